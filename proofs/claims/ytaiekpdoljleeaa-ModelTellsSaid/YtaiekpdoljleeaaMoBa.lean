/- ModelBack's walk: any model, any bytes: true; nothing that was there is written. No condition. -/
import Derived.Test.YtaiekpdoljleeaaMoAw
namespace Go.Proofs.Ytaiekpdoljleeaa
open Go.RowKit Go.WideShapes
set_option linter.unusedVariables false
set_option linter.unusedSimpArgs false
theorem pt_ok {t : Pt} (h : PtIn t) : t.ok := by
  obtain ⟨h0, _, h1, h2, h3, h4, h5, h6⟩ := h
  unfold okK at h0
  simp at h0
  refine ⟨?_, ?_, ?_, ?_, ?_, ?_, ?_, ?_, ?_, ?_, ?_, ?_, ?_, ?_⟩ <;> omega
theorem bytes_bd {d : Md} (h : rightM d = 0) : (bytesM d).length ≤ 9000 := by
  have h1 := (okM_iff d).1 (rightM_zero h).1
  obtain ⟨_, h3, _, _⟩ := right_zero (rightM_zero h).2
  have h2 := flatP_length d.ts
  unfold bytesM
  simp only [List.length_append, List.length_cons, List.length_nil, two]
  omega
theorem two_oct (n : Nat) (h : n ≤ 65535) : Oct (two n) := fun x hx => by
  simp only [two, List.mem_cons, List.not_mem_nil, or_false] at hx
  rcases hx with rfl | rfl <;> omega
theorem octP_oct {t : Pt} (h : PtIn t) : Oct (octP t) := fun x hx => by
  unfold octP at hx
  rcases List.mem_cons.1 hx with rfl | hx
  · have := pt_ok h
    exact ⟨this.k0, this.k1⟩
  · obtain ⟨j, hj, hx⟩ := List.mem_flatMap.1 hx
    have := part_field h hj
    unfold fB at hx
    cases hw : wide j with
    | true =>
      rw [hw] at hx
      simp at hx
      omega
    | false =>
      rw [hw] at hx
      have h2 := this.2.2 hw
      simp at hx
      omega
theorem bytes_oct {d : Md} (h : rightM d = 0) (hc : Oct d.code) (hp : Oct d.post) : Oct (bytesM d) := by
  have h1 := (okM_iff d).1 (rightM_zero h).1
  obtain ⟨_, h3, _, _⟩ := right_zero (rightM_zero h).2
  have hin := ptIn_all h
  refine Oct.append (Oct.append (Oct.append ?_ ?_) (Oct.append (two_oct _ (by omega)) hc)) (Oct.append (two_oct _ (by omega)) hp)
  · intro x hx
    simp only [List.mem_cons, List.not_mem_nil, or_false] at hx
    rcases hx with rfl | rfl | rfl | rfl | rfl <;> omega
  · intro x hx
    obtain ⟨t, ht, hx⟩ := List.mem_flatMap.1 hx
    exact octP_oct (hin t ht) x hx
/-- What bytes say: what the statements ask of it. -/
theorem get_kind (bs : List Int) (ho : Oct bs) : (getM bs).2.2 ≠ 0 ∨ ∃ (d : Md) (k : Nat), getM bs = (d, (k : Int), 0) ∧ rightM d = 0 ∧ k ≤ bs.length ∧ bytesM d = bs.take k := by
  by_cases h : (getM bs).2.2 = 0
  · right
    rcases hg : getM bs with ⟨d, n, e⟩
    rw [hg] at h
    simp only at h
    subst h
    obtain ⟨h1, k, rfl, h2, h3⟩ := put_get bs d n ho hg
    exact ⟨d, k, rfl, h1, h2, h3⟩
  · exact .inl h
set_option maxRecDepth 100000 in
set_option maxHeartbeats 16000000 in
theorem back9 (d : Md) (A B D : Option Addr) (c cc cp : Nat) (bs : List Int) (E : Option Addr) (nb cb : Nat) (w : World) (hok : ∀ t ∈ d.ts, t.ok) (hm : MdR d A B D w) (hoc : Oct d.code) (hop : Oct d.post) (hnb : nb = bs.length) (hnc : nb ≤ cb) (hcb : cb ≤ 9223372036854775807) (ho : Oct bs) (hr : Rd w E (octs bs)) (hl1 : d.ts.length ≤ 9223372036854775807) (hl2 : d.code.length ≤ 9223372036854775807) (hl3 : d.post.length ≤ 9223372036854775807) :
    Calls Try.prog 9 #[d.val A B D c cc cp, .slice E nb cb] w (Quiet (.bool true) w) := by
  have HOK := Lib.hid hok
  have HMR := Lib.hid hm
  have HNB := Lib.hid hnb
  have HO := Lib.hid ho
  have HR := Lib.hid hr
  have HOC := Lib.hid hoc
  have HOP := Lib.hid hop
  clear hok hm hnb ho hr hoc hop
  unfold Md.val mdV
  obtain ⟨n, hn⟩ : ∃ n, d.ts.length = n := ⟨_, rfl⟩
  obtain ⟨nc, hnc2⟩ : ∃ n, d.code.length = n := ⟨_, rfl⟩
  obtain ⟨np, hnp⟩ : ∃ n, d.post.length = n := ⟨_, rfl⟩
  rw [hn] at hl1 ⊢
  rw [hnc2] at hl2 ⊢
  rw [hnp] at hl3 ⊢
  have HN := Lib.hid hn.symm
  have HNC := Lib.hid hnc2.symm
  have HNP := Lib.hid hnp.symm
  have HX0 := Lib.hid (Blk.new w 58 #[.int .i64 d.h, .int .i64 d.m, .int .i64 d.ph, .int .i64 d.pm, .slice A n c, .slice B nc cc, .slice D np cp])
  clear hn hnc2 hnp
  by_cases g1 : 300 < n
  · have qg1 : decide ((300 : Int) < (n : Int)) = true := by simp; omega
    go_enter Try.func9, Try.ntmps9
    go_wp2_with fail
    refine (awake33 _).mono ?_
    rintro e w1 ⟨rfl, hb1⟩
    have B1 := Lib.hid (((Below.refl w.heap.size w).alloc (Nat.le_refl _) _).trans (hb1.mono (by simp)))
    clear hb1
    go_wp2_with fail
    go_ret
    exact ⟨rfl, B1.out⟩
  · have qg1 : decide ((300 : Int) < (n : Int)) = false := by simp; omega
    by_cases g2 : 10000 < nc
    · have qg2 : decide ((10000 : Int) < (nc : Int)) = true := by simp; omega
      go_enter Try.func9, Try.ntmps9
      go_wp2_with fail
      refine (awake33 _).mono ?_
      rintro e w1 ⟨rfl, hb1⟩
      have B1 := Lib.hid (((Below.refl w.heap.size w).alloc (Nat.le_refl _) _).trans (hb1.mono (by simp)))
      clear hb1
      go_wp2_with fail
      go_ret
      exact ⟨rfl, B1.out⟩
    · have qg2 : decide ((10000 : Int) < (nc : Int)) = false := by simp; omega
      by_cases g3 : 10000 < np
      · have qg3 : decide ((10000 : Int) < (np : Int)) = true := by simp; omega
        go_enter Try.func9, Try.ntmps9
        go_wp2_with fail
        refine (awake33 _).mono ?_
        rintro e w1 ⟨rfl, hb1⟩
        have B1 := Lib.hid (((Below.refl w.heap.size w).alloc (Nat.le_refl _) _).trans (hb1.mono (by simp)))
        clear hb1
        go_wp2_with fail
        go_ret
        exact ⟨rfl, B1.out⟩
      · have qg3 : decide ((10000 : Int) < (np : Int)) = false := by simp; omega
        by_cases g4 : 20000 < nb
        · have qg4 : decide ((20000 : Int) < (nb : Int)) = true := by simp; omega
          go_enter Try.func9, Try.ntmps9
          go_wp2_with fail
          refine (awake33 _).mono ?_
          rintro e w1 ⟨rfl, hb1⟩
          have B1 := Lib.hid (((Below.refl w.heap.size w).alloc (Nat.le_refl _) _).trans (hb1.mono (by simp)))
          clear hb1
          go_wp2_with fail
          go_ret
          exact ⟨rfl, B1.out⟩
        · have qg4 : decide ((20000 : Int) < (nb : Int)) = false := by simp; omega
          by_cases hright : rightM d = 0
          · have hbd := bytes_bd hright
            have hob := bytes_oct hright HOC.out HOP.out
            have hput := fun W (hW : Below w.heap.size w W) => put35_yes d A B D n c nc cc np cp W HN.out HNC.out HNP.out HOK.out (HMR.out.p.below hW rfl) (HMR.out.c.below hW rfl) (HMR.out.q.below hW rfl) hright
            have hget := get_put d bs hright
            have hcut := fun i hi => get_cut d i hright hi
            obtain ⟨X, hX⟩ : ∃ X, bytesM d = X := ⟨_, rfl⟩
            rw [hX] at hbd hob hget
            simp only [hX] at hput hcut
            obtain ⟨LX, hLX⟩ : ∃ l, X.length = l := ⟨_, rfl⟩
            rw [hLX] at hbd hget
            simp only [hLX] at hcut
            have HPUT := Lib.hid hput
            have HGET := Lib.hid hget
            have HCUT := Lib.hid hcut
            have HLX := Lib.hid hLX.symm
            have HOB := Lib.hid hob
            clear hput hget hcut hLX hob hX hright
            go_enter Try.func9, Try.ntmps9
            go_wp2_with fail
            refine (HPUT.out _ ((Below.refl _ _).alloc (Nat.le_refl _) _)).mono ?_
            rintro e w1 ⟨⟨A1, c1, rfl, hc1, o1⟩, hb1⟩
            rw [← HLX.out] at o1 hc1 ⊢
            have hcap1 := own_cap o1
            have R1 := Lib.hid (Rd.of_own o1)
            have X1 := Lib.hid (HX0.out.below hb1)
            have B1 := Lib.hid (((Below.refl w.heap.size w).alloc (Nat.le_refl _) (.cells #[.int .i64 d.h, .int .i64 d.m, .int .i64 d.ph, .int .i64 d.pm, .slice A n c, .slice B nc cc, .slice D np cp] 58)).trans (hb1.mono (by simp)))
            clear hb1 o1
            go_wp2_with fail
            refine (copyB X A1 LX c1 w1 HLX.out R1.out (by omega)).mono ?_
            rintro e w2 ⟨⟨A2, c2, rfl, hc2, o2⟩, hb2⟩
            have B2 := Lib.hid (ch0 B1.out hb2)
            have LB2 := Lib.hid hb2
            have O2 := Lib.hid o2
            clear o2 hb2
            go_wp2_with (at_builtin; refine wpList_app tBytes rfl (.tmp 50) (.tmp 51) rfl w1.heap.size _ LX _ rfl O2.out E nb cb (octs bs) rfl (by rw [octs_length]; exact HNB.out) (HR.out.below B2.out rfl) (octs_one _) (by omega) (by unfold maxLen; omega) LB2.out.size ?_; intro v3 w3 o3 hg3 hb3; obtain ⟨A3, c3, rfl, hc3⟩ := own_slice o3; have hcap3 := own_cap o3; have hb3' := LB2.out.trans hb3; have R3 := Lib.hid (Rd.of_own o3); have R13 := Lib.hid (R1.out.below hb3' rfl); have X3 := Lib.hid (X1.out.below hb3'); have B3 := Lib.hid (ch0 B1.out hb3'); clear o3 hg3 hb3 hb3')
            have hget := get37 (X ++ bs) A3 (LX + nb) c3 w3 (by rw [List.length_append, ← HLX.out, ← HNB.out]) hc3 (by rw [octs_append]; exact R3.out) (HOB.out.append HO.out) (by omega) hcap3
            rw [HGET.out] at hget
            have HG := Lib.hid hget
            clear hget
            go_wp2_with fail
            refine HG.out.mono ?_
            rintro e w4 ⟨⟨A4, B4, D4, c4, cc4, cp4, rfl, hc4, p4, o4, z4⟩, hb4⟩
            have M4 : Hid (MdR d A4 B4 D4 w4) := Lib.hid ⟨p4, Rd.of_own o4, Rd.of_own z4⟩
            have R14 := Lib.hid (R13.out.below hb4 rfl)
            have hx4 := X3.out.below hb4
            have B4' := Lib.hid (ch0 B3.out hb4)
            have k0 := hx4.cell 0
            have k1 := hx4.cell 1
            have k2 := hx4.cell 2
            have k3 := hx4.cell 3
            have k4 := hx4.cell 4
            have k5 := hx4.cell 5
            have k6 := hx4.cell 6
            have klt := hx4.lt
            simp at k0 k1 k2 k3 k4 k5 k6
            have hsm := fun W (hW : Below w4.heap.size w4 W) => same41 d A4 B4 D4 A B D c4 cc4 cp4 c cc cp W (M4.out.below hW) (HMR.out.below (ch0 B4'.out hW)) (by have := HN.out; omega) (by have := HNC.out; omega) (by have := HNP.out; omega)
            unfold Md.val mdV at hsm
            simp only [← HN.out, ← HNC.out, ← HNP.out] at hsm
            have HSM := Lib.hid hsm
            clear p4 o4 z4 hb4 hx4 hsm hc4
            unfold mdV
            simp only [← HN.out, ← HNC.out, ← HNP.out]
            go_wp2_with fail
            refine (HSM.out _ ((Below.refl _ _).alloc (Nat.le_refl _) _)).mono ?_
            rintro e w5 ⟨rfl, hb5⟩
            have R15 := Lib.hid ((R14.out.alloc (.cells #[.int .i64 d.h, .int .i64 d.m, .int .i64 d.ph, .int .i64 d.pm, .slice A4 n c4, .slice B4 nc cc4, .slice D4 np cp4] 58)).below hb5 rfl)
            have B5 := Lib.hid (ch1 B4'.out hb5)
            clear hb5 k0 k1 k2 k3 k4 k5 k6 klt
            go_wp2_with fail
            go_loopw [10] (fun i wr => ∃ j : Nat, j ≤ 9500 ∧ i = .int .i64 j ∧ Below w5.heap.size w5 wr) (fun i _ => LX - (intOf i).toNat)
            case atStart => exact ⟨0, by omega, rfl, Below.refl _ _⟩
            case round =>
              obtain ⟨j, hj, rfl, hb⟩ := hrel
              have HB := Lib.hid hb
              clear hb
              by_cases hlt : j < LX
              · have hgt := get37 (X.take j) A1 j c1 wr (by rw [List.length_take, ← HLX.out]; omega) (by omega) (by have h := (R15.out.below HB.out rfl).take j; rwa [show (octs X).take j = octs (X.take j) by unfold octs; rw [List.map_take]] at h) (HOB.out.take j) (by omega) hcap1
                rw [HCUT.out j hlt] at hgt
                have HGT := Lib.hid hgt
                clear hgt
                go_wp2_with fail
                refine HGT.out.mono ?_
                rintro e w6 ⟨⟨A6, B6, D6, c6, cc6, cp6, rfl, _, _, _, _⟩, hb6⟩
                have B6' := Lib.hid (ch0 HB.out hb6)
                clear hb6
                unfold mdV
                simp only
                go_wp2_with fail
                go_roundw
                case rel => exact ⟨j + (1 + LX / 50), by omega, by go_num, B6'.out.alloc B6'.out.size _⟩
                case measure => simp [intOf]; omega
              · have hge : decide ((j : Int) < (LX : Int)) = false := by simp; omega
                have BW := Lib.hid (ch0 B5.out HB.out)
                go_wp2_with fail
                refine (get37 bs E nb cb wr HNB.out hnc (HR.out.below BW.out rfl) HO.out (by omega) hcb).mono ?_
                rcases get_kind bs HO.out with hno | ⟨p, q, hg, hrp, hq, hbp⟩
                · obtain ⟨r, hr⟩ : ∃ r, getM bs = r := ⟨_, rfl⟩
                  rw [hr] at hno ⊢
                  obtain ⟨p, q, x⟩ := r
                  simp only at hno
                  have q9 : (x == 0) = false := by simpa using hno
                  rintro e w20 ⟨⟨A20, B20, D20, c20, cc20, cp20, rfl, _, _, _, _⟩, hb20⟩
                  have B20' := Lib.hid (ch0 BW.out hb20)
                  clear hr hno hb20
                  unfold mdV
                  simp only
                  go_wp2_with fail
                  refine (awake33 _).mono ?_
                  rintro e w21 ⟨rfl, hb21⟩
                  have B21 := Lib.hid (ch1 B20'.out hb21)
                  clear hb21
                  go_wp2_with fail
                  go_ret
                  exact ⟨rfl, B21.out⟩
                · rw [hg]
                  rintro e w20 ⟨⟨A20, B20, D20, c20, cc20, cp20, rfl, hc20, p20, o20, z20⟩, hb20⟩
                  have B20' := Lib.hid (ch0 BW.out hb20)
                  have R20 := Lib.hid (Rd.below (((HR.out.below BW.out rfl))) hb20 rfl)
                  have hput := fun W (hW : Below w20.heap.size w20 W) => put35_yes p A20 B20 D20 p.ts.length c20 p.code.length cc20 p.post.length cp20 W rfl rfl rfl (fun t ht => pt_ok (ptIn_all hrp t ht)) (p20.below hW rfl) ((Rd.of_own o20).below hW rfl) ((Rd.of_own z20).below hW rfl) hrp
                  rw [hbp] at hput
                  have HPUT := Lib.hid hput
                  have hlq : (bs.take q).length = q := by rw [List.length_take]; omega
                  have HLQ := Lib.hid hlq
                  have HOT := Lib.hid hq
                  have hqb : q ≤ nb := by have := HNB.out; omega
                  clear hg hrp hbp hq p20 o20 z20 hb20 hput hlq
                  unfold mdV at *
                  simp only at *
                  generalize p.ts.length = l1 at *
                  generalize p.code.length = l2 at *
                  generalize p.post.length = l3 at *
                  go_wp2_with fail
                  refine (HPUT.out _ ((Below.refl _ _).alloc (Nat.le_refl _) _)).mono ?_
                  rintro e w21 ⟨⟨A21, c21, rfl, hc21, o21⟩, hb21⟩
                  rw [HLQ.out] at o21 ⊢
                  have R21 := Lib.hid (Rd.of_own o21)
                  have R21b := Lib.hid ((R20.out.alloc (.cells #[.int .i64 p.h, .int .i64 p.m, .int .i64 p.ph, .int .i64 p.pm, .slice A20 l1 c20, .slice B20 l2 cc20, .slice D20 l3 cp20] 58)).below hb21 rfl)
                  have B21 := Lib.hid (ch1 B20'.out hb21)
                  have qlt : decide ((nb : Int) < (q : Int)) = false := by simp; omega
                  clear o21 hb21
                  go_wp2_with fail
                  refine (sameB1 (bs.take q) A21 E q q c21 cb w21 HLQ.out.symm HLQ.out.symm R21.out (by have h := R21b.out.take q; rwa [show (octs bs).take q = octs (bs.take q) by unfold octs; rw [List.map_take]] at h) (by rw [HLQ.out]; omega)).mono ?_
                  rintro e w22 ⟨rfl, hb22⟩
                  have B22 := Lib.hid (ch0 B21.out hb22)
                  clear hb22
                  go_wp2_with fail
                  refine (awake33 _).mono ?_
                  rintro e w23 ⟨rfl, hb23⟩
                  have B23 := Lib.hid (ch0 B22.out hb23)
                  clear hb23
                  go_wp2_with fail
                  go_ret
                  exact ⟨rfl, B23.out⟩
          · go_enter Try.func9, Try.ntmps9
            go_wp2_with fail
            refine (put35_no d A B D n c nc cc np cp _ HN.out HNC.out HNP.out HOK.out (HMR.out.p.alloc _) (by omega) (by omega) (by omega) hright).mono ?_
            rintro e w1 ⟨rfl, hb1⟩
            have B1 := Lib.hid (((Below.refl w.heap.size w).alloc (Nat.le_refl _) (.cells #[.int .i64 d.h, .int .i64 d.m, .int .i64 d.ph, .int .i64 d.pm, .slice A n c, .slice B nc cc, .slice D np cp] 58)).trans (hb1.mono (by simp)))
            have q0 : (rightM d == 0) = false := by simpa using hright
            clear hb1
            obtain ⟨T, hT⟩ : ∃ T, rightM d = T := ⟨_, rfl⟩
            rw [hT] at q0 ⊢
            clear hT hright
            go_wp2_with fail
            refine (get37 bs E nb cb w1 HNB.out hnc (HR.out.below B1.out rfl) HO.out (by omega) hcb).mono ?_
            rcases get_kind bs HO.out with hno | ⟨p, q, hg, hrp, hq, hbp⟩
            · obtain ⟨r, hr⟩ : ∃ r, getM bs = r := ⟨_, rfl⟩
              rw [hr] at hno ⊢
              obtain ⟨p, q, x⟩ := r
              simp only at hno
              have q9 : (x == 0) = false := by simpa using hno
              rintro e w20 ⟨⟨A20, B20, D20, c20, cc20, cp20, rfl, _, _, _, _⟩, hb20⟩
              have B20' := Lib.hid (ch0 B1.out hb20)
              clear hr hno hb20
              unfold mdV
              simp only
              go_wp2_with fail
              refine (awake33 _).mono ?_
              rintro e w21 ⟨rfl, hb21⟩
              have B21 := Lib.hid (ch1 B20'.out hb21)
              clear hb21
              go_wp2_with fail
              go_ret
              exact ⟨rfl, B21.out⟩
            · rw [hg]
              rintro e w20 ⟨⟨A20, B20, D20, c20, cc20, cp20, rfl, hc20, p20, o20, z20⟩, hb20⟩
              have B20' := Lib.hid (ch0 B1.out hb20)
              have R20 := Lib.hid (Rd.below (((HR.out.below B1.out rfl))) hb20 rfl)
              have hput := fun W (hW : Below w20.heap.size w20 W) => put35_yes p A20 B20 D20 p.ts.length c20 p.code.length cc20 p.post.length cp20 W rfl rfl rfl (fun t ht => pt_ok (ptIn_all hrp t ht)) (p20.below hW rfl) ((Rd.of_own o20).below hW rfl) ((Rd.of_own z20).below hW rfl) hrp
              rw [hbp] at hput
              have HPUT := Lib.hid hput
              have hlq : (bs.take q).length = q := by rw [List.length_take]; omega
              have HLQ := Lib.hid hlq
              have HOT := Lib.hid hq
              have hqb : q ≤ nb := by have := HNB.out; omega
              clear hg hrp hbp hq p20 o20 z20 hb20 hput hlq
              unfold mdV at *
              simp only at *
              generalize p.ts.length = l1 at *
              generalize p.code.length = l2 at *
              generalize p.post.length = l3 at *
              go_wp2_with fail
              refine (HPUT.out _ ((Below.refl _ _).alloc (Nat.le_refl _) _)).mono ?_
              rintro e w21 ⟨⟨A21, c21, rfl, hc21, o21⟩, hb21⟩
              rw [HLQ.out] at o21 ⊢
              have R21 := Lib.hid (Rd.of_own o21)
              have R21b := Lib.hid ((R20.out.alloc (.cells #[.int .i64 p.h, .int .i64 p.m, .int .i64 p.ph, .int .i64 p.pm, .slice A20 l1 c20, .slice B20 l2 cc20, .slice D20 l3 cp20] 58)).below hb21 rfl)
              have B21 := Lib.hid (ch1 B20'.out hb21)
              have qlt : decide ((nb : Int) < (q : Int)) = false := by simp; omega
              clear o21 hb21
              go_wp2_with fail
              refine (sameB1 (bs.take q) A21 E q q c21 cb w21 HLQ.out.symm HLQ.out.symm R21.out (by have h := R21b.out.take q; rwa [show (octs bs).take q = octs (bs.take q) by unfold octs; rw [List.map_take]] at h) (by rw [HLQ.out]; omega)).mono ?_
              rintro e w22 ⟨rfl, hb22⟩
              have B22 := Lib.hid (ch0 B21.out hb22)
              clear hb22
              go_wp2_with fail
              refine (awake33 _).mono ?_
              rintro e w23 ⟨rfl, hb23⟩
              have B23 := Lib.hid (ch0 B22.out hb23)
              clear hb23
              go_wp2_with fail
              go_ret
              exact ⟨rfl, B23.out⟩
end Go.Proofs.Ytaiekpdoljleeaa
