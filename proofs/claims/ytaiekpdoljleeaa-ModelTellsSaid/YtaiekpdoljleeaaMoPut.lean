/- A right model put into bytes: the program's walk. -/
import Derived.Test.YtaiekpdoljleeaaMoPu
namespace Go.Proofs.Ytaiekpdoljleeaa
open Go.RowKit Go.WideShapes
set_option linter.unusedVariables false
set_option linter.unusedSimpArgs false
theorem shr8 (n : Int) (h0 : 0 ≤ n) (h1 : n ≤ 65535) : 0 ≤ n / 256 ∧ n / 256 ≤ 255 := by omega
/-- The two programs' bytes that are out behind k of them. -/
def segB (d : Md) (k : Nat) : List Int := if k = 0 then [] else if k = 1 then two d.code.length ++ d.code else (two d.code.length ++ d.code) ++ (two d.post.length ++ d.post)
theorem own_drewN {w : World} {b n k : Nat} {e : TypeId} {size : Nat} {v : Value} {xs : List Value} (h : w.ownsRow b e size v n xs) : (w.drewN k).ownsRow b e size v n xs := h
theorem fB_narrow {j : Nat} {x : Int} (h : wide j = false) : fB j x = [x] := by unfold fB; rw [h]; rfl
theorem fB_wide {j : Nat} {x : Int} (h : wide j = true) : fB j x = [x / 256, x % 256] := by unfold fB; rw [h]; rfl
set_option maxRecDepth 100000 in
set_option maxHeartbeats 16000000 in
theorem put35_yes (d : Md) (A B D : Option Addr) (n c nc cc np cp : Nat) (w : World) (hn : n = d.ts.length) (hnc : nc = d.code.length) (hnp : np = d.post.length) (hok : ∀ t ∈ d.ts, t.ok) (hr : Rd w A (flat_pts d.ts)) (hrc : Rd w B (octs d.code)) (hrp : Rd w D (octs d.post)) (hyes : rightM d = 0) :
    Calls Try.prog 35 #[mdV d.h d.m d.ph d.pm (.slice A n c) (.slice B nc cc) (.slice D np cp)] w (IsBytes (bytesM d) w) := by
  have ho := (okM_iff d).1 (rightM_zero hyes).1
  obtain ⟨r1, r2, r3, r4⟩ := right_zero (rightM_zero hyes).2
  have hin := ptIn_all hyes
  have hrt := fun W (h : Below w.heap.size w W) => right39 d A B D n c nc cc np cp W hn hnc hnp hok (hr.below h rfl) (by omega) (by omega) (by omega)
  simp only [hyes] at hrt
  have hpw := pw_le8 ho.1 ho.2.1
  have hb5 : bytesM d = headB d ++ d.ts.flatMap octP ++ segB d 2 := by simp [bytesM, headB, segB]
  have hhd : headB d = [d.h, d.m, d.ph, d.pm, (n : Int)] := by rw [hn]; rfl
  have hs1 : segB d 1 = segB d 0 ++ (two nc ++ d.code) := by rw [hnc]; simp [segB]
  have hs2 : segB d 2 = segB d 1 ++ (two np ++ d.post) := by rw [hnp]; simp [segB]
  have hfl := flatP_length d.ts
  rw [hb5]
  have HN := Lib.hid hn
  have HNC := Lib.hid hnc
  have HNP := Lib.hid hnp
  have HR := Lib.hid hr
  have HRC := Lib.hid hrc
  have HRP := Lib.hid hrp
  have HIN := Lib.hid hin
  have HRT := Lib.hid hrt
  have HHD := Lib.hid hhd
  have HS1 := Lib.hid hs1
  have HS2 := Lib.hid hs2
  have ln16 : n ≤ 16 := by omega
  have lc : nc ≤ 4096 := by omega
  have lp : np ≤ 4096 := by omega
  have hfl2 : (d.ts.flatMap octP).length ≤ 208 := by omega
  have HFL := Lib.hid hfl2
  have hseg0 : segB d 0 = [] := rfl
  have HS0 := Lib.hid hseg0
  clear hn hnc hnp hr hrc hrp hin hrt hhd hs1 hs2 hfl hfl2 hyes hok hb5 r1 r2 r3 r4 hseg0
  have hbx := fun W (h : Below w.heap.size w W) => (Blk.new w 58 #[.int .i64 d.h, .int .i64 d.m, .int .i64 d.ph, .int .i64 d.pm, .slice A n c, .slice B nc cc, .slice D np cp])
  obtain ⟨h, m, ph, pm, ts, code, post⟩ := d
  unfold mdV at *
  simp only at *
  obtain ⟨h0, h1, ph0, ph1, m0, m1, pm0, pm1, _, _, _, _⟩ := ho
  have HBX := Lib.hid (Blk.new w 58 #[.int .i64 h, .int .i64 m, .int .i64 ph, .int .i64 pm, .slice A n c, .slice B nc cc, .slice D np cp])
  clear hbx
  obtain ⟨HD, hHD⟩ : ∃ x, headB ⟨h, m, ph, pm, ts, code, post⟩ = x := ⟨_, rfl⟩
  rw [hHD] at HHD ⊢
  obtain ⟨SG, hSG⟩ : ∃ x, segB ⟨h, m, ph, pm, ts, code, post⟩ = x := ⟨_, rfl⟩
  rw [hSG] at HS0 HS1 HS2 ⊢
  clear hHD hSG
  obtain ⟨BS, hBS⟩ : ∃ x, HD ++ ts.flatMap octP ++ SG 2 = x := ⟨_, rfl⟩
  rw [hBS]
  have HBS := Lib.hid hBS
  clear hBS
  go_enter Try.func35, Try.ntmps35
  go_wp2_with fail
  refine (HRT.out _ ((Below.refl _ _).alloc (Nat.le_refl _) _)).mono ?_
  rintro e w1 ⟨rfl, hb1⟩
  have hbx1 := HBX.out.below hb1
  have c0 := hbx1.cell 0
  have c1 := hbx1.cell 1
  have c2 := hbx1.cell 2
  have c3 := hbx1.cell 3
  have c4 := hbx1.cell 4
  simp at c0 c1 c2 c3 c4
  have hlt1 : w.heap.size < w1.heap.size := hbx1.lt
  have HB1 := Lib.hid (((Below.refl w.heap.size w).alloc (Nat.le_refl _) _).trans (hb1.mono (by simp)))
  have HX1 := Lib.hid hbx1
  clear hb1 hbx1
  go_wp2_with fail
  go_loopw [5, 40] (fun v i wr => ∃ k : Nat, k ≤ n ∧ i = .int .i64 k ∧ OutB w1.heap.size (HD ++ (ts.take k).flatMap octP) v wr ∧ Below w1.heap.size w1 wr) (fun _ i _ => n - (intOf i).toNat)
  case atStart =>
    refine ⟨0, by omega, rfl, OutB.of (n := 5) ?_, (Below.refl _ _).alloc (Nat.le_refl _) _⟩
    rw [HHD.out]
    exact World.ownsRow_lit w1 #[.int .u8 h, .int .u8 m, .int .u8 ph, .int .u8 pm, .int .u8 n] 5 (Nat.le_refl _) (by simp [maxLen]) rfl
  case round =>
    obtain ⟨k, hk, rfl, hv, hb⟩ := hrel
    have HV := Lib.hid hv
    have HB := Lib.hid hb
    clear hv hb
    by_cases hlt : k < n
    · obtain ⟨t, b, o, ht, rfl, hat⟩ := pts_at ((HR.out.below HB1.out rfl).below HB.out rfl) (k := k) (by rw [← HN.out]; exact hlt)
      obtain ⟨d0, d1, d2, d3, d4, d5, d6⟩ : _ ∧ _ ∧ _ ∧ _ ∧ _ ∧ _ ∧ _ := ⟨hat.c0, hat.c1, hat.c2, hat.c3, hat.c4, hat.c5, hat.c6⟩
      have hti := HIN.out t (List.mem_of_getElem? ht)
      have hsn := flatP_snoc ht
      have hpf := fun j (hj : j ∈ fdsK t.k) => part_field hti hj
      have hok := hti.kind
      have hoct : octP t = [t.k] ++ fdsB t (fdsK t.k) := rfl
      have hfb := fdsB_length t
      have hfk := fdsK_length t.k
      have hfin := fun j (hj : j ∈ fdsK t.k) => fds_in hj
      have hml : (HD ++ (ts.take k).flatMap octP).length ≤ 213 := by
        have h1 := flatP_length (ts.take k)
        have h2 : (ts.take k).length ≤ k := List.length_take_le _ _
        rw [List.length_append, HHD.out]
        simp only [List.length_cons, List.length_nil]
        omega
      have ho := HV.out.own
      obtain ⟨pre, hpre⟩ : ∃ x, HD ++ (ts.take k).flatMap octP = x := ⟨_, rfl⟩
      have hnext : HD ++ (ts.take (k + 1)).flatMap octP = pre ++ octP t := by rw [hsn, ← hpre, List.append_assoc]
      rw [hpre] at ho hml
      obtain ⟨mm, hmm⟩ : ∃ x, pre.length = x := ⟨_, rfl⟩
      rw [hmm] at ho hml
      have HMM := Lib.hid hmm
      have hpb := Blk.new wr 32 t.cells.toArray
      have htc : t.cells.toArray = #[.int .u8 t.k, .int .i64 t.s, .int .i64 t.a, .int .i64 t.b, .int .i64 t.c, .int .i64 t.r, .int .i64 t.l] := rfl
      have HTC := Lib.hid htc
      have HPB := Lib.hid hpb
      have HNX := Lib.hid hnext
      have HOC := Lib.hid hoct
      have HPF := Lib.hid hpf
      have HFB := Lib.hid hfb
      have HFIN := Lib.hid hfin
      have HO := Lib.hid ho
      have HOK := Lib.hid hok
      have HBXr := Lib.hid ((Below.refl wr.heap.size wr).alloc (Nat.le_refl _) (.cells t.cells.toArray 32))
      clear hti hsn ht hat hpf hok hoct hfb hfin ho hpre hnext hpb hmm HV htc
      go_wp2_with (at_builtin; refine wpList_app1 tBytes rfl (.tmp 44) (.tmp 47) rfl w1.heap.size _ mm _ rfl (HO.out.alloc _) (.int .u8 t.k) rfl _ rfl (by simp) (by omega) (by unfold maxLen; omega) (by have := HB.out.size; simp; omega) ?_; intro v2 w2 o2 hg2 hb2)
      have hp2 := HPB.out.grown (HO.out.alloc _) (by decide) hg2
      have hq0 := hp2.cell 0
      have hlp := hp2.lt
      rw [HTC.out] at hq0
      simp at hq0
      have hfd := fields56 t.k wr.heap.size w2 hq0 hlp
      have HFD := Lib.hid hfd
      have HP2 := Lib.hid hp2
      have O2 := Lib.hid o2
      have B2 := Lib.hid hb2
      clear hg2 hfd hp2 o2 hb2
      go_wp2_with fail
      refine HFD.out.mono ?_
      rintro e w3 ⟨⟨F, rfl, hF⟩, hb3⟩
      obtain ⟨gb, rfl, hfb3⟩ := hF HOK.out
      rw [HOK.out]
      obtain ⟨l, hl⟩ : ∃ l, fdsK t.k = l := ⟨_, rfl⟩
      rw [hl] at hfb3 HPF HFIN HOC hfk ⊢
      have HP3 := Lib.hid (HP2.out.below hb3)
      have HF3 := Lib.hid hfb3
      have O3 := Lib.hid (own_below O2.out hb3)
      have B3 := Lib.hid ((B2.out.trans (hb3.mono (by have := HB.out.size; have := B2.out.size; simp at this; omega))))
      clear hb3 hfb3 hl hF
      go_wp2_with fail
      go_loopw [5, 55] (fun v i wr2 => ∃ j : Nat, j ≤ l.length ∧ i = .int .i64 j ∧ OutB w1.heap.size (pre ++ [t.k] ++ fdsB t (l.take j)) v wr2 ∧ Blk wr2 wr.heap.size 32 t.cells.toArray ∧ Blk wr2 gb 89 (flatF wr.heap.size l).toArray ∧ Below w1.heap.size w1 wr2) (fun _ i _ => l.length - (intOf i).toNat)
      case atStart =>
        refine ⟨0, by omega, rfl, OutB.of (n := mm + 1) ?_, HP3.out, HF3.out, ?_⟩
        · rw [octs_append, octs_append]; simpa [fdsB, octs] using O3.out
        · exact (HB.out.alloc HB.out.size _).trans B3.out
      case round =>
        obtain ⟨j, hj, rfl, hv, hp, hf, hb⟩ := hrel
        have HV := Lib.hid hv
        have HBb := Lib.hid hb
        clear hv hb
        by_cases hlt2 : j < l.length
        · obtain ⟨jj, hjj, f0, f1, f2⟩ := fdb_at hf hlt2
          obtain ⟨p0, p1, p2⟩ := HPF.out jj (List.mem_of_getElem? hjj)
          obtain ⟨i1, i6⟩ := HFIN.out jj (List.mem_of_getElem? hjj)
          have hcell := box_at hp i1 i6
          have hltp := hp.lt
          have hsn2 : fdsB t (l.take (j + 1)) = fdsB t (l.take j) ++ fB jj (t.get jj + moreF jj) := by
            rw [List.take_add_one, hjj]; exact fdsB_snoc t _ _
          have ho2 := HV.out.own
          have hml2 : (pre ++ [t.k] ++ fdsB t (l.take j)).length ≤ 240 := by
            have h1 := HFB.out (l.take j)
            have h2 : (l.take j).length ≤ j := List.length_take_le _ _
            simp only [List.length_append, List.length_cons, List.length_nil]
            have := HMM.out
            omega
          obtain ⟨pr2, hpr2⟩ : ∃ x, pre ++ [t.k] ++ fdsB t (l.take j) = x := ⟨_, rfl⟩
          rw [hpr2] at ho2 hml2
          obtain ⟨m2, hm2⟩ : ∃ x, pr2.length = x := ⟨_, rfl⟩
          rw [hm2] at ho2 hml2
          obtain ⟨N, hN⟩ : ∃ x, t.get jj = x := ⟨_, rfl⟩
          obtain ⟨M, hM⟩ : ∃ x, moreF jj = x := ⟨_, rfl⟩
          obtain ⟨W, hW⟩ : ∃ x, wide jj = x := ⟨_, rfl⟩
          rw [hN] at p0 p1 p2 hcell hsn2
          rw [hM] at p0 p1 p2 f2 hsn2
          rw [hW] at p2 f1
          have hnx2 : pre ++ [t.k] ++ fdsB t (l.take (j + 1)) = pr2 ++ fB jj (N + M) := by rw [hsn2, ← hpr2]; simp
          have HNX2 := Lib.hid hnx2
          have HWW := Lib.hid hW
          have HO2 := Lib.hid ho2
          have HP := Lib.hid hp
          have HF := Lib.hid hf
          clear hsn2 hpr2 hm2 hN hM hW hnx2 ho2 hjj HV hp hf
          cases W
          · have p2' := p2 rfl
            clear p2
            go_wp2_with fail
            go_quiet (fail)
            go_wp2_with (at_builtin; refine wpList_app1 tBytes rfl (.tmp 74) (.tmp 77) rfl w1.heap.size _ m2 _ rfl (own_drewN (HO2.out.alloc _)) (.int .u8 (N + M)) rfl _ rfl (by simp) (by omega) (by unfold maxLen; omega) (by have := HB.out.size; have := HBb.out.size; simp; omega) ?_; intro v5 w5 o5 hg5 hb5)
            have HP5 := Lib.hid (((HP.out.alloc _).drewN nq).grown (own_drewN (HO2.out.alloc _)) (by decide) hg5)
            have HF5 := Lib.hid (((HF.out.alloc _).drewN nq).grown (own_drewN (HO2.out.alloc _)) (by decide) hg5)
            have O5 := Lib.hid o5
            have B5 := Lib.hid ((below_drewN (HBb.out.alloc HBb.out.size _) nq).trans hb5)
            clear o5 hg5 hb5
            go_roundw
            case rel =>
              refine ⟨j + 1, by omega, by go_num, OutB.of (n := m2 + 1) ?_, HP5.out, HF5.out, B5.out⟩
              rw [HNX2.out, fB_narrow HWW.out, octs_append]
              exact O5.out
            case measure => simp [intOf]; omega
          · clear p2
            go_wp2_with fail
            go_quiet (fail)
            go_wp2_with (first
              | (at_builtin; refine wpList_app1 tBytes rfl (.tmp 68) (.tmp 72) rfl w1.heap.size _ m2 _ rfl (own_drewN (HO2.out.alloc _)) (.int .u8 ((N + M) / 256)) rfl _ rfl (by simp) (by omega) (by unfold maxLen; omega) (by have := HB.out.size; have := HBb.out.size; simp; omega) ?_; intro v5 w5 o5 hg5 hb5; have HP5 := Lib.hid (((HP.out.alloc _).drewN nq).grown (own_drewN (HO2.out.alloc _)) (by decide) hg5); have HF5 := Lib.hid (((HF.out.alloc _).drewN nq).grown (own_drewN (HO2.out.alloc _)) (by decide) hg5); have O5 := Lib.hid o5; have B5 := Lib.hid ((below_drewN (HBb.out.alloc HBb.out.size _) nq).trans hb5); clear o5 hg5 hb5)
              | (at_builtin; refine wpList_app1 tBytes rfl (.tmp 74) (.tmp 77) rfl w1.heap.size _ (m2 + 1) _ rfl O5.out (.int .u8 ((N + M) % 256)) rfl _ rfl (by simp) (by omega) (by unfold maxLen; omega) B5.out.size ?_; intro v6 w6 o6 hg6 hb6))
            have HP6 := Lib.hid (HP5.out.grown O5.out (by decide) hg6)
            have HF6 := Lib.hid (HF5.out.grown O5.out (by decide) hg6)
            have O6 := Lib.hid o6
            have B6 := Lib.hid (B5.out.trans hb6)
            clear o6 hg6 hb6
            go_roundw
            case rel =>
              refine ⟨j + 1, by omega, by go_num, OutB.of (n := m2 + 1 + 1) ?_, HP6.out, HF6.out, B6.out⟩
              rw [HNX2.out, fB_wide HWW.out, octs_append]
              have h6 := O6.out
              rw [List.append_assoc] at h6
              exact h6
            case measure => simp [intOf]; omega
        · obtain rfl : j = l.length := by omega
          rw [List.take_of_length_le (Nat.le_refl _)] at HV
          clear hp hf
          go_wp2_with fail
          go_roundw
          case rel =>
            refine ⟨k + 1, by omega, by go_num, ?_, HBb.out⟩
            rw [HNX.out, HOC.out, ← List.append_assoc]
            exact HV.out
          case measure => simp [intOf]; omega
    · obtain rfl : k = n := by omega
      have hv := HV.out
      rw [List.take_of_length_le (by rw [← HN.out]; omega)] at hv
      have hml : (HD ++ ts.flatMap octP).length ≤ 213 := by
        have := HFL.out
        rw [List.length_append, HHD.out]
        simp only [List.length_cons, List.length_nil]
        omega
      obtain ⟨pre, hpre⟩ : ∃ x, HD ++ ts.flatMap octP = x := ⟨_, rfl⟩
      rw [hpre] at hv hml
      have HPRE := Lib.hid hpre
      have hbx := HX1.out.below HB.out
      have c5 := hbx.cell 5
      have c6 := hbx.cell 6
      simp at c5 c6
      have HV2 := Lib.hid hv
      clear hv hpre HV c0 c1 c2 c3 c4 hbx
      have HBK0 := Lib.hid (Blk.new wr 37 #[.slice B nc cc, .slice D np cp])
      have HQ0 := Lib.hid (trivial : True)
      go_wp2_with fail
      go_loopw [5, 87] (fun v i wr3 => ∃ q : Nat, q ≤ 2 ∧ i = .int .i64 q ∧ OutB w1.heap.size (pre ++ SG q) v wr3 ∧ Blk wr3 wr.heap.size 37 #[.slice B nc cc, .slice D np cp] ∧ Below w1.heap.size w1 wr3) (fun _ i _ => 2 - (intOf i).toNat)
      case atStart =>
        refine ⟨0, by omega, rfl, ?_, HBK0.out, HB.out.alloc HB.out.size _⟩
        rw [HS0.out, List.append_nil]
        exact ⟨HV2.out.own.alloc _⟩
      case round =>
        obtain ⟨q, hq, rfl, hv3, hbk, hb3⟩ := hrel
        have k0 := hbk.cell 0
        have k1 := hbk.cell 1
        simp at k0 k1
        have HV3 := Lib.hid hv3
        have HBK := Lib.hid hbk
        have HB3 := Lib.hid hb3
        clear hv3 hbk hb3
        rcases (show q = 0 ∨ q = 1 ∨ q = 2 from by omega) with rfl | rfl | rfl
        · have hs0 := HQ0.out
          have ho := HV3.out.own
          obtain ⟨pr, hpr⟩ : ∃ x, pre ++ SG 0 = x := ⟨_, rfl⟩
          have hnx : pre ++ SG 1 = pr ++ (two nc ++ code) := by rw [HS1.out, ← hpr, List.append_assoc]
          rw [hpr] at ho
          have hmp : pr.length ≤ 213 := by
            rw [← hpr, List.length_append, HS0.out]
            simp only [List.length_nil, List.length_append, List.nil_append, two, List.length_cons]
            omega
          obtain ⟨m3, hm3⟩ : ∃ x, pr.length = x := ⟨_, rfl⟩
          rw [hm3] at ho hmp
          have HO := Lib.hid ho
          have HNX := Lib.hid hnx
          clear hpr hm3 ho hnx hs0
          go_wp2_with (first
            | (at_builtin; refine wpList_lit tBytes rfl (.tmp 91) (.tmp 99) rfl w1.heap.size _ m3 _ rfl HO.out [.int .u8 ((nc : Int) / 256), .int .u8 ((nc : Int) % 256)] (by intro u hu; simp at hu; rcases hu with rfl | rfl <;> rfl) 2 rfl _ rfl rfl (by omega) (by unfold maxLen; omega) HB3.out.size ?_; intro v5 w5 o5 hg5 _ hb5; have HBK5 := Lib.hid (HBK.out.grown HO.out (by decide) hg5); have O5 := Lib.hid o5; have B5 := Lib.hid (HB3.out.trans hb5); clear o5 hg5 hb5)
            | (at_builtin; refine wpList_app tBytes rfl (.tmp 101) (.tmp 102) rfl w1.heap.size _ (m3 + 2) _ rfl O5.out B nc cc (octs code) rfl (by rw [octs_length]; exact HNC.out) ((HRC.out.below HB1.out rfl).below B5.out rfl) (octs_one _) (by omega) (by unfold maxLen; omega) B5.out.size ?_; intro v6 w6 o6 hg6 hb6))
          have HBK6 := Lib.hid (HBK5.out.grown O5.out (by decide) hg6)
          have O6 := Lib.hid o6
          have B6 := Lib.hid (B5.out.trans hb6)
          clear o6 hg6 hb6
          go_roundw
          case rel =>
            refine ⟨1, by omega, rfl, OutB.of (n := m3 + 2 + nc) ?_, HBK6.out, B6.out⟩
            rw [HNX.out, octs_append, octs_append, ← List.append_assoc]
            exact O6.out
          case measure => simp [intOf]
        · have hs0 := HQ0.out
          have ho := HV3.out.own
          obtain ⟨pr, hpr⟩ : ∃ x, pre ++ SG 1 = x := ⟨_, rfl⟩
          have hnx : pre ++ SG 2 = pr ++ (two np ++ post) := by rw [HS2.out, ← hpr, List.append_assoc]
          rw [hpr] at ho
          have hmp : pr.length ≤ 4311 := by
            rw [← hpr, List.length_append, HS1.out, HS0.out]
            simp only [List.length_nil, List.length_append, List.nil_append, two, List.length_cons]
            have := HNC.out; omega
          obtain ⟨m3, hm3⟩ : ∃ x, pr.length = x := ⟨_, rfl⟩
          rw [hm3] at ho hmp
          have HO := Lib.hid ho
          have HNX := Lib.hid hnx
          clear hpr hm3 ho hnx hs0
          go_wp2_with (first
            | (at_builtin; refine wpList_lit tBytes rfl (.tmp 91) (.tmp 99) rfl w1.heap.size _ m3 _ rfl HO.out [.int .u8 ((np : Int) / 256), .int .u8 ((np : Int) % 256)] (by intro u hu; simp at hu; rcases hu with rfl | rfl <;> rfl) 2 rfl _ rfl rfl (by omega) (by unfold maxLen; omega) HB3.out.size ?_; intro v5 w5 o5 hg5 _ hb5; have HBK5 := Lib.hid (HBK.out.grown HO.out (by decide) hg5); have O5 := Lib.hid o5; have B5 := Lib.hid (HB3.out.trans hb5); clear o5 hg5 hb5)
            | (at_builtin; refine wpList_app tBytes rfl (.tmp 101) (.tmp 102) rfl w1.heap.size _ (m3 + 2) _ rfl O5.out D np cp (octs post) rfl (by rw [octs_length]; exact HNP.out) ((HRP.out.below HB1.out rfl).below B5.out rfl) (octs_one _) (by omega) (by unfold maxLen; omega) B5.out.size ?_; intro v6 w6 o6 hg6 hb6))
          have HBK6 := Lib.hid (HBK5.out.grown O5.out (by decide) hg6)
          have O6 := Lib.hid o6
          have B6 := Lib.hid (B5.out.trans hb6)
          clear o6 hg6 hb6
          go_roundw
          case rel =>
            refine ⟨2, by omega, rfl, OutB.of (n := m3 + 2 + np) ?_, HBK6.out, B6.out⟩
            rw [HNX.out, octs_append, octs_append, ← List.append_assoc]
            exact O6.out
          case measure => simp [intOf]
        · go_wp2_with fail
          go_ret2
          have hfin := HV3.out.own
          rw [HPRE.out.symm, HBS.out] at hfin
          obtain ⟨A2, c2, rfl, hc2⟩ := own_slice hfin
          exact ⟨⟨A2, c2, rfl, hc2, own_base hfin HB1.out.size⟩, HB1.out.trans (HB3.out.mono HB1.out.size)⟩
end Go.Proofs.Ytaiekpdoljleeaa
