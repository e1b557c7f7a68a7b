/- The reference's match is looked for: walk. -/
import Derived.Test.YtnohfeaamfjimaaVrBrWh
import Derived.StillTailTactics
import Derived.IntWalk
namespace Go.Proofs.Ytnohfeaamfjimaa
open Go.RowKit Go.WideShapes
set_option linter.unusedVariables false
set_option linter.unusedSimpArgs false
set_option maxRecDepth 100000 in
set_option maxHeartbeats 4000000 in
theorem findR (B R o g5 m5 g6 m6 N : Nat) (h : Int) (s a q ptr len wh : Nat) (zs : List Value) (l S : List Int) (w : World) (hh0 : 0 ≤ h) (hh1 : h ≤ 4294967295) (s2 : s ≤ 16) (hN : 2 ^ s = N) (hN1 : 1 ≤ N) (hN2 : N ≤ 65536) (ha : placeI h 1 s = (a : Int)) (haN : a < N) (hlen : len ≤ 32) (hwh : wh ≤ 1000000000) (hqw : q ≤ wh) (hR : Row w R 74 zs) (hT : Row w g5 3 (ints l)) (hS : Row w g6 5 (octs S)) (hSl : S.length = N) (hq : l[a]? = some (q : Int)) (nR5 : ¬ R = g5) (nR6 : ¬ R = g6) (n56 : ¬ g5 = g6) (nBR : ¬ B = R) (nB5 : ¬ B = g5) (h1 : zs[o + 1]? = some (.int .i64 (s : Int))) (h7 : zs[o + 7]? = some (.int .u32 h)) (h12 : zs[o + 12]? = some (.slice (some ⟨g5, 0, none⟩) N m5)) (h13 : zs[o + 13]? = some (.slice (some ⟨g6, 0, none⟩) N m6)) (h14 : zs[o + 14]? = some (.int .i64 (ptr : Int))) (h15 : zs[o + 15]? = some (.int .i64 (len : Int))) (b3 : w.cell? ⟨B, 3, none⟩ = some (.int .i64 (wh : Int))) :
    Calls Try.prog 36 #[.pointer (some ⟨B, 0, none⟩), .pointer (some ⟨R, o, none⟩)] w (LrR (fun w' => Row w' R 74 ((zs.set (o + 14) (.int .i64 ((ptrF N q ptr len : Nat) : Int))).set (o + 15) (.int .i64 ((lenF S N q wh len : Nat) : Int))) ∧ Row w' g5 3 (ints (l.set a (wh : Int)))) (fun b => b = R ∨ b = g5) w) := by
  have HPW := Lib.hid (show ∀ W, Calls Try.prog 52 #[.int .i64 (s : Int)] W (Sam (.int .i64 (N : Int)) W) from fun W => hN ▸ powerR s W (by omega))
  have HPL := Lib.hid (show ∀ W, Calls Try.prog 54 #[.int .u32 h, .int .i64 1, .int .i64 (s : Int)] W fun e w' => e = .returned (.int .i64 (a : Int)) ∧ w' = W from fun W => ha ▸ (placeR h 1 s W hh0 hh1 (by omega) (by omega) s2).mono fun e w' h => ⟨h.1, h.2⟩)
  have z1 := hR.at h1
  have z7 := hR.at h7
  have z12 := hR.at h12
  have z13 := hR.at h13
  have z14 := hR.at h14
  have z15 := hR.at h15
  have sq := row_i hT hq
  have HR := Lib.hid hR
  have HT := Lib.hid hT
  have HS := Lib.hid hS
  have HF := Lib.hid (Frm.refl (fun b => b = R ∨ b = g5) w)
  have NR5 := Lib.hid nR5
  have NR6 := Lib.hid nR6
  have N56 := Lib.hid n56
  have NBR := Lib.hid nBR
  have NB5 := Lib.hid nB5
  have H12 := Lib.hid h12
  have H13 := Lib.hid h13
  have H14 := Lib.hid h14
  have H15 := Lib.hid h15
  have HQA := Lib.hid hq
  have HSL := Lib.hid hSl
  have hai : (a : Int) < N := by omega
  clear hR hT hS nR5 nR6 n56 nBR nB5 h1 h7 h12 h13 h14 h15 hq hN ha hh0 hh1 hSl
  go_enter Try.func36, Try.ntmps36
  go_wp2_with fail
  refine (HPW.out _).mono ?_
  rintro e w1 ⟨rfl, hs1⟩
  rw [hs1]
  clear hs1 w1
  go_upto_region 1 with fail
  go_quiet (exact Calls.quiet_of_same (HPL.out _))
  replace z12 : (w.drewN nq).cell? ⟨R, o + 12, none⟩ = some (.slice (some ⟨g5, 0, none⟩) N m5) := z12
  replace z13 : (w.drewN nq).cell? ⟨R, o + 13, none⟩ = some (.slice (some ⟨g6, 0, none⟩) N m6) := z13
  replace z14 : (w.drewN nq).cell? ⟨R, o + 14, none⟩ = some (.int .i64 (ptr : Int)) := z14
  replace z15 : (w.drewN nq).cell? ⟨R, o + 15, none⟩ = some (.int .i64 (len : Int)) := z15
  replace sq : (w.drewN nq).cell? ⟨g5, a, none⟩ = some (.int .i64 (q : Int)) := sq
  replace b3 : (w.drewN nq).cell? ⟨B, 3, none⟩ = some (.int .i64 (wh : Int)) := b3
  replace HR := Lib.hid (show Row (w.drewN nq) R 74 zs from HR.out)
  replace HT := Lib.hid (show Row (w.drewN nq) g5 3 (ints l) from HT.out)
  replace HS := Lib.hid (show Row (w.drewN nq) g6 5 (octs S) from HS.out)
  replace HF := Lib.hid (HF.out.drewN nq)
  clear z1 z7
  generalize w.drewN nq = w2 at *
  by_cases h0' : len = 0
  · by_cases hq0 : q = 0
    · have hqi : ((q : Nat) : Int) = 0 := by omega
      rw [show ((len : Nat) : Int) = 0 by omega] at z15
      rw [hqi] at sq
      clear hqi
      go_upto_region 7 with fail
      clear z13 z14 z15 sq
      have HR4 := HR
      have HT4 := HT
      have HF4 := HF
      refine wp_region_held_drew (S := (fun W : World => W.cell? ⟨R, o + 12, none⟩ = some (.slice (some ⟨g5, 0, none⟩) N m5) ∧ W.cell? ⟨B, 3, none⟩ = some (.int .i64 (wh : Int)))) (by kernel_rfl) ⟨z12, b3⟩ (fun hHeld => ?_)
      have rr := HR4.out.drew
      have rs := HT4.out.drew
      have hf := HF4.out.drew
      obtain ⟨w5, hwn⟩ : ∃ xq, w2.drew = xq := ⟨_, rfl⟩
      rw [hwn] at rr rs hf hHeld ⊢
      clear hwn
      have HR5 := Lib.hid rr
      have HT5 := Lib.hid rs
      have HF5 := Lib.hid hf
      have q9 := row_i rs HQA.out
      have zq9 := rs.frozen a
      clear rr rs hf
      refine tkz (i := 0) (d := 101) rfl rfl ?_
      simp only [Act.put, zzA, zzB, zzC]
      refine tkz (i := 1) (d := 102) rfl rfl ?_
      simp only [Act.put, zzA, zzB, zzC]
      refine tkz (i := 2) (d := 103) rfl rfl ?_
      simp only [Act.put, zzA, zzB, zzC]
      refine tkz (i := 3) (d := 104) rfl rfl ?_
      simp only [Act.put, zzA, zzB, zzC]
      refine tkz (i := 4) (d := 105) rfl rfl ?_
      simp only [Act.put, zzA, zzB, zzC]
      refine tkz (i := 5) (d := 106) rfl rfl ?_
      simp only [Act.put, zzA, zzB, zzC]
      refine tkz (i := 6) (d := 107) rfl rfl ?_
      simp only [Act.put, zzA, zzB, zzC]
      refine tkz (i := 7) (d := 108) rfl rfl ?_
      simp only [Act.put, zzA, zzB, zzC]
      refine tkz (i := 8) (d := 109) rfl rfl ?_
      simp only [Act.put, zzA, zzB, zzC]
      refine tkz (i := 9) (d := 110) rfl rfl ?_
      simp only [Act.put, zzA, zzB, zzC]
      refine rdz (i := 10) rfl (fun K hK => ?_)
      go_simp
      refine hK.out _ _ ⟨(World.cell?_setCell_far _ _ _ _ (fun h => NR5.out h.symm)).trans hHeld.1, (World.cell?_setCell_far _ _ _ _ (fun h => NB5.out h.symm)).trans hHeld.2⟩ (fun hHeld => ?_)
      clear hK K
      try simp only [Act.put, zzA, zzB, zzC]
      refine wpAnyH_done (by kernel_rfl) ?_ _
      go_wp2
      refine bodyPost_ret (v := .tuple #[]) (by simp [results, Try.results36, go_sem]) rfl ?_
      refine ⟨rfl, ⟨?_, HT5.out.seti HQA.out wh⟩, HF5.out.setCell (p := ⟨g5, a, none⟩) (fun _ => .inr rfl) _⟩
      rw [show ptrF N q ptr len = ptr from if_neg (fun h => h.2 hq0), show lenF S N q wh len = len from if_neg (fun h => h.2 hq0)]
      exact by rw [set_same (show (zs.set (o + 14) (.int .i64 (ptr : Int)))[o + 15]? = some (.int .i64 (len : Int)) from by rw [set_same H14.out]; exact H15.out), set_same H14.out]; exact HR5.out.far (p := ⟨g5, a, none⟩) NR5.out _
    · rw [show ((len : Nat) : Int) = 0 by omega] at z15
      have HZ := Lib.hid (show len = 0 from h0')
      clear h0'
      have hqi : ((q : Int) != 0) = true := by simpa using hq0
      have hN0 : ¬ N = 0 := by omega
      have f14 := HR.out.frozen (o + 14)
      obtain ⟨m, hm⟩ : ∃ m, q % N = m := ⟨_, rfl⟩
      have HPF := Lib.hid (show ptrF N q ptr len = m from (if_pos ⟨HZ.out, hq0⟩).trans hm)
      have e1t : (q : Int).tmod (N : Int) = (m : Int) := by rw [← hm]; exact tmod_nat q N
      clear hm
      obtain ⟨w3, hw3⟩ : ∃ W, w2.setCell ⟨R, o + 14, none⟩ (.int .i64 (m : Int)) = W := ⟨_, rfl⟩
      have HRL := Lib.hid (show Row w3 R 74 ((zs.set (o + 14) (.int .i64 (m : Int))).set (o + 15) (.int .i64 ((0 : Nat) : Int))) from by
        rw [set_same (show (zs.set (o + 14) (.int .i64 (m : Int)))[o + 15]? = some (.int .i64 ((0 : Nat) : Int)) from by rw [List.getElem?_set_ne (by omega)]; exact (show len = 0 from HZ.out) ▸ H15.out), ← hw3]
        exact HR.out.setv H14.out _)
      have HTL := Lib.hid (show Row w3 g5 3 (ints l) from hw3 ▸ HT.out.far (p := ⟨R, o + 14, none⟩) (fun h => NR5.out h.symm) (.int .i64 (m : Int)))
      have HSL2 := Lib.hid (show Row w3 g6 5 (octs S) from hw3 ▸ HS.out.far (p := ⟨R, o + 14, none⟩) (fun h => NR6.out h.symm) (.int .i64 (m : Int)))
      have HFL := Lib.hid (show Frm (fun b => b = R ∨ b = g5) w w3 from hw3 ▸ HF.out.setCell (p := ⟨R, o + 14, none⟩) (fun _ => .inl rfl) (.int .i64 (m : Int)))
      have HBL := Lib.hid (show w3.cell? ⟨B, 3, none⟩ = some (.int .i64 (wh : Int)) from by rw [← hw3]; exact (World.cell?_setCell_far _ _ _ _ (fun h => NBR.out h.symm)).trans b3)
      clear z13 b3
      go_upto_region 4 with fail
      go_wp2_with fail
      try rw [hw3]
      clear hw3 sq z12 z14 z15 f14 e1t hqi
      obtain ⟨K, hK⟩ : ∃ K, runK S N q wh 32 0 = K := ⟨_, rfl⟩
      have HK := Lib.hid hK
      have HLF := Lib.hid (show lenF S N q wh len = K from (if_pos ⟨HZ.out, hq0⟩).trans hK)
      clear hK
      go_loopg [] 33 (fun gk wr => ∃ k : Nat, k ≤ 32 ∧ gk = 33 - k ∧ runK S N q wh (32 - k) k = K ∧ Row wr R 74 ((zs.set (o + 14) (.int .i64 (m : Int))).set (o + 15) (.int .i64 (k : Int))) ∧ Row wr g5 3 (ints l) ∧ Row wr g6 5 (octs S) ∧ Frm (fun b => b = R ∨ b = g5) w wr ∧ wr.cell? ⟨B, 3, none⟩ = some (.int .i64 (wh : Int)))
      case atStart => exact ⟨0, by omega, rfl, HK.out, HRL.out, HTL.out, HSL2.out, HFL.out, HBL.out⟩
      case round =>
        obtain ⟨k, hk, hgk, hrun, hR, hT, hS, hF, b3⟩ := hrel
        clear HRL HTL HSL2 HFL HBL HR HT HS HF
        have hZ : o + 15 < zs.length := (List.getElem?_eq_some_iff.1 H15.out).1
        have h15 : ((zs.set (o + 14) (.int .i64 (m : Int))).set (o + 15) (.int .i64 (k : Int)))[o + 15]? = some (.int .i64 (k : Int)) := List.getElem?_set_self (by rw [List.length_set]; exact hZ)
        have z12 := hR.at (k := o + 12) (((List.getElem?_set_ne (by omega)).trans (List.getElem?_set_ne (by omega))).trans H12.out)
        have z13 := hR.at (k := o + 13) (((List.getElem?_set_ne (by omega)).trans (List.getElem?_set_ne (by omega))).trans H13.out)
        have z15 := hR.at h15
        have f15 := hR.frozen (o + 15)
        have H15K := Lib.hid h15
        have HR := Lib.hid hR
        have HS := Lib.hid hS
        have HT := Lib.hid hT
        have HF := Lib.hid hF
        have HRUN := Lib.hid hrun
        have HGK := Lib.hid hgk
        clear hR hT hF hgk hZ h15
        by_cases hlt : k < min 32 q
        · obtain ⟨i1, hi1⟩ : ∃ i, (q - k - 1) % N = i := ⟨_, rfl⟩
          obtain ⟨i2, hi2⟩ : ∃ i, (wh - k - 1) % N = i := ⟨_, rfl⟩
          have hi1n : i1 < N := by rw [← hi1]; exact Nat.mod_lt _ (by omega)
          have hi2n : i2 < N := by rw [← hi2]; exact Nat.mod_lt _ (by omega)
          have hi1i : (i1 : Int) < N := by omega
          have hi2i : (i2 : Int) < N := by omega
          obtain ⟨y1, hy1⟩ : ∃ y, S.getD i1 0 = y := ⟨_, rfl⟩
          obtain ⟨y2, hy2⟩ : ∃ y, S.getD i2 0 = y := ⟨_, rfl⟩
          have s1 : wr.cell? ⟨g6, i1, none⟩ = some (.int .u8 y1) := row_o hS (hy1 ▸ getD_some (by rw [HSL.out]; exact hi1n))
          have s2 : wr.cell? ⟨g6, i2, none⟩ = some (.int .u8 y2) := row_o hS (hy2 ▸ getD_some (by rw [HSL.out]; exact hi2n))
          have e3 := IntWalk.i64_in ((q : Int) - (k : Int)) (by omega)
          have e4 := IntWalk.i64_in ((q : Int) - (k : Int) - 1) (by omega)
          have e5 : ((q : Int) - (k : Int) - 1).tmod (N : Int) = (i1 : Int) := by rw [← hi1, show (q : Int) - (k : Int) - 1 = ((q - k - 1 : Nat) : Int) by omega]; exact tmod_nat _ _
          have e6 := IntWalk.i64_in ((wh : Int) - (k : Int)) (by omega)
          have e7 := IntWalk.i64_in ((wh : Int) - (k : Int) - 1) (by omega)
          have e8 : ((wh : Int) - (k : Int) - 1).tmod (N : Int) = (i2 : Int) := by rw [← hi2, show (wh : Int) - (k : Int) - 1 = ((wh - k - 1 : Nat) : Int) by omega]; exact tmod_nat _ _
          have hst : runK S N q wh (32 - k) k = if y1 = y2 then runK S N q wh (32 - (k + 1)) (k + 1) else k := by
            rw [show 32 - k = (32 - (k + 1)) + 1 by omega, runK, hi1, hi2, hy1, hy2]
            by_cases hyy : y1 = y2
            · rw [if_pos ⟨hlt, hyy⟩, if_pos hyy]
            · rw [if_neg (fun h => hyy h.2), if_neg hyy]
          rw [hst] at hrun
          have E3 := Lib.hid e3
          have E4 := Lib.hid e4
          have E5 := Lib.hid e5
          have E6 := Lib.hid e6
          have E7 := Lib.hid e7
          have E8 := Lib.hid e8
          have hk32 : (k : Int) < 32 := by omega
          have hkq : (k : Int) < q := by omega
          have hk40 : (k : Int) + 1 ≤ 1000 := by omega
          have HLT := Lib.hid hlt
          clear e3 e4 e5 e6 e7 e8 hst hi1 hi2 hy1 hy2 hS HRUN hlt
          by_cases hyy : y1 = y2
          · subst hyy
            rw [if_pos rfl] at hrun
            go_upto_region 5 with fail
            have e3 := E3.out
            have e4 := E4.out
            have e5 := E5.out
            have e6 := E6.out
            have e7 := E7.out
            have e8 := E8.out
            go_quiet (fail)
            clear e3 e4 e5 e6 e7 e8 s1 s2
            replace z12 : (wr.drewN nq).cell? ⟨R, o + 12, none⟩ = some (.slice (some ⟨g5, 0, none⟩) N m5) := z12
            replace z15 : (wr.drewN nq).cell? ⟨R, o + 15, none⟩ = some (.int .i64 (k : Int)) := z15
            replace f15 : (wr.drewN nq).frozen? ⟨R, o + 15, none⟩ = false := f15
            replace b3 : (wr.drewN nq).cell? ⟨B, 3, none⟩ = some (.int .i64 (wh : Int)) := b3
            replace HR := Lib.hid (show Row (wr.drewN nq) R 74 ((zs.set (o + 14) (.int .i64 (m : Int))).set (o + 15) (.int .i64 (k : Int))) from HR.out)
            replace HS := Lib.hid (show Row (wr.drewN nq) g6 5 (octs S) from HS.out)
            replace HT := Lib.hid (show Row (wr.drewN nq) g5 3 (ints l) from HT.out)
            replace HF := Lib.hid (HF.out.drewN nq)
            clear z13
            generalize wr.drewN nq = w4 at *
            go_wp2
            go_roundg (33 - (k + 1))
            case measure =>
              have := HGK.out
              omega
            case rel => exact ⟨k + 1, by omega, rfl, hrun, by have := HR.out.setv H15K.out (.int .i64 ((k : Int) + 1)); rw [List.set_set] at this; exact this, HT.out.far (p := ⟨R, o + 15, none⟩) (fun h => NR5.out h.symm) _, HS.out.far (p := ⟨R, o + 15, none⟩) (fun h => NR6.out h.symm) _, HF.out.setCell (p := ⟨R, o + 15, none⟩) (fun _ => .inl rfl) _, (World.cell?_setCell_far _ _ _ _ (fun h => NBR.out h.symm)).trans b3⟩
          · rw [if_neg hyy] at hrun
            have hyb : (y1 == y2) = false := by simpa using hyy
            have HEX := Lib.hid hrun
            clear hrun hyy
            go_upto_region 5 with fail
            have e3 := E3.out
            have e4 := E4.out
            have e5 := E5.out
            have e6 := E6.out
            have e7 := E7.out
            have e8 := E8.out
            go_quiet (fail)
            clear e3 e4 e5 e6 e7 e8 s1 s2
            replace z12 : (wr.drewN nq).cell? ⟨R, o + 12, none⟩ = some (.slice (some ⟨g5, 0, none⟩) N m5) := z12
            replace z15 : (wr.drewN nq).cell? ⟨R, o + 15, none⟩ = some (.int .i64 (k : Int)) := z15
            replace f15 : (wr.drewN nq).frozen? ⟨R, o + 15, none⟩ = false := f15
            replace b3 : (wr.drewN nq).cell? ⟨B, 3, none⟩ = some (.int .i64 (wh : Int)) := b3
            replace HR := Lib.hid (show Row (wr.drewN nq) R 74 ((zs.set (o + 14) (.int .i64 (m : Int))).set (o + 15) (.int .i64 (k : Int))) from HR.out)
            replace HS := Lib.hid (show Row (wr.drewN nq) g6 5 (octs S) from HS.out)
            replace HT := Lib.hid (show Row (wr.drewN nq) g5 3 (ints l) from HT.out)
            replace HF := Lib.hid (HF.out.drewN nq)
            clear z13
            generalize wr.drewN nq = w4 at *
            clear f15 z15
            have HR4 := HR
            have HT4 := HT
            have HF4 := HF
            go_upto_region 7 with fail
            refine wp_region_held_drew (S := (fun W : World => W.cell? ⟨R, o + 12, none⟩ = some (.slice (some ⟨g5, 0, none⟩) N m5) ∧ W.cell? ⟨B, 3, none⟩ = some (.int .i64 (wh : Int)))) (by kernel_rfl) ⟨z12, b3⟩ (fun hHeld => ?_)
            have rr := HR4.out.drew
            have rs := HT4.out.drew
            have hf := HF4.out.drew
            obtain ⟨w5, hwn⟩ : ∃ xq, w4.drew = xq := ⟨_, rfl⟩
            rw [hwn] at rr rs hf hHeld ⊢
            clear hwn
            have HR5 := Lib.hid rr
            have HT5 := Lib.hid rs
            have HF5 := Lib.hid hf
            have q9 := row_i rs HQA.out
            have zq9 := rs.frozen a
            clear rr rs hf
            refine tkz (i := 0) (d := 101) rfl rfl ?_
            simp only [Act.put, zzA, zzB, zzC]
            refine tkz (i := 1) (d := 102) rfl rfl ?_
            simp only [Act.put, zzA, zzB, zzC]
            refine tkz (i := 2) (d := 103) rfl rfl ?_
            simp only [Act.put, zzA, zzB, zzC]
            refine tkz (i := 3) (d := 104) rfl rfl ?_
            simp only [Act.put, zzA, zzB, zzC]
            refine tkz (i := 4) (d := 105) rfl rfl ?_
            simp only [Act.put, zzA, zzB, zzC]
            refine tkz (i := 5) (d := 106) rfl rfl ?_
            simp only [Act.put, zzA, zzB, zzC]
            refine tkz (i := 6) (d := 107) rfl rfl ?_
            simp only [Act.put, zzA, zzB, zzC]
            refine tkz (i := 7) (d := 108) rfl rfl ?_
            simp only [Act.put, zzA, zzB, zzC]
            refine tkz (i := 8) (d := 109) rfl rfl ?_
            simp only [Act.put, zzA, zzB, zzC]
            refine tkz (i := 9) (d := 110) rfl rfl ?_
            simp only [Act.put, zzA, zzB, zzC]
            refine rdz (i := 10) rfl (fun K hK => ?_)
            go_simp
            refine hK.out _ _ ⟨(World.cell?_setCell_far _ _ _ _ (fun h => NR5.out h.symm)).trans hHeld.1, (World.cell?_setCell_far _ _ _ _ (fun h => NB5.out h.symm)).trans hHeld.2⟩ (fun hHeld => ?_)
            clear hK K
            try simp only [Act.put, zzA, zzB, zzC]
            refine wpAnyH_done (by kernel_rfl) ?_ _
            go_wp2
            refine bodyPost_ret (v := .tuple #[]) (by simp [results, Try.results36, go_sem]) rfl ?_
            refine ⟨rfl, ⟨?_, HT5.out.seti HQA.out wh⟩, HF5.out.setCell (p := ⟨g5, a, none⟩) (fun _ => .inr rfl) _⟩
            rw [HPF.out, HLF.out, ← HEX.out]
            exact HR5.out.far (p := ⟨g5, a, none⟩) NR5.out _
        · have hexit : k = K := by
            rw [← HRUN.out]
            cases h32 : 32 - k with
            | zero => rfl
            | succ f => unfold runK; rw [if_neg (fun h => hlt h.1)]
          have HEX := Lib.hid hexit
          clear hS hrun HRUN hexit
          by_cases hk32 : (k : Int) < 32
          · have hkq : ¬ (k : Int) < q := by omega
            go_upto_region 5 with fail
            go_quiet (fail)
            replace z12 : (wr.drewN nq).cell? ⟨R, o + 12, none⟩ = some (.slice (some ⟨g5, 0, none⟩) N m5) := z12
            replace z15 : (wr.drewN nq).cell? ⟨R, o + 15, none⟩ = some (.int .i64 (k : Int)) := z15
            replace f15 : (wr.drewN nq).frozen? ⟨R, o + 15, none⟩ = false := f15
            replace b3 : (wr.drewN nq).cell? ⟨B, 3, none⟩ = some (.int .i64 (wh : Int)) := b3
            replace HR := Lib.hid (show Row (wr.drewN nq) R 74 ((zs.set (o + 14) (.int .i64 (m : Int))).set (o + 15) (.int .i64 (k : Int))) from HR.out)
            replace HS := Lib.hid (show Row (wr.drewN nq) g6 5 (octs S) from HS.out)
            replace HT := Lib.hid (show Row (wr.drewN nq) g5 3 (ints l) from HT.out)
            replace HF := Lib.hid (HF.out.drewN nq)
            clear z13
            generalize wr.drewN nq = w4 at *
            clear f15 z15
            have HR4 := HR
            have HT4 := HT
            have HF4 := HF
            go_upto_region 7 with fail
            refine wp_region_held_drew (S := (fun W : World => W.cell? ⟨R, o + 12, none⟩ = some (.slice (some ⟨g5, 0, none⟩) N m5) ∧ W.cell? ⟨B, 3, none⟩ = some (.int .i64 (wh : Int)))) (by kernel_rfl) ⟨z12, b3⟩ (fun hHeld => ?_)
            have rr := HR4.out.drew
            have rs := HT4.out.drew
            have hf := HF4.out.drew
            obtain ⟨w5, hwn⟩ : ∃ xq, w4.drew = xq := ⟨_, rfl⟩
            rw [hwn] at rr rs hf hHeld ⊢
            clear hwn
            have HR5 := Lib.hid rr
            have HT5 := Lib.hid rs
            have HF5 := Lib.hid hf
            have q9 := row_i rs HQA.out
            have zq9 := rs.frozen a
            clear rr rs hf
            refine tkz (i := 0) (d := 101) rfl rfl ?_
            simp only [Act.put, zzA, zzB, zzC]
            refine tkz (i := 1) (d := 102) rfl rfl ?_
            simp only [Act.put, zzA, zzB, zzC]
            refine tkz (i := 2) (d := 103) rfl rfl ?_
            simp only [Act.put, zzA, zzB, zzC]
            refine tkz (i := 3) (d := 104) rfl rfl ?_
            simp only [Act.put, zzA, zzB, zzC]
            refine tkz (i := 4) (d := 105) rfl rfl ?_
            simp only [Act.put, zzA, zzB, zzC]
            refine tkz (i := 5) (d := 106) rfl rfl ?_
            simp only [Act.put, zzA, zzB, zzC]
            refine tkz (i := 6) (d := 107) rfl rfl ?_
            simp only [Act.put, zzA, zzB, zzC]
            refine tkz (i := 7) (d := 108) rfl rfl ?_
            simp only [Act.put, zzA, zzB, zzC]
            refine tkz (i := 8) (d := 109) rfl rfl ?_
            simp only [Act.put, zzA, zzB, zzC]
            refine tkz (i := 9) (d := 110) rfl rfl ?_
            simp only [Act.put, zzA, zzB, zzC]
            refine rdz (i := 10) rfl (fun K hK => ?_)
            go_simp
            refine hK.out _ _ ⟨(World.cell?_setCell_far _ _ _ _ (fun h => NR5.out h.symm)).trans hHeld.1, (World.cell?_setCell_far _ _ _ _ (fun h => NB5.out h.symm)).trans hHeld.2⟩ (fun hHeld => ?_)
            clear hK K
            try simp only [Act.put, zzA, zzB, zzC]
            refine wpAnyH_done (by kernel_rfl) ?_ _
            go_wp2
            refine bodyPost_ret (v := .tuple #[]) (by simp [results, Try.results36, go_sem]) rfl ?_
            refine ⟨rfl, ⟨?_, HT5.out.seti HQA.out wh⟩, HF5.out.setCell (p := ⟨g5, a, none⟩) (fun _ => .inr rfl) _⟩
            rw [HPF.out, HLF.out, ← HEX.out]
            exact HR5.out.far (p := ⟨g5, a, none⟩) NR5.out _
          · go_upto_region 5 with fail
            go_quiet (fail)
            replace z12 : (wr.drewN nq).cell? ⟨R, o + 12, none⟩ = some (.slice (some ⟨g5, 0, none⟩) N m5) := z12
            replace z15 : (wr.drewN nq).cell? ⟨R, o + 15, none⟩ = some (.int .i64 (k : Int)) := z15
            replace f15 : (wr.drewN nq).frozen? ⟨R, o + 15, none⟩ = false := f15
            replace b3 : (wr.drewN nq).cell? ⟨B, 3, none⟩ = some (.int .i64 (wh : Int)) := b3
            replace HR := Lib.hid (show Row (wr.drewN nq) R 74 ((zs.set (o + 14) (.int .i64 (m : Int))).set (o + 15) (.int .i64 (k : Int))) from HR.out)
            replace HS := Lib.hid (show Row (wr.drewN nq) g6 5 (octs S) from HS.out)
            replace HT := Lib.hid (show Row (wr.drewN nq) g5 3 (ints l) from HT.out)
            replace HF := Lib.hid (HF.out.drewN nq)
            clear z13
            generalize wr.drewN nq = w4 at *
            clear f15 z15
            have HR4 := HR
            have HT4 := HT
            have HF4 := HF
            go_upto_region 7 with fail
            refine wp_region_held_drew (S := (fun W : World => W.cell? ⟨R, o + 12, none⟩ = some (.slice (some ⟨g5, 0, none⟩) N m5) ∧ W.cell? ⟨B, 3, none⟩ = some (.int .i64 (wh : Int)))) (by kernel_rfl) ⟨z12, b3⟩ (fun hHeld => ?_)
            have rr := HR4.out.drew
            have rs := HT4.out.drew
            have hf := HF4.out.drew
            obtain ⟨w5, hwn⟩ : ∃ xq, w4.drew = xq := ⟨_, rfl⟩
            rw [hwn] at rr rs hf hHeld ⊢
            clear hwn
            have HR5 := Lib.hid rr
            have HT5 := Lib.hid rs
            have HF5 := Lib.hid hf
            have q9 := row_i rs HQA.out
            have zq9 := rs.frozen a
            clear rr rs hf
            refine tkz (i := 0) (d := 101) rfl rfl ?_
            simp only [Act.put, zzA, zzB, zzC]
            refine tkz (i := 1) (d := 102) rfl rfl ?_
            simp only [Act.put, zzA, zzB, zzC]
            refine tkz (i := 2) (d := 103) rfl rfl ?_
            simp only [Act.put, zzA, zzB, zzC]
            refine tkz (i := 3) (d := 104) rfl rfl ?_
            simp only [Act.put, zzA, zzB, zzC]
            refine tkz (i := 4) (d := 105) rfl rfl ?_
            simp only [Act.put, zzA, zzB, zzC]
            refine tkz (i := 5) (d := 106) rfl rfl ?_
            simp only [Act.put, zzA, zzB, zzC]
            refine tkz (i := 6) (d := 107) rfl rfl ?_
            simp only [Act.put, zzA, zzB, zzC]
            refine tkz (i := 7) (d := 108) rfl rfl ?_
            simp only [Act.put, zzA, zzB, zzC]
            refine tkz (i := 8) (d := 109) rfl rfl ?_
            simp only [Act.put, zzA, zzB, zzC]
            refine tkz (i := 9) (d := 110) rfl rfl ?_
            simp only [Act.put, zzA, zzB, zzC]
            refine rdz (i := 10) rfl (fun K hK => ?_)
            go_simp
            refine hK.out _ _ ⟨(World.cell?_setCell_far _ _ _ _ (fun h => NR5.out h.symm)).trans hHeld.1, (World.cell?_setCell_far _ _ _ _ (fun h => NB5.out h.symm)).trans hHeld.2⟩ (fun hHeld => ?_)
            clear hK K
            try simp only [Act.put, zzA, zzB, zzC]
            refine wpAnyH_done (by kernel_rfl) ?_ _
            go_wp2
            refine bodyPost_ret (v := .tuple #[]) (by simp [results, Try.results36, go_sem]) rfl ?_
            refine ⟨rfl, ⟨?_, HT5.out.seti HQA.out wh⟩, HF5.out.setCell (p := ⟨g5, a, none⟩) (fun _ => .inr rfl) _⟩
            rw [HPF.out, HLF.out, ← HEX.out]
            exact HR5.out.far (p := ⟨g5, a, none⟩) NR5.out _
  · have hl0 : ¬ (len : Int) = 0 := by omega
    go_upto_region 7 with fail
    clear z13 z14 z15 sq
    have HR4 := HR
    have HT4 := HT
    have HF4 := HF
    refine wp_region_held_drew (S := (fun W : World => W.cell? ⟨R, o + 12, none⟩ = some (.slice (some ⟨g5, 0, none⟩) N m5) ∧ W.cell? ⟨B, 3, none⟩ = some (.int .i64 (wh : Int)))) (by kernel_rfl) ⟨z12, b3⟩ (fun hHeld => ?_)
    have rr := HR4.out.drew
    have rs := HT4.out.drew
    have hf := HF4.out.drew
    obtain ⟨w5, hwn⟩ : ∃ xq, w2.drew = xq := ⟨_, rfl⟩
    rw [hwn] at rr rs hf hHeld ⊢
    clear hwn
    have HR5 := Lib.hid rr
    have HT5 := Lib.hid rs
    have HF5 := Lib.hid hf
    have q9 := row_i rs HQA.out
    have zq9 := rs.frozen a
    clear rr rs hf
    refine tkz (i := 0) (d := 101) rfl rfl ?_
    simp only [Act.put, zzA, zzB, zzC]
    refine tkz (i := 1) (d := 102) rfl rfl ?_
    simp only [Act.put, zzA, zzB, zzC]
    refine tkz (i := 2) (d := 103) rfl rfl ?_
    simp only [Act.put, zzA, zzB, zzC]
    refine tkz (i := 3) (d := 104) rfl rfl ?_
    simp only [Act.put, zzA, zzB, zzC]
    refine tkz (i := 4) (d := 105) rfl rfl ?_
    simp only [Act.put, zzA, zzB, zzC]
    refine tkz (i := 5) (d := 106) rfl rfl ?_
    simp only [Act.put, zzA, zzB, zzC]
    refine tkz (i := 6) (d := 107) rfl rfl ?_
    simp only [Act.put, zzA, zzB, zzC]
    refine tkz (i := 7) (d := 108) rfl rfl ?_
    simp only [Act.put, zzA, zzB, zzC]
    refine tkz (i := 8) (d := 109) rfl rfl ?_
    simp only [Act.put, zzA, zzB, zzC]
    refine tkz (i := 9) (d := 110) rfl rfl ?_
    simp only [Act.put, zzA, zzB, zzC]
    refine rdz (i := 10) rfl (fun K hK => ?_)
    go_simp
    refine hK.out _ _ ⟨(World.cell?_setCell_far _ _ _ _ (fun h => NR5.out h.symm)).trans hHeld.1, (World.cell?_setCell_far _ _ _ _ (fun h => NB5.out h.symm)).trans hHeld.2⟩ (fun hHeld => ?_)
    clear hK K
    try simp only [Act.put, zzA, zzB, zzC]
    refine wpAnyH_done (by kernel_rfl) ?_ _
    go_wp2
    refine bodyPost_ret (v := .tuple #[]) (by simp [results, Try.results36, go_sem]) rfl ?_
    refine ⟨rfl, ⟨?_, HT5.out.seti HQA.out wh⟩, HF5.out.setCell (p := ⟨g5, a, none⟩) (fun _ => .inr rfl) _⟩
    rw [show ptrF N q ptr len = ptr from if_neg (fun h => h0' h.1), show lenF S N q wh len = len from if_neg (fun h => h0' h.1)]
    exact by rw [set_same (show (zs.set (o + 14) (.int .i64 (ptr : Int)))[o + 15]? = some (.int .i64 (len : Int)) from by rw [set_same H14.out]; exact H15.out), set_same H14.out]; exact HR5.out.far (p := ⟨g5, a, none⟩) NR5.out _
end Go.Proofs.Ytnohfeaamfjimaa
