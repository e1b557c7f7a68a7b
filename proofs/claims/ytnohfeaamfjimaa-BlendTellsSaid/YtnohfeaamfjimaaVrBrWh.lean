/- The reference's match at the end of a byte: walk. -/
import Derived.Test.YtnohfeaamfjimaaVrBrS
import Derived.Test.YtnohfeaamfjimaaVrBlK4
import Derived.StillTailTactics
import Derived.IntWalk
namespace Go.Proofs.Ytnohfeaamfjimaa
open Go.RowKit Go.WideShapes
set_option linter.unusedVariables false
set_option linter.unusedSimpArgs false
theorem set_same {l : List Value} {k : Nat} {v : Value} (h : l[k]? = some v) : l.set k v = l := by
  apply List.ext_getElem?
  intro j
  rw [List.getElem?_set]
  split
  · rename_i hj
    subst hj
    rw [h]
    first | rfl | (rw [if_pos (List.getElem?_eq_some_iff.1 h).1])
  · rfl
theorem Row.setv {w : World} {g : Nat} {t : TypeId} {zs : List Value} {k : Nat} {x : Value} (h : Row w g t zs) (hv : zs[k]? = some x) (v : Value) : Row (w.setCell ⟨g, k, none⟩ v) g t (zs.set k v) := h.set (List.getElem?_eq_some_iff.1 hv).1 v
theorem wholeNo (B R o : Nat) (k : Int) (w : World) (z0 : w.cell? ⟨R, o, none⟩ = some (.int .u8 k)) (hk : ¬ k = 4) : Calls Try.prog 38 #[.pointer (some ⟨B, 0, none⟩), .pointer (some ⟨R, o, none⟩)] w (Sam (.tuple #[]) w) := by
  have g : (k != 4) = true := by simpa using hk
  clear hk
  go_enter Try.func38, Try.ntmps38
  go_wp2
  refine bodyPost_ret (v := .tuple #[]) (by simp [results, Try.results38, go_sem]) rfl ?_
  exact ⟨rfl, rfl⟩
set_option maxRecDepth 100000 in
set_option maxHeartbeats 4000000 in
theorem wholeYes (B R o g6 m6 N : Nat) (c y : Int) (s ptr len wh : Nat) (zs : List Value) (S : List Int) (w : World) (c0 : 0 ≤ c) (c1 : c ≤ 1000) (s2 : s ≤ 16) (hN : 2 ^ s = N) (hN1 : 1 ≤ N) (hN2 : N ≤ 65536) (hptr : ptr < N) (hlen : len ≤ 32) (hwh : wh ≤ 1000000000) (hR : Row w R 74 zs) (hS : Row w g6 5 (octs S)) (hSl : S.length = N) (hy : S[ptr]? = some y) (nRg : ¬ R = g6) (nBR : ¬ B = R) (nBg : ¬ B = g6) (h0 : zs[o]? = some (.int .u8 4)) (h1 : zs[o + 1]? = some (.int .i64 (s : Int))) (h13 : zs[o + 13]? = some (.slice (some ⟨g6, 0, none⟩) N m6)) (h14 : zs[o + 14]? = some (.int .i64 (ptr : Int))) (h15 : zs[o + 15]? = some (.int .i64 (len : Int))) (b1 : w.cell? ⟨B, 1, none⟩ = some (.int .i64 c)) (b3 : w.cell? ⟨B, 3, none⟩ = some (.int .i64 (wh : Int))) :
    Calls Try.prog 38 #[.pointer (some ⟨B, 0, none⟩), .pointer (some ⟨R, o, none⟩)] w (LrR (fun w' => Row w' R 74 ((zs.set (o + 15) (.int .i64 ((lenE len y (c % 256) : Nat) : Int))).set (o + 14) (.int .i64 ((ptrE len N ptr y (c % 256) : Nat) : Int))) ∧ Row w' g6 5 (octs (S.set (wh % N) (c % 256)))) (fun b => b = R ∨ b = g6) w) := by
  obtain ⟨x, hx⟩ : ∃ x, c % 256 = x := ⟨_, rfl⟩
  have tm : c.tmod 256 = x := by rw [Int.tmod_eq_emod_of_nonneg c0]; exact hx
  have ex := IntWalk.u8_in x (by omega)
  have ex2 := IntWalk.i64_in x (by omega)
  obtain ⟨m, hmm⟩ : ∃ m, wh % N = m := ⟨_, rfl⟩
  rw [hx, hmm]
  have hm : m < N := by rw [← hmm]; exact Nat.mod_lt _ (by omega)
  have r1 : (wh : Int).tmod (N : Int) = (m : Int) := by rw [← hmm]; exact tmod_nat wh N
  have HPW := Lib.hid (show ∀ W, Calls Try.prog 52 #[.int .i64 (s : Int)] W (Sam (.int .i64 (N : Int)) W) from fun W => hN ▸ powerR s W (by omega))
  have HR := Lib.hid hR
  have HS := Lib.hid hS
  have HY := Lib.hid hy
  have NRG := Lib.hid nRg
  have NBR := Lib.hid nBR
  have B3W := Lib.hid (show ∀ W, Frm (fun b => b = R ∨ b = g6) w W → W.cell? ⟨B, 3, none⟩ = some (.int .i64 (wh : Int)) from fun W hW => (hW.cell (block_lt_of_cell b3) (fun h => h.elim nBR nBg)).trans b3)
  have NBG := Lib.hid nBg
  have z0 := hR.at h0
  have z1 := hR.at h1
  have z13 := hR.at h13
  have z14 := hR.at h14
  have z15 := hR.at h15
  have s0 := row_o hS hy
  have H13 := Lib.hid h13
  have H14 := Lib.hid h14
  have H15 := Lib.hid h15
  have HSL := Lib.hid hSl
  have hN0 : ¬ N = 0 := by omega
  have hmi : (m : Int) < N := by omega
  have hpi : (ptr : Int) < N := by omega
  have HZL := Lib.hid (show o + 15 < zs.length from (List.getElem?_eq_some_iff.1 h15).1)
  clear nBR nBg hx hmm hR hS hy nRg h0 h1 h13 h14 h15 hN hSl
  go_enter Try.func38, Try.ntmps38
  go_upto_region 1 with fail
  go_wp2_with fail
  refine (HPW.out _).mono ?_
  rintro e w1 ⟨rfl, hs1⟩
  rw [hs1]
  clear hs1 w1
  go_upto_region 3 with fail
  by_cases h0 : len = 0
  · subst h0
    replace z15 : w.cell? ⟨R, o + 15, none⟩ = some (.int .i64 0) := z15
    refine wp_region_held_drew (S := (fun W : World => W.cell? ⟨R, o + 13, none⟩ = some (.slice (some ⟨g6, 0, none⟩) N m6) ∧ W.cell? ⟨R, o + 14, none⟩ = some (.int .i64 (ptr : Int)) ∧ W.cell? ⟨R, o + 15, none⟩ = some (.int .i64 0) ∧ W.cell? ⟨g6, ptr, none⟩ = some (.int .u8 y) ∧ W.cell? ⟨B, 3, none⟩ = some (.int .i64 (wh : Int)))) (by kernel_rfl) ⟨z13, z14, z15, s0, b3⟩ (fun hHeld => ?_)
    refine tkz (i := 0) (d := 24) rfl rfl ?_
    simp only [Act.put, zzA, zzB, zzC]
    refine tkz (i := 1) (d := 25) rfl rfl ?_
    simp only [Act.put, zzA, zzB, zzC]
    refine tkz (i := 2) (d := 26) rfl rfl ?_
    simp only [Act.put, zzA, zzB, zzC]
    refine tkz (i := 3) (d := 27) rfl rfl ?_
    simp only [Act.put, zzA, zzB, zzC]
    refine tkz (i := 4) (d := 28) rfl rfl ?_
    simp only [Act.put, zzA, zzB, zzC]
    refine tkz (i := 5) (d := 29) rfl rfl ?_
    simp only [Act.put, zzA, zzB, zzC]
    refine wpAnyH_takeD (i := 6) (d := 30) (oi := _) (v := undef) rfl rfl (by kernel_rfl) (by kernel_rfl) (by kernel_rfl) (fun _ _ _ h => h) (Or.inr ⟨by rfl, rfl⟩) (by assumption) ?_
    simp only [Act.put, zzA, zzB, zzC]
    refine wpAnyH_takeD (i := 7) (d := 31) (oi := _) (v := undef) rfl rfl (by kernel_rfl) (by kernel_rfl) (by kernel_rfl) (fun _ _ _ h => h) (Or.inr ⟨by rfl, rfl⟩) (by assumption) ?_
    simp only [Act.put, zzA, zzB, zzC]
    refine wpAnyH_takeD (i := 8) (d := 32) (oi := _) (v := undef) rfl rfl (by kernel_rfl) (by kernel_rfl) (by kernel_rfl) (fun _ _ _ h => h) (Or.inr ⟨by rfl, rfl⟩) (by assumption) ?_
    simp only [Act.put, zzA, zzB, zzC]
    refine wpAnyH_takeD (i := 9) (d := 33) (oi := _) (v := undef) rfl rfl (by kernel_rfl) (by kernel_rfl) (by kernel_rfl) (fun _ _ _ h => h) (Or.inr ⟨by rfl, rfl⟩) (by assumption) ?_
    simp only [Act.put, zzA, zzB, zzC]
    refine wpAnyH_takeD (i := 10) (d := 34) (oi := _) (v := undef) rfl rfl (by kernel_rfl) (by kernel_rfl) (by kernel_rfl) (fun _ _ _ h => h) (Or.inr ⟨by rfl, rfl⟩) (by assumption) ?_
    simp only [Act.put, zzA, zzB, zzC]
    refine wpAnyH_takeD (i := 11) (d := 35) (oi := _) (v := undef) rfl rfl (by kernel_rfl) (by kernel_rfl) (by kernel_rfl) (fun _ _ _ h => h) (Or.inr ⟨by rfl, rfl⟩) (by assumption) ?_
    simp only [Act.put, zzA, zzB, zzC]
    refine wpAnyH_takeD (i := 12) (d := 36) (oi := _) (v := undef) rfl rfl (by kernel_rfl) (by kernel_rfl) (by kernel_rfl) (fun _ _ _ h => h) (Or.inr ⟨by rfl, rfl⟩) (by assumption) ?_
    simp only [Act.put, zzA, zzB, zzC]
    refine wpAnyH_takeD (i := 13) (d := 37) (oi := _) (v := undef) rfl rfl (by kernel_rfl) (by kernel_rfl) (by kernel_rfl) (fun _ _ _ h => h) (Or.inr ⟨by rfl, rfl⟩) (by assumption) ?_
    simp only [Act.put, zzA, zzB, zzC]
    refine wpAnyH_takeD (i := 14) (d := 38) (oi := _) (v := undef) rfl rfl (by kernel_rfl) (by kernel_rfl) (by kernel_rfl) (fun _ _ _ h => h) (Or.inr ⟨by rfl, rfl⟩) (by assumption) ?_
    simp only [Act.put, zzA, zzB, zzC]
    refine wpAnyH_takeD (i := 15) (d := 39) (oi := _) (v := undef) rfl rfl (by kernel_rfl) (by kernel_rfl) (by kernel_rfl) (fun _ _ _ h => h) (Or.inr ⟨by rfl, rfl⟩) (by assumption) ?_
    simp only [Act.put, zzA, zzB, zzC]
    refine wpAnyH_takeD (i := 16) (d := 40) (oi := _) (v := undef) rfl rfl (by kernel_rfl) (by kernel_rfl) (by kernel_rfl) (fun _ _ _ h => h) (Or.inr ⟨by rfl, rfl⟩) (by assumption) ?_
    simp only [Act.put, zzA, zzB, zzC]
    refine wpAnyH_takeD (i := 17) (d := 41) (oi := _) (v := undef) rfl rfl (by kernel_rfl) (by kernel_rfl) (by kernel_rfl) (fun _ _ _ h => h) (Or.inr ⟨by rfl, rfl⟩) (by assumption) ?_
    simp only [Act.put, zzA, zzB, zzC]
    refine tkz (i := 18) (d := 42) rfl rfl ?_
    simp only [Act.put, zzA, zzB, zzC]
    refine wpAnyH_done (by kernel_rfl) ?_ _
    obtain ⟨z13, z14, z15, s0, b3⟩ := hHeld
    have rr := HR.out.drew
    have rs := HS.out.drew
    have hf : Frm (fun b => b = R ∨ b = g6) w w.drew := (Frm.refl _ w).drew
    obtain ⟨w3, hwn⟩ : ∃ xq, w.drew = xq := ⟨_, rfl⟩
    rw [hwn] at rr rs hf z13 z14 z15 s0 b3 ⊢
    clear hwn
    have HR3 := Lib.hid rr
    have HS3 := Lib.hid rs
    have HF3 := Lib.hid hf
    clear rr rs hf
    have z15f := HR3.out.frozen (o + 15)
    have z14f := HR3.out.frozen (o + 14)
    go_upto_region 6 with fail
    have rr := HR3.out.setv H15.out (.int .i64 0)
    have rs := HS3.out.far (p := ⟨R, o + 15, none⟩) (fun h => NRG.out h.symm) (.int .i64 0)
    have hf := HF3.out.setCell (p := ⟨R, o + 15, none⟩) (fun _ => .inl rfl) (.int .i64 0)
    have b3z : (w3.setCell ⟨R, o + 15, none⟩ (.int .i64 0)).cell? ⟨B, 3, none⟩ = some (.int .i64 (wh : Int)) := (World.cell?_setCell_far _ _ _ _ (fun h => NBR.out h.symm)).trans b3
    have z13z := rr.at ((List.getElem?_set_ne (by omega)).trans H13.out)
    rw [show zs.set (o + 15) (.int .i64 0) = (zs.set (o + 15) (.int .i64 0)).set (o + 14) (.int .i64 (ptr : Int)) from (set_same ((List.getElem?_set_ne (by omega)).trans H14.out)).symm] at rr
    clear z13 z14 z15 s0 b3
    obtain ⟨w4, hwn⟩ : ∃ xq, w3.setCell ⟨R, o + 15, none⟩ (.int .i64 0) = xq := ⟨_, rfl⟩
    rw [hwn] at rr rs hf b3z z13z ⊢
    clear hwn
    have z13 := z13z
    have b3 := b3z
    have HR4 := Lib.hid rr
    have HS4 := Lib.hid rs
    have HF4 := Lib.hid hf
    clear rr rs hf z13z b3z
    refine wp_region_held_drew (S := (fun W : World => W.cell? ⟨R, o + 13, none⟩ = some (.slice (some ⟨g6, 0, none⟩) N m6) ∧ W.cell? ⟨B, 3, none⟩ = some (.int .i64 (wh : Int)))) (by kernel_rfl) ⟨z13, b3⟩ (fun hHeld => ?_)
    have rr := HR4.out.drew
    have rs := HS4.out.drew
    have hf := HF4.out.drew
    obtain ⟨w5, hwn⟩ : ∃ xq, w4.drew = xq := ⟨_, rfl⟩
    rw [hwn] at rr rs hf hHeld ⊢
    clear hwn
    have HR5 := Lib.hid rr
    have HS5 := Lib.hid rs
    have HF5 := Lib.hid hf
    obtain ⟨v9, hv9⟩ : ∃ v9, S[m]? = some v9 := ⟨_, List.getElem?_eq_getElem (by rw [HSL.out]; exact hm)⟩
    have HV9 := Lib.hid hv9
    have q9 := row_o rs hv9
    have zq9 := rs.frozen m
    clear rr rs hf hv9
    refine tkz (i := 0) (d := 65) rfl rfl ?_
    simp only [Act.put, zzA, zzB, zzC]
    refine tkz (i := 1) (d := 66) rfl rfl ?_
    simp only [Act.put, zzA, zzB, zzC]
    refine tkz (i := 2) (d := 67) rfl rfl ?_
    simp only [Act.put, zzA, zzB, zzC]
    refine tkz (i := 3) (d := 68) rfl rfl ?_
    simp only [Act.put, zzA, zzB, zzC]
    refine tkz (i := 4) (d := 69) rfl rfl ?_
    simp only [Act.put, zzA, zzB, zzC]
    refine tkz (i := 5) (d := 70) rfl rfl ?_
    simp only [Act.put, zzA, zzB, zzC]
    refine tkz (i := 6) (d := 71) rfl rfl ?_
    simp only [Act.put, zzA, zzB, zzC]
    refine tkz (i := 7) (d := 72) rfl rfl ?_
    simp only [Act.put, zzA, zzB, zzC]
    refine tkz (i := 8) (d := 73) rfl rfl ?_
    simp only [Act.put, zzA, zzB, zzC]
    refine tkz (i := 9) (d := 74) rfl rfl ?_
    simp only [Act.put, zzA, zzB, zzC]
    refine tkz (i := 10) (d := 75) rfl rfl ?_
    simp only [Act.put, zzA, zzB, zzC]
    refine tkz (i := 11) (d := 76) rfl rfl ?_
    simp only [Act.put, zzA, zzB, zzC]
    refine rdz (i := 12) rfl (fun K hK => ?_)
    go_simp
    refine hK.out _ _ ⟨(World.cell?_setCell_far _ _ _ _ (fun h => NRG.out h.symm)).trans hHeld.1, (World.cell?_setCell_far _ _ _ _ (fun h => NBG.out h.symm)).trans hHeld.2⟩ (fun hHeld => ?_)
    clear hK K
    try simp only [Act.put, zzA, zzB, zzC]
    refine wpAnyH_done (by kernel_rfl) ?_ _
    go_wp2
    refine bodyPost_ret (v := .tuple #[]) (by simp [results, Try.results38, go_sem]) rfl ?_
    refine ⟨rfl, ⟨?_, HS5.out.seto HV9.out x⟩, HF5.out.setCell (p := ⟨g6, m, none⟩) (fun _ => .inr rfl) _⟩
    rw [show lenE 0 y x = 0 from if_neg (by omega), show ptrE 0 N ptr y x = ptr from if_neg (by omega)]
    exact HR5.out.far (p := ⟨g6, m, none⟩) NRG.out _
  · have hl0 : 0 < len := by omega
    have hl0i : (0 : Int) < (len : Int) := by omega
    by_cases hyx : y = x
    · subst hyx
      refine wp_region_held_drew (S := (fun W : World => W.cell? ⟨R, o + 13, none⟩ = some (.slice (some ⟨g6, 0, none⟩) N m6) ∧ W.cell? ⟨R, o + 14, none⟩ = some (.int .i64 (ptr : Int)) ∧ W.cell? ⟨R, o + 15, none⟩ = some (.int .i64 (len : Int)) ∧ W.cell? ⟨g6, ptr, none⟩ = some (.int .u8 y) ∧ W.cell? ⟨B, 3, none⟩ = some (.int .i64 (wh : Int)))) (by kernel_rfl) ⟨z13, z14, z15, s0, b3⟩ (fun hHeld => ?_)
      refine tkz (i := 0) (d := 24) rfl rfl ?_
      simp only [Act.put, zzA, zzB, zzC]
      refine tkz (i := 1) (d := 25) rfl rfl ?_
      simp only [Act.put, zzA, zzB, zzC]
      refine tkz (i := 2) (d := 26) rfl rfl ?_
      simp only [Act.put, zzA, zzB, zzC]
      refine tkz (i := 3) (d := 27) rfl rfl ?_
      simp only [Act.put, zzA, zzB, zzC]
      refine tkz (i := 4) (d := 28) rfl rfl ?_
      simp only [Act.put, zzA, zzB, zzC]
      refine tkz (i := 5) (d := 29) rfl rfl ?_
      simp only [Act.put, zzA, zzB, zzC]
      refine tkz (i := 6) (d := 30) rfl rfl ?_
      simp only [Act.put, zzA, zzB, zzC]
      refine tkz (i := 7) (d := 31) rfl rfl ?_
      simp only [Act.put, zzA, zzB, zzC]
      refine tkz (i := 8) (d := 32) rfl rfl ?_
      simp only [Act.put, zzA, zzB, zzC]
      refine tkz (i := 9) (d := 33) rfl rfl ?_
      simp only [Act.put, zzA, zzB, zzC]
      refine tkz (i := 10) (d := 34) rfl rfl ?_
      simp only [Act.put, zzA, zzB, zzC]
      refine tkz (i := 11) (d := 35) rfl rfl ?_
      simp only [Act.put, zzA, zzB, zzC]
      refine tkz (i := 12) (d := 36) rfl rfl ?_
      simp only [Act.put, zzA, zzB, zzC]
      refine tkz (i := 13) (d := 37) rfl rfl ?_
      simp only [Act.put, zzA, zzB, zzC]
      refine tkz (i := 14) (d := 38) rfl rfl ?_
      simp only [Act.put, zzA, zzB, zzC]
      refine tkz (i := 15) (d := 39) rfl rfl ?_
      simp only [Act.put, zzA, zzB, zzC]
      refine tkz (i := 16) (d := 40) rfl rfl ?_
      simp only [Act.put, zzA, zzB, zzC]
      refine tkz (i := 17) (d := 41) rfl rfl ?_
      simp only [Act.put, zzA, zzB, zzC]
      refine tkz (i := 18) (d := 42) rfl rfl ?_
      simp only [Act.put, zzA, zzB, zzC]
      refine wpAnyH_done (by kernel_rfl) ?_ _
      obtain ⟨z13, z14, z15, s0, b3⟩ := hHeld
      have rr := HR.out.drew
      have rs := HS.out.drew
      have hf : Frm (fun b => b = R ∨ b = g6) w w.drew := (Frm.refl _ w).drew
      obtain ⟨w3, hwn⟩ : ∃ xq, w.drew = xq := ⟨_, rfl⟩
      rw [hwn] at rr rs hf z13 z14 z15 s0 b3 ⊢
      clear hwn
      have HR3 := Lib.hid rr
      have HS3 := Lib.hid rs
      have HF3 := Lib.hid hf
      clear rr rs hf
      clear z13 z14 z15 s0 b3
      obtain ⟨m2, hm2⟩ : ∃ m2, (ptr + 1) % N = m2 := ⟨_, rfl⟩
      have HM2 := Lib.hid hm2
      have e1 : IntKind.i64.wrap ((ptr : Int) + 1) = (ptr : Int) + 1 := IntWalk.i64_in _ (by omega)
      have e2 : ((ptr : Int) + 1).tmod (N : Int) = (m2 : Int) := by rw [← hm2]; exact tmod_nat (ptr + 1) N
      have e3 : IntKind.i64.wrap ((len : Int) + 1) = (len : Int) + 1 := IntWalk.i64_in _ (by omega)
      have HIN := Lib.hid (fun W => intoR ((len : Int) + 1) 0 32 W (by omega))
      have hin : intoI ((len : Int) + 1) 0 32 = ((min (len + 1) 32 : Nat) : Int) := by unfold intoI; omega
      rw [hin] at HIN
      obtain ⟨L2, hL2⟩ : ∃ L2, min (len + 1) 32 = L2 := ⟨_, rfl⟩
      rw [hL2] at HIN
      have HL2 := Lib.hid hL2
      clear hin hm2 hL2
      go_upto_region 4 with fail
      refine wp_region_held_drew (S := (fun _ : World => True)) (by kernel_rfl) trivial (fun hHeld => ?_)
      have rr := HR3.out.drew
      have rs := HS3.out.drew
      have hf := HF3.out.drew
      obtain ⟨w9, hwn⟩ : ∃ xq, w3.drew = xq := ⟨_, rfl⟩
      rw [hwn] at rr rs hf ⊢
      clear hwn
      have z15 := rr.at H15.out
      have z14 := rr.at H14.out
      have z13a := rr.at H13.out
      have f15 := rr.frozen (o + 15)
      have f14 := rr.frozen (o + 14)
      have b3a : w9.cell? ⟨B, 3, none⟩ = some (.int .i64 (wh : Int)) := B3W.out w9 hf
      have f14b : (w9.setCell ⟨R, o + 15, none⟩ (.int .i64 (L2 : Int))).frozen? ⟨R, o + 14, none⟩ = false := (rr.setv H15.out (.int .i64 (L2 : Int))).frozen _
      have HR9 := Lib.hid rr
      have HS9 := Lib.hid rs
      have HF9 := Lib.hid hf
      clear rr rs hf
      refine tkz (i := 0) (d := 43) rfl rfl ?_
      simp only [Act.put, zzA, zzB, zzC]
      refine tkz (i := 1) (d := 44) rfl rfl ?_
      simp only [Act.put, zzA, zzB, zzC]
      refine tkz (i := 2) (d := 45) rfl rfl ?_
      simp only [Act.put, zzA, zzB, zzC]
      refine tkz (i := 3) (d := 46) rfl rfl ?_
      simp only [Act.put, zzA, zzB, zzC]
      refine tkz (i := 4) (d := 47) rfl rfl ?_
      simp only [Act.put, zzA, zzB, zzC]
      refine tkz (i := 8) (d := 51) rfl rfl ?_
      simp only [Act.put, zzA, zzB, zzC]
      refine tkz (i := 9) (d := 52) rfl rfl ?_
      simp only [Act.put, zzA, zzB, zzC]
      refine tkz (i := 10) (d := 53) rfl rfl ?_
      simp only [Act.put, zzA, zzB, zzC]
      refine tkz (i := 13) (d := 56) rfl rfl ?_
      simp only [Act.put, zzA, zzB, zzC]
      refine wpAnyH_ready (rs := [5, 11]) (by kernel_rfl) (by simp) ?_
      refine AllReadyH.cons (o := _) rfl (fun K hK => ?_) (AllReadyH.cons (o := _) rfl (fun K hK => ?_) AllReadyH.nil)
      · go_simp
        refine hK.out _ _ hHeld (fun hHeld => ?_)
        clear hK K
        try simp only [Act.put, zzA, zzB, zzC]
        refine tkz (i := 6) (d := 49) rfl rfl ?_
        simp only [Act.put, zzA, zzB, zzC]
        refine wpAnyH_ready (rs := [7, 11]) (by kernel_rfl) (by simp) ?_
        refine AllReadyH.cons (o := _) rfl (fun K hK => ?_) (AllReadyH.cons (o := _) rfl (fun K hK => ?_) AllReadyH.nil)
        · go_simp
          refine (HIN.out _).mono ?_
          rintro e wq ⟨rfl, hs⟩
          rw [hs]
          clear hs wq
          go_wp2_with fail
          refine hK.out _ _ trivial (fun hHeld => ?_)
          clear hK K
          try simp only [Act.put, zzA, zzB, zzC]
          refine rdz (i := 11) rfl (fun K hK => ?_)
          go_simp
          refine hK.out _ _ hHeld (fun hHeld => ?_)
          clear hK K
          try simp only [Act.put, zzA, zzB, zzC]
          refine tkz (i := 12) (d := 55) rfl rfl ?_
          simp only [Act.put, zzA, zzB, zzC]
          refine tkz (i := 14) (d := 57) rfl rfl ?_
          simp only [Act.put, zzA, zzB, zzC]
          refine tkz (i := 15) (d := 58) rfl rfl ?_
          simp only [Act.put, zzA, zzB, zzC]
          refine tkz (i := 16) (d := 59) rfl rfl ?_
          simp only [Act.put, zzA, zzB, zzC]
          refine rdz (i := 17) rfl (fun K hK => ?_)
          go_simp
          refine hK.out _ _ trivial (fun hHeld => ?_)
          clear hK K
          try simp only [Act.put, zzA, zzB, zzC]
          refine tkz (i := 18) (d := 60) rfl rfl ?_
          simp only [Act.put, zzA, zzB, zzC]
          refine tkz (i := 19) (d := 61) rfl rfl ?_
          simp only [Act.put, zzA, zzB, zzC]
          refine rdz (i := 20) rfl (fun K hK => ?_)
          go_simp
          refine hK.out _ _ trivial (fun hHeld => ?_)
          clear hK K
          try simp only [Act.put, zzA, zzB, zzC]
          refine wpAnyH_done (by kernel_rfl) ?_ _
          clear e1 e2 e3
          have rr := (HR9.out.setv H15.out (.int .i64 (L2 : Int))).setv (k := o + 14) ((List.getElem?_set_ne (by omega)).trans H14.out) (.int .i64 (m2 : Int))
          have rs := (HS9.out.far (p := ⟨R, o + 15, none⟩) (fun h => NRG.out h.symm) (.int .i64 (L2 : Int))).far (p := ⟨R, o + 14, none⟩) (fun h => NRG.out h.symm) (.int .i64 (m2 : Int))
          have hf := (HF9.out.setCell (p := ⟨R, o + 15, none⟩) (fun _ => .inl rfl) (.int .i64 (L2 : Int))).setCell (p := ⟨R, o + 14, none⟩) (fun _ => .inl rfl) (.int .i64 (m2 : Int))
          have z13 := rr.at ((List.getElem?_set_ne (by omega)).trans ((List.getElem?_set_ne (by omega)).trans H13.out))
          have b3 := B3W.out _ hf
          clear z15 z14 z13a f15 f14 f14b b3a
          obtain ⟨w4, hwn⟩ : ∃ xq, (w9.setCell ⟨R, o + 15, none⟩ (.int .i64 (L2 : Int))).setCell ⟨R, o + 14, none⟩ (.int .i64 (m2 : Int)) = xq := ⟨_, rfl⟩
          rw [hwn] at rr rs hf z13 b3 ⊢
          clear hwn
          have HR4 := Lib.hid rr
          have HS4 := Lib.hid rs
          have HF4 := Lib.hid hf
          clear rr rs hf hHeld
          go_upto_region 6 with fail
          refine wp_region_held_drew (S := (fun W : World => W.cell? ⟨R, o + 13, none⟩ = some (.slice (some ⟨g6, 0, none⟩) N m6) ∧ W.cell? ⟨B, 3, none⟩ = some (.int .i64 (wh : Int)))) (by kernel_rfl) ⟨z13, b3⟩ (fun hHeld => ?_)
          have rr := HR4.out.drew
          have rs := HS4.out.drew
          have hf := HF4.out.drew
          obtain ⟨w5, hwn⟩ : ∃ xq, w4.drew = xq := ⟨_, rfl⟩
          rw [hwn] at rr rs hf hHeld ⊢
          clear hwn
          have HR5 := Lib.hid rr
          have HS5 := Lib.hid rs
          have HF5 := Lib.hid hf
          obtain ⟨v9, hv9⟩ : ∃ v9, S[m]? = some v9 := ⟨_, List.getElem?_eq_getElem (by rw [HSL.out]; exact hm)⟩
          have HV9 := Lib.hid hv9
          have q9 := row_o rs hv9
          have zq9 := rs.frozen m
          clear rr rs hf hv9
          refine tkz (i := 0) (d := 65) rfl rfl ?_
          simp only [Act.put, zzA, zzB, zzC]
          refine tkz (i := 1) (d := 66) rfl rfl ?_
          simp only [Act.put, zzA, zzB, zzC]
          refine tkz (i := 2) (d := 67) rfl rfl ?_
          simp only [Act.put, zzA, zzB, zzC]
          refine tkz (i := 3) (d := 68) rfl rfl ?_
          simp only [Act.put, zzA, zzB, zzC]
          refine tkz (i := 4) (d := 69) rfl rfl ?_
          simp only [Act.put, zzA, zzB, zzC]
          refine tkz (i := 5) (d := 70) rfl rfl ?_
          simp only [Act.put, zzA, zzB, zzC]
          refine tkz (i := 6) (d := 71) rfl rfl ?_
          simp only [Act.put, zzA, zzB, zzC]
          refine tkz (i := 7) (d := 72) rfl rfl ?_
          simp only [Act.put, zzA, zzB, zzC]
          refine tkz (i := 8) (d := 73) rfl rfl ?_
          simp only [Act.put, zzA, zzB, zzC]
          refine tkz (i := 9) (d := 74) rfl rfl ?_
          simp only [Act.put, zzA, zzB, zzC]
          refine tkz (i := 10) (d := 75) rfl rfl ?_
          simp only [Act.put, zzA, zzB, zzC]
          refine tkz (i := 11) (d := 76) rfl rfl ?_
          simp only [Act.put, zzA, zzB, zzC]
          refine rdz (i := 12) rfl (fun K hK => ?_)
          go_simp
          refine hK.out _ _ ⟨(World.cell?_setCell_far _ _ _ _ (fun h => NRG.out h.symm)).trans hHeld.1, (World.cell?_setCell_far _ _ _ _ (fun h => NBG.out h.symm)).trans hHeld.2⟩ (fun hHeld => ?_)
          clear hK K
          try simp only [Act.put, zzA, zzB, zzC]
          refine wpAnyH_done (by kernel_rfl) ?_ _
          go_wp2
          refine bodyPost_ret (v := .tuple #[]) (by simp [results, Try.results38, go_sem]) rfl ?_
          refine ⟨rfl, ⟨?_, HS5.out.seto HV9.out y⟩, HF5.out.setCell (p := ⟨g6, m, none⟩) (fun _ => .inr rfl) _⟩
          rw [show lenE len y y = L2 from (if_pos ⟨hl0, rfl⟩).trans HL2.out, show ptrE len N ptr y y = m2 from (if_pos ⟨hl0, rfl⟩).trans HM2.out]
          exact HR5.out.far (p := ⟨g6, m, none⟩) NRG.out _
        · go_simp
          refine hK.out _ _ hHeld (fun hHeld => ?_)
          clear hK K
          try simp only [Act.put, zzA, zzB, zzC]
          refine tkz (i := 12) (d := 55) rfl rfl ?_
          simp only [Act.put, zzA, zzB, zzC]
          refine tkz (i := 14) (d := 57) rfl rfl ?_
          simp only [Act.put, zzA, zzB, zzC]
          refine rdz (i := 7) rfl (fun K hK => ?_)
          go_simp
          refine (HIN.out _).mono ?_
          rintro e wq ⟨rfl, hs⟩
          rw [hs]
          clear hs wq
          go_wp2_with fail
          refine hK.out _ _ trivial (fun hHeld => ?_)
          clear hK K
          try simp only [Act.put, zzA, zzB, zzC]
          refine tkz (i := 15) (d := 58) rfl rfl ?_
          simp only [Act.put, zzA, zzB, zzC]
          refine tkz (i := 16) (d := 59) rfl rfl ?_
          simp only [Act.put, zzA, zzB, zzC]
          refine rdz (i := 17) rfl (fun K hK => ?_)
          go_simp
          refine hK.out _ _ trivial (fun hHeld => ?_)
          clear hK K
          try simp only [Act.put, zzA, zzB, zzC]
          refine tkz (i := 18) (d := 60) rfl rfl ?_
          simp only [Act.put, zzA, zzB, zzC]
          refine tkz (i := 19) (d := 61) rfl rfl ?_
          simp only [Act.put, zzA, zzB, zzC]
          refine rdz (i := 20) rfl (fun K hK => ?_)
          go_simp
          refine hK.out _ _ trivial (fun hHeld => ?_)
          clear hK K
          try simp only [Act.put, zzA, zzB, zzC]
          refine wpAnyH_done (by kernel_rfl) ?_ _
          clear e1 e2 e3
          have rr := (HR9.out.setv H15.out (.int .i64 (L2 : Int))).setv (k := o + 14) ((List.getElem?_set_ne (by omega)).trans H14.out) (.int .i64 (m2 : Int))
          have rs := (HS9.out.far (p := ⟨R, o + 15, none⟩) (fun h => NRG.out h.symm) (.int .i64 (L2 : Int))).far (p := ⟨R, o + 14, none⟩) (fun h => NRG.out h.symm) (.int .i64 (m2 : Int))
          have hf := (HF9.out.setCell (p := ⟨R, o + 15, none⟩) (fun _ => .inl rfl) (.int .i64 (L2 : Int))).setCell (p := ⟨R, o + 14, none⟩) (fun _ => .inl rfl) (.int .i64 (m2 : Int))
          have z13 := rr.at ((List.getElem?_set_ne (by omega)).trans ((List.getElem?_set_ne (by omega)).trans H13.out))
          have b3 := B3W.out _ hf
          clear z15 z14 z13a f15 f14 f14b b3a
          obtain ⟨w4, hwn⟩ : ∃ xq, (w9.setCell ⟨R, o + 15, none⟩ (.int .i64 (L2 : Int))).setCell ⟨R, o + 14, none⟩ (.int .i64 (m2 : Int)) = xq := ⟨_, rfl⟩
          rw [hwn] at rr rs hf z13 b3 ⊢
          clear hwn
          have HR4 := Lib.hid rr
          have HS4 := Lib.hid rs
          have HF4 := Lib.hid hf
          clear rr rs hf hHeld
          go_upto_region 6 with fail
          refine wp_region_held_drew (S := (fun W : World => W.cell? ⟨R, o + 13, none⟩ = some (.slice (some ⟨g6, 0, none⟩) N m6) ∧ W.cell? ⟨B, 3, none⟩ = some (.int .i64 (wh : Int)))) (by kernel_rfl) ⟨z13, b3⟩ (fun hHeld => ?_)
          have rr := HR4.out.drew
          have rs := HS4.out.drew
          have hf := HF4.out.drew
          obtain ⟨w5, hwn⟩ : ∃ xq, w4.drew = xq := ⟨_, rfl⟩
          rw [hwn] at rr rs hf hHeld ⊢
          clear hwn
          have HR5 := Lib.hid rr
          have HS5 := Lib.hid rs
          have HF5 := Lib.hid hf
          obtain ⟨v9, hv9⟩ : ∃ v9, S[m]? = some v9 := ⟨_, List.getElem?_eq_getElem (by rw [HSL.out]; exact hm)⟩
          have HV9 := Lib.hid hv9
          have q9 := row_o rs hv9
          have zq9 := rs.frozen m
          clear rr rs hf hv9
          refine tkz (i := 0) (d := 65) rfl rfl ?_
          simp only [Act.put, zzA, zzB, zzC]
          refine tkz (i := 1) (d := 66) rfl rfl ?_
          simp only [Act.put, zzA, zzB, zzC]
          refine tkz (i := 2) (d := 67) rfl rfl ?_
          simp only [Act.put, zzA, zzB, zzC]
          refine tkz (i := 3) (d := 68) rfl rfl ?_
          simp only [Act.put, zzA, zzB, zzC]
          refine tkz (i := 4) (d := 69) rfl rfl ?_
          simp only [Act.put, zzA, zzB, zzC]
          refine tkz (i := 5) (d := 70) rfl rfl ?_
          simp only [Act.put, zzA, zzB, zzC]
          refine tkz (i := 6) (d := 71) rfl rfl ?_
          simp only [Act.put, zzA, zzB, zzC]
          refine tkz (i := 7) (d := 72) rfl rfl ?_
          simp only [Act.put, zzA, zzB, zzC]
          refine tkz (i := 8) (d := 73) rfl rfl ?_
          simp only [Act.put, zzA, zzB, zzC]
          refine tkz (i := 9) (d := 74) rfl rfl ?_
          simp only [Act.put, zzA, zzB, zzC]
          refine tkz (i := 10) (d := 75) rfl rfl ?_
          simp only [Act.put, zzA, zzB, zzC]
          refine tkz (i := 11) (d := 76) rfl rfl ?_
          simp only [Act.put, zzA, zzB, zzC]
          refine rdz (i := 12) rfl (fun K hK => ?_)
          go_simp
          refine hK.out _ _ ⟨(World.cell?_setCell_far _ _ _ _ (fun h => NRG.out h.symm)).trans hHeld.1, (World.cell?_setCell_far _ _ _ _ (fun h => NBG.out h.symm)).trans hHeld.2⟩ (fun hHeld => ?_)
          clear hK K
          try simp only [Act.put, zzA, zzB, zzC]
          refine wpAnyH_done (by kernel_rfl) ?_ _
          go_wp2
          refine bodyPost_ret (v := .tuple #[]) (by simp [results, Try.results38, go_sem]) rfl ?_
          refine ⟨rfl, ⟨?_, HS5.out.seto HV9.out y⟩, HF5.out.setCell (p := ⟨g6, m, none⟩) (fun _ => .inr rfl) _⟩
          rw [show lenE len y y = L2 from (if_pos ⟨hl0, rfl⟩).trans HL2.out, show ptrE len N ptr y y = m2 from (if_pos ⟨hl0, rfl⟩).trans HM2.out]
          exact HR5.out.far (p := ⟨g6, m, none⟩) NRG.out _
      · go_simp
        refine hK.out _ _ hHeld (fun hHeld => ?_)
        clear hK K
        try simp only [Act.put, zzA, zzB, zzC]
        refine tkz (i := 12) (d := 55) rfl rfl ?_
        simp only [Act.put, zzA, zzB, zzC]
        refine tkz (i := 14) (d := 57) rfl rfl ?_
        simp only [Act.put, zzA, zzB, zzC]
        refine rdz (i := 5) rfl (fun K hK => ?_)
        go_simp
        refine hK.out _ _ hHeld (fun hHeld => ?_)
        clear hK K
        try simp only [Act.put, zzA, zzB, zzC]
        refine tkz (i := 6) (d := 49) rfl rfl ?_
        simp only [Act.put, zzA, zzB, zzC]
        refine rdz (i := 7) rfl (fun K hK => ?_)
        go_simp
        refine (HIN.out _).mono ?_
        rintro e wq ⟨rfl, hs⟩
        rw [hs]
        clear hs wq
        go_wp2_with fail
        refine hK.out _ _ trivial (fun hHeld => ?_)
        clear hK K
        try simp only [Act.put, zzA, zzB, zzC]
        refine tkz (i := 15) (d := 58) rfl rfl ?_
        simp only [Act.put, zzA, zzB, zzC]
        refine tkz (i := 16) (d := 59) rfl rfl ?_
        simp only [Act.put, zzA, zzB, zzC]
        refine rdz (i := 17) rfl (fun K hK => ?_)
        go_simp
        refine hK.out _ _ trivial (fun hHeld => ?_)
        clear hK K
        try simp only [Act.put, zzA, zzB, zzC]
        refine tkz (i := 18) (d := 60) rfl rfl ?_
        simp only [Act.put, zzA, zzB, zzC]
        refine tkz (i := 19) (d := 61) rfl rfl ?_
        simp only [Act.put, zzA, zzB, zzC]
        refine rdz (i := 20) rfl (fun K hK => ?_)
        go_simp
        refine hK.out _ _ trivial (fun hHeld => ?_)
        clear hK K
        try simp only [Act.put, zzA, zzB, zzC]
        refine wpAnyH_done (by kernel_rfl) ?_ _
        clear e1 e2 e3
        have rr := (HR9.out.setv H15.out (.int .i64 (L2 : Int))).setv (k := o + 14) ((List.getElem?_set_ne (by omega)).trans H14.out) (.int .i64 (m2 : Int))
        have rs := (HS9.out.far (p := ⟨R, o + 15, none⟩) (fun h => NRG.out h.symm) (.int .i64 (L2 : Int))).far (p := ⟨R, o + 14, none⟩) (fun h => NRG.out h.symm) (.int .i64 (m2 : Int))
        have hf := (HF9.out.setCell (p := ⟨R, o + 15, none⟩) (fun _ => .inl rfl) (.int .i64 (L2 : Int))).setCell (p := ⟨R, o + 14, none⟩) (fun _ => .inl rfl) (.int .i64 (m2 : Int))
        have z13 := rr.at ((List.getElem?_set_ne (by omega)).trans ((List.getElem?_set_ne (by omega)).trans H13.out))
        have b3 := B3W.out _ hf
        clear z15 z14 z13a f15 f14 f14b b3a
        obtain ⟨w4, hwn⟩ : ∃ xq, (w9.setCell ⟨R, o + 15, none⟩ (.int .i64 (L2 : Int))).setCell ⟨R, o + 14, none⟩ (.int .i64 (m2 : Int)) = xq := ⟨_, rfl⟩
        rw [hwn] at rr rs hf z13 b3 ⊢
        clear hwn
        have HR4 := Lib.hid rr
        have HS4 := Lib.hid rs
        have HF4 := Lib.hid hf
        clear rr rs hf hHeld
        go_upto_region 6 with fail
        refine wp_region_held_drew (S := (fun W : World => W.cell? ⟨R, o + 13, none⟩ = some (.slice (some ⟨g6, 0, none⟩) N m6) ∧ W.cell? ⟨B, 3, none⟩ = some (.int .i64 (wh : Int)))) (by kernel_rfl) ⟨z13, b3⟩ (fun hHeld => ?_)
        have rr := HR4.out.drew
        have rs := HS4.out.drew
        have hf := HF4.out.drew
        obtain ⟨w5, hwn⟩ : ∃ xq, w4.drew = xq := ⟨_, rfl⟩
        rw [hwn] at rr rs hf hHeld ⊢
        clear hwn
        have HR5 := Lib.hid rr
        have HS5 := Lib.hid rs
        have HF5 := Lib.hid hf
        obtain ⟨v9, hv9⟩ : ∃ v9, S[m]? = some v9 := ⟨_, List.getElem?_eq_getElem (by rw [HSL.out]; exact hm)⟩
        have HV9 := Lib.hid hv9
        have q9 := row_o rs hv9
        have zq9 := rs.frozen m
        clear rr rs hf hv9
        refine tkz (i := 0) (d := 65) rfl rfl ?_
        simp only [Act.put, zzA, zzB, zzC]
        refine tkz (i := 1) (d := 66) rfl rfl ?_
        simp only [Act.put, zzA, zzB, zzC]
        refine tkz (i := 2) (d := 67) rfl rfl ?_
        simp only [Act.put, zzA, zzB, zzC]
        refine tkz (i := 3) (d := 68) rfl rfl ?_
        simp only [Act.put, zzA, zzB, zzC]
        refine tkz (i := 4) (d := 69) rfl rfl ?_
        simp only [Act.put, zzA, zzB, zzC]
        refine tkz (i := 5) (d := 70) rfl rfl ?_
        simp only [Act.put, zzA, zzB, zzC]
        refine tkz (i := 6) (d := 71) rfl rfl ?_
        simp only [Act.put, zzA, zzB, zzC]
        refine tkz (i := 7) (d := 72) rfl rfl ?_
        simp only [Act.put, zzA, zzB, zzC]
        refine tkz (i := 8) (d := 73) rfl rfl ?_
        simp only [Act.put, zzA, zzB, zzC]
        refine tkz (i := 9) (d := 74) rfl rfl ?_
        simp only [Act.put, zzA, zzB, zzC]
        refine tkz (i := 10) (d := 75) rfl rfl ?_
        simp only [Act.put, zzA, zzB, zzC]
        refine tkz (i := 11) (d := 76) rfl rfl ?_
        simp only [Act.put, zzA, zzB, zzC]
        refine rdz (i := 12) rfl (fun K hK => ?_)
        go_simp
        refine hK.out _ _ ⟨(World.cell?_setCell_far _ _ _ _ (fun h => NRG.out h.symm)).trans hHeld.1, (World.cell?_setCell_far _ _ _ _ (fun h => NBG.out h.symm)).trans hHeld.2⟩ (fun hHeld => ?_)
        clear hK K
        try simp only [Act.put, zzA, zzB, zzC]
        refine wpAnyH_done (by kernel_rfl) ?_ _
        go_wp2
        refine bodyPost_ret (v := .tuple #[]) (by simp [results, Try.results38, go_sem]) rfl ?_
        refine ⟨rfl, ⟨?_, HS5.out.seto HV9.out y⟩, HF5.out.setCell (p := ⟨g6, m, none⟩) (fun _ => .inr rfl) _⟩
        rw [show lenE len y y = L2 from (if_pos ⟨hl0, rfl⟩).trans HL2.out, show ptrE len N ptr y y = m2 from (if_pos ⟨hl0, rfl⟩).trans HM2.out]
        exact HR5.out.far (p := ⟨g6, m, none⟩) NRG.out _
    · have hq : (y == x) = false := by simpa using hyx
      refine wp_region_held_drew (S := (fun W : World => W.cell? ⟨R, o + 13, none⟩ = some (.slice (some ⟨g6, 0, none⟩) N m6) ∧ W.cell? ⟨R, o + 14, none⟩ = some (.int .i64 (ptr : Int)) ∧ W.cell? ⟨R, o + 15, none⟩ = some (.int .i64 (len : Int)) ∧ W.cell? ⟨g6, ptr, none⟩ = some (.int .u8 y) ∧ W.cell? ⟨B, 3, none⟩ = some (.int .i64 (wh : Int)))) (by kernel_rfl) ⟨z13, z14, z15, s0, b3⟩ (fun hHeld => ?_)
      refine tkz (i := 0) (d := 24) rfl rfl ?_
      simp only [Act.put, zzA, zzB, zzC]
      refine tkz (i := 1) (d := 25) rfl rfl ?_
      simp only [Act.put, zzA, zzB, zzC]
      refine tkz (i := 2) (d := 26) rfl rfl ?_
      simp only [Act.put, zzA, zzB, zzC]
      refine tkz (i := 3) (d := 27) rfl rfl ?_
      simp only [Act.put, zzA, zzB, zzC]
      refine tkz (i := 4) (d := 28) rfl rfl ?_
      simp only [Act.put, zzA, zzB, zzC]
      refine tkz (i := 5) (d := 29) rfl rfl ?_
      simp only [Act.put, zzA, zzB, zzC]
      refine tkz (i := 6) (d := 30) rfl rfl ?_
      simp only [Act.put, zzA, zzB, zzC]
      refine tkz (i := 7) (d := 31) rfl rfl ?_
      simp only [Act.put, zzA, zzB, zzC]
      refine tkz (i := 8) (d := 32) rfl rfl ?_
      simp only [Act.put, zzA, zzB, zzC]
      refine tkz (i := 9) (d := 33) rfl rfl ?_
      simp only [Act.put, zzA, zzB, zzC]
      refine tkz (i := 10) (d := 34) rfl rfl ?_
      simp only [Act.put, zzA, zzB, zzC]
      refine tkz (i := 11) (d := 35) rfl rfl ?_
      simp only [Act.put, zzA, zzB, zzC]
      refine tkz (i := 12) (d := 36) rfl rfl ?_
      simp only [Act.put, zzA, zzB, zzC]
      refine tkz (i := 13) (d := 37) rfl rfl ?_
      simp only [Act.put, zzA, zzB, zzC]
      refine tkz (i := 14) (d := 38) rfl rfl ?_
      simp only [Act.put, zzA, zzB, zzC]
      refine tkz (i := 15) (d := 39) rfl rfl ?_
      simp only [Act.put, zzA, zzB, zzC]
      refine tkz (i := 16) (d := 40) rfl rfl ?_
      simp only [Act.put, zzA, zzB, zzC]
      refine tkz (i := 17) (d := 41) rfl rfl ?_
      simp only [Act.put, zzA, zzB, zzC]
      refine tkz (i := 18) (d := 42) rfl rfl ?_
      simp only [Act.put, zzA, zzB, zzC]
      refine wpAnyH_done (by kernel_rfl) ?_ _
      obtain ⟨z13, z14, z15, s0, b3⟩ := hHeld
      have rr := HR.out.drew
      have rs := HS.out.drew
      have hf : Frm (fun b => b = R ∨ b = g6) w w.drew := (Frm.refl _ w).drew
      obtain ⟨w3, hwn⟩ : ∃ xq, w.drew = xq := ⟨_, rfl⟩
      rw [hwn] at rr rs hf z13 z14 z15 s0 b3 ⊢
      clear hwn
      have HR3 := Lib.hid rr
      have HS3 := Lib.hid rs
      have HF3 := Lib.hid hf
      clear rr rs hf
      have z15f := HR3.out.frozen (o + 15)
      have z14f := HR3.out.frozen (o + 14)
      go_upto_region 6 with fail
      have rr := HR3.out.setv H15.out (.int .i64 0)
      have rs := HS3.out.far (p := ⟨R, o + 15, none⟩) (fun h => NRG.out h.symm) (.int .i64 0)
      have hf := HF3.out.setCell (p := ⟨R, o + 15, none⟩) (fun _ => .inl rfl) (.int .i64 0)
      have b3z : (w3.setCell ⟨R, o + 15, none⟩ (.int .i64 0)).cell? ⟨B, 3, none⟩ = some (.int .i64 (wh : Int)) := (World.cell?_setCell_far _ _ _ _ (fun h => NBR.out h.symm)).trans b3
      have z13z := rr.at ((List.getElem?_set_ne (by omega)).trans H13.out)
      rw [show zs.set (o + 15) (.int .i64 0) = (zs.set (o + 15) (.int .i64 0)).set (o + 14) (.int .i64 (ptr : Int)) from (set_same ((List.getElem?_set_ne (by omega)).trans H14.out)).symm] at rr
      clear z13 z14 z15 s0 b3
      obtain ⟨w4, hwn⟩ : ∃ xq, w3.setCell ⟨R, o + 15, none⟩ (.int .i64 0) = xq := ⟨_, rfl⟩
      rw [hwn] at rr rs hf b3z z13z ⊢
      clear hwn
      have z13 := z13z
      have b3 := b3z
      have HR4 := Lib.hid rr
      have HS4 := Lib.hid rs
      have HF4 := Lib.hid hf
      clear rr rs hf z13z b3z
      refine wp_region_held_drew (S := (fun W : World => W.cell? ⟨R, o + 13, none⟩ = some (.slice (some ⟨g6, 0, none⟩) N m6) ∧ W.cell? ⟨B, 3, none⟩ = some (.int .i64 (wh : Int)))) (by kernel_rfl) ⟨z13, b3⟩ (fun hHeld => ?_)
      have rr := HR4.out.drew
      have rs := HS4.out.drew
      have hf := HF4.out.drew
      obtain ⟨w5, hwn⟩ : ∃ xq, w4.drew = xq := ⟨_, rfl⟩
      rw [hwn] at rr rs hf hHeld ⊢
      clear hwn
      have HR5 := Lib.hid rr
      have HS5 := Lib.hid rs
      have HF5 := Lib.hid hf
      obtain ⟨v9, hv9⟩ : ∃ v9, S[m]? = some v9 := ⟨_, List.getElem?_eq_getElem (by rw [HSL.out]; exact hm)⟩
      have HV9 := Lib.hid hv9
      have q9 := row_o rs hv9
      have zq9 := rs.frozen m
      clear rr rs hf hv9
      refine tkz (i := 0) (d := 65) rfl rfl ?_
      simp only [Act.put, zzA, zzB, zzC]
      refine tkz (i := 1) (d := 66) rfl rfl ?_
      simp only [Act.put, zzA, zzB, zzC]
      refine tkz (i := 2) (d := 67) rfl rfl ?_
      simp only [Act.put, zzA, zzB, zzC]
      refine tkz (i := 3) (d := 68) rfl rfl ?_
      simp only [Act.put, zzA, zzB, zzC]
      refine tkz (i := 4) (d := 69) rfl rfl ?_
      simp only [Act.put, zzA, zzB, zzC]
      refine tkz (i := 5) (d := 70) rfl rfl ?_
      simp only [Act.put, zzA, zzB, zzC]
      refine tkz (i := 6) (d := 71) rfl rfl ?_
      simp only [Act.put, zzA, zzB, zzC]
      refine tkz (i := 7) (d := 72) rfl rfl ?_
      simp only [Act.put, zzA, zzB, zzC]
      refine tkz (i := 8) (d := 73) rfl rfl ?_
      simp only [Act.put, zzA, zzB, zzC]
      refine tkz (i := 9) (d := 74) rfl rfl ?_
      simp only [Act.put, zzA, zzB, zzC]
      refine tkz (i := 10) (d := 75) rfl rfl ?_
      simp only [Act.put, zzA, zzB, zzC]
      refine tkz (i := 11) (d := 76) rfl rfl ?_
      simp only [Act.put, zzA, zzB, zzC]
      refine rdz (i := 12) rfl (fun K hK => ?_)
      go_simp
      refine hK.out _ _ ⟨(World.cell?_setCell_far _ _ _ _ (fun h => NRG.out h.symm)).trans hHeld.1, (World.cell?_setCell_far _ _ _ _ (fun h => NBG.out h.symm)).trans hHeld.2⟩ (fun hHeld => ?_)
      clear hK K
      try simp only [Act.put, zzA, zzB, zzC]
      refine wpAnyH_done (by kernel_rfl) ?_ _
      go_wp2
      refine bodyPost_ret (v := .tuple #[]) (by simp [results, Try.results38, go_sem]) rfl ?_
      refine ⟨rfl, ⟨?_, HS5.out.seto HV9.out x⟩, HF5.out.setCell (p := ⟨g6, m, none⟩) (fun _ => .inr rfl) _⟩
      rw [show lenE len y x = 0 from if_neg (fun h => hyx h.2), show ptrE len N ptr y x = ptr from if_neg (fun h => hyx h.2)]
      exact HR5.out.far (p := ⟨g6, m, none⟩) NRG.out _
end Go.Proofs.Ytnohfeaamfjimaa
