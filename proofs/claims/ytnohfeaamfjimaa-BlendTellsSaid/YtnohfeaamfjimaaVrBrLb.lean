/- The reference leans, an average and a pair: walks. -/
import Derived.Test.YtnohfeaamfjimaaVrBrA
import Derived.StillTailTactics
import Derived.IntWalk
namespace Go.Proofs.Ytnohfeaamfjimaa
open Go.RowKit Go.WideShapes
set_option linter.unusedVariables false
set_option linter.unusedSimpArgs false
set_option maxRecDepth 100000 in
set_option maxHeartbeats 4000000 in
theorem leanR5 (B R i n cr : Nat) (h c ptr len : Int) (s a : Nat) (pc pr pl : Int) (pa pb : Nat) (A1 A2 A3 A4 A5 A6 : Option Addr) (n1 m1 n2 m2 n3 m3 n4 m4 n5 m5 n6 m6 : Nat) (x y : Int) (gL nL cL : Nat) (w : World) (h0 : 0 ≤ h) (h1 : h ≤ 4294967295) (c0 : 0 ≤ c) (c1 : c ≤ 255) (s2 : s ≤ 16) (ha : placeI h c s = (a : Int)) (hi : i < n) (hpa : pa < nL) (hpb : pb < nL) (x0 : -2047 ≤ x) (x1 : x ≤ 2047) (y0 : -2047 ≤ y) (y1 : y ≤ 2047) (pc0 : 0 ≤ pc) (pc1 : pc ≤ 256) (b0 : w.cell? ⟨B, 0, none⟩ = some (.slice (some ⟨R, 0, none⟩) n cr)) (b1 : w.cell? ⟨B, 1, none⟩ = some (.int .i64 c)) (q0 : w.cell? ⟨R, i * 16, none⟩ = some (.int .u8 5)) (q1 : w.cell? ⟨R, i * 16 + 1, none⟩ = some (.int .i64 (s : Int))) (q2 : w.cell? ⟨R, i * 16 + 2, none⟩ = some (.int .i64 (pa : Int))) (q3 : w.cell? ⟨R, i * 16 + 3, none⟩ = some (.int .i64 (pb : Int))) (q4 : w.cell? ⟨R, i * 16 + 4, none⟩ = some (.int .i64 pc)) (q5 : w.cell? ⟨R, i * 16 + 5, none⟩ = some (.int .i64 pr)) (q6 : w.cell? ⟨R, i * 16 + 6, none⟩ = some (.int .i64 pl)) (q7 : w.cell? ⟨R, i * 16 + 7, none⟩ = some (.int .u32 h)) (q8 : w.cell? ⟨R, i * 16 + 8, none⟩ = some (.slice A1 n1 m1)) (q9 : w.cell? ⟨R, i * 16 + 9, none⟩ = some (.slice A2 n2 m2)) (q10 : w.cell? ⟨R, i * 16 + 10, none⟩ = some (.slice A3 n3 m3)) (q11 : w.cell? ⟨R, i * 16 + 11, none⟩ = some (.slice A4 n4 m4)) (q12 : w.cell? ⟨R, i * 16 + 12, none⟩ = some (.slice A5 n5 m5)) (q13 : w.cell? ⟨R, i * 16 + 13, none⟩ = some (.slice A6 n6 m6)) (q14 : w.cell? ⟨R, i * 16 + 14, none⟩ = some (.int .i64 ptr)) (q15 : w.cell? ⟨R, i * 16 + 15, none⟩ = some (.int .i64 len)) (l0 : w.cell? ⟨gL, pa, none⟩ = some (.int .i64 x)) (l1 : w.cell? ⟨gL, pb, none⟩ = some (.int .i64 y)) :
    Calls Try.prog 40 #[.pointer (some ⟨B, 0, none⟩), .int .i64 (i : Int), .slice (some ⟨gL, 0, none⟩) nL cL] w (Quiet (.int .i64 ((pc * x + (256 - pc) * y) / 256)) w) := by
  have h1 := mulB (a := pc) (b := x) (A := 256) (B := 2047) (by omega) (by omega) x0 x1
  have h2 := mulB (a := 256 - pc) (b := y) (A := 256) (B := 2047) (by omega) (by omega) y0 y1
  have e1 := IntWalk.i64_in (pc * x) (by omega)
  have e2 := IntWalk.i64_in (256 - pc) (by omega)
  have e3 := IntWalk.i64_in ((256 - pc) * y) (by omega)
  have e4 := IntWalk.i64_in (pc * x + (256 - pc) * y) (by omega)
  have HDN := Lib.hid (fun W => downR (pc * x + (256 - pc) * y) 256 W (by omega) (by omega) (by omega))
  have hpa : (pa : Int) < nL := by omega
  have hpb : (pb : Int) < nL := by omega
  clear h1 h2
  have E1 := Lib.hid e1
  have E2 := Lib.hid e2
  have E3 := Lib.hid e3
  have E4 := Lib.hid e4
  clear e1 e2 e3 e4 x0 x1 y0 y1
  have HPL := Lib.hid (show ∀ W, Calls Try.prog 54 #[.int .u32 h, .int .i64 c, .int .i64 (s : Int)] W (Sam (.int .i64 (a : Int)) W) from fun W => ha ▸ placeR h c s W h0 h1 c0 c1 s2)
  have hii : (i : Int) < n := by omega
  clear h0 h1 c0 c1 s2 ha
  have hbz : Below w.heap.size w ((w.alloc (.cells #[.int .u8 5, .int .i64 (s : Int), .int .i64 (pa : Int), .int .i64 (pb : Int), .int .i64 pc, .int .i64 pr, .int .i64 pl, .int .u32 h, .slice A1 n1 m1, .slice A2 n2 m2, .slice A3 n3 m3, .slice A4 n4 m4, .slice A5 n5 m5, .slice A6 n6 m6, .int .i64 ptr, .int .i64 len] 74)).alloc (.cells #[.int .u8 5, .int .i64 (s : Int), .int .i64 (pa : Int), .int .i64 (pb : Int), .int .i64 pc, .int .i64 pr, .int .i64 pl] 25)) := ((Below.refl _ _).alloc (Nat.le_refl _) _).alloc (by simp) _
  have b1z := ck b1 hbz
  have l0z := ck l0 hbz
  have l1z := ck l1 hbz
  clear l0 l1
  go_enter Try.func40, Try.ntmps40
  go_upto_region 3 with fail
  obtain ⟨w2, hw2⟩ : ∃ xq, (w.alloc (.cells #[.int .u8 5, .int .i64 (s : Int), .int .i64 (pa : Int), .int .i64 (pb : Int), .int .i64 pc, .int .i64 pr, .int .i64 pl, .int .u32 h, .slice A1 n1 m1, .slice A2 n2 m2, .slice A3 n3 m3, .slice A4 n4 m4, .slice A5 n5 m5, .slice A6 n6 m6, .int .i64 ptr, .int .i64 len] 74)).alloc (.cells #[.int .u8 5, .int .i64 (s : Int), .int .i64 (pa : Int), .int .i64 (pb : Int), .int .i64 pc, .int .i64 pr, .int .i64 pl] 25) = xq := ⟨_, rfl⟩
  have k74 : Blk w2 w.heap.size 74 #[.int .u8 5, .int .i64 (s : Int), .int .i64 (pa : Int), .int .i64 (pb : Int), .int .i64 pc, .int .i64 pr, .int .i64 pl, .int .u32 h, .slice A1 n1 m1, .slice A2 n2 m2, .slice A3 n3 m3, .slice A4 n4 m4, .slice A5 n5 m5, .slice A6 n6 m6, .int .i64 ptr, .int .i64 len] := hw2 ▸ (Blk.new w _ _).alloc _
  have k25 : Blk w2 (w.heap.size + 1) 25 #[.int .u8 5, .int .i64 (s : Int), .int .i64 (pa : Int), .int .i64 (pb : Int), .int .i64 pc, .int .i64 pr, .int .i64 pl] := by
    have := Blk.new (w.alloc (.cells #[.int .u8 5, .int .i64 (s : Int), .int .i64 (pa : Int), .int .i64 (pb : Int), .int .i64 pc, .int .i64 pr, .int .i64 pl, .int .u32 h, .slice A1 n1 m1, .slice A2 n2 m2, .slice A3 n3 m3, .slice A4 n4 m4, .slice A5 n5 m5, .slice A6 n6 m6, .int .i64 ptr, .int .i64 len] 74)) 25 #[.int .u8 5, .int .i64 (s : Int), .int .i64 (pa : Int), .int .i64 (pb : Int), .int .i64 pc, .int .i64 pr, .int .i64 pl]
    rw [hw2] at this
    simpa using this
  rw [hw2] at hbz b1z l0z l1z ⊢
  have HB2 := Lib.hid hbz
  have x7 : w2.cell? ⟨w.heap.size, 7, none⟩ = some (.int .u32 h) := k74.cell 7
  have y0 : w2.cell? ⟨w.heap.size + 1, 0, none⟩ = some (.int .u8 5) := k25.cell 0
  have y1 : w2.cell? ⟨w.heap.size + 1, 1, none⟩ = some (.int .i64 (s : Int)) := k25.cell 1
  have y2 : w2.cell? ⟨w.heap.size + 1, 2, none⟩ = some (.int .i64 (pa : Int)) := k25.cell 2
  have y3 : w2.cell? ⟨w.heap.size + 1, 3, none⟩ = some (.int .i64 (pb : Int)) := k25.cell 3
  have y4 : w2.cell? ⟨w.heap.size + 1, 4, none⟩ = some (.int .i64 pc) := k25.cell 4
  have y5 : w2.cell? ⟨w.heap.size + 1, 5, none⟩ = some (.int .i64 pr) := k25.cell 5
  have y6 : w2.cell? ⟨w.heap.size + 1, 6, none⟩ = some (.int .i64 pl) := k25.cell 6
  have b1 : w2.cell? ⟨B, 1, none⟩ = some (.int .i64 c) := b1z
  have l0 : w2.cell? ⟨gL, pa, none⟩ = some (.int .i64 x) := l0z
  have l1 : w2.cell? ⟨gL, pb, none⟩ = some (.int .i64 y) := l1z
  have HF := Lib.hid (show ∀ W : World, Below w2.heap.size w2 W → W.cell? ⟨w.heap.size, 7, none⟩ = some (.int .u32 h) ∧ W.cell? ⟨w.heap.size + 1, 0, none⟩ = some (.int .u8 5) ∧ W.cell? ⟨w.heap.size + 1, 1, none⟩ = some (.int .i64 (s : Int)) ∧ W.cell? ⟨w.heap.size + 1, 2, none⟩ = some (.int .i64 (pa : Int)) ∧ W.cell? ⟨w.heap.size + 1, 3, none⟩ = some (.int .i64 (pb : Int)) ∧ W.cell? ⟨w.heap.size + 1, 4, none⟩ = some (.int .i64 pc) ∧ W.cell? ⟨w.heap.size + 1, 5, none⟩ = some (.int .i64 pr) ∧ W.cell? ⟨w.heap.size + 1, 6, none⟩ = some (.int .i64 pl) ∧ W.cell? ⟨B, 1, none⟩ = some (.int .i64 c) ∧ W.cell? ⟨gL, pa, none⟩ = some (.int .i64 x) ∧ W.cell? ⟨gL, pb, none⟩ = some (.int .i64 y) ∧ Below w2.heap.size w2 W from fun W hL => ⟨ck x7 hL, ck y0 hL, ck y1 hL, ck y2 hL, ck y3 hL, ck y4 hL, ck y5 hL, ck y6 hL, ck b1 hL, ck l0 hL, ck l1 hL, hL⟩)
  clear hw2 hbz k74 k25 x7 y0 y1 y2 y3 y4 y5 y6 b1 l0 l1 b1z l0z l1z
  clear q0 q1 q2 q3 q4 q5 q6 q7 q8 q9 q10 q11 q12 q13 q14 q15 b0
  refine wp_region_held_drew (S := (fun W : World => W.cell? ⟨w.heap.size, 7, none⟩ = some (.int .u32 h) ∧ W.cell? ⟨w.heap.size + 1, 0, none⟩ = some (.int .u8 5) ∧ W.cell? ⟨w.heap.size + 1, 1, none⟩ = some (.int .i64 (s : Int)) ∧ W.cell? ⟨w.heap.size + 1, 2, none⟩ = some (.int .i64 (pa : Int)) ∧ W.cell? ⟨w.heap.size + 1, 3, none⟩ = some (.int .i64 (pb : Int)) ∧ W.cell? ⟨w.heap.size + 1, 4, none⟩ = some (.int .i64 pc) ∧ W.cell? ⟨w.heap.size + 1, 5, none⟩ = some (.int .i64 pr) ∧ W.cell? ⟨w.heap.size + 1, 6, none⟩ = some (.int .i64 pl) ∧ W.cell? ⟨B, 1, none⟩ = some (.int .i64 c) ∧ W.cell? ⟨gL, pa, none⟩ = some (.int .i64 x) ∧ W.cell? ⟨gL, pb, none⟩ = some (.int .i64 y) ∧ Below w2.heap.size w2 W)) (by kernel_rfl) (HF.out _ (below_drewN (Below.refl _ _) 1)) (fun hHeld => ?_)
  refine tkz (i := 0) (d := 22) rfl rfl ?_
  simp only [Act.put, zzA, zzB, zzC]
  refine tkz (i := 1) (d := 23) rfl rfl ?_
  simp only [Act.put, zzA, zzB, zzC]
  refine tkz (i := 2) (d := 24) rfl rfl ?_
  simp only [Act.put, zzA, zzB, zzC]
  refine tkz (i := 3) (d := 25) rfl rfl ?_
  simp only [Act.put, zzA, zzB, zzC]
  refine tkz (i := 4) (d := 26) rfl rfl ?_
  simp only [Act.put, zzA, zzB, zzC]
  refine tkz (i := 5) (d := 27) rfl rfl ?_
  simp only [Act.put, zzA, zzB, zzC]
  refine tkz (i := 6) (d := 28) rfl rfl ?_
  simp only [Act.put, zzA, zzB, zzC]
  refine tkz (i := 7) (d := 29) rfl rfl ?_
  simp only [Act.put, zzA, zzB, zzC]
  refine rdz (i := 8) rfl (fun K hK => ?_)
  go_simp
  refine (HPL.out _).mono ?_
  rintro e w3 ⟨rfl, rfl⟩
  go_wp2_with fail
  refine hK.out _ _ hHeld (fun hHeld => ?_)
  clear hK K
  try simp only [Act.put, zzA, zzB, zzC]
  refine tkz (i := 9) (d := 9) rfl rfl ?_
  simp only [Act.put, zzA, zzB, zzC]
  refine wpAnyH_done (by kernel_rfl) ?_ _
  have HL3 := Lib.hid (hHeld.2.2.2.2.2.2.2.2.2.2.2)
  obtain ⟨x7, y0, y1, y2, y3, y4, y5, y6, b1, l0, l1, _⟩ := hHeld
  clear HPL
  go_upto_region 14 with fail
  have e1 := E1.out
  have e2 := E2.out
  have e3 := E3.out
  have e4 := E4.out
  refine wp_region_held_drew (S := (fun W : World => W.cell? ⟨w.heap.size, 7, none⟩ = some (.int .u32 h) ∧ W.cell? ⟨w.heap.size + 1, 0, none⟩ = some (.int .u8 5) ∧ W.cell? ⟨w.heap.size + 1, 1, none⟩ = some (.int .i64 (s : Int)) ∧ W.cell? ⟨w.heap.size + 1, 2, none⟩ = some (.int .i64 (pa : Int)) ∧ W.cell? ⟨w.heap.size + 1, 3, none⟩ = some (.int .i64 (pb : Int)) ∧ W.cell? ⟨w.heap.size + 1, 4, none⟩ = some (.int .i64 pc) ∧ W.cell? ⟨w.heap.size + 1, 5, none⟩ = some (.int .i64 pr) ∧ W.cell? ⟨w.heap.size + 1, 6, none⟩ = some (.int .i64 pl) ∧ W.cell? ⟨B, 1, none⟩ = some (.int .i64 c) ∧ W.cell? ⟨gL, pa, none⟩ = some (.int .i64 x) ∧ W.cell? ⟨gL, pb, none⟩ = some (.int .i64 y) ∧ Below w2.heap.size w2 W)) (by kernel_rfl) (HF.out _ (HL3.out.drew)) (fun hHeld => ?_)
  refine tkz (i := 0) (d := 66) rfl rfl ?_
  simp only [Act.put, zzA, zzB, zzC]
  refine tkz (i := 1) (d := 67) rfl rfl ?_
  simp only [Act.put, zzA, zzB, zzC]
  refine tkz (i := 2) (d := 68) rfl rfl ?_
  simp only [Act.put, zzA, zzB, zzC]
  refine tkz (i := 3) (d := 69) rfl rfl ?_
  simp only [Act.put, zzA, zzB, zzC]
  refine tkz (i := 4) (d := 70) rfl rfl ?_
  simp only [Act.put, zzA, zzB, zzC]
  refine tkz (i := 5) (d := 71) rfl rfl ?_
  simp only [Act.put, zzA, zzB, zzC]
  refine tkz (i := 6) (d := 72) rfl rfl ?_
  simp only [Act.put, zzA, zzB, zzC]
  refine tkz (i := 7) (d := 73) rfl rfl ?_
  simp only [Act.put, zzA, zzB, zzC]
  refine tkz (i := 8) (d := 74) rfl rfl ?_
  simp only [Act.put, zzA, zzB, zzC]
  refine tkz (i := 9) (d := 75) rfl rfl ?_
  simp only [Act.put, zzA, zzB, zzC]
  refine tkz (i := 10) (d := 76) rfl rfl ?_
  simp only [Act.put, zzA, zzB, zzC]
  refine tkz (i := 11) (d := 77) rfl rfl ?_
  simp only [Act.put, zzA, zzB, zzC]
  refine tkz (i := 12) (d := 78) rfl rfl ?_
  simp only [Act.put, zzA, zzB, zzC]
  refine tkz (i := 13) (d := 79) rfl rfl ?_
  simp only [Act.put, zzA, zzB, zzC]
  refine tkz (i := 14) (d := 80) rfl rfl ?_
  simp only [Act.put, zzA, zzB, zzC]
  refine tkz (i := 15) (d := 81) rfl rfl ?_
  simp only [Act.put, zzA, zzB, zzC]
  refine tkz (i := 16) (d := 82) rfl rfl ?_
  simp only [Act.put, zzA, zzB, zzC]
  refine tkz (i := 17) (d := 83) rfl rfl ?_
  simp only [Act.put, zzA, zzB, zzC]
  refine rdz (i := 18) rfl (fun K hK => ?_)
  go_simp
  refine (HDN.out _).mono ?_
  rintro e w4 ⟨rfl, rfl⟩
  go_wp2_with fail
  refine hK.out _ _ hHeld (fun hHeld => ?_)
  clear hK K
  try simp only [Act.put, zzA, zzB, zzC]
  refine tkz (i := 19) (d := 6) rfl rfl ?_
  simp only [Act.put, zzA, zzB, zzC]
  refine wpAnyH_done (by kernel_rfl) ?_ _
  clear e1 e2 e3 e4
  go_wp2
  go_ret
  exact ⟨rfl, bl_step HB2.out (hHeld.2.2.2.2.2.2.2.2.2.2.2)⟩
set_option maxRecDepth 100000 in
set_option maxHeartbeats 4000000 in
theorem leanR6 (B R i n cr : Nat) (h c ptr len : Int) (s a : Nat) (pc pr pl : Int) (pa pb : Nat) (A1 A2 A3 A5 A6 : Option Addr) (g4 : Nat) (n1 m1 n2 m2 n3 m3 n4 m4 n5 m5 n6 m6 : Nat) (x y v : Int) (gL nL cL : Nat) (w : World) (h0 : 0 ≤ h) (h1 : h ≤ 4294967295) (c0 : 0 ≤ c) (c1 : c ≤ 255) (s2 : s ≤ 16) (ha : placeI h c s = (a : Int)) (hi : i < n) (hpa : pa < nL) (hpb : pb < nL) (x0 : -2047 ≤ x) (x1 : x ≤ 2047) (y0 : -2047 ≤ y) (y1 : y ≤ 2047) (ha4 : a < n4) (v0 : 0 ≤ v) (v1 : v ≤ 65535) (b0 : w.cell? ⟨B, 0, none⟩ = some (.slice (some ⟨R, 0, none⟩) n cr)) (b1 : w.cell? ⟨B, 1, none⟩ = some (.int .i64 c)) (q0 : w.cell? ⟨R, i * 16, none⟩ = some (.int .u8 6)) (q1 : w.cell? ⟨R, i * 16 + 1, none⟩ = some (.int .i64 (s : Int))) (q2 : w.cell? ⟨R, i * 16 + 2, none⟩ = some (.int .i64 (pa : Int))) (q3 : w.cell? ⟨R, i * 16 + 3, none⟩ = some (.int .i64 (pb : Int))) (q4 : w.cell? ⟨R, i * 16 + 4, none⟩ = some (.int .i64 pc)) (q5 : w.cell? ⟨R, i * 16 + 5, none⟩ = some (.int .i64 pr)) (q6 : w.cell? ⟨R, i * 16 + 6, none⟩ = some (.int .i64 pl)) (q7 : w.cell? ⟨R, i * 16 + 7, none⟩ = some (.int .u32 h)) (q8 : w.cell? ⟨R, i * 16 + 8, none⟩ = some (.slice A1 n1 m1)) (q9 : w.cell? ⟨R, i * 16 + 9, none⟩ = some (.slice A2 n2 m2)) (q10 : w.cell? ⟨R, i * 16 + 10, none⟩ = some (.slice A3 n3 m3)) (q11 : w.cell? ⟨R, i * 16 + 11, none⟩ = some (.slice (some ⟨g4, 0, none⟩) n4 m4)) (q12 : w.cell? ⟨R, i * 16 + 12, none⟩ = some (.slice A5 n5 m5)) (q13 : w.cell? ⟨R, i * 16 + 13, none⟩ = some (.slice A6 n6 m6)) (q14 : w.cell? ⟨R, i * 16 + 14, none⟩ = some (.int .i64 ptr)) (q15 : w.cell? ⟨R, i * 16 + 15, none⟩ = some (.int .i64 len)) (l0 : w.cell? ⟨gL, pa, none⟩ = some (.int .i64 x)) (l1 : w.cell? ⟨gL, pb, none⟩ = some (.int .i64 y)) (r0 : w.cell? ⟨g4, a, none⟩ = some (.int .i64 v)) :
    Calls Try.prog 40 #[.pointer (some ⟨B, 0, none⟩), .int .i64 (i : Int), .slice (some ⟨gL, 0, none⟩) nL cL] w (Quiet (.int .i64 ((v * x + (65536 - v) * y) / 65536)) w) := by
  have h1 := mulB (a := v) (b := x) (A := 65536) (B := 2047) (by omega) (by omega) x0 x1
  have h2 := mulB (a := 65536 - v) (b := y) (A := 65536) (B := 2047) (by omega) (by omega) y0 y1
  have e1 := IntWalk.i64_in (v * x) (by omega)
  have e2 := IntWalk.i64_in (65536 - v) (by omega)
  have e3 := IntWalk.i64_in ((65536 - v) * y) (by omega)
  have e4 := IntWalk.i64_in (v * x + (65536 - v) * y) (by omega)
  have HDN := Lib.hid (fun W => downR (v * x + (65536 - v) * y) 65536 W (by omega) (by omega) (by omega))
  have hpa : (pa : Int) < nL := by omega
  have hpb : (pb : Int) < nL := by omega
  clear h1 h2
  have E1 := Lib.hid e1
  have E2 := Lib.hid e2
  have E3 := Lib.hid e3
  have E4 := Lib.hid e4
  clear e1 e2 e3 e4 x0 x1 y0 y1
  have HPL := Lib.hid (show ∀ W, Calls Try.prog 54 #[.int .u32 h, .int .i64 c, .int .i64 (s : Int)] W (Sam (.int .i64 (a : Int)) W) from fun W => ha ▸ placeR h c s W h0 h1 c0 c1 s2)
  have hii : (i : Int) < n := by omega
  clear h0 h1 c0 c1 s2 ha
  have hbz : Below w.heap.size w ((w.alloc (.cells #[.int .u8 6, .int .i64 (s : Int), .int .i64 (pa : Int), .int .i64 (pb : Int), .int .i64 pc, .int .i64 pr, .int .i64 pl, .int .u32 h, .slice A1 n1 m1, .slice A2 n2 m2, .slice A3 n3 m3, .slice (some ⟨g4, 0, none⟩) n4 m4, .slice A5 n5 m5, .slice A6 n6 m6, .int .i64 ptr, .int .i64 len] 74)).alloc (.cells #[.int .u8 6, .int .i64 (s : Int), .int .i64 (pa : Int), .int .i64 (pb : Int), .int .i64 pc, .int .i64 pr, .int .i64 pl] 25)) := ((Below.refl _ _).alloc (Nat.le_refl _) _).alloc (by simp) _
  have b1z := ck b1 hbz
  have l0z := ck l0 hbz
  have l1z := ck l1 hbz
  have r0z := ck r0 hbz
  clear l0 l1 r0
  go_enter Try.func40, Try.ntmps40
  go_upto_region 3 with fail
  obtain ⟨w2, hw2⟩ : ∃ xq, (w.alloc (.cells #[.int .u8 6, .int .i64 (s : Int), .int .i64 (pa : Int), .int .i64 (pb : Int), .int .i64 pc, .int .i64 pr, .int .i64 pl, .int .u32 h, .slice A1 n1 m1, .slice A2 n2 m2, .slice A3 n3 m3, .slice (some ⟨g4, 0, none⟩) n4 m4, .slice A5 n5 m5, .slice A6 n6 m6, .int .i64 ptr, .int .i64 len] 74)).alloc (.cells #[.int .u8 6, .int .i64 (s : Int), .int .i64 (pa : Int), .int .i64 (pb : Int), .int .i64 pc, .int .i64 pr, .int .i64 pl] 25) = xq := ⟨_, rfl⟩
  have k74 : Blk w2 w.heap.size 74 #[.int .u8 6, .int .i64 (s : Int), .int .i64 (pa : Int), .int .i64 (pb : Int), .int .i64 pc, .int .i64 pr, .int .i64 pl, .int .u32 h, .slice A1 n1 m1, .slice A2 n2 m2, .slice A3 n3 m3, .slice (some ⟨g4, 0, none⟩) n4 m4, .slice A5 n5 m5, .slice A6 n6 m6, .int .i64 ptr, .int .i64 len] := hw2 ▸ (Blk.new w _ _).alloc _
  have k25 : Blk w2 (w.heap.size + 1) 25 #[.int .u8 6, .int .i64 (s : Int), .int .i64 (pa : Int), .int .i64 (pb : Int), .int .i64 pc, .int .i64 pr, .int .i64 pl] := by
    have := Blk.new (w.alloc (.cells #[.int .u8 6, .int .i64 (s : Int), .int .i64 (pa : Int), .int .i64 (pb : Int), .int .i64 pc, .int .i64 pr, .int .i64 pl, .int .u32 h, .slice A1 n1 m1, .slice A2 n2 m2, .slice A3 n3 m3, .slice (some ⟨g4, 0, none⟩) n4 m4, .slice A5 n5 m5, .slice A6 n6 m6, .int .i64 ptr, .int .i64 len] 74)) 25 #[.int .u8 6, .int .i64 (s : Int), .int .i64 (pa : Int), .int .i64 (pb : Int), .int .i64 pc, .int .i64 pr, .int .i64 pl]
    rw [hw2] at this
    simpa using this
  rw [hw2] at hbz b1z l0z l1z r0z ⊢
  have HB2 := Lib.hid hbz
  have x7 : w2.cell? ⟨w.heap.size, 7, none⟩ = some (.int .u32 h) := k74.cell 7
  have x11 : w2.cell? ⟨w.heap.size, 11, none⟩ = some (.slice (some ⟨g4, 0, none⟩) n4 m4) := k74.cell 11
  have y0 : w2.cell? ⟨w.heap.size + 1, 0, none⟩ = some (.int .u8 6) := k25.cell 0
  have y1 : w2.cell? ⟨w.heap.size + 1, 1, none⟩ = some (.int .i64 (s : Int)) := k25.cell 1
  have y2 : w2.cell? ⟨w.heap.size + 1, 2, none⟩ = some (.int .i64 (pa : Int)) := k25.cell 2
  have y3 : w2.cell? ⟨w.heap.size + 1, 3, none⟩ = some (.int .i64 (pb : Int)) := k25.cell 3
  have y4 : w2.cell? ⟨w.heap.size + 1, 4, none⟩ = some (.int .i64 pc) := k25.cell 4
  have y5 : w2.cell? ⟨w.heap.size + 1, 5, none⟩ = some (.int .i64 pr) := k25.cell 5
  have y6 : w2.cell? ⟨w.heap.size + 1, 6, none⟩ = some (.int .i64 pl) := k25.cell 6
  have b1 : w2.cell? ⟨B, 1, none⟩ = some (.int .i64 c) := b1z
  have l0 : w2.cell? ⟨gL, pa, none⟩ = some (.int .i64 x) := l0z
  have l1 : w2.cell? ⟨gL, pb, none⟩ = some (.int .i64 y) := l1z
  have r0 : w2.cell? ⟨g4, a, none⟩ = some (.int .i64 v) := r0z
  have HF := Lib.hid (show ∀ W : World, Below w2.heap.size w2 W → W.cell? ⟨w.heap.size, 7, none⟩ = some (.int .u32 h) ∧ W.cell? ⟨w.heap.size, 11, none⟩ = some (.slice (some ⟨g4, 0, none⟩) n4 m4) ∧ W.cell? ⟨w.heap.size + 1, 0, none⟩ = some (.int .u8 6) ∧ W.cell? ⟨w.heap.size + 1, 1, none⟩ = some (.int .i64 (s : Int)) ∧ W.cell? ⟨w.heap.size + 1, 2, none⟩ = some (.int .i64 (pa : Int)) ∧ W.cell? ⟨w.heap.size + 1, 3, none⟩ = some (.int .i64 (pb : Int)) ∧ W.cell? ⟨w.heap.size + 1, 4, none⟩ = some (.int .i64 pc) ∧ W.cell? ⟨w.heap.size + 1, 5, none⟩ = some (.int .i64 pr) ∧ W.cell? ⟨w.heap.size + 1, 6, none⟩ = some (.int .i64 pl) ∧ W.cell? ⟨B, 1, none⟩ = some (.int .i64 c) ∧ W.cell? ⟨gL, pa, none⟩ = some (.int .i64 x) ∧ W.cell? ⟨gL, pb, none⟩ = some (.int .i64 y) ∧ W.cell? ⟨g4, a, none⟩ = some (.int .i64 v) ∧ Below w2.heap.size w2 W from fun W hL => ⟨ck x7 hL, ck x11 hL, ck y0 hL, ck y1 hL, ck y2 hL, ck y3 hL, ck y4 hL, ck y5 hL, ck y6 hL, ck b1 hL, ck l0 hL, ck l1 hL, ck r0 hL, hL⟩)
  clear hw2 hbz k74 k25 x7 x11 y0 y1 y2 y3 y4 y5 y6 b1 l0 l1 r0 b1z l0z l1z r0z
  clear q0 q1 q2 q3 q4 q5 q6 q7 q8 q9 q10 q11 q12 q13 q14 q15 b0
  refine wp_region_held_drew (S := (fun W : World => W.cell? ⟨w.heap.size, 7, none⟩ = some (.int .u32 h) ∧ W.cell? ⟨w.heap.size, 11, none⟩ = some (.slice (some ⟨g4, 0, none⟩) n4 m4) ∧ W.cell? ⟨w.heap.size + 1, 0, none⟩ = some (.int .u8 6) ∧ W.cell? ⟨w.heap.size + 1, 1, none⟩ = some (.int .i64 (s : Int)) ∧ W.cell? ⟨w.heap.size + 1, 2, none⟩ = some (.int .i64 (pa : Int)) ∧ W.cell? ⟨w.heap.size + 1, 3, none⟩ = some (.int .i64 (pb : Int)) ∧ W.cell? ⟨w.heap.size + 1, 4, none⟩ = some (.int .i64 pc) ∧ W.cell? ⟨w.heap.size + 1, 5, none⟩ = some (.int .i64 pr) ∧ W.cell? ⟨w.heap.size + 1, 6, none⟩ = some (.int .i64 pl) ∧ W.cell? ⟨B, 1, none⟩ = some (.int .i64 c) ∧ W.cell? ⟨gL, pa, none⟩ = some (.int .i64 x) ∧ W.cell? ⟨gL, pb, none⟩ = some (.int .i64 y) ∧ W.cell? ⟨g4, a, none⟩ = some (.int .i64 v) ∧ Below w2.heap.size w2 W)) (by kernel_rfl) (HF.out _ (below_drewN (Below.refl _ _) 1)) (fun hHeld => ?_)
  refine tkz (i := 0) (d := 22) rfl rfl ?_
  simp only [Act.put, zzA, zzB, zzC]
  refine tkz (i := 1) (d := 23) rfl rfl ?_
  simp only [Act.put, zzA, zzB, zzC]
  refine tkz (i := 2) (d := 24) rfl rfl ?_
  simp only [Act.put, zzA, zzB, zzC]
  refine tkz (i := 3) (d := 25) rfl rfl ?_
  simp only [Act.put, zzA, zzB, zzC]
  refine tkz (i := 4) (d := 26) rfl rfl ?_
  simp only [Act.put, zzA, zzB, zzC]
  refine tkz (i := 5) (d := 27) rfl rfl ?_
  simp only [Act.put, zzA, zzB, zzC]
  refine tkz (i := 6) (d := 28) rfl rfl ?_
  simp only [Act.put, zzA, zzB, zzC]
  refine tkz (i := 7) (d := 29) rfl rfl ?_
  simp only [Act.put, zzA, zzB, zzC]
  refine rdz (i := 8) rfl (fun K hK => ?_)
  go_simp
  refine (HPL.out _).mono ?_
  rintro e w3 ⟨rfl, rfl⟩
  go_wp2_with fail
  refine hK.out _ _ hHeld (fun hHeld => ?_)
  clear hK K
  try simp only [Act.put, zzA, zzB, zzC]
  refine tkz (i := 9) (d := 9) rfl rfl ?_
  simp only [Act.put, zzA, zzB, zzC]
  refine wpAnyH_done (by kernel_rfl) ?_ _
  have HL3 := Lib.hid (hHeld.2.2.2.2.2.2.2.2.2.2.2.2.2)
  obtain ⟨x7, x11, y0, y1, y2, y3, y4, y5, y6, b1, l0, l1, r0, _⟩ := hHeld
  clear HPL
  go_upto_region 16 with fail
  have e1 := E1.out
  have e2 := E2.out
  have e3 := E3.out
  have e4 := E4.out
  refine wp_region_held_drew (S := (fun W : World => W.cell? ⟨w.heap.size, 7, none⟩ = some (.int .u32 h) ∧ W.cell? ⟨w.heap.size, 11, none⟩ = some (.slice (some ⟨g4, 0, none⟩) n4 m4) ∧ W.cell? ⟨w.heap.size + 1, 0, none⟩ = some (.int .u8 6) ∧ W.cell? ⟨w.heap.size + 1, 1, none⟩ = some (.int .i64 (s : Int)) ∧ W.cell? ⟨w.heap.size + 1, 2, none⟩ = some (.int .i64 (pa : Int)) ∧ W.cell? ⟨w.heap.size + 1, 3, none⟩ = some (.int .i64 (pb : Int)) ∧ W.cell? ⟨w.heap.size + 1, 4, none⟩ = some (.int .i64 pc) ∧ W.cell? ⟨w.heap.size + 1, 5, none⟩ = some (.int .i64 pr) ∧ W.cell? ⟨w.heap.size + 1, 6, none⟩ = some (.int .i64 pl) ∧ W.cell? ⟨B, 1, none⟩ = some (.int .i64 c) ∧ W.cell? ⟨gL, pa, none⟩ = some (.int .i64 x) ∧ W.cell? ⟨gL, pb, none⟩ = some (.int .i64 y) ∧ W.cell? ⟨g4, a, none⟩ = some (.int .i64 v) ∧ Below w2.heap.size w2 W)) (by kernel_rfl) (HF.out _ (HL3.out.drew)) (fun hHeld => ?_)
  refine tkz (i := 0) (d := 87) rfl rfl ?_
  simp only [Act.put, zzA, zzB, zzC]
  refine tkz (i := 1) (d := 88) rfl rfl ?_
  simp only [Act.put, zzA, zzB, zzC]
  refine tkz (i := 2) (d := 89) rfl rfl ?_
  simp only [Act.put, zzA, zzB, zzC]
  refine tkz (i := 3) (d := 90) rfl rfl ?_
  simp only [Act.put, zzA, zzB, zzC]
  refine tkz (i := 4) (d := 91) rfl rfl ?_
  simp only [Act.put, zzA, zzB, zzC]
  refine tkz (i := 5) (d := 92) rfl rfl ?_
  simp only [Act.put, zzA, zzB, zzC]
  refine tkz (i := 6) (d := 93) rfl rfl ?_
  simp only [Act.put, zzA, zzB, zzC]
  refine tkz (i := 7) (d := 94) rfl rfl ?_
  simp only [Act.put, zzA, zzB, zzC]
  refine tkz (i := 8) (d := 95) rfl rfl ?_
  simp only [Act.put, zzA, zzB, zzC]
  refine tkz (i := 9) (d := 96) rfl rfl ?_
  simp only [Act.put, zzA, zzB, zzC]
  refine tkz (i := 10) (d := 97) rfl rfl ?_
  simp only [Act.put, zzA, zzB, zzC]
  refine tkz (i := 11) (d := 98) rfl rfl ?_
  simp only [Act.put, zzA, zzB, zzC]
  refine tkz (i := 12) (d := 99) rfl rfl ?_
  simp only [Act.put, zzA, zzB, zzC]
  refine tkz (i := 13) (d := 100) rfl rfl ?_
  simp only [Act.put, zzA, zzB, zzC]
  refine tkz (i := 14) (d := 101) rfl rfl ?_
  simp only [Act.put, zzA, zzB, zzC]
  refine tkz (i := 15) (d := 102) rfl rfl ?_
  simp only [Act.put, zzA, zzB, zzC]
  refine tkz (i := 16) (d := 103) rfl rfl ?_
  simp only [Act.put, zzA, zzB, zzC]
  refine tkz (i := 17) (d := 104) rfl rfl ?_
  simp only [Act.put, zzA, zzB, zzC]
  refine tkz (i := 18) (d := 105) rfl rfl ?_
  simp only [Act.put, zzA, zzB, zzC]
  refine tkz (i := 19) (d := 106) rfl rfl ?_
  simp only [Act.put, zzA, zzB, zzC]
  refine tkz (i := 20) (d := 107) rfl rfl ?_
  simp only [Act.put, zzA, zzB, zzC]
  refine tkz (i := 21) (d := 108) rfl rfl ?_
  simp only [Act.put, zzA, zzB, zzC]
  refine tkz (i := 22) (d := 109) rfl rfl ?_
  simp only [Act.put, zzA, zzB, zzC]
  refine tkz (i := 23) (d := 110) rfl rfl ?_
  simp only [Act.put, zzA, zzB, zzC]
  refine rdz (i := 24) rfl (fun K hK => ?_)
  go_simp
  refine (HDN.out _).mono ?_
  rintro e w4 ⟨rfl, rfl⟩
  go_wp2_with fail
  refine hK.out _ _ hHeld (fun hHeld => ?_)
  clear hK K
  try simp only [Act.put, zzA, zzB, zzC]
  refine tkz (i := 25) (d := 6) rfl rfl ?_
  simp only [Act.put, zzA, zzB, zzC]
  refine wpAnyH_done (by kernel_rfl) ?_ _
  clear e1 e2 e3 e4
  go_wp2
  go_ret
  exact ⟨rfl, bl_step HB2.out (hHeld.2.2.2.2.2.2.2.2.2.2.2.2.2)⟩
end Go.Proofs.Ytnohfeaamfjimaa
