/- The reference leans, a chain and a refined guess: walks. -/
import Derived.Test.YtnohfeaamfjimaaVrBrA
import Derived.StillTailTactics
import Derived.IntWalk
namespace Go.Proofs.Ytnohfeaamfjimaa
open Go.RowKit Go.WideShapes
set_option linter.unusedVariables false
set_option linter.unusedSimpArgs false
set_option maxRecDepth 100000 in
set_option maxHeartbeats 4000000 in
theorem leanR8 (B R i n cr : Nat) (h c ptr len : Int) (s a : Nat) (pb pc pr pl : Int) (pa : Nat) (A1 A2 A5 A6 : Option Addr) (g3 g4 : Nat) (n1 m1 n2 m2 n3 m3 n4 m4 n5 m5 n6 m6 : Nat) (u v x : Int) (y ya yb gL nL cL : Nat) (w : World) (h0 : 0 ≤ h) (h1 : h ≤ 4294967295) (c0 : 0 ≤ c) (c1 : c ≤ 255) (s2 : s ≤ 16) (ha : placeI h c s = (a : Int)) (hi : i < n) (hpa : pa < nL) (ha3 : a < n3) (hy : y < 256) (hya : 2 * y = ya) (hyb : ya + 1 = yb) (hn4 : 512 ≤ n4) (u0 : -1048576 ≤ u) (u1 : u ≤ 1048576) (v0 : -1048576 ≤ v) (v1 : v ≤ 1048576) (x0 : -2047 ≤ x) (x1 : x ≤ 2047) (b0 : w.cell? ⟨B, 0, none⟩ = some (.slice (some ⟨R, 0, none⟩) n cr)) (b1 : w.cell? ⟨B, 1, none⟩ = some (.int .i64 c)) (q0 : w.cell? ⟨R, i * 16, none⟩ = some (.int .u8 8)) (q1 : w.cell? ⟨R, i * 16 + 1, none⟩ = some (.int .i64 (s : Int))) (q2 : w.cell? ⟨R, i * 16 + 2, none⟩ = some (.int .i64 (pa : Int))) (q3 : w.cell? ⟨R, i * 16 + 3, none⟩ = some (.int .i64 pb)) (q4 : w.cell? ⟨R, i * 16 + 4, none⟩ = some (.int .i64 pc)) (q5 : w.cell? ⟨R, i * 16 + 5, none⟩ = some (.int .i64 pr)) (q6 : w.cell? ⟨R, i * 16 + 6, none⟩ = some (.int .i64 pl)) (q7 : w.cell? ⟨R, i * 16 + 7, none⟩ = some (.int .u32 h)) (q8 : w.cell? ⟨R, i * 16 + 8, none⟩ = some (.slice A1 n1 m1)) (q9 : w.cell? ⟨R, i * 16 + 9, none⟩ = some (.slice A2 n2 m2)) (q10 : w.cell? ⟨R, i * 16 + 10, none⟩ = some (.slice (some ⟨g3, 0, none⟩) n3 m3)) (q11 : w.cell? ⟨R, i * 16 + 11, none⟩ = some (.slice (some ⟨g4, 0, none⟩) n4 m4)) (q12 : w.cell? ⟨R, i * 16 + 12, none⟩ = some (.slice A5 n5 m5)) (q13 : w.cell? ⟨R, i * 16 + 13, none⟩ = some (.slice A6 n6 m6)) (q14 : w.cell? ⟨R, i * 16 + 14, none⟩ = some (.int .i64 ptr)) (q15 : w.cell? ⟨R, i * 16 + 15, none⟩ = some (.int .i64 len)) (s0 : w.cell? ⟨g3, a, none⟩ = some (.int .u8 (y : Int))) (w0 : w.cell? ⟨g4, ya, none⟩ = some (.int .i64 u)) (w1 : w.cell? ⟨g4, yb, none⟩ = some (.int .i64 v)) (l0 : w.cell? ⟨gL, pa, none⟩ = some (.int .i64 x)) :
    Calls Try.prog 40 #[.pointer (some ⟨B, 0, none⟩), .int .i64 (i : Int), .slice (some ⟨gL, 0, none⟩) nL cL] w (Quiet (.int .i64 (isL u v x)) w) := by
  have h1 := mulB (a := u) (b := x) (A := 1048576) (B := 2047) u0 u1 x0 x1
  have e1 := IntWalk.i64_in (u * x) (by omega)
  have e2 := IntWalk.i64_in (v * 64) (by omega)
  have e3 := IntWalk.i64_in (u * x + v * 64) (by omega)
  have HDN := Lib.hid (fun W => downR (u * x + v * 64) 65536 W (by omega) (by omega) (by omega))
  have HIN := Lib.hid (fun W => intoR ((u * x + v * 64) / 65536) (-2047) 2047 W (by omega))
  have hpa : (pa : Int) < nL := by omega
  have e4 : IntKind.i64.wrap (2 * (y : Int)) = (ya : Int) := by rw [show 2 * (y : Int) = (ya : Int) by omega]; exact IntWalk.i64_in _ (by omega)
  have e5 : IntKind.i64.wrap ((ya : Int) + 1) = (yb : Int) := by rw [show (ya : Int) + 1 = (yb : Int) by omega]; exact IntWalk.i64_in _ (by omega)
  have hy4 : (ya : Int) < n4 := by omega
  have hy5 : (yb : Int) < n4 := by omega
  clear hya hyb
  have E4 := Lib.hid e4
  have E5 := Lib.hid e5
  clear e4 e5
  unfold isL
  obtain ⟨D, hD⟩ : ∃ D, (u * x + v * 64) / 65536 = D := ⟨_, rfl⟩
  rw [hD] at HDN HIN ⊢
  clear h1 hD
  have E1 := Lib.hid e1
  have E2 := Lib.hid e2
  have E3 := Lib.hid e3
  clear e1 e2 e3 u0 u1 v0 v1 x0 x1
  have HPL := Lib.hid (show ∀ W, Calls Try.prog 54 #[.int .u32 h, .int .i64 c, .int .i64 (s : Int)] W (Sam (.int .i64 (a : Int)) W) from fun W => ha ▸ placeR h c s W h0 h1 c0 c1 s2)
  have hii : (i : Int) < n := by omega
  clear h0 h1 c0 c1 s2 ha
  have hbz : Below w.heap.size w ((w.alloc (.cells #[.int .u8 8, .int .i64 (s : Int), .int .i64 (pa : Int), .int .i64 pb, .int .i64 pc, .int .i64 pr, .int .i64 pl, .int .u32 h, .slice A1 n1 m1, .slice A2 n2 m2, .slice (some ⟨g3, 0, none⟩) n3 m3, .slice (some ⟨g4, 0, none⟩) n4 m4, .slice A5 n5 m5, .slice A6 n6 m6, .int .i64 ptr, .int .i64 len] 74)).alloc (.cells #[.int .u8 8, .int .i64 (s : Int), .int .i64 (pa : Int), .int .i64 pb, .int .i64 pc, .int .i64 pr, .int .i64 pl] 25)) := ((Below.refl _ _).alloc (Nat.le_refl _) _).alloc (by simp) _
  have b1z := ck b1 hbz
  have s0z := ck s0 hbz
  have w0z := ck w0 hbz
  have w1z := ck w1 hbz
  have l0z := ck l0 hbz
  clear s0 w0 w1 l0
  go_enter Try.func40, Try.ntmps40
  go_upto_region 3 with fail
  obtain ⟨w2, hw2⟩ : ∃ xq, (w.alloc (.cells #[.int .u8 8, .int .i64 (s : Int), .int .i64 (pa : Int), .int .i64 pb, .int .i64 pc, .int .i64 pr, .int .i64 pl, .int .u32 h, .slice A1 n1 m1, .slice A2 n2 m2, .slice (some ⟨g3, 0, none⟩) n3 m3, .slice (some ⟨g4, 0, none⟩) n4 m4, .slice A5 n5 m5, .slice A6 n6 m6, .int .i64 ptr, .int .i64 len] 74)).alloc (.cells #[.int .u8 8, .int .i64 (s : Int), .int .i64 (pa : Int), .int .i64 pb, .int .i64 pc, .int .i64 pr, .int .i64 pl] 25) = xq := ⟨_, rfl⟩
  have k74 : Blk w2 w.heap.size 74 #[.int .u8 8, .int .i64 (s : Int), .int .i64 (pa : Int), .int .i64 pb, .int .i64 pc, .int .i64 pr, .int .i64 pl, .int .u32 h, .slice A1 n1 m1, .slice A2 n2 m2, .slice (some ⟨g3, 0, none⟩) n3 m3, .slice (some ⟨g4, 0, none⟩) n4 m4, .slice A5 n5 m5, .slice A6 n6 m6, .int .i64 ptr, .int .i64 len] := hw2 ▸ (Blk.new w _ _).alloc _
  have k25 : Blk w2 (w.heap.size + 1) 25 #[.int .u8 8, .int .i64 (s : Int), .int .i64 (pa : Int), .int .i64 pb, .int .i64 pc, .int .i64 pr, .int .i64 pl] := by
    have := Blk.new (w.alloc (.cells #[.int .u8 8, .int .i64 (s : Int), .int .i64 (pa : Int), .int .i64 pb, .int .i64 pc, .int .i64 pr, .int .i64 pl, .int .u32 h, .slice A1 n1 m1, .slice A2 n2 m2, .slice (some ⟨g3, 0, none⟩) n3 m3, .slice (some ⟨g4, 0, none⟩) n4 m4, .slice A5 n5 m5, .slice A6 n6 m6, .int .i64 ptr, .int .i64 len] 74)) 25 #[.int .u8 8, .int .i64 (s : Int), .int .i64 (pa : Int), .int .i64 pb, .int .i64 pc, .int .i64 pr, .int .i64 pl]
    rw [hw2] at this
    simpa using this
  rw [hw2] at hbz b1z s0z w0z w1z l0z ⊢
  have HB2 := Lib.hid hbz
  have x7 : w2.cell? ⟨w.heap.size, 7, none⟩ = some (.int .u32 h) := k74.cell 7
  have x10 : w2.cell? ⟨w.heap.size, 10, none⟩ = some (.slice (some ⟨g3, 0, none⟩) n3 m3) := k74.cell 10
  have x11 : w2.cell? ⟨w.heap.size, 11, none⟩ = some (.slice (some ⟨g4, 0, none⟩) n4 m4) := k74.cell 11
  have y0 : w2.cell? ⟨w.heap.size + 1, 0, none⟩ = some (.int .u8 8) := k25.cell 0
  have y1 : w2.cell? ⟨w.heap.size + 1, 1, none⟩ = some (.int .i64 (s : Int)) := k25.cell 1
  have y2 : w2.cell? ⟨w.heap.size + 1, 2, none⟩ = some (.int .i64 (pa : Int)) := k25.cell 2
  have y3 : w2.cell? ⟨w.heap.size + 1, 3, none⟩ = some (.int .i64 pb) := k25.cell 3
  have y4 : w2.cell? ⟨w.heap.size + 1, 4, none⟩ = some (.int .i64 pc) := k25.cell 4
  have y5 : w2.cell? ⟨w.heap.size + 1, 5, none⟩ = some (.int .i64 pr) := k25.cell 5
  have y6 : w2.cell? ⟨w.heap.size + 1, 6, none⟩ = some (.int .i64 pl) := k25.cell 6
  have b1 : w2.cell? ⟨B, 1, none⟩ = some (.int .i64 c) := b1z
  have s0 : w2.cell? ⟨g3, a, none⟩ = some (.int .u8 (y : Int)) := s0z
  have w0 : w2.cell? ⟨g4, ya, none⟩ = some (.int .i64 u) := w0z
  have w1 : w2.cell? ⟨g4, yb, none⟩ = some (.int .i64 v) := w1z
  have l0 : w2.cell? ⟨gL, pa, none⟩ = some (.int .i64 x) := l0z
  have HF := Lib.hid (show ∀ W : World, Below w2.heap.size w2 W → W.cell? ⟨w.heap.size, 7, none⟩ = some (.int .u32 h) ∧ W.cell? ⟨w.heap.size, 10, none⟩ = some (.slice (some ⟨g3, 0, none⟩) n3 m3) ∧ W.cell? ⟨w.heap.size, 11, none⟩ = some (.slice (some ⟨g4, 0, none⟩) n4 m4) ∧ W.cell? ⟨w.heap.size + 1, 0, none⟩ = some (.int .u8 8) ∧ W.cell? ⟨w.heap.size + 1, 1, none⟩ = some (.int .i64 (s : Int)) ∧ W.cell? ⟨w.heap.size + 1, 2, none⟩ = some (.int .i64 (pa : Int)) ∧ W.cell? ⟨w.heap.size + 1, 3, none⟩ = some (.int .i64 pb) ∧ W.cell? ⟨w.heap.size + 1, 4, none⟩ = some (.int .i64 pc) ∧ W.cell? ⟨w.heap.size + 1, 5, none⟩ = some (.int .i64 pr) ∧ W.cell? ⟨w.heap.size + 1, 6, none⟩ = some (.int .i64 pl) ∧ W.cell? ⟨B, 1, none⟩ = some (.int .i64 c) ∧ W.cell? ⟨g3, a, none⟩ = some (.int .u8 (y : Int)) ∧ W.cell? ⟨g4, ya, none⟩ = some (.int .i64 u) ∧ W.cell? ⟨g4, yb, none⟩ = some (.int .i64 v) ∧ W.cell? ⟨gL, pa, none⟩ = some (.int .i64 x) ∧ Below w2.heap.size w2 W from fun W hL => ⟨ck x7 hL, ck x10 hL, ck x11 hL, ck y0 hL, ck y1 hL, ck y2 hL, ck y3 hL, ck y4 hL, ck y5 hL, ck y6 hL, ck b1 hL, ck s0 hL, ck w0 hL, ck w1 hL, ck l0 hL, hL⟩)
  clear hw2 hbz k74 k25 x7 x10 x11 y0 y1 y2 y3 y4 y5 y6 b1 s0 w0 w1 l0 b1z s0z w0z w1z l0z
  clear q0 q1 q2 q3 q4 q5 q6 q7 q8 q9 q10 q11 q12 q13 q14 q15 b0
  refine wp_region_held_drew (S := (fun W : World => W.cell? ⟨w.heap.size, 7, none⟩ = some (.int .u32 h) ∧ W.cell? ⟨w.heap.size, 10, none⟩ = some (.slice (some ⟨g3, 0, none⟩) n3 m3) ∧ W.cell? ⟨w.heap.size, 11, none⟩ = some (.slice (some ⟨g4, 0, none⟩) n4 m4) ∧ W.cell? ⟨w.heap.size + 1, 0, none⟩ = some (.int .u8 8) ∧ W.cell? ⟨w.heap.size + 1, 1, none⟩ = some (.int .i64 (s : Int)) ∧ W.cell? ⟨w.heap.size + 1, 2, none⟩ = some (.int .i64 (pa : Int)) ∧ W.cell? ⟨w.heap.size + 1, 3, none⟩ = some (.int .i64 pb) ∧ W.cell? ⟨w.heap.size + 1, 4, none⟩ = some (.int .i64 pc) ∧ W.cell? ⟨w.heap.size + 1, 5, none⟩ = some (.int .i64 pr) ∧ W.cell? ⟨w.heap.size + 1, 6, none⟩ = some (.int .i64 pl) ∧ W.cell? ⟨B, 1, none⟩ = some (.int .i64 c) ∧ W.cell? ⟨g3, a, none⟩ = some (.int .u8 (y : Int)) ∧ W.cell? ⟨g4, ya, none⟩ = some (.int .i64 u) ∧ W.cell? ⟨g4, yb, none⟩ = some (.int .i64 v) ∧ W.cell? ⟨gL, pa, none⟩ = some (.int .i64 x) ∧ Below w2.heap.size w2 W)) (by kernel_rfl) (HF.out _ (below_drewN (Below.refl _ _) 1)) (fun hHeld => ?_)
  refine tkz (i := 0) (d := 22) rfl rfl ?_
  simp only [Act.put, zzA, zzB, zzC]
  refine tkz (i := 1) (d := 23) rfl rfl ?_
  simp only [Act.put, zzA, zzB, zzC]
  refine tkz (i := 2) (d := 24) rfl rfl ?_
  simp only [Act.put, zzA, zzB, zzC]
  refine tkz (i := 3) (d := 25) rfl rfl ?_
  simp only [Act.put, zzA, zzB, zzC]
  refine tkz (i := 4) (d := 26) rfl rfl ?_
  simp only [Act.put, zzA, zzB, zzC]
  refine tkz (i := 5) (d := 27) rfl rfl ?_
  simp only [Act.put, zzA, zzB, zzC]
  refine tkz (i := 6) (d := 28) rfl rfl ?_
  simp only [Act.put, zzA, zzB, zzC]
  refine tkz (i := 7) (d := 29) rfl rfl ?_
  simp only [Act.put, zzA, zzB, zzC]
  refine rdz (i := 8) rfl (fun K hK => ?_)
  go_simp
  refine (HPL.out _).mono ?_
  rintro e w3 ⟨rfl, rfl⟩
  go_wp2_with fail
  refine hK.out _ _ hHeld (fun hHeld => ?_)
  clear hK K
  try simp only [Act.put, zzA, zzB, zzC]
  refine tkz (i := 9) (d := 9) rfl rfl ?_
  simp only [Act.put, zzA, zzB, zzC]
  refine wpAnyH_done (by kernel_rfl) ?_ _
  have HL3 := Lib.hid (hHeld.2.2.2.2.2.2.2.2.2.2.2.2.2.2.2)
  obtain ⟨x7, x10, x11, y0, y1, y2, y3, y4, y5, y6, b1, s0, w0, w1, l0, _⟩ := hHeld
  clear HPL
  go_upto_region 26 with fail
  have e1 := E1.out
  have e2 := E2.out
  have e3 := E3.out
  have e4 := E4.out
  have e5 := E5.out
  refine wp_region_held_drew (S := (fun W : World => W.cell? ⟨w.heap.size, 7, none⟩ = some (.int .u32 h) ∧ W.cell? ⟨w.heap.size, 10, none⟩ = some (.slice (some ⟨g3, 0, none⟩) n3 m3) ∧ W.cell? ⟨w.heap.size, 11, none⟩ = some (.slice (some ⟨g4, 0, none⟩) n4 m4) ∧ W.cell? ⟨w.heap.size + 1, 0, none⟩ = some (.int .u8 8) ∧ W.cell? ⟨w.heap.size + 1, 1, none⟩ = some (.int .i64 (s : Int)) ∧ W.cell? ⟨w.heap.size + 1, 2, none⟩ = some (.int .i64 (pa : Int)) ∧ W.cell? ⟨w.heap.size + 1, 3, none⟩ = some (.int .i64 pb) ∧ W.cell? ⟨w.heap.size + 1, 4, none⟩ = some (.int .i64 pc) ∧ W.cell? ⟨w.heap.size + 1, 5, none⟩ = some (.int .i64 pr) ∧ W.cell? ⟨w.heap.size + 1, 6, none⟩ = some (.int .i64 pl) ∧ W.cell? ⟨B, 1, none⟩ = some (.int .i64 c) ∧ W.cell? ⟨g3, a, none⟩ = some (.int .u8 (y : Int)) ∧ W.cell? ⟨g4, ya, none⟩ = some (.int .i64 u) ∧ W.cell? ⟨g4, yb, none⟩ = some (.int .i64 v) ∧ W.cell? ⟨gL, pa, none⟩ = some (.int .i64 x) ∧ Below w2.heap.size w2 W)) (by kernel_rfl) (HF.out _ (HL3.out.drew)) (fun hHeld => ?_)
  refine tkz (i := 0) (d := 151) rfl rfl ?_
  simp only [Act.put, zzA, zzB, zzC]
  refine tkz (i := 1) (d := 152) rfl rfl ?_
  simp only [Act.put, zzA, zzB, zzC]
  refine tkz (i := 2) (d := 153) rfl rfl ?_
  simp only [Act.put, zzA, zzB, zzC]
  refine tkz (i := 3) (d := 154) rfl rfl ?_
  simp only [Act.put, zzA, zzB, zzC]
  refine tkz (i := 4) (d := 155) rfl rfl ?_
  simp only [Act.put, zzA, zzB, zzC]
  refine tkz (i := 5) (d := 156) rfl rfl ?_
  simp only [Act.put, zzA, zzB, zzC]
  refine tkz (i := 6) (d := 157) rfl rfl ?_
  simp only [Act.put, zzA, zzB, zzC]
  refine tkz (i := 7) (d := 158) rfl rfl ?_
  simp only [Act.put, zzA, zzB, zzC]
  refine tkz (i := 8) (d := 159) rfl rfl ?_
  simp only [Act.put, zzA, zzB, zzC]
  refine tkz (i := 9) (d := 160) rfl rfl ?_
  simp only [Act.put, zzA, zzB, zzC]
  refine tkz (i := 10) (d := 161) rfl rfl ?_
  simp only [Act.put, zzA, zzB, zzC]
  refine tkz (i := 11) (d := 162) rfl rfl ?_
  simp only [Act.put, zzA, zzB, zzC]
  refine tkz (i := 12) (d := 163) rfl rfl ?_
  simp only [Act.put, zzA, zzB, zzC]
  refine tkz (i := 13) (d := 164) rfl rfl ?_
  simp only [Act.put, zzA, zzB, zzC]
  refine tkz (i := 14) (d := 165) rfl rfl ?_
  simp only [Act.put, zzA, zzB, zzC]
  refine tkz (i := 15) (d := 166) rfl rfl ?_
  simp only [Act.put, zzA, zzB, zzC]
  refine tkz (i := 16) (d := 167) rfl rfl ?_
  simp only [Act.put, zzA, zzB, zzC]
  refine tkz (i := 17) (d := 168) rfl rfl ?_
  simp only [Act.put, zzA, zzB, zzC]
  refine tkz (i := 18) (d := 169) rfl rfl ?_
  simp only [Act.put, zzA, zzB, zzC]
  refine tkz (i := 19) (d := 170) rfl rfl ?_
  simp only [Act.put, zzA, zzB, zzC]
  refine tkz (i := 20) (d := 171) rfl rfl ?_
  simp only [Act.put, zzA, zzB, zzC]
  refine rdz (i := 21) rfl (fun K hK => ?_)
  go_simp
  refine (HDN.out _).mono ?_
  rintro e w4 ⟨rfl, rfl⟩
  go_wp2_with fail
  refine hK.out _ _ hHeld (fun hHeld => ?_)
  clear hK K
  try simp only [Act.put, zzA, zzB, zzC]
  refine rdz (i := 22) rfl (fun K hK => ?_)
  go_simp
  refine (HIN.out _).mono ?_
  rintro e w5 ⟨rfl, rfl⟩
  go_wp2_with fail
  refine hK.out _ _ hHeld (fun hHeld => ?_)
  clear hK K
  try simp only [Act.put, zzA, zzB, zzC]
  refine tkz (i := 23) (d := 6) rfl rfl ?_
  simp only [Act.put, zzA, zzB, zzC]
  refine wpAnyH_done (by kernel_rfl) ?_ _
  clear e1 e2 e3 e4 e5
  go_wp2
  go_ret
  exact ⟨rfl, bl_step HB2.out (hHeld.2.2.2.2.2.2.2.2.2.2.2.2.2.2.2)⟩
set_option maxRecDepth 100000 in
set_option maxHeartbeats 4000000 in
theorem leanR9 (B R i n cr : Nat) (h c ptr len : Int) (s a : Nat) (pb pc pr pl : Int) (pa : Nat) (A2 A3 A4 A5 A6 : Option Addr) (g1 : Nat) (n1 m1 n2 m2 n3 m3 n4 m4 n5 m5 n6 m6 : Nat) (v x : Int) (en gL nL cL : Nat) (w : World) (h0 : 0 ≤ h) (h1 : h ≤ 4294967295) (c0 : 0 ≤ c) (c1 : c ≤ 255) (s2 : s ≤ 16) (ha : placeI h c s = (a : Int)) (hi : i < n) (hpa : pa < nL) (haa : a < 65536) (hen : (a : Int) * 32 + (x + 2047) / 128 = (en : Int)) (hn1 : en < n1) (x0 : -2047 ≤ x) (x1 : x ≤ 2047) (v0 : 0 ≤ v) (v1 : v ≤ 4194303) (b0 : w.cell? ⟨B, 0, none⟩ = some (.slice (some ⟨R, 0, none⟩) n cr)) (b1 : w.cell? ⟨B, 1, none⟩ = some (.int .i64 c)) (q0 : w.cell? ⟨R, i * 16, none⟩ = some (.int .u8 9)) (q1 : w.cell? ⟨R, i * 16 + 1, none⟩ = some (.int .i64 (s : Int))) (q2 : w.cell? ⟨R, i * 16 + 2, none⟩ = some (.int .i64 (pa : Int))) (q3 : w.cell? ⟨R, i * 16 + 3, none⟩ = some (.int .i64 pb)) (q4 : w.cell? ⟨R, i * 16 + 4, none⟩ = some (.int .i64 pc)) (q5 : w.cell? ⟨R, i * 16 + 5, none⟩ = some (.int .i64 pr)) (q6 : w.cell? ⟨R, i * 16 + 6, none⟩ = some (.int .i64 pl)) (q7 : w.cell? ⟨R, i * 16 + 7, none⟩ = some (.int .u32 h)) (q8 : w.cell? ⟨R, i * 16 + 8, none⟩ = some (.slice (some ⟨g1, 0, none⟩) n1 m1)) (q9 : w.cell? ⟨R, i * 16 + 9, none⟩ = some (.slice A2 n2 m2)) (q10 : w.cell? ⟨R, i * 16 + 10, none⟩ = some (.slice A3 n3 m3)) (q11 : w.cell? ⟨R, i * 16 + 11, none⟩ = some (.slice A4 n4 m4)) (q12 : w.cell? ⟨R, i * 16 + 12, none⟩ = some (.slice A5 n5 m5)) (q13 : w.cell? ⟨R, i * 16 + 13, none⟩ = some (.slice A6 n6 m6)) (q14 : w.cell? ⟨R, i * 16 + 14, none⟩ = some (.int .i64 ptr)) (q15 : w.cell? ⟨R, i * 16 + 15, none⟩ = some (.int .i64 len)) (r0 : w.cell? ⟨g1, en, none⟩ = some (.int .i64 v)) (l0 : w.cell? ⟨gL, pa, none⟩ = some (.int .i64 x)) :
    Calls Try.prog 40 #[.pointer (some ⟨B, 0, none⟩), .int .i64 (i : Int), .slice (some ⟨gL, 0, none⟩) nL cL] w (Quiet (.int .i64 (stI (v / 1024))) w) := by
  have e1 := IntWalk.i64_in ((a : Int) * 32) (by omega)
  have e2 := IntWalk.i64_in (x + 2047) (by omega)
  have HDN := Lib.hid (fun W => downR (x + 2047) 128 W (by omega) (by omega) (by omega))
  have hDb : 0 ≤ (x + 2047) / 128 ∧ (x + 2047) / 128 ≤ 31 := by omega
  obtain ⟨D, hD⟩ : ∃ D, (x + 2047) / 128 = D := ⟨_, rfl⟩
  rw [hD] at HDN hen hDb
  have e3 : IntKind.i64.wrap ((a : Int) * 32 + D) = (en : Int) := by rw [hen]; exact IntWalk.i64_in _ (by omega)
  have tq : v.tdiv 1024 = v / 1024 := Int.tdiv_eq_ediv_of_nonneg v0
  have e4 := IntWalk.i64_in (v / 1024) (by omega)
  have hpa : (pa : Int) < nL := by omega
  have heni : (en : Int) < n1 := by omega
  have E1 := Lib.hid e1
  have E2 := Lib.hid e2
  have E3 := Lib.hid e3
  have E4 := Lib.hid e4
  clear e1 e2 e3 e4 hD x0 x1 hen hDb
  have HPL := Lib.hid (show ∀ W, Calls Try.prog 54 #[.int .u32 h, .int .i64 c, .int .i64 (s : Int)] W (Sam (.int .i64 (a : Int)) W) from fun W => ha ▸ placeR h c s W h0 h1 c0 c1 s2)
  have hii : (i : Int) < n := by omega
  clear h0 h1 c0 c1 s2 ha
  have hbz : Below w.heap.size w ((w.alloc (.cells #[.int .u8 9, .int .i64 (s : Int), .int .i64 (pa : Int), .int .i64 pb, .int .i64 pc, .int .i64 pr, .int .i64 pl, .int .u32 h, .slice (some ⟨g1, 0, none⟩) n1 m1, .slice A2 n2 m2, .slice A3 n3 m3, .slice A4 n4 m4, .slice A5 n5 m5, .slice A6 n6 m6, .int .i64 ptr, .int .i64 len] 74)).alloc (.cells #[.int .u8 9, .int .i64 (s : Int), .int .i64 (pa : Int), .int .i64 pb, .int .i64 pc, .int .i64 pr, .int .i64 pl] 25)) := ((Below.refl _ _).alloc (Nat.le_refl _) _).alloc (by simp) _
  have b1z := ck b1 hbz
  have r0z := ck r0 hbz
  have l0z := ck l0 hbz
  clear r0 l0
  go_enter Try.func40, Try.ntmps40
  go_upto_region 3 with fail
  obtain ⟨w2, hw2⟩ : ∃ xq, (w.alloc (.cells #[.int .u8 9, .int .i64 (s : Int), .int .i64 (pa : Int), .int .i64 pb, .int .i64 pc, .int .i64 pr, .int .i64 pl, .int .u32 h, .slice (some ⟨g1, 0, none⟩) n1 m1, .slice A2 n2 m2, .slice A3 n3 m3, .slice A4 n4 m4, .slice A5 n5 m5, .slice A6 n6 m6, .int .i64 ptr, .int .i64 len] 74)).alloc (.cells #[.int .u8 9, .int .i64 (s : Int), .int .i64 (pa : Int), .int .i64 pb, .int .i64 pc, .int .i64 pr, .int .i64 pl] 25) = xq := ⟨_, rfl⟩
  have k74 : Blk w2 w.heap.size 74 #[.int .u8 9, .int .i64 (s : Int), .int .i64 (pa : Int), .int .i64 pb, .int .i64 pc, .int .i64 pr, .int .i64 pl, .int .u32 h, .slice (some ⟨g1, 0, none⟩) n1 m1, .slice A2 n2 m2, .slice A3 n3 m3, .slice A4 n4 m4, .slice A5 n5 m5, .slice A6 n6 m6, .int .i64 ptr, .int .i64 len] := hw2 ▸ (Blk.new w _ _).alloc _
  have k25 : Blk w2 (w.heap.size + 1) 25 #[.int .u8 9, .int .i64 (s : Int), .int .i64 (pa : Int), .int .i64 pb, .int .i64 pc, .int .i64 pr, .int .i64 pl] := by
    have := Blk.new (w.alloc (.cells #[.int .u8 9, .int .i64 (s : Int), .int .i64 (pa : Int), .int .i64 pb, .int .i64 pc, .int .i64 pr, .int .i64 pl, .int .u32 h, .slice (some ⟨g1, 0, none⟩) n1 m1, .slice A2 n2 m2, .slice A3 n3 m3, .slice A4 n4 m4, .slice A5 n5 m5, .slice A6 n6 m6, .int .i64 ptr, .int .i64 len] 74)) 25 #[.int .u8 9, .int .i64 (s : Int), .int .i64 (pa : Int), .int .i64 pb, .int .i64 pc, .int .i64 pr, .int .i64 pl]
    rw [hw2] at this
    simpa using this
  rw [hw2] at hbz b1z r0z l0z ⊢
  have HB2 := Lib.hid hbz
  have x7 : w2.cell? ⟨w.heap.size, 7, none⟩ = some (.int .u32 h) := k74.cell 7
  have x8 : w2.cell? ⟨w.heap.size, 8, none⟩ = some (.slice (some ⟨g1, 0, none⟩) n1 m1) := k74.cell 8
  have y0 : w2.cell? ⟨w.heap.size + 1, 0, none⟩ = some (.int .u8 9) := k25.cell 0
  have y1 : w2.cell? ⟨w.heap.size + 1, 1, none⟩ = some (.int .i64 (s : Int)) := k25.cell 1
  have y2 : w2.cell? ⟨w.heap.size + 1, 2, none⟩ = some (.int .i64 (pa : Int)) := k25.cell 2
  have y3 : w2.cell? ⟨w.heap.size + 1, 3, none⟩ = some (.int .i64 pb) := k25.cell 3
  have y4 : w2.cell? ⟨w.heap.size + 1, 4, none⟩ = some (.int .i64 pc) := k25.cell 4
  have y5 : w2.cell? ⟨w.heap.size + 1, 5, none⟩ = some (.int .i64 pr) := k25.cell 5
  have y6 : w2.cell? ⟨w.heap.size + 1, 6, none⟩ = some (.int .i64 pl) := k25.cell 6
  have b1 : w2.cell? ⟨B, 1, none⟩ = some (.int .i64 c) := b1z
  have r0 : w2.cell? ⟨g1, en, none⟩ = some (.int .i64 v) := r0z
  have l0 : w2.cell? ⟨gL, pa, none⟩ = some (.int .i64 x) := l0z
  have HF := Lib.hid (show ∀ W : World, Below w2.heap.size w2 W → W.cell? ⟨w.heap.size, 7, none⟩ = some (.int .u32 h) ∧ W.cell? ⟨w.heap.size, 8, none⟩ = some (.slice (some ⟨g1, 0, none⟩) n1 m1) ∧ W.cell? ⟨w.heap.size + 1, 0, none⟩ = some (.int .u8 9) ∧ W.cell? ⟨w.heap.size + 1, 1, none⟩ = some (.int .i64 (s : Int)) ∧ W.cell? ⟨w.heap.size + 1, 2, none⟩ = some (.int .i64 (pa : Int)) ∧ W.cell? ⟨w.heap.size + 1, 3, none⟩ = some (.int .i64 pb) ∧ W.cell? ⟨w.heap.size + 1, 4, none⟩ = some (.int .i64 pc) ∧ W.cell? ⟨w.heap.size + 1, 5, none⟩ = some (.int .i64 pr) ∧ W.cell? ⟨w.heap.size + 1, 6, none⟩ = some (.int .i64 pl) ∧ W.cell? ⟨B, 1, none⟩ = some (.int .i64 c) ∧ W.cell? ⟨g1, en, none⟩ = some (.int .i64 v) ∧ W.cell? ⟨gL, pa, none⟩ = some (.int .i64 x) ∧ Below w2.heap.size w2 W from fun W hL => ⟨ck x7 hL, ck x8 hL, ck y0 hL, ck y1 hL, ck y2 hL, ck y3 hL, ck y4 hL, ck y5 hL, ck y6 hL, ck b1 hL, ck r0 hL, ck l0 hL, hL⟩)
  clear hw2 hbz k74 k25 x7 x8 y0 y1 y2 y3 y4 y5 y6 b1 r0 l0 b1z r0z l0z
  clear q0 q1 q2 q3 q4 q5 q6 q7 q8 q9 q10 q11 q12 q13 q14 q15 b0
  refine wp_region_held_drew (S := (fun W : World => W.cell? ⟨w.heap.size, 7, none⟩ = some (.int .u32 h) ∧ W.cell? ⟨w.heap.size, 8, none⟩ = some (.slice (some ⟨g1, 0, none⟩) n1 m1) ∧ W.cell? ⟨w.heap.size + 1, 0, none⟩ = some (.int .u8 9) ∧ W.cell? ⟨w.heap.size + 1, 1, none⟩ = some (.int .i64 (s : Int)) ∧ W.cell? ⟨w.heap.size + 1, 2, none⟩ = some (.int .i64 (pa : Int)) ∧ W.cell? ⟨w.heap.size + 1, 3, none⟩ = some (.int .i64 pb) ∧ W.cell? ⟨w.heap.size + 1, 4, none⟩ = some (.int .i64 pc) ∧ W.cell? ⟨w.heap.size + 1, 5, none⟩ = some (.int .i64 pr) ∧ W.cell? ⟨w.heap.size + 1, 6, none⟩ = some (.int .i64 pl) ∧ W.cell? ⟨B, 1, none⟩ = some (.int .i64 c) ∧ W.cell? ⟨g1, en, none⟩ = some (.int .i64 v) ∧ W.cell? ⟨gL, pa, none⟩ = some (.int .i64 x) ∧ Below w2.heap.size w2 W)) (by kernel_rfl) (HF.out _ (below_drewN (Below.refl _ _) 1)) (fun hHeld => ?_)
  refine tkz (i := 0) (d := 22) rfl rfl ?_
  simp only [Act.put, zzA, zzB, zzC]
  refine tkz (i := 1) (d := 23) rfl rfl ?_
  simp only [Act.put, zzA, zzB, zzC]
  refine tkz (i := 2) (d := 24) rfl rfl ?_
  simp only [Act.put, zzA, zzB, zzC]
  refine tkz (i := 3) (d := 25) rfl rfl ?_
  simp only [Act.put, zzA, zzB, zzC]
  refine tkz (i := 4) (d := 26) rfl rfl ?_
  simp only [Act.put, zzA, zzB, zzC]
  refine tkz (i := 5) (d := 27) rfl rfl ?_
  simp only [Act.put, zzA, zzB, zzC]
  refine tkz (i := 6) (d := 28) rfl rfl ?_
  simp only [Act.put, zzA, zzB, zzC]
  refine tkz (i := 7) (d := 29) rfl rfl ?_
  simp only [Act.put, zzA, zzB, zzC]
  refine rdz (i := 8) rfl (fun K hK => ?_)
  go_simp
  refine (HPL.out _).mono ?_
  rintro e w3 ⟨rfl, rfl⟩
  go_wp2_with fail
  refine hK.out _ _ hHeld (fun hHeld => ?_)
  clear hK K
  try simp only [Act.put, zzA, zzB, zzC]
  refine tkz (i := 9) (d := 9) rfl rfl ?_
  simp only [Act.put, zzA, zzB, zzC]
  refine wpAnyH_done (by kernel_rfl) ?_ _
  have HL3 := Lib.hid (hHeld.2.2.2.2.2.2.2.2.2.2.2.2)
  obtain ⟨x7, x8, y0, y1, y2, y3, y4, y5, y6, b1, r0, l0, _⟩ := hHeld
  clear HPL
  go_upto_region 27 with fail
  have e1 := E1.out
  have e2 := E2.out
  have e3 := E3.out
  have e4 := E4.out
  refine wp_region_held_drew (S := (fun W : World => W.cell? ⟨w.heap.size, 7, none⟩ = some (.int .u32 h) ∧ W.cell? ⟨w.heap.size, 8, none⟩ = some (.slice (some ⟨g1, 0, none⟩) n1 m1) ∧ W.cell? ⟨w.heap.size + 1, 0, none⟩ = some (.int .u8 9) ∧ W.cell? ⟨w.heap.size + 1, 1, none⟩ = some (.int .i64 (s : Int)) ∧ W.cell? ⟨w.heap.size + 1, 2, none⟩ = some (.int .i64 (pa : Int)) ∧ W.cell? ⟨w.heap.size + 1, 3, none⟩ = some (.int .i64 pb) ∧ W.cell? ⟨w.heap.size + 1, 4, none⟩ = some (.int .i64 pc) ∧ W.cell? ⟨w.heap.size + 1, 5, none⟩ = some (.int .i64 pr) ∧ W.cell? ⟨w.heap.size + 1, 6, none⟩ = some (.int .i64 pl) ∧ W.cell? ⟨B, 1, none⟩ = some (.int .i64 c) ∧ W.cell? ⟨g1, en, none⟩ = some (.int .i64 v) ∧ W.cell? ⟨gL, pa, none⟩ = some (.int .i64 x) ∧ Below w2.heap.size w2 W)) (by kernel_rfl) (HF.out _ (HL3.out.drew)) (fun hHeld => ?_)
  refine tkz (i := 0) (d := 174) rfl rfl ?_
  simp only [Act.put, zzA, zzB, zzC]
  refine tkz (i := 1) (d := 175) rfl rfl ?_
  simp only [Act.put, zzA, zzB, zzC]
  refine tkz (i := 2) (d := 176) rfl rfl ?_
  simp only [Act.put, zzA, zzB, zzC]
  refine tkz (i := 3) (d := 177) rfl rfl ?_
  simp only [Act.put, zzA, zzB, zzC]
  refine tkz (i := 4) (d := 178) rfl rfl ?_
  simp only [Act.put, zzA, zzB, zzC]
  refine tkz (i := 5) (d := 179) rfl rfl ?_
  simp only [Act.put, zzA, zzB, zzC]
  refine tkz (i := 6) (d := 180) rfl rfl ?_
  simp only [Act.put, zzA, zzB, zzC]
  refine tkz (i := 7) (d := 181) rfl rfl ?_
  simp only [Act.put, zzA, zzB, zzC]
  refine tkz (i := 8) (d := 182) rfl rfl ?_
  simp only [Act.put, zzA, zzB, zzC]
  refine tkz (i := 9) (d := 183) rfl rfl ?_
  simp only [Act.put, zzA, zzB, zzC]
  refine rdz (i := 10) rfl (fun K hK => ?_)
  go_simp
  refine (HDN.out _).mono ?_
  rintro e w4 ⟨rfl, rfl⟩
  go_wp2_with fail
  refine hK.out _ _ hHeld (fun hHeld => ?_)
  clear hK K
  try simp only [Act.put, zzA, zzB, zzC]
  refine tkz (i := 11) (d := 185) rfl rfl ?_
  simp only [Act.put, zzA, zzB, zzC]
  refine tkz (i := 12) (d := 186) rfl rfl ?_
  simp only [Act.put, zzA, zzB, zzC]
  refine tkz (i := 13) (d := 187) rfl rfl ?_
  simp only [Act.put, zzA, zzB, zzC]
  refine tkz (i := 14) (d := 188) rfl rfl ?_
  simp only [Act.put, zzA, zzB, zzC]
  refine rdz (i := 15) rfl (fun K hK => ?_)
  go_simp
  refine (rstretch_any _ _).mono ?_
  rintro e w5 ⟨rfl, hb⟩
  go_wp2_with fail
  refine hK.out _ _ (HF.out _ (bl_step (hHeld.2.2.2.2.2.2.2.2.2.2.2.2) hb)) (fun hHeld => ?_)
  clear hK K
  try simp only [Act.put, zzA, zzB, zzC]
  refine tkz (i := 16) (d := 6) rfl rfl ?_
  simp only [Act.put, zzA, zzB, zzC]
  refine wpAnyH_done (by kernel_rfl) ?_ _
  clear e1 e2 e3 e4
  go_wp2
  go_ret
  exact ⟨rfl, bl_step HB2.out (hHeld.2.2.2.2.2.2.2.2.2.2.2.2)⟩
end Go.Proofs.Ytnohfeaamfjimaa
