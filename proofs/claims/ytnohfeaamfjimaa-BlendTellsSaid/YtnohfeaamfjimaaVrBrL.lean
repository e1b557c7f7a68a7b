/- The reference leans, by kind: walks. -/
import Derived.Test.YtnohfeaamfjimaaVrBrA
import Derived.StillTailTactics
import Derived.IntWalk
namespace Go.Proofs.Ytnohfeaamfjimaa
open Go.RowKit Go.WideShapes
set_option linter.unusedVariables false
set_option linter.unusedSimpArgs false
set_option maxRecDepth 100000 in
set_option maxHeartbeats 4000000 in
theorem leanR1 (B R i n cr : Nat) (h c ptr len : Int) (s a : Nat) (pa pb pc pr pl : Int) (A1 A2 A3 A4 A5 A6 : Option Addr) (n1 m1 n2 m2 n3 m3 n4 m4 n5 m5 n6 m6 : Nat) (AL : Option Addr) (nL cL : Nat) (w : World) (h0 : 0 ≤ h) (h1 : h ≤ 4294967295) (c0 : 0 ≤ c) (c1 : c ≤ 255) (s2 : s ≤ 16) (ha : placeI h c s = (a : Int)) (hi : i < n) (b0 : w.cell? ⟨B, 0, none⟩ = some (.slice (some ⟨R, 0, none⟩) n cr)) (b1 : w.cell? ⟨B, 1, none⟩ = some (.int .i64 c)) (q0 : w.cell? ⟨R, i * 16, none⟩ = some (.int .u8 1)) (q1 : w.cell? ⟨R, i * 16 + 1, none⟩ = some (.int .i64 (s : Int))) (q2 : w.cell? ⟨R, i * 16 + 2, none⟩ = some (.int .i64 pa)) (q3 : w.cell? ⟨R, i * 16 + 3, none⟩ = some (.int .i64 pb)) (q4 : w.cell? ⟨R, i * 16 + 4, none⟩ = some (.int .i64 pc)) (q5 : w.cell? ⟨R, i * 16 + 5, none⟩ = some (.int .i64 pr)) (q6 : w.cell? ⟨R, i * 16 + 6, none⟩ = some (.int .i64 pl)) (q7 : w.cell? ⟨R, i * 16 + 7, none⟩ = some (.int .u32 h)) (q8 : w.cell? ⟨R, i * 16 + 8, none⟩ = some (.slice A1 n1 m1)) (q9 : w.cell? ⟨R, i * 16 + 9, none⟩ = some (.slice A2 n2 m2)) (q10 : w.cell? ⟨R, i * 16 + 10, none⟩ = some (.slice A3 n3 m3)) (q11 : w.cell? ⟨R, i * 16 + 11, none⟩ = some (.slice A4 n4 m4)) (q12 : w.cell? ⟨R, i * 16 + 12, none⟩ = some (.slice A5 n5 m5)) (q13 : w.cell? ⟨R, i * 16 + 13, none⟩ = some (.slice A6 n6 m6)) (q14 : w.cell? ⟨R, i * 16 + 14, none⟩ = some (.int .i64 ptr)) (q15 : w.cell? ⟨R, i * 16 + 15, none⟩ = some (.int .i64 len))  :
    Calls Try.prog 40 #[.pointer (some ⟨B, 0, none⟩), .int .i64 (i : Int), .slice AL nL cL] w (Quiet (.int .i64 (pc)) w) := by
  have HPL := Lib.hid (show ∀ W, Calls Try.prog 54 #[.int .u32 h, .int .i64 c, .int .i64 (s : Int)] W (Sam (.int .i64 (a : Int)) W) from fun W => ha ▸ placeR h c s W h0 h1 c0 c1 s2)
  have hii : (i : Int) < n := by omega
  clear h0 h1 c0 c1 s2 ha
  have hbz : Below w.heap.size w ((w.alloc (.cells #[.int .u8 1, .int .i64 (s : Int), .int .i64 pa, .int .i64 pb, .int .i64 pc, .int .i64 pr, .int .i64 pl, .int .u32 h, .slice A1 n1 m1, .slice A2 n2 m2, .slice A3 n3 m3, .slice A4 n4 m4, .slice A5 n5 m5, .slice A6 n6 m6, .int .i64 ptr, .int .i64 len] 74)).alloc (.cells #[.int .u8 1, .int .i64 (s : Int), .int .i64 pa, .int .i64 pb, .int .i64 pc, .int .i64 pr, .int .i64 pl] 25)) := ((Below.refl _ _).alloc (Nat.le_refl _) _).alloc (by simp) _
  have b1z := ck b1 hbz
  go_enter Try.func40, Try.ntmps40
  go_upto_region 3 with fail
  obtain ⟨w2, hw2⟩ : ∃ xq, (w.alloc (.cells #[.int .u8 1, .int .i64 (s : Int), .int .i64 pa, .int .i64 pb, .int .i64 pc, .int .i64 pr, .int .i64 pl, .int .u32 h, .slice A1 n1 m1, .slice A2 n2 m2, .slice A3 n3 m3, .slice A4 n4 m4, .slice A5 n5 m5, .slice A6 n6 m6, .int .i64 ptr, .int .i64 len] 74)).alloc (.cells #[.int .u8 1, .int .i64 (s : Int), .int .i64 pa, .int .i64 pb, .int .i64 pc, .int .i64 pr, .int .i64 pl] 25) = xq := ⟨_, rfl⟩
  have k74 : Blk w2 w.heap.size 74 #[.int .u8 1, .int .i64 (s : Int), .int .i64 pa, .int .i64 pb, .int .i64 pc, .int .i64 pr, .int .i64 pl, .int .u32 h, .slice A1 n1 m1, .slice A2 n2 m2, .slice A3 n3 m3, .slice A4 n4 m4, .slice A5 n5 m5, .slice A6 n6 m6, .int .i64 ptr, .int .i64 len] := hw2 ▸ (Blk.new w _ _).alloc _
  have k25 : Blk w2 (w.heap.size + 1) 25 #[.int .u8 1, .int .i64 (s : Int), .int .i64 pa, .int .i64 pb, .int .i64 pc, .int .i64 pr, .int .i64 pl] := by
    have := Blk.new (w.alloc (.cells #[.int .u8 1, .int .i64 (s : Int), .int .i64 pa, .int .i64 pb, .int .i64 pc, .int .i64 pr, .int .i64 pl, .int .u32 h, .slice A1 n1 m1, .slice A2 n2 m2, .slice A3 n3 m3, .slice A4 n4 m4, .slice A5 n5 m5, .slice A6 n6 m6, .int .i64 ptr, .int .i64 len] 74)) 25 #[.int .u8 1, .int .i64 (s : Int), .int .i64 pa, .int .i64 pb, .int .i64 pc, .int .i64 pr, .int .i64 pl]
    rw [hw2] at this
    simpa using this
  rw [hw2] at hbz b1z ⊢
  have HB2 := Lib.hid hbz
  have x7 : w2.cell? ⟨w.heap.size, 7, none⟩ = some (.int .u32 h) := k74.cell 7
  have y0 : w2.cell? ⟨w.heap.size + 1, 0, none⟩ = some (.int .u8 1) := k25.cell 0
  have y1 : w2.cell? ⟨w.heap.size + 1, 1, none⟩ = some (.int .i64 (s : Int)) := k25.cell 1
  have y2 : w2.cell? ⟨w.heap.size + 1, 2, none⟩ = some (.int .i64 pa) := k25.cell 2
  have y3 : w2.cell? ⟨w.heap.size + 1, 3, none⟩ = some (.int .i64 pb) := k25.cell 3
  have y4 : w2.cell? ⟨w.heap.size + 1, 4, none⟩ = some (.int .i64 pc) := k25.cell 4
  have y5 : w2.cell? ⟨w.heap.size + 1, 5, none⟩ = some (.int .i64 pr) := k25.cell 5
  have y6 : w2.cell? ⟨w.heap.size + 1, 6, none⟩ = some (.int .i64 pl) := k25.cell 6
  have b1 : w2.cell? ⟨B, 1, none⟩ = some (.int .i64 c) := b1z
  have HF := Lib.hid (show ∀ W : World, Below w2.heap.size w2 W → W.cell? ⟨w.heap.size, 7, none⟩ = some (.int .u32 h) ∧ W.cell? ⟨w.heap.size + 1, 0, none⟩ = some (.int .u8 1) ∧ W.cell? ⟨w.heap.size + 1, 1, none⟩ = some (.int .i64 (s : Int)) ∧ W.cell? ⟨w.heap.size + 1, 2, none⟩ = some (.int .i64 pa) ∧ W.cell? ⟨w.heap.size + 1, 3, none⟩ = some (.int .i64 pb) ∧ W.cell? ⟨w.heap.size + 1, 4, none⟩ = some (.int .i64 pc) ∧ W.cell? ⟨w.heap.size + 1, 5, none⟩ = some (.int .i64 pr) ∧ W.cell? ⟨w.heap.size + 1, 6, none⟩ = some (.int .i64 pl) ∧ W.cell? ⟨B, 1, none⟩ = some (.int .i64 c) ∧ Below w2.heap.size w2 W from fun W hL => ⟨ck x7 hL, ck y0 hL, ck y1 hL, ck y2 hL, ck y3 hL, ck y4 hL, ck y5 hL, ck y6 hL, ck b1 hL, hL⟩)
  clear hw2 hbz k74 k25 x7 y0 y1 y2 y3 y4 y5 y6 b1 b1z
  clear q0 q1 q2 q3 q4 q5 q6 q7 q8 q9 q10 q11 q12 q13 q14 q15 b0
  refine wp_region_held_drew (S := (fun W : World => W.cell? ⟨w.heap.size, 7, none⟩ = some (.int .u32 h) ∧ W.cell? ⟨w.heap.size + 1, 0, none⟩ = some (.int .u8 1) ∧ W.cell? ⟨w.heap.size + 1, 1, none⟩ = some (.int .i64 (s : Int)) ∧ W.cell? ⟨w.heap.size + 1, 2, none⟩ = some (.int .i64 pa) ∧ W.cell? ⟨w.heap.size + 1, 3, none⟩ = some (.int .i64 pb) ∧ W.cell? ⟨w.heap.size + 1, 4, none⟩ = some (.int .i64 pc) ∧ W.cell? ⟨w.heap.size + 1, 5, none⟩ = some (.int .i64 pr) ∧ W.cell? ⟨w.heap.size + 1, 6, none⟩ = some (.int .i64 pl) ∧ W.cell? ⟨B, 1, none⟩ = some (.int .i64 c) ∧ Below w2.heap.size w2 W)) (by kernel_rfl) (HF.out _ (below_drewN (Below.refl _ _) 1)) (fun hHeld => ?_)
  refine tkz (i := 0) (d := 22) rfl rfl ?_
  simp only [Act.put, zzA, zzB, zzC]
  refine tkz (i := 1) (d := 23) rfl rfl ?_
  simp only [Act.put, zzA, zzB, zzC]
  refine tkz (i := 2) (d := 24) rfl rfl ?_
  simp only [Act.put, zzA, zzB, zzC]
  refine tkz (i := 3) (d := 25) rfl rfl ?_
  simp only [Act.put, zzA, zzB, zzC]
  refine tkz (i := 4) (d := 26) rfl rfl ?_
  simp only [Act.put, zzA, zzB, zzC]
  refine tkz (i := 5) (d := 27) rfl rfl ?_
  simp only [Act.put, zzA, zzB, zzC]
  refine tkz (i := 6) (d := 28) rfl rfl ?_
  simp only [Act.put, zzA, zzB, zzC]
  refine tkz (i := 7) (d := 29) rfl rfl ?_
  simp only [Act.put, zzA, zzB, zzC]
  refine rdz (i := 8) rfl (fun K hK => ?_)
  go_simp
  refine (HPL.out _).mono ?_
  rintro e w3 ⟨rfl, rfl⟩
  go_wp2_with fail
  refine hK.out _ _ hHeld (fun hHeld => ?_)
  clear hK K
  try simp only [Act.put, zzA, zzB, zzC]
  refine tkz (i := 9) (d := 9) rfl rfl ?_
  simp only [Act.put, zzA, zzB, zzC]
  refine wpAnyH_done (by kernel_rfl) ?_ _
  have HL3 := Lib.hid (hHeld.2.2.2.2.2.2.2.2.2)
  obtain ⟨x7, y0, y1, y2, y3, y4, y5, y6, b1, _⟩ := hHeld
  clear HPL
  go_wp2
  go_ret
  exact ⟨rfl, bl_step HB2.out HL3.out⟩
set_option maxRecDepth 100000 in
set_option maxHeartbeats 4000000 in
theorem leanR2 (B R i n cr : Nat) (h c ptr len : Int) (s a : Nat) (pa pb pc pr pl : Int) (A2 A3 A4 A5 A6 : Option Addr) (g1 : Nat) (n1 m1 n2 m2 n3 m3 n4 m4 n5 m5 n6 m6 : Nat) (v : Int) (AL : Option Addr) (nL cL : Nat) (w : World) (h0 : 0 ≤ h) (h1 : h ≤ 4294967295) (c0 : 0 ≤ c) (c1 : c ≤ 255) (s2 : s ≤ 16) (ha : placeI h c s = (a : Int)) (hi : i < n) (ha1 : a < n1) (v0 : 0 ≤ v) (v1 : v ≤ 4194303) (b0 : w.cell? ⟨B, 0, none⟩ = some (.slice (some ⟨R, 0, none⟩) n cr)) (b1 : w.cell? ⟨B, 1, none⟩ = some (.int .i64 c)) (q0 : w.cell? ⟨R, i * 16, none⟩ = some (.int .u8 2)) (q1 : w.cell? ⟨R, i * 16 + 1, none⟩ = some (.int .i64 (s : Int))) (q2 : w.cell? ⟨R, i * 16 + 2, none⟩ = some (.int .i64 pa)) (q3 : w.cell? ⟨R, i * 16 + 3, none⟩ = some (.int .i64 pb)) (q4 : w.cell? ⟨R, i * 16 + 4, none⟩ = some (.int .i64 pc)) (q5 : w.cell? ⟨R, i * 16 + 5, none⟩ = some (.int .i64 pr)) (q6 : w.cell? ⟨R, i * 16 + 6, none⟩ = some (.int .i64 pl)) (q7 : w.cell? ⟨R, i * 16 + 7, none⟩ = some (.int .u32 h)) (q8 : w.cell? ⟨R, i * 16 + 8, none⟩ = some (.slice (some ⟨g1, 0, none⟩) n1 m1)) (q9 : w.cell? ⟨R, i * 16 + 9, none⟩ = some (.slice A2 n2 m2)) (q10 : w.cell? ⟨R, i * 16 + 10, none⟩ = some (.slice A3 n3 m3)) (q11 : w.cell? ⟨R, i * 16 + 11, none⟩ = some (.slice A4 n4 m4)) (q12 : w.cell? ⟨R, i * 16 + 12, none⟩ = some (.slice A5 n5 m5)) (q13 : w.cell? ⟨R, i * 16 + 13, none⟩ = some (.slice A6 n6 m6)) (q14 : w.cell? ⟨R, i * 16 + 14, none⟩ = some (.int .i64 ptr)) (q15 : w.cell? ⟨R, i * 16 + 15, none⟩ = some (.int .i64 len)) (r0 : w.cell? ⟨g1, a, none⟩ = some (.int .i64 v)) :
    Calls Try.prog 40 #[.pointer (some ⟨B, 0, none⟩), .int .i64 (i : Int), .slice AL nL cL] w (Quiet (.int .i64 (stI (v / 1024))) w) := by
  have tq : v.tdiv 1024 = v / 1024 := Int.tdiv_eq_ediv_of_nonneg v0
  have e1 : IntKind.i64.wrap (v / 1024) = v / 1024 := IntWalk.i64_in _ (by omega)
  have HPL := Lib.hid (show ∀ W, Calls Try.prog 54 #[.int .u32 h, .int .i64 c, .int .i64 (s : Int)] W (Sam (.int .i64 (a : Int)) W) from fun W => ha ▸ placeR h c s W h0 h1 c0 c1 s2)
  have hii : (i : Int) < n := by omega
  clear h0 h1 c0 c1 s2 ha
  have hbz : Below w.heap.size w ((w.alloc (.cells #[.int .u8 2, .int .i64 (s : Int), .int .i64 pa, .int .i64 pb, .int .i64 pc, .int .i64 pr, .int .i64 pl, .int .u32 h, .slice (some ⟨g1, 0, none⟩) n1 m1, .slice A2 n2 m2, .slice A3 n3 m3, .slice A4 n4 m4, .slice A5 n5 m5, .slice A6 n6 m6, .int .i64 ptr, .int .i64 len] 74)).alloc (.cells #[.int .u8 2, .int .i64 (s : Int), .int .i64 pa, .int .i64 pb, .int .i64 pc, .int .i64 pr, .int .i64 pl] 25)) := ((Below.refl _ _).alloc (Nat.le_refl _) _).alloc (by simp) _
  have b1z := ck b1 hbz
  have r0z := ck r0 hbz
  clear r0
  go_enter Try.func40, Try.ntmps40
  go_upto_region 3 with fail
  obtain ⟨w2, hw2⟩ : ∃ xq, (w.alloc (.cells #[.int .u8 2, .int .i64 (s : Int), .int .i64 pa, .int .i64 pb, .int .i64 pc, .int .i64 pr, .int .i64 pl, .int .u32 h, .slice (some ⟨g1, 0, none⟩) n1 m1, .slice A2 n2 m2, .slice A3 n3 m3, .slice A4 n4 m4, .slice A5 n5 m5, .slice A6 n6 m6, .int .i64 ptr, .int .i64 len] 74)).alloc (.cells #[.int .u8 2, .int .i64 (s : Int), .int .i64 pa, .int .i64 pb, .int .i64 pc, .int .i64 pr, .int .i64 pl] 25) = xq := ⟨_, rfl⟩
  have k74 : Blk w2 w.heap.size 74 #[.int .u8 2, .int .i64 (s : Int), .int .i64 pa, .int .i64 pb, .int .i64 pc, .int .i64 pr, .int .i64 pl, .int .u32 h, .slice (some ⟨g1, 0, none⟩) n1 m1, .slice A2 n2 m2, .slice A3 n3 m3, .slice A4 n4 m4, .slice A5 n5 m5, .slice A6 n6 m6, .int .i64 ptr, .int .i64 len] := hw2 ▸ (Blk.new w _ _).alloc _
  have k25 : Blk w2 (w.heap.size + 1) 25 #[.int .u8 2, .int .i64 (s : Int), .int .i64 pa, .int .i64 pb, .int .i64 pc, .int .i64 pr, .int .i64 pl] := by
    have := Blk.new (w.alloc (.cells #[.int .u8 2, .int .i64 (s : Int), .int .i64 pa, .int .i64 pb, .int .i64 pc, .int .i64 pr, .int .i64 pl, .int .u32 h, .slice (some ⟨g1, 0, none⟩) n1 m1, .slice A2 n2 m2, .slice A3 n3 m3, .slice A4 n4 m4, .slice A5 n5 m5, .slice A6 n6 m6, .int .i64 ptr, .int .i64 len] 74)) 25 #[.int .u8 2, .int .i64 (s : Int), .int .i64 pa, .int .i64 pb, .int .i64 pc, .int .i64 pr, .int .i64 pl]
    rw [hw2] at this
    simpa using this
  rw [hw2] at hbz b1z r0z ⊢
  have HB2 := Lib.hid hbz
  have x7 : w2.cell? ⟨w.heap.size, 7, none⟩ = some (.int .u32 h) := k74.cell 7
  have x8 : w2.cell? ⟨w.heap.size, 8, none⟩ = some (.slice (some ⟨g1, 0, none⟩) n1 m1) := k74.cell 8
  have y0 : w2.cell? ⟨w.heap.size + 1, 0, none⟩ = some (.int .u8 2) := k25.cell 0
  have y1 : w2.cell? ⟨w.heap.size + 1, 1, none⟩ = some (.int .i64 (s : Int)) := k25.cell 1
  have y2 : w2.cell? ⟨w.heap.size + 1, 2, none⟩ = some (.int .i64 pa) := k25.cell 2
  have y3 : w2.cell? ⟨w.heap.size + 1, 3, none⟩ = some (.int .i64 pb) := k25.cell 3
  have y4 : w2.cell? ⟨w.heap.size + 1, 4, none⟩ = some (.int .i64 pc) := k25.cell 4
  have y5 : w2.cell? ⟨w.heap.size + 1, 5, none⟩ = some (.int .i64 pr) := k25.cell 5
  have y6 : w2.cell? ⟨w.heap.size + 1, 6, none⟩ = some (.int .i64 pl) := k25.cell 6
  have b1 : w2.cell? ⟨B, 1, none⟩ = some (.int .i64 c) := b1z
  have r0 : w2.cell? ⟨g1, a, none⟩ = some (.int .i64 v) := r0z
  have HF := Lib.hid (show ∀ W : World, Below w2.heap.size w2 W → W.cell? ⟨w.heap.size, 7, none⟩ = some (.int .u32 h) ∧ W.cell? ⟨w.heap.size, 8, none⟩ = some (.slice (some ⟨g1, 0, none⟩) n1 m1) ∧ W.cell? ⟨w.heap.size + 1, 0, none⟩ = some (.int .u8 2) ∧ W.cell? ⟨w.heap.size + 1, 1, none⟩ = some (.int .i64 (s : Int)) ∧ W.cell? ⟨w.heap.size + 1, 2, none⟩ = some (.int .i64 pa) ∧ W.cell? ⟨w.heap.size + 1, 3, none⟩ = some (.int .i64 pb) ∧ W.cell? ⟨w.heap.size + 1, 4, none⟩ = some (.int .i64 pc) ∧ W.cell? ⟨w.heap.size + 1, 5, none⟩ = some (.int .i64 pr) ∧ W.cell? ⟨w.heap.size + 1, 6, none⟩ = some (.int .i64 pl) ∧ W.cell? ⟨B, 1, none⟩ = some (.int .i64 c) ∧ W.cell? ⟨g1, a, none⟩ = some (.int .i64 v) ∧ Below w2.heap.size w2 W from fun W hL => ⟨ck x7 hL, ck x8 hL, ck y0 hL, ck y1 hL, ck y2 hL, ck y3 hL, ck y4 hL, ck y5 hL, ck y6 hL, ck b1 hL, ck r0 hL, hL⟩)
  clear hw2 hbz k74 k25 x7 x8 y0 y1 y2 y3 y4 y5 y6 b1 r0 b1z r0z
  clear q0 q1 q2 q3 q4 q5 q6 q7 q8 q9 q10 q11 q12 q13 q14 q15 b0
  refine wp_region_held_drew (S := (fun W : World => W.cell? ⟨w.heap.size, 7, none⟩ = some (.int .u32 h) ∧ W.cell? ⟨w.heap.size, 8, none⟩ = some (.slice (some ⟨g1, 0, none⟩) n1 m1) ∧ W.cell? ⟨w.heap.size + 1, 0, none⟩ = some (.int .u8 2) ∧ W.cell? ⟨w.heap.size + 1, 1, none⟩ = some (.int .i64 (s : Int)) ∧ W.cell? ⟨w.heap.size + 1, 2, none⟩ = some (.int .i64 pa) ∧ W.cell? ⟨w.heap.size + 1, 3, none⟩ = some (.int .i64 pb) ∧ W.cell? ⟨w.heap.size + 1, 4, none⟩ = some (.int .i64 pc) ∧ W.cell? ⟨w.heap.size + 1, 5, none⟩ = some (.int .i64 pr) ∧ W.cell? ⟨w.heap.size + 1, 6, none⟩ = some (.int .i64 pl) ∧ W.cell? ⟨B, 1, none⟩ = some (.int .i64 c) ∧ W.cell? ⟨g1, a, none⟩ = some (.int .i64 v) ∧ Below w2.heap.size w2 W)) (by kernel_rfl) (HF.out _ (below_drewN (Below.refl _ _) 1)) (fun hHeld => ?_)
  refine tkz (i := 0) (d := 22) rfl rfl ?_
  simp only [Act.put, zzA, zzB, zzC]
  refine tkz (i := 1) (d := 23) rfl rfl ?_
  simp only [Act.put, zzA, zzB, zzC]
  refine tkz (i := 2) (d := 24) rfl rfl ?_
  simp only [Act.put, zzA, zzB, zzC]
  refine tkz (i := 3) (d := 25) rfl rfl ?_
  simp only [Act.put, zzA, zzB, zzC]
  refine tkz (i := 4) (d := 26) rfl rfl ?_
  simp only [Act.put, zzA, zzB, zzC]
  refine tkz (i := 5) (d := 27) rfl rfl ?_
  simp only [Act.put, zzA, zzB, zzC]
  refine tkz (i := 6) (d := 28) rfl rfl ?_
  simp only [Act.put, zzA, zzB, zzC]
  refine tkz (i := 7) (d := 29) rfl rfl ?_
  simp only [Act.put, zzA, zzB, zzC]
  refine rdz (i := 8) rfl (fun K hK => ?_)
  go_simp
  refine (HPL.out _).mono ?_
  rintro e w3 ⟨rfl, rfl⟩
  go_wp2_with fail
  refine hK.out _ _ hHeld (fun hHeld => ?_)
  clear hK K
  try simp only [Act.put, zzA, zzB, zzC]
  refine tkz (i := 9) (d := 9) rfl rfl ?_
  simp only [Act.put, zzA, zzB, zzC]
  refine wpAnyH_done (by kernel_rfl) ?_ _
  have HL3 := Lib.hid (hHeld.2.2.2.2.2.2.2.2.2.2.2)
  obtain ⟨x7, x8, y0, y1, y2, y3, y4, y5, y6, b1, r0, _⟩ := hHeld
  clear HPL
  go_upto_region 8 with fail
  go_wp2_with fail
  refine (rstretch_any _ _).mono ?_
  rintro e w4 ⟨rfl, hb4⟩
  have HL4 := Lib.hid (bl_step HL3.out hb4)
  clear hb4
  go_wp2
  go_ret
  exact ⟨rfl, bl_step HB2.out HL4.out⟩
set_option maxRecDepth 100000 in
set_option maxHeartbeats 4000000 in
theorem leanR3 (B R i n cr : Nat) (h c ptr len : Int) (s a : Nat) (pa pb pc pr pl : Int) (A2 A4 A5 A6 : Option Addr) (g1 g3 : Nat) (n1 m1 n2 m2 n3 m3 n4 m4 n5 m5 n6 m6 : Nat) (v : Int) (y : Nat) (AL : Option Addr) (nL cL : Nat) (w : World) (h0 : 0 ≤ h) (h1 : h ≤ 4294967295) (c0 : 0 ≤ c) (c1 : c ≤ 255) (s2 : s ≤ 16) (ha : placeI h c s = (a : Int)) (hi : i < n) (ha3 : a < n3) (hy1 : y < n1) (v0 : 0 ≤ v) (v1 : v ≤ 65535) (b0 : w.cell? ⟨B, 0, none⟩ = some (.slice (some ⟨R, 0, none⟩) n cr)) (b1 : w.cell? ⟨B, 1, none⟩ = some (.int .i64 c)) (q0 : w.cell? ⟨R, i * 16, none⟩ = some (.int .u8 3)) (q1 : w.cell? ⟨R, i * 16 + 1, none⟩ = some (.int .i64 (s : Int))) (q2 : w.cell? ⟨R, i * 16 + 2, none⟩ = some (.int .i64 pa)) (q3 : w.cell? ⟨R, i * 16 + 3, none⟩ = some (.int .i64 pb)) (q4 : w.cell? ⟨R, i * 16 + 4, none⟩ = some (.int .i64 pc)) (q5 : w.cell? ⟨R, i * 16 + 5, none⟩ = some (.int .i64 pr)) (q6 : w.cell? ⟨R, i * 16 + 6, none⟩ = some (.int .i64 pl)) (q7 : w.cell? ⟨R, i * 16 + 7, none⟩ = some (.int .u32 h)) (q8 : w.cell? ⟨R, i * 16 + 8, none⟩ = some (.slice (some ⟨g1, 0, none⟩) n1 m1)) (q9 : w.cell? ⟨R, i * 16 + 9, none⟩ = some (.slice A2 n2 m2)) (q10 : w.cell? ⟨R, i * 16 + 10, none⟩ = some (.slice (some ⟨g3, 0, none⟩) n3 m3)) (q11 : w.cell? ⟨R, i * 16 + 11, none⟩ = some (.slice A4 n4 m4)) (q12 : w.cell? ⟨R, i * 16 + 12, none⟩ = some (.slice A5 n5 m5)) (q13 : w.cell? ⟨R, i * 16 + 13, none⟩ = some (.slice A6 n6 m6)) (q14 : w.cell? ⟨R, i * 16 + 14, none⟩ = some (.int .i64 ptr)) (q15 : w.cell? ⟨R, i * 16 + 15, none⟩ = some (.int .i64 len)) (s0 : w.cell? ⟨g3, a, none⟩ = some (.int .u8 (y : Int))) (r0 : w.cell? ⟨g1, y, none⟩ = some (.int .i64 v)) :
    Calls Try.prog 40 #[.pointer (some ⟨B, 0, none⟩), .int .i64 (i : Int), .slice AL nL cL] w (Quiet (.int .i64 (stI (v / 16))) w) := by
  have tq : v.tdiv 16 = v / 16 := Int.tdiv_eq_ediv_of_nonneg v0
  have e1 : IntKind.i64.wrap (v / 16) = v / 16 := IntWalk.i64_in _ (by omega)
  have hyi : (y : Int) < n1 := by omega
  have HPL := Lib.hid (show ∀ W, Calls Try.prog 54 #[.int .u32 h, .int .i64 c, .int .i64 (s : Int)] W (Sam (.int .i64 (a : Int)) W) from fun W => ha ▸ placeR h c s W h0 h1 c0 c1 s2)
  have hii : (i : Int) < n := by omega
  clear h0 h1 c0 c1 s2 ha
  have hbz : Below w.heap.size w ((w.alloc (.cells #[.int .u8 3, .int .i64 (s : Int), .int .i64 pa, .int .i64 pb, .int .i64 pc, .int .i64 pr, .int .i64 pl, .int .u32 h, .slice (some ⟨g1, 0, none⟩) n1 m1, .slice A2 n2 m2, .slice (some ⟨g3, 0, none⟩) n3 m3, .slice A4 n4 m4, .slice A5 n5 m5, .slice A6 n6 m6, .int .i64 ptr, .int .i64 len] 74)).alloc (.cells #[.int .u8 3, .int .i64 (s : Int), .int .i64 pa, .int .i64 pb, .int .i64 pc, .int .i64 pr, .int .i64 pl] 25)) := ((Below.refl _ _).alloc (Nat.le_refl _) _).alloc (by simp) _
  have b1z := ck b1 hbz
  have s0z := ck s0 hbz
  have r0z := ck r0 hbz
  clear s0 r0
  go_enter Try.func40, Try.ntmps40
  go_upto_region 3 with fail
  obtain ⟨w2, hw2⟩ : ∃ xq, (w.alloc (.cells #[.int .u8 3, .int .i64 (s : Int), .int .i64 pa, .int .i64 pb, .int .i64 pc, .int .i64 pr, .int .i64 pl, .int .u32 h, .slice (some ⟨g1, 0, none⟩) n1 m1, .slice A2 n2 m2, .slice (some ⟨g3, 0, none⟩) n3 m3, .slice A4 n4 m4, .slice A5 n5 m5, .slice A6 n6 m6, .int .i64 ptr, .int .i64 len] 74)).alloc (.cells #[.int .u8 3, .int .i64 (s : Int), .int .i64 pa, .int .i64 pb, .int .i64 pc, .int .i64 pr, .int .i64 pl] 25) = xq := ⟨_, rfl⟩
  have k74 : Blk w2 w.heap.size 74 #[.int .u8 3, .int .i64 (s : Int), .int .i64 pa, .int .i64 pb, .int .i64 pc, .int .i64 pr, .int .i64 pl, .int .u32 h, .slice (some ⟨g1, 0, none⟩) n1 m1, .slice A2 n2 m2, .slice (some ⟨g3, 0, none⟩) n3 m3, .slice A4 n4 m4, .slice A5 n5 m5, .slice A6 n6 m6, .int .i64 ptr, .int .i64 len] := hw2 ▸ (Blk.new w _ _).alloc _
  have k25 : Blk w2 (w.heap.size + 1) 25 #[.int .u8 3, .int .i64 (s : Int), .int .i64 pa, .int .i64 pb, .int .i64 pc, .int .i64 pr, .int .i64 pl] := by
    have := Blk.new (w.alloc (.cells #[.int .u8 3, .int .i64 (s : Int), .int .i64 pa, .int .i64 pb, .int .i64 pc, .int .i64 pr, .int .i64 pl, .int .u32 h, .slice (some ⟨g1, 0, none⟩) n1 m1, .slice A2 n2 m2, .slice (some ⟨g3, 0, none⟩) n3 m3, .slice A4 n4 m4, .slice A5 n5 m5, .slice A6 n6 m6, .int .i64 ptr, .int .i64 len] 74)) 25 #[.int .u8 3, .int .i64 (s : Int), .int .i64 pa, .int .i64 pb, .int .i64 pc, .int .i64 pr, .int .i64 pl]
    rw [hw2] at this
    simpa using this
  rw [hw2] at hbz b1z s0z r0z ⊢
  have HB2 := Lib.hid hbz
  have x7 : w2.cell? ⟨w.heap.size, 7, none⟩ = some (.int .u32 h) := k74.cell 7
  have x8 : w2.cell? ⟨w.heap.size, 8, none⟩ = some (.slice (some ⟨g1, 0, none⟩) n1 m1) := k74.cell 8
  have x10 : w2.cell? ⟨w.heap.size, 10, none⟩ = some (.slice (some ⟨g3, 0, none⟩) n3 m3) := k74.cell 10
  have y0 : w2.cell? ⟨w.heap.size + 1, 0, none⟩ = some (.int .u8 3) := k25.cell 0
  have y1 : w2.cell? ⟨w.heap.size + 1, 1, none⟩ = some (.int .i64 (s : Int)) := k25.cell 1
  have y2 : w2.cell? ⟨w.heap.size + 1, 2, none⟩ = some (.int .i64 pa) := k25.cell 2
  have y3 : w2.cell? ⟨w.heap.size + 1, 3, none⟩ = some (.int .i64 pb) := k25.cell 3
  have y4 : w2.cell? ⟨w.heap.size + 1, 4, none⟩ = some (.int .i64 pc) := k25.cell 4
  have y5 : w2.cell? ⟨w.heap.size + 1, 5, none⟩ = some (.int .i64 pr) := k25.cell 5
  have y6 : w2.cell? ⟨w.heap.size + 1, 6, none⟩ = some (.int .i64 pl) := k25.cell 6
  have b1 : w2.cell? ⟨B, 1, none⟩ = some (.int .i64 c) := b1z
  have s0 : w2.cell? ⟨g3, a, none⟩ = some (.int .u8 (y : Int)) := s0z
  have r0 : w2.cell? ⟨g1, y, none⟩ = some (.int .i64 v) := r0z
  have HF := Lib.hid (show ∀ W : World, Below w2.heap.size w2 W → W.cell? ⟨w.heap.size, 7, none⟩ = some (.int .u32 h) ∧ W.cell? ⟨w.heap.size, 8, none⟩ = some (.slice (some ⟨g1, 0, none⟩) n1 m1) ∧ W.cell? ⟨w.heap.size, 10, none⟩ = some (.slice (some ⟨g3, 0, none⟩) n3 m3) ∧ W.cell? ⟨w.heap.size + 1, 0, none⟩ = some (.int .u8 3) ∧ W.cell? ⟨w.heap.size + 1, 1, none⟩ = some (.int .i64 (s : Int)) ∧ W.cell? ⟨w.heap.size + 1, 2, none⟩ = some (.int .i64 pa) ∧ W.cell? ⟨w.heap.size + 1, 3, none⟩ = some (.int .i64 pb) ∧ W.cell? ⟨w.heap.size + 1, 4, none⟩ = some (.int .i64 pc) ∧ W.cell? ⟨w.heap.size + 1, 5, none⟩ = some (.int .i64 pr) ∧ W.cell? ⟨w.heap.size + 1, 6, none⟩ = some (.int .i64 pl) ∧ W.cell? ⟨B, 1, none⟩ = some (.int .i64 c) ∧ W.cell? ⟨g3, a, none⟩ = some (.int .u8 (y : Int)) ∧ W.cell? ⟨g1, y, none⟩ = some (.int .i64 v) ∧ Below w2.heap.size w2 W from fun W hL => ⟨ck x7 hL, ck x8 hL, ck x10 hL, ck y0 hL, ck y1 hL, ck y2 hL, ck y3 hL, ck y4 hL, ck y5 hL, ck y6 hL, ck b1 hL, ck s0 hL, ck r0 hL, hL⟩)
  clear hw2 hbz k74 k25 x7 x8 x10 y0 y1 y2 y3 y4 y5 y6 b1 s0 r0 b1z s0z r0z
  clear q0 q1 q2 q3 q4 q5 q6 q7 q8 q9 q10 q11 q12 q13 q14 q15 b0
  refine wp_region_held_drew (S := (fun W : World => W.cell? ⟨w.heap.size, 7, none⟩ = some (.int .u32 h) ∧ W.cell? ⟨w.heap.size, 8, none⟩ = some (.slice (some ⟨g1, 0, none⟩) n1 m1) ∧ W.cell? ⟨w.heap.size, 10, none⟩ = some (.slice (some ⟨g3, 0, none⟩) n3 m3) ∧ W.cell? ⟨w.heap.size + 1, 0, none⟩ = some (.int .u8 3) ∧ W.cell? ⟨w.heap.size + 1, 1, none⟩ = some (.int .i64 (s : Int)) ∧ W.cell? ⟨w.heap.size + 1, 2, none⟩ = some (.int .i64 pa) ∧ W.cell? ⟨w.heap.size + 1, 3, none⟩ = some (.int .i64 pb) ∧ W.cell? ⟨w.heap.size + 1, 4, none⟩ = some (.int .i64 pc) ∧ W.cell? ⟨w.heap.size + 1, 5, none⟩ = some (.int .i64 pr) ∧ W.cell? ⟨w.heap.size + 1, 6, none⟩ = some (.int .i64 pl) ∧ W.cell? ⟨B, 1, none⟩ = some (.int .i64 c) ∧ W.cell? ⟨g3, a, none⟩ = some (.int .u8 (y : Int)) ∧ W.cell? ⟨g1, y, none⟩ = some (.int .i64 v) ∧ Below w2.heap.size w2 W)) (by kernel_rfl) (HF.out _ (below_drewN (Below.refl _ _) 1)) (fun hHeld => ?_)
  refine tkz (i := 0) (d := 22) rfl rfl ?_
  simp only [Act.put, zzA, zzB, zzC]
  refine tkz (i := 1) (d := 23) rfl rfl ?_
  simp only [Act.put, zzA, zzB, zzC]
  refine tkz (i := 2) (d := 24) rfl rfl ?_
  simp only [Act.put, zzA, zzB, zzC]
  refine tkz (i := 3) (d := 25) rfl rfl ?_
  simp only [Act.put, zzA, zzB, zzC]
  refine tkz (i := 4) (d := 26) rfl rfl ?_
  simp only [Act.put, zzA, zzB, zzC]
  refine tkz (i := 5) (d := 27) rfl rfl ?_
  simp only [Act.put, zzA, zzB, zzC]
  refine tkz (i := 6) (d := 28) rfl rfl ?_
  simp only [Act.put, zzA, zzB, zzC]
  refine tkz (i := 7) (d := 29) rfl rfl ?_
  simp only [Act.put, zzA, zzB, zzC]
  refine rdz (i := 8) rfl (fun K hK => ?_)
  go_simp
  refine (HPL.out _).mono ?_
  rintro e w3 ⟨rfl, rfl⟩
  go_wp2_with fail
  refine hK.out _ _ hHeld (fun hHeld => ?_)
  clear hK K
  try simp only [Act.put, zzA, zzB, zzC]
  refine tkz (i := 9) (d := 9) rfl rfl ?_
  simp only [Act.put, zzA, zzB, zzC]
  refine wpAnyH_done (by kernel_rfl) ?_ _
  have HL3 := Lib.hid (hHeld.2.2.2.2.2.2.2.2.2.2.2.2.2)
  obtain ⟨x7, x8, x10, y0, y1, y2, y3, y4, y5, y6, b1, s0, r0, _⟩ := hHeld
  clear HPL
  go_upto_region 10 with fail
  refine wp_region_held_drew (S := (fun W : World => W.cell? ⟨w.heap.size, 7, none⟩ = some (.int .u32 h) ∧ W.cell? ⟨w.heap.size, 8, none⟩ = some (.slice (some ⟨g1, 0, none⟩) n1 m1) ∧ W.cell? ⟨w.heap.size, 10, none⟩ = some (.slice (some ⟨g3, 0, none⟩) n3 m3) ∧ W.cell? ⟨w.heap.size + 1, 0, none⟩ = some (.int .u8 3) ∧ W.cell? ⟨w.heap.size + 1, 1, none⟩ = some (.int .i64 (s : Int)) ∧ W.cell? ⟨w.heap.size + 1, 2, none⟩ = some (.int .i64 pa) ∧ W.cell? ⟨w.heap.size + 1, 3, none⟩ = some (.int .i64 pb) ∧ W.cell? ⟨w.heap.size + 1, 4, none⟩ = some (.int .i64 pc) ∧ W.cell? ⟨w.heap.size + 1, 5, none⟩ = some (.int .i64 pr) ∧ W.cell? ⟨w.heap.size + 1, 6, none⟩ = some (.int .i64 pl) ∧ W.cell? ⟨B, 1, none⟩ = some (.int .i64 c) ∧ W.cell? ⟨g3, a, none⟩ = some (.int .u8 (y : Int)) ∧ W.cell? ⟨g1, y, none⟩ = some (.int .i64 v) ∧ Below w2.heap.size w2 W)) (by kernel_rfl) (HF.out _ (HL3.out.drew)) (fun hHeld => ?_)
  refine tkz (i := 0) (d := 48) rfl rfl ?_
  simp only [Act.put, zzA, zzB, zzC]
  refine tkz (i := 1) (d := 49) rfl rfl ?_
  simp only [Act.put, zzA, zzB, zzC]
  refine tkz (i := 2) (d := 50) rfl rfl ?_
  simp only [Act.put, zzA, zzB, zzC]
  refine tkz (i := 3) (d := 51) rfl rfl ?_
  simp only [Act.put, zzA, zzB, zzC]
  refine tkz (i := 4) (d := 52) rfl rfl ?_
  simp only [Act.put, zzA, zzB, zzC]
  refine tkz (i := 5) (d := 53) rfl rfl ?_
  simp only [Act.put, zzA, zzB, zzC]
  refine tkz (i := 6) (d := 54) rfl rfl ?_
  simp only [Act.put, zzA, zzB, zzC]
  refine tkz (i := 7) (d := 55) rfl rfl ?_
  simp only [Act.put, zzA, zzB, zzC]
  refine tkz (i := 8) (d := 56) rfl rfl ?_
  simp only [Act.put, zzA, zzB, zzC]
  refine tkz (i := 9) (d := 57) rfl rfl ?_
  simp only [Act.put, zzA, zzB, zzC]
  refine rdz (i := 10) rfl (fun K hK => ?_)
  go_simp
  refine (rstretch_any _ _).mono ?_
  rintro e w4 ⟨rfl, hb⟩
  go_wp2_with fail
  refine hK.out _ _ (HF.out _ (bl_step (hHeld.2.2.2.2.2.2.2.2.2.2.2.2.2) hb)) (fun hHeld => ?_)
  clear hK K
  try simp only [Act.put, zzA, zzB, zzC]
  refine tkz (i := 11) (d := 6) rfl rfl ?_
  simp only [Act.put, zzA, zzB, zzC]
  refine wpAnyH_done (by kernel_rfl) ?_ _
  go_wp2
  go_ret
  exact ⟨rfl, bl_step HB2.out (hHeld.2.2.2.2.2.2.2.2.2.2.2.2.2)⟩
end Go.Proofs.Ytnohfeaamfjimaa
