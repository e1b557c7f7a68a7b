/- blend: what a mix begins with: walk. · blend: what a match begins with: walk. · blend: what a history, a chain begin with: walks. -/
import Derived.Test.YtnohfeaamfjimaaVrBlRp
import Derived.StillTailTactics
import Derived.IntWalk
namespace Go.Proofs.Ytnohfeaamfjimaa
open Go.RowKit Go.WideShapes
set_option linter.unusedVariables false
set_option linter.unusedSimpArgs false
set_option maxRecDepth 100000 in
set_option maxHeartbeats 4000000 in
theorem begun_7 (S N m M : Nat) (a c r l x : Int) (hs2 : S ≤ 16) (hN : 2 ^ S = N) (m1 : 1 ≤ m) (m2 : m ≤ 8) (hM : N * m = M) (hx : 65536 / (m : Int) = x) (w : World) :
    Calls Try.prog 27 #[Pt.agg ⟨7, S, a, m, c, r, l⟩] w (BegE ⟨7, S, a, m, c, r, l⟩ w) := by
  unfold Pt.agg
  have hNb : N ≤ 65536 := by rw [← hN]; exact Nat.pow_le_pow_right (show 0 < 2 by omega) hs2
  have hN1 : 1 ≤ N := by rw [← hN]; exact Nat.two_pow_pos S
  have hp : wrap64 ((2 : Int) ^ S) = (N : Int) := by
    rw [show ((2 : Int) ^ S) = ((2 ^ S : Nat) : Int) by push_cast; rfl, hN]
    unfold wrap64
    omega
  have HN := Lib.hid hN
  clear hN
  go_enter Try.func27, Try.ntmps27
  go_upto_region 1 with fail
  go_region
  try simp only [hp]
  obtain ⟨w1, hw1⟩ : ∃ w1, ((w.alloc (.cells #[.int .u8 7, .int .i64 (S : Int), .int .i64 a, .int .i64 (m : Int), .int .i64 c, .int .i64 r, .int .i64 l] 25)).alloc (.cells #[.int .u8 7, .int .i64 (S : Int), .int .i64 a, .int .i64 (m : Int), .int .i64 c, .int .i64 r, .int .i64 l, .int .u32 0] 84)).drew = w1 := ⟨_, rfl⟩
  have k25 : Blk w1 w.heap.size 25 #[.int .u8 7, .int .i64 (S : Int), .int .i64 a, .int .i64 (m : Int), .int .i64 c, .int .i64 r, .int .i64 l] := hw1 ▸ ((Blk.new w _ _).alloc _).drew
  have k84 : Blk w1 (w.heap.size + 1) 84 #[.int .u8 7, .int .i64 (S : Int), .int .i64 a, .int .i64 (m : Int), .int .i64 c, .int .i64 r, .int .i64 l, .int .u32 0] := by
    have := (Blk.new (w.alloc (.cells #[.int .u8 7, .int .i64 (S : Int), .int .i64 a, .int .i64 (m : Int), .int .i64 c, .int .i64 r, .int .i64 l] 25)) 84 #[.int .u8 7, .int .i64 (S : Int), .int .i64 a, .int .i64 (m : Int), .int .i64 c, .int .i64 r, .int .i64 l, .int .u32 0]).drew
    rw [hw1] at this
    simpa using this
  have hb1 : Below w.heap.size w w1 := hw1 ▸ below_drewN (((Below.refl _ _).alloc (Nat.le_refl _) _).alloc (by simp) _) 1
  rw [hw1]
  have hsz1 : w.heap.size + 2 ≤ w1.heap.size := by have := k84.lt; omega
  have q0 : w1.cell? ⟨w.heap.size + 1, 0, none⟩ = some (.int .u8 7) := k84.cell 0
  have q1 : w1.cell? ⟨w.heap.size + 1, 1, none⟩ = some (.int .i64 (S : Int)) := k84.cell 1
  have q2 : w1.cell? ⟨w.heap.size + 1, 2, none⟩ = some (.int .i64 a) := k84.cell 2
  have q3 : w1.cell? ⟨w.heap.size + 1, 3, none⟩ = some (.int .i64 (m : Int)) := k84.cell 3
  have q4 : w1.cell? ⟨w.heap.size + 1, 4, none⟩ = some (.int .i64 c) := k84.cell 4
  have q5 : w1.cell? ⟨w.heap.size + 1, 5, none⟩ = some (.int .i64 r) := k84.cell 5
  have q6 : w1.cell? ⟨w.heap.size + 1, 6, none⟩ = some (.int .i64 l) := k84.cell 6
  have q7 : w1.cell? ⟨w.heap.size + 1, 7, none⟩ = some (.int .u32 0) := k84.cell 7
  have d0 : w1.cell? ⟨w.heap.size, 0, none⟩ = some (.int .u8 7) := k25.cell 0
  have d3 : w1.cell? ⟨w.heap.size, 3, none⟩ = some (.int .i64 (m : Int)) := k25.cell 3
  clear k25 k84
  have HF := Lib.hid (show ∀ W : World, Below w1.heap.size w1 W → W.cell? ⟨w.heap.size + 1, 0, none⟩ = some (.int .u8 7) ∧ W.cell? ⟨w.heap.size + 1, 1, none⟩ = some (.int .i64 (S : Int)) ∧ W.cell? ⟨w.heap.size + 1, 2, none⟩ = some (.int .i64 a) ∧ W.cell? ⟨w.heap.size + 1, 3, none⟩ = some (.int .i64 (m : Int)) ∧ W.cell? ⟨w.heap.size + 1, 4, none⟩ = some (.int .i64 c) ∧ W.cell? ⟨w.heap.size + 1, 5, none⟩ = some (.int .i64 r) ∧ W.cell? ⟨w.heap.size + 1, 6, none⟩ = some (.int .i64 l) ∧ W.cell? ⟨w.heap.size + 1, 7, none⟩ = some (.int .u32 0) ∧ W.cell? ⟨w.heap.size, 0, none⟩ = some (.int .u8 7) ∧ W.cell? ⟨w.heap.size, 3, none⟩ = some (.int .i64 (m : Int)) ∧ Below w1.heap.size w1 W from fun W hL => ⟨ck q0 hL, ck q1 hL, ck q2 hL, ck q3 hL, ck q4 hL, ck q5 hL, ck q6 hL, ck q7 hL, ck d0 hL, ck d3 hL, hL⟩)
  have HL := Lib.hid (show Below w1.heap.size w1 w1 from Below.refl _ _)
  have HB1 := Lib.hid hb1
  clear hw1 hb1 hp
  have hM1 : 1 ≤ M := by rw [← hM]; exact Nat.mul_pos hN1 m1
  have hM2 : M ≤ 65536 * 8 := by rw [← hM]; exact Nat.mul_le_mul hNb m2
  have hq : (65536 : Int).tdiv (m : Int) = x := by rw [← hx, Int.tdiv_eq_ediv_of_nonneg (by omega)]
  have hx2 : 0 ≤ x ∧ x ≤ 65536 := by
    rw [← hx]
    exact ⟨Int.ediv_nonneg (by omega) (by omega), Int.ediv_le_self _ (by omega)⟩
  have e1 : IntKind.i64.wrap x = x := IntWalk.i64_in _ (by omega)
  have e2 : IntKind.i64.wrap ((N : Int) * (m : Int)) = (M : Int) := by
    rw [← Int.natCast_mul, hM]
    exact IntWalk.i64_in _ (by omega)
  have hm0 : ¬ m = 0 := by omega
  have HX := Lib.hid hx
  have HM := Lib.hid hM
  clear hx hM
  have HRP := Lib.hid (show ∀ (g : Nat) (W : World), Blk W g 3 #[.int .i64 x] → Calls Try.prog 45 #[.slice (some ⟨g, 0, none⟩) 1 1, .int .i64 (M : Int)] W (fun e w' => e = .returned (.slice (some ⟨W.heap.size, 0, none⟩) (M) (M)) ∧ Below W.heap.size W w' ∧ Blk w' W.heap.size 3 (rep (M) [.int .i64 x]).toArray) from fun g W hx => repeatI x g M W hM1 (by omega) hx)
  go_upto_region 20 with fail
  refine wp_region_held_drew (S := (fun W : World => W.cell? ⟨w.heap.size + 1, 0, none⟩ = some (.int .u8 7) ∧ W.cell? ⟨w.heap.size + 1, 1, none⟩ = some (.int .i64 (S : Int)) ∧ W.cell? ⟨w.heap.size + 1, 2, none⟩ = some (.int .i64 a) ∧ W.cell? ⟨w.heap.size + 1, 3, none⟩ = some (.int .i64 (m : Int)) ∧ W.cell? ⟨w.heap.size + 1, 4, none⟩ = some (.int .i64 c) ∧ W.cell? ⟨w.heap.size + 1, 5, none⟩ = some (.int .i64 r) ∧ W.cell? ⟨w.heap.size + 1, 6, none⟩ = some (.int .i64 l) ∧ W.cell? ⟨w.heap.size + 1, 7, none⟩ = some (.int .u32 0) ∧ W.cell? ⟨w.heap.size, 0, none⟩ = some (.int .u8 7) ∧ W.cell? ⟨w.heap.size, 3, none⟩ = some (.int .i64 (m : Int)) ∧ Below w1.heap.size w1 W)) (by kernel_rfl) (HF.out _ (below_drewN (HL.out) 1)) (fun hHeld => ?_)
  have HB2 := Lib.hid (show Below w1.heap.size w1 w1.drew from below_drewN (Below.refl _ _) 1)
  obtain ⟨w2, hw2⟩ : ∃ x, w1.drew = x := ⟨_, rfl⟩
  rw [hw2] at HB2 hHeld ⊢
  clear hw2
  refine tkz (i := 0) (d := 76) rfl rfl ?_
  simp only [Act.put, zzA, zzB, zzC]
  refine tkz (i := 1) (d := 77) rfl rfl ?_
  simp only [Act.put, zzA, zzB, zzC]
  refine tkz (i := 2) (d := 78) rfl rfl ?_
  simp only [Act.put, zzA, zzB, zzC]
  refine tkz (i := 3) (d := 79) rfl rfl ?_
  simp only [Act.put, zzA, zzB, zzC]
  refine tkz (i := 5) (d := 81) rfl rfl ?_
  simp only [Act.put, zzA, zzB, zzC]
  refine tkz (i := 6) (d := 82) rfl rfl ?_
  simp only [Act.put, zzA, zzB, zzC]
  refine tkz (i := 7) (d := 83) rfl rfl ?_
  simp only [Act.put, zzA, zzB, zzC]
  refine tkz (i := 8) (d := 84) rfl rfl ?_
  simp only [Act.put, zzA, zzB, zzC]
  refine rdz (i := 4) rfl (fun K hK => ?_)
  go_simp
  have hb := (Below.refl w2.heap.size w2).alloc (Nat.le_refl _) (.cells #[.int .i64 x] 3)
  have HNgn := Lib.hid (Blk.new w2 3 #[.int .i64 x])
  have HGgn := Lib.hid (show w2.heap.size ≤ w2.heap.size from Nat.le_refl _)
  have HBEgn := Lib.hid (hHeld.2.2.2.2.2.2.2.2.2.2)
  obtain ⟨w3, hwn⟩ : ∃ xq, w2.alloc (.cells #[.int .i64 x] 3) = xq := ⟨_, rfl⟩
  obtain ⟨gn, hgn⟩ : ∃ xq, w2.heap.size = xq := ⟨_, rfl⟩
  rw [hwn] at hb HNgn ⊢
  have hGE : w1.heap.size ≤ gn := by have := HBEgn.out.size; omega
  rw [hgn] at HNgn ⊢
  clear hwn hgn HGgn HBEgn
  refine hK.out _ _ (HF.out _ (bl_step (hHeld.2.2.2.2.2.2.2.2.2.2) hb)) (fun hHeld => ?_)
  clear hK K
  try simp only [Act.put, zzA, zzB, zzC]
  refine rdz (i := 9) rfl (fun K hK => ?_)
  go_simp
  refine (HRP.out gn w3 HNgn.out).mono ?_
  rintro e w4 ⟨he, hb, hbk⟩
  subst he
  have HBK := Lib.hid hbk
  have hGT : w1.heap.size ≤ w3.heap.size := (hHeld.2.2.2.2.2.2.2.2.2.2).size
  obtain ⟨gt, hgt⟩ : ∃ x, w3.heap.size = x := ⟨_, rfl⟩
  rw [hgt] at HBK hGT ⊢
  clear hbk hgt
  go_wp2_with fail
  refine hK.out _ _ (HF.out _ (bl_step (hHeld.2.2.2.2.2.2.2.2.2.2) hb)) (fun hHeld => ?_)
  clear hK K
  try simp only [Act.put, zzA, zzB, zzC]
  refine tkz (i := 10) (d := 86) rfl rfl ?_
  simp only [Act.put, zzA, zzB, zzC]
  refine rdz (i := 11) rfl (fun K hK => ?_)
  go_simp
  have hb := (Below.refl w4.heap.size w4).alloc (Nat.le_refl _) (.cells #[.int .u8 7, .int .i64 (S : Int), .int .i64 a, .int .i64 (m : Int), .int .i64 c, .int .i64 r, .int .i64 l, .int .u32 0, .slice (some ⟨gt, 0, none⟩) (M) (M)] 108)
  have HNg6 := Lib.hid (Blk.new w4 108 #[.int .u8 7, .int .i64 (S : Int), .int .i64 a, .int .i64 (m : Int), .int .i64 c, .int .i64 r, .int .i64 l, .int .u32 0, .slice (some ⟨gt, 0, none⟩) (M) (M)])
  have HGg6 := Lib.hid (show w4.heap.size ≤ w4.heap.size from Nat.le_refl _)
  have HBEg6 := Lib.hid (hHeld.2.2.2.2.2.2.2.2.2.2)
  obtain ⟨w5, hwn⟩ : ∃ xq, w4.alloc (.cells #[.int .u8 7, .int .i64 (S : Int), .int .i64 a, .int .i64 (m : Int), .int .i64 c, .int .i64 r, .int .i64 l, .int .u32 0, .slice (some ⟨gt, 0, none⟩) (M) (M)] 108) = xq := ⟨_, rfl⟩
  obtain ⟨g6, hgn⟩ : ∃ xq, w4.heap.size = xq := ⟨_, rfl⟩
  rw [hwn] at hb HNg6 ⊢
  have hGE : w1.heap.size ≤ g6 := by have := HBEg6.out.size; omega
  rw [hgn] at HNg6 ⊢
  clear hwn hgn HGg6 HBEg6
  have HBK5 := Lib.hid (HBK.out.below hb)
  refine hK.out _ _ (HF.out _ (bl_step (hHeld.2.2.2.2.2.2.2.2.2.2) hb)) (fun hHeld => ?_)
  clear hK K
  try simp only [Act.put, zzA, zzB, zzC]
  refine tkz (i := 12) (d := 88) rfl rfl ?_
  simp only [Act.put, zzA, zzB, zzC]
  refine tkz (i := 13) (d := 2) rfl rfl ?_
  simp only [Act.put, zzA, zzB, zzC]
  refine wpAnyH_done (by kernel_rfl) ?_ _
  go_wp2
  go_ret
  refine BegE.mk ⟨g6, g6, gt⟩ (T := 107) rfl rfl (bl_step HB1.out (hHeld.2.2.2.2.2.2.2.2.2.2)) (ub7 HN.out HX.out (HM.out ▸ HNg6.out) (HM.out ▸ HBK5.out)) (fun b hb => ?_)
  have k1 := HNg6.out.lt
  have k2 := HBK5.out.lt
  rcases hb with hb | hb | hb <;> (simp only at hb; subst hb) <;> omega
end Go.Proofs.Ytnohfeaamfjimaa
namespace Go.Proofs.Ytnohfeaamfjimaa
open Go.RowKit Go.WideShapes
set_option linter.unusedVariables false
set_option linter.unusedSimpArgs false
theorem step_make {t e : TypeId} {z : Value} {size bytes : Nat} (T : SlS Try.prog t e z size bytes) (v : Value) (hz : ∀ i, i < z.cells.size → z.cells[i]! = v) {ops : Array Oper} {o : Oper} {a : Act} {w : World} {K : Act → World → Prop} {Q : Exit → Act → World → Prop} {E : Prop} (hgd : Region.wanted o (yielded ops a.tmps) = true) (x y : Operand) (ho : o.op = .makeSlice t x y) (n : Nat) (hx : a.eval x = .int .i64 (n : Int)) (hy : a.eval y = .int .i64 (n : Int)) (hb : bytes * n ≤ 281474976710656) (hn : n ≤ 9223372036854775807)
    (h : K (a.put o.dst (.slice (some ⟨w.heap.size, 0, none⟩) n n)) (w.alloc (.cells (List.replicate (n * size) v).toArray e))) :
    if Region.wanted o (yielded ops a.tmps) = true then Oper.wp Try.prog o a w K Q else E := by
  rw [if_pos hgd]
  unfold Oper.wp execOp
  simp only [ho, hx, hy, run_makeS T v hz w n hb hn, Sem.run_bind, Sem.run_pure, Result.andThen_ok]
  exact h
theorem tOctS : SlS Try.prog 72 5 (.int .u8 0) 1 1 := ⟨Try.underlying72, by kernel_rfl, by kernel_rfl, by omega⟩
theorem octs_zero (N : Nat) : (List.replicate (N * 1) (Value.int .u8 0)).toArray = (octs (List.replicate N 0)).toArray := by simp [octs]
theorem ints_zero (N : Nat) : (List.replicate N (Value.int .i64 0)).toArray = (ints (List.replicate N 0)).toArray := by simp [ints]
theorem ub4 {S N : Nat} {a b c r l : Int} {w : World} {g gs gt : Nat} (hN : 2 ^ S = N) (h : Blk w g 99 #[.int .u8 4, .int .i64 (S : Int), .int .i64 a, .int .i64 b, .int .i64 c, .int .i64 r, .int .i64 l, .int .u32 0, .slice (some ⟨gs, 0, none⟩) N N, .slice (some ⟨gt, 0, none⟩) N N, .int .i64 0, .int .i64 0]) (hs : Blk w gs 5 (List.replicate (N * 1) (.int .u8 0)).toArray) (ht : Blk w gt 3 (List.replicate (N * 1) (.int .i64 0)).toArray) : UB w (beginU ⟨4, S, a, b, c, r, l⟩) ⟨g, gs, gt⟩ := by
  subst hN
  have e : (beginU ⟨4, S, a, b, c, r, l⟩).t = List.replicate (2 ^ S) 0 := by simp [beginU]
  have e2 : (beginU ⟨4, S, a, b, c, r, l⟩).b = List.replicate (2 ^ S) 0 := by simp [beginU]
  refine ⟨?_, fun _ => by rw [e2, ← octs_zero]; exact hs, fun k => by simp [beginU] at k, fun _ => by rw [e, ← ints_zero]; simpa using ht⟩
  unfold Un.cells
  rw [tail4 _ _ rfl, e, e2, List.length_replicate]
  exact h
set_option maxRecDepth 100000 in
set_option maxHeartbeats 4000000 in
theorem begun_4 (S N : Nat) (a b c r l : Int) (hs2 : S ≤ 16) (hN : 2 ^ S = N) (w : World) :
    Calls Try.prog 27 #[Pt.agg ⟨4, S, a, b, c, r, l⟩] w (BegE ⟨4, S, a, b, c, r, l⟩ w) := by
  unfold Pt.agg
  have hNb : N ≤ 65536 := by rw [← hN]; exact Nat.pow_le_pow_right (show 0 < 2 by omega) hs2
  have hN1 : 1 ≤ N := by rw [← hN]; exact Nat.two_pow_pos S
  have hp : wrap64 ((2 : Int) ^ S) = (N : Int) := by
    rw [show ((2 : Int) ^ S) = ((2 ^ S : Nat) : Int) by push_cast; rfl, hN]
    unfold wrap64
    omega
  have HN := Lib.hid hN
  clear hN
  go_enter Try.func27, Try.ntmps27
  go_upto_region 1 with fail
  go_region
  try simp only [hp]
  obtain ⟨w1, hw1⟩ : ∃ w1, ((w.alloc (.cells #[.int .u8 4, .int .i64 (S : Int), .int .i64 a, .int .i64 b, .int .i64 c, .int .i64 r, .int .i64 l] 25)).alloc (.cells #[.int .u8 4, .int .i64 (S : Int), .int .i64 a, .int .i64 b, .int .i64 c, .int .i64 r, .int .i64 l, .int .u32 0] 84)).drew = w1 := ⟨_, rfl⟩
  have k25 : Blk w1 w.heap.size 25 #[.int .u8 4, .int .i64 (S : Int), .int .i64 a, .int .i64 b, .int .i64 c, .int .i64 r, .int .i64 l] := hw1 ▸ ((Blk.new w _ _).alloc _).drew
  have k84 : Blk w1 (w.heap.size + 1) 84 #[.int .u8 4, .int .i64 (S : Int), .int .i64 a, .int .i64 b, .int .i64 c, .int .i64 r, .int .i64 l, .int .u32 0] := by
    have := (Blk.new (w.alloc (.cells #[.int .u8 4, .int .i64 (S : Int), .int .i64 a, .int .i64 b, .int .i64 c, .int .i64 r, .int .i64 l] 25)) 84 #[.int .u8 4, .int .i64 (S : Int), .int .i64 a, .int .i64 b, .int .i64 c, .int .i64 r, .int .i64 l, .int .u32 0]).drew
    rw [hw1] at this
    simpa using this
  have hb1 : Below w.heap.size w w1 := hw1 ▸ below_drewN (((Below.refl _ _).alloc (Nat.le_refl _) _).alloc (by simp) _) 1
  rw [hw1]
  have hsz1 : w.heap.size + 2 ≤ w1.heap.size := by have := k84.lt; omega
  have q0 : w1.cell? ⟨w.heap.size + 1, 0, none⟩ = some (.int .u8 4) := k84.cell 0
  have q1 : w1.cell? ⟨w.heap.size + 1, 1, none⟩ = some (.int .i64 (S : Int)) := k84.cell 1
  have q2 : w1.cell? ⟨w.heap.size + 1, 2, none⟩ = some (.int .i64 a) := k84.cell 2
  have q3 : w1.cell? ⟨w.heap.size + 1, 3, none⟩ = some (.int .i64 b) := k84.cell 3
  have q4 : w1.cell? ⟨w.heap.size + 1, 4, none⟩ = some (.int .i64 c) := k84.cell 4
  have q5 : w1.cell? ⟨w.heap.size + 1, 5, none⟩ = some (.int .i64 r) := k84.cell 5
  have q6 : w1.cell? ⟨w.heap.size + 1, 6, none⟩ = some (.int .i64 l) := k84.cell 6
  have q7 : w1.cell? ⟨w.heap.size + 1, 7, none⟩ = some (.int .u32 0) := k84.cell 7
  have d0 : w1.cell? ⟨w.heap.size, 0, none⟩ = some (.int .u8 4) := k25.cell 0
  have d3 : w1.cell? ⟨w.heap.size, 3, none⟩ = some (.int .i64 b) := k25.cell 3
  clear k25 k84
  have HF := Lib.hid (show ∀ W : World, Below w1.heap.size w1 W → W.cell? ⟨w.heap.size + 1, 0, none⟩ = some (.int .u8 4) ∧ W.cell? ⟨w.heap.size + 1, 1, none⟩ = some (.int .i64 (S : Int)) ∧ W.cell? ⟨w.heap.size + 1, 2, none⟩ = some (.int .i64 a) ∧ W.cell? ⟨w.heap.size + 1, 3, none⟩ = some (.int .i64 b) ∧ W.cell? ⟨w.heap.size + 1, 4, none⟩ = some (.int .i64 c) ∧ W.cell? ⟨w.heap.size + 1, 5, none⟩ = some (.int .i64 r) ∧ W.cell? ⟨w.heap.size + 1, 6, none⟩ = some (.int .i64 l) ∧ W.cell? ⟨w.heap.size + 1, 7, none⟩ = some (.int .u32 0) ∧ W.cell? ⟨w.heap.size, 0, none⟩ = some (.int .u8 4) ∧ W.cell? ⟨w.heap.size, 3, none⟩ = some (.int .i64 b) ∧ Below w1.heap.size w1 W from fun W hL => ⟨ck q0 hL, ck q1 hL, ck q2 hL, ck q3 hL, ck q4 hL, ck q5 hL, ck q6 hL, ck q7 hL, ck d0 hL, ck d3 hL, hL⟩)
  have HL := Lib.hid (show Below w1.heap.size w1 w1 from Below.refl _ _)
  have HB1 := Lib.hid hb1
  clear hw1 hb1 hp
  go_upto_region 14 with fail
  refine wp_region_held_drew (S := (fun W : World => W.cell? ⟨w.heap.size + 1, 0, none⟩ = some (.int .u8 4) ∧ W.cell? ⟨w.heap.size + 1, 1, none⟩ = some (.int .i64 (S : Int)) ∧ W.cell? ⟨w.heap.size + 1, 2, none⟩ = some (.int .i64 a) ∧ W.cell? ⟨w.heap.size + 1, 3, none⟩ = some (.int .i64 b) ∧ W.cell? ⟨w.heap.size + 1, 4, none⟩ = some (.int .i64 c) ∧ W.cell? ⟨w.heap.size + 1, 5, none⟩ = some (.int .i64 r) ∧ W.cell? ⟨w.heap.size + 1, 6, none⟩ = some (.int .i64 l) ∧ W.cell? ⟨w.heap.size + 1, 7, none⟩ = some (.int .u32 0) ∧ W.cell? ⟨w.heap.size, 0, none⟩ = some (.int .u8 4) ∧ W.cell? ⟨w.heap.size, 3, none⟩ = some (.int .i64 b) ∧ Below w1.heap.size w1 W)) (by kernel_rfl) (HF.out _ (below_drewN (HL.out) 1)) (fun hHeld => ?_)
  have HB2 := Lib.hid (show Below w1.heap.size w1 w1.drew from below_drewN (Below.refl _ _) 1)
  obtain ⟨w2, hw2⟩ : ∃ x, w1.drew = x := ⟨_, rfl⟩
  rw [hw2] at HB2 hHeld ⊢
  clear hw2
  refine tkz (i := 0) (d := 51) rfl rfl ?_
  simp only [Act.put, zzA, zzB, zzC]
  refine tkz (i := 1) (d := 52) rfl rfl ?_
  simp only [Act.put, zzA, zzB, zzC]
  refine tkz (i := 3) (d := 54) rfl rfl ?_
  simp only [Act.put, zzA, zzB, zzC]
  refine wpAnyH_ready (rs := [2, 4]) (by kernel_rfl) (by simp) ?_
  refine AllReadyH.cons (o := _) rfl (fun K hK => ?_) (AllReadyH.cons (o := _) rfl (fun K hK => ?_) AllReadyH.nil)
  · refine step_make tOctS (.int .u8 0) (by intro i hi; simp [Value.cells] at hi; subst hi; rfl) rfl (.tmp 52) (.tmp 52) rfl (N) rfl rfl (by omega) (by omega) ?_
    have hb := (Below.refl w2.heap.size w2).alloc (Nat.le_refl _) (.cells (List.replicate (N * 1) (.int .u8 0)).toArray 5)
    have HNgs := Lib.hid (Blk.new w2 5 (List.replicate (N * 1) (.int .u8 0)).toArray)
    have HGgs := Lib.hid (show w2.heap.size ≤ w2.heap.size from Nat.le_refl _)
    have HBEgs := Lib.hid (hHeld.2.2.2.2.2.2.2.2.2.2)
    obtain ⟨w3, hwn⟩ : ∃ x, w2.alloc (.cells (List.replicate (N * 1) (.int .u8 0)).toArray 5) = x := ⟨_, rfl⟩
    obtain ⟨gs, hgn⟩ : ∃ x, w2.heap.size = x := ⟨_, rfl⟩
    rw [hwn] at hb HNgs ⊢
    have hGE : w1.heap.size ≤ gs := by have := HBEgs.out.size; omega
    rw [hgn] at HNgs ⊢
    clear hwn hgn HGgs HBEgs
    refine hK.out _ _ (HF.out _ (bl_step (hHeld.2.2.2.2.2.2.2.2.2.2) hb)) (fun hHeld => ?_)
    clear hK K
    try simp only [Act.put, zzA, zzB, zzC]
    refine rdz (i := 4) rfl (fun K hK => ?_)
    refine step_make tInts (.int .i64 0) (by intro i hi; simp [Value.cells] at hi; subst hi; rfl) rfl (.tmp 54) (.tmp 54) rfl (N) rfl rfl (by omega) (by omega) ?_
    have hb := (Below.refl w3.heap.size w3).alloc (Nat.le_refl _) (.cells (List.replicate (N * 1) (.int .i64 0)).toArray 3)
    have HNgt := Lib.hid (Blk.new w3 3 (List.replicate (N * 1) (.int .i64 0)).toArray)
    have HGgt := Lib.hid (show w3.heap.size ≤ w3.heap.size from Nat.le_refl _)
    have HBEgt := Lib.hid (hHeld.2.2.2.2.2.2.2.2.2.2)
    obtain ⟨w4, hwn⟩ : ∃ x, w3.alloc (.cells (List.replicate (N * 1) (.int .i64 0)).toArray 3) = x := ⟨_, rfl⟩
    obtain ⟨gt, hgn⟩ : ∃ x, w3.heap.size = x := ⟨_, rfl⟩
    rw [hwn] at hb HNgt ⊢
    have hGE : w1.heap.size ≤ gt := by have := HBEgt.out.size; omega
    rw [hgn] at HNgt ⊢
    clear hwn hgn HGgt HBEgt
    have HNgs4 := Lib.hid (HNgs.out.below hb)
    have HNgt4 := HNgt
    refine hK.out _ _ (HF.out _ (bl_step (hHeld.2.2.2.2.2.2.2.2.2.2) hb)) (fun hHeld => ?_)
    clear hK K
    try simp only [Act.put, zzA, zzB, zzC]
    refine tkz (i := 5) (d := 56) rfl rfl ?_
    simp only [Act.put, zzA, zzB, zzC]
    refine rdz (i := 6) rfl (fun K hK => ?_)
    go_simp
    have hb := (Below.refl w4.heap.size w4).alloc (Nat.le_refl _) (.cells #[.int .u8 4, .int .i64 (S : Int), .int .i64 a, .int .i64 b, .int .i64 c, .int .i64 r, .int .i64 l, .int .u32 0, .slice (some ⟨gs, 0, none⟩) N N, .slice (some ⟨gt, 0, none⟩) N N, .int .i64 0, .int .i64 0] 99)
    have HNg6 := Lib.hid (Blk.new w4 99 #[.int .u8 4, .int .i64 (S : Int), .int .i64 a, .int .i64 b, .int .i64 c, .int .i64 r, .int .i64 l, .int .u32 0, .slice (some ⟨gs, 0, none⟩) N N, .slice (some ⟨gt, 0, none⟩) N N, .int .i64 0, .int .i64 0])
    have HGg6 := Lib.hid (show w4.heap.size ≤ w4.heap.size from Nat.le_refl _)
    have HBEg6 := Lib.hid (hHeld.2.2.2.2.2.2.2.2.2.2)
    obtain ⟨w5, hwn⟩ : ∃ x, w4.alloc (.cells #[.int .u8 4, .int .i64 (S : Int), .int .i64 a, .int .i64 b, .int .i64 c, .int .i64 r, .int .i64 l, .int .u32 0, .slice (some ⟨gs, 0, none⟩) N N, .slice (some ⟨gt, 0, none⟩) N N, .int .i64 0, .int .i64 0] 99) = x := ⟨_, rfl⟩
    obtain ⟨g6, hgn⟩ : ∃ x, w4.heap.size = x := ⟨_, rfl⟩
    rw [hwn] at hb HNg6 ⊢
    have hGE : w1.heap.size ≤ g6 := by have := HBEg6.out.size; omega
    rw [hgn] at HNg6 ⊢
    clear hwn hgn HGg6 HBEg6
    have HS5 := Lib.hid (HNgs4.out.below hb)
    have HT5 := Lib.hid (HNgt4.out.below hb)
    refine hK.out _ _ (HF.out _ (bl_step (hHeld.2.2.2.2.2.2.2.2.2.2) hb)) (fun hHeld => ?_)
    clear hK K
    try simp only [Act.put, zzA, zzB, zzC]
    refine tkz (i := 7) (d := 58) rfl rfl ?_
    simp only [Act.put, zzA, zzB, zzC]
    refine tkz (i := 8) (d := 2) rfl rfl ?_
    simp only [Act.put, zzA, zzB, zzC]
    refine wpAnyH_done (by kernel_rfl) ?_ _
    go_wp2
    go_ret
    refine BegE.mk ⟨g6, gs, gt⟩ (T := 97) rfl rfl (bl_step HB1.out (hHeld.2.2.2.2.2.2.2.2.2.2)) (ub4 HN.out HNg6.out HS5.out HT5.out) (fun b hb => ?_)
    have k1 := HNg6.out.lt
    have k2 := HS5.out.lt
    have k3 := HT5.out.lt
    rcases hb with hb | hb | hb <;> (simp only at hb; subst hb) <;> omega
  · refine step_make tInts (.int .i64 0) (by intro i hi; simp [Value.cells] at hi; subst hi; rfl) rfl (.tmp 54) (.tmp 54) rfl (N) rfl rfl (by omega) (by omega) ?_
    have hb := (Below.refl w2.heap.size w2).alloc (Nat.le_refl _) (.cells (List.replicate (N * 1) (.int .i64 0)).toArray 3)
    have HNgt := Lib.hid (Blk.new w2 3 (List.replicate (N * 1) (.int .i64 0)).toArray)
    have HGgt := Lib.hid (show w2.heap.size ≤ w2.heap.size from Nat.le_refl _)
    have HBEgt := Lib.hid (hHeld.2.2.2.2.2.2.2.2.2.2)
    obtain ⟨w3, hwn⟩ : ∃ x, w2.alloc (.cells (List.replicate (N * 1) (.int .i64 0)).toArray 3) = x := ⟨_, rfl⟩
    obtain ⟨gt, hgn⟩ : ∃ x, w2.heap.size = x := ⟨_, rfl⟩
    rw [hwn] at hb HNgt ⊢
    have hGE : w1.heap.size ≤ gt := by have := HBEgt.out.size; omega
    rw [hgn] at HNgt ⊢
    clear hwn hgn HGgt HBEgt
    refine hK.out _ _ (HF.out _ (bl_step (hHeld.2.2.2.2.2.2.2.2.2.2) hb)) (fun hHeld => ?_)
    clear hK K
    try simp only [Act.put, zzA, zzB, zzC]
    refine rdz (i := 2) rfl (fun K hK => ?_)
    refine step_make tOctS (.int .u8 0) (by intro i hi; simp [Value.cells] at hi; subst hi; rfl) rfl (.tmp 52) (.tmp 52) rfl (N) rfl rfl (by omega) (by omega) ?_
    have hb := (Below.refl w3.heap.size w3).alloc (Nat.le_refl _) (.cells (List.replicate (N * 1) (.int .u8 0)).toArray 5)
    have HNgs := Lib.hid (Blk.new w3 5 (List.replicate (N * 1) (.int .u8 0)).toArray)
    have HGgs := Lib.hid (show w3.heap.size ≤ w3.heap.size from Nat.le_refl _)
    have HBEgs := Lib.hid (hHeld.2.2.2.2.2.2.2.2.2.2)
    obtain ⟨w4, hwn⟩ : ∃ x, w3.alloc (.cells (List.replicate (N * 1) (.int .u8 0)).toArray 5) = x := ⟨_, rfl⟩
    obtain ⟨gs, hgn⟩ : ∃ x, w3.heap.size = x := ⟨_, rfl⟩
    rw [hwn] at hb HNgs ⊢
    have hGE : w1.heap.size ≤ gs := by have := HBEgs.out.size; omega
    rw [hgn] at HNgs ⊢
    clear hwn hgn HGgs HBEgs
    have HNgt4 := Lib.hid (HNgt.out.below hb)
    have HNgs4 := HNgs
    refine hK.out _ _ (HF.out _ (bl_step (hHeld.2.2.2.2.2.2.2.2.2.2) hb)) (fun hHeld => ?_)
    clear hK K
    try simp only [Act.put, zzA, zzB, zzC]
    refine tkz (i := 5) (d := 56) rfl rfl ?_
    simp only [Act.put, zzA, zzB, zzC]
    refine rdz (i := 6) rfl (fun K hK => ?_)
    go_simp
    have hb := (Below.refl w4.heap.size w4).alloc (Nat.le_refl _) (.cells #[.int .u8 4, .int .i64 (S : Int), .int .i64 a, .int .i64 b, .int .i64 c, .int .i64 r, .int .i64 l, .int .u32 0, .slice (some ⟨gs, 0, none⟩) N N, .slice (some ⟨gt, 0, none⟩) N N, .int .i64 0, .int .i64 0] 99)
    have HNg6 := Lib.hid (Blk.new w4 99 #[.int .u8 4, .int .i64 (S : Int), .int .i64 a, .int .i64 b, .int .i64 c, .int .i64 r, .int .i64 l, .int .u32 0, .slice (some ⟨gs, 0, none⟩) N N, .slice (some ⟨gt, 0, none⟩) N N, .int .i64 0, .int .i64 0])
    have HGg6 := Lib.hid (show w4.heap.size ≤ w4.heap.size from Nat.le_refl _)
    have HBEg6 := Lib.hid (hHeld.2.2.2.2.2.2.2.2.2.2)
    obtain ⟨w5, hwn⟩ : ∃ x, w4.alloc (.cells #[.int .u8 4, .int .i64 (S : Int), .int .i64 a, .int .i64 b, .int .i64 c, .int .i64 r, .int .i64 l, .int .u32 0, .slice (some ⟨gs, 0, none⟩) N N, .slice (some ⟨gt, 0, none⟩) N N, .int .i64 0, .int .i64 0] 99) = x := ⟨_, rfl⟩
    obtain ⟨g6, hgn⟩ : ∃ x, w4.heap.size = x := ⟨_, rfl⟩
    rw [hwn] at hb HNg6 ⊢
    have hGE : w1.heap.size ≤ g6 := by have := HBEg6.out.size; omega
    rw [hgn] at HNg6 ⊢
    clear hwn hgn HGg6 HBEg6
    have HS5 := Lib.hid (HNgs4.out.below hb)
    have HT5 := Lib.hid (HNgt4.out.below hb)
    refine hK.out _ _ (HF.out _ (bl_step (hHeld.2.2.2.2.2.2.2.2.2.2) hb)) (fun hHeld => ?_)
    clear hK K
    try simp only [Act.put, zzA, zzB, zzC]
    refine tkz (i := 7) (d := 58) rfl rfl ?_
    simp only [Act.put, zzA, zzB, zzC]
    refine tkz (i := 8) (d := 2) rfl rfl ?_
    simp only [Act.put, zzA, zzB, zzC]
    refine wpAnyH_done (by kernel_rfl) ?_ _
    go_wp2
    go_ret
    refine BegE.mk ⟨g6, gs, gt⟩ (T := 97) rfl rfl (bl_step HB1.out (hHeld.2.2.2.2.2.2.2.2.2.2)) (ub4 HN.out HNg6.out HS5.out HT5.out) (fun b hb => ?_)
    have k1 := HNg6.out.lt
    have k2 := HS5.out.lt
    have k3 := HT5.out.lt
    rcases hb with hb | hb | hb <;> (simp only at hb; subst hb) <;> omega
end Go.Proofs.Ytnohfeaamfjimaa
namespace Go.Proofs.Ytnohfeaamfjimaa
open Go.RowKit Go.WideShapes
set_option linter.unusedVariables false
set_option linter.unusedSimpArgs false
theorem wp_built {P : Program} {o : Oper} {a : Act} {w : World} {K : Act → World → Prop} {Q : Exit → Act → World → Prop} (t : TypeId) (parts : Array (Nat × Operand)) (cs : Array Value) (ho : o.op = .build t parts)
    (hb : P.built t (parts.map fun (i, x) => (i, a.eval x)).toList = some cs) (h : K (a.put o.dst (.agg cs)) w) : o.wp P a w K Q := by
  refine wp_build t parts ho (by rw [hb]; rfl) ?_
  rw [hb]
  exact h
def bg3 (S : Nat) (a b c r l : Int) (gs N : Nat) (x : List Int) : Array Value := (([.int .u8 3, .int .i64 (S : Int), .int .i64 a, .int .i64 b, .int .i64 c, .int .i64 r, .int .i64 l, .int .u32 0, .slice (some ⟨gs, 0, none⟩) N N] : List Value) ++ ints x).toArray
theorem built95 (S : Nat) (a b c r l : Int) (gs N : Nat) : Try.prog.built 95 [(0, .agg #[.int .u8 3, .int .i64 (S : Int), .int .i64 a, .int .i64 b, .int .i64 c, .int .i64 r, .int .i64 l, .int .u32 0]), (1, .slice (some ⟨gs, 0, none⟩) N N)] = some (bg3 S a b c r l gs N (List.replicate 256 0)) := by
  kernel_rfl
theorem bg3_set (S : Nat) (a b c r l : Int) (gs N : Nat) (x : List Int) (k : Nat) (v : Int) : (bg3 S a b c r l gs N x).setIfInBounds (9 + k) (.int .i64 v) = bg3 S a b c r l gs N (x.set k v) := by
  unfold bg3
  rw [List.setIfInBounds_toArray, List.set_append_right _ _ (by simp)]
  simp [ints, List.map_set]
theorem bg3_at (S : Nat) (a b c r l : Int) (gs N : Nat) (x : List Int) (k : Nat) (v : Int) (h : x[k]? = some v) : (bg3 S a b c r l gs N x)[9 + k]? = some (.int .i64 v) := by
  unfold bg3
  rw [List.getElem?_toArray, List.getElem?_append_right (by simp)]
  simp [ints, h]
def bg8 (S : Nat) (a b c r l : Int) (gs N : Nat) (x : List Int) : Array Value := (([.int .u8 8, .int .i64 (S : Int), .int .i64 a, .int .i64 b, .int .i64 c, .int .i64 r, .int .i64 l, .int .u32 0, .slice (some ⟨gs, 0, none⟩) N N] : List Value) ++ ints x).toArray
theorem built113 (S : Nat) (a b c r l : Int) (gs N : Nat) : Try.prog.built 113 [(0, .agg #[.int .u8 8, .int .i64 (S : Int), .int .i64 a, .int .i64 b, .int .i64 c, .int .i64 r, .int .i64 l, .int .u32 0]), (1, .slice (some ⟨gs, 0, none⟩) N N)] = some (bg8 S a b c r l gs N (List.replicate 512 0)) := by
  kernel_rfl
theorem bg8_set (S : Nat) (a b c r l : Int) (gs N : Nat) (x : List Int) (k : Nat) (v : Int) : (bg8 S a b c r l gs N x).setIfInBounds (9 + k) (.int .i64 v) = bg8 S a b c r l gs N (x.set k v) := by
  unfold bg8
  rw [List.setIfInBounds_toArray, List.set_append_right _ _ (by simp)]
  simp [ints, List.map_set]
theorem bg8_at (S : Nat) (a b c r l : Int) (gs N : Nat) (x : List Int) (k : Nat) (v : Int) (h : x[k]? = some v) : (bg8 S a b c r l gs N x)[9 + k]? = some (.int .i64 v) := by
  unfold bg8
  rw [List.getElem?_toArray, List.getElem?_append_right (by simp)]
  simp [ints, h]
theorem ub3 {S N : Nat} {a b c r l : Int} {w : World} {g gs : Nat} (hN : 2 ^ S = N) (h : Blk w g 95 (bg3 S a b c r l gs N ((List.range 256).map (fun i : Nat => chanceI (i : Int))))) (hs : Blk w gs 5 (List.replicate (N * 1) (.int .u8 0)).toArray) : UB w (beginU ⟨3, S, a, b, c, r, l⟩) ⟨g, gs, gs⟩ := by
  subst hN
  have e : (beginU ⟨3, S, a, b, c, r, l⟩).x = (List.range 256).map (fun i : Nat => chanceI (i : Int)) := by simp [beginU]
  have e2 : (beginU ⟨3, S, a, b, c, r, l⟩).b = List.replicate (2 ^ S) 0 := by simp [beginU]
  refine ⟨?_, fun _ => by rw [e2, ← octs_zero]; exact hs, fun k => by simp [beginU] at k, fun k => by simp [beginU] at k⟩
  unfold Un.cells
  rw [tail38 _ _ (.inl rfl), e, e2, List.length_replicate]
  exact h
theorem ub8 {S N : Nat} {a b c r l : Int} {w : World} {g gs : Nat} (hN : 2 ^ S = N) (h : Blk w g 113 (bg8 S a b c r l gs N (pairs (fun _ => (65536, 0)) 256))) (hs : Blk w gs 5 (List.replicate (N * 1) (.int .u8 0)).toArray) : UB w (beginU ⟨8, S, a, b, c, r, l⟩) ⟨g, gs, gs⟩ := by
  subst hN
  have e : (beginU ⟨8, S, a, b, c, r, l⟩).x = pairs (fun _ => (65536, 0)) 256 := by
    unfold beginU
    simp only []
    rw [if_neg (show ¬ (8 : Int) = 3 by decide)]
    exact if_pos trivial
  obtain ⟨X, hX⟩ : ∃ X, pairs (fun _ => (65536, 0)) 256 = X := ⟨_, rfl⟩
  rw [hX] at h e
  have e2 : (beginU ⟨8, S, a, b, c, r, l⟩).b = List.replicate (2 ^ S) 0 := by simp [beginU]
  refine ⟨?_, fun _ => by rw [e2, ← octs_zero]; exact hs, fun k => by simp [beginU] at k, fun k => by simp [beginU] at k⟩
  unfold Un.cells
  rw [tail38 _ _ (.inr rfl), e, e2, List.length_replicate]
  exact h
theorem fill_step (f : Nat → Int) (n k : Nat) (h : k < n) : ((List.range k).map f ++ List.replicate (n - k) 0).set k (f k) = (List.range (k + 1)).map f ++ List.replicate (n - (k + 1)) 0 := by
  rw [List.set_append_right _ _ (by simp), List.length_map, List.length_range, Nat.sub_self, List.range_succ, List.map_append, List.append_assoc]
  congr 1
  rw [show n - k = (n - (k + 1)) + 1 by omega, List.replicate_succ, List.set_cons_zero]
  rfl
theorem fill_step2 (f : Nat → Int × Int) (n k : Nat) (h : k < n) (h2 : (f k).2 = 0) : (pairs f k ++ List.replicate ((n - k) * 2) 0).set (k * 2) (f k).1 = pairs f (k + 1) ++ List.replicate ((n - (k + 1)) * 2) 0 := by
  rw [List.set_append_right _ _ (by rw [pairs_length]; omega), pairs_length, Nat.sub_self, show (n - k) * 2 = (n - (k + 1)) * 2 + 1 + 1 by omega, List.replicate_succ, List.replicate_succ, List.set_cons_zero]
  rw [show pairs f (k + 1) = pairs f k ++ [(f k).1, (f k).2] from rfl, h2, List.append_assoc]
  rfl
theorem fill_at (f : Nat → Int) (n k : Nat) (h : k < n) : ((List.range k).map f ++ List.replicate (n - k) (0 : Int))[k]? = some 0 := by
  rw [List.getElem?_append_right (by simp), List.length_map, List.length_range, Nat.sub_self, List.getElem?_replicate, if_pos (by omega)]
theorem fill_at2 (f : Nat → Int × Int) (n k : Nat) (h : k < n) : (pairs f k ++ List.replicate ((n - k) * 2) (0 : Int))[k * 2]? = some 0 := by
  rw [List.getElem?_append_right (by rw [pairs_length]; omega), pairs_length, Nat.sub_self, List.getElem?_replicate, if_pos (by omega)]
set_option maxRecDepth 100000 in
set_option maxHeartbeats 4000000 in
theorem begun_3 (S N : Nat) (a b c r l : Int) (hs2 : S ≤ 16) (hN : 2 ^ S = N) (w : World) :
    Calls Try.prog 27 #[Pt.agg ⟨3, S, a, b, c, r, l⟩] w (BegE ⟨3, S, a, b, c, r, l⟩ w) := by
  unfold Pt.agg
  have hNb : N ≤ 65536 := by rw [← hN]; exact Nat.pow_le_pow_right (show 0 < 2 by omega) hs2
  have hN1 : 1 ≤ N := by rw [← hN]; exact Nat.two_pow_pos S
  have hp : wrap64 ((2 : Int) ^ S) = (N : Int) := by
    rw [show ((2 : Int) ^ S) = ((2 ^ S : Nat) : Int) by push_cast; rfl, hN]
    unfold wrap64
    omega
  have HN := Lib.hid hN
  clear hN
  go_enter Try.func27, Try.ntmps27
  go_upto_region 1 with fail
  go_region
  try simp only [hp]
  obtain ⟨w1, hw1⟩ : ∃ w1, ((w.alloc (.cells #[.int .u8 3, .int .i64 (S : Int), .int .i64 a, .int .i64 b, .int .i64 c, .int .i64 r, .int .i64 l] 25)).alloc (.cells #[.int .u8 3, .int .i64 (S : Int), .int .i64 a, .int .i64 b, .int .i64 c, .int .i64 r, .int .i64 l, .int .u32 0] 84)).drew = w1 := ⟨_, rfl⟩
  have k25 : Blk w1 w.heap.size 25 #[.int .u8 3, .int .i64 (S : Int), .int .i64 a, .int .i64 b, .int .i64 c, .int .i64 r, .int .i64 l] := hw1 ▸ ((Blk.new w _ _).alloc _).drew
  have k84 : Blk w1 (w.heap.size + 1) 84 #[.int .u8 3, .int .i64 (S : Int), .int .i64 a, .int .i64 b, .int .i64 c, .int .i64 r, .int .i64 l, .int .u32 0] := by
    have := (Blk.new (w.alloc (.cells #[.int .u8 3, .int .i64 (S : Int), .int .i64 a, .int .i64 b, .int .i64 c, .int .i64 r, .int .i64 l] 25)) 84 #[.int .u8 3, .int .i64 (S : Int), .int .i64 a, .int .i64 b, .int .i64 c, .int .i64 r, .int .i64 l, .int .u32 0]).drew
    rw [hw1] at this
    simpa using this
  have hb1 : Below w.heap.size w w1 := hw1 ▸ below_drewN (((Below.refl _ _).alloc (Nat.le_refl _) _).alloc (by simp) _) 1
  rw [hw1]
  have hsz1 : w.heap.size + 2 ≤ w1.heap.size := by have := k84.lt; omega
  have q0 : w1.cell? ⟨w.heap.size + 1, 0, none⟩ = some (.int .u8 3) := k84.cell 0
  have q1 : w1.cell? ⟨w.heap.size + 1, 1, none⟩ = some (.int .i64 (S : Int)) := k84.cell 1
  have q2 : w1.cell? ⟨w.heap.size + 1, 2, none⟩ = some (.int .i64 a) := k84.cell 2
  have q3 : w1.cell? ⟨w.heap.size + 1, 3, none⟩ = some (.int .i64 b) := k84.cell 3
  have q4 : w1.cell? ⟨w.heap.size + 1, 4, none⟩ = some (.int .i64 c) := k84.cell 4
  have q5 : w1.cell? ⟨w.heap.size + 1, 5, none⟩ = some (.int .i64 r) := k84.cell 5
  have q6 : w1.cell? ⟨w.heap.size + 1, 6, none⟩ = some (.int .i64 l) := k84.cell 6
  have q7 : w1.cell? ⟨w.heap.size + 1, 7, none⟩ = some (.int .u32 0) := k84.cell 7
  have d0 : w1.cell? ⟨w.heap.size, 0, none⟩ = some (.int .u8 3) := k25.cell 0
  have d3 : w1.cell? ⟨w.heap.size, 3, none⟩ = some (.int .i64 b) := k25.cell 3
  clear k25 k84
  have HF := Lib.hid (show ∀ W : World, Below w1.heap.size w1 W → W.cell? ⟨w.heap.size + 1, 0, none⟩ = some (.int .u8 3) ∧ W.cell? ⟨w.heap.size + 1, 1, none⟩ = some (.int .i64 (S : Int)) ∧ W.cell? ⟨w.heap.size + 1, 2, none⟩ = some (.int .i64 a) ∧ W.cell? ⟨w.heap.size + 1, 3, none⟩ = some (.int .i64 b) ∧ W.cell? ⟨w.heap.size + 1, 4, none⟩ = some (.int .i64 c) ∧ W.cell? ⟨w.heap.size + 1, 5, none⟩ = some (.int .i64 r) ∧ W.cell? ⟨w.heap.size + 1, 6, none⟩ = some (.int .i64 l) ∧ W.cell? ⟨w.heap.size + 1, 7, none⟩ = some (.int .u32 0) ∧ W.cell? ⟨w.heap.size, 0, none⟩ = some (.int .u8 3) ∧ W.cell? ⟨w.heap.size, 3, none⟩ = some (.int .i64 b) ∧ Below w1.heap.size w1 W from fun W hL => ⟨ck q0 hL, ck q1 hL, ck q2 hL, ck q3 hL, ck q4 hL, ck q5 hL, ck q6 hL, ck q7 hL, ck d0 hL, ck d3 hL, hL⟩)
  have HL := Lib.hid (show Below w1.heap.size w1 w1 from Below.refl _ _)
  have HB1 := Lib.hid hb1
  clear hw1 hb1 hp
  have HBL := Lib.hid (built95 S a b c r l)
  go_upto_region 6 with fail
  refine wp_region_held_drew (S := (fun W : World => W.cell? ⟨w.heap.size + 1, 0, none⟩ = some (.int .u8 3) ∧ W.cell? ⟨w.heap.size + 1, 1, none⟩ = some (.int .i64 (S : Int)) ∧ W.cell? ⟨w.heap.size + 1, 2, none⟩ = some (.int .i64 a) ∧ W.cell? ⟨w.heap.size + 1, 3, none⟩ = some (.int .i64 b) ∧ W.cell? ⟨w.heap.size + 1, 4, none⟩ = some (.int .i64 c) ∧ W.cell? ⟨w.heap.size + 1, 5, none⟩ = some (.int .i64 r) ∧ W.cell? ⟨w.heap.size + 1, 6, none⟩ = some (.int .i64 l) ∧ W.cell? ⟨w.heap.size + 1, 7, none⟩ = some (.int .u32 0) ∧ W.cell? ⟨w.heap.size, 0, none⟩ = some (.int .u8 3) ∧ W.cell? ⟨w.heap.size, 3, none⟩ = some (.int .i64 b) ∧ Below w1.heap.size w1 W)) (by kernel_rfl) (HF.out _ (below_drewN (HL.out) 1)) (fun hHeld => ?_)
  have HB2 := Lib.hid (show Below w1.heap.size w1 w1.drew from below_drewN (Below.refl _ _) 1)
  obtain ⟨w2, hw2⟩ : ∃ x, w1.drew = x := ⟨_, rfl⟩
  rw [hw2] at HB2 hHeld ⊢
  clear hw2
  refine tkz (i := 0) (d := 30) rfl rfl ?_
  simp only [Act.put, zzA, zzB, zzC]
  refine tkz (i := 1) (d := 31) rfl rfl ?_
  simp only [Act.put, zzA, zzB, zzC]
  refine rdz (i := 2) rfl (fun K hK => ?_)
  refine step_make tOctS (.int .u8 0) (by intro i hi; simp [Value.cells] at hi; subst hi; rfl) rfl (.tmp 31) (.tmp 31) rfl (N) rfl rfl (by omega) (by omega) ?_
  have hb := (Below.refl w2.heap.size w2).alloc (Nat.le_refl _) (.cells (List.replicate (N * 1) (.int .u8 0)).toArray 5)
  have HNgs := Lib.hid (Blk.new w2 5 (List.replicate (N * 1) (.int .u8 0)).toArray)
  have HGgs := Lib.hid (show w2.heap.size ≤ w2.heap.size from Nat.le_refl _)
  have HBEgs := Lib.hid (hHeld.2.2.2.2.2.2.2.2.2.2)
  obtain ⟨w3, hwn⟩ : ∃ xq, w2.alloc (.cells (List.replicate (N * 1) (.int .u8 0)).toArray 5) = xq := ⟨_, rfl⟩
  obtain ⟨gs, hgn⟩ : ∃ xq, w2.heap.size = xq := ⟨_, rfl⟩
  rw [hwn] at hb HNgs ⊢
  have hGE : w1.heap.size ≤ gs := by have := HBEgs.out.size; omega
  rw [hgn] at HNgs ⊢
  clear hwn hgn HGgs HBEgs
  refine hK.out _ _ (HF.out _ (bl_step (hHeld.2.2.2.2.2.2.2.2.2.2) hb)) (fun hHeld => ?_)
  clear hK K
  try simp only [Act.put, zzA, zzB, zzC]
  refine rdz (i := 3) rfl (fun K hK => ?_)
  rw [if_pos (by rfl)]
  refine wp_built 95 #[(0, .tmp 30), (1, .tmp 32)] _ rfl (by simp only [List.map_toArray, List.map_cons, List.map_nil]; exact HBL.out gs N) ?_
  obtain ⟨cs, hcs⟩ : ∃ x, bg3 S a b c r l gs N (List.replicate 256 0) = x := ⟨_, rfl⟩
  rw [hcs]
  have HCS := Lib.hid hcs
  clear hcs
  refine hK.out _ _ hHeld (fun hHeld => ?_)
  clear hK K
  try simp only [Act.put, zzA, zzB, zzC]
  refine rdz (i := 4) rfl (fun K hK => ?_)
  go_simp
  have hb := (Below.refl w3.heap.size w3).alloc (Nat.le_refl _) (.cells cs 95)
  have HNg6 := Lib.hid (Blk.new w3 95 cs)
  have HGg6 := Lib.hid (show w3.heap.size ≤ w3.heap.size from Nat.le_refl _)
  have HBEg6 := Lib.hid (hHeld.2.2.2.2.2.2.2.2.2.2)
  obtain ⟨w4, hwn⟩ : ∃ xq, w3.alloc (.cells cs 95) = xq := ⟨_, rfl⟩
  obtain ⟨g6, hgn⟩ : ∃ xq, w3.heap.size = xq := ⟨_, rfl⟩
  rw [hwn] at hb HNg6 ⊢
  have hGE : w1.heap.size ≤ g6 := by have := HBEg6.out.size; omega
  rw [hgn] at HNg6 ⊢
  clear hwn hgn HGg6 HBEg6
  have HS4 := Lib.hid (HNgs.out.below hb)
  refine hK.out _ _ (HF.out _ (bl_step (hHeld.2.2.2.2.2.2.2.2.2.2) hb)) (fun hHeld => ?_)
  clear hK K
  try simp only [Act.put, zzA, zzB, zzC]
  refine tkz (i := 5) (d := 5) rfl rfl ?_
  simp only [Act.put, zzA, zzB, zzC]
  refine wpAnyH_done (by kernel_rfl) ?_ _
  have HG0 := Lib.hid (show Blk w4 g6 95 (bg3 S a b c r l gs N (List.replicate 256 0)) from by have := HNg6.out; rw [← HCS.out] at this; exact this)
  have HL4 := Lib.hid (hHeld.2.2.2.2.2.2.2.2.2.2)
  have HNE := Lib.hid (HS4.out.ne HG0.out (by decide))
  clear hHeld hb HNg6 HCS HNgs HF HBL
  go_wp2_with fail
  go_loopw [35] (fun v wr => ∃ k : Nat, k ≤ 256 ∧ v = .int .i64 k ∧ Blk wr g6 95 (bg3 S a b c r l gs N ((List.range k).map (fun i : Nat => chanceI (i : Int)) ++ List.replicate (256 - (k)) 0)) ∧ Frm (fun b => b = g6) w4 wr) (fun v _ => 256 - (intOf v).toNat)
  case atStart => exact ⟨0, by omega, rfl, HG0.out, Frm.refl _ _⟩
  case round =>
    obtain ⟨k, hk, rfl, hg, hf⟩ := hrel
    have HG := Lib.hid hg
    have HFR := Lib.hid hf
    clear hg hf
    by_cases hlt : k < 256
    · have hki : (k : Int) < 256 := by omega
      have hk8 : IntKind.u8.wrap (k : Int) = (k : Int) := IntWalk.u8_in _ ⟨by omega, by omega⟩
      have HCH := Lib.hid (fun W => chance_any (k : Int) W (by omega) (by omega))
      obtain ⟨v, hv⟩ : ∃ v, chanceI (k : Int) = v := ⟨_, rfl⟩
      rw [hv] at HCH
      have HV := Lib.hid hv
      clear hv
      go_upto_region 10 with fail
      refine wp_region_held_drew (S := (fun _ : World => True)) (by kernel_rfl) trivial (fun hHeld => ?_)
      have HG2 := Lib.hid (show Blk wr.drew g6 95 (bg3 S a b c r l gs N ((List.range k).map (fun i : Nat => chanceI (i : Int)) ++ List.replicate (256 - (k)) 0)) from HG.out)
      have HFR2 := Lib.hid (HFR.out.drew)
      obtain ⟨w5, hw5⟩ : ∃ x, wr.drew = x := ⟨_, rfl⟩
      rw [hw5] at HG2 HFR2 ⊢
      clear hw5
      have sc : w5.cell? ⟨g6, 9 + k, none⟩ = some (.int .i64 0) := (HG2.out.cell _).trans (bg3_at _ _ _ _ _ _ _ _ _ _ _ (fill_at _ 256 k hlt))
      have sz : w5.frozen? ⟨g6, 9 + k, none⟩ = false := HG2.out.frozen _
      refine tkz (i := 0) (d := 38) rfl rfl ?_
      simp only [Act.put, zzA, zzB, zzC]
      refine tkz (i := 1) (d := 39) rfl rfl ?_
      simp only [Act.put, zzA, zzB, zzC]
      refine tkz (i := 2) (d := 40) rfl rfl ?_
      simp only [Act.put, zzA, zzB, zzC]
      refine tkz (i := 3) (d := 41) rfl rfl ?_
      simp only [Act.put, zzA, zzB, zzC]
      refine tkz (i := 5) (d := 43) rfl rfl ?_
      simp only [Act.put, zzA, zzB, zzC]
      refine tkz (i := 6) (d := 44) rfl rfl ?_
      simp only [Act.put, zzA, zzB, zzC]
      refine rdz (i := 4) rfl (fun K hK => ?_)
      go_simp
      refine (HCH.out _).mono ?_
      rintro e w6 ⟨rfl, rfl⟩
      go_wp2_with fail
      refine hK.out _ _ trivial (fun hHeld => ?_)
      clear hK K
      try simp only [Act.put, zzA, zzB, zzC]
      refine tkz (i := 7) (d := 45) rfl rfl ?_
      simp only [Act.put, zzA, zzB, zzC]
      refine rdz (i := 8) rfl (fun K hK => ?_)
      go_simp
      refine hK.out _ _ trivial (fun hHeld => ?_)
      clear hK K
      try simp only [Act.put, zzA, zzB, zzC]
      refine wpAnyH_done (by kernel_rfl) ?_ _
      have hgn := HG2.out.set (9 + k) (.int .i64 (v))
      rw [bg3_set, ← HV.out, fill_step (fun i : Nat => chanceI (i : Int)) 256 k hlt] at hgn
      have HGN := Lib.hid hgn
      clear hgn sc sz
      go_wp2
      go_roundw
      case rel => exact ⟨k + 1, by omega, by go_num, by have := HGN.out; rw [HV.out] at this; exact this, HFR2.out.setCell (p := ⟨g6, 9 + k, none⟩) (fun _ => rfl) _⟩
      case measure => simp [intOf]; omega
    · obtain rfl : k = 256 := by omega
      have hg := HG.out
      rw [show 256 - 256 = 0 from rfl] at hg
      simp only [Nat.zero_mul, List.replicate_zero, List.append_nil] at hg
      have HG5 := Lib.hid hg
      clear hg
      go_wp2
      go_ret
      refine BegE.mk ⟨g6, gs, gs⟩ (T := 92) rfl rfl ((bl_step HB1.out HL4.out).trans (HFR.out.to_below (by have := (bl_step HB1.out HL4.out).size; omega) (fun b hb => by subst hb; omega))) (ub3 HN.out HG5.out (HS4.out.frm HFR.out HNE.out)) (fun b hb => ?_)
      have k1 := HG5.out.lt
      have k2 := (HS4.out.frm HFR.out HNE.out).lt
      rcases hb with hb | hb | hb <;> (simp only at hb; subst hb) <;> omega
set_option maxRecDepth 100000 in
set_option maxHeartbeats 4000000 in
theorem begun_8 (S N : Nat) (a b c r l : Int) (hs2 : S ≤ 16) (hN : 2 ^ S = N) (w : World) :
    Calls Try.prog 27 #[Pt.agg ⟨8, S, a, b, c, r, l⟩] w (BegE ⟨8, S, a, b, c, r, l⟩ w) := by
  unfold Pt.agg
  have hNb : N ≤ 65536 := by rw [← hN]; exact Nat.pow_le_pow_right (show 0 < 2 by omega) hs2
  have hN1 : 1 ≤ N := by rw [← hN]; exact Nat.two_pow_pos S
  have hp : wrap64 ((2 : Int) ^ S) = (N : Int) := by
    rw [show ((2 : Int) ^ S) = ((2 ^ S : Nat) : Int) by push_cast; rfl, hN]
    unfold wrap64
    omega
  have HN := Lib.hid hN
  clear hN
  go_enter Try.func27, Try.ntmps27
  go_upto_region 1 with fail
  go_region
  try simp only [hp]
  obtain ⟨w1, hw1⟩ : ∃ w1, ((w.alloc (.cells #[.int .u8 8, .int .i64 (S : Int), .int .i64 a, .int .i64 b, .int .i64 c, .int .i64 r, .int .i64 l] 25)).alloc (.cells #[.int .u8 8, .int .i64 (S : Int), .int .i64 a, .int .i64 b, .int .i64 c, .int .i64 r, .int .i64 l, .int .u32 0] 84)).drew = w1 := ⟨_, rfl⟩
  have k25 : Blk w1 w.heap.size 25 #[.int .u8 8, .int .i64 (S : Int), .int .i64 a, .int .i64 b, .int .i64 c, .int .i64 r, .int .i64 l] := hw1 ▸ ((Blk.new w _ _).alloc _).drew
  have k84 : Blk w1 (w.heap.size + 1) 84 #[.int .u8 8, .int .i64 (S : Int), .int .i64 a, .int .i64 b, .int .i64 c, .int .i64 r, .int .i64 l, .int .u32 0] := by
    have := (Blk.new (w.alloc (.cells #[.int .u8 8, .int .i64 (S : Int), .int .i64 a, .int .i64 b, .int .i64 c, .int .i64 r, .int .i64 l] 25)) 84 #[.int .u8 8, .int .i64 (S : Int), .int .i64 a, .int .i64 b, .int .i64 c, .int .i64 r, .int .i64 l, .int .u32 0]).drew
    rw [hw1] at this
    simpa using this
  have hb1 : Below w.heap.size w w1 := hw1 ▸ below_drewN (((Below.refl _ _).alloc (Nat.le_refl _) _).alloc (by simp) _) 1
  rw [hw1]
  have hsz1 : w.heap.size + 2 ≤ w1.heap.size := by have := k84.lt; omega
  have q0 : w1.cell? ⟨w.heap.size + 1, 0, none⟩ = some (.int .u8 8) := k84.cell 0
  have q1 : w1.cell? ⟨w.heap.size + 1, 1, none⟩ = some (.int .i64 (S : Int)) := k84.cell 1
  have q2 : w1.cell? ⟨w.heap.size + 1, 2, none⟩ = some (.int .i64 a) := k84.cell 2
  have q3 : w1.cell? ⟨w.heap.size + 1, 3, none⟩ = some (.int .i64 b) := k84.cell 3
  have q4 : w1.cell? ⟨w.heap.size + 1, 4, none⟩ = some (.int .i64 c) := k84.cell 4
  have q5 : w1.cell? ⟨w.heap.size + 1, 5, none⟩ = some (.int .i64 r) := k84.cell 5
  have q6 : w1.cell? ⟨w.heap.size + 1, 6, none⟩ = some (.int .i64 l) := k84.cell 6
  have q7 : w1.cell? ⟨w.heap.size + 1, 7, none⟩ = some (.int .u32 0) := k84.cell 7
  have d0 : w1.cell? ⟨w.heap.size, 0, none⟩ = some (.int .u8 8) := k25.cell 0
  have d3 : w1.cell? ⟨w.heap.size, 3, none⟩ = some (.int .i64 b) := k25.cell 3
  clear k25 k84
  have HF := Lib.hid (show ∀ W : World, Below w1.heap.size w1 W → W.cell? ⟨w.heap.size + 1, 0, none⟩ = some (.int .u8 8) ∧ W.cell? ⟨w.heap.size + 1, 1, none⟩ = some (.int .i64 (S : Int)) ∧ W.cell? ⟨w.heap.size + 1, 2, none⟩ = some (.int .i64 a) ∧ W.cell? ⟨w.heap.size + 1, 3, none⟩ = some (.int .i64 b) ∧ W.cell? ⟨w.heap.size + 1, 4, none⟩ = some (.int .i64 c) ∧ W.cell? ⟨w.heap.size + 1, 5, none⟩ = some (.int .i64 r) ∧ W.cell? ⟨w.heap.size + 1, 6, none⟩ = some (.int .i64 l) ∧ W.cell? ⟨w.heap.size + 1, 7, none⟩ = some (.int .u32 0) ∧ W.cell? ⟨w.heap.size, 0, none⟩ = some (.int .u8 8) ∧ W.cell? ⟨w.heap.size, 3, none⟩ = some (.int .i64 b) ∧ Below w1.heap.size w1 W from fun W hL => ⟨ck q0 hL, ck q1 hL, ck q2 hL, ck q3 hL, ck q4 hL, ck q5 hL, ck q6 hL, ck q7 hL, ck d0 hL, ck d3 hL, hL⟩)
  have HL := Lib.hid (show Below w1.heap.size w1 w1 from Below.refl _ _)
  have HB1 := Lib.hid hb1
  clear hw1 hb1 hp
  have HBL := Lib.hid (built113 S a b c r l)
  go_upto_region 22 with fail
  refine wp_region_held_drew (S := (fun W : World => W.cell? ⟨w.heap.size + 1, 0, none⟩ = some (.int .u8 8) ∧ W.cell? ⟨w.heap.size + 1, 1, none⟩ = some (.int .i64 (S : Int)) ∧ W.cell? ⟨w.heap.size + 1, 2, none⟩ = some (.int .i64 a) ∧ W.cell? ⟨w.heap.size + 1, 3, none⟩ = some (.int .i64 b) ∧ W.cell? ⟨w.heap.size + 1, 4, none⟩ = some (.int .i64 c) ∧ W.cell? ⟨w.heap.size + 1, 5, none⟩ = some (.int .i64 r) ∧ W.cell? ⟨w.heap.size + 1, 6, none⟩ = some (.int .i64 l) ∧ W.cell? ⟨w.heap.size + 1, 7, none⟩ = some (.int .u32 0) ∧ W.cell? ⟨w.heap.size, 0, none⟩ = some (.int .u8 8) ∧ W.cell? ⟨w.heap.size, 3, none⟩ = some (.int .i64 b) ∧ Below w1.heap.size w1 W)) (by kernel_rfl) (HF.out _ (below_drewN (HL.out) 1)) (fun hHeld => ?_)
  have HB2 := Lib.hid (show Below w1.heap.size w1 w1.drew from below_drewN (Below.refl _ _) 1)
  obtain ⟨w2, hw2⟩ : ∃ x, w1.drew = x := ⟨_, rfl⟩
  rw [hw2] at HB2 hHeld ⊢
  clear hw2
  refine tkz (i := 0) (d := 91) rfl rfl ?_
  simp only [Act.put, zzA, zzB, zzC]
  refine tkz (i := 1) (d := 92) rfl rfl ?_
  simp only [Act.put, zzA, zzB, zzC]
  refine rdz (i := 2) rfl (fun K hK => ?_)
  refine step_make tOctS (.int .u8 0) (by intro i hi; simp [Value.cells] at hi; subst hi; rfl) rfl (.tmp 92) (.tmp 92) rfl (N) rfl rfl (by omega) (by omega) ?_
  have hb := (Below.refl w2.heap.size w2).alloc (Nat.le_refl _) (.cells (List.replicate (N * 1) (.int .u8 0)).toArray 5)
  have HNgs := Lib.hid (Blk.new w2 5 (List.replicate (N * 1) (.int .u8 0)).toArray)
  have HGgs := Lib.hid (show w2.heap.size ≤ w2.heap.size from Nat.le_refl _)
  have HBEgs := Lib.hid (hHeld.2.2.2.2.2.2.2.2.2.2)
  obtain ⟨w3, hwn⟩ : ∃ xq, w2.alloc (.cells (List.replicate (N * 1) (.int .u8 0)).toArray 5) = xq := ⟨_, rfl⟩
  obtain ⟨gs, hgn⟩ : ∃ xq, w2.heap.size = xq := ⟨_, rfl⟩
  rw [hwn] at hb HNgs ⊢
  have hGE : w1.heap.size ≤ gs := by have := HBEgs.out.size; omega
  rw [hgn] at HNgs ⊢
  clear hwn hgn HGgs HBEgs
  refine hK.out _ _ (HF.out _ (bl_step (hHeld.2.2.2.2.2.2.2.2.2.2) hb)) (fun hHeld => ?_)
  clear hK K
  try simp only [Act.put, zzA, zzB, zzC]
  refine rdz (i := 3) rfl (fun K hK => ?_)
  rw [if_pos (by rfl)]
  refine wp_built 113 #[(0, .tmp 91), (1, .tmp 93)] _ rfl (by simp only [List.map_toArray, List.map_cons, List.map_nil]; exact HBL.out gs N) ?_
  obtain ⟨cs, hcs⟩ : ∃ x, bg8 S a b c r l gs N (List.replicate 512 0) = x := ⟨_, rfl⟩
  rw [hcs]
  have HCS := Lib.hid hcs
  clear hcs
  refine hK.out _ _ hHeld (fun hHeld => ?_)
  clear hK K
  try simp only [Act.put, zzA, zzB, zzC]
  refine rdz (i := 4) rfl (fun K hK => ?_)
  go_simp
  have hb := (Below.refl w3.heap.size w3).alloc (Nat.le_refl _) (.cells cs 113)
  have HNg6 := Lib.hid (Blk.new w3 113 cs)
  have HGg6 := Lib.hid (show w3.heap.size ≤ w3.heap.size from Nat.le_refl _)
  have HBEg6 := Lib.hid (hHeld.2.2.2.2.2.2.2.2.2.2)
  obtain ⟨w4, hwn⟩ : ∃ xq, w3.alloc (.cells cs 113) = xq := ⟨_, rfl⟩
  obtain ⟨g6, hgn⟩ : ∃ xq, w3.heap.size = xq := ⟨_, rfl⟩
  rw [hwn] at hb HNg6 ⊢
  have hGE : w1.heap.size ≤ g6 := by have := HBEg6.out.size; omega
  rw [hgn] at HNg6 ⊢
  clear hwn hgn HGg6 HBEg6
  have HS4 := Lib.hid (HNgs.out.below hb)
  refine hK.out _ _ (HF.out _ (bl_step (hHeld.2.2.2.2.2.2.2.2.2.2) hb)) (fun hHeld => ?_)
  clear hK K
  try simp only [Act.put, zzA, zzB, zzC]
  refine tkz (i := 5) (d := 7) rfl rfl ?_
  simp only [Act.put, zzA, zzB, zzC]
  refine wpAnyH_done (by kernel_rfl) ?_ _
  have HG0 := Lib.hid (show Blk w4 g6 113 (bg8 S a b c r l gs N (List.replicate 512 0)) from by have := HNg6.out; rw [← HCS.out] at this; exact this)
  have HL4 := Lib.hid (hHeld.2.2.2.2.2.2.2.2.2.2)
  have HNE := Lib.hid (HS4.out.ne HG0.out (by decide))
  clear hHeld hb HNg6 HCS HNgs HF HBL
  go_wp2_with fail
  go_loopw [96] (fun v wr => ∃ k : Nat, k ≤ 256 ∧ v = .int .i64 k ∧ Blk wr g6 113 (bg8 S a b c r l gs N (pairs (fun _ => (65536, 0)) (k) ++ List.replicate ((256 - (k)) * 2) 0)) ∧ Frm (fun b => b = g6) w4 wr) (fun v _ => 256 - (intOf v).toNat)
  case atStart => exact ⟨0, by omega, rfl, HG0.out, Frm.refl _ _⟩
  case round =>
    obtain ⟨k, hk, rfl, hg, hf⟩ := hrel
    have HG := Lib.hid hg
    have HFR := Lib.hid hf
    clear hg hf
    by_cases hlt : k < 256
    · have hki : (k : Int) < 256 := by omega
      have hk8 : IntKind.u8.wrap (k : Int) = (k : Int) := IntWalk.u8_in _ ⟨by omega, by omega⟩
      have HG2 := HG
      have HFR2 := HFR
      have sc : wr.cell? ⟨g6, 9 + k * 2, none⟩ = some (.int .i64 0) := (HG2.out.cell _).trans (bg8_at _ _ _ _ _ _ _ _ _ _ _ (fill_at2 _ 256 k hlt))
      have sz : wr.frozen? ⟨g6, 9 + k * 2, none⟩ = false := HG2.out.frozen _
      have hgn := HG2.out.set (9 + k * 2) (.int .i64 (65536))
      rw [bg8_set, fill_step2 (fun _ => (65536, 0)) 256 k hlt rfl] at hgn
      have HGN := Lib.hid hgn
      clear hgn
      go_wp2
      go_roundw
      case rel => exact ⟨k + 1, by omega, by go_num, HGN.out, HFR2.out.setCell (p := ⟨g6, 9 + k * 2, none⟩) (fun _ => rfl) _⟩
      case measure => simp [intOf]; omega
    · obtain rfl : k = 256 := by omega
      have hg := HG.out
      rw [show 256 - 256 = 0 from rfl] at hg
      simp only [Nat.zero_mul, List.replicate_zero, List.append_nil] at hg
      have HG5 := Lib.hid hg
      clear hg
      go_wp2
      go_ret
      refine BegE.mk ⟨g6, gs, gs⟩ (T := 109) rfl rfl ((bl_step HB1.out HL4.out).trans (HFR.out.to_below (by have := (bl_step HB1.out HL4.out).size; omega) (fun b hb => by subst hb; omega))) (ub8 HN.out HG5.out (HS4.out.frm HFR.out HNE.out)) (fun b hb => ?_)
      have k1 := HG5.out.lt
      have k2 := (HS4.out.frm HFR.out HNE.out).lt
      rcases hb with hb | hb | hb <;> (simp only at hb; subst hb) <;> omega
end Go.Proofs.Ytnohfeaamfjimaa
