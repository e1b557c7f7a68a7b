/- The reference learns: a counter, a refined guess: walks. · The reference learns: a history: walk. -/
import Derived.Test.YtnohfeaamfjimaaVrBrS
import Derived.Test.YtnohfeaamfjimaaVrBrN
import Derived.StillTailTactics
import Derived.IntWalk
namespace Go.Proofs.Ytnohfeaamfjimaa
open Go.RowKit Go.WideShapes
set_option linter.unusedVariables false
set_option linter.unusedSimpArgs false
set_option maxRecDepth 100000 in
set_option maxHeartbeats 4000000 in
theorem learnR2 (B R o : Nat) (h c d bit q E : Int) (s a : Nat) (pa pb pc pr pl : Int) (g1 n1 m1 : Nat) (g2 n2 m2 : Nat) (x m : Int) (X Y : List Int) (AL : Option Addr) (nL cL : Nat) (w : World) (h0 : 0 ≤ h) (h1 : h ≤ 4294967295) (c0 : 0 ≤ c) (c1 : c ≤ 255) (s2 : s ≤ 16) (ha : placeI h c s = (a : Int)) (hbit : bit = 0 ∨ bit = 1) (hq : sqI d = q) (hE : 4095 * bit - q = E) (hx : X[a]? = some x) (hm : Y[a]? = some m) (x0 : 0 ≤ x) (x1 : x ≤ 4194303) (m0 : 0 ≤ m) (mm1 : m ≤ 1023) (hl0 : 1 ≤ pl) (hl1 : pl ≤ 1023) (hi1 : a < n1) (hi2 : a < n2) (n12 : ¬ g1 = g2) (nR1 : ¬ R = g1) (nR2 : ¬ R = g2) (nR : ¬ (R = g1 ∨ R = g2)) (nB : ¬ (B = g1 ∨ B = g2)) (r1 : Row w g1 3 (ints X)) (r2 : Row w g2 3 (ints Y)) (q0 : w.cell? ⟨R, o, none⟩ = some (.int .u8 2)) (q1 : w.cell? ⟨R, o + 1, none⟩ = some (.int .i64 (s : Int))) (q2 : w.cell? ⟨R, o + 2, none⟩ = some (.int .i64 pa)) (q3 : w.cell? ⟨R, o + 3, none⟩ = some (.int .i64 pb)) (q4 : w.cell? ⟨R, o + 4, none⟩ = some (.int .i64 pc)) (q5 : w.cell? ⟨R, o + 5, none⟩ = some (.int .i64 pr)) (q6 : w.cell? ⟨R, o + 6, none⟩ = some (.int .i64 pl)) (z7 : w.cell? ⟨R, o + 7, none⟩ = some (.int .u32 h)) (z8 : w.cell? ⟨R, o + 8, none⟩ = some (.slice (some ⟨g1, 0, none⟩) n1 m1)) (z9 : w.cell? ⟨R, o + 9, none⟩ = some (.slice (some ⟨g2, 0, none⟩) n2 m2)) (b1 : w.cell? ⟨B, 1, none⟩ = some (.int .i64 c)) (z6 : w.cell? ⟨R, o + 6, none⟩ = some (.int .i64 pl)) :
    Calls Try.prog 37 #[.pointer (some ⟨B, 0, none⟩), .pointer (some ⟨R, o, none⟩), .slice AL nL cL, .int .i64 d, .int .i64 bit] w (LrR (fun w' => Row w' g1 3 (ints (X.set a (chL x m bit))) ∧ Row w' g2 3 (ints (Y.set a (min (m + 1) pl)))) (fun b => b = g1 ∨ b = g2) w) := by
  have HPL := Lib.hid (show ∀ W, Calls Try.prog 54 #[.int .u32 h, .int .i64 c, .int .i64 (s : Int)] W (Sam (.int .i64 (a : Int)) W) from fun W => ha ▸ placeR h c s W h0 h1 c0 c1 s2)
  have hqb := sq_bd d
  have HSQ := Lib.hid (fun W => rsquash_any d W)
  rw [hq] at HSQ hqb
  have eb := IntWalk.i64_in (4095 * bit) (by omega)
  have ee : IntKind.i64.wrap (4095 * bit - q) = E := by rw [hE]; exact IntWalk.i64_in E (by omega)
  have hEb : -4095 ≤ E ∧ E ≤ 4095 := by omega
  clear h0 h1 c0 c1 s2 ha hq hE
  have hbz : Below w.heap.size w (w.alloc (.cells #[.int .u8 2, .int .i64 (s : Int), .int .i64 pa, .int .i64 pb, .int .i64 pc, .int .i64 pr, .int .i64 pl] 25)) := (Below.refl _ _).alloc (Nat.le_refl _) _
  have z7w := ck z7 hbz
  have z8w := ck z8 hbz
  have z9w := ck z9 hbz
  have b1w := ck b1 hbz
  have z6w := ck z6 hbz
  have hlt1 := r1.lt
  have rr1 := r1.below hbz
  have hlt2 := r2.lt
  have rr2 := r2.below hbz
  clear z7 z8 z9 b1 z6 r1 r2
  go_enter Try.func37, Try.ntmps37
  go_upto_region 1 with fail
  obtain ⟨w2, hw2⟩ : ∃ xq, w.alloc (.cells #[.int .u8 2, .int .i64 (s : Int), .int .i64 pa, .int .i64 pb, .int .i64 pc, .int .i64 pr, .int .i64 pl] 25) = xq := ⟨_, rfl⟩
  have k25 : Blk w2 w.heap.size 25 #[.int .u8 2, .int .i64 (s : Int), .int .i64 pa, .int .i64 pb, .int .i64 pc, .int .i64 pr, .int .i64 pl] := hw2 ▸ Blk.new w _ _
  rw [hw2] at hbz z7w z8w z9w b1w z6w rr1 rr2 ⊢
  have HB2 := Lib.hid hbz
  have HSL := Lib.hid (show ∀ W, (W.cell? ⟨w.heap.size, 0, none⟩ = some (.int .u8 2) ∧ W.cell? ⟨w.heap.size, 1, none⟩ = some (.int .i64 (s : Int)) ∧ W.cell? ⟨w.heap.size, 2, none⟩ = some (.int .i64 pa) ∧ W.cell? ⟨w.heap.size, 3, none⟩ = some (.int .i64 pb) ∧ W.cell? ⟨w.heap.size, 4, none⟩ = some (.int .i64 pc) ∧ W.cell? ⟨w.heap.size, 5, none⟩ = some (.int .i64 pr) ∧ W.cell? ⟨w.heap.size, 6, none⟩ = some (.int .i64 pl) ∧ W.cell? ⟨R, o + 7, none⟩ = some (.int .u32 h) ∧ W.cell? ⟨R, o + 8, none⟩ = some (.slice (some ⟨g1, 0, none⟩) n1 m1) ∧ W.cell? ⟨R, o + 9, none⟩ = some (.slice (some ⟨g2, 0, none⟩) n2 m2) ∧ W.cell? ⟨B, 1, none⟩ = some (.int .i64 c) ∧ W.cell? ⟨R, o + 6, none⟩ = some (.int .i64 pl) ∧ Frm (fun b => b = g1 ∨ b = g2) w2 W) → Row W g1 3 (ints X) → Row W g2 3 (ints Y) → Calls Try.prog 55 #[.pointer (some ⟨R, o, none⟩), .int .i64 (a : Int), .int .i64 bit] W (LrR (fun w' => Row w' g1 3 (ints (X.set a (chL x m bit))) ∧ Row w' g2 3 (ints (Y.set a (min (m + 1) pl)))) (fun b => b = g1 ∨ b = g2) W) from fun W hW r1 r2 => slowR R o g1 n1 m1 g2 n2 m2 a x m bit pl X Y W r1 r2 hx hm x0 x1 m0 mm1 hbit hl0 hl1 hi1 hi2 nR1 nR2 n12 (hW.2.2.2.2.2.2.2.2.1) (hW.2.2.2.2.2.2.2.2.2.1) (hW.2.2.2.2.2.2.2.2.2.2.2.1))
  clear hx hm x0 x1 m0 mm1 hl0 hl1 nR1 nR2 n12
  have y0 : w2.cell? ⟨w.heap.size, 0, none⟩ = some (.int .u8 2) := k25.cell 0
  have y1 : w2.cell? ⟨w.heap.size, 1, none⟩ = some (.int .i64 (s : Int)) := k25.cell 1
  have y2 : w2.cell? ⟨w.heap.size, 2, none⟩ = some (.int .i64 pa) := k25.cell 2
  have y3 : w2.cell? ⟨w.heap.size, 3, none⟩ = some (.int .i64 pb) := k25.cell 3
  have y4 : w2.cell? ⟨w.heap.size, 4, none⟩ = some (.int .i64 pc) := k25.cell 4
  have y5 : w2.cell? ⟨w.heap.size, 5, none⟩ = some (.int .i64 pr) := k25.cell 5
  have y6 : w2.cell? ⟨w.heap.size, 6, none⟩ = some (.int .i64 pl) := k25.cell 6
  have z7 : w2.cell? ⟨R, o + 7, none⟩ = some (.int .u32 h) := z7w
  have z8 : w2.cell? ⟨R, o + 8, none⟩ = some (.slice (some ⟨g1, 0, none⟩) n1 m1) := z8w
  have z9 : w2.cell? ⟨R, o + 9, none⟩ = some (.slice (some ⟨g2, 0, none⟩) n2 m2) := z9w
  have b1 : w2.cell? ⟨B, 1, none⟩ = some (.int .i64 c) := b1w
  have z6 : w2.cell? ⟨R, o + 6, none⟩ = some (.int .i64 pl) := z6w
  have hyw : ¬ (w.heap.size = g1 ∨ w.heap.size = g2) := by omega
  have HF := Lib.hid (show ∀ W : World, Frm (fun b => b = g1 ∨ b = g2) w2 W → W.cell? ⟨w.heap.size, 0, none⟩ = some (.int .u8 2) ∧ W.cell? ⟨w.heap.size, 1, none⟩ = some (.int .i64 (s : Int)) ∧ W.cell? ⟨w.heap.size, 2, none⟩ = some (.int .i64 pa) ∧ W.cell? ⟨w.heap.size, 3, none⟩ = some (.int .i64 pb) ∧ W.cell? ⟨w.heap.size, 4, none⟩ = some (.int .i64 pc) ∧ W.cell? ⟨w.heap.size, 5, none⟩ = some (.int .i64 pr) ∧ W.cell? ⟨w.heap.size, 6, none⟩ = some (.int .i64 pl) ∧ W.cell? ⟨R, o + 7, none⟩ = some (.int .u32 h) ∧ W.cell? ⟨R, o + 8, none⟩ = some (.slice (some ⟨g1, 0, none⟩) n1 m1) ∧ W.cell? ⟨R, o + 9, none⟩ = some (.slice (some ⟨g2, 0, none⟩) n2 m2) ∧ W.cell? ⟨B, 1, none⟩ = some (.int .i64 c) ∧ W.cell? ⟨R, o + 6, none⟩ = some (.int .i64 pl) ∧ Frm (fun b => b = g1 ∨ b = g2) w2 W from fun W hL => ⟨(hL.cell (block_lt_of_cell y0) (hyw)).trans y0, (hL.cell (block_lt_of_cell y1) (hyw)).trans y1, (hL.cell (block_lt_of_cell y2) (hyw)).trans y2, (hL.cell (block_lt_of_cell y3) (hyw)).trans y3, (hL.cell (block_lt_of_cell y4) (hyw)).trans y4, (hL.cell (block_lt_of_cell y5) (hyw)).trans y5, (hL.cell (block_lt_of_cell y6) (hyw)).trans y6, (hL.cell (block_lt_of_cell z7) (nR)).trans z7, (hL.cell (block_lt_of_cell z8) (nR)).trans z8, (hL.cell (block_lt_of_cell z9) (nR)).trans z9, (hL.cell (block_lt_of_cell b1) (nB)).trans b1, (hL.cell (block_lt_of_cell z6) (nR)).trans z6, hL⟩)
  clear hw2 hbz k25 hyw y0 y1 y2 y3 y4 y5 y6 z7 z8 z9 b1 z6 nR nB
  clear z7w z8w z9w b1w z6w
  refine wp_region_held_drew (S := (fun W : World => W.cell? ⟨w.heap.size, 0, none⟩ = some (.int .u8 2) ∧ W.cell? ⟨w.heap.size, 1, none⟩ = some (.int .i64 (s : Int)) ∧ W.cell? ⟨w.heap.size, 2, none⟩ = some (.int .i64 pa) ∧ W.cell? ⟨w.heap.size, 3, none⟩ = some (.int .i64 pb) ∧ W.cell? ⟨w.heap.size, 4, none⟩ = some (.int .i64 pc) ∧ W.cell? ⟨w.heap.size, 5, none⟩ = some (.int .i64 pr) ∧ W.cell? ⟨w.heap.size, 6, none⟩ = some (.int .i64 pl) ∧ W.cell? ⟨R, o + 7, none⟩ = some (.int .u32 h) ∧ W.cell? ⟨R, o + 8, none⟩ = some (.slice (some ⟨g1, 0, none⟩) n1 m1) ∧ W.cell? ⟨R, o + 9, none⟩ = some (.slice (some ⟨g2, 0, none⟩) n2 m2) ∧ W.cell? ⟨B, 1, none⟩ = some (.int .i64 c) ∧ W.cell? ⟨R, o + 6, none⟩ = some (.int .i64 pl) ∧ Frm (fun b => b = g1 ∨ b = g2) w2 W)) (by kernel_rfl) (HF.out _ ((Frm.refl _ w2).drew)) (fun hHeld => ?_)
  refine tkz (i := 0) (d := 21) rfl rfl ?_
  simp only [Act.put, zzA, zzB, zzC]
  refine tkz (i := 1) (d := 22) rfl rfl ?_
  simp only [Act.put, zzA, zzB, zzC]
  refine tkz (i := 2) (d := 23) rfl rfl ?_
  simp only [Act.put, zzA, zzB, zzC]
  refine tkz (i := 3) (d := 24) rfl rfl ?_
  simp only [Act.put, zzA, zzB, zzC]
  refine tkz (i := 4) (d := 25) rfl rfl ?_
  simp only [Act.put, zzA, zzB, zzC]
  refine tkz (i := 5) (d := 26) rfl rfl ?_
  simp only [Act.put, zzA, zzB, zzC]
  refine tkz (i := 6) (d := 27) rfl rfl ?_
  simp only [Act.put, zzA, zzB, zzC]
  refine tkz (i := 7) (d := 28) rfl rfl ?_
  simp only [Act.put, zzA, zzB, zzC]
  refine tkz (i := 8) (d := 29) rfl rfl ?_
  simp only [Act.put, zzA, zzB, zzC]
  refine tkz (i := 9) (d := 30) rfl rfl ?_
  simp only [Act.put, zzA, zzB, zzC]
  refine rdz (i := 10) rfl (fun K hK => ?_)
  go_simp
  refine (HPL.out _).mono ?_
  rintro e w3 ⟨rfl, rfl⟩
  go_wp2_with fail
  refine hK.out _ _ hHeld (fun hHeld => ?_)
  clear hK K
  try simp only [Act.put, zzA, zzB, zzC]
  refine tkz (i := 11) (d := 11) rfl rfl ?_
  simp only [Act.put, zzA, zzB, zzC]
  refine wpAnyH_done (by kernel_rfl) ?_ _
  have rr1 := Row.drew rr1
  have rr2 := Row.drew rr2
  obtain ⟨w3, hw3⟩ : ∃ xq, w2.drew = xq := ⟨_, rfl⟩
  rw [hw3] at hHeld rr1 rr2 ⊢
  clear hw3 HPL
  have HL3 := Lib.hid (hHeld.2.2.2.2.2.2.2.2.2.2.2.2)
  obtain ⟨y0, y1, y2, y3, y4, y5, y6, z7, z8, z9, b1, z6, _⟩ := hHeld
  go_wp2_with fail
  refine (HSQ.out _).mono ?_
  rintro e w4 ⟨rfl, hb4⟩
  have HL4 := Lib.hid (HL3.out.below hb4)
  have HR1 := Lib.hid (rr1.below hb4)
  have HR2 := Lib.hid (rr2.below hb4)
  clear hb4 HSQ rr1 rr2 y0 y1 y2 y3 y4 y5 y6 z7 z8 z9 b1 z6
  obtain ⟨y0, y1, y2, y3, y4, y5, y6, z7, z8, z9, b1, z6, _⟩ := HF.out _ HL4.out
  go_upto_region 5 with fail
  go_wp2_with fail
  refine (HSL.out _ (HF.out _ HL4.out) HR1.out HR2.out).mono ?_
  rintro e w6 ⟨rfl, hq6, hf6⟩
  have HQ6 := Lib.hid hq6
  have HF6 := Lib.hid hf6
  clear hq6 hf6
  go_wp2
  refine bodyPost_ret (v := .tuple #[]) (by simp [results, Try.results37, go_sem]) rfl ?_
  exact ⟨rfl, HQ6.out, Frm.trans (S := fun b => b = g1 ∨ b = g2) (Frm.of_below HB2.out) (Frm.trans (S := fun b => b = g1 ∨ b = g2) HL4.out HF6.out (fun _ _ h => h)) (fun _ _ h => h)⟩
set_option maxRecDepth 100000 in
set_option maxHeartbeats 4000000 in
theorem learnR9 (B R o : Nat) (h c d bit q E : Int) (s a : Nat) (pb pc pr pl : Int) (pa : Nat) (g1 n1 m1 : Nat) (g2 n2 m2 : Nat) (x m l : Int) (X Y : List Int) (en gL nL cL : Nat) (w : World) (h0 : 0 ≤ h) (h1 : h ≤ 4294967295) (c0 : 0 ≤ c) (c1 : c ≤ 255) (s2 : s ≤ 16) (ha : placeI h c s = (a : Int)) (hbit : bit = 0 ∨ bit = 1) (hq : sqI d = q) (hE : 4095 * bit - q = E) (hx : X[en]? = some x) (hm : Y[en]? = some m) (x0 : 0 ≤ x) (x1 : x ≤ 4194303) (m0 : 0 ≤ m) (mm1 : m ≤ 1023) (hl0 : 1 ≤ pl) (hl1 : pl ≤ 1023) (hi1 : en < n1) (hi2 : en < n2) (n12 : ¬ g1 = g2) (nR1 : ¬ R = g1) (nR2 : ¬ R = g2) (hpa : pa < nL) (haa : a < 65536) (hen : (a : Int) * 32 + (l + 2047) / 128 = (en : Int)) (hee : en < 3000000) (l0' : -2047 ≤ l) (l1' : l ≤ 2047) (nLg : ¬ (gL = g1 ∨ gL = g2)) (nR : ¬ (R = g1 ∨ R = g2)) (nB : ¬ (B = g1 ∨ B = g2)) (r1 : Row w g1 3 (ints X)) (r2 : Row w g2 3 (ints Y)) (q0 : w.cell? ⟨R, o, none⟩ = some (.int .u8 9)) (q1 : w.cell? ⟨R, o + 1, none⟩ = some (.int .i64 (s : Int))) (q2 : w.cell? ⟨R, o + 2, none⟩ = some (.int .i64 (pa : Int))) (q3 : w.cell? ⟨R, o + 3, none⟩ = some (.int .i64 pb)) (q4 : w.cell? ⟨R, o + 4, none⟩ = some (.int .i64 pc)) (q5 : w.cell? ⟨R, o + 5, none⟩ = some (.int .i64 pr)) (q6 : w.cell? ⟨R, o + 6, none⟩ = some (.int .i64 pl)) (z7 : w.cell? ⟨R, o + 7, none⟩ = some (.int .u32 h)) (z8 : w.cell? ⟨R, o + 8, none⟩ = some (.slice (some ⟨g1, 0, none⟩) n1 m1)) (z9 : w.cell? ⟨R, o + 9, none⟩ = some (.slice (some ⟨g2, 0, none⟩) n2 m2)) (b1 : w.cell? ⟨B, 1, none⟩ = some (.int .i64 c)) (z6 : w.cell? ⟨R, o + 6, none⟩ = some (.int .i64 pl)) (l0 : w.cell? ⟨gL, pa, none⟩ = some (.int .i64 l)) :
    Calls Try.prog 37 #[.pointer (some ⟨B, 0, none⟩), .pointer (some ⟨R, o, none⟩), .slice (some ⟨gL, 0, none⟩) nL cL, .int .i64 d, .int .i64 bit] w (LrR (fun w' => Row w' g1 3 (ints (X.set en (chL x m bit))) ∧ Row w' g2 3 (ints (Y.set en (min (m + 1) pl)))) (fun b => b = g1 ∨ b = g2) w) := by
  have e1 := IntWalk.i64_in ((a : Int) * 32) (by omega)
  have e2 := IntWalk.i64_in (l + 2047) (by omega)
  have HDN := Lib.hid (fun W => downR (l + 2047) 128 W (by omega) (by omega) (by omega))
  obtain ⟨D, hD⟩ : ∃ D, (l + 2047) / 128 = D := ⟨_, rfl⟩
  rw [hD] at HDN hen
  have e3 : IntKind.i64.wrap ((a : Int) * 32 + D) = (en : Int) := by rw [hen]; exact IntWalk.i64_in _ (by omega)
  have hpa : (pa : Int) < nL := by omega
  have E1 := Lib.hid e1
  have E2 := Lib.hid e2
  have E3 := Lib.hid e3
  clear e1 e2 e3 hD hen l0' l1'
  have HPL := Lib.hid (show ∀ W, Calls Try.prog 54 #[.int .u32 h, .int .i64 c, .int .i64 (s : Int)] W (Sam (.int .i64 (a : Int)) W) from fun W => ha ▸ placeR h c s W h0 h1 c0 c1 s2)
  have hqb := sq_bd d
  have HSQ := Lib.hid (fun W => rsquash_any d W)
  rw [hq] at HSQ hqb
  have eb := IntWalk.i64_in (4095 * bit) (by omega)
  have ee : IntKind.i64.wrap (4095 * bit - q) = E := by rw [hE]; exact IntWalk.i64_in E (by omega)
  have hEb : -4095 ≤ E ∧ E ≤ 4095 := by omega
  clear h0 h1 c0 c1 s2 ha hq hE
  have hbz : Below w.heap.size w (w.alloc (.cells #[.int .u8 9, .int .i64 (s : Int), .int .i64 (pa : Int), .int .i64 pb, .int .i64 pc, .int .i64 pr, .int .i64 pl] 25)) := (Below.refl _ _).alloc (Nat.le_refl _) _
  have z7w := ck z7 hbz
  have z8w := ck z8 hbz
  have z9w := ck z9 hbz
  have b1w := ck b1 hbz
  have z6w := ck z6 hbz
  have l0w := ck l0 hbz
  have hlt1 := r1.lt
  have rr1 := r1.below hbz
  have hlt2 := r2.lt
  have rr2 := r2.below hbz
  clear z7 z8 z9 b1 z6 l0 r1 r2
  go_enter Try.func37, Try.ntmps37
  go_upto_region 1 with fail
  obtain ⟨w2, hw2⟩ : ∃ xq, w.alloc (.cells #[.int .u8 9, .int .i64 (s : Int), .int .i64 (pa : Int), .int .i64 pb, .int .i64 pc, .int .i64 pr, .int .i64 pl] 25) = xq := ⟨_, rfl⟩
  have k25 : Blk w2 w.heap.size 25 #[.int .u8 9, .int .i64 (s : Int), .int .i64 (pa : Int), .int .i64 pb, .int .i64 pc, .int .i64 pr, .int .i64 pl] := hw2 ▸ Blk.new w _ _
  rw [hw2] at hbz z7w z8w z9w b1w z6w l0w rr1 rr2 ⊢
  have HB2 := Lib.hid hbz
  have HSL := Lib.hid (show ∀ W, (W.cell? ⟨w.heap.size, 0, none⟩ = some (.int .u8 9) ∧ W.cell? ⟨w.heap.size, 1, none⟩ = some (.int .i64 (s : Int)) ∧ W.cell? ⟨w.heap.size, 2, none⟩ = some (.int .i64 (pa : Int)) ∧ W.cell? ⟨w.heap.size, 3, none⟩ = some (.int .i64 pb) ∧ W.cell? ⟨w.heap.size, 4, none⟩ = some (.int .i64 pc) ∧ W.cell? ⟨w.heap.size, 5, none⟩ = some (.int .i64 pr) ∧ W.cell? ⟨w.heap.size, 6, none⟩ = some (.int .i64 pl) ∧ W.cell? ⟨R, o + 7, none⟩ = some (.int .u32 h) ∧ W.cell? ⟨R, o + 8, none⟩ = some (.slice (some ⟨g1, 0, none⟩) n1 m1) ∧ W.cell? ⟨R, o + 9, none⟩ = some (.slice (some ⟨g2, 0, none⟩) n2 m2) ∧ W.cell? ⟨B, 1, none⟩ = some (.int .i64 c) ∧ W.cell? ⟨R, o + 6, none⟩ = some (.int .i64 pl) ∧ W.cell? ⟨gL, pa, none⟩ = some (.int .i64 l) ∧ Frm (fun b => b = g1 ∨ b = g2) w2 W) → Row W g1 3 (ints X) → Row W g2 3 (ints Y) → Calls Try.prog 55 #[.pointer (some ⟨R, o, none⟩), .int .i64 (en : Int), .int .i64 bit] W (LrR (fun w' => Row w' g1 3 (ints (X.set en (chL x m bit))) ∧ Row w' g2 3 (ints (Y.set en (min (m + 1) pl)))) (fun b => b = g1 ∨ b = g2) W) from fun W hW r1 r2 => slowR R o g1 n1 m1 g2 n2 m2 en x m bit pl X Y W r1 r2 hx hm x0 x1 m0 mm1 hbit hl0 hl1 hi1 hi2 nR1 nR2 n12 (hW.2.2.2.2.2.2.2.2.1) (hW.2.2.2.2.2.2.2.2.2.1) (hW.2.2.2.2.2.2.2.2.2.2.2.1))
  clear hx hm x0 x1 m0 mm1 hl0 hl1 nR1 nR2 n12
  have y0 : w2.cell? ⟨w.heap.size, 0, none⟩ = some (.int .u8 9) := k25.cell 0
  have y1 : w2.cell? ⟨w.heap.size, 1, none⟩ = some (.int .i64 (s : Int)) := k25.cell 1
  have y2 : w2.cell? ⟨w.heap.size, 2, none⟩ = some (.int .i64 (pa : Int)) := k25.cell 2
  have y3 : w2.cell? ⟨w.heap.size, 3, none⟩ = some (.int .i64 pb) := k25.cell 3
  have y4 : w2.cell? ⟨w.heap.size, 4, none⟩ = some (.int .i64 pc) := k25.cell 4
  have y5 : w2.cell? ⟨w.heap.size, 5, none⟩ = some (.int .i64 pr) := k25.cell 5
  have y6 : w2.cell? ⟨w.heap.size, 6, none⟩ = some (.int .i64 pl) := k25.cell 6
  have z7 : w2.cell? ⟨R, o + 7, none⟩ = some (.int .u32 h) := z7w
  have z8 : w2.cell? ⟨R, o + 8, none⟩ = some (.slice (some ⟨g1, 0, none⟩) n1 m1) := z8w
  have z9 : w2.cell? ⟨R, o + 9, none⟩ = some (.slice (some ⟨g2, 0, none⟩) n2 m2) := z9w
  have b1 : w2.cell? ⟨B, 1, none⟩ = some (.int .i64 c) := b1w
  have z6 : w2.cell? ⟨R, o + 6, none⟩ = some (.int .i64 pl) := z6w
  have l0 : w2.cell? ⟨gL, pa, none⟩ = some (.int .i64 l) := l0w
  have hyw : ¬ (w.heap.size = g1 ∨ w.heap.size = g2) := by omega
  have HF := Lib.hid (show ∀ W : World, Frm (fun b => b = g1 ∨ b = g2) w2 W → W.cell? ⟨w.heap.size, 0, none⟩ = some (.int .u8 9) ∧ W.cell? ⟨w.heap.size, 1, none⟩ = some (.int .i64 (s : Int)) ∧ W.cell? ⟨w.heap.size, 2, none⟩ = some (.int .i64 (pa : Int)) ∧ W.cell? ⟨w.heap.size, 3, none⟩ = some (.int .i64 pb) ∧ W.cell? ⟨w.heap.size, 4, none⟩ = some (.int .i64 pc) ∧ W.cell? ⟨w.heap.size, 5, none⟩ = some (.int .i64 pr) ∧ W.cell? ⟨w.heap.size, 6, none⟩ = some (.int .i64 pl) ∧ W.cell? ⟨R, o + 7, none⟩ = some (.int .u32 h) ∧ W.cell? ⟨R, o + 8, none⟩ = some (.slice (some ⟨g1, 0, none⟩) n1 m1) ∧ W.cell? ⟨R, o + 9, none⟩ = some (.slice (some ⟨g2, 0, none⟩) n2 m2) ∧ W.cell? ⟨B, 1, none⟩ = some (.int .i64 c) ∧ W.cell? ⟨R, o + 6, none⟩ = some (.int .i64 pl) ∧ W.cell? ⟨gL, pa, none⟩ = some (.int .i64 l) ∧ Frm (fun b => b = g1 ∨ b = g2) w2 W from fun W hL => ⟨(hL.cell (block_lt_of_cell y0) (hyw)).trans y0, (hL.cell (block_lt_of_cell y1) (hyw)).trans y1, (hL.cell (block_lt_of_cell y2) (hyw)).trans y2, (hL.cell (block_lt_of_cell y3) (hyw)).trans y3, (hL.cell (block_lt_of_cell y4) (hyw)).trans y4, (hL.cell (block_lt_of_cell y5) (hyw)).trans y5, (hL.cell (block_lt_of_cell y6) (hyw)).trans y6, (hL.cell (block_lt_of_cell z7) (nR)).trans z7, (hL.cell (block_lt_of_cell z8) (nR)).trans z8, (hL.cell (block_lt_of_cell z9) (nR)).trans z9, (hL.cell (block_lt_of_cell b1) (nB)).trans b1, (hL.cell (block_lt_of_cell z6) (nR)).trans z6, (hL.cell (block_lt_of_cell l0) (nLg)).trans l0, hL⟩)
  clear hw2 hbz k25 hyw y0 y1 y2 y3 y4 y5 y6 z7 z8 z9 b1 z6 l0 nR nB
  clear z7w z8w z9w b1w z6w l0w
  refine wp_region_held_drew (S := (fun W : World => W.cell? ⟨w.heap.size, 0, none⟩ = some (.int .u8 9) ∧ W.cell? ⟨w.heap.size, 1, none⟩ = some (.int .i64 (s : Int)) ∧ W.cell? ⟨w.heap.size, 2, none⟩ = some (.int .i64 (pa : Int)) ∧ W.cell? ⟨w.heap.size, 3, none⟩ = some (.int .i64 pb) ∧ W.cell? ⟨w.heap.size, 4, none⟩ = some (.int .i64 pc) ∧ W.cell? ⟨w.heap.size, 5, none⟩ = some (.int .i64 pr) ∧ W.cell? ⟨w.heap.size, 6, none⟩ = some (.int .i64 pl) ∧ W.cell? ⟨R, o + 7, none⟩ = some (.int .u32 h) ∧ W.cell? ⟨R, o + 8, none⟩ = some (.slice (some ⟨g1, 0, none⟩) n1 m1) ∧ W.cell? ⟨R, o + 9, none⟩ = some (.slice (some ⟨g2, 0, none⟩) n2 m2) ∧ W.cell? ⟨B, 1, none⟩ = some (.int .i64 c) ∧ W.cell? ⟨R, o + 6, none⟩ = some (.int .i64 pl) ∧ W.cell? ⟨gL, pa, none⟩ = some (.int .i64 l) ∧ Frm (fun b => b = g1 ∨ b = g2) w2 W)) (by kernel_rfl) (HF.out _ ((Frm.refl _ w2).drew)) (fun hHeld => ?_)
  refine tkz (i := 0) (d := 21) rfl rfl ?_
  simp only [Act.put, zzA, zzB, zzC]
  refine tkz (i := 1) (d := 22) rfl rfl ?_
  simp only [Act.put, zzA, zzB, zzC]
  refine tkz (i := 2) (d := 23) rfl rfl ?_
  simp only [Act.put, zzA, zzB, zzC]
  refine tkz (i := 3) (d := 24) rfl rfl ?_
  simp only [Act.put, zzA, zzB, zzC]
  refine tkz (i := 4) (d := 25) rfl rfl ?_
  simp only [Act.put, zzA, zzB, zzC]
  refine tkz (i := 5) (d := 26) rfl rfl ?_
  simp only [Act.put, zzA, zzB, zzC]
  refine tkz (i := 6) (d := 27) rfl rfl ?_
  simp only [Act.put, zzA, zzB, zzC]
  refine tkz (i := 7) (d := 28) rfl rfl ?_
  simp only [Act.put, zzA, zzB, zzC]
  refine tkz (i := 8) (d := 29) rfl rfl ?_
  simp only [Act.put, zzA, zzB, zzC]
  refine tkz (i := 9) (d := 30) rfl rfl ?_
  simp only [Act.put, zzA, zzB, zzC]
  refine rdz (i := 10) rfl (fun K hK => ?_)
  go_simp
  refine (HPL.out _).mono ?_
  rintro e w3 ⟨rfl, rfl⟩
  go_wp2_with fail
  refine hK.out _ _ hHeld (fun hHeld => ?_)
  clear hK K
  try simp only [Act.put, zzA, zzB, zzC]
  refine tkz (i := 11) (d := 11) rfl rfl ?_
  simp only [Act.put, zzA, zzB, zzC]
  refine wpAnyH_done (by kernel_rfl) ?_ _
  have rr1 := Row.drew rr1
  have rr2 := Row.drew rr2
  obtain ⟨w3, hw3⟩ : ∃ xq, w2.drew = xq := ⟨_, rfl⟩
  rw [hw3] at hHeld rr1 rr2 ⊢
  clear hw3 HPL
  have HL3 := Lib.hid (hHeld.2.2.2.2.2.2.2.2.2.2.2.2.2)
  obtain ⟨y0, y1, y2, y3, y4, y5, y6, z7, z8, z9, b1, z6, l0, _⟩ := hHeld
  go_wp2_with fail
  refine (HSQ.out _).mono ?_
  rintro e w4 ⟨rfl, hb4⟩
  have HL4 := Lib.hid (HL3.out.below hb4)
  have HR1 := Lib.hid (rr1.below hb4)
  have HR2 := Lib.hid (rr2.below hb4)
  clear hb4 HSQ rr1 rr2 y0 y1 y2 y3 y4 y5 y6 z7 z8 z9 b1 z6 l0
  obtain ⟨y0, y1, y2, y3, y4, y5, y6, z7, z8, z9, b1, z6, l0, _⟩ := HF.out _ HL4.out
  go_upto_region 24 with fail
  have e1 := E1.out
  have e2 := E2.out
  have e3 := E3.out
  go_wp2_with fail
  refine (HDN.out _).mono ?_
  rintro e w5 ⟨rfl, rfl⟩
  go_wp2_with fail
  refine (HSL.out _ (HF.out _ HL4.out) HR1.out HR2.out).mono ?_
  rintro e w6 ⟨rfl, hq6, hf6⟩
  have HQ6 := Lib.hid hq6
  have HF6 := Lib.hid hf6
  clear hq6 hf6
  go_wp2
  refine bodyPost_ret (v := .tuple #[]) (by simp [results, Try.results37, go_sem]) rfl ?_
  exact ⟨rfl, HQ6.out, Frm.trans (S := fun b => b = g1 ∨ b = g2) (Frm.of_below HB2.out) (Frm.trans (S := fun b => b = g1 ∨ b = g2) HL4.out HF6.out (fun _ _ h => h)) (fun _ _ h => h)⟩
end Go.Proofs.Ytnohfeaamfjimaa
namespace Go.Proofs.Ytnohfeaamfjimaa
open Go.RowKit Go.WideShapes
set_option linter.unusedVariables false
set_option linter.unusedSimpArgs false
set_option maxRecDepth 100000 in
set_option maxHeartbeats 4000000 in
theorem learnR3 (B R o : Nat) (h c d bit q E : Int) (s a : Nat) (pa pb pc pr pl : Int) (g1 n1 m1 : Nat) (g3 n3 m3 : Nat) (v : Int) (y : Nat) (X S : List Int) (AL : Option Addr) (nL cL : Nat) (w : World) (h0 : 0 ≤ h) (h1 : h ≤ 4294967295) (c0 : 0 ≤ c) (c1 : c ≤ 255) (s2 : s ≤ 16) (ha : placeI h c s = (a : Int)) (hbit : bit = 0 ∨ bit = 1) (hq : sqI d = q) (hE : 4095 * bit - q = E) (hv : X[y]? = some v) (hys : S[a]? = some (y : Int)) (hy : y < 256) (v0 : 0 ≤ v) (v1 : v ≤ 65535) (hy1 : y < n1) (ha3 : a < n3) (n13 : ¬ g1 = g3) (nR : ¬ (R = g1 ∨ R = g3)) (nB : ¬ (B = g1 ∨ B = g3)) (r1 : Row w g1 3 (ints X)) (r3 : Row w g3 5 (octs S)) (q0 : w.cell? ⟨R, o, none⟩ = some (.int .u8 3)) (q1 : w.cell? ⟨R, o + 1, none⟩ = some (.int .i64 (s : Int))) (q2 : w.cell? ⟨R, o + 2, none⟩ = some (.int .i64 pa)) (q3 : w.cell? ⟨R, o + 3, none⟩ = some (.int .i64 pb)) (q4 : w.cell? ⟨R, o + 4, none⟩ = some (.int .i64 pc)) (q5 : w.cell? ⟨R, o + 5, none⟩ = some (.int .i64 pr)) (q6 : w.cell? ⟨R, o + 6, none⟩ = some (.int .i64 pl)) (z7 : w.cell? ⟨R, o + 7, none⟩ = some (.int .u32 h)) (z8 : w.cell? ⟨R, o + 8, none⟩ = some (.slice (some ⟨g1, 0, none⟩) n1 m1)) (z10 : w.cell? ⟨R, o + 10, none⟩ = some (.slice (some ⟨g3, 0, none⟩) n3 m3)) (b1 : w.cell? ⟨B, 1, none⟩ = some (.int .i64 c)) :
    Calls Try.prog 37 #[.pointer (some ⟨B, 0, none⟩), .pointer (some ⟨R, o, none⟩), .slice AL nL cL, .int .i64 d, .int .i64 bit] w (LrR (fun w' => Row w' g1 3 (ints (X.set y (hiL v bit))) ∧ Row w' g3 5 (octs (S.set a (nextI (y : Int) bit)))) (fun b => b = g1 ∨ b = g3) w) := by
  have hhl := hiL_bd v0 v1 hbit
  have hP : hiL v bit = v + (bit * 65535 - v).tdiv 64 := rfl
  obtain ⟨P, hP2⟩ : ∃ P, hiL v bit = P := ⟨_, rfl⟩
  obtain ⟨D, hD⟩ : ∃ D, (bit * 65535 - v).tdiv 64 = D := ⟨_, rfl⟩
  rw [hP2] at hP hhl ⊢
  rw [hD] at hP hhl
  have hN := next_bd (y : Int) bit (by omega) (by omega)
  have HNX := Lib.hid (fun W => rnext_any (y : Int) bit W (by omega) (by omega))
  obtain ⟨Z, hZ⟩ : ∃ Z, nextI (y : Int) bit = Z := ⟨_, rfl⟩
  rw [hZ] at HNX hN ⊢
  have e1 := IntWalk.i64_in (65535 * bit) (by omega)
  have e2 := IntWalk.i64_in (65535 * bit - v) (by omega)
  have e3 : (65535 * bit - v).tdiv 64 = D := by rw [Int.mul_comm 65535 bit]; exact hD
  have e4 := IntWalk.i64_in D (by omega)
  have e5 : IntKind.i64.wrap (v + D) = P := by rw [← hP]; exact IntWalk.i64_in P (by omega)
  have hyi : (y : Int) < n1 := by omega
  have hai : (a : Int) < n3 := by omega
  have E1 := Lib.hid e1
  have E2 := Lib.hid e2
  have E3 := Lib.hid e3
  have E4 := Lib.hid e4
  have E5 := Lib.hid e5
  have HV := Lib.hid hv
  have HY := Lib.hid hys
  have N13 := Lib.hid n13
  clear hhl hP hP2 hD hN hZ e1 e2 e3 e4 e5 v0 v1 hv hys n13
  have HPL := Lib.hid (show ∀ W, Calls Try.prog 54 #[.int .u32 h, .int .i64 c, .int .i64 (s : Int)] W (Sam (.int .i64 (a : Int)) W) from fun W => ha ▸ placeR h c s W h0 h1 c0 c1 s2)
  have hqb := sq_bd d
  have HSQ := Lib.hid (fun W => rsquash_any d W)
  rw [hq] at HSQ hqb
  have eb := IntWalk.i64_in (4095 * bit) (by omega)
  have ee : IntKind.i64.wrap (4095 * bit - q) = E := by rw [hE]; exact IntWalk.i64_in E (by omega)
  have hEb : -4095 ≤ E ∧ E ≤ 4095 := by omega
  clear h0 h1 c0 c1 s2 ha hq hE
  have hbz : Below w.heap.size w (w.alloc (.cells #[.int .u8 3, .int .i64 (s : Int), .int .i64 pa, .int .i64 pb, .int .i64 pc, .int .i64 pr, .int .i64 pl] 25)) := (Below.refl _ _).alloc (Nat.le_refl _) _
  have z7w := ck z7 hbz
  have z8w := ck z8 hbz
  have z10w := ck z10 hbz
  have b1w := ck b1 hbz
  have hlt1 := r1.lt
  have rr1 := r1.below hbz
  have hlt3 := r3.lt
  have rr3 := r3.below hbz
  clear z7 z8 z10 b1 r1 r3
  go_enter Try.func37, Try.ntmps37
  go_upto_region 1 with fail
  obtain ⟨w2, hw2⟩ : ∃ xq, w.alloc (.cells #[.int .u8 3, .int .i64 (s : Int), .int .i64 pa, .int .i64 pb, .int .i64 pc, .int .i64 pr, .int .i64 pl] 25) = xq := ⟨_, rfl⟩
  have k25 : Blk w2 w.heap.size 25 #[.int .u8 3, .int .i64 (s : Int), .int .i64 pa, .int .i64 pb, .int .i64 pc, .int .i64 pr, .int .i64 pl] := hw2 ▸ Blk.new w _ _
  rw [hw2] at hbz z7w z8w z10w b1w rr1 rr3 ⊢
  have HB2 := Lib.hid hbz
  have y0 : w2.cell? ⟨w.heap.size, 0, none⟩ = some (.int .u8 3) := k25.cell 0
  have y1 : w2.cell? ⟨w.heap.size, 1, none⟩ = some (.int .i64 (s : Int)) := k25.cell 1
  have y2 : w2.cell? ⟨w.heap.size, 2, none⟩ = some (.int .i64 pa) := k25.cell 2
  have y3 : w2.cell? ⟨w.heap.size, 3, none⟩ = some (.int .i64 pb) := k25.cell 3
  have y4 : w2.cell? ⟨w.heap.size, 4, none⟩ = some (.int .i64 pc) := k25.cell 4
  have y5 : w2.cell? ⟨w.heap.size, 5, none⟩ = some (.int .i64 pr) := k25.cell 5
  have y6 : w2.cell? ⟨w.heap.size, 6, none⟩ = some (.int .i64 pl) := k25.cell 6
  have z7 : w2.cell? ⟨R, o + 7, none⟩ = some (.int .u32 h) := z7w
  have z8 : w2.cell? ⟨R, o + 8, none⟩ = some (.slice (some ⟨g1, 0, none⟩) n1 m1) := z8w
  have z10 : w2.cell? ⟨R, o + 10, none⟩ = some (.slice (some ⟨g3, 0, none⟩) n3 m3) := z10w
  have b1 : w2.cell? ⟨B, 1, none⟩ = some (.int .i64 c) := b1w
  have hyw : ¬ (w.heap.size = g1 ∨ w.heap.size = g3) := by omega
  have HF := Lib.hid (show ∀ W : World, Frm (fun b => b = g1 ∨ b = g3) w2 W → W.cell? ⟨w.heap.size, 0, none⟩ = some (.int .u8 3) ∧ W.cell? ⟨w.heap.size, 1, none⟩ = some (.int .i64 (s : Int)) ∧ W.cell? ⟨w.heap.size, 2, none⟩ = some (.int .i64 pa) ∧ W.cell? ⟨w.heap.size, 3, none⟩ = some (.int .i64 pb) ∧ W.cell? ⟨w.heap.size, 4, none⟩ = some (.int .i64 pc) ∧ W.cell? ⟨w.heap.size, 5, none⟩ = some (.int .i64 pr) ∧ W.cell? ⟨w.heap.size, 6, none⟩ = some (.int .i64 pl) ∧ W.cell? ⟨R, o + 7, none⟩ = some (.int .u32 h) ∧ W.cell? ⟨R, o + 8, none⟩ = some (.slice (some ⟨g1, 0, none⟩) n1 m1) ∧ W.cell? ⟨R, o + 10, none⟩ = some (.slice (some ⟨g3, 0, none⟩) n3 m3) ∧ W.cell? ⟨B, 1, none⟩ = some (.int .i64 c) ∧ Frm (fun b => b = g1 ∨ b = g3) w2 W from fun W hL => ⟨(hL.cell (block_lt_of_cell y0) (hyw)).trans y0, (hL.cell (block_lt_of_cell y1) (hyw)).trans y1, (hL.cell (block_lt_of_cell y2) (hyw)).trans y2, (hL.cell (block_lt_of_cell y3) (hyw)).trans y3, (hL.cell (block_lt_of_cell y4) (hyw)).trans y4, (hL.cell (block_lt_of_cell y5) (hyw)).trans y5, (hL.cell (block_lt_of_cell y6) (hyw)).trans y6, (hL.cell (block_lt_of_cell z7) (nR)).trans z7, (hL.cell (block_lt_of_cell z8) (nR)).trans z8, (hL.cell (block_lt_of_cell z10) (nR)).trans z10, (hL.cell (block_lt_of_cell b1) (nB)).trans b1, hL⟩)
  clear hw2 hbz k25 hyw y0 y1 y2 y3 y4 y5 y6 z7 z8 z10 b1 nR nB
  clear z7w z8w z10w b1w
  refine wp_region_held_drew (S := (fun W : World => W.cell? ⟨w.heap.size, 0, none⟩ = some (.int .u8 3) ∧ W.cell? ⟨w.heap.size, 1, none⟩ = some (.int .i64 (s : Int)) ∧ W.cell? ⟨w.heap.size, 2, none⟩ = some (.int .i64 pa) ∧ W.cell? ⟨w.heap.size, 3, none⟩ = some (.int .i64 pb) ∧ W.cell? ⟨w.heap.size, 4, none⟩ = some (.int .i64 pc) ∧ W.cell? ⟨w.heap.size, 5, none⟩ = some (.int .i64 pr) ∧ W.cell? ⟨w.heap.size, 6, none⟩ = some (.int .i64 pl) ∧ W.cell? ⟨R, o + 7, none⟩ = some (.int .u32 h) ∧ W.cell? ⟨R, o + 8, none⟩ = some (.slice (some ⟨g1, 0, none⟩) n1 m1) ∧ W.cell? ⟨R, o + 10, none⟩ = some (.slice (some ⟨g3, 0, none⟩) n3 m3) ∧ W.cell? ⟨B, 1, none⟩ = some (.int .i64 c) ∧ Frm (fun b => b = g1 ∨ b = g3) w2 W)) (by kernel_rfl) (HF.out _ ((Frm.refl _ w2).drew)) (fun hHeld => ?_)
  refine tkz (i := 0) (d := 21) rfl rfl ?_
  simp only [Act.put, zzA, zzB, zzC]
  refine tkz (i := 1) (d := 22) rfl rfl ?_
  simp only [Act.put, zzA, zzB, zzC]
  refine tkz (i := 2) (d := 23) rfl rfl ?_
  simp only [Act.put, zzA, zzB, zzC]
  refine tkz (i := 3) (d := 24) rfl rfl ?_
  simp only [Act.put, zzA, zzB, zzC]
  refine tkz (i := 4) (d := 25) rfl rfl ?_
  simp only [Act.put, zzA, zzB, zzC]
  refine tkz (i := 5) (d := 26) rfl rfl ?_
  simp only [Act.put, zzA, zzB, zzC]
  refine tkz (i := 6) (d := 27) rfl rfl ?_
  simp only [Act.put, zzA, zzB, zzC]
  refine tkz (i := 7) (d := 28) rfl rfl ?_
  simp only [Act.put, zzA, zzB, zzC]
  refine tkz (i := 8) (d := 29) rfl rfl ?_
  simp only [Act.put, zzA, zzB, zzC]
  refine tkz (i := 9) (d := 30) rfl rfl ?_
  simp only [Act.put, zzA, zzB, zzC]
  refine rdz (i := 10) rfl (fun K hK => ?_)
  go_simp
  refine (HPL.out _).mono ?_
  rintro e w3 ⟨rfl, rfl⟩
  go_wp2_with fail
  refine hK.out _ _ hHeld (fun hHeld => ?_)
  clear hK K
  try simp only [Act.put, zzA, zzB, zzC]
  refine tkz (i := 11) (d := 11) rfl rfl ?_
  simp only [Act.put, zzA, zzB, zzC]
  refine wpAnyH_done (by kernel_rfl) ?_ _
  have rr1 := Row.drew rr1
  have rr3 := Row.drew rr3
  obtain ⟨w3, hw3⟩ : ∃ xq, w2.drew = xq := ⟨_, rfl⟩
  rw [hw3] at hHeld rr1 rr3 ⊢
  clear hw3 HPL
  have HL3 := Lib.hid (hHeld.2.2.2.2.2.2.2.2.2.2.2)
  obtain ⟨y0, y1, y2, y3, y4, y5, y6, z7, z8, z10, b1, _⟩ := hHeld
  go_wp2_with fail
  refine (HSQ.out _).mono ?_
  rintro e w4 ⟨rfl, hb4⟩
  have HL4 := Lib.hid (HL3.out.below hb4)
  have HR1 := Lib.hid (rr1.below hb4)
  have HR3 := Lib.hid (rr3.below hb4)
  clear hb4 HSQ rr1 rr3 y0 y1 y2 y3 y4 y5 y6 z7 z8 z10 b1
  obtain ⟨y0, y1, y2, y3, y4, y5, y6, z7, z8, z10, b1, _⟩ := HF.out _ HL4.out
  have sy := row_o HR3.out HY.out
  go_upto_region 8 with fail
  have e1 := E1.out
  have e2 := E2.out
  have e3 := E3.out
  have e4 := E4.out
  have e5 := E5.out
  refine wp_region_held_drew (S := (fun W : World => W.cell? ⟨w.heap.size, 0, none⟩ = some (.int .u8 3) ∧ W.cell? ⟨w.heap.size, 1, none⟩ = some (.int .i64 (s : Int)) ∧ W.cell? ⟨w.heap.size, 2, none⟩ = some (.int .i64 pa) ∧ W.cell? ⟨w.heap.size, 3, none⟩ = some (.int .i64 pb) ∧ W.cell? ⟨w.heap.size, 4, none⟩ = some (.int .i64 pc) ∧ W.cell? ⟨w.heap.size, 5, none⟩ = some (.int .i64 pr) ∧ W.cell? ⟨w.heap.size, 6, none⟩ = some (.int .i64 pl) ∧ W.cell? ⟨R, o + 7, none⟩ = some (.int .u32 h) ∧ W.cell? ⟨R, o + 8, none⟩ = some (.slice (some ⟨g1, 0, none⟩) n1 m1) ∧ W.cell? ⟨R, o + 10, none⟩ = some (.slice (some ⟨g3, 0, none⟩) n3 m3) ∧ W.cell? ⟨B, 1, none⟩ = some (.int .i64 c) ∧ Frm (fun b => b = g1 ∨ b = g3) w2 W)) (by kernel_rfl) (HF.out _ (HL4.out.drew)) (fun hHeld => ?_)
  clear sy
  have rd := HR1.out.drew
  have rs := HR3.out.drew
  obtain ⟨w7, hwn⟩ : ∃ xq, w4.drew = xq := ⟨_, rfl⟩
  rw [hwn] at rd rs hHeld ⊢
  clear hwn
  have HRD := Lib.hid rd
  have HRS := Lib.hid rs
  have qa := row_i rd HV.out
  have za := rd.frozen y
  clear rd rs
  refine tkz (i := 0) (d := 54) rfl rfl ?_
  simp only [Act.put, zzA, zzB, zzC]
  refine tkz (i := 1) (d := 55) rfl rfl ?_
  simp only [Act.put, zzA, zzB, zzC]
  refine tkz (i := 2) (d := 56) rfl rfl ?_
  simp only [Act.put, zzA, zzB, zzC]
  refine tkz (i := 3) (d := 57) rfl rfl ?_
  simp only [Act.put, zzA, zzB, zzC]
  refine tkz (i := 4) (d := 58) rfl rfl ?_
  simp only [Act.put, zzA, zzB, zzC]
  refine tkz (i := 5) (d := 59) rfl rfl ?_
  simp only [Act.put, zzA, zzB, zzC]
  refine tkz (i := 6) (d := 60) rfl rfl ?_
  simp only [Act.put, zzA, zzB, zzC]
  refine tkz (i := 7) (d := 61) rfl rfl ?_
  simp only [Act.put, zzA, zzB, zzC]
  refine tkz (i := 8) (d := 62) rfl rfl ?_
  simp only [Act.put, zzA, zzB, zzC]
  refine tkz (i := 9) (d := 63) rfl rfl ?_
  simp only [Act.put, zzA, zzB, zzC]
  refine tkz (i := 10) (d := 64) rfl rfl ?_
  simp only [Act.put, zzA, zzB, zzC]
  refine tkz (i := 12) (d := 66) rfl rfl ?_
  simp only [Act.put, zzA, zzB, zzC]
  refine tkz (i := 13) (d := 67) rfl rfl ?_
  simp only [Act.put, zzA, zzB, zzC]
  refine tkz (i := 14) (d := 68) rfl rfl ?_
  simp only [Act.put, zzA, zzB, zzC]
  refine tkz (i := 15) (d := 69) rfl rfl ?_
  simp only [Act.put, zzA, zzB, zzC]
  refine tkz (i := 16) (d := 70) rfl rfl ?_
  simp only [Act.put, zzA, zzB, zzC]
  refine tkz (i := 17) (d := 71) rfl rfl ?_
  simp only [Act.put, zzA, zzB, zzC]
  refine tkz (i := 18) (d := 72) rfl rfl ?_
  simp only [Act.put, zzA, zzB, zzC]
  refine tkz (i := 19) (d := 73) rfl rfl ?_
  simp only [Act.put, zzA, zzB, zzC]
  refine wpAnyH_ready (rs := [11, 20]) (by kernel_rfl) (by simp) ?_
  refine AllReadyH.cons (o := _) rfl (fun K hK => ?_) (AllReadyH.cons (o := _) rfl (fun K hK => ?_) AllReadyH.nil)
  · go_simp
    refine hK.out _ _ hHeld (fun hHeld => ?_)
    clear hK K
    try simp only [Act.put, zzA, zzB, zzC]
    refine rdz (i := 20) rfl (fun K hK => ?_)
    go_simp
    refine hK.out _ _ hHeld (fun hHeld => ?_)
    clear hK K
    try simp only [Act.put, zzA, zzB, zzC]
    refine tkz (i := 21) (d := 75) rfl rfl ?_
    simp only [Act.put, zzA, zzB, zzC]
    refine tkz (i := 22) (d := 76) rfl rfl ?_
    simp only [Act.put, zzA, zzB, zzC]
    refine tkz (i := 23) (d := 77) rfl rfl ?_
    simp only [Act.put, zzA, zzB, zzC]
    refine tkz (i := 24) (d := 78) rfl rfl ?_
    simp only [Act.put, zzA, zzB, zzC]
    refine rdz (i := 25) rfl (fun K hK => ?_)
    go_simp
    refine hK.out _ _ (HF.out _ ((hHeld.2.2.2.2.2.2.2.2.2.2.2).setCell (p := ⟨g1, y, none⟩) (fun _ => .inl rfl) _)) (fun hHeld => ?_)
    clear hK K
    try simp only [Act.put, zzA, zzB, zzC]
    refine wpAnyH_done (by kernel_rfl) ?_ _
    clear e1 e2 e3 e4 e5
    have HL8 := Lib.hid (hHeld.2.2.2.2.2.2.2.2.2.2.2)
    have r1x := HRD.out.seti HV.out P
    have r3x := HRS.out.far (p := ⟨g1, y, none⟩) (fun e => N13.out e.symm) (.int .i64 P)
    obtain ⟨w8, hwn⟩ : ∃ xq, w7.setCell ⟨g1, y, none⟩ (.int .i64 P) = xq := ⟨_, rfl⟩
    rw [hwn] at r1x r3x HL8 hHeld ⊢
    clear hwn
    have HR1X := Lib.hid r1x
    have HR3X := Lib.hid r3x
    clear r1x r3x hHeld qa za
    clear y0 y1 y2 y3 y4 y5 y6 z7 z8 z10 b1
    obtain ⟨y0, y1, y2, y3, y4, y5, y6, z7, z8, z10, b1, _⟩ := HF.out _ HL8.out
    go_upto_region 9 with fail
    refine wp_region_held_drew (S := (fun W : World => W.cell? ⟨w.heap.size, 0, none⟩ = some (.int .u8 3) ∧ W.cell? ⟨w.heap.size, 1, none⟩ = some (.int .i64 (s : Int)) ∧ W.cell? ⟨w.heap.size, 2, none⟩ = some (.int .i64 pa) ∧ W.cell? ⟨w.heap.size, 3, none⟩ = some (.int .i64 pb) ∧ W.cell? ⟨w.heap.size, 4, none⟩ = some (.int .i64 pc) ∧ W.cell? ⟨w.heap.size, 5, none⟩ = some (.int .i64 pr) ∧ W.cell? ⟨w.heap.size, 6, none⟩ = some (.int .i64 pl) ∧ W.cell? ⟨R, o + 7, none⟩ = some (.int .u32 h) ∧ W.cell? ⟨R, o + 8, none⟩ = some (.slice (some ⟨g1, 0, none⟩) n1 m1) ∧ W.cell? ⟨R, o + 10, none⟩ = some (.slice (some ⟨g3, 0, none⟩) n3 m3) ∧ W.cell? ⟨B, 1, none⟩ = some (.int .i64 c) ∧ Frm (fun b => b = g1 ∨ b = g3) w2 W)) (by kernel_rfl) (HF.out _ (HL8.out.drew)) (fun hHeld => ?_)
    have rd := HR1X.out.drew
    have rs := HR3X.out.drew
    obtain ⟨w10, hwn⟩ : ∃ xq, w8.drew = xq := ⟨_, rfl⟩
    rw [hwn] at rd rs hHeld ⊢
    clear hwn
    have HRD2 := Lib.hid rd
    have HRS2 := Lib.hid rs
    have qs := row_o rs HY.out
    have zs := rs.frozen a
    clear rd rs
    refine tkz (i := 0) (d := 79) rfl rfl ?_
    simp only [Act.put, zzA, zzB, zzC]
    refine tkz (i := 1) (d := 80) rfl rfl ?_
    simp only [Act.put, zzA, zzB, zzC]
    refine tkz (i := 2) (d := 81) rfl rfl ?_
    simp only [Act.put, zzA, zzB, zzC]
    refine tkz (i := 3) (d := 82) rfl rfl ?_
    simp only [Act.put, zzA, zzB, zzC]
    refine tkz (i := 4) (d := 83) rfl rfl ?_
    simp only [Act.put, zzA, zzB, zzC]
    refine tkz (i := 5) (d := 84) rfl rfl ?_
    simp only [Act.put, zzA, zzB, zzC]
    refine tkz (i := 6) (d := 85) rfl rfl ?_
    simp only [Act.put, zzA, zzB, zzC]
    refine rdz (i := 7) rfl (fun K hK => ?_)
    go_simp
    refine (HNX.out _).mono ?_
    rintro e w9 ⟨rfl, rfl⟩
    go_wp2_with fail
    refine hK.out _ _ hHeld (fun hHeld => ?_)
    clear hK K
    try simp only [Act.put, zzA, zzB, zzC]
    refine tkz (i := 8) (d := 87) rfl rfl ?_
    simp only [Act.put, zzA, zzB, zzC]
    refine rdz (i := 9) rfl (fun K hK => ?_)
    go_simp
    refine hK.out _ _ (HF.out _ ((hHeld.2.2.2.2.2.2.2.2.2.2.2).setCell (p := ⟨g3, a, none⟩) (fun _ => .inr rfl) _)) (fun hHeld => ?_)
    clear hK K
    try simp only [Act.put, zzA, zzB, zzC]
    refine wpAnyH_done (by kernel_rfl) ?_ _
    go_wp2
    refine bodyPost_ret (v := .tuple #[]) (by simp [results, Try.results37, go_sem]) rfl ?_
    exact ⟨rfl, ⟨HRD2.out.far (p := ⟨g3, a, none⟩) N13.out _, HRS2.out.seto HY.out Z⟩, (Frm.trans (S := fun b => b = g1 ∨ b = g3) (Frm.of_below HB2.out) (hHeld.2.2.2.2.2.2.2.2.2.2.2) (fun _ _ h => h))⟩
  · go_simp
    refine hK.out _ _ hHeld (fun hHeld => ?_)
    clear hK K
    try simp only [Act.put, zzA, zzB, zzC]
    refine tkz (i := 21) (d := 75) rfl rfl ?_
    simp only [Act.put, zzA, zzB, zzC]
    refine tkz (i := 22) (d := 76) rfl rfl ?_
    simp only [Act.put, zzA, zzB, zzC]
    refine rdz (i := 11) rfl (fun K hK => ?_)
    go_simp
    refine hK.out _ _ hHeld (fun hHeld => ?_)
    clear hK K
    try simp only [Act.put, zzA, zzB, zzC]
    refine tkz (i := 23) (d := 77) rfl rfl ?_
    simp only [Act.put, zzA, zzB, zzC]
    refine tkz (i := 24) (d := 78) rfl rfl ?_
    simp only [Act.put, zzA, zzB, zzC]
    refine rdz (i := 25) rfl (fun K hK => ?_)
    go_simp
    refine hK.out _ _ (HF.out _ ((hHeld.2.2.2.2.2.2.2.2.2.2.2).setCell (p := ⟨g1, y, none⟩) (fun _ => .inl rfl) _)) (fun hHeld => ?_)
    clear hK K
    try simp only [Act.put, zzA, zzB, zzC]
    refine wpAnyH_done (by kernel_rfl) ?_ _
    clear e1 e2 e3 e4 e5
    have HL8 := Lib.hid (hHeld.2.2.2.2.2.2.2.2.2.2.2)
    have r1x := HRD.out.seti HV.out P
    have r3x := HRS.out.far (p := ⟨g1, y, none⟩) (fun e => N13.out e.symm) (.int .i64 P)
    obtain ⟨w8, hwn⟩ : ∃ xq, w7.setCell ⟨g1, y, none⟩ (.int .i64 P) = xq := ⟨_, rfl⟩
    rw [hwn] at r1x r3x HL8 hHeld ⊢
    clear hwn
    have HR1X := Lib.hid r1x
    have HR3X := Lib.hid r3x
    clear r1x r3x hHeld qa za
    clear y0 y1 y2 y3 y4 y5 y6 z7 z8 z10 b1
    obtain ⟨y0, y1, y2, y3, y4, y5, y6, z7, z8, z10, b1, _⟩ := HF.out _ HL8.out
    go_upto_region 9 with fail
    refine wp_region_held_drew (S := (fun W : World => W.cell? ⟨w.heap.size, 0, none⟩ = some (.int .u8 3) ∧ W.cell? ⟨w.heap.size, 1, none⟩ = some (.int .i64 (s : Int)) ∧ W.cell? ⟨w.heap.size, 2, none⟩ = some (.int .i64 pa) ∧ W.cell? ⟨w.heap.size, 3, none⟩ = some (.int .i64 pb) ∧ W.cell? ⟨w.heap.size, 4, none⟩ = some (.int .i64 pc) ∧ W.cell? ⟨w.heap.size, 5, none⟩ = some (.int .i64 pr) ∧ W.cell? ⟨w.heap.size, 6, none⟩ = some (.int .i64 pl) ∧ W.cell? ⟨R, o + 7, none⟩ = some (.int .u32 h) ∧ W.cell? ⟨R, o + 8, none⟩ = some (.slice (some ⟨g1, 0, none⟩) n1 m1) ∧ W.cell? ⟨R, o + 10, none⟩ = some (.slice (some ⟨g3, 0, none⟩) n3 m3) ∧ W.cell? ⟨B, 1, none⟩ = some (.int .i64 c) ∧ Frm (fun b => b = g1 ∨ b = g3) w2 W)) (by kernel_rfl) (HF.out _ (HL8.out.drew)) (fun hHeld => ?_)
    have rd := HR1X.out.drew
    have rs := HR3X.out.drew
    obtain ⟨w10, hwn⟩ : ∃ xq, w8.drew = xq := ⟨_, rfl⟩
    rw [hwn] at rd rs hHeld ⊢
    clear hwn
    have HRD2 := Lib.hid rd
    have HRS2 := Lib.hid rs
    have qs := row_o rs HY.out
    have zs := rs.frozen a
    clear rd rs
    refine tkz (i := 0) (d := 79) rfl rfl ?_
    simp only [Act.put, zzA, zzB, zzC]
    refine tkz (i := 1) (d := 80) rfl rfl ?_
    simp only [Act.put, zzA, zzB, zzC]
    refine tkz (i := 2) (d := 81) rfl rfl ?_
    simp only [Act.put, zzA, zzB, zzC]
    refine tkz (i := 3) (d := 82) rfl rfl ?_
    simp only [Act.put, zzA, zzB, zzC]
    refine tkz (i := 4) (d := 83) rfl rfl ?_
    simp only [Act.put, zzA, zzB, zzC]
    refine tkz (i := 5) (d := 84) rfl rfl ?_
    simp only [Act.put, zzA, zzB, zzC]
    refine tkz (i := 6) (d := 85) rfl rfl ?_
    simp only [Act.put, zzA, zzB, zzC]
    refine rdz (i := 7) rfl (fun K hK => ?_)
    go_simp
    refine (HNX.out _).mono ?_
    rintro e w9 ⟨rfl, rfl⟩
    go_wp2_with fail
    refine hK.out _ _ hHeld (fun hHeld => ?_)
    clear hK K
    try simp only [Act.put, zzA, zzB, zzC]
    refine tkz (i := 8) (d := 87) rfl rfl ?_
    simp only [Act.put, zzA, zzB, zzC]
    refine rdz (i := 9) rfl (fun K hK => ?_)
    go_simp
    refine hK.out _ _ (HF.out _ ((hHeld.2.2.2.2.2.2.2.2.2.2.2).setCell (p := ⟨g3, a, none⟩) (fun _ => .inr rfl) _)) (fun hHeld => ?_)
    clear hK K
    try simp only [Act.put, zzA, zzB, zzC]
    refine wpAnyH_done (by kernel_rfl) ?_ _
    go_wp2
    refine bodyPost_ret (v := .tuple #[]) (by simp [results, Try.results37, go_sem]) rfl ?_
    exact ⟨rfl, ⟨HRD2.out.far (p := ⟨g3, a, none⟩) N13.out _, HRS2.out.seto HY.out Z⟩, (Frm.trans (S := fun b => b = g1 ∨ b = g3) (Frm.of_below HB2.out) (hHeld.2.2.2.2.2.2.2.2.2.2.2) (fun _ _ h => h))⟩
end Go.Proofs.Ytnohfeaamfjimaa
