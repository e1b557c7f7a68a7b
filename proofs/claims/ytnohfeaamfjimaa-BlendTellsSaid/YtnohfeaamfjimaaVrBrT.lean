/- The reference learns: nothing, a pair: walks. -/
import Derived.Test.YtnohfeaamfjimaaVrBrS
import Derived.Test.YtnohfeaamfjimaaVrBrN
import Derived.StillTailTactics
import Derived.IntWalk
namespace Go.Proofs.Ytnohfeaamfjimaa
open Go.RowKit Go.WideShapes
set_option linter.unusedVariables false
set_option linter.unusedSimpArgs false
set_option maxRecDepth 100000 in
set_option maxHeartbeats 4000000 in
theorem learnR1 (B R o : Nat) (h c d bit q E : Int) (s a : Nat) (pa pb pc pr pl : Int) (AL : Option Addr) (nL cL : Nat) (w : World) (h0 : 0 ≤ h) (h1 : h ≤ 4294967295) (c0 : 0 ≤ c) (c1 : c ≤ 255) (s2 : s ≤ 16) (ha : placeI h c s = (a : Int)) (hbit : bit = 0 ∨ bit = 1) (hq : sqI d = q) (hE : 4095 * bit - q = E) (nR : ¬ (False)) (nB : ¬ (False)) (q0 : w.cell? ⟨R, o, none⟩ = some (.int .u8 1)) (q1 : w.cell? ⟨R, o + 1, none⟩ = some (.int .i64 (s : Int))) (q2 : w.cell? ⟨R, o + 2, none⟩ = some (.int .i64 pa)) (q3 : w.cell? ⟨R, o + 3, none⟩ = some (.int .i64 pb)) (q4 : w.cell? ⟨R, o + 4, none⟩ = some (.int .i64 pc)) (q5 : w.cell? ⟨R, o + 5, none⟩ = some (.int .i64 pr)) (q6 : w.cell? ⟨R, o + 6, none⟩ = some (.int .i64 pl)) (z7 : w.cell? ⟨R, o + 7, none⟩ = some (.int .u32 h)) (b1 : w.cell? ⟨B, 1, none⟩ = some (.int .i64 c)) :
    Calls Try.prog 37 #[.pointer (some ⟨B, 0, none⟩), .pointer (some ⟨R, o, none⟩), .slice AL nL cL, .int .i64 d, .int .i64 bit] w (LrR (fun w' => True) (fun b => False) w) := by
  have HPL := Lib.hid (show ∀ W, Calls Try.prog 54 #[.int .u32 h, .int .i64 c, .int .i64 (s : Int)] W (Sam (.int .i64 (a : Int)) W) from fun W => ha ▸ placeR h c s W h0 h1 c0 c1 s2)
  have hqb := sq_bd d
  have HSQ := Lib.hid (fun W => rsquash_any d W)
  rw [hq] at HSQ hqb
  have eb := IntWalk.i64_in (4095 * bit) (by omega)
  have ee : IntKind.i64.wrap (4095 * bit - q) = E := by rw [hE]; exact IntWalk.i64_in E (by omega)
  have hEb : -4095 ≤ E ∧ E ≤ 4095 := by omega
  clear h0 h1 c0 c1 s2 ha hq hE
  have hbz : Below w.heap.size w (w.alloc (.cells #[.int .u8 1, .int .i64 (s : Int), .int .i64 pa, .int .i64 pb, .int .i64 pc, .int .i64 pr, .int .i64 pl] 25)) := (Below.refl _ _).alloc (Nat.le_refl _) _
  have z7w := ck z7 hbz
  have b1w := ck b1 hbz
  clear z7 b1 
  go_enter Try.func37, Try.ntmps37
  go_upto_region 1 with fail
  obtain ⟨w2, hw2⟩ : ∃ xq, w.alloc (.cells #[.int .u8 1, .int .i64 (s : Int), .int .i64 pa, .int .i64 pb, .int .i64 pc, .int .i64 pr, .int .i64 pl] 25) = xq := ⟨_, rfl⟩
  have k25 : Blk w2 w.heap.size 25 #[.int .u8 1, .int .i64 (s : Int), .int .i64 pa, .int .i64 pb, .int .i64 pc, .int .i64 pr, .int .i64 pl] := hw2 ▸ Blk.new w _ _
  rw [hw2] at hbz z7w b1w ⊢
  have HB2 := Lib.hid hbz
  have y0 : w2.cell? ⟨w.heap.size, 0, none⟩ = some (.int .u8 1) := k25.cell 0
  have y1 : w2.cell? ⟨w.heap.size, 1, none⟩ = some (.int .i64 (s : Int)) := k25.cell 1
  have y2 : w2.cell? ⟨w.heap.size, 2, none⟩ = some (.int .i64 pa) := k25.cell 2
  have y3 : w2.cell? ⟨w.heap.size, 3, none⟩ = some (.int .i64 pb) := k25.cell 3
  have y4 : w2.cell? ⟨w.heap.size, 4, none⟩ = some (.int .i64 pc) := k25.cell 4
  have y5 : w2.cell? ⟨w.heap.size, 5, none⟩ = some (.int .i64 pr) := k25.cell 5
  have y6 : w2.cell? ⟨w.heap.size, 6, none⟩ = some (.int .i64 pl) := k25.cell 6
  have z7 : w2.cell? ⟨R, o + 7, none⟩ = some (.int .u32 h) := z7w
  have b1 : w2.cell? ⟨B, 1, none⟩ = some (.int .i64 c) := b1w
  have hyw : ¬ (False) := by omega
  have HF := Lib.hid (show ∀ W : World, Frm (fun b => False) w2 W → W.cell? ⟨w.heap.size, 0, none⟩ = some (.int .u8 1) ∧ W.cell? ⟨w.heap.size, 1, none⟩ = some (.int .i64 (s : Int)) ∧ W.cell? ⟨w.heap.size, 2, none⟩ = some (.int .i64 pa) ∧ W.cell? ⟨w.heap.size, 3, none⟩ = some (.int .i64 pb) ∧ W.cell? ⟨w.heap.size, 4, none⟩ = some (.int .i64 pc) ∧ W.cell? ⟨w.heap.size, 5, none⟩ = some (.int .i64 pr) ∧ W.cell? ⟨w.heap.size, 6, none⟩ = some (.int .i64 pl) ∧ W.cell? ⟨R, o + 7, none⟩ = some (.int .u32 h) ∧ W.cell? ⟨B, 1, none⟩ = some (.int .i64 c) ∧ Frm (fun b => False) w2 W from fun W hL => ⟨(hL.cell (block_lt_of_cell y0) (hyw)).trans y0, (hL.cell (block_lt_of_cell y1) (hyw)).trans y1, (hL.cell (block_lt_of_cell y2) (hyw)).trans y2, (hL.cell (block_lt_of_cell y3) (hyw)).trans y3, (hL.cell (block_lt_of_cell y4) (hyw)).trans y4, (hL.cell (block_lt_of_cell y5) (hyw)).trans y5, (hL.cell (block_lt_of_cell y6) (hyw)).trans y6, (hL.cell (block_lt_of_cell z7) (nR)).trans z7, (hL.cell (block_lt_of_cell b1) (nB)).trans b1, hL⟩)
  clear hw2 hbz k25 hyw y0 y1 y2 y3 y4 y5 y6 z7 b1 nR nB
  clear z7w b1w
  refine wp_region_held_drew (S := (fun W : World => W.cell? ⟨w.heap.size, 0, none⟩ = some (.int .u8 1) ∧ W.cell? ⟨w.heap.size, 1, none⟩ = some (.int .i64 (s : Int)) ∧ W.cell? ⟨w.heap.size, 2, none⟩ = some (.int .i64 pa) ∧ W.cell? ⟨w.heap.size, 3, none⟩ = some (.int .i64 pb) ∧ W.cell? ⟨w.heap.size, 4, none⟩ = some (.int .i64 pc) ∧ W.cell? ⟨w.heap.size, 5, none⟩ = some (.int .i64 pr) ∧ W.cell? ⟨w.heap.size, 6, none⟩ = some (.int .i64 pl) ∧ W.cell? ⟨R, o + 7, none⟩ = some (.int .u32 h) ∧ W.cell? ⟨B, 1, none⟩ = some (.int .i64 c) ∧ Frm (fun b => False) w2 W)) (by kernel_rfl) (HF.out _ ((Frm.refl _ w2).drew)) (fun hHeld => ?_)
  refine tkz (i := 0) (d := 21) rfl rfl ?_
  simp only [Act.put, zzA, zzB, zzC]
  refine tkz (i := 1) (d := 22) rfl rfl ?_
  simp only [Act.put, zzA, zzB, zzC]
  refine tkz (i := 2) (d := 23) rfl rfl ?_
  simp only [Act.put, zzA, zzB, zzC]
  refine tkz (i := 3) (d := 24) rfl rfl ?_
  simp only [Act.put, zzA, zzB, zzC]
  refine tkz (i := 4) (d := 25) rfl rfl ?_
  simp only [Act.put, zzA, zzB, zzC]
  refine tkz (i := 5) (d := 26) rfl rfl ?_
  simp only [Act.put, zzA, zzB, zzC]
  refine tkz (i := 6) (d := 27) rfl rfl ?_
  simp only [Act.put, zzA, zzB, zzC]
  refine tkz (i := 7) (d := 28) rfl rfl ?_
  simp only [Act.put, zzA, zzB, zzC]
  refine tkz (i := 8) (d := 29) rfl rfl ?_
  simp only [Act.put, zzA, zzB, zzC]
  refine tkz (i := 9) (d := 30) rfl rfl ?_
  simp only [Act.put, zzA, zzB, zzC]
  refine rdz (i := 10) rfl (fun K hK => ?_)
  go_simp
  refine (HPL.out _).mono ?_
  rintro e w3 ⟨rfl, rfl⟩
  go_wp2_with fail
  refine hK.out _ _ hHeld (fun hHeld => ?_)
  clear hK K
  try simp only [Act.put, zzA, zzB, zzC]
  refine tkz (i := 11) (d := 11) rfl rfl ?_
  simp only [Act.put, zzA, zzB, zzC]
  refine wpAnyH_done (by kernel_rfl) ?_ _
  obtain ⟨w3, hw3⟩ : ∃ xq, w2.drew = xq := ⟨_, rfl⟩
  rw [hw3] at hHeld  ⊢
  clear hw3 HPL
  have HL3 := Lib.hid (hHeld.2.2.2.2.2.2.2.2.2)
  obtain ⟨y0, y1, y2, y3, y4, y5, y6, z7, b1, _⟩ := hHeld
  go_wp2_with fail
  refine (HSQ.out _).mono ?_
  rintro e w4 ⟨rfl, hb4⟩
  have HL4 := Lib.hid (HL3.out.below hb4)
  clear hb4 HSQ  y0 y1 y2 y3 y4 y5 y6 z7 b1
  obtain ⟨y0, y1, y2, y3, y4, y5, y6, z7, b1, _⟩ := HF.out _ HL4.out
  go_wp2
  refine bodyPost_ret (v := .tuple #[]) (by simp [results, Try.results37, go_sem]) rfl ?_
  exact ⟨rfl, trivial, (Frm.trans (S := fun b => False) (Frm.of_below HB2.out) (HL4.out) (fun _ _ h => h))⟩
set_option maxRecDepth 100000 in
set_option maxHeartbeats 4000000 in
theorem learnR4 (B R o : Nat) (h c d bit q E : Int) (s a : Nat) (pa pb pc pr pl : Int) (AL : Option Addr) (nL cL : Nat) (w : World) (h0 : 0 ≤ h) (h1 : h ≤ 4294967295) (c0 : 0 ≤ c) (c1 : c ≤ 255) (s2 : s ≤ 16) (ha : placeI h c s = (a : Int)) (hbit : bit = 0 ∨ bit = 1) (hq : sqI d = q) (hE : 4095 * bit - q = E) (nR : ¬ (False)) (nB : ¬ (False)) (q0 : w.cell? ⟨R, o, none⟩ = some (.int .u8 4)) (q1 : w.cell? ⟨R, o + 1, none⟩ = some (.int .i64 (s : Int))) (q2 : w.cell? ⟨R, o + 2, none⟩ = some (.int .i64 pa)) (q3 : w.cell? ⟨R, o + 3, none⟩ = some (.int .i64 pb)) (q4 : w.cell? ⟨R, o + 4, none⟩ = some (.int .i64 pc)) (q5 : w.cell? ⟨R, o + 5, none⟩ = some (.int .i64 pr)) (q6 : w.cell? ⟨R, o + 6, none⟩ = some (.int .i64 pl)) (z7 : w.cell? ⟨R, o + 7, none⟩ = some (.int .u32 h)) (b1 : w.cell? ⟨B, 1, none⟩ = some (.int .i64 c)) :
    Calls Try.prog 37 #[.pointer (some ⟨B, 0, none⟩), .pointer (some ⟨R, o, none⟩), .slice AL nL cL, .int .i64 d, .int .i64 bit] w (LrR (fun w' => True) (fun b => False) w) := by
  have HPL := Lib.hid (show ∀ W, Calls Try.prog 54 #[.int .u32 h, .int .i64 c, .int .i64 (s : Int)] W (Sam (.int .i64 (a : Int)) W) from fun W => ha ▸ placeR h c s W h0 h1 c0 c1 s2)
  have hqb := sq_bd d
  have HSQ := Lib.hid (fun W => rsquash_any d W)
  rw [hq] at HSQ hqb
  have eb := IntWalk.i64_in (4095 * bit) (by omega)
  have ee : IntKind.i64.wrap (4095 * bit - q) = E := by rw [hE]; exact IntWalk.i64_in E (by omega)
  have hEb : -4095 ≤ E ∧ E ≤ 4095 := by omega
  clear h0 h1 c0 c1 s2 ha hq hE
  have hbz : Below w.heap.size w (w.alloc (.cells #[.int .u8 4, .int .i64 (s : Int), .int .i64 pa, .int .i64 pb, .int .i64 pc, .int .i64 pr, .int .i64 pl] 25)) := (Below.refl _ _).alloc (Nat.le_refl _) _
  have z7w := ck z7 hbz
  have b1w := ck b1 hbz
  clear z7 b1 
  go_enter Try.func37, Try.ntmps37
  go_upto_region 1 with fail
  obtain ⟨w2, hw2⟩ : ∃ xq, w.alloc (.cells #[.int .u8 4, .int .i64 (s : Int), .int .i64 pa, .int .i64 pb, .int .i64 pc, .int .i64 pr, .int .i64 pl] 25) = xq := ⟨_, rfl⟩
  have k25 : Blk w2 w.heap.size 25 #[.int .u8 4, .int .i64 (s : Int), .int .i64 pa, .int .i64 pb, .int .i64 pc, .int .i64 pr, .int .i64 pl] := hw2 ▸ Blk.new w _ _
  rw [hw2] at hbz z7w b1w ⊢
  have HB2 := Lib.hid hbz
  have y0 : w2.cell? ⟨w.heap.size, 0, none⟩ = some (.int .u8 4) := k25.cell 0
  have y1 : w2.cell? ⟨w.heap.size, 1, none⟩ = some (.int .i64 (s : Int)) := k25.cell 1
  have y2 : w2.cell? ⟨w.heap.size, 2, none⟩ = some (.int .i64 pa) := k25.cell 2
  have y3 : w2.cell? ⟨w.heap.size, 3, none⟩ = some (.int .i64 pb) := k25.cell 3
  have y4 : w2.cell? ⟨w.heap.size, 4, none⟩ = some (.int .i64 pc) := k25.cell 4
  have y5 : w2.cell? ⟨w.heap.size, 5, none⟩ = some (.int .i64 pr) := k25.cell 5
  have y6 : w2.cell? ⟨w.heap.size, 6, none⟩ = some (.int .i64 pl) := k25.cell 6
  have z7 : w2.cell? ⟨R, o + 7, none⟩ = some (.int .u32 h) := z7w
  have b1 : w2.cell? ⟨B, 1, none⟩ = some (.int .i64 c) := b1w
  have hyw : ¬ (False) := by omega
  have HF := Lib.hid (show ∀ W : World, Frm (fun b => False) w2 W → W.cell? ⟨w.heap.size, 0, none⟩ = some (.int .u8 4) ∧ W.cell? ⟨w.heap.size, 1, none⟩ = some (.int .i64 (s : Int)) ∧ W.cell? ⟨w.heap.size, 2, none⟩ = some (.int .i64 pa) ∧ W.cell? ⟨w.heap.size, 3, none⟩ = some (.int .i64 pb) ∧ W.cell? ⟨w.heap.size, 4, none⟩ = some (.int .i64 pc) ∧ W.cell? ⟨w.heap.size, 5, none⟩ = some (.int .i64 pr) ∧ W.cell? ⟨w.heap.size, 6, none⟩ = some (.int .i64 pl) ∧ W.cell? ⟨R, o + 7, none⟩ = some (.int .u32 h) ∧ W.cell? ⟨B, 1, none⟩ = some (.int .i64 c) ∧ Frm (fun b => False) w2 W from fun W hL => ⟨(hL.cell (block_lt_of_cell y0) (hyw)).trans y0, (hL.cell (block_lt_of_cell y1) (hyw)).trans y1, (hL.cell (block_lt_of_cell y2) (hyw)).trans y2, (hL.cell (block_lt_of_cell y3) (hyw)).trans y3, (hL.cell (block_lt_of_cell y4) (hyw)).trans y4, (hL.cell (block_lt_of_cell y5) (hyw)).trans y5, (hL.cell (block_lt_of_cell y6) (hyw)).trans y6, (hL.cell (block_lt_of_cell z7) (nR)).trans z7, (hL.cell (block_lt_of_cell b1) (nB)).trans b1, hL⟩)
  clear hw2 hbz k25 hyw y0 y1 y2 y3 y4 y5 y6 z7 b1 nR nB
  clear z7w b1w
  refine wp_region_held_drew (S := (fun W : World => W.cell? ⟨w.heap.size, 0, none⟩ = some (.int .u8 4) ∧ W.cell? ⟨w.heap.size, 1, none⟩ = some (.int .i64 (s : Int)) ∧ W.cell? ⟨w.heap.size, 2, none⟩ = some (.int .i64 pa) ∧ W.cell? ⟨w.heap.size, 3, none⟩ = some (.int .i64 pb) ∧ W.cell? ⟨w.heap.size, 4, none⟩ = some (.int .i64 pc) ∧ W.cell? ⟨w.heap.size, 5, none⟩ = some (.int .i64 pr) ∧ W.cell? ⟨w.heap.size, 6, none⟩ = some (.int .i64 pl) ∧ W.cell? ⟨R, o + 7, none⟩ = some (.int .u32 h) ∧ W.cell? ⟨B, 1, none⟩ = some (.int .i64 c) ∧ Frm (fun b => False) w2 W)) (by kernel_rfl) (HF.out _ ((Frm.refl _ w2).drew)) (fun hHeld => ?_)
  refine tkz (i := 0) (d := 21) rfl rfl ?_
  simp only [Act.put, zzA, zzB, zzC]
  refine tkz (i := 1) (d := 22) rfl rfl ?_
  simp only [Act.put, zzA, zzB, zzC]
  refine tkz (i := 2) (d := 23) rfl rfl ?_
  simp only [Act.put, zzA, zzB, zzC]
  refine tkz (i := 3) (d := 24) rfl rfl ?_
  simp only [Act.put, zzA, zzB, zzC]
  refine tkz (i := 4) (d := 25) rfl rfl ?_
  simp only [Act.put, zzA, zzB, zzC]
  refine tkz (i := 5) (d := 26) rfl rfl ?_
  simp only [Act.put, zzA, zzB, zzC]
  refine tkz (i := 6) (d := 27) rfl rfl ?_
  simp only [Act.put, zzA, zzB, zzC]
  refine tkz (i := 7) (d := 28) rfl rfl ?_
  simp only [Act.put, zzA, zzB, zzC]
  refine tkz (i := 8) (d := 29) rfl rfl ?_
  simp only [Act.put, zzA, zzB, zzC]
  refine tkz (i := 9) (d := 30) rfl rfl ?_
  simp only [Act.put, zzA, zzB, zzC]
  refine rdz (i := 10) rfl (fun K hK => ?_)
  go_simp
  refine (HPL.out _).mono ?_
  rintro e w3 ⟨rfl, rfl⟩
  go_wp2_with fail
  refine hK.out _ _ hHeld (fun hHeld => ?_)
  clear hK K
  try simp only [Act.put, zzA, zzB, zzC]
  refine tkz (i := 11) (d := 11) rfl rfl ?_
  simp only [Act.put, zzA, zzB, zzC]
  refine wpAnyH_done (by kernel_rfl) ?_ _
  obtain ⟨w3, hw3⟩ : ∃ xq, w2.drew = xq := ⟨_, rfl⟩
  rw [hw3] at hHeld  ⊢
  clear hw3 HPL
  have HL3 := Lib.hid (hHeld.2.2.2.2.2.2.2.2.2)
  obtain ⟨y0, y1, y2, y3, y4, y5, y6, z7, b1, _⟩ := hHeld
  go_wp2_with fail
  refine (HSQ.out _).mono ?_
  rintro e w4 ⟨rfl, hb4⟩
  have HL4 := Lib.hid (HL3.out.below hb4)
  clear hb4 HSQ  y0 y1 y2 y3 y4 y5 y6 z7 b1
  obtain ⟨y0, y1, y2, y3, y4, y5, y6, z7, b1, _⟩ := HF.out _ HL4.out
  go_wp2
  refine bodyPost_ret (v := .tuple #[]) (by simp [results, Try.results37, go_sem]) rfl ?_
  exact ⟨rfl, trivial, (Frm.trans (S := fun b => False) (Frm.of_below HB2.out) (HL4.out) (fun _ _ h => h))⟩
set_option maxRecDepth 100000 in
set_option maxHeartbeats 4000000 in
theorem learnR5 (B R o : Nat) (h c d bit q E : Int) (s a : Nat) (pa pb pc pr pl : Int) (AL : Option Addr) (nL cL : Nat) (w : World) (h0 : 0 ≤ h) (h1 : h ≤ 4294967295) (c0 : 0 ≤ c) (c1 : c ≤ 255) (s2 : s ≤ 16) (ha : placeI h c s = (a : Int)) (hbit : bit = 0 ∨ bit = 1) (hq : sqI d = q) (hE : 4095 * bit - q = E) (nR : ¬ (False)) (nB : ¬ (False)) (q0 : w.cell? ⟨R, o, none⟩ = some (.int .u8 5)) (q1 : w.cell? ⟨R, o + 1, none⟩ = some (.int .i64 (s : Int))) (q2 : w.cell? ⟨R, o + 2, none⟩ = some (.int .i64 pa)) (q3 : w.cell? ⟨R, o + 3, none⟩ = some (.int .i64 pb)) (q4 : w.cell? ⟨R, o + 4, none⟩ = some (.int .i64 pc)) (q5 : w.cell? ⟨R, o + 5, none⟩ = some (.int .i64 pr)) (q6 : w.cell? ⟨R, o + 6, none⟩ = some (.int .i64 pl)) (z7 : w.cell? ⟨R, o + 7, none⟩ = some (.int .u32 h)) (b1 : w.cell? ⟨B, 1, none⟩ = some (.int .i64 c)) :
    Calls Try.prog 37 #[.pointer (some ⟨B, 0, none⟩), .pointer (some ⟨R, o, none⟩), .slice AL nL cL, .int .i64 d, .int .i64 bit] w (LrR (fun w' => True) (fun b => False) w) := by
  have HPL := Lib.hid (show ∀ W, Calls Try.prog 54 #[.int .u32 h, .int .i64 c, .int .i64 (s : Int)] W (Sam (.int .i64 (a : Int)) W) from fun W => ha ▸ placeR h c s W h0 h1 c0 c1 s2)
  have hqb := sq_bd d
  have HSQ := Lib.hid (fun W => rsquash_any d W)
  rw [hq] at HSQ hqb
  have eb := IntWalk.i64_in (4095 * bit) (by omega)
  have ee : IntKind.i64.wrap (4095 * bit - q) = E := by rw [hE]; exact IntWalk.i64_in E (by omega)
  have hEb : -4095 ≤ E ∧ E ≤ 4095 := by omega
  clear h0 h1 c0 c1 s2 ha hq hE
  have hbz : Below w.heap.size w (w.alloc (.cells #[.int .u8 5, .int .i64 (s : Int), .int .i64 pa, .int .i64 pb, .int .i64 pc, .int .i64 pr, .int .i64 pl] 25)) := (Below.refl _ _).alloc (Nat.le_refl _) _
  have z7w := ck z7 hbz
  have b1w := ck b1 hbz
  clear z7 b1 
  go_enter Try.func37, Try.ntmps37
  go_upto_region 1 with fail
  obtain ⟨w2, hw2⟩ : ∃ xq, w.alloc (.cells #[.int .u8 5, .int .i64 (s : Int), .int .i64 pa, .int .i64 pb, .int .i64 pc, .int .i64 pr, .int .i64 pl] 25) = xq := ⟨_, rfl⟩
  have k25 : Blk w2 w.heap.size 25 #[.int .u8 5, .int .i64 (s : Int), .int .i64 pa, .int .i64 pb, .int .i64 pc, .int .i64 pr, .int .i64 pl] := hw2 ▸ Blk.new w _ _
  rw [hw2] at hbz z7w b1w ⊢
  have HB2 := Lib.hid hbz
  have y0 : w2.cell? ⟨w.heap.size, 0, none⟩ = some (.int .u8 5) := k25.cell 0
  have y1 : w2.cell? ⟨w.heap.size, 1, none⟩ = some (.int .i64 (s : Int)) := k25.cell 1
  have y2 : w2.cell? ⟨w.heap.size, 2, none⟩ = some (.int .i64 pa) := k25.cell 2
  have y3 : w2.cell? ⟨w.heap.size, 3, none⟩ = some (.int .i64 pb) := k25.cell 3
  have y4 : w2.cell? ⟨w.heap.size, 4, none⟩ = some (.int .i64 pc) := k25.cell 4
  have y5 : w2.cell? ⟨w.heap.size, 5, none⟩ = some (.int .i64 pr) := k25.cell 5
  have y6 : w2.cell? ⟨w.heap.size, 6, none⟩ = some (.int .i64 pl) := k25.cell 6
  have z7 : w2.cell? ⟨R, o + 7, none⟩ = some (.int .u32 h) := z7w
  have b1 : w2.cell? ⟨B, 1, none⟩ = some (.int .i64 c) := b1w
  have hyw : ¬ (False) := by omega
  have HF := Lib.hid (show ∀ W : World, Frm (fun b => False) w2 W → W.cell? ⟨w.heap.size, 0, none⟩ = some (.int .u8 5) ∧ W.cell? ⟨w.heap.size, 1, none⟩ = some (.int .i64 (s : Int)) ∧ W.cell? ⟨w.heap.size, 2, none⟩ = some (.int .i64 pa) ∧ W.cell? ⟨w.heap.size, 3, none⟩ = some (.int .i64 pb) ∧ W.cell? ⟨w.heap.size, 4, none⟩ = some (.int .i64 pc) ∧ W.cell? ⟨w.heap.size, 5, none⟩ = some (.int .i64 pr) ∧ W.cell? ⟨w.heap.size, 6, none⟩ = some (.int .i64 pl) ∧ W.cell? ⟨R, o + 7, none⟩ = some (.int .u32 h) ∧ W.cell? ⟨B, 1, none⟩ = some (.int .i64 c) ∧ Frm (fun b => False) w2 W from fun W hL => ⟨(hL.cell (block_lt_of_cell y0) (hyw)).trans y0, (hL.cell (block_lt_of_cell y1) (hyw)).trans y1, (hL.cell (block_lt_of_cell y2) (hyw)).trans y2, (hL.cell (block_lt_of_cell y3) (hyw)).trans y3, (hL.cell (block_lt_of_cell y4) (hyw)).trans y4, (hL.cell (block_lt_of_cell y5) (hyw)).trans y5, (hL.cell (block_lt_of_cell y6) (hyw)).trans y6, (hL.cell (block_lt_of_cell z7) (nR)).trans z7, (hL.cell (block_lt_of_cell b1) (nB)).trans b1, hL⟩)
  clear hw2 hbz k25 hyw y0 y1 y2 y3 y4 y5 y6 z7 b1 nR nB
  clear z7w b1w
  refine wp_region_held_drew (S := (fun W : World => W.cell? ⟨w.heap.size, 0, none⟩ = some (.int .u8 5) ∧ W.cell? ⟨w.heap.size, 1, none⟩ = some (.int .i64 (s : Int)) ∧ W.cell? ⟨w.heap.size, 2, none⟩ = some (.int .i64 pa) ∧ W.cell? ⟨w.heap.size, 3, none⟩ = some (.int .i64 pb) ∧ W.cell? ⟨w.heap.size, 4, none⟩ = some (.int .i64 pc) ∧ W.cell? ⟨w.heap.size, 5, none⟩ = some (.int .i64 pr) ∧ W.cell? ⟨w.heap.size, 6, none⟩ = some (.int .i64 pl) ∧ W.cell? ⟨R, o + 7, none⟩ = some (.int .u32 h) ∧ W.cell? ⟨B, 1, none⟩ = some (.int .i64 c) ∧ Frm (fun b => False) w2 W)) (by kernel_rfl) (HF.out _ ((Frm.refl _ w2).drew)) (fun hHeld => ?_)
  refine tkz (i := 0) (d := 21) rfl rfl ?_
  simp only [Act.put, zzA, zzB, zzC]
  refine tkz (i := 1) (d := 22) rfl rfl ?_
  simp only [Act.put, zzA, zzB, zzC]
  refine tkz (i := 2) (d := 23) rfl rfl ?_
  simp only [Act.put, zzA, zzB, zzC]
  refine tkz (i := 3) (d := 24) rfl rfl ?_
  simp only [Act.put, zzA, zzB, zzC]
  refine tkz (i := 4) (d := 25) rfl rfl ?_
  simp only [Act.put, zzA, zzB, zzC]
  refine tkz (i := 5) (d := 26) rfl rfl ?_
  simp only [Act.put, zzA, zzB, zzC]
  refine tkz (i := 6) (d := 27) rfl rfl ?_
  simp only [Act.put, zzA, zzB, zzC]
  refine tkz (i := 7) (d := 28) rfl rfl ?_
  simp only [Act.put, zzA, zzB, zzC]
  refine tkz (i := 8) (d := 29) rfl rfl ?_
  simp only [Act.put, zzA, zzB, zzC]
  refine tkz (i := 9) (d := 30) rfl rfl ?_
  simp only [Act.put, zzA, zzB, zzC]
  refine rdz (i := 10) rfl (fun K hK => ?_)
  go_simp
  refine (HPL.out _).mono ?_
  rintro e w3 ⟨rfl, rfl⟩
  go_wp2_with fail
  refine hK.out _ _ hHeld (fun hHeld => ?_)
  clear hK K
  try simp only [Act.put, zzA, zzB, zzC]
  refine tkz (i := 11) (d := 11) rfl rfl ?_
  simp only [Act.put, zzA, zzB, zzC]
  refine wpAnyH_done (by kernel_rfl) ?_ _
  obtain ⟨w3, hw3⟩ : ∃ xq, w2.drew = xq := ⟨_, rfl⟩
  rw [hw3] at hHeld  ⊢
  clear hw3 HPL
  have HL3 := Lib.hid (hHeld.2.2.2.2.2.2.2.2.2)
  obtain ⟨y0, y1, y2, y3, y4, y5, y6, z7, b1, _⟩ := hHeld
  go_wp2_with fail
  refine (HSQ.out _).mono ?_
  rintro e w4 ⟨rfl, hb4⟩
  have HL4 := Lib.hid (HL3.out.below hb4)
  clear hb4 HSQ  y0 y1 y2 y3 y4 y5 y6 z7 b1
  obtain ⟨y0, y1, y2, y3, y4, y5, y6, z7, b1, _⟩ := HF.out _ HL4.out
  go_wp2
  refine bodyPost_ret (v := .tuple #[]) (by simp [results, Try.results37, go_sem]) rfl ?_
  exact ⟨rfl, trivial, (Frm.trans (S := fun b => False) (Frm.of_below HB2.out) (HL4.out) (fun _ _ h => h))⟩
set_option maxRecDepth 100000 in
set_option maxHeartbeats 4000000 in
theorem learnR6 (B R o : Nat) (h c d bit q E : Int) (s a : Nat) (pc pr pl : Int) (pa pb : Nat) (g4 n4 m4 : Nat) (x y v : Int) (X : List Int) (gL nL cL : Nat) (w : World) (h0 : 0 ≤ h) (h1 : h ≤ 4294967295) (c0 : 0 ≤ c) (c1 : c ≤ 255) (s2 : s ≤ 16) (ha : placeI h c s = (a : Int)) (hbit : bit = 0 ∨ bit = 1) (hq : sqI d = q) (hE : 4095 * bit - q = E) (hpa : pa < nL) (hpb : pb < nL) (x0 : -2047 ≤ x) (x1 : x ≤ 2047) (y0 : -2047 ≤ y) (y1 : y ≤ 2047) (r0' : 1 ≤ pr) (r1' : pr ≤ 64) (v0 : 0 ≤ v) (v1 : v ≤ 65535) (ha4 : a < n4) (hv : X[a]? = some v) (nLg : ¬ gL = g4) (nR : ¬ (R = g4)) (nB : ¬ (B = g4)) (r4 : Row w g4 3 (ints X)) (q0 : w.cell? ⟨R, o, none⟩ = some (.int .u8 6)) (q1 : w.cell? ⟨R, o + 1, none⟩ = some (.int .i64 (s : Int))) (q2 : w.cell? ⟨R, o + 2, none⟩ = some (.int .i64 (pa : Int))) (q3 : w.cell? ⟨R, o + 3, none⟩ = some (.int .i64 (pb : Int))) (q4 : w.cell? ⟨R, o + 4, none⟩ = some (.int .i64 pc)) (q5 : w.cell? ⟨R, o + 5, none⟩ = some (.int .i64 pr)) (q6 : w.cell? ⟨R, o + 6, none⟩ = some (.int .i64 pl)) (z7 : w.cell? ⟨R, o + 7, none⟩ = some (.int .u32 h)) (z11 : w.cell? ⟨R, o + 11, none⟩ = some (.slice (some ⟨g4, 0, none⟩) n4 m4)) (b1 : w.cell? ⟨B, 1, none⟩ = some (.int .i64 c)) (l0 : w.cell? ⟨gL, pa, none⟩ = some (.int .i64 x)) (l1 : w.cell? ⟨gL, pb, none⟩ = some (.int .i64 y)) :
    Calls Try.prog 37 #[.pointer (some ⟨B, 0, none⟩), .pointer (some ⟨R, o, none⟩), .slice (some ⟨gL, 0, none⟩) nL cL, .int .i64 d, .int .i64 bit] w (LrR (fun w' => Row w' g4 3 (ints (X.set a (paL v E pr x y)))) (fun b => b = g4) w) := by
  have HV := Lib.hid hv
  have g1 : -(4095 * 64) ≤ E * pr ∧ E * pr ≤ 4095 * 64 := by
    have hqb := sq_bd d
    exact mulB (by omega) (by omega) (by omega) r1'
  have g2x : -4094 ≤ x - y ∧ x - y ≤ 4094 := by omega
  have g3 := mulB (a := E * pr) (b := x - y) (A := 262080) (B := 4094) (by omega) (by omega) (by omega) (by omega)
  have e1 := IntWalk.i64_in (E * pr) (by omega)
  have e2 := IntWalk.i64_in (x - y) (by omega)
  have e3 := IntWalk.i64_in (E * pr * (x - y)) (by omega)
  have e4 := IntWalk.i64_in (E * pr * (x - y) + 512) (by omega)
  have HDN := Lib.hid (fun W => downR (E * pr * (x - y) + 512) 1024 W (by omega) (by omega) (by omega))
  have e5 := IntWalk.i64_in (v + (E * pr * (x - y) + 512) / 1024) (by omega)
  have HIN := Lib.hid (fun W => intoR (v + (E * pr * (x - y) + 512) / 1024) 0 65535 W (by omega))
  have hP : intoI (v + (E * pr * (x - y) + 512) / 1024) 0 65535 = paL v E pr x y := rfl
  obtain ⟨P, hP2⟩ : ∃ P, paL v E pr x y = P := ⟨_, rfl⟩
  obtain ⟨D, hD⟩ : ∃ D, (E * pr * (x - y) + 512) / 1024 = D := ⟨_, rfl⟩
  rw [hP2] at hP
  rw [hP, hD] at HIN
  rw [hD] at HDN e5
  rw [hP2]
  have E1 := Lib.hid e1
  have E2 := Lib.hid e2
  have E3 := Lib.hid e3
  have E4 := Lib.hid e4
  have E5 := Lib.hid e5
  have hpa : (pa : Int) < nL := by omega
  have hpb : (pb : Int) < nL := by omega
  clear g1 g2x g3 e1 e2 e3 e4 e5 x0 x1 y0 y1 hv hP hP2 hD r0' r1' v0 v1
  have HPL := Lib.hid (show ∀ W, Calls Try.prog 54 #[.int .u32 h, .int .i64 c, .int .i64 (s : Int)] W (Sam (.int .i64 (a : Int)) W) from fun W => ha ▸ placeR h c s W h0 h1 c0 c1 s2)
  have hqb := sq_bd d
  have HSQ := Lib.hid (fun W => rsquash_any d W)
  rw [hq] at HSQ hqb
  have eb := IntWalk.i64_in (4095 * bit) (by omega)
  have ee : IntKind.i64.wrap (4095 * bit - q) = E := by rw [hE]; exact IntWalk.i64_in E (by omega)
  have hEb : -4095 ≤ E ∧ E ≤ 4095 := by omega
  clear h0 h1 c0 c1 s2 ha hq hE
  have hbz : Below w.heap.size w (w.alloc (.cells #[.int .u8 6, .int .i64 (s : Int), .int .i64 (pa : Int), .int .i64 (pb : Int), .int .i64 pc, .int .i64 pr, .int .i64 pl] 25)) := (Below.refl _ _).alloc (Nat.le_refl _) _
  have z7w := ck z7 hbz
  have z11w := ck z11 hbz
  have b1w := ck b1 hbz
  have l0w := ck l0 hbz
  have l1w := ck l1 hbz
  have hlt4 := r4.lt
  have rr4 := r4.below hbz
  clear z7 z11 b1 l0 l1 r4
  go_enter Try.func37, Try.ntmps37
  go_upto_region 1 with fail
  obtain ⟨w2, hw2⟩ : ∃ xq, w.alloc (.cells #[.int .u8 6, .int .i64 (s : Int), .int .i64 (pa : Int), .int .i64 (pb : Int), .int .i64 pc, .int .i64 pr, .int .i64 pl] 25) = xq := ⟨_, rfl⟩
  have k25 : Blk w2 w.heap.size 25 #[.int .u8 6, .int .i64 (s : Int), .int .i64 (pa : Int), .int .i64 (pb : Int), .int .i64 pc, .int .i64 pr, .int .i64 pl] := hw2 ▸ Blk.new w _ _
  rw [hw2] at hbz z7w z11w b1w l0w l1w rr4 ⊢
  have HB2 := Lib.hid hbz
  have y0 : w2.cell? ⟨w.heap.size, 0, none⟩ = some (.int .u8 6) := k25.cell 0
  have y1 : w2.cell? ⟨w.heap.size, 1, none⟩ = some (.int .i64 (s : Int)) := k25.cell 1
  have y2 : w2.cell? ⟨w.heap.size, 2, none⟩ = some (.int .i64 (pa : Int)) := k25.cell 2
  have y3 : w2.cell? ⟨w.heap.size, 3, none⟩ = some (.int .i64 (pb : Int)) := k25.cell 3
  have y4 : w2.cell? ⟨w.heap.size, 4, none⟩ = some (.int .i64 pc) := k25.cell 4
  have y5 : w2.cell? ⟨w.heap.size, 5, none⟩ = some (.int .i64 pr) := k25.cell 5
  have y6 : w2.cell? ⟨w.heap.size, 6, none⟩ = some (.int .i64 pl) := k25.cell 6
  have z7 : w2.cell? ⟨R, o + 7, none⟩ = some (.int .u32 h) := z7w
  have z11 : w2.cell? ⟨R, o + 11, none⟩ = some (.slice (some ⟨g4, 0, none⟩) n4 m4) := z11w
  have b1 : w2.cell? ⟨B, 1, none⟩ = some (.int .i64 c) := b1w
  have l0 : w2.cell? ⟨gL, pa, none⟩ = some (.int .i64 x) := l0w
  have l1 : w2.cell? ⟨gL, pb, none⟩ = some (.int .i64 y) := l1w
  have hyw : ¬ (w.heap.size = g4) := by omega
  have HF := Lib.hid (show ∀ W : World, Frm (fun b => b = g4) w2 W → W.cell? ⟨w.heap.size, 0, none⟩ = some (.int .u8 6) ∧ W.cell? ⟨w.heap.size, 1, none⟩ = some (.int .i64 (s : Int)) ∧ W.cell? ⟨w.heap.size, 2, none⟩ = some (.int .i64 (pa : Int)) ∧ W.cell? ⟨w.heap.size, 3, none⟩ = some (.int .i64 (pb : Int)) ∧ W.cell? ⟨w.heap.size, 4, none⟩ = some (.int .i64 pc) ∧ W.cell? ⟨w.heap.size, 5, none⟩ = some (.int .i64 pr) ∧ W.cell? ⟨w.heap.size, 6, none⟩ = some (.int .i64 pl) ∧ W.cell? ⟨R, o + 7, none⟩ = some (.int .u32 h) ∧ W.cell? ⟨R, o + 11, none⟩ = some (.slice (some ⟨g4, 0, none⟩) n4 m4) ∧ W.cell? ⟨B, 1, none⟩ = some (.int .i64 c) ∧ W.cell? ⟨gL, pa, none⟩ = some (.int .i64 x) ∧ W.cell? ⟨gL, pb, none⟩ = some (.int .i64 y) ∧ Frm (fun b => b = g4) w2 W from fun W hL => ⟨(hL.cell (block_lt_of_cell y0) (hyw)).trans y0, (hL.cell (block_lt_of_cell y1) (hyw)).trans y1, (hL.cell (block_lt_of_cell y2) (hyw)).trans y2, (hL.cell (block_lt_of_cell y3) (hyw)).trans y3, (hL.cell (block_lt_of_cell y4) (hyw)).trans y4, (hL.cell (block_lt_of_cell y5) (hyw)).trans y5, (hL.cell (block_lt_of_cell y6) (hyw)).trans y6, (hL.cell (block_lt_of_cell z7) (nR)).trans z7, (hL.cell (block_lt_of_cell z11) (nR)).trans z11, (hL.cell (block_lt_of_cell b1) (nB)).trans b1, (hL.cell (block_lt_of_cell l0) (nLg)).trans l0, (hL.cell (block_lt_of_cell l1) (nLg)).trans l1, hL⟩)
  clear hw2 hbz k25 hyw y0 y1 y2 y3 y4 y5 y6 z7 z11 b1 l0 l1 nR nB
  clear z7w z11w b1w l0w l1w
  refine wp_region_held_drew (S := (fun W : World => W.cell? ⟨w.heap.size, 0, none⟩ = some (.int .u8 6) ∧ W.cell? ⟨w.heap.size, 1, none⟩ = some (.int .i64 (s : Int)) ∧ W.cell? ⟨w.heap.size, 2, none⟩ = some (.int .i64 (pa : Int)) ∧ W.cell? ⟨w.heap.size, 3, none⟩ = some (.int .i64 (pb : Int)) ∧ W.cell? ⟨w.heap.size, 4, none⟩ = some (.int .i64 pc) ∧ W.cell? ⟨w.heap.size, 5, none⟩ = some (.int .i64 pr) ∧ W.cell? ⟨w.heap.size, 6, none⟩ = some (.int .i64 pl) ∧ W.cell? ⟨R, o + 7, none⟩ = some (.int .u32 h) ∧ W.cell? ⟨R, o + 11, none⟩ = some (.slice (some ⟨g4, 0, none⟩) n4 m4) ∧ W.cell? ⟨B, 1, none⟩ = some (.int .i64 c) ∧ W.cell? ⟨gL, pa, none⟩ = some (.int .i64 x) ∧ W.cell? ⟨gL, pb, none⟩ = some (.int .i64 y) ∧ Frm (fun b => b = g4) w2 W)) (by kernel_rfl) (HF.out _ ((Frm.refl _ w2).drew)) (fun hHeld => ?_)
  refine tkz (i := 0) (d := 21) rfl rfl ?_
  simp only [Act.put, zzA, zzB, zzC]
  refine tkz (i := 1) (d := 22) rfl rfl ?_
  simp only [Act.put, zzA, zzB, zzC]
  refine tkz (i := 2) (d := 23) rfl rfl ?_
  simp only [Act.put, zzA, zzB, zzC]
  refine tkz (i := 3) (d := 24) rfl rfl ?_
  simp only [Act.put, zzA, zzB, zzC]
  refine tkz (i := 4) (d := 25) rfl rfl ?_
  simp only [Act.put, zzA, zzB, zzC]
  refine tkz (i := 5) (d := 26) rfl rfl ?_
  simp only [Act.put, zzA, zzB, zzC]
  refine tkz (i := 6) (d := 27) rfl rfl ?_
  simp only [Act.put, zzA, zzB, zzC]
  refine tkz (i := 7) (d := 28) rfl rfl ?_
  simp only [Act.put, zzA, zzB, zzC]
  refine tkz (i := 8) (d := 29) rfl rfl ?_
  simp only [Act.put, zzA, zzB, zzC]
  refine tkz (i := 9) (d := 30) rfl rfl ?_
  simp only [Act.put, zzA, zzB, zzC]
  refine rdz (i := 10) rfl (fun K hK => ?_)
  go_simp
  refine (HPL.out _).mono ?_
  rintro e w3 ⟨rfl, rfl⟩
  go_wp2_with fail
  refine hK.out _ _ hHeld (fun hHeld => ?_)
  clear hK K
  try simp only [Act.put, zzA, zzB, zzC]
  refine tkz (i := 11) (d := 11) rfl rfl ?_
  simp only [Act.put, zzA, zzB, zzC]
  refine wpAnyH_done (by kernel_rfl) ?_ _
  have rr4 := Row.drew rr4
  obtain ⟨w3, hw3⟩ : ∃ xq, w2.drew = xq := ⟨_, rfl⟩
  rw [hw3] at hHeld rr4 ⊢
  clear hw3 HPL
  have HL3 := Lib.hid (hHeld.2.2.2.2.2.2.2.2.2.2.2.2)
  obtain ⟨y0, y1, y2, y3, y4, y5, y6, z7, z11, b1, l0, l1, _⟩ := hHeld
  go_wp2_with fail
  refine (HSQ.out _).mono ?_
  rintro e w4 ⟨rfl, hb4⟩
  have HL4 := Lib.hid (HL3.out.below hb4)
  have HR4 := Lib.hid (rr4.below hb4)
  clear hb4 HSQ rr4 y0 y1 y2 y3 y4 y5 y6 z7 z11 b1 l0 l1
  obtain ⟨y0, y1, y2, y3, y4, y5, y6, z7, z11, b1, l0, l1, _⟩ := HF.out _ HL4.out
  go_upto_region 11 with fail
  have e1 := E1.out
  have e2 := E2.out
  have e3 := E3.out
  have e4 := E4.out
  have e5 := E5.out
  refine wp_region_held_drew (S := (fun W : World => W.cell? ⟨w.heap.size, 0, none⟩ = some (.int .u8 6) ∧ W.cell? ⟨w.heap.size, 1, none⟩ = some (.int .i64 (s : Int)) ∧ W.cell? ⟨w.heap.size, 2, none⟩ = some (.int .i64 (pa : Int)) ∧ W.cell? ⟨w.heap.size, 3, none⟩ = some (.int .i64 (pb : Int)) ∧ W.cell? ⟨w.heap.size, 4, none⟩ = some (.int .i64 pc) ∧ W.cell? ⟨w.heap.size, 5, none⟩ = some (.int .i64 pr) ∧ W.cell? ⟨w.heap.size, 6, none⟩ = some (.int .i64 pl) ∧ W.cell? ⟨R, o + 7, none⟩ = some (.int .u32 h) ∧ W.cell? ⟨R, o + 11, none⟩ = some (.slice (some ⟨g4, 0, none⟩) n4 m4) ∧ W.cell? ⟨B, 1, none⟩ = some (.int .i64 c) ∧ W.cell? ⟨gL, pa, none⟩ = some (.int .i64 x) ∧ W.cell? ⟨gL, pb, none⟩ = some (.int .i64 y) ∧ Frm (fun b => b = g4) w2 W)) (by kernel_rfl) (HF.out _ (HL4.out.drew)) (fun hHeld => ?_)
  have rd := HR4.out.drew
  obtain ⟨w7, hwn⟩ : ∃ xq, w4.drew = xq := ⟨_, rfl⟩
  rw [hwn] at rd hHeld ⊢
  clear hwn
  have HRD := Lib.hid rd
  have qa := row_i rd HV.out
  have za := rd.frozen a
  clear rd
  refine tkz (i := 0) (d := 90) rfl rfl ?_
  simp only [Act.put, zzA, zzB, zzC]
  refine tkz (i := 1) (d := 91) rfl rfl ?_
  simp only [Act.put, zzA, zzB, zzC]
  refine tkz (i := 2) (d := 92) rfl rfl ?_
  simp only [Act.put, zzA, zzB, zzC]
  refine tkz (i := 3) (d := 93) rfl rfl ?_
  simp only [Act.put, zzA, zzB, zzC]
  refine tkz (i := 4) (d := 94) rfl rfl ?_
  simp only [Act.put, zzA, zzB, zzC]
  refine tkz (i := 5) (d := 95) rfl rfl ?_
  simp only [Act.put, zzA, zzB, zzC]
  refine tkz (i := 6) (d := 96) rfl rfl ?_
  simp only [Act.put, zzA, zzB, zzC]
  refine tkz (i := 7) (d := 97) rfl rfl ?_
  simp only [Act.put, zzA, zzB, zzC]
  refine tkz (i := 8) (d := 98) rfl rfl ?_
  simp only [Act.put, zzA, zzB, zzC]
  refine tkz (i := 9) (d := 99) rfl rfl ?_
  simp only [Act.put, zzA, zzB, zzC]
  refine tkz (i := 10) (d := 100) rfl rfl ?_
  simp only [Act.put, zzA, zzB, zzC]
  refine tkz (i := 12) (d := 102) rfl rfl ?_
  simp only [Act.put, zzA, zzB, zzC]
  refine tkz (i := 13) (d := 103) rfl rfl ?_
  simp only [Act.put, zzA, zzB, zzC]
  refine tkz (i := 14) (d := 104) rfl rfl ?_
  simp only [Act.put, zzA, zzB, zzC]
  refine tkz (i := 15) (d := 105) rfl rfl ?_
  simp only [Act.put, zzA, zzB, zzC]
  refine tkz (i := 16) (d := 106) rfl rfl ?_
  simp only [Act.put, zzA, zzB, zzC]
  refine tkz (i := 17) (d := 107) rfl rfl ?_
  simp only [Act.put, zzA, zzB, zzC]
  refine tkz (i := 18) (d := 108) rfl rfl ?_
  simp only [Act.put, zzA, zzB, zzC]
  refine tkz (i := 19) (d := 109) rfl rfl ?_
  simp only [Act.put, zzA, zzB, zzC]
  refine tkz (i := 20) (d := 110) rfl rfl ?_
  simp only [Act.put, zzA, zzB, zzC]
  refine tkz (i := 21) (d := 111) rfl rfl ?_
  simp only [Act.put, zzA, zzB, zzC]
  refine tkz (i := 22) (d := 112) rfl rfl ?_
  simp only [Act.put, zzA, zzB, zzC]
  refine tkz (i := 23) (d := 113) rfl rfl ?_
  simp only [Act.put, zzA, zzB, zzC]
  refine tkz (i := 24) (d := 114) rfl rfl ?_
  simp only [Act.put, zzA, zzB, zzC]
  refine tkz (i := 25) (d := 115) rfl rfl ?_
  simp only [Act.put, zzA, zzB, zzC]
  refine tkz (i := 26) (d := 116) rfl rfl ?_
  simp only [Act.put, zzA, zzB, zzC]
  refine tkz (i := 27) (d := 117) rfl rfl ?_
  simp only [Act.put, zzA, zzB, zzC]
  refine tkz (i := 28) (d := 118) rfl rfl ?_
  simp only [Act.put, zzA, zzB, zzC]
  refine wpAnyH_ready (rs := [11, 29]) (by kernel_rfl) (by simp) ?_
  refine AllReadyH.cons (o := _) rfl (fun K hK => ?_) (AllReadyH.cons (o := _) rfl (fun K hK => ?_) AllReadyH.nil)
  · go_simp
    refine hK.out _ _ hHeld (fun hHeld => ?_)
    clear hK K
    try simp only [Act.put, zzA, zzB, zzC]
    refine rdz (i := 29) rfl (fun K hK => ?_)
    go_simp
    refine (HDN.out _).mono ?_
    rintro e w5 ⟨rfl, rfl⟩
    go_wp2_with fail
    refine hK.out _ _ hHeld (fun hHeld => ?_)
    clear hK K
    try simp only [Act.put, zzA, zzB, zzC]
    refine tkz (i := 30) (d := 120) rfl rfl ?_
    simp only [Act.put, zzA, zzB, zzC]
    refine rdz (i := 31) rfl (fun K hK => ?_)
    go_simp
    refine (HIN.out _).mono ?_
    rintro e w6 ⟨rfl, rfl⟩
    go_wp2_with fail
    refine hK.out _ _ hHeld (fun hHeld => ?_)
    clear hK K
    try simp only [Act.put, zzA, zzB, zzC]
    refine tkz (i := 32) (d := 122) rfl rfl ?_
    simp only [Act.put, zzA, zzB, zzC]
    refine rdz (i := 33) rfl (fun K hK => ?_)
    go_simp
    refine hK.out _ _ (HF.out _ ((hHeld.2.2.2.2.2.2.2.2.2.2.2.2).setCell (p := ⟨g4, a, none⟩) (fun _ => rfl) _)) (fun hHeld => ?_)
    clear hK K
    try simp only [Act.put, zzA, zzB, zzC]
    refine wpAnyH_done (by kernel_rfl) ?_ _
    clear e1 e2 e3 e4 e5
    go_wp2
    refine bodyPost_ret (v := .tuple #[]) (by simp [results, Try.results37, go_sem]) rfl ?_
    exact ⟨rfl, HRD.out.seti HV.out P, (Frm.trans (S := fun b => b = g4) (Frm.of_below HB2.out) (hHeld.2.2.2.2.2.2.2.2.2.2.2.2) (fun _ _ h => h))⟩
  · go_simp
    refine (HDN.out _).mono ?_
    rintro e w5 ⟨rfl, rfl⟩
    go_wp2_with fail
    refine hK.out _ _ hHeld (fun hHeld => ?_)
    clear hK K
    try simp only [Act.put, zzA, zzB, zzC]
    refine rdz (i := 11) rfl (fun K hK => ?_)
    go_simp
    refine hK.out _ _ hHeld (fun hHeld => ?_)
    clear hK K
    try simp only [Act.put, zzA, zzB, zzC]
    refine tkz (i := 30) (d := 120) rfl rfl ?_
    simp only [Act.put, zzA, zzB, zzC]
    refine rdz (i := 31) rfl (fun K hK => ?_)
    go_simp
    refine (HIN.out _).mono ?_
    rintro e w6 ⟨rfl, rfl⟩
    go_wp2_with fail
    refine hK.out _ _ hHeld (fun hHeld => ?_)
    clear hK K
    try simp only [Act.put, zzA, zzB, zzC]
    refine tkz (i := 32) (d := 122) rfl rfl ?_
    simp only [Act.put, zzA, zzB, zzC]
    refine rdz (i := 33) rfl (fun K hK => ?_)
    go_simp
    refine hK.out _ _ (HF.out _ ((hHeld.2.2.2.2.2.2.2.2.2.2.2.2).setCell (p := ⟨g4, a, none⟩) (fun _ => rfl) _)) (fun hHeld => ?_)
    clear hK K
    try simp only [Act.put, zzA, zzB, zzC]
    refine wpAnyH_done (by kernel_rfl) ?_ _
    clear e1 e2 e3 e4 e5
    go_wp2
    refine bodyPost_ret (v := .tuple #[]) (by simp [results, Try.results37, go_sem]) rfl ?_
    exact ⟨rfl, HRD.out.seti HV.out P, (Frm.trans (S := fun b => b = g4) (Frm.of_below HB2.out) (hHeld.2.2.2.2.2.2.2.2.2.2.2.2) (fun _ _ h => h))⟩
end Go.Proofs.Ytnohfeaamfjimaa
