/- The index: Add. -/
import Derived.Test.YtlhhkmpidnegcaaIxFd
import Derived.ArgAppend
namespace Go.Proofs.Ytlhhkmpidnegcaa
open Go.RowKit Go.WideShapes Go.Maps
set_option linter.unusedVariables false
set_option linter.unusedSimpArgs false
set_option maxRecDepth 100000
theorem under39 : ∃ fs, Try.prog.underlying 52 = some (.struct fs) := ⟨_, Try.underlying52⟩
theorem add_nil (p : Pc) (w : World) : Calls Try.prog 37 #[.pointer none, p.agg] w (Quiet (.tuple #[.int .i64 0, .bool false, .int .i64 1]) w) := by
  have hal := (Below.refl w.heap.size w).alloc (Nat.le_refl _) (.cells p.cells.toArray 52)
  have HAL := Lib.hid hal
  unfold Pc.agg
  generalize p.cells = ps at *
  clear hal
  go_enter Try.func37, Try.ntmps37
  go_wp2_with fail
  refine (none_nil _).mono ?_
  rintro e w1 ⟨rfl, rfl⟩
  go_wp2_with fail
  exact bodyPost_ret (v := .tuple #[.int .i64 0, .bool false, .int .i64 1]) (by simp [results, Try.results37, go_sem]) rfl ⟨rfl, HAL.out⟩
theorem add_unmade (g : Nat) (u : Value) (p : Pc) (w : World) (hb : Blk w g 108 #[u, .map none]) : Calls Try.prog 37 #[.pointer (some ⟨g, 0, none⟩), p.agg] w (Quiet (.tuple #[.int .i64 0, .bool false, .int .i64 1]) w) := by
  have hal := (Below.refl w.heap.size w).alloc (Nat.le_refl _) (.cells p.cells.toArray 52)
  have hno := none_unmade g u _ (hb.alloc (.cells p.cells.toArray 52))
  have HAL := Lib.hid hal
  have HNO := Lib.hid hno
  unfold Pc.agg
  generalize p.cells = ps at *
  clear hal hno hb
  go_enter Try.func37, Try.ntmps37
  go_wp2_with fail
  refine (HNO.out).mono ?_
  rintro e w1 ⟨rfl, rfl⟩
  go_wp2_with fail
  exact bodyPost_ret (v := .tuple #[.int .i64 0, .bool false, .int .i64 1]) (by simp [results, Try.results37, go_sem]) rfl ⟨rfl, HAL.out⟩
set_option maxHeartbeats 1000000 in
theorem add_wrong {B g mb n : Nat} {l : List Pc} {v : Value} (p : Pc) (w : World) (hi : Idx B w g mb n l v) (hp : p.ok) (hr : rightP p.s p.b p.a = false) :
    Calls Try.prog 37 #[.pointer (some ⟨g, 0, none⟩), p.agg] w (Quiet (.tuple #[.int .i64 0, .bool false, .int .i64 2]) w) := by
  have hal := (Below.refl w.heap.size w).alloc (Nat.le_refl _) (.cells p.cells.toArray 52)
  have hi2 := hi.below hal
  have hno := none_made g mb _ (w.alloc (.cells p.cells.toArray 52)) hi2.blk
  have hri := right_any p hp (w.alloc (.cells p.cells.toArray 52))
  have hkm : KMap (w.alloc (.cells p.cells.toArray 52)) mb n (findP l) := hi2.map
  have c0 := hi2.blk.cell 0
  have c1 := hi2.blk.cell 1
  have hrg : (w.alloc (.cells p.cells.toArray 52)).rangeAt w.heap.size 0 p.cells := fun j y hy => by
    have := (Blk.new w 52 p.cells.toArray).cell j
    rw [Nat.zero_add]
    exact this.trans (by rw [List.getElem?_toArray]; exact hy)
  have hrh : (w.alloc (.cells p.cells.toArray 52)).rangeAt w.heap.size 0 (hashV p.h) := fun j y hy => hrg j y (by
    unfold Pc.cells
    rw [List.getElem?_append_left (List.getElem?_eq_some_iff.1 hy).1]
    exact hy)
  have hsi : (Try.prog.info? 52).map (·.size) = some p.cells.length := by rw [Pc.cells_length hp]; exact size39
  have hsh : (Try.prog.info? 50).map (·.size) = some (hashV p.h).length := by rw [hashV_length, hp.h.len]; exact size37
  have hS39 : ∃ fs, Try.prog.underlying 52 = some (.struct fs) := ⟨_, Try.underlying52⟩
  unfold Pc.agg at hri ⊢
  simp at c0 c1
  rw [hr] at hri
  have HRI := Lib.hid hri
  have HNO := Lib.hid hno
  have HRG := Lib.hid hrg
  have HSI := Lib.hid hsi
  have HAL := Lib.hid hal
  clear hi2 hno hri hkm hrg hrh hsi hsh hal hi hS39
  generalize p.cells = ps at *
  go_enter Try.func37, Try.ntmps37
  go_wp2_with fail
  generalize hW : w.alloc (.cells ps.toArray 52) = W at *
  refine (HNO.out).mono ?_
  rintro e w1 ⟨rfl, rfl⟩
  clear hW
  go_wp2_with (refine wpList_load_mid rfl 52 (.tmp 3) rfl w.heap.size 0 rfl ps _ HRG.out Try.underlying52 rfl HSI.out ?_)
  refine (HRI.out).mono ?_
  rintro e w2 ⟨rfl, hb2⟩
  go_wp2_with fail
  exact bodyPost_ret (v := .tuple #[.int .i64 0, .bool false, .int .i64 2]) (by simp [results, Try.results37, go_sem]) rfl ⟨rfl, HAL.out.trans (hb2.mono HAL.out.size)⟩
set_option maxHeartbeats 1000000 in
theorem add_there {B g mb n : Nat} {l : List Pc} {v : Value} (p : Pc) (w : World) (hi : Idx B w g mb n l v) (hp : p.ok) (hr : rightP p.s p.b p.a = true) (i : Nat) (hf : findP l p.h = some i) :
    Calls Try.prog 37 #[.pointer (some ⟨g, 0, none⟩), p.agg] w (Quiet (.tuple #[.int .i64 (i : Int), .bool false, .int .i64 0]) w) := by
  have hal := (Below.refl w.heap.size w).alloc (Nat.le_refl _) (.cells p.cells.toArray 52)
  have hi2 := hi.below hal
  have hno := none_made g mb _ (w.alloc (.cells p.cells.toArray 52)) hi2.blk
  have hri := right_any p hp (w.alloc (.cells p.cells.toArray 52))
  have hkm : KMap (w.alloc (.cells p.cells.toArray 52)) mb n (findP l) := hi2.map
  have c0 := hi2.blk.cell 0
  have c1 := hi2.blk.cell 1
  have hrg : (w.alloc (.cells p.cells.toArray 52)).rangeAt w.heap.size 0 p.cells := fun j y hy => by
    have := (Blk.new w 52 p.cells.toArray).cell j
    rw [Nat.zero_add]
    exact this.trans (by rw [List.getElem?_toArray]; exact hy)
  have hrh : (w.alloc (.cells p.cells.toArray 52)).rangeAt w.heap.size 0 (hashV p.h) := fun j y hy => hrg j y (by
    unfold Pc.cells
    rw [List.getElem?_append_left (List.getElem?_eq_some_iff.1 hy).1]
    exact hy)
  have hsi : (Try.prog.info? 52).map (·.size) = some p.cells.length := by rw [Pc.cells_length hp]; exact size39
  have hsh : (Try.prog.info? 50).map (·.size) = some (hashV p.h).length := by rw [hashV_length, hp.h.len]; exact size37
  have hS39 : ∃ fs, Try.prog.underlying 52 = some (.struct fs) := ⟨_, Try.underlying52⟩
  unfold Pc.agg at hri ⊢
  simp at c0 c1
  rw [hr] at hri
  have HRI := Lib.hid hri
  have HNO := Lib.hid hno
  have HRG39 := Lib.hid hrg
  have HSI39 := Lib.hid hsi
  have HAL := Lib.hid hal
  have HKM := Lib.hid hkm
  have HRH := Lib.hid hrh
  have HSI := Lib.hid hsh
  have HBK := Lib.hid hi2.blk
  have HOW := Lib.hid hi2.own
  have HHH := Lib.hid hp.h
  clear hi2 hno hri hkm hrg hrh hsi hsh hal hS39
  generalize hps : p.cells = ps at *
  go_enter Try.func37, Try.ntmps37
  go_wp2_with fail
  generalize hW : w.alloc (.cells ps.toArray 52) = W at *
  refine (HNO.out).mono ?_
  rintro e w1 ⟨rfl, rfl⟩
  go_wp2_with (refine wpList_load_mid rfl 52 (.tmp 3) rfl w.heap.size 0 rfl ps _ HRG39.out Try.underlying52 rfl HSI39.out ?_)
  refine (HRI.out).mono ?_
  rintro e w2 ⟨rfl, hb2⟩
  have hsW : W.heap.size = w.heap.size + 1 := by rw [← hW]; simp
  have hgb : w.heap.size < W.heap.size := by omega
  have HBK2 := Lib.hid (HBK.out.below hb2)
  have HKM2 := Lib.hid (HKM.out.below hb2)
  have HOW2 := Lib.hid (HOW.out.below hb2)
  have hrg2 : w2.rangeAt w.heap.size 0 ps := fun j y hy => (hb2.cell (p := ⟨w.heap.size, 0 + j, none⟩) hgb).trans (HRG39.out j y hy)
  have hrh2 : w2.drew.rangeAt w.heap.size 0 (hashV p.h) := fun j y hy => (hb2.cell (p := ⟨w.heap.size, 0 + j, none⟩) hgb).trans (HRH.out j y hy)
  have HRG2 := Lib.hid hrg2
  have HRG := Lib.hid hrh2
  have HB2 := Lib.hid (HAL.out.trans (hb2.mono HAL.out.size))
  have hlk := (show KMap w2.drew mb n (findP l) from ⟨HKM2.out.ex⟩).look p.h HHH.out
  have d0 := HBK2.out.cell 0
  have d1 := HBK2.out.cell 1
  simp at d0 d1
  clear hb2 hW c0 c1 hrg2 hrh2 HRG39 HRH
  rw [hf] at hlk
  simp only [Option.getD_some, Option.isSome_some] at hlk
  clear hi
  generalize hashV p.h = hs at *
  go_wp2_with fail
  refine wp_region_held_drew (S := fun w' => w' = w2.drew) (by kernel_rfl) rfl (fun hHeld => ?_)
  refine wpAnyH_takeD (i := 0) (d := 17) (oi := _) (v := ?_) rfl rfl (by kernel_rfl) (by kernel_rfl) (by kernel_rfl) (fun _ _ _ h => h) (Or.inl ⟨by rfl, ?_⟩) (by assumption) ?_
  rotate_left
  · (intro w hSw; (try dsimp only at hSw); go_simp) <;> with_reducible rfl
  simp only [Act.put, List.setIfInBounds_toArray, List.set_cons_zero, List.set_cons_succ]
  refine wpAnyH_takeD (i := 1) (d := 18) (oi := _) (v := ?_) rfl rfl (by kernel_rfl) (by kernel_rfl) (by kernel_rfl) (fun _ _ _ h => h) (Or.inl ⟨by rfl, ?_⟩) (by assumption) ?_
  rotate_left
  · (intro w hSw; (try dsimp only at hSw); go_simp) <;> with_reducible rfl
  simp only [Act.put, List.setIfInBounds_toArray, List.set_cons_zero, List.set_cons_succ]
  refine wpAnyH_takeD (i := 2) (d := 19) (oi := _) (v := ?_) rfl rfl (by kernel_rfl) (by kernel_rfl) (by kernel_rfl) (fun _ _ _ h => h) (Or.inl ⟨by rfl, ?_⟩) (by assumption) ?_
  rotate_left
  · (intro w hSw; (try dsimp only at hSw); go_simp) <;> with_reducible rfl
  simp only [Act.put, List.setIfInBounds_toArray, List.set_cons_zero, List.set_cons_succ]
  refine wpAnyH_takeD (i := 3) (d := 20) (oi := _) (v := ?_) rfl rfl (by kernel_rfl) (by kernel_rfl) (by kernel_rfl) (fun _ _ _ h => h) (Or.inl ⟨by rfl, ?_⟩) (by assumption) ?_
  rotate_left
  · (intro w hSw; (try dsimp only at hSw); go_simp) <;> with_reducible rfl
  simp only [Act.put, List.setIfInBounds_toArray, List.set_cons_zero, List.set_cons_succ]
  refine wpAnyH_takeD (i := 4) (d := 21) (oi := _) (v := ?_) rfl rfl (by kernel_rfl) (by kernel_rfl) (by kernel_rfl) (fun _ _ _ h => h) (Or.inl ⟨by rfl, ?_⟩) (by assumption) ?_
  rotate_left
  · (intro w hSw; (try dsimp only at hSw); go_simp) <;> with_reducible rfl
  simp only [Act.put, List.setIfInBounds_toArray, List.set_cons_zero, List.set_cons_succ]
  refine wpAnyH_takeD (i := 5) (d := 22) (oi := _) (v := .agg (hs).toArray) rfl rfl (by kernel_rfl) (by kernel_rfl) (by kernel_rfl) (fun _ _ _ h => h) (yieldsIf_load_mid (by rfl) 50 (.tmp 21) rfl w.heap.size 0 rfl (hs) _ (fun w hw => by subst hw; exact HRG.out) Try.underlying50 rfl HSI.out) (by assumption) ?_
  simp only [Act.put, List.setIfInBounds_toArray, List.set_cons_zero, List.set_cons_succ]
  refine wpAnyH_takeD (i := 6) (d := 23) (oi := _) (v := ?_) rfl rfl (by kernel_rfl) (by kernel_rfl) (by kernel_rfl) (fun _ _ _ h => h) (Or.inl ⟨by rfl, ?_⟩) (by assumption) ?_
  rotate_left
  · (intro w hSw; (try dsimp only at hSw); go_simp) <;> with_reducible rfl
  simp only [Act.put, List.setIfInBounds_toArray, List.set_cons_zero, List.set_cons_succ]
  refine wpAnyH_takeD (i := 7) (d := 16) (oi := _) (v := ?_) rfl rfl (by kernel_rfl) (by kernel_rfl) (by kernel_rfl) (fun _ _ _ h => h) (Or.inl ⟨by rfl, ?_⟩) (by assumption) ?_
  rotate_left
  · (intro w hSw; (try dsimp only at hSw); go_simp) <;> with_reducible rfl
  simp only [Act.put, List.setIfInBounds_toArray, List.set_cons_zero, List.set_cons_succ]
  refine wpAnyH_takeD (i := 8) (d := 24) (oi := _) (v := ?_) rfl rfl (by kernel_rfl) (by kernel_rfl) (by kernel_rfl) (fun _ _ _ h => h) (Or.inl ⟨by rfl, ?_⟩) (by assumption) ?_
  rotate_left
  · (intro w hSw; (try dsimp only at hSw); go_simp) <;> with_reducible rfl
  simp only [Act.put, List.setIfInBounds_toArray, List.set_cons_zero, List.set_cons_succ]
  refine wpAnyH_takeD (i := 9) (d := 25) (oi := _) (v := ?_) rfl rfl (by kernel_rfl) (by kernel_rfl) (by kernel_rfl) (fun _ _ _ h => h) (Or.inl ⟨by rfl, ?_⟩) (by assumption) ?_
  rotate_left
  · (intro w hSw; (try dsimp only at hSw); go_simp) <;> with_reducible rfl
  simp only [Act.put, List.setIfInBounds_toArray, List.set_cons_zero, List.set_cons_succ]
  refine wpAnyH_takeD (i := 10) (d := 7) (oi := _) (v := ?_) rfl rfl (by kernel_rfl) (by kernel_rfl) (by kernel_rfl) (fun _ _ _ h => h) (Or.inl ⟨by rfl, ?_⟩) (by assumption) ?_
  rotate_left
  · (intro w hSw; (try dsimp only at hSw); go_simp) <;> with_reducible rfl
  simp only [Act.put, List.setIfInBounds_toArray, List.set_cons_zero, List.set_cons_succ]
  refine wpAnyH_takeD (i := 11) (d := 8) (oi := _) (v := ?_) rfl rfl (by kernel_rfl) (by kernel_rfl) (by kernel_rfl) (fun _ _ _ h => h) (Or.inl ⟨by rfl, ?_⟩) (by assumption) ?_
  rotate_left
  · (intro w hSw; (try dsimp only at hSw); go_simp) <;> with_reducible rfl
  simp only [Act.put, List.setIfInBounds_toArray, List.set_cons_zero, List.set_cons_succ]
  refine wpAnyH_done (by kernel_rfl) ?_ _
  go_wp2_with fail
  exact bodyPost_ret (v := .tuple #[.int .i64 (i : Int), .bool false, .int .i64 0]) (by simp [results, Try.results37, go_sem]) rfl ⟨rfl, HB2.out.drew⟩
set_option maxHeartbeats 1000000 in
theorem add_full {B g mb n : Nat} {l : List Pc} {v : Value} (p : Pc) (w : World) (hi : Idx B w g mb n l v) (hp : p.ok) (hr : rightP p.s p.b p.a = true) (hf : findP l p.h = none) (hlen : l.length = 8192) :
    Calls Try.prog 37 #[.pointer (some ⟨g, 0, none⟩), p.agg] w (Quiet (.tuple #[.int .i64 0, .bool false, .int .i64 5]) w) := by
  obtain ⟨A, c, rfl, hc⟩ := hi.own.slice
  have hal := (Below.refl w.heap.size w).alloc (Nat.le_refl _) (.cells p.cells.toArray 52)
  have hi2 := hi.below hal
  have hno := none_made g mb _ (w.alloc (.cells p.cells.toArray 52)) hi2.blk
  have hri := right_any p hp (w.alloc (.cells p.cells.toArray 52))
  have hkm : KMap (w.alloc (.cells p.cells.toArray 52)) mb n (findP l) := hi2.map
  have c0 := hi2.blk.cell 0
  have c1 := hi2.blk.cell 1
  have hrg : (w.alloc (.cells p.cells.toArray 52)).rangeAt w.heap.size 0 p.cells := fun j y hy => by
    have := (Blk.new w 52 p.cells.toArray).cell j
    rw [Nat.zero_add]
    exact this.trans (by rw [List.getElem?_toArray]; exact hy)
  have hrh : (w.alloc (.cells p.cells.toArray 52)).rangeAt w.heap.size 0 (hashV p.h) := fun j y hy => hrg j y (by
    unfold Pc.cells
    rw [List.getElem?_append_left (List.getElem?_eq_some_iff.1 hy).1]
    exact hy)
  have hsi : (Try.prog.info? 52).map (·.size) = some p.cells.length := by rw [Pc.cells_length hp]; exact size39
  have hsh : (Try.prog.info? 50).map (·.size) = some (hashV p.h).length := by rw [hashV_length, hp.h.len]; exact size37
  have hS39 : ∃ fs, Try.prog.underlying 52 = some (.struct fs) := ⟨_, Try.underlying52⟩
  unfold Pc.agg at hri ⊢
  simp at c0 c1
  rw [hr] at hri
  have HRI := Lib.hid hri
  have HNO := Lib.hid hno
  have HRG39 := Lib.hid hrg
  have HSI39 := Lib.hid hsi
  have HAL := Lib.hid hal
  have HKM := Lib.hid hkm
  have HRH := Lib.hid hrh
  have HSI := Lib.hid hsh
  have HBK := Lib.hid hi2.blk
  have HOW := Lib.hid hi2.own
  have HHH := Lib.hid hp.h
  clear hi2 hno hri hkm hrg hrh hsi hsh hal hS39
  generalize hps : p.cells = ps at *
  go_enter Try.func37, Try.ntmps37
  go_wp2_with fail
  generalize hW : w.alloc (.cells ps.toArray 52) = W at *
  refine (HNO.out).mono ?_
  rintro e w1 ⟨rfl, rfl⟩
  go_wp2_with (refine wpList_load_mid rfl 52 (.tmp 3) rfl w.heap.size 0 rfl ps _ HRG39.out Try.underlying52 rfl HSI39.out ?_)
  refine (HRI.out).mono ?_
  rintro e w2 ⟨rfl, hb2⟩
  have hsW : W.heap.size = w.heap.size + 1 := by rw [← hW]; simp
  have hgb : w.heap.size < W.heap.size := by omega
  have HBK2 := Lib.hid (HBK.out.below hb2)
  have HKM2 := Lib.hid (HKM.out.below hb2)
  have HOW2 := Lib.hid (HOW.out.below hb2)
  have hrg2 : w2.rangeAt w.heap.size 0 ps := fun j y hy => (hb2.cell (p := ⟨w.heap.size, 0 + j, none⟩) hgb).trans (HRG39.out j y hy)
  have hrh2 : w2.drew.rangeAt w.heap.size 0 (hashV p.h) := fun j y hy => (hb2.cell (p := ⟨w.heap.size, 0 + j, none⟩) hgb).trans (HRH.out j y hy)
  have HRG2 := Lib.hid hrg2
  have HRG := Lib.hid hrh2
  have HB2 := Lib.hid (HAL.out.trans (hb2.mono HAL.out.size))
  have hlk := (show KMap w2.drew mb n (findP l) from ⟨HKM2.out.ex⟩).look p.h HHH.out
  have d0 := HBK2.out.cell 0
  have d1 := HBK2.out.cell 1
  simp at d0 d1
  clear hb2 hW c0 c1 hrg2 hrh2 HRG39 HRH
  rw [hf] at hlk
  simp only [Option.getD_none, Option.isSome_none] at hlk
  rw [hlen] at d0
  clear hi
  generalize hashV p.h = hs at *
  go_wp2_with fail
  refine wp_region_held_drew (S := fun w' => w' = w2.drew) (by kernel_rfl) rfl (fun hHeld => ?_)
  refine wpAnyH_takeD (i := 0) (d := 17) (oi := _) (v := ?_) rfl rfl (by kernel_rfl) (by kernel_rfl) (by kernel_rfl) (fun _ _ _ h => h) (Or.inl ⟨by rfl, ?_⟩) (by assumption) ?_
  rotate_left
  · (intro w hSw; (try dsimp only at hSw); go_simp) <;> with_reducible rfl
  simp only [Act.put, List.setIfInBounds_toArray, List.set_cons_zero, List.set_cons_succ]
  refine wpAnyH_takeD (i := 1) (d := 18) (oi := _) (v := ?_) rfl rfl (by kernel_rfl) (by kernel_rfl) (by kernel_rfl) (fun _ _ _ h => h) (Or.inl ⟨by rfl, ?_⟩) (by assumption) ?_
  rotate_left
  · (intro w hSw; (try dsimp only at hSw); go_simp) <;> with_reducible rfl
  simp only [Act.put, List.setIfInBounds_toArray, List.set_cons_zero, List.set_cons_succ]
  refine wpAnyH_takeD (i := 2) (d := 19) (oi := _) (v := ?_) rfl rfl (by kernel_rfl) (by kernel_rfl) (by kernel_rfl) (fun _ _ _ h => h) (Or.inl ⟨by rfl, ?_⟩) (by assumption) ?_
  rotate_left
  · (intro w hSw; (try dsimp only at hSw); go_simp) <;> with_reducible rfl
  simp only [Act.put, List.setIfInBounds_toArray, List.set_cons_zero, List.set_cons_succ]
  refine wpAnyH_takeD (i := 3) (d := 20) (oi := _) (v := ?_) rfl rfl (by kernel_rfl) (by kernel_rfl) (by kernel_rfl) (fun _ _ _ h => h) (Or.inl ⟨by rfl, ?_⟩) (by assumption) ?_
  rotate_left
  · (intro w hSw; (try dsimp only at hSw); go_simp) <;> with_reducible rfl
  simp only [Act.put, List.setIfInBounds_toArray, List.set_cons_zero, List.set_cons_succ]
  refine wpAnyH_takeD (i := 4) (d := 21) (oi := _) (v := ?_) rfl rfl (by kernel_rfl) (by kernel_rfl) (by kernel_rfl) (fun _ _ _ h => h) (Or.inl ⟨by rfl, ?_⟩) (by assumption) ?_
  rotate_left
  · (intro w hSw; (try dsimp only at hSw); go_simp) <;> with_reducible rfl
  simp only [Act.put, List.setIfInBounds_toArray, List.set_cons_zero, List.set_cons_succ]
  refine wpAnyH_takeD (i := 5) (d := 22) (oi := _) (v := .agg (hs).toArray) rfl rfl (by kernel_rfl) (by kernel_rfl) (by kernel_rfl) (fun _ _ _ h => h) (yieldsIf_load_mid (by rfl) 50 (.tmp 21) rfl w.heap.size 0 rfl (hs) _ (fun w hw => by subst hw; exact HRG.out) Try.underlying50 rfl HSI.out) (by assumption) ?_
  simp only [Act.put, List.setIfInBounds_toArray, List.set_cons_zero, List.set_cons_succ]
  refine wpAnyH_takeD (i := 6) (d := 23) (oi := _) (v := ?_) rfl rfl (by kernel_rfl) (by kernel_rfl) (by kernel_rfl) (fun _ _ _ h => h) (Or.inl ⟨by rfl, ?_⟩) (by assumption) ?_
  rotate_left
  · (intro w hSw; (try dsimp only at hSw); go_simp) <;> with_reducible rfl
  simp only [Act.put, List.setIfInBounds_toArray, List.set_cons_zero, List.set_cons_succ]
  refine wpAnyH_takeD (i := 7) (d := 16) (oi := _) (v := ?_) rfl rfl (by kernel_rfl) (by kernel_rfl) (by kernel_rfl) (fun _ _ _ h => h) (Or.inl ⟨by rfl, ?_⟩) (by assumption) ?_
  rotate_left
  · (intro w hSw; (try dsimp only at hSw); go_simp) <;> with_reducible rfl
  simp only [Act.put, List.setIfInBounds_toArray, List.set_cons_zero, List.set_cons_succ]
  refine wpAnyH_takeD (i := 8) (d := 24) (oi := _) (v := ?_) rfl rfl (by kernel_rfl) (by kernel_rfl) (by kernel_rfl) (fun _ _ _ h => h) (Or.inl ⟨by rfl, ?_⟩) (by assumption) ?_
  rotate_left
  · (intro w hSw; (try dsimp only at hSw); go_simp) <;> with_reducible rfl
  simp only [Act.put, List.setIfInBounds_toArray, List.set_cons_zero, List.set_cons_succ]
  refine wpAnyH_takeD (i := 9) (d := 25) (oi := _) (v := ?_) rfl rfl (by kernel_rfl) (by kernel_rfl) (by kernel_rfl) (fun _ _ _ h => h) (Or.inl ⟨by rfl, ?_⟩) (by assumption) ?_
  rotate_left
  · (intro w hSw; (try dsimp only at hSw); go_simp) <;> with_reducible rfl
  simp only [Act.put, List.setIfInBounds_toArray, List.set_cons_zero, List.set_cons_succ]
  refine wpAnyH_takeD (i := 10) (d := 7) (oi := _) (v := ?_) rfl rfl (by kernel_rfl) (by kernel_rfl) (by kernel_rfl) (fun _ _ _ h => h) (Or.inl ⟨by rfl, ?_⟩) (by assumption) ?_
  rotate_left
  · (intro w hSw; (try dsimp only at hSw); go_simp) <;> with_reducible rfl
  simp only [Act.put, List.setIfInBounds_toArray, List.set_cons_zero, List.set_cons_succ]
  refine wpAnyH_takeD (i := 11) (d := 8) (oi := _) (v := ?_) rfl rfl (by kernel_rfl) (by kernel_rfl) (by kernel_rfl) (fun _ _ _ h => h) (Or.inl ⟨by rfl, ?_⟩) (by assumption) ?_
  rotate_left
  · (intro w hSw; (try dsimp only at hSw); go_simp) <;> with_reducible rfl
  simp only [Act.put, List.setIfInBounds_toArray, List.set_cons_zero, List.set_cons_succ]
  refine wpAnyH_done (by kernel_rfl) ?_ _
  go_wp2_with fail
  exact bodyPost_ret (v := .tuple #[.int .i64 0, .bool false, .int .i64 5]) (by simp [results, Try.results37, go_sem]) rfl ⟨rfl, HB2.out.drew⟩
/-- What is wanted of a slice of structs. -/
structure SlS (P : Program) (t e : TypeId) (z : Value) (size bytes : Nat) : Prop where
  u : P.underlying t = some (.slice e)
  i : (P.info? e).map (fun i => (i.zero, i.size, i.bytes)) = some (some z, size, bytes)
  z : z.cells.size = size
  pos : 0 < size
def zeroPc : Value := .agg (List.replicate 20 (Value.int .u8 0) ++ [Value.int .i64 0, Value.int .i64 0, Value.int .i64 0]).toArray
theorem tPcs : SlS Try.prog 26 52 zeroPc 23 48 := ⟨Try.underlying26, by kernel_rfl, by kernel_rfl, by omega⟩
/-- One more element on a row. -/
def AppOf (P : Program) (w : World) (t e : TypeId) (size bytes base : Nat) (v : Value) (n : Nat) (xs : List Value) : Prop :=
  ∀ (ad : Addr) (us : List Value), us.length = size → (∀ j y, us[j]? = some y → w.cell? (ad.add j) = some y) → (∀ u ∈ us, u.oneCell' = true) → n + 1 ≤ maxLen → (n + 1) * bytes ≤ 140737488355328 → base ≤ w.heap.size → ∀ ty,
    ∃ v' w', (Builtin.append_ #[t, t] ty #[v, .slice (some ad) 1 1]).run P w = .ok v' w' ∧ w'.ownsRow base e size v' (n + 1) (xs ++ us) ∧ w.grownBy w' v.ownBlock ∧ (v'.ownBlock = v.ownBlock ∨ ∀ k, v'.ownBlock = some k → w.heap.size ≤ k)
theorem appOf_row {w : World} {B n : Nat} {v : Value} {xs : List Value} (h : RowP B w v n xs) : AppOf Try.prog w 26 52 23 48 B v n xs := by
  intro ad us hus hc h1 h63 hby hbase ty
  obtain ⟨i, hi, hz, hsz, hb⟩ := info_parts tPcs.i
  rcases h with h | ⟨gl, cur, rfl, hB, hm, hl, hbk, ht⟩
  · obtain ⟨v', w', hrun, h2, h3, _, h5⟩ := run_append_own_at (P := Try.prog) w B 26 ty 52 i zeroPc 23 48 tPcs.u hi hz hsz hb tPcs.z tPcs.pos v n xs h ad 1 1 us (by omega) hc h1 h63 hby hbase
    exact ⟨v', w', hrun, h2, h3, h5.imp id fun h k hk => by rw [h] at hk; injection hk with hk; omega⟩
  · have hcell : ∀ j y, xs[j]? = some y → w.cell? ((⟨gl, 0, none⟩ : Addr).add j) = some y := fun j y hy => by
      rw [addr_add, Nat.zero_add]
      exact RowP.cell (B := B) (.inr ⟨gl, cur, rfl, hB, hm, hl, hbk, ht⟩) j y hy
    obtain ⟨v', w', hrun, h2, h3⟩ := run_append_arg_grows (P := Try.prog) w 26 ty 52 i zeroPc 23 48 tPcs.u hi hz hsz hb tPcs.z tPcs.pos ⟨gl, 0, none⟩ n n xs hl hcell ad 1 1 us (by omega) hc (by omega) h63 hby
    refine ⟨v', w', hrun, ⟨h2.1, ?_⟩, ⟨h3.os, h3.tape, h3.output, h3.size, fun k hk _ => h3.block k hk (by simp)⟩, .inr ?_⟩
    · rcases h2.2 with h0 | ⟨gg, cp, cu, hv, hb2, hr2⟩
      · exact .inl h0
      · exact .inr ⟨gg, cp, cu, hv, by omega, hr2⟩
    · exact fun k hk => own_ge h2 k hk
theorem step_appS {P : Program} {t e : TypeId} {z : Value} {size bytes : Nat} {ops : Array Oper} {o : Oper} {a : Act} {w : World} {K : Act → World → Prop} {Q : Exit → Act → World → Prop} {E : Prop} (T : SlS P t e z size bytes) (hgd : Region.wanted o (yielded ops a.tmps) = true) (s x : Operand)
    (ho : o.op = .call { callee := .builtin .append, args := #[s, x], argTypes := #[t, t] })
    (base : Nat) (v : Value) (n : Nat) (xs : List Value) (hs : a.eval s = v) (happ : AppOf P w t e size bytes base v n xs) (us : List Value) (hus : us.length = size) (h1 : ∀ u ∈ us, u.oneCell' = true)
    (g0 : Nat) (hx : a.eval x = .slice (some ⟨g0, 0, none⟩) 1 1) (hc : Blk w g0 e us.toArray)
    (hby : (n + 1) * bytes ≤ 140737488355328) (h63 : n + 1 ≤ maxLen) (hbase : base ≤ w.heap.size)
    (h : ∀ v' w', w'.ownsRow base e size v' (n + 1) (xs ++ us) → w.grownBy w' v.ownBlock → (v'.ownBlock = v.ownBlock ∨ ∀ k, v'.ownBlock = some k → w.heap.size ≤ k) → K (a.put o.dst v') w') :
    if Region.wanted o (yielded ops a.tmps) = true then Oper.wp P o a w K Q else E := by
  obtain ⟨i, hi, hz, hsz, hb⟩ := info_parts T.i
  rw [if_pos hgd]
  obtain ⟨v', w', hrun, h2, h3, h5⟩ := happ ⟨g0, 0, none⟩ us hus (fun j y hy => by rw [addr_add, Nat.zero_add, hc.cell]; simpa using hy) h1 h63 hby hbase o.type
  unfold Oper.wp execOp
  simp only [ho, resolve, invoke, builtin, Sem.run_bind, Sem.run_pure, Result.andThen_ok, List.map_toArray, List.map_cons, List.map_nil, hs, hx, hrun]
  exact h v' w' h2 h3 h5
theorem own_lt {w : World} {B n : Nat} {e : TypeId} {size : Nat} {v : Value} {xs : List Value} (h : w.ownsRow B e size v n xs) : ∀ b, v.ownBlock = some b → B ≤ b ∧ b < w.heap.size := fun b hb => by
  rcases h.2 with ⟨rfl, _⟩ | ⟨g, cap, cur, rfl, h1, hg, _⟩
  · simp [Value.ownBlock] at hb
  · simp [Value.ownBlock] at hb
    subst hb
    exact ⟨h1, (Array.getElem?_eq_some_iff.1 hg).1⟩
theorem kmap_ne_blk {w : World} {mb n g : Nat} {f : List Int → Option Nat} {t : TypeId} {cs : Array Value} (h : KMap w mb n f) (hb : Blk w g t cs) : mb ≠ g := by
  rintro rfl
  obtain ⟨D, ⟨es, clock, he, _⟩, _⟩ := h.ex
  unfold Blk at hb
  rw [he] at hb
  injection hb with hb
  cases hb
theorem rowp_map {w : World} {mb n B m : Nat} {v : Value} {xs : List Value} {f : List Int → Option Nat} (h : KMap w mb n f) (ho : RowP B w v m xs) : v.ownBlock ≠ some mb := fun hv => by
  obtain ⟨_, cur, hb⟩ := ho.blk mb hv
  exact kmap_ne_blk h hb rfl
theorem kmap_ne_own {w : World} {mb n B m size : Nat} {e : TypeId} {v : Value} {xs : List Value} {f : List Int → Option Nat} (h : KMap w mb n f) (ho : w.ownsRow B e size v m xs) : v.ownBlock ≠ some mb := fun hv => by
  obtain ⟨D, ⟨es, clock, he, _⟩, _⟩ := h.ex
  rcases ho.2 with ⟨rfl, _⟩ | ⟨g, cap, cur, rfl, h1, hg, _⟩
  · simp [Value.ownBlock] at hv
  · simp [Value.ownBlock] at hv
    subst hv
    rw [he] at hg
    injection hg with hg
    cases hg
/-- Behind the append, and behind the store of the slice. -/
structure Ad4 (B g mb n gb L : Nat) (l : List Pc) (p : Pc) (v v4 : Value) (w3 w4 : World) : Prop where
  blk : Blk w4 g 108 #[v, .map (some mb)]
  own : w4.ownsRow B 52 23 v4 (L + 1) (flatP l ++ p.cells)
  map : KMap w4 mb n (findP l)
  rg : w4.rangeAt gb 0 p.cells
  rh : w4.rangeAt gb 0 (hashV p.h)
  frm : Frm (fun k => v.ownBlock = some k) w3 w4
  ap : ∀ k, v4.ownBlock = some k → k ≠ g
  new : v4.ownBlock = v.ownBlock ∨ ∀ k, v4.ownBlock = some k → w3.heap.size ≤ k
theorem ad4_of {B g mb n gb L : Nat} {l : List Pc} {p : Pc} {v v4 : Value} {w3 w4 : World} (hv : ∀ k, v.ownBlock = some k → k < gb) (hgb : gb < w3.heap.size) (hbk : Blk w3 g 108 #[v, .map (some mb)]) (hown : RowP B w3 v L (flatP l)) (hkm : KMap w3 mb n (findP l)) (hrg : w3.rangeAt gb 0 p.cells) (hrh : w3.rangeAt gb 0 (hashV p.h))
    (o4 : w4.ownsRow B 52 23 v4 (L + 1) (flatP l ++ p.cells)) (hg4 : (w3.drew.alloc (.cells p.cells.toArray 52)).grownBy w4 v.ownBlock) (hl4 : v4.ownBlock = v.ownBlock ∨ ∀ k, v4.ownBlock = some k → (w3.drew.alloc (.cells p.cells.toArray 52)).heap.size ≤ k) : Ad4 B g mb n gb L l p v v4 w3 w4 := by
  have f1 : Frm (fun k => v.ownBlock = some k) w3 (w3.drew.alloc (.cells p.cells.toArray 52)) := (Frm.refl _ w3).drew.alloc _
  have f4 : Frm (fun k => v.ownBlock = some k) w3 w4 := f1.trans (Frm.of_grown hg4 fun k hk => hk) (fun _ _ h => h)
  have hap := hown.apart hbk (by decide)
  have b4 := hbk.frm f4 (fun hs => hap _ hs rfl)
  refine ⟨b4, o4, hkm.frm f4 (rowp_map hkm hown), fun j y hy => ?_, fun j y hy => ?_, f4, b4.apart o4 (by decide), ?_⟩
  · exact (f4.cell (p := ⟨gb, 0 + j, none⟩) hgb (fun hs => by have := hv gb hs; omega)).trans (hrg j y hy)
  · exact (f4.cell (p := ⟨gb, 0 + j, none⟩) hgb (fun hs => by have := hv gb hs; omega)).trans (hrh j y hy)
  · rcases hl4 with h | h
    · exact .inl h
    · refine .inr fun k hk => ?_
      have hk := h k hk
      have : (w3.drew.alloc (.cells p.cells.toArray 52)).heap.size = w3.heap.size + 1 := Array.size_push ..
      omega
structure Ad5 (B g mb n gb L : Nat) (l : List Pc) (p : Pc) (v v4 : Value) (w3 w5 : World) : Prop where
  blk : Blk w5 g 108 #[v4, .map (some mb)]
  own : w5.ownsRow B 52 23 v4 (L + 1) (flatP l ++ p.cells)
  map : KMap w5 mb n (findP l)
  rg : w5.rangeAt gb 0 p.cells
  rh : w5.rangeAt gb 0 (hashV p.h)
  frm : Frm (fun k => k = g ∨ v.ownBlock = some k) w3 w5
theorem ad5_of {B g mb n gb L : Nat} {l : List Pc} {p : Pc} {v v4 : Value} {w3 w4 : World} (hne : g ≠ gb) (h : Ad4 B g mb n gb L l p v v4 w3 w4) : Ad5 B g mb n gb L l p v v4 w3 (w4.setCell ⟨g, 0, none⟩ v4) := by
  have f5 : Frm (fun k => k = g) w4 (w4.setCell ⟨g, 0, none⟩ v4) := (Frm.refl (fun k => k = g) w4).setCell (p := ⟨g, 0, none⟩) (fun _ => rfl) _
  have hs := h.blk.set 0 v4
  simp only [List.setIfInBounds_toArray, List.set_cons_zero] at hs
  have rng : ∀ cs, w4.rangeAt gb 0 cs → (w4.setCell ⟨g, 0, none⟩ v4).rangeAt gb 0 cs := fun cs hc j y hy => by
    have h0 := hc j y hy
    exact (f5.cell (p := ⟨gb, 0 + j, none⟩) (World.block_lt_of_cell? _ _ h0) (fun e => hne e.symm)).trans h0
  exact ⟨hs, f5.own h.own h.ap, h.map.frm f5 (kmap_ne_blk h.map h.blk), rng _ h.rg, rng _ h.rh, (h.frm.mono (T := fun k => k = g ∨ v.ownBlock = some k) (fun k _ hk => .inr hk)).trans f5 (fun k _ hk => .inl hk)⟩
theorem ad6_S {B g mb n gb L : Nat} {l : List Pc} {p : Pc} {v : Value} {A4 : Option Addr} {c4 : Nat} {w3 w5 w6 : World} (h : Ad5 B g mb n gb L l p v (.slice A4 (L + 1) c4) w3 w5) (hg : w5.drew.grownBy w6 (some mb)) :
    w6.cell? ⟨g, 1, none⟩ = some (.map (some mb)) ∧ w6.cell? ⟨g, 0, none⟩ = some (.slice A4 (L + 1) c4) ∧ w6.rangeAt gb 0 (hashV p.h) := by
  have f : Frm (fun k => k = mb) w5.drew w6 := Frm.of_grown hg fun k hk => by injection hk with hk; exact hk.symm
  have b6 := (show Blk w5.drew g 108 _ from h.blk).frm f (fun e => kmap_ne_blk h.map h.blk e.symm)
  have p0 := b6.cell 0
  have p1 := b6.cell 1
  simp at p0 p1
  refine ⟨p1, p0, fun j y hy => ?_⟩
  have h0 := h.rh j y hy
  have hlt := World.block_lt_of_cell? _ _ h0
  refine (f.cell (p := ⟨gb, 0 + j, none⟩) hlt (fun e => ?_)).trans h0
  obtain ⟨D, ⟨es, clock, he, _⟩, _⟩ := h.map.ex
  simp only at e
  subst e
  simp [World.cell?, he] at h0
/-- What Add leaves, where the piece is new. -/
structure Added (B g mb n : Nat) (l : List Pc) (p : Pc) (v : Value) (w0 : World) (e : Ending) (w : World) : Prop where
  ret : e = .returned (.tuple #[.int .i64 ((l.length : Int) + 1), .bool true, .int .i64 0])
  ex : ∃ v', Idx B w g mb (n + 1) (l ++ [p]) v' ∧ (v'.ownBlock = v.ownBlock ∨ ∀ k, v'.ownBlock = some k → w0.heap.size ≤ k)
  frm : Frm (fun k => k = g ∨ k = mb ∨ v.ownBlock = some k) w0 w
theorem ad6_of {B g mb n gb L : Nat} {l : List Pc} {p : Pc} {v v4 : Value} {w0 w3 w5 w6 : World} (hi : Idx B w0 g mb n l v) (hp : p.ok) (hf : findP l p.h = none) (hL : l.length = L) (hBg : B ≤ g) (hsw : w0.heap.size ≤ w3.heap.size) (hfw : Frm (fun _ => False) w0 w3) (hnew : v4.ownBlock = v.ownBlock ∨ ∀ k, v4.ownBlock = some k → w3.heap.size ≤ k)
    (h5 : Ad5 B g mb n gb L l p v v4 w3 w5) (hk : KMap w6 mb (n + 1) (fun h => if h = p.h then some (L + 1) else findP l h)) (hg : w5.drew.grownBy w6 (some mb)) :
    Added B g mb n l p v w0 (.returned (.tuple #[.int .i64 ((L : Int) + 1), .bool true, .int .i64 0])) w6 := by
  have f6 : Frm (fun k => k = mb) w5 w6 := (Frm.of_grown (S := fun k => k = mb) hg fun k hk => by injection hk with hk; exact hk.symm).of_drew
  have o5 := h5.own
  have m5 := h5.map
  refine ⟨by rw [hL], ⟨v4, ⟨hBg, hi.gm, fun q hq => ?_, h5.blk.frm f6 (fun e => kmap_ne_blk m5 h5.blk e.symm), ?_, ?_⟩, ?_⟩, ?_⟩
  · rcases List.mem_append.1 hq with hq | hq
    · exact hi.oks q hq
    · simp at hq; subst hq; exact hp
  · rw [List.length_append, flatP_snoc, hL]
    exact .inl (f6.own o5 fun k hk e => kmap_ne_own m5 o5 (by rw [hk, e]))
  · rw [findP_snoc l p hf, hL]; exact hk
  · rcases hnew with h | h
    · exact .inl h
    · exact .inr fun k hk => Nat.le_trans hsw (h k hk)
  · exact ((hfw.mono (T := fun k => k = g ∨ k = mb ∨ v.ownBlock = some k) (fun k _ h => h.elim)).trans h5.frm (fun k _ h => h.elim .inl (fun h => .inr (.inr h)))).trans f6 (fun k _ h => .inr (.inl h))
theorem fold_from : ∀ (cs : List Value) (k : Nat) (z : Array Value), z.size = k + cs.length → (cs.zipIdx k).foldl (fun c x => c.setIfInBounds x.2 x.1) z = (z.toList.take k ++ cs).toArray
  | [], k, z, h => by
    simp at h
    subst h
    have e : z.toList.take z.size = z.toList := List.take_of_length_le (by simp)
    simp [e]
  | x :: r, k, z, h => by
    simp only [List.zipIdx_cons, List.foldl_cons]
    rw [fold_from r (k + 1) _ (by simp at h ⊢; omega)]
    congr 1
    have hk : k < z.toList.length := by simp at h ⊢; omega
    rw [Array.toList_setIfInBounds, List.take_add_one, List.take_set_of_le (Nat.le_refl k), List.getElem?_set_self hk]
    simp
theorem fold_set (cs : List Value) (z : Array Value) (h : z.size = cs.length) : cs.zipIdx.foldl (fun c x => c.setIfInBounds x.2 x.1) z = cs.toArray := by
  rw [fold_from cs 0 z (by omega)]; simp
set_option maxHeartbeats 8000000 in

theorem add_new {B g mb n : Nat} {l : List Pc} {v : Value} (p : Pc) (w : World) (hi : Idx B w g mb n l v) (hp : p.ok) (hr : rightP p.s p.b p.a = true) (hf : findP l p.h = none) (hlen : l.length < 8192) (hn : n < 99999) (hgw : g < w.heap.size) :
    Calls Try.prog 37 #[.pointer (some ⟨g, 0, none⟩), p.agg] w (Added B g mb n l p v w) := by
  have hID := hi
  obtain ⟨A, c, rfl, hc⟩ := hi.own.slice
  have hvl := hi.own.lt
  have hal := (Below.refl w.heap.size w).alloc (Nat.le_refl _) (.cells p.cells.toArray 52)
  have hi2 := hi.below hal
  have hno := none_made g mb _ (w.alloc (.cells p.cells.toArray 52)) hi2.blk
  have hri := right_any p hp (w.alloc (.cells p.cells.toArray 52))
  have hkm : KMap (w.alloc (.cells p.cells.toArray 52)) mb n (findP l) := hi2.map
  have c0 := hi2.blk.cell 0
  have c1 := hi2.blk.cell 1
  have hrg : (w.alloc (.cells p.cells.toArray 52)).rangeAt w.heap.size 0 p.cells := fun j y hy => by
    have := (Blk.new w 52 p.cells.toArray).cell j
    rw [Nat.zero_add]
    exact this.trans (by rw [List.getElem?_toArray]; exact hy)
  have hrh : (w.alloc (.cells p.cells.toArray 52)).rangeAt w.heap.size 0 (hashV p.h) := fun j y hy => hrg j y (by
    unfold Pc.cells
    rw [List.getElem?_append_left (List.getElem?_eq_some_iff.1 hy).1]
    exact hy)
  have hsi : (Try.prog.info? 52).map (·.size) = some p.cells.length := by rw [Pc.cells_length hp]; exact size39
  have hsh : (Try.prog.info? 50).map (·.size) = some (hashV p.h).length := by rw [hashV_length, hp.h.len]; exact size37
  have hS39 : ∃ fs, Try.prog.underlying 52 = some (.struct fs) := ⟨_, Try.underlying52⟩
  unfold Pc.agg at hri ⊢
  simp at c0 c1
  obtain ⟨L, hL⟩ : ∃ L, l.length = L := ⟨_, rfl⟩
  rw [hL] at hlen hc
  have hownL := hi2.own
  rw [hL] at hownL
  have hbkL := hi2.blk
  rw [hL] at hbkL hvl c0
  have HID := Lib.hid hID
  rw [hL] at HID ⊢
  rw [hr] at hri
  have HRI := Lib.hid hri
  have HNO := Lib.hid hno
  have HRG39 := Lib.hid hrg
  have HSI39 := Lib.hid hsi
  have HAL := Lib.hid hal
  have HKM := Lib.hid hkm
  have HRH := Lib.hid hrh
  have HSI := Lib.hid hsh
  have HBK := Lib.hid hbkL
  have HOW := Lib.hid hownL
  have HHH := Lib.hid hp.h
  clear hownL hbkL hi2 hno hri hkm hrg hrh hsi hsh hal hS39
  generalize hps : p.cells = ps at *
  go_enter Try.func37, Try.ntmps37
  go_wp2_with fail
  generalize hW : w.alloc (.cells ps.toArray 52) = W at *
  refine (HNO.out).mono ?_
  rintro e w1 ⟨rfl, rfl⟩
  go_wp2_with (refine wpList_load_mid rfl 52 (.tmp 3) rfl w.heap.size 0 rfl ps _ HRG39.out Try.underlying52 rfl HSI39.out ?_)
  refine (HRI.out).mono ?_
  rintro e w2 ⟨rfl, hb2⟩
  have hsW : W.heap.size = w.heap.size + 1 := by rw [← hW]; simp
  have hgb : w.heap.size < W.heap.size := by omega
  have HBK2 := Lib.hid (HBK.out.below hb2)
  have HKM2 := Lib.hid (HKM.out.below hb2)
  have HOW2 := Lib.hid (HOW.out.below hb2)
  have hrg2 : w2.rangeAt w.heap.size 0 ps := fun j y hy => (hb2.cell (p := ⟨w.heap.size, 0 + j, none⟩) hgb).trans (HRG39.out j y hy)
  have hrh2 : w2.drew.rangeAt w.heap.size 0 (hashV p.h) := fun j y hy => (hb2.cell (p := ⟨w.heap.size, 0 + j, none⟩) hgb).trans (HRH.out j y hy)
  have HRG2 := Lib.hid hrg2
  have HRG := Lib.hid hrh2
  have HB2 := Lib.hid (HAL.out.trans (hb2.mono HAL.out.size))
  have hlk := (show KMap w2.drew mb n (findP l) from ⟨HKM2.out.ex⟩).look p.h HHH.out
  have d0 := HBK2.out.cell 0
  have d1 := HBK2.out.cell 1
  simp at d0 d1
  clear hb2 hW c0 c1 hrg2 hrh2 HRG39 HRH
  rw [hf] at hlk
  simp only [Option.getD_none, Option.isSome_none] at hlk
  clear hi hID
  have HRG5 := HRG
  generalize hhs : hashV p.h = hs at HRG hlk
  have HSIs := HSI
  rw [hhs] at HSI
  go_wp2_with fail
  refine wp_region_held_drew (S := fun w' => w' = w2.drew) (by kernel_rfl) rfl (fun hHeld => ?_)
  refine wpAnyH_takeD (i := 0) (d := 17) (oi := _) (v := ?_) rfl rfl (by kernel_rfl) (by kernel_rfl) (by kernel_rfl) (fun _ _ _ h => h) (Or.inl ⟨by rfl, ?_⟩) (by assumption) ?_
  rotate_left
  · (intro w hSw; (try dsimp only at hSw); go_simp) <;> with_reducible rfl
  simp only [Act.put, List.setIfInBounds_toArray, List.set_cons_zero, List.set_cons_succ]
  refine wpAnyH_takeD (i := 1) (d := 18) (oi := _) (v := ?_) rfl rfl (by kernel_rfl) (by kernel_rfl) (by kernel_rfl) (fun _ _ _ h => h) (Or.inl ⟨by rfl, ?_⟩) (by assumption) ?_
  rotate_left
  · (intro w hSw; (try dsimp only at hSw); go_simp) <;> with_reducible rfl
  simp only [Act.put, List.setIfInBounds_toArray, List.set_cons_zero, List.set_cons_succ]
  refine wpAnyH_takeD (i := 2) (d := 19) (oi := _) (v := ?_) rfl rfl (by kernel_rfl) (by kernel_rfl) (by kernel_rfl) (fun _ _ _ h => h) (Or.inl ⟨by rfl, ?_⟩) (by assumption) ?_
  rotate_left
  · (intro w hSw; (try dsimp only at hSw); go_simp) <;> with_reducible rfl
  simp only [Act.put, List.setIfInBounds_toArray, List.set_cons_zero, List.set_cons_succ]
  refine wpAnyH_takeD (i := 3) (d := 20) (oi := _) (v := ?_) rfl rfl (by kernel_rfl) (by kernel_rfl) (by kernel_rfl) (fun _ _ _ h => h) (Or.inl ⟨by rfl, ?_⟩) (by assumption) ?_
  rotate_left
  · (intro w hSw; (try dsimp only at hSw); go_simp) <;> with_reducible rfl
  simp only [Act.put, List.setIfInBounds_toArray, List.set_cons_zero, List.set_cons_succ]
  refine wpAnyH_takeD (i := 4) (d := 21) (oi := _) (v := ?_) rfl rfl (by kernel_rfl) (by kernel_rfl) (by kernel_rfl) (fun _ _ _ h => h) (Or.inl ⟨by rfl, ?_⟩) (by assumption) ?_
  rotate_left
  · (intro w hSw; (try dsimp only at hSw); go_simp) <;> with_reducible rfl
  simp only [Act.put, List.setIfInBounds_toArray, List.set_cons_zero, List.set_cons_succ]
  refine wpAnyH_takeD (i := 5) (d := 22) (oi := _) (v := .agg (hs).toArray) rfl rfl (by kernel_rfl) (by kernel_rfl) (by kernel_rfl) (fun _ _ _ h => h) (yieldsIf_load_mid (by rfl) 50 (.tmp 21) rfl w.heap.size 0 rfl (hs) _ (fun w hw => by subst hw; exact HRG.out) Try.underlying50 rfl HSI.out) (by assumption) ?_
  simp only [Act.put, List.setIfInBounds_toArray, List.set_cons_zero, List.set_cons_succ]
  refine wpAnyH_takeD (i := 6) (d := 23) (oi := _) (v := ?_) rfl rfl (by kernel_rfl) (by kernel_rfl) (by kernel_rfl) (fun _ _ _ h => h) (Or.inl ⟨by rfl, ?_⟩) (by assumption) ?_
  rotate_left
  · (intro w hSw; (try dsimp only at hSw); go_simp) <;> with_reducible rfl
  simp only [Act.put, List.setIfInBounds_toArray, List.set_cons_zero, List.set_cons_succ]
  refine wpAnyH_takeD (i := 7) (d := 16) (oi := _) (v := ?_) rfl rfl (by kernel_rfl) (by kernel_rfl) (by kernel_rfl) (fun _ _ _ h => h) (Or.inl ⟨by rfl, ?_⟩) (by assumption) ?_
  rotate_left
  · (intro w hSw; (try dsimp only at hSw); go_simp) <;> with_reducible rfl
  simp only [Act.put, List.setIfInBounds_toArray, List.set_cons_zero, List.set_cons_succ]
  refine wpAnyH_takeD (i := 8) (d := 24) (oi := _) (v := ?_) rfl rfl (by kernel_rfl) (by kernel_rfl) (by kernel_rfl) (fun _ _ _ h => h) (Or.inl ⟨by rfl, ?_⟩) (by assumption) ?_
  rotate_left
  · (intro w hSw; (try dsimp only at hSw); go_simp) <;> with_reducible rfl
  simp only [Act.put, List.setIfInBounds_toArray, List.set_cons_zero, List.set_cons_succ]
  refine wpAnyH_takeD (i := 9) (d := 25) (oi := _) (v := ?_) rfl rfl (by kernel_rfl) (by kernel_rfl) (by kernel_rfl) (fun _ _ _ h => h) (Or.inl ⟨by rfl, ?_⟩) (by assumption) ?_
  rotate_left
  · (intro w hSw; (try dsimp only at hSw); go_simp) <;> with_reducible rfl
  simp only [Act.put, List.setIfInBounds_toArray, List.set_cons_zero, List.set_cons_succ]
  refine wpAnyH_takeD (i := 10) (d := 7) (oi := _) (v := ?_) rfl rfl (by kernel_rfl) (by kernel_rfl) (by kernel_rfl) (fun _ _ _ h => h) (Or.inl ⟨by rfl, ?_⟩) (by assumption) ?_
  rotate_left
  · (intro w hSw; (try dsimp only at hSw); go_simp) <;> with_reducible rfl
  simp only [Act.put, List.setIfInBounds_toArray, List.set_cons_zero, List.set_cons_succ]
  refine wpAnyH_takeD (i := 11) (d := 8) (oi := _) (v := ?_) rfl rfl (by kernel_rfl) (by kernel_rfl) (by kernel_rfl) (fun _ _ _ h => h) (Or.inl ⟨by rfl, ?_⟩) (by assumption) ?_
  rotate_left
  · (intro w hSw; (try dsimp only at hSw); go_simp) <;> with_reducible rfl
  simp only [Act.put, List.setIfInBounds_toArray, List.set_cons_zero, List.set_cons_succ]
  refine wpAnyH_done (by kernel_rfl) ?_ _
  have HSI := HSIs
  subst hps
  subst hhs
  go_wp2_with fail
  have hbk3 : Blk w2.drew g 108 #[.slice A L c, .map (some mb)] := HBK2.out
  have how3 : RowP B w2.drew (.slice A L c) L (flatP l) := HOW2.out
  have hkm3 : KMap w2.drew mb n (findP l) := ⟨HKM2.out.ex⟩
  have hrg3 : w2.drew.rangeAt w.heap.size 0 p.cells := HRG2.out
  have hrh3 : w2.drew.rangeAt w.heap.size 0 (hashV p.h) := HRG5.out
  have hbb3 : Below w.heap.size w w2.drew := HB2.out.drew
  have hgb3 : w.heap.size < w2.drew.heap.size := by
    have h1 := HRG2.out 20 _ (Pc.cell_s hp)
    exact World.block_lt_of_cell? _ _ h1
  clear hlk d0 d1 HRG HRG5 HBK2 HOW2 HKM2 HRG2 HB2 HAL HBK HOW HKM HNO HRI
  generalize w2.drew = w3 at *
  have q0 := hbk3.cell 0
  simp at q0
  have hgl := hbk3.lt
  have had := fun (v4 : Value) (w4 : World) (o4 : w4.ownsRow B 52 23 v4 (L + 1) (flatP l ++ p.cells)) (hg4 : (w3.drew.alloc (.cells p.cells.toArray 52)).grownBy w4 (Value.slice A L c).ownBlock) (hl4 : v4.ownBlock = (Value.slice A L c).ownBlock ∨ ∀ k, v4.ownBlock = some k → (w3.drew.alloc (.cells p.cells.toArray 52)).heap.size ≤ k) => ad4_of (fun k hk => (hvl k hk).2) hgb3 hbk3 how3 hkm3 hrg3 hrh3 o4 hg4 hl4
  have hsA : (w3.drew.alloc (.cells p.cells.toArray 52)).rangeAt w.heap.size 0 p.cells := fun j y hy => by
    rw [World.cell?_alloc_lt w3.drew _ ⟨w.heap.size, 0 + j, none⟩ hgb3]
    exact hrg3 j y hy
  have hnb := Blk.new w3.drew 52 p.cells.toArray
  have hbsz : B ≤ (w3.drew.alloc (.cells p.cells.toArray 52)).heap.size := by
    have h1 : (w3.drew.alloc (.cells p.cells.toArray 52)).heap.size = w3.heap.size + 1 := Array.size_push ..
    have := HID.out.ge
    omega
  have HOWA := Lib.hid (RowP.frm (S := fun _ => False) how3 ((Frm.refl _ w3).drew.alloc (.cells p.cells.toArray 52)) (fun _ _ h => h))
  have HPS1 := Lib.hid (Pc.cells_length hp)
  have HPS2 := Lib.hid (Pc.cells_one p)
  have HNB := Lib.hid hnb
  have HBSZ := Lib.hid hbsz
  have HGG := Lib.hid (show g ≠ w.heap.size by omega)
  have HNN := Lib.hid (show n < 100000 by omega)
  have HSA := Lib.hid hsA
  have HSW := Lib.hid hbb3.size
  have HFW := Lib.hid (Frm.of_below (S := fun _ => False) hbb3)
  have HLL := Lib.hid hL
  have HLO := Lib.hid HID.out.ge
  have HPO := Lib.hid hp
  have HFN := Lib.hid hf
  have HS0 := Lib.hid (show w3.drew.rangeAt w.heap.size 0 p.cells from hrg3)
  have HAD := Lib.hid had
  clear hbk3 how3 hkm3 hrg3 hrh3 hbb3 had hsA hnb hbsz hL hp hf hvl hr
  have gp : g < w3.heap.size := hgl
  have hpl := HPS1.out
  have hfold := fold_set p.cells #[.int .u8 0, .int .u8 0, .int .u8 0, .int .u8 0, .int .u8 0, .int .u8 0, .int .u8 0, .int .u8 0, .int .u8 0, .int .u8 0, .int .u8 0, .int .u8 0, .int .u8 0, .int .u8 0, .int .u8 0, .int .u8 0, .int .u8 0, .int .u8 0, .int .u8 0, .int .u8 0, .int .i64 0, .int .i64 0, .int .i64 0] (by rw [hpl]; rfl)
  refine wp_region_held_drew (S := fun w' => w'.rangeAt w.heap.size 0 p.cells) (by kernel_rfl) HS0.out (fun hHeld => ?_)
  refine wpAnyH_takeD (i := 0) (d := 34) (oi := _) (v := ?_) rfl rfl (by kernel_rfl) (by kernel_rfl) (by kernel_rfl) (fun _ _ _ h => h) (Or.inl ⟨by rfl, ?_⟩) (by assumption) ?_
  rotate_left
  · (intro w hSw; (try dsimp only at hSw); go_simp) <;> with_reducible rfl
  simp only [Act.put, List.setIfInBounds_toArray, List.set_cons_zero, List.set_cons_succ]
  refine wpAnyH_takeD (i := 1) (d := 35) (oi := _) (v := ?_) rfl rfl (by kernel_rfl) (by kernel_rfl) (by kernel_rfl) (fun _ _ _ h => h) (Or.inl ⟨by rfl, ?_⟩) (by assumption) ?_
  rotate_left
  · (intro w hSw; (try dsimp only at hSw); go_simp) <;> with_reducible rfl
  simp only [Act.put, List.setIfInBounds_toArray, List.set_cons_zero, List.set_cons_succ]
  refine wpAnyH_takeD (i := 2) (d := 36) (oi := _) (v := ?_) rfl rfl (by kernel_rfl) (by kernel_rfl) (by kernel_rfl) (fun _ _ _ h => h) (Or.inl ⟨by rfl, ?_⟩) (by assumption) ?_
  rotate_left
  · (intro w hSw; (try dsimp only at hSw); go_simp) <;> with_reducible rfl
  simp only [Act.put, List.setIfInBounds_toArray, List.set_cons_zero, List.set_cons_succ]
  refine wpAnyH_takeD (i := 3) (d := 37) (oi := _) (v := ?_) rfl rfl (by kernel_rfl) (by kernel_rfl) (by kernel_rfl) (fun _ _ _ h => h) (Or.inl ⟨by rfl, ?_⟩) (by assumption) ?_
  rotate_left
  · (intro w hSw; (try dsimp only at hSw); go_simp) <;> with_reducible rfl
  simp only [Act.put, List.setIfInBounds_toArray, List.set_cons_zero, List.set_cons_succ]
  refine wpAnyH_takeD (i := 5) (d := 39) (oi := _) (v := .agg (p.cells).toArray) rfl rfl (by kernel_rfl) (by kernel_rfl) (by kernel_rfl) (fun _ _ _ h => h) (yieldsIf_load_mid (by rfl) 52 (.tmp 3) rfl w.heap.size 0 rfl (p.cells) _ (fun w hw => hw) Try.underlying52 rfl HSI39.out) (by assumption) ?_
  simp only [Act.put, List.setIfInBounds_toArray, List.set_cons_zero, List.set_cons_succ]
  refine wpAnyH_ready (rs := [4, 6]) (by kernel_rfl) (by simp) ?_
  refine AllReadyH.cons (o := _) rfl (fun K hK => ?_) (AllReadyH.cons (o := _) rfl (fun K hK => ?_) AllReadyH.nil)
  · go_simp
    refine hK.out _ _ hHeld (fun hHeld => ?_)
    clear hK K
    try simp only [Act.put, List.setIfInBounds_toArray, List.set_cons_zero, List.set_cons_succ]
    refine wpAnyH_ready (rs := [6]) (by kernel_rfl) (by simp) ?_
    refine AllReadyH.cons (o := _) rfl (fun K hK => ?_) AllReadyH.nil
    go_simp
    refine hK.out _ _ HSA.out (fun hHeld => ?_)
    clear hK K
    try simp only [Act.put, List.setIfInBounds_toArray, List.set_cons_zero, List.set_cons_succ]
    refine wpAnyH_ready (rs := [7]) (by kernel_rfl) (by simp) ?_
    refine AllReadyH.cons (o := _) rfl (fun K hK => ?_) AllReadyH.nil
    refine step_appS tPcs rfl (.tmp 38) (.tmp 40) rfl B (.slice A L c) L (flatP l) rfl (appOf_row HOWA.out) p.cells HPS1.out HPS2.out w3.heap.size rfl HNB.out (by omega) (by unfold maxLen; omega) HBSZ.out ?_
    intro v4 w4 o4 hg4 hl4
    have HA4 := Lib.hid (HAD.out v4 w4 o4 hg4 hl4)
    have hs4 := HA4.out.rg
    try simp only [Act.put, List.setIfInBounds_toArray, List.set_cons_zero, List.set_cons_succ]
    refine hK.out _ _ hs4 (fun hHeld => ?_)
    clear hK K
    try simp only [Act.put, List.setIfInBounds_toArray, List.set_cons_zero, List.set_cons_succ]
    obtain ⟨A4, c4, hv4, hc4⟩ := own_slice HA4.out.own
    subst hv4
    have q0 := HA4.out.blk.cell 0
    have qf := HA4.out.blk.frozen 0
    simp at q0
    have HA5 := Lib.hid (ad5_of HGG.out HA4.out)
    have hs5 := HA5.out.rg
    refine wpAnyH_takeD (i := 8) (d := 42) (oi := _) (v := ?_) rfl rfl (by kernel_rfl) (by kernel_rfl) (by kernel_rfl) (fun _ _ _ h => h) (Or.inl ⟨by rfl, ?_⟩) (by assumption) ?_
    rotate_left
    · (intro w hSw; (try dsimp only at hSw); go_simp) <;> with_reducible rfl
    simp only [Act.put, List.setIfInBounds_toArray, List.set_cons_zero, List.set_cons_succ]
    refine wpAnyH_takeD (i := 9) (d := 43) (oi := _) (v := ?_) rfl rfl (by kernel_rfl) (by kernel_rfl) (by kernel_rfl) (fun _ _ _ h => h) (Or.inl ⟨by rfl, ?_⟩) (by assumption) ?_
    rotate_left
    · (intro w hSw; (try dsimp only at hSw); go_simp) <;> with_reducible rfl
    simp only [Act.put, List.setIfInBounds_toArray, List.set_cons_zero, List.set_cons_succ]
    refine wpAnyH_ready (rs := [10]) (by kernel_rfl) (by simp) ?_
    refine AllReadyH.cons (o := _) rfl (fun K hK => ?_) AllReadyH.nil
    go_simp
    refine hK.out _ _ hs5 (fun hHeld => ?_)
    clear hK K
    try simp only [Act.put, List.setIfInBounds_toArray, List.set_cons_zero, List.set_cons_succ]
    refine wpAnyH_done (by kernel_rfl) ?_ _
    clear q0 qf hs4 o4 hg4 hl4
    generalize w4.setCell ⟨g, 0, none⟩ (.slice A4 (L + 1) c4) = w5 at HA5 hs5 hHeld ⊢
    have p0 := HA5.out.blk.cell 0
    have p1 := HA5.out.blk.cell 1
    simp at p0 p1
    obtain ⟨w6, hst, hk6, hg6⟩ := (show KMap w5.drew mb n (findP l) from ⟨HA5.out.map.ex⟩).store HNN.out p.h HHH.out (L + 1) (by omega)
    have hS6 := ad6_S HA5.out hg6
    have HS6 := Lib.hid hS6
    have HK6 := Lib.hid hk6
    have HG6 := Lib.hid hg6
    have HRH5 := Lib.hid (show w5.drew.rangeAt w.heap.size 0 (hashV p.h) from HA5.out.rh)
    clear hS6 hk6 hg6 hs5
    rw [show ((L + 1 : Nat) : Int) = (L : Int) + 1 from rfl] at hst
    generalize hashV p.h = hs at HRH5 HSI hst HS6
    go_wp2_with fail
    refine wp_region_held_drew (S := fun w' => w'.cell? ⟨g, 1, none⟩ = some (.map (some mb)) ∧ w'.cell? ⟨g, 0, none⟩ = some (.slice A4 (L + 1) c4) ∧ w'.rangeAt w.heap.size 0 hs) (by kernel_rfl) ⟨p1, p0, HRH5.out⟩ (fun hHeld => ?_)
    refine wpAnyH_takeD (i := 0) (d := 44) (oi := _) (v := ?_) rfl rfl (by kernel_rfl) (by kernel_rfl) (by kernel_rfl) (fun _ _ _ h => h) (Or.inl ⟨by rfl, ?_⟩) (by assumption) ?_
    rotate_left
    · (intro w hSw; (try dsimp only at hSw); go_simp) <;> with_reducible rfl
    simp only [Act.put, List.setIfInBounds_toArray, List.set_cons_zero, List.set_cons_succ]
    refine wpAnyH_takeD (i := 1) (d := 45) (oi := _) (v := ?_) rfl rfl (by kernel_rfl) (by kernel_rfl) (by kernel_rfl) (fun _ _ _ h => h) (Or.inl ⟨by rfl, ?_⟩) (by assumption) ?_
    rotate_left
    · (intro w hSw; (try dsimp only at hSw); go_simp) <;> with_reducible rfl
    simp only [Act.put, List.setIfInBounds_toArray, List.set_cons_zero, List.set_cons_succ]
    refine wpAnyH_takeD (i := 2) (d := 46) (oi := _) (v := ?_) rfl rfl (by kernel_rfl) (by kernel_rfl) (by kernel_rfl) (fun _ _ _ h => h) (Or.inl ⟨by rfl, ?_⟩) (by assumption) ?_
    rotate_left
    · (intro w hSw; (try dsimp only at hSw); go_simp) <;> with_reducible rfl
    simp only [Act.put, List.setIfInBounds_toArray, List.set_cons_zero, List.set_cons_succ]
    refine wpAnyH_takeD (i := 3) (d := 47) (oi := _) (v := ?_) rfl rfl (by kernel_rfl) (by kernel_rfl) (by kernel_rfl) (fun _ _ _ h => h) (Or.inl ⟨by rfl, ?_⟩) (by assumption) ?_
    rotate_left
    · (intro w hSw; (try dsimp only at hSw); go_simp) <;> with_reducible rfl
    simp only [Act.put, List.setIfInBounds_toArray, List.set_cons_zero, List.set_cons_succ]
    refine wpAnyH_takeD (i := 4) (d := 48) (oi := _) (v := ?_) rfl rfl (by kernel_rfl) (by kernel_rfl) (by kernel_rfl) (fun _ _ _ h => h) (Or.inl ⟨by rfl, ?_⟩) (by assumption) ?_
    rotate_left
    · (intro w hSw; (try dsimp only at hSw); go_simp) <;> with_reducible rfl
    simp only [Act.put, List.setIfInBounds_toArray, List.set_cons_zero, List.set_cons_succ]
    refine wpAnyH_takeD (i := 5) (d := 49) (oi := _) (v := .agg (hs).toArray) rfl rfl (by kernel_rfl) (by kernel_rfl) (by kernel_rfl) (fun _ _ _ h => h) (yieldsIf_load_mid (by rfl) 50 (.tmp 48) rfl w.heap.size 0 rfl (hs) _ (fun w hw => hw.2.2) Try.underlying50 rfl HSI.out) (by assumption) ?_
    simp only [Act.put, List.setIfInBounds_toArray, List.set_cons_zero, List.set_cons_succ]
    refine wpAnyH_takeD (i := 6) (d := 50) (oi := _) (v := ?_) rfl rfl (by kernel_rfl) (by kernel_rfl) (by kernel_rfl) (fun _ _ _ h => h) (Or.inl ⟨by rfl, ?_⟩) (by assumption) ?_
    rotate_left
    · (intro w hSw; (try dsimp only at hSw); go_simp) <;> with_reducible rfl
    simp only [Act.put, List.setIfInBounds_toArray, List.set_cons_zero, List.set_cons_succ]
    refine wpAnyH_takeD (i := 7) (d := 51) (oi := _) (v := ?_) rfl rfl (by kernel_rfl) (by kernel_rfl) (by kernel_rfl) (fun _ _ _ h => h) (Or.inl ⟨by rfl, ?_⟩) (by assumption) ?_
    rotate_left
    · (intro w hSw; (try dsimp only at hSw); go_simp) <;> with_reducible rfl
    simp only [Act.put, List.setIfInBounds_toArray, List.set_cons_zero, List.set_cons_succ]
    refine wpAnyH_takeD (i := 8) (d := 52) (oi := _) (v := ?_) rfl rfl (by kernel_rfl) (by kernel_rfl) (by kernel_rfl) (fun _ _ _ h => h) (Or.inl ⟨by rfl, ?_⟩) (by assumption) ?_
    rotate_left
    · (intro w hSw; (try dsimp only at hSw); go_simp) <;> with_reducible rfl
    simp only [Act.put, List.setIfInBounds_toArray, List.set_cons_zero, List.set_cons_succ]
    refine wpAnyH_takeD (i := 9) (d := 53) (oi := _) (v := ?_) rfl rfl (by kernel_rfl) (by kernel_rfl) (by kernel_rfl) (fun _ _ _ h => h) (Or.inl ⟨by rfl, ?_⟩) (by assumption) ?_
    rotate_left
    · (intro w hSw; (try dsimp only at hSw); go_simp) <;> with_reducible rfl
    simp only [Act.put, List.setIfInBounds_toArray, List.set_cons_zero, List.set_cons_succ]
    refine wpAnyH_takeD (i := 10) (d := 54) (oi := _) (v := ?_) rfl rfl (by kernel_rfl) (by kernel_rfl) (by kernel_rfl) (fun _ _ _ h => h) (Or.inl ⟨by rfl, ?_⟩) (by assumption) ?_
    rotate_left
    · (intro w hSw; (try dsimp only at hSw); go_simp) <;> with_reducible rfl
    simp only [Act.put, List.setIfInBounds_toArray, List.set_cons_zero, List.set_cons_succ]
    refine wpAnyH_ready (rs := [11]) (by kernel_rfl) (by simp) ?_
    refine AllReadyH.cons (o := _) rfl (fun K hK => ?_) AllReadyH.nil
    go_simp
    refine hK.out _ _ HS6.out (fun hHeld => ?_)
    clear hK K
    try simp only [Act.put, List.setIfInBounds_toArray, List.set_cons_zero, List.set_cons_succ]
    refine wpAnyH_done (by kernel_rfl) ?_ _
    have s0 := HS6.out.2.1
    go_wp2_with fail
    exact bodyPost_ret (v := .tuple #[.int .i64 ((L : Int) + 1), .bool true, .int .i64 0]) (by simp [results, Try.results37, go_sem]) rfl (ad6_of HID.out HPO.out HFN.out HLL.out HLO.out HSW.out HFW.out HA4.out.new HA5.out HK6.out HG6.out)
  · go_simp
    refine hK.out _ _ HSA.out (fun hHeld => ?_)
    clear hK K
    try simp only [Act.put, List.setIfInBounds_toArray, List.set_cons_zero, List.set_cons_succ]
    refine wpAnyH_ready (rs := [4]) (by kernel_rfl) (by simp) ?_
    refine AllReadyH.cons (o := _) rfl (fun K hK => ?_) AllReadyH.nil
    go_simp
    refine hK.out _ _ HSA.out (fun hHeld => ?_)
    clear hK K
    try simp only [Act.put, List.setIfInBounds_toArray, List.set_cons_zero, List.set_cons_succ]
    refine wpAnyH_ready (rs := [7]) (by kernel_rfl) (by simp) ?_
    refine AllReadyH.cons (o := _) rfl (fun K hK => ?_) AllReadyH.nil
    refine step_appS tPcs rfl (.tmp 38) (.tmp 40) rfl B (.slice A L c) L (flatP l) rfl (appOf_row HOWA.out) p.cells HPS1.out HPS2.out w3.heap.size rfl HNB.out (by omega) (by unfold maxLen; omega) HBSZ.out ?_
    intro v4 w4 o4 hg4 hl4
    have HA4 := Lib.hid (HAD.out v4 w4 o4 hg4 hl4)
    have hs4 := HA4.out.rg
    try simp only [Act.put, List.setIfInBounds_toArray, List.set_cons_zero, List.set_cons_succ]
    refine hK.out _ _ hs4 (fun hHeld => ?_)
    clear hK K
    try simp only [Act.put, List.setIfInBounds_toArray, List.set_cons_zero, List.set_cons_succ]
    obtain ⟨A4, c4, hv4, hc4⟩ := own_slice HA4.out.own
    subst hv4
    have q0 := HA4.out.blk.cell 0
    have qf := HA4.out.blk.frozen 0
    simp at q0
    have HA5 := Lib.hid (ad5_of HGG.out HA4.out)
    have hs5 := HA5.out.rg
    refine wpAnyH_takeD (i := 8) (d := 42) (oi := _) (v := ?_) rfl rfl (by kernel_rfl) (by kernel_rfl) (by kernel_rfl) (fun _ _ _ h => h) (Or.inl ⟨by rfl, ?_⟩) (by assumption) ?_
    rotate_left
    · (intro w hSw; (try dsimp only at hSw); go_simp) <;> with_reducible rfl
    simp only [Act.put, List.setIfInBounds_toArray, List.set_cons_zero, List.set_cons_succ]
    refine wpAnyH_takeD (i := 9) (d := 43) (oi := _) (v := ?_) rfl rfl (by kernel_rfl) (by kernel_rfl) (by kernel_rfl) (fun _ _ _ h => h) (Or.inl ⟨by rfl, ?_⟩) (by assumption) ?_
    rotate_left
    · (intro w hSw; (try dsimp only at hSw); go_simp) <;> with_reducible rfl
    simp only [Act.put, List.setIfInBounds_toArray, List.set_cons_zero, List.set_cons_succ]
    refine wpAnyH_ready (rs := [10]) (by kernel_rfl) (by simp) ?_
    refine AllReadyH.cons (o := _) rfl (fun K hK => ?_) AllReadyH.nil
    go_simp
    refine hK.out _ _ hs5 (fun hHeld => ?_)
    clear hK K
    try simp only [Act.put, List.setIfInBounds_toArray, List.set_cons_zero, List.set_cons_succ]
    refine wpAnyH_done (by kernel_rfl) ?_ _
    clear q0 qf hs4 o4 hg4 hl4
    generalize w4.setCell ⟨g, 0, none⟩ (.slice A4 (L + 1) c4) = w5 at HA5 hs5 hHeld ⊢
    have p0 := HA5.out.blk.cell 0
    have p1 := HA5.out.blk.cell 1
    simp at p0 p1
    obtain ⟨w6, hst, hk6, hg6⟩ := (show KMap w5.drew mb n (findP l) from ⟨HA5.out.map.ex⟩).store HNN.out p.h HHH.out (L + 1) (by omega)
    have hS6 := ad6_S HA5.out hg6
    have HS6 := Lib.hid hS6
    have HK6 := Lib.hid hk6
    have HG6 := Lib.hid hg6
    have HRH5 := Lib.hid (show w5.drew.rangeAt w.heap.size 0 (hashV p.h) from HA5.out.rh)
    clear hS6 hk6 hg6 hs5
    rw [show ((L + 1 : Nat) : Int) = (L : Int) + 1 from rfl] at hst
    generalize hashV p.h = hs at HRH5 HSI hst HS6
    go_wp2_with fail
    refine wp_region_held_drew (S := fun w' => w'.cell? ⟨g, 1, none⟩ = some (.map (some mb)) ∧ w'.cell? ⟨g, 0, none⟩ = some (.slice A4 (L + 1) c4) ∧ w'.rangeAt w.heap.size 0 hs) (by kernel_rfl) ⟨p1, p0, HRH5.out⟩ (fun hHeld => ?_)
    refine wpAnyH_takeD (i := 0) (d := 44) (oi := _) (v := ?_) rfl rfl (by kernel_rfl) (by kernel_rfl) (by kernel_rfl) (fun _ _ _ h => h) (Or.inl ⟨by rfl, ?_⟩) (by assumption) ?_
    rotate_left
    · (intro w hSw; (try dsimp only at hSw); go_simp) <;> with_reducible rfl
    simp only [Act.put, List.setIfInBounds_toArray, List.set_cons_zero, List.set_cons_succ]
    refine wpAnyH_takeD (i := 1) (d := 45) (oi := _) (v := ?_) rfl rfl (by kernel_rfl) (by kernel_rfl) (by kernel_rfl) (fun _ _ _ h => h) (Or.inl ⟨by rfl, ?_⟩) (by assumption) ?_
    rotate_left
    · (intro w hSw; (try dsimp only at hSw); go_simp) <;> with_reducible rfl
    simp only [Act.put, List.setIfInBounds_toArray, List.set_cons_zero, List.set_cons_succ]
    refine wpAnyH_takeD (i := 2) (d := 46) (oi := _) (v := ?_) rfl rfl (by kernel_rfl) (by kernel_rfl) (by kernel_rfl) (fun _ _ _ h => h) (Or.inl ⟨by rfl, ?_⟩) (by assumption) ?_
    rotate_left
    · (intro w hSw; (try dsimp only at hSw); go_simp) <;> with_reducible rfl
    simp only [Act.put, List.setIfInBounds_toArray, List.set_cons_zero, List.set_cons_succ]
    refine wpAnyH_takeD (i := 3) (d := 47) (oi := _) (v := ?_) rfl rfl (by kernel_rfl) (by kernel_rfl) (by kernel_rfl) (fun _ _ _ h => h) (Or.inl ⟨by rfl, ?_⟩) (by assumption) ?_
    rotate_left
    · (intro w hSw; (try dsimp only at hSw); go_simp) <;> with_reducible rfl
    simp only [Act.put, List.setIfInBounds_toArray, List.set_cons_zero, List.set_cons_succ]
    refine wpAnyH_takeD (i := 4) (d := 48) (oi := _) (v := ?_) rfl rfl (by kernel_rfl) (by kernel_rfl) (by kernel_rfl) (fun _ _ _ h => h) (Or.inl ⟨by rfl, ?_⟩) (by assumption) ?_
    rotate_left
    · (intro w hSw; (try dsimp only at hSw); go_simp) <;> with_reducible rfl
    simp only [Act.put, List.setIfInBounds_toArray, List.set_cons_zero, List.set_cons_succ]
    refine wpAnyH_takeD (i := 5) (d := 49) (oi := _) (v := .agg (hs).toArray) rfl rfl (by kernel_rfl) (by kernel_rfl) (by kernel_rfl) (fun _ _ _ h => h) (yieldsIf_load_mid (by rfl) 50 (.tmp 48) rfl w.heap.size 0 rfl (hs) _ (fun w hw => hw.2.2) Try.underlying50 rfl HSI.out) (by assumption) ?_
    simp only [Act.put, List.setIfInBounds_toArray, List.set_cons_zero, List.set_cons_succ]
    refine wpAnyH_takeD (i := 6) (d := 50) (oi := _) (v := ?_) rfl rfl (by kernel_rfl) (by kernel_rfl) (by kernel_rfl) (fun _ _ _ h => h) (Or.inl ⟨by rfl, ?_⟩) (by assumption) ?_
    rotate_left
    · (intro w hSw; (try dsimp only at hSw); go_simp) <;> with_reducible rfl
    simp only [Act.put, List.setIfInBounds_toArray, List.set_cons_zero, List.set_cons_succ]
    refine wpAnyH_takeD (i := 7) (d := 51) (oi := _) (v := ?_) rfl rfl (by kernel_rfl) (by kernel_rfl) (by kernel_rfl) (fun _ _ _ h => h) (Or.inl ⟨by rfl, ?_⟩) (by assumption) ?_
    rotate_left
    · (intro w hSw; (try dsimp only at hSw); go_simp) <;> with_reducible rfl
    simp only [Act.put, List.setIfInBounds_toArray, List.set_cons_zero, List.set_cons_succ]
    refine wpAnyH_takeD (i := 8) (d := 52) (oi := _) (v := ?_) rfl rfl (by kernel_rfl) (by kernel_rfl) (by kernel_rfl) (fun _ _ _ h => h) (Or.inl ⟨by rfl, ?_⟩) (by assumption) ?_
    rotate_left
    · (intro w hSw; (try dsimp only at hSw); go_simp) <;> with_reducible rfl
    simp only [Act.put, List.setIfInBounds_toArray, List.set_cons_zero, List.set_cons_succ]
    refine wpAnyH_takeD (i := 9) (d := 53) (oi := _) (v := ?_) rfl rfl (by kernel_rfl) (by kernel_rfl) (by kernel_rfl) (fun _ _ _ h => h) (Or.inl ⟨by rfl, ?_⟩) (by assumption) ?_
    rotate_left
    · (intro w hSw; (try dsimp only at hSw); go_simp) <;> with_reducible rfl
    simp only [Act.put, List.setIfInBounds_toArray, List.set_cons_zero, List.set_cons_succ]
    refine wpAnyH_takeD (i := 10) (d := 54) (oi := _) (v := ?_) rfl rfl (by kernel_rfl) (by kernel_rfl) (by kernel_rfl) (fun _ _ _ h => h) (Or.inl ⟨by rfl, ?_⟩) (by assumption) ?_
    rotate_left
    · (intro w hSw; (try dsimp only at hSw); go_simp) <;> with_reducible rfl
    simp only [Act.put, List.setIfInBounds_toArray, List.set_cons_zero, List.set_cons_succ]
    refine wpAnyH_ready (rs := [11]) (by kernel_rfl) (by simp) ?_
    refine AllReadyH.cons (o := _) rfl (fun K hK => ?_) AllReadyH.nil
    go_simp
    refine hK.out _ _ HS6.out (fun hHeld => ?_)
    clear hK K
    try simp only [Act.put, List.setIfInBounds_toArray, List.set_cons_zero, List.set_cons_succ]
    refine wpAnyH_done (by kernel_rfl) ?_ _
    have s0 := HS6.out.2.1
    go_wp2_with fail
    exact bodyPost_ret (v := .tuple #[.int .i64 ((L : Int) + 1), .bool true, .int .i64 0]) (by simp [results, Try.results37, go_sem]) rfl (ad6_of HID.out HPO.out HFN.out HLL.out HLO.out HSW.out HFW.out HA4.out.new HA5.out HK6.out HG6.out)
end Go.Proofs.Ytlhhkmpidnegcaa
