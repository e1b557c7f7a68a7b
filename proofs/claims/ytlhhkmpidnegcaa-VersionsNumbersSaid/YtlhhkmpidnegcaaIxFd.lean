/- The index: Find. -/
import Derived.Test.YtlhhkmpidnegcaaIxOb
namespace Go.Proofs.Ytlhhkmpidnegcaa
open Go.RowKit Go.WideShapes Go.Maps
set_option linter.unusedVariables false
set_option linter.unusedSimpArgs false
set_option maxRecDepth 100000
structure Found (f : Option Nat) (w0 : World) (e : Ending) (w : World) : Prop where
  ret : e = .returned (.tuple #[.int .i64 (f.getD 0 : Nat), .bool f.isSome])
  low : Below w0.heap.size w0 w
set_option maxHeartbeats 1000000 in
theorem find_any {B g mb n : Nat} {l : List Pc} {v : Value} (h : List Int) (w : World) (hi : Idx B w g mb n l v) (hh : IsHash h) :
    Calls Try.prog 44 #[.pointer (some ⟨g, 0, none⟩), .agg (hashV h).toArray] w (Found (findP l h) w) := by
  have hal := (Below.refl w.heap.size w).alloc (Nat.le_refl _) (.cells (hashV h).toArray 50)
  have hi2 := hi.below hal
  have hno := none_made g mb v (w.alloc (.cells (hashV h).toArray 50)) hi2.blk
  have hlk := (show KMap (w.alloc (.cells (hashV h).toArray 50)).drew mb n (findP l) from ⟨hi2.map.ex⟩).look h hh
  have c1 := hi2.blk.cell 1
  have hrg : (w.alloc (.cells (hashV h).toArray 50)).drew.rangeAt w.heap.size 0 (hashV h) := fun j y hy => by
    have := (Blk.new w 50 (hashV h).toArray).cell j
    rw [Nat.zero_add]
    exact this.trans (by rw [List.getElem?_toArray]; exact hy)
  have hsi : (Try.prog.info? 50).map (·.size) = some (hashV h).length := by rw [hashV_length, hh.len]; exact size37
  obtain ⟨i, hi'⟩ : ∃ i, (findP l h).getD 0 = i := ⟨_, rfl⟩
  obtain ⟨bo, hbo⟩ : ∃ bo, (findP l h).isSome = bo := ⟨_, rfl⟩
  rw [hi', hbo] at hlk
  simp at c1
  have HI := Lib.hid hi'
  have HBO := Lib.hid hbo
  have HRG := Lib.hid hrg
  have HSI := Lib.hid hsi
  have HAL := Lib.hid hal
  have HNO := Lib.hid hno
  generalize hashV h = hs at *
  clear hi hi2 hno hrg hsi hal hi' hbo
  go_enter Try.func44, Try.ntmps44
  go_wp2_with fail
  generalize hW : w.alloc (.cells hs.toArray 50) = W at *
  refine (HNO.out).mono ?_
  rintro e w1 ⟨rfl, rfl⟩
  clear hW
  go_wp2_with fail
  refine wp_region_held_drew (S := fun w' => w' = W.drew) (by kernel_rfl) rfl (fun hHeld => ?_)
  refine wpAnyH_takeD (i := 0) (d := 11) (oi := _) (v := ?_) rfl rfl (by kernel_rfl) (by kernel_rfl) (by kernel_rfl) (fun _ _ _ h => h) (Or.inl ⟨by rfl, ?_⟩) (by assumption) ?_
  rotate_left
  · (intro w hSw; (try dsimp only at hSw); go_simp) <;> with_reducible rfl
  simp only [Act.put, List.setIfInBounds_toArray, List.set_cons_zero, List.set_cons_succ]
  refine wpAnyH_takeD (i := 1) (d := 12) (oi := _) (v := ?_) rfl rfl (by kernel_rfl) (by kernel_rfl) (by kernel_rfl) (fun _ _ _ h => h) (Or.inl ⟨by rfl, ?_⟩) (by assumption) ?_
  rotate_left
  · (intro w hSw; (try dsimp only at hSw); go_simp) <;> with_reducible rfl
  simp only [Act.put, List.setIfInBounds_toArray, List.set_cons_zero, List.set_cons_succ]
  refine wpAnyH_takeD (i := 2) (d := 13) (oi := _) (v := ?_) rfl rfl (by kernel_rfl) (by kernel_rfl) (by kernel_rfl) (fun _ _ _ h => h) (Or.inl ⟨by rfl, ?_⟩) (by assumption) ?_
  rotate_left
  · (intro w hSw; (try dsimp only at hSw); go_simp) <;> with_reducible rfl
  simp only [Act.put, List.setIfInBounds_toArray, List.set_cons_zero, List.set_cons_succ]
  refine wpAnyH_takeD (i := 3) (d := 14) (oi := _) (v := ?_) rfl rfl (by kernel_rfl) (by kernel_rfl) (by kernel_rfl) (fun _ _ _ h => h) (Or.inl ⟨by rfl, ?_⟩) (by assumption) ?_
  rotate_left
  · (intro w hSw; (try dsimp only at hSw); go_simp) <;> with_reducible rfl
  simp only [Act.put, List.setIfInBounds_toArray, List.set_cons_zero, List.set_cons_succ]
  refine wpAnyH_takeD (i := 4) (d := 15) (oi := _) (v := .agg (hs).toArray) rfl rfl (by kernel_rfl) (by kernel_rfl) (by kernel_rfl) (fun _ _ _ h => h) (yieldsIf_load_mid (by rfl) 50 (.tmp 3) rfl w.heap.size 0 rfl (hs) _ (fun w hw => by subst hw; exact HRG.out) Try.underlying50 rfl HSI.out) (by assumption) ?_
  simp only [Act.put, List.setIfInBounds_toArray, List.set_cons_zero, List.set_cons_succ]
  refine wpAnyH_takeD (i := 5) (d := 16) (oi := _) (v := ?_) rfl rfl (by kernel_rfl) (by kernel_rfl) (by kernel_rfl) (fun _ _ _ h => h) (Or.inl ⟨by rfl, ?_⟩) (by assumption) ?_
  rotate_left
  · (intro w hSw; (try dsimp only at hSw); go_simp) <;> with_reducible rfl
  simp only [Act.put, List.setIfInBounds_toArray, List.set_cons_zero, List.set_cons_succ]
  refine wpAnyH_takeD (i := 6) (d := 10) (oi := _) (v := ?_) rfl rfl (by kernel_rfl) (by kernel_rfl) (by kernel_rfl) (fun _ _ _ h => h) (Or.inl ⟨by rfl, ?_⟩) (by assumption) ?_
  rotate_left
  · (intro w hSw; (try dsimp only at hSw); go_simp) <;> with_reducible rfl
  simp only [Act.put, List.setIfInBounds_toArray, List.set_cons_zero, List.set_cons_succ]
  refine wpAnyH_takeD (i := 7) (d := 17) (oi := _) (v := ?_) rfl rfl (by kernel_rfl) (by kernel_rfl) (by kernel_rfl) (fun _ _ _ h => h) (Or.inl ⟨by rfl, ?_⟩) (by assumption) ?_
  rotate_left
  · (intro w hSw; (try dsimp only at hSw); go_simp) <;> with_reducible rfl
  simp only [Act.put, List.setIfInBounds_toArray, List.set_cons_zero, List.set_cons_succ]
  refine wpAnyH_takeD (i := 8) (d := 18) (oi := _) (v := ?_) rfl rfl (by kernel_rfl) (by kernel_rfl) (by kernel_rfl) (fun _ _ _ h => h) (Or.inl ⟨by rfl, ?_⟩) (by assumption) ?_
  rotate_left
  · (intro w hSw; (try dsimp only at hSw); go_simp) <;> with_reducible rfl
  simp only [Act.put, List.setIfInBounds_toArray, List.set_cons_zero, List.set_cons_succ]
  refine wpAnyH_takeD (i := 9) (d := 6) (oi := _) (v := ?_) rfl rfl (by kernel_rfl) (by kernel_rfl) (by kernel_rfl) (fun _ _ _ h => h) (Or.inl ⟨by rfl, ?_⟩) (by assumption) ?_
  rotate_left
  · (intro w hSw; (try dsimp only at hSw); go_simp) <;> with_reducible rfl
  simp only [Act.put, List.setIfInBounds_toArray, List.set_cons_zero, List.set_cons_succ]
  refine wpAnyH_takeD (i := 10) (d := 7) (oi := _) (v := ?_) rfl rfl (by kernel_rfl) (by kernel_rfl) (by kernel_rfl) (fun _ _ _ h => h) (Or.inl ⟨by rfl, ?_⟩) (by assumption) ?_
  rotate_left
  · (intro w hSw; (try dsimp only at hSw); go_simp) <;> with_reducible rfl
  simp only [Act.put, List.setIfInBounds_toArray, List.set_cons_zero, List.set_cons_succ]
  refine wpAnyH_done (by kernel_rfl) ?_ _
  go_wp2_with fail
  exact bodyPost_ret (v := .tuple #[.int .i64 (i : Int), .bool bo]) (by simp [results, Try.results44, go_sem]) rfl ⟨by rw [HI.out, HBO.out], HAL.out.drew⟩
end Go.Proofs.Ytlhhkmpidnegcaa
