/- A program of statements built: plain. -/
import Derived.Test.YtebmgladdgmmeaaVlGXg
import Derived.Great.FillDense
namespace Go.Proofs.Ytebmgladdgmmeaa
open Go.RowKit Go.WideShapes
set_option linter.unusedVariables false
set_option linter.unusedSimpArgs false
theorem ex104 : ∃ z : Array Value, z.size = 266 ∧ z[265]? = some (.bool false) ∧ ∀ parts, Try.prog.built 104 parts = Instr.fill (([(0, 263), (263, 1), (264, 1), (265, 1)] : List (Nat × Nat)).toArray[·]?) z parts :=
  ⟨((((Try.prog.info? 104).bind (·.zero)).getD .nilIface)).cells, by kernel_rfl, by kernel_rfl, fun parts => by kernel_rfl⟩
theorem built104 (c : Array Value) (hc : c.size = 263) (x y : Value) (hx : x.cells = #[x]) (hy : y.cells = #[y]) : Try.prog.built 104 [(0, .agg c), (1, x), (2, y)] = some (c ++ #[x, y, .bool false]) := by
  obtain ⟨z, hz, hl, hb⟩ := ex104
  rw [hb]
  obtain ⟨g1, g2⟩ := Go.Great.foldl_set 0 c.toList 0 z
  have e0 : (Value.agg c).cells = c := rfl
  unfold Instr.fill
  simp only [List.getElem?_toArray, List.getElem?_cons_zero, e0, hc, hz]
  rw [if_neg (by simp)]
  rw [← Array.foldl_toList, Array.toList_zipIdx]
  obtain ⟨z1, hz1⟩ : ∃ r, List.foldl (fun cs (a : Value × Nat) => cs.setIfInBounds (0 + a.2) a.1) z (c.toList.zipIdx 0) = r := ⟨_, rfl⟩
  rw [hz1] at g1 g2 ⊢
  unfold Instr.fill
  simp only [List.getElem?_toArray, List.getElem?_cons_succ, List.getElem?_cons_zero, hx, g1, hz]
  rw [if_neg (by simp)]
  unfold Instr.fill
  simp only [List.getElem?_toArray, List.getElem?_cons_succ, List.getElem?_cons_zero, hy]
  rw [if_neg (by simp [hz, g1])]
  unfold Instr.fill
  congr 1
  apply Array.ext_getElem?
  intro k
  have hk := g2 k
  simp only [Nat.add_zero, Nat.zero_add, Nat.zero_le, true_and, Array.length_toList, hc, hz, Nat.sub_zero] at hk
  have hs1 : (z1.setIfInBounds 263 x).size = 266 := by rw [Array.size_setIfInBounds, g1, hz]
  have hs0 : z1.size = 266 := by rw [g1, hz]
  have hs2 : ((z1.setIfInBounds 263 x).setIfInBounds 264 y).size = 266 := by rw [Array.size_setIfInBounds, hs1]
  change ((z1.setIfInBounds 263 x).setIfInBounds 264 y)[k]? = _
  rcases (show k < 263 ∨ k = 263 ∨ k = 264 ∨ k = 265 ∨ 266 ≤ k from by omega) with h | rfl | rfl | rfl | h
  · rw [Array.getElem?_setIfInBounds_ne (by omega), Array.getElem?_setIfInBounds_ne (by omega), hk, if_pos (by omega), Array.getElem?_append_left (by omega), Array.getElem?_toList]
  · rw [Array.getElem?_setIfInBounds_ne (by omega), Array.getElem?_setIfInBounds_self_of_lt (by omega), Array.getElem?_append_right (by omega), hc]
    rfl
  · rw [Array.getElem?_setIfInBounds_self_of_lt (by omega), Array.getElem?_append_right (by omega), hc]
    rfl
  · rw [Array.getElem?_setIfInBounds_ne (by omega), Array.getElem?_setIfInBounds_ne (by omega), hk, if_neg (by omega), hl, Array.getElem?_append_right (by omega), hc]
    rfl
  · rw [Array.getElem?_eq_none (by omega), Array.getElem?_eq_none (by simp [hc]; omega)]
end Go.Proofs.Ytebmgladdgmmeaa
