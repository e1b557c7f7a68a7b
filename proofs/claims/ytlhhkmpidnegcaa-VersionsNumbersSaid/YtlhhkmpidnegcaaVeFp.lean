/- full's plain part: what the table is behind each transaction. No program in sight. -/
import Derived.Test.YtlhhkmpidnegcaaVeFo
namespace Go.Proofs.Ytlhhkmpidnegcaa
set_option linter.unusedVariables false
set_option linter.unusedSimpArgs false
/-- The big piece. -/
def pcBig : Pc := ⟨[1, 0, 0, 0, 0, 0, 0, 0, 0, 0, 0, 0, 0, 0, 0, 0, 0, 0, 0, 0], 4096, 1, 0⟩
theorem pcBig_ok : pcBig.ok := ⟨⟨rfl, fun x hx => by
  simp [pcBig] at hx
  rcases hx with rfl | rfl <;> omega⟩⟩
theorem fu1 : applyT ⟨0, [], []⟩ 1 [pcBig] 0 [(⟨#[97]⟩, List.replicate 32 1)] = (0, ⟨1, [pcBig], [[(⟨#[97]⟩, List.replicate 32 1)]]⟩) := by kernel_rfl
theorem fu2 : applyT ⟨1, [pcBig], [[(⟨#[97]⟩, List.replicate 32 1)]]⟩ 0 [] 0 [(⟨#[97]⟩, List.replicate 33 1)] = (13, ⟨1, [pcBig], [[(⟨#[97]⟩, List.replicate 32 1)]]⟩) := by kernel_rfl
theorem fu_roll (vs : List (List (ByteArray × List Int))) (i : Nat) (h1 : 1 ≤ i) (hl : vs.length = i) (h9 : i < 100) : applyT ⟨1, [pcBig], vs⟩ 0 [] (i : Int) [] = (0, ⟨1, [pcBig], vs ++ [vs.getD (i - 1) []]⟩) := by
  unfold applyT
  rw [if_neg (by simp only [List.length_cons, List.length_nil]; omega), if_neg (by omega)]
  simp only [addAll]
  rw [if_neg (by omega)]
  have hf : formB [pcBig] (i : Int) [] = true := by
    unfold formB
    rw [show decide (0 ≤ (i : Int)) = true from decide_eq_true (by omega)]
    simp
    rfl
  rw [hf, if_neg (by decide), if_pos (by omega)]
  simp
theorem fu_full (vs : List (List (ByteArray × List Int))) (r : Int) (hl : vs.length = 100) : applyT ⟨1, [pcBig], vs⟩ 0 [] r [] = (5, ⟨1, [pcBig], vs⟩) := by
  unfold applyT
  rw [if_pos (.inl hl)]
theorem fu3 : applyT ⟨0, [], []⟩ 1048577 [] 0 [] = (5, ⟨0, [], []⟩) := by kernel_rfl
theorem fu4 : applyT ⟨0, [], []⟩ 1048576 [] 0 [] = (0, ⟨1048576, [], [[]]⟩) := by kernel_rfl
theorem fu5 : applyT ⟨0, [], []⟩ (-1) [] 0 [] = (2, ⟨0, [], []⟩) := by kernel_rfl
end Go.Proofs.Ytlhhkmpidnegcaa
