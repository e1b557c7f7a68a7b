/- Is an instruction right, how many bytes it has: walks. No condition. -/
import Derived.Test.YtebmgladdgmmeaaCoSh
import Derived.Test.YtebmgladdgmmeaaGBase
namespace Go.Proofs.Ytebmgladdgmmeaa
open Go.RowKit Go.WideShapes
set_option linter.unusedVariables false
set_option linter.unusedSimpArgs false
theorem sh_cases (o : Int) : (cls o = 0 ∧ shO o = ⟨false, 0, false, false, false, false, false⟩) ∨ (cls o = 1 ∧ shO o = ⟨true, -1, false, false, false, false, false⟩) ∨ (cls o = 2 ∧ shO o = ⟨true, 6, true, false, false, false, false⟩) ∨ (cls o = 3 ∧ shO o = ⟨true, 6, false, false, true, false, false⟩) ∨ (cls o = 4 ∧ shO o = ⟨true, 6, false, false, false, false, false⟩) ∨ (cls o = 5 ∧ shO o = ⟨true, -1, false, true, false, false, false⟩) ∨ (cls o = 6 ∧ shO o = ⟨true, 3, false, false, true, false, false⟩) ∨ (cls o = 7 ∧ shO o = ⟨true, -1, false, false, true, false, false⟩) ∨ (cls o = 8 ∧ shO o = ⟨true, -1, false, false, false, true, false⟩) ∨ (cls o = 9 ∧ shO o = ⟨true, -1, false, false, false, false, true⟩) := by
  unfold shO
  have h : cls o = 0 ∨ cls o = 1 ∨ cls o = 2 ∨ cls o = 3 ∨ cls o = 4 ∨ cls o = 5 ∨ cls o = 6 ∨ cls o = 7 ∨ cls o = 8 ∨ cls o = 9 := by
    unfold cls
    by_cases h1 : o = 0 ∨ (24 ≤ o ∧ o ≤ 26)
    · rw [if_pos h1]; omega
    · rw [if_neg h1]
      by_cases h2 : o = 1
      · rw [if_pos h2]; omega
      · rw [if_neg h2]
        by_cases h3 : o = 2
        · rw [if_pos h3]; omega
        · rw [if_neg h3]
          by_cases h4 : o ≤ 7
          · rw [if_pos h4]; omega
          · rw [if_neg h4]
            by_cases h5 : o ≤ 21
            · rw [if_pos h5]; omega
            · rw [if_neg h5]
              by_cases h6 : o = 22
              · rw [if_pos h6]; omega
              · rw [if_neg h6]
                by_cases h7 : o = 23
                · rw [if_pos h7]; omega
                · rw [if_neg h7]
                  by_cases h8 : o ≤ 29
                  · rw [if_pos h8]; omega
                  · rw [if_neg h8]
                    by_cases h9 : o = 30
                    · rw [if_pos h9]; omega
                    · rw [if_neg h9]; omega
  rcases h with h | h | h | h | h | h | h | h | h | h <;> rw [h] <;> simp [shC]
def rightI (t : In) : Bool :=
  (shO t.o).known && inB t.d 0 (shO t.o).place (decide (0 ≤ (shO t.o).place)) && inB t.s 0 (if (shO t.o).operand then 7 else 6) ((shO t.o).frm || (shO t.o).operand) &&
    inB t.n 0 (if (shO t.o).jump || (shO t.o).long then 65535 else 255) (if (shO t.o).jump || (shO t.o).long then true else (shO t.o).number || ((shO t.o).operand && t.s == 7))
def codeI (t : In) : Int := if rightI t then 0 else 110
def moreI (t : In) : Int := if (shO t.o).long then 2 else if (shO t.o).frm || (shO t.o).number || (shO t.o).jump || ((shO t.o).operand && t.s == 7) then 1 else 0
def lenI (t : In) : Int := if rightI t then 1 + moreI t else 0
theorem inC_any (n most : Int) (named : Bool) (w : World) : Calls Try.prog 46 #[.int .i64 n, .int .i64 most, .bool named] w (Same (.bool (inB n 0 most named)) w) := by
  cases named
  · by_cases h1 : 0 ≤ n
    · have g : decide (0 ≤ n) = true := by simp; omega
      go_enter Try.func46, Try.ntmps46
      go_wp2
      go_ret
      exact ⟨by simp [inB, h1], rfl⟩
    · have g : decide (0 ≤ n) = false := by simp; omega
      go_enter Try.func46, Try.ntmps46
      go_wp2
      go_ret
      exact ⟨by simp [inB, g], rfl⟩
  · by_cases h1 : 0 ≤ n
    · have g : decide (0 ≤ n) = true := by simp; omega
      go_enter Try.func46, Try.ntmps46
      go_wp2
      go_ret
      exact ⟨by simp [inB, h1], rfl⟩
    · have g : decide (0 ≤ n) = false := by simp; omega
      go_enter Try.func46, Try.ntmps46
      go_wp2
      go_ret
      exact ⟨by simp [inB, g], rfl⟩
end Go.Proofs.Ytebmgladdgmmeaa
