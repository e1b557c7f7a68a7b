/- An instruction put into bytes, class by class: plain. -/
import Derived.Test.YtebmgladdgmmeaaCoPu
namespace Go.Proofs.Ytebmgladdgmmeaa
open Go.RowKit Go.WideShapes
set_option linter.unusedVariables false
set_option linter.unusedSimpArgs false
theorem lim_1 (o d s n : Int) (h : shO o = ⟨true, -1, false, false, false, false, false⟩) : rightI ⟨o, d, s, n⟩ = true ↔ d = 0 ∧ s = 0 ∧ n = 0 := by
  by_cases hs : s = 7
  · subst hs; simp [rightI, h, inB] <;> omega
  · have hs' : (s == 7) = false := by simp; exact hs
    simp [rightI, h, inB, hs'] <;> omega
theorem put_plain_1 (o d s n a : Int) (h : shO o = ⟨true, -1, false, false, false, false, false⟩) (hr : rightI ⟨o, d, s, n⟩ = true) : putI ⟨o, d, s, n⟩ a = (o * 8 + d) :: [] := by
  have hl := (lim_1 o d s n h).1 hr
  by_cases hs : s = 7 <;> simp [putI, firstI, restI, moreI, h, hs]
theorem lim_2 (o d s n : Int) (h : shO o = ⟨true, 6, true, false, false, false, false⟩) : rightI ⟨o, d, s, n⟩ = true ↔ 0 ≤ d ∧ d ≤ 6 ∧ 0 ≤ s ∧ s ≤ 6 ∧ n = 0 := by
  by_cases hs : s = 7
  · subst hs; simp [rightI, h, inB] <;> omega
  · have hs' : (s == 7) = false := by simp; exact hs
    simp [rightI, h, inB, hs'] <;> omega
theorem put_plain_2 (o d s n a : Int) (h : shO o = ⟨true, 6, true, false, false, false, false⟩) (hr : rightI ⟨o, d, s, n⟩ = true) : putI ⟨o, d, s, n⟩ a = (o * 8 + d) :: [s] := by
  have hl := (lim_2 o d s n h).1 hr
  by_cases hs : s = 7 <;> simp [putI, firstI, restI, moreI, h, hs]
theorem lim_3 (o d s n : Int) (h : shO o = ⟨true, 6, false, false, true, false, false⟩) : rightI ⟨o, d, s, n⟩ = true ↔ 0 ≤ d ∧ d ≤ 6 ∧ s = 0 ∧ 0 ≤ n ∧ n ≤ 255 := by
  by_cases hs : s = 7
  · subst hs; simp [rightI, h, inB] <;> omega
  · have hs' : (s == 7) = false := by simp; exact hs
    simp [rightI, h, inB, hs'] <;> omega
theorem put_plain_3 (o d s n a : Int) (h : shO o = ⟨true, 6, false, false, true, false, false⟩) (hr : rightI ⟨o, d, s, n⟩ = true) : putI ⟨o, d, s, n⟩ a = (o * 8 + d) :: [n] := by
  have hl := (lim_3 o d s n h).1 hr
  by_cases hs : s = 7 <;> simp [putI, firstI, restI, moreI, h, hs]
theorem lim_4 (o d s n : Int) (h : shO o = ⟨true, 6, false, false, false, false, false⟩) : rightI ⟨o, d, s, n⟩ = true ↔ 0 ≤ d ∧ d ≤ 6 ∧ s = 0 ∧ n = 0 := by
  by_cases hs : s = 7
  · subst hs; simp [rightI, h, inB] <;> omega
  · have hs' : (s == 7) = false := by simp; exact hs
    simp [rightI, h, inB, hs'] <;> omega
theorem put_plain_4 (o d s n a : Int) (h : shO o = ⟨true, 6, false, false, false, false, false⟩) (hr : rightI ⟨o, d, s, n⟩ = true) : putI ⟨o, d, s, n⟩ a = (o * 8 + d) :: [] := by
  have hl := (lim_4 o d s n h).1 hr
  by_cases hs : s = 7 <;> simp [putI, firstI, restI, moreI, h, hs]
theorem lim_5 (o d s n : Int) (h : shO o = ⟨true, -1, false, true, false, false, false⟩) : rightI ⟨o, d, s, n⟩ = true ↔ d = 0 ∧ 0 ≤ s ∧ s ≤ 7 ∧ 0 ≤ n ∧ n ≤ 255 ∧ (s ≠ 7 → n = 0) := by
  by_cases hs : s = 7
  · subst hs; simp [rightI, h, inB] <;> omega
  · have hs' : (s == 7) = false := by simp; exact hs
    simp [rightI, h, inB, hs'] <;> omega
theorem put_plain_5 (o d s n a : Int) (h : shO o = ⟨true, -1, false, true, false, false, false⟩) (hr : rightI ⟨o, d, s, n⟩ = true) : putI ⟨o, d, s, n⟩ a = (o * 8 + s) :: (if s = 7 then [n] else []) := by
  have hl := (lim_5 o d s n h).1 hr
  by_cases hs : s = 7 <;> simp [putI, firstI, restI, moreI, h, hs]
theorem lim_6 (o d s n : Int) (h : shO o = ⟨true, 3, false, false, true, false, false⟩) : rightI ⟨o, d, s, n⟩ = true ↔ 0 ≤ d ∧ d ≤ 3 ∧ s = 0 ∧ 0 ≤ n ∧ n ≤ 255 := by
  by_cases hs : s = 7
  · subst hs; simp [rightI, h, inB] <;> omega
  · have hs' : (s == 7) = false := by simp; exact hs
    simp [rightI, h, inB, hs'] <;> omega
theorem put_plain_6 (o d s n a : Int) (h : shO o = ⟨true, 3, false, false, true, false, false⟩) (hr : rightI ⟨o, d, s, n⟩ = true) : putI ⟨o, d, s, n⟩ a = (o * 8 + d) :: [n] := by
  have hl := (lim_6 o d s n h).1 hr
  by_cases hs : s = 7 <;> simp [putI, firstI, restI, moreI, h, hs]
theorem lim_7 (o d s n : Int) (h : shO o = ⟨true, -1, false, false, true, false, false⟩) : rightI ⟨o, d, s, n⟩ = true ↔ d = 0 ∧ s = 0 ∧ 0 ≤ n ∧ n ≤ 255 := by
  by_cases hs : s = 7
  · subst hs; simp [rightI, h, inB] <;> omega
  · have hs' : (s == 7) = false := by simp; exact hs
    simp [rightI, h, inB, hs'] <;> omega
theorem put_plain_7 (o d s n a : Int) (h : shO o = ⟨true, -1, false, false, true, false, false⟩) (hr : rightI ⟨o, d, s, n⟩ = true) : putI ⟨o, d, s, n⟩ a = (o * 8 + d) :: [n] := by
  have hl := (lim_7 o d s n h).1 hr
  by_cases hs : s = 7 <;> simp [putI, firstI, restI, moreI, h, hs]
theorem lim_8 (o d s n : Int) (h : shO o = ⟨true, -1, false, false, false, true, false⟩) : rightI ⟨o, d, s, n⟩ = true ↔ d = 0 ∧ s = 0 ∧ 0 ≤ n ∧ n ≤ 65535 := by
  by_cases hs : s = 7
  · subst hs; simp [rightI, h, inB] <;> omega
  · have hs' : (s == 7) = false := by simp; exact hs
    simp [rightI, h, inB, hs'] <;> omega
theorem put_plain_8 (o d s n a : Int) (h : shO o = ⟨true, -1, false, false, false, true, false⟩) (hr : rightI ⟨o, d, s, n⟩ = true) : putI ⟨o, d, s, n⟩ a = (o * 8 + d) :: [(n - a - 2) % 256] := by
  have hl := (lim_8 o d s n h).1 hr
  by_cases hs : s = 7 <;> simp [putI, firstI, restI, moreI, h, hs]
theorem lim_9 (o d s n : Int) (h : shO o = ⟨true, -1, false, false, false, false, true⟩) : rightI ⟨o, d, s, n⟩ = true ↔ d = 0 ∧ s = 0 ∧ 0 ≤ n ∧ n ≤ 65535 := by
  by_cases hs : s = 7
  · subst hs; simp [rightI, h, inB] <;> omega
  · have hs' : (s == 7) = false := by simp; exact hs
    simp [rightI, h, inB, hs'] <;> omega
theorem put_plain_9 (o d s n a : Int) (h : shO o = ⟨true, -1, false, false, false, false, true⟩) (hr : rightI ⟨o, d, s, n⟩ = true) : putI ⟨o, d, s, n⟩ a = (o * 8 + d) :: [n / 256, n % 256] := by
  have hl := (lim_9 o d s n h).1 hr
  by_cases hs : s = 7 <;> simp [putI, firstI, restI, moreI, h, hs]
end Go.Proofs.Ytebmgladdgmmeaa
