/- What makes a part right, kind by kind. Plain. -/
import Derived.Test.YtaiekpdoljleeaaPaEq
namespace Go.Proofs.Ytaiekpdoljleeaa
open Go.RowKit Go.WideShapes
set_option linter.unusedVariables false
set_option linter.unusedSimpArgs false
theorem pw_pos (s : Int) : 0 < pw s := Int.pow_pos (by omega)
theorem places_pos (k s b : Int) : 0 < placesP k s b ↔ (szOk k s = true ∧ (k = 7 → 1 ≤ b ∧ b ≤ 8)) := by
  have hp := pw_pos s
  have hm : 1 ≤ b → 0 < pw s * b := fun h => Int.mul_pos hp (by omega)
  unfold placesP
  generalize pw s = q at *
  by_cases h : szOk k s = true
  · rw [if_pos h]
    by_cases h7 : k = 7
    · rw [if_neg (by omega), if_neg (by omega), if_pos h7]
      by_cases hb : 1 ≤ b ∧ b ≤ 8
      · rw [if_pos hb]
        have := hm hb.1
        exact ⟨fun _ => ⟨h, fun _ => hb⟩, fun _ => this⟩
      · rw [if_neg hb]
        exact ⟨fun h => by omega, fun h => absurd (h.2 h7) hb⟩
    · refine ⟨fun _ => ⟨h, fun e => absurd e h7⟩, fun _ => ?_⟩
      repeat' split
      all_goals omega
  · rw [if_neg h]
    exact ⟨fun h => by omega, fun h' => absurd h'.1 h⟩
theorem one_1 (s a b c r l i : Int) (h : fieldsP ⟨1, s, a, b, c, r, l⟩ = ⟨1, s, a, b, c, r, l⟩) : oneP ⟨1, s, a, b, c, r, l⟩ i = (inB c (-2047) 2047 true) := by
  simp [fieldsP] at h
  rw [Bool.eq_iff_iff]
  try simp only [Bool.and_eq_true, decide_eq_true_eq, places_pos]
  simp [oneP, okK, rowK, inB, szOk]
  omega
theorem one_2 (s a b c r l i : Int) (h : fieldsP ⟨2, s, a, b, c, r, l⟩ = ⟨2, s, a, b, c, r, l⟩) : oneP ⟨2, s, a, b, c, r, l⟩ i = (decide (0 < placesP 2 s b) && inB l 1 1023 true) := by
  simp [fieldsP] at h
  rw [Bool.eq_iff_iff]
  try simp only [Bool.and_eq_true, decide_eq_true_eq, places_pos]
  simp [oneP, okK, rowK, inB, szOk]
  omega
theorem one_3 (s a b c r l i : Int) (h : fieldsP ⟨3, s, a, b, c, r, l⟩ = ⟨3, s, a, b, c, r, l⟩) : oneP ⟨3, s, a, b, c, r, l⟩ i = (decide (0 < placesP 3 s b)) := by
  simp [fieldsP] at h
  rw [Bool.eq_iff_iff]
  try simp only [Bool.and_eq_true, decide_eq_true_eq, places_pos]
  simp [oneP, okK, rowK, inB, szOk]
  omega
theorem one_4 (s a b c r l i : Int) (h : fieldsP ⟨4, s, a, b, c, r, l⟩ = ⟨4, s, a, b, c, r, l⟩) : oneP ⟨4, s, a, b, c, r, l⟩ i = (decide (0 < placesP 4 s b)) := by
  simp [fieldsP] at h
  rw [Bool.eq_iff_iff]
  try simp only [Bool.and_eq_true, decide_eq_true_eq, places_pos]
  simp [oneP, okK, rowK, inB, szOk]
  omega
theorem one_5 (s a b c r l i : Int) (h : fieldsP ⟨5, s, a, b, c, r, l⟩ = ⟨5, s, a, b, c, r, l⟩) : oneP ⟨5, s, a, b, c, r, l⟩ i = (inB a 0 (i - 1) true && inB b 0 (i - 1) true && inB c 0 256 true) := by
  simp [fieldsP] at h
  rw [Bool.eq_iff_iff]
  try simp only [Bool.and_eq_true, decide_eq_true_eq, places_pos]
  simp [oneP, okK, rowK, inB, szOk]
  omega
theorem one_6 (s a b c r l i : Int) (h : fieldsP ⟨6, s, a, b, c, r, l⟩ = ⟨6, s, a, b, c, r, l⟩) : oneP ⟨6, s, a, b, c, r, l⟩ i = (decide (0 < placesP 6 s b) && inB a 0 (i - 1) true && inB b 0 (i - 1) true && inB r 1 64 true) := by
  simp [fieldsP] at h
  rw [Bool.eq_iff_iff]
  try simp only [Bool.and_eq_true, decide_eq_true_eq, places_pos]
  simp [oneP, okK, rowK, inB, szOk]
  omega
theorem one_7 (s a b c r l i : Int) (h : fieldsP ⟨7, s, a, b, c, r, l⟩ = ⟨7, s, a, b, c, r, l⟩) : oneP ⟨7, s, a, b, c, r, l⟩ i = (decide (0 < placesP 7 s b) && inB a 0 (i - 1) true && decide (a + b ≤ i) && inB r 1 64 true) := by
  simp [fieldsP] at h
  rw [Bool.eq_iff_iff]
  try simp only [Bool.and_eq_true, decide_eq_true_eq, places_pos]
  simp [oneP, okK, rowK, inB, szOk]
  omega
theorem one_8 (s a b c r l i : Int) (h : fieldsP ⟨8, s, a, b, c, r, l⟩ = ⟨8, s, a, b, c, r, l⟩) : oneP ⟨8, s, a, b, c, r, l⟩ i = (decide (0 < placesP 8 s b) && inB a 0 (i - 1) true) := by
  simp [fieldsP] at h
  rw [Bool.eq_iff_iff]
  try simp only [Bool.and_eq_true, decide_eq_true_eq, places_pos]
  simp [oneP, okK, rowK, inB, szOk]
  omega
theorem one_9 (s a b c r l i : Int) (h : fieldsP ⟨9, s, a, b, c, r, l⟩ = ⟨9, s, a, b, c, r, l⟩) : oneP ⟨9, s, a, b, c, r, l⟩ i = (decide (0 < placesP 9 s b) && inB a 0 (i - 1) true && inB l 1 1023 true) := by
  simp [fieldsP] at h
  rw [Bool.eq_iff_iff]
  try simp only [Bool.and_eq_true, decide_eq_true_eq, places_pos]
  simp [oneP, okK, rowK, inB, szOk]
  omega
theorem one_none (k s a b c r l i : Int) (h : k < 1 ∨ 9 < k) : oneP ⟨k, s, a, b, c, r, l⟩ i = false := by
  have e : okK k = false := by unfold okK; rw [Bool.and_eq_false_iff]; simp; omega
  unfold oneP
  simp [e]
theorem one_fields (t : Pt) (i : Int) (h : oneP t i = true) : fieldsP t = t := by
  obtain ⟨k, s, a, b, c, r, l⟩ := t
  rcases kind_cases k with rfl | rfl | rfl | rfl | rfl | rfl | rfl | rfl | rfl | hk
  · simp [oneP, okK, rowK, inB] at h
    simp [fieldsP]
    omega
  · simp [oneP, okK, rowK, inB] at h
    simp [fieldsP]
    omega
  · simp [oneP, okK, rowK, inB] at h
    simp [fieldsP]
    omega
  · simp [oneP, okK, rowK, inB] at h
    simp [fieldsP]
    omega
  · simp [oneP, okK, rowK, inB] at h
    simp [fieldsP]
    omega
  · simp [oneP, okK, rowK, inB] at h
    simp [fieldsP]
    omega
  · simp [oneP, okK, rowK, inB] at h
    simp [fieldsP]
    omega
  · simp [oneP, okK, rowK, inB] at h
    simp [fieldsP]
    omega
  · simp [oneP, okK, rowK, inB] at h
    simp [fieldsP]
    omega
  · rw [one_none k s a b c r l i hk] at h
    cases h
end Go.Proofs.Ytaiekpdoljleeaa
