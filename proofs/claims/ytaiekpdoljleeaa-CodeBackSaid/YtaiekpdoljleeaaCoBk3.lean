/- What was put into bytes, got back, any instruction: plain. -/
import Derived.Test.YtaiekpdoljleeaaCoBk2
namespace Go.Proofs.Ytaiekpdoljleeaa
open Go.RowKit Go.WideShapes
set_option linter.unusedVariables false
set_option linter.unusedSimpArgs false
theorem back_any (t : In) (a : Nat) (pre : List Int) (hp : pre.length = a) (h0 : 0 ≤ t.o) (hr : rightI t = true) (hf : farI t a = false) (ho : Oct (pre ++ putI t a)) : getN (pre ++ putI t a) a = (t, (a : Int) + (putI t a).length, 0) := by
  obtain ⟨o, d, s, n⟩ := t
  simp only at h0
  rcases sh_cases o with ⟨_, h⟩ | ⟨_, h⟩ | ⟨_, h⟩ | ⟨_, h⟩ | ⟨_, h⟩ | ⟨_, h⟩ | ⟨_, h⟩ | ⟨_, h⟩ | ⟨_, h⟩ | ⟨_, h⟩
  · simp [rightI, h] at hr
  · rw [put_plain_1 o d s n a h hr] at ho ⊢
    exact back_1 o d s n a pre hp h0 h hr ho
  · rw [put_plain_2 o d s n a h hr] at ho ⊢
    exact back_2 o d s n a pre hp h0 h hr ho
  · rw [put_plain_3 o d s n a h hr] at ho ⊢
    exact back_3 o d s n a pre hp h0 h hr ho
  · rw [put_plain_4 o d s n a h hr] at ho ⊢
    exact back_4 o d s n a pre hp h0 h hr ho
  · rw [put_plain_5 o d s n a h hr] at ho ⊢
    by_cases hs : s = 7
    · subst hs
      rw [if_pos rfl] at ho ⊢
      exact back_5seven o d n a pre hp h0 h hr ho
    · rw [if_neg hs] at ho ⊢
      exact back_5ok o d s n a pre hp h0 h hr hs ho
  · rw [put_plain_6 o d s n a h hr] at ho ⊢
    exact back_6 o d s n a pre hp h0 h hr ho
  · rw [put_plain_7 o d s n a h hr] at ho ⊢
    exact back_7 o d s n a pre hp h0 h hr ho
  · rw [put_plain_8 o d s n a h hr] at ho ⊢
    exact back_8 o d s n a pre hp h0 h hr (by simp [farI, h] at hf; omega) ho
  · rw [put_plain_9 o d s n a h hr] at ho ⊢
    exact back_9 o d s n a pre hp h0 h hr ho
theorem put_oct (t : In) (a : Nat) (h0 : 0 ≤ t.o) (hr : rightI t = true) : Oct (putI t a) := by
  obtain ⟨o, d, s, n⟩ := t
  simp only at h0
  rcases sh_cases o with ⟨_, h⟩ | ⟨_, h⟩ | ⟨_, h⟩ | ⟨_, h⟩ | ⟨_, h⟩ | ⟨_, h⟩ | ⟨_, h⟩ | ⟨_, h⟩ | ⟨_, h⟩ | ⟨_, h⟩
  · simp [rightI, h] at hr
  · have ho : o ≤ 30 := op_le (by rw [h]; simp)
    have hl := (lim_1 o d s n h).1 hr
    rw [put_plain_1 o d s n a h hr]
    intro u hu
    simp at hu
    omega
  · have ho : o ≤ 30 := op_le (by rw [h]; simp)
    have hl := (lim_2 o d s n h).1 hr
    rw [put_plain_2 o d s n a h hr]
    intro u hu
    simp at hu
    omega
  · have ho : o ≤ 30 := op_le (by rw [h]; simp)
    have hl := (lim_3 o d s n h).1 hr
    rw [put_plain_3 o d s n a h hr]
    intro u hu
    simp at hu
    omega
  · have ho : o ≤ 30 := op_le (by rw [h]; simp)
    have hl := (lim_4 o d s n h).1 hr
    rw [put_plain_4 o d s n a h hr]
    intro u hu
    simp at hu
    omega
  · have ho : o ≤ 30 := op_le (by rw [h]; simp)
    have hl := (lim_5 o d s n h).1 hr
    rw [put_plain_5 o d s n a h hr]
    intro u hu
    split at hu
    all_goals
      simp at hu
      omega
  · have ho : o ≤ 30 := op_le (by rw [h]; simp)
    have hl := (lim_6 o d s n h).1 hr
    rw [put_plain_6 o d s n a h hr]
    intro u hu
    simp at hu
    omega
  · have ho : o ≤ 30 := op_le (by rw [h]; simp)
    have hl := (lim_7 o d s n h).1 hr
    rw [put_plain_7 o d s n a h hr]
    intro u hu
    simp at hu
    omega
  · have ho : o ≤ 30 := op_le (by rw [h]; simp)
    have hl := (lim_8 o d s n h).1 hr
    rw [put_plain_8 o d s n a h hr]
    intro u hu
    simp at hu
    omega
  · have ho : o ≤ 30 := op_le (by rw [h]; simp)
    have hl := (lim_9 o d s n h).1 hr
    rw [put_plain_9 o d s n a h hr]
    intro u hu
    simp at hu
    omega
end Go.Proofs.Ytaiekpdoljleeaa
