/- What the smallest functions of package sha and of its reference compute: turns to the left, a round's number and constant, a word of four bytes. -/
import Derived.Test.YtgkgdbjdmmieaaaShPl
import Derived.Test.YtgkgdbjdmmieaaaRows
namespace Go.Proofs.Ytgkgdbjdmmieaaa
open Go.RowKit Go.WideShapes
set_option linter.unusedVariables false
set_option linter.unusedSimpArgs false
theorem rotA_any (x : Int) (w : World) : Calls Try.prog 30 #[.int .u32 x, .int .i64 1] w fun e w' => e = .returned (.int .u32 (rotA x)) ∧ w = w' := by
  have hm : bits .and .u64 1 31 = 1 := by decide
  go_enter Try.func30, Try.ntmps30
  go_wp2
  go_ret
  exact ⟨rfl, rfl⟩
theorem rotB_any (x : Int) (w : World) : Calls Try.prog 30 #[.int .u32 x, .int .i64 5] w fun e w' => e = .returned (.int .u32 (rotB x)) ∧ w = w' := by
  have hm : bits .and .u64 5 31 = 5 := by decide
  go_enter Try.func30, Try.ntmps30
  go_wp2
  go_ret
  exact ⟨rfl, rfl⟩
theorem rotC_any (x : Int) (w : World) : Calls Try.prog 30 #[.int .u32 x, .int .i64 30] w fun e w' => e = .returned (.int .u32 (rotC x)) ∧ w = w' := by
  have hm : bits .and .u64 30 31 = 30 := by decide
  go_enter Try.func30, Try.ntmps30
  go_wp2
  go_ret
  exact ⟨rfl, rfl⟩
theorem ret_u32 {a b : Int} (h : a = b) : Ending.returned (.int .u32 a) = .returned (.int .u32 b) := by rw [h]
theorem turnA_any (x : Int) (w : World) (h : U x) : Calls Try.prog 24 #[.int .u32 x, .int .u64 1] w fun e w' => e = .returned (.int .u32 (rotA x)) ∧ w = w' := by
  have H := Lib.hid (rotA_eq x h)
  clear h
  go_enter Try.func24, Try.ntmps24
  go_wp2
  go_ret
  exact ⟨ret_u32 H.out.symm, rfl⟩
theorem turnB_any (x : Int) (w : World) (h : U x) : Calls Try.prog 24 #[.int .u32 x, .int .u64 5] w fun e w' => e = .returned (.int .u32 (rotB x)) ∧ w = w' := by
  have H := Lib.hid (rotB_eq x h)
  clear h
  go_enter Try.func24, Try.ntmps24
  go_wp2
  go_ret
  exact ⟨ret_u32 H.out.symm, rfl⟩
theorem turnC_any (x : Int) (w : World) (h : U x) : Calls Try.prog 24 #[.int .u32 x, .int .u64 30] w fun e w' => e = .returned (.int .u32 (rotC x)) ∧ w = w' := by
  have H := Lib.hid (rotC_eq x h)
  clear h
  go_enter Try.func24, Try.ntmps24
  go_wp2
  go_ret
  exact ⟨ret_u32 H.out.symm, rfl⟩
theorem ret_two {a b a' b' : Int} (h : a = a') (k : b = b') : Ending.returned (.tuple #[.int .u32 a, .int .u32 b]) = .returned (.tuple #[.int .u32 a', .int .u32 b']) := by rw [h, k]
theorem round_any (t : Nat) (b c d : Int) (ht : t < 80) (w : World) :
    Calls Try.prog 31 #[.int .i64 (t : Int), .int .u32 b, .int .u32 c, .int .u32 d] w fun e w' => e = .returned (.tuple #[.int .u32 (fI t b c d), .int .u32 (kI t)]) ∧ w = w' := by
  have hsg : IntKind.u32.signed = false := rfl
  by_cases c1 : t < 20
  · have H : fI t b c d = orI (andI b c) (andI (notI b) d) := by unfold fI; rw [if_pos c1]
    have K : kI t = 1518500249 := by unfold kI; rw [if_pos c1]
    have hq : (t : Int) / 20 = 0 := by omega
    rw [H, K]
    clear H K
    go_enter Try.func31, Try.ntmps31
    go_wp2
    exact bodyPost_ret (v := .tuple #[.int .u32 _, .int .u32 _]) (by simp [results, Try.results31, go_sem] <;> rfl) rfl ⟨rfl, rfl⟩
  · by_cases c2 : t < 40
    · have H : fI t b c d = xorI (xorI b c) d := by unfold fI; rw [if_neg c1, if_pos c2]
      have K : kI t = 1859775393 := by unfold kI; rw [if_neg c1, if_pos c2]
      have hq : (t : Int) / 20 = 1 := by omega
      rw [H, K]
      clear H K
      go_enter Try.func31, Try.ntmps31
      go_wp2
      exact bodyPost_ret (v := .tuple #[.int .u32 _, .int .u32 _]) (by simp [results, Try.results31, go_sem] <;> rfl) rfl ⟨rfl, rfl⟩
    · by_cases c3 : t < 60
      · have H : fI t b c d = orI (orI (andI b c) (andI b d)) (andI c d) := by unfold fI; rw [if_neg c1, if_neg c2, if_pos c3]
        have K : kI t = 2400959708 := by unfold kI; rw [if_neg c1, if_neg c2, if_pos c3]
        have hq : (t : Int) / 20 = 2 := by omega
        rw [H, K]
        clear H K
        go_enter Try.func31, Try.ntmps31
        go_wp2
        exact bodyPost_ret (v := .tuple #[.int .u32 _, .int .u32 _]) (by simp [results, Try.results31, go_sem] <;> rfl) rfl ⟨rfl, rfl⟩
      · have H : fI t b c d = xorI (xorI b c) d := by unfold fI; rw [if_neg c1, if_neg c2, if_neg c3]
        have K : kI t = 3395469782 := by unfold kI; rw [if_neg c1, if_neg c2, if_neg c3]
        have hq : (t : Int) / 20 = 3 := by omega
        rw [H, K]
        clear H K
        go_enter Try.func31, Try.ntmps31
        go_wp2
        exact bodyPost_ret (v := .tuple #[.int .u32 _, .int .u32 _]) (by simp [results, Try.results31, go_sem] <;> rfl) rfl ⟨rfl, rfl⟩
end Go.Proofs.Ytgkgdbjdmmieaaa
