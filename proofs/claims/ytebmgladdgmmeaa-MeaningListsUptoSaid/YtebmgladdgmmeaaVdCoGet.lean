/- The instruction that bytes say: the walk. Condition: none beyond a slice's own. -/
import Derived.Test.YtebmgladdgmmeaaVdCoG1
import Derived.Test.YtebmgladdgmmeaaVdCoG2
import Derived.Test.YtebmgladdgmmeaaVdCoG3
import Derived.Test.YtebmgladdgmmeaaVdCoG4
namespace Go.Proofs.Ytebmgladdgmmeaa
open Go.RowKit Go.WideShapes
set_option linter.unusedVariables false
set_option linter.unusedSimpArgs false
theorem get_any (bs : List Int) (A : Option Addr) (n c : Nat) (a : Int) (w : World) (hn : n = bs.length) (ho : Oct bs) (hr : Rd w A (octs bs)) (hnm : n ≤ 9223372036854775807) : Calls Try.prog 64 #[.slice A n c, .int .i64 a] w (IsGot (getI bs a) w) := by
  by_cases hout : a < 0 ∨ (n : Int) ≤ a ∨ 65536 < n
  · exact get_out bs A n c a w hn hnm hout
  · obtain ⟨k, rfl⟩ : ∃ k : Nat, a = k := ⟨a.toNat, by omega⟩
    have hlt : k < n := by omega
    have hn2 : n ≤ 65536 := by omega
    have e : getI bs k = getN bs k := by unfold getI; rw [if_neg (by rw [← hn]; omega)]; rfl
    rw [e]
    clear e hout hnm
    rcases sh_cases (bs.getD k 0 / 8) with ⟨_, h⟩ | ⟨_, h⟩ | ⟨_, h⟩ | ⟨_, h⟩ | ⟨_, h⟩ | ⟨_, h⟩ | ⟨_, h⟩ | ⟨_, h⟩ | ⟨_, h⟩ | ⟨_, h⟩
    · exact get_0low bs A n c k w _ _ _ hn ho hr hlt hn2 rfl rfl rfl h
    · rcases Int.lt_or_le 0 (bs.getD k 0 % 8) with k1 | k1
      · exact get_1low bs A n c k w _ _ _ hn ho hr hlt hn2 rfl rfl rfl h k1
      · exact get_1ok bs A n c k w _ _ _ hn ho hr hlt hn2 rfl rfl rfl h k1
    · rcases Int.lt_or_le 6 (bs.getD k 0 % 8) with k1 | k1
      · exact get_2low bs A n c k w _ _ _ hn ho hr hlt hn2 rfl rfl rfl h k1
      · rcases Nat.lt_or_ge n (k + 2) with k2 | k2
        · exact get_2short bs A n c k w _ _ _ hn ho hr hlt hn2 rfl rfl rfl h k1 k2
        · rcases Int.lt_or_le 6 (bs.getD (k + 1) 0) with k3 | k3
          · exact get_2bad bs A n c k w _ _ _ hn ho hr hlt hn2 rfl rfl rfl h k1 k2 k3
          · exact get_2ok bs A n c k w _ _ _ hn ho hr hlt hn2 rfl rfl rfl h k1 k2 k3
    · rcases Int.lt_or_le 6 (bs.getD k 0 % 8) with k1 | k1
      · exact get_3low bs A n c k w _ _ _ hn ho hr hlt hn2 rfl rfl rfl h k1
      · rcases Nat.lt_or_ge n (k + 2) with k2 | k2
        · exact get_3short bs A n c k w _ _ _ hn ho hr hlt hn2 rfl rfl rfl h k1 k2
        · exact get_3ok bs A n c k w _ _ _ hn ho hr hlt hn2 rfl rfl rfl h k1 k2
    · rcases Int.lt_or_le 6 (bs.getD k 0 % 8) with k1 | k1
      · exact get_4low bs A n c k w _ _ _ hn ho hr hlt hn2 rfl rfl rfl h k1
      · exact get_4ok bs A n c k w _ _ _ hn ho hr hlt hn2 rfl rfl rfl h k1
    · by_cases k1 : bs.getD k 0 % 8 = 7
      · rcases Nat.lt_or_ge n (k + 2) with k2 | k2
        · exact get_5short bs A n c k w _ _ _ hn ho hr hlt hn2 rfl rfl rfl h k1 k2
        · exact get_5seven bs A n c k w _ _ _ hn ho hr hlt hn2 rfl rfl rfl h k1 k2
      · exact get_5ok bs A n c k w _ _ _ hn ho hr hlt hn2 rfl rfl rfl h k1
    · rcases Int.lt_or_le 3 (bs.getD k 0 % 8) with k1 | k1
      · exact get_6low bs A n c k w _ _ _ hn ho hr hlt hn2 rfl rfl rfl h k1
      · rcases Nat.lt_or_ge n (k + 2) with k2 | k2
        · exact get_6short bs A n c k w _ _ _ hn ho hr hlt hn2 rfl rfl rfl h k1 k2
        · exact get_6ok bs A n c k w _ _ _ hn ho hr hlt hn2 rfl rfl rfl h k1 k2
    · rcases Int.lt_or_le 0 (bs.getD k 0 % 8) with k1 | k1
      · exact get_7low bs A n c k w _ _ _ hn ho hr hlt hn2 rfl rfl rfl h k1
      · rcases Nat.lt_or_ge n (k + 2) with k2 | k2
        · exact get_7short bs A n c k w _ _ _ hn ho hr hlt hn2 rfl rfl rfl h k1 k2
        · exact get_7ok bs A n c k w _ _ _ hn ho hr hlt hn2 rfl rfl rfl h k1 k2
    · rcases Int.lt_or_le 0 (bs.getD k 0 % 8) with k1 | k1
      · exact get_8low bs A n c k w _ _ _ hn ho hr hlt hn2 rfl rfl rfl h k1
      · rcases Nat.lt_or_ge n (k + 2) with k2 | k2
        · exact get_8short bs A n c k w _ _ _ hn ho hr hlt hn2 rfl rfl rfl h k1 k2
        · by_cases k3 : 0 ≤ (k : Int) + 2 + i8 (bs.getD (k + 1) 0) ∧ (k : Int) + 2 + i8 (bs.getD (k + 1) 0) ≤ 65535
          · exact get_8ok bs A n c k w _ _ _ hn ho hr hlt hn2 rfl rfl rfl h k1 k2 k3
          · exact get_8bad bs A n c k w _ _ _ hn ho hr hlt hn2 rfl rfl rfl h k1 k2 (by omega)
    · rcases Int.lt_or_le 0 (bs.getD k 0 % 8) with k1 | k1
      · exact get_9low bs A n c k w _ _ _ hn ho hr hlt hn2 rfl rfl rfl h k1
      · rcases Nat.lt_or_ge n (k + 3) with k2 | k2
        · exact get_9short bs A n c k w _ _ _ hn ho hr hlt hn2 rfl rfl rfl h k1 k2
        · exact get_9ok bs A n c k w _ _ _ hn ho hr hlt hn2 rfl rfl rfl h k1 k2
end Go.Proofs.Ytebmgladdgmmeaa
