/- The reference of chapter 15: Get: the walk. Condition: none beyond a slice's own. -/
import Derived.Test.YtaiekpdoljleeaaVaRg1
import Derived.Test.YtaiekpdoljleeaaVaRg2
import Derived.Test.YtaiekpdoljleeaaVaRg3
namespace Go.Proofs.Ytaiekpdoljleeaa
open Go.RowKit Go.WideShapes
set_option linter.unusedVariables false
set_option linter.unusedSimpArgs false
set_option maxRecDepth 100000 in
set_option maxHeartbeats 4000000 in
theorem getR_out (bs : List Int) (A : Option Addr) (n c : Nat) (a : Int) (w : World) (hn : n = bs.length) (hnm : n ≤ 9223372036854775807) (h : a < 0 ∨ (n : Int) ≤ a ∨ 65536 < n) : Calls Try.prog 54 #[.slice A n c, .int .i64 a] w (IsGot (getI bs a) w) := by
  have e : getI bs a = (zI, 0, 2) := by unfold getI; rw [if_pos (by rw [← hn]; exact h)]
  rw [e]
  clear e hn
  have hcl : ∀ w', Below w.heap.size w w' → IsGot (zI, 0, 2) w (.returned (.tuple #[.agg #[.int .u8 0, .int .i64 0, .int .i64 0, .int .i64 0], .int .i64 0, .int .i64 2])) w' := fun w' hb => ⟨rfl, hb⟩
  have HCL := Lib.hid hcl
  clear hcl
  rcases (show a < 0 ∨ (0 ≤ a ∧ (n : Int) ≤ a) ∨ (0 ≤ a ∧ a < n ∧ 65536 < n) from by omega) with h1 | ⟨h1, h2⟩ | ⟨h1, h2, h3⟩
  · have g1 : decide (a < 0) = true := by simp; omega
    clear h
    go_enter Try.func54, Try.ntmps54
    go_wp2
    exact bodyPost_ret (v := .tuple #[.agg #[.int .u8 0, .int .i64 0, .int .i64 0, .int .i64 0], .int .i64 0, .int .i64 2]) (by simp [results, Try.results54, go_sem]) rfl (HCL.out _ (by repeat (first | exact Below.refl _ _ | (refine Below.setCell ?_ (by simp) _) | (refine Below.alloc ?_ (by simp; try omega) _))))
  · have g1 : decide (a < 0) = false := by simp; omega
    have g2 : decide ((n : Int) ≤ a) = true := by simp; omega
    clear h
    go_enter Try.func54, Try.ntmps54
    go_wp2
    exact bodyPost_ret (v := .tuple #[.agg #[.int .u8 0, .int .i64 0, .int .i64 0, .int .i64 0], .int .i64 0, .int .i64 2]) (by simp [results, Try.results54, go_sem]) rfl (HCL.out _ (by repeat (first | exact Below.refl _ _ | (refine Below.setCell ?_ (by simp) _) | (refine Below.alloc ?_ (by simp; try omega) _))))
  · have g1 : decide (a < 0) = false := by simp; omega
    have g2 : decide ((n : Int) ≤ a) = false := by simp; omega
    have g3 : decide ((65536 : Int) < (n : Int)) = true := by simp; omega
    have H3 := Lib.hid h3
    clear h h3
    go_enter Try.func54, Try.ntmps54
    go_wp2
    exact bodyPost_ret (v := .tuple #[.agg #[.int .u8 0, .int .i64 0, .int .i64 0, .int .i64 0], .int .i64 0, .int .i64 2]) (by simp [results, Try.results54, go_sem]) rfl (HCL.out _ (by repeat (first | exact Below.refl _ _ | (refine Below.setCell ?_ (by simp) _) | (refine Below.alloc ?_ (by simp; try omega) _))))
theorem getR_any (bs : List Int) (A : Option Addr) (n c : Nat) (a : Int) (w : World) (hn : n = bs.length) (ho : Oct bs) (hr : Rd w A (octs bs)) (hnm : n ≤ 9223372036854775807) : Calls Try.prog 54 #[.slice A n c, .int .i64 a] w (IsGot (getI bs a) w) := by
  by_cases hout : a < 0 ∨ (n : Int) ≤ a ∨ 65536 < n
  · exact getR_out bs A n c a w hn hnm hout
  · obtain ⟨k, rfl⟩ : ∃ k : Nat, a = k := ⟨a.toNat, by omega⟩
    have hlt : k < n := by omega
    have hn2 : n ≤ 65536 := by omega
    have e : getI bs k = getN bs k := by unfold getI; rw [if_neg (by rw [← hn]; omega)]; rfl
    rw [e]
    clear e hout hnm
    rcases sh_cases (bs.getD k 0 / 8) with ⟨hc, h⟩ | ⟨hc, h⟩ | ⟨hc, h⟩ | ⟨hc, h⟩ | ⟨hc, h⟩ | ⟨hc, h⟩ | ⟨hc, h⟩ | ⟨hc, h⟩ | ⟨hc, h⟩ | ⟨hc, h⟩
    · exact getR_0low bs A n c k w _ _ _ hn ho hr hlt hn2 rfl rfl rfl h hc
    · rcases Int.lt_or_le 0 (bs.getD k 0 % 8) with k1 | k1
      · exact getR_1low bs A n c k w _ _ _ hn ho hr hlt hn2 rfl rfl rfl h hc k1
      · exact getR_1ok bs A n c k w _ _ _ hn ho hr hlt hn2 rfl rfl rfl h hc k1
    · rcases Int.lt_or_le 6 (bs.getD k 0 % 8) with k1 | k1
      · exact getR_2low bs A n c k w _ _ _ hn ho hr hlt hn2 rfl rfl rfl h hc k1
      · rcases Nat.lt_or_ge n (k + 2) with k2 | k2
        · exact getR_2short bs A n c k w _ _ _ hn ho hr hlt hn2 rfl rfl rfl h hc k1 k2
        · rcases Int.lt_or_le 6 (bs.getD (k + 1) 0) with k3 | k3
          · exact getR_2bad bs A n c k w _ _ _ hn ho hr hlt hn2 rfl rfl rfl h hc k1 k2 k3
          · exact getR_2ok bs A n c k w _ _ _ hn ho hr hlt hn2 rfl rfl rfl h hc k1 k2 k3
    · rcases Int.lt_or_le 6 (bs.getD k 0 % 8) with k1 | k1
      · exact getR_3low bs A n c k w _ _ _ hn ho hr hlt hn2 rfl rfl rfl h hc k1
      · rcases Nat.lt_or_ge n (k + 2) with k2 | k2
        · exact getR_3short bs A n c k w _ _ _ hn ho hr hlt hn2 rfl rfl rfl h hc k1 k2
        · exact getR_3ok bs A n c k w _ _ _ hn ho hr hlt hn2 rfl rfl rfl h hc k1 k2
    · rcases Int.lt_or_le 6 (bs.getD k 0 % 8) with k1 | k1
      · exact getR_4low bs A n c k w _ _ _ hn ho hr hlt hn2 rfl rfl rfl h hc k1
      · exact getR_4ok bs A n c k w _ _ _ hn ho hr hlt hn2 rfl rfl rfl h hc k1
    · by_cases k1 : bs.getD k 0 % 8 = 7
      · rcases Nat.lt_or_ge n (k + 2) with k2 | k2
        · exact getR_5short bs A n c k w _ _ _ hn ho hr hlt hn2 rfl rfl rfl h hc k1 k2
        · exact getR_5seven bs A n c k w _ _ _ hn ho hr hlt hn2 rfl rfl rfl h hc k1 k2
      · exact getR_5ok bs A n c k w _ _ _ hn ho hr hlt hn2 rfl rfl rfl h hc k1
    · rcases Int.lt_or_le 3 (bs.getD k 0 % 8) with k1 | k1
      · exact getR_6low bs A n c k w _ _ _ hn ho hr hlt hn2 rfl rfl rfl h hc k1
      · rcases Nat.lt_or_ge n (k + 2) with k2 | k2
        · exact getR_6short bs A n c k w _ _ _ hn ho hr hlt hn2 rfl rfl rfl h hc k1 k2
        · exact getR_6ok bs A n c k w _ _ _ hn ho hr hlt hn2 rfl rfl rfl h hc k1 k2
    · rcases Int.lt_or_le 0 (bs.getD k 0 % 8) with k1 | k1
      · exact getR_7low bs A n c k w _ _ _ hn ho hr hlt hn2 rfl rfl rfl h hc k1
      · rcases Nat.lt_or_ge n (k + 2) with k2 | k2
        · exact getR_7short bs A n c k w _ _ _ hn ho hr hlt hn2 rfl rfl rfl h hc k1 k2
        · exact getR_7ok bs A n c k w _ _ _ hn ho hr hlt hn2 rfl rfl rfl h hc k1 k2
    · rcases Int.lt_or_le 0 (bs.getD k 0 % 8) with k1 | k1
      · exact getR_8low bs A n c k w _ _ _ hn ho hr hlt hn2 rfl rfl rfl h hc k1
      · rcases Nat.lt_or_ge n (k + 2) with k2 | k2
        · exact getR_8short bs A n c k w _ _ _ hn ho hr hlt hn2 rfl rfl rfl h hc k1 k2
        · by_cases k3 : 0 ≤ (k : Int) + 2 + i8 (bs.getD (k + 1) 0) ∧ (k : Int) + 2 + i8 (bs.getD (k + 1) 0) ≤ 65535
          · exact getR_8ok bs A n c k w _ _ _ hn ho hr hlt hn2 rfl rfl rfl h hc k1 k2 k3
          · exact getR_8bad bs A n c k w _ _ _ hn ho hr hlt hn2 rfl rfl rfl h hc k1 k2 (by omega)
    · rcases Int.lt_or_le 0 (bs.getD k 0 % 8) with k1 | k1
      · exact getR_9low bs A n c k w _ _ _ hn ho hr hlt hn2 rfl rfl rfl h hc k1
      · rcases Nat.lt_or_ge n (k + 3) with k2 | k2
        · exact getR_9short bs A n c k w _ _ _ hn ho hr hlt hn2 rfl rfl rfl h hc k1 k2
        · exact getR_9ok bs A n c k w _ _ _ hn ho hr hlt hn2 rfl rfl rfl h hc k1 k2
end Go.Proofs.Ytaiekpdoljleeaa
