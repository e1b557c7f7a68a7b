/- The reference's small functions: walks. -/
import Derived.Test.YtnohfeaamfjimaaVrBlTp
import Derived.StillTailTactics
import Derived.IntWalk
namespace Go.Proofs.Ytnohfeaamfjimaa
open Go.RowKit Go.WideShapes
set_option linter.unusedVariables false
set_option linter.unusedSimpArgs false
theorem pow_le40 {n : Nat} (h : n ≤ 40) : 1 ≤ 2 ^ n ∧ 2 ^ n ≤ 1099511627776 := by
  have h1 := Nat.pow_le_pow_right (show 0 < 2 by omega) h
  have h2 := Nat.two_pow_pos n
  have e : (2 : Nat) ^ 40 = 1099511627776 := by decide
  omega
theorem powerR (n : Nat) (w : World) (hn : n ≤ 40) : Calls Try.prog 52 #[.int .i64 (n : Int)] w (Sam (.int .i64 ((2 ^ n : Nat) : Int)) w) := by
  obtain ⟨N, hN⟩ : ∃ N, 2 ^ n = N := ⟨_, rfl⟩
  have HN := Lib.hid hN
  rw [hN]
  clear hN
  go_enter Try.func52, Try.ntmps52
  go_wp2_with fail
  go_loopw [3, 4] (fun v i wr => ∃ k p : Nat, k ≤ n ∧ i = .int .i64 k ∧ v = .int .i64 p ∧ 2 ^ k = p ∧ wr = w) (fun _ i _ => n - (intOf i).toNat)
  case atStart => exact ⟨0, 1, by omega, rfl, rfl, rfl, rfl⟩
  case round =>
    obtain ⟨k, p, hk, rfl, rfl, hp, rfl⟩ := hrel
    have hb := pow_le40 (n := k) (by omega)
    rw [hp] at hb
    have HP := Lib.hid hp
    clear hp
    by_cases hlt : k < n
    · have hki : (k : Int) < n := by omega
      have e1 : IntKind.i64.wrap ((p : Int) * 2) = (p : Int) * 2 := IntWalk.i64_in _ (by omega)
      go_wp2
      go_roundw
      case rel => exact ⟨k + 1, p * 2, by omega, by go_num, by go_num, by rw [Nat.pow_succ, HP.out], by first | rfl | trivial⟩
      case measure => simp [intOf]; omega
    · obtain rfl : k = n := by omega
      go_wp2
      go_ret
      obtain rfl := HN.out.symm.trans HP.out
      exact ⟨rfl, rfl⟩
theorem intoR (n a b : Int) (w : World) (hab : a ≤ b) : Calls Try.prog 57 #[.int .i64 n, .int .i64 a, .int .i64 b] w (Sam (.int .i64 (intoI n a b)) w) := by
  have e : intoI n a b = if n < a then a else if b < n then b else n := by
    unfold intoI
    split
    · omega
    · split <;> omega
  rw [e]
  by_cases h1 : n < a
  · rw [if_pos h1]
    go_enter Try.func57, Try.ntmps57
    go_wp2
    go_ret
    exact ⟨rfl, rfl⟩
  · by_cases h2 : b < n
    · rw [if_neg h1, if_pos h2]
      go_enter Try.func57, Try.ntmps57
      go_wp2
      go_ret
      exact ⟨rfl, rfl⟩
    · rw [if_neg h1, if_neg h2]
      go_enter Try.func57, Try.ntmps57
      go_wp2
      go_ret
      exact ⟨rfl, rfl⟩
theorem ediv_of_tdiv {a b : Int} (hb : 0 < b) : a / b = if a.tmod b ≠ 0 ∧ a < 0 then a.tdiv b - 1 else a.tdiv b := by
  by_cases ha : 0 ≤ a
  · rw [if_neg (by omega), Int.tdiv_eq_ediv_of_nonneg ha]
  · have h1 := Int.mul_tdiv_add_tmod a b
    have h2 : -b < a.tmod b := Int.lt_tmod_of_pos a hb
    have h3 : a.tmod b ≤ 0 := by
      have := Int.tmod_nonneg (a := -a) b (by omega)
      rw [Int.neg_tmod] at this
      omega
    have h4 : a / b = a.tmod b / b + a.tdiv b := by
      conv => lhs; rw [← h1]
      rw [Int.add_comm, Int.add_mul_ediv_left _ _ (by omega)]
    by_cases h0 : a.tmod b = 0
    · rw [if_neg (fun h => h.1 h0), h4, h0]
      simp
    · rw [if_pos ⟨h0, by omega⟩, h4]
      have : a.tmod b / b = -1 := by
        have e1 : a.tmod b / b = (a.tmod b + b * 1) / b - 1 := by rw [Int.add_mul_ediv_left _ _ (by omega)]; omega
        rw [e1, Int.ediv_eq_zero_of_lt (by omega) (by omega)]
        rfl
      omega
theorem downR (a b : Int) (w : World) (hb : 0 < b) (hb2 : b ≤ 1000000000) (ha : -4000000000000000000 ≤ a ∧ a ≤ 4000000000000000000) : Calls Try.prog 58 #[.int .i64 a, .int .i64 b] w (Sam (.int .i64 (a / b)) w) := by
  have e := ediv_of_tdiv (a := a) hb
  have hbne : ¬ b = 0 := by omega
  have hlb : ¬ b < 0 := by omega
  have hq : -4000000000000000000 ≤ a / b ∧ a / b ≤ 4000000000000000000 := by
    have h1 := Int.ediv_lt_of_lt_mul (a := a) (b := 4000000000000000001) hb (by
      have := Int.mul_le_mul_of_nonneg_left (show (1 : Int) ≤ b by omega) (show (0 : Int) ≤ 4000000000000000001 by omega)
      omega)
    have h2 := Int.le_ediv_of_mul_le (a := -4000000000000000000) (b := a) hb (by
      have := Int.mul_le_mul_of_nonneg_left (show (1 : Int) ≤ b by omega) (show (0 : Int) ≤ 4000000000000000000 by omega)
      omega)
    omega
  obtain ⟨D, hD⟩ : ∃ D, a / b = D := ⟨_, rfl⟩
  rw [hD] at e hq ⊢
  obtain ⟨q, hqq⟩ : ∃ q, a.tdiv b = q := ⟨_, rfl⟩
  obtain ⟨r, hr⟩ : ∃ r, a.tmod b = r := ⟨_, rfl⟩
  rw [hqq, hr] at e
  have hqb : -4000000000000000001 ≤ q ∧ q ≤ 4000000000000000001 := by split at e <;> omega
  have e1 : IntKind.i64.wrap q = q := IntWalk.i64_in _ (by omega)
  have HD := Lib.hid hD
  clear hD
  by_cases h0 : r = 0
  · subst h0
    rw [if_neg (by simp)] at e
    subst e
    go_enter Try.func58, Try.ntmps58
    go_wp2
    go_ret
    exact ⟨rfl, rfl⟩
  · by_cases ha0 : a < 0
    · rw [if_pos ⟨h0, ha0⟩] at e
      have e2 : IntKind.i64.wrap (q - 1) = q - 1 := IntWalk.i64_in _ (by omega)
      have e3 : (r != 0) = true := by simpa using h0
      have HE := Lib.hid e
      clear e
      go_enter Try.func58, Try.ntmps58
      go_wp2
      go_ret
      obtain rfl : D = q - 1 := HE.out
      exact ⟨rfl, rfl⟩
    · rw [if_neg (fun h => ha0 h.2)] at e
      subst e
      have e3 : (r != 0) = true := by simpa using h0
      go_enter Try.func58, Try.ntmps58
      go_wp2
      go_ret
      exact ⟨rfl, rfl⟩
theorem placeR (h c : Int) (s : Nat) (w : World) (h0 : 0 ≤ h) (h1 : h ≤ 4294967295) (c0 : 0 ≤ c) (c1 : c ≤ 255) (s2 : s ≤ 16) : Calls Try.prog 54 #[.int .u32 h, .int .i64 c, .int .i64 (s : Int)] w (Sam (.int .i64 (placeI h c s)) w) := by
  by_cases hs : s = 0
  · subst hs
    go_enter Try.func54, Try.ntmps54
    go_wp2
    go_ret
    exact ⟨rfl, rfl⟩
  · have e : placeI h c s = bits .xor .u32 h (c * 40503) * 2654435761 % 4294967296 / 2 ^ (32 - s) := if_neg hs
    have HP := Lib.hid (powerR (32 - s) w (by omega))
    have hp := pow_le40 (n := 32 - s) (by omega)
    have ec : ((2 ^ (32 - s) : Nat) : Int) = (2 : Int) ^ (32 - s) := by push_cast; rfl
    rw [← ec] at e
    rw [e]
    obtain ⟨P, hP⟩ : ∃ P, 2 ^ (32 - s) = P := ⟨_, rfl⟩
    rw [hP] at HP hp ⊢
    have hsi : ¬ (s : Int) = 0 := by omega
    have e5 : ((32 - s : Nat) : Int) = 32 - (s : Int) := by omega
    rw [e5] at HP
    have hP0 : ¬ P = 0 := by omega
    clear e ec hP e5
    go_enter Try.func54, Try.ntmps54
    go_upto_region 4 with fail
    go_wp2_with fail
    refine (HP.out).mono ?_
    rintro e w1 ⟨rfl, rfl⟩
    go_wp2
    go_ret
    exact ⟨rfl, rfl⟩
end Go.Proofs.Ytnohfeaamfjimaa
