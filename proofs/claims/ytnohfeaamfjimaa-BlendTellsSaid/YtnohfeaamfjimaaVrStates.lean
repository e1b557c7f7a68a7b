/- What each function of package states and of its reference computes: 'Calls' contracts for every state and every bit; no condition beyond 0 ≤ s ≤ 255. -/
import Derived.Test.YtnohfeaamfjimaaRows
import Derived.WalkKit
import Derived.WalkSpells
import Derived.WalkLawsBesides
import Derived.Laws.BitsLemmas
import Derived.Lib.Hide
namespace Go.Proofs.Ytnohfeaamfjimaa
open Go.RowKit
def capI (n : Int) : Int := if n + 1 > 15 then 15 else n + 1
def lessI (n : Int) : Int := if n > 2 then n / 2 + 1 else n
def nextI (s bit : Int) : Int := if bit = 0 then capI (s / 16) * 16 + lessI (s % 16) else lessI (s / 16) * 16 + capI (s % 16)
def chanceI (s : Int) : Int := (2 * (s % 16) + 1) * 65536 / (2 * (s / 16) + 2 * (s % 16) + 2)
theorem ret_u8 {a b : Int} (h : a = b) : Ending.returned (.int .u8 a) = .returned (.int .u8 b) := by rw [h]
theorem ret_i64 {a b : Int} (h : a = b) : Ending.returned (.int .i64 a) = .returned (.int .i64 b) := by rw [h]
theorem or16 (a b : Int) (h0 : 0 ≤ a) (h1 : a ≤ 15) (h2 : 0 ≤ b) (h3 : b ≤ 15) : bits .or .i64 (a * 16) b % 256 = a * 16 + b := by
  have : bits .or .i64 (a * 16) b = a * 16 + b := bits_join .i64 63 (by decide) (fun n h0 h1 => by rw [IntKind.wrap_i64]; omega) 4 _ _ (by omega) (by omega) (by omega) h2 (by omega) (by omega)
  rw [this]; omega
theorem counts_any (s : Int) (w : World) (h0 : 0 ≤ s) (h1 : s ≤ 255) :
    Calls Try.prog 65 #[.int .u8 s] w fun e w' => e = .returned (.tuple #[.int .i64 (s / 16), .int .i64 (s % 16)]) ∧ w = w' := by
  go_enter Try.func65, Try.ntmps65
  go_wp2
  go_ret2
  exact ⟨rfl, rfl⟩
theorem rcounts_any (s : Int) (w : World) (h0 : 0 ≤ s) (h1 : s ≤ 255) :
    Calls Try.prog 69 #[.int .u8 s] w fun e w' => e = .returned (.tuple #[.int .i64 (s / 16), .int .i64 (s % 16)]) ∧ w = w' := by
  go_enter Try.func69, Try.ntmps69
  go_wp2
  go_ret2
  exact ⟨rfl, rfl⟩
theorem less_any (n : Int) (w : World) (h0 : 0 ≤ n) (h1 : n ≤ 15) :
    Calls Try.prog 102 #[.int .i64 n] w fun e w' => e = .returned (.int .i64 (lessI n)) ∧ w = w' := by
  by_cases h : 2 < n
  all_goals
    go_enter Try.func102, Try.ntmps102
    go_wp2
    go_ret
    refine ⟨ret_i64 ?_, rfl⟩
    unfold lessI
    split <;> omega
theorem cap_bd (n : Int) (h0 : 0 ≤ n) (h1 : n ≤ 15) : 0 ≤ capI n ∧ capI n ≤ 15 := by unfold capI; split <;> omega
theorem less_bd (n : Int) (h0 : 0 ≤ n) (h1 : n ≤ 15) : 0 ≤ lessI n ∧ lessI n ≤ 15 := by unfold lessI; split <;> omega
theorem next_bd (s bit : Int) (h0 : 0 ≤ s) (h1 : s ≤ 255) : 0 ≤ nextI s bit ∧ nextI s bit ≤ 255 := by
  have := cap_bd (s/16) (by omega) (by omega)
  have := cap_bd (s%16) (by omega) (by omega)
  have := less_bd (s/16) (by omega) (by omega)
  have := less_bd (s%16) (by omega) (by omega)
  unfold nextI; split <;> omega
set_option maxHeartbeats 400000 in
theorem next_any (s bit : Int) (w : World) (h0 : 0 ≤ s) (h1 : s ≤ 255) :
    Calls Try.prog 101 #[.int .u8 s, .int .i64 bit] w fun e w' => e = .returned (.int .u8 (nextI s bit)) ∧ w = w' := by
  have b1 := less_bd (s/16) (by omega) (by omega)
  have b2 := less_bd (s%16) (by omega) (by omega)
  by_cases hb : bit = 0
  · have hb' : (bit == 0) = true := by simp [hb]
    have H : nextI s bit = capI (s / 16) * 16 + lessI (s % 16) := by unfold nextI; rw [if_pos hb]
    have H := Lib.hid H
    clear hb
    by_cases hc : 15 < s / 16 + 1
    all_goals
      go_enter Try.func101, Try.ntmps101
      go_wp2_with (first | (go_at_call 65; refine (counts_any _ _ (by omega) (by omega)).mono ?_; rintro e w' ⟨rfl, rfl⟩) | (go_at_call 102; refine (less_any _ _ (by omega) (by omega)).mono ?_; rintro e w' ⟨rfl, rfl⟩))
      go_ret
      refine ⟨ret_u8 ?_, rfl⟩
      rw [H.out]
    · rw [show (240 : Int) = 15 * 16 from rfl, or16 _ _ (by omega) (by omega) b2.1 b2.2]; unfold capI; rw [if_pos (by omega)]
    · rw [or16 _ _ (by omega) (by omega) b2.1 b2.2]; unfold capI; rw [if_neg (by omega)]
  · have hb' : (bit == 0) = false := by simp [hb]
    have H : nextI s bit = lessI (s / 16) * 16 + capI (s % 16) := by unfold nextI; rw [if_neg hb]
    have H := Lib.hid H
    clear hb
    by_cases hc : 15 < s % 16 + 1
    all_goals
      go_enter Try.func101, Try.ntmps101
      go_wp2_with (first | (go_at_call 65; refine (counts_any _ _ (by omega) (by omega)).mono ?_; rintro e w' ⟨rfl, rfl⟩) | (go_at_call 102; refine (less_any _ _ (by omega) (by omega)).mono ?_; rintro e w' ⟨rfl, rfl⟩))
      go_ret
      refine ⟨ret_u8 ?_, rfl⟩
      rw [H.out]
    · rw [or16 _ _ b1.1 b1.2 (by omega) (by omega)]; unfold capI; rw [if_pos (by omega)]
    · rw [or16 _ _ b1.1 b1.2 (by omega) (by omega)]; unfold capI; rw [if_neg (by omega)]
set_option maxHeartbeats 400000 in
theorem rnext_any (s bit : Int) (w : World) (h0 : 0 ≤ s) (h1 : s ≤ 255) :
    Calls Try.prog 56 #[.int .u8 s, .int .i64 bit] w fun e w' => e = .returned (.int .u8 (nextI s bit)) ∧ w = w' := by
  by_cases hb : bit = 0
  · have hb' : (bit == 0) = true := by simp [hb]
    have H : nextI s bit = capI (s / 16) * 16 + lessI (s % 16) := by unfold nextI; rw [if_pos hb]
    have H := Lib.hid H
    clear hb
    by_cases hc : 15 < s / 16 + 1 <;> by_cases hd : 2 < s % 16
    all_goals
      go_enter Try.func56, Try.ntmps56
      go_wp2_with (first | (go_at_call 69; refine (rcounts_any _ _ (by omega) (by omega)).mono ?_; rintro e w' ⟨rfl, rfl⟩))
      go_ret
      refine ⟨ret_u8 ?_, rfl⟩
      rw [H.out]
      unfold capI lessI
      (repeat' split) <;> omega
  · have hb' : (bit == 0) = false := by simp [hb]
    have H : nextI s bit = lessI (s / 16) * 16 + capI (s % 16) := by unfold nextI; rw [if_neg hb]
    have H := Lib.hid H
    clear hb
    by_cases hc : 15 < s % 16 + 1 <;> by_cases hd : 2 < s / 16
    all_goals
      go_enter Try.func56, Try.ntmps56
      go_wp2_with (first | (go_at_call 69; refine (rcounts_any _ _ (by omega) (by omega)).mono ?_; rintro e w' ⟨rfl, rfl⟩))
      go_ret
      refine ⟨ret_u8 ?_, rfl⟩
      rw [H.out]
      unfold capI lessI
      (repeat' split) <;> omega
theorem chance_any (s : Int) (w : World) (h0 : 0 ≤ s) (h1 : s ≤ 255) :
    Calls Try.prog 44 #[.int .u8 s] w fun e w' => e = .returned (.int .i64 (chanceI s)) ∧ w = w' := by
  have hd : ((2 * (s / 16) + 2 * (s % 16) + 2) == 0) = false := by simp; omega
  go_enter Try.func44, Try.ntmps44
  go_wp2_with (first | (go_at_call 65; refine (counts_any _ _ (by omega) (by omega)).mono ?_; rintro e w' ⟨rfl, rfl⟩))
  go_ret
  exact ⟨rfl, rfl⟩
theorem rchance_any (s : Int) (w : World) (h0 : 0 ≤ s) (h1 : s ≤ 255) :
    Calls Try.prog 53 #[.int .u8 s] w fun e w' => e = .returned (.int .i64 (chanceI s)) ∧ w = w' := by
  have hd : ((2 * (s / 16) + 2 * (s % 16) + 2) == 0) = false := by simp; omega
  go_enter Try.func53, Try.ntmps53
  go_wp2_with (first | (go_at_call 69; refine (rcounts_any _ _ (by omega) (by omega)).mono ?_; rintro e w' ⟨rfl, rfl⟩))
  go_ret
  exact ⟨rfl, rfl⟩
end Go.Proofs.Ytnohfeaamfjimaa
