/- Lists of parts of any length: walks. -/
import Derived.Test.YtnohfeaamfjimaaVrBlLs
namespace Go.Proofs.Ytnohfeaamfjimaa
open Go.RowKit Go.WideShapes
set_option linter.unusedVariables false
set_option linter.unusedSimpArgs false
theorem rightP_big {ts : List Pt} (h : 16 < ts.length) : rightP ts = 100 := by unfold rightP; rw [if_pos (.inr h)]
theorem rightBig (A : Option Addr) (n c : Nat) (w : World) (h : 16 < n) : Calls Try.prog 26 #[.slice A n c] w (Quiet (.int .i64 100) w) := by
  have g0 : ((n : Int) == 0) = false := by simp; omega
  have g1 : decide ((16 : Int) < (n : Int)) = true := by simp; omega
  have g2 : decide ((n : Int) < 1) = false := by simp; omega
  go_enter Try.func26, Try.ntmps26
  go_wp2
  go_ret
  exact ⟨rfl, Below.refl _ _⟩
theorem rightBigR (A : Option Addr) (n c : Nat) (w : World) (h : 16 < n) : Calls Try.prog 33 #[.slice A n c] w (Quiet (.int .i64 100) w) := by
  have g0 : ((n : Int) == 0) = false := by simp; omega
  have g1 : decide ((16 : Int) < (n : Int)) = true := by simp; omega
  have g2 : decide ((n : Int) < 1) = false := by simp; omega
  go_enter Try.func33, Try.ntmps33
  go_wp2
  go_ret
  exact ⟨rfl, Below.refl _ _⟩
theorem newBig (A : Option Addr) (n c : Nat) (w : World) (h : 16 < n) : Calls Try.prog 8 #[.slice A n c] w (fun e w' => e = .returned (.tuple #[.pointer none, .int .i64 100]) ∧ Below w.heap.size w w') := by
  have HR := Lib.hid (rightBig A n c w h)
  go_enter Try.func8, Try.ntmps8
  go_wp2_with fail
  refine (HR.out).mono ?_
  rintro e w1 ⟨rfl, hb1⟩
  have HB1 := Lib.hid hb1
  clear hb1
  go_wp2
  refine bodyPost_ret (v := .tuple #[.pointer none, .int .i64 100]) (by simp [results, Try.results8, go_sem]) rfl ?_
  exact ⟨rfl, HB1.out⟩
theorem new_any (ts : List Pt) (A : Option Addr) (n c : Nat) (w : World) (hn : n = ts.length) (hok : ∀ t ∈ ts, t.ok) (hr : Rd w A (flat_pts ts)) : Calls Try.prog 8 #[.slice A n c] w (NewS ts w) := by
  by_cases h : n ≤ 5000
  · exact newS ts A n c w hn hok hr h
  · refine (newBig A n c w (by omega)).mono ?_
    rintro e w' ⟨rfl, hb⟩
    have e100 : rightP ts = 100 := rightP_big (by omega)
    refine ⟨hb, ?_⟩
    rw [if_neg (by rw [e100]; decide), e100]
theorem rightR_any (ts : List Pt) (A : Option Addr) (n c : Nat) (w : World) (hn : n = ts.length) (hr : Rd w A (flat_pts ts)) : Calls Try.prog 33 #[.slice A n c] w (Quiet (.int .i64 (rightP ts)) w) := by
  by_cases h : n ≤ 5000
  · exact rightListR ts A n c w hn hr h
  · rw [rightP_big (by omega)]
    exact rightBigR A n c w (by omega)
def greatP (ts : List Pt) : Bool := decide (ts.length ≤ 16) && decide (40000 < memP ts)
theorem great_any (ts : List Pt) (A : Option Addr) (n c : Nat) (w : World) (hn : n = ts.length) (hok : ∀ t ∈ ts, t.ok) (hr : Rd w A (flat_pts ts)) : Calls Try.prog 12 #[.slice A n c] w (Quiet (.bool (greatP ts)) w) := by
  by_cases h : n ≤ 16
  · have HM := Lib.hid (memory_any ts A n c w hn hok hr (by omega))
    have hb := memP_bd ts
    have e : greatP ts = decide (40000 < memP ts) := by unfold greatP; rw [decide_eq_true (by omega : ts.length ≤ 16)]; rfl
    rw [e]
    obtain ⟨M, hM⟩ : ∃ M, memP ts = M := ⟨_, rfl⟩
    rw [hM] at HM hb ⊢
    have hi : (n : Int) ≤ 16 := by omega
    clear hn hr hok hM e
    go_enter Try.func12, Try.ntmps12
    go_wp2_with fail
    refine (HM.out).mono ?_
    rintro e w1 ⟨rfl, hb1⟩
    have HB1 := Lib.hid hb1
    clear hb1
    go_wp2
    go_ret
    exact ⟨rfl, HB1.out⟩
  · have e : greatP ts = false := by unfold greatP; rw [decide_eq_false (by omega : ¬ ts.length ≤ 16)]; rfl
    rw [e]
    have hi : ¬ (n : Int) ≤ 16 := by omega
    clear hn hr hok e
    go_enter Try.func12, Try.ntmps12
    go_wp2
    go_ret
    exact ⟨rfl, Below.refl _ _⟩
end Go.Proofs.Ytnohfeaamfjimaa
