/- OctetsPlaces' walk: for every row of bytes: true; nothing that was there is written. No condition. -/
import Derived.Test.YtbmhfefbfocelaaAwake
namespace Go.Proofs.Ytbmhfefbfocelaa
open Go.RowKit Go.WideShapes Go.ChangeShapes
set_option linter.unusedVariables false
/-- What a question for n bytes answers of whether there is a number. -/
def Ans (k : IntKind) (b : Bool) (w : World) (e : Ending) (w' : World) : Prop := (∃ x : Int, e = .returned (.tuple #[.int k x, .bool b])) ∧ w = w'
section
variable (bs : List Int) (A : Option Addr) (L c : Nat) (a : Int) (w : World)
theorem u8_ans (hL : L = bs.length) (ho : Oct bs) (hr : Rd w A (octs bs)) (h2 : L ≤ c) (hm : c ≤ maxLen) (h0 : -9223372036854775808 ≤ a) (h1 : a ≤ 9223372036854775807) (b : Bool) (hb : b = decide (0 ≤ a ∧ a + 1 ≤ L)) :
    Calls Try.prog 11 #[.slice A L c, .int .i64 a] w (Ans .u8 b w) := by
  by_cases h : 0 ≤ a ∧ a + 1 ≤ (L : Int)
  · rw [hb, decide_eq_true h]
    obtain ⟨k, rfl⟩ := Int.eq_ofNat_of_zero_le h.1
    exact (u8_yes bs A L c k w hL ho hr (by omega) h2 hm).mono fun e w' ⟨he, hw⟩ => ⟨⟨_, he⟩, hw⟩
  · rw [hb, decide_eq_false h]
    exact (u8_no A L c a w (by unfold maxLen at hm; omega) h0 h1 h).mono fun e w' ⟨he, hw⟩ => ⟨⟨_, he⟩, hw⟩
theorem u16_ans (hL : L = bs.length) (ho : Oct bs) (hr : Rd w A (octs bs)) (h2 : L ≤ c) (hm : c ≤ maxLen) (h0 : -9223372036854775808 ≤ a) (h1 : a ≤ 9223372036854775807) (b : Bool) (hb : b = decide (0 ≤ a ∧ a + 2 ≤ L)) :
    Calls Try.prog 12 #[.slice A L c, .int .i64 a] w (Ans .u16 b w) := by
  by_cases h : 0 ≤ a ∧ a + 2 ≤ (L : Int)
  · rw [hb, decide_eq_true h]
    obtain ⟨k, rfl⟩ := Int.eq_ofNat_of_zero_le h.1
    exact (u16_yes bs A L c k w hL ho hr (by omega) h2 hm).mono fun e w' ⟨he, hw⟩ => ⟨⟨_, he⟩, hw⟩
  · rw [hb, decide_eq_false h]
    exact (u16_no A L c a w (by unfold maxLen at hm; omega) h0 h1 h).mono fun e w' ⟨he, hw⟩ => ⟨⟨_, he⟩, hw⟩
theorem u32_ans (hL : L = bs.length) (ho : Oct bs) (hr : Rd w A (octs bs)) (h2 : L ≤ c) (hm : c ≤ maxLen) (h0 : -9223372036854775808 ≤ a) (h1 : a ≤ 9223372036854775807) (b : Bool) (hb : b = decide (0 ≤ a ∧ a + 4 ≤ L)) :
    Calls Try.prog 13 #[.slice A L c, .int .i64 a] w (Ans .u32 b w) := by
  by_cases h : 0 ≤ a ∧ a + 4 ≤ (L : Int)
  · rw [hb, decide_eq_true h]
    obtain ⟨k, rfl⟩ := Int.eq_ofNat_of_zero_le h.1
    exact (u32_yes bs A L c k w hL ho hr (by omega) h2 hm).mono fun e w' ⟨he, hw⟩ => ⟨⟨_, he⟩, hw⟩
  · rw [hb, decide_eq_false h]
    exact (u32_no A L c a w (by unfold maxLen at hm; omega) h0 h1 h).mono fun e w' ⟨he, hw⟩ => ⟨⟨_, he⟩, hw⟩
theorem u64_ans (hL : L = bs.length) (ho : Oct bs) (hr : Rd w A (octs bs)) (h2 : L ≤ c) (hm : c ≤ maxLen) (h0 : -9223372036854775808 ≤ a) (h1 : a ≤ 9223372036854775807) (b : Bool) (hb : b = decide (0 ≤ a ∧ a + 8 ≤ L)) :
    Calls Try.prog 14 #[.slice A L c, .int .i64 a] w (Ans .u64 b w) := by
  by_cases h : 0 ≤ a ∧ a + 8 ≤ (L : Int)
  · rw [hb, decide_eq_true h]
    obtain ⟨k, rfl⟩ := Int.eq_ofNat_of_zero_le h.1
    exact (u64_yes bs A L c k w hL ho hr (by omega) h2 hm).mono fun e w' ⟨he, hw⟩ => ⟨⟨_, he⟩, hw⟩
  · rw [hb, decide_eq_false h]
    exact (u64_no A L c a w (by unfold maxLen at hm; omega) h0 h1 h).mono fun e w' ⟨he, hw⟩ => ⟨⟨_, he⟩, hw⟩
end
set_option maxRecDepth 100000 in
set_option maxHeartbeats 8000000 in
theorem places_any (bs : List Int) (A : Option Addr) (L c : Nat) (w : World) (hL : L = bs.length) (ho : Oct bs) (hr : Rd w A (octs bs)) (h2 : L ≤ c) (hm : c ≤ maxLen) :
    Calls Try.prog 3 #[.slice A L c] w fun e w' => e = .returned (.bool true) ∧ Below w.heap.size w w' := by
  have HL := Lib.hid hL
  have HM := Lib.hid hm
  have HR := Lib.hid hr
  have HO := Lib.hid ho
  unfold maxLen at hm
  clear hL hr ho
  by_cases hbig : 100 < L
  · go_enter Try.func3, Try.ntmps3
    go_wp2_with (go_at_call 10; refine (awake_any _).mono ?_; rintro e w1 ⟨rfl, hb1⟩)
    go_ret
    exact ⟨rfl, hb1⟩
  · have i0 : ∀ (a b c d : Bool) w, (Instr.index 35 (.agg #[.bool a, .bool b, .bool c, .bool d]) (.int .i64 0)).run Try.prog w = .ok (.bool a) w := fun _ _ _ _ _ => by kernel_rfl
    have i1 : ∀ (a b c d : Bool) w, (Instr.index 35 (.agg #[.bool a, .bool b, .bool c, .bool d]) (.int .i64 1)).run Try.prog w = .ok (.bool b) w := fun _ _ _ _ _ => by kernel_rfl
    have i2 : ∀ (a b c d : Bool) w, (Instr.index 35 (.agg #[.bool a, .bool b, .bool c, .bool d]) (.int .i64 2)).run Try.prog w = .ok (.bool c) w := fun _ _ _ _ _ => by kernel_rfl
    have i3 : ∀ (a b c d : Bool) w, (Instr.index 35 (.agg #[.bool a, .bool b, .bool c, .bool d]) (.int .i64 3)).run Try.prog w = .ok (.bool d) w := fun _ _ _ _ _ => by kernel_rfl
    go_enter Try.func3, Try.ntmps3
    go_wp2_with fail
    go_loop [3] (fun u => ∃ a : Int, u = .int .i64 a ∧ -9 ≤ a ∧ a ≤ L + 9) (fun u => (L + 9 - intOf u).toNat)
    case atStart => exact ⟨-9, rfl, by omega, by omega⟩
    case round =>
      obtain ⟨a, rfl, ha0, ha1⟩ := hrel
      by_cases hlt : a < L + 9
      · rcases (show a < 0 ∨ (0 ≤ a ∧ (L : Int) < a + 1) ∨ (0 ≤ a ∧ a + 1 ≤ L ∧ (L : Int) < a + 2) ∨ (0 ≤ a ∧ a + 2 ≤ L ∧ (L : Int) < a + 4) ∨ (0 ≤ a ∧ a + 4 ≤ L ∧ (L : Int) < a + 8) ∨ (0 ≤ a ∧ a + 8 ≤ (L : Int)) from by omega) with g | ⟨g, g'⟩ | ⟨g, g', g''⟩ | ⟨g, g', g''⟩ | ⟨g, g', g''⟩ | ⟨g, g'⟩
        · skip
          go_wp2_with (first
            | (go_at_call 11; refine (u8_ans bs A L c a _ HL.out HO.out HR.out h2 HM.out (by omega) (by omega) false (by simp; omega)).mono ?_; rintro e w' ⟨⟨x, rfl⟩, rfl⟩)
            | (go_at_call 12; refine (u16_ans bs A L c a _ HL.out HO.out HR.out h2 HM.out (by omega) (by omega) false (by simp; omega)).mono ?_; rintro e w' ⟨⟨x, rfl⟩, rfl⟩)
            | (go_at_call 13; refine (u32_ans bs A L c a _ HL.out HO.out HR.out h2 HM.out (by omega) (by omega) false (by simp; omega)).mono ?_; rintro e w' ⟨⟨x, rfl⟩, rfl⟩)
            | (go_at_call 14; refine (u64_ans bs A L c a _ HL.out HO.out HR.out h2 HM.out (by omega) (by omega) false (by simp; omega)).mono ?_; rintro e w' ⟨⟨x, rfl⟩, rfl⟩))
          refine wp_loop_rounds 5 ?_
          rw [rounds_succ]
          go_wp2
          rw [rounds_succ]
          go_wp2
          rw [rounds_succ]
          go_wp2
          rw [rounds_succ]
          go_wp2
          rw [rounds_succ]
          go_wp2
          go_round
          case rel => exact ⟨a + 1, rfl, by omega, by omega⟩
          case measure => simp [intOf]; omega
        · skip
          have e1 : decide (a + 1 ≤ (L : Int)) = false := by simp; omega
          have e2 : decide (a + 2 ≤ (L : Int)) = false := by simp; omega
          have e4 : decide (a + 4 ≤ (L : Int)) = false := by simp; omega
          have e8 : decide (a + 8 ≤ (L : Int)) = false := by simp; omega
          go_wp2_with (first
            | (go_at_call 11; refine (u8_ans bs A L c a _ HL.out HO.out HR.out h2 HM.out (by omega) (by omega) false (by simp; omega)).mono ?_; rintro e w' ⟨⟨x, rfl⟩, rfl⟩)
            | (go_at_call 12; refine (u16_ans bs A L c a _ HL.out HO.out HR.out h2 HM.out (by omega) (by omega) false (by simp; omega)).mono ?_; rintro e w' ⟨⟨x, rfl⟩, rfl⟩)
            | (go_at_call 13; refine (u32_ans bs A L c a _ HL.out HO.out HR.out h2 HM.out (by omega) (by omega) false (by simp; omega)).mono ?_; rintro e w' ⟨⟨x, rfl⟩, rfl⟩)
            | (go_at_call 14; refine (u64_ans bs A L c a _ HL.out HO.out HR.out h2 HM.out (by omega) (by omega) false (by simp; omega)).mono ?_; rintro e w' ⟨⟨x, rfl⟩, rfl⟩))
          refine wp_loop_rounds 5 ?_
          rw [rounds_succ]
          go_wp2
          rw [rounds_succ]
          go_wp2
          rw [rounds_succ]
          go_wp2
          rw [rounds_succ]
          go_wp2
          rw [rounds_succ]
          go_wp2
          go_round
          case rel => exact ⟨a + 1, rfl, by omega, by omega⟩
          case measure => simp [intOf]; omega
        · skip
          have e1 : decide (a + 1 ≤ (L : Int)) = true := by simp; omega
          have e2 : decide (a + 2 ≤ (L : Int)) = false := by simp; omega
          have e4 : decide (a + 4 ≤ (L : Int)) = false := by simp; omega
          have e8 : decide (a + 8 ≤ (L : Int)) = false := by simp; omega
          go_wp2_with (first
            | (go_at_call 11; refine (u8_ans bs A L c a _ HL.out HO.out HR.out h2 HM.out (by omega) (by omega) true (by simp; omega)).mono ?_; rintro e w' ⟨⟨x, rfl⟩, rfl⟩)
            | (go_at_call 12; refine (u16_ans bs A L c a _ HL.out HO.out HR.out h2 HM.out (by omega) (by omega) false (by simp; omega)).mono ?_; rintro e w' ⟨⟨x, rfl⟩, rfl⟩)
            | (go_at_call 13; refine (u32_ans bs A L c a _ HL.out HO.out HR.out h2 HM.out (by omega) (by omega) false (by simp; omega)).mono ?_; rintro e w' ⟨⟨x, rfl⟩, rfl⟩)
            | (go_at_call 14; refine (u64_ans bs A L c a _ HL.out HO.out HR.out h2 HM.out (by omega) (by omega) false (by simp; omega)).mono ?_; rintro e w' ⟨⟨x, rfl⟩, rfl⟩))
          refine wp_loop_rounds 5 ?_
          rw [rounds_succ]
          go_wp2
          rw [rounds_succ]
          go_wp2
          rw [rounds_succ]
          go_wp2
          rw [rounds_succ]
          go_wp2
          rw [rounds_succ]
          go_wp2
          go_round
          case rel => exact ⟨a + 1, rfl, by omega, by omega⟩
          case measure => simp [intOf]; omega
        · skip
          have e1 : decide (a + 1 ≤ (L : Int)) = true := by simp; omega
          have e2 : decide (a + 2 ≤ (L : Int)) = true := by simp; omega
          have e4 : decide (a + 4 ≤ (L : Int)) = false := by simp; omega
          have e8 : decide (a + 8 ≤ (L : Int)) = false := by simp; omega
          go_wp2_with (first
            | (go_at_call 11; refine (u8_ans bs A L c a _ HL.out HO.out HR.out h2 HM.out (by omega) (by omega) true (by simp; omega)).mono ?_; rintro e w' ⟨⟨x, rfl⟩, rfl⟩)
            | (go_at_call 12; refine (u16_ans bs A L c a _ HL.out HO.out HR.out h2 HM.out (by omega) (by omega) true (by simp; omega)).mono ?_; rintro e w' ⟨⟨x, rfl⟩, rfl⟩)
            | (go_at_call 13; refine (u32_ans bs A L c a _ HL.out HO.out HR.out h2 HM.out (by omega) (by omega) false (by simp; omega)).mono ?_; rintro e w' ⟨⟨x, rfl⟩, rfl⟩)
            | (go_at_call 14; refine (u64_ans bs A L c a _ HL.out HO.out HR.out h2 HM.out (by omega) (by omega) false (by simp; omega)).mono ?_; rintro e w' ⟨⟨x, rfl⟩, rfl⟩))
          refine wp_loop_rounds 5 ?_
          rw [rounds_succ]
          go_wp2
          rw [rounds_succ]
          go_wp2
          rw [rounds_succ]
          go_wp2
          rw [rounds_succ]
          go_wp2
          rw [rounds_succ]
          go_wp2
          go_round
          case rel => exact ⟨a + 1, rfl, by omega, by omega⟩
          case measure => simp [intOf]; omega
        · skip
          have e1 : decide (a + 1 ≤ (L : Int)) = true := by simp; omega
          have e2 : decide (a + 2 ≤ (L : Int)) = true := by simp; omega
          have e4 : decide (a + 4 ≤ (L : Int)) = true := by simp; omega
          have e8 : decide (a + 8 ≤ (L : Int)) = false := by simp; omega
          go_wp2_with (first
            | (go_at_call 11; refine (u8_ans bs A L c a _ HL.out HO.out HR.out h2 HM.out (by omega) (by omega) true (by simp; omega)).mono ?_; rintro e w' ⟨⟨x, rfl⟩, rfl⟩)
            | (go_at_call 12; refine (u16_ans bs A L c a _ HL.out HO.out HR.out h2 HM.out (by omega) (by omega) true (by simp; omega)).mono ?_; rintro e w' ⟨⟨x, rfl⟩, rfl⟩)
            | (go_at_call 13; refine (u32_ans bs A L c a _ HL.out HO.out HR.out h2 HM.out (by omega) (by omega) true (by simp; omega)).mono ?_; rintro e w' ⟨⟨x, rfl⟩, rfl⟩)
            | (go_at_call 14; refine (u64_ans bs A L c a _ HL.out HO.out HR.out h2 HM.out (by omega) (by omega) false (by simp; omega)).mono ?_; rintro e w' ⟨⟨x, rfl⟩, rfl⟩))
          refine wp_loop_rounds 5 ?_
          rw [rounds_succ]
          go_wp2
          rw [rounds_succ]
          go_wp2
          rw [rounds_succ]
          go_wp2
          rw [rounds_succ]
          go_wp2
          rw [rounds_succ]
          go_wp2
          go_round
          case rel => exact ⟨a + 1, rfl, by omega, by omega⟩
          case measure => simp [intOf]; omega
        · skip
          have e1 : decide (a + 1 ≤ (L : Int)) = true := by simp; omega
          have e2 : decide (a + 2 ≤ (L : Int)) = true := by simp; omega
          have e4 : decide (a + 4 ≤ (L : Int)) = true := by simp; omega
          have e8 : decide (a + 8 ≤ (L : Int)) = true := by simp; omega
          go_wp2_with (first
            | (go_at_call 11; refine (u8_ans bs A L c a _ HL.out HO.out HR.out h2 HM.out (by omega) (by omega) true (by simp; omega)).mono ?_; rintro e w' ⟨⟨x, rfl⟩, rfl⟩)
            | (go_at_call 12; refine (u16_ans bs A L c a _ HL.out HO.out HR.out h2 HM.out (by omega) (by omega) true (by simp; omega)).mono ?_; rintro e w' ⟨⟨x, rfl⟩, rfl⟩)
            | (go_at_call 13; refine (u32_ans bs A L c a _ HL.out HO.out HR.out h2 HM.out (by omega) (by omega) true (by simp; omega)).mono ?_; rintro e w' ⟨⟨x, rfl⟩, rfl⟩)
            | (go_at_call 14; refine (u64_ans bs A L c a _ HL.out HO.out HR.out h2 HM.out (by omega) (by omega) true (by simp; omega)).mono ?_; rintro e w' ⟨⟨x, rfl⟩, rfl⟩))
          refine wp_loop_rounds 5 ?_
          rw [rounds_succ]
          go_wp2
          rw [rounds_succ]
          go_wp2
          rw [rounds_succ]
          go_wp2
          rw [rounds_succ]
          go_wp2
          rw [rounds_succ]
          go_wp2
          go_round
          case rel => exact ⟨a + 1, rfl, by omega, by omega⟩
          case measure => simp [intOf]; omega
      · go_wp2_with (go_at_call 10; refine (awake_any _).mono ?_; rintro e w1 ⟨rfl, hb1⟩)
        go_ret
        exact ⟨rfl, hb1⟩
end Go.Proofs.Ytbmhfefbfocelaa
