/- An instruction put into bytes: walks. Conditions: a place from 0 to 65535. -/
import Derived.Test.YtaiekpdoljleeaaCoPut1
import Derived.Test.YtaiekpdoljleeaaCoPut2
namespace Go.Proofs.Ytaiekpdoljleeaa
open Go.RowKit Go.WideShapes
set_option linter.unusedVariables false
set_option linter.unusedSimpArgs false
def farI (t : In) (a : Int) : Bool := (shO t.o).jump && !(decide (-128 ≤ t.n - a - 2) && decide (t.n - a - 2 ≤ 127))
set_option maxRecDepth 100000 in
set_option maxHeartbeats 4000000 in
theorem put_no (t : In) (a : Int) (w : World) (h0 : 0 ≤ t.o) (hr : rightI t = false) : Calls Try.prog 20 #[t.agg, .int .i64 a] w (Quiet (.tuple #[.slice none 0 0, .int .i64 110]) w) := by
  have hrow := fun W => shape_any t.o W h0
  have hR : ∀ w e w', IsSh t.o w e w' → e = .returned (shO t.o).agg ∧ Below w.heap.size w w' := fun w e w' hh => ⟨hh.1, hh.2⟩
  have hrt := fun W => rightI_any t W h0
  unfold codeI at hrt
  rw [hr] at hrt
  simp only [Bool.false_eq_true, if_false] at hrt
  obtain ⟨o, d, s, n⟩ := t
  simp only at hR hrow
  obtain ⟨R, hRR⟩ : ∃ x, shO o = x := ⟨_, rfl⟩
  simp only [hRR] at hR
  obtain ⟨r0, r1, r2, r3, r4, r5, r6⟩ := R
  unfold Sh.agg at hR
  unfold In.agg at hrt ⊢
  simp only at hrt hR ⊢
  have HROW := Lib.hid fun w => (hrow w).mono (hR w)
  have HRT := Lib.hid hrt
  clear hrow hR hr hrt hRR h0
  go_enter Try.func20, Try.ntmps20
  go_wp2_with fail
  refine (HROW.out _).mono ?_
  rintro e w1 ⟨rfl, hb1⟩
  have hB := ((Blk.new w 36 #[.int .u8 o, .int .i64 d, .int .i64 s, .int .i64 n]).below hb1).alloc (.cells #[.bool r0, .int .i64 r1, .bool r2, .bool r3, .bool r4, .bool r5, .bool r6] 75)
  have p0 := hB.cell 0
  have p1 := hB.cell 1
  have p2 := hB.cell 2
  have p3 := hB.cell 3
  simp at p0 p1 p2 p3
  have HB := Lib.hid (((Below.refl w.heap.size w).alloc (Nat.le_refl _) _).trans (hb1.mono (by rw [World.size_alloc]; omega)))
  clear hB hb1
  go_wp2_with fail
  refine (HRT.out _).mono ?_
  rintro e w2 ⟨rfl, hb2⟩
  go_wp2_with fail
  go_ret2
  exact ⟨rfl, ch1 HB.out hb2⟩
set_option maxRecDepth 100000 in
set_option maxHeartbeats 4000000 in
theorem put_far (o d s n a : Int) (w : World) (h0 : 0 ≤ o) (h : shO o = ⟨true, -1, false, false, false, true, false⟩) (hr : rightI ⟨o, d, s, n⟩ = true) (a0 : 0 ≤ a) (a1 : a ≤ 65535) (hj : n - a - 2 < -128 ∨ 127 < n - a - 2) : Calls Try.prog 20 #[.agg #[.int .u8 o, .int .i64 d, .int .i64 s, .int .i64 n], .int .i64 a] w (Quiet (.tuple #[.slice none 0 0, .int .i64 125]) w) := by
  have hrow := fun W => shape_any o W h0
  have hR : ∀ w e w', IsSh o w e w' → e = .returned (.agg #[.bool true, .int .i64 (-1), .bool false, .bool false, .bool false, .bool true, .bool false]) ∧ Below w.heap.size w w' := fun w e w' hh => ⟨by rw [hh.1, h]; rfl, hh.2⟩
  have hlim := (lim_8 o d s n h).1 hr
  have hrt := fun W => rightI_any ⟨o, d, s, n⟩ W h0
  unfold codeI at hrt
  rw [hr] at hrt
  simp only [if_true] at hrt
  unfold In.agg at hrt
  simp only at hrt
  have HROW := Lib.hid fun w => (hrow w).mono (hR w)
  have HRT := Lib.hid hrt
  have n0 : 0 ≤ n := by omega
  have n1 : n ≤ 65535 := by omega
  clear hrow hR hr hrt h h0 hlim
  rcases hj with hj | hj
  all_goals
    have g1 : decide (n - a - 2 < -128) = decide (n - a - 2 < -128) := rfl
    clear g1
    first
      | (have g1 : decide (n - a - 2 < -128) = true := by simp; omega)
      | (have g1 : decide (n - a - 2 < -128) = false := by simp; omega
         have g2 : decide (127 < n - a - 2) = true := by simp; omega)
    go_enter Try.func20, Try.ntmps20
    go_wp2_with fail
    refine (HROW.out _).mono ?_
    rintro e w1 ⟨rfl, hb1⟩
    have hB := ((Blk.new w 36 #[.int .u8 o, .int .i64 d, .int .i64 s, .int .i64 n]).below hb1).alloc (.cells #[.bool true, .int .i64 (-1), .bool false, .bool false, .bool false, .bool true, .bool false] 75)
    have hW := Blk.new w1 75 #[.bool true, .int .i64 (-1), .bool false, .bool false, .bool false, .bool true, .bool false]
    have p0 := hB.cell 0
    have p1 := hB.cell 1
    have p2 := hB.cell 2
    have p3 := hB.cell 3
    simp at p0 p1 p2 p3
    have HWW := Lib.hid hW
    have HB := Lib.hid (((Below.refl w.heap.size w).alloc (Nat.le_refl _) _).trans (hb1.mono (by rw [World.size_alloc]; omega)))
    clear hB hW hb1
    go_wp2_with fail
    refine (HRT.out _).mono ?_
    rintro e w2 ⟨rfl, hb2⟩
    have hs5 := (HWW.out.below hb2).cell 5
    simp at hs5
    go_wp2_with fail
    go_ret2
    exact ⟨rfl, ch1 HB.out hb2⟩
theorem put_yes (t : In) (a : Int) (w : World) (h0 : 0 ≤ t.o) (hr : rightI t = true) (hf : farI t a = false) (a0 : 0 ≤ a) (a1 : a ≤ 65535) : Calls Try.prog 20 #[t.agg, .int .i64 a] w (IsBytes (putI t a) w) := by
  obtain ⟨o, d, s, n⟩ := t
  simp only at h0
  unfold In.agg
  simp only
  rcases sh_cases o with ⟨_, h⟩ | ⟨_, h⟩ | ⟨_, h⟩ | ⟨_, h⟩ | ⟨_, h⟩ | ⟨_, h⟩ | ⟨_, h⟩ | ⟨_, h⟩ | ⟨_, h⟩ | ⟨_, h⟩
  · simp [rightI, h] at hr
  · rw [put_plain_1 o d s n a h hr]
    exact put_ok_1 o d s n a w h0 h hr a0 a1
  · rw [put_plain_2 o d s n a h hr]
    exact put_ok_2 o d s n a w h0 h hr a0 a1
  · rw [put_plain_3 o d s n a h hr]
    exact put_ok_3 o d s n a w h0 h hr a0 a1
  · rw [put_plain_4 o d s n a h hr]
    exact put_ok_4 o d s n a w h0 h hr a0 a1
  · rw [put_plain_5 o d s n a h hr]
    by_cases hs : s = 7
    · subst hs
      rw [if_pos rfl]
      exact put_ok_5s7 o d n a w h0 h hr a0 a1
    · rw [if_neg hs]
      exact put_ok_5sn o d s n a w h0 h hr a0 a1 hs
  · rw [put_plain_6 o d s n a h hr]
    exact put_ok_6 o d s n a w h0 h hr a0 a1
  · rw [put_plain_7 o d s n a h hr]
    exact put_ok_7 o d s n a w h0 h hr a0 a1
  · rw [put_plain_8 o d s n a h hr]
    exact put_ok_8 o d s n a w h0 h hr a0 a1 (by simp [farI, h] at hf; omega)
  · rw [put_plain_9 o d s n a h hr]
    exact put_ok_9 o d s n a w h0 h hr a0 a1
theorem put_jump (t : In) (a : Int) (w : World) (h0 : 0 ≤ t.o) (hr : rightI t = true) (hf : farI t a = true) (a0 : 0 ≤ a) (a1 : a ≤ 65535) : Calls Try.prog 20 #[t.agg, .int .i64 a] w (Quiet (.tuple #[.slice none 0 0, .int .i64 125]) w) := by
  obtain ⟨o, d, s, n⟩ := t
  simp only at h0
  unfold In.agg
  simp only
  rcases sh_cases o with ⟨_, h⟩ | ⟨_, h⟩ | ⟨_, h⟩ | ⟨_, h⟩ | ⟨_, h⟩ | ⟨_, h⟩ | ⟨_, h⟩ | ⟨_, h⟩ | ⟨_, h⟩ | ⟨_, h⟩
  · simp [farI, h] at hf
  · simp [farI, h] at hf
  · simp [farI, h] at hf
  · simp [farI, h] at hf
  · simp [farI, h] at hf
  · simp [farI, h] at hf
  · simp [farI, h] at hf
  · simp [farI, h] at hf
  · exact put_far o d s n a w h0 h hr a0 a1 (by simp [farI, h] at hf; omega)
  · simp [farI, h] at hf
end Go.Proofs.Ytaiekpdoljleeaa
