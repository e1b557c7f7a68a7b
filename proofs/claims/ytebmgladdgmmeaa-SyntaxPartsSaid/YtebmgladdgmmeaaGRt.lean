/- Is an instruction a plain one, a condition: the program's, the reference's: walks. No condition. -/
import Derived.Test.YtebmgladdgmmeaaCoRight
import Derived.Test.YtebmgladdgmmeaaVaRf
import Derived.Test.YtebmgladdgmmeaaGFo
namespace Go.Proofs.Ytebmgladdgmmeaa
open Go.RowKit Go.WideShapes
set_option linter.unusedVariables false
set_option linter.unusedSimpArgs false
def plO (o : Int) (post : Bool) : Bool := decide (1 ≤ o ∧ o ≤ 18) || decide (22 ≤ o ∧ o ≤ 25) || (decide (o = 26) && post)
def plainI (t : In) (post : Bool) : Bool := rightI t && plO t.o post
def condI (t : In) : Bool := rightI t && decide (19 ≤ t.o ∧ t.o ≤ 21)
theorem code_right {t : In} (h : rightI t = true) : codeI t = 0 := by unfold codeI; rw [if_pos h]
theorem code_wrong {t : In} (h : rightI t = false) : codeI t = 110 := by unfold codeI; rw [h]; rfl
theorem o_cases (o : Int) (h0 : 0 ≤ o) : o = 0 ∨ (1 ≤ o ∧ o ≤ 18) ∨ (19 ≤ o ∧ o ≤ 21) ∨ (22 ≤ o ∧ o ≤ 25) ∨ o = 26 ∨ 27 ≤ o := by omega
set_option maxRecDepth 100000 in
set_option maxHeartbeats 4000000 in
theorem plain_any (t : In) (post : Bool) (w : World) (h0 : 0 ≤ t.o) : Calls Try.prog 67 #[t.agg, .bool post] w (Quiet (.bool (plainI t post)) w) := by
  have hr := fun W => rightI_any t W h0
  obtain ⟨x, hx⟩ : ∃ x, rightI t = x := ⟨_, rfl⟩
  have hp : plainI t post = (x && plO t.o post) := by unfold plainI; rw [hx]
  rw [hp]
  clear hp
  have hbx := Blk.new w 31 t.cells.toArray
  have HBX := Lib.hid hbx
  cases x
  · rw [code_wrong hx] at hr
    have HR := Lib.hid hr
    clear hr hx hbx
    obtain ⟨o, d, s, n⟩ := t
    unfold In.agg at *
    simp only at *
    go_enter Try.func67, Try.ntmps67
    go_wp2_with fail
    refine (HR.out _).mono ?_
    rintro e w1 ⟨rfl, hb1⟩
    have K := Lib.hid (ch1 (Below.refl _ _) hb1)
    clear hb1
    go_wp2_with fail
    go_ret
    exact ⟨rfl, K.out⟩
  · rw [code_right hx] at hr
    have HR := Lib.hid hr
    clear hr hx hbx
    obtain ⟨o, d, s, n⟩ := t
    unfold In.agg at *
    simp only at *
    rcases o_cases o h0 with h | h | h | h | h | h
    · have hpl : plO o post = false := by unfold plO; cases post <;> simp <;> omega
      have HPL := Lib.hid hpl
      have feq0 : (o == 0) = true := by simp; omega
      have fge27 : decide (27 ≤ o) = false := by simp; omega
      have fge19 : decide (19 ≤ o) = false := by simp; omega
      have fle21 : decide (o ≤ 21) = true := by simp; omega
      have feq26 : (o == 26) = false := by simp; omega
      have fne26 : (o != 26) = true := by simp; omega
      clear hpl h h0
      go_enter Try.func67, Try.ntmps67
      go_wp2_with fail
      refine (HR.out _).mono ?_
      rintro e w1 ⟨rfl, hb1⟩
      have K := Lib.hid (ch1 (Below.refl _ _) hb1)
      have hq := (HBX.out.below hb1).cell 0
      simp [In.cells] at hq
      clear hb1
      go_wp2_with fail
      all_goals
        go_ret
        exact ⟨by rw [HPL.out]; rfl, K.out⟩
    · have hpl : plO o post = true := by unfold plO; cases post <;> simp <;> omega
      have HPL := Lib.hid hpl
      have feq0 : (o == 0) = false := by simp; omega
      have fge27 : decide (27 ≤ o) = false := by simp; omega
      have fge19 : decide (19 ≤ o) = false := by simp; omega
      have fle21 : decide (o ≤ 21) = true := by simp; omega
      have feq26 : (o == 26) = false := by simp; omega
      have fne26 : (o != 26) = true := by simp; omega
      clear hpl h h0
      go_enter Try.func67, Try.ntmps67
      go_wp2_with fail
      refine (HR.out _).mono ?_
      rintro e w1 ⟨rfl, hb1⟩
      have K := Lib.hid (ch1 (Below.refl _ _) hb1)
      have hq := (HBX.out.below hb1).cell 0
      simp [In.cells] at hq
      clear hb1
      go_wp2_with fail
      all_goals
        go_ret
        exact ⟨by rw [HPL.out]; rfl, K.out⟩
    · have hpl : plO o post = false := by unfold plO; cases post <;> simp <;> omega
      have HPL := Lib.hid hpl
      have feq0 : (o == 0) = false := by simp; omega
      have fge27 : decide (27 ≤ o) = false := by simp; omega
      have fge19 : decide (19 ≤ o) = true := by simp; omega
      have fle21 : decide (o ≤ 21) = true := by simp; omega
      have feq26 : (o == 26) = false := by simp; omega
      have fne26 : (o != 26) = true := by simp; omega
      clear hpl h h0
      go_enter Try.func67, Try.ntmps67
      go_wp2_with fail
      refine (HR.out _).mono ?_
      rintro e w1 ⟨rfl, hb1⟩
      have K := Lib.hid (ch1 (Below.refl _ _) hb1)
      have hq := (HBX.out.below hb1).cell 0
      simp [In.cells] at hq
      clear hb1
      go_wp2_with fail
      all_goals
        go_ret
        exact ⟨by rw [HPL.out]; rfl, K.out⟩
    · have hpl : plO o post = true := by unfold plO; cases post <;> simp <;> omega
      have HPL := Lib.hid hpl
      have feq0 : (o == 0) = false := by simp; omega
      have fge27 : decide (27 ≤ o) = false := by simp; omega
      have fge19 : decide (19 ≤ o) = true := by simp; omega
      have fle21 : decide (o ≤ 21) = false := by simp; omega
      have feq26 : (o == 26) = false := by simp; omega
      have fne26 : (o != 26) = true := by simp; omega
      clear hpl h h0
      go_enter Try.func67, Try.ntmps67
      go_wp2_with fail
      refine (HR.out _).mono ?_
      rintro e w1 ⟨rfl, hb1⟩
      have K := Lib.hid (ch1 (Below.refl _ _) hb1)
      have hq := (HBX.out.below hb1).cell 0
      simp [In.cells] at hq
      clear hb1
      go_wp2_with fail
      all_goals
        go_ret
        exact ⟨by rw [HPL.out]; rfl, K.out⟩
    · have hpl : plO o post = post := by unfold plO; cases post <;> simp <;> omega
      have HPL := Lib.hid hpl
      have feq0 : (o == 0) = false := by simp; omega
      have fge27 : decide (27 ≤ o) = false := by simp; omega
      have fge19 : decide (19 ≤ o) = true := by simp; omega
      have fle21 : decide (o ≤ 21) = false := by simp; omega
      have feq26 : (o == 26) = true := by simp; omega
      have fne26 : (o != 26) = false := by simp; omega
      clear hpl h h0
      go_enter Try.func67, Try.ntmps67
      go_wp2_with fail
      refine (HR.out _).mono ?_
      rintro e w1 ⟨rfl, hb1⟩
      have K := Lib.hid (ch1 (Below.refl _ _) hb1)
      have hq := (HBX.out.below hb1).cell 0
      simp [In.cells] at hq
      clear hb1
      cases post
      all_goals
        go_wp2_with fail
        go_ret
        exact ⟨by rw [HPL.out]; rfl, K.out⟩
    · have hpl : plO o post = false := by unfold plO; cases post <;> simp <;> omega
      have HPL := Lib.hid hpl
      have feq0 : (o == 0) = false := by simp; omega
      have fge27 : decide (27 ≤ o) = true := by simp; omega
      have fge19 : decide (19 ≤ o) = true := by simp; omega
      have fle21 : decide (o ≤ 21) = false := by simp; omega
      have feq26 : (o == 26) = false := by simp; omega
      have fne26 : (o != 26) = true := by simp; omega
      clear hpl h h0
      go_enter Try.func67, Try.ntmps67
      go_wp2_with fail
      refine (HR.out _).mono ?_
      rintro e w1 ⟨rfl, hb1⟩
      have K := Lib.hid (ch1 (Below.refl _ _) hb1)
      have hq := (HBX.out.below hb1).cell 0
      simp [In.cells] at hq
      clear hb1
      go_wp2_with fail
      all_goals
        go_ret
        exact ⟨by rw [HPL.out]; rfl, K.out⟩
set_option maxRecDepth 100000 in
set_option maxHeartbeats 4000000 in
theorem plainR_any (t : In) (post : Bool) (w : World) (h0 : 0 ≤ t.o) : Calls Try.prog 69 #[t.agg, .bool post] w (Quiet (.bool (plainI t post)) w) := by
  have hr := fun W => right15 t W h0
  obtain ⟨x, hx⟩ : ∃ x, rightI t = x := ⟨_, rfl⟩
  have hp : plainI t post = (x && plO t.o post) := by unfold plainI; rw [hx]
  rw [hp]
  clear hp
  have hbx := Blk.new w 31 t.cells.toArray
  have HBX := Lib.hid hbx
  cases x
  · have hr2 := fun W => (hr W).mono fun e w' h => (⟨by rw [h.ret, code_wrong hx], h.low⟩ : Quiet (.int .i64 110) W e w')
    have HR := Lib.hid hr2
    clear hr hx hr2 hbx
    obtain ⟨o, d, s, n⟩ := t
    unfold In.agg at *
    simp only at *
    go_enter Try.func69, Try.ntmps69
    go_wp2_with fail
    refine (HR.out _).mono ?_
    rintro e w1 ⟨rfl, hb1⟩
    have K := Lib.hid (ch1 (Below.refl _ _) hb1)
    clear hb1
    go_wp2_with fail
    go_ret
    exact ⟨rfl, K.out⟩
  · have hr2 := fun W => (hr W).mono fun e w' h => (⟨by rw [h.ret, code_right hx], h.low⟩ : Quiet (.int .i64 0) W e w')
    have HR := Lib.hid hr2
    clear hr hx hr2 hbx
    obtain ⟨o, d, s, n⟩ := t
    unfold In.agg at *
    simp only at *
    rcases o_cases o h0 with h | h | h | h | h | h
    · have hpl : plO o post = false := by unfold plO; cases post <;> simp <;> omega
      have HPL := Lib.hid hpl
      have fge1 : decide (1 ≤ o) = false := by simp; omega
      have fle18 : decide (o ≤ 18) = true := by simp; omega
      have fge22 : decide (22 ≤ o) = false := by simp; omega
      have fle25 : decide (o ≤ 25) = true := by simp; omega
      have feq26 : (o == 26) = false := by simp; omega
      have fne26 : (o != 26) = true := by simp; omega
      clear hpl h h0
      go_enter Try.func69, Try.ntmps69
      go_wp2_with fail
      refine (HR.out _).mono ?_
      rintro e w1 ⟨rfl, hb1⟩
      have K := Lib.hid (ch1 (Below.refl _ _) hb1)
      have hq := (HBX.out.below hb1).cell 0
      simp [In.cells] at hq
      clear hb1
      go_wp2_with fail
      all_goals
        go_ret
        exact ⟨by rw [HPL.out]; rfl, K.out⟩
    · have hpl : plO o post = true := by unfold plO; cases post <;> simp <;> omega
      have HPL := Lib.hid hpl
      have fge1 : decide (1 ≤ o) = true := by simp; omega
      have fle18 : decide (o ≤ 18) = true := by simp; omega
      have fge22 : decide (22 ≤ o) = false := by simp; omega
      have fle25 : decide (o ≤ 25) = true := by simp; omega
      have feq26 : (o == 26) = false := by simp; omega
      have fne26 : (o != 26) = true := by simp; omega
      clear hpl h h0
      go_enter Try.func69, Try.ntmps69
      go_wp2_with fail
      refine (HR.out _).mono ?_
      rintro e w1 ⟨rfl, hb1⟩
      have K := Lib.hid (ch1 (Below.refl _ _) hb1)
      have hq := (HBX.out.below hb1).cell 0
      simp [In.cells] at hq
      clear hb1
      go_wp2_with fail
      all_goals
        go_ret
        exact ⟨by rw [HPL.out]; rfl, K.out⟩
    · have hpl : plO o post = false := by unfold plO; cases post <;> simp <;> omega
      have HPL := Lib.hid hpl
      have fge1 : decide (1 ≤ o) = true := by simp; omega
      have fle18 : decide (o ≤ 18) = false := by simp; omega
      have fge22 : decide (22 ≤ o) = false := by simp; omega
      have fle25 : decide (o ≤ 25) = true := by simp; omega
      have feq26 : (o == 26) = false := by simp; omega
      have fne26 : (o != 26) = true := by simp; omega
      clear hpl h h0
      go_enter Try.func69, Try.ntmps69
      go_wp2_with fail
      refine (HR.out _).mono ?_
      rintro e w1 ⟨rfl, hb1⟩
      have K := Lib.hid (ch1 (Below.refl _ _) hb1)
      have hq := (HBX.out.below hb1).cell 0
      simp [In.cells] at hq
      clear hb1
      go_wp2_with fail
      all_goals
        go_ret
        exact ⟨by rw [HPL.out]; rfl, K.out⟩
    · have hpl : plO o post = true := by unfold plO; cases post <;> simp <;> omega
      have HPL := Lib.hid hpl
      have fge1 : decide (1 ≤ o) = true := by simp; omega
      have fle18 : decide (o ≤ 18) = false := by simp; omega
      have fge22 : decide (22 ≤ o) = true := by simp; omega
      have fle25 : decide (o ≤ 25) = true := by simp; omega
      have feq26 : (o == 26) = false := by simp; omega
      have fne26 : (o != 26) = true := by simp; omega
      clear hpl h h0
      go_enter Try.func69, Try.ntmps69
      go_wp2_with fail
      refine (HR.out _).mono ?_
      rintro e w1 ⟨rfl, hb1⟩
      have K := Lib.hid (ch1 (Below.refl _ _) hb1)
      have hq := (HBX.out.below hb1).cell 0
      simp [In.cells] at hq
      clear hb1
      go_wp2_with fail
      all_goals
        go_ret
        exact ⟨by rw [HPL.out]; rfl, K.out⟩
    · have hpl : plO o post = post := by unfold plO; cases post <;> simp <;> omega
      have HPL := Lib.hid hpl
      have fge1 : decide (1 ≤ o) = true := by simp; omega
      have fle18 : decide (o ≤ 18) = false := by simp; omega
      have fge22 : decide (22 ≤ o) = true := by simp; omega
      have fle25 : decide (o ≤ 25) = false := by simp; omega
      have feq26 : (o == 26) = true := by simp; omega
      have fne26 : (o != 26) = false := by simp; omega
      clear hpl h h0
      go_enter Try.func69, Try.ntmps69
      go_wp2_with fail
      refine (HR.out _).mono ?_
      rintro e w1 ⟨rfl, hb1⟩
      have K := Lib.hid (ch1 (Below.refl _ _) hb1)
      have hq := (HBX.out.below hb1).cell 0
      simp [In.cells] at hq
      clear hb1
      cases post
      all_goals
        go_wp2_with fail
        go_ret
        exact ⟨by rw [HPL.out]; rfl, K.out⟩
    · have hpl : plO o post = false := by unfold plO; cases post <;> simp <;> omega
      have HPL := Lib.hid hpl
      have fge1 : decide (1 ≤ o) = true := by simp; omega
      have fle18 : decide (o ≤ 18) = false := by simp; omega
      have fge22 : decide (22 ≤ o) = true := by simp; omega
      have fle25 : decide (o ≤ 25) = false := by simp; omega
      have feq26 : (o == 26) = false := by simp; omega
      have fne26 : (o != 26) = true := by simp; omega
      clear hpl h h0
      go_enter Try.func69, Try.ntmps69
      go_wp2_with fail
      refine (HR.out _).mono ?_
      rintro e w1 ⟨rfl, hb1⟩
      have K := Lib.hid (ch1 (Below.refl _ _) hb1)
      have hq := (HBX.out.below hb1).cell 0
      simp [In.cells] at hq
      clear hb1
      go_wp2_with fail
      all_goals
        go_ret
        exact ⟨by rw [HPL.out]; rfl, K.out⟩
set_option maxRecDepth 100000 in
set_option maxHeartbeats 4000000 in
theorem cond_any (b : Bool) (t : In) (w : World) (h0 : 0 ≤ t.o) : Calls Try.prog 68 #[.agg #[.bool b, .int .u8 t.o, .int .i64 t.d, .int .i64 t.s, .int .i64 t.n]] w (Quiet (.bool (condI t)) w) := by
  have hr := fun W => rightI_any t W h0
  obtain ⟨x, hx⟩ : ∃ x, rightI t = x := ⟨_, rfl⟩
  have hp : condI t = (x && decide (19 ≤ t.o ∧ t.o ≤ 21)) := by unfold condI; rw [hx]
  rw [hp]
  clear hp
  have hbx := Blk.new w 33 #[.bool b, .int .u8 t.o, .int .i64 t.d, .int .i64 t.s, .int .i64 t.n]
  have HBX := Lib.hid hbx
  cases x
  · have hr2 := fun W => (hr W).mono fun e w' h => (⟨by rw [h.ret, code_wrong hx], h.low⟩ : Quiet (.int .i64 110) W e w')
    have HR := Lib.hid hr2
    clear hr hx hr2 hbx
    obtain ⟨o, d, s, n⟩ := t
    unfold In.agg at *
    simp only at *
    go_enter Try.func68, Try.ntmps68
    go_wp2_with fail
    refine (HR.out _).mono ?_
    rintro e w1 ⟨rfl, hb1⟩
    have K := Lib.hid (ch1 (Below.refl _ _) hb1)
    clear hb1
    go_wp2_with fail
    go_ret
    exact ⟨rfl, K.out⟩
  · have hr2 := fun W => (hr W).mono fun e w' h => (⟨by rw [h.ret, code_right hx], h.low⟩ : Quiet (.int .i64 0) W e w')
    have HR := Lib.hid hr2
    clear hr hx hr2 hbx
    obtain ⟨o, d, s, n⟩ := t
    unfold In.agg at *
    simp only at *
    rcases (show o < 19 ∨ (19 ≤ o ∧ o ≤ 21) ∨ 21 < o from by omega) with h | h | h
    · have hpl : decide (19 ≤ o ∧ o ≤ 21) = false := by simp; omega
      have HPL := Lib.hid hpl
      have f1 : decide (19 ≤ o) = false := by simp; omega
      have f2 : decide (o ≤ 21) = true := by simp; omega
      clear hpl h h0
      go_enter Try.func68, Try.ntmps68
      go_wp2_with fail
      refine (HR.out _).mono ?_
      rintro e w1 ⟨rfl, hb1⟩
      have K := Lib.hid (ch1 (Below.refl _ _) hb1)
      have hq := (HBX.out.below hb1).cell 1
      simp at hq
      clear hb1
      go_wp2_with fail
      all_goals
        go_ret
        exact ⟨by rw [HPL.out]; rfl, K.out⟩
    · have hpl : decide (19 ≤ o ∧ o ≤ 21) = true := by simp; omega
      have HPL := Lib.hid hpl
      have f1 : decide (19 ≤ o) = true := by simp; omega
      have f2 : decide (o ≤ 21) = true := by simp; omega
      clear hpl h h0
      go_enter Try.func68, Try.ntmps68
      go_wp2_with fail
      refine (HR.out _).mono ?_
      rintro e w1 ⟨rfl, hb1⟩
      have K := Lib.hid (ch1 (Below.refl _ _) hb1)
      have hq := (HBX.out.below hb1).cell 1
      simp at hq
      clear hb1
      go_wp2_with fail
      all_goals
        go_ret
        exact ⟨by rw [HPL.out]; rfl, K.out⟩
    · have hpl : decide (19 ≤ o ∧ o ≤ 21) = false := by simp; omega
      have HPL := Lib.hid hpl
      have f1 : decide (19 ≤ o) = true := by simp; omega
      have f2 : decide (o ≤ 21) = false := by simp; omega
      clear hpl h h0
      go_enter Try.func68, Try.ntmps68
      go_wp2_with fail
      refine (HR.out _).mono ?_
      rintro e w1 ⟨rfl, hb1⟩
      have K := Lib.hid (ch1 (Below.refl _ _) hb1)
      have hq := (HBX.out.below hb1).cell 1
      simp at hq
      clear hb1
      go_wp2_with fail
      all_goals
        go_ret
        exact ⟨by rw [HPL.out]; rfl, K.out⟩
set_option maxRecDepth 100000 in
set_option maxHeartbeats 4000000 in
theorem condR_any (b : Bool) (t : In) (w : World) (h0 : 0 ≤ t.o) : Calls Try.prog 70 #[.agg #[.bool b, .int .u8 t.o, .int .i64 t.d, .int .i64 t.s, .int .i64 t.n]] w (Quiet (.bool (condI t)) w) := by
  have hr := fun W => right15 t W h0
  obtain ⟨x, hx⟩ : ∃ x, rightI t = x := ⟨_, rfl⟩
  have hp : condI t = (x && decide (19 ≤ t.o ∧ t.o ≤ 21)) := by unfold condI; rw [hx]
  rw [hp]
  clear hp
  have hbx := Blk.new w 33 #[.bool b, .int .u8 t.o, .int .i64 t.d, .int .i64 t.s, .int .i64 t.n]
  have HBX := Lib.hid hbx
  cases x
  · have hr2 := fun W => (hr W).mono fun e w' h => (⟨by rw [h.ret, code_wrong hx], h.low⟩ : Quiet (.int .i64 110) W e w')
    have HR := Lib.hid hr2
    clear hr hx hr2 hbx
    obtain ⟨o, d, s, n⟩ := t
    unfold In.agg at *
    simp only at *
    go_enter Try.func70, Try.ntmps70
    go_wp2_with fail
    refine (HR.out _).mono ?_
    rintro e w1 ⟨rfl, hb1⟩
    have K := Lib.hid (ch1 (Below.refl _ _) hb1)
    clear hb1
    go_wp2_with fail
    go_ret
    exact ⟨rfl, K.out⟩
  · have hr2 := fun W => (hr W).mono fun e w' h => (⟨by rw [h.ret, code_right hx], h.low⟩ : Quiet (.int .i64 0) W e w')
    have HR := Lib.hid hr2
    clear hr hx hr2 hbx
    obtain ⟨o, d, s, n⟩ := t
    unfold In.agg at *
    simp only at *
    rcases (show o < 19 ∨ (19 ≤ o ∧ o ≤ 21) ∨ 21 < o from by omega) with h | h | h
    · have hpl : decide (19 ≤ o ∧ o ≤ 21) = false := by simp; omega
      have HPL := Lib.hid hpl
      have f1 : decide (19 ≤ o) = false := by simp; omega
      have f2 : decide (o ≤ 21) = true := by simp; omega
      clear hpl h h0
      go_enter Try.func70, Try.ntmps70
      go_wp2_with fail
      refine (HR.out _).mono ?_
      rintro e w1 ⟨rfl, hb1⟩
      have K := Lib.hid (ch1 (Below.refl _ _) hb1)
      have hq := (HBX.out.below hb1).cell 1
      simp at hq
      clear hb1
      go_wp2_with fail
      all_goals
        go_ret
        exact ⟨by rw [HPL.out]; rfl, K.out⟩
    · have hpl : decide (19 ≤ o ∧ o ≤ 21) = true := by simp; omega
      have HPL := Lib.hid hpl
      have f1 : decide (19 ≤ o) = true := by simp; omega
      have f2 : decide (o ≤ 21) = true := by simp; omega
      clear hpl h h0
      go_enter Try.func70, Try.ntmps70
      go_wp2_with fail
      refine (HR.out _).mono ?_
      rintro e w1 ⟨rfl, hb1⟩
      have K := Lib.hid (ch1 (Below.refl _ _) hb1)
      have hq := (HBX.out.below hb1).cell 1
      simp at hq
      clear hb1
      go_wp2_with fail
      all_goals
        go_ret
        exact ⟨by rw [HPL.out]; rfl, K.out⟩
    · have hpl : decide (19 ≤ o ∧ o ≤ 21) = false := by simp; omega
      have HPL := Lib.hid hpl
      have f1 : decide (19 ≤ o) = true := by simp; omega
      have f2 : decide (o ≤ 21) = false := by simp; omega
      clear hpl h h0
      go_enter Try.func70, Try.ntmps70
      go_wp2_with fail
      refine (HR.out _).mono ?_
      rintro e w1 ⟨rfl, hb1⟩
      have K := Lib.hid (ch1 (Below.refl _ _) hb1)
      have hq := (HBX.out.below hb1).cell 1
      simp at hq
      clear hb1
      go_wp2_with fail
      all_goals
        go_ret
        exact ⟨by rw [HPL.out]; rfl, K.out⟩
end Go.Proofs.Ytebmgladdgmmeaa
