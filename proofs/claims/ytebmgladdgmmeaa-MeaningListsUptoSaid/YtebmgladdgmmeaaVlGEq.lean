/- Is an instruction a plain one, a condition: the program's, the reference's: walks. No condition. · '==' of two instructions, of two conditions. Plain. -/
import Derived.Test.YtebmgladdgmmeaaVdSt
import Derived.Test.YtebmgladdgmmeaaVdCoPu
import Derived.Test.YtebmgladdgmmeaaVlGFo
import Derived.Laws.StructEq
namespace Go.Proofs.Ytebmgladdgmmeaa
open Go.RowKit Go.WideShapes
set_option linter.unusedVariables false
set_option linter.unusedSimpArgs false
def plO (o : Int) (post : Bool) : Bool := decide (1 ≤ o ∧ o ≤ 18) || decide (22 ≤ o ∧ o ≤ 25) || (decide (o = 26) && post)
def plainI (t : In) (post : Bool) : Bool := rightI t && plO t.o post
def condI (t : In) : Bool := rightI t && decide (19 ≤ t.o ∧ t.o ≤ 21)
theorem code_right {t : In} (h : rightI t = true) : codeI t = 0 := by unfold codeI; rw [if_pos h]
theorem code_wrong {t : In} (h : rightI t = false) : codeI t = 110 := by unfold codeI; rw [h]; rfl
theorem o_cases (o : Int) (h0 : 0 ≤ o) : o = 0 ∨ (1 ≤ o ∧ o ≤ 18) ∨ (19 ≤ o ∧ o ≤ 21) ∨ (22 ≤ o ∧ o ≤ 25) ∨ o = 26 ∨ 27 ≤ o := by omega
set_option maxRecDepth 100000 in
set_option maxHeartbeats 4000000 in
theorem plain_any (t : In) (post : Bool) (w : World) (h0 : 0 ≤ t.o) : Calls Try.prog 67 #[t.agg, .bool post] w (Quiet (.bool (plainI t post)) w) := by
  have hr := fun W => rightI_any t W h0
  obtain ⟨x, hx⟩ : ∃ x, rightI t = x := ⟨_, rfl⟩
  have hp : plainI t post = (x && plO t.o post) := by unfold plainI; rw [hx]
  rw [hp]
  clear hp
  have hbx := Blk.new w 31 t.cells.toArray
  have HBX := Lib.hid hbx
  cases x
  · rw [code_wrong hx] at hr
    have HR := Lib.hid hr
    clear hr hx hbx
    obtain ⟨o, d, s, n⟩ := t
    unfold In.agg at *
    simp only at *
    go_enter Try.func67, Try.ntmps67
    go_wp2_with fail
    refine (HR.out _).mono ?_
    rintro e w1 ⟨rfl, hb1⟩
    have K := Lib.hid (ch1 (Below.refl _ _) hb1)
    clear hb1
    go_wp2_with fail
    go_ret
    exact ⟨rfl, K.out⟩
  · rw [code_right hx] at hr
    have HR := Lib.hid hr
    clear hr hx hbx
    obtain ⟨o, d, s, n⟩ := t
    unfold In.agg at *
    simp only at *
    rcases o_cases o h0 with h | h | h | h | h | h
    · have hpl : plO o post = false := by unfold plO; cases post <;> simp <;> omega
      have HPL := Lib.hid hpl
      have feq0 : (o == 0) = true := by simp; omega
      have fge27 : decide (27 ≤ o) = false := by simp; omega
      have fge19 : decide (19 ≤ o) = false := by simp; omega
      have fle21 : decide (o ≤ 21) = true := by simp; omega
      have feq26 : (o == 26) = false := by simp; omega
      have fne26 : (o != 26) = true := by simp; omega
      clear hpl h h0
      go_enter Try.func67, Try.ntmps67
      go_wp2_with fail
      refine (HR.out _).mono ?_
      rintro e w1 ⟨rfl, hb1⟩
      have K := Lib.hid (ch1 (Below.refl _ _) hb1)
      have hq := (HBX.out.below hb1).cell 0
      simp [In.cells] at hq
      clear hb1
      go_wp2_with fail
      all_goals
        go_ret
        exact ⟨by rw [HPL.out]; rfl, K.out⟩
    · have hpl : plO o post = true := by unfold plO; cases post <;> simp <;> omega
      have HPL := Lib.hid hpl
      have feq0 : (o == 0) = false := by simp; omega
      have fge27 : decide (27 ≤ o) = false := by simp; omega
      have fge19 : decide (19 ≤ o) = false := by simp; omega
      have fle21 : decide (o ≤ 21) = true := by simp; omega
      have feq26 : (o == 26) = false := by simp; omega
      have fne26 : (o != 26) = true := by simp; omega
      clear hpl h h0
      go_enter Try.func67, Try.ntmps67
      go_wp2_with fail
      refine (HR.out _).mono ?_
      rintro e w1 ⟨rfl, hb1⟩
      have K := Lib.hid (ch1 (Below.refl _ _) hb1)
      have hq := (HBX.out.below hb1).cell 0
      simp [In.cells] at hq
      clear hb1
      go_wp2_with fail
      all_goals
        go_ret
        exact ⟨by rw [HPL.out]; rfl, K.out⟩
    · have hpl : plO o post = false := by unfold plO; cases post <;> simp <;> omega
      have HPL := Lib.hid hpl
      have feq0 : (o == 0) = false := by simp; omega
      have fge27 : decide (27 ≤ o) = false := by simp; omega
      have fge19 : decide (19 ≤ o) = true := by simp; omega
      have fle21 : decide (o ≤ 21) = true := by simp; omega
      have feq26 : (o == 26) = false := by simp; omega
      have fne26 : (o != 26) = true := by simp; omega
      clear hpl h h0
      go_enter Try.func67, Try.ntmps67
      go_wp2_with fail
      refine (HR.out _).mono ?_
      rintro e w1 ⟨rfl, hb1⟩
      have K := Lib.hid (ch1 (Below.refl _ _) hb1)
      have hq := (HBX.out.below hb1).cell 0
      simp [In.cells] at hq
      clear hb1
      go_wp2_with fail
      all_goals
        go_ret
        exact ⟨by rw [HPL.out]; rfl, K.out⟩
    · have hpl : plO o post = true := by unfold plO; cases post <;> simp <;> omega
      have HPL := Lib.hid hpl
      have feq0 : (o == 0) = false := by simp; omega
      have fge27 : decide (27 ≤ o) = false := by simp; omega
      have fge19 : decide (19 ≤ o) = true := by simp; omega
      have fle21 : decide (o ≤ 21) = false := by simp; omega
      have feq26 : (o == 26) = false := by simp; omega
      have fne26 : (o != 26) = true := by simp; omega
      clear hpl h h0
      go_enter Try.func67, Try.ntmps67
      go_wp2_with fail
      refine (HR.out _).mono ?_
      rintro e w1 ⟨rfl, hb1⟩
      have K := Lib.hid (ch1 (Below.refl _ _) hb1)
      have hq := (HBX.out.below hb1).cell 0
      simp [In.cells] at hq
      clear hb1
      go_wp2_with fail
      all_goals
        go_ret
        exact ⟨by rw [HPL.out]; rfl, K.out⟩
    · have hpl : plO o post = post := by unfold plO; cases post <;> simp <;> omega
      have HPL := Lib.hid hpl
      have feq0 : (o == 0) = false := by simp; omega
      have fge27 : decide (27 ≤ o) = false := by simp; omega
      have fge19 : decide (19 ≤ o) = true := by simp; omega
      have fle21 : decide (o ≤ 21) = false := by simp; omega
      have feq26 : (o == 26) = true := by simp; omega
      have fne26 : (o != 26) = false := by simp; omega
      clear hpl h h0
      go_enter Try.func67, Try.ntmps67
      go_wp2_with fail
      refine (HR.out _).mono ?_
      rintro e w1 ⟨rfl, hb1⟩
      have K := Lib.hid (ch1 (Below.refl _ _) hb1)
      have hq := (HBX.out.below hb1).cell 0
      simp [In.cells] at hq
      clear hb1
      cases post
      all_goals
        go_wp2_with fail
        go_ret
        exact ⟨by rw [HPL.out]; rfl, K.out⟩
    · have hpl : plO o post = false := by unfold plO; cases post <;> simp <;> omega
      have HPL := Lib.hid hpl
      have feq0 : (o == 0) = false := by simp; omega
      have fge27 : decide (27 ≤ o) = true := by simp; omega
      have fge19 : decide (19 ≤ o) = true := by simp; omega
      have fle21 : decide (o ≤ 21) = false := by simp; omega
      have feq26 : (o == 26) = false := by simp; omega
      have fne26 : (o != 26) = true := by simp; omega
      clear hpl h h0
      go_enter Try.func67, Try.ntmps67
      go_wp2_with fail
      refine (HR.out _).mono ?_
      rintro e w1 ⟨rfl, hb1⟩
      have K := Lib.hid (ch1 (Below.refl _ _) hb1)
      have hq := (HBX.out.below hb1).cell 0
      simp [In.cells] at hq
      clear hb1
      go_wp2_with fail
      all_goals
        go_ret
        exact ⟨by rw [HPL.out]; rfl, K.out⟩
set_option maxRecDepth 100000 in
set_option maxHeartbeats 4000000 in
theorem cond_any (b : Bool) (t : In) (w : World) (h0 : 0 ≤ t.o) : Calls Try.prog 68 #[.agg #[.bool b, .int .u8 t.o, .int .i64 t.d, .int .i64 t.s, .int .i64 t.n]] w (Quiet (.bool (condI t)) w) := by
  have hr := fun W => rightI_any t W h0
  obtain ⟨x, hx⟩ : ∃ x, rightI t = x := ⟨_, rfl⟩
  have hp : condI t = (x && decide (19 ≤ t.o ∧ t.o ≤ 21)) := by unfold condI; rw [hx]
  rw [hp]
  clear hp
  have hbx := Blk.new w 33 #[.bool b, .int .u8 t.o, .int .i64 t.d, .int .i64 t.s, .int .i64 t.n]
  have HBX := Lib.hid hbx
  cases x
  · have hr2 := fun W => (hr W).mono fun e w' h => (⟨by rw [h.ret, code_wrong hx], h.low⟩ : Quiet (.int .i64 110) W e w')
    have HR := Lib.hid hr2
    clear hr hx hr2 hbx
    obtain ⟨o, d, s, n⟩ := t
    unfold In.agg at *
    simp only at *
    go_enter Try.func68, Try.ntmps68
    go_wp2_with fail
    refine (HR.out _).mono ?_
    rintro e w1 ⟨rfl, hb1⟩
    have K := Lib.hid (ch1 (Below.refl _ _) hb1)
    clear hb1
    go_wp2_with fail
    go_ret
    exact ⟨rfl, K.out⟩
  · have hr2 := fun W => (hr W).mono fun e w' h => (⟨by rw [h.ret, code_right hx], h.low⟩ : Quiet (.int .i64 0) W e w')
    have HR := Lib.hid hr2
    clear hr hx hr2 hbx
    obtain ⟨o, d, s, n⟩ := t
    unfold In.agg at *
    simp only at *
    rcases (show o < 19 ∨ (19 ≤ o ∧ o ≤ 21) ∨ 21 < o from by omega) with h | h | h
    · have hpl : decide (19 ≤ o ∧ o ≤ 21) = false := by simp; omega
      have HPL := Lib.hid hpl
      have f1 : decide (19 ≤ o) = false := by simp; omega
      have f2 : decide (o ≤ 21) = true := by simp; omega
      clear hpl h h0
      go_enter Try.func68, Try.ntmps68
      go_wp2_with fail
      refine (HR.out _).mono ?_
      rintro e w1 ⟨rfl, hb1⟩
      have K := Lib.hid (ch1 (Below.refl _ _) hb1)
      have hq := (HBX.out.below hb1).cell 1
      simp at hq
      clear hb1
      go_wp2_with fail
      all_goals
        go_ret
        exact ⟨by rw [HPL.out]; rfl, K.out⟩
    · have hpl : decide (19 ≤ o ∧ o ≤ 21) = true := by simp; omega
      have HPL := Lib.hid hpl
      have f1 : decide (19 ≤ o) = true := by simp; omega
      have f2 : decide (o ≤ 21) = true := by simp; omega
      clear hpl h h0
      go_enter Try.func68, Try.ntmps68
      go_wp2_with fail
      refine (HR.out _).mono ?_
      rintro e w1 ⟨rfl, hb1⟩
      have K := Lib.hid (ch1 (Below.refl _ _) hb1)
      have hq := (HBX.out.below hb1).cell 1
      simp at hq
      clear hb1
      go_wp2_with fail
      all_goals
        go_ret
        exact ⟨by rw [HPL.out]; rfl, K.out⟩
    · have hpl : decide (19 ≤ o ∧ o ≤ 21) = false := by simp; omega
      have HPL := Lib.hid hpl
      have f1 : decide (19 ≤ o) = true := by simp; omega
      have f2 : decide (o ≤ 21) = false := by simp; omega
      clear hpl h h0
      go_enter Try.func68, Try.ntmps68
      go_wp2_with fail
      refine (HR.out _).mono ?_
      rintro e w1 ⟨rfl, hb1⟩
      have K := Lib.hid (ch1 (Below.refl _ _) hb1)
      have hq := (HBX.out.below hb1).cell 1
      simp at hq
      clear hb1
      go_wp2_with fail
      all_goals
        go_ret
        exact ⟨by rw [HPL.out]; rfl, K.out⟩
end Go.Proofs.Ytebmgladdgmmeaa
namespace Go.Proofs.Ytebmgladdgmmeaa
open Go.RowKit Go.WideShapes
set_option linter.unusedVariables false
set_option linter.unusedSimpArgs false
def inEq (x y : In) : Bool := x.o == y.o && x.d == y.d && x.s == y.s && x.n == y.n
set_option maxHeartbeats 2000000 in
theorem eqIn (o d s n o' d' s' n' : Int) (w : World) :
    (Op.equalIn 10000 31 (.agg #[.int .u8 o, .int .i64 d, .int .i64 s, .int .i64 n]) (.agg #[.int .u8 o', .int .i64 d', .int .i64 s', .int .i64 n'])).run Try.prog w = .ok (inEq ⟨o, d, s, n⟩ ⟨o', d', s', n'⟩) w := by
  have u3 := Try.underlying3
  have a3 := Try.isAgg3
  have z3 := Try.sizeOf3
  have u29 := Try.underlying29
  have a29 := Try.isAgg29
  have z29 := Try.sizeOf29
  have hS : Try.prog.underlying 31 = some (.struct (Try.prog.fieldsOf 31)) := by kernel_rfl
  rw [show (10000 : Nat) = 9999 + 1 from rfl, run_equalIn_agg w 9999 31 _ _ hS (by kernel_rfl)]
  simp only [Program.fieldsOf, Try.underlying31]
  go_simp
  unfold inEq
  by_cases h1 : o = o' <;> by_cases h2 : d = d' <;> by_cases h3 : s = s' <;> by_cases h4 : n = n' <;> simp [h1, h2, h3, h4]
def condEq (b : Bool) (x : In) (b' : Bool) (x' : In) : Bool := (b == b') && inEq x x'
set_option maxHeartbeats 2000000 in
theorem eqCond (b : Bool) (o d s n : Int) (b' : Bool) (o' d' s' n' : Int) (w : World) :
    (Op.equalIn 10000 33 (.agg #[.bool b, .int .u8 o, .int .i64 d, .int .i64 s, .int .i64 n]) (.agg #[.bool b', .int .u8 o', .int .i64 d', .int .i64 s', .int .i64 n'])).run Try.prog w = .ok (condEq b ⟨o, d, s, n⟩ b' ⟨o', d', s', n'⟩) w := by
  have u4 := Try.underlying4
  have a4 := Try.isAgg4
  have z4 := Try.sizeOf4
  have a31 := Try.isAgg31
  have z31 := Try.sizeOf31
  have u3 := Try.underlying3
  have a3 := Try.isAgg3
  have z3 := Try.sizeOf3
  have u29 := Try.underlying29
  have a29 := Try.isAgg29
  have z29 := Try.sizeOf29
  have hS : Try.prog.underlying 33 = some (.struct (Try.prog.fieldsOf 33)) := by kernel_rfl
  rw [show (10000 : Nat) = 9999 + 1 from rfl, run_equalIn_agg w 9999 33 _ _ hS (by kernel_rfl)]
  simp only [Program.fieldsOf, Try.underlying33]
  go_simp
  unfold condEq inEq
  by_cases h0 : b = b' <;> by_cases h1 : o = o' <;> by_cases h2 : d = d' <;> by_cases h3 : s = s' <;> by_cases h4 : n = n' <;> simp [h0, h1, h2, h3, h4]
def zQ : In := ⟨0, 0, 0, 0⟩
end Go.Proofs.Ytebmgladdgmmeaa
