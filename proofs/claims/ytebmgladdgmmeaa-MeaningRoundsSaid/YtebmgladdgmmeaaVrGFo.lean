/- Statements within statements: a forest, how memory reads as one; an argument opened. Plain. · Is an instruction a plain one, a condition: the program's, the reference's: walks. No condition. -/
import Derived.Test.YtebmgladdgmmeaaVdSt
import Derived.SizedLaws
import Derived.Test.YtebmgladdgmmeaaVdCoPu
namespace Go.Proofs.Ytebmgladdgmmeaa
open Go.RowKit Go.WideShapes Go.ChangeShapes Go.Deep
set_option linter.unusedVariables false
set_option linter.unusedSimpArgs false
/-- A statement, but for the lists within. -/
structure Hd where
  k : Int
  i : In
  nt : Bool
  ci : In
  ln : Int
structure Hd.ok (h : Hd) : Prop where
  k0 : 0 ≤ h.k
  k1 : h.k ≤ 255
  i : h.i.ok
  ci : h.ci.ok
  l0 : -9223372036854775808 ≤ h.ln
  l1 : h.ln ≤ 9223372036854775807
def Hd.cells (h : Hd) (vb ve : Value) : List Value := [.int .u8 h.k, .int .u8 h.i.o, .int .i64 h.i.d, .int .i64 h.i.s, .int .i64 h.i.n, .bool h.nt, .int .u8 h.ci.o, .int .i64 h.ci.d, .int .i64 h.ci.s, .int .i64 h.ci.n, vb, ve, .int .i64 h.ln]
inductive Fo where
  | nil : Fo
  | cons (h : Hd) (b e r : Fo) : Fo
def Fo.len : Fo → Nat
  | .nil => 0
  | .cons _ _ _ r => r.len + 1
def Fo.tot : Fo → Nat
  | .nil => 0
  | .cons _ b e r => b.tot + e.tot + r.tot + 1
theorem Fo.len_tot : ∀ f : Fo, f.len ≤ f.tot
  | .nil => Nat.le_refl _
  | .cons _ b e r => by have := r.len_tot; simp only [Fo.len, Fo.tot]; omega
theorem Fo.nil_of : ∀ {f : Fo}, f.len = 0 → f = .nil
  | .nil, _ => rfl
  | .cons .., h => by simp [Fo.len] at h
def lenMost : Nat := 140737488351232
/-- The elements from cell o of block g on read as the forest; all lies in blocks below B. -/
def RdF (B : Nat) (w : World) : Fo → Nat → Nat → Prop
  | .nil, _, _ => True
  | .cons h b e r, g, o => h.ok ∧ g < B ∧ (∃ Ab cb Ae ce, (∀ j u, (h.cells (.slice Ab b.len cb) (.slice Ae e.len ce))[j]? = some u → w.cell? ⟨g, o + j, none⟩ = some u) ∧ (b.len ≤ cb ∧ cb ≤ maxLen ∧ b.len ≤ lenMost) ∧ (e.len ≤ ce ∧ ce ≤ maxLen ∧ e.len ≤ lenMost) ∧
      (0 < b.len → ∃ g' o', Ab = some ⟨g', o', none⟩ ∧ RdF B w b g' o') ∧ (0 < e.len → ∃ g' o', Ae = some ⟨g', o', none⟩ ∧ RdF B w e g' o')) ∧ RdF B w r g (o + 13)
/-- The slice that begins at A reads as the forest. -/
def RdS (B : Nat) (w : World) (A : Option Addr) (f : Fo) : Prop := 0 < f.len → ∃ g o, A = some ⟨g, o, none⟩ ∧ RdF B w f g o
theorem RdF.below {B : Nat} {w w' : World} (hb : Below B w w') : ∀ (f : Fo) (g o : Nat), RdF B w f g o → RdF B w' f g o
  | .nil, _, _, _ => trivial
  | .cons h b e r, g, o, ⟨h1, h2, ⟨Ab, cb, Ae, ce, h3, h4, h5, h6, h7⟩, h8⟩ =>
    ⟨h1, h2, ⟨Ab, cb, Ae, ce, fun j u hu => (hb.cell (p := ⟨g, o + j, none⟩) h2).trans (h3 j u hu), h4, h5,
      fun hn => by obtain ⟨g', o', e1, e2⟩ := h6 hn; exact ⟨g', o', e1, RdF.below hb b g' o' e2⟩,
      fun hn => by obtain ⟨g', o', e1, e2⟩ := h7 hn; exact ⟨g', o', e1, RdF.below hb e g' o' e2⟩⟩, RdF.below hb r g (o + 13) h8⟩
theorem RdS.below {B : Nat} {w w' : World} {A : Option Addr} {f : Fo} (h : RdS B w A f) (hb : Below B w w') : RdS B w' A f := fun hn => by
  obtain ⟨g, o, e, hr⟩ := h hn
  exact ⟨g, o, e, hr.below hb⟩
theorem RdF.mono {B B' : Nat} {w : World} (hB : B ≤ B') : ∀ (f : Fo) (g o : Nat), RdF B w f g o → RdF B' w f g o
  | .nil, _, _, _ => trivial
  | .cons h b e r, g, o, ⟨h1, h2, ⟨Ab, cb, Ae, ce, h3, h4, h5, h6, h7⟩, h8⟩ =>
    ⟨h1, Nat.lt_of_lt_of_le h2 hB, ⟨Ab, cb, Ae, ce, h3, h4, h5,
      fun hn => by obtain ⟨g', o', e1, e2⟩ := h6 hn; exact ⟨g', o', e1, RdF.mono hB b g' o' e2⟩,
      fun hn => by obtain ⟨g', o', e1, e2⟩ := h7 hn; exact ⟨g', o', e1, RdF.mono hB e g' o' e2⟩⟩, RdF.mono hB r g (o + 13) h8⟩
theorem RdS.mono {B B' : Nat} {w : World} {A : Option Addr} {f : Fo} (h : RdS B w A f) (hB : B ≤ B') : RdS B' w A f := fun hn => by
  obtain ⟨g, o, e, hr⟩ := h hn
  exact ⟨g, o, e, hr.mono hB⟩
theorem RdS.nil (B : Nat) (w : World) (A : Option Addr) : RdS B w A .nil := fun h => absurd h (by simp [Fo.len])
section
variable {H : Type} {enc : TypeId × Value → H} {w : World} {base : Nat} {sp : Nat → Bool} {held : Bool}
end
end Go.Proofs.Ytebmgladdgmmeaa
namespace Go.Proofs.Ytebmgladdgmmeaa
open Go.RowKit Go.WideShapes
set_option linter.unusedVariables false
set_option linter.unusedSimpArgs false
def plO (o : Int) (post : Bool) : Bool := decide (1 ≤ o ∧ o ≤ 18) || decide (22 ≤ o ∧ o ≤ 25) || (decide (o = 26) && post)
def plainI (t : In) (post : Bool) : Bool := rightI t && plO t.o post
def condI (t : In) : Bool := rightI t && decide (19 ≤ t.o ∧ t.o ≤ 21)
theorem code_right {t : In} (h : rightI t = true) : codeI t = 0 := by unfold codeI; rw [if_pos h]
theorem code_wrong {t : In} (h : rightI t = false) : codeI t = 110 := by unfold codeI; rw [h]; rfl
theorem o_cases (o : Int) (h0 : 0 ≤ o) : o = 0 ∨ (1 ≤ o ∧ o ≤ 18) ∨ (19 ≤ o ∧ o ≤ 21) ∨ (22 ≤ o ∧ o ≤ 25) ∨ o = 26 ∨ 27 ≤ o := by omega
set_option maxRecDepth 100000 in
set_option maxHeartbeats 4000000 in
theorem plain_any (t : In) (post : Bool) (w : World) (h0 : 0 ≤ t.o) : Calls Try.prog 67 #[t.agg, .bool post] w (Quiet (.bool (plainI t post)) w) := by
  have hr := fun W => rightI_any t W h0
  obtain ⟨x, hx⟩ : ∃ x, rightI t = x := ⟨_, rfl⟩
  have hp : plainI t post = (x && plO t.o post) := by unfold plainI; rw [hx]
  rw [hp]
  clear hp
  have hbx := Blk.new w 31 t.cells.toArray
  have HBX := Lib.hid hbx
  cases x
  · rw [code_wrong hx] at hr
    have HR := Lib.hid hr
    clear hr hx hbx
    obtain ⟨o, d, s, n⟩ := t
    unfold In.agg at *
    simp only at *
    go_enter Try.func67, Try.ntmps67
    go_wp2_with fail
    refine (HR.out _).mono ?_
    rintro e w1 ⟨rfl, hb1⟩
    have K := Lib.hid (ch1 (Below.refl _ _) hb1)
    clear hb1
    go_wp2_with fail
    go_ret
    exact ⟨rfl, K.out⟩
  · rw [code_right hx] at hr
    have HR := Lib.hid hr
    clear hr hx hbx
    obtain ⟨o, d, s, n⟩ := t
    unfold In.agg at *
    simp only at *
    rcases o_cases o h0 with h | h | h | h | h | h
    · have hpl : plO o post = false := by unfold plO; cases post <;> simp <;> omega
      have HPL := Lib.hid hpl
      have feq0 : (o == 0) = true := by simp; omega
      have fge27 : decide (27 ≤ o) = false := by simp; omega
      have fge19 : decide (19 ≤ o) = false := by simp; omega
      have fle21 : decide (o ≤ 21) = true := by simp; omega
      have feq26 : (o == 26) = false := by simp; omega
      have fne26 : (o != 26) = true := by simp; omega
      clear hpl h h0
      go_enter Try.func67, Try.ntmps67
      go_wp2_with fail
      refine (HR.out _).mono ?_
      rintro e w1 ⟨rfl, hb1⟩
      have K := Lib.hid (ch1 (Below.refl _ _) hb1)
      have hq := (HBX.out.below hb1).cell 0
      simp [In.cells] at hq
      clear hb1
      go_wp2_with fail
      all_goals
        go_ret
        exact ⟨by rw [HPL.out]; rfl, K.out⟩
    · have hpl : plO o post = true := by unfold plO; cases post <;> simp <;> omega
      have HPL := Lib.hid hpl
      have feq0 : (o == 0) = false := by simp; omega
      have fge27 : decide (27 ≤ o) = false := by simp; omega
      have fge19 : decide (19 ≤ o) = false := by simp; omega
      have fle21 : decide (o ≤ 21) = true := by simp; omega
      have feq26 : (o == 26) = false := by simp; omega
      have fne26 : (o != 26) = true := by simp; omega
      clear hpl h h0
      go_enter Try.func67, Try.ntmps67
      go_wp2_with fail
      refine (HR.out _).mono ?_
      rintro e w1 ⟨rfl, hb1⟩
      have K := Lib.hid (ch1 (Below.refl _ _) hb1)
      have hq := (HBX.out.below hb1).cell 0
      simp [In.cells] at hq
      clear hb1
      go_wp2_with fail
      all_goals
        go_ret
        exact ⟨by rw [HPL.out]; rfl, K.out⟩
    · have hpl : plO o post = false := by unfold plO; cases post <;> simp <;> omega
      have HPL := Lib.hid hpl
      have feq0 : (o == 0) = false := by simp; omega
      have fge27 : decide (27 ≤ o) = false := by simp; omega
      have fge19 : decide (19 ≤ o) = true := by simp; omega
      have fle21 : decide (o ≤ 21) = true := by simp; omega
      have feq26 : (o == 26) = false := by simp; omega
      have fne26 : (o != 26) = true := by simp; omega
      clear hpl h h0
      go_enter Try.func67, Try.ntmps67
      go_wp2_with fail
      refine (HR.out _).mono ?_
      rintro e w1 ⟨rfl, hb1⟩
      have K := Lib.hid (ch1 (Below.refl _ _) hb1)
      have hq := (HBX.out.below hb1).cell 0
      simp [In.cells] at hq
      clear hb1
      go_wp2_with fail
      all_goals
        go_ret
        exact ⟨by rw [HPL.out]; rfl, K.out⟩
    · have hpl : plO o post = true := by unfold plO; cases post <;> simp <;> omega
      have HPL := Lib.hid hpl
      have feq0 : (o == 0) = false := by simp; omega
      have fge27 : decide (27 ≤ o) = false := by simp; omega
      have fge19 : decide (19 ≤ o) = true := by simp; omega
      have fle21 : decide (o ≤ 21) = false := by simp; omega
      have feq26 : (o == 26) = false := by simp; omega
      have fne26 : (o != 26) = true := by simp; omega
      clear hpl h h0
      go_enter Try.func67, Try.ntmps67
      go_wp2_with fail
      refine (HR.out _).mono ?_
      rintro e w1 ⟨rfl, hb1⟩
      have K := Lib.hid (ch1 (Below.refl _ _) hb1)
      have hq := (HBX.out.below hb1).cell 0
      simp [In.cells] at hq
      clear hb1
      go_wp2_with fail
      all_goals
        go_ret
        exact ⟨by rw [HPL.out]; rfl, K.out⟩
    · have hpl : plO o post = post := by unfold plO; cases post <;> simp <;> omega
      have HPL := Lib.hid hpl
      have feq0 : (o == 0) = false := by simp; omega
      have fge27 : decide (27 ≤ o) = false := by simp; omega
      have fge19 : decide (19 ≤ o) = true := by simp; omega
      have fle21 : decide (o ≤ 21) = false := by simp; omega
      have feq26 : (o == 26) = true := by simp; omega
      have fne26 : (o != 26) = false := by simp; omega
      clear hpl h h0
      go_enter Try.func67, Try.ntmps67
      go_wp2_with fail
      refine (HR.out _).mono ?_
      rintro e w1 ⟨rfl, hb1⟩
      have K := Lib.hid (ch1 (Below.refl _ _) hb1)
      have hq := (HBX.out.below hb1).cell 0
      simp [In.cells] at hq
      clear hb1
      cases post
      all_goals
        go_wp2_with fail
        go_ret
        exact ⟨by rw [HPL.out]; rfl, K.out⟩
    · have hpl : plO o post = false := by unfold plO; cases post <;> simp <;> omega
      have HPL := Lib.hid hpl
      have feq0 : (o == 0) = false := by simp; omega
      have fge27 : decide (27 ≤ o) = true := by simp; omega
      have fge19 : decide (19 ≤ o) = true := by simp; omega
      have fle21 : decide (o ≤ 21) = false := by simp; omega
      have feq26 : (o == 26) = false := by simp; omega
      have fne26 : (o != 26) = true := by simp; omega
      clear hpl h h0
      go_enter Try.func67, Try.ntmps67
      go_wp2_with fail
      refine (HR.out _).mono ?_
      rintro e w1 ⟨rfl, hb1⟩
      have K := Lib.hid (ch1 (Below.refl _ _) hb1)
      have hq := (HBX.out.below hb1).cell 0
      simp [In.cells] at hq
      clear hb1
      go_wp2_with fail
      all_goals
        go_ret
        exact ⟨by rw [HPL.out]; rfl, K.out⟩
set_option maxRecDepth 100000 in
set_option maxHeartbeats 4000000 in
theorem cond_any (b : Bool) (t : In) (w : World) (h0 : 0 ≤ t.o) : Calls Try.prog 68 #[.agg #[.bool b, .int .u8 t.o, .int .i64 t.d, .int .i64 t.s, .int .i64 t.n]] w (Quiet (.bool (condI t)) w) := by
  have hr := fun W => rightI_any t W h0
  obtain ⟨x, hx⟩ : ∃ x, rightI t = x := ⟨_, rfl⟩
  have hp : condI t = (x && decide (19 ≤ t.o ∧ t.o ≤ 21)) := by unfold condI; rw [hx]
  rw [hp]
  clear hp
  have hbx := Blk.new w 33 #[.bool b, .int .u8 t.o, .int .i64 t.d, .int .i64 t.s, .int .i64 t.n]
  have HBX := Lib.hid hbx
  cases x
  · have hr2 := fun W => (hr W).mono fun e w' h => (⟨by rw [h.ret, code_wrong hx], h.low⟩ : Quiet (.int .i64 110) W e w')
    have HR := Lib.hid hr2
    clear hr hx hr2 hbx
    obtain ⟨o, d, s, n⟩ := t
    unfold In.agg at *
    simp only at *
    go_enter Try.func68, Try.ntmps68
    go_wp2_with fail
    refine (HR.out _).mono ?_
    rintro e w1 ⟨rfl, hb1⟩
    have K := Lib.hid (ch1 (Below.refl _ _) hb1)
    clear hb1
    go_wp2_with fail
    go_ret
    exact ⟨rfl, K.out⟩
  · have hr2 := fun W => (hr W).mono fun e w' h => (⟨by rw [h.ret, code_right hx], h.low⟩ : Quiet (.int .i64 0) W e w')
    have HR := Lib.hid hr2
    clear hr hx hr2 hbx
    obtain ⟨o, d, s, n⟩ := t
    unfold In.agg at *
    simp only at *
    rcases (show o < 19 ∨ (19 ≤ o ∧ o ≤ 21) ∨ 21 < o from by omega) with h | h | h
    · have hpl : decide (19 ≤ o ∧ o ≤ 21) = false := by simp; omega
      have HPL := Lib.hid hpl
      have f1 : decide (19 ≤ o) = false := by simp; omega
      have f2 : decide (o ≤ 21) = true := by simp; omega
      clear hpl h h0
      go_enter Try.func68, Try.ntmps68
      go_wp2_with fail
      refine (HR.out _).mono ?_
      rintro e w1 ⟨rfl, hb1⟩
      have K := Lib.hid (ch1 (Below.refl _ _) hb1)
      have hq := (HBX.out.below hb1).cell 1
      simp at hq
      clear hb1
      go_wp2_with fail
      all_goals
        go_ret
        exact ⟨by rw [HPL.out]; rfl, K.out⟩
    · have hpl : decide (19 ≤ o ∧ o ≤ 21) = true := by simp; omega
      have HPL := Lib.hid hpl
      have f1 : decide (19 ≤ o) = true := by simp; omega
      have f2 : decide (o ≤ 21) = true := by simp; omega
      clear hpl h h0
      go_enter Try.func68, Try.ntmps68
      go_wp2_with fail
      refine (HR.out _).mono ?_
      rintro e w1 ⟨rfl, hb1⟩
      have K := Lib.hid (ch1 (Below.refl _ _) hb1)
      have hq := (HBX.out.below hb1).cell 1
      simp at hq
      clear hb1
      go_wp2_with fail
      all_goals
        go_ret
        exact ⟨by rw [HPL.out]; rfl, K.out⟩
    · have hpl : decide (19 ≤ o ∧ o ≤ 21) = false := by simp; omega
      have HPL := Lib.hid hpl
      have f1 : decide (19 ≤ o) = true := by simp; omega
      have f2 : decide (o ≤ 21) = false := by simp; omega
      clear hpl h h0
      go_enter Try.func68, Try.ntmps68
      go_wp2_with fail
      refine (HR.out _).mono ?_
      rintro e w1 ⟨rfl, hb1⟩
      have K := Lib.hid (ch1 (Below.refl _ _) hb1)
      have hq := (HBX.out.below hb1).cell 1
      simp at hq
      clear hb1
      go_wp2_with fail
      all_goals
        go_ret
        exact ⟨by rw [HPL.out]; rfl, K.out⟩
end Go.Proofs.Ytebmgladdgmmeaa
