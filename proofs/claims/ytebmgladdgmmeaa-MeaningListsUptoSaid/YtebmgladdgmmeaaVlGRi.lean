/- Is a statement right, but for those within: the walk. No condition. -/
import Derived.Test.YtebmgladdgmmeaaVlGEq
namespace Go.Proofs.Ytebmgladdgmmeaa
open Go.RowKit Go.WideShapes
set_option linter.unusedVariables false
set_option linter.unusedSimpArgs false
def bareH (h : Hd) (bl el : Nat) : Bool := condEq h.nt h.ci false zQ && decide (bl + el = 0)
def rtH (post : Bool) (h : Hd) (bl el : Nat) : Bool :=
  if h.k = 1 then bareH h bl el && plainI h.i post else if h.k = 4 then bareH h bl el && inEq h.i zQ else if h.k = 2 ∨ h.k = 3 then inEq h.i zQ && condI h.ci && (decide (h.k = 2) || decide (el = 0)) else false
/-- The cells of an element. -/
structure Cells (w : World) (g o : Nat) (h : Hd) (vb ve : Value) : Prop where
  c0 : w.cell? ⟨g, o, none⟩ = some (.int .u8 h.k)
  c1 : w.cell? ⟨g, o + 1, none⟩ = some (.int .u8 h.i.o)
  c2 : w.cell? ⟨g, o + 2, none⟩ = some (.int .i64 h.i.d)
  c3 : w.cell? ⟨g, o + 3, none⟩ = some (.int .i64 h.i.s)
  c4 : w.cell? ⟨g, o + 4, none⟩ = some (.int .i64 h.i.n)
  c5 : w.cell? ⟨g, o + 5, none⟩ = some (.bool h.nt)
  c6 : w.cell? ⟨g, o + 6, none⟩ = some (.int .u8 h.ci.o)
  c7 : w.cell? ⟨g, o + 7, none⟩ = some (.int .i64 h.ci.d)
  c8 : w.cell? ⟨g, o + 8, none⟩ = some (.int .i64 h.ci.s)
  c9 : w.cell? ⟨g, o + 9, none⟩ = some (.int .i64 h.ci.n)
  c10 : w.cell? ⟨g, o + 10, none⟩ = some vb
  c11 : w.cell? ⟨g, o + 11, none⟩ = some ve
  c12 : w.cell? ⟨g, o + 12, none⟩ = some (.int .i64 h.ln)
theorem Cells.of {w : World} {g o : Nat} {h : Hd} {vb ve : Value} (hc : ∀ j u, (h.cells vb ve)[j]? = some u → w.cell? ⟨g, o + j, none⟩ = some u) : Cells w g o h vb ve :=
  ⟨hc 0 _ rfl, hc 1 _ rfl, hc 2 _ rfl, hc 3 _ rfl, hc 4 _ rfl, hc 5 _ rfl, hc 6 _ rfl, hc 7 _ rfl, hc 8 _ rfl, hc 9 _ rfl, hc 10 _ rfl, hc 11 _ rfl, hc 12 _ rfl⟩
theorem Cells.below {B : Nat} {w w' : World} {g o : Nat} {h : Hd} {vb ve : Value} (hc : Cells w g o h vb ve) (hb : Below B w w') (hg : g < B) : Cells w' g o h vb ve := by
  have k : ∀ j u, w.cell? ⟨g, j, none⟩ = some u → w'.cell? ⟨g, j, none⟩ = some u := fun j u hu => (hb.cell (p := ⟨g, j, none⟩) hg).trans hu
  exact ⟨k _ _ hc.c0, k _ _ hc.c1, k _ _ hc.c2, k _ _ hc.c3, k _ _ hc.c4, k _ _ hc.c5, k _ _ hc.c6, k _ _ hc.c7, k _ _ hc.c8, k _ _ hc.c9, k _ _ hc.c10, k _ _ hc.c11, k _ _ hc.c12⟩
set_option maxRecDepth 100000 in
set_option maxHeartbeats 8000000 in
theorem right_any (g o : Nat) (h : Hd) (post : Bool) (Ab Ae : Option Addr) (cb ce bl el : Nat) (w : World) (hc : Cells w g o h (.slice Ab bl cb) (.slice Ae el ce)) (hg : g < w.heap.size) (hok : h.ok) (hbl : bl ≤ lenMost) (hel : el ≤ lenMost) :
    Calls Try.prog 41 #[.pointer (some ⟨g, o, none⟩), .bool post] w (Quiet (.bool (rtH post h bl el)) w) := by
  have HC := Lib.hid hc
  obtain ⟨c0, c1, c2, c3, c4, c5, c6, c7, c8, c9, c10, c11, c12⟩ := hc
  have hpl := fun W => plain_any h.i post W hok.i.o0
  have hcd := fun W => cond_any h.nt h.ci W hok.ci.o0
  have hsi := hok.i.o0
  have hk0 := hok.k0
  obtain ⟨k, ⟨io, id_, is_, in_⟩, nt, ⟨co, cd, cs, cn⟩, ln⟩ := h
  simp only at *
  unfold lenMost at hbl hel
  unfold In.agg at hpl
  obtain ⟨x, hx⟩ : ∃ x, plainI ⟨io, id_, is_, in_⟩ post = x := ⟨_, rfl⟩
  obtain ⟨y, hy⟩ : ∃ y, condI ⟨co, cd, cs, cn⟩ = y := ⟨_, rfl⟩
  obtain ⟨q, hq⟩ : ∃ q, condEq nt ⟨co, cd, cs, cn⟩ false zQ = q := ⟨_, rfl⟩
  obtain ⟨r, hr⟩ : ∃ r, inEq ⟨io, id_, is_, in_⟩ zQ = r := ⟨_, rfl⟩
  rw [hx] at hpl
  rw [hy] at hcd
  have HPL := Lib.hid hpl
  have HCD := Lib.hid hcd
  have eqc := fun W => eqCond nt co cd cs cn false 0 0 0 0 W
  have eqi := fun W => eqIn io id_ is_ in_ 0 0 0 0 W
  unfold zQ at hq hr
  rw [hq] at eqc
  rw [hr] at eqi
  have hval : rtH post ⟨k, ⟨io, id_, is_, in_⟩, nt, ⟨co, cd, cs, cn⟩, ln⟩ bl el = if k = 1 then (q && decide (bl + el = 0)) && x else if k = 4 then (q && decide (bl + el = 0)) && r else if k = 2 ∨ k = 3 then r && y && (decide (k = 2) || decide (el = 0)) else false := by
    unfold rtH bareH
    simp only [zQ]
    rw [hx, hy, hq, hr]
  have HV := Lib.hid hval
  clear hval hpl hcd hx hy hq hr
  have hz : ((bl : Int) + (el : Int) == 0) = decide (bl + el = 0) := by
    by_cases e : bl + el = 0
    · have : ((bl : Int) + (el : Int)) = 0 := by omega
      rw [decide_eq_true e, this]; rfl
    · have : ((bl : Int) + (el : Int)) ≠ 0 := by omega
      rw [decide_eq_false e]; simpa using this
  have hze : ((el : Int) == 0) = decide (el = 0) := by
    by_cases e : el = 0
    · have : (el : Int) = 0 := by omega
      rw [decide_eq_true e, this]; rfl
    · have : (el : Int) ≠ 0 := by omega
      rw [decide_eq_false e]; simpa using this
  generalize decide (bl + el = 0) = zb at *
  generalize decide (el = 0) = ze at *
  have hv := HV.out
  rcases (show k = 1 ∨ k = 4 ∨ k = 2 ∨ k = 3 ∨ (k ≠ 1 ∧ k ≠ 4 ∧ k ≠ 2 ∧ k ≠ 3) from by omega) with hk | hk | hk | hk | hk
  · subst hk
    rw [if_pos rfl] at hv
    rw [hv]
    clear hv HV
    cases q <;> cases zb
    all_goals
      go_enter Try.func41, Try.ntmps41
      go_wp2_with fail
      go_quiet (fail)
      go_wp2_with (go_at_call 67; refine (HPL.out _).mono ?_; rintro e w1 ⟨rfl, hb1⟩)
      go_ret
      first | exact ⟨rfl, below_drewN (Below.refl _ _) _⟩ | exact ⟨rfl, (below_drewN (Below.refl _ _) _).trans (hb1.mono (by simp))⟩
  · subst hk
    rw [if_neg (by decide), if_pos rfl] at hv
    rw [hv]
    clear hv HV
    cases q <;> cases zb
    all_goals
      go_enter Try.func41, Try.ntmps41
      go_wp2_with fail
      go_quiet (fail)
      go_wp2_with fail
      go_ret
      exact ⟨rfl, below_drewN (Below.refl _ _) _⟩
  · subst hk
    rw [if_neg (by decide), if_neg (by decide), if_pos (by decide)] at hv
    rw [hv]
    clear hv HV
    cases q <;> cases r <;> cases y
    all_goals
      go_enter Try.func41, Try.ntmps41
      go_wp2_with fail
      go_quiet (fail)
      go_wp2_with (go_at_call 68; refine (HCD.out _).mono ?_; rintro e w1 ⟨rfl, hb1⟩; have hbw := (below_drewN (Below.refl w.heap.size w) _).trans (hb1.mono (by simp)); have hcw := HC.out.below hbw hg; have d0 := hcw.c0; have d11 := hcw.c11; have HBW := Lib.hid hbw; clear hb1 hbw hcw)
      go_ret
      first | exact ⟨rfl, below_drewN (Below.refl _ _) _⟩ | exact ⟨rfl, HBW.out⟩
  · subst hk
    rw [if_neg (by decide), if_neg (by decide), if_pos (by decide)] at hv
    rw [hv]
    clear hv HV
    cases q <;> cases r <;> cases y
    all_goals
      go_enter Try.func41, Try.ntmps41
      go_wp2_with fail
      go_quiet (fail)
      go_wp2_with (go_at_call 68; refine (HCD.out _).mono ?_; rintro e w1 ⟨rfl, hb1⟩; have hbw := (below_drewN (Below.refl w.heap.size w) _).trans (hb1.mono (by simp)); have hcw := HC.out.below hbw hg; have d0 := hcw.c0; have d11 := hcw.c11; have HBW := Lib.hid hbw; clear hb1 hbw hcw)
      go_ret
      first | exact ⟨rfl, below_drewN (Below.refl _ _) _⟩ | exact ⟨rfl, HBW.out⟩
  · have e1 : (k == 1) = false := by simpa using hk.1
    have e4 : (k == 4) = false := by simpa using hk.2.1
    have e2 : (k == 2) = false := by simpa using hk.2.2.1
    have e3 : (k == 3) = false := by simpa using hk.2.2.2
    rw [if_neg hk.1, if_neg hk.2.1, if_neg (by omega)] at hv
    rw [hv]
    clear hv HV hk
    cases q <;> cases zb
    all_goals
      go_enter Try.func41, Try.ntmps41
      go_wp2_with fail
      go_quiet (fail)
      go_wp2_with fail
      go_ret
      exact ⟨rfl, below_drewN (Below.refl _ _) _⟩
end Go.Proofs.Ytebmgladdgmmeaa
