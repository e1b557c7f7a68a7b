/- The chapter's examples of chapter 19: nested, awake: walks. Condition: none. -/
import Derived.Test.YtebmgladdgmmeaaGRg
namespace Go.Proofs.Ytebmgladdgmmeaa
open Go.RowKit Go.WideShapes
set_option linter.unusedVariables false
set_option linter.unusedSimpArgs false
def hdDo : Hd := ⟨3, ⟨0, 0, 0, 0⟩, false, ⟨19, 0, 0, 0⟩, 0⟩
def hdOut : Hd := ⟨1, ⟨26, 0, 0, 0⟩, false, ⟨0, 0, 0, 0⟩, 0⟩
def hdInc : Hd := ⟨1, ⟨3, 0, 0, 0⟩, false, ⟨0, 0, 0, 0⟩, 0⟩
def hdJmp : Hd := ⟨1, ⟨29, 0, 0, 0⟩, false, ⟨0, 0, 0, 0⟩, 0⟩
def hdHalt : Hd := ⟨4, ⟨0, 0, 0, 0⟩, false, ⟨0, 0, 0, 0⟩, 0⟩
def nestF : Nat → Fo
  | 0 => .nil
  | n + 1 => .cons hdDo (nestF n) .nil .nil
theorem nest_len : ∀ n, (nestF n).len ≤ 1
  | 0 => by simp [nestF, Fo.len]
  | n + 1 => by simp [nestF, Fo.len]
theorem nest_tot : ∀ n, (nestF n).tot = n
  | 0 => rfl
  | n + 1 => by simp [nestF, Fo.tot, nest_tot n]
/-- One statement in a row of its own. -/
theorem one_rd {w : World} {h : Hd} {b e : Fo} {Ab Ae : Option Addr} {cb ce : Nat} {us : Array Value} (hok : h.ok) (hus : us.toList = h.cells (.slice Ab b.len cb) (.slice Ae e.len ce)) (hb : RdS w.heap.size w Ab b) (he : RdS w.heap.size w Ae e)
    (hbl : b.len ≤ cb ∧ cb ≤ maxLen ∧ b.len ≤ lenMost) (hel : e.len ≤ ce ∧ ce ≤ maxLen ∧ e.len ≤ lenMost) : RdS (w.alloc (.cells us 35)).heap.size (w.alloc (.cells us 35)) (some ⟨w.heap.size, 0, none⟩) (.cons h b e .nil) := fun _ => by
  have hal := (Below.refl w.heap.size w).alloc (Nat.le_refl _) (.cells us 35)
  have hbx := Blk.new w 35 us
  have hsz : w.heap.size ≤ (w.alloc (.cells us 35)).heap.size := by simp
  refine ⟨w.heap.size, 0, rfl, hok, by simp, ⟨Ab, cb, Ae, ce, fun j u hu => ?_, hbl, hel, ?_, ?_⟩, trivial⟩
  · rw [Nat.zero_add]
    have hj := hbx.cell j
    rw [← hus] at hu
    rw [hj]
    simpa using hu
  · exact (show RdS _ _ Ab b from (hb.below hal).mono hsz)
  · exact (show RdS _ _ Ae e from (he.below hal).mono hsz)
structure AtNest (n : Nat) (w0 : World) (v i : Value) (w : World) : Prop where
  ex : ∃ (k : Nat) (A : Option Addr), k ≤ n ∧ i = .int .i64 k ∧ v = .slice A (nestF k).len (nestF k).len ∧ RdS w.heap.size w A (nestF k)
  low : Below w0.heap.size w0 w
structure IsNest (n : Nat) (w0 : World) (e : Ending) (w : World) : Prop where
  ex : ∃ A, e = .returned (.slice A (nestF n).len (nestF n).len) ∧ RdS w.heap.size w A (nestF n)
  low : Below w0.heap.size w0 w
set_option maxRecDepth 100000 in
set_option maxHeartbeats 4000000 in
theorem nested_any (n : Nat) (hn : n ≤ 1000) (w : World) : Calls Try.prog 43 #[.int .i64 n] w (IsNest n w) := by
  have hst : AtNest n w (.slice none 0 0) (.int .i64 0) w := ⟨⟨0, none, by omega, rfl, rfl, RdS.nil _ _ _⟩, Below.refl _ _⟩
  have HST := Lib.hid hst
  clear hst
  go_enter Try.func43, Try.ntmps43
  go_wp2_with fail
  go_loopw [3, 4] (fun v i wr => AtNest n w v i wr) (fun _ i _ => n - (intOf i).toNat)
  case atStart => exact HST.out
  case round =>
    obtain ⟨⟨k, A, hk, rfl, rfl, hrd⟩, hlow⟩ := hrel
    have HLW := Lib.hid hlow
    have HRD := Lib.hid hrd
    clear hlow hrd HST
    by_cases hkn : k = n
    · subst hkn
      have g3 : decide (k < k) = false := by simp
      go_wp2_with fail
      go_ret
      exact ⟨⟨A, rfl, HRD.out⟩, HLW.out⟩
    · have g3 : decide (k < n) = true := by simp; omega
      have hkI : (k : Int) ≤ 1000 := by omega
      have hl1 := nest_len k
      have hr1 : RdS _ (wr.alloc (.cells #[.int .u8 3, .int .u8 0, .int .i64 0, .int .i64 0, .int .i64 0, .bool false, .int .u8 19, .int .i64 0, .int .i64 0, .int .i64 0, .slice A (nestF k).len (nestF k).len, .slice none 0 0, .int .i64 0] 35)) (some ⟨wr.heap.size, 0, none⟩) (nestF (k + 1)) :=
        one_rd (h := hdDo) (b := nestF k) (e := .nil) (Ab := A) (Ae := none) (cb := (nestF k).len) (ce := 0) ⟨by decide, by decide, ⟨by decide, by decide, by decide, by decide, by decide, by decide, by decide, by decide⟩, ⟨by decide, by decide, by decide, by decide, by decide, by decide, by decide, by decide⟩, by decide, by decide⟩ rfl HRD.out (RdS.nil _ _ _) ⟨Nat.le_refl _, by unfold maxLen; omega, by unfold lenMost; omega⟩ ⟨Nat.le_refl _, by simp [maxLen], by simp [Fo.len, lenMost]⟩
      have hal : Below w.heap.size w (wr.alloc (.cells #[.int .u8 3, .int .u8 0, .int .i64 0, .int .i64 0, .int .i64 0, .bool false, .int .u8 19, .int .i64 0, .int .i64 0, .int .i64 0, .slice A (nestF k).len (nestF k).len, .slice none 0 0, .int .i64 0] 35)) := HLW.out.alloc HLW.out.size _
      have hend : AtNest n w (.slice (some ⟨wr.heap.size, 0, none⟩) 1 1) (.int .i64 ((k : Int) + 1)) _ := ⟨⟨k + 1, some ⟨wr.heap.size, 0, none⟩, by omega, by go_num, rfl, hr1⟩, hal⟩
      have HEND := Lib.hid hend
      clear hr1 hal hend
      go_wp2_with fail
      refine ⟨HEND.out, ?_⟩
      simp [intOf]
      omega
set_option maxRecDepth 100000 in
set_option maxHeartbeats 4000000 in
theorem one_any (h : Hd) (b e : Fo) (Ab Ae : Option Addr) (cb ce : Nat) (post v : Bool) (w : World) (hok : h.ok) (hb : RdS w.heap.size w Ab b) (he : RdS w.heap.size w Ae e) (hbl : b.len ≤ cb ∧ cb ≤ maxLen ∧ b.len ≤ lenMost) (hel : e.len ≤ ce ∧ ce ≤ maxLen ∧ e.len ≤ lenMost) (ht : b.tot + e.tot ≤ 1000) (hv : rightF post (.cons h b e .nil) = v) :
    Calls Try.prog 42 #[.agg #[.int .u8 h.k, .int .u8 h.i.o, .int .i64 h.i.d, .int .i64 h.i.s, .int .i64 h.i.n, .bool h.nt, .int .u8 h.ci.o, .int .i64 h.ci.d, .int .i64 h.ci.s, .int .i64 h.ci.n, .slice Ab b.len cb, .slice Ae e.len ce, .int .i64 h.ln], .bool post] w (Quiet (.bool v) w) := by
  have cs : ∃ us : Array Value, us = #[.int .u8 h.k, .int .u8 h.i.o, .int .i64 h.i.d, .int .i64 h.i.s, .int .i64 h.i.n, .bool h.nt, .int .u8 h.ci.o, .int .i64 h.ci.d, .int .i64 h.ci.s, .int .i64 h.ci.n, .slice Ab b.len cb, .slice Ae e.len ce, .int .i64 h.ln] := ⟨_, rfl⟩
  obtain ⟨us, hus⟩ := cs
  have hal := (Below.refl w.heap.size w).alloc (Nat.le_refl _) (.cells us 35)
  have hal2 : Below w.heap.size w ((w.alloc (.cells us 35)).alloc (.cells us 35)) := hal.alloc (by simp) _
  have hrd := one_rd (w := w.alloc (.cells us 35)) (us := us) hok (by rw [hus]; rfl) ((hb.below hal).mono (by simp)) ((he.below hal).mono (by simp)) hbl hel
  have hr := rightS_any (.cons h b e .nil) post _ 1 _ hrd (by simp [Fo.len]) (by simp [Fo.len, lenMost]) (by simp only [Fo.tot]; omega)
  rw [hv] at hr
  have HR := Lib.hid hr
  have HAL := Lib.hid hal2
  subst hus
  simp only [Fo.len, World.size_alloc] at HR
  clear hr hal2 hal hrd hb he hv hok
  obtain ⟨kd, ⟨io, id_, is_, in_⟩, nt, ⟨co, cd, cs, cn⟩, ln⟩ := h
  simp only at *
  go_enter Try.func42, Try.ntmps42
  go_wp2_with (go_at_call 10; refine (HR.out).mono ?_; rintro e w1 ⟨rfl, hb1⟩; have K := Lib.hid (HAL.out.trans (hb1.mono (by simp; omega))); clear hb1)
  go_ret
  exact ⟨rfl, K.out⟩
/-- The box that holds the statement 'out'. -/
structure OutBox (w : World) (g : Nat) : Prop where
  c0 : w.cell? ⟨g, 0, none⟩ = some (.int .u8 1)
  c1 : w.cell? ⟨g, 1, none⟩ = some (.int .u8 26)
  c2 : w.cell? ⟨g, 2, none⟩ = some (.int .i64 0)
  c3 : w.cell? ⟨g, 3, none⟩ = some (.int .i64 0)
  c4 : w.cell? ⟨g, 4, none⟩ = some (.int .i64 0)
  c5 : w.cell? ⟨g, 5, none⟩ = some (.bool false)
  c6 : w.cell? ⟨g, 6, none⟩ = some (.int .u8 0)
  c7 : w.cell? ⟨g, 7, none⟩ = some (.int .i64 0)
  c8 : w.cell? ⟨g, 8, none⟩ = some (.int .i64 0)
  c9 : w.cell? ⟨g, 9, none⟩ = some (.int .i64 0)
  c10 : w.cell? ⟨g, 10, none⟩ = some (.slice none 0 0)
  c11 : w.cell? ⟨g, 11, none⟩ = some (.slice none 0 0)
  c12 : w.cell? ⟨g, 12, none⟩ = some (.int .i64 0)
theorem OutBox.below {w w' : World} {g : Nat} (h : OutBox w g) (hg : g < w.heap.size) (hb : Below w.heap.size w w') : OutBox w' g := by
  have k : ∀ j u, w.cell? ⟨g, j, none⟩ = some u → w'.cell? ⟨g, j, none⟩ = some u := fun j u hu => (hb.cell (p := ⟨g, j, none⟩) hg).trans hu
  exact ⟨k _ _ h.c0, k _ _ h.c1, k _ _ h.c2, k _ _ h.c3, k _ _ h.c4, k _ _ h.c5, k _ _ h.c6, k _ _ h.c7, k _ _ h.c8, k _ _ h.c9, k _ _ h.c10, k _ _ h.c11, k _ _ h.c12⟩
theorem OutBox.new (w : World) : OutBox (w.alloc (.cells #[.int .u8 1, .int .u8 26, .int .i64 0, .int .i64 0, .int .i64 0, .bool false, .int .u8 0, .int .i64 0, .int .i64 0, .int .i64 0, .slice none 0 0, .slice none 0 0, .int .i64 0] 35)) w.heap.size := by
  have h := Blk.new w 35 #[.int .u8 1, .int .u8 26, .int .i64 0, .int .i64 0, .int .i64 0, .bool false, .int .u8 0, .int .i64 0, .int .i64 0, .int .i64 0, .slice none 0 0, .slice none 0 0, .int .i64 0]
  exact ⟨h.cell 0, h.cell 1, h.cell 2, h.cell 3, h.cell 4, h.cell 5, h.cell 6, h.cell 7, h.cell 8, h.cell 9, h.cell 10, h.cell 11, h.cell 12⟩
/-- A call's ending: the box stays. -/
structure Rest (W0 : World) (g : Nat) (W : World) : Prop where
  box : OutBox W g
  low : Below W0.heap.size W0 W
theorem Rest.step {W0 W W' : World} {g : Nat} (h : Rest W0 g W) (hg : g < W.heap.size) (hb : Below W.heap.size W W') : Rest W0 g W' := ⟨h.box.below hg hb, h.low.trans (hb.mono h.low.size)⟩
set_option maxRecDepth 100000 in
set_option maxHeartbeats 8000000 in
theorem awake_any (w : World) : Calls Try.prog 11 #[] w (Quiet (.bool true) w) := by
  have h1 : ∀ W, Calls Try.prog 42 #[.agg #[.int .u8 1, .int .u8 3, .int .i64 0, .int .i64 0, .int .i64 0, .bool false, .int .u8 0, .int .i64 0, .int .i64 0, .int .i64 0, .slice none 0 0, .slice none 0 0, .int .i64 0], .bool false] W (Quiet (.bool true) W) := fun W => one_any hdInc .nil .nil none none 0 0 false true W ⟨by decide, by decide, ⟨by decide, by decide, by decide, by decide, by decide, by decide, by decide, by decide⟩, ⟨by decide, by decide, by decide, by decide, by decide, by decide, by decide, by decide⟩, by decide, by decide⟩ (RdS.nil _ _ _) (RdS.nil _ _ _) ⟨Nat.le_refl _, by simp [maxLen], by simp [Fo.len, lenMost]⟩ ⟨Nat.le_refl _, by simp [maxLen], by simp [Fo.len, lenMost]⟩ (by simp [Fo.tot]) (by decide +kernel)
  have h2 : ∀ W, Calls Try.prog 42 #[.agg #[.int .u8 1, .int .u8 26, .int .i64 0, .int .i64 0, .int .i64 0, .bool false, .int .u8 0, .int .i64 0, .int .i64 0, .int .i64 0, .slice none 0 0, .slice none 0 0, .int .i64 0], .bool false] W (Quiet (.bool false) W) := fun W => one_any hdOut .nil .nil none none 0 0 false false W ⟨by decide, by decide, ⟨by decide, by decide, by decide, by decide, by decide, by decide, by decide, by decide⟩, ⟨by decide, by decide, by decide, by decide, by decide, by decide, by decide, by decide⟩, by decide, by decide⟩ (RdS.nil _ _ _) (RdS.nil _ _ _) ⟨Nat.le_refl _, by simp [maxLen], by simp [Fo.len, lenMost]⟩ ⟨Nat.le_refl _, by simp [maxLen], by simp [Fo.len, lenMost]⟩ (by simp [Fo.tot]) (by decide +kernel)
  have h3 : ∀ W, Calls Try.prog 42 #[.agg #[.int .u8 1, .int .u8 26, .int .i64 0, .int .i64 0, .int .i64 0, .bool false, .int .u8 0, .int .i64 0, .int .i64 0, .int .i64 0, .slice none 0 0, .slice none 0 0, .int .i64 0], .bool true] W (Quiet (.bool true) W) := fun W => one_any hdOut .nil .nil none none 0 0 true true W ⟨by decide, by decide, ⟨by decide, by decide, by decide, by decide, by decide, by decide, by decide, by decide⟩, ⟨by decide, by decide, by decide, by decide, by decide, by decide, by decide, by decide⟩, by decide, by decide⟩ (RdS.nil _ _ _) (RdS.nil _ _ _) ⟨Nat.le_refl _, by simp [maxLen], by simp [Fo.len, lenMost]⟩ ⟨Nat.le_refl _, by simp [maxLen], by simp [Fo.len, lenMost]⟩ (by simp [Fo.tot]) (by decide +kernel)
  have h4 : ∀ W, Calls Try.prog 42 #[.agg #[.int .u8 1, .int .u8 29, .int .i64 0, .int .i64 0, .int .i64 0, .bool false, .int .u8 0, .int .i64 0, .int .i64 0, .int .i64 0, .slice none 0 0, .slice none 0 0, .int .i64 0], .bool true] W (Quiet (.bool false) W) := fun W => one_any hdJmp .nil .nil none none 0 0 true false W ⟨by decide, by decide, ⟨by decide, by decide, by decide, by decide, by decide, by decide, by decide, by decide⟩, ⟨by decide, by decide, by decide, by decide, by decide, by decide, by decide, by decide⟩, by decide, by decide⟩ (RdS.nil _ _ _) (RdS.nil _ _ _) ⟨Nat.le_refl _, by simp [maxLen], by simp [Fo.len, lenMost]⟩ ⟨Nat.le_refl _, by simp [maxLen], by simp [Fo.len, lenMost]⟩ (by simp [Fo.tot]) (by decide +kernel)
  have h5 : ∀ W : World, Calls Try.prog 42 #[.agg #[.int .u8 4, .int .u8 0, .int .i64 0, .int .i64 0, .int .i64 0, .bool false, .int .u8 0, .int .i64 0, .int .i64 0, .int .i64 0, .slice (some ⟨W.heap.size, 0, none⟩) 1 1, .slice none 0 0, .int .i64 0], .bool true] (W.alloc (.cells #[.int .u8 1, .int .u8 26, .int .i64 0, .int .i64 0, .int .i64 0, .bool false, .int .u8 0, .int .i64 0, .int .i64 0, .int .i64 0, .slice none 0 0, .slice none 0 0, .int .i64 0] 35)) (Quiet (.bool false) (W.alloc (.cells #[.int .u8 1, .int .u8 26, .int .i64 0, .int .i64 0, .int .i64 0, .bool false, .int .u8 0, .int .i64 0, .int .i64 0, .int .i64 0, .slice none 0 0, .slice none 0 0, .int .i64 0] 35))) := fun W =>
    one_any hdHalt (.cons hdOut .nil .nil .nil) .nil (some ⟨W.heap.size, 0, none⟩) none 1 0 true false _ ⟨by decide, by decide, ⟨by decide, by decide, by decide, by decide, by decide, by decide, by decide, by decide⟩, ⟨by decide, by decide, by decide, by decide, by decide, by decide, by decide, by decide⟩, by decide, by decide⟩ (one_rd (h := hdOut) (b := .nil) (e := .nil) (Ab := none) (Ae := none) (cb := 0) (ce := 0) ⟨by decide, by decide, ⟨by decide, by decide, by decide, by decide, by decide, by decide, by decide, by decide⟩, ⟨by decide, by decide, by decide, by decide, by decide, by decide, by decide, by decide⟩, by decide, by decide⟩ rfl (RdS.nil _ _ _) (RdS.nil _ _ _) ⟨Nat.le_refl _, by simp [maxLen], by simp [Fo.len, lenMost]⟩ ⟨Nat.le_refl _, by simp [maxLen], by simp [Fo.len, lenMost]⟩) (RdS.nil _ _ _) ⟨Nat.le_refl _, by simp [maxLen], by simp [Fo.len, lenMost]⟩ ⟨Nat.le_refl _, by simp [maxLen], by simp [Fo.len, lenMost]⟩ (by simp [Fo.tot]) (by decide +kernel)
  have h6 : ∀ (A : Option Addr) (W : World), RdS W.heap.size W A (nestF 20) → Calls Try.prog 10 #[.slice A 1 1, .bool false] W (Quiet (.bool true) W) := fun A W hr => by
    have h := rightS_any (nestF 20) false A 1 W hr (nest_len 20) (by have := nest_len 20; unfold lenMost; omega) (by rw [nest_tot]; omega)
    rw [show rightF false (nestF 20) = true by decide +kernel] at h
    exact h
  have h7 : ∀ (A : Option Addr) (W : World), RdS W.heap.size W A (nestF 21) → Calls Try.prog 10 #[.slice A 1 1, .bool false] W (Quiet (.bool false) W) := fun A W hr => by
    have h := rightS_any (nestF 21) false A 1 W hr (nest_len 21) (by have := nest_len 21; unfold lenMost; omega) (by rw [nest_tot]; omega)
    rw [show rightF false (nestF 21) = false by decide +kernel] at h
    exact h
  have h8 : ∀ (A : Option Addr) (W : World), RdS W.heap.size W A (nestF 21) → Calls Try.prog 12 #[.slice A 1 1] W (Quiet (.int .i64 20) W) := fun A W hr => by
    have h := count_any (nestF 21) A 1 W hr (nest_len 21) (by have := nest_len 21; unfold lenMost; omega) (by rw [nest_tot]; omega)
    rw [show cnF (nestF 21) 20 = 20 by decide +kernel] at h
    exact h
  have n20 : ∀ W, Calls Try.prog 43 #[.int .i64 20] W (fun e W' => ∃ A, e = .returned (.slice A 1 1) ∧ RdS W'.heap.size W' A (nestF 20) ∧ Below W.heap.size W W') := fun W => (nested_any 20 (by omega) W).mono fun e w' ⟨⟨A, h1, h2⟩, h3⟩ => ⟨A, h1.trans (by rw [show (nestF 20).len = 1 by decide +kernel]), h2, h3⟩
  have n21 : ∀ W, Calls Try.prog 43 #[.int .i64 21] W (fun e W' => ∃ A, e = .returned (.slice A 1 1) ∧ RdS W'.heap.size W' A (nestF 21) ∧ Below W.heap.size W W') := fun W => (nested_any 21 (by omega) W).mono fun e w' ⟨⟨A, h1, h2⟩, h3⟩ => ⟨A, h1.trans (by rw [show (nestF 21).len = 1 by decide +kernel]), h2, h3⟩
  have H1 := Lib.hid h1
  have H2 := Lib.hid h2
  have H3 := Lib.hid h3
  have H4 := Lib.hid h4
  have H5 := Lib.hid h5
  have H6 := Lib.hid h6
  have H7 := Lib.hid h7
  have H8 := Lib.hid h8
  have N20 := Lib.hid n20
  have N21 := Lib.hid n21
  have r0 : Rest w w.heap.size (w.alloc (.cells #[.int .u8 1, .int .u8 26, .int .i64 0, .int .i64 0, .int .i64 0, .bool false, .int .u8 0, .int .i64 0, .int .i64 0, .int .i64 0, .slice none 0 0, .slice none 0 0, .int .i64 0] 35)) := ⟨OutBox.new w, (Below.refl _ _).alloc (Nat.le_refl _) _⟩
  have s0 : w.heap.size < (w.alloc (.cells #[.int .u8 1, .int .u8 26, .int .i64 0, .int .i64 0, .int .i64 0, .bool false, .int .u8 0, .int .i64 0, .int .i64 0, .int .i64 0, .slice none 0 0, .slice none 0 0, .int .i64 0] 35)).heap.size := by simp
  have RR := Lib.hid r0
  have SS := Lib.hid s0
  obtain ⟨z0, z1, z2, z3, z4, z5, z6, z7, z8, z9, z10, z11, z12⟩ := r0.box
  clear h1 h2 h3 h4 h5 h6 h7 h8 n20 n21 s0 r0
  go_enter Try.func11, Try.ntmps11
  go_wp2_with (first
    | (go_at_call 42; (with_reducible refine (H1.out _).mono ?_); rintro e w1 ⟨rfl, hb⟩; have RR := Lib.hid (RR.out.step SS.out hb); have SS := Lib.hid (Nat.lt_of_lt_of_le SS.out hb.size); clear hb; obtain ⟨z0, z1, z2, z3, z4, z5, z6, z7, z8, z9, z10, z11, z12⟩ := RR.out.box)
    | (go_at_call 42; (with_reducible refine (H2.out _).mono ?_); rintro e w1 ⟨rfl, hb⟩; have RR := Lib.hid (RR.out.step SS.out hb); have SS := Lib.hid (Nat.lt_of_lt_of_le SS.out hb.size); clear hb; obtain ⟨z0, z1, z2, z3, z4, z5, z6, z7, z8, z9, z10, z11, z12⟩ := RR.out.box)
    | (go_at_call 42; (with_reducible refine (H3.out _).mono ?_); rintro e w1 ⟨rfl, hb⟩; have RR := Lib.hid (RR.out.step SS.out hb); have SS := Lib.hid (Nat.lt_of_lt_of_le SS.out hb.size); clear hb; obtain ⟨z0, z1, z2, z3, z4, z5, z6, z7, z8, z9, z10, z11, z12⟩ := RR.out.box)
    | (go_at_call 42; (with_reducible refine (H4.out _).mono ?_); rintro e w1 ⟨rfl, hb⟩; have RR := Lib.hid (RR.out.step SS.out hb); have SS := Lib.hid (Nat.lt_of_lt_of_le SS.out hb.size); clear hb; obtain ⟨z0, z1, z2, z3, z4, z5, z6, z7, z8, z9, z10, z11, z12⟩ := RR.out.box)
    | (go_at_call 42; (with_reducible refine (H5.out _).mono ?_); rintro e w1 ⟨rfl, hb5⟩; have hb := ((Below.refl _ _).alloc (Nat.le_refl _) _).trans (hb5.mono (by simp)); have RR := Lib.hid (RR.out.step SS.out hb); have SS := Lib.hid (Nat.lt_of_lt_of_le SS.out hb.size); clear hb; obtain ⟨z0, z1, z2, z3, z4, z5, z6, z7, z8, z9, z10, z11, z12⟩ := RR.out.box)
    | (go_at_call 43; (with_reducible refine (N20.out _).mono ?_); rintro e w1 ⟨A20, rfl, hr, hb⟩; have HR20 := Lib.hid hr; have RR := Lib.hid (RR.out.step SS.out hb); have SS := Lib.hid (Nat.lt_of_lt_of_le SS.out hb.size); clear hb; clear hr)
    | (go_at_call 43; (with_reducible refine (N21.out _).mono ?_); rintro e w1 ⟨A21, rfl, hr, hb⟩; have HR21 := Lib.hid hr; have RR := Lib.hid (RR.out.step SS.out hb); have SS := Lib.hid (Nat.lt_of_lt_of_le SS.out hb.size); clear hb; clear hr)
    | (go_at_call 10; (with_reducible refine (H6.out _ _ HR20.out).mono ?_); rintro e w1 ⟨rfl, hb⟩; have RR := Lib.hid (RR.out.step SS.out hb); have SS := Lib.hid (Nat.lt_of_lt_of_le SS.out hb.size); clear hb; skip)
    | (go_at_call 10; (with_reducible refine (H7.out _ _ HR21.out).mono ?_); rintro e w1 ⟨rfl, hb⟩; have RR := Lib.hid (RR.out.step SS.out hb); have SS := Lib.hid (Nat.lt_of_lt_of_le SS.out hb.size); clear hb; skip)
    | (go_at_call 12; (with_reducible refine (H8.out _ _ HR21.out).mono ?_); rintro e w1 ⟨rfl, hb⟩; have RR := Lib.hid (RR.out.step SS.out hb); have SS := Lib.hid (Nat.lt_of_lt_of_le SS.out hb.size); clear hb; skip))
  go_ret
  exact ⟨rfl, RR.out.low⟩
end Go.Proofs.Ytebmgladdgmmeaa
