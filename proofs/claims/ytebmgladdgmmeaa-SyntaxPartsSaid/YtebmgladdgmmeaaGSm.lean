/- SameStmts of two lists that read the same: the walk. Condition: at most a hundred thousand statements. -/
import Derived.Test.YtebmgladdgmmeaaGRi
namespace Go.Proofs.Ytebmgladdgmmeaa
open Go.RowKit Go.WideShapes
set_option linter.unusedVariables false
set_option linter.unusedSimpArgs false
/-- Where the loop stands. -/
structure AtM (B g o g' o' : Nat) (f : Fo) (w0 : World) (i : Value) (w : World) : Prop where
  ex : ∃ (k : Nat) (r : Fo), k + r.len = f.len ∧ i = .int .i64 k ∧ RdF B w r g (o + k * 13) ∧ RdF B w r g' (o' + k * 13) ∧ r.tot ≤ f.tot
  low : Below w0.heap.size w0 w
def SmN (N : Nat) : Prop := ∀ (f : Fo), f.tot ≤ N → ∀ (B c c' : Nat) (A A' : Option Addr) (w : World), RdS B w A f → RdS B w A' f → B ≤ w.heap.size → f.len ≤ c → f.len ≤ c' → f.tot ≤ 100000 → Calls Try.prog 19 #[.slice A f.len c, .slice A' f.len c', .bool true] w (Quiet (.bool true) w)
theorem hd_of {B : Nat} {w : World} {A : Option Addr} {f : Fo} (hr : RdS B w A f) : ∃ g o, (0 < f.len → A = some ⟨g, o, none⟩) ∧ RdF B w f g o := by
  rcases Nat.eq_zero_or_pos f.len with h0 | h0
  · obtain rfl := Fo.nil_of h0
    exact ⟨0, 0, fun h => absurd h (by simp [Fo.len]), trivial⟩
  · obtain ⟨g, o, e, h⟩ := hr h0
    exact ⟨g, o, fun _ => e, h⟩
set_option maxRecDepth 100000 in
set_option maxHeartbeats 8000000 in
theorem sameN : ∀ N, SmN N := by
  intro N
  induction N with
  | zero =>
    intro f hf B c c' A A' w hr hr' hB hc hc' ht
    have hfl := f.len_tot
    obtain rfl : f = .nil := Fo.nil_of (by omega)
    clear hr hr'
    go_enter Try.func19, Try.ntmps19
    go_wp2_with fail
    go_loopw [7] (fun i wr => wr = w ∧ i = .int .i64 0) (fun _ _ => 0)
    case atStart => exact ⟨rfl, rfl⟩
    case round =>
      obtain ⟨rfl, rfl⟩ := hrel
      go_wp2_with fail
      go_ret
      exact ⟨rfl, Below.refl _ _⟩
  | succ N ih =>
    have IH := Lib.hid ih
    clear ih
    intro f hf B c c' A A' w hr hr' hB hc hc' ht
    obtain ⟨g, o, hA, hrd⟩ := hd_of hr
    obtain ⟨g', o', hA', hrd'⟩ := hd_of hr'
    have hfl := f.len_tot
    have hst : AtM B g o g' o' f w (.int .i64 0) w := ⟨⟨0, f, by omega, rfl, by simpa using hrd, by simpa using hrd', Nat.le_refl _⟩, Below.refl _ _⟩
    have HST := Lib.hid hst
    have HA := Lib.hid hA
    have HA' := Lib.hid hA'
    clear hst hrd hr hA hrd' hr' hA'
    obtain ⟨len, hlen⟩ : ∃ len, f.len = len := ⟨_, rfl⟩
    rw [hlen] at hc hc' hfl ⊢
    have HLN := Lib.hid hlen
    clear hlen
    have g0 : (len != len) = false := by simp
    have g0i : (((len : Nat) : Int) != len) = false := by simp
    go_enter Try.func19, Try.ntmps19
    go_wp2_with fail
    go_loopw [7] (fun i wr => AtM B g o g' o' f w i wr) (fun i _ => len - (intOf i).toNat)
    case atStart => exact HST.out
    case round =>
      obtain ⟨⟨k, r, hlen2, rfl, hrd, hrd', htot⟩, hlow⟩ := hrel
      have hlw := hlow.size
      rw [HLN.out] at hlen2
      rcases r with _ | ⟨h, b, e, r⟩
      · have hkl : k = len := by simpa [Fo.len] using hlen2
        subst hkl
        have g3 : decide (k < k) = false := by simp
        have HLW := Lib.hid hlow
        clear hrd hrd' hlen2 HST hlow
        go_wp2_with fail
        go_ret
        exact ⟨rfl, HLW.out⟩
      · obtain ⟨hdok, hg, ⟨Ab, cb, Ae, ce, hcl, hbl, hel, hb, he⟩, hrest⟩ := hrd
        obtain ⟨_, hg', ⟨Ab', cb', Ae', ce', hcl', hbl', hel', hb', he'⟩, hrest'⟩ := hrd'
        simp only [Fo.len] at hlen2
        simp only [Fo.tot] at htot
        have hkl : k < len := by omega
        have hkI : (k : Int) < (len : Int) := by omega
        have hk0 : (0 : Int) ≤ (k : Int) := by omega
        have g3 : decide (k < len) = true := by simpa using hkl
        obtain ⟨c0, c1, c2, c3, c4, c5, c6, c7, c8, c9, c10, c11, c12⟩ := Cells.of hcl
        obtain ⟨d0, d1, d2, d3, d4, d5, d6, d7, d8, d9, d10, d11, d12⟩ := Cells.of hcl'
        have hA := HA.out (by rw [HLN.out]; omega)
        have hA' := HA'.out (by rw [HLN.out]; omega)
        subst hA
        subst hA'
        have hgl : g < wr.heap.size := by omega
        have hgl' : g' < wr.heap.size := by omega
        have hgn : g ≠ wr.heap.size := by omega
        have hgn' : g' ≠ wr.heap.size := by omega
        have hgm : g ≠ wr.heap.size + 1 := by omega
        have hgm' : g' ≠ wr.heap.size + 1 := by omega
        have hbt := b.len_tot
        have het := e.len_tot
        have hbr : ∀ W, Below wr.heap.size wr W → Calls Try.prog 19 #[.slice Ab b.len cb, .slice Ab' b.len cb', .bool true] W (Quiet (.bool true) W) := fun W hW =>
          IH.out b (by omega) B cb cb' Ab Ab' W ((show RdS B wr Ab b from hb).below (hW.mono (by omega))) ((show RdS B wr Ab' b from hb').below (hW.mono (by omega))) (by have := hW.size; omega) hbl.1 hbl'.1 (by omega)
        have her : ∀ W, Below wr.heap.size wr W → Calls Try.prog 19 #[.slice Ae e.len ce, .slice Ae' e.len ce', .bool true] W (Quiet (.bool true) W) := fun W hW =>
          IH.out e (by omega) B ce ce' Ae Ae' W ((show RdS B wr Ae e from he).below (hW.mono (by omega))) ((show RdS B wr Ae' e from he').below (hW.mono (by omega))) (by have := hW.size; omega) hel.1 hel'.1 (by omega)
        have hnext : ∀ W, Below wr.heap.size wr W → AtM B g o g' o' f w (.int .i64 ((k : Int) + 1)) W := fun W hW =>
          ⟨⟨k + 1, r, by rw [HLN.out]; omega, by go_num, by
            have := hrest.below (hW.mono (show B ≤ wr.heap.size by omega))
            rwa [show o + k * 13 + 13 = o + (k + 1) * 13 by omega] at this, by
            have := hrest'.below (hW.mono (show B ≤ wr.heap.size by omega))
            rwa [show o' + k * 13 + 13 = o' + (k + 1) * 13 by omega] at this, by omega⟩, hlow.trans (hW.mono (by omega))⟩
        have HBR := Lib.hid hbr
        have HER := Lib.hid her
        have HNX := Lib.hid hnext
        obtain ⟨kd, ⟨io, id_, is_, in_⟩, nt, ⟨co, cd, cs, cn⟩, ln⟩ := h
        simp only at *
        have e1 : (kd != kd) = false := by simp
        have e2 : (ln != ln) = false := by simp
        have eqc := fun W => eqCond nt co cd cs cn nt co cd cs cn W
        have eqi := fun W => eqIn io id_ is_ in_ io id_ is_ in_ W
        rw [condEq_same] at eqc
        rw [inEq_same] at eqi
        clear hnext hbr her hlow hrest hb he hcl hrest' hb' he' hcl' HST hdok
        go_wp2_with fail
        go_region
        all_goals
          go_wp2_with (first
            | (go_at_call 19; (with_reducible refine (HBR.out _ ((((Below.refl _ _).alloc (Nat.le_refl _) _).alloc (by simp) _).drew)).mono ?_); rintro e1 w1 ⟨rfl, hb1⟩; have y1 := (bcell hb1).1 wr.heap.size 11 (by simp; omega); have y2 := (bcell hb1).1 (wr.heap.size + 1) 11 (by simp); simp at y1 y2; have K1 := Lib.hid ((((Below.refl wr.heap.size wr).alloc (Nat.le_refl _) _).alloc (by simp) _).drew.trans (hb1.mono (by simp; omega))); clear hb1)
            | (go_at_call 19; (with_reducible refine (HER.out _ K1.out).mono ?_); rintro e2 w2 ⟨rfl, hb2⟩; have K2 := Lib.hid (K1.out.trans (hb2.mono K1.out.size)); clear hb2))
        all_goals
          refine ⟨HNX.out _ K2.out, ?_⟩
          simp [intOf]
          omega
/-- SameStmts. -/
theorem same_any {f : Fo} {B c c' : Nat} {A A' : Option Addr} {w : World} (hr : RdS B w A f) (hr' : RdS B w A' f) (hB : B ≤ w.heap.size) (hc : f.len ≤ c) (hc' : f.len ≤ c') (ht : f.tot ≤ 100000) : Calls Try.prog 19 #[.slice A f.len c, .slice A' f.len c', .bool true] w (Quiet (.bool true) w) :=
  sameN f.tot f (Nat.le_refl _) B c c' A A' w hr hr' hB hc hc' ht
end Go.Proofs.Ytebmgladdgmmeaa
