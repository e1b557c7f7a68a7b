/- May a model be, the program's: the walk. Lists of at most 5000 parts. -/
import Derived.Test.YtaiekpdoljleeaaMoKit
namespace Go.Proofs.Ytaiekpdoljleeaa
open Go.RowKit Go.WideShapes
set_option linter.unusedVariables false
set_option linter.unusedSimpArgs false
/-- A model as a value. -/
def mdV (h m ph pm : Int) (vt vc vp : Value) : Value := .agg #[.int .i64 h, .int .i64 m, .int .i64 ph, .int .i64 pm, vt, vc, vp]
/-- The number that is looked at in round k, and the most that it may be. -/
def numM (h m ph pm : Int) (nc np : Nat) (k : Nat) : Int := if k = 0 then h else if k = 1 then ph else if k = 2 then m else if k = 3 then pm else if k = 4 then nc else np
def limM (k : Nat) : Int := if k = 0 then 8 else if k = 1 then 8 else if k = 2 then 12 else if k = 3 then 12 else 4096
theorem okM_nums (d : Md) : okM d = true ↔ (∀ k, k < 6 → 0 ≤ numM d.h d.m d.ph d.pm d.code.length d.post.length k ∧ numM d.h d.m d.ph d.pm d.code.length d.post.length k ≤ limM k) ∧ (d.post.length = 0 → d.ph + d.pm ≤ 0) ∧ (d.ts.length : Int) ≤ pw d.h := by
  rw [okM_iff]
  constructor
  · rintro ⟨a, b, c, e, f, g, i, j, k, l, m, n⟩
    refine ⟨fun q hq => ?_, fun h0 => by have := m h0; omega, n⟩
    rcases (show q = 0 ∨ q = 1 ∨ q = 2 ∨ q = 3 ∨ q = 4 ∨ q = 5 from by omega) with rfl | rfl | rfl | rfl | rfl | rfl <;> simp [numM, limM] <;> omega
  · rintro ⟨h1, h2, h3⟩
    have e0 := h1 0 (by omega)
    have e1 := h1 1 (by omega)
    have e2 := h1 2 (by omega)
    have e3 := h1 3 (by omega)
    have e4 := h1 4 (by omega)
    have e5 := h1 5 (by omega)
    simp [numM, limM] at e0 e1 e2 e3 e4 e5
    exact ⟨e0.1, e0.2, e1.1, e1.2, e2.1, e2.2, e3.1, e3.2, by omega, by omega, fun h0 => by have := h2 h0; omega, h3⟩
theorem pw_le8 {h : Int} (h0 : 0 ≤ h) (h1 : h ≤ 8) : 1 ≤ pw h ∧ pw h ≤ 256 := by
  rcases (show h = 0 ∨ h = 1 ∨ h = 2 ∨ h = 3 ∨ h = 4 ∨ h = 5 ∨ h = 6 ∨ h = 7 ∨ h = 8 from by omega) with rfl | rfl | rfl | rfl | rfl | rfl | rfl | rfl | rfl <;> decide
theorem idx99 (h m ph pm : Int) (nc np k : Nat) (hk : k < 6) : ∀ W : World, (Instr.index 99 (.agg #[.int .i64 h, .int .i64 8, .int .i64 ph, .int .i64 8, .int .i64 m, .int .i64 12, .int .i64 pm, .int .i64 12, .int .i64 nc, .int .i64 4096, .int .i64 np, .int .i64 4096]) (.int .i64 (k : Int))).run Try.prog W = .ok (.agg #[.int .i64 (numM h m ph pm nc np k), .int .i64 (limM k)]) W := fun W => by
  rcases (show k = 0 ∨ k = 1 ∨ k = 2 ∨ k = 3 ∨ k = 4 ∨ k = 5 from by omega) with rfl | rfl | rfl | rfl | rfl | rfl <;> kernel_rfl
set_option maxRecDepth 100000 in
set_option maxHeartbeats 8000000 in
theorem right39 (d : Md) (A B D : Option Addr) (n c nc cc np cp : Nat) (w : World) (hn : n = d.ts.length) (hnc : nc = d.code.length) (hnp : np = d.post.length) (hok : ∀ t ∈ d.ts, t.ok) (hr : Rd w A (flat_pts d.ts)) (hl : n ≤ 5000) (lc : nc ≤ 1000000000) (lp : np ≤ 1000000000) :
    Calls Try.prog 39 #[mdV d.h d.m d.ph d.pm (.slice A n c) (.slice B nc cc) (.slice D np cp)] w (Quiet (.int .i64 (rightM d)) w) := by
  have hnum := okM_nums d
  rw [← hnc, ← hnp, ← hn] at hnum
  have hright : rightM d = if okM d then rightP d.ts else 131 := rfl
  have hpr := fun W (h : Below w.heap.size w W) => rightList d.ts A n c W hn hok (hr.below h rfl) hl
  obtain ⟨R, hR⟩ : ∃ R, rightP d.ts = R := ⟨_, rfl⟩
  rw [hR] at hright
  simp only [hR] at hpr
  obtain ⟨T, hT⟩ : ∃ T, rightM d = T := ⟨_, rfl⟩
  rw [hT] at hright ⊢
  obtain ⟨K, hK⟩ : ∃ K, okM d = K := ⟨_, rfl⟩
  rw [hK] at hright hnum
  clear hR hT hK hn hnc hnp hok hr
  obtain ⟨h, m, ph, pm, ts, code, post⟩ := d
  simp only at *
  clear ts code post
  have HNUM := Lib.hid hnum
  have HRT := Lib.hid hright
  have HPR := Lib.hid hpr
  clear hnum hright hpr
  unfold mdV
  go_enter Try.func39, Try.ntmps39
  go_wp2_with fail
  go_loopw [26] (fun i wr => ∃ k : Nat, k ≤ 6 ∧ i = .int .i64 k ∧ (∀ q, q < k → 0 ≤ numM h m ph pm nc np q ∧ numM h m ph pm nc np q ≤ limM q) ∧ Below w.heap.size w wr ∧ Blk wr w.heap.size 58 #[.int .i64 h, .int .i64 m, .int .i64 ph, .int .i64 pm, .slice A n c, .slice B nc cc, .slice D np cp]) (fun i _ => 6 - (intOf i).toNat)
  case atStart => exact ⟨0, by omega, rfl, fun q h => by omega, (Below.refl _ _).alloc (Nat.le_refl _) _, Blk.new _ _ _⟩
  case round =>
    obtain ⟨k, hk, rfl, hall, hb, hbx⟩ := hrel
    have HA := Lib.hid hall
    have HB := Lib.hid hb
    have HX := Lib.hid hbx
    clear hall hb hbx
    by_cases hlt : k < 6
    · have hstep : 0 ≤ numM h m ph pm nc np k → numM h m ph pm nc np k ≤ limM k → ∀ q, q < k + 1 → 0 ≤ numM h m ph pm nc np q ∧ numM h m ph pm nc np q ≤ limM q := fun h1 h2 q hq => by
        rcases (show q < k ∨ q = k from by omega) with hh | rfl
        · exact HA.out q hh
        · exact ⟨h1, h2⟩
      have hbad : (numM h m ph pm nc np k < 0 ∨ limM k < numM h m ph pm nc np k) → T = 131 := fun hh => by
        rw [HRT.out, if_neg]
        intro hK
        have := (HNUM.out.1 hK).1 k hlt
        omega
      have HS := Lib.hid hstep
      have HBAD := Lib.hid hbad
      clear hstep hbad
      have hidx := idx99 h m ph pm nc np k hlt
      obtain ⟨v, hv⟩ : ∃ v, numM h m ph pm nc np k = v := ⟨_, rfl⟩
      obtain ⟨l, hl⟩ : ∃ l, limM k = l := ⟨_, rfl⟩
      simp only [hv, hl] at hidx
      rw [hv, hl] at HS HBAD
      clear hv hl
      rcases (show v < 0 ∨ (0 ≤ v ∧ l < v) ∨ (0 ≤ v ∧ v ≤ l) from by omega) with g | ⟨g, g2⟩ | ⟨g, g2⟩
      · have q1 : decide (v < 0) = true := by simpa using g
        go_wp2_with fail
        go_ret
        exact ⟨ret_i64 (HBAD.out (.inl g)).symm, HB.out.alloc HB.out.size _⟩
      · have q1 : decide (v < 0) = false := by simp; omega
        have q2 : decide (l < v) = true := by simpa using g2
        go_wp2_with fail
        go_ret
        exact ⟨ret_i64 (HBAD.out (.inr g2)).symm, HB.out.alloc HB.out.size _⟩
      · have q1 : decide (v < 0) = false := by simp; omega
        have q2 : decide (l < v) = false := by simp; omega
        go_wp2_with fail
        go_roundw
        case rel => exact ⟨k + 1, by omega, by go_num, HS.out g g2, HB.out.alloc HB.out.size _, HX.out.alloc _⟩
        case measure => simp [intOf]; omega
    · obtain rfl : k = 6 := by omega
      have e0 := HA.out 0 (by omega)
      have e1 := HA.out 1 (by omega)
      have e3 := HA.out 3 (by omega)
      simp [numM, limM] at e0 e1 e3
      have hpw := pw_le8 e0.1 e0.2
      have hT : T = if (np = 0 → ph + pm ≤ 0) ∧ (n : Int) ≤ pw h then R else 131 := by
        have h1 := HNUM.out
        rw [HRT.out]
        by_cases hq : (np = 0 → ph + pm ≤ 0) ∧ (n : Int) ≤ pw h
        · rw [if_pos hq, if_pos (h1.2 ⟨fun q hq => HA.out q hq, hq.1, hq.2⟩)]
        · rw [if_neg hq, if_neg (fun hK => hq (h1.1 hK).2)]
      have c0 := HX.out.cell 0
      have c2 := HX.out.cell 2
      have c3 := HX.out.cell 3
      have c4 := HX.out.cell 4
      have c6 := HX.out.cell 6
      simp at c0 c2 c3 c4 c6
      obtain ⟨h', rfl⟩ : ∃ h' : Nat, h = h' := ⟨h.toNat, by omega⟩
      have epw : pw (h' : Int) = (2 : Int) ^ h' := by simp [pw]
      rw [epw] at hpw hT
      clear epw
      have hwr : wrap64 ((2 : Int) ^ h') = (2 : Int) ^ h' := by unfold wrap64; omega
      have hsum : wrap64 (ph + pm) = ph + pm := by unfold wrap64; omega
      obtain ⟨P, hP⟩ : ∃ P, (2 : Int) ^ h' = P := ⟨_, rfl⟩
      rw [hP] at hpw hT hwr
      have hlr := fun W (hW : Below wr.heap.size wr W) => HPR.out W (ch0 HB.out hW)
      have HL := Lib.hid hlr
      have HT := Lib.hid hT
      clear hlr hT
      by_cases hp0 : np = 0
      · subst hp0
        by_cases hs : 0 < ph + pm
        · have q1 : decide (0 < ph + pm) = true := by simpa using hs
          have HE : Hid (T = 131) := Lib.hid (by rw [HT.out, if_neg (by intro hh; have := hh.1 rfl; omega)])
          go_wp2_with fail
          go_quiet (fail)
          go_wp2
          go_ret
          exact ⟨ret_i64 HE.out.symm, below_drewN HB.out _⟩
        · have q1 : decide (0 < ph + pm) = false := by simp; omega
          by_cases hbig : P < (n : Int)
          · have q3 : decide (P < (n : Int)) = true := by simpa using hbig
            have HE : Hid (T = 131) := Lib.hid (by rw [HT.out, if_neg (by intro hh; have := hh.2; omega)])
            go_wp2_with fail
            go_quiet (fail)
            go_wp2
            go_ret
            exact ⟨ret_i64 HE.out.symm, below_drewN HB.out _⟩
          · have q3 : decide (P < (n : Int)) = false := by simp; omega
            have HE : Hid (T = R) := Lib.hid (by rw [HT.out, if_pos ⟨fun _ => by omega, by omega⟩])
            go_wp2_with fail
            go_quiet (fail)
            go_wp2_with fail
            refine (HL.out _ (below_drewN (Below.refl _ _) _)).mono ?_
            rintro e w2 ⟨rfl, hb2⟩
            go_wp2_with fail
            go_ret
            exact ⟨ret_i64 HE.out.symm, ch0 (below_drewN HB.out _) hb2⟩
      · have q0 : ((np : Int) == 0) = false := by simp; omega
        by_cases hbig : P < (n : Int)
        · have q3 : decide (P < (n : Int)) = true := by simpa using hbig
          have HE : Hid (T = 131) := Lib.hid (by rw [HT.out, if_neg (by intro hh; have := hh.2; omega)])
          go_wp2_with fail
          go_quiet (fail)
          go_wp2
          go_ret
          exact ⟨ret_i64 HE.out.symm, below_drewN HB.out _⟩
        · have q3 : decide (P < (n : Int)) = false := by simp; omega
          have HE : Hid (T = R) := Lib.hid (by rw [HT.out, if_pos ⟨fun h0 => absurd h0 hp0, by omega⟩])
          go_wp2_with fail
          go_quiet (fail)
          go_wp2_with fail
          refine (HL.out _ (below_drewN (Below.refl _ _) _)).mono ?_
          rintro e w2 ⟨rfl, hb2⟩
          go_wp2_with fail
          go_ret
          exact ⟨ret_i64 HE.out.symm, ch0 (below_drewN HB.out _) hb2⟩
end Go.Proofs.Ytaiekpdoljleeaa
