/- May a model be, the reference's: the walk; which fields a kind has; a number in two bytes. Lists of at most 5000 parts. -/
import Derived.Test.YtaiekpdoljleeaaMoRi
namespace Go.Proofs.Ytaiekpdoljleeaa
open Go.RowKit Go.WideShapes
set_option linter.unusedVariables false
set_option linter.unusedSimpArgs false
def inR (n a b : Int) : Bool := decide (a ≤ n) && decide (n ≤ b)
theorem within61 (n a b : Int) (w : World) : Calls Try.prog 61 #[.int .i64 n, .int .i64 a, .int .i64 b] w (Same (.bool (inR n a b)) w) := by
  by_cases h1 : a ≤ n
  · have e1 : decide (a ≤ n) = true := by simpa using h1
    go_enter Try.func61, Try.ntmps61
    go_wp2
    go_ret
    exact ⟨ret_bool (by unfold inR; simp [h1]), rfl⟩
  · have e1 : decide (a ≤ n) = false := by simpa using h1
    go_enter Try.func61, Try.ntmps61
    go_wp2
    go_ret
    exact ⟨ret_bool (by unfold inR; rw [e1]; rfl), rfl⟩
theorem okM_ref (d : Md) : okM d = true ↔ inR d.h 0 8 = true ∧ inR d.ph 0 8 = true ∧ inR d.m 0 12 = true ∧ inR d.pm 0 12 = true ∧ d.code.length ≤ 4096 ∧ d.post.length ≤ 4096 ∧ (d.post.length = 0 → d.ph = 0 ∧ d.pm = 0) ∧ (d.ts.length : Int) ≤ pw d.h := by
  rw [okM_iff]
  simp only [inR, Bool.and_eq_true, decide_eq_true_eq]
  constructor
  · rintro ⟨a, b, c, x, e, f, g, h, i, j, k, l⟩
    exact ⟨⟨a, b⟩, ⟨c, x⟩, ⟨e, f⟩, ⟨g, h⟩, i, j, k, l⟩
  · rintro ⟨⟨a, b⟩, ⟨c, x⟩, ⟨e, f⟩, ⟨g, h⟩, i, j, k, l⟩
    exact ⟨a, b, c, x, e, f, g, h, i, j, k, l⟩
set_option maxRecDepth 100000 in
set_option maxHeartbeats 8000000 in
theorem right40 (d : Md) (A B D : Option Addr) (n c nc cc np cp : Nat) (w : World) (hn : n = d.ts.length) (hnc : nc = d.code.length) (hnp : np = d.post.length) (hr : Rd w A (flat_pts d.ts)) (hl : n ≤ 5000) (lc : nc ≤ 1000000000) (lp : np ≤ 1000000000) :
    Calls Try.prog 40 #[mdV d.h d.m d.ph d.pm (.slice A n c) (.slice B nc cc) (.slice D np cp)] w (Quiet (.int .i64 (rightM d)) w) := by
  have hnum := okM_ref d
  rw [← hnc, ← hnp, ← hn] at hnum
  have hright : rightM d = if okM d then rightP d.ts else 131 := rfl
  have hpr := fun W (h : Below w.heap.size w W) => rightListR d.ts A n c W hn (hr.below h rfl) hl
  obtain ⟨R, hR⟩ : ∃ R, rightP d.ts = R := ⟨_, rfl⟩
  rw [hR] at hright
  simp only [hR] at hpr
  obtain ⟨T, hT⟩ : ∃ T, rightM d = T := ⟨_, rfl⟩
  rw [hT] at hright ⊢
  obtain ⟨K, hK⟩ : ∃ K, okM d = K := ⟨_, rfl⟩
  rw [hK] at hright hnum
  clear hR hT hK hn hnc hnp hr
  obtain ⟨h, m, ph, pm, ts, code, post⟩ := d
  simp only at *
  clear ts code post
  have w1 := fun W => within61 h 0 8 W
  have w2 := fun W => within61 ph 0 8 W
  have w3 := fun W => within61 m 0 12 W
  have w4 := fun W => within61 pm 0 12 W
  obtain ⟨b1, hb1⟩ : ∃ b, inR h 0 8 = b := ⟨_, rfl⟩
  obtain ⟨b2, hb2⟩ : ∃ b, inR ph 0 8 = b := ⟨_, rfl⟩
  obtain ⟨b3, hb3⟩ : ∃ b, inR m 0 12 = b := ⟨_, rfl⟩
  obtain ⟨b4, hb4⟩ : ∃ b, inR pm 0 12 = b := ⟨_, rfl⟩
  simp only [hb1] at w1
  simp only [hb2] at w2
  simp only [hb3] at w3
  simp only [hb4] at w4
  rw [hb1, hb2, hb3, hb4] at hnum
  have HH := Lib.hid hb1
  have W1 := Lib.hid w1
  have W2 := Lib.hid w2
  have W3 := Lib.hid w3
  have W4 := Lib.hid w4
  have HNUM := Lib.hid hnum
  have HRT := Lib.hid hright
  have HPR := Lib.hid hpr
  have HBX := Lib.hid (Blk.new w 58 #[.int .i64 h, .int .i64 m, .int .i64 ph, .int .i64 pm, .slice A n c, .slice B nc cc, .slice D np cp])
  have hbad : K = false → T = 131 := fun hh => by rw [HRT.out, hh]; rfl
  have HBAD := Lib.hid hbad
  clear hnum hright hpr w1 w2 w3 w4 hb1 hb2 hb3 hb4 hbad
  unfold mdV
  cases b1
  · have HE : Hid (T = 131) := Lib.hid (HBAD.out (Bool.eq_false_iff.2 fun hK => by have h1 := HNUM.out.1 hK; exact absurd h1.1 (by decide)))
    go_enter Try.func40, Try.ntmps40
    go_wp2_with (first
        | (go_at_call 61; ((with_reducible refine (W1.out _).mono ?_)); rintro e w' ⟨rfl, rfl⟩)
        | (go_at_call 61; ((with_reducible refine (W2.out _).mono ?_)); rintro e w' ⟨rfl, rfl⟩)
        | (go_at_call 61; ((with_reducible refine (W3.out _).mono ?_)); rintro e w' ⟨rfl, rfl⟩)
        | (go_at_call 61; ((with_reducible refine (W4.out _).mono ?_)); rintro e w' ⟨rfl, rfl⟩))
    go_ret
    exact ⟨ret_i64 HE.out.symm, (Below.refl _ _).alloc (Nat.le_refl _) _⟩
  · skip
    cases b2
    · have HE : Hid (T = 131) := Lib.hid (HBAD.out (Bool.eq_false_iff.2 fun hK => by have h1 := HNUM.out.1 hK; exact absurd h1.2.1 (by decide)))
      go_enter Try.func40, Try.ntmps40
      go_wp2_with (first
          | (go_at_call 61; ((with_reducible refine (W1.out _).mono ?_)); rintro e w' ⟨rfl, rfl⟩)
          | (go_at_call 61; ((with_reducible refine (W2.out _).mono ?_)); rintro e w' ⟨rfl, rfl⟩)
          | (go_at_call 61; ((with_reducible refine (W3.out _).mono ?_)); rintro e w' ⟨rfl, rfl⟩)
          | (go_at_call 61; ((with_reducible refine (W4.out _).mono ?_)); rintro e w' ⟨rfl, rfl⟩))
      go_ret
      exact ⟨ret_i64 HE.out.symm, (Below.refl _ _).alloc (Nat.le_refl _) _⟩
    · skip
      cases b3
      · have HE : Hid (T = 131) := Lib.hid (HBAD.out (Bool.eq_false_iff.2 fun hK => by have h1 := HNUM.out.1 hK; exact absurd h1.2.2.1 (by decide)))
        go_enter Try.func40, Try.ntmps40
        go_wp2_with (first
            | (go_at_call 61; ((with_reducible refine (W1.out _).mono ?_)); rintro e w' ⟨rfl, rfl⟩)
            | (go_at_call 61; ((with_reducible refine (W2.out _).mono ?_)); rintro e w' ⟨rfl, rfl⟩)
            | (go_at_call 61; ((with_reducible refine (W3.out _).mono ?_)); rintro e w' ⟨rfl, rfl⟩)
            | (go_at_call 61; ((with_reducible refine (W4.out _).mono ?_)); rintro e w' ⟨rfl, rfl⟩))
        go_ret
        exact ⟨ret_i64 HE.out.symm, (Below.refl _ _).alloc (Nat.le_refl _) _⟩
      · skip
        cases b4
        · have HE : Hid (T = 131) := Lib.hid (HBAD.out (Bool.eq_false_iff.2 fun hK => by have h1 := HNUM.out.1 hK; exact absurd h1.2.2.2.1 (by decide)))
          go_enter Try.func40, Try.ntmps40
          go_wp2_with (first
              | (go_at_call 61; ((with_reducible refine (W1.out _).mono ?_)); rintro e w' ⟨rfl, rfl⟩)
              | (go_at_call 61; ((with_reducible refine (W2.out _).mono ?_)); rintro e w' ⟨rfl, rfl⟩)
              | (go_at_call 61; ((with_reducible refine (W3.out _).mono ?_)); rintro e w' ⟨rfl, rfl⟩)
              | (go_at_call 61; ((with_reducible refine (W4.out _).mono ?_)); rintro e w' ⟨rfl, rfl⟩))
          go_ret
          exact ⟨ret_i64 HE.out.symm, (Below.refl _ _).alloc (Nat.le_refl _) _⟩
        · skip
          by_cases g5 : 4096 < nc
          · have qg5 : decide ((4096 : Int) < (nc : Int)) = true := by simp; omega
            have HE : Hid (T = 131) := Lib.hid (HBAD.out (Bool.eq_false_iff.2 fun hK => by have h1 := HNUM.out.1 hK; omega))
            go_enter Try.func40, Try.ntmps40
            go_wp2_with (first
                | (go_at_call 61; ((with_reducible refine (W1.out _).mono ?_)); rintro e w' ⟨rfl, rfl⟩)
                | (go_at_call 61; ((with_reducible refine (W2.out _).mono ?_)); rintro e w' ⟨rfl, rfl⟩)
                | (go_at_call 61; ((with_reducible refine (W3.out _).mono ?_)); rintro e w' ⟨rfl, rfl⟩)
                | (go_at_call 61; ((with_reducible refine (W4.out _).mono ?_)); rintro e w' ⟨rfl, rfl⟩))
            go_ret
            exact ⟨ret_i64 HE.out.symm, (Below.refl _ _).alloc (Nat.le_refl _) _⟩
          · have qg5 : decide ((4096 : Int) < (nc : Int)) = false := by simp; omega
            by_cases g6 : 4096 < np
            · have qg6 : decide ((4096 : Int) < (np : Int)) = true := by simp; omega
              have HE : Hid (T = 131) := Lib.hid (HBAD.out (Bool.eq_false_iff.2 fun hK => by have h1 := HNUM.out.1 hK; omega))
              go_enter Try.func40, Try.ntmps40
              go_wp2_with (first
                  | (go_at_call 61; ((with_reducible refine (W1.out _).mono ?_)); rintro e w' ⟨rfl, rfl⟩)
                  | (go_at_call 61; ((with_reducible refine (W2.out _).mono ?_)); rintro e w' ⟨rfl, rfl⟩)
                  | (go_at_call 61; ((with_reducible refine (W3.out _).mono ?_)); rintro e w' ⟨rfl, rfl⟩)
                  | (go_at_call 61; ((with_reducible refine (W4.out _).mono ?_)); rintro e w' ⟨rfl, rfl⟩))
              go_ret
              exact ⟨ret_i64 HE.out.symm, (Below.refl _ _).alloc (Nat.le_refl _) _⟩
            · have qg6 : decide ((4096 : Int) < (np : Int)) = false := by simp; omega
              have hh := HH.out
              unfold inR at hh
              simp only [Bool.and_eq_true, decide_eq_true_eq] at hh
              by_cases g7 : np = 0 ∧ (ph ≠ 0 ∨ pm ≠ 0)
              · obtain ⟨rfl, g⟩ := g7
                have HE : Hid (T = 131) := Lib.hid (HBAD.out (Bool.eq_false_iff.2 fun hK => by have h1 := HNUM.out.1 hK; have := h1.2.2.2.2.2.2.1 rfl; omega))
                rcases (show ph ≠ 0 ∨ (ph = 0 ∧ pm ≠ 0) from by omega) with g | ⟨rfl, g⟩
                · have q1 : (ph != 0) = true := by simpa using g
                  go_enter Try.func40, Try.ntmps40
                  go_wp2_with (first
                    | (go_at_call 61; ((with_reducible refine (W1.out _).mono ?_)); rintro e w' ⟨rfl, rfl⟩)
                    | (go_at_call 61; ((with_reducible refine (W2.out _).mono ?_)); rintro e w' ⟨rfl, rfl⟩)
                    | (go_at_call 61; ((with_reducible refine (W3.out _).mono ?_)); rintro e w' ⟨rfl, rfl⟩)
                    | (go_at_call 61; ((with_reducible refine (W4.out _).mono ?_)); rintro e w' ⟨rfl, rfl⟩))
                  go_ret
                  exact ⟨ret_i64 HE.out.symm, (Below.refl _ _).alloc (Nat.le_refl _) _⟩
                · have q1 : (pm != 0) = true := by simpa using g
                  go_enter Try.func40, Try.ntmps40
                  go_wp2_with (first
                    | (go_at_call 61; ((with_reducible refine (W1.out _).mono ?_)); rintro e w' ⟨rfl, rfl⟩)
                    | (go_at_call 61; ((with_reducible refine (W2.out _).mono ?_)); rintro e w' ⟨rfl, rfl⟩)
                    | (go_at_call 61; ((with_reducible refine (W3.out _).mono ?_)); rintro e w' ⟨rfl, rfl⟩)
                    | (go_at_call 61; ((with_reducible refine (W4.out _).mono ?_)); rintro e w' ⟨rfl, rfl⟩))
                  go_ret
                  exact ⟨ret_i64 HE.out.symm, (Below.refl _ _).alloc (Nat.le_refl _) _⟩
              · have HOK : Hid ((n : Int) ≤ pw h → K = true) := Lib.hid fun hn => HNUM.out.2 ⟨rfl, rfl, rfl, rfl, by omega, by omega, fun h0 => by omega, hn⟩
                have hq : ∃ z : Bool, ((np : Int) == 0) = z ∧ (z = true → ph = 0 ∧ pm = 0) := ⟨_, rfl, fun hz => by simp at hz; omega⟩
                have hpw := pw_le8 hh.1 hh.2
                obtain ⟨z, hz1, hz2⟩ := hq
                have HZ := Lib.hid hz1
                obtain ⟨h', rfl⟩ : ∃ h' : Nat, h = h' := ⟨h.toNat, by omega⟩
                have epw : pw (h' : Int) = (2 : Int) ^ h' := by simp [pw]
                rw [epw] at hpw HOK HNUM
                clear epw
                have hrest : ∀ W : World, Below w.heap.size w W → Calls Try.prog 13 #[.slice A n c] W (Quiet (.int .i64 R) W) := HPR.out
                have HREST := Lib.hid hrest
                have HPW := Lib.hid hpw
                clear hrest hpw
                have hph : z = true → (ph != 0) = false ∧ (pm != 0) = false := fun e => by have := hz2 e; simp; omega
                clear hz2
                cases z
                · clear hph
                  go_enter Try.func40, Try.ntmps40
                  go_wp2_with (first
                    | (go_at_call 61; ((with_reducible refine (W1.out _).mono ?_)); rintro e w' ⟨rfl, rfl⟩)
                    | (go_at_call 61; ((with_reducible refine (W2.out _).mono ?_)); rintro e w' ⟨rfl, rfl⟩)
                    | (go_at_call 61; ((with_reducible refine (W3.out _).mono ?_)); rintro e w' ⟨rfl, rfl⟩)
                    | (go_at_call 61; ((with_reducible refine (W4.out _).mono ?_)); rintro e w' ⟨rfl, rfl⟩))
                  go_loopw [3, 4] (fun p i wr => ∃ k : Nat, k ≤ h' ∧ i = .int .i64 k ∧ p = .int .i64 ((2 : Int) ^ k) ∧ Below w.heap.size w wr ∧ Blk wr w.heap.size 58 #[.int .i64 (h' : Int), .int .i64 m, .int .i64 ph, .int .i64 pm, .slice A n c, .slice B nc cc, .slice D np cp]) (fun _ i _ => h' - (intOf i).toNat)
                  case atStart => exact ⟨0, by omega, rfl, rfl, (Below.refl _ _).alloc (Nat.le_refl _) _, HBX.out⟩
                  case round =>
                    obtain ⟨k, hk, rfl, rfl, hb, hbx⟩ := hrel
                    have HB := Lib.hid hb
                    have HX := Lib.hid hbx
                    have c0 := hbx.cell 0
                    have c4 := hbx.cell 4
                    simp at c0 c4
                    clear hb hbx
                    by_cases hlt : k < h'
                    · have hp2 : (2 : Int) ^ (k + 1) = 2 ^ k * 2 := by rw [Int.pow_succ]
                      have hpb := pw_bd k (by omega)
                      have HP2 := Lib.hid hp2
                      clear hp2
                      obtain ⟨P, hP⟩ : ∃ P, (2 : Int) ^ k = P := ⟨_, rfl⟩
                      rw [hP] at hpb HP2 ⊢
                      clear hP
                      go_wp2_with fail
                      go_roundw
                      case rel => exact ⟨k + 1, by omega, by go_num, by rw [HP2.out], HB.out, HX.out⟩
                      case measure => simp [intOf]; omega
                    · obtain rfl : k = h' := by omega
                      have hpw := HPW.out
                      obtain ⟨P, hP⟩ : ∃ P, (2 : Int) ^ k = P := ⟨_, rfl⟩
                      rw [hP] at hpw HOK HNUM ⊢
                      by_cases hbig : P < (n : Int)
                      · have q3 : decide (P < (n : Int)) = true := by simpa using hbig
                        have HE : Hid (T = 131) := Lib.hid (HBAD.out (Bool.eq_false_iff.2 fun hK => by have h1 := HNUM.out.1 hK; omega))
                        go_wp2_with fail
                        go_ret
                        exact ⟨ret_i64 HE.out.symm, HB.out⟩
                      · have q3 : decide (P < (n : Int)) = false := by simp; omega
                        have HE : Hid (T = R) := Lib.hid (by rw [HRT.out, HOK.out (by omega)]; rfl)
                        go_wp2_with fail
                        refine (HREST.out _ HB.out).mono ?_
                        rintro e w2 ⟨rfl, hb2⟩
                        go_wp2_with fail
                        go_ret
                        exact ⟨ret_i64 HE.out.symm, ch0 HB.out hb2⟩
                · obtain ⟨p1, p2⟩ := hph rfl
                  go_enter Try.func40, Try.ntmps40
                  go_wp2_with (first
                    | (go_at_call 61; ((with_reducible refine (W1.out _).mono ?_)); rintro e w' ⟨rfl, rfl⟩)
                    | (go_at_call 61; ((with_reducible refine (W2.out _).mono ?_)); rintro e w' ⟨rfl, rfl⟩)
                    | (go_at_call 61; ((with_reducible refine (W3.out _).mono ?_)); rintro e w' ⟨rfl, rfl⟩)
                    | (go_at_call 61; ((with_reducible refine (W4.out _).mono ?_)); rintro e w' ⟨rfl, rfl⟩))
                  go_loopw [3, 4] (fun p i wr => ∃ k : Nat, k ≤ h' ∧ i = .int .i64 k ∧ p = .int .i64 ((2 : Int) ^ k) ∧ Below w.heap.size w wr ∧ Blk wr w.heap.size 58 #[.int .i64 (h' : Int), .int .i64 m, .int .i64 ph, .int .i64 pm, .slice A n c, .slice B nc cc, .slice D np cp]) (fun _ i _ => h' - (intOf i).toNat)
                  case atStart => exact ⟨0, by omega, rfl, rfl, (Below.refl _ _).alloc (Nat.le_refl _) _, HBX.out⟩
                  case round =>
                    obtain ⟨k, hk, rfl, rfl, hb, hbx⟩ := hrel
                    have HB := Lib.hid hb
                    have HX := Lib.hid hbx
                    have c0 := hbx.cell 0
                    have c4 := hbx.cell 4
                    simp at c0 c4
                    clear hb hbx
                    by_cases hlt : k < h'
                    · have hp2 : (2 : Int) ^ (k + 1) = 2 ^ k * 2 := by rw [Int.pow_succ]
                      have hpb := pw_bd k (by omega)
                      have HP2 := Lib.hid hp2
                      clear hp2
                      obtain ⟨P, hP⟩ : ∃ P, (2 : Int) ^ k = P := ⟨_, rfl⟩
                      rw [hP] at hpb HP2 ⊢
                      clear hP
                      go_wp2_with fail
                      go_roundw
                      case rel => exact ⟨k + 1, by omega, by go_num, by rw [HP2.out], HB.out, HX.out⟩
                      case measure => simp [intOf]; omega
                    · obtain rfl : k = h' := by omega
                      have hpw := HPW.out
                      obtain ⟨P, hP⟩ : ∃ P, (2 : Int) ^ k = P := ⟨_, rfl⟩
                      rw [hP] at hpw HOK HNUM ⊢
                      by_cases hbig : P < (n : Int)
                      · have q3 : decide (P < (n : Int)) = true := by simpa using hbig
                        have HE : Hid (T = 131) := Lib.hid (HBAD.out (Bool.eq_false_iff.2 fun hK => by have h1 := HNUM.out.1 hK; omega))
                        go_wp2_with fail
                        go_ret
                        exact ⟨ret_i64 HE.out.symm, HB.out⟩
                      · have q3 : decide (P < (n : Int)) = false := by simp; omega
                        have HE : Hid (T = R) := Lib.hid (by rw [HRT.out, HOK.out (by omega)]; rfl)
                        go_wp2_with fail
                        refine (HREST.out _ HB.out).mono ?_
                        rintro e w2 ⟨rfl, hb2⟩
                        go_wp2_with fail
                        go_ret
                        exact ⟨ret_i64 HE.out.symm, ch0 HB.out hb2⟩
def hasV (k : Int) : Value := .agg #[.bool (hasK k 1), .bool (hasK k 2), .bool (hasK k 3), .bool (hasK k 4), .bool (hasK k 5), .bool (hasK k 6)]
structure IsHas (k : Int) (w0 : World) (e : Ending) (w : World) : Prop where
  ret : e = .returned (.tuple #[hasV k, .bool (okK k)])
  low : Below w0.heap.size w0 w
set_option maxHeartbeats 2000000 in
theorem has57 (k : Int) (w : World) : Calls Try.prog 57 #[.int .u8 k] w (IsHas k w) := by
  rcases kind_cases k with rfl | rfl | rfl | rfl | rfl | rfl | rfl | rfl | rfl | h
  · go_enter Try.func57, Try.ntmps57
    go_wp2
    exact bodyPost_ret (v := .tuple #[.agg #[.bool false, .bool false, .bool false, .bool true, .bool false, .bool false], .bool true]) (by simp [results, Try.results57, go_sem]) rfl ⟨rfl, by first | exact (((Below.refl _ _).alloc (Nat.le_refl _) _).setCell (by simp) _) | (repeat (first | exact (Below.refl _ _).alloc (Nat.le_refl _) _ | (refine Below.setCell ?_ (by simp) _)))⟩
  · go_enter Try.func57, Try.ntmps57
    go_wp2
    exact bodyPost_ret (v := .tuple #[.agg #[.bool true, .bool false, .bool false, .bool false, .bool false, .bool true], .bool true]) (by simp [results, Try.results57, go_sem]) rfl ⟨rfl, by first | exact (((Below.refl _ _).alloc (Nat.le_refl _) _).setCell (by simp) _) | (repeat (first | exact (Below.refl _ _).alloc (Nat.le_refl _) _ | (refine Below.setCell ?_ (by simp) _)))⟩
  · go_enter Try.func57, Try.ntmps57
    go_wp2
    exact bodyPost_ret (v := .tuple #[.agg #[.bool true, .bool false, .bool false, .bool false, .bool false, .bool false], .bool true]) (by simp [results, Try.results57, go_sem]) rfl ⟨rfl, by first | exact (((Below.refl _ _).alloc (Nat.le_refl _) _).setCell (by simp) _) | (repeat (first | exact (Below.refl _ _).alloc (Nat.le_refl _) _ | (refine Below.setCell ?_ (by simp) _)))⟩
  · go_enter Try.func57, Try.ntmps57
    go_wp2
    exact bodyPost_ret (v := .tuple #[.agg #[.bool true, .bool false, .bool false, .bool false, .bool false, .bool false], .bool true]) (by simp [results, Try.results57, go_sem]) rfl ⟨rfl, by first | exact (((Below.refl _ _).alloc (Nat.le_refl _) _).setCell (by simp) _) | (repeat (first | exact (Below.refl _ _).alloc (Nat.le_refl _) _ | (refine Below.setCell ?_ (by simp) _)))⟩
  · go_enter Try.func57, Try.ntmps57
    go_wp2
    exact bodyPost_ret (v := .tuple #[.agg #[.bool false, .bool true, .bool true, .bool true, .bool false, .bool false], .bool true]) (by simp [results, Try.results57, go_sem]) rfl ⟨rfl, by first | exact (((Below.refl _ _).alloc (Nat.le_refl _) _).setCell (by simp) _) | (repeat (first | exact (Below.refl _ _).alloc (Nat.le_refl _) _ | (refine Below.setCell ?_ (by simp) _)))⟩
  · go_enter Try.func57, Try.ntmps57
    go_wp2
    exact bodyPost_ret (v := .tuple #[.agg #[.bool true, .bool true, .bool true, .bool false, .bool true, .bool false], .bool true]) (by simp [results, Try.results57, go_sem]) rfl ⟨rfl, by first | exact (((Below.refl _ _).alloc (Nat.le_refl _) _).setCell (by simp) _) | (repeat (first | exact (Below.refl _ _).alloc (Nat.le_refl _) _ | (refine Below.setCell ?_ (by simp) _)))⟩
  · go_enter Try.func57, Try.ntmps57
    go_wp2
    exact bodyPost_ret (v := .tuple #[.agg #[.bool true, .bool true, .bool true, .bool false, .bool true, .bool false], .bool true]) (by simp [results, Try.results57, go_sem]) rfl ⟨rfl, by first | exact (((Below.refl _ _).alloc (Nat.le_refl _) _).setCell (by simp) _) | (repeat (first | exact (Below.refl _ _).alloc (Nat.le_refl _) _ | (refine Below.setCell ?_ (by simp) _)))⟩
  · go_enter Try.func57, Try.ntmps57
    go_wp2
    exact bodyPost_ret (v := .tuple #[.agg #[.bool true, .bool true, .bool false, .bool false, .bool false, .bool false], .bool true]) (by simp [results, Try.results57, go_sem]) rfl ⟨rfl, by first | exact (((Below.refl _ _).alloc (Nat.le_refl _) _).setCell (by simp) _) | (repeat (first | exact (Below.refl _ _).alloc (Nat.le_refl _) _ | (refine Below.setCell ?_ (by simp) _)))⟩
  · go_enter Try.func57, Try.ntmps57
    go_wp2
    exact bodyPost_ret (v := .tuple #[.agg #[.bool true, .bool true, .bool false, .bool false, .bool false, .bool true], .bool true]) (by simp [results, Try.results57, go_sem]) rfl ⟨rfl, by first | exact (((Below.refl _ _).alloc (Nat.le_refl _) _).setCell (by simp) _) | (repeat (first | exact (Below.refl _ _).alloc (Nat.le_refl _) _ | (refine Below.setCell ?_ (by simp) _)))⟩
  · have e : hasV k = .agg #[.bool false, .bool false, .bool false, .bool false, .bool false, .bool false] := by
      have hz : ∀ j, hasK k j = false := fun j => by unfold hasK; (repeat rw [if_neg (by omega)])
      unfold hasV
      rw [hz, hz, hz, hz, hz, hz]
    have e2 : okK k = false := by unfold okK; rcases h with h | h <;> simp <;> omega
    have E := Lib.hid e
    have E2 := Lib.hid e2
    clear e e2
    have g1 : (k == 1) = false := by simp; omega
    have g2 : (k == 2) = false := by simp; omega
    have g3 : (k == 3) = false := by simp; omega
    have g4 : (k == 4) = false := by simp; omega
    have g5 : (k == 5) = false := by simp; omega
    have g6 : (k == 6) = false := by simp; omega
    have g7 : (k == 7) = false := by simp; omega
    have g8 : (k == 8) = false := by simp; omega
    have g9 : (k == 9) = false := by simp; omega
    clear h
    go_enter Try.func57, Try.ntmps57
    go_wp2
    exact bodyPost_ret (v := .tuple #[.agg #[.bool false, .bool false, .bool false, .bool false, .bool false, .bool false], .bool false]) (by simp [results, Try.results57, go_sem]) rfl ⟨by rw [E.out, E2.out], by first | exact (((Below.refl _ _).alloc (Nat.le_refl _) _).setCell (by simp) _) | (repeat (first | exact (Below.refl _ _).alloc (Nat.le_refl _) _ | (refine Below.setCell ?_ (by simp) _)))⟩
end Go.Proofs.Ytaiekpdoljleeaa
