/- The reference of chapter 15: within, Class, Right: the walks. No condition. -/
import Derived.Test.YtebmgladdgmmeaaCoLim
import Derived.Test.YtebmgladdgmmeaaCoRight
namespace Go.Proofs.Ytebmgladdgmmeaa
open Go.RowKit Go.WideShapes
set_option linter.unusedVariables false
set_option linter.unusedSimpArgs false
theorem within15 (n low high : Int) (w : World) : Calls Try.prog 79 #[.int .i64 n, .int .i64 low, .int .i64 high] w (Same (.bool (inB n low high true)) w) := by
  by_cases h1 : low ≤ n
  · have g : decide (low ≤ n) = true := by simp; omega
    go_enter Try.func79, Try.ntmps79
    go_wp2
    go_ret
    exact ⟨by simp [inB, h1], rfl⟩
  · have g : decide (low ≤ n) = false := by simp; omega
    go_enter Try.func79, Try.ntmps79
    go_wp2
    go_ret
    exact ⟨by simp [inB, g], rfl⟩
set_option maxRecDepth 100000 in
set_option maxHeartbeats 2000000 in
theorem class15 (o : Int) (w : World) (h0 : 0 ≤ o) : Calls Try.prog 78 #[.int .u8 o] w (Same (.int .i64 (cls o)) w) := by
  rcases op_cases o h0 with ⟨rfl, h⟩ | ⟨rfl, h⟩ | ⟨rfl, h⟩ | ⟨h1, h2, h⟩ | ⟨h1, h2, h⟩ | ⟨rfl, h⟩ | ⟨rfl, h⟩ | ⟨h1, h2, h⟩ | ⟨h1, h2, h⟩ | ⟨rfl, h⟩ | ⟨h1, h⟩
  · rw [h]
    clear h h0
    go_enter Try.func78, Try.ntmps78
    go_wp2
    go_ret
    exact ⟨rfl, rfl⟩
  · rw [h]
    clear h h0
    go_enter Try.func78, Try.ntmps78
    go_wp2
    go_ret
    exact ⟨rfl, rfl⟩
  · rw [h]
    clear h h0
    go_enter Try.func78, Try.ntmps78
    go_wp2
    go_ret
    exact ⟨rfl, rfl⟩
  · rw [h]
    have e0 : (o == 0) = false := by simp; omega
    have e24 : (o == 24) = false := by simp; omega
    have e25 : (o == 25) = false := by simp; omega
    have e26 : (o == 26) = false := by simp; omega
    have e1 : (o == 1) = false := by simp; omega
    have e2 : (o == 2) = false := by simp; omega
    have e22 : (o == 22) = false := by simp; omega
    have e23 : (o == 23) = false := by simp; omega
    have e30 : (o == 30) = false := by simp; omega
    have l7 : decide (o ≤ 7) = true := by simp; omega
    have l21 : decide (o ≤ 21) = true := by simp; omega
    have l29 : decide (o ≤ 29) = true := by simp; omega
    clear h h1 h2 h0
    go_enter Try.func78, Try.ntmps78
    go_wp2
    go_ret
    exact ⟨rfl, rfl⟩
  · rw [h]
    have e0 : (o == 0) = false := by simp; omega
    have e24 : (o == 24) = false := by simp; omega
    have e25 : (o == 25) = false := by simp; omega
    have e26 : (o == 26) = false := by simp; omega
    have e1 : (o == 1) = false := by simp; omega
    have e2 : (o == 2) = false := by simp; omega
    have e22 : (o == 22) = false := by simp; omega
    have e23 : (o == 23) = false := by simp; omega
    have e30 : (o == 30) = false := by simp; omega
    have l7 : decide (o ≤ 7) = false := by simp; omega
    have l21 : decide (o ≤ 21) = true := by simp; omega
    have l29 : decide (o ≤ 29) = true := by simp; omega
    clear h h1 h2 h0
    go_enter Try.func78, Try.ntmps78
    go_wp2
    go_ret
    exact ⟨rfl, rfl⟩
  · rw [h]
    clear h h0
    go_enter Try.func78, Try.ntmps78
    go_wp2
    go_ret
    exact ⟨rfl, rfl⟩
  · rw [h]
    clear h h0
    go_enter Try.func78, Try.ntmps78
    go_wp2
    go_ret
    exact ⟨rfl, rfl⟩
  · rw [h]
    clear h
    rcases (show o = 24 ∨ o = 25 ∨ o = 26 from by omega) with rfl | rfl | rfl
    all_goals
      clear h0 h1 h2
      go_enter Try.func78, Try.ntmps78
      go_wp2
      go_ret
      exact ⟨rfl, rfl⟩
  · rw [h]
    have e0 : (o == 0) = false := by simp; omega
    have e24 : (o == 24) = false := by simp; omega
    have e25 : (o == 25) = false := by simp; omega
    have e26 : (o == 26) = false := by simp; omega
    have e1 : (o == 1) = false := by simp; omega
    have e2 : (o == 2) = false := by simp; omega
    have e22 : (o == 22) = false := by simp; omega
    have e23 : (o == 23) = false := by simp; omega
    have e30 : (o == 30) = false := by simp; omega
    have l7 : decide (o ≤ 7) = false := by simp; omega
    have l21 : decide (o ≤ 21) = false := by simp; omega
    have l29 : decide (o ≤ 29) = true := by simp; omega
    clear h h1 h2 h0
    go_enter Try.func78, Try.ntmps78
    go_wp2
    go_ret
    exact ⟨rfl, rfl⟩
  · rw [h]
    clear h h0
    go_enter Try.func78, Try.ntmps78
    go_wp2
    go_ret
    exact ⟨rfl, rfl⟩
  · rw [h]
    have e0 : (o == 0) = false := by simp; omega
    have e24 : (o == 24) = false := by simp; omega
    have e25 : (o == 25) = false := by simp; omega
    have e26 : (o == 26) = false := by simp; omega
    have e1 : (o == 1) = false := by simp; omega
    have e2 : (o == 2) = false := by simp; omega
    have e22 : (o == 22) = false := by simp; omega
    have e23 : (o == 23) = false := by simp; omega
    have e30 : (o == 30) = false := by simp; omega
    have l7 : decide (o ≤ 7) = false := by simp; omega
    have l21 : decide (o ≤ 21) = false := by simp; omega
    have l29 : decide (o ≤ 29) = false := by simp; omega
    clear h h1 h0
    go_enter Try.func78, Try.ntmps78
    go_wp2
    go_ret
    exact ⟨rfl, rfl⟩
structure CodeQ (t : In) (w0 : World) (e : Ending) (w : World) : Prop where
  ret : e = .returned (.int .i64 (codeI t))
  low : Below w0.heap.size w0 w
theorem codeQ_of {t : In} {b : Bool} {w0 w : World} {x : Int} (h : rightI t = b) (hx : x = if b then 0 else 110) (hb : Below w0.heap.size w0 w) : CodeQ t w0 (.returned (.int .i64 x)) w := ⟨by unfold codeI; rw [h, hx], hb⟩
set_option maxRecDepth 100000 in
set_option maxHeartbeats 4000000 in
theorem rightR_0 (o d s n : Int) (w : World) (h0 : 0 ≤ o) (h : shO o = ⟨false, 0, false, false, false, false, false⟩) (hc : cls o = 0) : Calls Try.prog 57 #[.agg #[.int .u8 o, .int .i64 d, .int .i64 s, .int .i64 n]] w (CodeQ ⟨o, d, s, n⟩ w) := by
  obtain ⟨bd, hbd⟩ : ∃ b : Bool, (d == 0) = b := ⟨_, rfl⟩
  obtain ⟨bs, hbs⟩ : ∃ b : Bool, (s == 0) = b := ⟨_, rfl⟩
  obtain ⟨bn, hbn⟩ : ∃ b : Bool, (n == 0) = b := ⟨_, rfl⟩
  have hR : rightI ⟨o, d, s, n⟩ = false := by simp [rightI, h]
  have HR := Lib.hid hR
  have hcl := fun W => class15 o W h0
  rw [hc] at hcl
  have HCL := Lib.hid hcl
  clear hR hcl h hc h0 
  go_enter Try.func57, Try.ntmps57
  go_wp2_with fail
  go_quiet (fail)
  go_wp2_with (first | (go_at_call 78; refine (HCL.out _).mono ?_; rintro e w1 ⟨rfl, rfl⟩))
  go_ret
  exact codeQ_of HR.out (by simp) (below_drewN ((Below.refl _ _).alloc (Nat.le_refl _) _) _)
set_option maxRecDepth 100000 in
set_option maxHeartbeats 4000000 in
theorem rightR_1 (o d s n : Int) (w : World) (h0 : 0 ≤ o) (h : shO o = ⟨true, -1, false, false, false, false, false⟩) (hc : cls o = 1) : Calls Try.prog 57 #[.agg #[.int .u8 o, .int .i64 d, .int .i64 s, .int .i64 n]] w (CodeQ ⟨o, d, s, n⟩ w) := by
  obtain ⟨bd, hbd⟩ : ∃ b : Bool, (d == 0) = b := ⟨_, rfl⟩
  obtain ⟨bs, hbs⟩ : ∃ b : Bool, (s == 0) = b := ⟨_, rfl⟩
  obtain ⟨bn, hbn⟩ : ∃ b : Bool, (n == 0) = b := ⟨_, rfl⟩
  have hR : rightI ⟨o, d, s, n⟩ = (bd && bs && bn) := by
    rw [Bool.eq_iff_iff, lim_1 _ _ _ _ h]
    subst hbd hbs hbn
    simp [inB]
    try omega
  have HR := Lib.hid hR
  have hcl := fun W => class15 o W h0
  rw [hc] at hcl
  have HCL := Lib.hid hcl
  clear hR hcl h hc h0 
  cases bd
  · skip
    go_enter Try.func57, Try.ntmps57
    go_wp2_with fail
    go_quiet (fail)
    go_wp2_with (first | (go_at_call 78; refine (HCL.out _).mono ?_; rintro e w1 ⟨rfl, rfl⟩))
    go_ret
    exact codeQ_of HR.out (by simp) (below_drewN ((Below.refl _ _).alloc (Nat.le_refl _) _) _)
  · skip
    cases bs
    · skip
      go_enter Try.func57, Try.ntmps57
      go_wp2_with fail
      go_quiet (fail)
      go_wp2_with (first | (go_at_call 78; refine (HCL.out _).mono ?_; rintro e w1 ⟨rfl, rfl⟩))
      go_ret
      exact codeQ_of HR.out (by simp) (below_drewN ((Below.refl _ _).alloc (Nat.le_refl _) _) _)
    · skip
      cases bn
      · skip
        go_enter Try.func57, Try.ntmps57
        go_wp2_with fail
        go_quiet (fail)
        go_wp2_with (first | (go_at_call 78; refine (HCL.out _).mono ?_; rintro e w1 ⟨rfl, rfl⟩))
        go_ret
        exact codeQ_of HR.out (by simp) (below_drewN ((Below.refl _ _).alloc (Nat.le_refl _) _) _)
      · skip
        go_enter Try.func57, Try.ntmps57
        go_wp2_with fail
        go_quiet (fail)
        go_wp2_with (first | (go_at_call 78; refine (HCL.out _).mono ?_; rintro e w1 ⟨rfl, rfl⟩))
        go_ret
        exact codeQ_of HR.out (by simp) (below_drewN ((Below.refl _ _).alloc (Nat.le_refl _) _) _)
set_option maxRecDepth 100000 in
set_option maxHeartbeats 4000000 in
theorem rightR_2 (o d s n : Int) (w : World) (h0 : 0 ≤ o) (h : shO o = ⟨true, 6, true, false, false, false, false⟩) (hc : cls o = 2) : Calls Try.prog 57 #[.agg #[.int .u8 o, .int .i64 d, .int .i64 s, .int .i64 n]] w (CodeQ ⟨o, d, s, n⟩ w) := by
  obtain ⟨bd, hbd⟩ : ∃ b : Bool, (d == 0) = b := ⟨_, rfl⟩
  obtain ⟨bs, hbs⟩ : ∃ b : Bool, (s == 0) = b := ⟨_, rfl⟩
  obtain ⟨bn, hbn⟩ : ∃ b : Bool, (n == 0) = b := ⟨_, rfl⟩
  obtain ⟨wd6, hwd6⟩ : ∃ b : Bool, inB d 0 6 true = b := ⟨_, rfl⟩
  obtain ⟨ws6, hws6⟩ : ∃ b : Bool, inB s 0 6 true = b := ⟨_, rfl⟩
  have hR : rightI ⟨o, d, s, n⟩ = (wd6 && ws6 && bn) := by
    rw [Bool.eq_iff_iff, lim_2 _ _ _ _ h]
    subst hbd hbs hbn hwd6 hws6
    simp [inB]
    try omega
  have HR := Lib.hid hR
  have hcl := fun W => class15 o W h0
  rw [hc] at hcl
  have HCL := Lib.hid hcl
  have kwd6 := fun W => within15 d 0 6 W
  rw [hwd6] at kwd6
  have Kwd6 := Lib.hid kwd6
  clear kwd6
  have kws6 := fun W => within15 s 0 6 W
  rw [hws6] at kws6
  have Kws6 := Lib.hid kws6
  clear kws6
  clear hR hcl h hc h0 hwd6 hws6
  cases wd6
  · skip
    go_enter Try.func57, Try.ntmps57
    go_wp2_with fail
    go_quiet (fail)
    go_wp2_with (first | (go_at_call 78; refine (HCL.out _).mono ?_; rintro e w1 ⟨rfl, rfl⟩) | (go_at_call 79; ((with_reducible refine (Kwd6.out _).mono ?_)); rintro e w1 ⟨rfl, rfl⟩) | (go_at_call 79; ((with_reducible refine (Kws6.out _).mono ?_)); rintro e w1 ⟨rfl, rfl⟩))
    go_ret
    exact codeQ_of HR.out (by simp) (below_drewN ((Below.refl _ _).alloc (Nat.le_refl _) _) _)
  · skip
    cases ws6
    · skip
      go_enter Try.func57, Try.ntmps57
      go_wp2_with fail
      go_quiet (fail)
      go_wp2_with (first | (go_at_call 78; refine (HCL.out _).mono ?_; rintro e w1 ⟨rfl, rfl⟩) | (go_at_call 79; ((with_reducible refine (Kwd6.out _).mono ?_)); rintro e w1 ⟨rfl, rfl⟩) | (go_at_call 79; ((with_reducible refine (Kws6.out _).mono ?_)); rintro e w1 ⟨rfl, rfl⟩))
      go_ret
      exact codeQ_of HR.out (by simp) (below_drewN ((Below.refl _ _).alloc (Nat.le_refl _) _) _)
    · skip
      cases bn
      · skip
        go_enter Try.func57, Try.ntmps57
        go_wp2_with fail
        go_quiet (fail)
        go_wp2_with (first | (go_at_call 78; refine (HCL.out _).mono ?_; rintro e w1 ⟨rfl, rfl⟩) | (go_at_call 79; ((with_reducible refine (Kwd6.out _).mono ?_)); rintro e w1 ⟨rfl, rfl⟩) | (go_at_call 79; ((with_reducible refine (Kws6.out _).mono ?_)); rintro e w1 ⟨rfl, rfl⟩))
        go_ret
        exact codeQ_of HR.out (by simp) (below_drewN ((Below.refl _ _).alloc (Nat.le_refl _) _) _)
      · skip
        go_enter Try.func57, Try.ntmps57
        go_wp2_with fail
        go_quiet (fail)
        go_wp2_with (first | (go_at_call 78; refine (HCL.out _).mono ?_; rintro e w1 ⟨rfl, rfl⟩) | (go_at_call 79; ((with_reducible refine (Kwd6.out _).mono ?_)); rintro e w1 ⟨rfl, rfl⟩) | (go_at_call 79; ((with_reducible refine (Kws6.out _).mono ?_)); rintro e w1 ⟨rfl, rfl⟩))
        go_ret
        exact codeQ_of HR.out (by simp) (below_drewN ((Below.refl _ _).alloc (Nat.le_refl _) _) _)
set_option maxRecDepth 100000 in
set_option maxHeartbeats 4000000 in
theorem rightR_3 (o d s n : Int) (w : World) (h0 : 0 ≤ o) (h : shO o = ⟨true, 6, false, false, true, false, false⟩) (hc : cls o = 3) : Calls Try.prog 57 #[.agg #[.int .u8 o, .int .i64 d, .int .i64 s, .int .i64 n]] w (CodeQ ⟨o, d, s, n⟩ w) := by
  obtain ⟨bd, hbd⟩ : ∃ b : Bool, (d == 0) = b := ⟨_, rfl⟩
  obtain ⟨bs, hbs⟩ : ∃ b : Bool, (s == 0) = b := ⟨_, rfl⟩
  obtain ⟨bn, hbn⟩ : ∃ b : Bool, (n == 0) = b := ⟨_, rfl⟩
  obtain ⟨wd6, hwd6⟩ : ∃ b : Bool, inB d 0 6 true = b := ⟨_, rfl⟩
  obtain ⟨wn255, hwn255⟩ : ∃ b : Bool, inB n 0 255 true = b := ⟨_, rfl⟩
  have hR : rightI ⟨o, d, s, n⟩ = (wd6 && bs && wn255) := by
    rw [Bool.eq_iff_iff, lim_3 _ _ _ _ h]
    subst hbd hbs hbn hwd6 hwn255
    simp [inB]
    try omega
  have HR := Lib.hid hR
  have hcl := fun W => class15 o W h0
  rw [hc] at hcl
  have HCL := Lib.hid hcl
  have kwd6 := fun W => within15 d 0 6 W
  rw [hwd6] at kwd6
  have Kwd6 := Lib.hid kwd6
  clear kwd6
  have kwn255 := fun W => within15 n 0 255 W
  rw [hwn255] at kwn255
  have Kwn255 := Lib.hid kwn255
  clear kwn255
  clear hR hcl h hc h0 hwd6 hwn255
  cases wd6
  · skip
    go_enter Try.func57, Try.ntmps57
    go_wp2_with fail
    go_quiet (fail)
    go_wp2_with (first | (go_at_call 78; refine (HCL.out _).mono ?_; rintro e w1 ⟨rfl, rfl⟩) | (go_at_call 79; ((with_reducible refine (Kwd6.out _).mono ?_)); rintro e w1 ⟨rfl, rfl⟩) | (go_at_call 79; ((with_reducible refine (Kwn255.out _).mono ?_)); rintro e w1 ⟨rfl, rfl⟩))
    go_ret
    exact codeQ_of HR.out (by simp) (below_drewN ((Below.refl _ _).alloc (Nat.le_refl _) _) _)
  · skip
    cases bs
    · skip
      go_enter Try.func57, Try.ntmps57
      go_wp2_with fail
      go_quiet (fail)
      go_wp2_with (first | (go_at_call 78; refine (HCL.out _).mono ?_; rintro e w1 ⟨rfl, rfl⟩) | (go_at_call 79; ((with_reducible refine (Kwd6.out _).mono ?_)); rintro e w1 ⟨rfl, rfl⟩) | (go_at_call 79; ((with_reducible refine (Kwn255.out _).mono ?_)); rintro e w1 ⟨rfl, rfl⟩))
      go_ret
      exact codeQ_of HR.out (by simp) (below_drewN ((Below.refl _ _).alloc (Nat.le_refl _) _) _)
    · skip
      cases wn255
      · skip
        go_enter Try.func57, Try.ntmps57
        go_wp2_with fail
        go_quiet (fail)
        go_wp2_with (first | (go_at_call 78; refine (HCL.out _).mono ?_; rintro e w1 ⟨rfl, rfl⟩) | (go_at_call 79; ((with_reducible refine (Kwd6.out _).mono ?_)); rintro e w1 ⟨rfl, rfl⟩) | (go_at_call 79; ((with_reducible refine (Kwn255.out _).mono ?_)); rintro e w1 ⟨rfl, rfl⟩))
        go_ret
        exact codeQ_of HR.out (by simp) (below_drewN ((Below.refl _ _).alloc (Nat.le_refl _) _) _)
      · skip
        go_enter Try.func57, Try.ntmps57
        go_wp2_with fail
        go_quiet (fail)
        go_wp2_with (first | (go_at_call 78; refine (HCL.out _).mono ?_; rintro e w1 ⟨rfl, rfl⟩) | (go_at_call 79; ((with_reducible refine (Kwd6.out _).mono ?_)); rintro e w1 ⟨rfl, rfl⟩) | (go_at_call 79; ((with_reducible refine (Kwn255.out _).mono ?_)); rintro e w1 ⟨rfl, rfl⟩))
        go_ret
        exact codeQ_of HR.out (by simp) (below_drewN ((Below.refl _ _).alloc (Nat.le_refl _) _) _)
set_option maxRecDepth 100000 in
set_option maxHeartbeats 4000000 in
theorem rightR_4 (o d s n : Int) (w : World) (h0 : 0 ≤ o) (h : shO o = ⟨true, 6, false, false, false, false, false⟩) (hc : cls o = 4) : Calls Try.prog 57 #[.agg #[.int .u8 o, .int .i64 d, .int .i64 s, .int .i64 n]] w (CodeQ ⟨o, d, s, n⟩ w) := by
  obtain ⟨bd, hbd⟩ : ∃ b : Bool, (d == 0) = b := ⟨_, rfl⟩
  obtain ⟨bs, hbs⟩ : ∃ b : Bool, (s == 0) = b := ⟨_, rfl⟩
  obtain ⟨bn, hbn⟩ : ∃ b : Bool, (n == 0) = b := ⟨_, rfl⟩
  obtain ⟨wd6, hwd6⟩ : ∃ b : Bool, inB d 0 6 true = b := ⟨_, rfl⟩
  have hR : rightI ⟨o, d, s, n⟩ = (wd6 && bs && bn) := by
    rw [Bool.eq_iff_iff, lim_4 _ _ _ _ h]
    subst hbd hbs hbn hwd6
    simp [inB]
    try omega
  have HR := Lib.hid hR
  have hcl := fun W => class15 o W h0
  rw [hc] at hcl
  have HCL := Lib.hid hcl
  have kwd6 := fun W => within15 d 0 6 W
  rw [hwd6] at kwd6
  have Kwd6 := Lib.hid kwd6
  clear kwd6
  clear hR hcl h hc h0 hwd6
  cases wd6
  · skip
    go_enter Try.func57, Try.ntmps57
    go_wp2_with fail
    go_quiet (fail)
    go_wp2_with (first | (go_at_call 78; refine (HCL.out _).mono ?_; rintro e w1 ⟨rfl, rfl⟩) | (go_at_call 79; ((with_reducible refine (Kwd6.out _).mono ?_)); rintro e w1 ⟨rfl, rfl⟩))
    go_ret
    exact codeQ_of HR.out (by simp) (below_drewN ((Below.refl _ _).alloc (Nat.le_refl _) _) _)
  · skip
    cases bs
    · skip
      go_enter Try.func57, Try.ntmps57
      go_wp2_with fail
      go_quiet (fail)
      go_wp2_with (first | (go_at_call 78; refine (HCL.out _).mono ?_; rintro e w1 ⟨rfl, rfl⟩) | (go_at_call 79; ((with_reducible refine (Kwd6.out _).mono ?_)); rintro e w1 ⟨rfl, rfl⟩))
      go_ret
      exact codeQ_of HR.out (by simp) (below_drewN ((Below.refl _ _).alloc (Nat.le_refl _) _) _)
    · skip
      cases bn
      · skip
        go_enter Try.func57, Try.ntmps57
        go_wp2_with fail
        go_quiet (fail)
        go_wp2_with (first | (go_at_call 78; refine (HCL.out _).mono ?_; rintro e w1 ⟨rfl, rfl⟩) | (go_at_call 79; ((with_reducible refine (Kwd6.out _).mono ?_)); rintro e w1 ⟨rfl, rfl⟩))
        go_ret
        exact codeQ_of HR.out (by simp) (below_drewN ((Below.refl _ _).alloc (Nat.le_refl _) _) _)
      · skip
        go_enter Try.func57, Try.ntmps57
        go_wp2_with fail
        go_quiet (fail)
        go_wp2_with (first | (go_at_call 78; refine (HCL.out _).mono ?_; rintro e w1 ⟨rfl, rfl⟩) | (go_at_call 79; ((with_reducible refine (Kwd6.out _).mono ?_)); rintro e w1 ⟨rfl, rfl⟩))
        go_ret
        exact codeQ_of HR.out (by simp) (below_drewN ((Below.refl _ _).alloc (Nat.le_refl _) _) _)
set_option maxRecDepth 100000 in
set_option maxHeartbeats 4000000 in
theorem rightR_5 (o d s n : Int) (w : World) (h0 : 0 ≤ o) (h : shO o = ⟨true, -1, false, true, false, false, false⟩) (hc : cls o = 5) : Calls Try.prog 57 #[.agg #[.int .u8 o, .int .i64 d, .int .i64 s, .int .i64 n]] w (CodeQ ⟨o, d, s, n⟩ w) := by
  obtain ⟨bd, hbd⟩ : ∃ b : Bool, (d == 0) = b := ⟨_, rfl⟩
  obtain ⟨bs, hbs⟩ : ∃ b : Bool, (s == 0) = b := ⟨_, rfl⟩
  obtain ⟨bn, hbn⟩ : ∃ b : Bool, (n == 0) = b := ⟨_, rfl⟩
  obtain ⟨ws6, hws6⟩ : ∃ b : Bool, inB s 0 6 true = b := ⟨_, rfl⟩
  obtain ⟨b7, hb7⟩ : ∃ b : Bool, (s == 7) = b := ⟨_, rfl⟩
  obtain ⟨wn255, hwn255⟩ : ∃ b : Bool, inB n 0 255 true = b := ⟨_, rfl⟩
  have hR : rightI ⟨o, d, s, n⟩ = (bd && ((ws6 && bn) || (b7 && wn255))) := by
    rw [Bool.eq_iff_iff, lim_5 _ _ _ _ h]
    subst hbd hbs hbn hws6 hb7 hwn255
    simp [inB]
    try omega
  have HR := Lib.hid hR
  have hcl := fun W => class15 o W h0
  rw [hc] at hcl
  have HCL := Lib.hid hcl
  have kws6 := fun W => within15 s 0 6 W
  rw [hws6] at kws6
  have Kws6 := Lib.hid kws6
  clear kws6
  have kwn255 := fun W => within15 n 0 255 W
  rw [hwn255] at kwn255
  have Kwn255 := Lib.hid kwn255
  clear kwn255
  clear hR hcl h hc h0 hws6 hwn255
  cases bd
  · skip
    go_enter Try.func57, Try.ntmps57
    go_wp2_with fail
    go_quiet (fail)
    go_wp2_with (first | (go_at_call 78; refine (HCL.out _).mono ?_; rintro e w1 ⟨rfl, rfl⟩) | (go_at_call 79; ((with_reducible refine (Kws6.out _).mono ?_)); rintro e w1 ⟨rfl, rfl⟩) | (go_at_call 79; ((with_reducible refine (Kwn255.out _).mono ?_)); rintro e w1 ⟨rfl, rfl⟩))
    go_ret
    exact codeQ_of HR.out (by simp) (below_drewN ((Below.refl _ _).alloc (Nat.le_refl _) _) _)
  · skip
    cases ws6
    · skip
      cases b7
      · skip
        go_enter Try.func57, Try.ntmps57
        go_wp2_with fail
        go_quiet (fail)
        go_wp2_with (first | (go_at_call 78; refine (HCL.out _).mono ?_; rintro e w1 ⟨rfl, rfl⟩) | (go_at_call 79; ((with_reducible refine (Kws6.out _).mono ?_)); rintro e w1 ⟨rfl, rfl⟩) | (go_at_call 79; ((with_reducible refine (Kwn255.out _).mono ?_)); rintro e w1 ⟨rfl, rfl⟩))
        go_ret
        exact codeQ_of HR.out (by simp) (below_drewN ((Below.refl _ _).alloc (Nat.le_refl _) _) _)
      · skip
        cases wn255
        · skip
          go_enter Try.func57, Try.ntmps57
          go_wp2_with fail
          go_quiet (fail)
          go_wp2_with (first | (go_at_call 78; refine (HCL.out _).mono ?_; rintro e w1 ⟨rfl, rfl⟩) | (go_at_call 79; ((with_reducible refine (Kws6.out _).mono ?_)); rintro e w1 ⟨rfl, rfl⟩) | (go_at_call 79; ((with_reducible refine (Kwn255.out _).mono ?_)); rintro e w1 ⟨rfl, rfl⟩))
          go_ret
          exact codeQ_of HR.out (by simp) (below_drewN ((Below.refl _ _).alloc (Nat.le_refl _) _) _)
        · skip
          go_enter Try.func57, Try.ntmps57
          go_wp2_with fail
          go_quiet (fail)
          go_wp2_with (first | (go_at_call 78; refine (HCL.out _).mono ?_; rintro e w1 ⟨rfl, rfl⟩) | (go_at_call 79; ((with_reducible refine (Kws6.out _).mono ?_)); rintro e w1 ⟨rfl, rfl⟩) | (go_at_call 79; ((with_reducible refine (Kwn255.out _).mono ?_)); rintro e w1 ⟨rfl, rfl⟩))
          go_ret
          exact codeQ_of HR.out (by simp) (below_drewN ((Below.refl _ _).alloc (Nat.le_refl _) _) _)
    · skip
      cases bn
      · skip
        cases b7
        · skip
          go_enter Try.func57, Try.ntmps57
          go_wp2_with fail
          go_quiet (fail)
          go_wp2_with (first | (go_at_call 78; refine (HCL.out _).mono ?_; rintro e w1 ⟨rfl, rfl⟩) | (go_at_call 79; ((with_reducible refine (Kws6.out _).mono ?_)); rintro e w1 ⟨rfl, rfl⟩) | (go_at_call 79; ((with_reducible refine (Kwn255.out _).mono ?_)); rintro e w1 ⟨rfl, rfl⟩))
          go_ret
          exact codeQ_of HR.out (by simp) (below_drewN ((Below.refl _ _).alloc (Nat.le_refl _) _) _)
        · skip
          cases wn255
          · skip
            go_enter Try.func57, Try.ntmps57
            go_wp2_with fail
            go_quiet (fail)
            go_wp2_with (first | (go_at_call 78; refine (HCL.out _).mono ?_; rintro e w1 ⟨rfl, rfl⟩) | (go_at_call 79; ((with_reducible refine (Kws6.out _).mono ?_)); rintro e w1 ⟨rfl, rfl⟩) | (go_at_call 79; ((with_reducible refine (Kwn255.out _).mono ?_)); rintro e w1 ⟨rfl, rfl⟩))
            go_ret
            exact codeQ_of HR.out (by simp) (below_drewN ((Below.refl _ _).alloc (Nat.le_refl _) _) _)
          · skip
            go_enter Try.func57, Try.ntmps57
            go_wp2_with fail
            go_quiet (fail)
            go_wp2_with (first | (go_at_call 78; refine (HCL.out _).mono ?_; rintro e w1 ⟨rfl, rfl⟩) | (go_at_call 79; ((with_reducible refine (Kws6.out _).mono ?_)); rintro e w1 ⟨rfl, rfl⟩) | (go_at_call 79; ((with_reducible refine (Kwn255.out _).mono ?_)); rintro e w1 ⟨rfl, rfl⟩))
            go_ret
            exact codeQ_of HR.out (by simp) (below_drewN ((Below.refl _ _).alloc (Nat.le_refl _) _) _)
      · skip
        go_enter Try.func57, Try.ntmps57
        go_wp2_with fail
        go_quiet (fail)
        go_wp2_with (first | (go_at_call 78; refine (HCL.out _).mono ?_; rintro e w1 ⟨rfl, rfl⟩) | (go_at_call 79; ((with_reducible refine (Kws6.out _).mono ?_)); rintro e w1 ⟨rfl, rfl⟩) | (go_at_call 79; ((with_reducible refine (Kwn255.out _).mono ?_)); rintro e w1 ⟨rfl, rfl⟩))
        go_ret
        exact codeQ_of HR.out (by simp) (below_drewN ((Below.refl _ _).alloc (Nat.le_refl _) _) _)
set_option maxRecDepth 100000 in
set_option maxHeartbeats 4000000 in
theorem rightR_6 (o d s n : Int) (w : World) (h0 : 0 ≤ o) (h : shO o = ⟨true, 3, false, false, true, false, false⟩) (hc : cls o = 6) : Calls Try.prog 57 #[.agg #[.int .u8 o, .int .i64 d, .int .i64 s, .int .i64 n]] w (CodeQ ⟨o, d, s, n⟩ w) := by
  obtain ⟨bd, hbd⟩ : ∃ b : Bool, (d == 0) = b := ⟨_, rfl⟩
  obtain ⟨bs, hbs⟩ : ∃ b : Bool, (s == 0) = b := ⟨_, rfl⟩
  obtain ⟨bn, hbn⟩ : ∃ b : Bool, (n == 0) = b := ⟨_, rfl⟩
  obtain ⟨wd3, hwd3⟩ : ∃ b : Bool, inB d 0 3 true = b := ⟨_, rfl⟩
  obtain ⟨wn255, hwn255⟩ : ∃ b : Bool, inB n 0 255 true = b := ⟨_, rfl⟩
  have hR : rightI ⟨o, d, s, n⟩ = (wd3 && bs && wn255) := by
    rw [Bool.eq_iff_iff, lim_6 _ _ _ _ h]
    subst hbd hbs hbn hwd3 hwn255
    simp [inB]
    try omega
  have HR := Lib.hid hR
  have hcl := fun W => class15 o W h0
  rw [hc] at hcl
  have HCL := Lib.hid hcl
  have kwd3 := fun W => within15 d 0 3 W
  rw [hwd3] at kwd3
  have Kwd3 := Lib.hid kwd3
  clear kwd3
  have kwn255 := fun W => within15 n 0 255 W
  rw [hwn255] at kwn255
  have Kwn255 := Lib.hid kwn255
  clear kwn255
  clear hR hcl h hc h0 hwd3 hwn255
  cases wd3
  · skip
    go_enter Try.func57, Try.ntmps57
    go_wp2_with fail
    go_quiet (fail)
    go_wp2_with (first | (go_at_call 78; refine (HCL.out _).mono ?_; rintro e w1 ⟨rfl, rfl⟩) | (go_at_call 79; ((with_reducible refine (Kwd3.out _).mono ?_)); rintro e w1 ⟨rfl, rfl⟩) | (go_at_call 79; ((with_reducible refine (Kwn255.out _).mono ?_)); rintro e w1 ⟨rfl, rfl⟩))
    go_ret
    exact codeQ_of HR.out (by simp) (below_drewN ((Below.refl _ _).alloc (Nat.le_refl _) _) _)
  · skip
    cases bs
    · skip
      go_enter Try.func57, Try.ntmps57
      go_wp2_with fail
      go_quiet (fail)
      go_wp2_with (first | (go_at_call 78; refine (HCL.out _).mono ?_; rintro e w1 ⟨rfl, rfl⟩) | (go_at_call 79; ((with_reducible refine (Kwd3.out _).mono ?_)); rintro e w1 ⟨rfl, rfl⟩) | (go_at_call 79; ((with_reducible refine (Kwn255.out _).mono ?_)); rintro e w1 ⟨rfl, rfl⟩))
      go_ret
      exact codeQ_of HR.out (by simp) (below_drewN ((Below.refl _ _).alloc (Nat.le_refl _) _) _)
    · skip
      cases wn255
      · skip
        go_enter Try.func57, Try.ntmps57
        go_wp2_with fail
        go_quiet (fail)
        go_wp2_with (first | (go_at_call 78; refine (HCL.out _).mono ?_; rintro e w1 ⟨rfl, rfl⟩) | (go_at_call 79; ((with_reducible refine (Kwd3.out _).mono ?_)); rintro e w1 ⟨rfl, rfl⟩) | (go_at_call 79; ((with_reducible refine (Kwn255.out _).mono ?_)); rintro e w1 ⟨rfl, rfl⟩))
        go_ret
        exact codeQ_of HR.out (by simp) (below_drewN ((Below.refl _ _).alloc (Nat.le_refl _) _) _)
      · skip
        go_enter Try.func57, Try.ntmps57
        go_wp2_with fail
        go_quiet (fail)
        go_wp2_with (first | (go_at_call 78; refine (HCL.out _).mono ?_; rintro e w1 ⟨rfl, rfl⟩) | (go_at_call 79; ((with_reducible refine (Kwd3.out _).mono ?_)); rintro e w1 ⟨rfl, rfl⟩) | (go_at_call 79; ((with_reducible refine (Kwn255.out _).mono ?_)); rintro e w1 ⟨rfl, rfl⟩))
        go_ret
        exact codeQ_of HR.out (by simp) (below_drewN ((Below.refl _ _).alloc (Nat.le_refl _) _) _)
set_option maxRecDepth 100000 in
set_option maxHeartbeats 4000000 in
theorem rightR_7 (o d s n : Int) (w : World) (h0 : 0 ≤ o) (h : shO o = ⟨true, -1, false, false, true, false, false⟩) (hc : cls o = 7) : Calls Try.prog 57 #[.agg #[.int .u8 o, .int .i64 d, .int .i64 s, .int .i64 n]] w (CodeQ ⟨o, d, s, n⟩ w) := by
  obtain ⟨bd, hbd⟩ : ∃ b : Bool, (d == 0) = b := ⟨_, rfl⟩
  obtain ⟨bs, hbs⟩ : ∃ b : Bool, (s == 0) = b := ⟨_, rfl⟩
  obtain ⟨bn, hbn⟩ : ∃ b : Bool, (n == 0) = b := ⟨_, rfl⟩
  obtain ⟨wn255, hwn255⟩ : ∃ b : Bool, inB n 0 255 true = b := ⟨_, rfl⟩
  have hR : rightI ⟨o, d, s, n⟩ = (bd && bs && wn255) := by
    rw [Bool.eq_iff_iff, lim_7 _ _ _ _ h]
    subst hbd hbs hbn hwn255
    simp [inB]
    try omega
  have HR := Lib.hid hR
  have hcl := fun W => class15 o W h0
  rw [hc] at hcl
  have HCL := Lib.hid hcl
  have kwn255 := fun W => within15 n 0 255 W
  rw [hwn255] at kwn255
  have Kwn255 := Lib.hid kwn255
  clear kwn255
  clear hR hcl h hc h0 hwn255
  cases bd
  · skip
    go_enter Try.func57, Try.ntmps57
    go_wp2_with fail
    go_quiet (fail)
    go_wp2_with (first | (go_at_call 78; refine (HCL.out _).mono ?_; rintro e w1 ⟨rfl, rfl⟩) | (go_at_call 79; ((with_reducible refine (Kwn255.out _).mono ?_)); rintro e w1 ⟨rfl, rfl⟩))
    go_ret
    exact codeQ_of HR.out (by simp) (below_drewN ((Below.refl _ _).alloc (Nat.le_refl _) _) _)
  · skip
    cases bs
    · skip
      go_enter Try.func57, Try.ntmps57
      go_wp2_with fail
      go_quiet (fail)
      go_wp2_with (first | (go_at_call 78; refine (HCL.out _).mono ?_; rintro e w1 ⟨rfl, rfl⟩) | (go_at_call 79; ((with_reducible refine (Kwn255.out _).mono ?_)); rintro e w1 ⟨rfl, rfl⟩))
      go_ret
      exact codeQ_of HR.out (by simp) (below_drewN ((Below.refl _ _).alloc (Nat.le_refl _) _) _)
    · skip
      cases wn255
      · skip
        go_enter Try.func57, Try.ntmps57
        go_wp2_with fail
        go_quiet (fail)
        go_wp2_with (first | (go_at_call 78; refine (HCL.out _).mono ?_; rintro e w1 ⟨rfl, rfl⟩) | (go_at_call 79; ((with_reducible refine (Kwn255.out _).mono ?_)); rintro e w1 ⟨rfl, rfl⟩))
        go_ret
        exact codeQ_of HR.out (by simp) (below_drewN ((Below.refl _ _).alloc (Nat.le_refl _) _) _)
      · skip
        go_enter Try.func57, Try.ntmps57
        go_wp2_with fail
        go_quiet (fail)
        go_wp2_with (first | (go_at_call 78; refine (HCL.out _).mono ?_; rintro e w1 ⟨rfl, rfl⟩) | (go_at_call 79; ((with_reducible refine (Kwn255.out _).mono ?_)); rintro e w1 ⟨rfl, rfl⟩))
        go_ret
        exact codeQ_of HR.out (by simp) (below_drewN ((Below.refl _ _).alloc (Nat.le_refl _) _) _)
set_option maxRecDepth 100000 in
set_option maxHeartbeats 4000000 in
theorem rightR_8 (o d s n : Int) (w : World) (h0 : 0 ≤ o) (h : shO o = ⟨true, -1, false, false, false, true, false⟩) (hc : cls o = 8) : Calls Try.prog 57 #[.agg #[.int .u8 o, .int .i64 d, .int .i64 s, .int .i64 n]] w (CodeQ ⟨o, d, s, n⟩ w) := by
  obtain ⟨bd, hbd⟩ : ∃ b : Bool, (d == 0) = b := ⟨_, rfl⟩
  obtain ⟨bs, hbs⟩ : ∃ b : Bool, (s == 0) = b := ⟨_, rfl⟩
  obtain ⟨bn, hbn⟩ : ∃ b : Bool, (n == 0) = b := ⟨_, rfl⟩
  obtain ⟨wn65535, hwn65535⟩ : ∃ b : Bool, inB n 0 65535 true = b := ⟨_, rfl⟩
  have hR : rightI ⟨o, d, s, n⟩ = (bd && bs && wn65535) := by
    rw [Bool.eq_iff_iff, lim_8 _ _ _ _ h]
    subst hbd hbs hbn hwn65535
    simp [inB]
    try omega
  have HR := Lib.hid hR
  have hcl := fun W => class15 o W h0
  rw [hc] at hcl
  have HCL := Lib.hid hcl
  have kwn65535 := fun W => within15 n 0 65535 W
  rw [hwn65535] at kwn65535
  have Kwn65535 := Lib.hid kwn65535
  clear kwn65535
  clear hR hcl h hc h0 hwn65535
  cases bd
  · skip
    go_enter Try.func57, Try.ntmps57
    go_wp2_with fail
    go_quiet (fail)
    go_wp2_with (first | (go_at_call 78; refine (HCL.out _).mono ?_; rintro e w1 ⟨rfl, rfl⟩) | (go_at_call 79; ((with_reducible refine (Kwn65535.out _).mono ?_)); rintro e w1 ⟨rfl, rfl⟩))
    go_ret
    exact codeQ_of HR.out (by simp) (below_drewN ((Below.refl _ _).alloc (Nat.le_refl _) _) _)
  · skip
    cases bs
    · skip
      go_enter Try.func57, Try.ntmps57
      go_wp2_with fail
      go_quiet (fail)
      go_wp2_with (first | (go_at_call 78; refine (HCL.out _).mono ?_; rintro e w1 ⟨rfl, rfl⟩) | (go_at_call 79; ((with_reducible refine (Kwn65535.out _).mono ?_)); rintro e w1 ⟨rfl, rfl⟩))
      go_ret
      exact codeQ_of HR.out (by simp) (below_drewN ((Below.refl _ _).alloc (Nat.le_refl _) _) _)
    · skip
      cases wn65535
      · skip
        go_enter Try.func57, Try.ntmps57
        go_wp2_with fail
        go_quiet (fail)
        go_wp2_with (first | (go_at_call 78; refine (HCL.out _).mono ?_; rintro e w1 ⟨rfl, rfl⟩) | (go_at_call 79; ((with_reducible refine (Kwn65535.out _).mono ?_)); rintro e w1 ⟨rfl, rfl⟩))
        go_ret
        exact codeQ_of HR.out (by simp) (below_drewN ((Below.refl _ _).alloc (Nat.le_refl _) _) _)
      · skip
        go_enter Try.func57, Try.ntmps57
        go_wp2_with fail
        go_quiet (fail)
        go_wp2_with (first | (go_at_call 78; refine (HCL.out _).mono ?_; rintro e w1 ⟨rfl, rfl⟩) | (go_at_call 79; ((with_reducible refine (Kwn65535.out _).mono ?_)); rintro e w1 ⟨rfl, rfl⟩))
        go_ret
        exact codeQ_of HR.out (by simp) (below_drewN ((Below.refl _ _).alloc (Nat.le_refl _) _) _)
set_option maxRecDepth 100000 in
set_option maxHeartbeats 4000000 in
theorem rightR_9 (o d s n : Int) (w : World) (h0 : 0 ≤ o) (h : shO o = ⟨true, -1, false, false, false, false, true⟩) (hc : cls o = 9) : Calls Try.prog 57 #[.agg #[.int .u8 o, .int .i64 d, .int .i64 s, .int .i64 n]] w (CodeQ ⟨o, d, s, n⟩ w) := by
  obtain ⟨bd, hbd⟩ : ∃ b : Bool, (d == 0) = b := ⟨_, rfl⟩
  obtain ⟨bs, hbs⟩ : ∃ b : Bool, (s == 0) = b := ⟨_, rfl⟩
  obtain ⟨bn, hbn⟩ : ∃ b : Bool, (n == 0) = b := ⟨_, rfl⟩
  obtain ⟨wn65535, hwn65535⟩ : ∃ b : Bool, inB n 0 65535 true = b := ⟨_, rfl⟩
  have hR : rightI ⟨o, d, s, n⟩ = (bd && bs && wn65535) := by
    rw [Bool.eq_iff_iff, lim_9 _ _ _ _ h]
    subst hbd hbs hbn hwn65535
    simp [inB]
    try omega
  have HR := Lib.hid hR
  have hcl := fun W => class15 o W h0
  rw [hc] at hcl
  have HCL := Lib.hid hcl
  have kwn65535 := fun W => within15 n 0 65535 W
  rw [hwn65535] at kwn65535
  have Kwn65535 := Lib.hid kwn65535
  clear kwn65535
  clear hR hcl h hc h0 hwn65535
  cases bd
  · skip
    go_enter Try.func57, Try.ntmps57
    go_wp2_with fail
    go_quiet (fail)
    go_wp2_with (first | (go_at_call 78; refine (HCL.out _).mono ?_; rintro e w1 ⟨rfl, rfl⟩) | (go_at_call 79; ((with_reducible refine (Kwn65535.out _).mono ?_)); rintro e w1 ⟨rfl, rfl⟩))
    go_ret
    exact codeQ_of HR.out (by simp) (below_drewN ((Below.refl _ _).alloc (Nat.le_refl _) _) _)
  · skip
    cases bs
    · skip
      go_enter Try.func57, Try.ntmps57
      go_wp2_with fail
      go_quiet (fail)
      go_wp2_with (first | (go_at_call 78; refine (HCL.out _).mono ?_; rintro e w1 ⟨rfl, rfl⟩) | (go_at_call 79; ((with_reducible refine (Kwn65535.out _).mono ?_)); rintro e w1 ⟨rfl, rfl⟩))
      go_ret
      exact codeQ_of HR.out (by simp) (below_drewN ((Below.refl _ _).alloc (Nat.le_refl _) _) _)
    · skip
      cases wn65535
      · skip
        go_enter Try.func57, Try.ntmps57
        go_wp2_with fail
        go_quiet (fail)
        go_wp2_with (first | (go_at_call 78; refine (HCL.out _).mono ?_; rintro e w1 ⟨rfl, rfl⟩) | (go_at_call 79; ((with_reducible refine (Kwn65535.out _).mono ?_)); rintro e w1 ⟨rfl, rfl⟩))
        go_ret
        exact codeQ_of HR.out (by simp) (below_drewN ((Below.refl _ _).alloc (Nat.le_refl _) _) _)
      · skip
        go_enter Try.func57, Try.ntmps57
        go_wp2_with fail
        go_quiet (fail)
        go_wp2_with (first | (go_at_call 78; refine (HCL.out _).mono ?_; rintro e w1 ⟨rfl, rfl⟩) | (go_at_call 79; ((with_reducible refine (Kwn65535.out _).mono ?_)); rintro e w1 ⟨rfl, rfl⟩))
        go_ret
        exact codeQ_of HR.out (by simp) (below_drewN ((Below.refl _ _).alloc (Nat.le_refl _) _) _)
theorem right15 (t : In) (w : World) (h0 : 0 ≤ t.o) : Calls Try.prog 57 #[t.agg] w (CodeQ t w) := by
  obtain ⟨o, d, s, n⟩ := t
  rcases sh_cases o with ⟨hc, h⟩ | ⟨hc, h⟩ | ⟨hc, h⟩ | ⟨hc, h⟩ | ⟨hc, h⟩ | ⟨hc, h⟩ | ⟨hc, h⟩ | ⟨hc, h⟩ | ⟨hc, h⟩ | ⟨hc, h⟩
  · exact rightR_0 o d s n w h0 h hc
  · exact rightR_1 o d s n w h0 h hc
  · exact rightR_2 o d s n w h0 h hc
  · exact rightR_3 o d s n w h0 h hc
  · exact rightR_4 o d s n w h0 h hc
  · exact rightR_5 o d s n w h0 h hc
  · exact rightR_6 o d s n w h0 h hc
  · exact rightR_7 o d s n w h0 h hc
  · exact rightR_8 o d s n w h0 h hc
  · exact rightR_9 o d s n w h0 h hc
end Go.Proofs.Ytebmgladdgmmeaa
