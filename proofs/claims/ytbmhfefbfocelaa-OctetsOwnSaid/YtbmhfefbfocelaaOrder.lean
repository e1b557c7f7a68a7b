/- OctetsOrder's walk: any two numbers, any two texts: true; nothing that was there is written. No condition. -/
import Derived.Test.YtbmhfefbfocelaaAwake
import Derived.Test.YtbmhfefbfocelaaOrderPlain
import Derived.RegionCalls
import Derived.Deep.RegionWith
namespace Go.Proofs.Ytbmhfefbfocelaa
open Go.RowKit Go.WideShapes
set_option linter.unusedVariables false
/-- A slice that reads as xs. -/
structure IsRd (xs : List Int) (M : Nat) (w0 : World) (e : Ending) (w : World) : Prop where
  ex : ∃ A c, e = .returned (.slice A M c) ∧ Rd w A (octs xs)
  low : Below w0.heap.size w0 w
structure IsRdE (xs : List Int) (M : Nat) (w0 : World) (e : Ending) (w : World) : Prop where
  ex : ∃ A c, e = .returned (.tuple #[.slice A M c, .int .i64 0]) ∧ Rd w A (octs xs)
  low : Below w0.heap.size w0 w
theorem add64_nil (v : Int) (w : World) (h0 : 0 ≤ v) (h1 : v ≤ 18446744073709551615) : Calls Try.prog 15 #[.slice none 0 0, .int .u64 v] w (IsRd (beI v 8) 8 w) := by
  refine (add64 [] v none 0 0 w rfl (Rd.nil _ _) (by omega) (by omega) h0 h1).mono ?_
  rintro e w1 ⟨⟨A, c, he, _, _, hown⟩, hb⟩
  exact ⟨⟨A, c, he, Rd.of_own hown⟩, hb⟩
theorem addText_nil (s : ByteArray) (n : Nat) (w : World) (hn : n = 2 + s.size) (hs : s.size ≤ 65535) : Calls Try.prog 16 #[.slice none 0 0, .string s] w (IsRdE (beI s.size 2 ++ strI s) n w) := by
  subst hn
  refine (addText_yes [] s none 0 0 w rfl (Rd.nil _ _) (by omega) (by omega) hs).mono ?_
  rintro e w1 ⟨⟨A, c, he, _, _, hown⟩, hb⟩
  rw [show 0 + 2 + s.size = 2 + s.size by omega] at he hown
  exact ⟨⟨A, c, he, Rd.of_own hown⟩, hb⟩
theorem str_run (w : World) (A : Option Addr) (n c : Nat) (bs : List Int) (hn : n = bs.length) (hr : Rd w A (octs bs)) : (convert 22 9 (.slice A n c)).run Try.prog w = .ok (.string (strOfNums bs)) w :=
  run_str Try.underlying22 Try.underlying5 Try.underlying9 w A n c bs hn hr
set_option maxRecDepth 100000 in
set_option maxHeartbeats 8000000 in
theorem order_any (a b : Int) (s t : ByteArray) (w : World) (a0 : 0 ≤ a) (a1 : a ≤ 18446744073709551615) (b0 : 0 ≤ b) (b1 : b ≤ 18446744073709551615) (hs : s.size ≤ maxLen) (ht : t.size ≤ maxLen) :
    Calls Try.prog 4 #[.int .u64 a, .int .u64 b, .string s, .string t] w fun e w' => e = .returned (.bool true) ∧ Below w.heap.size w w' := by
  unfold maxLen at hs ht
  by_cases hbig : 300 < s.size ∨ 300 < t.size
  · rcases hbig with h | h
    · have h' : (300 : Int) < (s.size : Int) := by omega
      go_enter Try.func4, Try.ntmps4
      go_wp2_with (go_at_call 10; refine (awake_any _).mono ?_; rintro e w1 ⟨rfl, hb1⟩)
      go_ret
      exact ⟨rfl, hb1⟩
    · have h' : (300 : Int) < (t.size : Int) := by omega
      by_cases h2 : (300 : Int) < (s.size : Int)
      all_goals
        go_enter Try.func4, Try.ntmps4
        go_wp2_with (go_at_call 10; refine (awake_any _).mono ?_; rintro e w1 ⟨rfl, hb1⟩)
        go_ret
        exact ⟨rfl, hb1⟩
  obtain ⟨o1, o2⟩ := be_order 8 a b a0 (by omega) b0 (by omega)
  obtain ⟨t1, t2⟩ := text_order s t (by omega) (by omega)
  have la : 8 = (beI a 8).length := (beI_length _ _).symm
  have lb : 8 = (beI b 8).length := (beI_length _ _).symm
  have lu : 2 + s.size = (beI s.size 2 ++ strI s).length := by rw [List.length_append, beI_length, strI_length]
  have lv : 2 + t.size = (beI t.size 2 ++ strI t).length := by rw [List.length_append, beI_length, strI_length]
  rw [← strOfNums_list, ← strOfNums_list] at o1 o2 t1 t2
  have h1 : (s.size : Int) ≤ 300 := by omega
  have h2 : (t.size : Int) ≤ 300 := by omega
  have o3 : (decide (a = b)) = (a == b) := by rw [Bool.eq_iff_iff]; simp
  rw [o3] at o2
  clear o3
  clear hbig
  generalize hA : beI a 8 = ba at *
  generalize hB : beI b 8 = bb at *
  generalize hU : beI s.size 2 ++ strI s = bu at *
  generalize hV : beI t.size 2 ++ strI t = bv at *
  generalize hX : strOfNums ba = X at *
  generalize hY : strOfNums bb = Y at *
  generalize hP : strOfNums bu = P at *
  generalize hQ : strOfNums bv = Q at *
  have HA := Lib.hid hA
  have HB := Lib.hid hB
  have HU := Lib.hid hU
  have HV := Lib.hid hV
  have HX := Lib.hid hX
  have HY := Lib.hid hY
  have HP := Lib.hid hP
  have HQ := Lib.hid hQ
  have LA := Lib.hid la
  have LB := Lib.hid lb
  have LU := Lib.hid lu
  have LV := Lib.hid lv
  clear hA hB hU hV hX hY hP hQ la lb lu lv
  rcases (show (s.size : Int) < t.size ∨ (s.size = t.size) ∨ (t.size : Int) < s.size from by omega) with g | g | g
  · have g1 : decide ((s.size : Int) < t.size) = true := by simp; omega
    rw [show decide (s.size < t.size) = true from by simp; omega, Bool.true_or] at t1
    go_enter Try.func4, Try.ntmps4
    go_wp2_with fail
    go_region_with (first
      | (go_at_call_of 15 a; ((with_reducible refine (add64_nil a _ a0 a1).mono ?_)); rw [HA.out]; rintro e w1 ⟨⟨A1, c1, rfl, hr1⟩, hb1⟩; have x1 := str_run w1 A1 8 c1 ba LA.out hr1; rw [HX.out] at x1; have R1 := Lib.hid hr1; clear hr1)
      | (go_at_call_of 15 b; ((with_reducible refine (add64_nil b _ b0 b1).mono ?_)); rw [HB.out]; rintro e w2 ⟨⟨A2, c2, rfl, hr2⟩, hb2⟩; have x2 := str_run w2 A1 8 c1 ba LA.out (R1.out.below hb2 rfl); rw [HX.out] at x2; have y2 := str_run w2 A2 8 c2 bb LB.out hr2; rw [HY.out] at y2; clear hr2))
    all_goals
      clear x1
      try clear x2
      clear y2
      have k2 : Below w.heap.size w w2 := ch0 (of_drew hb1) hb2
      clear hb1 hb2
      have K2 := Lib.hid k2
      clear k2
      go_wp2_with fail
      refine (addText_nil s _ _ rfl (by omega)).mono ?_
      rw [HU.out]
      rintro e w3 ⟨⟨A3, c3, rfl, hr3⟩, hb3⟩
      have R3 := Lib.hid hr3
      have K3 := Lib.hid (ch0 K2.out hb3)
      clear hr3 hb3
      go_wp2_with fail
      refine (addText_nil t _ _ rfl (by omega)).mono ?_
      rw [HV.out]
      rintro e w4 ⟨⟨A4, c4, rfl, hr4⟩, hb4⟩
      have x4 := str_run w4 A3 (2 + s.size) c3 bu LU.out (R3.out.below hb4 rfl)
      rw [HP.out] at x4
      have y4 := str_run w4 A4 (2 + t.size) c4 bv LV.out hr4
      rw [HQ.out] at y4
      clear hr4
      have K4 := Lib.hid (ch0 K3.out hb4)
      clear hb4
      go_wp2_with (go_at_call 10; refine (awake_any _).mono ?_; rintro e w5 ⟨rfl, hb5⟩)
      go_ret
      exact ⟨by simp, ch0 K4.out hb5⟩
  · have g0 : decide ((s.size : Int) < t.size) = false := by simp; omega
    have g1 : ((s.size : Int) == t.size) = true := by simp; omega
    rw [show decide (s.size < t.size) = false from by simp; omega, show decide (s.size = t.size) = true from by simp; omega, Bool.false_or, Bool.true_and] at t1
    have G := Lib.hid g
    have g2 : (t.size : Int) ≤ s.size := by omega
    clear g
    rcases hbl : Op.bytesLess s.toList t.toList with _ | _
    all_goals
      rw [hbl] at t1
      go_enter Try.func4, Try.ntmps4
      go_wp2_with fail
      go_region_with (first
        | (go_at_call_of 15 a; ((with_reducible refine (add64_nil a _ a0 a1).mono ?_)); rw [HA.out]; rintro e w1 ⟨⟨A1, c1, rfl, hr1⟩, hb1⟩; have x1 := str_run w1 A1 8 c1 ba LA.out hr1; rw [HX.out] at x1; have R1 := Lib.hid hr1; clear hr1)
        | (go_at_call_of 15 b; ((with_reducible refine (add64_nil b _ b0 b1).mono ?_)); rw [HB.out]; rintro e w2 ⟨⟨A2, c2, rfl, hr2⟩, hb2⟩; have x2 := str_run w2 A1 8 c1 ba LA.out (R1.out.below hb2 rfl); rw [HX.out] at x2; have y2 := str_run w2 A2 8 c2 bb LB.out hr2; rw [HY.out] at y2; clear hr2))
      all_goals
        clear x1
        try clear x2
        clear y2
        have k2 : Below w.heap.size w w2 := ch0 (of_drew hb1) hb2
        clear hb1 hb2
        have K2 := Lib.hid k2
        clear k2
        go_wp2_with fail
        refine (addText_nil s _ _ rfl (by omega)).mono ?_
        rw [HU.out]
        rintro e w3 ⟨⟨A3, c3, rfl, hr3⟩, hb3⟩
        have R3 := Lib.hid hr3
        have K3 := Lib.hid (ch0 K2.out hb3)
        clear hr3 hb3
        go_wp2_with fail
        refine (addText_nil t _ _ rfl (by omega)).mono ?_
        rw [HV.out]
        rintro e w4 ⟨⟨A4, c4, rfl, hr4⟩, hb4⟩
        have x4 := str_run w4 A3 (2 + s.size) c3 bu LU.out (R3.out.below hb4 rfl)
        rw [HP.out] at x4
        have y4 := str_run w4 A4 (2 + t.size) c4 bv LV.out hr4
        rw [HQ.out] at y4
        clear hr4
        have K4 := Lib.hid (ch0 K3.out hb4)
        clear hb4
        go_wp2_with (go_at_call 10; refine (awake_any _).mono ?_; rintro e w5 ⟨rfl, hb5⟩)
        go_ret
        exact ⟨by have := G.out; simp; try omega, ch0 K4.out hb5⟩
  · have g0 : decide ((s.size : Int) < t.size) = false := by simp; omega
    have g1 : ((s.size : Int) == t.size) = false := by simp; omega
    rw [show decide (s.size < t.size) = false from by simp; omega, show decide (s.size = t.size) = false from by simp; omega, Bool.false_or, Bool.false_and] at t1
    go_enter Try.func4, Try.ntmps4
    go_wp2_with fail
    go_region_with (first
      | (go_at_call_of 15 a; ((with_reducible refine (add64_nil a _ a0 a1).mono ?_)); rw [HA.out]; rintro e w1 ⟨⟨A1, c1, rfl, hr1⟩, hb1⟩; have x1 := str_run w1 A1 8 c1 ba LA.out hr1; rw [HX.out] at x1; have R1 := Lib.hid hr1; clear hr1)
      | (go_at_call_of 15 b; ((with_reducible refine (add64_nil b _ b0 b1).mono ?_)); rw [HB.out]; rintro e w2 ⟨⟨A2, c2, rfl, hr2⟩, hb2⟩; have x2 := str_run w2 A1 8 c1 ba LA.out (R1.out.below hb2 rfl); rw [HX.out] at x2; have y2 := str_run w2 A2 8 c2 bb LB.out hr2; rw [HY.out] at y2; clear hr2))
    all_goals
      clear x1
      try clear x2
      clear y2
      have k2 : Below w.heap.size w w2 := ch0 (of_drew hb1) hb2
      clear hb1 hb2
      have K2 := Lib.hid k2
      clear k2
      go_wp2_with fail
      refine (addText_nil s _ _ rfl (by omega)).mono ?_
      rw [HU.out]
      rintro e w3 ⟨⟨A3, c3, rfl, hr3⟩, hb3⟩
      have R3 := Lib.hid hr3
      have K3 := Lib.hid (ch0 K2.out hb3)
      clear hr3 hb3
      go_wp2_with fail
      refine (addText_nil t _ _ rfl (by omega)).mono ?_
      rw [HV.out]
      rintro e w4 ⟨⟨A4, c4, rfl, hr4⟩, hb4⟩
      have x4 := str_run w4 A3 (2 + s.size) c3 bu LU.out (R3.out.below hb4 rfl)
      rw [HP.out] at x4
      have y4 := str_run w4 A4 (2 + t.size) c4 bv LV.out hr4
      rw [HQ.out] at y4
      clear hr4
      have K4 := Lib.hid (ch0 K3.out hb4)
      clear hb4
      go_wp2_with (go_at_call 10; refine (awake_any _).mono ?_; rintro e w5 ⟨rfl, hb5⟩)
      go_ret
      exact ⟨by simp; try omega, ch0 K4.out hb5⟩
theorem order_law (a b : Int) (s t : ByteArray) (w : World) (ha : (Lit.int .u64 a).wf = true) (hb : (Lit.int .u64 b).wf = true) (hs : s.size ≤ maxLen) (ht : t.size ≤ maxLen) :
    Calls Try.prog 4 #[.int .u64 a, .int .u64 b, .string s, .string t] w fun e w' => e = .returned (.bool true) ∧ Below w.heap.size w w' :=
  order_any a b s t w (wf_u64 ha).1 (wf_u64 ha).2 (wf_u64 hb).1 (wf_u64 hb).2 hs ht
end Go.Proofs.Ytbmhfefbfocelaa
