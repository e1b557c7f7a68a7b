/- The encoder's end; slices.Clone; the two lists of bytes that are compared: walks. -/
import Derived.Test.YtbjbpbblalcpkaaNewEnc
namespace Go.Proofs.Ytbjbpbblalcpkaa
open Go.RowKit Go.WideShapes
set_option linter.unusedVariables false
/-- A row of the call's own that reads as xs. -/
structure Owns (xs : List Int) (w0 : World) (e : Ending) (w : World) : Prop where
  ex : ∃ A c, e = .returned (.slice A xs.length c) ∧ xs.length ≤ c ∧ w.ownsRow w0.heap.size 5 1 (.slice A xs.length c) xs.length (octs xs)
  low : Below w0.heap.size w0 w
theorem clone_nil (w : World) : Calls Try.prog 31 #[.slice none 0 0] w (Owns [] w) := by
  have h := fun w => Lib.run_eql_slice_nil (P := Try.prog) w 30 5 none 0 0 0 0 Try.underlying30
  go_enter Try.func31, Try.ntmps31
  go_wp2
  go_ret
  exact ⟨⟨none, 0, rfl, by simp, ⟨rfl, .inl ⟨rfl, rfl⟩⟩⟩, Below.refl _ _⟩
set_option maxHeartbeats 2000000 in
theorem clone_some (xs : List Int) (a : Addr) (n c : Nat) (w : World) (hn : n = xs.length) (hr : Rd w (some a) (octs xs)) (hm : n ≤ 140737488351232) : Calls Try.prog 31 #[.slice (some a) n c] w (Owns xs w) := by
  subst hn
  have h := fun w => Lib.run_eql_slice_nil (P := Try.prog) w 30 5 (some a) xs.length c 0 0 Try.underlying30
  have HR := Lib.hid hr
  clear hr
  go_enter Try.func31, Try.ntmps31
  go_wp2_with (at_builtin; refine wpList_app tBytes rfl (.tmp 5) (.tmp 6) rfl w.heap.size (.slice (some ⟨w.heap.size, 0, none⟩) 0 0) 0 [] rfl (World.ownsRow_lit w #[] 0 (Nat.le_refl _) (by simp [maxLen]) rfl) (some a) _ c (octs xs) rfl (by rw [octs_length]) (HR.out.alloc _) (octs_one xs) (by omega) (by unfold maxLen; omega) (by simp) ?_; intro v1 w1 o1 hg1 hb1)
  rw [Nat.zero_add, List.nil_append] at o1
  obtain ⟨A1, c1, rfl, hc1⟩ := own_slice o1
  go_ret
  exact ⟨⟨A1, c1, rfl, hc1, o1⟩, ((Below.refl _ _).alloc (Nat.le_refl _) _).trans hb1⟩
theorem clone_any (xs : List Int) (A : Option Addr) (n c : Nat) (w : World) (hn : n = xs.length) (hr : Rd w A (octs xs)) (hA : A = none → n = 0 ∧ c = 0) (hm : n ≤ 140737488351232) : Calls Try.prog 31 #[.slice A n c] w (Owns xs w) := by
  rcases A with _ | a
  · obtain ⟨rfl, rfl⟩ := hA rfl
    obtain rfl := List.eq_nil_of_length_eq_zero hn.symm
    exact clone_nil w
  · exact clone_some xs a n c w hn hr hm
/-- A row of the call's own that reads as these. -/
structure OwnsV (E : TypeId) (us : List Value) (n : Nat) (w0 : World) (e : Ending) (w : World) : Prop where
  ex : ∃ A c, e = .returned (.slice A n c) ∧ n ≤ c ∧ w.ownsRow w0.heap.size E 1 (.slice A n c) n us
  low : Below w0.heap.size w0 w
set_option maxRecDepth 100000 in
set_option maxHeartbeats 1000000 in
/-- Same..: are the two lists one? -/
theorem sameB (xs ys : List Int) (A B : Option Addr) (n m c d : Nat) (w : World) (hn : n = xs.length) (hm : m = ys.length) (hA : Rd w A (xs.map (.int .u8))) (hB : Rd w B (ys.map (.int .u8))) (hl : n ≤ 9223372036854775807) :
    Calls Try.prog 14 #[.slice A n c, .slice B m d] w fun e w' => e = .returned (.bool (decide (xs = ys))) ∧ Below w.heap.size w w' := by
  have HA := Lib.hid hA
  have HB := Lib.hid hB
  clear hA hB
  have Hn := Lib.hid hn
  have Hm := Lib.hid hm
  clear hn hm
  by_cases hnm : n = m
  · have hq : ((n : Int) != (m : Int)) = false := by simp [hnm]
    have HQ := Lib.hid hnm
    clear hnm
    go_enter Try.func14, Try.ntmps14
    go_wp2_with fail
    go_loopw [5] (fun i wr => ∃ k : Nat, i = .int .i64 k ∧ k ≤ n ∧ xs.take k = ys.take k ∧ Below w.heap.size w wr) (fun i _ => n - (intOf i).toNat)
    case atStart => exact ⟨0, rfl, by omega, by simp, Below.refl _ _⟩
    case round =>
      obtain ⟨k, rfl, hk, ht, hb⟩ := hrel
      have HT := Lib.hid ht
      clear ht
      by_cases hlt : k < n
      · obtain ⟨x, hx⟩ : ∃ x, xs[k]? = some x := ⟨_, List.getElem?_eq_getElem (by rw [← Hn.out]; exact hlt)⟩
        obtain ⟨y, hy⟩ : ∃ y, ys[k]? = some y := ⟨_, List.getElem?_eq_getElem (by rw [← Hm.out, ← HQ.out]; exact hlt)⟩
        obtain ⟨b1, o1, rfl, _, hc1⟩ := ((HA.out).below hb rfl).at (k := k) (u := .int .u8 x) (by rw [List.getElem?_map, hx]; rfl)
        obtain ⟨b2, o2, rfl, _, hc2⟩ := ((HB.out).below hb rfl).at (k := k) (u := .int .u8 y) (by rw [List.getElem?_map, hy]; rfl)
        have HX := Lib.hid hx
        have HY := Lib.hid hy
        clear hx hy
        have hkm : (k : Int) < (m : Int) := by have := HQ.out; omega
        have hkn : (k : Int) < (n : Int) := by omega
        by_cases hxy : x = y
        · have e : (x != y) = false := by simp [hxy]
          have HE := Lib.hid hxy
          clear hxy
          go_wp2_with fail
          go_quiet (fail)
          go_wp2
          go_roundw
          case rel => exact ⟨k + 1, by go_num, by omega, by rw [List.take_add_one, List.take_add_one, HT.out, HX.out, HY.out, HE.out], below_drewN hb _⟩
          case measure => simp [intOf]; omega
        · have e : (x != y) = true := by simp [hxy]
          have HE := Lib.hid hxy
          clear hxy
          go_wp2_with fail
          go_quiet (fail)
          go_wp2
          go_ret
          refine ⟨ret_bool (decide_eq_false fun he => HE.out ?_).symm, below_drewN hb _⟩
          have := HX.out
          rw [he, HY.out] at this
          exact (Option.some.inj this).symm
      · go_wp2
        go_ret
        refine ⟨ret_bool (decide_eq_true ?_).symm, hb⟩
        have h1 := HT.out
        rwa [List.take_of_length_le (by rw [← Hn.out]; omega), List.take_of_length_le (by rw [← Hm.out, ← HQ.out]; omega)] at h1
  · have hq : ((n : Int) != (m : Int)) = true := by simp; omega
    have HQ := Lib.hid hnm
    clear hnm
    go_enter Try.func14, Try.ntmps14
    go_wp2
    go_ret
    exact ⟨ret_bool (decide_eq_false fun he => HQ.out (by rw [Hn.out, Hm.out, he])).symm, Below.refl _ _⟩

set_option maxHeartbeats 1000000 in
/-- Copy..: the same in memory of its own. -/
theorem copyB (xs : List Int) (A : Option Addr) (n c : Nat) (w : World) (hn : n = xs.length) (hA : Rd w A (xs.map (.int .u8))) (hl : n ≤ 1000000000) :
    Calls Try.prog 20 #[.slice A n c] w (OwnsV 5 (xs.map (.int .u8)) n w) := by
  have HA := Lib.hid hA
  have Hn := Lib.hid hn
  clear hA hn
  go_enter Try.func20, Try.ntmps20
  go_wp2_with fail
  go_loopw [3, 4] (fun v i wr => ∃ k : Nat, k ≤ n ∧ i = .int .i64 k ∧ wr.ownsRow w.heap.size 5 1 v k ((xs.map (.int .u8)).take k) ∧ Below w.heap.size w wr) (fun _ i _ => n - (intOf i).toNat)
  case atStart => exact ⟨0, by omega, rfl, ⟨rfl, .inl ⟨rfl, rfl⟩⟩, Below.refl _ _⟩
  case round =>
    obtain ⟨k, hk, rfl, ho, hb⟩ := hrel
    by_cases hlt : k < n
    · obtain ⟨u, hu⟩ : ∃ u, (xs.map (Value.int .u8))[k]? = some u := ⟨_, List.getElem?_eq_getElem (by rw [List.length_map, ← Hn.out]; exact hlt)⟩
      obtain ⟨b1, o1, rfl, _, hc1⟩ := (HA.out.below hb rfl).at hu
      obtain ⟨z, rfl⟩ : ∃ z, u = .int .u8 z := by
        rw [List.getElem?_map] at hu
        obtain ⟨z, _, hz⟩ := Option.map_eq_some_iff.1 hu
        exact ⟨z, hz.symm⟩
      have HU := Lib.hid hu
      clear hu
      go_wp2_with (at_builtin; refine wpList_app1 tBytes rfl (.tmp 11) (.tmp 16) rfl w.heap.size _ k _ rfl ho _ (by rfl) _ rfl rfl (by omega) (by unfold maxLen; omega) hb.size ?_; intro v2 w2 o2 _ hb2)
      go_roundw
      case rel =>
        refine ⟨k + 1, by omega, by go_num, ?_, hb.trans hb2⟩
        rw [List.take_add_one, HU.out]
        exact o2
      case measure => simp [intOf]; omega
    · have hkn : k = n := by omega
      subst hkn
      go_wp2
      go_ret
      rw [List.take_of_length_le (by rw [List.length_map, ← Hn.out]; omega)] at ho
      obtain ⟨A2, c2, rfl, hc2⟩ := own_slice ho
      exact ⟨⟨A2, c2, rfl, hc2, ho⟩, hb⟩

end Go.Proofs.Ytbjbpbblalcpkaa
