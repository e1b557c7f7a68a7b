/- slices.Equal over []byte, the helpers that lend and keep bytes; rows within the form's reach. -/
import Derived.Test.YtbmhfefbfocelaaRefAdd
import Derived.RegionCalls
import Derived.Deep.RegionWith
namespace Go.Proofs.Ytbmhfefbfocelaa
open Go.RowKit Go.WideShapes
set_option linter.unusedVariables false
set_option maxRecDepth 100000 in
set_option maxHeartbeats 1000000 in
/-- slices.Equal over numbers of the kind u8: are the two lists one? -/
theorem equalB (xs ys : List Int) (A B : Option Addr) (n m c d : Nat) (w : World) (hn : n = xs.length) (hm : m = ys.length) (hA : Rd w A (xs.map (.int .u8))) (hB : Rd w B (ys.map (.int .u8))) (hl : n ≤ 9223372036854775807) :
    Calls Try.prog 43 #[.slice A n c, .slice B m d] w fun e w' => e = .returned (.bool (decide (xs = ys))) ∧ Below w.heap.size w w' := by
  have HA := Lib.hid hA
  have HB := Lib.hid hB
  clear hA hB
  have Hn := Lib.hid hn
  have Hm := Lib.hid hm
  clear hn hm
  by_cases hnm : n = m
  · have hq : ((n : Int) != (m : Int)) = false := by simp [hnm]
    have HQ := Lib.hid hnm
    clear hnm
    go_enter Try.func43, Try.ntmps43
    go_wp2_with fail
    go_loopw [13] (fun i wr => ∃ k : Nat, i = .int .i64 k ∧ k ≤ n ∧ xs.take k = ys.take k ∧ Below w.heap.size w wr) (fun i _ => n - (intOf i).toNat)
    case atStart => exact ⟨0, rfl, by omega, by simp, Below.refl _ _⟩
    case round =>
      obtain ⟨k, rfl, hk, ht, hb⟩ := hrel
      have HT := Lib.hid ht
      clear ht
      by_cases hlt : k < n
      · obtain ⟨x, hx⟩ : ∃ x, xs[k]? = some x := ⟨_, List.getElem?_eq_getElem (by rw [← Hn.out]; exact hlt)⟩
        obtain ⟨y, hy⟩ : ∃ y, ys[k]? = some y := ⟨_, List.getElem?_eq_getElem (by rw [← Hm.out, ← HQ.out]; exact hlt)⟩
        obtain ⟨b1, o1, rfl, _, hc1⟩ := ((HA.out).below hb rfl).at (k := k) (u := .int .u8 x) (by rw [List.getElem?_map, hx]; rfl)
        obtain ⟨b2, o2, rfl, _, hc2⟩ := ((HB.out).below hb rfl).at (k := k) (u := .int .u8 y) (by rw [List.getElem?_map, hy]; rfl)
        have HX := Lib.hid hx
        have HY := Lib.hid hy
        clear hx hy
        have hkm : (k : Int) < (m : Int) := by have := HQ.out; omega
        have hkn : (k : Int) < (n : Int) := by omega
        by_cases hxy : x = y
        · have e : (x != y) = false := by simp [hxy]
          have HE := Lib.hid hxy
          clear hxy
          go_wp2_with fail
          go_quiet (fail)
          go_wp2
          go_roundw
          case rel => exact ⟨k + 1, by go_num, by omega, by rw [List.take_add_one, List.take_add_one, HT.out, HX.out, HY.out, HE.out], below_drewN hb _⟩
          case measure => simp [intOf]; omega
        · have e : (x != y) = true := by simp [hxy]
          have HE := Lib.hid hxy
          clear hxy
          go_wp2_with fail
          go_quiet (fail)
          go_wp2
          go_ret
          refine ⟨ret_bool (decide_eq_false fun he => HE.out ?_).symm, below_drewN hb _⟩
          have := HX.out
          rw [he, HY.out] at this
          exact (Option.some.inj this).symm
      · go_wp2
        go_ret
        refine ⟨ret_bool (decide_eq_true ?_).symm, hb⟩
        have h1 := HT.out
        rwa [List.take_of_length_le (by rw [← Hn.out]; omega), List.take_of_length_le (by rw [← Hm.out, ← HQ.out]; omega)] at h1
  · have hq : ((n : Int) != (m : Int)) = true := by simp; omega
    have HQ := Lib.hid hnm
    clear hnm
    go_enter Try.func43, Try.ntmps43
    go_wp2
    go_ret
    exact ⟨ret_bool (decide_eq_false fun he => HQ.out (by rw [Hn.out, Hm.out, he])).symm, Below.refl _ _⟩

def tailI : List Int := [116, 97, 105, 108]
theorem tail_cells : Go.Lib.strCells ⟨#[116, 97, 105, 108]⟩ = octs tailI := by rfl
theorem tail_oct : Oct tailI := by unfold Oct tailI; decide
/-- A row of the call's own that reads as these bytes. -/
structure OwnsB (base : Nat) (bs : List Int) (w0 : World) (e : Ending) (w : World) : Prop where
  ex : ∃ A c, e = .returned (.slice A bs.length c) ∧ bs.length ≤ c ∧ w.ownsRow base 5 1 (.slice A bs.length c) bs.length (octs bs)
  low : Below w0.heap.size w0 w
set_option maxHeartbeats 1000000 in
theorem own_any (bs : List Int) (A : Option Addr) (c : Nat) (w : World) (hr : Rd w A (octs bs)) (hl : bs.length ≤ 140737488351232) :
    Calls Try.prog 41 #[.slice A bs.length c] w (OwnsB w.heap.size bs w) := by
  have HR := Lib.hid hr
  clear hr
  go_enter Try.func41, Try.ntmps41
  go_wp2_with (at_builtin; refine wpList_app tBytes rfl (.const (.slice none 0 0)) (.tmp 3) rfl w.heap.size _ 0 [] rfl (World.ownsRow_nil w w.heap.size 5 1) A _ c (octs bs) rfl (by simp [octs]) HR.out (octs_one bs) (by omega) (by unfold maxLen; omega) (Nat.le_refl _) ?_; intro v1 w1 hown1 _ hb1)
  simp only [Nat.zero_add, List.nil_append] at hown1
  obtain ⟨A1, c1, hv, hc1⟩ := own_slice hown1
  rw [hv] at hown1
  go_ret
  exact ⟨⟨A1, c1, by rw [← hv]; rfl, hc1, hown1⟩, hb1⟩
set_option maxHeartbeats 1000000 in
theorem lent_any (bs : List Int) (A : Option Addr) (c : Nat) (w : World) (hr : Rd w A (octs bs)) (hl : bs.length ≤ 140737488351232) :
    Calls Try.prog 42 #[.slice A bs.length c] w (OwnsB w.heap.size (bs ++ tailI) w) := by
  have HR := Lib.hid hr
  clear hr
  go_enter Try.func42, Try.ntmps42
  go_wp2_with fail
  refine (own_any bs A c w HR.out hl).mono ?_
  rintro e w1 ⟨⟨A1, c1, rfl, hc1, hown1⟩, hb1⟩
  go_wp2_with (at_builtin; refine wpList_app_string tBytes 9 Try.underlying9 rfl (.tmp 4) _ rfl w.heap.size _ bs.length (octs bs) rfl hown1 ⟨#[116, 97, 105, 108]⟩ rfl (by show bs.length + 4 ≤ _; omega) hb1.size ?_; intro v2 w2 hown2 _ hb2)
  rw [tail_cells] at hown2
  obtain ⟨A2, c2, hv, hc2⟩ := own_slice hown2
  rw [hv] at hown2
  go_ret
  have e1 : octs bs ++ octs tailI = octs (bs ++ tailI) := by simp [octs]
  have e2 : bs.length + ByteArray.size ⟨#[116, 97, 105, 108]⟩ = (bs ++ tailI).length := by rw [List.length_append]; rfl
  rw [e1, e2] at hown2
  rw [e2] at hc2 hv
  exact ⟨⟨A2, c2, by rw [← hv]; rfl, hc2, hown2⟩, hb1.trans hb2⟩
structure OwnsL (base : Nat) (bs : List Int) (w0 : World) (e : Ending) (w : World) : Prop where
  ex : ∃ A c, e = .returned (.slice A (bs.length + 4) c) ∧ Rd w A (octs (bs ++ tailI))
  low : Below w0.heap.size w0 w
theorem lent4_any (bs : List Int) (A : Option Addr) (c : Nat) (w : World) (hr : Rd w A (octs bs)) (hl : bs.length ≤ 140737488351232) :
    Calls Try.prog 42 #[.slice A bs.length c] w (OwnsL w.heap.size bs w) :=
  (lent_any bs A c w hr hl).mono fun e w' ⟨⟨A1, c1, he, _, hown⟩, hb⟩ => by
    have hlen : (bs ++ tailI).length = bs.length + 4 := by rw [List.length_append]; rfl
    rw [hlen] at he
    exact ⟨⟨A1, c1, he, Rd.of_own hown⟩, hb⟩
/-- Lent bytes: a row of the call's own, 'tail' behind them. -/
structure Lent (base : Nat) (bs : List Int) (A : Option Addr) (c : Nat) (w : World) : Prop where
  cap : bs.length + 4 ≤ c
  own : w.ownsRow base 5 1 (.slice A (bs.length + 4) c) (bs.length + 4) (octs (bs ++ tailI))
structure IsLent (bs : List Int) (w0 : World) (e : Ending) (w : World) : Prop where
  ex : ∃ A c, e = .returned (.slice A bs.length c) ∧ Lent w0.heap.size bs A c w
  low : Below w0.heap.size w0 w
theorem Lent.below {base : Nat} {bs : List Int} {A : Option Addr} {c : Nat} {w w' : World} (h : Lent base bs A c w) (hb : Below w.heap.size w w') : Lent base bs A c w' := ⟨h.cap, own_below h.own hb⟩
theorem Lent.capm {base : Nat} {bs : List Int} {A : Option Addr} {c : Nat} {w : World} (h : Lent base bs A c w) : c ≤ maxLen := by
  rcases h.own.2 with ⟨h0, hn⟩ | ⟨g, cap, cur, hv, _, _, _, hm, _⟩
  · omega
  · injection hv with _ _ hc; omega
theorem Lent.rd4 {base : Nat} {bs : List Int} {A : Option Addr} {c : Nat} {w : World} (h : Lent base bs A c w) : Rd w A (octs (bs ++ tailI)) := Rd.of_own h.own
theorem Lent.rd {base : Nat} {bs : List Int} {A : Option Addr} {c : Nat} {w : World} (h : Lent base bs A c w) : Rd w A (octs bs) := by
  have := h.rd4.take bs.length
  rwa [show (octs (bs ++ tailI)).take bs.length = octs bs by simp [octs]] at this
set_option maxHeartbeats 1000000 in
theorem lentBytes_any (bs : List Int) (A : Option Addr) (c : Nat) (w : World) (hr : Rd w A (octs bs)) (hl : bs.length ≤ 140737488351232) :
    Calls Try.prog 26 #[.slice A bs.length c] w (IsLent bs w) := by
  have HR := Lib.hid hr
  clear hr
  go_enter Try.func26, Try.ntmps26
  go_wp2_with fail
  refine (lent_any bs A c w HR.out hl).mono ?_
  rintro e w1 ⟨⟨A1, c1, rfl, hc1, hown1⟩, hb1⟩
  have hlen : (bs ++ tailI).length = bs.length + 4 := by rw [List.length_append]; rfl
  rw [hlen] at hc1 hown1
  rw [hlen]
  clear hlen
  go_wp2
  go_ret
  exact ⟨⟨A1, c1, rfl, hc1, hown1⟩, hb1⟩
set_option maxHeartbeats 1000000 in
theorem kept_any (base : Nat) (bs : List Int) (A B : Option Addr) (c d : Nat) (w : World) (hL : Lent base bs A c w) (hr : Rd w B (octs bs)) (hl : bs.length ≤ 140737488351232) (hcm : c ≤ maxLen) :
    Calls Try.prog 31 #[.slice A bs.length c, .slice B bs.length d] w fun e w' => e = .returned (.bool true) ∧ Below w.heap.size w w' := by
  have HR := Lib.hid hr
  have HL := Lib.hid hL
  have hc4 := hL.cap
  unfold maxLen at hcm
  clear hr hL
  have hlen : (bs ++ tailI).length = bs.length + 4 := by rw [List.length_append]; rfl
  have HN := Lib.hid hlen
  clear hlen
  have hw : IntKind.i64.wrap ((bs.length : Int) + 4) = (bs.length : Int) + 4 := IntWalk.i64_in _ (by omega)
  go_enter Try.func31, Try.ntmps31
  go_wp2_with fail
  go_region_with (first
    | (go_at_call 42; refine (lent4_any bs B d _ (Rd.drew HR.out) hl).mono ?_; rintro e w1 ⟨⟨A1, c1, rfl, hown1⟩, hb1⟩)
    | (go_at_call 43; refine (equalB (bs ++ tailI) (bs ++ tailI) _ _ _ _ _ _ _ HN.out.symm HN.out.symm ((Rd.drew (HL.out).rd4).below hb1 rfl) hown1 (by omega)).mono ?_; rintro e w2 ⟨rfl, hb2⟩))
  all_goals
    go_wp2
    go_ret
    exact ⟨rfl, (of_drew hb1).trans (hb2.mono hb1.size)⟩
end Go.Proofs.Ytbmhfefbfocelaa
