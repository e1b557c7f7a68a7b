/- Lists of numbers, of words, of parts: copied, compared: walks. -/
import Derived.Test.YtnohfeaamfjimaaVpBlOa
import Derived.StillTailTactics
import Derived.IntWalk
namespace Go.Proofs.Ytnohfeaamfjimaa
open Go.RowKit Go.WideShapes
set_option linter.unusedVariables false
set_option linter.unusedSimpArgs false
set_option maxRecDepth 100000 in
set_option maxHeartbeats 1000000 in
/-- Same..: are the two lists one? -/
theorem sameI_any (xs ys : List Int) (A B : Option Addr) (n m c d : Nat) (w : World) (hn : n = xs.length) (hm : m = ys.length) (hA : Rd w A (xs.map (.int .i64))) (hB : Rd w B (ys.map (.int .i64))) (hl : n ≤ 9223372036854775807) :
    Calls Try.prog 22 #[.slice A n c, .slice B m d] w fun e w' => e = .returned (.bool (decide (xs = ys))) ∧ Below w.heap.size w w' := by
  have HA := Lib.hid hA
  have HB := Lib.hid hB
  clear hA hB
  have Hn := Lib.hid hn
  have Hm := Lib.hid hm
  clear hn hm
  by_cases hnm : n = m
  · have hq : ((n : Int) != (m : Int)) = false := by simp [hnm]
    have HQ := Lib.hid hnm
    clear hnm
    go_enter Try.func22, Try.ntmps22
    go_wp2_with fail
    go_loopw [5] (fun i wr => ∃ k : Nat, i = .int .i64 k ∧ k ≤ n ∧ xs.take k = ys.take k ∧ Below w.heap.size w wr) (fun i _ => n - (intOf i).toNat)
    case atStart => exact ⟨0, rfl, by omega, by simp, Below.refl _ _⟩
    case round =>
      obtain ⟨k, rfl, hk, ht, hb⟩ := hrel
      have HT := Lib.hid ht
      clear ht
      by_cases hlt : k < n
      · obtain ⟨x, hx⟩ : ∃ x, xs[k]? = some x := ⟨_, List.getElem?_eq_getElem (by rw [← Hn.out]; exact hlt)⟩
        obtain ⟨y, hy⟩ : ∃ y, ys[k]? = some y := ⟨_, List.getElem?_eq_getElem (by rw [← Hm.out, ← HQ.out]; exact hlt)⟩
        obtain ⟨b1, o1, rfl, _, hc1⟩ := ((HA.out).below hb rfl).at (k := k) (u := .int .i64 x) (by rw [List.getElem?_map, hx]; rfl)
        obtain ⟨b2, o2, rfl, _, hc2⟩ := ((HB.out).below hb rfl).at (k := k) (u := .int .i64 y) (by rw [List.getElem?_map, hy]; rfl)
        have HX := Lib.hid hx
        have HY := Lib.hid hy
        clear hx hy
        have hkm : (k : Int) < (m : Int) := by have := HQ.out; omega
        have hkn : (k : Int) < (n : Int) := by omega
        by_cases hxy : x = y
        · have e : (x != y) = false := by simp [hxy]
          have HE := Lib.hid hxy
          clear hxy
          go_wp2_with fail
          go_quiet (fail)
          go_wp2
          go_roundw
          case rel => exact ⟨k + 1, by go_num, by omega, by rw [List.take_add_one, List.take_add_one, HT.out, HX.out, HY.out, HE.out], below_drewN hb _⟩
          case measure => simp [intOf]; omega
        · have e : (x != y) = true := by simp [hxy]
          have HE := Lib.hid hxy
          clear hxy
          go_wp2_with fail
          go_quiet (fail)
          go_wp2
          go_ret
          refine ⟨ret_bool (decide_eq_false fun he => HE.out ?_).symm, below_drewN hb _⟩
          have := HX.out
          rw [he, HY.out] at this
          exact (Option.some.inj this).symm
      · go_wp2
        go_ret
        refine ⟨ret_bool (decide_eq_true ?_).symm, hb⟩
        have h1 := HT.out
        rwa [List.take_of_length_le (by rw [← Hn.out]; omega), List.take_of_length_le (by rw [← Hm.out, ← HQ.out]; omega)] at h1
  · have hq : ((n : Int) != (m : Int)) = true := by simp; omega
    have HQ := Lib.hid hnm
    clear hnm
    go_enter Try.func22, Try.ntmps22
    go_wp2
    go_ret
    exact ⟨ret_bool (decide_eq_false fun he => HQ.out (by rw [Hn.out, Hm.out, he])).symm, Below.refl _ _⟩
end Go.Proofs.Ytnohfeaamfjimaa
