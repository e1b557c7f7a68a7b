/- ones: so many ones: the walk. Condition: at least one, at most 100000. -/
import Derived.Test.YtlhhkmpidnegcaaVeGt
namespace Go.Proofs.Ytlhhkmpidnegcaa
open Go.RowKit Go.WideShapes
set_option linter.unusedVariables false
set_option linter.unusedSimpArgs false
structure IsOnes (n : Nat) (w0 : World) (e : Ending) (w : World) : Prop where
  ex : ∃ g, w0.heap.size ≤ g ∧ e = .returned (.slice (some ⟨g, 0, none⟩) n n) ∧ Rd w (some ⟨g, 0, none⟩) (ints (List.replicate n 1))
  low : Below w0.heap.size w0 w
/-- n numbers in block g, the first k of them one. -/
structure On (g n k : Nat) (w : World) : Prop where
  ex : ∃ l : List Int, l.length = n ∧ (∀ i, i < k → l[i]? = some 1) ∧ Blk w g 3 (ints l).toArray
theorem On.step {g n k : Nat} {w : World} (h : On g n k w) (hk : k < n) : On g n (k + 1) (w.setCell ⟨g, k, none⟩ (.int .i64 1)) := by
  obtain ⟨l, hl, h1, hb⟩ := h.ex
  refine ⟨l.set k 1, by rw [List.length_set, hl], fun i hi => ?_, ?_⟩
  · rw [List.getElem?_set]
    split
    · rw [if_pos (by omega)]
    · exact h1 i (by omega)
  · have := hb.set k (.int .i64 1)
    rw [List.setIfInBounds_toArray] at this
    rw [show ints (l.set k 1) = (ints l).set k (.int .i64 1) by unfold ints; rw [List.map_set]]
    exact this
theorem On.done {g n : Nat} {w : World} (h : On g n n w) : Rd w (some ⟨g, 0, none⟩) (ints (List.replicate n 1)) := by
  obtain ⟨l, hl, h1, hb⟩ := h.ex
  have he : l = List.replicate n 1 := by
    apply List.ext_getElem?
    intro i
    by_cases hi : i < n
    · rw [h1 i hi, List.getElem?_replicate, if_pos hi]
    · rw [List.getElem?_eq_none (by omega), List.getElem?_eq_none (by rw [List.length_replicate]; omega)]
  rw [← he]
  exact fun _ => ⟨g, 0, rfl, hb.lt, fun k y hk => by rw [Nat.zero_add, hb.cell]; simpa using hk⟩
theorem On.cell {g n k : Nat} {w : World} (h : On g n k w) (hk : k < n) : (∃ v, w.cell? ⟨g, k, none⟩ = some v) ∧ w.frozen? ⟨g, k, none⟩ = false := by
  obtain ⟨l, hl, h1, hb⟩ := h.ex
  refine ⟨⟨.int .i64 l[k], ?_⟩, hb.frozen k⟩
  rw [hb.cell]
  simp [ints]
theorem On.start {n g : Nat} {w : World} (hn : 0 < n) (h : w.ownsRow g 3 1 (.slice (some ⟨g, 0, none⟩) n n) n (List.replicate n (.int .i64 0))) : On g n 0 w := by
  rcases h.2 with ⟨h0, _⟩ | ⟨g', cap, cur, hv, _, hg, h1, h2, hs, ht⟩
  · cases h0
  · injection hv with hv h3 h4
    injection hv with hv
    injection hv with hv
    subst hv h4
    refine ⟨List.replicate n 0, List.length_replicate .., fun i hi => by omega, ?_⟩
    have : cur = (ints (List.replicate n 0)).toArray := by
      apply Array.ext'
      rw [Nat.mul_one] at ht hs
      rw [List.take_of_length_le (by rw [Array.length_toList]; omega)] at ht
      rw [ht]
      simp [ints]
    rw [← this]
    exact hg
set_option maxRecDepth 100000 in
set_option maxHeartbeats 4000000 in
theorem ones_any (n : Nat) (w : World) (h0 : 0 < n) (h1 : n ≤ 100000) : Calls Try.prog 23 #[.int .i64 (n : Int)] w (IsOnes n w) := by
  go_enter Try.func23, Try.ntmps23
  go_wp2_with (refine wpList_mk tInt rfl rfl (.tmp 5) (.tmp 5) rfl w.heap.size .i64 .i64 (n : Int) (n : Int) n rfl rfl rfl rfl (by omega) (by unfold maxLen; omega) (Nat.le_refl _) ?_; intro w3 o3 hg3 hb3; have HO3 := Lib.hid (On.start h0 o3); have HB3 := Lib.hid hb3; clear o3 hb3)
  go_loopw [4] (fun i wr => ∃ k : Nat, k ≤ n ∧ i = .int .i64 k ∧ On w.heap.size n k wr ∧ Below w.heap.size w wr) (fun i _ => n - (intOf i).toNat)
  case atStart => exact ⟨0, by omega, rfl, HO3.out, HB3.out⟩
  case round =>
    obtain ⟨k, hk, rfl, hon, hlow⟩ := hrel
    have HLOW := Lib.hid hlow
    clear hlow
    by_cases hlt : k < n
    · obtain ⟨⟨v, hc⟩, hz⟩ := hon.cell hlt
      have HNX := Lib.hid (hon.step hlt)
      have HLX := Lib.hid (HLOW.out.setCell (p := ⟨w.heap.size, k, none⟩) (Nat.le_refl _) (.int .i64 1))
      have hki : (k : Int) < n := by omega
      clear hon
      go_wp2
      go_roundw
      case rel => exact ⟨k + 1, by omega, by go_num, HNX.out, HLX.out⟩
      case measure => simp [intOf]; omega
    · obtain rfl : k = n := by omega
      have HON := Lib.hid hon
      clear hon
      go_wp2
      go_ret
      exact ⟨⟨_, Nat.le_refl _, rfl, HON.out.done⟩, HLOW.out⟩
end Go.Proofs.Ytlhhkmpidnegcaa
