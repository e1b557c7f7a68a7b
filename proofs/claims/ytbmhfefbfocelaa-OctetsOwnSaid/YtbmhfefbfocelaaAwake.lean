/- The chapter's examples, which every statement of chapter 1 asks ('awake'): true. -/
import Derived.Test.YtbmhfefbfocelaaText
namespace Go.Proofs.Ytbmhfefbfocelaa
open Go.RowKit Go.WideShapes
set_option linter.unusedVariables false
theorem rd_new (w : World) (l : List Value) (e : TypeId) : Rd (w.alloc (.cells l.toArray e)) (some ⟨w.heap.size, 0, none⟩) l := fun _ => by
  refine ⟨_, 0, rfl, by simp, fun i u hu => ?_⟩
  rw [cell_of_row _ _ _ _ _ _ (heap_alloc_new _ _), Nat.zero_add]
  simpa using hu
theorem rd_octs (w : World) (l : List Int) : Rd (w.alloc (.cells ((l.map (Value.int .u8)).toArray) 5)) (some ⟨w.heap.size, 0, none⟩) (octs l) := rd_new w _ 5
theorem below_of {P : Program} {f : FuncId} {args : Array Value} {w : World} {x : Ending} (h : Calls P f args w fun e w' => e = x ∧ w = w') : Calls P f args w fun e w' => e = x ∧ Below w.heap.size w w' :=
  h.mono fun _ _ ⟨he, hw⟩ => ⟨he, hw ▸ Below.refl _ _⟩
set_option maxRecDepth 100000 in
set_option maxHeartbeats 4000000 in
theorem awake_any (w : World) : Calls Try.prog 10 #[] w fun e w' => e = .returned (.bool true) ∧ Below w.heap.size w w' := by
  have q1 : numI [1, 2] 0 2 = 258 := by decide
  have q2 : numI [128, 0, 0, 1] 0 4 = 2147483649 := by decide
  have q3 : numI [5] 0 1 = 5 := by decide
  have q4 : strOfNums ((([0, 2, 5, 6] : List Int).drop (0 + 2)).take 2) = ⟨#[5, 6]⟩ := by rfl
  have q5 : strOfNums ([] ++ (beI (2 : Nat) 2 ++ strI ⟨#[5, 6]⟩)) = ⟨#[0, 2, 5, 6]⟩ := by rfl
  have q6 : strOfNums ([9] ++ beI 258 4) = ⟨#[9, 0, 0, 1, 2]⟩ := by rfl
  have o1 : Oct [1, 2] := by unfold Oct; decide
  have o2 : Oct [128, 0, 0, 1] := by unfold Oct; decide
  have o3 : Oct [5] := by unfold Oct; decide
  have o4 : Oct [0, 2, 5, 6] := by unfold Oct; decide
  go_enter Try.func10, Try.ntmps10
  go_wp2_with fail
  refine (below_of (u16_yes [1, 2] _ 2 2 0 _ rfl o1 (rd_octs _ _) (by omega) (by omega) (by simp [maxLen]))).mono ?_
  rintro e w1 ⟨rfl, hb1⟩
  have k1 : Below w.heap.size w w1 := ch1 (Below.refl _ _) hb1
  go_wp2_with fail
  refine (below_of (u32_yes [128, 0, 0, 1] _ 4 4 0 _ rfl o2 (rd_octs _ _) (by omega) (by omega) (by simp [maxLen]))).mono ?_
  rintro e w2 ⟨rfl, hb2⟩
  have k2 : Below w.heap.size w w2 := ch1 k1 hb2
  go_wp2_with fail
  refine (below_of (u8_yes [5] _ 1 1 0 _ rfl o3 (rd_octs _ _) (by omega) (by omega) (by simp [maxLen]))).mono ?_
  rintro e w3 ⟨rfl, hb3⟩
  have k3 : Below w.heap.size w w3 := ch1 k2 hb3
  go_wp2_with fail
  refine (addText_yes [] ⟨#[5, 6]⟩ none 0 0 _ rfl (Rd.nil _ _) (by omega) (by omega) (by decide)).mono ?_
  rintro e w4 ⟨⟨A4, c4, rfl, hc4, _, hown4⟩, hb4⟩
  have k4 : Below w.heap.size w w4 := ch0 k3 hb4
  go_wp2_with fail
  refine (below_of (text_yes [0, 2, 5, 6] _ 4 4 0 2 _ rfl o4 (rd_octs _ _) (by omega) (by decide) (by omega) (by omega) (by simp [maxLen]))).mono ?_
  rintro e w5 ⟨rfl, hb5⟩
  have k5 : Below w.heap.size w w5 := ch1 k4 hb5
  have hown5 := own_below (hown4.alloc _) hb5
  rw [q4]
  have hr5 : Rd w5 A4 (octs ([] ++ (beI (2 : Nat) 2 ++ strI ⟨#[5, 6]⟩))) := Rd.of_own hown5
  clear hown5 hown4 hc4
  go_wp2_with (refine wpList_str Try.underlying22 Try.underlying5 Try.underlying9 rfl (.tmp 74) rfl A4 4 c4 ([] ++ (beI (2 : Nat) 2 ++ strI ⟨#[5, 6]⟩)) rfl (by rfl) hr5 ?_; rw [q5])
  refine (add32 [9] 258 _ 1 1 _ rfl (rd_octs _ _) (by omega) (by omega) (by omega) (by omega)).mono ?_
  rintro e w6 ⟨⟨A6, c6, rfl, hc6, _, hown6⟩, hb6⟩
  have k6 : Below w.heap.size w w6 := ch1 k5 hb6
  have hr6 : Rd w6 A6 (octs ([9] ++ beI 258 4)) := Rd.of_own hown6
  clear hown6 hc6
  go_wp2_with (refine wpList_str Try.underlying22 Try.underlying5 Try.underlying9 rfl (.tmp 80) rfl A6 5 c6 ([9] ++ beI 258 4) rfl (by rfl) hr6 ?_; rw [q6])
  go_ret
  exact ⟨rfl, k6⟩
end Go.Proofs.Ytbmhfefbfocelaa
