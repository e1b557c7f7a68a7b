/- The law's awake: true, in every world. -/
import Derived.Test.YtgkgdbjdmmieaaaShHx
import Derived.Lib.SlBytesConst
namespace Go.Proofs.Ytgkgdbjdmmieaaa
open Go.RowKit Go.WideShapes
set_option linter.unusedVariables false
set_option linter.unusedSimpArgs false
theorem hex_sha (xs : List Int) (w : World) : Calls Try.prog 7 #[.agg (octs (shaI xs)).toArray] w (Quiet (.string (hexB (shaI xs) 20)) w) := hex_any _ w (shaI_length xs) (outL_oct _ _)
theorem conv25 (W : World) (C : Array Value) (n c : Nat) : (convert 25 25 (.slice (some ⟨W.heap.size, 0, none⟩) n c)).run Try.prog (W.alloc (.cells C 5)) = .ok (.slice (some ⟨W.heap.size, 0, none⟩) n c) (W.alloc (.cells C 5 (C.size, C.size + 1))) :=
  Lib.run_convert_bytes_const W 25 5 C n c Try.underlying25 Try.underlying5
theorem abcLit (W : World) (g0 : Nat) (hg : g0 = W.heap.size) : Rd (W.alloc (.cells #[.int .u8 97, .int .u8 98, .int .u8 99] 5 (3, 4))) (some ⟨g0, 0, none⟩) (octs [97, 98, 99]) := fun _ => by
  subst hg
  refine ⟨_, 0, rfl, by simp, fun i y hy => ?_⟩
  rw [cell_of_row _ _ _ _ _ _ (heap_alloc_new _ _)]
  rw [Nat.zero_add]
  simpa [octs] using hy
theorem awake_any (w : World) : Calls Try.prog 11 #[] w (Quiet (.bool true) w) := by
  obtain ⟨a0, h0⟩ : ∃ a, (octs (shaI [])).toArray = a := ⟨_, rfl⟩
  obtain ⟨a1, h1⟩ : ∃ a, (octs (shaI [97, 98, 99])).toArray = a := ⟨_, rfl⟩
  have c0 : ∀ W : World, Calls Try.prog 8 #[.slice none 0 0] W (Quiet (.agg a0) W) := fun W => by rw [← h0]; exact of_any [] none 0 0 W rfl (fun x hx => by cases hx) (Rd.nil _ _) (by omega)
  have d0 : ∀ W : World, Calls Try.prog 7 #[.agg a0] W (Quiet (.string ⟨#[100, 97, 51, 57, 97, 51, 101, 101, 53, 101, 54, 98, 52, 98, 48, 100, 51, 50, 53, 53, 98, 102, 101, 102, 57, 53, 54, 48, 49, 56, 57, 48, 97, 102, 100, 56, 48, 55, 48, 57]⟩) W) := fun W => by have := hex_sha [] W; rw [hex_nil, h0] at this; exact this
  have c1 : ∀ (W : World) (g0 : Nat), g0 = W.heap.size → Calls Try.prog 8 #[.slice (some ⟨g0, 0, none⟩) 3 3] (W.alloc (.cells #[.int .u8 97, .int .u8 98, .int .u8 99] 5 (3, 4))) (Quiet (.agg a1) (W.alloc (.cells #[.int .u8 97, .int .u8 98, .int .u8 99] 5 (3, 4)))) := fun W g0 hg => by rw [← h1]; exact of_any [97, 98, 99] _ 3 3 _ rfl (by intro x hx; simp at hx; rcases hx with rfl | rfl | rfl <;> omega) (abcLit W g0 hg) (by omega)
  have d1 : ∀ W : World, Calls Try.prog 7 #[.agg a1] W (Quiet (.string ⟨#[97, 57, 57, 57, 51, 101, 51, 54, 52, 55, 48, 54, 56, 49, 54, 97, 98, 97, 51, 101, 50, 53, 55, 49, 55, 56, 53, 48, 99, 50, 54, 99, 57, 99, 100, 48, 100, 56, 57, 100]⟩) W) := fun W => by have := hex_sha [97, 98, 99] W; rw [hex_abc, h1] at this; exact this
  have hcv : ∀ W : World, (convert 25 25 (.slice (some ⟨W.heap.size, 0, none⟩) 3 3)).run Try.prog (W.alloc (.cells #[.int .u8 97, .int .u8 98, .int .u8 99] 5)) = .ok (.slice (some ⟨W.heap.size, 0, none⟩) 3 3) (W.alloc (.cells #[.int .u8 97, .int .u8 98, .int .u8 99] 5 (3, 4))) := fun W => conv25 W _ 3 3
  have C0 := Lib.hid c0
  have C1 := Lib.hid c1
  have D0 := Lib.hid d0
  have D1 := Lib.hid d1
  clear c0 c1 d0 d1 h0 h1
  go_enter Try.func11, Try.ntmps11
  go_wp2_with fail
  refine (C0.out _).mono ?_
  rintro e w1 ⟨rfl, hb1⟩
  go_wp2_with fail
  refine (D0.out _).mono ?_
  rintro e w2 ⟨rfl, hb2⟩
  go_wp2_with fail
  refine (C1.out w2 _ (by first | rfl | simp)).mono ?_
  rintro e w3 ⟨rfl, hb3⟩
  go_wp2_with fail
  refine (D1.out _).mono ?_
  rintro e w4 ⟨rfl, hb4⟩
  go_wp2_with fail
  go_ret
  exact ⟨rfl, ch0 (ch1 (ch0 hb1 hb2) hb3) hb4⟩
end Go.Proofs.Ytgkgdbjdmmieaaa
