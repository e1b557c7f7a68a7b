/- ShaNumbers' walk. -/
import Derived.Test.YtgkgdbjdmmieaaaShMd
import Derived.Test.YtgkgdbjdmmieaaaShRf
import Derived.Test.YtgkgdbjdmmieaaaShAw
import Derived.Test.YtgkgdbjdmmieaaaShEq
namespace Go.Proofs.Ytgkgdbjdmmieaaa
open Go.RowKit Go.WideShapes
set_option linter.unusedVariables false
set_option linter.unusedSimpArgs false
def longI : List Int := [97, 98, 99, 100, 98, 99, 100, 101, 99, 100, 101, 102, 100, 101, 102, 103, 101, 102, 103, 104, 102, 103, 104, 105, 103, 104, 105, 106, 104, 105, 106, 107, 105, 106, 107, 108, 106, 107, 108, 109, 107, 108, 109, 110, 108, 109, 110, 111, 109, 110, 111, 112, 110, 111, 112, 113]
theorem sha_long : shaI longI = [132, 152, 62, 68, 28, 59, 210, 110, 186, 174, 74, 161, 249, 81, 41, 229, 229, 70, 112, 241] := by rw [shaF]; decide +kernel
theorem hex_long : hexB (shaI longI) 20 = ⟨#[56, 52, 57, 56, 51, 101, 52, 52, 49, 99, 51, 98, 100, 50, 54, 101, 98, 97, 97, 101, 52, 97, 97, 49, 102, 57, 53, 49, 50, 57, 101, 53, 101, 53, 52, 54, 55, 48, 102, 49]⟩ := by rw [sha_long]; kernel_rfl
theorem long_oct : Oct longI := by unfold Oct longI; decide
def longV : Array Value := #[.int .u8 97, .int .u8 98, .int .u8 99, .int .u8 100, .int .u8 98, .int .u8 99, .int .u8 100, .int .u8 101, .int .u8 99, .int .u8 100, .int .u8 101, .int .u8 102, .int .u8 100, .int .u8 101, .int .u8 102, .int .u8 103, .int .u8 101, .int .u8 102, .int .u8 103, .int .u8 104, .int .u8 102, .int .u8 103, .int .u8 104, .int .u8 105, .int .u8 103, .int .u8 104, .int .u8 105, .int .u8 106, .int .u8 104, .int .u8 105, .int .u8 106, .int .u8 107, .int .u8 105, .int .u8 106, .int .u8 107, .int .u8 108, .int .u8 106, .int .u8 107, .int .u8 108, .int .u8 109, .int .u8 107, .int .u8 108, .int .u8 109, .int .u8 110, .int .u8 108, .int .u8 109, .int .u8 110, .int .u8 111, .int .u8 109, .int .u8 110, .int .u8 111, .int .u8 112, .int .u8 110, .int .u8 111, .int .u8 112, .int .u8 113]
theorem longV_eq : longV = (octs longI).toArray := rfl
theorem longLit (W : World) (g0 : Nat) (hg : g0 = W.heap.size) : Rd (W.alloc (.cells longV 5 (56, 57))) (some ⟨g0, 0, none⟩) (octs longI) := fun _ => by
  subst hg
  refine ⟨_, 0, rfl, by simp, fun i y hy => ?_⟩
  rw [cell_of_row _ _ _ _ _ _ (heap_alloc_new _ _), Nat.zero_add, longV_eq, List.getElem?_toArray]
  exact hy
def numsN : List Nat := [1, 54, 55, 56, 57, 63, 64, 65, 119, 120, 127, 128, 129, 1000]
def numsV : Array Value := #[.int .i64 1, .int .i64 54, .int .i64 55, .int .i64 56, .int .i64 57, .int .i64 63, .int .i64 64, .int .i64 65, .int .i64 119, .int .i64 120, .int .i64 127, .int .i64 128, .int .i64 129, .int .i64 1000]
theorem nums_at (k : Nat) (h : k < 14) : numsV[k]? = some (.int .i64 ((numsN.getD k 0 : Nat) : Int)) ∧ numsN.getD k 0 ≤ 1000 := by
  have : k = 0 ∨ k = 1 ∨ k = 2 ∨ k = 3 ∨ k = 4 ∨ k = 5 ∨ k = 6 ∨ k = 7 ∨ k = 8 ∨ k = 9 ∨ k = 10 ∨ k = 11 ∨ k = 12 ∨ k = 13 := by omega
  rcases this with rfl | rfl | rfl | rfl | rfl | rfl | rfl | rfl | rfl | rfl | rfl | rfl | rfl | rfl <;> exact ⟨rfl, by decide⟩
set_option maxHeartbeats 4000000 in
set_option maxRecDepth 100000 in
theorem numbers_law (w : World) : Calls Try.prog 3 #[] w fun e w' => e = .returned (.bool true) ∧ Below w.heap.size w w' := by
  obtain ⟨a0, h0⟩ : ∃ a, (octs (shaI longI)).toArray = a := ⟨_, rfl⟩
  have hcv : ∀ W : World, (convert 25 25 (.slice (some ⟨W.heap.size, 0, none⟩) 56 56)).run Try.prog (W.alloc (.cells #[.int .u8 97, .int .u8 98, .int .u8 99, .int .u8 100, .int .u8 98, .int .u8 99, .int .u8 100, .int .u8 101, .int .u8 99, .int .u8 100, .int .u8 101, .int .u8 102, .int .u8 100, .int .u8 101, .int .u8 102, .int .u8 103, .int .u8 101, .int .u8 102, .int .u8 103, .int .u8 104, .int .u8 102, .int .u8 103, .int .u8 104, .int .u8 105, .int .u8 103, .int .u8 104, .int .u8 105, .int .u8 106, .int .u8 104, .int .u8 105, .int .u8 106, .int .u8 107, .int .u8 105, .int .u8 106, .int .u8 107, .int .u8 108, .int .u8 106, .int .u8 107, .int .u8 108, .int .u8 109, .int .u8 107, .int .u8 108, .int .u8 109, .int .u8 110, .int .u8 108, .int .u8 109, .int .u8 110, .int .u8 111, .int .u8 109, .int .u8 110, .int .u8 111, .int .u8 112, .int .u8 110, .int .u8 111, .int .u8 112, .int .u8 113] 5)) = .ok (.slice (some ⟨W.heap.size, 0, none⟩) 56 56) (W.alloc (.cells longV 5 (56, 57))) := fun W => conv25 W _ 56 56
  have c0 : ∀ (W : World) (g0 : Nat), g0 = W.heap.size → Calls Try.prog 8 #[.slice (some ⟨g0, 0, none⟩) 56 56] (W.alloc (.cells longV 5 (56, 57))) (Quiet (.agg a0) (W.alloc (.cells longV 5 (56, 57)))) := fun W g0 hg => by rw [← h0]; exact of_any longI _ 56 56 _ rfl long_oct (longLit W g0 hg) (by omega)
  have d0 : ∀ W : World, Calls Try.prog 7 #[.agg a0] W (Quiet (.string ⟨#[56, 52, 57, 56, 51, 101, 52, 52, 49, 99, 51, 98, 100, 50, 54, 101, 98, 97, 97, 101, 52, 97, 97, 49, 102, 57, 53, 49, 50, 57, 101, 53, 101, 53, 52, 54, 55, 48, 102, 49]⟩) W) := fun W => by have := hex_sha longI W; rw [hex_long, h0] at this; exact this
  have C0 := Lib.hid c0
  have D0 := Lib.hid d0
  clear c0 d0 h0
  go_enter Try.func3, Try.ntmps3
  go_wp2_with fail
  refine (C0.out w _ (by first | rfl | simp)).mono ?_
  rintro e w1 ⟨rfl, hb1⟩
  have hb1' := ((Below.refl w.heap.size w).alloc (Nat.le_refl _) (.cells longV 5 (56, 57))).trans (hb1.mono (by simp))
  have HB1 := Lib.hid hb1'
  clear hb1 hb1'
  go_wp2_with fail
  refine (D0.out _).mono ?_
  rintro e w2 ⟨rfl, hb2⟩
  have HB2 := Lib.hid (ch0 HB1.out hb2)
  clear hb2
  have hsl := Blk.new w2 3 numsV
  have hbs : Below w.heap.size w (w2.alloc (.cells numsV 3)) := HB2.out.alloc HB2.out.size _
  have HSL := Lib.hid hsl
  have HBS := Lib.hid hbs
  clear hsl hbs
  go_wp2_with fail
  generalize hW : w2.alloc (.cells numsV 3) = W at HSL HBS
  rw [show w2.alloc (.cells #[.int .i64 1, .int .i64 54, .int .i64 55, .int .i64 56, .int .i64 57, .int .i64 63, .int .i64 64, .int .i64 65, .int .i64 119, .int .i64 120, .int .i64 127, .int .i64 128, .int .i64 129, .int .i64 1000] 3) = W from hW]
  clear hW
  go_loopw [11] (fun i wr => ∃ k : Nat, k ≤ 14 ∧ i = .int .i64 k ∧ Below W.heap.size W wr) (fun i _ => 14 - (intOf i).toNat)
  case atStart => exact ⟨0, by omega, rfl, Below.refl _ _⟩
  case round =>
    obtain ⟨k, hk, rfl, hb⟩ := hrel
    by_cases hlt : k < 14
    · obtain ⟨hn, hn1⟩ := nums_at k hlt
      have c0 := ((HSL.out.below hb).cell k).trans hn
      generalize numsN.getD k 0 = N at *
      have HB := Lib.hid hb
      clear hb hn
      go_wp2_with fail
      refine (madeN N (N : Int) _ (by omega) (by omega) hn1).mono ?_
      rintro e w3 ⟨⟨A, c, l, rfl, hl, ho, hown⟩, hb3⟩
      have hr := Rd.of_own hown
      have HR := Lib.hid hr
      have HB3 := Lib.hid (ch0 HB.out hb3)
      have heq := fun W => eq20_same (shaI l) (shaI_length l) (outL_oct _ _) W
      have hof := fun (W : World) (hr : Rd W A (octs l)) => of_any l A N c W hl.symm ho hr (by omega)
      have hrf := fun (W : World) (hr : Rd W A (octs l)) => ofRef_any l A N c W hl.symm ho hr (by omega)
      generalize (octs (shaI l)).toArray = a at *
      have HOF := Lib.hid hof
      have HRF := Lib.hid hrf
      clear hof hrf hown hb3 hr hl ho
      go_wp2_with fail
      refine (HOF.out w3 HR.out).mono ?_
      rintro e w4 ⟨rfl, hb4⟩
      have HR4 := Lib.hid (HR.out.below hb4 rfl)
      have HB4 := Lib.hid (ch0 HB3.out hb4)
      clear hb4
      go_wp2_with fail
      refine (HRF.out w4 HR4.out).mono ?_
      rintro e w5 ⟨rfl, hb5⟩
      have HB5 := Lib.hid (ch0 HB4.out hb5)
      clear hb5
      go_wp2_with fail
      go_roundw
      case rel => exact ⟨k + 1, by omega, by go_num, HB5.out⟩
      case measure => simp [intOf]; omega
    · obtain rfl : k = 14 := by omega
      have HB := Lib.hid (HBS.out.trans (hb.mono HBS.out.size))
      clear hb
      go_wp2_with fail
      refine (awake_any _).mono ?_
      rintro e w5 ⟨rfl, hb5⟩
      go_wp2_with fail
      go_ret
      exact ⟨rfl, ch0 HB.out hb5⟩
end Go.Proofs.Ytgkgdbjdmmieaaa
