/- The instruction that bytes say: plain; a place that is none: the walk. No condition. -/
import Derived.Test.YtaiekpdoljleeaaCoPut
namespace Go.Proofs.Ytaiekpdoljleeaa
open Go.RowKit Go.WideShapes
set_option linter.unusedVariables false
set_option linter.unusedSimpArgs false
/-- A byte with its sign. -/
def i8 (x : Int) : Int := if 128 ≤ x then x - 256 else x
def headI (o low : Int) : In := if (shO o).operand then ⟨o, 0, low, 0⟩ else ⟨o, low, 0, 0⟩
def bodyI (bs : List Int) (a : Nat) (o low : Int) : In :=
  if (shO o).long then { headI o low with n := bs.getD (a + 1) 0 * 256 + bs.getD (a + 2) 0 } else if (shO o).jump then { headI o low with n := a + 1 + moreI (headI o low) + i8 (bs.getD (a + 1) 0) } else
  if (shO o).frm then { headI o low with s := bs.getD (a + 1) 0 } else if 0 < moreI (headI o low) then { headI o low with n := bs.getD (a + 1) 0 } else headI o low
def zI : In := ⟨0, 0, 0, 0⟩
def getN (bs : List Int) (a : Nat) : In × Int × Int :=
  if !(shO (bs.getD a 0 / 8)).operand && (!(shO (bs.getD a 0 / 8)).known || decide ((if 0 ≤ (shO (bs.getD a 0 / 8)).place then (shO (bs.getD a 0 / 8)).place else 0) < bs.getD a 0 % 8)) then (zI, 0, 110)
  else if (bs.length : Int) < a + 1 + moreI (headI (bs.getD a 0 / 8) (bs.getD a 0 % 8)) then (zI, 0, 12)
  else if rightI (bodyI bs a (bs.getD a 0 / 8) (bs.getD a 0 % 8)) then (bodyI bs a (bs.getD a 0 / 8) (bs.getD a 0 % 8), a + 1 + moreI (headI (bs.getD a 0 / 8) (bs.getD a 0 % 8)), 0)
  else (zI, 0, 110)
def getI (bs : List Int) (a : Int) : In × Int × Int := if a < 0 ∨ (bs.length : Int) ≤ a ∨ 65536 < bs.length then (zI, 0, 2) else getN bs a.toNat
/-- What Get tells. -/
structure IsGot (r : In × Int × Int) (w0 : World) (e : Ending) (w : World) : Prop where
  ret : e = .returned (.tuple #[r.1.agg, .int .i64 r.2.1, .int .i64 r.2.2])
  low : Below w0.heap.size w0 w
theorem and7 (b : Int) (h0 : 0 ≤ b) (h1 : b ≤ 255) : bits .and .u8 b 7 = b % 8 := by
  rw [u8_and _ _ h0 (by omega) (by omega) (by omega)]
  have : b.toNat &&& (7 : Int).toNat = b.toNat % 2 ^ 3 := Nat.and_two_pow_sub_one_eq_mod b.toNat 3
  rw [this]
  have e : (2 : Nat) ^ 3 = 8 := by decide
  rw [e]
  omega
theorem or_long (x y : Int) (x0 : 0 ≤ x) (x1 : x ≤ 255) (y0 : 0 ≤ y) (y1 : y ≤ 255) : bits .or .i64 (x * 256) y = x * 256 + y := by
  obtain ⟨a, rfl⟩ := Int.eq_ofNat_of_zero_le x0
  obtain ⟨b, rfl⟩ := Int.eq_ofNat_of_zero_le y0
  have h1 : (BitVec.ofInt 64 ((a : Int) * 256)).toNat = a * 256 := by
    rw [BitVec.toNat_ofInt]; omega
  have h2 : (BitVec.ofInt 64 (b : Int)).toNat = b := by
    rw [BitVec.toNat_ofInt]; omega
  show IntKind.i64.wrap ((BitVec.ofInt 64 ((a : Int) * 256) ||| BitVec.ofInt 64 (b : Int)).toNat : Int) = _
  rw [BitVec.toNat_or, h1, h2, nat_join 8 _ _ (by omega) (by omega), IntKind.wrap_i64]
  omega
theorem octs_at {l : List Int} {k : Nat} (h : k < l.length) : (octs l)[k]? = some (.int .u8 (l.getD k 0)) := by
  unfold octs
  rw [List.getElem?_map, List.getD_eq_getElem?_getD, List.getElem?_eq_getElem h]
  rfl
set_option maxRecDepth 100000 in
set_option maxHeartbeats 4000000 in
theorem get_out (bs : List Int) (A : Option Addr) (n c : Nat) (a : Int) (w : World) (hn : n = bs.length) (hnm : n ≤ 9223372036854775807) (h : a < 0 ∨ (n : Int) ≤ a ∨ 65536 < n) : Calls Try.prog 21 #[.slice A n c, .int .i64 a] w (IsGot (getI bs a) w) := by
  have e : getI bs a = (zI, 0, 2) := by unfold getI; rw [if_pos (by rw [← hn]; exact h)]
  rw [e]
  clear e hn
  have hcl : ∀ w', Below w.heap.size w w' → IsGot (zI, 0, 2) w (.returned (.tuple #[.agg #[.int .u8 0, .int .i64 0, .int .i64 0, .int .i64 0], .int .i64 0, .int .i64 2])) w' := fun w' hb => ⟨rfl, hb⟩
  have HCL := Lib.hid hcl
  clear hcl
  rcases (show a < 0 ∨ (0 ≤ a ∧ (n : Int) ≤ a) ∨ (0 ≤ a ∧ a < n ∧ 65536 < n) from by omega) with h1 | ⟨h1, h2⟩ | ⟨h1, h2, h3⟩
  · have g1 : decide (a < 0) = true := by simp; omega
    clear h
    go_enter Try.func21, Try.ntmps21
    go_wp2
    exact bodyPost_ret (v := .tuple #[.agg #[.int .u8 0, .int .i64 0, .int .i64 0, .int .i64 0], .int .i64 0, .int .i64 2]) (by simp [results, Try.results21, go_sem]) rfl (HCL.out _ (by repeat (first | exact Below.refl _ _ | (refine Below.setCell ?_ (by simp) _) | (refine Below.alloc ?_ (by simp; try omega) _))))
  · have g1 : decide (a < 0) = false := by simp; omega
    have g2 : decide ((n : Int) ≤ a) = true := by simp; omega
    clear h
    go_enter Try.func21, Try.ntmps21
    go_wp2
    exact bodyPost_ret (v := .tuple #[.agg #[.int .u8 0, .int .i64 0, .int .i64 0, .int .i64 0], .int .i64 0, .int .i64 2]) (by simp [results, Try.results21, go_sem]) rfl (HCL.out _ (by repeat (first | exact Below.refl _ _ | (refine Below.setCell ?_ (by simp) _) | (refine Below.alloc ?_ (by simp; try omega) _))))
  · have g1 : decide (a < 0) = false := by simp; omega
    have g2 : decide ((n : Int) ≤ a) = false := by simp; omega
    have g3 : decide ((65536 : Int) < (n : Int)) = true := by simp; omega
    have H3 := Lib.hid h3
    clear h h3
    go_enter Try.func21, Try.ntmps21
    go_wp2
    exact bodyPost_ret (v := .tuple #[.agg #[.int .u8 0, .int .i64 0, .int .i64 0, .int .i64 0], .int .i64 0, .int .i64 2]) (by simp [results, Try.results21, go_sem]) rfl (HCL.out _ (by repeat (first | exact Below.refl _ _ | (refine Below.setCell ?_ (by simp) _) | (refine Below.alloc ?_ (by simp; try omega) _))))
end Go.Proofs.Ytaiekpdoljleeaa
