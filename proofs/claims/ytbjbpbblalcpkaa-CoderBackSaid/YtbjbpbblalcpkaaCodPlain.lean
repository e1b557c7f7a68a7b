/- The coder's numbers: where a chance cuts an interval, what is shed; plain laws on integers. -/
import Derived.Test.YtbjbpbblalcpkaaWords
import Derived.Laws.BitsAllLaws
namespace Go.Proofs.Ytbjbpbblalcpkaa
open Go.RowKit Go.WideShapes
set_option linter.unusedVariables false
/-- Where a chance cuts an interval. -/
def mid (x y p : Int) : Int := x + (y - x) / 65536 * p + (y - x) % 65536 * p / 65536
/-- How many bytes are sure. -/
def need (x y : Int) : Nat := if x / 16777216 ≠ y / 16777216 then 0 else if x / 65536 ≠ y / 65536 then 1 else if x / 256 ≠ y / 256 then 2 else if x ≠ y then 3 else 4
def nx (x : Int) : Int := x * 256 % 4294967296
def ny (y : Int) : Int := (y * 256 + 255) % 4294967296
def normI : Nat → Int → Int → List Int × Int × Int
  | 0, x, y => ([], x, y)
  | k + 1, x, y => ((x / 16777216) :: (normI k (nx x) (ny y)).1, (normI k (nx x) (ny y)).2)
def norm (x y : Int) : List Int × Int × Int := normI (need x y) x y
structure Ivl (x y : Int) : Prop where
  x0 : 0 ≤ x
  xy : x ≤ y
  y1 : y ≤ 4294967295
theorem need_le (x y : Int) : need x y ≤ 4 := by unfold need; split <;> (try split) <;> (try split) <;> (try split) <;> omega
theorem need_zero {x y : Int} (h : x / 16777216 ≠ y / 16777216) : need x y = 0 := if_pos h
theorem need_succ {x y : Int} (i : Ivl x y) (h : x / 16777216 = y / 16777216) : need x y = need (nx x) (ny y) + 1 ∧ Ivl (nx x) (ny y) := by
  obtain ⟨x0, xy, y1⟩ := i
  have e1 : nx x / 16777216 = x / 65536 - x / 16777216 * 256 := by unfold nx; omega
  have e2 : ny y / 16777216 = y / 65536 - y / 16777216 * 256 := by unfold ny; omega
  have e3 : nx x / 65536 = x / 256 - x / 16777216 * 65536 := by unfold nx; omega
  have e4 : ny y / 65536 = y / 256 - y / 16777216 * 65536 := by unfold ny; omega
  have e5 : nx x / 256 = x - x / 16777216 * 16777216 := by unfold nx; omega
  have e6 : ny y / 256 = y - y / 16777216 * 16777216 := by unfold ny; omega
  have e7 : nx x ≠ ny y := by unfold nx ny; omega
  refine ⟨?_, ?_, ?_, ?_⟩
  · by_cases h1 : x / 65536 = y / 65536
    · by_cases h2 : x / 256 = y / 256
      · by_cases h3 : x = y
        · have a : need x y = 4 := by unfold need; rw [if_neg (by omega), if_neg (by omega), if_neg (by omega), if_neg (by omega)]
          have b : need (nx x) (ny y) = 3 := by unfold need; rw [if_neg (by omega), if_neg (by omega), if_neg (by omega), if_pos e7]
          rw [a, b]
        · have a : need x y = 3 := by unfold need; rw [if_neg (by omega), if_neg (by omega), if_neg (by omega), if_pos (by omega)]
          have b : need (nx x) (ny y) = 2 := by unfold need; rw [if_neg (by omega), if_neg (by omega), if_pos (by omega)]
          rw [a, b]
      · have a : need x y = 2 := by unfold need; rw [if_neg (by omega), if_neg (by omega), if_pos (by omega)]
        have b : need (nx x) (ny y) = 1 := by unfold need; rw [if_neg (by omega), if_pos (by omega)]
        rw [a, b]
    · have a : need x y = 1 := by unfold need; rw [if_neg (by omega), if_pos (by omega)]
      have b : need (nx x) (ny y) = 0 := by unfold need; rw [if_pos (by omega)]
      rw [a, b]
  · unfold nx; omega
  · unfold nx ny; omega
  · unfold ny; omega
theorem norm_done {x y : Int} (h : x / 16777216 ≠ y / 16777216) : norm x y = ([], x, y) := by unfold norm; rw [need_zero h]; rfl
theorem norm_more {x y : Int} (i : Ivl x y) (h : x / 16777216 = y / 16777216) : norm x y = ((x / 16777216) :: (norm (nx x) (ny y)).1, (norm (nx x) (ny y)).2) := by
  unfold norm
  rw [(need_succ i h).1]
  rfl
/-- An interval whose ends differ in their first byte. -/
structure Nrm (x y : Int) : Prop extends Ivl x y where
  df : x / 16777216 ≠ y / 16777216
theorem norm_ivl : ∀ (k : Nat) (x y : Int), need x y = k → Ivl x y → Nrm (norm x y).2.1 (norm x y).2.2
  | 0, x, y, hk, i => by
    have h : x / 16777216 ≠ y / 16777216 := fun e => by have := (need_succ i e).1; omega
    rw [norm_done h]
    exact ⟨i, h⟩
  | k + 1, x, y, hk, i => by
    have h : x / 16777216 = y / 16777216 := Classical.byContradiction fun e => by rw [need_zero e] at hk; omega
    obtain ⟨h1, h2⟩ := need_succ i h
    rw [norm_more i h]
    exact norm_ivl k _ _ (by omega) h2
theorem norm_oct : ∀ (k : Nat) (x y : Int), need x y = k → Ivl x y → Oct (norm x y).1
  | 0, x, y, hk, i => by
    have h : x / 16777216 ≠ y / 16777216 := fun e => by have := (need_succ i e).1; omega
    rw [norm_done h]
    intro u hu; cases hu
  | k + 1, x, y, hk, i => by
    have h : x / 16777216 = y / 16777216 := Classical.byContradiction fun e => by rw [need_zero e] at hk; omega
    obtain ⟨h1, h2⟩ := need_succ i h
    rw [norm_more i h]
    intro u hu
    rcases List.mem_cons.1 hu with rfl | hu
    · have := i.x0; have := i.xy; have := i.y1; omega
    · exact norm_oct k _ _ (by omega) h2 u hu
theorem norm_len : ∀ (k : Nat) (x y : Int), need x y = k → Ivl x y → (norm x y).1.length = k
  | 0, x, y, hk, i => by
    have h : x / 16777216 ≠ y / 16777216 := fun e => by have := (need_succ i e).1; omega
    rw [norm_done h]
    rfl
  | k + 1, x, y, hk, i => by
    have h : x / 16777216 = y / 16777216 := Classical.byContradiction fun e => by rw [need_zero e] at hk; omega
    obtain ⟨h1, h2⟩ := need_succ i h
    rw [norm_more i h, List.length_cons, norm_len k _ _ (by omega) h2]
theorem mid_in {x y p : Int} (x0 : 0 ≤ x) (xy : x < y) (p0 : 1 ≤ p) (p1 : p ≤ 65535) : x ≤ mid x y p ∧ mid x y p < y := by
  unfold mid
  have h1 : 0 ≤ (y - x) / 65536 * p := Int.mul_nonneg (by omega) (by omega)
  have h2 : (y - x) / 65536 * p ≤ (y - x) / 65536 * 65535 := Int.mul_le_mul_of_nonneg_left p1 (by omega)
  have h3 : 0 ≤ (y - x) % 65536 * p := Int.mul_nonneg (by omega) (by omega)
  have h4 : (y - x) % 65536 * p ≤ (y - x) % 65536 * 65535 := Int.mul_le_mul_of_nonneg_left p1 (by omega)
  omega
/-- One bit: what is shed, and the interval then. -/
def cutX (b p x y : Int) : Int := if b = 1 then x else mid x y p + 1
def cutY (b p x y : Int) : Int := if b = 1 then mid x y p else y
def step (b p x y : Int) : List Int × Int × Int := norm (cutX b p x y) (cutY b p x y)
theorem cut_ivl {b p x y : Int} (n : Nrm x y) (p0 : 1 ≤ p) (p1 : p ≤ 65535) : Ivl (cutX b p x y) (cutY b p x y) := by
  have h := n.df
  have hx := n.xy
  have hm := mid_in (x := x) (y := y) n.x0 (by omega) p0 p1
  have := n.x0
  have := n.y1
  unfold cutX cutY
  by_cases hb : b = 1
  · rw [if_pos hb, if_pos hb]; exact ⟨by omega, by omega, by omega⟩
  · rw [if_neg hb, if_neg hb]; exact ⟨by omega, by omega, by omega⟩
theorem step_nrm {b p x y : Int} (n : Nrm x y) (p0 : 1 ≤ p) (p1 : p ≤ 65535) : Nrm (step b p x y).2.1 (step b p x y).2.2 := norm_ivl _ _ _ rfl (cut_ivl n p0 p1)
theorem xor_zero_iff (a b : Nat) : a ^^^ b = 0 ↔ a = b := by
  constructor
  · intro h
    have : a ^^^ (a ^^^ b) = a ^^^ 0 := by rw [h]
    rw [← Nat.xor_assoc, Nat.xor_self, Nat.zero_xor, Nat.xor_zero] at this
    exact this.symm
  · rintro rfl; exact Nat.xor_self a
/-- As the program reckons: shifts and bits of 32. -/
theorem xor_zero (x y : Int) (x0 : 0 ≤ x) (x1 : x ≤ 4294967295) (y0 : 0 ≤ y) (y1 : y ≤ 4294967295) : (bits .xor .u32 x y / 16777216 == 0) = (x / 16777216 == y / 16777216) := by
  obtain ⟨a, rfl⟩ := Int.eq_ofNat_of_zero_le x0
  obtain ⟨b, rfl⟩ := Int.eq_ofNat_of_zero_le y0
  rw [u32_xor_nat a b (by omega) (by omega)]
  have h1 : (a ^^^ b) / 2 ^ 24 = a / 2 ^ 24 ^^^ b / 2 ^ 24 := by
    rw [← Nat.shiftRight_eq_div_pow, ← Nat.shiftRight_eq_div_pow, ← Nat.shiftRight_eq_div_pow, Nat.shiftRight_xor_distrib]
  have h2 : (a / 2 ^ 24 ^^^ b / 2 ^ 24 = 0) ↔ a / 2 ^ 24 = b / 2 ^ 24 := xor_zero_iff _ _
  rw [Bool.eq_iff_iff, beq_iff_eq, beq_iff_eq]
  rw [← h1] at h2
  have e1 : (2 : Nat) ^ 24 = 16777216 := by decide
  rw [e1] at h2
  constructor
  · intro h
    have := h2.1 (by omega)
    omega
  · intro h
    have := h2.2 (by omega)
    omega
theorem or_255 (y : Int) (y0 : 0 ≤ y) (y1 : y ≤ 4294967295) : bits .or .u32 (y * 256 % 4294967296) 255 = ny y := by
  rw [u32_or _ _ (by omega) (by omega) (by omega) (by omega), nat_join 8 _ _ (by omega) (by decide)]
  unfold ny
  omega
theorem and_low (n : Int) (n0 : 0 ≤ n) (n1 : n ≤ 4294967295) : bits .and .u32 n 65535 = n % 65536 := by
  rw [u32_and _ _ n0 (by omega) (by omega) (by omega)]
  have : n.toNat &&& (65535 : Int).toNat = n.toNat % 2 ^ 16 := Nat.and_two_pow_sub_one_eq_mod n.toNat 16
  rw [this]
  have e : (2 : Nat) ^ 16 = 65536 := by decide
  rw [e]
  omega
end Go.Proofs.Ytbjbpbblalcpkaa
