/- An instruction put into bytes: plain. Conditions: a right one. · An instruction put into bytes, class by class: plain. · The instruction that bytes say: plain; a place that is none: the walk. No condition. · The instruction that bytes say, class by class: plain. · What bytes say, put into bytes again: plain. · A code's instructions, one behind the other: plain. · The reference of chapter 15: within, Class, Right: the walks. No condition. -/
import Derived.Test.YtebmgladdgmmeaaVdSt
import Derived.Laws.BitsAllLaws
namespace Go.Proofs.Ytebmgladdgmmeaa
open Go.RowKit Go.WideShapes
set_option linter.unusedVariables false
set_option linter.unusedSimpArgs false
def octs (l : List Int) : List Value := l.map (.int .u8)
theorem octs_length (l : List Int) : (octs l).length = l.length := by simp [octs]
def firstI (t : In) : Int := t.o * 8 + (if (shO t.o).operand then t.s else t.d)
def restI (t : In) (a : Int) : List Int :=
  if (shO t.o).long then [t.n / 256, t.n % 256] else if (shO t.o).jump then [(t.n - a - 2) % 256] else if (shO t.o).frm then [t.s] else if 0 < moreI t then [t.n] else []
def putI (t : In) (a : Int) : List Int := firstI t :: restI t a
end Go.Proofs.Ytebmgladdgmmeaa
namespace Go.Proofs.Ytebmgladdgmmeaa
open Go.RowKit Go.WideShapes
set_option linter.unusedVariables false
set_option linter.unusedSimpArgs false
theorem lim_1 (o d s n : Int) (h : shO o = ⟨true, -1, false, false, false, false, false⟩) : rightI ⟨o, d, s, n⟩ = true ↔ d = 0 ∧ s = 0 ∧ n = 0 := by
  by_cases hs : s = 7
  · subst hs; simp [rightI, h, inB] <;> omega
  · have hs' : (s == 7) = false := by simp; exact hs
    simp [rightI, h, inB, hs'] <;> omega
theorem put_plain_1 (o d s n a : Int) (h : shO o = ⟨true, -1, false, false, false, false, false⟩) (hr : rightI ⟨o, d, s, n⟩ = true) : putI ⟨o, d, s, n⟩ a = (o * 8 + d) :: [] := by
  have hl := (lim_1 o d s n h).1 hr
  by_cases hs : s = 7 <;> simp [putI, firstI, restI, moreI, h, hs]
theorem lim_2 (o d s n : Int) (h : shO o = ⟨true, 6, true, false, false, false, false⟩) : rightI ⟨o, d, s, n⟩ = true ↔ 0 ≤ d ∧ d ≤ 6 ∧ 0 ≤ s ∧ s ≤ 6 ∧ n = 0 := by
  by_cases hs : s = 7
  · subst hs; simp [rightI, h, inB] <;> omega
  · have hs' : (s == 7) = false := by simp; exact hs
    simp [rightI, h, inB, hs'] <;> omega
theorem put_plain_2 (o d s n a : Int) (h : shO o = ⟨true, 6, true, false, false, false, false⟩) (hr : rightI ⟨o, d, s, n⟩ = true) : putI ⟨o, d, s, n⟩ a = (o * 8 + d) :: [s] := by
  have hl := (lim_2 o d s n h).1 hr
  by_cases hs : s = 7 <;> simp [putI, firstI, restI, moreI, h, hs]
theorem lim_3 (o d s n : Int) (h : shO o = ⟨true, 6, false, false, true, false, false⟩) : rightI ⟨o, d, s, n⟩ = true ↔ 0 ≤ d ∧ d ≤ 6 ∧ s = 0 ∧ 0 ≤ n ∧ n ≤ 255 := by
  by_cases hs : s = 7
  · subst hs; simp [rightI, h, inB] <;> omega
  · have hs' : (s == 7) = false := by simp; exact hs
    simp [rightI, h, inB, hs'] <;> omega
theorem put_plain_3 (o d s n a : Int) (h : shO o = ⟨true, 6, false, false, true, false, false⟩) (hr : rightI ⟨o, d, s, n⟩ = true) : putI ⟨o, d, s, n⟩ a = (o * 8 + d) :: [n] := by
  have hl := (lim_3 o d s n h).1 hr
  by_cases hs : s = 7 <;> simp [putI, firstI, restI, moreI, h, hs]
theorem lim_4 (o d s n : Int) (h : shO o = ⟨true, 6, false, false, false, false, false⟩) : rightI ⟨o, d, s, n⟩ = true ↔ 0 ≤ d ∧ d ≤ 6 ∧ s = 0 ∧ n = 0 := by
  by_cases hs : s = 7
  · subst hs; simp [rightI, h, inB] <;> omega
  · have hs' : (s == 7) = false := by simp; exact hs
    simp [rightI, h, inB, hs'] <;> omega
theorem put_plain_4 (o d s n a : Int) (h : shO o = ⟨true, 6, false, false, false, false, false⟩) (hr : rightI ⟨o, d, s, n⟩ = true) : putI ⟨o, d, s, n⟩ a = (o * 8 + d) :: [] := by
  have hl := (lim_4 o d s n h).1 hr
  by_cases hs : s = 7 <;> simp [putI, firstI, restI, moreI, h, hs]
theorem lim_5 (o d s n : Int) (h : shO o = ⟨true, -1, false, true, false, false, false⟩) : rightI ⟨o, d, s, n⟩ = true ↔ d = 0 ∧ 0 ≤ s ∧ s ≤ 7 ∧ 0 ≤ n ∧ n ≤ 255 ∧ (s ≠ 7 → n = 0) := by
  by_cases hs : s = 7
  · subst hs; simp [rightI, h, inB] <;> omega
  · have hs' : (s == 7) = false := by simp; exact hs
    simp [rightI, h, inB, hs'] <;> omega
theorem put_plain_5 (o d s n a : Int) (h : shO o = ⟨true, -1, false, true, false, false, false⟩) (hr : rightI ⟨o, d, s, n⟩ = true) : putI ⟨o, d, s, n⟩ a = (o * 8 + s) :: (if s = 7 then [n] else []) := by
  have hl := (lim_5 o d s n h).1 hr
  by_cases hs : s = 7 <;> simp [putI, firstI, restI, moreI, h, hs]
theorem lim_6 (o d s n : Int) (h : shO o = ⟨true, 3, false, false, true, false, false⟩) : rightI ⟨o, d, s, n⟩ = true ↔ 0 ≤ d ∧ d ≤ 3 ∧ s = 0 ∧ 0 ≤ n ∧ n ≤ 255 := by
  by_cases hs : s = 7
  · subst hs; simp [rightI, h, inB] <;> omega
  · have hs' : (s == 7) = false := by simp; exact hs
    simp [rightI, h, inB, hs'] <;> omega
theorem put_plain_6 (o d s n a : Int) (h : shO o = ⟨true, 3, false, false, true, false, false⟩) (hr : rightI ⟨o, d, s, n⟩ = true) : putI ⟨o, d, s, n⟩ a = (o * 8 + d) :: [n] := by
  have hl := (lim_6 o d s n h).1 hr
  by_cases hs : s = 7 <;> simp [putI, firstI, restI, moreI, h, hs]
theorem lim_7 (o d s n : Int) (h : shO o = ⟨true, -1, false, false, true, false, false⟩) : rightI ⟨o, d, s, n⟩ = true ↔ d = 0 ∧ s = 0 ∧ 0 ≤ n ∧ n ≤ 255 := by
  by_cases hs : s = 7
  · subst hs; simp [rightI, h, inB] <;> omega
  · have hs' : (s == 7) = false := by simp; exact hs
    simp [rightI, h, inB, hs'] <;> omega
theorem put_plain_7 (o d s n a : Int) (h : shO o = ⟨true, -1, false, false, true, false, false⟩) (hr : rightI ⟨o, d, s, n⟩ = true) : putI ⟨o, d, s, n⟩ a = (o * 8 + d) :: [n] := by
  have hl := (lim_7 o d s n h).1 hr
  by_cases hs : s = 7 <;> simp [putI, firstI, restI, moreI, h, hs]
theorem lim_8 (o d s n : Int) (h : shO o = ⟨true, -1, false, false, false, true, false⟩) : rightI ⟨o, d, s, n⟩ = true ↔ d = 0 ∧ s = 0 ∧ 0 ≤ n ∧ n ≤ 65535 := by
  by_cases hs : s = 7
  · subst hs; simp [rightI, h, inB] <;> omega
  · have hs' : (s == 7) = false := by simp; exact hs
    simp [rightI, h, inB, hs'] <;> omega
theorem put_plain_8 (o d s n a : Int) (h : shO o = ⟨true, -1, false, false, false, true, false⟩) (hr : rightI ⟨o, d, s, n⟩ = true) : putI ⟨o, d, s, n⟩ a = (o * 8 + d) :: [(n - a - 2) % 256] := by
  have hl := (lim_8 o d s n h).1 hr
  by_cases hs : s = 7 <;> simp [putI, firstI, restI, moreI, h, hs]
theorem lim_9 (o d s n : Int) (h : shO o = ⟨true, -1, false, false, false, false, true⟩) : rightI ⟨o, d, s, n⟩ = true ↔ d = 0 ∧ s = 0 ∧ 0 ≤ n ∧ n ≤ 65535 := by
  by_cases hs : s = 7
  · subst hs; simp [rightI, h, inB] <;> omega
  · have hs' : (s == 7) = false := by simp; exact hs
    simp [rightI, h, inB, hs'] <;> omega
theorem put_plain_9 (o d s n a : Int) (h : shO o = ⟨true, -1, false, false, false, false, true⟩) (hr : rightI ⟨o, d, s, n⟩ = true) : putI ⟨o, d, s, n⟩ a = (o * 8 + d) :: [n / 256, n % 256] := by
  have hl := (lim_9 o d s n h).1 hr
  by_cases hs : s = 7 <;> simp [putI, firstI, restI, moreI, h, hs]
end Go.Proofs.Ytebmgladdgmmeaa
namespace Go.Proofs.Ytebmgladdgmmeaa
open Go.RowKit Go.WideShapes
set_option linter.unusedVariables false
set_option linter.unusedSimpArgs false
/-- A byte with its sign. -/
def i8 (x : Int) : Int := if 128 ≤ x then x - 256 else x
def headI (o low : Int) : In := if (shO o).operand then ⟨o, 0, low, 0⟩ else ⟨o, low, 0, 0⟩
def bodyI (bs : List Int) (a : Nat) (o low : Int) : In :=
  if (shO o).long then { headI o low with n := bs.getD (a + 1) 0 * 256 + bs.getD (a + 2) 0 } else if (shO o).jump then { headI o low with n := a + 1 + moreI (headI o low) + i8 (bs.getD (a + 1) 0) } else
  if (shO o).frm then { headI o low with s := bs.getD (a + 1) 0 } else if 0 < moreI (headI o low) then { headI o low with n := bs.getD (a + 1) 0 } else headI o low
def zI : In := ⟨0, 0, 0, 0⟩
def getN (bs : List Int) (a : Nat) : In × Int × Int :=
  if !(shO (bs.getD a 0 / 8)).operand && (!(shO (bs.getD a 0 / 8)).known || decide ((if 0 ≤ (shO (bs.getD a 0 / 8)).place then (shO (bs.getD a 0 / 8)).place else 0) < bs.getD a 0 % 8)) then (zI, 0, 110)
  else if (bs.length : Int) < a + 1 + moreI (headI (bs.getD a 0 / 8) (bs.getD a 0 % 8)) then (zI, 0, 12)
  else if rightI (bodyI bs a (bs.getD a 0 / 8) (bs.getD a 0 % 8)) then (bodyI bs a (bs.getD a 0 / 8) (bs.getD a 0 % 8), a + 1 + moreI (headI (bs.getD a 0 / 8) (bs.getD a 0 % 8)), 0)
  else (zI, 0, 110)
def getI (bs : List Int) (a : Int) : In × Int × Int := if a < 0 ∨ (bs.length : Int) ≤ a ∨ 65536 < bs.length then (zI, 0, 2) else getN bs a.toNat
/-- What Get tells. -/
structure IsGot (r : In × Int × Int) (w0 : World) (e : Ending) (w : World) : Prop where
  ret : e = .returned (.tuple #[r.1.agg, .int .i64 r.2.1, .int .i64 r.2.2])
  low : Below w0.heap.size w0 w
theorem and7 (b : Int) (h0 : 0 ≤ b) (h1 : b ≤ 255) : bits .and .u8 b 7 = b % 8 := by
  rw [u8_and _ _ h0 (by omega) (by omega) (by omega)]
  have : b.toNat &&& (7 : Int).toNat = b.toNat % 2 ^ 3 := Nat.and_two_pow_sub_one_eq_mod b.toNat 3
  rw [this]
  have e : (2 : Nat) ^ 3 = 8 := by decide
  rw [e]
  omega
theorem or_long (x y : Int) (x0 : 0 ≤ x) (x1 : x ≤ 255) (y0 : 0 ≤ y) (y1 : y ≤ 255) : bits .or .i64 (x * 256) y = x * 256 + y := by
  obtain ⟨a, rfl⟩ := Int.eq_ofNat_of_zero_le x0
  obtain ⟨b, rfl⟩ := Int.eq_ofNat_of_zero_le y0
  have h1 : (BitVec.ofInt 64 ((a : Int) * 256)).toNat = a * 256 := by
    rw [BitVec.toNat_ofInt]; omega
  have h2 : (BitVec.ofInt 64 (b : Int)).toNat = b := by
    rw [BitVec.toNat_ofInt]; omega
  show IntKind.i64.wrap ((BitVec.ofInt 64 ((a : Int) * 256) ||| BitVec.ofInt 64 (b : Int)).toNat : Int) = _
  rw [BitVec.toNat_or, h1, h2, nat_join 8 _ _ (by omega) (by omega), IntKind.wrap_i64]
  omega
theorem octs_at {l : List Int} {k : Nat} (h : k < l.length) : (octs l)[k]? = some (.int .u8 (l.getD k 0)) := by
  unfold octs
  rw [List.getElem?_map, List.getD_eq_getElem?_getD, List.getElem?_eq_getElem h]
  rfl
set_option maxRecDepth 100000 in
set_option maxHeartbeats 4000000 in
theorem get_out (bs : List Int) (A : Option Addr) (n c : Nat) (a : Int) (w : World) (hn : n = bs.length) (hnm : n ≤ 9223372036854775807) (h : a < 0 ∨ (n : Int) ≤ a ∨ 65536 < n) : Calls Try.prog 64 #[.slice A n c, .int .i64 a] w (IsGot (getI bs a) w) := by
  have e : getI bs a = (zI, 0, 2) := by unfold getI; rw [if_pos (by rw [← hn]; exact h)]
  rw [e]
  clear e hn
  have hcl : ∀ w', Below w.heap.size w w' → IsGot (zI, 0, 2) w (.returned (.tuple #[.agg #[.int .u8 0, .int .i64 0, .int .i64 0, .int .i64 0], .int .i64 0, .int .i64 2])) w' := fun w' hb => ⟨rfl, hb⟩
  have HCL := Lib.hid hcl
  clear hcl
  rcases (show a < 0 ∨ (0 ≤ a ∧ (n : Int) ≤ a) ∨ (0 ≤ a ∧ a < n ∧ 65536 < n) from by omega) with h1 | ⟨h1, h2⟩ | ⟨h1, h2, h3⟩
  · have g1 : decide (a < 0) = true := by simp; omega
    clear h
    go_enter Try.func64, Try.ntmps64
    go_wp2
    exact bodyPost_ret (v := .tuple #[.agg #[.int .u8 0, .int .i64 0, .int .i64 0, .int .i64 0], .int .i64 0, .int .i64 2]) (by simp [results, Try.results64, go_sem]) rfl (HCL.out _ (by repeat (first | exact Below.refl _ _ | (refine Below.setCell ?_ (by simp) _) | (refine Below.alloc ?_ (by simp; try omega) _))))
  · have g1 : decide (a < 0) = false := by simp; omega
    have g2 : decide ((n : Int) ≤ a) = true := by simp; omega
    clear h
    go_enter Try.func64, Try.ntmps64
    go_wp2
    exact bodyPost_ret (v := .tuple #[.agg #[.int .u8 0, .int .i64 0, .int .i64 0, .int .i64 0], .int .i64 0, .int .i64 2]) (by simp [results, Try.results64, go_sem]) rfl (HCL.out _ (by repeat (first | exact Below.refl _ _ | (refine Below.setCell ?_ (by simp) _) | (refine Below.alloc ?_ (by simp; try omega) _))))
  · have g1 : decide (a < 0) = false := by simp; omega
    have g2 : decide ((n : Int) ≤ a) = false := by simp; omega
    have g3 : decide ((65536 : Int) < (n : Int)) = true := by simp; omega
    have H3 := Lib.hid h3
    clear h h3
    go_enter Try.func64, Try.ntmps64
    go_wp2
    exact bodyPost_ret (v := .tuple #[.agg #[.int .u8 0, .int .i64 0, .int .i64 0, .int .i64 0], .int .i64 0, .int .i64 2]) (by simp [results, Try.results64, go_sem]) rfl (HCL.out _ (by repeat (first | exact Below.refl _ _ | (refine Below.setCell ?_ (by simp) _) | (refine Below.alloc ?_ (by simp; try omega) _))))
end Go.Proofs.Ytebmgladdgmmeaa
namespace Go.Proofs.Ytebmgladdgmmeaa
open Go.RowKit Go.WideShapes
set_option linter.unusedVariables false
set_option linter.unusedSimpArgs false
theorem getN_0low (bs : List Int) (n a : Nat) (b o low : Int) (hn : n = bs.length) (ho : Oct bs) (hlt : a < n) (hb : bs.getD a 0 = b) (hbo : b / 8 = o) (hbl : b % 8 = low) (h : shO o = ⟨false, 0, false, false, false, false, false⟩)  : getN bs a = ((zI : In), (0 : Int), (110 : Int)) := by
  have l0 : 0 ≤ low := by omega
  have g1 := ho.getD (a + 1)
  have g2 := ho.getD (a + 2)
  unfold getN
  rw [hb, hbo, hbl, h]
  rw [if_pos (by simp; try omega)]
theorem getN_1low (bs : List Int) (n a : Nat) (b o low : Int) (hn : n = bs.length) (ho : Oct bs) (hlt : a < n) (hb : bs.getD a 0 = b) (hbo : b / 8 = o) (hbl : b % 8 = low) (h : shO o = ⟨true, -1, false, false, false, false, false⟩) (k1 : 0 < low) : getN bs a = ((zI : In), (0 : Int), (110 : Int)) := by
  have l0 : 0 ≤ low := by omega
  have g1 := ho.getD (a + 1)
  have g2 := ho.getD (a + 2)
  unfold getN
  rw [hb, hbo, hbl, h]
  rw [if_pos (by simp; try omega)]
theorem getN_1ok (bs : List Int) (n a : Nat) (b o low : Int) (hn : n = bs.length) (ho : Oct bs) (hlt : a < n) (hb : bs.getD a 0 = b) (hbo : b / 8 = o) (hbl : b % 8 = low) (h : shO o = ⟨true, -1, false, false, false, false, false⟩) (k1 : low ≤ 0) : getN bs a = ((⟨o, 0, 0, 0⟩ : In), (a + 1 : Int), (0 : Int)) := by
  have l0 : 0 ≤ low := by omega
  have g1 := ho.getD (a + 1)
  have g2 := ho.getD (a + 2)
  unfold getN
  rw [hb, hbo, hbl, h]
  have hm : moreI (headI o low) = 0 := by simp [headI, moreI, h]
  rw [if_neg (by simp; try omega), hm]
  rw [if_neg (by omega)]
  have hbd : bodyI bs a o low = ⟨o, 0, 0, 0⟩ := by
    have hz : low = 0 := by omega
    subst hz
    simp [bodyI, headI, moreI, h]
  have hrt : rightI (bodyI bs a o low) = true := by
    rw [hbd, lim_1 _ _ _ _ h]
    omega
  rw [hrt, if_pos rfl, hbd]
  simp
  try omega
theorem getN_2low (bs : List Int) (n a : Nat) (b o low : Int) (hn : n = bs.length) (ho : Oct bs) (hlt : a < n) (hb : bs.getD a 0 = b) (hbo : b / 8 = o) (hbl : b % 8 = low) (h : shO o = ⟨true, 6, true, false, false, false, false⟩) (k1 : 6 < low) : getN bs a = ((zI : In), (0 : Int), (110 : Int)) := by
  have l0 : 0 ≤ low := by omega
  have g1 := ho.getD (a + 1)
  have g2 := ho.getD (a + 2)
  unfold getN
  rw [hb, hbo, hbl, h]
  rw [if_pos (by simp; try omega)]
theorem getN_2short (bs : List Int) (n a : Nat) (b o low : Int) (hn : n = bs.length) (ho : Oct bs) (hlt : a < n) (hb : bs.getD a 0 = b) (hbo : b / 8 = o) (hbl : b % 8 = low) (h : shO o = ⟨true, 6, true, false, false, false, false⟩) (k1 : low ≤ 6) (k2 : n < a + 2) : getN bs a = ((zI : In), (0 : Int), (12 : Int)) := by
  have l0 : 0 ≤ low := by omega
  have g1 := ho.getD (a + 1)
  have g2 := ho.getD (a + 2)
  unfold getN
  rw [hb, hbo, hbl, h]
  have hm : moreI (headI o low) = 1 := by simp [headI, moreI, h]
  rw [if_neg (by simp; try omega), hm]
  rw [if_pos (by omega)]
theorem getN_2ok (bs : List Int) (n a : Nat) (b o low : Int) (hn : n = bs.length) (ho : Oct bs) (hlt : a < n) (hb : bs.getD a 0 = b) (hbo : b / 8 = o) (hbl : b % 8 = low) (h : shO o = ⟨true, 6, true, false, false, false, false⟩) (k1 : low ≤ 6) (k2 : a + 2 ≤ n) (k3 : bs.getD (a + 1) 0 ≤ 6) : getN bs a = ((⟨o, low, bs.getD (a + 1) 0, 0⟩ : In), (a + 2 : Int), (0 : Int)) := by
  have l0 : 0 ≤ low := by omega
  have g1 := ho.getD (a + 1)
  have g2 := ho.getD (a + 2)
  unfold getN
  rw [hb, hbo, hbl, h]
  have hm : moreI (headI o low) = 1 := by simp [headI, moreI, h]
  rw [if_neg (by simp; try omega), hm]
  rw [if_neg (by omega)]
  have hbd : bodyI bs a o low = ⟨o, low, bs.getD (a + 1) 0, 0⟩ := by
    simp [bodyI, headI, moreI, h]
  have hrt : rightI (bodyI bs a o low) = true := by
    rw [hbd, lim_2 _ _ _ _ h]
    omega
  rw [hrt, if_pos rfl, hbd]
  simp
  try omega
theorem getN_2bad (bs : List Int) (n a : Nat) (b o low : Int) (hn : n = bs.length) (ho : Oct bs) (hlt : a < n) (hb : bs.getD a 0 = b) (hbo : b / 8 = o) (hbl : b % 8 = low) (h : shO o = ⟨true, 6, true, false, false, false, false⟩) (k1 : low ≤ 6) (k2 : a + 2 ≤ n) (k3 : 6 < bs.getD (a + 1) 0) : getN bs a = ((zI : In), (0 : Int), (110 : Int)) := by
  have l0 : 0 ≤ low := by omega
  have g1 := ho.getD (a + 1)
  have g2 := ho.getD (a + 2)
  unfold getN
  rw [hb, hbo, hbl, h]
  have hm : moreI (headI o low) = 1 := by simp [headI, moreI, h]
  rw [if_neg (by simp; try omega), hm]
  rw [if_neg (by omega)]
  have hbd : bodyI bs a o low = ⟨o, low, bs.getD (a + 1) 0, 0⟩ := by
    simp [bodyI, headI, moreI, h]
  have hrt : rightI (bodyI bs a o low) = false := by
    rw [hbd, Bool.eq_false_iff, Ne, lim_2 _ _ _ _ h]
    omega
  rw [hrt]
  rfl
theorem getN_3low (bs : List Int) (n a : Nat) (b o low : Int) (hn : n = bs.length) (ho : Oct bs) (hlt : a < n) (hb : bs.getD a 0 = b) (hbo : b / 8 = o) (hbl : b % 8 = low) (h : shO o = ⟨true, 6, false, false, true, false, false⟩) (k1 : 6 < low) : getN bs a = ((zI : In), (0 : Int), (110 : Int)) := by
  have l0 : 0 ≤ low := by omega
  have g1 := ho.getD (a + 1)
  have g2 := ho.getD (a + 2)
  unfold getN
  rw [hb, hbo, hbl, h]
  rw [if_pos (by simp; try omega)]
theorem getN_3short (bs : List Int) (n a : Nat) (b o low : Int) (hn : n = bs.length) (ho : Oct bs) (hlt : a < n) (hb : bs.getD a 0 = b) (hbo : b / 8 = o) (hbl : b % 8 = low) (h : shO o = ⟨true, 6, false, false, true, false, false⟩) (k1 : low ≤ 6) (k2 : n < a + 2) : getN bs a = ((zI : In), (0 : Int), (12 : Int)) := by
  have l0 : 0 ≤ low := by omega
  have g1 := ho.getD (a + 1)
  have g2 := ho.getD (a + 2)
  unfold getN
  rw [hb, hbo, hbl, h]
  have hm : moreI (headI o low) = 1 := by simp [headI, moreI, h]
  rw [if_neg (by simp; try omega), hm]
  rw [if_pos (by omega)]
theorem getN_3ok (bs : List Int) (n a : Nat) (b o low : Int) (hn : n = bs.length) (ho : Oct bs) (hlt : a < n) (hb : bs.getD a 0 = b) (hbo : b / 8 = o) (hbl : b % 8 = low) (h : shO o = ⟨true, 6, false, false, true, false, false⟩) (k1 : low ≤ 6) (k2 : a + 2 ≤ n) : getN bs a = ((⟨o, low, 0, bs.getD (a + 1) 0⟩ : In), (a + 2 : Int), (0 : Int)) := by
  have l0 : 0 ≤ low := by omega
  have g1 := ho.getD (a + 1)
  have g2 := ho.getD (a + 2)
  unfold getN
  rw [hb, hbo, hbl, h]
  have hm : moreI (headI o low) = 1 := by simp [headI, moreI, h]
  rw [if_neg (by simp; try omega), hm]
  rw [if_neg (by omega)]
  have hbd : bodyI bs a o low = ⟨o, low, 0, bs.getD (a + 1) 0⟩ := by
    simp [bodyI, headI, moreI, h]
  have hrt : rightI (bodyI bs a o low) = true := by
    rw [hbd, lim_3 _ _ _ _ h]
    omega
  rw [hrt, if_pos rfl, hbd]
  simp
  try omega
theorem getN_4low (bs : List Int) (n a : Nat) (b o low : Int) (hn : n = bs.length) (ho : Oct bs) (hlt : a < n) (hb : bs.getD a 0 = b) (hbo : b / 8 = o) (hbl : b % 8 = low) (h : shO o = ⟨true, 6, false, false, false, false, false⟩) (k1 : 6 < low) : getN bs a = ((zI : In), (0 : Int), (110 : Int)) := by
  have l0 : 0 ≤ low := by omega
  have g1 := ho.getD (a + 1)
  have g2 := ho.getD (a + 2)
  unfold getN
  rw [hb, hbo, hbl, h]
  rw [if_pos (by simp; try omega)]
theorem getN_4ok (bs : List Int) (n a : Nat) (b o low : Int) (hn : n = bs.length) (ho : Oct bs) (hlt : a < n) (hb : bs.getD a 0 = b) (hbo : b / 8 = o) (hbl : b % 8 = low) (h : shO o = ⟨true, 6, false, false, false, false, false⟩) (k1 : low ≤ 6) : getN bs a = ((⟨o, low, 0, 0⟩ : In), (a + 1 : Int), (0 : Int)) := by
  have l0 : 0 ≤ low := by omega
  have g1 := ho.getD (a + 1)
  have g2 := ho.getD (a + 2)
  unfold getN
  rw [hb, hbo, hbl, h]
  have hm : moreI (headI o low) = 0 := by simp [headI, moreI, h]
  rw [if_neg (by simp; try omega), hm]
  rw [if_neg (by omega)]
  have hbd : bodyI bs a o low = ⟨o, low, 0, 0⟩ := by
    simp [bodyI, headI, moreI, h]
  have hrt : rightI (bodyI bs a o low) = true := by
    rw [hbd, lim_4 _ _ _ _ h]
    omega
  rw [hrt, if_pos rfl, hbd]
  simp
  try omega
theorem getN_5ok (bs : List Int) (n a : Nat) (b o low : Int) (hn : n = bs.length) (ho : Oct bs) (hlt : a < n) (hb : bs.getD a 0 = b) (hbo : b / 8 = o) (hbl : b % 8 = low) (h : shO o = ⟨true, -1, false, true, false, false, false⟩) (k1 : low ≠ 7) : getN bs a = ((⟨o, 0, low, 0⟩ : In), (a + 1 : Int), (0 : Int)) := by
  have l0 : 0 ≤ low := by omega
  have g1 := ho.getD (a + 1)
  have g2 := ho.getD (a + 2)
  unfold getN
  rw [hb, hbo, hbl, h]
  have hm : moreI (headI o low) = 0 := by simp [headI, moreI, h, k1]
  rw [if_neg (by simp; try omega), hm]
  rw [if_neg (by omega)]
  have hbd : bodyI bs a o low = ⟨o, 0, low, 0⟩ := by
    simp [bodyI, headI, moreI, h, k1]
  have hrt : rightI (bodyI bs a o low) = true := by
    rw [hbd, lim_5 _ _ _ _ h]
    omega
  rw [hrt, if_pos rfl, hbd]
  simp
  try omega
theorem getN_5short (bs : List Int) (n a : Nat) (b o low : Int) (hn : n = bs.length) (ho : Oct bs) (hlt : a < n) (hb : bs.getD a 0 = b) (hbo : b / 8 = o) (hbl : b % 8 = low) (h : shO o = ⟨true, -1, false, true, false, false, false⟩) (k1 : low = 7) (k2 : n < a + 2) : getN bs a = ((zI : In), (0 : Int), (12 : Int)) := by
  have l0 : 0 ≤ low := by omega
  have g1 := ho.getD (a + 1)
  have g2 := ho.getD (a + 2)
  unfold getN
  rw [hb, hbo, hbl, h]
  have hm : moreI (headI o low) = 1 := by simp [headI, moreI, h, k1]
  rw [if_neg (by simp; try omega), hm]
  rw [if_pos (by omega)]
theorem getN_5seven (bs : List Int) (n a : Nat) (b o low : Int) (hn : n = bs.length) (ho : Oct bs) (hlt : a < n) (hb : bs.getD a 0 = b) (hbo : b / 8 = o) (hbl : b % 8 = low) (h : shO o = ⟨true, -1, false, true, false, false, false⟩) (k1 : low = 7) (k2 : a + 2 ≤ n) : getN bs a = ((⟨o, 0, 7, bs.getD (a + 1) 0⟩ : In), (a + 2 : Int), (0 : Int)) := by
  have l0 : 0 ≤ low := by omega
  have g1 := ho.getD (a + 1)
  have g2 := ho.getD (a + 2)
  unfold getN
  rw [hb, hbo, hbl, h]
  have hm : moreI (headI o low) = 1 := by simp [headI, moreI, h, k1]
  rw [if_neg (by simp; try omega), hm]
  rw [if_neg (by omega)]
  have hbd : bodyI bs a o low = ⟨o, 0, 7, bs.getD (a + 1) 0⟩ := by
    subst k1
    simp [bodyI, headI, moreI, h]
  have hrt : rightI (bodyI bs a o low) = true := by
    rw [hbd, lim_5 _ _ _ _ h]
    omega
  rw [hrt, if_pos rfl, hbd]
  simp
  try omega
theorem getN_6low (bs : List Int) (n a : Nat) (b o low : Int) (hn : n = bs.length) (ho : Oct bs) (hlt : a < n) (hb : bs.getD a 0 = b) (hbo : b / 8 = o) (hbl : b % 8 = low) (h : shO o = ⟨true, 3, false, false, true, false, false⟩) (k1 : 3 < low) : getN bs a = ((zI : In), (0 : Int), (110 : Int)) := by
  have l0 : 0 ≤ low := by omega
  have g1 := ho.getD (a + 1)
  have g2 := ho.getD (a + 2)
  unfold getN
  rw [hb, hbo, hbl, h]
  rw [if_pos (by simp; try omega)]
theorem getN_6short (bs : List Int) (n a : Nat) (b o low : Int) (hn : n = bs.length) (ho : Oct bs) (hlt : a < n) (hb : bs.getD a 0 = b) (hbo : b / 8 = o) (hbl : b % 8 = low) (h : shO o = ⟨true, 3, false, false, true, false, false⟩) (k1 : low ≤ 3) (k2 : n < a + 2) : getN bs a = ((zI : In), (0 : Int), (12 : Int)) := by
  have l0 : 0 ≤ low := by omega
  have g1 := ho.getD (a + 1)
  have g2 := ho.getD (a + 2)
  unfold getN
  rw [hb, hbo, hbl, h]
  have hm : moreI (headI o low) = 1 := by simp [headI, moreI, h]
  rw [if_neg (by simp; try omega), hm]
  rw [if_pos (by omega)]
theorem getN_6ok (bs : List Int) (n a : Nat) (b o low : Int) (hn : n = bs.length) (ho : Oct bs) (hlt : a < n) (hb : bs.getD a 0 = b) (hbo : b / 8 = o) (hbl : b % 8 = low) (h : shO o = ⟨true, 3, false, false, true, false, false⟩) (k1 : low ≤ 3) (k2 : a + 2 ≤ n) : getN bs a = ((⟨o, low, 0, bs.getD (a + 1) 0⟩ : In), (a + 2 : Int), (0 : Int)) := by
  have l0 : 0 ≤ low := by omega
  have g1 := ho.getD (a + 1)
  have g2 := ho.getD (a + 2)
  unfold getN
  rw [hb, hbo, hbl, h]
  have hm : moreI (headI o low) = 1 := by simp [headI, moreI, h]
  rw [if_neg (by simp; try omega), hm]
  rw [if_neg (by omega)]
  have hbd : bodyI bs a o low = ⟨o, low, 0, bs.getD (a + 1) 0⟩ := by
    simp [bodyI, headI, moreI, h]
  have hrt : rightI (bodyI bs a o low) = true := by
    rw [hbd, lim_6 _ _ _ _ h]
    omega
  rw [hrt, if_pos rfl, hbd]
  simp
  try omega
theorem getN_7low (bs : List Int) (n a : Nat) (b o low : Int) (hn : n = bs.length) (ho : Oct bs) (hlt : a < n) (hb : bs.getD a 0 = b) (hbo : b / 8 = o) (hbl : b % 8 = low) (h : shO o = ⟨true, -1, false, false, true, false, false⟩) (k1 : 0 < low) : getN bs a = ((zI : In), (0 : Int), (110 : Int)) := by
  have l0 : 0 ≤ low := by omega
  have g1 := ho.getD (a + 1)
  have g2 := ho.getD (a + 2)
  unfold getN
  rw [hb, hbo, hbl, h]
  rw [if_pos (by simp; try omega)]
theorem getN_7short (bs : List Int) (n a : Nat) (b o low : Int) (hn : n = bs.length) (ho : Oct bs) (hlt : a < n) (hb : bs.getD a 0 = b) (hbo : b / 8 = o) (hbl : b % 8 = low) (h : shO o = ⟨true, -1, false, false, true, false, false⟩) (k1 : low ≤ 0) (k2 : n < a + 2) : getN bs a = ((zI : In), (0 : Int), (12 : Int)) := by
  have l0 : 0 ≤ low := by omega
  have g1 := ho.getD (a + 1)
  have g2 := ho.getD (a + 2)
  unfold getN
  rw [hb, hbo, hbl, h]
  have hm : moreI (headI o low) = 1 := by simp [headI, moreI, h]
  rw [if_neg (by simp; try omega), hm]
  rw [if_pos (by omega)]
theorem getN_7ok (bs : List Int) (n a : Nat) (b o low : Int) (hn : n = bs.length) (ho : Oct bs) (hlt : a < n) (hb : bs.getD a 0 = b) (hbo : b / 8 = o) (hbl : b % 8 = low) (h : shO o = ⟨true, -1, false, false, true, false, false⟩) (k1 : low ≤ 0) (k2 : a + 2 ≤ n) : getN bs a = ((⟨o, 0, 0, bs.getD (a + 1) 0⟩ : In), (a + 2 : Int), (0 : Int)) := by
  have l0 : 0 ≤ low := by omega
  have g1 := ho.getD (a + 1)
  have g2 := ho.getD (a + 2)
  unfold getN
  rw [hb, hbo, hbl, h]
  have hm : moreI (headI o low) = 1 := by simp [headI, moreI, h]
  rw [if_neg (by simp; try omega), hm]
  rw [if_neg (by omega)]
  have hbd : bodyI bs a o low = ⟨o, 0, 0, bs.getD (a + 1) 0⟩ := by
    have hz : low = 0 := by omega
    subst hz
    simp [bodyI, headI, moreI, h]
  have hrt : rightI (bodyI bs a o low) = true := by
    rw [hbd, lim_7 _ _ _ _ h]
    omega
  rw [hrt, if_pos rfl, hbd]
  simp
  try omega
theorem getN_8low (bs : List Int) (n a : Nat) (b o low : Int) (hn : n = bs.length) (ho : Oct bs) (hlt : a < n) (hb : bs.getD a 0 = b) (hbo : b / 8 = o) (hbl : b % 8 = low) (h : shO o = ⟨true, -1, false, false, false, true, false⟩) (k1 : 0 < low) : getN bs a = ((zI : In), (0 : Int), (110 : Int)) := by
  have l0 : 0 ≤ low := by omega
  have g1 := ho.getD (a + 1)
  have g2 := ho.getD (a + 2)
  unfold getN
  rw [hb, hbo, hbl, h]
  rw [if_pos (by simp; try omega)]
theorem getN_8short (bs : List Int) (n a : Nat) (b o low : Int) (hn : n = bs.length) (ho : Oct bs) (hlt : a < n) (hb : bs.getD a 0 = b) (hbo : b / 8 = o) (hbl : b % 8 = low) (h : shO o = ⟨true, -1, false, false, false, true, false⟩) (k1 : low ≤ 0) (k2 : n < a + 2) : getN bs a = ((zI : In), (0 : Int), (12 : Int)) := by
  have l0 : 0 ≤ low := by omega
  have g1 := ho.getD (a + 1)
  have g2 := ho.getD (a + 2)
  unfold getN
  rw [hb, hbo, hbl, h]
  have hm : moreI (headI o low) = 1 := by simp [headI, moreI, h]
  rw [if_neg (by simp; try omega), hm]
  rw [if_pos (by omega)]
theorem getN_8ok (bs : List Int) (n a : Nat) (b o low : Int) (hn : n = bs.length) (ho : Oct bs) (hlt : a < n) (hb : bs.getD a 0 = b) (hbo : b / 8 = o) (hbl : b % 8 = low) (h : shO o = ⟨true, -1, false, false, false, true, false⟩) (k1 : low ≤ 0) (k2 : a + 2 ≤ n) (k3 : 0 ≤ (a : Int) + 2 + i8 (bs.getD (a + 1) 0) ∧ (a : Int) + 2 + i8 (bs.getD (a + 1) 0) ≤ 65535) : getN bs a = ((⟨o, 0, 0, a + 2 + i8 (bs.getD (a + 1) 0)⟩ : In), (a + 2 : Int), (0 : Int)) := by
  have l0 : 0 ≤ low := by omega
  have g1 := ho.getD (a + 1)
  have g2 := ho.getD (a + 2)
  unfold getN
  rw [hb, hbo, hbl, h]
  have hm : moreI (headI o low) = 1 := by simp [headI, moreI, h]
  rw [if_neg (by simp; try omega), hm]
  rw [if_neg (by omega)]
  have hbd : bodyI bs a o low = ⟨o, 0, 0, a + 2 + i8 (bs.getD (a + 1) 0)⟩ := by
    have hz : low = 0 := by omega
    subst hz
    simp [bodyI, headI, moreI, h]
    omega
  have hrt : rightI (bodyI bs a o low) = true := by
    rw [hbd, lim_8 _ _ _ _ h]
    omega
  rw [hrt, if_pos rfl, hbd]
  simp
  try omega
theorem getN_8bad (bs : List Int) (n a : Nat) (b o low : Int) (hn : n = bs.length) (ho : Oct bs) (hlt : a < n) (hb : bs.getD a 0 = b) (hbo : b / 8 = o) (hbl : b % 8 = low) (h : shO o = ⟨true, -1, false, false, false, true, false⟩) (k1 : low ≤ 0) (k2 : a + 2 ≤ n) (k3 : (a : Int) + 2 + i8 (bs.getD (a + 1) 0) < 0 ∨ 65535 < (a : Int) + 2 + i8 (bs.getD (a + 1) 0)) : getN bs a = ((zI : In), (0 : Int), (110 : Int)) := by
  have l0 : 0 ≤ low := by omega
  have g1 := ho.getD (a + 1)
  have g2 := ho.getD (a + 2)
  unfold getN
  rw [hb, hbo, hbl, h]
  have hm : moreI (headI o low) = 1 := by simp [headI, moreI, h]
  rw [if_neg (by simp; try omega), hm]
  rw [if_neg (by omega)]
  have hbd : bodyI bs a o low = ⟨o, 0, 0, a + 2 + i8 (bs.getD (a + 1) 0)⟩ := by
    have hz : low = 0 := by omega
    subst hz
    simp [bodyI, headI, moreI, h]
    omega
  have hrt : rightI (bodyI bs a o low) = false := by
    rw [hbd, Bool.eq_false_iff, Ne, lim_8 _ _ _ _ h]
    omega
  rw [hrt]
  rfl
theorem getN_9low (bs : List Int) (n a : Nat) (b o low : Int) (hn : n = bs.length) (ho : Oct bs) (hlt : a < n) (hb : bs.getD a 0 = b) (hbo : b / 8 = o) (hbl : b % 8 = low) (h : shO o = ⟨true, -1, false, false, false, false, true⟩) (k1 : 0 < low) : getN bs a = ((zI : In), (0 : Int), (110 : Int)) := by
  have l0 : 0 ≤ low := by omega
  have g1 := ho.getD (a + 1)
  have g2 := ho.getD (a + 2)
  unfold getN
  rw [hb, hbo, hbl, h]
  rw [if_pos (by simp; try omega)]
theorem getN_9short (bs : List Int) (n a : Nat) (b o low : Int) (hn : n = bs.length) (ho : Oct bs) (hlt : a < n) (hb : bs.getD a 0 = b) (hbo : b / 8 = o) (hbl : b % 8 = low) (h : shO o = ⟨true, -1, false, false, false, false, true⟩) (k1 : low ≤ 0) (k2 : n < a + 3) : getN bs a = ((zI : In), (0 : Int), (12 : Int)) := by
  have l0 : 0 ≤ low := by omega
  have g1 := ho.getD (a + 1)
  have g2 := ho.getD (a + 2)
  unfold getN
  rw [hb, hbo, hbl, h]
  have hm : moreI (headI o low) = 2 := by simp [headI, moreI, h]
  rw [if_neg (by simp; try omega), hm]
  rw [if_pos (by omega)]
theorem getN_9ok (bs : List Int) (n a : Nat) (b o low : Int) (hn : n = bs.length) (ho : Oct bs) (hlt : a < n) (hb : bs.getD a 0 = b) (hbo : b / 8 = o) (hbl : b % 8 = low) (h : shO o = ⟨true, -1, false, false, false, false, true⟩) (k1 : low ≤ 0) (k2 : a + 3 ≤ n) : getN bs a = ((⟨o, 0, 0, bs.getD (a + 1) 0 * 256 + bs.getD (a + 2) 0⟩ : In), (a + 3 : Int), (0 : Int)) := by
  have l0 : 0 ≤ low := by omega
  have g1 := ho.getD (a + 1)
  have g2 := ho.getD (a + 2)
  unfold getN
  rw [hb, hbo, hbl, h]
  have hm : moreI (headI o low) = 2 := by simp [headI, moreI, h]
  rw [if_neg (by simp; try omega), hm]
  rw [if_neg (by omega)]
  have hbd : bodyI bs a o low = ⟨o, 0, 0, bs.getD (a + 1) 0 * 256 + bs.getD (a + 2) 0⟩ := by
    have hz : low = 0 := by omega
    subst hz
    simp [bodyI, headI, moreI, h]
  have hrt : rightI (bodyI bs a o low) = true := by
    rw [hbd, lim_9 _ _ _ _ h]
    omega
  rw [hrt, if_pos rfl, hbd]
  simp
  try omega
end Go.Proofs.Ytebmgladdgmmeaa
namespace Go.Proofs.Ytebmgladdgmmeaa
open Go.RowKit Go.WideShapes
set_option linter.unusedVariables false
set_option linter.unusedSimpArgs false
def farI (t : In) (a : Int) : Bool := (shO t.o).jump && !(decide (-128 ≤ t.n - a - 2) && decide (t.n - a - 2 ≤ 127))
theorem take1 (bs : List Int) (k : Nat) (h : k + 1 ≤ bs.length) : (bs.drop k).take 1 = [bs.getD k 0] := by
  have h0 : k < bs.length := by omega
  rw [List.drop_eq_getElem_cons h0, List.getD_eq_getElem?_getD, List.getElem?_eq_getElem h0]
  rfl
theorem take_more (bs : List Int) (k m : Nat) (h : k < bs.length) : (bs.drop k).take (m + 1) = bs.getD k 0 :: (bs.drop (k + 1)).take m := by
  rw [List.drop_eq_getElem_cons h, List.getD_eq_getElem?_getD, List.getElem?_eq_getElem h]
  rfl
theorem take2 (bs : List Int) (k : Nat) (h : k + 2 ≤ bs.length) : (bs.drop k).take 2 = [bs.getD k 0, bs.getD (k + 1) 0] := by
  rw [take_more bs k 1 (by omega), take1 bs (k + 1) (by omega)]
theorem take3 (bs : List Int) (k : Nat) (h : k + 3 ≤ bs.length) : (bs.drop k).take 3 = [bs.getD k 0, bs.getD (k + 1) 0, bs.getD (k + 2) 0] := by
  rw [take_more bs k 2 (by omega), take2 bs (k + 1) (by omega)]
/-- What Get tells without a fault. -/
structure Got (bs : List Int) (k : Nat) (p : In) (e : Nat) : Prop where
  right : rightI p = true
  near : farI p k = false
  o0 : 0 ≤ p.o
  o1 : p.o ≤ 31
  len : ((putI p k).length : Int) = lenI p
  put : putI p k = (bs.drop k).take (e - k)
  lo : k < e
  hi : e ≤ bs.length
theorem lenI_of {t : In} (h : rightI t = true) : lenI t = 1 + moreI t := by unfold lenI; rw [if_pos h]
theorem got_1ok (bs : List Int) (n a : Nat) (b o low : Int) (hn : n = bs.length) (ho : Oct bs) (hlt : a < n) (hb : bs.getD a 0 = b) (hbo : b / 8 = o) (hbl : b % 8 = low) (h : shO o = ⟨true, -1, false, false, false, false, false⟩) (k1 : low ≤ 0) : ∃ p e, getN bs a = (p, ((e : Nat) : Int), 0) ∧ Got bs a p e := by
  have hg := getN_1ok bs n a b o low hn ho hlt hb hbo hbl h k1
  have hbb := ho.getD a
  have g1 := ho.getD (a + 1)
  have g2 := ho.getD (a + 2)
  rw [hb] at hbb
  have l0 : 0 ≤ low := by omega
  obtain rfl : low = 0 := by omega
  have hr : rightI ⟨o, 0, 0, 0⟩ = true := (lim_1 _ _ _ _ h).2 (by omega)
  have hp := put_plain_1 _ _ _ _ a h hr
  refine ⟨⟨o, 0, 0, 0⟩, a + 1, by rw [hg]; rfl, hr, ?_, by simp only; omega, by simp only; omega, ?_, ?_, by omega, by omega⟩
  · simp [farI, h]
  · rw [hp, lenI_of hr]
    simp [moreI, h]
  · rw [hp, show a + 1 - a = 1 by omega, take1 bs a (by omega), hb]
    skip
    congr 1; omega
theorem got_2ok (bs : List Int) (n a : Nat) (b o low : Int) (hn : n = bs.length) (ho : Oct bs) (hlt : a < n) (hb : bs.getD a 0 = b) (hbo : b / 8 = o) (hbl : b % 8 = low) (h : shO o = ⟨true, 6, true, false, false, false, false⟩) (k1 : low ≤ 6) (k2 : a + 2 ≤ n) (k3 : bs.getD (a + 1) 0 ≤ 6) : ∃ p e, getN bs a = (p, ((e : Nat) : Int), 0) ∧ Got bs a p e := by
  have hg := getN_2ok bs n a b o low hn ho hlt hb hbo hbl h k1 k2 k3
  have hbb := ho.getD a
  have g1 := ho.getD (a + 1)
  have g2 := ho.getD (a + 2)
  rw [hb] at hbb
  have l0 : 0 ≤ low := by omega
  have hr : rightI ⟨o, low, bs.getD (a + 1) 0, 0⟩ = true := (lim_2 _ _ _ _ h).2 (by omega)
  have hp := put_plain_2 _ _ _ _ a h hr
  refine ⟨⟨o, low, bs.getD (a + 1) 0, 0⟩, a + 2, by rw [hg]; rfl, hr, ?_, by simp only; omega, by simp only; omega, ?_, ?_, by omega, by omega⟩
  · simp [farI, h]
  · rw [hp, lenI_of hr]
    simp [moreI, h]
  · rw [hp, show a + 2 - a = 2 by omega, take2 bs a (by omega), hb]
    skip
    congr 1; omega
theorem got_3ok (bs : List Int) (n a : Nat) (b o low : Int) (hn : n = bs.length) (ho : Oct bs) (hlt : a < n) (hb : bs.getD a 0 = b) (hbo : b / 8 = o) (hbl : b % 8 = low) (h : shO o = ⟨true, 6, false, false, true, false, false⟩) (k1 : low ≤ 6) (k2 : a + 2 ≤ n) : ∃ p e, getN bs a = (p, ((e : Nat) : Int), 0) ∧ Got bs a p e := by
  have hg := getN_3ok bs n a b o low hn ho hlt hb hbo hbl h k1 k2
  have hbb := ho.getD a
  have g1 := ho.getD (a + 1)
  have g2 := ho.getD (a + 2)
  rw [hb] at hbb
  have l0 : 0 ≤ low := by omega
  have hr : rightI ⟨o, low, 0, bs.getD (a + 1) 0⟩ = true := (lim_3 _ _ _ _ h).2 (by omega)
  have hp := put_plain_3 _ _ _ _ a h hr
  refine ⟨⟨o, low, 0, bs.getD (a + 1) 0⟩, a + 2, by rw [hg]; rfl, hr, ?_, by simp only; omega, by simp only; omega, ?_, ?_, by omega, by omega⟩
  · simp [farI, h]
  · rw [hp, lenI_of hr]
    simp [moreI, h]
  · rw [hp, show a + 2 - a = 2 by omega, take2 bs a (by omega), hb]
    skip
    congr 1; omega
theorem got_4ok (bs : List Int) (n a : Nat) (b o low : Int) (hn : n = bs.length) (ho : Oct bs) (hlt : a < n) (hb : bs.getD a 0 = b) (hbo : b / 8 = o) (hbl : b % 8 = low) (h : shO o = ⟨true, 6, false, false, false, false, false⟩) (k1 : low ≤ 6) : ∃ p e, getN bs a = (p, ((e : Nat) : Int), 0) ∧ Got bs a p e := by
  have hg := getN_4ok bs n a b o low hn ho hlt hb hbo hbl h k1
  have hbb := ho.getD a
  have g1 := ho.getD (a + 1)
  have g2 := ho.getD (a + 2)
  rw [hb] at hbb
  have l0 : 0 ≤ low := by omega
  have hr : rightI ⟨o, low, 0, 0⟩ = true := (lim_4 _ _ _ _ h).2 (by omega)
  have hp := put_plain_4 _ _ _ _ a h hr
  refine ⟨⟨o, low, 0, 0⟩, a + 1, by rw [hg]; rfl, hr, ?_, by simp only; omega, by simp only; omega, ?_, ?_, by omega, by omega⟩
  · simp [farI, h]
  · rw [hp, lenI_of hr]
    simp [moreI, h]
  · rw [hp, show a + 1 - a = 1 by omega, take1 bs a (by omega), hb]
    skip
    congr 1; omega
theorem got_5ok (bs : List Int) (n a : Nat) (b o low : Int) (hn : n = bs.length) (ho : Oct bs) (hlt : a < n) (hb : bs.getD a 0 = b) (hbo : b / 8 = o) (hbl : b % 8 = low) (h : shO o = ⟨true, -1, false, true, false, false, false⟩) (k1 : low ≠ 7) : ∃ p e, getN bs a = (p, ((e : Nat) : Int), 0) ∧ Got bs a p e := by
  have hg := getN_5ok bs n a b o low hn ho hlt hb hbo hbl h k1
  have hbb := ho.getD a
  have g1 := ho.getD (a + 1)
  have g2 := ho.getD (a + 2)
  rw [hb] at hbb
  have l0 : 0 ≤ low := by omega
  have hr : rightI ⟨o, 0, low, 0⟩ = true := (lim_5 _ _ _ _ h).2 (by omega)
  have hp := put_plain_5 _ _ _ _ a h hr
  refine ⟨⟨o, 0, low, 0⟩, a + 1, by rw [hg]; rfl, hr, ?_, by simp only; omega, by simp only; omega, ?_, ?_, by omega, by omega⟩
  · simp [farI, h]
  · rw [hp, lenI_of hr]
    simp [moreI, h, k1]
  · rw [hp, show a + 1 - a = 1 by omega, take1 bs a (by omega), hb]
    rw [if_neg k1]
    congr 1; omega
theorem got_5seven (bs : List Int) (n a : Nat) (b o low : Int) (hn : n = bs.length) (ho : Oct bs) (hlt : a < n) (hb : bs.getD a 0 = b) (hbo : b / 8 = o) (hbl : b % 8 = low) (h : shO o = ⟨true, -1, false, true, false, false, false⟩) (k1 : low = 7) (k2 : a + 2 ≤ n) : ∃ p e, getN bs a = (p, ((e : Nat) : Int), 0) ∧ Got bs a p e := by
  have hg := getN_5seven bs n a b o low hn ho hlt hb hbo hbl h k1 k2
  have hbb := ho.getD a
  have g1 := ho.getD (a + 1)
  have g2 := ho.getD (a + 2)
  rw [hb] at hbb
  have l0 : 0 ≤ low := by omega
  subst k1
  have hr : rightI ⟨o, 0, 7, bs.getD (a + 1) 0⟩ = true := (lim_5 _ _ _ _ h).2 (by omega)
  have hp := put_plain_5 _ _ _ _ a h hr
  refine ⟨⟨o, 0, 7, bs.getD (a + 1) 0⟩, a + 2, by rw [hg]; rfl, hr, ?_, by simp only; omega, by simp only; omega, ?_, ?_, by omega, by omega⟩
  · simp [farI, h]
  · rw [hp, lenI_of hr]
    simp [moreI, h]
  · rw [hp, show a + 2 - a = 2 by omega, take2 bs a (by omega), hb]
    rw [if_pos rfl]
    congr 1; omega
theorem got_6ok (bs : List Int) (n a : Nat) (b o low : Int) (hn : n = bs.length) (ho : Oct bs) (hlt : a < n) (hb : bs.getD a 0 = b) (hbo : b / 8 = o) (hbl : b % 8 = low) (h : shO o = ⟨true, 3, false, false, true, false, false⟩) (k1 : low ≤ 3) (k2 : a + 2 ≤ n) : ∃ p e, getN bs a = (p, ((e : Nat) : Int), 0) ∧ Got bs a p e := by
  have hg := getN_6ok bs n a b o low hn ho hlt hb hbo hbl h k1 k2
  have hbb := ho.getD a
  have g1 := ho.getD (a + 1)
  have g2 := ho.getD (a + 2)
  rw [hb] at hbb
  have l0 : 0 ≤ low := by omega
  have hr : rightI ⟨o, low, 0, bs.getD (a + 1) 0⟩ = true := (lim_6 _ _ _ _ h).2 (by omega)
  have hp := put_plain_6 _ _ _ _ a h hr
  refine ⟨⟨o, low, 0, bs.getD (a + 1) 0⟩, a + 2, by rw [hg]; rfl, hr, ?_, by simp only; omega, by simp only; omega, ?_, ?_, by omega, by omega⟩
  · simp [farI, h]
  · rw [hp, lenI_of hr]
    simp [moreI, h]
  · rw [hp, show a + 2 - a = 2 by omega, take2 bs a (by omega), hb]
    skip
    congr 1; omega
theorem got_7ok (bs : List Int) (n a : Nat) (b o low : Int) (hn : n = bs.length) (ho : Oct bs) (hlt : a < n) (hb : bs.getD a 0 = b) (hbo : b / 8 = o) (hbl : b % 8 = low) (h : shO o = ⟨true, -1, false, false, true, false, false⟩) (k1 : low ≤ 0) (k2 : a + 2 ≤ n) : ∃ p e, getN bs a = (p, ((e : Nat) : Int), 0) ∧ Got bs a p e := by
  have hg := getN_7ok bs n a b o low hn ho hlt hb hbo hbl h k1 k2
  have hbb := ho.getD a
  have g1 := ho.getD (a + 1)
  have g2 := ho.getD (a + 2)
  rw [hb] at hbb
  have l0 : 0 ≤ low := by omega
  obtain rfl : low = 0 := by omega
  have hr : rightI ⟨o, 0, 0, bs.getD (a + 1) 0⟩ = true := (lim_7 _ _ _ _ h).2 (by omega)
  have hp := put_plain_7 _ _ _ _ a h hr
  refine ⟨⟨o, 0, 0, bs.getD (a + 1) 0⟩, a + 2, by rw [hg]; rfl, hr, ?_, by simp only; omega, by simp only; omega, ?_, ?_, by omega, by omega⟩
  · simp [farI, h]
  · rw [hp, lenI_of hr]
    simp [moreI, h]
  · rw [hp, show a + 2 - a = 2 by omega, take2 bs a (by omega), hb]
    skip
    congr 1; omega
theorem got_8ok (bs : List Int) (n a : Nat) (b o low : Int) (hn : n = bs.length) (ho : Oct bs) (hlt : a < n) (hb : bs.getD a 0 = b) (hbo : b / 8 = o) (hbl : b % 8 = low) (h : shO o = ⟨true, -1, false, false, false, true, false⟩) (k1 : low ≤ 0) (k2 : a + 2 ≤ n) (k3 : 0 ≤ (a : Int) + 2 + i8 (bs.getD (a + 1) 0) ∧ (a : Int) + 2 + i8 (bs.getD (a + 1) 0) ≤ 65535) : ∃ p e, getN bs a = (p, ((e : Nat) : Int), 0) ∧ Got bs a p e := by
  have hg := getN_8ok bs n a b o low hn ho hlt hb hbo hbl h k1 k2 k3
  have hbb := ho.getD a
  have g1 := ho.getD (a + 1)
  have g2 := ho.getD (a + 2)
  rw [hb] at hbb
  have l0 : 0 ≤ low := by omega
  obtain rfl : low = 0 := by omega
  have hs0 : -128 ≤ i8 (bs.getD (a + 1) 0) := by unfold i8; split <;> omega
  have hs1 : i8 (bs.getD (a + 1) 0) ≤ 127 := by unfold i8; split <;> omega
  have hs2 : i8 (bs.getD (a + 1) 0) % 256 = bs.getD (a + 1) 0 := by unfold i8; split <;> omega
  have hr : rightI ⟨o, 0, 0, a + 2 + i8 (bs.getD (a + 1) 0)⟩ = true := (lim_8 _ _ _ _ h).2 (by omega)
  have hp := put_plain_8 _ _ _ _ a h hr
  refine ⟨⟨o, 0, 0, a + 2 + i8 (bs.getD (a + 1) 0)⟩, a + 2, by rw [hg]; rfl, hr, ?_, by simp only; omega, by simp only; omega, ?_, ?_, by omega, by omega⟩
  · generalize i8 (bs.getD (a + 1) 0) = sg at *; simp [farI, h]; omega
  · rw [hp, lenI_of hr]
    simp [moreI, h]
  · rw [hp, show a + 2 - a = 2 by omega, take2 bs a (by omega), hb]
    skip
    rw [show ((a : Int) + 2 + i8 (bs.getD (a + 1) 0) - a - 2) % 256 = bs.getD (a + 1) 0 by omega]; congr 1; omega
theorem got_9ok (bs : List Int) (n a : Nat) (b o low : Int) (hn : n = bs.length) (ho : Oct bs) (hlt : a < n) (hb : bs.getD a 0 = b) (hbo : b / 8 = o) (hbl : b % 8 = low) (h : shO o = ⟨true, -1, false, false, false, false, true⟩) (k1 : low ≤ 0) (k2 : a + 3 ≤ n) : ∃ p e, getN bs a = (p, ((e : Nat) : Int), 0) ∧ Got bs a p e := by
  have hg := getN_9ok bs n a b o low hn ho hlt hb hbo hbl h k1 k2
  have hbb := ho.getD a
  have g1 := ho.getD (a + 1)
  have g2 := ho.getD (a + 2)
  rw [hb] at hbb
  have l0 : 0 ≤ low := by omega
  obtain rfl : low = 0 := by omega
  have hr : rightI ⟨o, 0, 0, bs.getD (a + 1) 0 * 256 + bs.getD (a + 2) 0⟩ = true := (lim_9 _ _ _ _ h).2 (by omega)
  have hp := put_plain_9 _ _ _ _ a h hr
  refine ⟨⟨o, 0, 0, bs.getD (a + 1) 0 * 256 + bs.getD (a + 2) 0⟩, a + 3, by rw [hg]; rfl, hr, ?_, by simp only; omega, by simp only; omega, ?_, ?_, by omega, by omega⟩
  · simp [farI, h]
  · rw [hp, lenI_of hr]
    simp [moreI, h]
  · rw [hp, show a + 3 - a = 3 by omega, take3 bs a (by omega), hb]
    skip
    rw [show (bs.getD (a + 1) 0 * 256 + bs.getD (a + 2) 0) / 256 = bs.getD (a + 1) 0 by omega, show (bs.getD (a + 1) 0 * 256 + bs.getD (a + 2) 0) % 256 = bs.getD (a + 2) 0 by omega]; congr 1; omega
theorem get_cases (bs : List Int) (a : Nat) (ho : Oct bs) (hlt : a < bs.length) : (getN bs a = (zI, 0, 110) ∨ getN bs a = (zI, 0, 12)) ∨ ∃ p e, getN bs a = (p, ((e : Nat) : Int), 0) ∧ Got bs a p e := by
  have hbb := ho.getD a
  have l0 : 0 ≤ bs.getD a 0 % 8 := by omega
  rcases sh_cases (bs.getD a 0 / 8) with ⟨_, h⟩ | ⟨_, h⟩ | ⟨_, h⟩ | ⟨_, h⟩ | ⟨_, h⟩ | ⟨_, h⟩ | ⟨_, h⟩ | ⟨_, h⟩ | ⟨_, h⟩ | ⟨_, h⟩
  · exact .inl (.inl (getN_0low bs _ a _ _ _ rfl ho hlt rfl rfl rfl h))
  · rcases Int.lt_or_le 0 (bs.getD a 0 % 8) with k1 | k1
    · exact .inl (.inl (getN_1low bs _ a _ _ _ rfl ho hlt rfl rfl rfl h k1))
    · exact .inr (got_1ok bs _ a _ _ _ rfl ho hlt rfl rfl rfl h k1)
  · rcases Int.lt_or_le 6 (bs.getD a 0 % 8) with k1 | k1
    · exact .inl (.inl (getN_2low bs _ a _ _ _ rfl ho hlt rfl rfl rfl h k1))
    · rcases Nat.lt_or_ge bs.length (a + 2) with k2 | k2
      · exact .inl (.inr (getN_2short bs _ a _ _ _ rfl ho hlt rfl rfl rfl h k1 k2))
      · rcases Int.lt_or_le 6 (bs.getD (a + 1) 0) with k3 | k3
        · exact .inl (.inl (getN_2bad bs _ a _ _ _ rfl ho hlt rfl rfl rfl h k1 k2 k3))
        · exact .inr (got_2ok bs _ a _ _ _ rfl ho hlt rfl rfl rfl h k1 k2 k3)
  · rcases Int.lt_or_le 6 (bs.getD a 0 % 8) with k1 | k1
    · exact .inl (.inl (getN_3low bs _ a _ _ _ rfl ho hlt rfl rfl rfl h k1))
    · rcases Nat.lt_or_ge bs.length (a + 2) with k2 | k2
      · exact .inl (.inr (getN_3short bs _ a _ _ _ rfl ho hlt rfl rfl rfl h k1 k2))
      · exact .inr (got_3ok bs _ a _ _ _ rfl ho hlt rfl rfl rfl h k1 k2)
  · rcases Int.lt_or_le 6 (bs.getD a 0 % 8) with k1 | k1
    · exact .inl (.inl (getN_4low bs _ a _ _ _ rfl ho hlt rfl rfl rfl h k1))
    · exact .inr (got_4ok bs _ a _ _ _ rfl ho hlt rfl rfl rfl h k1)
  · by_cases k1 : bs.getD a 0 % 8 = 7
    · rcases Nat.lt_or_ge bs.length (a + 2) with k2 | k2
      · exact .inl (.inr (getN_5short bs _ a _ _ _ rfl ho hlt rfl rfl rfl h k1 k2))
      · exact .inr (got_5seven bs _ a _ _ _ rfl ho hlt rfl rfl rfl h k1 k2)
    · exact .inr (got_5ok bs _ a _ _ _ rfl ho hlt rfl rfl rfl h k1)
  · rcases Int.lt_or_le 3 (bs.getD a 0 % 8) with k1 | k1
    · exact .inl (.inl (getN_6low bs _ a _ _ _ rfl ho hlt rfl rfl rfl h k1))
    · rcases Nat.lt_or_ge bs.length (a + 2) with k2 | k2
      · exact .inl (.inr (getN_6short bs _ a _ _ _ rfl ho hlt rfl rfl rfl h k1 k2))
      · exact .inr (got_6ok bs _ a _ _ _ rfl ho hlt rfl rfl rfl h k1 k2)
  · rcases Int.lt_or_le 0 (bs.getD a 0 % 8) with k1 | k1
    · exact .inl (.inl (getN_7low bs _ a _ _ _ rfl ho hlt rfl rfl rfl h k1))
    · rcases Nat.lt_or_ge bs.length (a + 2) with k2 | k2
      · exact .inl (.inr (getN_7short bs _ a _ _ _ rfl ho hlt rfl rfl rfl h k1 k2))
      · exact .inr (got_7ok bs _ a _ _ _ rfl ho hlt rfl rfl rfl h k1 k2)
  · rcases Int.lt_or_le 0 (bs.getD a 0 % 8) with k1 | k1
    · exact .inl (.inl (getN_8low bs _ a _ _ _ rfl ho hlt rfl rfl rfl h k1))
    · rcases Nat.lt_or_ge bs.length (a + 2) with k2 | k2
      · exact .inl (.inr (getN_8short bs _ a _ _ _ rfl ho hlt rfl rfl rfl h k1 k2))
      · by_cases k3 : 0 ≤ (a : Int) + 2 + i8 (bs.getD (a + 1) 0) ∧ (a : Int) + 2 + i8 (bs.getD (a + 1) 0) ≤ 65535
        · exact .inr (got_8ok bs _ a _ _ _ rfl ho hlt rfl rfl rfl h k1 k2 k3)
        · exact .inl (.inl (getN_8bad bs _ a _ _ _ rfl ho hlt rfl rfl rfl h k1 k2 (by omega)))
  · rcases Int.lt_or_le 0 (bs.getD a 0 % 8) with k1 | k1
    · exact .inl (.inl (getN_9low bs _ a _ _ _ rfl ho hlt rfl rfl rfl h k1))
    · rcases Nat.lt_or_ge bs.length (a + 3) with k2 | k2
      · exact .inl (.inr (getN_9short bs _ a _ _ _ rfl ho hlt rfl rfl rfl h k1 k2))
      · exact .inr (got_9ok bs _ a _ _ _ rfl ho hlt rfl rfl rfl h k1 k2)
end Go.Proofs.Ytebmgladdgmmeaa
namespace Go.Proofs.Ytebmgladdgmmeaa
open Go.RowKit Go.WideShapes
set_option linter.unusedVariables false
set_option linter.unusedSimpArgs false
/-- The instructions from place a on, up to place z. -/
def Chain (bs : List Int) : Nat → List (Nat × In) → Nat → Prop
  | a, [], z => a = z
  | a, p :: ps, z => p.1 = a ∧ a < bs.length ∧ ∃ n : Nat, getI bs a = (p.2, (n : Int), 0) ∧ Got bs a p.2 n ∧ Chain bs n ps z
theorem getI_nat (bs : List Int) (a : Nat) (h : a < bs.length) (hl : bs.length ≤ 65536) : getI bs a = getN bs a := by
  unfold getI
  rw [if_neg (by omega)]
  rfl
/-- How a code's instructions end: at its end, or at a fault. -/
def EndsAt (bs : List Int) (z : Nat) : Prop := z = bs.length ∨ (z < bs.length ∧ ∃ e : Int, e ≠ 0 ∧ 0 ≤ e ∧ e ≤ 255 ∧ getI bs z = (zI, 0, e))
theorem Chain.at {bs : List Int} : ∀ {ps : List (Nat × In)} {a z : Nat}, Chain bs a ps z → ∀ (k : Nat) (p : Nat × In), ps[k]? = some p → p.1 < bs.length ∧ ∃ n : Nat, getI bs p.1 = (p.2, (n : Int), 0) ∧ Got bs p.1 p.2 n
  | [], a, z, h, k, p, hp => by simp at hp
  | q :: ps, a, z, h, k, p, hp => by
    obtain ⟨h0, hlt, n, h1, hg, hc⟩ := h
    rcases k with _ | k
    · simp at hp
      subst hp
      rw [h0]
      exact ⟨hlt, n, h1, hg⟩
    · exact Chain.at hc k p (by simpa using hp)
theorem inB_to {n low high : Int} {named : Bool} (h : inB n low high named = true) (hl : 0 ≤ low) (hh : 0 ≤ high) : 0 ≤ n ∧ n ≤ high := by
  unfold inB at h
  split at h <;> simp at h <;> omega
/-- What a right instruction's numbers may be. -/
theorem right_bd {t : In} (h : rightI t = true) : (0 ≤ t.d ∧ t.d ≤ 7) ∧ (0 ≤ t.s ∧ t.s ≤ 7) ∧ (0 ≤ t.n ∧ t.n ≤ 65535) := by
  unfold rightI at h
  simp only [Bool.and_eq_true] at h
  obtain ⟨⟨⟨hk, hd⟩, hs⟩, hn⟩ := h
  refine ⟨?_, ?_, ?_⟩
  · rcases sh_cases t.o with ⟨_, e⟩ | ⟨_, e⟩ | ⟨_, e⟩ | ⟨_, e⟩ | ⟨_, e⟩ | ⟨_, e⟩ | ⟨_, e⟩ | ⟨_, e⟩ | ⟨_, e⟩ | ⟨_, e⟩ <;> rw [e] at hd <;> simp [inB] at hd <;> omega
  · rcases sh_cases t.o with ⟨_, e⟩ | ⟨_, e⟩ | ⟨_, e⟩ | ⟨_, e⟩ | ⟨_, e⟩ | ⟨_, e⟩ | ⟨_, e⟩ | ⟨_, e⟩ | ⟨_, e⟩ | ⟨_, e⟩ <;> rw [e] at hs <;> simp [inB] at hs <;> omega
  · have hb := inB_to hn (by omega) (by split <;> omega)
    refine ⟨hb.1, ?_⟩
    have := hb.2
    split at this <;> omega
/-- What the statements ask of the list of a code's instructions. -/
structure Scan (bs : List Int) (ps : List (Nat × In)) (z : Nat) : Prop where
  chain : Chain bs 0 ps z
  ends : EndsAt bs z
def codeS (bs : List Int) (z : Nat) : Int := if 4096 < bs.length then 3 else if bs.length = 0 then 110 else if z = bs.length then 0 else 110
def startsI (ps : List (Nat × In)) : List Int := ps.map fun p => (p.1 : Int)
def goesI (ps : List (Nat × In)) : List Int := (ps.filter fun p => decide (27 ≤ p.2.o)).map fun p => p.2.n
def goodI (post : Bool) (ps : List (Nat × In)) : Bool := ps.all fun p => post || p.2.o != 26
def lastI (ps : List (Nat × In)) : Int := match ps.getLast? with | none => 0 | some p => p.2.o
def endI (o : Int) : Bool := o == 0 || o == 29 || o == 30
def checkI (post : Bool) (ps : List (Nat × In)) : Bool := goodI post ps && (goesI ps).all (fun x => (startsI ps).contains x) && endI (lastI ps)
def codeC (bs : List Int) (ps : List (Nat × In)) (z : Nat) (post : Bool) : Int := if codeS bs z = 0 then (if checkI post ps then 0 else 110) else codeS bs z
theorem startsI_snoc (ps : List (Nat × In)) (p : Nat × In) : startsI (ps ++ [p]) = startsI ps ++ [(p.1 : Int)] := by simp [startsI]
theorem goesI_snoc (ps : List (Nat × In)) (p : Nat × In) : goesI (ps ++ [p]) = if 27 ≤ p.2.o then goesI ps ++ [p.2.n] else goesI ps := by
  unfold goesI
  by_cases h : 27 ≤ p.2.o <;> simp [List.filter_append, List.filter_cons, h]
theorem goodI_snoc (post : Bool) (ps : List (Nat × In)) (p : Nat × In) : goodI post (ps ++ [p]) = (goodI post ps && (post || p.2.o != 26)) := by simp [goodI]
theorem lastI_snoc (ps : List (Nat × In)) (p : Nat × In) : lastI (ps ++ [p]) = p.2.o := by simp [lastI]
end Go.Proofs.Ytebmgladdgmmeaa
namespace Go.Proofs.Ytebmgladdgmmeaa
open Go.RowKit Go.WideShapes
set_option linter.unusedVariables false
set_option linter.unusedSimpArgs false
theorem within15 (n low high : Int) (w : World) : Calls Try.prog 79 #[.int .i64 n, .int .i64 low, .int .i64 high] w (Same (.bool (inB n low high true)) w) := by
  by_cases h1 : low ≤ n
  · have g : decide (low ≤ n) = true := by simp; omega
    go_enter Try.func79, Try.ntmps79
    go_wp2
    go_ret
    exact ⟨by simp [inB, h1], rfl⟩
  · have g : decide (low ≤ n) = false := by simp; omega
    go_enter Try.func79, Try.ntmps79
    go_wp2
    go_ret
    exact ⟨by simp [inB, g], rfl⟩
set_option maxRecDepth 100000 in
set_option maxHeartbeats 2000000 in
theorem class15 (o : Int) (w : World) (h0 : 0 ≤ o) : Calls Try.prog 78 #[.int .u8 o] w (Same (.int .i64 (cls o)) w) := by
  rcases op_cases o h0 with ⟨rfl, h⟩ | ⟨rfl, h⟩ | ⟨rfl, h⟩ | ⟨h1, h2, h⟩ | ⟨h1, h2, h⟩ | ⟨rfl, h⟩ | ⟨rfl, h⟩ | ⟨h1, h2, h⟩ | ⟨h1, h2, h⟩ | ⟨rfl, h⟩ | ⟨h1, h⟩
  · rw [h]
    clear h h0
    go_enter Try.func78, Try.ntmps78
    go_wp2
    go_ret
    exact ⟨rfl, rfl⟩
  · rw [h]
    clear h h0
    go_enter Try.func78, Try.ntmps78
    go_wp2
    go_ret
    exact ⟨rfl, rfl⟩
  · rw [h]
    clear h h0
    go_enter Try.func78, Try.ntmps78
    go_wp2
    go_ret
    exact ⟨rfl, rfl⟩
  · rw [h]
    have e0 : (o == 0) = false := by simp; omega
    have e24 : (o == 24) = false := by simp; omega
    have e25 : (o == 25) = false := by simp; omega
    have e26 : (o == 26) = false := by simp; omega
    have e1 : (o == 1) = false := by simp; omega
    have e2 : (o == 2) = false := by simp; omega
    have e22 : (o == 22) = false := by simp; omega
    have e23 : (o == 23) = false := by simp; omega
    have e30 : (o == 30) = false := by simp; omega
    have l7 : decide (o ≤ 7) = true := by simp; omega
    have l21 : decide (o ≤ 21) = true := by simp; omega
    have l29 : decide (o ≤ 29) = true := by simp; omega
    clear h h1 h2 h0
    go_enter Try.func78, Try.ntmps78
    go_wp2
    go_ret
    exact ⟨rfl, rfl⟩
  · rw [h]
    have e0 : (o == 0) = false := by simp; omega
    have e24 : (o == 24) = false := by simp; omega
    have e25 : (o == 25) = false := by simp; omega
    have e26 : (o == 26) = false := by simp; omega
    have e1 : (o == 1) = false := by simp; omega
    have e2 : (o == 2) = false := by simp; omega
    have e22 : (o == 22) = false := by simp; omega
    have e23 : (o == 23) = false := by simp; omega
    have e30 : (o == 30) = false := by simp; omega
    have l7 : decide (o ≤ 7) = false := by simp; omega
    have l21 : decide (o ≤ 21) = true := by simp; omega
    have l29 : decide (o ≤ 29) = true := by simp; omega
    clear h h1 h2 h0
    go_enter Try.func78, Try.ntmps78
    go_wp2
    go_ret
    exact ⟨rfl, rfl⟩
  · rw [h]
    clear h h0
    go_enter Try.func78, Try.ntmps78
    go_wp2
    go_ret
    exact ⟨rfl, rfl⟩
  · rw [h]
    clear h h0
    go_enter Try.func78, Try.ntmps78
    go_wp2
    go_ret
    exact ⟨rfl, rfl⟩
  · rw [h]
    clear h
    rcases (show o = 24 ∨ o = 25 ∨ o = 26 from by omega) with rfl | rfl | rfl
    all_goals
      clear h0 h1 h2
      go_enter Try.func78, Try.ntmps78
      go_wp2
      go_ret
      exact ⟨rfl, rfl⟩
  · rw [h]
    have e0 : (o == 0) = false := by simp; omega
    have e24 : (o == 24) = false := by simp; omega
    have e25 : (o == 25) = false := by simp; omega
    have e26 : (o == 26) = false := by simp; omega
    have e1 : (o == 1) = false := by simp; omega
    have e2 : (o == 2) = false := by simp; omega
    have e22 : (o == 22) = false := by simp; omega
    have e23 : (o == 23) = false := by simp; omega
    have e30 : (o == 30) = false := by simp; omega
    have l7 : decide (o ≤ 7) = false := by simp; omega
    have l21 : decide (o ≤ 21) = false := by simp; omega
    have l29 : decide (o ≤ 29) = true := by simp; omega
    clear h h1 h2 h0
    go_enter Try.func78, Try.ntmps78
    go_wp2
    go_ret
    exact ⟨rfl, rfl⟩
  · rw [h]
    clear h h0
    go_enter Try.func78, Try.ntmps78
    go_wp2
    go_ret
    exact ⟨rfl, rfl⟩
  · rw [h]
    have e0 : (o == 0) = false := by simp; omega
    have e24 : (o == 24) = false := by simp; omega
    have e25 : (o == 25) = false := by simp; omega
    have e26 : (o == 26) = false := by simp; omega
    have e1 : (o == 1) = false := by simp; omega
    have e2 : (o == 2) = false := by simp; omega
    have e22 : (o == 22) = false := by simp; omega
    have e23 : (o == 23) = false := by simp; omega
    have e30 : (o == 30) = false := by simp; omega
    have l7 : decide (o ≤ 7) = false := by simp; omega
    have l21 : decide (o ≤ 21) = false := by simp; omega
    have l29 : decide (o ≤ 29) = false := by simp; omega
    clear h h1 h0
    go_enter Try.func78, Try.ntmps78
    go_wp2
    go_ret
    exact ⟨rfl, rfl⟩
structure CodeQ (t : In) (w0 : World) (e : Ending) (w : World) : Prop where
  ret : e = .returned (.int .i64 (codeI t))
  low : Below w0.heap.size w0 w
theorem codeQ_of {t : In} {b : Bool} {w0 w : World} {x : Int} (h : rightI t = b) (hx : x = if b then 0 else 110) (hb : Below w0.heap.size w0 w) : CodeQ t w0 (.returned (.int .i64 x)) w := ⟨by unfold codeI; rw [h, hx], hb⟩
set_option maxRecDepth 100000 in
set_option maxHeartbeats 4000000 in
theorem rightR_0 (o d s n : Int) (w : World) (h0 : 0 ≤ o) (h : shO o = ⟨false, 0, false, false, false, false, false⟩) (hc : cls o = 0) : Calls Try.prog 57 #[.agg #[.int .u8 o, .int .i64 d, .int .i64 s, .int .i64 n]] w (CodeQ ⟨o, d, s, n⟩ w) := by
  obtain ⟨bd, hbd⟩ : ∃ b : Bool, (d == 0) = b := ⟨_, rfl⟩
  obtain ⟨bs, hbs⟩ : ∃ b : Bool, (s == 0) = b := ⟨_, rfl⟩
  obtain ⟨bn, hbn⟩ : ∃ b : Bool, (n == 0) = b := ⟨_, rfl⟩
  have hR : rightI ⟨o, d, s, n⟩ = false := by simp [rightI, h]
  have HR := Lib.hid hR
  have hcl := fun W => class15 o W h0
  rw [hc] at hcl
  have HCL := Lib.hid hcl
  clear hR hcl h hc h0 
  go_enter Try.func57, Try.ntmps57
  go_wp2_with fail
  go_quiet (fail)
  go_wp2_with (first | (go_at_call 78; refine (HCL.out _).mono ?_; rintro e w1 ⟨rfl, rfl⟩))
  go_ret
  exact codeQ_of HR.out (by simp) (below_drewN ((Below.refl _ _).alloc (Nat.le_refl _) _) _)
set_option maxRecDepth 100000 in
set_option maxHeartbeats 4000000 in
theorem rightR_1 (o d s n : Int) (w : World) (h0 : 0 ≤ o) (h : shO o = ⟨true, -1, false, false, false, false, false⟩) (hc : cls o = 1) : Calls Try.prog 57 #[.agg #[.int .u8 o, .int .i64 d, .int .i64 s, .int .i64 n]] w (CodeQ ⟨o, d, s, n⟩ w) := by
  obtain ⟨bd, hbd⟩ : ∃ b : Bool, (d == 0) = b := ⟨_, rfl⟩
  obtain ⟨bs, hbs⟩ : ∃ b : Bool, (s == 0) = b := ⟨_, rfl⟩
  obtain ⟨bn, hbn⟩ : ∃ b : Bool, (n == 0) = b := ⟨_, rfl⟩
  have hR : rightI ⟨o, d, s, n⟩ = (bd && bs && bn) := by
    rw [Bool.eq_iff_iff, lim_1 _ _ _ _ h]
    subst hbd hbs hbn
    simp [inB]
    try omega
  have HR := Lib.hid hR
  have hcl := fun W => class15 o W h0
  rw [hc] at hcl
  have HCL := Lib.hid hcl
  clear hR hcl h hc h0 
  cases bd
  · skip
    go_enter Try.func57, Try.ntmps57
    go_wp2_with fail
    go_quiet (fail)
    go_wp2_with (first | (go_at_call 78; refine (HCL.out _).mono ?_; rintro e w1 ⟨rfl, rfl⟩))
    go_ret
    exact codeQ_of HR.out (by simp) (below_drewN ((Below.refl _ _).alloc (Nat.le_refl _) _) _)
  · skip
    cases bs
    · skip
      go_enter Try.func57, Try.ntmps57
      go_wp2_with fail
      go_quiet (fail)
      go_wp2_with (first | (go_at_call 78; refine (HCL.out _).mono ?_; rintro e w1 ⟨rfl, rfl⟩))
      go_ret
      exact codeQ_of HR.out (by simp) (below_drewN ((Below.refl _ _).alloc (Nat.le_refl _) _) _)
    · skip
      cases bn
      · skip
        go_enter Try.func57, Try.ntmps57
        go_wp2_with fail
        go_quiet (fail)
        go_wp2_with (first | (go_at_call 78; refine (HCL.out _).mono ?_; rintro e w1 ⟨rfl, rfl⟩))
        go_ret
        exact codeQ_of HR.out (by simp) (below_drewN ((Below.refl _ _).alloc (Nat.le_refl _) _) _)
      · skip
        go_enter Try.func57, Try.ntmps57
        go_wp2_with fail
        go_quiet (fail)
        go_wp2_with (first | (go_at_call 78; refine (HCL.out _).mono ?_; rintro e w1 ⟨rfl, rfl⟩))
        go_ret
        exact codeQ_of HR.out (by simp) (below_drewN ((Below.refl _ _).alloc (Nat.le_refl _) _) _)
set_option maxRecDepth 100000 in
set_option maxHeartbeats 4000000 in
theorem rightR_2 (o d s n : Int) (w : World) (h0 : 0 ≤ o) (h : shO o = ⟨true, 6, true, false, false, false, false⟩) (hc : cls o = 2) : Calls Try.prog 57 #[.agg #[.int .u8 o, .int .i64 d, .int .i64 s, .int .i64 n]] w (CodeQ ⟨o, d, s, n⟩ w) := by
  obtain ⟨bd, hbd⟩ : ∃ b : Bool, (d == 0) = b := ⟨_, rfl⟩
  obtain ⟨bs, hbs⟩ : ∃ b : Bool, (s == 0) = b := ⟨_, rfl⟩
  obtain ⟨bn, hbn⟩ : ∃ b : Bool, (n == 0) = b := ⟨_, rfl⟩
  obtain ⟨wd6, hwd6⟩ : ∃ b : Bool, inB d 0 6 true = b := ⟨_, rfl⟩
  obtain ⟨ws6, hws6⟩ : ∃ b : Bool, inB s 0 6 true = b := ⟨_, rfl⟩
  have hR : rightI ⟨o, d, s, n⟩ = (wd6 && ws6 && bn) := by
    rw [Bool.eq_iff_iff, lim_2 _ _ _ _ h]
    subst hbd hbs hbn hwd6 hws6
    simp [inB]
    try omega
  have HR := Lib.hid hR
  have hcl := fun W => class15 o W h0
  rw [hc] at hcl
  have HCL := Lib.hid hcl
  have kwd6 := fun W => within15 d 0 6 W
  rw [hwd6] at kwd6
  have Kwd6 := Lib.hid kwd6
  clear kwd6
  have kws6 := fun W => within15 s 0 6 W
  rw [hws6] at kws6
  have Kws6 := Lib.hid kws6
  clear kws6
  clear hR hcl h hc h0 hwd6 hws6
  cases wd6
  · skip
    go_enter Try.func57, Try.ntmps57
    go_wp2_with fail
    go_quiet (fail)
    go_wp2_with (first | (go_at_call 78; refine (HCL.out _).mono ?_; rintro e w1 ⟨rfl, rfl⟩) | (go_at_call 79; ((with_reducible refine (Kwd6.out _).mono ?_)); rintro e w1 ⟨rfl, rfl⟩) | (go_at_call 79; ((with_reducible refine (Kws6.out _).mono ?_)); rintro e w1 ⟨rfl, rfl⟩))
    go_ret
    exact codeQ_of HR.out (by simp) (below_drewN ((Below.refl _ _).alloc (Nat.le_refl _) _) _)
  · skip
    cases ws6
    · skip
      go_enter Try.func57, Try.ntmps57
      go_wp2_with fail
      go_quiet (fail)
      go_wp2_with (first | (go_at_call 78; refine (HCL.out _).mono ?_; rintro e w1 ⟨rfl, rfl⟩) | (go_at_call 79; ((with_reducible refine (Kwd6.out _).mono ?_)); rintro e w1 ⟨rfl, rfl⟩) | (go_at_call 79; ((with_reducible refine (Kws6.out _).mono ?_)); rintro e w1 ⟨rfl, rfl⟩))
      go_ret
      exact codeQ_of HR.out (by simp) (below_drewN ((Below.refl _ _).alloc (Nat.le_refl _) _) _)
    · skip
      cases bn
      · skip
        go_enter Try.func57, Try.ntmps57
        go_wp2_with fail
        go_quiet (fail)
        go_wp2_with (first | (go_at_call 78; refine (HCL.out _).mono ?_; rintro e w1 ⟨rfl, rfl⟩) | (go_at_call 79; ((with_reducible refine (Kwd6.out _).mono ?_)); rintro e w1 ⟨rfl, rfl⟩) | (go_at_call 79; ((with_reducible refine (Kws6.out _).mono ?_)); rintro e w1 ⟨rfl, rfl⟩))
        go_ret
        exact codeQ_of HR.out (by simp) (below_drewN ((Below.refl _ _).alloc (Nat.le_refl _) _) _)
      · skip
        go_enter Try.func57, Try.ntmps57
        go_wp2_with fail
        go_quiet (fail)
        go_wp2_with (first | (go_at_call 78; refine (HCL.out _).mono ?_; rintro e w1 ⟨rfl, rfl⟩) | (go_at_call 79; ((with_reducible refine (Kwd6.out _).mono ?_)); rintro e w1 ⟨rfl, rfl⟩) | (go_at_call 79; ((with_reducible refine (Kws6.out _).mono ?_)); rintro e w1 ⟨rfl, rfl⟩))
        go_ret
        exact codeQ_of HR.out (by simp) (below_drewN ((Below.refl _ _).alloc (Nat.le_refl _) _) _)
set_option maxRecDepth 100000 in
set_option maxHeartbeats 4000000 in
theorem rightR_3 (o d s n : Int) (w : World) (h0 : 0 ≤ o) (h : shO o = ⟨true, 6, false, false, true, false, false⟩) (hc : cls o = 3) : Calls Try.prog 57 #[.agg #[.int .u8 o, .int .i64 d, .int .i64 s, .int .i64 n]] w (CodeQ ⟨o, d, s, n⟩ w) := by
  obtain ⟨bd, hbd⟩ : ∃ b : Bool, (d == 0) = b := ⟨_, rfl⟩
  obtain ⟨bs, hbs⟩ : ∃ b : Bool, (s == 0) = b := ⟨_, rfl⟩
  obtain ⟨bn, hbn⟩ : ∃ b : Bool, (n == 0) = b := ⟨_, rfl⟩
  obtain ⟨wd6, hwd6⟩ : ∃ b : Bool, inB d 0 6 true = b := ⟨_, rfl⟩
  obtain ⟨wn255, hwn255⟩ : ∃ b : Bool, inB n 0 255 true = b := ⟨_, rfl⟩
  have hR : rightI ⟨o, d, s, n⟩ = (wd6 && bs && wn255) := by
    rw [Bool.eq_iff_iff, lim_3 _ _ _ _ h]
    subst hbd hbs hbn hwd6 hwn255
    simp [inB]
    try omega
  have HR := Lib.hid hR
  have hcl := fun W => class15 o W h0
  rw [hc] at hcl
  have HCL := Lib.hid hcl
  have kwd6 := fun W => within15 d 0 6 W
  rw [hwd6] at kwd6
  have Kwd6 := Lib.hid kwd6
  clear kwd6
  have kwn255 := fun W => within15 n 0 255 W
  rw [hwn255] at kwn255
  have Kwn255 := Lib.hid kwn255
  clear kwn255
  clear hR hcl h hc h0 hwd6 hwn255
  cases wd6
  · skip
    go_enter Try.func57, Try.ntmps57
    go_wp2_with fail
    go_quiet (fail)
    go_wp2_with (first | (go_at_call 78; refine (HCL.out _).mono ?_; rintro e w1 ⟨rfl, rfl⟩) | (go_at_call 79; ((with_reducible refine (Kwd6.out _).mono ?_)); rintro e w1 ⟨rfl, rfl⟩) | (go_at_call 79; ((with_reducible refine (Kwn255.out _).mono ?_)); rintro e w1 ⟨rfl, rfl⟩))
    go_ret
    exact codeQ_of HR.out (by simp) (below_drewN ((Below.refl _ _).alloc (Nat.le_refl _) _) _)
  · skip
    cases bs
    · skip
      go_enter Try.func57, Try.ntmps57
      go_wp2_with fail
      go_quiet (fail)
      go_wp2_with (first | (go_at_call 78; refine (HCL.out _).mono ?_; rintro e w1 ⟨rfl, rfl⟩) | (go_at_call 79; ((with_reducible refine (Kwd6.out _).mono ?_)); rintro e w1 ⟨rfl, rfl⟩) | (go_at_call 79; ((with_reducible refine (Kwn255.out _).mono ?_)); rintro e w1 ⟨rfl, rfl⟩))
      go_ret
      exact codeQ_of HR.out (by simp) (below_drewN ((Below.refl _ _).alloc (Nat.le_refl _) _) _)
    · skip
      cases wn255
      · skip
        go_enter Try.func57, Try.ntmps57
        go_wp2_with fail
        go_quiet (fail)
        go_wp2_with (first | (go_at_call 78; refine (HCL.out _).mono ?_; rintro e w1 ⟨rfl, rfl⟩) | (go_at_call 79; ((with_reducible refine (Kwd6.out _).mono ?_)); rintro e w1 ⟨rfl, rfl⟩) | (go_at_call 79; ((with_reducible refine (Kwn255.out _).mono ?_)); rintro e w1 ⟨rfl, rfl⟩))
        go_ret
        exact codeQ_of HR.out (by simp) (below_drewN ((Below.refl _ _).alloc (Nat.le_refl _) _) _)
      · skip
        go_enter Try.func57, Try.ntmps57
        go_wp2_with fail
        go_quiet (fail)
        go_wp2_with (first | (go_at_call 78; refine (HCL.out _).mono ?_; rintro e w1 ⟨rfl, rfl⟩) | (go_at_call 79; ((with_reducible refine (Kwd6.out _).mono ?_)); rintro e w1 ⟨rfl, rfl⟩) | (go_at_call 79; ((with_reducible refine (Kwn255.out _).mono ?_)); rintro e w1 ⟨rfl, rfl⟩))
        go_ret
        exact codeQ_of HR.out (by simp) (below_drewN ((Below.refl _ _).alloc (Nat.le_refl _) _) _)
set_option maxRecDepth 100000 in
set_option maxHeartbeats 4000000 in
theorem rightR_4 (o d s n : Int) (w : World) (h0 : 0 ≤ o) (h : shO o = ⟨true, 6, false, false, false, false, false⟩) (hc : cls o = 4) : Calls Try.prog 57 #[.agg #[.int .u8 o, .int .i64 d, .int .i64 s, .int .i64 n]] w (CodeQ ⟨o, d, s, n⟩ w) := by
  obtain ⟨bd, hbd⟩ : ∃ b : Bool, (d == 0) = b := ⟨_, rfl⟩
  obtain ⟨bs, hbs⟩ : ∃ b : Bool, (s == 0) = b := ⟨_, rfl⟩
  obtain ⟨bn, hbn⟩ : ∃ b : Bool, (n == 0) = b := ⟨_, rfl⟩
  obtain ⟨wd6, hwd6⟩ : ∃ b : Bool, inB d 0 6 true = b := ⟨_, rfl⟩
  have hR : rightI ⟨o, d, s, n⟩ = (wd6 && bs && bn) := by
    rw [Bool.eq_iff_iff, lim_4 _ _ _ _ h]
    subst hbd hbs hbn hwd6
    simp [inB]
    try omega
  have HR := Lib.hid hR
  have hcl := fun W => class15 o W h0
  rw [hc] at hcl
  have HCL := Lib.hid hcl
  have kwd6 := fun W => within15 d 0 6 W
  rw [hwd6] at kwd6
  have Kwd6 := Lib.hid kwd6
  clear kwd6
  clear hR hcl h hc h0 hwd6
  cases wd6
  · skip
    go_enter Try.func57, Try.ntmps57
    go_wp2_with fail
    go_quiet (fail)
    go_wp2_with (first | (go_at_call 78; refine (HCL.out _).mono ?_; rintro e w1 ⟨rfl, rfl⟩) | (go_at_call 79; ((with_reducible refine (Kwd6.out _).mono ?_)); rintro e w1 ⟨rfl, rfl⟩))
    go_ret
    exact codeQ_of HR.out (by simp) (below_drewN ((Below.refl _ _).alloc (Nat.le_refl _) _) _)
  · skip
    cases bs
    · skip
      go_enter Try.func57, Try.ntmps57
      go_wp2_with fail
      go_quiet (fail)
      go_wp2_with (first | (go_at_call 78; refine (HCL.out _).mono ?_; rintro e w1 ⟨rfl, rfl⟩) | (go_at_call 79; ((with_reducible refine (Kwd6.out _).mono ?_)); rintro e w1 ⟨rfl, rfl⟩))
      go_ret
      exact codeQ_of HR.out (by simp) (below_drewN ((Below.refl _ _).alloc (Nat.le_refl _) _) _)
    · skip
      cases bn
      · skip
        go_enter Try.func57, Try.ntmps57
        go_wp2_with fail
        go_quiet (fail)
        go_wp2_with (first | (go_at_call 78; refine (HCL.out _).mono ?_; rintro e w1 ⟨rfl, rfl⟩) | (go_at_call 79; ((with_reducible refine (Kwd6.out _).mono ?_)); rintro e w1 ⟨rfl, rfl⟩))
        go_ret
        exact codeQ_of HR.out (by simp) (below_drewN ((Below.refl _ _).alloc (Nat.le_refl _) _) _)
      · skip
        go_enter Try.func57, Try.ntmps57
        go_wp2_with fail
        go_quiet (fail)
        go_wp2_with (first | (go_at_call 78; refine (HCL.out _).mono ?_; rintro e w1 ⟨rfl, rfl⟩) | (go_at_call 79; ((with_reducible refine (Kwd6.out _).mono ?_)); rintro e w1 ⟨rfl, rfl⟩))
        go_ret
        exact codeQ_of HR.out (by simp) (below_drewN ((Below.refl _ _).alloc (Nat.le_refl _) _) _)
set_option maxRecDepth 100000 in
set_option maxHeartbeats 4000000 in
theorem rightR_5 (o d s n : Int) (w : World) (h0 : 0 ≤ o) (h : shO o = ⟨true, -1, false, true, false, false, false⟩) (hc : cls o = 5) : Calls Try.prog 57 #[.agg #[.int .u8 o, .int .i64 d, .int .i64 s, .int .i64 n]] w (CodeQ ⟨o, d, s, n⟩ w) := by
  obtain ⟨bd, hbd⟩ : ∃ b : Bool, (d == 0) = b := ⟨_, rfl⟩
  obtain ⟨bs, hbs⟩ : ∃ b : Bool, (s == 0) = b := ⟨_, rfl⟩
  obtain ⟨bn, hbn⟩ : ∃ b : Bool, (n == 0) = b := ⟨_, rfl⟩
  obtain ⟨ws6, hws6⟩ : ∃ b : Bool, inB s 0 6 true = b := ⟨_, rfl⟩
  obtain ⟨b7, hb7⟩ : ∃ b : Bool, (s == 7) = b := ⟨_, rfl⟩
  obtain ⟨wn255, hwn255⟩ : ∃ b : Bool, inB n 0 255 true = b := ⟨_, rfl⟩
  have hR : rightI ⟨o, d, s, n⟩ = (bd && ((ws6 && bn) || (b7 && wn255))) := by
    rw [Bool.eq_iff_iff, lim_5 _ _ _ _ h]
    subst hbd hbs hbn hws6 hb7 hwn255
    simp [inB]
    try omega
  have HR := Lib.hid hR
  have hcl := fun W => class15 o W h0
  rw [hc] at hcl
  have HCL := Lib.hid hcl
  have kws6 := fun W => within15 s 0 6 W
  rw [hws6] at kws6
  have Kws6 := Lib.hid kws6
  clear kws6
  have kwn255 := fun W => within15 n 0 255 W
  rw [hwn255] at kwn255
  have Kwn255 := Lib.hid kwn255
  clear kwn255
  clear hR hcl h hc h0 hws6 hwn255
  cases bd
  · skip
    go_enter Try.func57, Try.ntmps57
    go_wp2_with fail
    go_quiet (fail)
    go_wp2_with (first | (go_at_call 78; refine (HCL.out _).mono ?_; rintro e w1 ⟨rfl, rfl⟩) | (go_at_call 79; ((with_reducible refine (Kws6.out _).mono ?_)); rintro e w1 ⟨rfl, rfl⟩) | (go_at_call 79; ((with_reducible refine (Kwn255.out _).mono ?_)); rintro e w1 ⟨rfl, rfl⟩))
    go_ret
    exact codeQ_of HR.out (by simp) (below_drewN ((Below.refl _ _).alloc (Nat.le_refl _) _) _)
  · skip
    cases ws6
    · skip
      cases b7
      · skip
        go_enter Try.func57, Try.ntmps57
        go_wp2_with fail
        go_quiet (fail)
        go_wp2_with (first | (go_at_call 78; refine (HCL.out _).mono ?_; rintro e w1 ⟨rfl, rfl⟩) | (go_at_call 79; ((with_reducible refine (Kws6.out _).mono ?_)); rintro e w1 ⟨rfl, rfl⟩) | (go_at_call 79; ((with_reducible refine (Kwn255.out _).mono ?_)); rintro e w1 ⟨rfl, rfl⟩))
        go_ret
        exact codeQ_of HR.out (by simp) (below_drewN ((Below.refl _ _).alloc (Nat.le_refl _) _) _)
      · skip
        cases wn255
        · skip
          go_enter Try.func57, Try.ntmps57
          go_wp2_with fail
          go_quiet (fail)
          go_wp2_with (first | (go_at_call 78; refine (HCL.out _).mono ?_; rintro e w1 ⟨rfl, rfl⟩) | (go_at_call 79; ((with_reducible refine (Kws6.out _).mono ?_)); rintro e w1 ⟨rfl, rfl⟩) | (go_at_call 79; ((with_reducible refine (Kwn255.out _).mono ?_)); rintro e w1 ⟨rfl, rfl⟩))
          go_ret
          exact codeQ_of HR.out (by simp) (below_drewN ((Below.refl _ _).alloc (Nat.le_refl _) _) _)
        · skip
          go_enter Try.func57, Try.ntmps57
          go_wp2_with fail
          go_quiet (fail)
          go_wp2_with (first | (go_at_call 78; refine (HCL.out _).mono ?_; rintro e w1 ⟨rfl, rfl⟩) | (go_at_call 79; ((with_reducible refine (Kws6.out _).mono ?_)); rintro e w1 ⟨rfl, rfl⟩) | (go_at_call 79; ((with_reducible refine (Kwn255.out _).mono ?_)); rintro e w1 ⟨rfl, rfl⟩))
          go_ret
          exact codeQ_of HR.out (by simp) (below_drewN ((Below.refl _ _).alloc (Nat.le_refl _) _) _)
    · skip
      cases bn
      · skip
        cases b7
        · skip
          go_enter Try.func57, Try.ntmps57
          go_wp2_with fail
          go_quiet (fail)
          go_wp2_with (first | (go_at_call 78; refine (HCL.out _).mono ?_; rintro e w1 ⟨rfl, rfl⟩) | (go_at_call 79; ((with_reducible refine (Kws6.out _).mono ?_)); rintro e w1 ⟨rfl, rfl⟩) | (go_at_call 79; ((with_reducible refine (Kwn255.out _).mono ?_)); rintro e w1 ⟨rfl, rfl⟩))
          go_ret
          exact codeQ_of HR.out (by simp) (below_drewN ((Below.refl _ _).alloc (Nat.le_refl _) _) _)
        · skip
          cases wn255
          · skip
            go_enter Try.func57, Try.ntmps57
            go_wp2_with fail
            go_quiet (fail)
            go_wp2_with (first | (go_at_call 78; refine (HCL.out _).mono ?_; rintro e w1 ⟨rfl, rfl⟩) | (go_at_call 79; ((with_reducible refine (Kws6.out _).mono ?_)); rintro e w1 ⟨rfl, rfl⟩) | (go_at_call 79; ((with_reducible refine (Kwn255.out _).mono ?_)); rintro e w1 ⟨rfl, rfl⟩))
            go_ret
            exact codeQ_of HR.out (by simp) (below_drewN ((Below.refl _ _).alloc (Nat.le_refl _) _) _)
          · skip
            go_enter Try.func57, Try.ntmps57
            go_wp2_with fail
            go_quiet (fail)
            go_wp2_with (first | (go_at_call 78; refine (HCL.out _).mono ?_; rintro e w1 ⟨rfl, rfl⟩) | (go_at_call 79; ((with_reducible refine (Kws6.out _).mono ?_)); rintro e w1 ⟨rfl, rfl⟩) | (go_at_call 79; ((with_reducible refine (Kwn255.out _).mono ?_)); rintro e w1 ⟨rfl, rfl⟩))
            go_ret
            exact codeQ_of HR.out (by simp) (below_drewN ((Below.refl _ _).alloc (Nat.le_refl _) _) _)
      · skip
        go_enter Try.func57, Try.ntmps57
        go_wp2_with fail
        go_quiet (fail)
        go_wp2_with (first | (go_at_call 78; refine (HCL.out _).mono ?_; rintro e w1 ⟨rfl, rfl⟩) | (go_at_call 79; ((with_reducible refine (Kws6.out _).mono ?_)); rintro e w1 ⟨rfl, rfl⟩) | (go_at_call 79; ((with_reducible refine (Kwn255.out _).mono ?_)); rintro e w1 ⟨rfl, rfl⟩))
        go_ret
        exact codeQ_of HR.out (by simp) (below_drewN ((Below.refl _ _).alloc (Nat.le_refl _) _) _)
set_option maxRecDepth 100000 in
set_option maxHeartbeats 4000000 in
theorem rightR_6 (o d s n : Int) (w : World) (h0 : 0 ≤ o) (h : shO o = ⟨true, 3, false, false, true, false, false⟩) (hc : cls o = 6) : Calls Try.prog 57 #[.agg #[.int .u8 o, .int .i64 d, .int .i64 s, .int .i64 n]] w (CodeQ ⟨o, d, s, n⟩ w) := by
  obtain ⟨bd, hbd⟩ : ∃ b : Bool, (d == 0) = b := ⟨_, rfl⟩
  obtain ⟨bs, hbs⟩ : ∃ b : Bool, (s == 0) = b := ⟨_, rfl⟩
  obtain ⟨bn, hbn⟩ : ∃ b : Bool, (n == 0) = b := ⟨_, rfl⟩
  obtain ⟨wd3, hwd3⟩ : ∃ b : Bool, inB d 0 3 true = b := ⟨_, rfl⟩
  obtain ⟨wn255, hwn255⟩ : ∃ b : Bool, inB n 0 255 true = b := ⟨_, rfl⟩
  have hR : rightI ⟨o, d, s, n⟩ = (wd3 && bs && wn255) := by
    rw [Bool.eq_iff_iff, lim_6 _ _ _ _ h]
    subst hbd hbs hbn hwd3 hwn255
    simp [inB]
    try omega
  have HR := Lib.hid hR
  have hcl := fun W => class15 o W h0
  rw [hc] at hcl
  have HCL := Lib.hid hcl
  have kwd3 := fun W => within15 d 0 3 W
  rw [hwd3] at kwd3
  have Kwd3 := Lib.hid kwd3
  clear kwd3
  have kwn255 := fun W => within15 n 0 255 W
  rw [hwn255] at kwn255
  have Kwn255 := Lib.hid kwn255
  clear kwn255
  clear hR hcl h hc h0 hwd3 hwn255
  cases wd3
  · skip
    go_enter Try.func57, Try.ntmps57
    go_wp2_with fail
    go_quiet (fail)
    go_wp2_with (first | (go_at_call 78; refine (HCL.out _).mono ?_; rintro e w1 ⟨rfl, rfl⟩) | (go_at_call 79; ((with_reducible refine (Kwd3.out _).mono ?_)); rintro e w1 ⟨rfl, rfl⟩) | (go_at_call 79; ((with_reducible refine (Kwn255.out _).mono ?_)); rintro e w1 ⟨rfl, rfl⟩))
    go_ret
    exact codeQ_of HR.out (by simp) (below_drewN ((Below.refl _ _).alloc (Nat.le_refl _) _) _)
  · skip
    cases bs
    · skip
      go_enter Try.func57, Try.ntmps57
      go_wp2_with fail
      go_quiet (fail)
      go_wp2_with (first | (go_at_call 78; refine (HCL.out _).mono ?_; rintro e w1 ⟨rfl, rfl⟩) | (go_at_call 79; ((with_reducible refine (Kwd3.out _).mono ?_)); rintro e w1 ⟨rfl, rfl⟩) | (go_at_call 79; ((with_reducible refine (Kwn255.out _).mono ?_)); rintro e w1 ⟨rfl, rfl⟩))
      go_ret
      exact codeQ_of HR.out (by simp) (below_drewN ((Below.refl _ _).alloc (Nat.le_refl _) _) _)
    · skip
      cases wn255
      · skip
        go_enter Try.func57, Try.ntmps57
        go_wp2_with fail
        go_quiet (fail)
        go_wp2_with (first | (go_at_call 78; refine (HCL.out _).mono ?_; rintro e w1 ⟨rfl, rfl⟩) | (go_at_call 79; ((with_reducible refine (Kwd3.out _).mono ?_)); rintro e w1 ⟨rfl, rfl⟩) | (go_at_call 79; ((with_reducible refine (Kwn255.out _).mono ?_)); rintro e w1 ⟨rfl, rfl⟩))
        go_ret
        exact codeQ_of HR.out (by simp) (below_drewN ((Below.refl _ _).alloc (Nat.le_refl _) _) _)
      · skip
        go_enter Try.func57, Try.ntmps57
        go_wp2_with fail
        go_quiet (fail)
        go_wp2_with (first | (go_at_call 78; refine (HCL.out _).mono ?_; rintro e w1 ⟨rfl, rfl⟩) | (go_at_call 79; ((with_reducible refine (Kwd3.out _).mono ?_)); rintro e w1 ⟨rfl, rfl⟩) | (go_at_call 79; ((with_reducible refine (Kwn255.out _).mono ?_)); rintro e w1 ⟨rfl, rfl⟩))
        go_ret
        exact codeQ_of HR.out (by simp) (below_drewN ((Below.refl _ _).alloc (Nat.le_refl _) _) _)
set_option maxRecDepth 100000 in
set_option maxHeartbeats 4000000 in
theorem rightR_7 (o d s n : Int) (w : World) (h0 : 0 ≤ o) (h : shO o = ⟨true, -1, false, false, true, false, false⟩) (hc : cls o = 7) : Calls Try.prog 57 #[.agg #[.int .u8 o, .int .i64 d, .int .i64 s, .int .i64 n]] w (CodeQ ⟨o, d, s, n⟩ w) := by
  obtain ⟨bd, hbd⟩ : ∃ b : Bool, (d == 0) = b := ⟨_, rfl⟩
  obtain ⟨bs, hbs⟩ : ∃ b : Bool, (s == 0) = b := ⟨_, rfl⟩
  obtain ⟨bn, hbn⟩ : ∃ b : Bool, (n == 0) = b := ⟨_, rfl⟩
  obtain ⟨wn255, hwn255⟩ : ∃ b : Bool, inB n 0 255 true = b := ⟨_, rfl⟩
  have hR : rightI ⟨o, d, s, n⟩ = (bd && bs && wn255) := by
    rw [Bool.eq_iff_iff, lim_7 _ _ _ _ h]
    subst hbd hbs hbn hwn255
    simp [inB]
    try omega
  have HR := Lib.hid hR
  have hcl := fun W => class15 o W h0
  rw [hc] at hcl
  have HCL := Lib.hid hcl
  have kwn255 := fun W => within15 n 0 255 W
  rw [hwn255] at kwn255
  have Kwn255 := Lib.hid kwn255
  clear kwn255
  clear hR hcl h hc h0 hwn255
  cases bd
  · skip
    go_enter Try.func57, Try.ntmps57
    go_wp2_with fail
    go_quiet (fail)
    go_wp2_with (first | (go_at_call 78; refine (HCL.out _).mono ?_; rintro e w1 ⟨rfl, rfl⟩) | (go_at_call 79; ((with_reducible refine (Kwn255.out _).mono ?_)); rintro e w1 ⟨rfl, rfl⟩))
    go_ret
    exact codeQ_of HR.out (by simp) (below_drewN ((Below.refl _ _).alloc (Nat.le_refl _) _) _)
  · skip
    cases bs
    · skip
      go_enter Try.func57, Try.ntmps57
      go_wp2_with fail
      go_quiet (fail)
      go_wp2_with (first | (go_at_call 78; refine (HCL.out _).mono ?_; rintro e w1 ⟨rfl, rfl⟩) | (go_at_call 79; ((with_reducible refine (Kwn255.out _).mono ?_)); rintro e w1 ⟨rfl, rfl⟩))
      go_ret
      exact codeQ_of HR.out (by simp) (below_drewN ((Below.refl _ _).alloc (Nat.le_refl _) _) _)
    · skip
      cases wn255
      · skip
        go_enter Try.func57, Try.ntmps57
        go_wp2_with fail
        go_quiet (fail)
        go_wp2_with (first | (go_at_call 78; refine (HCL.out _).mono ?_; rintro e w1 ⟨rfl, rfl⟩) | (go_at_call 79; ((with_reducible refine (Kwn255.out _).mono ?_)); rintro e w1 ⟨rfl, rfl⟩))
        go_ret
        exact codeQ_of HR.out (by simp) (below_drewN ((Below.refl _ _).alloc (Nat.le_refl _) _) _)
      · skip
        go_enter Try.func57, Try.ntmps57
        go_wp2_with fail
        go_quiet (fail)
        go_wp2_with (first | (go_at_call 78; refine (HCL.out _).mono ?_; rintro e w1 ⟨rfl, rfl⟩) | (go_at_call 79; ((with_reducible refine (Kwn255.out _).mono ?_)); rintro e w1 ⟨rfl, rfl⟩))
        go_ret
        exact codeQ_of HR.out (by simp) (below_drewN ((Below.refl _ _).alloc (Nat.le_refl _) _) _)
set_option maxRecDepth 100000 in
set_option maxHeartbeats 4000000 in
theorem rightR_8 (o d s n : Int) (w : World) (h0 : 0 ≤ o) (h : shO o = ⟨true, -1, false, false, false, true, false⟩) (hc : cls o = 8) : Calls Try.prog 57 #[.agg #[.int .u8 o, .int .i64 d, .int .i64 s, .int .i64 n]] w (CodeQ ⟨o, d, s, n⟩ w) := by
  obtain ⟨bd, hbd⟩ : ∃ b : Bool, (d == 0) = b := ⟨_, rfl⟩
  obtain ⟨bs, hbs⟩ : ∃ b : Bool, (s == 0) = b := ⟨_, rfl⟩
  obtain ⟨bn, hbn⟩ : ∃ b : Bool, (n == 0) = b := ⟨_, rfl⟩
  obtain ⟨wn65535, hwn65535⟩ : ∃ b : Bool, inB n 0 65535 true = b := ⟨_, rfl⟩
  have hR : rightI ⟨o, d, s, n⟩ = (bd && bs && wn65535) := by
    rw [Bool.eq_iff_iff, lim_8 _ _ _ _ h]
    subst hbd hbs hbn hwn65535
    simp [inB]
    try omega
  have HR := Lib.hid hR
  have hcl := fun W => class15 o W h0
  rw [hc] at hcl
  have HCL := Lib.hid hcl
  have kwn65535 := fun W => within15 n 0 65535 W
  rw [hwn65535] at kwn65535
  have Kwn65535 := Lib.hid kwn65535
  clear kwn65535
  clear hR hcl h hc h0 hwn65535
  cases bd
  · skip
    go_enter Try.func57, Try.ntmps57
    go_wp2_with fail
    go_quiet (fail)
    go_wp2_with (first | (go_at_call 78; refine (HCL.out _).mono ?_; rintro e w1 ⟨rfl, rfl⟩) | (go_at_call 79; ((with_reducible refine (Kwn65535.out _).mono ?_)); rintro e w1 ⟨rfl, rfl⟩))
    go_ret
    exact codeQ_of HR.out (by simp) (below_drewN ((Below.refl _ _).alloc (Nat.le_refl _) _) _)
  · skip
    cases bs
    · skip
      go_enter Try.func57, Try.ntmps57
      go_wp2_with fail
      go_quiet (fail)
      go_wp2_with (first | (go_at_call 78; refine (HCL.out _).mono ?_; rintro e w1 ⟨rfl, rfl⟩) | (go_at_call 79; ((with_reducible refine (Kwn65535.out _).mono ?_)); rintro e w1 ⟨rfl, rfl⟩))
      go_ret
      exact codeQ_of HR.out (by simp) (below_drewN ((Below.refl _ _).alloc (Nat.le_refl _) _) _)
    · skip
      cases wn65535
      · skip
        go_enter Try.func57, Try.ntmps57
        go_wp2_with fail
        go_quiet (fail)
        go_wp2_with (first | (go_at_call 78; refine (HCL.out _).mono ?_; rintro e w1 ⟨rfl, rfl⟩) | (go_at_call 79; ((with_reducible refine (Kwn65535.out _).mono ?_)); rintro e w1 ⟨rfl, rfl⟩))
        go_ret
        exact codeQ_of HR.out (by simp) (below_drewN ((Below.refl _ _).alloc (Nat.le_refl _) _) _)
      · skip
        go_enter Try.func57, Try.ntmps57
        go_wp2_with fail
        go_quiet (fail)
        go_wp2_with (first | (go_at_call 78; refine (HCL.out _).mono ?_; rintro e w1 ⟨rfl, rfl⟩) | (go_at_call 79; ((with_reducible refine (Kwn65535.out _).mono ?_)); rintro e w1 ⟨rfl, rfl⟩))
        go_ret
        exact codeQ_of HR.out (by simp) (below_drewN ((Below.refl _ _).alloc (Nat.le_refl _) _) _)
set_option maxRecDepth 100000 in
set_option maxHeartbeats 4000000 in
theorem rightR_9 (o d s n : Int) (w : World) (h0 : 0 ≤ o) (h : shO o = ⟨true, -1, false, false, false, false, true⟩) (hc : cls o = 9) : Calls Try.prog 57 #[.agg #[.int .u8 o, .int .i64 d, .int .i64 s, .int .i64 n]] w (CodeQ ⟨o, d, s, n⟩ w) := by
  obtain ⟨bd, hbd⟩ : ∃ b : Bool, (d == 0) = b := ⟨_, rfl⟩
  obtain ⟨bs, hbs⟩ : ∃ b : Bool, (s == 0) = b := ⟨_, rfl⟩
  obtain ⟨bn, hbn⟩ : ∃ b : Bool, (n == 0) = b := ⟨_, rfl⟩
  obtain ⟨wn65535, hwn65535⟩ : ∃ b : Bool, inB n 0 65535 true = b := ⟨_, rfl⟩
  have hR : rightI ⟨o, d, s, n⟩ = (bd && bs && wn65535) := by
    rw [Bool.eq_iff_iff, lim_9 _ _ _ _ h]
    subst hbd hbs hbn hwn65535
    simp [inB]
    try omega
  have HR := Lib.hid hR
  have hcl := fun W => class15 o W h0
  rw [hc] at hcl
  have HCL := Lib.hid hcl
  have kwn65535 := fun W => within15 n 0 65535 W
  rw [hwn65535] at kwn65535
  have Kwn65535 := Lib.hid kwn65535
  clear kwn65535
  clear hR hcl h hc h0 hwn65535
  cases bd
  · skip
    go_enter Try.func57, Try.ntmps57
    go_wp2_with fail
    go_quiet (fail)
    go_wp2_with (first | (go_at_call 78; refine (HCL.out _).mono ?_; rintro e w1 ⟨rfl, rfl⟩) | (go_at_call 79; ((with_reducible refine (Kwn65535.out _).mono ?_)); rintro e w1 ⟨rfl, rfl⟩))
    go_ret
    exact codeQ_of HR.out (by simp) (below_drewN ((Below.refl _ _).alloc (Nat.le_refl _) _) _)
  · skip
    cases bs
    · skip
      go_enter Try.func57, Try.ntmps57
      go_wp2_with fail
      go_quiet (fail)
      go_wp2_with (first | (go_at_call 78; refine (HCL.out _).mono ?_; rintro e w1 ⟨rfl, rfl⟩) | (go_at_call 79; ((with_reducible refine (Kwn65535.out _).mono ?_)); rintro e w1 ⟨rfl, rfl⟩))
      go_ret
      exact codeQ_of HR.out (by simp) (below_drewN ((Below.refl _ _).alloc (Nat.le_refl _) _) _)
    · skip
      cases wn65535
      · skip
        go_enter Try.func57, Try.ntmps57
        go_wp2_with fail
        go_quiet (fail)
        go_wp2_with (first | (go_at_call 78; refine (HCL.out _).mono ?_; rintro e w1 ⟨rfl, rfl⟩) | (go_at_call 79; ((with_reducible refine (Kwn65535.out _).mono ?_)); rintro e w1 ⟨rfl, rfl⟩))
        go_ret
        exact codeQ_of HR.out (by simp) (below_drewN ((Below.refl _ _).alloc (Nat.le_refl _) _) _)
      · skip
        go_enter Try.func57, Try.ntmps57
        go_wp2_with fail
        go_quiet (fail)
        go_wp2_with (first | (go_at_call 78; refine (HCL.out _).mono ?_; rintro e w1 ⟨rfl, rfl⟩) | (go_at_call 79; ((with_reducible refine (Kwn65535.out _).mono ?_)); rintro e w1 ⟨rfl, rfl⟩))
        go_ret
        exact codeQ_of HR.out (by simp) (below_drewN ((Below.refl _ _).alloc (Nat.le_refl _) _) _)
theorem right15 (t : In) (w : World) (h0 : 0 ≤ t.o) : Calls Try.prog 57 #[t.agg] w (CodeQ t w) := by
  obtain ⟨o, d, s, n⟩ := t
  rcases sh_cases o with ⟨hc, h⟩ | ⟨hc, h⟩ | ⟨hc, h⟩ | ⟨hc, h⟩ | ⟨hc, h⟩ | ⟨hc, h⟩ | ⟨hc, h⟩ | ⟨hc, h⟩ | ⟨hc, h⟩ | ⟨hc, h⟩
  · exact rightR_0 o d s n w h0 h hc
  · exact rightR_1 o d s n w h0 h hc
  · exact rightR_2 o d s n w h0 h hc
  · exact rightR_3 o d s n w h0 h hc
  · exact rightR_4 o d s n w h0 h hc
  · exact rightR_5 o d s n w h0 h hc
  · exact rightR_6 o d s n w h0 h hc
  · exact rightR_7 o d s n w h0 h hc
  · exact rightR_8 o d s n w h0 h hc
  · exact rightR_9 o d s n w h0 h hc
end Go.Proofs.Ytebmgladdgmmeaa
