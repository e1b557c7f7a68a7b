/- The codes in what bytes say, as the reference reads them: plain. -/
import Derived.Test.YtaiekpdoljleeaaMoRg
namespace Go.Proofs.Ytaiekpdoljleeaa
open Go.RowKit Go.WideShapes
set_option linter.unusedVariables false
set_option linter.unusedSimpArgs false
theorem nx2_at (bs : List Int) (a : Nat) (h : a + 2 ≤ bs.length) : nx 2 (some (bs.drop a)) = (some (bs.drop (a + 2)), [bs.getD a 0, bs.getD (a + 1) 0]) := by
  rw [nx_ok (by rw [List.length_drop]; omega), List.drop_drop, List.drop_eq_getElem_cons (show a < bs.length by omega), List.drop_eq_getElem_cons (show a + 1 < bs.length by omega), List.getD_eq_getElem?_getD, List.getD_eq_getElem?_getD, List.getElem?_eq_getElem (show a < bs.length by omega), List.getElem?_eq_getElem (show a + 1 < bs.length by omega)]
  rfl
theorem code_at (bs : List Int) (a K : Nat) (h : a + 2 ≤ bs.length) (hK : bs.getD a 0 * 256 + bs.getD (a + 1) 0 = (K : Int)) (h2 : a + 2 + K ≤ bs.length) : codeG (some (bs.drop a)) = (some (bs.drop (a + 2 + K)), (bs.drop (a + 2)).take K) := by
  unfold codeG
  rw [nx2_at bs a h]
  simp only [List.getD_cons_zero, List.getD_cons_succ]
  rw [hK, Int.toNat_natCast, nx_ok (by rw [List.length_drop]; omega), List.drop_drop]
theorem code_long (bs : List Int) (a K : Nat) (h : a + 2 ≤ bs.length) (hK : bs.getD a 0 * 256 + bs.getD (a + 1) 0 = (K : Int)) (h2 : bs.length < a + 2 + K) : (codeG (some (bs.drop a))).1 = none := by
  unfold codeG
  rw [nx2_at bs a h]
  simp only [List.getD_cons_zero, List.getD_cons_succ]
  rw [hK, Int.toNat_natCast, nx_no (by rw [List.length_drop]; omega)]
theorem code_short (bs : List Int) (a : Nat) (h : bs.length < a + 2) : (codeG (some (bs.drop a))).1 = none := by
  unfold codeG
  rw [nx_no (show (bs.drop a).length < 2 by rw [List.length_drop]; omega)]
  rfl
theorem endG_at {a1 : Nat} (bs : List Int) (x0 x1 x2 x3 x4 : Int) (acc : List Pt) (L : Left) (C D : List Int) (a2 : Nat) (ha : a2 ≤ bs.length) (h1 : codeG L = (some (bs.drop a1), C)) (h2 : codeG (some (bs.drop a1)) = (some (bs.drop a2), D)) : endG bs [x0, x1, x2, x3, x4] (L, acc) = if rightM ⟨x0, x1, x2, x3, acc, C, D⟩ = 0 then (⟨x0, x1, x2, x3, acc, C, D⟩, (a2 : Int), 0) else (Md.zero, 0, 131) := by
  have e : (bs.length : Int) - ((bs.drop a2).length : Int) = (a2 : Int) := by rw [List.length_drop]; omega
  unfold endG
  simp only [h1, h2, e, List.getD_cons_zero, List.getD_cons_succ]
end Go.Proofs.Ytaiekpdoljleeaa
