/- The instruction that bytes say, class by class: plain. -/
import Derived.Test.YtaiekpdoljleeaaCoGe
namespace Go.Proofs.Ytaiekpdoljleeaa
open Go.RowKit Go.WideShapes
set_option linter.unusedVariables false
set_option linter.unusedSimpArgs false
theorem getN_0low (bs : List Int) (n a : Nat) (b o low : Int) (hn : n = bs.length) (ho : Oct bs) (hlt : a < n) (hb : bs.getD a 0 = b) (hbo : b / 8 = o) (hbl : b % 8 = low) (h : shO o = ⟨false, 0, false, false, false, false, false⟩)  : getN bs a = ((zI : In), (0 : Int), (110 : Int)) := by
  have l0 : 0 ≤ low := by omega
  have g1 := ho.getD (a + 1)
  have g2 := ho.getD (a + 2)
  unfold getN
  rw [hb, hbo, hbl, h]
  rw [if_pos (by simp; try omega)]
theorem getN_1low (bs : List Int) (n a : Nat) (b o low : Int) (hn : n = bs.length) (ho : Oct bs) (hlt : a < n) (hb : bs.getD a 0 = b) (hbo : b / 8 = o) (hbl : b % 8 = low) (h : shO o = ⟨true, -1, false, false, false, false, false⟩) (k1 : 0 < low) : getN bs a = ((zI : In), (0 : Int), (110 : Int)) := by
  have l0 : 0 ≤ low := by omega
  have g1 := ho.getD (a + 1)
  have g2 := ho.getD (a + 2)
  unfold getN
  rw [hb, hbo, hbl, h]
  rw [if_pos (by simp; try omega)]
theorem getN_1ok (bs : List Int) (n a : Nat) (b o low : Int) (hn : n = bs.length) (ho : Oct bs) (hlt : a < n) (hb : bs.getD a 0 = b) (hbo : b / 8 = o) (hbl : b % 8 = low) (h : shO o = ⟨true, -1, false, false, false, false, false⟩) (k1 : low ≤ 0) : getN bs a = ((⟨o, 0, 0, 0⟩ : In), (a + 1 : Int), (0 : Int)) := by
  have l0 : 0 ≤ low := by omega
  have g1 := ho.getD (a + 1)
  have g2 := ho.getD (a + 2)
  unfold getN
  rw [hb, hbo, hbl, h]
  have hm : moreI (headI o low) = 0 := by simp [headI, moreI, h]
  rw [if_neg (by simp; try omega), hm]
  rw [if_neg (by omega)]
  have hbd : bodyI bs a o low = ⟨o, 0, 0, 0⟩ := by
    have hz : low = 0 := by omega
    subst hz
    simp [bodyI, headI, moreI, h]
  have hrt : rightI (bodyI bs a o low) = true := by
    rw [hbd, lim_1 _ _ _ _ h]
    omega
  rw [hrt, if_pos rfl, hbd]
  simp
  try omega
theorem getN_2low (bs : List Int) (n a : Nat) (b o low : Int) (hn : n = bs.length) (ho : Oct bs) (hlt : a < n) (hb : bs.getD a 0 = b) (hbo : b / 8 = o) (hbl : b % 8 = low) (h : shO o = ⟨true, 6, true, false, false, false, false⟩) (k1 : 6 < low) : getN bs a = ((zI : In), (0 : Int), (110 : Int)) := by
  have l0 : 0 ≤ low := by omega
  have g1 := ho.getD (a + 1)
  have g2 := ho.getD (a + 2)
  unfold getN
  rw [hb, hbo, hbl, h]
  rw [if_pos (by simp; try omega)]
theorem getN_2short (bs : List Int) (n a : Nat) (b o low : Int) (hn : n = bs.length) (ho : Oct bs) (hlt : a < n) (hb : bs.getD a 0 = b) (hbo : b / 8 = o) (hbl : b % 8 = low) (h : shO o = ⟨true, 6, true, false, false, false, false⟩) (k1 : low ≤ 6) (k2 : n < a + 2) : getN bs a = ((zI : In), (0 : Int), (12 : Int)) := by
  have l0 : 0 ≤ low := by omega
  have g1 := ho.getD (a + 1)
  have g2 := ho.getD (a + 2)
  unfold getN
  rw [hb, hbo, hbl, h]
  have hm : moreI (headI o low) = 1 := by simp [headI, moreI, h]
  rw [if_neg (by simp; try omega), hm]
  rw [if_pos (by omega)]
theorem getN_2ok (bs : List Int) (n a : Nat) (b o low : Int) (hn : n = bs.length) (ho : Oct bs) (hlt : a < n) (hb : bs.getD a 0 = b) (hbo : b / 8 = o) (hbl : b % 8 = low) (h : shO o = ⟨true, 6, true, false, false, false, false⟩) (k1 : low ≤ 6) (k2 : a + 2 ≤ n) (k3 : bs.getD (a + 1) 0 ≤ 6) : getN bs a = ((⟨o, low, bs.getD (a + 1) 0, 0⟩ : In), (a + 2 : Int), (0 : Int)) := by
  have l0 : 0 ≤ low := by omega
  have g1 := ho.getD (a + 1)
  have g2 := ho.getD (a + 2)
  unfold getN
  rw [hb, hbo, hbl, h]
  have hm : moreI (headI o low) = 1 := by simp [headI, moreI, h]
  rw [if_neg (by simp; try omega), hm]
  rw [if_neg (by omega)]
  have hbd : bodyI bs a o low = ⟨o, low, bs.getD (a + 1) 0, 0⟩ := by
    simp [bodyI, headI, moreI, h]
  have hrt : rightI (bodyI bs a o low) = true := by
    rw [hbd, lim_2 _ _ _ _ h]
    omega
  rw [hrt, if_pos rfl, hbd]
  simp
  try omega
theorem getN_2bad (bs : List Int) (n a : Nat) (b o low : Int) (hn : n = bs.length) (ho : Oct bs) (hlt : a < n) (hb : bs.getD a 0 = b) (hbo : b / 8 = o) (hbl : b % 8 = low) (h : shO o = ⟨true, 6, true, false, false, false, false⟩) (k1 : low ≤ 6) (k2 : a + 2 ≤ n) (k3 : 6 < bs.getD (a + 1) 0) : getN bs a = ((zI : In), (0 : Int), (110 : Int)) := by
  have l0 : 0 ≤ low := by omega
  have g1 := ho.getD (a + 1)
  have g2 := ho.getD (a + 2)
  unfold getN
  rw [hb, hbo, hbl, h]
  have hm : moreI (headI o low) = 1 := by simp [headI, moreI, h]
  rw [if_neg (by simp; try omega), hm]
  rw [if_neg (by omega)]
  have hbd : bodyI bs a o low = ⟨o, low, bs.getD (a + 1) 0, 0⟩ := by
    simp [bodyI, headI, moreI, h]
  have hrt : rightI (bodyI bs a o low) = false := by
    rw [hbd, Bool.eq_false_iff, Ne, lim_2 _ _ _ _ h]
    omega
  rw [hrt]
  rfl
theorem getN_3low (bs : List Int) (n a : Nat) (b o low : Int) (hn : n = bs.length) (ho : Oct bs) (hlt : a < n) (hb : bs.getD a 0 = b) (hbo : b / 8 = o) (hbl : b % 8 = low) (h : shO o = ⟨true, 6, false, false, true, false, false⟩) (k1 : 6 < low) : getN bs a = ((zI : In), (0 : Int), (110 : Int)) := by
  have l0 : 0 ≤ low := by omega
  have g1 := ho.getD (a + 1)
  have g2 := ho.getD (a + 2)
  unfold getN
  rw [hb, hbo, hbl, h]
  rw [if_pos (by simp; try omega)]
theorem getN_3short (bs : List Int) (n a : Nat) (b o low : Int) (hn : n = bs.length) (ho : Oct bs) (hlt : a < n) (hb : bs.getD a 0 = b) (hbo : b / 8 = o) (hbl : b % 8 = low) (h : shO o = ⟨true, 6, false, false, true, false, false⟩) (k1 : low ≤ 6) (k2 : n < a + 2) : getN bs a = ((zI : In), (0 : Int), (12 : Int)) := by
  have l0 : 0 ≤ low := by omega
  have g1 := ho.getD (a + 1)
  have g2 := ho.getD (a + 2)
  unfold getN
  rw [hb, hbo, hbl, h]
  have hm : moreI (headI o low) = 1 := by simp [headI, moreI, h]
  rw [if_neg (by simp; try omega), hm]
  rw [if_pos (by omega)]
theorem getN_3ok (bs : List Int) (n a : Nat) (b o low : Int) (hn : n = bs.length) (ho : Oct bs) (hlt : a < n) (hb : bs.getD a 0 = b) (hbo : b / 8 = o) (hbl : b % 8 = low) (h : shO o = ⟨true, 6, false, false, true, false, false⟩) (k1 : low ≤ 6) (k2 : a + 2 ≤ n) : getN bs a = ((⟨o, low, 0, bs.getD (a + 1) 0⟩ : In), (a + 2 : Int), (0 : Int)) := by
  have l0 : 0 ≤ low := by omega
  have g1 := ho.getD (a + 1)
  have g2 := ho.getD (a + 2)
  unfold getN
  rw [hb, hbo, hbl, h]
  have hm : moreI (headI o low) = 1 := by simp [headI, moreI, h]
  rw [if_neg (by simp; try omega), hm]
  rw [if_neg (by omega)]
  have hbd : bodyI bs a o low = ⟨o, low, 0, bs.getD (a + 1) 0⟩ := by
    simp [bodyI, headI, moreI, h]
  have hrt : rightI (bodyI bs a o low) = true := by
    rw [hbd, lim_3 _ _ _ _ h]
    omega
  rw [hrt, if_pos rfl, hbd]
  simp
  try omega
theorem getN_4low (bs : List Int) (n a : Nat) (b o low : Int) (hn : n = bs.length) (ho : Oct bs) (hlt : a < n) (hb : bs.getD a 0 = b) (hbo : b / 8 = o) (hbl : b % 8 = low) (h : shO o = ⟨true, 6, false, false, false, false, false⟩) (k1 : 6 < low) : getN bs a = ((zI : In), (0 : Int), (110 : Int)) := by
  have l0 : 0 ≤ low := by omega
  have g1 := ho.getD (a + 1)
  have g2 := ho.getD (a + 2)
  unfold getN
  rw [hb, hbo, hbl, h]
  rw [if_pos (by simp; try omega)]
theorem getN_4ok (bs : List Int) (n a : Nat) (b o low : Int) (hn : n = bs.length) (ho : Oct bs) (hlt : a < n) (hb : bs.getD a 0 = b) (hbo : b / 8 = o) (hbl : b % 8 = low) (h : shO o = ⟨true, 6, false, false, false, false, false⟩) (k1 : low ≤ 6) : getN bs a = ((⟨o, low, 0, 0⟩ : In), (a + 1 : Int), (0 : Int)) := by
  have l0 : 0 ≤ low := by omega
  have g1 := ho.getD (a + 1)
  have g2 := ho.getD (a + 2)
  unfold getN
  rw [hb, hbo, hbl, h]
  have hm : moreI (headI o low) = 0 := by simp [headI, moreI, h]
  rw [if_neg (by simp; try omega), hm]
  rw [if_neg (by omega)]
  have hbd : bodyI bs a o low = ⟨o, low, 0, 0⟩ := by
    simp [bodyI, headI, moreI, h]
  have hrt : rightI (bodyI bs a o low) = true := by
    rw [hbd, lim_4 _ _ _ _ h]
    omega
  rw [hrt, if_pos rfl, hbd]
  simp
  try omega
theorem getN_5ok (bs : List Int) (n a : Nat) (b o low : Int) (hn : n = bs.length) (ho : Oct bs) (hlt : a < n) (hb : bs.getD a 0 = b) (hbo : b / 8 = o) (hbl : b % 8 = low) (h : shO o = ⟨true, -1, false, true, false, false, false⟩) (k1 : low ≠ 7) : getN bs a = ((⟨o, 0, low, 0⟩ : In), (a + 1 : Int), (0 : Int)) := by
  have l0 : 0 ≤ low := by omega
  have g1 := ho.getD (a + 1)
  have g2 := ho.getD (a + 2)
  unfold getN
  rw [hb, hbo, hbl, h]
  have hm : moreI (headI o low) = 0 := by simp [headI, moreI, h, k1]
  rw [if_neg (by simp; try omega), hm]
  rw [if_neg (by omega)]
  have hbd : bodyI bs a o low = ⟨o, 0, low, 0⟩ := by
    simp [bodyI, headI, moreI, h, k1]
  have hrt : rightI (bodyI bs a o low) = true := by
    rw [hbd, lim_5 _ _ _ _ h]
    omega
  rw [hrt, if_pos rfl, hbd]
  simp
  try omega
theorem getN_5short (bs : List Int) (n a : Nat) (b o low : Int) (hn : n = bs.length) (ho : Oct bs) (hlt : a < n) (hb : bs.getD a 0 = b) (hbo : b / 8 = o) (hbl : b % 8 = low) (h : shO o = ⟨true, -1, false, true, false, false, false⟩) (k1 : low = 7) (k2 : n < a + 2) : getN bs a = ((zI : In), (0 : Int), (12 : Int)) := by
  have l0 : 0 ≤ low := by omega
  have g1 := ho.getD (a + 1)
  have g2 := ho.getD (a + 2)
  unfold getN
  rw [hb, hbo, hbl, h]
  have hm : moreI (headI o low) = 1 := by simp [headI, moreI, h, k1]
  rw [if_neg (by simp; try omega), hm]
  rw [if_pos (by omega)]
theorem getN_5seven (bs : List Int) (n a : Nat) (b o low : Int) (hn : n = bs.length) (ho : Oct bs) (hlt : a < n) (hb : bs.getD a 0 = b) (hbo : b / 8 = o) (hbl : b % 8 = low) (h : shO o = ⟨true, -1, false, true, false, false, false⟩) (k1 : low = 7) (k2 : a + 2 ≤ n) : getN bs a = ((⟨o, 0, 7, bs.getD (a + 1) 0⟩ : In), (a + 2 : Int), (0 : Int)) := by
  have l0 : 0 ≤ low := by omega
  have g1 := ho.getD (a + 1)
  have g2 := ho.getD (a + 2)
  unfold getN
  rw [hb, hbo, hbl, h]
  have hm : moreI (headI o low) = 1 := by simp [headI, moreI, h, k1]
  rw [if_neg (by simp; try omega), hm]
  rw [if_neg (by omega)]
  have hbd : bodyI bs a o low = ⟨o, 0, 7, bs.getD (a + 1) 0⟩ := by
    subst k1
    simp [bodyI, headI, moreI, h]
  have hrt : rightI (bodyI bs a o low) = true := by
    rw [hbd, lim_5 _ _ _ _ h]
    omega
  rw [hrt, if_pos rfl, hbd]
  simp
  try omega
theorem getN_6low (bs : List Int) (n a : Nat) (b o low : Int) (hn : n = bs.length) (ho : Oct bs) (hlt : a < n) (hb : bs.getD a 0 = b) (hbo : b / 8 = o) (hbl : b % 8 = low) (h : shO o = ⟨true, 3, false, false, true, false, false⟩) (k1 : 3 < low) : getN bs a = ((zI : In), (0 : Int), (110 : Int)) := by
  have l0 : 0 ≤ low := by omega
  have g1 := ho.getD (a + 1)
  have g2 := ho.getD (a + 2)
  unfold getN
  rw [hb, hbo, hbl, h]
  rw [if_pos (by simp; try omega)]
theorem getN_6short (bs : List Int) (n a : Nat) (b o low : Int) (hn : n = bs.length) (ho : Oct bs) (hlt : a < n) (hb : bs.getD a 0 = b) (hbo : b / 8 = o) (hbl : b % 8 = low) (h : shO o = ⟨true, 3, false, false, true, false, false⟩) (k1 : low ≤ 3) (k2 : n < a + 2) : getN bs a = ((zI : In), (0 : Int), (12 : Int)) := by
  have l0 : 0 ≤ low := by omega
  have g1 := ho.getD (a + 1)
  have g2 := ho.getD (a + 2)
  unfold getN
  rw [hb, hbo, hbl, h]
  have hm : moreI (headI o low) = 1 := by simp [headI, moreI, h]
  rw [if_neg (by simp; try omega), hm]
  rw [if_pos (by omega)]
theorem getN_6ok (bs : List Int) (n a : Nat) (b o low : Int) (hn : n = bs.length) (ho : Oct bs) (hlt : a < n) (hb : bs.getD a 0 = b) (hbo : b / 8 = o) (hbl : b % 8 = low) (h : shO o = ⟨true, 3, false, false, true, false, false⟩) (k1 : low ≤ 3) (k2 : a + 2 ≤ n) : getN bs a = ((⟨o, low, 0, bs.getD (a + 1) 0⟩ : In), (a + 2 : Int), (0 : Int)) := by
  have l0 : 0 ≤ low := by omega
  have g1 := ho.getD (a + 1)
  have g2 := ho.getD (a + 2)
  unfold getN
  rw [hb, hbo, hbl, h]
  have hm : moreI (headI o low) = 1 := by simp [headI, moreI, h]
  rw [if_neg (by simp; try omega), hm]
  rw [if_neg (by omega)]
  have hbd : bodyI bs a o low = ⟨o, low, 0, bs.getD (a + 1) 0⟩ := by
    simp [bodyI, headI, moreI, h]
  have hrt : rightI (bodyI bs a o low) = true := by
    rw [hbd, lim_6 _ _ _ _ h]
    omega
  rw [hrt, if_pos rfl, hbd]
  simp
  try omega
theorem getN_7low (bs : List Int) (n a : Nat) (b o low : Int) (hn : n = bs.length) (ho : Oct bs) (hlt : a < n) (hb : bs.getD a 0 = b) (hbo : b / 8 = o) (hbl : b % 8 = low) (h : shO o = ⟨true, -1, false, false, true, false, false⟩) (k1 : 0 < low) : getN bs a = ((zI : In), (0 : Int), (110 : Int)) := by
  have l0 : 0 ≤ low := by omega
  have g1 := ho.getD (a + 1)
  have g2 := ho.getD (a + 2)
  unfold getN
  rw [hb, hbo, hbl, h]
  rw [if_pos (by simp; try omega)]
theorem getN_7short (bs : List Int) (n a : Nat) (b o low : Int) (hn : n = bs.length) (ho : Oct bs) (hlt : a < n) (hb : bs.getD a 0 = b) (hbo : b / 8 = o) (hbl : b % 8 = low) (h : shO o = ⟨true, -1, false, false, true, false, false⟩) (k1 : low ≤ 0) (k2 : n < a + 2) : getN bs a = ((zI : In), (0 : Int), (12 : Int)) := by
  have l0 : 0 ≤ low := by omega
  have g1 := ho.getD (a + 1)
  have g2 := ho.getD (a + 2)
  unfold getN
  rw [hb, hbo, hbl, h]
  have hm : moreI (headI o low) = 1 := by simp [headI, moreI, h]
  rw [if_neg (by simp; try omega), hm]
  rw [if_pos (by omega)]
theorem getN_7ok (bs : List Int) (n a : Nat) (b o low : Int) (hn : n = bs.length) (ho : Oct bs) (hlt : a < n) (hb : bs.getD a 0 = b) (hbo : b / 8 = o) (hbl : b % 8 = low) (h : shO o = ⟨true, -1, false, false, true, false, false⟩) (k1 : low ≤ 0) (k2 : a + 2 ≤ n) : getN bs a = ((⟨o, 0, 0, bs.getD (a + 1) 0⟩ : In), (a + 2 : Int), (0 : Int)) := by
  have l0 : 0 ≤ low := by omega
  have g1 := ho.getD (a + 1)
  have g2 := ho.getD (a + 2)
  unfold getN
  rw [hb, hbo, hbl, h]
  have hm : moreI (headI o low) = 1 := by simp [headI, moreI, h]
  rw [if_neg (by simp; try omega), hm]
  rw [if_neg (by omega)]
  have hbd : bodyI bs a o low = ⟨o, 0, 0, bs.getD (a + 1) 0⟩ := by
    have hz : low = 0 := by omega
    subst hz
    simp [bodyI, headI, moreI, h]
  have hrt : rightI (bodyI bs a o low) = true := by
    rw [hbd, lim_7 _ _ _ _ h]
    omega
  rw [hrt, if_pos rfl, hbd]
  simp
  try omega
theorem getN_8low (bs : List Int) (n a : Nat) (b o low : Int) (hn : n = bs.length) (ho : Oct bs) (hlt : a < n) (hb : bs.getD a 0 = b) (hbo : b / 8 = o) (hbl : b % 8 = low) (h : shO o = ⟨true, -1, false, false, false, true, false⟩) (k1 : 0 < low) : getN bs a = ((zI : In), (0 : Int), (110 : Int)) := by
  have l0 : 0 ≤ low := by omega
  have g1 := ho.getD (a + 1)
  have g2 := ho.getD (a + 2)
  unfold getN
  rw [hb, hbo, hbl, h]
  rw [if_pos (by simp; try omega)]
theorem getN_8short (bs : List Int) (n a : Nat) (b o low : Int) (hn : n = bs.length) (ho : Oct bs) (hlt : a < n) (hb : bs.getD a 0 = b) (hbo : b / 8 = o) (hbl : b % 8 = low) (h : shO o = ⟨true, -1, false, false, false, true, false⟩) (k1 : low ≤ 0) (k2 : n < a + 2) : getN bs a = ((zI : In), (0 : Int), (12 : Int)) := by
  have l0 : 0 ≤ low := by omega
  have g1 := ho.getD (a + 1)
  have g2 := ho.getD (a + 2)
  unfold getN
  rw [hb, hbo, hbl, h]
  have hm : moreI (headI o low) = 1 := by simp [headI, moreI, h]
  rw [if_neg (by simp; try omega), hm]
  rw [if_pos (by omega)]
theorem getN_8ok (bs : List Int) (n a : Nat) (b o low : Int) (hn : n = bs.length) (ho : Oct bs) (hlt : a < n) (hb : bs.getD a 0 = b) (hbo : b / 8 = o) (hbl : b % 8 = low) (h : shO o = ⟨true, -1, false, false, false, true, false⟩) (k1 : low ≤ 0) (k2 : a + 2 ≤ n) (k3 : 0 ≤ (a : Int) + 2 + i8 (bs.getD (a + 1) 0) ∧ (a : Int) + 2 + i8 (bs.getD (a + 1) 0) ≤ 65535) : getN bs a = ((⟨o, 0, 0, a + 2 + i8 (bs.getD (a + 1) 0)⟩ : In), (a + 2 : Int), (0 : Int)) := by
  have l0 : 0 ≤ low := by omega
  have g1 := ho.getD (a + 1)
  have g2 := ho.getD (a + 2)
  unfold getN
  rw [hb, hbo, hbl, h]
  have hm : moreI (headI o low) = 1 := by simp [headI, moreI, h]
  rw [if_neg (by simp; try omega), hm]
  rw [if_neg (by omega)]
  have hbd : bodyI bs a o low = ⟨o, 0, 0, a + 2 + i8 (bs.getD (a + 1) 0)⟩ := by
    have hz : low = 0 := by omega
    subst hz
    simp [bodyI, headI, moreI, h]
    omega
  have hrt : rightI (bodyI bs a o low) = true := by
    rw [hbd, lim_8 _ _ _ _ h]
    omega
  rw [hrt, if_pos rfl, hbd]
  simp
  try omega
theorem getN_8bad (bs : List Int) (n a : Nat) (b o low : Int) (hn : n = bs.length) (ho : Oct bs) (hlt : a < n) (hb : bs.getD a 0 = b) (hbo : b / 8 = o) (hbl : b % 8 = low) (h : shO o = ⟨true, -1, false, false, false, true, false⟩) (k1 : low ≤ 0) (k2 : a + 2 ≤ n) (k3 : (a : Int) + 2 + i8 (bs.getD (a + 1) 0) < 0 ∨ 65535 < (a : Int) + 2 + i8 (bs.getD (a + 1) 0)) : getN bs a = ((zI : In), (0 : Int), (110 : Int)) := by
  have l0 : 0 ≤ low := by omega
  have g1 := ho.getD (a + 1)
  have g2 := ho.getD (a + 2)
  unfold getN
  rw [hb, hbo, hbl, h]
  have hm : moreI (headI o low) = 1 := by simp [headI, moreI, h]
  rw [if_neg (by simp; try omega), hm]
  rw [if_neg (by omega)]
  have hbd : bodyI bs a o low = ⟨o, 0, 0, a + 2 + i8 (bs.getD (a + 1) 0)⟩ := by
    have hz : low = 0 := by omega
    subst hz
    simp [bodyI, headI, moreI, h]
    omega
  have hrt : rightI (bodyI bs a o low) = false := by
    rw [hbd, Bool.eq_false_iff, Ne, lim_8 _ _ _ _ h]
    omega
  rw [hrt]
  rfl
theorem getN_9low (bs : List Int) (n a : Nat) (b o low : Int) (hn : n = bs.length) (ho : Oct bs) (hlt : a < n) (hb : bs.getD a 0 = b) (hbo : b / 8 = o) (hbl : b % 8 = low) (h : shO o = ⟨true, -1, false, false, false, false, true⟩) (k1 : 0 < low) : getN bs a = ((zI : In), (0 : Int), (110 : Int)) := by
  have l0 : 0 ≤ low := by omega
  have g1 := ho.getD (a + 1)
  have g2 := ho.getD (a + 2)
  unfold getN
  rw [hb, hbo, hbl, h]
  rw [if_pos (by simp; try omega)]
theorem getN_9short (bs : List Int) (n a : Nat) (b o low : Int) (hn : n = bs.length) (ho : Oct bs) (hlt : a < n) (hb : bs.getD a 0 = b) (hbo : b / 8 = o) (hbl : b % 8 = low) (h : shO o = ⟨true, -1, false, false, false, false, true⟩) (k1 : low ≤ 0) (k2 : n < a + 3) : getN bs a = ((zI : In), (0 : Int), (12 : Int)) := by
  have l0 : 0 ≤ low := by omega
  have g1 := ho.getD (a + 1)
  have g2 := ho.getD (a + 2)
  unfold getN
  rw [hb, hbo, hbl, h]
  have hm : moreI (headI o low) = 2 := by simp [headI, moreI, h]
  rw [if_neg (by simp; try omega), hm]
  rw [if_pos (by omega)]
theorem getN_9ok (bs : List Int) (n a : Nat) (b o low : Int) (hn : n = bs.length) (ho : Oct bs) (hlt : a < n) (hb : bs.getD a 0 = b) (hbo : b / 8 = o) (hbl : b % 8 = low) (h : shO o = ⟨true, -1, false, false, false, false, true⟩) (k1 : low ≤ 0) (k2 : a + 3 ≤ n) : getN bs a = ((⟨o, 0, 0, bs.getD (a + 1) 0 * 256 + bs.getD (a + 2) 0⟩ : In), (a + 3 : Int), (0 : Int)) := by
  have l0 : 0 ≤ low := by omega
  have g1 := ho.getD (a + 1)
  have g2 := ho.getD (a + 2)
  unfold getN
  rw [hb, hbo, hbl, h]
  have hm : moreI (headI o low) = 2 := by simp [headI, moreI, h]
  rw [if_neg (by simp; try omega), hm]
  rw [if_neg (by omega)]
  have hbd : bodyI bs a o low = ⟨o, 0, 0, bs.getD (a + 1) 0 * 256 + bs.getD (a + 2) 0⟩ := by
    have hz : low = 0 := by omega
    subst hz
    simp [bodyI, headI, moreI, h]
  have hrt : rightI (bodyI bs a o low) = true := by
    rw [hbd, lim_9 _ _ _ _ h]
    omega
  rw [hrt, if_pos rfl, hbd]
  simp
  try omega
end Go.Proofs.Ytaiekpdoljleeaa
