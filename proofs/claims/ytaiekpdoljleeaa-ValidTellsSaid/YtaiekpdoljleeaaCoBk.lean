/- What bytes say, put into bytes again: plain. -/
import Derived.Test.YtaiekpdoljleeaaCoGp
namespace Go.Proofs.Ytaiekpdoljleeaa
open Go.RowKit Go.WideShapes
set_option linter.unusedVariables false
set_option linter.unusedSimpArgs false
theorem take1 (bs : List Int) (k : Nat) (h : k + 1 ≤ bs.length) : (bs.drop k).take 1 = [bs.getD k 0] := by
  have h0 : k < bs.length := by omega
  rw [List.drop_eq_getElem_cons h0, List.getD_eq_getElem?_getD, List.getElem?_eq_getElem h0]
  rfl
theorem take_more (bs : List Int) (k m : Nat) (h : k < bs.length) : (bs.drop k).take (m + 1) = bs.getD k 0 :: (bs.drop (k + 1)).take m := by
  rw [List.drop_eq_getElem_cons h, List.getD_eq_getElem?_getD, List.getElem?_eq_getElem h]
  rfl
theorem take2 (bs : List Int) (k : Nat) (h : k + 2 ≤ bs.length) : (bs.drop k).take 2 = [bs.getD k 0, bs.getD (k + 1) 0] := by
  rw [take_more bs k 1 (by omega), take1 bs (k + 1) (by omega)]
theorem take3 (bs : List Int) (k : Nat) (h : k + 3 ≤ bs.length) : (bs.drop k).take 3 = [bs.getD k 0, bs.getD (k + 1) 0, bs.getD (k + 2) 0] := by
  rw [take_more bs k 2 (by omega), take2 bs (k + 1) (by omega)]
/-- What Get tells without a fault. -/
structure Got (bs : List Int) (k : Nat) (p : In) (e : Nat) : Prop where
  right : rightI p = true
  near : farI p k = false
  o0 : 0 ≤ p.o
  o1 : p.o ≤ 31
  len : ((putI p k).length : Int) = lenI p
  put : putI p k = (bs.drop k).take (e - k)
  lo : k < e
  hi : e ≤ bs.length
theorem lenI_of {t : In} (h : rightI t = true) : lenI t = 1 + moreI t := by unfold lenI; rw [if_pos h]
theorem got_1ok (bs : List Int) (n a : Nat) (b o low : Int) (hn : n = bs.length) (ho : Oct bs) (hlt : a < n) (hb : bs.getD a 0 = b) (hbo : b / 8 = o) (hbl : b % 8 = low) (h : shO o = ⟨true, -1, false, false, false, false, false⟩) (k1 : low ≤ 0) : ∃ p e, getN bs a = (p, ((e : Nat) : Int), 0) ∧ Got bs a p e := by
  have hg := getN_1ok bs n a b o low hn ho hlt hb hbo hbl h k1
  have hbb := ho.getD a
  have g1 := ho.getD (a + 1)
  have g2 := ho.getD (a + 2)
  rw [hb] at hbb
  have l0 : 0 ≤ low := by omega
  obtain rfl : low = 0 := by omega
  have hr : rightI ⟨o, 0, 0, 0⟩ = true := (lim_1 _ _ _ _ h).2 (by omega)
  have hp := put_plain_1 _ _ _ _ a h hr
  refine ⟨⟨o, 0, 0, 0⟩, a + 1, by rw [hg]; rfl, hr, ?_, by simp only; omega, by simp only; omega, ?_, ?_, by omega, by omega⟩
  · simp [farI, h]
  · rw [hp, lenI_of hr]
    simp [moreI, h]
  · rw [hp, show a + 1 - a = 1 by omega, take1 bs a (by omega), hb]
    skip
    congr 1; omega
theorem got_2ok (bs : List Int) (n a : Nat) (b o low : Int) (hn : n = bs.length) (ho : Oct bs) (hlt : a < n) (hb : bs.getD a 0 = b) (hbo : b / 8 = o) (hbl : b % 8 = low) (h : shO o = ⟨true, 6, true, false, false, false, false⟩) (k1 : low ≤ 6) (k2 : a + 2 ≤ n) (k3 : bs.getD (a + 1) 0 ≤ 6) : ∃ p e, getN bs a = (p, ((e : Nat) : Int), 0) ∧ Got bs a p e := by
  have hg := getN_2ok bs n a b o low hn ho hlt hb hbo hbl h k1 k2 k3
  have hbb := ho.getD a
  have g1 := ho.getD (a + 1)
  have g2 := ho.getD (a + 2)
  rw [hb] at hbb
  have l0 : 0 ≤ low := by omega
  have hr : rightI ⟨o, low, bs.getD (a + 1) 0, 0⟩ = true := (lim_2 _ _ _ _ h).2 (by omega)
  have hp := put_plain_2 _ _ _ _ a h hr
  refine ⟨⟨o, low, bs.getD (a + 1) 0, 0⟩, a + 2, by rw [hg]; rfl, hr, ?_, by simp only; omega, by simp only; omega, ?_, ?_, by omega, by omega⟩
  · simp [farI, h]
  · rw [hp, lenI_of hr]
    simp [moreI, h]
  · rw [hp, show a + 2 - a = 2 by omega, take2 bs a (by omega), hb]
    skip
    congr 1; omega
theorem got_3ok (bs : List Int) (n a : Nat) (b o low : Int) (hn : n = bs.length) (ho : Oct bs) (hlt : a < n) (hb : bs.getD a 0 = b) (hbo : b / 8 = o) (hbl : b % 8 = low) (h : shO o = ⟨true, 6, false, false, true, false, false⟩) (k1 : low ≤ 6) (k2 : a + 2 ≤ n) : ∃ p e, getN bs a = (p, ((e : Nat) : Int), 0) ∧ Got bs a p e := by
  have hg := getN_3ok bs n a b o low hn ho hlt hb hbo hbl h k1 k2
  have hbb := ho.getD a
  have g1 := ho.getD (a + 1)
  have g2 := ho.getD (a + 2)
  rw [hb] at hbb
  have l0 : 0 ≤ low := by omega
  have hr : rightI ⟨o, low, 0, bs.getD (a + 1) 0⟩ = true := (lim_3 _ _ _ _ h).2 (by omega)
  have hp := put_plain_3 _ _ _ _ a h hr
  refine ⟨⟨o, low, 0, bs.getD (a + 1) 0⟩, a + 2, by rw [hg]; rfl, hr, ?_, by simp only; omega, by simp only; omega, ?_, ?_, by omega, by omega⟩
  · simp [farI, h]
  · rw [hp, lenI_of hr]
    simp [moreI, h]
  · rw [hp, show a + 2 - a = 2 by omega, take2 bs a (by omega), hb]
    skip
    congr 1; omega
theorem got_4ok (bs : List Int) (n a : Nat) (b o low : Int) (hn : n = bs.length) (ho : Oct bs) (hlt : a < n) (hb : bs.getD a 0 = b) (hbo : b / 8 = o) (hbl : b % 8 = low) (h : shO o = ⟨true, 6, false, false, false, false, false⟩) (k1 : low ≤ 6) : ∃ p e, getN bs a = (p, ((e : Nat) : Int), 0) ∧ Got bs a p e := by
  have hg := getN_4ok bs n a b o low hn ho hlt hb hbo hbl h k1
  have hbb := ho.getD a
  have g1 := ho.getD (a + 1)
  have g2 := ho.getD (a + 2)
  rw [hb] at hbb
  have l0 : 0 ≤ low := by omega
  have hr : rightI ⟨o, low, 0, 0⟩ = true := (lim_4 _ _ _ _ h).2 (by omega)
  have hp := put_plain_4 _ _ _ _ a h hr
  refine ⟨⟨o, low, 0, 0⟩, a + 1, by rw [hg]; rfl, hr, ?_, by simp only; omega, by simp only; omega, ?_, ?_, by omega, by omega⟩
  · simp [farI, h]
  · rw [hp, lenI_of hr]
    simp [moreI, h]
  · rw [hp, show a + 1 - a = 1 by omega, take1 bs a (by omega), hb]
    skip
    congr 1; omega
theorem got_5ok (bs : List Int) (n a : Nat) (b o low : Int) (hn : n = bs.length) (ho : Oct bs) (hlt : a < n) (hb : bs.getD a 0 = b) (hbo : b / 8 = o) (hbl : b % 8 = low) (h : shO o = ⟨true, -1, false, true, false, false, false⟩) (k1 : low ≠ 7) : ∃ p e, getN bs a = (p, ((e : Nat) : Int), 0) ∧ Got bs a p e := by
  have hg := getN_5ok bs n a b o low hn ho hlt hb hbo hbl h k1
  have hbb := ho.getD a
  have g1 := ho.getD (a + 1)
  have g2 := ho.getD (a + 2)
  rw [hb] at hbb
  have l0 : 0 ≤ low := by omega
  have hr : rightI ⟨o, 0, low, 0⟩ = true := (lim_5 _ _ _ _ h).2 (by omega)
  have hp := put_plain_5 _ _ _ _ a h hr
  refine ⟨⟨o, 0, low, 0⟩, a + 1, by rw [hg]; rfl, hr, ?_, by simp only; omega, by simp only; omega, ?_, ?_, by omega, by omega⟩
  · simp [farI, h]
  · rw [hp, lenI_of hr]
    simp [moreI, h, k1]
  · rw [hp, show a + 1 - a = 1 by omega, take1 bs a (by omega), hb]
    rw [if_neg k1]
    congr 1; omega
theorem got_5seven (bs : List Int) (n a : Nat) (b o low : Int) (hn : n = bs.length) (ho : Oct bs) (hlt : a < n) (hb : bs.getD a 0 = b) (hbo : b / 8 = o) (hbl : b % 8 = low) (h : shO o = ⟨true, -1, false, true, false, false, false⟩) (k1 : low = 7) (k2 : a + 2 ≤ n) : ∃ p e, getN bs a = (p, ((e : Nat) : Int), 0) ∧ Got bs a p e := by
  have hg := getN_5seven bs n a b o low hn ho hlt hb hbo hbl h k1 k2
  have hbb := ho.getD a
  have g1 := ho.getD (a + 1)
  have g2 := ho.getD (a + 2)
  rw [hb] at hbb
  have l0 : 0 ≤ low := by omega
  subst k1
  have hr : rightI ⟨o, 0, 7, bs.getD (a + 1) 0⟩ = true := (lim_5 _ _ _ _ h).2 (by omega)
  have hp := put_plain_5 _ _ _ _ a h hr
  refine ⟨⟨o, 0, 7, bs.getD (a + 1) 0⟩, a + 2, by rw [hg]; rfl, hr, ?_, by simp only; omega, by simp only; omega, ?_, ?_, by omega, by omega⟩
  · simp [farI, h]
  · rw [hp, lenI_of hr]
    simp [moreI, h]
  · rw [hp, show a + 2 - a = 2 by omega, take2 bs a (by omega), hb]
    rw [if_pos rfl]
    congr 1; omega
theorem got_6ok (bs : List Int) (n a : Nat) (b o low : Int) (hn : n = bs.length) (ho : Oct bs) (hlt : a < n) (hb : bs.getD a 0 = b) (hbo : b / 8 = o) (hbl : b % 8 = low) (h : shO o = ⟨true, 3, false, false, true, false, false⟩) (k1 : low ≤ 3) (k2 : a + 2 ≤ n) : ∃ p e, getN bs a = (p, ((e : Nat) : Int), 0) ∧ Got bs a p e := by
  have hg := getN_6ok bs n a b o low hn ho hlt hb hbo hbl h k1 k2
  have hbb := ho.getD a
  have g1 := ho.getD (a + 1)
  have g2 := ho.getD (a + 2)
  rw [hb] at hbb
  have l0 : 0 ≤ low := by omega
  have hr : rightI ⟨o, low, 0, bs.getD (a + 1) 0⟩ = true := (lim_6 _ _ _ _ h).2 (by omega)
  have hp := put_plain_6 _ _ _ _ a h hr
  refine ⟨⟨o, low, 0, bs.getD (a + 1) 0⟩, a + 2, by rw [hg]; rfl, hr, ?_, by simp only; omega, by simp only; omega, ?_, ?_, by omega, by omega⟩
  · simp [farI, h]
  · rw [hp, lenI_of hr]
    simp [moreI, h]
  · rw [hp, show a + 2 - a = 2 by omega, take2 bs a (by omega), hb]
    skip
    congr 1; omega
theorem got_7ok (bs : List Int) (n a : Nat) (b o low : Int) (hn : n = bs.length) (ho : Oct bs) (hlt : a < n) (hb : bs.getD a 0 = b) (hbo : b / 8 = o) (hbl : b % 8 = low) (h : shO o = ⟨true, -1, false, false, true, false, false⟩) (k1 : low ≤ 0) (k2 : a + 2 ≤ n) : ∃ p e, getN bs a = (p, ((e : Nat) : Int), 0) ∧ Got bs a p e := by
  have hg := getN_7ok bs n a b o low hn ho hlt hb hbo hbl h k1 k2
  have hbb := ho.getD a
  have g1 := ho.getD (a + 1)
  have g2 := ho.getD (a + 2)
  rw [hb] at hbb
  have l0 : 0 ≤ low := by omega
  obtain rfl : low = 0 := by omega
  have hr : rightI ⟨o, 0, 0, bs.getD (a + 1) 0⟩ = true := (lim_7 _ _ _ _ h).2 (by omega)
  have hp := put_plain_7 _ _ _ _ a h hr
  refine ⟨⟨o, 0, 0, bs.getD (a + 1) 0⟩, a + 2, by rw [hg]; rfl, hr, ?_, by simp only; omega, by simp only; omega, ?_, ?_, by omega, by omega⟩
  · simp [farI, h]
  · rw [hp, lenI_of hr]
    simp [moreI, h]
  · rw [hp, show a + 2 - a = 2 by omega, take2 bs a (by omega), hb]
    skip
    congr 1; omega
theorem got_8ok (bs : List Int) (n a : Nat) (b o low : Int) (hn : n = bs.length) (ho : Oct bs) (hlt : a < n) (hb : bs.getD a 0 = b) (hbo : b / 8 = o) (hbl : b % 8 = low) (h : shO o = ⟨true, -1, false, false, false, true, false⟩) (k1 : low ≤ 0) (k2 : a + 2 ≤ n) (k3 : 0 ≤ (a : Int) + 2 + i8 (bs.getD (a + 1) 0) ∧ (a : Int) + 2 + i8 (bs.getD (a + 1) 0) ≤ 65535) : ∃ p e, getN bs a = (p, ((e : Nat) : Int), 0) ∧ Got bs a p e := by
  have hg := getN_8ok bs n a b o low hn ho hlt hb hbo hbl h k1 k2 k3
  have hbb := ho.getD a
  have g1 := ho.getD (a + 1)
  have g2 := ho.getD (a + 2)
  rw [hb] at hbb
  have l0 : 0 ≤ low := by omega
  obtain rfl : low = 0 := by omega
  have hs0 : -128 ≤ i8 (bs.getD (a + 1) 0) := by unfold i8; split <;> omega
  have hs1 : i8 (bs.getD (a + 1) 0) ≤ 127 := by unfold i8; split <;> omega
  have hs2 : i8 (bs.getD (a + 1) 0) % 256 = bs.getD (a + 1) 0 := by unfold i8; split <;> omega
  have hr : rightI ⟨o, 0, 0, a + 2 + i8 (bs.getD (a + 1) 0)⟩ = true := (lim_8 _ _ _ _ h).2 (by omega)
  have hp := put_plain_8 _ _ _ _ a h hr
  refine ⟨⟨o, 0, 0, a + 2 + i8 (bs.getD (a + 1) 0)⟩, a + 2, by rw [hg]; rfl, hr, ?_, by simp only; omega, by simp only; omega, ?_, ?_, by omega, by omega⟩
  · generalize i8 (bs.getD (a + 1) 0) = sg at *; simp [farI, h]; omega
  · rw [hp, lenI_of hr]
    simp [moreI, h]
  · rw [hp, show a + 2 - a = 2 by omega, take2 bs a (by omega), hb]
    skip
    rw [show ((a : Int) + 2 + i8 (bs.getD (a + 1) 0) - a - 2) % 256 = bs.getD (a + 1) 0 by omega]; congr 1; omega
theorem got_9ok (bs : List Int) (n a : Nat) (b o low : Int) (hn : n = bs.length) (ho : Oct bs) (hlt : a < n) (hb : bs.getD a 0 = b) (hbo : b / 8 = o) (hbl : b % 8 = low) (h : shO o = ⟨true, -1, false, false, false, false, true⟩) (k1 : low ≤ 0) (k2 : a + 3 ≤ n) : ∃ p e, getN bs a = (p, ((e : Nat) : Int), 0) ∧ Got bs a p e := by
  have hg := getN_9ok bs n a b o low hn ho hlt hb hbo hbl h k1 k2
  have hbb := ho.getD a
  have g1 := ho.getD (a + 1)
  have g2 := ho.getD (a + 2)
  rw [hb] at hbb
  have l0 : 0 ≤ low := by omega
  obtain rfl : low = 0 := by omega
  have hr : rightI ⟨o, 0, 0, bs.getD (a + 1) 0 * 256 + bs.getD (a + 2) 0⟩ = true := (lim_9 _ _ _ _ h).2 (by omega)
  have hp := put_plain_9 _ _ _ _ a h hr
  refine ⟨⟨o, 0, 0, bs.getD (a + 1) 0 * 256 + bs.getD (a + 2) 0⟩, a + 3, by rw [hg]; rfl, hr, ?_, by simp only; omega, by simp only; omega, ?_, ?_, by omega, by omega⟩
  · simp [farI, h]
  · rw [hp, lenI_of hr]
    simp [moreI, h]
  · rw [hp, show a + 3 - a = 3 by omega, take3 bs a (by omega), hb]
    skip
    rw [show (bs.getD (a + 1) 0 * 256 + bs.getD (a + 2) 0) / 256 = bs.getD (a + 1) 0 by omega, show (bs.getD (a + 1) 0 * 256 + bs.getD (a + 2) 0) % 256 = bs.getD (a + 2) 0 by omega]; congr 1; omega
theorem get_cases (bs : List Int) (a : Nat) (ho : Oct bs) (hlt : a < bs.length) : (getN bs a = (zI, 0, 110) ∨ getN bs a = (zI, 0, 12)) ∨ ∃ p e, getN bs a = (p, ((e : Nat) : Int), 0) ∧ Got bs a p e := by
  have hbb := ho.getD a
  have l0 : 0 ≤ bs.getD a 0 % 8 := by omega
  rcases sh_cases (bs.getD a 0 / 8) with ⟨_, h⟩ | ⟨_, h⟩ | ⟨_, h⟩ | ⟨_, h⟩ | ⟨_, h⟩ | ⟨_, h⟩ | ⟨_, h⟩ | ⟨_, h⟩ | ⟨_, h⟩ | ⟨_, h⟩
  · exact .inl (.inl (getN_0low bs _ a _ _ _ rfl ho hlt rfl rfl rfl h))
  · rcases Int.lt_or_le 0 (bs.getD a 0 % 8) with k1 | k1
    · exact .inl (.inl (getN_1low bs _ a _ _ _ rfl ho hlt rfl rfl rfl h k1))
    · exact .inr (got_1ok bs _ a _ _ _ rfl ho hlt rfl rfl rfl h k1)
  · rcases Int.lt_or_le 6 (bs.getD a 0 % 8) with k1 | k1
    · exact .inl (.inl (getN_2low bs _ a _ _ _ rfl ho hlt rfl rfl rfl h k1))
    · rcases Nat.lt_or_ge bs.length (a + 2) with k2 | k2
      · exact .inl (.inr (getN_2short bs _ a _ _ _ rfl ho hlt rfl rfl rfl h k1 k2))
      · rcases Int.lt_or_le 6 (bs.getD (a + 1) 0) with k3 | k3
        · exact .inl (.inl (getN_2bad bs _ a _ _ _ rfl ho hlt rfl rfl rfl h k1 k2 k3))
        · exact .inr (got_2ok bs _ a _ _ _ rfl ho hlt rfl rfl rfl h k1 k2 k3)
  · rcases Int.lt_or_le 6 (bs.getD a 0 % 8) with k1 | k1
    · exact .inl (.inl (getN_3low bs _ a _ _ _ rfl ho hlt rfl rfl rfl h k1))
    · rcases Nat.lt_or_ge bs.length (a + 2) with k2 | k2
      · exact .inl (.inr (getN_3short bs _ a _ _ _ rfl ho hlt rfl rfl rfl h k1 k2))
      · exact .inr (got_3ok bs _ a _ _ _ rfl ho hlt rfl rfl rfl h k1 k2)
  · rcases Int.lt_or_le 6 (bs.getD a 0 % 8) with k1 | k1
    · exact .inl (.inl (getN_4low bs _ a _ _ _ rfl ho hlt rfl rfl rfl h k1))
    · exact .inr (got_4ok bs _ a _ _ _ rfl ho hlt rfl rfl rfl h k1)
  · by_cases k1 : bs.getD a 0 % 8 = 7
    · rcases Nat.lt_or_ge bs.length (a + 2) with k2 | k2
      · exact .inl (.inr (getN_5short bs _ a _ _ _ rfl ho hlt rfl rfl rfl h k1 k2))
      · exact .inr (got_5seven bs _ a _ _ _ rfl ho hlt rfl rfl rfl h k1 k2)
    · exact .inr (got_5ok bs _ a _ _ _ rfl ho hlt rfl rfl rfl h k1)
  · rcases Int.lt_or_le 3 (bs.getD a 0 % 8) with k1 | k1
    · exact .inl (.inl (getN_6low bs _ a _ _ _ rfl ho hlt rfl rfl rfl h k1))
    · rcases Nat.lt_or_ge bs.length (a + 2) with k2 | k2
      · exact .inl (.inr (getN_6short bs _ a _ _ _ rfl ho hlt rfl rfl rfl h k1 k2))
      · exact .inr (got_6ok bs _ a _ _ _ rfl ho hlt rfl rfl rfl h k1 k2)
  · rcases Int.lt_or_le 0 (bs.getD a 0 % 8) with k1 | k1
    · exact .inl (.inl (getN_7low bs _ a _ _ _ rfl ho hlt rfl rfl rfl h k1))
    · rcases Nat.lt_or_ge bs.length (a + 2) with k2 | k2
      · exact .inl (.inr (getN_7short bs _ a _ _ _ rfl ho hlt rfl rfl rfl h k1 k2))
      · exact .inr (got_7ok bs _ a _ _ _ rfl ho hlt rfl rfl rfl h k1 k2)
  · rcases Int.lt_or_le 0 (bs.getD a 0 % 8) with k1 | k1
    · exact .inl (.inl (getN_8low bs _ a _ _ _ rfl ho hlt rfl rfl rfl h k1))
    · rcases Nat.lt_or_ge bs.length (a + 2) with k2 | k2
      · exact .inl (.inr (getN_8short bs _ a _ _ _ rfl ho hlt rfl rfl rfl h k1 k2))
      · by_cases k3 : 0 ≤ (a : Int) + 2 + i8 (bs.getD (a + 1) 0) ∧ (a : Int) + 2 + i8 (bs.getD (a + 1) 0) ≤ 65535
        · exact .inr (got_8ok bs _ a _ _ _ rfl ho hlt rfl rfl rfl h k1 k2 k3)
        · exact .inl (.inl (getN_8bad bs _ a _ _ _ rfl ho hlt rfl rfl rfl h k1 k2 (by omega)))
  · rcases Int.lt_or_le 0 (bs.getD a 0 % 8) with k1 | k1
    · exact .inl (.inl (getN_9low bs _ a _ _ _ rfl ho hlt rfl rfl rfl h k1))
    · rcases Nat.lt_or_ge bs.length (a + 3) with k2 | k2
      · exact .inl (.inr (getN_9short bs _ a _ _ _ rfl ho hlt rfl rfl rfl h k1 k2))
      · exact .inr (got_9ok bs _ a _ _ _ rfl ho hlt rfl rfl rfl h k1 k2)
end Go.Proofs.Ytaiekpdoljleeaa
