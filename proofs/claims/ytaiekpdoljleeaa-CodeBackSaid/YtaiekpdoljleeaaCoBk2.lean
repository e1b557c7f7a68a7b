/- What was put into bytes, got back: plain. -/
import Derived.Test.YtaiekpdoljleeaaCoBk
namespace Go.Proofs.Ytaiekpdoljleeaa
open Go.RowKit Go.WideShapes
set_option linter.unusedVariables false
set_option linter.unusedSimpArgs false
theorem getD_at (pre l : List Int) (a i : Nat) (h : pre.length = a) : (pre ++ l).getD (a + i) 0 = l.getD i 0 := by
  subst h
  rw [List.getD_eq_getElem?_getD, List.getD_eq_getElem?_getD, List.getElem?_append_right (by omega)]
  congr 2
  omega
theorem back_1 (o d s n : Int) (a : Nat) (pre : List Int) (hp : pre.length = a) (h0 : 0 ≤ o) (h : shO o = ⟨true, -1, false, false, false, false, false⟩) (hr : rightI ⟨o, d, s, n⟩ = true) (ho : Oct (pre ++ ((o * 8 + d) :: []))) : getN (pre ++ ((o * 8 + d) :: [])) a = (⟨o, d, s, n⟩, (a : Int) + 1, 0) := by
  have hl := (lim_1 o d s n h).1 hr
  have hlen : (pre ++ ((o * 8 + d) :: [])).length = a + 1 := by rw [List.length_append, hp]; rfl
  have e0 := getD_at pre ((o * 8 + d) :: []) a 0 hp
  have e1 := getD_at pre ((o * 8 + d) :: []) a 1 hp
  have e2 := getD_at pre ((o * 8 + d) :: []) a 2 hp
  simp only [List.getD_cons_zero, List.getD_cons_succ, Nat.add_zero] at e0 e1 e2
  generalize hbs : pre ++ ((o * 8 + d) :: []) = bs at *
  have g1 := ho.getD (a + 1)
  have hg := getN_1ok bs bs.length a (o * 8 + d) o 0 rfl ho (by omega) e0 (by omega) (by omega) h (by omega)
  rw [hg]
  obtain ⟨hd, hs, hn⟩ := hl
  subst hd hs hn
  simp
theorem back_2 (o d s n : Int) (a : Nat) (pre : List Int) (hp : pre.length = a) (h0 : 0 ≤ o) (h : shO o = ⟨true, 6, true, false, false, false, false⟩) (hr : rightI ⟨o, d, s, n⟩ = true) (ho : Oct (pre ++ ((o * 8 + d) :: [s]))) : getN (pre ++ ((o * 8 + d) :: [s])) a = (⟨o, d, s, n⟩, (a : Int) + 2, 0) := by
  have hl := (lim_2 o d s n h).1 hr
  have hlen : (pre ++ ((o * 8 + d) :: [s])).length = a + 2 := by rw [List.length_append, hp]; rfl
  have e0 := getD_at pre ((o * 8 + d) :: [s]) a 0 hp
  have e1 := getD_at pre ((o * 8 + d) :: [s]) a 1 hp
  have e2 := getD_at pre ((o * 8 + d) :: [s]) a 2 hp
  simp only [List.getD_cons_zero, List.getD_cons_succ, Nat.add_zero] at e0 e1 e2
  generalize hbs : pre ++ ((o * 8 + d) :: [s]) = bs at *
  have g1 := ho.getD (a + 1)
  have hg := getN_2ok bs bs.length a (o * 8 + d) o d rfl ho (by omega) e0 (by omega) (by omega) h (by omega) (by omega) (by omega)
  rw [hg]
  obtain ⟨_, _, _, _, hn⟩ := hl
  subst hn
  rw [e1]
theorem back_3 (o d s n : Int) (a : Nat) (pre : List Int) (hp : pre.length = a) (h0 : 0 ≤ o) (h : shO o = ⟨true, 6, false, false, true, false, false⟩) (hr : rightI ⟨o, d, s, n⟩ = true) (ho : Oct (pre ++ ((o * 8 + d) :: [n]))) : getN (pre ++ ((o * 8 + d) :: [n])) a = (⟨o, d, s, n⟩, (a : Int) + 2, 0) := by
  have hl := (lim_3 o d s n h).1 hr
  have hlen : (pre ++ ((o * 8 + d) :: [n])).length = a + 2 := by rw [List.length_append, hp]; rfl
  have e0 := getD_at pre ((o * 8 + d) :: [n]) a 0 hp
  have e1 := getD_at pre ((o * 8 + d) :: [n]) a 1 hp
  have e2 := getD_at pre ((o * 8 + d) :: [n]) a 2 hp
  simp only [List.getD_cons_zero, List.getD_cons_succ, Nat.add_zero] at e0 e1 e2
  generalize hbs : pre ++ ((o * 8 + d) :: [n]) = bs at *
  have g1 := ho.getD (a + 1)
  have hg := getN_3ok bs bs.length a (o * 8 + d) o d rfl ho (by omega) e0 (by omega) (by omega) h (by omega) (by omega)
  rw [hg]
  obtain ⟨_, _, hs, _⟩ := hl
  subst hs
  rw [e1]
theorem back_4 (o d s n : Int) (a : Nat) (pre : List Int) (hp : pre.length = a) (h0 : 0 ≤ o) (h : shO o = ⟨true, 6, false, false, false, false, false⟩) (hr : rightI ⟨o, d, s, n⟩ = true) (ho : Oct (pre ++ ((o * 8 + d) :: []))) : getN (pre ++ ((o * 8 + d) :: [])) a = (⟨o, d, s, n⟩, (a : Int) + 1, 0) := by
  have hl := (lim_4 o d s n h).1 hr
  have hlen : (pre ++ ((o * 8 + d) :: [])).length = a + 1 := by rw [List.length_append, hp]; rfl
  have e0 := getD_at pre ((o * 8 + d) :: []) a 0 hp
  have e1 := getD_at pre ((o * 8 + d) :: []) a 1 hp
  have e2 := getD_at pre ((o * 8 + d) :: []) a 2 hp
  simp only [List.getD_cons_zero, List.getD_cons_succ, Nat.add_zero] at e0 e1 e2
  generalize hbs : pre ++ ((o * 8 + d) :: []) = bs at *
  have g1 := ho.getD (a + 1)
  have hg := getN_4ok bs bs.length a (o * 8 + d) o d rfl ho (by omega) e0 (by omega) (by omega) h (by omega)
  rw [hg]
  obtain ⟨_, _, hs, hn⟩ := hl
  subst hs hn
  simp
theorem back_5seven (o d n : Int) (a : Nat) (pre : List Int) (hp : pre.length = a) (h0 : 0 ≤ o) (h : shO o = ⟨true, -1, false, true, false, false, false⟩) (hr : rightI ⟨o, d, 7, n⟩ = true) (ho : Oct (pre ++ ((o * 8 + 7) :: [n]))) : getN (pre ++ ((o * 8 + 7) :: [n])) a = (⟨o, d, 7, n⟩, (a : Int) + 2, 0) := by
  have hl := (lim_5 o d 7 n h).1 hr
  have hlen : (pre ++ ((o * 8 + 7) :: [n])).length = a + 2 := by rw [List.length_append, hp]; rfl
  have e0 := getD_at pre ((o * 8 + 7) :: [n]) a 0 hp
  have e1 := getD_at pre ((o * 8 + 7) :: [n]) a 1 hp
  have e2 := getD_at pre ((o * 8 + 7) :: [n]) a 2 hp
  simp only [List.getD_cons_zero, List.getD_cons_succ, Nat.add_zero] at e0 e1 e2
  generalize hbs : pre ++ ((o * 8 + 7) :: [n]) = bs at *
  have g1 := ho.getD (a + 1)
  have hg := getN_5seven bs bs.length a (o * 8 + 7) o 7 rfl ho (by omega) e0 (by omega) (by omega) h (by omega) (by omega)
  rw [hg]
  obtain ⟨hd, _⟩ := hl
  subst hd
  rw [e1]
theorem back_5ok (o d s n : Int) (a : Nat) (pre : List Int) (hp : pre.length = a) (h0 : 0 ≤ o) (h : shO o = ⟨true, -1, false, true, false, false, false⟩) (hr : rightI ⟨o, d, s, n⟩ = true) (hs7 : s ≠ 7) (ho : Oct (pre ++ ((o * 8 + s) :: []))) : getN (pre ++ ((o * 8 + s) :: [])) a = (⟨o, d, s, n⟩, (a : Int) + 1, 0) := by
  have hl := (lim_5 o d s n h).1 hr
  have hlen : (pre ++ ((o * 8 + s) :: [])).length = a + 1 := by rw [List.length_append, hp]; rfl
  have e0 := getD_at pre ((o * 8 + s) :: []) a 0 hp
  have e1 := getD_at pre ((o * 8 + s) :: []) a 1 hp
  have e2 := getD_at pre ((o * 8 + s) :: []) a 2 hp
  simp only [List.getD_cons_zero, List.getD_cons_succ, Nat.add_zero] at e0 e1 e2
  generalize hbs : pre ++ ((o * 8 + s) :: []) = bs at *
  have g1 := ho.getD (a + 1)
  have hg := getN_5ok bs bs.length a (o * 8 + s) o s rfl ho (by omega) e0 (by omega) (by omega) h (by omega)
  rw [hg]
  obtain ⟨hd, _, _, _, _, hn⟩ := hl
  obtain rfl := hn hs7
  subst hd
  simp
theorem back_6 (o d s n : Int) (a : Nat) (pre : List Int) (hp : pre.length = a) (h0 : 0 ≤ o) (h : shO o = ⟨true, 3, false, false, true, false, false⟩) (hr : rightI ⟨o, d, s, n⟩ = true) (ho : Oct (pre ++ ((o * 8 + d) :: [n]))) : getN (pre ++ ((o * 8 + d) :: [n])) a = (⟨o, d, s, n⟩, (a : Int) + 2, 0) := by
  have hl := (lim_6 o d s n h).1 hr
  have hlen : (pre ++ ((o * 8 + d) :: [n])).length = a + 2 := by rw [List.length_append, hp]; rfl
  have e0 := getD_at pre ((o * 8 + d) :: [n]) a 0 hp
  have e1 := getD_at pre ((o * 8 + d) :: [n]) a 1 hp
  have e2 := getD_at pre ((o * 8 + d) :: [n]) a 2 hp
  simp only [List.getD_cons_zero, List.getD_cons_succ, Nat.add_zero] at e0 e1 e2
  generalize hbs : pre ++ ((o * 8 + d) :: [n]) = bs at *
  have g1 := ho.getD (a + 1)
  have hg := getN_6ok bs bs.length a (o * 8 + d) o d rfl ho (by omega) e0 (by omega) (by omega) h (by omega) (by omega)
  rw [hg]
  obtain ⟨_, _, hs, _⟩ := hl
  subst hs
  rw [e1]
theorem back_7 (o d s n : Int) (a : Nat) (pre : List Int) (hp : pre.length = a) (h0 : 0 ≤ o) (h : shO o = ⟨true, -1, false, false, true, false, false⟩) (hr : rightI ⟨o, d, s, n⟩ = true) (ho : Oct (pre ++ ((o * 8 + d) :: [n]))) : getN (pre ++ ((o * 8 + d) :: [n])) a = (⟨o, d, s, n⟩, (a : Int) + 2, 0) := by
  have hl := (lim_7 o d s n h).1 hr
  have hlen : (pre ++ ((o * 8 + d) :: [n])).length = a + 2 := by rw [List.length_append, hp]; rfl
  have e0 := getD_at pre ((o * 8 + d) :: [n]) a 0 hp
  have e1 := getD_at pre ((o * 8 + d) :: [n]) a 1 hp
  have e2 := getD_at pre ((o * 8 + d) :: [n]) a 2 hp
  simp only [List.getD_cons_zero, List.getD_cons_succ, Nat.add_zero] at e0 e1 e2
  generalize hbs : pre ++ ((o * 8 + d) :: [n]) = bs at *
  have g1 := ho.getD (a + 1)
  have hg := getN_7ok bs bs.length a (o * 8 + d) o 0 rfl ho (by omega) e0 (by omega) (by omega) h (by omega) (by omega)
  rw [hg]
  obtain ⟨hd, hs, _⟩ := hl
  subst hd hs
  rw [e1]
theorem back_8 (o d s n : Int) (a : Nat) (pre : List Int) (hp : pre.length = a) (h0 : 0 ≤ o) (h : shO o = ⟨true, -1, false, false, false, true, false⟩) (hr : rightI ⟨o, d, s, n⟩ = true) (hj : -128 ≤ n - a - 2 ∧ n - a - 2 ≤ 127) (ho : Oct (pre ++ ((o * 8 + d) :: [(n - a - 2) % 256]))) : getN (pre ++ ((o * 8 + d) :: [(n - a - 2) % 256])) a = (⟨o, d, s, n⟩, (a : Int) + 2, 0) := by
  have hl := (lim_8 o d s n h).1 hr
  have hlen : (pre ++ ((o * 8 + d) :: [(n - a - 2) % 256])).length = a + 2 := by rw [List.length_append, hp]; rfl
  have e0 := getD_at pre ((o * 8 + d) :: [(n - a - 2) % 256]) a 0 hp
  have e1 := getD_at pre ((o * 8 + d) :: [(n - a - 2) % 256]) a 1 hp
  have e2 := getD_at pre ((o * 8 + d) :: [(n - a - 2) % 256]) a 2 hp
  simp only [List.getD_cons_zero, List.getD_cons_succ, Nat.add_zero] at e0 e1 e2
  generalize hbs : pre ++ ((o * 8 + d) :: [(n - a - 2) % 256]) = bs at *
  have g1 := ho.getD (a + 1)
  have hi8 : i8 ((n - a - 2) % 256) = n - a - 2 := by unfold i8; split <;> omega
  have hg := getN_8ok bs bs.length a (o * 8 + d) o 0 rfl ho (by omega) e0 (by omega) (by omega) h (by omega) (by omega) (by rw [e1, hi8]; omega)
  rw [hg]
  obtain ⟨hd, hs, _⟩ := hl
  subst hd hs
  rw [e1, hi8, show (a : Int) + 2 + (n - a - 2) = n by omega]
theorem back_9 (o d s n : Int) (a : Nat) (pre : List Int) (hp : pre.length = a) (h0 : 0 ≤ o) (h : shO o = ⟨true, -1, false, false, false, false, true⟩) (hr : rightI ⟨o, d, s, n⟩ = true) (ho : Oct (pre ++ ((o * 8 + d) :: [n / 256, n % 256]))) : getN (pre ++ ((o * 8 + d) :: [n / 256, n % 256])) a = (⟨o, d, s, n⟩, (a : Int) + 3, 0) := by
  have hl := (lim_9 o d s n h).1 hr
  have hlen : (pre ++ ((o * 8 + d) :: [n / 256, n % 256])).length = a + 3 := by rw [List.length_append, hp]; rfl
  have e0 := getD_at pre ((o * 8 + d) :: [n / 256, n % 256]) a 0 hp
  have e1 := getD_at pre ((o * 8 + d) :: [n / 256, n % 256]) a 1 hp
  have e2 := getD_at pre ((o * 8 + d) :: [n / 256, n % 256]) a 2 hp
  simp only [List.getD_cons_zero, List.getD_cons_succ, Nat.add_zero] at e0 e1 e2
  generalize hbs : pre ++ ((o * 8 + d) :: [n / 256, n % 256]) = bs at *
  have g1 := ho.getD (a + 1)
  have hg := getN_9ok bs bs.length a (o * 8 + d) o 0 rfl ho (by omega) e0 (by omega) (by omega) h (by omega) (by omega)
  rw [hg]
  obtain ⟨hd, hs, _⟩ := hl
  subst hd hs
  rw [e1, e2, show n / 256 * 256 + n % 256 = n by omega]
end Go.Proofs.Ytaiekpdoljleeaa
