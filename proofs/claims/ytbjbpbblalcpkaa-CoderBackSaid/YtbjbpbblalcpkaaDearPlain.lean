/- How dear bits are: a long row of ones of one chance, reckoned out. -/
import Derived.Test.YtbjbpbblalcpkaaCodPlain
namespace Go.Proofs.Ytbjbpbblalcpkaa
open Go.RowKit Go.WideShapes
/-- One more one of a chance: how many bytes there are, the upper end (the lower one is 0). -/
def one (p : Int) (s : Nat × Int) : Nat × Int := (s.1 + (norm 0 (mid 0 s.2 p)).1.length, (norm 0 (mid 0 s.2 p)).2.2)
def ones (p : Int) : Nat → Nat × Int
  | 0 => (0, 4294967295)
  | n + 1 => one p (ones p n)
/-- As natural numbers. -/
def mN (y p : Nat) : Nat := y / 65536 * p + y % 65536 * p / 65536
def oneN (p : Nat) (l y : Nat) : Nat × Nat :=
  if 16777216 ≤ mN y p then (l, mN y p) else if 65536 ≤ mN y p then (l + 1, mN y p * 256 + 255) else if 256 ≤ mN y p then (l + 2, mN y p * 65536 + 65535) else if 0 < mN y p then (l + 3, mN y p * 16777216 + 16777215) else (l + 4, 4294967295)
def chk (p : Nat) (good : Nat → Nat → Bool) : Nat → Nat → Nat → Nat → Bool
  | 0, _, _, _ => true
  | f + 1, n, l, y => good n l && chk p good f (n + 1) (oneN p l y).1 (oneN p l y).2
def goodA (n l : Nat) : Bool := Nat.ble n 799 || Nat.ble l (10 + n / 500)
def goodB (n l : Nat) : Bool := Nat.ble n 799 || Nat.ble (n * 7 / 8) (l + 2)
set_option maxRecDepth 1000000 in
theorem chkA : chk 65000 goodA 4001 0 0 4294967295 = true := by decide +kernel
set_option maxRecDepth 1000000 in
theorem chkB : chk 500 goodB 4001 0 0 4294967295 = true := by decide +kernel
theorem mid_N (y p : Nat) : mid 0 y p = (mN y p : Nat) := by
  unfold mid mN
  simp
theorem mN_lt {y p : Nat} (h1 : y ≤ 4294967295) (hp : p ≤ 65535) : mN y p ≤ 4294967295 := by
  unfold mN
  have h2 : y / 65536 * p ≤ y / 65536 * 65535 := Nat.mul_le_mul_left _ hp
  have h3 : y % 65536 * p ≤ y % 65536 * 65535 := Nat.mul_le_mul_left _ hp
  omega
theorem norm0 (m : Nat) (h : m < 16777216) : norm 0 m = (0 :: (norm 0 ((m * 256 + 255 : Nat) : Int)).1, (norm 0 ((m * 256 + 255 : Nat) : Int)).2) := by
  have i : Ivl 0 (m : Int) := ⟨by omega, by omega, by omega⟩
  rw [norm_more i (by omega)]
  have e1 : nx 0 = 0 := by decide
  have e2 : ny (m : Int) = ((m * 256 + 255 : Nat) : Int) := by unfold ny; omega
  rw [e1, e2]
  rfl
theorem norm0_done (m : Nat) (h : 16777216 ≤ m) : norm 0 m = ([], 0, (m : Int)) := norm_done (by omega)
theorem norm_oneN (l y p : Nat) (h1 : y ≤ 4294967295) (hp : p ≤ 65535) :
    ∃ r : List Int, norm 0 (mN y p : Nat) = (r, (0 : Int), (((oneN p l y).2 : Nat) : Int)) ∧ (oneN p l y).1 = l + r.length ∧ 16777216 ≤ (oneN p l y).2 ∧ (oneN p l y).2 ≤ 4294967295 := by
  have hm := mN_lt h1 hp
  unfold oneN
  generalize mN y p = m at *
  by_cases c1 : 16777216 ≤ m
  · rw [if_pos c1, norm0_done m c1]
    exact ⟨[], rfl, rfl, c1, hm⟩
  · rw [if_neg c1, norm0 m (by omega)]
    by_cases c2 : 65536 ≤ m
    · rw [if_pos c2, norm0_done _ (by omega)]
      exact ⟨[0], rfl, rfl, by show _ ≤ m * 256 + 255; omega, by show m * 256 + 255 ≤ _; omega⟩
    · rw [if_neg c2, norm0 _ (by omega)]
      by_cases c3 : 256 ≤ m
      · rw [if_pos c3, norm0_done _ (by omega)]
        exact ⟨[0, 0], by show _ = ([0, 0], (0 : Int), ((m * 65536 + 65535 : Nat) : Int)); rw [show (m * 256 + 255) * 256 + 255 = m * 65536 + 65535 by omega], rfl, by show _ ≤ m * 65536 + 65535; omega, by show m * 65536 + 65535 ≤ _; omega⟩
      · rw [if_neg c3, norm0 _ (by omega)]
        by_cases c4 : 0 < m
        · rw [if_pos c4, norm0_done _ (by omega)]
          exact ⟨[0, 0, 0], by show _ = ([0, 0, 0], (0 : Int), ((m * 16777216 + 16777215 : Nat) : Int)); rw [show ((m * 256 + 255) * 256 + 255) * 256 + 255 = m * 16777216 + 16777215 by omega], rfl, by show _ ≤ m * 16777216 + 16777215; omega, by show m * 16777216 + 16777215 ≤ _; omega⟩
        · rw [if_neg c4, norm0 _ (by omega), norm0_done _ (by omega)]
          have : m = 0 := by omega
          subst this
          exact ⟨[0, 0, 0, 0], rfl, rfl, by show 16777216 ≤ 4294967295; omega, by show 4294967295 ≤ 4294967295; omega⟩
def itN (p : Nat) : Nat → Nat × Nat → Nat × Nat
  | 0, s => s
  | n + 1, s => itN p n (oneN p s.1 s.2)
theorem itN_succ (p : Nat) : ∀ (n : Nat) (s : Nat × Nat), itN p (n + 1) s = oneN p (itN p n s).1 (itN p n s).2
  | 0, s => rfl
  | n + 1, s => by
    show itN p (n + 1) (oneN p s.1 s.2) = _
    rw [itN_succ p n]
    rfl
theorem chk_all {p : Nat} {good : Nat → Nat → Bool} : ∀ (f n l y : Nat), chk p good f n l y = true → ∀ j, j < f → good (n + j) (itN p j (l, y)).1 = true
  | 0, _, _, _, _, j, hj => by omega
  | f + 1, n, l, y, h, j, hj => by
    unfold chk at h
    rw [Bool.and_eq_true] at h
    rcases j with _ | j
    · exact h.1
    · have := chk_all f (n + 1) _ _ h.2 j (by omega)
      rw [show n + (j + 1) = n + 1 + j by omega]
      exact this
/-- The row of ones as the encoder has it. -/
theorem ones_itN (p : Nat) (hp : p ≤ 65535) : ∀ n, (ones p n).1 = (itN p n (0, 4294967295)).1 ∧ (ones p n).2 = ((itN p n (0, 4294967295)).2 : Nat) ∧ 16777216 ≤ (itN p n (0, 4294967295)).2 ∧ (itN p n (0, 4294967295)).2 ≤ 4294967295
  | 0 => ⟨rfl, rfl, by show 16777216 ≤ 4294967295; omega, by show 4294967295 ≤ 4294967295; omega⟩
  | n + 1 => by
    obtain ⟨h1, h2, h3, h4⟩ := ones_itN p hp n
    rw [itN_succ]
    generalize itN p n (0, 4294967295) = s at *
    obtain ⟨r, e1, e2, e3, e4⟩ := norm_oneN s.1 s.2 p h4 hp
    have e0 : ones p (n + 1) = one p (ones p n) := rfl
    rw [e0]
    unfold one
    rw [h2, mid_N, e1]
    exact ⟨by rw [e2, ← h1], rfl, e3, e4⟩
theorem dearA (n : Nat) (h1 : 800 ≤ n) (h2 : n ≤ 4000) : (ones 65000 n).1 ≤ 10 + n / 500 := by
  have h := chk_all _ _ _ _ chkA n (by omega)
  rw [← (ones_itN 65000 (by omega) n).1, Nat.zero_add] at h
  unfold goodA at h
  rw [Bool.or_eq_true, Nat.ble_eq, Nat.ble_eq] at h
  have e : ((65000 : Nat) : Int) = 65000 := rfl
  rw [e] at h
  omega
theorem dearB (n : Nat) (h1 : 800 ≤ n) (h2 : n ≤ 4000) : n * 7 / 8 ≤ (ones 500 n).1 + 2 := by
  have h := chk_all _ _ _ _ chkB n (by omega)
  rw [← (ones_itN 500 (by omega) n).1, Nat.zero_add] at h
  unfold goodB at h
  rw [Bool.or_eq_true, Nat.ble_eq, Nat.ble_eq] at h
  have e : ((500 : Nat) : Int) = 500 := rfl
  rw [e] at h
  omega
theorem ones_nrm (p : Nat) (hp : p ≤ 65535) (n : Nat) : Nrm 0 (ones p n).2 := by
  obtain ⟨_, h2, h3, h4⟩ := ones_itN p hp n
  rw [h2]
  exact ⟨⟨by omega, by omega, by omega⟩, by omega⟩
theorem ones_step (p : Nat) (hp : p ≤ 65535) (n : Nat) : ∃ r : List Int, step 1 p 0 (ones p n).2 = (r, 0, (ones p (n + 1)).2) ∧ (ones p (n + 1)).1 = (ones p n).1 + r.length ∧ r.length ≤ 4 := by
  obtain ⟨_, h2, h3, h4⟩ := ones_itN p hp n
  obtain ⟨r, e1, e2, e3, e4⟩ := norm_oneN 0 (itN p n (0, 4294967295)).2 p h4 hp
  have e0 : ones p (n + 1) = one p (ones p n) := rfl
  have hs : step 1 p 0 (ones p n).2 = norm 0 (mN (itN p n (0, 4294967295)).2 p : Nat) := by
    unfold step cutX cutY
    rw [if_pos rfl, if_pos rfl, h2, mid_N]
  refine ⟨r, ?_, ?_, ?_⟩
  · rw [hs, e1, e0]
    unfold one
    rw [h2, mid_N, e1]
  · rw [e0]
    unfold one
    rw [h2, mid_N, e1]
  · have := norm_len _ 0 (mN (itN p n (0, 4294967295)).2 p : Nat) rfl ⟨by omega, by omega, by have := mN_lt h4 hp; omega⟩
    rw [e1] at this
    have h5 := need_le 0 (mN (itN p n (0, 4294967295)).2 p : Nat)
    simp only at this
    omega
theorem ones_le (p : Nat) (hp : p ≤ 65535) : ∀ n, (ones p n).1 ≤ 4 * n
  | 0 => Nat.le_refl _
  | n + 1 => by
    obtain ⟨r, _, h2, h3⟩ := ones_step p hp n
    have := ones_le p hp n
    omega
end Go.Proofs.Ytbjbpbblalcpkaa
