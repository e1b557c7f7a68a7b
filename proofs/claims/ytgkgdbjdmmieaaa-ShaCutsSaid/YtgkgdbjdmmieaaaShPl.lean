/- What package sha and its reference reckon, in plain words: a block's words, its rounds, the padding. No program in sight. -/
import Derived.Test.YtgkgdbjdmmieaaaFrm
import Derived.Laws.BitsAllLaws
namespace Go.Proofs.Ytgkgdbjdmmieaaa
open Go.RowKit Go.WideShapes
set_option linter.unusedVariables false
set_option linter.unusedSimpArgs false
/-- A number of 32 bits. -/
def U (x : Int) : Prop := 0 ≤ x ∧ x < 4294967296
def orI (a b : Int) : Int := bits .or .u32 a b
def andI (a b : Int) : Int := bits .and .u32 a b
def xorI (a b : Int) : Int := bits .xor .u32 a b
def notI (a : Int) : Int := bits .xor .u32 IntKind.u32.max a
theorem U_wrap (n : Int) : U (IntKind.u32.wrap n) := by rw [IntKind.wrap_u32']; unfold U; omega
theorem U_xor (a b : Int) : U (xorI a b) := U_wrap _
theorem U_or (a b : Int) : U (orI a b) := U_wrap _
theorem U_and (a b : Int) : U (andI a b) := U_wrap _
theorem U_mod (a : Int) : U (a % 4294967296) := by unfold U; omega
/-- To the left by 1, 5, 30: as the library has it. -/
def rotA (x : Int) : Int := orI (x * 2 % 4294967296) (x / 2147483648)
def rotB (x : Int) : Int := orI (x * 32 % 4294967296) (x / 134217728)
def rotC (x : Int) : Int := orI (x * 1073741824 % 4294967296) (x / 4)
theorem or_join (i : Nat) (x y : Int) (hi : i ≤ 32) (hx : U x) (hy : U y) (h0 : x % 2 ^ i = 0) (h1 : y < 2 ^ i) : orI x y = x + y := by
  obtain ⟨X, rfl⟩ := Int.eq_ofNat_of_zero_le hx.1
  obtain ⟨Y, rfl⟩ := Int.eq_ofNat_of_zero_le hy.1
  unfold orI
  have a1 : X < 4294967296 := by have := hx.2; omega
  have a2 : Y < 4294967296 := by have := hy.2; omega
  rw [u32_or_nat X Y a1 a2, nat_join i X Y (by exact_mod_cast h0) (by exact_mod_cast h1)]
  simp
theorem rotA_eq (x : Int) (h : U x) : rotA x = (x * 2 % 4294967296 + x / 2147483648) % 4294967296 := by
  unfold U at h
  unfold rotA
  rw [or_join 1 _ _ (by decide) (U_mod _) (by unfold U; omega) (by omega) (by omega)]
  omega
theorem rotB_eq (x : Int) (h : U x) : rotB x = (x * 32 % 4294967296 + x / 134217728) % 4294967296 := by
  unfold U at h
  unfold rotB
  rw [or_join 5 _ _ (by decide) (U_mod _) (by unfold U; omega) (by omega) (by omega)]
  omega
theorem rotC_eq (x : Int) (h : U x) : rotC x = (x * 1073741824 % 4294967296 + x / 4) % 4294967296 := by
  unfold U at h
  unfold rotC
  rw [or_join 30 _ _ (by decide) (U_mod _) (by unfold U; omega) (by omega) (by omega)]
  omega
/-- Four bytes as a number. -/
def beW (a b c d : Int) : Int := ((a * 256 + b) * 256 + c) * 256 + d
theorem beW_or (a b c d : Int) (ha : 0 ≤ a ∧ a ≤ 255) (hb : 0 ≤ b ∧ b ≤ 255) (hc : 0 ≤ c ∧ c ≤ 255) (hd : 0 ≤ d ∧ d ≤ 255) :
    orI (orI (orI (a * 16777216 % 4294967296) (b * 65536 % 4294967296)) (c * 256 % 4294967296)) d = beW a b c d := by
  rw [or_join 24 (a * 16777216 % 4294967296) _ (by decide) (U_mod _) (U_mod _) (by omega) (by omega)]
  rw [or_join 16 _ (c * 256 % 4294967296) (by decide) (by unfold U; omega) (U_mod _) (by omega) (by omega)]
  rw [or_join 8 _ d (by decide) (by unfold U; omega) (by unfold U; omega) (by omega) (by omega)]
  unfold beW
  omega
def wordI (bs : List Int) (t : Nat) : Int := beW (bs.getD (4 * t) 0) (bs.getD (4 * t + 1) 0) (bs.getD (4 * t + 2) 0) (bs.getD (4 * t + 3) 0)
theorem U_word {bs : List Int} (h : Oct bs) (t : Nat) : U (wordI bs t) := by
  have := h.getD (4 * t)
  have := h.getD (4 * t + 1)
  have := h.getD (4 * t + 2)
  have := h.getD (4 * t + 3)
  unfold wordI beW U
  omega
/-- A block's word number t, by those ahead of it. -/
def nextW (bs L : List Int) (t : Nat) : Int :=
  if t < 16 then wordI bs t else rotA (xorI (xorI (xorI (L.getD (t - 3) 0) (L.getD (t - 8) 0)) (L.getD (t - 14) 0)) (L.getD (t - 16) 0))
def sched (bs : List Int) : Nat → List Int
  | 0 => []
  | t + 1 => sched bs t ++ [nextW bs (sched bs t) t]
theorem sched_length (bs : List Int) : ∀ t, (sched bs t).length = t
  | 0 => rfl
  | t + 1 => by simp [sched, sched_length bs t]
theorem sched_U {bs : List Int} (h : Oct bs) : ∀ t, ∀ x ∈ sched bs t, U x
  | 0, x, hx => by cases hx
  | t + 1, x, hx => by
    rcases List.mem_append.1 hx with hx | hx
    · exact sched_U h t x hx
    · simp at hx
      subst hx
      unfold nextW
      split
      · exact U_word h t
      · exact U_or _ _
/-- A round's number and constant. -/
def fI (t : Nat) (b c d : Int) : Int :=
  if t < 20 then orI (andI b c) (andI (notI b) d) else if t < 40 then xorI (xorI b c) d else if t < 60 then orI (orI (andI b c) (andI b d)) (andI c d) else xorI (xorI b c) d
def kI (t : Nat) : Int := if t < 20 then 1518500249 else if t < 40 then 1859775393 else if t < 60 then 2400959708 else 3395469782
structure S5 where
  a : Int
  b : Int
  c : Int
  d : Int
  e : Int
def S5.U (s : S5) : Prop := Ytgkgdbjdmmieaaa.U s.a ∧ Ytgkgdbjdmmieaaa.U s.b ∧ Ytgkgdbjdmmieaaa.U s.c ∧ Ytgkgdbjdmmieaaa.U s.d ∧ Ytgkgdbjdmmieaaa.U s.e
def S5.vals (s : S5) : Array Value := #[.int .u32 s.a, .int .u32 s.b, .int .u32 s.c, .int .u32 s.d, .int .u32 s.e]
def addI (a b : Int) : Int := (a + b) % 4294967296
def stepI (s : S5) (t : Nat) (x : Int) : S5 :=
  ⟨(rotB s.a + fI t s.b s.c s.d + s.e + kI t + x) % 4294967296, s.a, rotC s.b, s.c, s.d⟩
def stepsI (L : List Int) (s : S5) : Nat → S5
  | 0 => s
  | t + 1 => stepI (stepsI L s t) t (L.getD t 0)
def S5.add (h s : S5) : S5 := ⟨addI h.a s.a, addI h.b s.b, addI h.c s.c, addI h.d s.d, addI h.e s.e⟩
def blockI (h : S5) (bs : List Int) : S5 := h.add (stepsI (sched bs 80) h 80)
theorem stepI_U {s : S5} (h : s.U) (t : Nat) (x : Int) : (stepI s t x).U := ⟨U_mod _, h.1, U_or _ _, h.2.2.1, h.2.2.2.1⟩
theorem stepsI_U (L : List Int) {s : S5} (h : s.U) : ∀ t, (stepsI L s t).U
  | 0 => h
  | t + 1 => stepI_U (stepsI_U L h t) _ _
theorem blockI_U (h : S5) (bs : List Int) : (blockI h bs).U := ⟨U_mod _, U_mod _, U_mod _, U_mod _, U_mod _⟩
/-- Blocks, one behind the other. -/
def runs : Nat → S5 → List Int → S5
  | 0, h, _ => h
  | k + 1, h, p => runs k (blockI h (p.take 64)) (p.drop 64)
theorem runs_add : ∀ (j k : Nat) (h : S5) (p : List Int), runs (j + k) h p = runs k (runs j h p) (p.drop (64 * j))
  | 0, k, h, p => by simp [runs]
  | j + 1, k, h, p => by
    rw [show j + 1 + k = (j + k) + 1 by omega]
    simp only [runs]
    rw [runs_add j k, List.drop_drop]
    congr 2
    omega
theorem runs_snoc (k : Nat) (h : S5) (p : List Int) : runs (k + 1) h p = blockI (runs k h p) ((p.drop (64 * k)).take 64) := runs_add k 1 h p
theorem runs_ext : ∀ (k : Nat) (h : S5) (p q : List Int), 64 * k ≤ p.length → runs k h (p ++ q) = runs k h p
  | 0, _, _, _, _ => rfl
  | k + 1, h, p, q, hp => by
    simp only [runs]
    rw [List.take_append_of_le_length (by omega), List.drop_append_of_le_length (by omega), runs_ext k _ _ q (by rw [List.length_drop]; omega)]
theorem runs_U : ∀ (k : Nat) {h : S5} (_ : h.U) (p : List Int), (runs k h p).U
  | 0, _, hU, _ => hU
  | k + 1, _, _, p => runs_U k (blockI_U _ _) _
def h0I : S5 := ⟨1732584193, 4023233417, 2562383102, 271733878, 3285377520⟩
theorem h0I_U : h0I.U := by simp [S5.U, U, h0I]
/-- The padding's noughts behind n bytes and the 128. -/
def padZ (n : Nat) : Nat := (55 + 63 * n) % 64
/-- The eight bytes of a number, the first i of them. -/
def lenB (n : Int) : Nat → List Int
  | 0 => []
  | i + 1 => lenB n i ++ [n / 2 ^ (56 - 8 * i) % 256]
theorem lenB_length (n : Int) : ∀ i, (lenB n i).length = i
  | 0 => rfl
  | i + 1 => by simp [lenB, lenB_length n i]
theorem lenB_oct (n : Int) : ∀ i, Oct (lenB n i)
  | 0 => fun x hx => by cases hx
  | i + 1 => (lenB_oct n i).append fun x hx => by simp at hx; subst hx; omega
def bitsI (n : Nat) : Int := (n : Int) * 8 % 18446744073709551616
def padI (n : Nat) : List Int := 128 :: List.replicate (padZ n) 0 ++ lenB (bitsI n) 8
theorem padI_length (n : Nat) : (padI n).length = padZ n + 9 := by simp [padI, lenB_length]
theorem padI_whole (n : Nat) : (n + (padI n).length) % 64 = 0 := by rw [padI_length]; unfold padZ; omega
theorem padI_oct (n : Nat) : Oct (padI n) := by
  unfold padI
  refine Oct.append ?_ (lenB_oct _ _)
  intro x hx
  simp at hx
  rcases hx with rfl | ⟨_, rfl⟩ <;> omega
/-- The state's numbers as bytes, the first i of the twenty. -/
def S5.at (s : S5) (i : Nat) : Int := if i = 0 then s.a else if i = 1 then s.b else if i = 2 then s.c else if i = 3 then s.d else s.e
def outI (s : S5) (i : Nat) : Int := s.at (i / 4) / 2 ^ (24 - 8 * (i % 4)) % 256
def outL (s : S5) : Nat → List Int
  | 0 => []
  | i + 1 => outL s i ++ [outI s i]
theorem outL_length (s : S5) : ∀ i, (outL s i).length = i
  | 0 => rfl
  | i + 1 => by simp [outL, outL_length s i]
theorem outL_oct (s : S5) : ∀ i, Oct (outL s i)
  | 0 => fun x hx => by cases hx
  | i + 1 => (outL_oct s i).append fun x hx => by simp at hx; subst hx; unfold outI; omega
/-- What a digest has taken: the numbers, the bytes of a block that is not whole. -/
def hasI (bs : List Int) : S5 := runs (bs.length / 64) h0I bs
def restI (bs : List Int) : List Int := bs.drop (64 * (bs.length / 64))
def shaI (bs : List Int) : List Int := outL (runs ((bs.length + (padI bs.length).length) / 64) h0I (bs ++ padI bs.length)) 20
theorem shaI_length (bs : List Int) : (shaI bs).length = 20 := outL_length _ _
theorem restI_length (bs : List Int) : (restI bs).length = bs.length % 64 := by unfold restI; rw [List.length_drop]; omega
theorem hasI_app (bs xs : List Int) : hasI (bs ++ xs) = runs (((restI bs).length + xs.length) / 64) (hasI bs) (restI bs ++ xs) := by
  unfold hasI
  rw [restI_length, List.length_append, show (bs.length + xs.length) / 64 = bs.length / 64 + (bs.length % 64 + xs.length) / 64 by omega, runs_add, runs_ext _ _ _ _ (by omega)]
  congr 1
  unfold restI
  rw [List.drop_append_of_le_length (by omega)]
theorem restI_app (bs xs : List Int) : restI (bs ++ xs) = (restI bs ++ xs).drop (64 * (((restI bs).length + xs.length) / 64)) := by
  have hr := restI_length bs
  unfold restI at *
  rw [List.length_append, ← List.drop_append_of_le_length (by omega), List.drop_drop, hr]
  congr 1
  omega
theorem shaI_end (bs : List Int) : shaI bs = outL (runs (((restI bs).length + (padI bs.length).length) / 64) (hasI bs) (restI bs ++ padI bs.length)) 20 := by
  have := hasI_app bs (padI bs.length)
  unfold hasI at this
  rw [List.length_append] at this
  unfold shaI
  rw [this]
  rfl
end Go.Proofs.Ytgkgdbjdmmieaaa
