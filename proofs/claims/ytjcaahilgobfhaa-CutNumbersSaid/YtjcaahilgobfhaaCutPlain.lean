/- The plain law of fragments: how bytes are scanned, where the first fragment ends, where all end; no Go in sight; no condition. -/
import Derived.Test.YtjcaahilgobfhaaWords
namespace Go.Proofs.Ytjcaahilgobfhaa
def mixI (s c f : Int) : Int := (s + c + 1) % 4294967296 * f % 4294967296
def factI (hit : Bool) : Int := if hit then 314159265 else 271828182
structure CS where
  s : Int
  a : Int
  g : List Int
def CS.step (x : CS) (c : Int) : CS := ⟨mixI x.s c (factI (x.g.getD x.a.toNat 0 == c)), c, x.g.set x.a.toNat c⟩
def noGuess : List Int := List.replicate 256 0
theorem noGuess_length : noGuess.length = 256 := by unfold noGuess; exact List.length_replicate
theorem noGuess_getD (i : Nat) : noGuess.getD i 0 = 0 := by
  unfold noGuess
  rw [List.getD_eq_getElem?_getD, List.getElem?_replicate]
  split <;> rfl
def scanS (bs : List Int) : Nat → CS
  | 0 => ⟨0, 0, noGuess⟩
  | k + 1 => (scanS bs k).step (bs.getD k 0)
structure CS.Ok (x : CS) : Prop where
  s0 : 0 ≤ x.s
  s1 : x.s < 4294967296
  a0 : 0 ≤ x.a
  a1 : x.a ≤ 255
  g : x.g.length = 256
theorem scan_ok {bs : List Int} (h : Oct bs) : ∀ k, (scanS bs k).Ok
  | 0 => ⟨Int.le_refl _, by show (0 : Int) < _; omega, Int.le_refl _, by show (0 : Int) ≤ _; omega, noGuess_length⟩
  | k + 1 => by
    have b := h.getD k
    have r := scan_ok h k
    exact ⟨by simp only [scanS, CS.step, mixI]; omega, by simp only [scanS, CS.step, mixI]; omega, by simp only [scanS, CS.step]; omega, by simp only [scanS, CS.step]; omega, by simp only [scanS, CS.step, List.length_set]; exact r.g⟩
/-- The scan of k bytes sees those k bytes alone. -/
theorem scan_congr {bs cs : List Int} : ∀ k, (∀ i, i < k → bs.getD i 0 = cs.getD i 0) → scanS bs k = scanS cs k
  | 0, _ => rfl
  | k + 1, h => by simp only [scanS]; rw [scan_congr k (fun i hi => h i (by omega)), h k (by omega)]
def lowAt (bs : List Int) (k : Nat) : Prop := 64 ≤ k ∧ (scanS bs k).s < 8388608
/-- n is how many bytes the first fragment has. -/
structure IsNext (bs : List Int) (n : Nat) : Prop where
  le : n ≤ bs.length
  most : n ≤ 4096
  pos : 0 < bs.length → 0 < n
  no : ∀ k, 0 < k → k < n → ¬ lowAt bs k
  stop : n = bs.length ∨ n = 4096 ∨ lowAt bs n
theorem IsNext.uniq {bs : List Int} {m n : Nat} (h : IsNext bs m) (k : IsNext bs n) : m = n := by
  have one : ∀ {m n : Nat}, IsNext bs m → IsNext bs n → m < n → False := fun {m n} h k hl => by
    have := k.le
    have := k.most
    rcases h.stop with e | e | e
    · omega
    · omega
    · exact k.no m (h.pos (by omega)) hl e
  rcases Nat.lt_trichotomy m n with c | c | c
  · exact (one h k c).elim
  · exact c
  · exact (one k h c).elim
open Classical in
theorem next_ex (bs : List Int) : ∃ n, IsNext bs n := by
  by_cases h : ∃ n, 0 < n ∧ n ≤ bs.length ∧ n ≤ 4096 ∧ lowAt bs n
  · have hp : ∃ n, n ≤ 4096 ∧ (0 < n ∧ n ≤ bs.length ∧ lowAt bs n) := by
      obtain ⟨n, a, b, c, d⟩ := h; exact ⟨n, c, a, b, d⟩
    have key : ∀ m : Nat, (∃ n, n ≤ m ∧ 0 < n ∧ n ≤ bs.length ∧ n ≤ 4096 ∧ lowAt bs n) → ∃ n, (0 < n ∧ n ≤ bs.length ∧ n ≤ 4096 ∧ lowAt bs n) ∧ ∀ k, 0 < k → k < n → ¬ lowAt bs k := by
      intro m
      induction m with
      | zero => rintro ⟨n, h0, h1, _⟩; omega
      | succ m ih =>
        rintro ⟨n, h0, h1⟩
        by_cases hq : ∃ n, n ≤ m ∧ 0 < n ∧ n ≤ bs.length ∧ n ≤ 4096 ∧ lowAt bs n
        · exact ih hq
        · refine ⟨n, h1, fun k hk hkn hl => hq ⟨k, by omega, hk, by omega, by omega, hl⟩⟩
    obtain ⟨n, a, b, c, d⟩ := h
    obtain ⟨n, ⟨h0, h1, h2, h3⟩, h4⟩ := key n ⟨n, Nat.le_refl _, a, b, c, d⟩
    exact ⟨n, h1, h2, fun _ => h0, h4, .inr (.inr h3)⟩
  · refine ⟨min bs.length 4096, by omega, by omega, by omega, fun k h0 h1 hl => h ⟨k, h0, by omega, by omega, hl⟩, by omega⟩
/-- Behind 'at' the fragments of bs end at l. -/
inductive Cut (bs : List Int) : Nat → List Nat → Prop
  | done {i : Nat} : bs.length ≤ i → Cut bs i []
  | more {i n : Nat} {l : List Nat} : i < bs.length → IsNext (bs.drop i) n → Cut bs (i + n) l → Cut bs i ((i + n) :: l)
theorem Cut.uniq {bs : List Int} {i : Nat} {l m : List Nat} (h : Cut bs i l) (k : Cut bs i m) : l = m := by
  induction h generalizing m with
  | done h0 =>
    cases k with
    | done => rfl
    | more h1 => omega
  | more h0 hn _ ih =>
    cases k with
    | done h1 => omega
    | more _ hn' hr =>
      obtain rfl := hn.uniq hn'
      rw [ih hr]
/-- A list of fragments, as far as it has come. -/
def CutTo (bs : List Int) (i : Nat) (pre : List Nat) : Prop := ∀ l, Cut bs i l → Cut bs 0 (pre ++ l)
theorem CutTo.start (bs : List Int) : CutTo bs 0 [] := fun _ h => h
theorem CutTo.next {bs : List Int} {i n : Nat} {pre : List Nat} (h : CutTo bs i pre) (hi : i < bs.length) (hn : IsNext (bs.drop i) n) : CutTo bs (i + n) (pre ++ [i + n]) := fun l hl => by
  have := h _ (.more hi hn hl)
  simpa using this
theorem CutTo.all {bs : List Int} {i : Nat} {pre : List Nat} (h : CutTo bs i pre) (hi : bs.length ≤ i) : Cut bs 0 pre := by simpa using h [] (.done hi)
end Go.Proofs.Ytjcaahilgobfhaa
