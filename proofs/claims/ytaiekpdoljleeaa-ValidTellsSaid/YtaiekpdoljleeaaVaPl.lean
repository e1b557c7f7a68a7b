/- A code's instructions, one behind the other: plain. -/
import Derived.Test.YtaiekpdoljleeaaCoBk
namespace Go.Proofs.Ytaiekpdoljleeaa
open Go.RowKit Go.WideShapes
set_option linter.unusedVariables false
set_option linter.unusedSimpArgs false
/-- The instructions from place a on, up to place z. -/
def Chain (bs : List Int) : Nat → List (Nat × In) → Nat → Prop
  | a, [], z => a = z
  | a, p :: ps, z => p.1 = a ∧ a < bs.length ∧ ∃ n : Nat, getI bs a = (p.2, (n : Int), 0) ∧ Got bs a p.2 n ∧ Chain bs n ps z
theorem getI_nat (bs : List Int) (a : Nat) (h : a < bs.length) (hl : bs.length ≤ 65536) : getI bs a = getN bs a := by
  unfold getI
  rw [if_neg (by omega)]
  rfl
/-- How a code's instructions end: at its end, or at a fault. -/
def EndsAt (bs : List Int) (z : Nat) : Prop := z = bs.length ∨ (z < bs.length ∧ ∃ e : Int, e ≠ 0 ∧ 0 ≤ e ∧ e ≤ 255 ∧ getI bs z = (zI, 0, e))
theorem chain_ex (bs : List Int) (ho : Oct bs) (hl : bs.length ≤ 65536) : ∀ (m a : Nat), bs.length - a ≤ m → a ≤ bs.length → ∃ ps z, Chain bs a ps z ∧ EndsAt bs z
  | 0, a, h, ha => ⟨[], a, rfl, .inl (by omega)⟩
  | m + 1, a, h, ha => by
    rcases Nat.lt_or_ge a bs.length with hlt | hge
    · rcases get_cases bs a ho hlt with (hc | hc) | ⟨p, e, hc, hg⟩
      · exact ⟨[], a, rfl, .inr ⟨hlt, 110, by omega, by omega, by omega, by rw [getI_nat bs a hlt hl, hc]⟩⟩
      · exact ⟨[], a, rfl, .inr ⟨hlt, 12, by omega, by omega, by omega, by rw [getI_nat bs a hlt hl, hc]⟩⟩
      · have h1 := hg.lo
        have h2 := hg.hi
        obtain ⟨ps, z, h3, h4⟩ := chain_ex bs ho hl m e (by omega) h2
        exact ⟨(a, p) :: ps, z, ⟨rfl, hlt, e, by rw [getI_nat bs a hlt hl, hc], hg, h3⟩, h4⟩
    · exact ⟨[], a, rfl, .inl (by omega)⟩
theorem Chain.le {bs : List Int} : ∀ {ps : List (Nat × In)} {a z : Nat}, Chain bs a ps z → a ≤ bs.length → a + ps.length ≤ z ∧ z ≤ bs.length
  | [], a, z, h, ha => by
    have h : a = z := h
    subst h
    exact ⟨by simp, ha⟩
  | p :: ps, a, z, h, ha => by
    obtain ⟨_, hlt, n, _, hg, hc⟩ := h
    have h1 := hg.lo
    have := Chain.le hc hg.hi
    simp only [List.length_cons]
    omega
theorem Chain.at {bs : List Int} : ∀ {ps : List (Nat × In)} {a z : Nat}, Chain bs a ps z → ∀ (k : Nat) (p : Nat × In), ps[k]? = some p → p.1 < bs.length ∧ ∃ n : Nat, getI bs p.1 = (p.2, (n : Int), 0) ∧ Got bs p.1 p.2 n
  | [], a, z, h, k, p, hp => by simp at hp
  | q :: ps, a, z, h, k, p, hp => by
    obtain ⟨h0, hlt, n, h1, hg, hc⟩ := h
    rcases k with _ | k
    · simp at hp
      subst hp
      rw [h0]
      exact ⟨hlt, n, h1, hg⟩
    · exact Chain.at hc k p (by simpa using hp)
theorem inB_le {n low high : Int} {named : Bool} (h : inB n low high named = true) (hl : 0 ≤ low) (hh : 0 ≤ high) : 0 ≤ n ∧ n ≤ high := by
  unfold inB at h
  split at h <;> simp at h <;> omega
/-- What a right instruction's numbers may be. -/
theorem right_bd {t : In} (h : rightI t = true) : (0 ≤ t.d ∧ t.d ≤ 7) ∧ (0 ≤ t.s ∧ t.s ≤ 7) ∧ (0 ≤ t.n ∧ t.n ≤ 65535) := by
  unfold rightI at h
  simp only [Bool.and_eq_true] at h
  obtain ⟨⟨⟨hk, hd⟩, hs⟩, hn⟩ := h
  refine ⟨?_, ?_, ?_⟩
  · rcases sh_cases t.o with ⟨_, e⟩ | ⟨_, e⟩ | ⟨_, e⟩ | ⟨_, e⟩ | ⟨_, e⟩ | ⟨_, e⟩ | ⟨_, e⟩ | ⟨_, e⟩ | ⟨_, e⟩ | ⟨_, e⟩ <;> rw [e] at hd <;> simp [inB] at hd <;> omega
  · rcases sh_cases t.o with ⟨_, e⟩ | ⟨_, e⟩ | ⟨_, e⟩ | ⟨_, e⟩ | ⟨_, e⟩ | ⟨_, e⟩ | ⟨_, e⟩ | ⟨_, e⟩ | ⟨_, e⟩ | ⟨_, e⟩ <;> rw [e] at hs <;> simp [inB] at hs <;> omega
  · have hb := inB_le hn (by omega) (by split <;> omega)
    refine ⟨hb.1, ?_⟩
    have := hb.2
    split at this <;> omega
/-- What the statements ask of the list of a code's instructions. -/
structure Scan (bs : List Int) (ps : List (Nat × In)) (z : Nat) : Prop where
  chain : Chain bs 0 ps z
  ends : EndsAt bs z
theorem scan_ex (bs : List Int) (ho : Oct bs) (hl : bs.length ≤ 65536) : ∃ ps z, Scan bs ps z := by
  obtain ⟨ps, z, h1, h2⟩ := chain_ex bs ho hl bs.length 0 (by omega) (by omega)
  exact ⟨ps, z, h1, h2⟩
def codeS (bs : List Int) (z : Nat) : Int := if 4096 < bs.length then 3 else if bs.length = 0 then 110 else if z = bs.length then 0 else 110
def startsI (ps : List (Nat × In)) : List Int := ps.map fun p => (p.1 : Int)
def listS (bs : List Int) (ps : List (Nat × In)) (z : Nat) : List Int := if codeS bs z = 0 then startsI ps else []
def goesI (ps : List (Nat × In)) : List Int := (ps.filter fun p => decide (27 ≤ p.2.o)).map fun p => p.2.n
def goodI (post : Bool) (ps : List (Nat × In)) : Bool := ps.all fun p => post || p.2.o != 26
def lastI (ps : List (Nat × In)) : Int := match ps.getLast? with | none => 0 | some p => p.2.o
def endI (o : Int) : Bool := o == 0 || o == 29 || o == 30
def checkI (post : Bool) (ps : List (Nat × In)) : Bool := goodI post ps && (goesI ps).all (fun x => (startsI ps).contains x) && endI (lastI ps)
def codeC (bs : List Int) (ps : List (Nat × In)) (z : Nat) (post : Bool) : Int := if codeS bs z = 0 then (if checkI post ps then 0 else 110) else codeS bs z
theorem startsI_snoc (ps : List (Nat × In)) (p : Nat × In) : startsI (ps ++ [p]) = startsI ps ++ [(p.1 : Int)] := by simp [startsI]
theorem goesI_snoc (ps : List (Nat × In)) (p : Nat × In) : goesI (ps ++ [p]) = if 27 ≤ p.2.o then goesI ps ++ [p.2.n] else goesI ps := by
  unfold goesI
  by_cases h : 27 ≤ p.2.o <;> simp [List.filter_append, List.filter_cons, h]
theorem goodI_snoc (post : Bool) (ps : List (Nat × In)) (p : Nat × In) : goodI post (ps ++ [p]) = (goodI post ps && (post || p.2.o != 26)) := by simp [goodI]
theorem lastI_snoc (ps : List (Nat × In)) (p : Nat × In) : lastI (ps ++ [p]) = p.2.o := by simp [lastI]
theorem startsI_length (ps : List (Nat × In)) : (startsI ps).length = ps.length := by simp [startsI]
end Go.Proofs.Ytaiekpdoljleeaa
