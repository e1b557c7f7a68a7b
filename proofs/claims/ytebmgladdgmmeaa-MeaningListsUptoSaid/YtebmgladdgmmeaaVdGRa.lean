/- A program at work: plain. -/
import Derived.Test.YtebmgladdgmmeaaVdVaCk
import Derived.Test.YtebmgladdgmmeaaVdGPj
namespace Go.Proofs.Ytebmgladdgmmeaa
open Go.RowKit Go.WideShapes
set_option linter.unusedVariables false
set_option linter.unusedSimpArgs false
theorem chain_next {bs : List Int} : ∀ {ps : List (Nat × In)} {a z : Nat}, Chain bs a ps z → ∀ (k : Nat) (p : Nat × In), ps[k]? = some p → ∃ n : Nat, getI bs p.1 = (p.2, (n : Int), 0) ∧ Got bs p.1 p.2 n ∧ (k + 1 = ps.length ∨ ∃ q, ps[k + 1]? = some q ∧ q.1 = n)
  | [], a, z, h, k, p, hp => by simp at hp
  | q :: ps, a, z, h, k, p, hp => by
    obtain ⟨h0, hlt, n, h1, hg, hc⟩ := h
    rcases k with _ | k
    · simp at hp
      subst hp
      refine ⟨n, by rw [h0]; exact h1, by rw [h0]; exact hg, ?_⟩
      rcases ps with _ | ⟨q2, ps⟩
      · exact .inl rfl
      · exact .inr ⟨q2, rfl, hc.1⟩
    · obtain ⟨n2, h2, h3, h4⟩ := chain_next hc k p (by simpa using hp)
      exact ⟨n2, h2, h3, by simpa using h4⟩
theorem last_of {ps : List (Nat × In)} {k : Nat} {p : Nat × In} (h : ps[k]? = some p) (hk : k + 1 = ps.length) : lastI ps = p.2.o := by
  unfold lastI
  rw [List.getLast?_eq_getElem?, show ps.length - 1 = k by omega, h]
theorem starts_mem {ps : List (Nat × In)} {x : Int} (h : x ∈ startsI ps) : ∃ (k : Nat) (p : Nat × In), ps[k]? = some p ∧ (p.1 : Int) = x := by
  unfold startsI at h
  obtain ⟨p, hp, e⟩ := List.mem_map.1 h
  obtain ⟨k, hk⟩ := List.mem_iff_getElem?.1 hp
  exact ⟨k, p, hk, e⟩
theorem goes_mem {ps : List (Nat × In)} {k : Nat} {p : Nat × In} (h : ps[k]? = some p) (ho : 27 ≤ p.2.o) : p.2.n ∈ goesI ps :=
  List.mem_map.2 ⟨p, List.mem_filter.2 ⟨List.mem_iff_getElem?.2 ⟨k, h⟩, by simpa using ho⟩, rfl⟩
/-- Right code: its instructions. -/
structure IsOk (bs : List Int) (ps : List (Nat × In)) (z : Nat) (post : Bool) : Prop where
  scan : Scan bs ps z
  len : bs.length ≤ 4096
  pos : 0 < bs.length
  all : z = bs.length
  chk : checkI post ps = true
theorem isOk_of {bs : List Int} {ps : List (Nat × In)} {z : Nat} {post : Bool} (hs : Scan bs ps z) (h : codeC bs ps z post = 0) : IsOk bs ps z post := by
  unfold codeC at h
  by_cases h0 : codeS bs z = 0
  · rw [if_pos h0] at h
    have h1 : checkI post ps = true := by
      cases hc : checkI post ps with
      | true => rfl
      | false => rw [hc] at h; simp at h
    unfold codeS at h0
    split at h0
    · omega
    · split at h0
      · omega
      · split at h0
        · exact ⟨hs, by omega, by omega, by assumption, h1⟩
        · omega
  · rw [if_neg h0] at h
    exact absurd h h0
theorem IsOk.codeS {bs : List Int} {ps : List (Nat × In)} {z : Nat} {post : Bool} (h : IsOk bs ps z post) : codeS bs z = 0 := by
  unfold Go.Proofs.Ytebmgladdgmmeaa.codeS
  rw [if_neg (by have := h.len; omega), if_neg (by have := h.pos; omega), if_pos h.all]
/-- The place where the program stands is a start; what its instruction may lead to is one. -/
theorem IsOk.step {bs : List Int} {ps : List (Nat × In)} {z : Nat} {post : Bool} (h : IsOk bs ps z post) {k : Nat} {p : Nat × In} (hp : ps[k]? = some p) :
    ∃ n : Nat, getI bs p.1 = (p.2, (n : Int), 0) ∧ Got bs p.1 p.2 n ∧ (post || p.2.o != 26) = true ∧ (27 ≤ p.2.o → ∃ (j : Nat) (q : Nat × In), ps[j]? = some q ∧ (q.1 : Int) = p.2.n) ∧ (p.2.o ≠ 0 → p.2.o ≠ 29 → p.2.o ≠ 30 → ∃ (j : Nat) (q : Nat × In), ps[j]? = some q ∧ q.1 = n) := by
  obtain ⟨n, h1, h2, h3⟩ := chain_next h.scan.chain k p hp
  have hc := h.chk
  unfold checkI at hc
  simp only [Bool.and_eq_true] at hc
  refine ⟨n, h1, h2, ?_, fun h27 => ?_, fun a b c => ?_⟩
  · have := hc.1.1
    unfold goodI at this
    exact List.all_eq_true.1 this p (List.mem_iff_getElem?.2 ⟨k, hp⟩)
  · have := List.all_eq_true.1 hc.1.2 _ (goes_mem hp h27)
    exact starts_mem (by simpa using this)
  · rcases h3 with h3 | ⟨q, hq, e⟩
    · have := hc.2
      rw [last_of hp h3] at this
      unfold endI at this
      simp at this
      omega
    · exact ⟨_, q, hq, e⟩
def scanF (bs : List Int) : Nat → Nat → List (Nat × In) × Nat
  | 0, a => ([], a)
  | m + 1, a => if a < bs.length then (if (getI bs a).2.2 = 0 then ((a, (getI bs a).1) :: (scanF bs m (getI bs a).2.1.toNat).1, (scanF bs m (getI bs a).2.1.toNat).2) else ([], a)) else ([], a)
theorem scanF_ok (bs : List Int) (ho : Oct bs) (hl : bs.length ≤ 65536) : ∀ (m a : Nat), bs.length - a ≤ m → a ≤ bs.length → Chain bs a (scanF bs m a).1 (scanF bs m a).2 ∧ EndsAt bs (scanF bs m a).2
  | 0, a, h, ha => ⟨rfl, .inl (show a = bs.length by omega)⟩
  | m + 1, a, h, ha => by
    unfold scanF
    rcases Nat.lt_or_ge a bs.length with hlt | hge
    · rw [if_pos hlt]
      have hg := getI_nat bs a hlt hl
      rcases get_cases bs a ho hlt with (hc | hc) | ⟨p, e, hc, hgot⟩
      · rw [if_neg (by rw [hg, hc]; decide)]
        exact ⟨rfl, .inr ⟨hlt, 110, by omega, by omega, by omega, by rw [hg, hc]⟩⟩
      · rw [if_neg (by rw [hg, hc]; decide)]
        exact ⟨rfl, .inr ⟨hlt, 12, by omega, by omega, by omega, by rw [hg, hc]⟩⟩
      · have h1 := hgot.lo
        have h2 := hgot.hi
        rw [if_pos (by rw [hg, hc])]
        have e1 : (getI bs a).2.1.toNat = e := by rw [hg, hc]; rfl
        have e2 : (getI bs a).1 = p := by rw [hg, hc]
        rw [e1, e2]
        obtain ⟨h3, h4⟩ := scanF_ok bs ho hl m e (by omega) h2
        exact ⟨⟨rfl, hlt, e, by rw [hg, hc], hgot, h3⟩, h4⟩
    · rw [if_neg (by omega)]
      exact ⟨rfl, .inl (show a = bs.length by omega)⟩
def psF (bs : List Int) : List (Nat × In) := (scanF bs bs.length 0).1
def zF (bs : List Int) : Nat := (scanF bs bs.length 0).2
theorem scan_F (bs : List Int) (ho : Oct bs) (hl : bs.length ≤ 65536) : Scan bs (psF bs) (zF bs) := by
  obtain ⟨h1, h2⟩ := scanF_ok bs ho hl bs.length 0 (by omega) (by omega)
  exact ⟨h1, h2⟩
/-- What Check tells. -/
def chk (bs : List Int) (post : Bool) : Int := codeC bs (psF bs) (zF bs) post
theorem chk_any (bs : List Int) (A : Option Addr) (n c : Nat) (post : Bool) (w : World) (hn : n = bs.length) (ho : Oct bs) (hr : Rd w A (octs bs)) (hnm : n ≤ 9223372036854775807) :
    Calls Try.prog 30 #[.slice A n c, .bool post] w (Quiet (.int .i64 (chk bs post)) w) :=
  (check_any bs A n c (psF bs) (zF bs) post w hn ho hr hnm (fun h => scan_F bs ho (by omega))).mono fun _ _ h => ⟨h.1, h.2⟩
/-- Where a program stands. -/
structure Rp where
  at_ : Nat
  fuel : Int
  s : St
  out : List Int
def zS : St := ⟨zM, [], []⟩
/-- Does the instruction go elsewhere? -/
def goesB (o : Int) (f : Bool) : Bool := o == 29 || o == 30 || (o == 27 && f) || (o == 28 && !f)
/-- What an instruction at a place, with the place behind it, comes to: the end, or the next standing. -/
def stepI (i : In) (nx : Nat) (most : Int) (p : Rp) : (St × List Int × Int) ⊕ Rp :=
  if i.o = 0 then .inl (p.s, p.out, 0)
  else if i.o = 26 then (if most ≤ (p.out.length : Int) then .inl (zS, [], 112) else .inr ⟨nx, p.fuel, p.s, p.out ++ [p.s.m.a % 256]⟩)
  else if goesB i.o p.s.m.f = true then (if i.n ≤ (p.at_ : Int) then (if p.fuel < 1 then .inl (zS, [], 111) else .inr ⟨i.n.toNat, p.fuel - 1, p.s, p.out⟩) else .inr ⟨i.n.toNat, p.fuel, p.s, p.out⟩)
  else if i.o < 26 then .inr ⟨nx, p.fuel, doV i.o i.d i.s i.n p.s, p.out⟩
  else .inr ⟨nx, p.fuel, p.s, p.out⟩
def stepR (bs : List Int) (most : Int) (p : Rp) : (St × List Int × Int) ⊕ Rp := stepI (getI bs p.at_).1 (getI bs p.at_).2.1.toNat most p
inductive Runs (bs : List Int) (most : Int) : Rp → (St × List Int × Int) → Prop
  | done {p : Rp} {r : St × List Int × Int} : stepR bs most p = .inl r → Runs bs most p r
  | more {p q : Rp} {r : St × List Int × Int} : stepR bs most p = .inr q → Runs bs most q r → Runs bs most p r
theorem Runs.one {bs : List Int} {most : Int} {p : Rp} {r r' : St × List Int × Int} (h : Runs bs most p r) (h' : Runs bs most p r') : r = r' := by
  induction h with
  | done h =>
    cases h' with
    | done h2 => rw [h] at h2; injection h2
    | more h2 _ => rw [h] at h2; cases h2
  | more h _ ih =>
    cases h' with
    | done h2 => rw [h] at h2; cases h2
    | more h2 h3 => rw [h] at h2; injection h2 with e; subst e; exact ih h3
/-- What Run comes to. -/
def RunV (bs : List Int) (post : Bool) (s : St) (fuel most : Int) (r : St × List Int × Int) : Prop :=
  if chk bs post = 0 then (if rightM s.hs.length s.ms.length = true then Runs bs most ⟨0, fuel, s, []⟩ r else r = (zS, [], 2)) else r = (zS, [], chk bs post)
end Go.Proofs.Ytebmgladdgmmeaa
