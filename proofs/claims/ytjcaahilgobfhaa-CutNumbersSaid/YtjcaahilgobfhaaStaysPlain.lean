/- The plain law of CutStays: fragments are all of the bytes, none too long, none too short but the last; what stands behind a cut is cut as if alone; what is put behind changes the last alone. No condition. -/
import Derived.Test.YtjcaahilgobfhaaCutTellsLaw
namespace Go.Proofs.Ytjcaahilgobfhaa
set_option linter.unusedVariables false
def fr (i : Nat) (l : List Nat) (k : Nat) : Nat := (i :: l).getD k 0
theorem cut_step {bs : List Int} : ∀ {i : Nat} {l : List Nat}, Cut bs i l → ∀ k, k < l.length → ∃ n, l.getD k 0 = fr i l k + n ∧ 0 < n ∧ n ≤ 4096 ∧ (n < 64 → k + 1 = l.length) ∧ Cut bs (l.getD k 0) (l.drop (k + 1)) ∧ l.getD k 0 ≤ bs.length := by
  intro i l h
  induction h with
  | done _ => intro k hk; simp at hk
  | @more i n l hi hn hc ih =>
    intro k hk
    have hp := hn.pos (by simp; omega)
    have hle := hn.le
    rw [List.length_drop] at hle
    rcases k with _ | k
    · refine ⟨n, by simp [fr], hp, hn.most, fun h64 => ?_, by simpa using hc, by simp; omega⟩
      rcases hn.stop with e | e | e
      · have : bs.length ≤ i + n := by rw [List.length_drop] at e; omega
        cases hc with
        | done _ => rfl
        | more h _ _ => omega
      · omega
      · have := e.1; omega
    · obtain ⟨m, h1, h2, h3, h4, h5, h6⟩ := ih k (by simpa using hk)
      refine ⟨m, ?_, h2, h3, fun h => by have := h4 h; simp; omega, by simpa using h5, by simpa using h6⟩
      simp only [fr] at h1 ⊢
      simpa using h1
theorem cut_last {bs : List Int} {i : Nat} {l : List Nat} (h : Cut bs i l) (hi : i ≤ bs.length) : fr i l l.length = bs.length := by
  induction h with
  | done h0 => simp [fr]; omega
  | @more i n l h0 hn hc ih =>
    have hle := hn.le
    rw [List.length_drop] at hle
    have := ih (by omega)
    simpa [fr] using this
theorem cut_stable {bs more : List Int} : ∀ {i : Nat} {l : List Nat}, Cut bs i l → ∀ {all : List Nat}, Cut (bs ++ more) i all → ∀ k, k + 1 < l.length → k < all.length ∧ all.getD k 0 = l.getD k 0 := by
  intro i l h
  induction h with
  | done _ => intro all _ k hk; simp at hk
  | @more i n l hi hn hc ih =>
    intro all ha k hk
    cases hc with
    | done _ => simp at hk
    | @more _ m l' hi' hn' hc' =>
      have hN : IsNext ((bs ++ more).drop i) n := by
        have hle := hn.le
        rw [List.length_drop] at hle
        have hs : ∀ j, j ≤ n → scanS ((bs ++ more).drop i) j = scanS (bs.drop i) j := fun j hj => scan_congr j fun x hx => by
          rw [List.getD_eq_getElem?_getD, List.getD_eq_getElem?_getD, List.getElem?_drop, List.getElem?_drop, List.getElem?_append_left (by omega)]
        refine ⟨by rw [List.length_drop, List.length_append]; omega, hn.most, fun _ => hn.pos (by simp; omega), fun j h0 hj hl => hn.no j h0 hj ⟨hl.1, by rw [← hs j (by omega)]; exact hl.2⟩, ?_⟩
        rcases hn.stop with e | e | e
        · rw [List.length_drop] at e; omega
        · exact .inr (.inl e)
        · exact .inr (.inr ⟨e.1, by rw [hs n (Nat.le_refl _)]; exact e.2⟩)
      cases ha with
      | done h => rw [List.length_append] at h; omega
      | @more _ n2 all' _ hn2 hc2 =>
        obtain rfl := hN.uniq hn2
        rcases k with _ | k
        · simp
        · have := ih hc2 k (by simpa using hk)
          simpa using this
theorem cut_shift {bs : List Int} {p : Nat} : ∀ {j : Nat} {al : List Nat}, Cut (bs.drop p) j al → Cut bs (p + j) (al.map (p + ·)) := by
  intro j al h
  induction h with
  | done h0 => exact .done (by rw [List.length_drop] at h0; omega)
  | @more j n l h0 hn _ ih =>
    rw [List.length_drop] at h0
    rw [List.drop_drop] at hn
    have := Cut.more (bs := bs) (i := p + j) (n := n) (by omega) hn (by rw [Nat.add_assoc]; exact ih)
    rw [List.map_cons]
    rwa [Nat.add_assoc] at this
theorem cut_alone {bs : List Int} {l al : List Nat} (h : Cut bs 0 l) (i : Nat) (hi : i < l.length) (ha : Cut (bs.drop (l.getD i 0)) 0 al) : l.length = al.length + i + 1 ∧ ∀ k, k < al.length → al.getD k 0 + l.getD i 0 = l.getD (i + 1 + k) 0 := by
  obtain ⟨n, _, _, _, _, hc, _⟩ := cut_step h i hi
  have e := (cut_shift ha).uniq (by rw [Nat.add_zero]; exact hc)
  have el : al.length = l.length - (i + 1) := by
    have := congrArg List.length e
    simpa using this
  refine ⟨by omega, fun k hk => ?_⟩
  have := congrArg (fun x => x.getD k 0) e
  simp only [List.getD_eq_getElem?_getD, List.getElem?_map, List.getElem?_drop, List.getElem?_eq_getElem hk] at this
  rw [List.getD_eq_getElem?_getD, List.getD_eq_getElem?_getD (i := i + 1 + k), ← this, List.getElem?_eq_getElem hk]
  simp
  omega
end Go.Proofs.Ytjcaahilgobfhaa
