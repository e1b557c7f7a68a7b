/- A []Thing argument, opened: a slice that reads as things. No condition. -/
import Derived.Test.YtbmhfefbfocelaaThing
import Derived.Deep.Slices
import Derived.Deep.Fields
namespace Go.Proofs.Ytbmhfefbfocelaa
open Go.RowKit Go.WideShapes Go.ChangeShapes Go.Deep
set_option linter.unusedVariables false
instance : Inhabited Th := ⟨⟨0, 0, ⟨#[]⟩⟩⟩
/-- An element of n one-cell fields, field by field. -/
theorem open_elem {H : Type} {enc : TypeId × Value → H} {P : Program} {w : World} {base : Nat} {spare : Nat → Bool} {held : Bool} {e : TypeId} {fs : Array Field} {n : Nat} {a : Addr} {cs : List Value} {x : DataW H × List MemPlace}
    (he : P.underlying e = some (.struct fs)) (hone : oneCellFields P fs = true) (hC : P.cellsOf e = fs.size) (h1 : w.cells? base a (P.cellsOf e) = some cs) (h2 : DataW.trod enc P w base spare held n e cs = some x) :
    ∀ (j : Nat) (f : Field), fs[j]? = some f → ∃ (v : Value) (m : Nat) (y : DataW H × List MemPlace), w.cell? (a.add j) = some v ∧ DataW.trod enc P w base spare held m f.type [v] = some y := by
  intro j f hj
  obtain ⟨xs, m, _, _, hlen, hxl, hf⟩ := DataW.trod_struct he h2
  obtain ⟨_, hcl, hat⟩ := World.cells?_some h1
  have hjl : j < fs.size := (Array.getElem?_eq_some_iff.1 hj).1
  obtain ⟨ho, hk⟩ := hone_of hone j f hj
  have h := hf j f hj
  rw [ho, hk] at h
  have hjc : j < cs.length := by omega
  have h3 : (cs.drop j).take 1 = [cs[j]] := by rw [List.drop_eq_getElem_cons hjc]; rfl
  rw [h3, List.getElem?_eq_getElem (by omega)] at h
  exact ⟨cs[j], m, _, by rw [hat j (by omega), List.getElem?_eq_getElem hjc], h⟩
theorem cells55 : Try.prog.cellsOf 55 = 3 := by kernel_rfl
theorem open_things {H : Type} {enc : TypeId × Value → H} {base : Nat} {d : DataW H} {ps : List MemPlace} {v : Value} {w : World} (hv : Value.okWide Try.prog w .any base 52 v) (hk : DataW.Trod enc Try.prog w 0 (fun _ => true) true 52 v d ps) :
    ∃ ts A c, v = .slice A (ts : List Th).length c ∧ (∀ t ∈ ts, t.ok) ∧ Rd w A (flat ts) ∧ ts.length ≤ c ∧ c ≤ maxLen := by
  obtain ⟨a, len, cap, rfl⟩ := okWide_slice Try.underlying52 hv
  obtain ⟨fuel, hf⟩ := hk
  rcases open_slice Try.underlying52 hf with ⟨hcs, _⟩ | ⟨x, l, c, m, n, D, Pl, hcs, _, hl, hm, hmm, _, hel⟩
  · simp [Value.cells] at hcs
    obtain ⟨rfl, rfl, rfl⟩ := hcs
    exact ⟨[], none, 0, rfl, (by intro t ht; cases ht), Rd.nil _ _, Nat.le_refl _, by simp [maxLen]⟩
  · simp [Value.cells] at hcs
    obtain ⟨rfl, rfl, rfl⟩ := hcs
    have hlm : len ≤ m := by simp at hmm; omega
    have hth : ∀ i, i < len → ∃ t : Th, t.ok ∧ ∀ j, j < 3 → w.cell? (x.add (i * 3 + j)) = t.cells[j]? := by
      intro i hi
      obtain ⟨cs, h1, h2⟩ := hel i (by omega)
      have hfld := open_elem Try.underlying55 (by kernel_rfl) (by kernel_rfl) h1 h2
      obtain ⟨v0, m0, y0, c0, t0⟩ := hfld 0 _ rfl
      obtain ⟨v1, m1, y1, c1, t1⟩ := hfld 1 _ rfl
      obtain ⟨v2, m2, y2, c2, t2⟩ := hfld 2 _ rfl
      obtain ⟨n0, e0, _, wf0⟩ := DataW.trod_int Try.underlying5 t0
      obtain ⟨n1, e1, _, wf1⟩ := DataW.trod_int Try.underlying32 t1
      obtain ⟨s2, e2, _, wf2⟩ := DataW.trod_string Try.underlying9 t2
      simp at e0 e1 e2
      subst e0 e1 e2
      rw [cells55] at c0 c1 c2
      rw [Go.Deep.add_add] at c0 c1 c2
      refine ⟨⟨n0, n1, s2⟩, ⟨(wf_u8 wf0).1, (wf_u8 wf0).2, (wf_u64 wf1).1, (wf_u64 wf1).2, wf2⟩, fun j hj => ?_⟩
      rcases (show j = 0 ∨ j = 1 ∨ j = 2 from by omega) with rfl | rfl | rfl
      · exact c0
      · exact c1
      · exact c2
    obtain ⟨f, hf⟩ := choose_lt hth
    refine ⟨(List.range len).map f, some x, cap, by simp, fun t ht => ?_, fun hn => ?_, by simpa using hl, hm⟩
    · obtain ⟨i, hi, rfl⟩ := List.mem_map.1 ht
      exact (hf i (List.mem_range.1 hi)).1
    · rw [flat_length] at hn
      simp at hn
      have h0 := (hf 0 (by omega)).2 0 (by omega)
      obtain ⟨b, off, spot⟩ := x
      have h0' : w.cell? (Addr.add ⟨b, off, spot⟩ 0) = some (.int .u8 (f 0).W) := h0
      have hspot : spot = none := by simpa [Addr.add] using World.cell?_spot h0'
      subst hspot
      refine ⟨b, off, rfl, block_lt_of_cell h0', fun q u hu => ?_⟩
      have hq : q < len * 3 := by
        have := (List.getElem?_eq_some_iff.1 hu).1
        rw [flat_length] at this
        simpa using this
      have hqi : q / 3 < len := by omega
      have hat := (hf (q / 3) hqi).2 (q % 3) (by omega)
      have hfl := flat_at ((List.range len).map f) (q / 3) (q % 3) (f (q / 3)) (by rw [List.getElem?_map, List.getElem?_range hqi]; rfl) (by omega)
      rw [show q / 3 * 3 + q % 3 = q by omega] at hat hfl
      rw [addr_add] at hat
      rw [hat, ← hfl, hu]
end Go.Proofs.Ytbmhfefbfocelaa
