/- A []Bit argument, opened: a slice that reads as bits with chances. No condition. -/
import Derived.Test.YtbjbpbblalcpkaaDear
import Derived.OpenShut
import Derived.ChangeSlices
import Derived.Deep.Slices
import Derived.Deep.Fields
namespace Go.Proofs.Ytbjbpbblalcpkaa
open Go.RowKit Go.WideShapes Go.ChangeShapes Go.Deep
set_option linter.unusedVariables false
structure Bt where
  b : Int
  p : Int
structure Bt.ok (t : Bt) : Prop where
  b0 : -9223372036854775808 ≤ t.b
  b1 : t.b ≤ 9223372036854775807
  p0 : -9223372036854775808 ≤ t.p
  p1 : t.p ≤ 9223372036854775807
def Bt.cells (t : Bt) : List Value := [.int .i64 t.b, .int .i64 t.p]
instance : Inhabited Bt := ⟨⟨0, 0⟩⟩
def flat (l : List Bt) : List Value := l.flatMap Bt.cells
theorem flat_length : ∀ l : List Bt, (flat l).length = l.length * 2
  | [] => rfl
  | t :: l => by
    have : flat (t :: l) = t.cells ++ flat l := rfl
    rw [this, List.length_append, flat_length l, List.length_cons]
    show 2 + _ = _
    omega
theorem flat_at : ∀ (l : List Bt) (k j : Nat) (t : Bt), l[k]? = some t → j < 2 → (flat l)[k * 2 + j]? = t.cells[j]?
  | [], k, j, t, h, _ => by simp at h
  | u :: l, 0, j, t, h, hj => by
    have : flat (u :: l) = u.cells ++ flat l := rfl
    simp at h
    subst h
    rw [this, Nat.zero_mul, Nat.zero_add, List.getElem?_append_left (by show j < 2; omega)]
  | u :: l, k + 1, j, t, h, hj => by
    have : flat (u :: l) = u.cells ++ flat l := rfl
    rw [this, List.getElem?_append_right (by show 2 ≤ _; omega)]
    have e : (k + 1) * 2 + j - u.cells.length = k * 2 + j := by show (k + 1) * 2 + j - 2 = _; omega
    rw [e]
    exact flat_at l k j t (by simpa using h) hj
/-- An element of n one-cell fields, field by field. -/
theorem open_elem {H : Type} {enc : TypeId × Value → H} {P : Program} {w : World} {base : Nat} {spare : Nat → Bool} {held : Bool} {e : TypeId} {fs : Array Field} {n : Nat} {a : Addr} {cs : List Value} {x : DataW H × List MemPlace}
    (he : P.underlying e = some (.struct fs)) (hone : oneCellFields P fs = true) (hC : P.cellsOf e = fs.size) (h1 : w.cells? base a (P.cellsOf e) = some cs) (h2 : DataW.trod enc P w base spare held n e cs = some x) :
    ∀ (j : Nat) (f : Field), fs[j]? = some f → ∃ (v : Value) (m : Nat) (y : DataW H × List MemPlace), w.cell? (a.add j) = some v ∧ DataW.trod enc P w base spare held m f.type [v] = some y := by
  intro j f hj
  obtain ⟨xs, m, _, _, hlen, hxl, hf⟩ := DataW.trod_struct he h2
  obtain ⟨_, hcl, hat⟩ := World.cells?_some h1
  have hjl : j < fs.size := (Array.getElem?_eq_some_iff.1 hj).1
  obtain ⟨ho, hk⟩ := hone_of hone j f hj
  have h := hf j f hj
  rw [ho, hk] at h
  have hjc : j < cs.length := by omega
  have h3 : (cs.drop j).take 1 = [cs[j]] := by rw [List.drop_eq_getElem_cons hjc]; rfl
  rw [h3, List.getElem?_eq_getElem (by omega)] at h
  exact ⟨cs[j], m, _, by rw [hat j (by omega), List.getElem?_eq_getElem hjc], h⟩
theorem cells36 : Try.prog.cellsOf 36 = 2 := by kernel_rfl
theorem open_bits {H : Type} {enc : TypeId × Value → H} {base : Nat} {d : DataW H} {ps : List MemPlace} {v : Value} {w : World} (hv : Value.okWide Try.prog w .any base 22 v) (hk : DataW.Trod enc Try.prog w 0 (fun _ => true) true 22 v d ps) :
    ∃ ts A c, v = .slice A (ts : List Bt).length c ∧ (∀ t ∈ ts, t.ok) ∧ Rd w A (flat ts) ∧ ts.length ≤ c ∧ c ≤ maxLen := by
  obtain ⟨a, len, cap, rfl⟩ := okWide_slice Try.underlying22 hv
  obtain ⟨fuel, hf⟩ := hk
  rcases open_slice Try.underlying22 hf with ⟨hcs, _⟩ | ⟨x, l, c, m, n, D, Pl, hcs, _, hl, hm, hmm, _, hel⟩
  · simp [Value.cells] at hcs
    obtain ⟨rfl, rfl, rfl⟩ := hcs
    exact ⟨[], none, 0, rfl, (by intro t ht; cases ht), Rd.nil _ _, Nat.le_refl _, by simp [maxLen]⟩
  · simp [Value.cells] at hcs
    obtain ⟨rfl, rfl, rfl⟩ := hcs
    have hlm : len ≤ m := by simp at hmm; omega
    have hth : ∀ i, i < len → ∃ t : Bt, t.ok ∧ ∀ j, j < 2 → w.cell? (x.add (i * 2 + j)) = t.cells[j]? := by
      intro i hi
      obtain ⟨cs, h1, h2⟩ := hel i (by omega)
      have hfld := open_elem Try.underlying36 (by kernel_rfl) (by kernel_rfl) h1 h2
      obtain ⟨v0, m0, y0, c0, t0⟩ := hfld 0 _ rfl
      obtain ⟨v1, m1, y1, c1, t1⟩ := hfld 1 _ rfl
      obtain ⟨n0, e0, _, wf0⟩ := DataW.trod_int Try.underlying3 t0
      obtain ⟨n1, e1, _, wf1⟩ := DataW.trod_int Try.underlying3 t1
      simp at e0 e1
      subst e0 e1
      rw [cells36] at c0 c1
      rw [Go.Deep.add_add] at c0 c1
      refine ⟨⟨n0, n1⟩, ⟨(wf_i64 wf0).1, (wf_i64 wf0).2, (wf_i64 wf1).1, (wf_i64 wf1).2⟩, fun j hj => ?_⟩
      rcases (show j = 0 ∨ j = 1 from by omega) with rfl | rfl
      · exact c0
      · exact c1
    obtain ⟨f, hf⟩ := choose_lt hth
    refine ⟨(List.range len).map f, some x, cap, by simp, fun t ht => ?_, fun hn => ?_, by simpa using hl, hm⟩
    · obtain ⟨i, hi, rfl⟩ := List.mem_map.1 ht
      exact (hf i (List.mem_range.1 hi)).1
    · rw [flat_length] at hn
      simp at hn
      have h0 := (hf 0 (by omega)).2 0 (by omega)
      obtain ⟨b, off, spot⟩ := x
      have h0' : w.cell? (Addr.add ⟨b, off, spot⟩ 0) = some (.int .i64 (f 0).b) := h0
      have hspot : spot = none := by simpa [Addr.add] using World.cell?_spot h0'
      subst hspot
      refine ⟨b, off, rfl, block_lt_of_cell h0', fun q u hu => ?_⟩
      have hq : q < len * 2 := by
        have := (List.getElem?_eq_some_iff.1 hu).1
        rw [flat_length] at this
        simpa using this
      have hqi : q / 2 < len := by omega
      have hat := (hf (q / 2) hqi).2 (q % 2) (by omega)
      have hfl := flat_at ((List.range len).map f) (q / 2) (q % 2) (f (q / 2)) (by rw [List.getElem?_map, List.getElem?_range hqi]; rfl) (by omega)
      rw [show q / 2 * 2 + q % 2 = q by omega] at hat hfl
      rw [addr_add] at hat
      rw [hat, ← hfl, hu]
end Go.Proofs.Ytbjbpbblalcpkaa
