/- IndexPlays: a script, opened. -/
import Derived.Test.YtjcaahilgobfhaaIxPy
import Derived.Deep.Slices
import Derived.Deep.Fields
import Derived.OpenShut
namespace Go.Proofs.Ytjcaahilgobfhaa
open Go.RowKit Go.WideShapes Go.ChangeShapes Go.Deep
set_option linter.unusedVariables false
set_option linter.unusedSimpArgs false
structure OpC where
  k : Int
  n : Int
  p : Pc
def OpC.cells (o : OpC) : List Value := .int .i64 o.k :: .int .i64 o.n :: o.p.cells
instance : Inhabited OpC := ⟨⟨0, 0, ⟨[], 0, 0, 0⟩⟩⟩
theorem cells53 : Try.prog.cellsOf 53 = 25 := by kernel_rfl
section
variable {H : Type} {enc : TypeId × Value → H} {w : World} {base : Nat} {spare : Nat → Bool} {held : Bool}
theorem open_hash {fuel : Nat} {cs : List Value} {x : DataW H × List MemPlace} (h : DataW.trod enc Try.prog w base spare held fuel 37 cs = some x) : ∃ l, IsHash l ∧ cs = hashV l := by
  obtain ⟨xs, m, _, _, hlen, hxl, hf⟩ := DataW.trod_array Try.underlying37 h
  rw [cells37] at hlen
  have hel : ∀ i, i < 20 → ∃ n : Int, (0 ≤ n ∧ n < 256) ∧ cs[i]? = some (.int .u8 n) := fun i hi => by
    have h1 := hf i hi
    rw [cells5, Nat.mul_one, List.getElem?_eq_getElem (by omega)] at h1
    obtain ⟨n, e, _, wf⟩ := DataW.trod_int Try.underlying5 h1
    have h2 : (cs.drop i).take 1 = [cs[i]] := by rw [List.drop_eq_getElem_cons (by omega)]; rfl
    rw [h2] at e
    injection e with e
    refine ⟨n, ?_, by rw [List.getElem?_eq_getElem (by omega), e]⟩
    simp [Lit.wf, IntKind.min, IntKind.max, IntKind.signed, IntKind.bits] at wf
    omega
  obtain ⟨f, hfn⟩ := choose_lt hel
  refine ⟨(List.range 20).map f, ⟨by simp, fun y hy => ?_⟩, ?_⟩
  · obtain ⟨i, hi, rfl⟩ := List.mem_map.1 hy
    have := (hfn i (List.mem_range.1 hi)).1
    omega
  · apply List.ext_getElem?
    intro i
    rcases Nat.lt_or_ge i 20 with hi | hi
    · rw [(hfn i hi).2]
      simp [hashV, List.getElem?_range hi]
    · rw [List.getElem?_eq_none (by omega), List.getElem?_eq_none (by rw [hashV_length]; simp; omega)]
theorem open_int1 {fuel : Nat} {cs : List Value} {x : DataW H × List MemPlace} (h : DataW.trod enc Try.prog w base spare held fuel 3 cs = some x) : ∃ n : Int, cs = [.int .i64 n] := by
  obtain ⟨n, e, _, _⟩ := DataW.trod_int Try.underlying3 h
  exact ⟨n, e⟩
theorem open_piece {fuel : Nat} {cs : List Value} {x : DataW H × List MemPlace} (h : DataW.trod enc Try.prog w base spare held fuel 39 cs = some x) : ∃ p : Pc, p.ok ∧ cs = p.cells := by
  obtain ⟨xs, m, _, _, hlen, hxl, hf⟩ := DataW.trod_struct Try.underlying39 h
  rw [cells39] at hlen
  have hxl4 : xs.length = 4 := hxl
  have h0 : DataW.trod enc Try.prog w base spare held m 37 ((cs.drop 0).take (Try.prog.cellsOf 37)) = xs[0]? := hf 0 _ rfl
  have h1 : DataW.trod enc Try.prog w base spare held m 3 ((cs.drop 20).take (Try.prog.cellsOf 3)) = xs[1]? := hf 1 _ rfl
  have h2 : DataW.trod enc Try.prog w base spare held m 3 ((cs.drop 21).take (Try.prog.cellsOf 3)) = xs[2]? := hf 2 _ rfl
  have h3 : DataW.trod enc Try.prog w base spare held m 3 ((cs.drop 22).take (Try.prog.cellsOf 3)) = xs[3]? := hf 3 _ rfl
  rw [cells37] at h0
  rw [cells3] at h1 h2 h3
  rw [List.getElem?_eq_getElem (by omega)] at h0 h1 h2 h3
  obtain ⟨l, hl, e0⟩ := open_hash h0
  obtain ⟨s, e1⟩ := open_int1 h1
  obtain ⟨b, e2⟩ := open_int1 h2
  obtain ⟨a, e3⟩ := open_int1 h3
  refine ⟨⟨l, s, b, a⟩, ⟨hl⟩, ?_⟩
  unfold Pc.cells
  simp only
  rw [← e0, show [Value.int .i64 s, .int .i64 b, .int .i64 a] = [.int .i64 s] ++ ([.int .i64 b] ++ [.int .i64 a]) from rfl, ← e1, ← e2, ← e3, List.drop_zero]
  have t3 : (cs.drop 22).take 1 = cs.drop 22 := List.take_of_length_le (by rw [List.length_drop]; omega)
  have t2 : (cs.drop 21).take 1 ++ cs.drop 22 = cs.drop 21 := by
    have := List.take_append_drop 1 (cs.drop 21)
    rw [List.drop_drop] at this
    exact this
  have t1 : (cs.drop 20).take 1 ++ cs.drop 21 = cs.drop 20 := by
    have := List.take_append_drop 1 (cs.drop 20)
    rw [List.drop_drop] at this
    exact this
  rw [t3, t2, t1, List.take_append_drop]
theorem open_op {fuel : Nat} {cs : List Value} {x : DataW H × List MemPlace} (h : DataW.trod enc Try.prog w base spare held fuel 53 cs = some x) : ∃ o : OpC, o.p.ok ∧ cs = o.cells := by
  obtain ⟨xs, m, _, _, hlen, hxl, hf⟩ := DataW.trod_struct Try.underlying53 h
  rw [cells53] at hlen
  have hxl3 : xs.length = 3 := hxl
  have h0 : DataW.trod enc Try.prog w base spare held m 3 ((cs.drop 0).take (Try.prog.cellsOf 3)) = xs[0]? := hf 0 _ rfl
  have h1 : DataW.trod enc Try.prog w base spare held m 3 ((cs.drop 1).take (Try.prog.cellsOf 3)) = xs[1]? := hf 1 _ rfl
  have h2 : DataW.trod enc Try.prog w base spare held m 39 ((cs.drop 2).take (Try.prog.cellsOf 39)) = xs[2]? := hf 2 _ rfl
  rw [cells3] at h0 h1
  rw [cells39] at h2
  rw [List.getElem?_eq_getElem (by omega)] at h0 h1 h2
  obtain ⟨k, e0⟩ := open_int1 h0
  obtain ⟨n, e1⟩ := open_int1 h1
  obtain ⟨p, hp, e2⟩ := open_piece h2
  refine ⟨⟨k, n, p⟩, hp, ?_⟩
  unfold OpC.cells
  simp only
  rw [show Value.int .i64 k :: .int .i64 n :: p.cells = [.int .i64 k] ++ ([.int .i64 n] ++ p.cells) from rfl, ← e0, ← e1, ← e2, List.drop_zero]
  have t3 : (cs.drop 2).take 23 = cs.drop 2 := List.take_of_length_le (by rw [List.length_drop]; omega)
  have t1 : (cs.drop 1).take 1 ++ cs.drop 2 = cs.drop 1 := by
    have := List.take_append_drop 1 (cs.drop 1)
    rw [List.drop_drop] at this
    exact this
  rw [t3, t1, List.take_append_drop]
end
theorem open_script {H : Type} {enc : TypeId × Value → H} {base : Nat} {d : DataW H} {ps : List MemPlace} {v : Value} {w : World} (hv : Value.okWide Try.prog w .any base 51 v) (hk : DataW.Trod enc Try.prog w 0 (fun _ => true) true 51 v d ps) :
    ∃ (os : List OpC) (A : Option Addr) (c : Nat), v = .slice A os.length c ∧ (∀ o ∈ os, o.p.ok) ∧ (∀ i o, os[i]? = some o → ∃ b off, A = some ⟨b, off, none⟩ ∧ b < w.heap.size ∧ w.rangeAt b (off + i * 25) o.cells) ∧ os.length ≤ c ∧ c ≤ maxLen := by
  obtain ⟨a, len, cap, rfl⟩ := okWide_slice Try.underlying51 hv
  obtain ⟨fuel, hf⟩ := hk
  rcases open_slice Try.underlying51 hf with ⟨hcs, _⟩ | ⟨x, l, c, m, n, D, Pl, hcs, _, hl, hm, hmm, _, hel⟩
  · simp [Value.cells] at hcs
    obtain ⟨rfl, rfl, rfl⟩ := hcs
    exact ⟨[], none, 0, rfl, (by intro t ht; cases ht), (by intro i o h; simp at h), Nat.le_refl _, by simp [maxLen]⟩
  · simp [Value.cells] at hcs
    obtain ⟨rfl, rfl, rfl⟩ := hcs
    have hlm : len ≤ m := by simp at hmm; omega
    have hth : ∀ i, i < len → ∃ o : OpC, o.p.ok ∧ ∀ j y, o.cells[j]? = some y → w.cell? (x.add (i * 25 + j)) = some y := by
      intro i hi
      obtain ⟨cs, h1, h2⟩ := hel i (by omega)
      rw [cells53] at h1
      obtain ⟨o, ho, rfl⟩ := open_op h2
      refine ⟨o, ho, fun j y hy => ?_⟩
      obtain ⟨_, hcl, hat⟩ := World.cells?_some h1
      have hj : j < o.cells.length := (List.getElem?_eq_some_iff.1 hy).1
      have := hat j (by omega)
      rw [Go.Deep.add_add] at this
      rw [this, hy]
    obtain ⟨f, hf⟩ := choose_lt hth
    refine ⟨(List.range len).map f, some x, cap, by simp, fun t ht => ?_, fun i o ho => ?_, by simpa using hl, hm⟩
    · obtain ⟨i, hi, rfl⟩ := List.mem_map.1 ht
      exact (hf i (List.mem_range.1 hi)).1
    · have hi : i < len := by
        have := (List.getElem?_eq_some_iff.1 ho).1
        simpa using this
      rw [List.getElem?_map, List.getElem?_range hi] at ho
      injection ho with ho
      subst ho
      obtain ⟨b, off, spot⟩ := x
      have h0 : w.cell? (Addr.add ⟨b, off, spot⟩ 0) = some (.int .i64 (f 0).k) := (hf 0 (by omega)).2 0 _ rfl
      have hspot : spot = none := by simpa [Addr.add] using World.cell?_spot h0
      subst hspot
      refine ⟨b, off, rfl, block_lt_of_cell h0, fun j y hy => ?_⟩
      have := (hf i hi).2 j y hy
      rw [addr_add] at this
      rw [Nat.add_assoc]
      exact this
end Go.Proofs.Ytjcaahilgobfhaa
