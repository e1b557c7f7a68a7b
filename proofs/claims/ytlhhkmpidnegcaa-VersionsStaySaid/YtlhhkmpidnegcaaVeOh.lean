/- A hash, a number, a piece, opened. Plain. -/
import Derived.Test.YtlhhkmpidnegcaaVeAk
import Derived.Deep.Slices
import Derived.Deep.Fields
import Derived.Deep.Grids
import Derived.OpenShut
import Derived.ChangeArms
namespace Go.Proofs.Ytlhhkmpidnegcaa
open Go.RowKit Go.WideShapes Go.ChangeShapes Go.Deep
set_option linter.unusedVariables false
set_option linter.unusedSimpArgs false
set_option maxRecDepth 100000
theorem cells39 : Try.prog.cellsOf 52 = 23 := by kernel_rfl
theorem cells3 : Try.prog.cellsOf 3 = 1 := by kernel_rfl
section
variable {H : Type} {enc : TypeId × Value → H} {w : World} {base : Nat} {spare : Nat → Bool} {held : Bool}
theorem open_hash {fuel : Nat} {cs : List Value} {x : DataW H × List MemPlace} (h : DataW.trod enc Try.prog w base spare held fuel 50 cs = some x) : ∃ l, IsHash l ∧ cs = hashV l := by
  obtain ⟨xs, m, _, _, hlen, hxl, hf⟩ := DataW.trod_array Try.underlying50 h
  rw [cells37] at hlen
  have hel : ∀ i, i < 20 → ∃ n : Int, (0 ≤ n ∧ n < 256) ∧ cs[i]? = some (.int .u8 n) := fun i hi => by
    have h1 := hf i hi
    rw [cells5, Nat.mul_one, List.getElem?_eq_getElem (by omega)] at h1
    obtain ⟨n, e, _, wf⟩ := DataW.trod_int Try.underlying5 h1
    have h2 : (cs.drop i).take 1 = [cs[i]] := by rw [List.drop_eq_getElem_cons (by omega)]; rfl
    rw [h2] at e
    injection e with e
    refine ⟨n, ?_, by rw [List.getElem?_eq_getElem (by omega), e]⟩
    simp [Lit.wf, IntKind.min, IntKind.max, IntKind.signed, IntKind.bits] at wf
    omega
  obtain ⟨f, hfn⟩ := choose_lt hel
  refine ⟨(List.range 20).map f, ⟨by simp, fun y hy => ?_⟩, ?_⟩
  · obtain ⟨i, hi, rfl⟩ := List.mem_map.1 hy
    have := (hfn i (List.mem_range.1 hi)).1
    omega
  · apply List.ext_getElem?
    intro i
    rcases Nat.lt_or_ge i 20 with hi | hi
    · rw [(hfn i hi).2]
      simp [hashV, List.getElem?_range hi]
    · rw [List.getElem?_eq_none (by omega), List.getElem?_eq_none (by rw [hashV_length]; simp; omega)]
end
section
variable {H : Type} {enc : TypeId × Value → H} {w : World} {base : Nat} {spare : Nat → Bool} {held : Bool}
theorem open_int1 {fuel : Nat} {cs : List Value} {x : DataW H × List MemPlace} (h : DataW.trod enc Try.prog w base spare held fuel 3 cs = some x) : ∃ n : Int, cs = [.int .i64 n] := by
  obtain ⟨n, e, _, _⟩ := DataW.trod_int Try.underlying3 h
  exact ⟨n, e⟩
end
section
variable {H : Type} {enc : TypeId × Value → H} {w : World} {base : Nat} {spare : Nat → Bool} {held : Bool}
theorem open_piece {fuel : Nat} {cs : List Value} {x : DataW H × List MemPlace} (h : DataW.trod enc Try.prog w base spare held fuel 52 cs = some x) : ∃ p : Pc, p.ok ∧ cs = p.cells := by
  obtain ⟨xs, m, _, _, hlen, hxl, hf⟩ := DataW.trod_struct Try.underlying52 h
  rw [cells39] at hlen
  have hxl4 : xs.length = 4 := hxl
  have h0 : DataW.trod enc Try.prog w base spare held m 50 ((cs.drop 0).take (Try.prog.cellsOf 50)) = xs[0]? := hf 0 _ rfl
  have h1 : DataW.trod enc Try.prog w base spare held m 3 ((cs.drop 20).take (Try.prog.cellsOf 3)) = xs[1]? := hf 1 _ rfl
  have h2 : DataW.trod enc Try.prog w base spare held m 3 ((cs.drop 21).take (Try.prog.cellsOf 3)) = xs[2]? := hf 2 _ rfl
  have h3 : DataW.trod enc Try.prog w base spare held m 3 ((cs.drop 22).take (Try.prog.cellsOf 3)) = xs[3]? := hf 3 _ rfl
  rw [cells37] at h0
  rw [cells3] at h1 h2 h3
  rw [List.getElem?_eq_getElem (by omega)] at h0 h1 h2 h3
  obtain ⟨l, hl, e0⟩ := open_hash h0
  obtain ⟨s, e1⟩ := open_int1 h1
  obtain ⟨b, e2⟩ := open_int1 h2
  obtain ⟨a, e3⟩ := open_int1 h3
  refine ⟨⟨l, s, b, a⟩, ⟨hl⟩, ?_⟩
  unfold Pc.cells
  simp only
  rw [← e0, show [Value.int .i64 s, .int .i64 b, .int .i64 a] = [.int .i64 s] ++ ([.int .i64 b] ++ [.int .i64 a]) from rfl, ← e1, ← e2, ← e3, List.drop_zero]
  have t3 : (cs.drop 22).take 1 = cs.drop 22 := List.take_of_length_le (by rw [List.length_drop]; omega)
  have t2 : (cs.drop 21).take 1 ++ cs.drop 22 = cs.drop 21 := by
    have := List.take_append_drop 1 (cs.drop 21)
    rw [List.drop_drop] at this
    exact this
  have t1 : (cs.drop 20).take 1 ++ cs.drop 21 = cs.drop 20 := by
    have := List.take_append_drop 1 (cs.drop 20)
    rw [List.drop_drop] at this
    exact this
  rw [t3, t2, t1, List.take_append_drop]
end
end Go.Proofs.Ytlhhkmpidnegcaa
