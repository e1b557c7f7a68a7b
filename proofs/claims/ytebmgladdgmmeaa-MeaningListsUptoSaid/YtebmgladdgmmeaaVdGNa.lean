/- Making a machine: the steps. Plain. -/
import Derived.Test.YtebmgladdgmmeaaVdGPj
import Derived.Laws.Tables
import Derived.Laws.OwnMore
namespace Go.Proofs.Ytebmgladdgmmeaa
open Go.RowKit Go.WideShapes
set_option linter.unusedVariables false
theorem built50 (g g' n c n' c' : Nat) : Try.prog.built 50 [(6, .slice (some ⟨g, 0, none⟩) n c), (7, .slice (some ⟨g', 0, none⟩) n' c')] = some (zM.cells (.slice (some ⟨g, 0, none⟩) n c) (.slice (some ⟨g', 0, none⟩) n' c')) := by
  kernel_rfl
theorem built50z : Try.prog.built 50 [] = some (zM.cells (.slice none 0 0) (.slice none 0 0)) := by
  kernel_rfl
/-- The making of a slice of noughts of one cell each, as a step. -/
theorem wp_makeN {t e : TypeId} {z : Value} {bytes : Nat} (T : SlT Try.prog t e z bytes) {o : Oper} {a : Act} {w : World} {K : Act → World → Prop} {Q : Exit → Act → World → Prop} (x y : Operand) (ho : o.op = .makeSlice t x y) (n : Nat) (hx : a.eval x = .int .i64 (n : Int)) (hy : a.eval y = .int .i64 (n : Int)) (hz : z.cells = #[z]) (hb : bytes * n ≤ 281474976710656) (hn : n ≤ 9223372036854775807)
    (h : K (a.put o.dst (.slice (some ⟨w.heap.size, 0, none⟩) n n)) (w.alloc (.cells (List.replicate n z).toArray e))) : o.wp Try.prog a w K Q := by
  obtain ⟨ht, hi, hone⟩ := T
  cases hq : Try.prog.info? e with
  | none => simp [hq] at hi
  | some i =>
    simp [hq] at hi
    obtain ⟨i1, i2, i3⟩ := hi
    have hb' : (i.bytes : Int) * (n : Int) ≤ 281474976710656 := by
      rw [i3]
      have h : ((bytes * n : Nat) : Int) ≤ 281474976710656 := by omega
      rwa [Int.natCast_mul] at h
    have hr := run_make (P := Try.prog) w t e i z ht hq i1 .i64 .i64 n n (by omega) (Int.le_refl _) hb' (by omega)
    simp only [Int.toNat_natCast, i2, Nat.mul_one, hz] at hr
    have hm : madeCells #[z] n = (List.replicate n z).toArray := by rw [← toList_madeCells_one z n]
    rw [hm] at hr
    unfold Oper.wp execOp
    simp only [ho, hx, hy, hr, Sem.run_bind, Sem.run_pure, Result.andThen_ok]
    exact h
end Go.Proofs.Ytebmgladdgmmeaa
