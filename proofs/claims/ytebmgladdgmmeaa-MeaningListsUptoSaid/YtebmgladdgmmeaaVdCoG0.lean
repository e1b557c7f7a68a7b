/- Stores of seven and of four cells; a byte with its sign: plain. -/
import Derived.Test.YtebmgladdgmmeaaVdCoPu
import Derived.Deep.RegionHeld3
import Derived.IntWalk
namespace Go.Proofs.Ytebmgladdgmmeaa
open Go.RowKit Go.WideShapes
set_option linter.unusedVariables false
set_option linter.unusedSimpArgs false
theorem st7 {w0 w : World} {B g : Nat} {t : TypeId} {u0 u1 u2 u3 u4 u5 u6 : Value} (v0 v1 v2 v3 v4 v5 v6 : Value) (h : Blk w g t #[u0, u1, u2, u3, u4, u5, u6]) (hb : Below B w0 w) (hg : B ≤ g) :
    Blk (((((((w.setCell ⟨g, 0, none⟩ v0).setCell ⟨g, 1, none⟩ v1).setCell ⟨g, 2, none⟩ v2).setCell ⟨g, 3, none⟩ v3).setCell ⟨g, 4, none⟩ v4).setCell ⟨g, 5, none⟩ v5).setCell ⟨g, 6, none⟩ v6) g t #[v0, v1, v2, v3, v4, v5, v6] ∧
    Below B w0 (((((((w.setCell ⟨g, 0, none⟩ v0).setCell ⟨g, 1, none⟩ v1).setCell ⟨g, 2, none⟩ v2).setCell ⟨g, 3, none⟩ v3).setCell ⟨g, 4, none⟩ v4).setCell ⟨g, 5, none⟩ v5).setCell ⟨g, 6, none⟩ v6) ∧
    ∀ (g' : Nat) (t' : TypeId) (cs' : Array Value), g' ≠ g → Blk w g' t' cs' → Blk (((((((w.setCell ⟨g, 0, none⟩ v0).setCell ⟨g, 1, none⟩ v1).setCell ⟨g, 2, none⟩ v2).setCell ⟨g, 3, none⟩ v3).setCell ⟨g, 4, none⟩ v4).setCell ⟨g, 5, none⟩ v5).setCell ⟨g, 6, none⟩ v6) g' t' cs' := by
  refine ⟨?_, ?_, fun g' t' cs' hn hb' => ?_⟩
  · simpa using ((((((h.set 0 v0).set 1 v1).set 2 v2).set 3 v3).set 4 v4).set 5 v5).set 6 v6
  · exact ((((((hb.setCell (p := ⟨g, 0, none⟩) hg v0).setCell (p := ⟨g, 1, none⟩) hg v1).setCell (p := ⟨g, 2, none⟩) hg v2).setCell (p := ⟨g, 3, none⟩) hg v3).setCell (p := ⟨g, 4, none⟩) hg v4).setCell (p := ⟨g, 5, none⟩) hg v5).setCell (p := ⟨g, 6, none⟩) hg v6
  · exact ((((((hb'.far (p := ⟨g, 0, none⟩) hn v0).far (p := ⟨g, 1, none⟩) hn v1).far (p := ⟨g, 2, none⟩) hn v2).far (p := ⟨g, 3, none⟩) hn v3).far (p := ⟨g, 4, none⟩) hn v4).far (p := ⟨g, 5, none⟩) hn v5).far (p := ⟨g, 6, none⟩) hn v6
theorem wrap_i8 (x : Int) (h0 : 0 ≤ x) (h1 : x ≤ 255) : IntKind.i8.wrap x = i8 x := by
  unfold i8
  have e : IntKind.i8.wrap x = if x % 256 ≥ 128 then x % 256 - 256 else x % 256 := by
    unfold IntKind.wrap
    show (if (IntKind.i8.signed && decide (x % 2 ^ IntKind.i8.bits ≥ 2 ^ (IntKind.i8.bits - 1))) = true then _ else _) = _
    by_cases h : x % 256 ≥ 128
    · rw [if_pos h, if_pos (by simp [IntKind.signed, IntKind.bits]; omega)]; rfl
    · rw [if_neg h, if_neg (by simp [IntKind.signed, IntKind.bits]; omega)]; rfl
  rw [e]
  by_cases h : 128 ≤ x
  · rw [if_pos (by omega), if_pos h]; omega
  · rw [if_neg (by omega), if_neg h]; omega
theorem st4 {w0 w : World} {B g : Nat} {t : TypeId} {u0 u1 u2 u3 : Value} (v0 v1 v2 v3 : Value) (h : Blk w g t #[u0, u1, u2, u3]) (hb : Below B w0 w) (hg : B ≤ g) :
    Blk ((((w.setCell ⟨g, 0, none⟩ v0).setCell ⟨g, 1, none⟩ v1).setCell ⟨g, 2, none⟩ v2).setCell ⟨g, 3, none⟩ v3) g t #[v0, v1, v2, v3] ∧
    Below B w0 ((((w.setCell ⟨g, 0, none⟩ v0).setCell ⟨g, 1, none⟩ v1).setCell ⟨g, 2, none⟩ v2).setCell ⟨g, 3, none⟩ v3) := by
  refine ⟨?_, ?_⟩
  · simpa using (((h.set 0 v0).set 1 v1).set 2 v2).set 3 v3
  · exact (((hb.setCell (p := ⟨g, 0, none⟩) hg v0).setCell (p := ⟨g, 1, none⟩) hg v1).setCell (p := ⟨g, 2, none⟩) hg v2).setCell (p := ⟨g, 3, none⟩) hg v3
end Go.Proofs.Ytebmgladdgmmeaa
