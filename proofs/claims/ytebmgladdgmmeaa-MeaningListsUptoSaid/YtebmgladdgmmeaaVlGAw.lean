/- The chapter's examples of chapter 19: nested, awake: walks. Condition: none. -/
import Derived.Test.YtebmgladdgmmeaaVlGRg
namespace Go.Proofs.Ytebmgladdgmmeaa
open Go.RowKit Go.WideShapes
set_option linter.unusedVariables false
set_option linter.unusedSimpArgs false
/-- The box that holds the statement 'out'. -/
structure OutBox (w : World) (g : Nat) : Prop where
  c0 : w.cell? ⟨g, 0, none⟩ = some (.int .u8 1)
  c1 : w.cell? ⟨g, 1, none⟩ = some (.int .u8 26)
  c2 : w.cell? ⟨g, 2, none⟩ = some (.int .i64 0)
  c3 : w.cell? ⟨g, 3, none⟩ = some (.int .i64 0)
  c4 : w.cell? ⟨g, 4, none⟩ = some (.int .i64 0)
  c5 : w.cell? ⟨g, 5, none⟩ = some (.bool false)
  c6 : w.cell? ⟨g, 6, none⟩ = some (.int .u8 0)
  c7 : w.cell? ⟨g, 7, none⟩ = some (.int .i64 0)
  c8 : w.cell? ⟨g, 8, none⟩ = some (.int .i64 0)
  c9 : w.cell? ⟨g, 9, none⟩ = some (.int .i64 0)
  c10 : w.cell? ⟨g, 10, none⟩ = some (.slice none 0 0)
  c11 : w.cell? ⟨g, 11, none⟩ = some (.slice none 0 0)
  c12 : w.cell? ⟨g, 12, none⟩ = some (.int .i64 0)
theorem OutBox.below {w w' : World} {g : Nat} (h : OutBox w g) (hg : g < w.heap.size) (hb : Below w.heap.size w w') : OutBox w' g := by
  have k : ∀ j u, w.cell? ⟨g, j, none⟩ = some u → w'.cell? ⟨g, j, none⟩ = some u := fun j u hu => (hb.cell (p := ⟨g, j, none⟩) hg).trans hu
  exact ⟨k _ _ h.c0, k _ _ h.c1, k _ _ h.c2, k _ _ h.c3, k _ _ h.c4, k _ _ h.c5, k _ _ h.c6, k _ _ h.c7, k _ _ h.c8, k _ _ h.c9, k _ _ h.c10, k _ _ h.c11, k _ _ h.c12⟩
theorem OutBox.new (w : World) : OutBox (w.alloc (.cells #[.int .u8 1, .int .u8 26, .int .i64 0, .int .i64 0, .int .i64 0, .bool false, .int .u8 0, .int .i64 0, .int .i64 0, .int .i64 0, .slice none 0 0, .slice none 0 0, .int .i64 0] 35)) w.heap.size := by
  have h := Blk.new w 35 #[.int .u8 1, .int .u8 26, .int .i64 0, .int .i64 0, .int .i64 0, .bool false, .int .u8 0, .int .i64 0, .int .i64 0, .int .i64 0, .slice none 0 0, .slice none 0 0, .int .i64 0]
  exact ⟨h.cell 0, h.cell 1, h.cell 2, h.cell 3, h.cell 4, h.cell 5, h.cell 6, h.cell 7, h.cell 8, h.cell 9, h.cell 10, h.cell 11, h.cell 12⟩
/-- A call's ending: the box stays. -/
structure Rest (W0 : World) (g : Nat) (W : World) : Prop where
  box : OutBox W g
  low : Below W0.heap.size W0 W
theorem Rest.step {W0 W W' : World} {g : Nat} (h : Rest W0 g W) (hg : g < W.heap.size) (hb : Below W.heap.size W W') : Rest W0 g W' := ⟨h.box.below hg hb, h.low.trans (hb.mono h.low.size)⟩
end Go.Proofs.Ytebmgladdgmmeaa
