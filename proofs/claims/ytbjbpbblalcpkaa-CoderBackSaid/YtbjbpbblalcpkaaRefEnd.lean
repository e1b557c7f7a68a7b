/- The reference encoder's End, and what Put refuses: walks. -/
import Derived.Test.YtbjbpbblalcpkaaRefPut
import Derived.Test.YtbjbpbblalcpkaaAwake
namespace Go.Proofs.Ytbjbpbblalcpkaa
open Go.RowKit Go.WideShapes
set_option linter.unusedVariables false
structure PutNoR (n : Int) (w0 : World) (e : Ending) (w : World) : Prop where
  ret : e = .returned (.int .i64 n)
  same : w0 = w
set_option maxHeartbeats 4000000 in
theorem putR_arg (g : Nat) (b p : Int) (w : World) (h : (b ≠ 0 ∧ b ≠ 1) ∨ p < 1 ∨ 65535 < p) : Calls Try.prog 11 #[.pointer (some ⟨g, 0, none⟩), .int .i64 b, .int .i64 p] w (PutNoR 2 w) := by
  by_cases hb : b ≠ 0 ∧ b ≠ 1
  · have g0 : (b != 0) = true := by simp [hb.1]
    have g1 : (b != 1) = true := by simp [hb.2]
    clear h hb
    go_enter Try.func11, Try.ntmps11
    go_wp2
    go_ret
    exact ⟨rfl, rfl⟩
  · have hp : p < 1 ∨ 65535 < p := by omega
    rcases (show b = 0 ∨ b = 1 from by omega) with rfl | rfl <;> rcases hp with hp | hp
    all_goals
      clear h hb
      go_enter Try.func11, Try.ntmps11
      go_wp2
      go_ret
      exact ⟨rfl, rfl⟩
set_option maxRecDepth 100000 in
set_option maxHeartbeats 4000000 in
theorem endR_any (B g : Nat) (x y : Int) (out : List Int) (v : Value) (w : World) (he : EncR B w g x y out v) (hi : Ivl x y) (hl : out.length ≤ 100000) :
    Calls Try.prog 15 #[.pointer (some ⟨g, 0, none⟩)] w (Reads (out ++ four x) w) := by
  obtain ⟨A, c, rfl, hc⟩ := own_slice he.own
  have c0 := he.blk.cell 0
  have c2 := he.blk.cell 2
  simp at c0 c2
  have x0 := hi.x0
  have x1 : x ≤ 4294967295 := by have := hi.xy; have := hi.y1; omega
  have hbl := he.blk.alloc (.cells #[] 5)
  have a2 := hbl.cell 2
  simp at a2
  have R1 := Lib.hid ((rd_own he.own).alloc (.cells #[] 5))
  have O1 := Lib.hid (show (w.alloc (.cells #[] 5)).ownsRow w.heap.size 5 1 (.slice (some ⟨w.heap.size, 0, none⟩) 0 0) 0 [] from ⟨rfl, .inr ⟨w.heap.size, 0, #[], rfl, Nat.le_refl _, Blk.new _ _ _, by omega, by unfold maxLen; omega, rfl, rfl⟩⟩)
  have B1 := Lib.hid ((Below.refl w.heap.size w).alloc (Nat.le_refl _) (.cells #[] 5))
  clear he hi hbl
  go_enter Try.func15, Try.ntmps15
  go_wp2_with (first
    | (at_builtin; (refine wpList_app (P := Try.prog) (t := 30) (e := 5) (z := .int .u8 0) (bytes := 1) (w := w.alloc (.cells #[] 5)) tBytes ?_ (.tmp 9) (.tmp 13) ?_ w.heap.size (.slice (some ⟨w.heap.size, 0, none⟩) 0 0) 0 [] ?_ O1.out A out.length c (octs out) ?_ (by rw [octs_length]) R1.out (octs_one _) (by omega) (by unfold maxLen; omega) B1.out.size ?_; rfl; rfl; rfl; rfl; intro v2 w2 o2 _ hb2; rw [Nat.zero_add, List.nil_append] at o2; obtain ⟨A2, c2', rfl, hc2⟩ := own_slice o2; have O2 := Lib.hid o2; have B2 := Lib.hid (B1.out.trans hb2); clear o2 hb2))
    | (at_builtin; ((refine wpList_app (P := Try.prog) (t := 30) (e := 5) (z := .int .u8 0) (bytes := 1) (w := w2.alloc (.cells (octs (four x)).toArray 5)) tBytes ?_ (.tmp 14) (.tmp 29) ?_ w.heap.size (.slice A2 out.length c2') out.length (octs out) ?_ (O2.out.alloc _) (some ⟨w2.heap.size, 0, none⟩) 4 4 (octs (four x)) ?_ rfl (rd_new _ _ _) (octs_one _) (by omega) (by unfold maxLen; omega) (B2.out.alloc B2.out.size _).size ?_; rfl; rfl; rfl; rfl; intro v3 w3 o3 _ hb3))))
  go_ret
  exact reads_close o3 (by simp [octs]) (Nat.le_refl _) ((B2.out.alloc B2.out.size _).trans hb3)
end Go.Proofs.Ytbjbpbblalcpkaa
