/- The index: the document's answer: Right, Find. -/
import Derived.Test.YtjcaahilgobfhaaIxOc
namespace Go.Proofs.Ytjcaahilgobfhaa
open Go.RowKit Go.WideShapes Go.Maps
set_option linter.unusedVariables false
set_option linter.unusedSimpArgs false
theorem rightR_any (p : Pc) (hp : p.ok) (w : World) : Calls Try.prog 42 #[p.agg] w (Quiet (.bool (rightP p.s p.b p.a)) w) := by
  have k := Blk.new w 39 p.cells.toArray
  have c20 := k.cell 20
  have c21 := k.cell 21
  have c22 := k.cell 22
  rw [List.getElem?_toArray] at c20 c21 c22
  rw [Pc.cell_s hp] at c20
  rw [Pc.cell_b hp] at c21
  rw [Pc.cell_a hp] at c22
  have hb := (Below.refl w.heap.size w).alloc (Nat.le_refl _) (.cells p.cells.toArray 39)
  have HB := Lib.hid hb
  clear k hb
  unfold Pc.agg
  obtain ⟨h, s, b, a⟩ := p
  simp only at c20 c21 c22 ⊢
  obtain ⟨r, hr⟩ : ∃ r, rightP s b a = r := ⟨_, rfl⟩
  rw [hr]
  generalize Pc.cells ⟨h, s, b, a⟩ = cs at *
  have HR := Lib.hid hr
  clear hr
  by_cases h0 : 1 ≤ s
  · skip
    by_cases h1 : s ≤ 4096
    · skip
      by_cases h2 : 1 ≤ b
      · skip
        by_cases h3 : b ≤ 1048576
        · skip
          by_cases h4 : 0 ≤ a
          · skip
            by_cases h5 : a ≤ 65536
            · skip
              by_cases h6 : a + s ≤ 65536
              · skip
                go_enter Try.func42, Try.ntmps42
                go_wp2
                go_ret
                exact ⟨ret_bool (by rw [← HR.out]; first | (simp [rightP, *]; done) | (simp [rightP, *]; intros; omega) | (simp [rightP, *]; omega)), HB.out⟩
              · skip
                go_enter Try.func42, Try.ntmps42
                go_wp2
                go_ret
                exact ⟨ret_bool (by rw [← HR.out]; first | (simp [rightP, *]; done) | (simp [rightP, *]; intros; omega) | (simp [rightP, *]; omega)), HB.out⟩
            · skip
              go_enter Try.func42, Try.ntmps42
              go_wp2
              go_ret
              exact ⟨ret_bool (by rw [← HR.out]; first | (simp [rightP, *]; done) | (simp [rightP, *]; intros; omega) | (simp [rightP, *]; omega)), HB.out⟩
          · skip
            go_enter Try.func42, Try.ntmps42
            go_wp2
            go_ret
            exact ⟨ret_bool (by rw [← HR.out]; first | (simp [rightP, *]; done) | (simp [rightP, *]; intros; omega) | (simp [rightP, *]; omega)), HB.out⟩
        · skip
          go_enter Try.func42, Try.ntmps42
          go_wp2
          go_ret
          exact ⟨ret_bool (by rw [← HR.out]; first | (simp [rightP, *]; done) | (simp [rightP, *]; intros; omega) | (simp [rightP, *]; omega)), HB.out⟩
      · skip
        go_enter Try.func42, Try.ntmps42
        go_wp2
        go_ret
        exact ⟨ret_bool (by rw [← HR.out]; first | (simp [rightP, *]; done) | (simp [rightP, *]; intros; omega) | (simp [rightP, *]; omega)), HB.out⟩
    · skip
      go_enter Try.func42, Try.ntmps42
      go_wp2
      go_ret
      exact ⟨ret_bool (by rw [← HR.out]; first | (simp [rightP, *]; done) | (simp [rightP, *]; intros; omega) | (simp [rightP, *]; omega)), HB.out⟩
  · skip
    go_enter Try.func42, Try.ntmps42
    go_wp2
    go_ret
    exact ⟨ret_bool (by rw [← HR.out]; first | (simp [rightP, *]; done) | (simp [rightP, *]; intros; omega) | (simp [rightP, *]; omega)), HB.out⟩
theorem lits3 (x : Int) (hx : -9223372036854775808 ≤ x ∧ x ≤ 9223372036854775807) (d : Nat) : Try.prog.keyLits (d + 1) 3 [.int .i64 x] = some [.int .i64 x] := by
  unfold Program.keyLits
  rw [Try.underlying3]
  simp only
  rw [if_pos ⟨trivial, by simp [Lit.wf, IntKind.min, IntKind.max, IntKind.signed, IntKind.bits]; omega⟩]
theorem bounds_right {s b a : Int} (h : rightP s b a = true) : (-9223372036854775808 ≤ s ∧ s ≤ 9223372036854775807) ∧ (-9223372036854775808 ≤ b ∧ b ≤ 9223372036854775807) ∧ (-9223372036854775808 ≤ a ∧ a ≤ 9223372036854775807) := by
  simp [rightP] at h
  omega
theorem cells39 : Try.prog.cellsOf 39 = 23 := by kernel_rfl
theorem cells3 : Try.prog.cellsOf 3 = 1 := by kernel_rfl
theorem pieceLits (p : Pc) (hp : p.ok) (hr : rightP p.s p.b p.a = true) (d : Nat) : Try.prog.keyLits (d + 3) 39 p.cells = some (p.h.map (Lit.int .u8) ++ [.int .i64 p.s, .int .i64 p.b, .int .i64 p.a]) := by
  obtain ⟨bs, bb, ba⟩ := bounds_right hr
  have hl := Pc.cells_length hp
  have h20 : (hashV p.h).length = 20 := by rw [hashV_length, hp.h.len]
  have e0 : (p.cells.drop 0).take 20 = hashV p.h := by unfold Pc.cells; rw [List.drop_zero, List.take_left' h20]
  have e1 : (p.cells.drop 20).take 1 = [.int .i64 p.s] := by unfold Pc.cells; rw [List.drop_left' h20]; rfl
  have e2 : (p.cells.drop 21).take 1 = [.int .i64 p.b] := by unfold Pc.cells; rw [show 21 = 20 + 1 from rfl, ← List.drop_drop, List.drop_left' h20]; rfl
  have e3 : (p.cells.drop 22).take 1 = [.int .i64 p.a] := by unfold Pc.cells; rw [show 22 = 20 + 2 from rfl, ← List.drop_drop, List.drop_left' h20]; rfl
  unfold Program.keyLits
  rw [Try.underlying39]
  simp only
  rw [if_pos ⟨by rw [hl, cells39], by kernel_rfl⟩]
  simp only [List.mapM_cons, List.mapM_nil, cells37, cells3, e0, e1, e2, e3, hashLits (d) p.h hp.h, lits3 _ bs, lits3 _ bb, lits3 _ ba, Option.bind_eq_bind, Option.bind_some, Option.map_some, Option.pure_def]
  simp
theorem eqP_same (p : Pc) (hp : p.ok) (hr : rightP p.s p.b p.a = true) (w : World) : (Op.equalIn 10000 39 (.agg p.cells.toArray) (.agg p.cells.toArray)).run Try.prog w = .ok true w := by
  have hf : (Value.agg p.cells.toArray).formed Try.prog 39 = true := by
    simp [Value.formed, Try.underlying39, cells39, Pc.cells_length hp]
  obtain ⟨r, hrun, hi⟩ := run_equalIn_deep (P := Try.prog) 9996 4 39 (by kernel_rfl) w 4 4 (.agg p.cells.toArray) (.agg p.cells.toArray) _ _ hf hf (by simpa [Value.cells] using pieceLits p hp hr 1) (by simpa [Value.cells] using pieceLits p hp hr 1)
  rw [hrun, hi.2 rfl]
end Go.Proofs.Ytjcaahilgobfhaa
