/- A part's fields, those that its kind does not name at nought: the reference's walk. No condition. -/
import Derived.Test.YtnohfeaamfjimaaVrPaRow
import Derived.RegionTactic
import Derived.Deep.RegionHeld3
namespace Go.Proofs.Ytnohfeaamfjimaa
open Go.RowKit Go.WideShapes
set_option linter.unusedVariables false
def fieldsP (t : Pt) : Pt :=
  if t.k = 1 then ⟨t.k, 0, 0, 0, t.c, 0, 0⟩ else
  if t.k = 2 then ⟨t.k, t.s, 0, 0, 0, 0, t.l⟩ else
  if t.k = 3 then ⟨t.k, t.s, 0, 0, 0, 0, 0⟩ else
  if t.k = 4 then ⟨t.k, t.s, 0, 0, 0, 0, 0⟩ else
  if t.k = 5 then ⟨t.k, 0, t.a, t.b, t.c, 0, 0⟩ else
  if t.k = 6 then ⟨t.k, t.s, t.a, t.b, 0, t.r, 0⟩ else
  if t.k = 7 then ⟨t.k, t.s, t.a, t.b, 0, t.r, 0⟩ else
  if t.k = 8 then ⟨t.k, t.s, t.a, 0, 0, 0, 0⟩ else
  if t.k = 9 then ⟨t.k, t.s, t.a, 0, 0, 0, t.l⟩ else
  ⟨t.k, 0, 0, 0, 0, 0, 0⟩
structure QuietV (v : Value) (w0 : World) (e : Ending) (w : World) : Prop where
  ret : e = .returned v
  low : Below w0.heap.size w0 w
theorem Below.drew' {B : Nat} {a w : World} (h : Below B a w) : Below B a w.drew := ⟨h.os, h.tape, h.output, h.size, h.block⟩
set_option maxRecDepth 100000 in
set_option maxHeartbeats 4000000 in
theorem fields_0 (k s a b c r l : Int) (w : World) (h : k < 1 ∨ 9 < k) : Calls Try.prog 66 #[.agg #[.int .u8 k, .int .i64 s, .int .i64 a, .int .i64 b, .int .i64 c, .int .i64 r, .int .i64 l]] w (QuietV (.agg #[.int .u8 k, .int .i64 0, .int .i64 0, .int .i64 0, .int .i64 0, .int .i64 0, .int .i64 0]) w) := by
  have g1 : (k == 1) = false := by simp; omega
  have g2 : (k == 2) = false := by simp; omega
  have g3 : (k == 3) = false := by simp; omega
  have g4 : (k == 4) = false := by simp; omega
  have g5 : (k == 5) = false := by simp; omega
  have g6 : (k == 6) = false := by simp; omega
  have g7 : (k == 7) = false := by simp; omega
  have g8 : (k == 8) = false := by simp; omega
  have g9 : (k == 9) = false := by simp; omega
  clear h
  go_enter Try.func66, Try.ntmps66
  go_wp2_with fail
  exact bodyPost_ret (v := .agg #[.int .u8 k, .int .i64 0, .int .i64 0, .int .i64 0, .int .i64 0, .int .i64 0, .int .i64 0]) (by simp [results, Try.results66, go_sem]) rfl ⟨rfl, by repeat (first | exact Below.refl _ _ | (refine Below.setCell ?_ (by simp) _) | (refine Below.alloc ?_ (by simp; try omega) _) | (refine Below.drew' ?_))⟩
set_option maxRecDepth 100000 in
set_option maxHeartbeats 4000000 in
theorem fields_1 (s a b c r l : Int) (w : World) : Calls Try.prog 66 #[.agg #[.int .u8 1, .int .i64 s, .int .i64 a, .int .i64 b, .int .i64 c, .int .i64 r, .int .i64 l]] w (QuietV (.agg #[.int .u8 1, .int .i64 0, .int .i64 0, .int .i64 0, .int .i64 c, .int .i64 0, .int .i64 0]) w) := by
  go_enter Try.func66, Try.ntmps66
  go_wp2_with fail
  exact bodyPost_ret (v := .agg #[.int .u8 1, .int .i64 0, .int .i64 0, .int .i64 0, .int .i64 c, .int .i64 0, .int .i64 0]) (by simp [results, Try.results66, go_sem]) rfl ⟨rfl, by repeat (first | exact Below.refl _ _ | (refine Below.setCell ?_ (by simp) _) | (refine Below.alloc ?_ (by simp; try omega) _) | (refine Below.drew' ?_))⟩
set_option maxRecDepth 100000 in
set_option maxHeartbeats 4000000 in
theorem fields_2 (s a b c r l : Int) (w : World) : Calls Try.prog 66 #[.agg #[.int .u8 2, .int .i64 s, .int .i64 a, .int .i64 b, .int .i64 c, .int .i64 r, .int .i64 l]] w (QuietV (.agg #[.int .u8 2, .int .i64 s, .int .i64 0, .int .i64 0, .int .i64 0, .int .i64 0, .int .i64 l]) w) := by
  go_enter Try.func66, Try.ntmps66
  go_wp2_with fail
  go_region_held3 (fun w' => w'.cell? ⟨w.heap.size, 1, none⟩ = some (.int .i64 s) ∧ w'.cell? ⟨w.heap.size, 6, none⟩ = some (.int .i64 l)) (go_keep) (fail)
  all_goals
    go_wp2_with fail
    exact bodyPost_ret (v := .agg #[.int .u8 2, .int .i64 s, .int .i64 0, .int .i64 0, .int .i64 0, .int .i64 0, .int .i64 l]) (by simp [results, Try.results66, go_sem]) rfl ⟨rfl, by repeat (first | exact Below.refl _ _ | (refine Below.setCell ?_ (by simp) _) | (refine Below.alloc ?_ (by simp; try omega) _) | (refine Below.drew' ?_))⟩
set_option maxRecDepth 100000 in
set_option maxHeartbeats 4000000 in
theorem fields_3 (s a b c r l : Int) (w : World) : Calls Try.prog 66 #[.agg #[.int .u8 3, .int .i64 s, .int .i64 a, .int .i64 b, .int .i64 c, .int .i64 r, .int .i64 l]] w (QuietV (.agg #[.int .u8 3, .int .i64 s, .int .i64 0, .int .i64 0, .int .i64 0, .int .i64 0, .int .i64 0]) w) := by
  go_enter Try.func66, Try.ntmps66
  go_wp2_with fail
  exact bodyPost_ret (v := .agg #[.int .u8 3, .int .i64 s, .int .i64 0, .int .i64 0, .int .i64 0, .int .i64 0, .int .i64 0]) (by simp [results, Try.results66, go_sem]) rfl ⟨rfl, by repeat (first | exact Below.refl _ _ | (refine Below.setCell ?_ (by simp) _) | (refine Below.alloc ?_ (by simp; try omega) _) | (refine Below.drew' ?_))⟩
set_option maxRecDepth 100000 in
set_option maxHeartbeats 4000000 in
theorem fields_4 (s a b c r l : Int) (w : World) : Calls Try.prog 66 #[.agg #[.int .u8 4, .int .i64 s, .int .i64 a, .int .i64 b, .int .i64 c, .int .i64 r, .int .i64 l]] w (QuietV (.agg #[.int .u8 4, .int .i64 s, .int .i64 0, .int .i64 0, .int .i64 0, .int .i64 0, .int .i64 0]) w) := by
  go_enter Try.func66, Try.ntmps66
  go_wp2_with fail
  exact bodyPost_ret (v := .agg #[.int .u8 4, .int .i64 s, .int .i64 0, .int .i64 0, .int .i64 0, .int .i64 0, .int .i64 0]) (by simp [results, Try.results66, go_sem]) rfl ⟨rfl, by repeat (first | exact Below.refl _ _ | (refine Below.setCell ?_ (by simp) _) | (refine Below.alloc ?_ (by simp; try omega) _) | (refine Below.drew' ?_))⟩
set_option maxRecDepth 100000 in
set_option maxHeartbeats 4000000 in
theorem fields_5 (s a b c r l : Int) (w : World) : Calls Try.prog 66 #[.agg #[.int .u8 5, .int .i64 s, .int .i64 a, .int .i64 b, .int .i64 c, .int .i64 r, .int .i64 l]] w (QuietV (.agg #[.int .u8 5, .int .i64 0, .int .i64 a, .int .i64 b, .int .i64 c, .int .i64 0, .int .i64 0]) w) := by
  go_enter Try.func66, Try.ntmps66
  go_wp2_with fail
  go_region_held3 (fun w' => w'.cell? ⟨w.heap.size, 2, none⟩ = some (.int .i64 a) ∧ w'.cell? ⟨w.heap.size, 3, none⟩ = some (.int .i64 b) ∧ w'.cell? ⟨w.heap.size, 4, none⟩ = some (.int .i64 c)) (go_keep) (fail)
  all_goals
    go_wp2_with fail
    exact bodyPost_ret (v := .agg #[.int .u8 5, .int .i64 0, .int .i64 a, .int .i64 b, .int .i64 c, .int .i64 0, .int .i64 0]) (by simp [results, Try.results66, go_sem]) rfl ⟨rfl, by repeat (first | exact Below.refl _ _ | (refine Below.setCell ?_ (by simp) _) | (refine Below.alloc ?_ (by simp; try omega) _) | (refine Below.drew' ?_))⟩
set_option maxRecDepth 100000 in
set_option maxHeartbeats 4000000 in
theorem fields_6 (s a b c r l : Int) (w : World) : Calls Try.prog 66 #[.agg #[.int .u8 6, .int .i64 s, .int .i64 a, .int .i64 b, .int .i64 c, .int .i64 r, .int .i64 l]] w (QuietV (.agg #[.int .u8 6, .int .i64 s, .int .i64 a, .int .i64 b, .int .i64 0, .int .i64 r, .int .i64 0]) w) := by
  go_enter Try.func66, Try.ntmps66
  go_wp2_with fail
  go_region_held3 (fun w' => w'.cell? ⟨w.heap.size, 1, none⟩ = some (.int .i64 s) ∧ w'.cell? ⟨w.heap.size, 2, none⟩ = some (.int .i64 a) ∧ w'.cell? ⟨w.heap.size, 3, none⟩ = some (.int .i64 b) ∧ w'.cell? ⟨w.heap.size, 5, none⟩ = some (.int .i64 r)) (go_keep) (fail)
  all_goals
    go_wp2_with fail
    exact bodyPost_ret (v := .agg #[.int .u8 6, .int .i64 s, .int .i64 a, .int .i64 b, .int .i64 0, .int .i64 r, .int .i64 0]) (by simp [results, Try.results66, go_sem]) rfl ⟨rfl, by repeat (first | exact Below.refl _ _ | (refine Below.setCell ?_ (by simp) _) | (refine Below.alloc ?_ (by simp; try omega) _) | (refine Below.drew' ?_))⟩
set_option maxRecDepth 100000 in
set_option maxHeartbeats 4000000 in
theorem fields_7 (s a b c r l : Int) (w : World) : Calls Try.prog 66 #[.agg #[.int .u8 7, .int .i64 s, .int .i64 a, .int .i64 b, .int .i64 c, .int .i64 r, .int .i64 l]] w (QuietV (.agg #[.int .u8 7, .int .i64 s, .int .i64 a, .int .i64 b, .int .i64 0, .int .i64 r, .int .i64 0]) w) := by
  go_enter Try.func66, Try.ntmps66
  go_wp2_with fail
  go_region_held3 (fun w' => w'.cell? ⟨w.heap.size, 1, none⟩ = some (.int .i64 s) ∧ w'.cell? ⟨w.heap.size, 2, none⟩ = some (.int .i64 a) ∧ w'.cell? ⟨w.heap.size, 3, none⟩ = some (.int .i64 b) ∧ w'.cell? ⟨w.heap.size, 5, none⟩ = some (.int .i64 r)) (go_keep) (fail)
  all_goals
    go_wp2_with fail
    exact bodyPost_ret (v := .agg #[.int .u8 7, .int .i64 s, .int .i64 a, .int .i64 b, .int .i64 0, .int .i64 r, .int .i64 0]) (by simp [results, Try.results66, go_sem]) rfl ⟨rfl, by repeat (first | exact Below.refl _ _ | (refine Below.setCell ?_ (by simp) _) | (refine Below.alloc ?_ (by simp; try omega) _) | (refine Below.drew' ?_))⟩
set_option maxRecDepth 100000 in
set_option maxHeartbeats 4000000 in
theorem fields_8 (s a b c r l : Int) (w : World) : Calls Try.prog 66 #[.agg #[.int .u8 8, .int .i64 s, .int .i64 a, .int .i64 b, .int .i64 c, .int .i64 r, .int .i64 l]] w (QuietV (.agg #[.int .u8 8, .int .i64 s, .int .i64 a, .int .i64 0, .int .i64 0, .int .i64 0, .int .i64 0]) w) := by
  go_enter Try.func66, Try.ntmps66
  go_wp2_with fail
  go_region_held3 (fun w' => w'.cell? ⟨w.heap.size, 1, none⟩ = some (.int .i64 s) ∧ w'.cell? ⟨w.heap.size, 2, none⟩ = some (.int .i64 a)) (go_keep) (fail)
  all_goals
    go_wp2_with fail
    exact bodyPost_ret (v := .agg #[.int .u8 8, .int .i64 s, .int .i64 a, .int .i64 0, .int .i64 0, .int .i64 0, .int .i64 0]) (by simp [results, Try.results66, go_sem]) rfl ⟨rfl, by repeat (first | exact Below.refl _ _ | (refine Below.setCell ?_ (by simp) _) | (refine Below.alloc ?_ (by simp; try omega) _) | (refine Below.drew' ?_))⟩
set_option maxRecDepth 100000 in
set_option maxHeartbeats 4000000 in
theorem fields_9 (s a b c r l : Int) (w : World) : Calls Try.prog 66 #[.agg #[.int .u8 9, .int .i64 s, .int .i64 a, .int .i64 b, .int .i64 c, .int .i64 r, .int .i64 l]] w (QuietV (.agg #[.int .u8 9, .int .i64 s, .int .i64 a, .int .i64 0, .int .i64 0, .int .i64 0, .int .i64 l]) w) := by
  go_enter Try.func66, Try.ntmps66
  go_wp2_with fail
  go_region_held3 (fun w' => w'.cell? ⟨w.heap.size, 1, none⟩ = some (.int .i64 s) ∧ w'.cell? ⟨w.heap.size, 2, none⟩ = some (.int .i64 a) ∧ w'.cell? ⟨w.heap.size, 6, none⟩ = some (.int .i64 l)) (go_keep) (fail)
  all_goals
    go_wp2_with fail
    exact bodyPost_ret (v := .agg #[.int .u8 9, .int .i64 s, .int .i64 a, .int .i64 0, .int .i64 0, .int .i64 0, .int .i64 l]) (by simp [results, Try.results66, go_sem]) rfl ⟨rfl, by repeat (first | exact Below.refl _ _ | (refine Below.setCell ?_ (by simp) _) | (refine Below.alloc ?_ (by simp; try omega) _) | (refine Below.drew' ?_))⟩
theorem fields_any (t : Pt) (w : World) : Calls Try.prog 66 #[t.agg] w (QuietV ((fieldsP t).agg) w) := by
  obtain ⟨k, s, a, b, c, r, l⟩ := t
  rcases kind_cases k with rfl | rfl | rfl | rfl | rfl | rfl | rfl | rfl | rfl | h
  · exact fields_1 s a b c r l w
  · exact fields_2 s a b c r l w
  · exact fields_3 s a b c r l w
  · exact fields_4 s a b c r l w
  · exact fields_5 s a b c r l w
  · exact fields_6 s a b c r l w
  · exact fields_7 s a b c r l w
  · exact fields_8 s a b c r l w
  · exact fields_9 s a b c r l w
  · have e : fieldsP ⟨k, s, a, b, c, r, l⟩ = ⟨k, 0, 0, 0, 0, 0, 0⟩ := by
      unfold fieldsP
      rw [if_neg (by simp only; omega), if_neg (by simp only; omega), if_neg (by simp only; omega), if_neg (by simp only; omega), if_neg (by simp only; omega), if_neg (by simp only; omega), if_neg (by simp only; omega), if_neg (by simp only; omega), if_neg (by simp only; omega)]
    rw [e]
    exact fields_0 k s a b c r l w h
end Go.Proofs.Ytnohfeaamfjimaa
