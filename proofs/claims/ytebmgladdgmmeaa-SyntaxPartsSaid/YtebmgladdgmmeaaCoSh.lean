/- An instruction's shape, whether it is right, how many bytes it has: plain, and their walks. No condition. -/
import Derived.Test.YtebmgladdgmmeaaGBase
namespace Go.Proofs.Ytebmgladdgmmeaa
open Go.RowKit Go.WideShapes
set_option linter.unusedVariables false
set_option linter.unusedSimpArgs false
structure In where
  o : Int
  d : Int
  s : Int
  n : Int
structure In.ok (t : In) : Prop where
  o0 : 0 ≤ t.o
  o1 : t.o ≤ 255
  d0 : -9223372036854775808 ≤ t.d
  d1 : t.d ≤ 9223372036854775807
  s0 : -9223372036854775808 ≤ t.s
  s1 : t.s ≤ 9223372036854775807
  n0 : -9223372036854775808 ≤ t.n
  n1 : t.n ≤ 9223372036854775807
def In.cells (t : In) : List Value := [.int .u8 t.o, .int .i64 t.d, .int .i64 t.s, .int .i64 t.n]
def In.agg (t : In) : Value := .agg #[.int .u8 t.o, .int .i64 t.d, .int .i64 t.s, .int .i64 t.n]
instance : Inhabited In := ⟨⟨0, 0, 0, 0⟩⟩
theorem In.cells_one (t : In) : ∀ u ∈ t.cells, u.oneCell' = true := fun u hu => by
  simp only [In.cells, List.mem_cons, List.not_mem_nil, or_false] at hu
  rcases hu with rfl | rfl | rfl | rfl <;> rfl
structure Sh where
  known : Bool
  place : Int
  frm : Bool
  operand : Bool
  number : Bool
  jump : Bool
  long : Bool
def Sh.agg (r : Sh) : Value := .agg #[.bool r.known, .int .i64 r.place, .bool r.frm, .bool r.operand, .bool r.number, .bool r.jump, .bool r.long]
/-- An Op's class: 1 nothing, 2 OSet, 3 OSetN, 4 D alone, 5 OAdd to OGt, 6 OLoad, 7 OStore, 8 jumps, 9 OLj; 0: none. -/
def cls (o : Int) : Int :=
  if o = 0 ∨ (24 ≤ o ∧ o ≤ 26) then 1 else if o = 1 then 2 else if o = 2 then 3 else if o ≤ 7 then 4 else if o ≤ 21 then 5 else if o = 22 then 6 else if o = 23 then 7 else if o ≤ 29 then 8 else if o = 30 then 9 else 0
def shC (c : Int) : Sh :=
  if c = 1 then ⟨true, -1, false, false, false, false, false⟩ else if c = 2 then ⟨true, 6, true, false, false, false, false⟩ else if c = 3 then ⟨true, 6, false, false, true, false, false⟩ else
  if c = 4 then ⟨true, 6, false, false, false, false, false⟩ else if c = 5 then ⟨true, -1, false, true, false, false, false⟩ else if c = 6 then ⟨true, 3, false, false, true, false, false⟩ else
  if c = 7 then ⟨true, -1, false, false, true, false, false⟩ else if c = 8 then ⟨true, -1, false, false, false, true, false⟩ else if c = 9 then ⟨true, -1, false, false, false, false, true⟩ else ⟨false, 0, false, false, false, false, false⟩
def shO (o : Int) : Sh := shC (cls o)
theorem op_cases (o : Int) (h0 : 0 ≤ o) : (o = 0 ∧ cls o = 1) ∨ (o = 1 ∧ cls o = 2) ∨ (o = 2 ∧ cls o = 3) ∨ (3 ≤ o ∧ o ≤ 7 ∧ cls o = 4) ∨ (8 ≤ o ∧ o ≤ 21 ∧ cls o = 5) ∨ (o = 22 ∧ cls o = 6) ∨ (o = 23 ∧ cls o = 7) ∨ (24 ≤ o ∧ o ≤ 26 ∧ cls o = 1) ∨ (27 ≤ o ∧ o ≤ 29 ∧ cls o = 8) ∨ (o = 30 ∧ cls o = 9) ∨ (31 ≤ o ∧ cls o = 0) := by
  rcases (show o = 0 ∨ o = 1 ∨ o = 2 ∨ (3 ≤ o ∧ o ≤ 7) ∨ (8 ≤ o ∧ o ≤ 21) ∨ o = 22 ∨ o = 23 ∨ (24 ≤ o ∧ o ≤ 26) ∨ (27 ≤ o ∧ o ≤ 29) ∨ o = 30 ∨ 31 ≤ o from by omega) with h | h | h | h | h | h | h | h | h | h | h
  · exact .inl ⟨h, by subst h; rfl⟩
  · exact .inr (.inl ⟨h, by subst h; rfl⟩)
  · exact .inr (.inr (.inl ⟨h, by subst h; rfl⟩))
  · exact .inr (.inr (.inr (.inl ⟨h.1, h.2, by unfold cls; rw [if_neg (by omega), if_neg (by omega), if_neg (by omega), if_pos (by omega)]⟩)))
  · exact .inr (.inr (.inr (.inr (.inl ⟨h.1, h.2, by unfold cls; rw [if_neg (by omega), if_neg (by omega), if_neg (by omega), if_neg (by omega), if_pos (by omega)]⟩))))
  · exact .inr (.inr (.inr (.inr (.inr (.inl ⟨h, by subst h; rfl⟩)))))
  · exact .inr (.inr (.inr (.inr (.inr (.inr (.inl ⟨h, by subst h; rfl⟩))))))
  · exact .inr (.inr (.inr (.inr (.inr (.inr (.inr (.inl ⟨h.1, h.2, by unfold cls; rw [if_pos (by omega)]⟩)))))))
  · exact .inr (.inr (.inr (.inr (.inr (.inr (.inr (.inr (.inl ⟨h.1, h.2, by unfold cls; rw [if_neg (by omega), if_neg (by omega), if_neg (by omega), if_neg (by omega), if_neg (by omega), if_neg (by omega), if_neg (by omega), if_pos (by omega)]⟩))))))))
  · exact .inr (.inr (.inr (.inr (.inr (.inr (.inr (.inr (.inr (.inl ⟨h, by subst h; rfl⟩)))))))))
  · exact .inr (.inr (.inr (.inr (.inr (.inr (.inr (.inr (.inr (.inr ⟨h, by unfold cls; rw [if_neg (by omega), if_neg (by omega), if_neg (by omega), if_neg (by omega), if_neg (by omega), if_neg (by omega), if_neg (by omega), if_neg (by omega), if_neg (by omega)]⟩)))))))))
structure IsSh (o : Int) (w0 : World) (e : Ending) (w : World) : Prop where
  ret : e = .returned (shO o).agg
  low : Below w0.heap.size w0 w
theorem shape_close {o : Int} {w0 w : World} {s : Sh} (h : shO o = s) (hb : Below w0.heap.size w0 w) : IsSh o w0 (.returned s.agg) w := ⟨by rw [h], hb⟩
set_option maxRecDepth 100000 in
set_option maxHeartbeats 2000000 in
theorem shape_any (o : Int) (w : World) (h0 : 0 ≤ o) : Calls Try.prog 45 #[.int .u8 o] w (IsSh o w) := by
  rcases op_cases o h0 with ⟨rfl, h⟩ | ⟨rfl, h⟩ | ⟨rfl, h⟩ | ⟨h1, h2, h⟩ | ⟨h1, h2, h⟩ | ⟨rfl, h⟩ | ⟨rfl, h⟩ | ⟨h1, h2, h⟩ | ⟨h1, h2, h⟩ | ⟨rfl, h⟩ | ⟨h1, h⟩
  · have hs : shO 0 = ⟨true, (-1), false, false, false, false, false⟩ := by unfold shO; rw [h]; rfl
    have HS := Lib.hid hs
    clear h hs h0
    go_enter Try.func45, Try.ntmps45
    go_wp2
    exact bodyPost_ret (v := .agg #[.bool true, .int .i64 (-1), .bool false, .bool false, .bool false, .bool false, .bool false]) (by simp [results, Try.results45, go_sem]) rfl (shape_close HS.out (by repeat (first | exact Below.refl _ _ | (refine Below.setCell ?_ (by simp) _) | (refine Below.alloc ?_ (by simp; try omega) _))))
  · have hs : shO 1 = ⟨true, 6, true, false, false, false, false⟩ := by unfold shO; rw [h]; rfl
    have HS := Lib.hid hs
    clear h hs h0
    go_enter Try.func45, Try.ntmps45
    go_wp2
    exact bodyPost_ret (v := .agg #[.bool true, .int .i64 6, .bool true, .bool false, .bool false, .bool false, .bool false]) (by simp [results, Try.results45, go_sem]) rfl (shape_close HS.out (by repeat (first | exact Below.refl _ _ | (refine Below.setCell ?_ (by simp) _) | (refine Below.alloc ?_ (by simp; try omega) _))))
  · have hs : shO 2 = ⟨true, 6, false, false, true, false, false⟩ := by unfold shO; rw [h]; rfl
    have HS := Lib.hid hs
    clear h hs h0
    go_enter Try.func45, Try.ntmps45
    go_wp2
    exact bodyPost_ret (v := .agg #[.bool true, .int .i64 6, .bool false, .bool false, .bool true, .bool false, .bool false]) (by simp [results, Try.results45, go_sem]) rfl (shape_close HS.out (by repeat (first | exact Below.refl _ _ | (refine Below.setCell ?_ (by simp) _) | (refine Below.alloc ?_ (by simp; try omega) _))))
  · have hs : shO o = ⟨true, 6, false, false, false, false, false⟩ := by unfold shO; rw [h]; rfl
    have HS := Lib.hid hs
    have e0 : (o == 0) = false := by simp; omega
    have e1 : (o == 1) = false := by simp; omega
    have e2 : (o == 2) = false := by simp; omega
    have e22 : (o == 22) = false := by simp; omega
    have e23 : (o == 23) = false := by simp; omega
    have e30 : (o == 30) = false := by simp; omega
    have l7 : decide (o ≤ 7) = true := by simp; omega
    have l21 : decide (o ≤ 21) = true := by simp; omega
    have l29 : decide (o ≤ 29) = true := by simp; omega
    have l26 : decide (o ≤ 26) = true := by simp; omega
    have m24 : decide (24 ≤ o) = false := by simp; omega
    clear h hs h1 h2 h0
    go_enter Try.func45, Try.ntmps45
    go_wp2
    exact bodyPost_ret (v := .agg #[.bool true, .int .i64 6, .bool false, .bool false, .bool false, .bool false, .bool false]) (by simp [results, Try.results45, go_sem]) rfl (shape_close HS.out (by repeat (first | exact Below.refl _ _ | (refine Below.setCell ?_ (by simp) _) | (refine Below.alloc ?_ (by simp; try omega) _))))
  · have hs : shO o = ⟨true, (-1), false, true, false, false, false⟩ := by unfold shO; rw [h]; rfl
    have HS := Lib.hid hs
    have e0 : (o == 0) = false := by simp; omega
    have e1 : (o == 1) = false := by simp; omega
    have e2 : (o == 2) = false := by simp; omega
    have e22 : (o == 22) = false := by simp; omega
    have e23 : (o == 23) = false := by simp; omega
    have e30 : (o == 30) = false := by simp; omega
    have l7 : decide (o ≤ 7) = false := by simp; omega
    have l21 : decide (o ≤ 21) = true := by simp; omega
    have l29 : decide (o ≤ 29) = true := by simp; omega
    have l26 : decide (o ≤ 26) = true := by simp; omega
    have m24 : decide (24 ≤ o) = false := by simp; omega
    clear h hs h1 h2 h0
    go_enter Try.func45, Try.ntmps45
    go_wp2
    exact bodyPost_ret (v := .agg #[.bool true, .int .i64 (-1), .bool false, .bool true, .bool false, .bool false, .bool false]) (by simp [results, Try.results45, go_sem]) rfl (shape_close HS.out (by repeat (first | exact Below.refl _ _ | (refine Below.setCell ?_ (by simp) _) | (refine Below.alloc ?_ (by simp; try omega) _))))
  · have hs : shO 22 = ⟨true, 3, false, false, true, false, false⟩ := by unfold shO; rw [h]; rfl
    have HS := Lib.hid hs
    clear h hs h0
    go_enter Try.func45, Try.ntmps45
    go_wp2
    exact bodyPost_ret (v := .agg #[.bool true, .int .i64 3, .bool false, .bool false, .bool true, .bool false, .bool false]) (by simp [results, Try.results45, go_sem]) rfl (shape_close HS.out (by repeat (first | exact Below.refl _ _ | (refine Below.setCell ?_ (by simp) _) | (refine Below.alloc ?_ (by simp; try omega) _))))
  · have hs : shO 23 = ⟨true, (-1), false, false, true, false, false⟩ := by unfold shO; rw [h]; rfl
    have HS := Lib.hid hs
    clear h hs h0
    go_enter Try.func45, Try.ntmps45
    go_wp2
    exact bodyPost_ret (v := .agg #[.bool true, .int .i64 (-1), .bool false, .bool false, .bool true, .bool false, .bool false]) (by simp [results, Try.results45, go_sem]) rfl (shape_close HS.out (by repeat (first | exact Below.refl _ _ | (refine Below.setCell ?_ (by simp) _) | (refine Below.alloc ?_ (by simp; try omega) _))))
  · have hs : shO o = ⟨true, (-1), false, false, false, false, false⟩ := by unfold shO; rw [h]; rfl
    have HS := Lib.hid hs
    have e0 : (o == 0) = false := by simp; omega
    have e1 : (o == 1) = false := by simp; omega
    have e2 : (o == 2) = false := by simp; omega
    have e22 : (o == 22) = false := by simp; omega
    have e23 : (o == 23) = false := by simp; omega
    have e30 : (o == 30) = false := by simp; omega
    have l7 : decide (o ≤ 7) = false := by simp; omega
    have l21 : decide (o ≤ 21) = false := by simp; omega
    have l29 : decide (o ≤ 29) = true := by simp; omega
    have l26 : decide (o ≤ 26) = true := by simp; omega
    have m24 : decide (24 ≤ o) = true := by simp; omega
    clear h hs h1 h2 h0
    go_enter Try.func45, Try.ntmps45
    go_wp2
    exact bodyPost_ret (v := .agg #[.bool true, .int .i64 (-1), .bool false, .bool false, .bool false, .bool false, .bool false]) (by simp [results, Try.results45, go_sem]) rfl (shape_close HS.out (by repeat (first | exact Below.refl _ _ | (refine Below.setCell ?_ (by simp) _) | (refine Below.alloc ?_ (by simp; try omega) _))))
  · have hs : shO o = ⟨true, (-1), false, false, false, true, false⟩ := by unfold shO; rw [h]; rfl
    have HS := Lib.hid hs
    have e0 : (o == 0) = false := by simp; omega
    have e1 : (o == 1) = false := by simp; omega
    have e2 : (o == 2) = false := by simp; omega
    have e22 : (o == 22) = false := by simp; omega
    have e23 : (o == 23) = false := by simp; omega
    have e30 : (o == 30) = false := by simp; omega
    have l7 : decide (o ≤ 7) = false := by simp; omega
    have l21 : decide (o ≤ 21) = false := by simp; omega
    have l29 : decide (o ≤ 29) = true := by simp; omega
    have l26 : decide (o ≤ 26) = false := by simp; omega
    have m24 : decide (24 ≤ o) = true := by simp; omega
    clear h hs h1 h2 h0
    go_enter Try.func45, Try.ntmps45
    go_wp2
    exact bodyPost_ret (v := .agg #[.bool true, .int .i64 (-1), .bool false, .bool false, .bool false, .bool true, .bool false]) (by simp [results, Try.results45, go_sem]) rfl (shape_close HS.out (by repeat (first | exact Below.refl _ _ | (refine Below.setCell ?_ (by simp) _) | (refine Below.alloc ?_ (by simp; try omega) _))))
  · have hs : shO 30 = ⟨true, (-1), false, false, false, false, true⟩ := by unfold shO; rw [h]; rfl
    have HS := Lib.hid hs
    clear h hs h0
    go_enter Try.func45, Try.ntmps45
    go_wp2
    exact bodyPost_ret (v := .agg #[.bool true, .int .i64 (-1), .bool false, .bool false, .bool false, .bool false, .bool true]) (by simp [results, Try.results45, go_sem]) rfl (shape_close HS.out (by repeat (first | exact Below.refl _ _ | (refine Below.setCell ?_ (by simp) _) | (refine Below.alloc ?_ (by simp; try omega) _))))
  · have hs : shO o = ⟨false, 0, false, false, false, false, false⟩ := by unfold shO; rw [h]; rfl
    have HS := Lib.hid hs
    have e0 : (o == 0) = false := by simp; omega
    have e1 : (o == 1) = false := by simp; omega
    have e2 : (o == 2) = false := by simp; omega
    have e22 : (o == 22) = false := by simp; omega
    have e23 : (o == 23) = false := by simp; omega
    have e30 : (o == 30) = false := by simp; omega
    have l7 : decide (o ≤ 7) = false := by simp; omega
    have l21 : decide (o ≤ 21) = false := by simp; omega
    have l29 : decide (o ≤ 29) = false := by simp; omega
    have l26 : decide (o ≤ 26) = false := by simp; omega
    have m24 : decide (24 ≤ o) = true := by simp; omega
    clear h hs h1 h0
    go_enter Try.func45, Try.ntmps45
    go_wp2
    exact bodyPost_ret (v := .agg #[.bool false, .int .i64 0, .bool false, .bool false, .bool false, .bool false, .bool false]) (by simp [results, Try.results45, go_sem]) rfl (shape_close HS.out (by repeat (first | exact Below.refl _ _ | (refine Below.setCell ?_ (by simp) _) | (refine Below.alloc ?_ (by simp; try omega) _))))
end Go.Proofs.Ytebmgladdgmmeaa
