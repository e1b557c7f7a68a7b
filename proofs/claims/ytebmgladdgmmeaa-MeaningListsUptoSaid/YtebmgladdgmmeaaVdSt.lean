/- Slices of structs of one-cell fields: an element, appending one, an argument opened; parts. Plain theorems; no condition. · Words of contracts. Plain. · An instruction's shape, whether it is right, how many bytes it has: plain, and their walks. No condition. · Is an instruction right, how many bytes it has: walks. No condition. · Is an instruction right, class by class: walks. No condition. · Is an instruction right, class by class: walks. No condition. · Is an instruction right, class by class: walks. No condition. · How many bytes more, class by class: walks. No condition. · Is an instruction right, how many bytes it has: walks. No condition. -/
import Derived.Test.YtebmgladdgmmeaaRows
import Derived.Test.YtebmgladdgmmeaaVdWords
import Derived.Test.YtebmgladdgmmeaaVdHeld
import Derived.OpenShut
import Derived.ChangeSlices
import Derived.Deep.Slices
import Derived.Deep.Fields
namespace Go.Proofs.Ytebmgladdgmmeaa
open Go.RowKit Go.WideShapes Go.ChangeShapes Go.Deep
set_option linter.unusedVariables false
theorem below_drewN {B : Nat} {a w : World} (h : Below B a w) (n : Nat) : Below B a (w.drewN n) := ⟨h.os, h.tape, h.output, h.size, h.block⟩
structure Pt where
  k : Int
  s : Int
  a : Int
  b : Int
  c : Int
  r : Int
  l : Int
structure Pt.ok (t : Pt) : Prop where
  k0 : 0 ≤ t.k
  k1 : t.k ≤ 255
  s0 : -9223372036854775808 ≤ t.s
  s1 : t.s ≤ 9223372036854775807
  a0 : -9223372036854775808 ≤ t.a
  a1 : t.a ≤ 9223372036854775807
  b0 : -9223372036854775808 ≤ t.b
  b1 : t.b ≤ 9223372036854775807
  c0 : -9223372036854775808 ≤ t.c
  c1 : t.c ≤ 9223372036854775807
  r0 : -9223372036854775808 ≤ t.r
  r1 : t.r ≤ 9223372036854775807
  l0 : -9223372036854775808 ≤ t.l
  l1 : t.l ≤ 9223372036854775807
def Pt.cells (t : Pt) : List Value := [.int .u8 t.k, .int .i64 t.s, .int .i64 t.a, .int .i64 t.b, .int .i64 t.c, .int .i64 t.r, .int .i64 t.l]
def Pt.agg (t : Pt) : Value := .agg #[.int .u8 t.k, .int .i64 t.s, .int .i64 t.a, .int .i64 t.b, .int .i64 t.c, .int .i64 t.r, .int .i64 t.l]
instance : Inhabited Pt := ⟨⟨0, 0, 0, 0, 0, 0, 0⟩⟩
/-- An element of a slice of these, cell by cell. -/
structure Pt.At (t : Pt) (w : World) (b p : Nat) : Prop where
  lt : b < w.heap.size
  c0 : w.cell? ⟨b, p, none⟩ = some (.int .u8 t.k)
  c1 : w.cell? ⟨b, p + 1, none⟩ = some (.int .i64 t.s)
  c2 : w.cell? ⟨b, p + 2, none⟩ = some (.int .i64 t.a)
  c3 : w.cell? ⟨b, p + 3, none⟩ = some (.int .i64 t.b)
  c4 : w.cell? ⟨b, p + 4, none⟩ = some (.int .i64 t.c)
  c5 : w.cell? ⟨b, p + 5, none⟩ = some (.int .i64 t.r)
  c6 : w.cell? ⟨b, p + 6, none⟩ = some (.int .i64 t.l)
theorem Pt.At.keep {t : Pt} {w w' : World} {b p : Nat} (h : t.At w b p) (hs : w.heap.size ≤ w'.heap.size) (hk : ∀ q : Addr, q.block = b → w'.cell? q = w.cell? q) : t.At w' b p :=
  ⟨Nat.lt_of_lt_of_le h.lt hs, (hk _ rfl).trans h.c0, (hk _ rfl).trans h.c1, (hk _ rfl).trans h.c2, (hk _ rfl).trans h.c3, (hk _ rfl).trans h.c4, (hk _ rfl).trans h.c5, (hk _ rfl).trans h.c6⟩
end Go.Proofs.Ytebmgladdgmmeaa
namespace Go.Proofs.Ytebmgladdgmmeaa
open Go.RowKit Go.WideShapes
set_option linter.unusedVariables false
structure Same (v : Value) (w0 : World) (e : Ending) (w : World) : Prop where
  ret : e = .returned v
  same : w0 = w
structure Quiet (v : Value) (w0 : World) (e : Ending) (w : World) : Prop where
  ret : e = .returned v
  low : Below w0.heap.size w0 w
def inB (n low high : Int) (named : Bool) : Bool := if named then decide (low ≤ n) && decide (n ≤ high) else decide (0 ≤ n) && decide (n ≤ 0)
theorem bcell {W w1 : World} (hb : Below W.heap.size W w1) : (∀ b o, b < W.heap.size → w1.cell? ⟨b, o, none⟩ = W.cell? ⟨b, o, none⟩) ∧ (∀ b o, b < W.heap.size → w1.frozen? ⟨b, o, none⟩ = W.frozen? ⟨b, o, none⟩) :=
  ⟨fun b o h => hb.cell (p := ⟨b, o, none⟩) h, fun b o h => hb.frozen (p := ⟨b, o, none⟩) h⟩
end Go.Proofs.Ytebmgladdgmmeaa
namespace Go.Proofs.Ytebmgladdgmmeaa
open Go.RowKit Go.WideShapes
set_option linter.unusedVariables false
set_option linter.unusedSimpArgs false
structure In where
  o : Int
  d : Int
  s : Int
  n : Int
structure In.ok (t : In) : Prop where
  o0 : 0 ≤ t.o
  o1 : t.o ≤ 255
  d0 : -9223372036854775808 ≤ t.d
  d1 : t.d ≤ 9223372036854775807
  s0 : -9223372036854775808 ≤ t.s
  s1 : t.s ≤ 9223372036854775807
  n0 : -9223372036854775808 ≤ t.n
  n1 : t.n ≤ 9223372036854775807
def In.cells (t : In) : List Value := [.int .u8 t.o, .int .i64 t.d, .int .i64 t.s, .int .i64 t.n]
def In.agg (t : In) : Value := .agg #[.int .u8 t.o, .int .i64 t.d, .int .i64 t.s, .int .i64 t.n]
instance : Inhabited In := ⟨⟨0, 0, 0, 0⟩⟩
structure Sh where
  known : Bool
  place : Int
  frm : Bool
  operand : Bool
  number : Bool
  jump : Bool
  long : Bool
def Sh.agg (r : Sh) : Value := .agg #[.bool r.known, .int .i64 r.place, .bool r.frm, .bool r.operand, .bool r.number, .bool r.jump, .bool r.long]
/-- An Op's class: 1 nothing, 2 OSet, 3 OSetN, 4 D alone, 5 OAdd to OGt, 6 OLoad, 7 OStore, 8 jumps, 9 OLj; 0: none. -/
def cls (o : Int) : Int :=
  if o = 0 ∨ (24 ≤ o ∧ o ≤ 26) then 1 else if o = 1 then 2 else if o = 2 then 3 else if o ≤ 7 then 4 else if o ≤ 21 then 5 else if o = 22 then 6 else if o = 23 then 7 else if o ≤ 29 then 8 else if o = 30 then 9 else 0
def shC (c : Int) : Sh :=
  if c = 1 then ⟨true, -1, false, false, false, false, false⟩ else if c = 2 then ⟨true, 6, true, false, false, false, false⟩ else if c = 3 then ⟨true, 6, false, false, true, false, false⟩ else
  if c = 4 then ⟨true, 6, false, false, false, false, false⟩ else if c = 5 then ⟨true, -1, false, true, false, false, false⟩ else if c = 6 then ⟨true, 3, false, false, true, false, false⟩ else
  if c = 7 then ⟨true, -1, false, false, true, false, false⟩ else if c = 8 then ⟨true, -1, false, false, false, true, false⟩ else if c = 9 then ⟨true, -1, false, false, false, false, true⟩ else ⟨false, 0, false, false, false, false, false⟩
def shO (o : Int) : Sh := shC (cls o)
theorem op_cases (o : Int) (h0 : 0 ≤ o) : (o = 0 ∧ cls o = 1) ∨ (o = 1 ∧ cls o = 2) ∨ (o = 2 ∧ cls o = 3) ∨ (3 ≤ o ∧ o ≤ 7 ∧ cls o = 4) ∨ (8 ≤ o ∧ o ≤ 21 ∧ cls o = 5) ∨ (o = 22 ∧ cls o = 6) ∨ (o = 23 ∧ cls o = 7) ∨ (24 ≤ o ∧ o ≤ 26 ∧ cls o = 1) ∨ (27 ≤ o ∧ o ≤ 29 ∧ cls o = 8) ∨ (o = 30 ∧ cls o = 9) ∨ (31 ≤ o ∧ cls o = 0) := by
  rcases (show o = 0 ∨ o = 1 ∨ o = 2 ∨ (3 ≤ o ∧ o ≤ 7) ∨ (8 ≤ o ∧ o ≤ 21) ∨ o = 22 ∨ o = 23 ∨ (24 ≤ o ∧ o ≤ 26) ∨ (27 ≤ o ∧ o ≤ 29) ∨ o = 30 ∨ 31 ≤ o from by omega) with h | h | h | h | h | h | h | h | h | h | h
  · exact .inl ⟨h, by subst h; rfl⟩
  · exact .inr (.inl ⟨h, by subst h; rfl⟩)
  · exact .inr (.inr (.inl ⟨h, by subst h; rfl⟩))
  · exact .inr (.inr (.inr (.inl ⟨h.1, h.2, by unfold cls; rw [if_neg (by omega), if_neg (by omega), if_neg (by omega), if_pos (by omega)]⟩)))
  · exact .inr (.inr (.inr (.inr (.inl ⟨h.1, h.2, by unfold cls; rw [if_neg (by omega), if_neg (by omega), if_neg (by omega), if_neg (by omega), if_pos (by omega)]⟩))))
  · exact .inr (.inr (.inr (.inr (.inr (.inl ⟨h, by subst h; rfl⟩)))))
  · exact .inr (.inr (.inr (.inr (.inr (.inr (.inl ⟨h, by subst h; rfl⟩))))))
  · exact .inr (.inr (.inr (.inr (.inr (.inr (.inr (.inl ⟨h.1, h.2, by unfold cls; rw [if_pos (by omega)]⟩)))))))
  · exact .inr (.inr (.inr (.inr (.inr (.inr (.inr (.inr (.inl ⟨h.1, h.2, by unfold cls; rw [if_neg (by omega), if_neg (by omega), if_neg (by omega), if_neg (by omega), if_neg (by omega), if_neg (by omega), if_neg (by omega), if_pos (by omega)]⟩))))))))
  · exact .inr (.inr (.inr (.inr (.inr (.inr (.inr (.inr (.inr (.inl ⟨h, by subst h; rfl⟩)))))))))
  · exact .inr (.inr (.inr (.inr (.inr (.inr (.inr (.inr (.inr (.inr ⟨h, by unfold cls; rw [if_neg (by omega), if_neg (by omega), if_neg (by omega), if_neg (by omega), if_neg (by omega), if_neg (by omega), if_neg (by omega), if_neg (by omega), if_neg (by omega)]⟩)))))))))
structure IsSh (o : Int) (w0 : World) (e : Ending) (w : World) : Prop where
  ret : e = .returned (shO o).agg
  low : Below w0.heap.size w0 w
theorem shape_close {o : Int} {w0 w : World} {s : Sh} (h : shO o = s) (hb : Below w0.heap.size w0 w) : IsSh o w0 (.returned s.agg) w := ⟨by rw [h], hb⟩
set_option maxRecDepth 100000 in
set_option maxHeartbeats 2000000 in
theorem shape_any (o : Int) (w : World) (h0 : 0 ≤ o) : Calls Try.prog 45 #[.int .u8 o] w (IsSh o w) := by
  rcases op_cases o h0 with ⟨rfl, h⟩ | ⟨rfl, h⟩ | ⟨rfl, h⟩ | ⟨h1, h2, h⟩ | ⟨h1, h2, h⟩ | ⟨rfl, h⟩ | ⟨rfl, h⟩ | ⟨h1, h2, h⟩ | ⟨h1, h2, h⟩ | ⟨rfl, h⟩ | ⟨h1, h⟩
  · have hs : shO 0 = ⟨true, (-1), false, false, false, false, false⟩ := by unfold shO; rw [h]; rfl
    have HS := Lib.hid hs
    clear h hs h0
    go_enter Try.func45, Try.ntmps45
    go_wp2
    exact bodyPost_ret (v := .agg #[.bool true, .int .i64 (-1), .bool false, .bool false, .bool false, .bool false, .bool false]) (by simp [results, Try.results45, go_sem]) rfl (shape_close HS.out (by repeat (first | exact Below.refl _ _ | (refine Below.setCell ?_ (by simp) _) | (refine Below.alloc ?_ (by simp; try omega) _))))
  · have hs : shO 1 = ⟨true, 6, true, false, false, false, false⟩ := by unfold shO; rw [h]; rfl
    have HS := Lib.hid hs
    clear h hs h0
    go_enter Try.func45, Try.ntmps45
    go_wp2
    exact bodyPost_ret (v := .agg #[.bool true, .int .i64 6, .bool true, .bool false, .bool false, .bool false, .bool false]) (by simp [results, Try.results45, go_sem]) rfl (shape_close HS.out (by repeat (first | exact Below.refl _ _ | (refine Below.setCell ?_ (by simp) _) | (refine Below.alloc ?_ (by simp; try omega) _))))
  · have hs : shO 2 = ⟨true, 6, false, false, true, false, false⟩ := by unfold shO; rw [h]; rfl
    have HS := Lib.hid hs
    clear h hs h0
    go_enter Try.func45, Try.ntmps45
    go_wp2
    exact bodyPost_ret (v := .agg #[.bool true, .int .i64 6, .bool false, .bool false, .bool true, .bool false, .bool false]) (by simp [results, Try.results45, go_sem]) rfl (shape_close HS.out (by repeat (first | exact Below.refl _ _ | (refine Below.setCell ?_ (by simp) _) | (refine Below.alloc ?_ (by simp; try omega) _))))
  · have hs : shO o = ⟨true, 6, false, false, false, false, false⟩ := by unfold shO; rw [h]; rfl
    have HS := Lib.hid hs
    have e0 : (o == 0) = false := by simp; omega
    have e1 : (o == 1) = false := by simp; omega
    have e2 : (o == 2) = false := by simp; omega
    have e22 : (o == 22) = false := by simp; omega
    have e23 : (o == 23) = false := by simp; omega
    have e30 : (o == 30) = false := by simp; omega
    have l7 : decide (o ≤ 7) = true := by simp; omega
    have l21 : decide (o ≤ 21) = true := by simp; omega
    have l29 : decide (o ≤ 29) = true := by simp; omega
    have l26 : decide (o ≤ 26) = true := by simp; omega
    have m24 : decide (24 ≤ o) = false := by simp; omega
    clear h hs h1 h2 h0
    go_enter Try.func45, Try.ntmps45
    go_wp2
    exact bodyPost_ret (v := .agg #[.bool true, .int .i64 6, .bool false, .bool false, .bool false, .bool false, .bool false]) (by simp [results, Try.results45, go_sem]) rfl (shape_close HS.out (by repeat (first | exact Below.refl _ _ | (refine Below.setCell ?_ (by simp) _) | (refine Below.alloc ?_ (by simp; try omega) _))))
  · have hs : shO o = ⟨true, (-1), false, true, false, false, false⟩ := by unfold shO; rw [h]; rfl
    have HS := Lib.hid hs
    have e0 : (o == 0) = false := by simp; omega
    have e1 : (o == 1) = false := by simp; omega
    have e2 : (o == 2) = false := by simp; omega
    have e22 : (o == 22) = false := by simp; omega
    have e23 : (o == 23) = false := by simp; omega
    have e30 : (o == 30) = false := by simp; omega
    have l7 : decide (o ≤ 7) = false := by simp; omega
    have l21 : decide (o ≤ 21) = true := by simp; omega
    have l29 : decide (o ≤ 29) = true := by simp; omega
    have l26 : decide (o ≤ 26) = true := by simp; omega
    have m24 : decide (24 ≤ o) = false := by simp; omega
    clear h hs h1 h2 h0
    go_enter Try.func45, Try.ntmps45
    go_wp2
    exact bodyPost_ret (v := .agg #[.bool true, .int .i64 (-1), .bool false, .bool true, .bool false, .bool false, .bool false]) (by simp [results, Try.results45, go_sem]) rfl (shape_close HS.out (by repeat (first | exact Below.refl _ _ | (refine Below.setCell ?_ (by simp) _) | (refine Below.alloc ?_ (by simp; try omega) _))))
  · have hs : shO 22 = ⟨true, 3, false, false, true, false, false⟩ := by unfold shO; rw [h]; rfl
    have HS := Lib.hid hs
    clear h hs h0
    go_enter Try.func45, Try.ntmps45
    go_wp2
    exact bodyPost_ret (v := .agg #[.bool true, .int .i64 3, .bool false, .bool false, .bool true, .bool false, .bool false]) (by simp [results, Try.results45, go_sem]) rfl (shape_close HS.out (by repeat (first | exact Below.refl _ _ | (refine Below.setCell ?_ (by simp) _) | (refine Below.alloc ?_ (by simp; try omega) _))))
  · have hs : shO 23 = ⟨true, (-1), false, false, true, false, false⟩ := by unfold shO; rw [h]; rfl
    have HS := Lib.hid hs
    clear h hs h0
    go_enter Try.func45, Try.ntmps45
    go_wp2
    exact bodyPost_ret (v := .agg #[.bool true, .int .i64 (-1), .bool false, .bool false, .bool true, .bool false, .bool false]) (by simp [results, Try.results45, go_sem]) rfl (shape_close HS.out (by repeat (first | exact Below.refl _ _ | (refine Below.setCell ?_ (by simp) _) | (refine Below.alloc ?_ (by simp; try omega) _))))
  · have hs : shO o = ⟨true, (-1), false, false, false, false, false⟩ := by unfold shO; rw [h]; rfl
    have HS := Lib.hid hs
    have e0 : (o == 0) = false := by simp; omega
    have e1 : (o == 1) = false := by simp; omega
    have e2 : (o == 2) = false := by simp; omega
    have e22 : (o == 22) = false := by simp; omega
    have e23 : (o == 23) = false := by simp; omega
    have e30 : (o == 30) = false := by simp; omega
    have l7 : decide (o ≤ 7) = false := by simp; omega
    have l21 : decide (o ≤ 21) = false := by simp; omega
    have l29 : decide (o ≤ 29) = true := by simp; omega
    have l26 : decide (o ≤ 26) = true := by simp; omega
    have m24 : decide (24 ≤ o) = true := by simp; omega
    clear h hs h1 h2 h0
    go_enter Try.func45, Try.ntmps45
    go_wp2
    exact bodyPost_ret (v := .agg #[.bool true, .int .i64 (-1), .bool false, .bool false, .bool false, .bool false, .bool false]) (by simp [results, Try.results45, go_sem]) rfl (shape_close HS.out (by repeat (first | exact Below.refl _ _ | (refine Below.setCell ?_ (by simp) _) | (refine Below.alloc ?_ (by simp; try omega) _))))
  · have hs : shO o = ⟨true, (-1), false, false, false, true, false⟩ := by unfold shO; rw [h]; rfl
    have HS := Lib.hid hs
    have e0 : (o == 0) = false := by simp; omega
    have e1 : (o == 1) = false := by simp; omega
    have e2 : (o == 2) = false := by simp; omega
    have e22 : (o == 22) = false := by simp; omega
    have e23 : (o == 23) = false := by simp; omega
    have e30 : (o == 30) = false := by simp; omega
    have l7 : decide (o ≤ 7) = false := by simp; omega
    have l21 : decide (o ≤ 21) = false := by simp; omega
    have l29 : decide (o ≤ 29) = true := by simp; omega
    have l26 : decide (o ≤ 26) = false := by simp; omega
    have m24 : decide (24 ≤ o) = true := by simp; omega
    clear h hs h1 h2 h0
    go_enter Try.func45, Try.ntmps45
    go_wp2
    exact bodyPost_ret (v := .agg #[.bool true, .int .i64 (-1), .bool false, .bool false, .bool false, .bool true, .bool false]) (by simp [results, Try.results45, go_sem]) rfl (shape_close HS.out (by repeat (first | exact Below.refl _ _ | (refine Below.setCell ?_ (by simp) _) | (refine Below.alloc ?_ (by simp; try omega) _))))
  · have hs : shO 30 = ⟨true, (-1), false, false, false, false, true⟩ := by unfold shO; rw [h]; rfl
    have HS := Lib.hid hs
    clear h hs h0
    go_enter Try.func45, Try.ntmps45
    go_wp2
    exact bodyPost_ret (v := .agg #[.bool true, .int .i64 (-1), .bool false, .bool false, .bool false, .bool false, .bool true]) (by simp [results, Try.results45, go_sem]) rfl (shape_close HS.out (by repeat (first | exact Below.refl _ _ | (refine Below.setCell ?_ (by simp) _) | (refine Below.alloc ?_ (by simp; try omega) _))))
  · have hs : shO o = ⟨false, 0, false, false, false, false, false⟩ := by unfold shO; rw [h]; rfl
    have HS := Lib.hid hs
    have e0 : (o == 0) = false := by simp; omega
    have e1 : (o == 1) = false := by simp; omega
    have e2 : (o == 2) = false := by simp; omega
    have e22 : (o == 22) = false := by simp; omega
    have e23 : (o == 23) = false := by simp; omega
    have e30 : (o == 30) = false := by simp; omega
    have l7 : decide (o ≤ 7) = false := by simp; omega
    have l21 : decide (o ≤ 21) = false := by simp; omega
    have l29 : decide (o ≤ 29) = false := by simp; omega
    have l26 : decide (o ≤ 26) = false := by simp; omega
    have m24 : decide (24 ≤ o) = true := by simp; omega
    clear h hs h1 h0
    go_enter Try.func45, Try.ntmps45
    go_wp2
    exact bodyPost_ret (v := .agg #[.bool false, .int .i64 0, .bool false, .bool false, .bool false, .bool false, .bool false]) (by simp [results, Try.results45, go_sem]) rfl (shape_close HS.out (by repeat (first | exact Below.refl _ _ | (refine Below.setCell ?_ (by simp) _) | (refine Below.alloc ?_ (by simp; try omega) _))))
end Go.Proofs.Ytebmgladdgmmeaa
namespace Go.Proofs.Ytebmgladdgmmeaa
open Go.RowKit Go.WideShapes
set_option linter.unusedVariables false
set_option linter.unusedSimpArgs false
theorem sh_cases (o : Int) : (cls o = 0 ∧ shO o = ⟨false, 0, false, false, false, false, false⟩) ∨ (cls o = 1 ∧ shO o = ⟨true, -1, false, false, false, false, false⟩) ∨ (cls o = 2 ∧ shO o = ⟨true, 6, true, false, false, false, false⟩) ∨ (cls o = 3 ∧ shO o = ⟨true, 6, false, false, true, false, false⟩) ∨ (cls o = 4 ∧ shO o = ⟨true, 6, false, false, false, false, false⟩) ∨ (cls o = 5 ∧ shO o = ⟨true, -1, false, true, false, false, false⟩) ∨ (cls o = 6 ∧ shO o = ⟨true, 3, false, false, true, false, false⟩) ∨ (cls o = 7 ∧ shO o = ⟨true, -1, false, false, true, false, false⟩) ∨ (cls o = 8 ∧ shO o = ⟨true, -1, false, false, false, true, false⟩) ∨ (cls o = 9 ∧ shO o = ⟨true, -1, false, false, false, false, true⟩) := by
  unfold shO
  have h : cls o = 0 ∨ cls o = 1 ∨ cls o = 2 ∨ cls o = 3 ∨ cls o = 4 ∨ cls o = 5 ∨ cls o = 6 ∨ cls o = 7 ∨ cls o = 8 ∨ cls o = 9 := by
    unfold cls
    by_cases h1 : o = 0 ∨ (24 ≤ o ∧ o ≤ 26)
    · rw [if_pos h1]; omega
    · rw [if_neg h1]
      by_cases h2 : o = 1
      · rw [if_pos h2]; omega
      · rw [if_neg h2]
        by_cases h3 : o = 2
        · rw [if_pos h3]; omega
        · rw [if_neg h3]
          by_cases h4 : o ≤ 7
          · rw [if_pos h4]; omega
          · rw [if_neg h4]
            by_cases h5 : o ≤ 21
            · rw [if_pos h5]; omega
            · rw [if_neg h5]
              by_cases h6 : o = 22
              · rw [if_pos h6]; omega
              · rw [if_neg h6]
                by_cases h7 : o = 23
                · rw [if_pos h7]; omega
                · rw [if_neg h7]
                  by_cases h8 : o ≤ 29
                  · rw [if_pos h8]; omega
                  · rw [if_neg h8]
                    by_cases h9 : o = 30
                    · rw [if_pos h9]; omega
                    · rw [if_neg h9]; omega
  rcases h with h | h | h | h | h | h | h | h | h | h <;> rw [h] <;> simp [shC]
def rightI (t : In) : Bool :=
  (shO t.o).known && inB t.d 0 (shO t.o).place (decide (0 ≤ (shO t.o).place)) && inB t.s 0 (if (shO t.o).operand then 7 else 6) ((shO t.o).frm || (shO t.o).operand) &&
    inB t.n 0 (if (shO t.o).jump || (shO t.o).long then 65535 else 255) (if (shO t.o).jump || (shO t.o).long then true else (shO t.o).number || ((shO t.o).operand && t.s == 7))
def codeI (t : In) : Int := if rightI t then 0 else 110
def moreI (t : In) : Int := if (shO t.o).long then 2 else if (shO t.o).frm || (shO t.o).number || (shO t.o).jump || ((shO t.o).operand && t.s == 7) then 1 else 0
def lenI (t : In) : Int := if rightI t then 1 + moreI t else 0
theorem inC_any (n most : Int) (named : Bool) (w : World) : Calls Try.prog 46 #[.int .i64 n, .int .i64 most, .bool named] w (Same (.bool (inB n 0 most named)) w) := by
  cases named
  · by_cases h1 : 0 ≤ n
    · have g : decide (0 ≤ n) = true := by simp; omega
      go_enter Try.func46, Try.ntmps46
      go_wp2
      go_ret
      exact ⟨by simp [inB, h1], rfl⟩
    · have g : decide (0 ≤ n) = false := by simp; omega
      go_enter Try.func46, Try.ntmps46
      go_wp2
      go_ret
      exact ⟨by simp [inB, g], rfl⟩
  · by_cases h1 : 0 ≤ n
    · have g : decide (0 ≤ n) = true := by simp; omega
      go_enter Try.func46, Try.ntmps46
      go_wp2
      go_ret
      exact ⟨by simp [inB, h1], rfl⟩
    · have g : decide (0 ≤ n) = false := by simp; omega
      go_enter Try.func46, Try.ntmps46
      go_wp2
      go_ret
      exact ⟨by simp [inB, g], rfl⟩
end Go.Proofs.Ytebmgladdgmmeaa
namespace Go.Proofs.Ytebmgladdgmmeaa
open Go.RowKit Go.WideShapes
set_option linter.unusedVariables false
set_option linter.unusedSimpArgs false
set_option maxRecDepth 100000 in
set_option maxHeartbeats 4000000 in
theorem rightI_0 (o d s n : Int) (w : World) (h0 : 0 ≤ o) (h : shO o = ⟨false, 0, false, false, false, false, false⟩) : Calls Try.prog 13 #[.agg #[.int .u8 o, .int .i64 d, .int .i64 s, .int .i64 n]] w (Quiet (.int .i64 (codeI ⟨o, d, s, n⟩)) w) := by
  have hrow := fun W => shape_any o W h0
  have hR : ∀ w e w', IsSh o w e w' → e = .returned (.agg #[.bool false, .int .i64 (0), .bool false, .bool false, .bool false, .bool false, .bool false]) ∧ Below w.heap.size w w' := fun w e w' hh => ⟨by rw [hh.1, h]; rfl, hh.2⟩
  have hone : codeI ⟨o, d, s, n⟩ = 110 := by simp [codeI, codeI, rightI, moreI, h]
  obtain ⟨C, hC⟩ : ∃ C, codeI ⟨o, d, s, n⟩ = C := ⟨_, rfl⟩
  rw [hC] at hone ⊢
  have HC := Lib.hid hone
  have HROW := Lib.hid fun w => (hrow w).mono (hR w)
  clear hrow hR hone h hC
  go_enter Try.func13, Try.ntmps13
  go_wp2_with fail
  refine (HROW.out _).mono ?_
  rintro e w1 ⟨rfl, hb1⟩
  have hB := ((Blk.new w 31 #[.int .u8 o, .int .i64 d, .int .i64 s, .int .i64 n]).below hb1).alloc (.cells #[.bool false, .int .i64 (0), .bool false, .bool false, .bool false, .bool false, .bool false] 82)
  have p0 := hB.cell 0
  have p1 := hB.cell 1
  have p2 := hB.cell 2
  have p3 := hB.cell 3
  simp at p0 p1 p2 p3
  have HB := Lib.hid (((Below.refl w.heap.size w).alloc (Nat.le_refl _) _).trans (hb1.mono (by rw [World.size_alloc]; omega)))
  clear hB hb1
  go_wp2_with (go_at_call 46; refine (inC_any _ _ _ _).mono ?_; rintro e w2 ⟨rfl, rfl⟩)
  all_goals
    go_ret
    refine ⟨ret_i64 ?_, HB.out.alloc HB.out.size _⟩
    have hc := HC.out
    clear HC HROW HB
    subst hc
    first | rfl | simp_all
set_option maxRecDepth 100000 in
set_option maxHeartbeats 4000000 in
theorem rightI_1 (o d s n : Int) (w : World) (h0 : 0 ≤ o) (h : shO o = ⟨true, -1, false, false, false, false, false⟩) : Calls Try.prog 13 #[.agg #[.int .u8 o, .int .i64 d, .int .i64 s, .int .i64 n]] w (Quiet (.int .i64 (codeI ⟨o, d, s, n⟩)) w) := by
  have hrow := fun W => shape_any o W h0
  have hR : ∀ w e w', IsSh o w e w' → e = .returned (.agg #[.bool true, .int .i64 (-1), .bool false, .bool false, .bool false, .bool false, .bool false]) ∧ Below w.heap.size w w' := fun w e w' hh => ⟨by rw [hh.1, h]; rfl, hh.2⟩
  have hone : codeI ⟨o, d, s, n⟩ = if (inB d 0 (-1) false && inB s 0 6 false && inB n 0 255 false) = true then 110 - 110 else 110 := by simp [codeI, codeI, rightI, moreI, h]
  obtain ⟨C, hC⟩ : ∃ C, codeI ⟨o, d, s, n⟩ = C := ⟨_, rfl⟩
  rw [hC] at hone ⊢
  have HC := Lib.hid hone
  have HROW := Lib.hid fun w => (hrow w).mono (hR w)
  clear hrow hR hone h hC
  go_enter Try.func13, Try.ntmps13
  go_wp2_with fail
  refine (HROW.out _).mono ?_
  rintro e w1 ⟨rfl, hb1⟩
  have hB := ((Blk.new w 31 #[.int .u8 o, .int .i64 d, .int .i64 s, .int .i64 n]).below hb1).alloc (.cells #[.bool true, .int .i64 (-1), .bool false, .bool false, .bool false, .bool false, .bool false] 82)
  have p0 := hB.cell 0
  have p1 := hB.cell 1
  have p2 := hB.cell 2
  have p3 := hB.cell 3
  simp at p0 p1 p2 p3
  have HB := Lib.hid (((Below.refl w.heap.size w).alloc (Nat.le_refl _) _).trans (hb1.mono (by rw [World.size_alloc]; omega)))
  clear hB hb1
  go_wp2_with (go_at_call 46; refine (inC_any _ _ _ _).mono ?_; rintro e w2 ⟨rfl, rfl⟩)
  all_goals
    go_ret
    refine ⟨ret_i64 ?_, HB.out.alloc HB.out.size _⟩
    have hc := HC.out
    clear HC HROW HB
    subst hc
    first | rfl | simp_all
set_option maxRecDepth 100000 in
set_option maxHeartbeats 4000000 in
theorem rightI_2 (o d s n : Int) (w : World) (h0 : 0 ≤ o) (h : shO o = ⟨true, 6, true, false, false, false, false⟩) : Calls Try.prog 13 #[.agg #[.int .u8 o, .int .i64 d, .int .i64 s, .int .i64 n]] w (Quiet (.int .i64 (codeI ⟨o, d, s, n⟩)) w) := by
  have hrow := fun W => shape_any o W h0
  have hR : ∀ w e w', IsSh o w e w' → e = .returned (.agg #[.bool true, .int .i64 (6), .bool true, .bool false, .bool false, .bool false, .bool false]) ∧ Below w.heap.size w w' := fun w e w' hh => ⟨by rw [hh.1, h]; rfl, hh.2⟩
  have hone : codeI ⟨o, d, s, n⟩ = if (inB d 0 (6) true && inB s 0 6 true && inB n 0 255 false) = true then 110 - 110 else 110 := by simp [codeI, codeI, rightI, moreI, h]
  obtain ⟨C, hC⟩ : ∃ C, codeI ⟨o, d, s, n⟩ = C := ⟨_, rfl⟩
  rw [hC] at hone ⊢
  have HC := Lib.hid hone
  have HROW := Lib.hid fun w => (hrow w).mono (hR w)
  clear hrow hR hone h hC
  go_enter Try.func13, Try.ntmps13
  go_wp2_with fail
  refine (HROW.out _).mono ?_
  rintro e w1 ⟨rfl, hb1⟩
  have hB := ((Blk.new w 31 #[.int .u8 o, .int .i64 d, .int .i64 s, .int .i64 n]).below hb1).alloc (.cells #[.bool true, .int .i64 (6), .bool true, .bool false, .bool false, .bool false, .bool false] 82)
  have p0 := hB.cell 0
  have p1 := hB.cell 1
  have p2 := hB.cell 2
  have p3 := hB.cell 3
  simp at p0 p1 p2 p3
  have HB := Lib.hid (((Below.refl w.heap.size w).alloc (Nat.le_refl _) _).trans (hb1.mono (by rw [World.size_alloc]; omega)))
  clear hB hb1
  go_wp2_with (go_at_call 46; refine (inC_any _ _ _ _).mono ?_; rintro e w2 ⟨rfl, rfl⟩)
  all_goals
    go_ret
    refine ⟨ret_i64 ?_, HB.out.alloc HB.out.size _⟩
    have hc := HC.out
    clear HC HROW HB
    subst hc
    first | rfl | simp_all
set_option maxRecDepth 100000 in
set_option maxHeartbeats 4000000 in
theorem rightI_3 (o d s n : Int) (w : World) (h0 : 0 ≤ o) (h : shO o = ⟨true, 6, false, false, true, false, false⟩) : Calls Try.prog 13 #[.agg #[.int .u8 o, .int .i64 d, .int .i64 s, .int .i64 n]] w (Quiet (.int .i64 (codeI ⟨o, d, s, n⟩)) w) := by
  have hrow := fun W => shape_any o W h0
  have hR : ∀ w e w', IsSh o w e w' → e = .returned (.agg #[.bool true, .int .i64 (6), .bool false, .bool false, .bool true, .bool false, .bool false]) ∧ Below w.heap.size w w' := fun w e w' hh => ⟨by rw [hh.1, h]; rfl, hh.2⟩
  have hone : codeI ⟨o, d, s, n⟩ = if (inB d 0 (6) true && inB s 0 6 false && inB n 0 255 true) = true then 110 - 110 else 110 := by simp [codeI, codeI, rightI, moreI, h]
  obtain ⟨C, hC⟩ : ∃ C, codeI ⟨o, d, s, n⟩ = C := ⟨_, rfl⟩
  rw [hC] at hone ⊢
  have HC := Lib.hid hone
  have HROW := Lib.hid fun w => (hrow w).mono (hR w)
  clear hrow hR hone h hC
  go_enter Try.func13, Try.ntmps13
  go_wp2_with fail
  refine (HROW.out _).mono ?_
  rintro e w1 ⟨rfl, hb1⟩
  have hB := ((Blk.new w 31 #[.int .u8 o, .int .i64 d, .int .i64 s, .int .i64 n]).below hb1).alloc (.cells #[.bool true, .int .i64 (6), .bool false, .bool false, .bool true, .bool false, .bool false] 82)
  have p0 := hB.cell 0
  have p1 := hB.cell 1
  have p2 := hB.cell 2
  have p3 := hB.cell 3
  simp at p0 p1 p2 p3
  have HB := Lib.hid (((Below.refl w.heap.size w).alloc (Nat.le_refl _) _).trans (hb1.mono (by rw [World.size_alloc]; omega)))
  clear hB hb1
  go_wp2_with (go_at_call 46; refine (inC_any _ _ _ _).mono ?_; rintro e w2 ⟨rfl, rfl⟩)
  all_goals
    go_ret
    refine ⟨ret_i64 ?_, HB.out.alloc HB.out.size _⟩
    have hc := HC.out
    clear HC HROW HB
    subst hc
    first | rfl | simp_all
end Go.Proofs.Ytebmgladdgmmeaa
namespace Go.Proofs.Ytebmgladdgmmeaa
open Go.RowKit Go.WideShapes
set_option linter.unusedVariables false
set_option linter.unusedSimpArgs false
set_option maxRecDepth 100000 in
set_option maxHeartbeats 4000000 in
theorem rightI_4 (o d s n : Int) (w : World) (h0 : 0 ≤ o) (h : shO o = ⟨true, 6, false, false, false, false, false⟩) : Calls Try.prog 13 #[.agg #[.int .u8 o, .int .i64 d, .int .i64 s, .int .i64 n]] w (Quiet (.int .i64 (codeI ⟨o, d, s, n⟩)) w) := by
  have hrow := fun W => shape_any o W h0
  have hR : ∀ w e w', IsSh o w e w' → e = .returned (.agg #[.bool true, .int .i64 (6), .bool false, .bool false, .bool false, .bool false, .bool false]) ∧ Below w.heap.size w w' := fun w e w' hh => ⟨by rw [hh.1, h]; rfl, hh.2⟩
  have hone : codeI ⟨o, d, s, n⟩ = if (inB d 0 (6) true && inB s 0 6 false && inB n 0 255 false) = true then 110 - 110 else 110 := by simp [codeI, codeI, rightI, moreI, h]
  obtain ⟨C, hC⟩ : ∃ C, codeI ⟨o, d, s, n⟩ = C := ⟨_, rfl⟩
  rw [hC] at hone ⊢
  have HC := Lib.hid hone
  have HROW := Lib.hid fun w => (hrow w).mono (hR w)
  clear hrow hR hone h hC
  go_enter Try.func13, Try.ntmps13
  go_wp2_with fail
  refine (HROW.out _).mono ?_
  rintro e w1 ⟨rfl, hb1⟩
  have hB := ((Blk.new w 31 #[.int .u8 o, .int .i64 d, .int .i64 s, .int .i64 n]).below hb1).alloc (.cells #[.bool true, .int .i64 (6), .bool false, .bool false, .bool false, .bool false, .bool false] 82)
  have p0 := hB.cell 0
  have p1 := hB.cell 1
  have p2 := hB.cell 2
  have p3 := hB.cell 3
  simp at p0 p1 p2 p3
  have HB := Lib.hid (((Below.refl w.heap.size w).alloc (Nat.le_refl _) _).trans (hb1.mono (by rw [World.size_alloc]; omega)))
  clear hB hb1
  go_wp2_with (go_at_call 46; refine (inC_any _ _ _ _).mono ?_; rintro e w2 ⟨rfl, rfl⟩)
  all_goals
    go_ret
    refine ⟨ret_i64 ?_, HB.out.alloc HB.out.size _⟩
    have hc := HC.out
    clear HC HROW HB
    subst hc
    first | rfl | simp_all
set_option maxRecDepth 100000 in
set_option maxHeartbeats 4000000 in
theorem rightI_5 (o d s n : Int) (w : World) (h0 : 0 ≤ o) (h : shO o = ⟨true, -1, false, true, false, false, false⟩) : Calls Try.prog 13 #[.agg #[.int .u8 o, .int .i64 d, .int .i64 s, .int .i64 n]] w (Quiet (.int .i64 (codeI ⟨o, d, s, n⟩)) w) := by
  have hrow := fun W => shape_any o W h0
  have hR : ∀ w e w', IsSh o w e w' → e = .returned (.agg #[.bool true, .int .i64 (-1), .bool false, .bool true, .bool false, .bool false, .bool false]) ∧ Below w.heap.size w w' := fun w e w' hh => ⟨by rw [hh.1, h]; rfl, hh.2⟩
  have hone : codeI ⟨o, d, s, n⟩ = if (inB d 0 (-1) false && inB s 0 7 true && inB n 0 255 (s == 7)) = true then 110 - 110 else 110 := by simp [codeI, codeI, rightI, moreI, h]
  obtain ⟨C, hC⟩ : ∃ C, codeI ⟨o, d, s, n⟩ = C := ⟨_, rfl⟩
  rw [hC] at hone ⊢
  have HC := Lib.hid hone
  have HROW := Lib.hid fun w => (hrow w).mono (hR w)
  clear hrow hR hone h hC
  go_enter Try.func13, Try.ntmps13
  go_wp2_with fail
  refine (HROW.out _).mono ?_
  rintro e w1 ⟨rfl, hb1⟩
  have hB := ((Blk.new w 31 #[.int .u8 o, .int .i64 d, .int .i64 s, .int .i64 n]).below hb1).alloc (.cells #[.bool true, .int .i64 (-1), .bool false, .bool true, .bool false, .bool false, .bool false] 82)
  have p0 := hB.cell 0
  have p1 := hB.cell 1
  have p2 := hB.cell 2
  have p3 := hB.cell 3
  simp at p0 p1 p2 p3
  have HB := Lib.hid (((Below.refl w.heap.size w).alloc (Nat.le_refl _) _).trans (hb1.mono (by rw [World.size_alloc]; omega)))
  clear hB hb1
  go_wp2_with (go_at_call 46; refine (inC_any _ _ _ _).mono ?_; rintro e w2 ⟨rfl, rfl⟩)
  all_goals
    go_ret
    refine ⟨ret_i64 ?_, HB.out.alloc HB.out.size _⟩
    have hc := HC.out
    clear HC HROW HB
    subst hc
    first | rfl | simp_all
set_option maxRecDepth 100000 in
set_option maxHeartbeats 4000000 in
theorem rightI_6 (o d s n : Int) (w : World) (h0 : 0 ≤ o) (h : shO o = ⟨true, 3, false, false, true, false, false⟩) : Calls Try.prog 13 #[.agg #[.int .u8 o, .int .i64 d, .int .i64 s, .int .i64 n]] w (Quiet (.int .i64 (codeI ⟨o, d, s, n⟩)) w) := by
  have hrow := fun W => shape_any o W h0
  have hR : ∀ w e w', IsSh o w e w' → e = .returned (.agg #[.bool true, .int .i64 (3), .bool false, .bool false, .bool true, .bool false, .bool false]) ∧ Below w.heap.size w w' := fun w e w' hh => ⟨by rw [hh.1, h]; rfl, hh.2⟩
  have hone : codeI ⟨o, d, s, n⟩ = if (inB d 0 (3) true && inB s 0 6 false && inB n 0 255 true) = true then 110 - 110 else 110 := by simp [codeI, codeI, rightI, moreI, h]
  obtain ⟨C, hC⟩ : ∃ C, codeI ⟨o, d, s, n⟩ = C := ⟨_, rfl⟩
  rw [hC] at hone ⊢
  have HC := Lib.hid hone
  have HROW := Lib.hid fun w => (hrow w).mono (hR w)
  clear hrow hR hone h hC
  go_enter Try.func13, Try.ntmps13
  go_wp2_with fail
  refine (HROW.out _).mono ?_
  rintro e w1 ⟨rfl, hb1⟩
  have hB := ((Blk.new w 31 #[.int .u8 o, .int .i64 d, .int .i64 s, .int .i64 n]).below hb1).alloc (.cells #[.bool true, .int .i64 (3), .bool false, .bool false, .bool true, .bool false, .bool false] 82)
  have p0 := hB.cell 0
  have p1 := hB.cell 1
  have p2 := hB.cell 2
  have p3 := hB.cell 3
  simp at p0 p1 p2 p3
  have HB := Lib.hid (((Below.refl w.heap.size w).alloc (Nat.le_refl _) _).trans (hb1.mono (by rw [World.size_alloc]; omega)))
  clear hB hb1
  go_wp2_with (go_at_call 46; refine (inC_any _ _ _ _).mono ?_; rintro e w2 ⟨rfl, rfl⟩)
  all_goals
    go_ret
    refine ⟨ret_i64 ?_, HB.out.alloc HB.out.size _⟩
    have hc := HC.out
    clear HC HROW HB
    subst hc
    first | rfl | simp_all
end Go.Proofs.Ytebmgladdgmmeaa
namespace Go.Proofs.Ytebmgladdgmmeaa
open Go.RowKit Go.WideShapes
set_option linter.unusedVariables false
set_option linter.unusedSimpArgs false
set_option maxRecDepth 100000 in
set_option maxHeartbeats 4000000 in
theorem rightI_7 (o d s n : Int) (w : World) (h0 : 0 ≤ o) (h : shO o = ⟨true, -1, false, false, true, false, false⟩) : Calls Try.prog 13 #[.agg #[.int .u8 o, .int .i64 d, .int .i64 s, .int .i64 n]] w (Quiet (.int .i64 (codeI ⟨o, d, s, n⟩)) w) := by
  have hrow := fun W => shape_any o W h0
  have hR : ∀ w e w', IsSh o w e w' → e = .returned (.agg #[.bool true, .int .i64 (-1), .bool false, .bool false, .bool true, .bool false, .bool false]) ∧ Below w.heap.size w w' := fun w e w' hh => ⟨by rw [hh.1, h]; rfl, hh.2⟩
  have hone : codeI ⟨o, d, s, n⟩ = if (inB d 0 (-1) false && inB s 0 6 false && inB n 0 255 true) = true then 110 - 110 else 110 := by simp [codeI, codeI, rightI, moreI, h]
  obtain ⟨C, hC⟩ : ∃ C, codeI ⟨o, d, s, n⟩ = C := ⟨_, rfl⟩
  rw [hC] at hone ⊢
  have HC := Lib.hid hone
  have HROW := Lib.hid fun w => (hrow w).mono (hR w)
  clear hrow hR hone h hC
  go_enter Try.func13, Try.ntmps13
  go_wp2_with fail
  refine (HROW.out _).mono ?_
  rintro e w1 ⟨rfl, hb1⟩
  have hB := ((Blk.new w 31 #[.int .u8 o, .int .i64 d, .int .i64 s, .int .i64 n]).below hb1).alloc (.cells #[.bool true, .int .i64 (-1), .bool false, .bool false, .bool true, .bool false, .bool false] 82)
  have p0 := hB.cell 0
  have p1 := hB.cell 1
  have p2 := hB.cell 2
  have p3 := hB.cell 3
  simp at p0 p1 p2 p3
  have HB := Lib.hid (((Below.refl w.heap.size w).alloc (Nat.le_refl _) _).trans (hb1.mono (by rw [World.size_alloc]; omega)))
  clear hB hb1
  go_wp2_with (go_at_call 46; refine (inC_any _ _ _ _).mono ?_; rintro e w2 ⟨rfl, rfl⟩)
  all_goals
    go_ret
    refine ⟨ret_i64 ?_, HB.out.alloc HB.out.size _⟩
    have hc := HC.out
    clear HC HROW HB
    subst hc
    first | rfl | simp_all
set_option maxRecDepth 100000 in
set_option maxHeartbeats 4000000 in
theorem rightI_8 (o d s n : Int) (w : World) (h0 : 0 ≤ o) (h : shO o = ⟨true, -1, false, false, false, true, false⟩) : Calls Try.prog 13 #[.agg #[.int .u8 o, .int .i64 d, .int .i64 s, .int .i64 n]] w (Quiet (.int .i64 (codeI ⟨o, d, s, n⟩)) w) := by
  have hrow := fun W => shape_any o W h0
  have hR : ∀ w e w', IsSh o w e w' → e = .returned (.agg #[.bool true, .int .i64 (-1), .bool false, .bool false, .bool false, .bool true, .bool false]) ∧ Below w.heap.size w w' := fun w e w' hh => ⟨by rw [hh.1, h]; rfl, hh.2⟩
  have hone : codeI ⟨o, d, s, n⟩ = if (inB d 0 (-1) false && inB s 0 6 false && inB n 0 65535 true) = true then 110 - 110 else 110 := by simp [codeI, codeI, rightI, moreI, h]
  obtain ⟨C, hC⟩ : ∃ C, codeI ⟨o, d, s, n⟩ = C := ⟨_, rfl⟩
  rw [hC] at hone ⊢
  have HC := Lib.hid hone
  have HROW := Lib.hid fun w => (hrow w).mono (hR w)
  clear hrow hR hone h hC
  go_enter Try.func13, Try.ntmps13
  go_wp2_with fail
  refine (HROW.out _).mono ?_
  rintro e w1 ⟨rfl, hb1⟩
  have hB := ((Blk.new w 31 #[.int .u8 o, .int .i64 d, .int .i64 s, .int .i64 n]).below hb1).alloc (.cells #[.bool true, .int .i64 (-1), .bool false, .bool false, .bool false, .bool true, .bool false] 82)
  have p0 := hB.cell 0
  have p1 := hB.cell 1
  have p2 := hB.cell 2
  have p3 := hB.cell 3
  simp at p0 p1 p2 p3
  have HB := Lib.hid (((Below.refl w.heap.size w).alloc (Nat.le_refl _) _).trans (hb1.mono (by rw [World.size_alloc]; omega)))
  clear hB hb1
  go_wp2_with (go_at_call 46; refine (inC_any _ _ _ _).mono ?_; rintro e w2 ⟨rfl, rfl⟩)
  all_goals
    go_ret
    refine ⟨ret_i64 ?_, HB.out.alloc HB.out.size _⟩
    have hc := HC.out
    clear HC HROW HB
    subst hc
    first | rfl | simp_all
set_option maxRecDepth 100000 in
set_option maxHeartbeats 4000000 in
theorem rightI_9 (o d s n : Int) (w : World) (h0 : 0 ≤ o) (h : shO o = ⟨true, -1, false, false, false, false, true⟩) : Calls Try.prog 13 #[.agg #[.int .u8 o, .int .i64 d, .int .i64 s, .int .i64 n]] w (Quiet (.int .i64 (codeI ⟨o, d, s, n⟩)) w) := by
  have hrow := fun W => shape_any o W h0
  have hR : ∀ w e w', IsSh o w e w' → e = .returned (.agg #[.bool true, .int .i64 (-1), .bool false, .bool false, .bool false, .bool false, .bool true]) ∧ Below w.heap.size w w' := fun w e w' hh => ⟨by rw [hh.1, h]; rfl, hh.2⟩
  have hone : codeI ⟨o, d, s, n⟩ = if (inB d 0 (-1) false && inB s 0 6 false && inB n 0 65535 true) = true then 110 - 110 else 110 := by simp [codeI, codeI, rightI, moreI, h]
  obtain ⟨C, hC⟩ : ∃ C, codeI ⟨o, d, s, n⟩ = C := ⟨_, rfl⟩
  rw [hC] at hone ⊢
  have HC := Lib.hid hone
  have HROW := Lib.hid fun w => (hrow w).mono (hR w)
  clear hrow hR hone h hC
  go_enter Try.func13, Try.ntmps13
  go_wp2_with fail
  refine (HROW.out _).mono ?_
  rintro e w1 ⟨rfl, hb1⟩
  have hB := ((Blk.new w 31 #[.int .u8 o, .int .i64 d, .int .i64 s, .int .i64 n]).below hb1).alloc (.cells #[.bool true, .int .i64 (-1), .bool false, .bool false, .bool false, .bool false, .bool true] 82)
  have p0 := hB.cell 0
  have p1 := hB.cell 1
  have p2 := hB.cell 2
  have p3 := hB.cell 3
  simp at p0 p1 p2 p3
  have HB := Lib.hid (((Below.refl w.heap.size w).alloc (Nat.le_refl _) _).trans (hb1.mono (by rw [World.size_alloc]; omega)))
  clear hB hb1
  go_wp2_with (go_at_call 46; refine (inC_any _ _ _ _).mono ?_; rintro e w2 ⟨rfl, rfl⟩)
  all_goals
    go_ret
    refine ⟨ret_i64 ?_, HB.out.alloc HB.out.size _⟩
    have hc := HC.out
    clear HC HROW HB
    subst hc
    first | rfl | simp_all
end Go.Proofs.Ytebmgladdgmmeaa
namespace Go.Proofs.Ytebmgladdgmmeaa
open Go.RowKit Go.WideShapes
set_option linter.unusedVariables false
set_option linter.unusedSimpArgs false
set_option maxRecDepth 100000 in
set_option maxHeartbeats 4000000 in
theorem moreI_0 (o d s n : Int) (w : World) (h0 : 0 ≤ o) (h : shO o = ⟨false, 0, false, false, false, false, false⟩) : Calls Try.prog 81 #[.agg #[.int .u8 o, .int .i64 d, .int .i64 s, .int .i64 n]] w (Quiet (.int .i64 (moreI ⟨o, d, s, n⟩)) w) := by
  have hrow := fun W => shape_any o W h0
  have hR : ∀ w e w', IsSh o w e w' → e = .returned (.agg #[.bool false, .int .i64 (0), .bool false, .bool false, .bool false, .bool false, .bool false]) ∧ Below w.heap.size w w' := fun w e w' hh => ⟨by rw [hh.1, h]; rfl, hh.2⟩
  have hone : moreI ⟨o, d, s, n⟩ = 0 := by simp [moreI, codeI, rightI, moreI, h]
  obtain ⟨C, hC⟩ : ∃ C, moreI ⟨o, d, s, n⟩ = C := ⟨_, rfl⟩
  rw [hC] at hone ⊢
  have HC := Lib.hid hone
  have HROW := Lib.hid fun w => (hrow w).mono (hR w)
  clear hrow hR hone h hC
  go_enter Try.func81, Try.ntmps81
  go_wp2_with fail
  refine (HROW.out _).mono ?_
  rintro e w1 ⟨rfl, hb1⟩
  have hB := ((Blk.new w 31 #[.int .u8 o, .int .i64 d, .int .i64 s, .int .i64 n]).below hb1).alloc (.cells #[.bool false, .int .i64 (0), .bool false, .bool false, .bool false, .bool false, .bool false] 82)
  have p0 := hB.cell 0
  have p1 := hB.cell 1
  have p2 := hB.cell 2
  have p3 := hB.cell 3
  simp at p0 p1 p2 p3
  have HB := Lib.hid (((Below.refl w.heap.size w).alloc (Nat.le_refl _) _).trans (hb1.mono (by rw [World.size_alloc]; omega)))
  clear hB hb1
  go_wp2_with (fail)
  all_goals
    go_ret
    refine ⟨ret_i64 ?_, HB.out.alloc HB.out.size _⟩
    have hc := HC.out
    clear HC HROW HB
    subst hc
    first | rfl | simp_all
set_option maxRecDepth 100000 in
set_option maxHeartbeats 4000000 in
theorem moreI_1 (o d s n : Int) (w : World) (h0 : 0 ≤ o) (h : shO o = ⟨true, -1, false, false, false, false, false⟩) : Calls Try.prog 81 #[.agg #[.int .u8 o, .int .i64 d, .int .i64 s, .int .i64 n]] w (Quiet (.int .i64 (moreI ⟨o, d, s, n⟩)) w) := by
  have hrow := fun W => shape_any o W h0
  have hR : ∀ w e w', IsSh o w e w' → e = .returned (.agg #[.bool true, .int .i64 (-1), .bool false, .bool false, .bool false, .bool false, .bool false]) ∧ Below w.heap.size w w' := fun w e w' hh => ⟨by rw [hh.1, h]; rfl, hh.2⟩
  have hone : moreI ⟨o, d, s, n⟩ = 0 := by simp [moreI, codeI, rightI, moreI, h]
  obtain ⟨C, hC⟩ : ∃ C, moreI ⟨o, d, s, n⟩ = C := ⟨_, rfl⟩
  rw [hC] at hone ⊢
  have HC := Lib.hid hone
  have HROW := Lib.hid fun w => (hrow w).mono (hR w)
  clear hrow hR hone h hC
  go_enter Try.func81, Try.ntmps81
  go_wp2_with fail
  refine (HROW.out _).mono ?_
  rintro e w1 ⟨rfl, hb1⟩
  have hB := ((Blk.new w 31 #[.int .u8 o, .int .i64 d, .int .i64 s, .int .i64 n]).below hb1).alloc (.cells #[.bool true, .int .i64 (-1), .bool false, .bool false, .bool false, .bool false, .bool false] 82)
  have p0 := hB.cell 0
  have p1 := hB.cell 1
  have p2 := hB.cell 2
  have p3 := hB.cell 3
  simp at p0 p1 p2 p3
  have HB := Lib.hid (((Below.refl w.heap.size w).alloc (Nat.le_refl _) _).trans (hb1.mono (by rw [World.size_alloc]; omega)))
  clear hB hb1
  go_wp2_with (fail)
  all_goals
    go_ret
    refine ⟨ret_i64 ?_, HB.out.alloc HB.out.size _⟩
    have hc := HC.out
    clear HC HROW HB
    subst hc
    first | rfl | simp_all
set_option maxRecDepth 100000 in
set_option maxHeartbeats 4000000 in
theorem moreI_2 (o d s n : Int) (w : World) (h0 : 0 ≤ o) (h : shO o = ⟨true, 6, true, false, false, false, false⟩) : Calls Try.prog 81 #[.agg #[.int .u8 o, .int .i64 d, .int .i64 s, .int .i64 n]] w (Quiet (.int .i64 (moreI ⟨o, d, s, n⟩)) w) := by
  have hrow := fun W => shape_any o W h0
  have hR : ∀ w e w', IsSh o w e w' → e = .returned (.agg #[.bool true, .int .i64 (6), .bool true, .bool false, .bool false, .bool false, .bool false]) ∧ Below w.heap.size w w' := fun w e w' hh => ⟨by rw [hh.1, h]; rfl, hh.2⟩
  have hone : moreI ⟨o, d, s, n⟩ = 1 := by simp [moreI, codeI, rightI, moreI, h]
  obtain ⟨C, hC⟩ : ∃ C, moreI ⟨o, d, s, n⟩ = C := ⟨_, rfl⟩
  rw [hC] at hone ⊢
  have HC := Lib.hid hone
  have HROW := Lib.hid fun w => (hrow w).mono (hR w)
  clear hrow hR hone h hC
  go_enter Try.func81, Try.ntmps81
  go_wp2_with fail
  refine (HROW.out _).mono ?_
  rintro e w1 ⟨rfl, hb1⟩
  have hB := ((Blk.new w 31 #[.int .u8 o, .int .i64 d, .int .i64 s, .int .i64 n]).below hb1).alloc (.cells #[.bool true, .int .i64 (6), .bool true, .bool false, .bool false, .bool false, .bool false] 82)
  have p0 := hB.cell 0
  have p1 := hB.cell 1
  have p2 := hB.cell 2
  have p3 := hB.cell 3
  simp at p0 p1 p2 p3
  have HB := Lib.hid (((Below.refl w.heap.size w).alloc (Nat.le_refl _) _).trans (hb1.mono (by rw [World.size_alloc]; omega)))
  clear hB hb1
  go_wp2_with (fail)
  all_goals
    go_ret
    refine ⟨ret_i64 ?_, HB.out.alloc HB.out.size _⟩
    have hc := HC.out
    clear HC HROW HB
    subst hc
    first | rfl | simp_all
set_option maxRecDepth 100000 in
set_option maxHeartbeats 4000000 in
theorem moreI_3 (o d s n : Int) (w : World) (h0 : 0 ≤ o) (h : shO o = ⟨true, 6, false, false, true, false, false⟩) : Calls Try.prog 81 #[.agg #[.int .u8 o, .int .i64 d, .int .i64 s, .int .i64 n]] w (Quiet (.int .i64 (moreI ⟨o, d, s, n⟩)) w) := by
  have hrow := fun W => shape_any o W h0
  have hR : ∀ w e w', IsSh o w e w' → e = .returned (.agg #[.bool true, .int .i64 (6), .bool false, .bool false, .bool true, .bool false, .bool false]) ∧ Below w.heap.size w w' := fun w e w' hh => ⟨by rw [hh.1, h]; rfl, hh.2⟩
  have hone : moreI ⟨o, d, s, n⟩ = 1 := by simp [moreI, codeI, rightI, moreI, h]
  obtain ⟨C, hC⟩ : ∃ C, moreI ⟨o, d, s, n⟩ = C := ⟨_, rfl⟩
  rw [hC] at hone ⊢
  have HC := Lib.hid hone
  have HROW := Lib.hid fun w => (hrow w).mono (hR w)
  clear hrow hR hone h hC
  go_enter Try.func81, Try.ntmps81
  go_wp2_with fail
  refine (HROW.out _).mono ?_
  rintro e w1 ⟨rfl, hb1⟩
  have hB := ((Blk.new w 31 #[.int .u8 o, .int .i64 d, .int .i64 s, .int .i64 n]).below hb1).alloc (.cells #[.bool true, .int .i64 (6), .bool false, .bool false, .bool true, .bool false, .bool false] 82)
  have p0 := hB.cell 0
  have p1 := hB.cell 1
  have p2 := hB.cell 2
  have p3 := hB.cell 3
  simp at p0 p1 p2 p3
  have HB := Lib.hid (((Below.refl w.heap.size w).alloc (Nat.le_refl _) _).trans (hb1.mono (by rw [World.size_alloc]; omega)))
  clear hB hb1
  go_wp2_with (fail)
  all_goals
    go_ret
    refine ⟨ret_i64 ?_, HB.out.alloc HB.out.size _⟩
    have hc := HC.out
    clear HC HROW HB
    subst hc
    first | rfl | simp_all
set_option maxRecDepth 100000 in
set_option maxHeartbeats 4000000 in
theorem moreI_4 (o d s n : Int) (w : World) (h0 : 0 ≤ o) (h : shO o = ⟨true, 6, false, false, false, false, false⟩) : Calls Try.prog 81 #[.agg #[.int .u8 o, .int .i64 d, .int .i64 s, .int .i64 n]] w (Quiet (.int .i64 (moreI ⟨o, d, s, n⟩)) w) := by
  have hrow := fun W => shape_any o W h0
  have hR : ∀ w e w', IsSh o w e w' → e = .returned (.agg #[.bool true, .int .i64 (6), .bool false, .bool false, .bool false, .bool false, .bool false]) ∧ Below w.heap.size w w' := fun w e w' hh => ⟨by rw [hh.1, h]; rfl, hh.2⟩
  have hone : moreI ⟨o, d, s, n⟩ = 0 := by simp [moreI, codeI, rightI, moreI, h]
  obtain ⟨C, hC⟩ : ∃ C, moreI ⟨o, d, s, n⟩ = C := ⟨_, rfl⟩
  rw [hC] at hone ⊢
  have HC := Lib.hid hone
  have HROW := Lib.hid fun w => (hrow w).mono (hR w)
  clear hrow hR hone h hC
  go_enter Try.func81, Try.ntmps81
  go_wp2_with fail
  refine (HROW.out _).mono ?_
  rintro e w1 ⟨rfl, hb1⟩
  have hB := ((Blk.new w 31 #[.int .u8 o, .int .i64 d, .int .i64 s, .int .i64 n]).below hb1).alloc (.cells #[.bool true, .int .i64 (6), .bool false, .bool false, .bool false, .bool false, .bool false] 82)
  have p0 := hB.cell 0
  have p1 := hB.cell 1
  have p2 := hB.cell 2
  have p3 := hB.cell 3
  simp at p0 p1 p2 p3
  have HB := Lib.hid (((Below.refl w.heap.size w).alloc (Nat.le_refl _) _).trans (hb1.mono (by rw [World.size_alloc]; omega)))
  clear hB hb1
  go_wp2_with (fail)
  all_goals
    go_ret
    refine ⟨ret_i64 ?_, HB.out.alloc HB.out.size _⟩
    have hc := HC.out
    clear HC HROW HB
    subst hc
    first | rfl | simp_all
set_option maxRecDepth 100000 in
set_option maxHeartbeats 4000000 in
theorem moreI_5 (o d s n : Int) (w : World) (h0 : 0 ≤ o) (h : shO o = ⟨true, -1, false, true, false, false, false⟩) : Calls Try.prog 81 #[.agg #[.int .u8 o, .int .i64 d, .int .i64 s, .int .i64 n]] w (Quiet (.int .i64 (moreI ⟨o, d, s, n⟩)) w) := by
  have hrow := fun W => shape_any o W h0
  have hR : ∀ w e w', IsSh o w e w' → e = .returned (.agg #[.bool true, .int .i64 (-1), .bool false, .bool true, .bool false, .bool false, .bool false]) ∧ Below w.heap.size w w' := fun w e w' hh => ⟨by rw [hh.1, h]; rfl, hh.2⟩
  have hone : moreI ⟨o, d, s, n⟩ = if s = 7 then 1 else 0 := by simp [moreI, codeI, rightI, moreI, h]
  obtain ⟨C, hC⟩ : ∃ C, moreI ⟨o, d, s, n⟩ = C := ⟨_, rfl⟩
  rw [hC] at hone ⊢
  have HC := Lib.hid hone
  have HROW := Lib.hid fun w => (hrow w).mono (hR w)
  clear hrow hR hone h hC
  go_enter Try.func81, Try.ntmps81
  go_wp2_with fail
  refine (HROW.out _).mono ?_
  rintro e w1 ⟨rfl, hb1⟩
  have hB := ((Blk.new w 31 #[.int .u8 o, .int .i64 d, .int .i64 s, .int .i64 n]).below hb1).alloc (.cells #[.bool true, .int .i64 (-1), .bool false, .bool true, .bool false, .bool false, .bool false] 82)
  have p0 := hB.cell 0
  have p1 := hB.cell 1
  have p2 := hB.cell 2
  have p3 := hB.cell 3
  simp at p0 p1 p2 p3
  have HB := Lib.hid (((Below.refl w.heap.size w).alloc (Nat.le_refl _) _).trans (hb1.mono (by rw [World.size_alloc]; omega)))
  clear hB hb1
  go_wp2_with (fail)
  all_goals
    go_ret
    refine ⟨ret_i64 ?_, HB.out.alloc HB.out.size _⟩
    have hc := HC.out
    clear HC HROW HB
    subst hc
    first | rfl | simp_all
set_option maxRecDepth 100000 in
set_option maxHeartbeats 4000000 in
theorem moreI_6 (o d s n : Int) (w : World) (h0 : 0 ≤ o) (h : shO o = ⟨true, 3, false, false, true, false, false⟩) : Calls Try.prog 81 #[.agg #[.int .u8 o, .int .i64 d, .int .i64 s, .int .i64 n]] w (Quiet (.int .i64 (moreI ⟨o, d, s, n⟩)) w) := by
  have hrow := fun W => shape_any o W h0
  have hR : ∀ w e w', IsSh o w e w' → e = .returned (.agg #[.bool true, .int .i64 (3), .bool false, .bool false, .bool true, .bool false, .bool false]) ∧ Below w.heap.size w w' := fun w e w' hh => ⟨by rw [hh.1, h]; rfl, hh.2⟩
  have hone : moreI ⟨o, d, s, n⟩ = 1 := by simp [moreI, codeI, rightI, moreI, h]
  obtain ⟨C, hC⟩ : ∃ C, moreI ⟨o, d, s, n⟩ = C := ⟨_, rfl⟩
  rw [hC] at hone ⊢
  have HC := Lib.hid hone
  have HROW := Lib.hid fun w => (hrow w).mono (hR w)
  clear hrow hR hone h hC
  go_enter Try.func81, Try.ntmps81
  go_wp2_with fail
  refine (HROW.out _).mono ?_
  rintro e w1 ⟨rfl, hb1⟩
  have hB := ((Blk.new w 31 #[.int .u8 o, .int .i64 d, .int .i64 s, .int .i64 n]).below hb1).alloc (.cells #[.bool true, .int .i64 (3), .bool false, .bool false, .bool true, .bool false, .bool false] 82)
  have p0 := hB.cell 0
  have p1 := hB.cell 1
  have p2 := hB.cell 2
  have p3 := hB.cell 3
  simp at p0 p1 p2 p3
  have HB := Lib.hid (((Below.refl w.heap.size w).alloc (Nat.le_refl _) _).trans (hb1.mono (by rw [World.size_alloc]; omega)))
  clear hB hb1
  go_wp2_with (fail)
  all_goals
    go_ret
    refine ⟨ret_i64 ?_, HB.out.alloc HB.out.size _⟩
    have hc := HC.out
    clear HC HROW HB
    subst hc
    first | rfl | simp_all
set_option maxRecDepth 100000 in
set_option maxHeartbeats 4000000 in
theorem moreI_7 (o d s n : Int) (w : World) (h0 : 0 ≤ o) (h : shO o = ⟨true, -1, false, false, true, false, false⟩) : Calls Try.prog 81 #[.agg #[.int .u8 o, .int .i64 d, .int .i64 s, .int .i64 n]] w (Quiet (.int .i64 (moreI ⟨o, d, s, n⟩)) w) := by
  have hrow := fun W => shape_any o W h0
  have hR : ∀ w e w', IsSh o w e w' → e = .returned (.agg #[.bool true, .int .i64 (-1), .bool false, .bool false, .bool true, .bool false, .bool false]) ∧ Below w.heap.size w w' := fun w e w' hh => ⟨by rw [hh.1, h]; rfl, hh.2⟩
  have hone : moreI ⟨o, d, s, n⟩ = 1 := by simp [moreI, codeI, rightI, moreI, h]
  obtain ⟨C, hC⟩ : ∃ C, moreI ⟨o, d, s, n⟩ = C := ⟨_, rfl⟩
  rw [hC] at hone ⊢
  have HC := Lib.hid hone
  have HROW := Lib.hid fun w => (hrow w).mono (hR w)
  clear hrow hR hone h hC
  go_enter Try.func81, Try.ntmps81
  go_wp2_with fail
  refine (HROW.out _).mono ?_
  rintro e w1 ⟨rfl, hb1⟩
  have hB := ((Blk.new w 31 #[.int .u8 o, .int .i64 d, .int .i64 s, .int .i64 n]).below hb1).alloc (.cells #[.bool true, .int .i64 (-1), .bool false, .bool false, .bool true, .bool false, .bool false] 82)
  have p0 := hB.cell 0
  have p1 := hB.cell 1
  have p2 := hB.cell 2
  have p3 := hB.cell 3
  simp at p0 p1 p2 p3
  have HB := Lib.hid (((Below.refl w.heap.size w).alloc (Nat.le_refl _) _).trans (hb1.mono (by rw [World.size_alloc]; omega)))
  clear hB hb1
  go_wp2_with (fail)
  all_goals
    go_ret
    refine ⟨ret_i64 ?_, HB.out.alloc HB.out.size _⟩
    have hc := HC.out
    clear HC HROW HB
    subst hc
    first | rfl | simp_all
set_option maxRecDepth 100000 in
set_option maxHeartbeats 4000000 in
theorem moreI_8 (o d s n : Int) (w : World) (h0 : 0 ≤ o) (h : shO o = ⟨true, -1, false, false, false, true, false⟩) : Calls Try.prog 81 #[.agg #[.int .u8 o, .int .i64 d, .int .i64 s, .int .i64 n]] w (Quiet (.int .i64 (moreI ⟨o, d, s, n⟩)) w) := by
  have hrow := fun W => shape_any o W h0
  have hR : ∀ w e w', IsSh o w e w' → e = .returned (.agg #[.bool true, .int .i64 (-1), .bool false, .bool false, .bool false, .bool true, .bool false]) ∧ Below w.heap.size w w' := fun w e w' hh => ⟨by rw [hh.1, h]; rfl, hh.2⟩
  have hone : moreI ⟨o, d, s, n⟩ = 1 := by simp [moreI, codeI, rightI, moreI, h]
  obtain ⟨C, hC⟩ : ∃ C, moreI ⟨o, d, s, n⟩ = C := ⟨_, rfl⟩
  rw [hC] at hone ⊢
  have HC := Lib.hid hone
  have HROW := Lib.hid fun w => (hrow w).mono (hR w)
  clear hrow hR hone h hC
  go_enter Try.func81, Try.ntmps81
  go_wp2_with fail
  refine (HROW.out _).mono ?_
  rintro e w1 ⟨rfl, hb1⟩
  have hB := ((Blk.new w 31 #[.int .u8 o, .int .i64 d, .int .i64 s, .int .i64 n]).below hb1).alloc (.cells #[.bool true, .int .i64 (-1), .bool false, .bool false, .bool false, .bool true, .bool false] 82)
  have p0 := hB.cell 0
  have p1 := hB.cell 1
  have p2 := hB.cell 2
  have p3 := hB.cell 3
  simp at p0 p1 p2 p3
  have HB := Lib.hid (((Below.refl w.heap.size w).alloc (Nat.le_refl _) _).trans (hb1.mono (by rw [World.size_alloc]; omega)))
  clear hB hb1
  go_wp2_with (fail)
  all_goals
    go_ret
    refine ⟨ret_i64 ?_, HB.out.alloc HB.out.size _⟩
    have hc := HC.out
    clear HC HROW HB
    subst hc
    first | rfl | simp_all
set_option maxRecDepth 100000 in
set_option maxHeartbeats 4000000 in
theorem moreI_9 (o d s n : Int) (w : World) (h0 : 0 ≤ o) (h : shO o = ⟨true, -1, false, false, false, false, true⟩) : Calls Try.prog 81 #[.agg #[.int .u8 o, .int .i64 d, .int .i64 s, .int .i64 n]] w (Quiet (.int .i64 (moreI ⟨o, d, s, n⟩)) w) := by
  have hrow := fun W => shape_any o W h0
  have hR : ∀ w e w', IsSh o w e w' → e = .returned (.agg #[.bool true, .int .i64 (-1), .bool false, .bool false, .bool false, .bool false, .bool true]) ∧ Below w.heap.size w w' := fun w e w' hh => ⟨by rw [hh.1, h]; rfl, hh.2⟩
  have hone : moreI ⟨o, d, s, n⟩ = 2 := by simp [moreI, codeI, rightI, moreI, h]
  obtain ⟨C, hC⟩ : ∃ C, moreI ⟨o, d, s, n⟩ = C := ⟨_, rfl⟩
  rw [hC] at hone ⊢
  have HC := Lib.hid hone
  have HROW := Lib.hid fun w => (hrow w).mono (hR w)
  clear hrow hR hone h hC
  go_enter Try.func81, Try.ntmps81
  go_wp2_with fail
  refine (HROW.out _).mono ?_
  rintro e w1 ⟨rfl, hb1⟩
  have hB := ((Blk.new w 31 #[.int .u8 o, .int .i64 d, .int .i64 s, .int .i64 n]).below hb1).alloc (.cells #[.bool true, .int .i64 (-1), .bool false, .bool false, .bool false, .bool false, .bool true] 82)
  have p0 := hB.cell 0
  have p1 := hB.cell 1
  have p2 := hB.cell 2
  have p3 := hB.cell 3
  simp at p0 p1 p2 p3
  have HB := Lib.hid (((Below.refl w.heap.size w).alloc (Nat.le_refl _) _).trans (hb1.mono (by rw [World.size_alloc]; omega)))
  clear hB hb1
  go_wp2_with (fail)
  all_goals
    go_ret
    refine ⟨ret_i64 ?_, HB.out.alloc HB.out.size _⟩
    have hc := HC.out
    clear HC HROW HB
    subst hc
    first | rfl | simp_all
end Go.Proofs.Ytebmgladdgmmeaa
namespace Go.Proofs.Ytebmgladdgmmeaa
open Go.RowKit Go.WideShapes
set_option linter.unusedVariables false
set_option linter.unusedSimpArgs false
theorem rightI_any (t : In) (w : World) (h0 : 0 ≤ t.o) : Calls Try.prog 13 #[t.agg] w (Quiet (.int .i64 (codeI t)) w) := by
  obtain ⟨o, d, s, n⟩ := t
  rcases sh_cases o with ⟨_, h⟩ | ⟨_, h⟩ | ⟨_, h⟩ | ⟨_, h⟩ | ⟨_, h⟩ | ⟨_, h⟩ | ⟨_, h⟩ | ⟨_, h⟩ | ⟨_, h⟩ | ⟨_, h⟩
  · exact rightI_0 o d s n w h0 h
  · exact rightI_1 o d s n w h0 h
  · exact rightI_2 o d s n w h0 h
  · exact rightI_3 o d s n w h0 h
  · exact rightI_4 o d s n w h0 h
  · exact rightI_5 o d s n w h0 h
  · exact rightI_6 o d s n w h0 h
  · exact rightI_7 o d s n w h0 h
  · exact rightI_8 o d s n w h0 h
  · exact rightI_9 o d s n w h0 h
theorem moreI_any (t : In) (w : World) (h0 : 0 ≤ t.o) : Calls Try.prog 81 #[t.agg] w (Quiet (.int .i64 (moreI t)) w) := by
  obtain ⟨o, d, s, n⟩ := t
  rcases sh_cases o with ⟨_, h⟩ | ⟨_, h⟩ | ⟨_, h⟩ | ⟨_, h⟩ | ⟨_, h⟩ | ⟨_, h⟩ | ⟨_, h⟩ | ⟨_, h⟩ | ⟨_, h⟩ | ⟨_, h⟩
  · exact moreI_0 o d s n w h0 h
  · exact moreI_1 o d s n w h0 h
  · exact moreI_2 o d s n w h0 h
  · exact moreI_3 o d s n w h0 h
  · exact moreI_4 o d s n w h0 h
  · exact moreI_5 o d s n w h0 h
  · exact moreI_6 o d s n w h0 h
  · exact moreI_7 o d s n w h0 h
  · exact moreI_8 o d s n w h0 h
  · exact moreI_9 o d s n w h0 h
end Go.Proofs.Ytebmgladdgmmeaa
