/- IndexPlays: a round's head. -/
import Derived.Test.YtjcaahilgobfhaaIxPo
namespace Go.Proofs.Ytjcaahilgobfhaa
open Go.RowKit Go.WideShapes Go.Maps
set_option linter.unusedVariables false
set_option linter.unusedSimpArgs false
/-- The law's state at the head of its loop. -/
structure PlayS (w : World) (I : Nat) (xv wv : Value) (wr : World) : Prop where
  ex : ∃ (g mb n : Nat) (l : List Pc) (v : Value) (A : Option Addr) (c : Nat), xv = .pointer (some ⟨g, 0, none⟩) ∧ wv = .slice A l.length c ∧ n ≤ I ∧ l.length ≤ I ∧ (l.map Pc.h).Nodup ∧ (∀ p ∈ l, p.ok) ∧ (∀ p ∈ l, rightP p.s p.b p.a = true) ∧ Idx w.heap.size wr g mb n l v ∧ (∀ k, v.ownBlock = some k → wv.ownBlock ≠ some k) ∧ RowP w.heap.size wr wv l.length (flatP l)
  low : Below w.heap.size w wr
theorem PlayS.of {w wz : World} {I g mb n : Nat} {l : List Pc} {A : Option Addr} {M c : Nat} {go : Nat} {os : Array Value} {gp : Nat} {ps : Array Value} (h : Pr w.heap.size g mb n l A M c l go os gp ps wz) (hM : l.length = M) (hn : n ≤ I) (hl : M ≤ I) (nd : (l.map Pc.h).Nodup) (ok : ∀ p ∈ l, p.ok) (rt : ∀ p ∈ l, rightP p.s p.b p.a = true) (low : Below w.heap.size w wz) :
    PlayS w I (.pointer (some ⟨g, 0, none⟩)) (.slice A M c) wz := by
  obtain ⟨v, h1, h2, h3⟩ := h.ex
  subst hM
  exact ⟨⟨g, mb, n, l, v, A, c, rfl, rfl, hn, hl, nd, ok, rt, h1, h2, h.row⟩, low⟩
/-- The piece with its hash's first byte alone. -/
def headP (p : Pc) (r : Int) : Pc := ⟨r :: List.replicate 19 0, p.s, p.b, p.a⟩
theorem headP_ok (p : Pc) (r : Int) (h0 : 0 ≤ r) (h1 : r < 256) : (headP p r).ok := ⟨⟨rfl, fun x hx => by
  simp [headP] at hx
  rcases hx with rfl | rfl <;> omega⟩⟩
structure Head (w : World) (B g mb n : Nat) (l : List Pc) (A : Option Addr) (M c : Nat) (o : OpC) (h0 r : Int) (wr W1 W2 : World) : Prop where
  w1 : wr.alloc (.cells o.cells.toArray 53) = W1
  low1 : Below wr.heap.size wr W1
  r2 : W1.rangeAt wr.heap.size 2 o.p.cells
  c0 : (W1.alloc (.cells o.p.cells.toArray 39)).cell? ⟨W1.heap.size, 0, none⟩ = some (.int .u8 h0)
  th : (W1.alloc (.cells o.p.cells.toArray 39)).there W1.heap.size 0 (hashV (headP o.p r).h).toArray.size
  st : (W1.alloc (.cells o.p.cells.toArray 39)).setCells W1.heap.size 0 (hashV (headP o.p r).h).toArray.toList = W2
  pr : Pr B g mb n l A M c l wr.heap.size o.cells.toArray W1.heap.size (headP o.p r).cells.toArray W2
  low : Below wr.heap.size wr W2
theorem head_of {w wr : World} {B g mb n : Nat} {l : List Pc} {v : Value} {A : Option Addr} {M c : Nat} (o : OpC) (r : Int) (ho : o.p.ok) (hi : Idx B wr g mb n l v) (ha : ∀ k, v.ownBlock = some k → (Value.slice A M c).ownBlock ≠ some k) (hr : RowP B wr (.slice A M c) M (flatP l)) :
    ∃ h0 W1 W2, (0 ≤ h0 ∧ h0 < 256) ∧ o.p.h[0]? = some h0 ∧ Head w B g mb n l A M c o h0 r wr W1 W2 := by
  have hlen := Pc.cells_length ho
  have h20 : (hashV o.p.h).length = 20 := by rw [hashV_length, ho.h.len]
  obtain ⟨h0, hh0⟩ : ∃ h0, o.p.h[0]? = some h0 := ⟨_, List.getElem?_eq_getElem (by rw [ho.h.len]; omega)⟩
  have hb0 := ho.h.oct h0 (List.mem_of_getElem? hh0)
  have hc0 : o.p.cells[0]? = some (.int .u8 h0) := by
    unfold Pc.cells
    rw [List.getElem?_append_left (by omega), hashV, List.getElem?_map, hh0]
    rfl
  have l1 := (Below.refl wr.heap.size wr).alloc (Nat.le_refl _) (.cells o.cells.toArray 53)
  have hW1 := Blk.new wr 53 o.cells.toArray
  have hsz : (wr.alloc (.cells o.cells.toArray 53)).heap.size = wr.heap.size + 1 := by simp
  have hk20 : (hashV (headP o.p r).h).length = 20 := by simp [hashV, headP]
  have hset := setCells_new (wr.alloc (.cells o.cells.toArray 53)) 39 (hashV (headP o.p r).h) 0 o.p.cells.toArray (by rw [hk20, List.size_toArray, hlen]; omega)
  have hnew : (o.p.cells.toArray.toList.take 0 ++ hashV (headP o.p r).h ++ o.p.cells.toArray.toList.drop (0 + (hashV (headP o.p r).h).length)) = (headP o.p r).cells := by
    rw [hk20, List.take_zero, List.nil_append, Nat.zero_add]
    unfold Pc.cells
    rw [show (hashV o.p.h ++ [Value.int .i64 o.p.s, .int .i64 o.p.b, .int .i64 o.p.a]).toArray.toList = hashV o.p.h ++ [Value.int .i64 o.p.s, .int .i64 o.p.b, .int .i64 o.p.a] from rfl, List.drop_left' h20]
    rfl
  rw [hnew] at hset
  have hb2 := Blk.new (wr.alloc (.cells o.cells.toArray 53)) 39 o.p.cells.toArray
  refine ⟨h0, _, _, by omega, hh0, ⟨rfl, l1, fun j y hy => ?_, ?_, fun j hj => ?_, rfl, ?_, ?_⟩⟩
  · rw [hW1.cell, List.getElem?_toArray]
    unfold OpC.cells
    rw [show 2 + j = j + 2 by omega]
    exact hy
  · rw [hb2.cell, List.getElem?_toArray]; exact hc0
  · rw [Nat.zero_add, hb2.cell, List.getElem?_toArray]
    refine ⟨?_, hb2.frozen j⟩
    rw [List.size_toArray, hk20] at hj
    rw [List.getElem?_eq_getElem (by omega)]
    rfl
  · rw [show (hashV (headP o.p r).h).toArray.toList = hashV (headP o.p r).h from rfl, hset]
    have l2 := l1.alloc l1.size (.cells (headP o.p r).cells.toArray 39)
    refine ⟨⟨v, hi.below l2, ha, fun e => ?_⟩, hr.below l2, hW1.alloc _, Blk.new _ 39 _, fun e => ?_⟩
    · have := (hi.own.lt _ e).2
      omega
    · have := (hr.lt _ e).2
      omega
  · rw [show (hashV (headP o.p r).h).toArray.toList = hashV (headP o.p r).h from rfl, hset]
    exact l1.alloc l1.size _
end Go.Proofs.Ytjcaahilgobfhaa
