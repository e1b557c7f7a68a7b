/- make([]T, n) as a word of my own. -/
import Derived.Test.YtjcaahilgobfhaaMade
namespace Go.Proofs.Ytjcaahilgobfhaa
open Go.RowKit Go.WideShapes
section
variable {P : Program} {t e : TypeId} {z : Value} {bytes : Nat}
/-- 'make([]T, n)': n zero elements in a block of their own. -/
theorem wpList_mk {ops : Array Oper} {rest : List Oper} {o : Oper} {a : Act} {w : World} {Q : Exit → Act → World → Prop} (T : SlT P t e z bytes) (hz1 : z.cells = #[z]) (hgd : o.guard = none) (l c : Operand) (ho : o.op = .makeSlice t l c)
    (base : Nat) (kl kc : IntKind) (L C : Int) (n : Nat) (hl : a.eval l = .int kl L) (hc : a.eval c = .int kc C) (hL : L = (n : Int)) (hC : C = (n : Int)) (hb : bytes * n ≤ 281474976710656) (h63 : n ≤ maxLen) (hbase : base ≤ w.heap.size)
    (h : ∀ w', w'.ownsRow base e 1 (.slice (some ⟨w.heap.size, 0, none⟩) n n) n (List.replicate n z) → w.heap.size < w'.heap.size → Below w.heap.size w w' → wpList P ops Q rest (a.put o.dst (.slice (some ⟨w.heap.size, 0, none⟩) n n)) w') : wpList P ops Q (o :: rest) a w := by
  obtain ⟨i, hi, hz, hs, hby⟩ := info_parts T.i
  refine wpList_make_full w hgd l c t ho base e i z 1 T.u hi hz hs kl kc L C n hl hc hL hC (by rw [hby]; exact hb) h63 hbase fun w' h2 h3 => h w' ?_ ?_ ?_
  · rw [hz1, Nat.mul_one, toList_madeCells_one] at h2; exact h2
  · rcases h2.2 with ⟨h0, _⟩ | ⟨g, _, _, hv, _, hg, _⟩
    · cases h0
    · injection hv with hv; injection hv with hv; injection hv with hv _
      rw [hv]; exact (Array.getElem?_eq_some_iff.1 hg).1
  · exact ⟨h3.os, h3.tape, h3.output, h3.size, fun k hk => h3.block k hk (by simp)⟩
/-- 'append(own, x, y, ..)': the elements were laid in a block of their own just ahead; the row stays in its block or moves to a new one. -/
theorem wpList_lit {ops : Array Oper} {rest : List Oper} {o : Oper} {a : Act} {w : World} {Q : Exit → Act → World → Prop} (T : SlT P t e z bytes) (hgd : o.guard = none) (s x : Operand)
    (ho : o.op = .call { callee := .builtin .append, args := #[s, x], argTypes := #[t, t] })
    (base : Nat) (v : Value) (n : Nat) (xs : List Value) (hs : a.eval s = v) (hown : w.ownsRow base e 1 v n xs) (us : List Value) (h1 : ∀ u ∈ us, u.oneCell' = true) (m : Nat) (hm : m = us.length)
    (g0 : Nat) (hx : a.eval x = .slice (some ⟨g0, 0, none⟩) m m) (hg0 : g0 = w.heap.size)
    (hby : (n + m) * bytes ≤ 140737488355328) (h63 : n + m ≤ maxLen) (hbase : base ≤ w.heap.size)
    (h : ∀ v' w', w'.ownsRow base e 1 v' (n + m) (xs ++ us) → w.grownBy w' v.ownBlock → (v'.ownBlock = v.ownBlock ∨ v'.ownBlock = some (w.heap.size + 1)) → Below base w w' → wpList P ops Q rest (a.put o.dst v') w') : wpList P ops Q (o :: rest) a (w.alloc (.cells us.toArray e)) := by
  subst hm
  subst hg0
  obtain ⟨i, hi, hz, hsz, hb⟩ := info_parts T.i
  have hbase' : base ≤ (w.alloc (.cells us.toArray e)).heap.size := by simp; omega
  obtain ⟨v', w', hrun, h2, h3, _, h5⟩ := run_append_own_at (P := P) (w.alloc (.cells us.toArray e)) base t o.type e i z 1 bytes T.u hi hz hsz hb T.z (by omega) v n xs (hown.alloc _) ⟨w.heap.size, 0, none⟩ us.length us.length us (by simp)
    (fun j u hu => by rw [addr_add, Nat.zero_add, cell_of_row _ _ _ _ _ _ (heap_alloc_new _ _)]; simpa using hu) h1 h63 hby hbase'
  refine wpList_plain hgd fun K hK => ?_
  unfold Oper.wp execOp
  simp only [ho, resolve, invoke, builtin, Sem.run_bind, Sem.run_pure, Result.andThen_ok, List.map_toArray, List.map_cons, List.map_nil, hs, hx, hrun]
  refine hK _ _ (h v' w' h2 ⟨h3.os, h3.tape, h3.output, Nat.le_trans (by simp) h3.size, fun k hk hne => (h3.block k (by simp; omega) hne).trans (Below.heap_alloc w _ k hk)⟩ ?_ (((Below.refl _ _).alloc hbase _).grown h3 hbase' (own_ge hown)))
  rcases h5 with h | h
  · exact .inl h
  · right; rw [h]; simp
end
end Go.Proofs.Ytjcaahilgobfhaa
