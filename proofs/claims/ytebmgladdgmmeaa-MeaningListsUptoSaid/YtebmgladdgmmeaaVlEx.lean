/- Small words laid anew: a wrapped integer's bounds, append of a literal row, slices of structs. Plain. -/
import Derived.Test.YtebmgladdgmmeaaVdSt
namespace Go.Proofs.Ytebmgladdgmmeaa
open Go.RowKit Go.WideShapes
section
theorem wf_i64 {x : Int} (h : (Lit.int .i64 x).wf = true) : -9223372036854775808 ≤ x ∧ x ≤ 9223372036854775807 := by
  simp [Lit.wf, IntKind.min, IntKind.max, IntKind.signed, IntKind.bits] at h
  exact ⟨by omega, by omega⟩
end
section
variable {P : Program} {t e : TypeId} {z : Value} {bytes : Nat}
/-- 'append(own, x, y, ..)': the elements were laid in a block of their own just ahead; the row stays in its block or moves to a new one. -/
theorem wpList_lit {ops : Array Oper} {rest : List Oper} {o : Oper} {a : Act} {w : World} {Q : Exit → Act → World → Prop} (T : SlT P t e z bytes) (hgd : Region.wanted o (yielded ops a.tmps) = true) (s x : Operand)
    (ho : o.op = .call { callee := .builtin .append, args := #[s, x], argTypes := #[t, t] })
    (base : Nat) (v : Value) (n : Nat) (xs : List Value) (hs : a.eval s = v) (hown : w.ownsRow base e 1 v n xs) (us : List Value) (h1 : ∀ u ∈ us, u.oneCell' = true) (m : Nat) (hm : m = us.length)
    (g0 : Nat) (hx : a.eval x = .slice (some ⟨g0, 0, none⟩) m m) (hg0 : g0 = w.heap.size)
    (hby : (n + m) * bytes ≤ 140737488355328) (h63 : n + m ≤ maxLen) (hbase : base ≤ w.heap.size)
    (h : ∀ v' w', w'.ownsRow base e 1 v' (n + m) (xs ++ us) → w.grownBy w' v.ownBlock → (v'.ownBlock = v.ownBlock ∨ v'.ownBlock = some (w.heap.size + 1)) → Below base w w' → wpList P ops Q rest (a.put o.dst v') w') : wpList P ops Q (o :: rest) a (w.alloc (.cells us.toArray e)) := by
  subst hm
  subst hg0
  obtain ⟨i, hi, hz, hsz, hb⟩ := info_parts T.i
  have hbase' : base ≤ (w.alloc (.cells us.toArray e)).heap.size := by simp; omega
  obtain ⟨v', w', hrun, h2, h3, _, h5⟩ := run_append_own_at (P := P) (w.alloc (.cells us.toArray e)) base t o.type e i z 1 bytes T.u hi hz hsz hb T.z (by omega) v n xs (hown.alloc _) ⟨w.heap.size, 0, none⟩ us.length us.length us (by simp)
    (fun j u hu => by rw [addr_add, Nat.zero_add, cell_of_row _ _ _ _ _ _ (heap_alloc_new _ _)]; simpa using hu) h1 h63 hby hbase'
  refine wpList_want hgd fun K hK => ?_
  unfold Oper.wp execOp
  simp only [ho, resolve, invoke, builtin, Sem.run_bind, Sem.run_pure, Result.andThen_ok, List.map_toArray, List.map_cons, List.map_nil, hs, hx, hrun]
  refine hK _ _ (h v' w' h2 ⟨h3.os, h3.tape, h3.output, Nat.le_trans (by simp) h3.size, fun k hk hne => (h3.block k (by simp; omega) hne).trans (Below.heap_alloc w _ k hk)⟩ ?_ (((Below.refl _ _).alloc hbase _).grown h3 hbase' (own_ge hown)))
  rcases h5 with h | h
  · exact .inl h
  · right; rw [h]; simp
end
end Go.Proofs.Ytebmgladdgmmeaa
namespace Go.Proofs.Ytebmgladdgmmeaa
open Go.RowKit Go.WideShapes
section
/-- What is wanted of a slice type: t over e, size cells an element. -/
structure SlS (P : Program) (t e : TypeId) (z : Value) (size bytes : Nat) : Prop where
  u : P.underlying t = some (.slice e)
  i : (P.info? e).map (fun i => (i.zero, i.size, i.bytes)) = some (some z, size, bytes)
  z : z.cells.size = size
  pos : 0 < size
end
section
theorem rd_own {w : World} {base n : Nat} {e : TypeId} {size c : Nat} {A : Option Addr} {xs : List Value} (h : w.ownsRow base e size (.slice A n c) n xs) : Rd w A xs := fun hn => by
  have hl := h.1
  obtain ⟨g, cap, hv, _, hlt⟩ := h.form (by
    rcases Nat.eq_zero_or_pos n with h0 | h0
    · subst h0; rw [Nat.zero_mul] at hl; omega
    · exact h0)
  have hA : A = some ⟨g, 0, none⟩ := by injection hv
  subst hA
  refine ⟨g, 0, rfl, hlt, fun i u hu => ?_⟩
  have := h.cells (g := g) rfl i u hu
  rwa [addr_add] at this
end
end Go.Proofs.Ytebmgladdgmmeaa
