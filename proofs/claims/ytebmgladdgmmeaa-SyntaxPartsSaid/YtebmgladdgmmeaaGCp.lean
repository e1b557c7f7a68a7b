/- Statements in memory of their own: what a copy reads as, in blocks of a set. Plain. -/
import Derived.Test.YtebmgladdgmmeaaGDp
namespace Go.Proofs.Ytebmgladdgmmeaa
open Go.RowKit Go.WideShapes
set_option linter.unusedVariables false
set_option linter.unusedSimpArgs false
/-- As RdF, all blocks in a set. -/
def RdP (P : Nat → Prop) (w : World) : Fo → Nat → Nat → Prop
  | .nil, _, _ => True
  | .cons h b e r, g, o => h.ok ∧ P g ∧ (∃ Ab cb Ae ce, (∀ j u, (h.cells (.slice Ab b.len cb) (.slice Ae e.len ce))[j]? = some u → w.cell? ⟨g, o + j, none⟩ = some u) ∧ (b.len ≤ cb ∧ cb ≤ maxLen ∧ b.len ≤ lenMost) ∧ (e.len ≤ ce ∧ ce ≤ maxLen ∧ e.len ≤ lenMost) ∧
      (0 < b.len → ∃ g' o', Ab = some ⟨g', o', none⟩ ∧ RdP P w b g' o') ∧ (0 < e.len → ∃ g' o', Ae = some ⟨g', o', none⟩ ∧ RdP P w e g' o')) ∧ RdP P w r g (o + 13)
def RpS (P : Nat → Prop) (w : World) (A : Option Addr) (f : Fo) : Prop := 0 < f.len → ∃ g o, A = some ⟨g, o, none⟩ ∧ RdP P w f g o
theorem RdP.toF {P : Nat → Prop} {B : Nat} {w : World} (hP : ∀ g, P g → g < B) : ∀ (f : Fo) (g o : Nat), RdP P w f g o → RdF B w f g o
  | .nil, _, _, _ => trivial
  | .cons h b e r, g, o, ⟨h1, h2, ⟨Ab, cb, Ae, ce, h3, h4, h5, h6, h7⟩, h8⟩ =>
    ⟨h1, hP _ h2, ⟨Ab, cb, Ae, ce, h3, h4, h5,
      fun hn => by obtain ⟨g', o', e1, e2⟩ := h6 hn; exact ⟨g', o', e1, RdP.toF hP b g' o' e2⟩,
      fun hn => by obtain ⟨g', o', e1, e2⟩ := h7 hn; exact ⟨g', o', e1, RdP.toF hP e g' o' e2⟩⟩, RdP.toF hP r g (o + 13) h8⟩
theorem RdP.frm {P Q S : Nat → Prop} {w w' : World} (hf : Frm S w w') (hP : ∀ g, P g → g < w.heap.size ∧ ¬ S g) (hQ : ∀ g, P g → Q g) : ∀ (f : Fo) (g o : Nat), RdP P w f g o → RdP Q w' f g o
  | .nil, _, _, _ => trivial
  | .cons h b e r, g, o, ⟨h1, h2, ⟨Ab, cb, Ae, ce, h3, h4, h5, h6, h7⟩, h8⟩ =>
    ⟨h1, hQ _ h2, ⟨Ab, cb, Ae, ce, fun j u hu => (hf.cell (p := ⟨g, o + j, none⟩) (hP g h2).1 (hP g h2).2).trans (h3 j u hu), h4, h5,
      fun hn => by obtain ⟨g', o', e1, e2⟩ := h6 hn; exact ⟨g', o', e1, RdP.frm hf hP hQ b g' o' e2⟩,
      fun hn => by obtain ⟨g', o', e1, e2⟩ := h7 hn; exact ⟨g', o', e1, RdP.frm hf hP hQ e g' o' e2⟩⟩, RdP.frm hf hP hQ r g (o + 13) h8⟩
theorem RpS.frm {P Q S : Nat → Prop} {w w' : World} {A : Option Addr} {f : Fo} (h : RpS P w A f) (hf : Frm S w w') (hP : ∀ g, P g → g < w.heap.size ∧ ¬ S g) (hQ : ∀ g, P g → Q g) : RpS Q w' A f := fun hn => by
  obtain ⟨g, o, e, hr⟩ := h hn
  exact ⟨g, o, e, hr.frm hf hP hQ⟩
theorem RpS.toF {P : Nat → Prop} {B : Nat} {w : World} {A : Option Addr} {f : Fo} (h : RpS P w A f) (hP : ∀ g, P g → g < B) : RdS B w A f := fun hn => by
  obtain ⟨g, o, e, hr⟩ := h hn
  exact ⟨g, o, e, hr.toF hP⟩
/-- The cells of a row that is being made, what lies within in blocks of a set. -/
def RowF (P : Nat → Prop) (w : World) : Fo → List Value → Prop
  | .nil, xs => xs = []
  | .cons h b e r, xs => h.ok ∧ ∃ Ab cb Ae ce ys, xs = h.cells (.slice Ab b.len cb) (.slice Ae e.len ce) ++ ys ∧ (b.len ≤ cb ∧ cb ≤ maxLen ∧ b.len ≤ lenMost) ∧ (e.len ≤ ce ∧ ce ≤ maxLen ∧ e.len ≤ lenMost) ∧ RpS P w Ab b ∧ RpS P w Ae e ∧ RowF P w r ys
theorem RowF.frm {P Q S : Nat → Prop} {w w' : World} (hf : Frm S w w') (hP : ∀ g, P g → g < w.heap.size ∧ ¬ S g) (hQ : ∀ g, P g → Q g) : ∀ (f : Fo) (xs : List Value), RowF P w f xs → RowF Q w' f xs
  | .nil, _, h => h
  | .cons h b e r, xs, ⟨h1, Ab, cb, Ae, ce, ys, h2, h3, h4, h5, h6, h7⟩ => ⟨h1, Ab, cb, Ae, ce, ys, h2, h3, h4, h5.frm hf hP hQ, h6.frm hf hP hQ, RowF.frm hf hP hQ r ys h7⟩
def Fo.app : Fo → Fo → Fo
  | .nil, q => q
  | .cons h b e r, q => .cons h b e (r.app q)
theorem Fo.app_len : ∀ (p q : Fo), (p.app q).len = p.len + q.len
  | .nil, q => by simp [Fo.app, Fo.len]
  | .cons h b e r, q => by simp only [Fo.app, Fo.len, Fo.app_len r q]; omega
theorem Fo.app_assoc : ∀ (p q r : Fo), (p.app q).app r = p.app (q.app r)
  | .nil, q, r => rfl
  | .cons h b e s, q, r => by simp only [Fo.app, Fo.app_assoc s q r]
theorem Fo.app_nil : ∀ p : Fo, p.app .nil = p
  | .nil => rfl
  | .cons h b e r => by simp only [Fo.app, Fo.app_nil r]
theorem RowF.snoc {P : Nat → Prop} {w : World} {h : Hd} {b e : Fo} {Ab Ae : Option Addr} {cb ce : Nat} (h1 : h.ok) (h3 : b.len ≤ cb ∧ cb ≤ maxLen ∧ b.len ≤ lenMost) (h4 : e.len ≤ ce ∧ ce ≤ maxLen ∧ e.len ≤ lenMost) (h5 : RpS P w Ab b) (h6 : RpS P w Ae e) :
    ∀ (p : Fo) (xs : List Value), RowF P w p xs → RowF P w (p.app (.cons h b e .nil)) (xs ++ h.cells (.slice Ab b.len cb) (.slice Ae e.len ce))
  | .nil, xs, hx => by
    obtain rfl : xs = [] := hx
    exact ⟨h1, Ab, cb, Ae, ce, [], by simp, h3, h4, h5, h6, rfl⟩
  | .cons h' b' e' r, xs, ⟨k1, Ab', cb', Ae', ce', ys, k2, k3, k4, k5, k6, k7⟩ =>
    ⟨k1, Ab', cb', Ae', ce', ys ++ h.cells (.slice Ab b.len cb) (.slice Ae e.len ce), by rw [k2, List.append_assoc], k3, k4, k5, k6, RowF.snoc h1 h3 h4 h5 h6 r ys k7⟩
theorem Hd.cells_length (h : Hd) (vb ve : Value) : (h.cells vb ve).length = 13 := rfl
/-- A row that lies in memory reads as the forest. -/
theorem RowF.rd {P Q : Nat → Prop} {w : World} {g : Nat} (hg : Q g) (hQ : ∀ k, P k → Q k) (hlt : ∀ k, P k → k < w.heap.size) : ∀ (f : Fo) (xs : List Value) (o : Nat), RowF P w f xs → (∀ (j : Nat) (u : Value), xs[j]? = some u → w.cell? ⟨g, o + j, none⟩ = some u) → RdP Q w f g o
  | .nil, _, _, _, _ => trivial
  | .cons h b e r, xs, o, ⟨h1, Ab, cb, Ae, ce, ys, h2, h3, h4, h5, h6, h7⟩, hc => by
    have hf : Frm (fun _ => False) w w := Frm.refl _ _
    refine ⟨h1, hg, ⟨Ab, cb, Ae, ce, fun j u hu => hc j u ?_, h3, h4, h5.frm hf (fun k hk => ⟨hlt k hk, fun h => h⟩) hQ, h6.frm hf (fun k hk => ⟨hlt k hk, fun h => h⟩) hQ⟩, RowF.rd hg hQ hlt r ys (o + 13) h7 fun j u hu => ?_⟩
    · rw [h2, List.getElem?_append_left (by rw [Hd.cells_length]; exact (List.getElem?_eq_some_iff.1 hu).1)]
      exact hu
    · have := hc (13 + j) u (by rw [h2, List.getElem?_append_right (by rw [Hd.cells_length]; omega), Hd.cells_length, show 13 + j - 13 = j by omega]; exact hu)
      rwa [← Nat.add_assoc] at this
/-- 'append(own, x)', x a struct: as wpList_appS, with what has turned, and where the row lies. -/
theorem wpList_appG {P : Program} {t e : TypeId} {z : Value} {size bytes : Nat} {ops : Array Oper} {rest : List Oper} {o : Oper} {a : Act} {w : World} {Q : Exit → Act → World → Prop} (T : SlS P t e z size bytes) (hgd : Region.wanted o (yielded ops a.tmps) = true) (s x : Operand)
    (ho : o.op = .call { callee := .builtin .append, args := #[s, x], argTypes := #[t, t] })
    (base : Nat) (v : Value) (n : Nat) (xs : List Value) (hs : a.eval s = v) (hown : w.ownsRow base e size v n xs) (us : Array Value) (hus : us.size = size) (h1 : ∀ u ∈ us.toList, u.oneCell' = true)
    (g0 : Nat) (hx : a.eval x = .slice (some ⟨g0, 0, none⟩) 1 1) (hg0 : g0 = w.heap.size)
    (hby : (n + 1) * bytes ≤ 140737488355328) (h63 : n + 1 ≤ maxLen) (hbase : base ≤ w.heap.size)
    (h : ∀ v' w', w'.ownsRow base e size v' (n + 1) (xs ++ us.toList) → (w.alloc (.cells us e)).grownBy w' v.ownBlock → (v'.ownBlock = v.ownBlock ∨ v'.ownBlock = some (w.heap.size + 1)) → wpList P ops Q rest (a.put o.dst v') w') : wpList P ops Q (o :: rest) a (w.alloc (.cells us e)) := by
  subst hg0
  obtain ⟨i, hi, hz, hsz, hb⟩ := info_parts T.i
  have hbase' : base ≤ (w.alloc (.cells us e)).heap.size := by simp; omega
  obtain ⟨v', w', hrun, h2, h3, _, h5⟩ := run_append_own_at (P := P) (w.alloc (.cells us e)) base t o.type e i z size bytes T.u hi hz hsz hb T.z T.pos v n xs (hown.alloc _) ⟨w.heap.size, 0, none⟩ 1 1 us.toList (by simp [hus])
    (fun j u hu => by rw [addr_add, Nat.zero_add, cell_of_row _ _ _ _ _ _ (heap_alloc_new _ _)]; simpa using hu) h1 h63 hby hbase'
  refine wpList_want hgd fun K hK => ?_
  unfold Oper.wp execOp
  simp only [ho, resolve, invoke, builtin, Sem.run_bind, Sem.run_pure, Result.andThen_ok, List.map_toArray, List.map_cons, List.map_nil, hs, hx, hrun]
  refine hK _ _ (h v' w' h2 h3 ?_)
  rcases h5 with h | h
  · exact .inl h
  · right; rw [h]; simp
end Go.Proofs.Ytebmgladdgmmeaa
