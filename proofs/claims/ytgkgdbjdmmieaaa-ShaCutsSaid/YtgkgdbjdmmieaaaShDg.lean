/- A digest: New, Len, Write. For any bytes up to the bound on appends. -/
import Derived.Test.YtgkgdbjdmmieaaaShBl
namespace Go.Proofs.Ytgkgdbjdmmieaaa
open Go.RowKit Go.WideShapes
set_option linter.unusedVariables false
set_option linter.unusedSimpArgs false
/-- 'append(own, xs...)' once more, with where the result lies. -/
theorem wpList_appAt {P : Program} {t e : TypeId} {z : Value} {bytes : Nat} {ops : Array Oper} {rest : List Oper} {o : Oper} {a : Act} {w : World} {Q : Exit → Act → World → Prop} (T : SlT P t e z bytes) (hgd : Region.wanted o (yielded ops a.tmps) = true) (s x : Operand)
    (ho : o.op = .call { callee := .builtin .append, args := #[s, x], argTypes := #[t, t] })
    (base : Nat) (v : Value) (n : Nat) (xs : List Value) (hs : a.eval s = v) (hown : w.ownsRow base e 1 v n xs)
    (A : Option Addr) (m c : Nat) (news : List Value) (hx : a.eval x = .slice A m c) (hm : m = news.length) (hr : Rd w A news) (h1 : ∀ u ∈ news, u.oneCell' = true)
    (hby : (n + m) * bytes ≤ 140737488355328) (h63 : n + m ≤ maxLen) (hbase : base ≤ w.heap.size)
    (h : ∀ v' w', w'.ownsRow base e 1 v' (n + m) (xs ++ news) → w.grownBy w' v.ownBlock → Below base w w' → (v'.ownBlock = v.ownBlock ∨ v'.ownBlock = some w.heap.size) → wpList P ops Q rest (a.put o.dst v') w') : wpList P ops Q (o :: rest) a w := by
  subst hm
  obtain ⟨i, hi, hz, hs', hb⟩ := info_parts T.i
  have key : ∃ v' w', (Builtin.append_ #[t, t] o.type #[v, .slice A news.length c]).run P w = .ok v' w' ∧ w'.ownsRow base e 1 v' (n + news.length) (xs ++ news) ∧ w.grownBy w' v.ownBlock ∧ Below base w w' ∧ (v'.ownBlock = v.ownBlock ∨ v'.ownBlock = some w.heap.size) := by
    rcases news with _ | ⟨y, r⟩
    · obtain ⟨v', w', hrun, h2, h3, h4⟩ := run_app T w o.type base v n xs hown A c [] hr h1 hby h63 hbase
      have hr0 : (Builtin.append_ #[t, t] o.type #[v, .slice A 0 c]).run P w = .ok v w := by
        rcases hown.2 with ⟨rfl, rfl⟩ | ⟨g, cap, cur, rfl, _, _, hnc, _⟩
        · cases A <;> simp [Builtin.append_, run_underlying T.u, sizeOf, typeInfo, hi, Builtin.lenOf, Builtin.firstCells, loadCells, loadCellsFrom]
        · cases A <;> simp [Builtin.append_, run_underlying T.u, sizeOf, typeInfo, hi, Builtin.lenOf, Builtin.firstCells, hnc, storeCells, loadCells, loadCellsFrom]
      exact ⟨v, w, hr0, by simpa using hown, World.grownBy.refl w _, Below.refl _ _, .inl rfl⟩
    · obtain ⟨b, off, rfl, _, hc⟩ := hr (by simp)
      obtain ⟨v', w', hrun, h2, h3, _, h5⟩ := run_append_own_at (P := P) w base t o.type e i z 1 bytes T.u hi hz hs' hb T.z (by omega) v n xs hown ⟨b, off, none⟩ (y :: r).length c (y :: r) (by simp) (fun j u hu => by rw [addr_add]; exact hc j u hu) h1 h63 hby hbase
      exact ⟨v', w', hrun, h2, h3, (Below.refl _ _).grown h3 hbase (own_ge hown), h5⟩
  obtain ⟨v', w', hrun, h2, h3, h4, h5⟩ := key
  refine wpList_want hgd fun K hK => ?_
  unfold Oper.wp execOp
  simp only [ho, resolve, invoke, builtin, Sem.run_bind, Sem.run_pure, Result.andThen_ok, List.map_toArray, List.map_cons, List.map_nil, hs, hx, hrun]
  exact hK _ _ (h v' w' h2 h3 h4 h5)
/-- A digest in block g that has taken bs; v: the bytes of a block that is not whole. -/
structure Dig (B : Nat) (w : World) (g : Nat) (bs : List Int) (v : Value) : Prop where
  ge : B ≤ g
  oct : Oct bs
  blk : Blk w g 33 #[.bool true, .int .u32 (hasI bs).a, .int .u32 (hasI bs).b, .int .u32 (hasI bs).c, .int .u32 (hasI bs).d, .int .u32 (hasI bs).e, v, .int .i64 bs.length]
  own : w.ownsRow B 5 1 v (restI bs).length (octs (restI bs))
structure Same (v : Value) (w0 : World) (e : Ending) (w : World) : Prop where
  ret : e = .returned v
  same : w0 = w
theorem Dig.below {B g : Nat} {bs : List Int} {v : Value} {w w' : World} (h : Dig B w g bs v) (hb : Below w.heap.size w w') : Dig B w' g bs v := ⟨h.ge, h.oct, h.blk.below hb, own_below h.own hb⟩
theorem Dig.alloc {B g : Nat} {bs : List Int} {v : Value} {w : World} (h : Dig B w g bs v) (o : Obj) : Dig B (w.alloc o) g bs v := ⟨h.ge, h.oct, h.blk.alloc o, h.own.alloc o⟩
theorem Dig.drew {B g : Nat} {bs : List Int} {v : Value} {w : World} (h : Dig B w g bs v) : Dig B w.drew g bs v := ⟨h.ge, h.oct, h.blk, h.own⟩
theorem Dig.frm {S : Nat → Prop} {B g : Nat} {bs : List Int} {v : Value} {w w' : World} (h : Dig B w g bs v) (hf : Frm S w w') (h1 : ¬ S g) (h2 : ∀ k, v.ownBlock = some k → ¬ S k) : Dig B w' g bs v := ⟨h.ge, h.oct, h.blk.frm hf h1, hf.own h.own h2⟩
structure NewDig (w0 : World) (e : Ending) (w : World) : Prop where
  ret : e = .returned (.pointer (some ⟨w0.heap.size, 0, none⟩))
  dig : Dig w0.heap.size w w0.heap.size [] (.slice none 0 0)
  low : Below w0.heap.size w0 w
theorem new_any (w : World) : Calls Try.prog 15 #[] w (NewDig w) := by
  go_enter Try.func15, Try.ntmps15
  go_wp2
  go_ret
  exact ⟨rfl, ⟨Nat.le_refl _, fun x hx => (by cases hx), Blk.new _ _ _, ⟨rfl, .inl ⟨rfl, rfl⟩⟩⟩, (Below.refl _ _).alloc (Nat.le_refl _) _⟩
theorem len_nil (w : World) : Calls Try.prog 14 #[.pointer none] w (Same (.int .i64 0) w) := by
  go_enter Try.func14, Try.ntmps14
  go_wp2
  go_ret
  exact ⟨rfl, rfl⟩
theorem len_of (g : Nat) (n : Int) (u0 u1 u2 u3 u4 u5 u6 : Value) (w : World) (hb : Blk w g 33 #[u0, u1, u2, u3, u4, u5, u6, .int .i64 n]) : Calls Try.prog 14 #[.pointer (some ⟨g, 0, none⟩)] w (Same (.int .i64 n) w) := by
  have c7 := hb.cell 7
  simp at c7
  clear hb
  go_enter Try.func14, Try.ntmps14
  go_wp2
  go_ret
  exact ⟨rfl, rfl⟩
theorem len_any {B g : Nat} {bs : List Int} {v : Value} {w : World} (h : Dig B w g bs v) : Calls Try.prog 14 #[.pointer (some ⟨g, 0, none⟩)] w (Same (.int .i64 bs.length) w) := len_of g _ _ _ _ _ _ _ _ w h.blk
theorem write_nil (b : Value) (w : World) : Calls Try.prog 12 #[.pointer none, b] w (Same (.int .i64 1) w) := by
  go_enter Try.func12, Try.ntmps12
  go_wp2
  go_ret
  exact ⟨rfl, rfl⟩
theorem write_unmade (b : Value) (g : Nat) (u1 u2 u3 u4 u5 u6 u7 : Value) (w : World) (hb : Blk w g 33 #[.bool false, u1, u2, u3, u4, u5, u6, u7]) : Calls Try.prog 12 #[.pointer (some ⟨g, 0, none⟩), b] w (Same (.int .i64 1) w) := by
  have c0 := hb.cell 0
  simp at c0
  clear hb
  go_enter Try.func12, Try.ntmps12
  go_wp2
  go_ret
  exact ⟨rfl, rfl⟩
end Go.Proofs.Ytgkgdbjdmmieaaa
