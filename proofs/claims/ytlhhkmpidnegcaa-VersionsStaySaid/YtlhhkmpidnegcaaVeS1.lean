/- VersionsStay: what stands beside the table; what is handed out and written over. Plain. -/
import Derived.Test.YtlhhkmpidnegcaaVeOp
namespace Go.Proofs.Ytlhhkmpidnegcaa
open Go.RowKit Go.WideShapes
set_option linter.unusedVariables false
set_option linter.unusedSimpArgs false
section
variable {B gt gi mb nst : Nat} {T : Tab} {v V : Value} {xs : List Value} {w w' : World} {S : Nat → Prop}
theorem Tb.far (h : Tb B w gt gi mb nst T v V xs) (hf : Frm S w w') (hS : ∀ k, S k → ¬ Sg gt gi mb v k ∧ V.ownBlock ≠ some k ∧ Foreign w k) : Tb B w' gt gi mb nst T v V xs :=
  ⟨h.ge, h.blk.frm hf fun hs => (hS _ hs).1 (.inl rfl), h.idx.frm hf (fun hs => (hS _ hs).1 (.inr (.inl rfl))) (fun hs => (hS _ hs).1 (.inr (.inr (.inl rfl)))) (fun k hk hs => (hS k hs).1 (.inr (.inr (.inr hk)))), h.rt, h.nd, h.lm, h.b0, h.b1, h.vl,
    hf.own h.row fun k hk hs => (hS k hs).2.1 hk, h.vs.frm hf fun k hs => (hS k hs).2.2⟩
end
theorem applyT_cases (T : Tab) (blocks : Int) (pcs : List Pc) (roll : Int) (ds : List (ByteArray × List Int)) : ((applyT T blocks pcs roll ds).1 ≠ 0 ∧ (applyT T blocks pcs roll ds).2 = T) ∨
    ∃ T', applyT T blocks pcs roll ds = (0, T') ∧ T'.vs = T.vs ++ [if 0 < roll then T.vs.getD (roll.toNat - 1) [] else ds] ∧ 0 ≤ roll ∧ roll ≤ T.vs.length ∧ T.vs.length ≠ 100 := by
  unfold applyT
  by_cases h1 : T.vs.length = 100 ∨ 1048576 - T.bl < blocks ∨ 8192 - (T.ps.length : Int) < (pcs.length : Int)
  · rw [if_pos h1]; exact .inl ⟨by simp, rfl⟩
  · rw [if_neg h1]
    by_cases h2 : blocks < 0
    · rw [if_pos h2]; exact .inl ⟨by simp, rfl⟩
    · rw [if_neg h2]
      cases addAll T.bl (T.bl + blocks) T.ps pcs with
      | none => exact .inl ⟨by simp, rfl⟩
      | some ps =>
        simp only
        by_cases h3 : 0 < roll ∧ (T.vs.length : Int) < roll
        · rw [if_pos h3]; exact .inl ⟨by simp, rfl⟩
        · rw [if_neg h3]
          by_cases h4 : formB ps roll ds = false
          · rw [if_pos h4]; exact .inl ⟨by simp, rfl⟩
          · rw [if_neg h4]
            have h5 : 0 ≤ roll := by
              rcases Int.lt_or_le roll 0 with h | h
              · exact absurd (formB_neg h) h4
              · exact h
            refine .inr ⟨_, rfl, rfl, h5, by omega, fun e => h1 (.inl e)⟩
/-- The law's own list beside the table's. -/
structure AllS (B gt gi mb : Nat) (T : Tab) (nst : Nat) (all : Value) (w : World) : Prop where
  ex : ∃ v V xs ys, Tb B w gt gi mb nst T v V xs ∧ w.ownsRow B 27 1 all T.vs.length ys ∧ VsR B w ys T.vs ∧ ∀ k, V.ownBlock = some k → all.ownBlock ≠ some k
theorem AllS.below {B gt gi mb nst : Nat} {T : Tab} {all : Value} {w w' : World} (h : AllS B gt gi mb T nst all w) (hb : Below w.heap.size w w') : AllS B gt gi mb T nst all w' := by
  obtain ⟨v, V, xs, ys, h1, h2, h3, h4⟩ := h.ex
  exact ⟨v, V, xs, ys, h1.below hb, own_below h2 hb, h3.below hb, h4⟩
/-- Behind Apply: the law's list stands, the table may have turned. -/
structure MidS (B gt gi mb : Nat) (vs : List (List (ByteArray × List Int))) (T' : Tab) (nst : Nat) (all : Value) (ys : List Value) (w : World) : Prop where
  ex : ∃ v V xs, Tb B w gt gi mb nst T' v V xs ∧ ∀ k, V.ownBlock = some k → all.ownBlock ≠ some k
  row : w.ownsRow B 27 1 all vs.length ys
  vs : VsR B w ys vs
theorem mid_of {B gt gi mb nst most : Nat} {T : Tab} {v V : Value} {xs ys : List Value} {all : Value} {r : Int × Tab} {w w' : World} {e : Ending} (h : Tb B w gt gi mb nst T v V xs) (hr : w.ownsRow B 27 1 all T.vs.length ys) (hv : VsR B w ys T.vs) (hne : ∀ k, V.ownBlock = some k → all.ownBlock ≠ some k)
    (ha : ApE B gt gi mb most r v V w e w') : ∃ n', n' ≤ most ∧ MidS B gt gi mb T.vs r.2 n' all ys w' := by
  obtain ⟨_, ⟨n', v', V', xs', hn, hT, hV⟩, hf⟩ := ha
  have hS : ∀ k, (k = gt ∨ k = gi ∨ k = mb ∨ v.ownBlock = some k ∨ V.ownBlock = some k) → all.ownBlock ≠ some k ∧ Foreign w k := fun k hk => by
    rcases hk with rfl | rfl | rfl | hk | hk
    · exact ⟨fun e => Blk.apart h.blk hr (by decide) _ e rfl, Foreign.blk h.blk (by decide) (by decide)⟩
    · exact ⟨fun e => Blk.apart h.idx.blk hr (by decide) _ e rfl, h.foreign _ (.inl rfl)⟩
    · exact ⟨fun e => kmap_ne_own h.idx.map hr e, h.foreign _ (.inr (.inl rfl))⟩
    · obtain ⟨_, cur, hb⟩ := h.idx.own.blk k hk
      exact ⟨fun e => Blk.apart hb hr (by decide) _ e rfl, h.foreign _ (.inr (.inr hk))⟩
    · refine ⟨fun e => hne k hk e, fun cs => ⟨fun e => Blk.apart (show Blk w k 41 cs from e) h.row (by decide) k hk rfl, fun e => Blk.apart (show Blk w k 3 cs from e) h.row (by decide) k hk rfl⟩⟩
  refine ⟨n', hn, ⟨v', V', xs', hT, fun k hk e => ?_⟩, hf.own hr fun k hk hs => (hS k hs).1 hk, hv.frm hf fun k hs => (hS k hs).2⟩
  rcases hV with hV | hV
  · exact hne k (hV ▸ hk) e
  · have h1 := hV k hk
    have h2 := (own_lt hr k e).2
    omega
theorem MidS.same {B gt gi mb nst : Nat} {T : Tab} {all : Value} {ys : List Value} {w : World} (h : MidS B gt gi mb T.vs T nst all ys w) : AllS B gt gi mb T nst all w := by
  obtain ⟨v, V, xs, h1, h2⟩ := h.ex
  exact ⟨v, V, xs, ys, h1, h.row, h.vs, h2⟩
theorem MidS.below {B gt gi mb nst : Nat} {vs : List (List (ByteArray × List Int))} {T' : Tab} {all : Value} {ys : List Value} {w w' : World} (h : MidS B gt gi mb vs T' nst all ys w) (hb : Below w.heap.size w w') : MidS B gt gi mb vs T' nst all ys w' := by
  obtain ⟨v, V, xs, h1, h2⟩ := h.ex
  exact ⟨⟨v, V, xs, h1.below hb, h2⟩, own_below h.row hb, h.vs.below hb⟩
/-- The law's list, one more: whose files are those of the table's newest version. -/
theorem MidS.more {B gt gi mb nst n c : Nat} {vs : List (List (ByteArray × List Int))} {ds : List (ByteArray × List Int)} {T' : Tab} {all all' : Value} {ys : List Value} {w w3 : World} {o : Obj} {A : Option Addr} (h : MidS B gt gi mb vs T' nst all ys w) (hv : T'.vs = vs ++ [ds])
    (hu : ∃ fs : List Fl, fs.length = n ∧ fs.map Fl.dat = ds ∧ OwnF B w (.slice A n c) fs ∧ n ≤ 200 ∧ (∀ f ∈ fs, f.n ≤ 131072) ∧ (A = none → n = 0 ∧ c = 0))
    (hg : (w.alloc o).grownBy w3 all.ownBlock) (h3 : w3.ownsRow B 27 1 all' (vs.length + 1) (ys ++ [.slice A n c])) (hn : all'.ownBlock = all.ownBlock ∨ ∀ k, all'.ownBlock = some k → w.heap.size ≤ k) : AllS B gt gi mb T' nst all' w3 := by
  obtain ⟨v, V, xs, h1, h2⟩ := h.ex
  have hfr : Frm (fun k => all.ownBlock = some k) w w3 := ((Frm.refl _ w).alloc o).trans (Frm.of_grown hg (fun k hk => hk)) (fun _ _ h => h)
  have hfo : ∀ k, all.ownBlock = some k → Foreign w k := fun k hk cs => ⟨fun e => Blk.apart (show Blk w k 41 cs from e) h.row (by decide) k hk rfl, fun e => Blk.apart (show Blk w k 3 cs from e) h.row (by decide) k hk rfl⟩
  have hT := h1.far hfr fun k hk => ⟨fun hs => by
    rcases hs with rfl | rfl | rfl | hs
    · exact Blk.apart h1.blk h.row (by decide) _ hk rfl
    · exact Blk.apart h1.idx.blk h.row (by decide) _ hk rfl
    · exact kmap_ne_own h1.idx.map h.row hk
    · obtain ⟨_, cur, hb⟩ := h1.idx.own.blk k hs
      exact Blk.apart hb h.row (by decide) _ hk rfl, fun e => h2 k e hk, hfo k hk⟩
  have hvs := h.vs.frm hfr hfo
  have hyl : ys.length = vs.length := by have := h.row.1; omega
  refine ⟨v, V, xs, ys ++ [.slice A n c], hT, by rw [hv, List.length_append]; exact h3, ⟨fun i d hi => ?_⟩, fun k hk e => ?_⟩
  · rw [hv] at hi
    rcases Nat.lt_or_ge i vs.length with hi2 | hi2
    · rw [List.getElem?_append_left hi2] at hi
      obtain ⟨A', m, c', gs, k1, k2⟩ := hvs.at_ i d hi
      exact ⟨A', m, c', gs, by rw [List.getElem?_append_left (by omega)]; exact k1, k2⟩
    · rw [List.getElem?_append_right hi2] at hi
      have hlt2 : i - vs.length < 1 := by
        have := (List.getElem?_eq_some_iff.1 hi).1
        simpa using this
      have h0 : i - vs.length = 0 := by omega
      rw [h0] at hi
      injection hi with hi
      subst hi
      obtain ⟨fs, k1, k2, k3, k4⟩ := hu
      exact ⟨A, n, c, fs, by rw [List.getElem?_append_right (by omega), hyl, h0]; rfl, k1, k2, k3.frm hfr hfo, k4⟩
  · rcases hn with hn | hn
    · exact h2 k hk (hn ▸ e)
    · have a1 := hn k e
      have a2 := (own_lt h1.row k hk).2
      omega
/-- What was handed out, as it may be written over. -/
structure Wr (g n : Nat) (fs : List Fl) (b0 : Nat) (w : World) : Prop where
  row : ∃ cur, Blk w g 41 cur ∧ n * 2 ≤ cur.size ∧ ∀ (j : Nat) (f : Fl), fs[j]? = some f → cur[j * 2 + 1]? = some (.slice f.A f.n f.c)
  each : ∀ f ∈ fs, 0 < f.n → ∃ fb cf, f.A = some ⟨fb, 0, none⟩ ∧ b0 ≤ fb ∧ Blk w fb 3 cf ∧ 0 < cf.size
theorem wr_of {b0 n c g : Nat} {w : World} {fs : List Fl} (h : OwnF b0 w (.slice (some ⟨g, 0, none⟩) n c) fs) (hn : fs.length = n) : Wr g n fs b0 w ∧ b0 ≤ g := by
  rcases h.own.2 with ⟨h0, _⟩ | ⟨g', cap, cur, hv, hB, hg, hc, hm, hsz, ht⟩
  · cases h0
  · injection hv with hv _ hc'
    injection hv with hv
    injection hv with hv
    subst hv hc'
    refine ⟨⟨⟨cur, hg, by omega, fun j f hj => ?_⟩, fun f hf h0 => ?_⟩, hB⟩
    · have h1 := flatF_at fs j 1 f hj (by omega)
      rw [← ht, List.getElem?_take] at h1
      rw [← Array.getElem?_toList]
      split at h1
      · exact h1
      · cases h1
    · have ho := h.each f hf
      rcases ho.2 with ⟨h1, h2⟩ | ⟨gf, cap, cf, hv, hB', hg', hc', hm', hsz', ht'⟩
      · injection h1 with _ h1
        omega
      · injection hv with hv _ _
        exact ⟨gf, cf, hv, hB', hg', by omega⟩
theorem Wr.name {g n b0 k : Nat} {w : World} {fs : List Fl} (h : Wr g n fs b0 w) (u : Value) : Wr g n fs b0 (w.setCell ⟨g, k * 2, none⟩ u) := by
  obtain ⟨cur, h1, h2, h3⟩ := h.row
  refine ⟨⟨_, h1.set _ _, by simpa using h2, fun j f hj => ?_⟩, fun f hf h0 => ?_⟩
  · rw [Array.getElem?_setIfInBounds]
    rw [if_neg (by omega)]
    exact h3 j f hj
  · obtain ⟨fb, cf, e1, e2, e3, e4⟩ := h.each f hf h0
    exact ⟨fb, cf, e1, e2, e3.far (p := ⟨g, k * 2, none⟩) (Blk.ne e3 h1 (by decide)) u, e4⟩
theorem Wr.num {g n b0 fb : Nat} {w : World} {fs : List Fl} {cf : Array Value} (h : Wr g n fs b0 w) (hb : Blk w fb 3 cf) (u : Value) : Wr g n fs b0 (w.setCell ⟨fb, 0, none⟩ u) := by
  obtain ⟨cur, h1, h2, h3⟩ := h.row
  refine ⟨⟨cur, h1.far (p := ⟨fb, 0, none⟩) (Blk.ne h1 hb (by decide)) u, h2, h3⟩, fun f hf h0 => ?_⟩
  obtain ⟨fb', cf', e1, e2, e3, e4⟩ := h.each f hf h0
  by_cases e : fb' = fb
  · subst e
    exact ⟨fb', _, e1, e2, e3.set 0 u, by simpa using e4⟩
  · exact ⟨fb', cf', e1, e2, e3.far (p := ⟨fb, 0, none⟩) e u, e4⟩
/-- 'append(all, x)', x laid in a block of its own just ahead; where the row lies is told. -/
theorem wpList_appV {ops : Array Oper} {rest : List Oper} {o : Oper} {a : Act} {w : World} {Q : Exit → Act → World → Prop} (hgd : Region.wanted o (yielded ops a.tmps) = true) (s x : Operand)
    (ho : o.op = .call { callee := .builtin .append, args := #[s, x], argTypes := #[25, 25] })
    (base : Nat) (v : Value) (n : Nat) (xs : List Value) (hs : a.eval s = v) (hown : w.ownsRow base 27 1 v n xs) (u : Value) (h1 : u.oneCell' = true)
    (g0 : Nat) (hx : a.eval x = .slice (some ⟨g0, 0, none⟩) 1 1) (hg0 : g0 = w.heap.size)
    (hm : n ≤ 1000) (hbase : base ≤ w.heap.size)
    (h : ∀ v' w', w'.ownsRow base 27 1 v' (n + 1) (xs ++ [u]) → (w.alloc (.cells #[u] 27)).grownBy w' v.ownBlock → (v'.ownBlock = v.ownBlock ∨ ∀ k, v'.ownBlock = some k → w.heap.size ≤ k) → wpList Try.prog ops Q rest (a.put o.dst v') w') : wpList Try.prog ops Q (o :: rest) a (w.alloc (.cells #[u] 27)) := by
  subst hg0
  refine wpList_appN tVs hgd s x ho base v n xs hs (hown.alloc _) (some ⟨w.heap.size, 0, none⟩) 1 1 [u] hx rfl (.inr ⟨_, rfl, fun j y hy => ?_⟩) (by simpa using h1) (by omega) (by unfold maxLen; omega) (by simp; omega) fun v' w' h2 h3 h4 => h v' w' h2 h3 (h4.imp id fun hk k he => ?_)
  · rw [addr_add, Nat.zero_add, (Blk.new w 27 #[u]).cell]
    simpa using hy
  · have := hk k he
    simp at this
    omega
theorem dat_sizes {B : Nat} {w : World} {fs gs : List Fl} {A : Option Addr} {n c : Nat} (h : fs.map Fl.dat = gs.map Fl.dat) (ho : OwnF B w (.slice A n c) gs) (hl : gs.length = n) (hs : ∀ f ∈ gs, f.n ≤ 131072) : ∀ f ∈ fs, f.fr.length ≤ 131072 := fun f hf => by
  have h1 : f.dat ∈ gs.map Fl.dat := h ▸ List.mem_map_of_mem hf
  obtain ⟨g, hg, hgd⟩ := List.mem_map.1 h1
  have h2 := hs g hg
  have h3 := (ho.each g hg).1
  rw [ints_length] at h3
  have h4 : g.fr = f.fr := congrArg Prod.snd hgd
  rw [← h4]
  omega
end Go.Proofs.Ytlhhkmpidnegcaa
