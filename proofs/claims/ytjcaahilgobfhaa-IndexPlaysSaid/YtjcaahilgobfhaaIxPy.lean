/- IndexPlays: the steps of a script. -/
import Derived.Test.YtjcaahilgobfhaaIxHa
namespace Go.Proofs.Ytjcaahilgobfhaa
open Go.RowKit Go.WideShapes Go.Maps
set_option linter.unusedVariables false
set_option linter.unusedSimpArgs false
/-- The index beside the document's list, and the law's own two blocks. -/
structure Pr (B g mb n : Nat) (l : List Pc) (A : Option Addr) (M c : Nat) (lr : List Pc) (go : Nat) (os : Array Value) (gp : Nat) (ps : Array Value) (w : World) : Prop where
  ex : ∃ v, Idx B w g mb n l v ∧ (∀ k, v.ownBlock = some k → (Value.slice A M c).ownBlock ≠ some k) ∧ v.ownBlock ≠ some gp
  row : RowP B w (.slice A M c) M (flatP lr)
  bo : Blk w go 53 os
  bp : Blk w gp 39 ps
  np : (Value.slice A M c).ownBlock ≠ some gp
section
variable {B g mb n : Nat} {l : List Pc} {A : Option Addr} {M c : Nat} {lr : List Pc} {go : Nat} {os : Array Value} {gp : Nat} {ps : Array Value}
theorem Pr.below {w w' : World} (h : Pr B g mb n l A M c lr go os gp ps w) (hb : Below w.heap.size w w') : Pr B g mb n l A M c lr go os gp ps w' := by
  obtain ⟨v, h1, h2, h3⟩ := h.ex
  exact ⟨⟨v, h1.below hb, h2, h3⟩, h.row.below hb, h.bo.below hb, h.bp.below hb, h.np⟩
theorem rowp_ne {w : World} {v u : Value} {n m : Nat} {xs : List Value} {t : TypeId} {cs : Array Value} {g : Nat} (h : RowP B w v n xs) (hb : Blk w g t cs) (hne : 39 ≠ t) : v.ownBlock ≠ some g := fun e => h.apart hb hne g e rfl
theorem Pr.turn {w w' : World} {v v' : Value} {n' : Nat} {l' : List Pc} {S : Nat → Prop} (h : Pr B g mb n l A M c lr go os gp ps w) (hi : Idx B w g mb n l v) (ha : ∀ k, v.ownBlock = some k → (Value.slice A M c).ownBlock ≠ some k) (hp : v.ownBlock ≠ some gp)
    (hi' : Idx B w' g mb n' l' v') (hv : v'.ownBlock = v.ownBlock ∨ ∀ k, v'.ownBlock = some k → w.heap.size ≤ k) (hf : Frm S w w') (hS : ∀ k, S k → k = g ∨ k = mb ∨ v.ownBlock = some k) : Pr B g mb n' l' A M c lr go os gp ps w' := by
  have n1 : ¬ S go := fun e => by
    rcases hS _ e with rfl | rfl | e
    · exact Blk.ne h.bo hi.blk (by decide) rfl
    · exact kmap_ne_blk hi.map h.bo rfl
    · exact hi.own.apart h.bo (by decide) _ e rfl
  have n2 : ¬ S gp := fun e => by
    rcases hS _ e with rfl | rfl | e
    · exact Blk.ne h.bp hi.blk (by decide) rfl
    · exact kmap_ne_blk hi.map h.bp rfl
    · exact hp e
  refine ⟨⟨v', hi', fun k hk e => ?_, fun e => ?_⟩, h.row.frm hf fun k hk e => ?_, h.bo.frm hf n1, h.bp.frm hf n2, h.np⟩
  · rcases hv with hv | hv
    · exact ha k (hv ▸ hk) e
    · have := hv k hk
      have := (h.row.lt k e).2
      omega
  · rcases hv with hv | hv
    · exact hp (hv ▸ e)
    · have := hv _ e
      have := h.bp.lt
      omega
  · rcases hS _ e with rfl | rfl | e
    · exact h.row.apart hi.blk (by decide) _ hk rfl
    · exact rowp_map hi.map h.row hk
    · exact ha k e hk
/-- What a piece's Add comes to: the numbers are the same for the index and the document. -/
theorem play_add (p : Pc) (hp : p.ok) (hM : l.length = M) (hm : M ≤ 60) (hn : n ≤ 60) (nd : (l.map Pc.h).Nodup) (oks : ∀ p ∈ l, p.ok) (rt : ∀ p ∈ l, rightP p.s p.b p.a = true) :
    ∃ (num : Int) (fresh : Bool) (err : Int) (l' : List Pc) (n' : Nat), l'.length ≤ M + 1 ∧ n' ≤ n + 1 ∧ (l'.map Pc.h).Nodup ∧ (∀ p ∈ l', p.ok) ∧ (∀ p ∈ l', rightP p.s p.b p.a = true) ∧
      (∀ W, Pr B g mb n l A M c l go os gp ps W → Calls Try.prog 20 #[.pointer (some ⟨g, 0, none⟩), p.agg] W fun e W' => e = .returned (.tuple #[.int .i64 num, .bool fresh, .int .i64 err]) ∧ Pr B g mb n' l' A M c l go os gp ps W' ∧ Below B W W') ∧
      (∀ W, Pr B g mb n' l' A M c l go os gp ps W → B ≤ W.heap.size → Calls Try.prog 28 #[.slice A M c, p.agg] W fun e W' => (∃ A' M' c', e = .returned (.tuple #[.slice A' M' c', .int .i64 num, .bool fresh, .int .i64 err]) ∧ M' = l'.length ∧ Pr B g mb n' l' A' M' c' l' go os gp ps W') ∧ Below B W W') := by
  have szOf : ∀ {n' : Nat} {l' lr : List Pc} {W : World}, Pr B g mb n' l' A M c lr go os gp ps W → B ≤ W.heap.size := fun h => by
    obtain ⟨v, h1, _⟩ := h.ex
    have := h1.ge
    have := h1.blk.lt
    omega
  cases hr : rightP p.s p.b p.a with
  | false =>
    refine ⟨0, false, 2, l, n, by omega, by omega, nd, oks, rt, fun W h => ?_, fun W h hB => ?_⟩
    · obtain ⟨v, h1, _⟩ := h.ex
      exact (add_wrong p W h1 hp hr).mono fun e W' hq => ⟨hq.ret, h.below hq.low, hq.low.mono (szOf h)⟩
    · exact (refAdd_wrong p W h.row hp hr).mono fun e W' hq => ⟨⟨A, M, c, hq.ret, hM.symm, h.below hq.low⟩, hq.low.mono hB⟩
  | true =>
    rcases find_none_or l p.h with hf | ⟨i, hf⟩
    · refine ⟨(M : Int) + 1, true, 0, l ++ [p], n + 1, by rw [List.length_append, hM]; exact Nat.le_refl _, Nat.le_refl _, nodup_snoc l p nd hf, fun q hq => ?_, fun q hq => ?_, fun W h => ?_, fun W h hB => ?_⟩
      · rcases List.mem_append.1 hq with hq | hq
        · exact oks q hq
        · simp at hq; subst hq; exact hp
      · rcases List.mem_append.1 hq with hq | hq
        · exact rt q hq
        · simp at hq; subst hq; exact hr
      · obtain ⟨v, h1, h2, h3⟩ := h.ex
        refine (add_new p W h1 hp hr hf (by omega) (by omega) h1.blk.lt).mono fun e W' ⟨e1, ⟨v', e2, e3⟩, e4⟩ => ⟨by rw [e1, hM], h.turn h1 h2 h3 e2 e3 e4 (fun k hk => hk), e4.to_below (szOf h) fun k hk => ?_⟩
        rcases hk with rfl | rfl | hk
        · exact h1.ge
        · exact h1.gm
        · exact (h1.own.lt k hk).1
      · obtain ⟨v, h1, h2, h3⟩ := h.ex
        refine (refAdd_new p W h.row hp hr oks hM (by omega) hf).mono fun e W' ⟨⟨u, e1, e2⟩⟩ => ?_
        have hlen : (l ++ [p]).length = M + 1 := by rw [List.length_append, hM]; rfl
        have hrow : RowP B W' u (M + 1) (flatP (l ++ [p])) := .inl (own_mono e2.row hB)
        obtain ⟨A', c', rfl, hc'⟩ := own_slice e2.row
        have hb := h.below e2.low
        obtain ⟨v2, k1, k2, k3⟩ := hb.ex
        have hfresh : ∀ k, (Value.slice A' (M + 1) c').ownBlock = some k → W.heap.size ≤ k := fun k hk => (own_lt e2.row k hk).1
        refine ⟨⟨A', M + 1, c', by rw [e1]; rfl, hlen.symm, ⟨⟨v, h1.below e2.low, fun k hk e => ?_, h3⟩, hrow, hb.bo, hb.bp, fun e => ?_⟩⟩, e2.low.mono hB⟩
        · have := hfresh k e
          have := (h1.own.lt k hk).2
          omega
        · have := hfresh _ e
          have := h.bp.lt
          omega
    · refine ⟨(i : Int), false, 0, l, n, by omega, by omega, nd, oks, rt, fun W h => ?_, fun W h hB => ?_⟩
      · obtain ⟨v, h1, _⟩ := h.ex
        exact (add_there p W h1 hp hr i hf).mono fun e W' hq => ⟨hq.ret, h.below hq.low, hq.low.mono (szOf h)⟩
      · exact (refAdd_there p W h.row hp hr oks hM (by omega) i hf).mono fun e W' hq => ⟨⟨A, M, c, hq.ret, hM.symm, h.below hq.low⟩, hq.low.mono hB⟩
/-- A Cut. -/
theorem play_cut (x : Int) (hM : l.length = M) (hm : M ≤ 60) (nd : (l.map Pc.h).Nodup) (oks : ∀ p ∈ l, p.ok) (rt : ∀ p ∈ l, rightP p.s p.b p.a = true) :
    ∃ (err : Int) (l' : List Pc), l'.length ≤ M ∧ (l'.map Pc.h).Nodup ∧ (∀ p ∈ l', p.ok) ∧ (∀ p ∈ l', rightP p.s p.b p.a = true) ∧
      (∀ W, Pr B g mb n l A M c l go os gp ps W → Calls Try.prog 22 #[.pointer (some ⟨g, 0, none⟩), .int .i64 x] W fun e W' => e = .returned (.int .i64 err) ∧ Pr B g mb n l' A M c l go os gp ps W' ∧ Below B W W') ∧
      (∀ W, Pr B g mb n l' A M c l go os gp ps W → B ≤ W.heap.size → Calls Try.prog 29 #[.slice A M c, .int .i64 x] W fun e W' => (∃ A' M' c', e = .returned (.tuple #[.slice A' M' c', .int .i64 err]) ∧ M' = l'.length ∧ Pr B g mb n l' A' M' c' l' go os gp ps W') ∧ Below B W W') := by
  by_cases hx : x < 0 ∨ (M : Int) < x
  · refine ⟨2, l, by omega, nd, oks, rt, fun W h => ?_, fun W h hB => ?_⟩
    · obtain ⟨v, h1, _⟩ := h.ex
      obtain ⟨A1, c1, rfl, _⟩ := h1.own.slice
      have hb := h1.blk
      rw [hM] at hb
      exact (cut_wrong x W hb hx).mono fun e W' hq => by
        obtain ⟨q1, rfl⟩ := hq
        exact ⟨q1, h, Below.refl _ _⟩
    · exact (refCut_out x W hx).mono fun e W' hq => by
        obtain ⟨q1, rfl⟩ := hq
        exact ⟨⟨A, M, c, q1, hM.symm, h⟩, Below.refl _ _⟩
  · obtain ⟨k, rfl⟩ : ∃ k : Nat, x = (k : Int) := ⟨x.toNat, by omega⟩
    have hk : k ≤ M := by omega
    have hlen : (l.take k).length = k := by rw [List.length_take]; omega
    refine ⟨0, l.take k, by omega, by rw [List.map_take]; exact nd.sublist (List.take_sublist _ _), fun q hq => oks q (List.mem_of_mem_take hq), fun q hq => rt q (List.mem_of_mem_take hq), fun W h => ?_, fun W h hB => ?_⟩
    · obtain ⟨v, h1, h2, h3⟩ := h.ex
      refine (cut_any k W h1 nd (by omega) (by omega)).mono fun e W' ⟨e1, ⟨v', e2, e3⟩, e4⟩ => ⟨e1, h.turn h1 h2 h3 e2 (.inl e3) e4 (fun k hk => hk.elim .inl (fun h => .inr (.inl h))), e4.to_below (by have := h1.ge; have := h1.blk.lt; omega) fun k hk => ?_⟩
      rcases hk with rfl | rfl
      · exact h1.ge
      · exact h1.gm
    · obtain ⟨v, h1, h2, h3⟩ := h.ex
      refine (refCut_any k W h.row oks hM (by omega) hk).mono fun e W' ⟨⟨u, e1, e2⟩⟩ => ?_
      have hrow : RowP B W' u k (flatP (l.take k)) := .inl (own_mono e2.row hB)
      obtain ⟨A', c', rfl, hc'⟩ := own_slice e2.row
      have hb := h.below e2.low
      have hfresh : ∀ b, (Value.slice A' k c').ownBlock = some b → W.heap.size ≤ b := fun b hb => (own_lt e2.row b hb).1
      refine ⟨⟨A', k, c', by rw [e1], hlen.symm, ⟨⟨v, h1.below e2.low, fun b hb e => ?_, h3⟩, hrow, hb.bo, hb.bp, fun e => ?_⟩⟩, e2.low.mono hB⟩
      · have := hfresh b e
        have := (h1.own.lt b hb).2
        omega
      · have := hfresh _ e
        have := h.bp.lt
        omega
/-- A copy takes the index's place; the old one is cut. -/
theorem play_copy (W : World) (h : Pr B g mb n l A M c lr go os gp ps W) (hm : l.length ≤ 8192) (nd : (l.map Pc.h).Nodup) :
    Calls Try.prog 30 #[.pointer (some ⟨g, 0, none⟩)] W fun e W' => Below B W W' ∧ ∃ g' mb', e = .returned (.pointer (some ⟨g', 0, none⟩)) ∧ Calls Try.prog 22 #[.pointer (some ⟨g, 0, none⟩), .int .i64 0] W' fun e W'' => e = .returned (.int .i64 0) ∧ Pr B g' mb' n l A M c lr go os gp ps W'' ∧ Below B W' W'' := by
  obtain ⟨v, h1, h2, h3⟩ := h.ex
  have hB : B ≤ W.heap.size := by have := h1.ge; have := h1.blk.lt; omega
  refine (copy_any W h1 hm).mono fun e W' ⟨⟨g', mb', v', e1, e2⟩, e3⟩ => ⟨e3.mono hB, g', mb', e1, ?_⟩
  have hi' := h1.below e3
  have hg1 := h1.blk.lt
  have hg2 := h1.map.lt
  refine (cut_any 0 W' hi' nd (Nat.zero_le _) hm).mono fun e W'' ⟨k1, ⟨v2, k2, k3⟩, k4⟩ => ⟨k1, ?_, k4.to_below (by have := e3.size; omega) fun k hk => ?_⟩
  · have hb := h.below e3
    have hnS : ∀ k, W.heap.size ≤ k → ¬ (k = g ∨ k = mb) := fun k hk e => by omega
    have hown : ∀ k, v'.ownBlock = some k → W.heap.size ≤ k := fun k hk => (e2.own.lt k hk).1
    refine ⟨⟨v', (e2.mono hB).frm k4 (hnS _ e2.ge) (hnS _ e2.gm) (fun k hk => hnS k (hown k hk)), fun k hk e => ?_, fun e => ?_⟩, hb.row.frm k4 fun k hk e => ?_, hb.bo.frm k4 fun e => ?_, hb.bp.frm k4 fun e => ?_, h.np⟩
    · have := hown k hk
      have := (h.row.lt k e).2
      omega
    · have := hown _ e
      have := h.bp.lt
      omega
    · rcases e with rfl | rfl
      · exact h.row.apart h1.blk (by decide) _ hk rfl
      · exact rowp_map h1.map h.row hk
    · rcases e with rfl | rfl
      · exact Blk.ne h.bo h1.blk (by decide) rfl
      · exact kmap_ne_blk h1.map h.bo rfl
    · rcases e with rfl | rfl
      · exact Blk.ne h.bp h1.blk (by decide) rfl
      · exact kmap_ne_blk h1.map h.bp rfl
  · rcases hk with rfl | rfl
    · exact h1.ge
    · exact h1.gm
theorem play_find (h : List Int) (hh : IsHash h) (oks : ∀ p ∈ l, p.ok) (hM : l.length = M) (hm : M ≤ 60) : ∃ (num : Int) (b : Bool), (∀ W, Pr B g mb n l A M c l go os gp ps W → Calls Try.prog 26 #[.pointer (some ⟨g, 0, none⟩), .agg (hashV h).toArray] W (Quiet (.tuple #[.int .i64 num, .bool b]) W)) ∧
    ∀ W, Pr B g mb n l A M c l go os gp ps W → Calls Try.prog 31 #[.slice A M c, .agg (hashV h).toArray] W (Quiet (.tuple #[.int .i64 num, .bool b]) W) := by
  refine ⟨((findP l h).getD 0 : Nat), (findP l h).isSome, fun W hW => ?_, fun W hW => ?_⟩
  · obtain ⟨v, h1, _⟩ := hW.ex
    exact (find_any h W h1 hh).mono fun e w' hx => ⟨hx.ret, hx.low⟩
  · exact (refFind_any h W hW.row oks hM (by omega) hh).mono fun e w' hx => ⟨hx.ret, hx.low⟩
theorem play_len (W : World) (h : Pr B g mb n l A M c lr go os gp ps W) (hM : l.length = M) : Calls Try.prog 23 #[.pointer (some ⟨g, 0, none⟩)] W (Same (.int .i64 M) W) := by
  obtain ⟨v, h1, _⟩ := h.ex
  rw [← hM]
  exact len_any W h1
theorem play_has (x : Int) (W : World) (h : Pr B g mb n l A M c l go os gp ps W) (hM : l.length = M) (hm : M ≤ 60) (rt : ∀ p ∈ l, rightP p.s p.b p.a = true) : Calls Try.prog 32 #[.pointer (some ⟨g, 0, none⟩), .slice A M c, .int .i64 x] W (Quiet (.bool true) W) := by
  obtain ⟨v, h1, _⟩ := h.ex
  exact has_any x W h1 h.row hM (by omega) rt
end
theorem setCells_new (w : World) (t : TypeId) : ∀ (vs : List Value) (o : Nat) (c : Array Value), o + vs.length ≤ c.size → (w.alloc (.cells c t)).setCells w.heap.size o vs = w.alloc (.cells (c.toList.take o ++ vs ++ c.toList.drop (o + vs.length)).toArray t)
  | [], o, c, h => by simp [World.setCells, List.take_append_drop]
  | v :: r, o, c, h => by
    simp only [List.length_cons] at h
    rw [World.setCells, World.setCell_alloc_new, setCells_new w t r (o + 1) _ (by simp; omega)]
    congr 3
    have ho : o < c.toList.length := by simp; omega
    rw [Array.toList_setIfInBounds, List.take_add_one, List.take_set_of_le (Nat.le_refl o), List.getElem?_set_self ho, List.drop_set_of_lt (by omega)]
    simp [Nat.add_comm, Nat.add_left_comm, Nat.add_assoc]
end Go.Proofs.Ytjcaahilgobfhaa
