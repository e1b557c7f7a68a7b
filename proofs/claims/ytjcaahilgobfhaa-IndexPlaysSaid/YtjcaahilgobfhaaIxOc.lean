/- IndexOnce: what the law's steps do. -/
import Derived.Test.YtjcaahilgobfhaaIxOn
namespace Go.Proofs.Ytjcaahilgobfhaa
open Go.RowKit Go.WideShapes Go.Maps
set_option linter.unusedVariables false
set_option linter.unusedSimpArgs false
theorem found_some {f : Option Nat} {i : Nat} {w0 : World} (hf : f = some i) {e : Ending} {w : World} (h : Found f w0 e w) : Quiet (.tuple #[.int .i64 (i : Int), .bool true]) w0 e w := by
  subst hf; exact ⟨h.ret, h.low⟩
theorem found_none {f : Option Nat} {w0 : World} (hf : f = none) {e : Ending} {w : World} (h : Found f w0 e w) : Quiet (.tuple #[.int .i64 0, .bool false]) w0 e w := by
  subst hf; exact ⟨h.ret, h.low⟩
/-- The facts of one piece, its cells and its hash's cells opaque. -/
structure CellsOf (ps hs : List Value) : Prop where
  s39 : (Try.prog.info? 39).map (·.size) = some ps.length
  s37 : (Try.prog.info? 37).map (·.size) = some hs.length
  a39 : (Try.prog.info? 39).map (·.size) = some ps.toArray.size
  z39 : (23 : Nat) = ps.toArray.size
  one : ps.toArray.all (·.oneCell') = true
  len : hs.length = 20
  hone : ∀ u ∈ hs, u.oneCell' = true
  rg : ∀ (W : World) (gp : Nat), Blk W gp 39 ps.toArray → W.rangeAt gp 0 hs
  eq : ∀ W : World, (Op.equalIn 10000 37 (.agg hs.toArray) (.agg hs.toArray)).run Try.prog W = .ok true W
theorem cellsOf (p : Pc) (hp : p.ok) : CellsOf p.cells (hashV p.h) := by
  have hl := Pc.cells_length hp
  have hl2 : (hashV p.h).length = 20 := by rw [hashV_length, hp.h.len]
  refine ⟨by rw [hl]; exact size39, by rw [hl2]; exact size37, by rw [List.size_toArray, hl]; exact size39, by rw [List.size_toArray, hl], ?_, hl2, fun u hu => ?_, fun W gp h j y hy => ?_, fun W => eqH_same p.h hp.h W⟩
  · rw [Array.all_eq_true]
    intro i hi'
    exact Pc.cells_one p _ (show p.cells.toArray[i] ∈ p.cells by simp)
  · simp [hashV] at hu
    obtain ⟨x, _, rfl⟩ := hu
    rfl
  · rw [Nat.zero_add, h.cell, List.getElem?_toArray]
    unfold Pc.cells
    rw [List.getElem?_append_left (List.getElem?_eq_some_iff.1 hy).1]
    exact hy
section
variable {B g mb n M : Nat} {l : List Pc} {v : Value} {A : Option Addr} {c : Nat}
theorem once_round (wr : World) (h : Both B wr g mb n M l v (.slice A M c) (flatH (l.map Pc.h))) (nd : (l.map Pc.h).Nodup) (hM : l.length = M) (hm : M ≤ 8192) (q : Nat) (hq : q < M) :
    ∃ (ps hs : List Value) (ga : Nat), A = some ⟨ga, 0, none⟩ ∧ CellsOf ps hs ∧ Calls Try.prog 27 #[.pointer (some ⟨g, 0, none⟩), .int .i64 ((q : Int) + 1)] wr (Quiet (.tuple #[.agg ps.toArray, .bool true]) wr) ∧
      ∀ W : World, Below wr.heap.size wr W → Both B W g mb n M l v (.slice A M c) (flatH (l.map Pc.h)) ∧ W.rangeAt ga (q * 20) hs ∧ Calls Try.prog 26 #[.pointer (some ⟨g, 0, none⟩), .agg hs.toArray] W (Quiet (.tuple #[.int .i64 ((q : Int) + 1), .bool true]) W) := by
  obtain ⟨p, hp⟩ : ∃ p, l[q]? = some p := ⟨_, List.getElem?_eq_getElem (by omega)⟩
  have hpo := h.idx.oks p (List.mem_of_getElem? hp)
  have oks : ∀ x ∈ l.map Pc.h, IsHash x := fun x hx => by
    obtain ⟨q, hq, rfl⟩ := List.mem_map.1 hx
    exact (h.idx.oks q hq).h
  obtain ⟨ga, rfl⟩ := rowh_at h.row (by omega)
  refine ⟨p.cells, hashV p.h, ga, rfl, cellsOf p hpo, at_in q wr h.idx p hp (by omega), fun W hW => ?_⟩
  have hb := h.below hW
  refine ⟨hb, fun j y hy => ?_, ?_⟩
  · have h1 := flatH_at (l.map Pc.h) oks q p.h (by rw [List.getElem?_map, hp]; rfl) j y hy
    rw [show q * 20 + j = 20 * q + j by omega]
    exact hb.row.cell _ _ h1
  · exact (find_any p.h W hb.idx hpo.h).mono fun e w' hf => found_some (i := q + 1) (find_nodup l nd q p hp) hf
/-- One Add: the piece is there, or it's new. -/
theorem once_add (nd : (l.map Pc.h).Nodup) (hM : l.length = M) (hm : M ≤ 150) (hn : n ≤ 150) (j : Nat) (hj : j < 60) (hv : Value) :
    ∃ (p : Pc), CellsOf p.cells (hashV p.h) ∧ p.agg = .agg p.cells.toArray ∧ (∀ W, Calls Try.prog 21 #[.int .i64 (j : Int)] W (Quiet (.agg p.cells.toArray) W)) ∧
      ((∃ i : Nat, ∀ W, Both B W g mb n M l v hv (flatH (l.map Pc.h)) → Calls Try.prog 26 #[.pointer (some ⟨g, 0, none⟩), .agg (hashV p.h).toArray] W (Quiet (.tuple #[.int .i64 (i : Int), .bool true]) W) ∧
          Calls Try.prog 20 #[.pointer (some ⟨g, 0, none⟩), .agg p.cells.toArray] W (Quiet (.tuple #[.int .i64 (i : Int), .bool false, .int .i64 0]) W)) ∨
        (((l ++ [p]).map Pc.h).Nodup ∧ flatH (l.map Pc.h) ++ hashV p.h = flatH ((l ++ [p]).map Pc.h) ∧ ∀ W, Both B W g mb n M l v hv (flatH (l.map Pc.h)) → Calls Try.prog 26 #[.pointer (some ⟨g, 0, none⟩), .agg (hashV p.h).toArray] W (Quiet (.tuple #[.int .i64 0, .bool false]) W) ∧
          ∀ gp, Blk W gp 39 p.cells.toArray → v.ownBlock ≠ some gp → Calls Try.prog 20 #[.pointer (some ⟨g, 0, none⟩), .agg p.cells.toArray] W fun e w' => e = .returned (.tuple #[.int .i64 ((M : Int) + 1), .bool true, .int .i64 0]) ∧ (∃ v', Both B w' g mb (n + 1) M (l ++ [p]) v' hv (flatH (l.map Pc.h))) ∧ Blk w' gp 39 p.cells.toArray ∧ Below B W w')) := by
  have hp := pieceP_ok j (by omega)
  have hr := pieceP_right j
  refine ⟨pieceP j, cellsOf _ hp, rfl, fun W => piece_any j W (by omega), ?_⟩
  rcases find_none_or l (pieceP j).h with hf | ⟨i, hf⟩
  · refine .inr ⟨nodup_snoc l _ nd hf, by rw [List.map_append, List.map_cons, List.map_nil, flatH_snoc], fun W h => ⟨(find_any _ W h.idx hp.h).mono fun e w' hx => found_none hf hx, fun gp hgp hne => ?_⟩⟩
    refine (add_new (pieceP j) W h.idx hp hr hf (by omega) (by omega) h.idx.blk.lt).mono fun e w' ⟨h1, ⟨v', h2, _⟩, h3⟩ => ⟨by rw [h1, hM], ⟨v', h2, h.row.frm h3 fun b hb e => ?_⟩, hgp.frm h3 fun e => ?_, h3.to_below (by have := h.idx.ge; have := h.idx.blk.lt; omega) fun k hk => ?_⟩
    · rcases e with rfl | rfl | e
      · exact h.row.apart h.idx.blk (by decide) _ hb rfl
      · exact rowh_map h.idx.map h.row hb
      · exact rows_apart h.idx.own h.row b hb e
    · rcases e with rfl | rfl | e
      · exact Blk.ne hgp h.idx.blk (by decide) rfl
      · exact kmap_ne_blk h.idx.map hgp rfl
      · exact hne e
    · rcases hk with rfl | rfl | hk
      · exact h.idx.ge
      · exact h.idx.gm
      · exact (h.idx.own.lt k hk).1
  · refine .inl ⟨i, fun W h => ⟨(find_any _ W h.idx hp.h).mono fun e w' hx => found_some hf hx, add_there _ W h.idx hp hr i hf⟩⟩
theorem both_len (w : World) (hv : Value) (xs : List Value) (h : Both B w g mb n M l v hv xs) : Calls Try.prog 23 #[.pointer (some ⟨g, 0, none⟩)] w (Same (.int .i64 l.length) w) := len_any w h.idx
end
end Go.Proofs.Ytjcaahilgobfhaa
