/- IndexOnce: the index beside a slice of its hashes. -/
import Derived.Test.YtjcaahilgobfhaaIxHs
import Derived.Test.YtjcaahilgobfhaaIxNp
namespace Go.Proofs.Ytjcaahilgobfhaa
open Go.RowKit Go.WideShapes Go.Maps
set_option linter.unusedVariables false
set_option linter.unusedSimpArgs false
theorem eqH (a b : List Int) (ha : IsHash a) (hb : IsHash b) (w : World) :
    ∃ r : Bool, (Op.equalIn 10000 37 (.agg (hashV a).toArray) (.agg (hashV b).toArray)).run Try.prog w = .ok r w ∧ (r = true ↔ a = b) := by
  have hk : Try.prog.keyTypeAt 2 37 = true := by kernel_rfl
  obtain ⟨r, hr, hi⟩ := run_equalIn_deep (P := Try.prog) 9998 2 37 hk w 2 2 (.agg (hashV a).toArray) (.agg (hashV b).toArray) _ _ (hash_formed a ha) (hash_formed b hb) (by simpa [Value.cells] using hashLits 0 a ha) (by simpa [Value.cells] using hashLits 0 b hb)
  refine ⟨r, hr, hi.trans ⟨fun h => ?_, fun h => by rw [h]⟩⟩
  exact List.map_inj_right (fun x y h => by injection h) |>.1 h
theorem eqH_same (a : List Int) (ha : IsHash a) (w : World) : (Op.equalIn 10000 37 (.agg (hashV a).toArray) (.agg (hashV a).toArray)).run Try.prog w = .ok true w := by
  obtain ⟨r, hr, hi⟩ := eqH a a ha ha w
  rw [hr, hi.2 rfl]
theorem find_nodup (l : List Pc) (nd : (l.map Pc.h).Nodup) (k : Nat) (p : Pc) (hp : l[k]? = some p) : findP l p.h = some (k + 1) := by
  have hk := (List.getElem?_eq_some_iff.1 hp).1
  have hpe : l[k] = p := (List.getElem?_eq_some_iff.1 hp).2
  unfold findP
  have : l.findIdx? (fun q => q.h == p.h) = some k := by
    rw [List.findIdx?_eq_some_iff_getElem]
    refine ⟨hk, by simp [hpe], fun j hj => ?_⟩
    simp only [Bool.not_eq_true, beq_eq_false_iff_ne]
    intro e
    have h1 : (l.map Pc.h)[j]'(by simp; omega) = (l.map Pc.h)[k]'(by simp; omega) := by simp [e, hpe]
    have := (List.getElem_inj nd).1 h1
    omega
  rw [this]
  rfl
theorem nodup_snoc (l : List Pc) (p : Pc) (nd : (l.map Pc.h).Nodup) (hf : findP l p.h = none) : ((l ++ [p]).map Pc.h).Nodup := by
  unfold findP at hf
  rw [Option.map_eq_none_iff, List.findIdx?_eq_none_iff] at hf
  rw [List.map_append, List.nodup_append]
  refine ⟨nd, by simp, fun a ha b hb e => ?_⟩
  simp at hb
  obtain ⟨q, hq, rfl⟩ := List.mem_map.1 ha
  have := hf q hq
  simp at this
  exact this (e.trans hb)
theorem find_none_or (l : List Pc) (h : List Int) : findP l h = none ∨ ∃ i, findP l h = some i := by
  cases findP l h with
  | none => exact .inl rfl
  | some i => exact .inr ⟨i, rfl⟩
theorem rows_apart {B n m : Nat} {w : World} {v u : Value} {xs ys : List Value} (h : RowP B w v n xs) (k : RowH B w u m ys) : ∀ b, u.ownBlock = some b → v.ownBlock ≠ some b := fun b hb e => by
  obtain ⟨_, cur, h1⟩ := h.blk b e
  obtain ⟨_, cu2, h2⟩ := k.blk b hb
  exact Blk.ne h1 h2 (by decide) rfl
/-- The index and the slice of its hashes. -/
structure Both (B : Nat) (w : World) (g mb n m : Nat) (l : List Pc) (v hv : Value) (xs : List Value) : Prop where
  idx : Idx B w g mb n l v
  row : RowH B w hv m xs
theorem Both.below {B g mb n m : Nat} {w w' : World} {l : List Pc} {v hv : Value} {xs : List Value} (h : Both B w g mb n m l v hv xs) (hb : Below w.heap.size w w') : Both B w' g mb n m l v hv xs := ⟨h.idx.below hb, h.row.below hb⟩
structure BothR (B g mb n m : Nat) (l : List Pc) (hv : Value) (xs : List Value) (r : Value) (w0 : World) (e : Ending) (w : World) : Prop where
  ret : e = .returned r
  ex : ∃ v', Both B w g mb n m l v' hv xs
  low : Below B w0 w
section
variable {B g mb n m : Nat} {l : List Pc} {v hv : Value} {xs : List Value}
theorem both_cut (k : Nat) (w : World) (h : Both B w g mb n m l v hv xs) (nd : (l.map Pc.h).Nodup) (hk : k ≤ l.length) (hm : l.length ≤ 8192) :
    Calls Try.prog 22 #[.pointer (some ⟨g, 0, none⟩), .int .i64 (k : Int)] w (BothR B g mb n m (l.take k) hv xs (.int .i64 0) w) :=
  (cut_any k w h.idx nd hk hm).mono fun e w' ⟨h1, ⟨v', h2, _⟩, h3⟩ => ⟨h1, ⟨v', h2, h.row.frm h3 fun b hb e => by
    rcases e with rfl | rfl
    · exact h.row.apart h.idx.blk (by decide) _ hb rfl
    · exact rowh_map h.idx.map h.row hb⟩, h3.to_below (by have := h.idx.ge; have := h.idx.blk.lt; omega) fun k hk => by
    rcases hk with rfl | rfl
    · exact h.idx.ge
    · exact h.idx.gm⟩
theorem both_add (p : Pc) (w : World) (h : Both B w g mb n m l v hv xs) (hp : p.ok) (hr : rightP p.s p.b p.a = true) (hf : findP l p.h = none) (hlen : l.length < 8192) (hn : n < 99999) :
    Calls Try.prog 20 #[.pointer (some ⟨g, 0, none⟩), p.agg] w (BothR B g mb (n + 1) m (l ++ [p]) hv xs (.tuple #[.int .i64 ((l.length : Int) + 1), .bool true, .int .i64 0]) w) :=
  (add_new p w h.idx hp hr hf hlen hn h.idx.blk.lt).mono fun e w' ⟨h1, ⟨v', h2, _⟩, h3⟩ => ⟨h1, ⟨v', h2, h.row.frm h3 fun b hb e => by
    rcases e with rfl | rfl | e
    · exact h.row.apart h.idx.blk (by decide) _ hb rfl
    · exact rowh_map h.idx.map h.row hb
    · exact rows_apart h.idx.own h.row b hb e⟩, h3.to_below (by have := h.idx.ge; have := h.idx.blk.lt; omega) fun k hk => by
    rcases hk with rfl | rfl | hk
    · exact h.idx.ge
    · exact h.idx.gm
    · exact (h.idx.own.lt k hk).1⟩
theorem both_app {w w' : World} {hv' : Value} {m' : Nat} {ys : List Value} (h : Both B w g mb n m l v hv xs) (ho : w'.ownsRow B 37 20 hv' m' ys) (hg : w.grownBy w' hv.ownBlock) : (∃ v', Both B w' g mb n m' l v' hv' ys) ∧ Below B w w' := by
  have f : Frm (fun k => hv.ownBlock = some k) w w' := Frm.of_grown hg fun k hk => hk
  refine ⟨⟨v, ⟨h.idx.ge, h.idx.gm, h.idx.oks, h.idx.blk.frm f (fun e => h.row.apart h.idx.blk (by decide) _ e rfl), h.idx.own.frm f (fun k hk e => rows_apart h.idx.own h.row k e hk), h.idx.map.frm f (fun e => rowh_map h.idx.map h.row e)⟩, .inl ho⟩, ?_⟩
  exact f.to_below (by have := h.idx.ge; have := h.idx.blk.lt; omega) fun k hk => (h.row.lt k hk).1
end
open Go.ChangeShapes in
theorem open_nums {H : Type} {enc : TypeId × Value → H} {base : Nat} {d : DataW H} {ps : List MemPlace} {v : Value} {w : World} (hv : Value.okWide Try.prog w .any base 25 v) (hk : DataW.Trod enc Try.prog w 0 (fun _ => true) true 25 v d ps) :
    ∃ bs A c, v = .slice A (bs : List Int).length c ∧ Rd w A (bs.map (.int .i64)) ∧ bs.length ≤ c ∧ c ≤ maxLen ∧ ∀ z ∈ bs, -9223372036854775808 ≤ z ∧ z ≤ 9223372036854775807 := by
  obtain ⟨a, len, cap, rfl⟩ := okWide_slice Try.underlying25 hv
  obtain ⟨fuel, hf⟩ := hk
  rcases open_ints Try.underlying25 Try.underlying3 (by kernel_rfl) hf with ⟨hcs, _⟩ | ⟨x, l, c, zs, hcs, _, hl, hm, hz, _, hcell, hwz⟩
  · simp [Value.cells] at hcs
    obtain ⟨rfl, rfl, rfl⟩ := hcs
    exact ⟨[], none, 0, rfl, Rd.nil _ _, Nat.le_refl _, by simp [maxLen], fun z hz => by cases hz⟩
  · simp [Value.cells] at hcs
    obtain ⟨rfl, rfl, rfl⟩ := hcs
    simp at hz
    refine ⟨zs.take len, some x, cap, by rw [List.length_take]; congr 1; omega, fun hn => ?_, by rw [List.length_take]; omega, hm, fun z hz => by
      have := hwz z (List.mem_of_mem_take hz)
      simp [Lit.wf, IntKind.min, IntKind.max, IntKind.signed, IntKind.bits] at this
      omega⟩
    rw [List.length_map, List.length_take] at hn
    obtain ⟨b, off, spot⟩ := x
    have h0 := hcell 0 (by omega)
    have hspot : spot = none := by simpa [Addr.add] using World.cell?_spot h0
    subst hspot
    refine ⟨b, off, rfl, block_lt_of_cell h0, fun i u hu => ?_⟩
    rw [List.getElem?_map, List.getElem?_take] at hu
    have hi : i < zs.length := by
      rcases Nat.lt_or_ge i zs.length with h | h
      · exact h
      · rw [List.getElem?_eq_none h] at hu; split at hu <;> cases hu
    have := hcell i hi
    rw [addr_add] at this
    rw [this]
    split at hu
    · rw [List.getElem?_eq_getElem hi] at hu
      rw [List.getD_eq_getElem?_getD, List.getElem?_eq_getElem hi]
      simpa using hu
    · cases hu
end Go.Proofs.Ytjcaahilgobfhaa
