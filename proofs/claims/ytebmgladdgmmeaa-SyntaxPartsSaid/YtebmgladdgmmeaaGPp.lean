/- What is right within a right tree; a queue of lists whose slice may begin anywhere in its block, and append to it. Plain. -/
import Derived.Test.YtebmgladdgmmeaaGRf
import Derived.Test.YtebmgladdgmmeaaGCp
namespace Go.Proofs.Ytebmgladdgmmeaa
open Go.RowKit Go.WideShapes
set_option linter.unusedVariables false
set_option linter.unusedSimpArgs false
theorem okF_succ : ∀ (f : Fo) (L : Nat), okF f L = true → okF f (L + 1) = true
  | .nil, _, _ => rfl
  | .cons h b e r, 0, hk => by simp [okF] at hk
  | .cons h b e r, L + 1, hk => by
    simp only [okF, Bool.and_eq_true] at hk ⊢
    exact ⟨⟨okF_succ b L hk.1.1, okF_succ e L hk.1.2⟩, okF_succ r (L + 1) hk.2⟩
theorem cn_tot : ∀ (f : Fo) (L : Nat), okF f L = true → cnF f L = f.tot
  | .nil, _, _ => rfl
  | .cons h b e r, 0, hk => by simp [okF] at hk
  | .cons h b e r, L + 1, hk => by
    simp only [okF, Bool.and_eq_true] at hk
    simp only [cnF, Fo.tot]
    rw [cn_tot b L hk.1.1, cn_tot e L hk.1.2, cn_tot r (L + 1) hk.2]
structure Good (post : Bool) (f : Fo) : Prop where
  ok : okF f 20 = true
  eg : egF post f = true
  tot : f.tot ≤ 500
theorem Good.right {post : Bool} {f : Fo} (h : Good post f) : rightF post f = true := by
  unfold rightF
  rw [gd_eg post f 20 h.ok, h.ok, h.eg, cn_tot f 20 h.ok, decide_eq_true h.tot]
  rfl
theorem Good.of {post : Bool} {f : Fo} (h : rightF post f = true) : Good post f := by
  unfold rightF at h
  simp only [Bool.and_eq_true, decide_eq_true_eq] at h
  obtain ⟨⟨h1, h2⟩, h3⟩ := h
  rw [gd_eg post f 20 h1] at h2
  rw [cn_tot f 20 h1] at h3
  exact ⟨h1, h2, h3⟩
theorem Good.cons {post : Bool} {h : Hd} {b e r : Fo} (g : Good post (.cons h b e r)) : rtH post h b.len e.len = true ∧ Good post b ∧ Good post e ∧ Good post r := by
  obtain ⟨h1, h2, h3⟩ := g
  simp only [okF, Bool.and_eq_true] at h1
  simp only [egF, Bool.and_eq_true] at h2
  simp only [Fo.tot] at h3
  exact ⟨h2.1.1.1, ⟨okF_succ b 19 h1.1.1, h2.1.1.2, by omega⟩, ⟨okF_succ e 19 h1.1.2, h2.1.2, by omega⟩, ⟨h1.2, h2.2, by omega⟩⟩
theorem plainI_true {i : In} {post : Bool} (h : plainI i post = true) : plainI i true = true := by
  unfold plainI at h ⊢
  simp only [Bool.and_eq_true] at h ⊢
  refine ⟨h.1, ?_⟩
  cases post
  · have h2 := h.2
    unfold plO at h2 ⊢
    simp at h2 ⊢
    omega
  · exact h.2
theorem rtH_true {h : Hd} {post : Bool} {bl el : Nat} (hr : rtH post h bl el = true) : rtH true h bl el = true := by
  unfold rtH at hr ⊢
  by_cases h1 : h.k = 1
  · rw [if_pos h1] at hr ⊢
    simp only [Bool.and_eq_true] at hr ⊢
    exact ⟨hr.1, plainI_true hr.2⟩
  · rw [if_neg h1] at hr ⊢
    exact hr
theorem egF_true {post : Bool} : ∀ {f : Fo}, egF post f = true → egF true f = true
  | .nil, _ => rfl
  | .cons h b e r, hk => by
    simp only [egF, Bool.and_eq_true] at hk ⊢
    exact ⟨⟨⟨rtH_true hk.1.1.1, egF_true hk.1.1.2⟩, egF_true hk.1.2⟩, egF_true hk.2⟩
theorem Good.true {post : Bool} {f : Fo} (h : Good post f) : Good true f := ⟨h.ok, egF_true h.eg, h.tot⟩
/-- A queue: its slice may begin anywhere in a block of its own. -/
structure Qu (w : World) (base : Nat) (v : Value) (n : Nat) (xs : List Value) : Prop where
  len : xs.length = n
  ex : ∃ (g o cap : Nat) (cur : Array Value), v = .slice (some ⟨g, o, none⟩) n cap ∧ base ≤ g ∧ w.heap[g]? = some (.cells cur 22 (0, 0)) ∧ n ≤ cap ∧ cap ≤ maxLen ∧ o + cap ≤ cur.size ∧ (cur.toList.drop o).take n = xs
section
variable {w w' : World} {base n : Nat} {v : Value} {xs : List Value}
theorem Qu.below (h : Qu w base v n xs) (hb : Below w.heap.size w w') : Qu w' base v n xs := by
  obtain ⟨h1, g, o, cap, cur, e, hg, hh, h2⟩ := h
  exact ⟨h1, g, o, cap, cur, e, hg, (hb.block g (Array.getElem?_eq_some_iff.1 hh).1).trans hh, h2⟩
theorem Qu.one (w : World) (hb : base ≤ w.heap.size) (u : Value) : Qu (w.alloc (.cells #[u] 22)) base (.slice (some ⟨w.heap.size, 0, none⟩) 1 1) 1 [u] :=
  ⟨rfl, w.heap.size, 0, 1, #[u], rfl, hb, heap_alloc_new w _, Nat.le_refl _, by simp [maxLen], by simp, by simp⟩
theorem Qu.at (h : Qu w base v n xs) {j : Nat} {u : Value} (hu : xs[j]? = some u) : ∃ g o cap, v = .slice (some ⟨g, o, none⟩) n cap ∧ n ≤ cap ∧ w.cell? ⟨g, o + j, none⟩ = some u := by
  obtain ⟨h1, g, o, cap, cur, e, hg, hh, h2, h3, h4, h5⟩ := h
  refine ⟨g, o, cap, e, h2, ?_⟩
  rw [cell_of_row w g (o + j) cur 22 (0, 0) hh]
  rw [← h5, List.getElem?_take, List.getElem?_drop] at hu
  split at hu
  · simpa using hu
  · cases hu
theorem Qu.cut {g o cap : Nat} {u : Value} (h : Qu w base (.slice (some ⟨g, o, none⟩) (n + 1) cap) (n + 1) (u :: xs)) : Qu w base (.slice (if cap = 1 then some ⟨g, o, none⟩ else some ⟨g, o + 1, none⟩) n (cap - 1)) n xs := by
  obtain ⟨h1, g', o', cap', cur, e, hg, hh, h2, h3, h4, h5⟩ := h
  injection e with e1 _ e3
  injection e1 with e1
  injection e1 with e1 e2 _
  subst e1 e2 e3
  have hx : (cur.toList.drop (o + 1)).take n = xs := by
    have h6 := congrArg (List.drop 1) h5
    rw [List.drop_take, List.drop_drop] at h6
    simpa using h6
  simp at h1
  by_cases hc : cap = 1
  · rw [if_pos hc]
    have hn : n = 0 := by omega
    subst hn
    refine ⟨h1, g, o, cap - 1, cur, rfl, hg, hh, by omega, by omega, by omega, ?_⟩
    rw [List.take_zero]
    exact (List.eq_nil_of_length_eq_zero h1).symm
  · rw [if_neg hc]
    exact ⟨h1, g, o + 1, cap - 1, cur, rfl, hg, hh, by omega, by omega, by omega, hx⟩
/-- append to a queue. -/
theorem Qu.app {P : Program} {t ty : TypeId} {z : Value} {bytes : Nat} (T : SlT P t 22 z bytes) (hq : Qu w base v n xs) (a : Addr) (news : List Value) (hnews : ∀ j u, news[j]? = some u → w.cell? (a.add j) = some u) (h1 : ∀ u ∈ news, u.oneCell' = true)
    (c : Nat) (h63 : n + news.length ≤ maxLen) (hby : (n + news.length) * bytes ≤ 140737488355328) (hbase : base ≤ w.heap.size) :
    ∃ v' w', (Builtin.append_ #[t, t] ty #[v, .slice (some a) news.length c]).run P w = .ok v' w' ∧ Qu w' base v' (n + news.length) (xs ++ news) ∧ w.grownBy w' v.ownBlock ∧ ∀ k, v'.ownBlock = some k → base ≤ k := by
  obtain ⟨i, hi, hz, hs, hb⟩ := info_parts T.i
  obtain ⟨hl, g, o, cap, cur, rfl, hg, hh, hn, hm, hfit, hx⟩ := hq
  by_cases hroom : n + news.length ≤ cap
  · have hst := run_storeCells_at P g (o + n) 22 news 0 cur w hh (by omega) h1
    have hf := run_firstCells_some (P := P) w 1 news.length a news.length c news (by simp) hnews
    simp only [Nat.add_zero] at hst
    have hrun : (Builtin.append_ #[t, t] ty #[.slice (some ⟨g, o, none⟩) n cap, .slice (some a) news.length c]).run P w = .ok (.slice (some ⟨g, o, none⟩) (n + news.length) cap) (w.setRow g (cur.toList.take (o + n) ++ news ++ cur.toList.drop (o + n + news.length)).toArray) := by
      simp [Builtin.append_, run_underlying T.u, sizeOf, typeInfo, hi, hs, Builtin.lenOf, hroom, hf, addr_add, hst]
    refine ⟨_, _, hrun, ⟨by simp [hl], g, o, cap, _, rfl, hg, setRow_heap w g cur _ 22 _ hh, hroom, hm, ?_, ?_⟩, ⟨rfl, rfl, rfl, by simp, fun k _ hk => setRow_other w g k _ (fun e => hk (by simp [Value.ownBlock, e]))⟩, fun k hk => by simp [Value.ownBlock] at hk; omega⟩
    · simp
      omega
    · have hlen : (cur.toList.take (o + n)).length = o + n := by simp; omega
      rw [List.append_assoc, List.drop_append_of_le_length (by omega), List.drop_take, show o + n - o = n by omega, hx, ← List.append_assoc, List.take_left' (by simp [hl])]
  · have holds : ∀ j u, xs[j]? = some u → w.cell? ((⟨g, o, none⟩ : Addr).add j) = some u := fun j u hu => by
      obtain ⟨g', o', cap', e, _, hc⟩ := Qu.at (w := w) (base := base) (v := .slice (some ⟨g, o, none⟩) n cap) (n := n) (xs := xs) ⟨hl, g, o, cap, cur, rfl, hg, hh, hn, hm, hfit, hx⟩ hu
      injection e with e1 _ _
      injection e1 with e1
      injection e1 with e1 e2 _
      subst e1 e2
      rw [addr_add]
      exact hc
    have hr := run_append_grow (P := P) w t ty 22 i z T.u hi hz ⟨g, o, none⟩ n cap xs (by rw [hs]; simpa using hl) holds a news.length c news (by rw [hs]; simp) hnews (by omega) (by simp only [maxLen] at h63; omega) (growslice_fits (by omega) (by rw [hb]; exact hby))
    have hge := grownCap_ge w (n + news.length) cap 22
    have hcm := grownCap_le_maxLen w (n + news.length) cap 22 h63
    refine ⟨_, _, hr, ⟨by simp [hl], w.heap.size, 0, _, _, rfl, hbase, heap_alloc_new w.drew _, hge, hcm, ?_, ?_⟩, ⟨rfl, rfl, rfl, by simp, fun k hk _ => Below.heap_alloc w.drew _ k hk⟩, fun k hk => by simp [Value.ownBlock] at hk; omega⟩
    · simp only [Array.size_append, List.size_toArray, size_zeroCells, T.z, hl]
      omega
    · rw [List.drop_zero]
      simp only [Array.toList_append, List.append_assoc]
      rw [← List.append_assoc, List.take_left' (by simp [hl])]
end
end Go.Proofs.Ytebmgladdgmmeaa
