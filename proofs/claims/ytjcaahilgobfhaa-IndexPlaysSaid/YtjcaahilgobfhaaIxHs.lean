/- The index: a slice of hashes. -/
import Derived.Test.YtjcaahilgobfhaaIxAt
namespace Go.Proofs.Ytjcaahilgobfhaa
open Go.RowKit Go.WideShapes Go.Maps
set_option linter.unusedVariables false
set_option linter.unusedSimpArgs false
/-- The pieces' slice: a row of the index's own, or one that was cut (no room behind it). -/
def RowH (B : Nat) (w : World) (v : Value) (n : Nat) (xs : List Value) : Prop :=
  w.ownsRow B 37 20 v n xs ∨ ∃ gl cur, v = .slice (some ⟨gl, 0, none⟩) n n ∧ B ≤ gl ∧ n ≤ maxLen ∧ xs.length = n * 20 ∧ Blk w gl 37 cur ∧ cur.toList.take (n * 20) = xs
theorem RowH.slice {B n : Nat} {w : World} {v : Value} {xs : List Value} (h : RowH B w v n xs) : ∃ A c, v = .slice A n c ∧ n ≤ c := by
  rcases h with h | ⟨gl, cur, rfl, _⟩
  · exact own_slice h
  · exact ⟨_, _, rfl, Nat.le_refl _⟩
theorem RowH.blk {B n : Nat} {w : World} {v : Value} {xs : List Value} (h : RowH B w v n xs) : ∀ k, v.ownBlock = some k → B ≤ k ∧ ∃ cur, Blk w k 37 cur := fun k hk => by
  rcases h with h | ⟨gl, cur, rfl, hB, _, _, hb, _⟩
  · rcases h.2 with ⟨rfl, _⟩ | ⟨g, cap, cur, rfl, h1, hg, _⟩
    · simp [Value.ownBlock] at hk
    · simp [Value.ownBlock] at hk
      subst hk
      exact ⟨h1, cur, hg⟩
  · simp [Value.ownBlock] at hk
    subst hk
    exact ⟨hB, cur, hb⟩
theorem RowH.lt {B n : Nat} {w : World} {v : Value} {xs : List Value} (h : RowH B w v n xs) : ∀ k, v.ownBlock = some k → B ≤ k ∧ k < w.heap.size := fun k hk => by
  obtain ⟨h1, cur, h2⟩ := h.blk k hk
  exact ⟨h1, h2.lt⟩
theorem RowH.apart {B n g : Nat} {w : World} {v : Value} {xs : List Value} {t : TypeId} {cs : Array Value} (h : RowH B w v n xs) (hb : Blk w g t cs) (hne : 37 ≠ t) : ∀ k, v.ownBlock = some k → k ≠ g := fun k hk e => by
  obtain ⟨_, cur, h2⟩ := h.blk k hk
  subst e
  exact Blk.ne h2 hb hne rfl
theorem RowH.frm {S : Nat → Prop} {B n : Nat} {w w' : World} {v : Value} {xs : List Value} (h : RowH B w v n xs) (hf : Frm S w w') (hn : ∀ k, v.ownBlock = some k → ¬ S k) : RowH B w' v n xs := by
  rcases h with h | ⟨gl, cur, rfl, hB, hm, hl, hb, ht⟩
  · exact .inl (hf.own h hn)
  · exact .inr ⟨gl, cur, rfl, hB, hm, hl, hb.frm hf (hn gl rfl), ht⟩
theorem RowH.below {B n : Nat} {w w' : World} {v : Value} {xs : List Value} (h : RowH B w v n xs) (hb : Below w.heap.size w w') : RowH B w' v n xs := h.frm (Frm.of_below (S := fun _ => False) hb) (fun _ _ h => h)
theorem RowH.len {B n : Nat} {w : World} {v : Value} {xs : List Value} (h : RowH B w v n xs) : xs.length = n * 20 := by
  rcases h with h | ⟨gl, cur, rfl, hB, hm, hl, _⟩
  · exact h.1
  · exact hl
theorem RowH.cell {B n : Nat} {w : World} {g c : Nat} {xs : List Value} (h : RowH B w (.slice (some ⟨g, 0, none⟩) n c) n xs) : ∀ j y, xs[j]? = some y → w.cell? ⟨g, j, none⟩ = some y := fun j y hy => by
  rcases h with h | ⟨gl, cur, hv, hB, hm, hl, hb, ht⟩
  · have := h.cells (g := g) rfl j y hy
    rwa [addr_add, Nat.zero_add] at this
  · injection hv with hv
    injection hv with hv
    injection hv with hv
    subst hv
    rw [hb.cell, ← Array.getElem?_toList]
    rw [← ht] at hy
    rw [List.getElem?_take] at hy
    split at hy
    · exact hy
    · cases hy
def zeroHs : Value := .agg (List.replicate 20 (Value.int .u8 0)).toArray
theorem tHss : SlS Try.prog 44 37 zeroHs 20 20 := ⟨Try.underlying44, by kernel_rfl, by kernel_rfl, by omega⟩
theorem appOf_rowh {w : World} {B n : Nat} {v : Value} {xs : List Value} (h : RowH B w v n xs) : AppOf Try.prog w 44 37 20 20 B v n xs := by
  intro ad us hus hc h1 h63 hby hbase ty
  obtain ⟨i, hi, hz, hsz, hb⟩ := info_parts tHss.i
  rcases h with h | ⟨gl, cur, rfl, hB, hm, hl, hbk, ht⟩
  · obtain ⟨v', w', hrun, h2, h3, _, h5⟩ := run_append_own_at (P := Try.prog) w B 44 ty 37 i zeroHs 20 20 tHss.u hi hz hsz hb tHss.z tHss.pos v n xs h ad 1 1 us (by omega) hc h1 h63 hby hbase
    exact ⟨v', w', hrun, h2, h3, h5.imp id fun h k hk => by rw [h] at hk; injection hk with hk; omega⟩
  · have hcell : ∀ j y, xs[j]? = some y → w.cell? ((⟨gl, 0, none⟩ : Addr).add j) = some y := fun j y hy => by
      rw [addr_add, Nat.zero_add]
      exact RowH.cell (B := B) (.inr ⟨gl, cur, rfl, hB, hm, hl, hbk, ht⟩) j y hy
    obtain ⟨v', w', hrun, h2, h3⟩ := run_append_arg_grows (P := Try.prog) w 44 ty 37 i zeroHs 20 20 tHss.u hi hz hsz hb tHss.z tHss.pos ⟨gl, 0, none⟩ n n xs hl hcell ad 1 1 us (by omega) hc (by omega) h63 hby
    refine ⟨v', w', hrun, ⟨h2.1, ?_⟩, ⟨h3.os, h3.tape, h3.output, h3.size, fun k hk _ => h3.block k hk (by simp)⟩, .inr ?_⟩
    · rcases h2.2 with h0 | ⟨gg, cp, cu, hv, hb2, hr2⟩
      · exact .inl h0
      · exact .inr ⟨gg, cp, cu, hv, by omega, hr2⟩
    · exact fun k hk => own_ge h2 k hk
theorem rowh_map {w : World} {mb n B m : Nat} {v : Value} {xs : List Value} {f : List Int → Option Nat} (h : KMap w mb n f) (ho : RowH B w v m xs) : v.ownBlock ≠ some mb := fun hv => by
  obtain ⟨_, cur, hb⟩ := ho.blk mb hv
  exact kmap_ne_blk h hb rfl
def flatH (l : List (List Int)) : List Value := l.flatMap hashV
theorem flatH_snoc (l : List (List Int)) (h : List Int) : flatH (l ++ [h]) = flatH l ++ hashV h := by simp [flatH]
theorem flatH_length (l : List (List Int)) (ok : ∀ h ∈ l, IsHash h) : (flatH l).length = l.length * 20 := by
  induction l with
  | nil => rfl
  | cons p l ih =>
    unfold flatH
    rw [List.flatMap_cons, List.length_append, hashV_length, (ok p List.mem_cons_self).len, show (l.flatMap hashV).length = l.length * 20 from ih fun q hq => ok q (List.mem_cons_of_mem _ hq), List.length_cons]
    omega
theorem flatH_at (l : List (List Int)) (ok : ∀ h ∈ l, IsHash h) (i : Nat) (q : List Int) (hq : l[i]? = some q) : ∀ j y, (hashV q)[j]? = some y → (flatH l)[20 * i + j]? = some y := by
  induction l generalizing i with
  | nil => simp at hq
  | cons p l ih =>
    intro j y hy
    have hp := ok p List.mem_cons_self
    have hl : (hashV p).length = 20 := by rw [hashV_length, hp.len]
    unfold flatH
    rw [List.flatMap_cons]
    rcases i with _ | i
    · simp at hq
      subst hq
      have hj : j < (hashV p).length := (List.getElem?_eq_some_iff.1 hy).1
      rw [Nat.mul_zero, Nat.zero_add, List.getElem?_append_left hj]
      exact hy
    · rw [List.getElem?_append_right (by omega), show 20 * (i + 1) + j - (hashV p).length = 20 * i + j by omega]
      exact ih (fun q hq => ok q (List.mem_cons_of_mem _ hq)) i (by simpa using hq) j y hy
theorem flatH_take (l : List (List Int)) (ok : ∀ h ∈ l, IsHash h) (k : Nat) (hk : k ≤ l.length) : (flatH l).take (k * 20) = flatH (l.take k) := by
  have e : flatH l = flatH (l.take k) ++ flatH (l.drop k) := by unfold flatH; rw [← List.flatMap_append, List.take_append_drop]
  rw [e, List.take_left']
  rw [flatH_length _ (fun p hp => ok p (List.mem_of_mem_take hp)), List.length_take]
  congr 1
  omega
theorem rowh_cut {B n k : Nat} {w : World} {A : Option Addr} {c : Nat} {l : List (List Int)} (ok : ∀ h ∈ l, IsHash h) (h : RowH B w (.slice A n c) n (flatH l)) (hn : n = l.length) (hk : k ≤ n) (hm : n ≤ maxLen) : RowH B w (.slice A k k) k (flatH (l.take k)) := by
  have hx : (flatH (l.take k)).length = k * 20 := by rw [flatH_length _ (fun p hp => ok p (List.mem_of_mem_take hp)), List.length_take]; congr 1; omega
  have key : (A = none ∧ n = 0) ∨ ∃ g cur, A = some ⟨g, 0, none⟩ ∧ B ≤ g ∧ Blk w g 37 cur ∧ cur.toList.take (n * 20) = flatH l := by
    rcases h with h | ⟨gl, cur, hv, hB, hm', hl, hb, ht⟩
    · rcases h.2 with ⟨h0, h00⟩ | ⟨g', cap, cur, hv, h1, hg, h2, h3, h4, ht⟩
      · injection h0 with h0; exact .inl ⟨h0, h00⟩
      · injection hv with hv
        exact .inr ⟨g', cur, hv, h1, hg, ht⟩
    · injection hv with hv
      exact .inr ⟨gl, cur, hv, hB, hb, ht⟩
  rcases key with ⟨rfl, rfl⟩ | ⟨g, cur, rfl, hB, hb, ht⟩
  · obtain rfl : k = 0 := by omega
    have : l.take 0 = [] := rfl
    rw [this]
    exact .inl ⟨rfl, .inl ⟨rfl, rfl⟩⟩
  · refine .inr ⟨g, cur, rfl, hB, by omega, hx, hb, ?_⟩
    have := congrArg (List.take (k * 20)) ht
    rw [List.take_take, flatH_take l ok k (by omega), Nat.min_eq_left (Nat.mul_le_mul_right 20 hk)] at this
    exact this
theorem rowh_at {B n c : Nat} {w : World} {A : Option Addr} {xs : List Value} (h : RowH B w (.slice A n c) n xs) (h0 : 0 < n) : ∃ g, A = some ⟨g, 0, none⟩ := by
  rcases h with h | ⟨gl, cur, hv, hB, hm', hl, hb, ht⟩
  · rcases h.2 with ⟨h1, h2⟩ | ⟨g', cap, cur, hv, _⟩
    · omega
    · injection hv with hv; exact ⟨g', hv⟩
  · injection hv with hv; exact ⟨gl, hv⟩
theorem rowh_addr {B n c : Nat} {w : World} {A : Option Addr} {xs : List Value} (h : RowH B w (.slice A n c) n xs) (k : Nat) : (if k = 0 then A else A.map (fun x => x.add 0)) = A := by
  have : A = none ∨ ∃ g, A = some ⟨g, 0, none⟩ := by
    rcases h with h | ⟨gl, cur, hv, hB, hm', hl, hb, ht⟩
    · rcases h.2 with ⟨h1, h2⟩ | ⟨g', cap, cur, hv, _⟩
      · injection h1 with h1; exact .inl h1
      · injection hv with hv; exact .inr ⟨g', hv⟩
    · injection hv with hv; exact .inr ⟨gl, hv⟩
  rcases this with rfl | ⟨g, rfl⟩
  · simp
  · simp [Addr.add]
theorem wpList_appT {P : Program} {t e : TypeId} {z : Value} {size bytes : Nat} {ops : Array Oper} {rest : List Oper} {o : Oper} {a : Act} {w : World} {Q : Exit → Act → World → Prop} (T : SlS P t e z size bytes) (hgd : Region.wanted o (yielded ops a.tmps) = true) (s x : Operand)
    (ho : o.op = .call { callee := .builtin .append, args := #[s, x], argTypes := #[t, t] })
    (base : Nat) (v : Value) (n : Nat) (xs : List Value) (hs : a.eval s = v) (happ : AppOf P w t e size bytes base v n xs) (us : List Value) (hus : us.length = size) (h1 : ∀ u ∈ us, u.oneCell' = true)
    (g0 : Nat) (hx : a.eval x = .slice (some ⟨g0, 0, none⟩) 1 1) (hc : Blk w g0 e us.toArray)
    (hby : (n + 1) * bytes ≤ 140737488355328) (h63 : n + 1 ≤ maxLen) (hbase : base ≤ w.heap.size)
    (h : ∀ v' w', w'.ownsRow base e size v' (n + 1) (xs ++ us) → w.grownBy w' v.ownBlock → (v'.ownBlock = v.ownBlock ∨ ∀ k, v'.ownBlock = some k → w.heap.size ≤ k) → wpList P ops Q rest (a.put o.dst v') w') : wpList P ops Q (o :: rest) a w :=
  wpList_step fun K hK => step_appS T hgd s x ho base v n xs hs happ us hus h1 g0 hx hc hby h63 hbase fun v' w' h2 h3 h4 => hK _ _ (h v' w' h2 h3 h4)
end Go.Proofs.Ytjcaahilgobfhaa
