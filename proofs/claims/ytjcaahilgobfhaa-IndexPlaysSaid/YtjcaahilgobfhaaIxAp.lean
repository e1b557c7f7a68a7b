/- The index: appending many; the document's Cut. -/
import Derived.Test.YtjcaahilgobfhaaIxRg
namespace Go.Proofs.Ytjcaahilgobfhaa
open Go.RowKit Go.WideShapes Go.Maps
set_option linter.unusedVariables false
set_option linter.unusedSimpArgs false
section
variable {P : Program} {t e : TypeId} {z : Value} {size bytes : Nat}
theorem run_appN (T : SlS P t e z size bytes) (w : World) (ty : TypeId) (base : Nat) (v : Value) (n : Nat) (xs : List Value) (hown : w.ownsRow base e size v n xs)
    (A : Option Addr) (m c : Nat) (news : List Value) (hl : news.length = m * size) (hr : m = 0 ∨ ∃ ad : Addr, A = some ad ∧ ∀ j u, news[j]? = some u → w.cell? (ad.add j) = some u) (h1 : ∀ u ∈ news, u.oneCell' = true)
    (hby : (n + m) * bytes ≤ 140737488355328) (h63 : n + m ≤ maxLen) (hbase : base ≤ w.heap.size) :
    ∃ v' w', (Builtin.append_ #[t, t] ty #[v, .slice A m c]).run P w = .ok v' w' ∧ w'.ownsRow base e size v' (n + m) (xs ++ news) ∧ w.grownBy w' v.ownBlock ∧ (v'.ownBlock = v.ownBlock ∨ ∀ k, v'.ownBlock = some k → w.heap.size ≤ k) := by
  obtain ⟨i, hi, hz, hs, hb⟩ := info_parts T.i
  have zero : m = 0 → ∃ v' w', (Builtin.append_ #[t, t] ty #[v, .slice A m c]).run P w = .ok v' w' ∧ w'.ownsRow base e size v' (n + m) (xs ++ news) ∧ w.grownBy w' v.ownBlock ∧ (v'.ownBlock = v.ownBlock ∨ ∀ k, v'.ownBlock = some k → w.heap.size ≤ k) := by
    rintro rfl
    have hr0 : (Builtin.append_ #[t, t] ty #[v, .slice A 0 c]).run P w = .ok v w := by
      rcases hown.2 with ⟨rfl, rfl⟩ | ⟨g, cap, cur, rfl, _, _, hnc, _⟩
      · cases A <;> simp [Builtin.append_, run_underlying T.u, sizeOf, typeInfo, hi, Builtin.lenOf, Builtin.firstCells, loadCells, loadCellsFrom]
      · cases A <;> simp [Builtin.append_, run_underlying T.u, sizeOf, typeInfo, hi, Builtin.lenOf, Builtin.firstCells, hnc, storeCells, loadCells, loadCellsFrom]
    have hn : news = [] := List.eq_nil_of_length_eq_zero (by rw [hl]; omega)
    subst hn
    exact ⟨v, w, hr0, by simpa using hown, World.grownBy.refl w _, .inl rfl⟩
  rcases hr with h0 | ⟨ad, rfl, hc⟩
  · exact zero h0
  · obtain ⟨v', w', hrun, h2, h3, _, h5⟩ := run_append_own_at (P := P) w base t ty e i z size bytes T.u hi hz hs hb T.z T.pos v n xs hown ad m c news hl hc h1 h63 hby hbase
    exact ⟨v', w', hrun, h2, h3, h5.imp id fun h k hk => by rw [h] at hk; injection hk with hk; omega⟩
theorem wpList_appN {ops : Array Oper} {rest : List Oper} {o : Oper} {a : Act} {w : World} {Q : Exit → Act → World → Prop} (T : SlS P t e z size bytes) (hgd : Region.wanted o (yielded ops a.tmps) = true) (s x : Operand)
    (ho : o.op = .call { callee := .builtin .append, args := #[s, x], argTypes := #[t, t] })
    (base : Nat) (v : Value) (n : Nat) (xs : List Value) (hs : a.eval s = v) (hown : w.ownsRow base e size v n xs)
    (A : Option Addr) (m c : Nat) (news : List Value) (hx : a.eval x = .slice A m c) (hl : news.length = m * size) (hr : m = 0 ∨ ∃ ad : Addr, A = some ad ∧ ∀ j u, news[j]? = some u → w.cell? (ad.add j) = some u) (h1 : ∀ u ∈ news, u.oneCell' = true)
    (hby : (n + m) * bytes ≤ 140737488355328) (h63 : n + m ≤ maxLen) (hbase : base ≤ w.heap.size)
    (h : ∀ v' w', w'.ownsRow base e size v' (n + m) (xs ++ news) → w.grownBy w' v.ownBlock → (v'.ownBlock = v.ownBlock ∨ ∀ k, v'.ownBlock = some k → w.heap.size ≤ k) → wpList P ops Q rest (a.put o.dst v') w') : wpList P ops Q (o :: rest) a w := by
  obtain ⟨v', w', hrun, h2, h3, h5⟩ := run_appN T w o.type base v n xs hown A m c news hl hr h1 hby h63 hbase
  refine wpList_step fun K hK => ?_
  rw [if_pos hgd]
  unfold Oper.wp execOp
  simp only [ho, resolve, invoke, builtin, Sem.run_bind, Sem.run_pure, Result.andThen_ok, List.map_toArray, List.map_cons, List.map_nil, hs, hx, hrun]
  exact hK _ _ (h v' w' h2 h3 h5)
end
theorem own_mono {w : World} {B B' n : Nat} {e : TypeId} {size : Nat} {v : Value} {xs : List Value} (h : w.ownsRow B e size v n xs) (hB : B' ≤ B) : w.ownsRow B' e size v n xs := by
  refine ⟨h.1, ?_⟩
  rcases h.2 with h0 | ⟨g, cap, cur, hv, h1, hr⟩
  · exact .inl h0
  · exact .inr ⟨g, cap, cur, hv, by omega, hr⟩
theorem RowP.mono {B B' n : Nat} {w : World} {v : Value} {xs : List Value} (h : RowP B w v n xs) (hB : B' ≤ B) : RowP B' w v n xs := by
  rcases h with h | ⟨gl, cur, hv, h1, hr⟩
  · exact .inl (own_mono h hB)
  · exact .inr ⟨gl, cur, hv, by omega, hr⟩
theorem Idx.mono {B B' g mb n : Nat} {l : List Pc} {v : Value} {w : World} (h : Idx B w g mb n l v) (hB : B' ≤ B) : Idx B' w g mb n l v := ⟨by have := h.ge; omega, by have := h.gm; omega, h.oks, h.blk, h.own.mono hB, h.map⟩
theorem Idx.frm {S : Nat → Prop} {B g mb n : Nat} {l : List Pc} {v : Value} {w w' : World} (h : Idx B w g mb n l v) (hf : Frm S w w') (h1 : ¬ S g) (h2 : ¬ S mb) (h3 : ∀ k, v.ownBlock = some k → ¬ S k) : Idx B w' g mb n l v :=
  ⟨h.ge, h.gm, h.oks, h.blk.frm hf h1, h.own.frm hf h3, h.map.frm hf h2⟩
/-- A row of pieces as a source to append from. -/
theorem rowp_src {B M c : Nat} {w : World} {A : Option Addr} {xs : List Value} (h : RowP B w (.slice A M c) M xs) (k : Nat) (hk : k ≤ M) : k = 0 ∨ ∃ ad : Addr, A = some ad ∧ ∀ j u, (xs.take (k * 23))[j]? = some u → w.cell? (ad.add j) = some u := by
  rcases Nat.eq_zero_or_pos k with h0 | h0
  · exact .inl h0
  · obtain ⟨g, rfl⟩ := rowp_at h (by omega)
    refine .inr ⟨⟨g, 0, none⟩, rfl, fun j u hu => ?_⟩
    rw [addr_add, Nat.zero_add]
    rw [List.getElem?_take] at hu
    split at hu
    · exact h.cell j u hu
    · cases hu
theorem flatP_one (l : List Pc) : ∀ u ∈ flatP l, u.oneCell' = true := fun u hu => by
  unfold flatP at hu
  obtain ⟨p, _, h2⟩ := List.mem_flatMap.1 hu
  exact Pc.cells_one p u h2
theorem rowp_addr {B n c : Nat} {w : World} {A : Option Addr} {xs : List Value} (h : RowP B w (.slice A n c) n xs) : A = none ∨ ∃ g, A = some ⟨g, 0, none⟩ := by
  rcases h with h | ⟨gl, cur, hv, hB, hm', hl, hb, ht⟩
  · rcases h.2 with ⟨h1, h2⟩ | ⟨g', cap, cur, hv, _⟩
    · injection h1 with h1; exact .inl h1
    · injection hv with hv; exact .inr ⟨g', hv⟩
  · injection hv with hv; exact .inr ⟨gl, hv⟩
theorem rowp_none {B n c : Nat} {w : World} {xs : List Value} (h : RowP B w (.slice none n c) n xs) : n = 0 ∧ c = 0 := by
  rcases h with h | ⟨gl, cur, hv, hB, hm', hl, hb, ht⟩
  · rcases h.2 with ⟨h1, h2⟩ | ⟨g', cap, cur, hv, _⟩
    · injection h1 with h1 h3 h4; exact ⟨h2, h4⟩
    · injection hv with hv; cases hv
  · injection hv with hv; cases hv
/-- A new row of the document's: its own, in a new block. -/
structure RefRow (l : List Pc) (m : Nat) (u : Value) (w0 w : World) : Prop where
  row : w.ownsRow w0.heap.size 39 23 u m (flatP l)
  low : Below w0.heap.size w0 w
structure RefCut (l : List Pc) (k : Nat) (w0 : World) (e : Ending) (w : World) : Prop where
  ex : ∃ u, e = .returned (.tuple #[u, .int .i64 0]) ∧ RefRow (l.take k) k u w0 w
set_option maxHeartbeats 1000000 in
theorem refCut_any {B : Nat} {l : List Pc} {A : Option Addr} {M c : Nat} (k : Nat) (w : World) (ho : RowP B w (.slice A M c) M (flatP l)) (oks : ∀ p ∈ l, p.ok) (hM : l.length = M) (hm : M ≤ 8192) (hk : k ≤ M) :
    Calls Try.prog 29 #[.slice A M c, .int .i64 k] w (RefCut l k w) := by
  have hMc : M ≤ c := by obtain ⟨A', c', h1, h2⟩ := ho.slice; injection h1 with _ _ h3; omega
  have htk := flatP_take l oks k (by omega)
  have hlen : (flatP (l.take k)).length = k * 23 := by rw [flatP_length _ (fun p hp => oks p (List.mem_of_mem_take hp)), List.length_take]; congr 1; omega
  have hsrc := rowp_src ho k hk
  rw [htk] at hsrc
  have hone := flatP_one (l.take k)
  have e1 : decide ((k : Int) < 0) = false := by simp
  have e2 : decide ((M : Int) < k) = false := by simp; omega
  have hkI : (k : Int) ≤ M := by omega
  have hkc : (k : Int) ≤ c := by omega
  have HL := Lib.hid hlen
  have HS := Lib.hid hsrc
  have HO := Lib.hid hone
  have ho0 := ho
  clear ho oks hM htk hlen hsrc hone
  have hadr := rowp_addr ho0
  have hnn := fun (h : A = none) => rowp_none (h ▸ ho0)
  have HT := Lib.hid (rfl : flatP (l.take k) = flatP (l.take k))
  generalize hxs : flatP (l.take k) = xs at HL HS HO HT
  have HXS := Lib.hid hxs
  clear hxs ho0
  have hown : w.ownsRow w.heap.size 39 23 (.slice none 0 0) 0 [] := ⟨rfl, .inl ⟨rfl, rfl⟩⟩
  have HOWN := Lib.hid hown
  clear hown
  rcases hadr with rfl | ⟨g, rfl⟩
  · obtain ⟨rfl, rfl⟩ := hnn rfl
    obtain rfl : k = 0 := by omega
    clear hnn
    go_enter Try.func29, Try.ntmps29
    go_wp2_with (refine wpList_appN tPcs rfl (.tmp 16) (.tmp 19) rfl w.heap.size (.slice none 0 0) 0 [] rfl HOWN.out _ 0 _ xs rfl HL.out (.inl rfl) HO.out (by omega) (by unfold maxLen; omega) (Nat.le_refl _) (fun u w1 h1 h2 h3 => ?_))
    have HB := Lib.hid ((Below.refl w.heap.size w).grown h2 (Nat.le_refl _) (fun k hk => by simp [Value.ownBlock] at hk))
    exact bodyPost_ret (v := .tuple #[u, .int .i64 0]) (by simp [results, Try.results29, go_sem]) rfl ⟨⟨u, rfl, by rw [HXS.out]; simpa using h1, HB.out⟩⟩
  · clear hnn
    by_cases hc0 : c = 0
    · obtain rfl : k = 0 := by omega
      obtain rfl : M = 0 := by omega
      subst hc0
      go_enter Try.func29, Try.ntmps29
      go_wp2_with (refine wpList_appN tPcs rfl (.tmp 16) (.tmp 19) rfl w.heap.size (.slice none 0 0) 0 [] rfl HOWN.out _ 0 _ xs rfl HL.out (.inl rfl) HO.out (by omega) (by unfold maxLen; omega) (Nat.le_refl _) (fun u w1 h1 h2 h3 => ?_))
      have HB := Lib.hid ((Below.refl w.heap.size w).grown h2 (Nat.le_refl _) (fun k hk => by simp [Value.ownBlock] at hk))
      exact bodyPost_ret (v := .tuple #[u, .int .i64 0]) (by simp [results, Try.results29, go_sem]) rfl ⟨⟨u, rfl, by rw [HXS.out]; simpa using h1, HB.out⟩⟩
    · go_enter Try.func29, Try.ntmps29
      go_wp2_with (refine wpList_appN tPcs rfl (.tmp 16) (.tmp 19) rfl w.heap.size (.slice none 0 0) 0 [] rfl HOWN.out (some ⟨g, 0, none⟩) k _ xs rfl HL.out HS.out HO.out (by omega) (by unfold maxLen; omega) (Nat.le_refl _) (fun u w1 h1 h2 h3 => ?_))
      have HB := Lib.hid ((Below.refl w.heap.size w).grown h2 (Nat.le_refl _) (fun k hk => by simp [Value.ownBlock] at hk))
      exact bodyPost_ret (v := .tuple #[u, .int .i64 0]) (by simp [results, Try.results29, go_sem]) rfl ⟨⟨u, rfl, by rw [HXS.out]; simpa using h1, HB.out⟩⟩
theorem refCut_out {A : Option Addr} {M c : Nat} (x : Int) (w : World) (hx : x < 0 ∨ (M : Int) < x) : Calls Try.prog 29 #[.slice A M c, .int .i64 x] w (Same (.tuple #[.slice A M c, .int .i64 2]) w) := by
  by_cases h1 : x < 0
  · have e1 : decide (x < 0) = true := by simp [h1]
    clear hx
    go_enter Try.func29, Try.ntmps29
    go_wp2_with fail
    exact bodyPost_ret (v := .tuple #[.slice A M c, .int .i64 2]) (by simp [results, Try.results29, go_sem]) rfl ⟨rfl, rfl⟩
  · have e1 : decide (x < 0) = false := by simp [h1]
    have h2 : (M : Int) < x := by omega
    have e2 : decide ((M : Int) < x) = true := by simp [h2]
    clear hx
    go_enter Try.func29, Try.ntmps29
    go_wp2_with fail
    exact bodyPost_ret (v := .tuple #[.slice A M c, .int .i64 2]) (by simp [results, Try.results29, go_sem]) rfl ⟨rfl, rfl⟩
end Go.Proofs.Ytjcaahilgobfhaa
