/- append of bytes onto a row of the call's own with the finer bound on its length (runtime's own: 2^48 behind growth by a quarter): one byte more, a string more. Plain laws over any program. -/
import Derived.Test.YtbmhfefbfocelaaPut
namespace Go.Proofs.Ytbmhfefbfocelaa
open Go.RowKit Go.WideShapes
set_option linter.unusedVariables false
def fineMost : Nat := 180000000000000
section
variable {P : Program} {w : World} {base e : Nat} {n : Nat} {v : Value} {xs : List Value}
theorem own_some (hown : w.ownsRow base e 1 v n xs) (hn : 0 < n) : ∃ g cap cur, v = .slice (some ⟨g, 0, none⟩) n cap ∧ base ≤ g ∧ w.heap[g]? = some (.cells cur e (0, 0)) ∧ n ≤ cap ∧ cap ≤ maxLen ∧ cur.size = cap ∧ cur.toList.take n = xs := by
  rcases hown.2 with ⟨h0, hx⟩ | ⟨g, cap, cur, hv, hbg, hg, hnc, hcm, hcs, ht⟩
  · omega
  · exact ⟨g, cap, cur, hv, hbg, hg, hnc, hcm, by simpa using hcs, by simpa using ht⟩
/-- Where it grows: the new row. -/
theorem own_fresh (z : Value) (hz1 : z.cells = #[z]) (old m : Nat) (news : List Value) (hxl : xs.length = n) (hl : news.length = m) (ho : old < n + m) (h63 : n + m ≤ maxLen) (hbase : base ≤ w.heap.size) :
    (w.drew.alloc (.cells (xs.toArray ++ news.toArray ++ Builtin.zeroCells z.cells (grownCap w (n + m) old e - (n + m))) e)).ownsRow base e 1 (.slice (some ⟨w.heap.size, 0, none⟩) (n + m) (grownCap w (n + m) old e)) (n + m) (xs ++ news) := by
  have hge := grownCap_ge w (n + m) old e
  refine ⟨by simp [hxl, hl], .inr ⟨w.heap.size, _, _, rfl, hbase, heap_alloc_new w.drew _, hge, grownCap_le_maxLen w (n + m) old e h63, ?_, ?_⟩⟩
  · simp only [Array.size_append, List.size_toArray, size_zeroCells, hz1, hxl, hl]
    simp
    omega
  · have hlen : (xs ++ news).length = (n + m) * 1 := by simp [hxl, hl]
    simp only [Array.toList_append, List.append_assoc]
    rw [← List.append_assoc, ← hlen]
    exact List.take_left
theorem fresh_below (o : Obj) (hbase : base ≤ w.heap.size) : Below base w (w.drew.alloc o) := (Below.refl _ _).drew.alloc (by simpa using hbase) _
/-- Where there is room: the row written. -/
theorem own_set {g cap m : Nat} {cur : Array Value} {news : List Value} (hxl : xs.length = n) (hl : news.length = m) (hbg : base ≤ g) (hg : w.heap[g]? = some (.cells cur e (0, 0))) (hroom : n + m ≤ cap) (hcm : cap ≤ maxLen) (hcs : cur.size = cap) (ht : cur.toList.take n = xs) :
    (w.setRow g (cur.toList.take n ++ news ++ cur.toList.drop (n + m)).toArray).ownsRow base e 1 (.slice (some ⟨g, 0, none⟩) (n + m) cap) (n + m) (xs ++ news) ∧ Below base w (w.setRow g (cur.toList.take n ++ news ++ cur.toList.drop (n + m)).toArray) := by
  refine ⟨⟨by simp [hxl, hl], .inr ⟨g, cap, _, rfl, hbg, setRow_heap w g cur _ e _ hg, hroom, hcm, ?_, ?_⟩⟩, ⟨rfl, rfl, rfl, by simp, fun k hk => setRow_other w g k _ (by omega)⟩⟩
  · simp only [List.size_toArray, List.length_append, List.length_take, List.length_drop, Array.length_toList, hl]
    omega
  · have hlen : (xs ++ news).length = (n + m) * 1 := by simp [hxl, hl]
    rw [ht, ← hlen]
    exact List.take_left
end
section
variable {P : Program} {t e : TypeId}
theorem run_app_str (T : SlT P t e (.int .u8 0) 1) (u : TypeId) (hu : P.underlying u = some .string) (w : World) (ty : TypeId) (base : Nat) (v : Value) (n : Nat) (xs : List Value) (hown : w.ownsRow base e 1 v n xs) (s : ByteArray)
    (hby : n + s.size ≤ fineMost) (hs : s.size ≤ 140737488355328) (hbase : base ≤ w.heap.size) :
    ∃ v' w', (Builtin.append_ #[t, u] ty #[v, .string s]).run P w = .ok v' w' ∧ w'.ownsRow base e 1 v' (n + s.size) (xs ++ Go.Lib.strCells s) ∧ Below base w w' := by
  obtain ⟨i, hi, hz, hsz, hb⟩ := info_parts T.i
  unfold fineMost at hby
  have hm : n + s.size ≤ maxLen := by unfold maxLen; omega
  by_cases hn : n = 0
  · obtain ⟨v', w', h1, h2, h3, _⟩ := Go.Lib.run_append_own_string (P := P) w base t u ty e i T.u hu hi hz hsz hb v n xs hown s hm (by omega) hbase
    exact ⟨v', w', h1, h2, (Below.refl _ _).grown h3 hbase (own_ge hown)⟩
  · have hxl : xs.length = n := by simpa using hown.1
    obtain ⟨g, cap, cur, rfl, hbg, hg, hnc, hcm, hcs, ht⟩ := own_some hown (by omega)
    by_cases hroom : n + s.size ≤ cap
    · have hr := Go.Lib.run_append_room_string (P := P) w t u ty e i T.u hu hi hsz g n cap cur hg s hroom (by omega)
      obtain ⟨h1, h2⟩ := own_set hxl (Go.Lib.strCells_length s) hbg hg hroom hcm hcs ht
      exact ⟨_, _, hr, h1, h2⟩
    · have hfit := nextcap_le (need := n + s.size) (old := cap) (by omega)
      have hr := Go.Lib.run_append_grow_string (P := P) w t u ty e i (.int .u8 0) T.u hu hi hz ⟨g, 0, none⟩ n cap xs (by rw [hsz]; simpa using hxl) (hown.cells (g := g) rfl) s (by omega) (by omega) (by rw [hb]; omega)
      exact ⟨_, _, hr, own_fresh (.int .u8 0) rfl cap s.size _ hxl (Go.Lib.strCells_length s) (by omega) hm hbase, fresh_below _ hbase⟩
theorem wpList_app_str {ops : Array Oper} {rest : List Oper} {o : Oper} {a : Act} {w : World} {Q : Exit → Act → World → Prop} (T : SlT P t e (.int .u8 0) 1) (u : TypeId) (hu : P.underlying u = some .string) (hgd : Region.wanted o (yielded ops a.tmps) = true) (s x : Operand)
    (ho : o.op = .call { callee := .builtin .append, args := #[s, x], argTypes := #[t, u] })
    (base : Nat) (v : Value) (n : Nat) (xs : List Value) (hs : a.eval s = v) (hown : w.ownsRow base e 1 v n xs) (str : ByteArray) (hx : a.eval x = .string str)
    (hby : n + str.size ≤ fineMost) (hst : str.size ≤ 140737488355328) (hbase : base ≤ w.heap.size)
    (h : ∀ v' w', w'.ownsRow base e 1 v' (n + str.size) (xs ++ Go.Lib.strCells str) → Below base w w' → wpList P ops Q rest (a.put o.dst v') w') : wpList P ops Q (o :: rest) a w := by
  obtain ⟨v', w', hrun, h2, h3⟩ := run_app_str T u hu w o.type base v n xs hown str hby hst hbase
  refine wpList_want hgd fun K hK => ?_
  unfold Oper.wp execOp
  simp only [ho, resolve, invoke, builtin, Sem.run_bind, Sem.run_pure, Result.andThen_ok, List.map_toArray, List.map_cons, List.map_nil, hs, hx, hrun]
  exact hK _ _ (h v' w' h2 h3)
/-- 'append(own, x)', one byte, which was laid in a block of its own just ahead. -/
theorem wpList_app1_fine {z : Value} {ops : Array Oper} {rest : List Oper} {o : Oper} {a : Act} {w : World} {Q : Exit → Act → World → Prop} (T : SlT P t e z 1) (hz1 : z.cells = #[z]) (hgd : Region.wanted o (yielded ops a.tmps) = true) (s x : Operand)
    (ho : o.op = .call { callee := .builtin .append, args := #[s, x], argTypes := #[t, t] })
    (base : Nat) (v : Value) (n : Nat) (xs : List Value) (hs : a.eval s = v) (hown : w.ownsRow base e 1 v n xs) (u : Value) (h1 : u.oneCell' = true)
    (g0 : Nat) (hx : a.eval x = .slice (some ⟨g0, 0, none⟩) 1 1) (hg0 : g0 = w.heap.size)
    (hby : n + 1 ≤ fineMost) (hbase : base ≤ w.heap.size)
    (h : ∀ v' w', w'.ownsRow base e 1 v' (n + 1) (xs ++ [u]) → Below base w w' → wpList P ops Q rest (a.put o.dst v') w') : wpList P ops Q (o :: rest) a (w.alloc (.cells #[u] e)) := by
  unfold fineMost at hby
  by_cases hn : n = 0
  · refine wpList_app1 T hgd s x ho base v n xs hs hown u h1 g0 hx hg0 (by omega) (by unfold maxLen; omega) hbase fun v' w' h2 _ h3 => h v' w' h2 h3
  · subst hg0
    obtain ⟨i, hi, hz, hsz, hb⟩ := info_parts T.i
    have hm : n + 1 ≤ maxLen := by unfold maxLen; omega
    have hxl : xs.length = n := by simpa using hown.1
    have hown' := hown.alloc (.cells #[u] e)
    obtain ⟨g, cap, cur, rfl, hbg, hg, hnc, hcm, hcs, ht⟩ := own_some hown' (by omega)
    have hnews : ∀ j y, [u][j]? = some y → (w.alloc (.cells #[u] e)).cell? ((⟨w.heap.size, 0, none⟩ : Addr).add j) = some y := fun j y hy => by
      rcases j with _ | j
      · simp at hy; subst hy; rw [addr_add, cell_of_row _ _ _ _ _ _ (heap_alloc_new _ _)]; rfl
      · simp at hy
    have hB : base ≤ (w.alloc (.cells #[u] e)).heap.size := by rw [World.size_alloc]; omega
    have hlow : Below base w (w.alloc (.cells #[u] e)) := (Below.refl _ _).alloc hbase _
    suffices hex : ∃ v' w', (Builtin.append_ #[t, t] o.type #[.slice (some ⟨g, 0, none⟩) n cap, .slice (some ⟨w.heap.size, 0, none⟩) 1 1]).run P (w.alloc (.cells #[u] e)) = .ok v' w' ∧ w'.ownsRow base e 1 v' (n + 1) (xs ++ [u]) ∧ Below base w w' by
      obtain ⟨v', w', hrun, h2, h3⟩ := hex
      refine wpList_want hgd fun K hK => ?_
      unfold Oper.wp execOp
      simp only [ho, resolve, invoke, builtin, Sem.run_bind, Sem.run_pure, Result.andThen_ok, List.map_toArray, List.map_cons, List.map_nil, hs, hx, hrun]
      exact hK _ _ (h v' w' h2 h3)
    by_cases hroom : n + 1 ≤ cap
    · have hr := run_append_room (P := P) (w.alloc (.cells #[u] e)) t o.type e i T.u hi g n cap cur hg ⟨w.heap.size, 0, none⟩ 1 1 [u] (by simp [hsz]) hnews (by simpa using h1) hroom (by rw [hsz]; simp; omega)
      obtain ⟨h2, h3⟩ := own_set (m := 1) (news := [u]) hxl rfl hbg hg hroom hcm hcs ht
      rw [hsz, Nat.mul_one] at hr
      exact ⟨_, _, hr, h2, hlow.trans h3⟩
    · have hfit := nextcap_le (need := n + 1) (old := cap) (by omega)
      have hr := run_append_grow (P := P) (w.alloc (.cells #[u] e)) t o.type e i z T.u hi hz ⟨g, 0, none⟩ n cap xs (by rw [hsz]; simpa using hxl) (hown'.cells (g := g) rfl) ⟨w.heap.size, 0, none⟩ 1 1 [u] (by simp [hsz]) hnews (by omega) (by omega) (by rw [hb]; omega)
      exact ⟨_, _, hr, own_fresh z hz1 cap 1 _ hxl rfl (by omega) hm hB, hlow.trans (fresh_below _ hB)⟩
end
end Go.Proofs.Ytbmhfefbfocelaa
