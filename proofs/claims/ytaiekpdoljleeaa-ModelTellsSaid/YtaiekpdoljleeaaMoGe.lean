/- The model that bytes say: what the program keeps while it reads. -/
import Derived.Test.YtaiekpdoljleeaaMoCd
import Derived.Deep.WholeRow
namespace Go.Proofs.Ytaiekpdoljleeaa
open Go.RowKit Go.WideShapes
set_option linter.unusedVariables false
set_option linter.unusedSimpArgs false
/-- A closure into the block that was made last. -/
theorem store_new (X : World) (g : Nat) (fn : Fn) (u : Value) (cap : Array Value) (t : TypeId) (hg : g = X.heap.size) : (store ⟨g, 0, none⟩ (.func fn #[] cap)).run Try.prog (X.alloc (.cells #[u] t)) = .ok () (X.alloc (.cells #[.func fn #[] cap] t)) := by
  subst hg
  have hb := Blk.new X t #[u]
  have h0 := hb.cell 0
  have f0 := hb.frozen 0
  rw [run_store _ _ _ _ _ rfl, h0]
  simp only [List.getElem?_toArray, List.getElem?_cons_zero, f0]
  rw [if_neg (by decide)]
  congr 1
  have h1 := setCell_eq_setRow (X.alloc (.cells #[u] t)) X.heap.size 0 #[u] t (0, 0) (.func fn #[] cap) hb
  rw [h1]
  exact World.setRow_alloc_new X #[u] _ t
def mdC (x0 x1 x2 x3 : Int) (vt vc vp : Value) : Array Value := #[.int .i64 x0, .int .i64 x1, .int .i64 x2, .int .i64 x3, vt, vc, vp]
/-- What is kept: the reader's blocks from g on, the model's box gm, its parts v, programs vc, vp. -/
structure GC (g gm : Nat) (bs : List Int) (A : Option Addr) (n c : Nat) (x0 x1 x2 x3 : Int) (w0 : World) (v vc vp : Value) (L : Left) (acc : List Pt) (w : World) : Prop where
  rs : Rs g bs A n c L w
  mb : Blk w gm 58 (mdC x0 x1 x2 x3 v vc vp)
  own : w.ownsRow g 32 7 v acc.length (flat_pts acc)
  low : Below g w0 w
  oct : ∀ r, L = some r → Oct r
  res : Blk w (g + 1) 58 (mdC 0 0 0 0 (.slice none 0 0) (.slice none 0 0) (.slice none 0 0))
abbrev GS (g gm : Nat) (bs : List Int) (A : Option Addr) (n c : Nat) (x0 x1 x2 x3 : Int) (w0 : World) (v : Value) (L : Left) (acc : List Pt) (w : World) : Prop := GC g gm bs A n c x0 x1 x2 x3 w0 v (.slice none 0 0) (.slice none 0 0) L acc w
section
variable {g gm q k : Nat} {bs : List Int} {A : Option Addr} {n c : Nat} {x0 x1 x2 x3 : Int} {w0 w w' : World} {v v' vc vp : Value} {L L' : Left} {acc : List Pt}
theorem GC.below (h : GC g gm bs A n c x0 x1 x2 x3 w0 v vc vp L acc w) (hb : Below w.heap.size w w') : GC g gm bs A n c x0 x1 x2 x3 w0 v vc vp L acc w' := by
  have hg := h.rs.nxt.lt
  exact ⟨h.rs.below hb, h.mb.below hb, own_below h.own hb, h.low.trans (hb.mono (by omega)), h.oct, h.res.below hb⟩
theorem GC.alloc (h : GC g gm bs A n c x0 x1 x2 x3 w0 v vc vp L acc w) (o : Obj) : GC g gm bs A n c x0 x1 x2 x3 w0 v vc vp L acc (w.alloc o) := h.below ((Below.refl _ _).alloc (Nat.le_refl _) o)
/-- The reader has gone on. -/
theorem GC.step (h : GC g gm bs A n c x0 x1 x2 x3 w0 v vc vp L acc w) (hgm : g + 4 < gm) (hr : Rs g bs A n c L' w') (hf : Frm (SR g) w w') (ho : ∀ r, L' = some r → Oct r) : GC g gm bs A n c x0 x1 x2 x3 w0 v vc vp L' acc w' := by
  have hg := h.rs.nxt.lt
  refine ⟨hr, h.mb.frm hf (by unfold SR; omega), hf.own h.own fun k hk hs => ?_, h.low.trans (hf.to_below (by omega) (fun k hk => by unfold SR at hk; omega)), ho, h.res.frm hf (by unfold SR; omega)⟩
  obtain ⟨a, _, h3, h4⟩ := h.rs.pos
  rcases hs with rfl | rfl
  · exact h3.apart h.own (by decide) _ hk rfl
  · rcases h4 with ⟨_, h4⟩ | ⟨_, h4⟩ <;> exact h4.apart h.own (by decide) _ hk rfl
/-- A block of its own has been written. -/
theorem GC.far (h : GC g gm bs A n c x0 x1 x2 x3 w0 v vc vp L acc w) (hA : 0 < bs.length → ∀ q, A = some q → q.block < g) (hq : g + 4 < q) (hqm : q ≠ gm) (hv : v.ownBlock ≠ some q) (hf : Frm (fun k => k = q) w w') : GC g gm bs A n c x0 x1 x2 x3 w0 v vc vp L acc w' := by
  have hg := h.rs.nxt.lt
  exact ⟨h.rs.frm hf (fun k hk e => by omega) hA, h.mb.frm hf (fun e => hqm e.symm), hf.own h.own (fun k hk e => hv (by rw [hk, e])), h.low.trans (hf.to_below (by omega) (fun k hk => by omega)), h.oct, h.res.frm hf (by omega)⟩
/-- The box written. -/
theorem GC.put (h : GC g gm bs A n c x0 x1 x2 x3 w0 v vc vp L acc w) (hgm : g + 4 < gm) (hA : 0 < bs.length → ∀ q, A = some q → q.block < g) (j : Nat) (u vc' vp' : Value) (he : (mdC x0 x1 x2 x3 v vc vp).setIfInBounds j u = mdC x0 x1 x2 x3 v vc' vp') : GC g gm bs A n c x0 x1 x2 x3 w0 v vc' vp' L acc (w.setCell ⟨gm, j, none⟩ u) := by
  have hg := h.rs.nxt.lt
  have hf : Frm (fun k => k = gm) w (w.setCell ⟨gm, j, none⟩ u) := Frm.setCell (S := fun k => k = gm) (p := ⟨gm, j, none⟩) (Frm.refl _ _) (fun _ => rfl) _
  exact ⟨h.rs.frm hf (fun k hk e => by omega) hA, by rw [← he]; exact h.mb.set j u, hf.own h.own (fun k hk e => h.mb.apart h.own (by decide) _ hk e), h.low.trans (hf.to_below (by omega) (fun k hk => by omega)), h.oct, h.res.frm hf (by omega)⟩
/-- A part more. -/
theorem GC.grow {t : Pt} (h : GC g gm bs A n c x0 x1 x2 x3 w0 v vc vp L acc w) (hgm : g + 4 < gm) (hA : 0 < bs.length → ∀ q, A = some q → q.block < g) (hg : w.grownBy w' v.ownBlock) (ho : w'.ownsRow g 32 7 v' (acc.length + 1) (flat_pts acc ++ t.cells)) (hb : Below g w w') : GC g gm bs A n c x0 x1 x2 x3 w0 v' vc vp L (acc ++ [t]) (w'.setCell ⟨gm, 4, none⟩ v') := by
  have hs := h.rs.nxt.lt
  have hf1 : Frm (fun k => v.ownBlock = some k) w w' := Frm.of_grown hg (fun k hk => hk)
  have hf2 : Frm (fun k => k = gm) w' (w'.setCell ⟨gm, 4, none⟩ v') := Frm.setCell (S := fun k => k = gm) (p := ⟨gm, 4, none⟩) (Frm.refl _ _) (fun _ => rfl) _
  have hm : Blk w' gm 58 (mdC x0 x1 x2 x3 v vc vp) := h.mb.grown h.own (by decide) hg
  obtain ⟨a, ha, h3, h4⟩ := h.rs.pos
  have hr : Rs g bs A n c L w' := ⟨h.rs.b.grown h.own (by decide) hg, ⟨a, ha, h3.grown h.own (by decide) hg, h4.imp (fun h5 => ⟨h5.1, h5.2.grown h.own (by decide) hg⟩) (fun h5 => ⟨h5.1, h5.2.grown h.own (by decide) hg⟩)⟩, h.rs.nxt.grown h.own (by decide) hg, rd_far h.rs.rd hA hf1 (fun k hk e => by have := own_ge h.own k e; omega)⟩
  have hs2 := hr.nxt.lt
  refine ⟨hr.frm hf2 (fun k hk e => by omega) hA, by simpa [mdC] using hm.set 4 v', ?_, (h.low.trans hb).trans (hf2.to_below (by omega) (fun k hk => by omega)), h.oct, (h.res.grown h.own (by decide) hg).frm hf2 (by omega)⟩
  have e1 : flat_pts (acc ++ [t]) = flat_pts acc ++ t.cells := flat_pts_snoc acc t
  rw [e1, List.length_append]
  exact hf2.own ho fun k hk e => hm.apart ho (by decide) _ hk e
end
/-- 'append(own, x)', x a struct, and what has stayed. -/
theorem wpList_appS2 {P : Program} {t e : TypeId} {z : Value} {size bytes : Nat} {ops : Array Oper} {rest : List Oper} {o : Oper} {a : Act} {w : World} {Q : Exit → Act → World → Prop} (T : SlS P t e z size bytes) (hgd : Region.wanted o (yielded ops a.tmps) = true) (s x : Operand)
    (ho : o.op = .call { callee := .builtin .append, args := #[s, x], argTypes := #[t, t] })
    (base : Nat) (v : Value) (n : Nat) (xs : List Value) (hs : a.eval s = v) (hown : w.ownsRow base e size v n xs) (us : Array Value) (hus : us.size = size) (h1 : ∀ u ∈ us.toList, u.oneCell' = true)
    (g0 : Nat) (hx : a.eval x = .slice (some ⟨g0, 0, none⟩) 1 1) (hg0 : g0 = w.heap.size)
    (hby : (n + 1) * bytes ≤ 140737488355328) (h63 : n + 1 ≤ maxLen) (hbase : base ≤ w.heap.size)
    (h : ∀ v' w', w'.ownsRow base e size v' (n + 1) (xs ++ us.toList) → w.grownBy w' v.ownBlock → Below base w w' → wpList P ops Q rest (a.put o.dst v') w') : wpList P ops Q (o :: rest) a (w.alloc (.cells us e)) := by
  subst hg0
  obtain ⟨i, hi, hz, hsz, hb⟩ := info_parts T.i
  have hbase' : base ≤ (w.alloc (.cells us e)).heap.size := by simp; omega
  obtain ⟨v', w', hrun, h2, h3, _, _⟩ := run_append_own_at (P := P) (w.alloc (.cells us e)) base t o.type e i z size bytes T.u hi hz hsz hb T.z T.pos v n xs (hown.alloc _) ⟨w.heap.size, 0, none⟩ 1 1 us.toList (by simp [hus])
    (fun j u hu => by rw [addr_add, Nat.zero_add, cell_of_row _ _ _ _ _ _ (heap_alloc_new _ _)]; simpa using hu) h1 h63 hby hbase'
  refine wpList_want hgd fun K hK => ?_
  unfold Oper.wp execOp
  simp only [ho, resolve, invoke, builtin, Sem.run_bind, Sem.run_pure, Result.andThen_ok, List.map_toArray, List.map_cons, List.map_nil, hs, hx, hrun]
  exact hK _ _ (h v' w' h2 ⟨h3.os, h3.tape, h3.output, Nat.le_trans (by simp) h3.size, fun k hk hne => (h3.block k (by simp; omega) hne).trans (Below.heap_alloc w _ k hk)⟩ (((Below.refl _ _).alloc hbase _).grown h3 hbase' (own_ge hown)))
/-- A part with a field set, as cells. -/
theorem set_cells (t : Pt) (j : Nat) (h1 : 1 ≤ j) (h6 : j ≤ 6) (x : Int) : (t.set j x).cells.toArray = t.cells.toArray.setIfInBounds j (.int .i64 x) := by
  rcases (show j = 1 ∨ j = 2 ∨ j = 3 ∨ j = 4 ∨ j = 5 ∨ j = 6 from by omega) with rfl | rfl | rfl | rfl | rfl | rfl <;> rfl
theorem Oct.headD {l : List Int} (h : Oct l) : 0 ≤ l.headD 0 ∧ l.headD 0 ≤ 255 := by
  rcases l with _ | ⟨x, l⟩
  · exact ⟨Int.le_refl 0, by show (0 : Int) ≤ 255; omega⟩
  · exact h x (by simp)
/-- The numbers of what was read. -/
theorem fd_ok {q : Left × Pt} {j : Nat} (ho : ∀ r, q.1 = some r → Oct r) (ht : q.2.ok) : (fdG q j).2.ok ∧ ∀ r, (fdG q j).1 = some r → Oct r := by
  have hv : ∀ x : Int, -2048 ≤ x → x ≤ 65535 → (q.2.set j x).ok := fun x h0 h1 => by
    obtain ⟨h2, h3, h4, h5, h6, h7, h8, h9, h10, h11, h12, h13, h14, h15⟩ := ht
    unfold Pt.set
    repeat' split
    all_goals (refine ⟨?_, ?_, ?_, ?_, ?_, ?_, ?_, ?_, ?_, ?_, ?_, ?_, ?_, ?_⟩ <;> simp only <;> omega)
  have hb1 := (nx_oct (k := 1) ho)
  have hb1' : 0 ≤ (nx 1 q.1).2.headD 0 ∧ (nx 1 q.1).2.headD 0 ≤ 255 := hb1.headD
  have hL1 := nx_octL (k := 1) ho
  have hb2 : 0 ≤ (nx 1 (nx 1 q.1).1).2.headD 0 ∧ (nx 1 (nx 1 q.1).1).2.headD 0 ≤ 255 := (nx_oct (k := 1) hL1).headD
  have hmo : 0 ≤ moreF j ∧ moreF j ≤ 2048 := by unfold moreF; split <;> omega
  unfold fdG
  split
  · exact ⟨hv _ (by omega) (by omega), nx_octL hL1⟩
  · exact ⟨hv _ (by omega) (by omega), hL1⟩
theorem fold_ok : ∀ (l : List Nat) (q : Left × Pt), (∀ r, q.1 = some r → Oct r) → q.2.ok → (l.foldl fdG q).2.ok ∧ ∀ r, (l.foldl fdG q).1 = some r → Oct r
  | [], q, ho, ht => ⟨ht, ho⟩
  | j :: l, q, ho, ht => by
    obtain ⟨h1, h2⟩ := fd_ok (j := j) ho ht
    exact fold_ok l _ h2 h1
theorem ptZ_ok {k : Int} (h0 : 0 ≤ k) (h1 : k ≤ 255) : (ptZ k).ok := by
  unfold ptZ
  refine ⟨?_, ?_, ?_, ?_, ?_, ?_, ?_, ?_, ?_, ?_, ?_, ?_, ?_, ?_⟩ <;> simp only <;> omega
theorem parts_ok : ∀ (n : Nat) (L L' : Left) (acc ts : List Pt), (∀ r, L = some r → Oct r) → (∀ t ∈ acc, t.ok) → partsG n L acc = some (L', ts) → (∀ t ∈ ts, t.ok) ∧ ts.length ≤ acc.length + n
  | 0, L, L', acc, ts, ho, ha, h => by
    simp only [partsG, Option.some.injEq, Prod.mk.injEq] at h
    rw [← h.2]
    exact ⟨ha, Nat.le_refl _⟩
  | n + 1, L, L', acc, ts, ho, ha, h => by
    rw [partsG] at h
    rcases hx : (nx 1 L).1 with _ | r1
    · rw [hx] at h
      simp only [Option.some.injEq, Prod.mk.injEq] at h
      rw [← h.2]
      exact ⟨ha, by omega⟩
    · have hb := (nx_oct (k := 1) ho)
      have hb' : 0 ≤ (nx 1 L).2.headD 0 ∧ (nx 1 L).2.headD 0 ≤ 255 := hb.headD
      have hL1 := nx_octL (k := 1) ho r1 hx
      rw [hx] at h
      simp only at h
      cases hk : okK ((nx 1 L).2.headD 0) with
      | false => rw [hk] at h; cases h
      | true =>
        rw [hk] at h
        simp only [cond_true] at h
        generalize (nx 1 L).2.headD 0 = k at *
        obtain ⟨h1, h2⟩ := fold_ok (fdsK k) (some r1, ptZ k) (fun r hr => by obtain rfl := Option.some.inj hr; exact hL1) (ptZ_ok hb'.1 hb'.2)
        obtain ⟨h3, h4⟩ := parts_ok n _ L' _ ts h2 (fun t ht => by
          rcases List.mem_append.1 ht with ht | ht
          · exact ha t ht
          · simp at ht; subst ht; exact h1) h
        exact ⟨h3, by simp at h4; omega⟩
def clo (g : Nat) : Value := .func (.func 59) #[] #[.pointer (some ⟨g + 3, 0, none⟩), .pointer (some ⟨g, 0, none⟩), .pointer (some ⟨g + 2, 0, none⟩)]
theorem rs_init (bs : List Int) (A : Option Addr) (n c : Nat) (w : World) (z : Array Value) (hr : Rd w A (octs bs)) :
    Rs w.heap.size bs A n c (some bs) (((((w.alloc (.cells #[.slice A n c] 37)).alloc (.cells z 58)).alloc (.cells #[.int .i64 0] 3)).alloc (.cells #[.bool false] 4)).alloc (.cells #[clo w.heap.size] 95)) ∧
    Blk (((((w.alloc (.cells #[.slice A n c] 37)).alloc (.cells z 58)).alloc (.cells #[.int .i64 0] 3)).alloc (.cells #[.bool false] 4)).alloc (.cells #[clo w.heap.size] 95)) (w.heap.size + 1) 58 z := by
  have h1 := Blk.new (w.alloc (.cells #[.slice A n c] 37)) 58 z
  have h2 := Blk.new ((w.alloc (.cells #[.slice A n c] 37)).alloc (.cells z 58)) 3 #[.int .i64 0]
  have h3 := Blk.new (((w.alloc (.cells #[.slice A n c] 37)).alloc (.cells z 58)).alloc (.cells #[.int .i64 0] 3)) 4 #[.bool false]
  have h4 := Blk.new ((((w.alloc (.cells #[.slice A n c] 37)).alloc (.cells z 58)).alloc (.cells #[.int .i64 0] 3)).alloc (.cells #[.bool false] 4)) 95 #[clo w.heap.size]
  simp only [World.size_alloc] at h1 h2 h3 h4
  exact ⟨⟨((((Blk.new w 37 _).alloc _).alloc _).alloc _).alloc _, ⟨0, Nat.zero_le _, (h2.alloc _).alloc _, .inl ⟨rfl, h3.alloc _⟩⟩, h4, ((((hr.alloc _).alloc _).alloc _).alloc _).alloc _⟩, ((h1.alloc _).alloc _).alloc _⟩
/-- What Get tells. -/
structure IsModel (d : Md × Int × Int) (w0 : World) (e : Ending) (w : World) : Prop where
  ex : ∃ A B D c cc cp, e = .returned (.tuple #[mdV d.1.h d.1.m d.1.ph d.1.pm (.slice A d.1.ts.length c) (.slice B d.1.code.length cc) (.slice D d.1.post.length cp), .int .i64 d.2.1, .int .i64 d.2.2]) ∧ d.1.ts.length ≤ c ∧ Rd w A (flat_pts d.1.ts) ∧ w.ownsRow w0.heap.size 5 1 (.slice B d.1.code.length cc) d.1.code.length (octs d.1.code) ∧ w.ownsRow w0.heap.size 5 1 (.slice D d.1.post.length cp) d.1.post.length (octs d.1.post)
  low : Below w0.heap.size w0 w
theorem Rs.long {g : Nat} {bs : List Int} {A : Option Addr} {n c : Nat} {r : List Int} {w : World} (h : Rs g bs A n c (some r) w) : w.cell? ⟨g + 3, 0, none⟩ = some (.bool false) := by
  obtain ⟨a, _, _, h3 | h3⟩ := h.pos
  · exact h3.2.cell 0
  · cases h3.1
theorem Rs.short {g : Nat} {bs : List Int} {A : Option Addr} {n c : Nat} {w : World} (h : Rs g bs A n c none w) : w.cell? ⟨g + 3, 0, none⟩ = some (.bool true) := by
  obtain ⟨a, _, _, h3 | h3⟩ := h.pos
  · cases h3.1
  · exact h3.2.cell 0
theorem zero_model (w0 w : World) (x : Int) (h : Below w0.heap.size w0 w) : IsModel (Md.zero, 0, x) w0 (.returned (.tuple #[mdV 0 0 0 0 (.slice none 0 0) (.slice none 0 0) (.slice none 0 0), .int .i64 0, .int .i64 x])) w :=
  ⟨⟨none, none, none, 0, 0, 0, rfl, Nat.le_refl _, Rd.nil _ _, ⟨rfl, .inl ⟨rfl, rfl⟩⟩, ⟨rfl, .inl ⟨rfl, rfl⟩⟩⟩, h⟩
theorem fold_snoc {l : List Nat} {j jj : Nat} {q0 q : Left × Pt} (hj : l[j]? = some jj) (h : (l.take j).foldl fdG q0 = q) : (l.take (j + 1)).foldl fdG q0 = fdG q jj := by
  rw [List.take_add_one, hj, List.foldl_append, h]
  rfl
theorem Rs.not_sr {g q : Nat} {bs : List Int} {A : Option Addr} {n c : Nat} {L : Left} {w : World} {t : TypeId} {cs : Array Value} (h : Rs g bs A n c L w) (hb : Blk w q t cs) (h3 : t ≠ 3) (h4 : t ≠ 4) : ¬ SR g q := by
  obtain ⟨a, _, k3, k4⟩ := h.pos
  rintro (rfl | rfl)
  · exact Blk.ne hb k3 h3 rfl
  · rcases k4 with ⟨_, k4⟩ | ⟨_, k4⟩ <;> exact Blk.ne hb k4 h4 rfl
theorem fdG_narrow {L L' : Left} {t : Pt} {j : Nat} {y : Int} (hw : wide j = false) (h2 : (nx 1 L).2 = [y]) (h1 : (nx 1 L).1 = L') : fdG (L, t) j = (L', t.set j (y - moreF j)) := by
  unfold fdG
  rw [hw]
  simp [h1, h2]
theorem fdG_wide {L L' L2 : Left} {t : Pt} {j : Nat} {y z : Int} (hw : wide j = true) (h2 : (nx 1 L).2 = [y]) (h1 : (nx 1 L).1 = L') (h4 : (nx 1 L').2 = [z]) (h3 : (nx 1 L').1 = L2) : fdG (L, t) j = (L2, t.set j (y * 256 + z - moreF j)) := by
  unfold fdG
  rw [hw]
  simp [h1, h2, h3, h4]
theorem own_of_blk {w : World} {base g : Nat} {C : List Int} (h : Blk w g 5 (octs C).toArray) (hb : base ≤ g) (hl : C.length ≤ 65535) : w.ownsRow base 5 1 (.slice (some ⟨g, 0, none⟩) C.length C.length) C.length (octs C) :=
  ⟨by rw [octs_length, Nat.mul_one], .inr ⟨g, C.length, (octs C).toArray, rfl, hb, h, Nat.le_refl _, by unfold maxLen; omega, by simp [octs_length], by rw [List.take_of_length_le (by simp [octs_length])]⟩⟩
theorem frm_seven {g : Nat} (w : World) (v0 v1 v2 v3 v4 v5 v6 : Value) : Frm (fun k => k = g) w (((((((w.setCell ⟨g, 0, none⟩ v0).setCell ⟨g, 1, none⟩ v1).setCell ⟨g, 2, none⟩ v2).setCell ⟨g, 3, none⟩ v3).setCell ⟨g, 4, none⟩ v4).setCell ⟨g, 5, none⟩ v5).setCell ⟨g, 6, none⟩ v6) :=
  (((((((Frm.refl (fun k => k = g) w).setCell (p := ⟨g, 0, none⟩) (fun _ => rfl) _).setCell (p := ⟨g, 1, none⟩) (fun _ => rfl) _).setCell (p := ⟨g, 2, none⟩) (fun _ => rfl) _).setCell (p := ⟨g, 3, none⟩) (fun _ => rfl) _).setCell (p := ⟨g, 4, none⟩) (fun _ => rfl) _).setCell (p := ⟨g, 5, none⟩) (fun _ => rfl) _).setCell (p := ⟨g, 6, none⟩) (fun _ => rfl) _
theorem own_drew {w : World} {b n : Nat} {e : TypeId} {size : Nat} {v : Value} {xs : List Value} (h : w.ownsRow b e size v n xs) : w.drew.ownsRow b e size v n xs := h
theorem IsModel.drew {d : Md × Int × Int} {w0 w : World} {e : Ending} (h : IsModel d w0 e w) : IsModel d w0 e w.drew := by
  obtain ⟨⟨A, B, D, c, cc, cp, h1, h2, h3, h4, h5⟩, h6⟩ := h
  exact ⟨⟨A, B, D, c, cc, cp, h1, h2, h3.drew, own_drew h4, own_drew h5⟩, Below.drew' h6⟩
theorem blk_seven {g : Nat} {w : World} {z0 z1 z2 z3 z4 z5 z6 : Value} (h : Blk w g 58 #[z0, z1, z2, z3, z4, z5, z6]) (v0 v1 v2 v3 v4 v5 v6 : Value) : Blk (((((((w.setCell ⟨g, 0, none⟩ v0).setCell ⟨g, 1, none⟩ v1).setCell ⟨g, 2, none⟩ v2).setCell ⟨g, 3, none⟩ v3).setCell ⟨g, 4, none⟩ v4).setCell ⟨g, 5, none⟩ v5).setCell ⟨g, 6, none⟩ v6) g 58 #[v0, v1, v2, v3, v4, v5, v6] := by
  have k0 := h.set 0 v0
  simp only [List.setIfInBounds_toArray, List.set_cons_zero, List.set_cons_succ] at k0
  have k1 := k0.set 1 v1
  simp only [List.setIfInBounds_toArray, List.set_cons_zero, List.set_cons_succ] at k1
  have k2 := k1.set 2 v2
  simp only [List.setIfInBounds_toArray, List.set_cons_zero, List.set_cons_succ] at k2
  have k3 := k2.set 3 v3
  simp only [List.setIfInBounds_toArray, List.set_cons_zero, List.set_cons_succ] at k3
  have k4 := k3.set 4 v4
  simp only [List.setIfInBounds_toArray, List.set_cons_zero, List.set_cons_succ] at k4
  have k5 := k4.set 5 v5
  simp only [List.setIfInBounds_toArray, List.set_cons_zero, List.set_cons_succ] at k5
  have k6 := k5.set 6 v6
  simp only [List.setIfInBounds_toArray, List.set_cons_zero, List.set_cons_succ] at k6
  exact k6
theorem below_zero {B g : Nat} {a w : World} (h : Below B a w) (hB : B ≤ g) (v0 v1 v2 v3 v4 v5 v6 : Value) : Below B a (((((((w.setCell ⟨g, 0, none⟩ v0).setCell ⟨g, 1, none⟩ v1).setCell ⟨g, 2, none⟩ v2).setCell ⟨g, 3, none⟩ v3).setCell ⟨g, 4, none⟩ v4).setCell ⟨g, 5, none⟩ v5).setCell ⟨g, 6, none⟩ v6) :=
  ((((((h.setCell hB _).setCell hB _).setCell hB _).setCell hB _).setCell hB _).setCell hB _).setCell hB _
end Go.Proofs.Ytaiekpdoljleeaa
