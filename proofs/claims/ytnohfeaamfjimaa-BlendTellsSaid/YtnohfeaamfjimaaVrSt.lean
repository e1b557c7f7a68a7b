/- Slices of structs of one-cell fields: an element, appending one, an argument opened; parts. Plain theorems; no condition. -/
import Derived.Test.YtnohfeaamfjimaaRows
import Derived.Test.YtnohfeaamfjimaaVrWords
import Derived.Test.YtnohfeaamfjimaaVrHeld
import Derived.OpenShut
import Derived.ChangeSlices
import Derived.Deep.Slices
import Derived.Deep.Fields
namespace Go.Proofs.Ytnohfeaamfjimaa
open Go.RowKit Go.WideShapes Go.ChangeShapes Go.Deep
set_option linter.unusedVariables false
/-- An element of n one-cell fields, field by field. -/
theorem open_elem {H : Type} {enc : TypeId × Value → H} {P : Program} {w : World} {base : Nat} {spare : Nat → Bool} {held : Bool} {e : TypeId} {fs : Array Field} {n : Nat} {a : Addr} {cs : List Value} {x : DataW H × List MemPlace}
    (he : P.underlying e = some (.struct fs)) (hone : oneCellFields P fs = true) (hC : P.cellsOf e = fs.size) (h1 : w.cells? base a (P.cellsOf e) = some cs) (h2 : DataW.trod enc P w base spare held n e cs = some x) :
    ∀ (j : Nat) (f : Field), fs[j]? = some f → ∃ (v : Value) (m : Nat) (y : DataW H × List MemPlace), w.cell? (a.add j) = some v ∧ DataW.trod enc P w base spare held m f.type [v] = some y := by
  intro j f hj
  obtain ⟨xs, m, _, _, hlen, hxl, hf⟩ := DataW.trod_struct he h2
  obtain ⟨_, hcl, hat⟩ := World.cells?_some h1
  have hjl : j < fs.size := (Array.getElem?_eq_some_iff.1 hj).1
  obtain ⟨ho, hk⟩ := hone_of hone j f hj
  have h := hf j f hj
  rw [ho, hk] at h
  have hjc : j < cs.length := by omega
  have h3 : (cs.drop j).take 1 = [cs[j]] := by rw [List.drop_eq_getElem_cons hjc]; rfl
  rw [h3, List.getElem?_eq_getElem (by omega)] at h
  exact ⟨cs[j], m, _, by rw [hat j (by omega), List.getElem?_eq_getElem hjc], h⟩
/-- What is wanted of a slice type: t over e, size cells an element. -/
structure SlS (P : Program) (t e : TypeId) (z : Value) (size bytes : Nat) : Prop where
  u : P.underlying t = some (.slice e)
  i : (P.info? e).map (fun i => (i.zero, i.size, i.bytes)) = some (some z, size, bytes)
  z : z.cells.size = size
  pos : 0 < size
/-- 'append(own, x)', x a struct: its cells were laid in a block of their own just ahead. -/
theorem wpList_appS {P : Program} {t e : TypeId} {z : Value} {size bytes : Nat} {ops : Array Oper} {rest : List Oper} {o : Oper} {a : Act} {w : World} {Q : Exit → Act → World → Prop} (T : SlS P t e z size bytes) (hgd : Region.wanted o (yielded ops a.tmps) = true) (s x : Operand)
    (ho : o.op = .call { callee := .builtin .append, args := #[s, x], argTypes := #[t, t] })
    (base : Nat) (v : Value) (n : Nat) (xs : List Value) (hs : a.eval s = v) (hown : w.ownsRow base e size v n xs) (us : Array Value) (hus : us.size = size) (h1 : ∀ u ∈ us.toList, u.oneCell' = true)
    (g0 : Nat) (hx : a.eval x = .slice (some ⟨g0, 0, none⟩) 1 1) (hg0 : g0 = w.heap.size)
    (hby : (n + 1) * bytes ≤ 140737488355328) (h63 : n + 1 ≤ maxLen) (hbase : base ≤ w.heap.size)
    (h : ∀ v' w', w'.ownsRow base e size v' (n + 1) (xs ++ us.toList) → Below base w w' → wpList P ops Q rest (a.put o.dst v') w') : wpList P ops Q (o :: rest) a (w.alloc (.cells us e)) := by
  subst hg0
  obtain ⟨i, hi, hz, hsz, hb⟩ := info_parts T.i
  have hbase' : base ≤ (w.alloc (.cells us e)).heap.size := by simp; omega
  obtain ⟨v', w', hrun, h2, h3, _, _⟩ := run_append_own_at (P := P) (w.alloc (.cells us e)) base t o.type e i z size bytes T.u hi hz hsz hb T.z T.pos v n xs (hown.alloc _) ⟨w.heap.size, 0, none⟩ 1 1 us.toList (by simp [hus])
    (fun j u hu => by rw [addr_add, Nat.zero_add, cell_of_row _ _ _ _ _ _ (heap_alloc_new _ _)]; simpa using hu) h1 h63 hby hbase'
  refine wpList_want hgd fun K hK => ?_
  unfold Oper.wp execOp
  simp only [ho, resolve, invoke, builtin, Sem.run_bind, Sem.run_pure, Result.andThen_ok, List.map_toArray, List.map_cons, List.map_nil, hs, hx, hrun]
  exact hK _ _ (h v' w' h2 (((Below.refl _ _).alloc hbase _).grown h3 hbase' (own_ge hown)))
theorem below_drewN {B : Nat} {a w : World} (h : Below B a w) (n : Nat) : Below B a (w.drewN n) := ⟨h.os, h.tape, h.output, h.size, h.block⟩
structure Pt where
  k : Int
  s : Int
  a : Int
  b : Int
  c : Int
  r : Int
  l : Int
structure Pt.ok (t : Pt) : Prop where
  k0 : 0 ≤ t.k
  k1 : t.k ≤ 255
  s0 : -9223372036854775808 ≤ t.s
  s1 : t.s ≤ 9223372036854775807
  a0 : -9223372036854775808 ≤ t.a
  a1 : t.a ≤ 9223372036854775807
  b0 : -9223372036854775808 ≤ t.b
  b1 : t.b ≤ 9223372036854775807
  c0 : -9223372036854775808 ≤ t.c
  c1 : t.c ≤ 9223372036854775807
  r0 : -9223372036854775808 ≤ t.r
  r1 : t.r ≤ 9223372036854775807
  l0 : -9223372036854775808 ≤ t.l
  l1 : t.l ≤ 9223372036854775807
def Pt.cells (t : Pt) : List Value := [.int .u8 t.k, .int .i64 t.s, .int .i64 t.a, .int .i64 t.b, .int .i64 t.c, .int .i64 t.r, .int .i64 t.l]
def Pt.agg (t : Pt) : Value := .agg #[.int .u8 t.k, .int .i64 t.s, .int .i64 t.a, .int .i64 t.b, .int .i64 t.c, .int .i64 t.r, .int .i64 t.l]
instance : Inhabited Pt := ⟨⟨0, 0, 0, 0, 0, 0, 0⟩⟩
theorem Pt.cells_one (t : Pt) : ∀ u ∈ t.cells, u.oneCell' = true := fun u hu => by
  simp only [Pt.cells, List.mem_cons, List.not_mem_nil, or_false] at hu
  rcases hu with rfl | rfl | rfl | rfl | rfl | rfl | rfl <;> rfl
def flat_pts (l : List Pt) : List Value := l.flatMap Pt.cells
theorem flat_pts_length : ∀ l : List Pt, (flat_pts l).length = l.length * 7
  | [] => rfl
  | t :: l => by
    have : flat_pts (t :: l) = t.cells ++ flat_pts l := rfl
    rw [this, List.length_append, flat_pts_length l, List.length_cons]
    show 7 + _ = _
    omega
theorem flat_pts_snoc (l : List Pt) (t : Pt) : flat_pts (l ++ [t]) = flat_pts l ++ t.cells := by simp [flat_pts]
theorem flat_pts_at : ∀ (l : List Pt) (k j : Nat) (t : Pt), l[k]? = some t → j < 7 → (flat_pts l)[k * 7 + j]? = t.cells[j]?
  | [], k, j, t, h, _ => by simp at h
  | u :: l, 0, j, t, h, hj => by
    have : flat_pts (u :: l) = u.cells ++ flat_pts l := rfl
    simp at h
    subst h
    rw [this, Nat.zero_mul, Nat.zero_add, List.getElem?_append_left (by show j < 7; omega)]
  | u :: l, k + 1, j, t, h, hj => by
    have : flat_pts (u :: l) = u.cells ++ flat_pts l := rfl
    rw [this, List.getElem?_append_right (by show 7 ≤ _; omega)]
    have e : (k + 1) * 7 + j - u.cells.length = k * 7 + j := by show (k + 1) * 7 + j - 7 = _; omega
    rw [e]
    exact flat_pts_at l k j t (by simpa using h) hj
/-- An element of a slice of these, cell by cell. -/
structure Pt.At (t : Pt) (w : World) (b p : Nat) : Prop where
  lt : b < w.heap.size
  c0 : w.cell? ⟨b, p, none⟩ = some (.int .u8 t.k)
  c1 : w.cell? ⟨b, p + 1, none⟩ = some (.int .i64 t.s)
  c2 : w.cell? ⟨b, p + 2, none⟩ = some (.int .i64 t.a)
  c3 : w.cell? ⟨b, p + 3, none⟩ = some (.int .i64 t.b)
  c4 : w.cell? ⟨b, p + 4, none⟩ = some (.int .i64 t.c)
  c5 : w.cell? ⟨b, p + 5, none⟩ = some (.int .i64 t.r)
  c6 : w.cell? ⟨b, p + 6, none⟩ = some (.int .i64 t.l)
theorem Pt.At.keep {t : Pt} {w w' : World} {b p : Nat} (h : t.At w b p) (hs : w.heap.size ≤ w'.heap.size) (hk : ∀ q : Addr, q.block = b → w'.cell? q = w.cell? q) : t.At w' b p :=
  ⟨Nat.lt_of_lt_of_le h.lt hs, (hk _ rfl).trans h.c0, (hk _ rfl).trans h.c1, (hk _ rfl).trans h.c2, (hk _ rfl).trans h.c3, (hk _ rfl).trans h.c4, (hk _ rfl).trans h.c5, (hk _ rfl).trans h.c6⟩
theorem pts_at {w : World} {A : Option Addr} {ts : List Pt} (h : Rd w A (flat_pts ts)) {k : Nat} (hk : k < ts.length) : ∃ t b o, ts[k]? = some t ∧ A = some ⟨b, o, none⟩ ∧ t.At w b (o + k * 7) := by
  obtain ⟨t, ht⟩ : ∃ t, ts[k]? = some t := ⟨_, List.getElem?_eq_getElem hk⟩
  obtain ⟨b, o, hA, hlt, hc⟩ := h (by rw [flat_pts_length]; omega)
  refine ⟨t, b, o, ht, hA, hlt, ?_, ?_, ?_, ?_, ?_, ?_, ?_⟩
  · have := hc (k * 7 + 0) _ ((flat_pts_at ts k 0 t ht (by omega)).trans rfl)
    rwa [← Nat.add_assoc] at this
  · have := hc (k * 7 + 1) _ ((flat_pts_at ts k 1 t ht (by omega)).trans rfl)
    rwa [← Nat.add_assoc] at this
  · have := hc (k * 7 + 2) _ ((flat_pts_at ts k 2 t ht (by omega)).trans rfl)
    rwa [← Nat.add_assoc] at this
  · have := hc (k * 7 + 3) _ ((flat_pts_at ts k 3 t ht (by omega)).trans rfl)
    rwa [← Nat.add_assoc] at this
  · have := hc (k * 7 + 4) _ ((flat_pts_at ts k 4 t ht (by omega)).trans rfl)
    rwa [← Nat.add_assoc] at this
  · have := hc (k * 7 + 5) _ ((flat_pts_at ts k 5 t ht (by omega)).trans rfl)
    rwa [← Nat.add_assoc] at this
  · have := hc (k * 7 + 6) _ ((flat_pts_at ts k 6 t ht (by omega)).trans rfl)
    rwa [← Nat.add_assoc] at this
theorem cellsOf_pts : Try.prog.cellsOf 25 = 7 := by kernel_rfl
set_option maxRecDepth 100000 in
theorem open_pts {H : Type} {enc : TypeId × Value → H} {base : Nat} {d : DataW H} {ps : List MemPlace} {v : Value} {w : World} (hv : Value.okWide Try.prog w .any base 30 v) (hk : DataW.Trod enc Try.prog w 0 (fun _ => true) true 30 v d ps) :
    ∃ ts A c, v = .slice A (ts : List Pt).length c ∧ (∀ t ∈ ts, t.ok) ∧ Rd w A (flat_pts ts) ∧ ts.length ≤ c ∧ c ≤ maxLen := by
  obtain ⟨a, len, cap, rfl⟩ := okWide_slice Try.underlying30 hv
  obtain ⟨fuel, hf⟩ := hk
  rcases open_slice Try.underlying30 hf with ⟨hcs, _⟩ | ⟨x, l, c, m, n, D, Pl, hcs, _, hl, hm, hmm, _, hel⟩
  · simp [Value.cells] at hcs
    obtain ⟨rfl, rfl, rfl⟩ := hcs
    exact ⟨[], none, 0, rfl, (by intro t ht; cases ht), Rd.nil _ _, Nat.le_refl _, by simp [maxLen]⟩
  · simp [Value.cells] at hcs
    obtain ⟨rfl, rfl, rfl⟩ := hcs
    have hlm : len ≤ m := by simp at hmm; omega
    have hth : ∀ i, i < len → ∃ t : Pt, t.ok ∧ ∀ j, j < 7 → w.cell? (x.add (i * 7 + j)) = t.cells[j]? := by
      intro i hi
      obtain ⟨cs, h1, h2⟩ := hel i (by omega)
      have hfld := open_elem Try.underlying25 (by kernel_rfl) (by kernel_rfl) h1 h2
      obtain ⟨v0, m0, y0, c0, t0⟩ := hfld 0 _ rfl
      obtain ⟨v1, m1, y1, c1, t1⟩ := hfld 1 _ rfl
      obtain ⟨v2, m2, y2, c2, t2⟩ := hfld 2 _ rfl
      obtain ⟨v3, m3, y3, c3, t3⟩ := hfld 3 _ rfl
      obtain ⟨v4, m4, y4, c4, t4⟩ := hfld 4 _ rfl
      obtain ⟨v5, m5, y5, c5, t5⟩ := hfld 5 _ rfl
      obtain ⟨v6, m6, y6, c6, t6⟩ := hfld 6 _ rfl
      obtain ⟨n0, e0, _, wf0⟩ := DataW.trod_int Try.underlying22 t0
      obtain ⟨n1, e1, _, wf1⟩ := DataW.trod_int Try.underlying3 t1
      obtain ⟨n2, e2, _, wf2⟩ := DataW.trod_int Try.underlying3 t2
      obtain ⟨n3, e3, _, wf3⟩ := DataW.trod_int Try.underlying3 t3
      obtain ⟨n4, e4, _, wf4⟩ := DataW.trod_int Try.underlying3 t4
      obtain ⟨n5, e5, _, wf5⟩ := DataW.trod_int Try.underlying3 t5
      obtain ⟨n6, e6, _, wf6⟩ := DataW.trod_int Try.underlying3 t6
      simp at e0 e1 e2 e3 e4 e5 e6
      subst e0 e1 e2 e3 e4 e5 e6
      rw [cellsOf_pts] at c0 c1 c2 c3 c4 c5 c6
      rw [Go.Deep.add_add] at c0 c1 c2 c3 c4 c5 c6
      refine ⟨⟨n0, n1, n2, n3, n4, n5, n6⟩, ⟨(wf_u8 wf0).1, (wf_u8 wf0).2, (wf_i64 wf1).1, (wf_i64 wf1).2, (wf_i64 wf2).1, (wf_i64 wf2).2, (wf_i64 wf3).1, (wf_i64 wf3).2, (wf_i64 wf4).1, (wf_i64 wf4).2, (wf_i64 wf5).1, (wf_i64 wf5).2, (wf_i64 wf6).1, (wf_i64 wf6).2⟩, fun j hj => ?_⟩
      rcases (show j = 0 ∨ j = 1 ∨ j = 2 ∨ j = 3 ∨ j = 4 ∨ j = 5 ∨ j = 6 from by omega) with rfl | rfl | rfl | rfl | rfl | rfl | rfl
      · exact c0
      · exact c1
      · exact c2
      · exact c3
      · exact c4
      · exact c5
      · exact c6
    obtain ⟨f, hf⟩ := choose_lt hth
    refine ⟨(List.range len).map f, some x, cap, by simp, fun t ht => ?_, fun hn => ?_, by simpa using hl, hm⟩
    · obtain ⟨i, hi, rfl⟩ := List.mem_map.1 ht
      exact (hf i (List.mem_range.1 hi)).1
    · rw [flat_pts_length] at hn
      simp at hn
      have h0 := (hf 0 (by omega)).2 0 (by omega)
      obtain ⟨b, off, spot⟩ := x
      have h0' : w.cell? (Addr.add ⟨b, off, spot⟩ 0) = some (.int .u8 (f 0).k) := h0
      have hspot : spot = none := by simpa [Addr.add] using World.cell?_spot h0'
      subst hspot
      refine ⟨b, off, rfl, block_lt_of_cell h0', fun q u hu => ?_⟩
      have hq : q < len * 7 := by
        have := (List.getElem?_eq_some_iff.1 hu).1
        rw [flat_pts_length] at this
        simpa using this
      have hqi : q / 7 < len := by omega
      have hat := (hf (q / 7) hqi).2 (q % 7) (by omega)
      have hfl := flat_pts_at ((List.range len).map f) (q / 7) (q % 7) (f (q / 7)) (by rw [List.getElem?_map, List.getElem?_range hqi]; rfl) (by omega)
      rw [show q / 7 * 7 + q % 7 = q by omega] at hat hfl
      rw [addr_add] at hat
      rw [hat, ← hfl, hu]
end Go.Proofs.Ytnohfeaamfjimaa
