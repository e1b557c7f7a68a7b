/- Which fields a part's kind has: the walk. No condition. -/
import Derived.Test.YtaiekpdoljleeaaMoRi
import Derived.Test.YtaiekpdoljleeaaMoBx
import Derived.BigRegion
namespace Go.Proofs.Ytaiekpdoljleeaa
open Go.RowKit Go.WideShapes
set_option linter.unusedVariables false
set_option linter.unusedSimpArgs false
/-- A field as cells: where it lies in the part's box g, whether it has two bytes, what is added to it. -/
def fdC (g j : Nat) : List Value := [.pointer (some ⟨g, j, none⟩), .bool (wide j), .int .i64 (moreF j)]
def flatF (g : Nat) (l : List Nat) : List Value := l.flatMap (fdC g)
structure IsFds (k : Int) (g : Nat) (w0 : World) (e : Ending) (w : World) : Prop where
  ex : ∃ A, e = .returned (.tuple #[.slice A (fdsK k).length (fdsK k).length, .bool (okK k)]) ∧ (okK k = true → ∃ gb, A = some ⟨gb, 0, none⟩ ∧ Blk w gb 89 (flatF g (fdsK k)).toArray)
  low : Below w0.heap.size w0 w
def z89 : Array Value := #[.pointer none, .bool false, .int .i64 0]
def val89 (g j : Nat) : Array Value := #[.pointer (some ⟨g, j + 1, none⟩), .bool (wide (j + 1)), .int .i64 (moreF (j + 1))]
theorem zero89 : (Try.prog.info? 89).map (fun i => (i.zero, i.size)) = some (some (.agg z89), z89.size) := by kernel_rfl
def fill6 (a : Act) (s : Nat → Value) : Act := { a with tmps := (((((a.tmps.setIfInBounds 4 (s 0)).setIfInBounds 5 (s 1)).setIfInBounds 6 (s 2)).setIfInBounds 7 (s 3)).setIfInBounds 8 (s 4)).setIfInBounds 9 (s 5) }
theorem six_cases {j : Nat} (h : j < 6) : j = 0 ∨ j = 1 ∨ j = 2 ∨ j = 3 ∨ j = 4 ∨ j = 5 := by omega
def vs6 (j : Nat) : Nat := 13 + 4 * j
theorem fill6_at (a : Act) (s : Nat → Value) (h : 9 < a.tmps.size) (i : Nat) : (fill6 a s).tmps[i]? = if 4 ≤ i ∧ i < 10 then some (s (i - 4)) else a.tmps[i]? := by
  simp only [fill6, Array.getElem?_setIfInBounds, Array.size_setIfInBounds]
  by_cases h9 : i = 9
  · subst h9; simp [h]
  by_cases h8 : i = 8
  · subst h8; simp; omega
  by_cases h7 : i = 7
  · subst h7; simp; omega
  by_cases h6 : i = 6
  · subst h6; simp; omega
  by_cases h5 : i = 5
  · subst h5; simp; omega
  by_cases h4 : i = 4
  · subst h4; simp; omega
  rw [if_neg (by omega), if_neg (by omega), if_neg (by omega), if_neg (by omega), if_neg (by omega), if_neg (by omega), if_neg (by omega)]
theorem fill6_size (a : Act) (s : Nat → Value) : (fill6 a s).tmps.size = a.tmps.size := by simp [fill6]
theorem act_ext {a b : Act} (h : ∀ i : Nat, a.tmps[i]? = b.tmps[i]?) (hd : a.defers = b.defers) : a = b := by
  obtain ⟨ta, da⟩ := a
  obtain ⟨tb, db⟩ := b
  simp only at h hd
  subst hd
  rw [Array.ext_getElem? h]
theorem fill6_self (a : Act) (h : 9 < a.tmps.size) : fill6 a (fun j => a.tmps.getD (4 + j) undef) = a := by
  refine act_ext (fun i => ?_) (by simp only [fill6])
  rw [fill6_at a _ h]
  split
  · rename_i hi
    rw [show 4 + (i - 4) = i by omega, Array.getD_eq_getD_getElem?, Array.getElem?_eq_getElem (by omega)]
    rfl
  · rfl
theorem fill6_put (a : Act) (s : Nat → Value) (h : 9 < a.tmps.size) (j : Nat) (v : Value) (hj : j < 6) : (fill6 a s).put (some (4 + j)) v = fill6 a (fun i => if i = j then v else s i) := by
  refine act_ext (fun i => ?_) (by simp only [fill6, Act.put])
  rw [fill6_at a _ h]
  simp only [Act.put, Array.getElem?_setIfInBounds, fill6_size, fill6_at a _ h]
  by_cases e : 4 + j = i
  · subst e
    rw [if_pos rfl, if_pos (by omega), if_pos (by omega), if_pos (by omega)]
  · rw [if_neg e]
    split
    · rw [if_neg (by omega)]
    · rfl
theorem fill6_get (a : Act) (s : Nat → Value) (h : 9 < a.tmps.size) (j : Nat) (hj : j < 6) : (fill6 a s).eval (.tmp (4 + j)) = s j := by
  have := fill6_at a s h (4 + j)
  rw [if_pos (by omega), show 4 + j - 4 = j by omega] at this
  simp [Act.eval, Array.getD_eq_getD_getElem?, this]
theorem fill6_val (a : Act) (s : Nat → Value) (h : 9 < a.tmps.size) (j : Nat) : (fill6 a s).eval (.tmp (vs6 j)) = a.eval (.tmp (vs6 j)) := by
  have := fill6_at a s h (vs6 j)
  rw [if_neg (by unfold vs6; omega)] at this
  simp [Act.eval, Array.getD_eq_getD_getElem?, this]
theorem all_lt {l : Array Bool} {n : Nat} (h : ((List.range n).all fun i => l.getD i true) = true) : ∀ i, i < n → l.getD i true = true := fun i hi => List.all_eq_true.1 h i (List.mem_range.2 hi)
theorem low_of {md : Region.Mode} {ops : Array Oper} (h : ((List.range ops.size).all fun i => (ops[i]?).elim true fun o => o.after.all fun e => !Region.binds md e || decide (e.on < i)) = true) : ∀ i o, ops[i]? = some o → ∀ e ∈ o.after, Region.binds md e = true → e.on < i := fun i o ho e he hb => by
  have h1 := List.all_eq_true.1 h i (List.mem_range.2 (Array.getElem?_eq_some_iff.1 ho).1)
  rw [ho] at h1
  have h2 := Array.all_eq_true_iff_forall_mem.1 h1 e he
  rw [hb] at h2
  simpa using h2
theorem six_go {P : Program} {ops : Array Oper} {Q : Exit → Act → World → Prop} {md : Region.Mode} {t : TypeId} {z : Array Value} {vals : Nat → Array Value} {w0 w : World} {fuel : Nat} {l : Array Bool} {a : Act} (h9' : Nat.ble 10 a.tmps.size = true) (hs : ops.size = 36)
    (low : ∀ i o, ops[i]? = some o → ∀ e ∈ o.after, Region.binds md e = true → e.on < i)
    (make : ∀ j, j < 6 → ∃ o, ops[24 + j]? = some o ∧ o.op = .alloc t ∧ o.dst = some (4 + j) ∧ o.guard = none)
    (fill : ∀ j, j < 6 → ∃ o, ops[30 + j]? = some o ∧ o.op = .store t (.tmp (4 + j)) (.tmp (vs6 j)) ∧ o.dst = none ∧ o.guard = none ∧ ∃ e ∈ o.after, e.on = 24 + j ∧ Region.binds md e = true)
    (zero : (P.info? t).map (fun i => (i.zero, i.size)) = some (some (.agg z), z.size)) (len : ∀ j, j < 6 → (vals j).size = z.size ∧ (vals j).all (·.oneCell') = true)
    (hv : ∀ j, j < 6 → a.eval (.tmp (vs6 j)) = .agg (vals j))
    (hl : l.size = ops.size) (hc' : Nat.ble (cnt l ops.size) fuel = true) (hun : ∀ j, j < 6 → l.getD (24 + j) true = false ∧ l.getD (30 + j) true = false) (hbef : ∀ i, i < 24 → l.getD i true = true) (hb : Below w0.heap.size w0 w)
    (hend : ∀ s w', (∀ j, j < 6 → ∃ g, s j = .pointer (some ⟨g, 0, none⟩) ∧ w0.heap.size ≤ g ∧ Blk w' g t (vals j)) → Below w0.heap.size w0 w' → Q .normal (fill6 a s) w') :
    wpAnyH P md ops Q (fun _ => True) fuel l a w := by
  have h9 : 9 < a.tmps.size := Nat.le_of_ble_eq_true h9'
  have hc := Nat.le_of_ble_eq_true hc'
  have H : Six P md ops t z vals (fill6 a) 6 24 30 4 vs6 := ⟨by omega, rfl, low, make, fill, fun s j v hj => fill6_put a s h9 j v hj, fun s j hj => fill6_get a s h9 j hj, fun s j hj => (fill6_val a s h9 j).trans (hv j hj), zero, len⟩
  rw [← fill6_self a h9]
  exact six_all H hend fuel l _ w hl hc ⟨fun j hj h => absurd h (by rw [(hun j hj).1]; decide), fun i j g hi hj h => absurd h (by rw [(hun i hi).1]; decide), hbef, fun j hj _ => (hun j hj).2, hb⟩
set_option maxRecDepth 100000 in
set_option maxHeartbeats 8000000 in
theorem fields56 (k : Int) (g : Nat) (w : World) (h : w.cell? ⟨g, 0, none⟩ = some (.int .u8 k)) (hg : g < w.heap.size) : Calls Try.prog 56 #[.pointer (some ⟨g, 0, none⟩)] w (IsFds k g w) := by
  go_enter Try.func56, Try.ntmps56
  go_wp2_with fail
  refine wp_region_held_drew (S := fun _ => True) (by kernel_rfl) trivial (fun hHeld => ?_)
  try simp only [List.replicate_toArray]
  refine wpAnyH_takeD (i := 0) (d := 10) (oi := _) (v := ?_) rfl rfl (by kernel_rfl) (by kernel_rfl) (by kernel_rfl) (fun _ _ _ h => h) (Or.inl ⟨by rfl, ?_⟩) trivial ?_
  rotate_left
  · (intro w hSw; go_simp) <;> with_reducible rfl
  simp only [Act.put, List.setIfInBounds_toArray, List.set_cons_zero, List.set_cons_succ]
  refine wpAnyH_takeD (i := 1) (d := 11) (oi := _) (v := ?_) rfl rfl (by kernel_rfl) (by kernel_rfl) (by kernel_rfl) (fun _ _ _ h => h) (Or.inl ⟨by rfl, ?_⟩) trivial ?_
  rotate_left
  · (intro w hSw; go_simp) <;> with_reducible rfl
  simp only [Act.put, List.setIfInBounds_toArray, List.set_cons_zero, List.set_cons_succ]
  refine wpAnyH_takeD (i := 2) (d := 12) (oi := _) (v := ?_) rfl rfl (by kernel_rfl) (by kernel_rfl) (by kernel_rfl) (fun _ _ _ h => h) (Or.inl ⟨by rfl, ?_⟩) trivial ?_
  rotate_left
  · (intro w hSw; go_simp) <;> with_reducible rfl
  simp only [Act.put, List.setIfInBounds_toArray, List.set_cons_zero, List.set_cons_succ]
  refine wpAnyH_takeD (i := 3) (d := 13) (oi := _) (v := ?_) rfl rfl (by kernel_rfl) (by kernel_rfl) (by kernel_rfl) (fun _ _ _ h => h) (Or.inl ⟨by rfl, ?_⟩) trivial ?_
  rotate_left
  · (intro w hSw; go_simp) <;> with_reducible rfl
  simp only [Act.put, List.setIfInBounds_toArray, List.set_cons_zero, List.set_cons_succ]
  refine wpAnyH_takeD (i := 4) (d := 14) (oi := _) (v := ?_) rfl rfl (by kernel_rfl) (by kernel_rfl) (by kernel_rfl) (fun _ _ _ h => h) (Or.inl ⟨by rfl, ?_⟩) trivial ?_
  rotate_left
  · (intro w hSw; go_simp) <;> with_reducible rfl
  simp only [Act.put, List.setIfInBounds_toArray, List.set_cons_zero, List.set_cons_succ]
  refine wpAnyH_takeD (i := 5) (d := 15) (oi := _) (v := ?_) rfl rfl (by kernel_rfl) (by kernel_rfl) (by kernel_rfl) (fun _ _ _ h => h) (Or.inl ⟨by rfl, ?_⟩) trivial ?_
  rotate_left
  · (intro w hSw; go_simp) <;> with_reducible rfl
  simp only [Act.put, List.setIfInBounds_toArray, List.set_cons_zero, List.set_cons_succ]
  refine wpAnyH_takeD (i := 6) (d := 16) (oi := _) (v := ?_) rfl rfl (by kernel_rfl) (by kernel_rfl) (by kernel_rfl) (fun _ _ _ h => h) (Or.inl ⟨by rfl, ?_⟩) trivial ?_
  rotate_left
  · (intro w hSw; go_simp) <;> with_reducible rfl
  simp only [Act.put, List.setIfInBounds_toArray, List.set_cons_zero, List.set_cons_succ]
  refine wpAnyH_takeD (i := 7) (d := 17) (oi := _) (v := ?_) rfl rfl (by kernel_rfl) (by kernel_rfl) (by kernel_rfl) (fun _ _ _ h => h) (Or.inl ⟨by rfl, ?_⟩) trivial ?_
  rotate_left
  · (intro w hSw; go_simp) <;> with_reducible rfl
  simp only [Act.put, List.setIfInBounds_toArray, List.set_cons_zero, List.set_cons_succ]
  refine wpAnyH_takeD (i := 8) (d := 18) (oi := _) (v := ?_) rfl rfl (by kernel_rfl) (by kernel_rfl) (by kernel_rfl) (fun _ _ _ h => h) (Or.inl ⟨by rfl, ?_⟩) trivial ?_
  rotate_left
  · (intro w hSw; go_simp) <;> with_reducible rfl
  simp only [Act.put, List.setIfInBounds_toArray, List.set_cons_zero, List.set_cons_succ]
  refine wpAnyH_takeD (i := 9) (d := 19) (oi := _) (v := ?_) rfl rfl (by kernel_rfl) (by kernel_rfl) (by kernel_rfl) (fun _ _ _ h => h) (Or.inl ⟨by rfl, ?_⟩) trivial ?_
  rotate_left
  · (intro w hSw; go_simp) <;> with_reducible rfl
  simp only [Act.put, List.setIfInBounds_toArray, List.set_cons_zero, List.set_cons_succ]
  refine wpAnyH_takeD (i := 10) (d := 20) (oi := _) (v := ?_) rfl rfl (by kernel_rfl) (by kernel_rfl) (by kernel_rfl) (fun _ _ _ h => h) (Or.inl ⟨by rfl, ?_⟩) trivial ?_
  rotate_left
  · (intro w hSw; go_simp) <;> with_reducible rfl
  simp only [Act.put, List.setIfInBounds_toArray, List.set_cons_zero, List.set_cons_succ]
  refine wpAnyH_takeD (i := 11) (d := 21) (oi := _) (v := ?_) rfl rfl (by kernel_rfl) (by kernel_rfl) (by kernel_rfl) (fun _ _ _ h => h) (Or.inl ⟨by rfl, ?_⟩) trivial ?_
  rotate_left
  · (intro w hSw; go_simp) <;> with_reducible rfl
  simp only [Act.put, List.setIfInBounds_toArray, List.set_cons_zero, List.set_cons_succ]
  refine wpAnyH_takeD (i := 12) (d := 22) (oi := _) (v := ?_) rfl rfl (by kernel_rfl) (by kernel_rfl) (by kernel_rfl) (fun _ _ _ h => h) (Or.inl ⟨by rfl, ?_⟩) trivial ?_
  rotate_left
  · (intro w hSw; go_simp) <;> with_reducible rfl
  simp only [Act.put, List.setIfInBounds_toArray, List.set_cons_zero, List.set_cons_succ]
  refine wpAnyH_takeD (i := 13) (d := 23) (oi := _) (v := ?_) rfl rfl (by kernel_rfl) (by kernel_rfl) (by kernel_rfl) (fun _ _ _ h => h) (Or.inl ⟨by rfl, ?_⟩) trivial ?_
  rotate_left
  · (intro w hSw; go_simp) <;> with_reducible rfl
  simp only [Act.put, List.setIfInBounds_toArray, List.set_cons_zero, List.set_cons_succ]
  refine wpAnyH_takeD (i := 14) (d := 24) (oi := _) (v := ?_) rfl rfl (by kernel_rfl) (by kernel_rfl) (by kernel_rfl) (fun _ _ _ h => h) (Or.inl ⟨by rfl, ?_⟩) trivial ?_
  rotate_left
  · (intro w hSw; go_simp) <;> with_reducible rfl
  simp only [Act.put, List.setIfInBounds_toArray, List.set_cons_zero, List.set_cons_succ]
  refine wpAnyH_takeD (i := 15) (d := 25) (oi := _) (v := ?_) rfl rfl (by kernel_rfl) (by kernel_rfl) (by kernel_rfl) (fun _ _ _ h => h) (Or.inl ⟨by rfl, ?_⟩) trivial ?_
  rotate_left
  · (intro w hSw; go_simp) <;> with_reducible rfl
  simp only [Act.put, List.setIfInBounds_toArray, List.set_cons_zero, List.set_cons_succ]
  refine wpAnyH_takeD (i := 16) (d := 26) (oi := _) (v := ?_) rfl rfl (by kernel_rfl) (by kernel_rfl) (by kernel_rfl) (fun _ _ _ h => h) (Or.inl ⟨by rfl, ?_⟩) trivial ?_
  rotate_left
  · (intro w hSw; go_simp) <;> with_reducible rfl
  simp only [Act.put, List.setIfInBounds_toArray, List.set_cons_zero, List.set_cons_succ]
  refine wpAnyH_takeD (i := 17) (d := 27) (oi := _) (v := ?_) rfl rfl (by kernel_rfl) (by kernel_rfl) (by kernel_rfl) (fun _ _ _ h => h) (Or.inl ⟨by rfl, ?_⟩) trivial ?_
  rotate_left
  · (intro w hSw; go_simp) <;> with_reducible rfl
  simp only [Act.put, List.setIfInBounds_toArray, List.set_cons_zero, List.set_cons_succ]
  refine wpAnyH_takeD (i := 18) (d := 28) (oi := _) (v := ?_) rfl rfl (by kernel_rfl) (by kernel_rfl) (by kernel_rfl) (fun _ _ _ h => h) (Or.inl ⟨by rfl, ?_⟩) trivial ?_
  rotate_left
  · (intro w hSw; go_simp) <;> with_reducible rfl
  simp only [Act.put, List.setIfInBounds_toArray, List.set_cons_zero, List.set_cons_succ]
  refine wpAnyH_takeD (i := 19) (d := 29) (oi := _) (v := ?_) rfl rfl (by kernel_rfl) (by kernel_rfl) (by kernel_rfl) (fun _ _ _ h => h) (Or.inl ⟨by rfl, ?_⟩) trivial ?_
  rotate_left
  · (intro w hSw; go_simp) <;> with_reducible rfl
  simp only [Act.put, List.setIfInBounds_toArray, List.set_cons_zero, List.set_cons_succ]
  refine wpAnyH_takeD (i := 20) (d := 30) (oi := _) (v := ?_) rfl rfl (by kernel_rfl) (by kernel_rfl) (by kernel_rfl) (fun _ _ _ h => h) (Or.inl ⟨by rfl, ?_⟩) trivial ?_
  rotate_left
  · (intro w hSw; go_simp) <;> with_reducible rfl
  simp only [Act.put, List.setIfInBounds_toArray, List.set_cons_zero, List.set_cons_succ]
  refine wpAnyH_takeD (i := 21) (d := 31) (oi := _) (v := ?_) rfl rfl (by kernel_rfl) (by kernel_rfl) (by kernel_rfl) (fun _ _ _ h => h) (Or.inl ⟨by rfl, ?_⟩) trivial ?_
  rotate_left
  · (intro w hSw; go_simp) <;> with_reducible rfl
  simp only [Act.put, List.setIfInBounds_toArray, List.set_cons_zero, List.set_cons_succ]
  refine wpAnyH_takeD (i := 22) (d := 32) (oi := _) (v := ?_) rfl rfl (by kernel_rfl) (by kernel_rfl) (by kernel_rfl) (fun _ _ _ h => h) (Or.inl ⟨by rfl, ?_⟩) trivial ?_
  rotate_left
  · (intro w hSw; go_simp) <;> with_reducible rfl
  simp only [Act.put, List.setIfInBounds_toArray, List.set_cons_zero, List.set_cons_succ]
  refine wpAnyH_takeD (i := 23) (d := 33) (oi := _) (v := ?_) rfl rfl (by kernel_rfl) (by kernel_rfl) (by kernel_rfl) (fun _ _ _ h => h) (Or.inl ⟨by rfl, ?_⟩) trivial ?_
  rotate_left
  · (intro w hSw; go_simp) <;> with_reducible rfl
  simp only [Act.put, List.setIfInBounds_toArray, List.set_cons_zero, List.set_cons_succ]
  refine six_go (w0 := w) (t := 89) (z := z89) (vals := val89 g) (by kernel_rfl) rfl ?low ?make ?fill zero89 ?len ?hv rfl (by kernel_rfl) ?hun ?hbef (Below.drew' (Below.refl _ _)) ?hend
  case make => intro j hj; rcases six_cases hj with rfl | rfl | rfl | rfl | rfl | rfl <;> exact ⟨_, rfl, rfl, rfl, rfl⟩
  case fill =>
    intro j hj
    rcases six_cases hj with rfl | rfl | rfl | rfl | rfl | rfl <;> exact ⟨_, rfl, rfl, rfl, rfl, _, Array.mem_of_getElem? (i := 0) rfl, rfl, rfl⟩
  case len => intro j hj; rcases six_cases hj with rfl | rfl | rfl | rfl | rfl | rfl <;> exact ⟨rfl, by kernel_rfl⟩
  case hv => intro j hj; rcases six_cases hj with rfl | rfl | rfl | rfl | rfl | rfl <;> rfl
  case hun => intro j hj; rcases six_cases hj with rfl | rfl | rfl | rfl | rfl | rfl <;> exact ⟨rfl, rfl⟩
  case hbef => intro i hi; exact all_lt (by kernel_rfl) i hi
  case low => exact low_of (by kernel_rfl)
  case hend =>
    intro s w' hbx hb
    obtain ⟨g0, s0, l0, b0⟩ := hbx 0 (by omega)
    obtain ⟨g1, s1, l1, b1⟩ := hbx 1 (by omega)
    obtain ⟨g2, s2, l2, b2⟩ := hbx 2 (by omega)
    obtain ⟨g3, s3, l3, b3⟩ := hbx 3 (by omega)
    obtain ⟨g4, s4, l4, b4⟩ := hbx 4 (by omega)
    obtain ⟨g5, s5, l5, b5⟩ := hbx 5 (by omega)
    have hk := (hb.cell (p := ⟨g, 0, none⟩) hg).trans h
    unfold fill6
    simp only [s0, s1, s2, s3, s4, s5, List.setIfInBounds_toArray, List.set_cons_zero, List.set_cons_succ]
    unfold val89 at b0 b1 b2 b3 b4 b5
    clear hbx s0 s1 s2 s3 s4 s5 h
    clear s
    have c00 := b0.cell 0
    have c01 := b0.cell 1
    have c02 := b0.cell 2
    have c10 := b1.cell 0
    have c11 := b1.cell 1
    have c12 := b1.cell 2
    have c20 := b2.cell 0
    have c21 := b2.cell 1
    have c22 := b2.cell 2
    have c30 := b3.cell 0
    have c31 := b3.cell 1
    have c32 := b3.cell 2
    have c40 := b4.cell 0
    have c41 := b4.cell 1
    have c42 := b4.cell 2
    have c50 := b5.cell 0
    have c51 := b5.cell 1
    have c52 := b5.cell 2
    simp [wide, moreF] at c00 c01 c02 c10 c11 c12 c20 c21 c22 c30 c31 c32 c40 c41 c42 c50 c51 c52
    clear b0 b1 b2 b3 b4 b5 l0 l1 l2 l3 l4 l5
    have HB := Lib.hid hb
    clear hb
    rcases kind_cases k with rfl | rfl | rfl | rfl | rfl | rfl | rfl | rfl | rfl | hx
    · go_wp2_with fail
      go_ret2
      exact ⟨⟨_, rfl, fun _ => ⟨_, rfl, Blk.new _ _ _⟩⟩, HB.out.alloc HB.out.size _⟩
    · go_wp2_with fail
      go_ret2
      exact ⟨⟨_, rfl, fun _ => ⟨_, rfl, Blk.new _ _ _⟩⟩, HB.out.alloc HB.out.size _⟩
    · go_wp2_with fail
      go_ret2
      exact ⟨⟨_, rfl, fun _ => ⟨_, rfl, Blk.new _ _ _⟩⟩, HB.out.alloc HB.out.size _⟩
    · go_wp2_with fail
      go_ret2
      exact ⟨⟨_, rfl, fun _ => ⟨_, rfl, Blk.new _ _ _⟩⟩, HB.out.alloc HB.out.size _⟩
    · go_wp2_with fail
      go_ret2
      exact ⟨⟨_, rfl, fun _ => ⟨_, rfl, Blk.new _ _ _⟩⟩, HB.out.alloc HB.out.size _⟩
    · go_wp2_with fail
      go_ret2
      exact ⟨⟨_, rfl, fun _ => ⟨_, rfl, Blk.new _ _ _⟩⟩, HB.out.alloc HB.out.size _⟩
    · go_wp2_with fail
      go_ret2
      exact ⟨⟨_, rfl, fun _ => ⟨_, rfl, Blk.new _ _ _⟩⟩, HB.out.alloc HB.out.size _⟩
    · go_wp2_with fail
      go_ret2
      exact ⟨⟨_, rfl, fun _ => ⟨_, rfl, Blk.new _ _ _⟩⟩, HB.out.alloc HB.out.size _⟩
    · go_wp2_with fail
      go_ret2
      exact ⟨⟨_, rfl, fun _ => ⟨_, rfl, Blk.new _ _ _⟩⟩, HB.out.alloc HB.out.size _⟩
    · have e : fdsK k = [] := by
        have hz : hasK k = fun _ => false := funext fun j => by unfold hasK; (repeat rw [if_neg (by omega)])
        unfold fdsK
        rw [hz]
        rfl
      have e2 : okK k = false := by unfold okK; rcases hx with h | h <;> simp <;> omega
      have E := Lib.hid e
      have E2 := Lib.hid e2
      clear e e2
      have g1 : (k == 1) = false := by simp; omega
      have g2 : (k == 2) = false := by simp; omega
      have g3 : (k == 3) = false := by simp; omega
      have g4 : (k == 4) = false := by simp; omega
      have g5 : (k == 5) = false := by simp; omega
      have g6 : (k == 6) = false := by simp; omega
      have g7 : (k == 7) = false := by simp; omega
      have g8 : (k == 8) = false := by simp; omega
      have g9 : (k == 9) = false := by simp; omega
      clear hx
      go_wp2_with fail
      go_ret2
      exact ⟨⟨none, by rw [E.out, E2.out]; rfl, fun h => absurd (E2.out.symm.trans h) (by decide)⟩, HB.out⟩
end Go.Proofs.Ytaiekpdoljleeaa
