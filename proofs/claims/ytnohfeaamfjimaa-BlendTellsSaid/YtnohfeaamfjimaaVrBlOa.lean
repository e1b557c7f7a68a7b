/- A list of acts, a list of parts, opened, with what their sizes are. Plain. -/
import Derived.Test.YtnohfeaamfjimaaVrBlGr
import Derived.Deep.Grids
import Derived.ChangeArms
import Derived.SizedLaws
namespace Go.Proofs.Ytnohfeaamfjimaa
open Go.RowKit Go.WideShapes Go.ChangeShapes Go.Deep
set_option linter.unusedVariables false
set_option linter.unusedSimpArgs false
set_option maxRecDepth 100000
section
variable {H : Type} {enc : TypeId × Value → H} {w : World}
theorem weights_mem_all {P : Program} {e : TypeId} : ∀ {ds : List (DataW H)} {j : Nat} {d : DataW H}, ds[j]? = some d → ∀ n ∈ d.weights P e, n ∈ DataW.weightsAll P e ds
  | [], j, d, h, n, hn => by simp at h
  | x :: r, 0, d, h, n, hn => by
    simp at h
    subst h
    unfold DataW.weightsAll
    exact List.mem_append_left _ hn
  | x :: r, j + 1, d, h, n, hn => by
    unfold DataW.weightsAll
    exact List.mem_append_right _ (weights_mem_all (by simpa using h) n hn)
theorem sized_w {ts : List TypeId} {ds : List (DataW H)} {d : DataW H} {t : TypeId} {j : Nat} (hsz : (DataW.weightsEach Try.prog ts ds).all (· ≤ reachBytes) = true) (ht : ts[j]? = some t) (hd : ds[j]? = some d) : (d.weights Try.prog t).all (· ≤ reachBytes) = true := by
  rw [List.all_eq_true] at hsz ⊢
  intro q hq
  exact hsz q (DataW.weights_mem_each ht hd q hq)
/-- A slice of whatever elements, opened. -/
theorem open_list {α : Type} [Inhabited α] {t e : TypeId} (cells : α → List Value) (good : α → Prop) (size bytes : Nat) (hl : ∀ o, (cells o).length = size) (hs : 0 < size) (ht : Try.prog.underlying t = some (.slice e)) (hc : Try.prog.cellsOf e = size) (hby : Try.prog.bytesOf e = bytes)
    (hp : ∀ {fuel : Nat} {cs : List Value} {x : DataW H × List MemPlace}, DataW.trod enc Try.prog w 0 (fun _ => true) true fuel e cs = some x → (x.1.weights Try.prog e).all (· ≤ reachBytes) = true → ∃ o, good o ∧ cs = cells o)
    {fuel : Nat} {a : Option Addr} {len cap : Nat} {y : DataW H × List MemPlace} (hf : DataW.trod enc Try.prog w 0 (fun _ => true) true fuel t [.slice a len cap] = some y) (hw : (y.1.weights Try.prog t).all (· ≤ reachBytes) = true) :
    ∃ os : List α, os.length = len ∧ (∀ o ∈ os, good o) ∧ Rd w a (os.flatMap cells) ∧ len ≤ cap ∧ cap ≤ maxLen ∧ (a = none → len = 0 ∧ cap = 0) ∧ len * bytes ≤ 140737488351232 := by
  rcases open_slice ht hf with ⟨hcs, _⟩ | ⟨x, l, c, m, n, D, Pl, hcs, _, hlc, hm, hmm, hy, hel⟩
  · simp at hcs
    obtain ⟨rfl, rfl, rfl⟩ := hcs
    exact ⟨[], rfl, (by intro t ht; cases ht), Rd.nil _ _, Nat.le_refl _, by simp [maxLen], fun _ => ⟨rfl, rfl⟩, by simp⟩
  · simp at hcs
    obtain ⟨rfl, rfl, rfl⟩ := hcs
    have hlm : len ≤ m := by simp at hmm; omega
    have ew : ∀ es sp : List (DataW H), DataW.weights Try.prog t (.slice es sp) = (es.length + sp.length) * Try.prog.bytesOf e :: (DataW.weightsAll Try.prog e es ++ DataW.weightsAll Try.prog e sp) := fun es sp => by
      unfold DataW.weights
      rw [ht]
    rw [hy] at hw
    simp only at hw
    rw [ew, List.all_cons, Bool.and_eq_true] at hw
    obtain ⟨hw1, hw2⟩ := hw
    rw [List.all_append, Bool.and_eq_true] at hw2
    have hw3 := hw2.1
    have hwe : ∀ i, i < len → ((D i).weights Try.prog e).all (· ≤ reachBytes) = true := fun i hi => by
      rw [List.all_eq_true] at hw3 ⊢
      intro q hq
      exact hw3 q (weights_mem_all (j := i) (by rw [List.getElem?_map, List.getElem?_range hi]; rfl) q hq)
    have hsize : len * bytes ≤ 140737488351232 := by
      have h1 : (len + (m - len)) * bytes ≤ reachBytes := by
        have := of_decide_eq_true hw1
        simpa [hby] using this
      have h2 : len * bytes ≤ (len + (m - len)) * bytes := Nat.mul_le_mul_right _ (by omega)
      unfold reachBytes at h1
      omega
    have hth : ∀ i, i < len → ∃ o : α, good o ∧ ∀ j y, (cells o)[j]? = some y → w.cell? (x.add (i * size + j)) = some y := by
      intro i hi
      obtain ⟨cs, h1, h2⟩ := hel i (by omega)
      rw [hc] at h1
      obtain ⟨o, ho, rfl⟩ := hp h2 (hwe i hi)
      refine ⟨o, ho, fun j y hy => ?_⟩
      obtain ⟨_, hcl, hat⟩ := World.cells?_some h1
      have hj : j < (cells o).length := (List.getElem?_eq_some_iff.1 hy).1
      have := hat j (by rw [hl] at hj; exact hj)
      rw [Go.Deep.add_add] at this
      rw [this, hy]
    obtain ⟨f, hf⟩ := choose_lt hth
    have hcl2 : ∀ (os : List α), (os.flatMap cells).length = os.length * size := fun os => by
      induction os with
      | nil => simp
      | cons u os ih => rw [List.flatMap_cons, List.length_append, hl, ih, List.length_cons, Nat.succ_mul]; omega
    have hat2 : ∀ (os : List α) (i j : Nat) (o : α), os[i]? = some o → j < size → (os.flatMap cells)[i * size + j]? = (cells o)[j]? := fun os => by
      induction os with
      | nil => intro i j o h; simp at h
      | cons u os ih =>
        intro i j o h hj
        cases i with
        | zero =>
          simp at h
          subst h
          rw [List.flatMap_cons, Nat.zero_mul, Nat.zero_add, List.getElem?_append_left (by rw [hl]; exact hj)]
        | succ i =>
          rw [List.flatMap_cons, Nat.succ_mul, List.getElem?_append_right (by rw [hl]; omega), hl, show i * size + size + j - size = i * size + j by omega]
          exact ih i j o (by simpa using h) hj
    have hgood : ∀ o ∈ (List.range len).map f, good o := fun t ht => by
      obtain ⟨i, hi, rfl⟩ := List.mem_map.1 ht
      exact (hf i (List.mem_range.1 hi)).1
    refine ⟨(List.range len).map f, by simp, hgood, fun hn => ?_, by simpa using hlc, hm, fun h => (by cases h), hsize⟩
    rw [hcl2] at hn
    simp at hn
    have hlp : 0 < len := Nat.pos_of_ne_zero (by rintro rfl; simp at hn)
    have h0 := (hf 0 hlp).2 0 _ (List.getElem?_eq_getElem (by rw [hl]; exact hs))
    obtain ⟨b, off, spot⟩ := x
    have hspot : spot = none := by simpa [Addr.add] using World.cell?_spot h0
    subst hspot
    refine ⟨b, off, rfl, block_lt_of_cell (by rw [addr_add] at h0; exact h0), fun q u hu => ?_⟩
    have hq : q < len * size := by
      have := (List.getElem?_eq_some_iff.1 hu).1
      rw [hcl2] at this
      simpa using this
    have hqi : q / size < len := Nat.div_lt_of_lt_mul (by rw [Nat.mul_comm]; exact hq)
    have hqm : q % size < size := Nat.mod_lt _ hs
    have hqe : q / size * size + q % size = q := by rw [Nat.mul_comm]; exact Nat.div_add_mod q size
    have hfl := hat2 ((List.range len).map f) (q / size) (q % size) (f (q / size)) (by rw [List.getElem?_map, List.getElem?_range hqi]; rfl) hqm
    rw [hqe, hu] at hfl
    have := (hf (q / size) hqi).2 (q % size) u hfl.symm
    rw [addr_add, hqe] at this
    exact this
def Int.ok (x : Int) : Prop := -9223372036854775808 ≤ x ∧ x ≤ 9223372036854775807
def U32 (x : Int) : Prop := 0 ≤ x ∧ x ≤ 4294967295
theorem open_i1 {fuel : Nat} {cs : List Value} {x : DataW H × List MemPlace} (h : DataW.trod enc Try.prog w 0 (fun _ => true) true fuel 3 cs = some x) : ∃ n : Int, Int.ok n ∧ cs = [.int .i64 n] := by
  obtain ⟨n, e, _, wf⟩ := DataW.trod_int Try.underlying3 h
  exact ⟨n, wf_i64 wf, e⟩
theorem open_u1 {fuel : Nat} {cs : List Value} {x : DataW H × List MemPlace} (h : DataW.trod enc Try.prog w 0 (fun _ => true) true fuel 71 cs = some x) : ∃ n : Int, U32 n ∧ cs = [.int .u32 n] := by
  obtain ⟨n, e, _, wf⟩ := DataW.trod_int Try.underlying71 h
  exact ⟨n, wf_u32 wf, e⟩
theorem cells44 : Try.prog.cellsOf 44 = 3 := by kernel_rfl
theorem cells3 : Try.prog.cellsOf 3 = 1 := by kernel_rfl
theorem cells42 : Try.prog.cellsOf 42 = 1 := by kernel_rfl
theorem cells71 : Try.prog.cellsOf 71 = 1 := by kernel_rfl
theorem bytes71 : Try.prog.bytesOf 71 = 4 := by kernel_rfl
theorem bytes44 : Try.prog.bytesOf 44 = 40 := by kernel_rfl
theorem bytes25 : Try.prog.bytesOf 25 = 56 := by kernel_rfl
theorem flat_wds (l : List Int) : (l.flatMap fun x => [Value.int .u32 x]) = wds l := by
  induction l with
  | nil => rfl
  | cons x l ih => rw [List.flatMap_cons, ih]; rfl
theorem one_slice {fuel : Nat} {t e : TypeId} {cs : List Value} {x : DataW H × List MemPlace} (ht : Try.prog.underlying t = some (.slice e)) (h : DataW.trod enc Try.prog w 0 (fun _ => true) true fuel t cs = some x) : ∃ a len cap, cs = [.slice a len cap] := by
  rcases open_slice ht h with ⟨hcs, _⟩ | ⟨x, l, c, m, n, D, Pl, hcs, _⟩
  · exact ⟨_, _, _, hcs⟩
  · exact ⟨_, _, _, hcs⟩
/-- An act: its kind; contexts; a bit. -/
structure Act1 where
  k : Int
  A : Option Addr
  n : Nat
  c : Nat
  hs : List Int
  bit : Int
instance : Inhabited Act1 := ⟨⟨0, none, 0, 0, [], 0⟩⟩
def Act1.cells (a : Act1) : List Value := [.int .i64 a.k, .slice a.A a.n a.c, .int .i64 a.bit]
structure Act1.rd (w : World) (a : Act1) : Prop where
  k : Int.ok a.k
  bit : Int.ok a.bit
  n : a.hs.length = a.n
  u : ∀ x ∈ a.hs, U32 x
  h : Rd w a.A (wds a.hs)
  size : a.n * 4 ≤ 140737488351232
  nn : a.n ≤ 9223372036854775807
  cap : a.n ≤ a.c
theorem open_act {fuel : Nat} {cs : List Value} {x : DataW H × List MemPlace} (h : DataW.trod enc Try.prog w 0 (fun _ => true) true fuel 44 cs = some x) (hw : (x.1.weights Try.prog 44).all (· ≤ reachBytes) = true) : ∃ a : Act1, a.rd w ∧ cs = a.cells := by
  obtain ⟨xs, m, _, hy, hlen, hxl, hf⟩ := DataW.trod_struct Try.underlying44 h
  rw [cells44] at hlen
  have hxl2 : xs.length = 3 := hxl
  have h0 : DataW.trod enc Try.prog w 0 (fun _ => true) true m 3 ((cs.drop 0).take (Try.prog.cellsOf 3)) = xs[0]? := hf 0 _ rfl
  have h1 : DataW.trod enc Try.prog w 0 (fun _ => true) true m 42 ((cs.drop 1).take (Try.prog.cellsOf 42)) = xs[1]? := hf 1 _ rfl
  have h2 : DataW.trod enc Try.prog w 0 (fun _ => true) true m 3 ((cs.drop 2).take (Try.prog.cellsOf 3)) = xs[2]? := hf 2 _ rfl
  rw [cells3] at h0 h2
  rw [cells42] at h1
  rw [List.getElem?_eq_getElem (by omega)] at h0 h1 h2
  obtain ⟨k, hk, e0⟩ := open_i1 h0
  obtain ⟨A, n, c, e1⟩ := one_slice Try.underlying42 h1
  obtain ⟨bit, hbit, e2⟩ := open_i1 h2
  rw [e1] at h1
  have hw1 : ((xs[1]'(by omega)).1.weights Try.prog 42).all (· ≤ reachBytes) = true := by
    rw [hy] at hw
    simp only at hw
    rw [List.all_eq_true] at hw ⊢
    intro q hq
    refine hw q ?_
    unfold DataW.weights
    rw [Try.underlying44]
    exact DataW.weights_mem_each (j := 1) (t := 42) (d := (xs[1]'(by omega)).1) rfl (by rw [List.getElem?_map, List.getElem?_eq_getElem (by omega)]; rfl) q hq
  obtain ⟨hs, hl, ho, hr, hc1, hc2, hc3, hsz⟩ := open_list (fun x : Int => [Value.int .u32 x]) U32 1 4 (fun _ => rfl) (by omega) Try.underlying42 cells71 bytes71 (fun h _ => open_u1 h) h1 hw1
  rw [flat_wds] at hr
  refine ⟨⟨k, A, n, c, hs, bit⟩, ⟨hk, hbit, hl, ho, hr, hsz, by simp only; omega, hc1⟩, ?_⟩
  obtain ⟨c0, c1, c2, rfl⟩ : ∃ c0 c1 c2, cs = [c0, c1, c2] := by
    match cs, hlen with
    | [c0, c1, c2], _ => exact ⟨c0, c1, c2, rfl⟩
  simp at e0 e1 e2
  rw [e0, e1, e2]
  rfl
def flatA (acts : List Act1) : List Value := acts.flatMap Act1.cells
theorem open_acts {base : Nat} {d : DataW H} {ps : List MemPlace} {v : Value} (hv : Value.okWide Try.prog w .any base 35 v) (hk : DataW.Trod enc Try.prog w 0 (fun _ => true) true 35 v d ps) (hw : (d.weights Try.prog 35).all (· ≤ reachBytes) = true) :
    ∃ (A : Option Addr) (n c : Nat) (acts : List Act1), v = .slice A n c ∧ acts.length = n ∧ (∀ a ∈ acts, a.rd w) ∧ Rd w A (flatA acts) ∧ n ≤ maxLen := by
  obtain ⟨a, len, cap, rfl⟩ := okWide_slice Try.underlying35 hv
  obtain ⟨fuel, hf⟩ := hk
  obtain ⟨acts, h1, h2, h3, h4, h5, _⟩ := open_list Act1.cells (fun s => s.rd w) 3 40 (fun _ => rfl) (by omega) Try.underlying35 cells44 bytes44 open_act (by simpa [Value.cells] using hf) hw
  exact ⟨a, len, cap, acts, rfl, h1, h2, h3, by omega⟩
theorem pts_size {base : Nat} {d : DataW H} {ps : List MemPlace} {A : Option Addr} {n c : Nat} (hk : DataW.Trod enc Try.prog w 0 (fun _ => true) true 30 (.slice A n c) d ps) (hw : (d.weights Try.prog 30).all (· ≤ reachBytes) = true) : n * 56 ≤ 140737488351232 := by
  obtain ⟨fuel, hf⟩ := hk
  rcases open_slice Try.underlying30 hf with ⟨hcs, _⟩ | ⟨x, l, c', m, q, D, Pl, hcs, _, hlc, hm, hmm, hy, hel⟩
  · simp [Value.cells] at hcs
    omega
  · simp [Value.cells] at hcs
    obtain ⟨rfl, rfl, rfl⟩ := hcs
    injection hy with hy _
    rw [hy] at hw
    have ew : ∀ es sp : List (DataW H), DataW.weights Try.prog 30 (.slice es sp) = (es.length + sp.length) * Try.prog.bytesOf 25 :: (DataW.weightsAll Try.prog 25 es ++ DataW.weightsAll Try.prog 25 sp) := fun es sp => by
      unfold DataW.weights
      rw [Try.underlying30]
    rw [ew, List.all_cons, Bool.and_eq_true] at hw
    have h1 : (n + (m - n)) * 56 ≤ reachBytes := by
      have := of_decide_eq_true hw.1
      simpa [bytes25] using this
    have h2 : n * 56 ≤ (n + (m - n)) * 56 := Nat.mul_le_mul_right _ (by omega)
    unfold reachBytes at h1
    omega
end
theorem acts_at : ∀ (acts : List Act1) (i j : Nat) (a : Act1), acts[i]? = some a → j < 3 → (flatA acts)[i * 3 + j]? = a.cells[j]?
  | [], i, j, o, h, _ => by simp at h
  | u :: os, 0, j, o, h, hj => by
    simp at h
    subst h
    unfold flatA
    rw [List.flatMap_cons, Nat.zero_mul, Nat.zero_add, List.getElem?_append_left (by exact hj)]
  | u :: os, i + 1, j, o, h, hj => by
    have hl : u.cells.length = 3 := rfl
    unfold flatA
    rw [List.flatMap_cons, Nat.succ_mul, List.getElem?_append_right (by omega), hl, show i * 3 + 3 + j - 3 = i * 3 + j by omega]
    exact acts_at os i j o (by simpa using h) hj
theorem flatA_len : ∀ acts : List Act1, (flatA acts).length = acts.length * 3
  | [] => by simp [flatA]
  | u :: os => by
    have hl : u.cells.length = 3 := rfl
    have := flatA_len os
    unfold flatA at this ⊢
    rw [List.flatMap_cons, List.length_append, hl, this, List.length_cons]
    omega
theorem act_at {w : World} {A : Option Addr} {acts : List Act1} (h : Rd w A (flatA acts)) {k : Nat} (hk : k < acts.length) : ∃ a b o, acts[k]? = some a ∧ A = some ⟨b, o, none⟩ ∧ w.cell? ⟨b, o + k * 3, none⟩ = some (.int .i64 a.k) ∧ w.cell? ⟨b, o + k * 3 + 1, none⟩ = some (.slice a.A a.n a.c) ∧ w.cell? ⟨b, o + k * 3 + 2, none⟩ = some (.int .i64 a.bit) := by
  obtain ⟨a, ha⟩ : ∃ a, acts[k]? = some a := ⟨_, List.getElem?_eq_getElem hk⟩
  obtain ⟨b, o, hA, hlt, hc⟩ := h (by rw [flatA_len]; omega)
  have e0 := hc _ _ ((acts_at acts k 0 a ha (by omega)).trans rfl)
  have e1 := hc _ _ ((acts_at acts k 1 a ha (by omega)).trans rfl)
  have e2 := hc _ _ ((acts_at acts k 2 a ha (by omega)).trans rfl)
  exact ⟨a, b, o, ha, hA, e0, e1, e2⟩
end Go.Proofs.Ytnohfeaamfjimaa
