/- A list of steps, opened. Plain. -/
import Derived.Test.YtlhhkmpidnegcaaVeOh
namespace Go.Proofs.Ytlhhkmpidnegcaa
open Go.RowKit Go.WideShapes Go.ChangeShapes Go.Deep
set_option linter.unusedVariables false
set_option linter.unusedSimpArgs false
set_option maxRecDepth 100000
theorem flat_at {α : Type} (cells : α → List Value) (size : Nat) (hl : ∀ o, (cells o).length = size) : ∀ (os : List α) (i j : Nat) (o : α), os[i]? = some o → j < size → (os.flatMap cells)[i * size + j]? = (cells o)[j]?
  | [], i, j, o, h, _ => by simp at h
  | u :: os, 0, j, o, h, hj => by
    simp at h
    subst h
    rw [List.flatMap_cons, Nat.zero_mul, Nat.zero_add, List.getElem?_append_left (by rw [hl]; exact hj)]
  | u :: os, i + 1, j, o, h, hj => by
    rw [List.flatMap_cons, Nat.succ_mul, List.getElem?_append_right (by rw [hl]; omega), hl, show i * size + size + j - size = i * size + j by omega]
    exact flat_at cells size hl os i j o (by simpa using h) hj
theorem flat_len {α : Type} (cells : α → List Value) (size : Nat) (hl : ∀ o, (cells o).length = size) : ∀ os : List α, (os.flatMap cells).length = os.length * size
  | [] => by simp
  | u :: os => by rw [List.flatMap_cons, List.length_append, hl, flat_len cells size hl os, List.length_cons, Nat.succ_mul]; omega
section
variable {H : Type} {enc : TypeId × Value → H} {w : World}
/-- A slice of whatever elements, opened. -/
theorem open_list {α : Type} [Inhabited α] {t e : TypeId} (cells : α → List Value) (good : α → Prop) (size : Nat) (hl : ∀ o, good o → (cells o).length = size) (hs : 0 < size) (ht : Try.prog.underlying t = some (.slice e)) (hc : Try.prog.cellsOf e = size)
    (hp : ∀ {fuel : Nat} {cs : List Value} {x : DataW H × List MemPlace}, DataW.trod enc Try.prog w 0 (fun _ => true) true fuel e cs = some x → ∃ o, good o ∧ cs = cells o)
    {fuel : Nat} {a : Option Addr} {len cap : Nat} {y : DataW H × List MemPlace} (hf : DataW.trod enc Try.prog w 0 (fun _ => true) true fuel t [.slice a len cap] = some y) :
    ∃ os : List α, os.length = len ∧ (∀ o ∈ os, good o) ∧ Rd w a (os.flatMap cells) ∧ len ≤ cap ∧ cap ≤ maxLen ∧ (a = none → len = 0 ∧ cap = 0) := by
  rcases open_slice ht hf with ⟨hcs, _⟩ | ⟨x, l, c, m, n, D, Pl, hcs, _, hlc, hm, hmm, _, hel⟩
  · simp at hcs
    obtain ⟨rfl, rfl, rfl⟩ := hcs
    exact ⟨[], rfl, (by intro t ht; cases ht), Rd.nil _ _, Nat.le_refl _, by simp [maxLen], fun _ => ⟨rfl, rfl⟩⟩
  · simp at hcs
    obtain ⟨rfl, rfl, rfl⟩ := hcs
    have hlm : len ≤ m := by simp at hmm; omega
    have hth : ∀ i, i < len → ∃ o : α, good o ∧ ∀ j y, (cells o)[j]? = some y → w.cell? (x.add (i * size + j)) = some y := by
      intro i hi
      obtain ⟨cs, h1, h2⟩ := hel i (by omega)
      rw [hc] at h1
      obtain ⟨o, ho, rfl⟩ := hp h2
      refine ⟨o, ho, fun j y hy => ?_⟩
      obtain ⟨_, hcl, hat⟩ := World.cells?_some h1
      have hj : j < (cells o).length := (List.getElem?_eq_some_iff.1 hy).1
      have := hat j (by rw [hl o ho] at hj; exact hj)
      rw [Go.Deep.add_add] at this
      rw [this, hy]
    obtain ⟨f, hf⟩ := choose_lt hth
    have hcl2 : ∀ (os : List α), (∀ o ∈ os, good o) → (os.flatMap cells).length = os.length * size := fun os => by
      induction os with
      | nil => intro _; simp
      | cons u os ih => intro h; rw [List.flatMap_cons, List.length_append, hl u (h u (by simp)), ih (fun o ho => h o (by simp [ho])), List.length_cons, Nat.succ_mul]; omega
    have hat2 : ∀ (os : List α) (i j : Nat) (o : α), (∀ o ∈ os, good o) → os[i]? = some o → j < size → (os.flatMap cells)[i * size + j]? = (cells o)[j]? := fun os => by
      induction os with
      | nil => intro i j o _ h; simp at h
      | cons u os ih =>
        intro i j o hg h hj
        cases i with
        | zero =>
          simp at h
          subst h
          rw [List.flatMap_cons, Nat.zero_mul, Nat.zero_add, List.getElem?_append_left (by rw [hl _ (hg _ (by simp))]; exact hj)]
        | succ i =>
          rw [List.flatMap_cons, Nat.succ_mul, List.getElem?_append_right (by rw [hl _ (hg _ (by simp))]; omega), hl _ (hg _ (by simp)), show i * size + size + j - size = i * size + j by omega]
          exact ih i j o (fun o ho => hg o (by simp [ho])) (by simpa using h) hj
    have hgood : ∀ o ∈ (List.range len).map f, good o := fun t ht => by
      obtain ⟨i, hi, rfl⟩ := List.mem_map.1 ht
      exact (hf i (List.mem_range.1 hi)).1
    refine ⟨(List.range len).map f, by simp, hgood, fun hn => ?_, by simpa using hlc, hm, fun h => by cases h⟩
    rw [hcl2 _ hgood] at hn
    simp at hn
    have hlp : 0 < len := Nat.pos_of_ne_zero (by rintro rfl; simp at hn)
    have hsz0 : (cells (f 0)).length = size := hl _ (hf 0 hlp).1
    have h0 := (hf 0 hlp).2 0 _ (List.getElem?_eq_getElem (by rw [hsz0]; exact hs))
    obtain ⟨b, off, spot⟩ := x
    have hspot : spot = none := by simpa [Addr.add] using World.cell?_spot h0
    subst hspot
    refine ⟨b, off, rfl, block_lt_of_cell (by rw [addr_add] at h0; exact h0), fun q u hu => ?_⟩
    have hq : q < len * size := by
      have := (List.getElem?_eq_some_iff.1 hu).1
      rw [hcl2 _ hgood] at this
      simpa using this
    have hqi : q / size < len := Nat.div_lt_of_lt_mul (by rw [Nat.mul_comm]; exact hq)
    have hqm : q % size < size := Nat.mod_lt _ hs
    have hqe : q / size * size + q % size = q := by rw [Nat.mul_comm]; exact Nat.div_add_mod q size
    have hfl := hat2 ((List.range len).map f) (q / size) (q % size) (f (q / size)) hgood (by rw [List.getElem?_map, List.getElem?_range hqi]; rfl) hqm
    rw [hqe, hu] at hfl
    have := (hf (q / size) hqi).2 (q % size) u hfl.symm
    rw [addr_add, hqe] at this
    exact this
structure WfI (x : Int) : Prop where
  lo : -9223372036854775808 ≤ x
  hi : x ≤ 9223372036854775807
theorem open_i1 {fuel : Nat} {cs : List Value} {x : DataW H × List MemPlace} (h : DataW.trod enc Try.prog w 0 (fun _ => true) true fuel 3 cs = some x) : ∃ n : Int, WfI n ∧ cs = [.int .i64 n] := by
  obtain ⟨n, e, _, wf⟩ := DataW.trod_int Try.underlying3 h
  exact ⟨n, ⟨(wf_i64 wf).1, (wf_i64 wf).2⟩, e⟩
theorem cells41 : Try.prog.cellsOf 41 = 2 := by kernel_rfl
theorem cells31 : Try.prog.cellsOf 31 = 4 := by kernel_rfl
theorem cells29 : Try.prog.cellsOf 29 = 2 := by kernel_rfl
theorem cells9 : Try.prog.cellsOf 9 = 1 := by kernel_rfl
theorem cellsI : Try.prog.cellsOf 39 = 1 := by kernel_rfl
theorem cellsP : Try.prog.cellsOf 26 = 1 := by kernel_rfl
theorem cellsF : Try.prog.cellsOf 27 = 1 := by kernel_rfl
theorem cellsN : Try.prog.cellsOf 3 = 1 := by kernel_rfl
theorem flat_ints (l : List Int) : (l.flatMap fun x => [Value.int .i64 x]) = ints l := by
  induction l with
  | nil => rfl
  | cons x l ih => rw [List.flatMap_cons, ih]; rfl
/-- A slice value of a one-cell list of cells. -/
theorem one_slice {fuel : Nat} {t e : TypeId} {cs : List Value} {x : DataW H × List MemPlace} (ht : Try.prog.underlying t = some (.slice e)) (h : DataW.trod enc Try.prog w 0 (fun _ => true) true fuel t cs = some x) : ∃ a len cap, cs = [.slice a len cap] := by
  rcases open_slice ht h with ⟨hcs, _⟩ | ⟨x, l, c, m, n, D, Pl, hcs, _⟩
  · exact ⟨_, _, _, hcs⟩
  · exact ⟨_, _, _, hcs⟩
instance : Inhabited Fl := ⟨⟨⟨#[]⟩, [], none, 0, 0⟩⟩
instance : Inhabited Pc := ⟨⟨[], 0, 0, 0⟩⟩
theorem open_file {fuel : Nat} {cs : List Value} {x : DataW H × List MemPlace} (h : DataW.trod enc Try.prog w 0 (fun _ => true) true fuel 41 cs = some x) : ∃ f : Fl, (f.rd w ∧ f.nm.size ≤ maxLen) ∧ cs = f.cells := by
  obtain ⟨xs, m, _, _, hlen, hxl, hf⟩ := DataW.trod_struct Try.underlying41 h
  rw [cells41] at hlen
  have hxl2 : xs.length = 2 := hxl
  have h0 : DataW.trod enc Try.prog w 0 (fun _ => true) true m 9 ((cs.drop 0).take (Try.prog.cellsOf 9)) = xs[0]? := hf 0 _ rfl
  have h1 : DataW.trod enc Try.prog w 0 (fun _ => true) true m 39 ((cs.drop 1).take (Try.prog.cellsOf 39)) = xs[1]? := hf 1 _ rfl
  rw [cells9] at h0
  rw [cellsI] at h1
  rw [List.getElem?_eq_getElem (by omega)] at h0 h1
  obtain ⟨s, e0, _, hs⟩ := DataW.trod_string Try.underlying9 h0
  obtain ⟨a, len, cap, e1⟩ := one_slice Try.underlying39 h1
  rw [e1] at h1
  obtain ⟨fr, hfl, _, hrd, hc1, hc2, hc3⟩ := open_list (fun x : Int => [Value.int .i64 x]) WfI 1 (fun _ _ => rfl) (by omega) Try.underlying39 cellsN open_i1 h1
  rw [flat_ints] at hrd
  refine ⟨⟨s, fr, a, len, cap⟩, ⟨⟨hfl, hc1, hc2, hrd, hc3⟩, hs⟩, ?_⟩
  obtain ⟨c0, c1, rfl⟩ : ∃ c0 c1, cs = [c0, c1] := by
    match cs, hlen with
    | [c0, c1], _ => exact ⟨c0, c1, rfl⟩
  simp at e0 e1
  rw [e0, e1]
  rfl
structure Stp where
  bl : Int
  Ap : Option Addr
  np : Nat
  cp : Nat
  pcs : List Pc
  roll : Int
  Af : Option Addr
  nf : Nat
  cf : Nat
  fs : List Fl
instance : Inhabited Stp := ⟨⟨0, none, 0, 0, [], 0, none, 0, 0, []⟩⟩
def Stp.cells (s : Stp) : List Value := [.int .i64 s.bl, .slice s.Ap s.np s.cp, .int .i64 s.roll, .slice s.Af s.nf s.cf]
structure Stp.rd (w : World) (s : Stp) : Prop where
  bl : WfI s.bl
  roll : WfI s.roll
  np : s.pcs.length = s.np
  oks : ∀ p ∈ s.pcs, p.ok
  ps : Rd w s.Ap (flatP s.pcs)
  nf : s.fs.length = s.nf
  fs : RdF w s.Af s.fs
  nms : ∀ f ∈ s.fs, f.nm.size ≤ maxLen
  fnil : s.Af = none → s.nf = 0 ∧ s.cf = 0
  npm : s.np ≤ maxLen
  nfm : s.nf ≤ maxLen
theorem open_step {fuel : Nat} {cs : List Value} {x : DataW H × List MemPlace} (h : DataW.trod enc Try.prog w 0 (fun _ => true) true fuel 31 cs = some x) : ∃ s : Stp, s.rd w ∧ cs = s.cells := by
  obtain ⟨xs, m, _, _, hlen, hxl, hf⟩ := DataW.trod_struct Try.underlying31 h
  rw [cells31] at hlen
  have hxl2 : xs.length = 3 := hxl
  have h0 : DataW.trod enc Try.prog w 0 (fun _ => true) true m 3 ((cs.drop 0).take (Try.prog.cellsOf 3)) = xs[0]? := hf 0 _ rfl
  have h1 : DataW.trod enc Try.prog w 0 (fun _ => true) true m 26 ((cs.drop 1).take (Try.prog.cellsOf 26)) = xs[1]? := hf 1 _ rfl
  have h2 : DataW.trod enc Try.prog w 0 (fun _ => true) true m 29 ((cs.drop 2).take (Try.prog.cellsOf 29)) = xs[2]? := hf 2 _ rfl
  rw [cellsN] at h0
  rw [cellsP] at h1
  rw [cells29] at h2
  rw [List.getElem?_eq_getElem (by omega)] at h0 h1 h2
  obtain ⟨bl, hbl, e0⟩ := open_i1 h0
  obtain ⟨Ap, np, cp, e1⟩ := one_slice Try.underlying26 h1
  rw [e1] at h1
  obtain ⟨pcs, hpl, hpo, hpr, hp1, hp2, hp3⟩ := open_list Pc.cells Pc.ok 23 (fun o ho => Pc.cells_length ho) (by omega) Try.underlying26 cells39 open_piece h1
  obtain ⟨ys, m2, _, _, hlen2, hyl, hg⟩ := DataW.trod_struct Try.underlying29 h2
  have hyl2 : ys.length = 2 := hyl
  rw [cells29] at hlen2
  have g0 : DataW.trod enc Try.prog w 0 (fun _ => true) true m2 3 ((((cs.drop 2).take 2).drop 0).take (Try.prog.cellsOf 3)) = ys[0]? := hg 0 _ rfl
  have g1 : DataW.trod enc Try.prog w 0 (fun _ => true) true m2 27 ((((cs.drop 2).take 2).drop 1).take (Try.prog.cellsOf 27)) = ys[1]? := hg 1 _ rfl
  rw [cellsN] at g0
  rw [cellsF] at g1
  rw [List.getElem?_eq_getElem (by omega)] at g0 g1
  obtain ⟨roll, hroll, e2⟩ := open_i1 g0
  obtain ⟨Af, nf, cf, e3⟩ := one_slice Try.underlying27 g1
  rw [e3] at g1
  obtain ⟨fs, hfl, hfo, hfr, hf1, hf2, hf3⟩ := open_list Fl.cells (fun f => f.rd w ∧ f.nm.size ≤ maxLen) 2 (fun _ _ => rfl) (by omega) Try.underlying27 cells41 open_file g1
  refine ⟨⟨bl, Ap, np, cp, pcs, roll, Af, nf, cf, fs⟩, ⟨hbl, hroll, hpl, hpo, hpr, hfl, ⟨hfr, fun f hf => (hfo f hf).1⟩, fun f hf => (hfo f hf).2, hf3, Nat.le_trans hp1 hp2, Nat.le_trans hf1 hf2⟩, ?_⟩
  obtain ⟨c0, c1, c2, c3, rfl⟩ : ∃ c0 c1 c2 c3, cs = [c0, c1, c2, c3] := by
    match cs, hlen with
    | [c0, c1, c2, c3], _ => exact ⟨c0, c1, c2, c3, rfl⟩
  simp at e0 e1 e2 e3
  rw [e0, e1, e2, e3]
  rfl
theorem open_steps {base : Nat} {d : DataW H} {ps : List MemPlace} {v : Value} (hv : Value.okWide Try.prog w .any base 22 v) (hk : DataW.Trod enc Try.prog w 0 (fun _ => true) true 22 v d ps) :
    ∃ (A : Option Addr) (n c : Nat) (ss : List Stp), v = .slice A n c ∧ ss.length = n ∧ (∀ s ∈ ss, s.rd w) ∧ Rd w A (ss.flatMap Stp.cells) ∧ n ≤ maxLen := by
  obtain ⟨a, len, cap, rfl⟩ := okWide_slice Try.underlying22 hv
  obtain ⟨fuel, hf⟩ := hk
  obtain ⟨ss, h1, h2, h3, h4, h5, _⟩ := open_list Stp.cells (fun s => s.rd w) 4 (fun _ _ => rfl) (by omega) Try.underlying22 cells31 open_step (by simpa [Value.cells] using hf)
  exact ⟨a, len, cap, ss, rfl, h1, h2, h3, by omega⟩
end
end Go.Proofs.Ytlhhkmpidnegcaa
