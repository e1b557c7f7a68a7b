/- Statements within statements: a forest, how memory reads as one; an argument opened. Plain. -/
import Derived.Test.YtebmgladdgmmeaaVdSt
import Derived.Test.YtebmgladdgmmeaaVlEx
import Derived.SizedLaws
namespace Go.Proofs.Ytebmgladdgmmeaa
open Go.RowKit Go.WideShapes Go.ChangeShapes Go.Deep
set_option linter.unusedVariables false
set_option linter.unusedSimpArgs false
/-- A statement, but for the lists within. -/
structure Hd where
  k : Int
  i : In
  nt : Bool
  ci : In
  ln : Int
structure Hd.ok (h : Hd) : Prop where
  k0 : 0 ≤ h.k
  k1 : h.k ≤ 255
  i : h.i.ok
  ci : h.ci.ok
  l0 : -9223372036854775808 ≤ h.ln
  l1 : h.ln ≤ 9223372036854775807
def Hd.cells (h : Hd) (vb ve : Value) : List Value := [.int .u8 h.k, .int .u8 h.i.o, .int .i64 h.i.d, .int .i64 h.i.s, .int .i64 h.i.n, .bool h.nt, .int .u8 h.ci.o, .int .i64 h.ci.d, .int .i64 h.ci.s, .int .i64 h.ci.n, vb, ve, .int .i64 h.ln]
inductive Fo where
  | nil : Fo
  | cons (h : Hd) (b e r : Fo) : Fo
def Fo.len : Fo → Nat
  | .nil => 0
  | .cons _ _ _ r => r.len + 1
def Fo.tot : Fo → Nat
  | .nil => 0
  | .cons _ b e r => b.tot + e.tot + r.tot + 1
theorem Fo.len_tot : ∀ f : Fo, f.len ≤ f.tot
  | .nil => Nat.le_refl _
  | .cons _ b e r => by have := r.len_tot; simp only [Fo.len, Fo.tot]; omega
theorem Fo.nil_of : ∀ {f : Fo}, f.len = 0 → f = .nil
  | .nil, _ => rfl
  | .cons .., h => by simp [Fo.len] at h
def lenMost : Nat := 140737488351232
/-- The elements from cell o of block g on read as the forest; all lies in blocks below B. -/
def RdF (B : Nat) (w : World) : Fo → Nat → Nat → Prop
  | .nil, _, _ => True
  | .cons h b e r, g, o => h.ok ∧ g < B ∧ (∃ Ab cb Ae ce, (∀ j u, (h.cells (.slice Ab b.len cb) (.slice Ae e.len ce))[j]? = some u → w.cell? ⟨g, o + j, none⟩ = some u) ∧ (b.len ≤ cb ∧ cb ≤ maxLen ∧ b.len ≤ lenMost) ∧ (e.len ≤ ce ∧ ce ≤ maxLen ∧ e.len ≤ lenMost) ∧
      (0 < b.len → ∃ g' o', Ab = some ⟨g', o', none⟩ ∧ RdF B w b g' o') ∧ (0 < e.len → ∃ g' o', Ae = some ⟨g', o', none⟩ ∧ RdF B w e g' o')) ∧ RdF B w r g (o + 13)
/-- The slice that begins at A reads as the forest. -/
def RdS (B : Nat) (w : World) (A : Option Addr) (f : Fo) : Prop := 0 < f.len → ∃ g o, A = some ⟨g, o, none⟩ ∧ RdF B w f g o
theorem RdF.below {B : Nat} {w w' : World} (hb : Below B w w') : ∀ (f : Fo) (g o : Nat), RdF B w f g o → RdF B w' f g o
  | .nil, _, _, _ => trivial
  | .cons h b e r, g, o, ⟨h1, h2, ⟨Ab, cb, Ae, ce, h3, h4, h5, h6, h7⟩, h8⟩ =>
    ⟨h1, h2, ⟨Ab, cb, Ae, ce, fun j u hu => (hb.cell (p := ⟨g, o + j, none⟩) h2).trans (h3 j u hu), h4, h5,
      fun hn => by obtain ⟨g', o', e1, e2⟩ := h6 hn; exact ⟨g', o', e1, RdF.below hb b g' o' e2⟩,
      fun hn => by obtain ⟨g', o', e1, e2⟩ := h7 hn; exact ⟨g', o', e1, RdF.below hb e g' o' e2⟩⟩, RdF.below hb r g (o + 13) h8⟩
theorem RdS.below {B : Nat} {w w' : World} {A : Option Addr} {f : Fo} (h : RdS B w A f) (hb : Below B w w') : RdS B w' A f := fun hn => by
  obtain ⟨g, o, e, hr⟩ := h hn
  exact ⟨g, o, e, hr.below hb⟩
theorem RdF.mono {B B' : Nat} {w : World} (hB : B ≤ B') : ∀ (f : Fo) (g o : Nat), RdF B w f g o → RdF B' w f g o
  | .nil, _, _, _ => trivial
  | .cons h b e r, g, o, ⟨h1, h2, ⟨Ab, cb, Ae, ce, h3, h4, h5, h6, h7⟩, h8⟩ =>
    ⟨h1, Nat.lt_of_lt_of_le h2 hB, ⟨Ab, cb, Ae, ce, h3, h4, h5,
      fun hn => by obtain ⟨g', o', e1, e2⟩ := h6 hn; exact ⟨g', o', e1, RdF.mono hB b g' o' e2⟩,
      fun hn => by obtain ⟨g', o', e1, e2⟩ := h7 hn; exact ⟨g', o', e1, RdF.mono hB e g' o' e2⟩⟩, RdF.mono hB r g (o + 13) h8⟩
theorem RdS.mono {B B' : Nat} {w : World} {A : Option Addr} {f : Fo} (h : RdS B w A f) (hB : B ≤ B') : RdS B' w A f := fun hn => by
  obtain ⟨g, o, e, hr⟩ := h hn
  exact ⟨g, o, e, hr.mono hB⟩
theorem RdS.nil (B : Nat) (w : World) (A : Option Addr) : RdS B w A .nil := fun h => absurd h (by simp [Fo.len])
section
variable {H : Type} {enc : TypeId × Value → H} {w : World} {base : Nat} {sp : Nat → Bool} {held : Bool}
theorem in_cells {fuel : Nat} {cs : List Value} {x : DataW H × List MemPlace} (h : DataW.trod enc Try.prog w base sp held fuel 31 cs = some x) : ∃ t : In, t.ok ∧ cs = t.cells := by
  obtain ⟨xs, n, _, _, hl, hxl, hf⟩ := DataW.trod_struct Try.underlying31 h
  have hc : Try.prog.cellsOf 31 = 4 := by kernel_rfl
  rw [hc] at hl
  have c1 : Try.prog.cellsOf 29 = 1 := by kernel_rfl
  have c3 : Try.prog.cellsOf 3 = 1 := by kernel_rfl
  rcases cs with _ | ⟨v0, _ | ⟨v1, _ | ⟨v2, _ | ⟨v3, _ | ⟨v4, cs⟩⟩⟩⟩⟩ <;> simp at hl
  have hx : ∀ i, i < 4 → ∃ y, xs[i]? = some y := fun i hi => ⟨_, List.getElem?_eq_getElem (by rw [hxl]; exact hi)⟩
  have h0 : DataW.trod enc Try.prog w base sp held n 29 (([v0, v1, v2, v3].drop 0).take (Try.prog.cellsOf 29)) = xs[0]? := hf 0 _ rfl
  have h1 : DataW.trod enc Try.prog w base sp held n 3 (([v0, v1, v2, v3].drop 1).take (Try.prog.cellsOf 3)) = xs[1]? := hf 1 _ rfl
  have h2 : DataW.trod enc Try.prog w base sp held n 3 (([v0, v1, v2, v3].drop 2).take (Try.prog.cellsOf 3)) = xs[2]? := hf 2 _ rfl
  have h3 : DataW.trod enc Try.prog w base sp held n 3 (([v0, v1, v2, v3].drop 3).take (Try.prog.cellsOf 3)) = xs[3]? := hf 3 _ rfl
  obtain ⟨y0, e0⟩ := hx 0 (by omega)
  obtain ⟨y1, e1⟩ := hx 1 (by omega)
  obtain ⟨y2, e2⟩ := hx 2 (by omega)
  obtain ⟨y3, e3⟩ := hx 3 (by omega)
  rw [e0] at h0
  rw [e1] at h1
  rw [e2] at h2
  rw [e3] at h3
  rw [c1] at h0
  rw [c3] at h1 h2 h3
  obtain ⟨n0, q0, _, wf0⟩ := DataW.trod_int Try.underlying29 h0
  obtain ⟨n1, q1, _, wf1⟩ := DataW.trod_int Try.underlying3 h1
  obtain ⟨n2, q2, _, wf2⟩ := DataW.trod_int Try.underlying3 h2
  obtain ⟨n3, q3, _, wf3⟩ := DataW.trod_int Try.underlying3 h3
  simp at q0 q1 q2 q3
  subst q0 q1 q2 q3
  exact ⟨⟨n0, n1, n2, n3⟩, ⟨(wf_u8 wf0).1, (wf_u8 wf0).2, (wf_i64 wf1).1, (wf_i64 wf1).2, (wf_i64 wf2).1, (wf_i64 wf2).2, (wf_i64 wf3).1, (wf_i64 wf3).2⟩, rfl⟩
theorem cond_cells {fuel : Nat} {cs : List Value} {x : DataW H × List MemPlace} (h : DataW.trod enc Try.prog w base sp held fuel 33 cs = some x) : ∃ (b : Bool) (t : In), t.ok ∧ cs = .bool b :: t.cells := by
  obtain ⟨xs, n, _, _, hl, hxl, hf⟩ := DataW.trod_struct Try.underlying33 h
  have hc : Try.prog.cellsOf 33 = 5 := by kernel_rfl
  have c4 : Try.prog.cellsOf 4 = 1 := by kernel_rfl
  have c31 : Try.prog.cellsOf 31 = 4 := by kernel_rfl
  rw [hc] at hl
  have hx : ∀ i, i < 2 → ∃ y, xs[i]? = some y := fun i hi => ⟨_, List.getElem?_eq_getElem (by rw [hxl]; exact hi)⟩
  have h0 : DataW.trod enc Try.prog w base sp held n 4 ((cs.drop 0).take (Try.prog.cellsOf 4)) = xs[0]? := hf 0 _ rfl
  have h1 : DataW.trod enc Try.prog w base sp held n 31 ((cs.drop 1).take (Try.prog.cellsOf 31)) = xs[1]? := hf 1 _ rfl
  obtain ⟨y0, e0⟩ := hx 0 (by omega)
  obtain ⟨y1, e1⟩ := hx 1 (by omega)
  rw [e0] at h0
  rw [e1] at h1
  rw [c4] at h0
  rw [c31] at h1
  obtain ⟨b, q0, _⟩ := DataW.trod_bool Try.underlying4 h0
  obtain ⟨t, ht, q1⟩ := in_cells h1
  rcases cs with _ | ⟨v0, cs⟩
  · simp at hl
  · simp at q0 hl
    subst q0
    refine ⟨b, t, ht, ?_⟩
    have : (cs.take 4) = t.cells := by simpa using q1
    rw [← this, List.take_of_length_le (by omega)]
theorem weights_mem_all {P : Program} {e : TypeId} : ∀ {ds : List (DataW H)} {j : Nat} {d : DataW H}, ds[j]? = some d → ∀ n ∈ d.weights P e, n ∈ DataW.weightsAll P e ds
  | [], j, d, h, n, hn => by simp at h
  | x :: ds, 0, d, h, n, hn => by
    simp at h
    subst h
    unfold DataW.weightsAll
    exact List.mem_append_left _ hn
  | x :: ds, j + 1, d, h, n, hn => by
    unfold DataW.weightsAll
    exact List.mem_append_right _ (weights_mem_all (j := j) (by simpa using h) n hn)
/-- What an element of the slice reads as. -/
structure El (w : World) (a : Addr) (h : Hd) (b e : Fo) : Prop where
  ok : h.ok
  ex : ∃ Ab cb Ae ce, (∀ j u, (h.cells (.slice Ab b.len cb) (.slice Ae e.len ce))[j]? = some u → w.cell? (a.add j) = some u) ∧ (b.len ≤ cb ∧ cb ≤ maxLen ∧ b.len ≤ lenMost) ∧ (e.len ≤ ce ∧ ce ≤ maxLen ∧ e.len ≤ lenMost) ∧
      (0 < b.len → ∃ g' o', Ab = some ⟨g', o', none⟩ ∧ RdF w.heap.size w b g' o') ∧ (0 < e.len → ∃ g' o', Ae = some ⟨g', o', none⟩ ∧ RdF w.heap.size w e g' o')
structure IsFo (w : World) (cs : List Value) : Prop where
  ex : ∃ (f : Fo) (A : Option Addr) (c : Nat), cs = [.slice A f.len c] ∧ (f.len ≤ c ∧ c ≤ maxLen ∧ f.len ≤ lenMost) ∧ RdS w.heap.size w A f
theorem bytes35 : Try.prog.bytesOf 35 = 136 := by kernel_rfl
theorem el_of {m : Nat} {a : Addr} {cs : List Value} {y : DataW H × List MemPlace} (ih : ∀ k, k < m → ∀ (cs : List Value) (x : DataW H × List MemPlace), DataW.trod enc Try.prog w base (fun _ => true) held k 22 cs = some x → (x.1.weights Try.prog 22).all (· ≤ reachBytes) = true → IsFo w cs)
    (h1 : w.cells? base a (Try.prog.cellsOf 35) = some cs) (h2 : DataW.trod enc Try.prog w base (fun _ => true) held m 35 cs = some y) (hw : (y.1.weights Try.prog 35).all (· ≤ reachBytes) = true) : ∃ h b e, El w a h b e := by
  obtain ⟨_, hcl, hat⟩ := World.cells?_some h1
  obtain ⟨xs, n, hm, hy, hl, hxl, hf⟩ := DataW.trod_struct Try.underlying35 h2
  have c35 : Try.prog.cellsOf 35 = 13 := by kernel_rfl
  have c28 : Try.prog.cellsOf 28 = 1 := by kernel_rfl
  have c31 : Try.prog.cellsOf 31 = 4 := by kernel_rfl
  have c33 : Try.prog.cellsOf 33 = 5 := by kernel_rfl
  have c22 : Try.prog.cellsOf 22 = 1 := by kernel_rfl
  have c3 : Try.prog.cellsOf 3 = 1 := by kernel_rfl
  rw [c35] at hl hat
  have hx : ∀ i, i < 6 → ∃ y, xs[i]? = some y := fun i hi => ⟨_, List.getElem?_eq_getElem (by rw [hxl]; exact hi)⟩
  have h0 : DataW.trod enc Try.prog w base (fun _ => true) held n 28 ((cs.drop 0).take (Try.prog.cellsOf 28)) = xs[0]? := hf 0 _ rfl
  have h1 : DataW.trod enc Try.prog w base (fun _ => true) held n 31 ((cs.drop 1).take (Try.prog.cellsOf 31)) = xs[1]? := hf 1 _ rfl
  have h2 : DataW.trod enc Try.prog w base (fun _ => true) held n 33 ((cs.drop 5).take (Try.prog.cellsOf 33)) = xs[2]? := hf 2 _ rfl
  have h3 : DataW.trod enc Try.prog w base (fun _ => true) held n 22 ((cs.drop 10).take (Try.prog.cellsOf 22)) = xs[3]? := hf 3 _ rfl
  have h4 : DataW.trod enc Try.prog w base (fun _ => true) held n 22 ((cs.drop 11).take (Try.prog.cellsOf 22)) = xs[4]? := hf 4 _ rfl
  have h5 : DataW.trod enc Try.prog w base (fun _ => true) held n 3 ((cs.drop 12).take (Try.prog.cellsOf 3)) = xs[5]? := hf 5 _ rfl
  rw [c28] at h0
  rw [c31] at h1
  rw [c33] at h2
  rw [c22] at h3 h4
  rw [c3] at h5
  obtain ⟨y0, e0⟩ := hx 0 (by omega)
  obtain ⟨y1, e1⟩ := hx 1 (by omega)
  obtain ⟨y2, e2⟩ := hx 2 (by omega)
  obtain ⟨y3, e3⟩ := hx 3 (by omega)
  obtain ⟨y4, e4⟩ := hx 4 (by omega)
  obtain ⟨y5, e5⟩ := hx 5 (by omega)
  have hmem : ∀ (i : Nat) (t : TypeId) (z : DataW H × List MemPlace), xs[i]? = some z → ([28, 31, 33, 22, 22, 3] : List TypeId)[i]? = some t → (z.1.weights Try.prog t).all (· ≤ reachBytes) = true := by
    intro i t z hz ht
    rw [hy] at hw
    have e : DataW.weights Try.prog 35 (.agg (xs.map (·.1))) = DataW.weightsEach Try.prog [28, 31, 33, 22, 22, 3] (xs.map (·.1)) := by
      unfold DataW.weights
      rw [Try.underlying35]
      rfl
    rw [e] at hw
    rw [List.all_eq_true] at hw ⊢
    intro q hq
    exact hw q (DataW.weights_mem_each ht (by rw [List.getElem?_map, hz]; rfl) q hq)
  have w3 := hmem 3 22 y3 e3 rfl
  have w4 := hmem 4 22 y4 e4 rfl
  rw [e0] at h0
  rw [e1] at h1
  rw [e2] at h2
  rw [e3] at h3
  rw [e4] at h4
  rw [e5] at h5
  obtain ⟨k, q0, _, wf0⟩ := DataW.trod_int Try.underlying28 h0
  obtain ⟨ti, hi, q1⟩ := in_cells h1
  obtain ⟨nt, tc, hc, q2⟩ := cond_cells h2
  obtain ⟨b, Ab, cb, q3, hb1, hb2⟩ := (ih n (by omega) _ _ h3 w3).ex
  obtain ⟨e, Ae, ce, q4, he1, he2⟩ := (ih n (by omega) _ _ h4 w4).ex
  obtain ⟨ln, q5, _, wf5⟩ := DataW.trod_int Try.underlying3 h5
  rcases cs with _ | ⟨v0, _ | ⟨v1, _ | ⟨v2, _ | ⟨v3, _ | ⟨v4, _ | ⟨v5, _ | ⟨v6, _ | ⟨v7, _ | ⟨v8, _ | ⟨v9, _ | ⟨v10, _ | ⟨v11, _ | ⟨v12, _ | ⟨v13, cs⟩⟩⟩⟩⟩⟩⟩⟩⟩⟩⟩⟩⟩⟩ <;> simp at hl
  simp [In.cells] at q0 q1 q2 q3 q4 q5
  obtain ⟨rfl, rfl, rfl, rfl⟩ := q1
  obtain ⟨rfl, rfl, rfl, rfl, rfl⟩ := q2
  subst q0 q3 q4 q5
  refine ⟨⟨k, ti, nt, tc, ln⟩, b, e, ⟨(wf_u8 wf0).1, (wf_u8 wf0).2, hi, hc, (wf_i64 wf5).1, (wf_i64 wf5).2⟩, Ab, cb, Ae, ce, fun j u hu => ?_, hb1, he1, hb2, he2⟩
  have hj : j < 13 := (List.getElem?_eq_some_iff.1 hu).1
  rw [hat j hj]
  exact hu
theorem fo_of {a : Addr} {len : Nat} (hel : ∀ i, i < len → ∃ h b e, El w (a.add (i * 13)) h b e) (hg : a.spot = none) (hlt : a.block < w.heap.size) : ∀ (m k : Nat), k + m = len → ∃ f : Fo, f.len = m ∧ RdF w.heap.size w f a.block (a.off + k * 13)
  | 0, k, h => ⟨.nil, rfl, trivial⟩
  | m + 1, k, h => by
    obtain ⟨hd, b, e, hok, Ab, cb, Ae, ce, h1, h2, h3, h4, h5⟩ := hel k (by omega)
    obtain ⟨r, hr, hrd⟩ := fo_of hel hg hlt m (k + 1) (by omega)
    refine ⟨.cons hd b e r, by simp [Fo.len, hr], hok, hlt, ⟨Ab, cb, Ae, ce, fun j u hu => ?_, h2, h3, h4, h5⟩, ?_⟩
    · have := h1 j u hu
      obtain ⟨g, o, s⟩ := a
      simp only at hg
      subst hg
      rw [addr_add, addr_add] at this
      exact this
    · rw [show a.off + k * 13 + 13 = a.off + (k + 1) * 13 by omega]
      exact hrd
theorem open_fo : ∀ (fuel : Nat) (cs : List Value) (x : DataW H × List MemPlace), DataW.trod enc Try.prog w base (fun _ => true) held fuel 22 cs = some x → (x.1.weights Try.prog 22).all (· ≤ reachBytes) = true → IsFo w cs := by
  intro fuel
  induction fuel using Nat.strongRecOn with
  | ind fuel ih =>
    intro cs x h hw
    rcases DataW.trod_slice Try.underlying22 h with ⟨hcs, _⟩ | ⟨a, len, cap, elems, rest, n, hn, hcs, hx, hb, hl, hm, hlen, hel, hsp, _⟩
    · exact ⟨.nil, none, 0, by rw [hcs]; rfl, ⟨Nat.le_refl _, by simp [maxLen], by simp [Fo.len, lenMost]⟩, RdS.nil _ _ _⟩
    · have c35 : Try.prog.cellsOf 35 = 13 := by kernel_rfl
      have e : DataW.weights Try.prog 22 (.slice (elems.map (·.1)) (rest.map (·.1))) = ((elems.map (·.1)).length + (rest.map (·.1)).length) * Try.prog.bytesOf 35 :: (DataW.weightsAll Try.prog 35 (elems.map (·.1)) ++ DataW.weightsAll Try.prog 35 (rest.map (·.1))) := by
        unfold DataW.weights
        rw [Try.underlying22]
      rw [hx] at hw
      simp only at hw
      rw [e, List.all_cons, Bool.and_eq_true, bytes35] at hw
      obtain ⟨hw1, hw2⟩ := hw
      have hmost : len ≤ lenMost := by
        simp [reachBytes, hlen] at hw1
        unfold lenMost
        omega
      have hels : ∀ i, i < len → ∃ h b e, El w (a.add (i * 13)) h b e := by
        intro i hi
        have h1 := hel i hi
        rw [c35] at h1
        obtain ⟨y, hy⟩ : ∃ y, elems[i]? = some y := ⟨_, List.getElem?_eq_getElem (by omega)⟩
        rw [hy] at h1
        obtain ⟨cs', hc1, hc2⟩ := Option.bind_eq_some_iff.1 h1
        refine el_of (m := n) (fun k hk cs x h hw => ih k (by omega) cs x h hw) (by rw [c35]; exact hc1) hc2 ?_
        rw [List.all_append, Bool.and_eq_true] at hw2
        have h2 := hw2.1
        rw [List.all_eq_true] at h2 ⊢
        intro q hq
        exact h2 q (weights_mem_all (by rw [List.getElem?_map, hy]; rfl) q hq)
      rcases Nat.eq_zero_or_pos len with h0 | h0
      · subst h0
        exact ⟨.nil, some a, cap, by rw [hcs]; rfl, ⟨by simp [Fo.len], hm, by simp [Fo.len, lenMost]⟩, RdS.nil _ _ _⟩
      · obtain ⟨hd, b, e2, _, Ab, cb, Ae, ce, hcell, _⟩ := hels 0 h0
        have hc0 := hcell 0 _ rfl
        have hsp : a.spot = none := by
          obtain ⟨g, o, s⟩ := a
          simpa [Addr.add] using World.cell?_spot hc0
        obtain ⟨g, o, s⟩ := a
        simp only at hsp
        subst hsp
        rw [addr_add, addr_add] at hc0
        have hlt := block_lt_of_cell hc0
        obtain ⟨f, hf, hrd⟩ := fo_of hels rfl hlt len 0 (by omega)
        refine ⟨f, _, cap, by rw [hcs, hf], ⟨by omega, hm, by omega⟩, fun _ => ⟨g, o, rfl, by simpa using hrd⟩⟩
end
end Go.Proofs.Ytebmgladdgmmeaa
