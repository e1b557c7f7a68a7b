/- A region that makes six boxes and fills them, in whatever order. Plain theorems over any program; no condition. -/
import Derived.Test.YtaiekpdoljleeaaFrm
import Derived.Deep.RegionHeld3
import Derived.Laws.Tables
import Derived.Deep.WholeRow
import Derived.Laws.CopyOwn
namespace Go.Proofs.Ytaiekpdoljleeaa
open Go.RowKit Go.WideShapes
set_option linter.unusedVariables false
set_option linter.unusedSimpArgs false
/-- How many of the first n have not come up. -/
def cnt (l : Array Bool) : Nat → Nat
  | 0 => 0
  | n + 1 => cnt l n + (if l.getD n true = true then 0 else 1)
theorem getD_set_same {l : Array Bool} {i : Nat} (h : l.getD i true = false) (d : Bool) : (l.setIfInBounds i true).getD i d = true := by
  rcases Nat.lt_or_ge i l.size with h' | h'
  · simp [h']
  · simp [Array.getElem?_eq_none h'] at h
theorem getD_set_far {l : Array Bool} {i j : Nat} (h : i ≠ j) (d : Bool) : (l.setIfInBounds i true).getD j d = l.getD j d := by
  simp only [Array.getD_eq_getD_getElem?, Array.getElem?_setIfInBounds_ne h]
theorem cnt_set {l : Array Bool} {i : Nat} (h : l.getD i true = false) : ∀ n, (n ≤ i → cnt (l.setIfInBounds i true) n = cnt l n) ∧ (i < n → cnt (l.setIfInBounds i true) n + 1 = cnt l n)
  | 0 => ⟨fun _ => rfl, fun h => by omega⟩
  | n + 1 => by
    obtain ⟨h1, h2⟩ := cnt_set h n
    refine ⟨fun hn => ?_, fun hn => ?_⟩
    · rw [cnt, cnt, h1 (by omega), getD_set_far (by omega)]
    · rw [cnt, cnt]
      rcases Nat.lt_or_ge i n with hlt | hge
      · rw [getD_set_far (by omega)]
        have := h2 hlt
        omega
      · obtain rfl : i = n := by omega
        rw [h1 (by omega), getD_set_same h, h]
        simp
theorem cnt_zero {l : Array Bool} : ∀ {n : Nat}, cnt l n = 0 → ∀ i, i < n → l.getD i true = true
  | 0, _, i, hi => by omega
  | n + 1, h, i, hi => by
    rw [cnt] at h
    rcases Nat.lt_or_ge i n with hlt | hge
    · exact cnt_zero (by omega) i hlt
    · obtain rfl : i = n := by omega
      split at h
      · assumption
      · omega
/-- If none may come up, all have. -/
theorem all_listed {md : Region.Mode} {ops : Array Oper} {l : Array Bool} (hl : l.size = ops.size) (hlow : ∀ i o, ops[i]? = some o → ∀ e ∈ o.after, Region.binds md e = true → e.on < i) (hr : Region.ready md ops l = []) : ∀ n i, i < n → i < ops.size → l.getD i false = true
  | 0, i, hi, _ => by omega
  | n + 1, i, hi, hs => by
    refine Classical.byContradiction fun hn => ?_
    have hmem : i ∈ Region.ready md ops l := by
      refine mem_ready.2 ⟨?_, ops[i], Array.getElem?_eq_getElem hs, fun e he hb => ?_⟩
      · have : l.getD i true = l.getD i false := by simp [Array.getD_eq_getD_getElem?, Array.getElem?_eq_getElem (show i < l.size by omega)]
        rw [this]; simpa using hn
      · have := hlow i ops[i] (Array.getElem?_eq_getElem hs) e he hb
        exact all_listed hl hlow hr n e.on (by omega) (by omega)
    rw [hr] at hmem
    cases hmem
/-- What is told of the region: the boxes j, from operation nA on made, from nS on filled. -/
structure Six (P : Program) (md : Region.Mode) (ops : Array Oper) (t : TypeId) (z : Array Value) (vals : Nat → Array Value) (F : (Nat → Value) → Act) (k nA nS d0 : Nat) (vs : Nat → Nat) : Prop where
  size : ops.size = nS + k
  order : nA + k = nS
  low : ∀ i o, ops[i]? = some o → ∀ e ∈ o.after, Region.binds md e = true → e.on < i
  make : ∀ j, j < k → ∃ o, ops[nA + j]? = some o ∧ o.op = .alloc t ∧ o.dst = some (d0 + j) ∧ o.guard = none
  fill : ∀ j, j < k → ∃ o, ops[nS + j]? = some o ∧ o.op = .store t (.tmp (d0 + j)) (.tmp (vs j)) ∧ o.dst = none ∧ o.guard = none ∧ ∃ e ∈ o.after, e.on = nA + j ∧ Region.binds md e = true
  put : ∀ s j v, j < k → (F s).put (some (d0 + j)) v = F (fun i => if i = j then v else s i)
  get : ∀ s j, j < k → (F s).eval (.tmp (d0 + j)) = s j
  val : ∀ s j, j < k → (F s).eval (.tmp (vs j)) = .agg (vals j)
  zero : (P.info? t).map (fun i => (i.zero, i.size)) = some (some (.agg z), z.size)
  len : ∀ j, j < k → (vals j).size = z.size ∧ (vals j).all (·.oneCell') = true
structure SixI (w0 : World) (t : TypeId) (z : Array Value) (vals : Nat → Array Value) (k nA nS : Nat) (l : Array Bool) (s : Nat → Value) (w : World) : Prop where
  box : ∀ j, j < k → l.getD (nA + j) true = true → ∃ g, s j = .pointer (some ⟨g, 0, none⟩) ∧ w0.heap.size ≤ g ∧ Blk w g t (if l.getD (nS + j) true = true then vals j else z)
  apart : ∀ i j g, i < k → j < k → l.getD (nA + i) true = true → l.getD (nA + j) true = true → s i = .pointer (some ⟨g, 0, none⟩) → s j = .pointer (some ⟨g, 0, none⟩) → i = j
  before : ∀ i, i < nA → l.getD i true = true
  held : ∀ j, j < k → l.getD (nA + j) true = false → l.getD (nS + j) true = false
  low : Below w0.heap.size w0 w
theorem six_all {P : Program} {ops : Array Oper} {Q : Exit → Act → World → Prop} {md : Region.Mode} {t : TypeId} {z : Array Value} {vals : Nat → Array Value} {F : (Nat → Value) → Act} {k nA nS d0 : Nat} {vs : Nat → Nat} {w0 : World} (H : Six P md ops t z vals F k nA nS d0 vs)
    (hend : ∀ s w, (∀ j, j < k → ∃ g, s j = .pointer (some ⟨g, 0, none⟩) ∧ w0.heap.size ≤ g ∧ Blk w g t (vals j)) → Below w0.heap.size w0 w → Q .normal (F s) w) :
    ∀ (fuel : Nat) (l : Array Bool) (s : Nat → Value) (w : World), l.size = ops.size → cnt l ops.size ≤ fuel → SixI w0 t z vals k nA nS l s w → wpAnyH P md ops Q (fun _ => True) fuel l (F s) w
  | 0, l, s, w, hl, hc, hi => by
    have hall := cnt_zero (Nat.le_zero.1 hc)
    refine ⟨?_, hend s w (fun j hj => ?_) hi.low⟩
    · refine List.eq_nil_iff_forall_not_mem.2 fun i him => ?_
      obtain ⟨h1, o, h2, _⟩ := mem_ready.1 him
      rw [hall i (Array.getElem?_eq_some_iff.1 h2).1] at h1
      cases h1
    · have e1 := H.size
      have e2 := H.order
      obtain ⟨g, h1, h2, h3⟩ := hi.box j hj (hall _ (by omega))
      rw [if_pos (hall _ (by omega))] at h3
      exact ⟨g, h1, h2, h3⟩
  | fuel + 1, l, s, w, hl, hc, hi => by
    have e1 := H.size
    have e2 := H.order
    refine ⟨fun hr => ?_, fun i him => ?_⟩
    · have hall : ∀ i, i < ops.size → l.getD i true = true := fun i hs => by
        have := all_listed hl H.low hr (i + 1) i (by omega) hs
        have e : l.getD i true = l.getD i false := by simp [Array.getD_eq_getD_getElem?, Array.getElem?_eq_getElem (show i < l.size by omega)]
        rw [e]; exact this
      refine hend s w (fun j hj => ?_) hi.low
      obtain ⟨g, h1, h2, h3⟩ := hi.box j hj (hall _ (by omega))
      rw [if_pos (hall _ (by omega))] at h3
      exact ⟨g, h1, h2, h3⟩
    · obtain ⟨hun, o, ho, hdep⟩ := mem_ready.1 him
      have his : i < ops.size := (Array.getElem?_eq_some_iff.1 ho).1
      have hcs := (cnt_set hun ops.size).2 his
      have hcnt : cnt (l.setIfInBounds i true) ops.size ≤ fuel := by omega
      have hls : (l.setIfInBounds i true).size = ops.size := by simpa using hl
      have hiA : nA ≤ i := by
        refine Nat.le_of_not_lt fun hlt => ?_
        rw [hi.before i hlt] at hun
        cases hun
      have hbef : ∀ q, q < nA → (l.setIfInBounds i true).getD q true = true := fun q hq => by
        rw [getD_set_far (by omega)]; exact hi.before q hq
      rcases Nat.lt_or_ge i nS with hlt | hge
      · obtain ⟨j, rfl⟩ : ∃ j, i = nA + j := ⟨i - nA, by omega⟩
        have hj : j < k := by omega
        obtain ⟨o', ho', hop, hdst, hg⟩ := H.make j hj
        obtain rfl : o' = o := by rw [ho'] at ho; exact Option.some.inj ho
        refine wpOp_step ho fun K hK => ?_
        rw [if_pos (by simp [Region.wanted, hg])]
        have hz := (zero_of_info H.zero).1 w
        have hrun : (newRow t z).run P w = .ok ⟨w.heap.size, 0, none⟩ (w.alloc (.cells z t)) := rfl
        unfold Oper.wp execOp
        simp only [hop, Instr.alloc, newVar, Sem.run_bind, hz, Result.andThen_ok, Sem.run_pure, Value.cells, hrun, Oper.upon_value, hdst]
        rw [H.put s j _ hj]
        refine hK _ _ ⟨trivial, six_all H hend fuel _ _ _ hls hcnt ⟨fun q hq hlq => ?_, fun q r g hq hr hlq hlr hsq hsr => ?_, hbef, fun q hq hlq => ?_, hi.low.alloc hi.low.size _⟩⟩
        · rw [getD_set_far (i := nA + j) (j := nS + q) (by omega)]
          by_cases hqj : q = j
          · subst hqj
            refine ⟨w.heap.size, by simp, hi.low.size, ?_⟩
            have hnf : l.getD (nS + q) true = false := hi.held q hq hun
            rw [hnf]
            exact Blk.new _ _ _
          · rw [getD_set_far (by omega)] at hlq
            obtain ⟨g, h1, h2, h3⟩ := hi.box q hq hlq
            exact ⟨g, by simp [hqj, h1], h2, h3.alloc _⟩
        · have hnew : ∀ q g, q < k → q ≠ j → (l.setIfInBounds (nA + j) true).getD (nA + q) true = true → s q = .pointer (some ⟨g, 0, none⟩) → g < w.heap.size := fun q g hq hqj hlq hsq => by
            rw [getD_set_far (by omega)] at hlq
            obtain ⟨g', h1, h2, h3⟩ := hi.box q hq hlq
            rw [hsq] at h1
            simp at h1
            subst h1
            exact h3.lt
          try simp only at hsq hsr
          by_cases hqj : q = j <;> by_cases hrj : r = j
          · omega
          · rw [if_pos hqj] at hsq; rw [if_neg hrj] at hsr
            simp at hsq
            subst hsq
            exact absurd (hnew r _ hr hrj hlr hsr) (by omega)
          · rw [if_neg hqj] at hsq; rw [if_pos hrj] at hsr
            simp at hsr
            subst hsr
            exact absurd (hnew q _ hq hqj hlq hsq) (by omega)
          · rw [if_neg hqj] at hsq; rw [if_neg hrj] at hsr
            rw [getD_set_far (by omega)] at hlq hlr
            exact hi.apart q r g hq hr hlq hlr hsq hsr
        · by_cases hqj : q = j
          · subst hqj
            rw [getD_set_same hun] at hlq; cases hlq
          · rw [getD_set_far (by omega)] at hlq ⊢
            exact hi.held q hq hlq
      · obtain ⟨j, rfl⟩ : ∃ j, i = nS + j := ⟨i - nS, by omega⟩
        have hj : j < k := by omega
        obtain ⟨o', ho', hop, hdst, hg, e, he, heon, heb⟩ := H.fill j hj
        obtain rfl : o' = o := by rw [ho'] at ho; exact Option.some.inj ho
        refine wpOp_step ho fun K hK => ?_
        rw [if_pos (by simp [Region.wanted, hg])]
        have hmade : l.getD (nA + j) true = true := by
          have := hdep e he heb
          rw [heon] at this
          rw [← this]
          simp [Array.getD_eq_getD_getElem?, Array.getElem?_eq_getElem (show nA + j < l.size by omega)]
        obtain ⟨g, h1, h2, h3⟩ := hi.box j hj hmade
        rw [hun] at h3
        obtain ⟨hv1, hv2⟩ := H.len j hj
        have hinf : (P.info? t).map (·.size) = some (vals j).size := by rw [hv1]; exact (zero_of_info H.zero).2
        have hrun := run_storeVar_row (P := P) w g t t z (vals j) h3 hinf (by simpa using hv1.symm) hv2
        unfold Oper.wp execOp
        simp only [hop, H.get s j hj, H.val s j hj, h1, Instr.storeAt, Instr.sureAddr, Sem.run_bind, Sem.run_pure, Result.andThen_ok, hrun, Oper.upon_skip, hdst]
        have hblk : Blk (w.setRow g (vals j)) g t (vals j) := setRow_heap w g _ _ t _ h3
        have hfar : ∀ {q : Nat} {cs : Array Value}, Blk w q t cs → q ≠ g → Blk (w.setRow g (vals j)) q t cs := fun hb hq => (setRow_other w g _ (vals j) hq).trans hb
        refine hK _ _ ⟨trivial, six_all H hend fuel _ _ _ hls hcnt ⟨fun q hq hlq => ?_, fun q r g' hq hr hlq hlr hsq hsr => ?_, hbef, fun q hq hlq => ?_, below_setRow hi.low h2 _⟩⟩
        · rw [getD_set_far (by omega)] at hlq
          by_cases hqj : q = j
          · subst hqj
            rw [getD_set_same hun]
            exact ⟨g, h1, h2, hblk⟩
          · rw [getD_set_far (by omega)]
            obtain ⟨g', h4, h5, h6⟩ := hi.box q hq hlq
            exact ⟨g', h4, h5, hfar h6 fun e => hqj (hi.apart q j g hq hj hlq hmade (by rw [h4, e]) h1)⟩
        · rw [getD_set_far (by omega)] at hlq hlr
          exact hi.apart q r g' hq hr hlq hlr hsq hsr
        · rw [getD_set_far (by omega)] at hlq
          by_cases hqj : q = j
          · subst hqj
            rw [hmade] at hlq; cases hlq
          · rw [getD_set_far (by omega)]
            exact hi.held q hq hlq
end Go.Proofs.Ytaiekpdoljleeaa
