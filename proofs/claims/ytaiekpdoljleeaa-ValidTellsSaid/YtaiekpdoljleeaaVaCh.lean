/- May a code be run: the walk. Condition: none beyond a slice's own. -/
import Derived.Test.YtaiekpdoljleeaaVaCk
namespace Go.Proofs.Ytaiekpdoljleeaa
open Go.RowKit Go.WideShapes Go.Maps
set_option linter.unusedVariables false
set_option linter.unusedSimpArgs false
structure IsCheck (bs : List Int) (ps : List (Nat × In)) (z : Nat) (post : Bool) (w0 : World) (e : Ending) (w : World) : Prop where
  ret : e = .returned (.int .i64 (codeC bs ps z post))
  low : Below w0.heap.size w0 w
theorem CV.frm {S : Nat → Prop} {H : Nat} {post : Bool} {w0 w w' : World} {n1 n2 : Nat} {l1 l2 : List Int} {g : Bool} {l : Int} (h : CV H post w0 n1 l1 n2 l2 g l w) (hf : Frm S w w') (hn : ∀ k, S k → H + 6 < k) : CV H post w0 n1 l1 n2 l2 g l w' := by
  have hno : ∀ k, k ≤ H + 6 → ¬ S k := fun k hk hs => by have := hn k hs; omega
  exact ⟨h.p.frm hf (hno _ (by omega)), h.k1.frm hf (hno _ (by omega)), h.k2.frm hf (hno _ (by omega)), h.b1.frm hf (hno _ (by omega)), h.b2.frm hf (hno _ (by omega)), h.gd.frm hf (hno _ (by omega)), h.ls.frm hf (hno _ (by omega)), h.low.trans (hf.to_below (by have := h.size; omega) (fun k hk => by have := hn k hk; omega))⟩
theorem grown_set (w : World) (g : Nat) (u : Value) : w.grownBy (w.setCell ⟨g, 0, none⟩ u) (some g) :=
  ⟨rfl, rfl, rfl, by simp [World.setCell], fun k hk hne => Below.heap_setCell w ⟨g, 0, none⟩ u k (fun e => hne (by simp at e ⊢; omega))⟩
/-- Going through the jumps' goals: what is seen, what the verdict is so far. -/
structure Going (H : Nat) (post : Bool) (w0 : World) (ps : List (Nat × In)) (r : Nat) (w : World) : Prop where
  ex : ∃ (D : DataW Unit) (left : Lit → Bool) (cnt : Nat) (dn : List Int), w.ranges Try.prog 3 (plainElem Try.prog 3) (H + 2) r ps.length D left cnt ∧ (∀ x : Int, left (.int .i64 x) = ((goesI ps).contains x && !dn.contains x)) ∧ (∀ x ∈ dn, x ∈ goesI ps) ∧
    CV H post w0 ps.length (startsI ps) ps.length (goesI ps) (goodI post ps && dn.all (fun x => (startsI ps).contains x)) (lastI ps) w
  far : H + 6 < r
theorem all_same {l dn : List Int} (f : Int → Bool) (h1 : ∀ x ∈ dn, x ∈ l) (h2 : ∀ x ∈ l, x ∈ dn) : dn.all f = l.all f := by
  rw [Bool.eq_iff_iff, List.all_eq_true, List.all_eq_true]
  exact ⟨fun h x hx => h x (h2 x hx), fun h x hx => h x (h1 x hx)⟩
theorem codeC_of {bs : List Int} {ps : List (Nat × In)} {z : Nat} {post g : Bool} (h : codeS bs z = 0) (hg : (goodI post ps && (goesI ps).all fun x => (startsI ps).contains x) = g) : codeC bs ps z post = if g && endI (lastI ps) then 0 else 110 := by
  unfold codeC checkI
  rw [if_pos h, hg]
theorem cc_start (w : World) (post : Bool) : CC w.heap.size post w [] (((((((w.alloc (.cells #[.bool post] 4)).alloc (.map #[] 0)).alloc (.map #[] 0)).alloc (.cells #[.map (some (w.heap.size + 1))] 55)).alloc (.cells #[.map (some (w.heap.size + 2))] 55)).alloc (.cells #[.bool true] 4)).alloc (.cells #[.int .u8 0] 34)) := by
  have h0 := Blk.new w 4 #[.bool post]
  have h1 := kset_new (w.alloc (.cells #[.bool post] 4))
  have h2 := kset_new ((w.alloc (.cells #[.bool post] 4)).alloc (.map #[] 0))
  have h3 := Blk.new (((w.alloc (.cells #[.bool post] 4)).alloc (.map #[] 0)).alloc (.map #[] 0)) 55 #[.map (some (w.heap.size + 1))]
  have h4 := Blk.new ((((w.alloc (.cells #[.bool post] 4)).alloc (.map #[] 0)).alloc (.map #[] 0)).alloc (.cells #[.map (some (w.heap.size + 1))] 55)) 55 #[.map (some (w.heap.size + 2))]
  have h5 := Blk.new (((((w.alloc (.cells #[.bool post] 4)).alloc (.map #[] 0)).alloc (.map #[] 0)).alloc (.cells #[.map (some (w.heap.size + 1))] 55)).alloc (.cells #[.map (some (w.heap.size + 2))] 55)) 4 #[.bool true]
  have h6 := Blk.new ((((((w.alloc (.cells #[.bool post] 4)).alloc (.map #[] 0)).alloc (.map #[] 0)).alloc (.cells #[.map (some (w.heap.size + 1))] 55)).alloc (.cells #[.map (some (w.heap.size + 2))] 55)).alloc (.cells #[.bool true] 4)) 34 #[.int .u8 0]
  simp only [World.size_alloc] at h1 h2 h3 h4 h5 h6
  refine ⟨(((((h0.alloc _).alloc _).alloc _).alloc _).alloc _).alloc _, ((((h1.alloc _).alloc _).alloc _).alloc _).alloc _, (((h2.alloc _).alloc _).alloc _).alloc _, ((h3.alloc _).alloc _).alloc _, (h4.alloc _).alloc _, h5.alloc _, h6, ?_⟩
  exact (((((((Below.refl _ w).alloc (Nat.le_refl _) _).alloc (by simp) _).alloc (by simp; omega) _).alloc (by simp; omega) _).alloc (by simp; omega) _).alloc (by simp; omega) _).alloc (by simp; omega) _
set_option maxRecDepth 100000 in
set_option maxHeartbeats 4000000 in
theorem check_any (bs : List Int) (A : Option Addr) (n c : Nat) (ps : List (Nat × In)) (z : Nat) (post : Bool) (w : World) (hn : n = bs.length) (ho : Oct bs) (hr : Rd w A (octs bs)) (hnm : n ≤ 9223372036854775807) (hs : n ≤ 4096 → Scan bs ps z) :
    Calls Try.prog 26 #[.slice A n c, .bool post] w (IsCheck bs ps z post w) := by
  have hmf : ∀ (fn : Fn) (first cap : Array Value) (w : World), (Instr.makeFunc fn first cap).run Try.prog w = .ok (.func fn first cap) w := fun _ _ _ _ => rfl
  have hmm := @run_makeMap Try.prog
  have he := eachC_any bs A n c ps z w.heap.size post w _ hn ho (((((((hr.alloc _).alloc _).alloc _).alloc _).alloc _).alloc _).alloc _) hnm hs (cc_start w post) (by simp; omega) (fun h0 => hr.low0 (by rw [octs_length]; omega))
  have HE := Lib.hid he
  have HN := Lib.hid hn
  clear he hn ho hr hs
  go_enter Try.func26, Try.ntmps26
  go_wp2_with fail
  simp only [Nat.add_assoc, Nat.reduceAdd]
  refine (HE.out).mono ?_
  rintro e w1 ⟨rfl, done, hdone, hcc⟩
  rcases (show codeS bs z = 0 ∨ codeS bs z ≠ 0 from by omega) with h | h
  · obtain rfl := hdone h
    have hcv : CV w.heap.size post w done.length (startsI done) done.length (goesI done) (goodI post done) (lastI done) w1 := hcc
    have hz := hcv.size
    have m2 := hcv.b2.cell 0
    simp at m2
    have H := Lib.hid h
    rw [H.out]
    generalize hHH : w.heap.size = HH at *
    have HW := Lib.hid hHH
    clear hHH h hdone hcc HE
    obtain ⟨w2, cnt, hrun, hrg, hgr, hsz⟩ := hcv.k2.range
    have HCV := Lib.hid hcv
    have HRG := Lib.hid hrg
    have HGR := Lib.hid hgr
    clear hcv hrg hgr
    go_wp2_with fail
    obtain ⟨D, left, hrg0, hl0⟩ := HRG.out.ex
    have hfr : Frm (fun _ => False) w1 w2 := Frm.of_grown HGR.out (fun k hk => by cases hk)
    have hgo : Going HH post w done w1.heap.size w2 := ⟨⟨D, left, cnt, [], hrg0, by simpa using hl0, by simp, by simpa using HCV.out.frm hfr (fun _ hf => hf.elim)⟩, hz⟩
    have HGO := Lib.hid hgo
    generalize w1.heap.size = r at *
    clear hgo hl0 hrg0 hfr HRG HGR HCV hsz
    go_loopw [10] (fun _ wr => Going HH post w done r wr) (fun _ wr => wr.rangeLeft (HH + 2) r)
    case atStart => exact HGO.out
    case round =>
      obtain ⟨⟨D, left, cnt, dn, hrg, hlf, hdn, hcv⟩, hfar⟩ := hrel
      have HCV := Lib.hid hcv
      have HLF := Lib.hid hlf
      have HDN := Lib.hid hdn
      clear hcv hlf hdn HGO
      go_wp2_with (at_next; refine wpList_next_ranges_ii _ rfl _ rfl 3 3 .i64 .i64 keyed3 Try.underlying3 Try.underlying3 (HH + 2) r done.length _ _ _ rfl hrg ?_ ?_)
      · intro hc0 hl0
        have hgg : (goodI post done && dn.all fun x => (startsI done).contains x) = (goodI post done && (goesI done).all fun x => (startsI done).contains x) := by
          rw [all_same (l := goesI done) (fun x => (startsI done).contains x) HDN.out (fun x hx => by
            have := HLF.out x
            rw [hl0] at this
            simp at this
            exact this hx)]
        obtain ⟨g, hg⟩ : ∃ g, (goodI post done && (goesI done).all fun x => (startsI done).contains x) = g := ⟨_, rfl⟩
        have hcv := HCV.out
        rw [hgg, hg] at hcv
        have hcode := codeC_of (bs := bs) (z := z) H.out hg
        have HLOW := Lib.hid hcv.low
        have m0 := hcv.gd.cell 0
        have m1 := hcv.ls.cell 0
        simp at m0 m1
        have HCD := Lib.hid hcode
        clear hcv hcode hgg hg hc0 hl0 HCV HLF HDN hrg m2 hrun
        generalize lastI done = o at *
        obtain ⟨q0, e0⟩ : ∃ q : Bool, (o == 0) = q := ⟨_, rfl⟩
        obtain ⟨q1, e1⟩ : ∃ q : Bool, (o == 29) = q := ⟨_, rfl⟩
        obtain ⟨q2, e2⟩ : ∃ q : Bool, (o == 30) = q := ⟨_, rfl⟩
        have d0 : (o != 0) = !q0 := by rw [← e0]; rfl
        have d1 : (o != 29) = !q1 := by rw [← e1]; rfl
        have d2 : (o != 30) = !q2 := by rw [← e2]; rfl
        have hend : endI o = (q0 || q1 || q2) := by unfold endI; rw [e0, e1, e2]
        have HEN := Lib.hid hend
        clear hend e0 e1 e2
        cases g <;> cases q0 <;> cases q1 <;> cases q2
        all_goals
          simp only [Bool.not_true, Bool.not_false] at d0 d1 d2
          go_wp2_with fail
          go_ret
          exact ⟨by rw [HCD.out, HEN.out]; rfl, HW.out ▸ HLOW.out⟩
      · intro x c2 w3 cnt1 hwx hwc hlx hat hrg1 hlt hg1 hs1 hen
        have hf3 : Frm (fun k => k = r) wr w3 := Frm.of_grown hg1 (fun k hk => (Option.some.inj hk).symm)
        have hv3 := HCV.out.frm hf3 (fun k hk => by omega)
        have hlk := hv3.k1.look x hwx
        have m1 := hv3.b1.cell 0
        have m5 := hv3.gd.cell 0
        have f5 := hv3.gd.frozen 0
        simp at m1
        have hleft := hrg.left_eq
        have hxin : x ∈ goesI done := by
          have := HLF.out x
          rw [hlx] at this
          simp at this
          exact this.1
        have hnew : ∀ g' : Bool, g' = ((goodI post done && dn.all fun x => (startsI done).contains x) && (startsI done).contains x) → Going HH post w done r (w3.setCell ⟨HH + 5, 0, none⟩ (.bool g')) ∧ (w3.setCell ⟨HH + 5, 0, none⟩ (.bool g')).rangeLeft (HH + 2) r < wr.rangeLeft (HH + 2) r := fun g' hg' => by
          have hk := hrg1.kept (grown_set w3 (HH + 5) (.bool g')) (by simp) (by simp; omega)
          refine ⟨⟨⟨D, _, cnt1, dn ++ [x], hk, fun y => left_step HLF.out x y, fun y hy => ?_, ?_⟩, hfar⟩, ?_⟩
          · rcases List.mem_append.1 hy with hy | hy
            · exact HDN.out y hy
            · simp at hy; subst hy; exact hxin
          · have := hv3.setG g'
            rw [hg', Bool.and_assoc] at this
            rw [List.all_append, hg', Bool.and_assoc]
            simpa using this
          · rw [hk.left_eq, hleft]; exact hlt
        have HNEW := Lib.hid hnew
        clear hnew hf3 hv3 hleft hxin hrg1 hg1 hat hlx HCV HLF HDN hrg hlt hs1
        generalize (goodI post done && dn.all fun x => (startsI done).contains x) = g at *
        generalize (startsI done).contains x = b at *
        simp at m5
        cases g <;> cases b
        all_goals
          simp only [if_true, if_false, Bool.false_eq_true] at hlk
          go_wp2_with fail
          exact HNEW.out _ rfl
  · have ec : codeC bs ps z post = codeS bs z := by unfold codeC; rw [if_neg h]
    have g : (codeS bs z != 0) = true := by simpa using h
    have HF := Lib.hid (show IsCheck bs ps z post w (.returned (.int .i64 (codeS bs z))) w1 from ⟨by rw [ec], (show CV _ _ _ _ _ _ _ _ _ _ from hcc).low⟩)
    generalize codeS bs z = x at *
    clear hdone hcc h ec HE
    go_wp2_with fail
    go_ret
    exact HF.out
end Go.Proofs.Ytaiekpdoljleeaa
