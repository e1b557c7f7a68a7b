/- Where a code's instructions start: the walk. Condition: none beyond a slice's own. -/
import Derived.Test.YtaiekpdoljleeaaVaPl
import Derived.Test.YtaiekpdoljleeaaCoGet
namespace Go.Proofs.Ytaiekpdoljleeaa
open Go.RowKit Go.WideShapes
set_option linter.unusedVariables false
set_option linter.unusedSimpArgs false
theorem tInts : SlT Try.prog 49 3 (.int .i64 0) 8 := ⟨Try.underlying49, by kernel_rfl, rfl⟩
def ints (l : List Int) : List Value := l.map (Value.int .i64)
/-- What has been told so far: the list behind box q. -/
structure SC (base q : Nat) (w0 : World) (done : List (Nat × In)) (w : World) : Prop where
  ex : ∃ v, Blk w q 49 #[v] ∧ w.ownsRow base 3 1 v done.length (ints (startsI done))
  low : Below base w0 w
theorem SC.below {base q : Nat} {w0 w w' : World} {done : List (Nat × In)} (h : SC base q w0 done w) (hb : Below w.heap.size w w') (hB : base ≤ w.heap.size) : SC base q w0 done w' := by
  obtain ⟨v, h1, h2⟩ := h.ex
  exact ⟨⟨v, h1.below hb, own_below h2 hb⟩, h.low.trans (hb.mono hB)⟩
theorem ints_snoc (l : List Int) (x : Int) : ints (l ++ [x]) = ints l ++ [.int .i64 x] := by simp [ints]
theorem setS {base q m : Nat} {w w2 : World} {A : Option Addr} {c : Nat} {xs : List Value} {o : Obj} (h1 : Blk w q 49 #[.slice A m c]) (h2 : w.ownsRow base 3 1 (.slice A m c) m xs) (hg : (w.alloc o).grownBy w2 (Value.slice A m c).ownBlock) : Blk w2 q 49 #[.slice A m c] := by
  refine (h1.alloc o).frm (Frm.of_grown (S := fun k => (Value.slice A m c).ownBlock = some k) hg (fun k hk => hk)) (fun hk => ?_)
  exact h1.apart h2 (by decide) _ hk rfl
theorem endS {base q m a : Nat} {t : In} {w0 w w2 : World} {A A2 : Option Addr} {c c2 : Nat} {done : List (Nat × In)} {o : Obj} (hl : Below base w0 w) (hq : Blk w2 q 49 #[.slice A m c]) (ho : w2.ownsRow base 3 1 (.slice A2 (m + 1) c2) (m + 1) (ints (startsI (done ++ [(a, t)])))) (hm : done.length = m) (hb : Below base (w.alloc o) w2) (hqb : base ≤ q) (hB : base ≤ w.heap.size) :
    SC base q w0 (done ++ [(a, t)]) (w2.setCell ⟨q, 0, none⟩ (.slice A2 (m + 1) c2)) := by
  refine ⟨⟨.slice A2 (m + 1) c2, by simpa using hq.set 0 (.slice A2 (m + 1) c2), ?_⟩, ?_⟩
  · rw [List.length_append, hm]
    exact Frm.own (S := fun k => k = q) (Frm.setCell (S := fun k => k = q) (p := ⟨q, 0, none⟩) (Frm.refl _ w2) (fun _ => rfl) _) ho (fun k hk e => hq.apart ho (by decide) _ hk e)
  · exact ((hl.trans (((Below.refl _ _).alloc hB o).trans hb))).setCell hqb _
structure DoneS (base q : Nat) (w0 : World) (done : List (Nat × In)) (w1 : World) (e : Ending) (w : World) : Prop where
  ret : e = .returned (.tuple #[])
  st : SC base q w0 done w
  step : Below base w1 w
set_option maxHeartbeats 1000000 in
theorem stepS (base q a : Nat) (t : In) (done : List (Nat × In)) (w0 w : World) (h : SC base q w0 done w) (hq : base ≤ q) (hB : base ≤ w.heap.size) (hl : done.length < 5000) :
    Calls Try.prog 53 #[.int .i64 a, t.agg, .pointer (some ⟨q, 0, none⟩)] w (DoneS base q w0 (done ++ [(a, t)]) w) := by
  obtain ⟨v, h1, h2⟩ := h.ex
  obtain ⟨A, c, rfl, hc⟩ := own_slice h2
  have c0 := h1.cell 0
  have f0 := h1.frozen 0
  simp at c0
  have H1 := Lib.hid h1
  have H2 := Lib.hid h2
  have HL := Lib.hid h.low
  have hlt := h1.lt
  clear h h1 h2
  unfold In.agg
  generalize hm : done.length = m at *
  have HM := Lib.hid hm
  clear hm
  go_enter Try.func53, Try.ntmps53
  go_wp2_with (at_builtin; refine wpList_app1 tInts rfl (.tmp 5) (.tmp 7) rfl base _ m _ rfl (H2.out.alloc _) (.int .i64 a) rfl (w.heap.size + 1) rfl (by simp) (by omega) (by unfold maxLen; omega) (by simp; omega) ?_; intro v2 w2 hown2 hg2 hb2; obtain ⟨A2, c2, rfl, hc2⟩ := own_slice hown2; have hq2 := setS H1.out H2.out hg2; have d0 := hq2.cell 0; have g0 := hq2.frozen 0; simp at d0; have HQ := Lib.hid hq2; have HO := Lib.hid hown2; have HB := Lib.hid hb2; clear hown2 hg2 hb2 hq2)
  go_end0
  exact ⟨rfl, endS HL.out HQ.out (by rw [startsI_snoc, ints_snoc]; exact HO.out) HM.out HB.out hq hB, (((Below.refl _ _).alloc hB _).trans HB.out).setCell hq _⟩
theorem Rd.lowB {base : Nat} {w w' : World} {A : Option Addr} {xs : List Value} (hr : Rd w A xs) (hb : Below base w w') (hA : ∀ x, A = some x → x.block < base) : Rd w' A xs := fun hn => by
  obtain ⟨b, off, rfl, hlt, hc⟩ := hr hn
  exact ⟨b, off, rfl, Nat.lt_of_lt_of_le hlt hb.size, fun i u hu => (hb.cell (p := ⟨b, off + i, none⟩) (hA ⟨b, off, none⟩ rfl)).trans (hc i u hu)⟩
/-- What 'each' tells, the starts told. -/
structure EachS (bs : List Int) (ps : List (Nat × In)) (z base q : Nat) (w0 : World) (e : Ending) (w : World) : Prop where
  ret : e = .returned (.int .i64 (codeS bs z))
  st : ∃ done, (codeS bs z = 0 → done = ps) ∧ SC base q w0 done w
set_option maxRecDepth 100000 in
set_option maxHeartbeats 2000000 in
theorem eachS_any (bs : List Int) (A : Option Addr) (n c : Nat) (ps : List (Nat × In)) (z base q : Nat) (w0 w : World) (hn : n = bs.length) (ho : Oct bs) (hr : Rd w A (octs bs)) (hnm : n ≤ 9223372036854775807) (hs : n ≤ 4096 → Scan bs ps z)
    (h : SC base q w0 [] w) (hq : base ≤ q) (hB : base ≤ w.heap.size) (hA : 0 < n → ∀ x, A = some x → x.block < base) :
    Calls Try.prog 51 #[.slice A n c, .func (.func 53) #[] #[.pointer (some ⟨q, 0, none⟩)]] w (EachS bs ps z base q w0) := by
  have HN := Lib.hid hn
  have HO := Lib.hid ho
  have HR := Lib.hid hr
  have HS := Lib.hid h
  have HSC := Lib.hid hs
  have HA := Lib.hid hA
  clear hn ho hr h hs hA
  rcases (show 4096 < n ∨ n = 0 ∨ (0 < n ∧ n ≤ 4096) from by omega) with h1 | h1 | ⟨h1, h2⟩
  · have e : codeS bs z = 3 := by unfold codeS; rw [if_pos (by rw [← HN.out]; exact h1)]
    have g : decide ((4096 : Int) < (n : Int)) = true := by simp; omega
    have E := Lib.hid e
    clear e
    go_enter Try.func51, Try.ntmps51
    go_wp2_with fail
    go_ret
    exact ⟨by rw [E.out]; rfl, [], fun h0 => absurd (E.out.symm.trans h0) (by omega), HS.out⟩
  · have e : codeS bs z = 110 := by unfold codeS; rw [if_neg (by rw [← HN.out]; omega), if_pos (by rw [← HN.out]; exact h1)]
    have g : decide ((4096 : Int) < (n : Int)) = false := by simp; omega
    have g2 : ((n : Int) == 0) = true := by simp; omega
    have E := Lib.hid e
    clear e h1
    go_enter Try.func51, Try.ntmps51
    go_wp2_with fail
    go_ret
    exact ⟨by rw [E.out]; rfl, [], fun h0 => absurd (E.out.symm.trans h0) (by omega), HS.out⟩
  · have g : decide ((4096 : Int) < (n : Int)) = false := by simp; omega
    have g2 : ((n : Int) == 0) = false := by simp; omega
    have hsc := HSC.out h2
    have HC := Lib.hid hsc
    clear hsc
    go_enter Try.func51, Try.ntmps51
    go_wp2_with fail
    go_loopw [5] (fun i wr => ∃ (done todo : List (Nat × In)) (at_ : Nat), done ++ todo = ps ∧ Chain bs at_ todo z ∧ at_ ≤ n ∧ done.length ≤ at_ ∧ i = .int .i64 at_ ∧ SC base q w0 done wr ∧ base ≤ wr.heap.size ∧ Below base w wr) (fun i _ => n - (intOf i).toNat)
    case atStart => exact ⟨[], ps, 0, rfl, HC.out.chain, by omega, by simp, rfl, HS.out, hB, Below.refl _ _⟩
    case round =>
      obtain ⟨done, todo, at_, hps, hch, hat, hdl, rfl, hsc, hBr, hbr⟩ := hrel
      have hrd := HR.out.lowB hbr (HA.out h1)
      rcases todo with _ | ⟨p, todo⟩
      · have hz : at_ = z := hch
        subst hz
        rcases HC.out.ends with hend | ⟨hlt, e, he, he0, he1, hge⟩
        · have g3 : decide (at_ < n) = false := by have := HN.out; simp; omega
          have ec : codeS bs at_ = 0 := by unfold codeS; rw [if_neg (by rw [← HN.out]; omega), if_neg (by rw [← HN.out]; omega), if_pos hend]
          have EC := Lib.hid ec
          have HP := Lib.hid (show done = ps by simpa using hps)
          have HX := Lib.hid hsc
          clear ec hps hch hsc hrd hend hbr
          go_wp2_with fail
          go_ret
          exact ⟨by rw [EC.out]; rfl, done, fun _ => HP.out, HX.out⟩
        · have g3 : decide (at_ < n) = true := by have := HN.out; simp; omega
          have ec : codeS bs at_ = 110 := by unfold codeS; rw [if_neg (by rw [← HN.out]; omega), if_neg (by rw [← HN.out]; omega), if_neg (by omega)]
          have g4 : (e != 0) = true := by simpa using he
          have hgt := get_any bs A n c at_ wr HN.out HO.out hrd hnm
          rw [hge] at hgt
          have HG := Lib.hid hgt
          have EC := Lib.hid ec
          have HX := Lib.hid hsc
          clear ec hps hch hsc hrd hgt hge hbr he
          go_wp2_with fail
          refine (HG.out).mono ?_
          rintro e1 w1 ⟨rfl, hb1⟩
          have HY := Lib.hid (HX.out.below hb1 hBr)
          have hs1 := hb1.size
          clear hb1
          unfold zI In.agg
          go_wp2_with fail
          go_ret
          refine ⟨by rw [EC.out]; rfl, done, fun h0 => absurd (EC.out.symm.trans h0) (by omega), ?_⟩
          exact HY.out.below ((Below.refl _ _).alloc (Nat.le_refl _) _) (by omega)
      · obtain ⟨hpa, hlt, n2, hge, hgot, hch2⟩ := hch
        have g3 : decide (at_ < n) = true := by have := HN.out; simp; omega
        have hgt := get_any bs A n c at_ wr HN.out HO.out hrd hnm
        rw [hge] at hgt
        have hlo := hgot.lo
        have hhi := hgot.hi
        have HG := Lib.hid hgt
        have HX := Lib.hid hsc
        have HP := Lib.hid hps
        have HC2 := Lib.hid hch2
        have HB := Lib.hid hbr
        have hnn := HN.out
        have hn2 : n2 ≤ n := by omega
        obtain ⟨a, t⟩ := p
        obtain rfl : a = at_ := hpa
        clear hps hch2 hsc hrd hgt hge hbr hnn hhi hgot
        go_wp2_with fail
        refine (HG.out).mono ?_
        rintro e1 w1 ⟨rfl, hb1⟩
        have hs1 := hb1.size
        have HY := Lib.hid ((HX.out.below hb1 hBr).below ((Below.refl _ _).alloc (Nat.le_refl _) (.cells #[.int .u8 t.o, .int .i64 t.d, .int .i64 t.s, .int .i64 t.n] 36)) (by omega))
        have HB1 := Lib.hid ((HB.out.trans (hb1.mono hBr)).alloc (by omega) (.cells #[.int .u8 t.o, .int .i64 t.d, .int .i64 t.s, .int .i64 t.n] 36))
        clear hb1
        unfold In.agg
        go_wp2_with fail
        refine (stepS base q a t done w0 _ HY.out hq (by simp; omega) (by omega)).mono ?_
        rintro e2 w2 ⟨rfl, hst2, hb2⟩
        have HZ := Lib.hid hst2
        have HB2 := Lib.hid (HB1.out.trans hb2)
        have hs2 := hb2.size
        simp at hs2
        clear hst2 hb2
        go_wp2_with fail
        go_roundw
        case rel => exact ⟨done ++ [(a, t)], todo, n2, by rw [← HP.out]; simp, HC2.out, hn2, by simp; omega, by go_num, HZ.out, by omega, HB2.out⟩
        case measure => simp [intOf]; omega
theorem Rd.low0 {w : World} {A : Option Addr} {xs : List Value} (h : Rd w A xs) (hn : 0 < xs.length) : ∀ x, A = some x → x.block < w.heap.size := fun x hx => by
  obtain ⟨b, off, h1, hlt, _⟩ := h hn
  rw [h1] at hx
  obtain rfl := Option.some.inj hx
  exact hlt
structure IsStarts (bs : List Int) (ps : List (Nat × In)) (z : Nat) (w0 : World) (e : Ending) (w : World) : Prop where
  ex : ∃ A c, e = .returned (.tuple #[.slice A (listS bs ps z).length c, .int .i64 (codeS bs z)]) ∧ Rd w A (ints (listS bs ps z))
  low : Below w0.heap.size w0 w
theorem codeS_cases (bs : List Int) (z : Nat) : codeS bs z = 0 ∨ codeS bs z = 3 ∨ codeS bs z = 110 := by
  unfold codeS
  split
  · omega
  · split
    · omega
    · split <;> omega
set_option maxRecDepth 100000 in
set_option maxHeartbeats 2000000 in
theorem starts_any (bs : List Int) (A : Option Addr) (n c : Nat) (ps : List (Nat × In)) (z : Nat) (w : World) (hn : n = bs.length) (ho : Oct bs) (hr : Rd w A (octs bs)) (hnm : n ≤ 9223372036854775807) (hs : n ≤ 4096 → Scan bs ps z) :
    Calls Try.prog 29 #[.slice A n c] w (IsStarts bs ps z w) := by
  have hbox := Blk.new w 49 #[.slice none 0 0]
  have hal := (Below.refl w.heap.size w).alloc (Nat.le_refl _) (.cells #[.slice none 0 0] 49)
  have hsc : SC w.heap.size w.heap.size w [] (w.alloc (.cells #[.slice none 0 0] 49)) := ⟨⟨.slice none 0 0, hbox, World.ownsRow_nil _ _ _ _⟩, hal⟩
  have he := eachS_any bs A n c ps z w.heap.size w.heap.size w (w.alloc (.cells #[.slice none 0 0] 49)) hn ho (hr.alloc _) hnm hs hsc (Nat.le_refl _) (by simp) (fun h0 => hr.low0 (by rw [octs_length]; omega))
  have hmf : ∀ (fn : Fn) (first cap : Array Value) (w : World), (Instr.makeFunc fn first cap).run Try.prog w = .ok (.func fn first cap) w := fun _ _ _ _ => rfl
  have HE := Lib.hid he
  clear he hsc hal hbox hn ho hr hs
  go_enter Try.func29, Try.ntmps29
  go_wp2_with fail
  refine (HE.out).mono ?_
  rintro e w1 ⟨rfl, done, hdone, hsc⟩
  obtain ⟨v, hb, hown⟩ := hsc.ex
  have hlow := hsc.low
  obtain ⟨A1, c1, rfl, hc1⟩ := own_slice hown
  have d0 := hb.cell 0
  simp at d0
  rcases codeS_cases bs z with h | h | h
  · obtain rfl := hdone h
    have e1 : listS bs done z = startsI done := by unfold listS; rw [if_pos h]
    have hrd := Rd.of_own hown
    have HF := Lib.hid (show IsStarts bs done z w (.returned (.tuple #[.slice A1 done.length c1, .int .i64 0])) w1 from ⟨⟨A1, c1, by rw [e1, h, startsI_length], by rw [e1]; exact hrd⟩, hlow⟩)
    have H := Lib.hid h
    clear hdone hb hown hlow hsc e1 hrd h HE
    rw [H.out]
    go_wp2_with fail
    go_ret2
    exact HF.out
  · have e1 : listS bs ps z = [] := by unfold listS; rw [if_neg (by omega)]
    have HF := Lib.hid (show IsStarts bs ps z w (.returned (.tuple #[.slice none 0 0, .int .i64 3])) w1 from ⟨⟨none, 0, by rw [e1, h]; rfl, by rw [e1]; exact Rd.nil _ _⟩, hlow⟩)
    have H := Lib.hid h
    clear hdone hb hown hlow hsc e1 h HE
    rw [H.out]
    go_wp2_with fail
    go_ret2
    exact HF.out
  · have e1 : listS bs ps z = [] := by unfold listS; rw [if_neg (by omega)]
    have HF := Lib.hid (show IsStarts bs ps z w (.returned (.tuple #[.slice none 0 0, .int .i64 110])) w1 from ⟨⟨none, 0, by rw [e1, h]; rfl, by rw [e1]; exact Rd.nil _ _⟩, hlow⟩)
    have H := Lib.hid h
    clear hdone hb hown hlow hsc e1 h HE
    rw [H.out]
    go_wp2_with fail
    go_ret2
    exact HF.out
end Go.Proofs.Ytaiekpdoljleeaa
