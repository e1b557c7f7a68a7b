/- May a code be run: what is kept while its instructions are told; one of them told. No condition. · May a code be run: the walk. Condition: none beyond a slice's own. -/
import Derived.Test.YtebmgladdgmmeaaVdCoPu
import Derived.Test.YtebmgladdgmmeaaVdCoGet
import Derived.Test.YtebmgladdgmmeaaVdVaMap
namespace Go.Proofs.Ytebmgladdgmmeaa
open Go.RowKit Go.WideShapes Go.Maps
set_option linter.unusedVariables false
set_option linter.unusedSimpArgs false
theorem Rd.lowB {base : Nat} {w w' : World} {A : Option Addr} {xs : List Value} (hr : Rd w A xs) (hb : Below base w w') (hA : ∀ x, A = some x → x.block < base) : Rd w' A xs := fun hn => by
  obtain ⟨b, off, rfl, hlt, hc⟩ := hr hn
  exact ⟨b, off, rfl, Nat.lt_of_lt_of_le hlt hb.size, fun i u hu => (hb.cell (p := ⟨b, off + i, none⟩) (hA ⟨b, off, none⟩ rfl)).trans (hc i u hu)⟩
/-- What Check keeps: two maps, whether all is well, the last Op; H: the first of its blocks. -/
structure CV (H : Nat) (post : Bool) (w0 : World) (n1 : Nat) (l1 : List Int) (n2 : Nat) (l2 : List Int) (g : Bool) (l : Int) (w : World) : Prop where
  p : Blk w H 4 #[.bool post]
  k1 : KSet w (H + 1) n1 l1
  k2 : KSet w (H + 2) n2 l2
  b1 : Blk w (H + 3) 96 #[.map (some (H + 1))]
  b2 : Blk w (H + 4) 96 #[.map (some (H + 2))]
  gd : Blk w (H + 5) 4 #[.bool g]
  ls : Blk w (H + 6) 29 #[.int .u8 l]
  low : Below H w0 w
section
variable {H : Nat} {post : Bool} {w0 w w' : World} {n1 n2 : Nat} {l1 l2 : List Int} {g : Bool} {l : Int}
theorem CV.size (h : CV H post w0 n1 l1 n2 l2 g l w) : H + 6 < w.heap.size := h.ls.lt
theorem CV.below (h : CV H post w0 n1 l1 n2 l2 g l w) (hb : Below w.heap.size w w') : CV H post w0 n1 l1 n2 l2 g l w' := by
  have hs := h.size
  exact ⟨h.p.below hb, h.k1.below hb, h.k2.below hb, h.b1.below hb, h.b2.below hb, h.gd.below hb, h.ls.below hb, h.low.trans (hb.mono (by omega))⟩
theorem CV.alloc (h : CV H post w0 n1 l1 n2 l2 g l w) (o : Obj) : CV H post w0 n1 l1 n2 l2 g l (w.alloc o) := h.below ((Below.refl _ _).alloc (Nat.le_refl _) o)
theorem CV.store1 (h : CV H post w0 n1 l1 n2 l2 g l w) (hn : n1 < 100000) (x : Int) (hx : (Lit.int .i64 x).wf = true) :
    ∃ w', (Instr.mapUpdate 96 (.map (some (H + 1))) (.int .i64 x) (.int .i64 1)).run Try.prog w = .ok () w' ∧ CV H post w0 (n1 + 1) (l1 ++ [x]) n2 l2 g l w' ∧ Frm (fun k => k = H + 1) w w' := by
  obtain ⟨w', hrun, hk, hg⟩ := h.k1.store hn x hx
  have hf : Frm (fun k => k = H + 1) w w' := Frm.of_grown hg (fun k hk => (Option.some.inj hk).symm)
  exact ⟨w', hrun, ⟨h.p.frm hf (by omega), hk, h.k2.frm hf (by omega), h.b1.frm hf (by omega), h.b2.frm hf (by omega), h.gd.frm hf (by omega), h.ls.frm hf (by omega), h.low.trans (hf.to_below (by have := h.size; omega) (fun k hk => by omega))⟩, hf⟩
theorem CV.store2 (h : CV H post w0 n1 l1 n2 l2 g l w) (hn : n2 < 100000) (x : Int) (hx : (Lit.int .i64 x).wf = true) :
    ∃ w', (Instr.mapUpdate 96 (.map (some (H + 2))) (.int .i64 x) (.int .i64 1)).run Try.prog w = .ok () w' ∧ CV H post w0 n1 l1 (n2 + 1) (l2 ++ [x]) g l w' ∧ Frm (fun k => k = H + 2) w w' := by
  obtain ⟨w', hrun, hk, hg⟩ := h.k2.store hn x hx
  have hf : Frm (fun k => k = H + 2) w w' := Frm.of_grown hg (fun k hk => (Option.some.inj hk).symm)
  exact ⟨w', hrun, ⟨h.p.frm hf (by omega), h.k1.frm hf (by omega), hk, h.b1.frm hf (by omega), h.b2.frm hf (by omega), h.gd.frm hf (by omega), h.ls.frm hf (by omega), h.low.trans (hf.to_below (by have := h.size; omega) (fun k hk => by omega))⟩, hf⟩
theorem CV.setG (h : CV H post w0 n1 l1 n2 l2 g l w) (g' : Bool) : CV H post w0 n1 l1 n2 l2 g' l (w.setCell ⟨H + 5, 0, none⟩ (.bool g')) := by
  have hf : Frm (fun k => k = H + 5) w (w.setCell ⟨H + 5, 0, none⟩ (.bool g')) := Frm.setCell (S := fun k => k = H + 5) (p := ⟨H + 5, 0, none⟩) (Frm.refl _ _) (fun _ => rfl) _
  exact ⟨h.p.frm hf (by omega), h.k1.frm hf (by omega), h.k2.frm hf (by omega), h.b1.frm hf (by omega), h.b2.frm hf (by omega), by simpa using h.gd.set 0 (.bool g'), h.ls.frm hf (by omega), h.low.trans (hf.to_below (by have := h.size; omega) (fun k hk => by omega))⟩
theorem CV.setL (h : CV H post w0 n1 l1 n2 l2 g l w) (l' : Int) : CV H post w0 n1 l1 n2 l2 g l' (w.setCell ⟨H + 6, 0, none⟩ (.int .u8 l')) := by
  have hf : Frm (fun k => k = H + 6) w (w.setCell ⟨H + 6, 0, none⟩ (.int .u8 l')) := Frm.setCell (S := fun k => k = H + 6) (p := ⟨H + 6, 0, none⟩) (Frm.refl _ _) (fun _ => rfl) _
  exact ⟨h.p.frm hf (by omega), h.k1.frm hf (by omega), h.k2.frm hf (by omega), h.b1.frm hf (by omega), h.b2.frm hf (by omega), h.gd.frm hf (by omega), by simpa using h.ls.set 0 (.int .u8 l'), h.low.trans (hf.to_below (by have := h.size; omega) (fun k hk => by omega))⟩
end
def CC (H : Nat) (post : Bool) (w0 : World) (done : List (Nat × In)) (w : World) : Prop := CV H post w0 done.length (startsI done) done.length (goesI done) (goodI post done) (lastI done) w
theorem cc_mk {H n : Nat} {post g : Bool} {w0 W : World} {D : List (Nat × In)} {L1 L2 : List Int} {l : Int} (hs : startsI D = L1) (he : goesI D = L2) (hg : goodI post D = g) (hl : lastI D = l) (hn : D.length = n) (h : CV H post w0 n L1 n L2 g l W) : CC H post w0 D W := by
  subst hs he hg hl hn
  exact h
theorem CV.up2 {H : Nat} {post : Bool} {w0 w : World} {n1 n2 : Nat} {l1 l2 : List Int} {g : Bool} {l : Int} (h : CV H post w0 n1 l1 n2 l2 g l w) : CV H post w0 n1 l1 (n2 + 1) l2 g l w :=
  ⟨h.p, h.k1, h.k2.mono (by omega), h.b1, h.b2, h.gd, h.ls, h.low⟩
/-- Told one instruction more. -/
structure DoneC (H : Nat) (post : Bool) (w0 : World) (done : List (Nat × In)) (w1 : World) (e : Ending) (w : World) : Prop where
  ret : e = .returned (.tuple #[])
  st : CC H post w0 done w
  step : Below H w1 w
set_option maxRecDepth 100000 in
set_option maxHeartbeats 4000000 in
theorem stepC (H a : Nat) (post : Bool) (t : In) (done : List (Nat × In)) (w0 w : World) (h : CC H post w0 done w) (hr : rightI t = true) (o0 : 0 ≤ t.o) (o1 : t.o ≤ 255) (ha : a ≤ 65536) (hl : done.length < 5000) :
    Calls Try.prog 63 #[.int .i64 a, t.agg, .pointer (some ⟨H + 3, 0, none⟩), .pointer (some ⟨H + 4, 0, none⟩), .pointer (some ⟨H + 5, 0, none⟩), .pointer (some ⟨H, 0, none⟩), .pointer (some ⟨H + 6, 0, none⟩)] w (DoneC H post w0 (done ++ [(a, t)]) w) := by
  obtain ⟨_, _, n0, n1⟩ := right_bd hr
  have hwa : (Lit.int .i64 (a : Int)).wf = true := by simp [Lit.wf, IntKind.min, IntKind.max, IntKind.signed, IntKind.bits]; omega
  have hwn : (Lit.int .i64 t.n).wf = true := by simp [Lit.wf, IntKind.min, IntKind.max, IntKind.signed, IntKind.bits]; omega
  obtain ⟨o, d, s, n⟩ := t
  simp only at *
  have hv : CV H post w0 done.length (startsI done) done.length (goesI done) (goodI post done) (lastI done) w := h
  have hbx := Blk.new w 31 #[.int .u8 o, .int .i64 d, .int .i64 s, .int .i64 n]
  have hva := hv.alloc (.cells #[.int .u8 o, .int .i64 d, .int .i64 s, .int .i64 n] 31)
  have hsz := hv.size
  have hbb : Below H w (w.alloc (.cells #[.int .u8 o, .int .i64 d, .int .i64 s, .int .i64 n] 31)) := (Below.refl _ _).alloc (by omega) _
  have m1 := hva.b1.cell 0
  simp at m1
  obtain ⟨w1, run1, hv1, hf1⟩ := hva.store1 (by omega) a hwa
  have hbx1 := hbx.frm hf1 (by omega)
  have hb1 : Below H w w1 := hbb.trans (hf1.to_below (by simp; omega) (fun k hk => by omega))
  have p0 := hbx1.cell 0
  have p3 := hbx1.cell 3
  have m2 := hv1.b2.cell 0
  simp at p0 p3 m2
  have hgs := goodI_snoc post done (a, ⟨o, d, s, n⟩)
  have hss := startsI_snoc done (a, ⟨o, d, s, n⟩)
  have hes := goesI_snoc done (a, ⟨o, d, s, n⟩)
  have hls := lastI_snoc done (a, ⟨o, d, s, n⟩)
  simp only at hgs hss hes hls
  have HG := Lib.hid hgs
  have HS := Lib.hid hss
  have HE := Lib.hid hes
  have HL := Lib.hid hls
  clear hgs hss hes hls h hv hva hbx
  unfold In.agg
  simp only
  by_cases h27 : 27 ≤ o
  · have g27 : decide (27 ≤ o) = true := by simpa using h27
    have hE2 : goesI (done ++ [(a, ⟨o, d, s, n⟩)]) = goesI done ++ [n] := by rw [HE.out, if_pos h27]
    obtain ⟨w2, run2, hv2, hf2⟩ := hv1.store2 (by omega) n hwn
    have hbx2 := hbx1.frm hf2 (by have := hf1.size; simp at this; omega)
    have hb2 : Below H w w2 := hb1.trans (hf2.to_below (by have := hv1.size; omega) (fun k hk => by omega))
    have r0 := hbx2.cell 0
    simp at r0
    have q0 := hv2.gd.cell 0
    have q1 := hv2.p.cell 0
    have q2 := hv2.ls.cell 0
    have f0 := hv2.gd.frozen 0
    have hvg := fun b : Bool => ((hv2.setG b).setL o)
    have f1 := fun b : Bool => (hv2.setG b).ls.frozen 0
    have hlast := hv2.size
    simp at q0 q1 q2
    have HVG := Lib.hid hvg
    have HF1 := Lib.hid f1
    have HEE := Lib.hid hE2
    have HB1 := Lib.hid hb2
    generalize goodI post done = gg at *
    clear f1 hvg hE2 hb1 hv1 hf1 hbx1 hbb hv2 hf2 hbx2 hb2
    obtain ⟨b26, h26⟩ : ∃ b : Bool, (o != 26) = b := ⟨_, rfl⟩
    cases b26 <;> cases gg <;> cases post
    all_goals
      have f1 := HF1.out
      go_enter Try.func63, Try.ntmps63
      go_wp2_with fail
      go_end0
      exact ⟨rfl, cc_mk HS.out HEE.out (by rw [HG.out, h26]; rfl) HL.out (by simp) (HVG.out _), (HB1.out.setCell (by simp) _).setCell (by simp) _⟩
  · have g27 : decide (27 ≤ o) = false := by simpa using h27
    have hE2 : goesI (done ++ [(a, ⟨o, d, s, n⟩)]) = goesI done := by rw [HE.out, if_neg h27]
    have q0 := hv1.gd.cell 0
    have q1 := hv1.p.cell 0
    have q2 := hv1.ls.cell 0
    have f0 := hv1.gd.frozen 0
    have hvg := fun b : Bool => ((hv1.setG b).setL o).up2
    have f1 := fun b : Bool => (hv1.setG b).ls.frozen 0
    have hlast := hv1.size
    simp at q0 q1 q2
    have HVG := Lib.hid hvg
    have HF1 := Lib.hid f1
    have HEE := Lib.hid hE2
    have HB1 := Lib.hid hb1
    generalize goodI post done = gg at *
    clear f1 hvg hE2 hb1 hv1 hf1 hbx1 hbb
    obtain ⟨b26, h26⟩ : ∃ b : Bool, (o != 26) = b := ⟨_, rfl⟩
    cases b26 <;> cases gg <;> cases post
    all_goals
      have f1 := HF1.out
      go_enter Try.func63, Try.ntmps63
      go_wp2_with fail
      go_end0
      exact ⟨rfl, cc_mk HS.out HEE.out (by rw [HG.out, h26]; rfl) HL.out (by simp) (HVG.out _), (HB1.out.setCell (by simp) _).setCell (by simp) _⟩
/-- What 'each' tells, all told to Check. -/
structure EachC (bs : List Int) (ps : List (Nat × In)) (z H : Nat) (post : Bool) (w0 : World) (e : Ending) (w : World) : Prop where
  ret : e = .returned (.int .i64 (codeS bs z))
  st : ∃ done, (codeS bs z = 0 → done = ps) ∧ CC H post w0 done w
set_option maxRecDepth 100000 in
set_option maxHeartbeats 2000000 in
theorem eachC_any (bs : List Int) (A : Option Addr) (n c : Nat) (ps : List (Nat × In)) (z H : Nat) (post : Bool) (w0 w : World) (hn : n = bs.length) (ho : Oct bs) (hr : Rd w A (octs bs)) (hnm : n ≤ 9223372036854775807) (hs : n ≤ 4096 → Scan bs ps z)
    (h : CC H post w0 [] w) (hB : H ≤ w.heap.size) (hA : 0 < n → ∀ x, A = some x → x.block < H) :
    Calls Try.prog 62 #[.slice A n c, .func (.func 63) #[] #[.pointer (some ⟨H + 3, 0, none⟩), .pointer (some ⟨H + 4, 0, none⟩), .pointer (some ⟨H + 5, 0, none⟩), .pointer (some ⟨H, 0, none⟩), .pointer (some ⟨H + 6, 0, none⟩)]] w (EachC bs ps z H post w0) := by
  have HN := Lib.hid hn
  have HO := Lib.hid ho
  have HR := Lib.hid hr
  have HS := Lib.hid h
  have HSC := Lib.hid hs
  have HA := Lib.hid hA
  clear hn ho hr h hs hA
  rcases (show 4096 < n ∨ n = 0 ∨ (0 < n ∧ n ≤ 4096) from by omega) with h1 | h1 | ⟨h1, h2⟩
  · have e : codeS bs z = 3 := by unfold codeS; rw [if_pos (by rw [← HN.out]; exact h1)]
    have g : decide ((4096 : Int) < (n : Int)) = true := by simp; omega
    have E := Lib.hid e
    clear e
    go_enter Try.func62, Try.ntmps62
    go_wp2_with fail
    go_ret
    exact ⟨by rw [E.out]; rfl, [], fun h0 => absurd (E.out.symm.trans h0) (by omega), HS.out⟩
  · have e : codeS bs z = 110 := by unfold codeS; rw [if_neg (by rw [← HN.out]; omega), if_pos (by rw [← HN.out]; exact h1)]
    have g : decide ((4096 : Int) < (n : Int)) = false := by simp; omega
    have g2 : ((n : Int) == 0) = true := by simp; omega
    have E := Lib.hid e
    clear e h1
    go_enter Try.func62, Try.ntmps62
    go_wp2_with fail
    go_ret
    exact ⟨by rw [E.out]; rfl, [], fun h0 => absurd (E.out.symm.trans h0) (by omega), HS.out⟩
  · have g : decide ((4096 : Int) < (n : Int)) = false := by simp; omega
    have g2 : ((n : Int) == 0) = false := by simp; omega
    have hsc := HSC.out h2
    have HC := Lib.hid hsc
    clear hsc
    go_enter Try.func62, Try.ntmps62
    go_wp2_with fail
    go_loopw [5] (fun i wr => ∃ (done todo : List (Nat × In)) (at_ : Nat), done ++ todo = ps ∧ Chain bs at_ todo z ∧ at_ ≤ n ∧ done.length ≤ at_ ∧ i = .int .i64 at_ ∧ CC H post w0 done wr ∧ H ≤ wr.heap.size ∧ Below H w wr) (fun i _ => n - (intOf i).toNat)
    case atStart => exact ⟨[], ps, 0, rfl, HC.out.chain, by omega, by simp, rfl, HS.out, hB, Below.refl _ _⟩
    case round =>
      obtain ⟨done, todo, at_, hps, hch, hat, hdl, rfl, hsc, hBr, hbr⟩ := hrel
      have hrd := HR.out.lowB hbr (HA.out h1)
      rcases todo with _ | ⟨p, todo⟩
      · have hz : at_ = z := hch
        subst hz
        rcases HC.out.ends with hend | ⟨hlt, e, he, he0, he1, hge⟩
        · have g3 : decide (at_ < n) = false := by have := HN.out; simp; omega
          have ec : codeS bs at_ = 0 := by unfold codeS; rw [if_neg (by rw [← HN.out]; omega), if_neg (by rw [← HN.out]; omega), if_pos hend]
          have EC := Lib.hid ec
          have HP := Lib.hid (show done = ps by simpa using hps)
          have HX := Lib.hid hsc
          clear ec hps hch hsc hrd hend hbr
          go_wp2_with fail
          go_ret
          exact ⟨by rw [EC.out]; rfl, done, fun _ => HP.out, HX.out⟩
        · have g3 : decide (at_ < n) = true := by have := HN.out; simp; omega
          have ec : codeS bs at_ = 110 := by unfold codeS; rw [if_neg (by rw [← HN.out]; omega), if_neg (by rw [← HN.out]; omega), if_neg (by omega)]
          have g4 : (e != 0) = true := by simpa using he
          have hgt := get_any bs A n c at_ wr HN.out HO.out hrd hnm
          rw [hge] at hgt
          have HG := Lib.hid hgt
          have EC := Lib.hid ec
          have HX := Lib.hid hsc
          clear ec hps hch hsc hrd hgt hge hbr he
          go_wp2_with fail
          refine (HG.out).mono ?_
          rintro e1 w1 ⟨rfl, hb1⟩
          have HY := Lib.hid (show CC H post w0 done w1 from CV.below HX.out hb1)
          have hs1 := hb1.size
          clear hb1
          unfold zI In.agg
          go_wp2_with fail
          go_ret
          refine ⟨by rw [EC.out]; rfl, done, fun h0 => absurd (EC.out.symm.trans h0) (by omega), ?_⟩
          exact CV.alloc HY.out _
      · obtain ⟨hpa, hlt, n2, hge, hgot, hch2⟩ := hch
        have g3 : decide (at_ < n) = true := by have := HN.out; simp; omega
        obtain ⟨a, t⟩ := p
        obtain rfl : a = at_ := hpa
        have hgt := get_any bs A n c a wr HN.out HO.out hrd hnm
        rw [hge] at hgt
        have hlo := hgot.lo
        have hgr := hgot.right
        have ho0 := hgot.o0
        have ho1 : t.o ≤ 255 := by have := hgot.o1; simp only at this; omega
        have hhi := hgot.hi
        have HG := Lib.hid hgt
        have HX := Lib.hid hsc
        have HP := Lib.hid hps
        have HC2 := Lib.hid hch2
        have HB := Lib.hid hbr
        have hnn := HN.out
        have hn2 : n2 ≤ n := by omega
        clear hps hch2 hsc hrd hgt hge hbr hnn hhi hgot
        go_wp2_with fail
        refine (HG.out).mono ?_
        rintro e1 w1 ⟨rfl, hb1⟩
        have hs1 := hb1.size
        have HY := Lib.hid (show CC H post w0 done (w1.alloc (.cells #[.int .u8 t.o, .int .i64 t.d, .int .i64 t.s, .int .i64 t.n] 31)) from CV.alloc (CV.below HX.out hb1) _)
        have HB1 := Lib.hid ((HB.out.trans (hb1.mono hBr)).alloc (by omega) (.cells #[.int .u8 t.o, .int .i64 t.d, .int .i64 t.s, .int .i64 t.n] 31))
        clear hb1
        unfold In.agg
        go_wp2_with fail
        refine (stepC H a post t done w0 _ HY.out hgr ho0 ho1 (by omega) (by omega)).mono ?_
        rintro e2 w2 ⟨rfl, hst2, hb2⟩
        have HZ := Lib.hid hst2
        have HB2 := Lib.hid (HB1.out.trans hb2)
        have hs2 := hb2.size
        simp at hs2
        clear hst2 hb2
        go_wp2_with fail
        go_roundw
        case rel => exact ⟨done ++ [(a, t)], todo, n2, by rw [← HP.out]; simp, HC2.out, hn2, by simp; omega, by go_num, HZ.out, by omega, HB2.out⟩
        case measure => simp [intOf]; omega
end Go.Proofs.Ytebmgladdgmmeaa
namespace Go.Proofs.Ytebmgladdgmmeaa
open Go.RowKit Go.WideShapes Go.Maps
set_option linter.unusedVariables false
set_option linter.unusedSimpArgs false
theorem Rd.low0 {w : World} {A : Option Addr} {xs : List Value} (h : Rd w A xs) (hn : 0 < xs.length) : ∀ x, A = some x → x.block < w.heap.size := fun x hx => by
  obtain ⟨b, off, h1, hlt, _⟩ := h hn
  rw [h1] at hx
  obtain rfl := Option.some.inj hx
  exact hlt
structure IsCheck (bs : List Int) (ps : List (Nat × In)) (z : Nat) (post : Bool) (w0 : World) (e : Ending) (w : World) : Prop where
  ret : e = .returned (.int .i64 (codeC bs ps z post))
  low : Below w0.heap.size w0 w
theorem CV.frm {S : Nat → Prop} {H : Nat} {post : Bool} {w0 w w' : World} {n1 n2 : Nat} {l1 l2 : List Int} {g : Bool} {l : Int} (h : CV H post w0 n1 l1 n2 l2 g l w) (hf : Frm S w w') (hn : ∀ k, S k → H + 6 < k) : CV H post w0 n1 l1 n2 l2 g l w' := by
  have hno : ∀ k, k ≤ H + 6 → ¬ S k := fun k hk hs => by have := hn k hs; omega
  exact ⟨h.p.frm hf (hno _ (by omega)), h.k1.frm hf (hno _ (by omega)), h.k2.frm hf (hno _ (by omega)), h.b1.frm hf (hno _ (by omega)), h.b2.frm hf (hno _ (by omega)), h.gd.frm hf (hno _ (by omega)), h.ls.frm hf (hno _ (by omega)), h.low.trans (hf.to_below (by have := h.size; omega) (fun k hk => by have := hn k hk; omega))⟩
theorem grown_set (w : World) (g : Nat) (u : Value) : w.grownBy (w.setCell ⟨g, 0, none⟩ u) (some g) :=
  ⟨rfl, rfl, rfl, by simp [World.setCell], fun k hk hne => Below.heap_setCell w ⟨g, 0, none⟩ u k (fun e => hne (by simp at e ⊢; omega))⟩
/-- Going through the jumps' goals: what is seen, what the verdict is so far. -/
structure Going (H : Nat) (post : Bool) (w0 : World) (ps : List (Nat × In)) (r : Nat) (w : World) : Prop where
  ex : ∃ (D : DataW Unit) (left : Lit → Bool) (cnt : Nat) (dn : List Int), w.ranges Try.prog 3 (plainElem Try.prog 3) (H + 2) r ps.length D left cnt ∧ (∀ x : Int, left (.int .i64 x) = ((goesI ps).contains x && !dn.contains x)) ∧ (∀ x ∈ dn, x ∈ goesI ps) ∧
    CV H post w0 ps.length (startsI ps) ps.length (goesI ps) (goodI post ps && dn.all (fun x => (startsI ps).contains x)) (lastI ps) w
  far : H + 6 < r
theorem all_same {l dn : List Int} (f : Int → Bool) (h1 : ∀ x ∈ dn, x ∈ l) (h2 : ∀ x ∈ l, x ∈ dn) : dn.all f = l.all f := by
  rw [Bool.eq_iff_iff, List.all_eq_true, List.all_eq_true]
  exact ⟨fun h x hx => h x (h2 x hx), fun h x hx => h x (h1 x hx)⟩
theorem codeC_of {bs : List Int} {ps : List (Nat × In)} {z : Nat} {post g : Bool} (h : codeS bs z = 0) (hg : (goodI post ps && (goesI ps).all fun x => (startsI ps).contains x) = g) : codeC bs ps z post = if g && endI (lastI ps) then 0 else 110 := by
  unfold codeC checkI
  rw [if_pos h, hg]
theorem cc_start (w : World) (post : Bool) : CC w.heap.size post w [] (((((((w.alloc (.cells #[.bool post] 4)).alloc (.map #[] 0)).alloc (.map #[] 0)).alloc (.cells #[.map (some (w.heap.size + 1))] 96)).alloc (.cells #[.map (some (w.heap.size + 2))] 96)).alloc (.cells #[.bool true] 4)).alloc (.cells #[.int .u8 0] 29)) := by
  have h0 := Blk.new w 4 #[.bool post]
  have h1 := kset_new (w.alloc (.cells #[.bool post] 4))
  have h2 := kset_new ((w.alloc (.cells #[.bool post] 4)).alloc (.map #[] 0))
  have h3 := Blk.new (((w.alloc (.cells #[.bool post] 4)).alloc (.map #[] 0)).alloc (.map #[] 0)) 96 #[.map (some (w.heap.size + 1))]
  have h4 := Blk.new ((((w.alloc (.cells #[.bool post] 4)).alloc (.map #[] 0)).alloc (.map #[] 0)).alloc (.cells #[.map (some (w.heap.size + 1))] 96)) 96 #[.map (some (w.heap.size + 2))]
  have h5 := Blk.new (((((w.alloc (.cells #[.bool post] 4)).alloc (.map #[] 0)).alloc (.map #[] 0)).alloc (.cells #[.map (some (w.heap.size + 1))] 96)).alloc (.cells #[.map (some (w.heap.size + 2))] 96)) 4 #[.bool true]
  have h6 := Blk.new ((((((w.alloc (.cells #[.bool post] 4)).alloc (.map #[] 0)).alloc (.map #[] 0)).alloc (.cells #[.map (some (w.heap.size + 1))] 96)).alloc (.cells #[.map (some (w.heap.size + 2))] 96)).alloc (.cells #[.bool true] 4)) 29 #[.int .u8 0]
  simp only [World.size_alloc] at h1 h2 h3 h4 h5 h6
  refine ⟨(((((h0.alloc _).alloc _).alloc _).alloc _).alloc _).alloc _, ((((h1.alloc _).alloc _).alloc _).alloc _).alloc _, (((h2.alloc _).alloc _).alloc _).alloc _, ((h3.alloc _).alloc _).alloc _, (h4.alloc _).alloc _, h5.alloc _, h6, ?_⟩
  exact (((((((Below.refl _ w).alloc (Nat.le_refl _) _).alloc (by simp) _).alloc (by simp; omega) _).alloc (by simp; omega) _).alloc (by simp; omega) _).alloc (by simp; omega) _).alloc (by simp; omega) _
set_option maxRecDepth 100000 in
set_option maxHeartbeats 4000000 in
theorem check_any (bs : List Int) (A : Option Addr) (n c : Nat) (ps : List (Nat × In)) (z : Nat) (post : Bool) (w : World) (hn : n = bs.length) (ho : Oct bs) (hr : Rd w A (octs bs)) (hnm : n ≤ 9223372036854775807) (hs : n ≤ 4096 → Scan bs ps z) :
    Calls Try.prog 30 #[.slice A n c, .bool post] w (IsCheck bs ps z post w) := by
  have hmf : ∀ (fn : Fn) (first cap : Array Value) (w : World), (Instr.makeFunc fn first cap).run Try.prog w = .ok (.func fn first cap) w := fun _ _ _ _ => rfl
  have hmm := @run_makeMap Try.prog
  have he := eachC_any bs A n c ps z w.heap.size post w _ hn ho (((((((hr.alloc _).alloc _).alloc _).alloc _).alloc _).alloc _).alloc _) hnm hs (cc_start w post) (by simp; omega) (fun h0 => hr.low0 (by rw [octs_length]; omega))
  have HE := Lib.hid he
  have HN := Lib.hid hn
  clear he hn ho hr hs
  go_enter Try.func30, Try.ntmps30
  go_wp2_with fail
  simp only [Nat.add_assoc, Nat.reduceAdd]
  refine (HE.out).mono ?_
  rintro e w1 ⟨rfl, done, hdone, hcc⟩
  rcases (show codeS bs z = 0 ∨ codeS bs z ≠ 0 from by omega) with h | h
  · obtain rfl := hdone h
    have hcv : CV w.heap.size post w done.length (startsI done) done.length (goesI done) (goodI post done) (lastI done) w1 := hcc
    have hz := hcv.size
    have m2 := hcv.b2.cell 0
    simp at m2
    have H := Lib.hid h
    rw [H.out]
    generalize hHH : w.heap.size = HH at *
    have HW := Lib.hid hHH
    clear hHH h hdone hcc HE
    obtain ⟨w2, cnt, hrun, hrg, hgr, hsz⟩ := hcv.k2.range
    have HCV := Lib.hid hcv
    have HRG := Lib.hid hrg
    have HGR := Lib.hid hgr
    clear hcv hrg hgr
    go_wp2_with fail
    obtain ⟨D, left, hrg0, hl0⟩ := HRG.out.ex
    have hfr : Frm (fun _ => False) w1 w2 := Frm.of_grown HGR.out (fun k hk => by cases hk)
    have hgo : Going HH post w done w1.heap.size w2 := ⟨⟨D, left, cnt, [], hrg0, by simpa using hl0, by simp, by simpa using HCV.out.frm hfr (fun _ hf => hf.elim)⟩, hz⟩
    have HGO := Lib.hid hgo
    generalize w1.heap.size = r at *
    clear hgo hl0 hrg0 hfr HRG HGR HCV hsz
    go_loopw [10] (fun _ wr => Going HH post w done r wr) (fun _ wr => wr.rangeLeft (HH + 2) r)
    case atStart => exact HGO.out
    case round =>
      obtain ⟨⟨D, left, cnt, dn, hrg, hlf, hdn, hcv⟩, hfar⟩ := hrel
      have HCV := Lib.hid hcv
      have HLF := Lib.hid hlf
      have HDN := Lib.hid hdn
      clear hcv hlf hdn HGO
      go_wp2_with (at_next; refine wpList_next_ranges_ii _ rfl _ rfl 3 3 .i64 .i64 keyed3 Try.underlying3 Try.underlying3 (HH + 2) r done.length _ _ _ rfl hrg ?_ ?_)
      · intro hc0 hl0
        have hgg : (goodI post done && dn.all fun x => (startsI done).contains x) = (goodI post done && (goesI done).all fun x => (startsI done).contains x) := by
          rw [all_same (l := goesI done) (fun x => (startsI done).contains x) HDN.out (fun x hx => by
            have := HLF.out x
            rw [hl0] at this
            simp at this
            exact this hx)]
        obtain ⟨g, hg⟩ : ∃ g, (goodI post done && (goesI done).all fun x => (startsI done).contains x) = g := ⟨_, rfl⟩
        have hcv := HCV.out
        rw [hgg, hg] at hcv
        have hcode := codeC_of (bs := bs) (z := z) H.out hg
        have HLOW := Lib.hid hcv.low
        have m0 := hcv.gd.cell 0
        have m1 := hcv.ls.cell 0
        simp at m0 m1
        have HCD := Lib.hid hcode
        clear hcv hcode hgg hg hc0 hl0 HCV HLF HDN hrg m2 hrun
        generalize lastI done = o at *
        obtain ⟨q0, e0⟩ : ∃ q : Bool, (o == 0) = q := ⟨_, rfl⟩
        obtain ⟨q1, e1⟩ : ∃ q : Bool, (o == 29) = q := ⟨_, rfl⟩
        obtain ⟨q2, e2⟩ : ∃ q : Bool, (o == 30) = q := ⟨_, rfl⟩
        have d0 : (o != 0) = !q0 := by rw [← e0]; rfl
        have d1 : (o != 29) = !q1 := by rw [← e1]; rfl
        have d2 : (o != 30) = !q2 := by rw [← e2]; rfl
        have hend : endI o = (q0 || q1 || q2) := by unfold endI; rw [e0, e1, e2]
        have HEN := Lib.hid hend
        clear hend e0 e1 e2
        cases g <;> cases q0 <;> cases q1 <;> cases q2
        all_goals
          simp only [Bool.not_true, Bool.not_false] at d0 d1 d2
          go_wp2_with fail
          go_ret
          exact ⟨by rw [HCD.out, HEN.out]; rfl, HW.out ▸ HLOW.out⟩
      · intro x c2 w3 cnt1 hwx hwc hlx hat hrg1 hlt hg1 hs1 hen
        have hf3 : Frm (fun k => k = r) wr w3 := Frm.of_grown hg1 (fun k hk => (Option.some.inj hk).symm)
        have hv3 := HCV.out.frm hf3 (fun k hk => by omega)
        have hlk := hv3.k1.look x hwx
        have m1 := hv3.b1.cell 0
        have m5 := hv3.gd.cell 0
        have f5 := hv3.gd.frozen 0
        simp at m1
        have hleft := hrg.left_eq
        have hxin : x ∈ goesI done := by
          have := HLF.out x
          rw [hlx] at this
          simp at this
          exact this.1
        have hnew : ∀ g' : Bool, g' = ((goodI post done && dn.all fun x => (startsI done).contains x) && (startsI done).contains x) → Going HH post w done r (w3.setCell ⟨HH + 5, 0, none⟩ (.bool g')) ∧ (w3.setCell ⟨HH + 5, 0, none⟩ (.bool g')).rangeLeft (HH + 2) r < wr.rangeLeft (HH + 2) r := fun g' hg' => by
          have hk := hrg1.kept (grown_set w3 (HH + 5) (.bool g')) (by simp) (by simp; omega)
          refine ⟨⟨⟨D, _, cnt1, dn ++ [x], hk, fun y => left_step HLF.out x y, fun y hy => ?_, ?_⟩, hfar⟩, ?_⟩
          · rcases List.mem_append.1 hy with hy | hy
            · exact HDN.out y hy
            · simp at hy; subst hy; exact hxin
          · have := hv3.setG g'
            rw [hg', Bool.and_assoc] at this
            rw [List.all_append, hg', Bool.and_assoc]
            simpa using this
          · rw [hk.left_eq, hleft]; exact hlt
        have HNEW := Lib.hid hnew
        clear hnew hf3 hv3 hleft hxin hrg1 hg1 hat hlx HCV HLF HDN hrg hlt hs1
        generalize (goodI post done && dn.all fun x => (startsI done).contains x) = g at *
        generalize (startsI done).contains x = b at *
        simp at m5
        cases g <;> cases b
        all_goals
          simp only [if_true, if_false, Bool.false_eq_true] at hlk
          go_wp2_with fail
          exact HNEW.out _ rfl
  · have ec : codeC bs ps z post = codeS bs z := by unfold codeC; rw [if_neg h]
    have g : (codeS bs z != 0) = true := by simpa using h
    have HF := Lib.hid (show IsCheck bs ps z post w (.returned (.int .i64 (codeS bs z))) w1 from ⟨by rw [ec], (show CV _ _ _ _ _ _ _ _ _ _ from hcc).low⟩)
    generalize codeS bs z = x at *
    clear hdone hcc h ec HE
    go_wp2_with fail
    go_ret
    exact HF.out
end Go.Proofs.Ytebmgladdgmmeaa
