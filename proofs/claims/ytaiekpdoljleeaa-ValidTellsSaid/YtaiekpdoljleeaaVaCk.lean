/- May a code be run: what is kept while its instructions are told; one of them told. No condition. -/
import Derived.Test.YtaiekpdoljleeaaVaSt
import Derived.Test.YtaiekpdoljleeaaVaMap
namespace Go.Proofs.Ytaiekpdoljleeaa
open Go.RowKit Go.WideShapes Go.Maps
set_option linter.unusedVariables false
set_option linter.unusedSimpArgs false
/-- What Check keeps: two maps, whether all is well, the last Op; H: the first of its blocks. -/
structure CV (H : Nat) (post : Bool) (w0 : World) (n1 : Nat) (l1 : List Int) (n2 : Nat) (l2 : List Int) (g : Bool) (l : Int) (w : World) : Prop where
  p : Blk w H 4 #[.bool post]
  k1 : KSet w (H + 1) n1 l1
  k2 : KSet w (H + 2) n2 l2
  b1 : Blk w (H + 3) 55 #[.map (some (H + 1))]
  b2 : Blk w (H + 4) 55 #[.map (some (H + 2))]
  gd : Blk w (H + 5) 4 #[.bool g]
  ls : Blk w (H + 6) 34 #[.int .u8 l]
  low : Below H w0 w
section
variable {H : Nat} {post : Bool} {w0 w w' : World} {n1 n2 : Nat} {l1 l2 : List Int} {g : Bool} {l : Int}
theorem CV.size (h : CV H post w0 n1 l1 n2 l2 g l w) : H + 6 < w.heap.size := h.ls.lt
theorem CV.below (h : CV H post w0 n1 l1 n2 l2 g l w) (hb : Below w.heap.size w w') : CV H post w0 n1 l1 n2 l2 g l w' := by
  have hs := h.size
  exact ⟨h.p.below hb, h.k1.below hb, h.k2.below hb, h.b1.below hb, h.b2.below hb, h.gd.below hb, h.ls.below hb, h.low.trans (hb.mono (by omega))⟩
theorem CV.alloc (h : CV H post w0 n1 l1 n2 l2 g l w) (o : Obj) : CV H post w0 n1 l1 n2 l2 g l (w.alloc o) := h.below ((Below.refl _ _).alloc (Nat.le_refl _) o)
theorem CV.store1 (h : CV H post w0 n1 l1 n2 l2 g l w) (hn : n1 < 100000) (x : Int) (hx : (Lit.int .i64 x).wf = true) :
    ∃ w', (Instr.mapUpdate 55 (.map (some (H + 1))) (.int .i64 x) (.int .i64 1)).run Try.prog w = .ok () w' ∧ CV H post w0 (n1 + 1) (l1 ++ [x]) n2 l2 g l w' ∧ Frm (fun k => k = H + 1) w w' := by
  obtain ⟨w', hrun, hk, hg⟩ := h.k1.store hn x hx
  have hf : Frm (fun k => k = H + 1) w w' := Frm.of_grown hg (fun k hk => (Option.some.inj hk).symm)
  exact ⟨w', hrun, ⟨h.p.frm hf (by omega), hk, h.k2.frm hf (by omega), h.b1.frm hf (by omega), h.b2.frm hf (by omega), h.gd.frm hf (by omega), h.ls.frm hf (by omega), h.low.trans (hf.to_below (by have := h.size; omega) (fun k hk => by omega))⟩, hf⟩
theorem CV.store2 (h : CV H post w0 n1 l1 n2 l2 g l w) (hn : n2 < 100000) (x : Int) (hx : (Lit.int .i64 x).wf = true) :
    ∃ w', (Instr.mapUpdate 55 (.map (some (H + 2))) (.int .i64 x) (.int .i64 1)).run Try.prog w = .ok () w' ∧ CV H post w0 n1 l1 (n2 + 1) (l2 ++ [x]) g l w' ∧ Frm (fun k => k = H + 2) w w' := by
  obtain ⟨w', hrun, hk, hg⟩ := h.k2.store hn x hx
  have hf : Frm (fun k => k = H + 2) w w' := Frm.of_grown hg (fun k hk => (Option.some.inj hk).symm)
  exact ⟨w', hrun, ⟨h.p.frm hf (by omega), h.k1.frm hf (by omega), hk, h.b1.frm hf (by omega), h.b2.frm hf (by omega), h.gd.frm hf (by omega), h.ls.frm hf (by omega), h.low.trans (hf.to_below (by have := h.size; omega) (fun k hk => by omega))⟩, hf⟩
theorem CV.setG (h : CV H post w0 n1 l1 n2 l2 g l w) (g' : Bool) : CV H post w0 n1 l1 n2 l2 g' l (w.setCell ⟨H + 5, 0, none⟩ (.bool g')) := by
  have hf : Frm (fun k => k = H + 5) w (w.setCell ⟨H + 5, 0, none⟩ (.bool g')) := Frm.setCell (S := fun k => k = H + 5) (p := ⟨H + 5, 0, none⟩) (Frm.refl _ _) (fun _ => rfl) _
  exact ⟨h.p.frm hf (by omega), h.k1.frm hf (by omega), h.k2.frm hf (by omega), h.b1.frm hf (by omega), h.b2.frm hf (by omega), by simpa using h.gd.set 0 (.bool g'), h.ls.frm hf (by omega), h.low.trans (hf.to_below (by have := h.size; omega) (fun k hk => by omega))⟩
theorem CV.setL (h : CV H post w0 n1 l1 n2 l2 g l w) (l' : Int) : CV H post w0 n1 l1 n2 l2 g l' (w.setCell ⟨H + 6, 0, none⟩ (.int .u8 l')) := by
  have hf : Frm (fun k => k = H + 6) w (w.setCell ⟨H + 6, 0, none⟩ (.int .u8 l')) := Frm.setCell (S := fun k => k = H + 6) (p := ⟨H + 6, 0, none⟩) (Frm.refl _ _) (fun _ => rfl) _
  exact ⟨h.p.frm hf (by omega), h.k1.frm hf (by omega), h.k2.frm hf (by omega), h.b1.frm hf (by omega), h.b2.frm hf (by omega), h.gd.frm hf (by omega), by simpa using h.ls.set 0 (.int .u8 l'), h.low.trans (hf.to_below (by have := h.size; omega) (fun k hk => by omega))⟩
end
def CC (H : Nat) (post : Bool) (w0 : World) (done : List (Nat × In)) (w : World) : Prop := CV H post w0 done.length (startsI done) done.length (goesI done) (goodI post done) (lastI done) w
theorem cc_mk {H n : Nat} {post g : Bool} {w0 W : World} {D : List (Nat × In)} {L1 L2 : List Int} {l : Int} (hs : startsI D = L1) (he : goesI D = L2) (hg : goodI post D = g) (hl : lastI D = l) (hn : D.length = n) (h : CV H post w0 n L1 n L2 g l W) : CC H post w0 D W := by
  subst hs he hg hl hn
  exact h
theorem CV.up2 {H : Nat} {post : Bool} {w0 w : World} {n1 n2 : Nat} {l1 l2 : List Int} {g : Bool} {l : Int} (h : CV H post w0 n1 l1 n2 l2 g l w) : CV H post w0 n1 l1 (n2 + 1) l2 g l w :=
  ⟨h.p, h.k1, h.k2.mono (by omega), h.b1, h.b2, h.gd, h.ls, h.low⟩
/-- Told one instruction more. -/
structure DoneC (H : Nat) (post : Bool) (w0 : World) (done : List (Nat × In)) (w1 : World) (e : Ending) (w : World) : Prop where
  ret : e = .returned (.tuple #[])
  st : CC H post w0 done w
  step : Below H w1 w
theorem kset_up {w : World} {b n : Nat} {l : List Int} (h : KSet w b n l) : KSet w b (n + 1) l := h.mono (by omega)
set_option maxRecDepth 100000 in
set_option maxHeartbeats 4000000 in
theorem stepC (H a : Nat) (post : Bool) (t : In) (done : List (Nat × In)) (w0 w : World) (h : CC H post w0 done w) (hr : rightI t = true) (o0 : 0 ≤ t.o) (o1 : t.o ≤ 255) (ha : a ≤ 65536) (hl : done.length < 5000) :
    Calls Try.prog 52 #[.int .i64 a, t.agg, .pointer (some ⟨H + 3, 0, none⟩), .pointer (some ⟨H + 4, 0, none⟩), .pointer (some ⟨H + 5, 0, none⟩), .pointer (some ⟨H, 0, none⟩), .pointer (some ⟨H + 6, 0, none⟩)] w (DoneC H post w0 (done ++ [(a, t)]) w) := by
  obtain ⟨_, _, n0, n1⟩ := right_bd hr
  have hwa : (Lit.int .i64 (a : Int)).wf = true := by simp [Lit.wf, IntKind.min, IntKind.max, IntKind.signed, IntKind.bits]; omega
  have hwn : (Lit.int .i64 t.n).wf = true := by simp [Lit.wf, IntKind.min, IntKind.max, IntKind.signed, IntKind.bits]; omega
  obtain ⟨o, d, s, n⟩ := t
  simp only at *
  have hv : CV H post w0 done.length (startsI done) done.length (goesI done) (goodI post done) (lastI done) w := h
  have hbx := Blk.new w 36 #[.int .u8 o, .int .i64 d, .int .i64 s, .int .i64 n]
  have hva := hv.alloc (.cells #[.int .u8 o, .int .i64 d, .int .i64 s, .int .i64 n] 36)
  have hsz := hv.size
  have hbb : Below H w (w.alloc (.cells #[.int .u8 o, .int .i64 d, .int .i64 s, .int .i64 n] 36)) := (Below.refl _ _).alloc (by omega) _
  have m1 := hva.b1.cell 0
  simp at m1
  obtain ⟨w1, run1, hv1, hf1⟩ := hva.store1 (by omega) a hwa
  have hbx1 := hbx.frm hf1 (by omega)
  have hb1 : Below H w w1 := hbb.trans (hf1.to_below (by simp; omega) (fun k hk => by omega))
  have p0 := hbx1.cell 0
  have p3 := hbx1.cell 3
  have m2 := hv1.b2.cell 0
  simp at p0 p3 m2
  have hgs := goodI_snoc post done (a, ⟨o, d, s, n⟩)
  have hss := startsI_snoc done (a, ⟨o, d, s, n⟩)
  have hes := goesI_snoc done (a, ⟨o, d, s, n⟩)
  have hls := lastI_snoc done (a, ⟨o, d, s, n⟩)
  simp only at hgs hss hes hls
  have HG := Lib.hid hgs
  have HS := Lib.hid hss
  have HE := Lib.hid hes
  have HL := Lib.hid hls
  clear hgs hss hes hls h hv hva hbx
  unfold In.agg
  simp only
  by_cases h27 : 27 ≤ o
  · have g27 : decide (27 ≤ o) = true := by simpa using h27
    have hE2 : goesI (done ++ [(a, ⟨o, d, s, n⟩)]) = goesI done ++ [n] := by rw [HE.out, if_pos h27]
    obtain ⟨w2, run2, hv2, hf2⟩ := hv1.store2 (by omega) n hwn
    have hbx2 := hbx1.frm hf2 (by have := hf1.size; simp at this; omega)
    have hb2 : Below H w w2 := hb1.trans (hf2.to_below (by have := hv1.size; omega) (fun k hk => by omega))
    have r0 := hbx2.cell 0
    simp at r0
    have q0 := hv2.gd.cell 0
    have q1 := hv2.p.cell 0
    have q2 := hv2.ls.cell 0
    have f0 := hv2.gd.frozen 0
    have hvg := fun b : Bool => ((hv2.setG b).setL o)
    have f1 := fun b : Bool => (hv2.setG b).ls.frozen 0
    have hlast := hv2.size
    simp at q0 q1 q2
    have HVG := Lib.hid hvg
    have HF1 := Lib.hid f1
    have HEE := Lib.hid hE2
    have HB1 := Lib.hid hb2
    generalize goodI post done = gg at *
    clear f1 hvg hE2 hb1 hv1 hf1 hbx1 hbb hv2 hf2 hbx2 hb2
    obtain ⟨b26, h26⟩ : ∃ b : Bool, (o != 26) = b := ⟨_, rfl⟩
    cases b26 <;> cases gg <;> cases post
    all_goals
      have f1 := HF1.out
      go_enter Try.func52, Try.ntmps52
      go_wp2_with fail
      go_end0
      exact ⟨rfl, cc_mk HS.out HEE.out (by rw [HG.out, h26]; rfl) HL.out (by simp) (HVG.out _), (HB1.out.setCell (by simp) _).setCell (by simp) _⟩
  · have g27 : decide (27 ≤ o) = false := by simpa using h27
    have hE2 : goesI (done ++ [(a, ⟨o, d, s, n⟩)]) = goesI done := by rw [HE.out, if_neg h27]
    have q0 := hv1.gd.cell 0
    have q1 := hv1.p.cell 0
    have q2 := hv1.ls.cell 0
    have f0 := hv1.gd.frozen 0
    have hvg := fun b : Bool => ((hv1.setG b).setL o).up2
    have f1 := fun b : Bool => (hv1.setG b).ls.frozen 0
    have hlast := hv1.size
    simp at q0 q1 q2
    have HVG := Lib.hid hvg
    have HF1 := Lib.hid f1
    have HEE := Lib.hid hE2
    have HB1 := Lib.hid hb1
    generalize goodI post done = gg at *
    clear f1 hvg hE2 hb1 hv1 hf1 hbx1 hbb
    obtain ⟨b26, h26⟩ : ∃ b : Bool, (o != 26) = b := ⟨_, rfl⟩
    cases b26 <;> cases gg <;> cases post
    all_goals
      have f1 := HF1.out
      go_enter Try.func52, Try.ntmps52
      go_wp2_with fail
      go_end0
      exact ⟨rfl, cc_mk HS.out HEE.out (by rw [HG.out, h26]; rfl) HL.out (by simp) (HVG.out _), (HB1.out.setCell (by simp) _).setCell (by simp) _⟩
/-- What 'each' tells, all told to Check. -/
structure EachC (bs : List Int) (ps : List (Nat × In)) (z H : Nat) (post : Bool) (w0 : World) (e : Ending) (w : World) : Prop where
  ret : e = .returned (.int .i64 (codeS bs z))
  st : ∃ done, (codeS bs z = 0 → done = ps) ∧ CC H post w0 done w
set_option maxRecDepth 100000 in
set_option maxHeartbeats 2000000 in
theorem eachC_any (bs : List Int) (A : Option Addr) (n c : Nat) (ps : List (Nat × In)) (z H : Nat) (post : Bool) (w0 w : World) (hn : n = bs.length) (ho : Oct bs) (hr : Rd w A (octs bs)) (hnm : n ≤ 9223372036854775807) (hs : n ≤ 4096 → Scan bs ps z)
    (h : CC H post w0 [] w) (hB : H ≤ w.heap.size) (hA : 0 < n → ∀ x, A = some x → x.block < H) :
    Calls Try.prog 51 #[.slice A n c, .func (.func 52) #[] #[.pointer (some ⟨H + 3, 0, none⟩), .pointer (some ⟨H + 4, 0, none⟩), .pointer (some ⟨H + 5, 0, none⟩), .pointer (some ⟨H, 0, none⟩), .pointer (some ⟨H + 6, 0, none⟩)]] w (EachC bs ps z H post w0) := by
  have HN := Lib.hid hn
  have HO := Lib.hid ho
  have HR := Lib.hid hr
  have HS := Lib.hid h
  have HSC := Lib.hid hs
  have HA := Lib.hid hA
  clear hn ho hr h hs hA
  rcases (show 4096 < n ∨ n = 0 ∨ (0 < n ∧ n ≤ 4096) from by omega) with h1 | h1 | ⟨h1, h2⟩
  · have e : codeS bs z = 3 := by unfold codeS; rw [if_pos (by rw [← HN.out]; exact h1)]
    have g : decide ((4096 : Int) < (n : Int)) = true := by simp; omega
    have E := Lib.hid e
    clear e
    go_enter Try.func51, Try.ntmps51
    go_wp2_with fail
    go_ret
    exact ⟨by rw [E.out]; rfl, [], fun h0 => absurd (E.out.symm.trans h0) (by omega), HS.out⟩
  · have e : codeS bs z = 110 := by unfold codeS; rw [if_neg (by rw [← HN.out]; omega), if_pos (by rw [← HN.out]; exact h1)]
    have g : decide ((4096 : Int) < (n : Int)) = false := by simp; omega
    have g2 : ((n : Int) == 0) = true := by simp; omega
    have E := Lib.hid e
    clear e h1
    go_enter Try.func51, Try.ntmps51
    go_wp2_with fail
    go_ret
    exact ⟨by rw [E.out]; rfl, [], fun h0 => absurd (E.out.symm.trans h0) (by omega), HS.out⟩
  · have g : decide ((4096 : Int) < (n : Int)) = false := by simp; omega
    have g2 : ((n : Int) == 0) = false := by simp; omega
    have hsc := HSC.out h2
    have HC := Lib.hid hsc
    clear hsc
    go_enter Try.func51, Try.ntmps51
    go_wp2_with fail
    go_loopw [5] (fun i wr => ∃ (done todo : List (Nat × In)) (at_ : Nat), done ++ todo = ps ∧ Chain bs at_ todo z ∧ at_ ≤ n ∧ done.length ≤ at_ ∧ i = .int .i64 at_ ∧ CC H post w0 done wr ∧ H ≤ wr.heap.size ∧ Below H w wr) (fun i _ => n - (intOf i).toNat)
    case atStart => exact ⟨[], ps, 0, rfl, HC.out.chain, by omega, by simp, rfl, HS.out, hB, Below.refl _ _⟩
    case round =>
      obtain ⟨done, todo, at_, hps, hch, hat, hdl, rfl, hsc, hBr, hbr⟩ := hrel
      have hrd := HR.out.lowB hbr (HA.out h1)
      rcases todo with _ | ⟨p, todo⟩
      · have hz : at_ = z := hch
        subst hz
        rcases HC.out.ends with hend | ⟨hlt, e, he, he0, he1, hge⟩
        · have g3 : decide (at_ < n) = false := by have := HN.out; simp; omega
          have ec : codeS bs at_ = 0 := by unfold codeS; rw [if_neg (by rw [← HN.out]; omega), if_neg (by rw [← HN.out]; omega), if_pos hend]
          have EC := Lib.hid ec
          have HP := Lib.hid (show done = ps by simpa using hps)
          have HX := Lib.hid hsc
          clear ec hps hch hsc hrd hend hbr
          go_wp2_with fail
          go_ret
          exact ⟨by rw [EC.out]; rfl, done, fun _ => HP.out, HX.out⟩
        · have g3 : decide (at_ < n) = true := by have := HN.out; simp; omega
          have ec : codeS bs at_ = 110 := by unfold codeS; rw [if_neg (by rw [← HN.out]; omega), if_neg (by rw [← HN.out]; omega), if_neg (by omega)]
          have g4 : (e != 0) = true := by simpa using he
          have hgt := get_any bs A n c at_ wr HN.out HO.out hrd hnm
          rw [hge] at hgt
          have HG := Lib.hid hgt
          have EC := Lib.hid ec
          have HX := Lib.hid hsc
          clear ec hps hch hsc hrd hgt hge hbr he
          go_wp2_with fail
          refine (HG.out).mono ?_
          rintro e1 w1 ⟨rfl, hb1⟩
          have HY := Lib.hid (show CC H post w0 done w1 from CV.below HX.out hb1)
          have hs1 := hb1.size
          clear hb1
          unfold zI In.agg
          go_wp2_with fail
          go_ret
          refine ⟨by rw [EC.out]; rfl, done, fun h0 => absurd (EC.out.symm.trans h0) (by omega), ?_⟩
          exact CV.alloc HY.out _
      · obtain ⟨hpa, hlt, n2, hge, hgot, hch2⟩ := hch
        have g3 : decide (at_ < n) = true := by have := HN.out; simp; omega
        obtain ⟨a, t⟩ := p
        obtain rfl : a = at_ := hpa
        have hgt := get_any bs A n c a wr HN.out HO.out hrd hnm
        rw [hge] at hgt
        have hlo := hgot.lo
        have hgr := hgot.right
        have ho0 := hgot.o0
        have ho1 : t.o ≤ 255 := by have := hgot.o1; simp only at this; omega
        have hhi := hgot.hi
        have HG := Lib.hid hgt
        have HX := Lib.hid hsc
        have HP := Lib.hid hps
        have HC2 := Lib.hid hch2
        have HB := Lib.hid hbr
        have hnn := HN.out
        have hn2 : n2 ≤ n := by omega
        clear hps hch2 hsc hrd hgt hge hbr hnn hhi hgot
        go_wp2_with fail
        refine (HG.out).mono ?_
        rintro e1 w1 ⟨rfl, hb1⟩
        have hs1 := hb1.size
        have HY := Lib.hid (show CC H post w0 done (w1.alloc (.cells #[.int .u8 t.o, .int .i64 t.d, .int .i64 t.s, .int .i64 t.n] 36)) from CV.alloc (CV.below HX.out hb1) _)
        have HB1 := Lib.hid ((HB.out.trans (hb1.mono hBr)).alloc (by omega) (.cells #[.int .u8 t.o, .int .i64 t.d, .int .i64 t.s, .int .i64 t.n] 36))
        clear hb1
        unfold In.agg
        go_wp2_with fail
        refine (stepC H a post t done w0 _ HY.out hgr ho0 ho1 (by omega) (by omega)).mono ?_
        rintro e2 w2 ⟨rfl, hst2, hb2⟩
        have HZ := Lib.hid hst2
        have HB2 := Lib.hid (HB1.out.trans hb2)
        have hs2 := hb2.size
        simp at hs2
        clear hst2 hb2
        go_wp2_with fail
        go_roundw
        case rel => exact ⟨done ++ [(a, t)], todo, n2, by rw [← HP.out]; simp, HC2.out, hn2, by simp; omega, by go_num, HZ.out, by omega, HB2.out⟩
        case measure => simp [intOf]; omega
end Go.Proofs.Ytaiekpdoljleeaa
