/- Run, of vm: the walk. Condition: memories of at most 5000 places, at most 1000 rounds and bytes. -/
import Derived.Test.YtebmgladdgmmeaaVdGRb
import Derived.BigRegion
namespace Go.Proofs.Ytebmgladdgmmeaa
open Go.RowKit Go.WideShapes
set_option linter.unusedVariables false
set_option linter.unusedSimpArgs false
/-- A program that stands at p. -/
structure RA (bs : List Int) (ps : List (Nat × In)) (most : Int) (base gh gm ch cm : Nat) (w : World) (p0 p : Rp) (o : Value) (wr : World) : Prop where
  own : wr.ownsRow base 5 1 o p.out.length (p.out.map (.int .u8))
  oct : Oct p.out
  room : p.out.length ≤ 1000
  fle : p.fuel ≤ 1000
  vm : Vm wr w.heap.size gh gm p.s ch cm
  ch : p.s.hs.length ≤ ch
  cm : p.s.ms.length ≤ cm
  res : Blk wr (w.heap.size + 1) 50 zCells
  low : Below w.heap.size w wr
  bl : base ≤ wr.heap.size
  gh : w.heap.size + 1 < gh ∧ gh < base
  gm : w.heap.size + 1 < gm ∧ gm < base
  start : ∃ (k : Nat) (q : Nat × In), ps[k]? = some q ∧ q.1 = p.at_
  via : ∀ r, Runs bs most p r → Runs bs most p0 r
section
variable {bs : List Int} {ps : List (Nat × In)} {most : Int} {base gh gm ch cm : Nat} {w : World} {p0 p : Rp} {o : Value} {wr w' : World}
theorem Frm.vm {S : Nat → Prop} {g : Nat} {s : St} (hf : Frm S wr w') (h : Vm wr g gh gm s ch cm) (h1 : ¬ S g) (h2 : ¬ S gh) (h3 : ¬ S gm) : Vm w' g gh gm s ch cm :=
  ⟨⟨h.box.blk.frm hf h1, h.box.ok⟩, h.hrow.frm hf h2, h.mrow.frm hf h3, h.ok⟩
theorem RA.below (h : RA bs ps most base gh gm ch cm w p0 p o wr) (hb : Below wr.heap.size wr w') : RA bs ps most base gh gm ch cm w p0 p o w' :=
  ⟨(Frm.of_below hb).own h.own (fun _ _ h => h), h.oct, h.room, h.fle, h.vm.below hb, h.ch, h.cm, h.res.below hb, ch0 h.low hb, by have := h.bl; have := hb.size; omega, h.gh, h.gm, h.start, h.via⟩
theorem RA.turn {q : Rp} (h : RA bs ps most base gh gm ch cm w p0 p o wr) (hq : stepR bs most p = .inr q) (hs : q.s = p.s) (ho : q.out = p.out) (hf : q.fuel ≤ p.fuel) (hst : ∃ (k : Nat) (z : Nat × In), ps[k]? = some z ∧ z.1 = q.at_) : RA bs ps most base gh gm ch cm w p0 q o wr :=
  ⟨by rw [ho]; exact h.own, by rw [ho]; exact h.oct, by rw [ho]; exact h.room, by have := h.fle; omega, by rw [hs]; exact h.vm, by rw [hs]; exact h.ch, by rw [hs]; exact h.cm, h.res, h.low, h.bl, h.gh, h.gm, hst, fun r hr => h.via r (.more hq hr)⟩
theorem RA.did {q : Rp} (h : RA bs ps most base gh gm ch cm w p0 p o wr) (hq : stepR bs most p = .inr q) (ho : q.out = p.out) (hfu : q.fuel = p.fuel) (hst : ∃ (k : Nat) (z : Nat × In), ps[k]? = some z ∧ z.1 = q.at_)
    (hl : q.s.hs.length = p.s.hs.length ∧ q.s.ms.length = p.s.ms.length) (hv : Vm w' w.heap.size gh gm q.s ch cm) (hf : Frm (Sg w.heap.size gh gm) wr w') : RA bs ps most base gh gm ch cm w p0 q o w' := by
  have hgh := h.gh
  have hgm := h.gm
  have hlow := h.low.size
  refine ⟨?_, by rw [ho]; exact h.oct, by rw [ho]; exact h.room, by rw [hfu]; exact h.fle, hv, by rw [hl.1]; exact h.ch, by rw [hl.2]; exact h.cm, h.res.frm hf (fun e => by rcases e with e | e | e <;> omega), h.low.trans (hf.to_below hlow (fun k hk => by rcases hk with rfl | rfl | rfl <;> omega)), by have := h.bl; have := hf.size; omega, hgh, hgm, hst, fun r hr => h.via r (.more hq hr)⟩
  rw [ho]
  exact hf.own h.own (fun k hk e => by have := own_ge h.own k hk; rcases e with e | e | e <;> omega)
theorem RA.put {q : Rp} {o' : Value} {x : Int} (h : RA bs ps most base gh gm ch cm w p0 p o wr) (hq : stepR bs most p = .inr q) (hs : q.s = p.s) (ho : q.out = p.out ++ [x]) (hx : 0 ≤ x ∧ x ≤ 255) (hfu : q.fuel = p.fuel) (hrm : p.out.length < 1000) (hst : ∃ (k : Nat) (z : Nat × In), ps[k]? = some z ∧ z.1 = q.at_)
    (hown : w'.ownsRow base 5 1 o' (p.out.length + 1) (p.out.map (.int .u8) ++ [.int .u8 x])) (hg : wr.grownBy w' o.ownBlock) (hb : Below base wr w') : RA bs ps most base gh gm ch cm w p0 q o' w' := by
  have hgh := h.gh
  have hgm := h.gm
  have hlow := h.low.size
  have hge := own_ge h.own
  have hf : Frm (fun k => o.ownBlock = some k) wr w' := Frm.of_grown hg (fun k hk => hk)
  have n1 : ∀ k, k < base → ¬ (o.ownBlock = some k) := fun k hk e => by have := hge k e; omega
  refine ⟨by rw [ho]; simpa using hown, ?_, by rw [ho]; simp; omega, by rw [hfu]; exact h.fle, by rw [hs]; exact hf.vm h.vm (n1 _ (by omega)) (n1 _ hgh.2) (n1 _ hgm.2), by rw [hs]; exact h.ch, by rw [hs]; exact h.cm, h.res.frm hf (n1 _ (by omega)), h.low.trans (hb.mono (by omega)), by have := h.bl; have := hb.size; omega, hgh, hgm, hst, fun r hr => h.via r (.more hq hr)⟩
  rw [ho]
  intro y hy
  rcases List.mem_append.1 hy with hy | hy
  · exact h.oct y hy
  · simp at hy
    subst hy
    exact ⟨hx.1, hx.2⟩
/-- A program that halts. -/
theorem RA.halt (h : RA bs ps most base gh gm ch cm w p0 p o wr) (hq : stepR bs most p = .inl (p.s, p.out, 0)) :
    Runs bs most p0 (p.s, p.out, 0) ∧ IsRan (p.s, p.out, 0) w (.returned (.tuple #[.agg (p.s.m.cells (.slice (some ⟨gh, 0, none⟩) p.s.hs.length ch) (.slice (some ⟨gm, 0, none⟩) p.s.ms.length cm)), o, .int .i64 0])) (wr.setRow (w.heap.size + 1) (p.s.m.cells (.slice (some ⟨gh, 0, none⟩) p.s.hs.length ch) (.slice (some ⟨gm, 0, none⟩) p.s.ms.length cm))) := by
  have hgh := h.gh
  have hgm := h.gm
  have hlow := h.low.size
  have hf := frm_setRow wr (w.heap.size + 1) (p.s.m.cells (.slice (some ⟨gh, 0, none⟩) p.s.hs.length ch) (.slice (some ⟨gm, 0, none⟩) p.s.ms.length cm))
  refine ⟨h.via _ (.done hq), ⟨_, _, _, rfl, .inr ⟨gh, ch, by rw [List.length_map], by rw [List.length_map]; exact h.ch, by omega, h.vm.hrow.frm hf (by omega)⟩, .inr ⟨gm, cm, by rw [List.length_map], by rw [List.length_map]; exact h.cm, by omega, h.vm.mrow.frm hf (by omega)⟩, (OwnR.of_own (hf.own h.own (fun k hk e => by have := own_ge h.own k hk; omega))).base (by omega)⟩, h.low.trans (hf.to_below hlow (fun k hk => by omega))⟩
end
def RunAt (bs : List Int) (ps : List (Nat × In)) (most : Int) (base gh gm ch cm : Nat) (w : World) (p0 : Rp) (f o a : Value) (wr : World) : Prop := ∃ p : Rp, f = .int .i64 p.fuel ∧ a = .int .i64 (p.at_ : Int) ∧ RA bs ps most base gh gm ch cm w p0 p o wr
def msr (f a : Value) : Nat := (intOf f).toNat * 5000 + (5000 - (intOf a).toNat)
theorem msr_next {f : Value} {x y : Nat} (h : x < y) (hy : y ≤ 4096) : msr f (.int .i64 (y : Int)) < msr f (.int .i64 (x : Int)) := by
  unfold msr
  simp [intOf]
  omega
theorem msr_jump {f : Int} {x : Int} {y : Nat} (h : 1 ≤ f) (hx : 0 ≤ x) (hy : y ≤ 4096) : msr (.int .i64 (f - 1)) (.int .i64 x) < msr (.int .i64 f) (.int .i64 (y : Int)) := by
  unfold msr
  simp [intOf]
  omega
theorem msr_far {f : Value} {x : Nat} {y : Int} (h : (x : Int) < y) (hy : y ≤ 4096) : msr f (.int .i64 y) < msr f (.int .i64 (x : Int)) := by
  unfold msr
  simp [intOf]
  omega
theorem chk_len {bs : List Int} {post : Bool} (h : chk bs post = 0) : bs.length ≤ 4096 := by
  rcases Nat.lt_or_ge 4096 bs.length with h1 | h1
  · have e : codeS bs (zF bs) = 3 := by unfold codeS; rw [if_pos h1]
    unfold chk codeC at h
    rw [e] at h
    simp at h
  · exact h1
/-- What Run comes to. -/
def RunEnd (bs : List Int) (post : Bool) (s : St) (fuel most : Int) (w : World) (e : Ending) (w' : World) : Prop := ∃ r, RunV bs post s fuel most r ∧ IsRan r w e w'
set_option maxRecDepth 100000 in
set_option maxHeartbeats 16000000 in
theorem run_go (bs : List Int) (A : Option Addr) (n c : Nat) (post : Bool) (s : St) (hok : s.ok) (Ah Am : Option Addr) (nh ch nm cm : Nat) (fuel most : Int) (w : World) (hn : n = bs.length) (ho : Oct bs) (hr : Rd w A (octs bs)) (hnm : n ≤ 9223372036854775807) (hc : chk bs post = 0)
    (hnh : nh = s.hs.length) (hnmm : nm = s.ms.length) (hh : Rd w Ah (s.hs.map (.int .u32))) (hm : Rd w Am (s.ms.map (.int .u8))) (nilh : Ah = none → nh = 0 ∧ ch = 0) (nilm : Am = none → nm = 0 ∧ cm = 0) (lh : nh ≤ 5000) (lm : nm ≤ 5000) (hfu : fuel ≤ 1000) (hfu0 : -9223372036854775808 ≤ fuel) (hmo : most ≤ 1000) :
    Calls Try.prog 32 #[.slice A n c, .bool post, .agg (s.m.cells (.slice Ah nh ch) (.slice Am nm cm)), .int .i64 fuel, .int .i64 most] w (RunEnd bs post s fuel most w) := by
  have hz := (zero_of_info zero50).1
  subst hnh hnmm
  have hrm := hok.right
  have HI := Lib.hid (isOk_of (scan_F bs ho (by have := chk_len hc; omega)) hc)
  have hbx := MBox.new hok.m w (.slice Ah s.hs.length ch) (.slice Am s.ms.length cm)
  obtain ⟨l, hl, hrg0, i1, i2, i3, i4, i5⟩ := hbx.info rfl rfl
  have hb1 := ((((Below.refl w.heap.size w).alloc (Nat.le_refl _) (.cells (s.m.cells (.slice Ah s.hs.length ch) (.slice Am s.ms.length cm)) 50))).alloc (by simp) (.cells zCells 50))
  have HB0 := Lib.hid hb1
  have hbb := hbx.below ((Below.refl _ _).alloc (Nat.le_refl _) (.cells zCells 50))
  have hrg := hbb.range
  have br := Blk.new (w.alloc (.cells (s.m.cells (.slice Ah s.hs.length ch) (.slice Am s.ms.length cm)) 50)) 50 zCells
  rw [World.size_alloc] at br
  have hck := chk_any bs A n c post _ hn ho (hr.below HB0.out rfl) hnm
  rw [hc] at hck
  have HRUN : Hid (∀ r, Runs bs most ⟨0, fuel, s, []⟩ r → RunV bs post s fuel most r) := Lib.hid (fun r h => by unfold RunV; rw [if_pos hc, if_pos hok.right]; exact h)
  have HRD := Lib.hid hr
  have HRH := Lib.hid hh
  have HRMM := Lib.hid hm
  have HBX := Lib.hid hbb
  have HRG := Lib.hid hrg
  have HCK := Lib.hid hck
  have HBR := Lib.hid br
  have HRM := Lib.hid hrm
  have HLH := Lib.hid lh
  have HLM := Lib.hid lm
  have HOK := Lib.hid hok
  have HNH := Lib.hid nilh
  have HNM := Lib.hid nilm
  have HN := Lib.hid hn
  have HO := Lib.hid ho
  have HNN := Lib.hid hnm
  have HI1 := Lib.hid i1
  have HI2 := Lib.hid i2
  have HI3 := Lib.hid i3
  have HI4 := Lib.hid i4
  have HFU := Lib.hid hfu
  have HFU0 := Lib.hid hfu0
  have HMO := Lib.hid hmo
  have HL := Lib.hid hl
  have HZL := Lib.hid (show s.m.list (.slice Ah s.hs.length ch) (.slice Am s.ms.length cm) = l from by have := congrArg Array.toList hl; simpa [Mc.cells] using this)
  rw [hl] at HBR HB0 HCK ⊢
  obtain ⟨zs, hzs⟩ : ∃ x, zCells = x := ⟨_, rfl⟩
  have HZS := Lib.hid hzs
  rw [hzs] at HBR HB0 HCK
  simp only [hzs] at hz
  have HB0W := Lib.hid HB0.out
  clear hzs hck br hc hl ho hr hn hbx hbb hrm lh lm hh hm nilh nilm hok hrg hrg0 i1 i2 i3 i4 i5 hb1 hfu hfu0 hmo hnm
  go_enter Try.func32, Try.ntmps32
  go_wp2_with fail
  refine HCK.out.mono ?_
  rintro e w1 ⟨rfl, hb1⟩
  have hb1' : Below ((w.alloc (.cells (s.m.cells (.slice Ah s.hs.length ch) (.slice Am s.ms.length cm)) 50)).alloc (.cells zCells 50)).heap.size ((w.alloc (.cells (s.m.cells (.slice Ah s.hs.length ch) (.slice Am s.ms.length cm)) 50)).alloc (.cells zCells 50)) w1 := by rw [HL.out, HZS.out]; exact hb1
  have BR := Lib.hid (HBR.out.below hb1)
  have BX := Lib.hid (HBX.out.below hb1')
  have B1 := Lib.hid (ch0 HB0.out hb1)
  have hrt := right_vm s.m w.heap.size Ah Am s.hs.length ch s.ms.length cm w1 BX.out HLH.out HLM.out
  rw [HRM.out] at hrt
  have HRT := Lib.hid hrt
  clear hb1 hrt hb1'
  go_wp2_with fail
  refine HRT.out.mono ?_
  rintro e w2 ⟨rfl, hb2⟩
  have BR2 := Lib.hid (BR.out.below hb2)
  have BX2 := Lib.hid (BX.out.below hb2)
  have B2 := Lib.hid (ch0 B1.out hb2)
  have hrg2 := (BX.out.below hb2).range
  rw [HZL.out] at hrg2
  have RG2 := Lib.hid hrg2
  have hcp := copied_any s.m HOK.out.m s.hs s.ms Ah Am ch cm s.hs.length s.ms.length w2 rfl rfl (HRH.out.below B2.out rfl) (HRMM.out.below B2.out rfl) HNH.out HNM.out (by have := HLH.out; omega) (by have := HLM.out; omega)
  rw [HL.out] at hcp
  have HCP := Lib.hid hcp
  clear hb2 hcp hrg2
  go_wp2_with (refine wpList_load_mid rfl 50 (.tmp 7) rfl w.heap.size 0 rfl _ _ RG2.out Try.underlying50 rfl HI1.out ?_)
  refine HCP.out.mono ?_
  rintro e w3 ⟨⟨A1, d1, A2, d2, rfl, hd1, hd2, ho1, ho2⟩, hl3⟩
  obtain ⟨gh, c1, e1, hc1, hgh, hra⟩ := (OwnR.of_own ho1).at (by rw [List.length_map]; exact pow_pos HOK.out.p8)
  obtain ⟨gm, c2, e2, hc2, hgm, hrb⟩ := (OwnR.of_own ho2).at (by rw [List.length_map]; exact pow_pos HOK.out.p12)
  rw [List.length_map] at e1 e2 hc1 hc2
  injection e1 with e1 _ f1
  injection e2 with e2 _ f2
  subst e1 e2 f1 f2
  have hw2 : w.heap.size + 2 ≤ w2.heap.size := by have h := HBR.out.lt; have := BR2.out.lt; have := B2.out.size; have := BX2.out.lt; omega
  have B3 := Lib.hid (ch0 B2.out hl3)
  have BX3 := Lib.hid (BX2.out.below hl3)
  have BR3 := Lib.hid (BR2.out.below hl3)
  have hsz3 := hl3.size
  have hmb : MBox (w3.setRow w.heap.size (s.m.cells (.slice (some ⟨gh, 0, none⟩) s.hs.length d1) (.slice (some ⟨gm, 0, none⟩) s.ms.length d2))) w.heap.size s.m (.slice (some ⟨gh, 0, none⟩) s.hs.length d1) (.slice (some ⟨gm, 0, none⟩) s.ms.length d2) := ⟨blk_setRow BX3.out.blk _, HOK.out.m⟩
  have hf := frm_setRow w3 w.heap.size (s.m.cells (.slice (some ⟨gh, 0, none⟩) s.hs.length d1) (.slice (some ⟨gm, 0, none⟩) s.ms.length d2))
  have hgh3 := hra.lt
  have hgm3 := hrb.lt
  have hst : RA bs (psF bs) most w3.heap.size gh gm d1 d2 w ⟨0, fuel, s, []⟩ ⟨0, fuel, s, []⟩ (.slice none 0 0) (w3.setRow w.heap.size (s.m.cells (.slice (some ⟨gh, 0, none⟩) s.hs.length d1) (.slice (some ⟨gm, 0, none⟩) s.ms.length d2))) := by
    refine ⟨⟨rfl, .inl ⟨rfl, rfl⟩⟩, fun _ h => by simp at h, by simp, HFU.out, ⟨hmb, hra.frm hf (by omega), hrb.frm hf (by omega), HOK.out⟩, hd1, hd2, by rw [HZS.out]; exact BR3.out.frm hf (by omega), B3.out.trans (hf.to_below B3.out.size (fun k hk => by omega)), by have := hf.size; omega, ⟨by omega, hgh3⟩, ⟨by omega, hgm3⟩, ?_, fun r h => h⟩
    have hch := HI.out.scan.chain
    rcases hps : psF bs with _ | ⟨q, qs⟩
    · rw [hps] at hch
      have h0 : 0 = zF bs := hch
      have := HI.out.all
      have := HI.out.pos
      omega
    · rw [hps] at hch
      exact ⟨0, q, rfl, hch.1⟩
  have hone : (s.m.cells (.slice (some ⟨gh, 0, none⟩) s.hs.length d1) (.slice (some ⟨gm, 0, none⟩) s.ms.length d2)).all (·.oneCell') = true := Mc.one rfl rfl
  have hsi : (Try.prog.info? 50).map (·.size) = some (s.m.cells (.slice (some ⟨gh, 0, none⟩) s.hs.length d1) (.slice (some ⟨gm, 0, none⟩) s.ms.length d2)).size := by rw [HI4.out]; exact HI2.out
  have hss : (s.m.cells (.slice Ah s.hs.length ch) (.slice Am s.ms.length cm)).size = (s.m.cells (.slice (some ⟨gh, 0, none⟩) s.hs.length d1) (.slice (some ⟨gm, 0, none⟩) s.ms.length d2)).size := by rw [HI4.out, HI4.out]
  have HBK := Lib.hid BX3.out.blk
  have HSS := Lib.hid hss
  have HSI := Lib.hid hsi
  have HONE := Lib.hid hone
  have HST := Lib.hid hst
  obtain ⟨base, hbase⟩ : ∃ x, w3.heap.size = x := ⟨_, rfl⟩
  rw [hbase] at HST
  obtain ⟨cs2, hcs2⟩ : ∃ x, s.m.cells (.slice (some ⟨gh, 0, none⟩) s.hs.length d1) (.slice (some ⟨gm, 0, none⟩) s.ms.length d2) = x := ⟨_, rfl⟩
  rw [hcs2] at HSS HSI HONE HST ⊢
  obtain ⟨W2, hW2⟩ : ∃ x, w3.setRow w.heap.size cs2 = x := ⟨_, rfl⟩
  rw [hW2] at HST
  have HW2 := Lib.hid hW2
  have HZSI : Hid ((Try.prog.info? 50).map (·.size) = some zs.size) := Lib.hid (by rw [← HZS.out, show zCells.size = 263 from Mc.size zM_ok _ _]; exact size50)
  have HZ1 : Hid (zs.all (·.oneCell') = true) := Lib.hid (by rw [← HZS.out]; exact zone)
  have HBL : Hid (Try.prog.built 50 [] = some zs) := Lib.hid (by rw [← HZS.out]; exact built50e)
  have HEND : Hid (∀ w' x, Below w.heap.size w w' → IsRan (zS, [], x) w (.returned (.tuple #[.agg zs, .slice none 0 0, .int .i64 x])) w') := Lib.hid (fun w' x h => by rw [← HZS.out]; exact IsRan.zero x h)
  clear hW2 hcs2 hbase hst hone hsi hss hmb hf hra hrb hgh3 hgm3 hsz3 hw2 hl3 ho1 ho2 hd1 hd2 hc1 hc2 hgh hgm B1 B2 B3 BX BX2 BX3 BR BR2 BR3 HB0 HB0W HCK HRT HCP RG2 HI1 HI3 HRH HRMM HNH HNM HLH HLM
  go_upto_region 8 with (first
    | (refine wpList_store_row rfl 50 (.tmp 7) (.tmp 31) rfl w.heap.size cs2 rfl rfl 50 _ HBK.out HSI.out HSS.out HONE.out ?_; rw [HW2.out]))
  go_wp2_with fail
  go_loopw [3, 14, 15] (fun f o a wr => RunAt bs (psF bs) most base gh gm d1 d2 w ⟨0, fuel, s, []⟩ f o a wr) (fun f _ a _ => msr f a)
  case atStart => exact ⟨_, rfl, rfl, HST.out⟩
  case round =>
    obtain ⟨⟨pa, pf, sx, po⟩, rfl, rfl, hra⟩ := hrel
    try simp only at hra
    obtain ⟨oA, oc, rfl, _⟩ := own_slice hra.own
    obtain ⟨k, q, hq, hqa⟩ := id hra.start
    obtain ⟨n2, hg1, hg2, hg3, hg4, hg5⟩ := HI.out.step hq
    try simp only at hqa
    subst hqa
    have hgt := get_any bs A n c q.1 wr HN.out HO.out (HRD.out.below hra.low rfl) HNN.out
    have hsr : stepR bs most ⟨q.1, pf, sx, po⟩ = stepI q.2 n2 most ⟨q.1, pf, sx, po⟩ := by
      unfold stepR
      rw [hg1]
      rfl
    rw [hg1] at hgt
    have hlo := hg2.lo
    have hhi := hg2.hi
    have hl4 := HI.out.len
    have ho0 := hg2.o0
    have ho1 := hg2.o1
    have hrn := right_bd hg2.right
    have hn0 := hrn.2.2.1
    have hn1 := hrn.2.2.2
    have hri := hg2.right
    have hpf := hra.fle
    have hroom := hra.room
    try simp only at hpf hroom
    have hq4 : q.1 ≤ 4096 := by omega
    have hn4 : n2 ≤ 4096 := by omega
    have hto : 27 ≤ q.2.o → q.2.n ≤ 4096 ∧ ∃ (j : Nat) (z : Nat × In), (psF bs)[j]? = some z ∧ z.1 = q.2.n.toNat := fun h => by
      obtain ⟨j, z, h1, h2⟩ := hg4 h
      have h3 := (HI.out.scan.chain.at j z h1).1
      exact ⟨by omega, j, z, h1, by omega⟩
    have HRA := Lib.hid hra
    have HGT := Lib.hid hgt
    have HSR := Lib.hid hsr
    have HTO := Lib.hid hto
    have HNX := Lib.hid hg5
    have HRI := Lib.hid hri
    have HQ4 := Lib.hid hq4
    have HN4 := Lib.hid hn4
    have HLO := Lib.hid hlo
    have HST2 := Lib.hid hra.start
    obtain ⟨pa, t⟩ := q
    obtain ⟨o, dd, ss, nn⟩ := t
    try simp only at ho0 ho1 hn0 hn1 HRA HGT HSR HTO HNX HRI HQ4 HLO
    have HN0 := Lib.hid hn0
    clear hq hg1 hg2 hg3 hg4 hg5 hgt hsr hto hri hrn hra hlo hhi hl4 hq4 hn4 HST
    go_wp2_with fail
    refine HGT.out.mono ?_
    rintro e w6 ⟨rfl, hb6⟩
    have hb7 := (ch0 (Below.refl wr.heap.size wr) hb6).alloc hb6.size (.cells #[.int .u8 o, .int .i64 dd, .int .i64 ss, .int .i64 nn] 31)
    have hra7 := HRA.out.below hb7
    have hblk := Blk.new w6 31 #[.int .u8 o, .int .i64 dd, .int .i64 ss, .int .i64 nn]
    have c0 := hra7.vm.box.c0
    have c4 := hra7.vm.box.c4
    try simp only at c0 c4
    unfold In.agg
    obtain ⟨W7, hW7⟩ : ∃ x, w6.alloc (.cells #[.int .u8 o, .int .i64 dd, .int .i64 ss, .int .i64 nn] 31) = x := ⟨_, rfl⟩
    rw [hW7] at hra7 hblk c0 c4
    have k0 := hblk.cell 0
    have k1 := hblk.cell 1
    have k2 := hblk.cell 2
    have k3 := hblk.cell 3
    simp at k0 k1 k2 k3
    have R7 := Lib.hid hra7
    clear hb6 hb7 hra7 hblk HRA
    have hf : ∃ x, sx.m.f = x := ⟨_, rfl⟩
    obtain ⟨ff, hff⟩ := hf
    rw [hff] at c4
    have HFF := Lib.hid hff
    clear hff
    rcases (show o = 0 ∨ o = 26 ∨ (1 ≤ o ∧ o ≤ 25) ∨ o = 27 ∨ o = 28 ∨ o = 29 ∨ o = 30 ∨ o = 31 from by omega) with h | h | h | h | h | h | h | h
    · subst h
      have hh := R7.out.halt (by rw [HSR.out]; rfl)
      try simp only at hh
      obtain ⟨l2, hl2, hrgx, j1, j2, j3, j4, j5⟩ := R7.out.vm.box.info rfl rfl
      try simp only at hl2
      have hres := R7.out.res
      rw [HZS.out] at hres j3
      rw [hl2] at hh
      have HH := Lib.hid hh
      have RGX := Lib.hid hrgx
      have HJ1 := Lib.hid j1
      have HJ2 := Lib.hid j2
      have HJ3 := Lib.hid j3
      have HJ5 := Lib.hid j5
      have HRES := Lib.hid hres
      clear hh hl2 hrgx j1 j2 j3 j4 j5 hres
      go_upto_region 12 with fail
      go_wp2_with (first
        | (refine wpList_load_mid rfl 50 (.tmp 7) rfl w.heap.size 0 rfl _ _ RGX.out Try.underlying50 rfl HJ1.out ?_)
        | (refine wpList_store_row rfl 50 (.tmp 10) (.tmp 70) rfl (w.heap.size + 1) l2.toArray rfl rfl 50 _ HRES.out HJ2.out HJ3.out HJ5.out ?_))
      exact bodyPost_ret (v := .tuple #[.agg l2.toArray, .slice oA po.length oc, .int .i64 0]) (results_row_two rfl _ _ (w.heap.size + 1) 50 l2.toArray _ _ _ _ rfl rfl rfl (blk_setRow HRES.out l2.toArray) Try.underlying50 rfl HJ2.out) rfl ⟨_, HRUN.out _ HH.out.1, HH.out.2⟩
    · subst h
      by_cases hm : most ≤ (po.length : Int)
      · have g1 : decide (most ≤ (po.length : Int)) = true := by simpa using hm
        have hres := R7.out.res
        rw [HZS.out] at hres
        have HRES := Lib.hid hres
        have HLW := Lib.hid R7.out.low
        have HDN := Lib.hid (R7.out.via _ (.done (r := (zS, [], 112)) (by rw [HSR.out]; unfold stepI; rw [if_neg (by simp), if_pos rfl, if_pos hm])))
        clear hres
        go_upto_region 14 with fail
        go_wp2_with (first
          | (refine wpList_build rfl 50 #[] rfl (by simp [HBL.out]) ?_; simp only [List.map_toArray, List.map_nil, HBL.out, Option.getD_some])
          | (refine wpList_store_row rfl 50 (.tmp 10) (.tmp 82) rfl (w.heap.size + 1) zs rfl rfl 50 _ HRES.out HZSI.out rfl HZ1.out ?_))
        have hf := frm_setRow W7 (w.heap.size + 1) zs
        exact bodyPost_ret (v := .tuple #[.agg zs, .slice none 0 0, .int .i64 112]) (results_row_two rfl _ _ (w.heap.size + 1) 50 zs _ _ _ _ rfl rfl rfl (blk_setRow HRES.out zs) Try.underlying50 rfl HZSI.out) rfl ⟨_, HRUN.out _ HDN.out, HEND.out _ _ (HLW.out.trans (hf.to_below HLW.out.size (fun k hk => by omega)))⟩
      · have g1 : decide (most ≤ (po.length : Int)) = false := by simpa using hm
        have hlt : po.length < 1000 := by have := HMO.out; omega
        have hnx := HNX.out (by decide) (by decide) (by decide)
        have HHM := Lib.hid hm
        have HOW := Lib.hid R7.out.own
        have hu := R7.out.vm.ok.m.a
        have HU := Lib.hid hu
        have HSZ := Lib.hid R7.out.bl
        clear hu
        go_wp2_with (at_builtin; refine wpList_app1 tB rfl (.tmp 87) (.tmp 91) rfl base _ po.length _ rfl HOW.out _ (by rfl) _ rfl rfl (by omega) (by unfold maxLen; omega) HSZ.out ?_; intro v2 w8 o2 hgr hb8)
        have HQ := Lib.hid (R7.out.put (q := ⟨n2, pf, sx, po ++ [sx.m.a % 256]⟩) (x := sx.m.a % 256) (by rw [HSR.out]; unfold stepI; rw [if_neg (by simp), if_pos rfl, if_neg (by simpa using HHM.out)]) rfl rfl (by have := HU.out; omega) rfl hlt hnx o2 hgr hb8)
        clear o2 hgr hb8 hnx
        go_wp2_with fail
        go_roundw
        case rel => exact ⟨_, rfl, rfl, HQ.out⟩
        case measure => exact msr_next HLO.out HN4.out
    · have hnx := HNX.out (by omega) (by omega) (by omega)
      have e26 : (o == 26) = false := by simp; omega
      have e0 : (o == 0) = false := by simp; omega
      have e29 : (o == 29) = false := by simp; omega
      have e30 : (o == 30) = false := by simp; omega
      have e27 : (o == 27) = false := by simp; omega
      have e28 : (o == 28) = false := by simp; omega
      have l26 : decide (o < 26) = true := by simp; omega
      have hstep : stepR bs most ⟨pa, pf, sx, po⟩ = .inr ⟨n2, pf, doV o dd ss nn sx, po⟩ := by
        rw [HSR.out]
        unfold stepI goesB
        simp only [e26, e0, e29, e30, e27, e28, Bool.false_and, Bool.or_false]
        rw [if_neg (by omega), if_neg (by omega), if_neg (by decide), if_pos (by omega)]
      have HSTP := Lib.hid hstep
      have HNX2 := Lib.hid hnx
      have hdo := do54 o dd ss nn (by omega) (by omega) HRI.out R7.out.vm
      try simp only at hdo
      have HDO := Lib.hid hdo
      clear h hdo hstep hnx
      go_wp2_with fail
      refine HDO.out.mono ?_
      rintro e w8 ⟨rfl, hv8, hf8⟩
      have HQ := Lib.hid (R7.out.did (q := ⟨n2, pf, doV o dd ss nn sx, po⟩) HSTP.out rfl rfl HNX2.out (doV_len o dd ss nn sx) hv8 hf8)
      clear hv8 hf8
      go_wp2_with fail
      go_roundw
      case rel => exact ⟨_, rfl, rfl, HQ.out⟩
      case measure => exact msr_next HLO.out HN4.out
    · subst h
      cases ff
      · have hnx := HNX.out (by decide) (by decide) (by decide)
        have hstep : stepR bs most ⟨pa, pf, sx, po⟩ = .inr ⟨n2, pf, sx, po⟩ := by
          rw [HSR.out]
          unfold stepI
          rw [if_neg (by simp), if_neg (by simp), if_neg (by simp [goesB, HFF.out]), if_neg (by simp)]
        have HQ := Lib.hid (R7.out.turn (q := ⟨n2, pf, sx, po⟩) hstep rfl rfl (Int.le_refl _) hnx)
        clear hstep hnx
        go_wp2_with fail
        go_roundw
        case rel => exact ⟨_, rfl, rfl, HQ.out⟩
        case measure => exact msr_next HLO.out HN4.out
      · obtain ⟨ht4, htj⟩ := HTO.out (by decide)
        have ht0 := HN0.out
        have hgo : goesB 27 sx.m.f = true := by simp [goesB, HFF.out]
        have HGO := Lib.hid hgo
        have HT4 := Lib.hid ht4
        clear hgo ht4 ht0
        by_cases hle : nn ≤ (pa : Int)
        · have g1 : decide (nn ≤ (pa : Int)) = true := by simpa using hle
          have HLE := Lib.hid hle
          clear hle
          by_cases hfz : pf < 1
          · have g2 : decide (pf < 1) = true := by simpa using hfz
            have HFZ := Lib.hid hfz
            clear hfz
            have hres := R7.out.res
            rw [HZS.out] at hres
            have HRES := Lib.hid hres
            have HLW := Lib.hid R7.out.low
            have HDN := Lib.hid (R7.out.via _ (.done (r := (zS, [], 111)) (by rw [HSR.out]; unfold stepI; rw [if_neg (by simp), if_neg (by simp), if_pos HGO.out, if_pos HLE.out, if_pos HFZ.out])))
            clear hres
            go_upto_region 18 with fail
            go_wp2_with (first
              | (refine wpList_build rfl 50 #[] rfl (by simp [HBL.out]) ?_; simp only [List.map_toArray, List.map_nil, HBL.out, Option.getD_some])
              | (refine wpList_store_row rfl 50 (.tmp 10) (.tmp 105) rfl (w.heap.size + 1) zs rfl rfl 50 _ HRES.out HZSI.out rfl HZ1.out ?_))
            have hf := frm_setRow W7 (w.heap.size + 1) zs
            exact bodyPost_ret (v := .tuple #[.agg zs, .slice none 0 0, .int .i64 111]) (results_row_two rfl _ _ (w.heap.size + 1) 50 zs _ _ _ _ rfl rfl rfl (blk_setRow HRES.out zs) Try.underlying50 rfl HZSI.out) rfl ⟨_, HRUN.out _ HDN.out, HEND.out _ _ (HLW.out.trans (hf.to_below HLW.out.size (fun k hk => by omega)))⟩
          · have g2 : decide (pf < 1) = false := by simpa using hfz
            have hstep : stepR bs most ⟨pa, pf, sx, po⟩ = .inr ⟨nn.toNat, pf - 1, sx, po⟩ := by
              rw [HSR.out]
              unfold stepI
              rw [if_neg (by simp), if_neg (by simp), if_pos HGO.out, if_pos HLE.out, if_neg hfz]
            have HQ := Lib.hid (R7.out.turn (q := ⟨nn.toNat, pf - 1, sx, po⟩) hstep rfl rfl (by show pf - 1 ≤ pf; omega) htj)
            have hp1 : 1 ≤ pf := by omega
            clear hstep htj
            go_wp2_with fail
            go_roundw
            case rel => exact ⟨_, rfl, by show Value.int .i64 nn = .int .i64 ((nn.toNat : Nat) : Int); rw [Int.toNat_of_nonneg HN0.out], HQ.out⟩
            case measure => exact msr_jump hp1 HN0.out HQ4.out
        · have g1 : decide (nn ≤ (pa : Int)) = false := by simpa using hle
          have hstep : stepR bs most ⟨pa, pf, sx, po⟩ = .inr ⟨nn.toNat, pf, sx, po⟩ := by
            rw [HSR.out]
            unfold stepI
            rw [if_neg (by simp), if_neg (by simp), if_pos HGO.out, if_neg hle]
          have HQ := Lib.hid (R7.out.turn (q := ⟨nn.toNat, pf, sx, po⟩) hstep rfl rfl (Int.le_refl _) htj)
          have HLE := Lib.hid (show (pa : Int) < nn by omega)
          clear hstep htj hle
          go_wp2_with fail
          go_roundw
          case rel => exact ⟨_, rfl, by show Value.int .i64 nn = .int .i64 ((nn.toNat : Nat) : Int); rw [Int.toNat_of_nonneg HN0.out], HQ.out⟩
          case measure => exact msr_far HLE.out HT4.out
    · subst h
      cases ff
      · obtain ⟨ht4, htj⟩ := HTO.out (by decide)
        have ht0 := HN0.out
        have hgo : goesB 28 sx.m.f = true := by simp [goesB, HFF.out]
        have HGO := Lib.hid hgo
        have HT4 := Lib.hid ht4
        clear hgo ht4 ht0
        by_cases hle : nn ≤ (pa : Int)
        · have g1 : decide (nn ≤ (pa : Int)) = true := by simpa using hle
          have HLE := Lib.hid hle
          clear hle
          by_cases hfz : pf < 1
          · have g2 : decide (pf < 1) = true := by simpa using hfz
            have HFZ := Lib.hid hfz
            clear hfz
            have hres := R7.out.res
            rw [HZS.out] at hres
            have HRES := Lib.hid hres
            have HLW := Lib.hid R7.out.low
            have HDN := Lib.hid (R7.out.via _ (.done (r := (zS, [], 111)) (by rw [HSR.out]; unfold stepI; rw [if_neg (by simp), if_neg (by simp), if_pos HGO.out, if_pos HLE.out, if_pos HFZ.out])))
            clear hres
            go_upto_region 18 with fail
            go_wp2_with (first
              | (refine wpList_build rfl 50 #[] rfl (by simp [HBL.out]) ?_; simp only [List.map_toArray, List.map_nil, HBL.out, Option.getD_some])
              | (refine wpList_store_row rfl 50 (.tmp 10) (.tmp 105) rfl (w.heap.size + 1) zs rfl rfl 50 _ HRES.out HZSI.out rfl HZ1.out ?_))
            have hf := frm_setRow W7 (w.heap.size + 1) zs
            exact bodyPost_ret (v := .tuple #[.agg zs, .slice none 0 0, .int .i64 111]) (results_row_two rfl _ _ (w.heap.size + 1) 50 zs _ _ _ _ rfl rfl rfl (blk_setRow HRES.out zs) Try.underlying50 rfl HZSI.out) rfl ⟨_, HRUN.out _ HDN.out, HEND.out _ _ (HLW.out.trans (hf.to_below HLW.out.size (fun k hk => by omega)))⟩
          · have g2 : decide (pf < 1) = false := by simpa using hfz
            have hstep : stepR bs most ⟨pa, pf, sx, po⟩ = .inr ⟨nn.toNat, pf - 1, sx, po⟩ := by
              rw [HSR.out]
              unfold stepI
              rw [if_neg (by simp), if_neg (by simp), if_pos HGO.out, if_pos HLE.out, if_neg hfz]
            have HQ := Lib.hid (R7.out.turn (q := ⟨nn.toNat, pf - 1, sx, po⟩) hstep rfl rfl (by show pf - 1 ≤ pf; omega) htj)
            have hp1 : 1 ≤ pf := by omega
            clear hstep htj
            go_wp2_with fail
            go_roundw
            case rel => exact ⟨_, rfl, by show Value.int .i64 nn = .int .i64 ((nn.toNat : Nat) : Int); rw [Int.toNat_of_nonneg HN0.out], HQ.out⟩
            case measure => exact msr_jump hp1 HN0.out HQ4.out
        · have g1 : decide (nn ≤ (pa : Int)) = false := by simpa using hle
          have hstep : stepR bs most ⟨pa, pf, sx, po⟩ = .inr ⟨nn.toNat, pf, sx, po⟩ := by
            rw [HSR.out]
            unfold stepI
            rw [if_neg (by simp), if_neg (by simp), if_pos HGO.out, if_neg hle]
          have HQ := Lib.hid (R7.out.turn (q := ⟨nn.toNat, pf, sx, po⟩) hstep rfl rfl (Int.le_refl _) htj)
          have HLE := Lib.hid (show (pa : Int) < nn by omega)
          clear hstep htj hle
          go_wp2_with fail
          go_roundw
          case rel => exact ⟨_, rfl, by show Value.int .i64 nn = .int .i64 ((nn.toNat : Nat) : Int); rw [Int.toNat_of_nonneg HN0.out], HQ.out⟩
          case measure => exact msr_far HLE.out HT4.out
      · have hnx := HNX.out (by decide) (by decide) (by decide)
        have hstep : stepR bs most ⟨pa, pf, sx, po⟩ = .inr ⟨n2, pf, sx, po⟩ := by
          rw [HSR.out]
          unfold stepI
          rw [if_neg (by simp), if_neg (by simp), if_neg (by simp [goesB, HFF.out]), if_neg (by simp)]
        have HQ := Lib.hid (R7.out.turn (q := ⟨n2, pf, sx, po⟩) hstep rfl rfl (Int.le_refl _) hnx)
        clear hstep hnx
        go_wp2_with fail
        go_roundw
        case rel => exact ⟨_, rfl, rfl, HQ.out⟩
        case measure => exact msr_next HLO.out HN4.out
    · subst h
      obtain ⟨ht4, htj⟩ := HTO.out (by decide)
      have ht0 := HN0.out
      have hgo : goesB 29 sx.m.f = true := by simp [goesB]
      have HGO := Lib.hid hgo
      have HT4 := Lib.hid ht4
      clear hgo ht4 ht0
      by_cases hle : nn ≤ (pa : Int)
      · have g1 : decide (nn ≤ (pa : Int)) = true := by simpa using hle
        have HLE := Lib.hid hle
        clear hle
        by_cases hfz : pf < 1
        · have g2 : decide (pf < 1) = true := by simpa using hfz
          have HFZ := Lib.hid hfz
          clear hfz
          have hres := R7.out.res
          rw [HZS.out] at hres
          have HRES := Lib.hid hres
          have HLW := Lib.hid R7.out.low
          have HDN := Lib.hid (R7.out.via _ (.done (r := (zS, [], 111)) (by rw [HSR.out]; unfold stepI; rw [if_neg (by simp), if_neg (by simp), if_pos HGO.out, if_pos HLE.out, if_pos HFZ.out])))
          clear hres
          go_upto_region 18 with fail
          go_wp2_with (first
            | (refine wpList_build rfl 50 #[] rfl (by simp [HBL.out]) ?_; simp only [List.map_toArray, List.map_nil, HBL.out, Option.getD_some])
            | (refine wpList_store_row rfl 50 (.tmp 10) (.tmp 105) rfl (w.heap.size + 1) zs rfl rfl 50 _ HRES.out HZSI.out rfl HZ1.out ?_))
          have hf := frm_setRow W7 (w.heap.size + 1) zs
          exact bodyPost_ret (v := .tuple #[.agg zs, .slice none 0 0, .int .i64 111]) (results_row_two rfl _ _ (w.heap.size + 1) 50 zs _ _ _ _ rfl rfl rfl (blk_setRow HRES.out zs) Try.underlying50 rfl HZSI.out) rfl ⟨_, HRUN.out _ HDN.out, HEND.out _ _ (HLW.out.trans (hf.to_below HLW.out.size (fun k hk => by omega)))⟩
        · have g2 : decide (pf < 1) = false := by simpa using hfz
          have hstep : stepR bs most ⟨pa, pf, sx, po⟩ = .inr ⟨nn.toNat, pf - 1, sx, po⟩ := by
            rw [HSR.out]
            unfold stepI
            rw [if_neg (by simp), if_neg (by simp), if_pos HGO.out, if_pos HLE.out, if_neg hfz]
          have HQ := Lib.hid (R7.out.turn (q := ⟨nn.toNat, pf - 1, sx, po⟩) hstep rfl rfl (by show pf - 1 ≤ pf; omega) htj)
          have hp1 : 1 ≤ pf := by omega
          clear hstep htj
          go_wp2_with fail
          go_roundw
          case rel => exact ⟨_, rfl, by show Value.int .i64 nn = .int .i64 ((nn.toNat : Nat) : Int); rw [Int.toNat_of_nonneg HN0.out], HQ.out⟩
          case measure => exact msr_jump hp1 HN0.out HQ4.out
      · have g1 : decide (nn ≤ (pa : Int)) = false := by simpa using hle
        have hstep : stepR bs most ⟨pa, pf, sx, po⟩ = .inr ⟨nn.toNat, pf, sx, po⟩ := by
          rw [HSR.out]
          unfold stepI
          rw [if_neg (by simp), if_neg (by simp), if_pos HGO.out, if_neg hle]
        have HQ := Lib.hid (R7.out.turn (q := ⟨nn.toNat, pf, sx, po⟩) hstep rfl rfl (Int.le_refl _) htj)
        have HLE := Lib.hid (show (pa : Int) < nn by omega)
        clear hstep htj hle
        go_wp2_with fail
        go_roundw
        case rel => exact ⟨_, rfl, by show Value.int .i64 nn = .int .i64 ((nn.toNat : Nat) : Int); rw [Int.toNat_of_nonneg HN0.out], HQ.out⟩
        case measure => exact msr_far HLE.out HT4.out
    · subst h
      obtain ⟨ht4, htj⟩ := HTO.out (by decide)
      have ht0 := HN0.out
      have hgo : goesB 30 sx.m.f = true := by simp [goesB]
      have HGO := Lib.hid hgo
      have HT4 := Lib.hid ht4
      clear hgo ht4 ht0
      by_cases hle : nn ≤ (pa : Int)
      · have g1 : decide (nn ≤ (pa : Int)) = true := by simpa using hle
        have HLE := Lib.hid hle
        clear hle
        by_cases hfz : pf < 1
        · have g2 : decide (pf < 1) = true := by simpa using hfz
          have HFZ := Lib.hid hfz
          clear hfz
          have hres := R7.out.res
          rw [HZS.out] at hres
          have HRES := Lib.hid hres
          have HLW := Lib.hid R7.out.low
          have HDN := Lib.hid (R7.out.via _ (.done (r := (zS, [], 111)) (by rw [HSR.out]; unfold stepI; rw [if_neg (by simp), if_neg (by simp), if_pos HGO.out, if_pos HLE.out, if_pos HFZ.out])))
          clear hres
          go_upto_region 18 with fail
          go_wp2_with (first
            | (refine wpList_build rfl 50 #[] rfl (by simp [HBL.out]) ?_; simp only [List.map_toArray, List.map_nil, HBL.out, Option.getD_some])
            | (refine wpList_store_row rfl 50 (.tmp 10) (.tmp 105) rfl (w.heap.size + 1) zs rfl rfl 50 _ HRES.out HZSI.out rfl HZ1.out ?_))
          have hf := frm_setRow W7 (w.heap.size + 1) zs
          exact bodyPost_ret (v := .tuple #[.agg zs, .slice none 0 0, .int .i64 111]) (results_row_two rfl _ _ (w.heap.size + 1) 50 zs _ _ _ _ rfl rfl rfl (blk_setRow HRES.out zs) Try.underlying50 rfl HZSI.out) rfl ⟨_, HRUN.out _ HDN.out, HEND.out _ _ (HLW.out.trans (hf.to_below HLW.out.size (fun k hk => by omega)))⟩
        · have g2 : decide (pf < 1) = false := by simpa using hfz
          have hstep : stepR bs most ⟨pa, pf, sx, po⟩ = .inr ⟨nn.toNat, pf - 1, sx, po⟩ := by
            rw [HSR.out]
            unfold stepI
            rw [if_neg (by simp), if_neg (by simp), if_pos HGO.out, if_pos HLE.out, if_neg hfz]
          have HQ := Lib.hid (R7.out.turn (q := ⟨nn.toNat, pf - 1, sx, po⟩) hstep rfl rfl (by show pf - 1 ≤ pf; omega) htj)
          have hp1 : 1 ≤ pf := by omega
          clear hstep htj
          go_wp2_with fail
          go_roundw
          case rel => exact ⟨_, rfl, by show Value.int .i64 nn = .int .i64 ((nn.toNat : Nat) : Int); rw [Int.toNat_of_nonneg HN0.out], HQ.out⟩
          case measure => exact msr_jump hp1 HN0.out HQ4.out
      · have g1 : decide (nn ≤ (pa : Int)) = false := by simpa using hle
        have hstep : stepR bs most ⟨pa, pf, sx, po⟩ = .inr ⟨nn.toNat, pf, sx, po⟩ := by
          rw [HSR.out]
          unfold stepI
          rw [if_neg (by simp), if_neg (by simp), if_pos HGO.out, if_neg hle]
        have HQ := Lib.hid (R7.out.turn (q := ⟨nn.toNat, pf, sx, po⟩) hstep rfl rfl (Int.le_refl _) htj)
        have HLE := Lib.hid (show (pa : Int) < nn by omega)
        clear hstep htj hle
        go_wp2_with fail
        go_roundw
        case rel => exact ⟨_, rfl, by show Value.int .i64 nn = .int .i64 ((nn.toNat : Nat) : Int); rw [Int.toNat_of_nonneg HN0.out], HQ.out⟩
        case measure => exact msr_far HLE.out HT4.out
    · subst h
      have hnx := HNX.out (by decide) (by decide) (by decide)
      have hstep : stepR bs most ⟨pa, pf, sx, po⟩ = .inr ⟨n2, pf, sx, po⟩ := by
        rw [HSR.out]
        unfold stepI
        rw [if_neg (by simp), if_neg (by simp), if_neg (by simp [goesB]), if_neg (by simp)]
      have HQ := Lib.hid (R7.out.turn (q := ⟨n2, pf, sx, po⟩) hstep rfl rfl (Int.le_refl _) hnx)
      clear hstep hnx
      go_wp2_with fail
      go_roundw
      case rel => exact ⟨_, rfl, rfl, HQ.out⟩
      case measure => exact msr_next HLO.out HN4.out
theorem run_any (bs : List Int) (A : Option Addr) (n c : Nat) (post : Bool) (s : St) (hm : s.m.ok) (hw : Wds s.hs) (mo : Oct s.ms) (Ah Am : Option Addr) (nh ch nm cm : Nat) (fuel most : Int) (w : World) (hn : n = bs.length) (ho : Oct bs) (hr : Rd w A (octs bs)) (hnm : n ≤ 9223372036854775807)
    (hnh : nh = s.hs.length) (hnmm : nm = s.ms.length) (hh : Rd w Ah (s.hs.map (.int .u32))) (hmr : Rd w Am (s.ms.map (.int .u8))) (nilh : Ah = none → nh = 0 ∧ ch = 0) (nilm : Am = none → nm = 0 ∧ cm = 0) (lh : nh ≤ 5000) (lm : nm ≤ 5000) (hfu : fuel ≤ 1000) (hfu0 : -9223372036854775808 ≤ fuel) (hmo : most ≤ 1000) :
    Calls Try.prog 32 #[.slice A n c, .bool post, .agg (s.m.cells (.slice Ah nh ch) (.slice Am nm cm)), .int .i64 fuel, .int .i64 most] w (RunEnd bs post s fuel most w) := by
  by_cases hc : chk bs post = 0
  · cases hrm : rightM s.hs.length s.ms.length with
    | false => exact (run_wrong bs A n c post s.m hm Ah Am nh ch nm cm fuel most w hn ho hr hnm hc lh lm (by rw [hnh, hnmm]; exact hrm)).mono fun e w' h => ⟨_, by unfold RunV; rw [if_pos hc, if_neg (by rw [hrm]; decide)], h⟩
    | true => exact run_go bs A n c post s ⟨hm, hw, mo, hrm⟩ Ah Am nh ch nm cm fuel most w hn ho hr hnm hc hnh hnmm hh hmr nilh nilm lh lm hfu hfu0 hmo
  · exact (run_bad bs A n c post _ fuel most w hn ho hr hnm hc).mono fun e w' h => ⟨_, by unfold RunV; rw [if_neg hc], h⟩
end Go.Proofs.Ytebmgladdgmmeaa
