/- Do, of vm: the walk. Condition: memories of at most 5000 places. · Holds, of vm: the walk. Condition: memories of at most 5000 places. -/
import Derived.Test.YtebmgladdgmmeaaVdGPg
namespace Go.Proofs.Ytebmgladdgmmeaa
open Go.RowKit Go.WideShapes
set_option linter.unusedVariables false
set_option linter.unusedSimpArgs false
theorem MBox.info {w : World} {g : Nat} {m : Mc} {vh vm : Value} (h : MBox w g m vh vm) (h1 : vh.oneCell' = true) (h2 : vm.oneCell' = true) :
    ∃ l : List Value, m.cells vh vm = l.toArray ∧ w.rangeAt g 0 l ∧ (Try.prog.info? 50).map (·.size) = some l.length ∧ (Try.prog.info? 50).map (·.size) = some l.toArray.size ∧ zCells.size = l.toArray.size ∧ (∀ vh' vm' : Value, (m.cells vh' vm').size = l.toArray.size) ∧ l.toArray.all (·.oneCell') = true := by
  have hl : (m.list vh vm).length = 263 := Mc.list_len h.ok
  have hz : zCells.size = 263 := Mc.size zM_ok _ _
  refine ⟨m.list vh vm, rfl, h.range, by rw [hl]; exact size50, by rw [show (m.list vh vm).toArray.size = 263 from hl]; exact size50, by rw [hz]; exact hl.symm, fun a b => (Mc.size h.ok a b).trans hl.symm, Mc.one h1 h2⟩
def EndAt (s : St) (w wx : World) : Prop := ∃ (u1 u2 : Value), MBox wx (w.heap.size + 1) s.m u1 u2 ∧ OwnR wx (w.heap.size + 3) u1 45 (s.hs.map (.int .u32)) ∧ OwnR wx (w.heap.size + 3) u2 5 (s.ms.map (.int .u8)) ∧ Blk wx (w.heap.size + 2) 50 zCells ∧ Below w.heap.size w wx
theorem setP_len (n x : Int) (s : St) : (setP n x s).hs.length = s.hs.length ∧ (setP n x s).ms.length = s.ms.length := by
  unfold setP
  split
  · exact ⟨rfl, rfl⟩
  split
  · exact ⟨rfl, rfl⟩
  split
  · exact ⟨rfl, rfl⟩
  split
  · exact ⟨rfl, rfl⟩
  split
  · exact ⟨rfl, by simp⟩
  split
  · exact ⟨rfl, by simp⟩
  · exact ⟨by simp, rfl⟩
theorem doV_len (o d n v : Int) (s : St) : (doV o d n v s).hs.length = s.hs.length ∧ (doV o d n v s).ms.length = s.ms.length := by
  unfold doV
  by_cases c0 : 8 ≤ o ∧ o ≤ 18
  · rw [if_pos c0]; exact ⟨rfl, rfl⟩
  rw [if_neg c0]
  by_cases c1 : 19 ≤ o ∧ o ≤ 21
  · rw [if_pos c1]; exact ⟨rfl, rfl⟩
  rw [if_neg c1]
  by_cases c2 : o = 1
  · rw [if_pos c2]; exact setP_len _ _ _
  rw [if_neg c2]
  by_cases c3 : o = 2
  · rw [if_pos c3]; exact setP_len _ _ _
  rw [if_neg c3]
  by_cases c4 : o = 3
  · rw [if_pos c4]; exact setP_len _ _ _
  rw [if_neg c4]
  by_cases c5 : o = 4
  · rw [if_pos c5]; exact setP_len _ _ _
  rw [if_neg c5]
  by_cases c6 : o = 5
  · rw [if_pos c6]; exact setP_len _ _ _
  rw [if_neg c6]
  by_cases c7 : o = 6
  · rw [if_pos c7]; exact setP_len _ _ _
  rw [if_neg c7]
  by_cases c8 : o = 7
  · rw [if_pos c8]; exact setP_len _ _ _
  rw [if_neg c8]
  by_cases c9 : o = 22
  · rw [if_pos c9]; exact setP_len _ _ _
  rw [if_neg c9]
  by_cases c10 : o = 23
  · rw [if_pos c10]; exact ⟨rfl, rfl⟩
  rw [if_neg c10]
  by_cases c11 : o = 24
  · rw [if_pos c11]; exact ⟨rfl, rfl⟩
  rw [if_neg c11]
  by_cases c12 : o = 25
  · rw [if_pos c12]; exact setP_len _ _ _
  rw [if_neg c12]
  exact ⟨rfl, rfl⟩
set_option maxRecDepth 100000 in
set_option maxHeartbeats 8000000 in
theorem do25 (o d n v : Int) (s : St) (hm : s.m.ok) (hw : Wds s.hs) (mo : Oct s.ms) (Ah Am : Option Addr) (ch cm nh nm : Nat) (w : World) (hnh : nh = s.hs.length) (hnm : nm = s.ms.length) (hh : Rd w Ah (s.hs.map (.int .u32))) (hmr : Rd w Am (s.ms.map (.int .u8))) (nilh : Ah = none → nh = 0 ∧ ch = 0) (nilm : Am = none → nm = 0 ∧ cm = 0) (lh : nh ≤ 5000) (lm : nm ≤ 5000) (ho : 0 ≤ o) :
    Calls Try.prog 25 #[.agg #[.int .u8 o, .int .i64 d, .int .i64 n, .int .i64 v], .agg (s.m.cells (.slice Ah nh ch) (.slice Am nm cm))] w (IsMachR (DoS o d n v s) w) := by
  subst hnh hnm
  have hz := (zero_of_info zero50).1
  have bx := MBox.new hm (w.alloc (.cells #[.int .u8 o, .int .i64 d, .int .i64 n, .int .i64 v] 31)) (.slice Ah s.hs.length ch) (.slice Am s.ms.length cm)
  rw [World.size_alloc] at bx
  obtain ⟨l, hl, hr, i1, i2, i3, i4, i5⟩ := bx.info rfl rfl
  have b0 := (((Blk.new w 31 #[.int .u8 o, .int .i64 d, .int .i64 n, .int .i64 v]).alloc (.cells (s.m.cells (.slice Ah s.hs.length ch) (.slice Am s.ms.length cm)) 50)).alloc (.cells zCells 50))
  have bb := bx.below ((Below.refl _ _).alloc (Nat.le_refl _) (.cells zCells 50))
  have br := Blk.new ((w.alloc (.cells #[.int .u8 o, .int .i64 d, .int .i64 n, .int .i64 v] 31)).alloc (.cells (s.m.cells (.slice Ah s.hs.length ch) (.slice Am s.ms.length cm)) 50)) 50 zCells
  rw [World.size_alloc, World.size_alloc] at br
  have hrg : World.rangeAt (((w.alloc (.cells #[.int .u8 o, .int .i64 d, .int .i64 n, .int .i64 v] 31)).alloc (.cells (s.m.cells (.slice Ah s.hs.length ch) (.slice Am s.ms.length cm)) 50)).alloc (.cells zCells 50)) (w.heap.size + 1) 0 l := fun j u hu => by
    have h1 := hr j u hu
    have hlt := bx.lt
    rw [(bcell ((Below.refl _ _).alloc (Nat.le_refl _) (.cells zCells 50))).1 _ _ hlt]
    exact h1
  have hb3 : Below w.heap.size w (((w.alloc (.cells #[.int .u8 o, .int .i64 d, .int .i64 n, .int .i64 v] 31)).alloc (.cells (s.m.cells (.slice Ah s.hs.length ch) (.slice Am s.ms.length cm)) 50)).alloc (.cells zCells 50)) := (((Below.refl _ _).alloc (Nat.le_refl _) _).alloc (by simp) _).alloc (by simp; omega) _
  have hcp := copied_any s.m hm s.hs s.ms Ah Am ch cm s.hs.length s.ms.length _ rfl rfl (hh.below hb3 rfl) (hmr.below hb3 rfl) nilh nilm (by omega) (by omega)
  rw [hl] at hcp b0 bb br hrg hb3 ⊢
  obtain ⟨W0, hW0⟩ : ∃ x, (((w.alloc (.cells #[.int .u8 o, .int .i64 d, .int .i64 n, .int .i64 v] 31)).alloc (.cells l.toArray 50)).alloc (.cells zCells 50)) = x := ⟨_, rfl⟩
  have hsz : W0.heap.size = w.heap.size + 3 := by rw [← hW0]; simp
  rw [hW0] at hcp b0 bb br hrg hb3
  have HCP := Lib.hid hcp
  have HB0 := Lib.hid b0
  have HBB := Lib.hid bb
  have HBR := Lib.hid br
  have HRG := Lib.hid hrg
  have HB3 := Lib.hid hb3
  have HI1 := Lib.hid i1
  have HI2 := Lib.hid i2
  have HI3 := Lib.hid i3
  have HI4 := Lib.hid i4
  have HM := Lib.hid hm
  have HWD := Lib.hid hw
  have HMO := Lib.hid mo
  have HSZ := Lib.hid hsz
  have HW0 := Lib.hid hW0
  clear hcp b0 bb br hrg hb3 i1 i2 i3 i4 i5 bx hr hl hh hmr nilh nilm hm hw mo hsz hW0
  go_enter Try.func25, Try.ntmps25
  go_upto_region 2 with (first
    | (rw [HW0.out]; refine wpList_load_mid rfl 50 (.tmp 3) rfl (w.heap.size + 1) 0 rfl _ _ HRG.out Try.underlying50 rfl HI1.out ?_))
  refine HCP.out.mono ?_
  rintro e w1 ⟨⟨A1, d1, A2, d2, rfl, hd1, hd2, ho1, ho2⟩, hl1⟩
  have r1 := OwnR.of_own ho1
  have r2 := OwnR.of_own ho2
  have one := Mc.one (m := s.m) r1.one r2.one
  have i4 := HI4.out (.slice A1 s.hs.length d1) (.slice A2 s.ms.length d2)
  have i5 := HI4.out (.slice Ah s.hs.length ch) (.slice Am s.ms.length cm)
  have bb := HBB.out.below hl1
  have br := HBR.out.below hl1
  have b0 := HB0.out.below hl1
  have B1 := Lib.hid (HB3.out.trans (hl1.mono (by have := HB3.out.size; omega)))
  have hsz1 : w.heap.size + 3 ≤ w1.heap.size := by have := hl1.size; have := HSZ.out; omega
  rw [HSZ.out] at r1 r2
  have hmb : MBox (w1.setRow (w.heap.size + 1) (s.m.cells (.slice A1 s.hs.length d1) (.slice A2 s.ms.length d2))) (w.heap.size + 1) s.m (.slice A1 s.hs.length d1) (.slice A2 s.ms.length d2) := ⟨blk_setRow bb.blk _, HM.out⟩
  have hf := frm_setRow w1 (w.heap.size + 1) (s.m.cells (.slice A1 s.hs.length d1) (.slice A2 s.ms.length d2))
  have HSI : Hid ((Try.prog.info? 50).map (·.size) = some (s.m.cells (.slice A1 s.hs.length d1) (.slice A2 s.ms.length d2)).size) := Lib.hid (by rw [i4]; exact HI2.out)
  have HSS : Hid ((s.m.cells (.slice Ah s.hs.length ch) (.slice Am s.ms.length cm)).size = (s.m.cells (.slice A1 s.hs.length d1) (.slice A2 s.ms.length d2)).size) := Lib.hid (by rw [i4, i5])
  have HONE := Lib.hid one
  have HBK := Lib.hid bb.blk
  have R1 := Lib.hid (r1.frm hf (fun k hk => by omega))
  have R2 := Lib.hid (r2.frm hf (fun k hk => by omega))
  have BR := Lib.hid (br.frm hf (by omega))
  have BI := Lib.hid (b0.frm hf (by omega))
  have MB := Lib.hid hmb
  have BW := Lib.hid (B1.out.trans (hf.to_below (by omega) (fun k hk => by omega)))
  clear hl1 r1 r2 one i4 i5 bb br b0 hmb hf ho1 ho2
  obtain ⟨v1, hv1⟩ : ∃ x, Value.slice A1 s.hs.length d1 = x := ⟨_, rfl⟩
  obtain ⟨v2, hv2⟩ : ∃ x, Value.slice A2 s.ms.length d2 = x := ⟨_, rfl⟩
  rw [hv1, hv2] at HSI HSS HONE MB BW R1 R2 BR BI ⊢
  have HV1 := Lib.hid hv1
  have HV2 := Lib.hid hv2
  obtain ⟨cs2, hc2⟩ : ∃ x, s.m.cells v1 v2 = x := ⟨_, rfl⟩
  rw [hc2] at HSI HSS HONE MB BW R1 R2 BR BI ⊢
  obtain ⟨W2, hW2⟩ : ∃ x, w1.setRow (w.heap.size + 1) cs2 = x := ⟨_, rfl⟩
  rw [hW2] at MB BW R1 R2 BR BI
  have HW2 := Lib.hid hW2
  have k0 := BI.out.cell 0
  have k1 := BI.out.cell 1
  have k2 := BI.out.cell 2
  have k3 := BI.out.cell 3
  simp at k0 k1 k2 k3
  have HC2 := Lib.hid hc2
  clear hv1 hv2 hc2 hW2
  go_upto_region 2 with (first
    | (refine wpList_store_row rfl 50 (.tmp 3) (.tmp 6) rfl (w.heap.size + 1) cs2 rfl rfl 50 _ HBK.out HSI.out HSS.out HONE.out ?_; rw [HW2.out]))
  simp only [Act.put, List.setIfInBounds_toArray, List.set_cons_zero, List.set_cons_succ]
  have hmbx : MBox W2 (w.heap.size + 1) s.m (.slice A1 s.hs.length d1) (.slice A2 s.ms.length d2) := by
    rw [HV1.out, HV2.out]
    exact MB.out
  have hrt := right_vm s.m (w.heap.size + 1) A1 A2 s.hs.length d1 s.ms.length d2 W2 hmbx lh lm
  have HMBX := Lib.hid hmbx
  obtain ⟨rm, hrm⟩ : ∃ x, rightM s.hs.length s.ms.length = x := ⟨_, rfl⟩
  rw [hrm] at hrt
  have HRM := Lib.hid hrm
  have HRT := Lib.hid hrt
  clear hmbx hrt hrm
  cases rm
  · have HSE : Hid (DoS o d n v s = s) := Lib.hid (by unfold DoS; rw [if_neg]; rw [HRM.out]; simp)
    go_wp2_with fail
    refine HRT.out.mono ?_
    rintro e WX ⟨rfl, hb3⟩
    have hend : EndAt (DoS o d n v s) w WX := ⟨v1, v2, by rw [HSE.out]; exact MB.out.below hb3, by rw [HSE.out]; exact R1.out.below hb3, by rw [HSE.out]; exact R2.out.below hb3, BR.out.below hb3, ch0 BW.out hb3⟩
    clear hb3 k0 k1 k2 k3
    obtain ⟨u1, u2, hmb, hr1, hr2, hz2, hlow⟩ := hend
    obtain ⟨l2, hl2, hrg2, j1, j2, j3, j4, j5⟩ := hmb.info hr1.one hr2.one
    have HL2 := Lib.hid hl2
    have HRG2 := Lib.hid hrg2
    have HJ1 := Lib.hid j1
    have HJ2 := Lib.hid j2
    have HJ3 := Lib.hid j3
    have HJ5 := Lib.hid j5
    have HR1 := Lib.hid hr1
    have HR2 := Lib.hid hr2
    have HZ2 := Lib.hid hz2
    have HLOW := Lib.hid hlow
    clear hmb hr1 hr2 hz2 hlow hl2 hrg2 j1 j2 j3 j4 j5
    go_wp2_with (first
      | (refine wpList_load_mid rfl 50 (.tmp 3) rfl (w.heap.size + 1) 0 rfl _ _ HRG2.out Try.underlying50 rfl HJ1.out ?_)
      | (refine wpList_store_row rfl 50 (.tmp 4) (.tmp 20) rfl (w.heap.size + 2) l2.toArray rfl rfl 50 _ HZ2.out HJ2.out HJ3.out HJ5.out ?_))
    have hf := frm_setRow WX (w.heap.size + 2) l2.toArray
    have hM : IsMachR (DoS o d n v s) w (.returned (.agg l2.toArray)) (WX.setRow (w.heap.size + 2) l2.toArray) := ⟨⟨u1, u2, by rw [HL2.out], (HR1.out.frm hf (fun k hk => by omega)).base (by omega), (HR2.out.frm hf (fun k hk => by omega)).base (by omega)⟩, HLOW.out.trans (hf.to_below HLOW.out.size (fun k hk => by omega))⟩
    exact bodyPost_ret (v := .agg l2.toArray) (results_cell_row rfl _ _ (w.heap.size + 2) 50 l2.toArray _ _ rfl (blk_setRow HZ2.out l2.toArray) Try.underlying50 rfl HJ2.out) rfl hM
  · have hri := fun W => rightI_any ⟨o, d, n, v⟩ W ho
    unfold codeI at hri
    obtain ⟨ri, hrie⟩ : ∃ x, rightI ⟨o, d, n, v⟩ = x := ⟨_, rfl⟩
    simp only [hrie] at hri
    have HRI := Lib.hid hri
    have HRE := Lib.hid hrie
    clear hri hrie
    go_wp2_with fail
    refine HRT.out.mono ?_
    rintro e W3 ⟨rfl, hb3⟩
    have q0 := (BI.out.below hb3).cell 0
    have q1 := (BI.out.below hb3).cell 1
    have q2 := (BI.out.below hb3).cell 2
    have q3 := (BI.out.below hb3).cell 3
    simp at q0 q1 q2 q3
    have BB3 := Lib.hid hb3
    clear hb3 k0 k1 k2 k3
    cases ri
    · have HSE : Hid (DoS o d n v s = s) := Lib.hid (by unfold DoS; rw [if_neg]; rw [HRE.out]; simp)
      go_wp2_with fail
      refine (HRI.out _).mono ?_
      rintro e WX ⟨rfl, hb4⟩
      have hb5 := BB3.out.trans (hb4.mono BB3.out.size)
      have hend : EndAt (DoS o d n v s) w WX := ⟨v1, v2, by rw [HSE.out]; exact MB.out.below hb5, by rw [HSE.out]; exact R1.out.below hb5, by rw [HSE.out]; exact R2.out.below hb5, BR.out.below hb5, ch0 BW.out hb5⟩
      clear hb4 hb5 q0 q1 q2 q3
      obtain ⟨u1, u2, hmb, hr1, hr2, hz2, hlow⟩ := hend
      obtain ⟨l2, hl2, hrg2, j1, j2, j3, j4, j5⟩ := hmb.info hr1.one hr2.one
      have HL2 := Lib.hid hl2
      have HRG2 := Lib.hid hrg2
      have HJ1 := Lib.hid j1
      have HJ2 := Lib.hid j2
      have HJ3 := Lib.hid j3
      have HJ5 := Lib.hid j5
      have HR1 := Lib.hid hr1
      have HR2 := Lib.hid hr2
      have HZ2 := Lib.hid hz2
      have HLOW := Lib.hid hlow
      clear hmb hr1 hr2 hz2 hlow hl2 hrg2 j1 j2 j3 j4 j5
      go_wp2_with (first
        | (refine wpList_load_mid rfl 50 (.tmp 3) rfl (w.heap.size + 1) 0 rfl _ _ HRG2.out Try.underlying50 rfl HJ1.out ?_)
        | (refine wpList_store_row rfl 50 (.tmp 4) (.tmp 20) rfl (w.heap.size + 2) l2.toArray rfl rfl 50 _ HZ2.out HJ2.out HJ3.out HJ5.out ?_))
      have hf := frm_setRow WX (w.heap.size + 2) l2.toArray
      have hM : IsMachR (DoS o d n v s) w (.returned (.agg l2.toArray)) (WX.setRow (w.heap.size + 2) l2.toArray) := ⟨⟨u1, u2, by rw [HL2.out], (HR1.out.frm hf (fun k hk => by omega)).base (by omega), (HR2.out.frm hf (fun k hk => by omega)).base (by omega)⟩, HLOW.out.trans (hf.to_below HLOW.out.size (fun k hk => by omega))⟩
      exact bodyPost_ret (v := .agg l2.toArray) (results_cell_row rfl _ _ (w.heap.size + 2) 50 l2.toArray _ _ rfl (blk_setRow HZ2.out l2.toArray) Try.underlying50 rfl HJ2.out) rfl hM
    · go_wp2_with fail
      refine (HRI.out _).mono ?_
      rintro e W4 ⟨rfl, hb4⟩
      have hb5 := BB3.out.trans (hb4.mono BB3.out.size)
      have k0 := (BI.out.below hb5).cell 0
      have k1 := (BI.out.below hb5).cell 1
      have k2 := (BI.out.below hb5).cell 2
      have k3 := (BI.out.below hb5).cell 3
      simp at k0 k1 k2 k3
      have BB4 := Lib.hid hb5
      clear hb4 hb5 q0 q1 q2 q3
      by_cases h26 : o < 26
      · have g26 : decide (o < (26 : Int)) = true := by simpa using h26
        have HSE : Hid (DoS o d n v s = doV o d n v s) := Lib.hid (by unfold DoS; rw [if_pos ⟨HRM.out, HRE.out, h26⟩])
        have hok : s.ok := ⟨HM.out, HWD.out, HMO.out, HRM.out⟩
        have hp8 := pow_pos hok.p8
        have hp12 := pow_pos hok.p12
        obtain ⟨gh, e1, hgh, hra⟩ : ∃ gh, A1 = some ⟨gh, 0, none⟩ ∧ w.heap.size + 3 ≤ gh ∧ RowAt W4 gh 45 (s.hs.map (.int .u32)) := by
          rcases R1.out.below BB4.out with ⟨hv, hx⟩ | ⟨gh, c, hv, hc, hb, hra⟩
          · have h0 : s.hs.length = 0 := by simpa using congrArg List.length hx
            omega
          · rw [← HV1.out] at hv; injection hv with hv _ _; exact ⟨gh, hv, hb, hra⟩
        obtain ⟨gm, e2, hgm, hrb⟩ : ∃ gm, A2 = some ⟨gm, 0, none⟩ ∧ w.heap.size + 3 ≤ gm ∧ RowAt W4 gm 5 (s.ms.map (.int .u8)) := by
          rcases R2.out.below BB4.out with ⟨hv, hx⟩ | ⟨gm, c, hv, hc, hb, hra⟩
          · have h0 : s.ms.length = 0 := by simpa using congrArg List.length hx
            omega
          · rw [← HV2.out] at hv; injection hv with hv _ _; exact ⟨gm, hv, hb, hra⟩
        subst e1 e2
        have hvm : Vm W4 (w.heap.size + 1) gh gm s d1 d2 := ⟨HMBX.out.below BB4.out, hra, hrb, hok⟩
        have hdo := do54 o d n v ho (by omega) HRE.out hvm
        have HDO := Lib.hid hdo
        have HLN := Lib.hid (doV_len o d n v s)
        have HD1 := Lib.hid hd1
        have HD2 := Lib.hid hd2
        clear hok hra hrb hvm hdo hp8 hp12
        go_wp2_with fail
        refine HDO.out.mono ?_
        rintro e WX ⟨rfl, hv5, hf5⟩
        have hend : EndAt (DoS o d n v s) w WX := by
          rw [HSE.out]
          have hbel : Below (w.heap.size + 1) W4 WX := hf5.to_below (by have := (MB.out.below BB4.out).lt; omega) (fun k hk => by rcases hk with rfl | rfl | rfl <;> omega)
          exact ⟨_, _, hv5.box, .inr ⟨gh, d1, by rw [List.length_map], by rw [List.length_map, HLN.out.1]; exact HD1.out, hgh, hv5.hrow⟩, .inr ⟨gm, d2, by rw [List.length_map], by rw [List.length_map, HLN.out.2]; exact HD2.out, hgm, hv5.mrow⟩, (BR.out.below BB4.out).frm hf5 (fun h => by rcases h with h | h | h <;> omega), (ch0 BW.out BB4.out).trans (hbel.mono (by omega))⟩
        clear hv5 hf5 k0 k1 k2 k3
        obtain ⟨u1, u2, hmb, hr1, hr2, hz2, hlow⟩ := hend
        obtain ⟨l2, hl2, hrg2, j1, j2, j3, j4, j5⟩ := hmb.info hr1.one hr2.one
        have HL2 := Lib.hid hl2
        have HRG2 := Lib.hid hrg2
        have HJ1 := Lib.hid j1
        have HJ2 := Lib.hid j2
        have HJ3 := Lib.hid j3
        have HJ5 := Lib.hid j5
        have HR1 := Lib.hid hr1
        have HR2 := Lib.hid hr2
        have HZ2 := Lib.hid hz2
        have HLOW := Lib.hid hlow
        clear hmb hr1 hr2 hz2 hlow hl2 hrg2 j1 j2 j3 j4 j5
        go_wp2_with (first
          | (refine wpList_load_mid rfl 50 (.tmp 3) rfl (w.heap.size + 1) 0 rfl _ _ HRG2.out Try.underlying50 rfl HJ1.out ?_)
          | (refine wpList_store_row rfl 50 (.tmp 4) (.tmp 20) rfl (w.heap.size + 2) l2.toArray rfl rfl 50 _ HZ2.out HJ2.out HJ3.out HJ5.out ?_))
        have hf := frm_setRow WX (w.heap.size + 2) l2.toArray
        have hM : IsMachR (DoS o d n v s) w (.returned (.agg l2.toArray)) (WX.setRow (w.heap.size + 2) l2.toArray) := ⟨⟨u1, u2, by rw [HL2.out], (HR1.out.frm hf (fun k hk => by omega)).base (by omega), (HR2.out.frm hf (fun k hk => by omega)).base (by omega)⟩, HLOW.out.trans (hf.to_below HLOW.out.size (fun k hk => by omega))⟩
        exact bodyPost_ret (v := .agg l2.toArray) (results_cell_row rfl _ _ (w.heap.size + 2) 50 l2.toArray _ _ rfl (blk_setRow HZ2.out l2.toArray) Try.underlying50 rfl HJ2.out) rfl hM
      · have g26 : decide (o < (26 : Int)) = false := by simpa using h26
        have HSE : Hid (DoS o d n v s = s) := Lib.hid (by unfold DoS; rw [if_neg]; intro h; omega)
        obtain ⟨WX, hWX⟩ : ∃ x, W4 = x := ⟨_, rfl⟩
        subst hWX
        have hend : EndAt (DoS o d n v s) w W4 := ⟨v1, v2, by rw [HSE.out]; exact MB.out.below BB4.out, by rw [HSE.out]; exact R1.out.below BB4.out, by rw [HSE.out]; exact R2.out.below BB4.out, BR.out.below BB4.out, ch0 BW.out BB4.out⟩
        obtain ⟨u1, u2, hmb, hr1, hr2, hz2, hlow⟩ := hend
        obtain ⟨l2, hl2, hrg2, j1, j2, j3, j4, j5⟩ := hmb.info hr1.one hr2.one
        have HL2 := Lib.hid hl2
        have HRG2 := Lib.hid hrg2
        have HJ1 := Lib.hid j1
        have HJ2 := Lib.hid j2
        have HJ3 := Lib.hid j3
        have HJ5 := Lib.hid j5
        have HR1 := Lib.hid hr1
        have HR2 := Lib.hid hr2
        have HZ2 := Lib.hid hz2
        have HLOW := Lib.hid hlow
        clear hmb hr1 hr2 hz2 hlow hl2 hrg2 j1 j2 j3 j4 j5
        go_wp2_with (first
          | (refine wpList_load_mid rfl 50 (.tmp 3) rfl (w.heap.size + 1) 0 rfl _ _ HRG2.out Try.underlying50 rfl HJ1.out ?_)
          | (refine wpList_store_row rfl 50 (.tmp 4) (.tmp 20) rfl (w.heap.size + 2) l2.toArray rfl rfl 50 _ HZ2.out HJ2.out HJ3.out HJ5.out ?_))
        have hf := frm_setRow W4 (w.heap.size + 2) l2.toArray
        have hM : IsMachR (DoS o d n v s) w (.returned (.agg l2.toArray)) (W4.setRow (w.heap.size + 2) l2.toArray) := ⟨⟨u1, u2, by rw [HL2.out], (HR1.out.frm hf (fun k hk => by omega)).base (by omega), (HR2.out.frm hf (fun k hk => by omega)).base (by omega)⟩, HLOW.out.trans (hf.to_below HLOW.out.size (fun k hk => by omega))⟩
        exact bodyPost_ret (v := .agg l2.toArray) (results_cell_row rfl _ _ (w.heap.size + 2) 50 l2.toArray _ _ rfl (blk_setRow HZ2.out l2.toArray) Try.underlying50 rfl HJ2.out) rfl hM
end Go.Proofs.Ytebmgladdgmmeaa
namespace Go.Proofs.Ytebmgladdgmmeaa
open Go.RowKit Go.WideShapes
set_option linter.unusedVariables false
set_option linter.unusedSimpArgs false
theorem RowAt.rd {w : World} {g : Nat} {e : TypeId} {xs : List Value} (h : RowAt w g e xs) : Rd w (some ⟨g, 0, none⟩) xs := fun _ => ⟨g, 0, rfl, h.lt, fun i u hu => by rw [Nat.zero_add]; exact h.cell hu⟩
theorem OwnR.form {w : World} {b : Nat} {e : TypeId} {v : Value} {xs : List Value} (h : OwnR w b v e xs) : ∃ A c, v = .slice A xs.length c ∧ (A = none → xs.length = 0 ∧ c = 0) ∧ Rd w A xs ∧ xs.length ≤ c := by
  rcases h with ⟨rfl, rfl⟩ | ⟨g, c, rfl, h2, h3, h4⟩
  · exact ⟨none, 0, rfl, fun _ => ⟨rfl, rfl⟩, Rd.nil _ _, Nat.le_refl _⟩
  · exact ⟨some ⟨g, 0, none⟩, c, rfl, (fun h => by cases h), h4.rd, h2⟩
theorem OwnR.at {w : World} {b : Nat} {e : TypeId} {v : Value} {xs : List Value} (h : OwnR w b v e xs) (hx : 0 < xs.length) : ∃ g c, v = .slice (some ⟨g, 0, none⟩) xs.length c ∧ xs.length ≤ c ∧ b ≤ g ∧ RowAt w g e xs := by
  rcases h with ⟨_, rfl⟩ | h
  · simp at hx
  · exact h
/-- Does a comparison hold? -/
def HoldsS (o d n v : Int) (s : St) : Bool := rightM s.hs.length s.ms.length && rightI ⟨o, d, n, v⟩ && decide (19 ≤ o) && decide (o ≤ 21) && holdV o (operV n v s) s.m.a
set_option maxRecDepth 100000 in
set_option maxHeartbeats 8000000 in
theorem holds28 (o d n v : Int) (s : St) (hm : s.m.ok) (hw : Wds s.hs) (mo : Oct s.ms) (b : Nat) (v1 v2 : Value) (w : World) (hr1 : OwnR w b v1 45 (s.hs.map (.int .u32))) (hr2 : OwnR w b v2 5 (s.ms.map (.int .u8))) (lh : s.hs.length ≤ 5000) (lm : s.ms.length ≤ 5000) (ho : 0 ≤ o) :
    Calls Try.prog 28 #[.agg #[.int .u8 o, .int .i64 d, .int .i64 n, .int .i64 v], .agg (s.m.cells v1 v2)] w (Quiet (.bool (HoldsS o d n v s)) w) := by
  have bx := MBox.new hm (w.alloc (.cells #[.int .u8 o, .int .i64 d, .int .i64 n, .int .i64 v] 31)) v1 v2
  rw [World.size_alloc] at bx
  have b0 := ((Blk.new w 31 #[.int .u8 o, .int .i64 d, .int .i64 n, .int .i64 v]).alloc (.cells (s.m.cells v1 v2) 50))
  have hb2 : Below w.heap.size w ((w.alloc (.cells #[.int .u8 o, .int .i64 d, .int .i64 n, .int .i64 v] 31)).alloc (.cells (s.m.cells v1 v2) 50)) := ((Below.refl _ _).alloc (Nat.le_refl _) _).alloc (by simp) _
  have r1 := hr1.below hb2
  have r2 := hr2.below hb2
  obtain ⟨cs, hcs⟩ : ∃ x, s.m.cells v1 v2 = x := ⟨_, rfl⟩
  rw [hcs] at bx b0 hb2 r1 r2 ⊢
  obtain ⟨W0, hW0⟩ : ∃ x, (w.alloc (.cells #[.int .u8 o, .int .i64 d, .int .i64 n, .int .i64 v] 31)).alloc (.cells cs 50) = x := ⟨_, rfl⟩
  rw [hW0] at bx b0 hb2 r1 r2
  have HW0 := Lib.hid hW0
  obtain ⟨A1, d1, e1, n1, rd1, c1⟩ := r1.form
  obtain ⟨A2, d2, e2, n2, rd2, c2⟩ := r2.form
  rw [List.length_map] at e1 e2
  have hrt := right_vm s.m (w.heap.size + 1) A1 A2 s.hs.length d1 s.ms.length d2 W0 (by rw [← e1, ← e2]; exact bx) lh lm
  have hri := fun W => rightI_any ⟨o, d, n, v⟩ W ho
  unfold codeI at hri
  obtain ⟨rm, hrm⟩ : ∃ x, rightM s.hs.length s.ms.length = x := ⟨_, rfl⟩
  rw [hrm] at hrt
  obtain ⟨ri, hrie⟩ : ∃ x, rightI ⟨o, d, n, v⟩ = x := ⟨_, rfl⟩
  simp only [hrie] at hri
  have hval : HoldsS o d n v s = (rm && ri && decide (19 ≤ o) && decide (o ≤ 21) && holdV o (operV n v s) s.m.a) := by unfold HoldsS; rw [hrm, hrie]
  have HBX := Lib.hid bx
  have HB0 := Lib.hid b0
  have HB2 := Lib.hid hb2
  have R1 := Lib.hid r1
  have R2 := Lib.hid r2
  have HRT := Lib.hid hrt
  have HRI := Lib.hid hri
  have HRM := Lib.hid hrm
  have HRE := Lib.hid hrie
  have HVAL := Lib.hid hval
  have HM := Lib.hid hm
  have HWD := Lib.hid hw
  have HMO := Lib.hid mo
  clear bx b0 hb2 r1 r2 hrt hri hrm hrie hval hm hw mo hr1 hr2 rd1 rd2 c1 c2 n1 n2 e1 e2 hcs hW0
  cases rm
  · go_enter Try.func28, Try.ntmps28
    go_wp2_with fail
    rw [HW0.out]
    refine HRT.out.mono ?_
    rintro e w1 ⟨rfl, hb⟩
    have F := Lib.hid (ch0 HB2.out hb)
    clear hb
    go_wp2_with fail
    go_ret
    exact ⟨by rw [HVAL.out]; rfl, F.out⟩
  · cases ri
    · go_enter Try.func28, Try.ntmps28
      go_wp2_with fail
      rw [HW0.out]
      refine HRT.out.mono ?_
      rintro e w1 ⟨rfl, hb⟩
      have q0 := (HB0.out.below hb).cell 0
      have q1 := (HB0.out.below hb).cell 1
      have q2 := (HB0.out.below hb).cell 2
      have q3 := (HB0.out.below hb).cell 3
      simp at q0 q1 q2 q3
      have F := Lib.hid (ch0 HB2.out hb)
      clear hb
      go_wp2_with fail
      refine (HRI.out _).mono ?_
      rintro e w2 ⟨rfl, hb⟩
      have F2 := Lib.hid (ch0 F.out hb)
      clear hb
      go_wp2_with fail
      go_ret
      exact ⟨by rw [HVAL.out]; rfl, F2.out⟩
    · by_cases hx : 19 ≤ o ∧ o ≤ 21
      · have g1 : decide ((19 : Int) ≤ o) = true := by simpa using hx.1
        have g2 : decide (o ≤ (21 : Int)) = true := by simpa using hx.2
        have hok : s.ok := ⟨HM.out, HWD.out, HMO.out, HRM.out⟩
        obtain ⟨gh, dh, eh, _, _, hra⟩ := R1.out.at (by rw [List.length_map]; exact pow_pos hok.p8)
        obtain ⟨gm, dm, em, _, _, hrb⟩ := R2.out.at (by rw [List.length_map]; exact pow_pos hok.p12)
        rw [List.length_map] at eh em
        have hvm : Vm W0 (w.heap.size + 1) gh gm s dh dm := ⟨by rw [← eh, ← em]; exact HBX.out, hra, hrb, hok⟩
        obtain ⟨hd, hn, _⟩ := right_in HRE.out
        have hho := fun W hW => holds61 o d n v (by omega) hn (w := W) (hvm.below hW)
        obtain ⟨bv, hbv⟩ : ∃ x, holdV o (operV n v s) s.m.a = x := ⟨_, rfl⟩
        simp only [hbv] at hho
        have HHO := Lib.hid hho
        have HBV := Lib.hid hbv
        clear hok hra hrb hvm hho hbv hx hd hn eh em
        go_enter Try.func28, Try.ntmps28
        go_wp2_with fail
        rw [HW0.out]
        refine HRT.out.mono ?_
        rintro e w1 ⟨rfl, hb⟩
        have q0 := (HB0.out.below hb).cell 0
        have q1 := (HB0.out.below hb).cell 1
        have q2 := (HB0.out.below hb).cell 2
        have q3 := (HB0.out.below hb).cell 3
        simp at q0 q1 q2 q3
        have BB := Lib.hid hb
        clear hb
        go_wp2_with fail
        refine (HRI.out _).mono ?_
        rintro e w2 ⟨rfl, hb⟩
        have BB2 := Lib.hid (ch0 BB.out hb)
        have k0 := (HB0.out.below BB2.out).cell 0
        have k1 := (HB0.out.below BB2.out).cell 1
        have k2 := (HB0.out.below BB2.out).cell 2
        have k3 := (HB0.out.below BB2.out).cell 3
        simp at k0 k1 k2 k3
        clear hb q0 q1 q2 q3
        go_wp2_with fail
        refine (HHO.out _ BB2.out).mono ?_
        rintro e w3 ⟨rfl, hb⟩
        have F3 := Lib.hid (ch0 HB2.out (ch0 BB2.out hb))
        clear hb
        go_wp2_with fail
        go_ret
        exact ⟨by rw [HVAL.out, HBV.out, g1, g2]; simp, F3.out⟩
      · have hz : HoldsS o d n v s = false := by
          rw [HVAL.out]
          by_cases h1 : 19 ≤ o
          · rw [show decide (o ≤ (21 : Int)) = false by simp; omega]; simp
          · rw [show decide ((19 : Int) ≤ o) = false by simpa using h1]; simp
        have HZ := Lib.hid hz
        clear hz
        by_cases h19 : 19 ≤ o
        · have g1 : decide ((19 : Int) ≤ o) = true := by simpa using h19
          have g2 : decide (o ≤ (21 : Int)) = false := by simp; omega
          go_enter Try.func28, Try.ntmps28
          go_wp2_with fail
          rw [HW0.out]
          refine HRT.out.mono ?_
          rintro e w1 ⟨rfl, hb⟩
          have q0 := (HB0.out.below hb).cell 0
          have q1 := (HB0.out.below hb).cell 1
          have q2 := (HB0.out.below hb).cell 2
          have q3 := (HB0.out.below hb).cell 3
          simp at q0 q1 q2 q3
          have BB := Lib.hid hb
          clear hb
          go_wp2_with fail
          refine (HRI.out _).mono ?_
          rintro e w2 ⟨rfl, hb⟩
          have BB2 := Lib.hid (ch0 BB.out hb)
          have k0 := (HB0.out.below BB2.out).cell 0
          simp at k0
          clear hb q0 q1 q2 q3
          go_wp2_with fail
          go_ret
          exact ⟨by rw [HZ.out]; rfl, ch0 HB2.out BB2.out⟩
        · have g1 : decide ((19 : Int) ≤ o) = false := by simpa using h19
          go_enter Try.func28, Try.ntmps28
          go_wp2_with fail
          rw [HW0.out]
          refine HRT.out.mono ?_
          rintro e w1 ⟨rfl, hb⟩
          have q0 := (HB0.out.below hb).cell 0
          have q1 := (HB0.out.below hb).cell 1
          have q2 := (HB0.out.below hb).cell 2
          have q3 := (HB0.out.below hb).cell 3
          simp at q0 q1 q2 q3
          have BB := Lib.hid hb
          clear hb
          go_wp2_with fail
          refine (HRI.out _).mono ?_
          rintro e w2 ⟨rfl, hb⟩
          have BB2 := Lib.hid (ch0 BB.out hb)
          have k0 := (HB0.out.below BB2.out).cell 0
          simp at k0
          clear hb q0 q1 q2 q3
          go_wp2_with fail
          go_ret
          exact ⟨by rw [HZ.out]; rfl, ch0 HB2.out BB2.out⟩
end Go.Proofs.Ytebmgladdgmmeaa
