/- MeaningLists' walk. Condition: the two lists together of at most 1000000000 statements. -/
import Derived.Test.YtebmgladdgmmeaaVlGXu
import Derived.Test.YtebmgladdgmmeaaVlGXk
import Derived.Test.YtebmgladdgmmeaaVdHeld
import Derived.BigRegion
import Derived.BigQuiet
namespace Go.Proofs.Ytebmgladdgmmeaa
open Go.RowKit Go.WideShapes
open List (setIfInBounds_toArray set_cons_zero set_cons_succ)
set_option linter.unusedVariables false
set_option linter.unusedSimpArgs false
set_option maxRecDepth 100000 in
set_option maxHeartbeats 16000000 in
theorem lists7 (a b : Fo) (A Bb : Option Addr) (ca cb : Nat) (s : St) (Ah Am : Option Addr) (ch cm : Nat) (w : World) (hra : RdS w.heap.size w A a) (hrb : RdS w.heap.size w Bb b) (hca : a.len ≤ ca) (hcb : b.len ≤ cb) (hla : a.len ≤ lenMost) (hlb : b.len ≤ lenMost) (hsz : a.len + b.len ≤ 1000000000) (hin : MIn s Ah Am ch cm w) :
    Calls Try.prog 7 #[.slice A a.len ca, .slice Bb b.len cb, .agg (s.m.cells (.slice Ah s.hs.length ch) (.slice Am s.ms.length cm))] w (Quiet (.bool true) w) := by
  have hz := (zero_of_info zero50).1
  have hm := hin.m
  have bx := MBox.new hm w (.slice Ah s.hs.length ch) (.slice Am s.ms.length cm)
  have hb0 : Below w.heap.size w (w.alloc (.cells (s.m.cells (.slice Ah s.hs.length ch) (.slice Am s.ms.length cm)) 50)) := (Below.refl _ _).alloc (Nat.le_refl _) _
  obtain ⟨xa, fa1, fa2⟩ := FlatF.ofS hra (Nat.le_refl _)
  obtain ⟨xb, fb1, fb2⟩ := FlatF.ofS hrb (Nat.le_refl _)
  have hxa := fa1.length
  have hxb := fb1.length
  have oa := fa1.one
  have ob := fb1.one
  have fab := fa1.app fb1
  have hlen := Fo.app_len a b
  obtain ⟨c4, hc4⟩ : ∃ z, s.m.cells (.slice Ah s.hs.length ch) (.slice Am s.ms.length cm) = z := ⟨_, rfl⟩
  rw [hc4] at hb0 ⊢
  obtain ⟨W0, hW0⟩ : ∃ z, w.alloc (.cells c4 50) = z := ⟨_, rfl⟩
  rw [hW0] at hb0
  have hbx : MBox W0 w.heap.size s.m (.slice Ah s.hs.length ch) (.slice Am s.ms.length cm) := by rw [← hW0, ← hc4]; exact bx
  have hs0 : W0.heap.size = w.heap.size + 1 := by rw [← hW0]; simp
  have e0 := World.ownsRow_lit W0 (e := 35) (size := 13) #[] 0 (Nat.le_refl W0.heap.size) (by simp [maxLen]) rfl
  obtain ⟨na, hna⟩ : ∃ z, a.len = z := ⟨_, rfl⟩
  obtain ⟨nb, hnb⟩ : ∃ z, b.len = z := ⟨_, rfl⟩
  rw [hna] at hxa hca hsz
  rw [hnb] at hxb hcb hsz
  rw [hna, hnb] at hlen
  rw [hna, hnb]
  obtain ⟨zs, hzs⟩ : ∃ x, zCells = x := ⟨_, rfl⟩
  simp only [hzs] at hz
  have HZN : Hid (zs.size = 263) := Lib.hid (by rw [← hzs]; exact Mc.size zM_ok _ _)
  clear hzs
  have HXA := Lib.hid hxa
  have HXB := Lib.hid hxb
  have OA := Lib.hid oa
  have OB := Lib.hid ob
  have FA2 := Lib.hid fa2
  have FB2 := Lib.hid fb2
  have FAB := Lib.hid fab
  have HLEN := Lib.hid hlen
  have HB0 := Lib.hid hb0
  have HBX := Lib.hid hbx
  have HS0 := Lib.hid hs0
  have HRA := Lib.hid hra
  have HRB := Lib.hid hrb
  have HCA := Lib.hid hca
  have HCB := Lib.hid hcb
  have HLA := Lib.hid hla
  have HLB := Lib.hid hlb
  have HSZ := Lib.hid hsz
  have HNA := Lib.hid hna
  have HNB := Lib.hid hnb
  have HM := Lib.hid hm
  have E0 := Lib.hid e0
  clear hxa hxb oa ob fa1 fb1 fa2 fb2 fab hlen hb0 hbx hs0 hra hrb hca hcb hla hlb hna hnb hm hin bx hc4 e0
  go_enter Try.func7, Try.ntmps7
  go_wp2_with (first
    | (at_builtin; refine wpList_appR tSt rfl (.tmp 17) (.tmp 18) rfl W0.heap.size (.slice (some ⟨W0.heap.size, 0, none⟩) 0 0) 0 [] rfl E0.out A na ca xa rfl HXA.out ((FA2.out.below HB0.out rfl).alloc _) OA.out (by have := HSZ.out; omega) (by have := HSZ.out; unfold maxLen; omega) (by simp) ?_; intro v1 w1 o1 g1 b1; rw [Nat.zero_add, List.nil_append] at o1; obtain ⟨A7, c7, rfl, _⟩ := own_slice o1; have O1 := Lib.hid o1; have L1 := Lib.hid (((Below.refl W0.heap.size W0).alloc (Nat.le_refl _) _).trans b1); have S1 := Lib.hid (show W0.heap.size ≤ w1.heap.size from Nat.le_trans (by simp) b1.size); clear o1 g1 b1)
    | (at_builtin; refine wpList_appR tSt rfl (.tmp 19) (.tmp 20) rfl W0.heap.size (.slice A7 na c7) na xa rfl O1.out Bb nb cb xb rfl HXB.out (FB2.out.below (ch0 HB0.out L1.out) rfl) OB.out (by have := HSZ.out; omega) (by have := HSZ.out; unfold maxLen; omega) S1.out ?_; intro v2 w2 o2 g2 b2; obtain ⟨A8, c8, rfl, hc8⟩ := own_slice o2; have O2 := Lib.hid o2; have L2 := Lib.hid (L1.out.trans b2); have HC8 := Lib.hid hc8; clear o2 g2 b2 hc8))
  have BX2 := Lib.hid (HBX.out.below L2.out)
  have LW := Lib.hid (ch0 HB0.out L2.out)
  have hrd := fun (W : World) (hW : Below w2.heap.size w2 W) => flat_own FAB.out (ch0 LW.out hW) (own_below O2.out hW)
  have hlm : (a.app b).len ≤ lenMost := by have := HLEN.out; have := HSZ.out; unfold lenMost; omega
  have hcm : (a.app b).len ≤ c8 := by rw [HLEN.out]; exact HC8.out
  have hdp := deep_any (a.app b) A8 c8 30 200 w2 (hrd w2 (Below.refl _ _)) hcm hlm (by omega) (by omega)
  have hrt := fun W hW (ht : (a.app b).tot ≤ 200) => rightS_any (a.app b) true A8 c8 W (hrd W hW) hcm hlm (by omega)
  have hht := fun W hW => haltsN (a.app b).tot (a.app b) (Nat.le_refl _) W A8 c8 (hrd W hW) hcm hlm
  rw [HLEN.out] at hdp
  simp only [HLEN.out] at hrt hht
  have HRT := Lib.hid hrt
  have HHT := Lib.hid hht
  have HLM := Lib.hid hlm
  have HCM := Lib.hid hcm
  clear hrt hht hlm hcm hrd
  obtain ⟨nab, hnab⟩ : ∃ z, na + nb = z := ⟨_, rfl⟩
  rw [hnab] at hdp HRT HHT HLEN HC8 O2 ⊢
  have HNAB := Lib.hid hnab
  clear hnab hsz
  refine hdp.mono ?_
  clear hdp
  rintro e w3 ⟨⟨dd, rfl, hdt⟩, hb3⟩
  have D3 := Lib.hid hb3
  clear hb3
  cases dd
  rotate_left
  · go_wp2_with fail
    refine (awake35 _).mono ?_
    rintro e w4 ⟨rfl, hb4⟩
    have D4 := Lib.hid (ch0 LW.out (ch0 D3.out hb4))
    clear hb4
    go_wp2_with fail
    go_ret
    exact ⟨rfl, D4.out⟩
  have HTOT := Lib.hid (hdt rfl)
  clear hdt
  go_wp2_with fail
  refine (HRT.out _ D3.out HTOT.out).mono ?_
  rintro e w4 ⟨rfl, hb4⟩
  have D4 := Lib.hid (ch0 D3.out hb4)
  clear hb4
  obtain ⟨rf, hrf⟩ : ∃ z, rightF true (a.app b) = z := ⟨_, rfl⟩
  rw [hrf]
  have HRF := Lib.hid hrf
  clear hrf
  cases rf
  · go_wp2_with fail
    refine (awake35 _).mono ?_
    rintro e w5 ⟨rfl, hb5⟩
    have D5 := Lib.hid (ch0 LW.out (ch0 D4.out hb5))
    clear hb5
    go_wp2_with fail
    go_ret
    exact ⟨rfl, D5.out⟩
  go_wp2_with fail
  refine (HHT.out _ D4.out).mono ?_
  rintro e w5 ⟨rfl, hb5⟩
  have D5 := Lib.hid (ch0 D4.out hb5)
  clear hb5
  obtain ⟨nh, hnh⟩ : ∃ z, noHalt (a.app b) = z := ⟨_, rfl⟩
  rw [hnh]
  have HNH := Lib.hid hnh
  clear hnh
  cases nh
  · go_wp2_with fail
    refine (awake35 _).mono ?_
    rintro e w6 ⟨rfl, hb6⟩
    have D6 := Lib.hid (ch0 LW.out (ch0 D5.out hb6))
    clear hb6
    go_wp2_with fail
    go_ret
    exact ⟨rfl, D6.out⟩
  have L5 := Lib.hid (ch0 LW.out D5.out)
  have BX5 := Lib.hid (BX2.out.below D5.out)
  have O5 := Lib.hid (own_below O2.out D5.out)
  have HNA7 := Lib.hid (show noHalt a = true by have := HNH.out; rw [noHalt_app, Bool.and_eq_true] at this; exact this.1)
  clear HHT HRT D3 D4 D5 BX2 O2 LW L1 O1 S1 E0 HBX HB0 HNH L2
  go_upto_region 4 with fail
  go_cut [6] from 34 (fun f wx => f = .bool false ∧ ∃ gh gm, MBox wx w.heap.size s.m (.slice (some ⟨gh, 0, none⟩) 8 8) (.slice (some ⟨gm, 0, none⟩) 16 16) ∧ RowAt wx gh 45 (List.replicate 8 (.int .u32 0)) ∧ RowAt wx gm 5 (List.replicate 16 (.int .u8 0)) ∧ wx.ownsRow W0.heap.size 35 13 (.slice A8 nab c8) nab (xa ++ xb) ∧ Below w.heap.size w wx)
  case first =>
    refine wp_region_any (by kernel_rfl) ?_
    try (change wpAny _ _ _ _ _ _ _ (World.drew _))
    refine wpAny_ready (rs := [0, 1]) (by kernel_rfl) (by simp) ?_
    refine AllReady.cons rfl (fun K hK => ?_) (AllReady.cons rfl (fun K hK => ?_) AllReady.nil)
    · have HK := Lib.hid hK
      clear hK
      rw [if_pos (by rfl)]
      try simp only [List.getElem_toArray, List.getElem_cons_zero, List.getElem_cons_succ]
      refine wp_makeN tW (.const (.int .i64 8)) (.const (.int .i64 8)) rfl 8 rfl rfl rfl (by decide) (by decide) ?_
      refine HK.out _ _ ?_
      clear HK K
      try simp only [List.getElem_toArray, List.getElem_cons_zero, List.getElem_cons_succ, Act.put, setIfInBounds_toArray, set_cons_zero, set_cons_succ]
      have bnH := Blk.new w5.drew 45 (List.replicate 8 (.int .u32 0)).toArray
      have loH : Below w5.drew.heap.size w5.drew (w5.drew.alloc (.cells (List.replicate 8 (.int .u32 0)).toArray 45)) := (Below.refl _ _).alloc (Nat.le_refl _) _
      obtain ⟨XA, hXA⟩ : ∃ z, w5.drew.alloc (.cells (List.replicate 8 (.int .u32 0)).toArray 45) = z := ⟨_, rfl⟩
      rw [hXA] at bnH loH ⊢
      have BNH := Lib.hid bnH
      have LOH := Lib.hid loH
      clear hXA bnH loH
      refine wpAny_take (i := 2) (v := ?_) rfl (by kernel_rfl) (by kernel_rfl) (by kernel_rfl) (fun _ _ _ h => h) (Or.inl ⟨by rfl, ?_⟩) ?_
      rotate_left
      · (intro w; go_simp) <;> with_reducible rfl
      simp only [List.getElem_toArray, List.getElem_cons_zero, List.getElem_cons_succ, Act.put, setIfInBounds_toArray, set_cons_zero, set_cons_succ]
      refine wpAny_ready (rs := [1, 3]) (by kernel_rfl) (by simp) ?_
      refine AllReady.cons rfl (fun K hK => ?_) (AllReady.cons rfl (fun K hK => ?_) AllReady.nil)
      · have HK := Lib.hid hK
        clear hK
        rw [if_pos (by rfl)]
        try simp only [List.getElem_toArray, List.getElem_cons_zero, List.getElem_cons_succ]
        refine wp_makeN tB (.const (.int .i64 16)) (.const (.int .i64 16)) rfl 16 rfl rfl rfl (by decide) (by decide) ?_
        refine HK.out _ _ ?_
        clear HK K
        try simp only [List.getElem_toArray, List.getElem_cons_zero, List.getElem_cons_succ, Act.put, setIfInBounds_toArray, set_cons_zero, set_cons_succ]
        have bnM := Blk.new XA 5 (List.replicate 16 (.int .u8 0)).toArray
        have loM : Below XA.heap.size XA (XA.alloc (.cells (List.replicate 16 (.int .u8 0)).toArray 5)) := (Below.refl _ _).alloc (Nat.le_refl _) _
        obtain ⟨XB, hXB⟩ : ∃ z, XA.alloc (.cells (List.replicate 16 (.int .u8 0)).toArray 5) = z := ⟨_, rfl⟩
        rw [hXB] at bnM loM ⊢
        have BNM := Lib.hid bnM
        have LOM := Lib.hid loM
        clear hXB bnM loM
        refine wpAny_ready (rs := [3]) (by kernel_rfl) (by simp) ?_
        refine AllReady.cons rfl (fun K hK => ?_) AllReady.nil
        have HK := Lib.hid hK
        clear hK
        rw [if_pos (by rfl)]
        try simp only [List.getElem_toArray, List.getElem_cons_zero, List.getElem_cons_succ]
        have cf := ((((BX5.out.below (Below.drew (Below.refl _ w5))).below LOH.out).below LOM.out)).ch
        have ff := ((((BX5.out.below (Below.drew (Below.refl _ w5))).below LOH.out).below LOM.out)).fz 261
        go_simp
        clear cf ff
        refine HK.out _ _ ?_
        clear HK K
        try simp only [List.getElem_toArray, List.getElem_cons_zero, List.getElem_cons_succ, Act.put, setIfInBounds_toArray, set_cons_zero, set_cons_succ]
        refine wpAny_take (i := 4) (v := ?_) rfl (by kernel_rfl) (by kernel_rfl) (by kernel_rfl) (fun _ _ _ h => h) (Or.inl ⟨by rfl, ?_⟩) ?_
        rotate_left
        · (intro w; go_simp) <;> with_reducible rfl
        simp only [List.getElem_toArray, List.getElem_cons_zero, List.getElem_cons_succ, Act.put, setIfInBounds_toArray, set_cons_zero, set_cons_succ]
        refine wpAny_ready (rs := [5]) (by kernel_rfl) (by simp) ?_
        refine AllReady.cons rfl (fun K hK => ?_) AllReady.nil
        have HK := Lib.hid hK
        clear hK
        rw [if_pos (by rfl)]
        try simp only [List.getElem_toArray, List.getElem_cons_zero, List.getElem_cons_succ]
        have cf := (((((BX5.out.below (Below.drew (Below.refl _ w5))).below LOH.out).below LOM.out).setH (.slice (some ⟨w5.heap.size, 0, none⟩) 8 8))).cm
        have ff := (((((BX5.out.below (Below.drew (Below.refl _ w5))).below LOH.out).below LOM.out).setH (.slice (some ⟨w5.heap.size, 0, none⟩) 8 8))).fz 262
        go_simp
        clear cf ff
        refine HK.out _ _ ?_
        clear HK K
        try simp only [List.getElem_toArray, List.getElem_cons_zero, List.getElem_cons_succ, Act.put, setIfInBounds_toArray, set_cons_zero, set_cons_succ]
        refine wpAny_done (by kernel_rfl) ?_ _
        go_wp2_with fail
        go_meet
        have d0 : Below w5.heap.size w5 w5.drew := Below.drew (Below.refl _ w5)
        have dB : Below w5.heap.size w5 XB := ch0 (ch0 d0 LOH.out) LOM.out
        have bxB := BX5.out.below dB
        have tw := two_set bxB (.slice (some ⟨w5.heap.size, 0, none⟩) 8 8) (.slice (some ⟨XA.heap.size, 0, none⟩) 16 16)
        have bh := BNH.out.below LOM.out
        have bm := BNM.out
        exact ⟨rfl, _, _, tw.1, ⟨_, bh.frm tw.2 (fun e => absurd e (Blk.ne bh bxB.blk (by decide))), by simp⟩, ⟨_, bm.frm tw.2 (fun e => absurd e (Blk.ne bm bxB.blk (by decide))), by simp⟩, tw.2.own (own_below O5.out dB) (fun k hk e => by have := own_ge O5.out k hk; have := HS0.out; omega), (ch0 L5.out dB).trans (tw.2.to_below (ch0 L5.out dB).size (fun k hk => by omega))⟩
      · have HK := Lib.hid hK
        clear hK
        rw [if_pos (by rfl)]
        try simp only [List.getElem_toArray, List.getElem_cons_zero, List.getElem_cons_succ]
        have cf := (((BX5.out.below (Below.drew (Below.refl _ w5))).below LOH.out)).ch
        have ff := (((BX5.out.below (Below.drew (Below.refl _ w5))).below LOH.out)).fz 261
        go_simp
        clear cf ff
        refine HK.out _ _ ?_
        clear HK K
        try simp only [List.getElem_toArray, List.getElem_cons_zero, List.getElem_cons_succ, Act.put, setIfInBounds_toArray, set_cons_zero, set_cons_succ]
        have hxc : Frm (fun k => k = w.heap.size) XA (XA.setCell ⟨w.heap.size, 261, none⟩ (.slice (some ⟨w5.heap.size, 0, none⟩) 8 8)) := (Frm.refl (fun k => k = w.heap.size) XA).setCell (p := ⟨w.heap.size, 261, none⟩) (fun _ => rfl) _
        have hbc := MBox.setH ((BX5.out.below (Below.drew (Below.refl _ w5))).below LOH.out) (.slice (some ⟨w5.heap.size, 0, none⟩) 8 8)
        obtain ⟨XC, hXC⟩ : ∃ z, XA.setCell ⟨w.heap.size, 261, none⟩ (.slice (some ⟨w5.heap.size, 0, none⟩) 8 8) = z := ⟨_, rfl⟩
        rw [hXC] at hxc hbc
        have HXC := Lib.hid hxc
        have HBC := Lib.hid hbc
        rw [hXC]
        clear hXC hxc hbc
        refine wpAny_ready (rs := [1]) (by kernel_rfl) (by simp) ?_
        refine AllReady.cons rfl (fun K hK => ?_) AllReady.nil
        have HK := Lib.hid hK
        clear hK
        rw [if_pos (by rfl)]
        try simp only [List.getElem_toArray, List.getElem_cons_zero, List.getElem_cons_succ]
        refine wp_makeN tB (.const (.int .i64 16)) (.const (.int .i64 16)) rfl 16 rfl rfl rfl (by decide) (by decide) ?_
        refine HK.out _ _ ?_
        clear HK K
        try simp only [List.getElem_toArray, List.getElem_cons_zero, List.getElem_cons_succ, Act.put, setIfInBounds_toArray, set_cons_zero, set_cons_succ]
        have bnM := Blk.new XC 5 (List.replicate 16 (.int .u8 0)).toArray
        have loM : Below XC.heap.size XC (XC.alloc (.cells (List.replicate 16 (.int .u8 0)).toArray 5)) := (Below.refl _ _).alloc (Nat.le_refl _) _
        obtain ⟨XB, hXB⟩ : ∃ z, XC.alloc (.cells (List.replicate 16 (.int .u8 0)).toArray 5) = z := ⟨_, rfl⟩
        rw [hXB] at bnM loM ⊢
        have BNM := Lib.hid bnM
        have LOM := Lib.hid loM
        clear hXB bnM loM
        refine wpAny_take (i := 4) (v := ?_) rfl (by kernel_rfl) (by kernel_rfl) (by kernel_rfl) (fun _ _ _ h => h) (Or.inl ⟨by rfl, ?_⟩) ?_
        rotate_left
        · (intro w; go_simp) <;> with_reducible rfl
        simp only [List.getElem_toArray, List.getElem_cons_zero, List.getElem_cons_succ, Act.put, setIfInBounds_toArray, set_cons_zero, set_cons_succ]
        refine wpAny_ready (rs := [5]) (by kernel_rfl) (by simp) ?_
        refine AllReady.cons rfl (fun K hK => ?_) AllReady.nil
        have HK := Lib.hid hK
        clear hK
        rw [if_pos (by rfl)]
        try simp only [List.getElem_toArray, List.getElem_cons_zero, List.getElem_cons_succ]
        have cf := ((HBC.out.below LOM.out)).cm
        have ff := ((HBC.out.below LOM.out)).fz 262
        go_simp
        clear cf ff
        refine HK.out _ _ ?_
        clear HK K
        try simp only [List.getElem_toArray, List.getElem_cons_zero, List.getElem_cons_succ, Act.put, setIfInBounds_toArray, set_cons_zero, set_cons_succ]
        refine wpAny_done (by kernel_rfl) ?_ _
        go_wp2_with fail
        go_meet
        have d0 : Below w5.heap.size w5 w5.drew := Below.drew (Below.refl _ w5)
        have dA : Below w5.heap.size w5 XA := ch0 d0 LOH.out
        have bxA := BX5.out.below dA
        have bh := BNH.out
        have f1f : Frm (fun k => k = w.heap.size) XA XC := HXC.out
        have bxC := HBC.out.below LOM.out
        have f2 := MBox.setM bxC (.slice (some ⟨XC.heap.size, 0, none⟩) 16 16)
        have f2f : Frm (fun k => k = w.heap.size) XB (XB.setCell ⟨w.heap.size, 262, none⟩ (.slice (some ⟨XC.heap.size, 0, none⟩) 16 16)) := (Frm.refl (fun k => k = w.heap.size) XB).setCell (p := ⟨w.heap.size, 262, none⟩) (fun _ => rfl) _
        have gAC : ∀ g t cs, t ≠ 50 → Blk XA g t cs → Blk (XB.setCell ⟨w.heap.size, 262, none⟩ (.slice (some ⟨XC.heap.size, 0, none⟩) 16 16)) g t cs := fun g t cs ht hb => (((hb.frm f1f (fun e => absurd e (Blk.ne hb bxA.blk ht))).below LOM.out)).frm f2f (fun e => absurd e (Blk.ne ((hb.frm f1f (fun e => absurd e (Blk.ne hb bxA.blk ht))).below LOM.out) bxC.blk ht))
        have bm := BNM.out
        have lC : Below w.heap.size w XC := (ch0 L5.out dA).trans (f1f.to_below (ch0 L5.out dA).size (fun k hk => by omega))
        exact ⟨rfl, _, _, f2, ⟨_, gAC _ _ _ (by decide) bh, by simp⟩, ⟨_, bm.frm f2f (fun e => absurd e (Blk.ne bm bxC.blk (by decide))), by simp⟩, f2f.own (own_below (f1f.own (own_below O5.out dA) (fun k hk e => by have := own_ge O5.out k hk; have := HS0.out; omega)) LOM.out) (fun k hk e => by have := own_ge O5.out k hk; have := HS0.out; omega), (ch0 lC LOM.out).trans (f2f.to_below (ch0 lC LOM.out).size (fun k hk => by omega))⟩
    · have HK := Lib.hid hK
      clear hK
      rw [if_pos (by rfl)]
      try simp only [List.getElem_toArray, List.getElem_cons_zero, List.getElem_cons_succ]
      refine wp_makeN tB (.const (.int .i64 16)) (.const (.int .i64 16)) rfl 16 rfl rfl rfl (by decide) (by decide) ?_
      refine HK.out _ _ ?_
      clear HK K
      try simp only [List.getElem_toArray, List.getElem_cons_zero, List.getElem_cons_succ, Act.put, setIfInBounds_toArray, set_cons_zero, set_cons_succ]
      have bnM := Blk.new w5.drew 5 (List.replicate 16 (.int .u8 0)).toArray
      have loM : Below w5.drew.heap.size w5.drew (w5.drew.alloc (.cells (List.replicate 16 (.int .u8 0)).toArray 5)) := (Below.refl _ _).alloc (Nat.le_refl _) _
      obtain ⟨XA, hXA⟩ : ∃ z, w5.drew.alloc (.cells (List.replicate 16 (.int .u8 0)).toArray 5) = z := ⟨_, rfl⟩
      rw [hXA] at bnM loM ⊢
      have BNM := Lib.hid bnM
      have LOM := Lib.hid loM
      clear hXA bnM loM
      refine wpAny_ready (rs := [0]) (by kernel_rfl) (by simp) ?_
      refine AllReady.cons rfl (fun K hK => ?_) AllReady.nil
      have HK := Lib.hid hK
      clear hK
      rw [if_pos (by rfl)]
      try simp only [List.getElem_toArray, List.getElem_cons_zero, List.getElem_cons_succ]
      refine wp_makeN tW (.const (.int .i64 8)) (.const (.int .i64 8)) rfl 8 rfl rfl rfl (by decide) (by decide) ?_
      refine HK.out _ _ ?_
      clear HK K
      try simp only [List.getElem_toArray, List.getElem_cons_zero, List.getElem_cons_succ, Act.put, setIfInBounds_toArray, set_cons_zero, set_cons_succ]
      have bnH := Blk.new XA 45 (List.replicate 8 (.int .u32 0)).toArray
      have loH : Below XA.heap.size XA (XA.alloc (.cells (List.replicate 8 (.int .u32 0)).toArray 45)) := (Below.refl _ _).alloc (Nat.le_refl _) _
      obtain ⟨XB, hXB⟩ : ∃ z, XA.alloc (.cells (List.replicate 8 (.int .u32 0)).toArray 45) = z := ⟨_, rfl⟩
      rw [hXB] at bnH loH ⊢
      have BNH := Lib.hid bnH
      have LOH := Lib.hid loH
      clear hXB bnH loH
      refine wpAny_take (i := 2) (v := ?_) rfl (by kernel_rfl) (by kernel_rfl) (by kernel_rfl) (fun _ _ _ h => h) (Or.inl ⟨by rfl, ?_⟩) ?_
      rotate_left
      · (intro w; go_simp) <;> with_reducible rfl
      simp only [List.getElem_toArray, List.getElem_cons_zero, List.getElem_cons_succ, Act.put, setIfInBounds_toArray, set_cons_zero, set_cons_succ]
      refine wpAny_ready (rs := [3]) (by kernel_rfl) (by simp) ?_
      refine AllReady.cons rfl (fun K hK => ?_) AllReady.nil
      have HK := Lib.hid hK
      clear hK
      rw [if_pos (by rfl)]
      try simp only [List.getElem_toArray, List.getElem_cons_zero, List.getElem_cons_succ]
      have cf := ((((BX5.out.below (Below.drew (Below.refl _ w5))).below LOM.out).below LOH.out)).ch
      have ff := ((((BX5.out.below (Below.drew (Below.refl _ w5))).below LOM.out).below LOH.out)).fz 261
      go_simp
      clear cf ff
      refine HK.out _ _ ?_
      clear HK K
      try simp only [List.getElem_toArray, List.getElem_cons_zero, List.getElem_cons_succ, Act.put, setIfInBounds_toArray, set_cons_zero, set_cons_succ]
      refine wpAny_take (i := 4) (v := ?_) rfl (by kernel_rfl) (by kernel_rfl) (by kernel_rfl) (fun _ _ _ h => h) (Or.inl ⟨by rfl, ?_⟩) ?_
      rotate_left
      · (intro w; go_simp) <;> with_reducible rfl
      simp only [List.getElem_toArray, List.getElem_cons_zero, List.getElem_cons_succ, Act.put, setIfInBounds_toArray, set_cons_zero, set_cons_succ]
      refine wpAny_ready (rs := [5]) (by kernel_rfl) (by simp) ?_
      refine AllReady.cons rfl (fun K hK => ?_) AllReady.nil
      have HK := Lib.hid hK
      clear hK
      rw [if_pos (by rfl)]
      try simp only [List.getElem_toArray, List.getElem_cons_zero, List.getElem_cons_succ]
      have cf := (((((BX5.out.below (Below.drew (Below.refl _ w5))).below LOM.out).below LOH.out).setH (.slice (some ⟨XA.heap.size, 0, none⟩) 8 8))).cm
      have ff := (((((BX5.out.below (Below.drew (Below.refl _ w5))).below LOM.out).below LOH.out).setH (.slice (some ⟨XA.heap.size, 0, none⟩) 8 8))).fz 262
      go_simp
      clear cf ff
      refine HK.out _ _ ?_
      clear HK K
      try simp only [List.getElem_toArray, List.getElem_cons_zero, List.getElem_cons_succ, Act.put, setIfInBounds_toArray, set_cons_zero, set_cons_succ]
      refine wpAny_done (by kernel_rfl) ?_ _
      go_wp2_with fail
      go_meet
      have d0 : Below w5.heap.size w5 w5.drew := Below.drew (Below.refl _ w5)
      have dB : Below w5.heap.size w5 XB := ch0 (ch0 d0 LOM.out) LOH.out
      have bxB := BX5.out.below dB
      have tw := two_set bxB (.slice (some ⟨XA.heap.size, 0, none⟩) 8 8) (.slice (some ⟨w5.heap.size, 0, none⟩) 16 16)
      have bh := BNH.out
      have bm := BNM.out.below LOH.out
      exact ⟨rfl, _, _, tw.1, ⟨_, bh.frm tw.2 (fun e => absurd e (Blk.ne bh bxB.blk (by decide))), by simp⟩, ⟨_, bm.frm tw.2 (fun e => absurd e (Blk.ne bm bxB.blk (by decide))), by simp⟩, tw.2.own (own_below O5.out dB) (fun k hk e => by have := own_ge O5.out k hk; have := HS0.out; omega), (ch0 L5.out dB).trans (tw.2.to_below (ch0 L5.out dB).size (fun k hk => by omega))⟩
  case rest =>
    obtain ⟨rfl, gh, gm, hbx, hrh, hrm, hown, hlow⟩ := hcut
    obtain ⟨W5, rfl⟩ : ∃ z, z = wc := ⟨_, rfl⟩
    obtain ⟨s', hs'⟩ : ∃ z : St, z = ⟨s.m, List.replicate 8 0, List.replicate 16 0⟩ := ⟨_, rfl⟩
    have e1 : s.m = s'.m := by rw [hs']
    have e2 : s'.hs = List.replicate 8 0 := by rw [hs']
    have e3 : s'.ms = List.replicate 16 0 := by rw [hs']
    have hl8 : s'.hs.length = 8 := by rw [e2]; rfl
    have hl16 : s'.ms.length = 16 := by rw [e3]; rfl
    have hr8 : OwnR W5 0 (.slice (some ⟨gh, 0, none⟩) 8 8) 45 (s'.hs.map (.int .u32)) := .inr ⟨gh, 8, by rw [List.length_map, hl8], by rw [List.length_map, hl8]; exact Nat.le_refl _, Nat.zero_le _, by rw [e2]; simpa using hrh⟩
    have hr16 : OwnR W5 0 (.slice (some ⟨gm, 0, none⟩) 16 16) 5 (s'.ms.map (.int .u8)) := .inr ⟨gm, 16, by rw [List.length_map, hl16], by rw [List.length_map, hl16]; exact Nat.le_refl _, Nat.zero_le _, by rw [e3]; simpa using hrm⟩
    have hwd : Wds s'.hs := fun x hx => by rw [e2, List.mem_replicate] at hx; rw [hx.2]; exact u32_0
    have hoc : Oct s'.ms := fun x hx => by rw [e3, List.mem_replicate] at hx; rw [hx.2]; exact ⟨by omega, by omega⟩
    have hmk : s'.m.ok := by rw [← e1]; exact HM.out
    have hrM : rightM s'.hs.length s'.ms.length = true := by rw [hl8, hl16]; decide +kernel
    rw [e1] at hbx
    have BXF := Lib.hid hbx
    have OF := Lib.hid hown
    have LF := Lib.hid hlow
    have R8 := Lib.hid hr8
    have R16 := Lib.hid hr16
    have HWD := Lib.hid hwd
    have HOC := Lib.hid hoc
    have HMK := Lib.hid hmk
    have HRM := Lib.hid hrM
    have HL8 := Lib.hid hl8
    have HL16 := Lib.hid hl16
    clear hbx hown hlow hr8 hr16 hwd hoc hmk hrM hl8 hl16 e1 e2 e3 hs' hrh hrm L5 BX5 O5
    have hra := fun (V : World) (hV : Below W5.heap.size W5 V) => run36x a A ca true s' HMK.out HWD.out HOC.out 0 (.slice (some ⟨gh, 0, none⟩) 8 8) (.slice (some ⟨gm, 0, none⟩) 16 16) 100 300 V ((HRA.out.below (ch0 LF.out hV)).mono (ch0 LF.out hV).size) (by rw [HNA.out]; exact HCA.out) HLA.out (by have := HTOT.out; rw [Fo.app_tot] at this; omega) (R8.out.below hV) (R16.out.below hV) (by rw [HL8.out]; omega) (by rw [HL16.out]; omega) (by omega) (by omega)
    have hrab := fun (V : World) (hV : Below W5.heap.size W5 V) => run36x (a.app b) A8 c8 true s' HMK.out HWD.out HOC.out 0 (.slice (some ⟨gh, 0, none⟩) 8 8) (.slice (some ⟨gm, 0, none⟩) 16 16) 200 600 V (flat_own FAB.out (ch0 LF.out hV) (own_below OF.out hV)) HCM.out HLM.out (by have := HTOT.out; omega) (R8.out.below hV) (R16.out.below hV) (by rw [HL8.out]; omega) (by rw [HL16.out]; omega) (by omega) (by omega)
    have hrb := fun (V : World) (hV : Below W5.heap.size W5 V) (r : St × List Int × Int) (hk : r.1.m.ok ∧ Wds r.1.hs ∧ Oct r.1.ms ∧ r.1.hs.length ≤ 5000 ∧ r.1.ms.length ≤ 5000) (v1 v2 : Value) (q1 : OwnR V 0 v1 45 (r.1.hs.map (.int .u32))) (q2 : OwnR V 0 v2 5 (r.1.ms.map (.int .u8))) => run36x b Bb cb true r.1 hk.1 hk.2.1 hk.2.2.1 0 v1 v2 100 300 V ((HRB.out.below (ch0 LF.out hV)).mono (ch0 LF.out hV).size) (by rw [HNB.out]; exact HCB.out) HLB.out (by have := HTOT.out; rw [Fo.app_tot] at this; omega) q1 q2 hk.2.2.2.1 hk.2.2.2.2 (by omega) (by omega)
    rw [HNA.out] at hra
    simp only [HLEN.out] at hrab
    rw [HNB.out] at hrb
    have z9 := Mc.size HMK.out (.slice (some ⟨gh, 0, none⟩) 8 8) (.slice (some ⟨gm, 0, none⟩) 16 16)
    obtain ⟨c9, hc9⟩ : ∃ z, s'.m.cells (.slice (some ⟨gh, 0, none⟩) 8 8) (.slice (some ⟨gm, 0, none⟩) 16 16) = z := ⟨_, rfl⟩
    rw [hc9] at z9
    simp only [hc9] at hra hrab
    have rg9 : ∀ W, Below W5.heap.size W5 W → W.rangeAt w.heap.size 0 c9.toList := fun W hW j u hu => by
      rw [Nat.zero_add, (BXF.out.below hW).blk.cell j, hc9]
      simpa using hu
    have SL9 : Hid ((Try.prog.info? 50).map (·.size) = some c9.toList.length) := Lib.hid (by rw [Array.length_toList, z9]; exact size50)
    have RG9 := Lib.hid rg9
    have RUNA := Lib.hid hra
    have RUNAB := Lib.hid hrab
    have RUNB := Lib.hid hrb
    clear rg9 hra hrab hrb z9 hc9
    go_upto_region 5 with fail
    go_cut [8, 9, 10] from 39 (fun ua ub uc wx => ∃ (g : Nat) (z : Int) (r : St × List Int × Int), ua = .pointer (some ⟨g, 0, none⟩) ∧ uc = .int .i64 z ∧ Res7 a s' 100 300 W5 g ub z r wx)
    case first =>
      go_wp2_with (refine wpList_load_midA rfl 50 (.tmp 5) rfl w.heap.size 0 rfl c9 _ (RG9.out _ (Below.refl _ _)) Try.underlying50 rfl SL9.out ?_; simp only [Act.put, setIfInBounds_toArray, set_cons_zero, set_cons_succ])
      refine (RUNA.out _ (Below.refl _ _)).mono ?_
      rintro e w6 ⟨⟨x1, y1, z1⟩, hrv1, ⟨vh, vm, vo, rfl, oh, om, oo⟩, l5, hok1⟩
      have hrs := Res7.mk' hrv1 hok1 oh om oo l5
      have one := Mc.one (m := x1.m) oh.one om.one
      have hsz := Mc.size hok1.1 vh vm
      obtain ⟨c5, hc5⟩ : ∃ z, x1.m.cells vh vm = z := ⟨_, rfl⟩
      dsimp only
      rw [hc5] at one hsz hrs ⊢
      have SI5 : Hid ((Try.prog.info? 50).map (·.size) = some c5.size) := Lib.hid (by rw [hsz]; exact size50)
      have SS5 : Hid (zs.size = c5.size) := Lib.hid (by rw [hsz]; exact HZN.out)
      have ONE5 := Lib.hid one
      have HRS := Lib.hid hrs
      clear one hsz hrs hok1 oh om oo l5 hc5 hrv1
      go_wp2_with (refine wpList_store_row rfl 50 (.tmp 8) (.tmp 42) rfl w6.heap.size c5 rfl rfl 50 _ (heap_alloc_new _ _) SI5.out SS5.out ONE5.out ?_; rw [World.setRow_alloc_new])
      go_meet
      exact ⟨_, _, _, rfl, rfl, HRS.out⟩
    case rest =>
      obtain ⟨g1, zz1, r1, rfl, rfl, hres⟩ := hcut
      obtain ⟨W6, rfl⟩ : ∃ z, z = wc := ⟨_, rfl⟩
      have HRES := Lib.hid hres
      clear hres
      have LL6 := Lib.hid (ch0 LF.out HRES.out.low)
      have hcode := runM_code HRES.out.run (rightF_app HRF.out).1 HRM.out
      rw [HRES.out.z] at hcode
      rcases hcode with rfl | rfl | rfl
      rotate_left
      iterate 2
        · go_wp2_with fail
          refine (awake35 _).mono ?_
          rintro e w7 ⟨rfl, hbk⟩
          have KK := Lib.hid (ch0 LL6.out hbk)
          clear hbk
          go_wp2_with fail
          go_ret
          exact ⟨rfl, KK.out⟩
      obtain ⟨vh, vm, bx1, oh1, om1⟩ := HRES.out.box
      have hrb := RUNB.out W6 HRES.out.low r1 HRES.out.ok vh vm oh1 om1
      have z6 := Mc.size HRES.out.ok.1 vh vm
      obtain ⟨c6, hc6⟩ : ∃ z, r1.1.m.cells vh vm = z := ⟨_, rfl⟩
      rw [hc6] at hrb z6
      have rg6 : W6.rangeAt g1 0 c6.toList := fun j u hu => by
        rw [Nat.zero_add, bx1.blk.cell j, hc6]
        simpa using hu
      have SL6 : Hid ((Try.prog.info? 50).map (·.size) = some c6.toList.length) := Lib.hid (by rw [Array.length_toList, z6]; exact size50)
      have RG6 := Lib.hid rg6
      have RUN6 := Lib.hid hrb
      clear rg6 hrb z6 hc6 bx1 oh1 om1 RUNA RUNB
      go_upto_region 8 with fail
      go_cut [11, 12, 13] from 57 (fun ua ub uc wx => ∃ (g : Nat) (z : Int) (r : St × List Int × Int), ua = .pointer (some ⟨g, 0, none⟩) ∧ uc = .int .i64 z ∧ Res7 b r1.1 100 300 W6 g ub z r wx)
      case first =>
        go_wp2_with (refine wpList_load_midA rfl 50 (.tmp 8) rfl g1 0 rfl c6 _ RG6.out Try.underlying50 rfl SL6.out ?_; simp only [Act.put, setIfInBounds_toArray, set_cons_zero, set_cons_succ])
        refine (RUN6.out).mono ?_
        rintro e w6 ⟨⟨x1, y1, z1⟩, hrv1, ⟨vh, vm, vo, rfl, oh, om, oo⟩, l5, hok1⟩
        have hrs := Res7.mk' hrv1 hok1 oh om oo l5
        have one := Mc.one (m := x1.m) oh.one om.one
        have hsz := Mc.size hok1.1 vh vm
        obtain ⟨c5, hc5⟩ : ∃ z, x1.m.cells vh vm = z := ⟨_, rfl⟩
        dsimp only
        rw [hc5] at one hsz hrs ⊢
        have SI5 : Hid ((Try.prog.info? 50).map (·.size) = some c5.size) := Lib.hid (by rw [hsz]; exact size50)
        have SS5 : Hid (zs.size = c5.size) := Lib.hid (by rw [hsz]; exact HZN.out)
        have ONE5 := Lib.hid one
        have HRS := Lib.hid hrs
        clear one hsz hrs hok1 oh om oo l5 hc5 hrv1
        go_wp2_with (refine wpList_store_row rfl 50 (.tmp 11) (.tmp 60) rfl w6.heap.size c5 rfl rfl 50 _ (heap_alloc_new _ _) SI5.out SS5.out ONE5.out ?_; rw [World.setRow_alloc_new])
        go_meet
        exact ⟨_, _, _, rfl, rfl, HRS.out⟩
      case rest =>
        obtain ⟨g2, zz2, r2, rfl, rfl, hres⟩ := hcut
        obtain ⟨W7, rfl⟩ : ∃ z, z = wc := ⟨_, rfl⟩
        have HRES2 := Lib.hid hres
        clear hres RG6 SL6 RUN6
        have L57 := Lib.hid (ch0 HRES.out.low HRES2.out.low)
        go_upto_region 9 with fail
        go_cut [14, 15, 16] from 64 (fun ua ub uc wx => ∃ (g : Nat) (z : Int) (r : St × List Int × Int), ua = .pointer (some ⟨g, 0, none⟩) ∧ uc = .int .i64 z ∧ Res7 (a.app b) s' 200 600 W7 g ub z r wx)
        case first =>
          go_wp2_with (refine wpList_load_midA rfl 50 (.tmp 5) rfl w.heap.size 0 rfl c9 _ (RG9.out _ L57.out) Try.underlying50 rfl SL9.out ?_; simp only [Act.put, setIfInBounds_toArray, set_cons_zero, set_cons_succ])
          refine (RUNAB.out _ L57.out).mono ?_
          rintro e w6 ⟨⟨x1, y1, z1⟩, hrv1, ⟨vh, vm, vo, rfl, oh, om, oo⟩, l5, hok1⟩
          have hrs := Res7.mk' hrv1 hok1 oh om oo l5
          have one := Mc.one (m := x1.m) oh.one om.one
          have hsz := Mc.size hok1.1 vh vm
          obtain ⟨c5, hc5⟩ : ∃ z, x1.m.cells vh vm = z := ⟨_, rfl⟩
          dsimp only
          rw [hc5] at one hsz hrs ⊢
          have SI5 : Hid ((Try.prog.info? 50).map (·.size) = some c5.size) := Lib.hid (by rw [hsz]; exact size50)
          have SS5 : Hid (zs.size = c5.size) := Lib.hid (by rw [hsz]; exact HZN.out)
          have ONE5 := Lib.hid one
          have HRS := Lib.hid hrs
          clear one hsz hrs hok1 oh om oo l5 hc5 hrv1
          go_wp2_with (refine wpList_store_row rfl 50 (.tmp 14) (.tmp 67) rfl w6.heap.size c5 rfl rfl 50 _ (heap_alloc_new _ _) SI5.out SS5.out ONE5.out ?_; rw [World.setRow_alloc_new])
          go_meet
          exact ⟨_, _, _, rfl, rfl, HRS.out⟩
        case rest =>
          obtain ⟨g3, zz3, r3, rfl, rfl, hres⟩ := hcut
          obtain ⟨W8, rfl⟩ : ∃ z, z = wc := ⟨_, rfl⟩
          have HRES3 := Lib.hid hres
          clear hres RG9 SL9 RUNAB
          have LL8 := Lib.hid (ch0 (ch0 LF.out L57.out) HRES3.out.low)
          by_cases hz2 : zz2 = 0
          rotate_left
          · have g0 : (zz2 == 0) = false := by simpa using hz2
            have g1 : (zz2 != 0) = true := by simp [bne, g0]
            go_wp2_with fail
            refine (awake35 _).mono ?_
            rintro e w9 ⟨rfl, hbk⟩
            have KK := Lib.hid (ch0 LL8.out hbk)
            clear hbk
            go_wp2_with fail
            go_ret
            exact ⟨rfl, KK.out⟩
          subst hz2
          obtain ⟨rfl, hn1, hn2⟩ := both7 HNA7.out HRF.out HRM.out HRES.out.run HRES.out.z HRES2.out.run HRES2.out.z HRES3.out.run
          obtain rfl : 0 = zz3 := HRES3.out.z
          have hr1 := HRES.out.below (ch0 HRES2.out.low HRES3.out.low)
          have hr2 := HRES2.out.below HRES3.out.low
          have hr3 := HRES3.out
          have p1 := hr1.out
          have p2 := hr2.out
          have p3 := hr3.out
          have lt6 := own_ltX HRES.out.out
          have lt67 := HRES2.out.low.size
          obtain ⟨vh2, vm2, bx2, oh2, om2⟩ := hr2.box
          obtain ⟨vh3, vm3, bx3, oh3, om3⟩ := hr3.box
          have h26 := fun W (hW : Below W8.heap.size W8 W) => same_own r2.1 hr2.ok.1 0 0 vh2 vm2 vh3 vm3 W (oh2.below hW) (om2.below hW) (oh3.below hW) (om3.below hW) hr2.ok.2.2.2.1 hr2.ok.2.2.2.2
          have z7 := Mc.size hr2.ok.1 vh2 vm2
          have z8 := Mc.size hr2.ok.1 vh3 vm3
          obtain ⟨d7, hd7⟩ : ∃ z, r2.1.m.cells vh2 vm2 = z := ⟨_, rfl⟩
          obtain ⟨d8, hd8⟩ : ∃ z, r2.1.m.cells vh3 vm3 = z := ⟨_, rfl⟩
          simp only [hd7, hd8] at h26
          rw [hd7] at z7
          rw [hd8] at z8
          have rg7 : W8.rangeAt g2 0 d7.toList := fun j u hu => by
            rw [Nat.zero_add, bx2.blk.cell j, hd7]
            simpa using hu
          have rg8 : W8.rangeAt g3 0 d8.toList := fun j u hu => by
            rw [Nat.zero_add, bx3.blk.cell j, hd8]
            simpa using hu
          have SL7 : Hid ((Try.prog.info? 50).map (·.size) = some d7.toList.length) := Lib.hid (by rw [Array.length_toList, z7]; exact size50)
          have SL8 : Hid ((Try.prog.info? 50).map (·.size) = some d8.toList.length) := Lib.hid (by rw [Array.length_toList, z8]; exact size50)
          have RG7 := Lib.hid rg7
          have RG8 := Lib.hid rg8
          have H26 := Lib.hid h26
          obtain ⟨ps, hps⟩ : ∃ z, r1.2.1 = z := ⟨_, rfl⟩
          obtain ⟨qs, hqs⟩ : ∃ z, r2.2.1 = z := ⟨_, rfl⟩
          simp only [hps, hqs] at p1 p2 p3 hn1 hn2
          obtain ⟨Ap, cp, rfl, _⟩ := own_slice p1
          obtain ⟨Aq, cq, rfl, _⟩ := own_slice p2
          obtain ⟨Ar, cr, rfl, _⟩ := own_slice p3
          have one2 : ∀ u ∈ qs.map (Value.int .u8), u.oneCell' = true := fun u hu => by
            obtain ⟨x, _, rfl⟩ := List.mem_map.1 hu
            rfl
          have hsame := fun (W : World) (A : Option Addr) (c : Nat) (k1 : Rd W A ((ps ++ qs).map (.int .u8))) (k2 : Rd W Ar ((ps ++ qs).map (.int .u8))) => sameBytes_any (ps ++ qs) (ps ++ qs) A Ar (ps.length + qs.length) (ps.length + qs.length) c cr W (by rw [List.length_append]) (by rw [List.length_append]) k1 k2 (by omega)
          simp only [decide_true] at hsame
          have hlr : (ps ++ qs).length = ps.length + qs.length := List.length_append
          rw [hlr] at p3 ⊢
          obtain ⟨np, hnp⟩ : ∃ z, ps.length = z := ⟨_, rfl⟩
          obtain ⟨nq, hnq⟩ : ∃ z, qs.length = z := ⟨_, rfl⟩
          have hqm : nq = (qs.map (Value.int .u8)).length := by rw [List.length_map, hnq]
          rw [hnp] at p1 hn1 lt6
          rw [hnq] at p2 hn2
          rw [hnp, hnq] at p3 hsame ⊢
          have P1 := Lib.hid p1
          have P2 := Lib.hid p2
          have P3 := Lib.hid p3
          have HQM := Lib.hid hqm
          have HN1 := Lib.hid hn1
          have HN2 := Lib.hid hn2
          have HSAME := Lib.hid hsame
          have ONE2 := Lib.hid one2
          have LT6 := Lib.hid (fun k hk => Nat.lt_of_lt_of_le (lt6 k hk) lt67)
          have LT67 := Lib.hid lt67
          clear rg7 rg8 h26 hd7 hd8 z7 z8 bx2 bx3 oh2 om2 oh3 om3 hr1 hr2 hr3 p1 p2 p3 hqm hn1 hn2 hsame one2 lt6 lt67 hlr hnp hnq hps hqs
          go_wp2_with (first
            | (refine wpList_load_midA rfl 50 (.tmp 11) rfl g2 0 rfl d7 _ RG7.out Try.underlying50 rfl SL7.out ?_; simp only [Act.put, setIfInBounds_toArray, set_cons_zero, set_cons_succ])
            | (refine wpList_load_midA rfl 50 (.tmp 14) rfl g3 0 rfl d8 _ RG8.out Try.underlying50 rfl SL8.out ?_; simp only [Act.put, setIfInBounds_toArray, set_cons_zero, set_cons_succ]))
          refine (H26.out _ (Below.refl _ _)).mono ?_
          rintro e w9 ⟨rfl, hb9⟩
          have K9 := Lib.hid hb9
          clear hb9
          go_wp2_with (at_builtin; refine wpList_app tB rfl (.tmp 81) (.tmp 82) rfl W5.heap.size (.slice Ap np cp) np (ps.map (.int .u8)) rfl (own_below P1.out K9.out) Aq nq cq (qs.map (.int .u8)) rfl HQM.out ((Rd.of_own P2.out).below K9.out rfl) ONE2.out (by have := HN1.out; have := HN2.out; omega) (by have := HN1.out; have := HN2.out; unfold maxLen; omega) (by have := L57.out.size; have := HRES3.out.low.size; have := K9.out.size; omega) ?_; intro v10 w10 o10 g10 b10; obtain ⟨A10, c10, rfl, _⟩ := own_slice o10; have O10 := Lib.hid o10; have G10 := Lib.hid g10; have B10 := Lib.hid b10; clear o10 g10 b10)
          have l6 := LT6.out
          have g10 := G10.out
          generalize (Value.slice Ap np cp).ownBlock = row at l6 g10
          have k3 : Rd w10 Ar ((ps ++ qs).map (.int .u8)) := Rd.of_own (kept_row (own_below P3.out K9.out) g10 l6)
          have K3 := Lib.hid k3
          clear l6 g10 k3
          refine (HSAME.out _ A10 c10 (by have := Rd.of_own O10.out; rwa [← List.map_append] at this) K3.out).mono ?_
          rintro e w11 ⟨rfl, hb11⟩
          have K11 := Lib.hid (ch0 ((ch0 LL8.out K9.out).trans (B10.out.mono LF.out.size)) hb11)
          clear hb11
          go_wp2_with fail
          refine (awake35 _).mono ?_
          rintro e w12 ⟨rfl, hb12⟩
          have K12 := Lib.hid (ch0 K11.out hb12)
          clear hb12
          go_wp2_with fail
          go_ret
          exact ⟨rfl, K12.out⟩
end Go.Proofs.Ytebmgladdgmmeaa
