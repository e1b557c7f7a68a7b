/- Do, of the reference: walks. Condition: memories of at most 5000 places. -/
import Derived.Test.YtebmgladdgmmeaaVdGQd
import Derived.Test.YtebmgladdgmmeaaVdGQb
import Derived.Test.YtebmgladdgmmeaaVdHeld
import Derived.Test.YtebmgladdgmmeaaVdGQe
namespace Go.Proofs.Ytebmgladdgmmeaa
open Go.RowKit Go.WideShapes
set_option linter.unusedVariables false
set_option linter.unusedSimpArgs false
set_option maxRecDepth 100000 in
set_option maxHeartbeats 8000000 in
theorem do27_no (OO d n v : Int) (s : St) (hm : s.m.ok) (hw : Wds s.hs) (mo : Oct s.ms) (Ah Am : Option Addr) (ch cm nh nm : Nat) (w : World) (hnh : nh = s.hs.length) (hnm : nm = s.ms.length) (hh : Rd w Ah (s.hs.map (.int .u32))) (hmr : Rd w Am (s.ms.map (.int .u8))) (lh : nh ≤ 5000) (lm : nm ≤ 5000) (HO0 : 0 ≤ OO) (hno : ¬ (rightM s.hs.length s.ms.length = true ∧ rightI ⟨OO, d, n, v⟩ = true)) :
    Calls Try.prog 27 #[.agg #[.int .u8 OO, .int .i64 d, .int .i64 n, .int .i64 v], .agg (s.m.cells (.slice Ah nh ch) (.slice Am nm cm))] w (IsMachR s w) := by
  subst hnh hnm
  have hz := (zero_of_info zero50).1
  have bx := MBox.new hm (w.alloc (.cells #[.int .u8 OO, .int .i64 d, .int .i64 n, .int .i64 v] 31)) (.slice Ah s.hs.length ch) (.slice Am s.ms.length cm)
  rw [World.size_alloc] at bx
  have b0 := (((Blk.new w 31 #[.int .u8 OO, .int .i64 d, .int .i64 n, .int .i64 v]).alloc (.cells (s.m.cells (.slice Ah s.hs.length ch) (.slice Am s.ms.length cm)) 50)).alloc (.cells zCells 50))
  have bb := bx.below ((Below.refl _ _).alloc (Nat.le_refl _) (.cells zCells 50))
  have br := Blk.new ((w.alloc (.cells #[.int .u8 OO, .int .i64 d, .int .i64 n, .int .i64 v] 31)).alloc (.cells (s.m.cells (.slice Ah s.hs.length ch) (.slice Am s.ms.length cm)) 50)) 50 zCells
  rw [World.size_alloc, World.size_alloc] at br
  have hb3 : Below w.heap.size w (((w.alloc (.cells #[.int .u8 OO, .int .i64 d, .int .i64 n, .int .i64 v] 31)).alloc (.cells (s.m.cells (.slice Ah s.hs.length ch) (.slice Am s.ms.length cm)) 50)).alloc (.cells zCells 50)) := (((Below.refl _ _).alloc (Nat.le_refl _) _).alloc (by simp) _).alloc (by simp; omega) _
  have hcp := copyMach_any s.m hm s.hs s.ms Ah Am ch cm s.hs.length s.ms.length _ rfl rfl (hh.below hb3 rfl) (hmr.below hb3 rfl) (by omega) (by omega)
  have i1 : (Try.prog.info? 50).map (·.size) = some (s.m.cells (.slice Ah s.hs.length ch) (.slice Am s.ms.length cm)).toList.length := by
    have h := Mc.size hm (.slice Ah s.hs.length ch) (.slice Am s.ms.length cm)
    rw [Array.length_toList, h]
    exact size50
  have hrg := bb.range
  obtain ⟨cs, hcs⟩ : ∃ x, s.m.cells (.slice Ah s.hs.length ch) (.slice Am s.ms.length cm) = x := ⟨_, rfl⟩
  have hcl : s.m.list (.slice Ah s.hs.length ch) (.slice Am s.ms.length cm) = cs.toList := by rw [← hcs]; rfl
  rw [hcs] at hcp b0 bb br hb3 i1 hrg ⊢
  rw [hcl] at hrg
  obtain ⟨W0, hW0⟩ : ∃ x, (((w.alloc (.cells #[.int .u8 OO, .int .i64 d, .int .i64 n, .int .i64 v] 31)).alloc (.cells cs 50)).alloc (.cells zCells 50)) = x := ⟨_, rfl⟩
  have hsz : W0.heap.size = w.heap.size + 3 := by rw [← hW0]; simp
  rw [hW0] at hcp b0 bb br hrg hb3
  have HCP := Lib.hid hcp
  have HB0 := Lib.hid b0
  have HBR := Lib.hid br
  have HRG := Lib.hid hrg
  have HB3 := Lib.hid hb3
  have HI1 := Lib.hid i1
  have HM := Lib.hid hm
  have HSZ := Lib.hid hsz
  have HRI := Lib.hid (fun W => right15 ⟨OO, d, n, v⟩ W HO0)
  have HRT := Lib.hid (fun A c B e W => right_ref s.m hm A B s.hs.length c s.ms.length e W)
  obtain ⟨rm, hrm⟩ : ∃ x, rightM s.hs.length s.ms.length = x := ⟨_, rfl⟩
  obtain ⟨ri, hri⟩ : ∃ x, rightI ⟨OO, d, n, v⟩ = x := ⟨_, rfl⟩
  rw [hrm, hri] at hno
  have HCO : Hid (codeI ⟨OO, d, n, v⟩ = if ri then 0 else 110) := Lib.hid (by unfold codeI; rw [hri])
  have HRM := Lib.hid hrm
  clear hcp b0 bb br hrg hb3 i1 bx hcs hcl hh hmr hm hw mo hsz hri hrm
  go_enter Try.func27, Try.ntmps27
  go_wp2_with (refine wpList_load_midA rfl 50 (.tmp 3) rfl (w.heap.size + 1) 0 rfl cs _ HRG.out Try.underlying50 rfl HI1.out ?_; simp only [Act.put, List.setIfInBounds_toArray, List.set_cons_zero, List.set_cons_succ])
  refine HCP.out.mono ?_
  rintro e w1 ⟨⟨A1, d1, A2, d2, rfl, hd1, hd2, ho1, ho2⟩, hl1⟩
  rw [HSZ.out] at ho1 ho2
  have r1 := OwnR.of_own ho1
  have r2 := OwnR.of_own ho2
  have hsz1 : w.heap.size + 3 ≤ w1.heap.size := by have := hl1.size; have := HSZ.out; omega
  have hbx : MBox (w1.alloc (.cells (s.m.cells (.slice A1 s.hs.length d1) (.slice A2 s.ms.length d2)) 50)) w1.heap.size s.m (.slice A1 s.hs.length d1) (.slice A2 s.ms.length d2) := MBox.new HM.out w1 _ _
  have k1 : (s.m.cells (.slice A1 s.hs.length d1) (.slice A2 s.ms.length d2)).size = 263 := Mc.size HM.out _ _
  have hzz : zCells.size = 263 := Mc.size zM_ok _ _
  have B2 := Lib.hid ((HB3.out.trans (hl1.mono (by have := HB3.out.size; omega))).alloc (by have := HB3.out.size; have := hl1.size; omega) (.cells (s.m.cells (.slice A1 s.hs.length d1) (.slice A2 s.ms.length d2)) 50))
  have I2 := Lib.hid ((HB0.out.below hl1).alloc (.cells (s.m.cells (.slice A1 s.hs.length d1) (.slice A2 s.ms.length d2)) 50))
  have R2 := Lib.hid ((HBR.out.below hl1).alloc (.cells (s.m.cells (.slice A1 s.hs.length d1) (.slice A2 s.ms.length d2)) 50))
  have R1 := Lib.hid (r1.below ((Below.refl _ _).alloc (Nat.le_refl _) (.cells (s.m.cells (.slice A1 s.hs.length d1) (.slice A2 s.ms.length d2)) 50)))
  have R3 := Lib.hid (r2.below ((Below.refl _ _).alloc (Nat.le_refl _) (.cells (s.m.cells (.slice A1 s.hs.length d1) (.slice A2 s.ms.length d2)) 50)))
  have one : (s.m.cells (.slice A1 s.hs.length d1) (.slice A2 s.ms.length d2)).all (·.oneCell') = true := Mc.one rfl rfl
  obtain ⟨cs2, hcs2⟩ : ∃ x, (s.m.cells (.slice A1 s.hs.length d1) (.slice A2 s.ms.length d2)) = x := ⟨_, rfl⟩
  have hrt := fun W => HRT.out A1 d1 A2 d2 W
  rw [HRM.out] at hrt
  rw [hcs2] at hbx k1 one B2 I2 R2 R1 R3 ⊢
  simp only [hcs2] at hrt
  obtain ⟨W2, hW2⟩ : ∃ x, w1.alloc (.cells cs2 50) = x := ⟨_, rfl⟩
  rw [hW2] at hbx B2 I2 R2 R1 R3
  have hrg2 : W2.rangeAt w1.heap.size 0 cs2.toList := fun j u hu => by
    rw [Nat.zero_add, hbx.blk.cell j, hcs2]
    simpa using hu
  have HRT2 := Lib.hid hrt
  have HRG2 := Lib.hid hrg2
  have HBX := Lib.hid hbx
  have HSI : Hid ((Try.prog.info? 50).map (·.size) = some cs2.size) := Lib.hid (by rw [k1]; exact size50)
  have HSL : Hid ((Try.prog.info? 50).map (·.size) = some cs2.toList.length) := Lib.hid (by rw [Array.length_toList, k1]; exact size50)
  have HSS : Hid (zCells.size = cs2.size) := Lib.hid (by rw [k1, hzz])
  have HONE := Lib.hid one
  have HW2 := Lib.hid hW2
  clear hl1 ho1 ho2 r1 r2 hbx hrt hrg2 hcs2 k1 hzz one hd1 hd2
  go_wp2_with (first
    | (refine wpList_store_row rfl 50 (.tmp 5) (.tmp 10) rfl w1.heap.size cs2 rfl rfl 50 _ (heap_alloc_new _ _) HSI.out HSS.out HONE.out ?_; rw [World.setRow_alloc_new, HW2.out]; simp only [Act.put, List.setIfInBounds_toArray, List.set_cons_zero, List.set_cons_succ])
    | (refine wpList_load_midA rfl 50 (.tmp 5) rfl w1.heap.size 0 rfl cs2 _ HRG2.out Try.underlying50 rfl HSL.out ?_; simp only [Act.put, List.setIfInBounds_toArray, List.set_cons_zero, List.set_cons_succ]))
  refine (HRT2.out _).mono ?_
  rintro e w3 ⟨rfl, hb⟩
  have BX := Lib.hid hb
  have q0 := (I2.out.below hb).cell 0
  have q1 := (I2.out.below hb).cell 1
  have q2 := (I2.out.below hb).cell 2
  have q3 := (I2.out.below hb).cell 3
  simp at q0 q1 q2 q3
  clear hb
  cases rm
  · skip
    have hend : EndB s w1.heap.size w w3 := ⟨_, _, HBX.out.below BX.out, R1.out.below BX.out, R3.out.below BX.out, R2.out.below BX.out, ch0 B2.out BX.out⟩
    obtain ⟨u1, u2, hmb, hr1, hr2, hz2, hlow⟩ := hend
    obtain ⟨l2, hl2, hrgx, j1, j2, j3, j4, j5⟩ := hmb.info hr1.one hr2.one
    have HL2 := Lib.hid hl2
    have HRGX := Lib.hid hrgx
    have HJ1 := Lib.hid j1
    have HJ2 := Lib.hid j2
    have HJ3 := Lib.hid j3
    have HJ5 := Lib.hid j5
    have HR1 := Lib.hid hr1
    have HR2 := Lib.hid hr2
    have HZ2 := Lib.hid hz2
    have HLOW := Lib.hid hlow
    clear hmb hr1 hr2 hz2 hlow hl2 hrgx j1 j2 j3 j4 j5
    go_wp2_with (first
      | (refine wpList_load_mid rfl 50 (.tmp 5) rfl w1.heap.size 0 rfl _ _ HRGX.out Try.underlying50 rfl HJ1.out ?_)
      | (refine wpList_store_row rfl 50 (.tmp 4) (.tmp 19) rfl (w.heap.size + 2) l2.toArray rfl rfl 50 _ HZ2.out HJ2.out HJ3.out HJ5.out ?_))
    have hf := frm_setRow w3 (w.heap.size + 2) l2.toArray
    have hM : IsMachR (s) w (.returned (.agg l2.toArray)) (w3.setRow (w.heap.size + 2) l2.toArray) := ⟨⟨u1, u2, by rw [HL2.out], (HR1.out.frm hf (fun k hk => by omega)).base (by omega), (HR2.out.frm hf (fun k hk => by omega)).base (by omega)⟩, HLOW.out.trans (hf.to_below HLOW.out.size (fun k hk => by omega))⟩
    exact bodyPost_ret (v := .agg l2.toArray) (results_cell_row rfl _ _ (w.heap.size + 2) 50 l2.toArray _ _ rfl (blk_setRow HZ2.out l2.toArray) Try.underlying50 rfl HJ2.out) rfl hM
  · have hr0 : ri = false := by simpa using hno
    subst hr0
    go_wp2_with fail
    refine (HRI.out _).mono ?_
    rintro e w4 ⟨he, hb⟩
    rw [HCO.out] at he
    simp only [if_false, Bool.false_eq_true] at he
    subst he
    have BX := Lib.hid (ch0 BX.out hb)
    clear hb q0 q1 q2 q3
    have hend : EndB s w1.heap.size w w4 := ⟨_, _, HBX.out.below BX.out, R1.out.below BX.out, R3.out.below BX.out, R2.out.below BX.out, ch0 B2.out BX.out⟩
    obtain ⟨u1, u2, hmb, hr1, hr2, hz2, hlow⟩ := hend
    obtain ⟨l2, hl2, hrgx, j1, j2, j3, j4, j5⟩ := hmb.info hr1.one hr2.one
    have HL2 := Lib.hid hl2
    have HRGX := Lib.hid hrgx
    have HJ1 := Lib.hid j1
    have HJ2 := Lib.hid j2
    have HJ3 := Lib.hid j3
    have HJ5 := Lib.hid j5
    have HR1 := Lib.hid hr1
    have HR2 := Lib.hid hr2
    have HZ2 := Lib.hid hz2
    have HLOW := Lib.hid hlow
    clear hmb hr1 hr2 hz2 hlow hl2 hrgx j1 j2 j3 j4 j5
    go_wp2_with (first
      | (refine wpList_load_mid rfl 50 (.tmp 5) rfl w1.heap.size 0 rfl _ _ HRGX.out Try.underlying50 rfl HJ1.out ?_)
      | (refine wpList_store_row rfl 50 (.tmp 4) (.tmp 19) rfl (w.heap.size + 2) l2.toArray rfl rfl 50 _ HZ2.out HJ2.out HJ3.out HJ5.out ?_))
    have hf := frm_setRow w4 (w.heap.size + 2) l2.toArray
    have hM : IsMachR (s) w (.returned (.agg l2.toArray)) (w4.setRow (w.heap.size + 2) l2.toArray) := ⟨⟨u1, u2, by rw [HL2.out], (HR1.out.frm hf (fun k hk => by omega)).base (by omega), (HR2.out.frm hf (fun k hk => by omega)).base (by omega)⟩, HLOW.out.trans (hf.to_below HLOW.out.size (fun k hk => by omega))⟩
    exact bodyPost_ret (v := .agg l2.toArray) (results_cell_row rfl _ _ (w.heap.size + 2) 50 l2.toArray _ _ rfl (blk_setRow HZ2.out l2.toArray) Try.underlying50 rfl HJ2.out) rfl hM
end Go.Proofs.Ytebmgladdgmmeaa
