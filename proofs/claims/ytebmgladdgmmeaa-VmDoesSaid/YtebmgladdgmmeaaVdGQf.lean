/- Do, of the reference: walks. Condition: memories of at most 5000 places. -/
import Derived.Test.YtebmgladdgmmeaaVdGQd
import Derived.Test.YtebmgladdgmmeaaVdGQb
import Derived.Test.YtebmgladdgmmeaaVdHeld
import Derived.Test.YtebmgladdgmmeaaVdGQe
import Derived.BigRegion
namespace Go.Proofs.Ytebmgladdgmmeaa
open Go.RowKit Go.WideShapes
open List (setIfInBounds_toArray set_cons_zero set_cons_succ)
set_option linter.unusedVariables false
set_option linter.unusedSimpArgs false
set_option maxRecDepth 100000 in
set_option maxHeartbeats 8000000 in
theorem do27_7 (d n v : Int) (s : St) (hm : s.m.ok) (hw : Wds s.hs) (mo : Oct s.ms) (Ah Am : Option Addr) (ch cm nh nm : Nat) (w : World) (hnh : nh = s.hs.length) (hnm : nm = s.ms.length) (hh : Rd w Ah (s.hs.map (.int .u32))) (hmr : Rd w Am (s.ms.map (.int .u8))) (lh : nh ≤ 5000) (lm : nm ≤ 5000) (hok : s.ok) (hri : rightI ⟨7, d, n, v⟩ = true) :
    Calls Try.prog 27 #[.agg #[.int .u8 7, .int .i64 d, .int .i64 n, .int .i64 v], .agg (s.m.cells (.slice Ah nh ch) (.slice Am nm cm))] w (IsMachR (doV 7 d n v s) w) := by
  have HO0 : (0 : Int) ≤ 7 := by decide
  subst hnh hnm
  have hz := (zero_of_info zero50).1
  have bx := MBox.new hm (w.alloc (.cells #[.int .u8 7, .int .i64 d, .int .i64 n, .int .i64 v] 31)) (.slice Ah s.hs.length ch) (.slice Am s.ms.length cm)
  rw [World.size_alloc] at bx
  have b0 := (((Blk.new w 31 #[.int .u8 7, .int .i64 d, .int .i64 n, .int .i64 v]).alloc (.cells (s.m.cells (.slice Ah s.hs.length ch) (.slice Am s.ms.length cm)) 50)).alloc (.cells zCells 50))
  have bb := bx.below ((Below.refl _ _).alloc (Nat.le_refl _) (.cells zCells 50))
  have br := Blk.new ((w.alloc (.cells #[.int .u8 7, .int .i64 d, .int .i64 n, .int .i64 v] 31)).alloc (.cells (s.m.cells (.slice Ah s.hs.length ch) (.slice Am s.ms.length cm)) 50)) 50 zCells
  rw [World.size_alloc, World.size_alloc] at br
  have hb3 : Below w.heap.size w (((w.alloc (.cells #[.int .u8 7, .int .i64 d, .int .i64 n, .int .i64 v] 31)).alloc (.cells (s.m.cells (.slice Ah s.hs.length ch) (.slice Am s.ms.length cm)) 50)).alloc (.cells zCells 50)) := (((Below.refl _ _).alloc (Nat.le_refl _) _).alloc (by simp) _).alloc (by simp; omega) _
  have hcp := copyMach_any s.m hm s.hs s.ms Ah Am ch cm s.hs.length s.ms.length _ rfl rfl (hh.below hb3 rfl) (hmr.below hb3 rfl) (by omega) (by omega)
  have i1 : (Try.prog.info? 50).map (·.size) = some (s.m.cells (.slice Ah s.hs.length ch) (.slice Am s.ms.length cm)).toList.length := by
    have h := Mc.size hm (.slice Ah s.hs.length ch) (.slice Am s.ms.length cm)
    rw [Array.length_toList, h]
    exact size50
  have hrg := bb.range
  obtain ⟨cs, hcs⟩ : ∃ x, s.m.cells (.slice Ah s.hs.length ch) (.slice Am s.ms.length cm) = x := ⟨_, rfl⟩
  have hcl : s.m.list (.slice Ah s.hs.length ch) (.slice Am s.ms.length cm) = cs.toList := by rw [← hcs]; rfl
  rw [hcs] at hcp b0 bb br hb3 i1 hrg ⊢
  rw [hcl] at hrg
  obtain ⟨W0, hW0⟩ : ∃ x, (((w.alloc (.cells #[.int .u8 7, .int .i64 d, .int .i64 n, .int .i64 v] 31)).alloc (.cells cs 50)).alloc (.cells zCells 50)) = x := ⟨_, rfl⟩
  have hsz : W0.heap.size = w.heap.size + 3 := by rw [← hW0]; simp
  rw [hW0] at hcp b0 bb br hrg hb3
  have HCP := Lib.hid hcp
  have HB0 := Lib.hid b0
  have HBR := Lib.hid br
  have HRG := Lib.hid hrg
  have HB3 := Lib.hid hb3
  have HI1 := Lib.hid i1
  have HM := Lib.hid hm
  have HSZ := Lib.hid hsz
  have HOK := Lib.hid hok
  have HRE := Lib.hid hri
  have HCO : Hid (codeI ⟨7, d, n, v⟩ = 0) := Lib.hid (by unfold codeI; rw [hri]; rfl)
  have HRI := Lib.hid (fun W => right15 ⟨7, d, n, v⟩ W HO0)
  have HRT := Lib.hid (fun A c B e W => right_ref s.m hm A B s.hs.length c s.ms.length e W)
  have HRM := Lib.hid hok.right
  obtain ⟨hd7, hn7, hv7⟩ := right_in hri
  have HD7 := Lib.hid hd7
  have HN7 := Lib.hid hn7
  clear hcp b0 bb br hrg hb3 i1 bx hcs hcl hh hmr hm hw mo hsz hok hri hd7 hn7 hv7
  go_enter Try.func27, Try.ntmps27
  go_wp2_with (refine wpList_load_midA rfl 50 (.tmp 3) rfl (w.heap.size + 1) 0 rfl cs _ HRG.out Try.underlying50 rfl HI1.out ?_; simp only [Act.put, setIfInBounds_toArray, set_cons_zero, set_cons_succ])
  refine HCP.out.mono ?_
  rintro e w1 ⟨⟨A1, d1, A2, d2, rfl, hd1, hd2, ho1, ho2⟩, hl1⟩
  rw [HSZ.out] at ho1 ho2
  obtain ⟨gh, c1, e1, hc1, hgh, hra⟩ := (OwnR.of_own ho1).at (by rw [List.length_map]; exact pow_pos HOK.out.p8)
  obtain ⟨gm, c2, e2, hc2, hgm, hrb⟩ := (OwnR.of_own ho2).at (by rw [List.length_map]; exact pow_pos HOK.out.p12)
  rw [List.length_map] at e1 e2 hc1 hc2
  injection e1 with e1 _ f1
  injection e2 with e2 _ f2
  subst e1 e2 f1 f2
  have hsz1 : w.heap.size + 3 ≤ w1.heap.size := by have := hl1.size; have := HSZ.out; omega
  have hvm : Vm (w1.alloc (.cells (s.m.cells (.slice (some ⟨gh, 0, none⟩) s.hs.length d1) (.slice (some ⟨gm, 0, none⟩) s.ms.length d2)) 50)) w1.heap.size gh gm s d1 d2 := ⟨MBox.new HM.out w1 _ _, hra.below ((Below.refl _ _).alloc (Nat.le_refl _) _), hrb.below ((Below.refl _ _).alloc (Nat.le_refl _) _), HOK.out⟩
  have k1 : (s.m.cells (.slice (some ⟨gh, 0, none⟩) s.hs.length d1) (.slice (some ⟨gm, 0, none⟩) s.ms.length d2)).size = 263 := Mc.size HM.out _ _
  have hzz : zCells.size = 263 := Mc.size zM_ok _ _
  have B2 := Lib.hid ((HB3.out.trans (hl1.mono (by have := HB3.out.size; omega))).alloc (by have := HB3.out.size; have := hl1.size; omega) (.cells (s.m.cells (.slice (some ⟨gh, 0, none⟩) s.hs.length d1) (.slice (some ⟨gm, 0, none⟩) s.ms.length d2)) 50))
  have I2 := Lib.hid ((HB0.out.below hl1).alloc (.cells (s.m.cells (.slice (some ⟨gh, 0, none⟩) s.hs.length d1) (.slice (some ⟨gm, 0, none⟩) s.ms.length d2)) 50))
  have R2 := Lib.hid ((HBR.out.below hl1).alloc (.cells (s.m.cells (.slice (some ⟨gh, 0, none⟩) s.hs.length d1) (.slice (some ⟨gm, 0, none⟩) s.ms.length d2)) 50))
  have one : (s.m.cells (.slice (some ⟨gh, 0, none⟩) s.hs.length d1) (.slice (some ⟨gm, 0, none⟩) s.ms.length d2)).all (·.oneCell') = true := Mc.one rfl rfl
  obtain ⟨cs2, hcs2⟩ : ∃ x, s.m.cells (.slice (some ⟨gh, 0, none⟩) s.hs.length d1) (.slice (some ⟨gm, 0, none⟩) s.ms.length d2) = x := ⟨_, rfl⟩
  have hvr : ∀ W, Below (w1.alloc (.cells (s.m.cells (.slice (some ⟨gh, 0, none⟩) s.hs.length d1) (.slice (some ⟨gm, 0, none⟩) s.ms.length d2)) 50)).heap.size (w1.alloc (.cells (s.m.cells (.slice (some ⟨gh, 0, none⟩) s.hs.length d1) (.slice (some ⟨gm, 0, none⟩) s.ms.length d2)) 50)) W → ∀ p, 0 ≤ p ∧ p ≤ 7 → Calls Try.prog 58 #[.agg (s.m.cells (.slice (some ⟨gh, 0, none⟩) s.hs.length d1) (.slice (some ⟨gm, 0, none⟩) s.ms.length d2)), .int .i64 p, .int .i64 v] W (Quiet (.int .u32 (operV p v s)) W) := fun W hW p hp => at58 p v hp ⟨(hvm.below hW).hrow.rd, (hvm.below hW).mrow.rd, HOK.out⟩
  have hrt := fun W => HRT.out (some ⟨gh, 0, none⟩) d1 (some ⟨gm, 0, none⟩) d2 W
  rw [HRM.out] at hrt
  rw [hcs2] at hvm k1 one hvr B2 I2 R2 ⊢
  simp only [hcs2] at hrt
  obtain ⟨W2, hW2⟩ : ∃ x, w1.alloc (.cells cs2 50) = x := ⟨_, rfl⟩
  rw [hW2] at hvm hvr B2 I2 R2
  have hrg2 : ∀ W, Below W2.heap.size W2 W → W.rangeAt w1.heap.size 0 cs2.toList := fun W hW j u hu => by
    rw [Nat.zero_add, (hvm.below hW).box.blk.cell j, hcs2]
    simpa using hu
  have HVM := Lib.hid hvm
  have HVR := Lib.hid hvr
  have HRT2 := Lib.hid hrt
  have HRG2 := Lib.hid hrg2
  have HCS2 := Lib.hid hcs2
  have HSI : Hid ((Try.prog.info? 50).map (·.size) = some cs2.size) := Lib.hid (by rw [k1]; exact size50)
  have HSL : Hid ((Try.prog.info? 50).map (·.size) = some cs2.toList.length) := Lib.hid (by rw [Array.length_toList, k1]; exact size50)
  have HSS : Hid (zCells.size = cs2.size) := Lib.hid (by rw [k1, hzz])
  have HONE := Lib.hid one
  have HW2 := Lib.hid hW2
  have HGH := Lib.hid hgh
  have HGM := Lib.hid hgm
  have HS1 := Lib.hid hsz1
  have HC1 := Lib.hid hc1
  have HC2 := Lib.hid hc2
  clear hl1 ho1 ho2 hra hrb hvm hvr hrt hrg2 hcs2 k1 hzz one hd1 hd2
  go_wp2_with (first
    | (refine wpList_store_row rfl 50 (.tmp 5) (.tmp 10) rfl w1.heap.size cs2 rfl rfl 50 _ (heap_alloc_new _ _) HSI.out HSS.out HONE.out ?_; rw [World.setRow_alloc_new, HW2.out]; simp only [Act.put, setIfInBounds_toArray, set_cons_zero, set_cons_succ])
    | (refine wpList_load_midA rfl 50 (.tmp 5) rfl w1.heap.size 0 rfl cs2 _ (HRG2.out _ (Below.refl _ _)) Try.underlying50 rfl HSL.out ?_; simp only [Act.put, setIfInBounds_toArray, set_cons_zero, set_cons_succ]))
  refine (HRT2.out _).mono ?_
  rintro e w3 ⟨rfl, hb⟩
  have BB := Lib.hid hb
  have q0 := (I2.out.below hb).cell 0
  have q1 := (I2.out.below hb).cell 1
  have q2 := (I2.out.below hb).cell 2
  have q3 := (I2.out.below hb).cell 3
  simp at q0 q1 q2 q3
  clear hb
  go_wp2_with fail
  refine (HRI.out _).mono ?_
  rintro e w4 ⟨he, hb⟩
  rw [HCO.out] at he
  subst he
  have BB4 := Lib.hid (ch0 BB.out hb)
  have p0 := (I2.out.below BB4.out).cell 0
  have p1 := (I2.out.below BB4.out).cell 1
  have p2 := (I2.out.below BB4.out).cell 2
  have p3 := (I2.out.below BB4.out).cell 3
  simp at p0 p1 p2 p3
  clear hb q0 q1 q2 q3
  go_wp2_with fail
  have hS : (fun w' => w'.rangeAt w1.heap.size 0 cs2.toList ∧ w'.cell? ⟨w.heap.size, 0, none⟩ = some (.int .u8 7) ∧ w'.cell? ⟨w.heap.size, 1, none⟩ = some (.int .i64 d) ∧ w'.cell? ⟨w.heap.size, 2, none⟩ = some (.int .i64 n) ∧ w'.cell? ⟨w.heap.size, 3, none⟩ = some (.int .i64 v)) w4.drew := ⟨HRG2.out _ (BB4.out.drew), by have := (I2.out.below (BB4.out.drew)).cell 0; simpa using this, by have := (I2.out.below (BB4.out.drew)).cell 1; simpa using this, by have := (I2.out.below (BB4.out.drew)).cell 2; simpa using this, by have := (I2.out.below (BB4.out.drew)).cell 3; simpa using this⟩
  refine wp_region_held_drew (S := fun w' => w'.rangeAt w1.heap.size 0 cs2.toList ∧ w'.cell? ⟨w.heap.size, 0, none⟩ = some (.int .u8 7) ∧ w'.cell? ⟨w.heap.size, 1, none⟩ = some (.int .i64 d) ∧ w'.cell? ⟨w.heap.size, 2, none⟩ = some (.int .i64 n) ∧ w'.cell? ⟨w.heap.size, 3, none⟩ = some (.int .i64 v)) (by kernel_rfl) hS (fun hHeld => ?_)
  refine wpAnyH_takeD (i := 0) (d := 20) (oi := _) (v := .agg cs2) rfl rfl (by kernel_rfl) (by kernel_rfl) (by kernel_rfl) (fun _ _ _ h => h) (yieldsIf_load_mid (by rfl) 50 (.tmp 5) rfl w1.heap.size 0 rfl cs2.toList _ (fun w hS => hS.1) Try.underlying50 rfl HSL.out) (by assumption) ?_
  simp only [Act.put, setIfInBounds_toArray, set_cons_zero, set_cons_succ]
  refine wpAnyH_takeD (i := 1) (d := 21) (oi := _) (v := ?_) rfl rfl (by kernel_rfl) (by kernel_rfl) (by kernel_rfl) (fun _ _ _ h => h) (Or.inl ⟨by rfl, ?_⟩) (by assumption) ?_
  rotate_left
  · (intro w hSw; (try dsimp only at hSw); go_simp) <;> with_reducible rfl
  simp only [Act.put, setIfInBounds_toArray, set_cons_zero, set_cons_succ]
  refine wpAnyH_takeD (i := 2) (d := 22) (oi := _) (v := ?_) rfl rfl (by kernel_rfl) (by kernel_rfl) (by kernel_rfl) (fun _ _ _ h => h) (Or.inl ⟨by rfl, ?_⟩) (by assumption) ?_
  rotate_left
  · (intro w hSw; (try dsimp only at hSw); go_simp) <;> with_reducible rfl
  simp only [Act.put, setIfInBounds_toArray, set_cons_zero, set_cons_succ]
  refine wpAnyH_takeD (i := 3) (d := 23) (oi := _) (v := ?_) rfl rfl (by kernel_rfl) (by kernel_rfl) (by kernel_rfl) (fun _ _ _ h => h) (Or.inl ⟨by rfl, ?_⟩) (by assumption) ?_
  rotate_left
  · (intro w hSw; (try dsimp only at hSw); go_simp) <;> with_reducible rfl
  simp only [Act.put, setIfInBounds_toArray, set_cons_zero, set_cons_succ]
  refine wpAnyH_takeD (i := 4) (d := 24) (oi := _) (v := ?_) rfl rfl (by kernel_rfl) (by kernel_rfl) (by kernel_rfl) (fun _ _ _ h => h) (Or.inl ⟨by rfl, ?_⟩) (by assumption) ?_
  rotate_left
  · (intro w hSw; (try dsimp only at hSw); go_simp) <;> with_reducible rfl
  simp only [Act.put, setIfInBounds_toArray, set_cons_zero, set_cons_succ]
  refine wpAnyH_takeD (i := 6) (d := 26) (oi := _) (v := .agg cs2) rfl rfl (by kernel_rfl) (by kernel_rfl) (by kernel_rfl) (fun _ _ _ h => h) (yieldsIf_load_mid (by rfl) 50 (.tmp 5) rfl w1.heap.size 0 rfl cs2.toList _ (fun w hS => hS.1) Try.underlying50 rfl HSL.out) (by assumption) ?_
  simp only [Act.put, setIfInBounds_toArray, set_cons_zero, set_cons_succ]
  refine wpAnyH_takeD (i := 7) (d := 27) (oi := _) (v := ?_) rfl rfl (by kernel_rfl) (by kernel_rfl) (by kernel_rfl) (fun _ _ _ h => h) (Or.inl ⟨by rfl, ?_⟩) (by assumption) ?_
  rotate_left
  · (intro w hSw; (try dsimp only at hSw); go_simp) <;> with_reducible rfl
  simp only [Act.put, setIfInBounds_toArray, set_cons_zero, set_cons_succ]
  refine wpAnyH_takeD (i := 8) (d := 28) (oi := _) (v := ?_) rfl rfl (by kernel_rfl) (by kernel_rfl) (by kernel_rfl) (fun _ _ _ h => h) (Or.inl ⟨by rfl, ?_⟩) (by assumption) ?_
  rotate_left
  · (intro w hSw; (try dsimp only at hSw); go_simp) <;> with_reducible rfl
  simp only [Act.put, setIfInBounds_toArray, set_cons_zero, set_cons_succ]
  refine wpAnyH_takeD (i := 9) (d := 29) (oi := _) (v := ?_) rfl rfl (by kernel_rfl) (by kernel_rfl) (by kernel_rfl) (fun _ _ _ h => h) (Or.inl ⟨by rfl, ?_⟩) (by assumption) ?_
  rotate_left
  · (intro w hSw; (try dsimp only at hSw); go_simp) <;> with_reducible rfl
  simp only [Act.put, setIfInBounds_toArray, set_cons_zero, set_cons_succ]
  refine wpAnyH_takeD (i := 10) (d := 30) (oi := _) (v := ?_) rfl rfl (by kernel_rfl) (by kernel_rfl) (by kernel_rfl) (fun _ _ _ h => h) (Or.inl ⟨by rfl, ?_⟩) (by assumption) ?_
  rotate_left
  · (intro w hSw; (try dsimp only at hSw); go_simp) <;> with_reducible rfl
  simp only [Act.put, setIfInBounds_toArray, set_cons_zero, set_cons_succ]
  refine wpAnyH_ready (rs := [5]) (by kernel_rfl) (by simp) ?_
  refine AllReadyH.cons (o := _) rfl (fun K hK => ?_) AllReadyH.nil
  go_simp
  refine (HVR.out _ (BB4.out.drew) n HN7.out).mono ?_
  rintro e w5 ⟨rfl, hb⟩
  have BB5 := Lib.hid (ch0 BB4.out.drew hb)
  clear hb
  go_wp2_with fail
  refine hK.out _ _ ⟨HRG2.out _ BB5.out, by have := (I2.out.below BB5.out).cell 0; simpa using this, by have := (I2.out.below BB5.out).cell 1; simpa using this, by have := (I2.out.below BB5.out).cell 2; simpa using this, by have := (I2.out.below BB5.out).cell 3; simpa using this⟩ (fun hHeld => ?_)
  clear hK K
  try simp only [Act.put, setIfInBounds_toArray, set_cons_zero, set_cons_succ]
  refine wpAnyH_ready (rs := [11]) (by kernel_rfl) (by simp) ?_
  refine AllReadyH.cons (o := _) rfl (fun K hK => ?_) AllReadyH.nil
  go_simp
  refine (HVR.out _ BB5.out d (by have := HD7.out; omega)).mono ?_
  rintro e w6 ⟨rfl, hb⟩
  have BB6 := Lib.hid (ch0 BB5.out hb)
  clear hb
  go_wp2_with fail
  refine hK.out _ _ ⟨HRG2.out _ BB6.out, by have := (I2.out.below BB6.out).cell 0; simpa using this, by have := (I2.out.below BB6.out).cell 1; simpa using this, by have := (I2.out.below BB6.out).cell 2; simpa using this, by have := (I2.out.below BB6.out).cell 3; simpa using this⟩ (fun hHeld => ?_)
  clear hK K
  try simp only [Act.put, setIfInBounds_toArray, set_cons_zero, set_cons_succ]
  refine wpAnyH_takeD (i := 12) (d := 6) (oi := _) (v := ?_) rfl rfl (by kernel_rfl) (by kernel_rfl) (by kernel_rfl) (fun _ _ _ h => h) (Or.inl ⟨by rfl, ?_⟩) (by assumption) ?_
  rotate_left
  · (intro w hSw; (try dsimp only at hSw); go_simp) <;> with_reducible rfl
  simp only [Act.put, setIfInBounds_toArray, set_cons_zero, set_cons_succ]
  refine wpAnyH_takeD (i := 13) (d := 7) (oi := _) (v := ?_) rfl rfl (by kernel_rfl) (by kernel_rfl) (by kernel_rfl) (fun _ _ _ h => h) (Or.inl ⟨by rfl, ?_⟩) (by assumption) ?_
  rotate_left
  · (intro w hSw; (try dsimp only at hSw); go_simp) <;> with_reducible rfl
  simp only [Act.put, setIfInBounds_toArray, set_cons_zero, set_cons_succ]
  refine wpAnyH_done (by kernel_rfl) ?_ _
  obtain ⟨_, p0, p1, p2, p3⟩ := hHeld
  have HV6 := Lib.hid (HVM.out.below BB6.out)
  have R6 := Lib.hid (R2.out.below BB6.out)
  have F6 := Lib.hid (ch0 B2.out BB6.out)
  have ey : operV d v s = getP d s := by unfold operV; rw [if_neg (by have := HD7.out; omega)]
  have EY := Lib.hid ey
  have gsz := HV6.out.box.lt
  clear ey
  have c0 := HV6.out.box.c0
  go_wp2_with fail
  refine (put59 d _ HD7.out HOK.out.m.a HV6.out).mono ?_
  rintro e w7 ⟨rfl, hv7, hf7⟩
  have k0 := hv7.box.c0
  have f0 := hv7.box.fz 0
  have HV7 := Lib.hid hv7
  have HF7 := Lib.hid hf7
  clear hv7 hf7 p0 p1 p2 p3 c0
  have hlen := doV_len 7 d n v s
  have hend : EndB (doV 7 d n v s) w1.heap.size w (w7.setCell ⟨w1.heap.size, 0, none⟩ (.int .u32 (operV d v s))) := by
    have hvx : Vm (w7.setCell ⟨w1.heap.size, 0, none⟩ (.int .u32 (operV d v s))) w1.heap.size gh gm (doV 7 d n v s) d1 d2 := by rw [EY.out]; exact HV7.out.reg 0 _ _ ⟨getP_u32 HOK.out d, HV7.out.ok.m.b, HV7.out.ok.m.c, HV7.out.ok.m.d, HV7.out.ok.m.len, HV7.out.ok.m.r⟩ (fun _ _ => (Mc.set_reg _ _ _).1)
    have hfx : Frm (Sg w1.heap.size gh gm) w6 (w7.setCell ⟨w1.heap.size, 0, none⟩ (.int .u32 (operV d v s))) := Frm.setCell (S := Sg w1.heap.size gh gm) (p := ⟨w1.heap.size, 0, none⟩) HF7.out (fun _ => .inl rfl) _
    have hgh := HGH.out
    have hgm := HGM.out
    have hs1 := HS1.out
    have hbel : Below (w.heap.size + 3) w6 (w7.setCell ⟨w1.heap.size, 0, none⟩ (.int .u32 (operV d v s))) := hfx.to_below (by omega) (fun k hk => by rcases hk with rfl | rfl | rfl <;> omega)
    exact ⟨_, _, hvx.box, .inr ⟨gh, d1, by rw [List.length_map], by rw [List.length_map, hlen.1]; exact HC1.out, hgh, hvx.hrow⟩, .inr ⟨gm, d2, by rw [List.length_map], by rw [List.length_map, hlen.2]; exact HC2.out, hgm, hvx.mrow⟩, R6.out.frm hfx (fun h => by rcases h with h | h | h <;> omega), F6.out.trans (hbel.mono (by omega))⟩
  obtain ⟨u1, u2, hmb, hr1, hr2, hz2, hlow⟩ := hend
  obtain ⟨l2, hl2, hrgx, j1, j2, j3, j4, j5⟩ := hmb.info hr1.one hr2.one
  have HL2 := Lib.hid hl2
  have HRGX := Lib.hid hrgx
  have HJ1 := Lib.hid j1
  have HJ2 := Lib.hid j2
  have HJ3 := Lib.hid j3
  have HJ5 := Lib.hid j5
  have HR1 := Lib.hid hr1
  have HR2 := Lib.hid hr2
  have HZ2 := Lib.hid hz2
  have HLOW := Lib.hid hlow
  clear hmb hr1 hr2 hz2 hlow hl2 hrgx j1 j2 j3 j4 j5 hlen
  go_wp2_with (first
    | (refine wpList_load_mid rfl 50 (.tmp 5) rfl w1.heap.size 0 rfl _ _ HRGX.out Try.underlying50 rfl HJ1.out ?_)
    | (refine wpList_store_row rfl 50 (.tmp 4) (.tmp 171) rfl (w.heap.size + 2) l2.toArray rfl rfl 50 _ HZ2.out HJ2.out HJ3.out HJ5.out ?_))
  have hf := frm_setRow (w7.setCell ⟨w1.heap.size, 0, none⟩ (.int .u32 (operV d v s))) (w.heap.size + 2) l2.toArray
  have hM : IsMachR (doV 7 d n v s) w (.returned (.agg l2.toArray)) ((w7.setCell ⟨w1.heap.size, 0, none⟩ (.int .u32 (operV d v s))).setRow (w.heap.size + 2) l2.toArray) := ⟨⟨u1, u2, by rw [HL2.out], (HR1.out.frm hf (fun k hk => by omega)).base (by omega), (HR2.out.frm hf (fun k hk => by omega)).base (by omega)⟩, HLOW.out.trans (hf.to_below HLOW.out.size (fun k hk => by omega))⟩
  exact bodyPost_ret (v := .agg l2.toArray) (results_cell_row rfl _ _ (w.heap.size + 2) 50 l2.toArray _ _ rfl (blk_setRow HZ2.out l2.toArray) Try.underlying50 rfl HJ2.out) rfl hM
set_option maxRecDepth 100000 in
set_option maxHeartbeats 8000000 in
theorem do27_calc (OO d n v : Int) (s : St) (hm : s.m.ok) (hw : Wds s.hs) (mo : Oct s.ms) (Ah Am : Option Addr) (ch cm nh nm : Nat) (w : World) (hnh : nh = s.hs.length) (hnm : nm = s.ms.length) (hh : Rd w Ah (s.hs.map (.int .u32))) (hmr : Rd w Am (s.ms.map (.int .u8))) (lh : nh ≤ 5000) (lm : nm ≤ 5000) (hok : s.ok) (hri : rightI ⟨OO, d, n, v⟩ = true) (ho : 8 ≤ OO ∧ OO ≤ 18) :
    Calls Try.prog 27 #[.agg #[.int .u8 OO, .int .i64 d, .int .i64 n, .int .i64 v], .agg (s.m.cells (.slice Ah nh ch) (.slice Am nm cm))] w (IsMachR (doV OO d n v s) w) := by
  have ne1 : (OO == (1 : Int)) = false := by simp; omega
  have ne2 : (OO == (2 : Int)) = false := by simp; omega
  have ne3 : (OO == (3 : Int)) = false := by simp; omega
  have ne4 : (OO == (4 : Int)) = false := by simp; omega
  have ne5 : (OO == (5 : Int)) = false := by simp; omega
  have ne6 : (OO == (6 : Int)) = false := by simp; omega
  have ne7 : (OO == (7 : Int)) = false := by simp; omega
  have q1 : decide ((8 : Int) ≤ OO) = true := by simpa using ho.1
  have q2 : decide (OO ≤ (18 : Int)) = true := by simpa using ho.2
  have HO := Lib.hid ho
  have HE : Hid (doV OO d n v s = { s with m := { s.m with a := calcV OO s.m.a (operV n v s) } }) := Lib.hid (by unfold doV; rw [if_pos ho])
  have HO0 : (0 : Int) ≤ OO := by omega
  clear ho

  subst hnh hnm
  have hz := (zero_of_info zero50).1
  have bx := MBox.new hm (w.alloc (.cells #[.int .u8 OO, .int .i64 d, .int .i64 n, .int .i64 v] 31)) (.slice Ah s.hs.length ch) (.slice Am s.ms.length cm)
  rw [World.size_alloc] at bx
  have b0 := (((Blk.new w 31 #[.int .u8 OO, .int .i64 d, .int .i64 n, .int .i64 v]).alloc (.cells (s.m.cells (.slice Ah s.hs.length ch) (.slice Am s.ms.length cm)) 50)).alloc (.cells zCells 50))
  have bb := bx.below ((Below.refl _ _).alloc (Nat.le_refl _) (.cells zCells 50))
  have br := Blk.new ((w.alloc (.cells #[.int .u8 OO, .int .i64 d, .int .i64 n, .int .i64 v] 31)).alloc (.cells (s.m.cells (.slice Ah s.hs.length ch) (.slice Am s.ms.length cm)) 50)) 50 zCells
  rw [World.size_alloc, World.size_alloc] at br
  have hb3 : Below w.heap.size w (((w.alloc (.cells #[.int .u8 OO, .int .i64 d, .int .i64 n, .int .i64 v] 31)).alloc (.cells (s.m.cells (.slice Ah s.hs.length ch) (.slice Am s.ms.length cm)) 50)).alloc (.cells zCells 50)) := (((Below.refl _ _).alloc (Nat.le_refl _) _).alloc (by simp) _).alloc (by simp; omega) _
  have hcp := copyMach_any s.m hm s.hs s.ms Ah Am ch cm s.hs.length s.ms.length _ rfl rfl (hh.below hb3 rfl) (hmr.below hb3 rfl) (by omega) (by omega)
  have i1 : (Try.prog.info? 50).map (·.size) = some (s.m.cells (.slice Ah s.hs.length ch) (.slice Am s.ms.length cm)).toList.length := by
    have h := Mc.size hm (.slice Ah s.hs.length ch) (.slice Am s.ms.length cm)
    rw [Array.length_toList, h]
    exact size50
  have hrg := bb.range
  obtain ⟨cs, hcs⟩ : ∃ x, s.m.cells (.slice Ah s.hs.length ch) (.slice Am s.ms.length cm) = x := ⟨_, rfl⟩
  have hcl : s.m.list (.slice Ah s.hs.length ch) (.slice Am s.ms.length cm) = cs.toList := by rw [← hcs]; rfl
  rw [hcs] at hcp b0 bb br hb3 i1 hrg ⊢
  rw [hcl] at hrg
  obtain ⟨W0, hW0⟩ : ∃ x, (((w.alloc (.cells #[.int .u8 OO, .int .i64 d, .int .i64 n, .int .i64 v] 31)).alloc (.cells cs 50)).alloc (.cells zCells 50)) = x := ⟨_, rfl⟩
  have hsz : W0.heap.size = w.heap.size + 3 := by rw [← hW0]; simp
  rw [hW0] at hcp b0 bb br hrg hb3
  have HCP := Lib.hid hcp
  have HB0 := Lib.hid b0
  have HBR := Lib.hid br
  have HRG := Lib.hid hrg
  have HB3 := Lib.hid hb3
  have HI1 := Lib.hid i1
  have HM := Lib.hid hm
  have HSZ := Lib.hid hsz
  have HOK := Lib.hid hok
  have HRE := Lib.hid hri
  have HCO : Hid (codeI ⟨OO, d, n, v⟩ = 0) := Lib.hid (by unfold codeI; rw [hri]; rfl)
  have HRI := Lib.hid (fun W => right15 ⟨OO, d, n, v⟩ W HO0)
  have HRT := Lib.hid (fun A c B e W => right_ref s.m hm A B s.hs.length c s.ms.length e W)
  have HRM := Lib.hid hok.right
  obtain ⟨hd7, hn7, hv7⟩ := right_in hri
  have HD7 := Lib.hid hd7
  have HN7 := Lib.hid hn7
  clear hcp b0 bb br hrg hb3 i1 bx hcs hcl hh hmr hm hw mo hsz hok hri hd7 hn7 hv7
  go_enter Try.func27, Try.ntmps27
  go_wp2_with (refine wpList_load_midA rfl 50 (.tmp 3) rfl (w.heap.size + 1) 0 rfl cs _ HRG.out Try.underlying50 rfl HI1.out ?_; simp only [Act.put, setIfInBounds_toArray, set_cons_zero, set_cons_succ])
  refine HCP.out.mono ?_
  rintro e w1 ⟨⟨A1, d1, A2, d2, rfl, hd1, hd2, ho1, ho2⟩, hl1⟩
  rw [HSZ.out] at ho1 ho2
  obtain ⟨gh, c1, e1, hc1, hgh, hra⟩ := (OwnR.of_own ho1).at (by rw [List.length_map]; exact pow_pos HOK.out.p8)
  obtain ⟨gm, c2, e2, hc2, hgm, hrb⟩ := (OwnR.of_own ho2).at (by rw [List.length_map]; exact pow_pos HOK.out.p12)
  rw [List.length_map] at e1 e2 hc1 hc2
  injection e1 with e1 _ f1
  injection e2 with e2 _ f2
  subst e1 e2 f1 f2
  have hsz1 : w.heap.size + 3 ≤ w1.heap.size := by have := hl1.size; have := HSZ.out; omega
  have hvm : Vm (w1.alloc (.cells (s.m.cells (.slice (some ⟨gh, 0, none⟩) s.hs.length d1) (.slice (some ⟨gm, 0, none⟩) s.ms.length d2)) 50)) w1.heap.size gh gm s d1 d2 := ⟨MBox.new HM.out w1 _ _, hra.below ((Below.refl _ _).alloc (Nat.le_refl _) _), hrb.below ((Below.refl _ _).alloc (Nat.le_refl _) _), HOK.out⟩
  have k1 : (s.m.cells (.slice (some ⟨gh, 0, none⟩) s.hs.length d1) (.slice (some ⟨gm, 0, none⟩) s.ms.length d2)).size = 263 := Mc.size HM.out _ _
  have hzz : zCells.size = 263 := Mc.size zM_ok _ _
  have B2 := Lib.hid ((HB3.out.trans (hl1.mono (by have := HB3.out.size; omega))).alloc (by have := HB3.out.size; have := hl1.size; omega) (.cells (s.m.cells (.slice (some ⟨gh, 0, none⟩) s.hs.length d1) (.slice (some ⟨gm, 0, none⟩) s.ms.length d2)) 50))
  have I2 := Lib.hid ((HB0.out.below hl1).alloc (.cells (s.m.cells (.slice (some ⟨gh, 0, none⟩) s.hs.length d1) (.slice (some ⟨gm, 0, none⟩) s.ms.length d2)) 50))
  have R2 := Lib.hid ((HBR.out.below hl1).alloc (.cells (s.m.cells (.slice (some ⟨gh, 0, none⟩) s.hs.length d1) (.slice (some ⟨gm, 0, none⟩) s.ms.length d2)) 50))
  have one : (s.m.cells (.slice (some ⟨gh, 0, none⟩) s.hs.length d1) (.slice (some ⟨gm, 0, none⟩) s.ms.length d2)).all (·.oneCell') = true := Mc.one rfl rfl
  obtain ⟨cs2, hcs2⟩ : ∃ x, s.m.cells (.slice (some ⟨gh, 0, none⟩) s.hs.length d1) (.slice (some ⟨gm, 0, none⟩) s.ms.length d2) = x := ⟨_, rfl⟩
  have hvr : ∀ W, Below (w1.alloc (.cells (s.m.cells (.slice (some ⟨gh, 0, none⟩) s.hs.length d1) (.slice (some ⟨gm, 0, none⟩) s.ms.length d2)) 50)).heap.size (w1.alloc (.cells (s.m.cells (.slice (some ⟨gh, 0, none⟩) s.hs.length d1) (.slice (some ⟨gm, 0, none⟩) s.ms.length d2)) 50)) W → ∀ p, 0 ≤ p ∧ p ≤ 7 → Calls Try.prog 58 #[.agg (s.m.cells (.slice (some ⟨gh, 0, none⟩) s.hs.length d1) (.slice (some ⟨gm, 0, none⟩) s.ms.length d2)), .int .i64 p, .int .i64 v] W (Quiet (.int .u32 (operV p v s)) W) := fun W hW p hp => at58 p v hp ⟨(hvm.below hW).hrow.rd, (hvm.below hW).mrow.rd, HOK.out⟩
  have hrt := fun W => HRT.out (some ⟨gh, 0, none⟩) d1 (some ⟨gm, 0, none⟩) d2 W
  rw [HRM.out] at hrt
  rw [hcs2] at hvm k1 one hvr B2 I2 R2 ⊢
  simp only [hcs2] at hrt
  obtain ⟨W2, hW2⟩ : ∃ x, w1.alloc (.cells cs2 50) = x := ⟨_, rfl⟩
  rw [hW2] at hvm hvr B2 I2 R2
  have hrg2 : ∀ W, Below W2.heap.size W2 W → W.rangeAt w1.heap.size 0 cs2.toList := fun W hW j u hu => by
    rw [Nat.zero_add, (hvm.below hW).box.blk.cell j, hcs2]
    simpa using hu
  have HVM := Lib.hid hvm
  have HVR := Lib.hid hvr
  have HRT2 := Lib.hid hrt
  have HRG2 := Lib.hid hrg2
  have HCS2 := Lib.hid hcs2
  have HSI : Hid ((Try.prog.info? 50).map (·.size) = some cs2.size) := Lib.hid (by rw [k1]; exact size50)
  have HSL : Hid ((Try.prog.info? 50).map (·.size) = some cs2.toList.length) := Lib.hid (by rw [Array.length_toList, k1]; exact size50)
  have HSS : Hid (zCells.size = cs2.size) := Lib.hid (by rw [k1, hzz])
  have HONE := Lib.hid one
  have HW2 := Lib.hid hW2
  have HGH := Lib.hid hgh
  have HGM := Lib.hid hgm
  have HS1 := Lib.hid hsz1
  have HC1 := Lib.hid hc1
  have HC2 := Lib.hid hc2
  clear hl1 ho1 ho2 hra hrb hvm hvr hrt hrg2 hcs2 k1 hzz one hd1 hd2
  go_wp2_with (first
    | (refine wpList_store_row rfl 50 (.tmp 5) (.tmp 10) rfl w1.heap.size cs2 rfl rfl 50 _ (heap_alloc_new _ _) HSI.out HSS.out HONE.out ?_; rw [World.setRow_alloc_new, HW2.out]; simp only [Act.put, setIfInBounds_toArray, set_cons_zero, set_cons_succ])
    | (refine wpList_load_midA rfl 50 (.tmp 5) rfl w1.heap.size 0 rfl cs2 _ (HRG2.out _ (Below.refl _ _)) Try.underlying50 rfl HSL.out ?_; simp only [Act.put, setIfInBounds_toArray, set_cons_zero, set_cons_succ]))
  refine (HRT2.out _).mono ?_
  rintro e w3 ⟨rfl, hb⟩
  have BB := Lib.hid hb
  have q0 := (I2.out.below hb).cell 0
  have q1 := (I2.out.below hb).cell 1
  have q2 := (I2.out.below hb).cell 2
  have q3 := (I2.out.below hb).cell 3
  simp at q0 q1 q2 q3
  clear hb
  go_wp2_with fail
  refine (HRI.out _).mono ?_
  rintro e w4 ⟨he, hb⟩
  rw [HCO.out] at he
  subst he
  have BB4 := Lib.hid (ch0 BB.out hb)
  have p0 := (I2.out.below BB4.out).cell 0
  have p1 := (I2.out.below BB4.out).cell 1
  have p2 := (I2.out.below BB4.out).cell 2
  have p3 := (I2.out.below BB4.out).cell 3
  simp at p0 p1 p2 p3
  clear hb q0 q1 q2 q3
  go_wp2_with fail
  have hS : (fun w' => w'.rangeAt w1.heap.size 0 cs2.toList ∧ w'.cell? ⟨w.heap.size, 0, none⟩ = some (.int .u8 OO) ∧ w'.cell? ⟨w.heap.size, 1, none⟩ = some (.int .i64 d) ∧ w'.cell? ⟨w.heap.size, 2, none⟩ = some (.int .i64 n) ∧ w'.cell? ⟨w.heap.size, 3, none⟩ = some (.int .i64 v)) w4.drew := ⟨HRG2.out _ (BB4.out.drew), by have := (I2.out.below (BB4.out.drew)).cell 0; simpa using this, by have := (I2.out.below (BB4.out.drew)).cell 1; simpa using this, by have := (I2.out.below (BB4.out.drew)).cell 2; simpa using this, by have := (I2.out.below (BB4.out.drew)).cell 3; simpa using this⟩
  refine wp_region_held_drew (S := fun w' => w'.rangeAt w1.heap.size 0 cs2.toList ∧ w'.cell? ⟨w.heap.size, 0, none⟩ = some (.int .u8 OO) ∧ w'.cell? ⟨w.heap.size, 1, none⟩ = some (.int .i64 d) ∧ w'.cell? ⟨w.heap.size, 2, none⟩ = some (.int .i64 n) ∧ w'.cell? ⟨w.heap.size, 3, none⟩ = some (.int .i64 v)) (by kernel_rfl) hS (fun hHeld => ?_)
  refine wpAnyH_takeD (i := 0) (d := 20) (oi := _) (v := .agg cs2) rfl rfl (by kernel_rfl) (by kernel_rfl) (by kernel_rfl) (fun _ _ _ h => h) (yieldsIf_load_mid (by rfl) 50 (.tmp 5) rfl w1.heap.size 0 rfl cs2.toList _ (fun w hS => hS.1) Try.underlying50 rfl HSL.out) (by assumption) ?_
  simp only [Act.put, setIfInBounds_toArray, set_cons_zero, set_cons_succ]
  refine wpAnyH_takeD (i := 1) (d := 21) (oi := _) (v := ?_) rfl rfl (by kernel_rfl) (by kernel_rfl) (by kernel_rfl) (fun _ _ _ h => h) (Or.inl ⟨by rfl, ?_⟩) (by assumption) ?_
  rotate_left
  · (intro w hSw; (try dsimp only at hSw); go_simp) <;> with_reducible rfl
  simp only [Act.put, setIfInBounds_toArray, set_cons_zero, set_cons_succ]
  refine wpAnyH_takeD (i := 2) (d := 22) (oi := _) (v := ?_) rfl rfl (by kernel_rfl) (by kernel_rfl) (by kernel_rfl) (fun _ _ _ h => h) (Or.inl ⟨by rfl, ?_⟩) (by assumption) ?_
  rotate_left
  · (intro w hSw; (try dsimp only at hSw); go_simp) <;> with_reducible rfl
  simp only [Act.put, setIfInBounds_toArray, set_cons_zero, set_cons_succ]
  refine wpAnyH_takeD (i := 3) (d := 23) (oi := _) (v := ?_) rfl rfl (by kernel_rfl) (by kernel_rfl) (by kernel_rfl) (fun _ _ _ h => h) (Or.inl ⟨by rfl, ?_⟩) (by assumption) ?_
  rotate_left
  · (intro w hSw; (try dsimp only at hSw); go_simp) <;> with_reducible rfl
  simp only [Act.put, setIfInBounds_toArray, set_cons_zero, set_cons_succ]
  refine wpAnyH_takeD (i := 4) (d := 24) (oi := _) (v := ?_) rfl rfl (by kernel_rfl) (by kernel_rfl) (by kernel_rfl) (fun _ _ _ h => h) (Or.inl ⟨by rfl, ?_⟩) (by assumption) ?_
  rotate_left
  · (intro w hSw; (try dsimp only at hSw); go_simp) <;> with_reducible rfl
  simp only [Act.put, setIfInBounds_toArray, set_cons_zero, set_cons_succ]
  refine wpAnyH_takeD (i := 6) (d := 26) (oi := _) (v := .agg cs2) rfl rfl (by kernel_rfl) (by kernel_rfl) (by kernel_rfl) (fun _ _ _ h => h) (yieldsIf_load_mid (by rfl) 50 (.tmp 5) rfl w1.heap.size 0 rfl cs2.toList _ (fun w hS => hS.1) Try.underlying50 rfl HSL.out) (by assumption) ?_
  simp only [Act.put, setIfInBounds_toArray, set_cons_zero, set_cons_succ]
  refine wpAnyH_takeD (i := 7) (d := 27) (oi := _) (v := ?_) rfl rfl (by kernel_rfl) (by kernel_rfl) (by kernel_rfl) (fun _ _ _ h => h) (Or.inl ⟨by rfl, ?_⟩) (by assumption) ?_
  rotate_left
  · (intro w hSw; (try dsimp only at hSw); go_simp) <;> with_reducible rfl
  simp only [Act.put, setIfInBounds_toArray, set_cons_zero, set_cons_succ]
  refine wpAnyH_takeD (i := 8) (d := 28) (oi := _) (v := ?_) rfl rfl (by kernel_rfl) (by kernel_rfl) (by kernel_rfl) (fun _ _ _ h => h) (Or.inl ⟨by rfl, ?_⟩) (by assumption) ?_
  rotate_left
  · (intro w hSw; (try dsimp only at hSw); go_simp) <;> with_reducible rfl
  simp only [Act.put, setIfInBounds_toArray, set_cons_zero, set_cons_succ]
  refine wpAnyH_takeD (i := 9) (d := 29) (oi := _) (v := ?_) rfl rfl (by kernel_rfl) (by kernel_rfl) (by kernel_rfl) (fun _ _ _ h => h) (Or.inl ⟨by rfl, ?_⟩) (by assumption) ?_
  rotate_left
  · (intro w hSw; (try dsimp only at hSw); go_simp) <;> with_reducible rfl
  simp only [Act.put, setIfInBounds_toArray, set_cons_zero, set_cons_succ]
  refine wpAnyH_takeD (i := 10) (d := 30) (oi := _) (v := ?_) rfl rfl (by kernel_rfl) (by kernel_rfl) (by kernel_rfl) (fun _ _ _ h => h) (Or.inl ⟨by rfl, ?_⟩) (by assumption) ?_
  rotate_left
  · (intro w hSw; (try dsimp only at hSw); go_simp) <;> with_reducible rfl
  simp only [Act.put, setIfInBounds_toArray, set_cons_zero, set_cons_succ]
  refine wpAnyH_ready (rs := [5]) (by kernel_rfl) (by simp) ?_
  refine AllReadyH.cons (o := _) rfl (fun K hK => ?_) AllReadyH.nil
  go_simp
  refine (HVR.out _ (BB4.out.drew) n HN7.out).mono ?_
  rintro e w5 ⟨rfl, hb⟩
  have BB5 := Lib.hid (ch0 BB4.out.drew hb)
  clear hb
  go_wp2_with fail
  refine hK.out _ _ ⟨HRG2.out _ BB5.out, by have := (I2.out.below BB5.out).cell 0; simpa using this, by have := (I2.out.below BB5.out).cell 1; simpa using this, by have := (I2.out.below BB5.out).cell 2; simpa using this, by have := (I2.out.below BB5.out).cell 3; simpa using this⟩ (fun hHeld => ?_)
  clear hK K
  try simp only [Act.put, setIfInBounds_toArray, set_cons_zero, set_cons_succ]
  refine wpAnyH_ready (rs := [11]) (by kernel_rfl) (by simp) ?_
  refine AllReadyH.cons (o := _) rfl (fun K hK => ?_) AllReadyH.nil
  go_simp
  refine (HVR.out _ BB5.out d (by have := HD7.out; omega)).mono ?_
  rintro e w6 ⟨rfl, hb⟩
  have BB6 := Lib.hid (ch0 BB5.out hb)
  clear hb
  go_wp2_with fail
  refine hK.out _ _ ⟨HRG2.out _ BB6.out, by have := (I2.out.below BB6.out).cell 0; simpa using this, by have := (I2.out.below BB6.out).cell 1; simpa using this, by have := (I2.out.below BB6.out).cell 2; simpa using this, by have := (I2.out.below BB6.out).cell 3; simpa using this⟩ (fun hHeld => ?_)
  clear hK K
  try simp only [Act.put, setIfInBounds_toArray, set_cons_zero, set_cons_succ]
  refine wpAnyH_takeD (i := 12) (d := 6) (oi := _) (v := ?_) rfl rfl (by kernel_rfl) (by kernel_rfl) (by kernel_rfl) (fun _ _ _ h => h) (Or.inl ⟨by rfl, ?_⟩) (by assumption) ?_
  rotate_left
  · (intro w hSw; (try dsimp only at hSw); go_simp) <;> with_reducible rfl
  simp only [Act.put, setIfInBounds_toArray, set_cons_zero, set_cons_succ]
  refine wpAnyH_takeD (i := 13) (d := 7) (oi := _) (v := ?_) rfl rfl (by kernel_rfl) (by kernel_rfl) (by kernel_rfl) (fun _ _ _ h => h) (Or.inl ⟨by rfl, ?_⟩) (by assumption) ?_
  rotate_left
  · (intro w hSw; (try dsimp only at hSw); go_simp) <;> with_reducible rfl
  simp only [Act.put, setIfInBounds_toArray, set_cons_zero, set_cons_succ]
  refine wpAnyH_done (by kernel_rfl) ?_ _
  obtain ⟨_, p0, p1, p2, p3⟩ := hHeld
  have HV6 := Lib.hid (HVM.out.below BB6.out)
  have R6 := Lib.hid (R2.out.below BB6.out)
  have F6 := Lib.hid (ch0 B2.out BB6.out)
  have ey : operV d v s = getP d s := by unfold operV; rw [if_neg (by have := HD7.out; omega)]
  have EY := Lib.hid ey
  have gsz := HV6.out.box.lt
  clear ey
  have c0 := HV6.out.box.c0
  have f0 := HV6.out.box.fz 0
  go_wp2_with fail
  refine (calc60 OO _ _ HO.out (operV_u32 HOK.out n v) _).mono ?_
  rintro e w7 ⟨rfl, rfl⟩
  clear p0 p1 p2 p3
  have hlen := doV_len OO d n v s
  have hend : EndB (doV OO d n v s) w1.heap.size w (w6.setCell ⟨w1.heap.size, 0, none⟩ (.int .u32 (calcV OO s.m.a (operV n v s)))) := by
    have hvx : Vm (w6.setCell ⟨w1.heap.size, 0, none⟩ (.int .u32 (calcV OO s.m.a (operV n v s)))) w1.heap.size gh gm (doV OO d n v s) d1 d2 := by rw [HE.out]; exact HV6.out.reg 0 _ _ ⟨calcV_u32 OO HOK.out.m.a (operV_u32 HOK.out n v), HOK.out.m.b, HOK.out.m.c, HOK.out.m.d, HOK.out.m.len, HOK.out.m.r⟩ (fun _ _ => (Mc.set_reg _ _ _).1)
    have hfx : Frm (Sg w1.heap.size gh gm) w6 (w6.setCell ⟨w1.heap.size, 0, none⟩ (.int .u32 (calcV OO s.m.a (operV n v s)))) := Frm.setCell (S := Sg w1.heap.size gh gm) (p := ⟨w1.heap.size, 0, none⟩) (Frm.refl _ _) (fun _ => .inl rfl) _
    have hgh := HGH.out
    have hgm := HGM.out
    have hs1 := HS1.out
    have hbel : Below (w.heap.size + 3) w6 (w6.setCell ⟨w1.heap.size, 0, none⟩ (.int .u32 (calcV OO s.m.a (operV n v s)))) := hfx.to_below (by omega) (fun k hk => by rcases hk with rfl | rfl | rfl <;> omega)
    exact ⟨_, _, hvx.box, .inr ⟨gh, d1, by rw [List.length_map], by rw [List.length_map, hlen.1]; exact HC1.out, hgh, hvx.hrow⟩, .inr ⟨gm, d2, by rw [List.length_map], by rw [List.length_map, hlen.2]; exact HC2.out, hgm, hvx.mrow⟩, R6.out.frm hfx (fun h => by rcases h with h | h | h <;> omega), F6.out.trans (hbel.mono (by omega))⟩
  obtain ⟨u1, u2, hmb, hr1, hr2, hz2, hlow⟩ := hend
  obtain ⟨l2, hl2, hrgx, j1, j2, j3, j4, j5⟩ := hmb.info hr1.one hr2.one
  have HL2 := Lib.hid hl2
  have HRGX := Lib.hid hrgx
  have HJ1 := Lib.hid j1
  have HJ2 := Lib.hid j2
  have HJ3 := Lib.hid j3
  have HJ5 := Lib.hid j5
  have HR1 := Lib.hid hr1
  have HR2 := Lib.hid hr2
  have HZ2 := Lib.hid hz2
  have HLOW := Lib.hid hlow
  clear hmb hr1 hr2 hz2 hlow hl2 hrgx j1 j2 j3 j4 j5 hlen
  go_wp2_with (first
    | (refine wpList_load_mid rfl 50 (.tmp 5) rfl w1.heap.size 0 rfl _ _ HRGX.out Try.underlying50 rfl HJ1.out ?_)
    | (refine wpList_store_row rfl 50 (.tmp 4) (.tmp 171) rfl (w.heap.size + 2) l2.toArray rfl rfl 50 _ HZ2.out HJ2.out HJ3.out HJ5.out ?_))
  have hf := frm_setRow (w6.setCell ⟨w1.heap.size, 0, none⟩ (.int .u32 (calcV OO s.m.a (operV n v s)))) (w.heap.size + 2) l2.toArray
  have hM : IsMachR (doV OO d n v s) w (.returned (.agg l2.toArray)) ((w6.setCell ⟨w1.heap.size, 0, none⟩ (.int .u32 (calcV OO s.m.a (operV n v s)))).setRow (w.heap.size + 2) l2.toArray) := ⟨⟨u1, u2, by rw [HL2.out], (HR1.out.frm hf (fun k hk => by omega)).base (by omega), (HR2.out.frm hf (fun k hk => by omega)).base (by omega)⟩, HLOW.out.trans (hf.to_below HLOW.out.size (fun k hk => by omega))⟩
  exact bodyPost_ret (v := .agg l2.toArray) (results_cell_row rfl _ _ (w.heap.size + 2) 50 l2.toArray _ _ rfl (blk_setRow HZ2.out l2.toArray) Try.underlying50 rfl HJ2.out) rfl hM
set_option maxRecDepth 100000 in
set_option maxHeartbeats 8000000 in
theorem do27_hold (OO d n v : Int) (s : St) (hm : s.m.ok) (hw : Wds s.hs) (mo : Oct s.ms) (Ah Am : Option Addr) (ch cm nh nm : Nat) (w : World) (hnh : nh = s.hs.length) (hnm : nm = s.ms.length) (hh : Rd w Ah (s.hs.map (.int .u32))) (hmr : Rd w Am (s.ms.map (.int .u8))) (lh : nh ≤ 5000) (lm : nm ≤ 5000) (hok : s.ok) (hri : rightI ⟨OO, d, n, v⟩ = true) (ho : 19 ≤ OO ∧ OO ≤ 21) :
    Calls Try.prog 27 #[.agg #[.int .u8 OO, .int .i64 d, .int .i64 n, .int .i64 v], .agg (s.m.cells (.slice Ah nh ch) (.slice Am nm cm))] w (IsMachR (doV OO d n v s) w) := by
  have ne1 : (OO == (1 : Int)) = false := by simp; omega
  have ne2 : (OO == (2 : Int)) = false := by simp; omega
  have ne3 : (OO == (3 : Int)) = false := by simp; omega
  have ne4 : (OO == (4 : Int)) = false := by simp; omega
  have ne5 : (OO == (5 : Int)) = false := by simp; omega
  have ne6 : (OO == (6 : Int)) = false := by simp; omega
  have ne7 : (OO == (7 : Int)) = false := by simp; omega
  have q1 : decide ((8 : Int) ≤ OO) = true := by simp; omega
  have q2 : decide (OO ≤ (18 : Int)) = false := by simp; omega
  have q3 : decide ((19 : Int) ≤ OO) = true := by simpa using ho.1
  have q4 : decide (OO ≤ (21 : Int)) = true := by simpa using ho.2
  have HO := Lib.hid ho
  have HE : Hid (doV OO d n v s = { s with m := { s.m with f := holdV OO (operV n v s) s.m.a } }) := Lib.hid (by unfold doV; rw [if_neg (by omega), if_pos ho])
  have HO0 : (0 : Int) ≤ OO := by omega
  clear ho

  subst hnh hnm
  have hz := (zero_of_info zero50).1
  have bx := MBox.new hm (w.alloc (.cells #[.int .u8 OO, .int .i64 d, .int .i64 n, .int .i64 v] 31)) (.slice Ah s.hs.length ch) (.slice Am s.ms.length cm)
  rw [World.size_alloc] at bx
  have b0 := (((Blk.new w 31 #[.int .u8 OO, .int .i64 d, .int .i64 n, .int .i64 v]).alloc (.cells (s.m.cells (.slice Ah s.hs.length ch) (.slice Am s.ms.length cm)) 50)).alloc (.cells zCells 50))
  have bb := bx.below ((Below.refl _ _).alloc (Nat.le_refl _) (.cells zCells 50))
  have br := Blk.new ((w.alloc (.cells #[.int .u8 OO, .int .i64 d, .int .i64 n, .int .i64 v] 31)).alloc (.cells (s.m.cells (.slice Ah s.hs.length ch) (.slice Am s.ms.length cm)) 50)) 50 zCells
  rw [World.size_alloc, World.size_alloc] at br
  have hb3 : Below w.heap.size w (((w.alloc (.cells #[.int .u8 OO, .int .i64 d, .int .i64 n, .int .i64 v] 31)).alloc (.cells (s.m.cells (.slice Ah s.hs.length ch) (.slice Am s.ms.length cm)) 50)).alloc (.cells zCells 50)) := (((Below.refl _ _).alloc (Nat.le_refl _) _).alloc (by simp) _).alloc (by simp; omega) _
  have hcp := copyMach_any s.m hm s.hs s.ms Ah Am ch cm s.hs.length s.ms.length _ rfl rfl (hh.below hb3 rfl) (hmr.below hb3 rfl) (by omega) (by omega)
  have i1 : (Try.prog.info? 50).map (·.size) = some (s.m.cells (.slice Ah s.hs.length ch) (.slice Am s.ms.length cm)).toList.length := by
    have h := Mc.size hm (.slice Ah s.hs.length ch) (.slice Am s.ms.length cm)
    rw [Array.length_toList, h]
    exact size50
  have hrg := bb.range
  obtain ⟨cs, hcs⟩ : ∃ x, s.m.cells (.slice Ah s.hs.length ch) (.slice Am s.ms.length cm) = x := ⟨_, rfl⟩
  have hcl : s.m.list (.slice Ah s.hs.length ch) (.slice Am s.ms.length cm) = cs.toList := by rw [← hcs]; rfl
  rw [hcs] at hcp b0 bb br hb3 i1 hrg ⊢
  rw [hcl] at hrg
  obtain ⟨W0, hW0⟩ : ∃ x, (((w.alloc (.cells #[.int .u8 OO, .int .i64 d, .int .i64 n, .int .i64 v] 31)).alloc (.cells cs 50)).alloc (.cells zCells 50)) = x := ⟨_, rfl⟩
  have hsz : W0.heap.size = w.heap.size + 3 := by rw [← hW0]; simp
  rw [hW0] at hcp b0 bb br hrg hb3
  have HCP := Lib.hid hcp
  have HB0 := Lib.hid b0
  have HBR := Lib.hid br
  have HRG := Lib.hid hrg
  have HB3 := Lib.hid hb3
  have HI1 := Lib.hid i1
  have HM := Lib.hid hm
  have HSZ := Lib.hid hsz
  have HOK := Lib.hid hok
  have HRE := Lib.hid hri
  have HCO : Hid (codeI ⟨OO, d, n, v⟩ = 0) := Lib.hid (by unfold codeI; rw [hri]; rfl)
  have HRI := Lib.hid (fun W => right15 ⟨OO, d, n, v⟩ W HO0)
  have HRT := Lib.hid (fun A c B e W => right_ref s.m hm A B s.hs.length c s.ms.length e W)
  have HRM := Lib.hid hok.right
  obtain ⟨hd7, hn7, hv7⟩ := right_in hri
  have HD7 := Lib.hid hd7
  have HN7 := Lib.hid hn7
  clear hcp b0 bb br hrg hb3 i1 bx hcs hcl hh hmr hm hw mo hsz hok hri hd7 hn7 hv7
  go_enter Try.func27, Try.ntmps27
  go_wp2_with (refine wpList_load_midA rfl 50 (.tmp 3) rfl (w.heap.size + 1) 0 rfl cs _ HRG.out Try.underlying50 rfl HI1.out ?_; simp only [Act.put, setIfInBounds_toArray, set_cons_zero, set_cons_succ])
  refine HCP.out.mono ?_
  rintro e w1 ⟨⟨A1, d1, A2, d2, rfl, hd1, hd2, ho1, ho2⟩, hl1⟩
  rw [HSZ.out] at ho1 ho2
  obtain ⟨gh, c1, e1, hc1, hgh, hra⟩ := (OwnR.of_own ho1).at (by rw [List.length_map]; exact pow_pos HOK.out.p8)
  obtain ⟨gm, c2, e2, hc2, hgm, hrb⟩ := (OwnR.of_own ho2).at (by rw [List.length_map]; exact pow_pos HOK.out.p12)
  rw [List.length_map] at e1 e2 hc1 hc2
  injection e1 with e1 _ f1
  injection e2 with e2 _ f2
  subst e1 e2 f1 f2
  have hsz1 : w.heap.size + 3 ≤ w1.heap.size := by have := hl1.size; have := HSZ.out; omega
  have hvm : Vm (w1.alloc (.cells (s.m.cells (.slice (some ⟨gh, 0, none⟩) s.hs.length d1) (.slice (some ⟨gm, 0, none⟩) s.ms.length d2)) 50)) w1.heap.size gh gm s d1 d2 := ⟨MBox.new HM.out w1 _ _, hra.below ((Below.refl _ _).alloc (Nat.le_refl _) _), hrb.below ((Below.refl _ _).alloc (Nat.le_refl _) _), HOK.out⟩
  have k1 : (s.m.cells (.slice (some ⟨gh, 0, none⟩) s.hs.length d1) (.slice (some ⟨gm, 0, none⟩) s.ms.length d2)).size = 263 := Mc.size HM.out _ _
  have hzz : zCells.size = 263 := Mc.size zM_ok _ _
  have B2 := Lib.hid ((HB3.out.trans (hl1.mono (by have := HB3.out.size; omega))).alloc (by have := HB3.out.size; have := hl1.size; omega) (.cells (s.m.cells (.slice (some ⟨gh, 0, none⟩) s.hs.length d1) (.slice (some ⟨gm, 0, none⟩) s.ms.length d2)) 50))
  have I2 := Lib.hid ((HB0.out.below hl1).alloc (.cells (s.m.cells (.slice (some ⟨gh, 0, none⟩) s.hs.length d1) (.slice (some ⟨gm, 0, none⟩) s.ms.length d2)) 50))
  have R2 := Lib.hid ((HBR.out.below hl1).alloc (.cells (s.m.cells (.slice (some ⟨gh, 0, none⟩) s.hs.length d1) (.slice (some ⟨gm, 0, none⟩) s.ms.length d2)) 50))
  have one : (s.m.cells (.slice (some ⟨gh, 0, none⟩) s.hs.length d1) (.slice (some ⟨gm, 0, none⟩) s.ms.length d2)).all (·.oneCell') = true := Mc.one rfl rfl
  obtain ⟨cs2, hcs2⟩ : ∃ x, s.m.cells (.slice (some ⟨gh, 0, none⟩) s.hs.length d1) (.slice (some ⟨gm, 0, none⟩) s.ms.length d2) = x := ⟨_, rfl⟩
  have hvr : ∀ W, Below (w1.alloc (.cells (s.m.cells (.slice (some ⟨gh, 0, none⟩) s.hs.length d1) (.slice (some ⟨gm, 0, none⟩) s.ms.length d2)) 50)).heap.size (w1.alloc (.cells (s.m.cells (.slice (some ⟨gh, 0, none⟩) s.hs.length d1) (.slice (some ⟨gm, 0, none⟩) s.ms.length d2)) 50)) W → ∀ p, 0 ≤ p ∧ p ≤ 7 → Calls Try.prog 58 #[.agg (s.m.cells (.slice (some ⟨gh, 0, none⟩) s.hs.length d1) (.slice (some ⟨gm, 0, none⟩) s.ms.length d2)), .int .i64 p, .int .i64 v] W (Quiet (.int .u32 (operV p v s)) W) := fun W hW p hp => at58 p v hp ⟨(hvm.below hW).hrow.rd, (hvm.below hW).mrow.rd, HOK.out⟩
  have hrt := fun W => HRT.out (some ⟨gh, 0, none⟩) d1 (some ⟨gm, 0, none⟩) d2 W
  rw [HRM.out] at hrt
  rw [hcs2] at hvm k1 one hvr B2 I2 R2 ⊢
  simp only [hcs2] at hrt
  obtain ⟨W2, hW2⟩ : ∃ x, w1.alloc (.cells cs2 50) = x := ⟨_, rfl⟩
  rw [hW2] at hvm hvr B2 I2 R2
  have hrg2 : ∀ W, Below W2.heap.size W2 W → W.rangeAt w1.heap.size 0 cs2.toList := fun W hW j u hu => by
    rw [Nat.zero_add, (hvm.below hW).box.blk.cell j, hcs2]
    simpa using hu
  have HVM := Lib.hid hvm
  have HVR := Lib.hid hvr
  have HRT2 := Lib.hid hrt
  have HRG2 := Lib.hid hrg2
  have HCS2 := Lib.hid hcs2
  have HSI : Hid ((Try.prog.info? 50).map (·.size) = some cs2.size) := Lib.hid (by rw [k1]; exact size50)
  have HSL : Hid ((Try.prog.info? 50).map (·.size) = some cs2.toList.length) := Lib.hid (by rw [Array.length_toList, k1]; exact size50)
  have HSS : Hid (zCells.size = cs2.size) := Lib.hid (by rw [k1, hzz])
  have HONE := Lib.hid one
  have HW2 := Lib.hid hW2
  have HGH := Lib.hid hgh
  have HGM := Lib.hid hgm
  have HS1 := Lib.hid hsz1
  have HC1 := Lib.hid hc1
  have HC2 := Lib.hid hc2
  clear hl1 ho1 ho2 hra hrb hvm hvr hrt hrg2 hcs2 k1 hzz one hd1 hd2
  go_wp2_with (first
    | (refine wpList_store_row rfl 50 (.tmp 5) (.tmp 10) rfl w1.heap.size cs2 rfl rfl 50 _ (heap_alloc_new _ _) HSI.out HSS.out HONE.out ?_; rw [World.setRow_alloc_new, HW2.out]; simp only [Act.put, setIfInBounds_toArray, set_cons_zero, set_cons_succ])
    | (refine wpList_load_midA rfl 50 (.tmp 5) rfl w1.heap.size 0 rfl cs2 _ (HRG2.out _ (Below.refl _ _)) Try.underlying50 rfl HSL.out ?_; simp only [Act.put, setIfInBounds_toArray, set_cons_zero, set_cons_succ]))
  refine (HRT2.out _).mono ?_
  rintro e w3 ⟨rfl, hb⟩
  have BB := Lib.hid hb
  have q0 := (I2.out.below hb).cell 0
  have q1 := (I2.out.below hb).cell 1
  have q2 := (I2.out.below hb).cell 2
  have q3 := (I2.out.below hb).cell 3
  simp at q0 q1 q2 q3
  clear hb
  go_wp2_with fail
  refine (HRI.out _).mono ?_
  rintro e w4 ⟨he, hb⟩
  rw [HCO.out] at he
  subst he
  have BB4 := Lib.hid (ch0 BB.out hb)
  have p0 := (I2.out.below BB4.out).cell 0
  have p1 := (I2.out.below BB4.out).cell 1
  have p2 := (I2.out.below BB4.out).cell 2
  have p3 := (I2.out.below BB4.out).cell 3
  simp at p0 p1 p2 p3
  clear hb q0 q1 q2 q3
  go_wp2_with fail
  have hS : (fun w' => w'.rangeAt w1.heap.size 0 cs2.toList ∧ w'.cell? ⟨w.heap.size, 0, none⟩ = some (.int .u8 OO) ∧ w'.cell? ⟨w.heap.size, 1, none⟩ = some (.int .i64 d) ∧ w'.cell? ⟨w.heap.size, 2, none⟩ = some (.int .i64 n) ∧ w'.cell? ⟨w.heap.size, 3, none⟩ = some (.int .i64 v)) w4.drew := ⟨HRG2.out _ (BB4.out.drew), by have := (I2.out.below (BB4.out.drew)).cell 0; simpa using this, by have := (I2.out.below (BB4.out.drew)).cell 1; simpa using this, by have := (I2.out.below (BB4.out.drew)).cell 2; simpa using this, by have := (I2.out.below (BB4.out.drew)).cell 3; simpa using this⟩
  refine wp_region_held_drew (S := fun w' => w'.rangeAt w1.heap.size 0 cs2.toList ∧ w'.cell? ⟨w.heap.size, 0, none⟩ = some (.int .u8 OO) ∧ w'.cell? ⟨w.heap.size, 1, none⟩ = some (.int .i64 d) ∧ w'.cell? ⟨w.heap.size, 2, none⟩ = some (.int .i64 n) ∧ w'.cell? ⟨w.heap.size, 3, none⟩ = some (.int .i64 v)) (by kernel_rfl) hS (fun hHeld => ?_)
  refine wpAnyH_takeD (i := 0) (d := 20) (oi := _) (v := .agg cs2) rfl rfl (by kernel_rfl) (by kernel_rfl) (by kernel_rfl) (fun _ _ _ h => h) (yieldsIf_load_mid (by rfl) 50 (.tmp 5) rfl w1.heap.size 0 rfl cs2.toList _ (fun w hS => hS.1) Try.underlying50 rfl HSL.out) (by assumption) ?_
  simp only [Act.put, setIfInBounds_toArray, set_cons_zero, set_cons_succ]
  refine wpAnyH_takeD (i := 1) (d := 21) (oi := _) (v := ?_) rfl rfl (by kernel_rfl) (by kernel_rfl) (by kernel_rfl) (fun _ _ _ h => h) (Or.inl ⟨by rfl, ?_⟩) (by assumption) ?_
  rotate_left
  · (intro w hSw; (try dsimp only at hSw); go_simp) <;> with_reducible rfl
  simp only [Act.put, setIfInBounds_toArray, set_cons_zero, set_cons_succ]
  refine wpAnyH_takeD (i := 2) (d := 22) (oi := _) (v := ?_) rfl rfl (by kernel_rfl) (by kernel_rfl) (by kernel_rfl) (fun _ _ _ h => h) (Or.inl ⟨by rfl, ?_⟩) (by assumption) ?_
  rotate_left
  · (intro w hSw; (try dsimp only at hSw); go_simp) <;> with_reducible rfl
  simp only [Act.put, setIfInBounds_toArray, set_cons_zero, set_cons_succ]
  refine wpAnyH_takeD (i := 3) (d := 23) (oi := _) (v := ?_) rfl rfl (by kernel_rfl) (by kernel_rfl) (by kernel_rfl) (fun _ _ _ h => h) (Or.inl ⟨by rfl, ?_⟩) (by assumption) ?_
  rotate_left
  · (intro w hSw; (try dsimp only at hSw); go_simp) <;> with_reducible rfl
  simp only [Act.put, setIfInBounds_toArray, set_cons_zero, set_cons_succ]
  refine wpAnyH_takeD (i := 4) (d := 24) (oi := _) (v := ?_) rfl rfl (by kernel_rfl) (by kernel_rfl) (by kernel_rfl) (fun _ _ _ h => h) (Or.inl ⟨by rfl, ?_⟩) (by assumption) ?_
  rotate_left
  · (intro w hSw; (try dsimp only at hSw); go_simp) <;> with_reducible rfl
  simp only [Act.put, setIfInBounds_toArray, set_cons_zero, set_cons_succ]
  refine wpAnyH_takeD (i := 6) (d := 26) (oi := _) (v := .agg cs2) rfl rfl (by kernel_rfl) (by kernel_rfl) (by kernel_rfl) (fun _ _ _ h => h) (yieldsIf_load_mid (by rfl) 50 (.tmp 5) rfl w1.heap.size 0 rfl cs2.toList _ (fun w hS => hS.1) Try.underlying50 rfl HSL.out) (by assumption) ?_
  simp only [Act.put, setIfInBounds_toArray, set_cons_zero, set_cons_succ]
  refine wpAnyH_takeD (i := 7) (d := 27) (oi := _) (v := ?_) rfl rfl (by kernel_rfl) (by kernel_rfl) (by kernel_rfl) (fun _ _ _ h => h) (Or.inl ⟨by rfl, ?_⟩) (by assumption) ?_
  rotate_left
  · (intro w hSw; (try dsimp only at hSw); go_simp) <;> with_reducible rfl
  simp only [Act.put, setIfInBounds_toArray, set_cons_zero, set_cons_succ]
  refine wpAnyH_takeD (i := 8) (d := 28) (oi := _) (v := ?_) rfl rfl (by kernel_rfl) (by kernel_rfl) (by kernel_rfl) (fun _ _ _ h => h) (Or.inl ⟨by rfl, ?_⟩) (by assumption) ?_
  rotate_left
  · (intro w hSw; (try dsimp only at hSw); go_simp) <;> with_reducible rfl
  simp only [Act.put, setIfInBounds_toArray, set_cons_zero, set_cons_succ]
  refine wpAnyH_takeD (i := 9) (d := 29) (oi := _) (v := ?_) rfl rfl (by kernel_rfl) (by kernel_rfl) (by kernel_rfl) (fun _ _ _ h => h) (Or.inl ⟨by rfl, ?_⟩) (by assumption) ?_
  rotate_left
  · (intro w hSw; (try dsimp only at hSw); go_simp) <;> with_reducible rfl
  simp only [Act.put, setIfInBounds_toArray, set_cons_zero, set_cons_succ]
  refine wpAnyH_takeD (i := 10) (d := 30) (oi := _) (v := ?_) rfl rfl (by kernel_rfl) (by kernel_rfl) (by kernel_rfl) (fun _ _ _ h => h) (Or.inl ⟨by rfl, ?_⟩) (by assumption) ?_
  rotate_left
  · (intro w hSw; (try dsimp only at hSw); go_simp) <;> with_reducible rfl
  simp only [Act.put, setIfInBounds_toArray, set_cons_zero, set_cons_succ]
  refine wpAnyH_ready (rs := [5]) (by kernel_rfl) (by simp) ?_
  refine AllReadyH.cons (o := _) rfl (fun K hK => ?_) AllReadyH.nil
  go_simp
  refine (HVR.out _ (BB4.out.drew) n HN7.out).mono ?_
  rintro e w5 ⟨rfl, hb⟩
  have BB5 := Lib.hid (ch0 BB4.out.drew hb)
  clear hb
  go_wp2_with fail
  refine hK.out _ _ ⟨HRG2.out _ BB5.out, by have := (I2.out.below BB5.out).cell 0; simpa using this, by have := (I2.out.below BB5.out).cell 1; simpa using this, by have := (I2.out.below BB5.out).cell 2; simpa using this, by have := (I2.out.below BB5.out).cell 3; simpa using this⟩ (fun hHeld => ?_)
  clear hK K
  try simp only [Act.put, setIfInBounds_toArray, set_cons_zero, set_cons_succ]
  refine wpAnyH_ready (rs := [11]) (by kernel_rfl) (by simp) ?_
  refine AllReadyH.cons (o := _) rfl (fun K hK => ?_) AllReadyH.nil
  go_simp
  refine (HVR.out _ BB5.out d (by have := HD7.out; omega)).mono ?_
  rintro e w6 ⟨rfl, hb⟩
  have BB6 := Lib.hid (ch0 BB5.out hb)
  clear hb
  go_wp2_with fail
  refine hK.out _ _ ⟨HRG2.out _ BB6.out, by have := (I2.out.below BB6.out).cell 0; simpa using this, by have := (I2.out.below BB6.out).cell 1; simpa using this, by have := (I2.out.below BB6.out).cell 2; simpa using this, by have := (I2.out.below BB6.out).cell 3; simpa using this⟩ (fun hHeld => ?_)
  clear hK K
  try simp only [Act.put, setIfInBounds_toArray, set_cons_zero, set_cons_succ]
  refine wpAnyH_takeD (i := 12) (d := 6) (oi := _) (v := ?_) rfl rfl (by kernel_rfl) (by kernel_rfl) (by kernel_rfl) (fun _ _ _ h => h) (Or.inl ⟨by rfl, ?_⟩) (by assumption) ?_
  rotate_left
  · (intro w hSw; (try dsimp only at hSw); go_simp) <;> with_reducible rfl
  simp only [Act.put, setIfInBounds_toArray, set_cons_zero, set_cons_succ]
  refine wpAnyH_takeD (i := 13) (d := 7) (oi := _) (v := ?_) rfl rfl (by kernel_rfl) (by kernel_rfl) (by kernel_rfl) (fun _ _ _ h => h) (Or.inl ⟨by rfl, ?_⟩) (by assumption) ?_
  rotate_left
  · (intro w hSw; (try dsimp only at hSw); go_simp) <;> with_reducible rfl
  simp only [Act.put, setIfInBounds_toArray, set_cons_zero, set_cons_succ]
  refine wpAnyH_done (by kernel_rfl) ?_ _
  obtain ⟨_, p0, p1, p2, p3⟩ := hHeld
  have HV6 := Lib.hid (HVM.out.below BB6.out)
  have R6 := Lib.hid (R2.out.below BB6.out)
  have F6 := Lib.hid (ch0 B2.out BB6.out)
  have ey : operV d v s = getP d s := by unfold operV; rw [if_neg (by have := HD7.out; omega)]
  have EY := Lib.hid ey
  have gsz := HV6.out.box.lt
  clear ey
  have h29 := holds29 OO d n v s HOK.out.m HOK.out.hw HOK.out.mo (some ⟨gh, 0, none⟩) (some ⟨gm, 0, none⟩) d1 d2 s.hs.length s.ms.length w6 rfl rfl HV6.out.hrow.rd HV6.out.mrow.rd HO0
  rw [HCS2.out, show HoldsS OO d n v s = holdV OO (operV n v s) s.m.a by unfold HoldsS; rw [HRM.out, HRE.out, decide_eq_true HO.out.1, decide_eq_true HO.out.2]; simp] at h29
  have H29 := Lib.hid h29
  clear h29
  go_wp2_with (refine wpList_load_midA rfl 50 (.tmp 5) rfl w1.heap.size 0 rfl cs2 _ (HRG2.out _ BB6.out) Try.underlying50 rfl HSL.out ?_; simp only [Act.put, setIfInBounds_toArray, set_cons_zero, set_cons_succ])
  refine H29.out.mono ?_
  rintro e w7 ⟨rfl, hb7⟩
  have c4 := (HV6.out.below hb7).box.c4
  have f4 := (HV6.out.below hb7).box.fz 4
  have HB7 := Lib.hid hb7
  clear hb7 p0 p1 p2 p3
  have hlen := doV_len OO d n v s
  have hend : EndB (doV OO d n v s) w1.heap.size w (w7.setCell ⟨w1.heap.size, 4, none⟩ (.bool (holdV OO (operV n v s) s.m.a))) := by
    have hvx : Vm (w7.setCell ⟨w1.heap.size, 4, none⟩ (.bool (holdV OO (operV n v s) s.m.a))) w1.heap.size gh gm (doV OO d n v s) d1 d2 := by rw [HE.out]; exact (HV6.out.below HB7.out).reg 4 _ _ ⟨HOK.out.m.a, HOK.out.m.b, HOK.out.m.c, HOK.out.m.d, HOK.out.m.len, HOK.out.m.r⟩ (fun _ _ => (Mc.set_reg _ _ 0).2.2.2.2 _)
    have hfx : Frm (Sg w1.heap.size gh gm) w6 (w7.setCell ⟨w1.heap.size, 4, none⟩ (.bool (holdV OO (operV n v s) s.m.a))) := Frm.setCell (S := Sg w1.heap.size gh gm) (p := ⟨w1.heap.size, 4, none⟩) (Frm.of_below HB7.out) (fun _ => .inl rfl) _
    have hgh := HGH.out
    have hgm := HGM.out
    have hs1 := HS1.out
    have hbel : Below (w.heap.size + 3) w6 (w7.setCell ⟨w1.heap.size, 4, none⟩ (.bool (holdV OO (operV n v s) s.m.a))) := hfx.to_below (by omega) (fun k hk => by rcases hk with rfl | rfl | rfl <;> omega)
    exact ⟨_, _, hvx.box, .inr ⟨gh, d1, by rw [List.length_map], by rw [List.length_map, hlen.1]; exact HC1.out, hgh, hvx.hrow⟩, .inr ⟨gm, d2, by rw [List.length_map], by rw [List.length_map, hlen.2]; exact HC2.out, hgm, hvx.mrow⟩, R6.out.frm hfx (fun h => by rcases h with h | h | h <;> omega), F6.out.trans (hbel.mono (by omega))⟩
  obtain ⟨u1, u2, hmb, hr1, hr2, hz2, hlow⟩ := hend
  obtain ⟨l2, hl2, hrgx, j1, j2, j3, j4, j5⟩ := hmb.info hr1.one hr2.one
  have HL2 := Lib.hid hl2
  have HRGX := Lib.hid hrgx
  have HJ1 := Lib.hid j1
  have HJ2 := Lib.hid j2
  have HJ3 := Lib.hid j3
  have HJ5 := Lib.hid j5
  have HR1 := Lib.hid hr1
  have HR2 := Lib.hid hr2
  have HZ2 := Lib.hid hz2
  have HLOW := Lib.hid hlow
  clear hmb hr1 hr2 hz2 hlow hl2 hrgx j1 j2 j3 j4 j5 hlen
  go_wp2_with (first
    | (refine wpList_load_mid rfl 50 (.tmp 5) rfl w1.heap.size 0 rfl _ _ HRGX.out Try.underlying50 rfl HJ1.out ?_)
    | (refine wpList_store_row rfl 50 (.tmp 4) (.tmp 171) rfl (w.heap.size + 2) l2.toArray rfl rfl 50 _ HZ2.out HJ2.out HJ3.out HJ5.out ?_))
  have hf := frm_setRow (w7.setCell ⟨w1.heap.size, 4, none⟩ (.bool (holdV OO (operV n v s) s.m.a))) (w.heap.size + 2) l2.toArray
  have hM : IsMachR (doV OO d n v s) w (.returned (.agg l2.toArray)) ((w7.setCell ⟨w1.heap.size, 4, none⟩ (.bool (holdV OO (operV n v s) s.m.a))).setRow (w.heap.size + 2) l2.toArray) := ⟨⟨u1, u2, by rw [HL2.out], (HR1.out.frm hf (fun k hk => by omega)).base (by omega), (HR2.out.frm hf (fun k hk => by omega)).base (by omega)⟩, HLOW.out.trans (hf.to_below HLOW.out.size (fun k hk => by omega))⟩
  exact bodyPost_ret (v := .agg l2.toArray) (results_cell_row rfl _ _ (w.heap.size + 2) 50 l2.toArray _ _ rfl (blk_setRow HZ2.out l2.toArray) Try.underlying50 rfl HJ2.out) rfl hM
set_option maxRecDepth 100000 in
set_option maxHeartbeats 8000000 in
theorem do27_22 (d n : Int) (k : Nat) (hk : k ≤ 255) (s : St) (hm : s.m.ok) (hw : Wds s.hs) (mo : Oct s.ms) (Ah Am : Option Addr) (ch cm nh nm : Nat) (w : World) (hnh : nh = s.hs.length) (hnm : nm = s.ms.length) (hh : Rd w Ah (s.hs.map (.int .u32))) (hmr : Rd w Am (s.ms.map (.int .u8))) (lh : nh ≤ 5000) (lm : nm ≤ 5000) (hok : s.ok) (hri : rightI ⟨22, d, n, (k : Int)⟩ = true) :
    Calls Try.prog 27 #[.agg #[.int .u8 22, .int .i64 d, .int .i64 n, .int .i64 (k : Int)], .agg (s.m.cells (.slice Ah nh ch) (.slice Am nm cm))] w (IsMachR (doV 22 d n (k : Int) s) w) := by
  have HO0 : (0 : Int) ≤ 22 := by decide
  have hki : (k : Int) < 256 := by omega
  have hkn : k < 256 := by omega
  have hk0 : (0 : Int) ≤ (k : Int) := by omega

  subst hnh hnm
  have hz := (zero_of_info zero50).1
  have bx := MBox.new hm (w.alloc (.cells #[.int .u8 22, .int .i64 d, .int .i64 n, .int .i64 (k : Int)] 31)) (.slice Ah s.hs.length ch) (.slice Am s.ms.length cm)
  rw [World.size_alloc] at bx
  have b0 := (((Blk.new w 31 #[.int .u8 22, .int .i64 d, .int .i64 n, .int .i64 (k : Int)]).alloc (.cells (s.m.cells (.slice Ah s.hs.length ch) (.slice Am s.ms.length cm)) 50)).alloc (.cells zCells 50))
  have bb := bx.below ((Below.refl _ _).alloc (Nat.le_refl _) (.cells zCells 50))
  have br := Blk.new ((w.alloc (.cells #[.int .u8 22, .int .i64 d, .int .i64 n, .int .i64 (k : Int)] 31)).alloc (.cells (s.m.cells (.slice Ah s.hs.length ch) (.slice Am s.ms.length cm)) 50)) 50 zCells
  rw [World.size_alloc, World.size_alloc] at br
  have hb3 : Below w.heap.size w (((w.alloc (.cells #[.int .u8 22, .int .i64 d, .int .i64 n, .int .i64 (k : Int)] 31)).alloc (.cells (s.m.cells (.slice Ah s.hs.length ch) (.slice Am s.ms.length cm)) 50)).alloc (.cells zCells 50)) := (((Below.refl _ _).alloc (Nat.le_refl _) _).alloc (by simp) _).alloc (by simp; omega) _
  have hcp := copyMach_any s.m hm s.hs s.ms Ah Am ch cm s.hs.length s.ms.length _ rfl rfl (hh.below hb3 rfl) (hmr.below hb3 rfl) (by omega) (by omega)
  have i1 : (Try.prog.info? 50).map (·.size) = some (s.m.cells (.slice Ah s.hs.length ch) (.slice Am s.ms.length cm)).toList.length := by
    have h := Mc.size hm (.slice Ah s.hs.length ch) (.slice Am s.ms.length cm)
    rw [Array.length_toList, h]
    exact size50
  have hrg := bb.range
  obtain ⟨cs, hcs⟩ : ∃ x, s.m.cells (.slice Ah s.hs.length ch) (.slice Am s.ms.length cm) = x := ⟨_, rfl⟩
  have hcl : s.m.list (.slice Ah s.hs.length ch) (.slice Am s.ms.length cm) = cs.toList := by rw [← hcs]; rfl
  rw [hcs] at hcp b0 bb br hb3 i1 hrg ⊢
  rw [hcl] at hrg
  obtain ⟨W0, hW0⟩ : ∃ x, (((w.alloc (.cells #[.int .u8 22, .int .i64 d, .int .i64 n, .int .i64 (k : Int)] 31)).alloc (.cells cs 50)).alloc (.cells zCells 50)) = x := ⟨_, rfl⟩
  have hsz : W0.heap.size = w.heap.size + 3 := by rw [← hW0]; simp
  rw [hW0] at hcp b0 bb br hrg hb3
  have HCP := Lib.hid hcp
  have HB0 := Lib.hid b0
  have HBR := Lib.hid br
  have HRG := Lib.hid hrg
  have HB3 := Lib.hid hb3
  have HI1 := Lib.hid i1
  have HM := Lib.hid hm
  have HSZ := Lib.hid hsz
  have HOK := Lib.hid hok
  have HRE := Lib.hid hri
  have HCO : Hid (codeI ⟨22, d, n, (k : Int)⟩ = 0) := Lib.hid (by unfold codeI; rw [hri]; rfl)
  have HRI := Lib.hid (fun W => right15 ⟨22, d, n, (k : Int)⟩ W HO0)
  have HRT := Lib.hid (fun A c B e W => right_ref s.m hm A B s.hs.length c s.ms.length e W)
  have HRM := Lib.hid hok.right
  obtain ⟨hd7, hn7, hv7⟩ := right_in hri
  have HD7 := Lib.hid hd7
  have HN7 := Lib.hid hn7
  clear hcp b0 bb br hrg hb3 i1 bx hcs hcl hh hmr hm hw mo hsz hok hri hd7 hn7 hv7
  go_enter Try.func27, Try.ntmps27
  go_wp2_with (refine wpList_load_midA rfl 50 (.tmp 3) rfl (w.heap.size + 1) 0 rfl cs _ HRG.out Try.underlying50 rfl HI1.out ?_; simp only [Act.put, setIfInBounds_toArray, set_cons_zero, set_cons_succ])
  refine HCP.out.mono ?_
  rintro e w1 ⟨⟨A1, d1, A2, d2, rfl, hd1, hd2, ho1, ho2⟩, hl1⟩
  rw [HSZ.out] at ho1 ho2
  obtain ⟨gh, c1, e1, hc1, hgh, hra⟩ := (OwnR.of_own ho1).at (by rw [List.length_map]; exact pow_pos HOK.out.p8)
  obtain ⟨gm, c2, e2, hc2, hgm, hrb⟩ := (OwnR.of_own ho2).at (by rw [List.length_map]; exact pow_pos HOK.out.p12)
  rw [List.length_map] at e1 e2 hc1 hc2
  injection e1 with e1 _ f1
  injection e2 with e2 _ f2
  subst e1 e2 f1 f2
  have hsz1 : w.heap.size + 3 ≤ w1.heap.size := by have := hl1.size; have := HSZ.out; omega
  have hvm : Vm (w1.alloc (.cells (s.m.cells (.slice (some ⟨gh, 0, none⟩) s.hs.length d1) (.slice (some ⟨gm, 0, none⟩) s.ms.length d2)) 50)) w1.heap.size gh gm s d1 d2 := ⟨MBox.new HM.out w1 _ _, hra.below ((Below.refl _ _).alloc (Nat.le_refl _) _), hrb.below ((Below.refl _ _).alloc (Nat.le_refl _) _), HOK.out⟩
  have k1 : (s.m.cells (.slice (some ⟨gh, 0, none⟩) s.hs.length d1) (.slice (some ⟨gm, 0, none⟩) s.ms.length d2)).size = 263 := Mc.size HM.out _ _
  have hzz : zCells.size = 263 := Mc.size zM_ok _ _
  have B2 := Lib.hid ((HB3.out.trans (hl1.mono (by have := HB3.out.size; omega))).alloc (by have := HB3.out.size; have := hl1.size; omega) (.cells (s.m.cells (.slice (some ⟨gh, 0, none⟩) s.hs.length d1) (.slice (some ⟨gm, 0, none⟩) s.ms.length d2)) 50))
  have I2 := Lib.hid ((HB0.out.below hl1).alloc (.cells (s.m.cells (.slice (some ⟨gh, 0, none⟩) s.hs.length d1) (.slice (some ⟨gm, 0, none⟩) s.ms.length d2)) 50))
  have R2 := Lib.hid ((HBR.out.below hl1).alloc (.cells (s.m.cells (.slice (some ⟨gh, 0, none⟩) s.hs.length d1) (.slice (some ⟨gm, 0, none⟩) s.ms.length d2)) 50))
  have one : (s.m.cells (.slice (some ⟨gh, 0, none⟩) s.hs.length d1) (.slice (some ⟨gm, 0, none⟩) s.ms.length d2)).all (·.oneCell') = true := Mc.one rfl rfl
  obtain ⟨cs2, hcs2⟩ : ∃ x, s.m.cells (.slice (some ⟨gh, 0, none⟩) s.hs.length d1) (.slice (some ⟨gm, 0, none⟩) s.ms.length d2) = x := ⟨_, rfl⟩
  have hvr : ∀ W, Below (w1.alloc (.cells (s.m.cells (.slice (some ⟨gh, 0, none⟩) s.hs.length d1) (.slice (some ⟨gm, 0, none⟩) s.ms.length d2)) 50)).heap.size (w1.alloc (.cells (s.m.cells (.slice (some ⟨gh, 0, none⟩) s.hs.length d1) (.slice (some ⟨gm, 0, none⟩) s.ms.length d2)) 50)) W → ∀ p, 0 ≤ p ∧ p ≤ 7 → Calls Try.prog 58 #[.agg (s.m.cells (.slice (some ⟨gh, 0, none⟩) s.hs.length d1) (.slice (some ⟨gm, 0, none⟩) s.ms.length d2)), .int .i64 p, .int .i64 (k : Int)] W (Quiet (.int .u32 (operV p (k : Int) s)) W) := fun W hW p hp => at58 p (k : Int) hp ⟨(hvm.below hW).hrow.rd, (hvm.below hW).mrow.rd, HOK.out⟩
  have hrt := fun W => HRT.out (some ⟨gh, 0, none⟩) d1 (some ⟨gm, 0, none⟩) d2 W
  rw [HRM.out] at hrt
  rw [hcs2] at hvm k1 one hvr B2 I2 R2 ⊢
  simp only [hcs2] at hrt
  obtain ⟨W2, hW2⟩ : ∃ x, w1.alloc (.cells cs2 50) = x := ⟨_, rfl⟩
  rw [hW2] at hvm hvr B2 I2 R2
  have hrg2 : ∀ W, Below W2.heap.size W2 W → W.rangeAt w1.heap.size 0 cs2.toList := fun W hW j u hu => by
    rw [Nat.zero_add, (hvm.below hW).box.blk.cell j, hcs2]
    simpa using hu
  have HVM := Lib.hid hvm
  have HVR := Lib.hid hvr
  have HRT2 := Lib.hid hrt
  have HRG2 := Lib.hid hrg2
  have HCS2 := Lib.hid hcs2
  have HSI : Hid ((Try.prog.info? 50).map (·.size) = some cs2.size) := Lib.hid (by rw [k1]; exact size50)
  have HSL : Hid ((Try.prog.info? 50).map (·.size) = some cs2.toList.length) := Lib.hid (by rw [Array.length_toList, k1]; exact size50)
  have HSS : Hid (zCells.size = cs2.size) := Lib.hid (by rw [k1, hzz])
  have HONE := Lib.hid one
  have HW2 := Lib.hid hW2
  have HGH := Lib.hid hgh
  have HGM := Lib.hid hgm
  have HS1 := Lib.hid hsz1
  have HC1 := Lib.hid hc1
  have HC2 := Lib.hid hc2
  clear hl1 ho1 ho2 hra hrb hvm hvr hrt hrg2 hcs2 k1 hzz one hd1 hd2
  go_wp2_with (first
    | (refine wpList_store_row rfl 50 (.tmp 5) (.tmp 10) rfl w1.heap.size cs2 rfl rfl 50 _ (heap_alloc_new _ _) HSI.out HSS.out HONE.out ?_; rw [World.setRow_alloc_new, HW2.out]; simp only [Act.put, setIfInBounds_toArray, set_cons_zero, set_cons_succ])
    | (refine wpList_load_midA rfl 50 (.tmp 5) rfl w1.heap.size 0 rfl cs2 _ (HRG2.out _ (Below.refl _ _)) Try.underlying50 rfl HSL.out ?_; simp only [Act.put, setIfInBounds_toArray, set_cons_zero, set_cons_succ]))
  refine (HRT2.out _).mono ?_
  rintro e w3 ⟨rfl, hb⟩
  have BB := Lib.hid hb
  have q0 := (I2.out.below hb).cell 0
  have q1 := (I2.out.below hb).cell 1
  have q2 := (I2.out.below hb).cell 2
  have q3 := (I2.out.below hb).cell 3
  simp at q0 q1 q2 q3
  clear hb
  go_wp2_with fail
  refine (HRI.out _).mono ?_
  rintro e w4 ⟨he, hb⟩
  rw [HCO.out] at he
  subst he
  have BB4 := Lib.hid (ch0 BB.out hb)
  have p0 := (I2.out.below BB4.out).cell 0
  have p1 := (I2.out.below BB4.out).cell 1
  have p2 := (I2.out.below BB4.out).cell 2
  have p3 := (I2.out.below BB4.out).cell 3
  simp at p0 p1 p2 p3
  clear hb q0 q1 q2 q3
  go_wp2_with fail
  have hS : (fun w' => w'.rangeAt w1.heap.size 0 cs2.toList ∧ w'.cell? ⟨w.heap.size, 0, none⟩ = some (.int .u8 22) ∧ w'.cell? ⟨w.heap.size, 1, none⟩ = some (.int .i64 d) ∧ w'.cell? ⟨w.heap.size, 2, none⟩ = some (.int .i64 n) ∧ w'.cell? ⟨w.heap.size, 3, none⟩ = some (.int .i64 (k : Int))) w4.drew := ⟨HRG2.out _ (BB4.out.drew), by have := (I2.out.below (BB4.out.drew)).cell 0; simpa using this, by have := (I2.out.below (BB4.out.drew)).cell 1; simpa using this, by have := (I2.out.below (BB4.out.drew)).cell 2; simpa using this, by have := (I2.out.below (BB4.out.drew)).cell 3; simpa using this⟩
  refine wp_region_held_drew (S := fun w' => w'.rangeAt w1.heap.size 0 cs2.toList ∧ w'.cell? ⟨w.heap.size, 0, none⟩ = some (.int .u8 22) ∧ w'.cell? ⟨w.heap.size, 1, none⟩ = some (.int .i64 d) ∧ w'.cell? ⟨w.heap.size, 2, none⟩ = some (.int .i64 n) ∧ w'.cell? ⟨w.heap.size, 3, none⟩ = some (.int .i64 (k : Int))) (by kernel_rfl) hS (fun hHeld => ?_)
  refine wpAnyH_takeD (i := 0) (d := 20) (oi := _) (v := .agg cs2) rfl rfl (by kernel_rfl) (by kernel_rfl) (by kernel_rfl) (fun _ _ _ h => h) (yieldsIf_load_mid (by rfl) 50 (.tmp 5) rfl w1.heap.size 0 rfl cs2.toList _ (fun w hS => hS.1) Try.underlying50 rfl HSL.out) (by assumption) ?_
  simp only [Act.put, setIfInBounds_toArray, set_cons_zero, set_cons_succ]
  refine wpAnyH_takeD (i := 1) (d := 21) (oi := _) (v := ?_) rfl rfl (by kernel_rfl) (by kernel_rfl) (by kernel_rfl) (fun _ _ _ h => h) (Or.inl ⟨by rfl, ?_⟩) (by assumption) ?_
  rotate_left
  · (intro w hSw; (try dsimp only at hSw); go_simp) <;> with_reducible rfl
  simp only [Act.put, setIfInBounds_toArray, set_cons_zero, set_cons_succ]
  refine wpAnyH_takeD (i := 2) (d := 22) (oi := _) (v := ?_) rfl rfl (by kernel_rfl) (by kernel_rfl) (by kernel_rfl) (fun _ _ _ h => h) (Or.inl ⟨by rfl, ?_⟩) (by assumption) ?_
  rotate_left
  · (intro w hSw; (try dsimp only at hSw); go_simp) <;> with_reducible rfl
  simp only [Act.put, setIfInBounds_toArray, set_cons_zero, set_cons_succ]
  refine wpAnyH_takeD (i := 3) (d := 23) (oi := _) (v := ?_) rfl rfl (by kernel_rfl) (by kernel_rfl) (by kernel_rfl) (fun _ _ _ h => h) (Or.inl ⟨by rfl, ?_⟩) (by assumption) ?_
  rotate_left
  · (intro w hSw; (try dsimp only at hSw); go_simp) <;> with_reducible rfl
  simp only [Act.put, setIfInBounds_toArray, set_cons_zero, set_cons_succ]
  refine wpAnyH_takeD (i := 4) (d := 24) (oi := _) (v := ?_) rfl rfl (by kernel_rfl) (by kernel_rfl) (by kernel_rfl) (fun _ _ _ h => h) (Or.inl ⟨by rfl, ?_⟩) (by assumption) ?_
  rotate_left
  · (intro w hSw; (try dsimp only at hSw); go_simp) <;> with_reducible rfl
  simp only [Act.put, setIfInBounds_toArray, set_cons_zero, set_cons_succ]
  refine wpAnyH_takeD (i := 6) (d := 26) (oi := _) (v := .agg cs2) rfl rfl (by kernel_rfl) (by kernel_rfl) (by kernel_rfl) (fun _ _ _ h => h) (yieldsIf_load_mid (by rfl) 50 (.tmp 5) rfl w1.heap.size 0 rfl cs2.toList _ (fun w hS => hS.1) Try.underlying50 rfl HSL.out) (by assumption) ?_
  simp only [Act.put, setIfInBounds_toArray, set_cons_zero, set_cons_succ]
  refine wpAnyH_takeD (i := 7) (d := 27) (oi := _) (v := ?_) rfl rfl (by kernel_rfl) (by kernel_rfl) (by kernel_rfl) (fun _ _ _ h => h) (Or.inl ⟨by rfl, ?_⟩) (by assumption) ?_
  rotate_left
  · (intro w hSw; (try dsimp only at hSw); go_simp) <;> with_reducible rfl
  simp only [Act.put, setIfInBounds_toArray, set_cons_zero, set_cons_succ]
  refine wpAnyH_takeD (i := 8) (d := 28) (oi := _) (v := ?_) rfl rfl (by kernel_rfl) (by kernel_rfl) (by kernel_rfl) (fun _ _ _ h => h) (Or.inl ⟨by rfl, ?_⟩) (by assumption) ?_
  rotate_left
  · (intro w hSw; (try dsimp only at hSw); go_simp) <;> with_reducible rfl
  simp only [Act.put, setIfInBounds_toArray, set_cons_zero, set_cons_succ]
  refine wpAnyH_takeD (i := 9) (d := 29) (oi := _) (v := ?_) rfl rfl (by kernel_rfl) (by kernel_rfl) (by kernel_rfl) (fun _ _ _ h => h) (Or.inl ⟨by rfl, ?_⟩) (by assumption) ?_
  rotate_left
  · (intro w hSw; (try dsimp only at hSw); go_simp) <;> with_reducible rfl
  simp only [Act.put, setIfInBounds_toArray, set_cons_zero, set_cons_succ]
  refine wpAnyH_takeD (i := 10) (d := 30) (oi := _) (v := ?_) rfl rfl (by kernel_rfl) (by kernel_rfl) (by kernel_rfl) (fun _ _ _ h => h) (Or.inl ⟨by rfl, ?_⟩) (by assumption) ?_
  rotate_left
  · (intro w hSw; (try dsimp only at hSw); go_simp) <;> with_reducible rfl
  simp only [Act.put, setIfInBounds_toArray, set_cons_zero, set_cons_succ]
  refine wpAnyH_ready (rs := [5]) (by kernel_rfl) (by simp) ?_
  refine AllReadyH.cons (o := _) rfl (fun K hK => ?_) AllReadyH.nil
  go_simp
  refine (HVR.out _ (BB4.out.drew) n HN7.out).mono ?_
  rintro e w5 ⟨rfl, hb⟩
  have BB5 := Lib.hid (ch0 BB4.out.drew hb)
  clear hb
  go_wp2_with fail
  refine hK.out _ _ ⟨HRG2.out _ BB5.out, by have := (I2.out.below BB5.out).cell 0; simpa using this, by have := (I2.out.below BB5.out).cell 1; simpa using this, by have := (I2.out.below BB5.out).cell 2; simpa using this, by have := (I2.out.below BB5.out).cell 3; simpa using this⟩ (fun hHeld => ?_)
  clear hK K
  try simp only [Act.put, setIfInBounds_toArray, set_cons_zero, set_cons_succ]
  refine wpAnyH_ready (rs := [11]) (by kernel_rfl) (by simp) ?_
  refine AllReadyH.cons (o := _) rfl (fun K hK => ?_) AllReadyH.nil
  go_simp
  refine (HVR.out _ BB5.out d (by have := HD7.out; omega)).mono ?_
  rintro e w6 ⟨rfl, hb⟩
  have BB6 := Lib.hid (ch0 BB5.out hb)
  clear hb
  go_wp2_with fail
  refine hK.out _ _ ⟨HRG2.out _ BB6.out, by have := (I2.out.below BB6.out).cell 0; simpa using this, by have := (I2.out.below BB6.out).cell 1; simpa using this, by have := (I2.out.below BB6.out).cell 2; simpa using this, by have := (I2.out.below BB6.out).cell 3; simpa using this⟩ (fun hHeld => ?_)
  clear hK K
  try simp only [Act.put, setIfInBounds_toArray, set_cons_zero, set_cons_succ]
  refine wpAnyH_takeD (i := 12) (d := 6) (oi := _) (v := ?_) rfl rfl (by kernel_rfl) (by kernel_rfl) (by kernel_rfl) (fun _ _ _ h => h) (Or.inl ⟨by rfl, ?_⟩) (by assumption) ?_
  rotate_left
  · (intro w hSw; (try dsimp only at hSw); go_simp) <;> with_reducible rfl
  simp only [Act.put, setIfInBounds_toArray, set_cons_zero, set_cons_succ]
  refine wpAnyH_takeD (i := 13) (d := 7) (oi := _) (v := ?_) rfl rfl (by kernel_rfl) (by kernel_rfl) (by kernel_rfl) (fun _ _ _ h => h) (Or.inl ⟨by rfl, ?_⟩) (by assumption) ?_
  rotate_left
  · (intro w hSw; (try dsimp only at hSw); go_simp) <;> with_reducible rfl
  simp only [Act.put, setIfInBounds_toArray, set_cons_zero, set_cons_succ]
  refine wpAnyH_done (by kernel_rfl) ?_ _
  obtain ⟨_, p0, p1, p2, p3⟩ := hHeld
  have HV6 := Lib.hid (HVM.out.below BB6.out)
  have R6 := Lib.hid (R2.out.below BB6.out)
  have F6 := Lib.hid (ch0 B2.out BB6.out)
  have ey : operV d (k : Int) s = getP d s := by unfold operV; rw [if_neg (by have := HD7.out; omega)]
  have EY := Lib.hid ey
  have gsz := HV6.out.box.lt
  clear ey
  obtain ⟨hx1, hx2⟩ := r_at HOK.out.m k hk
  have cx := HV6.out.box.cr hx1
  have he : doV 22 d n (k : Int) s = setP d (s.m.r.getD k 0) s := rfl
  obtain ⟨x, hx⟩ : ∃ x, s.m.r.getD k 0 = x := ⟨_, rfl⟩
  rw [hx] at cx hx2 he
  have HE := Lib.hid he
  have HX2 := Lib.hid hx2
  clear hx he hx1 hx2
  go_wp2_with fail
  go_region_with ((with_reducible refine (put59 d _ HD7.out HX2.out HV6.out.drew).mono ?_); rintro e WX ⟨rfl, hv7, hf7⟩; have HVX := Lib.hid hv7; have HFX := Lib.hid (Frm.of_drew hf7); clear hv7 hf7 p0 p1 p2 p3)
  all_goals
    have hlen := doV_len 22 d n (k : Int) s
    have hend : EndB (doV 22 d n (k : Int) s) w1.heap.size w WX := by
      have hvx : Vm WX w1.heap.size gh gm (doV 22 d n (k : Int) s) d1 d2 := by rw [HE.out]; exact HVX.out
      have hfx : Frm (Sg w1.heap.size gh gm) w6 WX := HFX.out
      have hgh := HGH.out
      have hgm := HGM.out
      have hs1 := HS1.out
      have hbel : Below (w.heap.size + 3) w6 WX := hfx.to_below (by omega) (fun k hk => by rcases hk with rfl | rfl | rfl <;> omega)
      exact ⟨_, _, hvx.box, .inr ⟨gh, d1, by rw [List.length_map], by rw [List.length_map, hlen.1]; exact HC1.out, hgh, hvx.hrow⟩, .inr ⟨gm, d2, by rw [List.length_map], by rw [List.length_map, hlen.2]; exact HC2.out, hgm, hvx.mrow⟩, R6.out.frm hfx (fun h => by rcases h with h | h | h <;> omega), F6.out.trans (hbel.mono (by omega))⟩
    obtain ⟨u1, u2, hmb, hr1, hr2, hz2, hlow⟩ := hend
    obtain ⟨l2, hl2, hrgx, j1, j2, j3, j4, j5⟩ := hmb.info hr1.one hr2.one
    have HL2 := Lib.hid hl2
    have HRGX := Lib.hid hrgx
    have HJ1 := Lib.hid j1
    have HJ2 := Lib.hid j2
    have HJ3 := Lib.hid j3
    have HJ5 := Lib.hid j5
    have HR1 := Lib.hid hr1
    have HR2 := Lib.hid hr2
    have HZ2 := Lib.hid hz2
    have HLOW := Lib.hid hlow
    clear hmb hr1 hr2 hz2 hlow hl2 hrgx j1 j2 j3 j4 j5 hlen
    go_wp2_with (first
      | (refine wpList_load_mid rfl 50 (.tmp 5) rfl w1.heap.size 0 rfl _ _ HRGX.out Try.underlying50 rfl HJ1.out ?_)
      | (refine wpList_store_row rfl 50 (.tmp 4) (.tmp 171) rfl (w.heap.size + 2) l2.toArray rfl rfl 50 _ HZ2.out HJ2.out HJ3.out HJ5.out ?_))
    have hf := frm_setRow WX (w.heap.size + 2) l2.toArray
    have hM : IsMachR (doV 22 d n (k : Int) s) w (.returned (.agg l2.toArray)) (WX.setRow (w.heap.size + 2) l2.toArray) := ⟨⟨u1, u2, by rw [HL2.out], (HR1.out.frm hf (fun k hk => by omega)).base (by omega), (HR2.out.frm hf (fun k hk => by omega)).base (by omega)⟩, HLOW.out.trans (hf.to_below HLOW.out.size (fun k hk => by omega))⟩
    exact bodyPost_ret (v := .agg l2.toArray) (results_cell_row rfl _ _ (w.heap.size + 2) 50 l2.toArray _ _ rfl (blk_setRow HZ2.out l2.toArray) Try.underlying50 rfl HJ2.out) rfl hM
set_option maxRecDepth 100000 in
set_option maxHeartbeats 8000000 in
theorem do27_23 (d n : Int) (k : Nat) (hk : k ≤ 255) (s : St) (hm : s.m.ok) (hw : Wds s.hs) (mo : Oct s.ms) (Ah Am : Option Addr) (ch cm nh nm : Nat) (w : World) (hnh : nh = s.hs.length) (hnm : nm = s.ms.length) (hh : Rd w Ah (s.hs.map (.int .u32))) (hmr : Rd w Am (s.ms.map (.int .u8))) (lh : nh ≤ 5000) (lm : nm ≤ 5000) (hok : s.ok) (hri : rightI ⟨23, d, n, (k : Int)⟩ = true) :
    Calls Try.prog 27 #[.agg #[.int .u8 23, .int .i64 d, .int .i64 n, .int .i64 (k : Int)], .agg (s.m.cells (.slice Ah nh ch) (.slice Am nm cm))] w (IsMachR (doV 23 d n (k : Int) s) w) := by
  have HO0 : (0 : Int) ≤ 23 := by decide
  have hki : (k : Int) < 256 := by omega
  have hkn : k < 256 := by omega
  have hk0 : (0 : Int) ≤ (k : Int) := by omega

  subst hnh hnm
  have hz := (zero_of_info zero50).1
  have bx := MBox.new hm (w.alloc (.cells #[.int .u8 23, .int .i64 d, .int .i64 n, .int .i64 (k : Int)] 31)) (.slice Ah s.hs.length ch) (.slice Am s.ms.length cm)
  rw [World.size_alloc] at bx
  have b0 := (((Blk.new w 31 #[.int .u8 23, .int .i64 d, .int .i64 n, .int .i64 (k : Int)]).alloc (.cells (s.m.cells (.slice Ah s.hs.length ch) (.slice Am s.ms.length cm)) 50)).alloc (.cells zCells 50))
  have bb := bx.below ((Below.refl _ _).alloc (Nat.le_refl _) (.cells zCells 50))
  have br := Blk.new ((w.alloc (.cells #[.int .u8 23, .int .i64 d, .int .i64 n, .int .i64 (k : Int)] 31)).alloc (.cells (s.m.cells (.slice Ah s.hs.length ch) (.slice Am s.ms.length cm)) 50)) 50 zCells
  rw [World.size_alloc, World.size_alloc] at br
  have hb3 : Below w.heap.size w (((w.alloc (.cells #[.int .u8 23, .int .i64 d, .int .i64 n, .int .i64 (k : Int)] 31)).alloc (.cells (s.m.cells (.slice Ah s.hs.length ch) (.slice Am s.ms.length cm)) 50)).alloc (.cells zCells 50)) := (((Below.refl _ _).alloc (Nat.le_refl _) _).alloc (by simp) _).alloc (by simp; omega) _
  have hcp := copyMach_any s.m hm s.hs s.ms Ah Am ch cm s.hs.length s.ms.length _ rfl rfl (hh.below hb3 rfl) (hmr.below hb3 rfl) (by omega) (by omega)
  have i1 : (Try.prog.info? 50).map (·.size) = some (s.m.cells (.slice Ah s.hs.length ch) (.slice Am s.ms.length cm)).toList.length := by
    have h := Mc.size hm (.slice Ah s.hs.length ch) (.slice Am s.ms.length cm)
    rw [Array.length_toList, h]
    exact size50
  have hrg := bb.range
  obtain ⟨cs, hcs⟩ : ∃ x, s.m.cells (.slice Ah s.hs.length ch) (.slice Am s.ms.length cm) = x := ⟨_, rfl⟩
  have hcl : s.m.list (.slice Ah s.hs.length ch) (.slice Am s.ms.length cm) = cs.toList := by rw [← hcs]; rfl
  rw [hcs] at hcp b0 bb br hb3 i1 hrg ⊢
  rw [hcl] at hrg
  obtain ⟨W0, hW0⟩ : ∃ x, (((w.alloc (.cells #[.int .u8 23, .int .i64 d, .int .i64 n, .int .i64 (k : Int)] 31)).alloc (.cells cs 50)).alloc (.cells zCells 50)) = x := ⟨_, rfl⟩
  have hsz : W0.heap.size = w.heap.size + 3 := by rw [← hW0]; simp
  rw [hW0] at hcp b0 bb br hrg hb3
  have HCP := Lib.hid hcp
  have HB0 := Lib.hid b0
  have HBR := Lib.hid br
  have HRG := Lib.hid hrg
  have HB3 := Lib.hid hb3
  have HI1 := Lib.hid i1
  have HM := Lib.hid hm
  have HSZ := Lib.hid hsz
  have HOK := Lib.hid hok
  have HRE := Lib.hid hri
  have HCO : Hid (codeI ⟨23, d, n, (k : Int)⟩ = 0) := Lib.hid (by unfold codeI; rw [hri]; rfl)
  have HRI := Lib.hid (fun W => right15 ⟨23, d, n, (k : Int)⟩ W HO0)
  have HRT := Lib.hid (fun A c B e W => right_ref s.m hm A B s.hs.length c s.ms.length e W)
  have HRM := Lib.hid hok.right
  obtain ⟨hd7, hn7, hv7⟩ := right_in hri
  have HD7 := Lib.hid hd7
  have HN7 := Lib.hid hn7
  clear hcp b0 bb br hrg hb3 i1 bx hcs hcl hh hmr hm hw mo hsz hok hri hd7 hn7 hv7
  go_enter Try.func27, Try.ntmps27
  go_wp2_with (refine wpList_load_midA rfl 50 (.tmp 3) rfl (w.heap.size + 1) 0 rfl cs _ HRG.out Try.underlying50 rfl HI1.out ?_; simp only [Act.put, setIfInBounds_toArray, set_cons_zero, set_cons_succ])
  refine HCP.out.mono ?_
  rintro e w1 ⟨⟨A1, d1, A2, d2, rfl, hd1, hd2, ho1, ho2⟩, hl1⟩
  rw [HSZ.out] at ho1 ho2
  obtain ⟨gh, c1, e1, hc1, hgh, hra⟩ := (OwnR.of_own ho1).at (by rw [List.length_map]; exact pow_pos HOK.out.p8)
  obtain ⟨gm, c2, e2, hc2, hgm, hrb⟩ := (OwnR.of_own ho2).at (by rw [List.length_map]; exact pow_pos HOK.out.p12)
  rw [List.length_map] at e1 e2 hc1 hc2
  injection e1 with e1 _ f1
  injection e2 with e2 _ f2
  subst e1 e2 f1 f2
  have hsz1 : w.heap.size + 3 ≤ w1.heap.size := by have := hl1.size; have := HSZ.out; omega
  have hvm : Vm (w1.alloc (.cells (s.m.cells (.slice (some ⟨gh, 0, none⟩) s.hs.length d1) (.slice (some ⟨gm, 0, none⟩) s.ms.length d2)) 50)) w1.heap.size gh gm s d1 d2 := ⟨MBox.new HM.out w1 _ _, hra.below ((Below.refl _ _).alloc (Nat.le_refl _) _), hrb.below ((Below.refl _ _).alloc (Nat.le_refl _) _), HOK.out⟩
  have k1 : (s.m.cells (.slice (some ⟨gh, 0, none⟩) s.hs.length d1) (.slice (some ⟨gm, 0, none⟩) s.ms.length d2)).size = 263 := Mc.size HM.out _ _
  have hzz : zCells.size = 263 := Mc.size zM_ok _ _
  have B2 := Lib.hid ((HB3.out.trans (hl1.mono (by have := HB3.out.size; omega))).alloc (by have := HB3.out.size; have := hl1.size; omega) (.cells (s.m.cells (.slice (some ⟨gh, 0, none⟩) s.hs.length d1) (.slice (some ⟨gm, 0, none⟩) s.ms.length d2)) 50))
  have I2 := Lib.hid ((HB0.out.below hl1).alloc (.cells (s.m.cells (.slice (some ⟨gh, 0, none⟩) s.hs.length d1) (.slice (some ⟨gm, 0, none⟩) s.ms.length d2)) 50))
  have R2 := Lib.hid ((HBR.out.below hl1).alloc (.cells (s.m.cells (.slice (some ⟨gh, 0, none⟩) s.hs.length d1) (.slice (some ⟨gm, 0, none⟩) s.ms.length d2)) 50))
  have one : (s.m.cells (.slice (some ⟨gh, 0, none⟩) s.hs.length d1) (.slice (some ⟨gm, 0, none⟩) s.ms.length d2)).all (·.oneCell') = true := Mc.one rfl rfl
  obtain ⟨cs2, hcs2⟩ : ∃ x, s.m.cells (.slice (some ⟨gh, 0, none⟩) s.hs.length d1) (.slice (some ⟨gm, 0, none⟩) s.ms.length d2) = x := ⟨_, rfl⟩
  have hvr : ∀ W, Below (w1.alloc (.cells (s.m.cells (.slice (some ⟨gh, 0, none⟩) s.hs.length d1) (.slice (some ⟨gm, 0, none⟩) s.ms.length d2)) 50)).heap.size (w1.alloc (.cells (s.m.cells (.slice (some ⟨gh, 0, none⟩) s.hs.length d1) (.slice (some ⟨gm, 0, none⟩) s.ms.length d2)) 50)) W → ∀ p, 0 ≤ p ∧ p ≤ 7 → Calls Try.prog 58 #[.agg (s.m.cells (.slice (some ⟨gh, 0, none⟩) s.hs.length d1) (.slice (some ⟨gm, 0, none⟩) s.ms.length d2)), .int .i64 p, .int .i64 (k : Int)] W (Quiet (.int .u32 (operV p (k : Int) s)) W) := fun W hW p hp => at58 p (k : Int) hp ⟨(hvm.below hW).hrow.rd, (hvm.below hW).mrow.rd, HOK.out⟩
  have hrt := fun W => HRT.out (some ⟨gh, 0, none⟩) d1 (some ⟨gm, 0, none⟩) d2 W
  rw [HRM.out] at hrt
  rw [hcs2] at hvm k1 one hvr B2 I2 R2 ⊢
  simp only [hcs2] at hrt
  obtain ⟨W2, hW2⟩ : ∃ x, w1.alloc (.cells cs2 50) = x := ⟨_, rfl⟩
  rw [hW2] at hvm hvr B2 I2 R2
  have hrg2 : ∀ W, Below W2.heap.size W2 W → W.rangeAt w1.heap.size 0 cs2.toList := fun W hW j u hu => by
    rw [Nat.zero_add, (hvm.below hW).box.blk.cell j, hcs2]
    simpa using hu
  have HVM := Lib.hid hvm
  have HVR := Lib.hid hvr
  have HRT2 := Lib.hid hrt
  have HRG2 := Lib.hid hrg2
  have HCS2 := Lib.hid hcs2
  have HSI : Hid ((Try.prog.info? 50).map (·.size) = some cs2.size) := Lib.hid (by rw [k1]; exact size50)
  have HSL : Hid ((Try.prog.info? 50).map (·.size) = some cs2.toList.length) := Lib.hid (by rw [Array.length_toList, k1]; exact size50)
  have HSS : Hid (zCells.size = cs2.size) := Lib.hid (by rw [k1, hzz])
  have HONE := Lib.hid one
  have HW2 := Lib.hid hW2
  have HGH := Lib.hid hgh
  have HGM := Lib.hid hgm
  have HS1 := Lib.hid hsz1
  have HC1 := Lib.hid hc1
  have HC2 := Lib.hid hc2
  clear hl1 ho1 ho2 hra hrb hvm hvr hrt hrg2 hcs2 k1 hzz one hd1 hd2
  go_wp2_with (first
    | (refine wpList_store_row rfl 50 (.tmp 5) (.tmp 10) rfl w1.heap.size cs2 rfl rfl 50 _ (heap_alloc_new _ _) HSI.out HSS.out HONE.out ?_; rw [World.setRow_alloc_new, HW2.out]; simp only [Act.put, setIfInBounds_toArray, set_cons_zero, set_cons_succ])
    | (refine wpList_load_midA rfl 50 (.tmp 5) rfl w1.heap.size 0 rfl cs2 _ (HRG2.out _ (Below.refl _ _)) Try.underlying50 rfl HSL.out ?_; simp only [Act.put, setIfInBounds_toArray, set_cons_zero, set_cons_succ]))
  refine (HRT2.out _).mono ?_
  rintro e w3 ⟨rfl, hb⟩
  have BB := Lib.hid hb
  have q0 := (I2.out.below hb).cell 0
  have q1 := (I2.out.below hb).cell 1
  have q2 := (I2.out.below hb).cell 2
  have q3 := (I2.out.below hb).cell 3
  simp at q0 q1 q2 q3
  clear hb
  go_wp2_with fail
  refine (HRI.out _).mono ?_
  rintro e w4 ⟨he, hb⟩
  rw [HCO.out] at he
  subst he
  have BB4 := Lib.hid (ch0 BB.out hb)
  have p0 := (I2.out.below BB4.out).cell 0
  have p1 := (I2.out.below BB4.out).cell 1
  have p2 := (I2.out.below BB4.out).cell 2
  have p3 := (I2.out.below BB4.out).cell 3
  simp at p0 p1 p2 p3
  clear hb q0 q1 q2 q3
  go_wp2_with fail
  have hS : (fun w' => w'.rangeAt w1.heap.size 0 cs2.toList ∧ w'.cell? ⟨w.heap.size, 0, none⟩ = some (.int .u8 23) ∧ w'.cell? ⟨w.heap.size, 1, none⟩ = some (.int .i64 d) ∧ w'.cell? ⟨w.heap.size, 2, none⟩ = some (.int .i64 n) ∧ w'.cell? ⟨w.heap.size, 3, none⟩ = some (.int .i64 (k : Int))) w4.drew := ⟨HRG2.out _ (BB4.out.drew), by have := (I2.out.below (BB4.out.drew)).cell 0; simpa using this, by have := (I2.out.below (BB4.out.drew)).cell 1; simpa using this, by have := (I2.out.below (BB4.out.drew)).cell 2; simpa using this, by have := (I2.out.below (BB4.out.drew)).cell 3; simpa using this⟩
  refine wp_region_held_drew (S := fun w' => w'.rangeAt w1.heap.size 0 cs2.toList ∧ w'.cell? ⟨w.heap.size, 0, none⟩ = some (.int .u8 23) ∧ w'.cell? ⟨w.heap.size, 1, none⟩ = some (.int .i64 d) ∧ w'.cell? ⟨w.heap.size, 2, none⟩ = some (.int .i64 n) ∧ w'.cell? ⟨w.heap.size, 3, none⟩ = some (.int .i64 (k : Int))) (by kernel_rfl) hS (fun hHeld => ?_)
  refine wpAnyH_takeD (i := 0) (d := 20) (oi := _) (v := .agg cs2) rfl rfl (by kernel_rfl) (by kernel_rfl) (by kernel_rfl) (fun _ _ _ h => h) (yieldsIf_load_mid (by rfl) 50 (.tmp 5) rfl w1.heap.size 0 rfl cs2.toList _ (fun w hS => hS.1) Try.underlying50 rfl HSL.out) (by assumption) ?_
  simp only [Act.put, setIfInBounds_toArray, set_cons_zero, set_cons_succ]
  refine wpAnyH_takeD (i := 1) (d := 21) (oi := _) (v := ?_) rfl rfl (by kernel_rfl) (by kernel_rfl) (by kernel_rfl) (fun _ _ _ h => h) (Or.inl ⟨by rfl, ?_⟩) (by assumption) ?_
  rotate_left
  · (intro w hSw; (try dsimp only at hSw); go_simp) <;> with_reducible rfl
  simp only [Act.put, setIfInBounds_toArray, set_cons_zero, set_cons_succ]
  refine wpAnyH_takeD (i := 2) (d := 22) (oi := _) (v := ?_) rfl rfl (by kernel_rfl) (by kernel_rfl) (by kernel_rfl) (fun _ _ _ h => h) (Or.inl ⟨by rfl, ?_⟩) (by assumption) ?_
  rotate_left
  · (intro w hSw; (try dsimp only at hSw); go_simp) <;> with_reducible rfl
  simp only [Act.put, setIfInBounds_toArray, set_cons_zero, set_cons_succ]
  refine wpAnyH_takeD (i := 3) (d := 23) (oi := _) (v := ?_) rfl rfl (by kernel_rfl) (by kernel_rfl) (by kernel_rfl) (fun _ _ _ h => h) (Or.inl ⟨by rfl, ?_⟩) (by assumption) ?_
  rotate_left
  · (intro w hSw; (try dsimp only at hSw); go_simp) <;> with_reducible rfl
  simp only [Act.put, setIfInBounds_toArray, set_cons_zero, set_cons_succ]
  refine wpAnyH_takeD (i := 4) (d := 24) (oi := _) (v := ?_) rfl rfl (by kernel_rfl) (by kernel_rfl) (by kernel_rfl) (fun _ _ _ h => h) (Or.inl ⟨by rfl, ?_⟩) (by assumption) ?_
  rotate_left
  · (intro w hSw; (try dsimp only at hSw); go_simp) <;> with_reducible rfl
  simp only [Act.put, setIfInBounds_toArray, set_cons_zero, set_cons_succ]
  refine wpAnyH_takeD (i := 6) (d := 26) (oi := _) (v := .agg cs2) rfl rfl (by kernel_rfl) (by kernel_rfl) (by kernel_rfl) (fun _ _ _ h => h) (yieldsIf_load_mid (by rfl) 50 (.tmp 5) rfl w1.heap.size 0 rfl cs2.toList _ (fun w hS => hS.1) Try.underlying50 rfl HSL.out) (by assumption) ?_
  simp only [Act.put, setIfInBounds_toArray, set_cons_zero, set_cons_succ]
  refine wpAnyH_takeD (i := 7) (d := 27) (oi := _) (v := ?_) rfl rfl (by kernel_rfl) (by kernel_rfl) (by kernel_rfl) (fun _ _ _ h => h) (Or.inl ⟨by rfl, ?_⟩) (by assumption) ?_
  rotate_left
  · (intro w hSw; (try dsimp only at hSw); go_simp) <;> with_reducible rfl
  simp only [Act.put, setIfInBounds_toArray, set_cons_zero, set_cons_succ]
  refine wpAnyH_takeD (i := 8) (d := 28) (oi := _) (v := ?_) rfl rfl (by kernel_rfl) (by kernel_rfl) (by kernel_rfl) (fun _ _ _ h => h) (Or.inl ⟨by rfl, ?_⟩) (by assumption) ?_
  rotate_left
  · (intro w hSw; (try dsimp only at hSw); go_simp) <;> with_reducible rfl
  simp only [Act.put, setIfInBounds_toArray, set_cons_zero, set_cons_succ]
  refine wpAnyH_takeD (i := 9) (d := 29) (oi := _) (v := ?_) rfl rfl (by kernel_rfl) (by kernel_rfl) (by kernel_rfl) (fun _ _ _ h => h) (Or.inl ⟨by rfl, ?_⟩) (by assumption) ?_
  rotate_left
  · (intro w hSw; (try dsimp only at hSw); go_simp) <;> with_reducible rfl
  simp only [Act.put, setIfInBounds_toArray, set_cons_zero, set_cons_succ]
  refine wpAnyH_takeD (i := 10) (d := 30) (oi := _) (v := ?_) rfl rfl (by kernel_rfl) (by kernel_rfl) (by kernel_rfl) (fun _ _ _ h => h) (Or.inl ⟨by rfl, ?_⟩) (by assumption) ?_
  rotate_left
  · (intro w hSw; (try dsimp only at hSw); go_simp) <;> with_reducible rfl
  simp only [Act.put, setIfInBounds_toArray, set_cons_zero, set_cons_succ]
  refine wpAnyH_ready (rs := [5]) (by kernel_rfl) (by simp) ?_
  refine AllReadyH.cons (o := _) rfl (fun K hK => ?_) AllReadyH.nil
  go_simp
  refine (HVR.out _ (BB4.out.drew) n HN7.out).mono ?_
  rintro e w5 ⟨rfl, hb⟩
  have BB5 := Lib.hid (ch0 BB4.out.drew hb)
  clear hb
  go_wp2_with fail
  refine hK.out _ _ ⟨HRG2.out _ BB5.out, by have := (I2.out.below BB5.out).cell 0; simpa using this, by have := (I2.out.below BB5.out).cell 1; simpa using this, by have := (I2.out.below BB5.out).cell 2; simpa using this, by have := (I2.out.below BB5.out).cell 3; simpa using this⟩ (fun hHeld => ?_)
  clear hK K
  try simp only [Act.put, setIfInBounds_toArray, set_cons_zero, set_cons_succ]
  refine wpAnyH_ready (rs := [11]) (by kernel_rfl) (by simp) ?_
  refine AllReadyH.cons (o := _) rfl (fun K hK => ?_) AllReadyH.nil
  go_simp
  refine (HVR.out _ BB5.out d (by have := HD7.out; omega)).mono ?_
  rintro e w6 ⟨rfl, hb⟩
  have BB6 := Lib.hid (ch0 BB5.out hb)
  clear hb
  go_wp2_with fail
  refine hK.out _ _ ⟨HRG2.out _ BB6.out, by have := (I2.out.below BB6.out).cell 0; simpa using this, by have := (I2.out.below BB6.out).cell 1; simpa using this, by have := (I2.out.below BB6.out).cell 2; simpa using this, by have := (I2.out.below BB6.out).cell 3; simpa using this⟩ (fun hHeld => ?_)
  clear hK K
  try simp only [Act.put, setIfInBounds_toArray, set_cons_zero, set_cons_succ]
  refine wpAnyH_takeD (i := 12) (d := 6) (oi := _) (v := ?_) rfl rfl (by kernel_rfl) (by kernel_rfl) (by kernel_rfl) (fun _ _ _ h => h) (Or.inl ⟨by rfl, ?_⟩) (by assumption) ?_
  rotate_left
  · (intro w hSw; (try dsimp only at hSw); go_simp) <;> with_reducible rfl
  simp only [Act.put, setIfInBounds_toArray, set_cons_zero, set_cons_succ]
  refine wpAnyH_takeD (i := 13) (d := 7) (oi := _) (v := ?_) rfl rfl (by kernel_rfl) (by kernel_rfl) (by kernel_rfl) (fun _ _ _ h => h) (Or.inl ⟨by rfl, ?_⟩) (by assumption) ?_
  rotate_left
  · (intro w hSw; (try dsimp only at hSw); go_simp) <;> with_reducible rfl
  simp only [Act.put, setIfInBounds_toArray, set_cons_zero, set_cons_succ]
  refine wpAnyH_done (by kernel_rfl) ?_ _
  obtain ⟨_, p0, p1, p2, p3⟩ := hHeld
  have HV6 := Lib.hid (HVM.out.below BB6.out)
  have R6 := Lib.hid (R2.out.below BB6.out)
  have F6 := Lib.hid (ch0 B2.out BB6.out)
  have ey : operV d (k : Int) s = getP d s := by unfold operV; rw [if_neg (by have := HD7.out; omega)]
  have EY := Lib.hid ey
  have gsz := HV6.out.box.lt
  clear ey
  obtain ⟨hx1, hx2⟩ := r_at HOK.out.m k hk
  have cx := HV6.out.box.cr hx1
  have fx := HV6.out.box.fz (5 + k)
  have c0 := HV6.out.box.c0
  clear hx1 hx2
  have hlen := doV_len 23 d n (k : Int) s
  have hend : EndB (doV 23 d n (k : Int) s) w1.heap.size w (w6.setCell ⟨w1.heap.size, 5 + k, none⟩ (.int .u32 s.m.a)) := by
    have hvx : Vm (w6.setCell ⟨w1.heap.size, 5 + k, none⟩ (.int .u32 s.m.a)) w1.heap.size gh gm (doV 23 d n (k : Int) s) d1 d2 := HV6.out.reg (5 + k) _ { s.m with r := s.m.r.set k s.m.a } ⟨HOK.out.m.a, HOK.out.m.b, HOK.out.m.c, HOK.out.m.d, (by rw [List.length_set]; exact HOK.out.m.len), mem_set HOK.out.m.r HOK.out.m.a⟩ (fun _ _ => Mc.set_r _ _ _ _ (by rw [HOK.out.m.len]; omega))
    have hfx : Frm (Sg w1.heap.size gh gm) w6 (w6.setCell ⟨w1.heap.size, 5 + k, none⟩ (.int .u32 s.m.a)) := Frm.setCell (S := Sg w1.heap.size gh gm) (p := ⟨w1.heap.size, 5 + k, none⟩) (Frm.refl _ _) (fun _ => .inl rfl) _
    have hgh := HGH.out
    have hgm := HGM.out
    have hs1 := HS1.out
    have hbel : Below (w.heap.size + 3) w6 (w6.setCell ⟨w1.heap.size, 5 + k, none⟩ (.int .u32 s.m.a)) := hfx.to_below (by omega) (fun k hk => by rcases hk with rfl | rfl | rfl <;> omega)
    exact ⟨_, _, hvx.box, .inr ⟨gh, d1, by rw [List.length_map], by rw [List.length_map, hlen.1]; exact HC1.out, hgh, hvx.hrow⟩, .inr ⟨gm, d2, by rw [List.length_map], by rw [List.length_map, hlen.2]; exact HC2.out, hgm, hvx.mrow⟩, R6.out.frm hfx (fun h => by rcases h with h | h | h <;> omega), F6.out.trans (hbel.mono (by omega))⟩
  obtain ⟨u1, u2, hmb, hr1, hr2, hz2, hlow⟩ := hend
  obtain ⟨l2, hl2, hrgx, j1, j2, j3, j4, j5⟩ := hmb.info hr1.one hr2.one
  have HL2 := Lib.hid hl2
  have HRGX := Lib.hid hrgx
  have HJ1 := Lib.hid j1
  have HJ2 := Lib.hid j2
  have HJ3 := Lib.hid j3
  have HJ5 := Lib.hid j5
  have HR1 := Lib.hid hr1
  have HR2 := Lib.hid hr2
  have HZ2 := Lib.hid hz2
  have HLOW := Lib.hid hlow
  clear hmb hr1 hr2 hz2 hlow hl2 hrgx j1 j2 j3 j4 j5 hlen
  go_wp2_with (first
    | (refine wpList_load_mid rfl 50 (.tmp 5) rfl w1.heap.size 0 rfl _ _ HRGX.out Try.underlying50 rfl HJ1.out ?_)
    | (refine wpList_store_row rfl 50 (.tmp 4) (.tmp 171) rfl (w.heap.size + 2) l2.toArray rfl rfl 50 _ HZ2.out HJ2.out HJ3.out HJ5.out ?_))
  have hf := frm_setRow (w6.setCell ⟨w1.heap.size, 5 + k, none⟩ (.int .u32 s.m.a)) (w.heap.size + 2) l2.toArray
  have hM : IsMachR (doV 23 d n (k : Int) s) w (.returned (.agg l2.toArray)) ((w6.setCell ⟨w1.heap.size, 5 + k, none⟩ (.int .u32 s.m.a)).setRow (w.heap.size + 2) l2.toArray) := ⟨⟨u1, u2, by rw [HL2.out], (HR1.out.frm hf (fun k hk => by omega)).base (by omega), (HR2.out.frm hf (fun k hk => by omega)).base (by omega)⟩, HLOW.out.trans (hf.to_below HLOW.out.size (fun k hk => by omega))⟩
  exact bodyPost_ret (v := .agg l2.toArray) (results_cell_row rfl _ _ (w.heap.size + 2) 50 l2.toArray _ _ rfl (blk_setRow HZ2.out l2.toArray) Try.underlying50 rfl HJ2.out) rfl hM
end Go.Proofs.Ytebmgladdgmmeaa
