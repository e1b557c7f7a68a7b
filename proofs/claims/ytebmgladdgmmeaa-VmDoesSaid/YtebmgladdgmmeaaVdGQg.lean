/- Do, of the reference: walks. Condition: memories of at most 5000 places. -/
import Derived.Test.YtebmgladdgmmeaaVdGQd
import Derived.Test.YtebmgladdgmmeaaVdGQb
import Derived.Test.YtebmgladdgmmeaaVdHeld
import Derived.Test.YtebmgladdgmmeaaVdGQe
import Derived.BigRegion
namespace Go.Proofs.Ytebmgladdgmmeaa
open Go.RowKit Go.WideShapes
open List (setIfInBounds_toArray set_cons_zero set_cons_succ)
set_option linter.unusedVariables false
set_option linter.unusedSimpArgs false
set_option maxRecDepth 100000 in
set_option maxHeartbeats 8000000 in
theorem do27_24 (d n v : Int) (s : St) (hm : s.m.ok) (hw : Wds s.hs) (mo : Oct s.ms) (Ah Am : Option Addr) (ch cm nh nm : Nat) (w : World) (hnh : nh = s.hs.length) (hnm : nm = s.ms.length) (hh : Rd w Ah (s.hs.map (.int .u32))) (hmr : Rd w Am (s.ms.map (.int .u8))) (lh : nh ≤ 5000) (lm : nm ≤ 5000) (hok : s.ok) (hri : rightI ⟨24, d, n, v⟩ = true) :
    Calls Try.prog 27 #[.agg #[.int .u8 24, .int .i64 d, .int .i64 n, .int .i64 v], .agg (s.m.cells (.slice Ah nh ch) (.slice Am nm cm))] w (IsMachR (doV 24 d n v s) w) := by
  have HO0 : (0 : Int) ≤ 24 := by decide
  subst hnh hnm
  have hz := (zero_of_info zero50).1
  have bx := MBox.new hm (w.alloc (.cells #[.int .u8 24, .int .i64 d, .int .i64 n, .int .i64 v] 31)) (.slice Ah s.hs.length ch) (.slice Am s.ms.length cm)
  rw [World.size_alloc] at bx
  have b0 := (((Blk.new w 31 #[.int .u8 24, .int .i64 d, .int .i64 n, .int .i64 v]).alloc (.cells (s.m.cells (.slice Ah s.hs.length ch) (.slice Am s.ms.length cm)) 50)).alloc (.cells zCells 50))
  have bb := bx.below ((Below.refl _ _).alloc (Nat.le_refl _) (.cells zCells 50))
  have br := Blk.new ((w.alloc (.cells #[.int .u8 24, .int .i64 d, .int .i64 n, .int .i64 v] 31)).alloc (.cells (s.m.cells (.slice Ah s.hs.length ch) (.slice Am s.ms.length cm)) 50)) 50 zCells
  rw [World.size_alloc, World.size_alloc] at br
  have hb3 : Below w.heap.size w (((w.alloc (.cells #[.int .u8 24, .int .i64 d, .int .i64 n, .int .i64 v] 31)).alloc (.cells (s.m.cells (.slice Ah s.hs.length ch) (.slice Am s.ms.length cm)) 50)).alloc (.cells zCells 50)) := (((Below.refl _ _).alloc (Nat.le_refl _) _).alloc (by simp) _).alloc (by simp; omega) _
  have hcp := copyMach_any s.m hm s.hs s.ms Ah Am ch cm s.hs.length s.ms.length _ rfl rfl (hh.below hb3 rfl) (hmr.below hb3 rfl) (by omega) (by omega)
  have i1 : (Try.prog.info? 50).map (·.size) = some (s.m.cells (.slice Ah s.hs.length ch) (.slice Am s.ms.length cm)).toList.length := by
    have h := Mc.size hm (.slice Ah s.hs.length ch) (.slice Am s.ms.length cm)
    rw [Array.length_toList, h]
    exact size50
  have hrg := bb.range
  obtain ⟨cs, hcs⟩ : ∃ x, s.m.cells (.slice Ah s.hs.length ch) (.slice Am s.ms.length cm) = x := ⟨_, rfl⟩
  have hcl : s.m.list (.slice Ah s.hs.length ch) (.slice Am s.ms.length cm) = cs.toList := by rw [← hcs]; rfl
  rw [hcs] at hcp b0 bb br hb3 i1 hrg ⊢
  rw [hcl] at hrg
  obtain ⟨W0, hW0⟩ : ∃ x, (((w.alloc (.cells #[.int .u8 24, .int .i64 d, .int .i64 n, .int .i64 v] 31)).alloc (.cells cs 50)).alloc (.cells zCells 50)) = x := ⟨_, rfl⟩
  have hsz : W0.heap.size = w.heap.size + 3 := by rw [← hW0]; simp
  rw [hW0] at hcp b0 bb br hrg hb3
  have HCP := Lib.hid hcp
  have HB0 := Lib.hid b0
  have HBR := Lib.hid br
  have HRG := Lib.hid hrg
  have HB3 := Lib.hid hb3
  have HI1 := Lib.hid i1
  have HM := Lib.hid hm
  have HSZ := Lib.hid hsz
  have HOK := Lib.hid hok
  have HRE := Lib.hid hri
  have HCO : Hid (codeI ⟨24, d, n, v⟩ = 0) := Lib.hid (by unfold codeI; rw [hri]; rfl)
  have HRI := Lib.hid (fun W => right15 ⟨24, d, n, v⟩ W HO0)
  have HRT := Lib.hid (fun A c B e W => right_ref s.m hm A B s.hs.length c s.ms.length e W)
  have HRM := Lib.hid hok.right
  obtain ⟨hd7, hn7, hv7⟩ := right_in hri
  have HD7 := Lib.hid hd7
  have HN7 := Lib.hid hn7
  clear hcp b0 bb br hrg hb3 i1 bx hcs hcl hh hmr hm hw mo hsz hok hri hd7 hn7 hv7
  go_enter Try.func27, Try.ntmps27
  go_wp2_with (refine wpList_load_midA rfl 50 (.tmp 3) rfl (w.heap.size + 1) 0 rfl cs _ HRG.out Try.underlying50 rfl HI1.out ?_; simp only [Act.put, setIfInBounds_toArray, set_cons_zero, set_cons_succ])
  refine HCP.out.mono ?_
  rintro e w1 ⟨⟨A1, d1, A2, d2, rfl, hd1, hd2, ho1, ho2⟩, hl1⟩
  rw [HSZ.out] at ho1 ho2
  obtain ⟨gh, c1, e1, hc1, hgh, hra⟩ := (OwnR.of_own ho1).at (by rw [List.length_map]; exact pow_pos HOK.out.p8)
  obtain ⟨gm, c2, e2, hc2, hgm, hrb⟩ := (OwnR.of_own ho2).at (by rw [List.length_map]; exact pow_pos HOK.out.p12)
  rw [List.length_map] at e1 e2 hc1 hc2
  injection e1 with e1 _ f1
  injection e2 with e2 _ f2
  subst e1 e2 f1 f2
  have hsz1 : w.heap.size + 3 ≤ w1.heap.size := by have := hl1.size; have := HSZ.out; omega
  have hvm : Vm (w1.alloc (.cells (s.m.cells (.slice (some ⟨gh, 0, none⟩) s.hs.length d1) (.slice (some ⟨gm, 0, none⟩) s.ms.length d2)) 50)) w1.heap.size gh gm s d1 d2 := ⟨MBox.new HM.out w1 _ _, hra.below ((Below.refl _ _).alloc (Nat.le_refl _) _), hrb.below ((Below.refl _ _).alloc (Nat.le_refl _) _), HOK.out⟩
  have k1 : (s.m.cells (.slice (some ⟨gh, 0, none⟩) s.hs.length d1) (.slice (some ⟨gm, 0, none⟩) s.ms.length d2)).size = 263 := Mc.size HM.out _ _
  have hzz : zCells.size = 263 := Mc.size zM_ok _ _
  have B2 := Lib.hid ((HB3.out.trans (hl1.mono (by have := HB3.out.size; omega))).alloc (by have := HB3.out.size; have := hl1.size; omega) (.cells (s.m.cells (.slice (some ⟨gh, 0, none⟩) s.hs.length d1) (.slice (some ⟨gm, 0, none⟩) s.ms.length d2)) 50))
  have I2 := Lib.hid ((HB0.out.below hl1).alloc (.cells (s.m.cells (.slice (some ⟨gh, 0, none⟩) s.hs.length d1) (.slice (some ⟨gm, 0, none⟩) s.ms.length d2)) 50))
  have R2 := Lib.hid ((HBR.out.below hl1).alloc (.cells (s.m.cells (.slice (some ⟨gh, 0, none⟩) s.hs.length d1) (.slice (some ⟨gm, 0, none⟩) s.ms.length d2)) 50))
  have one : (s.m.cells (.slice (some ⟨gh, 0, none⟩) s.hs.length d1) (.slice (some ⟨gm, 0, none⟩) s.ms.length d2)).all (·.oneCell') = true := Mc.one rfl rfl
  obtain ⟨cs2, hcs2⟩ : ∃ x, s.m.cells (.slice (some ⟨gh, 0, none⟩) s.hs.length d1) (.slice (some ⟨gm, 0, none⟩) s.ms.length d2) = x := ⟨_, rfl⟩
  have hvr : ∀ W, Below (w1.alloc (.cells (s.m.cells (.slice (some ⟨gh, 0, none⟩) s.hs.length d1) (.slice (some ⟨gm, 0, none⟩) s.ms.length d2)) 50)).heap.size (w1.alloc (.cells (s.m.cells (.slice (some ⟨gh, 0, none⟩) s.hs.length d1) (.slice (some ⟨gm, 0, none⟩) s.ms.length d2)) 50)) W → ∀ p, 0 ≤ p ∧ p ≤ 7 → Calls Try.prog 58 #[.agg (s.m.cells (.slice (some ⟨gh, 0, none⟩) s.hs.length d1) (.slice (some ⟨gm, 0, none⟩) s.ms.length d2)), .int .i64 p, .int .i64 v] W (Quiet (.int .u32 (operV p v s)) W) := fun W hW p hp => at58 p v hp ⟨(hvm.below hW).hrow.rd, (hvm.below hW).mrow.rd, HOK.out⟩
  have hrt := fun W => HRT.out (some ⟨gh, 0, none⟩) d1 (some ⟨gm, 0, none⟩) d2 W
  rw [HRM.out] at hrt
  rw [hcs2] at hvm k1 one hvr B2 I2 R2 ⊢
  simp only [hcs2] at hrt
  obtain ⟨W2, hW2⟩ : ∃ x, w1.alloc (.cells cs2 50) = x := ⟨_, rfl⟩
  rw [hW2] at hvm hvr B2 I2 R2
  have hrg2 : ∀ W, Below W2.heap.size W2 W → W.rangeAt w1.heap.size 0 cs2.toList := fun W hW j u hu => by
    rw [Nat.zero_add, (hvm.below hW).box.blk.cell j, hcs2]
    simpa using hu
  have HVM := Lib.hid hvm
  have HVR := Lib.hid hvr
  have HRT2 := Lib.hid hrt
  have HRG2 := Lib.hid hrg2
  have HCS2 := Lib.hid hcs2
  have HSI : Hid ((Try.prog.info? 50).map (·.size) = some cs2.size) := Lib.hid (by rw [k1]; exact size50)
  have HSL : Hid ((Try.prog.info? 50).map (·.size) = some cs2.toList.length) := Lib.hid (by rw [Array.length_toList, k1]; exact size50)
  have HSS : Hid (zCells.size = cs2.size) := Lib.hid (by rw [k1, hzz])
  have HONE := Lib.hid one
  have HW2 := Lib.hid hW2
  have HGH := Lib.hid hgh
  have HGM := Lib.hid hgm
  have HS1 := Lib.hid hsz1
  have HC1 := Lib.hid hc1
  have HC2 := Lib.hid hc2
  clear hl1 ho1 ho2 hra hrb hvm hvr hrt hrg2 hcs2 k1 hzz one hd1 hd2
  go_wp2_with (first
    | (refine wpList_store_row rfl 50 (.tmp 5) (.tmp 10) rfl w1.heap.size cs2 rfl rfl 50 _ (heap_alloc_new _ _) HSI.out HSS.out HONE.out ?_; rw [World.setRow_alloc_new, HW2.out]; simp only [Act.put, setIfInBounds_toArray, set_cons_zero, set_cons_succ])
    | (refine wpList_load_midA rfl 50 (.tmp 5) rfl w1.heap.size 0 rfl cs2 _ (HRG2.out _ (Below.refl _ _)) Try.underlying50 rfl HSL.out ?_; simp only [Act.put, setIfInBounds_toArray, set_cons_zero, set_cons_succ]))
  refine (HRT2.out _).mono ?_
  rintro e w3 ⟨rfl, hb⟩
  have BB := Lib.hid hb
  have q0 := (I2.out.below hb).cell 0
  have q1 := (I2.out.below hb).cell 1
  have q2 := (I2.out.below hb).cell 2
  have q3 := (I2.out.below hb).cell 3
  simp at q0 q1 q2 q3
  clear hb
  go_wp2_with fail
  refine (HRI.out _).mono ?_
  rintro e w4 ⟨he, hb⟩
  rw [HCO.out] at he
  subst he
  have BB4 := Lib.hid (ch0 BB.out hb)
  have p0 := (I2.out.below BB4.out).cell 0
  have p1 := (I2.out.below BB4.out).cell 1
  have p2 := (I2.out.below BB4.out).cell 2
  have p3 := (I2.out.below BB4.out).cell 3
  simp at p0 p1 p2 p3
  clear hb q0 q1 q2 q3
  go_wp2_with fail
  have hS : (fun w' => w'.rangeAt w1.heap.size 0 cs2.toList ∧ w'.cell? ⟨w.heap.size, 0, none⟩ = some (.int .u8 24) ∧ w'.cell? ⟨w.heap.size, 1, none⟩ = some (.int .i64 d) ∧ w'.cell? ⟨w.heap.size, 2, none⟩ = some (.int .i64 n) ∧ w'.cell? ⟨w.heap.size, 3, none⟩ = some (.int .i64 v)) w4.drew := ⟨HRG2.out _ (BB4.out.drew), by have := (I2.out.below (BB4.out.drew)).cell 0; simpa using this, by have := (I2.out.below (BB4.out.drew)).cell 1; simpa using this, by have := (I2.out.below (BB4.out.drew)).cell 2; simpa using this, by have := (I2.out.below (BB4.out.drew)).cell 3; simpa using this⟩
  refine wp_region_held_drew (S := fun w' => w'.rangeAt w1.heap.size 0 cs2.toList ∧ w'.cell? ⟨w.heap.size, 0, none⟩ = some (.int .u8 24) ∧ w'.cell? ⟨w.heap.size, 1, none⟩ = some (.int .i64 d) ∧ w'.cell? ⟨w.heap.size, 2, none⟩ = some (.int .i64 n) ∧ w'.cell? ⟨w.heap.size, 3, none⟩ = some (.int .i64 v)) (by kernel_rfl) hS (fun hHeld => ?_)
  refine wpAnyH_takeD (i := 0) (d := 20) (oi := _) (v := .agg cs2) rfl rfl (by kernel_rfl) (by kernel_rfl) (by kernel_rfl) (fun _ _ _ h => h) (yieldsIf_load_mid (by rfl) 50 (.tmp 5) rfl w1.heap.size 0 rfl cs2.toList _ (fun w hS => hS.1) Try.underlying50 rfl HSL.out) (by assumption) ?_
  simp only [Act.put, setIfInBounds_toArray, set_cons_zero, set_cons_succ]
  refine wpAnyH_takeD (i := 1) (d := 21) (oi := _) (v := ?_) rfl rfl (by kernel_rfl) (by kernel_rfl) (by kernel_rfl) (fun _ _ _ h => h) (Or.inl ⟨by rfl, ?_⟩) (by assumption) ?_
  rotate_left
  · (intro w hSw; (try dsimp only at hSw); go_simp) <;> with_reducible rfl
  simp only [Act.put, setIfInBounds_toArray, set_cons_zero, set_cons_succ]
  refine wpAnyH_takeD (i := 2) (d := 22) (oi := _) (v := ?_) rfl rfl (by kernel_rfl) (by kernel_rfl) (by kernel_rfl) (fun _ _ _ h => h) (Or.inl ⟨by rfl, ?_⟩) (by assumption) ?_
  rotate_left
  · (intro w hSw; (try dsimp only at hSw); go_simp) <;> with_reducible rfl
  simp only [Act.put, setIfInBounds_toArray, set_cons_zero, set_cons_succ]
  refine wpAnyH_takeD (i := 3) (d := 23) (oi := _) (v := ?_) rfl rfl (by kernel_rfl) (by kernel_rfl) (by kernel_rfl) (fun _ _ _ h => h) (Or.inl ⟨by rfl, ?_⟩) (by assumption) ?_
  rotate_left
  · (intro w hSw; (try dsimp only at hSw); go_simp) <;> with_reducible rfl
  simp only [Act.put, setIfInBounds_toArray, set_cons_zero, set_cons_succ]
  refine wpAnyH_takeD (i := 4) (d := 24) (oi := _) (v := ?_) rfl rfl (by kernel_rfl) (by kernel_rfl) (by kernel_rfl) (fun _ _ _ h => h) (Or.inl ⟨by rfl, ?_⟩) (by assumption) ?_
  rotate_left
  · (intro w hSw; (try dsimp only at hSw); go_simp) <;> with_reducible rfl
  simp only [Act.put, setIfInBounds_toArray, set_cons_zero, set_cons_succ]
  refine wpAnyH_takeD (i := 6) (d := 26) (oi := _) (v := .agg cs2) rfl rfl (by kernel_rfl) (by kernel_rfl) (by kernel_rfl) (fun _ _ _ h => h) (yieldsIf_load_mid (by rfl) 50 (.tmp 5) rfl w1.heap.size 0 rfl cs2.toList _ (fun w hS => hS.1) Try.underlying50 rfl HSL.out) (by assumption) ?_
  simp only [Act.put, setIfInBounds_toArray, set_cons_zero, set_cons_succ]
  refine wpAnyH_takeD (i := 7) (d := 27) (oi := _) (v := ?_) rfl rfl (by kernel_rfl) (by kernel_rfl) (by kernel_rfl) (fun _ _ _ h => h) (Or.inl ⟨by rfl, ?_⟩) (by assumption) ?_
  rotate_left
  · (intro w hSw; (try dsimp only at hSw); go_simp) <;> with_reducible rfl
  simp only [Act.put, setIfInBounds_toArray, set_cons_zero, set_cons_succ]
  refine wpAnyH_takeD (i := 8) (d := 28) (oi := _) (v := ?_) rfl rfl (by kernel_rfl) (by kernel_rfl) (by kernel_rfl) (fun _ _ _ h => h) (Or.inl ⟨by rfl, ?_⟩) (by assumption) ?_
  rotate_left
  · (intro w hSw; (try dsimp only at hSw); go_simp) <;> with_reducible rfl
  simp only [Act.put, setIfInBounds_toArray, set_cons_zero, set_cons_succ]
  refine wpAnyH_takeD (i := 9) (d := 29) (oi := _) (v := ?_) rfl rfl (by kernel_rfl) (by kernel_rfl) (by kernel_rfl) (fun _ _ _ h => h) (Or.inl ⟨by rfl, ?_⟩) (by assumption) ?_
  rotate_left
  · (intro w hSw; (try dsimp only at hSw); go_simp) <;> with_reducible rfl
  simp only [Act.put, setIfInBounds_toArray, set_cons_zero, set_cons_succ]
  refine wpAnyH_takeD (i := 10) (d := 30) (oi := _) (v := ?_) rfl rfl (by kernel_rfl) (by kernel_rfl) (by kernel_rfl) (fun _ _ _ h => h) (Or.inl ⟨by rfl, ?_⟩) (by assumption) ?_
  rotate_left
  · (intro w hSw; (try dsimp only at hSw); go_simp) <;> with_reducible rfl
  simp only [Act.put, setIfInBounds_toArray, set_cons_zero, set_cons_succ]
  refine wpAnyH_ready (rs := [5]) (by kernel_rfl) (by simp) ?_
  refine AllReadyH.cons (o := _) rfl (fun K hK => ?_) AllReadyH.nil
  go_simp
  refine (HVR.out _ (BB4.out.drew) n HN7.out).mono ?_
  rintro e w5 ⟨rfl, hb⟩
  have BB5 := Lib.hid (ch0 BB4.out.drew hb)
  clear hb
  go_wp2_with fail
  refine hK.out _ _ ⟨HRG2.out _ BB5.out, by have := (I2.out.below BB5.out).cell 0; simpa using this, by have := (I2.out.below BB5.out).cell 1; simpa using this, by have := (I2.out.below BB5.out).cell 2; simpa using this, by have := (I2.out.below BB5.out).cell 3; simpa using this⟩ (fun hHeld => ?_)
  clear hK K
  try simp only [Act.put, setIfInBounds_toArray, set_cons_zero, set_cons_succ]
  refine wpAnyH_ready (rs := [11]) (by kernel_rfl) (by simp) ?_
  refine AllReadyH.cons (o := _) rfl (fun K hK => ?_) AllReadyH.nil
  go_simp
  refine (HVR.out _ BB5.out d (by have := HD7.out; omega)).mono ?_
  rintro e w6 ⟨rfl, hb⟩
  have BB6 := Lib.hid (ch0 BB5.out hb)
  clear hb
  go_wp2_with fail
  refine hK.out _ _ ⟨HRG2.out _ BB6.out, by have := (I2.out.below BB6.out).cell 0; simpa using this, by have := (I2.out.below BB6.out).cell 1; simpa using this, by have := (I2.out.below BB6.out).cell 2; simpa using this, by have := (I2.out.below BB6.out).cell 3; simpa using this⟩ (fun hHeld => ?_)
  clear hK K
  try simp only [Act.put, setIfInBounds_toArray, set_cons_zero, set_cons_succ]
  refine wpAnyH_takeD (i := 12) (d := 6) (oi := _) (v := ?_) rfl rfl (by kernel_rfl) (by kernel_rfl) (by kernel_rfl) (fun _ _ _ h => h) (Or.inl ⟨by rfl, ?_⟩) (by assumption) ?_
  rotate_left
  · (intro w hSw; (try dsimp only at hSw); go_simp) <;> with_reducible rfl
  simp only [Act.put, setIfInBounds_toArray, set_cons_zero, set_cons_succ]
  refine wpAnyH_takeD (i := 13) (d := 7) (oi := _) (v := ?_) rfl rfl (by kernel_rfl) (by kernel_rfl) (by kernel_rfl) (fun _ _ _ h => h) (Or.inl ⟨by rfl, ?_⟩) (by assumption) ?_
  rotate_left
  · (intro w hSw; (try dsimp only at hSw); go_simp) <;> with_reducible rfl
  simp only [Act.put, setIfInBounds_toArray, set_cons_zero, set_cons_succ]
  refine wpAnyH_done (by kernel_rfl) ?_ _
  obtain ⟨_, p0, p1, p2, p3⟩ := hHeld
  have HV6 := Lib.hid (HVM.out.below BB6.out)
  have R6 := Lib.hid (R2.out.below BB6.out)
  have F6 := Lib.hid (ch0 B2.out BB6.out)
  have ey : operV d v s = getP d s := by unfold operV; rw [if_neg (by have := HD7.out; omega)]
  have EY := Lib.hid ey
  have gsz := HV6.out.box.lt
  clear ey
  have hz58 : ∀ W, Below W2.heap.size W2 W → Calls Try.prog 58 #[.agg cs2, .int .i64 4, .int .i64 0] W (Quiet (.int .u32 (getP 4 s)) W) := fun W hW => by
    have h := at58 (ch := d1) (cm := d2) 4 0 (by omega) (⟨(HVM.out.below hW).hrow.rd, (HVM.out.below hW).mrow.rd, HOK.out⟩ : VRows W gh 0 gm 0 s)
    unfold valVm at h
    rw [HCS2.out] at h
    exact h
  have HZ58 := Lib.hid hz58
  have c0 := HV6.out.box.c0
  have f0 := HV6.out.box.fz 0
  clear hz58
  go_wp2_with fail
  refine wp_region_any (by kernel_rfl) ?_
  try (change wpAny _ _ _ _ _ _ _ (World.drew _))
  refine wpAny_take (i := 0) (v := ?_) rfl (by kernel_rfl) (by kernel_rfl) (by kernel_rfl) (fun _ _ _ h => h) (Or.inl ⟨by rfl, ?_⟩) ?_
  rotate_left
  · (intro w; go_simp) <;> with_reducible rfl
  simp only [Act.put, setIfInBounds_toArray, set_cons_zero, set_cons_succ]
  refine wpAny_ready (rs := [1, 2]) (by kernel_rfl) (by simp) ?_
  refine AllReady.cons rfl (fun K hK => ?_) (AllReady.cons rfl (fun K hK => ?_) AllReady.nil)
  · have HK := Lib.hid hK
    clear hK
    go_simp
    refine HK.out _ _ ?_
    clear HK K
    try simp only [Act.put, setIfInBounds_toArray, set_cons_zero, set_cons_succ]
    refine wpAny_ready (rs := [2]) (by kernel_rfl) (by simp) ?_
    refine AllReady.cons rfl (fun K hK => ?_) AllReady.nil
    have HK := Lib.hid hK
    clear hK
    rw [if_pos (by rfl)]
    refine wp_load_mid 50 (.tmp 5) rfl w1.heap.size 0 rfl cs2.toList _ (HRG2.out _ BB6.out.drew) Try.underlying50 rfl HSL.out ?_
    refine HK.out _ _ ?_
    clear HK K
    try simp only [Act.put, setIfInBounds_toArray, set_cons_zero, set_cons_succ]
    refine wpAny_ready (rs := [3]) (by kernel_rfl) (by simp) ?_
    refine AllReady.cons rfl (fun K hK => ?_) AllReady.nil
    have HK := Lib.hid hK
    clear hK
    go_simp
    refine (HZ58.out _ BB6.out.drew).mono ?_
    rintro e w7 ⟨rfl, hb⟩
    have c7 := (HV6.out.drew.below hb).box.c0
    have f7 := (HV6.out.drew.below hb).box.fz 0
    have BB7 := Lib.hid hb
    clear hb
    go_wp2_with fail
    refine HK.out _ _ ?_
    clear HK K
    try simp only [Act.put, setIfInBounds_toArray, set_cons_zero, set_cons_succ]
    refine wpAny_take (i := 4) (v := ?_) rfl (by kernel_rfl) (by kernel_rfl) (by kernel_rfl) (fun _ _ _ h => h) (Or.inl ⟨by rfl, ?_⟩) ?_
    rotate_left
    · (intro w; go_simp) <;> with_reducible rfl
    simp only [Act.put, setIfInBounds_toArray, set_cons_zero, set_cons_succ]
    refine wpAny_take (i := 5) (v := ?_) rfl (by kernel_rfl) (by kernel_rfl) (by kernel_rfl) (fun _ _ _ h => h) (Or.inl ⟨by rfl, ?_⟩) ?_
    rotate_left
    · (intro w; go_simp) <;> with_reducible rfl
    simp only [Act.put, setIfInBounds_toArray, set_cons_zero, set_cons_succ]
    refine wpAny_take (i := 6) (v := ?_) rfl (by kernel_rfl) (by kernel_rfl) (by kernel_rfl) (fun _ _ _ h => h) (Or.inl ⟨by rfl, ?_⟩) ?_
    rotate_left
    · (intro w; go_simp) <;> with_reducible rfl
    simp only [Act.put, setIfInBounds_toArray, set_cons_zero, set_cons_succ]
    refine wpAny_take (i := 7) (v := ?_) rfl (by kernel_rfl) (by kernel_rfl) (by kernel_rfl) (fun _ _ _ h => h) (Or.inl ⟨by rfl, ?_⟩) ?_
    rotate_left
    · (intro w; go_simp) <;> with_reducible rfl
    simp only [Act.put, setIfInBounds_toArray, set_cons_zero, set_cons_succ]
    refine wpAny_ready (rs := [8]) (by kernel_rfl) (by simp) ?_
    refine AllReady.cons rfl (fun K hK => ?_) AllReady.nil
    have HK := Lib.hid hK
    clear hK
    go_simp
    refine HK.out _ _ ?_
    clear HK K
    try simp only [Act.put, setIfInBounds_toArray, set_cons_zero, set_cons_succ]
    refine wpAny_done (by kernel_rfl) ?_ _
    rw [hash_wrap]
    have hlen := doV_len 24 d n v s
    have hend : EndB (doV 24 d n v s) w1.heap.size w (w7.setCell ⟨w1.heap.size, 0, none⟩ (.int .u32 ((s.m.a + getP 4 s + 512) * 773 % 4294967296))) := by
      have hvx : Vm (w7.setCell ⟨w1.heap.size, 0, none⟩ (.int .u32 ((s.m.a + getP 4 s + 512) * 773 % 4294967296))) w1.heap.size gh gm (doV 24 d n v s) d1 d2 := (HV6.out.drew.below BB7.out).reg 0 _ { s.m with a := (s.m.a + getP 4 s + 512) * 773 % 4294967296 } ⟨mod_range _, HOK.out.m.b, HOK.out.m.c, HOK.out.m.d, HOK.out.m.len, HOK.out.m.r⟩ (fun _ _ => (Mc.set_reg _ _ _).1)
      have hfx : Frm (Sg w1.heap.size gh gm) w6 (w7.setCell ⟨w1.heap.size, 0, none⟩ (.int .u32 ((s.m.a + getP 4 s + 512) * 773 % 4294967296))) := Frm.of_drew (Frm.setCell (S := Sg w1.heap.size gh gm) (p := ⟨w1.heap.size, 0, none⟩) (Frm.of_below BB7.out) (fun _ => .inl rfl) _)
      have hgh := HGH.out
      have hgm := HGM.out
      have hs1 := HS1.out
      have hbel : Below (w.heap.size + 3) w6 (w7.setCell ⟨w1.heap.size, 0, none⟩ (.int .u32 ((s.m.a + getP 4 s + 512) * 773 % 4294967296))) := hfx.to_below (by omega) (fun k hk => by rcases hk with rfl | rfl | rfl <;> omega)
      exact ⟨_, _, hvx.box, .inr ⟨gh, d1, by rw [List.length_map], by rw [List.length_map, hlen.1]; exact HC1.out, hgh, hvx.hrow⟩, .inr ⟨gm, d2, by rw [List.length_map], by rw [List.length_map, hlen.2]; exact HC2.out, hgm, hvx.mrow⟩, R6.out.frm hfx (fun h => by rcases h with h | h | h <;> omega), F6.out.trans (hbel.mono (by omega))⟩
    obtain ⟨u1, u2, hmb, hr1, hr2, hz2, hlow⟩ := hend
    obtain ⟨l2, hl2, hrgx, j1, j2, j3, j4, j5⟩ := hmb.info hr1.one hr2.one
    have HL2 := Lib.hid hl2
    have HRGX := Lib.hid hrgx
    have HJ1 := Lib.hid j1
    have HJ2 := Lib.hid j2
    have HJ3 := Lib.hid j3
    have HJ5 := Lib.hid j5
    have HR1 := Lib.hid hr1
    have HR2 := Lib.hid hr2
    have HZ2 := Lib.hid hz2
    have HLOW := Lib.hid hlow
    clear hmb hr1 hr2 hz2 hlow hl2 hrgx j1 j2 j3 j4 j5 hlen
    go_wp2_with (first
      | (refine wpList_load_mid rfl 50 (.tmp 5) rfl w1.heap.size 0 rfl _ _ HRGX.out Try.underlying50 rfl HJ1.out ?_)
      | (refine wpList_store_row rfl 50 (.tmp 4) (.tmp 171) rfl (w.heap.size + 2) l2.toArray rfl rfl 50 _ HZ2.out HJ2.out HJ3.out HJ5.out ?_))
    have hf := frm_setRow (w7.setCell ⟨w1.heap.size, 0, none⟩ (.int .u32 ((s.m.a + getP 4 s + 512) * 773 % 4294967296))) (w.heap.size + 2) l2.toArray
    have hM : IsMachR (doV 24 d n v s) w (.returned (.agg l2.toArray)) ((w7.setCell ⟨w1.heap.size, 0, none⟩ (.int .u32 ((s.m.a + getP 4 s + 512) * 773 % 4294967296))).setRow (w.heap.size + 2) l2.toArray) := ⟨⟨u1, u2, by rw [HL2.out], (HR1.out.frm hf (fun k hk => by omega)).base (by omega), (HR2.out.frm hf (fun k hk => by omega)).base (by omega)⟩, HLOW.out.trans (hf.to_below HLOW.out.size (fun k hk => by omega))⟩
    exact bodyPost_ret (v := .agg l2.toArray) (results_cell_row rfl _ _ (w.heap.size + 2) 50 l2.toArray _ _ rfl (blk_setRow HZ2.out l2.toArray) Try.underlying50 rfl HJ2.out) rfl hM
  · have HK := Lib.hid hK
    clear hK
    rw [if_pos (by rfl)]
    refine wp_load_mid 50 (.tmp 5) rfl w1.heap.size 0 rfl cs2.toList _ (HRG2.out _ BB6.out.drew) Try.underlying50 rfl HSL.out ?_
    refine HK.out _ _ ?_
    clear HK K
    try simp only [Act.put, setIfInBounds_toArray, set_cons_zero, set_cons_succ]
    refine wpAny_ready (rs := [1, 3]) (by kernel_rfl) (by simp) ?_
    refine AllReady.cons rfl (fun K hK => ?_) (AllReady.cons rfl (fun K hK => ?_) AllReady.nil)
    · have HK := Lib.hid hK
      clear hK
      go_simp
      refine HK.out _ _ ?_
      clear HK K
      try simp only [Act.put, setIfInBounds_toArray, set_cons_zero, set_cons_succ]
      refine wpAny_ready (rs := [3]) (by kernel_rfl) (by simp) ?_
      refine AllReady.cons rfl (fun K hK => ?_) AllReady.nil
      have HK := Lib.hid hK
      clear hK
      go_simp
      refine (HZ58.out _ BB6.out.drew).mono ?_
      rintro e w7 ⟨rfl, hb⟩
      have c7 := (HV6.out.drew.below hb).box.c0
      have f7 := (HV6.out.drew.below hb).box.fz 0
      have BB7 := Lib.hid hb
      clear hb
      go_wp2_with fail
      refine HK.out _ _ ?_
      clear HK K
      try simp only [Act.put, setIfInBounds_toArray, set_cons_zero, set_cons_succ]
      refine wpAny_take (i := 4) (v := ?_) rfl (by kernel_rfl) (by kernel_rfl) (by kernel_rfl) (fun _ _ _ h => h) (Or.inl ⟨by rfl, ?_⟩) ?_
      rotate_left
      · (intro w; go_simp) <;> with_reducible rfl
      simp only [Act.put, setIfInBounds_toArray, set_cons_zero, set_cons_succ]
      refine wpAny_take (i := 5) (v := ?_) rfl (by kernel_rfl) (by kernel_rfl) (by kernel_rfl) (fun _ _ _ h => h) (Or.inl ⟨by rfl, ?_⟩) ?_
      rotate_left
      · (intro w; go_simp) <;> with_reducible rfl
      simp only [Act.put, setIfInBounds_toArray, set_cons_zero, set_cons_succ]
      refine wpAny_take (i := 6) (v := ?_) rfl (by kernel_rfl) (by kernel_rfl) (by kernel_rfl) (fun _ _ _ h => h) (Or.inl ⟨by rfl, ?_⟩) ?_
      rotate_left
      · (intro w; go_simp) <;> with_reducible rfl
      simp only [Act.put, setIfInBounds_toArray, set_cons_zero, set_cons_succ]
      refine wpAny_take (i := 7) (v := ?_) rfl (by kernel_rfl) (by kernel_rfl) (by kernel_rfl) (fun _ _ _ h => h) (Or.inl ⟨by rfl, ?_⟩) ?_
      rotate_left
      · (intro w; go_simp) <;> with_reducible rfl
      simp only [Act.put, setIfInBounds_toArray, set_cons_zero, set_cons_succ]
      refine wpAny_ready (rs := [8]) (by kernel_rfl) (by simp) ?_
      refine AllReady.cons rfl (fun K hK => ?_) AllReady.nil
      have HK := Lib.hid hK
      clear hK
      go_simp
      refine HK.out _ _ ?_
      clear HK K
      try simp only [Act.put, setIfInBounds_toArray, set_cons_zero, set_cons_succ]
      refine wpAny_done (by kernel_rfl) ?_ _
      rw [hash_wrap]
      have hlen := doV_len 24 d n v s
      have hend : EndB (doV 24 d n v s) w1.heap.size w (w7.setCell ⟨w1.heap.size, 0, none⟩ (.int .u32 ((s.m.a + getP 4 s + 512) * 773 % 4294967296))) := by
        have hvx : Vm (w7.setCell ⟨w1.heap.size, 0, none⟩ (.int .u32 ((s.m.a + getP 4 s + 512) * 773 % 4294967296))) w1.heap.size gh gm (doV 24 d n v s) d1 d2 := (HV6.out.drew.below BB7.out).reg 0 _ { s.m with a := (s.m.a + getP 4 s + 512) * 773 % 4294967296 } ⟨mod_range _, HOK.out.m.b, HOK.out.m.c, HOK.out.m.d, HOK.out.m.len, HOK.out.m.r⟩ (fun _ _ => (Mc.set_reg _ _ _).1)
        have hfx : Frm (Sg w1.heap.size gh gm) w6 (w7.setCell ⟨w1.heap.size, 0, none⟩ (.int .u32 ((s.m.a + getP 4 s + 512) * 773 % 4294967296))) := Frm.of_drew (Frm.setCell (S := Sg w1.heap.size gh gm) (p := ⟨w1.heap.size, 0, none⟩) (Frm.of_below BB7.out) (fun _ => .inl rfl) _)
        have hgh := HGH.out
        have hgm := HGM.out
        have hs1 := HS1.out
        have hbel : Below (w.heap.size + 3) w6 (w7.setCell ⟨w1.heap.size, 0, none⟩ (.int .u32 ((s.m.a + getP 4 s + 512) * 773 % 4294967296))) := hfx.to_below (by omega) (fun k hk => by rcases hk with rfl | rfl | rfl <;> omega)
        exact ⟨_, _, hvx.box, .inr ⟨gh, d1, by rw [List.length_map], by rw [List.length_map, hlen.1]; exact HC1.out, hgh, hvx.hrow⟩, .inr ⟨gm, d2, by rw [List.length_map], by rw [List.length_map, hlen.2]; exact HC2.out, hgm, hvx.mrow⟩, R6.out.frm hfx (fun h => by rcases h with h | h | h <;> omega), F6.out.trans (hbel.mono (by omega))⟩
      obtain ⟨u1, u2, hmb, hr1, hr2, hz2, hlow⟩ := hend
      obtain ⟨l2, hl2, hrgx, j1, j2, j3, j4, j5⟩ := hmb.info hr1.one hr2.one
      have HL2 := Lib.hid hl2
      have HRGX := Lib.hid hrgx
      have HJ1 := Lib.hid j1
      have HJ2 := Lib.hid j2
      have HJ3 := Lib.hid j3
      have HJ5 := Lib.hid j5
      have HR1 := Lib.hid hr1
      have HR2 := Lib.hid hr2
      have HZ2 := Lib.hid hz2
      have HLOW := Lib.hid hlow
      clear hmb hr1 hr2 hz2 hlow hl2 hrgx j1 j2 j3 j4 j5 hlen
      go_wp2_with (first
        | (refine wpList_load_mid rfl 50 (.tmp 5) rfl w1.heap.size 0 rfl _ _ HRGX.out Try.underlying50 rfl HJ1.out ?_)
        | (refine wpList_store_row rfl 50 (.tmp 4) (.tmp 171) rfl (w.heap.size + 2) l2.toArray rfl rfl 50 _ HZ2.out HJ2.out HJ3.out HJ5.out ?_))
      have hf := frm_setRow (w7.setCell ⟨w1.heap.size, 0, none⟩ (.int .u32 ((s.m.a + getP 4 s + 512) * 773 % 4294967296))) (w.heap.size + 2) l2.toArray
      have hM : IsMachR (doV 24 d n v s) w (.returned (.agg l2.toArray)) ((w7.setCell ⟨w1.heap.size, 0, none⟩ (.int .u32 ((s.m.a + getP 4 s + 512) * 773 % 4294967296))).setRow (w.heap.size + 2) l2.toArray) := ⟨⟨u1, u2, by rw [HL2.out], (HR1.out.frm hf (fun k hk => by omega)).base (by omega), (HR2.out.frm hf (fun k hk => by omega)).base (by omega)⟩, HLOW.out.trans (hf.to_below HLOW.out.size (fun k hk => by omega))⟩
      exact bodyPost_ret (v := .agg l2.toArray) (results_cell_row rfl _ _ (w.heap.size + 2) 50 l2.toArray _ _ rfl (blk_setRow HZ2.out l2.toArray) Try.underlying50 rfl HJ2.out) rfl hM
    · have HK := Lib.hid hK
      clear hK
      go_simp
      refine (HZ58.out _ BB6.out.drew).mono ?_
      rintro e w7 ⟨rfl, hb⟩
      have c7 := (HV6.out.drew.below hb).box.c0
      have f7 := (HV6.out.drew.below hb).box.fz 0
      have BB7 := Lib.hid hb
      clear hb
      go_wp2_with fail
      refine HK.out _ _ ?_
      clear HK K
      try simp only [Act.put, setIfInBounds_toArray, set_cons_zero, set_cons_succ]
      refine wpAny_ready (rs := [1]) (by kernel_rfl) (by simp) ?_
      refine AllReady.cons rfl (fun K hK => ?_) AllReady.nil
      have HK := Lib.hid hK
      clear hK
      go_simp
      refine HK.out _ _ ?_
      clear HK K
      try simp only [Act.put, setIfInBounds_toArray, set_cons_zero, set_cons_succ]
      refine wpAny_take (i := 4) (v := ?_) rfl (by kernel_rfl) (by kernel_rfl) (by kernel_rfl) (fun _ _ _ h => h) (Or.inl ⟨by rfl, ?_⟩) ?_
      rotate_left
      · (intro w; go_simp) <;> with_reducible rfl
      simp only [Act.put, setIfInBounds_toArray, set_cons_zero, set_cons_succ]
      refine wpAny_take (i := 5) (v := ?_) rfl (by kernel_rfl) (by kernel_rfl) (by kernel_rfl) (fun _ _ _ h => h) (Or.inl ⟨by rfl, ?_⟩) ?_
      rotate_left
      · (intro w; go_simp) <;> with_reducible rfl
      simp only [Act.put, setIfInBounds_toArray, set_cons_zero, set_cons_succ]
      refine wpAny_take (i := 6) (v := ?_) rfl (by kernel_rfl) (by kernel_rfl) (by kernel_rfl) (fun _ _ _ h => h) (Or.inl ⟨by rfl, ?_⟩) ?_
      rotate_left
      · (intro w; go_simp) <;> with_reducible rfl
      simp only [Act.put, setIfInBounds_toArray, set_cons_zero, set_cons_succ]
      refine wpAny_take (i := 7) (v := ?_) rfl (by kernel_rfl) (by kernel_rfl) (by kernel_rfl) (fun _ _ _ h => h) (Or.inl ⟨by rfl, ?_⟩) ?_
      rotate_left
      · (intro w; go_simp) <;> with_reducible rfl
      simp only [Act.put, setIfInBounds_toArray, set_cons_zero, set_cons_succ]
      refine wpAny_ready (rs := [8]) (by kernel_rfl) (by simp) ?_
      refine AllReady.cons rfl (fun K hK => ?_) AllReady.nil
      have HK := Lib.hid hK
      clear hK
      go_simp
      refine HK.out _ _ ?_
      clear HK K
      try simp only [Act.put, setIfInBounds_toArray, set_cons_zero, set_cons_succ]
      refine wpAny_done (by kernel_rfl) ?_ _
      rw [hash_wrap]
      have hlen := doV_len 24 d n v s
      have hend : EndB (doV 24 d n v s) w1.heap.size w (w7.setCell ⟨w1.heap.size, 0, none⟩ (.int .u32 ((s.m.a + getP 4 s + 512) * 773 % 4294967296))) := by
        have hvx : Vm (w7.setCell ⟨w1.heap.size, 0, none⟩ (.int .u32 ((s.m.a + getP 4 s + 512) * 773 % 4294967296))) w1.heap.size gh gm (doV 24 d n v s) d1 d2 := (HV6.out.drew.below BB7.out).reg 0 _ { s.m with a := (s.m.a + getP 4 s + 512) * 773 % 4294967296 } ⟨mod_range _, HOK.out.m.b, HOK.out.m.c, HOK.out.m.d, HOK.out.m.len, HOK.out.m.r⟩ (fun _ _ => (Mc.set_reg _ _ _).1)
        have hfx : Frm (Sg w1.heap.size gh gm) w6 (w7.setCell ⟨w1.heap.size, 0, none⟩ (.int .u32 ((s.m.a + getP 4 s + 512) * 773 % 4294967296))) := Frm.of_drew (Frm.setCell (S := Sg w1.heap.size gh gm) (p := ⟨w1.heap.size, 0, none⟩) (Frm.of_below BB7.out) (fun _ => .inl rfl) _)
        have hgh := HGH.out
        have hgm := HGM.out
        have hs1 := HS1.out
        have hbel : Below (w.heap.size + 3) w6 (w7.setCell ⟨w1.heap.size, 0, none⟩ (.int .u32 ((s.m.a + getP 4 s + 512) * 773 % 4294967296))) := hfx.to_below (by omega) (fun k hk => by rcases hk with rfl | rfl | rfl <;> omega)
        exact ⟨_, _, hvx.box, .inr ⟨gh, d1, by rw [List.length_map], by rw [List.length_map, hlen.1]; exact HC1.out, hgh, hvx.hrow⟩, .inr ⟨gm, d2, by rw [List.length_map], by rw [List.length_map, hlen.2]; exact HC2.out, hgm, hvx.mrow⟩, R6.out.frm hfx (fun h => by rcases h with h | h | h <;> omega), F6.out.trans (hbel.mono (by omega))⟩
      obtain ⟨u1, u2, hmb, hr1, hr2, hz2, hlow⟩ := hend
      obtain ⟨l2, hl2, hrgx, j1, j2, j3, j4, j5⟩ := hmb.info hr1.one hr2.one
      have HL2 := Lib.hid hl2
      have HRGX := Lib.hid hrgx
      have HJ1 := Lib.hid j1
      have HJ2 := Lib.hid j2
      have HJ3 := Lib.hid j3
      have HJ5 := Lib.hid j5
      have HR1 := Lib.hid hr1
      have HR2 := Lib.hid hr2
      have HZ2 := Lib.hid hz2
      have HLOW := Lib.hid hlow
      clear hmb hr1 hr2 hz2 hlow hl2 hrgx j1 j2 j3 j4 j5 hlen
      go_wp2_with (first
        | (refine wpList_load_mid rfl 50 (.tmp 5) rfl w1.heap.size 0 rfl _ _ HRGX.out Try.underlying50 rfl HJ1.out ?_)
        | (refine wpList_store_row rfl 50 (.tmp 4) (.tmp 171) rfl (w.heap.size + 2) l2.toArray rfl rfl 50 _ HZ2.out HJ2.out HJ3.out HJ5.out ?_))
      have hf := frm_setRow (w7.setCell ⟨w1.heap.size, 0, none⟩ (.int .u32 ((s.m.a + getP 4 s + 512) * 773 % 4294967296))) (w.heap.size + 2) l2.toArray
      have hM : IsMachR (doV 24 d n v s) w (.returned (.agg l2.toArray)) ((w7.setCell ⟨w1.heap.size, 0, none⟩ (.int .u32 ((s.m.a + getP 4 s + 512) * 773 % 4294967296))).setRow (w.heap.size + 2) l2.toArray) := ⟨⟨u1, u2, by rw [HL2.out], (HR1.out.frm hf (fun k hk => by omega)).base (by omega), (HR2.out.frm hf (fun k hk => by omega)).base (by omega)⟩, HLOW.out.trans (hf.to_below HLOW.out.size (fun k hk => by omega))⟩
      exact bodyPost_ret (v := .agg l2.toArray) (results_cell_row rfl _ _ (w.heap.size + 2) 50 l2.toArray _ _ rfl (blk_setRow HZ2.out l2.toArray) Try.underlying50 rfl HJ2.out) rfl hM
set_option maxRecDepth 100000 in
set_option maxHeartbeats 8000000 in
theorem do27_25 (d n v : Int) (s : St) (hm : s.m.ok) (hw : Wds s.hs) (mo : Oct s.ms) (Ah Am : Option Addr) (ch cm nh nm : Nat) (w : World) (hnh : nh = s.hs.length) (hnm : nm = s.ms.length) (hh : Rd w Ah (s.hs.map (.int .u32))) (hmr : Rd w Am (s.ms.map (.int .u8))) (lh : nh ≤ 5000) (lm : nm ≤ 5000) (hok : s.ok) (hri : rightI ⟨25, d, n, v⟩ = true) :
    Calls Try.prog 27 #[.agg #[.int .u8 25, .int .i64 d, .int .i64 n, .int .i64 v], .agg (s.m.cells (.slice Ah nh ch) (.slice Am nm cm))] w (IsMachR (doV 25 d n v s) w) := by
  have HO0 : (0 : Int) ≤ 25 := by decide
  subst hnh hnm
  have hz := (zero_of_info zero50).1
  have bx := MBox.new hm (w.alloc (.cells #[.int .u8 25, .int .i64 d, .int .i64 n, .int .i64 v] 31)) (.slice Ah s.hs.length ch) (.slice Am s.ms.length cm)
  rw [World.size_alloc] at bx
  have b0 := (((Blk.new w 31 #[.int .u8 25, .int .i64 d, .int .i64 n, .int .i64 v]).alloc (.cells (s.m.cells (.slice Ah s.hs.length ch) (.slice Am s.ms.length cm)) 50)).alloc (.cells zCells 50))
  have bb := bx.below ((Below.refl _ _).alloc (Nat.le_refl _) (.cells zCells 50))
  have br := Blk.new ((w.alloc (.cells #[.int .u8 25, .int .i64 d, .int .i64 n, .int .i64 v] 31)).alloc (.cells (s.m.cells (.slice Ah s.hs.length ch) (.slice Am s.ms.length cm)) 50)) 50 zCells
  rw [World.size_alloc, World.size_alloc] at br
  have hb3 : Below w.heap.size w (((w.alloc (.cells #[.int .u8 25, .int .i64 d, .int .i64 n, .int .i64 v] 31)).alloc (.cells (s.m.cells (.slice Ah s.hs.length ch) (.slice Am s.ms.length cm)) 50)).alloc (.cells zCells 50)) := (((Below.refl _ _).alloc (Nat.le_refl _) _).alloc (by simp) _).alloc (by simp; omega) _
  have hcp := copyMach_any s.m hm s.hs s.ms Ah Am ch cm s.hs.length s.ms.length _ rfl rfl (hh.below hb3 rfl) (hmr.below hb3 rfl) (by omega) (by omega)
  have i1 : (Try.prog.info? 50).map (·.size) = some (s.m.cells (.slice Ah s.hs.length ch) (.slice Am s.ms.length cm)).toList.length := by
    have h := Mc.size hm (.slice Ah s.hs.length ch) (.slice Am s.ms.length cm)
    rw [Array.length_toList, h]
    exact size50
  have hrg := bb.range
  obtain ⟨cs, hcs⟩ : ∃ x, s.m.cells (.slice Ah s.hs.length ch) (.slice Am s.ms.length cm) = x := ⟨_, rfl⟩
  have hcl : s.m.list (.slice Ah s.hs.length ch) (.slice Am s.ms.length cm) = cs.toList := by rw [← hcs]; rfl
  rw [hcs] at hcp b0 bb br hb3 i1 hrg ⊢
  rw [hcl] at hrg
  obtain ⟨W0, hW0⟩ : ∃ x, (((w.alloc (.cells #[.int .u8 25, .int .i64 d, .int .i64 n, .int .i64 v] 31)).alloc (.cells cs 50)).alloc (.cells zCells 50)) = x := ⟨_, rfl⟩
  have hsz : W0.heap.size = w.heap.size + 3 := by rw [← hW0]; simp
  rw [hW0] at hcp b0 bb br hrg hb3
  have HCP := Lib.hid hcp
  have HB0 := Lib.hid b0
  have HBR := Lib.hid br
  have HRG := Lib.hid hrg
  have HB3 := Lib.hid hb3
  have HI1 := Lib.hid i1
  have HM := Lib.hid hm
  have HSZ := Lib.hid hsz
  have HOK := Lib.hid hok
  have HRE := Lib.hid hri
  have HCO : Hid (codeI ⟨25, d, n, v⟩ = 0) := Lib.hid (by unfold codeI; rw [hri]; rfl)
  have HRI := Lib.hid (fun W => right15 ⟨25, d, n, v⟩ W HO0)
  have HRT := Lib.hid (fun A c B e W => right_ref s.m hm A B s.hs.length c s.ms.length e W)
  have HRM := Lib.hid hok.right
  obtain ⟨hd7, hn7, hv7⟩ := right_in hri
  have HD7 := Lib.hid hd7
  have HN7 := Lib.hid hn7
  clear hcp b0 bb br hrg hb3 i1 bx hcs hcl hh hmr hm hw mo hsz hok hri hd7 hn7 hv7
  go_enter Try.func27, Try.ntmps27
  go_wp2_with (refine wpList_load_midA rfl 50 (.tmp 3) rfl (w.heap.size + 1) 0 rfl cs _ HRG.out Try.underlying50 rfl HI1.out ?_; simp only [Act.put, setIfInBounds_toArray, set_cons_zero, set_cons_succ])
  refine HCP.out.mono ?_
  rintro e w1 ⟨⟨A1, d1, A2, d2, rfl, hd1, hd2, ho1, ho2⟩, hl1⟩
  rw [HSZ.out] at ho1 ho2
  obtain ⟨gh, c1, e1, hc1, hgh, hra⟩ := (OwnR.of_own ho1).at (by rw [List.length_map]; exact pow_pos HOK.out.p8)
  obtain ⟨gm, c2, e2, hc2, hgm, hrb⟩ := (OwnR.of_own ho2).at (by rw [List.length_map]; exact pow_pos HOK.out.p12)
  rw [List.length_map] at e1 e2 hc1 hc2
  injection e1 with e1 _ f1
  injection e2 with e2 _ f2
  subst e1 e2 f1 f2
  have hsz1 : w.heap.size + 3 ≤ w1.heap.size := by have := hl1.size; have := HSZ.out; omega
  have hvm : Vm (w1.alloc (.cells (s.m.cells (.slice (some ⟨gh, 0, none⟩) s.hs.length d1) (.slice (some ⟨gm, 0, none⟩) s.ms.length d2)) 50)) w1.heap.size gh gm s d1 d2 := ⟨MBox.new HM.out w1 _ _, hra.below ((Below.refl _ _).alloc (Nat.le_refl _) _), hrb.below ((Below.refl _ _).alloc (Nat.le_refl _) _), HOK.out⟩
  have k1 : (s.m.cells (.slice (some ⟨gh, 0, none⟩) s.hs.length d1) (.slice (some ⟨gm, 0, none⟩) s.ms.length d2)).size = 263 := Mc.size HM.out _ _
  have hzz : zCells.size = 263 := Mc.size zM_ok _ _
  have B2 := Lib.hid ((HB3.out.trans (hl1.mono (by have := HB3.out.size; omega))).alloc (by have := HB3.out.size; have := hl1.size; omega) (.cells (s.m.cells (.slice (some ⟨gh, 0, none⟩) s.hs.length d1) (.slice (some ⟨gm, 0, none⟩) s.ms.length d2)) 50))
  have I2 := Lib.hid ((HB0.out.below hl1).alloc (.cells (s.m.cells (.slice (some ⟨gh, 0, none⟩) s.hs.length d1) (.slice (some ⟨gm, 0, none⟩) s.ms.length d2)) 50))
  have R2 := Lib.hid ((HBR.out.below hl1).alloc (.cells (s.m.cells (.slice (some ⟨gh, 0, none⟩) s.hs.length d1) (.slice (some ⟨gm, 0, none⟩) s.ms.length d2)) 50))
  have one : (s.m.cells (.slice (some ⟨gh, 0, none⟩) s.hs.length d1) (.slice (some ⟨gm, 0, none⟩) s.ms.length d2)).all (·.oneCell') = true := Mc.one rfl rfl
  obtain ⟨cs2, hcs2⟩ : ∃ x, s.m.cells (.slice (some ⟨gh, 0, none⟩) s.hs.length d1) (.slice (some ⟨gm, 0, none⟩) s.ms.length d2) = x := ⟨_, rfl⟩
  have hvr : ∀ W, Below (w1.alloc (.cells (s.m.cells (.slice (some ⟨gh, 0, none⟩) s.hs.length d1) (.slice (some ⟨gm, 0, none⟩) s.ms.length d2)) 50)).heap.size (w1.alloc (.cells (s.m.cells (.slice (some ⟨gh, 0, none⟩) s.hs.length d1) (.slice (some ⟨gm, 0, none⟩) s.ms.length d2)) 50)) W → ∀ p, 0 ≤ p ∧ p ≤ 7 → Calls Try.prog 58 #[.agg (s.m.cells (.slice (some ⟨gh, 0, none⟩) s.hs.length d1) (.slice (some ⟨gm, 0, none⟩) s.ms.length d2)), .int .i64 p, .int .i64 v] W (Quiet (.int .u32 (operV p v s)) W) := fun W hW p hp => at58 p v hp ⟨(hvm.below hW).hrow.rd, (hvm.below hW).mrow.rd, HOK.out⟩
  have hrt := fun W => HRT.out (some ⟨gh, 0, none⟩) d1 (some ⟨gm, 0, none⟩) d2 W
  rw [HRM.out] at hrt
  rw [hcs2] at hvm k1 one hvr B2 I2 R2 ⊢
  simp only [hcs2] at hrt
  obtain ⟨W2, hW2⟩ : ∃ x, w1.alloc (.cells cs2 50) = x := ⟨_, rfl⟩
  rw [hW2] at hvm hvr B2 I2 R2
  have hrg2 : ∀ W, Below W2.heap.size W2 W → W.rangeAt w1.heap.size 0 cs2.toList := fun W hW j u hu => by
    rw [Nat.zero_add, (hvm.below hW).box.blk.cell j, hcs2]
    simpa using hu
  have HVM := Lib.hid hvm
  have HVR := Lib.hid hvr
  have HRT2 := Lib.hid hrt
  have HRG2 := Lib.hid hrg2
  have HCS2 := Lib.hid hcs2
  have HSI : Hid ((Try.prog.info? 50).map (·.size) = some cs2.size) := Lib.hid (by rw [k1]; exact size50)
  have HSL : Hid ((Try.prog.info? 50).map (·.size) = some cs2.toList.length) := Lib.hid (by rw [Array.length_toList, k1]; exact size50)
  have HSS : Hid (zCells.size = cs2.size) := Lib.hid (by rw [k1, hzz])
  have HONE := Lib.hid one
  have HW2 := Lib.hid hW2
  have HGH := Lib.hid hgh
  have HGM := Lib.hid hgm
  have HS1 := Lib.hid hsz1
  have HC1 := Lib.hid hc1
  have HC2 := Lib.hid hc2
  clear hl1 ho1 ho2 hra hrb hvm hvr hrt hrg2 hcs2 k1 hzz one hd1 hd2
  go_wp2_with (first
    | (refine wpList_store_row rfl 50 (.tmp 5) (.tmp 10) rfl w1.heap.size cs2 rfl rfl 50 _ (heap_alloc_new _ _) HSI.out HSS.out HONE.out ?_; rw [World.setRow_alloc_new, HW2.out]; simp only [Act.put, setIfInBounds_toArray, set_cons_zero, set_cons_succ])
    | (refine wpList_load_midA rfl 50 (.tmp 5) rfl w1.heap.size 0 rfl cs2 _ (HRG2.out _ (Below.refl _ _)) Try.underlying50 rfl HSL.out ?_; simp only [Act.put, setIfInBounds_toArray, set_cons_zero, set_cons_succ]))
  refine (HRT2.out _).mono ?_
  rintro e w3 ⟨rfl, hb⟩
  have BB := Lib.hid hb
  have q0 := (I2.out.below hb).cell 0
  have q1 := (I2.out.below hb).cell 1
  have q2 := (I2.out.below hb).cell 2
  have q3 := (I2.out.below hb).cell 3
  simp at q0 q1 q2 q3
  clear hb
  go_wp2_with fail
  refine (HRI.out _).mono ?_
  rintro e w4 ⟨he, hb⟩
  rw [HCO.out] at he
  subst he
  have BB4 := Lib.hid (ch0 BB.out hb)
  have p0 := (I2.out.below BB4.out).cell 0
  have p1 := (I2.out.below BB4.out).cell 1
  have p2 := (I2.out.below BB4.out).cell 2
  have p3 := (I2.out.below BB4.out).cell 3
  simp at p0 p1 p2 p3
  clear hb q0 q1 q2 q3
  go_wp2_with fail
  have hS : (fun w' => w'.rangeAt w1.heap.size 0 cs2.toList ∧ w'.cell? ⟨w.heap.size, 0, none⟩ = some (.int .u8 25) ∧ w'.cell? ⟨w.heap.size, 1, none⟩ = some (.int .i64 d) ∧ w'.cell? ⟨w.heap.size, 2, none⟩ = some (.int .i64 n) ∧ w'.cell? ⟨w.heap.size, 3, none⟩ = some (.int .i64 v)) w4.drew := ⟨HRG2.out _ (BB4.out.drew), by have := (I2.out.below (BB4.out.drew)).cell 0; simpa using this, by have := (I2.out.below (BB4.out.drew)).cell 1; simpa using this, by have := (I2.out.below (BB4.out.drew)).cell 2; simpa using this, by have := (I2.out.below (BB4.out.drew)).cell 3; simpa using this⟩
  refine wp_region_held_drew (S := fun w' => w'.rangeAt w1.heap.size 0 cs2.toList ∧ w'.cell? ⟨w.heap.size, 0, none⟩ = some (.int .u8 25) ∧ w'.cell? ⟨w.heap.size, 1, none⟩ = some (.int .i64 d) ∧ w'.cell? ⟨w.heap.size, 2, none⟩ = some (.int .i64 n) ∧ w'.cell? ⟨w.heap.size, 3, none⟩ = some (.int .i64 v)) (by kernel_rfl) hS (fun hHeld => ?_)
  refine wpAnyH_takeD (i := 0) (d := 20) (oi := _) (v := .agg cs2) rfl rfl (by kernel_rfl) (by kernel_rfl) (by kernel_rfl) (fun _ _ _ h => h) (yieldsIf_load_mid (by rfl) 50 (.tmp 5) rfl w1.heap.size 0 rfl cs2.toList _ (fun w hS => hS.1) Try.underlying50 rfl HSL.out) (by assumption) ?_
  simp only [Act.put, setIfInBounds_toArray, set_cons_zero, set_cons_succ]
  refine wpAnyH_takeD (i := 1) (d := 21) (oi := _) (v := ?_) rfl rfl (by kernel_rfl) (by kernel_rfl) (by kernel_rfl) (fun _ _ _ h => h) (Or.inl ⟨by rfl, ?_⟩) (by assumption) ?_
  rotate_left
  · (intro w hSw; (try dsimp only at hSw); go_simp) <;> with_reducible rfl
  simp only [Act.put, setIfInBounds_toArray, set_cons_zero, set_cons_succ]
  refine wpAnyH_takeD (i := 2) (d := 22) (oi := _) (v := ?_) rfl rfl (by kernel_rfl) (by kernel_rfl) (by kernel_rfl) (fun _ _ _ h => h) (Or.inl ⟨by rfl, ?_⟩) (by assumption) ?_
  rotate_left
  · (intro w hSw; (try dsimp only at hSw); go_simp) <;> with_reducible rfl
  simp only [Act.put, setIfInBounds_toArray, set_cons_zero, set_cons_succ]
  refine wpAnyH_takeD (i := 3) (d := 23) (oi := _) (v := ?_) rfl rfl (by kernel_rfl) (by kernel_rfl) (by kernel_rfl) (fun _ _ _ h => h) (Or.inl ⟨by rfl, ?_⟩) (by assumption) ?_
  rotate_left
  · (intro w hSw; (try dsimp only at hSw); go_simp) <;> with_reducible rfl
  simp only [Act.put, setIfInBounds_toArray, set_cons_zero, set_cons_succ]
  refine wpAnyH_takeD (i := 4) (d := 24) (oi := _) (v := ?_) rfl rfl (by kernel_rfl) (by kernel_rfl) (by kernel_rfl) (fun _ _ _ h => h) (Or.inl ⟨by rfl, ?_⟩) (by assumption) ?_
  rotate_left
  · (intro w hSw; (try dsimp only at hSw); go_simp) <;> with_reducible rfl
  simp only [Act.put, setIfInBounds_toArray, set_cons_zero, set_cons_succ]
  refine wpAnyH_takeD (i := 6) (d := 26) (oi := _) (v := .agg cs2) rfl rfl (by kernel_rfl) (by kernel_rfl) (by kernel_rfl) (fun _ _ _ h => h) (yieldsIf_load_mid (by rfl) 50 (.tmp 5) rfl w1.heap.size 0 rfl cs2.toList _ (fun w hS => hS.1) Try.underlying50 rfl HSL.out) (by assumption) ?_
  simp only [Act.put, setIfInBounds_toArray, set_cons_zero, set_cons_succ]
  refine wpAnyH_takeD (i := 7) (d := 27) (oi := _) (v := ?_) rfl rfl (by kernel_rfl) (by kernel_rfl) (by kernel_rfl) (fun _ _ _ h => h) (Or.inl ⟨by rfl, ?_⟩) (by assumption) ?_
  rotate_left
  · (intro w hSw; (try dsimp only at hSw); go_simp) <;> with_reducible rfl
  simp only [Act.put, setIfInBounds_toArray, set_cons_zero, set_cons_succ]
  refine wpAnyH_takeD (i := 8) (d := 28) (oi := _) (v := ?_) rfl rfl (by kernel_rfl) (by kernel_rfl) (by kernel_rfl) (fun _ _ _ h => h) (Or.inl ⟨by rfl, ?_⟩) (by assumption) ?_
  rotate_left
  · (intro w hSw; (try dsimp only at hSw); go_simp) <;> with_reducible rfl
  simp only [Act.put, setIfInBounds_toArray, set_cons_zero, set_cons_succ]
  refine wpAnyH_takeD (i := 9) (d := 29) (oi := _) (v := ?_) rfl rfl (by kernel_rfl) (by kernel_rfl) (by kernel_rfl) (fun _ _ _ h => h) (Or.inl ⟨by rfl, ?_⟩) (by assumption) ?_
  rotate_left
  · (intro w hSw; (try dsimp only at hSw); go_simp) <;> with_reducible rfl
  simp only [Act.put, setIfInBounds_toArray, set_cons_zero, set_cons_succ]
  refine wpAnyH_takeD (i := 10) (d := 30) (oi := _) (v := ?_) rfl rfl (by kernel_rfl) (by kernel_rfl) (by kernel_rfl) (fun _ _ _ h => h) (Or.inl ⟨by rfl, ?_⟩) (by assumption) ?_
  rotate_left
  · (intro w hSw; (try dsimp only at hSw); go_simp) <;> with_reducible rfl
  simp only [Act.put, setIfInBounds_toArray, set_cons_zero, set_cons_succ]
  refine wpAnyH_ready (rs := [5]) (by kernel_rfl) (by simp) ?_
  refine AllReadyH.cons (o := _) rfl (fun K hK => ?_) AllReadyH.nil
  go_simp
  refine (HVR.out _ (BB4.out.drew) n HN7.out).mono ?_
  rintro e w5 ⟨rfl, hb⟩
  have BB5 := Lib.hid (ch0 BB4.out.drew hb)
  clear hb
  go_wp2_with fail
  refine hK.out _ _ ⟨HRG2.out _ BB5.out, by have := (I2.out.below BB5.out).cell 0; simpa using this, by have := (I2.out.below BB5.out).cell 1; simpa using this, by have := (I2.out.below BB5.out).cell 2; simpa using this, by have := (I2.out.below BB5.out).cell 3; simpa using this⟩ (fun hHeld => ?_)
  clear hK K
  try simp only [Act.put, setIfInBounds_toArray, set_cons_zero, set_cons_succ]
  refine wpAnyH_ready (rs := [11]) (by kernel_rfl) (by simp) ?_
  refine AllReadyH.cons (o := _) rfl (fun K hK => ?_) AllReadyH.nil
  go_simp
  refine (HVR.out _ BB5.out d (by have := HD7.out; omega)).mono ?_
  rintro e w6 ⟨rfl, hb⟩
  have BB6 := Lib.hid (ch0 BB5.out hb)
  clear hb
  go_wp2_with fail
  refine hK.out _ _ ⟨HRG2.out _ BB6.out, by have := (I2.out.below BB6.out).cell 0; simpa using this, by have := (I2.out.below BB6.out).cell 1; simpa using this, by have := (I2.out.below BB6.out).cell 2; simpa using this, by have := (I2.out.below BB6.out).cell 3; simpa using this⟩ (fun hHeld => ?_)
  clear hK K
  try simp only [Act.put, setIfInBounds_toArray, set_cons_zero, set_cons_succ]
  refine wpAnyH_takeD (i := 12) (d := 6) (oi := _) (v := ?_) rfl rfl (by kernel_rfl) (by kernel_rfl) (by kernel_rfl) (fun _ _ _ h => h) (Or.inl ⟨by rfl, ?_⟩) (by assumption) ?_
  rotate_left
  · (intro w hSw; (try dsimp only at hSw); go_simp) <;> with_reducible rfl
  simp only [Act.put, setIfInBounds_toArray, set_cons_zero, set_cons_succ]
  refine wpAnyH_takeD (i := 13) (d := 7) (oi := _) (v := ?_) rfl rfl (by kernel_rfl) (by kernel_rfl) (by kernel_rfl) (fun _ _ _ h => h) (Or.inl ⟨by rfl, ?_⟩) (by assumption) ?_
  rotate_left
  · (intro w hSw; (try dsimp only at hSw); go_simp) <;> with_reducible rfl
  simp only [Act.put, setIfInBounds_toArray, set_cons_zero, set_cons_succ]
  refine wpAnyH_done (by kernel_rfl) ?_ _
  obtain ⟨_, p0, p1, p2, p3⟩ := hHeld
  have HV6 := Lib.hid (HVM.out.below BB6.out)
  have R6 := Lib.hid (R2.out.below BB6.out)
  have F6 := Lib.hid (ch0 B2.out BB6.out)
  have ey : operV d v s = getP d s := by unfold operV; rw [if_neg (by have := HD7.out; omega)]
  have EY := Lib.hid ey
  have gsz := HV6.out.box.lt
  clear ey
  have hz58 : ∀ W, Below W2.heap.size W2 W → Calls Try.prog 58 #[.agg cs2, .int .i64 6, .int .i64 0] W (Quiet (.int .u32 (getP 6 s)) W) := fun W hW => by
    have h := at58 (ch := d1) (cm := d2) 6 0 (by omega) (⟨(HVM.out.below hW).hrow.rd, (HVM.out.below hW).mrow.rd, HOK.out⟩ : VRows W gh 0 gm 0 s)
    unfold valVm at h
    rw [HCS2.out] at h
    exact h
  have HZ58 := Lib.hid hz58
  have c0 := HV6.out.box.c0
  have f0 := HV6.out.box.fz 0
  clear hz58
  go_wp2_with fail
  refine wp_region_any (by kernel_rfl) ?_
  try (change wpAny _ _ _ _ _ _ _ (World.drew _))
  refine wpAny_take (i := 2) (v := ?_) rfl (by kernel_rfl) (by kernel_rfl) (by kernel_rfl) (fun _ _ _ h => h) (Or.inl ⟨by rfl, ?_⟩) ?_
  rotate_left
  · (intro w; go_simp) <;> with_reducible rfl
  simp only [Act.put, setIfInBounds_toArray, set_cons_zero, set_cons_succ]
  refine wpAny_ready (rs := [0, 3]) (by kernel_rfl) (by simp) ?_
  refine AllReady.cons rfl (fun K hK => ?_) (AllReady.cons rfl (fun K hK => ?_) AllReady.nil)
  · have HK := Lib.hid hK
    clear hK
    rw [if_pos (by rfl)]
    refine wp_load_mid 50 (.tmp 5) rfl w1.heap.size 0 rfl cs2.toList _ (HRG2.out _ BB6.out.drew) Try.underlying50 rfl HSL.out ?_
    refine HK.out _ _ ?_
    clear HK K
    try simp only [Act.put, setIfInBounds_toArray, set_cons_zero, set_cons_succ]
    refine wpAny_ready (rs := [1, 3]) (by kernel_rfl) (by simp) ?_
    refine AllReady.cons rfl (fun K hK => ?_) (AllReady.cons rfl (fun K hK => ?_) AllReady.nil)
    · have HK := Lib.hid hK
      clear hK
      go_simp
      refine (HZ58.out _ BB6.out.drew).mono ?_
      rintro e w7 ⟨rfl, hb⟩
      have c7 := (HV6.out.drew.below hb).box.c0
      have f7 := (HV6.out.drew.below hb).box.fz 0
      have BB7 := Lib.hid hb
      clear hb
      go_wp2_with fail
      refine HK.out _ _ ?_
      clear HK K
      try simp only [Act.put, setIfInBounds_toArray, set_cons_zero, set_cons_succ]
      refine wpAny_ready (rs := [3]) (by kernel_rfl) (by simp) ?_
      refine AllReady.cons rfl (fun K hK => ?_) AllReady.nil
      have HK := Lib.hid hK
      clear hK
      go_simp
      refine HK.out _ _ ?_
      clear HK K
      try simp only [Act.put, setIfInBounds_toArray, set_cons_zero, set_cons_succ]
      refine wpAny_take (i := 4) (v := ?_) rfl (by kernel_rfl) (by kernel_rfl) (by kernel_rfl) (fun _ _ _ h => h) (Or.inl ⟨by rfl, ?_⟩) ?_
      rotate_left
      · (intro w; go_simp) <;> with_reducible rfl
      simp only [Act.put, setIfInBounds_toArray, set_cons_zero, set_cons_succ]
      refine wpAny_take (i := 5) (v := ?_) rfl (by kernel_rfl) (by kernel_rfl) (by kernel_rfl) (fun _ _ _ h => h) (Or.inl ⟨by rfl, ?_⟩) ?_
      rotate_left
      · (intro w; go_simp) <;> with_reducible rfl
      simp only [Act.put, setIfInBounds_toArray, set_cons_zero, set_cons_succ]
      refine wpAny_take (i := 6) (v := ?_) rfl (by kernel_rfl) (by kernel_rfl) (by kernel_rfl) (fun _ _ _ h => h) (Or.inl ⟨by rfl, ?_⟩) ?_
      rotate_left
      · (intro w; go_simp) <;> with_reducible rfl
      simp only [Act.put, setIfInBounds_toArray, set_cons_zero, set_cons_succ]
      refine wpAny_ready (rs := [7]) (by kernel_rfl) (by simp) ?_
      refine AllReady.cons rfl (fun K hK => ?_) AllReady.nil
      have HK := Lib.hid hK
      clear hK
      go_simp
      refine (put59 6 _ (by omega) (wrap_range _) (HV6.out.drew.below BB7.out)).mono ?_
      rintro e WX ⟨rfl, hv8, hf8⟩
      rw [hash_wrap] at hv8
      have HVX := Lib.hid hv8
      have HFX := Lib.hid hf8
      clear hv8 hf8
      go_wp2_with fail
      refine HK.out _ _ ?_
      clear HK K
      try simp only [Act.put, setIfInBounds_toArray, set_cons_zero, set_cons_succ]
      refine wpAny_done (by kernel_rfl) ?_ _
      have hlen := doV_len 25 d n v s
      have hend : EndB (doV 25 d n v s) w1.heap.size w WX := by
        have hvx : Vm WX w1.heap.size gh gm (doV 25 d n v s) d1 d2 := HVX.out
        have hfx : Frm (Sg w1.heap.size gh gm) w6 WX := Frm.of_drew ((Frm.of_below BB7.out).trans HFX.out (fun _ _ h => h))
        have hgh := HGH.out
        have hgm := HGM.out
        have hs1 := HS1.out
        have hbel : Below (w.heap.size + 3) w6 WX := hfx.to_below (by omega) (fun k hk => by rcases hk with rfl | rfl | rfl <;> omega)
        exact ⟨_, _, hvx.box, .inr ⟨gh, d1, by rw [List.length_map], by rw [List.length_map, hlen.1]; exact HC1.out, hgh, hvx.hrow⟩, .inr ⟨gm, d2, by rw [List.length_map], by rw [List.length_map, hlen.2]; exact HC2.out, hgm, hvx.mrow⟩, R6.out.frm hfx (fun h => by rcases h with h | h | h <;> omega), F6.out.trans (hbel.mono (by omega))⟩
      obtain ⟨u1, u2, hmb, hr1, hr2, hz2, hlow⟩ := hend
      obtain ⟨l2, hl2, hrgx, j1, j2, j3, j4, j5⟩ := hmb.info hr1.one hr2.one
      have HL2 := Lib.hid hl2
      have HRGX := Lib.hid hrgx
      have HJ1 := Lib.hid j1
      have HJ2 := Lib.hid j2
      have HJ3 := Lib.hid j3
      have HJ5 := Lib.hid j5
      have HR1 := Lib.hid hr1
      have HR2 := Lib.hid hr2
      have HZ2 := Lib.hid hz2
      have HLOW := Lib.hid hlow
      clear hmb hr1 hr2 hz2 hlow hl2 hrgx j1 j2 j3 j4 j5 hlen
      go_wp2_with (first
        | (refine wpList_load_mid rfl 50 (.tmp 5) rfl w1.heap.size 0 rfl _ _ HRGX.out Try.underlying50 rfl HJ1.out ?_)
        | (refine wpList_store_row rfl 50 (.tmp 4) (.tmp 171) rfl (w.heap.size + 2) l2.toArray rfl rfl 50 _ HZ2.out HJ2.out HJ3.out HJ5.out ?_))
      have hf := frm_setRow WX (w.heap.size + 2) l2.toArray
      have hM : IsMachR (doV 25 d n v s) w (.returned (.agg l2.toArray)) (WX.setRow (w.heap.size + 2) l2.toArray) := ⟨⟨u1, u2, by rw [HL2.out], (HR1.out.frm hf (fun k hk => by omega)).base (by omega), (HR2.out.frm hf (fun k hk => by omega)).base (by omega)⟩, HLOW.out.trans (hf.to_below HLOW.out.size (fun k hk => by omega))⟩
      exact bodyPost_ret (v := .agg l2.toArray) (results_cell_row rfl _ _ (w.heap.size + 2) 50 l2.toArray _ _ rfl (blk_setRow HZ2.out l2.toArray) Try.underlying50 rfl HJ2.out) rfl hM
    · have HK := Lib.hid hK
      clear hK
      go_simp
      refine HK.out _ _ ?_
      clear HK K
      try simp only [Act.put, setIfInBounds_toArray, set_cons_zero, set_cons_succ]
      refine wpAny_ready (rs := [1]) (by kernel_rfl) (by simp) ?_
      refine AllReady.cons rfl (fun K hK => ?_) AllReady.nil
      have HK := Lib.hid hK
      clear hK
      go_simp
      refine (HZ58.out _ BB6.out.drew).mono ?_
      rintro e w7 ⟨rfl, hb⟩
      have c7 := (HV6.out.drew.below hb).box.c0
      have f7 := (HV6.out.drew.below hb).box.fz 0
      have BB7 := Lib.hid hb
      clear hb
      go_wp2_with fail
      refine HK.out _ _ ?_
      clear HK K
      try simp only [Act.put, setIfInBounds_toArray, set_cons_zero, set_cons_succ]
      refine wpAny_take (i := 4) (v := ?_) rfl (by kernel_rfl) (by kernel_rfl) (by kernel_rfl) (fun _ _ _ h => h) (Or.inl ⟨by rfl, ?_⟩) ?_
      rotate_left
      · (intro w; go_simp) <;> with_reducible rfl
      simp only [Act.put, setIfInBounds_toArray, set_cons_zero, set_cons_succ]
      refine wpAny_take (i := 5) (v := ?_) rfl (by kernel_rfl) (by kernel_rfl) (by kernel_rfl) (fun _ _ _ h => h) (Or.inl ⟨by rfl, ?_⟩) ?_
      rotate_left
      · (intro w; go_simp) <;> with_reducible rfl
      simp only [Act.put, setIfInBounds_toArray, set_cons_zero, set_cons_succ]
      refine wpAny_take (i := 6) (v := ?_) rfl (by kernel_rfl) (by kernel_rfl) (by kernel_rfl) (fun _ _ _ h => h) (Or.inl ⟨by rfl, ?_⟩) ?_
      rotate_left
      · (intro w; go_simp) <;> with_reducible rfl
      simp only [Act.put, setIfInBounds_toArray, set_cons_zero, set_cons_succ]
      refine wpAny_ready (rs := [7]) (by kernel_rfl) (by simp) ?_
      refine AllReady.cons rfl (fun K hK => ?_) AllReady.nil
      have HK := Lib.hid hK
      clear hK
      go_simp
      refine (put59 6 _ (by omega) (wrap_range _) (HV6.out.drew.below BB7.out)).mono ?_
      rintro e WX ⟨rfl, hv8, hf8⟩
      rw [hash_wrap] at hv8
      have HVX := Lib.hid hv8
      have HFX := Lib.hid hf8
      clear hv8 hf8
      go_wp2_with fail
      refine HK.out _ _ ?_
      clear HK K
      try simp only [Act.put, setIfInBounds_toArray, set_cons_zero, set_cons_succ]
      refine wpAny_done (by kernel_rfl) ?_ _
      have hlen := doV_len 25 d n v s
      have hend : EndB (doV 25 d n v s) w1.heap.size w WX := by
        have hvx : Vm WX w1.heap.size gh gm (doV 25 d n v s) d1 d2 := HVX.out
        have hfx : Frm (Sg w1.heap.size gh gm) w6 WX := Frm.of_drew ((Frm.of_below BB7.out).trans HFX.out (fun _ _ h => h))
        have hgh := HGH.out
        have hgm := HGM.out
        have hs1 := HS1.out
        have hbel : Below (w.heap.size + 3) w6 WX := hfx.to_below (by omega) (fun k hk => by rcases hk with rfl | rfl | rfl <;> omega)
        exact ⟨_, _, hvx.box, .inr ⟨gh, d1, by rw [List.length_map], by rw [List.length_map, hlen.1]; exact HC1.out, hgh, hvx.hrow⟩, .inr ⟨gm, d2, by rw [List.length_map], by rw [List.length_map, hlen.2]; exact HC2.out, hgm, hvx.mrow⟩, R6.out.frm hfx (fun h => by rcases h with h | h | h <;> omega), F6.out.trans (hbel.mono (by omega))⟩
      obtain ⟨u1, u2, hmb, hr1, hr2, hz2, hlow⟩ := hend
      obtain ⟨l2, hl2, hrgx, j1, j2, j3, j4, j5⟩ := hmb.info hr1.one hr2.one
      have HL2 := Lib.hid hl2
      have HRGX := Lib.hid hrgx
      have HJ1 := Lib.hid j1
      have HJ2 := Lib.hid j2
      have HJ3 := Lib.hid j3
      have HJ5 := Lib.hid j5
      have HR1 := Lib.hid hr1
      have HR2 := Lib.hid hr2
      have HZ2 := Lib.hid hz2
      have HLOW := Lib.hid hlow
      clear hmb hr1 hr2 hz2 hlow hl2 hrgx j1 j2 j3 j4 j5 hlen
      go_wp2_with (first
        | (refine wpList_load_mid rfl 50 (.tmp 5) rfl w1.heap.size 0 rfl _ _ HRGX.out Try.underlying50 rfl HJ1.out ?_)
        | (refine wpList_store_row rfl 50 (.tmp 4) (.tmp 171) rfl (w.heap.size + 2) l2.toArray rfl rfl 50 _ HZ2.out HJ2.out HJ3.out HJ5.out ?_))
      have hf := frm_setRow WX (w.heap.size + 2) l2.toArray
      have hM : IsMachR (doV 25 d n v s) w (.returned (.agg l2.toArray)) (WX.setRow (w.heap.size + 2) l2.toArray) := ⟨⟨u1, u2, by rw [HL2.out], (HR1.out.frm hf (fun k hk => by omega)).base (by omega), (HR2.out.frm hf (fun k hk => by omega)).base (by omega)⟩, HLOW.out.trans (hf.to_below HLOW.out.size (fun k hk => by omega))⟩
      exact bodyPost_ret (v := .agg l2.toArray) (results_cell_row rfl _ _ (w.heap.size + 2) 50 l2.toArray _ _ rfl (blk_setRow HZ2.out l2.toArray) Try.underlying50 rfl HJ2.out) rfl hM
  · have HK := Lib.hid hK
    clear hK
    go_simp
    refine HK.out _ _ ?_
    clear HK K
    try simp only [Act.put, setIfInBounds_toArray, set_cons_zero, set_cons_succ]
    refine wpAny_ready (rs := [0]) (by kernel_rfl) (by simp) ?_
    refine AllReady.cons rfl (fun K hK => ?_) AllReady.nil
    have HK := Lib.hid hK
    clear hK
    rw [if_pos (by rfl)]
    refine wp_load_mid 50 (.tmp 5) rfl w1.heap.size 0 rfl cs2.toList _ (HRG2.out _ BB6.out.drew) Try.underlying50 rfl HSL.out ?_
    refine HK.out _ _ ?_
    clear HK K
    try simp only [Act.put, setIfInBounds_toArray, set_cons_zero, set_cons_succ]
    refine wpAny_ready (rs := [1]) (by kernel_rfl) (by simp) ?_
    refine AllReady.cons rfl (fun K hK => ?_) AllReady.nil
    have HK := Lib.hid hK
    clear hK
    go_simp
    refine (HZ58.out _ BB6.out.drew).mono ?_
    rintro e w7 ⟨rfl, hb⟩
    have c7 := (HV6.out.drew.below hb).box.c0
    have f7 := (HV6.out.drew.below hb).box.fz 0
    have BB7 := Lib.hid hb
    clear hb
    go_wp2_with fail
    refine HK.out _ _ ?_
    clear HK K
    try simp only [Act.put, setIfInBounds_toArray, set_cons_zero, set_cons_succ]
    refine wpAny_take (i := 4) (v := ?_) rfl (by kernel_rfl) (by kernel_rfl) (by kernel_rfl) (fun _ _ _ h => h) (Or.inl ⟨by rfl, ?_⟩) ?_
    rotate_left
    · (intro w; go_simp) <;> with_reducible rfl
    simp only [Act.put, setIfInBounds_toArray, set_cons_zero, set_cons_succ]
    refine wpAny_take (i := 5) (v := ?_) rfl (by kernel_rfl) (by kernel_rfl) (by kernel_rfl) (fun _ _ _ h => h) (Or.inl ⟨by rfl, ?_⟩) ?_
    rotate_left
    · (intro w; go_simp) <;> with_reducible rfl
    simp only [Act.put, setIfInBounds_toArray, set_cons_zero, set_cons_succ]
    refine wpAny_take (i := 6) (v := ?_) rfl (by kernel_rfl) (by kernel_rfl) (by kernel_rfl) (fun _ _ _ h => h) (Or.inl ⟨by rfl, ?_⟩) ?_
    rotate_left
    · (intro w; go_simp) <;> with_reducible rfl
    simp only [Act.put, setIfInBounds_toArray, set_cons_zero, set_cons_succ]
    refine wpAny_ready (rs := [7]) (by kernel_rfl) (by simp) ?_
    refine AllReady.cons rfl (fun K hK => ?_) AllReady.nil
    have HK := Lib.hid hK
    clear hK
    go_simp
    refine (put59 6 _ (by omega) (wrap_range _) (HV6.out.drew.below BB7.out)).mono ?_
    rintro e WX ⟨rfl, hv8, hf8⟩
    rw [hash_wrap] at hv8
    have HVX := Lib.hid hv8
    have HFX := Lib.hid hf8
    clear hv8 hf8
    go_wp2_with fail
    refine HK.out _ _ ?_
    clear HK K
    try simp only [Act.put, setIfInBounds_toArray, set_cons_zero, set_cons_succ]
    refine wpAny_done (by kernel_rfl) ?_ _
    have hlen := doV_len 25 d n v s
    have hend : EndB (doV 25 d n v s) w1.heap.size w WX := by
      have hvx : Vm WX w1.heap.size gh gm (doV 25 d n v s) d1 d2 := HVX.out
      have hfx : Frm (Sg w1.heap.size gh gm) w6 WX := Frm.of_drew ((Frm.of_below BB7.out).trans HFX.out (fun _ _ h => h))
      have hgh := HGH.out
      have hgm := HGM.out
      have hs1 := HS1.out
      have hbel : Below (w.heap.size + 3) w6 WX := hfx.to_below (by omega) (fun k hk => by rcases hk with rfl | rfl | rfl <;> omega)
      exact ⟨_, _, hvx.box, .inr ⟨gh, d1, by rw [List.length_map], by rw [List.length_map, hlen.1]; exact HC1.out, hgh, hvx.hrow⟩, .inr ⟨gm, d2, by rw [List.length_map], by rw [List.length_map, hlen.2]; exact HC2.out, hgm, hvx.mrow⟩, R6.out.frm hfx (fun h => by rcases h with h | h | h <;> omega), F6.out.trans (hbel.mono (by omega))⟩
    obtain ⟨u1, u2, hmb, hr1, hr2, hz2, hlow⟩ := hend
    obtain ⟨l2, hl2, hrgx, j1, j2, j3, j4, j5⟩ := hmb.info hr1.one hr2.one
    have HL2 := Lib.hid hl2
    have HRGX := Lib.hid hrgx
    have HJ1 := Lib.hid j1
    have HJ2 := Lib.hid j2
    have HJ3 := Lib.hid j3
    have HJ5 := Lib.hid j5
    have HR1 := Lib.hid hr1
    have HR2 := Lib.hid hr2
    have HZ2 := Lib.hid hz2
    have HLOW := Lib.hid hlow
    clear hmb hr1 hr2 hz2 hlow hl2 hrgx j1 j2 j3 j4 j5 hlen
    go_wp2_with (first
      | (refine wpList_load_mid rfl 50 (.tmp 5) rfl w1.heap.size 0 rfl _ _ HRGX.out Try.underlying50 rfl HJ1.out ?_)
      | (refine wpList_store_row rfl 50 (.tmp 4) (.tmp 171) rfl (w.heap.size + 2) l2.toArray rfl rfl 50 _ HZ2.out HJ2.out HJ3.out HJ5.out ?_))
    have hf := frm_setRow WX (w.heap.size + 2) l2.toArray
    have hM : IsMachR (doV 25 d n v s) w (.returned (.agg l2.toArray)) (WX.setRow (w.heap.size + 2) l2.toArray) := ⟨⟨u1, u2, by rw [HL2.out], (HR1.out.frm hf (fun k hk => by omega)).base (by omega), (HR2.out.frm hf (fun k hk => by omega)).base (by omega)⟩, HLOW.out.trans (hf.to_below HLOW.out.size (fun k hk => by omega))⟩
    exact bodyPost_ret (v := .agg l2.toArray) (results_cell_row rfl _ _ (w.heap.size + 2) 50 l2.toArray _ _ rfl (blk_setRow HZ2.out l2.toArray) Try.underlying50 rfl HJ2.out) rfl hM
end Go.Proofs.Ytebmgladdgmmeaa
