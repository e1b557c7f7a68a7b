/- The chapter's examples: the walk of awake. No condition. -/
import Derived.Test.YtebmgladdgmmeaaVdGRd
import Derived.Test.YtebmgladdgmmeaaVdGQd
import Derived.Test.YtebmgladdgmmeaaVdGNd
import Derived.BigRegion
namespace Go.Proofs.Ytebmgladdgmmeaa
open Go.RowKit Go.WideShapes
open List (setIfInBounds_toArray set_cons_zero set_cons_succ)
set_option linter.unusedVariables false
set_option linter.unusedSimpArgs false
theorem rd_cells (w : World) (us : Array Value) (e : TypeId) : Rd (w.alloc (.cells us e)) (some ⟨w.heap.size, 0, none⟩) us.toList := fun _ => by
  refine ⟨_, 0, rfl, by simp, fun i y hy => ?_⟩
  rw [Nat.zero_add, cell_of_row _ _ _ _ _ _ (heap_alloc_new _ _)]
  simpa using hy
theorem oct_lit2 (l : List Int) (h : l.all (fun x => decide (0 ≤ x) && decide (x ≤ 255)) = true) : Oct l := fun x hx => by
  have := List.all_eq_true.1 h x hx
  simp at this
  exact this
/-- Run of bytes written out, told by its value. -/
theorem runLit (bs : List Int) (post : Bool) (s : St) (r : St × List Int × Int) (hs : s.m.ok) (hw : Wds s.hs) (mo : Oct s.ms) (b : Nat) (v1 v2 : Value) (fuel most : Int) (us : Array Value) (n : Nat) (h : us.toList = octs bs) (hn : n = bs.length) (ho : Oct bs) (hl : n ≤ 1000)
    (lh : s.hs.length ≤ 5000) (lm : s.ms.length ≤ 5000) (hfu : fuel ≤ 1000) (hfu0 : -9223372036854775808 ≤ fuel) (hmo : most ≤ 1000) (V : World) (hr1 : OwnR V b v1 45 (s.hs.map (.int .u32))) (hr2 : OwnR V b v2 5 (s.ms.map (.int .u8))) (hv : ∀ r', RunV bs post s fuel most r' → r' = r) (cs : Array Value) (hcs : s.m.cells v1 v2 = cs)
    (W : World) (hW : Below V.heap.size V W) (g0 : Nat) (hg : g0 = W.heap.size) :
    Calls Try.prog 32 #[.slice (some ⟨g0, 0, none⟩) n n, .bool post, .agg cs, .int .i64 fuel, .int .i64 most] (W.alloc (.cells us 5)) (IsRan r (W.alloc (.cells us 5))) := by
  subst hg hcs
  have hb : Below V.heap.size V (W.alloc (.cells us 5)) := hW.alloc hW.size _
  refine (run_own bs (some ⟨W.heap.size, 0, none⟩) n n post s hs hw mo b v1 v2 fuel most (W.alloc (.cells us 5)) hn ho (by rw [← h]; exact rd_cells W us 5) (by omega) (hr1.below hb) (hr2.below hb) lh lm hfu hfu0 hmo).mono ?_
  rintro e w' ⟨r', h1, h2⟩
  rw [hv r' h1] at h2
  exact h2
theorem new_S0 (w : World) : Calls Try.prog 23 #[.int .i64 1, .int .i64 1] w (fun e w' => (∃ v1 v2, e = .returned (.tuple #[.agg (S0.m.cells v1 v2), .int .i64 0]) ∧ OwnR w' w.heap.size v1 45 (S0.hs.map (.int .u32)) ∧ OwnR w' w.heap.size v2 5 (S0.ms.map (.int .u8))) ∧ Below w.heap.size w w') :=
  (new23_ok 1 1 w (by omega) (by omega)).mono fun e w' h => h
theorem a0 : S0.m.a = 0 := by kernel_rfl
theorem a1 : S1.m.a = 5 := by kernel_rfl
theorem a2 : S2.m.a = 399641 := by kernel_rfl
theorem a3 : S3.m.a = 1 := by kernel_rfl
set_option maxRecDepth 100000 in
set_option maxHeartbeats 16000000 in
theorem awake17 (w : World) : Calls Try.prog 21 #[] w (Quiet (.bool true) w) := by
  have hz := (zero_of_info zero50).1
  have HNEW := Lib.hid (new_S0 w)
  obtain ⟨zs, hzs⟩ : ∃ x, zCells = x := ⟨_, rfl⟩
  have HZS := Lib.hid hzs
  simp only [hzs] at hz
  have HZN : Hid (zs.size = 263) := Lib.hid (by rw [← hzs]; exact Mc.size zM_ok _ _)
  have HBL : Hid (Try.prog.built 50 [] = some zs) := Lib.hid (by rw [← hzs]; exact built50e)
  clear hzs
  go_enter Try.func21, Try.ntmps21
  go_wp2_with fail
  refine HNEW.out.mono ?_
  rintro e w1 ⟨⟨v1, v2, rfl, o1a, o1b⟩, l1⟩
  have z1 := Mc.size (m := S0.m) S0_ok.m v1 v2
  have one1 := Mc.one (m := S0.m) (vh := v1) (vm := v2) o1a.one o1b.one
  have bx1 := MBox.new (m := S0.m) S0_ok.m w1 v1 v2
  have ob1 : Below w1.heap.size w1 (w1.alloc (.cells (S0.m.cells v1 v2) 50)) := (Below.refl _ _).alloc (Nat.le_refl _) _
  have r1a := o1a.below ob1
  have r1b := o1b.below ob1
  obtain ⟨c1, hc1⟩ : ∃ x, S0.m.cells v1 v2 = x := ⟨_, rfl⟩
  rw [hc1] at z1 one1 bx1 ob1 r1a r1b ⊢
  obtain ⟨V1, hV1⟩ : ∃ x, w1.alloc (.cells c1 50) = x := ⟨_, rfl⟩
  rw [hV1] at bx1 ob1 r1a r1b
  have rg1 : ∀ W, Below V1.heap.size V1 W → W.rangeAt w1.heap.size 0 c1.toList := fun W hW j u hu => by
    rw [Nat.zero_add, (bx1.below hW).blk.cell j, hc1]
    simpa using hu
  have SI1 : Hid ((Try.prog.info? 50).map (·.size) = some c1.size) := Lib.hid (by rw [z1]; exact size50)
  have SL1 : Hid ((Try.prog.info? 50).map (·.size) = some c1.toList.length) := Lib.hid (by rw [Array.length_toList, z1]; exact size50)
  have SS1 : Hid (zs.size = c1.size) := Lib.hid (by rw [z1]; exact HZN.out)
  have ONE1 := Lib.hid one1
  have BX1 := Lib.hid bx1
  have RA1 := Lib.hid r1a
  have RB1 := Lib.hid r1b
  have RG1 := Lib.hid rg1
  have HC1 := Lib.hid hc1
  have HV1 := Lib.hid hV1
  clear z1 one1 bx1 r1a r1b rg1 hc1 hV1 o1a o1b
  have LW1 := Lib.hid ((l1).trans (ob1.mono l1.size))
  clear l1 ob1
  go_wp2_with (first
    | (refine wpList_store_row rfl 50 (.tmp 1) (.tmp 19) rfl w1.heap.size c1 rfl rfl 50 _ (heap_alloc_new _ _) SI1.out SS1.out ONE1.out ?_; rw [World.setRow_alloc_new, HV1.out]; simp only [Act.put, setIfInBounds_toArray, set_cons_zero, set_cons_succ])
    | (refine wpList_load_midA rfl 50 (.tmp 1) rfl w1.heap.size 0 rfl c1 _ (RG1.out _ (Below.refl _ _)) Try.underlying50 rfl SL1.out ?_; simp only [Act.put, setIfInBounds_toArray, set_cons_zero, set_cons_succ]))
  have hd1 := do25_own 2 0 0 5 S0 S0_ok.m S0_ok.hw S0_ok.mo _ v1 v2 V1 RA1.out RB1.out (by decide) (by decide) (by omega)
  rw [HC1.out] at hd1
  refine hd1.mono ?_
  clear hd1
  rintro e w2 ⟨⟨u1, u2, rfl, o3a, o3b⟩, l3⟩
  rw [show DoS 2 0 0 5 S0 = S1 from rfl] at o3a o3b ⊢
  have z3 := Mc.size (m := S1.m) S1_ok.m u1 u2
  have one3 := Mc.one (m := S1.m) (vh := u1) (vm := u2) o3a.one o3b.one
  have bx3 := MBox.new (m := S1.m) S1_ok.m w2 u1 u2
  have ob3 : Below w2.heap.size w2 (w2.alloc (.cells (S1.m.cells u1 u2) 50)) := (Below.refl _ _).alloc (Nat.le_refl _) _
  have r3a := o3a.below ob3
  have r3b := o3b.below ob3
  obtain ⟨c3, hc3⟩ : ∃ x, S1.m.cells u1 u2 = x := ⟨_, rfl⟩
  rw [hc3] at z3 one3 bx3 ob3 r3a r3b ⊢
  obtain ⟨V3, hV3⟩ : ∃ x, w2.alloc (.cells c3 50) = x := ⟨_, rfl⟩
  rw [hV3] at bx3 ob3 r3a r3b
  have rg3 : ∀ W, Below V3.heap.size V3 W → W.rangeAt w2.heap.size 0 c3.toList := fun W hW j u hu => by
    rw [Nat.zero_add, (bx3.below hW).blk.cell j, hc3]
    simpa using hu
  have SI3 : Hid ((Try.prog.info? 50).map (·.size) = some c3.size) := Lib.hid (by rw [z3]; exact size50)
  have SL3 : Hid ((Try.prog.info? 50).map (·.size) = some c3.toList.length) := Lib.hid (by rw [Array.length_toList, z3]; exact size50)
  have SS3 : Hid (zs.size = c3.size) := Lib.hid (by rw [z3]; exact HZN.out)
  have ONE3 := Lib.hid one3
  have BX3 := Lib.hid bx3
  have RA3 := Lib.hid r3a
  have RB3 := Lib.hid r3b
  have RG3 := Lib.hid rg3
  have HC3 := Lib.hid hc3
  have HV3 := Lib.hid hV3
  clear z3 one3 bx3 r3a r3b rg3 hc3 hV3 o3a o3b
  have D13 := Lib.hid (ch0 l3 ob3)
  have LW3 := Lib.hid (ch0 LW1.out D13.out)
  clear l3 ob3
  go_wp2_with (first
    | (refine wpList_store_row rfl 50 (.tmp 3) (.tmp 25) rfl w2.heap.size c3 rfl rfl 50 _ (heap_alloc_new _ _) SI3.out SS3.out ONE3.out ?_; rw [World.setRow_alloc_new, HV3.out]; simp only [Act.put, setIfInBounds_toArray, set_cons_zero, set_cons_succ])
    | (refine wpList_load_midA rfl 50 (.tmp 3) rfl w2.heap.size 0 rfl c3 _ (RG3.out _ (Below.refl _ _)) Try.underlying50 rfl SL3.out ?_; simp only [Act.put, setIfInBounds_toArray, set_cons_zero, set_cons_succ]))
  have hd1 := do25_own 24 0 0 0 S1 S1_ok.m S1_ok.hw S1_ok.mo _ u1 u2 V3 RA3.out RB3.out (by decide) (by decide) (by omega)
  rw [HC3.out] at hd1
  refine hd1.mono ?_
  clear hd1
  rintro e w3 ⟨⟨x1, x2, rfl, o4a, o4b⟩, l4⟩
  rw [show DoS 24 0 0 0 S1 = S2 from rfl] at o4a o4b ⊢
  have z4 := Mc.size (m := S2.m) S2_ok.m x1 x2
  have one4 := Mc.one (m := S2.m) (vh := x1) (vm := x2) o4a.one o4b.one
  have bx4 := MBox.new (m := S2.m) S2_ok.m w3 x1 x2
  have ob4 : Below w3.heap.size w3 (w3.alloc (.cells (S2.m.cells x1 x2) 50)) := (Below.refl _ _).alloc (Nat.le_refl _) _
  have r4a := o4a.below ob4
  have r4b := o4b.below ob4
  obtain ⟨c4, hc4⟩ : ∃ x, S2.m.cells x1 x2 = x := ⟨_, rfl⟩
  rw [hc4] at z4 one4 bx4 ob4 r4a r4b ⊢
  obtain ⟨V4, hV4⟩ : ∃ x, w3.alloc (.cells c4 50) = x := ⟨_, rfl⟩
  rw [hV4] at bx4 ob4 r4a r4b
  have rg4 : ∀ W, Below V4.heap.size V4 W → W.rangeAt w3.heap.size 0 c4.toList := fun W hW j u hu => by
    rw [Nat.zero_add, (bx4.below hW).blk.cell j, hc4]
    simpa using hu
  have SI4 : Hid ((Try.prog.info? 50).map (·.size) = some c4.size) := Lib.hid (by rw [z4]; exact size50)
  have SL4 : Hid ((Try.prog.info? 50).map (·.size) = some c4.toList.length) := Lib.hid (by rw [Array.length_toList, z4]; exact size50)
  have SS4 : Hid (zs.size = c4.size) := Lib.hid (by rw [z4]; exact HZN.out)
  have ONE4 := Lib.hid one4
  have BX4 := Lib.hid bx4
  have RA4 := Lib.hid r4a
  have RB4 := Lib.hid r4b
  have RG4 := Lib.hid rg4
  have HC4 := Lib.hid hc4
  have HV4 := Lib.hid hV4
  clear z4 one4 bx4 r4a r4b rg4 hc4 hV4 o4a o4b
  have D34 := Lib.hid (ch0 l4 ob4)
  have D14 := Lib.hid (ch0 D13.out D34.out)
  have LW4 := Lib.hid (ch0 LW3.out D34.out)
  clear l4 ob4
  go_wp2_with (first
    | (refine wpList_store_row rfl 50 (.tmp 4) (.tmp 28) rfl w3.heap.size c4 rfl rfl 50 _ (heap_alloc_new _ _) SI4.out SS4.out ONE4.out ?_; rw [World.setRow_alloc_new, HV4.out]; simp only [Act.put, setIfInBounds_toArray, set_cons_zero, set_cons_succ])
    | (refine wpList_load_midA rfl 50 (.tmp 1) rfl w1.heap.size 0 rfl c1 _ (RG1.out _ (D14.out.alloc D14.out.size _)) Try.underlying50 rfl SL1.out ?_; simp only [Act.put, setIfInBounds_toArray, set_cons_zero, set_cons_succ]))
  refine (runLit [24, 0] false S0 (S3, [], 0) S0_ok.m S0_ok.hw S0_ok.mo _ v1 v2 0 0 #[.int .u8 24, .int .u8 0] 2 rfl rfl (oct_lit2 _ (by decide)) (by omega) (by decide) (by decide) (by omega) (by omega) (by omega) V1 RA1.out RB1.out (fun r' h => rv1 h) c1 HC1.out V4 D14.out _ rfl).mono ?_
  rintro e w5 ⟨⟨y5a, y5b, y5c, rfl, o5a, o5b, _⟩, l5⟩
  have z5 := Mc.size (m := S3.m) S3_ok.m y5a y5b
  have one5 := Mc.one (m := S3.m) (vh := y5a) (vm := y5b) o5a.one o5b.one
  have bx5 := MBox.new (m := S3.m) S3_ok.m w5 y5a y5b
  have ob5 : Below w5.heap.size w5 (w5.alloc (.cells (S3.m.cells y5a y5b) 50)) := (Below.refl _ _).alloc (Nat.le_refl _) _
  have r5a := o5a.below ob5
  have r5b := o5b.below ob5
  obtain ⟨c5, hc5⟩ : ∃ x, S3.m.cells y5a y5b = x := ⟨_, rfl⟩
  rw [hc5] at z5 one5 bx5 ob5 r5a r5b ⊢
  obtain ⟨V5, hV5⟩ : ∃ x, w5.alloc (.cells c5 50) = x := ⟨_, rfl⟩
  rw [hV5] at bx5 ob5 r5a r5b
  have rg5 : ∀ W, Below V5.heap.size V5 W → W.rangeAt w5.heap.size 0 c5.toList := fun W hW j u hu => by
    rw [Nat.zero_add, (bx5.below hW).blk.cell j, hc5]
    simpa using hu
  have SI5 : Hid ((Try.prog.info? 50).map (·.size) = some c5.size) := Lib.hid (by rw [z5]; exact size50)
  have SL5 : Hid ((Try.prog.info? 50).map (·.size) = some c5.toList.length) := Lib.hid (by rw [Array.length_toList, z5]; exact size50)
  have SS5 : Hid (zs.size = c5.size) := Lib.hid (by rw [z5]; exact HZN.out)
  have ONE5 := Lib.hid one5
  have BX5 := Lib.hid bx5
  have RA5 := Lib.hid r5a
  have RB5 := Lib.hid r5b
  have RG5 := Lib.hid rg5
  have HC5 := Lib.hid hc5
  have HV5 := Lib.hid hV5
  clear z5 one5 bx5 r5a r5b rg5 hc5 hV5 o5a o5b
  have P5 := Lib.hid (ch1 (Below.refl _ _) (ch0 l5 ob5))
  have D15 := Lib.hid (ch0 D14.out P5.out)
  have D35 := Lib.hid (ch0 D34.out P5.out)
  have D45 := P5
  have LW5 := Lib.hid (ch0 LW4.out P5.out)
  clear l5 ob5 P5
  go_wp2_with (first
    | (refine wpList_store_row rfl 50 (.tmp 5) (.tmp 33) rfl w5.heap.size c5 rfl rfl 50 _ (heap_alloc_new _ _) SI5.out SS5.out ONE5.out ?_; rw [World.setRow_alloc_new, HV5.out]; simp only [Act.put, setIfInBounds_toArray, set_cons_zero, set_cons_succ])
    | (refine wpList_load_midA rfl 50 (.tmp 1) rfl w1.heap.size 0 rfl c1 _ (RG1.out _ (D15.out.alloc D15.out.size _)) Try.underlying50 rfl SL1.out ?_; simp only [Act.put, setIfInBounds_toArray, set_cons_zero, set_cons_succ]))
  refine (runLit [232, 254] false S0 (zS, [], 111) S0_ok.m S0_ok.hw S0_ok.mo _ v1 v2 50 0 #[.int .u8 232, .int .u8 254] 2 rfl rfl (oct_lit2 _ (by decide)) (by omega) (by decide) (by decide) (by omega) (by omega) (by omega) V1 RA1.out RB1.out (fun r' h => rv2 h) c1 HC1.out V5 D15.out _ rfl).mono ?_
  rintro e w8 ⟨⟨y8a, y8b, y8c, rfl, o8a, o8b, _⟩, l8⟩
  have z8 := Mc.size (m := zS.m) zM_ok y8a y8b
  have one8 := Mc.one (m := zS.m) (vh := y8a) (vm := y8b) o8a.one o8b.one
  have bx8 := MBox.new (m := zS.m) zM_ok w8 y8a y8b
  have ob8 : Below w8.heap.size w8 (w8.alloc (.cells (zS.m.cells y8a y8b) 50)) := (Below.refl _ _).alloc (Nat.le_refl _) _
  have r8a := o8a.below ob8
  have r8b := o8b.below ob8
  obtain ⟨c8, hc8⟩ : ∃ x, zS.m.cells y8a y8b = x := ⟨_, rfl⟩
  rw [hc8] at z8 one8 bx8 ob8 r8a r8b ⊢
  obtain ⟨V8, hV8⟩ : ∃ x, w8.alloc (.cells c8 50) = x := ⟨_, rfl⟩
  rw [hV8] at bx8 ob8 r8a r8b
  have rg8 : ∀ W, Below V8.heap.size V8 W → W.rangeAt w8.heap.size 0 c8.toList := fun W hW j u hu => by
    rw [Nat.zero_add, (bx8.below hW).blk.cell j, hc8]
    simpa using hu
  have SI8 : Hid ((Try.prog.info? 50).map (·.size) = some c8.size) := Lib.hid (by rw [z8]; exact size50)
  have SL8 : Hid ((Try.prog.info? 50).map (·.size) = some c8.toList.length) := Lib.hid (by rw [Array.length_toList, z8]; exact size50)
  have SS8 : Hid (zs.size = c8.size) := Lib.hid (by rw [z8]; exact HZN.out)
  have ONE8 := Lib.hid one8
  have BX8 := Lib.hid bx8
  have RA8 := Lib.hid r8a
  have RB8 := Lib.hid r8b
  have RG8 := Lib.hid rg8
  have HC8 := Lib.hid hc8
  have HV8 := Lib.hid hV8
  clear z8 one8 bx8 r8a r8b rg8 hc8 hV8 o8a o8b
  have P8 := Lib.hid (ch1 (Below.refl _ _) (ch0 l8 ob8))
  have D18 := Lib.hid (ch0 D15.out P8.out)
  have D38 := Lib.hid (ch0 D35.out P8.out)
  have D48 := Lib.hid (ch0 D45.out P8.out)
  have D58 := P8
  have LW8 := Lib.hid (ch0 LW5.out P8.out)
  clear l8 ob8 P8
  go_wp2_with (first
    | (refine wpList_store_row rfl 50 (.tmp 8) (.tmp 40) rfl w8.heap.size c8 rfl rfl 50 _ (heap_alloc_new _ _) SI8.out SS8.out ONE8.out ?_; rw [World.setRow_alloc_new, HV8.out]; simp only [Act.put, setIfInBounds_toArray, set_cons_zero, set_cons_succ])
    | (refine wpList_load_midA rfl 50 (.tmp 1) rfl w1.heap.size 0 rfl c1 _ (RG1.out _ (D18.out.alloc D18.out.size _)) Try.underlying50 rfl SL1.out ?_; simp only [Act.put, setIfInBounds_toArray, set_cons_zero, set_cons_succ]))
  refine (runLit [208, 208, 0] true S0 (zS, [], 112) S0_ok.m S0_ok.hw S0_ok.mo _ v1 v2 0 1 #[.int .u8 208, .int .u8 208, .int .u8 0] 3 rfl rfl (oct_lit2 _ (by decide)) (by omega) (by decide) (by decide) (by omega) (by omega) (by omega) V1 RA1.out RB1.out (fun r' h => rv3 h) c1 HC1.out V8 D18.out _ rfl).mono ?_
  rintro e w11 ⟨⟨y11a, y11b, y11c, rfl, o11a, o11b, _⟩, l11⟩
  have z11 := Mc.size (m := zS.m) zM_ok y11a y11b
  have one11 := Mc.one (m := zS.m) (vh := y11a) (vm := y11b) o11a.one o11b.one
  have bx11 := MBox.new (m := zS.m) zM_ok w11 y11a y11b
  have ob11 : Below w11.heap.size w11 (w11.alloc (.cells (zS.m.cells y11a y11b) 50)) := (Below.refl _ _).alloc (Nat.le_refl _) _
  have r11a := o11a.below ob11
  have r11b := o11b.below ob11
  obtain ⟨c11, hc11⟩ : ∃ x, zS.m.cells y11a y11b = x := ⟨_, rfl⟩
  rw [hc11] at z11 one11 bx11 ob11 r11a r11b ⊢
  obtain ⟨V11, hV11⟩ : ∃ x, w11.alloc (.cells c11 50) = x := ⟨_, rfl⟩
  rw [hV11] at bx11 ob11 r11a r11b
  have rg11 : ∀ W, Below V11.heap.size V11 W → W.rangeAt w11.heap.size 0 c11.toList := fun W hW j u hu => by
    rw [Nat.zero_add, (bx11.below hW).blk.cell j, hc11]
    simpa using hu
  have SI11 : Hid ((Try.prog.info? 50).map (·.size) = some c11.size) := Lib.hid (by rw [z11]; exact size50)
  have SL11 : Hid ((Try.prog.info? 50).map (·.size) = some c11.toList.length) := Lib.hid (by rw [Array.length_toList, z11]; exact size50)
  have SS11 : Hid (zs.size = c11.size) := Lib.hid (by rw [z11]; exact HZN.out)
  have ONE11 := Lib.hid one11
  have BX11 := Lib.hid bx11
  have RA11 := Lib.hid r11a
  have RB11 := Lib.hid r11b
  have RG11 := Lib.hid rg11
  have HC11 := Lib.hid hc11
  have HV11 := Lib.hid hV11
  clear z11 one11 bx11 r11a r11b rg11 hc11 hV11 o11a o11b
  have P11 := Lib.hid (ch1 (Below.refl _ _) (ch0 l11 ob11))
  have D111 := Lib.hid (ch0 D18.out P11.out)
  have D311 := Lib.hid (ch0 D38.out P11.out)
  have D411 := Lib.hid (ch0 D48.out P11.out)
  have D511 := Lib.hid (ch0 D58.out P11.out)
  have LW11 := Lib.hid (ch0 LW8.out P11.out)
  clear l11 ob11 P11
  go_wp2_with (first
    | (refine wpList_store_row rfl 50 (.tmp 11) (.tmp 47) rfl w11.heap.size c11 rfl rfl 50 _ (heap_alloc_new _ _) SI11.out SS11.out ONE11.out ?_; rw [World.setRow_alloc_new, HV11.out]; simp only [Act.put, setIfInBounds_toArray, set_cons_zero, set_cons_succ])
    | (refine wpList_build rfl 50 #[] rfl (by simp [HBL.out]) ?_; simp only [List.map_toArray, List.map_nil, HBL.out, Option.getD_some]))
  have hzo : OwnR V1 0 (.slice none 0 0) 45 (zS.hs.map (.int .u32)) := .inl ⟨rfl, rfl⟩
  have hzo2 : OwnR V1 0 (.slice none 0 0) 5 (zS.ms.map (.int .u8)) := .inl ⟨rfl, rfl⟩
  have zSOK : zS.m.ok ∧ Wds zS.hs ∧ Oct zS.ms := ⟨zM_ok, (fun x hx => by cases hx), (fun x hx => by cases hx)⟩
  have HZO := Lib.hid hzo
  have HZO2 := Lib.hid hzo2
  have ZSOK := Lib.hid zSOK
  clear hzo hzo2 zSOK
  refine (runLit [0] true zS (zS, [], 2) ZSOK.out.1 ZSOK.out.2.1 ZSOK.out.2.2 _ (.slice none 0 0) (.slice none 0 0) 0 1 #[.int .u8 0] 1 rfl rfl (oct_lit2 _ (by decide)) (by omega) (by decide) (by decide) (by omega) (by omega) (by omega) V1 HZO.out HZO2.out (fun r' h => rv4 h) zs HZS.out V11 D111.out _ rfl).mono ?_
  rintro e w14 ⟨⟨y14a, y14b, y14c, rfl, o14a, o14b, _⟩, l14⟩
  have z14 := Mc.size (m := zS.m) zM_ok y14a y14b
  have one14 := Mc.one (m := zS.m) (vh := y14a) (vm := y14b) o14a.one o14b.one
  have bx14 := MBox.new (m := zS.m) zM_ok w14 y14a y14b
  have ob14 : Below w14.heap.size w14 (w14.alloc (.cells (zS.m.cells y14a y14b) 50)) := (Below.refl _ _).alloc (Nat.le_refl _) _
  have r14a := o14a.below ob14
  have r14b := o14b.below ob14
  obtain ⟨c14, hc14⟩ : ∃ x, zS.m.cells y14a y14b = x := ⟨_, rfl⟩
  rw [hc14] at z14 one14 bx14 ob14 r14a r14b ⊢
  obtain ⟨V14, hV14⟩ : ∃ x, w14.alloc (.cells c14 50) = x := ⟨_, rfl⟩
  rw [hV14] at bx14 ob14 r14a r14b
  have rg14 : ∀ W, Below V14.heap.size V14 W → W.rangeAt w14.heap.size 0 c14.toList := fun W hW j u hu => by
    rw [Nat.zero_add, (bx14.below hW).blk.cell j, hc14]
    simpa using hu
  have SI14 : Hid ((Try.prog.info? 50).map (·.size) = some c14.size) := Lib.hid (by rw [z14]; exact size50)
  have SL14 : Hid ((Try.prog.info? 50).map (·.size) = some c14.toList.length) := Lib.hid (by rw [Array.length_toList, z14]; exact size50)
  have SS14 : Hid (zs.size = c14.size) := Lib.hid (by rw [z14]; exact HZN.out)
  have ONE14 := Lib.hid one14
  have BX14 := Lib.hid bx14
  have RA14 := Lib.hid r14a
  have RB14 := Lib.hid r14b
  have RG14 := Lib.hid rg14
  have HC14 := Lib.hid hc14
  have HV14 := Lib.hid hV14
  clear z14 one14 bx14 r14a r14b rg14 hc14 hV14 o14a o14b
  have P14 := Lib.hid (ch1 (Below.refl _ _) (ch0 l14 ob14))
  have D114 := Lib.hid (ch0 D111.out P14.out)
  have D314 := Lib.hid (ch0 D311.out P14.out)
  have D414 := Lib.hid (ch0 D411.out P14.out)
  have D514 := Lib.hid (ch0 D511.out P14.out)
  have LW14 := Lib.hid (ch0 LW11.out P14.out)
  clear l14 ob14 P14
  have q1 := (BX1.out.below D114.out).c0
  have q3 := (BX3.out.below D314.out).c0
  have q4 := (BX4.out.below D414.out).c0
  have q5 := (BX5.out.below D514.out).c0
  rw [a0] at q1
  rw [a1] at q3
  rw [a2] at q4
  rw [a3] at q5
  have HHO := Lib.hid (fun (W : World) (hW : Below V3.heap.size V3 W) => holds28 19 0 7 5 S1 S1_ok.m S1_ok.hw S1_ok.mo _ u1 u2 W (RA3.out.below hW) (RB3.out.below hW) (by decide) (by decide) (by omega))
  simp only [HC3.out, S1_holds] at HHO
  go_wp2_with (first
    | (refine wpList_store_row rfl 50 (.tmp 14) (.tmp 54) rfl w14.heap.size c14 rfl rfl 50 _ (heap_alloc_new _ _) SI14.out SS14.out ONE14.out ?_; rw [World.setRow_alloc_new, HV14.out]; simp only [Act.put, setIfInBounds_toArray, set_cons_zero, set_cons_succ])
    | (refine wpList_load_midA rfl 50 (.tmp 3) rfl w2.heap.size 0 rfl c3 _ (RG3.out _ D314.out) Try.underlying50 rfl SL3.out ?_; simp only [Act.put, setIfInBounds_toArray, set_cons_zero, set_cons_succ]))
  refine (HHO.out _ D314.out).mono ?_
  rintro e wz ⟨rfl, hb⟩
  have FIN := Lib.hid (ch0 LW14.out hb)
  clear hb
  go_wp2_with fail
  go_ret
  exact ⟨rfl, FIN.out⟩
end Go.Proofs.Ytebmgladdgmmeaa
