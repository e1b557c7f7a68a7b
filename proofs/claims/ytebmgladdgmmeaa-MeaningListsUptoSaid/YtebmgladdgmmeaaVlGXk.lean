/- The chapter's examples of chapter 22: the walk of awake. No condition. -/
import Derived.Test.YtebmgladdgmmeaaVlGXj
import Derived.Test.YtebmgladdgmmeaaVlGAw
namespace Go.Proofs.Ytebmgladdgmmeaa
open Go.RowKit Go.WideShapes
open List (setIfInBounds_toArray set_cons_zero set_cons_succ)
set_option linter.unusedVariables false
set_option linter.unusedSimpArgs false
theorem new_st (w : World) : Calls Try.prog 23 #[.int .i64 0, .int .i64 0] w (fun e w' => (∃ v1 v2, e = .returned (.tuple #[.agg ((st 0 0 false).m.cells v1 v2), .int .i64 0]) ∧ OwnR w' w.heap.size v1 45 ((st 0 0 false).hs.map (.int .u32)) ∧ OwnR w' w.heap.size v2 5 ((st 0 0 false).ms.map (.int .u8))) ∧ Below w.heap.size w w') :=
  (new23_ok 0 0 w (by omega) (by omega)).mono fun e w' h => h
theorem cells_left {w : World} {g : Nat} {us : Array Value} {l r : List Value} (hb : Blk w g 35 us) (e : us.toList = l ++ r) : ∀ j u, l[j]? = some u → w.cell? ⟨g, 0 + j, none⟩ = some u := fun j u hu => by
  rw [Nat.zero_add, hb.cell j, ← Array.getElem?_toList, e, List.getElem?_append_left (List.getElem?_eq_some_iff.1 hu).1]
  exact hu
theorem cells_right {w : World} {g : Nat} {us : Array Value} {l r : List Value} (hb : Blk w g 35 us) (e : us.toList = l ++ r) (n : Nat) (hn : n = l.length) : ∀ j u, r[j]? = some u → w.cell? ⟨g, n + j, none⟩ = some u := fun j u hu => by
  rw [hb.cell (n + j), ← Array.getElem?_toList, e, List.getElem?_append_right (by omega), hn, Nat.add_sub_cancel_left]
  exact hu
theorem ok_of (h : Hd) (hk : 0 ≤ h.k ∧ h.k ≤ 255) (hi : 0 ≤ h.i.o ∧ h.i.o ≤ 255) (hc : 0 ≤ h.ci.o ∧ h.ci.o ≤ 255) (n1 : ∀ x ∈ [h.i.d, h.i.s, h.i.n, h.ci.d, h.ci.s, h.ci.n, h.ln], 0 ≤ x ∧ x ≤ 1000) : h.ok := by
  simp at n1
  obtain ⟨a1, a2, a3, a4, a5, a6, a7⟩ := n1
  exact ⟨hk.1, hk.2, ⟨hi.1, hi.2, by omega, by omega, by omega, by omega, by omega, by omega⟩, ⟨hc.1, hc.2, by omega, by omega, by omega, by omega, by omega, by omega⟩, by omega, by omega⟩
theorem hInc_ok : hInc.ok := ok_of _ (by decide) (by decide) (by decide) (by decide)
theorem hLoop_ok : hLoop.ok := ok_of _ (by decide) (by decide) (by decide) (by decide)
theorem hHalt_ok : hHalt.ok := ok_of _ (by decide) (by decide) (by decide) (by decide)
theorem hIf_ok : hIf.ok := ok_of _ (by decide) (by decide) (by decide) (by decide)
abbrev cI : Array Value := #[.int .u8 1, .int .u8 3, .int .i64 0, .int .i64 0, .int .i64 0, .bool false, .int .u8 0, .int .i64 0, .int .i64 0, .int .i64 0, .slice none 0 0, .slice none 0 0, .int .i64 0]
abbrev cL (g : Nat) : Array Value := #[.int .u8 3, .int .u8 0, .int .i64 0, .int .i64 0, .int .i64 0, .bool false, .int .u8 20, .int .i64 0, .int .i64 7, .int .i64 5, .slice (some ⟨g, 0, none⟩) 1 1, .slice none 0 0, .int .i64 0]
abbrev cH : Array Value := #[.int .u8 4, .int .u8 0, .int .i64 0, .int .i64 0, .int .i64 0, .bool false, .int .u8 0, .int .i64 0, .int .i64 0, .int .i64 0, .slice none 0 0, .slice none 0 0, .int .i64 0]
abbrev cT (g : Nat) : Array Value := #[.int .u8 2, .int .u8 0, .int .i64 0, .int .i64 0, .int .i64 0, .bool false, .int .u8 19, .int .i64 0, .int .i64 7, .int .i64 0, .slice (some ⟨g, 0, none⟩) 1 1, .slice none 0 0, .int .i64 0, .int .u8 1, .int .u8 3, .int .i64 0, .int .i64 0, .int .i64 0, .bool false, .int .u8 0, .int .i64 0, .int .i64 0, .int .i64 0, .slice none 0 0, .slice none 0 0, .int .i64 0]
theorem ll0 : (0 : Nat) ≤ 0 ∧ 0 ≤ maxLen ∧ 0 ≤ lenMost := ⟨Nat.le_refl _, Nat.zero_le _, Nat.zero_le _⟩
theorem ll1 : (1 : Nat) ≤ 1 ∧ 1 ≤ maxLen ∧ 1 ≤ lenMost := ⟨Nat.le_refl _, by unfold maxLen; omega, by unfold lenMost; omega⟩
/-- The chapter's programs in memory. -/
theorem rows_aw (V : World) : ∃ W, ((((((V.alloc (.cells cI 35)).alloc (.cells cI 35)).alloc (.cells (cL (V.heap.size + 1)) 35)).alloc (.cells cH 35)).alloc (.cells (cT (V.heap.size + 1 + 1 + 1)) 35)).alloc (.cells cI 35)) = W ∧ Below V.heap.size V W ∧
    RdS W.heap.size W (some ⟨V.heap.size + 1 + 1 + 1 + 1 + 1, 0, none⟩) fInc ∧ RdS W.heap.size W (some ⟨V.heap.size + 1 + 1, 0, none⟩) fLoop ∧ RdS W.heap.size W (some ⟨V.heap.size + 1 + 1 + 1 + 1, 0, none⟩) fStop := by
  have b1 := ((((Blk.new (V.alloc (.cells cI 35)) 35 cI).alloc (.cells (cL (V.heap.size + 1)) 35)).alloc (.cells cH 35)).alloc (.cells (cT (V.heap.size + 1 + 1 + 1)) 35)).alloc (.cells cI 35)
  have b2 := (((Blk.new ((V.alloc (.cells cI 35)).alloc (.cells cI 35)) 35 (cL (V.heap.size + 1))).alloc (.cells cH 35)).alloc (.cells (cT (V.heap.size + 1 + 1 + 1)) 35)).alloc (.cells cI 35)
  have b3 := ((Blk.new (((V.alloc (.cells cI 35)).alloc (.cells cI 35)).alloc (.cells (cL (V.heap.size + 1)) 35)) 35 cH).alloc (.cells (cT (V.heap.size + 1 + 1 + 1)) 35)).alloc (.cells cI 35)
  have b4 := (Blk.new ((((V.alloc (.cells cI 35)).alloc (.cells cI 35)).alloc (.cells (cL (V.heap.size + 1)) 35)).alloc (.cells cH 35)) 35 (cT (V.heap.size + 1 + 1 + 1))).alloc (.cells cI 35)
  have b5 := Blk.new (((((V.alloc (.cells cI 35)).alloc (.cells cI 35)).alloc (.cells (cL (V.heap.size + 1)) 35)).alloc (.cells cH 35)).alloc (.cells (cT (V.heap.size + 1 + 1 + 1)) 35)) 35 cI
  have hb : Below V.heap.size V ((((((V.alloc (.cells cI 35)).alloc (.cells cI 35)).alloc (.cells (cL (V.heap.size + 1)) 35)).alloc (.cells cH 35)).alloc (.cells (cT (V.heap.size + 1 + 1 + 1)) 35)).alloc (.cells cI 35)) :=
    ((((((Below.refl _ _).alloc (Nat.le_refl _) _).alloc (by simp) _).alloc (by simp; omega) _).alloc (by simp; omega) _).alloc (by simp; omega) _).alloc (by simp; omega) _
  simp only [World.size_alloc] at b1 b2 b3 b4 b5
  obtain ⟨W, hW⟩ : ∃ W, ((((((V.alloc (.cells cI 35)).alloc (.cells cI 35)).alloc (.cells (cL (V.heap.size + 1)) 35)).alloc (.cells cH 35)).alloc (.cells (cT (V.heap.size + 1 + 1 + 1)) 35)).alloc (.cells cI 35)) = W := ⟨_, rfl⟩
  rw [hW] at b1 b2 b3 b4 b5 hb
  have inc : ∀ g o, g < W.heap.size → (∀ j u, (hInc.cells (.slice none 0 0) (.slice none 0 0))[j]? = some u → W.cell? ⟨g, o + j, none⟩ = some u) → RdF W.heap.size W fInc g o := fun g o hg hc => ⟨hInc_ok, hg, ⟨none, 0, none, 0, hc, ll0, ll0, (fun h => absurd h (by decide)), (fun h => absurd h (by decide))⟩, trivial⟩
  have i1 := inc _ 0 b1.lt (cells_left (r := []) b1 rfl)
  have i5 := inc _ 0 b5.lt (cells_left (r := []) b5 rfl)
  have hh : RdF W.heap.size W (.cons hHalt .nil .nil .nil) (V.heap.size + 1 + 1 + 1) 0 := ⟨hHalt_ok, b3.lt, ⟨none, 0, none, 0, cells_left (r := []) b3 rfl, ll0, ll0, (fun h => absurd h (by decide)), (fun h => absurd h (by decide))⟩, trivial⟩
  refine ⟨W, hW, hb, fun _ => ⟨_, 0, rfl, i5⟩, fun _ => ⟨_, 0, rfl, hLoop_ok, b2.lt, ⟨some ⟨V.heap.size + 1, 0, none⟩, 1, none, 0, cells_left (r := []) b2 rfl, ll1, ll0, (fun _ => ⟨_, 0, rfl, i1⟩), (fun h => absurd h (by decide))⟩, trivial⟩, fun _ => ⟨_, 0, rfl, hIf_ok, b4.lt, ⟨some ⟨V.heap.size + 1 + 1 + 1, 0, none⟩, 1, none, 0, cells_left (r := hInc.cells (.slice none 0 0) (.slice none 0 0)) b4 rfl, ll1, ll0, (fun _ => ⟨_, 0, rfl, hh⟩), (fun h => absurd h (by decide))⟩, inc _ 13 b4.lt (cells_right (l := hIf.cells (.slice (some ⟨V.heap.size + 1 + 1 + 1, 0, none⟩) 1 1) (.slice none 0 0)) b4 rfl 13 rfl)⟩⟩
/-- Run of a program in memory, told by its value. -/
theorem runLitM (f : Fo) (A : Option Addr) (n : Nat) (post : Bool) (s : St) (r : St × List Int × Int) (hs : s.m.ok) (hw : Wds s.hs) (mo : Oct s.ms) (b : Nat) (v1 v2 : Value) (fuel most : Int) (hn : n = f.len) (hl : f.len ≤ lenMost) (ht : f.tot ≤ 1000000)
    (lh : s.hs.length ≤ 5000) (lm : s.ms.length ≤ 5000) (hfu : fuel ≤ 1000) (hmo : most ≤ 1000) (V : World) (hr1 : OwnR V b v1 45 (s.hs.map (.int .u32))) (hr2 : OwnR V b v2 5 (s.ms.map (.int .u8))) (hv : ∀ r', RunM f post s fuel most r' → r' = r) (cs : Array Value) (hcs : s.m.cells v1 v2 = cs)
    (W0 W : World) (hr : RdS W0.heap.size W0 A f) (hV : Below V.heap.size V W) (hW : Below W0.heap.size W0 W) :
    Calls Try.prog 36 #[.slice A n n, .bool post, .agg cs, .int .i64 fuel, .int .i64 most] W (IsRan0 r W) := by
  subst hn hcs
  refine (run36 f A f.len post s hs hw mo b v1 v2 fuel most W ((hr.below hW).mono hW.size) (Nat.le_refl _) hl ht (hr1.below hV) (hr2.below hV) lh lm hfu hmo).mono ?_
  rintro e w' ⟨r', h1, h2⟩
  rw [hv r' h1] at h2
  exact h2
theorem st0_ok : (st 0 0 false).ok := st_ok false u32_0 u32_0
set_option maxRecDepth 100000 in
set_option maxHeartbeats 16000000 in
theorem awake35 (w : World) : Calls Try.prog 35 #[] w (Quiet (.bool true) w) := by
  have hz := (zero_of_info zero50).1
  have HNEW := Lib.hid (new_st w)
  obtain ⟨zs, hzs⟩ : ∃ x, zCells = x := ⟨_, rfl⟩
  simp only [hzs] at hz
  have HZN : Hid (zs.size = 263) := Lib.hid (by rw [← hzs]; exact Mc.size zM_ok _ _)
  clear hzs
  go_enter Try.func35, Try.ntmps35
  go_wp2_with fail
  refine HNEW.out.mono ?_
  rintro e w1 ⟨⟨v1, v2, rfl, o1a, o1b⟩, l1⟩
  have z1 := Mc.size (m := (st 0 0 false).m) st0_ok.m v1 v2
  have one1 := Mc.one (m := (st 0 0 false).m) (vh := v1) (vm := v2) o1a.one o1b.one
  have bx1 := MBox.new (m := (st 0 0 false).m) st0_ok.m w1 v1 v2
  have ob1 : Below w1.heap.size w1 (w1.alloc (.cells ((st 0 0 false).m.cells v1 v2) 50)) := (Below.refl _ _).alloc (Nat.le_refl _) _
  have r1a := o1a.below ob1
  have r1b := o1b.below ob1
  obtain ⟨c1, hc1⟩ : ∃ x, (st 0 0 false).m.cells v1 v2 = x := ⟨_, rfl⟩
  rw [hc1] at z1 one1 bx1 ob1 r1a r1b ⊢
  obtain ⟨V1, hV1⟩ : ∃ x, w1.alloc (.cells c1 50) = x := ⟨_, rfl⟩
  rw [hV1] at bx1 ob1 r1a r1b
  have rg1 : ∀ W, Below V1.heap.size V1 W → W.rangeAt w1.heap.size 0 c1.toList := fun W hW j u hu => by
    rw [Nat.zero_add, (bx1.below hW).blk.cell j, hc1]
    simpa using hu
  have SI1 : Hid ((Try.prog.info? 50).map (·.size) = some c1.size) := Lib.hid (by rw [z1]; exact size50)
  have SL1 : Hid ((Try.prog.info? 50).map (·.size) = some c1.toList.length) := Lib.hid (by rw [Array.length_toList, z1]; exact size50)
  have SS1 : Hid (zs.size = c1.size) := Lib.hid (by rw [z1]; exact HZN.out)
  have ONE1 := Lib.hid one1
  have BX1 := Lib.hid bx1
  have RA1 := Lib.hid r1a
  have RB1 := Lib.hid r1b
  have RG1 := Lib.hid rg1
  have HC1 := Lib.hid hc1
  have HV1 := Lib.hid hV1
  clear z1 one1 bx1 r1a r1b rg1 hc1 hV1 o1a o1b
  have LW1 := Lib.hid (l1.trans (ob1.mono l1.size))
  clear l1 ob1
  obtain ⟨W6, hW6, hb6, rd1, rd2, rd3⟩ := rows_aw V1
  have D16 := Lib.hid hb6
  have RD1 := Lib.hid rd1
  have RD2 := Lib.hid rd2
  have RD3 := Lib.hid rd3
  have LW6 := Lib.hid (ch0 LW1.out hb6)
  clear hb6 rd1 rd2 rd3
  go_wp2_with (first
    | (refine wpList_store_row rfl 50 (.tmp 1) (.tmp 20) rfl w1.heap.size c1 rfl rfl 50 _ (heap_alloc_new _ _) SI1.out SS1.out ONE1.out ?_; rw [World.setRow_alloc_new, HV1.out]; simp only [Act.put, setIfInBounds_toArray, set_cons_zero, set_cons_succ])
    | (refine wpList_load_midA rfl 50 (.tmp 1) rfl w1.heap.size 0 rfl c1 _ (RG1.out _ D16.out) Try.underlying50 rfl SL1.out ?_; simp only [Act.put, setIfInBounds_toArray, set_cons_zero, set_cons_succ]))
  try rw [hW6]
  clear hW6
  refine (runLitM fInc (some ⟨V1.heap.size + 1 + 1 + 1 + 1 + 1, 0, none⟩) _ false (st 0 0 false) (st 1 0 false, [], 0) st0_ok.m st0_ok.hw st0_ok.mo _ v1 v2 0 0 rfl (by decide) (by decide +kernel) (by decide) (by decide) (by omega) (by omega) V1 RA1.out RB1.out (fun r' h => aw1 h) c1 HC1.out W6 W6 RD1.out D16.out (Below.refl _ _)).mono ?_
  rintro e w7 ⟨⟨y7a, y7b, y7c, rfl, o7a, o7b, _⟩, l7⟩
  have z7 := Mc.size (m := (st 1 0 false).m) (st_ok false (by unfold U32; omega) (by unfold U32; omega)).m y7a y7b
  have one7 := Mc.one (m := (st 1 0 false).m) (vh := y7a) (vm := y7b) o7a.one o7b.one
  have bx7 := MBox.new (m := (st 1 0 false).m) (st_ok false (by unfold U32; omega) (by unfold U32; omega)).m w7 y7a y7b
  have ob7 : Below w7.heap.size w7 (w7.alloc (.cells ((st 1 0 false).m.cells y7a y7b) 50)) := (Below.refl _ _).alloc (Nat.le_refl _) _
  have r7a := o7a.below ob7
  have r7b := o7b.below ob7
  obtain ⟨c7, hc7⟩ : ∃ x, (st 1 0 false).m.cells y7a y7b = x := ⟨_, rfl⟩
  rw [hc7] at z7 one7 bx7 ob7 r7a r7b ⊢
  obtain ⟨V7, hV7⟩ : ∃ x, w7.alloc (.cells c7 50) = x := ⟨_, rfl⟩
  rw [hV7] at bx7 ob7 r7a r7b
  have rg7 : ∀ W, Below V7.heap.size V7 W → W.rangeAt w7.heap.size 0 c7.toList := fun W hW j u hu => by
    rw [Nat.zero_add, (bx7.below hW).blk.cell j, hc7]
    simpa using hu
  have SI7 : Hid ((Try.prog.info? 50).map (·.size) = some c7.size) := Lib.hid (by rw [z7]; exact size50)
  have SL7 : Hid ((Try.prog.info? 50).map (·.size) = some c7.toList.length) := Lib.hid (by rw [Array.length_toList, z7]; exact size50)
  have SS7 : Hid (zs.size = c7.size) := Lib.hid (by rw [z7]; exact HZN.out)
  have ONE7 := Lib.hid one7
  have BX7 := Lib.hid bx7
  have RA7 := Lib.hid r7a
  have RB7 := Lib.hid r7b
  have RG7 := Lib.hid rg7
  have HC7 := Lib.hid hc7
  have HV7 := Lib.hid hV7
  clear z7 one7 bx7 r7a r7b rg7 hc7 hV7 o7a o7b
  have P7 := Lib.hid (ch0 l7 ob7)
  have D67 := P7
  have D17 := Lib.hid (ch0 D16.out P7.out)
  have LW7 := Lib.hid (ch0 LW6.out P7.out)
  clear l7 ob7
  go_wp2_with (first
    | (refine wpList_store_row rfl 50 (.tmp 6) (.tmp 42) rfl w7.heap.size c7 rfl rfl 50 _ (heap_alloc_new _ _) SI7.out SS7.out ONE7.out ?_; rw [World.setRow_alloc_new, HV7.out]; simp only [Act.put, setIfInBounds_toArray, set_cons_zero, set_cons_succ])
    | (refine wpList_load_midA rfl 50 (.tmp 1) rfl w1.heap.size 0 rfl c1 _ (RG1.out _ D17.out) Try.underlying50 rfl SL1.out ?_; simp only [Act.put, setIfInBounds_toArray, set_cons_zero, set_cons_succ]))
  refine (runLitM fLoop (some ⟨V1.heap.size + 1 + 1, 0, none⟩) _ false (st 0 0 false) (st 5 0 false, [], 0) st0_ok.m st0_ok.hw st0_ok.mo _ v1 v2 4 0 rfl (by decide) (by decide +kernel) (by decide) (by decide) (by omega) (by omega) V1 RA1.out RB1.out (fun r' h => aw2 h) c1 HC1.out W6 V7 RD2.out D17.out D67.out).mono ?_
  rintro e w9 ⟨⟨y9a, y9b, y9c, rfl, o9a, o9b, _⟩, l9⟩
  have z9 := Mc.size (m := (st 5 0 false).m) (st_ok false (by unfold U32; omega) (by unfold U32; omega)).m y9a y9b
  have one9 := Mc.one (m := (st 5 0 false).m) (vh := y9a) (vm := y9b) o9a.one o9b.one
  have bx9 := MBox.new (m := (st 5 0 false).m) (st_ok false (by unfold U32; omega) (by unfold U32; omega)).m w9 y9a y9b
  have ob9 : Below w9.heap.size w9 (w9.alloc (.cells ((st 5 0 false).m.cells y9a y9b) 50)) := (Below.refl _ _).alloc (Nat.le_refl _) _
  have r9a := o9a.below ob9
  have r9b := o9b.below ob9
  obtain ⟨c9, hc9⟩ : ∃ x, (st 5 0 false).m.cells y9a y9b = x := ⟨_, rfl⟩
  rw [hc9] at z9 one9 bx9 ob9 r9a r9b ⊢
  obtain ⟨V9, hV9⟩ : ∃ x, w9.alloc (.cells c9 50) = x := ⟨_, rfl⟩
  rw [hV9] at bx9 ob9 r9a r9b
  have rg9 : ∀ W, Below V9.heap.size V9 W → W.rangeAt w9.heap.size 0 c9.toList := fun W hW j u hu => by
    rw [Nat.zero_add, (bx9.below hW).blk.cell j, hc9]
    simpa using hu
  have SI9 : Hid ((Try.prog.info? 50).map (·.size) = some c9.size) := Lib.hid (by rw [z9]; exact size50)
  have SL9 : Hid ((Try.prog.info? 50).map (·.size) = some c9.toList.length) := Lib.hid (by rw [Array.length_toList, z9]; exact size50)
  have SS9 : Hid (zs.size = c9.size) := Lib.hid (by rw [z9]; exact HZN.out)
  have ONE9 := Lib.hid one9
  have BX9 := Lib.hid bx9
  have RA9 := Lib.hid r9a
  have RB9 := Lib.hid r9b
  have RG9 := Lib.hid rg9
  have HC9 := Lib.hid hc9
  have HV9 := Lib.hid hV9
  clear z9 one9 bx9 r9a r9b rg9 hc9 hV9 o9a o9b
  have P9 := Lib.hid (ch0 l9 ob9)
  have D69 := Lib.hid (ch0 D67.out P9.out)
  have D19 := Lib.hid (ch0 D17.out P9.out)
  have D79 := P9
  have LW9 := Lib.hid (ch0 LW7.out P9.out)
  clear l9 ob9
  go_wp2_with (first
    | (refine wpList_store_row rfl 50 (.tmp 9) (.tmp 49) rfl w9.heap.size c9 rfl rfl 50 _ (heap_alloc_new _ _) SI9.out SS9.out ONE9.out ?_; rw [World.setRow_alloc_new, HV9.out]; simp only [Act.put, setIfInBounds_toArray, set_cons_zero, set_cons_succ])
    | (refine wpList_load_midA rfl 50 (.tmp 1) rfl w1.heap.size 0 rfl c1 _ (RG1.out _ D19.out) Try.underlying50 rfl SL1.out ?_; simp only [Act.put, setIfInBounds_toArray, set_cons_zero, set_cons_succ]))
  refine (runLitM fLoop (some ⟨V1.heap.size + 1 + 1, 0, none⟩) _ false (st 0 0 false) (zS, [], 111) st0_ok.m st0_ok.hw st0_ok.mo _ v1 v2 3 0 rfl (by decide) (by decide +kernel) (by decide) (by decide) (by omega) (by omega) V1 RA1.out RB1.out (fun r' h => aw3 h) c1 HC1.out W6 V9 RD2.out D19.out D69.out).mono ?_
  rintro e w12 ⟨⟨y12a, y12b, y12c, rfl, o12a, o12b, _⟩, l12⟩
  have z12 := Mc.size (m := zS.m) zM_ok y12a y12b
  have one12 := Mc.one (m := zS.m) (vh := y12a) (vm := y12b) o12a.one o12b.one
  have bx12 := MBox.new (m := zS.m) zM_ok w12 y12a y12b
  have ob12 : Below w12.heap.size w12 (w12.alloc (.cells (zS.m.cells y12a y12b) 50)) := (Below.refl _ _).alloc (Nat.le_refl _) _
  have r12a := o12a.below ob12
  have r12b := o12b.below ob12
  obtain ⟨c12, hc12⟩ : ∃ x, zS.m.cells y12a y12b = x := ⟨_, rfl⟩
  rw [hc12] at z12 one12 bx12 ob12 r12a r12b ⊢
  obtain ⟨V12, hV12⟩ : ∃ x, w12.alloc (.cells c12 50) = x := ⟨_, rfl⟩
  rw [hV12] at bx12 ob12 r12a r12b
  have rg12 : ∀ W, Below V12.heap.size V12 W → W.rangeAt w12.heap.size 0 c12.toList := fun W hW j u hu => by
    rw [Nat.zero_add, (bx12.below hW).blk.cell j, hc12]
    simpa using hu
  have SI12 : Hid ((Try.prog.info? 50).map (·.size) = some c12.size) := Lib.hid (by rw [z12]; exact size50)
  have SL12 : Hid ((Try.prog.info? 50).map (·.size) = some c12.toList.length) := Lib.hid (by rw [Array.length_toList, z12]; exact size50)
  have SS12 : Hid (zs.size = c12.size) := Lib.hid (by rw [z12]; exact HZN.out)
  have ONE12 := Lib.hid one12
  have BX12 := Lib.hid bx12
  have RA12 := Lib.hid r12a
  have RB12 := Lib.hid r12b
  have RG12 := Lib.hid rg12
  have HC12 := Lib.hid hc12
  have HV12 := Lib.hid hV12
  clear z12 one12 bx12 r12a r12b rg12 hc12 hV12 o12a o12b
  have P12 := Lib.hid (ch0 l12 ob12)
  have D612 := Lib.hid (ch0 D69.out P12.out)
  have D112 := Lib.hid (ch0 D19.out P12.out)
  have D712 := Lib.hid (ch0 D79.out P12.out)
  have D912 := P12
  have LW12 := Lib.hid (ch0 LW9.out P12.out)
  clear l12 ob12
  go_wp2_with (first
    | (refine wpList_store_row rfl 50 (.tmp 12) (.tmp 56) rfl w12.heap.size c12 rfl rfl 50 _ (heap_alloc_new _ _) SI12.out SS12.out ONE12.out ?_; rw [World.setRow_alloc_new, HV12.out]; simp only [Act.put, setIfInBounds_toArray, set_cons_zero, set_cons_succ])
    | (refine wpList_load_midA rfl 50 (.tmp 1) rfl w1.heap.size 0 rfl c1 _ (RG1.out _ D112.out) Try.underlying50 rfl SL1.out ?_; simp only [Act.put, setIfInBounds_toArray, set_cons_zero, set_cons_succ]))
  refine (runLitM fStop (some ⟨V1.heap.size + 1 + 1 + 1 + 1, 0, none⟩) _ false (st 0 0 false) (st 0 0 true, [], 0) st0_ok.m st0_ok.hw st0_ok.mo _ v1 v2 0 0 rfl (by decide) (by decide +kernel) (by decide) (by decide) (by omega) (by omega) V1 RA1.out RB1.out (fun r' h => aw4 h) c1 HC1.out W6 V12 RD3.out D112.out D612.out).mono ?_
  rintro e w15 ⟨⟨y15a, y15b, y15c, rfl, o15a, o15b, _⟩, l15⟩
  have z15 := Mc.size (m := (st 0 0 true).m) (st_ok true (by unfold U32; omega) (by unfold U32; omega)).m y15a y15b
  have one15 := Mc.one (m := (st 0 0 true).m) (vh := y15a) (vm := y15b) o15a.one o15b.one
  have bx15 := MBox.new (m := (st 0 0 true).m) (st_ok true (by unfold U32; omega) (by unfold U32; omega)).m w15 y15a y15b
  have ob15 : Below w15.heap.size w15 (w15.alloc (.cells ((st 0 0 true).m.cells y15a y15b) 50)) := (Below.refl _ _).alloc (Nat.le_refl _) _
  have r15a := o15a.below ob15
  have r15b := o15b.below ob15
  obtain ⟨c15, hc15⟩ : ∃ x, (st 0 0 true).m.cells y15a y15b = x := ⟨_, rfl⟩
  rw [hc15] at z15 one15 bx15 ob15 r15a r15b ⊢
  obtain ⟨V15, hV15⟩ : ∃ x, w15.alloc (.cells c15 50) = x := ⟨_, rfl⟩
  rw [hV15] at bx15 ob15 r15a r15b
  have rg15 : ∀ W, Below V15.heap.size V15 W → W.rangeAt w15.heap.size 0 c15.toList := fun W hW j u hu => by
    rw [Nat.zero_add, (bx15.below hW).blk.cell j, hc15]
    simpa using hu
  have SI15 : Hid ((Try.prog.info? 50).map (·.size) = some c15.size) := Lib.hid (by rw [z15]; exact size50)
  have SL15 : Hid ((Try.prog.info? 50).map (·.size) = some c15.toList.length) := Lib.hid (by rw [Array.length_toList, z15]; exact size50)
  have SS15 : Hid (zs.size = c15.size) := Lib.hid (by rw [z15]; exact HZN.out)
  have ONE15 := Lib.hid one15
  have BX15 := Lib.hid bx15
  have RA15 := Lib.hid r15a
  have RB15 := Lib.hid r15b
  have RG15 := Lib.hid rg15
  have HC15 := Lib.hid hc15
  have HV15 := Lib.hid hV15
  clear z15 one15 bx15 r15a r15b rg15 hc15 hV15 o15a o15b
  have P15 := Lib.hid (ch0 l15 ob15)
  have D715 := Lib.hid (ch0 D712.out P15.out)
  have D915 := Lib.hid (ch0 D912.out P15.out)
  have LW15 := Lib.hid (ch0 LW12.out P15.out)
  clear l15 ob15
  have q6 : V15.cell? ⟨w7.heap.size, 0, none⟩ = some (.int .u32 1) := (BX7.out.below D715.out).c0
  have q9 : V15.cell? ⟨w9.heap.size, 0, none⟩ = some (.int .u32 5) := (BX9.out.below D915.out).c0
  have q15 : V15.cell? ⟨w15.heap.size, 0, none⟩ = some (.int .u32 0) := BX15.out.c0
  have r15 : V15.cell? ⟨w15.heap.size, 4, none⟩ = some (.bool true) := BX15.out.c4
  go_wp2_with (first
    | (refine wpList_store_row rfl 50 (.tmp 15) (.tmp 63) rfl w15.heap.size c15 rfl rfl 50 _ (heap_alloc_new _ _) SI15.out SS15.out ONE15.out ?_; rw [World.setRow_alloc_new, HV15.out]; simp only [Act.put, setIfInBounds_toArray, set_cons_zero, set_cons_succ]))
  go_ret
  exact ⟨rfl, LW15.out⟩
end Go.Proofs.Ytebmgladdgmmeaa
