/- The instruction that bytes say, case by case: walks. Conditions: a place within, at most 65536 bytes. -/
import Derived.Test.YtebmgladdgmmeaaVdCoG0
namespace Go.Proofs.Ytebmgladdgmmeaa
open Go.RowKit Go.WideShapes
open List (setIfInBounds_toArray set_cons_zero set_cons_succ)
set_option linter.unusedVariables false
set_option linter.unusedSimpArgs false
set_option maxRecDepth 100000 in
set_option maxHeartbeats 8000000 in
theorem get_0low (bs : List Int) (A : Option Addr) (n c a : Nat) (w : World) (b o low : Int) (hn : n = bs.length) (ho : Oct bs) (hr : Rd w A (octs bs)) (hlt : a < n) (hn2 : n ≤ 65536) (hb : bs.getD a 0 = b) (hbo : b / 8 = o) (hbl : b % 8 = low) (h : shO o = ⟨false, 0, false, false, false, false, false⟩) : Calls Try.prog 64 #[.slice A n c, .int .i64 a] w (IsGot (getN bs a) w) := by
  have hbb := ho.getD a
  rw [hb] at hbb
  have b0 := hbb.1
  have b1 := hbb.2
  have l0 : 0 ≤ low := by omega
  have l1 : low ≤ 7 := by omega
  have o0 : 0 ≤ o := by omega
  have o1 : o ≤ 31 := by omega
  have hand := and7 b b0 b1
  rw [hbl] at hand
  obtain ⟨blk, off, rfl, hbk, hcell⟩ := hr (by rw [octs_length]; omega)
  have hcl : ∀ k W, k < n → Below w.heap.size w W → W.cell? ⟨blk, off + k, none⟩ = some (.int .u8 (bs.getD k 0)) := fun k W hk hW => (hW.cell (p := ⟨blk, off + k, none⟩) hbk).trans (hcell k _ (octs_at (by omega)))
  have HC := Lib.hid hcl
  have hgd : ∀ k, 0 ≤ bs.getD k 0 ∧ bs.getD k 0 ≤ 255 := fun k => ho.getD k
  have HG := Lib.hid hgd
  have hrow := fun W => shape_any o W o0
  have hR : ∀ w e w', IsSh o w e w' → e = .returned (.agg #[.bool false, .int .i64 (0), .bool false, .bool false, .bool false, .bool false, .bool false]) ∧ Below w.heap.size w w' := fun w e w' hh => ⟨by rw [hh.1, h]; rfl, hh.2⟩
  have HROW := Lib.hid fun w => (hrow w).mono (hR w)
  have H := Lib.hid h
  have HBV := Lib.hid hb
  have HN := Lib.hid hn
  have BA : Below w.heap.size w (w.alloc (.cells #[.int .u8 0, .int .i64 0, .int .i64 0, .int .i64 0] 31)) := (Below.refl _ _).alloc (Nat.le_refl _) _
  have c0 := hcl a _ hlt BA
  rw [hb] at c0
  have BQ : Below w.heap.size w ((w.alloc (.cells #[.int .u8 0, .int .i64 0, .int .i64 0, .int .i64 0] 31)).alloc (.cells #[.int .u8 o, .int .i64 0, .int .i64 0, .int .i64 0] 31)) := BA.alloc BA.size _
  have c1 := hcl a _ hlt BQ
  rw [hb] at c1
  have g1 : decide ((n : Int) ≤ (a : Int)) = false := by simp; omega
  have g2 : decide ((65536 : Int) < (n : Int)) = false := by simp; omega
  have g3 : (a : Int) < (n : Int) := by omega
  have HBQ := Lib.hid BQ
  have hqb := Blk.new (w.alloc (.cells #[.int .u8 0, .int .i64 0, .int .i64 0, .int .i64 0] 31)) 31 #[.int .u8 o, .int .i64 0, .int .i64 0, .int .i64 0]
  rw [World.size_alloc] at hqb
  have HQ0 := Lib.hid hqb
  have HZ0 := Lib.hid ((Blk.new w 31 #[.int .u8 0, .int .i64 0, .int .i64 0, .int .i64 0]).alloc (.cells #[.int .u8 o, .int .i64 0, .int .i64 0, .int .i64 0] 31))
  have hqb := hqb.alloc (.cells #[.bool false, .int .i64 0, .bool false, .bool false, .bool false, .bool false, .bool false] 82)
  have HQB := Lib.hid hqb
  have hrb := Blk.new ((w.alloc (.cells #[.int .u8 0, .int .i64 0, .int .i64 0, .int .i64 0] 31)).alloc (.cells #[.int .u8 o, .int .i64 0, .int .i64 0, .int .i64 0] 31)) 82 #[.bool false, .int .i64 0, .bool false, .bool false, .bool false, .bool false, .bool false]
  rw [World.size_alloc, World.size_alloc] at hrb
  have HRB := Lib.hid hrb
  have HBR := Lib.hid (BQ.alloc BQ.size (.cells #[.bool false, .int .i64 0, .bool false, .bool false, .bool false, .bool false, .bool false] 82))
  have q0 := hqb.cell 0
  simp at q0
  have HLT := Lib.hid hlt
  have hwl : IntKind.i64.wrap low = low := IntWalk.i64_in _ (by omega)
  have g0 : decide ((a : Int) < 0) = false := by simp
  have nb2 : ¬ w.heap.size + 2 = blk := by omega
  have nb3 : ¬ blk = w.heap.size + 2 := by omega
  have hgn := getN_0low bs n a b o low hn ho hlt hb hbo hbl h 
  have HGN := Lib.hid hgn
  clear hgn
  clear hr hn ho hb hbb hcell hcl hgd hrow hR h BA BQ hqb hrb hlt
  go_enter Try.func64, Try.ntmps64
  go_wp2_with fail
  refine wp_region_held_drew (S := fun w' => w'.cell? ⟨w.heap.size + 1, 0, none⟩ = some (.int .u8 o) ∧ w'.cell? ⟨blk, off + a, none⟩ = some (.int .u8 b)) (by kernel_rfl) ⟨(HQ0.out.cell 0).trans rfl, c1⟩ (fun hHeld => ?_)
  refine wpAnyH_takeD (i := 0) (d := 32) (oi := _) (v := ?_) rfl rfl (by kernel_rfl) (by kernel_rfl) (by kernel_rfl) (fun _ _ _ h => h) (Or.inl ⟨by rfl, ?_⟩) (by assumption) ?_
  rotate_left
  · (intro w hSw; (try dsimp only at hSw); go_simp) <;> with_reducible rfl
  simp only [Act.put, setIfInBounds_toArray, set_cons_zero, set_cons_succ]
  refine wpAnyH_takeD (i := 1) (d := 33) (oi := _) (v := ?_) rfl rfl (by kernel_rfl) (by kernel_rfl) (by kernel_rfl) (fun _ _ _ h => h) (Or.inl ⟨by rfl, ?_⟩) (by assumption) ?_
  rotate_left
  · (intro w hSw; (try dsimp only at hSw); go_simp) <;> with_reducible rfl
  simp only [Act.put, setIfInBounds_toArray, set_cons_zero, set_cons_succ]
  refine wpAnyH_takeD (i := 3) (d := 35) (oi := _) (v := ?_) rfl rfl (by kernel_rfl) (by kernel_rfl) (by kernel_rfl) (fun _ _ _ h => h) (Or.inl ⟨by rfl, ?_⟩) (by assumption) ?_
  rotate_left
  · (intro w hSw; (try dsimp only at hSw); go_simp) <;> with_reducible rfl
  simp only [Act.put, setIfInBounds_toArray, set_cons_zero, set_cons_succ]
  refine wpAnyH_takeD (i := 4) (d := 36) (oi := _) (v := ?_) rfl rfl (by kernel_rfl) (by kernel_rfl) (by kernel_rfl) (fun _ _ _ h => h) (Or.inl ⟨by rfl, ?_⟩) (by assumption) ?_
  rotate_left
  · (intro w hSw; (try dsimp only at hSw); go_simp) <;> with_reducible rfl
  simp only [Act.put, setIfInBounds_toArray, set_cons_zero, set_cons_succ]
  refine wpAnyH_takeD (i := 5) (d := 37) (oi := _) (v := ?_) rfl rfl (by kernel_rfl) (by kernel_rfl) (by kernel_rfl) (fun _ _ _ h => h) (Or.inl ⟨by rfl, ?_⟩) (by assumption) ?_
  rotate_left
  · (intro w hSw; (try dsimp only at hSw); go_simp) <;> with_reducible rfl
  simp only [Act.put, setIfInBounds_toArray, set_cons_zero, set_cons_succ]
  refine wpAnyH_takeD (i := 6) (d := 38) (oi := _) (v := ?_) rfl rfl (by kernel_rfl) (by kernel_rfl) (by kernel_rfl) (fun _ _ _ h => h) (Or.inl ⟨by rfl, ?_⟩) (by assumption) ?_
  rotate_left
  · (intro w hSw; (try dsimp only at hSw); go_simp) <;> with_reducible rfl
  simp only [Act.put, setIfInBounds_toArray, set_cons_zero, set_cons_succ]
  refine wpAnyH_takeD (i := 7) (d := 39) (oi := _) (v := ?_) rfl rfl (by kernel_rfl) (by kernel_rfl) (by kernel_rfl) (fun _ _ _ h => h) (Or.inl ⟨by rfl, ?_⟩) (by assumption) ?_
  rotate_left
  · (intro w hSw; (try dsimp only at hSw); go_simp) <;> with_reducible rfl
  simp only [Act.put, setIfInBounds_toArray, set_cons_zero, set_cons_succ]
  refine wpAnyH_takeD (i := 8) (d := 40) (oi := _) (v := ?_) rfl rfl (by kernel_rfl) (by kernel_rfl) (by kernel_rfl) (fun _ _ _ h => h) (Or.inl ⟨by rfl, ?_⟩) (by assumption) ?_
  rotate_left
  · (intro w hSw; (try dsimp only at hSw); go_simp) <;> with_reducible rfl
  simp only [Act.put, setIfInBounds_toArray, set_cons_zero, set_cons_succ]
  refine wpAnyH_ready (rs := [2, 9]) (by kernel_rfl) (by simp) ?_
  refine AllReadyH.cons (o := _) rfl (fun K hK => ?_) (AllReadyH.cons (o := _) rfl (fun K hK => ?_) AllReadyH.nil)
  · go_simp
    refine (HROW.out _).mono ?_
    rintro e w1 ⟨rfl, hb1⟩
    have BW := Lib.hid (HBQ.out.trans (of_drew (hb1.mono HBQ.out.size)))
    have HQW := Lib.hid (HQ0.out.drew.below hb1)
    have HZW := Lib.hid (HZ0.out.drew.below hb1)
    go_wp2_with fail
    refine hK.out _ _ ⟨(HQW.out.cell 0).trans rfl, by have := HC.out a _ HLT.out BW.out; rwa [HBV.out] at this⟩ (fun hHeld => ?_)
    clear hK K hb1
    try simp only [Act.put, setIfInBounds_toArray, set_cons_zero, set_cons_succ]
    refine wpAnyH_ready (rs := [9]) (by kernel_rfl) (by simp) ?_
    refine AllReadyH.cons (o := _) rfl (fun K hK => ?_) AllReadyH.nil
    go_simp
    refine hK.out _ _ ⟨((HQW.out.alloc _).cell 0).trans rfl, by have := HC.out a _ HLT.out (BW.out.alloc BW.out.size (.cells #[.bool false, .int .i64 0, .bool false, .bool false, .bool false, .bool false, .bool false] 82)); rwa [HBV.out] at this⟩ (fun hHeld => ?_)
    clear hK K
    try simp only [Act.put, setIfInBounds_toArray, set_cons_zero, set_cons_succ]
    refine wpAnyH_ready (rs := [10]) (by kernel_rfl) (by simp) ?_
    refine AllReadyH.cons (o := _) rfl (fun K hK => ?_) AllReadyH.nil
    go_simp
    refine hK.out _ _ ⟨((HQW.out.alloc _).cell 0).trans rfl, by have := HC.out a _ HLT.out (BW.out.alloc BW.out.size (.cells #[.bool false, .int .i64 (0), .bool false, .bool false, .bool false, .bool false, .bool false] 82)); rwa [HBV.out] at this⟩ (fun hHeld => ?_)
    clear hK K
    try simp only [Act.put, setIfInBounds_toArray, set_cons_zero, set_cons_succ]
    refine wpAnyH_takeD (i := 11) (d := 9) (oi := _) (v := ?_) rfl rfl (by kernel_rfl) (by kernel_rfl) (by kernel_rfl) (fun _ _ _ h => h) (Or.inl ⟨by rfl, ?_⟩) (by assumption) ?_
    rotate_left
    · (intro w hSw; (try dsimp only at hSw); go_simp) <;> with_reducible rfl
    simp only [Act.put, setIfInBounds_toArray, set_cons_zero, set_cons_succ]
    refine wpAnyH_done (by kernel_rfl) ?_ _
    have hQ := HQW.out.alloc (.cells #[.bool false, .int .i64 (0), .bool false, .bool false, .bool false, .bool false, .bool false] 82)
    have hZ := HZW.out.alloc (.cells #[.bool false, .int .i64 (0), .bool false, .bool false, .bool false, .bool false, .bool false] 82)
    have hR := Blk.new w1 82 #[.bool false, .int .i64 (0), .bool false, .bool false, .bool false, .bool false, .bool false]
    have hB := BW.out.alloc BW.out.size (.cells #[.bool false, .int .i64 (0), .bool false, .bool false, .bool false, .bool false, .bool false] 82)
    have hne : w1.heap.size ≠ w.heap.size + 1 := by have := HQW.out.lt; omega
    generalize w1.alloc (.cells #[.bool false, .int .i64 (0), .bool false, .bool false, .bool false, .bool false, .bool false] 82) = W at *
    generalize w1.heap.size = r at *
    have HQ := Lib.hid hQ
    have HRR := Lib.hid hR
    have HB := Lib.hid hB
    have HZ := Lib.hid hZ
    have iq0 := hQ.cell 0
    have iq1 := hQ.cell 1
    have iq2 := hQ.cell 2
    have iq3 := hQ.cell 3
    simp at iq0 iq1 iq2 iq3
    have fiq0 := hQ.frozen 0
    have fiq1 := hQ.frozen 1
    have fiq2 := hQ.frozen 2
    have fiq3 := hQ.frozen 3
    have rq0 := hR.cell 0
    have rq1 := hR.cell 1
    have rq2 := hR.cell 2
    have rq3 := hR.cell 3
    have rq4 := hR.cell 4
    have rq5 := hR.cell 5
    have rq6 := hR.cell 6
    simp at rq0 rq1 rq2 rq3 rq4 rq5 rq6
    have zq0 := hZ.cell 0
    have zq1 := hZ.cell 1
    have zq2 := hZ.cell 2
    have zq3 := hZ.cell 3
    simp at zq0 zq1 zq2 zq3
    have fzq0 := hZ.frozen 0
    have fzq1 := hZ.frozen 1
    have fzq2 := hZ.frozen 2
    have fzq3 := hZ.frozen 3
    clear hQ hR hB hZ
    go_wp2_with fail
    obtain ⟨hz4, hb4⟩ := st4 (.int .u8 0) (.int .i64 0) (.int .i64 0) (.int .i64 0) HZ.out HB.out (Nat.le_refl _)
    have rr0 := hz4.cell 0
    have rr1 := hz4.cell 1
    have rr2 := hz4.cell 2
    have rr3 := hz4.cell 3
    simp at rr0 rr1 rr2 rr3
    exact bodyPost_ret (v := .tuple #[.agg #[.int .u8 0, .int .i64 0, .int .i64 0, .int .i64 0], .int .i64 (0), .int .i64 110]) (by simp [results, Try.results64, go_sem, rr0, rr1, rr2, rr3]) rfl ⟨by rw [HGN.out]; rfl, hb4⟩
  · go_simp
    refine hK.out _ _ ⟨(HQB.out.cell 0).trans rfl, by have := HC.out a _ HLT.out HBR.out; rwa [HBV.out] at this⟩ (fun hHeld => ?_)
    clear hK K
    try simp only [Act.put, setIfInBounds_toArray, set_cons_zero, set_cons_succ]
    refine wpAnyH_ready (rs := [2]) (by kernel_rfl) (by simp) ?_
    refine AllReadyH.cons (o := _) rfl (fun K hK => ?_) AllReadyH.nil
    go_simp
    refine (HROW.out _).mono ?_
    rintro e w1 ⟨rfl, hb1⟩
    have BW := Lib.hid (HBR.out.trans (of_drew (hb1.mono HBR.out.size)))
    have HQW := Lib.hid (HQB.out.drew.below hb1)
    have HZW := Lib.hid ((HZ0.out.alloc _).drew.below hb1)
    have HRW := Lib.hid (HRB.out.drew.below hb1)
    clear hb1
    go_wp2_with fail
    refine hK.out _ _ ⟨(HQW.out.cell 0).trans rfl, by have := HC.out a _ HLT.out BW.out; rwa [HBV.out] at this⟩ (fun hHeld => ?_)
    clear hK K
    try simp only [Act.put, setIfInBounds_toArray, set_cons_zero, set_cons_succ]
    have z0 := HRW.out.frozen 0
    have z1 := HRW.out.frozen 1
    have z2 := HRW.out.frozen 2
    have z3 := HRW.out.frozen 3
    have z4 := HRW.out.frozen 4
    have z5 := HRW.out.frozen 5
    have z6 := HRW.out.frozen 6
    have y0 := HRW.out.cell 0
    have y1 := HRW.out.cell 1
    have y2 := HRW.out.cell 2
    have y3 := HRW.out.cell 3
    have y4 := HRW.out.cell 4
    have y5 := HRW.out.cell 5
    have y6 := HRW.out.cell 6
    simp at y0 y1 y2 y3 y4 y5 y6
    refine wpAnyH_ready (rs := [10]) (by kernel_rfl) (by simp) ?_
    refine AllReadyH.cons (o := _) rfl (fun K hK => ?_) AllReadyH.nil
    go_simp
    obtain ⟨hR, hB, hF⟩ := st7 (.bool false) (.int .i64 (0)) (.bool false) (.bool false) (.bool false) (.bool false) (.bool false) HRW.out BW.out (by omega)
    have hQ := hF _ _ _ (by omega) HQW.out
    have hZ := hF _ _ _ (by omega) HZW.out
    refine hK.out _ _ ⟨(hQ.cell 0).trans rfl, by have := HC.out a _ HLT.out hB; rwa [HBV.out] at this⟩ (fun hHeld => ?_)
    clear hK K hF z0 z1 z2 z3 z4 z5 z6 y0 y1 y2 y3 y4 y5 y6
    try simp only [Act.put, setIfInBounds_toArray, set_cons_zero, set_cons_succ]
    refine wpAnyH_takeD (i := 11) (d := 9) (oi := _) (v := ?_) rfl rfl (by kernel_rfl) (by kernel_rfl) (by kernel_rfl) (fun _ _ _ h => h) (Or.inl ⟨by rfl, ?_⟩) (by assumption) ?_
    rotate_left
    · (intro w hSw; (try dsimp only at hSw); go_simp) <;> with_reducible rfl
    simp only [Act.put, setIfInBounds_toArray, set_cons_zero, set_cons_succ]
    refine wpAnyH_done (by kernel_rfl) ?_ _
    have hne : w.heap.size + 1 + 1 ≠ w.heap.size + 1 := by omega
    generalize hWW : (((((((w1.setCell ⟨w.heap.size + 1 + 1, 0, none⟩ (.bool false)).setCell ⟨w.heap.size + 1 + 1, 1, none⟩ (.int .i64 (0))).setCell ⟨w.heap.size + 1 + 1, 2, none⟩ (.bool false)).setCell ⟨w.heap.size + 1 + 1, 3, none⟩ (.bool false)).setCell ⟨w.heap.size + 1 + 1, 4, none⟩ (.bool false)).setCell ⟨w.heap.size + 1 + 1, 5, none⟩ (.bool false)).setCell ⟨w.heap.size + 1 + 1, 6, none⟩ (.bool false)) = W at *
    clear hWW
    generalize w.heap.size + 1 + 1 = r at *
    have HQ := Lib.hid hQ
    have HRR := Lib.hid hR
    have HB := Lib.hid hB
    have HZ := Lib.hid hZ
    have iq0 := hQ.cell 0
    have iq1 := hQ.cell 1
    have iq2 := hQ.cell 2
    have iq3 := hQ.cell 3
    simp at iq0 iq1 iq2 iq3
    have fiq0 := hQ.frozen 0
    have fiq1 := hQ.frozen 1
    have fiq2 := hQ.frozen 2
    have fiq3 := hQ.frozen 3
    have rq0 := hR.cell 0
    have rq1 := hR.cell 1
    have rq2 := hR.cell 2
    have rq3 := hR.cell 3
    have rq4 := hR.cell 4
    have rq5 := hR.cell 5
    have rq6 := hR.cell 6
    simp at rq0 rq1 rq2 rq3 rq4 rq5 rq6
    have zq0 := hZ.cell 0
    have zq1 := hZ.cell 1
    have zq2 := hZ.cell 2
    have zq3 := hZ.cell 3
    simp at zq0 zq1 zq2 zq3
    have fzq0 := hZ.frozen 0
    have fzq1 := hZ.frozen 1
    have fzq2 := hZ.frozen 2
    have fzq3 := hZ.frozen 3
    clear hQ hR hB hZ
    go_wp2_with fail
    obtain ⟨hz4, hb4⟩ := st4 (.int .u8 0) (.int .i64 0) (.int .i64 0) (.int .i64 0) HZ.out HB.out (Nat.le_refl _)
    have rr0 := hz4.cell 0
    have rr1 := hz4.cell 1
    have rr2 := hz4.cell 2
    have rr3 := hz4.cell 3
    simp at rr0 rr1 rr2 rr3
    exact bodyPost_ret (v := .tuple #[.agg #[.int .u8 0, .int .i64 0, .int .i64 0, .int .i64 0], .int .i64 (0), .int .i64 110]) (by simp [results, Try.results64, go_sem, rr0, rr1, rr2, rr3]) rfl ⟨by rw [HGN.out]; rfl, hb4⟩
set_option maxRecDepth 100000 in
set_option maxHeartbeats 8000000 in
theorem get_2short (bs : List Int) (A : Option Addr) (n c a : Nat) (w : World) (b o low : Int) (hn : n = bs.length) (ho : Oct bs) (hr : Rd w A (octs bs)) (hlt : a < n) (hn2 : n ≤ 65536) (hb : bs.getD a 0 = b) (hbo : b / 8 = o) (hbl : b % 8 = low) (h : shO o = ⟨true, 6, true, false, false, false, false⟩) (k1 : low ≤ 6) (k2 : n < a + 2) : Calls Try.prog 64 #[.slice A n c, .int .i64 a] w (IsGot (getN bs a) w) := by
  have hbb := ho.getD a
  rw [hb] at hbb
  have b0 := hbb.1
  have b1 := hbb.2
  have l0 : 0 ≤ low := by omega
  have l1 : low ≤ 7 := by omega
  have o0 : 0 ≤ o := by omega
  have o1 : o ≤ 31 := by omega
  have hand := and7 b b0 b1
  rw [hbl] at hand
  obtain ⟨blk, off, rfl, hbk, hcell⟩ := hr (by rw [octs_length]; omega)
  have hcl : ∀ k W, k < n → Below w.heap.size w W → W.cell? ⟨blk, off + k, none⟩ = some (.int .u8 (bs.getD k 0)) := fun k W hk hW => (hW.cell (p := ⟨blk, off + k, none⟩) hbk).trans (hcell k _ (octs_at (by omega)))
  have HC := Lib.hid hcl
  have hgd : ∀ k, 0 ≤ bs.getD k 0 ∧ bs.getD k 0 ≤ 255 := fun k => ho.getD k
  have HG := Lib.hid hgd
  have hrow := fun W => shape_any o W o0
  have hR : ∀ w e w', IsSh o w e w' → e = .returned (.agg #[.bool true, .int .i64 (6), .bool true, .bool false, .bool false, .bool false, .bool false]) ∧ Below w.heap.size w w' := fun w e w' hh => ⟨by rw [hh.1, h]; rfl, hh.2⟩
  have HROW := Lib.hid fun w => (hrow w).mono (hR w)
  have H := Lib.hid h
  have HBV := Lib.hid hb
  have HN := Lib.hid hn
  have BA : Below w.heap.size w (w.alloc (.cells #[.int .u8 0, .int .i64 0, .int .i64 0, .int .i64 0] 31)) := (Below.refl _ _).alloc (Nat.le_refl _) _
  have c0 := hcl a _ hlt BA
  rw [hb] at c0
  have BQ : Below w.heap.size w ((w.alloc (.cells #[.int .u8 0, .int .i64 0, .int .i64 0, .int .i64 0] 31)).alloc (.cells #[.int .u8 o, .int .i64 0, .int .i64 0, .int .i64 0] 31)) := BA.alloc BA.size _
  have c1 := hcl a _ hlt BQ
  rw [hb] at c1
  have g1 : decide ((n : Int) ≤ (a : Int)) = false := by simp; omega
  have g2 : decide ((65536 : Int) < (n : Int)) = false := by simp; omega
  have g3 : (a : Int) < (n : Int) := by omega
  have HBQ := Lib.hid BQ
  have hqb := Blk.new (w.alloc (.cells #[.int .u8 0, .int .i64 0, .int .i64 0, .int .i64 0] 31)) 31 #[.int .u8 o, .int .i64 0, .int .i64 0, .int .i64 0]
  rw [World.size_alloc] at hqb
  have HQ0 := Lib.hid hqb
  have HZ0 := Lib.hid ((Blk.new w 31 #[.int .u8 0, .int .i64 0, .int .i64 0, .int .i64 0]).alloc (.cells #[.int .u8 o, .int .i64 0, .int .i64 0, .int .i64 0] 31))
  have hqb := hqb.alloc (.cells #[.bool false, .int .i64 0, .bool false, .bool false, .bool false, .bool false, .bool false] 82)
  have HQB := Lib.hid hqb
  have hrb := Blk.new ((w.alloc (.cells #[.int .u8 0, .int .i64 0, .int .i64 0, .int .i64 0] 31)).alloc (.cells #[.int .u8 o, .int .i64 0, .int .i64 0, .int .i64 0] 31)) 82 #[.bool false, .int .i64 0, .bool false, .bool false, .bool false, .bool false, .bool false]
  rw [World.size_alloc, World.size_alloc] at hrb
  have HRB := Lib.hid hrb
  have HBR := Lib.hid (BQ.alloc BQ.size (.cells #[.bool false, .int .i64 0, .bool false, .bool false, .bool false, .bool false, .bool false] 82))
  have q0 := hqb.cell 0
  simp at q0
  have HLT := Lib.hid hlt
  have hwl : IntKind.i64.wrap low = low := IntWalk.i64_in _ (by omega)
  have g0 : decide ((a : Int) < 0) = false := by simp
  have nb2 : ¬ w.heap.size + 2 = blk := by omega
  have nb3 : ¬ blk = w.heap.size + 2 := by omega
  have hgn := getN_2short bs n a b o low hn ho hlt hb hbo hbl h k1 k2
  have HGN := Lib.hid hgn
  have hmo := fun W => moreI_any ⟨o, low, 0, 0⟩ W o0
  have hme : moreI ⟨o, low, 0, 0⟩ = 1 := by simp [moreI, h]
  rw [hme] at hmo
  unfold In.agg at hmo
  simp only at hmo
  have HMO := Lib.hid hmo
  have g5 : decide ((n : Int) < (a : Int) + 1 + 1) = true := by simp; omega
  clear hmo hme
  have g6 : decide (6 < low) = false := by simp; omega
  clear hgn
  clear hr hn ho hb hbb hcell hcl hgd hrow hR h BA BQ hqb hrb hlt
  go_enter Try.func64, Try.ntmps64
  go_wp2_with fail
  refine wp_region_held_drew (S := fun w' => w'.cell? ⟨w.heap.size + 1, 0, none⟩ = some (.int .u8 o) ∧ w'.cell? ⟨blk, off + a, none⟩ = some (.int .u8 b)) (by kernel_rfl) ⟨(HQ0.out.cell 0).trans rfl, c1⟩ (fun hHeld => ?_)
  refine wpAnyH_takeD (i := 0) (d := 32) (oi := _) (v := ?_) rfl rfl (by kernel_rfl) (by kernel_rfl) (by kernel_rfl) (fun _ _ _ h => h) (Or.inl ⟨by rfl, ?_⟩) (by assumption) ?_
  rotate_left
  · (intro w hSw; (try dsimp only at hSw); go_simp) <;> with_reducible rfl
  simp only [Act.put, setIfInBounds_toArray, set_cons_zero, set_cons_succ]
  refine wpAnyH_takeD (i := 1) (d := 33) (oi := _) (v := ?_) rfl rfl (by kernel_rfl) (by kernel_rfl) (by kernel_rfl) (fun _ _ _ h => h) (Or.inl ⟨by rfl, ?_⟩) (by assumption) ?_
  rotate_left
  · (intro w hSw; (try dsimp only at hSw); go_simp) <;> with_reducible rfl
  simp only [Act.put, setIfInBounds_toArray, set_cons_zero, set_cons_succ]
  refine wpAnyH_takeD (i := 3) (d := 35) (oi := _) (v := ?_) rfl rfl (by kernel_rfl) (by kernel_rfl) (by kernel_rfl) (fun _ _ _ h => h) (Or.inl ⟨by rfl, ?_⟩) (by assumption) ?_
  rotate_left
  · (intro w hSw; (try dsimp only at hSw); go_simp) <;> with_reducible rfl
  simp only [Act.put, setIfInBounds_toArray, set_cons_zero, set_cons_succ]
  refine wpAnyH_takeD (i := 4) (d := 36) (oi := _) (v := ?_) rfl rfl (by kernel_rfl) (by kernel_rfl) (by kernel_rfl) (fun _ _ _ h => h) (Or.inl ⟨by rfl, ?_⟩) (by assumption) ?_
  rotate_left
  · (intro w hSw; (try dsimp only at hSw); go_simp) <;> with_reducible rfl
  simp only [Act.put, setIfInBounds_toArray, set_cons_zero, set_cons_succ]
  refine wpAnyH_takeD (i := 5) (d := 37) (oi := _) (v := ?_) rfl rfl (by kernel_rfl) (by kernel_rfl) (by kernel_rfl) (fun _ _ _ h => h) (Or.inl ⟨by rfl, ?_⟩) (by assumption) ?_
  rotate_left
  · (intro w hSw; (try dsimp only at hSw); go_simp) <;> with_reducible rfl
  simp only [Act.put, setIfInBounds_toArray, set_cons_zero, set_cons_succ]
  refine wpAnyH_takeD (i := 6) (d := 38) (oi := _) (v := ?_) rfl rfl (by kernel_rfl) (by kernel_rfl) (by kernel_rfl) (fun _ _ _ h => h) (Or.inl ⟨by rfl, ?_⟩) (by assumption) ?_
  rotate_left
  · (intro w hSw; (try dsimp only at hSw); go_simp) <;> with_reducible rfl
  simp only [Act.put, setIfInBounds_toArray, set_cons_zero, set_cons_succ]
  refine wpAnyH_takeD (i := 7) (d := 39) (oi := _) (v := ?_) rfl rfl (by kernel_rfl) (by kernel_rfl) (by kernel_rfl) (fun _ _ _ h => h) (Or.inl ⟨by rfl, ?_⟩) (by assumption) ?_
  rotate_left
  · (intro w hSw; (try dsimp only at hSw); go_simp) <;> with_reducible rfl
  simp only [Act.put, setIfInBounds_toArray, set_cons_zero, set_cons_succ]
  refine wpAnyH_takeD (i := 8) (d := 40) (oi := _) (v := ?_) rfl rfl (by kernel_rfl) (by kernel_rfl) (by kernel_rfl) (fun _ _ _ h => h) (Or.inl ⟨by rfl, ?_⟩) (by assumption) ?_
  rotate_left
  · (intro w hSw; (try dsimp only at hSw); go_simp) <;> with_reducible rfl
  simp only [Act.put, setIfInBounds_toArray, set_cons_zero, set_cons_succ]
  refine wpAnyH_ready (rs := [2, 9]) (by kernel_rfl) (by simp) ?_
  refine AllReadyH.cons (o := _) rfl (fun K hK => ?_) (AllReadyH.cons (o := _) rfl (fun K hK => ?_) AllReadyH.nil)
  · go_simp
    refine (HROW.out _).mono ?_
    rintro e w1 ⟨rfl, hb1⟩
    have BW := Lib.hid (HBQ.out.trans (of_drew (hb1.mono HBQ.out.size)))
    have HQW := Lib.hid (HQ0.out.drew.below hb1)
    have HZW := Lib.hid (HZ0.out.drew.below hb1)
    go_wp2_with fail
    refine hK.out _ _ ⟨(HQW.out.cell 0).trans rfl, by have := HC.out a _ HLT.out BW.out; rwa [HBV.out] at this⟩ (fun hHeld => ?_)
    clear hK K hb1
    try simp only [Act.put, setIfInBounds_toArray, set_cons_zero, set_cons_succ]
    refine wpAnyH_ready (rs := [9]) (by kernel_rfl) (by simp) ?_
    refine AllReadyH.cons (o := _) rfl (fun K hK => ?_) AllReadyH.nil
    go_simp
    refine hK.out _ _ ⟨((HQW.out.alloc _).cell 0).trans rfl, by have := HC.out a _ HLT.out (BW.out.alloc BW.out.size (.cells #[.bool false, .int .i64 0, .bool false, .bool false, .bool false, .bool false, .bool false] 82)); rwa [HBV.out] at this⟩ (fun hHeld => ?_)
    clear hK K
    try simp only [Act.put, setIfInBounds_toArray, set_cons_zero, set_cons_succ]
    refine wpAnyH_ready (rs := [10]) (by kernel_rfl) (by simp) ?_
    refine AllReadyH.cons (o := _) rfl (fun K hK => ?_) AllReadyH.nil
    go_simp
    refine hK.out _ _ ⟨((HQW.out.alloc _).cell 0).trans rfl, by have := HC.out a _ HLT.out (BW.out.alloc BW.out.size (.cells #[.bool true, .int .i64 (6), .bool true, .bool false, .bool false, .bool false, .bool false] 82)); rwa [HBV.out] at this⟩ (fun hHeld => ?_)
    clear hK K
    try simp only [Act.put, setIfInBounds_toArray, set_cons_zero, set_cons_succ]
    refine wpAnyH_takeD (i := 11) (d := 9) (oi := _) (v := ?_) rfl rfl (by kernel_rfl) (by kernel_rfl) (by kernel_rfl) (fun _ _ _ h => h) (Or.inl ⟨by rfl, ?_⟩) (by assumption) ?_
    rotate_left
    · (intro w hSw; (try dsimp only at hSw); go_simp) <;> with_reducible rfl
    simp only [Act.put, setIfInBounds_toArray, set_cons_zero, set_cons_succ]
    refine wpAnyH_done (by kernel_rfl) ?_ _
    have hQ := HQW.out.alloc (.cells #[.bool true, .int .i64 (6), .bool true, .bool false, .bool false, .bool false, .bool false] 82)
    have hZ := HZW.out.alloc (.cells #[.bool true, .int .i64 (6), .bool true, .bool false, .bool false, .bool false, .bool false] 82)
    have hR := Blk.new w1 82 #[.bool true, .int .i64 (6), .bool true, .bool false, .bool false, .bool false, .bool false]
    have hB := BW.out.alloc BW.out.size (.cells #[.bool true, .int .i64 (6), .bool true, .bool false, .bool false, .bool false, .bool false] 82)
    have hne : w1.heap.size ≠ w.heap.size + 1 := by have := HQW.out.lt; omega
    generalize w1.alloc (.cells #[.bool true, .int .i64 (6), .bool true, .bool false, .bool false, .bool false, .bool false] 82) = W at *
    generalize w1.heap.size = r at *
    have HQ := Lib.hid hQ
    have HRR := Lib.hid hR
    have HB := Lib.hid hB
    have HZ := Lib.hid hZ
    have iq0 := hQ.cell 0
    have iq1 := hQ.cell 1
    have iq2 := hQ.cell 2
    have iq3 := hQ.cell 3
    simp at iq0 iq1 iq2 iq3
    have fiq0 := hQ.frozen 0
    have fiq1 := hQ.frozen 1
    have fiq2 := hQ.frozen 2
    have fiq3 := hQ.frozen 3
    have rq0 := hR.cell 0
    have rq1 := hR.cell 1
    have rq2 := hR.cell 2
    have rq3 := hR.cell 3
    have rq4 := hR.cell 4
    have rq5 := hR.cell 5
    have rq6 := hR.cell 6
    simp at rq0 rq1 rq2 rq3 rq4 rq5 rq6
    clear hQ hR hB hZ
    go_wp2_with fail
    refine (HMO.out _).mono ?_
    rintro e w2 ⟨rfl, hb2⟩
    have hQ1 : Blk (W.setCell ⟨w.heap.size + 1, 1, none⟩ (.int .i64 low)) (w.heap.size + 1) 31 #[.int .u8 o, .int .i64 low, .int .i64 0, .int .i64 0] := by simpa using HQ.out.set 1 (.int .i64 low)
    have HQ2 := Lib.hid (hQ1.below hb2)
    have HR2 := Lib.hid ((HRR.out.far (p := ⟨w.heap.size + 1, 1, none⟩) hne _).below hb2)
    have HZ2 := Lib.hid ((HZ.out.far (p := ⟨w.heap.size + 1, 1, none⟩) (by simp) _).below hb2)
    have HB2 := Lib.hid (ch0 (HB.out.setCell (p := ⟨w.heap.size + 1, 1, none⟩) (by simp) _) hb2)
    clear hb2 hQ1 iq0 fiq0 iq1 fiq1 iq2 fiq2 iq3 fiq3 rq0 rq1 rq2 rq3 rq4 rq5 rq6
    have zq0 := HZ2.out.cell 0
    have zq1 := HZ2.out.cell 1
    have zq2 := HZ2.out.cell 2
    have zq3 := HZ2.out.cell 3
    simp at zq0 zq1 zq2 zq3
    have fzq0 := HZ2.out.frozen 0
    have fzq1 := HZ2.out.frozen 1
    have fzq2 := HZ2.out.frozen 2
    have fzq3 := HZ2.out.frozen 3
    go_wp2_with fail
    obtain ⟨hz4, hb4⟩ := st4 (.int .u8 0) (.int .i64 0) (.int .i64 0) (.int .i64 0) HZ2.out HB2.out (Nat.le_refl _)
    have rr0 := hz4.cell 0
    have rr1 := hz4.cell 1
    have rr2 := hz4.cell 2
    have rr3 := hz4.cell 3
    simp at rr0 rr1 rr2 rr3
    exact bodyPost_ret (v := .tuple #[.agg #[.int .u8 0, .int .i64 0, .int .i64 0, .int .i64 0], .int .i64 (0), .int .i64 12]) (by simp [results, Try.results64, go_sem, rr0, rr1, rr2, rr3]) rfl ⟨by rw [HGN.out]; rfl, hb4⟩
  · go_simp
    refine hK.out _ _ ⟨(HQB.out.cell 0).trans rfl, by have := HC.out a _ HLT.out HBR.out; rwa [HBV.out] at this⟩ (fun hHeld => ?_)
    clear hK K
    try simp only [Act.put, setIfInBounds_toArray, set_cons_zero, set_cons_succ]
    refine wpAnyH_ready (rs := [2]) (by kernel_rfl) (by simp) ?_
    refine AllReadyH.cons (o := _) rfl (fun K hK => ?_) AllReadyH.nil
    go_simp
    refine (HROW.out _).mono ?_
    rintro e w1 ⟨rfl, hb1⟩
    have BW := Lib.hid (HBR.out.trans (of_drew (hb1.mono HBR.out.size)))
    have HQW := Lib.hid (HQB.out.drew.below hb1)
    have HZW := Lib.hid ((HZ0.out.alloc _).drew.below hb1)
    have HRW := Lib.hid (HRB.out.drew.below hb1)
    clear hb1
    go_wp2_with fail
    refine hK.out _ _ ⟨(HQW.out.cell 0).trans rfl, by have := HC.out a _ HLT.out BW.out; rwa [HBV.out] at this⟩ (fun hHeld => ?_)
    clear hK K
    try simp only [Act.put, setIfInBounds_toArray, set_cons_zero, set_cons_succ]
    have z0 := HRW.out.frozen 0
    have z1 := HRW.out.frozen 1
    have z2 := HRW.out.frozen 2
    have z3 := HRW.out.frozen 3
    have z4 := HRW.out.frozen 4
    have z5 := HRW.out.frozen 5
    have z6 := HRW.out.frozen 6
    have y0 := HRW.out.cell 0
    have y1 := HRW.out.cell 1
    have y2 := HRW.out.cell 2
    have y3 := HRW.out.cell 3
    have y4 := HRW.out.cell 4
    have y5 := HRW.out.cell 5
    have y6 := HRW.out.cell 6
    simp at y0 y1 y2 y3 y4 y5 y6
    refine wpAnyH_ready (rs := [10]) (by kernel_rfl) (by simp) ?_
    refine AllReadyH.cons (o := _) rfl (fun K hK => ?_) AllReadyH.nil
    go_simp
    obtain ⟨hR, hB, hF⟩ := st7 (.bool true) (.int .i64 (6)) (.bool true) (.bool false) (.bool false) (.bool false) (.bool false) HRW.out BW.out (by omega)
    have hQ := hF _ _ _ (by omega) HQW.out
    have hZ := hF _ _ _ (by omega) HZW.out
    refine hK.out _ _ ⟨(hQ.cell 0).trans rfl, by have := HC.out a _ HLT.out hB; rwa [HBV.out] at this⟩ (fun hHeld => ?_)
    clear hK K hF z0 z1 z2 z3 z4 z5 z6 y0 y1 y2 y3 y4 y5 y6
    try simp only [Act.put, setIfInBounds_toArray, set_cons_zero, set_cons_succ]
    refine wpAnyH_takeD (i := 11) (d := 9) (oi := _) (v := ?_) rfl rfl (by kernel_rfl) (by kernel_rfl) (by kernel_rfl) (fun _ _ _ h => h) (Or.inl ⟨by rfl, ?_⟩) (by assumption) ?_
    rotate_left
    · (intro w hSw; (try dsimp only at hSw); go_simp) <;> with_reducible rfl
    simp only [Act.put, setIfInBounds_toArray, set_cons_zero, set_cons_succ]
    refine wpAnyH_done (by kernel_rfl) ?_ _
    have hne : w.heap.size + 1 + 1 ≠ w.heap.size + 1 := by omega
    generalize hWW : (((((((w1.setCell ⟨w.heap.size + 1 + 1, 0, none⟩ (.bool true)).setCell ⟨w.heap.size + 1 + 1, 1, none⟩ (.int .i64 (6))).setCell ⟨w.heap.size + 1 + 1, 2, none⟩ (.bool true)).setCell ⟨w.heap.size + 1 + 1, 3, none⟩ (.bool false)).setCell ⟨w.heap.size + 1 + 1, 4, none⟩ (.bool false)).setCell ⟨w.heap.size + 1 + 1, 5, none⟩ (.bool false)).setCell ⟨w.heap.size + 1 + 1, 6, none⟩ (.bool false)) = W at *
    clear hWW
    generalize w.heap.size + 1 + 1 = r at *
    have HQ := Lib.hid hQ
    have HRR := Lib.hid hR
    have HB := Lib.hid hB
    have HZ := Lib.hid hZ
    have iq0 := hQ.cell 0
    have iq1 := hQ.cell 1
    have iq2 := hQ.cell 2
    have iq3 := hQ.cell 3
    simp at iq0 iq1 iq2 iq3
    have fiq0 := hQ.frozen 0
    have fiq1 := hQ.frozen 1
    have fiq2 := hQ.frozen 2
    have fiq3 := hQ.frozen 3
    have rq0 := hR.cell 0
    have rq1 := hR.cell 1
    have rq2 := hR.cell 2
    have rq3 := hR.cell 3
    have rq4 := hR.cell 4
    have rq5 := hR.cell 5
    have rq6 := hR.cell 6
    simp at rq0 rq1 rq2 rq3 rq4 rq5 rq6
    clear hQ hR hB hZ
    go_wp2_with fail
    refine (HMO.out _).mono ?_
    rintro e w2 ⟨rfl, hb2⟩
    have hQ1 : Blk (W.setCell ⟨w.heap.size + 1, 1, none⟩ (.int .i64 low)) (w.heap.size + 1) 31 #[.int .u8 o, .int .i64 low, .int .i64 0, .int .i64 0] := by simpa using HQ.out.set 1 (.int .i64 low)
    have HQ2 := Lib.hid (hQ1.below hb2)
    have HR2 := Lib.hid ((HRR.out.far (p := ⟨w.heap.size + 1, 1, none⟩) hne _).below hb2)
    have HZ2 := Lib.hid ((HZ.out.far (p := ⟨w.heap.size + 1, 1, none⟩) (by simp) _).below hb2)
    have HB2 := Lib.hid (ch0 (HB.out.setCell (p := ⟨w.heap.size + 1, 1, none⟩) (by simp) _) hb2)
    clear hb2 hQ1 iq0 fiq0 iq1 fiq1 iq2 fiq2 iq3 fiq3 rq0 rq1 rq2 rq3 rq4 rq5 rq6
    have zq0 := HZ2.out.cell 0
    have zq1 := HZ2.out.cell 1
    have zq2 := HZ2.out.cell 2
    have zq3 := HZ2.out.cell 3
    simp at zq0 zq1 zq2 zq3
    have fzq0 := HZ2.out.frozen 0
    have fzq1 := HZ2.out.frozen 1
    have fzq2 := HZ2.out.frozen 2
    have fzq3 := HZ2.out.frozen 3
    go_wp2_with fail
    obtain ⟨hz4, hb4⟩ := st4 (.int .u8 0) (.int .i64 0) (.int .i64 0) (.int .i64 0) HZ2.out HB2.out (Nat.le_refl _)
    have rr0 := hz4.cell 0
    have rr1 := hz4.cell 1
    have rr2 := hz4.cell 2
    have rr3 := hz4.cell 3
    simp at rr0 rr1 rr2 rr3
    exact bodyPost_ret (v := .tuple #[.agg #[.int .u8 0, .int .i64 0, .int .i64 0, .int .i64 0], .int .i64 (0), .int .i64 12]) (by simp [results, Try.results64, go_sem, rr0, rr1, rr2, rr3]) rfl ⟨by rw [HGN.out]; rfl, hb4⟩
set_option maxRecDepth 100000 in
set_option maxHeartbeats 8000000 in
theorem get_3short (bs : List Int) (A : Option Addr) (n c a : Nat) (w : World) (b o low : Int) (hn : n = bs.length) (ho : Oct bs) (hr : Rd w A (octs bs)) (hlt : a < n) (hn2 : n ≤ 65536) (hb : bs.getD a 0 = b) (hbo : b / 8 = o) (hbl : b % 8 = low) (h : shO o = ⟨true, 6, false, false, true, false, false⟩) (k1 : low ≤ 6) (k2 : n < a + 2) : Calls Try.prog 64 #[.slice A n c, .int .i64 a] w (IsGot (getN bs a) w) := by
  have hbb := ho.getD a
  rw [hb] at hbb
  have b0 := hbb.1
  have b1 := hbb.2
  have l0 : 0 ≤ low := by omega
  have l1 : low ≤ 7 := by omega
  have o0 : 0 ≤ o := by omega
  have o1 : o ≤ 31 := by omega
  have hand := and7 b b0 b1
  rw [hbl] at hand
  obtain ⟨blk, off, rfl, hbk, hcell⟩ := hr (by rw [octs_length]; omega)
  have hcl : ∀ k W, k < n → Below w.heap.size w W → W.cell? ⟨blk, off + k, none⟩ = some (.int .u8 (bs.getD k 0)) := fun k W hk hW => (hW.cell (p := ⟨blk, off + k, none⟩) hbk).trans (hcell k _ (octs_at (by omega)))
  have HC := Lib.hid hcl
  have hgd : ∀ k, 0 ≤ bs.getD k 0 ∧ bs.getD k 0 ≤ 255 := fun k => ho.getD k
  have HG := Lib.hid hgd
  have hrow := fun W => shape_any o W o0
  have hR : ∀ w e w', IsSh o w e w' → e = .returned (.agg #[.bool true, .int .i64 (6), .bool false, .bool false, .bool true, .bool false, .bool false]) ∧ Below w.heap.size w w' := fun w e w' hh => ⟨by rw [hh.1, h]; rfl, hh.2⟩
  have HROW := Lib.hid fun w => (hrow w).mono (hR w)
  have H := Lib.hid h
  have HBV := Lib.hid hb
  have HN := Lib.hid hn
  have BA : Below w.heap.size w (w.alloc (.cells #[.int .u8 0, .int .i64 0, .int .i64 0, .int .i64 0] 31)) := (Below.refl _ _).alloc (Nat.le_refl _) _
  have c0 := hcl a _ hlt BA
  rw [hb] at c0
  have BQ : Below w.heap.size w ((w.alloc (.cells #[.int .u8 0, .int .i64 0, .int .i64 0, .int .i64 0] 31)).alloc (.cells #[.int .u8 o, .int .i64 0, .int .i64 0, .int .i64 0] 31)) := BA.alloc BA.size _
  have c1 := hcl a _ hlt BQ
  rw [hb] at c1
  have g1 : decide ((n : Int) ≤ (a : Int)) = false := by simp; omega
  have g2 : decide ((65536 : Int) < (n : Int)) = false := by simp; omega
  have g3 : (a : Int) < (n : Int) := by omega
  have HBQ := Lib.hid BQ
  have hqb := Blk.new (w.alloc (.cells #[.int .u8 0, .int .i64 0, .int .i64 0, .int .i64 0] 31)) 31 #[.int .u8 o, .int .i64 0, .int .i64 0, .int .i64 0]
  rw [World.size_alloc] at hqb
  have HQ0 := Lib.hid hqb
  have HZ0 := Lib.hid ((Blk.new w 31 #[.int .u8 0, .int .i64 0, .int .i64 0, .int .i64 0]).alloc (.cells #[.int .u8 o, .int .i64 0, .int .i64 0, .int .i64 0] 31))
  have hqb := hqb.alloc (.cells #[.bool false, .int .i64 0, .bool false, .bool false, .bool false, .bool false, .bool false] 82)
  have HQB := Lib.hid hqb
  have hrb := Blk.new ((w.alloc (.cells #[.int .u8 0, .int .i64 0, .int .i64 0, .int .i64 0] 31)).alloc (.cells #[.int .u8 o, .int .i64 0, .int .i64 0, .int .i64 0] 31)) 82 #[.bool false, .int .i64 0, .bool false, .bool false, .bool false, .bool false, .bool false]
  rw [World.size_alloc, World.size_alloc] at hrb
  have HRB := Lib.hid hrb
  have HBR := Lib.hid (BQ.alloc BQ.size (.cells #[.bool false, .int .i64 0, .bool false, .bool false, .bool false, .bool false, .bool false] 82))
  have q0 := hqb.cell 0
  simp at q0
  have HLT := Lib.hid hlt
  have hwl : IntKind.i64.wrap low = low := IntWalk.i64_in _ (by omega)
  have g0 : decide ((a : Int) < 0) = false := by simp
  have nb2 : ¬ w.heap.size + 2 = blk := by omega
  have nb3 : ¬ blk = w.heap.size + 2 := by omega
  have hgn := getN_3short bs n a b o low hn ho hlt hb hbo hbl h k1 k2
  have HGN := Lib.hid hgn
  have hmo := fun W => moreI_any ⟨o, low, 0, 0⟩ W o0
  have hme : moreI ⟨o, low, 0, 0⟩ = 1 := by simp [moreI, h]
  rw [hme] at hmo
  unfold In.agg at hmo
  simp only at hmo
  have HMO := Lib.hid hmo
  have g5 : decide ((n : Int) < (a : Int) + 1 + 1) = true := by simp; omega
  clear hmo hme
  have g6 : decide (6 < low) = false := by simp; omega
  clear hgn
  clear hr hn ho hb hbb hcell hcl hgd hrow hR h BA BQ hqb hrb hlt
  go_enter Try.func64, Try.ntmps64
  go_wp2_with fail
  refine wp_region_held_drew (S := fun w' => w'.cell? ⟨w.heap.size + 1, 0, none⟩ = some (.int .u8 o) ∧ w'.cell? ⟨blk, off + a, none⟩ = some (.int .u8 b)) (by kernel_rfl) ⟨(HQ0.out.cell 0).trans rfl, c1⟩ (fun hHeld => ?_)
  refine wpAnyH_takeD (i := 0) (d := 32) (oi := _) (v := ?_) rfl rfl (by kernel_rfl) (by kernel_rfl) (by kernel_rfl) (fun _ _ _ h => h) (Or.inl ⟨by rfl, ?_⟩) (by assumption) ?_
  rotate_left
  · (intro w hSw; (try dsimp only at hSw); go_simp) <;> with_reducible rfl
  simp only [Act.put, setIfInBounds_toArray, set_cons_zero, set_cons_succ]
  refine wpAnyH_takeD (i := 1) (d := 33) (oi := _) (v := ?_) rfl rfl (by kernel_rfl) (by kernel_rfl) (by kernel_rfl) (fun _ _ _ h => h) (Or.inl ⟨by rfl, ?_⟩) (by assumption) ?_
  rotate_left
  · (intro w hSw; (try dsimp only at hSw); go_simp) <;> with_reducible rfl
  simp only [Act.put, setIfInBounds_toArray, set_cons_zero, set_cons_succ]
  refine wpAnyH_takeD (i := 3) (d := 35) (oi := _) (v := ?_) rfl rfl (by kernel_rfl) (by kernel_rfl) (by kernel_rfl) (fun _ _ _ h => h) (Or.inl ⟨by rfl, ?_⟩) (by assumption) ?_
  rotate_left
  · (intro w hSw; (try dsimp only at hSw); go_simp) <;> with_reducible rfl
  simp only [Act.put, setIfInBounds_toArray, set_cons_zero, set_cons_succ]
  refine wpAnyH_takeD (i := 4) (d := 36) (oi := _) (v := ?_) rfl rfl (by kernel_rfl) (by kernel_rfl) (by kernel_rfl) (fun _ _ _ h => h) (Or.inl ⟨by rfl, ?_⟩) (by assumption) ?_
  rotate_left
  · (intro w hSw; (try dsimp only at hSw); go_simp) <;> with_reducible rfl
  simp only [Act.put, setIfInBounds_toArray, set_cons_zero, set_cons_succ]
  refine wpAnyH_takeD (i := 5) (d := 37) (oi := _) (v := ?_) rfl rfl (by kernel_rfl) (by kernel_rfl) (by kernel_rfl) (fun _ _ _ h => h) (Or.inl ⟨by rfl, ?_⟩) (by assumption) ?_
  rotate_left
  · (intro w hSw; (try dsimp only at hSw); go_simp) <;> with_reducible rfl
  simp only [Act.put, setIfInBounds_toArray, set_cons_zero, set_cons_succ]
  refine wpAnyH_takeD (i := 6) (d := 38) (oi := _) (v := ?_) rfl rfl (by kernel_rfl) (by kernel_rfl) (by kernel_rfl) (fun _ _ _ h => h) (Or.inl ⟨by rfl, ?_⟩) (by assumption) ?_
  rotate_left
  · (intro w hSw; (try dsimp only at hSw); go_simp) <;> with_reducible rfl
  simp only [Act.put, setIfInBounds_toArray, set_cons_zero, set_cons_succ]
  refine wpAnyH_takeD (i := 7) (d := 39) (oi := _) (v := ?_) rfl rfl (by kernel_rfl) (by kernel_rfl) (by kernel_rfl) (fun _ _ _ h => h) (Or.inl ⟨by rfl, ?_⟩) (by assumption) ?_
  rotate_left
  · (intro w hSw; (try dsimp only at hSw); go_simp) <;> with_reducible rfl
  simp only [Act.put, setIfInBounds_toArray, set_cons_zero, set_cons_succ]
  refine wpAnyH_takeD (i := 8) (d := 40) (oi := _) (v := ?_) rfl rfl (by kernel_rfl) (by kernel_rfl) (by kernel_rfl) (fun _ _ _ h => h) (Or.inl ⟨by rfl, ?_⟩) (by assumption) ?_
  rotate_left
  · (intro w hSw; (try dsimp only at hSw); go_simp) <;> with_reducible rfl
  simp only [Act.put, setIfInBounds_toArray, set_cons_zero, set_cons_succ]
  refine wpAnyH_ready (rs := [2, 9]) (by kernel_rfl) (by simp) ?_
  refine AllReadyH.cons (o := _) rfl (fun K hK => ?_) (AllReadyH.cons (o := _) rfl (fun K hK => ?_) AllReadyH.nil)
  · go_simp
    refine (HROW.out _).mono ?_
    rintro e w1 ⟨rfl, hb1⟩
    have BW := Lib.hid (HBQ.out.trans (of_drew (hb1.mono HBQ.out.size)))
    have HQW := Lib.hid (HQ0.out.drew.below hb1)
    have HZW := Lib.hid (HZ0.out.drew.below hb1)
    go_wp2_with fail
    refine hK.out _ _ ⟨(HQW.out.cell 0).trans rfl, by have := HC.out a _ HLT.out BW.out; rwa [HBV.out] at this⟩ (fun hHeld => ?_)
    clear hK K hb1
    try simp only [Act.put, setIfInBounds_toArray, set_cons_zero, set_cons_succ]
    refine wpAnyH_ready (rs := [9]) (by kernel_rfl) (by simp) ?_
    refine AllReadyH.cons (o := _) rfl (fun K hK => ?_) AllReadyH.nil
    go_simp
    refine hK.out _ _ ⟨((HQW.out.alloc _).cell 0).trans rfl, by have := HC.out a _ HLT.out (BW.out.alloc BW.out.size (.cells #[.bool false, .int .i64 0, .bool false, .bool false, .bool false, .bool false, .bool false] 82)); rwa [HBV.out] at this⟩ (fun hHeld => ?_)
    clear hK K
    try simp only [Act.put, setIfInBounds_toArray, set_cons_zero, set_cons_succ]
    refine wpAnyH_ready (rs := [10]) (by kernel_rfl) (by simp) ?_
    refine AllReadyH.cons (o := _) rfl (fun K hK => ?_) AllReadyH.nil
    go_simp
    refine hK.out _ _ ⟨((HQW.out.alloc _).cell 0).trans rfl, by have := HC.out a _ HLT.out (BW.out.alloc BW.out.size (.cells #[.bool true, .int .i64 (6), .bool false, .bool false, .bool true, .bool false, .bool false] 82)); rwa [HBV.out] at this⟩ (fun hHeld => ?_)
    clear hK K
    try simp only [Act.put, setIfInBounds_toArray, set_cons_zero, set_cons_succ]
    refine wpAnyH_takeD (i := 11) (d := 9) (oi := _) (v := ?_) rfl rfl (by kernel_rfl) (by kernel_rfl) (by kernel_rfl) (fun _ _ _ h => h) (Or.inl ⟨by rfl, ?_⟩) (by assumption) ?_
    rotate_left
    · (intro w hSw; (try dsimp only at hSw); go_simp) <;> with_reducible rfl
    simp only [Act.put, setIfInBounds_toArray, set_cons_zero, set_cons_succ]
    refine wpAnyH_done (by kernel_rfl) ?_ _
    have hQ := HQW.out.alloc (.cells #[.bool true, .int .i64 (6), .bool false, .bool false, .bool true, .bool false, .bool false] 82)
    have hZ := HZW.out.alloc (.cells #[.bool true, .int .i64 (6), .bool false, .bool false, .bool true, .bool false, .bool false] 82)
    have hR := Blk.new w1 82 #[.bool true, .int .i64 (6), .bool false, .bool false, .bool true, .bool false, .bool false]
    have hB := BW.out.alloc BW.out.size (.cells #[.bool true, .int .i64 (6), .bool false, .bool false, .bool true, .bool false, .bool false] 82)
    have hne : w1.heap.size ≠ w.heap.size + 1 := by have := HQW.out.lt; omega
    generalize w1.alloc (.cells #[.bool true, .int .i64 (6), .bool false, .bool false, .bool true, .bool false, .bool false] 82) = W at *
    generalize w1.heap.size = r at *
    have HQ := Lib.hid hQ
    have HRR := Lib.hid hR
    have HB := Lib.hid hB
    have HZ := Lib.hid hZ
    have iq0 := hQ.cell 0
    have iq1 := hQ.cell 1
    have iq2 := hQ.cell 2
    have iq3 := hQ.cell 3
    simp at iq0 iq1 iq2 iq3
    have fiq0 := hQ.frozen 0
    have fiq1 := hQ.frozen 1
    have fiq2 := hQ.frozen 2
    have fiq3 := hQ.frozen 3
    have rq0 := hR.cell 0
    have rq1 := hR.cell 1
    have rq2 := hR.cell 2
    have rq3 := hR.cell 3
    have rq4 := hR.cell 4
    have rq5 := hR.cell 5
    have rq6 := hR.cell 6
    simp at rq0 rq1 rq2 rq3 rq4 rq5 rq6
    clear hQ hR hB hZ
    go_wp2_with fail
    refine (HMO.out _).mono ?_
    rintro e w2 ⟨rfl, hb2⟩
    have hQ1 : Blk (W.setCell ⟨w.heap.size + 1, 1, none⟩ (.int .i64 low)) (w.heap.size + 1) 31 #[.int .u8 o, .int .i64 low, .int .i64 0, .int .i64 0] := by simpa using HQ.out.set 1 (.int .i64 low)
    have HQ2 := Lib.hid (hQ1.below hb2)
    have HR2 := Lib.hid ((HRR.out.far (p := ⟨w.heap.size + 1, 1, none⟩) hne _).below hb2)
    have HZ2 := Lib.hid ((HZ.out.far (p := ⟨w.heap.size + 1, 1, none⟩) (by simp) _).below hb2)
    have HB2 := Lib.hid (ch0 (HB.out.setCell (p := ⟨w.heap.size + 1, 1, none⟩) (by simp) _) hb2)
    clear hb2 hQ1 iq0 fiq0 iq1 fiq1 iq2 fiq2 iq3 fiq3 rq0 rq1 rq2 rq3 rq4 rq5 rq6
    have zq0 := HZ2.out.cell 0
    have zq1 := HZ2.out.cell 1
    have zq2 := HZ2.out.cell 2
    have zq3 := HZ2.out.cell 3
    simp at zq0 zq1 zq2 zq3
    have fzq0 := HZ2.out.frozen 0
    have fzq1 := HZ2.out.frozen 1
    have fzq2 := HZ2.out.frozen 2
    have fzq3 := HZ2.out.frozen 3
    go_wp2_with fail
    obtain ⟨hz4, hb4⟩ := st4 (.int .u8 0) (.int .i64 0) (.int .i64 0) (.int .i64 0) HZ2.out HB2.out (Nat.le_refl _)
    have rr0 := hz4.cell 0
    have rr1 := hz4.cell 1
    have rr2 := hz4.cell 2
    have rr3 := hz4.cell 3
    simp at rr0 rr1 rr2 rr3
    exact bodyPost_ret (v := .tuple #[.agg #[.int .u8 0, .int .i64 0, .int .i64 0, .int .i64 0], .int .i64 (0), .int .i64 12]) (by simp [results, Try.results64, go_sem, rr0, rr1, rr2, rr3]) rfl ⟨by rw [HGN.out]; rfl, hb4⟩
  · go_simp
    refine hK.out _ _ ⟨(HQB.out.cell 0).trans rfl, by have := HC.out a _ HLT.out HBR.out; rwa [HBV.out] at this⟩ (fun hHeld => ?_)
    clear hK K
    try simp only [Act.put, setIfInBounds_toArray, set_cons_zero, set_cons_succ]
    refine wpAnyH_ready (rs := [2]) (by kernel_rfl) (by simp) ?_
    refine AllReadyH.cons (o := _) rfl (fun K hK => ?_) AllReadyH.nil
    go_simp
    refine (HROW.out _).mono ?_
    rintro e w1 ⟨rfl, hb1⟩
    have BW := Lib.hid (HBR.out.trans (of_drew (hb1.mono HBR.out.size)))
    have HQW := Lib.hid (HQB.out.drew.below hb1)
    have HZW := Lib.hid ((HZ0.out.alloc _).drew.below hb1)
    have HRW := Lib.hid (HRB.out.drew.below hb1)
    clear hb1
    go_wp2_with fail
    refine hK.out _ _ ⟨(HQW.out.cell 0).trans rfl, by have := HC.out a _ HLT.out BW.out; rwa [HBV.out] at this⟩ (fun hHeld => ?_)
    clear hK K
    try simp only [Act.put, setIfInBounds_toArray, set_cons_zero, set_cons_succ]
    have z0 := HRW.out.frozen 0
    have z1 := HRW.out.frozen 1
    have z2 := HRW.out.frozen 2
    have z3 := HRW.out.frozen 3
    have z4 := HRW.out.frozen 4
    have z5 := HRW.out.frozen 5
    have z6 := HRW.out.frozen 6
    have y0 := HRW.out.cell 0
    have y1 := HRW.out.cell 1
    have y2 := HRW.out.cell 2
    have y3 := HRW.out.cell 3
    have y4 := HRW.out.cell 4
    have y5 := HRW.out.cell 5
    have y6 := HRW.out.cell 6
    simp at y0 y1 y2 y3 y4 y5 y6
    refine wpAnyH_ready (rs := [10]) (by kernel_rfl) (by simp) ?_
    refine AllReadyH.cons (o := _) rfl (fun K hK => ?_) AllReadyH.nil
    go_simp
    obtain ⟨hR, hB, hF⟩ := st7 (.bool true) (.int .i64 (6)) (.bool false) (.bool false) (.bool true) (.bool false) (.bool false) HRW.out BW.out (by omega)
    have hQ := hF _ _ _ (by omega) HQW.out
    have hZ := hF _ _ _ (by omega) HZW.out
    refine hK.out _ _ ⟨(hQ.cell 0).trans rfl, by have := HC.out a _ HLT.out hB; rwa [HBV.out] at this⟩ (fun hHeld => ?_)
    clear hK K hF z0 z1 z2 z3 z4 z5 z6 y0 y1 y2 y3 y4 y5 y6
    try simp only [Act.put, setIfInBounds_toArray, set_cons_zero, set_cons_succ]
    refine wpAnyH_takeD (i := 11) (d := 9) (oi := _) (v := ?_) rfl rfl (by kernel_rfl) (by kernel_rfl) (by kernel_rfl) (fun _ _ _ h => h) (Or.inl ⟨by rfl, ?_⟩) (by assumption) ?_
    rotate_left
    · (intro w hSw; (try dsimp only at hSw); go_simp) <;> with_reducible rfl
    simp only [Act.put, setIfInBounds_toArray, set_cons_zero, set_cons_succ]
    refine wpAnyH_done (by kernel_rfl) ?_ _
    have hne : w.heap.size + 1 + 1 ≠ w.heap.size + 1 := by omega
    generalize hWW : (((((((w1.setCell ⟨w.heap.size + 1 + 1, 0, none⟩ (.bool true)).setCell ⟨w.heap.size + 1 + 1, 1, none⟩ (.int .i64 (6))).setCell ⟨w.heap.size + 1 + 1, 2, none⟩ (.bool false)).setCell ⟨w.heap.size + 1 + 1, 3, none⟩ (.bool false)).setCell ⟨w.heap.size + 1 + 1, 4, none⟩ (.bool true)).setCell ⟨w.heap.size + 1 + 1, 5, none⟩ (.bool false)).setCell ⟨w.heap.size + 1 + 1, 6, none⟩ (.bool false)) = W at *
    clear hWW
    generalize w.heap.size + 1 + 1 = r at *
    have HQ := Lib.hid hQ
    have HRR := Lib.hid hR
    have HB := Lib.hid hB
    have HZ := Lib.hid hZ
    have iq0 := hQ.cell 0
    have iq1 := hQ.cell 1
    have iq2 := hQ.cell 2
    have iq3 := hQ.cell 3
    simp at iq0 iq1 iq2 iq3
    have fiq0 := hQ.frozen 0
    have fiq1 := hQ.frozen 1
    have fiq2 := hQ.frozen 2
    have fiq3 := hQ.frozen 3
    have rq0 := hR.cell 0
    have rq1 := hR.cell 1
    have rq2 := hR.cell 2
    have rq3 := hR.cell 3
    have rq4 := hR.cell 4
    have rq5 := hR.cell 5
    have rq6 := hR.cell 6
    simp at rq0 rq1 rq2 rq3 rq4 rq5 rq6
    clear hQ hR hB hZ
    go_wp2_with fail
    refine (HMO.out _).mono ?_
    rintro e w2 ⟨rfl, hb2⟩
    have hQ1 : Blk (W.setCell ⟨w.heap.size + 1, 1, none⟩ (.int .i64 low)) (w.heap.size + 1) 31 #[.int .u8 o, .int .i64 low, .int .i64 0, .int .i64 0] := by simpa using HQ.out.set 1 (.int .i64 low)
    have HQ2 := Lib.hid (hQ1.below hb2)
    have HR2 := Lib.hid ((HRR.out.far (p := ⟨w.heap.size + 1, 1, none⟩) hne _).below hb2)
    have HZ2 := Lib.hid ((HZ.out.far (p := ⟨w.heap.size + 1, 1, none⟩) (by simp) _).below hb2)
    have HB2 := Lib.hid (ch0 (HB.out.setCell (p := ⟨w.heap.size + 1, 1, none⟩) (by simp) _) hb2)
    clear hb2 hQ1 iq0 fiq0 iq1 fiq1 iq2 fiq2 iq3 fiq3 rq0 rq1 rq2 rq3 rq4 rq5 rq6
    have zq0 := HZ2.out.cell 0
    have zq1 := HZ2.out.cell 1
    have zq2 := HZ2.out.cell 2
    have zq3 := HZ2.out.cell 3
    simp at zq0 zq1 zq2 zq3
    have fzq0 := HZ2.out.frozen 0
    have fzq1 := HZ2.out.frozen 1
    have fzq2 := HZ2.out.frozen 2
    have fzq3 := HZ2.out.frozen 3
    go_wp2_with fail
    obtain ⟨hz4, hb4⟩ := st4 (.int .u8 0) (.int .i64 0) (.int .i64 0) (.int .i64 0) HZ2.out HB2.out (Nat.le_refl _)
    have rr0 := hz4.cell 0
    have rr1 := hz4.cell 1
    have rr2 := hz4.cell 2
    have rr3 := hz4.cell 3
    simp at rr0 rr1 rr2 rr3
    exact bodyPost_ret (v := .tuple #[.agg #[.int .u8 0, .int .i64 0, .int .i64 0, .int .i64 0], .int .i64 (0), .int .i64 12]) (by simp [results, Try.results64, go_sem, rr0, rr1, rr2, rr3]) rfl ⟨by rw [HGN.out]; rfl, hb4⟩
set_option maxRecDepth 100000 in
set_option maxHeartbeats 8000000 in
theorem get_5ok (bs : List Int) (A : Option Addr) (n c a : Nat) (w : World) (b o low : Int) (hn : n = bs.length) (ho : Oct bs) (hr : Rd w A (octs bs)) (hlt : a < n) (hn2 : n ≤ 65536) (hb : bs.getD a 0 = b) (hbo : b / 8 = o) (hbl : b % 8 = low) (h : shO o = ⟨true, -1, false, true, false, false, false⟩) (k1 : low ≠ 7) : Calls Try.prog 64 #[.slice A n c, .int .i64 a] w (IsGot (getN bs a) w) := by
  have hbb := ho.getD a
  rw [hb] at hbb
  have b0 := hbb.1
  have b1 := hbb.2
  have l0 : 0 ≤ low := by omega
  have l1 : low ≤ 7 := by omega
  have o0 : 0 ≤ o := by omega
  have o1 : o ≤ 31 := by omega
  have hand := and7 b b0 b1
  rw [hbl] at hand
  obtain ⟨blk, off, rfl, hbk, hcell⟩ := hr (by rw [octs_length]; omega)
  have hcl : ∀ k W, k < n → Below w.heap.size w W → W.cell? ⟨blk, off + k, none⟩ = some (.int .u8 (bs.getD k 0)) := fun k W hk hW => (hW.cell (p := ⟨blk, off + k, none⟩) hbk).trans (hcell k _ (octs_at (by omega)))
  have HC := Lib.hid hcl
  have hgd : ∀ k, 0 ≤ bs.getD k 0 ∧ bs.getD k 0 ≤ 255 := fun k => ho.getD k
  have HG := Lib.hid hgd
  have hrow := fun W => shape_any o W o0
  have hR : ∀ w e w', IsSh o w e w' → e = .returned (.agg #[.bool true, .int .i64 (-1), .bool false, .bool true, .bool false, .bool false, .bool false]) ∧ Below w.heap.size w w' := fun w e w' hh => ⟨by rw [hh.1, h]; rfl, hh.2⟩
  have HROW := Lib.hid fun w => (hrow w).mono (hR w)
  have H := Lib.hid h
  have HBV := Lib.hid hb
  have HN := Lib.hid hn
  have BA : Below w.heap.size w (w.alloc (.cells #[.int .u8 0, .int .i64 0, .int .i64 0, .int .i64 0] 31)) := (Below.refl _ _).alloc (Nat.le_refl _) _
  have c0 := hcl a _ hlt BA
  rw [hb] at c0
  have BQ : Below w.heap.size w ((w.alloc (.cells #[.int .u8 0, .int .i64 0, .int .i64 0, .int .i64 0] 31)).alloc (.cells #[.int .u8 o, .int .i64 0, .int .i64 0, .int .i64 0] 31)) := BA.alloc BA.size _
  have c1 := hcl a _ hlt BQ
  rw [hb] at c1
  have g1 : decide ((n : Int) ≤ (a : Int)) = false := by simp; omega
  have g2 : decide ((65536 : Int) < (n : Int)) = false := by simp; omega
  have g3 : (a : Int) < (n : Int) := by omega
  have HBQ := Lib.hid BQ
  have hqb := Blk.new (w.alloc (.cells #[.int .u8 0, .int .i64 0, .int .i64 0, .int .i64 0] 31)) 31 #[.int .u8 o, .int .i64 0, .int .i64 0, .int .i64 0]
  rw [World.size_alloc] at hqb
  have HQ0 := Lib.hid hqb
  have HZ0 := Lib.hid ((Blk.new w 31 #[.int .u8 0, .int .i64 0, .int .i64 0, .int .i64 0]).alloc (.cells #[.int .u8 o, .int .i64 0, .int .i64 0, .int .i64 0] 31))
  have hqb := hqb.alloc (.cells #[.bool false, .int .i64 0, .bool false, .bool false, .bool false, .bool false, .bool false] 82)
  have HQB := Lib.hid hqb
  have hrb := Blk.new ((w.alloc (.cells #[.int .u8 0, .int .i64 0, .int .i64 0, .int .i64 0] 31)).alloc (.cells #[.int .u8 o, .int .i64 0, .int .i64 0, .int .i64 0] 31)) 82 #[.bool false, .int .i64 0, .bool false, .bool false, .bool false, .bool false, .bool false]
  rw [World.size_alloc, World.size_alloc] at hrb
  have HRB := Lib.hid hrb
  have HBR := Lib.hid (BQ.alloc BQ.size (.cells #[.bool false, .int .i64 0, .bool false, .bool false, .bool false, .bool false, .bool false] 82))
  have q0 := hqb.cell 0
  simp at q0
  have HLT := Lib.hid hlt
  have hwl : IntKind.i64.wrap low = low := IntWalk.i64_in _ (by omega)
  have g0 : decide ((a : Int) < 0) = false := by simp
  have nb2 : ¬ w.heap.size + 2 = blk := by omega
  have nb3 : ¬ blk = w.heap.size + 2 := by omega
  have hgn := getN_5ok bs n a b o low hn ho hlt hb hbo hbl h k1
  have HGN := Lib.hid hgn
  have hmo := fun W => moreI_any ⟨o, 0, low, 0⟩ W o0
  have hme : moreI ⟨o, 0, low, 0⟩ = 0 := by simp [moreI, h, k1]
  rw [hme] at hmo
  unfold In.agg at hmo
  simp only at hmo
  have HMO := Lib.hid hmo
  have g5 : decide ((n : Int) < (a : Int) + 1 + 0) = false := by simp; omega
  clear hmo hme
  clear hgn
  clear hr hn ho hb hbb hcell hcl hgd hrow hR h BA BQ hqb hrb hlt
  go_enter Try.func64, Try.ntmps64
  go_wp2_with fail
  refine wp_region_held_drew (S := fun w' => w'.cell? ⟨w.heap.size + 1, 0, none⟩ = some (.int .u8 o) ∧ w'.cell? ⟨blk, off + a, none⟩ = some (.int .u8 b)) (by kernel_rfl) ⟨(HQ0.out.cell 0).trans rfl, c1⟩ (fun hHeld => ?_)
  refine wpAnyH_takeD (i := 0) (d := 32) (oi := _) (v := ?_) rfl rfl (by kernel_rfl) (by kernel_rfl) (by kernel_rfl) (fun _ _ _ h => h) (Or.inl ⟨by rfl, ?_⟩) (by assumption) ?_
  rotate_left
  · (intro w hSw; (try dsimp only at hSw); go_simp) <;> with_reducible rfl
  simp only [Act.put, setIfInBounds_toArray, set_cons_zero, set_cons_succ]
  refine wpAnyH_takeD (i := 1) (d := 33) (oi := _) (v := ?_) rfl rfl (by kernel_rfl) (by kernel_rfl) (by kernel_rfl) (fun _ _ _ h => h) (Or.inl ⟨by rfl, ?_⟩) (by assumption) ?_
  rotate_left
  · (intro w hSw; (try dsimp only at hSw); go_simp) <;> with_reducible rfl
  simp only [Act.put, setIfInBounds_toArray, set_cons_zero, set_cons_succ]
  refine wpAnyH_takeD (i := 3) (d := 35) (oi := _) (v := ?_) rfl rfl (by kernel_rfl) (by kernel_rfl) (by kernel_rfl) (fun _ _ _ h => h) (Or.inl ⟨by rfl, ?_⟩) (by assumption) ?_
  rotate_left
  · (intro w hSw; (try dsimp only at hSw); go_simp) <;> with_reducible rfl
  simp only [Act.put, setIfInBounds_toArray, set_cons_zero, set_cons_succ]
  refine wpAnyH_takeD (i := 4) (d := 36) (oi := _) (v := ?_) rfl rfl (by kernel_rfl) (by kernel_rfl) (by kernel_rfl) (fun _ _ _ h => h) (Or.inl ⟨by rfl, ?_⟩) (by assumption) ?_
  rotate_left
  · (intro w hSw; (try dsimp only at hSw); go_simp) <;> with_reducible rfl
  simp only [Act.put, setIfInBounds_toArray, set_cons_zero, set_cons_succ]
  refine wpAnyH_takeD (i := 5) (d := 37) (oi := _) (v := ?_) rfl rfl (by kernel_rfl) (by kernel_rfl) (by kernel_rfl) (fun _ _ _ h => h) (Or.inl ⟨by rfl, ?_⟩) (by assumption) ?_
  rotate_left
  · (intro w hSw; (try dsimp only at hSw); go_simp) <;> with_reducible rfl
  simp only [Act.put, setIfInBounds_toArray, set_cons_zero, set_cons_succ]
  refine wpAnyH_takeD (i := 6) (d := 38) (oi := _) (v := ?_) rfl rfl (by kernel_rfl) (by kernel_rfl) (by kernel_rfl) (fun _ _ _ h => h) (Or.inl ⟨by rfl, ?_⟩) (by assumption) ?_
  rotate_left
  · (intro w hSw; (try dsimp only at hSw); go_simp) <;> with_reducible rfl
  simp only [Act.put, setIfInBounds_toArray, set_cons_zero, set_cons_succ]
  refine wpAnyH_takeD (i := 7) (d := 39) (oi := _) (v := ?_) rfl rfl (by kernel_rfl) (by kernel_rfl) (by kernel_rfl) (fun _ _ _ h => h) (Or.inl ⟨by rfl, ?_⟩) (by assumption) ?_
  rotate_left
  · (intro w hSw; (try dsimp only at hSw); go_simp) <;> with_reducible rfl
  simp only [Act.put, setIfInBounds_toArray, set_cons_zero, set_cons_succ]
  refine wpAnyH_takeD (i := 8) (d := 40) (oi := _) (v := ?_) rfl rfl (by kernel_rfl) (by kernel_rfl) (by kernel_rfl) (fun _ _ _ h => h) (Or.inl ⟨by rfl, ?_⟩) (by assumption) ?_
  rotate_left
  · (intro w hSw; (try dsimp only at hSw); go_simp) <;> with_reducible rfl
  simp only [Act.put, setIfInBounds_toArray, set_cons_zero, set_cons_succ]
  refine wpAnyH_ready (rs := [2, 9]) (by kernel_rfl) (by simp) ?_
  refine AllReadyH.cons (o := _) rfl (fun K hK => ?_) (AllReadyH.cons (o := _) rfl (fun K hK => ?_) AllReadyH.nil)
  · go_simp
    refine (HROW.out _).mono ?_
    rintro e w1 ⟨rfl, hb1⟩
    have BW := Lib.hid (HBQ.out.trans (of_drew (hb1.mono HBQ.out.size)))
    have HQW := Lib.hid (HQ0.out.drew.below hb1)
    have HZW := Lib.hid (HZ0.out.drew.below hb1)
    go_wp2_with fail
    refine hK.out _ _ ⟨(HQW.out.cell 0).trans rfl, by have := HC.out a _ HLT.out BW.out; rwa [HBV.out] at this⟩ (fun hHeld => ?_)
    clear hK K hb1
    try simp only [Act.put, setIfInBounds_toArray, set_cons_zero, set_cons_succ]
    refine wpAnyH_ready (rs := [9]) (by kernel_rfl) (by simp) ?_
    refine AllReadyH.cons (o := _) rfl (fun K hK => ?_) AllReadyH.nil
    go_simp
    refine hK.out _ _ ⟨((HQW.out.alloc _).cell 0).trans rfl, by have := HC.out a _ HLT.out (BW.out.alloc BW.out.size (.cells #[.bool false, .int .i64 0, .bool false, .bool false, .bool false, .bool false, .bool false] 82)); rwa [HBV.out] at this⟩ (fun hHeld => ?_)
    clear hK K
    try simp only [Act.put, setIfInBounds_toArray, set_cons_zero, set_cons_succ]
    refine wpAnyH_ready (rs := [10]) (by kernel_rfl) (by simp) ?_
    refine AllReadyH.cons (o := _) rfl (fun K hK => ?_) AllReadyH.nil
    go_simp
    refine hK.out _ _ ⟨((HQW.out.alloc _).cell 0).trans rfl, by have := HC.out a _ HLT.out (BW.out.alloc BW.out.size (.cells #[.bool true, .int .i64 (-1), .bool false, .bool true, .bool false, .bool false, .bool false] 82)); rwa [HBV.out] at this⟩ (fun hHeld => ?_)
    clear hK K
    try simp only [Act.put, setIfInBounds_toArray, set_cons_zero, set_cons_succ]
    refine wpAnyH_takeD (i := 11) (d := 9) (oi := _) (v := ?_) rfl rfl (by kernel_rfl) (by kernel_rfl) (by kernel_rfl) (fun _ _ _ h => h) (Or.inl ⟨by rfl, ?_⟩) (by assumption) ?_
    rotate_left
    · (intro w hSw; (try dsimp only at hSw); go_simp) <;> with_reducible rfl
    simp only [Act.put, setIfInBounds_toArray, set_cons_zero, set_cons_succ]
    refine wpAnyH_done (by kernel_rfl) ?_ _
    have hQ := HQW.out.alloc (.cells #[.bool true, .int .i64 (-1), .bool false, .bool true, .bool false, .bool false, .bool false] 82)
    have hZ := HZW.out.alloc (.cells #[.bool true, .int .i64 (-1), .bool false, .bool true, .bool false, .bool false, .bool false] 82)
    have hR := Blk.new w1 82 #[.bool true, .int .i64 (-1), .bool false, .bool true, .bool false, .bool false, .bool false]
    have hB := BW.out.alloc BW.out.size (.cells #[.bool true, .int .i64 (-1), .bool false, .bool true, .bool false, .bool false, .bool false] 82)
    have hne : w1.heap.size ≠ w.heap.size + 1 := by have := HQW.out.lt; omega
    generalize w1.alloc (.cells #[.bool true, .int .i64 (-1), .bool false, .bool true, .bool false, .bool false, .bool false] 82) = W at *
    generalize w1.heap.size = r at *
    have HQ := Lib.hid hQ
    have HRR := Lib.hid hR
    have HB := Lib.hid hB
    have HZ := Lib.hid hZ
    have iq0 := hQ.cell 0
    have iq1 := hQ.cell 1
    have iq2 := hQ.cell 2
    have iq3 := hQ.cell 3
    simp at iq0 iq1 iq2 iq3
    have fiq0 := hQ.frozen 0
    have fiq1 := hQ.frozen 1
    have fiq2 := hQ.frozen 2
    have fiq3 := hQ.frozen 3
    have rq0 := hR.cell 0
    have rq1 := hR.cell 1
    have rq2 := hR.cell 2
    have rq3 := hR.cell 3
    have rq4 := hR.cell 4
    have rq5 := hR.cell 5
    have rq6 := hR.cell 6
    simp at rq0 rq1 rq2 rq3 rq4 rq5 rq6
    clear hQ hR hB hZ
    go_wp2_with fail
    refine (HMO.out _).mono ?_
    rintro e w2 ⟨rfl, hb2⟩
    have hQ1 : Blk (W.setCell ⟨w.heap.size + 1, 2, none⟩ (.int .i64 low)) (w.heap.size + 1) 31 #[.int .u8 o, .int .i64 0, .int .i64 low, .int .i64 0] := by simpa using HQ.out.set 2 (.int .i64 low)
    have HQ2 := Lib.hid (hQ1.below hb2)
    have HR2 := Lib.hid ((HRR.out.far (p := ⟨w.heap.size + 1, 2, none⟩) hne _).below hb2)
    have HZ2 := Lib.hid ((HZ.out.far (p := ⟨w.heap.size + 1, 2, none⟩) (by simp) _).below hb2)
    have HB2 := Lib.hid (ch0 (HB.out.setCell (p := ⟨w.heap.size + 1, 2, none⟩) (by simp) _) hb2)
    clear hb2 hQ1 iq0 fiq0 iq1 fiq1 iq2 fiq2 iq3 fiq3 rq0 rq1 rq2 rq3 rq4 rq5 rq6
    have jq0 := HQ2.out.cell 0
    have jq1 := HQ2.out.cell 1
    have jq2 := HQ2.out.cell 2
    have jq3 := HQ2.out.cell 3
    simp at jq0 jq1 jq2 jq3
    have fjq0 := HQ2.out.frozen 0
    have fjq1 := HQ2.out.frozen 1
    have fjq2 := HQ2.out.frozen 2
    have fjq3 := HQ2.out.frozen 3
    have sq0 := HR2.out.cell 0
    have sq1 := HR2.out.cell 1
    have sq2 := HR2.out.cell 2
    have sq3 := HR2.out.cell 3
    have sq4 := HR2.out.cell 4
    have sq5 := HR2.out.cell 5
    have sq6 := HR2.out.cell 6
    simp at sq0 sq1 sq2 sq3 sq4 sq5 sq6
    have ha1 : ((a : Int) + 1).toNat = a + 1 := by omega
    have ha2 : ((a : Int) + 2).toNat = a + 2 := by omega
    go_wp2_with fail
    have HQ3 := Lib.hid HQ2.out
    have HZ3 := Lib.hid HZ2.out
    have HB3 := Lib.hid HB2.out
    have hrt := fun W => rightI_any ⟨o, 0, low, 0⟩ W o0
    unfold codeI at hrt
    rw [show rightI ⟨o, 0, low, 0⟩ = true from (lim_5 _ _ _ _ H.out).2 (by omega)] at hrt
    simp only [if_true] at hrt
    unfold In.agg at hrt
    simp only at hrt
    have HRT := Lib.hid hrt
    clear hrt
    refine (HRT.out _).mono ?_
    rintro e w3 ⟨rfl, hb3⟩
    have HQ4 := Lib.hid (HQ3.out.below hb3)
    have HZ4 := Lib.hid (HZ3.out.below hb3)
    have HB4 := Lib.hid (ch0 HB3.out hb3)
    clear hb3 jq0 fjq0 jq1 fjq1 jq2 fjq2 jq3 fjq3 sq0 sq1 sq2 sq3 sq4 sq5 sq6
    have mq0 := HQ4.out.cell 0
    have mq1 := HQ4.out.cell 1
    have mq2 := HQ4.out.cell 2
    have mq3 := HQ4.out.cell 3
    simp at mq0 mq1 mq2 mq3
    have zq0 := HZ4.out.cell 0
    have zq1 := HZ4.out.cell 1
    have zq2 := HZ4.out.cell 2
    have zq3 := HZ4.out.cell 3
    simp at zq0 zq1 zq2 zq3
    have fzq0 := HZ4.out.frozen 0
    have fzq1 := HZ4.out.frozen 1
    have fzq2 := HZ4.out.frozen 2
    have fzq3 := HZ4.out.frozen 3
    go_wp2_with fail
    obtain ⟨hz4, hb4⟩ := st4 (.int .u8 o) (.int .i64 0) (.int .i64 low) (.int .i64 0) HZ4.out HB4.out (Nat.le_refl _)
    have rr0 := hz4.cell 0
    have rr1 := hz4.cell 1
    have rr2 := hz4.cell 2
    have rr3 := hz4.cell 3
    simp at rr0 rr1 rr2 rr3
    have hret : Ending.returned (.tuple #[.agg #[.int .u8 o, .int .i64 0, .int .i64 low, .int .i64 0], .int .i64 ((a : Int) + 1), .int .i64 0]) = .returned (.tuple #[(getN bs a).1.agg, .int .i64 (getN bs a).2.1, .int .i64 (getN bs a).2.2]) := by rw [HGN.out]; rfl
    exact bodyPost_ret (v := .tuple #[.agg #[.int .u8 o, .int .i64 0, .int .i64 low, .int .i64 0], .int .i64 ((a : Int) + 1), .int .i64 0]) (by simp [results, Try.results64, go_sem, rr0, rr1, rr2, rr3]) rfl ⟨hret, hb4⟩
  · go_simp
    refine hK.out _ _ ⟨(HQB.out.cell 0).trans rfl, by have := HC.out a _ HLT.out HBR.out; rwa [HBV.out] at this⟩ (fun hHeld => ?_)
    clear hK K
    try simp only [Act.put, setIfInBounds_toArray, set_cons_zero, set_cons_succ]
    refine wpAnyH_ready (rs := [2]) (by kernel_rfl) (by simp) ?_
    refine AllReadyH.cons (o := _) rfl (fun K hK => ?_) AllReadyH.nil
    go_simp
    refine (HROW.out _).mono ?_
    rintro e w1 ⟨rfl, hb1⟩
    have BW := Lib.hid (HBR.out.trans (of_drew (hb1.mono HBR.out.size)))
    have HQW := Lib.hid (HQB.out.drew.below hb1)
    have HZW := Lib.hid ((HZ0.out.alloc _).drew.below hb1)
    have HRW := Lib.hid (HRB.out.drew.below hb1)
    clear hb1
    go_wp2_with fail
    refine hK.out _ _ ⟨(HQW.out.cell 0).trans rfl, by have := HC.out a _ HLT.out BW.out; rwa [HBV.out] at this⟩ (fun hHeld => ?_)
    clear hK K
    try simp only [Act.put, setIfInBounds_toArray, set_cons_zero, set_cons_succ]
    have z0 := HRW.out.frozen 0
    have z1 := HRW.out.frozen 1
    have z2 := HRW.out.frozen 2
    have z3 := HRW.out.frozen 3
    have z4 := HRW.out.frozen 4
    have z5 := HRW.out.frozen 5
    have z6 := HRW.out.frozen 6
    have y0 := HRW.out.cell 0
    have y1 := HRW.out.cell 1
    have y2 := HRW.out.cell 2
    have y3 := HRW.out.cell 3
    have y4 := HRW.out.cell 4
    have y5 := HRW.out.cell 5
    have y6 := HRW.out.cell 6
    simp at y0 y1 y2 y3 y4 y5 y6
    refine wpAnyH_ready (rs := [10]) (by kernel_rfl) (by simp) ?_
    refine AllReadyH.cons (o := _) rfl (fun K hK => ?_) AllReadyH.nil
    go_simp
    obtain ⟨hR, hB, hF⟩ := st7 (.bool true) (.int .i64 (-1)) (.bool false) (.bool true) (.bool false) (.bool false) (.bool false) HRW.out BW.out (by omega)
    have hQ := hF _ _ _ (by omega) HQW.out
    have hZ := hF _ _ _ (by omega) HZW.out
    refine hK.out _ _ ⟨(hQ.cell 0).trans rfl, by have := HC.out a _ HLT.out hB; rwa [HBV.out] at this⟩ (fun hHeld => ?_)
    clear hK K hF z0 z1 z2 z3 z4 z5 z6 y0 y1 y2 y3 y4 y5 y6
    try simp only [Act.put, setIfInBounds_toArray, set_cons_zero, set_cons_succ]
    refine wpAnyH_takeD (i := 11) (d := 9) (oi := _) (v := ?_) rfl rfl (by kernel_rfl) (by kernel_rfl) (by kernel_rfl) (fun _ _ _ h => h) (Or.inl ⟨by rfl, ?_⟩) (by assumption) ?_
    rotate_left
    · (intro w hSw; (try dsimp only at hSw); go_simp) <;> with_reducible rfl
    simp only [Act.put, setIfInBounds_toArray, set_cons_zero, set_cons_succ]
    refine wpAnyH_done (by kernel_rfl) ?_ _
    have hne : w.heap.size + 1 + 1 ≠ w.heap.size + 1 := by omega
    generalize hWW : (((((((w1.setCell ⟨w.heap.size + 1 + 1, 0, none⟩ (.bool true)).setCell ⟨w.heap.size + 1 + 1, 1, none⟩ (.int .i64 (-1))).setCell ⟨w.heap.size + 1 + 1, 2, none⟩ (.bool false)).setCell ⟨w.heap.size + 1 + 1, 3, none⟩ (.bool true)).setCell ⟨w.heap.size + 1 + 1, 4, none⟩ (.bool false)).setCell ⟨w.heap.size + 1 + 1, 5, none⟩ (.bool false)).setCell ⟨w.heap.size + 1 + 1, 6, none⟩ (.bool false)) = W at *
    clear hWW
    generalize w.heap.size + 1 + 1 = r at *
    have HQ := Lib.hid hQ
    have HRR := Lib.hid hR
    have HB := Lib.hid hB
    have HZ := Lib.hid hZ
    have iq0 := hQ.cell 0
    have iq1 := hQ.cell 1
    have iq2 := hQ.cell 2
    have iq3 := hQ.cell 3
    simp at iq0 iq1 iq2 iq3
    have fiq0 := hQ.frozen 0
    have fiq1 := hQ.frozen 1
    have fiq2 := hQ.frozen 2
    have fiq3 := hQ.frozen 3
    have rq0 := hR.cell 0
    have rq1 := hR.cell 1
    have rq2 := hR.cell 2
    have rq3 := hR.cell 3
    have rq4 := hR.cell 4
    have rq5 := hR.cell 5
    have rq6 := hR.cell 6
    simp at rq0 rq1 rq2 rq3 rq4 rq5 rq6
    clear hQ hR hB hZ
    go_wp2_with fail
    refine (HMO.out _).mono ?_
    rintro e w2 ⟨rfl, hb2⟩
    have hQ1 : Blk (W.setCell ⟨w.heap.size + 1, 2, none⟩ (.int .i64 low)) (w.heap.size + 1) 31 #[.int .u8 o, .int .i64 0, .int .i64 low, .int .i64 0] := by simpa using HQ.out.set 2 (.int .i64 low)
    have HQ2 := Lib.hid (hQ1.below hb2)
    have HR2 := Lib.hid ((HRR.out.far (p := ⟨w.heap.size + 1, 2, none⟩) hne _).below hb2)
    have HZ2 := Lib.hid ((HZ.out.far (p := ⟨w.heap.size + 1, 2, none⟩) (by simp) _).below hb2)
    have HB2 := Lib.hid (ch0 (HB.out.setCell (p := ⟨w.heap.size + 1, 2, none⟩) (by simp) _) hb2)
    clear hb2 hQ1 iq0 fiq0 iq1 fiq1 iq2 fiq2 iq3 fiq3 rq0 rq1 rq2 rq3 rq4 rq5 rq6
    have jq0 := HQ2.out.cell 0
    have jq1 := HQ2.out.cell 1
    have jq2 := HQ2.out.cell 2
    have jq3 := HQ2.out.cell 3
    simp at jq0 jq1 jq2 jq3
    have fjq0 := HQ2.out.frozen 0
    have fjq1 := HQ2.out.frozen 1
    have fjq2 := HQ2.out.frozen 2
    have fjq3 := HQ2.out.frozen 3
    have sq0 := HR2.out.cell 0
    have sq1 := HR2.out.cell 1
    have sq2 := HR2.out.cell 2
    have sq3 := HR2.out.cell 3
    have sq4 := HR2.out.cell 4
    have sq5 := HR2.out.cell 5
    have sq6 := HR2.out.cell 6
    simp at sq0 sq1 sq2 sq3 sq4 sq5 sq6
    have ha1 : ((a : Int) + 1).toNat = a + 1 := by omega
    have ha2 : ((a : Int) + 2).toNat = a + 2 := by omega
    go_wp2_with fail
    have HQ3 := Lib.hid HQ2.out
    have HZ3 := Lib.hid HZ2.out
    have HB3 := Lib.hid HB2.out
    have hrt := fun W => rightI_any ⟨o, 0, low, 0⟩ W o0
    unfold codeI at hrt
    rw [show rightI ⟨o, 0, low, 0⟩ = true from (lim_5 _ _ _ _ H.out).2 (by omega)] at hrt
    simp only [if_true] at hrt
    unfold In.agg at hrt
    simp only at hrt
    have HRT := Lib.hid hrt
    clear hrt
    refine (HRT.out _).mono ?_
    rintro e w3 ⟨rfl, hb3⟩
    have HQ4 := Lib.hid (HQ3.out.below hb3)
    have HZ4 := Lib.hid (HZ3.out.below hb3)
    have HB4 := Lib.hid (ch0 HB3.out hb3)
    clear hb3 jq0 fjq0 jq1 fjq1 jq2 fjq2 jq3 fjq3 sq0 sq1 sq2 sq3 sq4 sq5 sq6
    have mq0 := HQ4.out.cell 0
    have mq1 := HQ4.out.cell 1
    have mq2 := HQ4.out.cell 2
    have mq3 := HQ4.out.cell 3
    simp at mq0 mq1 mq2 mq3
    have zq0 := HZ4.out.cell 0
    have zq1 := HZ4.out.cell 1
    have zq2 := HZ4.out.cell 2
    have zq3 := HZ4.out.cell 3
    simp at zq0 zq1 zq2 zq3
    have fzq0 := HZ4.out.frozen 0
    have fzq1 := HZ4.out.frozen 1
    have fzq2 := HZ4.out.frozen 2
    have fzq3 := HZ4.out.frozen 3
    go_wp2_with fail
    obtain ⟨hz4, hb4⟩ := st4 (.int .u8 o) (.int .i64 0) (.int .i64 low) (.int .i64 0) HZ4.out HB4.out (Nat.le_refl _)
    have rr0 := hz4.cell 0
    have rr1 := hz4.cell 1
    have rr2 := hz4.cell 2
    have rr3 := hz4.cell 3
    simp at rr0 rr1 rr2 rr3
    have hret : Ending.returned (.tuple #[.agg #[.int .u8 o, .int .i64 0, .int .i64 low, .int .i64 0], .int .i64 ((a : Int) + 1), .int .i64 0]) = .returned (.tuple #[(getN bs a).1.agg, .int .i64 (getN bs a).2.1, .int .i64 (getN bs a).2.2]) := by rw [HGN.out]; rfl
    exact bodyPost_ret (v := .tuple #[.agg #[.int .u8 o, .int .i64 0, .int .i64 low, .int .i64 0], .int .i64 ((a : Int) + 1), .int .i64 0]) (by simp [results, Try.results64, go_sem, rr0, rr1, rr2, rr3]) rfl ⟨hret, hb4⟩
set_option maxRecDepth 100000 in
set_option maxHeartbeats 8000000 in
theorem get_6short (bs : List Int) (A : Option Addr) (n c a : Nat) (w : World) (b o low : Int) (hn : n = bs.length) (ho : Oct bs) (hr : Rd w A (octs bs)) (hlt : a < n) (hn2 : n ≤ 65536) (hb : bs.getD a 0 = b) (hbo : b / 8 = o) (hbl : b % 8 = low) (h : shO o = ⟨true, 3, false, false, true, false, false⟩) (k1 : low ≤ 3) (k2 : n < a + 2) : Calls Try.prog 64 #[.slice A n c, .int .i64 a] w (IsGot (getN bs a) w) := by
  have hbb := ho.getD a
  rw [hb] at hbb
  have b0 := hbb.1
  have b1 := hbb.2
  have l0 : 0 ≤ low := by omega
  have l1 : low ≤ 7 := by omega
  have o0 : 0 ≤ o := by omega
  have o1 : o ≤ 31 := by omega
  have hand := and7 b b0 b1
  rw [hbl] at hand
  obtain ⟨blk, off, rfl, hbk, hcell⟩ := hr (by rw [octs_length]; omega)
  have hcl : ∀ k W, k < n → Below w.heap.size w W → W.cell? ⟨blk, off + k, none⟩ = some (.int .u8 (bs.getD k 0)) := fun k W hk hW => (hW.cell (p := ⟨blk, off + k, none⟩) hbk).trans (hcell k _ (octs_at (by omega)))
  have HC := Lib.hid hcl
  have hgd : ∀ k, 0 ≤ bs.getD k 0 ∧ bs.getD k 0 ≤ 255 := fun k => ho.getD k
  have HG := Lib.hid hgd
  have hrow := fun W => shape_any o W o0
  have hR : ∀ w e w', IsSh o w e w' → e = .returned (.agg #[.bool true, .int .i64 (3), .bool false, .bool false, .bool true, .bool false, .bool false]) ∧ Below w.heap.size w w' := fun w e w' hh => ⟨by rw [hh.1, h]; rfl, hh.2⟩
  have HROW := Lib.hid fun w => (hrow w).mono (hR w)
  have H := Lib.hid h
  have HBV := Lib.hid hb
  have HN := Lib.hid hn
  have BA : Below w.heap.size w (w.alloc (.cells #[.int .u8 0, .int .i64 0, .int .i64 0, .int .i64 0] 31)) := (Below.refl _ _).alloc (Nat.le_refl _) _
  have c0 := hcl a _ hlt BA
  rw [hb] at c0
  have BQ : Below w.heap.size w ((w.alloc (.cells #[.int .u8 0, .int .i64 0, .int .i64 0, .int .i64 0] 31)).alloc (.cells #[.int .u8 o, .int .i64 0, .int .i64 0, .int .i64 0] 31)) := BA.alloc BA.size _
  have c1 := hcl a _ hlt BQ
  rw [hb] at c1
  have g1 : decide ((n : Int) ≤ (a : Int)) = false := by simp; omega
  have g2 : decide ((65536 : Int) < (n : Int)) = false := by simp; omega
  have g3 : (a : Int) < (n : Int) := by omega
  have HBQ := Lib.hid BQ
  have hqb := Blk.new (w.alloc (.cells #[.int .u8 0, .int .i64 0, .int .i64 0, .int .i64 0] 31)) 31 #[.int .u8 o, .int .i64 0, .int .i64 0, .int .i64 0]
  rw [World.size_alloc] at hqb
  have HQ0 := Lib.hid hqb
  have HZ0 := Lib.hid ((Blk.new w 31 #[.int .u8 0, .int .i64 0, .int .i64 0, .int .i64 0]).alloc (.cells #[.int .u8 o, .int .i64 0, .int .i64 0, .int .i64 0] 31))
  have hqb := hqb.alloc (.cells #[.bool false, .int .i64 0, .bool false, .bool false, .bool false, .bool false, .bool false] 82)
  have HQB := Lib.hid hqb
  have hrb := Blk.new ((w.alloc (.cells #[.int .u8 0, .int .i64 0, .int .i64 0, .int .i64 0] 31)).alloc (.cells #[.int .u8 o, .int .i64 0, .int .i64 0, .int .i64 0] 31)) 82 #[.bool false, .int .i64 0, .bool false, .bool false, .bool false, .bool false, .bool false]
  rw [World.size_alloc, World.size_alloc] at hrb
  have HRB := Lib.hid hrb
  have HBR := Lib.hid (BQ.alloc BQ.size (.cells #[.bool false, .int .i64 0, .bool false, .bool false, .bool false, .bool false, .bool false] 82))
  have q0 := hqb.cell 0
  simp at q0
  have HLT := Lib.hid hlt
  have hwl : IntKind.i64.wrap low = low := IntWalk.i64_in _ (by omega)
  have g0 : decide ((a : Int) < 0) = false := by simp
  have nb2 : ¬ w.heap.size + 2 = blk := by omega
  have nb3 : ¬ blk = w.heap.size + 2 := by omega
  have hgn := getN_6short bs n a b o low hn ho hlt hb hbo hbl h k1 k2
  have HGN := Lib.hid hgn
  have hmo := fun W => moreI_any ⟨o, low, 0, 0⟩ W o0
  have hme : moreI ⟨o, low, 0, 0⟩ = 1 := by simp [moreI, h]
  rw [hme] at hmo
  unfold In.agg at hmo
  simp only at hmo
  have HMO := Lib.hid hmo
  have g5 : decide ((n : Int) < (a : Int) + 1 + 1) = true := by simp; omega
  clear hmo hme
  have g6 : decide (3 < low) = false := by simp; omega
  clear hgn
  clear hr hn ho hb hbb hcell hcl hgd hrow hR h BA BQ hqb hrb hlt
  go_enter Try.func64, Try.ntmps64
  go_wp2_with fail
  refine wp_region_held_drew (S := fun w' => w'.cell? ⟨w.heap.size + 1, 0, none⟩ = some (.int .u8 o) ∧ w'.cell? ⟨blk, off + a, none⟩ = some (.int .u8 b)) (by kernel_rfl) ⟨(HQ0.out.cell 0).trans rfl, c1⟩ (fun hHeld => ?_)
  refine wpAnyH_takeD (i := 0) (d := 32) (oi := _) (v := ?_) rfl rfl (by kernel_rfl) (by kernel_rfl) (by kernel_rfl) (fun _ _ _ h => h) (Or.inl ⟨by rfl, ?_⟩) (by assumption) ?_
  rotate_left
  · (intro w hSw; (try dsimp only at hSw); go_simp) <;> with_reducible rfl
  simp only [Act.put, setIfInBounds_toArray, set_cons_zero, set_cons_succ]
  refine wpAnyH_takeD (i := 1) (d := 33) (oi := _) (v := ?_) rfl rfl (by kernel_rfl) (by kernel_rfl) (by kernel_rfl) (fun _ _ _ h => h) (Or.inl ⟨by rfl, ?_⟩) (by assumption) ?_
  rotate_left
  · (intro w hSw; (try dsimp only at hSw); go_simp) <;> with_reducible rfl
  simp only [Act.put, setIfInBounds_toArray, set_cons_zero, set_cons_succ]
  refine wpAnyH_takeD (i := 3) (d := 35) (oi := _) (v := ?_) rfl rfl (by kernel_rfl) (by kernel_rfl) (by kernel_rfl) (fun _ _ _ h => h) (Or.inl ⟨by rfl, ?_⟩) (by assumption) ?_
  rotate_left
  · (intro w hSw; (try dsimp only at hSw); go_simp) <;> with_reducible rfl
  simp only [Act.put, setIfInBounds_toArray, set_cons_zero, set_cons_succ]
  refine wpAnyH_takeD (i := 4) (d := 36) (oi := _) (v := ?_) rfl rfl (by kernel_rfl) (by kernel_rfl) (by kernel_rfl) (fun _ _ _ h => h) (Or.inl ⟨by rfl, ?_⟩) (by assumption) ?_
  rotate_left
  · (intro w hSw; (try dsimp only at hSw); go_simp) <;> with_reducible rfl
  simp only [Act.put, setIfInBounds_toArray, set_cons_zero, set_cons_succ]
  refine wpAnyH_takeD (i := 5) (d := 37) (oi := _) (v := ?_) rfl rfl (by kernel_rfl) (by kernel_rfl) (by kernel_rfl) (fun _ _ _ h => h) (Or.inl ⟨by rfl, ?_⟩) (by assumption) ?_
  rotate_left
  · (intro w hSw; (try dsimp only at hSw); go_simp) <;> with_reducible rfl
  simp only [Act.put, setIfInBounds_toArray, set_cons_zero, set_cons_succ]
  refine wpAnyH_takeD (i := 6) (d := 38) (oi := _) (v := ?_) rfl rfl (by kernel_rfl) (by kernel_rfl) (by kernel_rfl) (fun _ _ _ h => h) (Or.inl ⟨by rfl, ?_⟩) (by assumption) ?_
  rotate_left
  · (intro w hSw; (try dsimp only at hSw); go_simp) <;> with_reducible rfl
  simp only [Act.put, setIfInBounds_toArray, set_cons_zero, set_cons_succ]
  refine wpAnyH_takeD (i := 7) (d := 39) (oi := _) (v := ?_) rfl rfl (by kernel_rfl) (by kernel_rfl) (by kernel_rfl) (fun _ _ _ h => h) (Or.inl ⟨by rfl, ?_⟩) (by assumption) ?_
  rotate_left
  · (intro w hSw; (try dsimp only at hSw); go_simp) <;> with_reducible rfl
  simp only [Act.put, setIfInBounds_toArray, set_cons_zero, set_cons_succ]
  refine wpAnyH_takeD (i := 8) (d := 40) (oi := _) (v := ?_) rfl rfl (by kernel_rfl) (by kernel_rfl) (by kernel_rfl) (fun _ _ _ h => h) (Or.inl ⟨by rfl, ?_⟩) (by assumption) ?_
  rotate_left
  · (intro w hSw; (try dsimp only at hSw); go_simp) <;> with_reducible rfl
  simp only [Act.put, setIfInBounds_toArray, set_cons_zero, set_cons_succ]
  refine wpAnyH_ready (rs := [2, 9]) (by kernel_rfl) (by simp) ?_
  refine AllReadyH.cons (o := _) rfl (fun K hK => ?_) (AllReadyH.cons (o := _) rfl (fun K hK => ?_) AllReadyH.nil)
  · go_simp
    refine (HROW.out _).mono ?_
    rintro e w1 ⟨rfl, hb1⟩
    have BW := Lib.hid (HBQ.out.trans (of_drew (hb1.mono HBQ.out.size)))
    have HQW := Lib.hid (HQ0.out.drew.below hb1)
    have HZW := Lib.hid (HZ0.out.drew.below hb1)
    go_wp2_with fail
    refine hK.out _ _ ⟨(HQW.out.cell 0).trans rfl, by have := HC.out a _ HLT.out BW.out; rwa [HBV.out] at this⟩ (fun hHeld => ?_)
    clear hK K hb1
    try simp only [Act.put, setIfInBounds_toArray, set_cons_zero, set_cons_succ]
    refine wpAnyH_ready (rs := [9]) (by kernel_rfl) (by simp) ?_
    refine AllReadyH.cons (o := _) rfl (fun K hK => ?_) AllReadyH.nil
    go_simp
    refine hK.out _ _ ⟨((HQW.out.alloc _).cell 0).trans rfl, by have := HC.out a _ HLT.out (BW.out.alloc BW.out.size (.cells #[.bool false, .int .i64 0, .bool false, .bool false, .bool false, .bool false, .bool false] 82)); rwa [HBV.out] at this⟩ (fun hHeld => ?_)
    clear hK K
    try simp only [Act.put, setIfInBounds_toArray, set_cons_zero, set_cons_succ]
    refine wpAnyH_ready (rs := [10]) (by kernel_rfl) (by simp) ?_
    refine AllReadyH.cons (o := _) rfl (fun K hK => ?_) AllReadyH.nil
    go_simp
    refine hK.out _ _ ⟨((HQW.out.alloc _).cell 0).trans rfl, by have := HC.out a _ HLT.out (BW.out.alloc BW.out.size (.cells #[.bool true, .int .i64 (3), .bool false, .bool false, .bool true, .bool false, .bool false] 82)); rwa [HBV.out] at this⟩ (fun hHeld => ?_)
    clear hK K
    try simp only [Act.put, setIfInBounds_toArray, set_cons_zero, set_cons_succ]
    refine wpAnyH_takeD (i := 11) (d := 9) (oi := _) (v := ?_) rfl rfl (by kernel_rfl) (by kernel_rfl) (by kernel_rfl) (fun _ _ _ h => h) (Or.inl ⟨by rfl, ?_⟩) (by assumption) ?_
    rotate_left
    · (intro w hSw; (try dsimp only at hSw); go_simp) <;> with_reducible rfl
    simp only [Act.put, setIfInBounds_toArray, set_cons_zero, set_cons_succ]
    refine wpAnyH_done (by kernel_rfl) ?_ _
    have hQ := HQW.out.alloc (.cells #[.bool true, .int .i64 (3), .bool false, .bool false, .bool true, .bool false, .bool false] 82)
    have hZ := HZW.out.alloc (.cells #[.bool true, .int .i64 (3), .bool false, .bool false, .bool true, .bool false, .bool false] 82)
    have hR := Blk.new w1 82 #[.bool true, .int .i64 (3), .bool false, .bool false, .bool true, .bool false, .bool false]
    have hB := BW.out.alloc BW.out.size (.cells #[.bool true, .int .i64 (3), .bool false, .bool false, .bool true, .bool false, .bool false] 82)
    have hne : w1.heap.size ≠ w.heap.size + 1 := by have := HQW.out.lt; omega
    generalize w1.alloc (.cells #[.bool true, .int .i64 (3), .bool false, .bool false, .bool true, .bool false, .bool false] 82) = W at *
    generalize w1.heap.size = r at *
    have HQ := Lib.hid hQ
    have HRR := Lib.hid hR
    have HB := Lib.hid hB
    have HZ := Lib.hid hZ
    have iq0 := hQ.cell 0
    have iq1 := hQ.cell 1
    have iq2 := hQ.cell 2
    have iq3 := hQ.cell 3
    simp at iq0 iq1 iq2 iq3
    have fiq0 := hQ.frozen 0
    have fiq1 := hQ.frozen 1
    have fiq2 := hQ.frozen 2
    have fiq3 := hQ.frozen 3
    have rq0 := hR.cell 0
    have rq1 := hR.cell 1
    have rq2 := hR.cell 2
    have rq3 := hR.cell 3
    have rq4 := hR.cell 4
    have rq5 := hR.cell 5
    have rq6 := hR.cell 6
    simp at rq0 rq1 rq2 rq3 rq4 rq5 rq6
    clear hQ hR hB hZ
    go_wp2_with fail
    refine (HMO.out _).mono ?_
    rintro e w2 ⟨rfl, hb2⟩
    have hQ1 : Blk (W.setCell ⟨w.heap.size + 1, 1, none⟩ (.int .i64 low)) (w.heap.size + 1) 31 #[.int .u8 o, .int .i64 low, .int .i64 0, .int .i64 0] := by simpa using HQ.out.set 1 (.int .i64 low)
    have HQ2 := Lib.hid (hQ1.below hb2)
    have HR2 := Lib.hid ((HRR.out.far (p := ⟨w.heap.size + 1, 1, none⟩) hne _).below hb2)
    have HZ2 := Lib.hid ((HZ.out.far (p := ⟨w.heap.size + 1, 1, none⟩) (by simp) _).below hb2)
    have HB2 := Lib.hid (ch0 (HB.out.setCell (p := ⟨w.heap.size + 1, 1, none⟩) (by simp) _) hb2)
    clear hb2 hQ1 iq0 fiq0 iq1 fiq1 iq2 fiq2 iq3 fiq3 rq0 rq1 rq2 rq3 rq4 rq5 rq6
    have zq0 := HZ2.out.cell 0
    have zq1 := HZ2.out.cell 1
    have zq2 := HZ2.out.cell 2
    have zq3 := HZ2.out.cell 3
    simp at zq0 zq1 zq2 zq3
    have fzq0 := HZ2.out.frozen 0
    have fzq1 := HZ2.out.frozen 1
    have fzq2 := HZ2.out.frozen 2
    have fzq3 := HZ2.out.frozen 3
    go_wp2_with fail
    obtain ⟨hz4, hb4⟩ := st4 (.int .u8 0) (.int .i64 0) (.int .i64 0) (.int .i64 0) HZ2.out HB2.out (Nat.le_refl _)
    have rr0 := hz4.cell 0
    have rr1 := hz4.cell 1
    have rr2 := hz4.cell 2
    have rr3 := hz4.cell 3
    simp at rr0 rr1 rr2 rr3
    exact bodyPost_ret (v := .tuple #[.agg #[.int .u8 0, .int .i64 0, .int .i64 0, .int .i64 0], .int .i64 (0), .int .i64 12]) (by simp [results, Try.results64, go_sem, rr0, rr1, rr2, rr3]) rfl ⟨by rw [HGN.out]; rfl, hb4⟩
  · go_simp
    refine hK.out _ _ ⟨(HQB.out.cell 0).trans rfl, by have := HC.out a _ HLT.out HBR.out; rwa [HBV.out] at this⟩ (fun hHeld => ?_)
    clear hK K
    try simp only [Act.put, setIfInBounds_toArray, set_cons_zero, set_cons_succ]
    refine wpAnyH_ready (rs := [2]) (by kernel_rfl) (by simp) ?_
    refine AllReadyH.cons (o := _) rfl (fun K hK => ?_) AllReadyH.nil
    go_simp
    refine (HROW.out _).mono ?_
    rintro e w1 ⟨rfl, hb1⟩
    have BW := Lib.hid (HBR.out.trans (of_drew (hb1.mono HBR.out.size)))
    have HQW := Lib.hid (HQB.out.drew.below hb1)
    have HZW := Lib.hid ((HZ0.out.alloc _).drew.below hb1)
    have HRW := Lib.hid (HRB.out.drew.below hb1)
    clear hb1
    go_wp2_with fail
    refine hK.out _ _ ⟨(HQW.out.cell 0).trans rfl, by have := HC.out a _ HLT.out BW.out; rwa [HBV.out] at this⟩ (fun hHeld => ?_)
    clear hK K
    try simp only [Act.put, setIfInBounds_toArray, set_cons_zero, set_cons_succ]
    have z0 := HRW.out.frozen 0
    have z1 := HRW.out.frozen 1
    have z2 := HRW.out.frozen 2
    have z3 := HRW.out.frozen 3
    have z4 := HRW.out.frozen 4
    have z5 := HRW.out.frozen 5
    have z6 := HRW.out.frozen 6
    have y0 := HRW.out.cell 0
    have y1 := HRW.out.cell 1
    have y2 := HRW.out.cell 2
    have y3 := HRW.out.cell 3
    have y4 := HRW.out.cell 4
    have y5 := HRW.out.cell 5
    have y6 := HRW.out.cell 6
    simp at y0 y1 y2 y3 y4 y5 y6
    refine wpAnyH_ready (rs := [10]) (by kernel_rfl) (by simp) ?_
    refine AllReadyH.cons (o := _) rfl (fun K hK => ?_) AllReadyH.nil
    go_simp
    obtain ⟨hR, hB, hF⟩ := st7 (.bool true) (.int .i64 (3)) (.bool false) (.bool false) (.bool true) (.bool false) (.bool false) HRW.out BW.out (by omega)
    have hQ := hF _ _ _ (by omega) HQW.out
    have hZ := hF _ _ _ (by omega) HZW.out
    refine hK.out _ _ ⟨(hQ.cell 0).trans rfl, by have := HC.out a _ HLT.out hB; rwa [HBV.out] at this⟩ (fun hHeld => ?_)
    clear hK K hF z0 z1 z2 z3 z4 z5 z6 y0 y1 y2 y3 y4 y5 y6
    try simp only [Act.put, setIfInBounds_toArray, set_cons_zero, set_cons_succ]
    refine wpAnyH_takeD (i := 11) (d := 9) (oi := _) (v := ?_) rfl rfl (by kernel_rfl) (by kernel_rfl) (by kernel_rfl) (fun _ _ _ h => h) (Or.inl ⟨by rfl, ?_⟩) (by assumption) ?_
    rotate_left
    · (intro w hSw; (try dsimp only at hSw); go_simp) <;> with_reducible rfl
    simp only [Act.put, setIfInBounds_toArray, set_cons_zero, set_cons_succ]
    refine wpAnyH_done (by kernel_rfl) ?_ _
    have hne : w.heap.size + 1 + 1 ≠ w.heap.size + 1 := by omega
    generalize hWW : (((((((w1.setCell ⟨w.heap.size + 1 + 1, 0, none⟩ (.bool true)).setCell ⟨w.heap.size + 1 + 1, 1, none⟩ (.int .i64 (3))).setCell ⟨w.heap.size + 1 + 1, 2, none⟩ (.bool false)).setCell ⟨w.heap.size + 1 + 1, 3, none⟩ (.bool false)).setCell ⟨w.heap.size + 1 + 1, 4, none⟩ (.bool true)).setCell ⟨w.heap.size + 1 + 1, 5, none⟩ (.bool false)).setCell ⟨w.heap.size + 1 + 1, 6, none⟩ (.bool false)) = W at *
    clear hWW
    generalize w.heap.size + 1 + 1 = r at *
    have HQ := Lib.hid hQ
    have HRR := Lib.hid hR
    have HB := Lib.hid hB
    have HZ := Lib.hid hZ
    have iq0 := hQ.cell 0
    have iq1 := hQ.cell 1
    have iq2 := hQ.cell 2
    have iq3 := hQ.cell 3
    simp at iq0 iq1 iq2 iq3
    have fiq0 := hQ.frozen 0
    have fiq1 := hQ.frozen 1
    have fiq2 := hQ.frozen 2
    have fiq3 := hQ.frozen 3
    have rq0 := hR.cell 0
    have rq1 := hR.cell 1
    have rq2 := hR.cell 2
    have rq3 := hR.cell 3
    have rq4 := hR.cell 4
    have rq5 := hR.cell 5
    have rq6 := hR.cell 6
    simp at rq0 rq1 rq2 rq3 rq4 rq5 rq6
    clear hQ hR hB hZ
    go_wp2_with fail
    refine (HMO.out _).mono ?_
    rintro e w2 ⟨rfl, hb2⟩
    have hQ1 : Blk (W.setCell ⟨w.heap.size + 1, 1, none⟩ (.int .i64 low)) (w.heap.size + 1) 31 #[.int .u8 o, .int .i64 low, .int .i64 0, .int .i64 0] := by simpa using HQ.out.set 1 (.int .i64 low)
    have HQ2 := Lib.hid (hQ1.below hb2)
    have HR2 := Lib.hid ((HRR.out.far (p := ⟨w.heap.size + 1, 1, none⟩) hne _).below hb2)
    have HZ2 := Lib.hid ((HZ.out.far (p := ⟨w.heap.size + 1, 1, none⟩) (by simp) _).below hb2)
    have HB2 := Lib.hid (ch0 (HB.out.setCell (p := ⟨w.heap.size + 1, 1, none⟩) (by simp) _) hb2)
    clear hb2 hQ1 iq0 fiq0 iq1 fiq1 iq2 fiq2 iq3 fiq3 rq0 rq1 rq2 rq3 rq4 rq5 rq6
    have zq0 := HZ2.out.cell 0
    have zq1 := HZ2.out.cell 1
    have zq2 := HZ2.out.cell 2
    have zq3 := HZ2.out.cell 3
    simp at zq0 zq1 zq2 zq3
    have fzq0 := HZ2.out.frozen 0
    have fzq1 := HZ2.out.frozen 1
    have fzq2 := HZ2.out.frozen 2
    have fzq3 := HZ2.out.frozen 3
    go_wp2_with fail
    obtain ⟨hz4, hb4⟩ := st4 (.int .u8 0) (.int .i64 0) (.int .i64 0) (.int .i64 0) HZ2.out HB2.out (Nat.le_refl _)
    have rr0 := hz4.cell 0
    have rr1 := hz4.cell 1
    have rr2 := hz4.cell 2
    have rr3 := hz4.cell 3
    simp at rr0 rr1 rr2 rr3
    exact bodyPost_ret (v := .tuple #[.agg #[.int .u8 0, .int .i64 0, .int .i64 0, .int .i64 0], .int .i64 (0), .int .i64 12]) (by simp [results, Try.results64, go_sem, rr0, rr1, rr2, rr3]) rfl ⟨by rw [HGN.out]; rfl, hb4⟩
set_option maxRecDepth 100000 in
set_option maxHeartbeats 8000000 in
theorem get_7ok (bs : List Int) (A : Option Addr) (n c a : Nat) (w : World) (b o low : Int) (hn : n = bs.length) (ho : Oct bs) (hr : Rd w A (octs bs)) (hlt : a < n) (hn2 : n ≤ 65536) (hb : bs.getD a 0 = b) (hbo : b / 8 = o) (hbl : b % 8 = low) (h : shO o = ⟨true, -1, false, false, true, false, false⟩) (k1 : low ≤ 0) (k2 : a + 2 ≤ n) : Calls Try.prog 64 #[.slice A n c, .int .i64 a] w (IsGot (getN bs a) w) := by
  have hbb := ho.getD a
  rw [hb] at hbb
  have b0 := hbb.1
  have b1 := hbb.2
  have l0 : 0 ≤ low := by omega
  have l1 : low ≤ 7 := by omega
  have o0 : 0 ≤ o := by omega
  have o1 : o ≤ 31 := by omega
  have hand := and7 b b0 b1
  rw [hbl] at hand
  obtain ⟨blk, off, rfl, hbk, hcell⟩ := hr (by rw [octs_length]; omega)
  have hcl : ∀ k W, k < n → Below w.heap.size w W → W.cell? ⟨blk, off + k, none⟩ = some (.int .u8 (bs.getD k 0)) := fun k W hk hW => (hW.cell (p := ⟨blk, off + k, none⟩) hbk).trans (hcell k _ (octs_at (by omega)))
  have HC := Lib.hid hcl
  have hgd : ∀ k, 0 ≤ bs.getD k 0 ∧ bs.getD k 0 ≤ 255 := fun k => ho.getD k
  have HG := Lib.hid hgd
  have hrow := fun W => shape_any o W o0
  have hR : ∀ w e w', IsSh o w e w' → e = .returned (.agg #[.bool true, .int .i64 (-1), .bool false, .bool false, .bool true, .bool false, .bool false]) ∧ Below w.heap.size w w' := fun w e w' hh => ⟨by rw [hh.1, h]; rfl, hh.2⟩
  have HROW := Lib.hid fun w => (hrow w).mono (hR w)
  have H := Lib.hid h
  have HBV := Lib.hid hb
  have HN := Lib.hid hn
  have BA : Below w.heap.size w (w.alloc (.cells #[.int .u8 0, .int .i64 0, .int .i64 0, .int .i64 0] 31)) := (Below.refl _ _).alloc (Nat.le_refl _) _
  have c0 := hcl a _ hlt BA
  rw [hb] at c0
  have BQ : Below w.heap.size w ((w.alloc (.cells #[.int .u8 0, .int .i64 0, .int .i64 0, .int .i64 0] 31)).alloc (.cells #[.int .u8 o, .int .i64 0, .int .i64 0, .int .i64 0] 31)) := BA.alloc BA.size _
  have c1 := hcl a _ hlt BQ
  rw [hb] at c1
  have g1 : decide ((n : Int) ≤ (a : Int)) = false := by simp; omega
  have g2 : decide ((65536 : Int) < (n : Int)) = false := by simp; omega
  have g3 : (a : Int) < (n : Int) := by omega
  have HBQ := Lib.hid BQ
  have hqb := Blk.new (w.alloc (.cells #[.int .u8 0, .int .i64 0, .int .i64 0, .int .i64 0] 31)) 31 #[.int .u8 o, .int .i64 0, .int .i64 0, .int .i64 0]
  rw [World.size_alloc] at hqb
  have HQ0 := Lib.hid hqb
  have HZ0 := Lib.hid ((Blk.new w 31 #[.int .u8 0, .int .i64 0, .int .i64 0, .int .i64 0]).alloc (.cells #[.int .u8 o, .int .i64 0, .int .i64 0, .int .i64 0] 31))
  have hqb := hqb.alloc (.cells #[.bool false, .int .i64 0, .bool false, .bool false, .bool false, .bool false, .bool false] 82)
  have HQB := Lib.hid hqb
  have hrb := Blk.new ((w.alloc (.cells #[.int .u8 0, .int .i64 0, .int .i64 0, .int .i64 0] 31)).alloc (.cells #[.int .u8 o, .int .i64 0, .int .i64 0, .int .i64 0] 31)) 82 #[.bool false, .int .i64 0, .bool false, .bool false, .bool false, .bool false, .bool false]
  rw [World.size_alloc, World.size_alloc] at hrb
  have HRB := Lib.hid hrb
  have HBR := Lib.hid (BQ.alloc BQ.size (.cells #[.bool false, .int .i64 0, .bool false, .bool false, .bool false, .bool false, .bool false] 82))
  have q0 := hqb.cell 0
  simp at q0
  have HLT := Lib.hid hlt
  have hwl : IntKind.i64.wrap low = low := IntWalk.i64_in _ (by omega)
  have g0 : decide ((a : Int) < 0) = false := by simp
  have nb2 : ¬ w.heap.size + 2 = blk := by omega
  have nb3 : ¬ blk = w.heap.size + 2 := by omega
  have hgn := getN_7ok bs n a b o low hn ho hlt hb hbo hbl h k1 k2
  have HGN := Lib.hid hgn
  obtain rfl : low = 0 := by omega
  have hmo := fun W => moreI_any ⟨o, 0, 0, 0⟩ W o0
  have hme : moreI ⟨o, 0, 0, 0⟩ = 1 := by simp [moreI, h]
  rw [hme] at hmo
  unfold In.agg at hmo
  simp only at hmo
  have HMO := Lib.hid hmo
  have g5 : decide ((n : Int) < (a : Int) + 1 + 1) = false := by simp; omega
  clear hmo hme
  have g6 : decide (0 < 0) = false := by simp
  clear hgn
  clear hr hn ho hb hbb hcell hcl hgd hrow hR h BA BQ hqb hrb hlt
  go_enter Try.func64, Try.ntmps64
  go_wp2_with fail
  refine wp_region_held_drew (S := fun w' => w'.cell? ⟨w.heap.size + 1, 0, none⟩ = some (.int .u8 o) ∧ w'.cell? ⟨blk, off + a, none⟩ = some (.int .u8 b)) (by kernel_rfl) ⟨(HQ0.out.cell 0).trans rfl, c1⟩ (fun hHeld => ?_)
  refine wpAnyH_takeD (i := 0) (d := 32) (oi := _) (v := ?_) rfl rfl (by kernel_rfl) (by kernel_rfl) (by kernel_rfl) (fun _ _ _ h => h) (Or.inl ⟨by rfl, ?_⟩) (by assumption) ?_
  rotate_left
  · (intro w hSw; (try dsimp only at hSw); go_simp) <;> with_reducible rfl
  simp only [Act.put, setIfInBounds_toArray, set_cons_zero, set_cons_succ]
  refine wpAnyH_takeD (i := 1) (d := 33) (oi := _) (v := ?_) rfl rfl (by kernel_rfl) (by kernel_rfl) (by kernel_rfl) (fun _ _ _ h => h) (Or.inl ⟨by rfl, ?_⟩) (by assumption) ?_
  rotate_left
  · (intro w hSw; (try dsimp only at hSw); go_simp) <;> with_reducible rfl
  simp only [Act.put, setIfInBounds_toArray, set_cons_zero, set_cons_succ]
  refine wpAnyH_takeD (i := 3) (d := 35) (oi := _) (v := ?_) rfl rfl (by kernel_rfl) (by kernel_rfl) (by kernel_rfl) (fun _ _ _ h => h) (Or.inl ⟨by rfl, ?_⟩) (by assumption) ?_
  rotate_left
  · (intro w hSw; (try dsimp only at hSw); go_simp) <;> with_reducible rfl
  simp only [Act.put, setIfInBounds_toArray, set_cons_zero, set_cons_succ]
  refine wpAnyH_takeD (i := 4) (d := 36) (oi := _) (v := ?_) rfl rfl (by kernel_rfl) (by kernel_rfl) (by kernel_rfl) (fun _ _ _ h => h) (Or.inl ⟨by rfl, ?_⟩) (by assumption) ?_
  rotate_left
  · (intro w hSw; (try dsimp only at hSw); go_simp) <;> with_reducible rfl
  simp only [Act.put, setIfInBounds_toArray, set_cons_zero, set_cons_succ]
  refine wpAnyH_takeD (i := 5) (d := 37) (oi := _) (v := ?_) rfl rfl (by kernel_rfl) (by kernel_rfl) (by kernel_rfl) (fun _ _ _ h => h) (Or.inl ⟨by rfl, ?_⟩) (by assumption) ?_
  rotate_left
  · (intro w hSw; (try dsimp only at hSw); go_simp) <;> with_reducible rfl
  simp only [Act.put, setIfInBounds_toArray, set_cons_zero, set_cons_succ]
  refine wpAnyH_takeD (i := 6) (d := 38) (oi := _) (v := ?_) rfl rfl (by kernel_rfl) (by kernel_rfl) (by kernel_rfl) (fun _ _ _ h => h) (Or.inl ⟨by rfl, ?_⟩) (by assumption) ?_
  rotate_left
  · (intro w hSw; (try dsimp only at hSw); go_simp) <;> with_reducible rfl
  simp only [Act.put, setIfInBounds_toArray, set_cons_zero, set_cons_succ]
  refine wpAnyH_takeD (i := 7) (d := 39) (oi := _) (v := ?_) rfl rfl (by kernel_rfl) (by kernel_rfl) (by kernel_rfl) (fun _ _ _ h => h) (Or.inl ⟨by rfl, ?_⟩) (by assumption) ?_
  rotate_left
  · (intro w hSw; (try dsimp only at hSw); go_simp) <;> with_reducible rfl
  simp only [Act.put, setIfInBounds_toArray, set_cons_zero, set_cons_succ]
  refine wpAnyH_takeD (i := 8) (d := 40) (oi := _) (v := ?_) rfl rfl (by kernel_rfl) (by kernel_rfl) (by kernel_rfl) (fun _ _ _ h => h) (Or.inl ⟨by rfl, ?_⟩) (by assumption) ?_
  rotate_left
  · (intro w hSw; (try dsimp only at hSw); go_simp) <;> with_reducible rfl
  simp only [Act.put, setIfInBounds_toArray, set_cons_zero, set_cons_succ]
  refine wpAnyH_ready (rs := [2, 9]) (by kernel_rfl) (by simp) ?_
  refine AllReadyH.cons (o := _) rfl (fun K hK => ?_) (AllReadyH.cons (o := _) rfl (fun K hK => ?_) AllReadyH.nil)
  · go_simp
    refine (HROW.out _).mono ?_
    rintro e w1 ⟨rfl, hb1⟩
    have BW := Lib.hid (HBQ.out.trans (of_drew (hb1.mono HBQ.out.size)))
    have HQW := Lib.hid (HQ0.out.drew.below hb1)
    have HZW := Lib.hid (HZ0.out.drew.below hb1)
    go_wp2_with fail
    refine hK.out _ _ ⟨(HQW.out.cell 0).trans rfl, by have := HC.out a _ HLT.out BW.out; rwa [HBV.out] at this⟩ (fun hHeld => ?_)
    clear hK K hb1
    try simp only [Act.put, setIfInBounds_toArray, set_cons_zero, set_cons_succ]
    refine wpAnyH_ready (rs := [9]) (by kernel_rfl) (by simp) ?_
    refine AllReadyH.cons (o := _) rfl (fun K hK => ?_) AllReadyH.nil
    go_simp
    refine hK.out _ _ ⟨((HQW.out.alloc _).cell 0).trans rfl, by have := HC.out a _ HLT.out (BW.out.alloc BW.out.size (.cells #[.bool false, .int .i64 0, .bool false, .bool false, .bool false, .bool false, .bool false] 82)); rwa [HBV.out] at this⟩ (fun hHeld => ?_)
    clear hK K
    try simp only [Act.put, setIfInBounds_toArray, set_cons_zero, set_cons_succ]
    refine wpAnyH_ready (rs := [10]) (by kernel_rfl) (by simp) ?_
    refine AllReadyH.cons (o := _) rfl (fun K hK => ?_) AllReadyH.nil
    go_simp
    refine hK.out _ _ ⟨((HQW.out.alloc _).cell 0).trans rfl, by have := HC.out a _ HLT.out (BW.out.alloc BW.out.size (.cells #[.bool true, .int .i64 (-1), .bool false, .bool false, .bool true, .bool false, .bool false] 82)); rwa [HBV.out] at this⟩ (fun hHeld => ?_)
    clear hK K
    try simp only [Act.put, setIfInBounds_toArray, set_cons_zero, set_cons_succ]
    refine wpAnyH_takeD (i := 11) (d := 9) (oi := _) (v := ?_) rfl rfl (by kernel_rfl) (by kernel_rfl) (by kernel_rfl) (fun _ _ _ h => h) (Or.inl ⟨by rfl, ?_⟩) (by assumption) ?_
    rotate_left
    · (intro w hSw; (try dsimp only at hSw); go_simp) <;> with_reducible rfl
    simp only [Act.put, setIfInBounds_toArray, set_cons_zero, set_cons_succ]
    refine wpAnyH_done (by kernel_rfl) ?_ _
    have hQ := HQW.out.alloc (.cells #[.bool true, .int .i64 (-1), .bool false, .bool false, .bool true, .bool false, .bool false] 82)
    have hZ := HZW.out.alloc (.cells #[.bool true, .int .i64 (-1), .bool false, .bool false, .bool true, .bool false, .bool false] 82)
    have hR := Blk.new w1 82 #[.bool true, .int .i64 (-1), .bool false, .bool false, .bool true, .bool false, .bool false]
    have hB := BW.out.alloc BW.out.size (.cells #[.bool true, .int .i64 (-1), .bool false, .bool false, .bool true, .bool false, .bool false] 82)
    have hne : w1.heap.size ≠ w.heap.size + 1 := by have := HQW.out.lt; omega
    generalize w1.alloc (.cells #[.bool true, .int .i64 (-1), .bool false, .bool false, .bool true, .bool false, .bool false] 82) = W at *
    generalize w1.heap.size = r at *
    have HQ := Lib.hid hQ
    have HRR := Lib.hid hR
    have HB := Lib.hid hB
    have HZ := Lib.hid hZ
    have iq0 := hQ.cell 0
    have iq1 := hQ.cell 1
    have iq2 := hQ.cell 2
    have iq3 := hQ.cell 3
    simp at iq0 iq1 iq2 iq3
    have fiq0 := hQ.frozen 0
    have fiq1 := hQ.frozen 1
    have fiq2 := hQ.frozen 2
    have fiq3 := hQ.frozen 3
    have rq0 := hR.cell 0
    have rq1 := hR.cell 1
    have rq2 := hR.cell 2
    have rq3 := hR.cell 3
    have rq4 := hR.cell 4
    have rq5 := hR.cell 5
    have rq6 := hR.cell 6
    simp at rq0 rq1 rq2 rq3 rq4 rq5 rq6
    clear hQ hR hB hZ
    go_wp2_with fail
    refine (HMO.out _).mono ?_
    rintro e w2 ⟨rfl, hb2⟩
    have hQ1 : Blk (W.setCell ⟨w.heap.size + 1, 1, none⟩ (.int .i64 0)) (w.heap.size + 1) 31 #[.int .u8 o, .int .i64 0, .int .i64 0, .int .i64 0] := by simpa using HQ.out.set 1 (.int .i64 0)
    have HQ2 := Lib.hid (hQ1.below hb2)
    have HR2 := Lib.hid ((HRR.out.far (p := ⟨w.heap.size + 1, 1, none⟩) hne _).below hb2)
    have HZ2 := Lib.hid ((HZ.out.far (p := ⟨w.heap.size + 1, 1, none⟩) (by simp) _).below hb2)
    have HB2 := Lib.hid (ch0 (HB.out.setCell (p := ⟨w.heap.size + 1, 1, none⟩) (by simp) _) hb2)
    clear hb2 hQ1 iq0 fiq0 iq1 fiq1 iq2 fiq2 iq3 fiq3 rq0 rq1 rq2 rq3 rq4 rq5 rq6
    have jq0 := HQ2.out.cell 0
    have jq1 := HQ2.out.cell 1
    have jq2 := HQ2.out.cell 2
    have jq3 := HQ2.out.cell 3
    simp at jq0 jq1 jq2 jq3
    have fjq0 := HQ2.out.frozen 0
    have fjq1 := HQ2.out.frozen 1
    have fjq2 := HQ2.out.frozen 2
    have fjq3 := HQ2.out.frozen 3
    have sq0 := HR2.out.cell 0
    have sq1 := HR2.out.cell 1
    have sq2 := HR2.out.cell 2
    have sq3 := HR2.out.cell 3
    have sq4 := HR2.out.cell 4
    have sq5 := HR2.out.cell 5
    have sq6 := HR2.out.cell 6
    simp at sq0 sq1 sq2 sq3 sq4 sq5 sq6
    have d1 := HC.out (a + 1) w2 (by omega) HB2.out
    obtain ⟨B1, hB1⟩ : ∃ x, bs.getD (a + 1) 0 = x := ⟨_, rfl⟩
    have hg1 := HG.out (a + 1)
    rw [hB1] at d1 hg1
    have HB1 := Lib.hid hB1
    clear hB1
    have ha1 : ((a : Int) + 1).toNat = a + 1 := by omega
    have ha2 : ((a : Int) + 2).toNat = a + 2 := by omega
    have ha3 : (a : Int) + 1 < (n : Int) := by omega
    go_wp2_with fail
    have hQ3 : Blk (w2.setCell ⟨w.heap.size + 1, 3, none⟩ (.int .i64 (B1))) (w.heap.size + 1) 31 #[.int .u8 o, .int .i64 0, .int .i64 0, .int .i64 (B1)] := by simpa using HQ2.out.set 3 (.int .i64 (B1))
    have HQ3 := Lib.hid hQ3
    clear hQ3
    have HZ3 := Lib.hid (HZ2.out.far (p := ⟨w.heap.size + 1, 3, none⟩) (by simp) (.int .i64 (B1)))
    have HB3 := Lib.hid (HB2.out.setCell (p := ⟨w.heap.size + 1, 3, none⟩) (by simp) (.int .i64 (B1)))
    have hrt := fun W => rightI_any ⟨o, 0, 0, (B1)⟩ W o0
    unfold codeI at hrt
    rw [show rightI ⟨o, 0, 0, (B1)⟩ = true from (lim_7 _ _ _ _ H.out).2 (by omega)] at hrt
    simp only [if_true] at hrt
    unfold In.agg at hrt
    simp only at hrt
    have HRT := Lib.hid hrt
    clear hrt
    refine (HRT.out _).mono ?_
    rintro e w3 ⟨rfl, hb3⟩
    have HQ4 := Lib.hid (HQ3.out.below hb3)
    have HZ4 := Lib.hid (HZ3.out.below hb3)
    have HB4 := Lib.hid (ch0 HB3.out hb3)
    clear hb3 jq0 fjq0 jq1 fjq1 jq2 fjq2 jq3 fjq3 sq0 sq1 sq2 sq3 sq4 sq5 sq6
    have mq0 := HQ4.out.cell 0
    have mq1 := HQ4.out.cell 1
    have mq2 := HQ4.out.cell 2
    have mq3 := HQ4.out.cell 3
    simp at mq0 mq1 mq2 mq3
    have zq0 := HZ4.out.cell 0
    have zq1 := HZ4.out.cell 1
    have zq2 := HZ4.out.cell 2
    have zq3 := HZ4.out.cell 3
    simp at zq0 zq1 zq2 zq3
    have fzq0 := HZ4.out.frozen 0
    have fzq1 := HZ4.out.frozen 1
    have fzq2 := HZ4.out.frozen 2
    have fzq3 := HZ4.out.frozen 3
    go_wp2_with fail
    obtain ⟨hz4, hb4⟩ := st4 (.int .u8 o) (.int .i64 0) (.int .i64 0) (.int .i64 (B1)) HZ4.out HB4.out (Nat.le_refl _)
    have rr0 := hz4.cell 0
    have rr1 := hz4.cell 1
    have rr2 := hz4.cell 2
    have rr3 := hz4.cell 3
    simp at rr0 rr1 rr2 rr3
    have hret : Ending.returned (.tuple #[.agg #[.int .u8 o, .int .i64 0, .int .i64 0, .int .i64 (B1)], .int .i64 ((a : Int) + 1 + 1), .int .i64 0]) = .returned (.tuple #[(getN bs a).1.agg, .int .i64 (getN bs a).2.1, .int .i64 (getN bs a).2.2]) := by rw [HGN.out, HB1.out]; rw [show (a : Int) + 1 + 1 = a + 2 by omega]; rfl
    exact bodyPost_ret (v := .tuple #[.agg #[.int .u8 o, .int .i64 0, .int .i64 0, .int .i64 (B1)], .int .i64 ((a : Int) + 1 + 1), .int .i64 0]) (by simp [results, Try.results64, go_sem, rr0, rr1, rr2, rr3]) rfl ⟨hret, hb4⟩
  · go_simp
    refine hK.out _ _ ⟨(HQB.out.cell 0).trans rfl, by have := HC.out a _ HLT.out HBR.out; rwa [HBV.out] at this⟩ (fun hHeld => ?_)
    clear hK K
    try simp only [Act.put, setIfInBounds_toArray, set_cons_zero, set_cons_succ]
    refine wpAnyH_ready (rs := [2]) (by kernel_rfl) (by simp) ?_
    refine AllReadyH.cons (o := _) rfl (fun K hK => ?_) AllReadyH.nil
    go_simp
    refine (HROW.out _).mono ?_
    rintro e w1 ⟨rfl, hb1⟩
    have BW := Lib.hid (HBR.out.trans (of_drew (hb1.mono HBR.out.size)))
    have HQW := Lib.hid (HQB.out.drew.below hb1)
    have HZW := Lib.hid ((HZ0.out.alloc _).drew.below hb1)
    have HRW := Lib.hid (HRB.out.drew.below hb1)
    clear hb1
    go_wp2_with fail
    refine hK.out _ _ ⟨(HQW.out.cell 0).trans rfl, by have := HC.out a _ HLT.out BW.out; rwa [HBV.out] at this⟩ (fun hHeld => ?_)
    clear hK K
    try simp only [Act.put, setIfInBounds_toArray, set_cons_zero, set_cons_succ]
    have z0 := HRW.out.frozen 0
    have z1 := HRW.out.frozen 1
    have z2 := HRW.out.frozen 2
    have z3 := HRW.out.frozen 3
    have z4 := HRW.out.frozen 4
    have z5 := HRW.out.frozen 5
    have z6 := HRW.out.frozen 6
    have y0 := HRW.out.cell 0
    have y1 := HRW.out.cell 1
    have y2 := HRW.out.cell 2
    have y3 := HRW.out.cell 3
    have y4 := HRW.out.cell 4
    have y5 := HRW.out.cell 5
    have y6 := HRW.out.cell 6
    simp at y0 y1 y2 y3 y4 y5 y6
    refine wpAnyH_ready (rs := [10]) (by kernel_rfl) (by simp) ?_
    refine AllReadyH.cons (o := _) rfl (fun K hK => ?_) AllReadyH.nil
    go_simp
    obtain ⟨hR, hB, hF⟩ := st7 (.bool true) (.int .i64 (-1)) (.bool false) (.bool false) (.bool true) (.bool false) (.bool false) HRW.out BW.out (by omega)
    have hQ := hF _ _ _ (by omega) HQW.out
    have hZ := hF _ _ _ (by omega) HZW.out
    refine hK.out _ _ ⟨(hQ.cell 0).trans rfl, by have := HC.out a _ HLT.out hB; rwa [HBV.out] at this⟩ (fun hHeld => ?_)
    clear hK K hF z0 z1 z2 z3 z4 z5 z6 y0 y1 y2 y3 y4 y5 y6
    try simp only [Act.put, setIfInBounds_toArray, set_cons_zero, set_cons_succ]
    refine wpAnyH_takeD (i := 11) (d := 9) (oi := _) (v := ?_) rfl rfl (by kernel_rfl) (by kernel_rfl) (by kernel_rfl) (fun _ _ _ h => h) (Or.inl ⟨by rfl, ?_⟩) (by assumption) ?_
    rotate_left
    · (intro w hSw; (try dsimp only at hSw); go_simp) <;> with_reducible rfl
    simp only [Act.put, setIfInBounds_toArray, set_cons_zero, set_cons_succ]
    refine wpAnyH_done (by kernel_rfl) ?_ _
    have hne : w.heap.size + 1 + 1 ≠ w.heap.size + 1 := by omega
    generalize hWW : (((((((w1.setCell ⟨w.heap.size + 1 + 1, 0, none⟩ (.bool true)).setCell ⟨w.heap.size + 1 + 1, 1, none⟩ (.int .i64 (-1))).setCell ⟨w.heap.size + 1 + 1, 2, none⟩ (.bool false)).setCell ⟨w.heap.size + 1 + 1, 3, none⟩ (.bool false)).setCell ⟨w.heap.size + 1 + 1, 4, none⟩ (.bool true)).setCell ⟨w.heap.size + 1 + 1, 5, none⟩ (.bool false)).setCell ⟨w.heap.size + 1 + 1, 6, none⟩ (.bool false)) = W at *
    clear hWW
    generalize w.heap.size + 1 + 1 = r at *
    have HQ := Lib.hid hQ
    have HRR := Lib.hid hR
    have HB := Lib.hid hB
    have HZ := Lib.hid hZ
    have iq0 := hQ.cell 0
    have iq1 := hQ.cell 1
    have iq2 := hQ.cell 2
    have iq3 := hQ.cell 3
    simp at iq0 iq1 iq2 iq3
    have fiq0 := hQ.frozen 0
    have fiq1 := hQ.frozen 1
    have fiq2 := hQ.frozen 2
    have fiq3 := hQ.frozen 3
    have rq0 := hR.cell 0
    have rq1 := hR.cell 1
    have rq2 := hR.cell 2
    have rq3 := hR.cell 3
    have rq4 := hR.cell 4
    have rq5 := hR.cell 5
    have rq6 := hR.cell 6
    simp at rq0 rq1 rq2 rq3 rq4 rq5 rq6
    clear hQ hR hB hZ
    go_wp2_with fail
    refine (HMO.out _).mono ?_
    rintro e w2 ⟨rfl, hb2⟩
    have hQ1 : Blk (W.setCell ⟨w.heap.size + 1, 1, none⟩ (.int .i64 0)) (w.heap.size + 1) 31 #[.int .u8 o, .int .i64 0, .int .i64 0, .int .i64 0] := by simpa using HQ.out.set 1 (.int .i64 0)
    have HQ2 := Lib.hid (hQ1.below hb2)
    have HR2 := Lib.hid ((HRR.out.far (p := ⟨w.heap.size + 1, 1, none⟩) hne _).below hb2)
    have HZ2 := Lib.hid ((HZ.out.far (p := ⟨w.heap.size + 1, 1, none⟩) (by simp) _).below hb2)
    have HB2 := Lib.hid (ch0 (HB.out.setCell (p := ⟨w.heap.size + 1, 1, none⟩) (by simp) _) hb2)
    clear hb2 hQ1 iq0 fiq0 iq1 fiq1 iq2 fiq2 iq3 fiq3 rq0 rq1 rq2 rq3 rq4 rq5 rq6
    have jq0 := HQ2.out.cell 0
    have jq1 := HQ2.out.cell 1
    have jq2 := HQ2.out.cell 2
    have jq3 := HQ2.out.cell 3
    simp at jq0 jq1 jq2 jq3
    have fjq0 := HQ2.out.frozen 0
    have fjq1 := HQ2.out.frozen 1
    have fjq2 := HQ2.out.frozen 2
    have fjq3 := HQ2.out.frozen 3
    have sq0 := HR2.out.cell 0
    have sq1 := HR2.out.cell 1
    have sq2 := HR2.out.cell 2
    have sq3 := HR2.out.cell 3
    have sq4 := HR2.out.cell 4
    have sq5 := HR2.out.cell 5
    have sq6 := HR2.out.cell 6
    simp at sq0 sq1 sq2 sq3 sq4 sq5 sq6
    have d1 := HC.out (a + 1) w2 (by omega) HB2.out
    obtain ⟨B1, hB1⟩ : ∃ x, bs.getD (a + 1) 0 = x := ⟨_, rfl⟩
    have hg1 := HG.out (a + 1)
    rw [hB1] at d1 hg1
    have HB1 := Lib.hid hB1
    clear hB1
    have ha1 : ((a : Int) + 1).toNat = a + 1 := by omega
    have ha2 : ((a : Int) + 2).toNat = a + 2 := by omega
    have ha3 : (a : Int) + 1 < (n : Int) := by omega
    go_wp2_with fail
    have hQ3 : Blk (w2.setCell ⟨w.heap.size + 1, 3, none⟩ (.int .i64 (B1))) (w.heap.size + 1) 31 #[.int .u8 o, .int .i64 0, .int .i64 0, .int .i64 (B1)] := by simpa using HQ2.out.set 3 (.int .i64 (B1))
    have HQ3 := Lib.hid hQ3
    clear hQ3
    have HZ3 := Lib.hid (HZ2.out.far (p := ⟨w.heap.size + 1, 3, none⟩) (by simp) (.int .i64 (B1)))
    have HB3 := Lib.hid (HB2.out.setCell (p := ⟨w.heap.size + 1, 3, none⟩) (by simp) (.int .i64 (B1)))
    have hrt := fun W => rightI_any ⟨o, 0, 0, (B1)⟩ W o0
    unfold codeI at hrt
    rw [show rightI ⟨o, 0, 0, (B1)⟩ = true from (lim_7 _ _ _ _ H.out).2 (by omega)] at hrt
    simp only [if_true] at hrt
    unfold In.agg at hrt
    simp only at hrt
    have HRT := Lib.hid hrt
    clear hrt
    refine (HRT.out _).mono ?_
    rintro e w3 ⟨rfl, hb3⟩
    have HQ4 := Lib.hid (HQ3.out.below hb3)
    have HZ4 := Lib.hid (HZ3.out.below hb3)
    have HB4 := Lib.hid (ch0 HB3.out hb3)
    clear hb3 jq0 fjq0 jq1 fjq1 jq2 fjq2 jq3 fjq3 sq0 sq1 sq2 sq3 sq4 sq5 sq6
    have mq0 := HQ4.out.cell 0
    have mq1 := HQ4.out.cell 1
    have mq2 := HQ4.out.cell 2
    have mq3 := HQ4.out.cell 3
    simp at mq0 mq1 mq2 mq3
    have zq0 := HZ4.out.cell 0
    have zq1 := HZ4.out.cell 1
    have zq2 := HZ4.out.cell 2
    have zq3 := HZ4.out.cell 3
    simp at zq0 zq1 zq2 zq3
    have fzq0 := HZ4.out.frozen 0
    have fzq1 := HZ4.out.frozen 1
    have fzq2 := HZ4.out.frozen 2
    have fzq3 := HZ4.out.frozen 3
    go_wp2_with fail
    obtain ⟨hz4, hb4⟩ := st4 (.int .u8 o) (.int .i64 0) (.int .i64 0) (.int .i64 (B1)) HZ4.out HB4.out (Nat.le_refl _)
    have rr0 := hz4.cell 0
    have rr1 := hz4.cell 1
    have rr2 := hz4.cell 2
    have rr3 := hz4.cell 3
    simp at rr0 rr1 rr2 rr3
    have hret : Ending.returned (.tuple #[.agg #[.int .u8 o, .int .i64 0, .int .i64 0, .int .i64 (B1)], .int .i64 ((a : Int) + 1 + 1), .int .i64 0]) = .returned (.tuple #[(getN bs a).1.agg, .int .i64 (getN bs a).2.1, .int .i64 (getN bs a).2.2]) := by rw [HGN.out, HB1.out]; rw [show (a : Int) + 1 + 1 = a + 2 by omega]; rfl
    exact bodyPost_ret (v := .tuple #[.agg #[.int .u8 o, .int .i64 0, .int .i64 0, .int .i64 (B1)], .int .i64 ((a : Int) + 1 + 1), .int .i64 0]) (by simp [results, Try.results64, go_sem, rr0, rr1, rr2, rr3]) rfl ⟨hret, hb4⟩
set_option maxRecDepth 100000 in
set_option maxHeartbeats 8000000 in
theorem get_8bad (bs : List Int) (A : Option Addr) (n c a : Nat) (w : World) (b o low : Int) (hn : n = bs.length) (ho : Oct bs) (hr : Rd w A (octs bs)) (hlt : a < n) (hn2 : n ≤ 65536) (hb : bs.getD a 0 = b) (hbo : b / 8 = o) (hbl : b % 8 = low) (h : shO o = ⟨true, -1, false, false, false, true, false⟩) (k1 : low ≤ 0) (k2 : a + 2 ≤ n) (k3 : (a : Int) + 2 + i8 (bs.getD (a + 1) 0) < 0 ∨ 65535 < (a : Int) + 2 + i8 (bs.getD (a + 1) 0)) : Calls Try.prog 64 #[.slice A n c, .int .i64 a] w (IsGot (getN bs a) w) := by
  have hbb := ho.getD a
  rw [hb] at hbb
  have b0 := hbb.1
  have b1 := hbb.2
  have l0 : 0 ≤ low := by omega
  have l1 : low ≤ 7 := by omega
  have o0 : 0 ≤ o := by omega
  have o1 : o ≤ 31 := by omega
  have hand := and7 b b0 b1
  rw [hbl] at hand
  obtain ⟨blk, off, rfl, hbk, hcell⟩ := hr (by rw [octs_length]; omega)
  have hcl : ∀ k W, k < n → Below w.heap.size w W → W.cell? ⟨blk, off + k, none⟩ = some (.int .u8 (bs.getD k 0)) := fun k W hk hW => (hW.cell (p := ⟨blk, off + k, none⟩) hbk).trans (hcell k _ (octs_at (by omega)))
  have HC := Lib.hid hcl
  have hgd : ∀ k, 0 ≤ bs.getD k 0 ∧ bs.getD k 0 ≤ 255 := fun k => ho.getD k
  have HG := Lib.hid hgd
  have hrow := fun W => shape_any o W o0
  have hR : ∀ w e w', IsSh o w e w' → e = .returned (.agg #[.bool true, .int .i64 (-1), .bool false, .bool false, .bool false, .bool true, .bool false]) ∧ Below w.heap.size w w' := fun w e w' hh => ⟨by rw [hh.1, h]; rfl, hh.2⟩
  have HROW := Lib.hid fun w => (hrow w).mono (hR w)
  have H := Lib.hid h
  have HBV := Lib.hid hb
  have HN := Lib.hid hn
  have BA : Below w.heap.size w (w.alloc (.cells #[.int .u8 0, .int .i64 0, .int .i64 0, .int .i64 0] 31)) := (Below.refl _ _).alloc (Nat.le_refl _) _
  have c0 := hcl a _ hlt BA
  rw [hb] at c0
  have BQ : Below w.heap.size w ((w.alloc (.cells #[.int .u8 0, .int .i64 0, .int .i64 0, .int .i64 0] 31)).alloc (.cells #[.int .u8 o, .int .i64 0, .int .i64 0, .int .i64 0] 31)) := BA.alloc BA.size _
  have c1 := hcl a _ hlt BQ
  rw [hb] at c1
  have g1 : decide ((n : Int) ≤ (a : Int)) = false := by simp; omega
  have g2 : decide ((65536 : Int) < (n : Int)) = false := by simp; omega
  have g3 : (a : Int) < (n : Int) := by omega
  have HBQ := Lib.hid BQ
  have hqb := Blk.new (w.alloc (.cells #[.int .u8 0, .int .i64 0, .int .i64 0, .int .i64 0] 31)) 31 #[.int .u8 o, .int .i64 0, .int .i64 0, .int .i64 0]
  rw [World.size_alloc] at hqb
  have HQ0 := Lib.hid hqb
  have HZ0 := Lib.hid ((Blk.new w 31 #[.int .u8 0, .int .i64 0, .int .i64 0, .int .i64 0]).alloc (.cells #[.int .u8 o, .int .i64 0, .int .i64 0, .int .i64 0] 31))
  have hqb := hqb.alloc (.cells #[.bool false, .int .i64 0, .bool false, .bool false, .bool false, .bool false, .bool false] 82)
  have HQB := Lib.hid hqb
  have hrb := Blk.new ((w.alloc (.cells #[.int .u8 0, .int .i64 0, .int .i64 0, .int .i64 0] 31)).alloc (.cells #[.int .u8 o, .int .i64 0, .int .i64 0, .int .i64 0] 31)) 82 #[.bool false, .int .i64 0, .bool false, .bool false, .bool false, .bool false, .bool false]
  rw [World.size_alloc, World.size_alloc] at hrb
  have HRB := Lib.hid hrb
  have HBR := Lib.hid (BQ.alloc BQ.size (.cells #[.bool false, .int .i64 0, .bool false, .bool false, .bool false, .bool false, .bool false] 82))
  have q0 := hqb.cell 0
  simp at q0
  have HLT := Lib.hid hlt
  have hwl : IntKind.i64.wrap low = low := IntWalk.i64_in _ (by omega)
  have g0 : decide ((a : Int) < 0) = false := by simp
  have nb2 : ¬ w.heap.size + 2 = blk := by omega
  have nb3 : ¬ blk = w.heap.size + 2 := by omega
  have hgn := getN_8bad bs n a b o low hn ho hlt hb hbo hbl h k1 k2 k3
  have HGN := Lib.hid hgn
  obtain rfl : low = 0 := by omega
  have hmo := fun W => moreI_any ⟨o, 0, 0, 0⟩ W o0
  have hme : moreI ⟨o, 0, 0, 0⟩ = 1 := by simp [moreI, h]
  rw [hme] at hmo
  unfold In.agg at hmo
  simp only at hmo
  have HMO := Lib.hid hmo
  have g5 : decide ((n : Int) < (a : Int) + 1 + 1) = false := by simp; omega
  clear hmo hme
  have g6 : decide (0 < 0) = false := by simp
  clear hgn
  clear hr hn ho hb hbb hcell hcl hgd hrow hR h BA BQ hqb hrb hlt
  go_enter Try.func64, Try.ntmps64
  go_wp2_with fail
  refine wp_region_held_drew (S := fun w' => w'.cell? ⟨w.heap.size + 1, 0, none⟩ = some (.int .u8 o) ∧ w'.cell? ⟨blk, off + a, none⟩ = some (.int .u8 b)) (by kernel_rfl) ⟨(HQ0.out.cell 0).trans rfl, c1⟩ (fun hHeld => ?_)
  refine wpAnyH_takeD (i := 0) (d := 32) (oi := _) (v := ?_) rfl rfl (by kernel_rfl) (by kernel_rfl) (by kernel_rfl) (fun _ _ _ h => h) (Or.inl ⟨by rfl, ?_⟩) (by assumption) ?_
  rotate_left
  · (intro w hSw; (try dsimp only at hSw); go_simp) <;> with_reducible rfl
  simp only [Act.put, setIfInBounds_toArray, set_cons_zero, set_cons_succ]
  refine wpAnyH_takeD (i := 1) (d := 33) (oi := _) (v := ?_) rfl rfl (by kernel_rfl) (by kernel_rfl) (by kernel_rfl) (fun _ _ _ h => h) (Or.inl ⟨by rfl, ?_⟩) (by assumption) ?_
  rotate_left
  · (intro w hSw; (try dsimp only at hSw); go_simp) <;> with_reducible rfl
  simp only [Act.put, setIfInBounds_toArray, set_cons_zero, set_cons_succ]
  refine wpAnyH_takeD (i := 3) (d := 35) (oi := _) (v := ?_) rfl rfl (by kernel_rfl) (by kernel_rfl) (by kernel_rfl) (fun _ _ _ h => h) (Or.inl ⟨by rfl, ?_⟩) (by assumption) ?_
  rotate_left
  · (intro w hSw; (try dsimp only at hSw); go_simp) <;> with_reducible rfl
  simp only [Act.put, setIfInBounds_toArray, set_cons_zero, set_cons_succ]
  refine wpAnyH_takeD (i := 4) (d := 36) (oi := _) (v := ?_) rfl rfl (by kernel_rfl) (by kernel_rfl) (by kernel_rfl) (fun _ _ _ h => h) (Or.inl ⟨by rfl, ?_⟩) (by assumption) ?_
  rotate_left
  · (intro w hSw; (try dsimp only at hSw); go_simp) <;> with_reducible rfl
  simp only [Act.put, setIfInBounds_toArray, set_cons_zero, set_cons_succ]
  refine wpAnyH_takeD (i := 5) (d := 37) (oi := _) (v := ?_) rfl rfl (by kernel_rfl) (by kernel_rfl) (by kernel_rfl) (fun _ _ _ h => h) (Or.inl ⟨by rfl, ?_⟩) (by assumption) ?_
  rotate_left
  · (intro w hSw; (try dsimp only at hSw); go_simp) <;> with_reducible rfl
  simp only [Act.put, setIfInBounds_toArray, set_cons_zero, set_cons_succ]
  refine wpAnyH_takeD (i := 6) (d := 38) (oi := _) (v := ?_) rfl rfl (by kernel_rfl) (by kernel_rfl) (by kernel_rfl) (fun _ _ _ h => h) (Or.inl ⟨by rfl, ?_⟩) (by assumption) ?_
  rotate_left
  · (intro w hSw; (try dsimp only at hSw); go_simp) <;> with_reducible rfl
  simp only [Act.put, setIfInBounds_toArray, set_cons_zero, set_cons_succ]
  refine wpAnyH_takeD (i := 7) (d := 39) (oi := _) (v := ?_) rfl rfl (by kernel_rfl) (by kernel_rfl) (by kernel_rfl) (fun _ _ _ h => h) (Or.inl ⟨by rfl, ?_⟩) (by assumption) ?_
  rotate_left
  · (intro w hSw; (try dsimp only at hSw); go_simp) <;> with_reducible rfl
  simp only [Act.put, setIfInBounds_toArray, set_cons_zero, set_cons_succ]
  refine wpAnyH_takeD (i := 8) (d := 40) (oi := _) (v := ?_) rfl rfl (by kernel_rfl) (by kernel_rfl) (by kernel_rfl) (fun _ _ _ h => h) (Or.inl ⟨by rfl, ?_⟩) (by assumption) ?_
  rotate_left
  · (intro w hSw; (try dsimp only at hSw); go_simp) <;> with_reducible rfl
  simp only [Act.put, setIfInBounds_toArray, set_cons_zero, set_cons_succ]
  refine wpAnyH_ready (rs := [2, 9]) (by kernel_rfl) (by simp) ?_
  refine AllReadyH.cons (o := _) rfl (fun K hK => ?_) (AllReadyH.cons (o := _) rfl (fun K hK => ?_) AllReadyH.nil)
  · go_simp
    refine (HROW.out _).mono ?_
    rintro e w1 ⟨rfl, hb1⟩
    have BW := Lib.hid (HBQ.out.trans (of_drew (hb1.mono HBQ.out.size)))
    have HQW := Lib.hid (HQ0.out.drew.below hb1)
    have HZW := Lib.hid (HZ0.out.drew.below hb1)
    go_wp2_with fail
    refine hK.out _ _ ⟨(HQW.out.cell 0).trans rfl, by have := HC.out a _ HLT.out BW.out; rwa [HBV.out] at this⟩ (fun hHeld => ?_)
    clear hK K hb1
    try simp only [Act.put, setIfInBounds_toArray, set_cons_zero, set_cons_succ]
    refine wpAnyH_ready (rs := [9]) (by kernel_rfl) (by simp) ?_
    refine AllReadyH.cons (o := _) rfl (fun K hK => ?_) AllReadyH.nil
    go_simp
    refine hK.out _ _ ⟨((HQW.out.alloc _).cell 0).trans rfl, by have := HC.out a _ HLT.out (BW.out.alloc BW.out.size (.cells #[.bool false, .int .i64 0, .bool false, .bool false, .bool false, .bool false, .bool false] 82)); rwa [HBV.out] at this⟩ (fun hHeld => ?_)
    clear hK K
    try simp only [Act.put, setIfInBounds_toArray, set_cons_zero, set_cons_succ]
    refine wpAnyH_ready (rs := [10]) (by kernel_rfl) (by simp) ?_
    refine AllReadyH.cons (o := _) rfl (fun K hK => ?_) AllReadyH.nil
    go_simp
    refine hK.out _ _ ⟨((HQW.out.alloc _).cell 0).trans rfl, by have := HC.out a _ HLT.out (BW.out.alloc BW.out.size (.cells #[.bool true, .int .i64 (-1), .bool false, .bool false, .bool false, .bool true, .bool false] 82)); rwa [HBV.out] at this⟩ (fun hHeld => ?_)
    clear hK K
    try simp only [Act.put, setIfInBounds_toArray, set_cons_zero, set_cons_succ]
    refine wpAnyH_takeD (i := 11) (d := 9) (oi := _) (v := ?_) rfl rfl (by kernel_rfl) (by kernel_rfl) (by kernel_rfl) (fun _ _ _ h => h) (Or.inl ⟨by rfl, ?_⟩) (by assumption) ?_
    rotate_left
    · (intro w hSw; (try dsimp only at hSw); go_simp) <;> with_reducible rfl
    simp only [Act.put, setIfInBounds_toArray, set_cons_zero, set_cons_succ]
    refine wpAnyH_done (by kernel_rfl) ?_ _
    have hQ := HQW.out.alloc (.cells #[.bool true, .int .i64 (-1), .bool false, .bool false, .bool false, .bool true, .bool false] 82)
    have hZ := HZW.out.alloc (.cells #[.bool true, .int .i64 (-1), .bool false, .bool false, .bool false, .bool true, .bool false] 82)
    have hR := Blk.new w1 82 #[.bool true, .int .i64 (-1), .bool false, .bool false, .bool false, .bool true, .bool false]
    have hB := BW.out.alloc BW.out.size (.cells #[.bool true, .int .i64 (-1), .bool false, .bool false, .bool false, .bool true, .bool false] 82)
    have hne : w1.heap.size ≠ w.heap.size + 1 := by have := HQW.out.lt; omega
    generalize w1.alloc (.cells #[.bool true, .int .i64 (-1), .bool false, .bool false, .bool false, .bool true, .bool false] 82) = W at *
    generalize w1.heap.size = r at *
    have HQ := Lib.hid hQ
    have HRR := Lib.hid hR
    have HB := Lib.hid hB
    have HZ := Lib.hid hZ
    have iq0 := hQ.cell 0
    have iq1 := hQ.cell 1
    have iq2 := hQ.cell 2
    have iq3 := hQ.cell 3
    simp at iq0 iq1 iq2 iq3
    have fiq0 := hQ.frozen 0
    have fiq1 := hQ.frozen 1
    have fiq2 := hQ.frozen 2
    have fiq3 := hQ.frozen 3
    have rq0 := hR.cell 0
    have rq1 := hR.cell 1
    have rq2 := hR.cell 2
    have rq3 := hR.cell 3
    have rq4 := hR.cell 4
    have rq5 := hR.cell 5
    have rq6 := hR.cell 6
    simp at rq0 rq1 rq2 rq3 rq4 rq5 rq6
    clear hQ hR hB hZ
    go_wp2_with fail
    refine (HMO.out _).mono ?_
    rintro e w2 ⟨rfl, hb2⟩
    have hQ1 : Blk (W.setCell ⟨w.heap.size + 1, 1, none⟩ (.int .i64 0)) (w.heap.size + 1) 31 #[.int .u8 o, .int .i64 0, .int .i64 0, .int .i64 0] := by simpa using HQ.out.set 1 (.int .i64 0)
    have HQ2 := Lib.hid (hQ1.below hb2)
    have HR2 := Lib.hid ((HRR.out.far (p := ⟨w.heap.size + 1, 1, none⟩) hne _).below hb2)
    have HZ2 := Lib.hid ((HZ.out.far (p := ⟨w.heap.size + 1, 1, none⟩) (by simp) _).below hb2)
    have HB2 := Lib.hid (ch0 (HB.out.setCell (p := ⟨w.heap.size + 1, 1, none⟩) (by simp) _) hb2)
    clear hb2 hQ1 iq0 fiq0 iq1 fiq1 iq2 fiq2 iq3 fiq3 rq0 rq1 rq2 rq3 rq4 rq5 rq6
    have jq0 := HQ2.out.cell 0
    have jq1 := HQ2.out.cell 1
    have jq2 := HQ2.out.cell 2
    have jq3 := HQ2.out.cell 3
    simp at jq0 jq1 jq2 jq3
    have fjq0 := HQ2.out.frozen 0
    have fjq1 := HQ2.out.frozen 1
    have fjq2 := HQ2.out.frozen 2
    have fjq3 := HQ2.out.frozen 3
    have sq0 := HR2.out.cell 0
    have sq1 := HR2.out.cell 1
    have sq2 := HR2.out.cell 2
    have sq3 := HR2.out.cell 3
    have sq4 := HR2.out.cell 4
    have sq5 := HR2.out.cell 5
    have sq6 := HR2.out.cell 6
    simp at sq0 sq1 sq2 sq3 sq4 sq5 sq6
    have d1 := HC.out (a + 1) w2 (by omega) HB2.out
    obtain ⟨B1, hB1⟩ : ∃ x, bs.getD (a + 1) 0 = x := ⟨_, rfl⟩
    have hg1 := HG.out (a + 1)
    rw [hB1] at d1 hg1 k3
    have HB1 := Lib.hid hB1
    clear hB1
    have ha1 : ((a : Int) + 1).toNat = a + 1 := by omega
    have ha2 : ((a : Int) + 2).toNat = a + 2 := by omega
    have ha3 : (a : Int) + 1 < (n : Int) := by omega
    obtain ⟨sg, hsg⟩ : ∃ x, i8 B1 = x := ⟨_, rfl⟩
    have hsw : IntKind.i8.wrap B1 = sg := by rw [← hsg]; exact wrap_i8 B1 hg1.1 hg1.2
    have hs0 : -128 ≤ sg := by rw [← hsg]; unfold i8; split <;> omega
    have hs1 : sg ≤ 127 := by rw [← hsg]; unfold i8; split <;> omega
    rw [hsg] at k3
    have HSG := Lib.hid hsg
    clear hsg
    go_wp2_with fail
    have hQ3 : Blk (w2.setCell ⟨w.heap.size + 1, 3, none⟩ (.int .i64 ((a : Int) + 1 + 1 + sg))) (w.heap.size + 1) 31 #[.int .u8 o, .int .i64 0, .int .i64 0, .int .i64 ((a : Int) + 1 + 1 + sg)] := by simpa using HQ2.out.set 3 (.int .i64 ((a : Int) + 1 + 1 + sg))
    have HQ3 := Lib.hid hQ3
    clear hQ3
    have HZ3 := Lib.hid (HZ2.out.far (p := ⟨w.heap.size + 1, 3, none⟩) (by simp) (.int .i64 ((a : Int) + 1 + 1 + sg)))
    have HB3 := Lib.hid (HB2.out.setCell (p := ⟨w.heap.size + 1, 3, none⟩) (by simp) (.int .i64 ((a : Int) + 1 + 1 + sg)))
    have hrt := fun W => rightI_any ⟨o, 0, 0, ((a : Int) + 1 + 1 + sg)⟩ W o0
    unfold codeI at hrt
    rw [show rightI ⟨o, 0, 0, ((a : Int) + 1 + 1 + sg)⟩ = false by rw [Bool.eq_false_iff, Ne, lim_8 _ _ _ _ H.out]; omega] at hrt
    simp only [Bool.false_eq_true, if_false] at hrt
    unfold In.agg at hrt
    simp only at hrt
    have HRT := Lib.hid hrt
    clear hrt
    refine (HRT.out _).mono ?_
    rintro e w3 ⟨rfl, hb3⟩
    have HQ4 := Lib.hid (HQ3.out.below hb3)
    have HZ4 := Lib.hid (HZ3.out.below hb3)
    have HB4 := Lib.hid (ch0 HB3.out hb3)
    clear hb3 jq0 fjq0 jq1 fjq1 jq2 fjq2 jq3 fjq3 sq0 sq1 sq2 sq3 sq4 sq5 sq6
    have mq0 := HQ4.out.cell 0
    have mq1 := HQ4.out.cell 1
    have mq2 := HQ4.out.cell 2
    have mq3 := HQ4.out.cell 3
    simp at mq0 mq1 mq2 mq3
    have zq0 := HZ4.out.cell 0
    have zq1 := HZ4.out.cell 1
    have zq2 := HZ4.out.cell 2
    have zq3 := HZ4.out.cell 3
    simp at zq0 zq1 zq2 zq3
    have fzq0 := HZ4.out.frozen 0
    have fzq1 := HZ4.out.frozen 1
    have fzq2 := HZ4.out.frozen 2
    have fzq3 := HZ4.out.frozen 3
    go_wp2_with fail
    obtain ⟨hz4, hb4⟩ := st4 (.int .u8 0) (.int .i64 0) (.int .i64 0) (.int .i64 0) HZ4.out HB4.out (Nat.le_refl _)
    have rr0 := hz4.cell 0
    have rr1 := hz4.cell 1
    have rr2 := hz4.cell 2
    have rr3 := hz4.cell 3
    simp at rr0 rr1 rr2 rr3
    exact bodyPost_ret (v := .tuple #[.agg #[.int .u8 0, .int .i64 0, .int .i64 0, .int .i64 0], .int .i64 (0), .int .i64 110]) (by simp [results, Try.results64, go_sem, rr0, rr1, rr2, rr3]) rfl ⟨by rw [HGN.out]; rfl, hb4⟩
  · go_simp
    refine hK.out _ _ ⟨(HQB.out.cell 0).trans rfl, by have := HC.out a _ HLT.out HBR.out; rwa [HBV.out] at this⟩ (fun hHeld => ?_)
    clear hK K
    try simp only [Act.put, setIfInBounds_toArray, set_cons_zero, set_cons_succ]
    refine wpAnyH_ready (rs := [2]) (by kernel_rfl) (by simp) ?_
    refine AllReadyH.cons (o := _) rfl (fun K hK => ?_) AllReadyH.nil
    go_simp
    refine (HROW.out _).mono ?_
    rintro e w1 ⟨rfl, hb1⟩
    have BW := Lib.hid (HBR.out.trans (of_drew (hb1.mono HBR.out.size)))
    have HQW := Lib.hid (HQB.out.drew.below hb1)
    have HZW := Lib.hid ((HZ0.out.alloc _).drew.below hb1)
    have HRW := Lib.hid (HRB.out.drew.below hb1)
    clear hb1
    go_wp2_with fail
    refine hK.out _ _ ⟨(HQW.out.cell 0).trans rfl, by have := HC.out a _ HLT.out BW.out; rwa [HBV.out] at this⟩ (fun hHeld => ?_)
    clear hK K
    try simp only [Act.put, setIfInBounds_toArray, set_cons_zero, set_cons_succ]
    have z0 := HRW.out.frozen 0
    have z1 := HRW.out.frozen 1
    have z2 := HRW.out.frozen 2
    have z3 := HRW.out.frozen 3
    have z4 := HRW.out.frozen 4
    have z5 := HRW.out.frozen 5
    have z6 := HRW.out.frozen 6
    have y0 := HRW.out.cell 0
    have y1 := HRW.out.cell 1
    have y2 := HRW.out.cell 2
    have y3 := HRW.out.cell 3
    have y4 := HRW.out.cell 4
    have y5 := HRW.out.cell 5
    have y6 := HRW.out.cell 6
    simp at y0 y1 y2 y3 y4 y5 y6
    refine wpAnyH_ready (rs := [10]) (by kernel_rfl) (by simp) ?_
    refine AllReadyH.cons (o := _) rfl (fun K hK => ?_) AllReadyH.nil
    go_simp
    obtain ⟨hR, hB, hF⟩ := st7 (.bool true) (.int .i64 (-1)) (.bool false) (.bool false) (.bool false) (.bool true) (.bool false) HRW.out BW.out (by omega)
    have hQ := hF _ _ _ (by omega) HQW.out
    have hZ := hF _ _ _ (by omega) HZW.out
    refine hK.out _ _ ⟨(hQ.cell 0).trans rfl, by have := HC.out a _ HLT.out hB; rwa [HBV.out] at this⟩ (fun hHeld => ?_)
    clear hK K hF z0 z1 z2 z3 z4 z5 z6 y0 y1 y2 y3 y4 y5 y6
    try simp only [Act.put, setIfInBounds_toArray, set_cons_zero, set_cons_succ]
    refine wpAnyH_takeD (i := 11) (d := 9) (oi := _) (v := ?_) rfl rfl (by kernel_rfl) (by kernel_rfl) (by kernel_rfl) (fun _ _ _ h => h) (Or.inl ⟨by rfl, ?_⟩) (by assumption) ?_
    rotate_left
    · (intro w hSw; (try dsimp only at hSw); go_simp) <;> with_reducible rfl
    simp only [Act.put, setIfInBounds_toArray, set_cons_zero, set_cons_succ]
    refine wpAnyH_done (by kernel_rfl) ?_ _
    have hne : w.heap.size + 1 + 1 ≠ w.heap.size + 1 := by omega
    generalize hWW : (((((((w1.setCell ⟨w.heap.size + 1 + 1, 0, none⟩ (.bool true)).setCell ⟨w.heap.size + 1 + 1, 1, none⟩ (.int .i64 (-1))).setCell ⟨w.heap.size + 1 + 1, 2, none⟩ (.bool false)).setCell ⟨w.heap.size + 1 + 1, 3, none⟩ (.bool false)).setCell ⟨w.heap.size + 1 + 1, 4, none⟩ (.bool false)).setCell ⟨w.heap.size + 1 + 1, 5, none⟩ (.bool true)).setCell ⟨w.heap.size + 1 + 1, 6, none⟩ (.bool false)) = W at *
    clear hWW
    generalize w.heap.size + 1 + 1 = r at *
    have HQ := Lib.hid hQ
    have HRR := Lib.hid hR
    have HB := Lib.hid hB
    have HZ := Lib.hid hZ
    have iq0 := hQ.cell 0
    have iq1 := hQ.cell 1
    have iq2 := hQ.cell 2
    have iq3 := hQ.cell 3
    simp at iq0 iq1 iq2 iq3
    have fiq0 := hQ.frozen 0
    have fiq1 := hQ.frozen 1
    have fiq2 := hQ.frozen 2
    have fiq3 := hQ.frozen 3
    have rq0 := hR.cell 0
    have rq1 := hR.cell 1
    have rq2 := hR.cell 2
    have rq3 := hR.cell 3
    have rq4 := hR.cell 4
    have rq5 := hR.cell 5
    have rq6 := hR.cell 6
    simp at rq0 rq1 rq2 rq3 rq4 rq5 rq6
    clear hQ hR hB hZ
    go_wp2_with fail
    refine (HMO.out _).mono ?_
    rintro e w2 ⟨rfl, hb2⟩
    have hQ1 : Blk (W.setCell ⟨w.heap.size + 1, 1, none⟩ (.int .i64 0)) (w.heap.size + 1) 31 #[.int .u8 o, .int .i64 0, .int .i64 0, .int .i64 0] := by simpa using HQ.out.set 1 (.int .i64 0)
    have HQ2 := Lib.hid (hQ1.below hb2)
    have HR2 := Lib.hid ((HRR.out.far (p := ⟨w.heap.size + 1, 1, none⟩) hne _).below hb2)
    have HZ2 := Lib.hid ((HZ.out.far (p := ⟨w.heap.size + 1, 1, none⟩) (by simp) _).below hb2)
    have HB2 := Lib.hid (ch0 (HB.out.setCell (p := ⟨w.heap.size + 1, 1, none⟩) (by simp) _) hb2)
    clear hb2 hQ1 iq0 fiq0 iq1 fiq1 iq2 fiq2 iq3 fiq3 rq0 rq1 rq2 rq3 rq4 rq5 rq6
    have jq0 := HQ2.out.cell 0
    have jq1 := HQ2.out.cell 1
    have jq2 := HQ2.out.cell 2
    have jq3 := HQ2.out.cell 3
    simp at jq0 jq1 jq2 jq3
    have fjq0 := HQ2.out.frozen 0
    have fjq1 := HQ2.out.frozen 1
    have fjq2 := HQ2.out.frozen 2
    have fjq3 := HQ2.out.frozen 3
    have sq0 := HR2.out.cell 0
    have sq1 := HR2.out.cell 1
    have sq2 := HR2.out.cell 2
    have sq3 := HR2.out.cell 3
    have sq4 := HR2.out.cell 4
    have sq5 := HR2.out.cell 5
    have sq6 := HR2.out.cell 6
    simp at sq0 sq1 sq2 sq3 sq4 sq5 sq6
    have d1 := HC.out (a + 1) w2 (by omega) HB2.out
    obtain ⟨B1, hB1⟩ : ∃ x, bs.getD (a + 1) 0 = x := ⟨_, rfl⟩
    have hg1 := HG.out (a + 1)
    rw [hB1] at d1 hg1 k3
    have HB1 := Lib.hid hB1
    clear hB1
    have ha1 : ((a : Int) + 1).toNat = a + 1 := by omega
    have ha2 : ((a : Int) + 2).toNat = a + 2 := by omega
    have ha3 : (a : Int) + 1 < (n : Int) := by omega
    obtain ⟨sg, hsg⟩ : ∃ x, i8 B1 = x := ⟨_, rfl⟩
    have hsw : IntKind.i8.wrap B1 = sg := by rw [← hsg]; exact wrap_i8 B1 hg1.1 hg1.2
    have hs0 : -128 ≤ sg := by rw [← hsg]; unfold i8; split <;> omega
    have hs1 : sg ≤ 127 := by rw [← hsg]; unfold i8; split <;> omega
    rw [hsg] at k3
    have HSG := Lib.hid hsg
    clear hsg
    go_wp2_with fail
    have hQ3 : Blk (w2.setCell ⟨w.heap.size + 1, 3, none⟩ (.int .i64 ((a : Int) + 1 + 1 + sg))) (w.heap.size + 1) 31 #[.int .u8 o, .int .i64 0, .int .i64 0, .int .i64 ((a : Int) + 1 + 1 + sg)] := by simpa using HQ2.out.set 3 (.int .i64 ((a : Int) + 1 + 1 + sg))
    have HQ3 := Lib.hid hQ3
    clear hQ3
    have HZ3 := Lib.hid (HZ2.out.far (p := ⟨w.heap.size + 1, 3, none⟩) (by simp) (.int .i64 ((a : Int) + 1 + 1 + sg)))
    have HB3 := Lib.hid (HB2.out.setCell (p := ⟨w.heap.size + 1, 3, none⟩) (by simp) (.int .i64 ((a : Int) + 1 + 1 + sg)))
    have hrt := fun W => rightI_any ⟨o, 0, 0, ((a : Int) + 1 + 1 + sg)⟩ W o0
    unfold codeI at hrt
    rw [show rightI ⟨o, 0, 0, ((a : Int) + 1 + 1 + sg)⟩ = false by rw [Bool.eq_false_iff, Ne, lim_8 _ _ _ _ H.out]; omega] at hrt
    simp only [Bool.false_eq_true, if_false] at hrt
    unfold In.agg at hrt
    simp only at hrt
    have HRT := Lib.hid hrt
    clear hrt
    refine (HRT.out _).mono ?_
    rintro e w3 ⟨rfl, hb3⟩
    have HQ4 := Lib.hid (HQ3.out.below hb3)
    have HZ4 := Lib.hid (HZ3.out.below hb3)
    have HB4 := Lib.hid (ch0 HB3.out hb3)
    clear hb3 jq0 fjq0 jq1 fjq1 jq2 fjq2 jq3 fjq3 sq0 sq1 sq2 sq3 sq4 sq5 sq6
    have mq0 := HQ4.out.cell 0
    have mq1 := HQ4.out.cell 1
    have mq2 := HQ4.out.cell 2
    have mq3 := HQ4.out.cell 3
    simp at mq0 mq1 mq2 mq3
    have zq0 := HZ4.out.cell 0
    have zq1 := HZ4.out.cell 1
    have zq2 := HZ4.out.cell 2
    have zq3 := HZ4.out.cell 3
    simp at zq0 zq1 zq2 zq3
    have fzq0 := HZ4.out.frozen 0
    have fzq1 := HZ4.out.frozen 1
    have fzq2 := HZ4.out.frozen 2
    have fzq3 := HZ4.out.frozen 3
    go_wp2_with fail
    obtain ⟨hz4, hb4⟩ := st4 (.int .u8 0) (.int .i64 0) (.int .i64 0) (.int .i64 0) HZ4.out HB4.out (Nat.le_refl _)
    have rr0 := hz4.cell 0
    have rr1 := hz4.cell 1
    have rr2 := hz4.cell 2
    have rr3 := hz4.cell 3
    simp at rr0 rr1 rr2 rr3
    exact bodyPost_ret (v := .tuple #[.agg #[.int .u8 0, .int .i64 0, .int .i64 0, .int .i64 0], .int .i64 (0), .int .i64 110]) (by simp [results, Try.results64, go_sem, rr0, rr1, rr2, rr3]) rfl ⟨by rw [HGN.out]; rfl, hb4⟩
end Go.Proofs.Ytebmgladdgmmeaa
