/- The reference: how a counter begins: walk. · The reference: how a refined one begins: walk. -/
import Derived.Test.YtnohfeaamfjimaaVrBrBd
import Derived.StillTailTactics
import Derived.IntWalk
namespace Go.Proofs.Ytnohfeaamfjimaa
open Go.RowKit Go.WideShapes
set_option linter.unusedVariables false
set_option linter.unusedSimpArgs false
theorem evens_pairs (f : Nat → Int × Int) (n : Nat) : evens (pairs f n) = (List.range n).map (fun i => (f i).1) := by
  apply List.ext_getElem?
  intro j
  by_cases hj : j < n
  · rw [evens_at (by rw [pairs_length]; omega), List.getElem?_map, List.getElem?_range hj, List.getD_eq_getElem?_getD, (pairs_at f n j hj).1]
    rfl
  · rw [List.getElem?_eq_none (by rw [evens_len, pairs_length]; omega), List.getElem?_eq_none (by simp; omega)]
theorem odds_pairs (f : Nat → Int × Int) (n : Nat) : odds (pairs f n) = (List.range n).map (fun i => (f i).2) := by
  apply List.ext_getElem?
  intro j
  by_cases hj : j < n
  · rw [odds_at (by rw [pairs_length]; omega), List.getElem?_map, List.getElem?_range hj, List.getD_eq_getElem?_getD, (pairs_at f n j hj).2]
    rfl
  · rw [List.getElem?_eq_none (by rw [odds_len, pairs_length]; omega), List.getElem?_eq_none (by simp; omega)]
theorem rc29 {u : Un} (hk : u.p.k = 2 ∨ u.p.k = 9) (h0 : u.h = 0) (hp : u.ptr = 0) (hl : u.len = 0) (l : RL) {M : Nat} (hM : (evens u.t).length = M) (hB : (odds u.t).length = M) (h1 : 0 < M) : (u.rc l).toArray = bgC u.p (.slice (some ⟨l.g1, 0, none⟩) M l.c1) (.slice (some ⟨l.g2, 0, none⟩) M l.c2) (.slice none 0 0) (.slice none 0 0) (.slice none 0 0) (.slice none 0 0) := by
  unfold Un.rc
  rw [ch29 hk, ct29 hk, no_ss (by omega) (by omega), no_wt (by omega) (by omega) (by omega), no_nm (by omega), no_rg (by omega), h0, hp, hl, hM, hB, sV_pos h1, sV_pos h1]
  rfl
theorem has29 {u : Un} (hk : u.p.k = 2 ∨ u.p.k = 9) {l : RL} {b : Nat} (h : l.has u b) : b = l.g1 ∨ b = l.g2 := by
  rcases h with ⟨_, h⟩ | ⟨_, h⟩ | ⟨k, _⟩ | ⟨k, _⟩ | ⟨k, _⟩ | ⟨k, _⟩
  · exact .inl h
  · exact .inr h
  · exact absurd (no_ss (by omega) (by omega)) k
  · exact absurd (no_wt (by omega) (by omega) (by omega)) k
  · exact absurd (no_nm (by omega)) k
  · exact absurd (no_rg (by omega)) k
set_option maxRecDepth 100000 in
set_option maxHeartbeats 4000000 in
theorem begR_2 (S N : Nat) (a b c r l : Int) (hs2 : S ≤ 16) (hN : 2 ^ S = N) (w : World) :
    Calls Try.prog 34 #[Pt.agg ⟨2, S, a, b, c, r, l⟩] w (BegR ⟨2, S, a, b, c, r, l⟩ w) := by
  unfold Pt.agg
  have hNb : N ≤ 65536 := by rw [← hN]; exact Nat.pow_le_pow_right (show 0 < 2 by omega) hs2
  have hN1 : 1 ≤ N := by rw [← hN]; exact Nat.two_pow_pos S
  have HN := Lib.hid hN
  have HPW := Lib.hid (show ∀ W, Calls Try.prog 52 #[.int .i64 (S : Int)] W (Sam (.int .i64 (N : Int)) W) from fun W => hN ▸ powerR S W (by omega))
  have SI := Lib.hid (bg_info ⟨2, S, a, b, c, r, l⟩ (.slice none 0 0) (.slice none 0 0) (.slice none 0 0) (.slice none 0 0) (.slice none 0 0) (.slice none 0 0))
  have ONE := Lib.hid (bg_one ⟨2, S, a, b, c, r, l⟩ (.slice none 0 0) (.slice none 0 0) (.slice none 0 0) (.slice none 0 0) (.slice none 0 0) (.slice none 0 0) rfl rfl rfl rfl rfl rfl)
  unfold bgC at SI ONE
  clear hN
  go_enter Try.func34, Try.ntmps34
  go_upto_region 2 with (refine wpList_store_row rfl 74 (.tmp 3) (.tmp 12) rfl _ #[.int .u8 2, .int .i64 (S : Int), .int .i64 a, .int .i64 b, .int .i64 c, .int .i64 r, .int .i64 l, .int .u32 0, .slice none 0 0, .slice none 0 0, .slice none 0 0, .slice none 0 0, .slice none 0 0, .slice none 0 0, .int .i64 0, .int .i64 0] rfl rfl 74 _ (heap_alloc_new _ _) SI.out rfl ONE.out ?_; rw [World.setRow_alloc_new]; simp only [Act.put, zzA, zzB, zzC])
  obtain ⟨w1, hw1⟩ : ∃ x, ((w.alloc (.cells #[.int .u8 2, .int .i64 (S : Int), .int .i64 a, .int .i64 b, .int .i64 c, .int .i64 r, .int .i64 l] 25)).alloc (.cells #[.int .u8 0, .int .i64 0, .int .i64 0, .int .i64 0, .int .i64 0, .int .i64 0, .int .i64 0, .int .u32 0, .slice none 0 0, .slice none 0 0, .slice none 0 0, .slice none 0 0, .slice none 0 0, .slice none 0 0, .int .i64 0, .int .i64 0] 74)).alloc (.cells #[.int .u8 2, .int .i64 (S : Int), .int .i64 a, .int .i64 b, .int .i64 c, .int .i64 r, .int .i64 l, .int .u32 0, .slice none 0 0, .slice none 0 0, .slice none 0 0, .slice none 0 0, .slice none 0 0, .slice none 0 0, .int .i64 0, .int .i64 0] 74) = x := ⟨_, rfl⟩
  have hbw : BgW ⟨2, S, a, b, c, r, l⟩ w w1 (.slice none 0 0) (.slice none 0 0) (.slice none 0 0) (.slice none 0 0) (.slice none 0 0) (.slice none 0 0) := by
    rw [← hw1]
    exact BgW.start ⟨2, S, a, b, c, r, l⟩ w
  try rw [hw1]
  try rw [show w.heap.size + 1 + 1 = w.heap.size + 2 from rfl]
  have HBW := Lib.hid hbw
  have d0 : w1.cell? ⟨w.heap.size, 0, none⟩ = some (.int .u8 2) := hbw.b1.cell 0
  have d1 : w1.cell? ⟨w.heap.size, 1, none⟩ = some (.int .i64 (S : Int)) := hbw.b1.cell 1
  have d3 : w1.cell? ⟨w.heap.size, 3, none⟩ = some (.int .i64 b) := hbw.b1.cell 3
  clear hw1 hbw SI ONE
  go_wp2_with fail
  refine (HPW.out _).mono ?_
  rintro e w2 ⟨rfl, hs1⟩
  rw [hs1]
  clear hs1 w2
  go_wp2_with fail
  go_loopw [5] (fun v wr => ∃ k : Nat, k ≤ N ∧ v = .int .i64 k ∧ ∃ V1 V2, BgW ⟨2, S, a, b, c, r, l⟩ w wr V1 V2 (.slice none 0 0) (.slice none 0 0) (.slice none 0 0) (.slice none 0 0) ∧ wr.ownsRow (w.heap.size + 3) 3 1 V1 k (ints ((List.range k).map (fun _ => (2097152 : Int)))) ∧ wr.ownsRow (w.heap.size + 3) 3 1 V2 k (ints ((List.range k).map (fun _ => (0 : Int)))) ∧ (∀ b, V1.ownBlock = some b → V2.ownBlock ≠ some b)) (fun v _ => N - (intOf v).toNat)
  case atStart => exact ⟨0, by omega, rfl, _, _, HBW.out, ⟨rfl, .inl ⟨rfl, rfl⟩⟩, ⟨rfl, .inl ⟨rfl, rfl⟩⟩, fun b h => by cases h⟩
  case round =>
    obtain ⟨k, hk, rfl, V1, V2, hbw, hown1, hown2, hap⟩ := hrel
    obtain ⟨A1, p1, rfl, hcp1⟩ := own_slice hown1
    obtain ⟨A2, p2, rfl, hcp2⟩ := own_slice hown2
    clear HBW d0 d1 d3
    have HBW := Lib.hid hbw
    have HO1 := Lib.hid hown1
    have HO2 := Lib.hid hown2
    have HAP := Lib.hid hap
    clear hbw hown1 hown2 hap
    by_cases hlt : k < N
    · have hki : (k : Int) < N := by omega

      go_upto_region 8 with fail
      refine wp_region_till (fun W : World => W.cell? ⟨w.heap.size + 2, 8, none⟩ = some (.slice A1 k p1) ∧ W.cell? ⟨w.heap.size + 2, 9, none⟩ = some (.slice A2 k p2)) 9 (by kernel_rfl) ⟨HBW.out.c1, HBW.out.c2⟩ (fun hHeld => ?_)
      have hbw2 := HBW.out.below (below_drewN (Below.refl wr.heap.size wr) 1)
      have ho1 := own_below HO1.out (below_drewN (Below.refl wr.heap.size wr) 1)
      have ho2 := own_below HO2.out (below_drewN (Below.refl wr.heap.size wr) 1)
      obtain ⟨w2, hw2⟩ : ∃ xq, wr.drewN 1 = xq := ⟨_, rfl⟩
      have hw2' : wr.drew = w2 := hw2
      rw [hw2] at hbw2 ho1 ho2
      rw [hw2'] at hHeld ⊢
      have HBW := Lib.hid hbw2
      have HO1 := Lib.hid ho1
      have HO2 := Lib.hid ho2
      clear hw2 hw2' hbw2 ho1 ho2
      refine tkt (i := 0) (d := 25) rfl rfl ?_
      simp only [Act.put, zzA, zzB, zzC]
      refine tkt (i := 1) (d := 26) rfl rfl ?_
      simp only [Act.put, zzA, zzB, zzC]
      refine tkt (i := 4) (d := 29) rfl rfl ?_
      simp only [Act.put, zzA, zzB, zzC]
      refine tkt (i := 5) (d := 30) rfl rfl ?_
      simp only [Act.put, zzA, zzB, zzC]
      refine wpAnyT_ready (rs := [2, 6]) (by kernel_rfl) (by simp) ?_
      refine AllReadyT.cons (o := _) rfl (fun K hK => ?_) (AllReadyT.cons (o := _) rfl (fun K hK => ?_) (AllReadyT.nil))
      · go_simp
        have hal := (Below.refl w2.heap.size w2).alloc (Nat.le_refl _) (.cells #[.int .i64 2097152] 3)
        have hna := Blk.new w2 3 #[.int .i64 2097152]
        have hbn := HBW.out.below hal
        have ho1 := own_below HO1.out hal
        have ho2 := own_below HO2.out hal
        obtain ⟨w3, hwn⟩ : ∃ xq, w2.alloc (.cells #[.int .i64 2097152] 3) = xq := ⟨_, rfl⟩
        obtain ⟨ga, hgn⟩ : ∃ xq, w2.heap.size = xq := ⟨_, rfl⟩
        rw [hwn] at hna hbn ho1 ho2  ⊢
        rw [hgn] at hna ⊢
        have HBW := Lib.hid hbn
        have HO1 := Lib.hid ho1
        have HO2 := Lib.hid ho2
        have HN1 := Lib.hid hna
        clear hna hbn ho1 ho2 hal hwn hgn
        refine hK.out _ _ ⟨HBW.out.c1, HBW.out.c2⟩ (fun hHeld => ?_)
        clear hK K
        try simp only [Act.put, zzA, zzB, zzC]
        refine wpAnyT_ready (rs := [3, 6]) (by kernel_rfl) (by simp) ?_
        refine AllReadyT.cons (o := _) rfl (fun K hK => ?_) (AllReadyT.cons (o := _) rfl (fun K hK => ?_) (AllReadyT.nil))
        · refine step_appN tInts rfl (.tmp 26) (.tmp 27) rfl (w.heap.size + 3) (.slice A1 k p1) k (ints ((List.range k).map (fun _ => (2097152 : Int)))) rfl HO1.out ⟨ga, 0, none⟩ 1 1 [.int .i64 2097152] rfl rfl (fun jj u hu => by rw [addr_add, Nat.zero_add, HN1.out.cell]; simpa using hu) (by simp [Value.oneCell']) (by omega) (by unfold maxLen; omega) HBW.out.sz ?_
          intro V3 w4 ho3 hg3 hn3
          obtain ⟨A3, p3, rfl, hc3⟩ := own_slice ho3
          have hf3 : Frm (fun b => (Value.slice A1 k p1).ownBlock = some b) w3 w4 := Frm.of_grown hg3 (fun b hb => hb)
          have hap3 : ∀ b, (Value.slice A3 (k + 1) p3).ownBlock = some b → (Value.slice A2 k p2).ownBlock ≠ some b := fun b hb e => by
            rcases hn3 with h | h
            · exact HAP.out b (h ▸ hb) e
            · have h1 := h b hb
              have h2 := (own_lt HO2.out b e).2
              omega
          have hbn := HBW.out.fr hf3 (fun b hb => own_ge HO1.out b hb)
          have ho2 := hf3.own HO2.out (fun b hb e => HAP.out b e hb)
          have HBW := Lib.hid hbn
          have HO1 := Lib.hid ho3
          have HO2 := Lib.hid ho2
          have HAP := Lib.hid hap3
          clear ho3 hg3 hn3 hf3 hap3 hbn ho2
          refine hK.out _ _ ⟨HBW.out.c1, HBW.out.c2⟩ (fun hHeld => ?_)
          clear hK K
          try simp only [Act.put, zzA, zzB, zzC]
          refine tkt (i := 8) (d := 33) rfl rfl ?_
          simp only [Act.put, zzA, zzB, zzC]
          refine wpAnyT_ready (rs := [6]) (by kernel_rfl) (by simp) ?_
          refine AllReadyT.cons (o := _) rfl (fun K hK => ?_) (AllReadyT.nil)
          go_simp
          have hal := (Below.refl w4.heap.size w4).alloc (Nat.le_refl _) (.cells #[.int .i64 0] 3)
          have hna := Blk.new w4 3 #[.int .i64 0]
          have hbn := HBW.out.below hal
          have ho1 := own_below HO1.out hal
          have ho2 := own_below HO2.out hal
          obtain ⟨w5, hwn⟩ : ∃ xq, w4.alloc (.cells #[.int .i64 0] 3) = xq := ⟨_, rfl⟩
          obtain ⟨gb, hgn⟩ : ∃ xq, w4.heap.size = xq := ⟨_, rfl⟩
          rw [hwn] at hna hbn ho1 ho2  ⊢
          rw [hgn] at hna ⊢
          have HBW := Lib.hid hbn
          have HO1 := Lib.hid ho1
          have HO2 := Lib.hid ho2
          have HN2 := Lib.hid hna
          clear hna hbn ho1 ho2 hal hwn hgn
          refine hK.out _ _ ⟨HBW.out.c1, HBW.out.c2⟩ (fun hHeld => ?_)
          clear hK K
          try simp only [Act.put, zzA, zzB, zzC]
          refine wpAnyT_ready (rs := [7]) (by kernel_rfl) (by simp) ?_
          refine AllReadyT.cons (o := _) rfl (fun K hK => ?_) (AllReadyT.nil)
          refine step_appN tInts rfl (.tmp 30) (.tmp 31) rfl (w.heap.size + 3) (.slice A2 k p2) k (ints ((List.range k).map (fun _ => (0 : Int)))) rfl HO2.out ⟨gb, 0, none⟩ 1 1 [.int .i64 0] rfl rfl (fun jj u hu => by rw [addr_add, Nat.zero_add, HN2.out.cell]; simpa using hu) (by simp [Value.oneCell']) (by omega) (by unfold maxLen; omega) HBW.out.sz ?_
          intro V4 w6 ho4 hg4 hn4
          obtain ⟨A4, p4, rfl, hc4⟩ := own_slice ho4
          have hf4 : Frm (fun b => (Value.slice A2 k p2).ownBlock = some b) w5 w6 := Frm.of_grown hg4 (fun b hb => hb)
          have hap4 : ∀ b, (Value.slice A3 (k + 1) p3).ownBlock = some b → (Value.slice A4 (k + 1) p4).ownBlock ≠ some b := fun b hb e => by
            rcases hn4 with h | h
            · exact HAP.out b hb (h ▸ e)
            · have h1 := h b e
              have h2 := (own_lt HO1.out b hb).2
              omega
          have hbn := HBW.out.fr hf4 (fun b hb => own_ge HO2.out b hb)
          have ho1 := hf4.own HO1.out (fun b hb e => HAP.out b hb e)
          have HBW := Lib.hid hbn
          have HO1 := Lib.hid ho1
          have HO2 := Lib.hid ho4
          have HAP := Lib.hid hap4
          clear ho4 hg4 hn4 hf4 hap4 hbn ho1
          refine hK.out _ _ ⟨HBW.out.c1, HBW.out.c2⟩ (fun hHeld => ?_)
          clear hK K
          try simp only [Act.put, zzA, zzB, zzC]
          refine wpAnyT_ready (rs := [9]) (by kernel_rfl) (by simp) ?_
          refine AllReadyT.past (o := _) rfl (by kernel_rfl) (fun K hK => ?_) (AllReadyT.nil)
          have cc := HBW.out.c1
          have ff := HBW.out.f1
          go_simp
          have hbn := HBW.out.s1 (.slice A3 (k + 1) p3)
          have ho1 := own_s (j := 8) (u := (.slice A3 (k + 1) p3)) HO1.out
          have ho2 := own_s (j := 8) (u := (.slice A3 (k + 1) p3)) HO2.out
          obtain ⟨w7, hwn⟩ : ∃ xq, w6.setCell ⟨w.heap.size + 2, 8, none⟩ (.slice A3 (k + 1) p3) = xq := ⟨_, rfl⟩
          try rw [hwn]
          rw [hwn] at hbn ho1 ho2
          have HBW := Lib.hid hbn
          have HO1 := Lib.hid ho1
          have HO2 := Lib.hid ho2
          clear hbn ho1 ho2 cc ff hwn
          refine hK.out _ _ ?_
          clear hK K
          try simp only [Act.put, zzA, zzB, zzC]
          refine wpAnyT_ready (rs := [10]) (by kernel_rfl) (by simp) ?_
          refine AllReadyT.past (o := _) rfl (by kernel_rfl) (fun K hK => ?_) (AllReadyT.nil)
          go_simp
          refine hK.out _ _ ?_
          clear hK K
          try simp only [Act.put, zzA, zzB, zzC]
          refine wpAnyT_ready (rs := [11]) (by kernel_rfl) (by simp) ?_
          refine AllReadyT.past (o := _) rfl (by kernel_rfl) (fun K hK => ?_) (AllReadyT.nil)
          have cc := HBW.out.c2
          have ff := HBW.out.f2
          go_simp
          have hbn := HBW.out.s2 (.slice A4 (k + 1) p4)
          have ho1 := own_s (j := 9) (u := (.slice A4 (k + 1) p4)) HO1.out
          have ho2 := own_s (j := 9) (u := (.slice A4 (k + 1) p4)) HO2.out
          obtain ⟨w8, hwn⟩ : ∃ xq, w7.setCell ⟨w.heap.size + 2, 9, none⟩ (.slice A4 (k + 1) p4) = xq := ⟨_, rfl⟩
          try rw [hwn]
          rw [hwn] at hbn ho1 ho2
          have HBW := Lib.hid hbn
          have HO1 := Lib.hid ho1
          have HO2 := Lib.hid ho2
          clear hbn ho1 ho2 cc ff hwn
          refine hK.out _ _ ?_
          clear hK K
          try simp only [Act.put, zzA, zzB, zzC]
          refine wpAnyT_done (by kernel_rfl) ?_ _
          go_wp2
          go_roundw
          case rel => exact ⟨k + 1, by omega, by go_num, _, _, HBW.out, by rw [ints_rng]; exact HO1.out, by rw [ints_rng]; exact HO2.out, HAP.out⟩
          case measure => simp [intOf]; omega
        · go_simp
          have hal := (Below.refl w3.heap.size w3).alloc (Nat.le_refl _) (.cells #[.int .i64 0] 3)
          have hna := Blk.new w3 3 #[.int .i64 0]
          have hbn := HBW.out.below hal
          have ho1 := own_below HO1.out hal
          have ho2 := own_below HO2.out hal
          have hHN1 := HN1.out.below hal
          have hfr : ∀ b, (Value.slice A1 k p1).ownBlock = some b → b ≠ w3.heap.size := fun b hb e => by have := (own_lt HO1.out b hb).2; omega
          obtain ⟨w4, hwn⟩ : ∃ xq, w3.alloc (.cells #[.int .i64 0] 3) = xq := ⟨_, rfl⟩
          obtain ⟨gb, hgn⟩ : ∃ xq, w3.heap.size = xq := ⟨_, rfl⟩
          rw [hwn] at hna hbn ho1 ho2 hHN1 ⊢
          rw [hgn] at hna hfr ⊢
          have HBW := Lib.hid hbn
          have HO1 := Lib.hid ho1
          have HO2 := Lib.hid ho2
          have HN2 := Lib.hid hna
          have HN1 := Lib.hid hHN1
          clear hHN1
          have HG2 := Lib.hid hfr
          clear hfr
          clear hna hbn ho1 ho2 hal hwn hgn
          refine hK.out _ _ ⟨HBW.out.c1, HBW.out.c2⟩ (fun hHeld => ?_)
          clear hK K
          try simp only [Act.put, zzA, zzB, zzC]
          refine wpAnyT_ready (rs := [3]) (by kernel_rfl) (by simp) ?_
          refine AllReadyT.cons (o := _) rfl (fun K hK => ?_) (AllReadyT.nil)
          refine step_appN tInts rfl (.tmp 26) (.tmp 27) rfl (w.heap.size + 3) (.slice A1 k p1) k (ints ((List.range k).map (fun _ => (2097152 : Int)))) rfl HO1.out ⟨ga, 0, none⟩ 1 1 [.int .i64 2097152] rfl rfl (fun jj u hu => by rw [addr_add, Nat.zero_add, HN1.out.cell]; simpa using hu) (by simp [Value.oneCell']) (by omega) (by unfold maxLen; omega) HBW.out.sz ?_
          intro V3 w5 ho3 hg3 hn3
          obtain ⟨A3, p3, rfl, hc3⟩ := own_slice ho3
          have hf3 : Frm (fun b => (Value.slice A1 k p1).ownBlock = some b) w4 w5 := Frm.of_grown hg3 (fun b hb => hb)
          have hap3 : ∀ b, (Value.slice A3 (k + 1) p3).ownBlock = some b → (Value.slice A2 k p2).ownBlock ≠ some b := fun b hb e => by
            rcases hn3 with h | h
            · exact HAP.out b (h ▸ hb) e
            · have h1 := h b hb
              have h2 := (own_lt HO2.out b e).2
              omega
          have hbn := HBW.out.fr hf3 (fun b hb => own_ge HO1.out b hb)
          have ho2 := hf3.own HO2.out (fun b hb e => HAP.out b e hb)
          have HN2 := Lib.hid (HN2.out.frm hf3 (fun e => HG2.out _ e rfl))
          have HBW := Lib.hid hbn
          have HO1 := Lib.hid ho3
          have HO2 := Lib.hid ho2
          have HAP := Lib.hid hap3
          clear ho3 hg3 hn3 hf3 hap3 hbn ho2
          refine hK.out _ _ ⟨HBW.out.c1, HBW.out.c2⟩ (fun hHeld => ?_)
          clear hK K
          try simp only [Act.put, zzA, zzB, zzC]
          refine tkt (i := 8) (d := 33) rfl rfl ?_
          simp only [Act.put, zzA, zzB, zzC]
          refine wpAnyT_ready (rs := [7]) (by kernel_rfl) (by simp) ?_
          refine AllReadyT.cons (o := _) rfl (fun K hK => ?_) (AllReadyT.nil)
          refine step_appN tInts rfl (.tmp 30) (.tmp 31) rfl (w.heap.size + 3) (.slice A2 k p2) k (ints ((List.range k).map (fun _ => (0 : Int)))) rfl HO2.out ⟨gb, 0, none⟩ 1 1 [.int .i64 0] rfl rfl (fun jj u hu => by rw [addr_add, Nat.zero_add, HN2.out.cell]; simpa using hu) (by simp [Value.oneCell']) (by omega) (by unfold maxLen; omega) HBW.out.sz ?_
          intro V4 w6 ho4 hg4 hn4
          obtain ⟨A4, p4, rfl, hc4⟩ := own_slice ho4
          have hf4 : Frm (fun b => (Value.slice A2 k p2).ownBlock = some b) w5 w6 := Frm.of_grown hg4 (fun b hb => hb)
          have hap4 : ∀ b, (Value.slice A3 (k + 1) p3).ownBlock = some b → (Value.slice A4 (k + 1) p4).ownBlock ≠ some b := fun b hb e => by
            rcases hn4 with h | h
            · exact HAP.out b hb (h ▸ e)
            · have h1 := h b e
              have h2 := (own_lt HO1.out b hb).2
              omega
          have hbn := HBW.out.fr hf4 (fun b hb => own_ge HO2.out b hb)
          have ho1 := hf4.own HO1.out (fun b hb e => HAP.out b hb e)
          have HBW := Lib.hid hbn
          have HO1 := Lib.hid ho1
          have HO2 := Lib.hid ho4
          have HAP := Lib.hid hap4
          clear ho4 hg4 hn4 hf4 hap4 hbn ho1
          refine hK.out _ _ ⟨HBW.out.c1, HBW.out.c2⟩ (fun hHeld => ?_)
          clear hK K
          try simp only [Act.put, zzA, zzB, zzC]
          refine wpAnyT_ready (rs := [9]) (by kernel_rfl) (by simp) ?_
          refine AllReadyT.past (o := _) rfl (by kernel_rfl) (fun K hK => ?_) (AllReadyT.nil)
          have cc := HBW.out.c1
          have ff := HBW.out.f1
          go_simp
          have hbn := HBW.out.s1 (.slice A3 (k + 1) p3)
          have ho1 := own_s (j := 8) (u := (.slice A3 (k + 1) p3)) HO1.out
          have ho2 := own_s (j := 8) (u := (.slice A3 (k + 1) p3)) HO2.out
          obtain ⟨w7, hwn⟩ : ∃ xq, w6.setCell ⟨w.heap.size + 2, 8, none⟩ (.slice A3 (k + 1) p3) = xq := ⟨_, rfl⟩
          try rw [hwn]
          rw [hwn] at hbn ho1 ho2
          have HBW := Lib.hid hbn
          have HO1 := Lib.hid ho1
          have HO2 := Lib.hid ho2
          clear hbn ho1 ho2 cc ff hwn
          refine hK.out _ _ ?_
          clear hK K
          try simp only [Act.put, zzA, zzB, zzC]
          refine wpAnyT_ready (rs := [10]) (by kernel_rfl) (by simp) ?_
          refine AllReadyT.past (o := _) rfl (by kernel_rfl) (fun K hK => ?_) (AllReadyT.nil)
          go_simp
          refine hK.out _ _ ?_
          clear hK K
          try simp only [Act.put, zzA, zzB, zzC]
          refine wpAnyT_ready (rs := [11]) (by kernel_rfl) (by simp) ?_
          refine AllReadyT.past (o := _) rfl (by kernel_rfl) (fun K hK => ?_) (AllReadyT.nil)
          have cc := HBW.out.c2
          have ff := HBW.out.f2
          go_simp
          have hbn := HBW.out.s2 (.slice A4 (k + 1) p4)
          have ho1 := own_s (j := 9) (u := (.slice A4 (k + 1) p4)) HO1.out
          have ho2 := own_s (j := 9) (u := (.slice A4 (k + 1) p4)) HO2.out
          obtain ⟨w8, hwn⟩ : ∃ xq, w7.setCell ⟨w.heap.size + 2, 9, none⟩ (.slice A4 (k + 1) p4) = xq := ⟨_, rfl⟩
          try rw [hwn]
          rw [hwn] at hbn ho1 ho2
          have HBW := Lib.hid hbn
          have HO1 := Lib.hid ho1
          have HO2 := Lib.hid ho2
          clear hbn ho1 ho2 cc ff hwn
          refine hK.out _ _ ?_
          clear hK K
          try simp only [Act.put, zzA, zzB, zzC]
          refine wpAnyT_done (by kernel_rfl) ?_ _
          go_wp2
          go_roundw
          case rel => exact ⟨k + 1, by omega, by go_num, _, _, HBW.out, by rw [ints_rng]; exact HO1.out, by rw [ints_rng]; exact HO2.out, HAP.out⟩
          case measure => simp [intOf]; omega
      · go_simp
        have hal := (Below.refl w2.heap.size w2).alloc (Nat.le_refl _) (.cells #[.int .i64 0] 3)
        have hna := Blk.new w2 3 #[.int .i64 0]
        have hbn := HBW.out.below hal
        have ho1 := own_below HO1.out hal
        have ho2 := own_below HO2.out hal
        have hfr : ∀ b, (Value.slice A1 k p1).ownBlock = some b → b ≠ w2.heap.size := fun b hb e => by have := (own_lt HO1.out b hb).2; omega
        obtain ⟨w3, hwn⟩ : ∃ xq, w2.alloc (.cells #[.int .i64 0] 3) = xq := ⟨_, rfl⟩
        obtain ⟨gb, hgn⟩ : ∃ xq, w2.heap.size = xq := ⟨_, rfl⟩
        rw [hwn] at hna hbn ho1 ho2  ⊢
        rw [hgn] at hna hfr ⊢
        have HBW := Lib.hid hbn
        have HO1 := Lib.hid ho1
        have HO2 := Lib.hid ho2
        have HN2 := Lib.hid hna
        have HG2 := Lib.hid hfr
        clear hfr
        clear hna hbn ho1 ho2 hal hwn hgn
        refine hK.out _ _ ⟨HBW.out.c1, HBW.out.c2⟩ (fun hHeld => ?_)
        clear hK K
        try simp only [Act.put, zzA, zzB, zzC]
        refine wpAnyT_ready (rs := [2]) (by kernel_rfl) (by simp) ?_
        refine AllReadyT.cons (o := _) rfl (fun K hK => ?_) (AllReadyT.nil)
        go_simp
        have hal := (Below.refl w3.heap.size w3).alloc (Nat.le_refl _) (.cells #[.int .i64 2097152] 3)
        have hna := Blk.new w3 3 #[.int .i64 2097152]
        have hbn := HBW.out.below hal
        have ho1 := own_below HO1.out hal
        have ho2 := own_below HO2.out hal
        have hHN2 := HN2.out.below hal
        obtain ⟨w4, hwn⟩ : ∃ xq, w3.alloc (.cells #[.int .i64 2097152] 3) = xq := ⟨_, rfl⟩
        obtain ⟨ga, hgn⟩ : ∃ xq, w3.heap.size = xq := ⟨_, rfl⟩
        rw [hwn] at hna hbn ho1 ho2 hHN2 ⊢
        rw [hgn] at hna ⊢
        have HBW := Lib.hid hbn
        have HO1 := Lib.hid ho1
        have HO2 := Lib.hid ho2
        have HN1 := Lib.hid hna
        have HN2 := Lib.hid hHN2
        clear hHN2
        clear hna hbn ho1 ho2 hal hwn hgn
        refine hK.out _ _ ⟨HBW.out.c1, HBW.out.c2⟩ (fun hHeld => ?_)
        clear hK K
        try simp only [Act.put, zzA, zzB, zzC]
        refine wpAnyT_ready (rs := [3]) (by kernel_rfl) (by simp) ?_
        refine AllReadyT.cons (o := _) rfl (fun K hK => ?_) (AllReadyT.nil)
        refine step_appN tInts rfl (.tmp 26) (.tmp 27) rfl (w.heap.size + 3) (.slice A1 k p1) k (ints ((List.range k).map (fun _ => (2097152 : Int)))) rfl HO1.out ⟨ga, 0, none⟩ 1 1 [.int .i64 2097152] rfl rfl (fun jj u hu => by rw [addr_add, Nat.zero_add, HN1.out.cell]; simpa using hu) (by simp [Value.oneCell']) (by omega) (by unfold maxLen; omega) HBW.out.sz ?_
        intro V3 w5 ho3 hg3 hn3
        obtain ⟨A3, p3, rfl, hc3⟩ := own_slice ho3
        have hf3 : Frm (fun b => (Value.slice A1 k p1).ownBlock = some b) w4 w5 := Frm.of_grown hg3 (fun b hb => hb)
        have hap3 : ∀ b, (Value.slice A3 (k + 1) p3).ownBlock = some b → (Value.slice A2 k p2).ownBlock ≠ some b := fun b hb e => by
          rcases hn3 with h | h
          · exact HAP.out b (h ▸ hb) e
          · have h1 := h b hb
            have h2 := (own_lt HO2.out b e).2
            omega
        have hbn := HBW.out.fr hf3 (fun b hb => own_ge HO1.out b hb)
        have ho2 := hf3.own HO2.out (fun b hb e => HAP.out b e hb)
        have HN2 := Lib.hid (HN2.out.frm hf3 (fun e => HG2.out _ e rfl))
        have HBW := Lib.hid hbn
        have HO1 := Lib.hid ho3
        have HO2 := Lib.hid ho2
        have HAP := Lib.hid hap3
        clear ho3 hg3 hn3 hf3 hap3 hbn ho2
        refine hK.out _ _ ⟨HBW.out.c1, HBW.out.c2⟩ (fun hHeld => ?_)
        clear hK K
        try simp only [Act.put, zzA, zzB, zzC]
        refine tkt (i := 8) (d := 33) rfl rfl ?_
        simp only [Act.put, zzA, zzB, zzC]
        refine wpAnyT_ready (rs := [7]) (by kernel_rfl) (by simp) ?_
        refine AllReadyT.cons (o := _) rfl (fun K hK => ?_) (AllReadyT.nil)
        refine step_appN tInts rfl (.tmp 30) (.tmp 31) rfl (w.heap.size + 3) (.slice A2 k p2) k (ints ((List.range k).map (fun _ => (0 : Int)))) rfl HO2.out ⟨gb, 0, none⟩ 1 1 [.int .i64 0] rfl rfl (fun jj u hu => by rw [addr_add, Nat.zero_add, HN2.out.cell]; simpa using hu) (by simp [Value.oneCell']) (by omega) (by unfold maxLen; omega) HBW.out.sz ?_
        intro V4 w6 ho4 hg4 hn4
        obtain ⟨A4, p4, rfl, hc4⟩ := own_slice ho4
        have hf4 : Frm (fun b => (Value.slice A2 k p2).ownBlock = some b) w5 w6 := Frm.of_grown hg4 (fun b hb => hb)
        have hap4 : ∀ b, (Value.slice A3 (k + 1) p3).ownBlock = some b → (Value.slice A4 (k + 1) p4).ownBlock ≠ some b := fun b hb e => by
          rcases hn4 with h | h
          · exact HAP.out b hb (h ▸ e)
          · have h1 := h b e
            have h2 := (own_lt HO1.out b hb).2
            omega
        have hbn := HBW.out.fr hf4 (fun b hb => own_ge HO2.out b hb)
        have ho1 := hf4.own HO1.out (fun b hb e => HAP.out b hb e)
        have HBW := Lib.hid hbn
        have HO1 := Lib.hid ho1
        have HO2 := Lib.hid ho4
        have HAP := Lib.hid hap4
        clear ho4 hg4 hn4 hf4 hap4 hbn ho1
        refine hK.out _ _ ⟨HBW.out.c1, HBW.out.c2⟩ (fun hHeld => ?_)
        clear hK K
        try simp only [Act.put, zzA, zzB, zzC]
        refine wpAnyT_ready (rs := [9]) (by kernel_rfl) (by simp) ?_
        refine AllReadyT.past (o := _) rfl (by kernel_rfl) (fun K hK => ?_) (AllReadyT.nil)
        have cc := HBW.out.c1
        have ff := HBW.out.f1
        go_simp
        have hbn := HBW.out.s1 (.slice A3 (k + 1) p3)
        have ho1 := own_s (j := 8) (u := (.slice A3 (k + 1) p3)) HO1.out
        have ho2 := own_s (j := 8) (u := (.slice A3 (k + 1) p3)) HO2.out
        obtain ⟨w7, hwn⟩ : ∃ xq, w6.setCell ⟨w.heap.size + 2, 8, none⟩ (.slice A3 (k + 1) p3) = xq := ⟨_, rfl⟩
        try rw [hwn]
        rw [hwn] at hbn ho1 ho2
        have HBW := Lib.hid hbn
        have HO1 := Lib.hid ho1
        have HO2 := Lib.hid ho2
        clear hbn ho1 ho2 cc ff hwn
        refine hK.out _ _ ?_
        clear hK K
        try simp only [Act.put, zzA, zzB, zzC]
        refine wpAnyT_ready (rs := [10]) (by kernel_rfl) (by simp) ?_
        refine AllReadyT.past (o := _) rfl (by kernel_rfl) (fun K hK => ?_) (AllReadyT.nil)
        go_simp
        refine hK.out _ _ ?_
        clear hK K
        try simp only [Act.put, zzA, zzB, zzC]
        refine wpAnyT_ready (rs := [11]) (by kernel_rfl) (by simp) ?_
        refine AllReadyT.past (o := _) rfl (by kernel_rfl) (fun K hK => ?_) (AllReadyT.nil)
        have cc := HBW.out.c2
        have ff := HBW.out.f2
        go_simp
        have hbn := HBW.out.s2 (.slice A4 (k + 1) p4)
        have ho1 := own_s (j := 9) (u := (.slice A4 (k + 1) p4)) HO1.out
        have ho2 := own_s (j := 9) (u := (.slice A4 (k + 1) p4)) HO2.out
        obtain ⟨w8, hwn⟩ : ∃ xq, w7.setCell ⟨w.heap.size + 2, 9, none⟩ (.slice A4 (k + 1) p4) = xq := ⟨_, rfl⟩
        try rw [hwn]
        rw [hwn] at hbn ho1 ho2
        have HBW := Lib.hid hbn
        have HO1 := Lib.hid ho1
        have HO2 := Lib.hid ho2
        clear hbn ho1 ho2 cc ff hwn
        refine hK.out _ _ ?_
        clear hK K
        try simp only [Act.put, zzA, zzB, zzC]
        refine wpAnyT_done (by kernel_rfl) ?_ _
        go_wp2
        go_roundw
        case rel => exact ⟨k + 1, by omega, by go_num, _, _, HBW.out, by rw [ints_rng]; exact HO1.out, by rw [ints_rng]; exact HO2.out, HAP.out⟩
        case measure => simp [intOf]; omega
    · obtain rfl : k = N := by omega
      obtain ⟨g1, m1, hv, hm, hge, hXl, hrow⟩ := row_of_own HO1.out (by omega)
      injection hv with hA _ hcc
      subst hA hcc
      have HGE1 := Lib.hid hge
      have HROW1 := Lib.hid hrow
      clear hm hge hXl hrow
      obtain ⟨g2, m2, hv, hm, hge, hXl, hrow⟩ := row_of_own HO2.out (by omega)
      injection hv with hA _ hcc
      subst hA hcc
      have HGE2 := Lib.hid hge
      have HROW2 := Lib.hid hrow
      have HNE := Lib.hid (show g1 ≠ g2 from fun e => HAP.out g1 rfl (by rw [e]; rfl))
      clear hm hge hXl hrow
      go_upto_region 38 with fail
      obtain ⟨cs, hcs⟩ : ∃ x, bgC ⟨2, S, a, b, c, r, l⟩ (.slice (some ⟨g1, 0, none⟩) k p1) (.slice (some ⟨g2, 0, none⟩) k p2) (.slice none 0 0) (.slice none 0 0) (.slice none 0 0) (.slice none 0 0) = x := ⟨_, rfl⟩
      have HB3 := Lib.hid (show Blk wr (w.heap.size + 2) 74 cs from hcs ▸ HBW.out.b3)
      have HB2 := Lib.hid HBW.out.b2
      have HSI := Lib.hid (show (Try.prog.info? 74).map (·.size) = some cs.size from hcs ▸ bg_info ⟨2, S, a, b, c, r, l⟩ (.slice (some ⟨g1, 0, none⟩) k p1) (.slice (some ⟨g2, 0, none⟩) k p2) (.slice none 0 0) (.slice none 0 0) (.slice none 0 0) (.slice none 0 0))
      have HON := Lib.hid (show cs.all (·.oneCell') = true from hcs ▸ bg_one ⟨2, S, a, b, c, r, l⟩ (.slice (some ⟨g1, 0, none⟩) k p1) (.slice (some ⟨g2, 0, none⟩) k p2) (.slice none 0 0) (.slice none 0 0) (.slice none 0 0) (.slice none 0 0) rfl rfl rfl rfl rfl rfl)
      have HSZ := Lib.hid (show (#[.int .u8 0, .int .i64 0, .int .i64 0, .int .i64 0, .int .i64 0, .int .i64 0, .int .i64 0, .int .u32 0, .slice none 0 0, .slice none 0 0, .slice none 0 0, .slice none 0 0, .slice none 0 0, .slice none 0 0, .int .i64 0, .int .i64 0] : Array Value).size = cs.size from hcs ▸ rfl)
      have HFIN := Lib.hid (HBW.out.fin ⟨g1, g2, 0, 0, 0, 0, p1, p2, 0⟩ cs ((rc29 (.inl rfl) rfl rfl rfl _ (by rw [show evens (beginU ⟨2, S, a, b, c, r, l⟩).t = (List.range k).map (fun _ => (2097152 : Int)) from by rw [← HN.out]; exact evens_pairs _ _]; simp) (by rw [show odds (beginU ⟨2, S, a, b, c, r, l⟩).t = (List.range k).map (fun _ => (0 : Int)) from by rw [← HN.out]; exact odds_pairs _ _]; simp) (by omega)).trans hcs) (RU.mk29 (.inl rfl) (by rw [show evens (beginU ⟨2, S, a, b, c, r, l⟩).t = (List.range k).map (fun _ => (2097152 : Int)) from by rw [← HN.out]; exact evens_pairs _ _]; exact HROW1.out) (by rw [show odds (beginU ⟨2, S, a, b, c, r, l⟩).t = (List.range k).map (fun _ => (0 : Int)) from by rw [← HN.out]; exact odds_pairs _ _]; exact HROW2.out) HNE.out) (fun b hb => by rcases has29 (.inl rfl) hb with h | h; rw [h]; exact HGE1.out; rw [h]; exact HGE2.out))
      clear hcs
      go_wp2_with (first
        | (refine wpList_load_row rfl 74 (.tmp 3) rfl (w.heap.size + 2) rfl 74 cs _ _ HB3.out Try.underlying74 rfl HSI.out ?_)
        | (refine wpList_store_row rfl 74 (.tmp 2) (.tmp 128) rfl (w.heap.size + 1) cs rfl rfl 74 _ HB2.out HSI.out HSZ.out HON.out ?_))
      exact bodyPost_ret (v := .agg cs) (results_cell_row rfl _ _ (w.heap.size + 1) 74 cs _ _ rfl (blk_setRow HB2.out cs) Try.underlying74 rfl HSI.out) rfl HFIN.out
end Go.Proofs.Ytnohfeaamfjimaa
namespace Go.Proofs.Ytnohfeaamfjimaa
open Go.RowKit Go.WideShapes
set_option linter.unusedVariables false
set_option linter.unusedSimpArgs false
set_option maxRecDepth 100000 in
set_option maxHeartbeats 4000000 in
theorem begR_9 (S N M : Nat) (a b c r l : Int) (hs2 : S ≤ 16) (hN : 2 ^ S = N) (hM : N * 32 = M) (w : World) :
    Calls Try.prog 34 #[Pt.agg ⟨9, S, a, b, c, r, l⟩] w (BegR ⟨9, S, a, b, c, r, l⟩ w) := by
  have hM2 : M ≤ 65536 * 32 := by rw [← hM, ← hN]; exact Nat.mul_le_mul (Nat.pow_le_pow_right (show 0 < 2 by omega) hs2) (Nat.le_refl _)
  have hM1 : 1 ≤ M := by have := Nat.two_pow_pos S; omega
  have e2 : IntKind.i64.wrap ((N : Int) * 32) = (M : Int) := by
    rw [← hM]
    push_cast
    exact IntWalk.i64_in _ (by omega)
  have HM := Lib.hid hM
  clear hM
  unfold Pt.agg
  have hNb : N ≤ 65536 := by rw [← hN]; exact Nat.pow_le_pow_right (show 0 < 2 by omega) hs2
  have hN1 : 1 ≤ N := by rw [← hN]; exact Nat.two_pow_pos S
  have HN := Lib.hid hN
  have HPW := Lib.hid (show ∀ W, Calls Try.prog 52 #[.int .i64 (S : Int)] W (Sam (.int .i64 (N : Int)) W) from fun W => hN ▸ powerR S W (by omega))
  have SI := Lib.hid (bg_info ⟨9, S, a, b, c, r, l⟩ (.slice none 0 0) (.slice none 0 0) (.slice none 0 0) (.slice none 0 0) (.slice none 0 0) (.slice none 0 0))
  have ONE := Lib.hid (bg_one ⟨9, S, a, b, c, r, l⟩ (.slice none 0 0) (.slice none 0 0) (.slice none 0 0) (.slice none 0 0) (.slice none 0 0) (.slice none 0 0) rfl rfl rfl rfl rfl rfl)
  unfold bgC at SI ONE
  clear hN
  go_enter Try.func34, Try.ntmps34
  go_upto_region 2 with (refine wpList_store_row rfl 74 (.tmp 3) (.tmp 12) rfl _ #[.int .u8 9, .int .i64 (S : Int), .int .i64 a, .int .i64 b, .int .i64 c, .int .i64 r, .int .i64 l, .int .u32 0, .slice none 0 0, .slice none 0 0, .slice none 0 0, .slice none 0 0, .slice none 0 0, .slice none 0 0, .int .i64 0, .int .i64 0] rfl rfl 74 _ (heap_alloc_new _ _) SI.out rfl ONE.out ?_; rw [World.setRow_alloc_new]; simp only [Act.put, zzA, zzB, zzC])
  obtain ⟨w1, hw1⟩ : ∃ x, ((w.alloc (.cells #[.int .u8 9, .int .i64 (S : Int), .int .i64 a, .int .i64 b, .int .i64 c, .int .i64 r, .int .i64 l] 25)).alloc (.cells #[.int .u8 0, .int .i64 0, .int .i64 0, .int .i64 0, .int .i64 0, .int .i64 0, .int .i64 0, .int .u32 0, .slice none 0 0, .slice none 0 0, .slice none 0 0, .slice none 0 0, .slice none 0 0, .slice none 0 0, .int .i64 0, .int .i64 0] 74)).alloc (.cells #[.int .u8 9, .int .i64 (S : Int), .int .i64 a, .int .i64 b, .int .i64 c, .int .i64 r, .int .i64 l, .int .u32 0, .slice none 0 0, .slice none 0 0, .slice none 0 0, .slice none 0 0, .slice none 0 0, .slice none 0 0, .int .i64 0, .int .i64 0] 74) = x := ⟨_, rfl⟩
  have hbw : BgW ⟨9, S, a, b, c, r, l⟩ w w1 (.slice none 0 0) (.slice none 0 0) (.slice none 0 0) (.slice none 0 0) (.slice none 0 0) (.slice none 0 0) := by
    rw [← hw1]
    exact BgW.start ⟨9, S, a, b, c, r, l⟩ w
  try rw [hw1]
  try rw [show w.heap.size + 1 + 1 = w.heap.size + 2 from rfl]
  have HBW := Lib.hid hbw
  have d0 : w1.cell? ⟨w.heap.size, 0, none⟩ = some (.int .u8 9) := hbw.b1.cell 0
  have d1 : w1.cell? ⟨w.heap.size, 1, none⟩ = some (.int .i64 (S : Int)) := hbw.b1.cell 1
  have d3 : w1.cell? ⟨w.heap.size, 3, none⟩ = some (.int .i64 b) := hbw.b1.cell 3
  clear hw1 hbw SI ONE
  go_wp2_with fail
  refine (HPW.out _).mono ?_
  rintro e w2 ⟨rfl, hs1⟩
  rw [hs1]
  clear hs1 w2
  go_wp2_with fail
  go_loopw [10] (fun v wr => ∃ k : Nat, k ≤ M ∧ v = .int .i64 k ∧ ∃ V1 V2, BgW ⟨9, S, a, b, c, r, l⟩ w wr V1 V2 (.slice none 0 0) (.slice none 0 0) (.slice none 0 0) (.slice none 0 0) ∧ wr.ownsRow (w.heap.size + 3) 3 1 V1 k (ints ((List.range k).map (fun i : Nat => sqI (((i % 32 : Nat) : Int) * 132 - 2047) * 1024))) ∧ wr.ownsRow (w.heap.size + 3) 3 1 V2 k (ints ((List.range k).map (fun _ => (0 : Int)))) ∧ (∀ b, V1.ownBlock = some b → V2.ownBlock ≠ some b)) (fun v _ => M - (intOf v).toNat)
  case atStart => exact ⟨0, by omega, rfl, _, _, HBW.out, ⟨rfl, .inl ⟨rfl, rfl⟩⟩, ⟨rfl, .inl ⟨rfl, rfl⟩⟩, fun b h => by cases h⟩
  case round =>
    obtain ⟨k, hk, rfl, V1, V2, hbw, hown1, hown2, hap⟩ := hrel
    obtain ⟨A1, p1, rfl, hcp1⟩ := own_slice hown1
    obtain ⟨A2, p2, rfl, hcp2⟩ := own_slice hown2
    clear HBW d0 d1 d3
    have HBW := Lib.hid hbw
    have HO1 := Lib.hid hown1
    have HO2 := Lib.hid hown2
    have HAP := Lib.hid hap
    clear hbw hown1 hown2 hap
    by_cases hlt : k < M
    · have hki : (k : Int) < M := by omega
      obtain ⟨m, hm⟩ : ∃ m, k % 32 = m := ⟨_, rfl⟩
      have f1 : (k : Int).tmod 32 = (m : Int) := by rw [← hm]; exact tmod_nat k 32
      have hm32 : m < 32 := by omega
      obtain ⟨y, hy⟩ : ∃ y, (m : Int) * 132 = y := ⟨_, rfl⟩
      obtain ⟨d, hd⟩ : ∃ d, y - 2047 = d := ⟨_, rfl⟩
      have f2 : IntKind.i64.wrap ((m : Int) * 132) = y := by rw [hy]; exact IntWalk.i64_in _ (by omega)
      have f3 : IntKind.i64.wrap (y - 2047) = d := by rw [hd]; exact IntWalk.i64_in _ (by omega)
      have hqb := sq_bd d
      obtain ⟨q, hq⟩ : ∃ q, sqI d = q := ⟨_, rfl⟩
      obtain ⟨x, hx⟩ : ∃ x, q * 1024 = x := ⟨_, rfl⟩
      rw [hq] at hqb
      have f4 : IntKind.i64.wrap (q * 1024) = x := by rw [hx]; exact IntWalk.i64_in _ (by omega)
      have HSQ := Lib.hid (show ∀ W, Calls Try.prog 41 #[.int .i64 d] W (Quiet (.int .i64 q) W) from fun W => (rsquash_any d W).mono (fun e w' h => ⟨hq ▸ h.1, h.2⟩))
      have HX := Lib.hid (show sqI (((k % 32 : Nat) : Int) * 132 - 2047) * 1024 = x by rw [hm, hy, hd, hq, hx])
      clear hm hy hd hq hx hqb hm32
      go_upto_region 37 with fail
      refine wp_region_till (fun W : World => W.cell? ⟨w.heap.size + 2, 8, none⟩ = some (.slice A1 k p1) ∧ W.cell? ⟨w.heap.size + 2, 9, none⟩ = some (.slice A2 k p2)) 15 (by kernel_rfl) ⟨HBW.out.c1, HBW.out.c2⟩ (fun hHeld => ?_)
      have hbw2 := HBW.out.below (below_drewN (Below.refl wr.heap.size wr) 1)
      have ho1 := own_below HO1.out (below_drewN (Below.refl wr.heap.size wr) 1)
      have ho2 := own_below HO2.out (below_drewN (Below.refl wr.heap.size wr) 1)
      obtain ⟨w2, hw2⟩ : ∃ xq, wr.drewN 1 = xq := ⟨_, rfl⟩
      have hw2' : wr.drew = w2 := hw2
      rw [hw2] at hbw2 ho1 ho2
      rw [hw2'] at hHeld ⊢
      have HBW := Lib.hid hbw2
      have HO1 := Lib.hid ho1
      have HO2 := Lib.hid ho2
      clear hw2 hw2' hbw2 ho1 ho2
      refine tkt (i := 0) (d := 112) rfl rfl ?_
      simp only [Act.put, zzA, zzB, zzC]
      refine tkt (i := 1) (d := 113) rfl rfl ?_
      simp only [Act.put, zzA, zzB, zzC]
      refine tkt (i := 2) (d := 114) rfl rfl ?_
      simp only [Act.put, zzA, zzB, zzC]
      refine tkt (i := 3) (d := 115) rfl rfl ?_
      simp only [Act.put, zzA, zzB, zzC]
      refine tkt (i := 4) (d := 116) rfl rfl ?_
      simp only [Act.put, zzA, zzB, zzC]
      refine tkt (i := 5) (d := 117) rfl rfl ?_
      simp only [Act.put, zzA, zzB, zzC]
      refine tkt (i := 10) (d := 122) rfl rfl ?_
      simp only [Act.put, zzA, zzB, zzC]
      refine tkt (i := 11) (d := 123) rfl rfl ?_
      simp only [Act.put, zzA, zzB, zzC]
      refine wpAnyT_ready (rs := [6, 12]) (by kernel_rfl) (by simp) ?_
      refine AllReadyT.cons (o := _) rfl (fun K hK => ?_) (AllReadyT.cons (o := _) rfl (fun K hK => ?_) (AllReadyT.nil))
      · go_simp
        refine (HSQ.out _).mono ?_
        rintro e w3 ⟨rfl, hb⟩
        have hbn := HBW.out.below hb
        have ho1 := own_below HO1.out hb
        have ho2 := own_below HO2.out hb
        have HBW := Lib.hid hbn
        have HO1 := Lib.hid ho1
        have HO2 := Lib.hid ho2
        clear hbn ho1 ho2 hb
        go_wp2_with fail
        refine hK.out _ _ ⟨HBW.out.c1, HBW.out.c2⟩ (fun hHeld => ?_)
        clear hK K
        try simp only [Act.put, zzA, zzB, zzC]
        refine tkt (i := 7) (d := 119) rfl rfl ?_
        simp only [Act.put, zzA, zzB, zzC]
        refine wpAnyT_ready (rs := [8, 12]) (by kernel_rfl) (by simp) ?_
        refine AllReadyT.cons (o := _) rfl (fun K hK => ?_) (AllReadyT.cons (o := _) rfl (fun K hK => ?_) (AllReadyT.nil))
        · go_simp
          have hal := (Below.refl w3.heap.size w3).alloc (Nat.le_refl _) (.cells #[.int .i64 x] 3)
          have hna := Blk.new w3 3 #[.int .i64 x]
          have hbn := HBW.out.below hal
          have ho1 := own_below HO1.out hal
          have ho2 := own_below HO2.out hal
          obtain ⟨w4, hwn⟩ : ∃ xq, w3.alloc (.cells #[.int .i64 x] 3) = xq := ⟨_, rfl⟩
          obtain ⟨ga, hgn⟩ : ∃ xq, w3.heap.size = xq := ⟨_, rfl⟩
          rw [hwn] at hna hbn ho1 ho2  ⊢
          rw [hgn] at hna ⊢
          have HBW := Lib.hid hbn
          have HO1 := Lib.hid ho1
          have HO2 := Lib.hid ho2
          have HN1 := Lib.hid hna
          clear hna hbn ho1 ho2 hal hwn hgn
          refine hK.out _ _ ⟨HBW.out.c1, HBW.out.c2⟩ (fun hHeld => ?_)
          clear hK K
          try simp only [Act.put, zzA, zzB, zzC]
          refine wpAnyT_ready (rs := [9, 12]) (by kernel_rfl) (by simp) ?_
          refine AllReadyT.cons (o := _) rfl (fun K hK => ?_) (AllReadyT.cons (o := _) rfl (fun K hK => ?_) (AllReadyT.nil))
          · refine step_appN tInts rfl (.tmp 113) (.tmp 120) rfl (w.heap.size + 3) (.slice A1 k p1) k (ints ((List.range k).map (fun i : Nat => sqI (((i % 32 : Nat) : Int) * 132 - 2047) * 1024))) rfl HO1.out ⟨ga, 0, none⟩ 1 1 [.int .i64 x] rfl rfl (fun jj u hu => by rw [addr_add, Nat.zero_add, HN1.out.cell]; simpa using hu) (by simp [Value.oneCell']) (by omega) (by unfold maxLen; omega) HBW.out.sz ?_
            intro V3 w5 ho3 hg3 hn3
            obtain ⟨A3, p3, rfl, hc3⟩ := own_slice ho3
            have hf3 : Frm (fun b => (Value.slice A1 k p1).ownBlock = some b) w4 w5 := Frm.of_grown hg3 (fun b hb => hb)
            have hap3 : ∀ b, (Value.slice A3 (k + 1) p3).ownBlock = some b → (Value.slice A2 k p2).ownBlock ≠ some b := fun b hb e => by
              rcases hn3 with h | h
              · exact HAP.out b (h ▸ hb) e
              · have h1 := h b hb
                have h2 := (own_lt HO2.out b e).2
                omega
            have hbn := HBW.out.fr hf3 (fun b hb => own_ge HO1.out b hb)
            have ho2 := hf3.own HO2.out (fun b hb e => HAP.out b e hb)
            have HBW := Lib.hid hbn
            have HO1 := Lib.hid ho3
            have HO2 := Lib.hid ho2
            have HAP := Lib.hid hap3
            clear ho3 hg3 hn3 hf3 hap3 hbn ho2
            refine hK.out _ _ ⟨HBW.out.c1, HBW.out.c2⟩ (fun hHeld => ?_)
            clear hK K
            try simp only [Act.put, zzA, zzB, zzC]
            refine tkt (i := 14) (d := 126) rfl rfl ?_
            simp only [Act.put, zzA, zzB, zzC]
            refine wpAnyT_ready (rs := [12]) (by kernel_rfl) (by simp) ?_
            refine AllReadyT.cons (o := _) rfl (fun K hK => ?_) (AllReadyT.nil)
            go_simp
            have hal := (Below.refl w5.heap.size w5).alloc (Nat.le_refl _) (.cells #[.int .i64 0] 3)
            have hna := Blk.new w5 3 #[.int .i64 0]
            have hbn := HBW.out.below hal
            have ho1 := own_below HO1.out hal
            have ho2 := own_below HO2.out hal
            obtain ⟨w6, hwn⟩ : ∃ xq, w5.alloc (.cells #[.int .i64 0] 3) = xq := ⟨_, rfl⟩
            obtain ⟨gb, hgn⟩ : ∃ xq, w5.heap.size = xq := ⟨_, rfl⟩
            rw [hwn] at hna hbn ho1 ho2  ⊢
            rw [hgn] at hna ⊢
            have HBW := Lib.hid hbn
            have HO1 := Lib.hid ho1
            have HO2 := Lib.hid ho2
            have HN2 := Lib.hid hna
            clear hna hbn ho1 ho2 hal hwn hgn
            refine hK.out _ _ ⟨HBW.out.c1, HBW.out.c2⟩ (fun hHeld => ?_)
            clear hK K
            try simp only [Act.put, zzA, zzB, zzC]
            refine wpAnyT_ready (rs := [13]) (by kernel_rfl) (by simp) ?_
            refine AllReadyT.cons (o := _) rfl (fun K hK => ?_) (AllReadyT.nil)
            refine step_appN tInts rfl (.tmp 123) (.tmp 124) rfl (w.heap.size + 3) (.slice A2 k p2) k (ints ((List.range k).map (fun _ => (0 : Int)))) rfl HO2.out ⟨gb, 0, none⟩ 1 1 [.int .i64 0] rfl rfl (fun jj u hu => by rw [addr_add, Nat.zero_add, HN2.out.cell]; simpa using hu) (by simp [Value.oneCell']) (by omega) (by unfold maxLen; omega) HBW.out.sz ?_
            intro V4 w7 ho4 hg4 hn4
            obtain ⟨A4, p4, rfl, hc4⟩ := own_slice ho4
            have hf4 : Frm (fun b => (Value.slice A2 k p2).ownBlock = some b) w6 w7 := Frm.of_grown hg4 (fun b hb => hb)
            have hap4 : ∀ b, (Value.slice A3 (k + 1) p3).ownBlock = some b → (Value.slice A4 (k + 1) p4).ownBlock ≠ some b := fun b hb e => by
              rcases hn4 with h | h
              · exact HAP.out b hb (h ▸ e)
              · have h1 := h b e
                have h2 := (own_lt HO1.out b hb).2
                omega
            have hbn := HBW.out.fr hf4 (fun b hb => own_ge HO2.out b hb)
            have ho1 := hf4.own HO1.out (fun b hb e => HAP.out b hb e)
            have HBW := Lib.hid hbn
            have HO1 := Lib.hid ho1
            have HO2 := Lib.hid ho4
            have HAP := Lib.hid hap4
            clear ho4 hg4 hn4 hf4 hap4 hbn ho1
            refine hK.out _ _ ⟨HBW.out.c1, HBW.out.c2⟩ (fun hHeld => ?_)
            clear hK K
            try simp only [Act.put, zzA, zzB, zzC]
            refine wpAnyT_ready (rs := [15]) (by kernel_rfl) (by simp) ?_
            refine AllReadyT.past (o := _) rfl (by kernel_rfl) (fun K hK => ?_) (AllReadyT.nil)
            have cc := HBW.out.c1
            have ff := HBW.out.f1
            go_simp
            have hbn := HBW.out.s1 (.slice A3 (k + 1) p3)
            have ho1 := own_s (j := 8) (u := (.slice A3 (k + 1) p3)) HO1.out
            have ho2 := own_s (j := 8) (u := (.slice A3 (k + 1) p3)) HO2.out
            obtain ⟨w8, hwn⟩ : ∃ xq, w7.setCell ⟨w.heap.size + 2, 8, none⟩ (.slice A3 (k + 1) p3) = xq := ⟨_, rfl⟩
            try rw [hwn]
            rw [hwn] at hbn ho1 ho2
            have HBW := Lib.hid hbn
            have HO1 := Lib.hid ho1
            have HO2 := Lib.hid ho2
            clear hbn ho1 ho2 cc ff hwn
            refine hK.out _ _ ?_
            clear hK K
            try simp only [Act.put, zzA, zzB, zzC]
            refine wpAnyT_ready (rs := [16]) (by kernel_rfl) (by simp) ?_
            refine AllReadyT.past (o := _) rfl (by kernel_rfl) (fun K hK => ?_) (AllReadyT.nil)
            go_simp
            refine hK.out _ _ ?_
            clear hK K
            try simp only [Act.put, zzA, zzB, zzC]
            refine wpAnyT_ready (rs := [17]) (by kernel_rfl) (by simp) ?_
            refine AllReadyT.past (o := _) rfl (by kernel_rfl) (fun K hK => ?_) (AllReadyT.nil)
            have cc := HBW.out.c2
            have ff := HBW.out.f2
            go_simp
            have hbn := HBW.out.s2 (.slice A4 (k + 1) p4)
            have ho1 := own_s (j := 9) (u := (.slice A4 (k + 1) p4)) HO1.out
            have ho2 := own_s (j := 9) (u := (.slice A4 (k + 1) p4)) HO2.out
            obtain ⟨w9, hwn⟩ : ∃ xq, w8.setCell ⟨w.heap.size + 2, 9, none⟩ (.slice A4 (k + 1) p4) = xq := ⟨_, rfl⟩
            try rw [hwn]
            rw [hwn] at hbn ho1 ho2
            have HBW := Lib.hid hbn
            have HO1 := Lib.hid ho1
            have HO2 := Lib.hid ho2
            clear hbn ho1 ho2 cc ff hwn
            refine hK.out _ _ ?_
            clear hK K
            try simp only [Act.put, zzA, zzB, zzC]
            refine wpAnyT_done (by kernel_rfl) ?_ _
            go_wp2
            go_roundw
            case rel => exact ⟨k + 1, by omega, by go_num, _, _, HBW.out, by rw [ints_rng, HX.out]; exact HO1.out, by rw [ints_rng]; exact HO2.out, HAP.out⟩
            case measure => simp [intOf]; omega
          · go_simp
            have hal := (Below.refl w4.heap.size w4).alloc (Nat.le_refl _) (.cells #[.int .i64 0] 3)
            have hna := Blk.new w4 3 #[.int .i64 0]
            have hbn := HBW.out.below hal
            have ho1 := own_below HO1.out hal
            have ho2 := own_below HO2.out hal
            have hHN1 := HN1.out.below hal
            have hfr : ∀ b, (Value.slice A1 k p1).ownBlock = some b → b ≠ w4.heap.size := fun b hb e => by have := (own_lt HO1.out b hb).2; omega
            obtain ⟨w5, hwn⟩ : ∃ xq, w4.alloc (.cells #[.int .i64 0] 3) = xq := ⟨_, rfl⟩
            obtain ⟨gb, hgn⟩ : ∃ xq, w4.heap.size = xq := ⟨_, rfl⟩
            rw [hwn] at hna hbn ho1 ho2 hHN1 ⊢
            rw [hgn] at hna hfr ⊢
            have HBW := Lib.hid hbn
            have HO1 := Lib.hid ho1
            have HO2 := Lib.hid ho2
            have HN2 := Lib.hid hna
            have HN1 := Lib.hid hHN1
            clear hHN1
            have HG2 := Lib.hid hfr
            clear hfr
            clear hna hbn ho1 ho2 hal hwn hgn
            refine hK.out _ _ ⟨HBW.out.c1, HBW.out.c2⟩ (fun hHeld => ?_)
            clear hK K
            try simp only [Act.put, zzA, zzB, zzC]
            refine wpAnyT_ready (rs := [9]) (by kernel_rfl) (by simp) ?_
            refine AllReadyT.cons (o := _) rfl (fun K hK => ?_) (AllReadyT.nil)
            refine step_appN tInts rfl (.tmp 113) (.tmp 120) rfl (w.heap.size + 3) (.slice A1 k p1) k (ints ((List.range k).map (fun i : Nat => sqI (((i % 32 : Nat) : Int) * 132 - 2047) * 1024))) rfl HO1.out ⟨ga, 0, none⟩ 1 1 [.int .i64 x] rfl rfl (fun jj u hu => by rw [addr_add, Nat.zero_add, HN1.out.cell]; simpa using hu) (by simp [Value.oneCell']) (by omega) (by unfold maxLen; omega) HBW.out.sz ?_
            intro V3 w6 ho3 hg3 hn3
            obtain ⟨A3, p3, rfl, hc3⟩ := own_slice ho3
            have hf3 : Frm (fun b => (Value.slice A1 k p1).ownBlock = some b) w5 w6 := Frm.of_grown hg3 (fun b hb => hb)
            have hap3 : ∀ b, (Value.slice A3 (k + 1) p3).ownBlock = some b → (Value.slice A2 k p2).ownBlock ≠ some b := fun b hb e => by
              rcases hn3 with h | h
              · exact HAP.out b (h ▸ hb) e
              · have h1 := h b hb
                have h2 := (own_lt HO2.out b e).2
                omega
            have hbn := HBW.out.fr hf3 (fun b hb => own_ge HO1.out b hb)
            have ho2 := hf3.own HO2.out (fun b hb e => HAP.out b e hb)
            have HN2 := Lib.hid (HN2.out.frm hf3 (fun e => HG2.out _ e rfl))
            have HBW := Lib.hid hbn
            have HO1 := Lib.hid ho3
            have HO2 := Lib.hid ho2
            have HAP := Lib.hid hap3
            clear ho3 hg3 hn3 hf3 hap3 hbn ho2
            refine hK.out _ _ ⟨HBW.out.c1, HBW.out.c2⟩ (fun hHeld => ?_)
            clear hK K
            try simp only [Act.put, zzA, zzB, zzC]
            refine tkt (i := 14) (d := 126) rfl rfl ?_
            simp only [Act.put, zzA, zzB, zzC]
            refine wpAnyT_ready (rs := [13]) (by kernel_rfl) (by simp) ?_
            refine AllReadyT.cons (o := _) rfl (fun K hK => ?_) (AllReadyT.nil)
            refine step_appN tInts rfl (.tmp 123) (.tmp 124) rfl (w.heap.size + 3) (.slice A2 k p2) k (ints ((List.range k).map (fun _ => (0 : Int)))) rfl HO2.out ⟨gb, 0, none⟩ 1 1 [.int .i64 0] rfl rfl (fun jj u hu => by rw [addr_add, Nat.zero_add, HN2.out.cell]; simpa using hu) (by simp [Value.oneCell']) (by omega) (by unfold maxLen; omega) HBW.out.sz ?_
            intro V4 w7 ho4 hg4 hn4
            obtain ⟨A4, p4, rfl, hc4⟩ := own_slice ho4
            have hf4 : Frm (fun b => (Value.slice A2 k p2).ownBlock = some b) w6 w7 := Frm.of_grown hg4 (fun b hb => hb)
            have hap4 : ∀ b, (Value.slice A3 (k + 1) p3).ownBlock = some b → (Value.slice A4 (k + 1) p4).ownBlock ≠ some b := fun b hb e => by
              rcases hn4 with h | h
              · exact HAP.out b hb (h ▸ e)
              · have h1 := h b e
                have h2 := (own_lt HO1.out b hb).2
                omega
            have hbn := HBW.out.fr hf4 (fun b hb => own_ge HO2.out b hb)
            have ho1 := hf4.own HO1.out (fun b hb e => HAP.out b hb e)
            have HBW := Lib.hid hbn
            have HO1 := Lib.hid ho1
            have HO2 := Lib.hid ho4
            have HAP := Lib.hid hap4
            clear ho4 hg4 hn4 hf4 hap4 hbn ho1
            refine hK.out _ _ ⟨HBW.out.c1, HBW.out.c2⟩ (fun hHeld => ?_)
            clear hK K
            try simp only [Act.put, zzA, zzB, zzC]
            refine wpAnyT_ready (rs := [15]) (by kernel_rfl) (by simp) ?_
            refine AllReadyT.past (o := _) rfl (by kernel_rfl) (fun K hK => ?_) (AllReadyT.nil)
            have cc := HBW.out.c1
            have ff := HBW.out.f1
            go_simp
            have hbn := HBW.out.s1 (.slice A3 (k + 1) p3)
            have ho1 := own_s (j := 8) (u := (.slice A3 (k + 1) p3)) HO1.out
            have ho2 := own_s (j := 8) (u := (.slice A3 (k + 1) p3)) HO2.out
            obtain ⟨w8, hwn⟩ : ∃ xq, w7.setCell ⟨w.heap.size + 2, 8, none⟩ (.slice A3 (k + 1) p3) = xq := ⟨_, rfl⟩
            try rw [hwn]
            rw [hwn] at hbn ho1 ho2
            have HBW := Lib.hid hbn
            have HO1 := Lib.hid ho1
            have HO2 := Lib.hid ho2
            clear hbn ho1 ho2 cc ff hwn
            refine hK.out _ _ ?_
            clear hK K
            try simp only [Act.put, zzA, zzB, zzC]
            refine wpAnyT_ready (rs := [16]) (by kernel_rfl) (by simp) ?_
            refine AllReadyT.past (o := _) rfl (by kernel_rfl) (fun K hK => ?_) (AllReadyT.nil)
            go_simp
            refine hK.out _ _ ?_
            clear hK K
            try simp only [Act.put, zzA, zzB, zzC]
            refine wpAnyT_ready (rs := [17]) (by kernel_rfl) (by simp) ?_
            refine AllReadyT.past (o := _) rfl (by kernel_rfl) (fun K hK => ?_) (AllReadyT.nil)
            have cc := HBW.out.c2
            have ff := HBW.out.f2
            go_simp
            have hbn := HBW.out.s2 (.slice A4 (k + 1) p4)
            have ho1 := own_s (j := 9) (u := (.slice A4 (k + 1) p4)) HO1.out
            have ho2 := own_s (j := 9) (u := (.slice A4 (k + 1) p4)) HO2.out
            obtain ⟨w9, hwn⟩ : ∃ xq, w8.setCell ⟨w.heap.size + 2, 9, none⟩ (.slice A4 (k + 1) p4) = xq := ⟨_, rfl⟩
            try rw [hwn]
            rw [hwn] at hbn ho1 ho2
            have HBW := Lib.hid hbn
            have HO1 := Lib.hid ho1
            have HO2 := Lib.hid ho2
            clear hbn ho1 ho2 cc ff hwn
            refine hK.out _ _ ?_
            clear hK K
            try simp only [Act.put, zzA, zzB, zzC]
            refine wpAnyT_done (by kernel_rfl) ?_ _
            go_wp2
            go_roundw
            case rel => exact ⟨k + 1, by omega, by go_num, _, _, HBW.out, by rw [ints_rng, HX.out]; exact HO1.out, by rw [ints_rng]; exact HO2.out, HAP.out⟩
            case measure => simp [intOf]; omega
        · go_simp
          have hal := (Below.refl w3.heap.size w3).alloc (Nat.le_refl _) (.cells #[.int .i64 0] 3)
          have hna := Blk.new w3 3 #[.int .i64 0]
          have hbn := HBW.out.below hal
          have ho1 := own_below HO1.out hal
          have ho2 := own_below HO2.out hal
          have hfr : ∀ b, (Value.slice A1 k p1).ownBlock = some b → b ≠ w3.heap.size := fun b hb e => by have := (own_lt HO1.out b hb).2; omega
          obtain ⟨w4, hwn⟩ : ∃ xq, w3.alloc (.cells #[.int .i64 0] 3) = xq := ⟨_, rfl⟩
          obtain ⟨gb, hgn⟩ : ∃ xq, w3.heap.size = xq := ⟨_, rfl⟩
          rw [hwn] at hna hbn ho1 ho2  ⊢
          rw [hgn] at hna hfr ⊢
          have HBW := Lib.hid hbn
          have HO1 := Lib.hid ho1
          have HO2 := Lib.hid ho2
          have HN2 := Lib.hid hna
          have HG2 := Lib.hid hfr
          clear hfr
          clear hna hbn ho1 ho2 hal hwn hgn
          refine hK.out _ _ ⟨HBW.out.c1, HBW.out.c2⟩ (fun hHeld => ?_)
          clear hK K
          try simp only [Act.put, zzA, zzB, zzC]
          refine wpAnyT_ready (rs := [8]) (by kernel_rfl) (by simp) ?_
          refine AllReadyT.cons (o := _) rfl (fun K hK => ?_) (AllReadyT.nil)
          go_simp
          have hal := (Below.refl w4.heap.size w4).alloc (Nat.le_refl _) (.cells #[.int .i64 x] 3)
          have hna := Blk.new w4 3 #[.int .i64 x]
          have hbn := HBW.out.below hal
          have ho1 := own_below HO1.out hal
          have ho2 := own_below HO2.out hal
          have hHN2 := HN2.out.below hal
          obtain ⟨w5, hwn⟩ : ∃ xq, w4.alloc (.cells #[.int .i64 x] 3) = xq := ⟨_, rfl⟩
          obtain ⟨ga, hgn⟩ : ∃ xq, w4.heap.size = xq := ⟨_, rfl⟩
          rw [hwn] at hna hbn ho1 ho2 hHN2 ⊢
          rw [hgn] at hna ⊢
          have HBW := Lib.hid hbn
          have HO1 := Lib.hid ho1
          have HO2 := Lib.hid ho2
          have HN1 := Lib.hid hna
          have HN2 := Lib.hid hHN2
          clear hHN2
          clear hna hbn ho1 ho2 hal hwn hgn
          refine hK.out _ _ ⟨HBW.out.c1, HBW.out.c2⟩ (fun hHeld => ?_)
          clear hK K
          try simp only [Act.put, zzA, zzB, zzC]
          refine wpAnyT_ready (rs := [9]) (by kernel_rfl) (by simp) ?_
          refine AllReadyT.cons (o := _) rfl (fun K hK => ?_) (AllReadyT.nil)
          refine step_appN tInts rfl (.tmp 113) (.tmp 120) rfl (w.heap.size + 3) (.slice A1 k p1) k (ints ((List.range k).map (fun i : Nat => sqI (((i % 32 : Nat) : Int) * 132 - 2047) * 1024))) rfl HO1.out ⟨ga, 0, none⟩ 1 1 [.int .i64 x] rfl rfl (fun jj u hu => by rw [addr_add, Nat.zero_add, HN1.out.cell]; simpa using hu) (by simp [Value.oneCell']) (by omega) (by unfold maxLen; omega) HBW.out.sz ?_
          intro V3 w6 ho3 hg3 hn3
          obtain ⟨A3, p3, rfl, hc3⟩ := own_slice ho3
          have hf3 : Frm (fun b => (Value.slice A1 k p1).ownBlock = some b) w5 w6 := Frm.of_grown hg3 (fun b hb => hb)
          have hap3 : ∀ b, (Value.slice A3 (k + 1) p3).ownBlock = some b → (Value.slice A2 k p2).ownBlock ≠ some b := fun b hb e => by
            rcases hn3 with h | h
            · exact HAP.out b (h ▸ hb) e
            · have h1 := h b hb
              have h2 := (own_lt HO2.out b e).2
              omega
          have hbn := HBW.out.fr hf3 (fun b hb => own_ge HO1.out b hb)
          have ho2 := hf3.own HO2.out (fun b hb e => HAP.out b e hb)
          have HN2 := Lib.hid (HN2.out.frm hf3 (fun e => HG2.out _ e rfl))
          have HBW := Lib.hid hbn
          have HO1 := Lib.hid ho3
          have HO2 := Lib.hid ho2
          have HAP := Lib.hid hap3
          clear ho3 hg3 hn3 hf3 hap3 hbn ho2
          refine hK.out _ _ ⟨HBW.out.c1, HBW.out.c2⟩ (fun hHeld => ?_)
          clear hK K
          try simp only [Act.put, zzA, zzB, zzC]
          refine tkt (i := 14) (d := 126) rfl rfl ?_
          simp only [Act.put, zzA, zzB, zzC]
          refine wpAnyT_ready (rs := [13]) (by kernel_rfl) (by simp) ?_
          refine AllReadyT.cons (o := _) rfl (fun K hK => ?_) (AllReadyT.nil)
          refine step_appN tInts rfl (.tmp 123) (.tmp 124) rfl (w.heap.size + 3) (.slice A2 k p2) k (ints ((List.range k).map (fun _ => (0 : Int)))) rfl HO2.out ⟨gb, 0, none⟩ 1 1 [.int .i64 0] rfl rfl (fun jj u hu => by rw [addr_add, Nat.zero_add, HN2.out.cell]; simpa using hu) (by simp [Value.oneCell']) (by omega) (by unfold maxLen; omega) HBW.out.sz ?_
          intro V4 w7 ho4 hg4 hn4
          obtain ⟨A4, p4, rfl, hc4⟩ := own_slice ho4
          have hf4 : Frm (fun b => (Value.slice A2 k p2).ownBlock = some b) w6 w7 := Frm.of_grown hg4 (fun b hb => hb)
          have hap4 : ∀ b, (Value.slice A3 (k + 1) p3).ownBlock = some b → (Value.slice A4 (k + 1) p4).ownBlock ≠ some b := fun b hb e => by
            rcases hn4 with h | h
            · exact HAP.out b hb (h ▸ e)
            · have h1 := h b e
              have h2 := (own_lt HO1.out b hb).2
              omega
          have hbn := HBW.out.fr hf4 (fun b hb => own_ge HO2.out b hb)
          have ho1 := hf4.own HO1.out (fun b hb e => HAP.out b hb e)
          have HBW := Lib.hid hbn
          have HO1 := Lib.hid ho1
          have HO2 := Lib.hid ho4
          have HAP := Lib.hid hap4
          clear ho4 hg4 hn4 hf4 hap4 hbn ho1
          refine hK.out _ _ ⟨HBW.out.c1, HBW.out.c2⟩ (fun hHeld => ?_)
          clear hK K
          try simp only [Act.put, zzA, zzB, zzC]
          refine wpAnyT_ready (rs := [15]) (by kernel_rfl) (by simp) ?_
          refine AllReadyT.past (o := _) rfl (by kernel_rfl) (fun K hK => ?_) (AllReadyT.nil)
          have cc := HBW.out.c1
          have ff := HBW.out.f1
          go_simp
          have hbn := HBW.out.s1 (.slice A3 (k + 1) p3)
          have ho1 := own_s (j := 8) (u := (.slice A3 (k + 1) p3)) HO1.out
          have ho2 := own_s (j := 8) (u := (.slice A3 (k + 1) p3)) HO2.out
          obtain ⟨w8, hwn⟩ : ∃ xq, w7.setCell ⟨w.heap.size + 2, 8, none⟩ (.slice A3 (k + 1) p3) = xq := ⟨_, rfl⟩
          try rw [hwn]
          rw [hwn] at hbn ho1 ho2
          have HBW := Lib.hid hbn
          have HO1 := Lib.hid ho1
          have HO2 := Lib.hid ho2
          clear hbn ho1 ho2 cc ff hwn
          refine hK.out _ _ ?_
          clear hK K
          try simp only [Act.put, zzA, zzB, zzC]
          refine wpAnyT_ready (rs := [16]) (by kernel_rfl) (by simp) ?_
          refine AllReadyT.past (o := _) rfl (by kernel_rfl) (fun K hK => ?_) (AllReadyT.nil)
          go_simp
          refine hK.out _ _ ?_
          clear hK K
          try simp only [Act.put, zzA, zzB, zzC]
          refine wpAnyT_ready (rs := [17]) (by kernel_rfl) (by simp) ?_
          refine AllReadyT.past (o := _) rfl (by kernel_rfl) (fun K hK => ?_) (AllReadyT.nil)
          have cc := HBW.out.c2
          have ff := HBW.out.f2
          go_simp
          have hbn := HBW.out.s2 (.slice A4 (k + 1) p4)
          have ho1 := own_s (j := 9) (u := (.slice A4 (k + 1) p4)) HO1.out
          have ho2 := own_s (j := 9) (u := (.slice A4 (k + 1) p4)) HO2.out
          obtain ⟨w9, hwn⟩ : ∃ xq, w8.setCell ⟨w.heap.size + 2, 9, none⟩ (.slice A4 (k + 1) p4) = xq := ⟨_, rfl⟩
          try rw [hwn]
          rw [hwn] at hbn ho1 ho2
          have HBW := Lib.hid hbn
          have HO1 := Lib.hid ho1
          have HO2 := Lib.hid ho2
          clear hbn ho1 ho2 cc ff hwn
          refine hK.out _ _ ?_
          clear hK K
          try simp only [Act.put, zzA, zzB, zzC]
          refine wpAnyT_done (by kernel_rfl) ?_ _
          go_wp2
          go_roundw
          case rel => exact ⟨k + 1, by omega, by go_num, _, _, HBW.out, by rw [ints_rng, HX.out]; exact HO1.out, by rw [ints_rng]; exact HO2.out, HAP.out⟩
          case measure => simp [intOf]; omega
      · go_simp
        have hal := (Below.refl w2.heap.size w2).alloc (Nat.le_refl _) (.cells #[.int .i64 0] 3)
        have hna := Blk.new w2 3 #[.int .i64 0]
        have hbn := HBW.out.below hal
        have ho1 := own_below HO1.out hal
        have ho2 := own_below HO2.out hal
        have hfr : ∀ b, (Value.slice A1 k p1).ownBlock = some b → b ≠ w2.heap.size := fun b hb e => by have := (own_lt HO1.out b hb).2; omega
        obtain ⟨w3, hwn⟩ : ∃ xq, w2.alloc (.cells #[.int .i64 0] 3) = xq := ⟨_, rfl⟩
        obtain ⟨gb, hgn⟩ : ∃ xq, w2.heap.size = xq := ⟨_, rfl⟩
        rw [hwn] at hna hbn ho1 ho2  ⊢
        rw [hgn] at hna hfr ⊢
        have HBW := Lib.hid hbn
        have HO1 := Lib.hid ho1
        have HO2 := Lib.hid ho2
        have HN2 := Lib.hid hna
        have HG2 := Lib.hid hfr
        clear hfr
        clear hna hbn ho1 ho2 hal hwn hgn
        refine hK.out _ _ ⟨HBW.out.c1, HBW.out.c2⟩ (fun hHeld => ?_)
        clear hK K
        try simp only [Act.put, zzA, zzB, zzC]
        refine wpAnyT_ready (rs := [6]) (by kernel_rfl) (by simp) ?_
        refine AllReadyT.cons (o := _) rfl (fun K hK => ?_) (AllReadyT.nil)
        go_simp
        refine (HSQ.out _).mono ?_
        rintro e w4 ⟨rfl, hb⟩
        have hbn := HBW.out.below hb
        have ho1 := own_below HO1.out hb
        have ho2 := own_below HO2.out hb
        have hHN2 := HN2.out.below hb
        have HBW := Lib.hid hbn
        have HO1 := Lib.hid ho1
        have HO2 := Lib.hid ho2
        have HN2 := Lib.hid hHN2
        clear hHN2
        clear hbn ho1 ho2 hb
        go_wp2_with fail
        refine hK.out _ _ ⟨HBW.out.c1, HBW.out.c2⟩ (fun hHeld => ?_)
        clear hK K
        try simp only [Act.put, zzA, zzB, zzC]
        refine tkt (i := 7) (d := 119) rfl rfl ?_
        simp only [Act.put, zzA, zzB, zzC]
        refine wpAnyT_ready (rs := [8]) (by kernel_rfl) (by simp) ?_
        refine AllReadyT.cons (o := _) rfl (fun K hK => ?_) (AllReadyT.nil)
        go_simp
        have hal := (Below.refl w4.heap.size w4).alloc (Nat.le_refl _) (.cells #[.int .i64 x] 3)
        have hna := Blk.new w4 3 #[.int .i64 x]
        have hbn := HBW.out.below hal
        have ho1 := own_below HO1.out hal
        have ho2 := own_below HO2.out hal
        have hHN2 := HN2.out.below hal
        obtain ⟨w5, hwn⟩ : ∃ xq, w4.alloc (.cells #[.int .i64 x] 3) = xq := ⟨_, rfl⟩
        obtain ⟨ga, hgn⟩ : ∃ xq, w4.heap.size = xq := ⟨_, rfl⟩
        rw [hwn] at hna hbn ho1 ho2 hHN2 ⊢
        rw [hgn] at hna ⊢
        have HBW := Lib.hid hbn
        have HO1 := Lib.hid ho1
        have HO2 := Lib.hid ho2
        have HN1 := Lib.hid hna
        have HN2 := Lib.hid hHN2
        clear hHN2
        clear hna hbn ho1 ho2 hal hwn hgn
        refine hK.out _ _ ⟨HBW.out.c1, HBW.out.c2⟩ (fun hHeld => ?_)
        clear hK K
        try simp only [Act.put, zzA, zzB, zzC]
        refine wpAnyT_ready (rs := [9]) (by kernel_rfl) (by simp) ?_
        refine AllReadyT.cons (o := _) rfl (fun K hK => ?_) (AllReadyT.nil)
        refine step_appN tInts rfl (.tmp 113) (.tmp 120) rfl (w.heap.size + 3) (.slice A1 k p1) k (ints ((List.range k).map (fun i : Nat => sqI (((i % 32 : Nat) : Int) * 132 - 2047) * 1024))) rfl HO1.out ⟨ga, 0, none⟩ 1 1 [.int .i64 x] rfl rfl (fun jj u hu => by rw [addr_add, Nat.zero_add, HN1.out.cell]; simpa using hu) (by simp [Value.oneCell']) (by omega) (by unfold maxLen; omega) HBW.out.sz ?_
        intro V3 w6 ho3 hg3 hn3
        obtain ⟨A3, p3, rfl, hc3⟩ := own_slice ho3
        have hf3 : Frm (fun b => (Value.slice A1 k p1).ownBlock = some b) w5 w6 := Frm.of_grown hg3 (fun b hb => hb)
        have hap3 : ∀ b, (Value.slice A3 (k + 1) p3).ownBlock = some b → (Value.slice A2 k p2).ownBlock ≠ some b := fun b hb e => by
          rcases hn3 with h | h
          · exact HAP.out b (h ▸ hb) e
          · have h1 := h b hb
            have h2 := (own_lt HO2.out b e).2
            omega
        have hbn := HBW.out.fr hf3 (fun b hb => own_ge HO1.out b hb)
        have ho2 := hf3.own HO2.out (fun b hb e => HAP.out b e hb)
        have HN2 := Lib.hid (HN2.out.frm hf3 (fun e => HG2.out _ e rfl))
        have HBW := Lib.hid hbn
        have HO1 := Lib.hid ho3
        have HO2 := Lib.hid ho2
        have HAP := Lib.hid hap3
        clear ho3 hg3 hn3 hf3 hap3 hbn ho2
        refine hK.out _ _ ⟨HBW.out.c1, HBW.out.c2⟩ (fun hHeld => ?_)
        clear hK K
        try simp only [Act.put, zzA, zzB, zzC]
        refine tkt (i := 14) (d := 126) rfl rfl ?_
        simp only [Act.put, zzA, zzB, zzC]
        refine wpAnyT_ready (rs := [13]) (by kernel_rfl) (by simp) ?_
        refine AllReadyT.cons (o := _) rfl (fun K hK => ?_) (AllReadyT.nil)
        refine step_appN tInts rfl (.tmp 123) (.tmp 124) rfl (w.heap.size + 3) (.slice A2 k p2) k (ints ((List.range k).map (fun _ => (0 : Int)))) rfl HO2.out ⟨gb, 0, none⟩ 1 1 [.int .i64 0] rfl rfl (fun jj u hu => by rw [addr_add, Nat.zero_add, HN2.out.cell]; simpa using hu) (by simp [Value.oneCell']) (by omega) (by unfold maxLen; omega) HBW.out.sz ?_
        intro V4 w7 ho4 hg4 hn4
        obtain ⟨A4, p4, rfl, hc4⟩ := own_slice ho4
        have hf4 : Frm (fun b => (Value.slice A2 k p2).ownBlock = some b) w6 w7 := Frm.of_grown hg4 (fun b hb => hb)
        have hap4 : ∀ b, (Value.slice A3 (k + 1) p3).ownBlock = some b → (Value.slice A4 (k + 1) p4).ownBlock ≠ some b := fun b hb e => by
          rcases hn4 with h | h
          · exact HAP.out b hb (h ▸ e)
          · have h1 := h b e
            have h2 := (own_lt HO1.out b hb).2
            omega
        have hbn := HBW.out.fr hf4 (fun b hb => own_ge HO2.out b hb)
        have ho1 := hf4.own HO1.out (fun b hb e => HAP.out b hb e)
        have HBW := Lib.hid hbn
        have HO1 := Lib.hid ho1
        have HO2 := Lib.hid ho4
        have HAP := Lib.hid hap4
        clear ho4 hg4 hn4 hf4 hap4 hbn ho1
        refine hK.out _ _ ⟨HBW.out.c1, HBW.out.c2⟩ (fun hHeld => ?_)
        clear hK K
        try simp only [Act.put, zzA, zzB, zzC]
        refine wpAnyT_ready (rs := [15]) (by kernel_rfl) (by simp) ?_
        refine AllReadyT.past (o := _) rfl (by kernel_rfl) (fun K hK => ?_) (AllReadyT.nil)
        have cc := HBW.out.c1
        have ff := HBW.out.f1
        go_simp
        have hbn := HBW.out.s1 (.slice A3 (k + 1) p3)
        have ho1 := own_s (j := 8) (u := (.slice A3 (k + 1) p3)) HO1.out
        have ho2 := own_s (j := 8) (u := (.slice A3 (k + 1) p3)) HO2.out
        obtain ⟨w8, hwn⟩ : ∃ xq, w7.setCell ⟨w.heap.size + 2, 8, none⟩ (.slice A3 (k + 1) p3) = xq := ⟨_, rfl⟩
        try rw [hwn]
        rw [hwn] at hbn ho1 ho2
        have HBW := Lib.hid hbn
        have HO1 := Lib.hid ho1
        have HO2 := Lib.hid ho2
        clear hbn ho1 ho2 cc ff hwn
        refine hK.out _ _ ?_
        clear hK K
        try simp only [Act.put, zzA, zzB, zzC]
        refine wpAnyT_ready (rs := [16]) (by kernel_rfl) (by simp) ?_
        refine AllReadyT.past (o := _) rfl (by kernel_rfl) (fun K hK => ?_) (AllReadyT.nil)
        go_simp
        refine hK.out _ _ ?_
        clear hK K
        try simp only [Act.put, zzA, zzB, zzC]
        refine wpAnyT_ready (rs := [17]) (by kernel_rfl) (by simp) ?_
        refine AllReadyT.past (o := _) rfl (by kernel_rfl) (fun K hK => ?_) (AllReadyT.nil)
        have cc := HBW.out.c2
        have ff := HBW.out.f2
        go_simp
        have hbn := HBW.out.s2 (.slice A4 (k + 1) p4)
        have ho1 := own_s (j := 9) (u := (.slice A4 (k + 1) p4)) HO1.out
        have ho2 := own_s (j := 9) (u := (.slice A4 (k + 1) p4)) HO2.out
        obtain ⟨w9, hwn⟩ : ∃ xq, w8.setCell ⟨w.heap.size + 2, 9, none⟩ (.slice A4 (k + 1) p4) = xq := ⟨_, rfl⟩
        try rw [hwn]
        rw [hwn] at hbn ho1 ho2
        have HBW := Lib.hid hbn
        have HO1 := Lib.hid ho1
        have HO2 := Lib.hid ho2
        clear hbn ho1 ho2 cc ff hwn
        refine hK.out _ _ ?_
        clear hK K
        try simp only [Act.put, zzA, zzB, zzC]
        refine wpAnyT_done (by kernel_rfl) ?_ _
        go_wp2
        go_roundw
        case rel => exact ⟨k + 1, by omega, by go_num, _, _, HBW.out, by rw [ints_rng, HX.out]; exact HO1.out, by rw [ints_rng]; exact HO2.out, HAP.out⟩
        case measure => simp [intOf]; omega
    · obtain rfl : k = M := by omega
      obtain ⟨g1, m1, hv, hm, hge, hXl, hrow⟩ := row_of_own HO1.out (by omega)
      injection hv with hA _ hcc
      subst hA hcc
      have HGE1 := Lib.hid hge
      have HROW1 := Lib.hid hrow
      clear hm hge hXl hrow
      obtain ⟨g2, m2, hv, hm, hge, hXl, hrow⟩ := row_of_own HO2.out (by omega)
      injection hv with hA _ hcc
      subst hA hcc
      have HGE2 := Lib.hid hge
      have HROW2 := Lib.hid hrow
      have HNE := Lib.hid (show g1 ≠ g2 from fun e => HAP.out g1 rfl (by rw [e]; rfl))
      clear hm hge hXl hrow
      go_upto_region 38 with fail
      obtain ⟨cs, hcs⟩ : ∃ x, bgC ⟨9, S, a, b, c, r, l⟩ (.slice (some ⟨g1, 0, none⟩) k p1) (.slice (some ⟨g2, 0, none⟩) k p2) (.slice none 0 0) (.slice none 0 0) (.slice none 0 0) (.slice none 0 0) = x := ⟨_, rfl⟩
      have HB3 := Lib.hid (show Blk wr (w.heap.size + 2) 74 cs from hcs ▸ HBW.out.b3)
      have HB2 := Lib.hid HBW.out.b2
      have HSI := Lib.hid (show (Try.prog.info? 74).map (·.size) = some cs.size from hcs ▸ bg_info ⟨9, S, a, b, c, r, l⟩ (.slice (some ⟨g1, 0, none⟩) k p1) (.slice (some ⟨g2, 0, none⟩) k p2) (.slice none 0 0) (.slice none 0 0) (.slice none 0 0) (.slice none 0 0))
      have HON := Lib.hid (show cs.all (·.oneCell') = true from hcs ▸ bg_one ⟨9, S, a, b, c, r, l⟩ (.slice (some ⟨g1, 0, none⟩) k p1) (.slice (some ⟨g2, 0, none⟩) k p2) (.slice none 0 0) (.slice none 0 0) (.slice none 0 0) (.slice none 0 0) rfl rfl rfl rfl rfl rfl)
      have HSZ := Lib.hid (show (#[.int .u8 0, .int .i64 0, .int .i64 0, .int .i64 0, .int .i64 0, .int .i64 0, .int .i64 0, .int .u32 0, .slice none 0 0, .slice none 0 0, .slice none 0 0, .slice none 0 0, .slice none 0 0, .slice none 0 0, .int .i64 0, .int .i64 0] : Array Value).size = cs.size from hcs ▸ rfl)
      have HFIN := Lib.hid (HBW.out.fin ⟨g1, g2, 0, 0, 0, 0, p1, p2, 0⟩ cs ((rc29 (.inr rfl) rfl rfl rfl _ (by rw [show evens (beginU ⟨9, S, a, b, c, r, l⟩).t = (List.range k).map (fun i : Nat => sqI (((i % 32 : Nat) : Int) * 132 - 2047) * 1024) from by rw [← HM.out, ← HN.out]; exact evens_pairs _ _]; simp) (by rw [show odds (beginU ⟨9, S, a, b, c, r, l⟩).t = (List.range k).map (fun _ => (0 : Int)) from by rw [← HM.out, ← HN.out]; exact odds_pairs _ _]; simp) (by omega)).trans hcs) (RU.mk29 (.inr rfl) (by rw [show evens (beginU ⟨9, S, a, b, c, r, l⟩).t = (List.range k).map (fun i : Nat => sqI (((i % 32 : Nat) : Int) * 132 - 2047) * 1024) from by rw [← HM.out, ← HN.out]; exact evens_pairs _ _]; exact HROW1.out) (by rw [show odds (beginU ⟨9, S, a, b, c, r, l⟩).t = (List.range k).map (fun _ => (0 : Int)) from by rw [← HM.out, ← HN.out]; exact odds_pairs _ _]; exact HROW2.out) HNE.out) (fun b hb => by rcases has29 (.inr rfl) hb with h | h; rw [h]; exact HGE1.out; rw [h]; exact HGE2.out))
      clear hcs
      go_wp2_with (first
        | (refine wpList_load_row rfl 74 (.tmp 3) rfl (w.heap.size + 2) rfl 74 cs _ _ HB3.out Try.underlying74 rfl HSI.out ?_)
        | (refine wpList_store_row rfl 74 (.tmp 2) (.tmp 128) rfl (w.heap.size + 1) cs rfl rfl 74 _ HB2.out HSI.out HSZ.out HON.out ?_))
      exact bodyPost_ret (v := .agg cs) (results_cell_row rfl _ _ (w.heap.size + 1) 74 cs _ _ rfl (blk_setRow HB2.out cs) Try.underlying74 rfl HSI.out) rfl HFIN.out
end Go.Proofs.Ytnohfeaamfjimaa
