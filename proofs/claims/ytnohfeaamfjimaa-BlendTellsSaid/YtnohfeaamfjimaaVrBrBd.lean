/- The reference: how a match begins: walk. -/
import Derived.Test.YtnohfeaamfjimaaVrBrBb
import Derived.Test.YtnohfeaamfjimaaVrBlBc
import Derived.StillTailTactics
import Derived.IntWalk
namespace Go.Proofs.Ytnohfeaamfjimaa
open Go.RowKit Go.WideShapes
set_option linter.unusedVariables false
set_option linter.unusedSimpArgs false
theorem Row.of_blk {w : World} {g : Nat} {t : TypeId} {xs : List Value} (h : Blk w g t xs.toArray) : Row w g t xs := ⟨[], by rw [List.append_nil]; exact h⟩
theorem rc4 {u : Un} (hk : u.p.k = 4) (h0 : u.h = 0) (hp : u.ptr = 0) (hl : u.len = 0) (l : RL) {M : Nat} (hM : u.t.length = M) (hB : u.b.length = M) (h1 : 0 < M) : (u.rc l).toArray = bgC u.p (.slice none 0 0) (.slice none 0 0) (.slice none 0 0) (.slice none 0 0) (.slice (some ⟨l.g5, 0, none⟩) M M) (.slice (some ⟨l.g6, 0, none⟩) M M) := by
  unfold Un.rc
  rw [no_ch (by omega) (by omega) (by omega), no_ct (by omega) (by omega), no_ss (by omega) (by omega), no_wt (by omega) (by omega) (by omega), nm4 hk, rg4 hk, h0, hp, hl, hM, hB, sV_pos h1, sV_pos h1]
  rfl
theorem has4 {u : Un} (hk : u.p.k = 4) {l : RL} {b : Nat} (h : l.has u b) : b = l.g5 ∨ b = l.g6 := by
  rcases h with ⟨k, _⟩ | ⟨k, _⟩ | ⟨k, _⟩ | ⟨k, _⟩ | ⟨_, h⟩ | ⟨_, h⟩
  · exact absurd (no_ch (by omega) (by omega) (by omega)) k
  · exact absurd (no_ct (by omega) (by omega)) k
  · exact absurd (no_ss (by omega) (by omega)) k
  · exact absurd (no_wt (by omega) (by omega) (by omega)) k
  · exact .inl h
  · exact .inr h
set_option maxRecDepth 100000 in
set_option maxHeartbeats 4000000 in
theorem begR_4 (S N : Nat) (a b c r l : Int) (hs2 : S ≤ 16) (hN : 2 ^ S = N) (w : World) :
    Calls Try.prog 34 #[Pt.agg ⟨4, S, a, b, c, r, l⟩] w (BegR ⟨4, S, a, b, c, r, l⟩ w) := by
  unfold Pt.agg
  have hNb : N ≤ 65536 := by rw [← hN]; exact Nat.pow_le_pow_right (show 0 < 2 by omega) hs2
  have hN1 : 1 ≤ N := by rw [← hN]; exact Nat.two_pow_pos S
  have HN := Lib.hid hN
  have HPW := Lib.hid (show ∀ W, Calls Try.prog 52 #[.int .i64 (S : Int)] W (Sam (.int .i64 (N : Int)) W) from fun W => hN ▸ powerR S W (by omega))
  have SI := Lib.hid (bg_info ⟨4, S, a, b, c, r, l⟩ (.slice none 0 0) (.slice none 0 0) (.slice none 0 0) (.slice none 0 0) (.slice none 0 0) (.slice none 0 0))
  have ONE := Lib.hid (bg_one ⟨4, S, a, b, c, r, l⟩ (.slice none 0 0) (.slice none 0 0) (.slice none 0 0) (.slice none 0 0) (.slice none 0 0) (.slice none 0 0) rfl rfl rfl rfl rfl rfl)
  unfold bgC at SI ONE
  clear hN
  go_enter Try.func34, Try.ntmps34
  go_upto_region 2 with (refine wpList_store_row rfl 74 (.tmp 3) (.tmp 12) rfl _ #[.int .u8 4, .int .i64 (S : Int), .int .i64 a, .int .i64 b, .int .i64 c, .int .i64 r, .int .i64 l, .int .u32 0, .slice none 0 0, .slice none 0 0, .slice none 0 0, .slice none 0 0, .slice none 0 0, .slice none 0 0, .int .i64 0, .int .i64 0] rfl rfl 74 _ (heap_alloc_new _ _) SI.out rfl ONE.out ?_; rw [World.setRow_alloc_new]; simp only [Act.put, zzA, zzB, zzC])
  obtain ⟨w1, hw1⟩ : ∃ x, ((w.alloc (.cells #[.int .u8 4, .int .i64 (S : Int), .int .i64 a, .int .i64 b, .int .i64 c, .int .i64 r, .int .i64 l] 25)).alloc (.cells #[.int .u8 0, .int .i64 0, .int .i64 0, .int .i64 0, .int .i64 0, .int .i64 0, .int .i64 0, .int .u32 0, .slice none 0 0, .slice none 0 0, .slice none 0 0, .slice none 0 0, .slice none 0 0, .slice none 0 0, .int .i64 0, .int .i64 0] 74)).alloc (.cells #[.int .u8 4, .int .i64 (S : Int), .int .i64 a, .int .i64 b, .int .i64 c, .int .i64 r, .int .i64 l, .int .u32 0, .slice none 0 0, .slice none 0 0, .slice none 0 0, .slice none 0 0, .slice none 0 0, .slice none 0 0, .int .i64 0, .int .i64 0] 74) = x := ⟨_, rfl⟩
  have hbw : BgW ⟨4, S, a, b, c, r, l⟩ w w1 (.slice none 0 0) (.slice none 0 0) (.slice none 0 0) (.slice none 0 0) (.slice none 0 0) (.slice none 0 0) := by
    rw [← hw1]
    exact BgW.start ⟨4, S, a, b, c, r, l⟩ w
  try rw [hw1]
  try rw [show w.heap.size + 1 + 1 = w.heap.size + 2 from rfl]
  have HBW := Lib.hid hbw
  have d0 : w1.cell? ⟨w.heap.size, 0, none⟩ = some (.int .u8 4) := hbw.b1.cell 0
  have d1 : w1.cell? ⟨w.heap.size, 1, none⟩ = some (.int .i64 (S : Int)) := hbw.b1.cell 1
  have d3 : w1.cell? ⟨w.heap.size, 3, none⟩ = some (.int .i64 b) := hbw.b1.cell 3
  clear hw1 hbw SI ONE
  go_wp2_with fail
  refine (HPW.out _).mono ?_
  rintro e w2 ⟨rfl, hs1⟩
  rw [hs1]
  clear hs1 w2
  go_upto_region 16 with fail
  refine wp_region_held_drew (S := (fun _ : World => True)) (by kernel_rfl) trivial (fun hHeld => ?_)
  have hbw2 := HBW.out.below (below_drewN (Below.refl w1.heap.size w1) 1)
  obtain ⟨w2, hw2⟩ : ∃ x, w1.drewN 1 = x := ⟨_, rfl⟩
  have hw2' : w1.drew = w2 := hw2
  rw [hw2] at hbw2
  rw [hw2']
  have HBW := Lib.hid hbw2
  clear hw2 hw2' hbw2 d0 d1 d3
  refine tkz (i := 0) (d := 54) rfl rfl ?_
  simp only [Act.put, zzA, zzB, zzC]
  refine tkz (i := 2) (d := 56) rfl rfl ?_
  simp only [Act.put, zzA, zzB, zzC]
  refine wpAnyH_ready (rs := [1, 3]) (by kernel_rfl) (by simp) ?_
  refine AllReadyH.cons (o := _) rfl (fun K hK => ?_) (AllReadyH.cons (o := _) rfl (fun K hK => ?_) AllReadyH.nil)
  · refine step_make tOctS (.int .u8 0) (by intro i hi; simp [Value.cells] at hi; subst hi; rfl) rfl (.tmp 54) (.tmp 54) rfl N rfl rfl (by omega) (by omega) ?_
    have hal := (Below.refl w2.heap.size w2).alloc (Nat.le_refl _) (.cells (List.replicate (N * 1) (.int .u8 0)).toArray 5)
    have hna := Blk.new w2 5 (List.replicate (N * 1) (.int .u8 0)).toArray
    have hbn := HBW.out.below hal
    have hge := HBW.out.sz
    obtain ⟨w3, hwn⟩ : ∃ xq, w2.alloc (.cells (List.replicate (N * 1) (.int .u8 0)).toArray 5) = xq := ⟨_, rfl⟩
    obtain ⟨gs, hgn⟩ : ∃ xq, w2.heap.size = xq := ⟨_, rfl⟩
    rw [hwn] at hna hbn ⊢
    rw [hgn] at hna hge ⊢
    have HBW := Lib.hid hbn
    have HS := Lib.hid hna
    have HGS := Lib.hid hge
    clear hna hbn hge hal hwn hgn
    refine hK.out _ _ trivial (fun hHeld => ?_)
    clear hK K
    try simp only [Act.put, zzA, zzB, zzC]
    refine tkz (i := 4) (d := 58) rfl rfl ?_
    simp only [Act.put, zzA, zzB, zzC]
    refine wpAnyH_ready (rs := [3, 5]) (by kernel_rfl) (by simp) ?_
    refine AllReadyH.cons (o := _) rfl (fun K hK => ?_) (AllReadyH.cons (o := _) rfl (fun K hK => ?_) AllReadyH.nil)
    · refine step_make tInts (.int .i64 0) (by intro i hi; simp [Value.cells] at hi; subst hi; rfl) rfl (.tmp 56) (.tmp 56) rfl N rfl rfl (by omega) (by omega) ?_
      have hal := (Below.refl w3.heap.size w3).alloc (Nat.le_refl _) (.cells (List.replicate (N * 1) (.int .i64 0)).toArray 3)
      have hna := Blk.new w3 3 (List.replicate (N * 1) (.int .i64 0)).toArray
      have hbn := HBW.out.below hal
      have hge := HBW.out.sz
      have hob := HS.out.below hal
      obtain ⟨w4, hwn⟩ : ∃ xq, w3.alloc (.cells (List.replicate (N * 1) (.int .i64 0)).toArray 3) = xq := ⟨_, rfl⟩
      obtain ⟨gt, hgn⟩ : ∃ xq, w3.heap.size = xq := ⟨_, rfl⟩
      rw [hwn] at hna hbn hob ⊢
      rw [hgn] at hna hge ⊢
      have HBW := Lib.hid hbn
      have HT := Lib.hid hna
      have HGT := Lib.hid hge
      have HS := Lib.hid hob
      clear hob
      clear hna hbn hge hal hwn hgn
      refine hK.out _ _ trivial (fun hHeld => ?_)
      clear hK K
      try simp only [Act.put, zzA, zzB, zzC]
      refine rdz (i := 5) rfl (fun K hK => ?_)
      have cc := HBW.out.c6
      have ff := HBW.out.f6
      go_simp
      have hbn := HBW.out.s6 (.slice (some ⟨gs, 0, none⟩) N N)
      have hHS := HS.out.far (p := ⟨w.heap.size + 2, 13, none⟩) (by have := HGS.out; show _ ≠ w.heap.size + 2; omega) (.slice (some ⟨gs, 0, none⟩) N N)
      have hHT := HT.out.far (p := ⟨w.heap.size + 2, 13, none⟩) (by have := HGT.out; show _ ≠ w.heap.size + 2; omega) (.slice (some ⟨gs, 0, none⟩) N N)
      obtain ⟨w5, hwn⟩ : ∃ xq, w4.setCell ⟨w.heap.size + 2, 13, none⟩ (.slice (some ⟨gs, 0, none⟩) N N) = xq := ⟨_, rfl⟩
      try rw [hwn]
      rw [hwn] at hbn hHS hHT
      have HBW := Lib.hid hbn
      have HS := Lib.hid hHS
      clear hHS
      have HT := Lib.hid hHT
      clear hHT
      clear hbn cc ff hwn
      refine hK.out _ _ trivial (fun hHeld => ?_)
      clear hK K
      try simp only [Act.put, zzA, zzB, zzC]
      refine tkz (i := 6) (d := 59) rfl rfl ?_
      simp only [Act.put, zzA, zzB, zzC]
      refine rdz (i := 7) rfl (fun K hK => ?_)
      have cc := HBW.out.c5
      have ff := HBW.out.f5
      go_simp
      have hbn := HBW.out.s5 (.slice (some ⟨gt, 0, none⟩) N N)
      have hHS := HS.out.far (p := ⟨w.heap.size + 2, 12, none⟩) (by have := HGS.out; show _ ≠ w.heap.size + 2; omega) (.slice (some ⟨gt, 0, none⟩) N N)
      have hHT := HT.out.far (p := ⟨w.heap.size + 2, 12, none⟩) (by have := HGT.out; show _ ≠ w.heap.size + 2; omega) (.slice (some ⟨gt, 0, none⟩) N N)
      obtain ⟨w6, hwn⟩ : ∃ xq, w5.setCell ⟨w.heap.size + 2, 12, none⟩ (.slice (some ⟨gt, 0, none⟩) N N) = xq := ⟨_, rfl⟩
      try rw [hwn]
      rw [hwn] at hbn hHS hHT
      have HBW := Lib.hid hbn
      have HS := Lib.hid hHS
      clear hHS
      have HT := Lib.hid hHT
      clear hHT
      clear hbn cc ff hwn
      refine hK.out _ _ trivial (fun hHeld => ?_)
      clear hK K
      try simp only [Act.put, zzA, zzB, zzC]
      refine wpAnyH_done (by kernel_rfl) ?_ _
      go_upto_region 38 with fail
      obtain ⟨cs, hcs⟩ : ∃ x, bgC ⟨4, S, a, b, c, r, l⟩ (.slice none 0 0) (.slice none 0 0) (.slice none 0 0) (.slice none 0 0) (.slice (some ⟨gt, 0, none⟩) N N) (.slice (some ⟨gs, 0, none⟩) N N) = x := ⟨_, rfl⟩
      have HB3 := Lib.hid (show Blk w6 (w.heap.size + 2) 74 cs from hcs ▸ HBW.out.b3)
      have HB2 := Lib.hid HBW.out.b2
      have HSI := Lib.hid (show (Try.prog.info? 74).map (·.size) = some cs.size from hcs ▸ bg_info ⟨4, S, a, b, c, r, l⟩ (.slice none 0 0) (.slice none 0 0) (.slice none 0 0) (.slice none 0 0) (.slice (some ⟨gt, 0, none⟩) N N) (.slice (some ⟨gs, 0, none⟩) N N))
      have HON := Lib.hid (show cs.all (·.oneCell') = true from hcs ▸ bg_one ⟨4, S, a, b, c, r, l⟩ (.slice none 0 0) (.slice none 0 0) (.slice none 0 0) (.slice none 0 0) (.slice (some ⟨gt, 0, none⟩) N N) (.slice (some ⟨gs, 0, none⟩) N N) rfl rfl rfl rfl rfl rfl)
      have HSZ := Lib.hid (show (#[.int .u8 0, .int .i64 0, .int .i64 0, .int .i64 0, .int .i64 0, .int .i64 0, .int .i64 0, .int .u32 0, .slice none 0 0, .slice none 0 0, .slice none 0 0, .slice none 0 0, .slice none 0 0, .slice none 0 0, .int .i64 0, .int .i64 0] : Array Value).size = cs.size from hcs ▸ rfl)
      have HFIN := Lib.hid (HBW.out.fin ⟨0, 0, 0, 0, gt, gs, 0, 0, 0⟩ cs ((rc4 rfl rfl rfl rfl _ (by rw [show (beginU ⟨4, S, a, b, c, r, l⟩).t = List.replicate N 0 from by rw [← HN.out]; simp [beginU]]; simp) (by rw [show (beginU ⟨4, S, a, b, c, r, l⟩).b = List.replicate N 0 from by rw [← HN.out]; simp [beginU]]; simp) (by omega)).trans hcs) (RU.mk4 rfl (by rw [show (beginU ⟨4, S, a, b, c, r, l⟩).t = List.replicate N 0 from by rw [← HN.out]; simp [beginU]]; exact Row.of_blk (by rw [← ints_zero]; simpa using HT.out)) (by rw [show (beginU ⟨4, S, a, b, c, r, l⟩).b = List.replicate N 0 from by rw [← HN.out]; simp [beginU]]; exact Row.of_blk (by rw [← octs_zero]; exact HS.out))) (fun b hb => by rcases has4 rfl hb with h | h; rw [h]; exact HGT.out; rw [h]; exact HGS.out))
      clear hcs
      go_wp2_with (first
        | (refine wpList_load_row rfl 74 (.tmp 3) rfl (w.heap.size + 2) rfl 74 cs _ _ HB3.out Try.underlying74 rfl HSI.out ?_)
        | (refine wpList_store_row rfl 74 (.tmp 2) (.tmp 128) rfl (w.heap.size + 1) cs rfl rfl 74 _ HB2.out HSI.out HSZ.out HON.out ?_))
      exact bodyPost_ret (v := .agg cs) (results_cell_row rfl _ _ (w.heap.size + 1) 74 cs _ _ rfl (blk_setRow HB2.out cs) Try.underlying74 rfl HSI.out) rfl HFIN.out
    · have cc := HBW.out.c6
      have ff := HBW.out.f6
      go_simp
      have hbn := HBW.out.s6 (.slice (some ⟨gs, 0, none⟩) N N)
      have hHS := HS.out.far (p := ⟨w.heap.size + 2, 13, none⟩) (by have := HGS.out; show _ ≠ w.heap.size + 2; omega) (.slice (some ⟨gs, 0, none⟩) N N)
      obtain ⟨w4, hwn⟩ : ∃ xq, w3.setCell ⟨w.heap.size + 2, 13, none⟩ (.slice (some ⟨gs, 0, none⟩) N N) = xq := ⟨_, rfl⟩
      try rw [hwn]
      rw [hwn] at hbn hHS
      have HBW := Lib.hid hbn
      have HS := Lib.hid hHS
      clear hHS
      clear hbn cc ff hwn
      refine hK.out _ _ trivial (fun hHeld => ?_)
      clear hK K
      try simp only [Act.put, zzA, zzB, zzC]
      refine rdz (i := 3) rfl (fun K hK => ?_)
      refine step_make tInts (.int .i64 0) (by intro i hi; simp [Value.cells] at hi; subst hi; rfl) rfl (.tmp 56) (.tmp 56) rfl N rfl rfl (by omega) (by omega) ?_
      have hal := (Below.refl w4.heap.size w4).alloc (Nat.le_refl _) (.cells (List.replicate (N * 1) (.int .i64 0)).toArray 3)
      have hna := Blk.new w4 3 (List.replicate (N * 1) (.int .i64 0)).toArray
      have hbn := HBW.out.below hal
      have hge := HBW.out.sz
      have hob := HS.out.below hal
      obtain ⟨w5, hwn⟩ : ∃ xq, w4.alloc (.cells (List.replicate (N * 1) (.int .i64 0)).toArray 3) = xq := ⟨_, rfl⟩
      obtain ⟨gt, hgn⟩ : ∃ xq, w4.heap.size = xq := ⟨_, rfl⟩
      rw [hwn] at hna hbn hob ⊢
      rw [hgn] at hna hge ⊢
      have HBW := Lib.hid hbn
      have HT := Lib.hid hna
      have HGT := Lib.hid hge
      have HS := Lib.hid hob
      clear hob
      clear hna hbn hge hal hwn hgn
      refine hK.out _ _ trivial (fun hHeld => ?_)
      clear hK K
      try simp only [Act.put, zzA, zzB, zzC]
      refine tkz (i := 6) (d := 59) rfl rfl ?_
      simp only [Act.put, zzA, zzB, zzC]
      refine rdz (i := 7) rfl (fun K hK => ?_)
      have cc := HBW.out.c5
      have ff := HBW.out.f5
      go_simp
      have hbn := HBW.out.s5 (.slice (some ⟨gt, 0, none⟩) N N)
      have hHS := HS.out.far (p := ⟨w.heap.size + 2, 12, none⟩) (by have := HGS.out; show _ ≠ w.heap.size + 2; omega) (.slice (some ⟨gt, 0, none⟩) N N)
      have hHT := HT.out.far (p := ⟨w.heap.size + 2, 12, none⟩) (by have := HGT.out; show _ ≠ w.heap.size + 2; omega) (.slice (some ⟨gt, 0, none⟩) N N)
      obtain ⟨w6, hwn⟩ : ∃ xq, w5.setCell ⟨w.heap.size + 2, 12, none⟩ (.slice (some ⟨gt, 0, none⟩) N N) = xq := ⟨_, rfl⟩
      try rw [hwn]
      rw [hwn] at hbn hHS hHT
      have HBW := Lib.hid hbn
      have HS := Lib.hid hHS
      clear hHS
      have HT := Lib.hid hHT
      clear hHT
      clear hbn cc ff hwn
      refine hK.out _ _ trivial (fun hHeld => ?_)
      clear hK K
      try simp only [Act.put, zzA, zzB, zzC]
      refine wpAnyH_done (by kernel_rfl) ?_ _
      go_upto_region 38 with fail
      obtain ⟨cs, hcs⟩ : ∃ x, bgC ⟨4, S, a, b, c, r, l⟩ (.slice none 0 0) (.slice none 0 0) (.slice none 0 0) (.slice none 0 0) (.slice (some ⟨gt, 0, none⟩) N N) (.slice (some ⟨gs, 0, none⟩) N N) = x := ⟨_, rfl⟩
      have HB3 := Lib.hid (show Blk w6 (w.heap.size + 2) 74 cs from hcs ▸ HBW.out.b3)
      have HB2 := Lib.hid HBW.out.b2
      have HSI := Lib.hid (show (Try.prog.info? 74).map (·.size) = some cs.size from hcs ▸ bg_info ⟨4, S, a, b, c, r, l⟩ (.slice none 0 0) (.slice none 0 0) (.slice none 0 0) (.slice none 0 0) (.slice (some ⟨gt, 0, none⟩) N N) (.slice (some ⟨gs, 0, none⟩) N N))
      have HON := Lib.hid (show cs.all (·.oneCell') = true from hcs ▸ bg_one ⟨4, S, a, b, c, r, l⟩ (.slice none 0 0) (.slice none 0 0) (.slice none 0 0) (.slice none 0 0) (.slice (some ⟨gt, 0, none⟩) N N) (.slice (some ⟨gs, 0, none⟩) N N) rfl rfl rfl rfl rfl rfl)
      have HSZ := Lib.hid (show (#[.int .u8 0, .int .i64 0, .int .i64 0, .int .i64 0, .int .i64 0, .int .i64 0, .int .i64 0, .int .u32 0, .slice none 0 0, .slice none 0 0, .slice none 0 0, .slice none 0 0, .slice none 0 0, .slice none 0 0, .int .i64 0, .int .i64 0] : Array Value).size = cs.size from hcs ▸ rfl)
      have HFIN := Lib.hid (HBW.out.fin ⟨0, 0, 0, 0, gt, gs, 0, 0, 0⟩ cs ((rc4 rfl rfl rfl rfl _ (by rw [show (beginU ⟨4, S, a, b, c, r, l⟩).t = List.replicate N 0 from by rw [← HN.out]; simp [beginU]]; simp) (by rw [show (beginU ⟨4, S, a, b, c, r, l⟩).b = List.replicate N 0 from by rw [← HN.out]; simp [beginU]]; simp) (by omega)).trans hcs) (RU.mk4 rfl (by rw [show (beginU ⟨4, S, a, b, c, r, l⟩).t = List.replicate N 0 from by rw [← HN.out]; simp [beginU]]; exact Row.of_blk (by rw [← ints_zero]; simpa using HT.out)) (by rw [show (beginU ⟨4, S, a, b, c, r, l⟩).b = List.replicate N 0 from by rw [← HN.out]; simp [beginU]]; exact Row.of_blk (by rw [← octs_zero]; exact HS.out))) (fun b hb => by rcases has4 rfl hb with h | h; rw [h]; exact HGT.out; rw [h]; exact HGS.out))
      clear hcs
      go_wp2_with (first
        | (refine wpList_load_row rfl 74 (.tmp 3) rfl (w.heap.size + 2) rfl 74 cs _ _ HB3.out Try.underlying74 rfl HSI.out ?_)
        | (refine wpList_store_row rfl 74 (.tmp 2) (.tmp 128) rfl (w.heap.size + 1) cs rfl rfl 74 _ HB2.out HSI.out HSZ.out HON.out ?_))
      exact bodyPost_ret (v := .agg cs) (results_cell_row rfl _ _ (w.heap.size + 1) 74 cs _ _ rfl (blk_setRow HB2.out cs) Try.underlying74 rfl HSI.out) rfl HFIN.out
  · refine step_make tInts (.int .i64 0) (by intro i hi; simp [Value.cells] at hi; subst hi; rfl) rfl (.tmp 56) (.tmp 56) rfl N rfl rfl (by omega) (by omega) ?_
    have hal := (Below.refl w2.heap.size w2).alloc (Nat.le_refl _) (.cells (List.replicate (N * 1) (.int .i64 0)).toArray 3)
    have hna := Blk.new w2 3 (List.replicate (N * 1) (.int .i64 0)).toArray
    have hbn := HBW.out.below hal
    have hge := HBW.out.sz
    obtain ⟨w3, hwn⟩ : ∃ xq, w2.alloc (.cells (List.replicate (N * 1) (.int .i64 0)).toArray 3) = xq := ⟨_, rfl⟩
    obtain ⟨gt, hgn⟩ : ∃ xq, w2.heap.size = xq := ⟨_, rfl⟩
    rw [hwn] at hna hbn ⊢
    rw [hgn] at hna hge ⊢
    have HBW := Lib.hid hbn
    have HT := Lib.hid hna
    have HGT := Lib.hid hge
    clear hna hbn hge hal hwn hgn
    refine hK.out _ _ trivial (fun hHeld => ?_)
    clear hK K
    try simp only [Act.put, zzA, zzB, zzC]
    refine rdz (i := 1) rfl (fun K hK => ?_)
    refine step_make tOctS (.int .u8 0) (by intro i hi; simp [Value.cells] at hi; subst hi; rfl) rfl (.tmp 54) (.tmp 54) rfl N rfl rfl (by omega) (by omega) ?_
    have hal := (Below.refl w3.heap.size w3).alloc (Nat.le_refl _) (.cells (List.replicate (N * 1) (.int .u8 0)).toArray 5)
    have hna := Blk.new w3 5 (List.replicate (N * 1) (.int .u8 0)).toArray
    have hbn := HBW.out.below hal
    have hge := HBW.out.sz
    have hob := HT.out.below hal
    obtain ⟨w4, hwn⟩ : ∃ xq, w3.alloc (.cells (List.replicate (N * 1) (.int .u8 0)).toArray 5) = xq := ⟨_, rfl⟩
    obtain ⟨gs, hgn⟩ : ∃ xq, w3.heap.size = xq := ⟨_, rfl⟩
    rw [hwn] at hna hbn hob ⊢
    rw [hgn] at hna hge ⊢
    have HBW := Lib.hid hbn
    have HS := Lib.hid hna
    have HGS := Lib.hid hge
    have HT := Lib.hid hob
    clear hob
    clear hna hbn hge hal hwn hgn
    refine hK.out _ _ trivial (fun hHeld => ?_)
    clear hK K
    try simp only [Act.put, zzA, zzB, zzC]
    refine tkz (i := 4) (d := 58) rfl rfl ?_
    simp only [Act.put, zzA, zzB, zzC]
    refine rdz (i := 5) rfl (fun K hK => ?_)
    have cc := HBW.out.c6
    have ff := HBW.out.f6
    go_simp
    have hbn := HBW.out.s6 (.slice (some ⟨gs, 0, none⟩) N N)
    have hHS := HS.out.far (p := ⟨w.heap.size + 2, 13, none⟩) (by have := HGS.out; show _ ≠ w.heap.size + 2; omega) (.slice (some ⟨gs, 0, none⟩) N N)
    have hHT := HT.out.far (p := ⟨w.heap.size + 2, 13, none⟩) (by have := HGT.out; show _ ≠ w.heap.size + 2; omega) (.slice (some ⟨gs, 0, none⟩) N N)
    obtain ⟨w5, hwn⟩ : ∃ xq, w4.setCell ⟨w.heap.size + 2, 13, none⟩ (.slice (some ⟨gs, 0, none⟩) N N) = xq := ⟨_, rfl⟩
    try rw [hwn]
    rw [hwn] at hbn hHS hHT
    have HBW := Lib.hid hbn
    have HS := Lib.hid hHS
    clear hHS
    have HT := Lib.hid hHT
    clear hHT
    clear hbn cc ff hwn
    refine hK.out _ _ trivial (fun hHeld => ?_)
    clear hK K
    try simp only [Act.put, zzA, zzB, zzC]
    refine tkz (i := 6) (d := 59) rfl rfl ?_
    simp only [Act.put, zzA, zzB, zzC]
    refine rdz (i := 7) rfl (fun K hK => ?_)
    have cc := HBW.out.c5
    have ff := HBW.out.f5
    go_simp
    have hbn := HBW.out.s5 (.slice (some ⟨gt, 0, none⟩) N N)
    have hHS := HS.out.far (p := ⟨w.heap.size + 2, 12, none⟩) (by have := HGS.out; show _ ≠ w.heap.size + 2; omega) (.slice (some ⟨gt, 0, none⟩) N N)
    have hHT := HT.out.far (p := ⟨w.heap.size + 2, 12, none⟩) (by have := HGT.out; show _ ≠ w.heap.size + 2; omega) (.slice (some ⟨gt, 0, none⟩) N N)
    obtain ⟨w6, hwn⟩ : ∃ xq, w5.setCell ⟨w.heap.size + 2, 12, none⟩ (.slice (some ⟨gt, 0, none⟩) N N) = xq := ⟨_, rfl⟩
    try rw [hwn]
    rw [hwn] at hbn hHS hHT
    have HBW := Lib.hid hbn
    have HS := Lib.hid hHS
    clear hHS
    have HT := Lib.hid hHT
    clear hHT
    clear hbn cc ff hwn
    refine hK.out _ _ trivial (fun hHeld => ?_)
    clear hK K
    try simp only [Act.put, zzA, zzB, zzC]
    refine wpAnyH_done (by kernel_rfl) ?_ _
    go_upto_region 38 with fail
    obtain ⟨cs, hcs⟩ : ∃ x, bgC ⟨4, S, a, b, c, r, l⟩ (.slice none 0 0) (.slice none 0 0) (.slice none 0 0) (.slice none 0 0) (.slice (some ⟨gt, 0, none⟩) N N) (.slice (some ⟨gs, 0, none⟩) N N) = x := ⟨_, rfl⟩
    have HB3 := Lib.hid (show Blk w6 (w.heap.size + 2) 74 cs from hcs ▸ HBW.out.b3)
    have HB2 := Lib.hid HBW.out.b2
    have HSI := Lib.hid (show (Try.prog.info? 74).map (·.size) = some cs.size from hcs ▸ bg_info ⟨4, S, a, b, c, r, l⟩ (.slice none 0 0) (.slice none 0 0) (.slice none 0 0) (.slice none 0 0) (.slice (some ⟨gt, 0, none⟩) N N) (.slice (some ⟨gs, 0, none⟩) N N))
    have HON := Lib.hid (show cs.all (·.oneCell') = true from hcs ▸ bg_one ⟨4, S, a, b, c, r, l⟩ (.slice none 0 0) (.slice none 0 0) (.slice none 0 0) (.slice none 0 0) (.slice (some ⟨gt, 0, none⟩) N N) (.slice (some ⟨gs, 0, none⟩) N N) rfl rfl rfl rfl rfl rfl)
    have HSZ := Lib.hid (show (#[.int .u8 0, .int .i64 0, .int .i64 0, .int .i64 0, .int .i64 0, .int .i64 0, .int .i64 0, .int .u32 0, .slice none 0 0, .slice none 0 0, .slice none 0 0, .slice none 0 0, .slice none 0 0, .slice none 0 0, .int .i64 0, .int .i64 0] : Array Value).size = cs.size from hcs ▸ rfl)
    have HFIN := Lib.hid (HBW.out.fin ⟨0, 0, 0, 0, gt, gs, 0, 0, 0⟩ cs ((rc4 rfl rfl rfl rfl _ (by rw [show (beginU ⟨4, S, a, b, c, r, l⟩).t = List.replicate N 0 from by rw [← HN.out]; simp [beginU]]; simp) (by rw [show (beginU ⟨4, S, a, b, c, r, l⟩).b = List.replicate N 0 from by rw [← HN.out]; simp [beginU]]; simp) (by omega)).trans hcs) (RU.mk4 rfl (by rw [show (beginU ⟨4, S, a, b, c, r, l⟩).t = List.replicate N 0 from by rw [← HN.out]; simp [beginU]]; exact Row.of_blk (by rw [← ints_zero]; simpa using HT.out)) (by rw [show (beginU ⟨4, S, a, b, c, r, l⟩).b = List.replicate N 0 from by rw [← HN.out]; simp [beginU]]; exact Row.of_blk (by rw [← octs_zero]; exact HS.out))) (fun b hb => by rcases has4 rfl hb with h | h; rw [h]; exact HGT.out; rw [h]; exact HGS.out))
    clear hcs
    go_wp2_with (first
      | (refine wpList_load_row rfl 74 (.tmp 3) rfl (w.heap.size + 2) rfl 74 cs _ _ HB3.out Try.underlying74 rfl HSI.out ?_)
      | (refine wpList_store_row rfl 74 (.tmp 2) (.tmp 128) rfl (w.heap.size + 1) cs rfl rfl 74 _ HB2.out HSI.out HSZ.out HON.out ?_))
    exact bodyPost_ret (v := .agg cs) (results_cell_row rfl _ _ (w.heap.size + 1) 74 cs _ _ rfl (blk_setRow HB2.out cs) Try.underlying74 rfl HSI.out) rfl HFIN.out
end Go.Proofs.Ytnohfeaamfjimaa
