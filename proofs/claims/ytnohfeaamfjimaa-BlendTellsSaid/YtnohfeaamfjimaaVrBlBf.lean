/- blend: what a refined guess begins with: walk. · blend: what a part begins with: one contract; such a unit is right. -/
import Derived.Test.YtnohfeaamfjimaaVrBlBc
import Derived.StillTailTactics
import Derived.IntWalk
import Derived.Test.YtnohfeaamfjimaaVrBlRp
namespace Go.Proofs.Ytnohfeaamfjimaa
open Go.RowKit Go.WideShapes
set_option linter.unusedVariables false
set_option linter.unusedSimpArgs false
theorem ub9 {S N M : Nat} {a b c r l : Int} {w : World} {g gt : Nat} (hN : 2 ^ S = N) (hM : N * 32 = M) (h : Blk w g 115 #[.int .u8 9, .int .i64 (S : Int), .int .i64 a, .int .i64 b, .int .i64 c, .int .i64 r, .int .i64 l, .int .u32 0, .slice (some ⟨gt, 0, none⟩) M M]) (ht : Blk w gt 89 (ints (pairs (fun i => (sqI (((i % 32 : Nat) : Int) * 132 - 2047) * 1024, 0)) M)).toArray) : UB w (beginU ⟨9, S, a, b, c, r, l⟩) ⟨g, g, gt⟩ := by
  subst hN
  subst hM
  have e : (beginU ⟨9, S, a, b, c, r, l⟩).t = pairs (fun i => (sqI (((i % 32 : Nat) : Int) * 132 - 2047) * 1024, 0)) (2 ^ S * 32) := by simp [beginU]
  refine ⟨?_, fun k => by simp [beginU] at k, fun _ => by rw [e]; exact ht, fun k => by simp [beginU] at k⟩
  unfold Un.cells
  rw [tail29 _ _ (.inr rfl), e, pairs_length, Nat.mul_div_cancel _ (by omega)]
  exact h
theorem zeros2 (M : Nat) : (List.replicate (M * 2) (Value.int .i64 0)).toArray = (ints (List.replicate (M * 2) 0)).toArray := by simp [ints]
set_option maxRecDepth 100000 in
set_option maxHeartbeats 4000000 in
theorem begun_9 (S N : Nat) (a b c r l : Int) (hs2 : S ≤ 16) (hN : 2 ^ S = N) (w : World) :
    Calls Try.prog 27 #[Pt.agg ⟨9, S, a, b, c, r, l⟩] w (BegE ⟨9, S, a, b, c, r, l⟩ w) := by
  unfold Pt.agg
  have hNb : N ≤ 65536 := by rw [← hN]; exact Nat.pow_le_pow_right (show 0 < 2 by omega) hs2
  have hN1 : 1 ≤ N := by rw [← hN]; exact Nat.two_pow_pos S
  have hp : wrap64 ((2 : Int) ^ S) = (N : Int) := by
    rw [show ((2 : Int) ^ S) = ((2 ^ S : Nat) : Int) by push_cast; rfl, hN]
    unfold wrap64
    omega
  have HN := Lib.hid hN
  clear hN
  go_enter Try.func27, Try.ntmps27
  go_upto_region 1 with fail
  go_region
  try simp only [hp]
  obtain ⟨w1, hw1⟩ : ∃ w1, ((w.alloc (.cells #[.int .u8 9, .int .i64 (S : Int), .int .i64 a, .int .i64 b, .int .i64 c, .int .i64 r, .int .i64 l] 25)).alloc (.cells #[.int .u8 9, .int .i64 (S : Int), .int .i64 a, .int .i64 b, .int .i64 c, .int .i64 r, .int .i64 l, .int .u32 0] 84)).drew = w1 := ⟨_, rfl⟩
  have k25 : Blk w1 w.heap.size 25 #[.int .u8 9, .int .i64 (S : Int), .int .i64 a, .int .i64 b, .int .i64 c, .int .i64 r, .int .i64 l] := hw1 ▸ ((Blk.new w _ _).alloc _).drew
  have k84 : Blk w1 (w.heap.size + 1) 84 #[.int .u8 9, .int .i64 (S : Int), .int .i64 a, .int .i64 b, .int .i64 c, .int .i64 r, .int .i64 l, .int .u32 0] := by
    have := (Blk.new (w.alloc (.cells #[.int .u8 9, .int .i64 (S : Int), .int .i64 a, .int .i64 b, .int .i64 c, .int .i64 r, .int .i64 l] 25)) 84 #[.int .u8 9, .int .i64 (S : Int), .int .i64 a, .int .i64 b, .int .i64 c, .int .i64 r, .int .i64 l, .int .u32 0]).drew
    rw [hw1] at this
    simpa using this
  have hb1 : Below w.heap.size w w1 := hw1 ▸ below_drewN (((Below.refl _ _).alloc (Nat.le_refl _) _).alloc (by simp) _) 1
  rw [hw1]
  have hsz1 : w.heap.size + 2 ≤ w1.heap.size := by have := k84.lt; omega
  have q0 : w1.cell? ⟨w.heap.size + 1, 0, none⟩ = some (.int .u8 9) := k84.cell 0
  have q1 : w1.cell? ⟨w.heap.size + 1, 1, none⟩ = some (.int .i64 (S : Int)) := k84.cell 1
  have q2 : w1.cell? ⟨w.heap.size + 1, 2, none⟩ = some (.int .i64 a) := k84.cell 2
  have q3 : w1.cell? ⟨w.heap.size + 1, 3, none⟩ = some (.int .i64 b) := k84.cell 3
  have q4 : w1.cell? ⟨w.heap.size + 1, 4, none⟩ = some (.int .i64 c) := k84.cell 4
  have q5 : w1.cell? ⟨w.heap.size + 1, 5, none⟩ = some (.int .i64 r) := k84.cell 5
  have q6 : w1.cell? ⟨w.heap.size + 1, 6, none⟩ = some (.int .i64 l) := k84.cell 6
  have q7 : w1.cell? ⟨w.heap.size + 1, 7, none⟩ = some (.int .u32 0) := k84.cell 7
  have d0 : w1.cell? ⟨w.heap.size, 0, none⟩ = some (.int .u8 9) := k25.cell 0
  have d3 : w1.cell? ⟨w.heap.size, 3, none⟩ = some (.int .i64 b) := k25.cell 3
  clear k25 k84
  have HF := Lib.hid (show ∀ W : World, Below w1.heap.size w1 W → W.cell? ⟨w.heap.size + 1, 0, none⟩ = some (.int .u8 9) ∧ W.cell? ⟨w.heap.size + 1, 1, none⟩ = some (.int .i64 (S : Int)) ∧ W.cell? ⟨w.heap.size + 1, 2, none⟩ = some (.int .i64 a) ∧ W.cell? ⟨w.heap.size + 1, 3, none⟩ = some (.int .i64 b) ∧ W.cell? ⟨w.heap.size + 1, 4, none⟩ = some (.int .i64 c) ∧ W.cell? ⟨w.heap.size + 1, 5, none⟩ = some (.int .i64 r) ∧ W.cell? ⟨w.heap.size + 1, 6, none⟩ = some (.int .i64 l) ∧ W.cell? ⟨w.heap.size + 1, 7, none⟩ = some (.int .u32 0) ∧ W.cell? ⟨w.heap.size, 0, none⟩ = some (.int .u8 9) ∧ W.cell? ⟨w.heap.size, 3, none⟩ = some (.int .i64 b) ∧ Below w1.heap.size w1 W from fun W hL => ⟨ck q0 hL, ck q1 hL, ck q2 hL, ck q3 hL, ck q4 hL, ck q5 hL, ck q6 hL, ck q7 hL, ck d0 hL, ck d3 hL, hL⟩)
  have HL := Lib.hid (show Below w1.heap.size w1 w1 from Below.refl _ _)
  have HB1 := Lib.hid hb1
  clear hw1 hb1 hp
  obtain ⟨M, hM⟩ : ∃ M, N * 32 = M := ⟨_, rfl⟩
  have hM2 : M ≤ 65536 * 32 := by omega
  have hM1 : 1 ≤ M := by omega
  have e2 : IntKind.i64.wrap ((N : Int) * 32) = (M : Int) := by
    rw [← hM]
    exact IntWalk.i64_in _ (by omega)
  have HM := Lib.hid hM
  clear hM
  go_upto_region 30 with fail
  refine wp_region_held_drew (S := (fun W : World => W.cell? ⟨w.heap.size + 1, 0, none⟩ = some (.int .u8 9) ∧ W.cell? ⟨w.heap.size + 1, 1, none⟩ = some (.int .i64 (S : Int)) ∧ W.cell? ⟨w.heap.size + 1, 2, none⟩ = some (.int .i64 a) ∧ W.cell? ⟨w.heap.size + 1, 3, none⟩ = some (.int .i64 b) ∧ W.cell? ⟨w.heap.size + 1, 4, none⟩ = some (.int .i64 c) ∧ W.cell? ⟨w.heap.size + 1, 5, none⟩ = some (.int .i64 r) ∧ W.cell? ⟨w.heap.size + 1, 6, none⟩ = some (.int .i64 l) ∧ W.cell? ⟨w.heap.size + 1, 7, none⟩ = some (.int .u32 0) ∧ W.cell? ⟨w.heap.size, 0, none⟩ = some (.int .u8 9) ∧ W.cell? ⟨w.heap.size, 3, none⟩ = some (.int .i64 b) ∧ Below w1.heap.size w1 W)) (by kernel_rfl) (HF.out _ (below_drewN (HL.out) 1)) (fun hHeld => ?_)
  have HB2 := Lib.hid (show Below w1.heap.size w1 w1.drew from below_drewN (Below.refl _ _) 1)
  obtain ⟨w2, hw2⟩ : ∃ x, w1.drew = x := ⟨_, rfl⟩
  rw [hw2] at HB2 hHeld ⊢
  clear hw2
  refine tkz (i := 0) (d := 110) rfl rfl ?_
  simp only [Act.put, zzA, zzB, zzC]
  refine tkz (i := 1) (d := 111) rfl rfl ?_
  simp only [Act.put, zzA, zzB, zzC]
  refine tkz (i := 2) (d := 112) rfl rfl ?_
  simp only [Act.put, zzA, zzB, zzC]
  refine rdz (i := 3) rfl (fun K hK => ?_)
  refine step_make tSlows (.int .i64 0) (by intro i hi; simp [Value.cells] at hi; (rcases i with _ | _ | i) <;> first | rfl | omega) rfl (.tmp 112) (.tmp 112) rfl (M) rfl rfl (by omega) (by omega) ?_
  have hb := (Below.refl w2.heap.size w2).alloc (Nat.le_refl _) (.cells (List.replicate (M * 2) (.int .i64 0)).toArray 89)
  have HNgt := Lib.hid (Blk.new w2 89 (List.replicate (M * 2) (.int .i64 0)).toArray)
  have HGgt := Lib.hid (show w2.heap.size ≤ w2.heap.size from Nat.le_refl _)
  have HBEgt := Lib.hid (hHeld.2.2.2.2.2.2.2.2.2.2)
  obtain ⟨w3, hwn⟩ : ∃ xq, w2.alloc (.cells (List.replicate (M * 2) (.int .i64 0)).toArray 89) = xq := ⟨_, rfl⟩
  obtain ⟨gt, hgn⟩ : ∃ xq, w2.heap.size = xq := ⟨_, rfl⟩
  rw [hwn] at hb HNgt ⊢
  have hGE : w1.heap.size ≤ gt := by have := HBEgt.out.size; omega
  rw [hgn] at HNgt ⊢
  clear hwn hgn HGgt HBEgt
  refine hK.out _ _ (HF.out _ (bl_step (hHeld.2.2.2.2.2.2.2.2.2.2) hb)) (fun hHeld => ?_)
  clear hK K
  try simp only [Act.put, zzA, zzB, zzC]
  refine tkz (i := 4) (d := 114) rfl rfl ?_
  simp only [Act.put, zzA, zzB, zzC]
  refine rdz (i := 5) rfl (fun K hK => ?_)
  go_simp
  have hb := (Below.refl w3.heap.size w3).alloc (Nat.le_refl _) (.cells #[.int .u8 9, .int .i64 (S : Int), .int .i64 a, .int .i64 b, .int .i64 c, .int .i64 r, .int .i64 l, .int .u32 0, .slice (some ⟨gt, 0, none⟩) M M] 115)
  have HNg6 := Lib.hid (Blk.new w3 115 #[.int .u8 9, .int .i64 (S : Int), .int .i64 a, .int .i64 b, .int .i64 c, .int .i64 r, .int .i64 l, .int .u32 0, .slice (some ⟨gt, 0, none⟩) M M])
  have HGg6 := Lib.hid (show w3.heap.size ≤ w3.heap.size from Nat.le_refl _)
  have HBEg6 := Lib.hid (hHeld.2.2.2.2.2.2.2.2.2.2)
  obtain ⟨w4, hwn⟩ : ∃ xq, w3.alloc (.cells #[.int .u8 9, .int .i64 (S : Int), .int .i64 a, .int .i64 b, .int .i64 c, .int .i64 r, .int .i64 l, .int .u32 0, .slice (some ⟨gt, 0, none⟩) M M] 115) = xq := ⟨_, rfl⟩
  obtain ⟨g6, hgn⟩ : ∃ xq, w3.heap.size = xq := ⟨_, rfl⟩
  rw [hwn] at hb HNg6 ⊢
  have hGE : w1.heap.size ≤ g6 := by have := HBEg6.out.size; omega
  rw [hgn] at HNg6 ⊢
  clear hwn hgn HGg6 HBEg6
  have HT4 := Lib.hid (HNgt.out.below hb)
  refine hK.out _ _ (HF.out _ (bl_step (hHeld.2.2.2.2.2.2.2.2.2.2) hb)) (fun hHeld => ?_)
  clear hK K
  try simp only [Act.put, zzA, zzB, zzC]
  refine tkz (i := 6) (d := 9) rfl rfl ?_
  simp only [Act.put, zzA, zzB, zzC]
  refine wpAnyH_done (by kernel_rfl) ?_ _
  have HT0 := Lib.hid (show Blk w4 gt 89 (ints (List.replicate (M * 2) 0)).toArray from by have := HT4.out; rw [zeros2] at this; exact this)
  have HL4 := Lib.hid (hHeld.2.2.2.2.2.2.2.2.2.2)
  have HNE := Lib.hid (HNg6.out.ne HT4.out (by decide))
  have hs8 : w4.cell? ⟨g6, 8, none⟩ = some (.slice (some ⟨gt, 0, none⟩) M M) := HNg6.out.cell 8
  clear hHeld hb HNgt HF
  go_wp2_with fail
  go_loopw [121] (fun v wr => ∃ k : Nat, k ≤ M ∧ v = .int .i64 k ∧ Blk wr gt 89 (ints (pairs (fun i => (sqI (((i % 32 : Nat) : Int) * 132 - 2047) * 1024, 0)) k ++ List.replicate ((M - k) * 2) 0)).toArray ∧ Frm (fun b => b = gt) w4 wr) (fun v _ => M - (intOf v).toNat)
  case atStart => exact ⟨0, by omega, rfl, HT0.out, Frm.refl _ _⟩
  case round =>
    obtain ⟨k, hk, rfl, hg, hf⟩ := hrel
    have HG := Lib.hid hg
    have HFR := Lib.hid hf
    clear hg hf hs8
    by_cases hlt : k < M
    · have hki : (k : Int) < M := by omega
      obtain ⟨r, hr⟩ : ∃ r : Nat, k % 32 = r := ⟨_, rfl⟩
      have hr31 : (r : Int) ≤ 31 := by omega
      have hrm : (k : Int).tmod 32 = (r : Int) := by rw [← hr]; exact tmod_nat k 32
      have hsq := sq_bd ((r : Int) * 132 - 2047)
      have HSQ := Lib.hid (fun W => squash_any ((r : Int) * 132 - 2047) W)
      obtain ⟨q, hq⟩ : ∃ q, sqI ((r : Int) * 132 - 2047) = q := ⟨_, rfl⟩
      rw [hq] at hsq HSQ
      have HQ := Lib.hid (show ((fun i => (sqI (((i % 32 : Nat) : Int) * 132 - 2047) * 1024, 0)) k).1 = q * 1024 from by simp only; rw [hr, hq])
      have e3 : IntKind.i64.wrap ((r : Int) * 132) = (r : Int) * 132 := IntWalk.i64_in _ (by omega)
      have e4 : IntKind.i64.wrap ((r : Int) * 132 - 2047) = (r : Int) * 132 - 2047 := IntWalk.i64_in _ (by omega)
      have e5 : IntKind.i64.wrap (q * 1024) = q * 1024 := IntWalk.i64_in _ (by omega)
      clear hr hq
      go_upto_region 34 with fail
      refine wp_region_held_drew (S := (fun W : World => W.cell? ⟨g6, 8, none⟩ = some (.slice (some ⟨gt, 0, none⟩) M M))) (by kernel_rfl) ((HNg6.out.frm HFR.out HNE.out).cell 8) (fun hHeld => ?_)
      have HT2 := Lib.hid (show Blk wr.drew gt 89 (ints (pairs (fun i => (sqI (((i % 32 : Nat) : Int) * 132 - 2047) * 1024, 0)) k ++ List.replicate ((M - k) * 2) 0)).toArray from HG.out)
      have HFR2 := Lib.hid (HFR.out.drew)
      obtain ⟨w5, hw5⟩ : ∃ x, wr.drew = x := ⟨_, rfl⟩
      rw [hw5] at HT2 HFR2 hHeld ⊢
      clear hw5
      have s8 : w5.cell? ⟨g6, 8, none⟩ = some (.slice (some ⟨gt, 0, none⟩) M M) := (HNg6.out.frm HFR2.out HNE.out).cell 8
      have sc : w5.cell? ⟨gt, k * 2, none⟩ = some (.int .i64 0) := (HT2.out.cell _).trans (ints_at (fill_at2 _ M k hlt))
      have _hHS : (fun W : World => W.cell? ⟨g6, 8, none⟩ = some (.slice (some ⟨gt, 0, none⟩) M M)) w5 := s8
      refine tkz (i := 0) (d := 124) rfl rfl ?_
      simp only [Act.put, zzA, zzB, zzC]
      refine tkz (i := 1) (d := 125) rfl rfl ?_
      simp only [Act.put, zzA, zzB, zzC]
      refine tkz (i := 2) (d := 126) rfl rfl ?_
      simp only [Act.put, zzA, zzB, zzC]
      refine tkz (i := 3) (d := 127) rfl rfl ?_
      simp only [Act.put, zzA, zzB, zzC]
      refine tkz (i := 4) (d := 128) rfl rfl ?_
      simp only [Act.put, zzA, zzB, zzC]
      refine tkz (i := 5) (d := 129) rfl rfl ?_
      simp only [Act.put, zzA, zzB, zzC]
      refine tkz (i := 6) (d := 130) rfl rfl ?_
      simp only [Act.put, zzA, zzB, zzC]
      refine tkz (i := 7) (d := 131) rfl rfl ?_
      simp only [Act.put, zzA, zzB, zzC]
      refine tkz (i := 8) (d := 132) rfl rfl ?_
      simp only [Act.put, zzA, zzB, zzC]
      refine rdz (i := 9) rfl (fun K hK => ?_)
      go_simp
      refine (HSQ.out _).mono ?_
      rintro e w6 ⟨rfl, hb⟩
      have HT6 := Lib.hid (HT2.out.below hb)
      have HFR6 := Lib.hid (HFR2.out.below hb)
      have sc6 := ck sc hb
      have sz6 : w6.frozen? ⟨gt, k * 2, none⟩ = false := HT6.out.frozen _
      go_wp2_with fail
      refine hK.out _ _ (ck hHeld hb) (fun hHeld => ?_)
      clear hK K
      try simp only [Act.put, zzA, zzB, zzC]
      refine tkz (i := 10) (d := 134) rfl rfl ?_
      simp only [Act.put, zzA, zzB, zzC]
      refine tkz (i := 11) (d := 135) rfl rfl ?_
      simp only [Act.put, zzA, zzB, zzC]
      refine tkz (i := 12) (d := 136) rfl rfl ?_
      simp only [Act.put, zzA, zzB, zzC]
      refine rdz (i := 13) rfl (fun K hK => ?_)
      go_simp
      refine hK.out _ _ ((World.cell?_setCell_far _ _ _ _ (fun h => HNE.out h.symm)).trans hHeld) (fun hHeld => ?_)
      clear hK K
      try simp only [Act.put, zzA, zzB, zzC]
      refine wpAnyH_done (by kernel_rfl) ?_ _
      have hgn := HT6.out.set (k * 2) (.int .i64 (q * 1024))
      rw [ints_set, ← HQ.out, fill_step2 (fun i => (sqI (((i % 32 : Nat) : Int) * 132 - 2047) * 1024, 0)) M k hlt rfl] at hgn
      have HGN := Lib.hid hgn
      clear hgn sc sc6 sz6 e3 e4 e5
      go_wp2
      go_roundw
      case rel => exact ⟨k + 1, by omega, by go_num, by rw [← HQ.out]; exact HGN.out, HFR6.out.setCell (p := ⟨gt, k * 2, none⟩) (fun _ => rfl) _⟩
      case measure => simp [intOf]; omega
    · obtain rfl : k = M := by omega
      have hg := HG.out
      rw [Nat.sub_self] at hg
      simp only [Nat.zero_mul, List.replicate_zero, List.append_nil] at hg
      have HG5 := Lib.hid hg
      clear hg
      go_wp2
      go_ret
      have h6 := HNg6.out.frm HFR.out HNE.out
      refine BegE.mk ⟨g6, g6, gt⟩ (T := 114) rfl rfl ((bl_step HB1.out HL4.out).trans (HFR.out.to_below (by have := (bl_step HB1.out HL4.out).size; omega) (fun b hb => by subst hb; omega))) (ub9 HN.out HM.out h6 HG5.out) (fun b hb => ?_)
      have k1 := HG5.out.lt
      have k2 := h6.lt
      rcases hb with hb | hb | hb <;> (simp only at hb; subst hb) <;> omega
end Go.Proofs.Ytnohfeaamfjimaa
namespace Go.Proofs.Ytnohfeaamfjimaa
open Go.RowKit Go.WideShapes
set_option linter.unusedVariables false
set_option linter.unusedSimpArgs false
structure OneF (p : Pt) (i : Int) : Prop where
  k : 1 ≤ p.k ∧ p.k ≤ 9
  s : 0 ≤ p.s ∧ p.s ≤ 16
  c1 : p.k = 1 → -2047 ≤ p.c ∧ p.c ≤ 2047
  a : 5 ≤ p.k → 0 ≤ p.a ∧ p.a ≤ i - 1
  b : p.k = 5 ∨ p.k = 6 → 0 ≤ p.b ∧ p.b ≤ i - 1
  b7 : p.k = 7 → 1 ≤ p.b ∧ p.b ≤ 8 ∧ p.a + p.b ≤ i
  c5 : p.k = 5 → 0 ≤ p.c ∧ p.c ≤ 256
  r : p.k = 6 ∨ p.k = 7 → 1 ≤ p.r ∧ p.r ≤ 64
  l : p.k = 2 ∨ p.k = 9 → 1 ≤ p.l ∧ p.l ≤ 1023
theorem one_facts {p : Pt} {i : Int} (h : oneP p i = true) : OneF p i := by
  obtain ⟨k, s, a, b, c, r, l⟩ := p
  rcases kind_cases k with rfl | rfl | rfl | rfl | rfl | rfl | rfl | rfl | rfl | hk
  all_goals
    simp [oneP, rowK, okK, inB] at h
  all_goals first
    | (constructor <;> simp only <;> omega)
    | (split at h <;> (constructor <;> simp only <;> omega))
    | omega
theorem begun_any {p : Pt} {i : Int} (h : oneP p i = true) (w : World) : Calls Try.prog 27 #[p.agg] w (BegE p w) := by
  obtain ⟨hk, hs, _, _, _, hb7, _⟩ := one_facts h
  obtain ⟨k, s, a, b, c, r, l⟩ := p
  simp only at hk hs hb7
  obtain ⟨S, rfl⟩ : ∃ S : Nat, s = (S : Int) := ⟨s.toNat, by omega⟩
  have hs2 : S ≤ 16 := by omega
  rcases kind9 hk with rfl | rfl | rfl | rfl | rfl | rfl | rfl | rfl | rfl
  · exact begun_1 S _ a b c r l hs2 rfl w
  · exact begun_2 S _ a b c r l hs2 rfl w
  · exact begun_3 S _ a b c r l hs2 rfl w
  · exact begun_4 S _ a b c r l hs2 rfl w
  · exact begun_5 S _ a b c r l hs2 rfl w
  · exact begun_6 S _ a b c r l hs2 rfl w
  · obtain ⟨b1, b2, _⟩ := hb7 rfl
    obtain ⟨m, rfl⟩ : ∃ m : Nat, b = (m : Int) := ⟨b.toNat, by omega⟩
    exact begun_7 S _ m _ a c r l _ hs2 rfl (by omega) (by omega) rfl rfl w
  · exact begun_8 S _ a b c r l hs2 rfl w
  · exact begun_9 S _ a b c r l hs2 rfl w
theorem pairs_at (f : Nat → Int × Int) : ∀ n j, j < n → (pairs f n)[j * 2]? = some (f j).1 ∧ (pairs f n)[j * 2 + 1]? = some (f j).2
  | 0, j, h => by omega
  | n + 1, j, h => by
    unfold pairs
    by_cases hj : j < n
    · rw [List.getElem?_append_left (by rw [pairs_length]; omega), List.getElem?_append_left (by rw [pairs_length]; omega)]
      exact pairs_at f n j hj
    · obtain rfl : j = n := by omega
      rw [List.getElem?_append_right (by rw [pairs_length]; omega), List.getElem?_append_right (by rw [pairs_length]; omega), pairs_length, Nat.sub_self, show j * 2 + 1 - j * 2 = 1 by omega]
      exact ⟨rfl, rfl⟩
theorem pairs_slow (f : Nat → Int × Int) (n : Nat) (h : ∀ j, 0 ≤ (f j).1 ∧ (f j).1 ≤ 4194303 ∧ (f j).2 = 0) : SlowOk (pairs f n) := fun j hj => by
  rw [pairs_length] at hj
  obtain ⟨e1, e2⟩ := pairs_at f n j (by omega)
  rw [List.getD_eq_getElem?_getD, e1, List.getD_eq_getElem?_getD, e2]
  obtain ⟨h1, h2, h3⟩ := h j
  simp only [Option.getD_some, h3]
  omega
theorem pairs_mem (f : Nat → Int × Int) : ∀ n x, x ∈ pairs f n → ∃ j, x = (f j).1 ∨ x = (f j).2
  | 0, x, h => by simp [pairs] at h
  | n + 1, x, h => by
    unfold pairs at h
    rcases List.mem_append.1 h with h | h
    · exact pairs_mem f n x h
    · simp at h
      exact ⟨n, h⟩
theorem chance_all : ∀ i : Fin 256, 0 ≤ chanceI (i.val : Int) ∧ chanceI (i.val : Int) ≤ 65535 := by decide +kernel
theorem beginU_ok {p : Pt} {i : Nat} (h : oneP p (i : Int) = true) : (beginU p).Ok i 0 := by
  obtain ⟨hk, hs, hc1, ha, hb, hb7, hc5, hr, hl⟩ := one_facts h
  have hsz : (beginU p).sz = p.s.toNat := rfl
  refine ⟨hk, ⟨Int.le_refl 0, by show (0 : Int) ≤ _; omega⟩, ⟨?_, ?_⟩, hc1, ?_, ?_, ?_, hc5, hr, hl, ?_, ?_, ?_, ?_, ?_, ?_, ?_, ?_, ?_⟩
  · rw [hsz]; show p.s = _; omega
  · rw [hsz]; omega
  · intro k
    have := ha k
    show p.a = (p.a.toNat : Int) ∧ p.a.toNat < i
    omega
  · intro k
    have := hb k
    show p.b = (p.b.toNat : Int) ∧ p.b.toNat < i
    omega
  · intro k
    replace k : p.k = 7 := k
    have h7 := hb7 k
    have h5 := ha (by omega)
    show p.b = (p.b.toNat : Int) ∧ 1 ≤ p.b.toNat ∧ p.b.toNat ≤ 8 ∧ p.a.toNat + p.b.toNat ≤ i
    omega
  · intro k
    replace k : p.k = 2 := k
    have e : (beginU p).t = pairs (fun _ => (2097152, 0)) (2 ^ p.s.toNat) := if_pos k
    rw [e, hsz]
    exact ⟨pairs_length _ _, pairs_slow _ _ (fun j => by simp)⟩
  · intro k
    replace k : p.k = 9 := k
    have e : (beginU p).t = pairs (fun i => (sqI (((i % 32 : Nat) : Int) * 132 - 2047) * 1024, 0)) (2 ^ p.s.toNat * 32) := by simp [beginU, k]
    rw [e, hsz]
    refine ⟨pairs_length _ _, pairs_slow _ _ (fun j => ?_)⟩
    have := sq_bd (((j % 32 : Nat) : Int) * 132 - 2047)
    show 0 ≤ sqI (((j % 32 : Nat) : Int) * 132 - 2047) * 1024 ∧ sqI (((j % 32 : Nat) : Int) * 132 - 2047) * 1024 ≤ 4194303 ∧ (0 : Int) = 0
    obtain ⟨q, hq⟩ : ∃ q, sqI (((j % 32 : Nat) : Int) * 132 - 2047) = q := ⟨_, rfl⟩
    rw [hq] at this ⊢
    omega
  · intro k
    replace k : p.k = 4 := k
    have e : (beginU p).t = List.replicate (2 ^ p.s.toNat) 0 := by simp [beginU, k]
    rw [e, hsz]
    exact ⟨List.length_replicate, fun q hq => by rw [List.eq_of_mem_replicate hq]; omega⟩
  · intro k
    replace k : p.k = 6 := k
    have e : (beginU p).t = List.replicate (2 ^ p.s.toNat) 32768 := by simp [beginU, k]
    rw [e, hsz]
    exact ⟨List.length_replicate, fun q hq => by rw [List.eq_of_mem_replicate hq]; omega⟩
  · intro k
    replace k : p.k = 7 := k
    have e : (beginU p).t = List.replicate (2 ^ p.s.toNat * p.b.toNat) (65536 / p.b) := by simp [beginU, k]
    rw [e, hsz]
    have h7 := hb7 k
    refine ⟨List.length_replicate, fun q hq => ?_⟩
    rw [List.eq_of_mem_replicate hq]
    have h1 := Int.ediv_nonneg (a := 65536) (b := p.b) (by omega) (by omega)
    have h2 := Int.ediv_le_self (a := 65536) p.b (by omega)
    omega
  · intro k
    replace k : p.k = 3 ∨ p.k = 4 ∨ p.k = 8 := k
    have e : (beginU p).b = List.replicate (2 ^ p.s.toNat) 0 := if_pos k
    rw [e, hsz]
    exact ⟨List.length_replicate, fun q hq => by rw [List.eq_of_mem_replicate hq]; omega⟩
  · intro k
    replace k : p.k = 3 := k
    have e : (beginU p).x = (List.range 256).map (fun i : Nat => chanceI (i : Int)) := if_pos k
    rw [e]
    refine ⟨by simp, fun q hq => ?_⟩
    obtain ⟨j, hj, rfl⟩ := List.mem_map.1 hq
    exact chance_all ⟨j, List.mem_range.1 hj⟩
  · intro k
    replace k : p.k = 8 := k
    have e : (beginU p).x = pairs (fun _ => (65536, 0)) 256 := by simp [beginU, k]
    rw [e]
    refine ⟨pairs_length _ _, fun q hq => ?_⟩
    obtain ⟨j, h1 | h1⟩ := pairs_mem _ _ _ hq <;> (rw [h1]; simp only; omega)
  · intro k
    show 0 < _ ∧ 0 ≤ 32
    exact ⟨Nat.two_pow_pos _, by omega⟩
end Go.Proofs.Ytnohfeaamfjimaa
