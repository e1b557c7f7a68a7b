/- The reference: how a unit with one row of one number begins: walks. · The reference: how a history and a chain begin: walks. -/
import Derived.Test.YtnohfeaamfjimaaVrBrBa
import Derived.StillTailTactics
import Derived.IntWalk
namespace Go.Proofs.Ytnohfeaamfjimaa
open Go.RowKit Go.WideShapes
set_option linter.unusedVariables false
set_option linter.unusedSimpArgs false
theorem rc67 {u : Un} (hk : u.p.k = 6 ∨ u.p.k = 7) (h0 : u.h = 0) (hp : u.ptr = 0) (hl : u.len = 0) (l : RL) {M : Nat} (hM : u.t.length = M) (h1 : 0 < M) : (u.rc l).toArray = bgC u.p (.slice none 0 0) (.slice none 0 0) (.slice none 0 0) (.slice (some ⟨l.g4, 0, none⟩) M l.c4) (.slice none 0 0) (.slice none 0 0) := by
  unfold Un.rc
  rw [no_ch (by omega) (by omega) (by omega), no_ct (by omega) (by omega), no_ss (by omega) (by omega), wt67 hk, no_nm (by omega), no_rg (by omega), h0, hp, hl, hM, sV_pos h1]
  rfl
theorem has67 {u : Un} (hk : u.p.k = 6 ∨ u.p.k = 7) {l : RL} {b : Nat} (h : l.has u b) : b = l.g4 := by
  rcases h with ⟨k, _⟩ | ⟨k, _⟩ | ⟨k, _⟩ | ⟨_, h⟩ | ⟨k, _⟩ | ⟨k, _⟩
  · exact absurd (no_ch (by omega) (by omega) (by omega)) k
  · exact absurd (no_ct (by omega) (by omega)) k
  · exact absurd (no_ss (by omega) (by omega)) k
  · exact h
  · exact absurd (no_nm (by omega)) k
  · exact absurd (no_rg (by omega)) k
set_option maxRecDepth 100000 in
set_option maxHeartbeats 4000000 in
theorem begR_6 (S N : Nat) (a b c r l : Int) (hs2 : S ≤ 16) (hN : 2 ^ S = N) (w : World) :
    Calls Try.prog 34 #[Pt.agg ⟨6, S, a, b, c, r, l⟩] w (BegR ⟨6, S, a, b, c, r, l⟩ w) := by
  unfold Pt.agg
  have hNb : N ≤ 65536 := by rw [← hN]; exact Nat.pow_le_pow_right (show 0 < 2 by omega) hs2
  have hN1 : 1 ≤ N := by rw [← hN]; exact Nat.two_pow_pos S
  have HN := Lib.hid hN
  have HPW := Lib.hid (show ∀ W, Calls Try.prog 52 #[.int .i64 (S : Int)] W (Sam (.int .i64 (N : Int)) W) from fun W => hN ▸ powerR S W (by omega))
  have SI := Lib.hid (bg_info ⟨6, S, a, b, c, r, l⟩ (.slice none 0 0) (.slice none 0 0) (.slice none 0 0) (.slice none 0 0) (.slice none 0 0) (.slice none 0 0))
  have ONE := Lib.hid (bg_one ⟨6, S, a, b, c, r, l⟩ (.slice none 0 0) (.slice none 0 0) (.slice none 0 0) (.slice none 0 0) (.slice none 0 0) (.slice none 0 0) rfl rfl rfl rfl rfl rfl)
  unfold bgC at SI ONE
  clear hN
  go_enter Try.func34, Try.ntmps34
  go_upto_region 2 with (refine wpList_store_row rfl 74 (.tmp 3) (.tmp 12) rfl _ #[.int .u8 6, .int .i64 (S : Int), .int .i64 a, .int .i64 b, .int .i64 c, .int .i64 r, .int .i64 l, .int .u32 0, .slice none 0 0, .slice none 0 0, .slice none 0 0, .slice none 0 0, .slice none 0 0, .slice none 0 0, .int .i64 0, .int .i64 0] rfl rfl 74 _ (heap_alloc_new _ _) SI.out rfl ONE.out ?_; rw [World.setRow_alloc_new]; simp only [Act.put, zzA, zzB, zzC])
  obtain ⟨w1, hw1⟩ : ∃ x, ((w.alloc (.cells #[.int .u8 6, .int .i64 (S : Int), .int .i64 a, .int .i64 b, .int .i64 c, .int .i64 r, .int .i64 l] 25)).alloc (.cells #[.int .u8 0, .int .i64 0, .int .i64 0, .int .i64 0, .int .i64 0, .int .i64 0, .int .i64 0, .int .u32 0, .slice none 0 0, .slice none 0 0, .slice none 0 0, .slice none 0 0, .slice none 0 0, .slice none 0 0, .int .i64 0, .int .i64 0] 74)).alloc (.cells #[.int .u8 6, .int .i64 (S : Int), .int .i64 a, .int .i64 b, .int .i64 c, .int .i64 r, .int .i64 l, .int .u32 0, .slice none 0 0, .slice none 0 0, .slice none 0 0, .slice none 0 0, .slice none 0 0, .slice none 0 0, .int .i64 0, .int .i64 0] 74) = x := ⟨_, rfl⟩
  have hbw : BgW ⟨6, S, a, b, c, r, l⟩ w w1 (.slice none 0 0) (.slice none 0 0) (.slice none 0 0) (.slice none 0 0) (.slice none 0 0) (.slice none 0 0) := by
    rw [← hw1]
    exact BgW.start ⟨6, S, a, b, c, r, l⟩ w
  try rw [hw1]
  try rw [show w.heap.size + 1 + 1 = w.heap.size + 2 from rfl]
  have HBW := Lib.hid hbw
  have d0 : w1.cell? ⟨w.heap.size, 0, none⟩ = some (.int .u8 6) := hbw.b1.cell 0
  have d1 : w1.cell? ⟨w.heap.size, 1, none⟩ = some (.int .i64 (S : Int)) := hbw.b1.cell 1
  have d3 : w1.cell? ⟨w.heap.size, 3, none⟩ = some (.int .i64 b) := hbw.b1.cell 3
  clear hw1 hbw SI ONE
  go_wp2_with fail
  refine (HPW.out _).mono ?_
  rintro e w2 ⟨rfl, hs1⟩
  rw [hs1]
  clear hs1 w2
  go_upto_region 18 with fail
  go_wp2_with fail
  go_loopw [7] (fun v wr => ∃ k : Nat, k ≤ N ∧ v = .int .i64 k ∧ ∃ V, BgW ⟨6, S, a, b, c, r, l⟩ w wr (.slice none 0 0) (.slice none 0 0) (.slice none 0 0) V (.slice none 0 0) (.slice none 0 0) ∧ wr.ownsRow (w.heap.size + 3) 3 1 V k (ints ((List.range k).map (fun _ => (32768 : Int))))) (fun v _ => N - (intOf v).toNat)
  case atStart => exact ⟨0, by omega, rfl, _, HBW.out, rfl, .inl ⟨rfl, rfl⟩⟩
  case round =>
    obtain ⟨k, hk, rfl, V, hbw, hown⟩ := hrel
    obtain ⟨A, cp, rfl, hcp⟩ := own_slice hown
    clear HBW d0 d1 d3
    have HBW := Lib.hid hbw
    have HO := Lib.hid hown
    have HBS := Lib.hid hbw.sz
    have cc := hbw.c4
    clear hbw hown
    by_cases hlt : k < N
    · have hki : (k : Int) < N := by omega
      go_wp2_with (at_builtin; refine wpList_app1 tI1 rfl (.tmp 68) (.tmp 69) rfl (w.heap.size + 3) _ k _ rfl HO.out (.int .i64 32768) (by rfl) _ rfl rfl (by omega) (by unfold maxLen; omega) HBS.out ?_; intro v3 w3 o3 _ hb3; obtain ⟨A3, q3, rfl, hq3⟩ := own_slice o3; have HBW3 := Lib.hid (HBW.out.kp hb3); have c3 := HBW3.out.c4; have f3 := HBW3.out.f4)
      go_roundw
      case rel => exact ⟨k + 1, by omega, by go_num, _, HBW3.out.s4 _, own_s (by rw [ints_rng]; exact o3)⟩
      case measure => simp [intOf]; omega
    · obtain rfl : k = N := by omega
      obtain ⟨g4, m4, hv, hm, hge, hXl, hrow⟩ := row_of_own HO.out (by omega)
      injection hv with hA _ hcc
      subst hA hcc
      have HGE := Lib.hid hge
      have HROW := Lib.hid hrow
      clear hm hge hXl hrow
      clear cc
      go_upto_region 38 with fail
      obtain ⟨cs, hcs⟩ : ∃ x, bgC ⟨6, S, a, b, c, r, l⟩ (.slice none 0 0) (.slice none 0 0) (.slice none 0 0) (.slice (some ⟨g4, 0, none⟩) k cp) (.slice none 0 0) (.slice none 0 0) = x := ⟨_, rfl⟩
      have HB3 := Lib.hid (show Blk wr (w.heap.size + 2) 74 cs from hcs ▸ HBW.out.b3)
      have HB2 := Lib.hid HBW.out.b2
      have HSI := Lib.hid (show (Try.prog.info? 74).map (·.size) = some cs.size from hcs ▸ bg_info ⟨6, S, a, b, c, r, l⟩ (.slice none 0 0) (.slice none 0 0) (.slice none 0 0) (.slice (some ⟨g4, 0, none⟩) k cp) (.slice none 0 0) (.slice none 0 0))
      have HON := Lib.hid (show cs.all (·.oneCell') = true from hcs ▸ bg_one ⟨6, S, a, b, c, r, l⟩ (.slice none 0 0) (.slice none 0 0) (.slice none 0 0) (.slice (some ⟨g4, 0, none⟩) k cp) (.slice none 0 0) (.slice none 0 0) rfl rfl rfl rfl rfl rfl)
      have HSZ := Lib.hid (show (#[.int .u8 0, .int .i64 0, .int .i64 0, .int .i64 0, .int .i64 0, .int .i64 0, .int .i64 0, .int .u32 0, .slice none 0 0, .slice none 0 0, .slice none 0 0, .slice none 0 0, .slice none 0 0, .slice none 0 0, .int .i64 0, .int .i64 0] : Array Value).size = cs.size from hcs ▸ rfl)
      have HFIN := Lib.hid (HBW.out.fin ⟨0, 0, 0, g4, 0, 0, 0, 0, cp⟩ cs ((rc67 (.inl rfl) rfl rfl rfl _ (by rw [show (beginU ⟨6, S, a, b, c, r, l⟩).t = (List.range k).map (fun _ => (32768 : Int)) from by rw [rng_const, ← HN.out]; simp [beginU]]; simp) (by omega)).trans hcs) (RU.mk67 (.inl rfl) (by rw [show (beginU ⟨6, S, a, b, c, r, l⟩).t = (List.range k).map (fun _ => (32768 : Int)) from by rw [rng_const, ← HN.out]; simp [beginU]]; exact HROW.out)) (fun b hb => by rw [has67 (.inl rfl) hb]; exact HGE.out))
      clear hcs
      go_wp2_with (first
        | (refine wpList_load_row rfl 74 (.tmp 3) rfl (w.heap.size + 2) rfl 74 cs _ _ HB3.out Try.underlying74 rfl HSI.out ?_)
        | (refine wpList_store_row rfl 74 (.tmp 2) (.tmp 128) rfl (w.heap.size + 1) cs rfl rfl 74 _ HB2.out HSI.out HSZ.out HON.out ?_))
      exact bodyPost_ret (v := .agg cs) (results_cell_row rfl _ _ (w.heap.size + 1) 74 cs _ _ rfl (blk_setRow HB2.out cs) Try.underlying74 rfl HSI.out) rfl HFIN.out
set_option maxRecDepth 100000 in
set_option maxHeartbeats 4000000 in
theorem begR_7 (S N m M : Nat) (a c r l x : Int) (hs2 : S ≤ 16) (hN : 2 ^ S = N) (m1 : 1 ≤ m) (m2 : m ≤ 8) (hM : N * m = M) (hx : 65536 / (m : Int) = x) (w : World) :
    Calls Try.prog 34 #[Pt.agg ⟨7, S, a, m, c, r, l⟩] w (BegR ⟨7, S, a, m, c, r, l⟩ w) := by
  have hM1 : 1 ≤ M := by rw [← hM]; exact Nat.mul_pos (by rw [← hN]; exact Nat.two_pow_pos S) m1
  have hM2 : M ≤ 65536 * 8 := by rw [← hM, ← hN]; exact Nat.mul_le_mul (Nat.pow_le_pow_right (show 0 < 2 by omega) hs2) m2
  have hq : (65536 : Int).tdiv (m : Int) = x := by rw [← hx, Int.tdiv_eq_ediv_of_nonneg (by omega)]
  have hx2 : 0 ≤ x ∧ x ≤ 65536 := by
    rw [← hx]
    exact ⟨Int.ediv_nonneg (by omega) (by omega), Int.ediv_le_self _ (by omega)⟩
  have e1 : IntKind.i64.wrap x = x := IntWalk.i64_in _ (by omega)
  have e2 : IntKind.i64.wrap ((N : Int) * (m : Int)) = (M : Int) := by
    rw [← Int.natCast_mul, hM]
    exact IntWalk.i64_in _ (by omega)
  have hm0 : ¬ m = 0 := by omega
  have HX := Lib.hid hx
  have HM := Lib.hid hM
  clear hx hM
  unfold Pt.agg
  have hNb : N ≤ 65536 := by rw [← hN]; exact Nat.pow_le_pow_right (show 0 < 2 by omega) hs2
  have hN1 : 1 ≤ N := by rw [← hN]; exact Nat.two_pow_pos S
  have HN := Lib.hid hN
  have HPW := Lib.hid (show ∀ W, Calls Try.prog 52 #[.int .i64 (S : Int)] W (Sam (.int .i64 (N : Int)) W) from fun W => hN ▸ powerR S W (by omega))
  have SI := Lib.hid (bg_info ⟨7, S, a, m, c, r, l⟩ (.slice none 0 0) (.slice none 0 0) (.slice none 0 0) (.slice none 0 0) (.slice none 0 0) (.slice none 0 0))
  have ONE := Lib.hid (bg_one ⟨7, S, a, m, c, r, l⟩ (.slice none 0 0) (.slice none 0 0) (.slice none 0 0) (.slice none 0 0) (.slice none 0 0) (.slice none 0 0) rfl rfl rfl rfl rfl rfl)
  unfold bgC at SI ONE
  clear hN
  go_enter Try.func34, Try.ntmps34
  go_upto_region 2 with (refine wpList_store_row rfl 74 (.tmp 3) (.tmp 12) rfl _ #[.int .u8 7, .int .i64 (S : Int), .int .i64 a, .int .i64 (m : Int), .int .i64 c, .int .i64 r, .int .i64 l, .int .u32 0, .slice none 0 0, .slice none 0 0, .slice none 0 0, .slice none 0 0, .slice none 0 0, .slice none 0 0, .int .i64 0, .int .i64 0] rfl rfl 74 _ (heap_alloc_new _ _) SI.out rfl ONE.out ?_; rw [World.setRow_alloc_new]; simp only [Act.put, zzA, zzB, zzC])
  obtain ⟨w1, hw1⟩ : ∃ x, ((w.alloc (.cells #[.int .u8 7, .int .i64 (S : Int), .int .i64 a, .int .i64 (m : Int), .int .i64 c, .int .i64 r, .int .i64 l] 25)).alloc (.cells #[.int .u8 0, .int .i64 0, .int .i64 0, .int .i64 0, .int .i64 0, .int .i64 0, .int .i64 0, .int .u32 0, .slice none 0 0, .slice none 0 0, .slice none 0 0, .slice none 0 0, .slice none 0 0, .slice none 0 0, .int .i64 0, .int .i64 0] 74)).alloc (.cells #[.int .u8 7, .int .i64 (S : Int), .int .i64 a, .int .i64 (m : Int), .int .i64 c, .int .i64 r, .int .i64 l, .int .u32 0, .slice none 0 0, .slice none 0 0, .slice none 0 0, .slice none 0 0, .slice none 0 0, .slice none 0 0, .int .i64 0, .int .i64 0] 74) = x := ⟨_, rfl⟩
  have hbw : BgW ⟨7, S, a, m, c, r, l⟩ w w1 (.slice none 0 0) (.slice none 0 0) (.slice none 0 0) (.slice none 0 0) (.slice none 0 0) (.slice none 0 0) := by
    rw [← hw1]
    exact BgW.start ⟨7, S, a, m, c, r, l⟩ w
  try rw [hw1]
  try rw [show w.heap.size + 1 + 1 = w.heap.size + 2 from rfl]
  have HBW := Lib.hid hbw
  have d0 : w1.cell? ⟨w.heap.size, 0, none⟩ = some (.int .u8 7) := hbw.b1.cell 0
  have d1 : w1.cell? ⟨w.heap.size, 1, none⟩ = some (.int .i64 (S : Int)) := hbw.b1.cell 1
  have d3 : w1.cell? ⟨w.heap.size, 3, none⟩ = some (.int .i64 (m : Int)) := hbw.b1.cell 3
  clear hw1 hbw SI ONE
  go_wp2_with fail
  refine (HPW.out _).mono ?_
  rintro e w2 ⟨rfl, hs1⟩
  rw [hs1]
  clear hs1 w2
  go_upto_region 23 with fail
  go_wp2_with fail
  go_loopw [8] (fun v wr => ∃ k : Nat, k ≤ M ∧ v = .int .i64 k ∧ ∃ V, BgW ⟨7, S, a, m, c, r, l⟩ w wr (.slice none 0 0) (.slice none 0 0) (.slice none 0 0) V (.slice none 0 0) (.slice none 0 0) ∧ wr.ownsRow (w.heap.size + 3) 3 1 V k (ints ((List.range k).map (fun _ => x)))) (fun v _ => M - (intOf v).toNat)
  case atStart => exact ⟨0, by omega, rfl, _, HBW.out, rfl, .inl ⟨rfl, rfl⟩⟩
  case round =>
    obtain ⟨k, hk, rfl, V, hbw, hown⟩ := hrel
    obtain ⟨A, cp, rfl, hcp⟩ := own_slice hown
    clear HBW d0 d1 d3
    have HBW := Lib.hid hbw
    have HO := Lib.hid hown
    have d3 : wr.cell? ⟨w.heap.size, 3, none⟩ = some (.int .i64 (m : Int)) := hbw.b1.cell 3
    clear hbw hown
    by_cases hlt : k < M
    · have hki : (k : Int) < M := by omega
      go_upto_region 26 with fail
      refine wp_region_till (fun W : World => W.cell? ⟨w.heap.size + 2, 11, none⟩ = some (.slice A k cp) ∧ W.cell? ⟨w.heap.size, 3, none⟩ = some (.int .i64 (m : Int))) 8 (by kernel_rfl) ⟨HBW.out.c4, HBW.out.b1.cell 3⟩ (fun hHeld => ?_)
      have hbw2 := HBW.out.below (below_drewN (Below.refl _ _) 1)
      have ho2 := own_below HO.out (below_drewN (Below.refl wr.heap.size wr) 1)
      obtain ⟨w2, hw2⟩ : ∃ x, wr.drewN 1 = x := ⟨_, rfl⟩
      have hw2' : wr.drew = w2 := hw2
      rw [hw2] at hbw2 ho2
      rw [hw2'] at hHeld ⊢
      have HBW := Lib.hid hbw2
      have HO := Lib.hid ho2
      clear hw2 hw2' hbw2 ho2
      refine tkt (i := 0) (d := 82) rfl rfl ?_
      simp only [Act.put, zzA, zzB, zzC]
      refine tkt (i := 1) (d := 83) rfl rfl ?_
      simp only [Act.put, zzA, zzB, zzC]
      refine tkt (i := 2) (d := 84) rfl rfl ?_
      simp only [Act.put, zzA, zzB, zzC]
      refine tkt (i := 3) (d := 85) rfl rfl ?_
      simp only [Act.put, zzA, zzB, zzC]
      refine tkt (i := 4) (d := 86) rfl rfl ?_
      simp only [Act.put, zzA, zzB, zzC]
      refine wpAnyT_ready (rs := [5]) (by kernel_rfl) (by simp) ?_
      refine AllReadyT.cons (o := _) rfl (fun K hK => ?_) (AllReadyT.nil)
      go_simp
      have hal := (Below.refl w2.heap.size w2).alloc (Nat.le_refl _) (.cells #[.int .i64 (x)] 3)
      have hna := Blk.new w2 3 #[.int .i64 (x)]
      have hbw3 := HBW.out.below hal
      have ho3 := own_below HO.out hal
      obtain ⟨gn, hgn⟩ : ∃ xq, w2.heap.size = xq := ⟨_, rfl⟩
      obtain ⟨w3, hw3⟩ : ∃ xq, w2.alloc (.cells #[.int .i64 (x)] 3) = xq := ⟨_, rfl⟩
      rw [hw3] at hna hbw3 ho3 ⊢
      rw [hgn] at hna ⊢
      have HBW := Lib.hid hbw3
      have HO := Lib.hid ho3
      have HNA := Lib.hid hna
      clear hal hna hbw3 ho3 hgn hw3
      refine hK.out _ _ ⟨HBW.out.c4, HBW.out.b1.cell 3⟩ (fun hHeld => ?_)
      clear hK K
      try simp only [Act.put, zzA, zzB, zzC]
      refine wpAnyT_ready (rs := [6]) (by kernel_rfl) (by simp) ?_
      refine AllReadyT.cons (o := _) rfl (fun K hK => ?_) (AllReadyT.nil)
      refine step_appN tInts rfl (.tmp 83) (.tmp 87) rfl (w.heap.size + 3) (.slice A k cp) k (ints ((List.range k).map (fun _ => x))) rfl HO.out ⟨gn, 0, none⟩ 1 1 [.int .i64 (x)] rfl rfl (fun jj u hu => by rw [addr_add, Nat.zero_add, HNA.out.cell]; simpa using hu) (by simp [Value.oneCell']) (by omega) (by unfold maxLen; omega) HBW.out.sz ?_
      intro V3 w4 ho4 hg4 hn4
      obtain ⟨A4, c4, rfl, hc4⟩ := own_slice ho4
      have hf4 : Frm (fun b => (Value.slice A k cp).ownBlock = some b) w3 w4 := Frm.of_grown hg4 (fun b hb => hb)
      have hbw4 := HBW.out.fr hf4 (fun b hb => own_ge HO.out b hb)
      have HBW := Lib.hid hbw4
      have HO4 := Lib.hid ho4
      have cc := hbw4.c4
      have ff := hbw4.f4
      clear ho4 hg4 hn4 hf4 hbw4
      refine hK.out _ _ ⟨HBW.out.c4, HBW.out.b1.cell 3⟩ (fun hHeld => ?_)
      clear hK K
      try simp only [Act.put, zzA, zzB, zzC]
      refine tkt (i := 7) (d := 89) rfl rfl ?_
      simp only [Act.put, zzA, zzB, zzC]
      refine wpAnyT_ready (rs := [8]) (by kernel_rfl) (by simp) ?_
      refine AllReadyT.past (o := _) rfl (by kernel_rfl) (fun K hK => ?_) (AllReadyT.nil)
      go_simp
      refine hK.out _ _ ?_
      clear hK K
      try simp only [Act.put, zzA, zzB, zzC]
      refine wpAnyT_done (by kernel_rfl) ?_ _
      go_wp2
      go_roundw
      case rel => exact ⟨k + 1, by omega, by go_num, _, HBW.out.s4 _, own_s (by rw [ints_rng]; exact HO4.out)⟩
      case measure => simp [intOf]; omega
    · obtain rfl : k = M := by omega
      obtain ⟨g4, m4, hv, hm, hge, hXl, hrow⟩ := row_of_own HO.out (by omega)
      injection hv with hA _ hcc
      subst hA hcc
      have HGE := Lib.hid hge
      have HROW := Lib.hid hrow
      clear hm hge hXl hrow
      go_upto_region 38 with fail
      clear d3
      obtain ⟨cs, hcs⟩ : ∃ x, bgC ⟨7, S, a, m, c, r, l⟩ (.slice none 0 0) (.slice none 0 0) (.slice none 0 0) (.slice (some ⟨g4, 0, none⟩) k cp) (.slice none 0 0) (.slice none 0 0) = x := ⟨_, rfl⟩
      have HB3 := Lib.hid (show Blk wr (w.heap.size + 2) 74 cs from hcs ▸ HBW.out.b3)
      have HB2 := Lib.hid HBW.out.b2
      have HSI := Lib.hid (show (Try.prog.info? 74).map (·.size) = some cs.size from hcs ▸ bg_info ⟨7, S, a, m, c, r, l⟩ (.slice none 0 0) (.slice none 0 0) (.slice none 0 0) (.slice (some ⟨g4, 0, none⟩) k cp) (.slice none 0 0) (.slice none 0 0))
      have HON := Lib.hid (show cs.all (·.oneCell') = true from hcs ▸ bg_one ⟨7, S, a, m, c, r, l⟩ (.slice none 0 0) (.slice none 0 0) (.slice none 0 0) (.slice (some ⟨g4, 0, none⟩) k cp) (.slice none 0 0) (.slice none 0 0) rfl rfl rfl rfl rfl rfl)
      have HSZ := Lib.hid (show (#[.int .u8 0, .int .i64 0, .int .i64 0, .int .i64 0, .int .i64 0, .int .i64 0, .int .i64 0, .int .u32 0, .slice none 0 0, .slice none 0 0, .slice none 0 0, .slice none 0 0, .slice none 0 0, .slice none 0 0, .int .i64 0, .int .i64 0] : Array Value).size = cs.size from hcs ▸ rfl)
      have HFIN := Lib.hid (HBW.out.fin ⟨0, 0, 0, g4, 0, 0, 0, 0, cp⟩ cs ((rc67 (.inr rfl) rfl rfl rfl _ (by rw [show (beginU ⟨7, S, a, m, c, r, l⟩).t = (List.range k).map (fun _ => x) from by rw [rng_const, ← HM.out, ← HN.out]; simp [beginU, HX.out]]; simp) (by omega)).trans hcs) (RU.mk67 (.inr rfl) (by rw [show (beginU ⟨7, S, a, m, c, r, l⟩).t = (List.range k).map (fun _ => x) from by rw [rng_const, ← HM.out, ← HN.out]; simp [beginU, HX.out]]; exact HROW.out)) (fun b hb => by rw [has67 (.inr rfl) hb]; exact HGE.out))
      clear hcs
      go_wp2_with (first
        | (refine wpList_load_row rfl 74 (.tmp 3) rfl (w.heap.size + 2) rfl 74 cs _ _ HB3.out Try.underlying74 rfl HSI.out ?_)
        | (refine wpList_store_row rfl 74 (.tmp 2) (.tmp 128) rfl (w.heap.size + 1) cs rfl rfl 74 _ HB2.out HSI.out HSZ.out HON.out ?_))
      exact bodyPost_ret (v := .agg cs) (results_cell_row rfl _ _ (w.heap.size + 1) 74 cs _ _ rfl (blk_setRow HB2.out cs) Try.underlying74 rfl HSI.out) rfl HFIN.out
end Go.Proofs.Ytnohfeaamfjimaa
namespace Go.Proofs.Ytnohfeaamfjimaa
open Go.RowKit Go.WideShapes
set_option linter.unusedVariables false
set_option linter.unusedSimpArgs false
theorem tO1 : SlT Try.prog 72 5 (.int .u8 0) 1 := ⟨Try.underlying72, by kernel_rfl, rfl⟩
theorem row_of_mk {w : World} {base g N : Nat} (h : w.ownsRow base 5 1 (.slice (some ⟨g, 0, none⟩) N N) N (List.replicate N (.int .u8 0))) (hN : 1 ≤ N) : Row w g 5 (octs (List.replicate N 0)) := by
  rcases h.2 with ⟨hv, _⟩ | ⟨g', cap, cur, hv, hb, hg, hc, _, _, hpre⟩
  · cases hv
  · injection hv with hA _ hcc
    injection hA with hA
    injection hA with hA
    subst hA
    refine ⟨cur.toList.drop (N * 1), ?_⟩
    rw [show octs (List.replicate N 0) = List.replicate N (.int .u8 0) by unfold octs; rw [List.map_replicate], ← hpre, List.take_append_drop]
    exact hg
theorem row_apart {w : World} {g : Nat} {t : TypeId} {xs : List Value} {base n : Nat} {e : TypeId} {size : Nat} {v : Value} {ys : List Value} (h : Row w g t xs) (ho : w.ownsRow base e size v n ys) (hne : e ≠ t) : ∀ k, v.ownBlock = some k → k ≠ g := by
  obtain ⟨tail, h⟩ := h
  exact h.apart ho hne
theorem rc3 {u : Un} (hk : u.p.k = 3) (h0 : u.h = 0) (hp : u.ptr = 0) (hl : u.len = 0) (l : RL) {M X : Nat} (hM : u.b.length = M) (h1 : 0 < M) (hX : u.x.length = X) (h2 : 0 < X) : (u.rc l).toArray = bgC u.p (.slice (some ⟨l.g1, 0, none⟩) X l.c1) (.slice none 0 0) (.slice (some ⟨l.g3, 0, none⟩) M M) (.slice none 0 0) (.slice none 0 0) (.slice none 0 0) := by
  unfold Un.rc
  rw [ch3 hk, no_ct (by omega) (by omega), ss38 (.inl hk), no_wt (by omega) (by omega) (by omega), no_nm (by omega), no_rg (by omega), h0, hp, hl, hM, hX, sV_pos h1, sV_pos h2]
  rfl
theorem rc8 {u : Un} (hk : u.p.k = 8) (h0 : u.h = 0) (hp : u.ptr = 0) (hl : u.len = 0) (l : RL) {M X : Nat} (hM : u.b.length = M) (h1 : 0 < M) (hX : u.x.length = X) (h2 : 0 < X) : (u.rc l).toArray = bgC u.p (.slice none 0 0) (.slice none 0 0) (.slice (some ⟨l.g3, 0, none⟩) M M) (.slice (some ⟨l.g4, 0, none⟩) X l.c4) (.slice none 0 0) (.slice none 0 0) := by
  unfold Un.rc
  rw [no_ch (by omega) (by omega) (by omega), no_ct (by omega) (by omega), ss38 (.inr hk), wt8 hk, no_nm (by omega), no_rg (by omega), h0, hp, hl, hM, hX, sV_pos h1, sV_pos h2]
  rfl
theorem has3 {u : Un} (hk : u.p.k = 3) {l : RL} {b : Nat} (h : l.has u b) : b = l.g1 ∨ b = l.g3 := by
  rcases h with ⟨_, h⟩ | ⟨k, _⟩ | ⟨_, h⟩ | ⟨k, _⟩ | ⟨k, _⟩ | ⟨k, _⟩
  · exact .inl h
  · exact absurd (no_ct (by omega) (by omega)) k
  · exact .inr h
  · exact absurd (no_wt (by omega) (by omega) (by omega)) k
  · exact absurd (no_nm (by omega)) k
  · exact absurd (no_rg (by omega)) k
theorem has8 {u : Un} (hk : u.p.k = 8) {l : RL} {b : Nat} (h : l.has u b) : b = l.g3 ∨ b = l.g4 := by
  rcases h with ⟨k, _⟩ | ⟨k, _⟩ | ⟨_, h⟩ | ⟨_, h⟩ | ⟨k, _⟩ | ⟨k, _⟩
  · exact absurd (no_ch (by omega) (by omega) (by omega)) k
  · exact absurd (no_ct (by omega) (by omega)) k
  · exact .inl h
  · exact .inr h
  · exact absurd (no_nm (by omega)) k
  · exact absurd (no_rg (by omega)) k
theorem begin_x8 (S : Int) (a b c r l : Int) : (beginU ⟨8, S, a, b, c, r, l⟩).x = pairs (fun _ => (65536, 0)) 256 := by
  unfold beginU
  simp only []
  rw [if_neg (show ¬ (8 : Int) = 3 by decide)]
  exact if_pos trivial
set_option maxRecDepth 100000 in
set_option maxHeartbeats 4000000 in
theorem begR_3 (S N : Nat) (a b c r l : Int) (hs2 : S ≤ 16) (hN : 2 ^ S = N) (w : World) :
    Calls Try.prog 34 #[Pt.agg ⟨3, S, a, b, c, r, l⟩] w (BegR ⟨3, S, a, b, c, r, l⟩ w) := by
  unfold Pt.agg
  have hNb : N ≤ 65536 := by rw [← hN]; exact Nat.pow_le_pow_right (show 0 < 2 by omega) hs2
  have hN1 : 1 ≤ N := by rw [← hN]; exact Nat.two_pow_pos S
  have HN := Lib.hid hN
  have HPW := Lib.hid (show ∀ W, Calls Try.prog 52 #[.int .i64 (S : Int)] W (Sam (.int .i64 (N : Int)) W) from fun W => hN ▸ powerR S W (by omega))
  have SI := Lib.hid (bg_info ⟨3, S, a, b, c, r, l⟩ (.slice none 0 0) (.slice none 0 0) (.slice none 0 0) (.slice none 0 0) (.slice none 0 0) (.slice none 0 0))
  have ONE := Lib.hid (bg_one ⟨3, S, a, b, c, r, l⟩ (.slice none 0 0) (.slice none 0 0) (.slice none 0 0) (.slice none 0 0) (.slice none 0 0) (.slice none 0 0) rfl rfl rfl rfl rfl rfl)
  unfold bgC at SI ONE
  clear hN
  go_enter Try.func34, Try.ntmps34
  go_upto_region 2 with (refine wpList_store_row rfl 74 (.tmp 3) (.tmp 12) rfl _ #[.int .u8 3, .int .i64 (S : Int), .int .i64 a, .int .i64 b, .int .i64 c, .int .i64 r, .int .i64 l, .int .u32 0, .slice none 0 0, .slice none 0 0, .slice none 0 0, .slice none 0 0, .slice none 0 0, .slice none 0 0, .int .i64 0, .int .i64 0] rfl rfl 74 _ (heap_alloc_new _ _) SI.out rfl ONE.out ?_; rw [World.setRow_alloc_new]; simp only [Act.put, zzA, zzB, zzC])
  obtain ⟨w1, hw1⟩ : ∃ x, ((w.alloc (.cells #[.int .u8 3, .int .i64 (S : Int), .int .i64 a, .int .i64 b, .int .i64 c, .int .i64 r, .int .i64 l] 25)).alloc (.cells #[.int .u8 0, .int .i64 0, .int .i64 0, .int .i64 0, .int .i64 0, .int .i64 0, .int .i64 0, .int .u32 0, .slice none 0 0, .slice none 0 0, .slice none 0 0, .slice none 0 0, .slice none 0 0, .slice none 0 0, .int .i64 0, .int .i64 0] 74)).alloc (.cells #[.int .u8 3, .int .i64 (S : Int), .int .i64 a, .int .i64 b, .int .i64 c, .int .i64 r, .int .i64 l, .int .u32 0, .slice none 0 0, .slice none 0 0, .slice none 0 0, .slice none 0 0, .slice none 0 0, .slice none 0 0, .int .i64 0, .int .i64 0] 74) = x := ⟨_, rfl⟩
  have hbw : BgW ⟨3, S, a, b, c, r, l⟩ w w1 (.slice none 0 0) (.slice none 0 0) (.slice none 0 0) (.slice none 0 0) (.slice none 0 0) (.slice none 0 0) := by
    rw [← hw1]
    exact BgW.start ⟨3, S, a, b, c, r, l⟩ w
  try rw [hw1]
  try rw [show w.heap.size + 1 + 1 = w.heap.size + 2 from rfl]
  have HBW := Lib.hid hbw
  have d0 : w1.cell? ⟨w.heap.size, 0, none⟩ = some (.int .u8 3) := hbw.b1.cell 0
  have d1 : w1.cell? ⟨w.heap.size, 1, none⟩ = some (.int .i64 (S : Int)) := hbw.b1.cell 1
  have d3 : w1.cell? ⟨w.heap.size, 3, none⟩ = some (.int .i64 b) := hbw.b1.cell 3
  clear hw1 hbw SI ONE
  go_wp2_with fail
  refine (HPW.out _).mono ?_
  rintro e w2 ⟨rfl, hs1⟩
  rw [hs1]
  clear hs1 w2
  go_upto_region 10 with fail
  go_upto_region 11 with (refine wpList_mk tO1 rfl rfl (.tmp 37) (.tmp 37) rfl (w.heap.size + 3) .i64 .i64 N N N rfl rfl rfl rfl (by omega) (by unfold maxLen; omega) HBW.out.sz ?_; intro w3 o3 hlt3 hb3; have HBW3 := Lib.hid (HBW.out.below hb3); have O3 := Lib.hid o3; have c3 := HBW3.out.c3; have f3 := HBW3.out.f3)
  have hbw4 := HBW3.out.s3 (.slice (some ⟨w1.heap.size, 0, none⟩) N N)
  have hsr := (row_of_mk O3.out hN1).far (p := ⟨w.heap.size + 2, 10, none⟩) (by have := HBW.out.sz; show w1.heap.size ≠ w.heap.size + 2; omega) (.slice (some ⟨w1.heap.size, 0, none⟩) N N)
  have HGS := Lib.hid HBW.out.sz
  obtain ⟨w4, hw4⟩ : ∃ xq, w3.setCell ⟨w.heap.size + 2, 10, none⟩ (.slice (some ⟨w1.heap.size, 0, none⟩) N N) = xq := ⟨_, rfl⟩
  obtain ⟨gs, hgs⟩ : ∃ xq, w1.heap.size = xq := ⟨_, rfl⟩
  try rw [hw4]
  rw [hw4] at hbw4 hsr
  try rw [hgs]
  rw [hgs] at hbw4 hsr HGS
  have HBW := Lib.hid hbw4
  have HSR := Lib.hid hsr
  clear hw4 hgs hbw4 hsr c3 f3 hlt3 hb3 d0 d1 d3 HBW3 O3
  go_wp2_with fail
  go_loopw [6] (fun v wr => ∃ k : Nat, k ≤ 256 ∧ v = .int .i64 k ∧ ∃ V, BgW ⟨3, S, a, b, c, r, l⟩ w wr V (.slice none 0 0) (.slice (some ⟨gs, 0, none⟩) N N) (.slice none 0 0) (.slice none 0 0) (.slice none 0 0) ∧ wr.ownsRow (w.heap.size + 3) 3 1 V k (ints ((List.range k).map (fun i : Nat => chanceI (i : Int)))) ∧ Row wr gs 5 (octs (List.replicate N 0))) (fun v _ => 256 - (intOf v).toNat)
  case atStart => exact ⟨0, by omega, rfl, _, HBW.out, ⟨rfl, .inl ⟨rfl, rfl⟩⟩, HSR.out⟩
  case round =>
    obtain ⟨k, hk, rfl, V, hbw, hown, hsr⟩ := hrel
    obtain ⟨A, cp, rfl, hcp⟩ := own_slice hown
    clear HBW HSR
    have HBW := Lib.hid hbw
    have HO := Lib.hid hown
    have HSR := Lib.hid hsr
    clear hbw hown hsr
    by_cases hlt : k < 256
    · have hki : (k : Int) < 256 := by omega
      have hk8 : IntKind.u8.wrap (k : Int) = (k : Int) := IntWalk.u8_in _ ⟨by omega, by omega⟩
      obtain ⟨x, hx⟩ : ∃ x, chanceI (k : Int) = x := ⟨_, rfl⟩
      have HX := Lib.hid hx
      have HCH := Lib.hid (show ∀ W, Calls Try.prog 53 #[.int .u8 (k : Int)] W (fun e w' => e = .returned (.int .i64 x) ∧ w' = W) from fun W => (rchance_any (k : Int) W (by omega) (by omega)).mono (fun e w' h => ⟨by rw [h.1, hx], h.2.symm⟩))
      clear hx
      go_upto_region 14 with fail
      refine wp_region_till (fun W : World => W.cell? ⟨w.heap.size + 2, 8, none⟩ = some (.slice A k cp)) 8 (by kernel_rfl) HBW.out.c1 (fun hHeld => ?_)
      have HSR := Lib.hid (HSR.out.below (below_drewN (Below.refl wr.heap.size wr) 1))
      have hbw2 := HBW.out.below (below_drewN (Below.refl _ _) 1)
      have ho2 := own_below HO.out (below_drewN (Below.refl wr.heap.size wr) 1)
      obtain ⟨w2, hw2⟩ : ∃ x, wr.drewN 1 = x := ⟨_, rfl⟩
      have hw2' : wr.drew = w2 := hw2
      rw [hw2] at hbw2 ho2 HSR
      rw [hw2'] at hHeld ⊢
      have HBW := Lib.hid hbw2
      have HO := Lib.hid ho2
      clear hw2 hw2' hbw2 ho2
      refine tkt (i := 0) (d := 44) rfl rfl ?_
      simp only [Act.put, zzA, zzB, zzC]
      refine tkt (i := 1) (d := 45) rfl rfl ?_
      simp only [Act.put, zzA, zzB, zzC]
      refine tkt (i := 2) (d := 46) rfl rfl ?_
      simp only [Act.put, zzA, zzB, zzC]
      refine tkt (i := 3) (d := 47) rfl rfl ?_
      simp only [Act.put, zzA, zzB, zzC]
      refine wpAnyT_ready (rs := [4]) (by kernel_rfl) (by simp) ?_
      refine AllReadyT.cons (o := _) rfl (fun K hK => ?_) (AllReadyT.nil)
      go_simp
      refine (HCH.out _).mono ?_
      rintro e wx ⟨rfl, hs⟩
      rw [hs]
      clear hs wx
      go_wp2_with fail
      refine hK.out _ _ HBW.out.c1 (fun hHeld => ?_)
      clear hK K
      try simp only [Act.put, zzA, zzB, zzC]
      refine wpAnyT_ready (rs := [5]) (by kernel_rfl) (by simp) ?_
      refine AllReadyT.cons (o := _) rfl (fun K hK => ?_) (AllReadyT.nil)
      go_simp
      have hal := (Below.refl w2.heap.size w2).alloc (Nat.le_refl _) (.cells #[.int .i64 (x)] 3)
      have hna := Blk.new w2 3 #[.int .i64 (x)]
      have hbw3 := HBW.out.below hal
      have ho3 := own_below HO.out hal
      have hsr3 := HSR.out.below hal
      obtain ⟨gn, hgn⟩ : ∃ xq, w2.heap.size = xq := ⟨_, rfl⟩
      obtain ⟨w3, hw3⟩ : ∃ xq, w2.alloc (.cells #[.int .i64 (x)] 3) = xq := ⟨_, rfl⟩
      rw [hw3] at hna hbw3 ho3 hsr3 ⊢
      rw [hgn] at hna ⊢
      have HBW := Lib.hid hbw3
      have HO := Lib.hid ho3
      have HNA := Lib.hid hna
      have HSR := Lib.hid hsr3
      clear hsr3
      clear hal hna hbw3 ho3 hgn hw3
      refine hK.out _ _ HBW.out.c1 (fun hHeld => ?_)
      clear hK K
      try simp only [Act.put, zzA, zzB, zzC]
      refine wpAnyT_ready (rs := [6]) (by kernel_rfl) (by simp) ?_
      refine AllReadyT.cons (o := _) rfl (fun K hK => ?_) (AllReadyT.nil)
      refine step_appN tInts rfl (.tmp 45) (.tmp 49) rfl (w.heap.size + 3) (.slice A k cp) k (ints ((List.range k).map (fun i : Nat => chanceI (i : Int)))) rfl HO.out ⟨gn, 0, none⟩ 1 1 [.int .i64 (x)] rfl rfl (fun jj u hu => by rw [addr_add, Nat.zero_add, HNA.out.cell]; simpa using hu) (by simp [Value.oneCell']) (by omega) (by unfold maxLen; omega) HBW.out.sz ?_
      intro V3 w4 ho4 hg4 hn4
      obtain ⟨A4, c4, rfl, hc4⟩ := own_slice ho4
      have hf4 : Frm (fun b => (Value.slice A k cp).ownBlock = some b) w3 w4 := Frm.of_grown hg4 (fun b hb => hb)
      have hbw4 := HBW.out.fr hf4 (fun b hb => own_ge HO.out b hb)
      have HSR := Lib.hid (HSR.out.frm hf4 (fun e => row_apart HSR.out HO.out (by decide) _ e rfl))
      have HBW := Lib.hid hbw4
      have HO4 := Lib.hid ho4
      have cc := hbw4.c1
      have ff := hbw4.f1
      clear ho4 hg4 hn4 hf4 hbw4
      refine hK.out _ _ HBW.out.c1 (fun hHeld => ?_)
      clear hK K
      try simp only [Act.put, zzA, zzB, zzC]
      refine tkt (i := 7) (d := 51) rfl rfl ?_
      simp only [Act.put, zzA, zzB, zzC]
      refine wpAnyT_ready (rs := [8]) (by kernel_rfl) (by simp) ?_
      refine AllReadyT.past (o := _) rfl (by kernel_rfl) (fun K hK => ?_) (AllReadyT.nil)
      go_simp
      refine hK.out _ _ ?_
      clear hK K
      try simp only [Act.put, zzA, zzB, zzC]
      refine wpAnyT_done (by kernel_rfl) ?_ _
      go_wp2
      go_roundw
      case rel => exact ⟨k + 1, by omega, by go_num, _, HBW.out.s1 _, own_s (by rw [ints_rng, HX.out]; exact HO4.out), HSR.out.far (p := ⟨w.heap.size + 2, 8, none⟩) (fun e => by have := HGS.out; have e' : gs = w.heap.size + 2 := e; omega) _⟩
      case measure => simp [intOf]; omega
    · have hki : ¬ (k : Int) < 256 := by omega
      have HK := Lib.hid (show k = 256 by omega)
      obtain ⟨g1, m1, hv, hm, hge, hXl, hrow⟩ := row_of_own HO.out (by omega)
      injection hv with hA _ hcc
      subst hA hcc
      have HGE := Lib.hid hge
      have HROW := Lib.hid hrow
      clear hm hge hXl hrow
      go_upto_region 38 with fail
      obtain ⟨cs, hcs⟩ : ∃ x, bgC ⟨3, S, a, b, c, r, l⟩ (.slice (some ⟨g1, 0, none⟩) k cp) (.slice none 0 0) (.slice (some ⟨gs, 0, none⟩) N N) (.slice none 0 0) (.slice none 0 0) (.slice none 0 0) = x := ⟨_, rfl⟩
      have HB3 := Lib.hid (show Blk wr (w.heap.size + 2) 74 cs from hcs ▸ HBW.out.b3)
      have HB2 := Lib.hid HBW.out.b2
      have HSI := Lib.hid (show (Try.prog.info? 74).map (·.size) = some cs.size from hcs ▸ bg_info ⟨3, S, a, b, c, r, l⟩ (.slice (some ⟨g1, 0, none⟩) k cp) (.slice none 0 0) (.slice (some ⟨gs, 0, none⟩) N N) (.slice none 0 0) (.slice none 0 0) (.slice none 0 0))
      have HON := Lib.hid (show cs.all (·.oneCell') = true from hcs ▸ bg_one ⟨3, S, a, b, c, r, l⟩ (.slice (some ⟨g1, 0, none⟩) k cp) (.slice none 0 0) (.slice (some ⟨gs, 0, none⟩) N N) (.slice none 0 0) (.slice none 0 0) (.slice none 0 0) rfl rfl rfl rfl rfl rfl)
      have HSZ := Lib.hid (show (#[.int .u8 0, .int .i64 0, .int .i64 0, .int .i64 0, .int .i64 0, .int .i64 0, .int .i64 0, .int .u32 0, .slice none 0 0, .slice none 0 0, .slice none 0 0, .slice none 0 0, .slice none 0 0, .slice none 0 0, .int .i64 0, .int .i64 0] : Array Value).size = cs.size from hcs ▸ rfl)
      have HFIN := Lib.hid (HBW.out.fin ⟨g1, 0, gs, 0, 0, 0, cp, 0, 0⟩ cs ((rc3 rfl rfl rfl rfl _ (by rw [show (beginU ⟨3, S, a, b, c, r, l⟩).b = List.replicate N 0 from by rw [← HN.out]; simp [beginU]]; simp) (by omega) (by rw [show (beginU ⟨3, S, a, b, c, r, l⟩).x = (List.range k).map (fun i : Nat => chanceI (i : Int)) from by rw [HK.out]; simp [beginU]]; simp) (by have := HK.out; omega)).trans hcs) (RU.mk3 rfl (by rw [show (beginU ⟨3, S, a, b, c, r, l⟩).x = (List.range k).map (fun i : Nat => chanceI (i : Int)) from by rw [HK.out]; simp [beginU]]; exact HROW.out) (by rw [show (beginU ⟨3, S, a, b, c, r, l⟩).b = List.replicate N 0 from by rw [← HN.out]; simp [beginU]]; exact HSR.out)) (fun b hb => by rcases has3 rfl hb with h | h; rw [h]; exact HGE.out; rw [h]; exact HGS.out))
      clear hcs
      go_wp2_with (first
        | (refine wpList_load_row rfl 74 (.tmp 3) rfl (w.heap.size + 2) rfl 74 cs _ _ HB3.out Try.underlying74 rfl HSI.out ?_)
        | (refine wpList_store_row rfl 74 (.tmp 2) (.tmp 128) rfl (w.heap.size + 1) cs rfl rfl 74 _ HB2.out HSI.out HSZ.out HON.out ?_))
      exact bodyPost_ret (v := .agg cs) (results_cell_row rfl _ _ (w.heap.size + 1) 74 cs _ _ rfl (blk_setRow HB2.out cs) Try.underlying74 rfl HSI.out) rfl HFIN.out
set_option maxRecDepth 100000 in
set_option maxHeartbeats 4000000 in
theorem begR_8 (S N : Nat) (a b c r l : Int) (hs2 : S ≤ 16) (hN : 2 ^ S = N) (w : World) :
    Calls Try.prog 34 #[Pt.agg ⟨8, S, a, b, c, r, l⟩] w (BegR ⟨8, S, a, b, c, r, l⟩ w) := by
  unfold Pt.agg
  have hNb : N ≤ 65536 := by rw [← hN]; exact Nat.pow_le_pow_right (show 0 < 2 by omega) hs2
  have hN1 : 1 ≤ N := by rw [← hN]; exact Nat.two_pow_pos S
  have HN := Lib.hid hN
  have HPW := Lib.hid (show ∀ W, Calls Try.prog 52 #[.int .i64 (S : Int)] W (Sam (.int .i64 (N : Int)) W) from fun W => hN ▸ powerR S W (by omega))
  have SI := Lib.hid (bg_info ⟨8, S, a, b, c, r, l⟩ (.slice none 0 0) (.slice none 0 0) (.slice none 0 0) (.slice none 0 0) (.slice none 0 0) (.slice none 0 0))
  have ONE := Lib.hid (bg_one ⟨8, S, a, b, c, r, l⟩ (.slice none 0 0) (.slice none 0 0) (.slice none 0 0) (.slice none 0 0) (.slice none 0 0) (.slice none 0 0) rfl rfl rfl rfl rfl rfl)
  unfold bgC at SI ONE
  clear hN
  go_enter Try.func34, Try.ntmps34
  go_upto_region 2 with (refine wpList_store_row rfl 74 (.tmp 3) (.tmp 12) rfl _ #[.int .u8 8, .int .i64 (S : Int), .int .i64 a, .int .i64 b, .int .i64 c, .int .i64 r, .int .i64 l, .int .u32 0, .slice none 0 0, .slice none 0 0, .slice none 0 0, .slice none 0 0, .slice none 0 0, .slice none 0 0, .int .i64 0, .int .i64 0] rfl rfl 74 _ (heap_alloc_new _ _) SI.out rfl ONE.out ?_; rw [World.setRow_alloc_new]; simp only [Act.put, zzA, zzB, zzC])
  obtain ⟨w1, hw1⟩ : ∃ x, ((w.alloc (.cells #[.int .u8 8, .int .i64 (S : Int), .int .i64 a, .int .i64 b, .int .i64 c, .int .i64 r, .int .i64 l] 25)).alloc (.cells #[.int .u8 0, .int .i64 0, .int .i64 0, .int .i64 0, .int .i64 0, .int .i64 0, .int .i64 0, .int .u32 0, .slice none 0 0, .slice none 0 0, .slice none 0 0, .slice none 0 0, .slice none 0 0, .slice none 0 0, .int .i64 0, .int .i64 0] 74)).alloc (.cells #[.int .u8 8, .int .i64 (S : Int), .int .i64 a, .int .i64 b, .int .i64 c, .int .i64 r, .int .i64 l, .int .u32 0, .slice none 0 0, .slice none 0 0, .slice none 0 0, .slice none 0 0, .slice none 0 0, .slice none 0 0, .int .i64 0, .int .i64 0] 74) = x := ⟨_, rfl⟩
  have hbw : BgW ⟨8, S, a, b, c, r, l⟩ w w1 (.slice none 0 0) (.slice none 0 0) (.slice none 0 0) (.slice none 0 0) (.slice none 0 0) (.slice none 0 0) := by
    rw [← hw1]
    exact BgW.start ⟨8, S, a, b, c, r, l⟩ w
  try rw [hw1]
  try rw [show w.heap.size + 1 + 1 = w.heap.size + 2 from rfl]
  have HBW := Lib.hid hbw
  have d0 : w1.cell? ⟨w.heap.size, 0, none⟩ = some (.int .u8 8) := hbw.b1.cell 0
  have d1 : w1.cell? ⟨w.heap.size, 1, none⟩ = some (.int .i64 (S : Int)) := hbw.b1.cell 1
  have d3 : w1.cell? ⟨w.heap.size, 3, none⟩ = some (.int .i64 b) := hbw.b1.cell 3
  clear hw1 hbw SI ONE
  go_wp2_with fail
  refine (HPW.out _).mono ?_
  rintro e w2 ⟨rfl, hs1⟩
  rw [hs1]
  clear hs1 w2
  go_upto_region 28 with fail
  go_upto_region 29 with (refine wpList_mk tO1 rfl rfl (.tmp 92) (.tmp 92) rfl (w.heap.size + 3) .i64 .i64 N N N rfl rfl rfl rfl (by omega) (by unfold maxLen; omega) HBW.out.sz ?_; intro w3 o3 hlt3 hb3; have HBW3 := Lib.hid (HBW.out.below hb3); have O3 := Lib.hid o3; have c3 := HBW3.out.c3; have f3 := HBW3.out.f3)
  have hbw4 := HBW3.out.s3 (.slice (some ⟨w1.heap.size, 0, none⟩) N N)
  have hsr := (row_of_mk O3.out hN1).far (p := ⟨w.heap.size + 2, 10, none⟩) (by have := HBW.out.sz; show w1.heap.size ≠ w.heap.size + 2; omega) (.slice (some ⟨w1.heap.size, 0, none⟩) N N)
  have HGS := Lib.hid HBW.out.sz
  obtain ⟨w4, hw4⟩ : ∃ xq, w3.setCell ⟨w.heap.size + 2, 10, none⟩ (.slice (some ⟨w1.heap.size, 0, none⟩) N N) = xq := ⟨_, rfl⟩
  obtain ⟨gs, hgs⟩ : ∃ xq, w1.heap.size = xq := ⟨_, rfl⟩
  try rw [hw4]
  rw [hw4] at hbw4 hsr
  try rw [hgs]
  rw [hgs] at hbw4 hsr HGS
  have HBW := Lib.hid hbw4
  have HSR := Lib.hid hsr
  clear hw4 hgs hbw4 hsr c3 f3 hlt3 hb3 d0 d1 d3 HBW3 O3
  go_wp2_with fail
  go_loopw [9] (fun v wr => ∃ k : Nat, k ≤ 256 ∧ v = .int .i64 k ∧ ∃ V, BgW ⟨8, S, a, b, c, r, l⟩ w wr (.slice none 0 0) (.slice none 0 0) (.slice (some ⟨gs, 0, none⟩) N N) V (.slice none 0 0) (.slice none 0 0) ∧ wr.ownsRow (w.heap.size + 3) 3 1 V (k * 2) (ints (pairs (fun _ => (65536, 0)) k)) ∧ Row wr gs 5 (octs (List.replicate N 0))) (fun v _ => 256 - (intOf v).toNat)
  case atStart => exact ⟨0, by omega, rfl, _, HBW.out, ⟨rfl, .inl ⟨rfl, rfl⟩⟩, HSR.out⟩
  case round =>
    obtain ⟨k, hk, rfl, V, hbw, hown, hsr⟩ := hrel
    obtain ⟨A, cp, rfl, hcp⟩ := own_slice hown
    clear HBW HSR
    have HBW := Lib.hid hbw
    have HO := Lib.hid hown
    have HSR := Lib.hid hsr
    have HBS := Lib.hid hbw.sz
    have cc := hbw.c4
    clear hbw hown hsr
    by_cases hlt : k < 256
    · have hki : (k : Int) < 256 := by omega
      go_wp2_with (at_builtin; refine wpList_lit tI1 rfl (.tmp 100) (.tmp 101) rfl (w.heap.size + 3) _ (k * 2) _ rfl HO.out [.int .i64 65536, .int .i64 0] (by simp [Value.oneCell']) 2 rfl _ rfl rfl (by omega) (by unfold maxLen; omega) HBS.out ?_; intro v3 w3 o3 hg3 _ hb3; obtain ⟨A3, q3, rfl, hq3⟩ := own_slice o3; have hf3 : Frm (fun b => (Value.slice A (k * 2) cp).ownBlock = some b) wr w3 := Frm.of_grown hg3 (fun b hb => hb); have HSR3 := Lib.hid (HSR.out.frm hf3 (fun e => row_apart HSR.out HO.out (by decide) _ e rfl)); have HBW3 := Lib.hid (HBW.out.kp hb3); have O3 := Lib.hid o3; have c3 := HBW3.out.c4; have f3 := HBW3.out.f4; clear hf3 hg3 o3)
      go_roundw
      case rel => exact ⟨k + 1, by omega, by go_num, _, HBW3.out.s4 _, own_s (by rw [show (k + 1) * 2 = k * 2 + 2 by omega]; unfold pairs; rw [ints_append]; exact O3.out), HSR3.out.far (p := ⟨w.heap.size + 2, 11, none⟩) (fun e => by have := HGS.out; have e' : gs = w.heap.size + 2 := e; omega) _⟩
      case measure => simp [intOf]; omega
    · have hki : ¬ (k : Int) < 256 := by omega
      have HK := Lib.hid (show k = 256 by omega)
      obtain ⟨g4, m4, hv, hm, hge, hXl, hrow⟩ := row_of_own HO.out (by omega)
      injection hv with hA _ hcc
      subst hA hcc
      have HGE := Lib.hid hge
      have HROW := Lib.hid hrow
      clear hm hge hXl hrow
      go_upto_region 38 with fail
      clear cc
      obtain ⟨cs, hcs⟩ : ∃ x, bgC ⟨8, S, a, b, c, r, l⟩ (.slice none 0 0) (.slice none 0 0) (.slice (some ⟨gs, 0, none⟩) N N) (.slice (some ⟨g4, 0, none⟩) (k * 2) cp) (.slice none 0 0) (.slice none 0 0) = x := ⟨_, rfl⟩
      have HB3 := Lib.hid (show Blk wr (w.heap.size + 2) 74 cs from hcs ▸ HBW.out.b3)
      have HB2 := Lib.hid HBW.out.b2
      have HSI := Lib.hid (show (Try.prog.info? 74).map (·.size) = some cs.size from hcs ▸ bg_info ⟨8, S, a, b, c, r, l⟩ (.slice none 0 0) (.slice none 0 0) (.slice (some ⟨gs, 0, none⟩) N N) (.slice (some ⟨g4, 0, none⟩) (k * 2) cp) (.slice none 0 0) (.slice none 0 0))
      have HON := Lib.hid (show cs.all (·.oneCell') = true from hcs ▸ bg_one ⟨8, S, a, b, c, r, l⟩ (.slice none 0 0) (.slice none 0 0) (.slice (some ⟨gs, 0, none⟩) N N) (.slice (some ⟨g4, 0, none⟩) (k * 2) cp) (.slice none 0 0) (.slice none 0 0) rfl rfl rfl rfl rfl rfl)
      have HSZ := Lib.hid (show (#[.int .u8 0, .int .i64 0, .int .i64 0, .int .i64 0, .int .i64 0, .int .i64 0, .int .i64 0, .int .u32 0, .slice none 0 0, .slice none 0 0, .slice none 0 0, .slice none 0 0, .slice none 0 0, .slice none 0 0, .int .i64 0, .int .i64 0] : Array Value).size = cs.size from hcs ▸ rfl)
      have HFIN := Lib.hid (HBW.out.fin ⟨0, 0, gs, g4, 0, 0, 0, 0, cp⟩ cs ((rc8 rfl rfl rfl rfl _ (by rw [show (beginU ⟨8, S, a, b, c, r, l⟩).b = List.replicate N 0 from by rw [← HN.out]; simp [beginU]]; simp) (by omega) (by rw [show (beginU ⟨8, S, a, b, c, r, l⟩).x = pairs (fun _ => (65536, 0)) k from by rw [HK.out]; exact begin_x8 _ _ _ _ _ _, pairs_length]) (by have := HK.out; omega)).trans hcs) (RU.mk8 rfl (by rw [show (beginU ⟨8, S, a, b, c, r, l⟩).b = List.replicate N 0 from by rw [← HN.out]; simp [beginU]]; exact HSR.out) (by rw [show (beginU ⟨8, S, a, b, c, r, l⟩).x = pairs (fun _ => (65536, 0)) k from by rw [HK.out]; exact begin_x8 _ _ _ _ _ _]; exact HROW.out)) (fun b hb => by rcases has8 rfl hb with h | h; rw [h]; exact HGS.out; rw [h]; exact HGE.out))
      clear hcs
      go_wp2_with (first
        | (refine wpList_load_row rfl 74 (.tmp 3) rfl (w.heap.size + 2) rfl 74 cs _ _ HB3.out Try.underlying74 rfl HSI.out ?_)
        | (refine wpList_store_row rfl 74 (.tmp 2) (.tmp 128) rfl (w.heap.size + 1) cs rfl rfl 74 _ HB2.out HSI.out HSZ.out HON.out ?_))
      exact bodyPost_ret (v := .agg cs) (results_cell_row rfl _ _ (w.heap.size + 1) 74 cs _ _ rfl (blk_setRow HB2.out cs) Try.underlying74 rfl HSI.out) rfl HFIN.out
end Go.Proofs.Ytnohfeaamfjimaa
