/- BlendSame: walk. -/
import Derived.Test.YtnohfeaamfjimaaVpBlTp
import Derived.StillTailTactics
import Derived.IntWalk
namespace Go.Proofs.Ytnohfeaamfjimaa
open Go.RowKit Go.WideShapes
open List (setIfInBounds_toArray set_cons_zero set_cons_succ)
set_option linter.unusedVariables false
set_option linter.unusedSimpArgs false
set_option maxRecDepth 100000 in
set_option maxHeartbeats 8000000 in
theorem same_walk (ts : List Pt) (acts : List Act1) (A0 A1 : Option Addr) (n0 c0 n1 c1 : Nat) (w : World) (hn0 : n0 = ts.length) (hok : ∀ t ∈ ts, t.ok) (hr0 : Rd w A0 (flat_pts ts)) (hn1 : n1 = acts.length) (hac : ∀ a ∈ acts, a.rd w) (hr1 : Rd w A1 (flatA acts)) (hm1 : n1 ≤ maxLen) :
    Calls Try.prog 6 #[.slice A0 n0 c0, .slice A1 n1 c1] w (Quiet (.bool true) w) := by
  unfold maxLen at hm1
  have HGR := Lib.hid (great_any ts A0 n0 c0 w hn0 hok hr0)
  have HNW := Lib.hid (fun W (hb : Below w.heap.size w W) => new_any ts A0 n0 c0 W hn0 hok (hr0.below hb rfl))
  have HR1 := Lib.hid hr1
  have HN1 := Lib.hid hn1
  have HN0 := Lib.hid hn0
  have HAC := Lib.hid hac
  clear hr1 hn1 hr0 hok hac hn0
  go_enter Try.func6, Try.ntmps6
  go_wp2_with fail
  refine (HGR.out).mono ?_
  rintro e w1 ⟨rfl, hb1⟩
  have HB1 := Lib.hid hb1
  clear hb1 HGR
  by_cases hg : greatP ts = true
  · rw [hg]
    go_wp2_with fail
    refine (awake_any w1).mono ?_
    rintro e w2 ⟨rfl, hb2⟩
    have HB2 := Lib.hid hb2
    clear hb2
    go_wp2
    go_ret
    exact ⟨rfl, bl_step HB1.out HB2.out⟩
  rw [Bool.not_eq_true] at hg
  rw [hg]
  clear hg
  go_wp2_with fail
  refine (HNW.out _ HB1.out).mono ?_
  rintro e wa ⟨hba, hxa⟩
  have HBA := Lib.hid hba
  have HBA2 := Lib.hid (bl_step HB1.out hba)
  clear hba
  by_cases hr : rightP ts = 0
  · rw [if_pos hr] at hxa
    obtain ⟨B1, rfl, hsa⟩ := hxa
    have HSA := Lib.hid hsa
    clear hsa
    go_wp2_with fail
    refine (HNW.out _ HBA2.out).mono ?_
    rintro e wb ⟨hbb, hxb⟩
    rw [if_pos hr] at hxb
    obtain ⟨B2, rfl, hsb⟩ := hxb
    have hoks := Bst.new_ok hr
    have HT0 := Lib.hid (tb_new HB1.out HSA.out HBA.out (Below.refl _ _) hsb hbb)
    have hlen0 : (Bst.new ts).us.length = n0 := by rw [HN0.out]; exact List.length_map ..
    obtain ⟨S0, hS0⟩ : ∃ S0, Bst.new ts = S0 := ⟨_, rfl⟩
    rw [hS0] at HT0 hoks hlen0
    have HOK := Lib.hid (runA_ok hoks (fun a ha => (HAC.out a ha).u))
    have hwh0 : S0.wh = 0 := by rw [← hS0]; rfl
    have HWH := Lib.hid (show ∀ n, n ≤ 400 → (runA S0 acts n).wh ≤ 1000000 from fun n hn => by have := runA_wh S0 acts n; omega)
    have hll : ∀ n, (runA S0 acts n).us.length = n0 := fun n => (runA_len S0 acts n).trans hlen0
    have HLL := Lib.hid hll
    have hn16 : n0 ≤ 16 := by
      obtain ⟨T1, T2, h1, _⟩ := HT0.out.ex
      have := h1.n16
      omega
    clear hsb hbb hr HSA hoks hS0 hlen0 hwh0 hll HNW
    go_wp2_with fail
    go_loopw [9] (fun v wr => ∃ n : Nat, n ≤ 400 ∧ n ≤ n1 ∧ v = .int .i64 n ∧ TB w wr B1 (runA S0 acts n) B2 (runA S0 acts n)) (fun v _ => n1 - (intOf v).toNat)
    case atStart => exact ⟨0, by omega, by omega, rfl, HT0.out⟩
    case round =>
      obtain ⟨n, hn4, hnn, rfl, htb⟩ := hrel
      have HTB := Lib.hid htb
      clear htb
      by_cases hlt : n < n1 ∧ n < 400
      · obtain ⟨hlt1, hlt4⟩ := hlt
        have hi1 : (n : Int) < n1 := by omega
        have hi4 : (n : Int) < 400 := by omega
        obtain ⟨a, b, o, ha, rfl, k0, k1, k2⟩ := act_at (HR1.out.below HTB.out.low rfl) (k := n) (by rw [← HN1.out]; exact hlt1)
        have hrda := HAC.out a (List.mem_of_getElem? ha)
        have HSTEP := Lib.hid (runA_step (s := S0) ha)
        obtain ⟨k, Ah, nh, ch, hs, bit⟩ := a
        simp only at k0 k1 k2
        have HRDA := Lib.hid hrda
        clear hrda ha
        obtain ⟨U, htp, hU⟩ := HTB.out.tp ((Below.refl wr.heap.size wr).alloc (Nat.le_refl _) (.cells #[.int .i64 k, .slice Ah nh ch, .int .i64 bit] 44))
        have hlw := bl_step HTB.out.low ((Below.refl wr.heap.size wr).alloc (Nat.le_refl _) (.cells #[.int .i64 k, .slice Ah nh ch, .int .i64 bit] 44))
        have hk := Blk.new wr 44 #[.int .i64 k, .slice Ah nh ch, .int .i64 bit]
        obtain ⟨w2, hw2⟩ : ∃ x, wr.alloc (.cells #[.int .i64 k, .slice Ah nh ch, .int .i64 bit] 44) = x := ⟨_, rfl⟩
        obtain ⟨g10, hg10⟩ : ∃ x, wr.heap.size = x := ⟨_, rfl⟩
        rw [hw2] at htp hk hlw
        rw [hg10] at hk
        have hug : ¬ U g10 := fun h => by have := (hU _ h).2; omega
        have HTP := Lib.hid htp
        have HLW := Lib.hid hlw
        have HU := Lib.hid (show ∀ b, U b → w.heap.size ≤ b from fun b hb => (hU b hb).1)
        have x0 : w2.cell? ⟨g10, 0, none⟩ = some (.int .i64 k) := hk.cell 0
        have x1 : w2.cell? ⟨g10, 1, none⟩ = some (.slice Ah nh ch) := hk.cell 1
        have x2 : w2.cell? ⟨g10, 2, none⟩ = some (.int .i64 bit) := hk.cell 2
        have HF := Lib.hid (show ∀ W : World, Frm U w2 W → W.cell? ⟨g10, 1, none⟩ = some (.slice Ah nh ch) ∧ W.cell? ⟨g10, 2, none⟩ = some (.int .i64 bit) ∧ Frm U w2 W from fun W hL => ⟨(hL.cell (block_lt_of_cell x1) (hug)).trans x1, (hL.cell (block_lt_of_cell x2) (hug)).trans x2, hL⟩)
        have HARG := Lib.hid (show ∀ W T, (∀ b, T b → U b ∨ w2.heap.size ≤ b) → ∀ V, Frm U w2 W → Frm T W V → Rd V Ah (wds hs) from fun W T hT V hW hV => by
          have h1 := HLW.out.trans (hW.to_below HLW.out.size HU.out)
          have h2 := h1.trans (hV.to_below h1.size (fun b hb => (hT b hb).elim (HU.out b) (fun h => Nat.le_trans HLW.out.size h)))
          exact HRDA.out.h.below h2 rfl)
        clear hU hug htp hlw hk
        by_cases hk0 : k = 0
        · subst hk0
          have HST2 := Lib.hid (show runA S0 acts (n + 1) = (runA S0 acts n).doCtx hs from HSTEP.out.trans (if_pos rfl))
          obtain ⟨r, hr⟩ : ∃ r, ctxR (runA S0 acts n) = r := ⟨_, rfl⟩
          have HRR := Lib.hid hr
          clear hr
          go_upto_region 14 with fail
          try rw [hw2]
          try rw [hg10]
          clear hw2 hg10
          clear k0 k1 k2 x0
          refine wp_region_held_drew (S := (fun W : World => W.cell? ⟨g10, 1, none⟩ = some (.slice Ah nh ch) ∧ W.cell? ⟨g10, 2, none⟩ = some (.int .i64 bit) ∧ Frm U w2 W)) (by kernel_rfl) (HF.out _ (Frm.refl _ w2).drew) (fun hHeld => ?_)
          have HT2 := Lib.hid HTP.out.drew
          refine wpAnyH_takeD (i := 0) (d := 50) (oi := _) (v := ?_) rfl rfl (by kernel_rfl) (by kernel_rfl) (by kernel_rfl) (fun _ _ _ h => h) (Or.inl ⟨by rfl, ?_⟩) (by assumption) ?_
          rotate_left
          · (intro w hSw; (try dsimp only at hSw); go_simp) <;> with_reducible rfl
          simp only [Act.put, setIfInBounds_toArray, set_cons_zero, set_cons_succ]
          refine wpAnyH_takeD (i := 1) (d := 51) (oi := _) (v := ?_) rfl rfl (by kernel_rfl) (by kernel_rfl) (by kernel_rfl) (fun _ _ _ h => h) (Or.inl ⟨by rfl, ?_⟩) (by assumption) ?_
          rotate_left
          · (intro w hSw; (try dsimp only at hSw); go_simp) <;> with_reducible rfl
          simp only [Act.put, setIfInBounds_toArray, set_cons_zero, set_cons_succ]
          refine wpAnyH_takeD (i := 2) (d := 52) (oi := _) (v := ?_) rfl rfl (by kernel_rfl) (by kernel_rfl) (by kernel_rfl) (fun _ _ _ h => h) (Or.inl ⟨by rfl, ?_⟩) (by assumption) ?_
          rotate_left
          · (intro w hSw; (try dsimp only at hSw); go_simp) <;> with_reducible rfl
          simp only [Act.put, setIfInBounds_toArray, set_cons_zero, set_cons_succ]
          refine wpAnyH_takeD (i := 4) (d := 54) (oi := _) (v := ?_) rfl rfl (by kernel_rfl) (by kernel_rfl) (by kernel_rfl) (fun _ _ _ h => h) (Or.inl ⟨by rfl, ?_⟩) (by assumption) ?_
          rotate_left
          · (intro w hSw; (try dsimp only at hSw); go_simp) <;> with_reducible rfl
          simp only [Act.put, setIfInBounds_toArray, set_cons_zero, set_cons_succ]
          refine wpAnyH_takeD (i := 5) (d := 55) (oi := _) (v := ?_) rfl rfl (by kernel_rfl) (by kernel_rfl) (by kernel_rfl) (fun _ _ _ h => h) (Or.inl ⟨by rfl, ?_⟩) (by assumption) ?_
          rotate_left
          · (intro w hSw; (try dsimp only at hSw); go_simp) <;> with_reducible rfl
          simp only [Act.put, setIfInBounds_toArray, set_cons_zero, set_cons_succ]
          refine wpAnyH_takeD (i := 6) (d := 56) (oi := _) (v := ?_) rfl rfl (by kernel_rfl) (by kernel_rfl) (by kernel_rfl) (fun _ _ _ h => h) (Or.inl ⟨by rfl, ?_⟩) (by assumption) ?_
          rotate_left
          · (intro w hSw; (try dsimp only at hSw); go_simp) <;> with_reducible rfl
          simp only [Act.put, setIfInBounds_toArray, set_cons_zero, set_cons_succ]
          refine wpAnyH_ready (rs := [3]) (by kernel_rfl) (by simp) ?_
          refine AllReadyH.cons (o := _) rfl (fun K hK => ?_) AllReadyH.nil
          go_simp
          refine (HT2.out.one (fun T hT hb => ctx_all hb (HOK.out n) (HWH.out n hn4) hs Ah nh ch (wok_of HRDA.out.u) HRDA.out.n HRDA.out.nn (fun W hW => HARG.out _ T hT W HT2.out.frm hW))).mono ?_
          rintro e w3 ⟨rfl, ht⟩
          rw [HRR.out]
          have HT3 := Lib.hid ht
          clear ht
          go_wp2_with fail
          refine hK.out _ _ (HF.out _ HT3.out.frm) (fun hHeld => ?_)
          clear hK K
          try simp only [Act.put, setIfInBounds_toArray, set_cons_zero, set_cons_succ]
          refine wpAnyH_ready (rs := [7]) (by kernel_rfl) (by simp) ?_
          refine AllReadyH.cons (o := _) rfl (fun K hK => ?_) AllReadyH.nil
          go_simp
          refine (HT3.out.two (fun T hT hb => ctx_all hb (HOK.out n) (HWH.out n hn4) hs Ah nh ch (wok_of HRDA.out.u) HRDA.out.n HRDA.out.nn (fun W hW => HARG.out _ T hT W HT3.out.frm hW))).mono ?_
          rintro e w4 ⟨rfl, ht⟩
          rw [HRR.out]
          have HT4 := Lib.hid ht
          clear ht
          go_wp2_with fail
          refine hK.out _ _ (HF.out _ HT4.out.frm) (fun hHeld => ?_)
          clear hK K
          try simp only [Act.put, setIfInBounds_toArray, set_cons_zero, set_cons_succ]
          refine wpAnyH_takeD (i := 8) (d := 58) (oi := _) (v := ?_) rfl rfl (by kernel_rfl) (by kernel_rfl) (by kernel_rfl) (fun _ _ _ h => h) (Or.inl ⟨by rfl, ?_⟩) (by assumption) ?_
          rotate_left
          · (intro w hSw; (try dsimp only at hSw); go_simp) <;> with_reducible rfl
          simp only [Act.put, setIfInBounds_toArray, set_cons_zero, set_cons_succ]
          refine wpAnyH_done (by kernel_rfl) ?_ _
          clear x1 x2
          obtain ⟨s2, hs2⟩ : ∃ s2, runA S0 acts (n + 1) = s2 := ⟨_, rfl⟩
          have HOK2 := Lib.hid (show s2.Ok from hs2 ▸ HOK.out (n + 1))
          have hl2 : s2.us.length = n0 := hs2 ▸ HLL.out (n + 1)
          have HT5 := Lib.hid (show TP U w2 w4 B1 s2 B2 s2 from by rw [← hs2, HST2.out]; exact HT4.out)
          have HS2 := Lib.hid hs2
          clear hs2 HT2 HT3 HT4 HF HST2 HSTEP
          go_upto_region 18 with fail
          go_wp2_with fail
          refine (HT5.out.leans1 HOK2.out).mono ?_
          rintro e w5 ⟨⟨Ap, cp, U2, rfl, hcp, hrp, hup, ht5, hu2⟩, hf5⟩
          have hbl := leansB_lok (HOK2.out).us s2.c s2.bits
          have hlp := Bst.leans_len s2
          rw [hl2] at hcp hlp ⊢
          have HBL := Lib.hid hbl
          have HRP := Lib.hid hrp
          have HUP := Lib.hid hup
          have HT6 := Lib.hid ht5
          have HLW5 := Lib.hid (HLW.out.trans (hf5.to_below HLW.out.size HU.out))
          have HU2 := Lib.hid (show ∀ b, U2 b → w.heap.size ≤ b from fun b hb => (hu2 b hb).elim (HU.out b) (fun h => Nat.le_trans HLW.out.size h))
          clear hrp hup ht5 hu2 hf5 hbl HT5 HTP
          go_wp2_with fail
          refine (HT6.out.leans2 HOK2.out).mono ?_
          rintro e w6 ⟨⟨Aq, cq, rfl, hrq⟩, ht6⟩
          rw [hl2]
          have HRQ := Lib.hid hrq
          have HT7 := Lib.hid ht6
          clear hrq ht6
          go_wp2_with fail
          refine (sameI_refl s2.leans Ap Aq n0 cp cq w6 hlp.symm (HT7.out.frm.rd HRP.out HUP.out) HRQ.out (by omega)).mono ?_
          rintro e w7 ⟨rfl, hb7⟩
          have HT8 := Lib.hid (HT7.out.below hb7)
          clear hb7
          have hgb := guess_bd s2
          go_wp2_with fail
          refine (HT8.out.one (fun T hT hb => guessS hb HOK2.out)).mono ?_
          rintro e w8 ⟨rfl, ht⟩
          have HT9 := Lib.hid ht
          clear ht
          go_wp2_with fail
          refine (HT9.out.two (fun T hT hb => guessS hb HOK2.out)).mono ?_
          rintro e w9 ⟨rfl, ht⟩
          have HT10 := Lib.hid ht
          clear ht
          go_wp2_with fail
          refine (HT10.out.one (fun T hT hb => guessS hb HOK2.out)).mono ?_
          rintro e w10 ⟨rfl, ht⟩
          have HT11 := Lib.hid ht
          clear ht
          go_wp2_with fail
          refine (HT11.out.one (fun T hT hb => guessS hb HOK2.out)).mono ?_
          rintro e w11 ⟨rfl, ht⟩
          have HT12 := Lib.hid ht
          have HRX := Lib.hid (HT12.out.frm.rd HRP.out HUP.out)
          clear ht HT6 HT7 HT8 HT9 HT10 HT11
          obtain ⟨G, hG⟩ : ∃ G, s2.guess = G := ⟨_, rfl⟩
          rw [hG] at hgb ⊢
          clear hG
          go_wp2_with fail
          go_loopw [101] (fun v wq => ∃ j : Nat, j ≤ n0 ∧ v = .int .i64 j ∧ Below w11.heap.size w11 wq) (fun v _ => n0 - (intOf v).toNat)
          case atStart => exact ⟨0, by omega, rfl, Below.refl _ _⟩
          case round =>
            obtain ⟨j, hj, rfl, hbq⟩ := hrel
            have HBQ := Lib.hid hbq
            by_cases hjl : j < n0
            · have hji : (j : Int) < n0 := by omega
              obtain ⟨bp, op, rfl, hlt, hcell⟩ := (HRX.out.below hbq rfl).at (k := j) (u := .int .i64 (s2.leans.getD j 0)) (by rw [ints, List.getElem?_map, getD_some (by omega)]; rfl)
              have hd := HBL.out j
              rw [show leansB s2.us s2.c s2.bits = s2.leans from rfl] at hd
              obtain ⟨d, hdd⟩ : ∃ d, s2.leans.getD j 0 = d := ⟨_, rfl⟩
              rw [hdd] at hd hcell
              obtain ⟨hd1, hd2⟩ := hd
              clear hdd hbq
              go_wp2
              go_roundw
              case rel => exact ⟨j + 1, by omega, by go_num, HBQ.out⟩
              case measure => simp [intOf]; omega
            · obtain rfl : j = n0 := by omega
              clear hbq
              go_wp2
              go_roundw
              case rel => exact ⟨n + 1, by omega, by omega, by go_num, by rw [HS2.out]; exact (HT12.out.below HBQ.out).tb HU2.out HLW5.out⟩
              case measure => simp [intOf]; omega
        · have HST2 := Lib.hid (show runA S0 acts (n + 1) = (runA S0 acts n).doBit bit from HSTEP.out.trans (if_neg hk0))
          obtain ⟨r, hr⟩ : ∃ r, bitR bit = r := ⟨_, rfl⟩
          have HRR := Lib.hid hr
          clear hr
          go_upto_region 16 with fail
          try rw [hw2]
          try rw [hg10]
          clear hw2 hg10
          clear k0 k1 k2 x0
          refine wp_region_held_drew (S := (fun W : World => W.cell? ⟨g10, 1, none⟩ = some (.slice Ah nh ch) ∧ W.cell? ⟨g10, 2, none⟩ = some (.int .i64 bit) ∧ Frm U w2 W)) (by kernel_rfl) (HF.out _ (Frm.refl _ w2).drew) (fun hHeld => ?_)
          have HT2 := Lib.hid HTP.out.drew
          refine wpAnyH_takeD (i := 0) (d := 59) (oi := _) (v := ?_) rfl rfl (by kernel_rfl) (by kernel_rfl) (by kernel_rfl) (fun _ _ _ h => h) (Or.inl ⟨by rfl, ?_⟩) (by assumption) ?_
          rotate_left
          · (intro w hSw; (try dsimp only at hSw); go_simp) <;> with_reducible rfl
          simp only [Act.put, setIfInBounds_toArray, set_cons_zero, set_cons_succ]
          refine wpAnyH_takeD (i := 1) (d := 60) (oi := _) (v := ?_) rfl rfl (by kernel_rfl) (by kernel_rfl) (by kernel_rfl) (fun _ _ _ h => h) (Or.inl ⟨by rfl, ?_⟩) (by assumption) ?_
          rotate_left
          · (intro w hSw; (try dsimp only at hSw); go_simp) <;> with_reducible rfl
          simp only [Act.put, setIfInBounds_toArray, set_cons_zero, set_cons_succ]
          refine wpAnyH_takeD (i := 2) (d := 61) (oi := _) (v := ?_) rfl rfl (by kernel_rfl) (by kernel_rfl) (by kernel_rfl) (fun _ _ _ h => h) (Or.inl ⟨by rfl, ?_⟩) (by assumption) ?_
          rotate_left
          · (intro w hSw; (try dsimp only at hSw); go_simp) <;> with_reducible rfl
          simp only [Act.put, setIfInBounds_toArray, set_cons_zero, set_cons_succ]
          refine wpAnyH_takeD (i := 4) (d := 63) (oi := _) (v := ?_) rfl rfl (by kernel_rfl) (by kernel_rfl) (by kernel_rfl) (fun _ _ _ h => h) (Or.inl ⟨by rfl, ?_⟩) (by assumption) ?_
          rotate_left
          · (intro w hSw; (try dsimp only at hSw); go_simp) <;> with_reducible rfl
          simp only [Act.put, setIfInBounds_toArray, set_cons_zero, set_cons_succ]
          refine wpAnyH_takeD (i := 5) (d := 64) (oi := _) (v := ?_) rfl rfl (by kernel_rfl) (by kernel_rfl) (by kernel_rfl) (fun _ _ _ h => h) (Or.inl ⟨by rfl, ?_⟩) (by assumption) ?_
          rotate_left
          · (intro w hSw; (try dsimp only at hSw); go_simp) <;> with_reducible rfl
          simp only [Act.put, setIfInBounds_toArray, set_cons_zero, set_cons_succ]
          refine wpAnyH_takeD (i := 6) (d := 65) (oi := _) (v := ?_) rfl rfl (by kernel_rfl) (by kernel_rfl) (by kernel_rfl) (fun _ _ _ h => h) (Or.inl ⟨by rfl, ?_⟩) (by assumption) ?_
          rotate_left
          · (intro w hSw; (try dsimp only at hSw); go_simp) <;> with_reducible rfl
          simp only [Act.put, setIfInBounds_toArray, set_cons_zero, set_cons_succ]
          refine wpAnyH_ready (rs := [3]) (by kernel_rfl) (by simp) ?_
          refine AllReadyH.cons (o := _) rfl (fun K hK => ?_) AllReadyH.nil
          go_simp
          refine (HT2.out.one (fun T hT hb => bit_all hb (HOK.out n) (HWH.out n hn4) bit)).mono ?_
          rintro e w3 ⟨rfl, ht⟩
          rw [HRR.out]
          have HT3 := Lib.hid ht
          clear ht
          go_wp2_with fail
          refine hK.out _ _ (HF.out _ HT3.out.frm) (fun hHeld => ?_)
          clear hK K
          try simp only [Act.put, setIfInBounds_toArray, set_cons_zero, set_cons_succ]
          refine wpAnyH_ready (rs := [7]) (by kernel_rfl) (by simp) ?_
          refine AllReadyH.cons (o := _) rfl (fun K hK => ?_) AllReadyH.nil
          go_simp
          refine (HT3.out.two (fun T hT hb => bit_all hb (HOK.out n) (HWH.out n hn4) bit)).mono ?_
          rintro e w4 ⟨rfl, ht⟩
          rw [HRR.out]
          have HT4 := Lib.hid ht
          clear ht
          go_wp2_with fail
          refine hK.out _ _ (HF.out _ HT4.out.frm) (fun hHeld => ?_)
          clear hK K
          try simp only [Act.put, setIfInBounds_toArray, set_cons_zero, set_cons_succ]
          refine wpAnyH_takeD (i := 8) (d := 67) (oi := _) (v := ?_) rfl rfl (by kernel_rfl) (by kernel_rfl) (by kernel_rfl) (fun _ _ _ h => h) (Or.inl ⟨by rfl, ?_⟩) (by assumption) ?_
          rotate_left
          · (intro w hSw; (try dsimp only at hSw); go_simp) <;> with_reducible rfl
          simp only [Act.put, setIfInBounds_toArray, set_cons_zero, set_cons_succ]
          refine wpAnyH_done (by kernel_rfl) ?_ _
          clear x1 x2
          obtain ⟨s2, hs2⟩ : ∃ s2, runA S0 acts (n + 1) = s2 := ⟨_, rfl⟩
          have HOK2 := Lib.hid (show s2.Ok from hs2 ▸ HOK.out (n + 1))
          have hl2 : s2.us.length = n0 := hs2 ▸ HLL.out (n + 1)
          have HT5 := Lib.hid (show TP U w2 w4 B1 s2 B2 s2 from by rw [← hs2, HST2.out]; exact HT4.out)
          have HS2 := Lib.hid hs2
          clear hs2 HT2 HT3 HT4 HF HST2 HSTEP
          go_upto_region 18 with fail
          go_wp2_with fail
          refine (HT5.out.leans1 HOK2.out).mono ?_
          rintro e w5 ⟨⟨Ap, cp, U2, rfl, hcp, hrp, hup, ht5, hu2⟩, hf5⟩
          have hbl := leansB_lok (HOK2.out).us s2.c s2.bits
          have hlp := Bst.leans_len s2
          rw [hl2] at hcp hlp ⊢
          have HBL := Lib.hid hbl
          have HRP := Lib.hid hrp
          have HUP := Lib.hid hup
          have HT6 := Lib.hid ht5
          have HLW5 := Lib.hid (HLW.out.trans (hf5.to_below HLW.out.size HU.out))
          have HU2 := Lib.hid (show ∀ b, U2 b → w.heap.size ≤ b from fun b hb => (hu2 b hb).elim (HU.out b) (fun h => Nat.le_trans HLW.out.size h))
          clear hrp hup ht5 hu2 hf5 hbl HT5 HTP
          go_wp2_with fail
          refine (HT6.out.leans2 HOK2.out).mono ?_
          rintro e w6 ⟨⟨Aq, cq, rfl, hrq⟩, ht6⟩
          rw [hl2]
          have HRQ := Lib.hid hrq
          have HT7 := Lib.hid ht6
          clear hrq ht6
          go_wp2_with fail
          refine (sameI_refl s2.leans Ap Aq n0 cp cq w6 hlp.symm (HT7.out.frm.rd HRP.out HUP.out) HRQ.out (by omega)).mono ?_
          rintro e w7 ⟨rfl, hb7⟩
          have HT8 := Lib.hid (HT7.out.below hb7)
          clear hb7
          have hgb := guess_bd s2
          go_wp2_with fail
          refine (HT8.out.one (fun T hT hb => guessS hb HOK2.out)).mono ?_
          rintro e w8 ⟨rfl, ht⟩
          have HT9 := Lib.hid ht
          clear ht
          go_wp2_with fail
          refine (HT9.out.two (fun T hT hb => guessS hb HOK2.out)).mono ?_
          rintro e w9 ⟨rfl, ht⟩
          have HT10 := Lib.hid ht
          clear ht
          go_wp2_with fail
          refine (HT10.out.one (fun T hT hb => guessS hb HOK2.out)).mono ?_
          rintro e w10 ⟨rfl, ht⟩
          have HT11 := Lib.hid ht
          clear ht
          go_wp2_with fail
          refine (HT11.out.one (fun T hT hb => guessS hb HOK2.out)).mono ?_
          rintro e w11 ⟨rfl, ht⟩
          have HT12 := Lib.hid ht
          have HRX := Lib.hid (HT12.out.frm.rd HRP.out HUP.out)
          clear ht HT6 HT7 HT8 HT9 HT10 HT11
          obtain ⟨G, hG⟩ : ∃ G, s2.guess = G := ⟨_, rfl⟩
          rw [hG] at hgb ⊢
          clear hG
          go_wp2_with fail
          go_loopw [101] (fun v wq => ∃ j : Nat, j ≤ n0 ∧ v = .int .i64 j ∧ Below w11.heap.size w11 wq) (fun v _ => n0 - (intOf v).toNat)
          case atStart => exact ⟨0, by omega, rfl, Below.refl _ _⟩
          case round =>
            obtain ⟨j, hj, rfl, hbq⟩ := hrel
            have HBQ := Lib.hid hbq
            by_cases hjl : j < n0
            · have hji : (j : Int) < n0 := by omega
              obtain ⟨bp, op, rfl, hlt, hcell⟩ := (HRX.out.below hbq rfl).at (k := j) (u := .int .i64 (s2.leans.getD j 0)) (by rw [ints, List.getElem?_map, getD_some (by omega)]; rfl)
              have hd := HBL.out j
              rw [show leansB s2.us s2.c s2.bits = s2.leans from rfl] at hd
              obtain ⟨d, hdd⟩ : ∃ d, s2.leans.getD j 0 = d := ⟨_, rfl⟩
              rw [hdd] at hd hcell
              obtain ⟨hd1, hd2⟩ := hd
              clear hdd hbq
              go_wp2
              go_roundw
              case rel => exact ⟨j + 1, by omega, by go_num, HBQ.out⟩
              case measure => simp [intOf]; omega
            · obtain rfl : j = n0 := by omega
              clear hbq
              go_wp2
              go_roundw
              case rel => exact ⟨n + 1, by omega, by omega, by go_num, by rw [HS2.out]; exact (HT12.out.below HBQ.out).tb HU2.out HLW5.out⟩
              case measure => simp [intOf]; omega
      · have HEX := Lib.hid HTB.out.low
        by_cases hlt1 : n < n1
        · have hi1 : (n : Int) < n1 := by omega
          have hi4 : ¬ (n : Int) < 400 := by omega
          go_wp2_with fail
          refine (awake_any _).mono ?_
          rintro e w5 ⟨rfl, hb5⟩
          have HB5 := Lib.hid hb5
          clear hb5
          go_wp2
          go_ret
          exact ⟨rfl, bl_step HEX.out HB5.out⟩
        · have hi1 : ¬ (n : Int) < n1 := by omega
          go_wp2_with fail
          refine (awake_any _).mono ?_
          rintro e w5 ⟨rfl, hb5⟩
          have HB5 := Lib.hid hb5
          clear hb5
          go_wp2
          go_ret
          exact ⟨rfl, bl_step HEX.out HB5.out⟩
  · rw [if_neg hr] at hxa
    obtain ⟨q, hq⟩ : ∃ q, rightP ts = q := ⟨_, rfl⟩
    rw [hq] at hxa
    have hq0 : ¬ q = 0 := by rw [← hq]; exact hr
    have HQ := Lib.hid hq
    subst hxa
    clear hq hr
    go_wp2_with fail
    refine (HNW.out _ HBA2.out).mono ?_
    rintro e wb ⟨hbb, hxb⟩
    rw [if_neg (by rw [HQ.out]; exact hq0), HQ.out] at hxb
    subst hxb
    have HBB := Lib.hid (bl_step HBA2.out hbb)
    clear hbb
    go_wp2_with fail
    refine (awake_any wb).mono ?_
    rintro e w3 ⟨rfl, hb3⟩
    have HB3 := Lib.hid hb3
    clear hb3
    go_wp2
    go_ret
    exact ⟨rfl, bl_step HBB.out HB3.out⟩
set_option maxRecDepth 100000 in
theorem same_law {H : Type} {enc : TypeId × Value → H} {base : Nat} {d0 d1 : DataW H} {p0 p1 : List MemPlace} (v0 v1 : Value) (w : World) (hv0 : Value.okWide Try.prog w .any base 30 v0) (hk0 : DataW.Trod enc Try.prog w 0 (fun _ => true) true 30 v0 d0 p0) (hv1 : Value.okWide Try.prog w .any base 35 v1) (hk1 : DataW.Trod enc Try.prog w 0 (fun _ => true) true 35 v1 d1 p1) (hw1 : (d1.weights Try.prog 35).all (· ≤ reachBytes) = true) :
    Calls Try.prog 6 #[v0, v1] w (Quiet (.bool true) w) := by
  obtain ⟨ts, A0, c0, rfl, hok, hr0, _, _⟩ := open_pts hv0 hk0
  obtain ⟨A1, n1, c1, acts, rfl, hn1, hac, hr1, hm1⟩ := open_acts hv1 hk1 hw1
  exact same_walk ts acts A0 A1 _ c0 n1 c1 w rfl hok hr0 hn1.symm hac hr1 hm1
end Go.Proofs.Ytnohfeaamfjimaa
