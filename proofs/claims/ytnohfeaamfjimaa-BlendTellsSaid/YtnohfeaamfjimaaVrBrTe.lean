/- BlendTells: walk. -/
import Derived.Test.YtnohfeaamfjimaaVrBrTq
import Derived.StillTailTactics
import Derived.IntWalk
namespace Go.Proofs.Ytnohfeaamfjimaa
open Go.RowKit Go.WideShapes
set_option linter.unusedVariables false
set_option linter.unusedSimpArgs false
theorem row_own {w : World} {base n : Nat} {e : TypeId} {size : Nat} {xs : List Value} {v : Value} (h : w.ownsRow base e size v n xs) (hn : 0 < n) : ∃ g c, v = .slice (some ⟨g, 0, none⟩) n c ∧ n ≤ c ∧ base ≤ g ∧ g < w.heap.size ∧ Row w g e xs := by
  rcases h.2 with ⟨_, h0⟩ | ⟨g, cap, cur, hv, hb, hg, hc, _, _, hpre⟩
  · omega
  · refine ⟨g, cap, hv, hc, hb, (Array.getElem?_eq_some_iff.1 hg).1, cur.toList.drop (n * size), ?_⟩
    rw [← hpre, List.take_append_drop]
    exact hg
theorem rd_pts {w : World} {base n c : Nat} {A : Option Addr} {xs : List Value} (h : w.ownsRow base 25 7 (.slice A n c) n xs) : Rd w A xs := by
  rcases h.2 with ⟨hv, h0⟩ | ⟨g, cap, cur, hv, hb, hg, hc, _, _, hpre⟩
  · have := h.1
    rw [h0, Nat.zero_mul] at this
    rw [List.eq_nil_of_length_eq_zero this]
    exact Rd.nil _ _
  · injection hv with hA
    subst hA
    exact Row.rd (t := 25) ⟨cur.toList.drop (n * 7), by rw [← hpre, List.take_append_drop]; exact hg⟩
/-- Each part's fifth cell is a number. -/
def Fifth (n : Nat) (xs : List Value) : Prop := ∀ j, j < n → ∃ x : Int, xs[j * 7 + 4]? = some (.int .i64 x)
theorem fifth_pts {ts : List Pt} : Fifth ts.length (flat_pts ts) := fun j hj => ⟨_, (flat_pts_at ts j 4 _ (List.getElem?_eq_getElem hj) (by omega)).trans rfl⟩
theorem Fifth.set {n : Nat} {xs : List Value} (h : Fifth n xs) (i : Nat) (y : Int) : Fifth n (xs.set (i * 7 + 4) (.int .i64 y)) := fun j hj => by
  obtain ⟨x, hx⟩ := h j hj
  by_cases he : i = j
  · subst he
    exact ⟨y, List.getElem?_set_self (List.getElem?_eq_some_iff.1 hx).1⟩
  · rw [List.getElem?_set_ne (by omega)]
    exact ⟨x, hx⟩
set_option maxRecDepth 100000 in
set_option maxHeartbeats 4000000 in
theorem tells_walk (ts : List Pt) (acts : List Act1) (A0 A1 : Option Addr) (n0 c0 n1 c1 : Nat) (w : World) (hn0 : n0 = ts.length) (hok : ∀ t ∈ ts, t.ok) (hr0 : Rd w A0 (flat_pts ts)) (hs0 : n0 * 56 ≤ 140737488351232) (hn1 : n1 = acts.length) (hac : ∀ a ∈ acts, a.rd w) (hr1 : Rd w A1 (flatA acts)) (hm1 : n1 ≤ 9223372036854775807) :
    Calls Try.prog 4 #[.slice A0 n0 c0, .slice A1 n1 c1] w (Quiet (.bool true) w) := by
  have HGR := Lib.hid (great_any ts A0 n0 c0 w hn0 hok hr0)
  have HOKT := Lib.hid hok
  have HR0 := Lib.hid hr0
  have HS0 := Lib.hid hs0
  have HR1 := Lib.hid hr1
  have HN1 := Lib.hid hn1
  have HN0 := Lib.hid hn0
  have HAC := Lib.hid hac
  clear hr1 hn1 hr0 hok hac hn0 hs0
  go_enter Try.func4, Try.ntmps4
  go_wp2_with fail
  refine (HGR.out).mono ?_
  rintro e w1 ⟨rfl, hb1⟩
  have HB1 := Lib.hid hb1
  clear hb1 HGR
  by_cases hg : greatP ts = true
  · rw [hg]
    go_wp2_with fail
    refine (awake_any w1).mono ?_
    rintro e w2 ⟨rfl, hb2⟩
    have HB2 := Lib.hid hb2
    clear hb2
    go_wp2
    go_ret
    exact ⟨rfl, bl_step HB1.out HB2.out⟩
  rw [Bool.not_eq_true] at hg
  rw [hg]
  clear hg
  go_wp2_with fail
  refine (copyP_any ts A0 n0 c0 w1 HN0.out (HR0.out.below HB1.out rfl) HS0.out).mono ?_
  rintro e wa ⟨⟨Ai, ci, rfl, hci, hoi⟩, hba⟩
  have HOI := Lib.hid hoi
  have HBA := Lib.hid hba
  have HBA2 := Lib.hid (bl_step HB1.out hba)
  clear hoi hba
  go_wp2_with fail
  refine (new_any ts Ai n0 ci wa HN0.out HOKT.out (rd_pts HOI.out)).mono ?_
  rintro e wb ⟨hbb, hxb⟩
  have HBB := Lib.hid hbb
  have HBB2 := Lib.hid (bl_step HBA2.out hbb)
  clear hbb
  by_cases hr : rightP ts = 0
  · rw [if_pos hr] at hxb
    obtain ⟨B1, rfl, hsb⟩ := hxb
    have HSB := Lib.hid hsb
    clear hsb
    go_wp2_with fail
    refine (new14 ts A0 n0 c0 wb HN0.out (HR0.out.below HBB2.out rfl)).mono ?_
    rintro e wc ⟨hbc, hxc⟩
    rw [if_pos hr] at hxc
    obtain ⟨B2, rfl, hsc⟩ := hxc
    have HBC := Lib.hid (bl_step HBB2.out hbc)
    have HTN := Lib.hid (tr_new HBA2.out HSB.out HBB.out (Below.refl _ _) hsc hbc)
    have HOIC := Lib.hid (own_below (own_below HOI.out HBB.out) hbc)
    clear hsc hbc
    go_wp2_with fail
    refine (sameP_any ts Ai A0 n0 ci c0 wc HN0.out (rd_pts HOIC.out) (HR0.out.below HBC.out rfl) HS0.out).mono ?_
    rintro e wd ⟨rfl, hbd⟩
    have HTD := Lib.hid (HTN.out.below hbd)
    have hoid := own_below HOIC.out hbd
    clear hbd
    have hoks := Bst.new_ok hr
    obtain ⟨hl1, hl16, _⟩ := right_ok hr
    have hn16 : n0 ≤ 16 := by have := HN0.out; omega
    have hn01 : 1 ≤ n0 := by have := HN0.out; omega
    have hlen0 : (Bst.new ts).us.length = n0 := by rw [HN0.out]; exact List.length_map ..
    obtain ⟨S0, hS0⟩ : ∃ S0, Bst.new ts = S0 := ⟨_, rfl⟩
    rw [hS0] at HTD hoks hlen0
    have HOK := Lib.hid (runA_ok hoks (fun a ha => (HAC.out a ha).u))
    have hwh0 : S0.wh = 0 := by rw [← hS0]; rfl
    have HWH := Lib.hid (show ∀ n, n ≤ 250 → (runA S0 acts n).wh ≤ 1000000 from fun n hn => by have := runA_wh S0 acts n; omega)
    have hll : ∀ n, (runA S0 acts n).us.length = n0 := fun n => (runA_len S0 acts n).trans hlen0
    have HLL := Lib.hid hll
    obtain ⟨gi, c9, hv9, _, hgi1, hgi2, hrowi⟩ := row_own hoid (by omega)
    injection hv9 with hA9 _ hc9
    subst hA9 hc9
    have HROWI := Lib.hid hrowi
    have hgia : gi < wa.heap.size := by
      have := own_lt HOI.out gi rfl
      exact this.2
    have HGI := Lib.hid (show w.heap.size ≤ gi ∧ gi < wa.heap.size from ⟨Nat.le_trans HB1.out.size hgi1, hgia⟩)
    have HFI := Lib.hid (show Fifth n0 (flat_pts ts) from HN0.out ▸ fifth_pts)
    clear hr HSB hoks hS0 hlen0 hwh0 hll hoid hgi1 hgi2 hrowi hgia hl1 hl16 HTN HOIC HOI
    go_wp2_with fail
    go_loopw [50] (fun v wr => ∃ i : Nat, i ≤ n0 ∧ v = .int .i64 i ∧ ∃ xs, Row wr gi 25 xs ∧ Fifth n0 xs ∧ Frm (fun b => b = gi) wd wr) (fun v _ => n0 - (intOf v).toNat)
    case atStart => exact ⟨0, by omega, rfl, _, HROWI.out, HFI.out, Frm.refl _ _⟩
    case round =>
      obtain ⟨i, hi, rfl, xs, hrx, hfx, hfr⟩ := hrel
      have HR := Lib.hid hrx
      have HFX := Lib.hid hfx
      have HFR := Lib.hid hfr
      by_cases hil : i < n0
      · have hii : (i : Int) < n0 := by omega
        obtain ⟨x, hx⟩ := hfx i hil
        have cx := hrx.at hx
        have fx := hrx.frozen (i * 7 + 4)
        have HXL := Lib.hid (List.getElem?_eq_some_iff.1 hx).1
        obtain ⟨y, hy⟩ : ∃ y, IntKind.i64.wrap (x + 1) = y := ⟨_, rfl⟩
        clear hrx hfx hfr hx
        go_wp2
        go_roundw
        case rel => exact ⟨i + 1, by omega, by go_num, _, HR.out.set HXL.out _, HFX.out.set i y, HFR.out.setCell (p := ⟨gi, i * 7 + 4, none⟩) (fun _ => rfl) _⟩
        case measure => simp [intOf]; omega
      · obtain rfl : n0 = i := by omega
        have HT0 := Lib.hid (HTD.out.over HBA2.out hfr (fun b hb => by rw [hb]; exact HGI.out))
        clear hrx hfx hfr HR HFX HFR HROWI HFI HTD
        go_wp2_with fail
        go_loopw [11] (fun v wr => ∃ n : Nat, n ≤ 250 ∧ n ≤ n1 ∧ v = .int .i64 n ∧ TR w wr B1 (runA S0 acts n) B2 (runA S0 acts n)) (fun v _ => n1 - (intOf v).toNat)
        case atStart => exact ⟨0, by omega, by omega, rfl, HT0.out⟩
        case round =>
          obtain ⟨n, hn2, hnn, rfl, htb⟩ := hrel
          have HTR := Lib.hid htb
          clear htb HT0
          by_cases hlt : n < n1 ∧ n < 250
          · obtain ⟨hlt1, hlt2⟩ := hlt
            have hi1 : (n : Int) < n1 := by omega
            have hi2 : (n : Int) < 250 := by omega
            obtain ⟨a, b, o, ha, rfl, k0, k1, k2⟩ := act_at (HR1.out.below HTR.out.low rfl) (k := n) (by rw [← HN1.out]; exact hlt1)
            have hrda := HAC.out a (List.mem_of_getElem? ha)
            have HSTEP := Lib.hid (runA_step (s := S0) ha)
            obtain ⟨k, Ah, nh, ch, hs, bit⟩ := a
            simp only at k0 k1 k2
            have HRDA := Lib.hid hrda
            clear hrda ha
            have hal := (Below.refl wr.heap.size wr).alloc (Nat.le_refl _) (.cells #[.int .i64 k, .slice Ah nh ch, .int .i64 bit] 44)
            have hk := Blk.new wr 44 #[.int .i64 k, .slice Ah nh ch, .int .i64 bit]
            obtain ⟨w2, hw2⟩ : ∃ x, wr.alloc (.cells #[.int .i64 k, .slice Ah nh ch, .int .i64 bit] 44) = x := ⟨_, rfl⟩
            obtain ⟨g10, hg10⟩ : ∃ x, wr.heap.size = x := ⟨_, rfl⟩
            rw [hw2] at hal hk
            have HAL := Lib.hid hal
            rw [hg10] at hk
            have HG10 := Lib.hid hg10
            have HK := Lib.hid hk
            have x0 : w2.cell? ⟨g10, 0, none⟩ = some (.int .i64 k) := hk.cell 0
            have x1 : w2.cell? ⟨g10, 1, none⟩ = some (.slice Ah nh ch) := hk.cell 1
            have x2 : w2.cell? ⟨g10, 2, none⟩ = some (.int .i64 bit) := hk.cell 2
            clear hal hk
            go_upto_region 19 with fail
            try rw [hw2]
            try rw [hg10]
            clear hw2 hg10 k0 k1 k2
            by_cases hk0 : k = 0
            · subst hk0
              have HST2 := Lib.hid (show runA S0 acts (n + 1) = (runA S0 acts n).doCtx hs from HSTEP.out.trans (if_pos rfl))
              have HCH := Lib.hid (copyH_any hs Ah nh ch w2 HRDA.out.n.symm (HRDA.out.h.below (bl_step HTR.out.low HAL.out) rfl) HRDA.out.size)
              go_upto_region 20 with fail
              go_wp2_with fail
              refine (HCH.out).mono ?_
              rintro e wx ⟨⟨Ac, cc, rfl, hcc, hownc⟩, hbx⟩
              have HBX := Lib.hid (bl_step HAL.out hbx)
              obtain ⟨U, htp, hU⟩ := HTR.out.tq HBX.out
              have hlw := bl_step HTR.out.low HBX.out
              have hug : ¬ U g10 := fun h => by have h1 := (hU _ h).2; have h2 := HG10.out; omega
              have HTP := Lib.hid htp
              have HLW := Lib.hid hlw
              have HU := Lib.hid (show ∀ b, U b → w.heap.size ≤ b from fun b hb => (hU b hb).1)
              have HKX := Lib.hid (HK.out.below hbx)
              have x1x : wx.cell? ⟨g10, 1, none⟩ = some (.slice Ah nh ch) := HKX.out.cell 1
              have HF := Lib.hid (show ∀ W : World, Frm U wx W → W.cell? ⟨g10, 1, none⟩ = some (.slice Ah nh ch) ∧ Frm U wx W from fun W hL => ⟨(hL.cell (block_lt_of_cell x1x) hug).trans x1x, hL⟩)
              have HARG := Lib.hid (show ∀ W T, (∀ b, T b → U b ∨ wx.heap.size ≤ b) → ∀ V, Frm U wx W → Frm T W V → Rd V Ah (wds hs) from fun W T hT V hW hV => by
                have h1 := HLW.out.trans (hW.to_below HLW.out.size HU.out)
                have h2 := h1.trans (hV.to_below h1.size (fun b hb => (hT b hb).elim (HU.out b) (fun h => Nat.le_trans HLW.out.size h)))
                exact HRDA.out.h.below h2 rfl)
              have HCPY := Lib.hid (show ∀ W T, (∀ b, T b → U b ∨ wx.heap.size ≤ b) → ∀ V, Frm U wx W → Frm T W V → Rd V Ac (wds hs) from fun W T hT V hW hV => by
                have hu : ∀ b, (Value.slice Ac nh cc).ownBlock = some b → ¬ U b := fun b hb hU' => by
                  have h1 := (own_lt hownc b hb).1
                  have h2 := (hU b hU').2
                  have h3 := HAL.out.size
                  omega
                have ho := hW.own hownc (fun b hb => hu b hb)
                exact Rd.of_own (hV.own ho (fun b hb hT' => by
                  have h1 := (own_lt hownc b hb).2
                  rcases hT b hT' with h | h
                  · exact hu b hb h
                  · omega)))
              obtain ⟨r, hr⟩ : ∃ r, ctxR (runA S0 acts n) = r := ⟨_, rfl⟩
              have HRR := Lib.hid hr
              clear hr hU hug htp hlw hownc hbx x1x x1 x2 x0 hcc HTR
              go_upto_region 21 with fail
              refine wp_region_held_drew (S := (fun W : World => W.cell? ⟨g10, 1, none⟩ = some (.slice Ah nh ch) ∧ Frm U wx W)) (by kernel_rfl) (HF.out _ (Frm.refl _ wx).drew) (fun hHeld => ?_)
              have HT2 := Lib.hid HTP.out.drew
              refine tkz (i := 0) (d := 82) rfl rfl ?_
              simp only [Act.put, zzA, zzB, zzC]
              refine tkz (i := 1) (d := 83) rfl rfl ?_
              simp only [Act.put, zzA, zzB, zzC]
              refine tkz (i := 3) (d := 85) rfl rfl ?_
              simp only [Act.put, zzA, zzB, zzC]
              refine tkz (i := 4) (d := 86) rfl rfl ?_
              simp only [Act.put, zzA, zzB, zzC]
              refine tkz (i := 5) (d := 87) rfl rfl ?_
              simp only [Act.put, zzA, zzB, zzC]
              refine rdz (i := 2) rfl (fun K hK => ?_)
              go_simp
              refine (HT2.out.one (fun T hT hb => ctx_all hb (HOK.out n) (HWH.out n hn2) hs Ac nh cc (wok_of HRDA.out.u) HRDA.out.n HRDA.out.nn (fun W hW => HCPY.out _ T hT W HT2.out.frm hW))).mono ?_
              rintro e w3 ⟨rfl, ht⟩
              rw [HRR.out]
              have HT3 := Lib.hid ht
              clear ht
              go_wp2_with fail
              refine hK.out _ _ (HF.out _ HT3.out.frm) (fun hHeld => ?_)
              clear hK K
              try simp only [Act.put, zzA, zzB, zzC]
              refine rdz (i := 6) rfl (fun K hK => ?_)
              go_simp
              refine (HT3.out.two (fun T hT hb => ctxRS hb (HOK.out n) (by rw [HLL.out]; exact hn16) (HWH.out n hn2) hs Ah nh ch (wok_of HRDA.out.u) HRDA.out.n HRDA.out.nn (fun W hW => HARG.out _ T hT W HT3.out.frm hW))).mono ?_
              rintro e w4 ⟨rfl, ht⟩
              rw [HRR.out]
              have HT4 := Lib.hid ht
              clear ht
              go_wp2_with fail
              refine hK.out _ _ (HF.out _ HT4.out.frm) (fun hHeld => ?_)
              clear hK K
              try simp only [Act.put, zzA, zzB, zzC]
              refine tkz (i := 7) (d := 89) rfl rfl ?_
              simp only [Act.put, zzA, zzB, zzC]
              refine tkz (i := 8) (d := 90) rfl rfl ?_
              simp only [Act.put, zzA, zzB, zzC]
              refine tkz (i := 9) (d := 91) rfl rfl ?_
              simp only [Act.put, zzA, zzB, zzC]
              refine tkz (i := 10) (d := 92) rfl rfl ?_
              simp only [Act.put, zzA, zzB, zzC]
              refine tkz (i := 11) (d := 93) rfl rfl ?_
              simp only [Act.put, zzA, zzB, zzC]
              refine rdz (i := 12) rfl (fun K hK => ?_)
              go_simp
              refine (sameW_any hs hs Ac Ah nh nh cc ch w4 HRDA.out.n.symm HRDA.out.n.symm (HCPY.out w4 (fun _ => False) (fun _ h => h.elim) w4 HT4.out.frm (Frm.refl _ _)) (HARG.out w4 (fun _ => False) (fun _ h => h.elim) w4 HT4.out.frm (Frm.refl _ _)) HRDA.out.nn).mono ?_
              rintro e w5 ⟨rfl, hb⟩
              rw [decide_eq_true (rfl : hs = hs)]
              have HT45 := Lib.hid (HT4.out.below hb)
              clear hb
              go_wp2_with fail
              refine hK.out _ _ (HF.out _ HT45.out.frm) (fun hHeld => ?_)
              clear hK K
              try simp only [Act.put, zzA, zzB, zzC]
              refine tkz (i := 13) (d := 95) rfl rfl ?_
              simp only [Act.put, zzA, zzB, zzC]
              refine tkz (i := 14) (d := 96) rfl rfl ?_
              simp only [Act.put, zzA, zzB, zzC]
              refine wpAnyH_done (by kernel_rfl) ?_ _
              clear HT2 HT3 HT4
              obtain ⟨s2, hs2⟩ : ∃ s2, runA S0 acts (n + 1) = s2 := ⟨_, rfl⟩
              have HOK2 := Lib.hid (show s2.Ok from hs2 ▸ HOK.out (n + 1))
              have hl2 : s2.us.length = n0 := hs2 ▸ HLL.out (n + 1)
              have HL2 := Lib.hid hl2
              have HT5 := Lib.hid (show TQ U wx w5 B1 s2 B2 s2 from by rw [← hs2, HST2.out]; exact HT45.out)
              have HS2 := Lib.hid hs2
              clear hs2 HF HST2 HSTEP
              go_upto_region 25 with fail
              go_wp2_with fail
              refine (HT5.out.leans1 HOK2.out).mono ?_
              rintro e w6 ⟨⟨gx, cp, U2, rfl, hcp, hrow, hgx, hnU, ht6, hu2⟩, hf6⟩
              have hlp := Bst.leans_len s2
              rw [hl2] at hcp hlp ⊢
              have HROW := Lib.hid hrow
              have HNU := Lib.hid hnU
              have HGX := Lib.hid (show gx < w6.heap.size from hrow.lt)
              have HGX2 := Lib.hid (show w.heap.size ≤ gx from Nat.le_trans HLW.out.size hgx)
              have HT6 := Lib.hid ht6
              have HLW6 := Lib.hid (HLW.out.trans (hf6.to_below HLW.out.size HU.out))
              have HU2 := Lib.hid (show ∀ b, U2 b → w.heap.size ≤ b from fun b hb => (hu2 b hb).elim (HU.out b) (fun h => Nat.le_trans HLW.out.size h))
              clear hrow hgx hnU ht6 hu2 hf6 HT5 HTP
              have hgb := guess_bd s2
              obtain ⟨G, hG⟩ : ∃ G, s2.guess = G := ⟨_, rfl⟩
              rw [hG] at hgb
              have HG := Lib.hid hG
              have hbt := HOK2.out.bits
              obtain ⟨bb, hbb⟩ : ∃ bb, s2.bits = bb := ⟨_, rfl⟩
              rw [hbb] at hbt
              have HBB := Lib.hid hbb
              clear hG hbb
              go_upto_region 26 with fail
              refine wp_region_held_drew (S := (fun W : World => W.cell? ⟨B2, 2, none⟩ = some (.int .i64 (bb : Int)))) (by kernel_rfl) (by obtain ⟨T, hT⟩ := HT6.out.drew.ref; rw [← HBB.out]; exact hT.bits) (fun hHeld => ?_)
              have ht7 := HT6.out.drew
              obtain ⟨w7, hw7⟩ : ∃ xq, w6.drew = xq := ⟨_, rfl⟩
              rw [hw7] at ht7 hHeld ⊢
              have HT7 := Lib.hid ht7
              clear ht7 hw7
              refine tkz (i := 0) (d := 108) rfl rfl ?_
              simp only [Act.put, zzA, zzB, zzC]
              refine tkz (i := 1) (d := 109) rfl rfl ?_
              simp only [Act.put, zzA, zzB, zzC]
              refine rdz (i := 2) rfl (fun K hK => ?_)
              go_simp
              obtain ⟨T2, hT2⟩ := HT7.out.ref
              refine (leansRS hT2 HOK2.out (by rw [HL2.out]; exact hn16)).mono ?_
              rintro e w8 ⟨⟨Aq, cq, rfl, hcq, hownq⟩, hb⟩
              rw [HL2.out] at hownq hcq ⊢
              have HT8 := Lib.hid (HT7.out.below hb)
              have HRQ := Lib.hid (Rd.of_own hownq)
              clear hownq hb hT2 hcq
              go_wp2_with fail
              refine hK.out _ _ (by obtain ⟨T, hT⟩ := HT8.out.ref; rw [← HBB.out]; exact hT.bits) (fun hHeld => ?_)
              clear hK K
              try simp only [Act.put, zzA, zzB, zzC]
              refine rdz (i := 3) rfl (fun K hK => ?_)
              go_simp
              refine (sameI_refl s2.leans (some ⟨gx, 0, none⟩) Aq n0 cp cq w8 hlp.symm ((HROW.out.frm HT8.out.frm HNU.out).rd) HRQ.out (by omega)).mono ?_
              rintro e w9 ⟨rfl, hb⟩
              have HT9 := Lib.hid (HT8.out.below hb)
              clear hb
              go_wp2_with fail
              refine hK.out _ _ (by obtain ⟨T, hT⟩ := HT9.out.ref; rw [← HBB.out]; exact hT.bits) (fun hHeld => ?_)
              clear hK K
              try simp only [Act.put, zzA, zzB, zzC]
              refine tkz (i := 4) (d := 112) rfl rfl ?_
              simp only [Act.put, zzA, zzB, zzC]
              refine tkz (i := 5) (d := 113) rfl rfl ?_
              simp only [Act.put, zzA, zzB, zzC]
              refine tkz (i := 6) (d := 114) rfl rfl ?_
              simp only [Act.put, zzA, zzB, zzC]
              refine tkz (i := 8) (d := 116) rfl rfl ?_
              simp only [Act.put, zzA, zzB, zzC]
              refine rdz (i := 7) rfl (fun K hK => ?_)
              go_simp
              refine (HT9.out.one (fun T hT hb => guessS hb HOK2.out)).mono ?_
              rintro e w10 ⟨rfl, ht⟩
              rw [HG.out]
              have HT10 := Lib.hid ht
              clear ht
              go_wp2_with fail
              refine hK.out _ _ (by obtain ⟨T, hT⟩ := HT10.out.ref; rw [← HBB.out]; exact hT.bits) (fun hHeld => ?_)
              clear hK K
              try simp only [Act.put, zzA, zzB, zzC]
              refine rdz (i := 9) rfl (fun K hK => ?_)
              go_simp
              obtain ⟨T3, hT3⟩ := HT10.out.ref
              refine (guessRS hT3 HOK2.out (by rw [HL2.out]; exact hn16)).mono ?_
              rintro e w11 ⟨rfl, hb⟩
              rw [HG.out]
              have HT11 := Lib.hid (HT10.out.below hb)
              clear hb hT3
              go_wp2_with fail
              refine hK.out _ _ (by obtain ⟨T, hT⟩ := HT11.out.ref; rw [← HBB.out]; exact hT.bits) (fun hHeld => ?_)
              clear hK K
              try simp only [Act.put, zzA, zzB, zzC]
              refine tkz (i := 10) (d := 118) rfl rfl ?_
              simp only [Act.put, zzA, zzB, zzC]
              refine tkz (i := 11) (d := 119) rfl rfl ?_
              simp only [Act.put, zzA, zzB, zzC]
              refine tkz (i := 12) (d := 120) rfl rfl ?_
              simp only [Act.put, zzA, zzB, zzC]
              refine tkz (i := 13) (d := 121) rfl rfl ?_
              simp only [Act.put, zzA, zzB, zzC]
              refine tkz (i := 15) (d := 123) rfl rfl ?_
              simp only [Act.put, zzA, zzB, zzC]
              refine tkz (i := 16) (d := 124) rfl rfl ?_
              simp only [Act.put, zzA, zzB, zzC]
              refine tkz (i := 17) (d := 125) rfl rfl ?_
              simp only [Act.put, zzA, zzB, zzC]
              refine tkz (i := 18) (d := 126) rfl rfl ?_
              simp only [Act.put, zzA, zzB, zzC]
              refine rdz (i := 14) rfl (fun K hK => ?_)
              go_simp
              obtain ⟨T4, hT4⟩ := HT11.out.prog
              refine (bitsS hT4 HOK2.out).mono ?_
              rintro e w12 ⟨rfl, hs⟩
              rw [hs, HBB.out]
              clear hs w12 hT4
              go_wp2_with fail
              refine hK.out _ _ (by obtain ⟨T, hT⟩ := HT11.out.ref; rw [← HBB.out]; exact hT.bits) (fun hHeld => ?_)
              clear hK K
              try simp only [Act.put, zzA, zzB, zzC]
              refine tkz (i := 19) (d := 127) rfl rfl ?_
              simp only [Act.put, zzA, zzB, zzC]
              refine tkz (i := 20) (d := 128) rfl rfl ?_
              simp only [Act.put, zzA, zzB, zzC]
              refine wpAnyH_done (by kernel_rfl) ?_ _
              have HRX := Lib.hid (HROW.out.frm HT11.out.frm HNU.out)
              clear HT7 HT8 HT9 HT10 HRQ hgb hbt
              go_wp2_with fail
              go_loopw [131] (fun v wq => ∃ j : Nat, j ≤ n0 ∧ v = .int .i64 j ∧ ∃ xs, Row wq gx 3 xs ∧ n0 ≤ xs.length ∧ Frm (fun b => b = gx) w11 wq) (fun v _ => n0 - (intOf v).toNat)
              case atStart => exact ⟨0, by omega, rfl, _, HRX.out, by rw [ints_length, hlp]; omega, Frm.refl _ _⟩
              case round =>
                obtain ⟨j, hj, rfl, xs, hrx, hxl, hfx⟩ := hrel
                have HFX := Lib.hid hfx
                have HR := Lib.hid hrx
                by_cases hjl : j < n0
                · have hji : (j : Int) < n0 := by omega
                  have HXL := Lib.hid (show j < xs.length by omega)
                  have HXN := Lib.hid hxl
                  have cx := hrx.at (List.getElem?_eq_getElem HXL.out)
                  have fx := hrx.frozen j
                  clear hrx hfx hxl
                  go_wp2
                  go_roundw
                  case rel => exact ⟨j + 1, by omega, by go_num, _, HR.out.set HXL.out _, by rw [List.length_set]; exact HXN.out, HFX.out.setCell (p := ⟨gx, j, none⟩) (fun _ => rfl) _⟩
                  case measure => simp [intOf]; omega
                · obtain rfl : j = n0 := by omega
                  have HTR2 := Lib.hid ((HT11.out.other HNU.out HGX.out hfx).tr (fun b hb => hb.elim (HU2.out b) (fun e => by rw [e]; exact HGX2.out)) HLW6.out)
                  clear hrx hfx hxl
                  go_wp2
                  go_roundw
                  case rel => exact ⟨n + 1, by omega, by omega, by go_num, by rw [HS2.out]; exact HTR2.out⟩
                  case measure => simp [intOf]; omega
            · have hk0b : (k == 0) = false := by simpa using hk0
              have HST2 := Lib.hid (show runA S0 acts (n + 1) = (runA S0 acts n).doBit bit from HSTEP.out.trans (if_neg hk0))
              clear hk0
              have HWX := Lib.hid (show Below w2.heap.size w2 w2 from Below.refl _ _)
              obtain ⟨U, htp, hU⟩ := HTR.out.tq HAL.out
              have hlw := bl_step HTR.out.low HAL.out
              have hug : ¬ U g10 := fun h => by have h1 := (hU _ h).2; have h2 := HG10.out; omega
              have HLW := Lib.hid hlw
              have HU := Lib.hid (show ∀ b, U b → w.heap.size ≤ b from fun b hb => (hU b hb).1)
              have HTP := Lib.hid htp
              obtain ⟨r, hr⟩ : ∃ r, bitR bit = r := ⟨_, rfl⟩
              have HRR := Lib.hid hr
              go_upto_region 23 with fail
              obtain ⟨wx, hwx⟩ : ∃ xq, w2 = xq := ⟨_, rfl⟩
              subst hwx
              have HF := Lib.hid (show ∀ W : World, Frm U w2 W → W.cell? ⟨g10, 2, none⟩ = some (.int .i64 bit) ∧ Frm U w2 W from fun W hL => ⟨(hL.cell (block_lt_of_cell x2) hug).trans x2, hL⟩)
              clear hr hU hug htp hlw x2 x1 x0 HTR
              refine wp_region_held_drew (S := (fun W : World => W.cell? ⟨g10, 2, none⟩ = some (.int .i64 bit) ∧ Frm U w2 W)) (by kernel_rfl) (HF.out _ (Frm.refl _ w2).drew) (fun hHeld => ?_)
              have HT2 := Lib.hid HTP.out.drew
              refine tkz (i := 0) (d := 97) rfl rfl ?_
              simp only [Act.put, zzA, zzB, zzC]
              refine tkz (i := 1) (d := 98) rfl rfl ?_
              simp only [Act.put, zzA, zzB, zzC]
              refine tkz (i := 2) (d := 99) rfl rfl ?_
              simp only [Act.put, zzA, zzB, zzC]
              refine tkz (i := 4) (d := 101) rfl rfl ?_
              simp only [Act.put, zzA, zzB, zzC]
              refine tkz (i := 5) (d := 102) rfl rfl ?_
              simp only [Act.put, zzA, zzB, zzC]
              refine tkz (i := 6) (d := 103) rfl rfl ?_
              simp only [Act.put, zzA, zzB, zzC]
              refine rdz (i := 3) rfl (fun K hK => ?_)
              go_simp
              refine (HT2.out.one (fun T hT hb => bit_all hb (HOK.out n) (HWH.out n hn2) bit)).mono ?_
              rintro e w3 ⟨rfl, ht⟩
              rw [HRR.out]
              have HT3 := Lib.hid ht
              clear ht
              go_wp2_with fail
              refine hK.out _ _ (HF.out _ HT3.out.frm) (fun hHeld => ?_)
              clear hK K
              try simp only [Act.put, zzA, zzB, zzC]
              refine rdz (i := 7) rfl (fun K hK => ?_)
              go_simp
              refine (HT3.out.two (fun T hT hb => learnRS hb (HOK.out n) (by rw [HLL.out]; exact hn16) (HWH.out n hn2) bit)).mono ?_
              rintro e w4 ⟨rfl, ht⟩
              rw [HRR.out]
              have HT4 := Lib.hid ht
              clear ht
              go_wp2_with fail
              refine hK.out _ _ (HF.out _ HT4.out.frm) (fun hHeld => ?_)
              clear hK K
              try simp only [Act.put, zzA, zzB, zzC]
              refine tkz (i := 8) (d := 105) rfl rfl ?_
              simp only [Act.put, zzA, zzB, zzC]
              refine wpAnyH_done (by kernel_rfl) ?_ _
              clear HT2 HT3
              obtain ⟨s2, hs2⟩ : ∃ s2, runA S0 acts (n + 1) = s2 := ⟨_, rfl⟩
              have HOK2 := Lib.hid (show s2.Ok from hs2 ▸ HOK.out (n + 1))
              have hl2 : s2.us.length = n0 := hs2 ▸ HLL.out (n + 1)
              have HL2 := Lib.hid hl2
              have HT5 := Lib.hid (show TQ U w2 w4 B1 s2 B2 s2 from by rw [← hs2, HST2.out]; exact HT4.out)
              have HS2 := Lib.hid hs2
              clear hs2 HF HST2 HSTEP
              go_upto_region 25 with fail
              go_wp2_with fail
              refine (HT5.out.leans1 HOK2.out).mono ?_
              rintro e w6 ⟨⟨gx, cp, U2, rfl, hcp, hrow, hgx, hnU, ht6, hu2⟩, hf6⟩
              have hlp := Bst.leans_len s2
              rw [hl2] at hcp hlp ⊢
              have HROW := Lib.hid hrow
              have HNU := Lib.hid hnU
              have HGX := Lib.hid (show gx < w6.heap.size from hrow.lt)
              have HGX2 := Lib.hid (show w.heap.size ≤ gx from Nat.le_trans HLW.out.size hgx)
              have HT6 := Lib.hid ht6
              have HLW6 := Lib.hid (HLW.out.trans (hf6.to_below HLW.out.size HU.out))
              have HU2 := Lib.hid (show ∀ b, U2 b → w.heap.size ≤ b from fun b hb => (hu2 b hb).elim (HU.out b) (fun h => Nat.le_trans HLW.out.size h))
              clear hrow hgx hnU ht6 hu2 hf6 HT5 HTP
              have hgb := guess_bd s2
              obtain ⟨G, hG⟩ : ∃ G, s2.guess = G := ⟨_, rfl⟩
              rw [hG] at hgb
              have HG := Lib.hid hG
              have hbt := HOK2.out.bits
              obtain ⟨bb, hbb⟩ : ∃ bb, s2.bits = bb := ⟨_, rfl⟩
              rw [hbb] at hbt
              have HBB := Lib.hid hbb
              clear hG hbb
              go_upto_region 26 with fail
              refine wp_region_held_drew (S := (fun W : World => W.cell? ⟨B2, 2, none⟩ = some (.int .i64 (bb : Int)))) (by kernel_rfl) (by obtain ⟨T, hT⟩ := HT6.out.drew.ref; rw [← HBB.out]; exact hT.bits) (fun hHeld => ?_)
              have ht7 := HT6.out.drew
              obtain ⟨w7, hw7⟩ : ∃ xq, w6.drew = xq := ⟨_, rfl⟩
              rw [hw7] at ht7 hHeld ⊢
              have HT7 := Lib.hid ht7
              clear ht7 hw7
              refine tkz (i := 0) (d := 108) rfl rfl ?_
              simp only [Act.put, zzA, zzB, zzC]
              refine tkz (i := 1) (d := 109) rfl rfl ?_
              simp only [Act.put, zzA, zzB, zzC]
              refine rdz (i := 2) rfl (fun K hK => ?_)
              go_simp
              obtain ⟨T2, hT2⟩ := HT7.out.ref
              refine (leansRS hT2 HOK2.out (by rw [HL2.out]; exact hn16)).mono ?_
              rintro e w8 ⟨⟨Aq, cq, rfl, hcq, hownq⟩, hb⟩
              rw [HL2.out] at hownq hcq ⊢
              have HT8 := Lib.hid (HT7.out.below hb)
              have HRQ := Lib.hid (Rd.of_own hownq)
              clear hownq hb hT2 hcq
              go_wp2_with fail
              refine hK.out _ _ (by obtain ⟨T, hT⟩ := HT8.out.ref; rw [← HBB.out]; exact hT.bits) (fun hHeld => ?_)
              clear hK K
              try simp only [Act.put, zzA, zzB, zzC]
              refine rdz (i := 3) rfl (fun K hK => ?_)
              go_simp
              refine (sameI_refl s2.leans (some ⟨gx, 0, none⟩) Aq n0 cp cq w8 hlp.symm ((HROW.out.frm HT8.out.frm HNU.out).rd) HRQ.out (by omega)).mono ?_
              rintro e w9 ⟨rfl, hb⟩
              have HT9 := Lib.hid (HT8.out.below hb)
              clear hb
              go_wp2_with fail
              refine hK.out _ _ (by obtain ⟨T, hT⟩ := HT9.out.ref; rw [← HBB.out]; exact hT.bits) (fun hHeld => ?_)
              clear hK K
              try simp only [Act.put, zzA, zzB, zzC]
              refine tkz (i := 4) (d := 112) rfl rfl ?_
              simp only [Act.put, zzA, zzB, zzC]
              refine tkz (i := 5) (d := 113) rfl rfl ?_
              simp only [Act.put, zzA, zzB, zzC]
              refine tkz (i := 6) (d := 114) rfl rfl ?_
              simp only [Act.put, zzA, zzB, zzC]
              refine tkz (i := 8) (d := 116) rfl rfl ?_
              simp only [Act.put, zzA, zzB, zzC]
              refine rdz (i := 7) rfl (fun K hK => ?_)
              go_simp
              refine (HT9.out.one (fun T hT hb => guessS hb HOK2.out)).mono ?_
              rintro e w10 ⟨rfl, ht⟩
              rw [HG.out]
              have HT10 := Lib.hid ht
              clear ht
              go_wp2_with fail
              refine hK.out _ _ (by obtain ⟨T, hT⟩ := HT10.out.ref; rw [← HBB.out]; exact hT.bits) (fun hHeld => ?_)
              clear hK K
              try simp only [Act.put, zzA, zzB, zzC]
              refine rdz (i := 9) rfl (fun K hK => ?_)
              go_simp
              obtain ⟨T3, hT3⟩ := HT10.out.ref
              refine (guessRS hT3 HOK2.out (by rw [HL2.out]; exact hn16)).mono ?_
              rintro e w11 ⟨rfl, hb⟩
              rw [HG.out]
              have HT11 := Lib.hid (HT10.out.below hb)
              clear hb hT3
              go_wp2_with fail
              refine hK.out _ _ (by obtain ⟨T, hT⟩ := HT11.out.ref; rw [← HBB.out]; exact hT.bits) (fun hHeld => ?_)
              clear hK K
              try simp only [Act.put, zzA, zzB, zzC]
              refine tkz (i := 10) (d := 118) rfl rfl ?_
              simp only [Act.put, zzA, zzB, zzC]
              refine tkz (i := 11) (d := 119) rfl rfl ?_
              simp only [Act.put, zzA, zzB, zzC]
              refine tkz (i := 12) (d := 120) rfl rfl ?_
              simp only [Act.put, zzA, zzB, zzC]
              refine tkz (i := 13) (d := 121) rfl rfl ?_
              simp only [Act.put, zzA, zzB, zzC]
              refine tkz (i := 15) (d := 123) rfl rfl ?_
              simp only [Act.put, zzA, zzB, zzC]
              refine tkz (i := 16) (d := 124) rfl rfl ?_
              simp only [Act.put, zzA, zzB, zzC]
              refine tkz (i := 17) (d := 125) rfl rfl ?_
              simp only [Act.put, zzA, zzB, zzC]
              refine tkz (i := 18) (d := 126) rfl rfl ?_
              simp only [Act.put, zzA, zzB, zzC]
              refine rdz (i := 14) rfl (fun K hK => ?_)
              go_simp
              obtain ⟨T4, hT4⟩ := HT11.out.prog
              refine (bitsS hT4 HOK2.out).mono ?_
              rintro e w12 ⟨rfl, hs⟩
              rw [hs, HBB.out]
              clear hs w12 hT4
              go_wp2_with fail
              refine hK.out _ _ (by obtain ⟨T, hT⟩ := HT11.out.ref; rw [← HBB.out]; exact hT.bits) (fun hHeld => ?_)
              clear hK K
              try simp only [Act.put, zzA, zzB, zzC]
              refine tkz (i := 19) (d := 127) rfl rfl ?_
              simp only [Act.put, zzA, zzB, zzC]
              refine tkz (i := 20) (d := 128) rfl rfl ?_
              simp only [Act.put, zzA, zzB, zzC]
              refine wpAnyH_done (by kernel_rfl) ?_ _
              have HRX := Lib.hid (HROW.out.frm HT11.out.frm HNU.out)
              clear HT7 HT8 HT9 HT10 HRQ hgb hbt
              go_wp2_with fail
              go_loopw [131] (fun v wq => ∃ j : Nat, j ≤ n0 ∧ v = .int .i64 j ∧ ∃ xs, Row wq gx 3 xs ∧ n0 ≤ xs.length ∧ Frm (fun b => b = gx) w11 wq) (fun v _ => n0 - (intOf v).toNat)
              case atStart => exact ⟨0, by omega, rfl, _, HRX.out, by rw [ints_length, hlp]; omega, Frm.refl _ _⟩
              case round =>
                obtain ⟨j, hj, rfl, xs, hrx, hxl, hfx⟩ := hrel
                have HFX := Lib.hid hfx
                have HR := Lib.hid hrx
                by_cases hjl : j < n0
                · have hji : (j : Int) < n0 := by omega
                  have HXL := Lib.hid (show j < xs.length by omega)
                  have HXN := Lib.hid hxl
                  have cx := hrx.at (List.getElem?_eq_getElem HXL.out)
                  have fx := hrx.frozen j
                  clear hrx hfx hxl
                  go_wp2
                  go_roundw
                  case rel => exact ⟨j + 1, by omega, by go_num, _, HR.out.set HXL.out _, by rw [List.length_set]; exact HXN.out, HFX.out.setCell (p := ⟨gx, j, none⟩) (fun _ => rfl) _⟩
                  case measure => simp [intOf]; omega
                · obtain rfl : j = n0 := by omega
                  have HTR2 := Lib.hid ((HT11.out.other HNU.out HGX.out hfx).tr (fun b hb => hb.elim (HU2.out b) (fun e => by rw [e]; exact HGX2.out)) HLW6.out)
                  clear hrx hfx hxl
                  go_wp2
                  go_roundw
                  case rel => exact ⟨n + 1, by omega, by omega, by go_num, by rw [HS2.out]; exact HTR2.out⟩
                  case measure => simp [intOf]; omega
          · have HEX := Lib.hid HTR.out.low
            by_cases hlt1 : n < n1
            · have hi1 : (n : Int) < n1 := by omega
              have hi4 : ¬ (n : Int) < 250 := by omega
              go_wp2_with fail
              refine (awake_any _).mono ?_
              rintro e w5 ⟨rfl, hb5⟩
              have HB5 := Lib.hid hb5
              clear hb5
              go_wp2
              go_ret
              exact ⟨rfl, bl_step HEX.out HB5.out⟩
            · have hi1 : ¬ (n : Int) < n1 := by omega
              go_wp2_with fail
              refine (awake_any _).mono ?_
              rintro e w5 ⟨rfl, hb5⟩
              have HB5 := Lib.hid hb5
              clear hb5
              go_wp2
              go_ret
              exact ⟨rfl, bl_step HEX.out HB5.out⟩
  · rw [if_neg hr] at hxb
    obtain ⟨q, hq⟩ : ∃ q, rightP ts = q := ⟨_, rfl⟩
    rw [hq] at hxb
    have hq0 : ¬ q = 0 := by rw [← hq]; exact hr
    have HQ := Lib.hid hq
    subst hxb
    clear hq
    go_wp2_with fail
    refine (new14 ts A0 n0 c0 wb HN0.out (HR0.out.below HBB2.out rfl)).mono ?_
    rintro e wc ⟨hbc, hxc⟩
    rw [if_neg hr, HQ.out] at hxc
    subst hxc
    clear hr
    have HBC := Lib.hid (bl_step HBB2.out hbc)
    have HOIC := Lib.hid (own_below (own_below HOI.out HBB.out) hbc)
    clear hbc
    go_wp2_with fail
    refine (sameP_any ts Ai A0 n0 ci c0 wc HN0.out (rd_pts HOIC.out) (HR0.out.below HBC.out rfl) HS0.out).mono ?_
    rintro e wd ⟨rfl, hbd⟩
    have HBD := Lib.hid (bl_step HBC.out hbd)
    have gq : (q != 0) = true := by simpa using hq0
    clear hbd HOIC
    go_wp2_with fail
    refine (guessNil wd).mono ?_
    rintro e we ⟨rfl, hs⟩
    rw [hs]
    clear hs we
    go_wp2_with fail
    refine (awake_any wd).mono ?_
    rintro e w3 ⟨rfl, hb3⟩
    have HB3 := Lib.hid hb3
    clear hb3
    go_wp2
    go_ret
    exact ⟨rfl, bl_step HBD.out HB3.out⟩
set_option maxRecDepth 100000 in
theorem tells_law {H : Type} {enc : TypeId × Value → H} {base : Nat} {d0 d1 : DataW H} {p0 p1 : List MemPlace} (v0 v1 : Value) (w : World) (hv0 : Value.okWide Try.prog w .any base 30 v0) (hk0 : DataW.Trod enc Try.prog w 0 (fun _ => true) true 30 v0 d0 p0) (hw0 : (d0.weights Try.prog 30).all (· ≤ reachBytes) = true) (hv1 : Value.okWide Try.prog w .any base 35 v1) (hk1 : DataW.Trod enc Try.prog w 0 (fun _ => true) true 35 v1 d1 p1) (hw1 : (d1.weights Try.prog 35).all (· ≤ reachBytes) = true) :
    Calls Try.prog 4 #[v0, v1] w (Quiet (.bool true) w) := by
  obtain ⟨ts, A0, c0, rfl, hok, hr0, _, _⟩ := open_pts hv0 hk0
  have hs0 := pts_size (base := base) hk0 hw0
  obtain ⟨A1, n1, c1, acts, rfl, hn1, hac, hr1, hm1⟩ := open_acts hv1 hk1 hw1
  exact tells_walk ts acts A0 A1 _ c0 n1 c1 w rfl hok hr0 hs0 hn1.symm hac hr1 hm1
end Go.Proofs.Ytnohfeaamfjimaa
