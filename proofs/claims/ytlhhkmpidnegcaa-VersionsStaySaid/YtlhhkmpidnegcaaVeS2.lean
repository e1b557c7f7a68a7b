/- VersionsStay: the walk. Condition: none. -/
import Derived.Test.YtlhhkmpidnegcaaVeS1
namespace Go.Proofs.Ytlhhkmpidnegcaa
open Go.RowKit Go.WideShapes
set_option linter.unusedVariables false
set_option linter.unusedSimpArgs false
set_option maxRecDepth 100000 in
set_option maxHeartbeats 400000000 in
theorem stays3 (ss : List Stp) (A : Option Addr) (n c : Nat) (w : World) (hn : ss.length = n) (hrd : ∀ s ∈ ss, s.rd w) (hr : Rd w A (ss.flatMap Stp.cells)) (hm : n ≤ maxLen) : Calls Try.prog 3 #[.slice A n c] w (Quiet (.bool true) w) := by
  have hm' : n ≤ 9223372036854775807 := by unfold maxLen at hm; omega
  have HN := Lib.hid hn
  have HRD := Lib.hid hrd
  have HR := Lib.hid hr
  clear hn hrd hr hm
  go_enter Try.func3, Try.ntmps3
  go_wp2_with fail
  refine (newT_any w).mono ?_
  rintro e w1 ⟨⟨gt, gi, mb, rfl, hT1⟩, hb1⟩
  have HS1 := Lib.hid (show AllS w.heap.size gt gi mb ⟨0, [], []⟩ 0 (.slice none 0 0) w1 from ⟨_, _, _, [], hT1, ⟨rfl, .inl ⟨rfl, rfl⟩⟩, ⟨fun i ds h => by simp at h⟩, fun k hk => by simp [Value.ownBlock] at hk⟩)
  have HB1 := Lib.hid hb1
  clear hT1 hb1
  go_wp2_with fail
  go_loopw [4, 5] (fun all i wr => ∃ (k : Nat) (T : Tab) (nst : Nat), k ≤ n ∧ k ≤ 20 ∧ i = .int .i64 k ∧ nst ≤ 300 * k ∧ AllS w.heap.size gt gi mb T nst all wr ∧ Below w.heap.size w wr) (fun _ i _ => n - (intOf i).toNat)
  case atStart => exact ⟨0, _, 0, by omega, by omega, rfl, by omega, HS1.out, HB1.out⟩
  case round =>
    obtain ⟨k, T, nst, hk, hk20, rfl, hnst, hall, hlow⟩ := hrel
    obtain ⟨wo, rfl⟩ : ∃ x : World, x = wr := ⟨_, rfl⟩
    obtain ⟨v, V, xs, ys, hT, hrow, hvs, hne⟩ := hall.ex
    have HALL := Lib.hid hall
    have HLOW := Lib.hid hlow
    have HT := Lib.hid hT
    have HROW := Lib.hid hrow
    have HVS := Lib.hid hvs
    have HNE := Lib.hid hne
    obtain ⟨Aa, ca, rfl, hca⟩ := own_slice hrow
    have hvl : T.vs.length ≤ 100 := hT.vl
    clear hall hlow hT hrow hvs hne
    by_cases hgo : k < n ∧ k < 20
    · obtain ⟨hlt, h20⟩ := hgo
      obtain ⟨s, hs⟩ : ∃ s, ss[k]? = some s := ⟨_, List.getElem?_eq_getElem (by rw [HN.out]; exact hlt)⟩
      have hsr := HRD.out s (List.mem_of_getElem? hs)
      obtain ⟨b1, o1, rfl, hb1lt, hcs⟩ := HR.out (by rw [flat_len Stp.cells 4 (fun _ => rfl), HN.out]; omega)
      have hce : ∀ j u, j < 4 → s.cells[j]? = some u → wo.cell? ⟨b1, o1 + k * 4 + j, none⟩ = some u := fun j u hj hu => by
        have h1 := flat_at Stp.cells 4 (fun _ => rfl) ss k j s hs hj
        rw [hu] at h1
        have h2 := hcs (k * 4 + j) u h1
        rw [← Nat.add_assoc] at h2
        exact (HLOW.out.cell (p := ⟨b1, o1 + k * 4 + j, none⟩) hb1lt).trans h2
      have c0 := hce 0 _ (by omega) rfl
      have c1 := hce 1 _ (by omega) rfl
      have c2 := hce 2 _ (by omega) rfl
      have c3 := hce 3 _ (by omega) rfl
      rw [Nat.add_zero] at c0
      obtain ⟨sb, Ap, np, cp, pcs, roll, Af, nf, cf, fs⟩ := s
      simp only at c0 c1 c2 c3
      have HSR := Lib.hid hsr
      have hkn : (k : Int) < n := by omega
      have hk2 : (k : Int) < 20 := by omega
      have hb1w : b1 < wo.heap.size := Nat.lt_of_lt_of_le hb1lt HLOW.out.size
      have HW1 := Lib.hid (Blk.new wo 31 #[.int .i64 sb, .slice Ap np cp, .int .i64 roll, .slice Af nf cf])
      have HWB := Lib.hid ((Below.refl wo.heap.size wo).alloc (Nat.le_refl _) (.cells #[.int .i64 sb, .slice Ap np cp, .int .i64 roll, .slice Af nf cf] 31))
      clear hsr hcs hce hs
      by_cases h300 : np ≤ 300 ∧ nf ≤ 300
      · obtain ⟨hp3, hf3⟩ := h300
        have d1 : decide ((300 : Int) < (np : Int)) = false := decide_eq_false (by omega)
        have d2 : decide ((300 : Int) < (nf : Int)) = false := decide_eq_false (by omega)
        go_wp2_with fail
        have hT1 := HT.out.below HWB.out
        obtain ⟨hbl, hroll, hnp, hoks, hps, hnf, hfs, hnms, hfnil, _, _⟩ := HSR.out
        simp only at hbl hroll hnp hoks hps hnf hfs hnms hfnil
        have hchain : ∀ W, Frm (Sg gt gi mb v) (wo.alloc (.cells #[.int .i64 sb, .slice Ap np cp, .int .i64 roll, .slice Af nf cf] 31)) W → Below w.heap.size w W := fun W hW =>
          (HLOW.out.alloc HLOW.out.size _).trans (hW.to_below (by have := HLOW.out.size; simp; omega) fun b hb => hT1.sg_ge b (.inl hb))
        have hap := apply_any sb roll pcs fs Ap Af np cp nf cf _ hT1 (fun W hW => hps.below (hchain W hW) rfl) hoks hnp (by omega) (fun W hW => hfs.below (hchain W hW)) hnf hnms hfnil (by omega) ⟨hroll.lo, hroll.hi⟩ ⟨hbl.lo, hbl.hi⟩ (by omega)
        have HAP := Lib.hid hap
        have HT1 := Lib.hid hT1
        have HFS := Lib.hid hfs
        have HNF := Lib.hid hnf
        have HPL := Lib.hid hnp
        clear hap hT1 hchain hbl hnp hoks hps hnf hfs hnms hfnil
        refine (HAP.out).mono ?_
        intro e w2 hap
        have hret := hap.ret
        obtain ⟨n2, hn2, hmid⟩ := mid_of HT1.out (own_below HROW.out HWB.out) (HVS.out.below HWB.out) HNE.out hap
        have hb2 := hap.below HT1.out
        have hbx : Blk w2 wo.heap.size 31 #[.int .i64 sb, .slice Ap np cp, .int .i64 roll, .slice Af nf cf] := HW1.out.frm hap.frm fun hs => by
          have hlt := HT.out.sg_lt
          rcases hs with h | h | h | h | h
          · exact absurd (hlt _ (.inl h)) (by omega)
          · exact absurd (hlt _ (.inr (.inl h))) (by omega)
          · exact absurd (hlt _ (.inr (.inr (.inl h)))) (by omega)
          · exact absurd (hlt _ (.inr (.inr (.inr h)))) (by omega)
          · exact absurd (own_lt HT.out.row _ h).2 (by omega)
        have HLOW2 := Lib.hid ((HLOW.out.alloc HLOW.out.size (.cells #[.int .i64 sb, .slice Ap np cp, .int .i64 roll, .slice Af nf cf] 31)).trans hb2)
        have m2 := hbx.cell 2
        have m3 := hbx.cell 3
        simp at m2 m3
        have HBX := Lib.hid hbx
        clear hap hb2 hbx HSR c0 c1 c2 c3 d1 d2
        have hn2' : n2 ≤ 300 * (k + 1) := by omega
        rcases applyT_cases T sb pcs roll (fs.map Fl.dat) with ⟨h1, h2⟩ | ⟨T', h1, h2, h3, h4, h5⟩
        · rw [h2] at hmid
          have HALL2 := Lib.hid hmid.same
          obtain ⟨er, her⟩ : ∃ er, (applyT T sb pcs roll (fs.map Fl.dat)).1 = er := ⟨_, rfl⟩
          rw [her] at hret h1
          have d9 : (er == 0) = false := by simp [h1]
          subst hret
          clear hmid h1 h2 her
          obtain ⟨v2, V2, xs2, ys2, hT2, hrow2, hvs2, hne2⟩ := HALL2.out.ex
          have hl9 := len9_any w2 hT2
          have HL9 := Lib.hid hl9
          have hvl2 := hT2.vl
          obtain ⟨L, hL⟩ : ∃ L, T.vs.length = L := ⟨_, rfl⟩
          have hfile : ∀ (W : World) (q : Nat), Below (w2).heap.size (w2) W → q < L → ∃ ds A6 n6 c6 fs6, (∃ b6 o6, Aa = some ⟨b6, o6, none⟩ ∧ ∀ W', Below W.heap.size W W' → W'.cell? ⟨b6, o6 + q, none⟩ = some (.slice A6 n6 c6)) ∧ fs6.length = n6 ∧ fs6.map Fl.dat = ds ∧ n6 ≤ 200 ∧ (∀ W', Below W.heap.size W W' → RdF W' A6 fs6) ∧ Calls Try.prog 10 #[.pointer (some ⟨gt, 0, none⟩), .int .i64 ((q : Int) + 1)] W (Files1 ds W) := fun W q hW hq => by
            obtain ⟨ds, hds⟩ : ∃ d, T.vs[q]? = some d := ⟨_, List.getElem?_eq_getElem (by omega)⟩
            obtain ⟨A6, n6, c6, fs6, k1, k2, k3, k4, k5, _⟩ := hvs2.at_ q ds hds
            obtain ⟨b6, o6, hA, hblt, hce⟩ := (Rd.of_own (own_below hrow2 hW)).at k1
            exact ⟨ds, A6, n6, c6, fs6, ⟨b6, o6, hA, fun W' hW' => (hW'.cell (p := ⟨b6, o6 + q, none⟩) hblt).trans hce⟩, k2, k3, k5, fun W' hW' => ((k4.below hW).rd k2).below hW', files_yes q ds W (hT2.below hW) hds⟩
          rw [hL] at HALL2 HL9 hvl2 ⊢
          have HFI := Lib.hid hfile
          have HLL := Lib.hid hL
          clear hl9 hT2 hrow2 hvs2 hne2 hfile hL
          go_wp2_with fail
          refine (HL9.out).mono ?_
          rintro e wl ⟨rfl, rfl⟩
          go_wp2_with fail
          go_loopw [8] (fun i wr => ∃ q : Nat, q ≤ L ∧ i = .int .i64 ((q : Int) + 1) ∧ Below (w2).heap.size (w2) wr) (fun i _ => L + 1 - (intOf i).toNat)
          case atStart => exact ⟨0, by omega, by first | rfl | go_num, Below.refl _ _⟩
          case round =>
            obtain ⟨q, hq, rfl, hbm⟩ := hrel
            obtain ⟨wm, rfl⟩ : ∃ x : World, x = wr := ⟨_, rfl⟩
            have HBM := Lib.hid hbm
            clear hbm
            by_cases hql : q < L
            · obtain ⟨ds, A6, n6, c6, fs6, ⟨b6, o6, hA6, hc6⟩, hl6, hd6, hn6, hr6, hcall⟩ := HFI.out wm q HBM.out hql
              subst hA6
              have HC6 := Lib.hid hc6
              have HL6 := Lib.hid hl6
              have HD6 := Lib.hid hd6
              have HR6 := Lib.hid hr6
              have HCALL := Lib.hid hcall
              clear hc6 hl6 hd6 hr6 hcall
              have e3 : wrap64 ((q : Int) + 1 - 1) = (q : Int) := by unfold wrap64; omega
              have e4 : (q : Int) + 1 - 1 = (q : Int) := by omega
              have e5 : (q : Int) < L := by omega
              have e6 : (q : Int) + 1 ≤ L := by omega
              go_wp2_with fail
              refine (HCALL.out).mono ?_
              rintro e w5 ⟨⟨A5, n5, c5, fs5, rfl, hc5, hl5, hd5, ho5, hn5⟩, hb5⟩
              have hcell6 := HC6.out w5 hb5
              have hsm := sameF_any fs5 fs6 A5 A6 n5 n6 c5 c6 w5 hl5 HL6.out (ho5.rd hl5) (HR6.out w5 hb5) (by omega)
              rw [show decide (fs5.map Fl.dat = fs6.map Fl.dat) = true from decide_eq_true (by rw [hd5, HD6.out])] at hsm
              have HSM := Lib.hid hsm
              have HB5 := Lib.hid hb5
              have HO5 := Lib.hid ho5
              have HL5 := Lib.hid hl5
              clear hsm hb5 ho5 hd5 hl5
              go_wp2_with fail
              refine (HSM.out).mono ?_
              intro e w6 hq6
              have hb6 := hq6.low
              obtain ⟨rfl, _⟩ := hq6
              have HB6 := Lib.hid (HB5.out.trans (hb6.mono HB5.out.size))
              have HO6 := Lib.hid (HO5.out.below hb6)
              clear hb6 e3 e4 hcell6
              go_wp2_with fail
              rcases Nat.eq_zero_or_pos n5 with h0 | h0
              · subst h0
                go_loopw [11] (fun i wr => i = .int .i64 0 ∧ w6 = wr) (fun i _ => 0)
                case atStart => exact ⟨rfl, rfl⟩
                case round =>
                  obtain ⟨rfl, rfl⟩ := hrel
                  go_wp2_with fail
                  go_roundw
                  case rel => exact ⟨q + 1, by omega, by go_num, HBM.out.trans (HB6.out.mono HBM.out.size)⟩
                  case measure => simp [intOf]; omega
              · obtain ⟨g, hA5⟩ : ∃ g, A5 = some ⟨g, 0, none⟩ := by
                  have h1 := HO6.out.own
                  rw [HL5.out] at h1
                  obtain ⟨g, _, hv, _⟩ := h1.form h0
                  injection hv with hv
                  exact ⟨g, hv⟩
                subst hA5
                obtain ⟨hwr, hg⟩ := wr_of HO6.out HL5.out
                have HWR := Lib.hid hwr
                clear hwr
                go_loopw [11] (fun i wr => ∃ j : Nat, j ≤ n5 ∧ i = .int .i64 j ∧ Wr g n5 fs5 wm.heap.size wr ∧ Below wm.heap.size wm wr) (fun i _ => n5 - (intOf i).toNat)
                case atStart => exact ⟨0, by omega, rfl, HWR.out, HB6.out⟩
                case round =>
                  obtain ⟨j, hj, rfl, hwr, hbj⟩ := hrel
                  by_cases hjl : j < n5
                  · obtain ⟨f, hf⟩ : ∃ f, fs5[j]? = some f := ⟨_, List.getElem?_eq_getElem (by rw [HL5.out]; exact hjl)⟩
                    obtain ⟨cur, hcur, hcs, hcj⟩ := hwr.row
                    have z0 := hcur.frozen (j * 2)
                    obtain ⟨u0, hu0⟩ : ∃ u, cur[j * 2]? = some u := ⟨_, Array.getElem?_eq_getElem (by omega)⟩
                    have k0 := hcur.cell (j * 2)
                    rw [hu0] at k0
                    have hwr1 := hwr.name (k := j) (.string ⟨#[111, 116, 104, 101, 114]⟩)
                    have hb1 := hbj.setCell (p := ⟨g, j * 2, none⟩) hg (.string ⟨#[111, 116, 104, 101, 114]⟩)
                    obtain ⟨cur1, hcur1, _, hcj1⟩ := hwr1.row
                    have k1 := hcur1.cell (j * 2 + 1)
                    rw [hcj1 j f hf] at k1
                    have HWR1 := Lib.hid hwr1
                    have HB1' := Lib.hid hb1
                    have hjn : (j : Int) < n5 := by omega
                    have hef := hwr1.each f (List.mem_of_getElem? hf)
                    obtain ⟨nm, fr, fA, fn, fc⟩ := f
                    simp only at k1 hef
                    rcases Nat.eq_zero_or_pos fn with hz | hz
                    · have d5 : decide ((0 : Int) < (fn : Int)) = false := decide_eq_false (by omega)
                      have d6 : decide (0 < fn) = false := decide_eq_false (by omega)
                      clear hwr hbj hcur hcs hcj hu0 hwr1 hb1 hcur1 hcj1 hef
                      go_wp2_with fail
                      go_roundw
                      case rel => exact ⟨j + 1, by omega, by go_num, HWR1.out, HB1'.out⟩
                      case measure => simp [intOf]; omega
                    · obtain ⟨fb, cfb, rfl, hfb, hbf, hsf⟩ := hef hz
                      have d5 : decide ((0 : Int) < (fn : Int)) = true := decide_eq_true (by omega)
                      have d6 : 0 < fn := hz
                      have z1 := hbf.frozen 0
                      obtain ⟨u1, hu1⟩ : ∃ u, cfb[0]? = some u := ⟨_, Array.getElem?_eq_getElem hsf⟩
                      have k2 := hbf.cell 0
                      rw [hu1] at k2
                      have HWR2 := Lib.hid (hwr1.num hbf (.int .i64 77))
                      have HB2' := Lib.hid (hb1.setCell (p := ⟨fb, 0, none⟩) hfb (.int .i64 77))
                      clear hwr hbj hcur hcs hcj hu0 hwr1 hb1 hcur1 hcj1 hef hbf hu1
                      go_wp2_with fail
                      go_roundw
                      case rel => exact ⟨j + 1, by omega, by go_num, HWR2.out, HB2'.out⟩
                      case measure => simp [intOf]; omega
                  · obtain ⟨j', hj'⟩ : ∃ x : Nat, x = 0 := ⟨_, rfl⟩
                    have HBJ := Lib.hid hbj
                    clear hbj hwr
                    go_wp2_with fail
                    go_roundw
                    case rel => exact ⟨q + 1, by omega, by go_num, HBM.out.trans (HBJ.out.mono HBM.out.size)⟩
                    case measure => simp [intOf]; omega
            · have hqe : (L : Int) ≤ q := by omega
              have e6 : decide ((q : Int) + 1 ≤ L) = false := decide_eq_false (by omega)
              have HF2 := Lib.hid (HALL2.out.below HBM.out)
              have HLF := Lib.hid (HLOW2.out.trans (HBM.out.mono HLOW2.out.size))
              go_wp2_with fail
              go_roundw
              case rel => exact ⟨k + 1, T, n2, by omega, by omega, by go_num, by omega, HF2.out, HLF.out⟩
              case measure => simp [intOf]; omega
        · rw [h1] at hret hmid
          subst hret
          have HMID := Lib.hid (show MidS w.heap.size gt gi mb T.vs T' n2 (.slice Aa T.vs.length ca) ys w2 from hmid)
          have HV2 := Lib.hid h2
          clear hmid h1 h2
          rcases Int.lt_or_le 0 roll with hr0 | hr0
          · obtain ⟨j, rfl⟩ : ∃ j : Nat, roll = (j : Int) + 1 := ⟨(roll - 1).toNat, by omega⟩
            have hjl : j < T.vs.length := by omega
            obtain ⟨dj, hdj⟩ : ∃ d, T.vs[j]? = some d := ⟨_, List.getElem?_eq_getElem hjl⟩
            obtain ⟨A6, n6, c6, fs6, k1, k2, k3, k4, k5, k6, k7⟩ := HMID.out.vs.at_ j dj hdj
            obtain ⟨b6, o6, rfl, _, hc6⟩ := (Rd.of_own HMID.out.row).at k1
            have hvs2 : T'.vs = T.vs ++ [dj] := by
              rw [HV2.out, if_pos (by omega), List.getD_eq_getElem?_getD, show ((j : Int) + 1).toNat - 1 = j by omega, hdj]
              rfl
            have HU := Lib.hid (show ∃ fs : List Fl, fs.length = n6 ∧ fs.map Fl.dat = dj ∧ OwnF w.heap.size w2 (.slice A6 n6 c6) fs ∧ n6 ≤ 200 ∧ (∀ f ∈ fs, f.n ≤ 131072) ∧ (A6 = none → n6 = 0 ∧ c6 = 0) from ⟨fs6, k2, k3, k4, k5, k6, k7⟩)
            have HV3 := Lib.hid hvs2
            have hs2 := HLOW2.out.size
            have HRW := Lib.hid HMID.out.row
            clear k1 k2 k3 k4 k5 k6 k7 hvs2 hdj
            have e3 : wrap64 ((j : Int) + 1 - 1) = (j : Int) := by unfold wrap64; omega
            have e4 : (j : Int) + 1 - 1 = (j : Int) := by omega
            have e5 : (j : Int) < T.vs.length := by omega
            have e7 : decide ((0 : Int) < (j : Int) + 1) = true := decide_eq_true (by omega)
            have e8 : decide ((T.vs.length : Int) < (j : Int) + 1) = false := decide_eq_false (by omega)
            go_wp2_with (at_builtin; refine wpList_appV rfl (.tmp 58) (.tmp 66) rfl w.heap.size (.slice (some ⟨b6, o6, none⟩) T.vs.length ca) T.vs.length ys rfl HRW.out (.slice A6 n6 c6) rfl w2.heap.size rfl rfl (by omega) hs2 ?_; intro v3 w3 o3 hg3 hn3)
            have hall3 := HMID.out.more HV3.out HU.out hg3 o3 hn3
            have hlow3 := (HLOW2.out.alloc HLOW2.out.size (.cells #[.slice A6 n6 c6] 27)).grown hg3 (by simp; omega) (own_ge HRW.out)
            have hlen3 : T'.vs.length = T.vs.length + 1 := by rw [HV3.out, List.length_append]; rfl
            obtain ⟨A3, c3', rfl, _⟩ := own_slice o3
            rw [← hlen3] at hall3 ⊢
            have HALL2 := Lib.hid hall3
            clear HLOW2
            have HLOW2 := Lib.hid hlow3
            clear hall3 hlow3 o3 hg3 hn3 hlen3 e3 e4 e5 e7 e8 hs2 hc6 m2 m3
            obtain ⟨v2, V2, xs2, ys2, hT2, hrow2, hvs2, hne2⟩ := HALL2.out.ex
            have hl9 := len9_any w3 hT2
            have HL9 := Lib.hid hl9
            have hvl2 := hT2.vl
            obtain ⟨L, hL⟩ : ∃ L, T'.vs.length = L := ⟨_, rfl⟩
            have hfile : ∀ (W : World) (q : Nat), Below (w3).heap.size (w3) W → q < L → ∃ ds A6 n6 c6 fs6, (∃ b6 o6, A3 = some ⟨b6, o6, none⟩ ∧ ∀ W', Below W.heap.size W W' → W'.cell? ⟨b6, o6 + q, none⟩ = some (.slice A6 n6 c6)) ∧ fs6.length = n6 ∧ fs6.map Fl.dat = ds ∧ n6 ≤ 200 ∧ (∀ W', Below W.heap.size W W' → RdF W' A6 fs6) ∧ Calls Try.prog 10 #[.pointer (some ⟨gt, 0, none⟩), .int .i64 ((q : Int) + 1)] W (Files1 ds W) := fun W q hW hq => by
              obtain ⟨ds, hds⟩ : ∃ d, T'.vs[q]? = some d := ⟨_, List.getElem?_eq_getElem (by omega)⟩
              obtain ⟨A6, n6, c6, fs6, k1, k2, k3, k4, k5, _⟩ := hvs2.at_ q ds hds
              obtain ⟨b6, o6, hA, hblt, hce⟩ := (Rd.of_own (own_below hrow2 hW)).at k1
              exact ⟨ds, A6, n6, c6, fs6, ⟨b6, o6, hA, fun W' hW' => (hW'.cell (p := ⟨b6, o6 + q, none⟩) hblt).trans hce⟩, k2, k3, k5, fun W' hW' => ((k4.below hW).rd k2).below hW', files_yes q ds W (hT2.below hW) hds⟩
            rw [hL] at HALL2 HL9 hvl2 ⊢
            have HFI := Lib.hid hfile
            have HLL := Lib.hid hL
            clear hl9 hT2 hrow2 hvs2 hne2 hfile hL
            go_wp2_with fail
            refine (HL9.out).mono ?_
            rintro e wl ⟨rfl, rfl⟩
            go_wp2_with fail
            go_loopw [8] (fun i wr => ∃ q : Nat, q ≤ L ∧ i = .int .i64 ((q : Int) + 1) ∧ Below (w3).heap.size (w3) wr) (fun i _ => L + 1 - (intOf i).toNat)
            case atStart => exact ⟨0, by omega, by first | rfl | go_num, Below.refl _ _⟩
            case round =>
              obtain ⟨q, hq, rfl, hbm⟩ := hrel
              obtain ⟨wm, rfl⟩ : ∃ x : World, x = wr := ⟨_, rfl⟩
              have HBM := Lib.hid hbm
              clear hbm
              by_cases hql : q < L
              · obtain ⟨ds, A6, n6, c6, fs6, ⟨b6, o6, hA6, hc6⟩, hl6, hd6, hn6, hr6, hcall⟩ := HFI.out wm q HBM.out hql
                subst hA6
                have HC6 := Lib.hid hc6
                have HL6 := Lib.hid hl6
                have HD6 := Lib.hid hd6
                have HR6 := Lib.hid hr6
                have HCALL := Lib.hid hcall
                clear hc6 hl6 hd6 hr6 hcall
                have e3 : wrap64 ((q : Int) + 1 - 1) = (q : Int) := by unfold wrap64; omega
                have e4 : (q : Int) + 1 - 1 = (q : Int) := by omega
                have e5 : (q : Int) < L := by omega
                have e6 : (q : Int) + 1 ≤ L := by omega
                go_wp2_with fail
                refine (HCALL.out).mono ?_
                rintro e w5 ⟨⟨A5, n5, c5, fs5, rfl, hc5, hl5, hd5, ho5, hn5⟩, hb5⟩
                have hcell6 := HC6.out w5 hb5
                have hsm := sameF_any fs5 fs6 A5 A6 n5 n6 c5 c6 w5 hl5 HL6.out (ho5.rd hl5) (HR6.out w5 hb5) (by omega)
                rw [show decide (fs5.map Fl.dat = fs6.map Fl.dat) = true from decide_eq_true (by rw [hd5, HD6.out])] at hsm
                have HSM := Lib.hid hsm
                have HB5 := Lib.hid hb5
                have HO5 := Lib.hid ho5
                have HL5 := Lib.hid hl5
                clear hsm hb5 ho5 hd5 hl5
                go_wp2_with fail
                refine (HSM.out).mono ?_
                intro e w6 hq6
                have hb6 := hq6.low
                obtain ⟨rfl, _⟩ := hq6
                have HB6 := Lib.hid (HB5.out.trans (hb6.mono HB5.out.size))
                have HO6 := Lib.hid (HO5.out.below hb6)
                clear hb6 e3 e4 hcell6
                go_wp2_with fail
                rcases Nat.eq_zero_or_pos n5 with h0 | h0
                · subst h0
                  go_loopw [11] (fun i wr => i = .int .i64 0 ∧ w6 = wr) (fun i _ => 0)
                  case atStart => exact ⟨rfl, rfl⟩
                  case round =>
                    obtain ⟨rfl, rfl⟩ := hrel
                    go_wp2_with fail
                    go_roundw
                    case rel => exact ⟨q + 1, by omega, by go_num, HBM.out.trans (HB6.out.mono HBM.out.size)⟩
                    case measure => simp [intOf]; omega
                · obtain ⟨g, hA5⟩ : ∃ g, A5 = some ⟨g, 0, none⟩ := by
                    have h1 := HO6.out.own
                    rw [HL5.out] at h1
                    obtain ⟨g, _, hv, _⟩ := h1.form h0
                    injection hv with hv
                    exact ⟨g, hv⟩
                  subst hA5
                  obtain ⟨hwr, hg⟩ := wr_of HO6.out HL5.out
                  have HWR := Lib.hid hwr
                  clear hwr
                  go_loopw [11] (fun i wr => ∃ j : Nat, j ≤ n5 ∧ i = .int .i64 j ∧ Wr g n5 fs5 wm.heap.size wr ∧ Below wm.heap.size wm wr) (fun i _ => n5 - (intOf i).toNat)
                  case atStart => exact ⟨0, by omega, rfl, HWR.out, HB6.out⟩
                  case round =>
                    obtain ⟨j, hj, rfl, hwr, hbj⟩ := hrel
                    by_cases hjl : j < n5
                    · obtain ⟨f, hf⟩ : ∃ f, fs5[j]? = some f := ⟨_, List.getElem?_eq_getElem (by rw [HL5.out]; exact hjl)⟩
                      obtain ⟨cur, hcur, hcs, hcj⟩ := hwr.row
                      have z0 := hcur.frozen (j * 2)
                      obtain ⟨u0, hu0⟩ : ∃ u, cur[j * 2]? = some u := ⟨_, Array.getElem?_eq_getElem (by omega)⟩
                      have k0 := hcur.cell (j * 2)
                      rw [hu0] at k0
                      have hwr1 := hwr.name (k := j) (.string ⟨#[111, 116, 104, 101, 114]⟩)
                      have hb1 := hbj.setCell (p := ⟨g, j * 2, none⟩) hg (.string ⟨#[111, 116, 104, 101, 114]⟩)
                      obtain ⟨cur1, hcur1, _, hcj1⟩ := hwr1.row
                      have k1 := hcur1.cell (j * 2 + 1)
                      rw [hcj1 j f hf] at k1
                      have HWR1 := Lib.hid hwr1
                      have HB1' := Lib.hid hb1
                      have hjn : (j : Int) < n5 := by omega
                      have hef := hwr1.each f (List.mem_of_getElem? hf)
                      obtain ⟨nm, fr, fA, fn, fc⟩ := f
                      simp only at k1 hef
                      rcases Nat.eq_zero_or_pos fn with hz | hz
                      · have d5 : decide ((0 : Int) < (fn : Int)) = false := decide_eq_false (by omega)
                        have d6 : decide (0 < fn) = false := decide_eq_false (by omega)
                        clear hwr hbj hcur hcs hcj hu0 hwr1 hb1 hcur1 hcj1 hef
                        go_wp2_with fail
                        go_roundw
                        case rel => exact ⟨j + 1, by omega, by go_num, HWR1.out, HB1'.out⟩
                        case measure => simp [intOf]; omega
                      · obtain ⟨fb, cfb, rfl, hfb, hbf, hsf⟩ := hef hz
                        have d5 : decide ((0 : Int) < (fn : Int)) = true := decide_eq_true (by omega)
                        have d6 : 0 < fn := hz
                        have z1 := hbf.frozen 0
                        obtain ⟨u1, hu1⟩ : ∃ u, cfb[0]? = some u := ⟨_, Array.getElem?_eq_getElem hsf⟩
                        have k2 := hbf.cell 0
                        rw [hu1] at k2
                        have HWR2 := Lib.hid (hwr1.num hbf (.int .i64 77))
                        have HB2' := Lib.hid (hb1.setCell (p := ⟨fb, 0, none⟩) hfb (.int .i64 77))
                        clear hwr hbj hcur hcs hcj hu0 hwr1 hb1 hcur1 hcj1 hef hbf hu1
                        go_wp2_with fail
                        go_roundw
                        case rel => exact ⟨j + 1, by omega, by go_num, HWR2.out, HB2'.out⟩
                        case measure => simp [intOf]; omega
                    · obtain ⟨j', hj'⟩ : ∃ x : Nat, x = 0 := ⟨_, rfl⟩
                      have HBJ := Lib.hid hbj
                      clear hbj hwr
                      go_wp2_with fail
                      go_roundw
                      case rel => exact ⟨q + 1, by omega, by go_num, HBM.out.trans (HBJ.out.mono HBM.out.size)⟩
                      case measure => simp [intOf]; omega
              · have hqe : (L : Int) ≤ q := by omega
                have e6 : decide ((q : Int) + 1 ≤ L) = false := decide_eq_false (by omega)
                have HF2 := Lib.hid (HALL2.out.below HBM.out)
                have HLF := Lib.hid (HLOW2.out.trans (HBM.out.mono HLOW2.out.size))
                go_wp2_with fail
                go_roundw
                case rel => exact ⟨k + 1, T', n2, by omega, by omega, by go_num, by omega, HF2.out, HLF.out⟩
                case measure => simp [intOf]; omega
          · have hr1 : roll = 0 := by omega
            subst hr1
            have hvs2 : T'.vs = T.vs ++ [fs.map Fl.dat] := by
              rw [HV2.out, if_neg (by omega)]
            obtain ⟨_, _, _, hTm, _⟩ := HMID.out.ex
            obtain ⟨A6, n6, c6, fs6, k1, k2, k3, k4, k5, k6, k7⟩ := hTm.vs.at_ T.vs.length (fs.map Fl.dat) (by rw [hvs2, List.getElem?_append_right (Nat.le_refl _), Nat.sub_self]; rfl)
            have hsz := dat_sizes k3.symm k4 k2 k6
            have hnf2 : nf ≤ 200 := by
              have := congrArg List.length k3
              rw [List.length_map, List.length_map, k2, HNF.out] at this
              omega
            have hrd2 := HFS.out.below HLOW2.out
            have HCP := Lib.hid (copyF_any fs Af nf cf w2 HNF.out hrd2 (by omega) (fun f hf => by have h1 := hsz f hf; have h2 := (hrd2.each f hf).len; omega))
            have HSZ := Lib.hid hsz
            have HV3 := Lib.hid hvs2
            have hs2 := HLOW2.out.size
            clear k1 k2 k3 k4 k5 k6 k7 hvs2 hsz hTm hrd2
            go_wp2_with fail
            refine (HCP.out).mono ?_
            rintro e wc ⟨⟨A7, c7, fs7, rfl, hc7, hl7, hd7, ho7⟩, hbc⟩
            have HMC := Lib.hid (HMID.out.below hbc)
            have HRW := Lib.hid HMC.out.row
            have HU := Lib.hid (show ∃ gs : List Fl, gs.length = nf ∧ gs.map Fl.dat = fs.map Fl.dat ∧ OwnF w.heap.size wc (.slice A7 nf c7) gs ∧ nf ≤ 200 ∧ (∀ f ∈ gs, f.n ≤ 131072) ∧ (A7 = none → nf = 0 ∧ c7 = 0) from ⟨fs7, hl7, hd7, ho7.mono hs2, hnf2, sizes_of hd7 ho7 HSZ.out, (own_parts (hl7 ▸ ho7.own)).2.2⟩)
            have hsc : w.heap.size ≤ wc.heap.size := Nat.le_trans hs2 hbc.size
            have HLWC := Lib.hid (HLOW2.out.trans (hbc.mono hs2))
            clear hbc hl7 hd7 ho7
            go_wp2_with (at_builtin; refine wpList_appV rfl (.tmp 68) (.tmp 73) rfl w.heap.size (.slice Aa T.vs.length ca) T.vs.length ys rfl HRW.out (.slice A7 nf c7) rfl wc.heap.size rfl rfl (by omega) hsc ?_; intro v3 w3 o3 hg3 hn3)
            have hall3 := HMC.out.more HV3.out HU.out hg3 o3 hn3
            have hlow3 := (HLWC.out.alloc HLWC.out.size (.cells #[.slice A7 nf c7] 27)).grown hg3 (by simp; omega) (own_ge HRW.out)
            have hlen3 : T'.vs.length = T.vs.length + 1 := by rw [HV3.out, List.length_append]; rfl
            obtain ⟨A3, c3', rfl, _⟩ := own_slice o3
            rw [← hlen3] at hall3 ⊢
            have HALL2 := Lib.hid hall3
            clear HLOW2
            have HLOW2 := Lib.hid hlow3
            clear hall3 hlow3 o3 hg3 hn3 hlen3 hs2 hsc m2 m3
            obtain ⟨v2, V2, xs2, ys2, hT2, hrow2, hvs2, hne2⟩ := HALL2.out.ex
            have hl9 := len9_any w3 hT2
            have HL9 := Lib.hid hl9
            have hvl2 := hT2.vl
            obtain ⟨L, hL⟩ : ∃ L, T'.vs.length = L := ⟨_, rfl⟩
            have hfile : ∀ (W : World) (q : Nat), Below (w3).heap.size (w3) W → q < L → ∃ ds A6 n6 c6 fs6, (∃ b6 o6, A3 = some ⟨b6, o6, none⟩ ∧ ∀ W', Below W.heap.size W W' → W'.cell? ⟨b6, o6 + q, none⟩ = some (.slice A6 n6 c6)) ∧ fs6.length = n6 ∧ fs6.map Fl.dat = ds ∧ n6 ≤ 200 ∧ (∀ W', Below W.heap.size W W' → RdF W' A6 fs6) ∧ Calls Try.prog 10 #[.pointer (some ⟨gt, 0, none⟩), .int .i64 ((q : Int) + 1)] W (Files1 ds W) := fun W q hW hq => by
              obtain ⟨ds, hds⟩ : ∃ d, T'.vs[q]? = some d := ⟨_, List.getElem?_eq_getElem (by omega)⟩
              obtain ⟨A6, n6, c6, fs6, k1, k2, k3, k4, k5, _⟩ := hvs2.at_ q ds hds
              obtain ⟨b6, o6, hA, hblt, hce⟩ := (Rd.of_own (own_below hrow2 hW)).at k1
              exact ⟨ds, A6, n6, c6, fs6, ⟨b6, o6, hA, fun W' hW' => (hW'.cell (p := ⟨b6, o6 + q, none⟩) hblt).trans hce⟩, k2, k3, k5, fun W' hW' => ((k4.below hW).rd k2).below hW', files_yes q ds W (hT2.below hW) hds⟩
            rw [hL] at HALL2 HL9 hvl2 ⊢
            have HFI := Lib.hid hfile
            have HLL := Lib.hid hL
            clear hl9 hT2 hrow2 hvs2 hne2 hfile hL
            go_wp2_with fail
            refine (HL9.out).mono ?_
            rintro e wl ⟨rfl, rfl⟩
            go_wp2_with fail
            go_loopw [8] (fun i wr => ∃ q : Nat, q ≤ L ∧ i = .int .i64 ((q : Int) + 1) ∧ Below (w3).heap.size (w3) wr) (fun i _ => L + 1 - (intOf i).toNat)
            case atStart => exact ⟨0, by omega, by first | rfl | go_num, Below.refl _ _⟩
            case round =>
              obtain ⟨q, hq, rfl, hbm⟩ := hrel
              obtain ⟨wm, rfl⟩ : ∃ x : World, x = wr := ⟨_, rfl⟩
              have HBM := Lib.hid hbm
              clear hbm
              by_cases hql : q < L
              · obtain ⟨ds, A6, n6, c6, fs6, ⟨b6, o6, hA6, hc6⟩, hl6, hd6, hn6, hr6, hcall⟩ := HFI.out wm q HBM.out hql
                subst hA6
                have HC6 := Lib.hid hc6
                have HL6 := Lib.hid hl6
                have HD6 := Lib.hid hd6
                have HR6 := Lib.hid hr6
                have HCALL := Lib.hid hcall
                clear hc6 hl6 hd6 hr6 hcall
                have e3 : wrap64 ((q : Int) + 1 - 1) = (q : Int) := by unfold wrap64; omega
                have e4 : (q : Int) + 1 - 1 = (q : Int) := by omega
                have e5 : (q : Int) < L := by omega
                have e6 : (q : Int) + 1 ≤ L := by omega
                go_wp2_with fail
                refine (HCALL.out).mono ?_
                rintro e w5 ⟨⟨A5, n5, c5, fs5, rfl, hc5, hl5, hd5, ho5, hn5⟩, hb5⟩
                have hcell6 := HC6.out w5 hb5
                have hsm := sameF_any fs5 fs6 A5 A6 n5 n6 c5 c6 w5 hl5 HL6.out (ho5.rd hl5) (HR6.out w5 hb5) (by omega)
                rw [show decide (fs5.map Fl.dat = fs6.map Fl.dat) = true from decide_eq_true (by rw [hd5, HD6.out])] at hsm
                have HSM := Lib.hid hsm
                have HB5 := Lib.hid hb5
                have HO5 := Lib.hid ho5
                have HL5 := Lib.hid hl5
                clear hsm hb5 ho5 hd5 hl5
                go_wp2_with fail
                refine (HSM.out).mono ?_
                intro e w6 hq6
                have hb6 := hq6.low
                obtain ⟨rfl, _⟩ := hq6
                have HB6 := Lib.hid (HB5.out.trans (hb6.mono HB5.out.size))
                have HO6 := Lib.hid (HO5.out.below hb6)
                clear hb6 e3 e4 hcell6
                go_wp2_with fail
                rcases Nat.eq_zero_or_pos n5 with h0 | h0
                · subst h0
                  go_loopw [11] (fun i wr => i = .int .i64 0 ∧ w6 = wr) (fun i _ => 0)
                  case atStart => exact ⟨rfl, rfl⟩
                  case round =>
                    obtain ⟨rfl, rfl⟩ := hrel
                    go_wp2_with fail
                    go_roundw
                    case rel => exact ⟨q + 1, by omega, by go_num, HBM.out.trans (HB6.out.mono HBM.out.size)⟩
                    case measure => simp [intOf]; omega
                · obtain ⟨g, hA5⟩ : ∃ g, A5 = some ⟨g, 0, none⟩ := by
                    have h1 := HO6.out.own
                    rw [HL5.out] at h1
                    obtain ⟨g, _, hv, _⟩ := h1.form h0
                    injection hv with hv
                    exact ⟨g, hv⟩
                  subst hA5
                  obtain ⟨hwr, hg⟩ := wr_of HO6.out HL5.out
                  have HWR := Lib.hid hwr
                  clear hwr
                  go_loopw [11] (fun i wr => ∃ j : Nat, j ≤ n5 ∧ i = .int .i64 j ∧ Wr g n5 fs5 wm.heap.size wr ∧ Below wm.heap.size wm wr) (fun i _ => n5 - (intOf i).toNat)
                  case atStart => exact ⟨0, by omega, rfl, HWR.out, HB6.out⟩
                  case round =>
                    obtain ⟨j, hj, rfl, hwr, hbj⟩ := hrel
                    by_cases hjl : j < n5
                    · obtain ⟨f, hf⟩ : ∃ f, fs5[j]? = some f := ⟨_, List.getElem?_eq_getElem (by rw [HL5.out]; exact hjl)⟩
                      obtain ⟨cur, hcur, hcs, hcj⟩ := hwr.row
                      have z0 := hcur.frozen (j * 2)
                      obtain ⟨u0, hu0⟩ : ∃ u, cur[j * 2]? = some u := ⟨_, Array.getElem?_eq_getElem (by omega)⟩
                      have k0 := hcur.cell (j * 2)
                      rw [hu0] at k0
                      have hwr1 := hwr.name (k := j) (.string ⟨#[111, 116, 104, 101, 114]⟩)
                      have hb1 := hbj.setCell (p := ⟨g, j * 2, none⟩) hg (.string ⟨#[111, 116, 104, 101, 114]⟩)
                      obtain ⟨cur1, hcur1, _, hcj1⟩ := hwr1.row
                      have k1 := hcur1.cell (j * 2 + 1)
                      rw [hcj1 j f hf] at k1
                      have HWR1 := Lib.hid hwr1
                      have HB1' := Lib.hid hb1
                      have hjn : (j : Int) < n5 := by omega
                      have hef := hwr1.each f (List.mem_of_getElem? hf)
                      obtain ⟨nm, fr, fA, fn, fc⟩ := f
                      simp only at k1 hef
                      rcases Nat.eq_zero_or_pos fn with hz | hz
                      · have d5 : decide ((0 : Int) < (fn : Int)) = false := decide_eq_false (by omega)
                        have d6 : decide (0 < fn) = false := decide_eq_false (by omega)
                        clear hwr hbj hcur hcs hcj hu0 hwr1 hb1 hcur1 hcj1 hef
                        go_wp2_with fail
                        go_roundw
                        case rel => exact ⟨j + 1, by omega, by go_num, HWR1.out, HB1'.out⟩
                        case measure => simp [intOf]; omega
                      · obtain ⟨fb, cfb, rfl, hfb, hbf, hsf⟩ := hef hz
                        have d5 : decide ((0 : Int) < (fn : Int)) = true := decide_eq_true (by omega)
                        have d6 : 0 < fn := hz
                        have z1 := hbf.frozen 0
                        obtain ⟨u1, hu1⟩ : ∃ u, cfb[0]? = some u := ⟨_, Array.getElem?_eq_getElem hsf⟩
                        have k2 := hbf.cell 0
                        rw [hu1] at k2
                        have HWR2 := Lib.hid (hwr1.num hbf (.int .i64 77))
                        have HB2' := Lib.hid (hb1.setCell (p := ⟨fb, 0, none⟩) hfb (.int .i64 77))
                        clear hwr hbj hcur hcs hcj hu0 hwr1 hb1 hcur1 hcj1 hef hbf hu1
                        go_wp2_with fail
                        go_roundw
                        case rel => exact ⟨j + 1, by omega, by go_num, HWR2.out, HB2'.out⟩
                        case measure => simp [intOf]; omega
                    · obtain ⟨j', hj'⟩ : ∃ x : Nat, x = 0 := ⟨_, rfl⟩
                      have HBJ := Lib.hid hbj
                      clear hbj hwr
                      go_wp2_with fail
                      go_roundw
                      case rel => exact ⟨q + 1, by omega, by go_num, HBM.out.trans (HBJ.out.mono HBM.out.size)⟩
                      case measure => simp [intOf]; omega
              · have hqe : (L : Int) ≤ q := by omega
                have e6 : decide ((q : Int) + 1 ≤ L) = false := decide_eq_false (by omega)
                have HF2 := Lib.hid (HALL2.out.below HBM.out)
                have HLF := Lib.hid (HLOW2.out.trans (HBM.out.mono HLOW2.out.size))
                go_wp2_with fail
                go_roundw
                case rel => exact ⟨k + 1, T', n2, by omega, by omega, by go_num, by omega, HF2.out, HLF.out⟩
                case measure => simp [intOf]; omega
      · have hskip : (300 : Int) < np ∨ ((np : Int) ≤ 300 ∧ (300 : Int) < nf) := by omega
        have HST := Lib.hid (HALL.out.below HWB.out)
        have HLW := Lib.hid (HLOW.out.alloc HLOW.out.size (.cells #[.int .i64 sb, .slice Ap np cp, .int .i64 roll, .slice Af nf cf] 31))
        rcases hskip with d1 | ⟨d0, d1⟩
        · go_wp2_with fail
          go_roundw
          case rel => exact ⟨k + 1, T, nst, by omega, by omega, by go_num, by omega, HST.out, HLW.out⟩
          case measure => simp [intOf]; omega
        · go_wp2_with fail
          go_roundw
          case rel => exact ⟨k + 1, T, nst, by omega, by omega, by go_num, by omega, HST.out, HLW.out⟩
          case measure => simp [intOf]; omega
    · have hor : n ≤ k ∨ (k < n ∧ 20 ≤ k) := by omega
      rcases hor with h | ⟨h, h'⟩
      · have d1 : decide ((k : Int) < n) = false := decide_eq_false (by omega)
        go_wp2_with fail
        refine (awake12 wo).mono ?_
        rintro e wz ⟨rfl, hbz⟩
        have HBZ := Lib.hid (HLOW.out.trans (hbz.mono HLOW.out.size))
        clear hbz
        go_wp2
        go_ret
        exact ⟨rfl, HBZ.out⟩
      · have d1 : (k : Int) < n := by omega
        have d2 : decide ((k : Int) < 20) = false := decide_eq_false (by omega)
        go_wp2_with fail
        refine (awake12 wo).mono ?_
        rintro e wz ⟨rfl, hbz⟩
        have HBZ := Lib.hid (HLOW.out.trans (hbz.mono HLOW.out.size))
        clear hbz
        go_wp2
        go_ret
        exact ⟨rfl, HBZ.out⟩
end Go.Proofs.Ytlhhkmpidnegcaa
