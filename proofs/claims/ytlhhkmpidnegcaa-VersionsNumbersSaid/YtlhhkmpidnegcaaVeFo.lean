/- four: the walk. Condition: none. -/
import Derived.Test.YtlhhkmpidnegcaaVeKp
namespace Go.Proofs.Ytlhhkmpidnegcaa
open Go.RowKit Go.WideShapes
set_option linter.unusedVariables false
set_option linter.unusedSimpArgs false
def lF : List Int := [115, 0, 1, 0, 1, 97, 0, 0, 0, 2, 0, 0, 0, 1, 0, 0, 0, 2]
theorem putF : putE 0 [((⟨#[97]⟩ : ByteArray), [1, 2])] = (0, lF) := by decide +kernel
theorem sFa : 0 < (sL [0, 0, 0, 2, 0] 2).length := by decide
theorem sFb : sB [0, 0, 0] 2 = true := by decide
theorem lFa : lF ++ [0] = [115] ++ ([0, 1] ++ ([0, 1] ++ ([97] ++ ([0, 0, 0, 2] ++ sL [0, 0, 0, 2, 0] 0)))) := rfl
theorem lFb : lF.take 17 = [115] ++ ([0, 1] ++ ([0, 1] ++ ([97] ++ ([0, 0, 0, 2] ++ sL [0, 0, 0] 0)))) := rfl
theorem octA : Oct (lF ++ [0]) := by intro x hx; simp [lF] at hx; omega
theorem octB : Oct (lF.take 17) := by intro x hx; simp [lF] at hx; omega
theorem putE_app1 {w0 w : World} {e : Ending} (h : PutE (0, lF) w0 e w) : (∃ A c, e = .returned (.tuple #[.slice A 18 c, .int .i64 0]) ∧ w.ownsRow w0.heap.size 5 1 (.slice A 18 c) 18 (octs lF)) ∧ Below w0.heap.size w0 w := by
  obtain ⟨h1, h2⟩ := h
  rcases h1 with ⟨h1, _⟩ | ⟨_, A, c, h3, _, h4⟩
  · exact absurd rfl h1
  · exact ⟨⟨A, c, h3, h4⟩, h2⟩
theorem bs32_oct : Oct (([0, 1] : List Int) ++ List.replicate 30 0) := by
  intro x hx
  rcases List.mem_append.1 hx with h | h
  · simp at h; omega
  · rw [List.mem_replicate] at h; omega
theorem bs32_num : numI (([0, 1] : List Int) ++ List.replicate 30 0) 0 2 = ((1 : Nat) : Int) := by decide
theorem bs32_rgt : rgt (at30 (([0, 1] : List Int) ++ List.replicate 30 0) 0) = false := by decide
theorem fp1 : applyT ⟨0, [], []⟩ 1 [pcV 1 1] 0 [(⟨#[97]⟩, [1])] = (0, ⟨1, [pcV 1 1], [[(⟨#[97]⟩, [1])]]⟩) := by kernel_rfl
theorem fp2 : applyT ⟨1, [pcV 1 1], [[(⟨#[97]⟩, [1])]]⟩ 0 [] 0 [(⟨#[98]⟩, [])] = (0, ⟨1, [pcV 1 1], [[(⟨#[97]⟩, [1])], [(⟨#[98]⟩, [])]]⟩) := by kernel_rfl
theorem fp3 : applyT ⟨1, [pcV 1 1], [[(⟨#[97]⟩, [1])], [(⟨#[98]⟩, [])]]⟩ 0 [] 1 [] = (0, ⟨1, [pcV 1 1], [[(⟨#[97]⟩, [1])], [(⟨#[98]⟩, [])], [(⟨#[97]⟩, [1])]]⟩) := by kernel_rfl
theorem fz1 : sizeG [pcV 1 1] 0 [0, 2, -1] = 0 := by kernel_rfl
theorem fz2 : sizeG [pcV 1 1] 0 [1, 9] = 64 := by kernel_rfl
theorem own_some {w : World} {base n c : Nat} {e : TypeId} {A : Option Addr} {xs : List Value} (h : w.ownsRow base e 1 (.slice A n c) n xs) (hn : 0 < n) : ∃ g, A = some ⟨g, 0, none⟩ := by
  rcases h.2 with ⟨_, h0⟩ | ⟨g, cap, cur, hv, _⟩
  · omega
  · injection hv with hv
    exact ⟨g, hv⟩
set_option maxRecDepth 100000 in
set_option maxHeartbeats 4000000 in
theorem four_any (w : World) : Calls Try.prog 30 #[] w (Quiet (.bool true) w) := by
  go_enter Try.func30, Try.ntmps30
  go_wp2_with fail
  refine (file_any _ _ _ _ _).mono ?_
  rintro e w1 ⟨rfl, hb1⟩
  have ki := (Blk.new w 3 #[.int .i64 1, .int .i64 2]).below hb1 |>.alloc (.cells #[.string ⟨#[97]⟩, .slice (some ⟨w.heap.size, 0, none⟩) 2 2] 41)
  have kf := Blk.new w1 41 #[.string ⟨#[97]⟩, .slice (some ⟨w.heap.size, 0, none⟩) 2 2]
  have hb2 : Below w.heap.size w (w1.alloc (.cells #[.string ⟨#[97]⟩, .slice (some ⟨w.heap.size, 0, none⟩) 2 2] 41)) := by
    have h1 := (Below.refl w.heap.size w).alloc (Nat.le_refl _) (.cells #[.int .i64 1, .int .i64 2] 3)
    have h2 := h1.trans (hb1.mono h1.size)
    exact h2.alloc h2.size _
  have hpe := putEntry_any 0 [⟨⟨#[97]⟩, [1, 2], some ⟨w.heap.size, 0, none⟩, 2, 2⟩] (some ⟨w1.heap.size, 0, none⟩) 1 1 _ (RdF.one kf ki rfl rfl (by unfold maxLen; omega)) rfl (by omega) (fun f hf => by simp at hf; subst hf; show (1 : Nat) ≤ maxLen; unfold maxLen; omega)
  rw [show List.map Fl.dat [⟨⟨#[97]⟩, [1, 2], some ⟨w.heap.size, 0, none⟩, 2, 2⟩] = [((⟨#[97]⟩ : ByteArray), [1, 2])] from rfl, putF] at hpe
  have HPE := Lib.hid hpe
  have HB2 := Lib.hid hb2
  clear hpe hb2 ki kf hb1
  go_wp2_with fail
  refine (HPE.out).mono ?_
  intro e w3 hp3
  obtain ⟨⟨A, c, rfl, ho3⟩, hb3⟩ := putE_app1 hp3
  obtain ⟨g3, rfl⟩ := own_some ho3 (by omega)
  have hp3' := own_parts ho3
  have hc3 := hp3'.1
  have hc3m := hp3'.2.1
  clear hp3'
  have HB3 := Lib.hid (HB2.out.trans (hb3.mono HB2.out.size))
  have HO3 := Lib.hid (own_mono ho3 (show w.heap.size ≤ _ from HB2.out.size))
  have HN3 := Lib.hid (Blk.new w3 5 #[.int .u8 0])
  have HO3a := Lib.hid (own_below HO3.out ((Below.refl w3.heap.size w3).alloc (Nat.le_refl _) (.cells #[.int .u8 0] 5)))
  have HZ3 := Lib.hid (show w.heap.size ≤ (w3.alloc (.cells #[.int .u8 0] 5)).heap.size by have := HB3.out.size; simp; omega)
  clear hp3 hb3 ho3
  go_wp2_with (refine wpList_appK tBytes rfl (.tmp 23) (.tmp 24) rfl w.heap.size (some ⟨g3, 0, none⟩) 18 c (octs lF) rfl HO3a.out w3.heap.size (.int .u8 0) rfl HN3.out rfl (by omega) (by unfold maxLen; omega) HZ3.out ?_; intro A4 c4 w4 o4 r4 hb4; have HO4 := Lib.hid o4; have HR4 := Lib.hid r4; have HB4 := Lib.hid ((HB3.out.alloc HB3.out.size (.cells #[.int .u8 0] 5)).trans hb4); clear o4 r4 hb4)
  have hg4 := getE_two [0, 0, 0, 2, 0] A4 19 c4 w4 (lF ++ [0]) lFa (by have := Rd.of_own HO4.out; rwa [show octs (lF ++ [0]) = octs lF ++ [.int .u8 0] from rfl]) octA rfl (own_parts HO4.out).1 (own_parts HO4.out).2.1 (.inr sFa)
  refine hg4.mono ?_
  rintro e w5 ⟨rfl, hb5⟩
  have HB5 := Lib.hid ((HB4.out.trans (hb5.mono HB4.out.size)).alloc (HB4.out.trans (hb5.mono HB4.out.size)).size (.cells #[.int .i64 0, .slice none 0 0] 29))
  have HR5 := Lib.hid ((HR4.out.below hb5 rfl).below ((Below.refl w5.heap.size w5).alloc (Nat.le_refl _) (.cells #[.int .i64 0, .slice none 0 0] 29)) rfl)
  clear hb5 hg4
  go_wp2_with fail
  have hg6 := getE_two [0, 0, 0] (some ⟨g3, 0, none⟩) 17 c _ (lF.take 17) lFb (by have := HR5.out.take 17; exact this) octB rfl (by omega) hc3m (.inl sFb)
  refine hg6.mono ?_
  rintro e w6 ⟨rfl, hb6⟩
  have HB6 := Lib.hid ((HB5.out.trans (hb6.mono HB5.out.size)).alloc (HB5.out.trans (hb6.mono HB5.out.size)).size (.cells #[.int .i64 0, .slice none 0 0] 29))
  clear hb6 hg6 HR5 HO3a HN3 HPE HZ3 HO3 HO4 HR4
  go_upto_region 4 with fail
  obtain ⟨W6, hW6⟩ : ∃ x, w6.alloc (.cells #[.int .i64 0, .slice none 0 0] 29) = x := ⟨_, rfl⟩
  rw [hW6] at HB6 ⊢
  have HN6 := Lib.hid (Blk.new W6 5 #[.int .u8 0, .int .u8 1])
  have HC6 := Lib.hid ((Below.refl W6.heap.size W6).alloc (Nat.le_refl _) (.cells #[.int .u8 0, .int .u8 1] 5))
  clear hW6
  go_wp2_with (refine wpList_app_zeros tBytes rfl 3 Try.underlying3 rfl (.tmp 39) (.const (.int .i64 30)) rfl (some ⟨W6.heap.size, 0, none⟩) 2 30 30 (octs [0, 1]) rfl rfl rfl rfl (rd_blk HN6.out) (by omega) (by decide) (by decide) (by decide) ?_; intro g7 c7 w7 hc7 o7 hb7; have HO7 := Lib.hid o7; have HB7 := Lib.hid (HB6.out.trans ((HC6.out.trans (hb7.mono HC6.out.size)).mono HB6.out.size)); clear o7 hb7)
  have hg8 := getP_any 1 ([0, 1] ++ List.replicate 30 0) (some ⟨g7, 0, none⟩) 32 c7 w7 rfl bs32_oct (by have := Rd.of_own HO7.out; exact this) hc7 (own_parts HO7.out).2.1 rfl bs32_num (by omega)
  refine hg8.mono ?_
  intro e w8 hp8
  have hr8 := hp8.no ⟨0, by omega, bs32_rgt⟩
  subst hr8
  have HB8 := Lib.hid (HB7.out.trans (hp8.low.mono HB7.out.size))
  clear hp8 hg8
  go_wp2_with (refine wpList_mk tBytes rfl rfl (.const (.int .i64 3)) (.const (.int .i64 3)) rfl w8.heap.size .i64 .i64 3 3 3 rfl rfl rfl rfl (by omega) (by unfold maxLen; omega) (Nat.le_refl _) ?_; intro w9 o9 hs9 hb9; have HO9 := Lib.hid o9; have HB9 := Lib.hid (HB8.out.trans (hb9.mono HB8.out.size)); clear o9 hs9 hb9)
  refine (getP_no [0, 0, 0] (some ⟨w8.heap.size, 0, none⟩) 3 3 w9 rfl (fun x hx => by simp at hx; omega) (by have := Rd.of_own HO9.out; exact this) (by omega) (by unfold maxLen; omega) (.inr (by decide))).mono ?_
  rintro e w10 ⟨rfl, hw10⟩
  subst hw10
  have HS := Lib.hid HB9.out.size
  clear HB2 HB3 HB4 HB5 HB6 HB7 HB8 HN6 HC6 HO7 HO9 hc3 hc3m hc7
  go_wp2_with fail
  refine (newT_any w9).mono ?_
  rintro e wa ⟨⟨gt, gi, mb, rfl, hTa⟩, hba⟩
  have HTA := Lib.hid hTa
  have HBA := Lib.hid (HB9.out.trans (hba.mono HB9.out.size))
  clear hTa hba
  go_wp2_with fail
  refine (piece11 _).mono ?_
  rintro e wb ⟨rfl, hbb⟩
  have HBB := Lib.hid hbb
  clear hbb
  go_wp2_with fail
  refine (file_any _ _ _ _ _).mono ?_
  rintro e wc ⟨rfl, hbc⟩
  have kp := ((Blk.new wb 52 #[.int .u8 1, .int .u8 0, .int .u8 0, .int .u8 0, .int .u8 0, .int .u8 0, .int .u8 0, .int .u8 0, .int .u8 0, .int .u8 0, .int .u8 0, .int .u8 0, .int .u8 0, .int .u8 0, .int .u8 0, .int .u8 0, .int .u8 0, .int .u8 0, .int .u8 0, .int .u8 0, .int .i64 64, .int .i64 1, .int .i64 0]).alloc (.cells #[.int .i64 1] 3)).below hbc |>.alloc (.cells #[.string ⟨#[97]⟩, .slice (some ⟨wb.heap.size + 1, 0, none⟩) 1 1] 41)
  have ki := (Blk.new (wb.alloc (.cells #[.int .u8 1, .int .u8 0, .int .u8 0, .int .u8 0, .int .u8 0, .int .u8 0, .int .u8 0, .int .u8 0, .int .u8 0, .int .u8 0, .int .u8 0, .int .u8 0, .int .u8 0, .int .u8 0, .int .u8 0, .int .u8 0, .int .u8 0, .int .u8 0, .int .u8 0, .int .u8 0, .int .i64 64, .int .i64 1, .int .i64 0] 52)) 3 #[.int .i64 1]).below hbc |>.alloc (.cells #[.string ⟨#[97]⟩, .slice (some ⟨wb.heap.size + 1, 0, none⟩) 1 1] 41)
  rw [show (wb.alloc (.cells #[.int .u8 1, .int .u8 0, .int .u8 0, .int .u8 0, .int .u8 0, .int .u8 0, .int .u8 0, .int .u8 0, .int .u8 0, .int .u8 0, .int .u8 0, .int .u8 0, .int .u8 0, .int .u8 0, .int .u8 0, .int .u8 0, .int .u8 0, .int .u8 0, .int .u8 0, .int .u8 0, .int .i64 64, .int .i64 1, .int .i64 0] 52)).heap.size = wb.heap.size + 1 by simp] at ki
  have kf := Blk.new wc 41 #[.string ⟨#[97]⟩, .slice (some ⟨wb.heap.size + 1, 0, none⟩) 1 1]
  have hbd : Below wa.heap.size wa (wc.alloc (.cells #[.string ⟨#[97]⟩, .slice (some ⟨wb.heap.size + 1, 0, none⟩) 1 1] 41)) := by
    have h1 := (HBB.out.alloc HBB.out.size (.cells #[.int .u8 1, .int .u8 0, .int .u8 0, .int .u8 0, .int .u8 0, .int .u8 0, .int .u8 0, .int .u8 0, .int .u8 0, .int .u8 0, .int .u8 0, .int .u8 0, .int .u8 0, .int .u8 0, .int .u8 0, .int .u8 0, .int .u8 0, .int .u8 0, .int .u8 0, .int .u8 0, .int .i64 64, .int .i64 1, .int .i64 0] 52)).alloc (by have := HBB.out.size; simp; omega) (.cells #[.int .i64 1] 3)
    have h2 := h1.trans (hbc.mono h1.size)
    exact h2.alloc h2.size _
  have hs2 := HBB.out.size
  have hs3 : wa.heap.size ≤ wc.heap.size := by have := hbc.size; simp at this; omega
  have hsg := HTA.out.sg_lt
  have hTd := HTA.out.below hbd
  generalize hWd : (wc.alloc (.cells #[.string ⟨#[97]⟩, .slice (some ⟨wb.heap.size + 1, 0, none⟩) 1 1] 41)) = Wd at kp ki kf hbd hTd
  have ha := apply_any 1 0 [pcV 1 1] [⟨⟨#[97]⟩, [1], some ⟨wb.heap.size + 1, 0, none⟩, 1, 1⟩] (some ⟨wb.heap.size, 0, none⟩) (some ⟨wc.heap.size, 0, none⟩) 1 1 1 1 Wd hTd (fun W hW => rd_blk (blk_far kp hsg hs2 hW))
    (fun p hp => by simp at hp; subst hp; exact pcV_ok 1 1 (by omega)) rfl (by omega) (fun W hW => RdF.one (blk_far kf hsg hs3 hW) (blk_far ki hsg (by omega) hW) rfl rfl (by unfold maxLen; omega)) rfl (fun f hf => by simp at hf; subst hf; show (1 : Nat) ≤ maxLen; unfold maxLen; omega) (fun h => by cases h) (by omega) (by omega) (by omega) (by omega)
  rw [show List.map Fl.dat [⟨⟨#[97]⟩, [1], some ⟨wb.heap.size + 1, 0, none⟩, 1, 1⟩] = [(⟨#[97]⟩, [1])] from rfl, fp1] at ha
  have HA := Lib.hid ha
  have HBD := Lib.hid (HBA.out.trans (hbd.mono HBA.out.size))
  have HTD := Lib.hid hTd
  clear ha hbd hTd kp ki kf hsg hs2 hs3 hbc
  go_wp2_with fail
  refine (HA.out).mono ?_
  rintro e we hap
  have hbe := hap.below HTD.out
  obtain ⟨rfl, ⟨ne, ve, Ve, xe, hne, hTe, _⟩, _⟩ := hap
  have HTE := Lib.hid (show Tb w9.heap.size we gt gi mb ne ⟨1, [pcV 1 1], [[(⟨#[97]⟩, [1])]]⟩ ve Ve xe from hTe)
  have HBE := Lib.hid (HBD.out.trans (hbe.mono HS.out))
  clear hbe hTe hWd
  go_wp2_with fail
  refine (file_any _ _ _ _ _).mono ?_
  rintro e wf ⟨rfl, hbf⟩
  have kf := Blk.new wf 41 #[.string ⟨#[98]⟩, .slice none 0 0]
  have hbg : Below we.heap.size we (wf.alloc (.cells #[.string ⟨#[98]⟩, .slice none 0 0] 41)) := hbf.alloc hbf.size _
  have hsf := hbf.size
  have hsg := HTE.out.sg_lt
  have hTg := HTE.out.below hbg
  generalize hWg : (wf.alloc (.cells #[.string ⟨#[98]⟩, .slice none 0 0] 41)) = Wg at kf hbg hTg
  have ha := apply_any 0 0 [] [⟨⟨#[98]⟩, [], none, 0, 0⟩] none (some ⟨wf.heap.size, 0, none⟩) 0 0 1 1 Wg hTg (fun W hW => Rd.nil _ _)
    (fun p hp => by cases hp) rfl (by omega) (fun W hW => ⟨rd_blk (blk_far kf hsg hsf hW), fun f hf => by simp at hf; subst hf; exact ⟨rfl, Nat.le_refl _, by simp [maxLen], Rd.nil _ _, fun _ => ⟨rfl, rfl⟩⟩⟩) rfl (fun f hf => by simp at hf; subst hf; show (1 : Nat) ≤ maxLen; unfold maxLen; omega) (fun h => by cases h) (by omega) (by omega) (by omega) (by omega)
  rw [show List.map Fl.dat [⟨⟨#[98]⟩, [], none, 0, 0⟩] = [(⟨#[98]⟩, [])] from rfl, fp2] at ha
  have HA2 := Lib.hid ha
  have HBG := Lib.hid (HBE.out.trans (hbg.mono HBE.out.size))
  have HTG := Lib.hid hTg
  clear ha hbg hTg kf hsg hsf hbf
  go_wp2_with fail
  refine (HA2.out).mono ?_
  rintro e wh hap
  have hbh := hap.below HTG.out
  obtain ⟨rfl, ⟨nh, vh, Vh, xh, hnh, hTh, _⟩, _⟩ := hap
  have HTH := Lib.hid (show Tb w9.heap.size wh gt gi mb nh ⟨1, [pcV 1 1], [[(⟨#[97]⟩, [1])], [(⟨#[98]⟩, [])]]⟩ vh Vh xh from hTh)
  have HBH := Lib.hid (HBG.out.trans (hbh.mono HS.out))
  clear hbh hTh hWg
  go_wp2_with fail
  refine (apply_roll 0 1 wh HTH.out (by omega) (by omega) (by omega)).mono ?_
  rw [fp3]
  rintro e wi hap
  have hbi := hap.below HTH.out
  obtain ⟨rfl, ⟨ni, vi, Vi, xi, hni, hTi, _⟩, _⟩ := hap
  have HTI := Lib.hid (show Tb w9.heap.size wi gt gi mb ni ⟨1, [pcV 1 1], [[(⟨#[97]⟩, [1])], [(⟨#[98]⟩, [])], [(⟨#[97]⟩, [1])]]⟩ vi Vi xi from hTi)
  have HBI := Lib.hid (HBH.out.trans (hbi.mono HS.out))
  clear hbi hTi
  go_wp2_with fail
  refine (files_yes 2 [(⟨#[97]⟩, [1])] wi HTI.out rfl).mono ?_
  rintro e wj ⟨⟨A, n, c, fs, rfl, hc, hl, hd, ho, hn2⟩, hbj⟩
  obtain ⟨f, rfl⟩ : ∃ f, fs = [f] := by
    have := congrArg List.length hd
    simp at this
    exact List.length_eq_one_iff.1 this
  obtain rfl : 1 = n := hl
  have hTj := HTI.out.below hbj
  have hnm : f.nm = ⟨#[97]⟩ := by
    simp [Fl.dat] at hd
    exact hd.1
  obtain ⟨b1, o1, rfl, hat⟩ := (ho.rd rfl).row.fl (k := 0) (f := f) rfl
  have h0 := hat.c0
  rw [hnm] at h0
  simp only [Nat.zero_mul, Nat.add_zero] at h0
  have HBJ := Lib.hid (HBI.out.trans (hbj.mono HBI.out.size))
  have HTJ := Lib.hid hTj
  clear hTj hnm hat ho hd hbj
  have hstr : ((⟨#[97]⟩ : ByteArray).toList == (⟨#[97]⟩ : ByteArray).toList) = true := by simp
  go_wp2_with fail
  refine (file_any _ _ _ _ _).mono ?_
  rintro e wk ⟨rfl, hbk⟩
  have ki := (Blk.new wj 3 #[.int .i64 0, .int .i64 2, .int .i64 (-1)]).below hbk
  have hbw : Below wj.heap.size wj wk := by
    have h1 := (Below.refl wj.heap.size wj).alloc (Nat.le_refl _) (.cells #[.int .i64 0, .int .i64 2, .int .i64 (-1)] 3)
    exact h1.trans (hbk.mono h1.size)
  have hT := HTJ.out.below hbw
  have hsz := size_any ⟨⟨#[120]⟩, [0, 2, -1], some ⟨wj.heap.size, 0, none⟩, 3, 3⟩ wk hT ⟨rfl, Nat.le_refl _, by simp [maxLen], rd_blk ki, fun h => by cases h⟩ (by show (3 : Nat) ≤ 1000000; omega)
  rw [show sizeG (Tab.mk 1 [pcV 1 1] [[(⟨#[97]⟩, [1])], [(⟨#[98]⟩, [])], [(⟨#[97]⟩, [1])]]).ps 0 [0, 2, -1] = 0 from fz1] at hsz
  have HSZ1 := Lib.hid (show Calls Try.prog 17 #[.pointer (some ⟨gt, 0, none⟩), .agg #[.string ⟨#[120]⟩, .slice (some ⟨wj.heap.size, 0, none⟩) 3 3]] wk (Quiet (.int .i64 0) wk) from hsz)
  have HT1 := Lib.hid hT
  have HBF1 := Lib.hid (HBJ.out.trans (hbw.mono HBJ.out.size))
  clear ki hbw hT hsz hbk
  go_wp2_with fail
  refine (HSZ1.out).mono ?_
  rintro e wkq ⟨rfl, hbkq⟩
  have HTq1 := Lib.hid (HT1.out.below hbkq)
  have HBq1 := Lib.hid (HBF1.out.trans (hbkq.mono HBF1.out.size))
  clear hbkq
  go_wp2_with fail
  refine (file_any _ _ _ _ _).mono ?_
  rintro e wm ⟨rfl, hbm⟩
  have ki := (Blk.new wkq 3 #[.int .i64 1, .int .i64 9]).below hbm
  have hbw : Below wkq.heap.size wkq wm := by
    have h1 := (Below.refl wkq.heap.size wkq).alloc (Nat.le_refl _) (.cells #[.int .i64 1, .int .i64 9] 3)
    exact h1.trans (hbm.mono h1.size)
  have hT := HTq1.out.below hbw
  have hsz := size_any ⟨⟨#[120]⟩, [1, 9], some ⟨wkq.heap.size, 0, none⟩, 2, 2⟩ wm hT ⟨rfl, Nat.le_refl _, by simp [maxLen], rd_blk ki, fun h => by cases h⟩ (by show (2 : Nat) ≤ 1000000; omega)
  rw [show sizeG (Tab.mk 1 [pcV 1 1] [[(⟨#[97]⟩, [1])], [(⟨#[98]⟩, [])], [(⟨#[97]⟩, [1])]]).ps 0 [1, 9] = 64 from fz2] at hsz
  have HSZ2 := Lib.hid (show Calls Try.prog 17 #[.pointer (some ⟨gt, 0, none⟩), .agg #[.string ⟨#[120]⟩, .slice (some ⟨wkq.heap.size, 0, none⟩) 2 2]] wm (Quiet (.int .i64 64) wm) from hsz)
  have HT2 := Lib.hid hT
  have HBF2 := Lib.hid (HBq1.out.trans (hbw.mono HBq1.out.size))
  clear ki hbw hT hsz hbm
  go_wp2_with fail
  refine (HSZ2.out).mono ?_
  rintro e wmq ⟨rfl, hbmq⟩
  have HTq2 := Lib.hid (HT2.out.below hbmq)
  have HBq2 := Lib.hid (HBF2.out.trans (hbmq.mono HBF2.out.size))
  clear hbmq
  go_wp2
  go_ret
  exact ⟨rfl, HBq2.out⟩
end Go.Proofs.Ytlhhkmpidnegcaa
