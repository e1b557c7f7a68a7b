/- IndexPlays' walk. -/
import Derived.Test.YtjcaahilgobfhaaIxPp
namespace Go.Proofs.Ytjcaahilgobfhaa
open Go.RowKit Go.WideShapes Go.Maps
set_option linter.unusedVariables false
set_option linter.unusedSimpArgs false
set_option maxHeartbeats 8000000 in
set_option maxRecDepth 100000 in
theorem playsI_law (os : List OpC) (A0 : Option Addr) (c0 : Nat) (w : World) (hok : ∀ o ∈ os, o.p.ok) (hrd : ∀ i o, os[i]? = some o → ∃ b off, A0 = some ⟨b, off, none⟩ ∧ b < w.heap.size ∧ w.rangeAt b (off + i * 25) o.cells) (hl : os.length ≤ c0) (hm : c0 ≤ maxLen) :
    Calls Try.prog 8 #[.slice A0 os.length c0] w (Quiet (.bool true) w) := by
  obtain ⟨LL, hLL⟩ : ∃ LL, os.length = LL := ⟨_, rfl⟩
  rw [hLL] at hl ⊢
  have HRD := Lib.hid hrd
  have HLL := Lib.hid hLL
  have HOK := Lib.hid hok
  have haw := awake_any
  have HAW := Lib.hid haw
  clear hrd hLL hok haw
  go_enter Try.func8, Try.ntmps8
  go_wp2_with fail
  refine (newIx_any w).mono ?_
  rintro e w1 ⟨⟨g, mb, rfl, hi, hg⟩, hb1⟩
  have HS1 := Lib.hid (show PlayS w 0 (.pointer (some ⟨g, 0, none⟩)) (.slice none 0 0) w1 from ⟨⟨g, mb, 0, [], _, none, 0, rfl, rfl, Nat.le_refl _, Nat.le_refl _, List.nodup_nil, fun p hp => (by cases hp), fun p hp => (by cases hp), hi, fun k hk => (by simp [Value.ownBlock]), .inl ⟨rfl, .inl ⟨rfl, rfl⟩⟩⟩, hb1⟩)
  clear hi hb1 hg
  go_wp2_with fail
  go_loopw [3, 4, 5] (fun xv wv i wr => ∃ I : Nat, I ≤ LL ∧ I ≤ 60 ∧ i = .int .i64 I ∧ PlayS w I xv wv wr) (fun _ _ i _ => 60 - (intOf i).toNat)
  case atStart => exact ⟨0, by omega, by omega, rfl, HS1.out⟩
  case round =>
    obtain ⟨I, hI, hI2, rfl, ⟨⟨g, mb, n, l, v, A, c, rfl, rfl, hn, hln, hnd, hok, hrt, hidx, hap, hrow⟩, hlow⟩⟩ := hrel
    obtain ⟨M, hM⟩ : ∃ M, l.length = M := ⟨_, rfl⟩
    rw [hM] at hln hap hrow ⊢
    have HM := Lib.hid hM
    have HLOW := Lib.hid hlow
    have HND := Lib.hid hnd
    have HPO := Lib.hid hok
    have HRT := Lib.hid hrt
    have HIX := Lib.hid hidx
    have HAP := Lib.hid hap
    have HRO := Lib.hid hrow
    have HN := Lib.hid hn
    have HLN := Lib.hid hln
    clear hlow hnd hok hrt hidx hap hrow hn hln hM
    by_cases hlt : I < LL
    · have d1 : decide ((I : Int) < (LL : Int)) = true := by simp; omega
      by_cases hlt2 : I < 60
      · have d2 : decide ((I : Int) < 60) = true := by simp; omega
        obtain ⟨o, hoI⟩ : ∃ o, os[I]? = some o := ⟨_, List.getElem?_eq_getElem (by rw [HLL.out]; exact hlt)⟩
        obtain ⟨b0, off0, hA0, hb0, hcl⟩ := HRD.out I o hoI
        subst hA0
        have hoo := HOK.out o (List.mem_of_getElem? hoI)
        obtain ⟨h0, hh0⟩ : ∃ h0, o.p.h[0]? = some h0 := ⟨_, List.getElem?_eq_getElem (by rw [hoo.h.len]; omega)⟩
        obtain ⟨r, hr8⟩ : ∃ r : Int, h0 % 8 = r := ⟨_, rfl⟩
        obtain ⟨h0', W1, W2, ⟨hx0, hx1⟩, hh0', hhead⟩ := head_of (w := w) o r hoo HIX.out HAP.out HRO.out
        obtain rfl : h0' = h0 := by rw [hh0] at hh0'; injection hh0' with h; exact h.symm
        have hrr : 0 ≤ r ∧ r < 256 := by omega
        have hpo2 := headP_ok o.p r hrr.1 hrr.2
        have hrg0 : wr.rangeAt b0 (off0 + I * 25) o.cells := fun j y hy => (HLOW.out.cell (p := ⟨b0, off0 + I * 25 + j, none⟩) hb0).trans (hcl j y hy)
        have hc25 : o.cells.length = 25 := by simp [OpC.cells, Pc.cells_length hoo]
        have hs53 : (Try.prog.info? 53).map (·.size) = some o.cells.length := by rw [hc25]; kernel_rfl
        have hs53a : (Try.prog.info? 53).map (·.size) = some o.cells.toArray.size := by rw [List.size_toArray]; exact hs53
        have hz53 : (25 : Nat) = o.cells.toArray.size := by rw [List.size_toArray, hc25]
        have hone53 : o.cells.toArray.all (·.oneCell') = true := by
          rw [Array.all_eq_true]
          intro i hi'
          have hmem : o.cells.toArray[i] ∈ o.cells := by simp
          unfold OpC.cells at hmem ⊢
          rcases List.mem_cons.1 hmem with h | h
          · rw [h]; rfl
          · rcases List.mem_cons.1 h with h | h
            · rw [h]; rfl
            · exact Pc.cells_one o.p _ h
        have hcp := cellsOf o.p hoo
        have hcq := cellsOf (headP o.p r) hpo2
        have hk37 : (Try.prog.info? 37).map (·.size) = some (hashV (headP o.p r).h).toArray.size := by rw [List.size_toArray]; exact hcq.s37
        have hone37 : (hashV (headP o.p r).h).toArray.all (·.oneCell') = true := all_oneCell_toArray hcq.hone
        have hk0 : W2.cell? ⟨wr.heap.size, 0, none⟩ = some (.int .i64 o.k) := by rw [hhead.pr.bo.cell]; rfl
        have hc0 := hhead.c0
        have HRG := Lib.hid hrg0
        have HS53 := Lib.hid hs53
        have HSA := Lib.hid hs53a
        have HZ53 := Lib.hid hz53
        have HO53 := Lib.hid hone53
        have CP := Lib.hid hcp
        have CQ := Lib.hid hcq
        have HK37 := Lib.hid hk37
        have HO37 := Lib.hid hone37
        have HPR := Lib.hid hhead.pr
        have HL2 := Lib.hid (HLOW.out.trans (hhead.low.mono HLOW.out.size))
        have HW1 := Lib.hid hhead.w1
        have HR2 := Lib.hid hhead.r2
        have HTH := Lib.hid hhead.th
        have HST := Lib.hid hhead.st
        have HQO := Lib.hid hpo2
        have HI60 := Lib.hid hlt2
        have HILL := Lib.hid hlt
        obtain ⟨N, hN⟩ : ∃ N, o.n = N := ⟨_, rfl⟩
        obtain ⟨κ, hκ⟩ : ∃ κ, o.k = κ := ⟨_, rfl⟩
        rw [hκ] at hk0
        have HNN := Lib.hid hN
        have HKK := Lib.hid hκ
        have hltI : (I : Int) < LL := by omega
        obtain ⟨oc, hoc⟩ : ∃ oc, o.cells = oc := ⟨_, rfl⟩
        obtain ⟨qc, hqc⟩ : ∃ qc, (headP o.p r).cells = qc := ⟨_, rfl⟩
        have HOC := Lib.hid hoc
        have HQC := Lib.hid hqc
        rw [hoc] at HRG HS53 HSA HZ53 HO53 HW1 HPR
        rw [hqc] at HPR CQ
        clear hhead hrg0 hs53 hs53a hz53 hone53 hcp hcq hk37 hone37 hh0 hh0' hcl hoo hpo2 hc25 hoI hN hκ hI hI2 hoc hqc
        by_cases hk1 : κ = 1
        · have hk := hk1
          have k1 : (κ == 1) = true := by simp [hk]
          obtain ⟨num, fresh, err, l2, n2, hl2, hn2, nd2, ok2, rt2, hadd, hradd⟩ := play_add (B := w.heap.size) (g := g) (mb := mb) (n := n) (l := l) (A := A) (M := M) (c := c) (go := wr.heap.size) (os := oc.toArray) (gp := W1.heap.size) (ps := qc.toArray) (headP o.p r) HQO.out HM.out (by have := HLN.out; omega) (by have := HN.out; omega) HND.out HPO.out HRT.out
          rw [show (headP o.p r).agg = .agg qc.toArray from (show (headP o.p r).agg = .agg (headP o.p r).cells.toArray from rfl).trans (by rw [HQC.out])] at hadd hradd
          have HADD := Lib.hid hadd
          have HRADD := Lib.hid hradd
          have TND := Lib.hid nd2
          have TOK := Lib.hid ok2
          have TRT := Lib.hid rt2
          have TNI := Lib.hid (show n2 ≤ I + 1 by have := HN.out; omega)
          have HMI := Lib.hid (show l2.length ≤ I + 1 by have := HLN.out; omega)
          clear hadd hradd nd2 ok2 rt2 hl2 hn2
          go_wp2_with (first | (refine wpList_load_mid rfl 53 (.tmp 36) rfl b0 (off0 + I * 25) rfl oc _ HRG.out Try.underlying53 rfl HS53.out ?_) | (refine wpList_store_row rfl 53 (.tmp 6) (.tmp 37) rfl wr.heap.size oc.toArray rfl rfl 53 _ (heap_alloc_new _ _) HSA.out HZ53.out HO53.out ?_; rw [World.setRow_alloc_new, HW1.out]) | (refine wpList_load_mid rfl 39 (.tmp 38) rfl wr.heap.size 2 rfl o.p.cells _ HR2.out Try.underlying39 rfl CP.out.s39 ?_) | (refine wpList_store_row rfl 39 (.tmp 7) (.tmp 39) rfl W1.heap.size o.p.cells.toArray rfl rfl 39 _ (heap_alloc_new _ _) CP.out.a39 CP.out.z39 CP.out.one ?_; rw [World.setRow_alloc_new]) | (refine wpList_store_mid rfl 37 (.tmp 45) (.tmp 44) rfl W1.heap.size 0 (hashV (headP o.p r).h).toArray rfl rfl HTH.out HK37.out HO37.out ?_; rw [HST.out]) | (refine wpList_load_row rfl 39 (.tmp 7) rfl W1.heap.size rfl 39 qc.toArray _ _ HPR.out.bp Try.underlying39 rfl CQ.out.a39 ?_))
          refine (HADD.out W2 HPR.out).mono ?_
          rintro e w3 ⟨rfl, hpr3, hlow3⟩
          have HPR3 := Lib.hid hpr3
          have HL3 := Lib.hid (HL2.out.trans hlow3)
          clear hpr3 hlow3
          go_wp2_with (refine wpList_load_row rfl 39 (.tmp 7) rfl W1.heap.size rfl 39 qc.toArray _ _ HPR3.out.bp Try.underlying39 rfl CQ.out.a39 ?_)
          refine (HRADD.out w3 HPR3.out HL3.out.size).mono ?_
          rintro e w4 ⟨⟨A2, M2, c2, rfl, hM2, hpr4⟩, hlow4⟩
          have TP := Lib.hid hpr4
          have TL := Lib.hid (HL3.out.trans hlow4)
          have TM := Lib.hid hM2.symm
          have TMI := Lib.hid (show M2 ≤ I + 1 by have := HMI.out; omega)
          clear hpr4 hlow4 hM2
          obtain ⟨fn, fb, hfi, hrf⟩ := play_find (B := w.heap.size) (g := g) (mb := mb) (n := n2) (l := l2) (A := A2) (M := M2) (c := c2) (go := wr.heap.size) (os := oc.toArray) (gp := W1.heap.size) (ps := qc.toArray) (headP o.p r).h HQO.out.h TOK.out TM.out (by have := TMI.out; have := HI60.out; omega)
          have HFI := Lib.hid hfi
          have HRF := Lib.hid hrf
          have HRH := Lib.hid (CQ.out.rg w4 W1.heap.size TP.out.bp)
          clear hfi hrf
          go_wp2_with (refine wpList_load_mid rfl 37 (.tmp 105) rfl W1.heap.size 0 rfl (hashV (headP o.p r).h) _ HRH.out Try.underlying37 rfl CQ.out.s37 ?_)
          refine (HFI.out w4 TP.out).mono ?_
          rintro e wa ⟨rfl, hba⟩
          have TPa := Lib.hid (TP.out.below hba)
          have TLa := Lib.hid (TL.out.trans (hba.mono TL.out.size))
          have HRHa := Lib.hid (CQ.out.rg wa W1.heap.size TPa.out.bp)
          clear hba
          go_wp2_with (refine wpList_load_mid rfl 37 (.tmp 112) rfl W1.heap.size 0 rfl (hashV (headP o.p r).h) _ HRHa.out Try.underlying37 rfl CQ.out.s37 ?_)
          refine (HRF.out wa TPa.out).mono ?_
          rintro e wb ⟨rfl, hbb⟩
          have TPb := Lib.hid (TPa.out.below hbb)
          have TLb := Lib.hid (TLa.out.trans (hbb.mono TLa.out.size))
          clear hbb
          have hle := play_len wb TPb.out TM.out
          have HLE := Lib.hid hle
          have kN : wb.cell? ⟨wr.heap.size, 1, none⟩ = some (.int .i64 N) := by rw [TPb.out.bo.cell, ← HOC.out, ← HNN.out]; rfl
          clear hle
          go_wp2_with fail
          refine (HLE.out).mono ?_
          rintro e wc ⟨rfl, rfl⟩
          go_wp2_with fail
          refine (play_has N wb TPb.out TM.out (by have := TMI.out; have := HI60.out; omega) TRT.out).mono ?_
          rintro e wd ⟨rfl, hbd⟩
          have HS9 := Lib.hid (PlayS.of (I := I + 1) (TPb.out.below hbd) TM.out TNI.out TMI.out TND.out TOK.out TRT.out (TLb.out.trans (hbd.mono TLb.out.size)))
          clear hbd
          go_wp2_with fail
          exact ⟨⟨I + 1, by have := HILL.out; omega, by have := HI60.out; omega, congrArg (Value.int .i64) (by omega), HS9.out⟩, by simp [intOf]; have := HI60.out; omega⟩
        · by_cases hk2 : κ = 2
          · have hk := hk2
            have k1 : (κ == 1) = false := by simp [hk]
            have k2 : (κ == 2) = true := by simp [hk]
            have kN0 : W2.cell? ⟨wr.heap.size, 1, none⟩ = some (.int .i64 N) := by rw [HPR.out.bo.cell, ← HOC.out, ← HNN.out]; rfl
            obtain ⟨err, l2, hl2, nd2, ok2, rt2, hcut, hrcut⟩ := play_cut (B := w.heap.size) (g := g) (mb := mb) (n := n) (l := l) (A := A) (M := M) (c := c) (go := wr.heap.size) (os := oc.toArray) (gp := W1.heap.size) (ps := qc.toArray) N HM.out (by have := HLN.out; omega) HND.out HPO.out HRT.out
            have HCU := Lib.hid hcut
            have HRCU := Lib.hid hrcut
            have TND := Lib.hid nd2
            have TOK := Lib.hid ok2
            have TRT := Lib.hid rt2
            have TNI := Lib.hid (show n ≤ I + 1 by have := HN.out; omega)
            have HMI := Lib.hid (show l2.length ≤ I + 1 by have := HLN.out; omega)
            clear hcut hrcut nd2 ok2 rt2 hl2
            go_wp2_with (first | (refine wpList_load_mid rfl 53 (.tmp 36) rfl b0 (off0 + I * 25) rfl oc _ HRG.out Try.underlying53 rfl HS53.out ?_) | (refine wpList_store_row rfl 53 (.tmp 6) (.tmp 37) rfl wr.heap.size oc.toArray rfl rfl 53 _ (heap_alloc_new _ _) HSA.out HZ53.out HO53.out ?_; rw [World.setRow_alloc_new, HW1.out]) | (refine wpList_load_mid rfl 39 (.tmp 38) rfl wr.heap.size 2 rfl o.p.cells _ HR2.out Try.underlying39 rfl CP.out.s39 ?_) | (refine wpList_store_row rfl 39 (.tmp 7) (.tmp 39) rfl W1.heap.size o.p.cells.toArray rfl rfl 39 _ (heap_alloc_new _ _) CP.out.a39 CP.out.z39 CP.out.one ?_; rw [World.setRow_alloc_new]) | (refine wpList_store_mid rfl 37 (.tmp 45) (.tmp 44) rfl W1.heap.size 0 (hashV (headP o.p r).h).toArray rfl rfl HTH.out HK37.out HO37.out ?_; rw [HST.out]))
            refine (HCU.out W2 HPR.out).mono ?_
            rintro e w3 ⟨rfl, hpr3, hlow3⟩
            have HPR3 := Lib.hid hpr3
            have HL3 := Lib.hid (HL2.out.trans hlow3)
            have kN3 : w3.cell? ⟨wr.heap.size, 1, none⟩ = some (.int .i64 N) := by rw [hpr3.bo.cell, ← HOC.out, ← HNN.out]; rfl
            clear hpr3 hlow3
            go_wp2_with fail
            refine (HRCU.out w3 HPR3.out HL3.out.size).mono ?_
            rintro e w4 ⟨⟨A2, M2, c2, rfl, hM2, hpr4⟩, hlow4⟩
            have TP := Lib.hid hpr4
            have TL := Lib.hid (HL3.out.trans hlow4)
            have TM := Lib.hid hM2.symm
            have TMI := Lib.hid (show M2 ≤ I + 1 by have := HMI.out; omega)
            clear hpr4 hlow4 hM2
            obtain ⟨fn, fb, hfi, hrf⟩ := play_find (B := w.heap.size) (g := g) (mb := mb) (n := n) (l := l2) (A := A2) (M := M2) (c := c2) (go := wr.heap.size) (os := oc.toArray) (gp := W1.heap.size) (ps := qc.toArray) (headP o.p r).h HQO.out.h TOK.out TM.out (by have := TMI.out; have := HI60.out; omega)
            have HFI := Lib.hid hfi
            have HRF := Lib.hid hrf
            have HRH := Lib.hid (CQ.out.rg w4 W1.heap.size TP.out.bp)
            clear hfi hrf
            go_wp2_with (refine wpList_load_mid rfl 37 (.tmp 105) rfl W1.heap.size 0 rfl (hashV (headP o.p r).h) _ HRH.out Try.underlying37 rfl CQ.out.s37 ?_)
            refine (HFI.out w4 TP.out).mono ?_
            rintro e wa ⟨rfl, hba⟩
            have TPa := Lib.hid (TP.out.below hba)
            have TLa := Lib.hid (TL.out.trans (hba.mono TL.out.size))
            have HRHa := Lib.hid (CQ.out.rg wa W1.heap.size TPa.out.bp)
            clear hba
            go_wp2_with (refine wpList_load_mid rfl 37 (.tmp 112) rfl W1.heap.size 0 rfl (hashV (headP o.p r).h) _ HRHa.out Try.underlying37 rfl CQ.out.s37 ?_)
            refine (HRF.out wa TPa.out).mono ?_
            rintro e wb ⟨rfl, hbb⟩
            have TPb := Lib.hid (TPa.out.below hbb)
            have TLb := Lib.hid (TLa.out.trans (hbb.mono TLa.out.size))
            clear hbb
            have hle := play_len wb TPb.out TM.out
            have HLE := Lib.hid hle
            have kN : wb.cell? ⟨wr.heap.size, 1, none⟩ = some (.int .i64 N) := by rw [TPb.out.bo.cell, ← HOC.out, ← HNN.out]; rfl
            clear hle
            go_wp2_with fail
            refine (HLE.out).mono ?_
            rintro e wc ⟨rfl, rfl⟩
            go_wp2_with fail
            refine (play_has N wb TPb.out TM.out (by have := TMI.out; have := HI60.out; omega) TRT.out).mono ?_
            rintro e wd ⟨rfl, hbd⟩
            have HS9 := Lib.hid (PlayS.of (I := I + 1) (TPb.out.below hbd) TM.out TNI.out TMI.out TND.out TOK.out TRT.out (TLb.out.trans (hbd.mono TLb.out.size)))
            clear hbd
            go_wp2_with fail
            exact ⟨⟨I + 1, by have := HILL.out; omega, by have := HI60.out; omega, congrArg (Value.int .i64) (by omega), HS9.out⟩, by simp [intOf]; have := HI60.out; omega⟩
          · by_cases hk3 : κ = 3
            · have hk := hk3
              have k1 : (κ == 1) = false := by simp [hk]
              have k2 : (κ == 2) = false := by simp [hk]
              have k3 : (κ == 3) = true := by simp [hk]
              have hcp := play_copy W2 HPR.out (by have := HLN.out; have := HM.out; omega) HND.out
              have HCP := Lib.hid hcp
              clear hcp
              have TND := HND
              have TOK := HPO
              have TRT := HRT
              have TM := HM
              have TNI := Lib.hid (show n ≤ I + 1 by have := HN.out; omega)
              have TMI := Lib.hid (show M ≤ I + 1 by have := HLN.out; omega)
              go_wp2_with (first | (refine wpList_load_mid rfl 53 (.tmp 36) rfl b0 (off0 + I * 25) rfl oc _ HRG.out Try.underlying53 rfl HS53.out ?_) | (refine wpList_store_row rfl 53 (.tmp 6) (.tmp 37) rfl wr.heap.size oc.toArray rfl rfl 53 _ (heap_alloc_new _ _) HSA.out HZ53.out HO53.out ?_; rw [World.setRow_alloc_new, HW1.out]) | (refine wpList_load_mid rfl 39 (.tmp 38) rfl wr.heap.size 2 rfl o.p.cells _ HR2.out Try.underlying39 rfl CP.out.s39 ?_) | (refine wpList_store_row rfl 39 (.tmp 7) (.tmp 39) rfl W1.heap.size o.p.cells.toArray rfl rfl 39 _ (heap_alloc_new _ _) CP.out.a39 CP.out.z39 CP.out.one ?_; rw [World.setRow_alloc_new]) | (refine wpList_store_mid rfl 37 (.tmp 45) (.tmp 44) rfl W1.heap.size 0 (hashV (headP o.p r).h).toArray rfl rfl HTH.out HK37.out HO37.out ?_; rw [HST.out]))
              refine (HCP.out).mono ?_
              rintro e w3 ⟨hlow3, g2, mb2, rfl, hcu⟩
              have HL3 := Lib.hid (HL2.out.trans hlow3)
              have HCU := Lib.hid hcu
              clear hlow3 hcu
              go_wp2_with fail
              refine (HCU.out).mono ?_
              rintro e w4 ⟨rfl, hpr4, hlow4⟩
              have TP := Lib.hid hpr4
              have TL := Lib.hid (HL3.out.trans hlow4)
              clear hpr4 hlow4
              obtain ⟨fn, fb, hfi, hrf⟩ := play_find (B := w.heap.size) (g := g2) (mb := mb2) (n := n) (l := l) (A := A) (M := M) (c := c) (go := wr.heap.size) (os := oc.toArray) (gp := W1.heap.size) (ps := qc.toArray) (headP o.p r).h HQO.out.h TOK.out TM.out (by have := TMI.out; have := HI60.out; omega)
              have HFI := Lib.hid hfi
              have HRF := Lib.hid hrf
              have HRH := Lib.hid (CQ.out.rg w4 W1.heap.size TP.out.bp)
              clear hfi hrf
              go_wp2_with (refine wpList_load_mid rfl 37 (.tmp 105) rfl W1.heap.size 0 rfl (hashV (headP o.p r).h) _ HRH.out Try.underlying37 rfl CQ.out.s37 ?_)
              refine (HFI.out w4 TP.out).mono ?_
              rintro e wa ⟨rfl, hba⟩
              have TPa := Lib.hid (TP.out.below hba)
              have TLa := Lib.hid (TL.out.trans (hba.mono TL.out.size))
              have HRHa := Lib.hid (CQ.out.rg wa W1.heap.size TPa.out.bp)
              clear hba
              go_wp2_with (refine wpList_load_mid rfl 37 (.tmp 112) rfl W1.heap.size 0 rfl (hashV (headP o.p r).h) _ HRHa.out Try.underlying37 rfl CQ.out.s37 ?_)
              refine (HRF.out wa TPa.out).mono ?_
              rintro e wb ⟨rfl, hbb⟩
              have TPb := Lib.hid (TPa.out.below hbb)
              have TLb := Lib.hid (TLa.out.trans (hbb.mono TLa.out.size))
              clear hbb
              have hle := play_len wb TPb.out TM.out
              have HLE := Lib.hid hle
              have kN : wb.cell? ⟨wr.heap.size, 1, none⟩ = some (.int .i64 N) := by rw [TPb.out.bo.cell, ← HOC.out, ← HNN.out]; rfl
              clear hle
              go_wp2_with fail
              refine (HLE.out).mono ?_
              rintro e wc ⟨rfl, rfl⟩
              go_wp2_with fail
              refine (play_has N wb TPb.out TM.out (by have := TMI.out; have := HI60.out; omega) TRT.out).mono ?_
              rintro e wd ⟨rfl, hbd⟩
              have HS9 := Lib.hid (PlayS.of (I := I + 1) (TPb.out.below hbd) TM.out TNI.out TMI.out TND.out TOK.out TRT.out (TLb.out.trans (hbd.mono TLb.out.size)))
              clear hbd
              go_wp2_with fail
              exact ⟨⟨I + 1, by have := HILL.out; omega, by have := HI60.out; omega, congrArg (Value.int .i64) (by omega), HS9.out⟩, by simp [intOf]; have := HI60.out; omega⟩
            · skip
              have k1 : (κ == 1) = false := by simp [hk1]
              have k2 : (κ == 2) = false := by simp [hk2]
              have k3 : (κ == 3) = false := by simp [hk3]
              have TP := HPR
              have TL := HL2
              have TND := HND
              have TOK := HPO
              have TRT := HRT
              have TM := HM
              have TNI := Lib.hid (show n ≤ I + 1 by have := HN.out; omega)
              have TMI := Lib.hid (show M ≤ I + 1 by have := HLN.out; omega)
              obtain ⟨fn, fb, hfi, hrf⟩ := play_find (B := w.heap.size) (g := g) (mb := mb) (n := n) (l := l) (A := A) (M := M) (c := c) (go := wr.heap.size) (os := oc.toArray) (gp := W1.heap.size) (ps := qc.toArray) (headP o.p r).h HQO.out.h TOK.out TM.out (by have := TMI.out; have := HI60.out; omega)
              have HFI := Lib.hid hfi
              have HRF := Lib.hid hrf
              have HRH := Lib.hid (CQ.out.rg W2 W1.heap.size TP.out.bp)
              clear hfi hrf
              go_wp2_with (first | (refine wpList_load_mid rfl 53 (.tmp 36) rfl b0 (off0 + I * 25) rfl oc _ HRG.out Try.underlying53 rfl HS53.out ?_) | (refine wpList_store_row rfl 53 (.tmp 6) (.tmp 37) rfl wr.heap.size oc.toArray rfl rfl 53 _ (heap_alloc_new _ _) HSA.out HZ53.out HO53.out ?_; rw [World.setRow_alloc_new, HW1.out]) | (refine wpList_load_mid rfl 39 (.tmp 38) rfl wr.heap.size 2 rfl o.p.cells _ HR2.out Try.underlying39 rfl CP.out.s39 ?_) | (refine wpList_store_row rfl 39 (.tmp 7) (.tmp 39) rfl W1.heap.size o.p.cells.toArray rfl rfl 39 _ (heap_alloc_new _ _) CP.out.a39 CP.out.z39 CP.out.one ?_; rw [World.setRow_alloc_new]) | (refine wpList_store_mid rfl 37 (.tmp 45) (.tmp 44) rfl W1.heap.size 0 (hashV (headP o.p r).h).toArray rfl rfl HTH.out HK37.out HO37.out ?_; rw [HST.out]) | (refine wpList_load_mid rfl 37 (.tmp 105) rfl W1.heap.size 0 rfl (hashV (headP o.p r).h) _ HRH.out Try.underlying37 rfl CQ.out.s37 ?_))
              refine (HFI.out W2 TP.out).mono ?_
              rintro e wa ⟨rfl, hba⟩
              have TPa := Lib.hid (TP.out.below hba)
              have TLa := Lib.hid (TL.out.trans (hba.mono TL.out.size))
              have HRHa := Lib.hid (CQ.out.rg wa W1.heap.size TPa.out.bp)
              clear hba
              go_wp2_with (refine wpList_load_mid rfl 37 (.tmp 112) rfl W1.heap.size 0 rfl (hashV (headP o.p r).h) _ HRHa.out Try.underlying37 rfl CQ.out.s37 ?_)
              refine (HRF.out wa TPa.out).mono ?_
              rintro e wb ⟨rfl, hbb⟩
              have TPb := Lib.hid (TPa.out.below hbb)
              have TLb := Lib.hid (TLa.out.trans (hbb.mono TLa.out.size))
              clear hbb
              have hle := play_len wb TPb.out TM.out
              have HLE := Lib.hid hle
              have kN : wb.cell? ⟨wr.heap.size, 1, none⟩ = some (.int .i64 N) := by rw [TPb.out.bo.cell, ← HOC.out, ← HNN.out]; rfl
              clear hle
              go_wp2_with fail
              refine (HLE.out).mono ?_
              rintro e wc ⟨rfl, rfl⟩
              go_wp2_with fail
              refine (play_has N wb TPb.out TM.out (by have := TMI.out; have := HI60.out; omega) TRT.out).mono ?_
              rintro e wd ⟨rfl, hbd⟩
              have HS9 := Lib.hid (PlayS.of (I := I + 1) (TPb.out.below hbd) TM.out TNI.out TMI.out TND.out TOK.out TRT.out (TLb.out.trans (hbd.mono TLb.out.size)))
              clear hbd
              go_wp2_with fail
              exact ⟨⟨I + 1, by have := HILL.out; omega, by have := HI60.out; omega, congrArg (Value.int .i64) (by omega), HS9.out⟩, by simp [intOf]; have := HI60.out; omega⟩

      · have d2 : decide ((I : Int) < 60) = false := by simp; omega
        go_wp2_with fail
        refine (HAW.out wr).mono ?_
        rintro e w2 ⟨rfl, hb2⟩
        have HB2 := Lib.hid (HLOW.out.trans (hb2.mono HLOW.out.size))
        clear hb2
        go_wp2_with fail
        go_ret
        exact ⟨rfl, HB2.out⟩
    · have d1 : decide ((I : Int) < (LL : Int)) = false := by simp; omega
      go_wp2_with fail
      refine (HAW.out wr).mono ?_
      rintro e w2 ⟨rfl, hb2⟩
      have HB2 := Lib.hid (HLOW.out.trans (hb2.mono HLOW.out.size))
      clear hb2
      go_wp2_with fail
      go_ret
      exact ⟨rfl, HB2.out⟩
theorem playsI_raw {H : Type} {enc : TypeId × Value → H} {base : Nat} {d : DataW H} {ps : List MemPlace} (v : Value) (w : World) (hv : Value.okWide Try.prog w .any base 51 v) (hk : DataW.Trod enc Try.prog w 0 (fun _ => true) true 51 v d ps) :
    Calls Try.prog 8 #[v] w fun e w' => e = .returned (.bool true) ∧ Below w.heap.size w w' := by
  obtain ⟨os, A, c, rfl, h1, h2, h3, h4⟩ := open_script hv hk
  exact (playsI_law os A c w h1 h2 h3 h4).mono fun e w' h => ⟨h.ret, h.low⟩
end Go.Proofs.Ytjcaahilgobfhaa
