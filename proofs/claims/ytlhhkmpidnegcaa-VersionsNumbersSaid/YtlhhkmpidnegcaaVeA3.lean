/- Apply: the walk. -/
import Derived.Test.YtlhhkmpidnegcaaVeA2
namespace Go.Proofs.Ytlhhkmpidnegcaa
open Go.RowKit Go.WideShapes
set_option linter.unusedVariables false
set_option linter.unusedSimpArgs false
section
variable {B gt gi mb nst : Nat} {v V : Value} {xs : List Value}
set_option maxRecDepth 100000 in
set_option maxHeartbeats 400000000 in
theorem ap_main (bl : Int) (ps0 : List Pc) (vs : List (List (ByteArray × List Int))) (blocks roll : Int) (pcs : List Pc) (fs : List Fl) (Ap Af : Option Addr) (np cp nf cf : Nat) (w : World) (h : Tb B w gt gi mb nst ⟨bl, ps0, vs⟩ v V xs)
    (hP : ∀ W, Frm (Sg gt gi mb v) w W → Rd W Ap (flatP pcs)) (hoks : ∀ p ∈ pcs, p.ok) (hnp : pcs.length = np)
    (hF : ∀ W, Frm (Sg gt gi mb v) w W → RdF W Af fs) (hnf : fs.length = nf) (hnm : ∀ f ∈ fs, f.nm.size ≤ maxLen) (hfA : Af = none → nf = 0 ∧ cf = 0) (hnf2 : nf ≤ 1000000000) (hrl : -9223372036854775808 ≤ roll ∧ roll ≤ 9223372036854775807)
    (c1 : vs.length ≠ 100) (c2 : ¬ 1048576 - bl < blocks) (c3 : ¬ 8192 - (ps0.length : Int) < (np : Int)) (c4 : 0 ≤ blocks) (hns : nst + np ≤ 99999) :
    Calls Try.prog 7 #[.pointer (some ⟨gt, 0, none⟩), .int .i64 blocks, .slice Ap np cp, .agg #[.int .i64 roll, .slice Af nf cf]] w (ApE B gt gi mb (nst + np) (applyT ⟨bl, ps0, vs⟩ blocks pcs roll (fs.map Fl.dat)) v V w) := by
  have happ : applyT ⟨bl, ps0, vs⟩ blocks pcs roll (fs.map Fl.dat) = match addAll bl (bl + blocks) ps0 pcs with
      | none => (2, ⟨bl, ps0, vs⟩)
      | some ps => if 0 < roll ∧ (vs.length : Int) < roll then (17, ⟨bl, ps0, vs⟩) else if formB ps roll (fs.map Fl.dat) = false then (13, ⟨bl, ps0, vs⟩) else (0, ⟨bl + blocks, ps, vs ++ [if 0 < roll then vs.getD (roll.toNat - 1) [] else fs.map Fl.dat]⟩) := by
    unfold applyT
    rw [hnp, if_neg (by rintro (h | h | h); exact c1 h; exact c2 h; exact c3 h), if_neg (by omega)]
    rfl
  have hb2 := ((Below.refl w.heap.size w).alloc (Nat.le_refl _) (.cells #[.pointer (some ⟨gt, 0, none⟩)] 23)).alloc (by simp) (.cells #[.int .i64 roll, .slice Af nf cf] 29)
  have hb3 := hb2.alloc hb2.size (.cells #[.int .i64 (ps0.length : Int)] 3)
  have h2 := h.below hb2
  have h3 := h.below hb3
  obtain ⟨VA, Vc, rfl, hVc⟩ := own_slice h.row
  have c0 := h.blk.cell 0
  have c1' := h.blk.cell 1
  have c2' := h.blk.cell 2
  simp at c0 c1' c2'
  have hno := none33 _ h2.blk
  have hle := len_any _ h2.idx
  have hbl0 : 0 ≤ bl := h.b0
  have hbl1 : bl ≤ 1048576 := h.b1
  have hlm : ps0.length ≤ 8192 := h.lm
  have hvl : vs.length ≤ 100 := h.vl
  have hgt := h.lt
  have hfx : FxA w.heap.size (w.heap.size + 1) (w.heap.size + 1 + 1) gt gi roll bl ps0.length (.slice Af nf cf) (.slice VA vs.length Vc) (((w.alloc (.cells #[.pointer (some ⟨gt, 0, none⟩)] 23)).alloc (.cells #[.int .i64 roll, .slice Af nf cf] 29)).alloc (.cells #[.int .i64 (ps0.length : Int)] 3)) := by
    have k1 := (Blk.new w 23 #[.pointer (some ⟨gt, 0, none⟩)]).alloc (.cells #[.int .i64 roll, .slice Af nf cf] 29) |>.alloc (.cells #[.int .i64 (ps0.length : Int)] 3)
    have k2 := (Blk.new (w.alloc (.cells #[.pointer (some ⟨gt, 0, none⟩)] 23)) 29 #[.int .i64 roll, .slice Af nf cf]).alloc (.cells #[.int .i64 (ps0.length : Int)] 3)
    have k3 := Blk.new ((w.alloc (.cells #[.pointer (some ⟨gt, 0, none⟩)] 23)).alloc (.cells #[.int .i64 roll, .slice Af nf cf] 29)) 3 #[.int .i64 (ps0.length : Int)]
    rw [show (w.alloc (.cells #[.pointer (some ⟨gt, 0, none⟩)] 23)).heap.size = w.heap.size + 1 by simp] at k2
    rw [show ((w.alloc (.cells #[.pointer (some ⟨gt, 0, none⟩)] 23)).alloc (.cells #[.int .i64 roll, .slice Af nf cf] 29)).heap.size = w.heap.size + 1 + 1 by simp] at k3
    have k4 := h3.blk
    exact ⟨k1.cell 0, k2.cell 0, k2.cell 1, k3.cell 0, k4.cell 0, k4.cell 1, k4.cell 2⟩
  have hs3 : w.heap.size ≤ (((w.alloc (.cells #[.pointer (some ⟨gt, 0, none⟩)] 23)).alloc (.cells #[.int .i64 roll, .slice Af nf cf] 29)).alloc (.cells #[.int .i64 (ps0.length : Int)] 3)).heap.size := hb3.size
  have hnx : ∀ k, Sx gi mb v k → k ≠ w.heap.size ∧ k ≠ w.heap.size + 1 ∧ k ≠ w.heap.size + 1 + 1 ∧ k ≠ gt := fun k hk => by
    have hk2 : k < w.heap.size := by
      rcases hk with rfl | rfl | hk
      · exact h.idx.blk.lt
      · exact h.idx.map.lt
      · exact (h.idx.own.lt k hk).2
    exact ⟨by omega, by omega, by omega, h.gt_ne k hk⟩
  have e1 : ((vs.length : Int) == 100) = false := by simp; omega
  have e2 : decide (1048576 - bl < blocks) = false := decide_eq_false c2
  have e3 : decide (8192 - (ps0.length : Int) < np) = false := decide_eq_false c3
  have e4 : decide (blocks < 0) = false := decide_eq_false (by omega)
  have hPx : ∀ W, Frm (Sx gi mb v) w W → Rd W Ap (flatP pcs) ∧ RdF W Af fs := fun W hW => ⟨hP W (hW.mono fun _ _ h => .inr h), hF W (hW.mono fun _ _ h => .inr h)⟩
  have HAPP := Lib.hid happ
  have HB2 := Lib.hid hb2
  have HB3 := Lib.hid hb3
  have HNO := Lib.hid hno
  have HLE := Lib.hid hle
  have H0 := Lib.hid h
  have H3 := Lib.hid h3
  have HFX := Lib.hid hfx
  have HNX := Lib.hid hnx
  have HPX := Lib.hid hPx
  have HF := Lib.hid hF
  have HOK := Lib.hid hoks
  have HNP := Lib.hid hnp
  have HNF := Lib.hid hnf
  have HNM := Lib.hid hnm
  have HFA := Lib.hid hfA
  obtain ⟨R, hR⟩ : ∃ R, applyT ⟨bl, ps0, vs⟩ blocks pcs roll (fs.map Fl.dat) = R := ⟨_, rfl⟩
  rw [hR] at HAPP ⊢
  clear hb2 hb3 hno hle h2 h3 hP hF hoks hnp hnf hnm hfA h hfx hnx hPx happ hR
  have hn1 : gt ≠ w.heap.size := by omega
  have hn2 : gt ≠ w.heap.size + 1 := by omega
  go_enter Try.func7, Try.ntmps7
  go_wp2_with fail
  refine (HNO.out).mono ?_
  rintro e w1 ⟨rfl, rfl⟩
  go_wp2_with fail
  refine (HLE.out).mono ?_
  rintro e w1 ⟨rfl, rfl⟩
  go_wp2_with fail
  refine (HLE.out).mono ?_
  rintro e w1 ⟨rfl, rfl⟩
  go_wp2_with fail
  clear HB2 HNO HLE e1 e2 e3 e4 hn1 hn2 c0 c1' c2'
  generalize (((w.alloc (.cells #[.pointer (some ⟨gt, 0, none⟩)] 23)).alloc (.cells #[.int .i64 roll, .slice Af nf cf] 29)).alloc (.cells #[.int .i64 (ps0.length : Int)] 3)) = w3 at HB3 H3 HFX hs3 ⊢
  obtain ⟨wb, hwb⟩ : ∃ x, w.heap.size + 1 + 1 = x := ⟨_, rfl⟩
  rw [hwb] at HFX HNX ⊢
  obtain ⟨eb, heb⟩ : ∃ x, w.heap.size + 1 = x := ⟨_, rfl⟩
  rw [heb] at HFX HNX ⊢
  obtain ⟨tb, htb⟩ : ∃ x, w.heap.size = x := ⟨_, rfl⟩
  have HTB := Lib.hid htb
  rw [htb] at HFX HNX ⊢
  clear hwb heb htb
  have hLp := Lib.hid (show LpS B gt gi mb nst bl blocks ps0 vs v (.slice VA vs.length Vc) xs pcs 0 w3 w3 from ⟨⟨ps0, nst, v, H3.out, List.take_length, Nat.le_refl _, Nat.le_refl _, Nat.le_refl _, rfl, fun b hb => .inl hb⟩, Frm.refl _ _⟩)
  have hfxa : ∀ W, Frm (Sx gi mb v) w3 W → FxA tb eb wb gt gi roll bl ps0.length (.slice Af nf cf) (.slice VA vs.length Vc) W := fun W hW => HFX.out.frm hW (fun h => (HNX.out _ h).1 rfl) (fun h => (HNX.out _ h).2.1 rfl) (fun h => (HNX.out _ h).2.2.1 rfl) (fun h => (HNX.out _ h).2.2.2 rfl)
  have HFXA := Lib.hid hfxa
  clear hfxa
  go_loopw [58] (fun i wr => ∃ k : Nat, k ≤ np ∧ i = .int .i64 k ∧ LpS B gt gi mb nst bl blocks ps0 vs v (.slice VA vs.length Vc) xs pcs k w3 wr) (fun i _ => np - (intOf i).toNat)
  case atStart => exact ⟨0, by omega, rfl, hLp.out⟩
  case round =>
    obtain ⟨k, hk, rfl, hls⟩ := hrel
    obtain ⟨⟨psk, nk, v', hT, htk, hl1, hl2, hnk, hadd, hvo⟩, hfr⟩ := hls
    have HT := Lib.hid hT
    have HTK := Lib.hid htk
    have HADD := Lib.hid hadd
    have HVO := Lib.hid hvo
    have HFR := Lib.hid hfr
    clear hT htk hadd hvo hfr
    by_cases hlt : k < np
    · obtain ⟨p, hp⟩ : ∃ p, pcs[k]? = some p := ⟨_, List.getElem?_eq_getElem (by rw [HNP.out]; exact hlt)⟩
      have hpo := HOK.out p (List.mem_of_getElem? hp)
      have hrd := (HPX.out wr ((Frm.of_below HB3.out).trans HFR.out (fun _ _ h => h))).1
      obtain ⟨bp, op, rfl, hblt, hcl⟩ := hrd (by
        have h1 := flatP_at pcs HOK.out k p hp 20 _ (Pc.cell_s hpo)
        have h2 := (List.getElem?_eq_some_iff.1 h1).1
        omega)
      have hrg : wr.rangeAt bp (op + k * 23) p.cells := fun j y hy => by
        have h1 := flatP_at pcs HOK.out k p hp j y hy
        rw [show op + k * 23 + j = op + (23 * k + j) by omega]
        exact hcl _ _ h1
      have hgo := addAll_go (lo := bl) (hi := bl + blocks) (ps := psk) hp
      have hs52 : (Try.prog.info? 52).map (·.size) = some p.cells.length := by rw [Pc.cells_length hpo]; exact size39
      have hzz : zeroA.size = p.cells.toArray.size := (by rfl : zeroA.size = 23).trans (by rw [List.size_toArray, Pc.cells_length hpo])
      have hone : p.cells.toArray.all (·.oneCell') = true := by
        rw [Array.all_eq_true]
        intro i hi'
        exact Pc.cells_one p _ (show p.cells.toArray[i] ∈ p.cells by simp)
      have hcb := Pc.cell_b hpo
      have hlat : ∀ W, Below (wr.alloc (.cells p.cells.toArray 52)).heap.size (wr.alloc (.cells p.cells.toArray 52)) W → Frm (Sx gi mb v) w3 W ∧ Tb B W gt gi mb nk ⟨bl, psk, vs⟩ v' (.slice VA vs.length Vc) xs ∧ W.rangeAt wr.heap.size 0 p.cells := fun W hW =>
        ⟨(HFR.out.alloc _).below hW, (HT.out.below ((Below.refl wr.heap.size wr).alloc (Nat.le_refl _) (.cells p.cells.toArray 52))).below hW, fun j y hy => by
          rw [Nat.zero_add, ((Blk.new wr 52 p.cells.toArray).below hW).cell, List.getElem?_toArray]
          exact hy⟩
      have hgq : wr.heap.size < (wr.alloc (.cells p.cells.toArray 52)).heap.size := by simp
      have hqs : (Below.refl (wr.alloc (.cells p.cells.toArray 52)).heap.size (wr.alloc (.cells p.cells.toArray 52))).size = Nat.le_refl _ := rfl
      have HGQ := Lib.hid (show ∀ b, (b = gi ∨ b = mb ∨ v'.ownBlock = some b) → b ≠ wr.heap.size from fun b hb => by
        have : b < wr.heap.size := by
          rcases hb with rfl | rfl | hb
          · exact HT.out.idx.blk.lt
          · exact HT.out.idx.map.lt
          · exact (HT.out.idx.own.lt b hb).2
        omega)
      have HPO := Lib.hid hpo
      have HPP := Lib.hid hp
      have HRG := Lib.hid hrg
      have HGO := Lib.hid hgo
      have HS52 := Lib.hid hs52
      have HSA := Lib.hid (show (Try.prog.info? 52).map (·.size) = some p.cells.toArray.size from by rw [List.size_toArray]; exact hs52)
      have HZ := Lib.hid hzz
      have HO := Lib.hid hone
      have HLAT := Lib.hid hlat
      have HCB := Lib.hid hcb
      clear hpo hp hrg hgo hs52 hzz hone hlat hcb hrd hcl hqs
      have hkn : (k : Int) < np := by omega
      have hagg : p.agg = .agg p.cells.toArray := rfl
      have HAG := Lib.hid hagg
      clear hagg
      obtain ⟨cs, hcs⟩ : ∃ cs, p.cells = cs := ⟨_, rfl⟩
      rw [hcs] at HRG HS52 HSA HZ HO HLAT HCB HAG hgq
      clear hcs
      go_wp2_with (first | (refine wpList_load_mid rfl 52 (.tmp 60) rfl bp (op + k * 23) rfl cs _ HRG.out Try.underlying52 rfl HS52.out ?_) | (refine wpList_store_row rfl 52 (.tmp 12) (.tmp 61) rfl wr.heap.size cs.toArray rfl rfl 52 zeroA (heap_alloc_new _ _) HSA.out HZ.out HO.out ?_; rw [World.setRow_alloc_new]))
      obtain ⟨gq, hgqe⟩ : ∃ x, wr.heap.size = x := ⟨_, rfl⟩
      rw [hgqe] at HLAT HGQ hgq ⊢
      clear hgqe HRG
      generalize wr.alloc (.cells cs.toArray 52) = wq at HLAT hgq ⊢
      obtain ⟨hf0, hT0, hr0⟩ := HLAT.out wq (Below.refl _ _)
      have f0 := HFXA.out wq hf0
      have g21 := hr0 21 _ HCB.out
      rw [Nat.zero_add] at g21
      have q1 := f0.t
      have q2 := f0.g1
      clear hf0 hT0 hr0 f0
      have hpb0 : -1 ≤ bl + blocks := by omega
      by_cases ca : p.b ≤ bl
      · have ea : decide (p.b ≤ bl) = true := decide_eq_true ca
        have HGN := Lib.hid (show addAll bl (bl + blocks) psk (pcs.drop k) = none by rw [HGO.out, show decide (bl < p.b) = false from decide_eq_false (by omega), Bool.false_and, Bool.false_and, Bool.false_and, if_neg (by decide)])
        obtain ⟨ph, psz, pb, pat⟩ := p
        simp only at g21 ea ca
        go_wp2_with fail
        go_quiet (fail)
        obtain ⟨hfq, hTq, _⟩ := HLAT.out (wq.drewN nq) (below_drewN (Below.refl _ _) _)
        have fx := HFXA.out _ hfq
        have hbd := bad35 (B := B) (gt := gt) (gi := gi) (mb := mb) (n := nk) (l := psk) (v := v') 2 tb wb ps0.length (wq.drewN nq) fx.t fx.g0 fx.b ⟨fun h => (HNX.out gi (.inl rfl)).1 h.symm, fun h => (HNX.out mb (.inr (.inl rfl))).1 h.symm⟩ ⟨fun h => (HNX.out gi (.inl rfl)).2.2.2 h.symm, fun h => (HNX.out mb (.inr (.inl rfl))).2.2.2 h.symm⟩ ⟨fun h => (HNX.out gi (.inl rfl)).2.2.1 h.symm, fun h => (HNX.out mb (.inr (.inl rfl))).2.2.1 h.symm⟩ hTq.idx hTq.nd hl1 hTq.lm
        have HBD := Lib.hid hbd
        have HTQ := Lib.hid hTq
        have HFQ := Lib.hid hfq
        clear hbd hTq hfq fx
        go_wp2_with fail
        refine (HBD.out).mono ?_
        intro e w9 hbad
        have hre := hbad.ret
        subst hre
        have HBE := Lib.hid hbad
        clear hbad
        go_wp2
        go_ret
        exact bad_done HB3.out HFQ.out HTQ.out HTK.out (by omega) HBE.out (fun b hb => (HVO.out b hb).imp id fun h => Nat.le_trans hs3 h) (by rw [HAPP.out, HADD.out, HGN.out])
      · have ea : decide (p.b ≤ bl) = false := decide_eq_false ca
        by_cases cb : bl + blocks < p.b
        · have eb' : decide (bl + blocks < p.b) = true := decide_eq_true cb
          have HGN := Lib.hid (show addAll bl (bl + blocks) psk (pcs.drop k) = none by rw [HGO.out, show decide (p.b ≤ bl + blocks) = false from decide_eq_false (by omega), Bool.and_false, Bool.false_and, Bool.false_and, if_neg (by decide)])
          obtain ⟨ph, psz, pb, pat⟩ := p
          simp only at g21 ea ca eb' cb
          go_wp2_with fail
          go_quiet (fail)
          obtain ⟨hfq, hTq, _⟩ := HLAT.out (wq.drewN nq) (below_drewN (Below.refl _ _) _)
          have fx := HFXA.out _ hfq
          have hbd := bad35 (B := B) (gt := gt) (gi := gi) (mb := mb) (n := nk) (l := psk) (v := v') 2 tb wb ps0.length (wq.drewN nq) fx.t fx.g0 fx.b ⟨fun h => (HNX.out gi (.inl rfl)).1 h.symm, fun h => (HNX.out mb (.inr (.inl rfl))).1 h.symm⟩ ⟨fun h => (HNX.out gi (.inl rfl)).2.2.2 h.symm, fun h => (HNX.out mb (.inr (.inl rfl))).2.2.2 h.symm⟩ ⟨fun h => (HNX.out gi (.inl rfl)).2.2.1 h.symm, fun h => (HNX.out mb (.inr (.inl rfl))).2.2.1 h.symm⟩ hTq.idx hTq.nd hl1 hTq.lm
          have HBD := Lib.hid hbd
          have HTQ := Lib.hid hTq
          have HFQ := Lib.hid hfq
          clear hbd hTq hfq fx
          go_wp2_with fail
          refine (HBD.out).mono ?_
          intro e w9 hbad
          have hre := hbad.ret
          subst hre
          have HBE := Lib.hid hbad
          clear hbad
          go_wp2
          go_ret
          exact bad_done HB3.out HFQ.out HTQ.out HTK.out (by omega) HBE.out (fun b hb => (HVO.out b hb).imp id fun h => Nat.le_trans hs3 h) (by rw [HAPP.out, HADD.out, HGN.out])
        · have eb' : decide (bl + blocks < p.b) = false := decide_eq_false cb
          have HRB := Lib.hid (show decide (bl < p.b) = true ∧ decide (p.b ≤ bl + blocks) = true from ⟨decide_eq_true (by omega), decide_eq_true (by omega)⟩)
          obtain ⟨pb, hpb⟩ : ∃ x, p.b = x := ⟨_, rfl⟩
          rw [hpb] at g21 ea ca eb' cb
          clear hpb
          go_wp2_with fail
          go_quiet (fail)
          have hadds : ((∃ (fr : Bool) (er num : Int), (er ≠ 0 ∨ fr = false) ∧ addAll bl (bl + blocks) psk (pcs.drop k) = none ∧ ∀ W, Tb B W gt gi mb nk ⟨bl, psk, vs⟩ v' (.slice VA vs.length Vc) xs → Calls Try.prog 37 #[.pointer (some ⟨gi, 0, none⟩), .agg cs.toArray] W (Quiet (.tuple #[.int .i64 num, .bool fr, .int .i64 er]) W))) ∨
              (addAll bl (bl + blocks) psk (pcs.drop k) = addAll bl (bl + blocks) (psk ++ [p]) (pcs.drop (k + 1)) ∧ rightP p.s p.b p.a = true ∧ findP psk p.h = none ∧ ∀ W, Tb B W gt gi mb nk ⟨bl, psk, vs⟩ v' (.slice VA vs.length Vc) xs → Calls Try.prog 37 #[.pointer (some ⟨gi, 0, none⟩), .agg cs.toArray] W (Added B gi mb nk psk p v' W)) := by
            have hgo := HGO.out
            rw [HRB.out.1, HRB.out.2, Bool.true_and, Bool.true_and] at hgo
            cases hrp : rightP p.s p.b p.a with
            | false =>
              rw [hrp, Bool.false_and, if_neg (by decide)] at hgo
              refine .inl ⟨false, 2, 0, .inl (by decide), hgo, fun W hW => ?_⟩
              rw [← HAG.out]
              exact add_wrong p W hW.idx HPO.out hrp
            | true =>
              rw [hrp, Bool.true_and] at hgo
              rcases find_none_or psk p.h with hf | ⟨i, hf⟩
              · rw [hf] at hgo
                simp only [Option.isNone_none, if_true] at hgo
                refine .inr ⟨hgo, rfl, hf, fun W hW => ?_⟩
                rw [← HAG.out]
                exact add_new p W hW.idx HPO.out hrp hf (by omega) (by omega) hW.idx.blk.lt
              · rw [hf] at hgo
                simp only [Option.isNone_some, Bool.false_eq_true, if_false] at hgo
                refine .inl ⟨false, 0, (i : Int), .inr rfl, hgo, fun W hW => ?_⟩
                rw [← HAG.out]
                exact add_there p W hW.idx HPO.out hrp i hf
          rcases hadds with ⟨fr, er, num, hor, hnone, hcall⟩ | ⟨hsome, hrp, hfn, hcall⟩
          · have HGN := Lib.hid hnone
            have HCL := Lib.hid hcall
            clear hnone hcall
            obtain ⟨hfq, hTq, hrq⟩ := HLAT.out (wq.drewN nq).drew (below_drewN (Below.refl _ _) (nq + 1))
            have fx := HFXA.out _ hfq
            have HCQ := Lib.hid (HCL.out _ hTq)
            have HFQ := Lib.hid hfq
            have HTQ := Lib.hid hTq
            have hS0 : (wq.drewN nq).drew.cell? ⟨tb, 0, none⟩ = some (.pointer (some ⟨gt, 0, none⟩)) ∧ (wq.drewN nq).drew.cell? ⟨gt, 0, none⟩ = some (.pointer (some ⟨gi, 0, none⟩)) ∧ (wq.drewN nq).drew.rangeAt gq 0 cs := ⟨fx.t, fx.g0, hrq⟩
            clear hfq hTq hrq fx
            go_wp2_with fail
            refine wp_region_held_drew (S := fun w' => w'.cell? ⟨tb, 0, none⟩ = some (.pointer (some ⟨gt, 0, none⟩)) ∧ w'.cell? ⟨gt, 0, none⟩ = some (.pointer (some ⟨gi, 0, none⟩)) ∧ w'.rangeAt gq 0 cs) (by kernel_rfl) hS0 (fun hHeld => ?_)
            refine wpAnyH_takeD (i := 0) (d := 83) (oi := _) (v := ?_) rfl rfl (by kernel_rfl) (by kernel_rfl) (by kernel_rfl) (fun _ _ _ h => h) (Or.inl ⟨by rfl, ?_⟩) (by assumption) ?_
            rotate_left
            · (intro w hSw; (try dsimp only at hSw); go_simp) <;> with_reducible rfl
            simp only [Act.put, List.setIfInBounds_toArray, List.set_cons_zero, List.set_cons_succ]
            refine wpAnyH_takeD (i := 1) (d := 84) (oi := _) (v := ?_) rfl rfl (by kernel_rfl) (by kernel_rfl) (by kernel_rfl) (fun _ _ _ h => h) (Or.inl ⟨by rfl, ?_⟩) (by assumption) ?_
            rotate_left
            · (intro w hSw; (try dsimp only at hSw); go_simp) <;> with_reducible rfl
            simp only [Act.put, List.setIfInBounds_toArray, List.set_cons_zero, List.set_cons_succ]
            refine wpAnyH_takeD (i := 2) (d := 85) (oi := _) (v := ?_) rfl rfl (by kernel_rfl) (by kernel_rfl) (by kernel_rfl) (fun _ _ _ h => h) (Or.inl ⟨by rfl, ?_⟩) (by assumption) ?_
            rotate_left
            · (intro w hSw; (try dsimp only at hSw); go_simp) <;> with_reducible rfl
            simp only [Act.put, List.setIfInBounds_toArray, List.set_cons_zero, List.set_cons_succ]
            refine wpAnyH_takeD (i := 3) (d := 86) (oi := _) (v := ?_) rfl rfl (by kernel_rfl) (by kernel_rfl) (by kernel_rfl) (fun _ _ _ h => h) (Or.inl ⟨by rfl, ?_⟩) (by assumption) ?_
            rotate_left
            · (intro w hSw; (try dsimp only at hSw); go_simp) <;> with_reducible rfl
            simp only [Act.put, List.setIfInBounds_toArray, List.set_cons_zero, List.set_cons_succ]
            refine wpAnyH_takeD (i := 4) (d := 87) (oi := _) (v := .agg cs.toArray) rfl rfl (by kernel_rfl) (by kernel_rfl) (by kernel_rfl) (fun _ _ _ h => h) (yieldsIf_load_mid (by rfl) 52 (.tmp 12) rfl gq 0 rfl cs _ (fun w hw => hw.2.2) Try.underlying52 rfl HS52.out) (by assumption) ?_
            simp only [Act.put, List.setIfInBounds_toArray, List.set_cons_zero, List.set_cons_succ]
            refine wpAnyH_ready (rs := [5]) (by kernel_rfl) (by simp) ?_
            refine AllReadyH.cons (o := _) rfl (fun K hK => ?_) AllReadyH.nil
            go_simp
            refine (HCQ.out).mono ?_
            rintro e w5 ⟨rfl, hb5⟩
            have HB5 := Lib.hid (show Below wq.heap.size wq w5 from (below_drewN (Below.refl wq.heap.size wq) (nq + 1)).trans hb5)
            obtain ⟨hf5, hT5, hr5⟩ := HLAT.out w5 HB5.out
            have HF5 := Lib.hid hf5
            have HT5 := Lib.hid hT5
            have fx5 := HFXA.out w5 hf5
            have hS5 : w5.cell? ⟨tb, 0, none⟩ = some (.pointer (some ⟨gt, 0, none⟩)) ∧ w5.cell? ⟨gt, 0, none⟩ = some (.pointer (some ⟨gi, 0, none⟩)) ∧ w5.rangeAt gq 0 cs := ⟨fx5.t, fx5.g0, hr5⟩
            clear hb5 hf5 hT5 hr5 fx5
            go_wp2_with fail
            refine hK.out _ _ hS5 (fun hHeld => ?_)
            clear hK K
            try simp only [Act.put, List.setIfInBounds_toArray, List.set_cons_zero, List.set_cons_succ]
            refine wpAnyH_takeD (i := 6) (d := 82) (oi := _) (v := ?_) rfl rfl (by kernel_rfl) (by kernel_rfl) (by kernel_rfl) (fun _ _ _ h => h) (Or.inl ⟨by rfl, ?_⟩) (by assumption) ?_
            rotate_left
            · (intro w hSw; (try dsimp only at hSw); go_simp) <;> with_reducible rfl
            simp only [Act.put, List.setIfInBounds_toArray, List.set_cons_zero, List.set_cons_succ]
            refine wpAnyH_takeD (i := 7) (d := 89) (oi := _) (v := ?_) rfl rfl (by kernel_rfl) (by kernel_rfl) (by kernel_rfl) (fun _ _ _ h => h) (Or.inl ⟨by rfl, ?_⟩) (by assumption) ?_
            rotate_left
            · (intro w hSw; (try dsimp only at hSw); go_simp) <;> with_reducible rfl
            simp only [Act.put, List.setIfInBounds_toArray, List.set_cons_zero, List.set_cons_succ]
            refine wpAnyH_takeD (i := 8) (d := 90) (oi := _) (v := ?_) rfl rfl (by kernel_rfl) (by kernel_rfl) (by kernel_rfl) (fun _ _ _ h => h) (Or.inl ⟨by rfl, ?_⟩) (by assumption) ?_
            rotate_left
            · (intro w hSw; (try dsimp only at hSw); go_simp) <;> with_reducible rfl
            simp only [Act.put, List.setIfInBounds_toArray, List.set_cons_zero, List.set_cons_succ]
            refine wpAnyH_takeD (i := 9) (d := 91) (oi := _) (v := ?_) rfl rfl (by kernel_rfl) (by kernel_rfl) (by kernel_rfl) (fun _ _ _ h => h) (Or.inl ⟨by rfl, ?_⟩) (by assumption) ?_
            rotate_left
            · (intro w hSw; (try dsimp only at hSw); go_simp) <;> with_reducible rfl
            simp only [Act.put, List.setIfInBounds_toArray, List.set_cons_zero, List.set_cons_succ]
            refine wpAnyH_takeD (i := 10) (d := 13) (oi := _) (v := ?_) rfl rfl (by kernel_rfl) (by kernel_rfl) (by kernel_rfl) (fun _ _ _ h => h) (Or.inl ⟨by rfl, ?_⟩) (by assumption) ?_
            rotate_left
            · (intro w hSw; (try dsimp only at hSw); go_simp) <;> with_reducible rfl
            simp only [Act.put, List.setIfInBounds_toArray, List.set_cons_zero, List.set_cons_succ]
            refine wpAnyH_takeD (i := 11) (d := 14) (oi := _) (v := ?_) rfl rfl (by kernel_rfl) (by kernel_rfl) (by kernel_rfl) (fun _ _ _ h => h) (Or.inl ⟨by rfl, ?_⟩) (by assumption) ?_
            rotate_left
            · (intro w hSw; (try dsimp only at hSw); go_simp) <;> with_reducible rfl
            simp only [Act.put, List.setIfInBounds_toArray, List.set_cons_zero, List.set_cons_succ]
            refine wpAnyH_takeD (i := 12) (d := 15) (oi := _) (v := ?_) rfl rfl (by kernel_rfl) (by kernel_rfl) (by kernel_rfl) (fun _ _ _ h => h) (Or.inl ⟨by rfl, ?_⟩) (by assumption) ?_
            rotate_left
            · (intro w hSw; (try dsimp only at hSw); go_simp) <;> with_reducible rfl
            simp only [Act.put, List.setIfInBounds_toArray, List.set_cons_zero, List.set_cons_succ]
            refine wpAnyH_done (by kernel_rfl) ?_ _
            have her : (er != 0 || !fr) = true := by
              rcases hor with h | h
              · simp [h]
              · simp [h]
            by_cases h0 : er = 0
            · have hx1 : (er != 0) = false := by simp [h0]
              have hx2 : fr = false := hor.resolve_left (fun h => h h0)
              subst hx2
              clear her hor h0
              obtain ⟨hfq, hTq, _⟩ := HLAT.out w5 HB5.out
              have fx := HFXA.out _ hfq
              have hbd := bad35 (B := B) (gt := gt) (gi := gi) (mb := mb) (n := nk) (l := psk) (v := v') 2 tb wb ps0.length w5 fx.t fx.g0 fx.b ⟨fun h => (HNX.out gi (.inl rfl)).1 h.symm, fun h => (HNX.out mb (.inr (.inl rfl))).1 h.symm⟩ ⟨fun h => (HNX.out gi (.inl rfl)).2.2.2 h.symm, fun h => (HNX.out mb (.inr (.inl rfl))).2.2.2 h.symm⟩ ⟨fun h => (HNX.out gi (.inl rfl)).2.2.1 h.symm, fun h => (HNX.out mb (.inr (.inl rfl))).2.2.1 h.symm⟩ hTq.idx hTq.nd hl1 hTq.lm
              have HBD := Lib.hid hbd
              have HTQ := Lib.hid hTq
              have HFQ := Lib.hid hfq
              clear hbd hTq hfq fx
              go_wp2_with fail
              refine (HBD.out).mono ?_
              intro e w9 hbad
              have hre := hbad.ret
              subst hre
              have HBE := Lib.hid hbad
              clear hbad
              go_wp2
              go_ret
              exact bad_done HB3.out HFQ.out HTQ.out HTK.out (by omega) HBE.out (fun b hb => (HVO.out b hb).imp id fun h => Nat.le_trans hs3 h) (by rw [HAPP.out, HADD.out, HGN.out])
            · have hx1 : (er != 0) = true := by simp [h0]
              clear her hor h0
              obtain ⟨hfq, hTq, _⟩ := HLAT.out w5 HB5.out
              have fx := HFXA.out _ hfq
              have hbd := bad35 (B := B) (gt := gt) (gi := gi) (mb := mb) (n := nk) (l := psk) (v := v') 2 tb wb ps0.length w5 fx.t fx.g0 fx.b ⟨fun h => (HNX.out gi (.inl rfl)).1 h.symm, fun h => (HNX.out mb (.inr (.inl rfl))).1 h.symm⟩ ⟨fun h => (HNX.out gi (.inl rfl)).2.2.2 h.symm, fun h => (HNX.out mb (.inr (.inl rfl))).2.2.2 h.symm⟩ ⟨fun h => (HNX.out gi (.inl rfl)).2.2.1 h.symm, fun h => (HNX.out mb (.inr (.inl rfl))).2.2.1 h.symm⟩ hTq.idx hTq.nd hl1 hTq.lm
              have HBD := Lib.hid hbd
              have HTQ := Lib.hid hTq
              have HFQ := Lib.hid hfq
              clear hbd hTq hfq fx
              go_wp2_with fail
              refine (HBD.out).mono ?_
              intro e w9 hbad
              have hre := hbad.ret
              subst hre
              have HBE := Lib.hid hbad
              clear hbad
              go_wp2
              go_ret
              exact bad_done HB3.out HFQ.out HTQ.out HTK.out (by omega) HBE.out (fun b hb => (HVO.out b hb).imp id fun h => Nat.le_trans hs3 h) (by rw [HAPP.out, HADD.out, HGN.out])
          · have HGS := Lib.hid hsome
            have HRP := Lib.hid hrp
            have HFN := Lib.hid hfn
            have HCL := Lib.hid hcall
            clear hsome hcall hrp hfn
            obtain ⟨hfq, hTq, hrq⟩ := HLAT.out (wq.drewN nq).drew (below_drewN (Below.refl _ _) (nq + 1))
            have fx := HFXA.out _ hfq
            have HCQ := Lib.hid (HCL.out _ hTq)
            have HFQ := Lib.hid hfq
            have HTQ := Lib.hid hTq
            have hS0 : (wq.drewN nq).drew.cell? ⟨tb, 0, none⟩ = some (.pointer (some ⟨gt, 0, none⟩)) ∧ (wq.drewN nq).drew.cell? ⟨gt, 0, none⟩ = some (.pointer (some ⟨gi, 0, none⟩)) ∧ (wq.drewN nq).drew.rangeAt gq 0 cs := ⟨fx.t, fx.g0, hrq⟩
            clear hfq hTq hrq fx
            go_wp2_with fail
            refine wp_region_held_drew (S := fun w' => w'.cell? ⟨tb, 0, none⟩ = some (.pointer (some ⟨gt, 0, none⟩)) ∧ w'.cell? ⟨gt, 0, none⟩ = some (.pointer (some ⟨gi, 0, none⟩)) ∧ w'.rangeAt gq 0 cs) (by kernel_rfl) hS0 (fun hHeld => ?_)
            refine wpAnyH_takeD (i := 0) (d := 83) (oi := _) (v := ?_) rfl rfl (by kernel_rfl) (by kernel_rfl) (by kernel_rfl) (fun _ _ _ h => h) (Or.inl ⟨by rfl, ?_⟩) (by assumption) ?_
            rotate_left
            · (intro w hSw; (try dsimp only at hSw); go_simp) <;> with_reducible rfl
            simp only [Act.put, List.setIfInBounds_toArray, List.set_cons_zero, List.set_cons_succ]
            refine wpAnyH_takeD (i := 1) (d := 84) (oi := _) (v := ?_) rfl rfl (by kernel_rfl) (by kernel_rfl) (by kernel_rfl) (fun _ _ _ h => h) (Or.inl ⟨by rfl, ?_⟩) (by assumption) ?_
            rotate_left
            · (intro w hSw; (try dsimp only at hSw); go_simp) <;> with_reducible rfl
            simp only [Act.put, List.setIfInBounds_toArray, List.set_cons_zero, List.set_cons_succ]
            refine wpAnyH_takeD (i := 2) (d := 85) (oi := _) (v := ?_) rfl rfl (by kernel_rfl) (by kernel_rfl) (by kernel_rfl) (fun _ _ _ h => h) (Or.inl ⟨by rfl, ?_⟩) (by assumption) ?_
            rotate_left
            · (intro w hSw; (try dsimp only at hSw); go_simp) <;> with_reducible rfl
            simp only [Act.put, List.setIfInBounds_toArray, List.set_cons_zero, List.set_cons_succ]
            refine wpAnyH_takeD (i := 3) (d := 86) (oi := _) (v := ?_) rfl rfl (by kernel_rfl) (by kernel_rfl) (by kernel_rfl) (fun _ _ _ h => h) (Or.inl ⟨by rfl, ?_⟩) (by assumption) ?_
            rotate_left
            · (intro w hSw; (try dsimp only at hSw); go_simp) <;> with_reducible rfl
            simp only [Act.put, List.setIfInBounds_toArray, List.set_cons_zero, List.set_cons_succ]
            refine wpAnyH_takeD (i := 4) (d := 87) (oi := _) (v := .agg cs.toArray) rfl rfl (by kernel_rfl) (by kernel_rfl) (by kernel_rfl) (fun _ _ _ h => h) (yieldsIf_load_mid (by rfl) 52 (.tmp 12) rfl gq 0 rfl cs _ (fun w hw => hw.2.2) Try.underlying52 rfl HS52.out) (by assumption) ?_
            simp only [Act.put, List.setIfInBounds_toArray, List.set_cons_zero, List.set_cons_succ]
            refine wpAnyH_ready (rs := [5]) (by kernel_rfl) (by simp) ?_
            refine AllReadyH.cons (o := _) rfl (fun K hK => ?_) AllReadyH.nil
            go_simp
            refine (HCQ.out).mono ?_
            rintro e w5 ⟨rfl, ⟨v5, hi5, hv5⟩, hfr5⟩
            have hT5 := HTQ.out.turn (ps' := psk ++ [p]) hfr5 (fun _ h => h) hi5 (fun q hq => by
              rcases List.mem_append.1 hq with hq | hq
              · exact HTQ.out.rt q hq
              · simp at hq
                subst hq
                exact HRP.out) (nodup_snoc psk p HTQ.out.nd HFN.out) (by rw [List.length_append]; show psk.length + 1 ≤ 8192; omega)
            have hf5 : Frm (Sx gi mb v) w3 w5 := HFQ.out.trans hfr5 (fun b hb h => by
              rcases h with h | h | h
              · exact .inl h
              · exact .inr (.inl h)
              · rcases HVO.out b h with h | h
                · exact .inr (.inr h)
                · omega)
            have fx5 := HFXA.out w5 hf5
            have hr5 : w5.rangeAt gq 0 cs := fun j y hy => by
              obtain ⟨_, hTz, hrz⟩ := HLAT.out (wq.drewN nq).drew (below_drewN (Below.refl _ _) (nq + 1))
              refine (hfr5.cell (p := ⟨gq, 0 + j, none⟩) hgq (fun h => ?_)).trans (hrz j y hy)
              exact HGQ.out _ h rfl
            have hv5' : ∀ b, v5.ownBlock = some b → v.ownBlock = some b ∨ w3.heap.size ≤ b := fun b hb => by
              rcases hv5 with h | h
              · exact HVO.out b (h ▸ hb)
              · have h1 := h b hb
                have h2 := HFQ.out.size
                exact .inr (Nat.le_trans h2 h1)
            have HF5 := Lib.hid hf5
            have HT5 := Lib.hid hT5
            have HV5 := Lib.hid hv5'
            have hS5 : w5.cell? ⟨tb, 0, none⟩ = some (.pointer (some ⟨gt, 0, none⟩)) ∧ w5.cell? ⟨gt, 0, none⟩ = some (.pointer (some ⟨gi, 0, none⟩)) ∧ w5.rangeAt gq 0 cs := ⟨fx5.t, fx5.g0, hr5⟩
            clear hi5 hv5 hfr5 hT5 hf5 fx5 hr5 hv5'
            go_wp2_with fail
            refine hK.out _ _ hS5 (fun hHeld => ?_)
            clear hK K
            try simp only [Act.put, List.setIfInBounds_toArray, List.set_cons_zero, List.set_cons_succ]
            refine wpAnyH_takeD (i := 6) (d := 82) (oi := _) (v := ?_) rfl rfl (by kernel_rfl) (by kernel_rfl) (by kernel_rfl) (fun _ _ _ h => h) (Or.inl ⟨by rfl, ?_⟩) (by assumption) ?_
            rotate_left
            · (intro w hSw; (try dsimp only at hSw); go_simp) <;> with_reducible rfl
            simp only [Act.put, List.setIfInBounds_toArray, List.set_cons_zero, List.set_cons_succ]
            refine wpAnyH_takeD (i := 7) (d := 89) (oi := _) (v := ?_) rfl rfl (by kernel_rfl) (by kernel_rfl) (by kernel_rfl) (fun _ _ _ h => h) (Or.inl ⟨by rfl, ?_⟩) (by assumption) ?_
            rotate_left
            · (intro w hSw; (try dsimp only at hSw); go_simp) <;> with_reducible rfl
            simp only [Act.put, List.setIfInBounds_toArray, List.set_cons_zero, List.set_cons_succ]
            refine wpAnyH_takeD (i := 8) (d := 90) (oi := _) (v := ?_) rfl rfl (by kernel_rfl) (by kernel_rfl) (by kernel_rfl) (fun _ _ _ h => h) (Or.inl ⟨by rfl, ?_⟩) (by assumption) ?_
            rotate_left
            · (intro w hSw; (try dsimp only at hSw); go_simp) <;> with_reducible rfl
            simp only [Act.put, List.setIfInBounds_toArray, List.set_cons_zero, List.set_cons_succ]
            refine wpAnyH_takeD (i := 9) (d := 91) (oi := _) (v := ?_) rfl rfl (by kernel_rfl) (by kernel_rfl) (by kernel_rfl) (fun _ _ _ h => h) (Or.inl ⟨by rfl, ?_⟩) (by assumption) ?_
            rotate_left
            · (intro w hSw; (try dsimp only at hSw); go_simp) <;> with_reducible rfl
            simp only [Act.put, List.setIfInBounds_toArray, List.set_cons_zero, List.set_cons_succ]
            refine wpAnyH_takeD (i := 10) (d := 13) (oi := _) (v := ?_) rfl rfl (by kernel_rfl) (by kernel_rfl) (by kernel_rfl) (fun _ _ _ h => h) (Or.inl ⟨by rfl, ?_⟩) (by assumption) ?_
            rotate_left
            · (intro w hSw; (try dsimp only at hSw); go_simp) <;> with_reducible rfl
            simp only [Act.put, List.setIfInBounds_toArray, List.set_cons_zero, List.set_cons_succ]
            refine wpAnyH_takeD (i := 11) (d := 14) (oi := _) (v := ?_) rfl rfl (by kernel_rfl) (by kernel_rfl) (by kernel_rfl) (fun _ _ _ h => h) (Or.inl ⟨by rfl, ?_⟩) (by assumption) ?_
            rotate_left
            · (intro w hSw; (try dsimp only at hSw); go_simp) <;> with_reducible rfl
            simp only [Act.put, List.setIfInBounds_toArray, List.set_cons_zero, List.set_cons_succ]
            refine wpAnyH_takeD (i := 12) (d := 15) (oi := _) (v := ?_) rfl rfl (by kernel_rfl) (by kernel_rfl) (by kernel_rfl) (fun _ _ _ h => h) (Or.inl ⟨by rfl, ?_⟩) (by assumption) ?_
            rotate_left
            · (intro w hSw; (try dsimp only at hSw); go_simp) <;> with_reducible rfl
            simp only [Act.put, List.setIfInBounds_toArray, List.set_cons_zero, List.set_cons_succ]
            refine wpAnyH_done (by kernel_rfl) ?_ _
            go_wp2
            go_roundw
            case rel => exact ⟨k + 1, by omega, by go_num, ⟨⟨psk ++ [p], nk + 1, v5, HT5.out, by rw [List.take_append_of_le_length hl1]; exact HTK.out, by rw [List.length_append]; omega, by rw [List.length_append]; show psk.length + 1 ≤ _; omega, by omega, by rw [HADD.out, HGS.out], HV5.out⟩, HF5.out⟩⟩
            case measure => simp [intOf]; omega
    · obtain rfl : k = np := by omega
      clear hlt
      have hfin : addAll bl (bl + blocks) ps0 pcs = some psk := by
        rw [HADD.out, List.drop_of_length_le (by rw [HNP.out]; omega)]
        rfl
      have happ2 : R = if 0 < roll ∧ (vs.length : Int) < roll then (17, ⟨bl, ps0, vs⟩) else if formB psk roll (fs.map Fl.dat) = false then (13, ⟨bl, ps0, vs⟩) else (0, ⟨bl + blocks, psk, vs ++ [if 0 < roll then vs.getD (roll.toNat - 1) [] else fs.map Fl.dat]⟩) := by
        rw [HAPP.out, hfin]
      have hnm : nk ≤ nst + k := by omega
      have hsub : ∀ W, Below wr.heap.size wr W → FxA tb eb wb gt gi roll bl ps0.length (.slice Af nf cf) (.slice VA vs.length Vc) W ∧ Tb B W gt gi mb nk ⟨bl, psk, vs⟩ v' (.slice VA vs.length Vc) xs ∧ Frm (Sx gi mb v) w3 W ∧ RdF W Af fs := fun W hW => by
        have h1 := HFR.out.below hW
        exact ⟨HFXA.out W h1, HT.out.below hW, h1, (HPX.out W ((Frm.of_below HB3.out).trans h1 (fun _ _ h => h))).2⟩
      have hbc : ∀ (x : Int) W, Below wr.heap.size wr W → Calls Try.prog 35 #[.int .i64 x, .pointer (some ⟨tb, 0, none⟩), .pointer (some ⟨wb, 0, none⟩)] W (Bad B gi mb nk (psk.take ps0.length) v' x W) := fun x W hW => by
        obtain ⟨fx, hTq, _, _⟩ := hsub W hW
        exact bad35 (B := B) (gt := gt) (gi := gi) (mb := mb) (n := nk) (l := psk) (v := v') x tb wb ps0.length W fx.t fx.g0 fx.b ⟨fun h => (HNX.out gi (.inl rfl)).1 h.symm, fun h => (HNX.out mb (.inr (.inl rfl))).1 h.symm⟩ ⟨fun h => (HNX.out gi (.inl rfl)).2.2.2 h.symm, fun h => (HNX.out mb (.inr (.inl rfl))).2.2.2 h.symm⟩ ⟨fun h => (HNX.out gi (.inl rfl)).2.2.1 h.symm, fun h => (HNX.out mb (.inr (.inl rfl))).2.2.1 h.symm⟩ hTq.idx hTq.nd hl1 hTq.lm
      have hbe : ∀ (x : Int) W e W', Below wr.heap.size wr W → Bad B gi mb nk (psk.take ps0.length) v' x W e W' → R = (x, ⟨bl, ps0, vs⟩) → ApE B gt gi mb (nst + k) R v (.slice VA vs.length Vc) w e W' := fun x W e W' hW hb hr => by
        obtain ⟨_, hTq, hfq, _⟩ := hsub W hW
        exact bad_done HB3.out hfq hTq HTK.out hnm hb (fun b hb => (HVO.out b hb).imp id fun h => Nat.le_trans hs3 h) hr
      have hn38 : ∀ W, Below wr.heap.size wr W → Calls Try.prog 38 #[.slice Af nf cf] W (Quiet (.bool (namedB (fs.map Fl.nm))) W) := fun W hW => named_any fs Af nf cf W HNF.out (hsub W hW).2.2.2.row hnf2 HNM.out
      have hn39 : ∀ W, Below wr.heap.size wr W → Calls Try.prog 39 #[.slice Af nf cf, .func (.func 40) #[.pointer (some ⟨gt, 0, none⟩)] #[]] W (Quiet (.bool (fs.any fun f => wrongB psk f.fr)) W) := fun W hW => by
        obtain ⟨_, hTq, _, hrd⟩ := hsub W hW
        exact has39 fs Af nf cf W hTq.blk hTq.idx hTq.lm hTq.rt HNF.out hrd hnf2
      have f0 := (hsub wr (Below.refl _ _)).1
      have q1 := f0.t
      have q2 := f0.e0
      have q3 := f0.e1
      have q4 := f0.g0
      have q5 := f0.g1
      have q6 := f0.g2
      have HNTB := Lib.hid (show ¬ tb = gt from fun e => by have := HTB.out; omega)
      have HVT := Lib.hid (show ∀ b, (Value.slice VA vs.length Vc).ownBlock = some b → ¬ b = tb from fun b hb e => by
        have h1 := (own_lt H0.out.row b hb).2
        have h2 := HTB.out
        omega)
      have HVW := Lib.hid (show ∀ b, v'.ownBlock = some b → v.ownBlock = some b ∨ w.heap.size ≤ b from fun b hb => (HVO.out b hb).imp id fun h => Nat.le_trans hs3 h)
      have HAP2 := Lib.hid happ2
      have HSUB := Lib.hid hsub
      have HBC := Lib.hid hbc
      have HBE := Lib.hid hbe
      have H38 := Lib.hid hn38
      have H39 := Lib.hid hn39
      have HW0 := Lib.hid (Below.refl wr.heap.size wr)
      have HNFZ := Lib.hid (show (fs.map Fl.dat).length = nf by rw [List.length_map]; exact HNF.out)
      clear hfin happ2 hsub hbc hbe hn38 hn39 f0
      rcases Int.lt_or_le roll 0 with hr | hr
      · have d0 : decide (0 < roll) = false := decide_eq_false (by omega)
        have d1 : decide (roll < 0) = true := decide_eq_true hr
        go_wp2_with fail
        refine (HBC.out 13 _ HW0.out).mono ?_
        intro e w9 hbad
        have hre := hbad.ret
        subst hre
        have HB9 := Lib.hid (HBE.out 13 _ _ _ HW0.out hbad (by rw [HAP2.out]; rw [if_neg (by rintro ⟨h1, h2⟩; omega), if_pos (formB_neg hr)]))
        clear hbad
        go_wp2
        go_ret
        exact HB9.out
      · have d1 : decide (roll < 0) = false := decide_eq_false (by omega)
        rcases Int.lt_or_le 0 roll with hr2 | hr2
        · have d0 : decide (0 < roll) = true := decide_eq_true hr2
          by_cases hL : (vs.length : Int) < roll
          · have d2 : decide ((vs.length : Int) < roll) = true := decide_eq_true hL
            go_wp2_with fail
            go_quiet (fail)
            go_wp2_with fail
            refine (HBC.out 17 _ (below_drewN HW0.out _)).mono ?_
            intro e w9 hbad
            have hre := hbad.ret
            subst hre
            have HB9 := Lib.hid (HBE.out 17 _ _ _ (below_drewN HW0.out _) hbad (by rw [HAP2.out]; rw [if_pos ⟨hr2, hL⟩]))
            clear hbad
            go_wp2
            go_ret
            exact HB9.out
          · have d2 : decide ((vs.length : Int) < roll) = false := decide_eq_false hL
            obtain ⟨j, rfl⟩ : ∃ j : Nat, roll = (j : Int) + 1 := ⟨(roll - 1).toNat, by omega⟩
            have hjl : j < vs.length := by omega
            obtain ⟨dsj, hdj⟩ : ∃ d, vs[j]? = some d := ⟨_, List.getElem?_eq_getElem hjl⟩
            have hvj : ∃ A16 n16 c16, xs[j]? = some (.slice A16 n16 c16) ∧ ∀ W, Tb B W gt gi mb nk ⟨bl + blocks, psk, vs⟩ v' (.slice VA vs.length Vc) xs → ∃ fs16, RdF W A16 fs16 ∧ fs16.length = n16 ∧ fs16.map Fl.dat = dsj ∧ n16 ≤ 200 ∧ (∀ f ∈ fs16, f.fr.length ≤ 131072) ∧ (A16 = none → n16 = 0 ∧ c16 = 0) := by
              obtain ⟨A, n, c, _, k1, _⟩ := HT.out.vs.at_ j dsj hdj
              refine ⟨A, n, c, k1, fun W hW => ?_⟩
              obtain ⟨A', n', c', gs, k1', k2, k3, k4, k5, k6, k7⟩ := hW.vs.at_ j dsj hdj
              rw [k1] at k1'
              injection k1' with k1'
              injection k1' with e1 e2 e3
              subst e1 e2 e3
              have hrd := k4.rd k2
              exact ⟨gs, hrd, k2, k3, k5, fun f hf => by rw [(hrd.each f hf).len]; exact k6 f hf, k7⟩
            obtain ⟨A16, n16, c16, hxj, hvj2⟩ := hvj
            obtain ⟨b1, o1, rfl, hb1lt, hc1⟩ := (Rd.of_own HT.out.row).at hxj
            have HVJ := Lib.hid hvj2
            have HDJ := Lib.hid hdj
            clear hvj2 hdj hxj
            have s0 : IntKind.i64.wrap (j : Int) = (j : Int) := IntWalk.i64_in _ (by omega)
            have s1 : IntKind.i64.wrap ((j : Int) + 1 - 1) = (j : Int) := by rw [IntWalk.i64_in _ (by omega)]; omega
            have hj0 : (0 : Int) ≤ (j : Int) := by omega
            have hjn : (j : Int) < (vs.length : Int) := by omega
            rcases Nat.eq_zero_or_pos nf with h0 | h0
            · have d3 : decide (0 < (nf : Int)) = false := decide_eq_false (by omega)
              have d3' : decide (0 < nf) = false := decide_eq_false (by omega)
              have d4 : decide ((200 : Int) < (nf : Int)) = false := decide_eq_false (by omega)
              have hfs : fs = [] := List.eq_nil_of_length_eq_zero (by rw [HNF.out, h0])
              have HFS := Lib.hid hfs
              have HN0 := Lib.hid h0
              clear hfs h0
              go_wp2_with fail
              go_quiet (fail)
              go_wp2_with fail
              go_quiet (fail)
              have hnmd : namedB (fs.map Fl.nm) = true := by rw [HFS.out]; rfl
              have hany : (fs.any fun f => wrongB psk f.fr) = false := by rw [HFS.out]; rfl
              have HNMD := Lib.hid hnmd
              have HANY := Lib.hid hany
              rw [hnmd] at H38
              rw [hany] at H39
              clear hnmd hany s0 s1 hc1 hb1lt
              go_wp2_with fail
              refine (H38.out _ (below_drewN HW0.out _)).mono ?_
              rintro e w5 ⟨rfl, hb5⟩
              have HB5 := Lib.hid (show Below wr.heap.size wr w5 from (below_drewN HW0.out _).trans (hb5.mono (Nat.le_refl _)))
              obtain ⟨fx5, _, _, _⟩ := HSUB.out w5 HB5.out
              have r1 := fx5.t
              have r2 := fx5.e0
              have r3 := fx5.e1
              clear hb5 fx5
              go_wp2_with fail
              refine (H39.out w5 HB5.out).mono ?_
              rintro e w6 ⟨rfl, hb6⟩
              have HB6 := Lib.hid (HB5.out.trans (hb6.mono HB5.out.size))
              clear hb6
              obtain ⟨fx6, hT6, hf6, hrd6⟩ := HSUB.out w6 HB6.out
              have q1 := fx6.t
              have q5 := fx6.g1
              have hz5 := hT6.blk.frozen 1
              have hT7 := hT6.blocks (bl + blocks) (by omega) (by omega)
              have hf7 : Frm (Sg gt gi mb v) w (w6.setCell ⟨gt, 1, none⟩ (.int .i64 (bl + blocks))) := (((Frm.of_below HB3.out).trans hf6 (fun _ _ h => h)).mono (T := Sg gt gi mb v) (fun _ _ h => Or.inr h)).setCell (p := ⟨gt, 1, none⟩) (fun _ => .inl rfl) _
              have ht7 : (w6.setCell ⟨gt, 1, none⟩ (.int .i64 (bl + blocks))).cell? ⟨tb, 0, none⟩ = some (.pointer (some ⟨gt, 0, none⟩)) := (((Frm.refl (fun k => k = gt) w6).setCell (p := ⟨gt, 1, none⟩) (fun _ => rfl) _).cell (p := ⟨tb, 0, none⟩) (block_lt_of_cell fx6.t) (fun h => HNTB.out h)).trans fx6.t
              have HT7 := Lib.hid hT7
              have HF7 := Lib.hid hf7
              clear fx6 hT6 hf6 hrd6 hT7 hf7
              go_wp2_with fail
              generalize w6.setCell ⟨gt, 1, none⟩ (.int .i64 (bl + blocks)) = w7 at HT7 HF7 ht7 ⊢
              obtain ⟨fs16, hrd16, hl16, hd16, hnX, hs16, hnil16⟩ := HVJ.out w7.drew (HT7.out.below ((Below.refl w7.heap.size w7).drew))
              have HSX := Lib.hid hs16
              have HD16 := Lib.hid hd16
              have HCP := Lib.hid (copied_any fs16 A16 n16 c16 w7.drew hl16 hrd16 hnil16 (by omega) (fun f hf => by
                have h1 := hs16 f hf
                have h2 := (hrd16.each f hf).len
                omega))
              clear hrd16 hl16 hd16 hs16 hnil16
              have hT7d := HT7.out.below ((Below.refl w7.heap.size w7).drew)
              have hk8 : ∀ W, Below w7.drew.heap.size w7.drew W → W.cell? ⟨tb, 0, none⟩ = some (.pointer (some ⟨gt, 0, none⟩)) ∧ W.cell? ⟨gt, 2, none⟩ = some (.slice (some ⟨b1, o1, none⟩) vs.length Vc) ∧ W.ownsRow B 27 1 (.slice (some ⟨b1, o1, none⟩) vs.length Vc) vs.length xs ∧ B ≤ W.heap.size := fun W hW => by
                have h1 := hT7d.below hW
                refine ⟨(hW.cell (p := ⟨tb, 0, none⟩) (block_lt_of_cell ht7)).trans ht7, h1.blk.cell 2, h1.row, ?_⟩
                have h2 := h1.ge
                have h3 := h1.lt
                omega
              have HK8 := Lib.hid hk8
              have HT7D := Lib.hid hT7d
              have p2 := (hk8 w7.drew (Below.refl _ _)).2.1
              have HF7D := Lib.hid HF7.out.drew
              clear hk8 hT7d
              refine wp_region_held_drew (S := fun w' => w'.cell? ⟨tb, 0, none⟩ = some (.pointer (some ⟨gt, 0, none⟩))) (by kernel_rfl) ht7 (fun hHeld => ?_)
              refine wpAnyH_takeD (i := 0) (d := 168) (oi := _) (v := ?_) rfl rfl (by kernel_rfl) (by kernel_rfl) (by kernel_rfl) (fun _ _ _ h => h) (Or.inl ⟨by rfl, ?_⟩) (by assumption) ?_
              rotate_left
              · (intro w hSw; (try dsimp only at hSw); go_simp) <;> with_reducible rfl
              simp only [Act.put, List.setIfInBounds_toArray, List.set_cons_zero, List.set_cons_succ]
              refine wpAnyH_takeD (i := 1) (d := 169) (oi := _) (v := ?_) rfl rfl (by kernel_rfl) (by kernel_rfl) (by kernel_rfl) (fun _ _ _ h => h) (Or.inl ⟨by rfl, ?_⟩) (by assumption) ?_
              rotate_left
              · (intro w hSw; (try dsimp only at hSw); go_simp) <;> with_reducible rfl
              simp only [Act.put, List.setIfInBounds_toArray, List.set_cons_zero, List.set_cons_succ]
              refine wpAnyH_takeD (i := 2) (d := 170) (oi := _) (v := ?_) rfl rfl (by kernel_rfl) (by kernel_rfl) (by kernel_rfl) (fun _ _ _ h => h) (Or.inl ⟨by rfl, ?_⟩) (by assumption) ?_
              rotate_left
              · (intro w hSw; (try dsimp only at hSw); go_simp) <;> with_reducible rfl
              simp only [Act.put, List.setIfInBounds_toArray, List.set_cons_zero, List.set_cons_succ]
              refine wpAnyH_takeD (i := 3) (d := 171) (oi := _) (v := ?_) rfl rfl (by kernel_rfl) (by kernel_rfl) (by kernel_rfl) (fun _ _ _ h => h) (Or.inl ⟨by rfl, ?_⟩) (by assumption) ?_
              rotate_left
              · (intro w hSw; (try dsimp only at hSw); go_simp) <;> with_reducible rfl
              simp only [Act.put, List.setIfInBounds_toArray, List.set_cons_zero, List.set_cons_succ]
              refine wpAnyH_takeD (i := 5) (d := 173) (oi := _) (v := ?_) rfl rfl (by kernel_rfl) (by kernel_rfl) (by kernel_rfl) (fun _ _ _ h => h) (Or.inl ⟨by rfl, ?_⟩) (by assumption) ?_
              rotate_left
              · (intro w hSw; (try dsimp only at hSw); go_simp) <;> with_reducible rfl
              simp only [Act.put, List.setIfInBounds_toArray, List.set_cons_zero, List.set_cons_succ]
              refine wpAnyH_ready (rs := [4, 6]) (by kernel_rfl) (by simp) ?_
              refine AllReadyH.cons (o := _) rfl (fun K hK => ?_) (AllReadyH.cons (o := _) rfl (fun K hK => ?_) AllReadyH.nil)
              · go_simp
                refine hK.out _ _ hHeld (fun hHeld => ?_)
                clear hK K
                try simp only [Act.put, List.setIfInBounds_toArray, List.set_cons_zero, List.set_cons_succ]
                refine wpAnyH_ready (rs := [6]) (by kernel_rfl) (by simp) ?_
                refine AllReadyH.cons (o := _) rfl (fun K hK => ?_) AllReadyH.nil
                go_simp
                refine (HCP.out).mono ?_
                rintro e w8 ⟨⟨A2, c2, fs2, rfl, hc2, hl2', hd2, ho2⟩, hb8⟩
                have HB8 := Lib.hid hb8
                have HL2 := Lib.hid hl2'
                have HD2 := Lib.hid hd2
                have HO2 := Lib.hid ho2
                obtain ⟨s8, p8, _, _⟩ := HK8.out w8 hb8
                have ha8 : Below w7.drew.heap.size w7.drew (w8.alloc (.cells #[.slice A2 n16 c2] 27)) := hb8.alloc hb8.size _
                obtain ⟨s8a, p8a, ho8, hz8⟩ := HK8.out _ ha8
                have HNB := Lib.hid (Blk.new w8 27 #[.slice A2 n16 c2])
                have HOA := Lib.hid (appOf_own tVs ho8)
                have HZ8 := Lib.hid hz8
                have HT8 := Lib.hid (HT7D.out.below ha8)
                clear hb8 hl2' hd2 ho2 ha8 ho8 hz8
                go_wp2_with fail
                refine hK.out _ _ s8 (fun hHeld => ?_)
                clear hK K
                try simp only [Act.put, List.setIfInBounds_toArray, List.set_cons_zero, List.set_cons_succ]
                refine wpAnyH_ready (rs := [7]) (by kernel_rfl) (by simp) ?_
                refine AllReadyH.cons (o := _) rfl (fun K hK => ?_) AllReadyH.nil
                go_simp
                refine hK.out _ _ s8a (fun hHeld => ?_)
                clear hK K
                try simp only [Act.put, List.setIfInBounds_toArray, List.set_cons_zero, List.set_cons_succ]
                refine wpAnyH_ready (rs := [8]) (by kernel_rfl) (by simp) ?_
                refine AllReadyH.cons (o := _) rfl (fun K hK => ?_) AllReadyH.nil
                refine step_appS tVs rfl (.tmp 172) (.tmp 175) rfl B (.slice (some ⟨b1, o1, none⟩) vs.length Vc) vs.length xs rfl HOA.out [.slice A2 n16 c2] rfl (by simp [Value.oneCell']) w8.heap.size rfl HNB.out (by omega) (by unfold maxLen; omega) HZ8.out ?_
                intro v4 w4 o4 hg4 hl4
                have hfr4 : Frm (fun k => (Value.slice (some ⟨b1, o1, none⟩) vs.length Vc).ownBlock = some k) (w8.alloc (.cells #[.slice A2 n16 c2] 27)) w4 := Frm.of_grown hg4 (fun k hk => hk)
                have hb4 : Blk w4 gt 46 #[.pointer (some ⟨gi, 0, none⟩), .int .i64 (bl + blocks), .slice (some ⟨b1, o1, none⟩) vs.length Vc] := HT8.out.blk.frm hfr4 (fun e => HT8.out.row_ne gt (.inl rfl) e)
                have s4 : w4.cell? ⟨tb, 0, none⟩ = some (.pointer (some ⟨gt, 0, none⟩)) := (hfr4.cell (p := ⟨tb, 0, none⟩) (block_lt_of_cell s8a) (fun e => HVT.out _ e rfl)).trans s8a
                have s5 : (w4.setCell ⟨gt, 2, none⟩ v4).cell? ⟨tb, 0, none⟩ = some (.pointer (some ⟨gt, 0, none⟩)) := (((Frm.refl (fun k => k = gt) w4).setCell (p := ⟨gt, 2, none⟩) (fun _ => rfl) v4).cell (p := ⟨tb, 0, none⟩) (block_lt_of_cell s4) (fun h => HNTB.out h)).trans s4
                have p4 := hb4.cell 2
                have z4 := hb4.frozen 2
                simp at p4
                have HOK2 := Lib.hid (ok_done (most := nst + k) (r := R) HF7D.out HVW.out HT7D.out (by omega) hnm HL2.out HD2.out hnX (sizes_of HD2.out HO2.out HSX.out) HB8.out HO2.out hg4 o4 hl4 (by rw [HAP2.out]; rw [if_neg (by rintro ⟨h1, h2⟩; omega), formB_ok (by omega) (.inr (by rw [HFS.out]; rfl)) (by rw [HFS.out]; exact Nat.zero_le _) HNMD.out HANY.out, if_neg (by decide), if_pos hr2, HD16.out, List.getD_eq_getElem?_getD, show ((j : Int) + 1).toNat - 1 = j by omega, HDJ.out]; rfl))
                clear hfr4 hb4 hg4 hl4
                obtain ⟨A4, c4', rfl, hc4'⟩ := own_slice o4
                clear o4
                try simp only [Act.put, List.setIfInBounds_toArray, List.set_cons_zero, List.set_cons_succ]
                refine hK.out _ _ s4 (fun hHeld => ?_)
                clear hK K
                try simp only [Act.put, List.setIfInBounds_toArray, List.set_cons_zero, List.set_cons_succ]
                refine wpAnyH_takeD (i := 9) (d := 177) (oi := _) (v := ?_) rfl rfl (by kernel_rfl) (by kernel_rfl) (by kernel_rfl) (fun _ _ _ h => h) (Or.inl ⟨by rfl, ?_⟩) (by assumption) ?_
                rotate_left
                · (intro w hSw; (try dsimp only at hSw); go_simp) <;> with_reducible rfl
                simp only [Act.put, List.setIfInBounds_toArray, List.set_cons_zero, List.set_cons_succ]
                refine wpAnyH_takeD (i := 10) (d := 178) (oi := _) (v := ?_) rfl rfl (by kernel_rfl) (by kernel_rfl) (by kernel_rfl) (fun _ _ _ h => h) (Or.inl ⟨by rfl, ?_⟩) (by assumption) ?_
                rotate_left
                · (intro w hSw; (try dsimp only at hSw); go_simp) <;> with_reducible rfl
                simp only [Act.put, List.setIfInBounds_toArray, List.set_cons_zero, List.set_cons_succ]
                refine wpAnyH_ready (rs := [11]) (by kernel_rfl) (by simp) ?_
                refine AllReadyH.cons (o := _) rfl (fun K hK => ?_) AllReadyH.nil
                go_simp
                refine hK.out _ _ s5 (fun hHeld => ?_)
                clear hK K
                try simp only [Act.put, List.setIfInBounds_toArray, List.set_cons_zero, List.set_cons_succ]
                refine wpAnyH_done (by kernel_rfl) ?_ _
                go_wp2
                go_ret
                exact HOK2.out
              · go_simp
                refine (HCP.out).mono ?_
                rintro e w8 ⟨⟨A2, c2, fs2, rfl, hc2, hl2', hd2, ho2⟩, hb8⟩
                have HB8 := Lib.hid hb8
                have HL2 := Lib.hid hl2'
                have HD2 := Lib.hid hd2
                have HO2 := Lib.hid ho2
                obtain ⟨s8, p8, _, _⟩ := HK8.out w8 hb8
                have ha8 : Below w7.drew.heap.size w7.drew (w8.alloc (.cells #[.slice A2 n16 c2] 27)) := hb8.alloc hb8.size _
                obtain ⟨s8a, p8a, ho8, hz8⟩ := HK8.out _ ha8
                have HNB := Lib.hid (Blk.new w8 27 #[.slice A2 n16 c2])
                have HOA := Lib.hid (appOf_own tVs ho8)
                have HZ8 := Lib.hid hz8
                have HT8 := Lib.hid (HT7D.out.below ha8)
                clear hb8 hl2' hd2 ho2 ha8 ho8 hz8
                go_wp2_with fail
                refine hK.out _ _ s8 (fun hHeld => ?_)
                clear hK K
                try simp only [Act.put, List.setIfInBounds_toArray, List.set_cons_zero, List.set_cons_succ]
                refine wpAnyH_ready (rs := [4, 7]) (by kernel_rfl) (by simp) ?_
                refine AllReadyH.cons (o := _) rfl (fun K hK => ?_) (AllReadyH.cons (o := _) rfl (fun K hK => ?_) AllReadyH.nil)
                · go_simp
                  refine hK.out _ _ s8 (fun hHeld => ?_)
                  clear hK K
                  try simp only [Act.put, List.setIfInBounds_toArray, List.set_cons_zero, List.set_cons_succ]
                  refine wpAnyH_ready (rs := [7]) (by kernel_rfl) (by simp) ?_
                  refine AllReadyH.cons (o := _) rfl (fun K hK => ?_) AllReadyH.nil
                  go_simp
                  refine hK.out _ _ s8a (fun hHeld => ?_)
                  clear hK K
                  try simp only [Act.put, List.setIfInBounds_toArray, List.set_cons_zero, List.set_cons_succ]
                  refine wpAnyH_ready (rs := [8]) (by kernel_rfl) (by simp) ?_
                  refine AllReadyH.cons (o := _) rfl (fun K hK => ?_) AllReadyH.nil
                  refine step_appS tVs rfl (.tmp 172) (.tmp 175) rfl B (.slice (some ⟨b1, o1, none⟩) vs.length Vc) vs.length xs rfl HOA.out [.slice A2 n16 c2] rfl (by simp [Value.oneCell']) w8.heap.size rfl HNB.out (by omega) (by unfold maxLen; omega) HZ8.out ?_
                  intro v4 w4 o4 hg4 hl4
                  have hfr4 : Frm (fun k => (Value.slice (some ⟨b1, o1, none⟩) vs.length Vc).ownBlock = some k) (w8.alloc (.cells #[.slice A2 n16 c2] 27)) w4 := Frm.of_grown hg4 (fun k hk => hk)
                  have hb4 : Blk w4 gt 46 #[.pointer (some ⟨gi, 0, none⟩), .int .i64 (bl + blocks), .slice (some ⟨b1, o1, none⟩) vs.length Vc] := HT8.out.blk.frm hfr4 (fun e => HT8.out.row_ne gt (.inl rfl) e)
                  have s4 : w4.cell? ⟨tb, 0, none⟩ = some (.pointer (some ⟨gt, 0, none⟩)) := (hfr4.cell (p := ⟨tb, 0, none⟩) (block_lt_of_cell s8a) (fun e => HVT.out _ e rfl)).trans s8a
                  have s5 : (w4.setCell ⟨gt, 2, none⟩ v4).cell? ⟨tb, 0, none⟩ = some (.pointer (some ⟨gt, 0, none⟩)) := (((Frm.refl (fun k => k = gt) w4).setCell (p := ⟨gt, 2, none⟩) (fun _ => rfl) v4).cell (p := ⟨tb, 0, none⟩) (block_lt_of_cell s4) (fun h => HNTB.out h)).trans s4
                  have p4 := hb4.cell 2
                  have z4 := hb4.frozen 2
                  simp at p4
                  have HOK2 := Lib.hid (ok_done (most := nst + k) (r := R) HF7D.out HVW.out HT7D.out (by omega) hnm HL2.out HD2.out hnX (sizes_of HD2.out HO2.out HSX.out) HB8.out HO2.out hg4 o4 hl4 (by rw [HAP2.out]; rw [if_neg (by rintro ⟨h1, h2⟩; omega), formB_ok (by omega) (.inr (by rw [HFS.out]; rfl)) (by rw [HFS.out]; exact Nat.zero_le _) HNMD.out HANY.out, if_neg (by decide), if_pos hr2, HD16.out, List.getD_eq_getElem?_getD, show ((j : Int) + 1).toNat - 1 = j by omega, HDJ.out]; rfl))
                  clear hfr4 hb4 hg4 hl4
                  obtain ⟨A4, c4', rfl, hc4'⟩ := own_slice o4
                  clear o4
                  try simp only [Act.put, List.setIfInBounds_toArray, List.set_cons_zero, List.set_cons_succ]
                  refine hK.out _ _ s4 (fun hHeld => ?_)
                  clear hK K
                  try simp only [Act.put, List.setIfInBounds_toArray, List.set_cons_zero, List.set_cons_succ]
                  refine wpAnyH_takeD (i := 9) (d := 177) (oi := _) (v := ?_) rfl rfl (by kernel_rfl) (by kernel_rfl) (by kernel_rfl) (fun _ _ _ h => h) (Or.inl ⟨by rfl, ?_⟩) (by assumption) ?_
                  rotate_left
                  · (intro w hSw; (try dsimp only at hSw); go_simp) <;> with_reducible rfl
                  simp only [Act.put, List.setIfInBounds_toArray, List.set_cons_zero, List.set_cons_succ]
                  refine wpAnyH_takeD (i := 10) (d := 178) (oi := _) (v := ?_) rfl rfl (by kernel_rfl) (by kernel_rfl) (by kernel_rfl) (fun _ _ _ h => h) (Or.inl ⟨by rfl, ?_⟩) (by assumption) ?_
                  rotate_left
                  · (intro w hSw; (try dsimp only at hSw); go_simp) <;> with_reducible rfl
                  simp only [Act.put, List.setIfInBounds_toArray, List.set_cons_zero, List.set_cons_succ]
                  refine wpAnyH_ready (rs := [11]) (by kernel_rfl) (by simp) ?_
                  refine AllReadyH.cons (o := _) rfl (fun K hK => ?_) AllReadyH.nil
                  go_simp
                  refine hK.out _ _ s5 (fun hHeld => ?_)
                  clear hK K
                  try simp only [Act.put, List.setIfInBounds_toArray, List.set_cons_zero, List.set_cons_succ]
                  refine wpAnyH_done (by kernel_rfl) ?_ _
                  go_wp2
                  go_ret
                  exact HOK2.out
                · go_simp
                  refine hK.out _ _ s8a (fun hHeld => ?_)
                  clear hK K
                  try simp only [Act.put, List.setIfInBounds_toArray, List.set_cons_zero, List.set_cons_succ]
                  refine wpAnyH_ready (rs := [4]) (by kernel_rfl) (by simp) ?_
                  refine AllReadyH.cons (o := _) rfl (fun K hK => ?_) AllReadyH.nil
                  go_simp
                  refine hK.out _ _ hHeld (fun hHeld => ?_)
                  clear hK K
                  try simp only [Act.put, List.setIfInBounds_toArray, List.set_cons_zero, List.set_cons_succ]
                  refine wpAnyH_ready (rs := [8]) (by kernel_rfl) (by simp) ?_
                  refine AllReadyH.cons (o := _) rfl (fun K hK => ?_) AllReadyH.nil
                  refine step_appS tVs rfl (.tmp 172) (.tmp 175) rfl B (.slice (some ⟨b1, o1, none⟩) vs.length Vc) vs.length xs rfl HOA.out [.slice A2 n16 c2] rfl (by simp [Value.oneCell']) w8.heap.size rfl HNB.out (by omega) (by unfold maxLen; omega) HZ8.out ?_
                  intro v4 w4 o4 hg4 hl4
                  have hfr4 : Frm (fun k => (Value.slice (some ⟨b1, o1, none⟩) vs.length Vc).ownBlock = some k) (w8.alloc (.cells #[.slice A2 n16 c2] 27)) w4 := Frm.of_grown hg4 (fun k hk => hk)
                  have hb4 : Blk w4 gt 46 #[.pointer (some ⟨gi, 0, none⟩), .int .i64 (bl + blocks), .slice (some ⟨b1, o1, none⟩) vs.length Vc] := HT8.out.blk.frm hfr4 (fun e => HT8.out.row_ne gt (.inl rfl) e)
                  have s4 : w4.cell? ⟨tb, 0, none⟩ = some (.pointer (some ⟨gt, 0, none⟩)) := (hfr4.cell (p := ⟨tb, 0, none⟩) (block_lt_of_cell s8a) (fun e => HVT.out _ e rfl)).trans s8a
                  have s5 : (w4.setCell ⟨gt, 2, none⟩ v4).cell? ⟨tb, 0, none⟩ = some (.pointer (some ⟨gt, 0, none⟩)) := (((Frm.refl (fun k => k = gt) w4).setCell (p := ⟨gt, 2, none⟩) (fun _ => rfl) v4).cell (p := ⟨tb, 0, none⟩) (block_lt_of_cell s4) (fun h => HNTB.out h)).trans s4
                  have p4 := hb4.cell 2
                  have z4 := hb4.frozen 2
                  simp at p4
                  have HOK2 := Lib.hid (ok_done (most := nst + k) (r := R) HF7D.out HVW.out HT7D.out (by omega) hnm HL2.out HD2.out hnX (sizes_of HD2.out HO2.out HSX.out) HB8.out HO2.out hg4 o4 hl4 (by rw [HAP2.out]; rw [if_neg (by rintro ⟨h1, h2⟩; omega), formB_ok (by omega) (.inr (by rw [HFS.out]; rfl)) (by rw [HFS.out]; exact Nat.zero_le _) HNMD.out HANY.out, if_neg (by decide), if_pos hr2, HD16.out, List.getD_eq_getElem?_getD, show ((j : Int) + 1).toNat - 1 = j by omega, HDJ.out]; rfl))
                  clear hfr4 hb4 hg4 hl4
                  obtain ⟨A4, c4', rfl, hc4'⟩ := own_slice o4
                  clear o4
                  try simp only [Act.put, List.setIfInBounds_toArray, List.set_cons_zero, List.set_cons_succ]
                  refine hK.out _ _ s4 (fun hHeld => ?_)
                  clear hK K
                  try simp only [Act.put, List.setIfInBounds_toArray, List.set_cons_zero, List.set_cons_succ]
                  refine wpAnyH_takeD (i := 9) (d := 177) (oi := _) (v := ?_) rfl rfl (by kernel_rfl) (by kernel_rfl) (by kernel_rfl) (fun _ _ _ h => h) (Or.inl ⟨by rfl, ?_⟩) (by assumption) ?_
                  rotate_left
                  · (intro w hSw; (try dsimp only at hSw); go_simp) <;> with_reducible rfl
                  simp only [Act.put, List.setIfInBounds_toArray, List.set_cons_zero, List.set_cons_succ]
                  refine wpAnyH_takeD (i := 10) (d := 178) (oi := _) (v := ?_) rfl rfl (by kernel_rfl) (by kernel_rfl) (by kernel_rfl) (fun _ _ _ h => h) (Or.inl ⟨by rfl, ?_⟩) (by assumption) ?_
                  rotate_left
                  · (intro w hSw; (try dsimp only at hSw); go_simp) <;> with_reducible rfl
                  simp only [Act.put, List.setIfInBounds_toArray, List.set_cons_zero, List.set_cons_succ]
                  refine wpAnyH_ready (rs := [11]) (by kernel_rfl) (by simp) ?_
                  refine AllReadyH.cons (o := _) rfl (fun K hK => ?_) AllReadyH.nil
                  go_simp
                  refine hK.out _ _ s5 (fun hHeld => ?_)
                  clear hK K
                  try simp only [Act.put, List.setIfInBounds_toArray, List.set_cons_zero, List.set_cons_succ]
                  refine wpAnyH_done (by kernel_rfl) ?_ _
                  go_wp2
                  go_ret
                  exact HOK2.out
            · have d3 : decide (0 < (nf : Int)) = true := decide_eq_true (by omega)
              have d3' : decide (0 < nf) = true := decide_eq_true h0
              go_wp2_with fail
              go_quiet (fail)
              go_wp2_with fail
              go_quiet (fail)
              go_wp2_with fail
              refine (HBC.out 13 _ (below_drewN HW0.out _)).mono ?_
              intro e w9 hbad
              have hre := hbad.ret
              subst hre
              have HB9 := Lib.hid (HBE.out 13 _ _ _ (below_drewN HW0.out _) hbad (by rw [HAP2.out]; rw [if_neg (by rintro ⟨h1, h2⟩; omega), if_pos (formB_both hr2 (by rw [HNFZ.out]; exact h0))]))
              clear hbad
              go_wp2
              go_ret
              exact HB9.out
        · have hr0 : roll = 0 := by omega
          subst hr0
          by_cases hn2 : nf ≤ 200
          · have d4 : decide ((200 : Int) < (nf : Int)) = false := decide_eq_false (by omega)
            cases hnmd : namedB (fs.map Fl.nm) with
            | false =>
              rw [hnmd] at H38
              have HNMD := Lib.hid hnmd
              clear hnmd
              go_wp2_with fail
              refine (H38.out _ HW0.out).mono ?_
              rintro e w5 ⟨rfl, hb5⟩
              have HB5 := Lib.hid (show Below wr.heap.size wr w5 from HW0.out.trans (hb5.mono (Nat.le_refl _)))
              obtain ⟨fx5, _, _, _⟩ := HSUB.out w5 HB5.out
              have r1 := fx5.t
              have r2 := fx5.e0
              have r3 := fx5.e1
              clear hb5 fx5
              go_wp2_with fail
              refine (HBC.out 13 _ HB5.out).mono ?_
              intro e w9 hbad
              have hre := hbad.ret
              subst hre
              have HB9 := Lib.hid (HBE.out 13 _ _ _ HB5.out hbad (by rw [HAP2.out]; rw [if_neg (by rintro ⟨h1, h2⟩; omega), if_pos (formB_name HNMD.out)]))
              clear hbad
              go_wp2
              go_ret
              exact HB9.out
            | true =>
              rw [hnmd] at H38
              have HNMD := Lib.hid hnmd
              clear hnmd
              cases hany : (fs.any fun f => wrongB psk f.fr) with
              | true =>
                rw [hany] at H39
                have HANY := Lib.hid hany
                clear hany
                go_wp2_with fail
                refine (H38.out _ HW0.out).mono ?_
                rintro e w5 ⟨rfl, hb5⟩
                have HB5 := Lib.hid (show Below wr.heap.size wr w5 from HW0.out.trans (hb5.mono (Nat.le_refl _)))
                obtain ⟨fx5, _, _, _⟩ := HSUB.out w5 HB5.out
                have r1 := fx5.t
                have r2 := fx5.e0
                have r3 := fx5.e1
                clear hb5 fx5
                go_wp2_with fail
                refine (H39.out w5 HB5.out).mono ?_
                rintro e w6 ⟨rfl, hb6⟩
                have HB6 := Lib.hid (HB5.out.trans (hb6.mono HB5.out.size))
                clear hb6
                go_wp2_with fail
                refine (HBC.out 13 _ HB6.out).mono ?_
                intro e w9 hbad
                have hre := hbad.ret
                subst hre
                have HB9 := Lib.hid (HBE.out 13 _ _ _ HB6.out hbad (by rw [HAP2.out]; rw [if_neg (by rintro ⟨h1, h2⟩; omega), if_pos (formB_wrong HANY.out)]))
                clear hbad
                go_wp2
                go_ret
                exact HB9.out
              | false =>
                rw [hany] at H39
                have HANY := Lib.hid hany
                have HSX := Lib.hid (show ∀ f ∈ fs, f.fr.length ≤ 131072 from fun f hf => by
                  have h1 := List.any_eq_false.1 hany f hf
                  have h2 := wrong_len HT.out.rt f.fr 0 (by omega) (by simpa [wrongB] using h1)
                  omega)
                clear hany
                have hnX := hn2
                go_wp2_with fail
                refine (H38.out _ HW0.out).mono ?_
                rintro e w5 ⟨rfl, hb5⟩
                have HB5 := Lib.hid (show Below wr.heap.size wr w5 from HW0.out.trans (hb5.mono (Nat.le_refl _)))
                obtain ⟨fx5, _, _, _⟩ := HSUB.out w5 HB5.out
                have r1 := fx5.t
                have r2 := fx5.e0
                have r3 := fx5.e1
                clear hb5 fx5
                go_wp2_with fail
                refine (H39.out w5 HB5.out).mono ?_
                rintro e w6 ⟨rfl, hb6⟩
                have HB6 := Lib.hid (HB5.out.trans (hb6.mono HB5.out.size))
                clear hb6
                obtain ⟨fx6, hT6, hf6, hrd6⟩ := HSUB.out w6 HB6.out
                have q1 := fx6.t
                have q5 := fx6.g1
                have hz5 := hT6.blk.frozen 1
                have hT7 := hT6.blocks (bl + blocks) (by omega) (by omega)
                have hf7 : Frm (Sg gt gi mb v) w (w6.setCell ⟨gt, 1, none⟩ (.int .i64 (bl + blocks))) := (((Frm.of_below HB3.out).trans hf6 (fun _ _ h => h)).mono (T := Sg gt gi mb v) (fun _ _ h => Or.inr h)).setCell (p := ⟨gt, 1, none⟩) (fun _ => .inl rfl) _
                have ht7 : (w6.setCell ⟨gt, 1, none⟩ (.int .i64 (bl + blocks))).cell? ⟨tb, 0, none⟩ = some (.pointer (some ⟨gt, 0, none⟩)) := (((Frm.refl (fun k => k = gt) w6).setCell (p := ⟨gt, 1, none⟩) (fun _ => rfl) _).cell (p := ⟨tb, 0, none⟩) (block_lt_of_cell fx6.t) (fun h => HNTB.out h)).trans fx6.t
                have HT7 := Lib.hid hT7
                have HF7 := Lib.hid hf7
                clear fx6 hT6 hf6 hrd6 hT7 hf7
                go_wp2_with fail
                generalize w6.setCell ⟨gt, 1, none⟩ (.int .i64 (bl + blocks)) = w7 at HT7 HF7 ht7 ⊢
                have HCP := Lib.hid (copied_any fs Af nf cf w7.drew HNF.out (HF.out w7.drew HF7.out.drew) HFA.out (by omega) (fun f hf => by
                  have h1 := HSX.out f hf
                  have h2 := ((HF.out w7 HF7.out).each f hf).len
                  omega))
                have hT7d := HT7.out.below ((Below.refl w7.heap.size w7).drew)
                have hk8 : ∀ W, Below w7.drew.heap.size w7.drew W → W.cell? ⟨tb, 0, none⟩ = some (.pointer (some ⟨gt, 0, none⟩)) ∧ W.cell? ⟨gt, 2, none⟩ = some (.slice VA vs.length Vc) ∧ W.ownsRow B 27 1 (.slice VA vs.length Vc) vs.length xs ∧ B ≤ W.heap.size := fun W hW => by
                  have h1 := hT7d.below hW
                  refine ⟨(hW.cell (p := ⟨tb, 0, none⟩) (block_lt_of_cell ht7)).trans ht7, h1.blk.cell 2, h1.row, ?_⟩
                  have h2 := h1.ge
                  have h3 := h1.lt
                  omega
                have HK8 := Lib.hid hk8
                have HT7D := Lib.hid hT7d
                have p2 := (hk8 w7.drew (Below.refl _ _)).2.1
                have HF7D := Lib.hid HF7.out.drew
                clear hk8 hT7d
                refine wp_region_held_drew (S := fun w' => w'.cell? ⟨tb, 0, none⟩ = some (.pointer (some ⟨gt, 0, none⟩))) (by kernel_rfl) ht7 (fun hHeld => ?_)
                refine wpAnyH_takeD (i := 0) (d := 168) (oi := _) (v := ?_) rfl rfl (by kernel_rfl) (by kernel_rfl) (by kernel_rfl) (fun _ _ _ h => h) (Or.inl ⟨by rfl, ?_⟩) (by assumption) ?_
                rotate_left
                · (intro w hSw; (try dsimp only at hSw); go_simp) <;> with_reducible rfl
                simp only [Act.put, List.setIfInBounds_toArray, List.set_cons_zero, List.set_cons_succ]
                refine wpAnyH_takeD (i := 1) (d := 169) (oi := _) (v := ?_) rfl rfl (by kernel_rfl) (by kernel_rfl) (by kernel_rfl) (fun _ _ _ h => h) (Or.inl ⟨by rfl, ?_⟩) (by assumption) ?_
                rotate_left
                · (intro w hSw; (try dsimp only at hSw); go_simp) <;> with_reducible rfl
                simp only [Act.put, List.setIfInBounds_toArray, List.set_cons_zero, List.set_cons_succ]
                refine wpAnyH_takeD (i := 2) (d := 170) (oi := _) (v := ?_) rfl rfl (by kernel_rfl) (by kernel_rfl) (by kernel_rfl) (fun _ _ _ h => h) (Or.inl ⟨by rfl, ?_⟩) (by assumption) ?_
                rotate_left
                · (intro w hSw; (try dsimp only at hSw); go_simp) <;> with_reducible rfl
                simp only [Act.put, List.setIfInBounds_toArray, List.set_cons_zero, List.set_cons_succ]
                refine wpAnyH_takeD (i := 3) (d := 171) (oi := _) (v := ?_) rfl rfl (by kernel_rfl) (by kernel_rfl) (by kernel_rfl) (fun _ _ _ h => h) (Or.inl ⟨by rfl, ?_⟩) (by assumption) ?_
                rotate_left
                · (intro w hSw; (try dsimp only at hSw); go_simp) <;> with_reducible rfl
                simp only [Act.put, List.setIfInBounds_toArray, List.set_cons_zero, List.set_cons_succ]
                refine wpAnyH_takeD (i := 5) (d := 173) (oi := _) (v := ?_) rfl rfl (by kernel_rfl) (by kernel_rfl) (by kernel_rfl) (fun _ _ _ h => h) (Or.inl ⟨by rfl, ?_⟩) (by assumption) ?_
                rotate_left
                · (intro w hSw; (try dsimp only at hSw); go_simp) <;> with_reducible rfl
                simp only [Act.put, List.setIfInBounds_toArray, List.set_cons_zero, List.set_cons_succ]
                refine wpAnyH_ready (rs := [4, 6]) (by kernel_rfl) (by simp) ?_
                refine AllReadyH.cons (o := _) rfl (fun K hK => ?_) (AllReadyH.cons (o := _) rfl (fun K hK => ?_) AllReadyH.nil)
                · go_simp
                  refine hK.out _ _ hHeld (fun hHeld => ?_)
                  clear hK K
                  try simp only [Act.put, List.setIfInBounds_toArray, List.set_cons_zero, List.set_cons_succ]
                  refine wpAnyH_ready (rs := [6]) (by kernel_rfl) (by simp) ?_
                  refine AllReadyH.cons (o := _) rfl (fun K hK => ?_) AllReadyH.nil
                  go_simp
                  refine (HCP.out).mono ?_
                  rintro e w8 ⟨⟨A2, c2, fs2, rfl, hc2, hl2', hd2, ho2⟩, hb8⟩
                  have HB8 := Lib.hid hb8
                  have HL2 := Lib.hid hl2'
                  have HD2 := Lib.hid hd2
                  have HO2 := Lib.hid ho2
                  obtain ⟨s8, p8, _, _⟩ := HK8.out w8 hb8
                  have ha8 : Below w7.drew.heap.size w7.drew (w8.alloc (.cells #[.slice A2 nf c2] 27)) := hb8.alloc hb8.size _
                  obtain ⟨s8a, p8a, ho8, hz8⟩ := HK8.out _ ha8
                  have HNB := Lib.hid (Blk.new w8 27 #[.slice A2 nf c2])
                  have HOA := Lib.hid (appOf_own tVs ho8)
                  have HZ8 := Lib.hid hz8
                  have HT8 := Lib.hid (HT7D.out.below ha8)
                  clear hb8 hl2' hd2 ho2 ha8 ho8 hz8
                  go_wp2_with fail
                  refine hK.out _ _ s8 (fun hHeld => ?_)
                  clear hK K
                  try simp only [Act.put, List.setIfInBounds_toArray, List.set_cons_zero, List.set_cons_succ]
                  refine wpAnyH_ready (rs := [7]) (by kernel_rfl) (by simp) ?_
                  refine AllReadyH.cons (o := _) rfl (fun K hK => ?_) AllReadyH.nil
                  go_simp
                  refine hK.out _ _ s8a (fun hHeld => ?_)
                  clear hK K
                  try simp only [Act.put, List.setIfInBounds_toArray, List.set_cons_zero, List.set_cons_succ]
                  refine wpAnyH_ready (rs := [8]) (by kernel_rfl) (by simp) ?_
                  refine AllReadyH.cons (o := _) rfl (fun K hK => ?_) AllReadyH.nil
                  refine step_appS tVs rfl (.tmp 172) (.tmp 175) rfl B (.slice VA vs.length Vc) vs.length xs rfl HOA.out [.slice A2 nf c2] rfl (by simp [Value.oneCell']) w8.heap.size rfl HNB.out (by omega) (by unfold maxLen; omega) HZ8.out ?_
                  intro v4 w4 o4 hg4 hl4
                  have hfr4 : Frm (fun k => (Value.slice VA vs.length Vc).ownBlock = some k) (w8.alloc (.cells #[.slice A2 nf c2] 27)) w4 := Frm.of_grown hg4 (fun k hk => hk)
                  have hb4 : Blk w4 gt 46 #[.pointer (some ⟨gi, 0, none⟩), .int .i64 (bl + blocks), .slice VA vs.length Vc] := HT8.out.blk.frm hfr4 (fun e => HT8.out.row_ne gt (.inl rfl) e)
                  have s4 : w4.cell? ⟨tb, 0, none⟩ = some (.pointer (some ⟨gt, 0, none⟩)) := (hfr4.cell (p := ⟨tb, 0, none⟩) (block_lt_of_cell s8a) (fun e => HVT.out _ e rfl)).trans s8a
                  have s5 : (w4.setCell ⟨gt, 2, none⟩ v4).cell? ⟨tb, 0, none⟩ = some (.pointer (some ⟨gt, 0, none⟩)) := (((Frm.refl (fun k => k = gt) w4).setCell (p := ⟨gt, 2, none⟩) (fun _ => rfl) v4).cell (p := ⟨tb, 0, none⟩) (block_lt_of_cell s4) (fun h => HNTB.out h)).trans s4
                  have p4 := hb4.cell 2
                  have z4 := hb4.frozen 2
                  simp at p4
                  have HOK2 := Lib.hid (ok_done (most := nst + k) (r := R) HF7D.out HVW.out HT7D.out (by omega) hnm HL2.out HD2.out hnX (sizes_of HD2.out HO2.out HSX.out) HB8.out HO2.out hg4 o4 hl4 (by rw [HAP2.out]; rw [if_neg (by rintro ⟨h1, h2⟩; omega), formB_ok (by omega) (.inl (by omega)) (by rw [HNF.out]; exact hn2) HNMD.out HANY.out, if_neg (by decide), if_neg (by omega)]))
                  clear hfr4 hb4 hg4 hl4
                  obtain ⟨A4, c4', rfl, hc4'⟩ := own_slice o4
                  clear o4
                  try simp only [Act.put, List.setIfInBounds_toArray, List.set_cons_zero, List.set_cons_succ]
                  refine hK.out _ _ s4 (fun hHeld => ?_)
                  clear hK K
                  try simp only [Act.put, List.setIfInBounds_toArray, List.set_cons_zero, List.set_cons_succ]
                  refine wpAnyH_takeD (i := 9) (d := 177) (oi := _) (v := ?_) rfl rfl (by kernel_rfl) (by kernel_rfl) (by kernel_rfl) (fun _ _ _ h => h) (Or.inl ⟨by rfl, ?_⟩) (by assumption) ?_
                  rotate_left
                  · (intro w hSw; (try dsimp only at hSw); go_simp) <;> with_reducible rfl
                  simp only [Act.put, List.setIfInBounds_toArray, List.set_cons_zero, List.set_cons_succ]
                  refine wpAnyH_takeD (i := 10) (d := 178) (oi := _) (v := ?_) rfl rfl (by kernel_rfl) (by kernel_rfl) (by kernel_rfl) (fun _ _ _ h => h) (Or.inl ⟨by rfl, ?_⟩) (by assumption) ?_
                  rotate_left
                  · (intro w hSw; (try dsimp only at hSw); go_simp) <;> with_reducible rfl
                  simp only [Act.put, List.setIfInBounds_toArray, List.set_cons_zero, List.set_cons_succ]
                  refine wpAnyH_ready (rs := [11]) (by kernel_rfl) (by simp) ?_
                  refine AllReadyH.cons (o := _) rfl (fun K hK => ?_) AllReadyH.nil
                  go_simp
                  refine hK.out _ _ s5 (fun hHeld => ?_)
                  clear hK K
                  try simp only [Act.put, List.setIfInBounds_toArray, List.set_cons_zero, List.set_cons_succ]
                  refine wpAnyH_done (by kernel_rfl) ?_ _
                  go_wp2
                  go_ret
                  exact HOK2.out
                · go_simp
                  refine (HCP.out).mono ?_
                  rintro e w8 ⟨⟨A2, c2, fs2, rfl, hc2, hl2', hd2, ho2⟩, hb8⟩
                  have HB8 := Lib.hid hb8
                  have HL2 := Lib.hid hl2'
                  have HD2 := Lib.hid hd2
                  have HO2 := Lib.hid ho2
                  obtain ⟨s8, p8, _, _⟩ := HK8.out w8 hb8
                  have ha8 : Below w7.drew.heap.size w7.drew (w8.alloc (.cells #[.slice A2 nf c2] 27)) := hb8.alloc hb8.size _
                  obtain ⟨s8a, p8a, ho8, hz8⟩ := HK8.out _ ha8
                  have HNB := Lib.hid (Blk.new w8 27 #[.slice A2 nf c2])
                  have HOA := Lib.hid (appOf_own tVs ho8)
                  have HZ8 := Lib.hid hz8
                  have HT8 := Lib.hid (HT7D.out.below ha8)
                  clear hb8 hl2' hd2 ho2 ha8 ho8 hz8
                  go_wp2_with fail
                  refine hK.out _ _ s8 (fun hHeld => ?_)
                  clear hK K
                  try simp only [Act.put, List.setIfInBounds_toArray, List.set_cons_zero, List.set_cons_succ]
                  refine wpAnyH_ready (rs := [4, 7]) (by kernel_rfl) (by simp) ?_
                  refine AllReadyH.cons (o := _) rfl (fun K hK => ?_) (AllReadyH.cons (o := _) rfl (fun K hK => ?_) AllReadyH.nil)
                  · go_simp
                    refine hK.out _ _ s8 (fun hHeld => ?_)
                    clear hK K
                    try simp only [Act.put, List.setIfInBounds_toArray, List.set_cons_zero, List.set_cons_succ]
                    refine wpAnyH_ready (rs := [7]) (by kernel_rfl) (by simp) ?_
                    refine AllReadyH.cons (o := _) rfl (fun K hK => ?_) AllReadyH.nil
                    go_simp
                    refine hK.out _ _ s8a (fun hHeld => ?_)
                    clear hK K
                    try simp only [Act.put, List.setIfInBounds_toArray, List.set_cons_zero, List.set_cons_succ]
                    refine wpAnyH_ready (rs := [8]) (by kernel_rfl) (by simp) ?_
                    refine AllReadyH.cons (o := _) rfl (fun K hK => ?_) AllReadyH.nil
                    refine step_appS tVs rfl (.tmp 172) (.tmp 175) rfl B (.slice VA vs.length Vc) vs.length xs rfl HOA.out [.slice A2 nf c2] rfl (by simp [Value.oneCell']) w8.heap.size rfl HNB.out (by omega) (by unfold maxLen; omega) HZ8.out ?_
                    intro v4 w4 o4 hg4 hl4
                    have hfr4 : Frm (fun k => (Value.slice VA vs.length Vc).ownBlock = some k) (w8.alloc (.cells #[.slice A2 nf c2] 27)) w4 := Frm.of_grown hg4 (fun k hk => hk)
                    have hb4 : Blk w4 gt 46 #[.pointer (some ⟨gi, 0, none⟩), .int .i64 (bl + blocks), .slice VA vs.length Vc] := HT8.out.blk.frm hfr4 (fun e => HT8.out.row_ne gt (.inl rfl) e)
                    have s4 : w4.cell? ⟨tb, 0, none⟩ = some (.pointer (some ⟨gt, 0, none⟩)) := (hfr4.cell (p := ⟨tb, 0, none⟩) (block_lt_of_cell s8a) (fun e => HVT.out _ e rfl)).trans s8a
                    have s5 : (w4.setCell ⟨gt, 2, none⟩ v4).cell? ⟨tb, 0, none⟩ = some (.pointer (some ⟨gt, 0, none⟩)) := (((Frm.refl (fun k => k = gt) w4).setCell (p := ⟨gt, 2, none⟩) (fun _ => rfl) v4).cell (p := ⟨tb, 0, none⟩) (block_lt_of_cell s4) (fun h => HNTB.out h)).trans s4
                    have p4 := hb4.cell 2
                    have z4 := hb4.frozen 2
                    simp at p4
                    have HOK2 := Lib.hid (ok_done (most := nst + k) (r := R) HF7D.out HVW.out HT7D.out (by omega) hnm HL2.out HD2.out hnX (sizes_of HD2.out HO2.out HSX.out) HB8.out HO2.out hg4 o4 hl4 (by rw [HAP2.out]; rw [if_neg (by rintro ⟨h1, h2⟩; omega), formB_ok (by omega) (.inl (by omega)) (by rw [HNF.out]; exact hn2) HNMD.out HANY.out, if_neg (by decide), if_neg (by omega)]))
                    clear hfr4 hb4 hg4 hl4
                    obtain ⟨A4, c4', rfl, hc4'⟩ := own_slice o4
                    clear o4
                    try simp only [Act.put, List.setIfInBounds_toArray, List.set_cons_zero, List.set_cons_succ]
                    refine hK.out _ _ s4 (fun hHeld => ?_)
                    clear hK K
                    try simp only [Act.put, List.setIfInBounds_toArray, List.set_cons_zero, List.set_cons_succ]
                    refine wpAnyH_takeD (i := 9) (d := 177) (oi := _) (v := ?_) rfl rfl (by kernel_rfl) (by kernel_rfl) (by kernel_rfl) (fun _ _ _ h => h) (Or.inl ⟨by rfl, ?_⟩) (by assumption) ?_
                    rotate_left
                    · (intro w hSw; (try dsimp only at hSw); go_simp) <;> with_reducible rfl
                    simp only [Act.put, List.setIfInBounds_toArray, List.set_cons_zero, List.set_cons_succ]
                    refine wpAnyH_takeD (i := 10) (d := 178) (oi := _) (v := ?_) rfl rfl (by kernel_rfl) (by kernel_rfl) (by kernel_rfl) (fun _ _ _ h => h) (Or.inl ⟨by rfl, ?_⟩) (by assumption) ?_
                    rotate_left
                    · (intro w hSw; (try dsimp only at hSw); go_simp) <;> with_reducible rfl
                    simp only [Act.put, List.setIfInBounds_toArray, List.set_cons_zero, List.set_cons_succ]
                    refine wpAnyH_ready (rs := [11]) (by kernel_rfl) (by simp) ?_
                    refine AllReadyH.cons (o := _) rfl (fun K hK => ?_) AllReadyH.nil
                    go_simp
                    refine hK.out _ _ s5 (fun hHeld => ?_)
                    clear hK K
                    try simp only [Act.put, List.setIfInBounds_toArray, List.set_cons_zero, List.set_cons_succ]
                    refine wpAnyH_done (by kernel_rfl) ?_ _
                    go_wp2
                    go_ret
                    exact HOK2.out
                  · go_simp
                    refine hK.out _ _ s8a (fun hHeld => ?_)
                    clear hK K
                    try simp only [Act.put, List.setIfInBounds_toArray, List.set_cons_zero, List.set_cons_succ]
                    refine wpAnyH_ready (rs := [4]) (by kernel_rfl) (by simp) ?_
                    refine AllReadyH.cons (o := _) rfl (fun K hK => ?_) AllReadyH.nil
                    go_simp
                    refine hK.out _ _ hHeld (fun hHeld => ?_)
                    clear hK K
                    try simp only [Act.put, List.setIfInBounds_toArray, List.set_cons_zero, List.set_cons_succ]
                    refine wpAnyH_ready (rs := [8]) (by kernel_rfl) (by simp) ?_
                    refine AllReadyH.cons (o := _) rfl (fun K hK => ?_) AllReadyH.nil
                    refine step_appS tVs rfl (.tmp 172) (.tmp 175) rfl B (.slice VA vs.length Vc) vs.length xs rfl HOA.out [.slice A2 nf c2] rfl (by simp [Value.oneCell']) w8.heap.size rfl HNB.out (by omega) (by unfold maxLen; omega) HZ8.out ?_
                    intro v4 w4 o4 hg4 hl4
                    have hfr4 : Frm (fun k => (Value.slice VA vs.length Vc).ownBlock = some k) (w8.alloc (.cells #[.slice A2 nf c2] 27)) w4 := Frm.of_grown hg4 (fun k hk => hk)
                    have hb4 : Blk w4 gt 46 #[.pointer (some ⟨gi, 0, none⟩), .int .i64 (bl + blocks), .slice VA vs.length Vc] := HT8.out.blk.frm hfr4 (fun e => HT8.out.row_ne gt (.inl rfl) e)
                    have s4 : w4.cell? ⟨tb, 0, none⟩ = some (.pointer (some ⟨gt, 0, none⟩)) := (hfr4.cell (p := ⟨tb, 0, none⟩) (block_lt_of_cell s8a) (fun e => HVT.out _ e rfl)).trans s8a
                    have s5 : (w4.setCell ⟨gt, 2, none⟩ v4).cell? ⟨tb, 0, none⟩ = some (.pointer (some ⟨gt, 0, none⟩)) := (((Frm.refl (fun k => k = gt) w4).setCell (p := ⟨gt, 2, none⟩) (fun _ => rfl) v4).cell (p := ⟨tb, 0, none⟩) (block_lt_of_cell s4) (fun h => HNTB.out h)).trans s4
                    have p4 := hb4.cell 2
                    have z4 := hb4.frozen 2
                    simp at p4
                    have HOK2 := Lib.hid (ok_done (most := nst + k) (r := R) HF7D.out HVW.out HT7D.out (by omega) hnm HL2.out HD2.out hnX (sizes_of HD2.out HO2.out HSX.out) HB8.out HO2.out hg4 o4 hl4 (by rw [HAP2.out]; rw [if_neg (by rintro ⟨h1, h2⟩; omega), formB_ok (by omega) (.inl (by omega)) (by rw [HNF.out]; exact hn2) HNMD.out HANY.out, if_neg (by decide), if_neg (by omega)]))
                    clear hfr4 hb4 hg4 hl4
                    obtain ⟨A4, c4', rfl, hc4'⟩ := own_slice o4
                    clear o4
                    try simp only [Act.put, List.setIfInBounds_toArray, List.set_cons_zero, List.set_cons_succ]
                    refine hK.out _ _ s4 (fun hHeld => ?_)
                    clear hK K
                    try simp only [Act.put, List.setIfInBounds_toArray, List.set_cons_zero, List.set_cons_succ]
                    refine wpAnyH_takeD (i := 9) (d := 177) (oi := _) (v := ?_) rfl rfl (by kernel_rfl) (by kernel_rfl) (by kernel_rfl) (fun _ _ _ h => h) (Or.inl ⟨by rfl, ?_⟩) (by assumption) ?_
                    rotate_left
                    · (intro w hSw; (try dsimp only at hSw); go_simp) <;> with_reducible rfl
                    simp only [Act.put, List.setIfInBounds_toArray, List.set_cons_zero, List.set_cons_succ]
                    refine wpAnyH_takeD (i := 10) (d := 178) (oi := _) (v := ?_) rfl rfl (by kernel_rfl) (by kernel_rfl) (by kernel_rfl) (fun _ _ _ h => h) (Or.inl ⟨by rfl, ?_⟩) (by assumption) ?_
                    rotate_left
                    · (intro w hSw; (try dsimp only at hSw); go_simp) <;> with_reducible rfl
                    simp only [Act.put, List.setIfInBounds_toArray, List.set_cons_zero, List.set_cons_succ]
                    refine wpAnyH_ready (rs := [11]) (by kernel_rfl) (by simp) ?_
                    refine AllReadyH.cons (o := _) rfl (fun K hK => ?_) AllReadyH.nil
                    go_simp
                    refine hK.out _ _ s5 (fun hHeld => ?_)
                    clear hK K
                    try simp only [Act.put, List.setIfInBounds_toArray, List.set_cons_zero, List.set_cons_succ]
                    refine wpAnyH_done (by kernel_rfl) ?_ _
                    go_wp2
                    go_ret
                    exact HOK2.out
          · have d4 : decide ((200 : Int) < (nf : Int)) = true := decide_eq_true (by omega)
            go_wp2_with fail
            refine (HBC.out 13 _ HW0.out).mono ?_
            intro e w9 hbad
            have hre := hbad.ret
            subst hre
            have HB9 := Lib.hid (HBE.out 13 _ _ _ HW0.out hbad (by rw [HAP2.out]; rw [if_neg (by rintro ⟨h1, h2⟩; omega), if_pos (formB_many (by rw [HNFZ.out]; omega))]))
            clear hbad
            go_wp2
            go_ret
            exact HB9.out
end
end Go.Proofs.Ytlhhkmpidnegcaa
