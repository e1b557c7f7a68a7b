/- IndexOnce's walk. -/
import Derived.Test.YtjcaahilgobfhaaIxOc
namespace Go.Proofs.Ytjcaahilgobfhaa
open Go.RowKit Go.WideShapes Go.Maps
set_option linter.unusedVariables false
set_option linter.unusedSimpArgs false
theorem wrapI (q : Nat) (h : q < 151) : IntKind.i64.wrap ((q : Int) + 1) = (q : Int) + 1 := by
  rw [IntKind.wrap_i64]; omega
/-- The law's state at the head of its loop. -/
structure OnceS (w : World) (g mb I : Nat) (hv : Value) (wr : World) : Prop where
  ex : ∃ (n : Nat) (l : List Pc) (v : Value) (A : Option Addr) (c : Nat), n ≤ I ∧ l.length ≤ I ∧ (l.map Pc.h).Nodup ∧ hv = .slice A l.length c ∧ l.length ≤ c ∧ Both w.heap.size wr g mb n l.length l v hv (flatH (l.map Pc.h))
  low : Below w.heap.size w wr
set_option maxHeartbeats 4000000 in
set_option maxRecDepth 100000 in
theorem onceI_law (bs : List Int) (A0 : Option Addr) (c0 : Nat) (w : World) (hr : Rd w A0 (bs.map (.int .i64))) (hl : bs.length ≤ c0) (hm : c0 ≤ maxLen) (hz : ∀ z ∈ bs, -9223372036854775808 ≤ z ∧ z ≤ 9223372036854775807) :
    Calls Try.prog 7 #[.slice A0 bs.length c0] w (Quiet (.bool true) w) := by
  obtain ⟨LL, hLL⟩ : ∃ LL, bs.length = LL := ⟨_, rfl⟩
  rw [hLL] at hl ⊢
  have HR := Lib.hid hr
  have HLL := Lib.hid hLL
  have HZ := Lib.hid hz
  have haw := awake_any
  have HAW := Lib.hid haw
  clear hr hLL hz haw
  go_enter Try.func7, Try.ntmps7
  go_wp2_with fail
  refine (newIx_any w).mono ?_
  rintro e w1 ⟨⟨g, mb, rfl, hi, hg⟩, hb1⟩
  have HS1 := Lib.hid (show OnceS w g mb 0 (.slice none 0 0) w1 from ⟨⟨0, [], _, none, 0, Nat.le_refl _, Nat.le_refl _, List.nodup_nil, rfl, Nat.le_refl _, ⟨hi, .inl ⟨rfl, .inl ⟨rfl, rfl⟩⟩⟩⟩, hb1⟩)
  clear hi hb1 hg
  go_wp2_with fail
  go_loopw [4, 5] (fun hv i wr => ∃ I : Nat, I ≤ LL ∧ I ≤ 150 ∧ i = .int .i64 I ∧ OnceS w g mb I hv wr) (fun _ i _ => 150 - (intOf i).toNat)
  case atStart => exact ⟨0, by omega, by omega, rfl, HS1.out⟩
  case round =>
    obtain ⟨I, hI, hI2, rfl, ⟨⟨n, l, v, A, c, hn, hln, hnd, rfl, hlc, hbo⟩, hlow⟩⟩ := hrel
    have HLOW := Lib.hid hlow
    have HND := Lib.hid hnd
    have HBO := Lib.hid hbo
    have HN := Lib.hid hn
    have HLN := Lib.hid hln
    have HLC := Lib.hid hlc
    clear hlow hnd hbo hn hln hlc
    obtain ⟨M, hM⟩ : ∃ M, l.length = M := ⟨_, rfl⟩
    have hM150 : M ≤ 150 := by have := HLN.out; omega
    rw [hM] at HLC HBO ⊢
    have HM := Lib.hid hM
    clear hM
    have hw1 : wrap64 ((M : Int) + 1) = (M : Int) + 1 := by unfold wrap64; omega
    have hn0 : ¬ ((M : Int) + 1 = 0) := by omega
    by_cases hlt : I < LL
    · have d1 : decide ((I : Int) < (LL : Int)) = true := by simp; omega
      by_cases hlt2 : I < 150
      · have d2 : decide ((I : Int) < 150) = true := by simp; omega
        obtain ⟨z, hzI⟩ : ∃ z, bs[I]? = some z := ⟨_, List.getElem?_eq_getElem (by rw [HLL.out]; exact hlt)⟩
        obtain ⟨b0, off0, hA0, hb0, hcl⟩ := HR.out (by rw [List.length_map, HLL.out]; omega)
        subst hA0
        have hcI := hcl I (.int .i64 z) (by rw [List.getElem?_map, hzI]; rfl)
        have hcI2 : wr.cell? ⟨b0, off0 + I, none⟩ = some (.int .i64 z) := (HLOW.out.cell (p := ⟨b0, off0 + I, none⟩) hb0).trans hcI
        have hzb := HZ.out z (List.mem_of_getElem? hzI)
        have hpk := pick_any z 1000003 wr (by omega) (by omega) hzb.1 hzb.2
        have HPK := Lib.hid hpk
        have HI := Lib.hid hI
        clear hcI hzI hzb hcl hpk hI hI2
        have hltI : (I : Int) < LL := by omega
        go_wp2_with fail
        refine (HPK.out).mono ?_
        rintro e w2 ⟨⟨x, hx, rfl⟩, rfl⟩
        by_cases hx9 : (x : Int) % 9 = 0
        · have dx : ((x : Int) % 9 == 0) = true := by simp [hx9]
          obtain ⟨k, hk, hkM⟩ : ∃ k : Nat, (x : Int) / 9 % ((M : Int) + 1) = (k : Int) ∧ k ≤ M := ⟨x / 9 % (M + 1), by push_cast; rfl, by have := Nat.mod_lt (x / 9) (show M + 1 > 0 by omega); omega⟩
          have HKM := Lib.hid hkM
          have hct := both_cut k wr HBO.out HND.out (by rw [HM.out]; exact hkM) (by have := HLN.out; have := HM.out; omega)
          have HCT := Lib.hid hct
          clear hx9 hct
          go_wp2_with fail
          refine (HCT.out).mono ?_
          rintro e w3 ⟨rfl, ⟨v3, hb3⟩, hlow3⟩
          have hkc : k ≤ c := by have := HLC.out; omega
          have hkcI : (k : Int) ≤ c := by omega
          have hk0 : (0 : Int) ≤ k := by omega
          have HB3 := Lib.hid hb3
          have HL3 := Lib.hid (HLOW.out.trans hlow3)
          clear hb3 hlow3
          go_wp2_with fail
          refine ⟨⟨I + 1, by omega, by omega, congrArg (Value.int .i64) (by omega), ⟨⟨n, l.take k, v3, A, k, by have := HN.out; omega, ?_, ?_, ?_, ?_, ?_⟩, HL3.out⟩⟩, ?_⟩
          · rw [List.length_take]; have := HLN.out; omega
          · rw [List.map_take]; exact HND.out.sublist (List.take_sublist _ _)
          · rw [List.length_take, HM.out, Nat.min_eq_left HKM.out]
          · rw [List.length_take, HM.out, Nat.min_eq_left HKM.out]; exact Nat.le_refl _
          · rw [List.length_take, HM.out, Nat.min_eq_left HKM.out, List.map_take]
            have hb := HB3.out
            exact ⟨hb.idx, rowh_cut (fun x hx => by
              obtain ⟨q, hq, rfl⟩ := List.mem_map.1 hx
              exact (HBO.out.idx.oks q hq).h) hb.row (by rw [List.length_map, HM.out]) HKM.out (by unfold maxLen; omega)⟩
          · simp [intOf]; omega
        · have dx : ((x : Int) % 9 == 0) = false := by simp [hx9]
          obtain ⟨j, hj, hj60⟩ : ∃ j : Nat, (x : Int) / 9 % 60 = (j : Int) ∧ j < 60 := ⟨x / 9 % 60, by push_cast; rfl, by omega⟩
          have HJ := Lib.hid hj60
          clear hx9 hj60
          obtain ⟨p, hcs, hagg, hpc, hcase⟩ := once_add (B := w.heap.size) (g := g) (mb := mb) (n := n) (M := M) (v := v) HND.out HM.out hM150 (by have := HN.out; omega) j HJ.out (.slice A M c)
          have CS := Lib.hid hcs
          have HPC := Lib.hid hpc
          have HCASE := Lib.hid hcase
          clear hcs hpc hcase hagg
          have HLT := Lib.hid hlt
          have HLT2 := Lib.hid hlt2
          have HI150 := Lib.hid hM150
          go_wp2_with fail
          refine (HPC.out wr).mono ?_
          rintro e w3 ⟨rfl, hb3⟩
          have hbn := hb3.trans ((Below.refl w3.heap.size w3).alloc (Nat.le_refl _) (.cells p.cells.toArray 39) |>.mono hb3.size)
          have HB3 := Lib.hid (HBO.out.below hbn)
          have HL3 := Lib.hid (HLOW.out.trans (hbn.mono HLOW.out.size))
          have HG3 := Lib.hid (Blk.new w3 39 p.cells.toArray)
          have hne : v.ownBlock ≠ some w3.heap.size := fun e => by
            have h1 := (HBO.out.idx.own.lt _ e).2
            have h2 := hb3.size
            omega
          have HNE := Lib.hid hne
          have HRG := Lib.hid (CS.out.rg _ _ HG3.out)
          have HWS := Lib.hid (show w.heap.size ≤ (w3.alloc (.cells p.cells.toArray 39)).heap.size from HL3.out.size)
          clear hbn hb3 hne
          go_wp2_with (first | (refine wpList_store_row rfl 39 (.tmp 8) (.tmp 55) rfl w3.heap.size p.cells.toArray rfl rfl 39 _ (heap_alloc_new _ _) CS.out.a39 CS.out.z39 CS.out.one ?_; rw [World.setRow_alloc_new]) | (refine wpList_load_mid rfl 37 (.tmp 58) rfl w3.heap.size 0 rfl (hashV p.h) _ HRG.out Try.underlying37 rfl CS.out.s37 ?_))
          obtain ⟨gp, hgp⟩ : ∃ gp, w3.heap.size = gp := ⟨_, rfl⟩
          rw [hgp] at HG3 HNE ⊢
          clear HRG
          generalize w3.alloc (.cells p.cells.toArray 39) = W3 at HB3 HL3 HG3 HWS ⊢
          clear hgp
          rcases HCASE.out with ⟨i, hi⟩ | ⟨hnd2, hfl, hnew⟩
          · have HI := Lib.hid hi
            have hfi := (hi W3 HB3.out).1
            have HF := Lib.hid hfi
            clear hi hfi
            refine (HF.out).mono ?_
            rintro e w4 ⟨rfl, hb4⟩
            have HB4 := Lib.hid (HB3.out.below hb4)
            have HL4 := Lib.hid (HL3.out.trans (hb4.mono HL3.out.size))
            have HG4 := Lib.hid (HG3.out.below hb4)
            clear hb4
            go_wp2_with (refine wpList_load_row rfl 39 (.tmp 8) rfl gp rfl 39 p.cells.toArray _ _ HG4.out Try.underlying39 rfl CS.out.a39 ?_)
            refine ((HI.out w4 HB4.out).2).mono ?_
            rintro e w5 ⟨rfl, hb5⟩
            have HB5 := Lib.hid (HB4.out.below hb5)
            have HL5 := Lib.hid (HL4.out.trans (hb5.mono HL4.out.size))
            clear hb5
            go_wp2_with fail
            have hlen := both_len w5 _ _ HB5.out
            rw [HM.out] at hlen
            have HLEN := Lib.hid hlen
            clear hlen
            refine (HLEN.out).mono ?_
            rintro e w6 ⟨rfl, rfl⟩
            go_wp2_with fail
            go_loopw [14] (fun mi wq => ∃ q : Nat, q ≤ M ∧ mi = .int .i64 q ∧ Both w.heap.size wq g mb (n) (M) (l) v (.slice A (M) c) (flatH ((l).map Pc.h)) ∧ Below w.heap.size w wq) (fun mi _ => M - (intOf mi).toNat)
            case atStart => exact ⟨0, by omega, rfl, HB5.out, HL5.out⟩
            case round =>
              obtain ⟨q, hq, rfl, hbq, hlq⟩ := hrel
              have HBQ := Lib.hid hbq
              have HLQ := Lib.hid hlq
              clear hbq hlq
              by_cases hqM : q < M
              · have e1 : decide ((q : Int) < ((M : Nat) : Int)) = true := by simp; omega
                obtain ⟨ps, hs, ga, hA, hcs, hat, hlat⟩ := once_round wr HBQ.out HND.out (HM.out) (by have := HI150.out; omega) q hqM
                subst hA
                have CQ := Lib.hid hcs
                have HAT := Lib.hid hat
                have HLAT := Lib.hid hlat
                have heq := hcs.eq
                have hqI : (q : Int) < ((M : Nat) : Int) := by omega
                have hq151 : q < 151 := by have := HI150.out; omega
                have hwr : IntKind.i64.wrap ((q : Int) + 1) = (q : Int) + 1 := wrapI q hq151
                clear hcs hat hlat
                go_wp2_with fail
                refine (HAT.out).mono ?_
                rintro e wa ⟨rfl, hba⟩
                have hbn := hba.trans ((Below.refl wa.heap.size wa).alloc (Nat.le_refl _) (.cells ps.toArray 39) |>.mono hba.size)
                obtain ⟨hbb, hrr, hff⟩ := HLAT.out _ hbn
                have HBB := Lib.hid hbb
                have HRR := Lib.hid hrr
                have HFF := Lib.hid hff
                have HLA := Lib.hid (HLQ.out.trans (hbn.mono HLQ.out.size))
                have HGA := Lib.hid (Blk.new wa 39 ps.toArray)
                clear hbn hba hbb hrr hff
                go_wp2_with (first | (refine wpList_store_row rfl 39 (.tmp 15) (.tmp 118) rfl wa.heap.size ps.toArray rfl rfl 39 _ (heap_alloc_new _ _) CQ.out.a39 CQ.out.z39 CQ.out.one ?_; rw [World.setRow_alloc_new]) | (refine wpList_load_mid rfl 37 (.tmp 124) rfl ga (q * 20) rfl hs _ HRR.out Try.underlying37 rfl CQ.out.s37 ?_))
                obtain ⟨gq, hgq⟩ : ∃ gq, wa.heap.size = gq := ⟨_, rfl⟩
                rw [hgq] at HGA ⊢
                generalize wa.alloc (.cells ps.toArray 39) = Wa at HBB HRR HFF HLA HGA ⊢
                clear hgq
                refine (HFF.out).mono ?_
                rintro e wb ⟨rfl, hbb⟩
                have HB6 := Lib.hid (HBB.out.below hbb)
                have HL6 := Lib.hid (HLA.out.trans (hbb.mono HLA.out.size))
                have HB7 := Lib.hid (show Both w.heap.size wb.drew g mb (n) (M) (l) v (.slice (some ⟨ga, 0, none⟩) (M) c) (flatH ((l).map Pc.h)) from HB6.out.below ((Below.refl wb.heap.size wb).drew))
                have HL7 := Lib.hid HL6.out.drew
                have HG6 := Lib.hid (HGA.out.below hbb)
                have HR6 := Lib.hid (show wb.rangeAt ga (q * 20) hs from fun jj y hy => by
                  have h1 := HRR.out jj y hy
                  exact (hbb.cell (p := ⟨ga, q * 20 + jj, none⟩) (World.block_lt_of_cell? _ _ h1)).trans h1)
                have HP6 := Lib.hid (CQ.out.rg _ _ HG6.out)
                clear hbb
                go_wp2_with fail
                refine wp_region_held_drew (S := fun w' => w' = wb.drew) (by kernel_rfl) rfl (fun hHeld => ?_)
                refine wpAnyH_takeD (i := 0) (d := 129) (oi := _) (v := ?_) rfl rfl (by kernel_rfl) (by kernel_rfl) (by kernel_rfl) (fun _ _ _ h => h) (Or.inl ⟨by rfl, ?_⟩) (by assumption) ?_
                rotate_left
                · (intro w hSw; (try dsimp only at hSw); go_simp) <;> with_reducible rfl
                simp only [Act.put, List.setIfInBounds_toArray, List.set_cons_zero, List.set_cons_succ]
                refine wpAnyH_takeD (i := 1) (d := 130) (oi := _) (v := ?_) rfl rfl (by kernel_rfl) (by kernel_rfl) (by kernel_rfl) (fun _ _ _ h => h) (Or.inl ⟨by rfl, ?_⟩) (by assumption) ?_
                rotate_left
                · (intro w hSw; (try dsimp only at hSw); go_simp) <;> with_reducible rfl
                simp only [Act.put, List.setIfInBounds_toArray, List.set_cons_zero, List.set_cons_succ]
                refine wpAnyH_takeD (i := 2) (d := 131) (oi := _) (v := ?_) rfl rfl (by kernel_rfl) (by kernel_rfl) (by kernel_rfl) (fun _ _ _ h => h) (Or.inl ⟨by rfl, ?_⟩) (by assumption) ?_
                rotate_left
                · (intro w hSw; (try dsimp only at hSw); go_simp) <;> with_reducible rfl
                simp only [Act.put, List.setIfInBounds_toArray, List.set_cons_zero, List.set_cons_succ]
                refine wpAnyH_takeD (i := 3) (d := 132) (oi := _) (v := ?_) rfl rfl (by kernel_rfl) (by kernel_rfl) (by kernel_rfl) (fun _ _ _ h => h) (Or.inl ⟨by rfl, ?_⟩) (by assumption) ?_
                rotate_left
                · (intro w hSw; (try dsimp only at hSw); go_simp) <;> with_reducible rfl
                simp only [Act.put, List.setIfInBounds_toArray, List.set_cons_zero, List.set_cons_succ]
                refine wpAnyH_takeD (i := 4) (d := 133) (oi := _) (v := .agg (hs).toArray) rfl rfl (by kernel_rfl) (by kernel_rfl) (by kernel_rfl) (fun _ _ _ h => h) (yieldsIf_load_mid (by rfl) 37 (.tmp 132) rfl gq 0 rfl (hs) _ (fun w hw => by subst hw; exact HP6.out) Try.underlying37 rfl CQ.out.s37) (by assumption) ?_
                simp only [Act.put, List.setIfInBounds_toArray, List.set_cons_zero, List.set_cons_succ]
                refine wpAnyH_takeD (i := 5) (d := 134) (oi := _) (v := ?_) rfl rfl (by kernel_rfl) (by kernel_rfl) (by kernel_rfl) (fun _ _ _ h => h) (Or.inl ⟨by rfl, ?_⟩) (by assumption) ?_
                rotate_left
                · (intro w hSw; (try dsimp only at hSw); go_simp) <;> with_reducible rfl
                simp only [Act.put, List.setIfInBounds_toArray, List.set_cons_zero, List.set_cons_succ]
                refine wpAnyH_takeD (i := 6) (d := 135) (oi := _) (v := ?_) rfl rfl (by kernel_rfl) (by kernel_rfl) (by kernel_rfl) (fun _ _ _ h => h) (Or.inl ⟨by rfl, ?_⟩) (by assumption) ?_
                rotate_left
                · (intro w hSw; (try dsimp only at hSw); go_simp) <;> with_reducible rfl
                simp only [Act.put, List.setIfInBounds_toArray, List.set_cons_zero, List.set_cons_succ]
                refine wpAnyH_takeD (i := 7) (d := 136) (oi := _) (v := ?_) rfl rfl (by kernel_rfl) (by kernel_rfl) (by kernel_rfl) (fun _ _ _ h => h) (Or.inl ⟨by rfl, ?_⟩) (by assumption) ?_
                rotate_left
                · (intro w hSw; (try dsimp only at hSw); go_simp) <;> with_reducible rfl
                simp only [Act.put, List.setIfInBounds_toArray, List.set_cons_zero, List.set_cons_succ]
                refine wpAnyH_takeD (i := 8) (d := 137) (oi := _) (v := .agg (hs).toArray) rfl rfl (by kernel_rfl) (by kernel_rfl) (by kernel_rfl) (fun _ _ _ h => h) (yieldsIf_load_mid (by rfl) 37 (.tmp 136) rfl ga (q * 20) rfl (hs) _ (fun w hw => by subst hw; exact HR6.out) Try.underlying37 rfl CQ.out.s37) (by assumption) ?_
                simp only [Act.put, List.setIfInBounds_toArray, List.set_cons_zero, List.set_cons_succ]
                refine wpAnyH_takeD (i := 9) (d := 138) (oi := _) (v := ?_) rfl rfl (by kernel_rfl) (by kernel_rfl) (by kernel_rfl) (fun _ _ _ h => h) (Or.inl ⟨by rfl, ?_⟩) (by assumption) ?_
                rotate_left
                · (intro w hSw; (try dsimp only at hSw); go_simp) <;> with_reducible rfl
                simp only [Act.put, List.setIfInBounds_toArray, List.set_cons_zero, List.set_cons_succ]
                refine wpAnyH_takeD (i := 10) (d := 139) (oi := _) (v := ?_) rfl rfl (by kernel_rfl) (by kernel_rfl) (by kernel_rfl) (fun _ _ _ h => h) (Or.inl ⟨by rfl, ?_⟩) (by assumption) ?_
                rotate_left
                · (intro w hSw; (try dsimp only at hSw); go_simp) <;> with_reducible rfl
                simp only [Act.put, List.setIfInBounds_toArray, List.set_cons_zero, List.set_cons_succ]
                refine wpAnyH_takeD (i := 11) (d := 140) (oi := _) (v := ?_) rfl rfl (by kernel_rfl) (by kernel_rfl) (by kernel_rfl) (fun _ _ _ h => h) (Or.inl ⟨by rfl, ?_⟩) (by assumption) ?_
                rotate_left
                · (intro w hSw; (try dsimp only at hSw); go_simp) <;> with_reducible rfl
                simp only [Act.put, List.setIfInBounds_toArray, List.set_cons_zero, List.set_cons_succ]
                refine wpAnyH_takeD (i := 12) (d := 141) (oi := _) (v := ?_) rfl rfl (by kernel_rfl) (by kernel_rfl) (by kernel_rfl) (fun _ _ _ h => h) (Or.inl ⟨by rfl, ?_⟩) (by assumption) ?_
                rotate_left
                · (intro w hSw; (try dsimp only at hSw); go_simp) <;> with_reducible rfl
                simp only [Act.put, List.setIfInBounds_toArray, List.set_cons_zero, List.set_cons_succ]
                refine wpAnyH_takeD (i := 13) (d := 142) (oi := _) (v := ?_) rfl rfl (by kernel_rfl) (by kernel_rfl) (by kernel_rfl) (fun _ _ _ h => h) (Or.inl ⟨by rfl, ?_⟩) (by assumption) ?_
                rotate_left
                · (intro w hSw; (try dsimp only at hSw); go_simp) <;> with_reducible rfl
                simp only [Act.put, List.setIfInBounds_toArray, List.set_cons_zero, List.set_cons_succ]
                refine wpAnyH_takeD (i := 14) (d := 143) (oi := _) (v := ?_) rfl rfl (by kernel_rfl) (by kernel_rfl) (by kernel_rfl) (fun _ _ _ h => h) (Or.inl ⟨by rfl, ?_⟩) (by assumption) ?_
                rotate_left
                · (intro w hSw; (try dsimp only at hSw); go_simp) <;> with_reducible rfl
                simp only [Act.put, List.setIfInBounds_toArray, List.set_cons_zero, List.set_cons_succ]
                refine wpAnyH_takeD (i := 15) (d := 144) (oi := _) (v := ?_) rfl rfl (by kernel_rfl) (by kernel_rfl) (by kernel_rfl) (fun _ _ _ h => h) (Or.inl ⟨by rfl, ?_⟩) (by assumption) ?_
                rotate_left
                · (intro w hSw; (try dsimp only at hSw); go_simp) <;> with_reducible rfl
                simp only [Act.put, List.setIfInBounds_toArray, List.set_cons_zero, List.set_cons_succ]
                refine wpAnyH_takeD (i := 16) (d := 145) (oi := _) (v := ?_) rfl rfl (by kernel_rfl) (by kernel_rfl) (by kernel_rfl) (fun _ _ _ h => h) (Or.inl ⟨by rfl, ?_⟩) (by assumption) ?_
                rotate_left
                · (intro w hSw; (try dsimp only at hSw); go_simp) <;> with_reducible rfl
                simp only [Act.put, List.setIfInBounds_toArray, List.set_cons_zero, List.set_cons_succ]
                refine wpAnyH_takeD (i := 17) (d := 146) (oi := _) (v := ?_) rfl rfl (by kernel_rfl) (by kernel_rfl) (by kernel_rfl) (fun _ _ _ h => h) (Or.inl ⟨by rfl, ?_⟩) (by assumption) ?_
                rotate_left
                · (intro w hSw; (try dsimp only at hSw); go_simp) <;> with_reducible rfl
                simp only [Act.put, List.setIfInBounds_toArray, List.set_cons_zero, List.set_cons_succ]
                refine wpAnyH_takeD (i := 18) (d := 147) (oi := _) (v := ?_) rfl rfl (by kernel_rfl) (by kernel_rfl) (by kernel_rfl) (fun _ _ _ h => h) (Or.inl ⟨by rfl, ?_⟩) (by assumption) ?_
                rotate_left
                · (intro w hSw; (try dsimp only at hSw); go_simp) <;> with_reducible rfl
                simp only [Act.put, List.setIfInBounds_toArray, List.set_cons_zero, List.set_cons_succ]
                refine wpAnyH_takeD (i := 19) (d := 148) (oi := _) (v := ?_) rfl rfl (by kernel_rfl) (by kernel_rfl) (by kernel_rfl) (fun _ _ _ h => h) (Or.inl ⟨by rfl, ?_⟩) (by assumption) ?_
                rotate_left
                · (intro w hSw; (try dsimp only at hSw); go_simp) <;> with_reducible rfl
                simp only [Act.put, List.setIfInBounds_toArray, List.set_cons_zero, List.set_cons_succ]
                refine wpAnyH_takeD (i := 20) (d := 149) (oi := _) (v := ?_) rfl rfl (by kernel_rfl) (by kernel_rfl) (by kernel_rfl) (fun _ _ _ h => h) (Or.inl ⟨by rfl, ?_⟩) (by assumption) ?_
                rotate_left
                · (intro w hSw; (try dsimp only at hSw); go_simp) <;> with_reducible rfl
                simp only [Act.put, List.setIfInBounds_toArray, List.set_cons_zero, List.set_cons_succ]
                refine wpAnyH_done (by kernel_rfl) ?_ _
                go_wp2_with fail
                exact ⟨⟨q + 1, by omega, congrArg (Value.int .i64) (by omega), HB7.out, HL7.out⟩, by simp [intOf]; omega⟩
              · have e1 : decide ((q : Int) < ((M : Nat) : Int)) = false := by simp; omega
                have HS9 := Lib.hid (show OnceS w g mb (I + 1) (.slice A (M) c) wr from ⟨⟨n, l, v, A, c, by have := HN.out; omega, by have := HLN.out; omega, HND.out, by rw [HM.out], by rw [HM.out]; exact HLC.out, by rw [HM.out]; exact HBQ.out⟩, HLQ.out⟩)
                go_wp2_with fail
                exact ⟨⟨I + 1, by have := HLT.out; omega, by have := HLT2.out; omega, congrArg (Value.int .i64) (by omega), HS9.out⟩, by simp [intOf]; have := HLT2.out; omega⟩
          · have HNW := Lib.hid hnew
            have HND2 := Lib.hid hnd2
            have HFL := Lib.hid hfl
            have hfi := (hnew W3 HB3.out).1
            have HF := Lib.hid hfi
            clear hnew hfi hnd2 hfl
            refine (HF.out).mono ?_
            rintro e w4 ⟨rfl, hb4⟩
            have HB4 := Lib.hid (HB3.out.below hb4)
            have HL4 := Lib.hid (HL3.out.trans (hb4.mono HL3.out.size))
            have HG4 := Lib.hid (HG3.out.below hb4)
            clear hb4
            go_wp2_with (refine wpList_load_row rfl 39 (.tmp 8) rfl gp rfl 39 p.cells.toArray _ _ HG4.out Try.underlying39 rfl CS.out.a39 ?_)
            refine ((HNW.out w4 HB4.out).2 gp HG4.out HNE.out).mono ?_
            rintro e w5 ⟨rfl, ⟨v5, hb5⟩, hg5, hlow5⟩
            obtain ⟨l2, hl2⟩ : ∃ l2, l ++ [p] = l2 := ⟨_, rfl⟩
            have hl2n : l2.length = M + 1 := by rw [← hl2, List.length_append, HM.out]; rfl
            rw [hl2] at hb5 HND2 HFL
            obtain ⟨hs0, hhs0⟩ : ∃ hs0, hashV p.h = hs0 := ⟨_, rfl⟩
            rw [hhs0] at HFL CS
            have hbn := (Below.refl w5.heap.size w5).alloc (Nat.le_refl _) (.cells hs0.toArray 37)
            have HB5 := Lib.hid (hb5.below hbn)
            have HL5 := Lib.hid ((HL4.out.trans hlow5).trans (hbn.mono (HL4.out.trans hlow5).size))
            have HR5 := Lib.hid (CS.out.rg _ _ hg5)
            have HNB := Lib.hid (Blk.new w5 37 hs0.toArray)
            have HSZ := Lib.hid (show w.heap.size ≤ (w5.alloc (.cells hs0.toArray 37)).heap.size from HL5.out.size)
            have HAP := Lib.hid (appOf_rowh HB5.out.row)
            have HM2 := Lib.hid hl2n
            have hfold := fold_set hs0 #[.int .u8 0, .int .u8 0, .int .u8 0, .int .u8 0, .int .u8 0, .int .u8 0, .int .u8 0, .int .u8 0, .int .u8 0, .int .u8 0, .int .u8 0, .int .u8 0, .int .u8 0, .int .u8 0, .int .u8 0, .int .u8 0, .int .u8 0, .int .u8 0, .int .u8 0, .int .u8 0] (by rw [CS.out.len]; rfl)
            have hl20 : hs0.length = 20 := CS.out.len
            have hnl : ¬ (¬ hs0.length = 20 ∨ 20 < hs0.length) := by omega
            clear hb5 hg5 hlow5 hbn hl2 hl2n hhs0
            go_wp2_with (first | (refine wpList_load_mid rfl 37 (.tmp 98) rfl gp 0 rfl hs0 _ HR5.out Try.underlying37 rfl CS.out.s37 ?_) | (refine wpList_appT (P := Try.prog) (w := w5.alloc (.cells hs0.toArray 37)) tHss rfl (.tmp 97) (.tmp 100) rfl w.heap.size (.slice A M c) M (flatH (l.map Pc.h)) rfl HAP.out hs0 CS.out.len CS.out.hone w5.heap.size rfl HNB.out (by have := HI150.out; omega) (by unfold maxLen; have := HI150.out; omega) HSZ.out (fun hv' w6 ho6 hg6 hnew6 => ?_)))
            obtain ⟨⟨v6, hb6⟩, hlow6⟩ := both_app HB5.out ho6 hg6
            rw [HFL.out] at hb6
            obtain ⟨M2, hM2⟩ : ∃ M2, M + 1 = M2 := ⟨_, rfl⟩
            obtain ⟨n2, hn2⟩ : ∃ n2, n + 1 = n2 := ⟨_, rfl⟩
            rw [hM2, hn2] at hb6
            have hlen2 : l2.length = M2 := HM2.out.trans hM2
            have hM2b : M2 ≤ 150 := by have := HLN.out; have := HM.out; have := HLT2.out; omega
            have hMI : M2 ≤ I + 1 := by have := HLN.out; have := HM.out; omega
            have hnI : n2 ≤ I + 1 := by have := HN.out; omega
            obtain ⟨A2, c2, rfl, hc2⟩ := hb6.row.slice
            have HL6 := Lib.hid (HL5.out.trans hlow6)
            have HB6 := Lib.hid hb6
            have HLE2 := Lib.hid hlen2
            have HMB2 := Lib.hid hM2b
            have HMI2 := Lib.hid hMI
            have HNI2 := Lib.hid hnI
            have HC2 := Lib.hid hc2
            have hlen := both_len w6 _ _ hb6
            rw [hlen2] at hlen
            have HLEN := Lib.hid hlen
            clear hlen hb6 hlow6 ho6 hg6 hnew6 hM2 hn2 hlen2 hM2b hMI hnI hc2 hfold hl20 hnl
            refine (HLEN.out).mono ?_
            rintro e w7 ⟨rfl, rfl⟩
            go_wp2_with fail
            go_loopw [14] (fun mi wq => ∃ q : Nat, q ≤ M2 ∧ mi = .int .i64 q ∧ Both w.heap.size wq g mb (n2) (M2) (l2) v6 (.slice A2 (M2) c2) (flatH ((l2).map Pc.h)) ∧ Below w.heap.size w wq) (fun mi _ => M2 - (intOf mi).toNat)
            case atStart => exact ⟨0, by omega, rfl, HB6.out, HL6.out⟩
            case round =>
              obtain ⟨q, hq, rfl, hbq, hlq⟩ := hrel
              have HBQ := Lib.hid hbq
              have HLQ := Lib.hid hlq
              clear hbq hlq
              by_cases hqM : q < M2
              · have e1 : decide ((q : Int) < ((M2 : Nat) : Int)) = true := by simp; omega
                obtain ⟨ps, hs, ga, hA, hcs, hat, hlat⟩ := once_round wr HBQ.out HND2.out (HLE2.out) (by have := HMB2.out; omega) q hqM
                subst hA
                have CQ := Lib.hid hcs
                have HAT := Lib.hid hat
                have HLAT := Lib.hid hlat
                have heq := hcs.eq
                have hqI : (q : Int) < ((M2 : Nat) : Int) := by omega
                have hq151 : q < 151 := by have := HMB2.out; omega
                have hwr : IntKind.i64.wrap ((q : Int) + 1) = (q : Int) + 1 := wrapI q hq151
                clear hcs hat hlat
                go_wp2_with fail
                refine (HAT.out).mono ?_
                rintro e wa ⟨rfl, hba⟩
                have hbn := hba.trans ((Below.refl wa.heap.size wa).alloc (Nat.le_refl _) (.cells ps.toArray 39) |>.mono hba.size)
                obtain ⟨hbb, hrr, hff⟩ := HLAT.out _ hbn
                have HBB := Lib.hid hbb
                have HRR := Lib.hid hrr
                have HFF := Lib.hid hff
                have HLA := Lib.hid (HLQ.out.trans (hbn.mono HLQ.out.size))
                have HGA := Lib.hid (Blk.new wa 39 ps.toArray)
                clear hbn hba hbb hrr hff
                go_wp2_with (first | (refine wpList_store_row rfl 39 (.tmp 15) (.tmp 118) rfl wa.heap.size ps.toArray rfl rfl 39 _ (heap_alloc_new _ _) CQ.out.a39 CQ.out.z39 CQ.out.one ?_; rw [World.setRow_alloc_new]) | (refine wpList_load_mid rfl 37 (.tmp 124) rfl ga (q * 20) rfl hs _ HRR.out Try.underlying37 rfl CQ.out.s37 ?_))
                obtain ⟨gq, hgq⟩ : ∃ gq, wa.heap.size = gq := ⟨_, rfl⟩
                rw [hgq] at HGA ⊢
                generalize wa.alloc (.cells ps.toArray 39) = Wa at HBB HRR HFF HLA HGA ⊢
                clear hgq
                refine (HFF.out).mono ?_
                rintro e wb ⟨rfl, hbb⟩
                have HB6 := Lib.hid (HBB.out.below hbb)
                have HL6 := Lib.hid (HLA.out.trans (hbb.mono HLA.out.size))
                have HB7 := Lib.hid (show Both w.heap.size wb.drew g mb (n2) (M2) (l2) v6 (.slice (some ⟨ga, 0, none⟩) (M2) c2) (flatH ((l2).map Pc.h)) from HB6.out.below ((Below.refl wb.heap.size wb).drew))
                have HL7 := Lib.hid HL6.out.drew
                have HG6 := Lib.hid (HGA.out.below hbb)
                have HR6 := Lib.hid (show wb.rangeAt ga (q * 20) hs from fun jj y hy => by
                  have h1 := HRR.out jj y hy
                  exact (hbb.cell (p := ⟨ga, q * 20 + jj, none⟩) (World.block_lt_of_cell? _ _ h1)).trans h1)
                have HP6 := Lib.hid (CQ.out.rg _ _ HG6.out)
                clear hbb
                go_wp2_with fail
                refine wp_region_held_drew (S := fun w' => w' = wb.drew) (by kernel_rfl) rfl (fun hHeld => ?_)
                refine wpAnyH_takeD (i := 0) (d := 129) (oi := _) (v := ?_) rfl rfl (by kernel_rfl) (by kernel_rfl) (by kernel_rfl) (fun _ _ _ h => h) (Or.inl ⟨by rfl, ?_⟩) (by assumption) ?_
                rotate_left
                · (intro w hSw; (try dsimp only at hSw); go_simp) <;> with_reducible rfl
                simp only [Act.put, List.setIfInBounds_toArray, List.set_cons_zero, List.set_cons_succ]
                refine wpAnyH_takeD (i := 1) (d := 130) (oi := _) (v := ?_) rfl rfl (by kernel_rfl) (by kernel_rfl) (by kernel_rfl) (fun _ _ _ h => h) (Or.inl ⟨by rfl, ?_⟩) (by assumption) ?_
                rotate_left
                · (intro w hSw; (try dsimp only at hSw); go_simp) <;> with_reducible rfl
                simp only [Act.put, List.setIfInBounds_toArray, List.set_cons_zero, List.set_cons_succ]
                refine wpAnyH_takeD (i := 2) (d := 131) (oi := _) (v := ?_) rfl rfl (by kernel_rfl) (by kernel_rfl) (by kernel_rfl) (fun _ _ _ h => h) (Or.inl ⟨by rfl, ?_⟩) (by assumption) ?_
                rotate_left
                · (intro w hSw; (try dsimp only at hSw); go_simp) <;> with_reducible rfl
                simp only [Act.put, List.setIfInBounds_toArray, List.set_cons_zero, List.set_cons_succ]
                refine wpAnyH_takeD (i := 3) (d := 132) (oi := _) (v := ?_) rfl rfl (by kernel_rfl) (by kernel_rfl) (by kernel_rfl) (fun _ _ _ h => h) (Or.inl ⟨by rfl, ?_⟩) (by assumption) ?_
                rotate_left
                · (intro w hSw; (try dsimp only at hSw); go_simp) <;> with_reducible rfl
                simp only [Act.put, List.setIfInBounds_toArray, List.set_cons_zero, List.set_cons_succ]
                refine wpAnyH_takeD (i := 4) (d := 133) (oi := _) (v := .agg (hs).toArray) rfl rfl (by kernel_rfl) (by kernel_rfl) (by kernel_rfl) (fun _ _ _ h => h) (yieldsIf_load_mid (by rfl) 37 (.tmp 132) rfl gq 0 rfl (hs) _ (fun w hw => by subst hw; exact HP6.out) Try.underlying37 rfl CQ.out.s37) (by assumption) ?_
                simp only [Act.put, List.setIfInBounds_toArray, List.set_cons_zero, List.set_cons_succ]
                refine wpAnyH_takeD (i := 5) (d := 134) (oi := _) (v := ?_) rfl rfl (by kernel_rfl) (by kernel_rfl) (by kernel_rfl) (fun _ _ _ h => h) (Or.inl ⟨by rfl, ?_⟩) (by assumption) ?_
                rotate_left
                · (intro w hSw; (try dsimp only at hSw); go_simp) <;> with_reducible rfl
                simp only [Act.put, List.setIfInBounds_toArray, List.set_cons_zero, List.set_cons_succ]
                refine wpAnyH_takeD (i := 6) (d := 135) (oi := _) (v := ?_) rfl rfl (by kernel_rfl) (by kernel_rfl) (by kernel_rfl) (fun _ _ _ h => h) (Or.inl ⟨by rfl, ?_⟩) (by assumption) ?_
                rotate_left
                · (intro w hSw; (try dsimp only at hSw); go_simp) <;> with_reducible rfl
                simp only [Act.put, List.setIfInBounds_toArray, List.set_cons_zero, List.set_cons_succ]
                refine wpAnyH_takeD (i := 7) (d := 136) (oi := _) (v := ?_) rfl rfl (by kernel_rfl) (by kernel_rfl) (by kernel_rfl) (fun _ _ _ h => h) (Or.inl ⟨by rfl, ?_⟩) (by assumption) ?_
                rotate_left
                · (intro w hSw; (try dsimp only at hSw); go_simp) <;> with_reducible rfl
                simp only [Act.put, List.setIfInBounds_toArray, List.set_cons_zero, List.set_cons_succ]
                refine wpAnyH_takeD (i := 8) (d := 137) (oi := _) (v := .agg (hs).toArray) rfl rfl (by kernel_rfl) (by kernel_rfl) (by kernel_rfl) (fun _ _ _ h => h) (yieldsIf_load_mid (by rfl) 37 (.tmp 136) rfl ga (q * 20) rfl (hs) _ (fun w hw => by subst hw; exact HR6.out) Try.underlying37 rfl CQ.out.s37) (by assumption) ?_
                simp only [Act.put, List.setIfInBounds_toArray, List.set_cons_zero, List.set_cons_succ]
                refine wpAnyH_takeD (i := 9) (d := 138) (oi := _) (v := ?_) rfl rfl (by kernel_rfl) (by kernel_rfl) (by kernel_rfl) (fun _ _ _ h => h) (Or.inl ⟨by rfl, ?_⟩) (by assumption) ?_
                rotate_left
                · (intro w hSw; (try dsimp only at hSw); go_simp) <;> with_reducible rfl
                simp only [Act.put, List.setIfInBounds_toArray, List.set_cons_zero, List.set_cons_succ]
                refine wpAnyH_takeD (i := 10) (d := 139) (oi := _) (v := ?_) rfl rfl (by kernel_rfl) (by kernel_rfl) (by kernel_rfl) (fun _ _ _ h => h) (Or.inl ⟨by rfl, ?_⟩) (by assumption) ?_
                rotate_left
                · (intro w hSw; (try dsimp only at hSw); go_simp) <;> with_reducible rfl
                simp only [Act.put, List.setIfInBounds_toArray, List.set_cons_zero, List.set_cons_succ]
                refine wpAnyH_takeD (i := 11) (d := 140) (oi := _) (v := ?_) rfl rfl (by kernel_rfl) (by kernel_rfl) (by kernel_rfl) (fun _ _ _ h => h) (Or.inl ⟨by rfl, ?_⟩) (by assumption) ?_
                rotate_left
                · (intro w hSw; (try dsimp only at hSw); go_simp) <;> with_reducible rfl
                simp only [Act.put, List.setIfInBounds_toArray, List.set_cons_zero, List.set_cons_succ]
                refine wpAnyH_takeD (i := 12) (d := 141) (oi := _) (v := ?_) rfl rfl (by kernel_rfl) (by kernel_rfl) (by kernel_rfl) (fun _ _ _ h => h) (Or.inl ⟨by rfl, ?_⟩) (by assumption) ?_
                rotate_left
                · (intro w hSw; (try dsimp only at hSw); go_simp) <;> with_reducible rfl
                simp only [Act.put, List.setIfInBounds_toArray, List.set_cons_zero, List.set_cons_succ]
                refine wpAnyH_takeD (i := 13) (d := 142) (oi := _) (v := ?_) rfl rfl (by kernel_rfl) (by kernel_rfl) (by kernel_rfl) (fun _ _ _ h => h) (Or.inl ⟨by rfl, ?_⟩) (by assumption) ?_
                rotate_left
                · (intro w hSw; (try dsimp only at hSw); go_simp) <;> with_reducible rfl
                simp only [Act.put, List.setIfInBounds_toArray, List.set_cons_zero, List.set_cons_succ]
                refine wpAnyH_takeD (i := 14) (d := 143) (oi := _) (v := ?_) rfl rfl (by kernel_rfl) (by kernel_rfl) (by kernel_rfl) (fun _ _ _ h => h) (Or.inl ⟨by rfl, ?_⟩) (by assumption) ?_
                rotate_left
                · (intro w hSw; (try dsimp only at hSw); go_simp) <;> with_reducible rfl
                simp only [Act.put, List.setIfInBounds_toArray, List.set_cons_zero, List.set_cons_succ]
                refine wpAnyH_takeD (i := 15) (d := 144) (oi := _) (v := ?_) rfl rfl (by kernel_rfl) (by kernel_rfl) (by kernel_rfl) (fun _ _ _ h => h) (Or.inl ⟨by rfl, ?_⟩) (by assumption) ?_
                rotate_left
                · (intro w hSw; (try dsimp only at hSw); go_simp) <;> with_reducible rfl
                simp only [Act.put, List.setIfInBounds_toArray, List.set_cons_zero, List.set_cons_succ]
                refine wpAnyH_takeD (i := 16) (d := 145) (oi := _) (v := ?_) rfl rfl (by kernel_rfl) (by kernel_rfl) (by kernel_rfl) (fun _ _ _ h => h) (Or.inl ⟨by rfl, ?_⟩) (by assumption) ?_
                rotate_left
                · (intro w hSw; (try dsimp only at hSw); go_simp) <;> with_reducible rfl
                simp only [Act.put, List.setIfInBounds_toArray, List.set_cons_zero, List.set_cons_succ]
                refine wpAnyH_takeD (i := 17) (d := 146) (oi := _) (v := ?_) rfl rfl (by kernel_rfl) (by kernel_rfl) (by kernel_rfl) (fun _ _ _ h => h) (Or.inl ⟨by rfl, ?_⟩) (by assumption) ?_
                rotate_left
                · (intro w hSw; (try dsimp only at hSw); go_simp) <;> with_reducible rfl
                simp only [Act.put, List.setIfInBounds_toArray, List.set_cons_zero, List.set_cons_succ]
                refine wpAnyH_takeD (i := 18) (d := 147) (oi := _) (v := ?_) rfl rfl (by kernel_rfl) (by kernel_rfl) (by kernel_rfl) (fun _ _ _ h => h) (Or.inl ⟨by rfl, ?_⟩) (by assumption) ?_
                rotate_left
                · (intro w hSw; (try dsimp only at hSw); go_simp) <;> with_reducible rfl
                simp only [Act.put, List.setIfInBounds_toArray, List.set_cons_zero, List.set_cons_succ]
                refine wpAnyH_takeD (i := 19) (d := 148) (oi := _) (v := ?_) rfl rfl (by kernel_rfl) (by kernel_rfl) (by kernel_rfl) (fun _ _ _ h => h) (Or.inl ⟨by rfl, ?_⟩) (by assumption) ?_
                rotate_left
                · (intro w hSw; (try dsimp only at hSw); go_simp) <;> with_reducible rfl
                simp only [Act.put, List.setIfInBounds_toArray, List.set_cons_zero, List.set_cons_succ]
                refine wpAnyH_takeD (i := 20) (d := 149) (oi := _) (v := ?_) rfl rfl (by kernel_rfl) (by kernel_rfl) (by kernel_rfl) (fun _ _ _ h => h) (Or.inl ⟨by rfl, ?_⟩) (by assumption) ?_
                rotate_left
                · (intro w hSw; (try dsimp only at hSw); go_simp) <;> with_reducible rfl
                simp only [Act.put, List.setIfInBounds_toArray, List.set_cons_zero, List.set_cons_succ]
                refine wpAnyH_done (by kernel_rfl) ?_ _
                go_wp2_with fail
                exact ⟨⟨q + 1, by omega, congrArg (Value.int .i64) (by omega), HB7.out, HL7.out⟩, by simp [intOf]; omega⟩
              · have e1 : decide ((q : Int) < ((M2 : Nat) : Int)) = false := by simp; omega
                have HS9 := Lib.hid (show OnceS w g mb (I + 1) (.slice A2 (M2) c2) wr from ⟨⟨n2, l2, v6, A2, c2, HNI2.out, by have := HLE2.out; have := HMI2.out; omega, HND2.out, by rw [HLE2.out], by rw [HLE2.out]; exact HC2.out, by rw [HLE2.out]; exact HBQ.out⟩, HLQ.out⟩)
                go_wp2_with fail
                exact ⟨⟨I + 1, by have := HLT.out; omega, by have := HLT2.out; omega, congrArg (Value.int .i64) (by omega), HS9.out⟩, by simp [intOf]; have := HLT2.out; omega⟩
      · have d2 : decide ((I : Int) < 150) = false := by simp; omega
        go_wp2_with fail
        refine (HAW.out wr).mono ?_
        rintro e w2 ⟨rfl, hb2⟩
        have HB2 := Lib.hid (HLOW.out.trans (hb2.mono HLOW.out.size))
        clear hb2
        go_wp2_with fail
        go_ret
        exact ⟨rfl, HB2.out⟩
    · have d1 : decide ((I : Int) < (LL : Int)) = false := by simp; omega
      go_wp2_with fail
      refine (HAW.out wr).mono ?_
      rintro e w2 ⟨rfl, hb2⟩
      have HB2 := Lib.hid (HLOW.out.trans (hb2.mono HLOW.out.size))
      clear hb2
      go_wp2_with fail
      go_ret
      exact ⟨rfl, HB2.out⟩
theorem onceI_raw {H : Type} {enc : TypeId × Value → H} {base : Nat} {d : DataW H} {ps : List MemPlace} (v : Value) (w : World) (hv : Value.okWide Try.prog w .any base 25 v) (hk : DataW.Trod enc Try.prog w 0 (fun _ => true) true 25 v d ps) :
    Calls Try.prog 7 #[v] w fun e w' => e = .returned (.bool true) ∧ Below w.heap.size w w' := by
  obtain ⟨bs, A, c, rfl, h1, h2, h3, h4⟩ := open_nums hv hk
  exact (onceI_law bs A c w h1 h2 h3 h4).mono fun e w' h => ⟨h.ret, h.low⟩
end Go.Proofs.Ytjcaahilgobfhaa
