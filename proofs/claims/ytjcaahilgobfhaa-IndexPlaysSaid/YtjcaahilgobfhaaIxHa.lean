/- The index: has. -/
import Derived.Test.YtjcaahilgobfhaaIxCp
namespace Go.Proofs.Ytjcaahilgobfhaa
open Go.RowKit Go.WideShapes Go.Maps
set_option linter.unusedVariables false
set_option linter.unusedSimpArgs false
set_option maxHeartbeats 4000000 in
theorem has_any {B g mb n : Nat} {l : List Pc} {v : Value} {A : Option Addr} {M c : Nat} (x : Int) (w : World) (hi : Idx B w g mb n l v) (hr : RowP B w (.slice A M c) M (flatP l)) (hM : l.length = M) (hm : M ≤ 100) (rt : ∀ p ∈ l, rightP p.s p.b p.a = true) :
    Calls Try.prog 32 #[.pointer (some ⟨g, 0, none⟩), .slice A M c, .int .i64 x] w (Quiet (.bool true) w) := by
  have hrnd : ∀ (wr : World) (q : Nat), Idx B wr g mb n l v → RowP B wr (.slice A M c) M (flatP l) → q < M → ∃ (ps hs : List Value) (ga : Nat), A = some ⟨ga, 0, none⟩ ∧ CellsOf ps hs ∧ (∀ W : World, (Op.equalIn 10000 39 (.agg ps.toArray) (.agg ps.toArray)).run Try.prog W = .ok true W) ∧ Calls Try.prog 27 #[.pointer (some ⟨g, 0, none⟩), .int .i64 ((q : Int) + 1)] wr (Quiet (.tuple #[.agg ps.toArray, .bool true]) wr) ∧
      ∀ W : World, Below wr.heap.size wr W → Idx B W g mb n l v ∧ RowP B W (.slice A M c) M (flatP l) ∧ W.rangeAt ga (q * 23) ps := fun wr q hi hr hq => by
    obtain ⟨p, hp⟩ : ∃ p, l[q]? = some p := ⟨_, List.getElem?_eq_getElem (by omega)⟩
    have hpo := hi.oks p (List.mem_of_getElem? hp)
    obtain ⟨ga, hA⟩ := rowp_at hr (by omega)
    refine ⟨p.cells, hashV p.h, ga, hA, cellsOf p hpo, fun W => eqP_same p hpo (rt p (List.mem_of_getElem? hp)) W, at_in q wr hi p hp (by omega), fun W hW => ⟨hi.below hW, hr.below hW, fun j y hy => ?_⟩⟩
    have h1 := flatP_at l hi.oks q p hp j y hy
    rw [show q * 23 + j = 23 * q + j by omega]
    have h2 := hr.below hW
    rw [hA] at h2
    exact h2.cell _ _ h1
  have ho1 := fun (W : World) (h : Idx B W g mb n l v) => at_out ((M : Int) + 1) W h (.inr (by omega))
  have hM1 : wrap64 ((M : Int) + 1) = (M : Int) + 1 := by unfold wrap64; omega
  have hxx : (1 ≤ x ∧ x ≤ (M : Int) ∧ ∃ ps : List Value, ((Try.prog.info? 39).map (·.size) = some ps.toArray.size ∧ 23 = ps.toArray.size ∧ ps.toArray.all (·.oneCell') = true) ∧ ∀ W : World, Idx B W g mb n l v → Calls Try.prog 27 #[.pointer (some ⟨g, 0, none⟩), .int .i64 x] W (Quiet (.tuple #[.agg ps.toArray, .bool true]) W)) ∨
      ((x < 1 ∨ (M : Int) < x) ∧ ∀ W : World, Idx B W g mb n l v → Calls Try.prog 27 #[.pointer (some ⟨g, 0, none⟩), .int .i64 x] W (Quiet (.tuple #[.agg zeroA, .bool false]) W)) := by
    by_cases h : 1 ≤ x ∧ x ≤ (M : Int)
    · refine .inl ⟨h.1, h.2, ?_⟩
      obtain ⟨k, hk⟩ : ∃ k : Nat, x = (k : Int) + 1 := ⟨(x - 1).toNat, by omega⟩
      obtain ⟨p, hp⟩ : ∃ p, l[k]? = some p := ⟨_, List.getElem?_eq_getElem (by omega)⟩
      have hcs := cellsOf p (hi.oks p (List.mem_of_getElem? hp))
      refine ⟨p.cells, ⟨hcs.a39, hcs.z39, hcs.one⟩, fun W hW => ?_⟩
      rw [hk]
      exact at_in k W hW p hp (by omega)
    · exact .inr ⟨by omega, fun W hW => at_out x W hW (by omega)⟩
  have HRND := Lib.hid hrnd
  have HO1 := Lib.hid ho1
  have HXX := Lib.hid hxx
  have HI0 := Lib.hid hi
  have HR0 := Lib.hid hr
  clear hrnd ho1 hxx hi hr rt hM
  go_enter Try.func32, Try.ntmps32
  go_wp2_with fail
  go_loopw [7] (fun i wr => ∃ q : Nat, q ≤ M ∧ i = .int .i64 q ∧ Idx B wr g mb n l v ∧ RowP B wr (.slice A M c) M (flatP l) ∧ Below w.heap.size w wr) (fun i _ => M - (intOf i).toNat)
  case atStart => exact ⟨0, by omega, rfl, HI0.out, HR0.out, Below.refl _ _⟩
  case round =>
    obtain ⟨q, hq, rfl, hi, hr, hlow⟩ := hrel
    have HI := Lib.hid hi
    have HR := Lib.hid hr
    have HLOW := Lib.hid hlow
    clear hi hr hlow
    by_cases hqM : q < M
    · have e1 : decide ((q : Int) < (M : Int)) = true := by simp; omega
      have hqI : (q : Int) < (M : Int) := by omega
      have hq151 : q < 151 := by omega
      obtain ⟨ps, hs, ga, hA, hcs, heq, hat, hlat⟩ := HRND.out wr q HI.out HR.out hqM
      subst hA
      have CQ := Lib.hid hcs
      have HAT := Lib.hid hat
      have HLAT := Lib.hid hlat
      clear hcs hat hlat
      go_wp2_with fail
      refine (HAT.out).mono ?_
      rintro e wa ⟨rfl, hba⟩
      have hbn := hba.trans ((Below.refl wa.heap.size wa).alloc (Nat.le_refl _) (.cells ps.toArray 39) |>.mono hba.size)
      obtain ⟨hi2, hr2, hrg⟩ := HLAT.out _ hbn
      have HIA := Lib.hid hi2
      have HRA := Lib.hid hr2
      have HRG := Lib.hid hrg
      have HLA := Lib.hid (HLOW.out.trans (hbn.mono HLOW.out.size))
      have hgb : (wa.alloc (.cells ps.toArray 39)).rangeAt wa.heap.size 0 ps := fun j y hy => by
        rw [Nat.zero_add, (Blk.new wa 39 ps.toArray).cell, List.getElem?_toArray]; exact hy
      have HGB := Lib.hid hgb
      clear hba hbn hi2 hr2 hrg hgb
      go_wp2_with (refine wpList_store_row rfl 39 (.tmp 8) (.tmp 25) rfl wa.heap.size ps.toArray rfl rfl 39 _ (heap_alloc_new _ _) CQ.out.a39 CQ.out.z39 CQ.out.one ?_; rw [World.setRow_alloc_new])
      obtain ⟨gq, hgq⟩ : ∃ gq, wa.heap.size = gq := ⟨_, rfl⟩
      rw [hgq] at HGB ⊢
      generalize wa.alloc (.cells ps.toArray 39) = Wa at HIA HRA HRG HLA HGB ⊢
      clear hgq
      refine wp_region_held_drew (S := fun w' => w' = Wa.drew) (by kernel_rfl) rfl (fun hHeld => ?_)
      refine wpAnyH_takeD (i := 0) (d := 27) (oi := _) (v := ?_) rfl rfl (by kernel_rfl) (by kernel_rfl) (by kernel_rfl) (fun _ _ _ h => h) (Or.inl ⟨by rfl, ?_⟩) (by assumption) ?_
      rotate_left
      · (intro w hSw; (try dsimp only at hSw); go_simp) <;> with_reducible rfl
      simp only [Act.put, List.setIfInBounds_toArray, List.set_cons_zero, List.set_cons_succ]
      refine wpAnyH_takeD (i := 1) (d := 28) (oi := _) (v := ?_) rfl rfl (by kernel_rfl) (by kernel_rfl) (by kernel_rfl) (fun _ _ _ h => h) (Or.inl ⟨by rfl, ?_⟩) (by assumption) ?_
      rotate_left
      · (intro w hSw; (try dsimp only at hSw); go_simp) <;> with_reducible rfl
      simp only [Act.put, List.setIfInBounds_toArray, List.set_cons_zero, List.set_cons_succ]
      refine wpAnyH_takeD (i := 2) (d := 29) (oi := _) (v := ?_) rfl rfl (by kernel_rfl) (by kernel_rfl) (by kernel_rfl) (fun _ _ _ h => h) (Or.inl ⟨by rfl, ?_⟩) (by assumption) ?_
      rotate_left
      · (intro w hSw; (try dsimp only at hSw); go_simp) <;> with_reducible rfl
      simp only [Act.put, List.setIfInBounds_toArray, List.set_cons_zero, List.set_cons_succ]
      refine wpAnyH_takeD (i := 3) (d := 30) (oi := _) (v := .agg (ps).toArray) rfl rfl (by kernel_rfl) (by kernel_rfl) (by kernel_rfl) (fun _ _ _ h => h) (yieldsIf_load_mid (by rfl) 39 (.tmp 8) rfl gq 0 rfl (ps) _ (fun w hw => by subst hw; exact HGB.out) Try.underlying39 rfl CQ.out.s39) (by assumption) ?_
      simp only [Act.put, List.setIfInBounds_toArray, List.set_cons_zero, List.set_cons_succ]
      refine wpAnyH_takeD (i := 4) (d := 31) (oi := _) (v := ?_) rfl rfl (by kernel_rfl) (by kernel_rfl) (by kernel_rfl) (fun _ _ _ h => h) (Or.inl ⟨by rfl, ?_⟩) (by assumption) ?_
      rotate_left
      · (intro w hSw; (try dsimp only at hSw); go_simp) <;> with_reducible rfl
      simp only [Act.put, List.setIfInBounds_toArray, List.set_cons_zero, List.set_cons_succ]
      refine wpAnyH_takeD (i := 5) (d := 32) (oi := _) (v := ?_) rfl rfl (by kernel_rfl) (by kernel_rfl) (by kernel_rfl) (fun _ _ _ h => h) (Or.inl ⟨by rfl, ?_⟩) (by assumption) ?_
      rotate_left
      · (intro w hSw; (try dsimp only at hSw); go_simp) <;> with_reducible rfl
      simp only [Act.put, List.setIfInBounds_toArray, List.set_cons_zero, List.set_cons_succ]
      refine wpAnyH_takeD (i := 6) (d := 33) (oi := _) (v := ?_) rfl rfl (by kernel_rfl) (by kernel_rfl) (by kernel_rfl) (fun _ _ _ h => h) (Or.inl ⟨by rfl, ?_⟩) (by assumption) ?_
      rotate_left
      · (intro w hSw; (try dsimp only at hSw); go_simp) <;> with_reducible rfl
      simp only [Act.put, List.setIfInBounds_toArray, List.set_cons_zero, List.set_cons_succ]
      refine wpAnyH_takeD (i := 7) (d := 34) (oi := _) (v := .agg (ps).toArray) rfl rfl (by kernel_rfl) (by kernel_rfl) (by kernel_rfl) (fun _ _ _ h => h) (yieldsIf_load_mid (by rfl) 39 (.tmp 33) rfl ga (q * 23) rfl (ps) _ (fun w hw => by subst hw; exact HRG.out) Try.underlying39 rfl CQ.out.s39) (by assumption) ?_
      simp only [Act.put, List.setIfInBounds_toArray, List.set_cons_zero, List.set_cons_succ]
      refine wpAnyH_takeD (i := 8) (d := 35) (oi := _) (v := ?_) rfl rfl (by kernel_rfl) (by kernel_rfl) (by kernel_rfl) (fun _ _ _ h => h) (Or.inl ⟨by rfl, ?_⟩) (by assumption) ?_
      rotate_left
      · (intro w hSw; (try dsimp only at hSw); go_simp) <;> with_reducible rfl
      simp only [Act.put, List.setIfInBounds_toArray, List.set_cons_zero, List.set_cons_succ]
      refine wpAnyH_takeD (i := 9) (d := 36) (oi := _) (v := ?_) rfl rfl (by kernel_rfl) (by kernel_rfl) (by kernel_rfl) (fun _ _ _ h => h) (Or.inl ⟨by rfl, ?_⟩) (by assumption) ?_
      rotate_left
      · (intro w hSw; (try dsimp only at hSw); go_simp) <;> with_reducible rfl
      simp only [Act.put, List.setIfInBounds_toArray, List.set_cons_zero, List.set_cons_succ]
      refine wpAnyH_done (by kernel_rfl) ?_ _
      have HI7 := Lib.hid (show Idx B Wa.drew g mb n l v from HIA.out.below ((Below.refl Wa.heap.size Wa).drew))
      have HR7 := Lib.hid (show RowP B Wa.drew (.slice (some ⟨ga, 0, none⟩) M c) M (flatP l) from HRA.out.below ((Below.refl Wa.heap.size Wa).drew))
      have HL7 := Lib.hid HLA.out.drew
      go_wp2_with fail
      exact ⟨⟨q + 1, by omega, congrArg (Value.int .i64) (by omega), HI7.out, HR7.out, HL7.out⟩, by simp [intOf]; omega⟩
    · have e1 : decide ((q : Int) < (M : Int)) = false := by simp; omega
      rcases HXX.out with ⟨hx1, hx2, hxi⟩ | ⟨hx1, hxo⟩
      · have HXI := Lib.hid hxi
        have d1 : decide (1 ≤ x) = true := by simp; omega
        have d2 : decide (x ≤ (M : Int)) = true := by simp; omega
        clear hxi
        go_wp2_with fail
        refine (HO1.out wr HI.out).mono ?_
        rintro e wa ⟨rfl, hba⟩
        have hbn := hba.trans ((Below.refl wa.heap.size wa).alloc (Nat.le_refl _) (.cells zeroA 39) |>.mono hba.size)
        have HIA := Lib.hid (HI.out.below hbn)
        have HLA := Lib.hid (HLOW.out.trans (hbn.mono HLOW.out.size))
        clear hba hbn
        go_wp2_with (refine wpList_store_row rfl 39 (.tmp 10) (.tmp 43) rfl wa.heap.size zeroA rfl rfl 39 zeroA (heap_alloc_new _ _) zeroA_info rfl (by kernel_rfl) ?_; rw [World.setRow_alloc_new])
        obtain ⟨ps, hcs, hat⟩ := HXI.out
        have CX := Lib.hid hcs
        have HAT := Lib.hid hat
        clear hcs hat
        generalize wa.alloc (.cells zeroA 39) = Wa at HIA HLA ⊢
        refine (HAT.out Wa HIA.out).mono ?_
        rintro e wb ⟨rfl, hbb⟩
        have HLB := Lib.hid ((HLA.out.trans (hbb.mono HLA.out.size)).alloc (HLA.out.trans (hbb.mono HLA.out.size)).size (.cells ps.toArray 39))
        clear hbb
        go_wp2_with (refine wpList_store_row rfl 39 (.tmp 12) (.tmp 49) rfl wb.heap.size ps.toArray rfl rfl 39 _ (heap_alloc_new _ _) CX.out.1 CX.out.2.1 CX.out.2.2 ?_; rw [World.setRow_alloc_new])
        go_ret
        exact ⟨rfl, HLB.out⟩

      · have HXO := Lib.hid hxo
        clear hxo
        by_cases h1 : 1 ≤ x
        · have d1 : decide (1 ≤ x) = true := by simp; omega
          have d2 : decide (x ≤ (M : Int)) = false := by simp; omega
          go_wp2_with fail
          refine (HO1.out wr HI.out).mono ?_
          rintro e wa ⟨rfl, hba⟩
          have hbn := hba.trans ((Below.refl wa.heap.size wa).alloc (Nat.le_refl _) (.cells zeroA 39) |>.mono hba.size)
          have HIA := Lib.hid (HI.out.below hbn)
          have HLA := Lib.hid (HLOW.out.trans (hbn.mono HLOW.out.size))
          clear hba hbn
          go_wp2_with (refine wpList_store_row rfl 39 (.tmp 10) (.tmp 43) rfl wa.heap.size zeroA rfl rfl 39 zeroA (heap_alloc_new _ _) zeroA_info rfl (by kernel_rfl) ?_; rw [World.setRow_alloc_new])
          generalize wa.alloc (.cells zeroA 39) = Wa at HIA HLA ⊢
          refine (HXO.out Wa HIA.out).mono ?_
          rintro e wb ⟨rfl, hbb⟩
          have HLB := Lib.hid ((HLA.out.trans (hbb.mono HLA.out.size)).alloc (HLA.out.trans (hbb.mono HLA.out.size)).size (.cells zeroA 39))
          clear hbb
          go_wp2_with (refine wpList_store_row rfl 39 (.tmp 12) (.tmp 49) rfl wb.heap.size zeroA rfl rfl 39 zeroA (heap_alloc_new _ _) zeroA_info rfl (by kernel_rfl) ?_; rw [World.setRow_alloc_new])
          go_ret
          exact ⟨rfl, HLB.out⟩

        · have d1 : decide (1 ≤ x) = false := by simp; omega
          go_wp2_with fail
          refine (HO1.out wr HI.out).mono ?_
          rintro e wa ⟨rfl, hba⟩
          have hbn := hba.trans ((Below.refl wa.heap.size wa).alloc (Nat.le_refl _) (.cells zeroA 39) |>.mono hba.size)
          have HIA := Lib.hid (HI.out.below hbn)
          have HLA := Lib.hid (HLOW.out.trans (hbn.mono HLOW.out.size))
          clear hba hbn
          go_wp2_with (refine wpList_store_row rfl 39 (.tmp 10) (.tmp 43) rfl wa.heap.size zeroA rfl rfl 39 zeroA (heap_alloc_new _ _) zeroA_info rfl (by kernel_rfl) ?_; rw [World.setRow_alloc_new])
          generalize wa.alloc (.cells zeroA 39) = Wa at HIA HLA ⊢
          refine (HXO.out Wa HIA.out).mono ?_
          rintro e wb ⟨rfl, hbb⟩
          have HLB := Lib.hid ((HLA.out.trans (hbb.mono HLA.out.size)).alloc (HLA.out.trans (hbb.mono HLA.out.size)).size (.cells zeroA 39))
          clear hbb
          go_wp2_with (refine wpList_store_row rfl 39 (.tmp 12) (.tmp 49) rfl wb.heap.size zeroA rfl rfl 39 zeroA (heap_alloc_new _ _) zeroA_info rfl (by kernel_rfl) ?_; rw [World.setRow_alloc_new])
          go_ret
          exact ⟨rfl, HLB.out⟩

end Go.Proofs.Ytjcaahilgobfhaa
