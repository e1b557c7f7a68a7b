/- The index: the document's Find. -/
import Derived.Test.YtjcaahilgobfhaaIxRf
namespace Go.Proofs.Ytjcaahilgobfhaa
open Go.RowKit Go.WideShapes Go.Maps
set_option linter.unusedVariables false
set_option linter.unusedSimpArgs false
theorem findP_at (l : List Pc) (h : List Int) (k : Nat) (p : Pc) (hp : l[k]? = some p) (he : p.h = h) (hno : ∀ j q, j < k → l[j]? = some q → q.h ≠ h) : findP l h = some (k + 1) := by
  have hk := (List.getElem?_eq_some_iff.1 hp).1
  have hpe : l[k] = p := (List.getElem?_eq_some_iff.1 hp).2
  unfold findP
  have : l.findIdx? (fun q => q.h == h) = some k := by
    rw [List.findIdx?_eq_some_iff_getElem]
    refine ⟨hk, by simp [hpe, he], fun j hj => ?_⟩
    simp only [Bool.not_eq_true, beq_eq_false_iff_ne]
    exact hno j _ hj (List.getElem?_eq_getElem (by omega))
  rw [this]
  rfl
theorem findP_no (l : List Pc) (h : List Int) (hno : ∀ j q, j < l.length → l[j]? = some q → q.h ≠ h) : findP l h = none := by
  unfold findP
  rw [Option.map_eq_none_iff, List.findIdx?_eq_none_iff]
  intro q hq
  obtain ⟨j, hj, he⟩ := List.getElem_of_mem hq
  simp only [beq_eq_false_iff_ne]
  exact hno j q hj (by rw [List.getElem?_eq_getElem hj, he])
theorem rowp_at {B n c : Nat} {w : World} {A : Option Addr} {xs : List Value} (h : RowP B w (.slice A n c) n xs) (h0 : 0 < n) : ∃ g, A = some ⟨g, 0, none⟩ := by
  rcases h with h | ⟨gl, cur, hv, hB, hm', hl, hb, ht⟩
  · rcases h.2 with ⟨h1, h2⟩ | ⟨g', cap, cur, hv, _⟩
    · omega
    · injection hv with hv; exact ⟨g', hv⟩
  · injection hv with hv; exact ⟨gl, hv⟩
set_option maxHeartbeats 1000000 in
theorem refFind_any {B : Nat} {l : List Pc} {A : Option Addr} {M c : Nat} (h : List Int) (w : World) (ho : RowP B w (.slice A M c) M (flatP l)) (oks : ∀ p ∈ l, p.ok) (hM : l.length = M) (hm : M ≤ 8192) (hh : IsHash h) :
    Calls Try.prog 31 #[.slice A M c, .agg (hashV h).toArray] w (Found (findP l h) w) := by
  have hal := (Below.refl w.heap.size w).alloc (Nat.le_refl _) (.cells (hashV h).toArray 37)
  have hbk := Blk.new w 37 (hashV h).toArray
  have hsh : (Try.prog.info? 37).map (·.size) = some (hashV h).length := by rw [hashV_length, hh.len]; exact size37
  have hno0 : ∀ j q, j < 0 → l[j]? = some q → q.h ≠ h := fun j q hj => by omega
  have HAL := Lib.hid hal
  have HBK := Lib.hid hbk
  have HSH := Lib.hid hsh
  have HRO := Lib.hid (ho.below hal)
  have HOK := Lib.hid oks
  have HM := Lib.hid hM
  have HHH := Lib.hid hh
  have HNO := Lib.hid hno0
  clear hal hbk hsh ho oks hM hno0
  go_enter Try.func31, Try.ntmps31
  go_wp2_with fail
  go_loopw [6] (fun i wr => ∃ k : Nat, k ≤ M ∧ i = .int .i64 k ∧ (∀ j q, j < k → l[j]? = some q → q.h ≠ h) ∧ RowP B wr (.slice A M c) M (flatP l) ∧ Blk wr w.heap.size 37 (hashV h).toArray ∧ Below w.heap.size w wr) (fun i _ => M - (intOf i).toNat)
  case atStart => exact ⟨0, by omega, rfl, HNO.out, HRO.out, HBK.out, HAL.out⟩
  case round =>
    obtain ⟨k, hk, rfl, hnk, hro, hbk, hlow⟩ := hrel
    by_cases hlt : k < M
    · obtain ⟨p, hp⟩ : ∃ p, l[k]? = some p := ⟨_, List.getElem?_eq_getElem (by rw [HM.out]; exact hlt)⟩
      have hpo := HOK.out p (List.mem_of_getElem? hp)
      obtain ⟨ga, rfl⟩ := rowp_at hro (by omega)
      have hrg : wr.rangeAt ga (k * 23) (hashV p.h) := fun jj y hy => by
        have h1 := flatP_at l HOK.out k p hp jj y (by unfold Pc.cells; rw [List.getElem?_append_left (List.getElem?_eq_some_iff.1 hy).1]; exact hy)
        rw [show k * 23 + jj = 23 * k + jj by omega]
        exact hro.cell _ _ h1
      have hsp : (Try.prog.info? 37).map (·.size) = some (hashV p.h).length := by rw [hashV_length, hpo.h.len]; exact size37
      have hrb : wr.rangeAt w.heap.size 0 (hashV h) := fun jj y hy => by rw [Nat.zero_add, hbk.cell, List.getElem?_toArray]; exact hy
      obtain ⟨r, hr⟩ : ∃ r : Bool, (∀ W : World, (Op.equalIn 10000 37 (.agg (hashV p.h).toArray) (.agg (hashV h).toArray)).run Try.prog W = .ok r W) ∧ (r = true ↔ p.h = h) := by
        by_cases e : p.h = h
        · exact ⟨true, fun W => by rw [e]; exact eqH_same h HHH.out W, by simp [e]⟩
        · refine ⟨false, fun W => ?_, by simp [e]⟩
          obtain ⟨r, h1, h2⟩ := eqH p.h h hpo.h HHH.out W
          cases r with
          | false => exact h1
          | true => exact absurd (h2.1 rfl) e
      have heq := hr.1
      have HR := Lib.hid hr.2
      have HRG := Lib.hid hrg
      have HRB := Lib.hid hrb
      have HSP := Lib.hid hsp
      have HNK := Lib.hid hnk
      have HRO2 := Lib.hid hro
      have HBK2 := Lib.hid hbk
      have HLOW := Lib.hid hlow
      have HP := Lib.hid hp
      have hkI : (k : Int) < M := by omega
      clear hr hrg hrb hsp hnk hro hbk hlow hp hpo
      generalize hps : hashV p.h = hs at *
      generalize hhs : hashV h = ht at *
      go_wp2_with fail
      refine wp_region_held_drew (S := fun w' => w' = wr.drew) (by kernel_rfl) rfl (fun hHeld => ?_)
      refine wpAnyH_takeD (i := 0) (d := 13) (oi := _) (v := ?_) rfl rfl (by kernel_rfl) (by kernel_rfl) (by kernel_rfl) (fun _ _ _ h => h) (Or.inl ⟨by rfl, ?_⟩) (by assumption) ?_
      rotate_left
      · (intro w hSw; (try dsimp only at hSw); go_simp) <;> with_reducible rfl
      simp only [Act.put, List.setIfInBounds_toArray, List.set_cons_zero, List.set_cons_succ]
      refine wpAnyH_takeD (i := 1) (d := 14) (oi := _) (v := ?_) rfl rfl (by kernel_rfl) (by kernel_rfl) (by kernel_rfl) (fun _ _ _ h => h) (Or.inl ⟨by rfl, ?_⟩) (by assumption) ?_
      rotate_left
      · (intro w hSw; (try dsimp only at hSw); go_simp) <;> with_reducible rfl
      simp only [Act.put, List.setIfInBounds_toArray, List.set_cons_zero, List.set_cons_succ]
      refine wpAnyH_takeD (i := 2) (d := 15) (oi := _) (v := ?_) rfl rfl (by kernel_rfl) (by kernel_rfl) (by kernel_rfl) (fun _ _ _ h => h) (Or.inl ⟨by rfl, ?_⟩) (by assumption) ?_
      rotate_left
      · (intro w hSw; (try dsimp only at hSw); go_simp) <;> with_reducible rfl
      simp only [Act.put, List.setIfInBounds_toArray, List.set_cons_zero, List.set_cons_succ]
      refine wpAnyH_takeD (i := 3) (d := 16) (oi := _) (v := ?_) rfl rfl (by kernel_rfl) (by kernel_rfl) (by kernel_rfl) (fun _ _ _ h => h) (Or.inl ⟨by rfl, ?_⟩) (by assumption) ?_
      rotate_left
      · (intro w hSw; (try dsimp only at hSw); go_simp) <;> with_reducible rfl
      simp only [Act.put, List.setIfInBounds_toArray, List.set_cons_zero, List.set_cons_succ]
      refine wpAnyH_takeD (i := 4) (d := 17) (oi := _) (v := .agg (hs).toArray) rfl rfl (by kernel_rfl) (by kernel_rfl) (by kernel_rfl) (fun _ _ _ h => h) (yieldsIf_load_mid (by rfl) 37 (.tmp 16) rfl ga (k * 23) rfl (hs) _ (fun w hw => by subst hw; exact HRG.out) Try.underlying37 rfl HSP.out) (by assumption) ?_
      simp only [Act.put, List.setIfInBounds_toArray, List.set_cons_zero, List.set_cons_succ]
      refine wpAnyH_takeD (i := 5) (d := 18) (oi := _) (v := .agg (ht).toArray) rfl rfl (by kernel_rfl) (by kernel_rfl) (by kernel_rfl) (fun _ _ _ h => h) (yieldsIf_load_mid (by rfl) 37 (.tmp 3) rfl w.heap.size 0 rfl (ht) _ (fun w hw => by subst hw; exact HRB.out) Try.underlying37 rfl HSH.out) (by assumption) ?_
      simp only [Act.put, List.setIfInBounds_toArray, List.set_cons_zero, List.set_cons_succ]
      refine wpAnyH_takeD (i := 6) (d := 19) (oi := _) (v := ?_) rfl rfl (by kernel_rfl) (by kernel_rfl) (by kernel_rfl) (fun _ _ _ h => h) (Or.inl ⟨by rfl, ?_⟩) (by assumption) ?_
      rotate_left
      · (intro w hSw; (try dsimp only at hSw); go_simp) <;> with_reducible rfl
      simp only [Act.put, List.setIfInBounds_toArray, List.set_cons_zero, List.set_cons_succ]
      refine wpAnyH_done (by kernel_rfl) ?_ _
      have HB9 := Lib.hid HLOW.out.drew
      have hwk : wrap64 ((k : Int) + 1) = (k : Int) + 1 := by unfold wrap64; omega
      rcases r with _ | _
      · have hne : p.h ≠ h := fun e => by have := HR.out.2 e; cases this
        have HNE := Lib.hid hne
        clear hne
        go_wp2_with fail
        refine ⟨⟨k + 1, by omega, congrArg (Value.int .i64) (by omega), fun j q hj hq => ?_, HRO2.out.below ((Below.refl wr.heap.size wr).drew), HBK2.out, HB9.out⟩, by simp [intOf]; omega⟩
        rcases Nat.lt_or_ge j k with h1 | h1
        · exact HNK.out j q h1 hq
        · obtain rfl : j = k := by omega
          rw [HP.out] at hq
          injection hq with hq
          subst hq
          exact HNE.out
      · have HFN := Lib.hid (findP_at l h k p HP.out (HR.out.1 rfl) HNK.out)
        go_wp2_with fail
        exact bodyPost_ret (v := .tuple #[.int .i64 ((k : Int) + 1), .bool true]) (by simp [results, Try.results31, go_sem]) rfl ⟨by rw [HFN.out]; rfl, HB9.out⟩
    · have hkM : k = M := by omega
      have HFN := Lib.hid (findP_no l h (by rw [HM.out, ← hkM]; exact hnk))
      have HLOW := Lib.hid hlow
      clear hnk hro hbk hlow
      go_wp2_with fail
      exact bodyPost_ret (v := .tuple #[.int .i64 0, .bool false]) (by simp [results, Try.results31, go_sem]) rfl ⟨by rw [HFN.out]; rfl, HLOW.out⟩
end Go.Proofs.Ytjcaahilgobfhaa
