/- The index: Copy. -/
import Derived.Test.YtjcaahilgobfhaaIxRa
import Derived.Shelf.SlMaps.Clone
namespace Go.Proofs.Ytjcaahilgobfhaa
open Go.RowKit Go.WideShapes Go.Maps
set_option linter.unusedVariables false
set_option linter.unusedSimpArgs false
theorem slice_nil (A : Option Addr) (n c : Nat) (W : World) : (binOp .eql 41 (.slice A n c) (.slice none 0 0)).run Try.prog W = .ok (.bool A.isNone) W := by
  simp only [binOp]
  simp [run_equal_slice_nil W 41 39 A n c Try.underlying41]
structure NewRow (xs : List Value) (m : Nat) (w0 : World) (e : Ending) (w : World) : Prop where
  ex : ∃ u, e = .returned u ∧ w.ownsRow w0.heap.size 39 23 u m xs
  low : Below w0.heap.size w0 w
set_option maxHeartbeats 1000000 in
theorem clone_row {B : Nat} {l : List Pc} {A : Option Addr} {M c : Nat} (w : World) (ho : RowP B w (.slice A M c) M (flatP l)) (hm : M ≤ 8192) : Calls Try.prog 43 #[.slice A M c] w (NewRow (flatP l) M w) := by
  have hsn := slice_nil
  have hlen := ho.len
  have hsrc := rowp_src' (ho.below ((Below.refl w.heap.size w).alloc (Nat.le_refl _) (.cells #[] 39)))
  have hone := flatP_one l
  rcases rowp_addr ho with rfl | ⟨g, rfl⟩
  · obtain ⟨rfl, rfl⟩ := rowp_none ho
    have hxs : flatP l = [] := List.eq_nil_of_length_eq_zero (by rw [hlen])
    rw [hxs]
    clear ho hlen hsrc hone hxs
    go_enter Try.func43, Try.ntmps43
    go_wp2
    go_ret
    exact ⟨⟨_, rfl, ⟨rfl, .inl ⟨rfl, rfl⟩⟩⟩, Below.refl _ _⟩
  · have hown : (w.alloc (.cells #[] 39)).ownsRow w.heap.size 39 23 (.slice (some ⟨w.heap.size, 0, none⟩) 0 0) 0 [] := ⟨rfl, .inr ⟨w.heap.size, 0, #[], rfl, Nat.le_refl _, heap_alloc_new w _, Nat.le_refl _, by unfold maxLen; omega, rfl, rfl⟩⟩
    have hba := (Below.refl w.heap.size w).alloc (Nat.le_refl _) (.cells #[] 39)
    have HL := Lib.hid hlen
    have HS := Lib.hid hsrc
    have HO := Lib.hid hone
    have HW := Lib.hid hown
    have HB := Lib.hid hba
    clear ho hlen hsrc hone hown hba
    generalize flatP l = xs at *
    go_enter Try.func43, Try.ntmps43
    go_wp2_with (refine wpList_appN (P := Try.prog) tPcs rfl (.tmp 5) (.tmp 6) rfl w.heap.size (.slice (some ⟨w.heap.size, 0, none⟩) 0 0) 0 [] rfl HW.out (some ⟨g, 0, none⟩) M c xs rfl HL.out HS.out HO.out (by omega) (by unfold maxLen; omega) HB.out.size (fun u w1 h1 h2 h3 => ?_))
    have HB1 := Lib.hid (HB.out.grown h2 HB.out.size (own_ge HW.out))
    go_ret
    exact ⟨⟨u, rfl, by simpa using h1⟩, HB1.out⟩
structure NewMap (mb n : Nat) (f : List Int → Option Nat) (w0 : World) (e : Ending) (w : World) : Prop where
  ret : e = .returned (.map (some w0.heap.size))
  map : KMap w w0.heap.size n f
  low : Below w0.heap.size w0 w
set_option maxHeartbeats 1000000 in
theorem clone_map {mb n : Nat} {f : List Int → Option Nat} (w : World) (hk : KMap w mb n f) : Calls Try.prog 44 #[.map (some mb)] w (NewMap mb n f w) := by
  obtain ⟨D, ⟨es, clock, hb, F, hs, hD⟩, hrest⟩ := hk.ex
  have hq := fun w => run_eql_map_nil_sl (P := Try.prog) w 61 _ _ (some mb) Try.underlying61
  have hB : Below w.heap.size w (w.alloc (.map es clock)) := (Below.refl _ w).alloc (Nat.le_refl _) _
  have hkm : KMap (w.alloc (.map es clock)) w.heap.size n f := ⟨⟨D, ⟨es, clock, (MapKept.heap_alloc w _).1, F, hs, hD⟩, hrest⟩⟩
  have HB := Lib.hid hB
  have HK := Lib.hid hkm
  clear hB hkm hrest hk hD hs
  go_enter Try.func44, Try.ntmps44
  go_wp2
  rw [run_callFunc_extern Try.func45 (by kernel_rfl) (by kernel_rfl) (by kernel_rfl) (e := Extern.MapsClone.clone) (by kernel_rfl), run_maps_clone_sl w 61 hb]
  simp only [Result.andThen]
  rw [Oper.upon_value]
  go_wp2
  rw [run_typeAssert_map_sl _ 61 20 _ _ _ Try.underlying61]
  simp only [Result.andThen]
  rw [Oper.upon_value]
  go_wp2
  go_ret
  exact ⟨rfl, HK.out, HB.out⟩
structure Copied (g mb n : Nat) (l : List Pc) (w0 : World) (e : Ending) (w : World) : Prop where
  ex : ∃ g' mb' v', e = .returned (.pointer (some ⟨g', 0, none⟩)) ∧ Idx w0.heap.size w g' mb' n l v'
  low : Below w0.heap.size w0 w
theorem idx_box {w0 w : World} {mb n : Nat} {l : List Pc} {u : Value} (hok : ∀ p ∈ l, p.ok) (hlow : Below w0.heap.size w0 w) (hu : w.ownsRow w0.heap.size 39 23 u l.length (flatP l)) (hk : KMap w mb n (findP l)) (hmb : w0.heap.size ≤ mb) :
    Copied 0 0 n l w0 (.returned (.pointer (some ⟨w.heap.size, 0, none⟩))) (w.alloc (.cells #[u, .map (some mb)] 63)) := by
  refine ⟨⟨_, mb, u, rfl, hlow.size, hmb, hok, Blk.new w 63 _, .inl (hu.alloc _), hk.below ((Below.refl w.heap.size w).alloc (Nat.le_refl _) _)⟩, hlow.alloc hlow.size _⟩
set_option maxHeartbeats 4000000 in
theorem copy_any {B g mb n : Nat} {l : List Pc} {v : Value} (w : World) (hi : Idx B w g mb n l v) (hm : l.length ≤ 8192) : Calls Try.prog 30 #[.pointer (some ⟨g, 0, none⟩)] w (Copied 0 0 n l w) := by
  obtain ⟨A, c, rfl, hc⟩ := hi.own.slice
  obtain ⟨M, hM⟩ : ∃ M, l.length = M := ⟨_, rfl⟩
  have hno := none_made g mb _ w hi.blk
  rw [hM] at hi hm hc
  have hcells : ∀ W : World, Below w.heap.size w W → W.cell? ⟨g, 0, none⟩ = some (.slice A M c) ∧ W.cell? ⟨g, 1, none⟩ = some (.map (some mb)) := fun W hW => by
    have hb := hi.blk.below hW
    have c0 := hb.cell 0
    have c1 := hb.cell 1
    simp at c0 c1
    exact ⟨c0, c1⟩
  have hrow : ∀ W : World, Below w.heap.size w W → RowP B W (.slice A M c) M (flatP l) := fun W hW => by
    have h := hi.own.below hW
    rw [hM] at h
    exact h
  have hcr := fun (W : World) (hW : Below w.heap.size w W) => clone_row W (hrow W hW) hm
  have hcm := fun (W : World) (hW : Below w.heap.size w W) => clone_map W (hi.map.below hW)
  have HOK := Lib.hid hi.oks
  have HMM := Lib.hid hM
  have HNO := Lib.hid hno
  have HCE := Lib.hid hcells
  have HCR := Lib.hid hcr
  have HCM := Lib.hid hcm
  have HB0 := Lib.hid ((Below.refl w.heap.size w).drew)
  clear hi hno hcells hcr hcm hrow hM
  go_enter Try.func30, Try.ntmps30
  go_wp2_with fail
  refine (HNO.out).mono ?_
  rintro e w1 ⟨rfl, rfl⟩
  go_wp2_with fail
  refine wp_region_held_drew (S := fun w' => w'.cell? ⟨g, 0, none⟩ = some (.slice A M c) ∧ w'.cell? ⟨g, 1, none⟩ = some (.map (some mb))) (by kernel_rfl) (HCE.out _ HB0.out) (fun hHeld => ?_)
  refine wpAnyH_takeD (i := 0) (d := 5) (oi := _) (v := ?_) rfl rfl (by kernel_rfl) (by kernel_rfl) (by kernel_rfl) (fun _ _ _ h => h) (Or.inl ⟨by rfl, ?_⟩) (by assumption) ?_
  rotate_left
  · (intro w hSw; (try dsimp only at hSw); go_simp) <;> with_reducible rfl
  simp only [Act.put, List.setIfInBounds_toArray, List.set_cons_zero, List.set_cons_succ]
  refine wpAnyH_takeD (i := 1) (d := 6) (oi := _) (v := ?_) rfl rfl (by kernel_rfl) (by kernel_rfl) (by kernel_rfl) (fun _ _ _ h => h) (Or.inl ⟨by rfl, ?_⟩) (by assumption) ?_
  rotate_left
  · (intro w hSw; (try dsimp only at hSw); go_simp) <;> with_reducible rfl
  simp only [Act.put, List.setIfInBounds_toArray, List.set_cons_zero, List.set_cons_succ]
  refine wpAnyH_takeD (i := 2) (d := 7) (oi := _) (v := ?_) rfl rfl (by kernel_rfl) (by kernel_rfl) (by kernel_rfl) (fun _ _ _ h => h) (Or.inl ⟨by rfl, ?_⟩) (by assumption) ?_
  rotate_left
  · (intro w hSw; (try dsimp only at hSw); go_simp) <;> with_reducible rfl
  simp only [Act.put, List.setIfInBounds_toArray, List.set_cons_zero, List.set_cons_succ]
  refine wpAnyH_takeD (i := 3) (d := 8) (oi := _) (v := ?_) rfl rfl (by kernel_rfl) (by kernel_rfl) (by kernel_rfl) (fun _ _ _ h => h) (Or.inl ⟨by rfl, ?_⟩) (by assumption) ?_
  rotate_left
  · (intro w hSw; (try dsimp only at hSw); go_simp) <;> with_reducible rfl
  simp only [Act.put, List.setIfInBounds_toArray, List.set_cons_zero, List.set_cons_succ]
  refine wpAnyH_takeD (i := 5) (d := 10) (oi := _) (v := ?_) rfl rfl (by kernel_rfl) (by kernel_rfl) (by kernel_rfl) (fun _ _ _ h => h) (Or.inl ⟨by rfl, ?_⟩) (by assumption) ?_
  rotate_left
  · (intro w hSw; (try dsimp only at hSw); go_simp) <;> with_reducible rfl
  simp only [Act.put, List.setIfInBounds_toArray, List.set_cons_zero, List.set_cons_succ]
  refine wpAnyH_takeD (i := 6) (d := 11) (oi := _) (v := ?_) rfl rfl (by kernel_rfl) (by kernel_rfl) (by kernel_rfl) (fun _ _ _ h => h) (Or.inl ⟨by rfl, ?_⟩) (by assumption) ?_
  rotate_left
  · (intro w hSw; (try dsimp only at hSw); go_simp) <;> with_reducible rfl
  simp only [Act.put, List.setIfInBounds_toArray, List.set_cons_zero, List.set_cons_succ]
  refine wpAnyH_takeD (i := 7) (d := 12) (oi := _) (v := ?_) rfl rfl (by kernel_rfl) (by kernel_rfl) (by kernel_rfl) (fun _ _ _ h => h) (Or.inl ⟨by rfl, ?_⟩) (by assumption) ?_
  rotate_left
  · (intro w hSw; (try dsimp only at hSw); go_simp) <;> with_reducible rfl
  simp only [Act.put, List.setIfInBounds_toArray, List.set_cons_zero, List.set_cons_succ]
  refine wpAnyH_takeD (i := 8) (d := 13) (oi := _) (v := ?_) rfl rfl (by kernel_rfl) (by kernel_rfl) (by kernel_rfl) (fun _ _ _ h => h) (Or.inl ⟨by rfl, ?_⟩) (by assumption) ?_
  rotate_left
  · (intro w hSw; (try dsimp only at hSw); go_simp) <;> with_reducible rfl
  simp only [Act.put, List.setIfInBounds_toArray, List.set_cons_zero, List.set_cons_succ]
  refine wpAnyH_ready (rs := [4]) (by kernel_rfl) (by simp) ?_
  refine AllReadyH.cons (o := _) rfl (fun K hK => ?_) AllReadyH.nil
  · go_simp
    refine (HCR.out _ HB0.out).mono ?_
    rintro e w1 ⟨⟨u, rfl, hu⟩, hbu⟩
    obtain ⟨A2, c2, rfl, hc2⟩ := own_slice hu
    have HU := Lib.hid (show w1.ownsRow w.heap.size 39 23 (.slice A2 M c2) M (flatP l) from hu)
    have HB1 := Lib.hid (HB0.out.trans (hbu.mono HB0.out.size))
    clear hu hbu
    go_wp2_with fail
    refine hK.out _ _ (HCE.out _ HB1.out) (fun hHeld => ?_)
    clear hK K
    try simp only [Act.put, List.setIfInBounds_toArray, List.set_cons_zero, List.set_cons_succ]
    refine wpAnyH_ready (rs := [9]) (by kernel_rfl) (by simp) ?_
    refine AllReadyH.cons (o := _) rfl (fun K hK => ?_) AllReadyH.nil
    go_simp
    refine (HCM.out _ HB1.out).mono ?_
    rintro e w2 ⟨rfl, hkm, hbm⟩
    have HB2 := Lib.hid (HB1.out.trans (hbm.mono HB1.out.size))
    have HKM := Lib.hid hkm
    have HU2 := Lib.hid (Frm.own (Frm.of_below (S := fun _ => False) hbm) HU.out (fun _ _ h => h))
    have HSZ := Lib.hid HB1.out.size
    clear hkm hbm
    go_wp2_with fail
    refine hK.out _ _ (HCE.out _ HB2.out) (fun hHeld => ?_)
    clear hK K
    try simp only [Act.put, List.setIfInBounds_toArray, List.set_cons_zero, List.set_cons_succ]
    refine wpAnyH_takeD (i := 10) (d := 15) (oi := _) (v := ?_) rfl rfl (by kernel_rfl) (by kernel_rfl) (by kernel_rfl) (fun _ _ _ h => h) (Or.inl ⟨by rfl, ?_⟩) (by assumption) ?_
    rotate_left
    · (intro w hSw; (try dsimp only at hSw); go_simp) <;> with_reducible rfl
    simp only [Act.put, List.setIfInBounds_toArray, List.set_cons_zero, List.set_cons_succ]
    refine wpAnyH_ready (rs := [11]) (by kernel_rfl) (by simp) ?_
    refine AllReadyH.cons (o := _) rfl (fun K hK => ?_) AllReadyH.nil
    go_simp
    have hbx := idx_box (w0 := w) HOK.out HB2.out (by rw [HMM.out]; exact HU2.out) HKM.out HSZ.out
    have HBX := Lib.hid hbx
    have HB3 := Lib.hid hbx.low
    clear hbx
    refine hK.out _ _ (HCE.out _ HB3.out) (fun hHeld => ?_)
    clear hK K
    try simp only [Act.put, List.setIfInBounds_toArray, List.set_cons_zero, List.set_cons_succ]
    refine wpAnyH_takeD (i := 12) (d := 2) (oi := _) (v := ?_) rfl rfl (by kernel_rfl) (by kernel_rfl) (by kernel_rfl) (fun _ _ _ h => h) (Or.inl ⟨by rfl, ?_⟩) (by assumption) ?_
    rotate_left
    · (intro w hSw; (try dsimp only at hSw); go_simp) <;> with_reducible rfl
    simp only [Act.put, List.setIfInBounds_toArray, List.set_cons_zero, List.set_cons_succ]
    refine wpAnyH_done (by kernel_rfl) ?_ _
    go_wp2_with fail
    go_ret
    exact HBX.out
end Go.Proofs.Ytjcaahilgobfhaa
