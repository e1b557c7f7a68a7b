/- VmEnds' walk. No condition beyond the arguments' own memory. · VmEnds' law: arguments opened. No condition. -/
import Derived.Test.YtebmgladdgmmeaaVeGLp
import Derived.Test.YtebmgladdgmmeaaVdHeld
import Derived.BigRegion
import Derived.BigQuiet
namespace Go.Proofs.Ytebmgladdgmmeaa
open Go.RowKit Go.WideShapes
open List (setIfInBounds_toArray set_cons_zero set_cons_succ)
set_option linter.unusedVariables false
set_option linter.unusedSimpArgs false
/-- What a run left behind. -/
structure Res (bs : List Int) (s : St) (f m : Nat) (W0 : World) (g : Nat) (vo : Value) (z : Int) (r : St × List Int × Int) (W : World) : Prop where
  run : RunV bs true s (f : Int) (m : Int) r
  z : r.2.2 = z
  ok : r.1.m.ok
  box : ∃ vh vm, MBox W g r.1.m vh vm ∧ OwnR W 0 vh 45 (r.1.hs.map (.int .u32)) ∧ OwnR W 0 vm 5 (r.1.ms.map (.int .u8))
  out : OwnR W 0 vo 5 (r.2.1.map (.int .u8))
  low : Below W0.heap.size W0 W
theorem Res.mk' {bs : List Int} {s : St} {f m b : Nat} {W0 W : World} {vh vm vo : Value} {r : St × List Int × Int} (h : RunV bs true s (f : Int) (m : Int) r) (hz : r.2.2 = r.2.2) (hk : r.1.m.ok) (oh : OwnR W b vh 45 (r.1.hs.map (.int .u32))) (om : OwnR W b vm 5 (r.1.ms.map (.int .u8))) (oo : OwnR W b vo 5 (r.2.1.map (.int .u8))) (l : Below W0.heap.size W0 W) :
    Res bs s f m W0 W.heap.size vo r.2.2 r (W.alloc (.cells (r.1.m.cells vh vm) 50)) :=
  have hb : Below W.heap.size W (W.alloc (.cells (r.1.m.cells vh vm) 50)) := (Below.refl _ _).alloc (Nat.le_refl _) _
  ⟨h, rfl, hk, ⟨vh, vm, MBox.new hk W vh vm, (oh.below hb).base (Nat.zero_le _), (om.below hb).base (Nat.zero_le _)⟩, (oo.below hb).base (Nat.zero_le _), ch0 l hb⟩
theorem Res.below {bs : List Int} {s : St} {f m g : Nat} {W0 W W' : World} {vo : Value} {z : Int} {r : St × List Int × Int} (h : Res bs s f m W0 g vo z r W) (hb : Below W.heap.size W W') : Res bs s f m W0 g vo z r W' := by
  obtain ⟨vh, vm, h1, h2, h3⟩ := h.box
  exact ⟨h.run, h.z, h.ok, ⟨vh, vm, h1.below hb, h2.below hb, h3.below hb⟩, h.out.below hb, ch0 h.low hb⟩
theorem runV_ok {bs : List Int} {s : St} {f m : Int} {r : St × List Int × Int} (hc : chk bs true = 0) (hs : s.ok) (h0 : 0 ≤ m) (h : RunV bs true s f m r) : r.1.m.ok := by
  unfold RunV at h
  rw [if_pos hc, if_pos hs.right] at h
  rcases h.ends hs (by simpa using h0) with ⟨_, he⟩ | ⟨_, _, he⟩
  · exact he.m
  · rw [he]
    exact zM_ok
theorem bits8_range (op : BinOp) (a x : Int) : 0 ≤ bits op .u8 a x ∧ bits op .u8 a x ≤ 255 := wf_u8 (wf_bits op .u8 a x)
theorem four_cells {W : World} {g : Nat} {a0 a1 a2 a3 : Int} (h : Blk W g 60 #[.int .i64 a0, .int .i64 a1, .int .i64 a2, .int .i64 a3]) : W.cell? ⟨g, 0, none⟩ = some (.int .i64 a0) ∧ W.cell? ⟨g, 1, none⟩ = some (.int .i64 a1) ∧ W.cell? ⟨g, 2, none⟩ = some (.int .i64 a2) ∧ W.cell? ⟨g, 3, none⟩ = some (.int .i64 a3) :=
  ⟨by rw [h.cell 0]; rfl, by rw [h.cell 1]; rfl, by rw [h.cell 2]; rfl, by rw [h.cell 3]; rfl⟩
theorem two_new (W : World) (t : TypeId) (z r1 r2 : Array Value) (g1 g2 : Nat) (hg : (g1 = W.heap.size ∧ g2 = W.heap.size + 1) ∨ (g1 = W.heap.size + 1 ∧ g2 = W.heap.size)) :
    Blk ((W.alloc (.cells z t)).alloc (.cells z t)) g1 t z ∧ Blk (((W.alloc (.cells z t)).alloc (.cells z t)).setRow g1 r1) g2 t z ∧ Blk ((((W.alloc (.cells z t)).alloc (.cells z t)).setRow g1 r1).setRow g2 r2) g1 t r1 ∧ Blk ((((W.alloc (.cells z t)).alloc (.cells z t)).setRow g1 r1).setRow g2 r2) g2 t r2 ∧ Below W.heap.size W ((((W.alloc (.cells z t)).alloc (.cells z t)).setRow g1 r1).setRow g2 r2) := by
  have b1 := (Blk.new W t z).alloc (.cells z t)
  have b2 := Blk.new (W.alloc (.cells z t)) t z
  rw [World.size_alloc] at b2
  have hb : Below W.heap.size W ((W.alloc (.cells z t)).alloc (.cells z t)) := ((Below.refl _ _).alloc (Nat.le_refl _) _).alloc (by simp) _
  have hf1 := frm_setRow ((W.alloc (.cells z t)).alloc (.cells z t)) g1 r1
  have hf2 := frm_setRow (((W.alloc (.cells z t)).alloc (.cells z t)).setRow g1 r1) g2 r2
  have hne : ¬ g1 = g2 := by omega
  have c1 : Blk ((W.alloc (.cells z t)).alloc (.cells z t)) g1 t z := by rcases hg with ⟨rfl, rfl⟩ | ⟨rfl, rfl⟩ <;> assumption
  have c2 : Blk ((W.alloc (.cells z t)).alloc (.cells z t)) g2 t z := by rcases hg with ⟨rfl, rfl⟩ | ⟨rfl, rfl⟩ <;> assumption
  have c3 := c2.frm hf1 (fun e => hne e.symm)
  refine ⟨c1, c3, (blk_setRow c1 r1).frm hf2 hne, blk_setRow c3 r2, ?_⟩
  exact (hb.trans (hf1.to_below hb.size (fun k hk => by omega))).trans (hf2.to_below (by have := hb.size; have := hf1.size; omega) (fun k hk => by omega))
set_option maxRecDepth 100000 in
set_option maxHeartbeats 16000000 in
theorem ends6 (bs : List Int) (A : Option Addr) (n c : Nat) (s : St) (Ah Am : Option Addr) (ch cm : Nat) (a0 a1 a2 a3 : Int) (w : World) (hn : n = bs.length) (ho : Oct bs) (hr : Rd w A (octs bs)) (hnm : n ≤ 9223372036854775807) (hin : MIn s Ah Am ch cm w)
    (h0 : -9223372036854775808 ≤ a0 ∧ a0 ≤ 9223372036854775807) (h1 : -9223372036854775808 ≤ a1 ∧ a1 ≤ 9223372036854775807) (h2 : -9223372036854775808 ≤ a2 ∧ a2 ≤ 9223372036854775807) (h3 : -9223372036854775808 ≤ a3 ∧ a3 ≤ 9223372036854775807) :
    Calls Try.prog 6 #[.slice A n c, .agg (s.m.cells (.slice Ah s.hs.length ch) (.slice Am s.ms.length cm)), .agg #[.int .i64 a0, .int .i64 a1, .int .i64 a2, .int .i64 a3]] w (Quiet (.bool true) w) := by
  have hz := (zero_of_info zero50).1
  have hm := hin.m
  have bx := MBox.new hm w (.slice Ah s.hs.length ch) (.slice Am s.ms.length cm)
  have bx2 := bx.below ((Below.refl _ _).alloc (Nat.le_refl _) (.cells #[.int .i64 a0, .int .i64 a1, .int .i64 a2, .int .i64 a3] 60))
  have b5 := Blk.new (w.alloc (.cells (s.m.cells (.slice Ah s.hs.length ch) (.slice Am s.ms.length cm)) 50)) 60 #[.int .i64 a0, .int .i64 a1, .int .i64 a2, .int .i64 a3]
  rw [World.size_alloc] at b5
  have hb0 : Below w.heap.size w ((w.alloc (.cells (s.m.cells (.slice Ah s.hs.length ch) (.slice Am s.ms.length cm)) 50)).alloc (.cells #[.int .i64 a0, .int .i64 a1, .int .i64 a2, .int .i64 a3] 60)) := ((Below.refl _ _).alloc (Nat.le_refl _) _).alloc (by simp) _
  have hck := fun W (hW : Below w.heap.size w W) => chk_any bs A n c true W hn ho (hr.below hW rfl) hnm
  obtain ⟨c4, hc4⟩ : ∃ z, s.m.cells (.slice Ah s.hs.length ch) (.slice Am s.ms.length cm) = z := ⟨_, rfl⟩
  rw [hc4] at bx2 b5 hb0 ⊢
  obtain ⟨W0, hW0⟩ : ∃ z, (w.alloc (.cells c4 50)).alloc (.cells #[.int .i64 a0, .int .i64 a1, .int .i64 a2, .int .i64 a3] 60) = z := ⟨_, rfl⟩
  rw [hW0] at bx2 b5 hb0
  have q0 := b5.cell 0
  have q1 := b5.cell 1
  have q2 := b5.cell 2
  have q3 := b5.cell 3
  simp at q0 q1 q2 q3
  obtain ⟨zs, hzs⟩ : ∃ x, zCells = x := ⟨_, rfl⟩
  simp only [hzs] at hz
  have HZN : Hid (zs.size = 263) := Lib.hid (by rw [← hzs]; exact Mc.size zM_ok _ _)
  clear hzs
  have HB0 := Lib.hid hb0
  have HBX := Lib.hid bx2
  have HB5 := Lib.hid b5
  have HCK := Lib.hid hck
  have HN := Lib.hid hn
  have HO := Lib.hid ho
  have HR := Lib.hid hr
  have HNM := Lib.hid hnm
  have HM := Lib.hid hm
  have H0 := Lib.hid h0
  have H1 := Lib.hid h1
  have H2 := Lib.hid h2
  have H3 := Lib.hid h3
  clear hm bx bx2 b5 hb0 hck hc4 hn ho hr hin h0 h1 h2 h3
  go_enter Try.func6, Try.ntmps6
  go_upto_region 1 with fail
  go_cut [7, 8] from 20 (fun p7 p8 wx => ∃ b7 b8, p7 = .pointer (some ⟨b7, 0, none⟩) ∧ p8 = .pointer (some ⟨b8, 0, none⟩) ∧ Blk wx b7 51 #[.int .i64 a0, .int .i64 a1] ∧ Blk wx b8 51 #[.int .i64 a2, .int .i64 a3] ∧ Below W0.heap.size W0 wx)
  case first =>
    have hS : (fun W => W.cell? ⟨w.heap.size + 1, 0, none⟩ = some (.int .i64 a0) ∧ W.cell? ⟨w.heap.size + 1, 1, none⟩ = some (.int .i64 a1) ∧ W.cell? ⟨w.heap.size + 1, 2, none⟩ = some (.int .i64 a2) ∧ W.cell? ⟨w.heap.size + 1, 3, none⟩ = some (.int .i64 a3)) W0.drew := ⟨q0, q1, q2, q3⟩
    refine wp_region_held_drew (S := fun W => W.cell? ⟨w.heap.size + 1, 0, none⟩ = some (.int .i64 a0) ∧ W.cell? ⟨w.heap.size + 1, 1, none⟩ = some (.int .i64 a1) ∧ W.cell? ⟨w.heap.size + 1, 2, none⟩ = some (.int .i64 a2) ∧ W.cell? ⟨w.heap.size + 1, 3, none⟩ = some (.int .i64 a3)) (by kernel_rfl) hS (fun hHeld => ?_)
    clear hS q0 q1 q2 q3
    refine wpAnyH_takeD (i := 0) (d := 20) (oi := _) (v := ?_) rfl rfl (by kernel_rfl) (by kernel_rfl) (by kernel_rfl) (fun _ _ _ h => h) (Or.inl ⟨by rfl, ?_⟩) (by assumption) ?_
    rotate_left
    · (intro w hSw; (try dsimp only at hSw); go_simp) <;> with_reducible rfl
    simp only [Act.put, setIfInBounds_toArray, set_cons_zero, set_cons_succ]
    refine wpAnyH_takeD (i := 1) (d := 21) (oi := _) (v := ?_) rfl rfl (by kernel_rfl) (by kernel_rfl) (by kernel_rfl) (fun _ _ _ h => h) (Or.inl ⟨by rfl, ?_⟩) (by assumption) ?_
    rotate_left
    · (intro w hSw; (try dsimp only at hSw); go_simp) <;> with_reducible rfl
    simp only [Act.put, setIfInBounds_toArray, set_cons_zero, set_cons_succ]
    refine wpAnyH_takeD (i := 2) (d := 22) (oi := _) (v := ?_) rfl rfl (by kernel_rfl) (by kernel_rfl) (by kernel_rfl) (fun _ _ _ h => h) (Or.inl ⟨by rfl, ?_⟩) (by assumption) ?_
    rotate_left
    · (intro w hSw; (try dsimp only at hSw); go_simp) <;> with_reducible rfl
    simp only [Act.put, setIfInBounds_toArray, set_cons_zero, set_cons_succ]
    refine wpAnyH_takeD (i := 3) (d := 23) (oi := _) (v := ?_) rfl rfl (by kernel_rfl) (by kernel_rfl) (by kernel_rfl) (fun _ _ _ h => h) (Or.inl ⟨by rfl, ?_⟩) (by assumption) ?_
    rotate_left
    · (intro w hSw; (try dsimp only at hSw); go_simp) <;> with_reducible rfl
    simp only [Act.put, setIfInBounds_toArray, set_cons_zero, set_cons_succ]
    refine wpAnyH_ready (rs := [4, 5]) (by kernel_rfl) (by simp) ?_
    refine AllReadyH.cons (o := _) rfl (fun K hK => ?_) (AllReadyH.cons (o := _) rfl (fun K hK => ?_) AllReadyH.nil)
    · have hX := two_new W0.drew 51 #[.int .i64 0, .int .i64 0] #[.int .i64 a0, .int .i64 a1] #[.int .i64 a2, .int .i64 a3] W0.heap.size (W0.heap.size + 1) (.inl ⟨rfl, rfl⟩)
      have HX := Lib.hid hX
      clear hX
      go_simp
      refine hK.out _ _ (four_cells (HB5.out.drew.alloc _)) (fun hHeld => ?_)
      clear hK K
      try simp only [List.getElem_toArray, List.getElem_cons_zero, List.getElem_cons_succ, Act.put, setIfInBounds_toArray, set_cons_zero, set_cons_succ]
      refine wpAnyH_ready (rs := [5]) (by kernel_rfl) (by simp) ?_
      refine AllReadyH.cons (o := _) rfl (fun K hK => ?_) AllReadyH.nil
      go_simp
      refine hK.out _ _ (four_cells ((HB5.out.drew.alloc _).alloc _)) (fun hHeld => ?_)
      clear hK K
      try simp only [List.getElem_toArray, List.getElem_cons_zero, List.getElem_cons_succ, Act.put, setIfInBounds_toArray, set_cons_zero, set_cons_succ]
      refine wpAnyH_ready (rs := [6]) (by kernel_rfl) (by simp) ?_
      refine AllReadyH.cons (o := _) rfl (fun K hK => ?_) AllReadyH.nil
      rw [if_pos (by rfl)]
      try simp only [List.getElem_toArray, List.getElem_cons_zero, List.getElem_cons_succ]
      refine wp_store_row 51 (.tmp 7) (.tmp 21) rfl W0.heap.size #[.int .i64 a0, .int .i64 a1] rfl rfl 51 #[.int .i64 0, .int .i64 0] HX.out.1 (by kernel_rfl) rfl (by simp [Value.oneCell']) ?_
      refine hK.out _ _ (four_cells (((HB5.out.drew.alloc _).alloc _).frm (frm_setRow _ _ _) (by have := HB5.out.lt; show ¬ _ = _; omega))) (fun hHeld => ?_)
      clear hK K
      try simp only [List.getElem_toArray, List.getElem_cons_zero, List.getElem_cons_succ, Act.put, setIfInBounds_toArray, set_cons_zero, set_cons_succ]
      refine wpAnyH_ready (rs := [7]) (by kernel_rfl) (by simp) ?_
      refine AllReadyH.cons (o := _) rfl (fun K hK => ?_) AllReadyH.nil
      rw [if_pos (by rfl)]
      try simp only [List.getElem_toArray, List.getElem_cons_zero, List.getElem_cons_succ]
      refine wp_store_row 51 (.tmp 8) (.tmp 23) rfl (W0.heap.size + 1) #[.int .i64 a2, .int .i64 a3] rfl rfl 51 #[.int .i64 0, .int .i64 0] HX.out.2.1 (by kernel_rfl) rfl (by simp [Value.oneCell']) ?_
      refine hK.out _ _ (four_cells ((((HB5.out.drew.alloc _).alloc _).frm (frm_setRow _ _ _) (by have := HB5.out.lt; show ¬ _ = _; omega)).frm (frm_setRow _ _ _) (by have := HB5.out.lt; show ¬ _ = _; omega))) (fun hHeld => ?_)
      clear hK K
      try simp only [List.getElem_toArray, List.getElem_cons_zero, List.getElem_cons_succ, Act.put, setIfInBounds_toArray, set_cons_zero, set_cons_succ]
      refine wpAnyH_done (by kernel_rfl) ?_ _
      go_wp2_with fail
      go_meet
      exact ⟨_, _, rfl, rfl, HX.out.2.2.1, HX.out.2.2.2.1, (Below.drew (Below.refl _ W0)).trans HX.out.2.2.2.2⟩
    · have hX := two_new W0.drew 51 #[.int .i64 0, .int .i64 0] #[.int .i64 a0, .int .i64 a1] #[.int .i64 a2, .int .i64 a3] (W0.heap.size + 1) W0.heap.size (.inr ⟨rfl, rfl⟩)
      have HX := Lib.hid hX
      clear hX
      go_simp
      refine hK.out _ _ (four_cells (HB5.out.drew.alloc _)) (fun hHeld => ?_)
      clear hK K
      try simp only [List.getElem_toArray, List.getElem_cons_zero, List.getElem_cons_succ, Act.put, setIfInBounds_toArray, set_cons_zero, set_cons_succ]
      refine wpAnyH_ready (rs := [4]) (by kernel_rfl) (by simp) ?_
      refine AllReadyH.cons (o := _) rfl (fun K hK => ?_) AllReadyH.nil
      go_simp
      refine hK.out _ _ (four_cells ((HB5.out.drew.alloc _).alloc _)) (fun hHeld => ?_)
      clear hK K
      try simp only [List.getElem_toArray, List.getElem_cons_zero, List.getElem_cons_succ, Act.put, setIfInBounds_toArray, set_cons_zero, set_cons_succ]
      refine wpAnyH_ready (rs := [6]) (by kernel_rfl) (by simp) ?_
      refine AllReadyH.cons (o := _) rfl (fun K hK => ?_) AllReadyH.nil
      rw [if_pos (by rfl)]
      try simp only [List.getElem_toArray, List.getElem_cons_zero, List.getElem_cons_succ]
      refine wp_store_row 51 (.tmp 7) (.tmp 21) rfl (W0.heap.size + 1) #[.int .i64 a0, .int .i64 a1] rfl rfl 51 #[.int .i64 0, .int .i64 0] HX.out.1 (by kernel_rfl) rfl (by simp [Value.oneCell']) ?_
      refine hK.out _ _ (four_cells (((HB5.out.drew.alloc _).alloc _).frm (frm_setRow _ _ _) (by have := HB5.out.lt; show ¬ _ = _; omega))) (fun hHeld => ?_)
      clear hK K
      try simp only [List.getElem_toArray, List.getElem_cons_zero, List.getElem_cons_succ, Act.put, setIfInBounds_toArray, set_cons_zero, set_cons_succ]
      refine wpAnyH_ready (rs := [7]) (by kernel_rfl) (by simp) ?_
      refine AllReadyH.cons (o := _) rfl (fun K hK => ?_) AllReadyH.nil
      rw [if_pos (by rfl)]
      try simp only [List.getElem_toArray, List.getElem_cons_zero, List.getElem_cons_succ]
      refine wp_store_row 51 (.tmp 8) (.tmp 23) rfl W0.heap.size #[.int .i64 a2, .int .i64 a3] rfl rfl 51 #[.int .i64 0, .int .i64 0] HX.out.2.1 (by kernel_rfl) rfl (by simp [Value.oneCell']) ?_
      refine hK.out _ _ (four_cells ((((HB5.out.drew.alloc _).alloc _).frm (frm_setRow _ _ _) (by have := HB5.out.lt; show ¬ _ = _; omega)).frm (frm_setRow _ _ _) (by have := HB5.out.lt; show ¬ _ = _; omega))) (fun hHeld => ?_)
      clear hK K
      try simp only [List.getElem_toArray, List.getElem_cons_zero, List.getElem_cons_succ, Act.put, setIfInBounds_toArray, set_cons_zero, set_cons_succ]
      refine wpAnyH_done (by kernel_rfl) ?_ _
      go_wp2_with fail
      go_meet
      exact ⟨_, _, rfl, rfl, HX.out.2.2.1, HX.out.2.2.2.1, (Below.drew (Below.refl _ W0)).trans HX.out.2.2.2.2⟩
  case rest =>
    obtain ⟨b7, b8, rfl, rfl, hb7, hb8, hlow⟩ := hcut
    clear q0 q1 q2 q3
    have L1 := Lib.hid (ch0 HB0.out hlow)
    have BX1 := Lib.hid (HBX.out.below hlow)
    have B7 := Lib.hid hb7
    have B8 := Lib.hid hb8
    clear hlow hb7 hb8
    by_cases hbig : 3000 < n
    · have g1 : decide ((3000 : Int) < (n : Int)) = true := by simp; omega
      have g1n : decide (3000 < n) = true := by simp; omega
      go_wp2_with fail
      refine (awake17 _).mono ?_
      rintro e w2 ⟨rfl, hb2⟩
      have L2 := Lib.hid (ch0 L1.out hb2)
      clear hb2
      go_wp2_with fail
      go_ret
      exact ⟨rfl, L2.out⟩
    have g1 : decide ((3000 : Int) < (n : Int)) = false := by simp; omega
    have g1n : decide (3000 < n) = false := by simp; omega
    have hck := HCK.out
    obtain ⟨x, hx⟩ : ∃ z, chk bs true = z := ⟨_, rfl⟩
    rw [hx] at hck
    have HCK2 := Lib.hid hck
    have HX := Lib.hid hx
    clear hck hx
    by_cases hx0 : x = 0
    rotate_left
    · have e0 : (x == 0) = false := by simpa using hx0
      have e1 : (x != 0) = true := by simp [bne, e0]
      go_wp2_with fail
      refine (HCK2.out _ L1.out).mono ?_
      rintro e w2 ⟨rfl, hb2⟩
      have L2 := Lib.hid (ch0 L1.out hb2)
      clear hb2
      go_wp2_with fail
      refine (awake17 _).mono ?_
      rintro e w3 ⟨rfl, hb2⟩
      have L3 := Lib.hid (ch0 L2.out hb2)
      clear hb2
      go_wp2_with fail
      go_ret
      exact ⟨rfl, L3.out⟩
    subst hx0
    go_wp2_with fail
    refine (HCK2.out _ L1.out).mono ?_
    rintro e w2 ⟨rfl, hb2⟩
    have L2 := Lib.hid (ch0 L1.out hb2)
    have BX2 := Lib.hid (BX1.out.below hb2)
    have C7 := Lib.hid (B7.out.below hb2)
    have C8 := Lib.hid (B8.out.below hb2)
    clear hb2
    go_upto_region 4 with fail
    go_cut [6] from 33 (fun f wx => f = .bool false ∧ ∃ gh gm, MBox wx w.heap.size s.m (.slice (some ⟨gh, 0, none⟩) 8 8) (.slice (some ⟨gm, 0, none⟩) 16 16) ∧ RowAt wx gh 45 (List.replicate 8 (.int .u32 0)) ∧ RowAt wx gm 5 (List.replicate 16 (.int .u8 0)) ∧ Blk wx b7 51 #[.int .i64 a0, .int .i64 a1] ∧ Blk wx b8 51 #[.int .i64 a2, .int .i64 a3] ∧ Below w.heap.size w wx ∧ w.heap.size ≤ gh ∧ w.heap.size ≤ gm)
    case first =>
      refine wp_region_any (by kernel_rfl) ?_
      try (change wpAny _ _ _ _ _ _ _ (World.drew _))
      refine wpAny_ready (rs := [0, 1]) (by kernel_rfl) (by simp) ?_
      refine AllReady.cons rfl (fun K hK => ?_) (AllReady.cons rfl (fun K hK => ?_) AllReady.nil)
      · have HK := Lib.hid hK
        clear hK
        rw [if_pos (by rfl)]
        try simp only [List.getElem_toArray, List.getElem_cons_zero, List.getElem_cons_succ]
        refine wp_makeN tW (.const (.int .i64 8)) (.const (.int .i64 8)) rfl 8 rfl rfl rfl (by decide) (by decide) ?_
        refine HK.out _ _ ?_
        clear HK K
        try simp only [List.getElem_toArray, List.getElem_cons_zero, List.getElem_cons_succ, Act.put, setIfInBounds_toArray, set_cons_zero, set_cons_succ]
        have bnH := Blk.new w2.drew 45 (List.replicate 8 (.int .u32 0)).toArray
        have loH : Below w2.drew.heap.size w2.drew (w2.drew.alloc (.cells (List.replicate 8 (.int .u32 0)).toArray 45)) := (Below.refl _ _).alloc (Nat.le_refl _) _
        obtain ⟨XA, hXA⟩ : ∃ z, w2.drew.alloc (.cells (List.replicate 8 (.int .u32 0)).toArray 45) = z := ⟨_, rfl⟩
        rw [hXA] at bnH loH ⊢
        have BNH := Lib.hid bnH
        have LOH := Lib.hid loH
        clear hXA bnH loH
        refine wpAny_take (i := 2) (v := ?_) rfl (by kernel_rfl) (by kernel_rfl) (by kernel_rfl) (fun _ _ _ h => h) (Or.inl ⟨by rfl, ?_⟩) ?_
        rotate_left
        · (intro w; go_simp) <;> with_reducible rfl
        simp only [List.getElem_toArray, List.getElem_cons_zero, List.getElem_cons_succ, Act.put, setIfInBounds_toArray, set_cons_zero, set_cons_succ]
        refine wpAny_ready (rs := [1, 3]) (by kernel_rfl) (by simp) ?_
        refine AllReady.cons rfl (fun K hK => ?_) (AllReady.cons rfl (fun K hK => ?_) AllReady.nil)
        · have HK := Lib.hid hK
          clear hK
          rw [if_pos (by rfl)]
          try simp only [List.getElem_toArray, List.getElem_cons_zero, List.getElem_cons_succ]
          refine wp_makeN tB (.const (.int .i64 16)) (.const (.int .i64 16)) rfl 16 rfl rfl rfl (by decide) (by decide) ?_
          refine HK.out _ _ ?_
          clear HK K
          try simp only [List.getElem_toArray, List.getElem_cons_zero, List.getElem_cons_succ, Act.put, setIfInBounds_toArray, set_cons_zero, set_cons_succ]
          have bnM := Blk.new XA 5 (List.replicate 16 (.int .u8 0)).toArray
          have loM : Below XA.heap.size XA (XA.alloc (.cells (List.replicate 16 (.int .u8 0)).toArray 5)) := (Below.refl _ _).alloc (Nat.le_refl _) _
          obtain ⟨XB, hXB⟩ : ∃ z, XA.alloc (.cells (List.replicate 16 (.int .u8 0)).toArray 5) = z := ⟨_, rfl⟩
          rw [hXB] at bnM loM ⊢
          have BNM := Lib.hid bnM
          have LOM := Lib.hid loM
          clear hXB bnM loM
          refine wpAny_ready (rs := [3]) (by kernel_rfl) (by simp) ?_
          refine AllReady.cons rfl (fun K hK => ?_) AllReady.nil
          have HK := Lib.hid hK
          clear hK
          rw [if_pos (by rfl)]
          try simp only [List.getElem_toArray, List.getElem_cons_zero, List.getElem_cons_succ]
          have cf := ((((BX2.out.below (Below.drew (Below.refl _ w2))).below LOH.out).below LOM.out)).ch
          have ff := ((((BX2.out.below (Below.drew (Below.refl _ w2))).below LOH.out).below LOM.out)).fz 261
          go_simp
          clear cf ff
          refine HK.out _ _ ?_
          clear HK K
          try simp only [List.getElem_toArray, List.getElem_cons_zero, List.getElem_cons_succ, Act.put, setIfInBounds_toArray, set_cons_zero, set_cons_succ]
          refine wpAny_take (i := 4) (v := ?_) rfl (by kernel_rfl) (by kernel_rfl) (by kernel_rfl) (fun _ _ _ h => h) (Or.inl ⟨by rfl, ?_⟩) ?_
          rotate_left
          · (intro w; go_simp) <;> with_reducible rfl
          simp only [List.getElem_toArray, List.getElem_cons_zero, List.getElem_cons_succ, Act.put, setIfInBounds_toArray, set_cons_zero, set_cons_succ]
          refine wpAny_ready (rs := [5]) (by kernel_rfl) (by simp) ?_
          refine AllReady.cons rfl (fun K hK => ?_) AllReady.nil
          have HK := Lib.hid hK
          clear hK
          rw [if_pos (by rfl)]
          try simp only [List.getElem_toArray, List.getElem_cons_zero, List.getElem_cons_succ]
          have cf := (((((BX2.out.below (Below.drew (Below.refl _ w2))).below LOH.out).below LOM.out).setH (.slice (some ⟨w2.heap.size, 0, none⟩) 8 8))).cm
          have ff := (((((BX2.out.below (Below.drew (Below.refl _ w2))).below LOH.out).below LOM.out).setH (.slice (some ⟨w2.heap.size, 0, none⟩) 8 8))).fz 262
          go_simp
          clear cf ff
          refine HK.out _ _ ?_
          clear HK K
          try simp only [List.getElem_toArray, List.getElem_cons_zero, List.getElem_cons_succ, Act.put, setIfInBounds_toArray, set_cons_zero, set_cons_succ]
          refine wpAny_done (by kernel_rfl) ?_ _
          go_wp2_with fail
          go_meet
          have d0 : Below w2.heap.size w2 w2.drew := Below.drew (Below.refl _ w2)
          have dB : Below w2.heap.size w2 XB := ch0 (ch0 d0 LOH.out) LOM.out
          have bxB := BX2.out.below dB
          have tw := two_set bxB (.slice (some ⟨w2.heap.size, 0, none⟩) 8 8) (.slice (some ⟨XA.heap.size, 0, none⟩) 16 16)
          have bh := BNH.out.below LOM.out
          have bm := BNM.out
          exact ⟨rfl, _, _, tw.1, ⟨_, bh.frm tw.2 (fun e => absurd e (Blk.ne bh bxB.blk (by decide))), by simp⟩, ⟨_, bm.frm tw.2 (fun e => absurd e (Blk.ne bm bxB.blk (by decide))), by simp⟩, (C7.out.below dB).frm tw.2 (fun e => absurd e (Blk.ne (C7.out.below dB) bxB.blk (by decide))), (C8.out.below dB).frm tw.2 (fun e => absurd e (Blk.ne (C8.out.below dB) bxB.blk (by decide))), (ch0 L2.out dB).trans (tw.2.to_below (ch0 L2.out dB).size (fun k hk => by omega)), L2.out.size, by have := L2.out.size; have := LOH.out.size; simp at this; omega⟩
        · have HK := Lib.hid hK
          clear hK
          rw [if_pos (by rfl)]
          try simp only [List.getElem_toArray, List.getElem_cons_zero, List.getElem_cons_succ]
          have cf := (((BX2.out.below (Below.drew (Below.refl _ w2))).below LOH.out)).ch
          have ff := (((BX2.out.below (Below.drew (Below.refl _ w2))).below LOH.out)).fz 261
          go_simp
          clear cf ff
          refine HK.out _ _ ?_
          clear HK K
          try simp only [List.getElem_toArray, List.getElem_cons_zero, List.getElem_cons_succ, Act.put, setIfInBounds_toArray, set_cons_zero, set_cons_succ]
          have hxc : Frm (fun k => k = w.heap.size) XA (XA.setCell ⟨w.heap.size, 261, none⟩ (.slice (some ⟨w2.heap.size, 0, none⟩) 8 8)) := (Frm.refl (fun k => k = w.heap.size) XA).setCell (p := ⟨w.heap.size, 261, none⟩) (fun _ => rfl) _
          have hbc := MBox.setH ((BX2.out.below (Below.drew (Below.refl _ w2))).below LOH.out) (.slice (some ⟨w2.heap.size, 0, none⟩) 8 8)
          obtain ⟨XC, hXC⟩ : ∃ z, XA.setCell ⟨w.heap.size, 261, none⟩ (.slice (some ⟨w2.heap.size, 0, none⟩) 8 8) = z := ⟨_, rfl⟩
          rw [hXC] at hxc hbc
          have HXC := Lib.hid hxc
          have HBC := Lib.hid hbc
          rw [hXC]
          clear hXC hxc hbc
          refine wpAny_ready (rs := [1]) (by kernel_rfl) (by simp) ?_
          refine AllReady.cons rfl (fun K hK => ?_) AllReady.nil
          have HK := Lib.hid hK
          clear hK
          rw [if_pos (by rfl)]
          try simp only [List.getElem_toArray, List.getElem_cons_zero, List.getElem_cons_succ]
          refine wp_makeN tB (.const (.int .i64 16)) (.const (.int .i64 16)) rfl 16 rfl rfl rfl (by decide) (by decide) ?_
          refine HK.out _ _ ?_
          clear HK K
          try simp only [List.getElem_toArray, List.getElem_cons_zero, List.getElem_cons_succ, Act.put, setIfInBounds_toArray, set_cons_zero, set_cons_succ]
          have bnM := Blk.new XC 5 (List.replicate 16 (.int .u8 0)).toArray
          have loM : Below XC.heap.size XC (XC.alloc (.cells (List.replicate 16 (.int .u8 0)).toArray 5)) := (Below.refl _ _).alloc (Nat.le_refl _) _
          obtain ⟨XB, hXB⟩ : ∃ z, XC.alloc (.cells (List.replicate 16 (.int .u8 0)).toArray 5) = z := ⟨_, rfl⟩
          rw [hXB] at bnM loM ⊢
          have BNM := Lib.hid bnM
          have LOM := Lib.hid loM
          clear hXB bnM loM
          refine wpAny_take (i := 4) (v := ?_) rfl (by kernel_rfl) (by kernel_rfl) (by kernel_rfl) (fun _ _ _ h => h) (Or.inl ⟨by rfl, ?_⟩) ?_
          rotate_left
          · (intro w; go_simp) <;> with_reducible rfl
          simp only [List.getElem_toArray, List.getElem_cons_zero, List.getElem_cons_succ, Act.put, setIfInBounds_toArray, set_cons_zero, set_cons_succ]
          refine wpAny_ready (rs := [5]) (by kernel_rfl) (by simp) ?_
          refine AllReady.cons rfl (fun K hK => ?_) AllReady.nil
          have HK := Lib.hid hK
          clear hK
          rw [if_pos (by rfl)]
          try simp only [List.getElem_toArray, List.getElem_cons_zero, List.getElem_cons_succ]
          have cf := ((HBC.out.below LOM.out)).cm
          have ff := ((HBC.out.below LOM.out)).fz 262
          go_simp
          clear cf ff
          refine HK.out _ _ ?_
          clear HK K
          try simp only [List.getElem_toArray, List.getElem_cons_zero, List.getElem_cons_succ, Act.put, setIfInBounds_toArray, set_cons_zero, set_cons_succ]
          refine wpAny_done (by kernel_rfl) ?_ _
          go_wp2_with fail
          go_meet
          have d0 : Below w2.heap.size w2 w2.drew := Below.drew (Below.refl _ w2)
          have dA : Below w2.heap.size w2 XA := ch0 d0 LOH.out
          have bxA := BX2.out.below dA
          have bh := BNH.out
          have f1f : Frm (fun k => k = w.heap.size) XA XC := HXC.out
          have bxC := HBC.out.below LOM.out
          have f2 := MBox.setM bxC (.slice (some ⟨XC.heap.size, 0, none⟩) 16 16)
          have f2f : Frm (fun k => k = w.heap.size) XB (XB.setCell ⟨w.heap.size, 262, none⟩ (.slice (some ⟨XC.heap.size, 0, none⟩) 16 16)) := (Frm.refl (fun k => k = w.heap.size) XB).setCell (p := ⟨w.heap.size, 262, none⟩) (fun _ => rfl) _
          have gAC : ∀ g t cs, t ≠ 50 → Blk XA g t cs → Blk (XB.setCell ⟨w.heap.size, 262, none⟩ (.slice (some ⟨XC.heap.size, 0, none⟩) 16 16)) g t cs := fun g t cs ht hb => (((hb.frm f1f (fun e => absurd e (Blk.ne hb bxA.blk ht))).below LOM.out)).frm f2f (fun e => absurd e (Blk.ne ((hb.frm f1f (fun e => absurd e (Blk.ne hb bxA.blk ht))).below LOM.out) bxC.blk ht))
          have bm := BNM.out
          have lC : Below w.heap.size w XC := (ch0 L2.out dA).trans (f1f.to_below (ch0 L2.out dA).size (fun k hk => by omega))
          exact ⟨rfl, _, _, f2, ⟨_, gAC _ _ _ (by decide) bh, by simp⟩, ⟨_, bm.frm f2f (fun e => absurd e (Blk.ne bm bxC.blk (by decide))), by simp⟩, gAC _ _ _ (by decide) (C7.out.below dA), gAC _ _ _ (by decide) (C8.out.below dA), (ch0 lC LOM.out).trans (f2f.to_below (ch0 lC LOM.out).size (fun k hk => by omega)), L2.out.size, lC.size⟩
      · have HK := Lib.hid hK
        clear hK
        rw [if_pos (by rfl)]
        try simp only [List.getElem_toArray, List.getElem_cons_zero, List.getElem_cons_succ]
        refine wp_makeN tB (.const (.int .i64 16)) (.const (.int .i64 16)) rfl 16 rfl rfl rfl (by decide) (by decide) ?_
        refine HK.out _ _ ?_
        clear HK K
        try simp only [List.getElem_toArray, List.getElem_cons_zero, List.getElem_cons_succ, Act.put, setIfInBounds_toArray, set_cons_zero, set_cons_succ]
        have bnM := Blk.new w2.drew 5 (List.replicate 16 (.int .u8 0)).toArray
        have loM : Below w2.drew.heap.size w2.drew (w2.drew.alloc (.cells (List.replicate 16 (.int .u8 0)).toArray 5)) := (Below.refl _ _).alloc (Nat.le_refl _) _
        obtain ⟨XA, hXA⟩ : ∃ z, w2.drew.alloc (.cells (List.replicate 16 (.int .u8 0)).toArray 5) = z := ⟨_, rfl⟩
        rw [hXA] at bnM loM ⊢
        have BNM := Lib.hid bnM
        have LOM := Lib.hid loM
        clear hXA bnM loM
        refine wpAny_ready (rs := [0]) (by kernel_rfl) (by simp) ?_
        refine AllReady.cons rfl (fun K hK => ?_) AllReady.nil
        have HK := Lib.hid hK
        clear hK
        rw [if_pos (by rfl)]
        try simp only [List.getElem_toArray, List.getElem_cons_zero, List.getElem_cons_succ]
        refine wp_makeN tW (.const (.int .i64 8)) (.const (.int .i64 8)) rfl 8 rfl rfl rfl (by decide) (by decide) ?_
        refine HK.out _ _ ?_
        clear HK K
        try simp only [List.getElem_toArray, List.getElem_cons_zero, List.getElem_cons_succ, Act.put, setIfInBounds_toArray, set_cons_zero, set_cons_succ]
        have bnH := Blk.new XA 45 (List.replicate 8 (.int .u32 0)).toArray
        have loH : Below XA.heap.size XA (XA.alloc (.cells (List.replicate 8 (.int .u32 0)).toArray 45)) := (Below.refl _ _).alloc (Nat.le_refl _) _
        obtain ⟨XB, hXB⟩ : ∃ z, XA.alloc (.cells (List.replicate 8 (.int .u32 0)).toArray 45) = z := ⟨_, rfl⟩
        rw [hXB] at bnH loH ⊢
        have BNH := Lib.hid bnH
        have LOH := Lib.hid loH
        clear hXB bnH loH
        refine wpAny_take (i := 2) (v := ?_) rfl (by kernel_rfl) (by kernel_rfl) (by kernel_rfl) (fun _ _ _ h => h) (Or.inl ⟨by rfl, ?_⟩) ?_
        rotate_left
        · (intro w; go_simp) <;> with_reducible rfl
        simp only [List.getElem_toArray, List.getElem_cons_zero, List.getElem_cons_succ, Act.put, setIfInBounds_toArray, set_cons_zero, set_cons_succ]
        refine wpAny_ready (rs := [3]) (by kernel_rfl) (by simp) ?_
        refine AllReady.cons rfl (fun K hK => ?_) AllReady.nil
        have HK := Lib.hid hK
        clear hK
        rw [if_pos (by rfl)]
        try simp only [List.getElem_toArray, List.getElem_cons_zero, List.getElem_cons_succ]
        have cf := ((((BX2.out.below (Below.drew (Below.refl _ w2))).below LOM.out).below LOH.out)).ch
        have ff := ((((BX2.out.below (Below.drew (Below.refl _ w2))).below LOM.out).below LOH.out)).fz 261
        go_simp
        clear cf ff
        refine HK.out _ _ ?_
        clear HK K
        try simp only [List.getElem_toArray, List.getElem_cons_zero, List.getElem_cons_succ, Act.put, setIfInBounds_toArray, set_cons_zero, set_cons_succ]
        refine wpAny_take (i := 4) (v := ?_) rfl (by kernel_rfl) (by kernel_rfl) (by kernel_rfl) (fun _ _ _ h => h) (Or.inl ⟨by rfl, ?_⟩) ?_
        rotate_left
        · (intro w; go_simp) <;> with_reducible rfl
        simp only [List.getElem_toArray, List.getElem_cons_zero, List.getElem_cons_succ, Act.put, setIfInBounds_toArray, set_cons_zero, set_cons_succ]
        refine wpAny_ready (rs := [5]) (by kernel_rfl) (by simp) ?_
        refine AllReady.cons rfl (fun K hK => ?_) AllReady.nil
        have HK := Lib.hid hK
        clear hK
        rw [if_pos (by rfl)]
        try simp only [List.getElem_toArray, List.getElem_cons_zero, List.getElem_cons_succ]
        have cf := (((((BX2.out.below (Below.drew (Below.refl _ w2))).below LOM.out).below LOH.out).setH (.slice (some ⟨XA.heap.size, 0, none⟩) 8 8))).cm
        have ff := (((((BX2.out.below (Below.drew (Below.refl _ w2))).below LOM.out).below LOH.out).setH (.slice (some ⟨XA.heap.size, 0, none⟩) 8 8))).fz 262
        go_simp
        clear cf ff
        refine HK.out _ _ ?_
        clear HK K
        try simp only [List.getElem_toArray, List.getElem_cons_zero, List.getElem_cons_succ, Act.put, setIfInBounds_toArray, set_cons_zero, set_cons_succ]
        refine wpAny_done (by kernel_rfl) ?_ _
        go_wp2_with fail
        go_meet
        have d0 : Below w2.heap.size w2 w2.drew := Below.drew (Below.refl _ w2)
        have dB : Below w2.heap.size w2 XB := ch0 (ch0 d0 LOM.out) LOH.out
        have bxB := BX2.out.below dB
        have tw := two_set bxB (.slice (some ⟨XA.heap.size, 0, none⟩) 8 8) (.slice (some ⟨w2.heap.size, 0, none⟩) 16 16)
        have bh := BNH.out
        have bm := BNM.out.below LOH.out
        exact ⟨rfl, _, _, tw.1, ⟨_, bh.frm tw.2 (fun e => absurd e (Blk.ne bh bxB.blk (by decide))), by simp⟩, ⟨_, bm.frm tw.2 (fun e => absurd e (Blk.ne bm bxB.blk (by decide))), by simp⟩, (C7.out.below dB).frm tw.2 (fun e => absurd e (Blk.ne (C7.out.below dB) bxB.blk (by decide))), (C8.out.below dB).frm tw.2 (fun e => absurd e (Blk.ne (C8.out.below dB) bxB.blk (by decide))), (ch0 L2.out dB).trans (tw.2.to_below (ch0 L2.out dB).size (fun k hk => by omega)), by have := L2.out.size; have := LOM.out.size; simp at this; omega, L2.out.size⟩
    case rest =>
      obtain ⟨rfl, gh, gm, hbx, hrh, hrm, hb7, hb8, hlow, hg1, hg2⟩ := hcut
      have HGW0 := Lib.hid (And.intro hg1 hg2)
      have hst : ∃ (k : Nat) (hs ms : List Int), k ≤ 256 ∧ (Value.int .i64 0) = .int .i64 (k : Int) ∧ hs.length = 8 ∧ ms.length = 16 ∧ Wds hs ∧ Oct ms ∧ MBox wc w.heap.size s.m (.slice (some ⟨gh, 0, none⟩) 8 8) (.slice (some ⟨gm, 0, none⟩) 16 16) ∧ RowAt wc gh 45 (hs.map (.int .u32)) ∧ RowAt wc gm 5 (ms.map (.int .u8)) ∧ Blk wc b7 51 #[.int .i64 a0, .int .i64 a1] ∧ Blk wc b8 51 #[.int .i64 a2, .int .i64 a3] ∧ Below w.heap.size w wc := ⟨0, List.replicate 8 0, List.replicate 16 0, by omega, rfl, rfl, rfl, (fun x hx => by rw [List.mem_replicate] at hx; rw [hx.2]; exact u32_0), (fun x hx => by rw [List.mem_replicate] at hx; rw [hx.2]; exact ⟨by omega, by omega⟩), hbx, by simpa using hrh, by simpa using hrm, hb7, hb8, hlow⟩
      have HST := Lib.hid hst
      clear hbx hrh hrm hb7 hb8 hlow hg1 hg2 hst L2 BX2 C7 C8 BX1 B7 B8 L1 HBX HB5 HB0
      go_wp2_with fail
      go_loopw [37] (fun i wr => ∃ (k : Nat) (hs ms : List Int), k ≤ 256 ∧ i = .int .i64 (k : Int) ∧ hs.length = 8 ∧ ms.length = 16 ∧ Wds hs ∧ Oct ms ∧ MBox wr w.heap.size s.m (.slice (some ⟨gh, 0, none⟩) 8 8) (.slice (some ⟨gm, 0, none⟩) 16 16) ∧ RowAt wr gh 45 (hs.map (.int .u32)) ∧ RowAt wr gm 5 (ms.map (.int .u8)) ∧ Blk wr b7 51 #[.int .i64 a0, .int .i64 a1] ∧ Blk wr b8 51 #[.int .i64 a2, .int .i64 a3] ∧ Below w.heap.size w wr) (fun i _ => 256 - (intOf i).toNat)
      case atStart => exact HST.out
      case round =>
        obtain ⟨k, hs, ms, hk, rfl, hl8, hl16, hwd, hoc, hbx, hrh, hrm, hb7, hb8, hlow⟩ := hrel
        clear HST
        by_cases hlt : k < 256
        · have qlt : decide ((k : Int) < 256) = true := by simp; omega
          have qltn : decide (k < 256) = true := by simp; omega
          have hgw := HGW0.out
          have hrl := HM.out.len
          obtain ⟨x, hx⟩ : ∃ z, s.m.r[k]? = some z := ⟨_, List.getElem?_eq_getElem (by omega)⟩
          have hxu : U32 x := HM.out.r x (List.mem_iff_getElem?.2 ⟨k, hx⟩)
          obtain ⟨r8, hr8⟩ : ∃ z, k % 8 = z := ⟨_, rfl⟩
          obtain ⟨r16, hr16⟩ : ∃ z, k % 16 = z := ⟨_, rfl⟩
          have hl1 : r8 < 8 := by omega
          have hl2 : r16 < 16 := by omega
          have m8 : (k : Int).tmod 8 = (r8 : Int) := by rw [Int.tmod_eq_emod_of_nonneg (by omega)]; omega
          have m16 : (k : Int).tmod 16 = (r16 : Int) := by rw [Int.tmod_eq_emod_of_nonneg (by omega)]; omega
          obtain ⟨y, hy⟩ : ∃ z, hs[r8]? = some z := ⟨_, List.getElem?_eq_getElem (by omega)⟩
          obtain ⟨z, hz2⟩ : ∃ z, ms[r16]? = some z := ⟨_, List.getElem?_eq_getElem (by omega)⟩
          have c1 := hbx.ch
          have c2 := hbx.cm
          have c3 := hbx.cr hx
          have c5 : wr.cell? ⟨gh, r8, none⟩ = some (.int .u32 y) := hrh.cell (by rw [List.getElem?_map, hy]; rfl)
          have c6 : wr.cell? ⟨gm, r16, none⟩ = some (.int .u8 z) := hrm.cell (by rw [List.getElem?_map, hz2]; rfl)
          have f5 := hrh.fz r8
          have f6 := hrm.fz r16
          obtain ⟨curh, hbh, _⟩ := id hrh
          have n1 : ¬ gh = w.heap.size := hrh.ne hbx.blk (by decide)
          have n2 : ¬ gm = w.heap.size := hrm.ne hbx.blk (by decide)
          have n3 : ¬ gm = gh := hrm.ne hbh (by decide)
          have n4 : ¬ b7 = gh := fun e => hrh.ne hb7 (by decide) e.symm
          have n5 : ¬ b8 = gh := fun e => hrh.ne hb8 (by decide) e.symm
          have n6 : ¬ b7 = gm := fun e => hrm.ne hb7 (by decide) e.symm
          have n7 : ¬ b8 = gm := fun e => hrm.ne hb8 (by decide) e.symm
          have hf : Frm (fun q => q = gh) wr (wr.setCell ⟨gh, r8, none⟩ (.int .u32 (bits .xor .u32 y x))).drew := ((Frm.refl (fun q => q = gh) wr).setCell (p := ⟨gh, r8, none⟩) (fun _ => rfl) _).drew
          have hrh2 : RowAt (wr.setCell ⟨gh, r8, none⟩ (.int .u32 (bits .xor .u32 y x))).drew gh 45 ((hs.set r8 (bits .xor .u32 y x)).map (.int .u32)) := by
            rw [List.map_set]
            exact hrh.set r8 _
          obtain ⟨W2, hW2⟩ : ∃ z, (wr.setCell ⟨gh, r8, none⟩ (.int .u32 (bits .xor .u32 y x))).drew = z := ⟨_, rfl⟩
          rw [hW2] at hf hrh2
          have hbx2 : MBox W2 w.heap.size s.m (.slice (some ⟨gh, 0, none⟩) 8 8) (.slice (some ⟨gm, 0, none⟩) 16 16) := ⟨hbx.blk.frm hf (fun e => n1 e.symm), hbx.ok⟩
          have hrm2 := hrm.frm hf n3
          have hlow2 := hlow.trans (hf.to_below hlow.size (fun q hq => by rw [hq]; exact hgw.1))
          have HB7 := Lib.hid (hb7.frm hf n4)
          have HB8 := Lib.hid (hb8.frm hf n5)
          have HBX2 := Lib.hid hbx2
          have HRH2 := Lib.hid hrh2
          have HRM2 := Lib.hid hrm2
          have HLOW2 := Lib.hid hlow2
          have HWD := Lib.hid hwd
          have HOC := Lib.hid hoc
          have HL8 := Lib.hid hl8
          have HL16 := Lib.hid hl16
          have N := Lib.hid (And.intro n2 (And.intro n3 (And.intro n6 n7)))
          have HGW := Lib.hid hgw
          have d2 := hbx2.cm
          have d3 := hbx2.cr hx
          have d6 : W2.cell? ⟨gm, r16, none⟩ = some (.int .u8 z) := hrm2.cell (by rw [List.getElem?_map, hz2]; rfl)
          have e6 := hrm2.fz r16
          have HK256 := Lib.hid hlt
          clear hk hr8 hr16 hwd hoc hl8 hl16 hbx hrh hrm hb7 hb8 hlow hbh n1 n2 n3 n4 n5 n6 n7 hf hbx2 hrh2 hrm2 hlow2 hrl hx hxu hy hz2 hgw
          go_upto_region 8 with fail
          go_region
          try rw [hW2]
          clear hW2 c1 c2 c3 c5 c6 f5 f6
          go_upto_region 9 with fail
          go_region
          go_wp2_with fail
          go_roundw
          case rel =>
            have hfm : Frm (fun q => q = gm) W2 (W2.setCell ⟨gm, r16, none⟩ (.int .u8 (bits .xor .u8 z (x / 256 % 256)))).drew := ((Frm.refl (fun q => q = gm) W2).setCell (p := ⟨gm, r16, none⟩) (fun _ => rfl) _).drew
            have hrm3 : RowAt (W2.setCell ⟨gm, r16, none⟩ (.int .u8 (bits .xor .u8 z (x / 256 % 256)))).drew gm 5 ((ms.set r16 (bits .xor .u8 z (x / 256 % 256))).map (.int .u8)) := by
              rw [List.map_set]
              exact HRM2.out.set r16 _
            exact ⟨k + 1, hs.set r8 _, ms.set r16 _, by have := HK256.out; omega, by go_num, by rw [List.length_set]; exact HL8.out, by rw [List.length_set]; exact HL16.out, mem_set HWD.out (bits_range _ _ _), mem_set HOC.out (bits8_range _ _ _), ⟨HBX2.out.blk.frm hfm (fun e => N.out.1 e.symm), HBX2.out.ok⟩, HRH2.out.frm hfm (fun e => N.out.2.1 e.symm), hrm3, HB7.out.frm hfm N.out.2.2.1, HB8.out.frm hfm N.out.2.2.2, HLOW2.out.trans (hfm.to_below HLOW2.out.size (fun q hq => by rw [hq]; exact HGW.out.2))⟩
          case measure => simp [intOf]; omega
        · have qlt : decide ((k : Int) < 256) = false := by simp; omega
          have qltn : decide (k < 256) = false := by simp; omega
          have hsok : (⟨s.m, hs, ms⟩ : St).ok := ⟨hbx.ok, hwd, hoc, by show rightM hs.length ms.length = true; rw [hl8, hl16]; decide +kernel⟩
          obtain ⟨s', hs'⟩ : ∃ z, (⟨s.m, hs, ms⟩ : St) = z := ⟨_, rfl⟩
          have hm' : s.m = s'.m := by rw [← hs']
          have hh' : hs = s'.hs := by rw [← hs']
          have hq' : ms = s'.ms := by rw [← hs']
          rw [hs'] at hsok
          rw [hm'] at hbx
          rw [hh'] at hrh hl8
          rw [hq'] at hrm hl16
          have pk := fun (a N : Int) (n : Nat) W h1 h2 h3 h4 h5 => pick_any a N n W h1 h2 h3 h4 h5
          have pk0 := fun W => pk a0 150 150 W rfl (by omega) (by omega) H0.out.1 H0.out.2
          have pk1 := fun W => pk a1 150 150 W rfl (by omega) (by omega) H1.out.1 H1.out.2
          have pk2 := fun W => pk a2 200 200 W rfl (by omega) (by omega) H2.out.1 H2.out.2
          have pk3 := fun W => pk a3 200 200 W rfl (by omega) (by omega) H3.out.1 H3.out.2
          have l0 := pickI_lt a0 150 (by omega)
          have l1 := pickI_lt a1 150 (by omega)
          have l2 := pickI_lt a2 200 (by omega)
          have l3 := pickI_lt a3 200 (by omega)
          generalize pickI a0 150 = p0 at pk0 l0
          generalize pickI a1 150 = p1 at pk1 l1
          generalize pickI a2 200 = p2 at pk2 l2
          generalize pickI a3 200 = p3 at pk3 l3
          have PK0 := Lib.hid pk0
          have PK1 := Lib.hid pk1
          have PK2 := Lib.hid pk2
          have PK3 := Lib.hid pk3
          have q0 := hb7.cell 0
          have q1 := hb7.cell 1
          have q2 := hb8.cell 0
          have q3 := hb8.cell 1
          simp only [List.getElem?_toArray, List.getElem?_cons_zero, List.getElem?_cons_succ] at q0 q1 q2 q3
          have SOK := Lib.hid hsok
          have BXF := Lib.hid hbx
          have RHF := Lib.hid hrh
          have RMF := Lib.hid hrm
          have LF := Lib.hid hlow
          have HL8 := Lib.hid hl8
          have HL16 := Lib.hid hl16
          have HGW := Lib.hid HGW0.out
          clear pk pk0 pk1 pk2 pk3 hsok hbx hrh hrm hlow hl8 hl16 hm' hh' hq' hs' hwd hoc hb7 hb8 hk hlt
          go_upto_region 11 with fail
          have hS : (fun W => W.cell? ⟨b7, 0, none⟩ = some (.int .i64 a0) ∧ W.cell? ⟨b7, 1, none⟩ = some (.int .i64 a1)) wr.drew := ⟨q0, q1⟩
          refine wp_region_held_drew (S := fun W => W.cell? ⟨b7, 0, none⟩ = some (.int .i64 a0) ∧ W.cell? ⟨b7, 1, none⟩ = some (.int .i64 a1)) (by kernel_rfl) hS (fun hHeld => ?_)
          clear hS
          refine wpAnyH_takeD (i := 0) (d := 67) (oi := _) (v := ?_) rfl rfl (by kernel_rfl) (by kernel_rfl) (by kernel_rfl) (fun _ _ _ h => h) (Or.inl ⟨by rfl, ?_⟩) (by assumption) ?_
          rotate_left
          · (intro w hSw; (try dsimp only at hSw); go_simp) <;> with_reducible rfl
          simp only [Act.put, setIfInBounds_toArray, set_cons_zero, set_cons_succ]
          refine wpAnyH_takeD (i := 1) (d := 68) (oi := _) (v := ?_) rfl rfl (by kernel_rfl) (by kernel_rfl) (by kernel_rfl) (fun _ _ _ h => h) (Or.inl ⟨by rfl, ?_⟩) (by assumption) ?_
          rotate_left
          · (intro w hSw; (try dsimp only at hSw); go_simp) <;> with_reducible rfl
          simp only [Act.put, setIfInBounds_toArray, set_cons_zero, set_cons_succ]
          refine wpAnyH_takeD (i := 3) (d := 70) (oi := _) (v := ?_) rfl rfl (by kernel_rfl) (by kernel_rfl) (by kernel_rfl) (fun _ _ _ h => h) (Or.inl ⟨by rfl, ?_⟩) (by assumption) ?_
          rotate_left
          · (intro w hSw; (try dsimp only at hSw); go_simp) <;> with_reducible rfl
          simp only [Act.put, setIfInBounds_toArray, set_cons_zero, set_cons_succ]
          refine wpAnyH_takeD (i := 4) (d := 71) (oi := _) (v := ?_) rfl rfl (by kernel_rfl) (by kernel_rfl) (by kernel_rfl) (fun _ _ _ h => h) (Or.inl ⟨by rfl, ?_⟩) (by assumption) ?_
          rotate_left
          · (intro w hSw; (try dsimp only at hSw); go_simp) <;> with_reducible rfl
          simp only [Act.put, setIfInBounds_toArray, set_cons_zero, set_cons_succ]
          refine wpAnyH_ready (rs := [2]) (by kernel_rfl) (by simp) ?_
          refine AllReadyH.cons (o := _) rfl (fun K hK => ?_) AllReadyH.nil
          go_simp
          refine (PK0.out _).mono ?_
          rintro e wp ⟨rfl, rfl⟩
          go_wp2_with fail
          refine hK.out _ _ hHeld (fun hHeld => ?_)
          clear hK K
          try simp only [List.getElem_toArray, List.getElem_cons_zero, List.getElem_cons_succ, Act.put, setIfInBounds_toArray, set_cons_zero, set_cons_succ]
          refine wpAnyH_ready (rs := [5]) (by kernel_rfl) (by simp) ?_
          refine AllReadyH.cons (o := _) rfl (fun K hK => ?_) AllReadyH.nil
          go_simp
          refine (PK1.out _).mono ?_
          rintro e wq ⟨rfl, rfl⟩
          go_wp2_with fail
          refine hK.out _ _ hHeld (fun hHeld => ?_)
          clear hK K
          try simp only [List.getElem_toArray, List.getElem_cons_zero, List.getElem_cons_succ, Act.put, setIfInBounds_toArray, set_cons_zero, set_cons_succ]
          refine wpAnyH_takeD (i := 6) (d := 10) (oi := _) (v := ?_) rfl rfl (by kernel_rfl) (by kernel_rfl) (by kernel_rfl) (fun _ _ _ h => h) (Or.inl ⟨by rfl, ?_⟩) (by assumption) ?_
          rotate_left
          · (intro w hSw; (try dsimp only at hSw); go_simp) <;> with_reducible rfl
          simp only [Act.put, setIfInBounds_toArray, set_cons_zero, set_cons_succ]
          refine wpAnyH_takeD (i := 7) (d := 11) (oi := _) (v := ?_) rfl rfl (by kernel_rfl) (by kernel_rfl) (by kernel_rfl) (fun _ _ _ h => h) (Or.inl ⟨by rfl, ?_⟩) (by assumption) ?_
          rotate_left
          · (intro w hSw; (try dsimp only at hSw); go_simp) <;> with_reducible rfl
          simp only [Act.put, setIfInBounds_toArray, set_cons_zero, set_cons_succ]
          refine wpAnyH_done (by kernel_rfl) ?_ _
          go_upto_region 12 with fail
          have hS : (fun W => W.cell? ⟨b8, 0, none⟩ = some (.int .i64 a2) ∧ W.cell? ⟨b8, 1, none⟩ = some (.int .i64 a3)) wr.drew.drew := ⟨q2, q3⟩
          refine wp_region_held_drew (S := fun W => W.cell? ⟨b8, 0, none⟩ = some (.int .i64 a2) ∧ W.cell? ⟨b8, 1, none⟩ = some (.int .i64 a3)) (by kernel_rfl) hS (fun hHeld => ?_)
          clear hS
          refine wpAnyH_takeD (i := 0) (d := 73) (oi := _) (v := ?_) rfl rfl (by kernel_rfl) (by kernel_rfl) (by kernel_rfl) (fun _ _ _ h => h) (Or.inl ⟨by rfl, ?_⟩) (by assumption) ?_
          rotate_left
          · (intro w hSw; (try dsimp only at hSw); go_simp) <;> with_reducible rfl
          simp only [Act.put, setIfInBounds_toArray, set_cons_zero, set_cons_succ]
          refine wpAnyH_takeD (i := 1) (d := 74) (oi := _) (v := ?_) rfl rfl (by kernel_rfl) (by kernel_rfl) (by kernel_rfl) (fun _ _ _ h => h) (Or.inl ⟨by rfl, ?_⟩) (by assumption) ?_
          rotate_left
          · (intro w hSw; (try dsimp only at hSw); go_simp) <;> with_reducible rfl
          simp only [Act.put, setIfInBounds_toArray, set_cons_zero, set_cons_succ]
          refine wpAnyH_takeD (i := 3) (d := 76) (oi := _) (v := ?_) rfl rfl (by kernel_rfl) (by kernel_rfl) (by kernel_rfl) (fun _ _ _ h => h) (Or.inl ⟨by rfl, ?_⟩) (by assumption) ?_
          rotate_left
          · (intro w hSw; (try dsimp only at hSw); go_simp) <;> with_reducible rfl
          simp only [Act.put, setIfInBounds_toArray, set_cons_zero, set_cons_succ]
          refine wpAnyH_takeD (i := 4) (d := 77) (oi := _) (v := ?_) rfl rfl (by kernel_rfl) (by kernel_rfl) (by kernel_rfl) (fun _ _ _ h => h) (Or.inl ⟨by rfl, ?_⟩) (by assumption) ?_
          rotate_left
          · (intro w hSw; (try dsimp only at hSw); go_simp) <;> with_reducible rfl
          simp only [Act.put, setIfInBounds_toArray, set_cons_zero, set_cons_succ]
          refine wpAnyH_ready (rs := [2]) (by kernel_rfl) (by simp) ?_
          refine AllReadyH.cons (o := _) rfl (fun K hK => ?_) AllReadyH.nil
          go_simp
          refine (PK2.out _).mono ?_
          rintro e wp ⟨rfl, rfl⟩
          go_wp2_with fail
          refine hK.out _ _ hHeld (fun hHeld => ?_)
          clear hK K
          try simp only [List.getElem_toArray, List.getElem_cons_zero, List.getElem_cons_succ, Act.put, setIfInBounds_toArray, set_cons_zero, set_cons_succ]
          refine wpAnyH_ready (rs := [5]) (by kernel_rfl) (by simp) ?_
          refine AllReadyH.cons (o := _) rfl (fun K hK => ?_) AllReadyH.nil
          go_simp
          refine (PK3.out _).mono ?_
          rintro e wq ⟨rfl, rfl⟩
          go_wp2_with fail
          refine hK.out _ _ hHeld (fun hHeld => ?_)
          clear hK K
          try simp only [List.getElem_toArray, List.getElem_cons_zero, List.getElem_cons_succ, Act.put, setIfInBounds_toArray, set_cons_zero, set_cons_succ]
          refine wpAnyH_takeD (i := 6) (d := 12) (oi := _) (v := ?_) rfl rfl (by kernel_rfl) (by kernel_rfl) (by kernel_rfl) (fun _ _ _ h => h) (Or.inl ⟨by rfl, ?_⟩) (by assumption) ?_
          rotate_left
          · (intro w hSw; (try dsimp only at hSw); go_simp) <;> with_reducible rfl
          simp only [Act.put, setIfInBounds_toArray, set_cons_zero, set_cons_succ]
          refine wpAnyH_takeD (i := 7) (d := 13) (oi := _) (v := ?_) rfl rfl (by kernel_rfl) (by kernel_rfl) (by kernel_rfl) (fun _ _ _ h => h) (Or.inl ⟨by rfl, ?_⟩) (by assumption) ?_
          rotate_left
          · (intro w hSw; (try dsimp only at hSw); go_simp) <;> with_reducible rfl
          simp only [Act.put, setIfInBounds_toArray, set_cons_zero, set_cons_succ]
          refine wpAnyH_done (by kernel_rfl) ?_ _
          have dW : Below wr.heap.size wr wr.drew.drew := ((Below.refl _ wr).drew).drew
          obtain ⟨Wf, hWf⟩ : ∃ z, wr.drew.drew = z := ⟨_, rfl⟩
          rw [hWf] at dW ⊢
          have bx := BXF.out.below dW
          have z9 := Mc.size SOK.out.m (.slice (some ⟨gh, 0, none⟩) 8 8) (.slice (some ⟨gm, 0, none⟩) 16 16)
          obtain ⟨c9, hc9⟩ : ∃ z, s'.m.cells (.slice (some ⟨gh, 0, none⟩) 8 8) (.slice (some ⟨gm, 0, none⟩) 16 16) = z := ⟨_, rfl⟩
          rw [hc9] at z9
          have rg9 : ∀ W, Below Wf.heap.size Wf W → W.rangeAt w.heap.size 0 c9.toList := fun W hW j u hu => by
            rw [Nat.zero_add, (bx.below hW).blk.cell j, hc9]
            simpa using hu
          have SL9 : Hid ((Try.prog.info? 50).map (·.size) = some c9.toList.length) := Lib.hid (by rw [Array.length_toList, z9]; exact size50)
          have RG9 := Lib.hid rg9
          have HC9 := Lib.hid hc9
          have L9 := Lib.hid (ch0 LF.out dW)
          have RH9 := Lib.hid (RHF.out.below dW)
          have RM9 := Lib.hid (RMF.out.below dW)
          clear dW bx z9 hc9 rg9 hWf q0 q1 q2 q3 PK0 PK1 PK2 PK3 BXF RHF RMF LF
          have run := fun (V : World) (hV : Below Wf.heap.size Wf V) (f m : Nat) (h1 : f ≤ 1000) (h2 : m ≤ 1000) => run_any bs A n c true s' SOK.out.m SOK.out.hw SOK.out.mo (some ⟨gh, 0, none⟩) (some ⟨gm, 0, none⟩) 8 8 16 16 (f : Int) (m : Int) V HN.out HO.out (HR.out.below (ch0 L9.out hV) rfl) HNM.out HL8.out.symm HL16.out.symm (RH9.out.below hV).rd (RM9.out.below hV).rd (fun h => by cases h) (fun h => by cases h) (by omega) (by omega) (by omega) (by omega) (by omega)
          simp only [HC9.out] at run
          have RUN := Lib.hid run
          have HX0 := Lib.hid HX.out
          clear run
          go_upto_region 13 with fail
          go_cut [14, 15, 16] from 80 (fun u14 u15 u16 wx => ∃ (g f m : Nat) (z : Int) (r : St × List Int × Int), u14 = .pointer (some ⟨g, 0, none⟩) ∧ u16 = .int .i64 z ∧ f = min p0 p1 ∧ m = min p2 p3 ∧ Res bs s' f m Wf g u15 z r wx)
          case first =>
            go_wp2_with (refine wpList_load_midA rfl 50 (.tmp 4) rfl w.heap.size 0 rfl c9 _ (RG9.out _ (Below.refl _ _)) Try.underlying50 rfl SL9.out ?_; simp only [Act.put, setIfInBounds_toArray, set_cons_zero, set_cons_succ])
            all_goals
              refine (RUN.out _ (Below.refl _ _) _ _ (by omega) (by omega)).mono ?_
              rintro e w5 ⟨⟨x1, y1, z1⟩, hrv1, ⟨vh, vm, vo, rfl, oh, om, oo⟩, l5⟩
              have hok1 : x1.m.ok := runV_ok HX0.out SOK.out (by omega) hrv1
              have hrs := Res.mk' hrv1 rfl hok1 oh om oo l5
              have one := Mc.one (m := x1.m) oh.one om.one
              have hsz := Mc.size hok1 vh vm
              obtain ⟨c5, hc5⟩ : ∃ z, x1.m.cells vh vm = z := ⟨_, rfl⟩
              dsimp only
              rw [hc5] at one hsz hrs ⊢
              have SI5 : Hid ((Try.prog.info? 50).map (·.size) = some c5.size) := Lib.hid (by rw [hsz]; exact size50)
              have SS5 : Hid (zs.size = c5.size) := Lib.hid (by rw [hsz]; exact HZN.out)
              have ONE5 := Lib.hid one
              have HRS := Lib.hid hrs
              clear one hsz hrs hok1 oh om oo l5 hc5 hrv1
              go_wp2_with (refine wpList_store_row rfl 50 (.tmp 14) (.tmp 89) rfl w5.heap.size c5 rfl rfl 50 _ (heap_alloc_new _ _) SI5.out SS5.out ONE5.out ?_; rw [World.setRow_alloc_new])
              go_meet
              exact ⟨_, _, _, _, _, rfl, rfl, by omega, by omega, HRS.out⟩
          case rest =>
            obtain ⟨g1, f1, m1, z1, r1, rfl, rfl, hf1, hm1, hres⟩ := hcut
            obtain ⟨W5, rfl⟩ : ∃ z, z = wc := ⟨_, rfl⟩
            have HRES := Lib.hid hres
            have HF1 := Lib.hid hf1
            have HM1 := Lib.hid hm1
            clear hres hf1 hm1
            go_upto_region 14 with fail
            go_cut [17, 18, 19] from 93 (fun u17 u18 u19 wx => ∃ (g f m : Nat) (z : Int) (r : St × List Int × Int), u17 = .pointer (some ⟨g, 0, none⟩) ∧ u19 = .int .i64 z ∧ f = max p0 p1 ∧ m = max p2 p3 ∧ Res bs s' f m W5 g u18 z r wx)
            case first =>
              go_wp2_with (refine wpList_load_midA rfl 50 (.tmp 4) rfl w.heap.size 0 rfl c9 _ (RG9.out _ HRES.out.low) Try.underlying50 rfl SL9.out ?_; simp only [Act.put, setIfInBounds_toArray, set_cons_zero, set_cons_succ])
              all_goals
                refine (RUN.out _ HRES.out.low _ _ (by omega) (by omega)).mono ?_
                rintro e w6 ⟨⟨x1, y1, z2⟩, hrv1, ⟨vh, vm, vo, rfl, oh, om, oo⟩, l5⟩
                have hok1 : x1.m.ok := runV_ok HX0.out SOK.out (by omega) hrv1
                have hrs := Res.mk' hrv1 rfl hok1 oh om oo l5
                have one := Mc.one (m := x1.m) oh.one om.one
                have hsz := Mc.size hok1 vh vm
                obtain ⟨c5, hc5⟩ : ∃ z, x1.m.cells vh vm = z := ⟨_, rfl⟩
                dsimp only
                rw [hc5] at one hsz hrs ⊢
                have SI5 : Hid ((Try.prog.info? 50).map (·.size) = some c5.size) := Lib.hid (by rw [hsz]; exact size50)
                have SS5 : Hid (zs.size = c5.size) := Lib.hid (by rw [hsz]; exact HZN.out)
                have ONE5 := Lib.hid one
                have HRS := Lib.hid hrs
                clear one hsz hrs hok1 oh om oo l5 hc5 hrv1
                go_wp2_with (refine wpList_store_row rfl 50 (.tmp 17) (.tmp 102) rfl w6.heap.size c5 rfl rfl 50 _ (heap_alloc_new _ _) SI5.out SS5.out ONE5.out ?_; rw [World.setRow_alloc_new])
                go_meet
                exact ⟨_, _, _, _, _, rfl, rfl, by omega, by omega, HRS.out⟩
            case rest =>
              obtain ⟨g2, f2, m2, z2, r2, rfl, rfl, hf2, hm2, hres2⟩ := hcut
              obtain ⟨W6, rfl⟩ : ∃ z, z = wc := ⟨_, rfl⟩
              have hboth := ends_both HX0.out SOK.out (show (f1 : Int) ≤ (f2 : Int) by have := HF1.out; omega) (show (m1 : Int) ≤ (m2 : Int) by have := HM1.out; omega) (by omega) HRES.out.run hres2.run
              have LW6 := Lib.hid (ch0 (ch0 L9.out HRES.out.low) hres2.low)
              have hz1 := HRES.out.z
              have hz2 := hres2.z
              have hmm := HM1.out
              rcases hboth with ⟨hz, hr2, hend⟩ | ⟨hz, ho1, hx1⟩
              · subst hr2
                obtain rfl : z1 = 0 := by rw [← hz1]; exact hz
                obtain rfl : z2 = 0 := by rw [← hz2]; exact hz
                have hr1 := HRES.out.below hres2.low
                obtain ⟨vh, vm, bx1, oh1, om1⟩ := hr1.box
                obtain ⟨vh2, vm2, bx2, oh2, om2⟩ := hres2.box
                have h26 := fun W (hW : Below W6.heap.size W6 W) => same_own r2.1 hr1.ok 0 0 vh vm vh2 vm2 W (oh1.below hW) (om1.below hW) (oh2.below hW) (om2.below hW) (by rw [hend.hs, HL8.out]; omega) (by rw [hend.ms, HL16.out]; omega)
                obtain ⟨A1, d1, e1, _, _, _⟩ := oh1.form
                obtain ⟨A2, d2, e2, _, _, _⟩ := om1.form
                rw [List.length_map, hend.hs, HL8.out] at e1
                rw [List.length_map, hend.ms, HL16.out] at e2
                obtain ⟨A3, d3, e3, _, ro3, _⟩ := hr1.out.form
                obtain ⟨A4, d4, e4, _, ro4, _⟩ := hres2.out.form
                rw [List.length_map] at e3 e4
                have hlen := hend.len
                obtain ⟨np, hnp⟩ : ∃ z, r2.2.1.length = z := ⟨_, rfl⟩
                have h33 := fun W (hW : Below W6.heap.size W6 W) => sameBytes_any r2.2.1 r2.2.1 A3 A4 np np d3 d4 W hnp.symm hnp.symm (ro3.below hW rfl) (ro4.below hW rfl) (by rw [← hnp]; omega)
                simp only [decide_true] at h33
                rw [hnp] at e3 e4 hlen
                subst e1 e2 e3 e4
                have z5 := Mc.size hr1.ok (.slice A1 8 d1) (.slice A2 16 d2)
                have z6 := Mc.size hr1.ok vh2 vm2
                obtain ⟨c5, hc5⟩ : ∃ z, r2.1.m.cells (.slice A1 8 d1) (.slice A2 16 d2) = z := ⟨_, rfl⟩
                obtain ⟨c6, hc6⟩ : ∃ z, r2.1.m.cells vh2 vm2 = z := ⟨_, rfl⟩
                simp only [hc5, hc6] at h26
                rw [hc5] at z5
                rw [hc6] at z6
                have rg5 : W6.rangeAt g1 0 c5.toList := fun j u hu => by
                  rw [Nat.zero_add, bx1.blk.cell j, hc5]
                  simpa using hu
                have rg6 : W6.rangeAt g2 0 c6.toList := fun j u hu => by
                  rw [Nat.zero_add, bx2.blk.cell j, hc6]
                  simpa using hu
                have SL5 : Hid ((Try.prog.info? 50).map (·.size) = some c5.toList.length) := Lib.hid (by rw [Array.length_toList, z5]; exact size50)
                have SL6 : Hid ((Try.prog.info? 50).map (·.size) = some c6.toList.length) := Lib.hid (by rw [Array.length_toList, z6]; exact size50)
                have RG5 := Lib.hid rg5
                have RG6 := Lib.hid rg6
                have H26 := Lib.hid h26
                have H33 := Lib.hid h33
                have BX5 := Lib.hid bx1
                have hle : np ≤ m1 := by omega
                have hsp : (p3 < p2 ∧ np ≤ p3) ∨ (¬ p3 < p2 ∧ np ≤ p2) := by omega
                clear rg5 rg6 h26 h33 bx1 bx2 hc5 hc6 z5 z6 oh1 om1 oh2 om2 ro3 ro4 hr1 hres2 hend hz hz1 hz2 HRES hle hlen hmm hnp hf2 hm2
                rcases hsp with ⟨hB1, hB2⟩ | ⟨hB1, hB2⟩
                all_goals
                  have hB3 := Int.ofNat_le.2 hB2
                  go_wp2_with (first
                    | (refine wpList_load_midA rfl 50 (.tmp 14) rfl g1 0 rfl c5 _ RG5.out Try.underlying50 rfl SL5.out ?_; simp only [Act.put, setIfInBounds_toArray, set_cons_zero, set_cons_succ])
                    | (refine wpList_load_midA rfl 50 (.tmp 17) rfl g2 0 rfl c6 _ RG6.out Try.underlying50 rfl SL6.out ?_; simp only [Act.put, setIfInBounds_toArray, set_cons_zero, set_cons_succ]))
                  refine (H26.out _ (Below.refl _ _)).mono ?_
                  rintro e w7 ⟨rfl, hb7⟩
                  have K7 := Lib.hid hb7
                  clear hb7
                  go_wp2_with fail
                  refine (H33.out _ K7.out).mono ?_
                  rintro e w8 ⟨rfl, hb8⟩
                  have K8 := Lib.hid (ch0 K7.out hb8)
                  have e1 := (BX5.out.below K8.out).ch
                  have e2 := (BX5.out.below K8.out).cm
                  clear hb8
                  go_wp2_with fail
                  refine (awake17 _).mono ?_
                  rintro e w9 ⟨rfl, hb9⟩
                  have K9 := Lib.hid (ch0 (ch0 LW6.out K8.out) hb9)
                  clear hb9
                  go_wp2_with fail
                  go_ret
                  exact ⟨rfl, K9.out⟩
              · obtain ⟨A3, d3, e3, _, _, _⟩ := HRES.out.out.form
                rw [List.length_map, ho1] at e3
                subst e3
                rw [hz1] at hz
                clear hz1 hz2 hmm hf2 hm2 hres2 HRES hx1 ho1
                rcases hz with rfl | rfl
                all_goals
                  go_wp2_with fail
                  refine (awake17 _).mono ?_
                  rintro e w9 ⟨rfl, hb9⟩
                  have K9 := Lib.hid (ch0 LW6.out hb9)
                  clear hb9
                  go_wp2_with fail
                  go_ret
                  exact ⟨rfl, K9.out⟩
end Go.Proofs.Ytebmgladdgmmeaa
namespace Go.Proofs.Ytebmgladdgmmeaa
open Go.RowKit Go.WideShapes Go.ChangeShapes Go.Deep
set_option maxRecDepth 100000 in
theorem vmEnds_law {H : Type} {enc : TypeId × Value → H} {base0 base1 base2 : Nat} {d0 d1 d2 : DataW H} {p0 p1 p2 : List MemPlace} (v0 v1 v2 : Value) (w : World)
    (h0 : Value.okWide Try.prog w .any base0 48 v0) (k0 : DataW.Trod enc Try.prog w 0 (fun _ => true) true 48 v0 d0 p0) (h1 : Value.okWide Try.prog w .any base1 50 v1) (k1 : DataW.Trod enc Try.prog w 0 (fun _ => true) true 50 v1 d1 p1)
    (h2 : Value.okWide Try.prog w .any base2 60 v2) (k2 : DataW.Trod enc Try.prog w 0 (fun _ => true) true 60 v2 d2 p2) :
    Calls Try.prog 6 #[v0, v1, v2] w fun e w' => e = .returned (.bool true) ∧ Below w.heap.size w w' := by
  obtain ⟨a, len, cap, rfl⟩ := okWide_slice Try.underlying48 h0
  obtain ⟨fuel, hf⟩ := k0
  obtain ⟨bs, A, c, hv, ho, hr, hb, hcm⟩ := open_bytesG hf
  rw [hv]
  obtain ⟨s, Ah, Am, ch, cm, rfl, hin⟩ := open_machine h1 k1
  obtain ⟨a0, a1, a2, a3, rfl, w0, w1, w2, w3⟩ := open_four h2 k2
  unfold maxLen at hcm
  exact (ends6 bs A bs.length c s Ah Am ch cm a0 a1 a2 a3 w rfl ho hr (by omega) hin w0 w1 w2 w3).mono fun _ _ h => ⟨h.1, h.2⟩
end Go.Proofs.Ytebmgladdgmmeaa
