/- May a part stand at a place: of the reference: the walk. Places from 0 to 100000. -/
import Derived.Test.YtaiekpdoljleeaaPaKind
namespace Go.Proofs.Ytaiekpdoljleeaa
open Go.RowKit Go.WideShapes
set_option linter.unusedVariables false
set_option linter.unusedSimpArgs false
set_option maxRecDepth 100000 in
set_option maxHeartbeats 4000000 in
theorem one_any (t : Pt) (i : Int) (w : World) (i0 : 0 ≤ i) (i1 : i ≤ 100000) : Calls Try.prog 43 #[t.agg, .int .i64 i] w (Quiet (.bool (oneP t i)) w) := by
  have hf := fun W => fields_any t W
  have hp := fun W => placesR_any t W
  obtain ⟨f, hfe⟩ : ∃ f, fieldsP t = f := ⟨_, rfl⟩
  rw [hfe] at hf
  obtain ⟨pl, hpl⟩ : ∃ p, placesP t.k t.s t.b = p := ⟨_, rfl⟩
  simp only [hpl] at hp
  have HFE := Lib.hid hfe
  have HPL := Lib.hid hpl
  clear hfe hpl
  obtain ⟨k, s, a, b, c, r, l⟩ := t
  obtain ⟨fk, fs, fa, fb, fc, fr, fl⟩ := f
  unfold Pt.agg at hf hp ⊢
  simp only at hf hp ⊢
  have HF := Lib.hid hf
  have HP := Lib.hid hp
  clear hf hp
  have hq := fun W => eqPt fk fs fa fb fc fr fl k s a b c r l W
  obtain ⟨D, hD⟩ : ∃ D, ptB ⟨fk, fs, fa, fb, fc, fr, fl⟩ ⟨k, s, a, b, c, r, l⟩ = D := ⟨_, rfl⟩
  simp only [hD] at hq
  have HD := Lib.hid hD
  clear hD
  go_enter Try.func43, Try.ntmps43
  go_wp2_with fail
  go_region_held3 (fun w' => w'.cell? ⟨w.heap.size, 0, none⟩ = some (.int .u8 k) ∧ w'.cell? ⟨w.heap.size, 1, none⟩ = some (.int .i64 s) ∧ w'.cell? ⟨w.heap.size, 2, none⟩ = some (.int .i64 a) ∧ w'.cell? ⟨w.heap.size, 3, none⟩ = some (.int .i64 b) ∧ w'.cell? ⟨w.heap.size, 4, none⟩ = some (.int .i64 c) ∧ w'.cell? ⟨w.heap.size, 5, none⟩ = some (.int .i64 r) ∧ w'.cell? ⟨w.heap.size, 6, none⟩ = some (.int .i64 l)) (first | go_keep | (refine ⟨?_, ?_, ?_, ?_, ?_, ?_, ?_⟩ <;> assumption))
    ((go_at_call 63; ((refine (HF.out _).mono ?_)); rintro e w1 ⟨rfl, hb1⟩; have hB := (Blk.new w 32 #[.int .u8 k, .int .i64 s, .int .i64 a, .int .i64 b, .int .i64 c, .int .i64 r, .int .i64 l]).drew.below hb1; have p0 := hB.cell 0; have p1 := hB.cell 1; have p2 := hB.cell 2; have p3 := hB.cell 3; have p4 := hB.cell 4; have p5 := hB.cell 5; have p6 := hB.cell 6; simp at p0 p1 p2 p3 p4 p5 p6; have HB1 := Lib.hid hb1; clear hb1 hB))
  all_goals
    have HB2 : Hid (Below w.heap.size w w1) := ((Below.refl w.heap.size w).alloc (Nat.le_refl _) _).trans (of_drew (HB1.out.mono (by show _ ≤ (w.alloc _).heap.size; rw [World.size_alloc]; omega)))
    have hsz1 : w.heap.size < w1.heap.size := by have h := HB1.out.size; rw [show (World.drew _).heap.size = (w.alloc (.cells #[.int .u8 k, .int .i64 s, .int .i64 a, .int .i64 b, .int .i64 c, .int .i64 r, .int .i64 l] 32)).heap.size from rfl, World.size_alloc] at h; omega
    clear HB1
  all_goals cases D
  · go_wp2_with fail
    go_ret
    refine ⟨ret_bool ?_, HB2.out⟩
    have hd := HD.out
    cases hone : oneP ⟨k, s, a, b, c, r, l⟩ i
    · rfl
    · have h2 := one_fields _ _ hone
      rw [HFE.out] at h2
      rw [h2, ptB_same] at hd
      cases hd
  · have hd := (ptB_iff _ _).1 HD.out
    have hfx := HFE.out.trans hd
    have HX := Lib.hid hfx
    clear hd hfx HD HFE HF
    go_wp2_with fail
    refine (HP.out _).mono ?_
    rintro e w2 ⟨rfl, hb2⟩
    obtain ⟨hc2, _⟩ := bcell hb2
    have q0 := (hc2 w.heap.size 0 hsz1).trans p0
    have q2 := (hc2 w.heap.size 2 hsz1).trans p2
    have q3 := (hc2 w.heap.size 3 hsz1).trans p3
    have q4 := (hc2 w.heap.size 4 hsz1).trans p4
    have q5 := (hc2 w.heap.size 5 hsz1).trans p5
    have q6 := (hc2 w.heap.size 6 hsz1).trans p6
    have HB3 := Lib.hid (ch0 HB2.out hb2)
    clear hc2 p0 p1 p2 p3 p4 p5 p6 hb2 HB2 hsz1
    go_wp2_with (go_at_call 45; refine (within_any _ _ _ _).mono ?_; rintro e w3 ⟨rfl, rfl⟩)
    all_goals
      go_ret
      refine ⟨ret_bool ?_, HB3.out⟩
      have hx := HX.out
      have hpl := HPL.out
      clear HX HPL HB3 HP q0 q2 q3 q4 q5 q6 hq
      rcases kind_cases k with rfl | rfl | rfl | rfl | rfl | rfl | rfl | rfl | rfl | h
      · first | (exfalso; simp_all; done) | (rw [one_1 s a b c r l i hx]; done) | (rw [one_1 s a b c r l i hx]; simp_all; done) | (rw [one_1 s a b c r l i hx]; rw [hpl, show decide (0 < pl) = false by simp; omega]; rfl)
      · first | (exfalso; simp_all; done) | (rw [one_2 s a b c r l i hx]; done) | (rw [one_2 s a b c r l i hx]; simp_all; done) | (rw [one_2 s a b c r l i hx]; rw [hpl, show decide (0 < pl) = false by simp; omega]; rfl)
      · first | (exfalso; simp_all; done) | (rw [one_3 s a b c r l i hx]; done) | (rw [one_3 s a b c r l i hx]; simp_all; done) | (rw [one_3 s a b c r l i hx]; rw [hpl, show decide (0 < pl) = false by simp; omega]; rfl)
      · first | (exfalso; simp_all; done) | (rw [one_4 s a b c r l i hx]; done) | (rw [one_4 s a b c r l i hx]; simp_all; done) | (rw [one_4 s a b c r l i hx]; rw [hpl, show decide (0 < pl) = false by simp; omega]; rfl)
      · first | (exfalso; simp_all; done) | (rw [one_5 s a b c r l i hx]; done) | (rw [one_5 s a b c r l i hx]; simp_all; done) | (rw [one_5 s a b c r l i hx]; rw [hpl, show decide (0 < pl) = false by simp; omega]; rfl)
      · first | (exfalso; simp_all; done) | (rw [one_6 s a b c r l i hx]; done) | (rw [one_6 s a b c r l i hx]; simp_all; done) | (rw [one_6 s a b c r l i hx]; rw [hpl, show decide (0 < pl) = false by simp; omega]; rfl)
      · first | (exfalso; simp_all; done) | (have hb := ((places_pos 7 s b).1 (by rw [hpl]; assumption)).2 rfl; have ha : inB a 0 (i - 1) true = true := (by assumption); simp [inB] at ha; have ew : wrap64 (a + b) = a + b := (by unfold wrap64; omega); rw [one_7 s a b c r l i hx]; simp_all; done) | (have hb := ((places_pos 7 s b).1 (by rw [hpl]; assumption)).2 rfl; have ha : inB a 0 (i - 1) true = true := (by assumption); simp [inB] at ha; have ew : wrap64 (a + b) = a + b := (by unfold wrap64; omega); have hlt : i < wrap64 (a + b) := (by assumption); rw [ew] at hlt; rw [one_7 s a b c r l i hx]; have hd : decide (a + b ≤ i) = false := (by simp; omega); rw [hd]; simp; done) | (rw [one_7 s a b c r l i hx]; done) | (rw [one_7 s a b c r l i hx]; simp_all; done) | (rw [one_7 s a b c r l i hx]; rw [hpl, show decide (0 < pl) = false by simp; omega]; rfl)
      · first | (exfalso; simp_all; done) | (rw [one_8 s a b c r l i hx]; done) | (rw [one_8 s a b c r l i hx]; simp_all; done) | (rw [one_8 s a b c r l i hx]; rw [hpl, show decide (0 < pl) = false by simp; omega]; rfl)
      · first | (exfalso; simp_all; done) | (rw [one_9 s a b c r l i hx]; done) | (rw [one_9 s a b c r l i hx]; simp_all; done) | (rw [one_9 s a b c r l i hx]; rw [hpl, show decide (0 < pl) = false by simp; omega]; rfl)
      · first | (exfalso; simp only [beq_iff_eq] at *; omega) | (rw [one_none k s a b c r l i h])
end Go.Proofs.Ytaiekpdoljleeaa
