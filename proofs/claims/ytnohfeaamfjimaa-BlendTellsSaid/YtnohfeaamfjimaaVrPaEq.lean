/- '==' of two parts. Plain. · What makes a part right, kind by kind. Plain. · May a part stand at a place: of the reference: the walk. Places from 0 to 100000. · All parts' places, the program's and the reference's: walks. Lists of at most 5000 parts. · May a model have these parts, the program's and the reference's: walks. Lists of at most 5000 parts. · A list of parts copied, and compared with itself: walks. Lists of at most 5000 parts. -/
import Derived.Test.YtnohfeaamfjimaaVrPaFld
import Derived.Laws.StructEq
namespace Go.Proofs.Ytnohfeaamfjimaa
open Go.RowKit Go.WideShapes
set_option linter.unusedVariables false
def ptB (x y : Pt) : Bool := x.k == y.k && x.s == y.s && x.a == y.a && x.b == y.b && x.c == y.c && x.r == y.r && x.l == y.l
theorem ptB_iff (x y : Pt) : ptB x y = true ↔ x = y := by
  obtain ⟨k, s, a, b, c, r, l⟩ := x
  obtain ⟨k', s', a', b', c', r', l'⟩ := y
  simp [ptB, and_assoc]
theorem ptB_same (x : Pt) : ptB x x = true := (ptB_iff x x).2 rfl
set_option maxHeartbeats 2000000 in
theorem eqPt (k s a b c r l k' s' a' b' c' r' l' : Int) (w : World) :
    (Op.equalIn 10000 25 (.agg #[.int .u8 k, .int .i64 s, .int .i64 a, .int .i64 b, .int .i64 c, .int .i64 r, .int .i64 l]) (.agg #[.int .u8 k', .int .i64 s', .int .i64 a', .int .i64 b', .int .i64 c', .int .i64 r', .int .i64 l'])).run Try.prog w
      = .ok (ptB ⟨k, s, a, b, c, r, l⟩ ⟨k', s', a', b', c', r', l'⟩) w := by
  have u3 := Try.underlying3
  have a3 := Try.isAgg3
  have z3 := Try.sizeOf3
  have u30 := Try.underlying22
  have a30 := Try.isAgg22
  have z30 := Try.sizeOf22
  have hS : Try.prog.underlying 25 = some (.struct (Try.prog.fieldsOf 25)) := by kernel_rfl
  rw [show (10000 : Nat) = 9999 + 1 from rfl, run_equalIn_agg w 9999 25 _ _ hS (by kernel_rfl)]
  simp only [Program.fieldsOf, Try.underlying25]
  go_simp
  unfold ptB
  by_cases h1 : k = k' <;> by_cases h2 : s = s' <;> by_cases h3 : a = a' <;> by_cases h4 : b = b' <;> by_cases h5 : c = c' <;> by_cases h6 : r = r' <;> by_cases h7 : l = l' <;> simp [h1, h2, h3, h4, h5, h6, h7]
end Go.Proofs.Ytnohfeaamfjimaa
namespace Go.Proofs.Ytnohfeaamfjimaa
open Go.RowKit Go.WideShapes
set_option linter.unusedVariables false
set_option linter.unusedSimpArgs false
theorem pw_pos (s : Int) : 0 < pw s := Int.pow_pos (by omega)
theorem places_pos (k s b : Int) : 0 < placesP k s b ↔ (szOk k s = true ∧ (k = 7 → 1 ≤ b ∧ b ≤ 8)) := by
  have hp := pw_pos s
  have hm : 1 ≤ b → 0 < pw s * b := fun h => Int.mul_pos hp (by omega)
  unfold placesP
  generalize pw s = q at *
  by_cases h : szOk k s = true
  · rw [if_pos h]
    by_cases h7 : k = 7
    · rw [if_neg (by omega), if_neg (by omega), if_pos h7]
      by_cases hb : 1 ≤ b ∧ b ≤ 8
      · rw [if_pos hb]
        have := hm hb.1
        exact ⟨fun _ => ⟨h, fun _ => hb⟩, fun _ => this⟩
      · rw [if_neg hb]
        exact ⟨fun h => by omega, fun h => absurd (h.2 h7) hb⟩
    · refine ⟨fun _ => ⟨h, fun e => absurd e h7⟩, fun _ => ?_⟩
      repeat' split
      all_goals omega
  · rw [if_neg h]
    exact ⟨fun h => by omega, fun h' => absurd h'.1 h⟩
theorem one_1 (s a b c r l i : Int) (h : fieldsP ⟨1, s, a, b, c, r, l⟩ = ⟨1, s, a, b, c, r, l⟩) : oneP ⟨1, s, a, b, c, r, l⟩ i = (inB c (-2047) 2047 true) := by
  simp [fieldsP] at h
  rw [Bool.eq_iff_iff]
  try simp only [Bool.and_eq_true, decide_eq_true_eq, places_pos]
  simp [oneP, okK, rowK, inB, szOk]
  omega
theorem one_2 (s a b c r l i : Int) (h : fieldsP ⟨2, s, a, b, c, r, l⟩ = ⟨2, s, a, b, c, r, l⟩) : oneP ⟨2, s, a, b, c, r, l⟩ i = (decide (0 < placesP 2 s b) && inB l 1 1023 true) := by
  simp [fieldsP] at h
  rw [Bool.eq_iff_iff]
  try simp only [Bool.and_eq_true, decide_eq_true_eq, places_pos]
  simp [oneP, okK, rowK, inB, szOk]
  omega
theorem one_3 (s a b c r l i : Int) (h : fieldsP ⟨3, s, a, b, c, r, l⟩ = ⟨3, s, a, b, c, r, l⟩) : oneP ⟨3, s, a, b, c, r, l⟩ i = (decide (0 < placesP 3 s b)) := by
  simp [fieldsP] at h
  rw [Bool.eq_iff_iff]
  try simp only [Bool.and_eq_true, decide_eq_true_eq, places_pos]
  simp [oneP, okK, rowK, inB, szOk]
  omega
theorem one_4 (s a b c r l i : Int) (h : fieldsP ⟨4, s, a, b, c, r, l⟩ = ⟨4, s, a, b, c, r, l⟩) : oneP ⟨4, s, a, b, c, r, l⟩ i = (decide (0 < placesP 4 s b)) := by
  simp [fieldsP] at h
  rw [Bool.eq_iff_iff]
  try simp only [Bool.and_eq_true, decide_eq_true_eq, places_pos]
  simp [oneP, okK, rowK, inB, szOk]
  omega
theorem one_5 (s a b c r l i : Int) (h : fieldsP ⟨5, s, a, b, c, r, l⟩ = ⟨5, s, a, b, c, r, l⟩) : oneP ⟨5, s, a, b, c, r, l⟩ i = (inB a 0 (i - 1) true && inB b 0 (i - 1) true && inB c 0 256 true) := by
  simp [fieldsP] at h
  rw [Bool.eq_iff_iff]
  try simp only [Bool.and_eq_true, decide_eq_true_eq, places_pos]
  simp [oneP, okK, rowK, inB, szOk]
  omega
theorem one_6 (s a b c r l i : Int) (h : fieldsP ⟨6, s, a, b, c, r, l⟩ = ⟨6, s, a, b, c, r, l⟩) : oneP ⟨6, s, a, b, c, r, l⟩ i = (decide (0 < placesP 6 s b) && inB a 0 (i - 1) true && inB b 0 (i - 1) true && inB r 1 64 true) := by
  simp [fieldsP] at h
  rw [Bool.eq_iff_iff]
  try simp only [Bool.and_eq_true, decide_eq_true_eq, places_pos]
  simp [oneP, okK, rowK, inB, szOk]
  omega
theorem one_7 (s a b c r l i : Int) (h : fieldsP ⟨7, s, a, b, c, r, l⟩ = ⟨7, s, a, b, c, r, l⟩) : oneP ⟨7, s, a, b, c, r, l⟩ i = (decide (0 < placesP 7 s b) && inB a 0 (i - 1) true && decide (a + b ≤ i) && inB r 1 64 true) := by
  simp [fieldsP] at h
  rw [Bool.eq_iff_iff]
  try simp only [Bool.and_eq_true, decide_eq_true_eq, places_pos]
  simp [oneP, okK, rowK, inB, szOk]
  omega
theorem one_8 (s a b c r l i : Int) (h : fieldsP ⟨8, s, a, b, c, r, l⟩ = ⟨8, s, a, b, c, r, l⟩) : oneP ⟨8, s, a, b, c, r, l⟩ i = (decide (0 < placesP 8 s b) && inB a 0 (i - 1) true) := by
  simp [fieldsP] at h
  rw [Bool.eq_iff_iff]
  try simp only [Bool.and_eq_true, decide_eq_true_eq, places_pos]
  simp [oneP, okK, rowK, inB, szOk]
  omega
theorem one_9 (s a b c r l i : Int) (h : fieldsP ⟨9, s, a, b, c, r, l⟩ = ⟨9, s, a, b, c, r, l⟩) : oneP ⟨9, s, a, b, c, r, l⟩ i = (decide (0 < placesP 9 s b) && inB a 0 (i - 1) true && inB l 1 1023 true) := by
  simp [fieldsP] at h
  rw [Bool.eq_iff_iff]
  try simp only [Bool.and_eq_true, decide_eq_true_eq, places_pos]
  simp [oneP, okK, rowK, inB, szOk]
  omega
theorem one_none (k s a b c r l i : Int) (h : k < 1 ∨ 9 < k) : oneP ⟨k, s, a, b, c, r, l⟩ i = false := by
  have e : okK k = false := by unfold okK; rw [Bool.and_eq_false_iff]; simp; omega
  unfold oneP
  simp [e]
theorem one_fields (t : Pt) (i : Int) (h : oneP t i = true) : fieldsP t = t := by
  obtain ⟨k, s, a, b, c, r, l⟩ := t
  rcases kind_cases k with rfl | rfl | rfl | rfl | rfl | rfl | rfl | rfl | rfl | hk
  · simp [oneP, okK, rowK, inB] at h
    simp [fieldsP]
    omega
  · simp [oneP, okK, rowK, inB] at h
    simp [fieldsP]
    omega
  · simp [oneP, okK, rowK, inB] at h
    simp [fieldsP]
    omega
  · simp [oneP, okK, rowK, inB] at h
    simp [fieldsP]
    omega
  · simp [oneP, okK, rowK, inB] at h
    simp [fieldsP]
    omega
  · simp [oneP, okK, rowK, inB] at h
    simp [fieldsP]
    omega
  · simp [oneP, okK, rowK, inB] at h
    simp [fieldsP]
    omega
  · simp [oneP, okK, rowK, inB] at h
    simp [fieldsP]
    omega
  · simp [oneP, okK, rowK, inB] at h
    simp [fieldsP]
    omega
  · rw [one_none k s a b c r l i hk] at h
    cases h
end Go.Proofs.Ytnohfeaamfjimaa
namespace Go.Proofs.Ytnohfeaamfjimaa
open Go.RowKit Go.WideShapes
set_option linter.unusedVariables false
set_option linter.unusedSimpArgs false
set_option maxRecDepth 100000 in
set_option maxHeartbeats 4000000 in
theorem one_any (t : Pt) (i : Int) (w : World) (i0 : 0 ≤ i) (i1 : i ≤ 100000) : Calls Try.prog 50 #[t.agg, .int .i64 i] w (Quiet (.bool (oneP t i)) w) := by
  have hf := fun W => fields_any t W
  have hp := fun W => placesR_any t W
  obtain ⟨f, hfe⟩ : ∃ f, fieldsP t = f := ⟨_, rfl⟩
  rw [hfe] at hf
  obtain ⟨pl, hpl⟩ : ∃ p, placesP t.k t.s t.b = p := ⟨_, rfl⟩
  simp only [hpl] at hp
  have HFE := Lib.hid hfe
  have HPL := Lib.hid hpl
  clear hfe hpl
  obtain ⟨k, s, a, b, c, r, l⟩ := t
  obtain ⟨fk, fs, fa, fb, fc, fr, fl⟩ := f
  unfold Pt.agg at hf hp ⊢
  simp only at hf hp ⊢
  have HF := Lib.hid hf
  have HP := Lib.hid hp
  clear hf hp
  have hq := fun W => eqPt fk fs fa fb fc fr fl k s a b c r l W
  obtain ⟨D, hD⟩ : ∃ D, ptB ⟨fk, fs, fa, fb, fc, fr, fl⟩ ⟨k, s, a, b, c, r, l⟩ = D := ⟨_, rfl⟩
  simp only [hD] at hq
  have HD := Lib.hid hD
  clear hD
  go_enter Try.func50, Try.ntmps50
  go_wp2_with fail
  go_region_held3 (fun w' => w'.cell? ⟨w.heap.size, 0, none⟩ = some (.int .u8 k) ∧ w'.cell? ⟨w.heap.size, 1, none⟩ = some (.int .i64 s) ∧ w'.cell? ⟨w.heap.size, 2, none⟩ = some (.int .i64 a) ∧ w'.cell? ⟨w.heap.size, 3, none⟩ = some (.int .i64 b) ∧ w'.cell? ⟨w.heap.size, 4, none⟩ = some (.int .i64 c) ∧ w'.cell? ⟨w.heap.size, 5, none⟩ = some (.int .i64 r) ∧ w'.cell? ⟨w.heap.size, 6, none⟩ = some (.int .i64 l)) (first | go_keep | (refine ⟨?_, ?_, ?_, ?_, ?_, ?_, ?_⟩ <;> assumption))
    ((go_at_call 66; ((refine (HF.out _).mono ?_)); rintro e w1 ⟨rfl, hb1⟩; have hB := (Blk.new w 25 #[.int .u8 k, .int .i64 s, .int .i64 a, .int .i64 b, .int .i64 c, .int .i64 r, .int .i64 l]).drew.below hb1; have p0 := hB.cell 0; have p1 := hB.cell 1; have p2 := hB.cell 2; have p3 := hB.cell 3; have p4 := hB.cell 4; have p5 := hB.cell 5; have p6 := hB.cell 6; simp at p0 p1 p2 p3 p4 p5 p6; have HB1 := Lib.hid hb1; clear hb1 hB))
  all_goals
    have HB2 : Hid (Below w.heap.size w w1) := ((Below.refl w.heap.size w).alloc (Nat.le_refl _) _).trans (of_drew (HB1.out.mono (by show _ ≤ (w.alloc _).heap.size; rw [World.size_alloc]; omega)))
    have hsz1 : w.heap.size < w1.heap.size := by have h := HB1.out.size; rw [show (World.drew _).heap.size = (w.alloc (.cells #[.int .u8 k, .int .i64 s, .int .i64 a, .int .i64 b, .int .i64 c, .int .i64 r, .int .i64 l] 25)).heap.size from rfl, World.size_alloc] at h; omega
    clear HB1
  all_goals cases D
  · go_wp2_with fail
    go_ret
    refine ⟨ret_bool ?_, HB2.out⟩
    have hd := HD.out
    cases hone : oneP ⟨k, s, a, b, c, r, l⟩ i
    · rfl
    · have h2 := one_fields _ _ hone
      rw [HFE.out] at h2
      rw [h2, ptB_same] at hd
      cases hd
  · have hd := (ptB_iff _ _).1 HD.out
    have hfx := HFE.out.trans hd
    have HX := Lib.hid hfx
    clear hd hfx HD HFE HF
    go_wp2_with fail
    refine (HP.out _).mono ?_
    rintro e w2 ⟨rfl, hb2⟩
    obtain ⟨hc2, _⟩ := bcell hb2
    have q0 := (hc2 w.heap.size 0 hsz1).trans p0
    have q2 := (hc2 w.heap.size 2 hsz1).trans p2
    have q3 := (hc2 w.heap.size 3 hsz1).trans p3
    have q4 := (hc2 w.heap.size 4 hsz1).trans p4
    have q5 := (hc2 w.heap.size 5 hsz1).trans p5
    have q6 := (hc2 w.heap.size 6 hsz1).trans p6
    have HB3 := Lib.hid (ch0 HB2.out hb2)
    clear hc2 p0 p1 p2 p3 p4 p5 p6 hb2 HB2 hsz1
    go_wp2_with (go_at_call 68; refine (within_any _ _ _ _).mono ?_; rintro e w3 ⟨rfl, rfl⟩)
    all_goals
      go_ret
      refine ⟨ret_bool ?_, HB3.out⟩
      have hx := HX.out
      have hpl := HPL.out
      clear HX HPL HB3 HP q0 q2 q3 q4 q5 q6 hq
      rcases kind_cases k with rfl | rfl | rfl | rfl | rfl | rfl | rfl | rfl | rfl | h
      · first | (exfalso; simp_all; done) | (rw [one_1 s a b c r l i hx]; done) | (rw [one_1 s a b c r l i hx]; simp_all; done) | (rw [one_1 s a b c r l i hx]; rw [hpl, show decide (0 < pl) = false by simp; omega]; rfl)
      · first | (exfalso; simp_all; done) | (rw [one_2 s a b c r l i hx]; done) | (rw [one_2 s a b c r l i hx]; simp_all; done) | (rw [one_2 s a b c r l i hx]; rw [hpl, show decide (0 < pl) = false by simp; omega]; rfl)
      · first | (exfalso; simp_all; done) | (rw [one_3 s a b c r l i hx]; done) | (rw [one_3 s a b c r l i hx]; simp_all; done) | (rw [one_3 s a b c r l i hx]; rw [hpl, show decide (0 < pl) = false by simp; omega]; rfl)
      · first | (exfalso; simp_all; done) | (rw [one_4 s a b c r l i hx]; done) | (rw [one_4 s a b c r l i hx]; simp_all; done) | (rw [one_4 s a b c r l i hx]; rw [hpl, show decide (0 < pl) = false by simp; omega]; rfl)
      · first | (exfalso; simp_all; done) | (rw [one_5 s a b c r l i hx]; done) | (rw [one_5 s a b c r l i hx]; simp_all; done) | (rw [one_5 s a b c r l i hx]; rw [hpl, show decide (0 < pl) = false by simp; omega]; rfl)
      · first | (exfalso; simp_all; done) | (rw [one_6 s a b c r l i hx]; done) | (rw [one_6 s a b c r l i hx]; simp_all; done) | (rw [one_6 s a b c r l i hx]; rw [hpl, show decide (0 < pl) = false by simp; omega]; rfl)
      · first | (exfalso; simp_all; done) | (have hb := ((places_pos 7 s b).1 (by rw [hpl]; assumption)).2 rfl; have ha : inB a 0 (i - 1) true = true := (by assumption); simp [inB] at ha; have ew : wrap64 (a + b) = a + b := (by unfold wrap64; omega); rw [one_7 s a b c r l i hx]; simp_all; done) | (have hb := ((places_pos 7 s b).1 (by rw [hpl]; assumption)).2 rfl; have ha : inB a 0 (i - 1) true = true := (by assumption); simp [inB] at ha; have ew : wrap64 (a + b) = a + b := (by unfold wrap64; omega); have hlt : i < wrap64 (a + b) := (by assumption); rw [ew] at hlt; rw [one_7 s a b c r l i hx]; have hd : decide (a + b ≤ i) = false := (by simp; omega); rw [hd]; simp; done) | (rw [one_7 s a b c r l i hx]; done) | (rw [one_7 s a b c r l i hx]; simp_all; done) | (rw [one_7 s a b c r l i hx]; rw [hpl, show decide (0 < pl) = false by simp; omega]; rfl)
      · first | (exfalso; simp_all; done) | (rw [one_8 s a b c r l i hx]; done) | (rw [one_8 s a b c r l i hx]; simp_all; done) | (rw [one_8 s a b c r l i hx]; rw [hpl, show decide (0 < pl) = false by simp; omega]; rfl)
      · first | (exfalso; simp_all; done) | (rw [one_9 s a b c r l i hx]; done) | (rw [one_9 s a b c r l i hx]; simp_all; done) | (rw [one_9 s a b c r l i hx]; rw [hpl, show decide (0 < pl) = false by simp; omega]; rfl)
      · first | (exfalso; simp only [beq_iff_eq] at *; omega) | (rw [one_none k s a b c r l i h])
end Go.Proofs.Ytnohfeaamfjimaa
namespace Go.Proofs.Ytnohfeaamfjimaa
open Go.RowKit Go.WideShapes
set_option linter.unusedVariables false
theorem places_bd (k s b : Int) : 0 ≤ placesP k s b ∧ placesP k s b ≤ 2200000 := by
  unfold placesP
  by_cases h : szOk k s = true
  · rw [if_pos h]
    have hr := sz_range h
    have hp : 1 ≤ pw s ∧ pw s ≤ 65536 := pw_bd s.toNat (by omega)
    have hm : 1 ≤ b → b ≤ 8 → 0 ≤ pw s * b ∧ pw s * b ≤ 524288 := fun h1 h2 => by
      have e1 := Int.mul_le_mul_of_nonneg_right hp.2 (show 0 ≤ b by omega)
      have e2 := Int.mul_nonneg (show (0 : Int) ≤ pw s by omega) (show 0 ≤ b by omega)
      omega
    generalize pw s = q at *
    repeat' split
    all_goals omega
  · rw [if_neg h]; omega
def plT (t : Pt) : Int := placesP t.k t.s t.b
def memP (ts : List Pt) : Int := (ts.map plT).sum
theorem memP_snoc (ts : List Pt) (k : Nat) (t : Pt) (h : ts[k]? = some t) : memP (ts.take (k + 1)) = memP (ts.take k) + plT t := by
  unfold memP
  rw [List.take_add_one, h]
  simp [List.sum_append]
theorem memP_bd : ∀ (ts : List Pt), 0 ≤ memP ts ∧ memP ts ≤ 2200000 * ts.length
  | [] => by simp [memP]
  | t :: ts => by
    have := memP_bd ts
    have := places_bd t.k t.s t.b
    have e : memP (t :: ts) = plT t + memP ts := rfl
    have e2 : plT t = placesP t.k t.s t.b := rfl
    rw [List.length_cons, e, e2]
    omega
set_option maxHeartbeats 2000000 in
theorem memory_any (ts : List Pt) (A : Option Addr) (n c : Nat) (w : World) (hn : n = ts.length) (hok : ∀ t ∈ ts, t.ok) (hr : Rd w A (flat_pts ts)) (hl : n ≤ 5000) :
    Calls Try.prog 32 #[.slice A n c] w (Quiet (.int .i64 (memP ts)) w) := by
  have HN := Lib.hid hn
  have HOK := Lib.hid hok
  have HR := Lib.hid hr
  clear hn hok hr
  go_enter Try.func32, Try.ntmps32
  go_wp2_with fail
  go_loopw [3, 8] (fun m i wr => ∃ j : Nat, j ≤ n ∧ i = .int .i64 j ∧ m = .int .i64 (memP (ts.take j)) ∧ Below w.heap.size w wr) (fun _ i _ => n - (intOf i).toNat)
  case atStart => exact ⟨0, by omega, rfl, rfl, Below.refl _ _⟩
  case round =>
    obtain ⟨j, hj, rfl, rfl, hb⟩ := hrel
    have hmb := memP_bd (ts.take j)
    have hml : (ts.take j).length ≤ j := List.length_take_le _ _
    by_cases hlt : j < n
    · obtain ⟨t, b, o, ht, rfl, hat⟩ := pts_at (HR.out.below hb rfl) (k := j) (by rw [← HN.out]; exact hlt)
      have hsn := memP_snoc ts j t ht
      have hpb := places_bd t.k t.s t.b
      have htk := HOK.out t (List.mem_of_getElem? ht)
      have hpl := fun W => places_any t W htk.s0 htk.s1
      rw [show placesP t.k t.s t.b = plT t from rfl] at hpb
      obtain ⟨c0, c1, c2, c3, c4, c5, c6⟩ : _ ∧ _ ∧ _ ∧ _ ∧ _ ∧ _ ∧ _ := ⟨hat.c0, hat.c1, hat.c2, hat.c3, hat.c4, hat.c5, hat.c6⟩
      obtain ⟨k, s, a, b', c', r, l⟩ := t
      simp only [show placesP k s b' = plT ⟨k, s, a, b', c', r, l⟩ from rfl] at hpl c0 c1 c2 c3 c4 c5 c6
      unfold Pt.agg at hpl
      simp only at hpl
      obtain ⟨p, hp⟩ : ∃ p, plT ⟨k, s, a, b', c', r, l⟩ = p := ⟨_, rfl⟩
      rw [hp] at hsn hpb
      simp only [hp] at hpl
      obtain ⟨M, hM⟩ : ∃ M, memP (ts.take j) = M := ⟨_, rfl⟩
      rw [hM] at hsn hmb ⊢
      have HS := Lib.hid hsn
      have HP := Lib.hid hpl
      have HB := Lib.hid hb
      clear hsn hpl hp hM ht hat htk hb
      go_wp2_with (go_at_call 49; refine (HP.out _).mono ?_; rintro e w2 ⟨rfl, hb2⟩)
      go_roundw
      case rel => exact ⟨j + 1, by omega, by go_num, by rw [HS.out], ch1 HB.out hb2⟩
      case measure => simp [intOf]; omega
    · have hjn : j = n := by omega
      subst hjn
      rw [List.take_of_length_le (by rw [← HN.out]; omega)] at hmb ⊢
      go_wp2
      go_ret
      exact ⟨rfl, hb⟩
set_option maxHeartbeats 2000000 in
theorem memoryR_any (ts : List Pt) (A : Option Addr) (n c : Nat) (w : World) (hn : n = ts.length) (hr : Rd w A (flat_pts ts)) (hl : n ≤ 5000) :
    Calls Try.prog 51 #[.slice A n c] w (Quiet (.int .i64 (memP ts)) w) := by
  have HN := Lib.hid hn
  have HR := Lib.hid hr
  clear hn hr
  go_enter Try.func51, Try.ntmps51
  go_wp2_with fail
  go_loopw [3, 4] (fun m i wr => ∃ j : Nat, j ≤ n ∧ i = .int .i64 j ∧ m = .int .i64 (memP (ts.take j)) ∧ Below w.heap.size w wr) (fun _ i _ => n - (intOf i).toNat)
  case atStart => exact ⟨0, by omega, rfl, rfl, Below.refl _ _⟩
  case round =>
    obtain ⟨j, hj, rfl, rfl, hb⟩ := hrel
    have hmb := memP_bd (ts.take j)
    have hml : (ts.take j).length ≤ j := List.length_take_le _ _
    by_cases hlt : j < n
    · obtain ⟨t, b, o, ht, rfl, hat⟩ := pts_at (HR.out.below hb rfl) (k := j) (by rw [← HN.out]; exact hlt)
      have hsn := memP_snoc ts j t ht
      have hpb := places_bd t.k t.s t.b
      have hpl := fun W => placesR_any t W
      rw [show placesP t.k t.s t.b = plT t from rfl] at hpb
      obtain ⟨c0, c1, c2, c3, c4, c5, c6⟩ : _ ∧ _ ∧ _ ∧ _ ∧ _ ∧ _ ∧ _ := ⟨hat.c0, hat.c1, hat.c2, hat.c3, hat.c4, hat.c5, hat.c6⟩
      obtain ⟨k, s, a, b', c', r, l⟩ := t
      simp only [show placesP k s b' = plT ⟨k, s, a, b', c', r, l⟩ from rfl] at hpl c0 c1 c2 c3 c4 c5 c6
      unfold Pt.agg at hpl
      simp only at hpl
      obtain ⟨p, hp⟩ : ∃ p, plT ⟨k, s, a, b', c', r, l⟩ = p := ⟨_, rfl⟩
      rw [hp] at hsn hpb
      simp only [hp] at hpl
      obtain ⟨M, hM⟩ : ∃ M, memP (ts.take j) = M := ⟨_, rfl⟩
      rw [hM] at hsn hmb ⊢
      have HS := Lib.hid hsn
      have HP := Lib.hid hpl
      have HB := Lib.hid hb
      clear hsn hpl hp hM ht hat hb
      go_wp2_with (go_at_call 67; refine (HP.out _).mono ?_; rintro e w2 ⟨rfl, hb2⟩)
      go_roundw
      case rel => exact ⟨j + 1, by omega, by go_num, by rw [HS.out], ch0 HB.out hb2⟩
      case measure => simp [intOf]; omega
    · have hjn : j = n := by omega
      subst hjn
      rw [List.take_of_length_le (by rw [← HN.out]; omega)] at hmb ⊢
      go_wp2
      go_ret
      exact ⟨rfl, hb⟩
end Go.Proofs.Ytnohfeaamfjimaa
namespace Go.Proofs.Ytnohfeaamfjimaa
open Go.RowKit Go.WideShapes
set_option linter.unusedVariables false
def oneAt (ts : List Pt) (j : Nat) : Bool := oneP (ts.getD j default) j
def allOne (ts : List Pt) : Bool := (List.range ts.length).all (oneAt ts)
def rightP (ts : List Pt) : Int := if ts.length < 1 ∨ 16 < ts.length then 100 else if allOne ts then (if 1048576 < memP ts then 101 else 0) else 100
theorem allOne_iff (ts : List Pt) : allOne ts = true ↔ ∀ j, j < ts.length → oneAt ts j = true := by
  unfold allOne
  rw [List.all_eq_true]
  exact ⟨fun h j hj => h j (List.mem_range.2 hj), fun h j hj => h j (List.mem_range.1 hj)⟩
theorem oneAt_of {ts : List Pt} {j : Nat} {t : Pt} (h : ts[j]? = some t) : oneAt ts j = oneP t j := by
  unfold oneAt
  rw [List.getD_eq_getElem?_getD, h]
  rfl
theorem right_none {ts : List Pt} {j : Nat} (hj : j < ts.length) (h : oneAt ts j = false) : rightP ts = 100 := by
  unfold rightP
  split
  · rfl
  · rw [if_neg]
    intro ha
    rw [(allOne_iff ts).1 ha j hj] at h
    cases h
set_option maxHeartbeats 2000000 in
theorem rightList (ts : List Pt) (A : Option Addr) (n c : Nat) (w : World) (hn : n = ts.length) (hok : ∀ t ∈ ts, t.ok) (hr : Rd w A (flat_pts ts)) (hl : n ≤ 5000) :
    Calls Try.prog 26 #[.slice A n c] w (Quiet (.int .i64 (rightP ts)) w) := by
  have HN := Lib.hid hn
  have HR := Lib.hid hr
  have HOK := Lib.hid hok
  clear hok
  clear hn hr
  by_cases hlen : n < 1 ∨ 16 < n
  · have e : rightP ts = 100 := by unfold rightP; rw [if_pos (by rw [← HN.out]; exact hlen)]
    rw [e]
    clear e
    rcases hlen with h | h
    · obtain rfl : n = 0 := by omega
      go_enter Try.func26, Try.ntmps26
      go_wp2
      go_ret
      exact ⟨rfl, Below.refl _ _⟩
    · have g0 : ((n : Int) == 0) = false := by simp; omega
      have g1 : decide ((16 : Int) < (n : Int)) = true := by simp; omega
      have g2 : decide ((n : Int) < 1) = false := by simp; omega
      go_enter Try.func26, Try.ntmps26
      go_wp2
      go_ret
      exact ⟨rfl, Below.refl _ _⟩
  · have g0 : ((n : Int) == 0) = false := by simp; omega
    have g1 : decide ((16 : Int) < (n : Int)) = false := by simp; omega
    have g2 : decide ((n : Int) < 1) = false := by simp; omega
    have hn16 : n ≤ 16 := by omega
    have hn1 : 1 ≤ n := by omega
    clear hlen
    go_enter Try.func26, Try.ntmps26
    go_wp2_with fail
    go_loopw [15] (fun i wr => ∃ j : Nat, j ≤ n ∧ i = .int .i64 j ∧ (∀ q, q < j → oneAt ts q = true) ∧ Below w.heap.size w wr) (fun i _ => n - (intOf i).toNat)
    case atStart => exact ⟨0, by omega, rfl, fun q h => by omega, Below.refl _ _⟩
    case round =>
      obtain ⟨j, hj, rfl, hall, hb⟩ := hrel
      have HA := Lib.hid hall
      have HB := Lib.hid hb
      clear hall
      by_cases hlt : j < n
      · obtain ⟨t, b, o, ht, rfl, hat⟩ := pts_at (HR.out.below hb rfl) (k := j) (by rw [← HN.out]; exact hlt)
        have hone := fun W => right_any t j W (by omega) (by omega)
        have hoa := oneAt_of ht
        obtain ⟨c0, c1, c2, c3, c4, c5, c6⟩ : _ ∧ _ ∧ _ ∧ _ ∧ _ ∧ _ ∧ _ := ⟨hat.c0, hat.c1, hat.c2, hat.c3, hat.c4, hat.c5, hat.c6⟩
        rw [← hoa] at hone
        have HT : Hid (j < ts.length) := by have := HN.out; show j < ts.length; omega
        obtain ⟨k, s, a, b', c', r, l⟩ := t
        unfold Pt.agg at hone
        simp only at hone c0 c1 c2 c3 c4 c5 c6
        obtain ⟨B, hB⟩ : ∃ x, oneAt ts j = x := ⟨_, rfl⟩
        simp only [hB] at hone
        have H1 := Lib.hid hone
        have HBB := Lib.hid hB
        clear hone hoa hB ht hat hb
        cases B
        · go_wp2_with (go_at_call 42; refine (H1.out _).mono ?_; rintro e w2 ⟨rfl, hb2⟩)
          go_ret
          exact ⟨ret_i64 (right_none HT.out HBB.out).symm, ch1 HB.out hb2⟩
        · go_wp2_with (go_at_call 42; refine (H1.out _).mono ?_; rintro e w2 ⟨rfl, hb2⟩)
          go_roundw
          case rel => exact ⟨j + 1, by omega, by go_num, fun q hq => (by rcases (show q < j ∨ q = j from by omega) with h | rfl; exact HA.out q h; exact HBB.out), ch1 HB.out hb2⟩
          case measure => simp [intOf]; omega
      · have hjn : j = n := by omega
        subst hjn
        have hr2 : rightP ts = if 1048576 < memP ts then 101 else 0 := by
          unfold rightP
          rw [if_neg (by rw [← HN.out]; omega), if_pos ((allOne_iff ts).2 fun q hq => HA.out q (by rw [HN.out]; exact hq))]
        clear hb
        have hmem := memory_any ts A j c wr HN.out HOK.out (HR.out.below HB.out rfl) (by omega)
        obtain ⟨M, hM⟩ : ∃ M, memP ts = M := ⟨_, rfl⟩
        rw [hM] at hmem hr2
        have HM := Lib.hid hmem
        clear hmem hM
        by_cases hbig : 1048576 < M
        · have gM : decide (1048576 < M) = true := by simp; omega
          rw [if_pos hbig] at hr2
          have H2 := Lib.hid hr2
          clear hbig hr2
          go_wp2_with (go_at_call 32; refine HM.out.mono ?_; rintro e w2 ⟨rfl, hb2⟩)
          go_ret
          exact ⟨ret_i64 H2.out.symm, ch0 HB.out hb2⟩
        · have gM : decide (1048576 < M) = false := by simp; omega
          rw [if_neg hbig] at hr2
          have H2 := Lib.hid hr2
          clear hbig hr2
          go_wp2_with (go_at_call 32; refine HM.out.mono ?_; rintro e w2 ⟨rfl, hb2⟩)
          go_ret
          exact ⟨ret_i64 H2.out.symm, ch0 HB.out hb2⟩
set_option maxHeartbeats 2000000 in
theorem rightListR (ts : List Pt) (A : Option Addr) (n c : Nat) (w : World) (hn : n = ts.length) (hr : Rd w A (flat_pts ts)) (hl : n ≤ 5000) :
    Calls Try.prog 33 #[.slice A n c] w (Quiet (.int .i64 (rightP ts)) w) := by
  have HN := Lib.hid hn
  have HR := Lib.hid hr
  clear hn hr
  by_cases hlen : n < 1 ∨ 16 < n
  · have e : rightP ts = 100 := by unfold rightP; rw [if_pos (by rw [← HN.out]; exact hlen)]
    rw [e]
    clear e
    rcases hlen with h | h
    · obtain rfl : n = 0 := by omega
      go_enter Try.func33, Try.ntmps33
      go_wp2
      go_ret
      exact ⟨rfl, Below.refl _ _⟩
    · have g0 : ((n : Int) == 0) = false := by simp; omega
      have g1 : decide ((16 : Int) < (n : Int)) = true := by simp; omega
      have g2 : decide ((n : Int) < 1) = false := by simp; omega
      go_enter Try.func33, Try.ntmps33
      go_wp2
      go_ret
      exact ⟨rfl, Below.refl _ _⟩
  · have g0 : ((n : Int) == 0) = false := by simp; omega
    have g1 : decide ((16 : Int) < (n : Int)) = false := by simp; omega
    have g2 : decide ((n : Int) < 1) = false := by simp; omega
    have hn16 : n ≤ 16 := by omega
    have hn1 : 1 ≤ n := by omega
    clear hlen
    go_enter Try.func33, Try.ntmps33
    go_wp2_with fail
    go_loopw [3] (fun i wr => ∃ j : Nat, j ≤ n ∧ i = .int .i64 j ∧ (∀ q, q < j → oneAt ts q = true) ∧ Below w.heap.size w wr) (fun i _ => n - (intOf i).toNat)
    case atStart => exact ⟨0, by omega, rfl, fun q h => by omega, Below.refl _ _⟩
    case round =>
      obtain ⟨j, hj, rfl, hall, hb⟩ := hrel
      have HA := Lib.hid hall
      have HB := Lib.hid hb
      clear hall
      by_cases hlt : j < n
      · obtain ⟨t, b, o, ht, rfl, hat⟩ := pts_at (HR.out.below hb rfl) (k := j) (by rw [← HN.out]; exact hlt)
        have hone := fun W => one_any t j W (by omega) (by omega)
        have hoa := oneAt_of ht
        obtain ⟨c0, c1, c2, c3, c4, c5, c6⟩ : _ ∧ _ ∧ _ ∧ _ ∧ _ ∧ _ ∧ _ := ⟨hat.c0, hat.c1, hat.c2, hat.c3, hat.c4, hat.c5, hat.c6⟩
        rw [← hoa] at hone
        have HT : Hid (j < ts.length) := by have := HN.out; show j < ts.length; omega
        obtain ⟨k, s, a, b', c', r, l⟩ := t
        unfold Pt.agg at hone
        simp only at hone c0 c1 c2 c3 c4 c5 c6
        obtain ⟨B, hB⟩ : ∃ x, oneAt ts j = x := ⟨_, rfl⟩
        simp only [hB] at hone
        have H1 := Lib.hid hone
        have HBB := Lib.hid hB
        clear hone hoa hB ht hat hb
        cases B
        · go_wp2_with (go_at_call 50; refine (H1.out _).mono ?_; rintro e w2 ⟨rfl, hb2⟩)
          go_ret
          exact ⟨ret_i64 (right_none HT.out HBB.out).symm, ch0 HB.out hb2⟩
        · go_wp2_with (go_at_call 50; refine (H1.out _).mono ?_; rintro e w2 ⟨rfl, hb2⟩)
          go_roundw
          case rel => exact ⟨j + 1, by omega, by go_num, fun q hq => (by rcases (show q < j ∨ q = j from by omega) with h | rfl; exact HA.out q h; exact HBB.out), ch0 HB.out hb2⟩
          case measure => simp [intOf]; omega
      · have hjn : j = n := by omega
        subst hjn
        have hr2 : rightP ts = if 1048576 < memP ts then 101 else 0 := by
          unfold rightP
          rw [if_neg (by rw [← HN.out]; omega), if_pos ((allOne_iff ts).2 fun q hq => HA.out q (by rw [HN.out]; exact hq))]
        clear hb
        have hmem := memoryR_any ts A j c wr HN.out (HR.out.below HB.out rfl) (by omega)
        obtain ⟨M, hM⟩ : ∃ M, memP ts = M := ⟨_, rfl⟩
        rw [hM] at hmem hr2
        have HM := Lib.hid hmem
        clear hmem hM
        by_cases hbig : 1048576 < M
        · have gM : decide (1048576 < M) = true := by simp; omega
          rw [if_pos hbig] at hr2
          have H2 := Lib.hid hr2
          clear hbig hr2
          go_wp2_with (go_at_call 51; refine HM.out.mono ?_; rintro e w2 ⟨rfl, hb2⟩)
          go_ret
          exact ⟨ret_i64 H2.out.symm, ch0 HB.out hb2⟩
        · have gM : decide (1048576 < M) = false := by simp; omega
          rw [if_neg hbig] at hr2
          have H2 := Lib.hid hr2
          clear hbig hr2
          go_wp2_with (go_at_call 51; refine HM.out.mono ?_; rintro e w2 ⟨rfl, hb2⟩)
          go_ret
          exact ⟨ret_i64 H2.out.symm, ch0 HB.out hb2⟩
end Go.Proofs.Ytnohfeaamfjimaa
namespace Go.Proofs.Ytnohfeaamfjimaa
open Go.RowKit Go.WideShapes
set_option linter.unusedVariables false
theorem tPts : SlS Try.prog 30 25 (.agg #[.int .u8 0, .int .i64 0, .int .i64 0, .int .i64 0, .int .i64 0, .int .i64 0, .int .i64 0]) 7 56 := ⟨Try.underlying30, by kernel_rfl, rfl, by decide⟩
structure OwnsP (ts : List Pt) (n : Nat) (w0 : World) (e : Ending) (w : World) : Prop where
  ex : ∃ A c, e = .returned (.slice A n c) ∧ n ≤ c ∧ w.ownsRow w0.heap.size 25 7 (.slice A n c) n (flat_pts ts)
  low : Below w0.heap.size w0 w
end Go.Proofs.Ytnohfeaamfjimaa
