/- May a model have these parts, the program's and the reference's: walks. Lists of at most 5000 parts. -/
import Derived.Test.YtaiekpdoljleeaaPaMem
namespace Go.Proofs.Ytaiekpdoljleeaa
open Go.RowKit Go.WideShapes
set_option linter.unusedVariables false
def oneAt (ts : List Pt) (j : Nat) : Bool := oneP (ts.getD j default) j
def allOne (ts : List Pt) : Bool := (List.range ts.length).all (oneAt ts)
def rightP (ts : List Pt) : Int := if ts.length < 1 ∨ 16 < ts.length then 100 else if allOne ts then (if 1048576 < memP ts then 101 else 0) else 100
theorem allOne_iff (ts : List Pt) : allOne ts = true ↔ ∀ j, j < ts.length → oneAt ts j = true := by
  unfold allOne
  rw [List.all_eq_true]
  exact ⟨fun h j hj => h j (List.mem_range.2 hj), fun h j hj => h j (List.mem_range.1 hj)⟩
theorem oneAt_of {ts : List Pt} {j : Nat} {t : Pt} (h : ts[j]? = some t) : oneAt ts j = oneP t j := by
  unfold oneAt
  rw [List.getD_eq_getElem?_getD, h]
  rfl
theorem right_none {ts : List Pt} {j : Nat} (hj : j < ts.length) (h : oneAt ts j = false) : rightP ts = 100 := by
  unfold rightP
  split
  · rfl
  · rw [if_neg]
    intro ha
    rw [(allOne_iff ts).1 ha j hj] at h
    cases h
set_option maxHeartbeats 2000000 in
theorem rightList (ts : List Pt) (A : Option Addr) (n c : Nat) (w : World) (hn : n = ts.length) (hok : ∀ t ∈ ts, t.ok) (hr : Rd w A (flat_pts ts)) (hl : n ≤ 5000) :
    Calls Try.prog 12 #[.slice A n c] w (Quiet (.int .i64 (rightP ts)) w) := by
  have HN := Lib.hid hn
  have HR := Lib.hid hr
  have HOK := Lib.hid hok
  clear hok
  clear hn hr
  by_cases hlen : n < 1 ∨ 16 < n
  · have e : rightP ts = 100 := by unfold rightP; rw [if_pos (by rw [← HN.out]; exact hlen)]
    rw [e]
    clear e
    rcases hlen with h | h
    · obtain rfl : n = 0 := by omega
      go_enter Try.func12, Try.ntmps12
      go_wp2
      go_ret
      exact ⟨rfl, Below.refl _ _⟩
    · have g0 : ((n : Int) == 0) = false := by simp; omega
      have g1 : decide ((16 : Int) < (n : Int)) = true := by simp; omega
      have g2 : decide ((n : Int) < 1) = false := by simp; omega
      go_enter Try.func12, Try.ntmps12
      go_wp2
      go_ret
      exact ⟨rfl, Below.refl _ _⟩
  · have g0 : ((n : Int) == 0) = false := by simp; omega
    have g1 : decide ((16 : Int) < (n : Int)) = false := by simp; omega
    have g2 : decide ((n : Int) < 1) = false := by simp; omega
    have hn16 : n ≤ 16 := by omega
    have hn1 : 1 ≤ n := by omega
    clear hlen
    go_enter Try.func12, Try.ntmps12
    go_wp2_with fail
    go_loopw [15] (fun i wr => ∃ j : Nat, j ≤ n ∧ i = .int .i64 j ∧ (∀ q, q < j → oneAt ts q = true) ∧ Below w.heap.size w wr) (fun i _ => n - (intOf i).toNat)
    case atStart => exact ⟨0, by omega, rfl, fun q h => by omega, Below.refl _ _⟩
    case round =>
      obtain ⟨j, hj, rfl, hall, hb⟩ := hrel
      have HA := Lib.hid hall
      have HB := Lib.hid hb
      clear hall
      by_cases hlt : j < n
      · obtain ⟨t, b, o, ht, rfl, hat⟩ := pts_at (HR.out.below hb rfl) (k := j) (by rw [← HN.out]; exact hlt)
        have hone := fun W => right_any t j W (by omega) (by omega)
        have hoa := oneAt_of ht
        obtain ⟨c0, c1, c2, c3, c4, c5, c6⟩ : _ ∧ _ ∧ _ ∧ _ ∧ _ ∧ _ ∧ _ := ⟨hat.c0, hat.c1, hat.c2, hat.c3, hat.c4, hat.c5, hat.c6⟩
        rw [← hoa] at hone
        have HT : Hid (j < ts.length) := by have := HN.out; show j < ts.length; omega
        obtain ⟨k, s, a, b', c', r, l⟩ := t
        unfold Pt.agg at hone
        simp only at hone c0 c1 c2 c3 c4 c5 c6
        obtain ⟨B, hB⟩ : ∃ x, oneAt ts j = x := ⟨_, rfl⟩
        simp only [hB] at hone
        have H1 := Lib.hid hone
        have HBB := Lib.hid hB
        clear hone hoa hB ht hat hb
        cases B
        · go_wp2_with (go_at_call 42; refine (H1.out _).mono ?_; rintro e w2 ⟨rfl, hb2⟩)
          go_ret
          exact ⟨ret_i64 (right_none HT.out HBB.out).symm, ch1 HB.out hb2⟩
        · go_wp2_with (go_at_call 42; refine (H1.out _).mono ?_; rintro e w2 ⟨rfl, hb2⟩)
          go_roundw
          case rel => exact ⟨j + 1, by omega, by go_num, fun q hq => (by rcases (show q < j ∨ q = j from by omega) with h | rfl; exact HA.out q h; exact HBB.out), ch1 HB.out hb2⟩
          case measure => simp [intOf]; omega
      · have hjn : j = n := by omega
        subst hjn
        have hr2 : rightP ts = if 1048576 < memP ts then 101 else 0 := by
          unfold rightP
          rw [if_neg (by rw [← HN.out]; omega), if_pos ((allOne_iff ts).2 fun q hq => HA.out q (by rw [HN.out]; exact hq))]
        clear hb
        have hmem := memory_any ts A j c wr HN.out HOK.out (HR.out.below HB.out rfl) (by omega)
        obtain ⟨M, hM⟩ : ∃ M, memP ts = M := ⟨_, rfl⟩
        rw [hM] at hmem hr2
        have HM := Lib.hid hmem
        clear hmem hM
        by_cases hbig : 1048576 < M
        · have gM : decide (1048576 < M) = true := by simp; omega
          rw [if_pos hbig] at hr2
          have H2 := Lib.hid hr2
          clear hbig hr2
          go_wp2_with (go_at_call 14; refine HM.out.mono ?_; rintro e w2 ⟨rfl, hb2⟩)
          go_ret
          exact ⟨ret_i64 H2.out.symm, ch0 HB.out hb2⟩
        · have gM : decide (1048576 < M) = false := by simp; omega
          rw [if_neg hbig] at hr2
          have H2 := Lib.hid hr2
          clear hbig hr2
          go_wp2_with (go_at_call 14; refine HM.out.mono ?_; rintro e w2 ⟨rfl, hb2⟩)
          go_ret
          exact ⟨ret_i64 H2.out.symm, ch0 HB.out hb2⟩
set_option maxHeartbeats 2000000 in
theorem rightListR (ts : List Pt) (A : Option Addr) (n c : Nat) (w : World) (hn : n = ts.length) (hr : Rd w A (flat_pts ts)) (hl : n ≤ 5000) :
    Calls Try.prog 13 #[.slice A n c] w (Quiet (.int .i64 (rightP ts)) w) := by
  have HN := Lib.hid hn
  have HR := Lib.hid hr
  clear hn hr
  by_cases hlen : n < 1 ∨ 16 < n
  · have e : rightP ts = 100 := by unfold rightP; rw [if_pos (by rw [← HN.out]; exact hlen)]
    rw [e]
    clear e
    rcases hlen with h | h
    · obtain rfl : n = 0 := by omega
      go_enter Try.func13, Try.ntmps13
      go_wp2
      go_ret
      exact ⟨rfl, Below.refl _ _⟩
    · have g0 : ((n : Int) == 0) = false := by simp; omega
      have g1 : decide ((16 : Int) < (n : Int)) = true := by simp; omega
      have g2 : decide ((n : Int) < 1) = false := by simp; omega
      go_enter Try.func13, Try.ntmps13
      go_wp2
      go_ret
      exact ⟨rfl, Below.refl _ _⟩
  · have g0 : ((n : Int) == 0) = false := by simp; omega
    have g1 : decide ((16 : Int) < (n : Int)) = false := by simp; omega
    have g2 : decide ((n : Int) < 1) = false := by simp; omega
    have hn16 : n ≤ 16 := by omega
    have hn1 : 1 ≤ n := by omega
    clear hlen
    go_enter Try.func13, Try.ntmps13
    go_wp2_with fail
    go_loopw [3] (fun i wr => ∃ j : Nat, j ≤ n ∧ i = .int .i64 j ∧ (∀ q, q < j → oneAt ts q = true) ∧ Below w.heap.size w wr) (fun i _ => n - (intOf i).toNat)
    case atStart => exact ⟨0, by omega, rfl, fun q h => by omega, Below.refl _ _⟩
    case round =>
      obtain ⟨j, hj, rfl, hall, hb⟩ := hrel
      have HA := Lib.hid hall
      have HB := Lib.hid hb
      clear hall
      by_cases hlt : j < n
      · obtain ⟨t, b, o, ht, rfl, hat⟩ := pts_at (HR.out.below hb rfl) (k := j) (by rw [← HN.out]; exact hlt)
        have hone := fun W => one_any t j W (by omega) (by omega)
        have hoa := oneAt_of ht
        obtain ⟨c0, c1, c2, c3, c4, c5, c6⟩ : _ ∧ _ ∧ _ ∧ _ ∧ _ ∧ _ ∧ _ := ⟨hat.c0, hat.c1, hat.c2, hat.c3, hat.c4, hat.c5, hat.c6⟩
        rw [← hoa] at hone
        have HT : Hid (j < ts.length) := by have := HN.out; show j < ts.length; omega
        obtain ⟨k, s, a, b', c', r, l⟩ := t
        unfold Pt.agg at hone
        simp only at hone c0 c1 c2 c3 c4 c5 c6
        obtain ⟨B, hB⟩ : ∃ x, oneAt ts j = x := ⟨_, rfl⟩
        simp only [hB] at hone
        have H1 := Lib.hid hone
        have HBB := Lib.hid hB
        clear hone hoa hB ht hat hb
        cases B
        · go_wp2_with (go_at_call 43; refine (H1.out _).mono ?_; rintro e w2 ⟨rfl, hb2⟩)
          go_ret
          exact ⟨ret_i64 (right_none HT.out HBB.out).symm, ch0 HB.out hb2⟩
        · go_wp2_with (go_at_call 43; refine (H1.out _).mono ?_; rintro e w2 ⟨rfl, hb2⟩)
          go_roundw
          case rel => exact ⟨j + 1, by omega, by go_num, fun q hq => (by rcases (show q < j ∨ q = j from by omega) with h | rfl; exact HA.out q h; exact HBB.out), ch0 HB.out hb2⟩
          case measure => simp [intOf]; omega
      · have hjn : j = n := by omega
        subst hjn
        have hr2 : rightP ts = if 1048576 < memP ts then 101 else 0 := by
          unfold rightP
          rw [if_neg (by rw [← HN.out]; omega), if_pos ((allOne_iff ts).2 fun q hq => HA.out q (by rw [HN.out]; exact hq))]
        clear hb
        have hmem := memoryR_any ts A j c wr HN.out (HR.out.below HB.out rfl) (by omega)
        obtain ⟨M, hM⟩ : ∃ M, memP ts = M := ⟨_, rfl⟩
        rw [hM] at hmem hr2
        have HM := Lib.hid hmem
        clear hmem hM
        by_cases hbig : 1048576 < M
        · have gM : decide (1048576 < M) = true := by simp; omega
          rw [if_pos hbig] at hr2
          have H2 := Lib.hid hr2
          clear hbig hr2
          go_wp2_with (go_at_call 15; refine HM.out.mono ?_; rintro e w2 ⟨rfl, hb2⟩)
          go_ret
          exact ⟨ret_i64 H2.out.symm, ch0 HB.out hb2⟩
        · have gM : decide (1048576 < M) = false := by simp; omega
          rw [if_neg hbig] at hr2
          have H2 := Lib.hid hr2
          clear hbig hr2
          go_wp2_with (go_at_call 15; refine HM.out.mono ?_; rintro e w2 ⟨rfl, hb2⟩)
          go_ret
          exact ⟨ret_i64 H2.out.symm, ch0 HB.out hb2⟩
end Go.Proofs.Ytaiekpdoljleeaa
