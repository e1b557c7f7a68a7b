/- All parts' places, the program's and the reference's: walks. Lists of at most 5000 parts. -/
import Derived.Test.YtaiekpdoljleeaaPaRef
namespace Go.Proofs.Ytaiekpdoljleeaa
open Go.RowKit Go.WideShapes
set_option linter.unusedVariables false
theorem places_bd (k s b : Int) : 0 ≤ placesP k s b ∧ placesP k s b ≤ 2200000 := by
  unfold placesP
  by_cases h : szOk k s = true
  · rw [if_pos h]
    have hr := sz_range h
    have hp : 1 ≤ pw s ∧ pw s ≤ 65536 := pw_bd s.toNat (by omega)
    have hm : 1 ≤ b → b ≤ 8 → 0 ≤ pw s * b ∧ pw s * b ≤ 524288 := fun h1 h2 => by
      have e1 := Int.mul_le_mul_of_nonneg_right hp.2 (show 0 ≤ b by omega)
      have e2 := Int.mul_nonneg (show (0 : Int) ≤ pw s by omega) (show 0 ≤ b by omega)
      omega
    generalize pw s = q at *
    repeat' split
    all_goals omega
  · rw [if_neg h]; omega
def plT (t : Pt) : Int := placesP t.k t.s t.b
def memP (ts : List Pt) : Int := (ts.map plT).sum
theorem memP_snoc (ts : List Pt) (k : Nat) (t : Pt) (h : ts[k]? = some t) : memP (ts.take (k + 1)) = memP (ts.take k) + plT t := by
  unfold memP
  rw [List.take_add_one, h]
  simp [List.sum_append]
theorem memP_bd : ∀ (ts : List Pt), 0 ≤ memP ts ∧ memP ts ≤ 2200000 * ts.length
  | [] => by simp [memP]
  | t :: ts => by
    have := memP_bd ts
    have := places_bd t.k t.s t.b
    have e : memP (t :: ts) = plT t + memP ts := rfl
    have e2 : plT t = placesP t.k t.s t.b := rfl
    rw [List.length_cons, e, e2]
    omega
set_option maxHeartbeats 2000000 in
theorem memory_any (ts : List Pt) (A : Option Addr) (n c : Nat) (w : World) (hn : n = ts.length) (hok : ∀ t ∈ ts, t.ok) (hr : Rd w A (flat_pts ts)) (hl : n ≤ 5000) :
    Calls Try.prog 14 #[.slice A n c] w (Quiet (.int .i64 (memP ts)) w) := by
  have HN := Lib.hid hn
  have HOK := Lib.hid hok
  have HR := Lib.hid hr
  clear hn hok hr
  go_enter Try.func14, Try.ntmps14
  go_wp2_with fail
  go_loopw [3, 8] (fun m i wr => ∃ j : Nat, j ≤ n ∧ i = .int .i64 j ∧ m = .int .i64 (memP (ts.take j)) ∧ Below w.heap.size w wr) (fun _ i _ => n - (intOf i).toNat)
  case atStart => exact ⟨0, by omega, rfl, rfl, Below.refl _ _⟩
  case round =>
    obtain ⟨j, hj, rfl, rfl, hb⟩ := hrel
    have hmb := memP_bd (ts.take j)
    have hml : (ts.take j).length ≤ j := List.length_take_le _ _
    by_cases hlt : j < n
    · obtain ⟨t, b, o, ht, rfl, hat⟩ := pts_at (HR.out.below hb rfl) (k := j) (by rw [← HN.out]; exact hlt)
      have hsn := memP_snoc ts j t ht
      have hpb := places_bd t.k t.s t.b
      have htk := HOK.out t (List.mem_of_getElem? ht)
      have hpl := fun W => places_any t W htk.s0 htk.s1
      rw [show placesP t.k t.s t.b = plT t from rfl] at hpb
      obtain ⟨c0, c1, c2, c3, c4, c5, c6⟩ : _ ∧ _ ∧ _ ∧ _ ∧ _ ∧ _ ∧ _ := ⟨hat.c0, hat.c1, hat.c2, hat.c3, hat.c4, hat.c5, hat.c6⟩
      obtain ⟨k, s, a, b', c', r, l⟩ := t
      simp only [show placesP k s b' = plT ⟨k, s, a, b', c', r, l⟩ from rfl] at hpl c0 c1 c2 c3 c4 c5 c6
      unfold Pt.agg at hpl
      simp only at hpl
      obtain ⟨p, hp⟩ : ∃ p, plT ⟨k, s, a, b', c', r, l⟩ = p := ⟨_, rfl⟩
      rw [hp] at hsn hpb
      simp only [hp] at hpl
      obtain ⟨M, hM⟩ : ∃ M, memP (ts.take j) = M := ⟨_, rfl⟩
      rw [hM] at hsn hmb ⊢
      have HS := Lib.hid hsn
      have HP := Lib.hid hpl
      have HB := Lib.hid hb
      clear hsn hpl hp hM ht hat htk hb
      go_wp2_with (go_at_call 17; refine (HP.out _).mono ?_; rintro e w2 ⟨rfl, hb2⟩)
      go_roundw
      case rel => exact ⟨j + 1, by omega, by go_num, by rw [HS.out], ch1 HB.out hb2⟩
      case measure => simp [intOf]; omega
    · have hjn : j = n := by omega
      subst hjn
      rw [List.take_of_length_le (by rw [← HN.out]; omega)] at hmb ⊢
      go_wp2
      go_ret
      exact ⟨rfl, hb⟩
set_option maxHeartbeats 2000000 in
theorem memoryR_any (ts : List Pt) (A : Option Addr) (n c : Nat) (w : World) (hn : n = ts.length) (hr : Rd w A (flat_pts ts)) (hl : n ≤ 5000) :
    Calls Try.prog 15 #[.slice A n c] w (Quiet (.int .i64 (memP ts)) w) := by
  have HN := Lib.hid hn
  have HR := Lib.hid hr
  clear hn hr
  go_enter Try.func15, Try.ntmps15
  go_wp2_with fail
  go_loopw [3, 4] (fun m i wr => ∃ j : Nat, j ≤ n ∧ i = .int .i64 j ∧ m = .int .i64 (memP (ts.take j)) ∧ Below w.heap.size w wr) (fun _ i _ => n - (intOf i).toNat)
  case atStart => exact ⟨0, by omega, rfl, rfl, Below.refl _ _⟩
  case round =>
    obtain ⟨j, hj, rfl, rfl, hb⟩ := hrel
    have hmb := memP_bd (ts.take j)
    have hml : (ts.take j).length ≤ j := List.length_take_le _ _
    by_cases hlt : j < n
    · obtain ⟨t, b, o, ht, rfl, hat⟩ := pts_at (HR.out.below hb rfl) (k := j) (by rw [← HN.out]; exact hlt)
      have hsn := memP_snoc ts j t ht
      have hpb := places_bd t.k t.s t.b
      have hpl := fun W => placesR_any t W
      rw [show placesP t.k t.s t.b = plT t from rfl] at hpb
      obtain ⟨c0, c1, c2, c3, c4, c5, c6⟩ : _ ∧ _ ∧ _ ∧ _ ∧ _ ∧ _ ∧ _ := ⟨hat.c0, hat.c1, hat.c2, hat.c3, hat.c4, hat.c5, hat.c6⟩
      obtain ⟨k, s, a, b', c', r, l⟩ := t
      simp only [show placesP k s b' = plT ⟨k, s, a, b', c', r, l⟩ from rfl] at hpl c0 c1 c2 c3 c4 c5 c6
      unfold Pt.agg at hpl
      simp only at hpl
      obtain ⟨p, hp⟩ : ∃ p, plT ⟨k, s, a, b', c', r, l⟩ = p := ⟨_, rfl⟩
      rw [hp] at hsn hpb
      simp only [hp] at hpl
      obtain ⟨M, hM⟩ : ∃ M, memP (ts.take j) = M := ⟨_, rfl⟩
      rw [hM] at hsn hmb ⊢
      have HS := Lib.hid hsn
      have HP := Lib.hid hpl
      have HB := Lib.hid hb
      clear hsn hpl hp hM ht hat hb
      go_wp2_with (go_at_call 18; refine (HP.out _).mono ?_; rintro e w2 ⟨rfl, hb2⟩)
      go_roundw
      case rel => exact ⟨j + 1, by omega, by go_num, by rw [HS.out], ch0 HB.out hb2⟩
      case measure => simp [intOf]; omega
    · have hjn : j = n := by omega
      subst hjn
      rw [List.take_of_length_le (by rw [← HN.out]; omega)] at hmb ⊢
      go_wp2
      go_ret
      exact ⟨rfl, hb⟩
end Go.Proofs.Ytaiekpdoljleeaa
