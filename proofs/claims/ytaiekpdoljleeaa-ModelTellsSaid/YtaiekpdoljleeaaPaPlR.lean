/- A part's places by the reference: walks. No condition. -/
import Derived.Test.YtaiekpdoljleeaaPaPl
namespace Go.Proofs.Ytaiekpdoljleeaa
open Go.RowKit Go.WideShapes
set_option linter.unusedVariables false
def mostR (k : Int) : Int := if k = 2 ∨ k = 3 ∨ k = 4 ∨ k = 6 ∨ k = 8 then 16 else if k = 7 then 12 else if k = 9 then 10 else -1
theorem most_any (k : Int) (w : World) : Calls Try.prog 46 #[.int .u8 k] w (Same (.int .i64 (mostR k)) w) := by
  have hm : mostR k = if k = 2 ∨ k = 3 ∨ k = 4 ∨ k = 6 ∨ k = 8 then 16 else if k = 7 then 12 else if k = 9 then 10 else -1 := rfl
  obtain ⟨m, hmm⟩ : ∃ m, mostR k = m := ⟨_, rfl⟩
  rw [hmm] at hm ⊢
  clear hmm
  have HM := Lib.hid hm
  clear hm
  go_enter Try.func46, Try.ntmps46
  go_wp2
  all_goals
    go_ret
    refine ⟨ret_i64 ?_, rfl⟩
    have hm := HM.out
    simp only [beq_iff_eq, beq_eq_false_iff_ne, ne_eq] at *
    rw [hm]
    repeat' split
    all_goals omega
theorem power_any (n : Nat) (w : World) (hn : n ≤ 16) : Calls Try.prog 47 #[.int .i64 n] w (Same (.int .i64 (2 ^ n)) w) := by
  have hpw : ∀ j : Nat, j ≤ n → 1 ≤ (2 : Int) ^ j ∧ (2 : Int) ^ j ≤ 65536 := fun j hj => pw_bd j (by omega)
  have HP := Lib.hid hpw
  clear hpw
  go_enter Try.func47, Try.ntmps47
  go_wp2
  go_loop [3, 4] (fun p i => ∃ j : Nat, j ≤ n ∧ i = .int .i64 j ∧ p = .int .i64 (2 ^ j)) (fun _ i => n - (intOf i).toNat)
  case atStart => exact ⟨0, by omega, rfl, rfl⟩
  case round =>
    obtain ⟨j, hj, rfl, rfl⟩ := hrel
    have hp := HP.out j hj
    have hs : (2 : Int) ^ (j + 1) = 2 ^ j * 2 := Int.pow_succ 2 j
    have HS := Lib.hid hs
    clear hs
    by_cases hlt : j < n
    · have hp1 := HP.out (j + 1) (by omega)
      rw [HS.out] at hp1
      obtain ⟨q, hq⟩ : ∃ q, (2 : Int) ^ j = q := ⟨_, rfl⟩
      have HQ := Lib.hid hq
      rw [hq] at hp hp1 ⊢
      clear hq
      go_wp2
      go_round
      case rel => exact ⟨j + 1, by omega, by go_num, by rw [HS.out, HQ.out]⟩
      case measure => simp [intOf]; omega
    · have hjn : j = n := by omega
      subst hjn
      go_wp2
      go_ret
      exact ⟨rfl, rfl⟩
theorem szR (k s : Int) : inB s (if k = 4 then 4 else 0) (mostR k) true = szOk k s := by
  rcases kind_cases k with rfl | rfl | rfl | rfl | rfl | rfl | rfl | rfl | rfl | h
  all_goals first
    | (simp [inB, mostR, szOk, okK, rowK]; done)
    | (rw [Bool.eq_iff_iff]; simp [inB, mostR, szOk, okK, rowK]; done)
    | (rw [Bool.eq_iff_iff]; simp [inB, mostR, szOk, okK, rowK]; omega)
    | (have e : okK k = false := by unfold okK; rw [Bool.and_eq_false_iff]; simp; omega
       have e2 : mostR k = -1 := by unfold mostR; rw [if_neg (by omega), if_neg (by omega), if_neg (by omega)]
       have e3 : (if k = 4 then (4 : Int) else 0) = 0 := if_neg (by omega)
       unfold szOk
       rw [e, e2, e3]
       simp [inB]
       omega)
theorem quiet_same {P : Program} {f : FuncId} {args : Array Value} {w : World} {n : Nat} {v : Value} (h : Calls P f args (w.drewN n) (Same v (w.drewN n))) : Calls P f args (w.drewN n) fun e w'' => e = .returned v ∧ ∃ m, w'' = w.drewN m :=
  h.mono fun _ _ ⟨he, hm⟩ => ⟨he, n, hm.symm⟩
set_option maxHeartbeats 2000000 in
theorem placesR_any (t : Pt) (w : World) : Calls Try.prog 18 #[t.agg] w (Quiet (.int .i64 (placesP t.k t.s t.b)) w) := by
  obtain ⟨k, s, a, b, c, r, l⟩ := t
  unfold Pt.agg
  simp only
  have hpl : placesP k s b = if szOk k s then
    if k = 3 then pw s + 256 else if k = 4 then 2 * pw s else if k = 7 then (if 1 ≤ b ∧ b ≤ 8 then pw s * b else 0) else if k = 8 then pw s + 512 else if k = 9 then pw s * 32 else pw s
    else 0 := rfl
  obtain ⟨P, hP⟩ : ∃ P, placesP k s b = P := ⟨_, rfl⟩
  rw [hP] at hpl ⊢
  clear hP
  have hrg := fun h => sz_range (k := k) (s := s) h
  have hsz := szR k s
  have hmost := fun W => most_any k W
  have hwithin := fun W => within_any s (if k = 4 then 4 else 0) (mostR k) W
  obtain ⟨m, hm⟩ : ∃ m, mostR k = m := ⟨_, rfl⟩
  rw [hm] at hsz
  simp only [hm] at hmost hwithin
  rw [hsz] at hwithin
  have hw8 := fun W => within_any b 1 8 W
  obtain ⟨B8, hB8⟩ : ∃ x, inB b 1 8 true = x := ⟨_, rfl⟩
  have hb8 : (1 ≤ b ∧ b ≤ 8) ↔ B8 = true := by rw [← hB8]; simp [inB]
  simp only [hB8] at hw8
  clear hm hsz hB8
  have HM := Lib.hid hmost
  have HW := Lib.hid hwithin
  have H8 := Lib.hid hw8
  have HB8 := Lib.hid hb8
  clear hmost hwithin hw8 hb8
  by_cases hok : szOk k s = true
  · have hr := hrg hok
    rw [if_pos hok] at hpl
    obtain ⟨n, hn⟩ : ∃ n : Nat, s = n := ⟨s.toNat, by omega⟩
    subst hn
    have hp := pw_bd n (by omega)
    have HPW := Lib.hid (fun W => power_any n W (by omega))
    have HW2 := HW.out
    rw [hok] at HW2
    have HWW := Lib.hid HW2
    have HP := Lib.hid hpl
    clear hpl hrg HW2 HW hok
    obtain ⟨q, hq⟩ : ∃ q, (2 : Int) ^ n = q := ⟨_, rfl⟩
    have HQ := Lib.hid hq
    rw [hq] at hp HPW
    clear hq
    rcases (show k = 4 ∨ k ≠ 4 from by omega) with rfl | hk
    · have g4 : ((4 : Int) == 4) = true := rfl
      have h1 := HWW.out
      rw [if_pos rfl] at h1
      have H1 := Lib.hid h1
      clear h1 HWW
      go_enter Try.func18, Try.ntmps18
      go_wp2_with fail
      go_quiet ((first | (go_at_call 46; exact quiet_same (HM.out _)) | (go_at_call 45; exact quiet_same (H1.out _))))
      go_wp2_with (first | (go_at_call 47; refine (HPW.out _).mono ?_; rintro e w1 ⟨rfl, rfl⟩) | (go_at_call 45; refine (H8.out _).mono ?_; rintro e w1 ⟨rfl, rfl⟩))
      all_goals
        go_ret
        refine ⟨ret_i64 ?_, below_drewN ((Below.refl _ _).alloc (Nat.le_refl _) _) _⟩
        have hP := HP.out
        simp only [pw, Int.toNat_natCast] at hP
        rw [HQ.out] at hP
        rw [hP]
        simp
    · have g4 : (k == 4) = false := by simp; exact hk
      have h1 := HWW.out
      rw [if_neg hk] at h1
      have H1 := Lib.hid h1
      clear h1 HWW
      have HK := Lib.hid hk
      clear hk
      go_enter Try.func18, Try.ntmps18
      go_wp2_with fail
      go_quiet ((first | (go_at_call 46; exact quiet_same (HM.out _)) | (go_at_call 45; exact quiet_same (H1.out _))))
      go_wp2_with (first | (go_at_call 47; refine (HPW.out _).mono ?_; rintro e w1 ⟨rfl, rfl⟩) | (go_at_call 45; refine (H8.out _).mono ?_; rintro e w1 ⟨rfl, rfl⟩))
      all_goals
        go_ret
        refine ⟨ret_i64 ?_, below_drewN ((Below.refl _ _).alloc (Nat.le_refl _) _) _⟩
        have hP := HP.out
        have hK := HK.out
        have hB8 := HB8.out
        simp only [pw, Int.toNat_natCast] at hP
        rw [HQ.out] at hP
        rw [hP]
        have hqb : 1 ≤ b → b ≤ 8 → 0 ≤ q * b ∧ q * b ≤ 524288 := fun h1 h2 => by
          have e1 := Int.mul_le_mul_of_nonneg_right hp.2 (show 0 ≤ b by omega)
          have e2 := Int.mul_nonneg (show (0 : Int) ≤ q by omega) (show 0 ≤ b by omega)
          omega
        have hcm : b * q = q * b := Int.mul_comm b q
        clear HP HK HB8 hP
        cases B8 <;> simp_all <;> (try (repeat' split)) <;> first | omega | (unfold wrap64; omega)
  · have hok' : szOk k s = false := by simpa using hok
    rw [if_neg hok] at hpl
    subst hpl
    have HW2 := HW.out
    rw [hok'] at HW2
    have HWW := Lib.hid HW2
    clear hrg HW2 HW hok hok'
    rcases (show k = 4 ∨ k ≠ 4 from by omega) with rfl | hk
    · have g4 : ((4 : Int) == 4) = true := rfl
      have h1 := HWW.out
      rw [if_pos rfl] at h1
      have H1 := Lib.hid h1
      clear h1 HWW
      go_enter Try.func18, Try.ntmps18
      go_wp2_with fail
      go_quiet ((first | (go_at_call 46; exact quiet_same (HM.out _)) | (go_at_call 45; exact quiet_same (H1.out _))))
      go_wp2
      go_ret
      exact ⟨rfl, below_drewN ((Below.refl _ _).alloc (Nat.le_refl _) _) _⟩
    · have g4 : (k == 4) = false := by simp; exact hk
      have h1 := HWW.out
      rw [if_neg hk] at h1
      have H1 := Lib.hid h1
      clear h1 HWW hk
      go_enter Try.func18, Try.ntmps18
      go_wp2_with fail
      go_quiet ((first | (go_at_call 46; exact quiet_same (HM.out _)) | (go_at_call 45; exact quiet_same (H1.out _))))
      go_wp2
      go_ret
      exact ⟨rfl, below_drewN ((Below.refl _ _).alloc (Nat.le_refl _) _) _⟩
end Go.Proofs.Ytaiekpdoljleeaa
