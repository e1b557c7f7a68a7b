/- A part's places, of the program and of the reference: walks. No condition. -/
import Derived.Test.YtaiekpdoljleeaaPaRow
namespace Go.Proofs.Ytaiekpdoljleeaa
open Go.RowKit Go.WideShapes
set_option linter.unusedVariables false
/-- 2 to the n. -/
def pw (n : Int) : Int := 2 ^ n.toNat
theorem pw_bd (n : Nat) (h : n ≤ 16) : 1 ≤ (2 : Int) ^ n ∧ (2 : Int) ^ n ≤ 65536 := by
  have h1 : (2 : Int) ^ n ≤ 2 ^ 16 := by exact_mod_cast Nat.pow_le_pow_right (by omega : 0 < 2) h
  have h2 : (0 : Int) < 2 ^ n := Int.pow_pos (by omega)
  have h3 : (2 : Int) ^ 16 = 65536 := by decide
  omega
def szOk (k s : Int) : Bool := okK k && decide ((rowK k).least ≤ s) && decide (s ≤ (rowK k).most)
def placesP (k s b : Int) : Int :=
  if szOk k s then
    if k = 3 then pw s + 256 else if k = 4 then 2 * pw s else if k = 7 then (if 1 ≤ b ∧ b ≤ 8 then pw s * b else 0) else if k = 8 then pw s + 512 else if k = 9 then pw s * 32 else pw s
  else 0
theorem sz_range {k s : Int} (h : szOk k s = true) : 0 ≤ s ∧ s ≤ 16 := by
  unfold szOk okK at h
  simp only [Bool.and_eq_true, decide_eq_true_eq] at h
  obtain ⟨⟨_, h1⟩, h2⟩ := h
  rcases kind_cases k with rfl | rfl | rfl | rfl | rfl | rfl | rfl | rfl | rfl | h
  all_goals first | (simp [rowK] at h1 h2; omega) | omega
theorem bcell {W w1 : World} (hb : Below W.heap.size W w1) : (∀ b o, b < W.heap.size → w1.cell? ⟨b, o, none⟩ = W.cell? ⟨b, o, none⟩) ∧ (∀ b o, b < W.heap.size → w1.frozen? ⟨b, o, none⟩ = W.frozen? ⟨b, o, none⟩) :=
  ⟨fun b o h => hb.cell (p := ⟨b, o, none⟩) h, fun b o h => hb.frozen (p := ⟨b, o, none⟩) h⟩
structure Quiet (v : Value) (w0 : World) (e : Ending) (w : World) : Prop where
  ret : e = .returned v
  low : Below w0.heap.size w0 w
set_option maxHeartbeats 1000000 in
theorem places_any (t : Pt) (w : World) (s0 : -9223372036854775808 ≤ t.s) (s1 : t.s ≤ 9223372036854775807) : Calls Try.prog 17 #[t.agg] w (Quiet (.int .i64 (placesP t.k t.s t.b)) w) := by
  obtain ⟨k, s, a, b, c, r, l⟩ := t
  simp only at s0 s1 ⊢
  have hrow := fun w => rowOf_any k w
  unfold Pt.agg
  simp only
  have hR : ∀ w e w', IsRow k w e w' → e = .returned (.tuple #[(rowK k).agg, .bool (okK k)]) ∧ Below w.heap.size w w' := fun w e w' h => ⟨h.1, h.2⟩
  have hpl : placesP k s b = if szOk k s then
    if k = 3 then pw s + 256 else if k = 4 then 2 * pw s else if k = 7 then (if 1 ≤ b ∧ b ≤ 8 then pw s * b else 0) else if k = 8 then pw s + 512 else if k = 9 then pw s * 32 else pw s
    else 0 := rfl
  have hrg := fun h => sz_range (k := k) (s := s) h
  obtain ⟨P, hP⟩ : ∃ P, placesP k s b = P := ⟨_, rfl⟩
  rw [hP] at hpl ⊢
  clear hP
  unfold szOk at hpl hrg
  obtain ⟨ok, hok⟩ : ∃ x, okK k = x := ⟨_, rfl⟩
  obtain ⟨R, hRR⟩ : ∃ x, rowK k = x := ⟨_, rfl⟩
  rw [hok, hRR] at hpl hrg
  simp only [hok, hRR] at hR
  clear hok hRR
  obtain ⟨le, mo, ra, rb, lo, hi, rr, rl⟩ := R
  simp only at hpl hrg
  unfold Rw.agg at hR
  have HROW := Lib.hid fun w => (hrow w).mono (hR w)
  clear hrow hR
  by_cases hsz : (ok && decide (le ≤ s) && decide (s ≤ mo)) = true
  · have hr := hrg hsz
    rw [if_pos hsz] at hpl
    have hp := pw_bd s.toNat (by omega)
    obtain ⟨n, hn⟩ : ∃ n : Nat, s = n := ⟨s.toNat, by omega⟩
    subst hn
    simp only [Bool.and_eq_true, decide_eq_true_eq] at hsz
    obtain ⟨⟨rfl, g1⟩, g2⟩ := hsz
    have g3 : decide ((n : Int) < le) = false := by simp; omega
    have g4 : decide (mo < (n : Int)) = false := by simp; omega
    have HP := Lib.hid hpl
    clear hpl hrg
    go_enter Try.func17, Try.ntmps17
    go_wp2_with fail
    refine (HROW.out _).mono ?_
    rintro e w1 ⟨rfl, hb1⟩
    have hB := ((Blk.new w 32 #[.int .u8 k, .int .i64 n, .int .i64 a, .int .i64 b, .int .i64 c, .int .i64 r, .int .i64 l]).below hb1).alloc (.cells #[.int .i64 le, .int .i64 mo, .bool ra, .bool rb, .int .i64 lo, .int .i64 hi, .bool rr, .bool rl] 68)
    have p0 := hB.cell 0
    have p1 := hB.cell 1
    have p3 := hB.cell 3
    simp at p0 p1 p3
    have HB := Lib.hid (((Below.refl w.heap.size w).alloc (Nat.le_refl _) _).trans (hb1.mono (by rw [World.size_alloc]; omega)))
    clear hB hb1
    go_wp2_with fail
    all_goals
      go_ret
      refine ⟨ret_i64 ?_, HB.out.alloc HB.out.size _⟩
      have hP := HP.out
      have hp' := hp
      simp only [pw, Int.toNat_natCast] at hP hp'
      have hqb : 1 ≤ b → b ≤ 8 → 0 ≤ (2 : Int) ^ n * b ∧ (2 : Int) ^ n * b ≤ 524288 := fun h1 h2 => by
        have e1 := Int.mul_le_mul_of_nonneg_right hp'.2 (show 0 ≤ b by omega)
        have e2 := Int.mul_nonneg (show (0 : Int) ≤ 2 ^ n by omega) (show 0 ≤ b by omega)
        omega
      generalize (2 : Int) ^ n = q at *
      simp only [beq_iff_eq, beq_eq_false_iff_ne, ne_eq] at *
      rw [hP]
      clear hP HP
      have w0 : wrap64 q = q := by unfold wrap64; omega
      (try rw [w0])
      repeat' split
      all_goals first | omega | (unfold wrap64; omega)
  · rw [if_neg hsz] at hpl
    subst hpl
    have hd : ok = false ∨ (ok = true ∧ s < le) ∨ (ok = true ∧ le ≤ s ∧ mo < s) := by
      cases ok
      · exact .inl rfl
      · simp at hsz
        right
        rcases Int.lt_or_le s le with h | h
        · exact .inl ⟨rfl, h⟩
        · exact .inr ⟨rfl, h, hsz h⟩
    clear hsz hrg
    rcases hd with rfl | ⟨rfl, g⟩ | ⟨rfl, h, g⟩
    all_goals
      first
        | have g1 : decide (s < le) = true := by simp; omega
        | (have g1 : decide (s < le) = false := by simp; omega
           have g2 : decide (mo < s) = true := by simp; omega)
        | skip
      go_enter Try.func17, Try.ntmps17
      go_wp2_with fail
      refine (HROW.out _).mono ?_
      rintro e w1 ⟨rfl, hb1⟩
      have hB := ((Blk.new w 32 #[.int .u8 k, .int .i64 s, .int .i64 a, .int .i64 b, .int .i64 c, .int .i64 r, .int .i64 l]).below hb1).alloc (.cells #[.int .i64 le, .int .i64 mo, .bool ra, .bool rb, .int .i64 lo, .int .i64 hi, .bool rr, .bool rl] 68)
      have p1 := hB.cell 1
      simp at p1
      have HB := Lib.hid (((Below.refl w.heap.size w).alloc (Nat.le_refl _) _).trans (hb1.mono (by rw [World.size_alloc]; omega)))
      clear hB hb1
      go_wp2_with fail
      go_ret
      exact ⟨rfl, HB.out.alloc HB.out.size _⟩
end Go.Proofs.Ytaiekpdoljleeaa
