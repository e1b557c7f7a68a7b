/- The kinds' rows, a number's range, powers of two: plain, and their walks. No condition but a power's (at most 16). · A part's places, of the program and of the reference: walks. No condition. · A part's places by the reference: walks. No condition. · May a part stand at a place: of the program: the walk. Places from 0 to 100000. -/
import Derived.Test.YtnohfeaamfjimaaVrSt
namespace Go.Proofs.Ytnohfeaamfjimaa
open Go.RowKit Go.WideShapes
set_option linter.unusedVariables false
/-- A kind's row: least and most of Size; A, B; low and high of C; Rate, Limit. -/
structure Rw where
  least : Int
  most : Int
  a : Bool
  b : Bool
  low : Int
  high : Int
  rate : Bool
  limit : Bool
def Rw.agg (r : Rw) : Value := .agg #[.int .i64 r.least, .int .i64 r.most, .bool r.a, .bool r.b, .int .i64 r.low, .int .i64 r.high, .bool r.rate, .bool r.limit]
def rowK (k : Int) : Rw :=
  if k = 1 then ⟨0, -1, false, false, -2047, 2047, false, false⟩ else
  if k = 2 then ⟨0, 16, false, false, 0, 0, false, true⟩ else
  if k = 3 then ⟨0, 16, false, false, 0, 0, false, false⟩ else
  if k = 4 then ⟨4, 16, false, false, 0, 0, false, false⟩ else
  if k = 5 then ⟨0, -1, true, true, 0, 256, false, false⟩ else
  if k = 6 then ⟨0, 16, true, true, 0, 0, true, false⟩ else
  if k = 7 then ⟨0, 12, true, true, 0, 0, true, false⟩ else
  if k = 8 then ⟨0, 16, true, false, 0, 0, false, false⟩ else
  if k = 9 then ⟨0, 10, true, false, 0, 0, false, true⟩ else
  ⟨0, 0, false, false, 0, 0, false, false⟩
def okK (k : Int) : Bool := decide (1 ≤ k) && decide (k ≤ 9)
theorem kind_cases (k : Int) : k = 1 ∨ k = 2 ∨ k = 3 ∨ k = 4 ∨ k = 5 ∨ k = 6 ∨ k = 7 ∨ k = 8 ∨ k = 9 ∨ (k < 1 ∨ 9 < k) := by omega
structure IsRow (k : Int) (w0 : World) (e : Ending) (w : World) : Prop where
  ret : e = .returned (.tuple #[(rowK k).agg, .bool (okK k)])
  low : Below w0.heap.size w0 w
set_option maxHeartbeats 1000000 in
theorem rowOf_any (k : Int) (w : World) : Calls Try.prog 62 #[.int .u8 k] w (IsRow k w) := by
  have hb : ∀ (u : Value), Below w.heap.size w (w.alloc (.cells u.cells 131)) := fun u => (Below.refl _ _).alloc (Nat.le_refl _) _
  rcases kind_cases k with rfl | rfl | rfl | rfl | rfl | rfl | rfl | rfl | rfl | h
  · go_enter Try.func62, Try.ntmps62
    go_wp2
    exact bodyPost_ret (v := .tuple #[.agg #[.int .i64 0, .int .i64 (-1), .bool false, .bool false, .int .i64 (-2047), .int .i64 2047, .bool false, .bool false], .bool true]) (by simp [results, Try.results62, go_sem]) rfl ⟨rfl, by first | exact (((Below.refl _ _).alloc (Nat.le_refl _) _).setCell (by simp) _) | (repeat (first | exact (Below.refl _ _).alloc (Nat.le_refl _) _ | (refine Below.setCell ?_ (by simp) _)))⟩
  · go_enter Try.func62, Try.ntmps62
    go_wp2
    exact bodyPost_ret (v := .tuple #[.agg #[.int .i64 0, .int .i64 (16), .bool false, .bool false, .int .i64 (0), .int .i64 0, .bool false, .bool true], .bool true]) (by simp [results, Try.results62, go_sem]) rfl ⟨rfl, by first | exact (((Below.refl _ _).alloc (Nat.le_refl _) _).setCell (by simp) _) | (repeat (first | exact (Below.refl _ _).alloc (Nat.le_refl _) _ | (refine Below.setCell ?_ (by simp) _)))⟩
  · go_enter Try.func62, Try.ntmps62
    go_wp2
    exact bodyPost_ret (v := .tuple #[.agg #[.int .i64 0, .int .i64 (16), .bool false, .bool false, .int .i64 (0), .int .i64 0, .bool false, .bool false], .bool true]) (by simp [results, Try.results62, go_sem]) rfl ⟨rfl, by first | exact (((Below.refl _ _).alloc (Nat.le_refl _) _).setCell (by simp) _) | (repeat (first | exact (Below.refl _ _).alloc (Nat.le_refl _) _ | (refine Below.setCell ?_ (by simp) _)))⟩
  · go_enter Try.func62, Try.ntmps62
    go_wp2
    exact bodyPost_ret (v := .tuple #[.agg #[.int .i64 4, .int .i64 (16), .bool false, .bool false, .int .i64 (0), .int .i64 0, .bool false, .bool false], .bool true]) (by simp [results, Try.results62, go_sem]) rfl ⟨rfl, by first | exact (((Below.refl _ _).alloc (Nat.le_refl _) _).setCell (by simp) _) | (repeat (first | exact (Below.refl _ _).alloc (Nat.le_refl _) _ | (refine Below.setCell ?_ (by simp) _)))⟩
  · go_enter Try.func62, Try.ntmps62
    go_wp2
    exact bodyPost_ret (v := .tuple #[.agg #[.int .i64 0, .int .i64 (-1), .bool true, .bool true, .int .i64 (0), .int .i64 256, .bool false, .bool false], .bool true]) (by simp [results, Try.results62, go_sem]) rfl ⟨rfl, by first | exact (((Below.refl _ _).alloc (Nat.le_refl _) _).setCell (by simp) _) | (repeat (first | exact (Below.refl _ _).alloc (Nat.le_refl _) _ | (refine Below.setCell ?_ (by simp) _)))⟩
  · go_enter Try.func62, Try.ntmps62
    go_wp2
    exact bodyPost_ret (v := .tuple #[.agg #[.int .i64 0, .int .i64 (16), .bool true, .bool true, .int .i64 (0), .int .i64 0, .bool true, .bool false], .bool true]) (by simp [results, Try.results62, go_sem]) rfl ⟨rfl, by first | exact (((Below.refl _ _).alloc (Nat.le_refl _) _).setCell (by simp) _) | (repeat (first | exact (Below.refl _ _).alloc (Nat.le_refl _) _ | (refine Below.setCell ?_ (by simp) _)))⟩
  · go_enter Try.func62, Try.ntmps62
    go_wp2
    exact bodyPost_ret (v := .tuple #[.agg #[.int .i64 0, .int .i64 (12), .bool true, .bool true, .int .i64 (0), .int .i64 0, .bool true, .bool false], .bool true]) (by simp [results, Try.results62, go_sem]) rfl ⟨rfl, by first | exact (((Below.refl _ _).alloc (Nat.le_refl _) _).setCell (by simp) _) | (repeat (first | exact (Below.refl _ _).alloc (Nat.le_refl _) _ | (refine Below.setCell ?_ (by simp) _)))⟩
  · go_enter Try.func62, Try.ntmps62
    go_wp2
    exact bodyPost_ret (v := .tuple #[.agg #[.int .i64 0, .int .i64 (16), .bool true, .bool false, .int .i64 (0), .int .i64 0, .bool false, .bool false], .bool true]) (by simp [results, Try.results62, go_sem]) rfl ⟨rfl, by first | exact (((Below.refl _ _).alloc (Nat.le_refl _) _).setCell (by simp) _) | (repeat (first | exact (Below.refl _ _).alloc (Nat.le_refl _) _ | (refine Below.setCell ?_ (by simp) _)))⟩
  · go_enter Try.func62, Try.ntmps62
    go_wp2
    exact bodyPost_ret (v := .tuple #[.agg #[.int .i64 0, .int .i64 (10), .bool true, .bool false, .int .i64 (0), .int .i64 0, .bool false, .bool true], .bool true]) (by simp [results, Try.results62, go_sem]) rfl ⟨rfl, by first | exact (((Below.refl _ _).alloc (Nat.le_refl _) _).setCell (by simp) _) | (repeat (first | exact (Below.refl _ _).alloc (Nat.le_refl _) _ | (refine Below.setCell ?_ (by simp) _)))⟩
  · have g : ∀ n : Int, 1 ≤ n → n ≤ 9 → (k == n) = false := fun n h1 h2 => by simp; omega
    have g1 := g 1 (by omega) (by omega)
    have g2 := g 2 (by omega) (by omega)
    have g3 := g 3 (by omega) (by omega)
    have g4 := g 4 (by omega) (by omega)
    have g5 := g 5 (by omega) (by omega)
    have g6 := g 6 (by omega) (by omega)
    have g7 := g 7 (by omega) (by omega)
    have g8 := g 8 (by omega) (by omega)
    have g9 := g 9 (by omega) (by omega)
    have e : (Value.tuple #[(rowK k).agg, .bool (okK k)]) = .tuple #[.agg #[.int .i64 0, .int .i64 0, .bool false, .bool false, .int .i64 0, .int .i64 0, .bool false, .bool false], .bool false] := by
      unfold rowK okK
      rw [if_neg (by omega), if_neg (by omega), if_neg (by omega), if_neg (by omega), if_neg (by omega), if_neg (by omega), if_neg (by omega), if_neg (by omega), if_neg (by omega)]
      rw [show (decide (1 ≤ k) && decide (k ≤ 9)) = false by rw [Bool.and_eq_false_iff]; simp; omega]
      rfl
    have E := Lib.hid e
    clear e g h
    go_enter Try.func62, Try.ntmps62
    go_wp2
    exact bodyPost_ret (v := .tuple #[.agg #[.int .i64 0, .int .i64 0, .bool false, .bool false, .int .i64 0, .int .i64 0, .bool false, .bool false], .bool false]) (by simp [results, Try.results62, go_sem]) rfl ⟨by rw [E.out], by first | exact (((Below.refl _ _).alloc (Nat.le_refl _) _).setCell (by simp) _) | (repeat (first | exact (Below.refl _ _).alloc (Nat.le_refl _) _ | (refine Below.setCell ?_ (by simp) _)))⟩
/-- Is a number from a to b; where the field is not named: nought. -/
def inB (n low high : Int) (named : Bool) : Bool := if named then decide (low ≤ n) && decide (n ≤ high) else decide (0 ≤ n) && decide (n ≤ 0)
structure Same (v : Value) (w0 : World) (e : Ending) (w : World) : Prop where
  ret : e = .returned v
  same : w0 = w
theorem in_any (n low high : Int) (named : Bool) (w : World) : Calls Try.prog 63 #[.int .i64 n, .int .i64 low, .int .i64 high, .bool named] w (Same (.bool (inB n low high named)) w) := by
  cases named
  · by_cases h1 : 0 ≤ n
    · have g : decide (0 ≤ n) = true := by simp; omega
      go_enter Try.func63, Try.ntmps63
      go_wp2
      go_ret
      exact ⟨by simp [inB, h1], rfl⟩
    · have g : decide (0 ≤ n) = false := by simp; omega
      go_enter Try.func63, Try.ntmps63
      go_wp2
      go_ret
      exact ⟨by simp [inB, g], rfl⟩
  · by_cases h1 : low ≤ n
    · have g : decide (low ≤ n) = true := by simp; omega
      go_enter Try.func63, Try.ntmps63
      go_wp2
      go_ret
      exact ⟨by simp [inB, h1], rfl⟩
    · have g : decide (low ≤ n) = false := by simp; omega
      go_enter Try.func63, Try.ntmps63
      go_wp2
      go_ret
      exact ⟨by simp [inB, g], rfl⟩
theorem within_any (n low high : Int) (w : World) : Calls Try.prog 68 #[.int .i64 n, .int .i64 low, .int .i64 high] w (Same (.bool (inB n low high true)) w) := by
  by_cases h1 : low ≤ n
  · have g : decide (low ≤ n) = true := by simp; omega
    go_enter Try.func68, Try.ntmps68
    go_wp2
    go_ret
    exact ⟨by simp [inB, h1], rfl⟩
  · have g : decide (low ≤ n) = false := by simp; omega
    go_enter Try.func68, Try.ntmps68
    go_wp2
    go_ret
    exact ⟨by simp [inB, g], rfl⟩
end Go.Proofs.Ytnohfeaamfjimaa
namespace Go.Proofs.Ytnohfeaamfjimaa
open Go.RowKit Go.WideShapes
set_option linter.unusedVariables false
/-- 2 to the n. -/
def pw (n : Int) : Int := 2 ^ n.toNat
theorem pw_bd (n : Nat) (h : n ≤ 16) : 1 ≤ (2 : Int) ^ n ∧ (2 : Int) ^ n ≤ 65536 := by
  have h1 : (2 : Int) ^ n ≤ 2 ^ 16 := by exact_mod_cast Nat.pow_le_pow_right (by omega : 0 < 2) h
  have h2 : (0 : Int) < 2 ^ n := Int.pow_pos (by omega)
  have h3 : (2 : Int) ^ 16 = 65536 := by decide
  omega
def szOk (k s : Int) : Bool := okK k && decide ((rowK k).least ≤ s) && decide (s ≤ (rowK k).most)
def placesP (k s b : Int) : Int :=
  if szOk k s then
    if k = 3 then pw s + 256 else if k = 4 then 2 * pw s else if k = 7 then (if 1 ≤ b ∧ b ≤ 8 then pw s * b else 0) else if k = 8 then pw s + 512 else if k = 9 then pw s * 32 else pw s
  else 0
theorem sz_range {k s : Int} (h : szOk k s = true) : 0 ≤ s ∧ s ≤ 16 := by
  unfold szOk okK at h
  simp only [Bool.and_eq_true, decide_eq_true_eq] at h
  obtain ⟨⟨_, h1⟩, h2⟩ := h
  rcases kind_cases k with rfl | rfl | rfl | rfl | rfl | rfl | rfl | rfl | rfl | h
  all_goals first | (simp [rowK] at h1 h2; omega) | omega
theorem bcell {W w1 : World} (hb : Below W.heap.size W w1) : (∀ b o, b < W.heap.size → w1.cell? ⟨b, o, none⟩ = W.cell? ⟨b, o, none⟩) ∧ (∀ b o, b < W.heap.size → w1.frozen? ⟨b, o, none⟩ = W.frozen? ⟨b, o, none⟩) :=
  ⟨fun b o h => hb.cell (p := ⟨b, o, none⟩) h, fun b o h => hb.frozen (p := ⟨b, o, none⟩) h⟩
structure Quiet (v : Value) (w0 : World) (e : Ending) (w : World) : Prop where
  ret : e = .returned v
  low : Below w0.heap.size w0 w
set_option maxHeartbeats 1000000 in
theorem places_any (t : Pt) (w : World) (s0 : -9223372036854775808 ≤ t.s) (s1 : t.s ≤ 9223372036854775807) : Calls Try.prog 49 #[t.agg] w (Quiet (.int .i64 (placesP t.k t.s t.b)) w) := by
  obtain ⟨k, s, a, b, c, r, l⟩ := t
  simp only at s0 s1 ⊢
  have hrow := fun w => rowOf_any k w
  unfold Pt.agg
  simp only
  have hR : ∀ w e w', IsRow k w e w' → e = .returned (.tuple #[(rowK k).agg, .bool (okK k)]) ∧ Below w.heap.size w w' := fun w e w' h => ⟨h.1, h.2⟩
  have hpl : placesP k s b = if szOk k s then
    if k = 3 then pw s + 256 else if k = 4 then 2 * pw s else if k = 7 then (if 1 ≤ b ∧ b ≤ 8 then pw s * b else 0) else if k = 8 then pw s + 512 else if k = 9 then pw s * 32 else pw s
    else 0 := rfl
  have hrg := fun h => sz_range (k := k) (s := s) h
  obtain ⟨P, hP⟩ : ∃ P, placesP k s b = P := ⟨_, rfl⟩
  rw [hP] at hpl ⊢
  clear hP
  unfold szOk at hpl hrg
  obtain ⟨ok, hok⟩ : ∃ x, okK k = x := ⟨_, rfl⟩
  obtain ⟨R, hRR⟩ : ∃ x, rowK k = x := ⟨_, rfl⟩
  rw [hok, hRR] at hpl hrg
  simp only [hok, hRR] at hR
  clear hok hRR
  obtain ⟨le, mo, ra, rb, lo, hi, rr, rl⟩ := R
  simp only at hpl hrg
  unfold Rw.agg at hR
  have HROW := Lib.hid fun w => (hrow w).mono (hR w)
  clear hrow hR
  by_cases hsz : (ok && decide (le ≤ s) && decide (s ≤ mo)) = true
  · have hr := hrg hsz
    rw [if_pos hsz] at hpl
    have hp := pw_bd s.toNat (by omega)
    obtain ⟨n, hn⟩ : ∃ n : Nat, s = n := ⟨s.toNat, by omega⟩
    subst hn
    simp only [Bool.and_eq_true, decide_eq_true_eq] at hsz
    obtain ⟨⟨rfl, g1⟩, g2⟩ := hsz
    have g3 : decide ((n : Int) < le) = false := by simp; omega
    have g4 : decide (mo < (n : Int)) = false := by simp; omega
    have HP := Lib.hid hpl
    clear hpl hrg
    go_enter Try.func49, Try.ntmps49
    go_wp2_with fail
    refine (HROW.out _).mono ?_
    rintro e w1 ⟨rfl, hb1⟩
    have hB := ((Blk.new w 25 #[.int .u8 k, .int .i64 n, .int .i64 a, .int .i64 b, .int .i64 c, .int .i64 r, .int .i64 l]).below hb1).alloc (.cells #[.int .i64 le, .int .i64 mo, .bool ra, .bool rb, .int .i64 lo, .int .i64 hi, .bool rr, .bool rl] 131)
    have p0 := hB.cell 0
    have p1 := hB.cell 1
    have p3 := hB.cell 3
    simp at p0 p1 p3
    have HB := Lib.hid (((Below.refl w.heap.size w).alloc (Nat.le_refl _) _).trans (hb1.mono (by rw [World.size_alloc]; omega)))
    clear hB hb1
    go_wp2_with fail
    all_goals
      go_ret
      refine ⟨ret_i64 ?_, HB.out.alloc HB.out.size _⟩
      have hP := HP.out
      have hp' := hp
      simp only [pw, Int.toNat_natCast] at hP hp'
      have hqb : 1 ≤ b → b ≤ 8 → 0 ≤ (2 : Int) ^ n * b ∧ (2 : Int) ^ n * b ≤ 524288 := fun h1 h2 => by
        have e1 := Int.mul_le_mul_of_nonneg_right hp'.2 (show 0 ≤ b by omega)
        have e2 := Int.mul_nonneg (show (0 : Int) ≤ 2 ^ n by omega) (show 0 ≤ b by omega)
        omega
      generalize (2 : Int) ^ n = q at *
      simp only [beq_iff_eq, beq_eq_false_iff_ne, ne_eq] at *
      rw [hP]
      clear hP HP
      have w0 : wrap64 q = q := by unfold wrap64; omega
      (try rw [w0])
      repeat' split
      all_goals first | omega | (unfold wrap64; omega)
  · rw [if_neg hsz] at hpl
    subst hpl
    have hd : ok = false ∨ (ok = true ∧ s < le) ∨ (ok = true ∧ le ≤ s ∧ mo < s) := by
      cases ok
      · exact .inl rfl
      · simp at hsz
        right
        rcases Int.lt_or_le s le with h | h
        · exact .inl ⟨rfl, h⟩
        · exact .inr ⟨rfl, h, hsz h⟩
    clear hsz hrg
    rcases hd with rfl | ⟨rfl, g⟩ | ⟨rfl, h, g⟩
    all_goals
      first
        | have g1 : decide (s < le) = true := by simp; omega
        | (have g1 : decide (s < le) = false := by simp; omega
           have g2 : decide (mo < s) = true := by simp; omega)
        | skip
      go_enter Try.func49, Try.ntmps49
      go_wp2_with fail
      refine (HROW.out _).mono ?_
      rintro e w1 ⟨rfl, hb1⟩
      have hB := ((Blk.new w 25 #[.int .u8 k, .int .i64 s, .int .i64 a, .int .i64 b, .int .i64 c, .int .i64 r, .int .i64 l]).below hb1).alloc (.cells #[.int .i64 le, .int .i64 mo, .bool ra, .bool rb, .int .i64 lo, .int .i64 hi, .bool rr, .bool rl] 131)
      have p1 := hB.cell 1
      simp at p1
      have HB := Lib.hid (((Below.refl w.heap.size w).alloc (Nat.le_refl _) _).trans (hb1.mono (by rw [World.size_alloc]; omega)))
      clear hB hb1
      go_wp2_with fail
      go_ret
      exact ⟨rfl, HB.out.alloc HB.out.size _⟩
end Go.Proofs.Ytnohfeaamfjimaa
namespace Go.Proofs.Ytnohfeaamfjimaa
open Go.RowKit Go.WideShapes
set_option linter.unusedVariables false
def mostR (k : Int) : Int := if k = 2 ∨ k = 3 ∨ k = 4 ∨ k = 6 ∨ k = 8 then 16 else if k = 7 then 12 else if k = 9 then 10 else -1
theorem most_any (k : Int) (w : World) : Calls Try.prog 72 #[.int .u8 k] w (Same (.int .i64 (mostR k)) w) := by
  have hm : mostR k = if k = 2 ∨ k = 3 ∨ k = 4 ∨ k = 6 ∨ k = 8 then 16 else if k = 7 then 12 else if k = 9 then 10 else -1 := rfl
  obtain ⟨m, hmm⟩ : ∃ m, mostR k = m := ⟨_, rfl⟩
  rw [hmm] at hm ⊢
  clear hmm
  have HM := Lib.hid hm
  clear hm
  go_enter Try.func72, Try.ntmps72
  go_wp2
  all_goals
    go_ret
    refine ⟨ret_i64 ?_, rfl⟩
    have hm := HM.out
    simp only [beq_iff_eq, beq_eq_false_iff_ne, ne_eq] at *
    rw [hm]
    repeat' split
    all_goals omega
theorem power_any (n : Nat) (w : World) (hn : n ≤ 16) : Calls Try.prog 73 #[.int .i64 n] w (Same (.int .i64 (2 ^ n)) w) := by
  have hpw : ∀ j : Nat, j ≤ n → 1 ≤ (2 : Int) ^ j ∧ (2 : Int) ^ j ≤ 65536 := fun j hj => pw_bd j (by omega)
  have HP := Lib.hid hpw
  clear hpw
  go_enter Try.func73, Try.ntmps73
  go_wp2
  go_loop [3, 4] (fun p i => ∃ j : Nat, j ≤ n ∧ i = .int .i64 j ∧ p = .int .i64 (2 ^ j)) (fun _ i => n - (intOf i).toNat)
  case atStart => exact ⟨0, by omega, rfl, rfl⟩
  case round =>
    obtain ⟨j, hj, rfl, rfl⟩ := hrel
    have hp := HP.out j hj
    have hs : (2 : Int) ^ (j + 1) = 2 ^ j * 2 := Int.pow_succ 2 j
    have HS := Lib.hid hs
    clear hs
    by_cases hlt : j < n
    · have hp1 := HP.out (j + 1) (by omega)
      rw [HS.out] at hp1
      obtain ⟨q, hq⟩ : ∃ q, (2 : Int) ^ j = q := ⟨_, rfl⟩
      have HQ := Lib.hid hq
      rw [hq] at hp hp1 ⊢
      clear hq
      go_wp2
      go_round
      case rel => exact ⟨j + 1, by omega, by go_num, by rw [HS.out, HQ.out]⟩
      case measure => simp [intOf]; omega
    · have hjn : j = n := by omega
      subst hjn
      go_wp2
      go_ret
      exact ⟨rfl, rfl⟩
theorem szR (k s : Int) : inB s (if k = 4 then 4 else 0) (mostR k) true = szOk k s := by
  rcases kind_cases k with rfl | rfl | rfl | rfl | rfl | rfl | rfl | rfl | rfl | h
  all_goals first
    | (simp [inB, mostR, szOk, okK, rowK]; done)
    | (rw [Bool.eq_iff_iff]; simp [inB, mostR, szOk, okK, rowK]; done)
    | (rw [Bool.eq_iff_iff]; simp [inB, mostR, szOk, okK, rowK]; omega)
    | (have e : okK k = false := by unfold okK; rw [Bool.and_eq_false_iff]; simp; omega
       have e2 : mostR k = -1 := by unfold mostR; rw [if_neg (by omega), if_neg (by omega), if_neg (by omega)]
       have e3 : (if k = 4 then (4 : Int) else 0) = 0 := if_neg (by omega)
       unfold szOk
       rw [e, e2, e3]
       simp [inB]
       omega)
theorem quiet_same {P : Program} {f : FuncId} {args : Array Value} {w : World} {n : Nat} {v : Value} (h : Calls P f args (w.drewN n) (Same v (w.drewN n))) : Calls P f args (w.drewN n) fun e w'' => e = .returned v ∧ ∃ m, w'' = w.drewN m :=
  h.mono fun _ _ ⟨he, hm⟩ => ⟨he, n, hm.symm⟩
set_option maxHeartbeats 2000000 in
theorem placesR_any (t : Pt) (w : World) : Calls Try.prog 67 #[t.agg] w (Quiet (.int .i64 (placesP t.k t.s t.b)) w) := by
  obtain ⟨k, s, a, b, c, r, l⟩ := t
  unfold Pt.agg
  simp only
  have hpl : placesP k s b = if szOk k s then
    if k = 3 then pw s + 256 else if k = 4 then 2 * pw s else if k = 7 then (if 1 ≤ b ∧ b ≤ 8 then pw s * b else 0) else if k = 8 then pw s + 512 else if k = 9 then pw s * 32 else pw s
    else 0 := rfl
  obtain ⟨P, hP⟩ : ∃ P, placesP k s b = P := ⟨_, rfl⟩
  rw [hP] at hpl ⊢
  clear hP
  have hrg := fun h => sz_range (k := k) (s := s) h
  have hsz := szR k s
  have hmost := fun W => most_any k W
  have hwithin := fun W => within_any s (if k = 4 then 4 else 0) (mostR k) W
  obtain ⟨m, hm⟩ : ∃ m, mostR k = m := ⟨_, rfl⟩
  rw [hm] at hsz
  simp only [hm] at hmost hwithin
  rw [hsz] at hwithin
  have hw8 := fun W => within_any b 1 8 W
  obtain ⟨B8, hB8⟩ : ∃ x, inB b 1 8 true = x := ⟨_, rfl⟩
  have hb8 : (1 ≤ b ∧ b ≤ 8) ↔ B8 = true := by rw [← hB8]; simp [inB]
  simp only [hB8] at hw8
  clear hm hsz hB8
  have HM := Lib.hid hmost
  have HW := Lib.hid hwithin
  have H8 := Lib.hid hw8
  have HB8 := Lib.hid hb8
  clear hmost hwithin hw8 hb8
  by_cases hok : szOk k s = true
  · have hr := hrg hok
    rw [if_pos hok] at hpl
    obtain ⟨n, hn⟩ : ∃ n : Nat, s = n := ⟨s.toNat, by omega⟩
    subst hn
    have hp := pw_bd n (by omega)
    have HPW := Lib.hid (fun W => power_any n W (by omega))
    have HW2 := HW.out
    rw [hok] at HW2
    have HWW := Lib.hid HW2
    have HP := Lib.hid hpl
    clear hpl hrg HW2 HW hok
    obtain ⟨q, hq⟩ : ∃ q, (2 : Int) ^ n = q := ⟨_, rfl⟩
    have HQ := Lib.hid hq
    rw [hq] at hp HPW
    clear hq
    rcases (show k = 4 ∨ k ≠ 4 from by omega) with rfl | hk
    · have g4 : ((4 : Int) == 4) = true := rfl
      have h1 := HWW.out
      rw [if_pos rfl] at h1
      have H1 := Lib.hid h1
      clear h1 HWW
      go_enter Try.func67, Try.ntmps67
      go_wp2_with fail
      go_quiet ((first | (go_at_call 72; exact quiet_same (HM.out _)) | (go_at_call 68; exact quiet_same (H1.out _))))
      go_wp2_with (first | (go_at_call 73; refine (HPW.out _).mono ?_; rintro e w1 ⟨rfl, rfl⟩) | (go_at_call 68; refine (H8.out _).mono ?_; rintro e w1 ⟨rfl, rfl⟩))
      all_goals
        go_ret
        refine ⟨ret_i64 ?_, below_drewN ((Below.refl _ _).alloc (Nat.le_refl _) _) _⟩
        have hP := HP.out
        simp only [pw, Int.toNat_natCast] at hP
        rw [HQ.out] at hP
        rw [hP]
        simp
    · have g4 : (k == 4) = false := by simp; exact hk
      have h1 := HWW.out
      rw [if_neg hk] at h1
      have H1 := Lib.hid h1
      clear h1 HWW
      have HK := Lib.hid hk
      clear hk
      go_enter Try.func67, Try.ntmps67
      go_wp2_with fail
      go_quiet ((first | (go_at_call 72; exact quiet_same (HM.out _)) | (go_at_call 68; exact quiet_same (H1.out _))))
      go_wp2_with (first | (go_at_call 73; refine (HPW.out _).mono ?_; rintro e w1 ⟨rfl, rfl⟩) | (go_at_call 68; refine (H8.out _).mono ?_; rintro e w1 ⟨rfl, rfl⟩))
      all_goals
        go_ret
        refine ⟨ret_i64 ?_, below_drewN ((Below.refl _ _).alloc (Nat.le_refl _) _) _⟩
        have hP := HP.out
        have hK := HK.out
        have hB8 := HB8.out
        simp only [pw, Int.toNat_natCast] at hP
        rw [HQ.out] at hP
        rw [hP]
        have hqb : 1 ≤ b → b ≤ 8 → 0 ≤ q * b ∧ q * b ≤ 524288 := fun h1 h2 => by
          have e1 := Int.mul_le_mul_of_nonneg_right hp.2 (show 0 ≤ b by omega)
          have e2 := Int.mul_nonneg (show (0 : Int) ≤ q by omega) (show 0 ≤ b by omega)
          omega
        have hcm : b * q = q * b := Int.mul_comm b q
        clear HP HK HB8 hP
        cases B8 <;> simp_all <;> (try (repeat' split)) <;> first | omega | (unfold wrap64; omega)
  · have hok' : szOk k s = false := by simpa using hok
    rw [if_neg hok] at hpl
    subst hpl
    have HW2 := HW.out
    rw [hok'] at HW2
    have HWW := Lib.hid HW2
    clear hrg HW2 HW hok hok'
    rcases (show k = 4 ∨ k ≠ 4 from by omega) with rfl | hk
    · have g4 : ((4 : Int) == 4) = true := rfl
      have h1 := HWW.out
      rw [if_pos rfl] at h1
      have H1 := Lib.hid h1
      clear h1 HWW
      go_enter Try.func67, Try.ntmps67
      go_wp2_with fail
      go_quiet ((first | (go_at_call 72; exact quiet_same (HM.out _)) | (go_at_call 68; exact quiet_same (H1.out _))))
      go_wp2
      go_ret
      exact ⟨rfl, below_drewN ((Below.refl _ _).alloc (Nat.le_refl _) _) _⟩
    · have g4 : (k == 4) = false := by simp; exact hk
      have h1 := HWW.out
      rw [if_neg hk] at h1
      have H1 := Lib.hid h1
      clear h1 HWW hk
      go_enter Try.func67, Try.ntmps67
      go_wp2_with fail
      go_quiet ((first | (go_at_call 72; exact quiet_same (HM.out _)) | (go_at_call 68; exact quiet_same (H1.out _))))
      go_wp2
      go_ret
      exact ⟨rfl, below_drewN ((Below.refl _ _).alloc (Nat.le_refl _) _) _⟩
end Go.Proofs.Ytnohfeaamfjimaa
namespace Go.Proofs.Ytnohfeaamfjimaa
open Go.RowKit Go.WideShapes
set_option linter.unusedVariables false
def oneP (t : Pt) (i : Int) : Bool :=
  okK t.k && inB t.s (rowK t.k).least (rowK t.k).most (decide (0 ≤ (rowK t.k).most)) && inB t.c (rowK t.k).low (rowK t.k).high (decide (0 < (rowK t.k).high)) && inB t.r 1 64 (rowK t.k).rate && inB t.l 1 1023 (rowK t.k).limit && inB t.a 0 (i - 1) (rowK t.k).a &&
  (if t.k = 7 then inB t.b 1 (if i - t.a < 8 then i - t.a else 8) true else inB t.b 0 (i - 1) (rowK t.k).b)
theorem row7 : (rowK 7).a = true := by rfl
set_option maxRecDepth 100000 in
set_option maxHeartbeats 4000000 in
theorem right_any (t : Pt) (i : Int) (w : World) (i0 : 0 ≤ i) (i1 : i ≤ 100000) : Calls Try.prog 42 #[t.agg, .int .i64 i] w (Quiet (.bool (oneP t i)) w) := by
  obtain ⟨k, s, a, b, c, r, l⟩ := t
  have hrow := fun w => rowOf_any k w
  unfold Pt.agg
  have hR : ∀ w e w', IsRow k w e w' → e = .returned (.tuple #[(rowK k).agg, .bool (okK k)]) ∧ Below w.heap.size w w' := fun w e w' h => ⟨h.1, h.2⟩
  have hone : oneP ⟨k, s, a, b, c, r, l⟩ i = (okK k && inB s (rowK k).least (rowK k).most (decide (0 ≤ (rowK k).most)) && inB c (rowK k).low (rowK k).high (decide (0 < (rowK k).high)) && inB r 1 64 (rowK k).rate && inB l 1 1023 (rowK k).limit && inB a 0 (i - 1) (rowK k).a &&
    (if k = 7 then inB b 1 (if i - a < 8 then i - a else 8) true else inB b 0 (i - 1) (rowK k).b)) := rfl
  simp only
  have h7 : k = 7 → (rowK k).a = true := fun h => by subst h; exact row7
  have hk0 : okK k = true → 1 ≤ k := fun h => by unfold okK at h; simp at h; exact h.1
  obtain ⟨P, hP⟩ : ∃ P, oneP ⟨k, s, a, b, c, r, l⟩ i = P := ⟨_, rfl⟩
  rw [hP] at hone ⊢
  obtain ⟨ok, hok⟩ : ∃ x, okK k = x := ⟨_, rfl⟩
  obtain ⟨R, hRR⟩ : ∃ x, rowK k = x := ⟨_, rfl⟩
  rw [hok, hRR] at hone
  rw [hRR] at h7
  rw [hok] at hk0
  simp only [hok, hRR] at hR
  clear hok hRR
  obtain ⟨le, mo, ra, rb, lo, hi, rr, rl⟩ := R
  simp only at hone h7
  unfold Rw.agg at hR
  have HROW := Lib.hid fun w => (hrow w).mono (hR w)
  have H1 := Lib.hid hone
  have H7 := Lib.hid h7
  have HK := Lib.hid hk0
  clear hrow hR hone hP h7 hk0
  go_enter Try.func42, Try.ntmps42
  go_wp2_with fail
  refine (HROW.out _).mono ?_
  rintro e w1 ⟨rfl, hb1⟩
  have hB := ((Blk.new w 25 #[.int .u8 k, .int .i64 s, .int .i64 a, .int .i64 b, .int .i64 c, .int .i64 r, .int .i64 l]).below hb1).alloc (.cells #[.int .i64 le, .int .i64 mo, .bool ra, .bool rb, .int .i64 lo, .int .i64 hi, .bool rr, .bool rl] 131)
  have p0 := hB.cell 0
  have p1 := hB.cell 1
  have p2 := hB.cell 2
  have p3 := hB.cell 3
  have p4 := hB.cell 4
  have p5 := hB.cell 5
  have p6 := hB.cell 6
  simp at p0 p1 p2 p3 p4 p5 p6
  have HB := Lib.hid (((Below.refl w.heap.size w).alloc (Nat.le_refl _) _).trans (hb1.mono (by rw [World.size_alloc]; omega)))
  clear hB hb1
  cases ok
  · go_wp2_with fail
    go_ret
    exact ⟨by rw [H1.out]; simp, HB.out.alloc HB.out.size _⟩
  · have k1 := HK.out rfl
    have kz : (k == 0) = false := by simp; omega
    have kz' : (k != 0) = true := by simp; omega
    clear HK
    go_wp2_with (go_at_call 63; refine (in_any _ _ _ _ _).mono ?_; rintro e w2 ⟨rfl, rfl⟩)
    all_goals
      go_ret
      refine ⟨ret_bool ?_, HB.out.alloc HB.out.size _⟩
      have h1 := H1.out
      have h7 := H7.out
      have k7 := fun h : k = 7 => h7 h
      clear H1 H7 HB HROW p0 p1 p2 p3 p4 p5 p6 kz kz'
      rw [h1]
      clear h1
      first
        | (simp_all; done)
        | (have e7 : k = 7 := by simp_all
           have ha : inB a 0 (i - 1) ra = true := by simp_all
           rw [k7 e7] at ha
           simp [inB] at ha
           have ew : wrap64 (i - a) = i - a := by unfold wrap64; omega
           simp_all
           try (rw [if_pos (by omega)])
           try (rw [if_neg (by omega)]))
end Go.Proofs.Ytnohfeaamfjimaa
