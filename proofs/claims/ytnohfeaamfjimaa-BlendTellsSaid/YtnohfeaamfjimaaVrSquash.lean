/- What each function of package squash and of its reference computes, for every number; no condition. -/
import Derived.Test.YtnohfeaamfjimaaVrStates
import Derived.WalkKit
import Derived.WalkSpells
import Derived.WalkLawsBesides
import Derived.Lib.Hide
import Derived.Deep.WholeRow
import Derived.Deep.RegionHeld3
import Derived.Deep.QuietTactic
import Derived.BigQuiet
namespace Go.Proofs.Ytnohfeaamfjimaa
open Go.RowKit
def knotsI : List Int := [1, 2, 4, 6, 10, 17, 27, 45, 74, 120, 194, 311, 488, 747, 1102, 1546, 2048, 2550, 2994, 3349, 3608, 3785, 3902, 3976, 4022, 4051, 4069, 4079, 4086, 4090, 4092, 4094, 4095]
def knotI (i : Int) : Int := knotsI.getD i.toNat 0
def sqI (d : Int) : Int := if 2047 < d then 4095 else if d < -2047 then 1 else (knotI ((d + 2048) / 128) * (128 - (d + 2048) % 128) + knotI ((d + 2048) / 128 + 1) * ((d + 2048) % 128) + 64) / 128
theorem knot_at (n : Nat) (h1 : n ≤ 32) : ([.int .i64 1, .int .i64 2, .int .i64 4, .int .i64 6, .int .i64 10, .int .i64 17, .int .i64 27, .int .i64 45, .int .i64 74, .int .i64 120, .int .i64 194, .int .i64 311, .int .i64 488, .int .i64 747, .int .i64 1102, .int .i64 1546, .int .i64 2048, .int .i64 2550, .int .i64 2994, .int .i64 3349, .int .i64 3608, .int .i64 3785, .int .i64 3902, .int .i64 3976, .int .i64 4022, .int .i64 4051, .int .i64 4069, .int .i64 4079, .int .i64 4086, .int .i64 4090, .int .i64 4092, .int .i64 4094, .int .i64 4095] : List Value)[n]? = some (.int .i64 (knotI n)) := by
  have e : ([.int .i64 1, .int .i64 2, .int .i64 4, .int .i64 6, .int .i64 10, .int .i64 17, .int .i64 27, .int .i64 45, .int .i64 74, .int .i64 120, .int .i64 194, .int .i64 311, .int .i64 488, .int .i64 747, .int .i64 1102, .int .i64 1546, .int .i64 2048, .int .i64 2550, .int .i64 2994, .int .i64 3349, .int .i64 3608, .int .i64 3785, .int .i64 3902, .int .i64 3976, .int .i64 4022, .int .i64 4051, .int .i64 4069, .int .i64 4079, .int .i64 4086, .int .i64 4090, .int .i64 4092, .int .i64 4094, .int .i64 4095] : List Value) = knotsI.map (Value.int .i64) := rfl
  rw [e, List.getElem?_map]
  have : n < knotsI.length := by simp only [knotsI, List.length_cons, List.length_nil]; omega
  simp [knotI, List.getElem?_eq_getElem this, List.getD_eq_getElem?_getD]
theorem knot_at' (i : Int) (h0 : 0 ≤ i) (h1 : i ≤ 32) : ([.int .i64 1, .int .i64 2, .int .i64 4, .int .i64 6, .int .i64 10, .int .i64 17, .int .i64 27, .int .i64 45, .int .i64 74, .int .i64 120, .int .i64 194, .int .i64 311, .int .i64 488, .int .i64 747, .int .i64 1102, .int .i64 1546, .int .i64 2048, .int .i64 2550, .int .i64 2994, .int .i64 3349, .int .i64 3608, .int .i64 3785, .int .i64 3902, .int .i64 3976, .int .i64 4022, .int .i64 4051, .int .i64 4069, .int .i64 4079, .int .i64 4086, .int .i64 4090, .int .i64 4092, .int .i64 4094, .int .i64 4095] : List Value)[i.toNat]? = some (.int .i64 (knotI i)) := by
  have := knot_at i.toNat (by omega)
  rwa [Int.toNat_of_nonneg h0] at this
theorem all_knots : ∀ n : Fin 33, 1 ≤ knotI (n.val : Int) ∧ knotI (n.val : Int) ≤ 4095 := by decide +kernel
theorem knot_bd (i : Int) (h0 : 0 ≤ i) (h1 : i ≤ 32) : 1 ≤ knotI i ∧ knotI i ≤ 4095 := by
  have := all_knots ⟨i.toNat, by omega⟩
  simpa [Int.toNat_of_nonneg h0] using this
set_option maxHeartbeats 400000 in
theorem knot_any (i : Int) (w : World) (h0 : 0 ≤ i) (h1 : i ≤ 32) :
    Calls Try.prog 61 #[.int .i64 i] w fun e w' => e = .returned (.int .i64 (knotI i)) ∧ Below w.heap.size w w' := by
  have hk := knot_at' i h0 h1
  go_enter Try.func61, Try.ntmps61
  go_wp2
  go_ret
  exact ⟨rfl, (Below.refl _ _).alloc (Nat.le_refl _) _⟩
def knotVals : Array Value := (knotsI.map (Value.int .i64)).toArray
theorem knotVals_one : knotVals.all (·.oneCell') = true := by kernel_rfl
theorem knotVals_size : (Try.prog.info? 119).map (·.size) = some knotVals.size := by kernel_rfl
theorem vals_at (i : Int) (h0 : 0 ≤ i) (h1 : i ≤ 32) : knotVals[i.toNat]? = some (.int .i64 (knotI i)) := by
  have := knot_at' i h0 h1
  unfold knotVals
  rw [List.getElem?_toArray]
  exact this
set_option maxHeartbeats 1000000 in
theorem knots_any (w : World) :
    Calls Try.prog 46 #[] w fun e w' => e = .returned (.agg knotVals) ∧ Below w.heap.size w w' := by
  go_enter Try.func46, Try.ntmps46
  go_wp2_with (refine wpList_store_row rfl 119 (.tmp 0) (.tmp 1) rfl w.heap.size knotVals rfl rfl 119 _ (heap_alloc_new _ _) knotVals_size rfl knotVals_one ?_; rw [World.setRow_alloc_new])
  refine bodyPost_ret (v := .agg knotVals) ?_ rfl ⟨rfl, (Below.refl _ _).alloc (Nat.le_refl _) _⟩
  exact results_cell_row rfl _ _ w.heap.size 119 knotVals _ _ rfl (heap_alloc_new _ _) Try.underlying119 rfl knotVals_size
theorem prod_bd (a b : Int) (h0 : 1 ≤ a) (h1 : a ≤ 4095) (h2 : 0 ≤ b) (h3 : b ≤ 128) : 0 ≤ a * b ∧ a * b ≤ 524160 := by
  have := Int.mul_le_mul h1 h3 h2 (by omega)
  have := Int.mul_nonneg (show 0 ≤ a by omega) h2
  omega

set_option maxHeartbeats 1000000 in
theorem squash_mid (d : Int) (w : World) (h0 : -2047 ≤ d) (h1 : d ≤ 2047) :
    Calls Try.prog 30 #[.int .i64 d] w fun e w' => e = .returned (.int .i64 (sqI d)) ∧ Below w.heap.size w w' := by
  have hk := vals_at ((d + 2048) / 128) (by omega) (by omega)
  have hk' := vals_at ((d + 2048) / 128 + 1) (by omega) (by omega)
  have b1 := knot_bd ((d + 2048) / 128) (by omega) (by omega)
  have b2 := knot_bd ((d + 2048) / 128 + 1) (by omega) (by omega)
  have p1 := prod_bd _ (128 - (d + 2048) % 128) b1.1 b1.2 (by omega) (by omega)
  have p2 := prod_bd _ ((d + 2048) % 128) b2.1 b2.2 (by omega) (by omega)
  have H : sqI d = (knotI ((d + 2048) / 128) * (128 - (d + 2048) % 128) + knotI ((d + 2048) / 128 + 1) * ((d + 2048) % 128) + 64) / 128 := by
    unfold sqI; rw [if_neg (by omega), if_neg (by omega)]
  have HH := Lib.hid H
  clear H
  go_enter Try.func30, Try.ntmps30
  go_wp2_with (first | (go_at_call 46; refine (knots_any _).mono ?_; rintro e w1 ⟨rfl, hb⟩) | (refine wpList_store_row rfl 119 (.tmp 3) (.tmp 13) rfl _ knotVals rfl rfl 119 _ (heap_alloc_new _ _) knotVals_size rfl knotVals_one ?_; rw [World.setRow_alloc_new]))
  go_quiet (fail)
  go_wp2
  go_ret
  refine ⟨ret_i64 HH.out.symm, ?_⟩
  exact below_drewN (hb.alloc (by have := hb.size; omega) _) _
set_option maxHeartbeats 400000 in
theorem squash_any (d : Int) (w : World) :
    Calls Try.prog 30 #[.int .i64 d] w fun e w' => e = .returned (.int .i64 (sqI d)) ∧ Below w.heap.size w w' := by
  by_cases h1 : 2047 < d
  · go_enter Try.func30, Try.ntmps30
    go_wp2
    go_ret
    exact ⟨ret_i64 (by unfold sqI; rw [if_pos (by omega)]), Below.refl _ _⟩
  · by_cases h2 : d < -2047
    · go_enter Try.func30, Try.ntmps30
      go_wp2
      go_ret
      exact ⟨ret_i64 (by unfold sqI; rw [if_neg (by omega), if_pos (by omega)]), Below.refl _ _⟩
    · exact squash_mid d w (by omega) (by omega)
set_option maxHeartbeats 1000000 in
theorem rsquash_mid (d : Int) (w : World) (h0 : -2047 ≤ d) (h1 : d ≤ 2047) :
    Calls Try.prog 41 #[.int .i64 d] w fun e w' => e = .returned (.int .i64 (sqI d)) ∧ Below w.heap.size w w' := by
  have b1 := knot_bd ((d + 2048) / 128) (by omega) (by omega)
  have b2 := knot_bd ((d + 2048) / 128 + 1) (by omega) (by omega)
  have p1 := prod_bd _ (128 - (d + 2048) % 128) b1.1 b1.2 (by omega) (by omega)
  have p2 := prod_bd _ ((d + 2048) % 128) b2.1 b2.2 (by omega) (by omega)
  have H : sqI d = (knotI ((d + 2048) / 128) * (128 - (d + 2048) % 128) + knotI ((d + 2048) / 128 + 1) * ((d + 2048) % 128) + 64) / 128 := by
    unfold sqI; rw [if_neg (by omega), if_neg (by omega)]
  have HH := Lib.hid H
  clear H
  go_enter Try.func41, Try.ntmps41
  go_wp2_with fail
  refine (knot_any _ _ (by omega) (by omega)).mono ?_
  rintro e w1 ⟨rfl, hb1⟩
  go_wp2_with fail
  refine (knot_any _ _ (by omega) (by omega)).mono ?_
  rintro e w2 ⟨rfl, hb2⟩
  go_wp2
  go_ret
  exact ⟨ret_i64 HH.out.symm, hb1.trans (hb2.mono hb1.size)⟩
set_option maxHeartbeats 400000 in
theorem rsquash_any (d : Int) (w : World) :
    Calls Try.prog 41 #[.int .i64 d] w fun e w' => e = .returned (.int .i64 (sqI d)) ∧ Below w.heap.size w w' := by
  by_cases h1 : 2047 < d
  · go_enter Try.func41, Try.ntmps41
    go_wp2
    go_ret
    exact ⟨ret_i64 (by unfold sqI; rw [if_pos (by omega)]), Below.refl _ _⟩
  · by_cases h2 : d < -2047
    · go_enter Try.func41, Try.ntmps41
      go_wp2
      go_ret
      exact ⟨ret_i64 (by unfold sqI; rw [if_neg (by omega), if_pos (by omega)]), Below.refl _ _⟩
    · exact rsquash_mid d w (by omega) (by omega)

/-! The plain law. -/
def halves (f : Nat → Bool) : Nat → Nat → Bool
  | 0, lo => f lo
  | k + 1, lo => halves f k lo && halves f k (lo + 2 ^ k)
theorem halves_all (f : Nat → Bool) : ∀ (k lo : Nat), halves f k lo = true → ∀ i, lo ≤ i → i < lo + 2 ^ k → f i = true
  | 0, lo, h, i, h1, h2 => by
    simp only [halves] at h
    have : i = lo := by simp at h2; omega
    rw [this]; exact h
  | k + 1, lo, h, i, h1, h2 => by
    simp only [halves, Bool.and_eq_true] at h
    by_cases c : i < lo + 2 ^ k
    · exact halves_all f k lo h.1 i h1 c
    · exact halves_all f k _ h.2 i (by omega) (by rw [Nat.pow_succ] at h2; omega)
def stepOk (n : Nat) : Bool := decide (sqI ((n : Int) - 2047) ≤ sqI ((n : Int) - 2046))
theorem all_steps : halves stepOk 12 0 = true := by decide +kernel
theorem sq_step (d : Int) : sqI d ≤ sqI (d + 1) := by
  by_cases h : -2047 ≤ d ∧ d < 2047
  · have := of_decide_eq_true (halves_all _ _ _ all_steps (d + 2047).toNat (by omega) (by omega))
    simp only [Int.toNat_of_nonneg (show 0 ≤ d + 2047 by omega)] at this
    rw [show d + 2047 - 2047 = d by omega, show d + 2047 - 2046 = d + 1 by omega] at this
    exact this
  · by_cases h2 : d < -2047
    · have e : sqI d = 1 := by unfold sqI; rw [if_neg (by omega), if_pos h2]
      rw [e]
      by_cases h3 : d + 1 < -2047
      · unfold sqI; rw [if_neg (by omega), if_pos h3]; omega
      · have : d + 1 = -2047 := by omega
        rw [this]; decide +kernel
    · have e : sqI (d + 1) = 4095 := by unfold sqI; rw [if_pos (by omega)]
      rw [e]
      by_cases h3 : 2047 < d
      · unfold sqI; rw [if_pos h3]; omega
      · have : d = 2047 := by omega
        rw [this]; decide +kernel
theorem sq_add (d : Int) : ∀ n : Nat, sqI d ≤ sqI (d + n)
  | 0 => by simp
  | n + 1 => by
    have h1 := sq_add d n
    have h2 := sq_step (d + n)
    rw [show d + ((n + 1 : Nat) : Int) = d + n + 1 by omega]
    omega
theorem sq_mono (a b : Int) (h : a ≤ b) : sqI a ≤ sqI b := by
  have := sq_add a (b - a).toNat
  rwa [Int.toNat_of_nonneg (by omega), show a + (b - a) = b by omega] at this
theorem sq_lo (d : Int) (h : d ≤ -2047) : sqI d = 1 := by
  by_cases e : d = -2047
  · rw [e]; decide +kernel
  · unfold sqI; rw [if_neg (by omega), if_pos (by omega)]
theorem sq_hi (d : Int) (h : 2047 ≤ d) : sqI d = 4095 := by
  by_cases e : d = 2047
  · rw [e]; decide +kernel
  · unfold sqI; rw [if_pos (by omega)]
theorem sq_bd (d : Int) : 1 ≤ sqI d ∧ sqI d ≤ 4095 := by
  by_cases h : d ≤ -2047
  · rw [sq_lo _ h]; omega
  · by_cases k : 2047 ≤ d
    · rw [sq_hi _ k]; omega
    · have h1 := sq_mono (-2047) d (by omega)
      have h2 := sq_mono d 2047 (by omega)
      rw [sq_lo (-2047) (by omega)] at h1
      rw [sq_hi 2047 (by omega)] at h2
      exact ⟨h1, h2⟩
/-- What is a stretch: the least lean, of those that may be, that makes a bit as likely. -/
structure IsSt (p r : Int) : Prop where
  lo : -2047 ≤ r
  hi : r ≤ 2047
  under : ∀ d, -2047 ≤ d → d < r → sqI d < p
  over : r < 2047 → p ≤ sqI r
def stFrom (p : Int) : Nat → Int → Int
  | 0, _ => 2047
  | n + 1, d => if p ≤ sqI d then d else stFrom p n (d + 1)
def stI (p : Int) : Int := stFrom p 4094 (-2047)
theorem st_from (p : Int) : ∀ (n : Nat) (d : Int), -2047 ≤ d → d + n = 2047 → (∀ x, -2047 ≤ x → x < d → sqI x < p) → IsSt p (stFrom p n d)
  | 0, d, h0, h1, h2 => ⟨by simp [stFrom], by simp [stFrom], fun x hx hx' => h2 x hx (by simp [stFrom] at hx'; omega), by simp [stFrom]⟩
  | n + 1, d, h0, h1, h2 => by
    unfold stFrom
    by_cases hp : p ≤ sqI d
    · rw [if_pos hp]
      exact ⟨h0, by omega, h2, fun _ => hp⟩
    · rw [if_neg hp]
      refine st_from p n (d + 1) (by omega) (by omega) fun x hx hx' => ?_
      by_cases e : x = d
      · rw [e]; omega
      · exact h2 x hx (by omega)
theorem st_is (p : Int) : IsSt p (stI p) := st_from p 4094 (-2047) (by omega) (by omega) (fun x h1 h2 => by omega)
theorem IsSt.uniq {p r s : Int} (h : IsSt p r) (k : IsSt p s) : r = s := by
  rcases Int.lt_trichotomy r s with c | c | c
  · have := k.under r h.lo c
    have := h.over (by have := k.hi; omega)
    omega
  · exact c
  · have := h.under s k.lo c
    have := k.over (by have := h.hi; omega)
    omega
theorem ret_bool {a b : Bool} (h : a = b) : Ending.returned (.bool a) = .returned (.bool b) := by rw [h]
set_option maxHeartbeats 1000000 in
theorem at_any (i p : Int) (bx : Nat) (w : World) (h0 : 0 ≤ i) (h1 : i ≤ 4094) (hc : w.cell? ⟨bx, 0, none⟩ = some (.int .i64 p)) :
    Calls Try.prog 48 #[.int .i64 i, .pointer (some ⟨bx, 0, none⟩)] w fun e w' => e = .returned (.bool (decide (p ≤ sqI (i - 2047)))) ∧ Below w.heap.size w w' := by
  have hlt := block_lt_of_cell hc
  have hs : IntKind.i64.wrap (i - 2047) = i - 2047 := IntWalk.i64_in _ (by omega)
  go_enter Try.func48, Try.ntmps48
  go_wp2_with fail
  go_region_held3 (fun w' => w'.cell? ⟨bx, 0, none⟩ = some (.int .i64 p)) (first | assumption | go_keep)
    (first
      | (go_at_call 30; refine (squash_any _ _).mono ?_; rintro e w1 ⟨rfl, hb1⟩; have hc1 : w1.cell? ⟨bx, 0, none⟩ = some (.int .i64 p) := (hb1.cell hlt).trans hc))
  all_goals
    go_wp2
    go_ret
    exact ⟨rfl, ⟨hb1.os, hb1.tape, hb1.output, hb1.size, hb1.block⟩⟩
theorem at_b (i p : Int) (bx : Nat) (w : World) (b : Bool) (h0 : 0 ≤ i) (h1 : i ≤ 4094) (hb : decide (p ≤ sqI (i - 2047)) = b) (hc : w.cell? ⟨bx, 0, none⟩ = some (.int .i64 p)) :
    Calls Try.prog 48 #[.int .i64 i, .pointer (some ⟨bx, 0, none⟩)] w fun e w' => e = .returned (.bool b) ∧ Below w.heap.size w w' := by
  rw [← hb]; exact at_any i p bx w h0 h1 hc
theorem st_of (p i : Int) (h0 : 0 ≤ i) (h1 : i ≤ 4094) (h2 : i = 0 ∨ sqI (i - 1 - 2047) < p) (h3 : i = 4094 ∨ p ≤ sqI (i - 2047)) : i - 2047 = stI p := by
  refine IsSt.uniq ⟨by omega, by omega, fun d hd hd' => ?_, fun hd => ?_⟩ (st_is p)
  · have := sq_mono d (i - 1 - 2047) (by omega)
    rcases h2 with h2 | h2
    · omega
    · omega
  · rcases h3 with h3 | h3
    · omega
    · exact h3
def Srch (p : Int) (w0 : World) (u v : Value) (w : World) : Prop := ∃ i j : Int, u = .int .i64 i ∧ v = .int .i64 j ∧ 0 ≤ i ∧ i ≤ j ∧ j ≤ 4094 ∧ (i = 0 ∨ sqI (i - 1 - 2047) < p) ∧ (j = 4094 ∨ p ≤ sqI (j - 2047)) ∧ Below w0.heap.size w0 w
set_option maxHeartbeats 1000000 in
theorem search_any (p : Int) (bx : Nat) (w : World) (hc : w.cell? ⟨bx, 0, none⟩ = some (.int .i64 p)) :
    Calls Try.prog 47 #[.int .i64 4094, .func (.func 48) #[] #[.pointer (some ⟨bx, 0, none⟩)]] w fun e w' => e = .returned (.int .i64 (stI p + 2047)) ∧ Below w.heap.size w w' := by
  have hlt := block_lt_of_cell hc
  go_enter Try.func47, Try.ntmps47
  go_wp2_with fail
  go_loopw [5, 6] (fun u v wr => Srch p w u v wr) (fun u v _ => (intOf v - intOf u).toNat)
  case atStart => exact ⟨0, 4094, rfl, rfl, by omega, by omega, by omega, .inl rfl, .inl rfl, Below.refl _ _⟩
  case round =>
    obtain ⟨i, j, rfl, rfl, h0, h1, h2, h3, h4, hb⟩ := hrel
    have hcr : wr.cell? ⟨bx, 0, none⟩ = some (.int .i64 p) := (hb.cell hlt).trans hc
    have H3 := Lib.hid h3
    have H4 := Lib.hid h4
    clear h3 h4 hc
    by_cases hij : i < j
    · by_cases hp : p ≤ sqI ((i + j) / 2 - 2047)
      all_goals
        go_wp2_with (first | (go_at_call 48; refine (at_b _ p bx _ (decide (p ≤ sqI ((i + j) / 2 - 2047))) (by omega) (by omega) rfl (by assumption)).mono ?_; simp only [hp, decide_true, decide_false]; rintro e w1 ⟨rfl, hb1⟩))
        go_roundw
      case rel => exact ⟨i, (i + j) / 2, rfl, rfl, h0, by omega, by omega, H3.out, .inr hp, hb.trans (hb1.mono hb.size)⟩
      case measure => simp [intOf]; omega
      case rel => exact ⟨(i + j) / 2 + 1, j, rfl, rfl, by omega, by omega, by omega, .inr (by rw [show (i + j) / 2 + 1 - 1 = (i + j) / 2 by omega]; omega), H4.out, hb.trans (hb1.mono hb.size)⟩
      case measure => simp [intOf]; omega
    · go_wp2
      go_ret
      have hst := st_of p i h0 (by omega) H3.out (by rw [show i = j by omega]; exact H4.out)
      exact ⟨ret_i64 (by omega), hb⟩
set_option maxHeartbeats 400000 in
theorem stretch_any (p : Int) (w : World) :
    Calls Try.prog 31 #[.int .i64 p] w fun e w' => e = .returned (.int .i64 (stI p)) ∧ Below w.heap.size w w' := by
  have hc : (w.alloc (.cells #[.int .i64 p] 3)).cell? ⟨w.heap.size, 0, none⟩ = some (.int .i64 p) := by go_simp
  have l := (st_is p).lo
  have u := (st_is p).hi
  go_enter Try.func31, Try.ntmps31
  go_wp2_with (first | (go_at_call 47; refine (search_any p _ _ hc).mono ?_; rintro e w1 ⟨rfl, hb1⟩))
  go_ret
  refine ⟨ret_i64 (by omega), ?_⟩
  exact ((Below.refl _ _).alloc (Nat.le_refl _) _).trans (hb1.mono (by simp))
def RSt (p : Int) (w0 : World) (u : Value) (w : World) : Prop := ∃ d : Int, u = .int .i64 d ∧ -2047 ≤ d ∧ d ≤ 2047 ∧ (∀ x, -2047 ≤ x → x < d → sqI x < p) ∧ Below w0.heap.size w0 w
set_option maxHeartbeats 1000000 in
theorem rstretch_any (p : Int) (w : World) :
    Calls Try.prog 59 #[.int .i64 p] w fun e w' => e = .returned (.int .i64 (stI p)) ∧ Below w.heap.size w w' := by
  go_enter Try.func59, Try.ntmps59
  go_wp2_with fail
  go_loopw [3] (fun u wr => RSt p w u wr) (fun u _ => (2047 - intOf u).toNat)
  case atStart => exact ⟨-2047, rfl, by omega, by omega, fun x h1 h2 => by omega, Below.refl _ _⟩
  case round =>
    obtain ⟨d, rfl, h0, h1, h2, hb⟩ := hrel
    have H2 := Lib.hid h2
    clear h2
    by_cases hd : d < 2047
    · by_cases hp : p ≤ sqI d
      · go_wp2_with (first | (go_at_call 41; refine (rsquash_any _ _).mono ?_; rintro e w1 ⟨rfl, hb1⟩))
        go_ret
        exact ⟨ret_i64 (IsSt.uniq ⟨h0, h1, H2.out, fun _ => hp⟩ (st_is p)), hb.trans (hb1.mono hb.size)⟩
      · go_wp2_with (first | (go_at_call 41; refine (rsquash_any _ _).mono ?_; rintro e w1 ⟨rfl, hb1⟩))
        go_roundw
        case rel =>
          refine ⟨d + 1, rfl, by omega, by omega, fun x hx hx' => ?_, hb.trans (hb1.mono hb.size)⟩
          by_cases e : x = d
          · rw [e]; omega
          · exact H2.out x hx (by omega)
        case measure => simp [intOf]; omega
    · go_wp2
      go_ret
      exact ⟨ret_i64 (IsSt.uniq ⟨by omega, by omega, fun x hx hx' => H2.out x hx (by omega), fun h => by omega⟩ (st_is p)), hb⟩
end Go.Proofs.Ytnohfeaamfjimaa
