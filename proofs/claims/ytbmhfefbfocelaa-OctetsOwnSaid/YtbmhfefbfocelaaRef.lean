/- The reference of chapter 1 (Number, Add, AddText, Text): what it answers, in the same words as octets' own. For rows within the form's reach. -/
import Derived.Test.YtbmhfefbfocelaaFine
import Derived.Test.YtbmhfefbfocelaaFixed
import Derived.Laws.OwnMore
namespace Go.Proofs.Ytbmhfefbfocelaa
open Go.RowKit Go.WideShapes
set_option linter.unusedVariables false
/-- Is there a number of n bytes at a place? Which? -/
def there (bs : List Int) (a : Int) (n : Nat) : Bool := decide (0 ≤ a ∧ a + n ≤ bs.length)
def numAt (bs : List Int) (a : Int) (n : Nat) : Int := if there bs a n then numI bs a.toNat n else 0
theorem there_yes {bs : List Int} {a : Int} {n : Nat} (h : 0 ≤ a ∧ a + n ≤ bs.length) : there bs a n = true ∧ numAt bs a n = numI bs a.toNat n := by
  have : there bs a n = true := decide_eq_true h
  exact ⟨this, by unfold numAt; rw [this]; rfl⟩
theorem there_no {bs : List Int} {a : Int} {n : Nat} (h : ¬ (0 ≤ a ∧ a + n ≤ bs.length)) : there bs a n = false ∧ numAt bs a n = 0 := by
  have : there bs a n = false := decide_eq_false h
  exact ⟨this, by unfold numAt; rw [this]; rfl⟩
theorem numI_succ {bs : List Int} (k n : Nat) (h : k + n + 1 ≤ bs.length) : numI bs k (n + 1) = numI bs k n * 256 + bs.getD (k + n) 0 := by
  rw [numI_add bs k n 1 h, numI_1 _ _ h]; rfl
set_option maxHeartbeats 1000000 in
theorem number_no (A : Option Addr) (L c n : Nat) (a : Int) (w : World) (hm : L ≤ 140737488351232) (hn : n ≤ 8) (a0 : -9223372036854775808 ≤ a) (a1 : a ≤ 9223372036854775807) (h : ¬ (0 ≤ a ∧ a + n ≤ L)) :
    Calls Try.prog 27 #[.slice A L c, .int .i64 a, .int .i64 n] w (Same w (.tuple #[.int .u64 0, .bool false])) := by
  rcases (show a < 0 ∨ (0 ≤ a ∧ (L : Int) < a) ∨ (0 ≤ a ∧ a ≤ (L : Int) ∧ (L : Int) - a < n) from by omega) with h1 | ⟨h1, h2⟩ | ⟨h1, h2, h3⟩
  all_goals
    clear h
    go_enter Try.func27, Try.ntmps27
    go_wp2_with fail
    go_ret2
    exact ⟨rfl, rfl⟩
set_option maxHeartbeats 1000000 in
theorem number_yes (bs : List Int) (A : Option Addr) (L c : Nat) (a : Int) (w : World) (hL : L = bs.length) (ho : Oct bs) (hr : Rd w A (octs bs)) (h2 : L ≤ c) (hm : L ≤ 140737488351232) (a0 : 0 ≤ a) : ∀ (n : Nat), n ≤ 8 → a + n ≤ L →
    Calls Try.prog 27 #[.slice A L c, .int .i64 a, .int .i64 n] w (Same w (.tuple #[.int .u64 (numI bs a.toNat n), .bool true])) := by
  obtain ⟨k, rfl⟩ := Int.eq_ofNat_of_zero_le a0
  intro n
  induction n with
  | zero =>
    intro _ h
    have g1 : (k : Int) ≤ L := by omega
    have g0 : (((0 : Nat) : Int) == 0) = true := rfl
    clear hr hL ho
    go_enter Try.func27, Try.ntmps27
    go_wp2_with fail
    go_ret2
    exact ⟨rfl, rfl⟩
  | succ n ih =>
    intro hn h
    have IH := Lib.hid (ih (by omega) (by omega))
    clear ih
    have hs := numI_succ (bs := bs) k n (by omega)
    obtain ⟨b, off, rfl, _, hcell⟩ := hr (by rw [octs_length]; omega)
    have b0 := ho.getD (k + n)
    have d0 := hcell (k + n) _ (octs_at (by omega))
    have b1 := numI_bd ho k n (by omega)
    have c1 : 0 ≤ numI bs k n ∧ numI bs k n < 72057594037927936 := by
      refine ⟨b1.1, Int.lt_of_lt_of_le b1.2 ?_⟩
      have h7 : (256 : Nat) ^ n ≤ 256 ^ 7 := Nat.pow_le_pow_right (by omega) (by omega)
      have e : ((256 : Int) ^ n) = ((256 ^ n : Nat) : Int) := by rw [Int.natCast_pow]; rfl
      rw [e]
      have e7 : (256 : Nat) ^ 7 = 72057594037927936 := by decide
      omega
    rw [show off + (k + n) = off + k + n from by omega] at d0
    have d1 : w.cell? ⟨b, off + (k + n), none⟩ = some (.int .u8 (bs.getD (k + n) 0)) := by rw [← Nat.add_assoc]; exact d0
    clear b1 hcell ho hr d0
    have HL := Lib.hid hL
    clear hL
    simp only [Int.toNat_natCast] at IH ⊢
    generalize numI bs k n = N at *
    generalize bs.getD (k + n) 0 = C at *
    have HS := Lib.hid hs
    clear hs
    have e1 : ((n + 1 : Nat) : Int) = (n : Int) + 1 := by omega
    rw [e1]
    clear e1
    have g0 : (((n : Int) + 1) == 0) = false := by simp; omega
    have g1 : (k : Int) ≤ L := by omega
    have g2 : ((n : Int) + 1) ≤ (L : Int) - k := by omega
    have g3 : ((k : Int) + ((n : Int) + 1) - 1).toNat = k + n := by omega
    go_enter Try.func27, Try.ntmps27
    go_wp2_with fail
    refine IH.out.mono ?_
    rintro e w1 ⟨rfl, rfl⟩
    go_wp2_with fail
    go_ret2
    exact ⟨ret_two HS.out.symm rfl, rfl⟩
theorem number_any (bs : List Int) (A : Option Addr) (L c n : Nat) (N a : Int) (w : World) (hN : N = n) (hL : L = bs.length) (ho : Oct bs) (hr : Rd w A (octs bs)) (h2 : L ≤ c) (hm : L ≤ 140737488351232) (hn : n ≤ 8) (a0 : -9223372036854775808 ≤ a) (a1 : a ≤ 9223372036854775807) :
    Calls Try.prog 27 #[.slice A L c, .int .i64 a, .int .i64 N] w (Same w (.tuple #[.int .u64 (numAt bs a n), .bool (there bs a n)])) := by
  subst hN
  by_cases h : 0 ≤ a ∧ a + n ≤ bs.length
  · rw [(there_yes h).1, (there_yes h).2]
    exact number_yes bs A L c a w hL ho hr h2 hm h.1 n hn (by omega)
  · rw [(there_no h).1, (there_no h).2]
    exact number_no A L c n a w hm hn a0 a1 (by omega)
section
variable (bs : List Int) (A : Option Addr) (L c : Nat) (a : Int) (w : World) (hL : L = bs.length) (ho : Oct bs) (hr : Rd w A (octs bs)) (h2 : L ≤ c) (hm : c ≤ maxLen) (hb : L ≤ 140737488351232) (a0 : -9223372036854775808 ≤ a) (a1 : a ≤ 9223372036854775807)
include hL ho hr h2 hm hb a0 a1
theorem u8_num : Calls Try.prog 11 #[.slice A L c, .int .i64 a] w (Same w (.tuple #[.int .u8 (numAt bs a 1), .bool (there bs a 1)])) := by
  by_cases h : 0 ≤ a ∧ a + (1 : Nat) ≤ bs.length
  · rw [(there_yes h).1, (there_yes h).2]
    exact u8_at bs A L c a w hL ho hr h2 hm a.toNat (by omega) (by omega)
  · rw [(there_no h).1, (there_no h).2]
    exact u8_nx A L c a w hb a0 a1 (by omega)
theorem u16_num : Calls Try.prog 12 #[.slice A L c, .int .i64 a] w (Same w (.tuple #[.int .u16 (numAt bs a 2), .bool (there bs a 2)])) := by
  by_cases h : 0 ≤ a ∧ a + (2 : Nat) ≤ bs.length
  · rw [(there_yes h).1, (there_yes h).2]
    exact u16_at bs A L c a w hL ho hr h2 hm a.toNat (by omega) (by omega)
  · rw [(there_no h).1, (there_no h).2]
    exact u16_nx A L c a w hb a0 a1 (by omega)
theorem u32_num : Calls Try.prog 13 #[.slice A L c, .int .i64 a] w (Same w (.tuple #[.int .u32 (numAt bs a 4), .bool (there bs a 4)])) := by
  by_cases h : 0 ≤ a ∧ a + (4 : Nat) ≤ bs.length
  · rw [(there_yes h).1, (there_yes h).2]
    exact u32_at bs A L c a w hL ho hr h2 hm a.toNat (by omega) (by omega)
  · rw [(there_no h).1, (there_no h).2]
    exact u32_nx A L c a w hb a0 a1 (by omega)
theorem u64_num : Calls Try.prog 14 #[.slice A L c, .int .i64 a] w (Same w (.tuple #[.int .u64 (numAt bs a 8), .bool (there bs a 8)])) := by
  by_cases h : 0 ≤ a ∧ a + (8 : Nat) ≤ bs.length
  · rw [(there_yes h).1, (there_yes h).2]
    exact u64_at bs A L c a w hL ho hr h2 hm a.toNat (by omega) (by omega)
  · rw [(there_no h).1, (there_no h).2]
    exact u64_nx A L c a w hb a0 a1 (by omega)
end
theorem numAt_bd {bs : List Int} (ho : Oct bs) (a : Int) (n : Nat) : 0 ≤ numAt bs a n ∧ numAt bs a n < 256 ^ n := by
  by_cases h : 0 ≤ a ∧ a + n ≤ bs.length
  · rw [(there_yes h).2]
    exact numI_bd ho _ _ (by omega)
  · rw [(there_no h).2]
    exact ⟨Int.le_refl _, pow_pos' n⟩
/-- The text at a place. -/
def textLen (bs : List Int) (a : Int) : Nat := (numI bs a.toNat 2).toNat
def textThere (bs : List Int) (a : Int) : Bool := decide ((0 ≤ a ∧ a + 2 ≤ bs.length) ∧ a + 2 + textLen bs a ≤ bs.length)
def textAt (bs : List Int) (a : Int) : ByteArray := if textThere bs a then strOfNums ((bs.drop (a.toNat + 2)).take (textLen bs a)) else ⟨#[]⟩
def textEnd (bs : List Int) (a : Int) : Int := if textThere bs a then a + 2 + textLen bs a else 0
theorem text_any (bs : List Int) (A : Option Addr) (L c : Nat) (a : Int) (w : World) (hL : L = bs.length) (ho : Oct bs) (hr : Rd w A (octs bs)) (h2 : L ≤ c) (hm : c ≤ maxLen) (hb : L ≤ 140737488351232) (a0 : -9223372036854775808 ≤ a) (a1 : a ≤ 9223372036854775807) :
    Calls Try.prog 21 #[.slice A L c, .int .i64 a] w (Same w (.tuple #[.string (textAt bs a), .int .i64 (textEnd bs a), .bool (textThere bs a)])) := by
  by_cases h : 0 ≤ a ∧ a + 2 ≤ bs.length
  · obtain ⟨k, rfl⟩ := Int.eq_ofNat_of_zero_le h.1
    have hd := numI_bd ho k 2 (by omega)
    have hn : ((textLen bs k : Nat) : Int) = numI bs k 2 := by unfold textLen; simp only [Int.toNat_natCast]; omega
    by_cases ht : (k : Int) + 2 + textLen bs k ≤ bs.length
    · have e : textThere bs k = true := decide_eq_true ⟨h, ht⟩
      unfold textAt textEnd
      rw [e, if_pos rfl, if_pos rfl, Int.toNat_natCast]
      exact (text_yes bs A L c k (textLen bs k) w hL ho hr (by omega) hn (by omega) h2 hm).mono fun _ _ ⟨e, h⟩ => ⟨e, h⟩
    · have e : textThere bs k = false := decide_eq_false fun hh => ht hh.2
      unfold textAt textEnd
      rw [e, if_neg (by simp), if_neg (by simp)]
      exact (text_cut bs A L c k (textLen bs k) w hL ho hr (by omega) hn (by omega) h2 hm).mono fun _ _ ⟨e, h⟩ => ⟨e, h⟩
  · have e : textThere bs a = false := decide_eq_false fun hh => h hh.1
    unfold textAt textEnd
    rw [e, if_neg (by simp), if_neg (by simp)]
    exact (text_no A L c a w (by omega) a0 a1 (by omega)).mono fun _ _ ⟨e, h⟩ => ⟨e, h⟩
set_option maxHeartbeats 2000000 in
theorem refText_yes (bs : List Int) (A : Option Addr) (L c k n : Nat) (w : World) (hL : L = bs.length) (ho : Oct bs) (hr : Rd w A (octs bs)) (h1 : k + 2 ≤ L) (hn : (n : Int) = numI bs k 2) (h3 : k + 2 + n ≤ L) (h2 : L ≤ c) (hm : c ≤ maxLen) (hb : L ≤ 140737488351232) :
    Calls Try.prog 30 #[.slice A L c, .int .i64 k] w (Same w (.tuple #[.string (strOfNums ((bs.drop (k + 2)).take n)), .int .i64 (k + 2 + n), .bool true])) := by
  obtain ⟨b, off, rfl, _, _⟩ := hr (by rw [octs_length]; omega)
  have hlen : n = ((bs.drop (k + 2)).take n).length := by simp; omega
  have hrd : ¬ c = k + 2 → Rd w (some ⟨b, off + (k + 2), none⟩) (octs ((bs.drop (k + 2)).take n)) := fun _ => by
    have := (hr.drop (k + 2)).take n
    unfold octs at this ⊢
    rw [← List.map_drop, ← List.map_take] at this
    simpa [addr_add] using this
  have hre : c = k + 2 → Rd w (some ⟨b, off, none⟩) (octs ((bs.drop (k + 2)).take n)) := fun e => by
    have : n = 0 := by omega
    rw [this]
    exact Rd.nil _ _
  have HLEN := Lib.hid hlen
  have hbd := num2_bd ho k (by omega)
  have HC := Lib.hid (number_yes bs _ L c k w hL ho hr h2 hb (by omega) 2 (by omega) (by omega))
  rw [Int.toNat_natCast, ← hn] at HC
  rw [← hn] at hbd
  unfold maxLen at hm
  clear hL hr ho hn hlen
  have HRD := Lib.hid hrd
  have HRE := Lib.hid hre
  clear hrd hre
  by_cases hck : c = k + 2
  · have hn0 : n = 0 := by omega
    subst hck
    subst hn0
    have x1 := fun c' => str_run w (some ⟨b, off, none⟩) 0 c' [] rfl (Rd.nil _ _)
    go_enter Try.func30, Try.ntmps30
    go_wp2_with fail
    refine HC.out.mono ?_
    rintro e w1 ⟨rfl, rfl⟩
    go_wp2_with fail
    go_ret3
    exact ⟨rfl, rfl⟩
  · have x1 := str_run w _ n (c - (k + 2)) ((bs.drop (k + 2)).take n) HLEN.out (HRD.out hck)
    go_enter Try.func30, Try.ntmps30
    go_wp2_with fail
    refine HC.out.mono ?_
    rintro e w1 ⟨rfl, rfl⟩
    go_wp2_with fail
    go_ret3
    exact ⟨rfl, rfl⟩
set_option maxHeartbeats 1000000 in
theorem refText_no (bs : List Int) (A : Option Addr) (L c : Nat) (a : Int) (w : World) (hL : L = bs.length) (ho : Oct bs) (hr : Rd w A (octs bs)) (h2 : L ≤ c) (hb : L ≤ 140737488351232) (a0 : -9223372036854775808 ≤ a) (a1 : a ≤ 9223372036854775807) (h : ¬ (0 ≤ a ∧ a + 2 ≤ L)) :
    Calls Try.prog 30 #[.slice A L c, .int .i64 a] w (Same w (.tuple #[.string ⟨#[]⟩, .int .i64 0, .bool false])) := by
  have HC := Lib.hid (number_no A L c 2 a w hb (by omega) a0 a1 h)
  clear h hL hr ho
  go_enter Try.func30, Try.ntmps30
  go_wp2_with fail
  refine HC.out.mono ?_
  rintro e w1 ⟨rfl, rfl⟩
  go_wp2
  go_ret3
  exact ⟨rfl, rfl⟩
set_option maxHeartbeats 1000000 in
theorem refText_cut (bs : List Int) (A : Option Addr) (L c k n : Nat) (w : World) (hL : L = bs.length) (ho : Oct bs) (hr : Rd w A (octs bs)) (h1 : k + 2 ≤ L) (hn : (n : Int) = numI bs k 2) (h3 : L < k + 2 + n) (h2 : L ≤ c) (hb : L ≤ 140737488351232) :
    Calls Try.prog 30 #[.slice A L c, .int .i64 k] w (Same w (.tuple #[.string ⟨#[]⟩, .int .i64 0, .bool false])) := by
  have hbd := num2_bd ho k (by omega)
  have HC := Lib.hid (number_yes bs _ L c k w hL ho hr h2 hb (by omega) 2 (by omega) (by omega))
  rw [Int.toNat_natCast, ← hn] at HC
  rw [← hn] at hbd
  clear hL hr ho hn
  have h4 : (L : Int) < k + 2 + n := by omega
  go_enter Try.func30, Try.ntmps30
  go_wp2_with fail
  refine HC.out.mono ?_
  rintro e w1 ⟨rfl, rfl⟩
  go_wp2
  go_ret3
  exact ⟨rfl, rfl⟩
theorem refText_any (bs : List Int) (A : Option Addr) (L c : Nat) (a : Int) (w : World) (hL : L = bs.length) (ho : Oct bs) (hr : Rd w A (octs bs)) (h2 : L ≤ c) (hm : c ≤ maxLen) (hb : L ≤ 140737488351232) (a0 : -9223372036854775808 ≤ a) (a1 : a ≤ 9223372036854775807) :
    Calls Try.prog 30 #[.slice A L c, .int .i64 a] w (Same w (.tuple #[.string (textAt bs a), .int .i64 (textEnd bs a), .bool (textThere bs a)])) := by
  by_cases h : 0 ≤ a ∧ a + 2 ≤ bs.length
  · obtain ⟨k, rfl⟩ := Int.eq_ofNat_of_zero_le h.1
    have hd := numI_bd ho k 2 (by omega)
    have hn : ((textLen bs k : Nat) : Int) = numI bs k 2 := by unfold textLen; simp only [Int.toNat_natCast]; omega
    by_cases ht : (k : Int) + 2 + textLen bs k ≤ bs.length
    · have e : textThere bs k = true := decide_eq_true ⟨h, ht⟩
      unfold textAt textEnd
      rw [e, if_pos rfl, if_pos rfl, Int.toNat_natCast]
      exact refText_yes bs A L c k (textLen bs k) w hL ho hr (by omega) hn (by omega) h2 hm hb
    · have e : textThere bs k = false := decide_eq_false fun hh => ht hh.2
      unfold textAt textEnd
      rw [e, if_neg (by simp), if_neg (by simp)]
      exact refText_cut bs A L c k (textLen bs k) w hL ho hr (by omega) hn (by omega) h2 hb
  · have e : textThere bs a = false := decide_eq_false fun hh => h hh.1
    unfold textAt textEnd
    rw [e, if_neg (by simp), if_neg (by simp)]
    exact refText_no bs A L c a w hL ho hr h2 hb a0 a1 (by omega)
end Go.Proofs.Ytbmhfefbfocelaa
