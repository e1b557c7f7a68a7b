/- OctetsTwice's walk: any bytes within the form's reach, any place, any number: true; nothing that was there is written. -/
import Derived.Test.YtbmhfefbfocelaaAwake
import Derived.Test.YtbmhfefbfocelaaOrder
import Derived.Test.YtbmhfefbfocelaaTwicePlain
import Derived.Test.YtbmhfefbfocelaaOpen
namespace Go.Proofs.Ytbmhfefbfocelaa
open Go.RowKit Go.WideShapes
set_option linter.unusedVariables false
theorem tmod_bd (x : Int) (n : Nat) (hn : 0 < n) : -(n : Int) < x.tmod n ∧ x.tmod n < n := by
  rcases Int.le_total 0 x with h | h
  · rw [Int.tmod_eq_emod_of_nonneg h]
    have := Int.emod_nonneg x (b := (n : Int)) (by omega)
    have := Int.emod_lt_of_pos x (b := (n : Int)) (by omega)
    omega
  · have e : x.tmod n = -((-x) % n) := by rw [← Int.tmod_eq_emod_of_nonneg (by omega), Int.neg_tmod, Int.neg_neg]
    have := Int.emod_nonneg (-x) (b := (n : Int)) (by omega)
    have := Int.emod_lt_of_pos (-x) (b := (n : Int)) (by omega)
    omega
theorem pick_plain (x : Int) (n : Nat) (hn : 0 < n) (hm : n ≤ 140737488351232) : ∃ k : Nat, k < n ∧ (wrap64 (x.tmod n + n)).tmod n = (k : Int) := by
  have h := tmod_bd x n hn
  rw [IntWalk.wrap64_in _ (by constructor <;> omega)]
  rw [Int.tmod_eq_emod_of_nonneg (by omega)]
  have h1 := Int.emod_nonneg (x.tmod n + n) (b := (n : Int)) (by omega)
  have h2 := Int.emod_lt_of_pos (x.tmod n + n) (b := (n : Int)) (by omega)
  exact ⟨((x.tmod n + n) % n).toNat, by omega, by omega⟩
structure IsPick (n : Nat) (w0 : World) (e : Ending) (w : World) : Prop where
  ex : ∃ k : Nat, k < n ∧ e = .returned (.int .i64 k)
  same : w0 = w
theorem pick_any (x : Int) (n : Nat) (w : World) (hn : 0 < n) (hm : n ≤ 140737488351232) (h0 : -9223372036854775808 ≤ x) (h1 : x ≤ 9223372036854775807) :
    Calls Try.prog 17 #[.int .i64 x, .int .i64 n] w (IsPick n w) := by
  go_enter Try.func17, Try.ntmps17
  go_wp2
  go_ret
  obtain ⟨k, hk, e⟩ := pick_plain x n hn hm
  exact ⟨⟨k, hk, ret_i64 e⟩, rfl⟩
/-- The number at a place of n bytes is two. -/
theorem halves_8 {bs : List Int} (ho : Oct bs) (k : Nat) (h : k + 8 ≤ bs.length) : bits .or .u64 (numI bs k 4 * 4294967296) (numI bs (k + 4) 4) = numI bs k 8 := by
  have h1 := numI_bd ho k 4 (by omega)
  have h2 := numI_bd ho (k + 4) 4 (by omega)
  rw [or64 _ _ h1.1 (by omega) h2.1 (by omega), show (8 : Nat) = 4 + 4 from rfl, numI_add bs k 4 4 (by omega)]
  rfl
theorem halves_4 {bs : List Int} (ho : Oct bs) (k : Nat) (h : k + 4 ≤ bs.length) : bits .or .u32 (numI bs k 2 * 65536) (numI bs (k + 2) 2) = numI bs k 4 := by
  have h1 := numI_bd ho k 2 (by omega)
  have h2 := numI_bd ho (k + 2) 2 (by omega)
  rw [or32 _ _ h1.1 (by omega) h2.1 (by omega), show (4 : Nat) = 2 + 2 from rfl, numI_add bs k 2 2 (by omega)]
  rfl
theorem halves_2 {bs : List Int} (ho : Oct bs) (k : Nat) (h : k + 2 ≤ bs.length) : bits .or .u16 (numI bs k 1 * 256) (numI bs (k + 1) 1) = numI bs k 2 := by
  have h1 := numI_bd ho k 1 (by omega)
  have h2 := numI_bd ho (k + 1) 1 (by omega)
  rw [or16 _ _ h1.1 (by omega) h2.1 (by omega), show (2 : Nat) = 1 + 1 from rfl, numI_add bs k 1 1 (by omega)]
  rfl
structure Same (w0 : World) (v : Value) (e : Ending) (w : World) : Prop where
  ret : e = .returned v
  same : w0 = w
section
variable (bs : List Int) (A : Option Addr) (L c : Nat) (a : Int) (w : World) (hL : L = bs.length) (ho : Oct bs) (hr : Rd w A (octs bs)) (h2 : L ≤ c) (hm : c ≤ maxLen)
include hL ho hr h2 hm
theorem u8_at (k : Nat) (ha : a = k) (h1 : k + 1 ≤ L) : Calls Try.prog 11 #[.slice A L c, .int .i64 a] w (Same w (.tuple #[.int .u8 (numI bs k 1), .bool true])) := by
  subst ha; exact (u8_yes bs A L c k w hL ho hr h1 h2 hm).mono fun _ _ ⟨e, h⟩ => ⟨e, h⟩
theorem u16_at (k : Nat) (ha : a = k) (h1 : k + 2 ≤ L) : Calls Try.prog 12 #[.slice A L c, .int .i64 a] w (Same w (.tuple #[.int .u16 (numI bs k 2), .bool true])) := by
  subst ha; exact (u16_yes bs A L c k w hL ho hr h1 h2 hm).mono fun _ _ ⟨e, h⟩ => ⟨e, h⟩
theorem u32_at (k : Nat) (ha : a = k) (h1 : k + 4 ≤ L) : Calls Try.prog 13 #[.slice A L c, .int .i64 a] w (Same w (.tuple #[.int .u32 (numI bs k 4), .bool true])) := by
  subst ha; exact (u32_yes bs A L c k w hL ho hr h1 h2 hm).mono fun _ _ ⟨e, h⟩ => ⟨e, h⟩
theorem u64_at (k : Nat) (ha : a = k) (h1 : k + 8 ≤ L) : Calls Try.prog 14 #[.slice A L c, .int .i64 a] w (Same w (.tuple #[.int .u64 (numI bs k 8), .bool true])) := by
  subst ha; exact (u64_yes bs A L c k w hL ho hr h1 h2 hm).mono fun _ _ ⟨e, h⟩ => ⟨e, h⟩
end
theorem u16_nx (A : Option Addr) (L c : Nat) (a : Int) (w : World) (hm : L ≤ 140737488351232) (a0 : -9223372036854775808 ≤ a) (a1 : a ≤ 9223372036854775807) (h : a < 0 ∨ (L : Int) < a + 2) : Calls Try.prog 12 #[.slice A L c, .int .i64 a] w (Same w (.tuple #[.int .u16 0, .bool false])) :=
  (u16_no A L c a w (by omega) a0 a1 (by omega)).mono fun _ _ ⟨e, h⟩ => ⟨e, h⟩
theorem u32_nx (A : Option Addr) (L c : Nat) (a : Int) (w : World) (hm : L ≤ 140737488351232) (a0 : -9223372036854775808 ≤ a) (a1 : a ≤ 9223372036854775807) (h : a < 0 ∨ (L : Int) < a + 4) : Calls Try.prog 13 #[.slice A L c, .int .i64 a] w (Same w (.tuple #[.int .u32 0, .bool false])) :=
  (u32_no A L c a w (by omega) a0 a1 (by omega)).mono fun _ _ ⟨e, h⟩ => ⟨e, h⟩
theorem u64_nx (A : Option Addr) (L c : Nat) (a : Int) (w : World) (hm : L ≤ 140737488351232) (a0 : -9223372036854775808 ≤ a) (a1 : a ≤ 9223372036854775807) (h : a < 0 ∨ (L : Int) < a + 8) : Calls Try.prog 14 #[.slice A L c, .int .i64 a] w (Same w (.tuple #[.int .u64 0, .bool false])) :=
  (u64_no A L c a w (by omega) a0 a1 (by omega)).mono fun _ _ ⟨e, h⟩ => ⟨e, h⟩
theorem eq_four (bs : List Int) (v : Int) : bs ++ beI (v / 4294967296) 4 ++ beI (v % 4294967296) 4 = bs ++ beI v 8 := by rw [be_halves v, List.append_assoc]
theorem eq_two (bs : List Int) (v : Int) : bs ++ beI (v / 281474976710656) 2 ++ beI (v / 4294967296 % 65536) 2 ++ beI (v / 65536 % 65536) 2 ++ beI (v % 65536) 2 = bs ++ beI v 8 := by rw [be_quarters v]; simp only [List.append_assoc]
set_option maxRecDepth 100000 in
set_option maxHeartbeats 4000000 in
theorem twice_any (bs : List Int) (A : Option Addr) (L c : Nat) (a v : Int) (w : World) (hL : L = bs.length) (ho : Oct bs) (hr : Rd w A (octs bs)) (h2 : L ≤ c) (hm : c ≤ maxLen) (hb : L ≤ 140737488351232)
    (a0 : -9223372036854775808 ≤ a) (a1 : a ≤ 9223372036854775807) (v0 : 0 ≤ v) (v1 : v ≤ 18446744073709551615) :
    Calls Try.prog 5 #[.slice A L c, .int .i64 a, .int .u64 v] w fun e w' => e = .returned (.bool true) ∧ Below w.heap.size w w' := by
  have HL := Lib.hid hL
  have HM := Lib.hid hm
  have HR := Lib.hid hr
  have HO := Lib.hid ho
  clear hL hm hr ho
  obtain ⟨X, hX⟩ : ∃ X, strOfNums (bs ++ beI v 8) = X := ⟨_, rfl⟩
  have x4 : strOfNums (bs ++ beI (v / 4294967296) 4 ++ beI (v % 4294967296) 4) = X := by rw [eq_four]; exact hX
  have x2 : strOfNums (bs ++ beI (v / 281474976710656) 2 ++ beI (v / 4294967296 % 65536) 2 ++ beI (v / 65536 % 65536) 2 ++ beI (v % 65536) 2) = X := by rw [eq_two]; exact hX
  have E8 := Lib.hid hX
  have E4 := Lib.hid x4
  have E2 := Lib.hid x2
  clear hX x4 x2
  rcases Nat.eq_zero_or_pos L with h0 | h0
  · have z0 : decide ((0 : Int) < L) = false := by simp; omega
    have H0 : (L : Int) < 1 := by omega
    clear h0
    go_enter Try.func5, Try.ntmps5
    go_wp2_with fail
    refine (u64_nx A L c _ _ hb (by omega) (by omega) (by omega)).mono ?_
    rintro e w1 ⟨rfl, rfl⟩
    go_wp2_with fail
    refine (u32_nx A L c _ _ hb (by omega) (by omega) (by omega)).mono ?_
    rintro e w1 ⟨rfl, rfl⟩
    go_wp2_with fail
    refine (u16_nx A L c _ _ hb (by omega) (by omega) (by omega)).mono ?_
    rintro e w1 ⟨rfl, rfl⟩
    go_wp2_with fail
    refine (add64 bs v A L c _ HL.out HR.out h2 (by omega) v0 v1).mono ?_
    rintro e w1 ⟨⟨A1, c1, rfl, _, l1, o1⟩, hb1⟩
    have x1 := str_run w1 A1 (L + 8) c1 _ l1.symm (Rd.of_own o1)
    rw [E8.out] at x1
    clear o1 l1
    have K1 := Lib.hid hb1
    have R1 := Lib.hid (HR.out.below hb1 rfl)
    clear hb1
    go_wp2_with fail
    refine (add32 bs (v / 4294967296) A L c _ HL.out R1.out h2 (by omega) (by omega) (by omega)).mono ?_
    rintro e w2 ⟨⟨A2, c2, rfl, hc2, l2, o2⟩, hb2⟩
    have K2 := Lib.hid (ch0 K1.out hb2)
    have R2 := Lib.hid (R1.out.below hb2 rfl)
    have l2' : L + 4 = (bs ++ beI (v / 4294967296) 4).length := l2.symm
    have L2 := Lib.hid l2'
    have O2 := Lib.hid o2
    clear hb2 l2 l2' o2 x1
    go_wp2_with fail
    refine (add32 (bs ++ beI (v / 4294967296) 4) (v % 4294967296) A2 (L + 4) c2 _ L2.out (Rd.of_own O2.out) hc2 (by omega) (by omega) (by omega)).mono ?_
    rintro e w3 ⟨⟨A3, c3, rfl, hc3, l3, o3⟩, hb3⟩
    have x3 := str_run w3 A3 (L + 4 + 4) c3 _ l3.symm (Rd.of_own o3)
    rw [E4.out] at x3
    have K3 := Lib.hid (ch0 K2.out hb3)
    have R3 := Lib.hid (R2.out.below hb3 rfl)
    clear hb3 l3 o3
    go_wp2_with fail
    refine (add16 bs (v / 281474976710656) A L c _ HL.out R3.out h2 (by omega) (by omega) (by omega)).mono ?_
    rintro e w4 ⟨⟨A4, c4, rfl, hc4, l4, o4⟩, hb4⟩
    have K4 := Lib.hid (ch0 K3.out hb4)
    have L4 := Lib.hid l4
    have O4 := Lib.hid o4
    clear hb4 l4 o4 x3
    go_wp2_with fail
    refine (add16 _ (v / 4294967296 % 65536) A4 (L + 2) c4 _ L4.out.symm (Rd.of_own O4.out) hc4 (by omega) (by omega) (by omega)).mono ?_
    rintro e w5 ⟨⟨A5, c5, rfl, hc5, l5, o5⟩, hb5⟩
    have K5 := Lib.hid (ch0 K4.out hb5)
    have L5 := Lib.hid l5
    have O5 := Lib.hid o5
    clear hb5 l5 o5
    go_wp2_with fail
    refine (add16 _ (v / 65536 % 65536) A5 (L + 2 + 2) c5 _ L5.out.symm (Rd.of_own O5.out) hc5 (by omega) (by omega) (by omega)).mono ?_
    rintro e w6 ⟨⟨A6, c6, rfl, hc6, l6, o6⟩, hb6⟩
    have K6 := Lib.hid (ch0 K5.out hb6)
    have L6 := Lib.hid l6
    have O6 := Lib.hid o6
    clear hb6 l6 o6
    go_wp2_with fail
    refine (add16 _ (v % 65536) A6 (L + 2 + 2 + 2) c6 _ L6.out.symm (Rd.of_own O6.out) hc6 (by omega) (by omega) (by omega)).mono ?_
    rintro e w7 ⟨⟨A7, c7, rfl, hc7, l7, o7⟩, hb7⟩
    have x7 := str_run w7 A7 (L + 2 + 2 + 2 + 2) c7 _ l7.symm (Rd.of_own o7)
    rw [E2.out] at x7
    have K7 := Lib.hid (ch0 K6.out hb7)
    clear hb7 l7 o7
    go_wp2_with (go_at_call 10; refine (awake_any _).mono ?_; rintro e w8 ⟨rfl, hb8⟩)
    go_ret
    exact ⟨rfl, ch0 K7.out hb8⟩
  · have z0 : decide ((0 : Int) < L) = true := by simp; omega
    go_enter Try.func5, Try.ntmps5
    go_wp2_with fail
    refine (pick_any a L _ h0 hb a0 a1).mono ?_
    rintro e w1 ⟨⟨k, hk, rfl⟩, rfl⟩
    rcases (show k + 8 ≤ L ∨ (k + 4 ≤ L ∧ L < k + 8) ∨ (k + 2 ≤ L ∧ L < k + 4) ∨ (k + 1 ≤ L ∧ L < k + 2) from by omega) with g8 | ⟨g8, g9⟩ | ⟨g8, g9⟩ | ⟨g8, g9⟩
    · have f8 := halves_8 HO.out k (by have := HL.out; omega)
      have b8 := numI_bd HO.out (k + 4) 4 (by have := HL.out; omega)
      have c8 : 0 ≤ numI bs (k + 4) 4 ∧ numI bs (k + 4) 4 ≤ 4294967295 := ⟨b8.1, by have := b8.2; omega⟩
      clear b8
      have b7 := numI_bd HO.out (k + 2) 2 (by have := HL.out; omega)
      have c7 : 0 ≤ numI bs (k + 2) 2 ∧ numI bs (k + 2) 2 ≤ 65535 := ⟨b7.1, by have := b7.2; omega⟩
      clear b7
      have b6 := numI_bd HO.out (k + 1) 1 (by have := HL.out; omega)
      have c6 : 0 ≤ numI bs (k + 1) 1 ∧ numI bs (k + 1) 1 ≤ 255 := ⟨b6.1, by have := b6.2; omega⟩
      clear b6
      have f4 := halves_4 HO.out k (by have := HL.out; omega)
      have b1 := numI_bd HO.out k 4 (by have := HL.out; omega)
      have c1 : 0 ≤ numI bs k 4 ∧ numI bs k 4 ≤ 4294967295 := ⟨b1.1, by have := b1.2; omega⟩
      clear b1
      have f2 := halves_2 HO.out k (by have := HL.out; omega)
      have b2 := numI_bd HO.out k 2 (by have := HL.out; omega)
      have c2 : 0 ≤ numI bs k 2 ∧ numI bs k 2 ≤ 65535 := ⟨b2.1, by have := b2.2; omega⟩
      have b3 := numI_bd HO.out k 1 (by have := HL.out; omega)
      have c3 : 0 ≤ numI bs k 1 ∧ numI bs k 1 ≤ 255 := ⟨b3.1, by have := b3.2; omega⟩
      clear b2 b3
      go_wp2_with fail
      refine (u64_at bs A L c _ _ HL.out HO.out HR.out h2 HM.out k rfl (by omega)).mono ?_
      rintro e w1 ⟨rfl, rfl⟩
      go_wp2_with fail
      refine (u32_at bs A L c _ _ HL.out HO.out HR.out h2 HM.out k rfl (by omega)).mono ?_
      rintro e w1 ⟨rfl, rfl⟩
      go_wp2_with fail
      refine (u32_at bs A L c _ _ HL.out HO.out HR.out h2 HM.out (k + 4) (by omega) (by omega)).mono ?_
      rintro e w1 ⟨rfl, rfl⟩
      go_wp2_with fail
      refine (u32_at bs A L c _ _ HL.out HO.out HR.out h2 HM.out k rfl (by omega)).mono ?_
      rintro e w1 ⟨rfl, rfl⟩
      go_wp2_with fail
      refine (u16_at bs A L c _ _ HL.out HO.out HR.out h2 HM.out k rfl (by omega)).mono ?_
      rintro e w1 ⟨rfl, rfl⟩
      go_wp2_with fail
      refine (u16_at bs A L c _ _ HL.out HO.out HR.out h2 HM.out (k + 2) (by omega) (by omega)).mono ?_
      rintro e w1 ⟨rfl, rfl⟩
      go_wp2_with fail
      refine (u16_at bs A L c _ _ HL.out HO.out HR.out h2 HM.out k rfl (by omega)).mono ?_
      rintro e w1 ⟨rfl, rfl⟩
      go_wp2_with fail
      refine (u8_at bs A L c _ _ HL.out HO.out HR.out h2 HM.out k rfl (by omega)).mono ?_
      rintro e w1 ⟨rfl, rfl⟩
      go_wp2_with fail
      refine (u8_at bs A L c _ _ HL.out HO.out HR.out h2 HM.out (k + 1) (by omega) (by omega)).mono ?_
      rintro e w1 ⟨rfl, rfl⟩
      go_wp2_with fail
      refine (add64 bs v A L c _ HL.out HR.out h2 (by omega) v0 v1).mono ?_
      rintro e w1 ⟨⟨A1, c1, rfl, _, l1, o1⟩, hb1⟩
      have x1 := str_run w1 A1 (L + 8) c1 _ l1.symm (Rd.of_own o1)
      rw [E8.out] at x1
      clear o1 l1
      have K1 := Lib.hid hb1
      have R1 := Lib.hid (HR.out.below hb1 rfl)
      clear hb1
      go_wp2_with fail
      refine (add32 bs (v / 4294967296) A L c _ HL.out R1.out h2 (by omega) (by omega) (by omega)).mono ?_
      rintro e w2 ⟨⟨A2, c2, rfl, hc2, l2, o2⟩, hb2⟩
      have K2 := Lib.hid (ch0 K1.out hb2)
      have R2 := Lib.hid (R1.out.below hb2 rfl)
      have l2' : L + 4 = (bs ++ beI (v / 4294967296) 4).length := l2.symm
      have L2 := Lib.hid l2'
      have O2 := Lib.hid o2
      clear hb2 l2 l2' o2 x1
      go_wp2_with fail
      refine (add32 (bs ++ beI (v / 4294967296) 4) (v % 4294967296) A2 (L + 4) c2 _ L2.out (Rd.of_own O2.out) hc2 (by omega) (by omega) (by omega)).mono ?_
      rintro e w3 ⟨⟨A3, c3, rfl, hc3, l3, o3⟩, hb3⟩
      have x3 := str_run w3 A3 (L + 4 + 4) c3 _ l3.symm (Rd.of_own o3)
      rw [E4.out] at x3
      have K3 := Lib.hid (ch0 K2.out hb3)
      have R3 := Lib.hid (R2.out.below hb3 rfl)
      clear hb3 l3 o3
      go_wp2_with fail
      refine (add16 bs (v / 281474976710656) A L c _ HL.out R3.out h2 (by omega) (by omega) (by omega)).mono ?_
      rintro e w4 ⟨⟨A4, c4, rfl, hc4, l4, o4⟩, hb4⟩
      have K4 := Lib.hid (ch0 K3.out hb4)
      have L4 := Lib.hid l4
      have O4 := Lib.hid o4
      clear hb4 l4 o4 x3
      go_wp2_with fail
      refine (add16 _ (v / 4294967296 % 65536) A4 (L + 2) c4 _ L4.out.symm (Rd.of_own O4.out) hc4 (by omega) (by omega) (by omega)).mono ?_
      rintro e w5 ⟨⟨A5, c5, rfl, hc5, l5, o5⟩, hb5⟩
      have K5 := Lib.hid (ch0 K4.out hb5)
      have L5 := Lib.hid l5
      have O5 := Lib.hid o5
      clear hb5 l5 o5
      go_wp2_with fail
      refine (add16 _ (v / 65536 % 65536) A5 (L + 2 + 2) c5 _ L5.out.symm (Rd.of_own O5.out) hc5 (by omega) (by omega) (by omega)).mono ?_
      rintro e w6 ⟨⟨A6, c6, rfl, hc6, l6, o6⟩, hb6⟩
      have K6 := Lib.hid (ch0 K5.out hb6)
      have L6 := Lib.hid l6
      have O6 := Lib.hid o6
      clear hb6 l6 o6
      go_wp2_with fail
      refine (add16 _ (v % 65536) A6 (L + 2 + 2 + 2) c6 _ L6.out.symm (Rd.of_own O6.out) hc6 (by omega) (by omega) (by omega)).mono ?_
      rintro e w7 ⟨⟨A7, c7, rfl, hc7, l7, o7⟩, hb7⟩
      have x7 := str_run w7 A7 (L + 2 + 2 + 2 + 2) c7 _ l7.symm (Rd.of_own o7)
      rw [E2.out] at x7
      have K7 := Lib.hid (ch0 K6.out hb7)
      clear hb7 l7 o7
      go_wp2_with (go_at_call 10; refine (awake_any _).mono ?_; rintro e w8 ⟨rfl, hb8⟩)
      go_ret
      exact ⟨rfl, ch0 K7.out hb8⟩
    · have b7 := numI_bd HO.out (k + 2) 2 (by have := HL.out; omega)
      have c7 : 0 ≤ numI bs (k + 2) 2 ∧ numI bs (k + 2) 2 ≤ 65535 := ⟨b7.1, by have := b7.2; omega⟩
      clear b7
      have b6 := numI_bd HO.out (k + 1) 1 (by have := HL.out; omega)
      have c6 : 0 ≤ numI bs (k + 1) 1 ∧ numI bs (k + 1) 1 ≤ 255 := ⟨b6.1, by have := b6.2; omega⟩
      clear b6
      have f4 := halves_4 HO.out k (by have := HL.out; omega)
      have b1 := numI_bd HO.out k 4 (by have := HL.out; omega)
      have c1 : 0 ≤ numI bs k 4 ∧ numI bs k 4 ≤ 4294967295 := ⟨b1.1, by have := b1.2; omega⟩
      clear b1
      have f2 := halves_2 HO.out k (by have := HL.out; omega)
      have b2 := numI_bd HO.out k 2 (by have := HL.out; omega)
      have c2 : 0 ≤ numI bs k 2 ∧ numI bs k 2 ≤ 65535 := ⟨b2.1, by have := b2.2; omega⟩
      have b3 := numI_bd HO.out k 1 (by have := HL.out; omega)
      have c3 : 0 ≤ numI bs k 1 ∧ numI bs k 1 ≤ 255 := ⟨b3.1, by have := b3.2; omega⟩
      clear b2 b3
      go_wp2_with fail
      refine (u64_nx A L c _ _ hb (by omega) (by omega) (by omega)).mono ?_
      rintro e w1 ⟨rfl, rfl⟩
      go_wp2_with fail
      refine (u32_at bs A L c _ _ HL.out HO.out HR.out h2 HM.out k rfl (by omega)).mono ?_
      rintro e w1 ⟨rfl, rfl⟩
      go_wp2_with fail
      refine (u16_at bs A L c _ _ HL.out HO.out HR.out h2 HM.out k rfl (by omega)).mono ?_
      rintro e w1 ⟨rfl, rfl⟩
      go_wp2_with fail
      refine (u16_at bs A L c _ _ HL.out HO.out HR.out h2 HM.out (k + 2) (by omega) (by omega)).mono ?_
      rintro e w1 ⟨rfl, rfl⟩
      go_wp2_with fail
      refine (u16_at bs A L c _ _ HL.out HO.out HR.out h2 HM.out k rfl (by omega)).mono ?_
      rintro e w1 ⟨rfl, rfl⟩
      go_wp2_with fail
      refine (u8_at bs A L c _ _ HL.out HO.out HR.out h2 HM.out k rfl (by omega)).mono ?_
      rintro e w1 ⟨rfl, rfl⟩
      go_wp2_with fail
      refine (u8_at bs A L c _ _ HL.out HO.out HR.out h2 HM.out (k + 1) (by omega) (by omega)).mono ?_
      rintro e w1 ⟨rfl, rfl⟩
      go_wp2_with fail
      refine (add64 bs v A L c _ HL.out HR.out h2 (by omega) v0 v1).mono ?_
      rintro e w1 ⟨⟨A1, c1, rfl, _, l1, o1⟩, hb1⟩
      have x1 := str_run w1 A1 (L + 8) c1 _ l1.symm (Rd.of_own o1)
      rw [E8.out] at x1
      clear o1 l1
      have K1 := Lib.hid hb1
      have R1 := Lib.hid (HR.out.below hb1 rfl)
      clear hb1
      go_wp2_with fail
      refine (add32 bs (v / 4294967296) A L c _ HL.out R1.out h2 (by omega) (by omega) (by omega)).mono ?_
      rintro e w2 ⟨⟨A2, c2, rfl, hc2, l2, o2⟩, hb2⟩
      have K2 := Lib.hid (ch0 K1.out hb2)
      have R2 := Lib.hid (R1.out.below hb2 rfl)
      have l2' : L + 4 = (bs ++ beI (v / 4294967296) 4).length := l2.symm
      have L2 := Lib.hid l2'
      have O2 := Lib.hid o2
      clear hb2 l2 l2' o2 x1
      go_wp2_with fail
      refine (add32 (bs ++ beI (v / 4294967296) 4) (v % 4294967296) A2 (L + 4) c2 _ L2.out (Rd.of_own O2.out) hc2 (by omega) (by omega) (by omega)).mono ?_
      rintro e w3 ⟨⟨A3, c3, rfl, hc3, l3, o3⟩, hb3⟩
      have x3 := str_run w3 A3 (L + 4 + 4) c3 _ l3.symm (Rd.of_own o3)
      rw [E4.out] at x3
      have K3 := Lib.hid (ch0 K2.out hb3)
      have R3 := Lib.hid (R2.out.below hb3 rfl)
      clear hb3 l3 o3
      go_wp2_with fail
      refine (add16 bs (v / 281474976710656) A L c _ HL.out R3.out h2 (by omega) (by omega) (by omega)).mono ?_
      rintro e w4 ⟨⟨A4, c4, rfl, hc4, l4, o4⟩, hb4⟩
      have K4 := Lib.hid (ch0 K3.out hb4)
      have L4 := Lib.hid l4
      have O4 := Lib.hid o4
      clear hb4 l4 o4 x3
      go_wp2_with fail
      refine (add16 _ (v / 4294967296 % 65536) A4 (L + 2) c4 _ L4.out.symm (Rd.of_own O4.out) hc4 (by omega) (by omega) (by omega)).mono ?_
      rintro e w5 ⟨⟨A5, c5, rfl, hc5, l5, o5⟩, hb5⟩
      have K5 := Lib.hid (ch0 K4.out hb5)
      have L5 := Lib.hid l5
      have O5 := Lib.hid o5
      clear hb5 l5 o5
      go_wp2_with fail
      refine (add16 _ (v / 65536 % 65536) A5 (L + 2 + 2) c5 _ L5.out.symm (Rd.of_own O5.out) hc5 (by omega) (by omega) (by omega)).mono ?_
      rintro e w6 ⟨⟨A6, c6, rfl, hc6, l6, o6⟩, hb6⟩
      have K6 := Lib.hid (ch0 K5.out hb6)
      have L6 := Lib.hid l6
      have O6 := Lib.hid o6
      clear hb6 l6 o6
      go_wp2_with fail
      refine (add16 _ (v % 65536) A6 (L + 2 + 2 + 2) c6 _ L6.out.symm (Rd.of_own O6.out) hc6 (by omega) (by omega) (by omega)).mono ?_
      rintro e w7 ⟨⟨A7, c7, rfl, hc7, l7, o7⟩, hb7⟩
      have x7 := str_run w7 A7 (L + 2 + 2 + 2 + 2) c7 _ l7.symm (Rd.of_own o7)
      rw [E2.out] at x7
      have K7 := Lib.hid (ch0 K6.out hb7)
      clear hb7 l7 o7
      go_wp2_with (go_at_call 10; refine (awake_any _).mono ?_; rintro e w8 ⟨rfl, hb8⟩)
      go_ret
      exact ⟨rfl, ch0 K7.out hb8⟩
    · have b6 := numI_bd HO.out (k + 1) 1 (by have := HL.out; omega)
      have c6 : 0 ≤ numI bs (k + 1) 1 ∧ numI bs (k + 1) 1 ≤ 255 := ⟨b6.1, by have := b6.2; omega⟩
      clear b6
      have f2 := halves_2 HO.out k (by have := HL.out; omega)
      have b2 := numI_bd HO.out k 2 (by have := HL.out; omega)
      have c2 : 0 ≤ numI bs k 2 ∧ numI bs k 2 ≤ 65535 := ⟨b2.1, by have := b2.2; omega⟩
      have b3 := numI_bd HO.out k 1 (by have := HL.out; omega)
      have c3 : 0 ≤ numI bs k 1 ∧ numI bs k 1 ≤ 255 := ⟨b3.1, by have := b3.2; omega⟩
      clear b2 b3
      go_wp2_with fail
      refine (u64_nx A L c _ _ hb (by omega) (by omega) (by omega)).mono ?_
      rintro e w1 ⟨rfl, rfl⟩
      go_wp2_with fail
      refine (u32_nx A L c _ _ hb (by omega) (by omega) (by omega)).mono ?_
      rintro e w1 ⟨rfl, rfl⟩
      go_wp2_with fail
      refine (u16_at bs A L c _ _ HL.out HO.out HR.out h2 HM.out k rfl (by omega)).mono ?_
      rintro e w1 ⟨rfl, rfl⟩
      go_wp2_with fail
      refine (u8_at bs A L c _ _ HL.out HO.out HR.out h2 HM.out k rfl (by omega)).mono ?_
      rintro e w1 ⟨rfl, rfl⟩
      go_wp2_with fail
      refine (u8_at bs A L c _ _ HL.out HO.out HR.out h2 HM.out (k + 1) (by omega) (by omega)).mono ?_
      rintro e w1 ⟨rfl, rfl⟩
      go_wp2_with fail
      refine (add64 bs v A L c _ HL.out HR.out h2 (by omega) v0 v1).mono ?_
      rintro e w1 ⟨⟨A1, c1, rfl, _, l1, o1⟩, hb1⟩
      have x1 := str_run w1 A1 (L + 8) c1 _ l1.symm (Rd.of_own o1)
      rw [E8.out] at x1
      clear o1 l1
      have K1 := Lib.hid hb1
      have R1 := Lib.hid (HR.out.below hb1 rfl)
      clear hb1
      go_wp2_with fail
      refine (add32 bs (v / 4294967296) A L c _ HL.out R1.out h2 (by omega) (by omega) (by omega)).mono ?_
      rintro e w2 ⟨⟨A2, c2, rfl, hc2, l2, o2⟩, hb2⟩
      have K2 := Lib.hid (ch0 K1.out hb2)
      have R2 := Lib.hid (R1.out.below hb2 rfl)
      have l2' : L + 4 = (bs ++ beI (v / 4294967296) 4).length := l2.symm
      have L2 := Lib.hid l2'
      have O2 := Lib.hid o2
      clear hb2 l2 l2' o2 x1
      go_wp2_with fail
      refine (add32 (bs ++ beI (v / 4294967296) 4) (v % 4294967296) A2 (L + 4) c2 _ L2.out (Rd.of_own O2.out) hc2 (by omega) (by omega) (by omega)).mono ?_
      rintro e w3 ⟨⟨A3, c3, rfl, hc3, l3, o3⟩, hb3⟩
      have x3 := str_run w3 A3 (L + 4 + 4) c3 _ l3.symm (Rd.of_own o3)
      rw [E4.out] at x3
      have K3 := Lib.hid (ch0 K2.out hb3)
      have R3 := Lib.hid (R2.out.below hb3 rfl)
      clear hb3 l3 o3
      go_wp2_with fail
      refine (add16 bs (v / 281474976710656) A L c _ HL.out R3.out h2 (by omega) (by omega) (by omega)).mono ?_
      rintro e w4 ⟨⟨A4, c4, rfl, hc4, l4, o4⟩, hb4⟩
      have K4 := Lib.hid (ch0 K3.out hb4)
      have L4 := Lib.hid l4
      have O4 := Lib.hid o4
      clear hb4 l4 o4 x3
      go_wp2_with fail
      refine (add16 _ (v / 4294967296 % 65536) A4 (L + 2) c4 _ L4.out.symm (Rd.of_own O4.out) hc4 (by omega) (by omega) (by omega)).mono ?_
      rintro e w5 ⟨⟨A5, c5, rfl, hc5, l5, o5⟩, hb5⟩
      have K5 := Lib.hid (ch0 K4.out hb5)
      have L5 := Lib.hid l5
      have O5 := Lib.hid o5
      clear hb5 l5 o5
      go_wp2_with fail
      refine (add16 _ (v / 65536 % 65536) A5 (L + 2 + 2) c5 _ L5.out.symm (Rd.of_own O5.out) hc5 (by omega) (by omega) (by omega)).mono ?_
      rintro e w6 ⟨⟨A6, c6, rfl, hc6, l6, o6⟩, hb6⟩
      have K6 := Lib.hid (ch0 K5.out hb6)
      have L6 := Lib.hid l6
      have O6 := Lib.hid o6
      clear hb6 l6 o6
      go_wp2_with fail
      refine (add16 _ (v % 65536) A6 (L + 2 + 2 + 2) c6 _ L6.out.symm (Rd.of_own O6.out) hc6 (by omega) (by omega) (by omega)).mono ?_
      rintro e w7 ⟨⟨A7, c7, rfl, hc7, l7, o7⟩, hb7⟩
      have x7 := str_run w7 A7 (L + 2 + 2 + 2 + 2) c7 _ l7.symm (Rd.of_own o7)
      rw [E2.out] at x7
      have K7 := Lib.hid (ch0 K6.out hb7)
      clear hb7 l7 o7
      go_wp2_with (go_at_call 10; refine (awake_any _).mono ?_; rintro e w8 ⟨rfl, hb8⟩)
      go_ret
      exact ⟨rfl, ch0 K7.out hb8⟩
    · go_wp2_with fail
      refine (u64_nx A L c _ _ hb (by omega) (by omega) (by omega)).mono ?_
      rintro e w1 ⟨rfl, rfl⟩
      go_wp2_with fail
      refine (u32_nx A L c _ _ hb (by omega) (by omega) (by omega)).mono ?_
      rintro e w1 ⟨rfl, rfl⟩
      go_wp2_with fail
      refine (u16_nx A L c _ _ hb (by omega) (by omega) (by omega)).mono ?_
      rintro e w1 ⟨rfl, rfl⟩
      go_wp2_with fail
      refine (add64 bs v A L c _ HL.out HR.out h2 (by omega) v0 v1).mono ?_
      rintro e w1 ⟨⟨A1, c1, rfl, _, l1, o1⟩, hb1⟩
      have x1 := str_run w1 A1 (L + 8) c1 _ l1.symm (Rd.of_own o1)
      rw [E8.out] at x1
      clear o1 l1
      have K1 := Lib.hid hb1
      have R1 := Lib.hid (HR.out.below hb1 rfl)
      clear hb1
      go_wp2_with fail
      refine (add32 bs (v / 4294967296) A L c _ HL.out R1.out h2 (by omega) (by omega) (by omega)).mono ?_
      rintro e w2 ⟨⟨A2, c2, rfl, hc2, l2, o2⟩, hb2⟩
      have K2 := Lib.hid (ch0 K1.out hb2)
      have R2 := Lib.hid (R1.out.below hb2 rfl)
      have l2' : L + 4 = (bs ++ beI (v / 4294967296) 4).length := l2.symm
      have L2 := Lib.hid l2'
      have O2 := Lib.hid o2
      clear hb2 l2 l2' o2 x1
      go_wp2_with fail
      refine (add32 (bs ++ beI (v / 4294967296) 4) (v % 4294967296) A2 (L + 4) c2 _ L2.out (Rd.of_own O2.out) hc2 (by omega) (by omega) (by omega)).mono ?_
      rintro e w3 ⟨⟨A3, c3, rfl, hc3, l3, o3⟩, hb3⟩
      have x3 := str_run w3 A3 (L + 4 + 4) c3 _ l3.symm (Rd.of_own o3)
      rw [E4.out] at x3
      have K3 := Lib.hid (ch0 K2.out hb3)
      have R3 := Lib.hid (R2.out.below hb3 rfl)
      clear hb3 l3 o3
      go_wp2_with fail
      refine (add16 bs (v / 281474976710656) A L c _ HL.out R3.out h2 (by omega) (by omega) (by omega)).mono ?_
      rintro e w4 ⟨⟨A4, c4, rfl, hc4, l4, o4⟩, hb4⟩
      have K4 := Lib.hid (ch0 K3.out hb4)
      have L4 := Lib.hid l4
      have O4 := Lib.hid o4
      clear hb4 l4 o4 x3
      go_wp2_with fail
      refine (add16 _ (v / 4294967296 % 65536) A4 (L + 2) c4 _ L4.out.symm (Rd.of_own O4.out) hc4 (by omega) (by omega) (by omega)).mono ?_
      rintro e w5 ⟨⟨A5, c5, rfl, hc5, l5, o5⟩, hb5⟩
      have K5 := Lib.hid (ch0 K4.out hb5)
      have L5 := Lib.hid l5
      have O5 := Lib.hid o5
      clear hb5 l5 o5
      go_wp2_with fail
      refine (add16 _ (v / 65536 % 65536) A5 (L + 2 + 2) c5 _ L5.out.symm (Rd.of_own O5.out) hc5 (by omega) (by omega) (by omega)).mono ?_
      rintro e w6 ⟨⟨A6, c6, rfl, hc6, l6, o6⟩, hb6⟩
      have K6 := Lib.hid (ch0 K5.out hb6)
      have L6 := Lib.hid l6
      have O6 := Lib.hid o6
      clear hb6 l6 o6
      go_wp2_with fail
      refine (add16 _ (v % 65536) A6 (L + 2 + 2 + 2) c6 _ L6.out.symm (Rd.of_own O6.out) hc6 (by omega) (by omega) (by omega)).mono ?_
      rintro e w7 ⟨⟨A7, c7, rfl, hc7, l7, o7⟩, hb7⟩
      have x7 := str_run w7 A7 (L + 2 + 2 + 2 + 2) c7 _ l7.symm (Rd.of_own o7)
      rw [E2.out] at x7
      have K7 := Lib.hid (ch0 K6.out hb7)
      clear hb7 l7 o7
      go_wp2_with (go_at_call 10; refine (awake_any _).mono ?_; rintro e w8 ⟨rfl, hb8⟩)
      go_ret
      exact ⟨rfl, ch0 K7.out hb8⟩
theorem twice_law (bs : List Int) (A : Option Addr) (c : Nat) (a v : Int) (w : World) (ho : Oct bs) (hr : Rd w A (octs bs)) (h2 : bs.length ≤ c) (hm : c ≤ maxLen) (hb : bs.length ≤ 140737488351232)
    (ha : (Lit.int .i64 a).wf = true) (hv : (Lit.int .u64 v).wf = true) :
    Calls Try.prog 5 #[.slice A bs.length c, .int .i64 a, .int .u64 v] w fun e w' => e = .returned (.bool true) ∧ Below w.heap.size w w' :=
  twice_any bs A _ c a v w rfl ho hr h2 hm hb (wf_i64 ha).1 (wf_i64 ha).2 (wf_u64 hv).1 (wf_u64 hv).2
end Go.Proofs.Ytbmhfefbfocelaa
