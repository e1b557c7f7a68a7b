/- What octets' questions tell: a number of n bytes at a place, or nothing. For every row of bytes and every place; no condition. -/
import Derived.Test.YtbmhfefbfocelaaRows
import Derived.Test.YtbmhfefbfocelaaGrow
namespace Go.Proofs.Ytbmhfefbfocelaa
open Go.RowKit Go.WideShapes
set_option linter.unusedVariables false
def octs (l : List Int) : List Value := l.map (.int .u8)
theorem octs_one (l : List Int) : ∀ u ∈ octs l, u.oneCell' = true := fun u hu => by
  obtain ⟨x, _, rfl⟩ := List.mem_map.1 hu; rfl
theorem octs_length (l : List Int) : (octs l).length = l.length := by simp [octs]
theorem octs_at {l : List Int} {k : Nat} (h : k < l.length) : (octs l)[k]? = some (.int .u8 (l.getD k 0)) := by
  unfold octs
  rw [List.getElem?_map, List.getD_eq_getElem?_getD, List.getElem?_eq_getElem h]
  rfl
def valI (l : List Int) : Int := l.foldl (fun v x => v * 256 + x) 0
/-- The n bytes at a place, as a number. -/
def numI (l : List Int) (k n : Nat) : Int := valI ((l.drop k).take n)
theorem take_drop_cons (l : List Int) (k n : Nat) (h : k < l.length) : (l.drop k).take (n + 1) = l.getD k 0 :: (l.drop (k + 1)).take n := by
  rw [List.drop_eq_getElem_cons h, List.take_succ_cons, List.getD_eq_getElem?_getD, List.getElem?_eq_getElem h]
  rfl
theorem ret_two {k : IntKind} {x y : Int} {b c : Bool} (h : x = y) (h' : b = c) : Ending.returned (.tuple #[.int k x, .bool b]) = .returned (.tuple #[.int k y, .bool c]) := by rw [h, h']

theorem numI_1 (l : List Int) (k : Nat) (h : k + 1 ≤ l.length) : numI l k 1 = l.getD k 0 := by
  unfold numI
  rw [take_drop_cons l (k) 0 (by omega)]
  simp only [List.take_zero, valI, List.foldl_cons, List.foldl_nil]
  omega
set_option maxRecDepth 100000 in
set_option maxHeartbeats 4000000 in
theorem told1_yes (bs : List Int) (A : Option Addr) (L c k : Nat) (w : World) (hL : L = bs.length) (ho : Oct bs) (hr : Rd w A (octs bs)) (h1 : k + 1 ≤ L) (h2 : L ≤ c) (hm : c ≤ maxLen) :
    Calls Try.prog 33 #[.slice A L c, .int .i64 k, .int .i64 1] w fun e w' => e = .returned (.tuple #[.int .u8 (numI bs k 1), .bool true]) ∧ w = w' := by
  unfold maxLen at hm
  have hn := numI_1 bs k (by omega)
  have HN := Lib.hid hn
  clear hn
  obtain ⟨b, off, rfl, _, hcell⟩ := hr (by rw [octs_length]; omega)
  have b0 := ho.getD (k)
  have d0 := hcell (k) _ (octs_at (by omega))
  clear hcell ho
  generalize bs.getD k 0 = c0 at *
  have HL := Lib.hid hL
  clear hL
  have g1 : (k : Int) + 1 ≤ L := by omega
  have g2 : ¬ c = k := by omega
  go_enter Try.func33, Try.ntmps33
  go_wp2_with fail
  refine wp_loop_rounds 2 ?_
  rw [rounds_succ]
  go_wp2
  rw [rounds_succ]
  go_wp2
  go_ret2
  refine ⟨ret_two ?_ rfl, rfl⟩
  have e := HN.out
  rw [e]
set_option maxHeartbeats 1000000 in
theorem told1_no (A : Option Addr) (L c : Nat) (at_ : Int) (w : World) (hm : L ≤ 9223372036854775807) (hlo : -9223372036854775808 ≤ at_) (hhi : at_ ≤ 9223372036854775807) (h : ¬ (0 ≤ at_ ∧ at_ + 1 ≤ L)) :
    Calls Try.prog 33 #[.slice A L c, .int .i64 at_, .int .i64 1] w fun e w' => e = .returned (.tuple #[.int .u8 0, .bool false]) ∧ w = w' := by
  rcases (show at_ < 0 ∨ (0 ≤ at_ ∧ (L : Int) < at_) ∨ (0 ≤ at_ ∧ at_ ≤ (L : Int) ∧ (L : Int) - at_ < 1) from by omega) with h1 | ⟨h1, h2⟩ | ⟨h1, h2, h3⟩
  all_goals
    clear h
    go_enter Try.func33, Try.ntmps33
    go_wp2
    go_ret2
    exact ⟨rfl, rfl⟩
set_option maxHeartbeats 1000000 in
theorem u8_yes (bs : List Int) (A : Option Addr) (L c k : Nat) (w : World) (hL : L = bs.length) (ho : Oct bs) (hr : Rd w A (octs bs)) (h1 : k + 1 ≤ L) (h2 : L ≤ c) (hm : c ≤ maxLen) :
    Calls Try.prog 11 #[.slice A L c, .int .i64 k] w fun e w' => e = .returned (.tuple #[.int .u8 (numI bs k 1), .bool true]) ∧ w = w' := by
  have HL := Lib.hid hL
  have HM := Lib.hid hm
  have HR := Lib.hid hr
  have HO := Lib.hid ho
  clear hL hm hr ho
  go_enter Try.func11, Try.ntmps11
  go_wp2_with fail
  refine (told1_yes bs A L c k _ HL.out HO.out HR.out h1 h2 HM.out).mono ?_
  rintro e w1 ⟨rfl, rfl⟩
  go_wp2
  go_ret2
  exact ⟨rfl, rfl⟩
theorem u8_no (A : Option Addr) (L c : Nat) (at_ : Int) (w : World) (hm : L ≤ 9223372036854775807) (hlo : -9223372036854775808 ≤ at_) (hhi : at_ ≤ 9223372036854775807) (h : ¬ (0 ≤ at_ ∧ at_ + 1 ≤ L)) :
    Calls Try.prog 11 #[.slice A L c, .int .i64 at_] w fun e w' => e = .returned (.tuple #[.int .u8 0, .bool false]) ∧ w = w' := by
  go_enter Try.func11, Try.ntmps11
  go_wp2_with fail
  refine (told1_no A L c at_ _ hm hlo hhi h).mono ?_
  rintro e w1 ⟨rfl, rfl⟩
  go_wp2
  go_ret2
  exact ⟨rfl, rfl⟩
theorem numI_2 (l : List Int) (k : Nat) (h : k + 2 ≤ l.length) : numI l k 2 = l.getD k 0 * 256 + l.getD (k + 1) 0 := by
  unfold numI
  rw [take_drop_cons l (k) 1 (by omega)]
  rw [take_drop_cons l (k + 1) 0 (by omega)]
  simp only [List.take_zero, valI, List.foldl_cons, List.foldl_nil]
  omega
set_option maxRecDepth 100000 in
set_option maxHeartbeats 4000000 in
theorem told2_yes (bs : List Int) (A : Option Addr) (L c k : Nat) (w : World) (hL : L = bs.length) (ho : Oct bs) (hr : Rd w A (octs bs)) (h1 : k + 2 ≤ L) (h2 : L ≤ c) (hm : c ≤ maxLen) :
    Calls Try.prog 34 #[.slice A L c, .int .i64 k, .int .i64 2] w fun e w' => e = .returned (.tuple #[.int .u16 (numI bs k 2), .bool true]) ∧ w = w' := by
  unfold maxLen at hm
  have hn := numI_2 bs k (by omega)
  have HN := Lib.hid hn
  clear hn
  obtain ⟨b, off, rfl, _, hcell⟩ := hr (by rw [octs_length]; omega)
  have b0 := ho.getD (k)
  have d0 := hcell (k) _ (octs_at (by omega))
  have b1 := ho.getD (k + 1)
  have d1 := hcell (k + 1) _ (octs_at (by omega))
  clear hcell ho
  generalize bs.getD k 0 = c0 at *
  generalize bs.getD (k + 1) 0 = c1 at *
  rw [show off + (k + 1) = off + k + 1 from by omega] at d1
  have HL := Lib.hid hL
  clear hL
  have g1 : (k : Int) + 2 ≤ L := by omega
  have g2 : ¬ c = k := by omega
  go_enter Try.func34, Try.ntmps34
  go_wp2_with fail
  refine wp_loop_rounds 3 ?_
  rw [rounds_succ]
  go_wp2
  rw [rounds_succ]
  go_wp2
  rw [rounds_succ]
  go_wp2
  go_ret2
  refine ⟨ret_two ?_ rfl, rfl⟩
  have e := HN.out
  rw [e]
set_option maxHeartbeats 1000000 in
theorem told2_no (A : Option Addr) (L c : Nat) (at_ : Int) (w : World) (hm : L ≤ 9223372036854775807) (hlo : -9223372036854775808 ≤ at_) (hhi : at_ ≤ 9223372036854775807) (h : ¬ (0 ≤ at_ ∧ at_ + 2 ≤ L)) :
    Calls Try.prog 34 #[.slice A L c, .int .i64 at_, .int .i64 2] w fun e w' => e = .returned (.tuple #[.int .u16 0, .bool false]) ∧ w = w' := by
  rcases (show at_ < 0 ∨ (0 ≤ at_ ∧ (L : Int) < at_) ∨ (0 ≤ at_ ∧ at_ ≤ (L : Int) ∧ (L : Int) - at_ < 2) from by omega) with h1 | ⟨h1, h2⟩ | ⟨h1, h2, h3⟩
  all_goals
    clear h
    go_enter Try.func34, Try.ntmps34
    go_wp2
    go_ret2
    exact ⟨rfl, rfl⟩
set_option maxHeartbeats 1000000 in
theorem u16_yes (bs : List Int) (A : Option Addr) (L c k : Nat) (w : World) (hL : L = bs.length) (ho : Oct bs) (hr : Rd w A (octs bs)) (h1 : k + 2 ≤ L) (h2 : L ≤ c) (hm : c ≤ maxLen) :
    Calls Try.prog 12 #[.slice A L c, .int .i64 k] w fun e w' => e = .returned (.tuple #[.int .u16 (numI bs k 2), .bool true]) ∧ w = w' := by
  have HL := Lib.hid hL
  have HM := Lib.hid hm
  have HR := Lib.hid hr
  have HO := Lib.hid ho
  clear hL hm hr ho
  go_enter Try.func12, Try.ntmps12
  go_wp2_with fail
  refine (told2_yes bs A L c k _ HL.out HO.out HR.out h1 h2 HM.out).mono ?_
  rintro e w1 ⟨rfl, rfl⟩
  go_wp2
  go_ret2
  exact ⟨rfl, rfl⟩
theorem u16_no (A : Option Addr) (L c : Nat) (at_ : Int) (w : World) (hm : L ≤ 9223372036854775807) (hlo : -9223372036854775808 ≤ at_) (hhi : at_ ≤ 9223372036854775807) (h : ¬ (0 ≤ at_ ∧ at_ + 2 ≤ L)) :
    Calls Try.prog 12 #[.slice A L c, .int .i64 at_] w fun e w' => e = .returned (.tuple #[.int .u16 0, .bool false]) ∧ w = w' := by
  go_enter Try.func12, Try.ntmps12
  go_wp2_with fail
  refine (told2_no A L c at_ _ hm hlo hhi h).mono ?_
  rintro e w1 ⟨rfl, rfl⟩
  go_wp2
  go_ret2
  exact ⟨rfl, rfl⟩
theorem numI_4 (l : List Int) (k : Nat) (h : k + 4 ≤ l.length) : numI l k 4 = l.getD k 0 * 16777216 + l.getD (k + 1) 0 * 65536 + l.getD (k + 2) 0 * 256 + l.getD (k + 3) 0 := by
  unfold numI
  rw [take_drop_cons l (k) 3 (by omega)]
  rw [take_drop_cons l (k + 1) 2 (by omega)]
  rw [take_drop_cons l (k + 2) 1 (by omega)]
  rw [take_drop_cons l (k + 3) 0 (by omega)]
  simp only [List.take_zero, valI, List.foldl_cons, List.foldl_nil]
  omega
set_option maxRecDepth 100000 in
set_option maxHeartbeats 4000000 in
theorem told4_yes (bs : List Int) (A : Option Addr) (L c k : Nat) (w : World) (hL : L = bs.length) (ho : Oct bs) (hr : Rd w A (octs bs)) (h1 : k + 4 ≤ L) (h2 : L ≤ c) (hm : c ≤ maxLen) :
    Calls Try.prog 35 #[.slice A L c, .int .i64 k, .int .i64 4] w fun e w' => e = .returned (.tuple #[.int .u32 (numI bs k 4), .bool true]) ∧ w = w' := by
  unfold maxLen at hm
  have hn := numI_4 bs k (by omega)
  have HN := Lib.hid hn
  clear hn
  obtain ⟨b, off, rfl, _, hcell⟩ := hr (by rw [octs_length]; omega)
  have b0 := ho.getD (k)
  have d0 := hcell (k) _ (octs_at (by omega))
  have b1 := ho.getD (k + 1)
  have d1 := hcell (k + 1) _ (octs_at (by omega))
  have b2 := ho.getD (k + 2)
  have d2 := hcell (k + 2) _ (octs_at (by omega))
  have b3 := ho.getD (k + 3)
  have d3 := hcell (k + 3) _ (octs_at (by omega))
  clear hcell ho
  generalize bs.getD k 0 = c0 at *
  generalize bs.getD (k + 1) 0 = c1 at *
  rw [show off + (k + 1) = off + k + 1 from by omega] at d1
  generalize bs.getD (k + 2) 0 = c2 at *
  rw [show off + (k + 2) = off + k + 2 from by omega] at d2
  generalize bs.getD (k + 3) 0 = c3 at *
  rw [show off + (k + 3) = off + k + 3 from by omega] at d3
  have HL := Lib.hid hL
  clear hL
  have g1 : (k : Int) + 4 ≤ L := by omega
  have g2 : ¬ c = k := by omega
  go_enter Try.func35, Try.ntmps35
  go_wp2_with fail
  refine wp_loop_rounds 5 ?_
  rw [rounds_succ]
  go_wp2
  rw [rounds_succ]
  go_wp2
  rw [rounds_succ]
  go_wp2
  rw [rounds_succ]
  go_wp2
  rw [rounds_succ]
  go_wp2
  go_ret2
  refine ⟨ret_two ?_ rfl, rfl⟩
  have e := HN.out
  rw [e]
set_option maxHeartbeats 1000000 in
theorem told4_no (A : Option Addr) (L c : Nat) (at_ : Int) (w : World) (hm : L ≤ 9223372036854775807) (hlo : -9223372036854775808 ≤ at_) (hhi : at_ ≤ 9223372036854775807) (h : ¬ (0 ≤ at_ ∧ at_ + 4 ≤ L)) :
    Calls Try.prog 35 #[.slice A L c, .int .i64 at_, .int .i64 4] w fun e w' => e = .returned (.tuple #[.int .u32 0, .bool false]) ∧ w = w' := by
  rcases (show at_ < 0 ∨ (0 ≤ at_ ∧ (L : Int) < at_) ∨ (0 ≤ at_ ∧ at_ ≤ (L : Int) ∧ (L : Int) - at_ < 4) from by omega) with h1 | ⟨h1, h2⟩ | ⟨h1, h2, h3⟩
  all_goals
    clear h
    go_enter Try.func35, Try.ntmps35
    go_wp2
    go_ret2
    exact ⟨rfl, rfl⟩
set_option maxHeartbeats 1000000 in
theorem u32_yes (bs : List Int) (A : Option Addr) (L c k : Nat) (w : World) (hL : L = bs.length) (ho : Oct bs) (hr : Rd w A (octs bs)) (h1 : k + 4 ≤ L) (h2 : L ≤ c) (hm : c ≤ maxLen) :
    Calls Try.prog 13 #[.slice A L c, .int .i64 k] w fun e w' => e = .returned (.tuple #[.int .u32 (numI bs k 4), .bool true]) ∧ w = w' := by
  have HL := Lib.hid hL
  have HM := Lib.hid hm
  have HR := Lib.hid hr
  have HO := Lib.hid ho
  clear hL hm hr ho
  go_enter Try.func13, Try.ntmps13
  go_wp2_with fail
  refine (told4_yes bs A L c k _ HL.out HO.out HR.out h1 h2 HM.out).mono ?_
  rintro e w1 ⟨rfl, rfl⟩
  go_wp2
  go_ret2
  exact ⟨rfl, rfl⟩
theorem u32_no (A : Option Addr) (L c : Nat) (at_ : Int) (w : World) (hm : L ≤ 9223372036854775807) (hlo : -9223372036854775808 ≤ at_) (hhi : at_ ≤ 9223372036854775807) (h : ¬ (0 ≤ at_ ∧ at_ + 4 ≤ L)) :
    Calls Try.prog 13 #[.slice A L c, .int .i64 at_] w fun e w' => e = .returned (.tuple #[.int .u32 0, .bool false]) ∧ w = w' := by
  go_enter Try.func13, Try.ntmps13
  go_wp2_with fail
  refine (told4_no A L c at_ _ hm hlo hhi h).mono ?_
  rintro e w1 ⟨rfl, rfl⟩
  go_wp2
  go_ret2
  exact ⟨rfl, rfl⟩
theorem numI_8 (l : List Int) (k : Nat) (h : k + 8 ≤ l.length) : numI l k 8 = l.getD k 0 * 72057594037927936 + l.getD (k + 1) 0 * 281474976710656 + l.getD (k + 2) 0 * 1099511627776 + l.getD (k + 3) 0 * 4294967296 + l.getD (k + 4) 0 * 16777216 + l.getD (k + 5) 0 * 65536 + l.getD (k + 6) 0 * 256 + l.getD (k + 7) 0 := by
  unfold numI
  rw [take_drop_cons l (k) 7 (by omega)]
  rw [take_drop_cons l (k + 1) 6 (by omega)]
  rw [take_drop_cons l (k + 2) 5 (by omega)]
  rw [take_drop_cons l (k + 3) 4 (by omega)]
  rw [take_drop_cons l (k + 4) 3 (by omega)]
  rw [take_drop_cons l (k + 5) 2 (by omega)]
  rw [take_drop_cons l (k + 6) 1 (by omega)]
  rw [take_drop_cons l (k + 7) 0 (by omega)]
  simp only [List.take_zero, valI, List.foldl_cons, List.foldl_nil]
  omega
set_option maxRecDepth 100000 in
set_option maxHeartbeats 4000000 in
theorem told8_yes (bs : List Int) (A : Option Addr) (L c k : Nat) (w : World) (hL : L = bs.length) (ho : Oct bs) (hr : Rd w A (octs bs)) (h1 : k + 8 ≤ L) (h2 : L ≤ c) (hm : c ≤ maxLen) :
    Calls Try.prog 36 #[.slice A L c, .int .i64 k, .int .i64 8] w fun e w' => e = .returned (.tuple #[.int .u64 (numI bs k 8), .bool true]) ∧ w = w' := by
  unfold maxLen at hm
  have hn := numI_8 bs k (by omega)
  have HN := Lib.hid hn
  clear hn
  obtain ⟨b, off, rfl, _, hcell⟩ := hr (by rw [octs_length]; omega)
  have b0 := ho.getD (k)
  have d0 := hcell (k) _ (octs_at (by omega))
  have b1 := ho.getD (k + 1)
  have d1 := hcell (k + 1) _ (octs_at (by omega))
  have b2 := ho.getD (k + 2)
  have d2 := hcell (k + 2) _ (octs_at (by omega))
  have b3 := ho.getD (k + 3)
  have d3 := hcell (k + 3) _ (octs_at (by omega))
  have b4 := ho.getD (k + 4)
  have d4 := hcell (k + 4) _ (octs_at (by omega))
  have b5 := ho.getD (k + 5)
  have d5 := hcell (k + 5) _ (octs_at (by omega))
  have b6 := ho.getD (k + 6)
  have d6 := hcell (k + 6) _ (octs_at (by omega))
  have b7 := ho.getD (k + 7)
  have d7 := hcell (k + 7) _ (octs_at (by omega))
  clear hcell ho
  generalize bs.getD k 0 = c0 at *
  generalize bs.getD (k + 1) 0 = c1 at *
  rw [show off + (k + 1) = off + k + 1 from by omega] at d1
  generalize bs.getD (k + 2) 0 = c2 at *
  rw [show off + (k + 2) = off + k + 2 from by omega] at d2
  generalize bs.getD (k + 3) 0 = c3 at *
  rw [show off + (k + 3) = off + k + 3 from by omega] at d3
  generalize bs.getD (k + 4) 0 = c4 at *
  rw [show off + (k + 4) = off + k + 4 from by omega] at d4
  generalize bs.getD (k + 5) 0 = c5 at *
  rw [show off + (k + 5) = off + k + 5 from by omega] at d5
  generalize bs.getD (k + 6) 0 = c6 at *
  rw [show off + (k + 6) = off + k + 6 from by omega] at d6
  generalize bs.getD (k + 7) 0 = c7 at *
  rw [show off + (k + 7) = off + k + 7 from by omega] at d7
  have HL := Lib.hid hL
  clear hL
  have g1 : (k : Int) + 8 ≤ L := by omega
  have g2 : ¬ c = k := by omega
  go_enter Try.func36, Try.ntmps36
  go_wp2_with fail
  refine wp_loop_rounds 9 ?_
  rw [rounds_succ]
  go_wp2
  rw [rounds_succ]
  go_wp2
  rw [rounds_succ]
  go_wp2
  rw [rounds_succ]
  go_wp2
  rw [rounds_succ]
  go_wp2
  rw [rounds_succ]
  go_wp2
  rw [rounds_succ]
  go_wp2
  rw [rounds_succ]
  go_wp2
  rw [rounds_succ]
  go_wp2
  go_ret2
  refine ⟨ret_two ?_ rfl, rfl⟩
  have e := HN.out
  rw [e]
set_option maxHeartbeats 1000000 in
theorem told8_no (A : Option Addr) (L c : Nat) (at_ : Int) (w : World) (hm : L ≤ 9223372036854775807) (hlo : -9223372036854775808 ≤ at_) (hhi : at_ ≤ 9223372036854775807) (h : ¬ (0 ≤ at_ ∧ at_ + 8 ≤ L)) :
    Calls Try.prog 36 #[.slice A L c, .int .i64 at_, .int .i64 8] w fun e w' => e = .returned (.tuple #[.int .u64 0, .bool false]) ∧ w = w' := by
  rcases (show at_ < 0 ∨ (0 ≤ at_ ∧ (L : Int) < at_) ∨ (0 ≤ at_ ∧ at_ ≤ (L : Int) ∧ (L : Int) - at_ < 8) from by omega) with h1 | ⟨h1, h2⟩ | ⟨h1, h2, h3⟩
  all_goals
    clear h
    go_enter Try.func36, Try.ntmps36
    go_wp2
    go_ret2
    exact ⟨rfl, rfl⟩
set_option maxHeartbeats 1000000 in
theorem u64_yes (bs : List Int) (A : Option Addr) (L c k : Nat) (w : World) (hL : L = bs.length) (ho : Oct bs) (hr : Rd w A (octs bs)) (h1 : k + 8 ≤ L) (h2 : L ≤ c) (hm : c ≤ maxLen) :
    Calls Try.prog 14 #[.slice A L c, .int .i64 k] w fun e w' => e = .returned (.tuple #[.int .u64 (numI bs k 8), .bool true]) ∧ w = w' := by
  have HL := Lib.hid hL
  have HM := Lib.hid hm
  have HR := Lib.hid hr
  have HO := Lib.hid ho
  clear hL hm hr ho
  go_enter Try.func14, Try.ntmps14
  go_wp2_with fail
  refine (told8_yes bs A L c k _ HL.out HO.out HR.out h1 h2 HM.out).mono ?_
  rintro e w1 ⟨rfl, rfl⟩
  go_wp2
  go_ret2
  exact ⟨rfl, rfl⟩
theorem u64_no (A : Option Addr) (L c : Nat) (at_ : Int) (w : World) (hm : L ≤ 9223372036854775807) (hlo : -9223372036854775808 ≤ at_) (hhi : at_ ≤ 9223372036854775807) (h : ¬ (0 ≤ at_ ∧ at_ + 8 ≤ L)) :
    Calls Try.prog 14 #[.slice A L c, .int .i64 at_] w fun e w' => e = .returned (.tuple #[.int .u64 0, .bool false]) ∧ w = w' := by
  go_enter Try.func14, Try.ntmps14
  go_wp2_with fail
  refine (told8_no A L c at_ _ hm hlo hhi h).mono ?_
  rintro e w1 ⟨rfl, rfl⟩
  go_wp2
  go_ret2
  exact ⟨rfl, rfl⟩
end Go.Proofs.Ytbmhfefbfocelaa
