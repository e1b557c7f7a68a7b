/- The statements' help: two rows of bytes are one; a place out of any int; '==' of two instructions. No condition. -/
import Derived.Test.YtaiekpdoljleeaaCoGe
import Derived.Laws.StructEq
namespace Go.Proofs.Ytaiekpdoljleeaa
open Go.RowKit Go.WideShapes
set_option linter.unusedVariables false
set_option linter.unusedSimpArgs false
set_option maxRecDepth 100000 in
set_option maxHeartbeats 1000000 in
/-- Same..: are the two lists one? -/
theorem sameB (xs ys : List Int) (A B : Option Addr) (n m c d : Nat) (w : World) (hn : n = xs.length) (hm : m = ys.length) (hA : Rd w A (xs.map (.int .u8))) (hB : Rd w B (ys.map (.int .u8))) (hl : n ≤ 9223372036854775807) :
    Calls Try.prog 24 #[.slice A n c, .slice B m d] w fun e w' => e = .returned (.bool (decide (xs = ys))) ∧ Below w.heap.size w w' := by
  have HA := Lib.hid hA
  have HB := Lib.hid hB
  clear hA hB
  have Hn := Lib.hid hn
  have Hm := Lib.hid hm
  clear hn hm
  by_cases hnm : n = m
  · have hq : ((n : Int) != (m : Int)) = false := by simp [hnm]
    have HQ := Lib.hid hnm
    clear hnm
    go_enter Try.func24, Try.ntmps24
    go_wp2_with fail
    go_loopw [5] (fun i wr => ∃ k : Nat, i = .int .i64 k ∧ k ≤ n ∧ xs.take k = ys.take k ∧ Below w.heap.size w wr) (fun i _ => n - (intOf i).toNat)
    case atStart => exact ⟨0, rfl, by omega, by simp, Below.refl _ _⟩
    case round =>
      obtain ⟨k, rfl, hk, ht, hb⟩ := hrel
      have HT := Lib.hid ht
      clear ht
      by_cases hlt : k < n
      · obtain ⟨x, hx⟩ : ∃ x, xs[k]? = some x := ⟨_, List.getElem?_eq_getElem (by rw [← Hn.out]; exact hlt)⟩
        obtain ⟨y, hy⟩ : ∃ y, ys[k]? = some y := ⟨_, List.getElem?_eq_getElem (by rw [← Hm.out, ← HQ.out]; exact hlt)⟩
        obtain ⟨b1, o1, rfl, _, hc1⟩ := ((HA.out).below hb rfl).at (k := k) (u := .int .u8 x) (by rw [List.getElem?_map, hx]; rfl)
        obtain ⟨b2, o2, rfl, _, hc2⟩ := ((HB.out).below hb rfl).at (k := k) (u := .int .u8 y) (by rw [List.getElem?_map, hy]; rfl)
        have HX := Lib.hid hx
        have HY := Lib.hid hy
        clear hx hy
        have hkm : (k : Int) < (m : Int) := by have := HQ.out; omega
        have hkn : (k : Int) < (n : Int) := by omega
        by_cases hxy : x = y
        · have e : (x != y) = false := by simp [hxy]
          have HE := Lib.hid hxy
          clear hxy
          go_wp2_with fail
          go_quiet (fail)
          go_wp2
          go_roundw
          case rel => exact ⟨k + 1, by go_num, by omega, by rw [List.take_add_one, List.take_add_one, HT.out, HX.out, HY.out, HE.out], below_drewN hb _⟩
          case measure => simp [intOf]; omega
        · have e : (x != y) = true := by simp [hxy]
          have HE := Lib.hid hxy
          clear hxy
          go_wp2_with fail
          go_quiet (fail)
          go_wp2
          go_ret
          refine ⟨ret_bool (decide_eq_false fun he => HE.out ?_).symm, below_drewN hb _⟩
          have := HX.out
          rw [he, HY.out] at this
          exact (Option.some.inj this).symm
      · go_wp2
        go_ret
        refine ⟨ret_bool (decide_eq_true ?_).symm, hb⟩
        have h1 := HT.out
        rwa [List.take_of_length_le (by rw [← Hn.out]; omega), List.take_of_length_le (by rw [← Hm.out, ← HQ.out]; omega)] at h1
  · have hq : ((n : Int) != (m : Int)) = true := by simp; omega
    have HQ := Lib.hid hnm
    clear hnm
    go_enter Try.func24, Try.ntmps24
    go_wp2
    go_ret
    exact ⟨ret_bool (decide_eq_false fun he => HQ.out (by rw [Hn.out, Hm.out, he])).symm, Below.refl _ _⟩

theorem tmod_bd (x : Int) (n : Nat) (hn : 0 < n) : -(n : Int) < x.tmod n ∧ x.tmod n < n := by
  rcases Int.le_total 0 x with h | h
  · rw [Int.tmod_eq_emod_of_nonneg h]
    have := Int.emod_nonneg x (b := (n : Int)) (by omega)
    have := Int.emod_lt_of_pos x (b := (n : Int)) (by omega)
    omega
  · have e : x.tmod n = -((-x) % n) := by rw [← Int.tmod_eq_emod_of_nonneg (by omega), Int.neg_tmod, Int.neg_neg]
    have := Int.emod_nonneg (-x) (b := (n : Int)) (by omega)
    have := Int.emod_lt_of_pos (-x) (b := (n : Int)) (by omega)
    omega
/-- Pick: a place from 0 to n - 1. -/
def pickI (x : Int) (n : Nat) : Nat := (if x.tmod n < 0 then x.tmod n + n else x.tmod n).toNat
theorem pickI_lt (x : Int) (n : Nat) (hn : 0 < n) : pickI x n < n := by
  have h := tmod_bd x n hn
  unfold pickI
  split <;> omega
theorem pick_any (x N : Int) (n : Nat) (w : World) (hN : N = n) (hn : 0 < n) (hm : n ≤ 1000000000) (h0 : -9223372036854775808 ≤ x) (h1 : x ≤ 9223372036854775807) :
    Calls Try.prog 19 #[.int .i64 x, .int .i64 N] w (Same (.int .i64 (pickI x n)) w) := by
  have h := tmod_bd x n hn
  have e : ((pickI x n : Nat) : Int) = if x.tmod N < 0 then x.tmod N + N else x.tmod N := by
    subst hN
    unfold pickI
    split <;> omega
  rw [e]
  rw [← hN] at h
  have gN : 1 ≤ N := by omega
  have gM : N ≤ 1000000000 := by omega
  clear hN e
  by_cases hx : x.tmod N < 0
  · rw [if_pos hx]
    go_enter Try.func19, Try.ntmps19
    go_wp2
    go_ret
    exact ⟨rfl, rfl⟩
  · rw [if_neg hx]
    go_enter Try.func19, Try.ntmps19
    go_wp2
    go_ret
    exact ⟨rfl, rfl⟩
theorem sameB1 (xs : List Int) (A B : Option Addr) (n m c d : Nat) (w : World) (hn : n = xs.length) (hm : m = xs.length) (hA : Rd w A (octs xs)) (hB : Rd w B (octs xs)) (hl : xs.length ≤ 9223372036854775807) :
    Calls Try.prog 24 #[.slice A n c, .slice B m d] w (Quiet (.bool true) w) := by
  have h := sameB xs xs A B n m c d w hn hm hA hB (by omega)
  rw [show decide (xs = xs) = true from decide_eq_true rfl] at h
  exact h.mono fun e w' ⟨h1, h2⟩ => ⟨h1, h2⟩
def inEq (x y : In) : Bool := x.o == y.o && x.d == y.d && x.s == y.s && x.n == y.n
theorem inEq_same (x : In) : inEq x x = true := by simp [inEq]
set_option maxHeartbeats 2000000 in
theorem eqIn (o d s n o' d' s' n' : Int) (w : World) :
    (Op.equalIn 10000 36 (.agg #[.int .u8 o, .int .i64 d, .int .i64 s, .int .i64 n]) (.agg #[.int .u8 o', .int .i64 d', .int .i64 s', .int .i64 n'])).run Try.prog w = .ok (inEq ⟨o, d, s, n⟩ ⟨o', d', s', n'⟩) w := by
  have u3 := Try.underlying3
  have a3 := Try.isAgg3
  have z3 := Try.sizeOf3
  have u34 := Try.underlying34
  have a34 := Try.isAgg34
  have z34 := Try.sizeOf34
  have hS : Try.prog.underlying 36 = some (.struct (Try.prog.fieldsOf 36)) := by kernel_rfl
  rw [show (10000 : Nat) = 9999 + 1 from rfl, run_equalIn_agg w 9999 36 _ _ hS (by kernel_rfl)]
  simp only [Program.fieldsOf, Try.underlying36]
  go_simp
  unfold inEq
  by_cases h1 : o = o' <;> by_cases h2 : d = d' <;> by_cases h3 : s = s' <;> by_cases h4 : n = n' <;> simp [h1, h2, h3, h4]
end Go.Proofs.Ytaiekpdoljleeaa
