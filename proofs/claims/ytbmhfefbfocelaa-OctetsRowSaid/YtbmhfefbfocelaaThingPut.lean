/- Things: put, stands: the walks. Rows of at most a million bytes, texts of at most 60. -/
import Derived.Test.YtbmhfefbfocelaaThing
import Derived.Deep.QuietTactic
import Derived.BigQuiet
namespace Go.Proofs.Ytbmhfefbfocelaa
open Go.RowKit Go.WideShapes
set_option linter.unusedVariables false
theorem wide_cases (t : Th) : (t.W = 1 ∧ t.wide = 1) ∨ (t.W = 2 ∧ t.wide = 2) ∨ (t.W = 4 ∧ t.wide = 4) ∨ (t.W = 8 ∧ t.wide = 8) ∨ (t.W ≠ 1 ∧ t.W ≠ 2 ∧ t.W ≠ 4 ∧ t.W ≠ 8 ∧ t.wide = 0) := by
  unfold Th.wide
  by_cases h1 : t.W = 1
  · simp [h1]
  · by_cases h2 : t.W = 2
    · simp [h2]
    · by_cases h4 : t.W = 4
      · simp [h4]
      · by_cases h8 : t.W = 8
        · simp [h8]
        · simp [h1, h2, h4, h8]
theorem own_less {w : World} {base base' : Nat} {e : TypeId} {size n : Nat} {v : Value} {xs : List Value} (h : w.ownsRow base e size v n xs) (hb : base' ≤ base) : w.ownsRow base' e size v n xs := by
  obtain ⟨hl, h⟩ := h
  refine ⟨hl, ?_⟩
  rcases h with h | ⟨g, cap, cur, hv, hbg, hr⟩
  · exact .inl h
  · exact .inr ⟨g, cap, cur, hv, by omega, hr⟩
set_option maxRecDepth 100000 in
set_option maxHeartbeats 4000000 in
theorem put_any (W N : Int) (S : ByteArray) (bs : List Int) (A : Option Addr) (L c M : Nat) (w : World) (hok : (Th.mk W N S).ok) (hS : S.size ≤ 60) (hM : M = L + (Th.mk W N S).enc.length) (hL : L = bs.length) (hr : Rd w A (octs bs)) (hc : L ≤ c) (hb : L ≤ 1000000) :
    Calls Try.prog 24 #[.agg #[.int .u8 W, .int .u64 N, .string S], .slice A L c] w (IsPut bs (Th.mk W N S).enc M w) := by
  have HL := Lib.hid hL
  have HR := Lib.hid (hr.alloc (.cells #[.int .u8 W, .int .u64 N, .string S] 55))
  have n0 := hok.n0
  have n1 := hok.n1
  simp only at n0 n1
  have he := (Th.mk W N S).enc_len
  have hlow : Below w.heap.size w (w.alloc (.cells #[.int .u8 W, .int .u64 N, .string S] 55)) := (Below.refl _ _).alloc (Nat.le_refl _) _
  have HLOW := Lib.hid hlow
  clear hL hr hlow
  rcases wide_cases (Th.mk W N S) with ⟨h, hw⟩ | ⟨h, hw⟩ | ⟨h, hw⟩ | ⟨h, hw⟩ | ⟨h1, h2, h4, h8, hw⟩
  · simp only at h
    have henc : (Th.mk W N S).enc = beI N 1 := by unfold Th.enc; rw [if_neg (by rw [hw]; omega), hw]
    rw [henc] at hM ⊢
    rw [beI_length] at hM
    have H := Lib.hid h
    have HMM := Lib.hid hM
    clear h hw he henc hM
    have g1 : (W == 1) = true := by simp [H.out]
    go_enter Try.func24, Try.ntmps24
    go_wp2_with fail
    refine (add8' bs (N % 256) A L c M _ HMM.out HL.out HR.out hc (by omega) (by omega) (by omega)).mono ?_
    rw [be_cut' 1 N 256 rfl]
    rintro e w1 ⟨⟨A1, c1, rfl, hc1, hl1, hown1⟩, hb1⟩
    go_wp2_with fail
    go_ret
    rw [World.size_alloc] at hown1
    exact ⟨⟨A1, c1, rfl, hc1, hl1, own_less hown1 (by omega)⟩, HLOW.out.trans (hb1.mono (by rw [World.size_alloc]; omega))⟩
  · simp only at h
    have henc : (Th.mk W N S).enc = beI N 2 := by unfold Th.enc; rw [if_neg (by rw [hw]; omega), hw]
    rw [henc] at hM ⊢
    rw [beI_length] at hM
    have H := Lib.hid h
    have HMM := Lib.hid hM
    clear h hw he henc hM
    have g1 : (W == 1) = false := by simp [H.out]
    have g2 : (W == 2) = true := by simp [H.out]
    go_enter Try.func24, Try.ntmps24
    go_wp2_with fail
    refine (add16' bs (N % 65536) A L c M _ HMM.out HL.out HR.out hc (by omega) (by omega) (by omega)).mono ?_
    rw [be_cut' 2 N 65536 rfl]
    rintro e w1 ⟨⟨A1, c1, rfl, hc1, hl1, hown1⟩, hb1⟩
    go_wp2_with fail
    go_ret
    rw [World.size_alloc] at hown1
    exact ⟨⟨A1, c1, rfl, hc1, hl1, own_less hown1 (by omega)⟩, HLOW.out.trans (hb1.mono (by rw [World.size_alloc]; omega))⟩
  · simp only at h
    have henc : (Th.mk W N S).enc = beI N 4 := by unfold Th.enc; rw [if_neg (by rw [hw]; omega), hw]
    rw [henc] at hM ⊢
    rw [beI_length] at hM
    have H := Lib.hid h
    have HMM := Lib.hid hM
    clear h hw he henc hM
    have g1 : (W == 1) = false := by simp [H.out]
    have g2 : (W == 2) = false := by simp [H.out]
    have g4 : (W == 4) = true := by simp [H.out]
    go_enter Try.func24, Try.ntmps24
    go_wp2_with fail
    refine (add32' bs (N % 4294967296) A L c M _ HMM.out HL.out HR.out hc (by omega) (by omega) (by omega)).mono ?_
    rw [be_cut' 4 N 4294967296 rfl]
    rintro e w1 ⟨⟨A1, c1, rfl, hc1, hl1, hown1⟩, hb1⟩
    go_wp2_with fail
    go_ret
    rw [World.size_alloc] at hown1
    exact ⟨⟨A1, c1, rfl, hc1, hl1, own_less hown1 (by omega)⟩, HLOW.out.trans (hb1.mono (by rw [World.size_alloc]; omega))⟩
  · simp only at h
    have henc : (Th.mk W N S).enc = beI N 8 := by unfold Th.enc; rw [if_neg (by rw [hw]; omega), hw]
    rw [henc] at hM ⊢
    rw [beI_length] at hM
    have H := Lib.hid h
    have HMM := Lib.hid hM
    clear h hw he henc hM
    have g1 : (W == 1) = false := by simp [H.out]
    have g2 : (W == 2) = false := by simp [H.out]
    have g4 : (W == 4) = false := by simp [H.out]
    have g8 : (W == 8) = true := by simp [H.out]
    go_enter Try.func24, Try.ntmps24
    go_wp2_with fail
    refine (add64' bs N A L c M _ HMM.out HL.out HR.out hc (by omega) (by omega) (by omega)).mono ?_
    rintro e w1 ⟨⟨A1, c1, rfl, hc1, hl1, hown1⟩, hb1⟩
    go_wp2_with fail
    go_ret
    rw [World.size_alloc] at hown1
    exact ⟨⟨A1, c1, rfl, hc1, hl1, own_less hown1 (by omega)⟩, HLOW.out.trans (hb1.mono (by rw [World.size_alloc]; omega))⟩
  · simp only at h1 h2 h4 h8
    have henc : (Th.mk W N S).enc = beI S.size 2 ++ strI S := by unfold Th.enc; rw [if_pos hw]
    rw [henc] at hM ⊢
    rw [List.length_append, beI_length, strI_length] at hM
    have HMM := Lib.hid hM
    clear hw he henc hM
    have g1 : (W == 1) = false := by simp [h1]
    have g2 : (W == 2) = false := by simp [h2]
    have g4 : (W == 4) = false := by simp [h4]
    have g8 : (W == 8) = false := by simp [h8]
    clear h1 h2 h4 h8
    go_enter Try.func24, Try.ntmps24
    go_wp2_with fail
    refine (addText_yes bs S A L c _ HL.out HR.out hc (by omega) (by omega)).mono ?_
    rw [show L + 2 + S.size = M from by have := HMM.out; omega]
    rintro e w1 ⟨⟨A1, c1, rfl, hc1, hl1, hown1⟩, hb1⟩
    go_wp2_with fail
    go_ret
    rw [World.size_alloc] at hown1
    exact ⟨⟨A1, c1, rfl, hc1, hl1, own_less hown1 (by omega)⟩, HLOW.out.trans (hb1.mono (by rw [World.size_alloc]; omega))⟩
structure IsStands (ok same : Bool) (to : Int) (w0 : World) (e : Ending) (w : World) : Prop where
  ret : e = .returned (.tuple #[.bool ok, .bool same, .int .i64 to])
  low : Below w0.heap.size w0 w
theorem ret_stands {a b c d : Bool} {x y : Int} (h1 : a = b) (h2 : c = d) (h3 : x = y) : Ending.returned (.tuple #[.bool a, .bool c, .int .i64 x]) = .returned (.tuple #[.bool b, .bool d, .int .i64 y]) := by rw [h1, h2, h3]
set_option maxRecDepth 100000 in
set_option maxHeartbeats 4000000 in
theorem stands_any (W N : Int) (S : ByteArray) (bs : List Int) (A : Option Addr) (L c : Nat) (p : Int) (w : World) (hok : (Th.mk W N S).ok) (hL : L = bs.length) (ho : Oct bs) (hr : Rd w A (octs bs)) (hc : L ≤ c) (hcm : c ≤ maxLen) (hb : L ≤ 1000000) (p0 : 0 ≤ p) (p1 : p ≤ 1000000) :
    Calls Try.prog 25 #[.agg #[.int .u8 W, .int .u64 N, .string S], .slice A L c, .int .i64 p] w (IsStands (okT (Th.mk W N S) bs p) (sameT (Th.mk W N S) bs p) (toT (Th.mk W N S) bs p) w) := by
  have HL := Lib.hid hL
  have HO := Lib.hid ho
  have HCM := Lib.hid hcm
  have HR := Lib.hid (hr.alloc (.cells #[.int .u8 W, .int .u64 N, .string S] 55))
  have n0 := hok.n0
  have n1 := hok.n1
  simp only at n0 n1
  have hlow : Below w.heap.size w (w.alloc (.cells #[.int .u8 W, .int .u64 N, .string S] 55)) := (Below.refl _ _).alloc (Nat.le_refl _) _
  have HLOW := Lib.hid hlow
  clear hL hr hlow ho hcm
  rcases wide_cases (Th.mk W N S) with ⟨h, hw⟩ | ⟨h, hw⟩ | ⟨h, hw⟩ | ⟨h, hw⟩ | ⟨h1, h2, h4, h8, hw⟩
  · simp only at h
    have e1 : okT (Th.mk W N S) bs p = there bs p 1 := by unfold okT; rw [if_neg (by rw [hw]; omega), hw]
    have e2 : sameT (Th.mk W N S) bs p = (numAt bs p 1 == N % 256) := by unfold sameT; rw [if_neg (by rw [hw]; omega), hw]; rfl
    have e3 : toT (Th.mk W N S) bs p = p + 1 := by unfold toT; rw [if_neg (by rw [hw]; omega), hw]; rfl
    have E1 := Lib.hid e1
    have E2 := Lib.hid e2
    have E3 := Lib.hid e3
    have H := Lib.hid h
    clear h hw e1 e2 e3
    have g1 : (W == 1) = true := by simp [H.out]
    go_enter Try.func25, Try.ntmps25
    go_wp2_with fail
    refine (u8_num bs A L c p _ HL.out HO.out HR.out hc HCM.out (by omega) (by omega) (by omega)).mono ?_
    rintro e w1 ⟨rfl, rfl⟩
    go_wp2_with fail
    go_quiet (fail)
    go_wp2
    go_ret3
    exact ⟨ret_stands E1.out.symm E2.out.symm E3.out.symm, below_drewN HLOW.out _⟩
  · simp only at h
    have e1 : okT (Th.mk W N S) bs p = there bs p 2 := by unfold okT; rw [if_neg (by rw [hw]; omega), hw]
    have e2 : sameT (Th.mk W N S) bs p = (numAt bs p 2 == N % 65536) := by unfold sameT; rw [if_neg (by rw [hw]; omega), hw]; rfl
    have e3 : toT (Th.mk W N S) bs p = p + 2 := by unfold toT; rw [if_neg (by rw [hw]; omega), hw]; rfl
    have E1 := Lib.hid e1
    have E2 := Lib.hid e2
    have E3 := Lib.hid e3
    have H := Lib.hid h
    clear h hw e1 e2 e3
    have g1 : (W == 1) = false := by simp [H.out]
    have g2 : (W == 2) = true := by simp [H.out]
    go_enter Try.func25, Try.ntmps25
    go_wp2_with fail
    refine (u16_num bs A L c p _ HL.out HO.out HR.out hc HCM.out (by omega) (by omega) (by omega)).mono ?_
    rintro e w1 ⟨rfl, rfl⟩
    go_wp2_with fail
    go_quiet (fail)
    go_wp2
    go_ret3
    exact ⟨ret_stands E1.out.symm E2.out.symm E3.out.symm, below_drewN HLOW.out _⟩
  · simp only at h
    have e1 : okT (Th.mk W N S) bs p = there bs p 4 := by unfold okT; rw [if_neg (by rw [hw]; omega), hw]
    have e2 : sameT (Th.mk W N S) bs p = (numAt bs p 4 == N % 4294967296) := by unfold sameT; rw [if_neg (by rw [hw]; omega), hw]; rfl
    have e3 : toT (Th.mk W N S) bs p = p + 4 := by unfold toT; rw [if_neg (by rw [hw]; omega), hw]; rfl
    have E1 := Lib.hid e1
    have E2 := Lib.hid e2
    have E3 := Lib.hid e3
    have H := Lib.hid h
    clear h hw e1 e2 e3
    have g1 : (W == 1) = false := by simp [H.out]
    have g2 : (W == 2) = false := by simp [H.out]
    have g4 : (W == 4) = true := by simp [H.out]
    go_enter Try.func25, Try.ntmps25
    go_wp2_with fail
    refine (u32_num bs A L c p _ HL.out HO.out HR.out hc HCM.out (by omega) (by omega) (by omega)).mono ?_
    rintro e w1 ⟨rfl, rfl⟩
    go_wp2_with fail
    go_quiet (fail)
    go_wp2
    go_ret3
    exact ⟨ret_stands E1.out.symm E2.out.symm E3.out.symm, below_drewN HLOW.out _⟩
  · simp only at h
    have e1 : okT (Th.mk W N S) bs p = there bs p 8 := by unfold okT; rw [if_neg (by rw [hw]; omega), hw]
    have e2 : sameT (Th.mk W N S) bs p = (numAt bs p 8 == N) := by unfold sameT; rw [if_neg (by rw [hw]; omega), hw]; congr 1; show N % 18446744073709551616 = N; omega
    have e3 : toT (Th.mk W N S) bs p = p + 8 := by unfold toT; rw [if_neg (by rw [hw]; omega), hw]; rfl
    have E1 := Lib.hid e1
    have E2 := Lib.hid e2
    have E3 := Lib.hid e3
    have H := Lib.hid h
    clear h hw e1 e2 e3
    have g1 : (W == 1) = false := by simp [H.out]
    have g2 : (W == 2) = false := by simp [H.out]
    have g4 : (W == 4) = false := by simp [H.out]
    have g8 : (W == 8) = true := by simp [H.out]
    go_enter Try.func25, Try.ntmps25
    go_wp2_with fail
    refine (u64_num bs A L c p _ HL.out HO.out HR.out hc HCM.out (by omega) (by omega) (by omega)).mono ?_
    rintro e w1 ⟨rfl, rfl⟩
    go_wp2_with fail
    go_quiet (fail)
    go_wp2
    go_ret3
    exact ⟨ret_stands E1.out.symm E2.out.symm E3.out.symm, below_drewN HLOW.out _⟩
  · simp only at h1 h2 h4 h8
    have e1 : okT (Th.mk W N S) bs p = textThere bs p := by unfold okT; rw [if_pos hw]
    have e2 : sameT (Th.mk W N S) bs p = ((textAt bs p).toList == S.toList) := by unfold sameT; rw [if_pos hw]
    have e3 : toT (Th.mk W N S) bs p = textEnd bs p := by unfold toT; rw [if_pos hw]
    have E1 := Lib.hid e1
    have E2 := Lib.hid e2
    have E3 := Lib.hid e3
    have g1 : (W == 1) = false := by simp [h1]
    have g2 : (W == 2) = false := by simp [h2]
    have g4 : (W == 4) = false := by simp [h4]
    have g8 : (W == 8) = false := by simp [h8]
    clear h1 h2 h4 h8 hw e1 e2 e3
    go_enter Try.func25, Try.ntmps25
    go_wp2_with fail
    refine (text_any bs A L c p _ HL.out HO.out HR.out hc HCM.out (by omega) (by omega) (by omega)).mono ?_
    rintro e w1 ⟨rfl, rfl⟩
    go_wp2_with fail
    go_quiet (fail)
    go_wp2
    go_ret3
    exact ⟨ret_stands E1.out.symm E2.out.symm E3.out.symm, below_drewN HLOW.out _⟩
end Go.Proofs.Ytbmhfefbfocelaa
