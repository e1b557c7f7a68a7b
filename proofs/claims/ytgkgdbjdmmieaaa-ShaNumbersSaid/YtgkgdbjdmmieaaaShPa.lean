/- The reference's Padded and Word. -/
import Derived.Test.YtgkgdbjdmmieaaaShSu
namespace Go.Proofs.Ytgkgdbjdmmieaaa
open Go.RowKit Go.WideShapes
set_option linter.unusedVariables false
set_option linter.unusedSimpArgs false
structure IsRow (bs : List Int) (w0 : World) (e : Ending) (w : World) : Prop where
  ex : ∃ A c, e = .returned (.slice A bs.length c) ∧ w.ownsRow w0.heap.size 5 1 (.slice A bs.length c) bs.length (octs bs)
  low : Below w0.heap.size w0 w
set_option maxHeartbeats 4000000 in
theorem padded_any (xs : List Int) (A : Option Addr) (m c : Nat) (w : World) (hm : m = xs.length) (hr : Rd w A (octs xs)) (hlen : m ≤ 100000) :
    Calls Try.prog 22 #[.slice A m c] w (IsRow (xs ++ padI m) w) := by
  obtain ⟨B, hB⟩ : ∃ B, w.heap.size = B := ⟨_, rfl⟩
  obtain ⟨Z, hZ⟩ : ∃ Z, padZ m = Z := ⟨_, rfl⟩
  have hZ1 : (m + 1 + Z) % 64 = 56 ∧ Z ≤ 63 ∧ ∀ z, z < Z → (m + 1 + z) % 64 ≠ 56 := by
    rw [← hZ]
    unfold padZ
    refine ⟨by omega, by omega, fun z hz => by omega⟩
  have HZ1 := Lib.hid hZ1
  have HZ := Lib.hid hZ
  have HR := Lib.hid hr
  have HB := Lib.hid hB
  have HM := Lib.hid hm
  clear hZ1 hZ hr hB hm
  go_enter Try.func22, Try.ntmps22
  go_wp2_with (first
    | (at_builtin; refine wpList_app tBytes rfl (.tmp 6) (.tmp 7) rfl B (.slice none 0 0) 0 [] rfl ⟨rfl, .inl ⟨rfl, rfl⟩⟩ A m c (octs xs) rfl (by rw [octs_length]; exact HM.out) HR.out octs_one (by omega) (by unfold maxLen; omega) (by rw [HB.out]; omega) ?_; intro v3 w3 o3 hg3 hb3; rw [Nat.zero_add, List.nil_append] at o3; obtain ⟨A3, cc3, hv3, hc3⟩ := own_slice o3; subst hv3; have HO3 := Lib.hid o3; have HB3 := Lib.hid hb3; clear o3 hg3 hb3)
    | (at_builtin; refine wpList_app1 tBytes rfl (.tmp 9) (.tmp 10) rfl B (.slice A3 m cc3) m (octs xs) rfl HO3.out (.int .u8 128) rfl _ rfl (by first | rfl | simp) (by omega) (by unfold maxLen; omega) (by have := HB.out; have := HB3.out.size; omega) ?_; intro v4 w4 o4 hg4 hb4; rw [octs_snoc] at o4; obtain ⟨A4, cc4, hv4, hc4⟩ := own_slice o4; subst hv4; have HO4 := Lib.hid o4; have HB4 := Lib.hid hb4; clear o4 hg4 hb4))
  have hb4 : Below B w w4 := HB3.out.trans HB4.out
  have HB4' := Lib.hid hb4
  clear hb4 HB3 HB4 HR
  go_loopg [3] Z (fun k v wr => ∃ z, k + z = Z ∧ wr.ownsRow B 5 1 v (m + 1 + z) (octs (xs ++ 128 :: List.replicate z 0)) ∧ Below B w wr)
  case atStart => exact ⟨0, by omega, HO4.out, HB4'.out⟩
  case round =>
    obtain ⟨z, hz, hown, hb⟩ := hrel
    have hz1 := HZ1.out
    obtain ⟨L, hL⟩ : ∃ L, m + 1 + z = L := ⟨_, rfl⟩
    have hL2 : L + 1 = m + 1 + (z + 1) := by omega
    have hL3 : L ≤ 100100 := by omega
    rw [hL] at hown
    obtain ⟨A5, c5, rfl, hc5⟩ := own_slice hown
    by_cases hgk : gk = 0
    · obtain rfl : z = Z := by omega
      have h56 : (L : Int) % 64 = 56 := by have := hz1.1; omega
      have hP : (xs ++ 128 :: List.replicate z 0) ++ lenB (bitsI m) 8 = xs ++ padI m := by unfold padI; rw [HZ.out]; simp
      have hLP : L + 8 = (xs ++ padI m).length := by rw [List.length_append, padI_length, HZ.out, ← HM.out]; omega
      obtain ⟨Q, hQ⟩ : ∃ Q, xs ++ 128 :: List.replicate z 0 = Q := ⟨_, rfl⟩
      rw [hQ] at hown hP
      have hbi : bitsI m = (m : Int) * 8 := by unfold bitsI; omega
      have HOW := Lib.hid hown
      have HB5 := Lib.hid hb
      have HPP := Lib.hid hP
      have HLP := Lib.hid hLP
      have HBI := Lib.hid hbi
      clear hown hb hP hbi hQ hz1 hz HZ1 HZ hL2 hL hgk hLP
      go_wp2_with fail
      clear h56
      go_loopw [3, 5] (fun v i wr => ∃ k : Nat, k ≤ 8 ∧ i = .int .i64 (7 - (k : Int)) ∧ wr.ownsRow B 5 1 v (L + k) (octs (Q ++ lenB (bitsI m) k)) ∧ Below B w wr) (fun _ i _ => (intOf i + 1).toNat)
      case atStart => exact ⟨0, by omega, rfl, by simpa [lenB] using HOW.out, HB5.out⟩
      case round =>
        obtain ⟨k, hk, rfl, hown, hb⟩ := hrel
        obtain ⟨A6, c6, rfl, hc6⟩ := own_slice hown
        by_cases hk8 : k < 8
        · have hoc : octs (Q ++ lenB (bitsI m) k) ++ [.int .u8 ((m : Int) * 8 / 2 ^ (56 - 8 * k) % 256)] = octs (Q ++ lenB (bitsI m) (k + 1)) := by
            rw [octs_snoc, List.append_assoc]
            simp only [lenB]
            rw [HBI.out]
          obtain ⟨j, hj⟩ : ∃ j : Nat, (7 : Int) - (k : Int) = (j : Int) := ⟨7 - k, by omega⟩
          have hj8 : 56 - 8 * k = 8 * j := by omega
          rw [hj8] at hoc
          rw [hj]
          have hj7 : j ≤ 7 := by omega
          have HOC := Lib.hid hoc
          have HO6 := Lib.hid hown
          have HB6 := Lib.hid hb
          obtain ⟨L2, hL2⟩ : ∃ L2, L + k = L2 := ⟨_, rfl⟩
          rw [hL2] at HO6 hc6 ⊢
          have HL2 := Lib.hid hL2
          have HJ := Lib.hid hj
          have hL2b : L2 ≤ 100200 := by omega
          clear hoc hown hb hL2 hj8 hj
          go_wp2_with (at_builtin; refine wpList_app1 tBytes rfl (.tmp 27) (.tmp 34) rfl B (.slice A6 L2 c6) L2 _ rfl HO6.out (.int .u8 ((m : Int) * 8 / 2 ^ (8 * j) % 256)) rfl _ rfl (by first | rfl | simp) (by omega) (by unfold maxLen; omega) (by have h := HB6.out.size; have h2 := HB.out; omega) ?_; intro v6 w6 o6 hg6 hb6)
          go_roundw
          case rel => exact ⟨k + 1, by omega, by have := HJ.out; congr 1; omega, by rw [HOC.out, ← HL2.out] at o6; exact o6, HB6.out.trans hb6⟩
          case measure => simp [intOf]
        · have hk8' : k = 8 := by omega
          subst hk8'
          rw [HPP.out, HLP.out] at hown
          rw [HLP.out]
          generalize xs ++ padI m = fin at *
          have HOF := Lib.hid hown
          have HBF := Lib.hid hb
          clear hown hb
          go_wp2_with fail
          go_ret
          exact ⟨⟨A6, c6, rfl, by rw [HB.out]; exact HOF.out⟩, by rw [HB.out]; exact HBF.out⟩
    · have hne : ¬ (L : Int) % 64 = 56 := by have := hz1.2.2 z (by omega); omega
      have hoc : octs (xs ++ 128 :: List.replicate z 0) ++ [.int .u8 0] = octs (xs ++ 128 :: List.replicate (z + 1) 0) := by
        rw [octs_snoc, List.replicate_succ', List.append_assoc, List.cons_append]
      have HOC := Lib.hid hoc
      have HOW := Lib.hid hown
      have HB5 := Lib.hid hb
      have HLL := Lib.hid hL2
      have HHZ := Lib.hid hz
      clear hoc hown hb hL2 hz hz1 hL
      go_wp2_with (at_builtin; refine wpList_app1 tBytes rfl (.tmp 16) (.tmp 17) rfl B (.slice A5 L c5) L _ rfl HOW.out (.int .u8 0) rfl _ rfl (by first | rfl | simp) (by omega) (by unfold maxLen; omega) (by have h := HB5.out.size; have h2 := HB.out; omega) ?_; intro v6 w6 o6 hg6 hb6)
      go_roundg (gk - 1)
      case measure => omega
      case rel => exact ⟨z + 1, by have := HHZ.out; omega, by rw [HOC.out, HLL.out] at o6; exact o6, HB5.out.trans hb6⟩
def accI (p : List Int) (a : Nat) : Nat → Int
  | 0 => 0
  | k + 1 => accI p a k * 256 + p.getD (a + k) 0
theorem accI_bd {p : List Int} (h : Oct p) (a : Nat) : ∀ k, 0 ≤ accI p a k ∧ accI p a k < 256 ^ k
  | 0 => by simp [accI]
  | k + 1 => by
    have := accI_bd h a k
    have := h.getD (a + k)
    simp only [accI]
    have e : (256 : Int) ^ (k + 1) = 256 ^ k * 256 := Int.pow_succ _ _
    rw [e]
    generalize (256 : Int) ^ k = q at *
    omega
theorem wordRef_any (p : List Int) (a : Nat) (A : Option Addr) (n c : Nat) (w : World) (hn : n = p.length) (ha : a + 4 ≤ n) (hn2 : n ≤ 200000) (ho : Oct p) (hr : Rd w A (octs p)) :
    Calls Try.prog 23 #[.slice A n c, .int .i64 (a : Int)] w fun e w' => e = .returned (.int .u32 (beW (p.getD a 0) (p.getD (a + 1) 0) (p.getD (a + 2) 0) (p.getD (a + 3) 0))) ∧ w = w' := by
  have hfin : accI p a 4 = beW (p.getD a 0) (p.getD (a + 1) 0) (p.getD (a + 2) 0) (p.getD (a + 3) 0) := by simp [accI, beW]
  rw [← hfin]
  obtain ⟨b, off, rfl, hlt, hcell⟩ := hr (by rw [octs_length]; omega)
  have hat : ∀ k, k < 4 → w.cell? ⟨b, off + (a + k), none⟩ = some (.int .u8 (p.getD (a + k) 0)) := fun k hk => hcell _ _ (octs_at (by omega))
  have HAT := Lib.hid hat
  have HO := Lib.hid ho
  clear hr hcell hat ho hfin hn
  go_enter Try.func23, Try.ntmps23
  go_wp2_with fail
  go_loopw [5, 6] (fun v i wr => ∃ k : Nat, k ≤ 4 ∧ i = .int .i64 (k : Int) ∧ v = .int .u32 (accI p a k) ∧ wr = w) (fun _ i _ => 4 - (intOf i).toNat)
  case atStart => exact ⟨0, by omega, rfl, rfl, rfl⟩
  case round =>
    obtain ⟨k, hk, rfl, rfl, hw⟩ := hrel
    by_cases hk4 : k < 4
    · have c0 := HAT.out k hk4
      have b0 := HO.out.getD (a + k)
      have b1 := accI_bd HO.out a k
      have b2 : accI p a k ≤ 16777215 := by
        have : k = 0 ∨ k = 1 ∨ k = 2 ∨ k = 3 := by omega
        rcases this with rfl | rfl | rfl | rfl <;> omega
      have hst : accI p a (k + 1) = accI p a k * 256 + p.getD (a + k) 0 := rfl
      generalize p.getD (a + k) 0 = x at *
      obtain ⟨y, hy⟩ : ∃ y, accI p a k = y := ⟨_, rfl⟩
      rw [hy] at hst b1 b2 ⊢
      have b3 := b1.1
      have HST := Lib.hid hst
      have HW := Lib.hid hw
      have ht : ((a : Int) + (k : Int)).toNat = a + k := by omega
      clear hst hy b1 hw
      subst_vars
      go_wp2_with fail
      go_roundw
      case rel => exact ⟨k + 1, by omega, by go_num, by rw [HST.out], by first | rfl | trivial⟩
      case measure => simp [intOf]; omega
    · obtain rfl : k = 4 := by omega
      obtain ⟨y, hy⟩ : ∃ y, accI p a 4 = y := ⟨_, rfl⟩
      rw [hy]
      go_wp2_with fail
      go_ret
      exact ⟨ret_u32 hy.symm, by first | rfl | exact hw.symm⟩
end Go.Proofs.Ytgkgdbjdmmieaaa
