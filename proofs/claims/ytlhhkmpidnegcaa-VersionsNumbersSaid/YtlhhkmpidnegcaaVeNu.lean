/- The closure 'number' of GetEntry: the walk. Condition: none. -/
import Derived.Test.YtlhhkmpidnegcaaVeRe
namespace Go.Proofs.Ytlhhkmpidnegcaa
open Go.RowKit Go.WideShapes
set_option linter.unusedVariables false
set_option linter.unusedSimpArgs false
theorem or_i64 (v x : Int) (v0 : 0 ≤ v) (v1 : v ≤ 1099511627775) (x0 : 0 ≤ x) (x1 : x ≤ 255) : bits .or .i64 (v * 256) x = v * 256 + x :=
  bits_join .i64 62 (by decide) (fun n h0 h1 => by rw [IntKind.wrap_i64]; omega) 8 (v * 256) x (by omega) (by omega) (by omega) x0 (by omega) (by omega)
structure NumE (g n : Nat) (l : List Int) (bad : Bool) (w0 : World) (e : Ending) (w : World) : Prop where
  ret : e = .returned (.int .i64 (valI (takeV n l)))
  st : Rdr g (takeL n l) (takeB n l bad) w
  frm : Frm (fun k => k = g) w0 w
theorem takeV_oct {l : List Int} (h : Oct l) (n : Nat) : Oct (takeV n l) := by
  unfold takeV
  split
  · intro x hx
    rw [List.mem_replicate] at hx
    omega
  · exact h.take n
theorem takeV_length {n : Nat} (hn : n ≤ 4) (l : List Int) : (takeV n l).length = n := by
  unfold takeV
  split
  · rw [List.length_replicate]; omega
  · rw [List.length_take]; omega
theorem valI_snoc (l : List Int) (x : Int) : valI (l ++ [x]) = valI l * 256 + x := by simp [valI]
theorem valI_bd : ∀ (j : Nat) (l : List Int), Oct l → l.length ≤ j → j ≤ 4 → 0 ≤ valI l ∧ valI l < 256 ^ l.length := by
  intro j l ho hl hj
  match l, ho, hl with
  | [], _, _ => simp [valI]
  | [a], ho, _ => have := ho a (by simp); simp [valI]; omega
  | [a, b], ho, _ => have := ho a (by simp); have := ho b (by simp); simp [valI]; omega
  | [a, b, c], ho, _ => have := ho a (by simp); have := ho b (by simp); have := ho c (by simp); simp [valI]; omega
  | [a, b, c, d], ho, _ => have := ho a (by simp); have := ho b (by simp); have := ho c (by simp); have := ho d (by simp); simp [valI]; omega
  | a :: b :: c :: d :: e :: r, _, hl => simp at hl; omega
set_option maxRecDepth 100000 in
set_option maxHeartbeats 4000000 in
theorem number64 {g tb : Nat} {l : List Int} {bad : Bool} (n : Nat) (hn : n ≤ 4) (w : World) (h : Rdr g l bad w) (ht : w.cell? ⟨tb, 0, none⟩ = some (.pointer (some ⟨g, 0, none⟩))) : Calls Try.prog 64 #[.int .i64 (n : Int), .pointer (some ⟨tb, 0, none⟩)] w (NumE g n l bad w) := by
  have htk := take65 n w h (by omega)
  have hvo := takeV_oct h.oct n
  have hvl := takeV_length hn l
  have HTK := Lib.hid htk
  have HVO := Lib.hid hvo
  have HVL := Lib.hid hvl
  clear htk hvo hvl h
  go_enter Try.func64, Try.ntmps64
  go_wp2_with fail
  refine (HTK.out).mono ?_
  rintro e w1 ⟨⟨A, c, rfl, hc, hcm, hrd⟩, hst, hfr⟩
  have HRD := Lib.hid hrd
  have HST := Lib.hid hst
  have HFR := Lib.hid hfr
  have HEQ := Lib.hid (rfl : takeV n l = takeV n l)
  obtain ⟨xs, hxs⟩ : ∃ xs, takeV n l = xs := ⟨_, rfl⟩
  rw [hxs] at HVO HVL HRD hc ⊢
  have HXS := Lib.hid hxs
  rw [HVL.out] at hc ⊢
  clear hrd hst hfr hxs HEQ
  go_wp2_with fail
  go_loop [4, 11] (fun v i => ∃ j : Nat, j ≤ n ∧ i = .int .i64 j ∧ v = .int .i64 (valI (xs.take j))) (fun _ i => n - (intOf i).toNat)
  case atStart => exact ⟨0, by omega, rfl, rfl⟩
  case round =>
    obtain ⟨j, hj, rfl, rfl⟩ := hrel
    by_cases hlt : j < n
    · obtain ⟨x, hx⟩ : ∃ x, xs[j]? = some x := ⟨_, List.getElem?_eq_getElem (by rw [HVL.out]; exact hlt)⟩
      obtain ⟨b1, o1, rfl, _, hc1⟩ := (HRD.out).at (k := j) (u := .int .u8 x) (by rw [octs, List.getElem?_map, hx]; rfl)
      have hxo := HVO.out x (List.mem_of_getElem? hx)
      have hbd := valI_bd 3 (xs.take j) (HVO.out.take j) (by rw [List.length_take]; omega) (by omega)
      have hpw : (256 : Int) ^ (xs.take j).length ≤ 16777216 := by
        have hl3 : (xs.take j).length = j := by rw [List.length_take, HVL.out]; omega
        rw [hl3]
        rcases (show j = 0 ∨ j = 1 ∨ j = 2 ∨ j = 3 by omega) with rfl | rfl | rfl | rfl <;> decide
      have HSN := Lib.hid (show valI (xs.take (j + 1)) = valI (xs.take j) * 256 + x by rw [List.take_add_one, hx]; exact valI_snoc _ x)
      obtain ⟨v0, v1⟩ := hbd
      obtain ⟨v, hv⟩ : ∃ v, valI (xs.take j) = v := ⟨_, rfl⟩
      rw [hv] at v0 v1 HSN ⊢
      have hv2 : v ≤ 16777215 := by omega
      have hor := or_i64 v x v0 (by omega) hxo.1 hxo.2
      obtain ⟨x0, x1⟩ := hxo
      have hjn : (j : Int) < n := by omega
      clear hx hv v1 hpw
      go_wp2
      go_round
      case rel => exact ⟨j + 1, by omega, by go_num, by rw [HSN.out]⟩
      case measure => simp [intOf]; omega
    · have hjn : j = n := by omega
      go_wp2
      go_ret
      refine ⟨ret_i64 ?_, HST.out, HFR.out⟩
      rw [HXS.out, List.take_of_length_le (by rw [HVL.out]; omega)]
end Go.Proofs.Ytlhhkmpidnegcaa
