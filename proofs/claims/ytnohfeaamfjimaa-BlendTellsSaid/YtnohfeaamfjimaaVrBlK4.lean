/- blend: a match leans: walk. · blend: a match at the end of a byte: walk. · blend: a match is looked for: walk. -/
import Derived.Test.YtnohfeaamfjimaaVrBlK7
import Derived.StillTailTactics
import Derived.IntWalk
namespace Go.Proofs.Ytnohfeaamfjimaa
open Go.RowKit Go.WideShapes
set_option linter.unusedVariables false
set_option linter.unusedSimpArgs false
theorem or256 : ∀ y : Fin 256, bits .or .i64 (y.val : Int) 256 = (y.val : Int) + 256 := by decide +kernel
theorem and1 : ∀ y : Fin 256, bits .and .i64 (y.val : Int) 1 = (y.val : Int) % 2 := by decide +kernel
theorem and1' {x : Int} (h0 : 0 ≤ x) (h1 : x < 256) : bits .and .i64 x 1 = x % 2 := by
  have := and1 ⟨x.toNat, by omega⟩
  rwa [show (((⟨x.toNat, by omega⟩ : Fin 256).val : Nat) : Int) = x from Int.toNat_of_nonneg h0] at this
def maL (len y c : Int) (b : Nat) : Int :=
  if len = 0 then 0 else if (y + 256) / 2 ^ (8 - b) ≠ c then 0 else if y / 2 ^ (7 - b) % 2 = 0 then -(min len 15 * 64) else min len 15 * 64
theorem maL_bd {len y c : Int} {b : Nat} (h : 0 ≤ len) : -2047 ≤ maL len y c b ∧ maL len y c b ≤ 2047 := by
  unfold maL
  (repeat' split) <;> omega
set_option maxRecDepth 100000 in
set_option maxHeartbeats 4000000 in
theorem lean105 (g B gs n cp : Nat) (c : Int) (ptr len y b : Nat) (w : World) (hptr : ptr < n) (hn2 : n ≤ 3000000) (hlen : len ≤ 32) (hy : y < 256) (hb : b < 8) (k8 : w.cell? ⟨g, 8, none⟩ = some (.slice (some ⟨gs, 0, none⟩) n cp)) (k10 : w.cell? ⟨g, 10, none⟩ = some (.int .i64 (ptr : Int))) (k11 : w.cell? ⟨g, 11, none⟩ = some (.int .i64 (len : Int))) (s0 : w.cell? ⟨gs, ptr, none⟩ = some (.int .u8 (y : Int))) (b1 : w.cell? ⟨B, 1, none⟩ = some (.int .i64 c)) (b2 : w.cell? ⟨B, 2, none⟩ = some (.int .i64 (b : Int))) :
    Calls Try.prog 105 #[.pointer (some ⟨g, 0, none⟩), .pointer (some ⟨B, 1, none⟩)] w (Quiet (.int .i64 (maL len y c b)) w) := by
  have ho := or256 ⟨y, hy⟩
  simp only at ho
  by_cases h0 : len = 0
  · subst h0
    go_enter Try.func105, Try.ntmps105
    go_wp2
    go_ret
    exact ⟨by unfold maL; rfl, Below.refl _ _⟩
  · have hl0 : ¬ (len : Int) = 0 := by omega
    have hv : maL len y c b = if ((y : Int) + 256) / 2 ^ (8 - b) ≠ c then 0 else if (y : Int) / 2 ^ (7 - b) % 2 = 0 then -(min (len : Int) 15 * 64) else min (len : Int) 15 * 64 := if_neg hl0
    obtain ⟨R, hR⟩ : ∃ R, maL (len : Int) (y : Int) c b = R := ⟨_, rfl⟩
    rw [hR] at hv ⊢
    clear hR
    have hlt : (len : Int) ≤ 32 := by omega
    have hy1 : (y : Int) < 256 := by omega
    have hb8 : b = 0 ∨ b = 1 ∨ b = 2 ∨ b = 3 ∨ b = 4 ∨ b = 5 ∨ b = 6 ∨ b = 7 := by omega
    have hld : min (len : Int) 15 ≤ 15 ∧ 0 ≤ min (len : Int) 15 := by omega
    rcases hb8 with rfl | rfl | rfl | rfl | rfl | rfl | rfl | rfl
    · have hv : R = if ((y : Int) + 256) / 256 ≠ c then 0 else if (y : Int) / 128 % 2 = 0 then -(min (len : Int) 15 * 64) else min (len : Int) 15 * 64 := by
        rw [hv]
        rfl
      replace b2 : w.cell? ⟨B, 2, none⟩ = some (.int .i64 0) := b2
      have ha := and1' (x := (y : Int) / 128) (by omega) (by omega)
      obtain ⟨e, he⟩ : ∃ e, ((y : Int) + 256) / 256 = e := ⟨_, rfl⟩
      obtain ⟨d, hd⟩ : ∃ d, (y : Int) / 128 = d := ⟨_, rfl⟩
      rw [he, hd] at hv
      rw [hd] at ha
      have H4 := Lib.hid he
      have H7 := Lib.hid hd
      have HO := Lib.hid ho
      clear he hd ho
      by_cases hq : e = c
      · subst hq
        rw [if_neg (by simp)] at hv
        by_cases hp : d % 2 = 0
        · rw [if_pos hp] at hv
          rw [hv]
          rw [show d % 2 = 0 by omega] at ha
          have HA := Lib.hid ha
          clear hv hp ha
          have h4 := H4.out
          have ho := HO.out
          go_enter Try.func105, Try.ntmps105
          go_upto_region 3 with fail
          go_quiet (fail)
          go_upto_region 4 with fail
          go_quiet (fail)
          clear h4 ho
          go_upto_region 7 with fail
          have h7 := H7.out
          have ha := HA.out
          go_wp2
          all_goals
            go_ret
            refine ⟨ret_i64 ?_, ?_⟩
            · clear h7 ha
              omega
            · exact below_drewN (Below.refl _ _) _
        · rw [if_neg hp] at hv
          rw [hv]
          rw [show d % 2 = 1 by omega] at ha
          have HA := Lib.hid ha
          clear hv hp ha
          have h4 := H4.out
          have ho := HO.out
          go_enter Try.func105, Try.ntmps105
          go_upto_region 3 with fail
          go_quiet (fail)
          go_upto_region 4 with fail
          go_quiet (fail)
          clear h4 ho
          go_upto_region 7 with fail
          have h7 := H7.out
          have ha := HA.out
          go_wp2
          all_goals
            go_ret
            refine ⟨ret_i64 ?_, ?_⟩
            · clear h7 ha
              omega
            · exact below_drewN (Below.refl _ _) _
      · rw [if_pos hq] at hv
        rw [hv]
        clear hv ha
        have h4 := H4.out
        have ho := HO.out
        go_enter Try.func105, Try.ntmps105
        go_upto_region 3 with fail
        go_quiet (fail)
        go_upto_region 4 with fail
        go_quiet (fail)
        clear h4 ho
        go_wp2
        go_ret
        exact ⟨rfl, below_drewN (below_drewN (Below.refl _ _) _) _⟩
    · have hv : R = if ((y : Int) + 256) / 128 ≠ c then 0 else if (y : Int) / 64 % 2 = 0 then -(min (len : Int) 15 * 64) else min (len : Int) 15 * 64 := by
        rw [hv]
        rfl
      replace b2 : w.cell? ⟨B, 2, none⟩ = some (.int .i64 1) := b2
      have ha := and1' (x := (y : Int) / 64) (by omega) (by omega)
      obtain ⟨e, he⟩ : ∃ e, ((y : Int) + 256) / 128 = e := ⟨_, rfl⟩
      obtain ⟨d, hd⟩ : ∃ d, (y : Int) / 64 = d := ⟨_, rfl⟩
      rw [he, hd] at hv
      rw [hd] at ha
      have H4 := Lib.hid he
      have H7 := Lib.hid hd
      have HO := Lib.hid ho
      clear he hd ho
      by_cases hq : e = c
      · subst hq
        rw [if_neg (by simp)] at hv
        by_cases hp : d % 2 = 0
        · rw [if_pos hp] at hv
          rw [hv]
          rw [show d % 2 = 0 by omega] at ha
          have HA := Lib.hid ha
          clear hv hp ha
          have h4 := H4.out
          have ho := HO.out
          go_enter Try.func105, Try.ntmps105
          go_upto_region 3 with fail
          go_quiet (fail)
          go_upto_region 4 with fail
          go_quiet (fail)
          clear h4 ho
          go_upto_region 7 with fail
          have h7 := H7.out
          have ha := HA.out
          go_wp2
          all_goals
            go_ret
            refine ⟨ret_i64 ?_, ?_⟩
            · clear h7 ha
              omega
            · exact below_drewN (Below.refl _ _) _
        · rw [if_neg hp] at hv
          rw [hv]
          rw [show d % 2 = 1 by omega] at ha
          have HA := Lib.hid ha
          clear hv hp ha
          have h4 := H4.out
          have ho := HO.out
          go_enter Try.func105, Try.ntmps105
          go_upto_region 3 with fail
          go_quiet (fail)
          go_upto_region 4 with fail
          go_quiet (fail)
          clear h4 ho
          go_upto_region 7 with fail
          have h7 := H7.out
          have ha := HA.out
          go_wp2
          all_goals
            go_ret
            refine ⟨ret_i64 ?_, ?_⟩
            · clear h7 ha
              omega
            · exact below_drewN (Below.refl _ _) _
      · rw [if_pos hq] at hv
        rw [hv]
        clear hv ha
        have h4 := H4.out
        have ho := HO.out
        go_enter Try.func105, Try.ntmps105
        go_upto_region 3 with fail
        go_quiet (fail)
        go_upto_region 4 with fail
        go_quiet (fail)
        clear h4 ho
        go_wp2
        go_ret
        exact ⟨rfl, below_drewN (below_drewN (Below.refl _ _) _) _⟩
    · have hv : R = if ((y : Int) + 256) / 64 ≠ c then 0 else if (y : Int) / 32 % 2 = 0 then -(min (len : Int) 15 * 64) else min (len : Int) 15 * 64 := by
        rw [hv]
        rfl
      replace b2 : w.cell? ⟨B, 2, none⟩ = some (.int .i64 2) := b2
      have ha := and1' (x := (y : Int) / 32) (by omega) (by omega)
      obtain ⟨e, he⟩ : ∃ e, ((y : Int) + 256) / 64 = e := ⟨_, rfl⟩
      obtain ⟨d, hd⟩ : ∃ d, (y : Int) / 32 = d := ⟨_, rfl⟩
      rw [he, hd] at hv
      rw [hd] at ha
      have H4 := Lib.hid he
      have H7 := Lib.hid hd
      have HO := Lib.hid ho
      clear he hd ho
      by_cases hq : e = c
      · subst hq
        rw [if_neg (by simp)] at hv
        by_cases hp : d % 2 = 0
        · rw [if_pos hp] at hv
          rw [hv]
          rw [show d % 2 = 0 by omega] at ha
          have HA := Lib.hid ha
          clear hv hp ha
          have h4 := H4.out
          have ho := HO.out
          go_enter Try.func105, Try.ntmps105
          go_upto_region 3 with fail
          go_quiet (fail)
          go_upto_region 4 with fail
          go_quiet (fail)
          clear h4 ho
          go_upto_region 7 with fail
          have h7 := H7.out
          have ha := HA.out
          go_wp2
          all_goals
            go_ret
            refine ⟨ret_i64 ?_, ?_⟩
            · clear h7 ha
              omega
            · exact below_drewN (Below.refl _ _) _
        · rw [if_neg hp] at hv
          rw [hv]
          rw [show d % 2 = 1 by omega] at ha
          have HA := Lib.hid ha
          clear hv hp ha
          have h4 := H4.out
          have ho := HO.out
          go_enter Try.func105, Try.ntmps105
          go_upto_region 3 with fail
          go_quiet (fail)
          go_upto_region 4 with fail
          go_quiet (fail)
          clear h4 ho
          go_upto_region 7 with fail
          have h7 := H7.out
          have ha := HA.out
          go_wp2
          all_goals
            go_ret
            refine ⟨ret_i64 ?_, ?_⟩
            · clear h7 ha
              omega
            · exact below_drewN (Below.refl _ _) _
      · rw [if_pos hq] at hv
        rw [hv]
        clear hv ha
        have h4 := H4.out
        have ho := HO.out
        go_enter Try.func105, Try.ntmps105
        go_upto_region 3 with fail
        go_quiet (fail)
        go_upto_region 4 with fail
        go_quiet (fail)
        clear h4 ho
        go_wp2
        go_ret
        exact ⟨rfl, below_drewN (below_drewN (Below.refl _ _) _) _⟩
    · have hv : R = if ((y : Int) + 256) / 32 ≠ c then 0 else if (y : Int) / 16 % 2 = 0 then -(min (len : Int) 15 * 64) else min (len : Int) 15 * 64 := by
        rw [hv]
        rfl
      replace b2 : w.cell? ⟨B, 2, none⟩ = some (.int .i64 3) := b2
      have ha := and1' (x := (y : Int) / 16) (by omega) (by omega)
      obtain ⟨e, he⟩ : ∃ e, ((y : Int) + 256) / 32 = e := ⟨_, rfl⟩
      obtain ⟨d, hd⟩ : ∃ d, (y : Int) / 16 = d := ⟨_, rfl⟩
      rw [he, hd] at hv
      rw [hd] at ha
      have H4 := Lib.hid he
      have H7 := Lib.hid hd
      have HO := Lib.hid ho
      clear he hd ho
      by_cases hq : e = c
      · subst hq
        rw [if_neg (by simp)] at hv
        by_cases hp : d % 2 = 0
        · rw [if_pos hp] at hv
          rw [hv]
          rw [show d % 2 = 0 by omega] at ha
          have HA := Lib.hid ha
          clear hv hp ha
          have h4 := H4.out
          have ho := HO.out
          go_enter Try.func105, Try.ntmps105
          go_upto_region 3 with fail
          go_quiet (fail)
          go_upto_region 4 with fail
          go_quiet (fail)
          clear h4 ho
          go_upto_region 7 with fail
          have h7 := H7.out
          have ha := HA.out
          go_wp2
          all_goals
            go_ret
            refine ⟨ret_i64 ?_, ?_⟩
            · clear h7 ha
              omega
            · exact below_drewN (Below.refl _ _) _
        · rw [if_neg hp] at hv
          rw [hv]
          rw [show d % 2 = 1 by omega] at ha
          have HA := Lib.hid ha
          clear hv hp ha
          have h4 := H4.out
          have ho := HO.out
          go_enter Try.func105, Try.ntmps105
          go_upto_region 3 with fail
          go_quiet (fail)
          go_upto_region 4 with fail
          go_quiet (fail)
          clear h4 ho
          go_upto_region 7 with fail
          have h7 := H7.out
          have ha := HA.out
          go_wp2
          all_goals
            go_ret
            refine ⟨ret_i64 ?_, ?_⟩
            · clear h7 ha
              omega
            · exact below_drewN (Below.refl _ _) _
      · rw [if_pos hq] at hv
        rw [hv]
        clear hv ha
        have h4 := H4.out
        have ho := HO.out
        go_enter Try.func105, Try.ntmps105
        go_upto_region 3 with fail
        go_quiet (fail)
        go_upto_region 4 with fail
        go_quiet (fail)
        clear h4 ho
        go_wp2
        go_ret
        exact ⟨rfl, below_drewN (below_drewN (Below.refl _ _) _) _⟩
    · have hv : R = if ((y : Int) + 256) / 16 ≠ c then 0 else if (y : Int) / 8 % 2 = 0 then -(min (len : Int) 15 * 64) else min (len : Int) 15 * 64 := by
        rw [hv]
        rfl
      replace b2 : w.cell? ⟨B, 2, none⟩ = some (.int .i64 4) := b2
      have ha := and1' (x := (y : Int) / 8) (by omega) (by omega)
      obtain ⟨e, he⟩ : ∃ e, ((y : Int) + 256) / 16 = e := ⟨_, rfl⟩
      obtain ⟨d, hd⟩ : ∃ d, (y : Int) / 8 = d := ⟨_, rfl⟩
      rw [he, hd] at hv
      rw [hd] at ha
      have H4 := Lib.hid he
      have H7 := Lib.hid hd
      have HO := Lib.hid ho
      clear he hd ho
      by_cases hq : e = c
      · subst hq
        rw [if_neg (by simp)] at hv
        by_cases hp : d % 2 = 0
        · rw [if_pos hp] at hv
          rw [hv]
          rw [show d % 2 = 0 by omega] at ha
          have HA := Lib.hid ha
          clear hv hp ha
          have h4 := H4.out
          have ho := HO.out
          go_enter Try.func105, Try.ntmps105
          go_upto_region 3 with fail
          go_quiet (fail)
          go_upto_region 4 with fail
          go_quiet (fail)
          clear h4 ho
          go_upto_region 7 with fail
          have h7 := H7.out
          have ha := HA.out
          go_wp2
          all_goals
            go_ret
            refine ⟨ret_i64 ?_, ?_⟩
            · clear h7 ha
              omega
            · exact below_drewN (Below.refl _ _) _
        · rw [if_neg hp] at hv
          rw [hv]
          rw [show d % 2 = 1 by omega] at ha
          have HA := Lib.hid ha
          clear hv hp ha
          have h4 := H4.out
          have ho := HO.out
          go_enter Try.func105, Try.ntmps105
          go_upto_region 3 with fail
          go_quiet (fail)
          go_upto_region 4 with fail
          go_quiet (fail)
          clear h4 ho
          go_upto_region 7 with fail
          have h7 := H7.out
          have ha := HA.out
          go_wp2
          all_goals
            go_ret
            refine ⟨ret_i64 ?_, ?_⟩
            · clear h7 ha
              omega
            · exact below_drewN (Below.refl _ _) _
      · rw [if_pos hq] at hv
        rw [hv]
        clear hv ha
        have h4 := H4.out
        have ho := HO.out
        go_enter Try.func105, Try.ntmps105
        go_upto_region 3 with fail
        go_quiet (fail)
        go_upto_region 4 with fail
        go_quiet (fail)
        clear h4 ho
        go_wp2
        go_ret
        exact ⟨rfl, below_drewN (below_drewN (Below.refl _ _) _) _⟩
    · have hv : R = if ((y : Int) + 256) / 8 ≠ c then 0 else if (y : Int) / 4 % 2 = 0 then -(min (len : Int) 15 * 64) else min (len : Int) 15 * 64 := by
        rw [hv]
        rfl
      replace b2 : w.cell? ⟨B, 2, none⟩ = some (.int .i64 5) := b2
      have ha := and1' (x := (y : Int) / 4) (by omega) (by omega)
      obtain ⟨e, he⟩ : ∃ e, ((y : Int) + 256) / 8 = e := ⟨_, rfl⟩
      obtain ⟨d, hd⟩ : ∃ d, (y : Int) / 4 = d := ⟨_, rfl⟩
      rw [he, hd] at hv
      rw [hd] at ha
      have H4 := Lib.hid he
      have H7 := Lib.hid hd
      have HO := Lib.hid ho
      clear he hd ho
      by_cases hq : e = c
      · subst hq
        rw [if_neg (by simp)] at hv
        by_cases hp : d % 2 = 0
        · rw [if_pos hp] at hv
          rw [hv]
          rw [show d % 2 = 0 by omega] at ha
          have HA := Lib.hid ha
          clear hv hp ha
          have h4 := H4.out
          have ho := HO.out
          go_enter Try.func105, Try.ntmps105
          go_upto_region 3 with fail
          go_quiet (fail)
          go_upto_region 4 with fail
          go_quiet (fail)
          clear h4 ho
          go_upto_region 7 with fail
          have h7 := H7.out
          have ha := HA.out
          go_wp2
          all_goals
            go_ret
            refine ⟨ret_i64 ?_, ?_⟩
            · clear h7 ha
              omega
            · exact below_drewN (Below.refl _ _) _
        · rw [if_neg hp] at hv
          rw [hv]
          rw [show d % 2 = 1 by omega] at ha
          have HA := Lib.hid ha
          clear hv hp ha
          have h4 := H4.out
          have ho := HO.out
          go_enter Try.func105, Try.ntmps105
          go_upto_region 3 with fail
          go_quiet (fail)
          go_upto_region 4 with fail
          go_quiet (fail)
          clear h4 ho
          go_upto_region 7 with fail
          have h7 := H7.out
          have ha := HA.out
          go_wp2
          all_goals
            go_ret
            refine ⟨ret_i64 ?_, ?_⟩
            · clear h7 ha
              omega
            · exact below_drewN (Below.refl _ _) _
      · rw [if_pos hq] at hv
        rw [hv]
        clear hv ha
        have h4 := H4.out
        have ho := HO.out
        go_enter Try.func105, Try.ntmps105
        go_upto_region 3 with fail
        go_quiet (fail)
        go_upto_region 4 with fail
        go_quiet (fail)
        clear h4 ho
        go_wp2
        go_ret
        exact ⟨rfl, below_drewN (below_drewN (Below.refl _ _) _) _⟩
    · have hv : R = if ((y : Int) + 256) / 4 ≠ c then 0 else if (y : Int) / 2 % 2 = 0 then -(min (len : Int) 15 * 64) else min (len : Int) 15 * 64 := by
        rw [hv]
        rfl
      replace b2 : w.cell? ⟨B, 2, none⟩ = some (.int .i64 6) := b2
      have ha := and1' (x := (y : Int) / 2) (by omega) (by omega)
      obtain ⟨e, he⟩ : ∃ e, ((y : Int) + 256) / 4 = e := ⟨_, rfl⟩
      obtain ⟨d, hd⟩ : ∃ d, (y : Int) / 2 = d := ⟨_, rfl⟩
      rw [he, hd] at hv
      rw [hd] at ha
      have H4 := Lib.hid he
      have H7 := Lib.hid hd
      have HO := Lib.hid ho
      clear he hd ho
      by_cases hq : e = c
      · subst hq
        rw [if_neg (by simp)] at hv
        by_cases hp : d % 2 = 0
        · rw [if_pos hp] at hv
          rw [hv]
          rw [show d % 2 = 0 by omega] at ha
          have HA := Lib.hid ha
          clear hv hp ha
          have h4 := H4.out
          have ho := HO.out
          go_enter Try.func105, Try.ntmps105
          go_upto_region 3 with fail
          go_quiet (fail)
          go_upto_region 4 with fail
          go_quiet (fail)
          clear h4 ho
          go_upto_region 7 with fail
          have h7 := H7.out
          have ha := HA.out
          go_wp2
          all_goals
            go_ret
            refine ⟨ret_i64 ?_, ?_⟩
            · clear h7 ha
              omega
            · exact below_drewN (Below.refl _ _) _
        · rw [if_neg hp] at hv
          rw [hv]
          rw [show d % 2 = 1 by omega] at ha
          have HA := Lib.hid ha
          clear hv hp ha
          have h4 := H4.out
          have ho := HO.out
          go_enter Try.func105, Try.ntmps105
          go_upto_region 3 with fail
          go_quiet (fail)
          go_upto_region 4 with fail
          go_quiet (fail)
          clear h4 ho
          go_upto_region 7 with fail
          have h7 := H7.out
          have ha := HA.out
          go_wp2
          all_goals
            go_ret
            refine ⟨ret_i64 ?_, ?_⟩
            · clear h7 ha
              omega
            · exact below_drewN (Below.refl _ _) _
      · rw [if_pos hq] at hv
        rw [hv]
        clear hv ha
        have h4 := H4.out
        have ho := HO.out
        go_enter Try.func105, Try.ntmps105
        go_upto_region 3 with fail
        go_quiet (fail)
        go_upto_region 4 with fail
        go_quiet (fail)
        clear h4 ho
        go_wp2
        go_ret
        exact ⟨rfl, below_drewN (below_drewN (Below.refl _ _) _) _⟩
    · have hv : R = if ((y : Int) + 256) / 2 ≠ c then 0 else if (y : Int) % 2 = 0 then -(min (len : Int) 15 * 64) else min (len : Int) 15 * 64 := by
        rw [hv]
        rw [show (y : Int) / 2 ^ (7 - 7) = (y : Int) from Int.ediv_one _]
        rfl
      replace b2 : w.cell? ⟨B, 2, none⟩ = some (.int .i64 7) := b2
      have ha := and1' (x := (y : Int)) (by omega) (by omega)
      obtain ⟨e, he⟩ : ∃ e, ((y : Int) + 256) / 2 = e := ⟨_, rfl⟩
      obtain ⟨d, hd⟩ : ∃ d, (y : Int) = d := ⟨_, rfl⟩
      rw [he, hd] at hv
      rw [hd] at ha
      have H4 := Lib.hid he
      have H7 := Lib.hid hd
      have HO := Lib.hid ho
      clear he hd ho
      by_cases hq : e = c
      · subst hq
        rw [if_neg (by simp)] at hv
        by_cases hp : d % 2 = 0
        · rw [if_pos hp] at hv
          rw [hv]
          rw [show d % 2 = 0 by omega] at ha
          have HA := Lib.hid ha
          clear hv hp ha
          have h4 := H4.out
          have ho := HO.out
          go_enter Try.func105, Try.ntmps105
          go_upto_region 3 with fail
          go_quiet (fail)
          go_upto_region 4 with fail
          go_quiet (fail)
          clear h4 ho
          go_upto_region 7 with fail
          have h7 := H7.out
          have ha := HA.out
          go_wp2
          all_goals
            go_ret
            refine ⟨ret_i64 ?_, ?_⟩
            · clear h7 ha
              omega
            · exact below_drewN (Below.refl _ _) _
        · rw [if_neg hp] at hv
          rw [hv]
          rw [show d % 2 = 1 by omega] at ha
          have HA := Lib.hid ha
          clear hv hp ha
          have h4 := H4.out
          have ho := HO.out
          go_enter Try.func105, Try.ntmps105
          go_upto_region 3 with fail
          go_quiet (fail)
          go_upto_region 4 with fail
          go_quiet (fail)
          clear h4 ho
          go_upto_region 7 with fail
          have h7 := H7.out
          have ha := HA.out
          go_wp2
          all_goals
            go_ret
            refine ⟨ret_i64 ?_, ?_⟩
            · clear h7 ha
              omega
            · exact below_drewN (Below.refl _ _) _
      · rw [if_pos hq] at hv
        rw [hv]
        clear hv ha
        have h4 := H4.out
        have ho := HO.out
        go_enter Try.func105, Try.ntmps105
        go_upto_region 3 with fail
        go_quiet (fail)
        go_upto_region 4 with fail
        go_quiet (fail)
        clear h4 ho
        go_wp2
        go_ret
        exact ⟨rfl, below_drewN (below_drewN (Below.refl _ _) _) _⟩
end Go.Proofs.Ytnohfeaamfjimaa
namespace Go.Proofs.Ytnohfeaamfjimaa
open Go.RowKit Go.WideShapes
set_option linter.unusedVariables false
set_option linter.unusedSimpArgs false
def maC (p : Pt) (h : Int) (gs cs gt ct N : Nat) (ptr len : Nat) : Array Value := #[.int .u8 p.k, .int .i64 p.s, .int .i64 p.a, .int .i64 p.b, .int .i64 p.c, .int .i64 p.r, .int .i64 p.l, .int .u32 h, .slice (some ⟨gs, 0, none⟩) N cs, .slice (some ⟨gt, 0, none⟩) N ct, .int .i64 (ptr : Int), .int .i64 (len : Int)]
def lenE (len : Nat) (y x : Int) : Nat := if 0 < len ∧ y = x then min (len + 1) 32 else 0
def ptrE (len N ptr : Nat) (y x : Int) : Nat := if 0 < len ∧ y = x then (ptr + 1) % N else ptr
structure EndL (g gs : Nat) (G : Array Value) (l : List Int) (w0 : World) (e : Ending) (w : World) : Prop where
  ret : e = .returned (.tuple #[])
  blk : Blk w g 99 G
  oct : Blk w gs 5 (octs l).toArray
  frm : Frm (fun b => b = g ∨ b = gs) w0 w
theorem tmod_nat (a b : Nat) : ((a : Int)).tmod (b : Int) = ((a % b : Nat) : Int) := by
  rw [Int.tmod_eq_emod_of_nonneg (by omega)]
  exact (Int.natCast_emod a b).symm
set_option maxRecDepth 100000 in
set_option maxHeartbeats 4000000 in
theorem end104 (g B gs cs gt ct N : Nat) (p : Pt) (h c y : Int) (bs : List Int) (ptr len wh : Nat) (w : World) (hc : 0 ≤ c) (hc2 : c ≤ 1000) (hptr : ptr < N) (hN : N ≤ 3000000) (hlen : len ≤ 32) (hwh : wh ≤ 1000000000) (hG : Blk w g 99 (maC p h gs cs gt ct N ptr len)) (hS : Blk w gs 5 (octs bs).toArray) (hln : bs.length = N) (hy : bs[ptr]? = some y) (hne : ¬ g = gs) (NB : Hid (¬ B = g)) (b1 : w.cell? ⟨B, 1, none⟩ = some (.int .i64 c)) (b3 : w.cell? ⟨B, 3, none⟩ = some (.int .i64 (wh : Int))) :
    Calls Try.prog 104 #[.pointer (some ⟨g, 0, none⟩), .pointer (some ⟨B, 1, none⟩)] w (EndL g gs (maC p h gs cs gt ct N (ptrE len N ptr y (c % 256)) (lenE len y (c % 256))) (bs.set (wh % N) (c % 256)) w) := by
  obtain ⟨m, hmm⟩ : ∃ m, wh % N = m := ⟨_, rfl⟩
  rw [hmm]
  have q8 : w.cell? ⟨g, 8, none⟩ = some (.slice (some ⟨gs, 0, none⟩) N cs) := hG.cell 8
  have q10 : w.cell? ⟨g, 10, none⟩ = some (.int .i64 (ptr : Int)) := hG.cell 10
  have q11 : w.cell? ⟨g, 11, none⟩ = some (.int .i64 (len : Int)) := hG.cell 11
  have qs : w.cell? ⟨gs, ptr, none⟩ = some (.int .u8 y) := (hS.cell ptr).trans (octs_at hy)
  have hm : m < N := by rw [← hmm]; exact Nat.mod_lt _ (by omega)
  have hS5 : ∀ W : World, Blk W gs 5 (octs bs).toArray → (∃ v, W.cell? ⟨gs, m, none⟩ = some v) ∧ W.frozen? ⟨gs, m, none⟩ = false := fun W hW => ⟨⟨_, (hW.cell _).trans (octs_at (getD_some (by omega)))⟩, hW.frozen _⟩
  have HS5 := Lib.hid hS5
  have HG := Lib.hid hG
  have HS := Lib.hid hS
  have NE := Lib.hid hne
  have HLN := Lib.hid hln
  have r1 : (wh : Int).tmod (N : Int) = (m : Int) := by rw [← hmm]; exact tmod_nat wh N
  have R1 := Lib.hid r1
  have hN0 : ¬ N = 0 := by omega
  have hN1 : (m : Int) < (N : Int) := by omega
  clear hmm hG hS hne hln r1 hS5 hy
  by_cases h0 : len = 0
  · rw [show ((len : Nat) : Int) = 0 by omega] at q11
    go_enter Try.func104, Try.ntmps104
    go_upto_region 1 with fail
    go_quiet (fail)
    replace q8 : (w.drewN nq).cell? ⟨g, 8, none⟩ = some (.slice (some ⟨gs, 0, none⟩) N cs) := q8
    replace q10 : (w.drewN nq).cell? ⟨g, 10, none⟩ = some (.int .i64 (ptr : Int)) := q10
    replace q11 : (w.drewN nq).cell? ⟨g, 11, none⟩ = some (.int .i64 0) := q11
    replace b3 : (w.drewN nq).cell? ⟨B, 3, none⟩ = some (.int .i64 (wh : Int)) := b3
    have HG1 := Lib.hid (show Blk (w.drewN nq) g 99 (maC p h gs cs gt ct N ptr len) from HG.out)
    have HS1 := Lib.hid (show Blk (w.drewN nq) gs 5 (octs bs).toArray from HS.out)
    have HF1 := Lib.hid (show Frm (fun b => b = g ∨ b = gs) w (w.drewN nq) from (Frm.refl _ w).drewN nq)
    have z10 := HG1.out.frozen 10
    have z11 := HG1.out.frozen 11
    clear b1 qs
    generalize w.drewN nq = w1 at *
    clear q10 z10
    go_upto_region 4 with fail
    go_upto_region 5 with fail
    obtain ⟨w2, hw2⟩ : ∃ W, w1.setCell ⟨g, 11, none⟩ (.int .i64 0) = W := ⟨_, rfl⟩
    have hGk : Blk w2 g 99 (maC p h gs cs gt ct N ptr 0) := hw2 ▸ HG1.out.set 11 (.int .i64 0)
    have hSk : Blk w2 gs 5 (octs bs).toArray := hw2 ▸ HS1.out.far (p := ⟨g, 11, none⟩) (fun h => NE.out h.symm) (.int .i64 0)
    have hFk : Frm (fun b => b = g ∨ b = gs) w w2 := hw2 ▸ HF1.out.setCell (p := ⟨g, 11, none⟩) (fun _ => .inl rfl) (.int .i64 0)
    replace b3 : w2.cell? ⟨B, 3, none⟩ = some (.int .i64 (wh : Int)) := by rw [← hw2]; exact (World.cell?_setCell_far _ _ _ _ (fun h => NB.out h.symm)).trans b3
    rw [hw2]
    clear hw2
    have HGk := Lib.hid hGk
    have HSk := Lib.hid hSk
    have HFk := Lib.hid hFk
    obtain ⟨⟨v9, s9⟩, z9⟩ := HS5.out _ hSk
    have q8b : w2.cell? ⟨g, 8, none⟩ = some (.slice (some ⟨gs, 0, none⟩) N cs) := hGk.cell 8
    clear hGk hSk hFk
    go_upto_region 5 with fail
    have r1 := R1.out
    go_still_tail 16, (by kernel_rfl)
    change wpList _ _ _ _ _ w2.drew
    clear r1
    replace s9 : w2.drew.cell? ⟨gs, m, none⟩ = some v9 := s9
    replace z9 : w2.drew.frozen? ⟨gs, m, none⟩ = false := z9
    replace HGk := Lib.hid (Blk.drew HGk.out)
    replace HSk := Lib.hid (Blk.drew HSk.out)
    replace HFk := Lib.hid HFk.out.drew
    generalize w2.drew = W9 at *
    go_wp2
    refine bodyPost_ret (v := .tuple #[]) (by simp [results, Try.results104, go_sem]) rfl ?_
    have k1 := HGk.out.far (p := ⟨gs, m, none⟩) (fun h => NE.out h) (.int .u8 (c % 256))
    have k2 := HSk.out.set m (.int .u8 (c % 256))
    rw [octs_set] at k2
    exact ⟨rfl, by rw [show lenE len y (c % 256) = 0 from if_neg (by omega), show ptrE len N ptr y (c % 256) = ptr from if_neg (by omega)]; exact k1, k2, HFk.out.setCell (p := ⟨gs, m, none⟩) (fun _ => .inr rfl) _⟩
  · have hl0 : 0 < len := by omega
    by_cases hyx : y = c % 256
    · subst hyx
      by_cases h31 : len + 1 ≤ 32
      · have hi31 : (len : Int) + 1 ≤ 32 := by omega
        go_enter Try.func104, Try.ntmps104
        go_upto_region 1 with fail
        go_quiet (fail)
        replace q8 : (w.drewN nq).cell? ⟨g, 8, none⟩ = some (.slice (some ⟨gs, 0, none⟩) N cs) := q8
        replace q10 : (w.drewN nq).cell? ⟨g, 10, none⟩ = some (.int .i64 (ptr : Int)) := q10
        replace q11 : (w.drewN nq).cell? ⟨g, 11, none⟩ = some (.int .i64 (len : Int)) := q11
        replace b3 : (w.drewN nq).cell? ⟨B, 3, none⟩ = some (.int .i64 (wh : Int)) := b3
        have HG1 := Lib.hid (show Blk (w.drewN nq) g 99 (maC p h gs cs gt ct N ptr len) from HG.out)
        have HS1 := Lib.hid (show Blk (w.drewN nq) gs 5 (octs bs).toArray from HS.out)
        have HF1 := Lib.hid (show Frm (fun b => b = g ∨ b = gs) w (w.drewN nq) from (Frm.refl _ w).drewN nq)
        have z10 := HG1.out.frozen 10
        have z11 := HG1.out.frozen 11
        clear b1 qs
        generalize w.drewN nq = w1 at *
        obtain ⟨m2, hm2⟩ : ∃ m2, (ptr + 1) % N = m2 := ⟨_, rfl⟩
        have e1 : IntKind.i64.wrap ((ptr : Int) + 1) = (ptr : Int) + 1 := IntWalk.i64_in ((ptr : Int) + 1) (by omega)
        have e2 : ((ptr : Int) + 1).tmod (N : Int) = (m2 : Int) := by rw [← hm2]; exact tmod_nat (ptr + 1) N
        have E1 := Lib.hid e1
        have E2 := Lib.hid e2
        have HM2 := Lib.hid hm2
        clear e1 e2 hm2
        go_upto_region 3 with fail
        obtain ⟨w2, hw2⟩ : ∃ W, w1.setCell ⟨g, 11, none⟩ (.int .i64 ((len : Int) + 1)) = W := ⟨_, rfl⟩
        rw [hw2]
        have hG2 : Blk w2.drew g 99 (maC p h gs cs gt ct N ptr (len + 1)) := hw2 ▸ HG1.out.set 11 (.int .i64 ((len : Int) + 1))
        have hS2 : Blk w2.drew gs 5 (octs bs).toArray := hw2 ▸ HS1.out.far (p := ⟨g, 11, none⟩) (fun h => NE.out h.symm) (.int .i64 ((len : Int) + 1))
        have hF2 : Frm (fun b => b = g ∨ b = gs) w w2.drew := hw2 ▸ (HF1.out.setCell (p := ⟨g, 11, none⟩) (fun _ => .inl rfl) (.int .i64 ((len : Int) + 1))).drew
        replace b3 : w2.drew.cell? ⟨B, 3, none⟩ = some (.int .i64 (wh : Int)) := by rw [← hw2]; exact (World.cell?_setCell_far _ _ _ _ (fun h => NB.out h.symm)).trans b3
        replace q8 : w2.cell? ⟨g, 8, none⟩ = some (.slice (some ⟨gs, 0, none⟩) N cs) := hG2.cell 8
        replace q10 : w2.cell? ⟨g, 10, none⟩ = some (.int .i64 (ptr : Int)) := hG2.cell 10
        replace z10 : w2.frozen? ⟨g, 10, none⟩ = false := hG2.frozen 10
        have HG2 := Lib.hid hG2
        have HS2 := Lib.hid hS2
        have HF2 := Lib.hid hF2
        clear hG2 hS2 hF2 hw2 q11 z11
        have e1 := E1.out
        have e2 := E2.out
        go_still_tail 14, (by kernel_rfl)
        change wpList _ _ _ _ _ w2.drew
        clear e1 e2
        replace q8 : w2.drew.cell? ⟨g, 8, none⟩ = some (.slice (some ⟨gs, 0, none⟩) N cs) := q8
        replace q10 : w2.drew.cell? ⟨g, 10, none⟩ = some (.int .i64 (ptr : Int)) := q10
        replace z10 : w2.drew.frozen? ⟨g, 10, none⟩ = false := z10
        generalize w2.drew = W2 at *
        go_upto_region 5 with fail
        obtain ⟨w3, hw3⟩ : ∃ W, W2.setCell ⟨g, 10, none⟩ (.int .i64 (m2 : Int)) = W := ⟨_, rfl⟩
        rw [hw3]
        have hGk : Blk w3 g 99 (maC p h gs cs gt ct N m2 (len + 1)) := hw3 ▸ HG2.out.set 10 (.int .i64 (m2 : Int))
        have hSk : Blk w3 gs 5 (octs bs).toArray := hw3 ▸ HS2.out.far (p := ⟨g, 10, none⟩) (fun h => NE.out h.symm) (.int .i64 (m2 : Int))
        have hFk : Frm (fun b => b = g ∨ b = gs) w w3 := hw3 ▸ HF2.out.setCell (p := ⟨g, 10, none⟩) (fun _ => .inl rfl) (.int .i64 (m2 : Int))
        replace b3 : w3.cell? ⟨B, 3, none⟩ = some (.int .i64 (wh : Int)) := by rw [← hw3]; exact (World.cell?_setCell_far _ _ _ _ (fun h => NB.out h.symm)).trans b3
        clear hw3 q8 q10 z10
        have HGk := Lib.hid hGk
        have HSk := Lib.hid hSk
        have HFk := Lib.hid hFk
        obtain ⟨⟨v9, s9⟩, z9⟩ := HS5.out _ hSk
        have q8b : w3.cell? ⟨g, 8, none⟩ = some (.slice (some ⟨gs, 0, none⟩) N cs) := hGk.cell 8
        clear hGk hSk hFk
        have r1 := R1.out
        go_still_tail 16, (by kernel_rfl)
        change wpList _ _ _ _ _ w3.drew
        clear r1
        replace s9 : w3.drew.cell? ⟨gs, m, none⟩ = some v9 := s9
        replace z9 : w3.drew.frozen? ⟨gs, m, none⟩ = false := z9
        replace HGk := Lib.hid (Blk.drew HGk.out)
        replace HSk := Lib.hid (Blk.drew HSk.out)
        replace HFk := Lib.hid HFk.out.drew
        generalize w3.drew = W9 at *
        go_wp2
        refine bodyPost_ret (v := .tuple #[]) (by simp [results, Try.results104, go_sem]) rfl ?_
        have k1 := HGk.out.far (p := ⟨gs, m, none⟩) (fun h => NE.out h) (.int .u8 (c % 256))
        have k2 := HSk.out.set m (.int .u8 (c % 256))
        rw [octs_set] at k2
        exact ⟨rfl, by rw [show lenE len (c % 256) (c % 256) = len + 1 from (if_pos ⟨hl0, rfl⟩).trans (by omega), show ptrE len N ptr (c % 256) (c % 256) = m2 from (if_pos ⟨hl0, rfl⟩).trans HM2.out]; exact k1, k2, HFk.out.setCell (p := ⟨gs, m, none⟩) (fun _ => .inr rfl) _⟩
      · have hi31 : 32 < (len : Int) + 1 := by omega
        go_enter Try.func104, Try.ntmps104
        go_upto_region 1 with fail
        go_quiet (fail)
        replace q8 : (w.drewN nq).cell? ⟨g, 8, none⟩ = some (.slice (some ⟨gs, 0, none⟩) N cs) := q8
        replace q10 : (w.drewN nq).cell? ⟨g, 10, none⟩ = some (.int .i64 (ptr : Int)) := q10
        replace q11 : (w.drewN nq).cell? ⟨g, 11, none⟩ = some (.int .i64 (len : Int)) := q11
        replace b3 : (w.drewN nq).cell? ⟨B, 3, none⟩ = some (.int .i64 (wh : Int)) := b3
        have HG1 := Lib.hid (show Blk (w.drewN nq) g 99 (maC p h gs cs gt ct N ptr len) from HG.out)
        have HS1 := Lib.hid (show Blk (w.drewN nq) gs 5 (octs bs).toArray from HS.out)
        have HF1 := Lib.hid (show Frm (fun b => b = g ∨ b = gs) w (w.drewN nq) from (Frm.refl _ w).drewN nq)
        have z10 := HG1.out.frozen 10
        have z11 := HG1.out.frozen 11
        clear b1 qs
        generalize w.drewN nq = w1 at *
        obtain ⟨m2, hm2⟩ : ∃ m2, (ptr + 1) % N = m2 := ⟨_, rfl⟩
        have e1 : IntKind.i64.wrap ((ptr : Int) + 1) = (ptr : Int) + 1 := IntWalk.i64_in ((ptr : Int) + 1) (by omega)
        have e2 : ((ptr : Int) + 1).tmod (N : Int) = (m2 : Int) := by rw [← hm2]; exact tmod_nat (ptr + 1) N
        have E1 := Lib.hid e1
        have E2 := Lib.hid e2
        have HM2 := Lib.hid hm2
        clear e1 e2 hm2
        go_upto_region 3 with fail
        obtain ⟨w2, hw2⟩ : ∃ W, w1.setCell ⟨g, 11, none⟩ (.int .i64 (32)) = W := ⟨_, rfl⟩
        rw [hw2]
        have hG2 : Blk w2.drew g 99 (maC p h gs cs gt ct N ptr (32)) := hw2 ▸ HG1.out.set 11 (.int .i64 (32))
        have hS2 : Blk w2.drew gs 5 (octs bs).toArray := hw2 ▸ HS1.out.far (p := ⟨g, 11, none⟩) (fun h => NE.out h.symm) (.int .i64 (32))
        have hF2 : Frm (fun b => b = g ∨ b = gs) w w2.drew := hw2 ▸ (HF1.out.setCell (p := ⟨g, 11, none⟩) (fun _ => .inl rfl) (.int .i64 (32))).drew
        replace b3 : w2.drew.cell? ⟨B, 3, none⟩ = some (.int .i64 (wh : Int)) := by rw [← hw2]; exact (World.cell?_setCell_far _ _ _ _ (fun h => NB.out h.symm)).trans b3
        replace q8 : w2.cell? ⟨g, 8, none⟩ = some (.slice (some ⟨gs, 0, none⟩) N cs) := hG2.cell 8
        replace q10 : w2.cell? ⟨g, 10, none⟩ = some (.int .i64 (ptr : Int)) := hG2.cell 10
        replace z10 : w2.frozen? ⟨g, 10, none⟩ = false := hG2.frozen 10
        have HG2 := Lib.hid hG2
        have HS2 := Lib.hid hS2
        have HF2 := Lib.hid hF2
        clear hG2 hS2 hF2 hw2 q11 z11
        have e1 := E1.out
        have e2 := E2.out
        go_still_tail 14, (by kernel_rfl)
        change wpList _ _ _ _ _ w2.drew
        clear e1 e2
        replace q8 : w2.drew.cell? ⟨g, 8, none⟩ = some (.slice (some ⟨gs, 0, none⟩) N cs) := q8
        replace q10 : w2.drew.cell? ⟨g, 10, none⟩ = some (.int .i64 (ptr : Int)) := q10
        replace z10 : w2.drew.frozen? ⟨g, 10, none⟩ = false := z10
        generalize w2.drew = W2 at *
        go_upto_region 5 with fail
        obtain ⟨w3, hw3⟩ : ∃ W, W2.setCell ⟨g, 10, none⟩ (.int .i64 (m2 : Int)) = W := ⟨_, rfl⟩
        rw [hw3]
        have hGk : Blk w3 g 99 (maC p h gs cs gt ct N m2 (32)) := hw3 ▸ HG2.out.set 10 (.int .i64 (m2 : Int))
        have hSk : Blk w3 gs 5 (octs bs).toArray := hw3 ▸ HS2.out.far (p := ⟨g, 10, none⟩) (fun h => NE.out h.symm) (.int .i64 (m2 : Int))
        have hFk : Frm (fun b => b = g ∨ b = gs) w w3 := hw3 ▸ HF2.out.setCell (p := ⟨g, 10, none⟩) (fun _ => .inl rfl) (.int .i64 (m2 : Int))
        replace b3 : w3.cell? ⟨B, 3, none⟩ = some (.int .i64 (wh : Int)) := by rw [← hw3]; exact (World.cell?_setCell_far _ _ _ _ (fun h => NB.out h.symm)).trans b3
        clear hw3 q8 q10 z10
        have HGk := Lib.hid hGk
        have HSk := Lib.hid hSk
        have HFk := Lib.hid hFk
        obtain ⟨⟨v9, s9⟩, z9⟩ := HS5.out _ hSk
        have q8b : w3.cell? ⟨g, 8, none⟩ = some (.slice (some ⟨gs, 0, none⟩) N cs) := hGk.cell 8
        clear hGk hSk hFk
        have r1 := R1.out
        go_still_tail 16, (by kernel_rfl)
        change wpList _ _ _ _ _ w3.drew
        clear r1
        replace s9 : w3.drew.cell? ⟨gs, m, none⟩ = some v9 := s9
        replace z9 : w3.drew.frozen? ⟨gs, m, none⟩ = false := z9
        replace HGk := Lib.hid (Blk.drew HGk.out)
        replace HSk := Lib.hid (Blk.drew HSk.out)
        replace HFk := Lib.hid HFk.out.drew
        generalize w3.drew = W9 at *
        go_wp2
        refine bodyPost_ret (v := .tuple #[]) (by simp [results, Try.results104, go_sem]) rfl ?_
        have k1 := HGk.out.far (p := ⟨gs, m, none⟩) (fun h => NE.out h) (.int .u8 (c % 256))
        have k2 := HSk.out.set m (.int .u8 (c % 256))
        rw [octs_set] at k2
        exact ⟨rfl, by rw [show lenE len (c % 256) (c % 256) = 32 from (if_pos ⟨hl0, rfl⟩).trans (by omega), show ptrE len N ptr (c % 256) (c % 256) = m2 from (if_pos ⟨hl0, rfl⟩).trans HM2.out]; exact k1, k2, HFk.out.setCell (p := ⟨gs, m, none⟩) (fun _ => .inr rfl) _⟩
    · have hnyx : ¬ y = c % 256 := hyx
      go_enter Try.func104, Try.ntmps104
      go_upto_region 1 with fail
      go_quiet (fail)
      replace q8 : (w.drewN nq).cell? ⟨g, 8, none⟩ = some (.slice (some ⟨gs, 0, none⟩) N cs) := q8
      replace q10 : (w.drewN nq).cell? ⟨g, 10, none⟩ = some (.int .i64 (ptr : Int)) := q10
      replace q11 : (w.drewN nq).cell? ⟨g, 11, none⟩ = some (.int .i64 (len : Int)) := q11
      replace b3 : (w.drewN nq).cell? ⟨B, 3, none⟩ = some (.int .i64 (wh : Int)) := b3
      have HG1 := Lib.hid (show Blk (w.drewN nq) g 99 (maC p h gs cs gt ct N ptr len) from HG.out)
      have HS1 := Lib.hid (show Blk (w.drewN nq) gs 5 (octs bs).toArray from HS.out)
      have HF1 := Lib.hid (show Frm (fun b => b = g ∨ b = gs) w (w.drewN nq) from (Frm.refl _ w).drewN nq)
      have z10 := HG1.out.frozen 10
      have z11 := HG1.out.frozen 11
      clear b1 qs
      generalize w.drewN nq = w1 at *
      clear q10 z10
      go_upto_region 4 with fail
      go_upto_region 5 with fail
      obtain ⟨w2, hw2⟩ : ∃ W, w1.setCell ⟨g, 11, none⟩ (.int .i64 0) = W := ⟨_, rfl⟩
      have hGk : Blk w2 g 99 (maC p h gs cs gt ct N ptr 0) := hw2 ▸ HG1.out.set 11 (.int .i64 0)
      have hSk : Blk w2 gs 5 (octs bs).toArray := hw2 ▸ HS1.out.far (p := ⟨g, 11, none⟩) (fun h => NE.out h.symm) (.int .i64 0)
      have hFk : Frm (fun b => b = g ∨ b = gs) w w2 := hw2 ▸ HF1.out.setCell (p := ⟨g, 11, none⟩) (fun _ => .inl rfl) (.int .i64 0)
      replace b3 : w2.cell? ⟨B, 3, none⟩ = some (.int .i64 (wh : Int)) := by rw [← hw2]; exact (World.cell?_setCell_far _ _ _ _ (fun h => NB.out h.symm)).trans b3
      rw [hw2]
      clear hw2
      have HGk := Lib.hid hGk
      have HSk := Lib.hid hSk
      have HFk := Lib.hid hFk
      obtain ⟨⟨v9, s9⟩, z9⟩ := HS5.out _ hSk
      have q8b : w2.cell? ⟨g, 8, none⟩ = some (.slice (some ⟨gs, 0, none⟩) N cs) := hGk.cell 8
      clear hGk hSk hFk
      go_upto_region 5 with fail
      have r1 := R1.out
      go_still_tail 16, (by kernel_rfl)
      change wpList _ _ _ _ _ w2.drew
      clear r1
      replace s9 : w2.drew.cell? ⟨gs, m, none⟩ = some v9 := s9
      replace z9 : w2.drew.frozen? ⟨gs, m, none⟩ = false := z9
      replace HGk := Lib.hid (Blk.drew HGk.out)
      replace HSk := Lib.hid (Blk.drew HSk.out)
      replace HFk := Lib.hid HFk.out.drew
      generalize w2.drew = W9 at *
      go_wp2
      refine bodyPost_ret (v := .tuple #[]) (by simp [results, Try.results104, go_sem]) rfl ?_
      have k1 := HGk.out.far (p := ⟨gs, m, none⟩) (fun h => NE.out h) (.int .u8 (c % 256))
      have k2 := HSk.out.set m (.int .u8 (c % 256))
      rw [octs_set] at k2
      exact ⟨rfl, by rw [show lenE len y (c % 256) = 0 from if_neg (by omega), show ptrE len N ptr y (c % 256) = ptr from if_neg (by omega)]; exact k1, k2, HFk.out.setCell (p := ⟨gs, m, none⟩) (fun _ => .inr rfl) _⟩
end Go.Proofs.Ytnohfeaamfjimaa
namespace Go.Proofs.Ytnohfeaamfjimaa
open Go.RowKit Go.WideShapes
set_option linter.unusedVariables false
set_option linter.unusedSimpArgs false
/-- How many bytes back are the same. -/
def runK (bs : List Int) (N q wh : Nat) : Nat → Nat → Nat
  | 0, k => k
  | f + 1, k => if k < min 32 q ∧ bs.getD ((q - k - 1) % N) 0 = bs.getD ((wh - k - 1) % N) 0 then runK bs N q wh f (k + 1) else k
def lenF (bs : List Int) (N q wh len : Nat) : Nat := if len = 0 ∧ q ≠ 0 then runK bs N q wh 32 0 else len
def ptrF (N q ptr len : Nat) : Nat := if len = 0 ∧ q ≠ 0 then q % N else ptr
theorem runK_le (bs : List Int) (N q wh : Nat) : ∀ f k, k ≤ 32 → runK bs N q wh f k ≤ 32
  | 0, k, h => h
  | f + 1, k, h => by
    unfold runK
    split
    · rename_i h1
      exact runK_le bs N q wh f (k + 1) (by omega)
    · exact h
structure CtxL (g gs gt : Nat) (G : Array Value) (l : List Int) (w0 : World) (e : Ending) (w : World) : Prop where
  ret : e = .returned (.tuple #[])
  blk : Blk w g 99 G
  ints : Blk w gt 3 (ints l).toArray
  frm : Frm (fun b => b = g ∨ b = gt) w0 w
set_option maxRecDepth 100000 in
set_option maxHeartbeats 4000000 in
theorem context103 (g B gs cs gt ct N : Nat) (p : Pt) (h0 h : Int) (bs l : List Int) (ptr len wh s a q : Nat) (w : World) (hh0 : 0 ≤ h) (hh1 : h ≤ 4294967295) (s2 : s ≤ 16) (ps : p.s = (s : Int)) (ha : placeI h 1 s = (a : Int)) (haN : a < N) (hN : N ≤ 3000000) (hlen : len ≤ 32) (hwh : wh ≤ 1000000000) (hqw : q ≤ wh) (hG : Blk w g 99 (maC p h0 gs cs gt ct N ptr len)) (hS : Blk w gs 5 (octs bs).toArray) (hT : Blk w gt 3 (ints l).toArray) (hln : bs.length = N) (hq : l[a]? = some (q : Int)) (hne : ¬ g = gs) (hnt : ¬ g = gt) (hnst : ¬ gs = gt) (NB : Hid (¬ B = g)) (NBT : Hid (¬ B = gt)) (b3 : w.cell? ⟨B, 3, none⟩ = some (.int .i64 (wh : Int))) :
    Calls Try.prog 103 #[.pointer (some ⟨g, 0, none⟩), .pointer (some ⟨B, 1, none⟩), .int .u32 h] w (CtxL g gs gt (maC p h gs cs gt ct N (ptrF N q ptr len) (lenF bs N q wh len)) (l.set a wh) w) := by
  obtain ⟨w1, hw1⟩ : ∃ W, w.setCell ⟨g, 7, none⟩ (.int .u32 h) = W := ⟨_, rfl⟩
  have hG1 : Blk w1 g 99 (maC p h gs cs gt ct N ptr len) := hw1 ▸ hG.set 7 (.int .u32 h)
  have hS1 : Blk w1 gs 5 (octs bs).toArray := hw1 ▸ hS.far (p := ⟨g, 7, none⟩) (fun h => hne h.symm) (.int .u32 h)
  have hT1 : Blk w1 gt 3 (ints l).toArray := hw1 ▸ hT.far (p := ⟨g, 7, none⟩) (fun h => hnt h.symm) (.int .u32 h)
  have hF1 : Frm (fun b => b = g ∨ b = gt) w w1 := hw1 ▸ (Frm.refl _ w).setCell (p := ⟨g, 7, none⟩) (fun _ => .inl rfl) (.int .u32 h)
  have b31 : w1.cell? ⟨B, 3, none⟩ = some (.int .i64 (wh : Int)) := by rw [← hw1]; exact (World.cell?_setCell_far _ _ _ _ (fun h => NB.out h.symm)).trans b3
  have q7 : w.cell? ⟨g, 7, none⟩ = some (.int .u32 h0) := hG.cell 7
  have z7 : w.frozen? ⟨g, 7, none⟩ = false := hG.frozen 7
  have r1 : w1.cell? ⟨g, 1, none⟩ = some (.int .i64 (s : Int)) := ps ▸ hG1.cell 1
  have r8 : w1.cell? ⟨g, 8, none⟩ = some (.slice (some ⟨gs, 0, none⟩) N cs) := hG1.cell 8
  have r9 : w1.cell? ⟨g, 9, none⟩ = some (.slice (some ⟨gt, 0, none⟩) N ct) := hG1.cell 9
  have r11 : w1.cell? ⟨g, 11, none⟩ = some (.int .i64 (len : Int)) := hG1.cell 11
  have rq : w1.cell? ⟨gt, a, none⟩ = some (.int .i64 (q : Int)) := (hT1.cell a).trans (ints_at hq)
  have HPL := Lib.hid (show ∀ w, Calls Try.prog 98 #[.int .u32 h, .int .i64 1, .int .i64 (s : Int)] w fun e w' => e = .returned (.int .i64 (a : Int)) ∧ w' = w from fun w => ha ▸ (place_any h 1 s w hh0 hh1 (by omega) (by omega) s2).mono fun e w' h => ⟨h.1, h.2.symm⟩)
  have HG1 := Lib.hid hG1
  have HS1 := Lib.hid hS1
  have HT1 := Lib.hid hT1
  have HF1 := Lib.hid hF1
  have NE := Lib.hid hne
  have NT := Lib.hid hnt
  have NST := Lib.hid hnst
  have HLN := Lib.hid hln
  clear hG hS hT hne hnt hnst hG1 hS1 hT1 hF1 b3 ha hln
  go_enter Try.func103, Try.ntmps103
  go_upto_region 1 with fail
  try rw [hw1]
  clear hw1 q7 z7
  go_upto_region 2 with fail
  go_quiet (exact Calls.quiet_of_same (HPL.out _))
  replace r8 : (w1.drewN nq).cell? ⟨g, 8, none⟩ = some (.slice (some ⟨gs, 0, none⟩) N cs) := r8
  replace r11 : (w1.drewN nq).cell? ⟨g, 11, none⟩ = some (.int .i64 (len : Int)) := r11
  replace rq : (w1.drewN nq).cell? ⟨gt, a, none⟩ = some (.int .i64 (q : Int)) := rq
  replace b31 : (w1.drewN nq).cell? ⟨B, 3, none⟩ = some (.int .i64 (wh : Int)) := b31
  replace HG1 := Lib.hid (show Blk (w1.drewN nq) g 99 (maC p h gs cs gt ct N ptr len) from HG1.out)
  replace HS1 := Lib.hid (show Blk (w1.drewN nq) gs 5 (octs bs).toArray from HS1.out)
  replace HT1 := Lib.hid (show Blk (w1.drewN nq) gt 3 (ints l).toArray from HT1.out)
  replace HF1 := Lib.hid (HF1.out.drewN nq)
  clear r1 r9
  generalize w1.drewN nq = w2 at *
  have zq := HT1.out.frozen a
  by_cases h0' : len = 0
  · by_cases hq0 : q = 0
    · rw [show ((len : Nat) : Int) = 0 by omega] at r11
      have hqi : ((q : Nat) : Int) = 0 := by omega
      rw [hqi] at rq
      clear hqi
      have HGK := HG1
      have HTK := HT1
      have HFK := HF1
      go_wp2
      refine bodyPost_ret (v := .tuple #[]) (by simp [results, Try.results103, go_sem]) rfl ?_
      have k2 := HTK.out.set a (.int .i64 (wh : Int))
      rw [ints_set] at k2
      exact ⟨rfl, by rw [show ptrF N q ptr len = ptr from if_neg (fun h => h.2 hq0), show lenF bs N q wh len = len from if_neg (fun h => h.2 hq0)]; exact HGK.out.far (p := ⟨gt, a, none⟩) (fun h => NT.out h) _, k2, HFK.out.setCell (p := ⟨gt, a, none⟩) (fun _ => .inr rfl) _⟩
    · rw [show ((len : Nat) : Int) = 0 by omega] at r11
      have hqi : ¬ (q : Int) = 0 := by omega
      have hN0 : ¬ N = 0 := by omega
      have z10 := HG1.out.frozen 10
      have q10 : w2.cell? ⟨g, 10, none⟩ = some (.int .i64 (ptr : Int)) := HG1.out.cell 10
      obtain ⟨m, hm⟩ : ∃ m, q % N = m := ⟨_, rfl⟩
      have HM := Lib.hid hm
      have e1 : (q : Int) % (N : Int) = (m : Int) := by rw [← hm]; exact (Int.natCast_emod q N).symm
      have e1t : (q : Int).tmod (N : Int) = (m : Int) := by rw [← hm]; exact tmod_nat q N
      clear hm
      obtain ⟨w3, hw3⟩ : ∃ W, w2.setCell ⟨g, 10, none⟩ (.int .i64 (m : Int)) = W := ⟨_, rfl⟩
      have HGL := Lib.hid (show Blk w3 g 99 (maC p h gs cs gt ct N m 0) from by rw [← hw3]; exact (show len = 0 from h0') ▸ HG1.out.set 10 (.int .i64 (m : Int)))
      have HSL := Lib.hid (show Blk w3 gs 5 (octs bs).toArray from hw3 ▸ HS1.out.far (p := ⟨g, 10, none⟩) (fun h => NE.out h.symm) (.int .i64 (m : Int)))
      have HTL := Lib.hid (show Blk w3 gt 3 (ints l).toArray from hw3 ▸ HT1.out.far (p := ⟨g, 10, none⟩) (fun h => NT.out h.symm) (.int .i64 (m : Int)))
      have HFL := Lib.hid (show Frm (fun b => b = g ∨ b = gt) w w3 from hw3 ▸ HF1.out.setCell (p := ⟨g, 10, none⟩) (fun _ => .inl rfl) (.int .i64 (m : Int)))
      have HBL := Lib.hid (show w3.cell? ⟨B, 3, none⟩ = some (.int .i64 (wh : Int)) from by rw [← hw3]; exact (World.cell?_setCell_far _ _ _ _ (fun h => NB.out h.symm)).trans b31)
      have HQA := Lib.hid (show l[a]? = some (q : Int) from hq)
      clear r8 b31 hq
      go_upto_region 4 with fail
      go_wp2_with fail
      try rw [hw3]
      clear hw3 rq r11 z10 q10 e1 e1t zq hqi
      obtain ⟨R, hR⟩ : ∃ R, runK bs N q wh 32 0 = R := ⟨_, rfl⟩
      obtain ⟨M, hM⟩ : ∃ M, min 32 q = M := ⟨_, rfl⟩
      have E0 := Lib.hid (show (if (q : Int) < 32 then (q : Int) else 32) = (M : Int) by rw [← hM]; split <;> omega)
      go_loopg [] 33 (fun gk wr => ∃ k : Nat, k ≤ 32 ∧ gk = 33 - k ∧ runK bs N q wh (32 - k) k = R ∧ Blk wr g 99 (maC p h gs cs gt ct N m k) ∧ Blk wr gs 5 (octs bs).toArray ∧ Blk wr gt 3 (ints l).toArray ∧ Frm (fun b => b = g ∨ b = gt) w wr ∧ wr.cell? ⟨B, 3, none⟩ = some (.int .i64 (wh : Int)))
      case atStart => exact ⟨0, by omega, rfl, hR, HGL.out, HSL.out, HTL.out, HFL.out, HBL.out⟩
      case round =>
        obtain ⟨k, hk, hgk, hrun, hG, hS, hT, hF, hb3⟩ := hrel
        clear HGL HSL HTL HFL HBL HG1 HS1 HT1 HF1
        have r8 : wr.cell? ⟨g, 8, none⟩ = some (.slice (some ⟨gs, 0, none⟩) N cs) := hG.cell 8
        have r11 : wr.cell? ⟨g, 11, none⟩ = some (.int .i64 (k : Int)) := hG.cell 11
        have z11 := hG.frozen 11
        have rq : wr.cell? ⟨gt, a, none⟩ = some (.int .i64 (q : Int)) := (hT.cell a).trans (ints_at HQA.out)
        have zq := hT.frozen a
        have HG := Lib.hid hG
        have HS := Lib.hid hS
        have HT := Lib.hid hT
        have HF := Lib.hid hF
        have HRUN := Lib.hid hrun
        have HGK := Lib.hid hgk
        clear hG hT hF hgk
        by_cases hlt : k < min 32 q
        · obtain ⟨i1, hi1⟩ : ∃ i, (q - k - 1) % N = i := ⟨_, rfl⟩
          obtain ⟨i2, hi2⟩ : ∃ i, (wh - k - 1) % N = i := ⟨_, rfl⟩
          have hi1n : i1 < N := by rw [← hi1]; exact Nat.mod_lt _ (by omega)
          have hi2n : i2 < N := by rw [← hi2]; exact Nat.mod_lt _ (by omega)
          obtain ⟨y1, hy1⟩ : ∃ y, bs.getD i1 0 = y := ⟨_, rfl⟩
          obtain ⟨y2, hy2⟩ : ∃ y, bs.getD i2 0 = y := ⟨_, rfl⟩
          have s1 : wr.cell? ⟨gs, i1, none⟩ = some (.int .u8 y1) := (hS.cell i1).trans (octs_at (hy1 ▸ getD_some (by rw [HLN.out]; exact hi1n)))
          have s2 : wr.cell? ⟨gs, i2, none⟩ = some (.int .u8 y2) := (hS.cell i2).trans (octs_at (hy2 ▸ getD_some (by rw [HLN.out]; exact hi2n)))
          have e3 := IntWalk.i64_in ((q : Int) - (k : Int)) (by omega)
          have e4 := IntWalk.i64_in ((q : Int) - (k : Int) - 1) (by omega)
          have e5 : ((q : Int) - (k : Int) - 1).tmod (N : Int) = (i1 : Int) := by rw [← hi1, show (q : Int) - (k : Int) - 1 = ((q - k - 1 : Nat) : Int) by omega]; exact tmod_nat _ _
          have e6 := IntWalk.i64_in ((wh : Int) - (k : Int)) (by omega)
          have e7 := IntWalk.i64_in ((wh : Int) - (k : Int) - 1) (by omega)
          have e8 : ((wh : Int) - (k : Int) - 1).tmod (N : Int) = (i2 : Int) := by rw [← hi2, show (wh : Int) - (k : Int) - 1 = ((wh - k - 1 : Nat) : Int) by omega]; exact tmod_nat _ _
          have hst : runK bs N q wh (32 - k) k = if y1 = y2 then runK bs N q wh (32 - (k + 1)) (k + 1) else k := by
            rw [show 32 - k = (32 - (k + 1)) + 1 by omega, runK, hi1, hi2, hy1, hy2]
            by_cases hyy : y1 = y2
            · rw [if_pos ⟨hlt, hyy⟩, if_pos hyy]
            · rw [if_neg (fun h => hyy h.2), if_neg hyy]
          rw [hst] at hrun
          have E3 := Lib.hid e3
          have E4 := Lib.hid e4
          have E5 := Lib.hid e5
          have E6 := Lib.hid e6
          have E7 := Lib.hid e7
          have E8 := Lib.hid e8
          clear e3 e4 e5 e6 e7 e8 hst hi1 hi2 hy1 hy2 hS HRUN
          have hk40 : (k : Int) + 1 ≤ 1000 := by omega
          have hltM : k < M := hM ▸ hlt
          have e0 := E0.out
          by_cases hyy : y1 = y2
          · subst hyy
            rw [if_pos rfl] at hrun
            go_upto_region 5 with fail
            have e3 := E3.out
            have e4 := E4.out
            have e5 := E5.out
            have e6 := E6.out
            have e7 := E7.out
            have e8 := E8.out
            go_quiet (fail)
            clear e3 e4 e5 e6 e7 e8
            replace r11 : (wr.drewN nq).cell? ⟨g, 11, none⟩ = some (.int .i64 (k : Int)) := r11
            replace z11 : (wr.drewN nq).frozen? ⟨g, 11, none⟩ = false := z11
            replace rq : (wr.drewN nq).cell? ⟨gt, a, none⟩ = some (.int .i64 (q : Int)) := rq
            replace zq : (wr.drewN nq).frozen? ⟨gt, a, none⟩ = false := zq
            replace hb3 : (wr.drewN nq).cell? ⟨B, 3, none⟩ = some (.int .i64 (wh : Int)) := hb3
            replace HG := Lib.hid (show Blk (wr.drewN nq) g 99 (maC p h gs cs gt ct N m k) from HG.out)
            replace HS := Lib.hid (show Blk (wr.drewN nq) gs 5 (octs bs).toArray from HS.out)
            replace HT := Lib.hid (show Blk (wr.drewN nq) gt 3 (ints l).toArray from HT.out)
            replace HF := Lib.hid (HF.out.drewN nq)
            generalize wr.drewN nq = w5 at *
            clear s1 s2
            go_wp2
            go_roundg (33 - (k + 1))
            case measure =>
              have := HGK.out
              omega
            case rel => exact ⟨k + 1, by omega, rfl, hrun, HG.out.set 11 (.int .i64 ((k : Int) + 1)), HS.out.far (p := ⟨g, 11, none⟩) (fun h => NE.out h.symm) (.int .i64 ((k : Int) + 1)), HT.out.far (p := ⟨g, 11, none⟩) (fun h => NT.out h.symm) (.int .i64 ((k : Int) + 1)), HF.out.setCell (p := ⟨g, 11, none⟩) (fun _ => .inl rfl) (.int .i64 ((k : Int) + 1)), (World.cell?_setCell_far _ _ _ _ (fun h => NB.out h.symm)).trans hb3⟩
          · rw [if_neg hyy] at hrun
            have HEX := Lib.hid hrun
            clear hrun
            go_upto_region 5 with fail
            have e3 := E3.out
            have e4 := E4.out
            have e5 := E5.out
            have e6 := E6.out
            have e7 := E7.out
            have e8 := E8.out
            go_quiet (fail)
            clear e3 e4 e5 e6 e7 e8
            replace r11 : (wr.drewN nq).cell? ⟨g, 11, none⟩ = some (.int .i64 (k : Int)) := r11
            replace z11 : (wr.drewN nq).frozen? ⟨g, 11, none⟩ = false := z11
            replace rq : (wr.drewN nq).cell? ⟨gt, a, none⟩ = some (.int .i64 (q : Int)) := rq
            replace zq : (wr.drewN nq).frozen? ⟨gt, a, none⟩ = false := zq
            replace hb3 : (wr.drewN nq).cell? ⟨B, 3, none⟩ = some (.int .i64 (wh : Int)) := hb3
            replace HG := Lib.hid (show Blk (wr.drewN nq) g 99 (maC p h gs cs gt ct N m k) from HG.out)
            replace HS := Lib.hid (show Blk (wr.drewN nq) gs 5 (octs bs).toArray from HS.out)
            replace HT := Lib.hid (show Blk (wr.drewN nq) gt 3 (ints l).toArray from HT.out)
            replace HF := Lib.hid (HF.out.drewN nq)
            clear s1 s2
            generalize wr.drewN nq = w5 at *
            go_wp2
            refine bodyPost_ret (v := .tuple #[]) (by simp [results, Try.results103, go_sem]) rfl ?_
            have k2 := HT.out.set a (.int .i64 (wh : Int))
            rw [ints_set] at k2
            exact ⟨rfl, by rw [show ptrF N q ptr len = m from (if_pos ⟨h0', hq0⟩).trans HM.out, show lenF bs N q wh len = k from (if_pos ⟨h0', hq0⟩).trans (hR.trans HEX.out.symm)]; exact HG.out.far (p := ⟨gt, a, none⟩) (fun h => NT.out h) _, k2, HF.out.setCell (p := ⟨gt, a, none⟩) (fun _ => .inr rfl) _⟩
        · have hexit : k = R := by
            rw [← HRUN.out]
            cases h32 : 32 - k with
            | zero => rfl
            | succ f => unfold runK; rw [if_neg (fun h => hlt h.1)]
          have HEX := Lib.hid hexit
          clear hS hrun HRUN hexit
          have hltM : ¬ k < M := hM ▸ hlt
          have e0 := E0.out
          go_upto_region 5 with fail
          go_quiet (fail)
          replace r11 : (wr.drewN nq).cell? ⟨g, 11, none⟩ = some (.int .i64 (k : Int)) := r11
          replace z11 : (wr.drewN nq).frozen? ⟨g, 11, none⟩ = false := z11
          replace rq : (wr.drewN nq).cell? ⟨gt, a, none⟩ = some (.int .i64 (q : Int)) := rq
          replace zq : (wr.drewN nq).frozen? ⟨gt, a, none⟩ = false := zq
          replace hb3 : (wr.drewN nq).cell? ⟨B, 3, none⟩ = some (.int .i64 (wh : Int)) := hb3
          replace HG := Lib.hid (show Blk (wr.drewN nq) g 99 (maC p h gs cs gt ct N m k) from HG.out)
          replace HS := Lib.hid (show Blk (wr.drewN nq) gs 5 (octs bs).toArray from HS.out)
          replace HT := Lib.hid (show Blk (wr.drewN nq) gt 3 (ints l).toArray from HT.out)
          replace HF := Lib.hid (HF.out.drewN nq)
          generalize wr.drewN nq = w5 at *
          go_wp2
          refine bodyPost_ret (v := .tuple #[]) (by simp [results, Try.results103, go_sem]) rfl ?_
          have k2 := HT.out.set a (.int .i64 (wh : Int))
          rw [ints_set] at k2
          exact ⟨rfl, by rw [show ptrF N q ptr len = m from (if_pos ⟨h0', hq0⟩).trans HM.out, show lenF bs N q wh len = k from (if_pos ⟨h0', hq0⟩).trans (hR.trans HEX.out.symm)]; exact HG.out.far (p := ⟨gt, a, none⟩) (fun h => NT.out h) _, k2, HF.out.setCell (p := ⟨gt, a, none⟩) (fun _ => .inr rfl) _⟩
  · have hl0 : ¬ (len : Int) = 0 := by omega
    have hl0n : ¬ len = 0 := h0'
    have HGK := HG1
    have HTK := HT1
    have HFK := HF1
    go_wp2
    refine bodyPost_ret (v := .tuple #[]) (by simp [results, Try.results103, go_sem]) rfl ?_
    have k2 := HTK.out.set a (.int .i64 (wh : Int))
    rw [ints_set] at k2
    exact ⟨rfl, by rw [show ptrF N q ptr len = ptr from if_neg (fun h => h0' h.1), show lenF bs N q wh len = len from if_neg (fun h => h0' h.1)]; exact HGK.out.far (p := ⟨gt, a, none⟩) (fun h => NT.out h) _, k2, HFK.out.setCell (p := ⟨gt, a, none⟩) (fun _ => .inr rfl) _⟩
end Go.Proofs.Ytnohfeaamfjimaa
