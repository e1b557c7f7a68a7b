/- Do, of the reference, for every instruction: plain. Condition: memories of at most 5000 places. -/
import Derived.Test.YtebmgladdgmmeaaVdGQf
import Derived.Test.YtebmgladdgmmeaaVdGQg
import Derived.Test.YtebmgladdgmmeaaVdGQh
import Derived.Test.YtebmgladdgmmeaaVdGQi
namespace Go.Proofs.Ytebmgladdgmmeaa
open Go.RowKit Go.WideShapes
set_option linter.unusedVariables false
theorem doV_big (o d n v : Int) (s : St) (ho : 26 ≤ o) : doV o d n v s = s := by
  unfold doV
  rw [if_neg (by omega), if_neg (by omega), if_neg (by omega), if_neg (by omega), if_neg (by omega), if_neg (by omega), if_neg (by omega), if_neg (by omega), if_neg (by omega), if_neg (by omega), if_neg (by omega), if_neg (by omega), if_neg (by omega)]
theorem do27 (o d n v : Int) (s : St) (hm : s.m.ok) (hw : Wds s.hs) (mo : Oct s.ms) (Ah Am : Option Addr) (ch cm nh nm : Nat) (w : World) (hnh : nh = s.hs.length) (hnm : nm = s.ms.length) (hh : Rd w Ah (s.hs.map (.int .u32))) (hmr : Rd w Am (s.ms.map (.int .u8))) (lh : nh ≤ 5000) (lm : nm ≤ 5000) (ho : 0 ≤ o) :
    Calls Try.prog 27 #[.agg #[.int .u8 o, .int .i64 d, .int .i64 n, .int .i64 v], .agg (s.m.cells (.slice Ah nh ch) (.slice Am nm cm))] w (IsMachR (DoS o d n v s) w) := by
  by_cases hr : rightM s.hs.length s.ms.length = true ∧ rightI ⟨o, d, n, v⟩ = true
  · have hok : s.ok := ⟨hm, hw, mo, hr.1⟩
    by_cases h26 : o < 26
    · have e : DoS o d n v s = doV o d n v s := by unfold DoS; rw [if_pos ⟨hr.1, hr.2, h26⟩]
      rw [e]
      obtain ⟨_, _, hk⟩ := right_in hr.2
      by_cases c1 : 8 ≤ o ∧ o ≤ 18
      · exact do27_calc o d n v s hm hw mo Ah Am ch cm nh nm w hnh hnm hh hmr lh lm hok hr.2 c1
      by_cases c2 : 19 ≤ o ∧ o ≤ 21
      · exact do27_hold o d n v s hm hw mo Ah Am ch cm nh nm w hnh hnm hh hmr lh lm hok hr.2 c2
      have hri := hr.2
      clear e hr
      rcases (show o = 0 ∨ o = 1 ∨ o = 2 ∨ o = 3 ∨ o = 4 ∨ o = 5 ∨ o = 6 ∨ o = 7 ∨ o = 22 ∨ o = 23 ∨ o = 24 ∨ o = 25 from by omega) with rfl | rfl | rfl | rfl | rfl | rfl | rfl | rfl | rfl | rfl | rfl | rfl
      · exact do27_0 d n v s hm hw mo Ah Am ch cm nh nm w hnh hnm hh hmr lh lm hok hri
      · exact do27_1 d n v s hm hw mo Ah Am ch cm nh nm w hnh hnm hh hmr lh lm hok hri
      · exact do27_2 d n v s hm hw mo Ah Am ch cm nh nm w hnh hnm hh hmr lh lm hok hri
      · exact do27_3 d n v s hm hw mo Ah Am ch cm nh nm w hnh hnm hh hmr lh lm hok hri
      · exact do27_4 d n v s hm hw mo Ah Am ch cm nh nm w hnh hnm hh hmr lh lm hok hri
      · exact do27_5 d n v s hm hw mo Ah Am ch cm nh nm w hnh hnm hh hmr lh lm hok hri
      · exact do27_6 d n v s hm hw mo Ah Am ch cm nh nm w hnh hnm hh hmr lh lm hok hri
      · exact do27_7 d n v s hm hw mo Ah Am ch cm nh nm w hnh hnm hh hmr lh lm hok hri
      · obtain ⟨k, rfl⟩ := Int.eq_ofNat_of_zero_le (hk (.inl rfl)).1
        exact do27_22 d n k (by have := (hk (.inl rfl)).2; omega) s hm hw mo Ah Am ch cm nh nm w hnh hnm hh hmr lh lm hok hri
      · obtain ⟨k, rfl⟩ := Int.eq_ofNat_of_zero_le (hk (.inr rfl)).1
        exact do27_23 d n k (by have := (hk (.inr rfl)).2; omega) s hm hw mo Ah Am ch cm nh nm w hnh hnm hh hmr lh lm hok hri
      · exact do27_24 d n v s hm hw mo Ah Am ch cm nh nm w hnh hnm hh hmr lh lm hok hri
      · exact do27_25 d n v s hm hw mo Ah Am ch cm nh nm w hnh hnm hh hmr lh lm hok hri
    · have e : DoS o d n v s = doV o d n v s := by
        rw [doV_big o d n v s (by omega)]
        unfold DoS
        rw [if_neg (fun h => h26 h.2.2)]
      rw [e]
      exact do27_big o d n v s hm hw mo Ah Am ch cm nh nm w hnh hnm hh hmr lh lm hok hr.2 (by omega)
  · have e : DoS o d n v s = s := by
      unfold DoS
      rw [if_neg (fun h => hr ⟨h.1, h.2.1⟩)]
    rw [e]
    exact do27_no o d n v s hm hw mo Ah Am ch cm nh nm w hnh hnm hh hmr lh lm ho hr
end Go.Proofs.Ytebmgladdgmmeaa
