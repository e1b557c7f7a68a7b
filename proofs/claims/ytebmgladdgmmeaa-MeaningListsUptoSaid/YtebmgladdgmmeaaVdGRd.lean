/- Do and Run of machines handed back; the chapter's examples: plain. Condition: memories of at most 5000 places, at most 1000 rounds and bytes. -/
import Derived.Test.YtebmgladdgmmeaaVdGRc
import Derived.Test.YtebmgladdgmmeaaVdGPj
namespace Go.Proofs.Ytebmgladdgmmeaa
open Go.RowKit Go.WideShapes
set_option linter.unusedVariables false
set_option linter.unusedSimpArgs false
theorem do25_own (o d n v : Int) (s : St) (hm : s.m.ok) (hw : Wds s.hs) (mo : Oct s.ms) (b : Nat) (v1 v2 : Value) (w : World) (hr1 : OwnR w b v1 45 (s.hs.map (.int .u32))) (hr2 : OwnR w b v2 5 (s.ms.map (.int .u8))) (lh : s.hs.length ≤ 5000) (lm : s.ms.length ≤ 5000) (ho : 0 ≤ o) :
    Calls Try.prog 25 #[.agg #[.int .u8 o, .int .i64 d, .int .i64 n, .int .i64 v], .agg (s.m.cells v1 v2)] w (IsMachR (DoS o d n v s) w) := by
  obtain ⟨A1, d1, rfl, n1, rd1, c1⟩ := hr1.form
  obtain ⟨A2, d2, rfl, n2, rd2, c2⟩ := hr2.form
  rw [List.length_map] at n1 n2 ⊢
  rw [List.length_map]
  exact do25 o d n v s hm hw mo A1 A2 d1 d2 s.hs.length s.ms.length w rfl rfl rd1 rd2 n1 n2 lh lm ho
theorem run_own (bs : List Int) (A : Option Addr) (n c : Nat) (post : Bool) (s : St) (hm : s.m.ok) (hw : Wds s.hs) (mo : Oct s.ms) (b : Nat) (v1 v2 : Value) (fuel most : Int) (w : World) (hn : n = bs.length) (ho : Oct bs) (hr : Rd w A (octs bs)) (hnm : n ≤ 9223372036854775807)
    (hr1 : OwnR w b v1 45 (s.hs.map (.int .u32))) (hr2 : OwnR w b v2 5 (s.ms.map (.int .u8))) (lh : s.hs.length ≤ 5000) (lm : s.ms.length ≤ 5000) (hfu : fuel ≤ 1000) (hfu0 : -9223372036854775808 ≤ fuel) (hmo : most ≤ 1000) :
    Calls Try.prog 32 #[.slice A n c, .bool post, .agg (s.m.cells v1 v2), .int .i64 fuel, .int .i64 most] w (RunEnd bs post s fuel most w) := by
  obtain ⟨A1, d1, rfl, n1, rd1, c1⟩ := hr1.form
  obtain ⟨A2, d2, rfl, n2, rd2, c2⟩ := hr2.form
  rw [List.length_map] at n1 n2 ⊢
  rw [List.length_map]
  exact run_any bs A n c post s hm hw mo A1 A2 s.hs.length d1 s.ms.length d2 fuel most w hn ho hr hnm rfl rfl rd1 rd2 n1 n2 lh lm hfu hfu0 hmo
def S0 : St := ⟨zM, [0, 0], [0, 0]⟩
def S3 : St := ⟨{ zM with a := 1 }, [0, 0], [0, 0]⟩
theorem S0_ok : S0.ok := ⟨zM_ok, fun x hx => by simp [S0] at hx; subst hx; exact u32_0, fun x hx => by simp [S0] at hx; subst hx; exact ⟨by omega, by omega⟩, by decide +kernel⟩
theorem rv1 {r : St × List Int × Int} (h : RunV [24, 0] false S0 0 0 r) : r = (S3, [], 0) := by
  have hc : chk [24, 0] false = 0 := by decide +kernel
  unfold RunV at h
  rw [if_pos hc, if_pos S0_ok.right] at h
  have g0 : getI [24, 0] 0 = (⟨3, 0, 0, 0⟩, 1, 0) := by kernel_rfl
  have g1 : getI [24, 0] 1 = (⟨0, 0, 0, 0⟩, 2, 0) := by kernel_rfl
  have hd : doV 3 0 0 0 S0 = S3 := by kernel_rfl
  have h1 : stepR [24, 0] 0 ⟨0, 0, S0, []⟩ = .inr ⟨1, 0, S3, []⟩ := by
    unfold stepR
    rw [show (((⟨0, 0, S0, []⟩ : Rp).at_ : Nat) : Int) = 0 from rfl, g0]
    unfold stepI goesB
    simp [hd]
  have h2 : stepR [24, 0] 0 ⟨1, 0, S3, []⟩ = .inl (S3, [], 0) := by
    unfold stepR
    rw [show (((⟨1, 0, S3, []⟩ : Rp).at_ : Nat) : Int) = 1 from rfl, g1]
    rfl
  exact h.one (.more h1 (.done h2))
theorem rv2_step (f : Int) : stepR [232, 254] 0 ⟨0, f, S0, []⟩ = if f < 1 then .inl (zS, [], 111) else .inr ⟨0, f - 1, S0, []⟩ := by
  have g0 : getI [232, 254] 0 = (⟨29, 0, 0, 0⟩, 2, 0) := by kernel_rfl
  unfold stepR
  rw [show (((⟨0, f, S0, []⟩ : Rp).at_ : Nat) : Int) = 0 from rfl, g0]
  unfold stepI goesB
  simp
theorem rv2_runs : ∀ f : Nat, Runs [232, 254] 0 ⟨0, (f : Int), S0, []⟩ (zS, [], 111)
  | 0 => .done (by rw [rv2_step]; rfl)
  | f + 1 => by
    refine .more (q := ⟨0, (f : Int), S0, []⟩) ?_ (rv2_runs f)
    rw [rv2_step, if_neg (by omega)]
    congr 2
    omega
theorem rv2 {r : St × List Int × Int} (h : RunV [232, 254] false S0 50 0 r) : r = (zS, [], 111) := by
  have hc : chk [232, 254] false = 0 := by decide +kernel
  unfold RunV at h
  rw [if_pos hc, if_pos S0_ok.right] at h
  exact h.one (rv2_runs 50)
theorem rv3 {r : St × List Int × Int} (h : RunV [208, 208, 0] true S0 0 1 r) : r = (zS, [], 112) := by
  have hc : chk [208, 208, 0] true = 0 := by decide +kernel
  unfold RunV at h
  rw [if_pos hc, if_pos S0_ok.right] at h
  have g0 : getI [208, 208, 0] 0 = (⟨26, 0, 0, 0⟩, 1, 0) := by kernel_rfl
  have g1 : getI [208, 208, 0] 1 = (⟨26, 0, 0, 0⟩, 2, 0) := by kernel_rfl
  have h1 : stepR [208, 208, 0] 1 ⟨0, 0, S0, []⟩ = .inr ⟨1, 0, S0, [0]⟩ := by
    unfold stepR
    rw [show (((⟨0, 0, S0, []⟩ : Rp).at_ : Nat) : Int) = 0 from rfl, g0]
    rfl
  have h2 : stepR [208, 208, 0] 1 ⟨1, 0, S0, [0]⟩ = .inl (zS, [], 112) := by
    unfold stepR
    rw [show (((⟨1, 0, S0, [0]⟩ : Rp).at_ : Nat) : Int) = 1 from rfl, g1]
    unfold stepI
    simp
  exact h.one (.more h1 (.done h2))
theorem rv4 {r : St × List Int × Int} (h : RunV [0] true zS 0 1 r) : r = (zS, [], 2) := by
  have hc : chk [0] true = 0 := by decide +kernel
  unfold RunV at h
  rw [if_pos hc, if_neg (by decide +kernel)] at h
  exact h
def S1 : St := DoS 2 0 0 5 S0
def S2 : St := DoS 24 0 0 0 S1
theorem S1_is : S1 = ⟨{ zM with a := 5 }, [0, 0], [0, 0]⟩ := by kernel_rfl
theorem S2_is : S2 = ⟨{ zM with a := 399641 }, [0, 0], [0, 0]⟩ := by kernel_rfl
theorem mc_a {x : Int} (h : U32 x) : ({ zM with a := x } : Mc).ok := ⟨h, zM_ok.b, zM_ok.c, zM_ok.d, zM_ok.len, zM_ok.r⟩
theorem S1_ok : S1.ok := by rw [S1_is]; exact ⟨mc_a ⟨by omega, by omega⟩, S0_ok.hw, S0_ok.mo, S0_ok.right⟩
theorem S2_ok : S2.ok := by rw [S2_is]; exact ⟨mc_a ⟨by omega, by omega⟩, S0_ok.hw, S0_ok.mo, S0_ok.right⟩
theorem S3_ok : S3.ok := ⟨mc_a ⟨by omega, by omega⟩, S0_ok.hw, S0_ok.mo, S0_ok.right⟩
theorem S1_holds : HoldsS 19 0 7 5 S1 = true := by rw [S1_is]; decide +kernel
end Go.Proofs.Ytebmgladdgmmeaa
