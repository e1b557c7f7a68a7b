/- PutEntry's first test: is any fragment's number none: the walks of its two closures and of the library's calls. Condition: none. -/
import Derived.Test.YtlhhkmpidnegcaaVeAk
namespace Go.Proofs.Ytlhhkmpidnegcaa
open Go.RowKit Go.WideShapes
set_option linter.unusedVariables false
set_option linter.unusedSimpArgs false
def outB (x : Int) : Bool := decide (x < 1) || decide (1048576 < x)
theorem out54 (x : Int) (w : World) : Calls Try.prog 54 #[.int .i64 x] w (Same (.bool (outB x)) w) := by
  by_cases h1 : x < 1
  · have e1 : decide (x < 1) = true := decide_eq_true h1
    have hr : outB x = true := by simp [outB, h1]
    rw [hr]
    clear hr
    go_enter Try.func54, Try.ntmps54
    go_wp2
    go_ret
    exact ⟨rfl, rfl⟩
  · have e1 : decide (x < 1) = false := decide_eq_false h1
    by_cases h2 : 1048576 < x
    · have e2 : decide (1048576 < x) = true := decide_eq_true h2
      have hr : outB x = true := by simp [outB, h2]
      rw [hr]
      clear hr
      go_enter Try.func54, Try.ntmps54
      go_wp2
      go_ret
      exact ⟨rfl, rfl⟩
    · have e2 : decide (1048576 < x) = false := decide_eq_false h2
      have hr : outB x = false := by unfold outB; rw [e1, e2]; rfl
      rw [hr]
      clear hr
      go_enter Try.func54, Try.ntmps54
      go_wp2
      go_ret
      exact ⟨rfl, rfl⟩
set_option maxHeartbeats 1000000 in
theorem idx76 (xs : List Int) (A : Option Addr) (n c : Nat) (w : World) (hn : xs.length = n) (hr : Rd w A (ints xs)) (hl : n ≤ 9223372036854775807) : Calls Try.prog 76 #[.slice A n c, .func (.func 54) #[] #[]] w (IsIdx (xs.any outB) w) := by
  have HR := Lib.hid hr
  have HN := Lib.hid hn
  clear hr hn
  go_enter Try.func76, Try.ntmps76
  go_wp2
  go_loop [8] (fun i => ∃ k : Nat, k ≤ n ∧ i = .int .i64 k ∧ (xs.take k).any outB = false) (fun i => n - (intOf i).toNat)
  case atStart => exact ⟨0, by omega, rfl, rfl⟩
  case round =>
    obtain ⟨k, hk, rfl, hno⟩ := hrel
    have HNO := Lib.hid hno
    clear hno
    by_cases hlt : k < n
    · obtain ⟨x, hx⟩ : ∃ x, xs[k]? = some x := ⟨_, List.getElem?_eq_getElem (by rw [HN.out]; exact hlt)⟩
      obtain ⟨b1, o1, rfl, _, hc1⟩ := (HR.out).at (k := k) (u := .int .i64 x) (by rw [ints, List.getElem?_map, hx]; rfl)
      have HX := Lib.hid hx
      clear hx
      cases hb : outB x with
      | true =>
        have hcl := fun w => hb ▸ out54 x w
        have HCL := Lib.hid hcl
        have HB := Lib.hid hb
        clear hcl hb
        go_wp2_with fail
        refine (HCL.out _).mono ?_
        rintro e w1 ⟨rfl, rfl⟩
        go_wp2
        go_ret
        refine ⟨⟨k, rfl, ?_⟩, rfl⟩
        rw [show xs.any outB = true from List.any_eq_true.2 ⟨x, List.mem_of_getElem? HX.out, HB.out⟩]
        simp
      | false =>
        have hcl := fun w => hb ▸ out54 x w
        have HCL := Lib.hid hcl
        have HB := Lib.hid hb
        clear hcl hb
        go_wp2_with fail
        refine (HCL.out _).mono ?_
        rintro e w1 ⟨rfl, rfl⟩
        go_wp2
        go_round
        case rel => exact ⟨k + 1, by omega, by go_num, by rw [List.take_add_one, HX.out, List.any_append, HNO.out]; simp [HB.out]⟩
        case measure => simp [intOf]; omega
    · obtain rfl : k = n := by omega
      go_wp2
      go_ret
      refine ⟨⟨-1, rfl, ?_⟩, rfl⟩
      have := HNO.out
      rw [List.take_of_length_le (by rw [HN.out]; exact Nat.le_refl _)] at this
      rw [this]
      rfl
theorem has53 (xs : List Int) (A : Option Addr) (n c : Nat) (w : World) (hn : xs.length = n) (hr : Rd w A (ints xs)) (hl : n ≤ 9223372036854775807) : Calls Try.prog 53 #[.slice A n c, .func (.func 54) #[] #[]] w (Same (.bool (xs.any outB)) w) := by
  have hi := idx76 xs A n c w hn hr hl
  have HI := Lib.hid hi
  clear hi hr hn
  obtain ⟨r, hr⟩ : ∃ r, xs.any outB = r := ⟨_, rfl⟩
  rw [hr] at HI ⊢
  clear hr
  go_enter Try.func53, Try.ntmps53
  go_wp2_with fail
  refine (HI.out).mono ?_
  rintro e w1 ⟨⟨q, rfl, hq⟩, rfl⟩
  go_wp2
  go_ret
  exact ⟨rfl, rfl⟩
theorem bad52 (f : Fl) (w : World) (hf : f.rd w) : Calls Try.prog 52 #[.agg #[.string f.nm, .slice f.A f.n f.c]] w (Quiet (.bool (f.fr.any outB)) w) := by
  have hb := (Below.refl w.heap.size w).alloc (Nat.le_refl _) (.cells #[.string f.nm, .slice f.A f.n f.c] 41)
  have hh := has53 f.fr f.A f.n f.c _ hf.len (hf.below hb).fr (by have := hf.cap; have := hf.top; unfold maxLen at this; omega)
  have HH := Lib.hid hh
  have HB := Lib.hid hb
  clear hh hb hf
  obtain ⟨nm, fr, A, n, c⟩ := f
  simp only at HH HB ⊢
  obtain ⟨r, hr⟩ : ∃ r, fr.any outB = r := ⟨_, rfl⟩
  rw [hr] at HH ⊢
  clear hr
  go_enter Try.func52, Try.ntmps52
  go_wp2_with fail
  refine (HH.out).mono ?_
  rintro e w1 ⟨rfl, rfl⟩
  go_wp2
  go_ret
  exact ⟨rfl, HB.out⟩
set_option maxRecDepth 100000 in
set_option maxHeartbeats 4000000 in
theorem idx68o (fs : List Fl) (A : Option Addr) (m c : Nat) (w : World) (hn : fs.length = m) (hr : RdF w A fs) (hl : m ≤ 1000000000) :
    Calls Try.prog 68 #[.slice A m c, .func (.func 52) #[] #[]] w (IsIdxQ (fs.any fun f => f.fr.any outB) w) := by
  have hcl : ∀ W, Below w.heap.size w W → ∀ f ∈ fs, Calls Try.prog 52 #[.agg #[.string f.nm, .slice f.A f.n f.c]] W (Quiet (.bool (f.fr.any outB)) W) := fun W hW f hf => bad52 f W ((hr.each f hf).below hW)
  have HCL := Lib.hid hcl
  have HR := Lib.hid hr
  have HN := Lib.hid hn
  clear hcl hr hn
  go_enter Try.func68, Try.ntmps68
  go_wp2_with fail
  go_loopw [8] (fun i wr => ∃ k : Nat, k ≤ m ∧ i = .int .i64 k ∧ (fs.take k).any (fun f => f.fr.any outB) = false ∧ Below w.heap.size w wr) (fun i _ => m - (intOf i).toNat)
  case atStart => exact ⟨0, by omega, rfl, rfl, Below.refl _ _⟩
  case round =>
    obtain ⟨k, hk, rfl, hno, hlow⟩ := hrel
    have HNO := Lib.hid hno
    have HLOW := Lib.hid hlow
    clear hno hlow
    by_cases hlt : k < m
    · obtain ⟨f, hf⟩ : ∃ f, fs[k]? = some f := ⟨_, List.getElem?_eq_getElem (by rw [HN.out]; exact hlt)⟩
      obtain ⟨b1, o1, rfl, hat⟩ := (HR.out.below HLOW.out).row.fl hf
      have h10 := hat.c0
      have h11 := hat.c1
      have hca := HCL.out wr HLOW.out f (List.mem_of_getElem? hf)
      have HF := Lib.hid hf
      have hkn : (k : Int) < (m : Int) := by omega
      cases hb : f.fr.any outB with
      | true =>
        rw [hb] at hca
        have HB := Lib.hid hb
        have HCA := Lib.hid hca
        clear hb hca hat hf
        obtain ⟨nm, fr, fA, fn, fc⟩ := f
        simp only at h10 h11 HCA HB
        go_wp2_with fail
        refine (HCA.out).mono ?_
        rintro e w1 ⟨rfl, hb1⟩
        go_wp2
        go_ret
        refine ⟨⟨k, rfl, ?_⟩, HLOW.out.trans (hb1.mono HLOW.out.size)⟩
        rw [show (fs.any fun f => f.fr.any outB) = true from List.any_eq_true.2 ⟨_, List.mem_of_getElem? HF.out, HB.out⟩]
        simp
      | false =>
        rw [hb] at hca
        have HB := Lib.hid hb
        have HCA := Lib.hid hca
        clear hb hca hat hf
        obtain ⟨nm, fr, fA, fn, fc⟩ := f
        simp only at h10 h11 HCA HB
        go_wp2_with fail
        refine (HCA.out).mono ?_
        rintro e w1 ⟨rfl, hb1⟩
        have HL1 := Lib.hid (HLOW.out.trans (hb1.mono HLOW.out.size))
        clear hb1
        go_wp2
        go_roundw
        case rel => exact ⟨k + 1, by omega, by go_num, by rw [List.take_add_one, HF.out, List.any_append, HNO.out]; simp [HB.out], HL1.out⟩
        case measure => simp [intOf]; omega
    · obtain rfl : k = m := by omega
      go_wp2
      go_ret
      refine ⟨⟨-1, rfl, ?_⟩, HLOW.out⟩
      have := HNO.out
      rw [List.take_of_length_le (by rw [HN.out]; exact Nat.le_refl _)] at this
      rw [this]
      rfl
theorem has39o (fs : List Fl) (A : Option Addr) (m c : Nat) (w : World) (hn : fs.length = m) (hr : RdF w A fs) (hl : m ≤ 1000000000) :
    Calls Try.prog 39 #[.slice A m c, .func (.func 52) #[] #[]] w (Quiet (.bool (fs.any fun f => f.fr.any outB)) w) := by
  have h := idx68o fs A m c w hn hr hl
  have HI := Lib.hid h
  clear h hn hr
  obtain ⟨r, hr⟩ : ∃ r, (fs.any fun f => f.fr.any outB) = r := ⟨_, rfl⟩
  rw [hr] at HI ⊢
  clear hr
  go_enter Try.func39, Try.ntmps39
  go_wp2_with fail
  refine (HI.out).mono ?_
  rintro e w1 ⟨⟨q, rfl, hq⟩, hb1⟩
  go_wp2
  go_ret
  exact ⟨rfl, hb1⟩
end Go.Proofs.Ytlhhkmpidnegcaa
