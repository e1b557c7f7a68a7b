/- Lists of parts of any length: walks. -/
import Derived.Test.YtnohfeaamfjimaaVnBlLs
namespace Go.Proofs.Ytnohfeaamfjimaa
open Go.RowKit Go.WideShapes
section
theorem runK_le (bs : List Int) (N q wh : Nat) : ∀ f k, k ≤ 32 → runK bs N q wh f k ≤ 32
  | 0, k, h => h
  | f + 1, k, h => by
    unfold runK
    split
    · rename_i h1
      exact runK_le bs N q wh f (k + 1) (by omega)
    · exact h
end
end Go.Proofs.Ytnohfeaamfjimaa
namespace Go.Proofs.Ytnohfeaamfjimaa
open Go.RowKit Go.WideShapes
section
theorem ctxU_ok {u : Un} {i wh : Nat} (h : u.Ok i wh) {x : Int} (x0 : 0 ≤ x) (x1 : x ≤ 4294967295) : (ctxU u wh x).Ok i wh := by
  unfold ctxU
  split
  · rename_i hk
    obtain ⟨b1, b2⟩ := h.bs (.inr (.inl hk))
    obtain ⟨t1, t2⟩ := h.t4 hk
    obtain ⟨m1, m2⟩ := h.m hk
    refine ⟨h.k, ⟨x0, x1⟩, h.s, h.c1, h.a, h.b, h.b7, h.c5, h.r, h.l, fun k => absurd (hk.symm.trans k) (by decide), fun k => absurd (hk.symm.trans k) (by decide), fun _ => ⟨(List.length_set ..).trans t1, mem_set_or t2 (by omega)⟩, fun k => absurd (hk.symm.trans k) (by decide), fun k => absurd (hk.symm.trans k) (by decide), h.bs, h.x3, h.x8, fun _ => ⟨?_, ?_⟩⟩
    · show ptrF _ _ _ _ < _
      unfold ptrF
      split
      · rw [b1]; exact Nat.mod_lt _ (Nat.pow_pos (by omega))
      · exact m1
    · show lenF _ _ _ _ _ ≤ 32
      unfold lenF
      split
      · exact runK_le _ _ _ _ _ _ (by omega)
      · exact m2
  · exact ⟨h.k, ⟨x0, x1⟩, h.s, h.c1, h.a, h.b, h.b7, h.c5, h.r, h.l, h.t2, h.t9, h.t4, h.t6, h.t7, h.bs, h.x3, h.x8, h.m⟩
end
end Go.Proofs.Ytnohfeaamfjimaa
namespace Go.Proofs.Ytnohfeaamfjimaa
open Go.RowKit Go.WideShapes
section
theorem ctxB_ok {us : List Un} {wh : Nat} (h : UsOk us wh) {hs : List Int} (hw : WOk hs) : UsOk (ctxB us wh hs) wh :=
  mapK_ok h (fun i u hu => ctxU_ok (h i u hu) (hw i).1 (hw i).2) _
end
end Go.Proofs.Ytnohfeaamfjimaa
namespace Go.Proofs.Ytnohfeaamfjimaa
open Go.RowKit Go.WideShapes
section
theorem ctxB_length (us : List Un) (wh : Nat) (hs : List Int) : (ctxB us wh hs).length = us.length := mapK_length _ _ _
end
section
theorem Bst.ctx_ok {s : Bst} (h : s.Ok) {hs : List Int} (hw : WOk hs) : (s.ctx hs).Ok := by
  refine ⟨ctxB_ok h.us hw, ?_, h.c0, h.c1, h.bits⟩
  show 0 < (ctxB _ _ _).length
  rw [ctxB_length]
  exact h.n0
end
section
theorem Bst.put_len (s : Bst) (bit : Int) : (s.put bit).us.length = s.us.length := by
  unfold Bst.put
  split
  · exact (endB_length _ _ _).trans (learnB_length _ _ _ _)
  · exact learnB_length _ _ _ _
end
section
theorem Bst.ctx_len (s : Bst) (hs : List Int) : (s.ctx hs).us.length = s.us.length := ctxB_length _ _ _
end
section
theorem Bst.leans_len (s : Bst) : s.leans.length = s.us.length := leansB_length _ _ _
/-! ### In memory -/
end
section
variable {T S : Nat → Prop} {w w' : World} {B : Nat} {s : Bst}
theorem BS.n16 (h : BS T w B s) : s.us.length ≤ 16 := by
  obtain ⟨base, R, cr, ls, V, L, hm, ht⟩ := h.ex
  exact hm.n
end
end Go.Proofs.Ytnohfeaamfjimaa
namespace Go.Proofs.Ytnohfeaamfjimaa
open Go.RowKit Go.WideShapes
set_option linter.unusedVariables false
set_option linter.unusedSimpArgs false
theorem rightP_big {ts : List Pt} (h : 16 < ts.length) : rightP ts = 100 := by unfold rightP; rw [if_pos (.inr h)]
theorem rightBig (A : Option Addr) (n c : Nat) (w : World) (h : 16 < n) : Calls Try.prog 26 #[.slice A n c] w (Quiet (.int .i64 100) w) := by
  have g0 : ((n : Int) == 0) = false := by simp; omega
  have g1 : decide ((16 : Int) < (n : Int)) = true := by simp; omega
  have g2 : decide ((n : Int) < 1) = false := by simp; omega
  go_enter Try.func26, Try.ntmps26
  go_wp2
  go_ret
  exact ⟨rfl, Below.refl _ _⟩
theorem newBig (A : Option Addr) (n c : Nat) (w : World) (h : 16 < n) : Calls Try.prog 8 #[.slice A n c] w (fun e w' => e = .returned (.tuple #[.pointer none, .int .i64 100]) ∧ Below w.heap.size w w') := by
  have HR := Lib.hid (rightBig A n c w h)
  go_enter Try.func8, Try.ntmps8
  go_wp2_with fail
  refine (HR.out).mono ?_
  rintro e w1 ⟨rfl, hb1⟩
  have HB1 := Lib.hid hb1
  clear hb1
  go_wp2
  refine bodyPost_ret (v := .tuple #[.pointer none, .int .i64 100]) (by simp [results, Try.results8, go_sem]) rfl ?_
  exact ⟨rfl, HB1.out⟩
theorem new_any (ts : List Pt) (A : Option Addr) (n c : Nat) (w : World) (hn : n = ts.length) (hok : ∀ t ∈ ts, t.ok) (hr : Rd w A (flat_pts ts)) : Calls Try.prog 8 #[.slice A n c] w (NewS ts w) := by
  by_cases h : n ≤ 5000
  · exact newS ts A n c w hn hok hr h
  · refine (newBig A n c w (by omega)).mono ?_
    rintro e w' ⟨rfl, hb⟩
    have e100 : rightP ts = 100 := rightP_big (by omega)
    refine ⟨hb, ?_⟩
    rw [if_neg (by rw [e100]; decide), e100]
def greatP (ts : List Pt) : Bool := decide (ts.length ≤ 16) && decide (40000 < memP ts)
theorem great_any (ts : List Pt) (A : Option Addr) (n c : Nat) (w : World) (hn : n = ts.length) (hok : ∀ t ∈ ts, t.ok) (hr : Rd w A (flat_pts ts)) : Calls Try.prog 12 #[.slice A n c] w (Quiet (.bool (greatP ts)) w) := by
  by_cases h : n ≤ 16
  · have HM := Lib.hid (memory_any ts A n c w hn hok hr (by omega))
    have hb := memP_bd ts
    have e : greatP ts = decide (40000 < memP ts) := by unfold greatP; rw [decide_eq_true (by omega : ts.length ≤ 16)]; rfl
    rw [e]
    obtain ⟨M, hM⟩ : ∃ M, memP ts = M := ⟨_, rfl⟩
    rw [hM] at HM hb ⊢
    have hi : (n : Int) ≤ 16 := by omega
    clear hn hr hok hM e
    go_enter Try.func12, Try.ntmps12
    go_wp2_with fail
    refine (HM.out).mono ?_
    rintro e w1 ⟨rfl, hb1⟩
    have HB1 := Lib.hid hb1
    clear hb1
    go_wp2
    go_ret
    exact ⟨rfl, HB1.out⟩
  · have e : greatP ts = false := by unfold greatP; rw [decide_eq_false (by omega : ¬ ts.length ≤ 16)]; rfl
    rw [e]
    have hi : ¬ (n : Int) ≤ 16 := by omega
    clear hn hr hok e
    go_enter Try.func12, Try.ntmps12
    go_wp2
    go_ret
    exact ⟨rfl, Below.refl _ _⟩
end Go.Proofs.Ytnohfeaamfjimaa
