/- Is an instruction right, how many bytes it has: walks. No condition. -/
import Derived.Test.YtaiekpdoljleeaaCoR1
import Derived.Test.YtaiekpdoljleeaaCoR2
import Derived.Test.YtaiekpdoljleeaaCoR3
import Derived.Test.YtaiekpdoljleeaaCoM
namespace Go.Proofs.Ytaiekpdoljleeaa
open Go.RowKit Go.WideShapes
set_option linter.unusedVariables false
set_option linter.unusedSimpArgs false
theorem rightI_any (t : In) (w : World) (h0 : 0 ≤ t.o) : Calls Try.prog 23 #[t.agg] w (Quiet (.int .i64 (codeI t)) w) := by
  obtain ⟨o, d, s, n⟩ := t
  rcases sh_cases o with ⟨_, h⟩ | ⟨_, h⟩ | ⟨_, h⟩ | ⟨_, h⟩ | ⟨_, h⟩ | ⟨_, h⟩ | ⟨_, h⟩ | ⟨_, h⟩ | ⟨_, h⟩ | ⟨_, h⟩
  · exact rightI_0 o d s n w h0 h
  · exact rightI_1 o d s n w h0 h
  · exact rightI_2 o d s n w h0 h
  · exact rightI_3 o d s n w h0 h
  · exact rightI_4 o d s n w h0 h
  · exact rightI_5 o d s n w h0 h
  · exact rightI_6 o d s n w h0 h
  · exact rightI_7 o d s n w h0 h
  · exact rightI_8 o d s n w h0 h
  · exact rightI_9 o d s n w h0 h
theorem moreI_any (t : In) (w : World) (h0 : 0 ≤ t.o) : Calls Try.prog 49 #[t.agg] w (Quiet (.int .i64 (moreI t)) w) := by
  obtain ⟨o, d, s, n⟩ := t
  rcases sh_cases o with ⟨_, h⟩ | ⟨_, h⟩ | ⟨_, h⟩ | ⟨_, h⟩ | ⟨_, h⟩ | ⟨_, h⟩ | ⟨_, h⟩ | ⟨_, h⟩ | ⟨_, h⟩ | ⟨_, h⟩
  · exact moreI_0 o d s n w h0 h
  · exact moreI_1 o d s n w h0 h
  · exact moreI_2 o d s n w h0 h
  · exact moreI_3 o d s n w h0 h
  · exact moreI_4 o d s n w h0 h
  · exact moreI_5 o d s n w h0 h
  · exact moreI_6 o d s n w h0 h
  · exact moreI_7 o d s n w h0 h
  · exact moreI_8 o d s n w h0 h
  · exact moreI_9 o d s n w h0 h
set_option maxHeartbeats 1000000 in
theorem length_any (t : In) (w : World) (h0 : 0 ≤ t.o) : Calls Try.prog 22 #[t.agg] w (Quiet (.int .i64 (lenI t)) w) := by
  have hr := fun W => rightI_any t W h0
  have hm := fun W => moreI_any t W h0
  have hmb : 0 ≤ moreI t ∧ moreI t ≤ 2 := by unfold moreI; split <;> (try split) <;> omega
  have hl : lenI t = if rightI t then 1 + moreI t else 0 := rfl
  unfold codeI at hr
  obtain ⟨m, hme⟩ : ∃ m, moreI t = m := ⟨_, rfl⟩
  rw [hme] at hl hmb
  simp only [hme] at hm
  obtain ⟨o, d, s, n⟩ := t
  unfold In.agg at *
  simp only at *
  have HM := Lib.hid hm
  have keep : ∀ (w1 : World), Below (w.alloc (.cells #[.int .u8 o, .int .i64 d, .int .i64 s, .int .i64 n] 36)).heap.size (w.alloc (.cells #[.int .u8 o, .int .i64 d, .int .i64 s, .int .i64 n] 36)) w1 → Blk w1 w.heap.size 36 #[.int .u8 o, .int .i64 d, .int .i64 s, .int .i64 n] := fun w1 h => (Blk.new w 36 _).below h
  have HK := Lib.hid keep
  cases hg : rightI ⟨o, d, s, n⟩
  · rw [hg] at hr hl
    simp only [Bool.false_eq_true, if_false] at hr hl
    have HR := Lib.hid hr
    have HL := Lib.hid hl
    clear hr hl hm hme hg keep
    go_enter Try.func22, Try.ntmps22
    go_wp2_with (go_at_call 23; refine (HR.out _).mono ?_; rintro e w1 ⟨rfl, hb1⟩)
    go_ret
    exact ⟨ret_i64 HL.out.symm, ((Below.refl w.heap.size w).alloc (Nat.le_refl _) _).trans (hb1.mono (by rw [World.size_alloc]; omega))⟩
  · rw [hg] at hr hl
    simp only [if_true] at hr hl
    have HR := Lib.hid hr
    have HL := Lib.hid hl
    clear hr hl hm hme hg keep
    go_enter Try.func22, Try.ntmps22
    go_wp2_with fail
    refine (HR.out _).mono ?_
    rintro e w1 ⟨rfl, hb1⟩
    have hB := HK.out w1 hb1
    have p0 := hB.cell 0
    have p1 := hB.cell 1
    have p2 := hB.cell 2
    have p3 := hB.cell 3
    simp at p0 p1 p2 p3
    have HB := Lib.hid (((Below.refl w.heap.size w).alloc (Nat.le_refl _) _).trans (hb1.mono (by rw [World.size_alloc]; omega)))
    clear hB hb1
    go_wp2_with fail
    refine (HM.out _).mono ?_
    rintro e w2 ⟨rfl, hb2⟩
    go_wp2_with fail
    go_ret
    exact ⟨ret_i64 HL.out.symm, ch0 HB.out hb2⟩
end Go.Proofs.Ytaiekpdoljleeaa
