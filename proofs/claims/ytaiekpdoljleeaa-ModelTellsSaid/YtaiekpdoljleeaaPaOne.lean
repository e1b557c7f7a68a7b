/- May a part stand at a place: of the program: the walk. Places from 0 to 100000. -/
import Derived.Test.YtaiekpdoljleeaaPaPlR
namespace Go.Proofs.Ytaiekpdoljleeaa
open Go.RowKit Go.WideShapes
set_option linter.unusedVariables false
def oneP (t : Pt) (i : Int) : Bool :=
  okK t.k && inB t.s (rowK t.k).least (rowK t.k).most (decide (0 ≤ (rowK t.k).most)) && inB t.c (rowK t.k).low (rowK t.k).high (decide (0 < (rowK t.k).high)) && inB t.r 1 64 (rowK t.k).rate && inB t.l 1 1023 (rowK t.k).limit && inB t.a 0 (i - 1) (rowK t.k).a &&
  (if t.k = 7 then inB t.b 1 (if i - t.a < 8 then i - t.a else 8) true else inB t.b 0 (i - 1) (rowK t.k).b)
theorem row7 : (rowK 7).a = true := by rfl
set_option maxRecDepth 100000 in
set_option maxHeartbeats 4000000 in
theorem right_any (t : Pt) (i : Int) (w : World) (i0 : 0 ≤ i) (i1 : i ≤ 100000) : Calls Try.prog 42 #[t.agg, .int .i64 i] w (Quiet (.bool (oneP t i)) w) := by
  obtain ⟨k, s, a, b, c, r, l⟩ := t
  have hrow := fun w => rowOf_any k w
  unfold Pt.agg
  have hR : ∀ w e w', IsRow k w e w' → e = .returned (.tuple #[(rowK k).agg, .bool (okK k)]) ∧ Below w.heap.size w w' := fun w e w' h => ⟨h.1, h.2⟩
  have hone : oneP ⟨k, s, a, b, c, r, l⟩ i = (okK k && inB s (rowK k).least (rowK k).most (decide (0 ≤ (rowK k).most)) && inB c (rowK k).low (rowK k).high (decide (0 < (rowK k).high)) && inB r 1 64 (rowK k).rate && inB l 1 1023 (rowK k).limit && inB a 0 (i - 1) (rowK k).a &&
    (if k = 7 then inB b 1 (if i - a < 8 then i - a else 8) true else inB b 0 (i - 1) (rowK k).b)) := rfl
  simp only
  have h7 : k = 7 → (rowK k).a = true := fun h => by subst h; exact row7
  have hk0 : okK k = true → 1 ≤ k := fun h => by unfold okK at h; simp at h; exact h.1
  obtain ⟨P, hP⟩ : ∃ P, oneP ⟨k, s, a, b, c, r, l⟩ i = P := ⟨_, rfl⟩
  rw [hP] at hone ⊢
  obtain ⟨ok, hok⟩ : ∃ x, okK k = x := ⟨_, rfl⟩
  obtain ⟨R, hRR⟩ : ∃ x, rowK k = x := ⟨_, rfl⟩
  rw [hok, hRR] at hone
  rw [hRR] at h7
  rw [hok] at hk0
  simp only [hok, hRR] at hR
  clear hok hRR
  obtain ⟨le, mo, ra, rb, lo, hi, rr, rl⟩ := R
  simp only at hone h7
  unfold Rw.agg at hR
  have HROW := Lib.hid fun w => (hrow w).mono (hR w)
  have H1 := Lib.hid hone
  have H7 := Lib.hid h7
  have HK := Lib.hid hk0
  clear hrow hR hone hP h7 hk0
  go_enter Try.func42, Try.ntmps42
  go_wp2_with fail
  refine (HROW.out _).mono ?_
  rintro e w1 ⟨rfl, hb1⟩
  have hB := ((Blk.new w 32 #[.int .u8 k, .int .i64 s, .int .i64 a, .int .i64 b, .int .i64 c, .int .i64 r, .int .i64 l]).below hb1).alloc (.cells #[.int .i64 le, .int .i64 mo, .bool ra, .bool rb, .int .i64 lo, .int .i64 hi, .bool rr, .bool rl] 68)
  have p0 := hB.cell 0
  have p1 := hB.cell 1
  have p2 := hB.cell 2
  have p3 := hB.cell 3
  have p4 := hB.cell 4
  have p5 := hB.cell 5
  have p6 := hB.cell 6
  simp at p0 p1 p2 p3 p4 p5 p6
  have HB := Lib.hid (((Below.refl w.heap.size w).alloc (Nat.le_refl _) _).trans (hb1.mono (by rw [World.size_alloc]; omega)))
  clear hB hb1
  cases ok
  · go_wp2_with fail
    go_ret
    exact ⟨by rw [H1.out]; simp, HB.out.alloc HB.out.size _⟩
  · have k1 := HK.out rfl
    have kz : (k == 0) = false := by simp; omega
    have kz' : (k != 0) = true := by simp; omega
    clear HK
    go_wp2_with (go_at_call 62; refine (in_any _ _ _ _ _).mono ?_; rintro e w2 ⟨rfl, rfl⟩)
    all_goals
      go_ret
      refine ⟨ret_bool ?_, HB.out.alloc HB.out.size _⟩
      have h1 := H1.out
      have h7 := H7.out
      have k7 := fun h : k = 7 => h7 h
      clear H1 H7 HB HROW p0 p1 p2 p3 p4 p5 p6 kz kz'
      rw [h1]
      clear h1
      first
        | (simp_all; done)
        | (have e7 : k = 7 := by simp_all
           have ha : inB a 0 (i - 1) ra = true := by simp_all
           rw [k7 e7] at ha
           simp [inB] at ha
           have ew : wrap64 (i - a) = i - a := by unfold wrap64; omega
           simp_all
           try (rw [if_pos (by omega)])
           try (rw [if_neg (by omega)]))
end Go.Proofs.Ytaiekpdoljleeaa
