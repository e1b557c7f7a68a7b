/- A list of parts copied, and compared with itself: walks. Lists of at most 5000 parts. -/
import Derived.Test.YtaiekpdoljleeaaPaRight
namespace Go.Proofs.Ytaiekpdoljleeaa
open Go.RowKit Go.WideShapes
set_option linter.unusedVariables false
theorem tPts : SlS Try.prog 22 32 (.agg #[.int .u8 0, .int .i64 0, .int .i64 0, .int .i64 0, .int .i64 0, .int .i64 0, .int .i64 0]) 7 56 := ⟨Try.underlying22, by kernel_rfl, rfl, by decide⟩
structure OwnsP (ts : List Pt) (n : Nat) (w0 : World) (e : Ending) (w : World) : Prop where
  ex : ∃ A c, e = .returned (.slice A n c) ∧ n ≤ c ∧ w.ownsRow w0.heap.size 32 7 (.slice A n c) n (flat_pts ts)
  low : Below w0.heap.size w0 w
set_option maxHeartbeats 2000000 in
theorem copy_any (ts : List Pt) (A : Option Addr) (n c : Nat) (w : World) (hn : n = ts.length) (hr : Rd w A (flat_pts ts)) (hl : n ≤ 5000) :
    Calls Try.prog 11 #[.slice A n c] w (OwnsP ts n w) := by
  have HN := Lib.hid hn
  have HR := Lib.hid hr
  clear hn hr
  go_enter Try.func11, Try.ntmps11
  go_wp2_with fail
  go_loopw [3, 4] (fun v i wr => ∃ k : Nat, k ≤ n ∧ i = .int .i64 k ∧ wr.ownsRow w.heap.size 32 7 v k (flat_pts (ts.take k)) ∧ Below w.heap.size w wr) (fun _ i _ => n - (intOf i).toNat)
  case atStart => exact ⟨0, by omega, rfl, ⟨rfl, .inl ⟨rfl, rfl⟩⟩, Below.refl _ _⟩
  case round =>
    obtain ⟨j, hj, rfl, ho, hb⟩ := hrel
    by_cases hlt : j < n
    · obtain ⟨t, b, o, ht, rfl, hat⟩ := pts_at (HR.out.below hb rfl) (k := j) (by rw [← HN.out]; exact hlt)
      obtain ⟨c0, c1, c2, c3, c4, c5, c6⟩ : _ ∧ _ ∧ _ ∧ _ ∧ _ ∧ _ ∧ _ := ⟨hat.c0, hat.c1, hat.c2, hat.c3, hat.c4, hat.c5, hat.c6⟩
      have hone := t.cells_one
      have hfl : flat_pts (ts.take (j + 1)) = flat_pts (ts.take j) ++ t.cells := by
        rw [List.take_add_one, ht]
        exact flat_pts_snoc _ _
      obtain ⟨k, s, a, b', c', r, l⟩ := t
      simp only at c0 c1 c2 c3 c4 c5 c6
      have H1 := Lib.hid hone
      have HF := Lib.hid hfl
      have HO := Lib.hid ho
      have HB := Lib.hid hb
      clear hone hfl ht hat ho hb
      go_wp2_with (at_builtin; refine wpList_appS tPts rfl (.tmp 11) (.tmp 16) rfl w.heap.size _ j _ rfl HO.out #[.int .u8 k, .int .i64 s, .int .i64 a, .int .i64 b', .int .i64 c', .int .i64 r, .int .i64 l] rfl H1.out _ rfl rfl (by omega) (by unfold maxLen; omega) HB.out.size ?_; intro v2 w2 o2 hb2)
      go_roundw
      case rel =>
        refine ⟨j + 1, by omega, by go_num, ?_, HB.out.trans hb2⟩
        rw [HF.out]
        exact o2
      case measure => simp [intOf]; omega
    · have hkn : j = n := by omega
      subst hkn
      go_wp2
      go_ret
      rw [List.take_of_length_le (by rw [← HN.out]; omega)] at ho
      obtain ⟨A2, c2, rfl, hc2⟩ := own_slice ho
      exact ⟨⟨A2, c2, rfl, hc2, ho⟩, hb⟩
set_option maxRecDepth 100000 in
set_option maxHeartbeats 2000000 in
theorem same_any (ts : List Pt) (A B : Option Addr) (n c d : Nat) (w : World) (hn : n = ts.length) (hr : Rd w A (flat_pts ts)) (hs : Rd w B (flat_pts ts)) (hl : n ≤ 5000) :
    Calls Try.prog 16 #[.slice A n c, .slice B n d] w (Quiet (.bool true) w) := by
  have HN := Lib.hid hn
  have HR := Lib.hid hr
  have HS := Lib.hid hs
  clear hn hr hs
  go_enter Try.func16, Try.ntmps16
  go_wp2_with fail
  go_loopw [5] (fun i wr => ∃ k : Nat, k ≤ n ∧ i = .int .i64 k ∧ Below w.heap.size w wr) (fun i _ => n - (intOf i).toNat)
  case atStart => exact ⟨0, by omega, rfl, Below.refl _ _⟩
  case round =>
    obtain ⟨j, hj, rfl, hb⟩ := hrel
    by_cases hlt : j < n
    · obtain ⟨t, b, o, ht, rfl, hat⟩ := pts_at (HR.out.below hb rfl) (k := j) (by rw [← HN.out]; exact hlt)
      obtain ⟨t', p, q, ht', rfl, hat'⟩ := pts_at (HS.out.below hb rfl) (k := j) (by rw [← HN.out]; exact hlt)
      obtain rfl : t = t' := by rw [ht] at ht'; exact Option.some.inj ht'
      obtain ⟨c0, c1, c2, c3, c4, c5, c6⟩ : _ ∧ _ ∧ _ ∧ _ ∧ _ ∧ _ ∧ _ := ⟨hat.c0, hat.c1, hat.c2, hat.c3, hat.c4, hat.c5, hat.c6⟩
      obtain ⟨d0, d1, d2, d3, d4, d5, d6⟩ : _ ∧ _ ∧ _ ∧ _ ∧ _ ∧ _ ∧ _ := ⟨hat'.c0, hat'.c1, hat'.c2, hat'.c3, hat'.c4, hat'.c5, hat'.c6⟩
      have heq := fun W => eqPt t.k t.s t.a t.b t.c t.r t.l t.k t.s t.a t.b t.c t.r t.l W
      rw [ptB_same] at heq
      obtain ⟨k, s, a, b', c', r, l⟩ := t
      simp only at c0 c1 c2 c3 c4 c5 c6 d0 d1 d2 d3 d4 d5 d6 heq
      have hjn : (j : Int) < (n : Int) := by omega
      have HB := Lib.hid hb
      clear ht ht' hat hat' hb
      go_wp2_with fail
      go_quiet (fail)
      go_wp2
      go_roundw
      case rel => exact ⟨j + 1, by omega, by go_num, below_drewN HB.out _⟩
      case measure => simp [intOf]; omega
    · go_wp2
      go_ret
      exact ⟨rfl, hb⟩
end Go.Proofs.Ytaiekpdoljleeaa
