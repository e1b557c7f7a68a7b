/- CutTells' walk: for every row of bytes, in whatever slice: true, and nothing that was there is written. No condition. -/
import Derived.Test.YtjcaahilgobfhaaCutAwake
namespace Go.Proofs.Ytjcaahilgobfhaa
open Go.RowKit Go.WideShapes
set_option linter.unusedVariables false
theorem cut_first {bs : List Int} {l : List Nat} {n : Nat} (h : Cut bs 0 l) (hn : IsNext bs n) : n = l.headD 0 := by
  cases h with
  | done h0 =>
    have := hn.le
    simp; omega
  | more h0 h1 _ =>
    rw [List.drop_zero] at h1
    simpa using hn.uniq h1
set_option maxRecDepth 100000 in
set_option maxHeartbeats 4000000 in
theorem cutTells_any (bs : List Int) (A : Option Addr) (c : Nat) (w : World) (ho : Oct bs) (hr : Rd w A (octs bs)) (hm : bs.length ≤ c) (hcm : c ≤ maxLen) :
    Calls Try.prog 4 #[.slice A bs.length c] w fun e w' => e = .returned (.bool true) ∧ Below w.heap.size w w' := by
  have HR := Lib.hid hr
  have HO := Lib.hid ho
  have HM := Lib.hid hcm
  unfold maxLen at hcm
  clear hr ho
  by_cases hbig : 30000 < bs.length
  · go_enter Try.func4, Try.ntmps4
    go_wp2_with (go_at_call 15; refine (cutAwake_any _).mono ?_; rintro e w1 ⟨rfl, hb1⟩)
    go_ret
    exact ⟨rfl, hb1⟩
  · obtain ⟨l, hl⟩ := cut_ex bs
    have hll := cut_len hl
    have HL := Lib.hid hl
    clear hl
    go_enter Try.func4, Try.ntmps4
    go_wp2_with fail
    refine (lentBytes_any bs A c w HR.out (by omega)).mono ?_
    rintro e w1 ⟨⟨A1, c1, rfl, hlent⟩, hb1⟩
    have HT := Lib.hid hlent
    clear hlent
    have hcap := HT.out.cap
    go_wp2_with fail
    refine (cuts_to bs A1 _ c1 w1 l HL.out rfl HO.out HT.out.rd (by omega) (by omega) HT.out.capm).mono ?_
    rintro e w2 ⟨⟨A2, c2, rfl, hr2⟩, hb2⟩
    have k2 := ch0 hb1 hb2
    have H2 := Lib.hid hr2
    clear hr2
    go_wp2_with fail
    refine (ref_to bs A _ c w2 l HL.out rfl HO.out (HR.out.below k2 rfl) (by omega)).mono ?_
    rintro e w3 ⟨⟨A3, c3, rfl, hr3⟩, hb3⟩
    have k3 := ch0 k2 hb3
    have H3 := Lib.hid hr3
    clear hr3
    have hfirst : ∀ n, IsNext bs n → n = l.headD 0 := fun n hn => cut_first HL.out hn
    have HF := Lib.hid hfirst
    clear hfirst
    rcases l with _ | ⟨h, t⟩
    · go_wp2_with fail
      refine (sameI [] [] _ _ _ _ _ _ w3 rfl rfl (H2.out.below hb3 rfl) H3.out (by simp)).mono ?_
      rintro e w4 ⟨rfl, hb4⟩
      have k4 := ch0 k3 hb4
      go_wp2_with fail
      refine (next_at bs _ _ _ _ rfl HO.out (HT.out.rd.below (ch0 (ch0 hb2 hb3) hb4) rfl) (by unfold maxLen; omega)).mono ?_
      rintro e w5 ⟨⟨n, rfl, hn⟩, hb5⟩
      obtain rfl := HF.out n hn
      have k5 := ch0 k4 hb5
      go_wp2_with fail
      refine (kept_any w.heap.size bs _ _ _ _ _ (HT.out.below (ch0 (ch0 (ch0 hb2 hb3) hb4) hb5)) (HR.out.below k5 rfl) (by omega) HT.out.capm).mono ?_
      rintro e w6 ⟨rfl, hb6⟩
      go_wp2_with (go_at_call 15; refine (cutAwake_any _).mono ?_; rintro e w7 ⟨rfl, hb7⟩)
      go_ret
      exact ⟨rfl, ch0 (ch0 k5 hb6) hb7⟩
    · obtain ⟨b3, o3, rfl, hlt3, hc3⟩ := H3.out.at (k := 0) (u := .int .i64 h) rfl
      simp only [Nat.add_zero] at hc3
      go_wp2_with fail
      refine (sameI (h :: t) (h :: t) _ _ _ _ _ _ w3 (by simp) (by simp) (H2.out.below hb3 rfl) H3.out (by simp at hll ⊢; omega)).mono ?_
      rintro e w4 ⟨rfl, hb4⟩
      have k4 := ch0 k3 hb4
      go_wp2_with fail
      refine (next_at bs _ _ _ _ rfl HO.out (HT.out.rd.below (ch0 (ch0 hb2 hb3) hb4) rfl) (by unfold maxLen; omega)).mono ?_
      rintro e w5 ⟨⟨n, rfl, hn⟩, hb5⟩
      obtain rfl := HF.out n hn
      have k5 := ch0 k4 hb5
      go_wp2_with fail
      refine (kept_any w.heap.size bs _ _ _ _ _ (HT.out.below (ch0 (ch0 (ch0 hb2 hb3) hb4) hb5)) (HR.out.below k5 rfl) (by omega) HT.out.capm).mono ?_
      rintro e w6 ⟨rfl, hb6⟩
      go_wp2_with (go_at_call 15; refine (cutAwake_any _).mono ?_; rintro e w7 ⟨rfl, hb7⟩)
      go_ret
      exact ⟨rfl, ch0 (ch0 k5 hb6) hb7⟩
end Go.Proofs.Ytjcaahilgobfhaa
