/- A program's bytes, told behind how many they are: the closure's walk. -/
import Derived.Test.YtaiekpdoljleeaaMoNx
import Derived.IntWalk
namespace Go.Proofs.Ytaiekpdoljleeaa
open Go.RowKit Go.WideShapes
set_option linter.unusedVariables false
set_option linter.unusedSimpArgs false
theorem Rs.set {g : Nat} {bs : List Int} {A : Option Addr} {n c : Nat} {L : Left} {w : World} (h : Rs g bs A n c L w) : g + 4 < w.heap.size := h.nxt.lt
/-- What was read is bytes. -/
theorem nx_oct {k : Nat} {L : Left} (h : ∀ r, L = some r → Oct r) : Oct (nx k L).2 := by
  rcases L with _ | r
  · intro x hx
    have h0 := List.eq_of_mem_replicate (show x ∈ List.replicate k (0 : Int) from hx)
    omega
  · by_cases hr : k ≤ r.length
    · rw [nx_ok hr]; exact (h r rfl).take k
    · rw [nx_no (by omega)]
      intro x hx
      have h0 := List.eq_of_mem_replicate (show x ∈ List.replicate k (0 : Int) from hx)
      omega
theorem nx_octL {k : Nat} {L : Left} (h : ∀ r, L = some r → Oct r) : ∀ r, (nx k L).1 = some r → Oct r := fun r hr => by
  rcases L with _ | r0
  · cases hr
  · by_cases hk : k ≤ r0.length
    · rw [nx_ok hk] at hr
      obtain rfl := Option.some.inj hr
      exact (h r0 rfl).drop k
    · rw [nx_no (by omega)] at hr; cases hr
theorem codeG_le {L : Left} (h : ∀ r, L = some r → Oct r) : (codeG L).2.length ≤ 65535 := by
  unfold codeG
  rw [nx_len]
  have ho := nx_oct (k := 2) h
  have h0 := ho.getD 0
  have h1 := ho.getD 1
  omega
theorem codeG_oct {L : Left} (h : ∀ r, L = some r → Oct r) : Oct (codeG L).2 := nx_oct (nx_octL h)
theorem codeG_octL {L : Left} (h : ∀ r, L = some r → Oct r) : ∀ r, (codeG L).1 = some r → Oct r := nx_octL (nx_octL h)
structure IsCode (g : Nat) (bs : List Int) (A : Option Addr) (n c : Nat) (L : Left) (w0 : World) (e : Ending) (w : World) : Prop where
  ex : ∃ gb, e = .returned (.slice (some ⟨gb, 0, none⟩) (codeG L).2.length (codeG L).2.length) ∧ w0.heap.size ≤ gb ∧ Blk w gb 5 (octs (codeG L).2).toArray
  st : Rs g bs A n c (codeG L).1 w
  frm : Frm (SR g) w0 w
set_option maxRecDepth 100000 in
set_option maxHeartbeats 4000000 in
theorem code60 (g : Nat) (bs : List Int) (A : Option Addr) (n c : Nat) (L : Left) (w : World) (hn : n = bs.length) (hnc : n ≤ c) (hA : 0 < n → ∀ q, A = some q → q.block < g) (hm : n ≤ 1000000000) (hcm : c ≤ 9223372036854775807) (h : Rs g bs A n c L w) (ho : ∀ r, L = some r → Oct r) :
    Calls Try.prog 60 #[.pointer (some ⟨g + 4, 0, none⟩)] w (IsCode g bs A n c L w) := by
  have c4 := h.nxt.cell 0
  simp at c4
  have hg4 := h.nxt.lt
  have h1 := next_any g bs A n c 2 L w hn hnc hA hm hcm h (by omega)
  have ho2 := nx_oct (k := 2) ho
  have hl2 := nx_len 2 L
  have hcd : codeG L = nx (((nx 2 L).2.getD 0 0 * 256 + (nx 2 L).2.getD 1 0).toNat) (nx 2 L).1 := rfl
  have b0 := ho2.getD 0
  have b1 := ho2.getD 1
  have hnext := fun (k : Nat) (L' : Left) (W : World) (hW : Rs g bs A n c L' W) (hk : k ≤ 65535) => next_any g bs A n c k L' W hn hnc hA hm hcm hW hk
  have H1 := Lib.hid h1
  have HCD := Lib.hid hcd
  have HNEXT := Lib.hid hnext
  have HST := Lib.hid h
  clear h1 hcd hnext ho ho2 h
  go_enter Try.func60, Try.ntmps60
  go_wp2_with fail
  refine (H1.out).mono ?_
  rintro e w1 ⟨⟨gb, rfl, hgb, hb1⟩, hst1, hf1⟩
  obtain ⟨o, hoo⟩ : ∃ o, (nx 2 L).2 = o := ⟨_, rfl⟩
  obtain ⟨L1, hL1⟩ : ∃ x, (nx 2 L).1 = x := ⟨_, rfl⟩
  rw [hoo, hL1] at HCD
  rw [hoo] at hl2 b0 b1 hb1
  rw [hL1] at hst1
  clear hoo hL1
  rcases o with _ | ⟨x, _ | ⟨y, _ | ⟨z, o⟩⟩⟩
  · simp at hl2
  · simp at hl2
  · simp only [List.getD_cons_zero, List.getD_cons_succ] at HCD b0 b1
    have d4 := hst1.nxt.cell 0
    have dl4 := hst1.nxt.lt
    have e0 := hb1.cell 0
    have e1 := hb1.cell 1
    have el := hb1.lt
    simp [octs] at d4 e0 e1
    have hor := or_long x y b0.1 b0.2 b1.1 b1.2
    obtain ⟨K, hK⟩ : ∃ K : Nat, x * 256 + y = K := ⟨(x * 256 + y).toNat, by omega⟩
    have hcall := fun (W : World) (hW : Rs g bs A n c L1 W) => HNEXT.out K L1 W hW (by omega)
    rw [← hK] at hcall
    have hcd2 : codeG L = nx K L1 := by rw [HCD.out, hK]; rfl
    have HC2 := Lib.hid hcd2
    have HCALL := Lib.hid hcall
    have HF1 := Lib.hid hf1
    have HST1 := Lib.hid hst1
    have HOR := Lib.hid hK
    clear hcd2 hcall hf1 hst1 hl2 HCD hb1 hK
    have wx : IntKind.i64.wrap x = x := IntWalk.i64_in _ (by omega)
    have wy : IntKind.i64.wrap y = y := IntWalk.i64_in _ (by omega)
    have wz : IntKind.i64.wrap (x * 256) = x * 256 := IntWalk.i64_in _ (by omega)
    go_wp2_with fail
    go_region_held3 (fun w' => w'.cell? ⟨g + 4, 0, none⟩ = some (.func (.func 59) #[] #[.pointer (some ⟨g + 3, 0, none⟩), .pointer (some ⟨g, 0, none⟩), .pointer (some ⟨g + 2, 0, none⟩)]) ∧ w'.cell? ⟨gb, 0, none⟩ = some (.int .u8 x) ∧ w'.cell? ⟨gb, 1, none⟩ = some (.int .u8 y)) (first | go_keep | (refine ⟨?_, ?_, ?_⟩ <;> assumption))
      ((go_at_call 59; ((with_reducible refine (HCALL.out _ (HST1.out.below (Below.drew' (Below.refl _ _)))).mono ?_)); rintro e w2 ⟨⟨gb2, rfl, hgb2, hb2⟩, hst2, hf2⟩; have q4 := (hf2.cell (p := ⟨g + 4, 0, none⟩) (by exact dl4) (by show ¬ (g + 4 = g + 2 ∨ g + 4 = g + 3); omega)).trans d4; have q0 := (hf2.cell (p := ⟨gb, 0, none⟩) (by exact el) (by show ¬ (gb = g + 2 ∨ gb = g + 3); omega)).trans e0; have q1 := (hf2.cell (p := ⟨gb, 1, none⟩) (by exact el) (by show ¬ (gb = g + 2 ∨ gb = g + 3); omega)).trans e1; have HB2 := Lib.hid hb2; have HST2 := Lib.hid hst2; have HF2 := Lib.hid hf2; clear hb2 hst2 hf2))
    all_goals
      clear wx wy wz hor
      go_wp2_with fail
      go_ret
      have hl := nx_len K L1
      refine ⟨⟨gb2, ?_, ?_, ?_⟩, ?_, ?_⟩
      · rw [HC2.out, hl]; rfl
      · exact Nat.le_trans HF1.out.size hgb2
      · rw [HC2.out]; exact HB2.out
      · rw [HC2.out]; exact HST2.out
      · exact HF1.out.trans (Frm.of_drew HF2.out) (fun _ _ h => h)
  · simp at hl2
end Go.Proofs.Ytaiekpdoljleeaa
