/- The reference: all lean; the guess: walks. -/
import Derived.Test.YtnohfeaamfjimaaVrBrN
import Derived.Test.YtnohfeaamfjimaaVrBlLs
import Derived.StillTailTactics
import Derived.IntWalk
namespace Go.Proofs.Ytnohfeaamfjimaa
open Go.RowKit Go.WideShapes
set_option linter.unusedVariables false
set_option linter.unusedSimpArgs false
theorem own_rd {w : World} {base n : Nat} {A : Option Addr} {c : Nat} {L : List Int} (h : w.ownsRow base 3 1 (.slice A n c) n (ints L)) : ∀ j, j < L.length → ∃ g2, A = some ⟨g2, 0, none⟩ ∧ w.cell? ⟨g2, j, none⟩ = some (.int .i64 (L.getD j 0)) := fun j hj => by
  have hl : (ints L).length = n := by have := h.1; omega
  rw [ints_length] at hl
  rcases h.2 with ⟨hv, h0⟩ | ⟨g, cap, cur, hv, _⟩
  · omega
  · injection hv with hA _ hc
    subst hA hc
    have := h.cells (g := g) rfl j _ (getD_i hj)
    refine ⟨g, rfl, ?_⟩
    rw [addr_add, Nat.zero_add] at this
    exact this
section
variable {B R cr bits wh : Nat} {us : List Un} {ls : List RL} {c : Int}
set_option maxRecDepth 100000 in
set_option maxHeartbeats 4000000 in
theorem leansR (w : World) (h : RB w B R cr us ls c bits wh) (ho : UsOk us wh) (hc : 0 ≤ c ∧ c ≤ 255) (hb : bits < 8) (h16 : us.length ≤ 16) :
    Calls Try.prog 23 #[.pointer (some ⟨B, 0, none⟩)] w (OwnsV 3 (ints (leansB us c bits)) us.length w) := by
  have HRB := Lib.hid (show ∀ W, Below w.heap.size w W → RB W B R cr us ls c bits wh from fun W hW => h.below hW)
  have HO := Lib.hid ho
  have HLEN := Lib.hid h.len
  clear h ho
  obtain ⟨n, hn⟩ : ∃ n, us.length = n := ⟨_, rfl⟩
  have HN := Lib.hid hn
  rw [hn] at h16 ⊢
  clear hn
  go_enter Try.func23, Try.ntmps23
  go_wp2_with fail
  go_loopw [3, 4] (fun v i wr => ∃ k : Nat, k ≤ n ∧ i = .int .i64 k ∧ wr.ownsRow w.heap.size 3 1 v k (ints (leansB (us.take k) c bits)) ∧ Below w.heap.size w wr) (fun _ i _ => n - (intOf i).toNat)
  case atStart => exact ⟨0, by omega, rfl, ⟨rfl, .inl ⟨rfl, rfl⟩⟩, Below.refl _ _⟩
  case round =>
    obtain ⟨k, hk, rfl, hown, hlow⟩ := hrel
    obtain ⟨A, cp, rfl, hcp⟩ := own_slice hown
    have hrb := HRB.out wr hlow
    have b0 : wr.cell? ⟨B, 0, none⟩ = some (.slice (some ⟨R, 0, none⟩) n cr) := by rw [← HN.out]; exact hrb.blk.cell 0
    have hLk : (leansB (us.take k) c bits).length = k := by rw [leansB_length, List.length_take, HN.out]; omega
    have HOW := Lib.hid hown
    have HLOW := Lib.hid hlow
    by_cases hlt : k < n
    · obtain ⟨u, hu⟩ : ∃ u, us[k]? = some u := ⟨us[k]'(by rw [HN.out]; exact hlt), List.getElem?_eq_getElem (by rw [HN.out]; exact hlt)⟩
      obtain ⟨l, hl⟩ : ∃ l, ls[k]? = some l := ⟨ls[k]'(by rw [← HLEN.out, HN.out]; exact hlt), List.getElem?_eq_getElem (by rw [← HLEN.out, HN.out]; exact hlt)⟩
      have hok := HO.out k u hu
      have hcall := leanR_any (n := n) (cr := cr) (cL := cp) (L := leansB (us.take k) c bits) (hrb.qf hu hl hok.s.1) (hrb.ru k u l hu hl) hok hlt b0 (hrb.blk.cell 1) (hrb.blk.cell 2) hc hb (leansB_ok HO.out c bits k) hLk (by omega) (own_rd hown)
      rw [hLk] at hcall
      have hstep := leans_step hu c bits
      obtain ⟨d, hd⟩ : ∃ d, leanU u c bits (leansB (us.take k) c bits) = d := ⟨_, rfl⟩
      rw [hd] at hcall hstep
      have HCALL := Lib.hid hcall
      have HSTEP := Lib.hid hstep
      have hki : (k : Int) < n := by omega
      clear hcall hstep hd hok hu hl hrb hown hlow hLk
      go_wp2_with fail
      refine (HCALL.out).mono ?_
      rintro e w2 ⟨rfl, hb2⟩
      have HO2 := Lib.hid (own_below HOW.out hb2)
      have HB2 := Lib.hid (bl_step HLOW.out hb2)
      clear hb2 b0
      go_wp2_with (at_builtin; refine wpList_app1 tI1 rfl (.tmp 14) (.tmp 19) rfl w.heap.size _ k _ rfl HO2.out (.int .i64 d) (by rfl) _ rfl rfl (by omega) (by unfold maxLen; omega) HB2.out.size ?_; intro v3 w3 o3 _ hb3)
      go_roundw
      case rel =>
        refine ⟨k + 1, by omega, by go_num, ?_, HB2.out.trans hb3⟩
        rw [HSTEP.out, show ints (leansB (us.take k) c bits ++ [d]) = ints (leansB (us.take k) c bits) ++ [.int .i64 d] by simp [ints]]
        exact o3
      case measure => simp [intOf]; omega
    · obtain rfl : k = n := by omega
      clear hrb hown hlow hLk
      go_wp2
      go_ret
      have ho3 := HOW.out
      rw [List.take_of_length_le (by rw [HN.out]; omega)] at ho3
      exact ⟨⟨A, cp, rfl, hcp, ho3⟩, HLOW.out⟩
set_option maxRecDepth 100000 in
theorem guessR (w : World) (h : RB w B R cr us ls c bits wh) (ho : UsOk us wh) (hc : 0 ≤ c ∧ c ≤ 255) (hb : bits < 8) (h16 : us.length ≤ 16) (hne : 0 < us.length) :
    Calls Try.prog 24 #[.pointer (some ⟨B, 0, none⟩)] w (Quiet (.int .i64 (16 * sqI ((leansB us c bits).getD (us.length - 1) 0))) w) := by
  have HLS := Lib.hid (leansR w h ho hc hb h16)
  have hll := leansB_length us c bits
  obtain ⟨n, hn⟩ : ∃ n, us.length = n + 1 := ⟨us.length - 1, by omega⟩
  rw [hn] at HLS hll h16 ⊢
  rw [Nat.add_sub_cancel]
  obtain ⟨L, hL⟩ : ∃ L, leansB us c bits = L := ⟨_, rfl⟩
  rw [hL] at HLS hll ⊢
  have HLL := Lib.hid hll
  clear hn hL h ho hne hll
  obtain ⟨d, hd⟩ : ∃ d, L.getD n 0 = d := ⟨_, rfl⟩
  have hsq := sq_bd d
  have HSQ := Lib.hid (fun (W : World) => rsquash_any d W)
  obtain ⟨q, hq⟩ : ∃ q, sqI d = q := ⟨_, rfl⟩
  rw [hq] at hsq HSQ
  rw [hd, hq]
  have HD := Lib.hid hd
  clear hd hq
  go_enter Try.func24, Try.ntmps24
  go_wp2_with fail
  refine (HLS.out).mono ?_
  rintro e w2 ⟨⟨A, cp, rfl, hcp, hown⟩, hb2⟩
  obtain ⟨g2, rfl, hcell⟩ := own_rd hown n (by rw [HLL.out]; omega)
  rw [HD.out] at hcell
  have HB2 := Lib.hid hb2
  clear hown hb2
  go_wp2_with fail
  refine (HSQ.out _).mono ?_
  rintro e w3 ⟨rfl, hb3⟩
  have HB3 := Lib.hid (bl_step HB2.out hb3)
  clear hb3
  go_wp2
  go_ret
  exact ⟨rfl, HB3.out⟩
end
end Go.Proofs.Ytnohfeaamfjimaa
