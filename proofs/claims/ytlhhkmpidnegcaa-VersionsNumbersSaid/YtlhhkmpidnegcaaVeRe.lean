/- The reader of GetEntry: take and number: walks. Condition: none. -/
import Derived.Test.YtlhhkmpidnegcaaVeGp
import Derived.Lib.EndianBits
namespace Go.Proofs.Ytlhhkmpidnegcaa
open Go.RowKit Go.WideShapes
set_option linter.unusedVariables false
set_option linter.unusedSimpArgs false
/-- A reader in block g: the bytes that are left, whether they were not enough. -/
structure Rdr (g : Nat) (l : List Int) (bad : Bool) (w : World) : Prop where
  ex : ∃ A c, Blk w g 103 #[.slice A l.length c, .bool bad] ∧ Rd w A (octs l) ∧ l.length ≤ c ∧ c ≤ maxLen ∧ ∀ a, A = some a → a.block < g
  oct : Oct l
def takeV (n : Nat) (l : List Int) : List Int := if l.length < n then List.replicate (min n 4) 0 else l.take n
def takeL (n : Nat) (l : List Int) : List Int := if l.length < n then [] else l.drop n
def takeB (n : Nat) (l : List Int) (b : Bool) : Bool := if l.length < n then true else b
theorem Rdr.below {g : Nat} {l : List Int} {bad : Bool} {w w' : World} (h : Rdr g l bad w) (hb : Below w.heap.size w w') : Rdr g l bad w' := by
  obtain ⟨A, c, h1, h2, h3⟩ := h.ex
  exact ⟨⟨A, c, h1.below hb, h2.below hb rfl, h3⟩, h.oct⟩
structure TakenE (g n : Nat) (l : List Int) (bad : Bool) (w0 : World) (e : Ending) (w : World) : Prop where
  ex : ∃ A c, e = .returned (.slice A (takeV n l).length c) ∧ (takeV n l).length ≤ c ∧ c ≤ maxLen ∧ Rd w A (octs (takeV n l))
  st : Rdr g (takeL n l) (takeB n l bad) w
  frm : Frm (fun k => k = g) w0 w
set_option maxRecDepth 100000 in
set_option maxHeartbeats 4000000 in
theorem take65 {g : Nat} {l : List Int} {bad : Bool} (n : Nat) (w : World) (h : Rdr g l bad w) (hn : n ≤ 100000) : Calls Try.prog 65 #[.pointer (some ⟨g, 0, none⟩), .int .i64 (n : Int)] w (TakenE g n l bad w) := by
  obtain ⟨⟨A, c, hb, hr, hlc, hcm, hne⟩, ho⟩ := h
  have hm : c ≤ 9223372036854775807 := by unfold maxLen at hcm; omega
  have c0 := hb.cell 0
  have c1 := hb.cell 1
  have z0 := hb.frozen 0
  have z1 := hb.frozen 1
  simp at c0 c1
  by_cases hlt : l.length < n
  · have hb1 := hb.set 1 (.bool true)
    simp only [List.setIfInBounds_toArray, List.set_cons_zero, List.set_cons_succ] at hb1
    have hb2 := hb1.set 0 (.slice none 0 0)
    simp only [List.setIfInBounds_toArray, List.set_cons_zero, List.set_cons_succ] at hb2
    have k0 := hb1.cell 0
    have y0 := hb1.frozen 0
    simp at k0
    have hfr : Frm (fun k => k = g) w ((w.setCell ⟨g, 1, none⟩ (.bool true)).setCell ⟨g, 0, none⟩ (.slice none 0 0)) := ((Frm.refl (fun k => k = g) w).setCell (p := ⟨g, 1, none⟩) (fun _ => rfl) _).setCell (p := ⟨g, 0, none⟩) (fun _ => rfl) _
    have hv : takeV n l = List.replicate (min n 4) 0 := if_pos hlt
    have hl : takeL n l = [] := if_pos hlt
    have htb : takeB n l bad = true := if_pos hlt
    have hL : (l.length : Int) < n := by omega
    have HB2 := Lib.hid hb2
    have HFR := Lib.hid hfr
    have HV := Lib.hid hv
    have HL := Lib.hid hl
    have HTB := Lib.hid htb
    obtain ⟨m, hm2, hm3⟩ : ∃ m : Nat, m = min n 4 ∧ m ≤ 4 := ⟨min n 4, rfl, by omega⟩
    rw [← hm2] at HV
    have HM2 := Lib.hid hm2
    have HTV := Lib.hid (show (takeV n l).length = m by rw [HV.out, List.length_replicate])
    clear hb hb1 hb2 hfr hv hl htb hr ho hlt hm2
    rcases (show (n : Int) ≤ 4 ∨ (4 : Int) < n by omega) with h4 | h4
    · have HMN := Lib.hid (show m = n by have := HM2.out; omega)
      go_enter Try.func65, Try.ntmps65
      go_wp2_with (refine wpList_mk tBytes rfl rfl (.tmp 20) (.tmp 20) rfl _ .i64 .i64 (n : Int) (n : Int) m rfl rfl (by have := HMN.out; omega) (by have := HMN.out; omega) (by omega) (by unfold maxLen; omega) (Nat.le_refl _) ?_; intro w3 o3 hg3 hb3; have HO3 := Lib.hid o3; have HB3 := Lib.hid hb3; clear o3 hb3)
      go_ret
      exact TakenE.mk ⟨_, m, congrArg (fun k => Ending.returned (.slice _ k m)) HTV.out.symm, by rw [HTV.out]; exact Nat.le_refl _, by unfold maxLen; omega, by rw [HV.out]; have := Rd.of_own HO3.out; simpa [octs] using this⟩ (by rw [HL.out, HTB.out]; exact ⟨⟨none, 0, HB2.out.below HB3.out, Rd.nil _ _, Nat.le_refl _, by simp [maxLen], fun a h => by cases h⟩, fun x hx => by cases hx⟩) (HFR.out.below HB3.out)
    · have HMN := Lib.hid (show m = 4 by have := HM2.out; omega)
      go_enter Try.func65, Try.ntmps65
      go_wp2_with (refine wpList_mk tBytes rfl rfl (.tmp 20) (.tmp 20) rfl _ .i64 .i64 (4 : Int) (4 : Int) m rfl rfl (by have := HMN.out; omega) (by have := HMN.out; omega) (by omega) (by unfold maxLen; omega) (Nat.le_refl _) ?_; intro w3 o3 hg3 hb3; have HO3 := Lib.hid o3; have HB3 := Lib.hid hb3; clear o3 hb3)
      go_ret
      exact TakenE.mk ⟨_, m, congrArg (fun k => Ending.returned (.slice _ k m)) HTV.out.symm, by rw [HTV.out]; exact Nat.le_refl _, by unfold maxLen; omega, by rw [HV.out]; have := Rd.of_own HO3.out; simpa [octs] using this⟩ (by rw [HL.out, HTB.out]; exact ⟨⟨none, 0, HB2.out.below HB3.out, Rd.nil _ _, Nat.le_refl _, by simp [maxLen], fun a h => by cases h⟩, fun x hx => by cases hx⟩) (HFR.out.below HB3.out)
  · have hnl : n ≤ l.length := by omega
    have hv : takeV n l = l.take n := if_neg hlt
    have hl : takeL n l = l.drop n := if_neg hlt
    have htb : takeB n l bad = bad := if_neg hlt
    obtain ⟨Lg, hLg⟩ : ∃ L, l.length = L := ⟨_, rfl⟩
    have hset := hb.set 0 (.slice (if c = n then A else A.map (·.add (n * 1))) (Lg - n) (c - n))
    simp only [List.setIfInBounds_toArray, List.set_cons_zero, List.set_cons_succ] at hset
    have hfr : Frm (fun k => k = g) w (w.setCell ⟨g, 0, none⟩ (.slice (if c = n then A else A.map (·.add (n * 1))) (Lg - n) (c - n))) := (Frm.refl (fun k => k = g) w).setCell (p := ⟨g, 0, none⟩) (fun _ => rfl) _
    have hcut := hr.cut (k := n) (cap := c) (by rw [octs_length]; omega) (by rw [octs_length]; omega)
    have HCUT := Lib.hid hcut
    have HSET := Lib.hid hset
    have HFR := Lib.hid hfr
    have HV := Lib.hid hv
    have HL := Lib.hid hl
    have HTB := Lib.hid htb
    have HNE := Lib.hid hne
    have HR := Lib.hid hr
    have HOC := Lib.hid ho
    have HLG := Lib.hid hLg
    rw [hLg] at hnl hlc hlt c0
    have g1 : (n : Int) ≤ Lg := by omega
    have g2 : (Lg : Int) ≤ c := by omega
    have g3 : ¬ (Lg : Int) < n := by omega
    clear hb hset hfr hcut hv hl htb hne hr ho hLg hlt
    by_cases hcn : c = n
    · subst hcn
      obtain rfl : Lg = c := by omega
      rw [if_pos rfl] at HCUT HSET HFR
      rw [Nat.sub_self] at HSET HFR
      go_enter Try.func65, Try.ntmps65
      go_wp2_with fail
      go_ret
      have hlen : (takeV Lg l).length = Lg := by rw [HV.out, List.length_take, HLG.out]; omega
      have hlen2 : (l.drop Lg).length = 0 := by rw [List.length_drop, HLG.out, Nat.sub_self]
      refine ⟨⟨A, Lg, congrArg (fun k => Ending.returned (.slice A k Lg)) hlen.symm, by rw [hlen]; exact Nat.le_refl _, by unfold maxLen; omega, ?_⟩, ?_, HFR.out⟩
      · rw [HV.out, List.take_of_length_le (by rw [HLG.out]; exact Nat.le_refl _)]
        exact HFR.out.rd HR.out (fun q hq _ => Nat.ne_of_lt (HNE.out q hq))
      · rw [HL.out, HTB.out]
        exact ⟨⟨A, 0, by rw [hlen2]; exact HSET.out, by rw [show l.drop Lg = [] from List.drop_of_length_le (by rw [HLG.out]; exact Nat.le_refl _)]; exact Rd.nil _ _, by rw [hlen2]; exact Nat.le_refl _, by simp [maxLen], HNE.out⟩, HOC.out.drop Lg⟩
    · have g4 : ¬ c = n := hcn
      rw [if_neg g4] at HCUT HSET HFR
      rw [Nat.mul_one] at HCUT HSET HFR
      go_enter Try.func65, Try.ntmps65
      go_wp2_with fail
      go_ret
      have hlen : (takeV n l).length = n := by rw [HV.out, List.length_take, HLG.out]; omega
      have hlen2 : (l.drop n).length = Lg - n := by rw [List.length_drop, HLG.out]
      refine ⟨⟨A, c, congrArg (fun k => Ending.returned (.slice A k c)) hlen.symm, by rw [hlen]; omega, by unfold maxLen; omega, ?_⟩, ?_, HFR.out⟩
      · rw [HV.out]
        have := (HFR.out.rd HR.out (fun q hq _ => Nat.ne_of_lt (HNE.out q hq))).take n
        simpa [octs, List.map_take] using this
      · rw [HL.out, HTB.out]
        refine ⟨⟨_, c - n, by rw [hlen2]; exact HSET.out, ?_, by rw [hlen2]; omega, by unfold maxLen; omega, fun a ha => ?_⟩, HOC.out.drop n⟩
        · have h1 := HFR.out.rd HCUT.out (fun q hq _ => by
            obtain ⟨a0, ha0, rfl⟩ := Option.map_eq_some_iff.1 hq
            have := Nat.ne_of_lt (HNE.out a0 ha0)
            unfold Addr.add
            split <;> exact this)
          simpa [octs, List.map_drop] using h1
        · obtain ⟨a0, ha0, rfl⟩ := Option.map_eq_some_iff.1 ha
          have := HNE.out a0 ha0
          unfold Addr.add
          split <;> exact this
end Go.Proofs.Ytlhhkmpidnegcaa
