/- ValidTells' walk: any bytes: true; nothing that was there is written. No condition. -/
import Derived.Test.YtaiekpdoljleeaaVaR6
namespace Go.Proofs.Ytaiekpdoljleeaa
open Go.RowKit Go.WideShapes
set_option linter.unusedVariables false
set_option linter.unusedSimpArgs false
theorem sameI1 (xs : List Int) (A B : Option Addr) (c d : Nat) (w : World) (hA : Rd w A (ints xs)) (hB : Rd w B (ints xs)) (hl : xs.length ≤ 9223372036854775807) :
    Calls Try.prog 31 #[.slice A xs.length c, .slice B xs.length d] w (Quiet (.bool true) w) :=
  (sameI xs xs A B _ _ c d w rfl rfl hA hB hl).mono fun _ _ ⟨he, hb⟩ => ⟨by rw [he]; simp, hb⟩
set_option maxRecDepth 100000 in
set_option maxHeartbeats 4000000 in
theorem tells_any (bs : List Int) (A : Option Addr) (n c : Nat) (post : Bool) (w : World) (hn : n = bs.length) (ho : Oct bs) (hr : Rd w A (octs bs)) (hnm : n ≤ 9223372036854775807) :
    Calls Try.prog 6 #[.slice A n c, .bool post] w (Quiet (.bool true) w) := by
  have HN := Lib.hid hn
  have HO := Lib.hid ho
  have HR := Lib.hid hr
  clear hn ho hr
  by_cases h8 : 8000 < n
  · have g1 : decide ((8000 : Int) < (n : Int)) = true := by simp; omega
    have hc := chk_any bs A n c post w HN.out HO.out HR.out hnm
    have e3 : chk bs post = 3 := by
      unfold chk codeC codeS
      have := HN.out
      rw [if_pos (show 4096 < bs.length by omega), if_neg (by omega)]
    rw [e3] at hc
    have HC := Lib.hid hc
    clear hc e3
    go_enter Try.func6, Try.ntmps6
    go_wp2_with fail
    refine (HC.out).mono ?_
    rintro e w1 ⟨rfl, hb1⟩
    have B1 := Lib.hid hb1
    clear hb1
    go_wp2_with fail
    refine (awakeV_any _).mono ?_
    rintro e w2 ⟨rfl, hb2⟩
    have B2 := Lib.hid (ch0 B1.out hb2)
    clear hb2
    go_wp2_with fail
    go_ret
    exact ⟨rfl, B2.out⟩
  · have g1 : decide ((8000 : Int) < (n : Int)) = false := by simp; omega
    have hs : n ≤ 4096 → Scan bs (psF bs) (zF bs) := fun h => scan_F bs HO.out (by have := HN.out; omega)
    have HS := Lib.hid hs
    clear hs
    go_enter Try.func6, Try.ntmps6
    go_wp2_with fail
    refine (copyB bs A n c w HN.out HR.out (by omega)).mono ?_
    rintro e w1 ⟨⟨A1, c1, rfl, hc1, o1⟩, hb1⟩
    have RC1 := Lib.hid (Rd.of_own o1)
    have R1 := Lib.hid (HR.out.below hb1 rfl)
    have B1 := Lib.hid hb1
    clear o1 hb1
    go_wp2_with fail
    refine (starts_any bs A1 n c1 (psF bs) (zF bs) w1 HN.out HO.out RC1.out hnm HS.out).mono ?_
    rintro e w2 ⟨⟨A2, c2, rfl, hl2⟩, hb2⟩
    have RC2 := Lib.hid (RC1.out.below hb2 rfl)
    have R2 := Lib.hid (R1.out.below hb2 rfl)
    have B2 := Lib.hid (ch0 B1.out hb2)
    have L2 := Lib.hid hl2
    clear hb2 hl2
    have hst := starts16 bs A n c (psF bs) (zF bs) w2 HN.out HO.out R2.out hnm HS.out
    have hll : (listS bs (psF bs) (zF bs)).length ≤ 9223372036854775807 := by
      unfold listS
      split
      · rename_i h
        have h4 : bs.length ≤ 4096 := by
          unfold codeS at h
          split at h
          · omega
          · omega
        have hz := (scan_F bs HO.out (by omega)).chain.le (by omega)
        rw [startsI_length]
        omega
      · simp
    have HST := Lib.hid hst
    clear hst
    obtain ⟨l, hl⟩ : ∃ l, listS bs (psF bs) (zF bs) = l := ⟨_, rfl⟩
    obtain ⟨x, hx⟩ : ∃ x, codeS bs (zF bs) = x := ⟨_, rfl⟩
    rw [hl] at L2 hll ⊢
    rw [hx]
    have HLE := Lib.hid hl
    have HXE := Lib.hid hx
    clear hl hx
    go_wp2_with fail
    refine (HST.out).mono ?_
    rintro e w3 ⟨⟨A3, c3, rfl, hl3⟩, hb3⟩
    rw [HLE.out] at hl3 ⊢
    rw [HXE.out]
    have RC3 := Lib.hid (RC2.out.below hb3 rfl)
    have R3 := Lib.hid (R2.out.below hb3 rfl)
    have B3 := Lib.hid (ch0 B2.out hb3)
    have L3 := Lib.hid (L2.out.below hb3 rfl)
    have M3 := Lib.hid hl3
    clear hb3 hl3
    go_wp2_with fail
    refine (sameI1 l A2 A3 c2 c3 w3 L3.out M3.out hll).mono ?_
    rintro e w4 ⟨rfl, hb4⟩
    have RC4 := Lib.hid (RC3.out.below hb4 rfl)
    have R4 := Lib.hid (R3.out.below hb4 rfl)
    have B4 := Lib.hid (ch0 B3.out hb4)
    have hxx : (x == x) = true := by simp
    clear hb4
    go_wp2_with fail
    refine (check_any bs A1 n c1 (psF bs) (zF bs) post w4 HN.out HO.out RC4.out hnm HS.out).mono ?_
    rintro e w5 ⟨rfl, hb5⟩
    have RC5 := Lib.hid (RC4.out.below hb5 rfl)
    have R5 := Lib.hid (R4.out.below hb5 rfl)
    have B5 := Lib.hid (ch0 B4.out hb5)
    have hck := check16 bs A n c (psF bs) (zF bs) post w5 HN.out HO.out R5.out hnm HS.out
    have HCK := Lib.hid hck
    clear hb5 hck
    obtain ⟨y, hy⟩ : ∃ y, codeC bs (psF bs) (zF bs) post = y := ⟨_, rfl⟩
    rw [hy]
    have HYE := Lib.hid hy
    clear hy
    go_wp2_with fail
    refine (HCK.out).mono ?_
    rintro e w6 ⟨rfl, hb6⟩
    rw [HYE.out]
    have RC6 := Lib.hid (RC5.out.below hb6 rfl)
    have R6 := Lib.hid (R5.out.below hb6 rfl)
    have B6 := Lib.hid (ch0 B5.out hb6)
    have hyy : (y == y) = true := by simp
    clear hb6
    go_wp2_with fail
    refine (sameB1 bs A1 A n n c1 c w6 HN.out HN.out RC6.out R6.out (by have := HN.out; omega)).mono ?_
    rintro e w7 ⟨rfl, hb7⟩
    have B7 := Lib.hid (ch0 B6.out hb7)
    clear hb7
    go_wp2_with fail
    refine (awakeV_any _).mono ?_
    rintro e w8 ⟨rfl, hb8⟩
    have B8 := Lib.hid (ch0 B7.out hb8)
    clear hb8
    go_wp2_with fail
    go_ret
    exact ⟨rfl, B8.out⟩
theorem validTells_law {H : Type} {enc : TypeId × Value → H} {base : Nat} {d0 : DataW H} {p0 : List MemPlace} (v0 : Value) (post : Bool) (w : World)
    (h0 : Value.okWide Try.prog w .any base 37 v0) (k0 : DataW.Trod enc Try.prog w 0 (fun _ => true) true 37 v0 d0 p0) :
    Calls Try.prog 6 #[v0, .bool post] w fun e w' => e = .returned (.bool true) ∧ Below w.heap.size w w' := by
  obtain ⟨bs, A, c, rfl, ho, hr, h1, hm⟩ := open_bytesV h0 k0
  unfold maxLen at hm
  exact (tells_any bs A _ c post w rfl ho hr (by omega)).mono fun _ _ h => ⟨h.1, h.2⟩
end Go.Proofs.Ytaiekpdoljleeaa
