/- A code's instructions reckoned; the chapter's examples: the walk. No condition. -/
import Derived.Test.YtaiekpdoljleeaaVaCh
import Derived.Test.YtaiekpdoljleeaaCoAwake
import Derived.Deep.Grids
namespace Go.Proofs.Ytaiekpdoljleeaa
open Go.RowKit Go.WideShapes Go.ChangeShapes
set_option linter.unusedVariables false
set_option linter.unusedSimpArgs false
def scanF (bs : List Int) : Nat → Nat → List (Nat × In) × Nat
  | 0, a => ([], a)
  | m + 1, a => if a < bs.length then (if (getI bs a).2.2 = 0 then ((a, (getI bs a).1) :: (scanF bs m (getI bs a).2.1.toNat).1, (scanF bs m (getI bs a).2.1.toNat).2) else ([], a)) else ([], a)
theorem scanF_ok (bs : List Int) (ho : Oct bs) (hl : bs.length ≤ 65536) : ∀ (m a : Nat), bs.length - a ≤ m → a ≤ bs.length → Chain bs a (scanF bs m a).1 (scanF bs m a).2 ∧ EndsAt bs (scanF bs m a).2
  | 0, a, h, ha => ⟨rfl, .inl (show a = bs.length by omega)⟩
  | m + 1, a, h, ha => by
    unfold scanF
    rcases Nat.lt_or_ge a bs.length with hlt | hge
    · rw [if_pos hlt]
      have hg := getI_nat bs a hlt hl
      rcases get_cases bs a ho hlt with (hc | hc) | ⟨p, e, hc, hgot⟩
      · rw [if_neg (by rw [hg, hc]; decide)]
        exact ⟨rfl, .inr ⟨hlt, 110, by omega, by omega, by omega, by rw [hg, hc]⟩⟩
      · rw [if_neg (by rw [hg, hc]; decide)]
        exact ⟨rfl, .inr ⟨hlt, 12, by omega, by omega, by omega, by rw [hg, hc]⟩⟩
      · have h1 := hgot.lo
        have h2 := hgot.hi
        rw [if_pos (by rw [hg, hc])]
        have e1 : (getI bs a).2.1.toNat = e := by rw [hg, hc]; rfl
        have e2 : (getI bs a).1 = p := by rw [hg, hc]
        rw [e1, e2]
        obtain ⟨h3, h4⟩ := scanF_ok bs ho hl m e (by omega) h2
        exact ⟨⟨rfl, hlt, e, by rw [hg, hc], hgot, h3⟩, h4⟩
    · rw [if_neg (by omega)]
      exact ⟨rfl, .inl (show a = bs.length by omega)⟩
def psF (bs : List Int) : List (Nat × In) := (scanF bs bs.length 0).1
def zF (bs : List Int) : Nat := (scanF bs bs.length 0).2
theorem scan_F (bs : List Int) (ho : Oct bs) (hl : bs.length ≤ 65536) : Scan bs (psF bs) (zF bs) := by
  obtain ⟨h1, h2⟩ := scanF_ok bs ho hl bs.length 0 (by omega) (by omega)
  exact ⟨h1, h2⟩
/-- What Check tells. -/
def chk (bs : List Int) (post : Bool) : Int := codeC bs (psF bs) (zF bs) post
theorem chk_any (bs : List Int) (A : Option Addr) (n c : Nat) (post : Bool) (w : World) (hn : n = bs.length) (ho : Oct bs) (hr : Rd w A (octs bs)) (hnm : n ≤ 9223372036854775807) :
    Calls Try.prog 26 #[.slice A n c, .bool post] w (Quiet (.int .i64 (chk bs post)) w) :=
  (check_any bs A n c (psF bs) (zF bs) post w hn ho hr hnm (fun h => scan_F bs ho (by omega))).mono fun _ _ h => ⟨h.1, h.2⟩
theorem chkLit (bs : List Int) (post : Bool) (w : World) (us : Array Value) (n g0 : Nat) (h : us.toList = octs bs) (hn : n = bs.length) (ho : Oct bs) (hl : n ≤ 1000) (hg : g0 = w.heap.size) :
    Calls Try.prog 26 #[.slice (some ⟨g0, 0, none⟩) n n, .bool post] (w.alloc (.cells us 5)) (Quiet (.int .i64 (chk bs post)) (w.alloc (.cells us 5))) :=
  chk_any bs _ n n post _ hn ho (by rw [← h, hg]; exact rd_new w us 5) (by omega)
set_option maxRecDepth 100000 in
set_option maxHeartbeats 4000000 in
theorem awakeV_any (w : World) : Calls Try.prog 27 #[] w (Quiet (.bool true) w) := by
  have q1 : chk [0] false = 0 := by decide +kernel
  have q2 : chk [24] false = 110 := by decide +kernel
  have q3 : chk [232, 254] false = 0 := by decide +kernel
  have q4 : chk [232, 255] false = 110 := by decide +kernel
  have q5 : chk [208, 0] false = 110 := by decide +kernel
  have q6 : chk [208, 0] true = 0 := by decide +kernel
  have q7 : chk [] true = 110 := by decide +kernel
  have Q1 := Lib.hid q1
  have Q2 := Lib.hid q2
  have Q3 := Lib.hid q3
  have Q4 := Lib.hid q4
  have Q5 := Lib.hid q5
  have Q6 := Lib.hid q6
  have Q7 := Lib.hid q7
  clear q1 q2 q3 q4 q5 q6 q7
  go_enter Try.func27, Try.ntmps27
  go_wp2_with fail
  refine (chkLit [0] false w #[.int .u8 0] 1 _ rfl rfl (oct_lit _ (by decide)) (by omega) rfl).mono ?_
  rw [Q1.out]
  rintro e w1 ⟨rfl, hb1⟩
  have B1 := Lib.hid (ch1 (Below.refl _ _) hb1)
  clear hb1
  go_wp2_with fail
  refine (chkLit [24] false w1 #[.int .u8 24] 1 _ rfl rfl (oct_lit _ (by decide)) (by omega) rfl).mono ?_
  rw [Q2.out]
  rintro e w2 ⟨rfl, hb2⟩
  have B2 := Lib.hid (ch1 B1.out hb2)
  clear hb2
  go_wp2_with fail
  refine (chkLit [232, 254] false w2 #[.int .u8 232, .int .u8 254] 2 _ rfl rfl (oct_lit _ (by decide)) (by omega) rfl).mono ?_
  rw [Q3.out]
  rintro e w3 ⟨rfl, hb3⟩
  have B3 := Lib.hid (ch1 B2.out hb3)
  clear hb3
  go_wp2_with fail
  refine (chkLit [232, 255] false w3 #[.int .u8 232, .int .u8 255] 2 _ rfl rfl (oct_lit _ (by decide)) (by omega) rfl).mono ?_
  rw [Q4.out]
  rintro e w4 ⟨rfl, hb4⟩
  have B4 := Lib.hid (ch1 B3.out hb4)
  clear hb4
  go_wp2_with fail
  refine (chkLit [208, 0] false w4 #[.int .u8 208, .int .u8 0] 2 _ rfl rfl (oct_lit _ (by decide)) (by omega) rfl).mono ?_
  rw [Q5.out]
  rintro e w5 ⟨rfl, hb5⟩
  have B5 := Lib.hid (ch1 B4.out hb5)
  clear hb5
  go_wp2_with fail
  refine (chkLit [208, 0] true w5 #[.int .u8 208, .int .u8 0] 2 _ rfl rfl (oct_lit _ (by decide)) (by omega) rfl).mono ?_
  rw [Q6.out]
  rintro e w6 ⟨rfl, hb6⟩
  have B6 := Lib.hid (ch1 B5.out hb6)
  clear hb6
  go_wp2_with fail
  refine (chk_any [] none 0 0 true w6 rfl (by intro x hx; cases hx) (Rd.nil _ _) (by omega)).mono ?_
  rw [Q7.out]
  rintro e w7 ⟨rfl, hb7⟩
  have B7 := Lib.hid (ch0 B6.out hb7)
  clear hb7
  go_wp2_with fail
  go_ret
  exact ⟨rfl, B7.out⟩
set_option maxRecDepth 100000 in
theorem open_bytesV {H : Type} {enc : TypeId × Value → H} {base : Nat} {d : DataW H} {ps : List MemPlace} {v : Value} {w : World} (hv : Value.okWide Try.prog w .any base 37 v) (hk : DataW.Trod enc Try.prog w 0 (fun _ => true) true 37 v d ps) :
    ∃ bs A c, v = .slice A bs.length c ∧ Oct bs ∧ Rd w A (octs bs) ∧ bs.length ≤ c ∧ c ≤ maxLen := by
  obtain ⟨a, len, cap, rfl⟩ := okWide_slice Try.underlying37 hv
  obtain ⟨fuel, hf⟩ := hk
  rcases open_ints Try.underlying37 Try.underlying5 (by kernel_rfl) hf with ⟨hcs, _⟩ | ⟨x, l, c, zs, hcs, _, hl, hm, hz, _, hcell, hwz⟩
  · simp [Value.cells] at hcs
    obtain ⟨rfl, rfl, rfl⟩ := hcs
    exact ⟨[], none, 0, rfl, (by intro x hx; cases hx), Rd.nil _ _, Nat.le_refl _, by simp [maxLen]⟩
  · simp [Value.cells] at hcs
    obtain ⟨rfl, rfl, rfl⟩ := hcs
    simp at hz
    refine ⟨zs.take len, some x, cap, by rw [List.length_take]; congr 1; omega, (Oct.of_wf hwz).take len, fun hn => ?_, by rw [List.length_take]; omega, hm⟩
    rw [octs_length, List.length_take] at hn
    obtain ⟨b, off, spot⟩ := x
    have h0 := hcell 0 (by omega)
    have hspot : spot = none := by simpa [Addr.add] using World.cell?_spot h0
    subst hspot
    refine ⟨b, off, rfl, block_lt_of_cell h0, fun i u hu => ?_⟩
    unfold octs at hu
    rw [List.getElem?_map, List.getElem?_take] at hu
    have hi : i < zs.length := by
      rcases Nat.lt_or_ge i zs.length with h | h
      · exact h
      · rw [List.getElem?_eq_none h] at hu; split at hu <;> cases hu
    have := hcell i hi
    rw [addr_add] at this
    rw [this]
    split at hu
    · rw [List.getElem?_eq_getElem hi] at hu
      rw [List.getD_eq_getElem?_getD, List.getElem?_eq_getElem hi]
      simpa using hu
    · cases hu
theorem open_boolsV {H : Type} {enc : TypeId × Value → H} {base : Nat} {d : DataW H} {ps : List MemPlace} {v : Value} {w : World} (hv : Value.okWide Try.prog w .any base 54 v) (hk : DataW.Trod enc Try.prog w 0 (fun _ => true) true 54 v d ps) :
    ∃ (bs : List Bool) (A : Option Addr) (c : Nat), v = .slice A bs.length c ∧ Rd w A (bs.map Value.bool) ∧ bs.length ≤ c ∧ c ≤ maxLen := by
  obtain ⟨a, len, cap, rfl⟩ := okWide_slice Try.underlying54 hv
  obtain ⟨fuel, hf⟩ := hk
  rcases Go.Deep.open_bools Try.underlying54 Try.underlying4 (by kernel_rfl) hf with ⟨hcs, _⟩ | ⟨x, l, c, B, hcs, _, hl, hm, _, hcell⟩
  · simp [Value.cells] at hcs
    obtain ⟨rfl, rfl, rfl⟩ := hcs
    exact ⟨[], none, 0, rfl, Rd.nil _ _, Nat.le_refl _, by simp [maxLen]⟩
  · simp [Value.cells] at hcs
    obtain ⟨rfl, rfl, rfl⟩ := hcs
    refine ⟨(List.range len).map B, some x, cap, by simp, fun hn => ?_, by simpa using hl, hm⟩
    simp at hn
    obtain ⟨b, off, spot⟩ := x
    have h0 := hcell 0 (by omega)
    have hspot : spot = none := by simpa [Addr.add] using World.cell?_spot h0
    subst hspot
    refine ⟨b, off, rfl, block_lt_of_cell h0, fun i u hu => ?_⟩
    have hi : i < len := by
      rcases Nat.lt_or_ge i len with h | h
      · exact h
      · rw [List.getElem?_eq_none (by simpa using h)] at hu; cases hu
    have := hcell i (by omega)
    rw [addr_add] at this
    rw [this]
    rw [List.getElem?_map, List.getElem?_map, List.getElem?_range hi] at hu
    exact hu
end Go.Proofs.Ytaiekpdoljleeaa
