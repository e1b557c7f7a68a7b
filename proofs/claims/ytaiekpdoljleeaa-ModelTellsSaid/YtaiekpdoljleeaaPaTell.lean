/- PartsTell's walk: any parts: true; nothing that was there is written. No condition. -/
import Derived.Test.YtaiekpdoljleeaaPaAwake
namespace Go.Proofs.Ytaiekpdoljleeaa
open Go.RowKit Go.WideShapes
set_option linter.unusedVariables false
set_option maxRecDepth 100000 in
set_option maxHeartbeats 4000000 in
theorem tell_any (ts : List Pt) (A : Option Addr) (n c : Nat) (w : World) (hn : n = ts.length) (hok : ∀ t ∈ ts, t.ok) (hr : Rd w A (flat_pts ts)) (hm : n ≤ 9223372036854775807) :
    Calls Try.prog 3 #[.slice A n c] w fun e w' => e = .returned (.bool true) ∧ Below w.heap.size w w' := by
  have HN := Lib.hid hn
  have HOK := Lib.hid hok
  have HR := Lib.hid hr
  clear hn hok hr
  by_cases hbig : 5000 < n
  · go_enter Try.func3, Try.ntmps3
    go_wp2_with (go_at_call 10; refine (awake_any _).mono ?_; rintro e w10 ⟨rfl, hb10⟩)
    go_ret
    exact ⟨rfl, hb10⟩
  · have hl : n ≤ 5000 := by omega
    clear hbig
    go_enter Try.func3, Try.ntmps3
    go_wp2_with fail
    refine (copy_any ts A n c w HN.out HR.out hl).mono ?_
    rintro e w1 ⟨⟨A1, c1, rfl, hc1, o1⟩, hb1⟩
    have O1 := Lib.hid (rd_own o1)
    have B1 := Lib.hid hb1
    clear o1 hb1
    go_wp2_with fail
    refine (rightList ts A1 n c1 w1 HN.out HOK.out O1.out hl).mono ?_
    obtain ⟨R, hR⟩ : ∃ R, rightP ts = R := ⟨_, rfl⟩
    rw [hR]
    have HRR := Lib.hid hR
    clear hR
    rintro e w2 ⟨rfl, hb2⟩
    have O2 := Lib.hid (O1.out.below hb2 rfl)
    have B2 := Lib.hid (ch0 B1.out hb2)
    clear hb2
    go_wp2_with fail
    refine (rightListR ts A n c w2 HN.out (HR.out.below B2.out rfl) hl).mono ?_
    rw [HRR.out]
    rintro e w3 ⟨rfl, hb3⟩
    have O3 := Lib.hid (O2.out.below hb3 rfl)
    have B3 := Lib.hid (ch0 B2.out hb3)
    clear hb3
    go_wp2_with fail
    refine (memory_any ts A1 n c1 w3 HN.out HOK.out O3.out hl).mono ?_
    obtain ⟨M, hM⟩ : ∃ M, memP ts = M := ⟨_, rfl⟩
    rw [hM]
    have HM := Lib.hid hM
    clear hM
    rintro e w4 ⟨rfl, hb4⟩
    have O4 := Lib.hid (O3.out.below hb4 rfl)
    have B4 := Lib.hid (ch0 B3.out hb4)
    clear hb4
    go_wp2_with fail
    refine (memoryR_any ts A n c w4 HN.out (HR.out.below B4.out rfl) hl).mono ?_
    rw [HM.out]
    rintro e w5 ⟨rfl, hb5⟩
    have O5 := Lib.hid (O4.out.below hb5 rfl)
    have B5 := Lib.hid (ch0 B4.out hb5)
    clear hb5
    go_wp2_with fail
    refine (same_any ts A1 A n c1 c w5 HN.out O5.out (HR.out.below B5.out rfl) hl).mono ?_
    rintro e w6 ⟨rfl, hb6⟩
    have B6 := Lib.hid (ch0 B5.out hb6)
    clear hb6
    go_wp2_with fail
    go_loopw [31] (fun i wr => ∃ k : Nat, k ≤ n ∧ i = .int .i64 k ∧ Below w.heap.size w wr) (fun i _ => n - (intOf i).toNat)
    case atStart => exact ⟨0, by omega, rfl, B6.out⟩
    case round =>
      obtain ⟨j, hj, rfl, hb⟩ := hrel
      have HB := Lib.hid hb
      by_cases hlt : j < n
      · obtain ⟨t, b, o, ht, rfl, hat⟩ := pts_at (HR.out.below hb rfl) (k := j) (by rw [← HN.out]; exact hlt)
        have htk := HOK.out t (List.mem_of_getElem? ht)
        have hpl := fun W => places_any t W htk.s0 htk.s1
        have hplR := fun W => placesR_any t W
        have hkeep := fun w' (h : Below wr.heap.size wr w') => hat.keep h.size (fun q hq => h.cell (p := q) (by rw [hq]; exact hat.lt))
        obtain ⟨c0, c1', c2, c3, c4, c5, c6⟩ : _ ∧ _ ∧ _ ∧ _ ∧ _ ∧ _ ∧ _ := ⟨hat.c0, hat.c1, hat.c2, hat.c3, hat.c4, hat.c5, hat.c6⟩
        obtain ⟨k, s, a, b', c', r, l⟩ := t
        unfold Pt.agg at hpl hplR
        simp only at hpl hplR c0 c1' c2 c3 c4 c5 c6
        obtain ⟨p, hp⟩ : ∃ p, placesP k s b' = p := ⟨_, rfl⟩
        simp only [hp] at hpl hplR
        have HP := Lib.hid hpl
        have HPR := Lib.hid hplR
        have HK := Lib.hid hkeep
        have hjn : (j : Int) < (n : Int) := by omega
        clear ht hat htk hpl hplR hp hb hkeep
        go_wp2_with fail
        go_region_held3 (fun w' => w'.cell? ⟨b, o + j * 7, none⟩ = some (.int .u8 k) ∧ w'.cell? ⟨b, o + j * 7 + 1, none⟩ = some (.int .i64 s) ∧ w'.cell? ⟨b, o + j * 7 + 2, none⟩ = some (.int .i64 a) ∧ w'.cell? ⟨b, o + j * 7 + 3, none⟩ = some (.int .i64 b') ∧ w'.cell? ⟨b, o + j * 7 + 4, none⟩ = some (.int .i64 c') ∧ w'.cell? ⟨b, o + j * 7 + 5, none⟩ = some (.int .i64 r) ∧ w'.cell? ⟨b, o + j * 7 + 6, none⟩ = some (.int .i64 l))
          (first | exact ⟨c0, c1', c2, c3, c4, c5, c6⟩ | exact ⟨hq2.c0, hq2.c1, hq2.c2, hq2.c3, hq2.c4, hq2.c5, hq2.c6⟩ | exact ⟨hq1.c0, hq1.c1, hq1.c2, hq1.c3, hq1.c4, hq1.c5, hq1.c6⟩ | go_keep)
          (first
            | (go_at_call 17; refine (HP.out _).mono ?_; rintro e w7 ⟨rfl, hb7⟩; have hb7' := of_drew hb7; have hq1 := HK.out _ hb7')
            | (go_at_call 18; refine (HPR.out _).mono ?_; rintro e w8 ⟨rfl, hb8⟩; have hb8' := hb7'.trans (hb8.mono hb7'.size); have hq2 := HK.out _ hb8'))
        all_goals
          go_wp2_with fail
          go_roundw
          case rel => exact ⟨j + 1, by omega, by go_num, ch0 HB.out hb8'⟩
          case measure => simp [intOf]; omega
      · go_wp2_with (go_at_call 10; refine (awake_any _).mono ?_; rintro e w10 ⟨rfl, hb10⟩)
        go_ret
        exact ⟨rfl, ch0 HB.out hb10⟩
theorem tell_law {H : Type} {enc : TypeId × Value → H} {base : Nat} {d : DataW H} {ps : List MemPlace} (v : Value) (w : World) (hv : Value.okWide Try.prog w .any base 22 v) (hk : DataW.Trod enc Try.prog w 0 (fun _ => true) true 22 v d ps) :
    Calls Try.prog 3 #[v] w fun e w' => e = .returned (.bool true) ∧ Below w.heap.size w w' := by
  obtain ⟨ts, A, c, rfl, hok, hr, hc, hm⟩ := open_pts hv hk
  exact tell_any ts A _ c w rfl hok hr (by unfold maxLen at *; omega)
end Go.Proofs.Ytaiekpdoljleeaa
