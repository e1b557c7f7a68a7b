/- PartsStand's walk: any parts: true; nothing that was there is written. No condition. -/
import Derived.Test.YtaiekpdoljleeaaPaTell
namespace Go.Proofs.Ytaiekpdoljleeaa
open Go.RowKit Go.WideShapes
set_option linter.unusedVariables false
theorem one_facts (k s a b c r l i : Int) (h : oneP ⟨k, s, a, b, c, r, l⟩ i = true) : (k = 1 ∨ k = 2 ∨ k = 3 ∨ k = 4) ∨ (k = 7 ∧ 0 ≤ a ∧ 1 ≤ b ∧ a + b ≤ i) ∨ ((k = 5 ∨ k = 6 ∨ k = 8 ∨ k = 9) ∧ 0 ≤ a ∧ a ≤ i - 1 ∧ 0 ≤ b ∧ b ≤ i - 1) := by
  rcases kind_cases k with rfl | rfl | rfl | rfl | rfl | rfl | rfl | rfl | rfl | hk
  all_goals first
    | (left; omega)
    | (simp [oneP, okK, rowK, inB] at h; right; first | (left; refine ⟨rfl, ?_⟩; split at h <;> omega) | (right; refine ⟨by omega, ?_⟩; omega))
    | (rw [one_none k s a b c r l i hk] at h; cases h)
theorem memP_mono : ∀ (ts : List Pt) (k : Nat), memP (ts.take k) ≤ memP ts
  | [], k => by simp
  | t :: ts, 0 => by have := memP_bd (t :: ts); simp [memP] at this ⊢; omega
  | t :: ts, k + 1 => by
    have := memP_mono ts k
    have e : ∀ l, memP (t :: l) = plT t + memP l := fun l => rfl
    rw [List.take_succ_cons, e, e]
    omega
theorem right_zero {ts : List Pt} (h : rightP ts = 0) : 1 ≤ ts.length ∧ ts.length ≤ 16 ∧ (∀ j, j < ts.length → oneAt ts j = true) ∧ memP ts ≤ 1048576 := by
  unfold rightP at h
  split at h
  · omega
  · split at h
    · split at h
      · omega
      · rename_i h1 h2 h3
        exact ⟨by omega, by omega, (allOne_iff ts).1 h2, by omega⟩
    · omega
theorem right_take {ts : List Pt} (h : rightP ts = 0) (j : Nat) (hj : j < ts.length) : rightP (ts.take (j + 1)) = 0 := by
  obtain ⟨h1, h2, h3, h4⟩ := right_zero h
  have hl : (ts.take (j + 1)).length = j + 1 := by rw [List.length_take]; omega
  have hm := memP_mono ts (j + 1)
  unfold rightP
  rw [if_neg (by omega), if_pos, if_neg (by omega)]
  refine (allOne_iff _).2 fun q hq => ?_
  rw [hl] at hq
  have := h3 q (by omega)
  unfold oneAt at this ⊢
  rw [List.getD_eq_getElem?_getD, List.getElem?_take_of_lt hq, ← List.getD_eq_getElem?_getD]
  exact this
theorem flat_take (ts : List Pt) (j : Nat) : flat_pts (ts.take j) = (flat_pts ts).take (j * 7) := by
  induction ts generalizing j with
  | nil => simp [flat_pts]
  | cons t ts ih =>
    rcases j with _ | j
    · simp [flat_pts]
    · have e : ∀ l, flat_pts (t :: l) = t.cells ++ flat_pts l := fun l => rfl
      rw [List.take_succ_cons, e, e, ih, List.take_append]
      have : t.cells.length = 7 := rfl
      have h2 : t.cells.take ((j + 1) * 7) = t.cells := List.take_of_length_le (by rw [this]; omega)
      rw [this, h2, show (j + 1) * 7 - 7 = j * 7 by omega]
set_option maxRecDepth 100000 in
set_option maxHeartbeats 8000000 in
theorem stand_any (ts : List Pt) (A : Option Addr) (n c : Nat) (w : World) (hn : n = ts.length) (hok : ∀ t ∈ ts, t.ok) (hr : Rd w A (flat_pts ts)) (hm : c ≤ 9223372036854775807) (hnc : n ≤ c) :
    Calls Try.prog 4 #[.slice A n c] w fun e w' => e = .returned (.bool true) ∧ Below w.heap.size w w' := by
  have HN := Lib.hid hn
  have HOK := Lib.hid hok
  have HR := Lib.hid hr
  clear hn hok hr
  by_cases hbig : 5000 < n
  · go_enter Try.func4, Try.ntmps4
    go_wp2_with (go_at_call 10; refine (awake_any _).mono ?_; rintro e w10 ⟨rfl, hb10⟩)
    go_ret
    exact ⟨rfl, hb10⟩
  · have hl : n ≤ 5000 := by omega
    clear hbig
    go_enter Try.func4, Try.ntmps4
    go_wp2_with fail
    refine (rightList ts A n c w HN.out HOK.out HR.out hl).mono ?_
    obtain ⟨R, hR⟩ : ∃ R, rightP ts = R := ⟨_, rfl⟩
    rw [hR]
    by_cases h0 : R = 0
    · subst h0
      obtain ⟨l1, l2, hall, hmem⟩ := right_zero hR
      have htake := fun j hj => right_take hR j hj
      have HA := Lib.hid hall
      have HT := Lib.hid htake
      have hn1 : 1 ≤ n := by have := HN.out; omega
      have hn2 : n ≤ 16 := by have := HN.out; omega
      have HMEM := Lib.hid hmem
      clear hall htake l1 l2 hR hmem
      rintro e w1 ⟨rfl, hb1⟩
      have B1 := Lib.hid hb1
      clear hb1
      go_wp2_with fail
      go_loopw [3, 17] (fun m i wr => ∃ j : Nat, j ≤ n ∧ i = .int .i64 j ∧ m = .int .i64 (memP (ts.take j)) ∧ Below w.heap.size w wr) (fun _ i _ => n - (intOf i).toNat)
      case atStart => exact ⟨0, by omega, rfl, rfl, B1.out⟩
      case round =>
        obtain ⟨j, hj, rfl, rfl, hb⟩ := hrel
        have HB := Lib.hid hb
        have hmb := memP_bd (ts.take j)
        have hml : (ts.take j).length ≤ j := List.length_take_le _ _
        by_cases hlt : j < n
        · obtain ⟨t, b, o, ht, rfl, hat⟩ := pts_at (HR.out.below hb rfl) (k := j) (by rw [← HN.out]; exact hlt)
          have hsn := memP_snoc ts j t ht
          have hpb := places_bd t.k t.s t.b
          have htk := HOK.out t (List.mem_of_getElem? ht)
          have hpl := fun W => places_any t W htk.s0 htk.s1
          have hone := HA.out j (by rw [← HN.out]; exact hlt)
          rw [oneAt_of ht] at hone
          have hpre := HT.out j (by rw [← HN.out]; exact hlt)
          rw [show placesP t.k t.s t.b = plT t from rfl] at hpb
          obtain ⟨c0, c1, c2, c3, c4, c5, c6⟩ : _ ∧ _ ∧ _ ∧ _ ∧ _ ∧ _ ∧ _ := ⟨hat.c0, hat.c1, hat.c2, hat.c3, hat.c4, hat.c5, hat.c6⟩
          have hrt : ∀ w', Below wr.heap.size wr w' → Calls Try.prog 12 #[.slice (some ⟨b, o, none⟩) (j + 1) c] w' (Quiet (.int .i64 0) w') := fun w' h => by
            have := rightList (ts.take (j + 1)) (some ⟨b, o, none⟩) (j + 1) c w' (by rw [List.length_take]; have := HN.out; omega) (fun t ht => HOK.out t (List.mem_of_mem_take ht)) (by rw [flat_take]; exact ((HR.out.below hb rfl).below h rfl).take _) (by omega)
            rwa [hpre] at this
          obtain ⟨k, s, a, b', c', r, l⟩ := t
          simp only [show placesP k s b' = plT ⟨k, s, a, b', c', r, l⟩ from rfl] at hpl c0 c1 c2 c3 c4 c5 c6
          unfold Pt.agg at hpl
          simp only at hpl
          have hfacts := one_facts k s a b' c' r l j hone
          obtain ⟨p, hp⟩ : ∃ p, plT ⟨k, s, a, b', c', r, l⟩ = p := ⟨_, rfl⟩
          rw [hp] at hsn hpb
          simp only [hp] at hpl
          obtain ⟨M, hM⟩ : ∃ M, memP (ts.take j) = M := ⟨_, rfl⟩
          rw [hM] at hsn hmb ⊢
          have HS := Lib.hid hsn
          have HP := Lib.hid hpl
          have HRT := Lib.hid hrt
          clear hsn hpl hp hM ht hat htk hb hone hpre hrt
          have hjc : j + 1 ≤ c := by omega
          have hjt : ((j : Int) + 1).toNat = j + 1 := by omega
          rcases hfacts with hk | ⟨rfl, f1, f2, f3⟩ | ⟨hk, f1, f2, f3, f4⟩
          · rcases hk with rfl | rfl | rfl | rfl
            all_goals
              go_wp2_with fail
              refine (HP.out _).mono ?_
              rintro e w2 ⟨rfl, hb2⟩
              have hb2' : Below wr.heap.size wr w2 := ((Below.refl wr.heap.size wr).alloc (Nat.le_refl _) _).trans (hb2.mono (by rw [World.size_alloc]; omega))
              have hB2 := (Blk.new wr 32 #[.int .u8 _, .int .i64 s, .int .i64 a, .int .i64 b', .int .i64 c', .int .i64 r, .int .i64 l]).below hb2
              have B2 := Lib.hid hb2'
              have HB2 := Lib.hid hB2
              clear hb2 hb2' hB2
              go_wp2_with fail
              refine (HRT.out w2 B2.out).mono ?_
              rintro e w3 ⟨rfl, hb3⟩
              have hB3 := HB2.out.below hb3
              have q0 := hB3.cell 0
              have q2 := hB3.cell 2
              have q3 := hB3.cell 3
              simp at q0 q2 q3
              have B3 := Lib.hid (ch0 B2.out hb3)
              clear hb3 hB3
              go_wp2_with fail
              go_roundw
              case rel => exact ⟨j + 1, by omega, by go_num, by rw [HS.out], ch0 HB.out B3.out⟩
              case measure => simp [intOf]; omega
          · have g1 : decide (a < 0) = false := by simp; omega
            have g2 : decide (b' < 1) = false := by simp; omega
            have g3 : decide ((j : Int) < a + b') = false := by simp; omega
            have g4 : a + b' ≤ 100 := by omega
            all_goals
              go_wp2_with fail
              refine (HP.out _).mono ?_
              rintro e w2 ⟨rfl, hb2⟩
              have hb2' : Below wr.heap.size wr w2 := ((Below.refl wr.heap.size wr).alloc (Nat.le_refl _) _).trans (hb2.mono (by rw [World.size_alloc]; omega))
              have hB2 := (Blk.new wr 32 #[.int .u8 _, .int .i64 s, .int .i64 a, .int .i64 b', .int .i64 c', .int .i64 r, .int .i64 l]).below hb2
              have B2 := Lib.hid hb2'
              have HB2 := Lib.hid hB2
              clear hb2 hb2' hB2
              go_wp2_with fail
              refine (HRT.out w2 B2.out).mono ?_
              rintro e w3 ⟨rfl, hb3⟩
              have hB3 := HB2.out.below hb3
              have q0 := hB3.cell 0
              have q2 := hB3.cell 2
              have q3 := hB3.cell 3
              simp at q0 q2 q3
              have B3 := Lib.hid (ch0 B2.out hb3)
              clear hb3 hB3
              go_wp2_with fail
              go_roundw
              case rel => exact ⟨j + 1, by omega, by go_num, by rw [HS.out], ch0 HB.out B3.out⟩
              case measure => simp [intOf]; omega
          · have g1 : decide (a < 0) = false := by simp; omega
            have g2 : decide ((j : Int) ≤ a) = false := by simp; omega
            have g3 : decide (b' < 0) = false := by simp; omega
            have g4 : decide ((j : Int) ≤ b') = false := by simp; omega
            rcases hk with rfl | rfl | rfl | rfl
            all_goals
              go_wp2_with fail
              refine (HP.out _).mono ?_
              rintro e w2 ⟨rfl, hb2⟩
              have hb2' : Below wr.heap.size wr w2 := ((Below.refl wr.heap.size wr).alloc (Nat.le_refl _) _).trans (hb2.mono (by rw [World.size_alloc]; omega))
              have hB2 := (Blk.new wr 32 #[.int .u8 _, .int .i64 s, .int .i64 a, .int .i64 b', .int .i64 c', .int .i64 r, .int .i64 l]).below hb2
              have B2 := Lib.hid hb2'
              have HB2 := Lib.hid hB2
              clear hb2 hb2' hB2
              go_wp2_with fail
              refine (HRT.out w2 B2.out).mono ?_
              rintro e w3 ⟨rfl, hb3⟩
              have hB3 := HB2.out.below hb3
              have q0 := hB3.cell 0
              have q2 := hB3.cell 2
              have q3 := hB3.cell 3
              simp at q0 q2 q3
              have B3 := Lib.hid (ch0 B2.out hb3)
              clear hb3 hB3
              go_wp2_with fail
              go_roundw
              case rel => exact ⟨j + 1, by omega, by go_num, by rw [HS.out], ch0 HB.out B3.out⟩
              case measure => simp [intOf]; omega
        · have hjn : j = n := by omega
          subst hjn
          rw [List.take_of_length_le (by rw [← HN.out]; omega)] at hmb ⊢
          have hmem := HMEM.out
          have hmc := memory_any ts A j c wr HN.out HOK.out (HR.out.below hb rfl) hl
          obtain ⟨M, hM⟩ : ∃ M, memP ts = M := ⟨_, rfl⟩
          rw [hM] at hmc hmem hmb ⊢
          have HMC := Lib.hid hmc
          clear hmc hM hb
          go_wp2_with fail
          refine HMC.out.mono ?_
          rintro e w2 ⟨rfl, hb2⟩
          have B2 := Lib.hid (ch0 HB.out hb2)
          clear hb2
          go_wp2_with (go_at_call 10; refine (awake_any _).mono ?_; rintro e w10 ⟨rfl, hb10⟩)
          go_ret
          exact ⟨rfl, ch0 B2.out hb10⟩
    · have g : (R != 0) = true := by simp [h0]
      clear h0 hR
      rintro e w1 ⟨rfl, hb1⟩
      have B1 := Lib.hid hb1
      clear hb1
      go_wp2_with (go_at_call 10; refine (awake_any _).mono ?_; rintro e w10 ⟨rfl, hb10⟩)
      go_ret
      exact ⟨rfl, ch0 B1.out hb10⟩
theorem stand_law {H : Type} {enc : TypeId × Value → H} {base : Nat} {d : DataW H} {ps : List MemPlace} (v : Value) (w : World) (hv : Value.okWide Try.prog w .any base 22 v) (hk : DataW.Trod enc Try.prog w 0 (fun _ => true) true 22 v d ps) :
    Calls Try.prog 4 #[v] w fun e w' => e = .returned (.bool true) ∧ Below w.heap.size w w' := by
  obtain ⟨ts, A, c, rfl, hok, hr, hc, hm⟩ := open_pts hv hk
  exact stand_any ts A _ c w rfl hok hr (by unfold maxLen at *; omega) hc
end Go.Proofs.Ytaiekpdoljleeaa
