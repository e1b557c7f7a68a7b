/- versions.right; the library's search over pieces: walks. Condition: none. -/
import Derived.Test.YtlhhkmpidnegcaaVePf
namespace Go.Proofs.Ytlhhkmpidnegcaa
open Go.RowKit Go.WideShapes
set_option linter.unusedVariables false
set_option linter.unusedSimpArgs false
/-- PutEntry, whatever the entry. -/
theorem putEntry_any (roll : Int) (fs : List Fl) (Af : Option Addr) (nf cf : Nat) (w : World) (hrd : RdF w Af fs) (hn : fs.length = nf) (hnf : nf ≤ 1000000000) (hnm : ∀ f ∈ fs, f.nm.size ≤ maxLen) : Calls Try.prog 22 #[.agg #[.int .i64 roll, .slice Af nf cf]] w (PutE (putE roll (fs.map Fl.dat)) w) := by
  by_cases hb : (roll < 0 ∨ 1048576 < roll ∨ (0 < roll ∧ 0 < (fs.map Fl.dat).length) ∨ outD (fs.map Fl.dat) = true) ∨ namedB ((fs.map Fl.dat).map Prod.fst) = false ∨ 200 < (fs.map Fl.dat).length
  · exact putE_bad roll fs Af nf cf w hrd hn hnf hnm hb
  · have h1 : 0 ≤ roll := by
      rcases Int.lt_or_le roll 0 with h | h
      · exact absurd (.inl (.inl h)) hb
      · exact h
    have h2 : roll ≤ 1048576 := by
      rcases Int.lt_or_le 1048576 roll with h | h
      · exact absurd (.inl (.inr (.inl h))) hb
      · exact h
    have h3 : outD (fs.map Fl.dat) = false := by
      cases h : outD (fs.map Fl.dat) with
      | true => exact absurd (.inl (.inr (.inr (.inr h)))) hb
      | false => rfl
    have h4 : namedB (fs.map Fl.nm) = true := by
      cases h : namedB (fs.map Fl.nm) with
      | false => exact absurd (.inr (.inl (by rw [dat_names]; exact h))) hb
      | true => rfl
    have h5 : nf ≤ 200 := by
      rcases Nat.lt_or_ge 200 nf with h | h
      · exact absurd (.inr (.inr (by rw [List.length_map, hn]; exact h))) hb
      · exact h
    by_cases h6 : 0 < roll
    · have hz : nf = 0 := by
        rcases Nat.eq_zero_or_pos nf with h | h
        · exact h
        · exact absurd (.inl (.inr (.inr (.inl ⟨h6, by rw [List.length_map, hn]; exact h⟩)))) hb
      subst hz
      obtain rfl : fs = [] := List.eq_nil_of_length_eq_zero hn
      exact putE_roll roll Af cf w h6 h2 hrd
    · obtain rfl : roll = 0 := by omega
      refine putE_list fs Af nf cf w hrd hn h5 (fun f hf => ?_) h3 h4
      obtain ⟨k, hk⟩ := List.getElem?_of_mem hf
      have hkl : k < (fs.map Fl.nm).length := by rw [List.length_map]; exact (List.getElem?_eq_some_iff.1 hk).1
      have := List.all_eq_true.1 h4 k (by simpa using hkl)
      rw [okAt_of hk] at this
      simp only [nameB, Bool.and_eq_true, decide_eq_true_eq] at this
      omega
structure AddV (r : Bool) (w0 : World) (e : Ending) (w : World) : Prop where
  ex : ∃ (num : Int) (fr : Bool) (er : Int), e = .returned (.tuple #[.int .i64 num, .bool fr, .int .i64 er]) ∧ (er == 0) = r
  low : Below w0.heap.size w0 w
set_option maxRecDepth 100000 in
set_option maxHeartbeats 8000000 in
theorem right61 (p : Pc) (hp : p.ok) (w : World) : Calls Try.prog 61 #[p.agg] w (Quiet (.bool (rightP p.s p.b p.a)) w) := by
  have hadd : ∀ B gi mb W, Idx B W gi mb 0 [] (.slice none 0 0) → Calls Try.prog 37 #[.pointer (some ⟨gi, 0, none⟩), .agg p.cells.toArray] W (fun e W' => (∃ (num : Int) (fr : Bool) (er : Int), e = .returned (.tuple #[.int .i64 num, .bool fr, .int .i64 er]) ∧ (er == 0) = rightP p.s p.b p.a) ∧ Below B W W') := fun B gi mb W hW => by
    have hB : B ≤ W.heap.size := by have := hW.ge; have := hW.blk.lt; omega
    cases hr : rightP p.s p.b p.a with
    | false => exact (add_wrong p W hW hp hr).mono fun e W' h => ⟨⟨0, false, 2, h.ret, rfl⟩, h.low.mono hB⟩
    | true =>
      refine (add_new p W hW hp hr rfl (by simp) (by omega) hW.blk.lt).mono fun e W' h => ⟨⟨1, true, 0, h.ret, rfl⟩, h.frm.to_below hB fun k hk => ?_⟩
      rcases hk with rfl | rfl | hk
      · exact hW.ge
      · exact hW.gm
      · simp [Value.ownBlock] at hk
  have hb0 := (Below.refl w.heap.size w).alloc (Nat.le_refl _) (.cells p.cells.toArray 52)
  have hk := Blk.new w 52 p.cells.toArray
  have hrg : ∀ W, Below (w.alloc (.cells p.cells.toArray 52)).heap.size (w.alloc (.cells p.cells.toArray 52)) W → W.rangeAt w.heap.size 0 p.cells := fun W hW j y hy => by
    rw [Nat.zero_add, (hk.below hW).cell, List.getElem?_toArray]
    exact hy
  have hs52 : (Try.prog.info? 52).map (·.size) = some p.cells.length := by rw [Pc.cells_length hp]; exact size39
  have HADD := Lib.hid hadd
  have HB0 := Lib.hid hb0
  have HRG := Lib.hid hrg
  have HS52 := Lib.hid hs52
  unfold Pc.agg
  obtain ⟨r, hr⟩ : ∃ r, rightP p.s p.b p.a = r := ⟨_, rfl⟩
  rw [hr] at HADD ⊢
  clear hadd hb0 hk hrg hs52 hr hp
  generalize p.cells = cs at *
  go_enter Try.func61, Try.ntmps61
  go_wp2_with fail
  obtain ⟨gq, hgq⟩ : ∃ x, w.heap.size = x := ⟨_, rfl⟩
  have HBQ := Lib.hid HB0.out
  rw [hgq] at HRG ⊢
  clear hgq
  generalize w.alloc (.cells cs.toArray 52) = wq at HBQ HB0 HRG ⊢
  have HR0 := Lib.hid (show wq.drew.rangeAt gq 0 cs from HRG.out wq.drew ((Below.refl wq.heap.size wq).drew))
  refine wp_region_held_drew (S := fun w' => w'.rangeAt gq 0 cs) (by kernel_rfl) HR0.out (fun hHeld => ?_)
  refine wpAnyH_takeD (i := 1) (d := 8) (oi := _) (v := .agg cs.toArray) rfl rfl (by kernel_rfl) (by kernel_rfl) (by kernel_rfl) (fun _ _ _ h => h) (yieldsIf_load_mid (by rfl) 52 (.tmp 1) rfl gq 0 rfl cs _ (fun w hw => hw) Try.underlying52 rfl HS52.out) (by assumption) ?_
  simp only [Act.put, List.setIfInBounds_toArray, List.set_cons_zero, List.set_cons_succ]
  refine wpAnyH_ready (rs := [0]) (by kernel_rfl) (by simp) ?_
  refine AllReadyH.cons (o := _) rfl (fun K hK => ?_) AllReadyH.nil
  go_simp
  refine (newIx_any wq.drew).mono ?_
  rintro e w5 ⟨⟨gi, mb, rfl, hi, hg⟩, hb5⟩
  have HI := Lib.hid hi
  have HB5 := Lib.hid (HBQ.out.trans ((of_drew hb5).mono HBQ.out.size))
  have HB5b := Lib.hid hb5
  have hr5 : w5.rangeAt gq 0 cs := HRG.out w5 (of_drew hb5)
  clear hi hb5 hg
  go_wp2_with fail
  refine hK.out _ _ hr5 (fun hHeld => ?_)
  clear hK K
  try simp only [Act.put, List.setIfInBounds_toArray, List.set_cons_zero, List.set_cons_succ]
  refine wpAnyH_ready (rs := [2]) (by kernel_rfl) (by simp) ?_
  refine AllReadyH.cons (o := _) rfl (fun K hK => ?_) AllReadyH.nil
  go_simp
  refine (HADD.out _ gi mb w5 HI.out).mono ?_
  rintro e w6 ⟨⟨num, fr, er, rfl, her⟩, hb6⟩
  have HB6 := Lib.hid (HB5.out.trans (hb6.mono (by have := HBQ.out.size; simpa using this)))
  have hr6 : w6.rangeAt gq 0 cs := HRG.out w6 ((of_drew HB5b.out).trans hb6)
  clear hb6
  go_wp2_with fail
  refine hK.out _ _ hr6 (fun hHeld => ?_)
  clear hK K
  try simp only [Act.put, List.setIfInBounds_toArray, List.set_cons_zero, List.set_cons_succ]
  refine wpAnyH_takeD (i := 3) (d := 6) (oi := _) (v := ?_) rfl rfl (by kernel_rfl) (by kernel_rfl) (by kernel_rfl) (fun _ _ _ h => h) (Or.inl ⟨by rfl, ?_⟩) (by assumption) ?_
  rotate_left
  · (intro w hSw; (try dsimp only at hSw); go_simp) <;> with_reducible rfl
  simp only [Act.put, List.setIfInBounds_toArray, List.set_cons_zero, List.set_cons_succ]
  refine wpAnyH_takeD (i := 4) (d := 10) (oi := _) (v := ?_) rfl rfl (by kernel_rfl) (by kernel_rfl) (by kernel_rfl) (fun _ _ _ h => h) (Or.inl ⟨by rfl, ?_⟩) (by assumption) ?_
  rotate_left
  · (intro w hSw; (try dsimp only at hSw); go_simp) <;> with_reducible rfl
  simp only [Act.put, List.setIfInBounds_toArray, List.set_cons_zero, List.set_cons_succ]
  refine wpAnyH_takeD (i := 5) (d := 11) (oi := _) (v := ?_) rfl rfl (by kernel_rfl) (by kernel_rfl) (by kernel_rfl) (fun _ _ _ h => h) (Or.inl ⟨by rfl, ?_⟩) (by assumption) ?_
  rotate_left
  · (intro w hSw; (try dsimp only at hSw); go_simp) <;> with_reducible rfl
  simp only [Act.put, List.setIfInBounds_toArray, List.set_cons_zero, List.set_cons_succ]
  refine wpAnyH_takeD (i := 6) (d := 12) (oi := _) (v := ?_) rfl rfl (by kernel_rfl) (by kernel_rfl) (by kernel_rfl) (fun _ _ _ h => h) (Or.inl ⟨by rfl, ?_⟩) (by assumption) ?_
  rotate_left
  · (intro w hSw; (try dsimp only at hSw); go_simp) <;> with_reducible rfl
  simp only [Act.put, List.setIfInBounds_toArray, List.set_cons_zero, List.set_cons_succ]
  refine wpAnyH_takeD (i := 7) (d := 3) (oi := _) (v := ?_) rfl rfl (by kernel_rfl) (by kernel_rfl) (by kernel_rfl) (fun _ _ _ h => h) (Or.inl ⟨by rfl, ?_⟩) (by assumption) ?_
  rotate_left
  · (intro w hSw; (try dsimp only at hSw); go_simp) <;> with_reducible rfl
  simp only [Act.put, List.setIfInBounds_toArray, List.set_cons_zero, List.set_cons_succ]
  refine wpAnyH_takeD (i := 8) (d := 4) (oi := _) (v := ?_) rfl rfl (by kernel_rfl) (by kernel_rfl) (by kernel_rfl) (fun _ _ _ h => h) (Or.inl ⟨by rfl, ?_⟩) (by assumption) ?_
  rotate_left
  · (intro w hSw; (try dsimp only at hSw); go_simp) <;> with_reducible rfl
  simp only [Act.put, List.setIfInBounds_toArray, List.set_cons_zero, List.set_cons_succ]
  refine wpAnyH_takeD (i := 9) (d := 5) (oi := _) (v := ?_) rfl rfl (by kernel_rfl) (by kernel_rfl) (by kernel_rfl) (fun _ _ _ h => h) (Or.inl ⟨by rfl, ?_⟩) (by assumption) ?_
  rotate_left
  · (intro w hSw; (try dsimp only at hSw); go_simp) <;> with_reducible rfl
  simp only [Act.put, List.setIfInBounds_toArray, List.set_cons_zero, List.set_cons_succ]
  refine wpAnyH_done (by kernel_rfl) ?_ _
  go_wp2
  go_ret
  refine ⟨ret_bool (by first | exact her | rfl), HB6.out⟩
end Go.Proofs.Ytlhhkmpidnegcaa
