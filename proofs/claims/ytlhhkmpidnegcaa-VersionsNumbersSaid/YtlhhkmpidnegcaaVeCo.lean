/- versions.copied: files in memory of their own: the walk. -/
import Derived.Test.YtlhhkmpidnegcaaVeFl
namespace Go.Proofs.Ytlhhkmpidnegcaa
open Go.RowKit Go.WideShapes
set_option linter.unusedVariables false
set_option linter.unusedSimpArgs false
structure Copied (fs : List Fl) (n : Nat) (w0 : World) (e : Ending) (w : World) : Prop where
  ex : ∃ A c fs', e = .returned (.slice A n c) ∧ n ≤ c ∧ fs'.length = n ∧ fs'.map Fl.dat = fs.map Fl.dat ∧ OwnF w0.heap.size w (.slice A n c) fs'
  low : Below w0.heap.size w0 w
/-- Where the loop stands. -/
structure CoAt (fs : List Fl) (B g n cap k : Nat) (w : World) : Prop where
  ex : ∃ fs' cs, fs'.length = k ∧ fs'.map Fl.dat = (fs.take k).map Fl.dat ∧ (∀ f ∈ fs', w.ownsRow B 3 1 (.slice f.A f.n f.c) f.n (ints f.fr)) ∧ Blk w g 41 cs ∧ cs.size = cap * 2 ∧ cs.toList.take (n * 2) = flatF (fs' ++ fs.drop k)
theorem CoAt.cell {fs : List Fl} {B g n cap k : Nat} {w : World} (h : CoAt fs B g n cap k w) {f : Fl} (hf : fs[k]? = some f) : w.cell? ⟨g, k * 2 + 1, none⟩ = some (.slice f.A f.n f.c) := by
  obtain ⟨fs', cs, h1, h2, h3, h4, h5, h6⟩ := h.ex
  have hk : k < fs.length := (List.getElem?_eq_some_iff.1 hf).1
  have hl := flatF_at (fs' ++ fs.drop k) k 1 f (by rw [List.getElem?_append_right (by omega), h1, Nat.sub_self, List.getElem?_drop, Nat.add_zero, hf]) (by omega)
  rw [h4.cell, ← Array.getElem?_toList]
  rw [← h6, List.getElem?_take] at hl
  split at hl
  · exact hl
  · cases hl
theorem CoAt.step {fs : List Fl} {B g n cap k : Nat} {w w' : World} {f : Fl} {A2 : Option Addr} {c2 : Nat} (h : CoAt fs B g n cap k w) (hf : fs[k]? = some f) (hn : fs.length = n) (hlen : f.fr.length = f.n) (hlow : Below w.heap.size w w') (ho : w'.ownsRow B 3 1 (.slice A2 f.n c2) f.n (ints f.fr)) :
    CoAt fs B g n cap (k + 1) (w'.setCell ⟨g, k * 2 + 1, none⟩ (.slice A2 f.n c2)) := by
  obtain ⟨fs', cs, h1, h2, h3, h4, h5, h6⟩ := h.ex
  have hk : k < fs.length := (List.getElem?_eq_some_iff.1 hf).1
  have hb := h4.below hlow
  have hfr : Frm (fun b => b = g) w' (w'.setCell ⟨g, k * 2 + 1, none⟩ (.slice A2 f.n c2)) := (Frm.refl (fun b => b = g) w').setCell (p := ⟨g, k * 2 + 1, none⟩) (fun _ => rfl) _
  have hfo : ∀ j, j = g → Foreign w' j ∨ True := fun _ _ => .inr trivial
  have hap : ∀ {v : Value} {m : Nat} {xs : List Value}, w'.ownsRow B 3 1 v m xs → (w'.setCell ⟨g, k * 2 + 1, none⟩ (.slice A2 f.n c2)).ownsRow B 3 1 v m xs := fun hv => hfr.own hv fun j hj e => Blk.apart hb hv (by decide) j hj e
  have hfd : fs.drop k = f :: fs.drop (k + 1) := by
    rw [List.drop_eq_getElem_cons hk]
    rw [List.getElem?_eq_getElem hk] at hf
    injection hf with hf
    rw [hf]
  refine ⟨fs' ++ [⟨f.nm, f.fr, A2, f.n, c2⟩], cs.setIfInBounds (k * 2 + 1) (.slice A2 f.n c2), by simp [h1], ?_, ?_, hb.set _ _, by simp [h5], ?_⟩
  · rw [List.map_append, h2, List.take_add_one, hf, List.map_append]
    rfl
  · intro q hq
    rcases List.mem_append.1 hq with hq | hq
    · exact hap (own_below (h3 q hq) hlow)
    · simp at hq
      subst hq
      exact hap ho
  · rw [Array.toList_setIfInBounds, List.take_set, h6, hfd]
    have := flatF_set fs' f ⟨f.nm, f.fr, A2, f.n, c2⟩ (fs.drop (k + 1)) rfl
    rw [h1] at this
    rw [this, List.append_assoc]
    rfl
theorem CoAt.done {fs : List Fl} {B g n cap c : Nat} {w : World} (h : CoAt fs B g n cap n w) (hn : fs.length = n) (hB : B ≤ g) (hc : n ≤ cap) (hm : cap ≤ maxLen) : ∃ fs', fs'.length = n ∧ fs'.map Fl.dat = fs.map Fl.dat ∧ OwnF B w (.slice (some ⟨g, 0, none⟩) n cap) fs' := by
  obtain ⟨fs', cs, h1, h2, h3, h4, h5, h6⟩ := h.ex
  rw [List.take_of_length_le (by omega)] at h2
  rw [List.drop_of_length_le (by omega), List.append_nil] at h6
  refine ⟨fs', h1, h2, ?_, h3⟩
  rw [h1]
  exact ⟨by rw [flatF_length, h1], .inr ⟨g, cap, cs, rfl, hB, h4, hc, hm, h5, h6⟩⟩
set_option maxHeartbeats 2000000 in
theorem copied_any (fs : List Fl) (A : Option Addr) (n c : Nat) (w : World) (hn : fs.length = n) (hr : RdF w A fs) (hA : A = none → n = 0 ∧ c = 0) (hm : n ≤ 100000) (hf : ∀ f ∈ fs, f.n ≤ 1000000000) : Calls Try.prog 41 #[.slice A n c] w (Copied fs n w) := by
  have hcl := cloneF_any fs A n c w hn hr.row hA (by omega)
  have HCL := Lib.hid hcl
  have HR := Lib.hid hr
  have HN := Lib.hid hn
  have HF := Lib.hid hf
  clear hcl hr hn hf hA
  go_enter Try.func41, Try.ntmps41
  go_wp2_with fail
  refine (HCL.out).mono ?_
  rintro e w1 ⟨⟨A1, c1, rfl, hc1, ho1⟩, hb1⟩
  rcases Nat.eq_zero_or_pos n with h0 | h0
  · subst h0
    have hfs : fs = [] := List.eq_nil_of_length_eq_zero HN.out
    have HFS := Lib.hid hfs
    have HO := Lib.hid ho1
    clear hfs ho1
    go_wp2
    go_loopw [9] (fun i wr => i = .int .i64 0 ∧ w1 = wr) (fun i _ => 0)
    case atStart => exact ⟨rfl, rfl⟩
    case round =>
      obtain ⟨rfl, rfl⟩ := hrel
      go_wp2
      go_ret
      refine ⟨⟨A1, c1, [], rfl, hc1, rfl, by rw [HFS.out], ?_⟩, hb1⟩
      have := HO.out
      rw [HFS.out] at this
      exact ⟨this, fun f hf => by cases hf⟩
  · obtain ⟨g, cap, hv, hB, hlt⟩ := ho1.form h0
    injection hv with hv _ hcap
    subst hv hcap
    have hbl : ∃ cs, Blk w1 g 41 cs ∧ cs.size = c1 * 2 ∧ cs.toList.take (n * 2) = flatF fs ∧ c1 ≤ maxLen := by
      rcases ho1.2 with ⟨h1, _⟩ | ⟨g', cap', cs, hv, _, hg, _, hmx, hsz, htk⟩
      · cases h1
      · injection hv with hv _ hc'
        injection hv with hv
        injection hv with hv
        subst hv hc'
        exact ⟨cs, hg, hsz, htk, hmx⟩
    obtain ⟨cs, hbk, hsz, htk, hmx⟩ := hbl
    have HST := Lib.hid (show CoAt fs w.heap.size g n c1 0 w1 from ⟨[], cs, rfl, rfl, (fun f hf => by cases hf), hbk, hsz, by simpa using htk⟩)
    have HB := Lib.hid hB
    have HMX := Lib.hid hmx
    clear hbk hsz htk cs ho1 hmx hB
    go_wp2
    go_loopw [9] (fun i wr => ∃ k : Nat, k ≤ n ∧ i = .int .i64 k ∧ CoAt fs w.heap.size g n c1 k wr ∧ Below w.heap.size w wr ∧ w.heap.size ≤ wr.heap.size) (fun i _ => n - (intOf i).toNat)
    case atStart => exact ⟨0, by omega, rfl, HST.out, hb1, hb1.size⟩
    case round =>
      obtain ⟨k, hk, rfl, hat, hbw, hsz⟩ := hrel
      by_cases hlt2 : k < n
      · obtain ⟨f, hf⟩ : ∃ f, fs[k]? = some f := ⟨_, List.getElem?_eq_getElem (by rw [HN.out]; exact hlt2)⟩
        have hcell := hat.cell hf
        have hfr := (HR.out.each f (List.mem_of_getElem? hf)).below hbw
        have hcl := cloneI_any f.fr f.A f.n f.c wr hfr.len.symm hfr.fr hfr.nil (HF.out f (List.mem_of_getElem? hf))
        have HFL := Lib.hid hfr.len
        have HAT := Lib.hid hat
        have HFF := Lib.hid hf
        have HBW := Lib.hid hbw
        have HCL2 := Lib.hid hcl
        clear hfr hcl hat hf hbw
        obtain ⟨nm, fr, fA, fn, fc⟩ := f
        simp only at hcell HCL2 HFL
        go_wp2_with fail
        refine (HCL2.out).mono ?_
        rintro e w2 ⟨⟨A2, c2, rfl, hc2, ho2⟩, hb2⟩
        have hc2' : w2.cell? ⟨g, k * 2 + 1, none⟩ = some (.slice fA fn fc) := by
          obtain ⟨_, _, _, _, _, h4, _⟩ := HAT.out.ex
          exact (hb2.cell (p := ⟨g, k * 2 + 1, none⟩) h4.lt).trans hcell
        have hz2 : w2.frozen? ⟨g, k * 2 + 1, none⟩ = false := by
          obtain ⟨_, _, _, _, _, h4, _⟩ := HAT.out.ex
          exact (h4.below hb2).frozen _
        have HNX := Lib.hid (HAT.out.step HFF.out HN.out HFL.out hb2 (own_mono ho2 hsz))
        have HBX := Lib.hid ((HBW.out.trans (hb2.mono hsz)).setCell (p := ⟨g, k * 2 + 1, none⟩) HB.out (.slice A2 fn c2))
        have hsx : w.heap.size ≤ w2.heap.size := Nat.le_trans hsz hb2.size
        clear ho2 hb2
        go_wp2
        go_roundw
        case rel => exact ⟨k + 1, by omega, by go_num, HNX.out, HBX.out, by simpa using hsx⟩
        case measure => simp [intOf]; omega
      · obtain rfl : k = n := by omega
        have HAT := Lib.hid hat
        have HBW := Lib.hid hbw
        clear hat hbw
        go_wp2
        go_ret
        obtain ⟨fs', h1, h2, h3⟩ := HAT.out.done (c := c) HN.out HB.out hc1 HMX.out
        exact ⟨⟨_, c1, fs', rfl, hc1, h1, h2, h3⟩, HBW.out⟩
end Go.Proofs.Ytlhhkmpidnegcaa
