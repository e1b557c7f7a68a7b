/- GetEntry (fn 29) of bytes that are no entry: walks. Condition: none. -/
import Derived.Test.YtlhhkmpidnegcaaVeNu
import Derived.Test.YtlhhkmpidnegcaaVeRp
import Derived.Test.YtlhhkmpidnegcaaHeld
import Derived.BigRegion
import Derived.Deep.DeepCutAuto
import Derived.Deep.CutBlock
namespace Go.Proofs.Ytlhhkmpidnegcaa
open Go.RowKit Go.WideShapes
set_option linter.unusedVariables false
set_option linter.unusedSimpArgs false
structure GetNoE (w0 : World) (e : Ending) (w : World) : Prop where
  ret : e = .returned (.tuple #[.agg #[.int .i64 0, .slice none 0 0], .int .i64 13])
  low : Below w0.heap.size w0 w
theorem PutE.form {r : Int × List Int} {w0 w : World} {e : Ending} (h : PutE r w0 e w) : (∃ A n c x, e = .returned (.tuple #[.slice A n c, .int .i64 x])) ∧ Below w0.heap.size w0 w := by
  obtain ⟨h1, h2⟩ := h
  rcases h1 with ⟨_, rfl⟩ | ⟨_, A, c, rfl, _⟩
  · exact ⟨⟨_, _, _, _, rfl⟩, h2⟩
  · exact ⟨⟨_, _, _, _, rfl⟩, h2⟩
theorem getE_done {w w7 : World} {a : Act} (h : Blk w7 w.heap.size 29 #[.int .i64 0, .slice none 0 0]) (hl : Below w.heap.size w w7)
    (hr : a.tmps[2]? = some (.pointer (some ⟨w.heap.size, 0, none⟩)) ∧ a.tmps[3]? = some (.int .i64 13)) (hd : a.defers = []) : bodyPost Try.prog Try.f29 (GetNoE w) Exit.ret a ((w7.setCell ⟨w.heap.size, 0, none⟩ (.int .i64 0)).setCell ⟨w.heap.size, 1, none⟩ (.slice none 0 0)) := by
  have h1 := (h.set 0 (.int .i64 0)).set 1 (.slice none 0 0)
  have h2 := (hl.setCell (p := ⟨w.heap.size, 0, none⟩) (Nat.le_refl _) (.int .i64 0)).setCell (p := ⟨w.heap.size, 1, none⟩) (Nat.le_refl _) (.slice none 0 0)
  obtain ⟨WE, hWE⟩ : ∃ x, (w7.setCell ⟨w.heap.size, 0, none⟩ (.int .i64 0)).setCell ⟨w.heap.size, 1, none⟩ (.slice none 0 0) = x := ⟨_, rfl⟩
  rw [hWE] at h1 h2 ⊢
  have r0 := h1.cell 0
  have r1 := h1.cell 1
  simp at r0 r1
  exact bodyPost_ret (v := .tuple #[.agg #[.int .i64 0, .slice none 0 0], .int .i64 13]) (by simp [results, Try.results29, go_sem, r0, r1, hr]) hd ⟨rfl, h2⟩
set_option maxRecDepth 100000 in
set_option maxHeartbeats 4000000 in
theorem getE_nil (w : World) : Calls Try.prog 29 #[.slice none 0 0] w (GetNoE w) := by
  obtain ⟨W4, hW4⟩ : ∃ x, (((w.alloc (.cells #[.int .i64 0, .slice none 0 0] 29)).alloc (.cells #[.slice none 0 0, .bool false] 103)).alloc (.cells #[.pointer (some ⟨w.heap.size + 1, 0, none⟩)] 101)).alloc (.cells #[.int .i64 0, .slice none 0 0] 29) = x := ⟨_, rfl⟩
  have hb4 : Below w.heap.size w W4 := by rw [← hW4]; exact ((((Below.refl _ _).alloc (Nat.le_refl _) _).alloc (by simp) _).alloc (by simp; omega) _).alloc (by simp; omega) _
  have h0 : Blk W4 w.heap.size 29 #[.int .i64 0, .slice none 0 0] := by rw [← hW4]; exact (((Blk.new w _ _).alloc _).alloc _).alloc _
  have h1 : Blk W4 (w.heap.size + 1) 103 #[.slice none 0 0, .bool false] := by
    rw [← hW4]
    have := ((Blk.new (w.alloc (.cells #[.int .i64 0, .slice none 0 0] 29)) 103 #[.slice none 0 0, .bool false]).alloc (.cells #[.pointer (some ⟨w.heap.size + 1, 0, none⟩)] 101)).alloc (.cells #[.int .i64 0, .slice none 0 0] 29)
    rwa [World.size_alloc] at this
  have h2 : Blk W4 (w.heap.size + 2) 101 #[.pointer (some ⟨w.heap.size + 1, 0, none⟩)] := by
    rw [← hW4]
    have := (Blk.new ((w.alloc (.cells #[.int .i64 0, .slice none 0 0] 29)).alloc (.cells #[.slice none 0 0, .bool false] 103)) 101 #[.pointer (some ⟨w.heap.size + 1, 0, none⟩)]).alloc (.cells #[.int .i64 0, .slice none 0 0] 29)
    rwa [World.size_alloc, World.size_alloc] at this
  have h3 : Blk W4 (w.heap.size + 3) 29 #[.int .i64 0, .slice none 0 0] := by
    rw [← hW4]
    have := Blk.new (((w.alloc (.cells #[.int .i64 0, .slice none 0 0] 29)).alloc (.cells #[.slice none 0 0, .bool false] 103)).alloc (.cells #[.pointer (some ⟨w.heap.size + 1, 0, none⟩)] 101)) 29 #[.int .i64 0, .slice none 0 0]
    rwa [World.size_alloc, World.size_alloc, World.size_alloc] at this
  have hs4 : W4.heap.size = w.heap.size + 4 := by rw [← hW4]; simp
  have hr : Rdr (w.heap.size + 1) [] false W4 := ⟨⟨none, 0, h1, Rd.nil _ _, Nat.le_refl _, by simp [maxLen], fun a h => by cases h⟩, fun x hx => by cases hx⟩
  have htk := take65 1 W4 hr (by omega)
  have q2 := h2.cell 0
  simp at q2
  have HB4 := Lib.hid hb4
  have H0 := Lib.hid h0
  have H1 := Lib.hid h1
  have H2 := Lib.hid h2
  have H3 := Lib.hid h3
  have HTK := Lib.hid htk
  have HW4 := Lib.hid hW4
  have HS4 := Lib.hid hs4
  clear hb4 h0 h1 h2 h3 htk hr hs4 hW4
  go_enter Try.func29, Try.ntmps29
  go_upto_region 4 with fail
  rw [HW4.out]
  go_wp2_with fail
  refine (HTK.out).mono ?_
  rintro e w5 ⟨⟨A, c, rfl, hc, hcm, hrd⟩, hst, hfr⟩
  obtain ⟨⟨A1, c1, hk, hr1, _, _, hne1⟩, _⟩ := hst
  have hv : takeV 1 [] = [0] := rfl
  rw [hv] at hrd hc ⊢
  have hk' : Blk w5 (w.heap.size + 1) 103 #[.slice A1 0 c1, .bool true] := hk
  obtain ⟨b1, o1, rfl, _, hb1⟩ := hrd.at (k := 0) (u := .int .u8 0) rfl
  simp at hb1
  have h20 := H2.out.frm hfr (by omega)
  have h30 := H3.out.frm hfr (by omega)
  have h00 := H0.out.frm hfr (by omega)
  have hlo := HB4.out.trans (hfr.to_below (B := w.heap.size) (by rw [HS4.out]; omega) (fun k hk => by omega))
  have hks := hk'.set 1 (.bool true)
  simp only [List.setIfInBounds_toArray, List.set_cons_zero, List.set_cons_succ] at hks
  have r2 := h20.cell 0
  have z0 := hk'.frozen 1
  have h31 := h30.far (p := ⟨w.heap.size + 1, 1, none⟩) (by simp) (.bool true)
  have h01 := h00.far (p := ⟨w.heap.size + 1, 1, none⟩) (by simp) (.bool true)
  have h21 := h20.far (p := ⟨w.heap.size + 1, 1, none⟩) (by simp) (.bool true)
  have hlo2 := hlo.setCell (p := ⟨w.heap.size + 1, 1, none⟩) (by simp) (.bool true)
  have hq1 := hk'.cell 1
  simp at r2 hq1
  have hsz : (List.length [(0 : Int)]) = 1 := rfl
  obtain ⟨W6, hW6⟩ : ∃ x, w5.setCell ⟨w.heap.size + 1, 1, none⟩ (.bool true) = x := ⟨_, rfl⟩
  rw [hW6] at hks h31 h01 h21 hlo2
  have e0 := h31.cell 0
  have e1 := h31.cell 1
  have e2 := h21.cell 0
  have e3 := hks.cell 0
  have e4 := hks.cell 1
  simp at e0 e1 e2 e3 e4
  have hpe := (putEntry_any 0 [] none 0 0 W6 ⟨Rd.nil _ _, fun f hf => by cases hf⟩ rfl (by omega) (fun f hf => by cases hf))
  have HPE := Lib.hid hpe
  have HKS := Lib.hid hks
  have H31 := Lib.hid h31
  have H01 := Lib.hid h01
  have H21 := Lib.hid h21
  have HLO2 := Lib.hid hlo2
  have HNE1 := Lib.hid hne1
  have HRD := Lib.hid hrd
  clear hpe hks h31 h01 h21 hlo2 hk hk' hr1 hne1 hrd hfr h20 h30 h00 hlo hv
  go_wp2_with fail
  refine (HPE.out).mono ?_
  intro e w7 hp7
  obtain ⟨⟨A7, n7, c7, x7, rfl⟩, hb7⟩ := hp7.form
  have hk7 := HKS.out.below hb7
  have h37 := H31.out.below hb7
  have h07 := H01.out.below hb7
  have h27 := H21.out.below hb7
  have hl7 := HLO2.out.trans (hb7.mono HLO2.out.size)
  have y2 := h27.cell 0
  have y1 := hk7.cell 1
  have t0 := h07.cell 0
  have t1 := h07.cell 1
  have v0 := h07.frozen 0
  have v1 := h07.frozen 1
  simp at y2 y1 t0 t1
  have H07 := Lib.hid h07
  have HL7 := Lib.hid hl7
  clear hp7 hb7 hk7 h37 h07 h27 hl7 e0 e1 e2 e3 e4 r2 z0 hq1 hb1
  go_wp2_with fail
  exact getE_done H07.out HL7.out ⟨rfl, rfl⟩ rfl
end Go.Proofs.Ytlhhkmpidnegcaa
