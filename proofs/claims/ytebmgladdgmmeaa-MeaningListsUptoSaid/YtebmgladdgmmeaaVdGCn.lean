/- copied and CopyMachine: a machine in memory of its own: walks. Condition: memories of at most 10^9 places. -/
import Derived.Test.YtebmgladdgmmeaaVdGCl
import Derived.Deep.CutBlock
import Derived.Deep.DeepCutAuto
import Derived.Deep.RegionWith
namespace Go.Proofs.Ytebmgladdgmmeaa
open Go.RowKit Go.WideShapes
set_option linter.unusedVariables false
set_option linter.unusedSimpArgs false
theorem Mc.one {m : Mc} {vh vm : Value} (hh : vh.oneCell' = true) (hm : vm.oneCell' = true) : (m.cells vh vm).all (·.oneCell') = true := by
  rw [Array.all_eq_true_iff_forall_mem]
  intro u hu
  simp [Mc.cells, Mc.list] at hu
  rcases hu with rfl | rfl | rfl | rfl | rfl | ⟨x, _, rfl⟩ | rfl | rfl <;> first | rfl | assumption
theorem Mc.list_len {m : Mc} (h : m.ok) {vh vm : Value} : (m.list vh vm).length = 263 := by simp [Mc.list, h.len]
theorem own_base {w : World} {b b' n : Nat} {e : TypeId} {size : Nat} {v : Value} {xs : List Value} (h : w.ownsRow b e size v n xs) (hb : b' ≤ b) : w.ownsRow b' e size v n xs := by
  obtain ⟨hl, h⟩ := h
  refine ⟨hl, ?_⟩
  rcases h with h | ⟨g, cap, cur, h1, h2, h3⟩
  · exact .inl h
  · exact .inr ⟨g, cap, cur, h1, Nat.le_trans hb h2, h3⟩
/-- A machine handed back, its memories of the call's own. -/
structure IsMach (m : Mc) (hs ms : List Int) (w0 : World) (e : Ending) (w : World) : Prop where
  ex : ∃ Ah ch Am cm, e = .returned (.agg (m.cells (.slice Ah hs.length ch) (.slice Am ms.length cm))) ∧ hs.length ≤ ch ∧ ms.length ≤ cm ∧ w.ownsRow w0.heap.size 45 1 (.slice Ah hs.length ch) hs.length (hs.map (.int .u32)) ∧ w.ownsRow w0.heap.size 5 1 (.slice Am ms.length cm) ms.length (ms.map (.int .u8))
  low : Below w0.heap.size w0 w
theorem frm_setRow (w : World) (g : Nat) (cs : Array Value) : Frm (fun k => k = g) w (w.setRow g cs) := by
  refine ⟨rfl, rfl, rfl, by simp [World.setRow], fun k hk hn => ?_⟩
  simp only [World.setRow]
  rw [Array.getElem?_modify, if_neg (fun e => hn e.symm)]
theorem blk_setRow {w : World} {g : Nat} {t : TypeId} {cs : Array Value} (h : Blk w g t cs) (c' : Array Value) : Blk (w.setRow g c') g t c' := by
  unfold Blk at h ⊢
  simp only [World.setRow]
  rw [Array.getElem?_modify, if_pos rfl, h]
  rfl
theorem two_set {w : World} {g : Nat} {m : Mc} {vh vm : Value} (h : MBox w g m vh vm) (u v : Value) : MBox ((w.setCell ⟨g, 261, none⟩ u).setCell ⟨g, 262, none⟩ v) g m u v ∧ Frm (fun k => k = g) w ((w.setCell ⟨g, 261, none⟩ u).setCell ⟨g, 262, none⟩ v) :=
  ⟨(h.setH u).setM v, ((Frm.refl (fun k => k = g) w).setCell (p := ⟨g, 261, none⟩) (fun _ => rfl) u).setCell (p := ⟨g, 262, none⟩) (fun _ => rfl) v⟩
set_option maxRecDepth 100000 in
set_option maxHeartbeats 8000000 in
theorem copied_any (m : Mc) (hok : m.ok) (hs ms : List Int) (Ah Am : Option Addr) (ch cm nh nm : Nat) (w : World) (hnh : nh = hs.length) (hnm : nm = ms.length) (hh : Rd w Ah (hs.map (.int .u32))) (hm : Rd w Am (ms.map (.int .u8))) (nilh : Ah = none → nh = 0 ∧ ch = 0) (nilm : Am = none → nm = 0 ∧ cm = 0) (lh : nh ≤ 1000000000) (lm : nm ≤ 1000000000) :
    Calls Try.prog 52 #[.agg (m.cells (.slice Ah nh ch) (.slice Am nm cm))] w (IsMach m hs ms w) := by
  subst hnh hnm
  have hz := (zero_of_info zero50).1
  have hc1 : ∀ W, Below w.heap.size w W → Calls Try.prog 71 #[.slice Ah hs.length ch] W (OwnsV 45 (hs.map (.int .u32)) hs.length W) := fun W hW => cloneW_any hs Ah hs.length ch W rfl (hh.below hW rfl) nilh lh
  have hc2 : ∀ W, Below w.heap.size w W → Calls Try.prog 72 #[.slice Am ms.length cm] W (OwnsV 5 (ms.map (.int .u8)) ms.length W) := fun W hW => cloneB_any ms Am ms.length cm W rfl (hm.below hW rfl) nilm lm
  have hb := (MBox.new hok w (.slice Ah hs.length ch) (.slice Am ms.length cm)).below ((Below.refl _ _).alloc (Nat.le_refl _) (.cells zCells 50))
  have hr0 := Blk.new (w.alloc (.cells (m.cells (.slice Ah hs.length ch) (.slice Am ms.length cm)) 50)) 50 zCells
  rw [World.size_alloc] at hr0
  have hcs := Mc.size hok (.slice Ah hs.length ch) (.slice Am ms.length cm)
  have q1 : (m.cells (.slice Ah hs.length ch) (.slice Am ms.length cm))[261]? = some (.slice Ah hs.length ch) := by rw [← (MBox.new hok w (.slice Ah hs.length ch) (.slice Am ms.length cm)).blk.cell 261]; exact (MBox.new hok w _ _).ch
  have q2 : (m.cells (.slice Ah hs.length ch) (.slice Am ms.length cm))[262]? = some (.slice Am ms.length cm) := by rw [← (MBox.new hok w (.slice Ah hs.length ch) (.slice Am ms.length cm)).blk.cell 262]; exact (MBox.new hok w _ _).cm
  have HC1 := Lib.hid hc1
  have HC2 := Lib.hid hc2
  have HB := Lib.hid hb
  have HR0 := Lib.hid hr0
  have HCS := Lib.hid hcs
  clear hc1 hc2 hh hm hb hr0 hcs nilh nilm
  generalize hcc : m.cells (.slice Ah hs.length ch) (.slice Am ms.length cm) = cs at q1 q2 HCS HB HR0 ⊢
  have HCC := Lib.hid hcc
  clear hcc
  go_enter Try.func52, Try.ntmps52
  go_upto_region 1 with fail
  go_cut [3] from 3 to 11 (fun s wx => ∃ A1 d1 A2 d2, MBox wx w.heap.size m (.slice A1 hs.length d1) (.slice A2 ms.length d2) ∧ Blk wx (w.heap.size + 1) 50 zCells ∧ hs.length ≤ d1 ∧ ms.length ≤ d2 ∧ wx.ownsRow (w.heap.size + 2) 45 1 (.slice A1 hs.length d1) hs.length (hs.map (.int .u32)) ∧ wx.ownsRow (w.heap.size + 2) 5 1 (.slice A2 ms.length d2) ms.length (ms.map (.int .u8)) ∧ Below w.heap.size w wx)
  case first =>
    go_region_with (first
      | (go_at_call 71; go_must (with_reducible refine (HC1.out _ ((((Below.refl _ _).alloc (Nat.le_refl _) _).alloc (by simp) _).drew)).mono ?_); rintro e w1 ⟨⟨A1, d1, rfl, hd1, ho1⟩, hb1⟩; have K1 := Lib.hid ((((Below.refl w.heap.size w).alloc (Nat.le_refl _) _).alloc (by simp) _).drew.trans (hb1.mono (by simp; omega))); have X1 := Lib.hid ((HB.out.below (Below.refl _ _).drew).below hb1); have R1 := Lib.hid (HR0.out.drew.below hb1); have S1 : Hid (w.heap.size + 2 ≤ w1.heap.size) := Lib.hid (by have := hb1.size; simp at this; omega); have O1 := Lib.hid (own_base (b' := w.heap.size + 2) ho1 (by simp)); have x15 := X1.out.cm; clear hb1 ho1)
      | (go_at_call 72; (with_reducible refine (HC2.out w1 K1.out).mono ?_); rintro e w2 ⟨⟨A2, d2, rfl, hd2, ho2⟩, hb2⟩; have K2 := Lib.hid (K1.out.trans (hb2.mono K1.out.size)); have X2 := Lib.hid (X1.out.below hb2); have R2 := Lib.hid (R1.out.below hb2); have O12 := Lib.hid (own_below O1.out hb2); have O2 := Lib.hid (own_base (b' := w.heap.size + 2) ho2 S1.out); have x24 := X2.out.ch; have x25 := X2.out.cm; have f1 := X2.out.fz 261; have f2 := X2.out.fz 262; clear hb2 ho2 x15))
    all_goals
      go_wp2_with fail
      go_meet
      have h3 := two_set X2.out (.slice A1 hs.length d1) (.slice A2 ms.length d2)
      exact ⟨A1, d1, A2, d2, h3.1, R2.out.frm h3.2 (by omega), hd1, hd2, h3.2.own O12.out (fun k hk e => by have := own_ge O12.out k hk; omega), h3.2.own O2.out (fun k hk e => by have := own_ge O2.out k hk; omega), K2.out.trans (h3.2.to_below K2.out.size (fun k hk => by omega))⟩
  case rest =>
    obtain ⟨A1, d1, A2, d2, hb, hr, hd1, hd2, o1, o2, hw⟩ := hcut
    have HB3 := Lib.hid hb
    have HRR := Lib.hid hr
    have O1 := Lib.hid o1
    have O2 := Lib.hid o2
    have HW := Lib.hid hw
    clear hb hr o1 o2 hw
    have hcz := Mc.size HB3.out.ok (.slice A1 hs.length d1) (.slice A2 ms.length d2)
    have hzz : zCells.size = 263 := Mc.size zM_ok _ _
    have hone : (m.cells (.slice A1 hs.length d1) (.slice A2 ms.length d2)).all (·.oneCell') = true := Mc.one rfl rfl
    have HSI : Hid ((Try.prog.info? 50).map (·.size) = some (m.cells (.slice A1 hs.length d1) (.slice A2 ms.length d2)).size) := Lib.hid (by rw [hcz]; exact size50)
    have HSS : Hid (zCells.size = (m.cells (.slice A1 hs.length d1) (.slice A2 ms.length d2)).size) := Lib.hid (by rw [hcz, hzz])
    have HONE := Lib.hid hone
    have HLEN : Hid ((Try.prog.info? 50).map (·.size) = some (m.list (.slice A1 hs.length d1) (.slice A2 ms.length d2)).length) := Lib.hid (by rw [Mc.list_len HB3.out.ok]; exact size50)
    have HRG := Lib.hid HB3.out.range
    obtain ⟨l, hl⟩ : ∃ x, m.list (.slice A1 hs.length d1) (.slice A2 ms.length d2) = x := ⟨_, rfl⟩
    have hcl : m.cells (.slice A1 hs.length d1) (.slice A2 ms.length d2) = l.toArray := by rw [← hl]; rfl
    rw [hcl] at HSI HSS HONE
    rw [hl] at HRG HLEN
    have HCL := Lib.hid hcl
    clear hcz hzz hone hl hcl
    go_wp2_with (first
      | (refine wpList_load_mid rfl 50 (.tmp 1) rfl w.heap.size 0 rfl _ _ HRG.out Try.underlying50 rfl HLEN.out ?_)
      | (refine wpList_store_row rfl 50 (.tmp 2) (.tmp 11) rfl (w.heap.size + 1) l.toArray rfl rfl 50 _ HRR.out HSI.out HSS.out HONE.out ?_))
    have hf := frm_setRow wc (w.heap.size + 1) l.toArray
    have hM : IsMach m hs ms w (.returned (.agg l.toArray)) (wc.setRow (w.heap.size + 1) l.toArray) := ⟨⟨A1, d1, A2, d2, by rw [HCL.out], hd1, hd2, own_base (b' := w.heap.size) (hf.own O1.out (fun k hk e => by have := own_ge O1.out k hk; omega)) (by omega), own_base (b' := w.heap.size) (hf.own O2.out (fun k hk e => by have := own_ge O2.out k hk; omega)) (by omega)⟩, HW.out.trans (hf.to_below HW.out.size (fun k hk => by omega))⟩
    exact bodyPost_ret (v := .agg l.toArray) (results_cell_row rfl _ _ (w.heap.size + 1) 50 l.toArray _ _ rfl (blk_setRow HRR.out l.toArray) Try.underlying50 rfl HSI.out) rfl hM
set_option maxRecDepth 100000 in
set_option maxHeartbeats 8000000 in
theorem copyMach_any (m : Mc) (hok : m.ok) (hs ms : List Int) (Ah Am : Option Addr) (ch cm nh nm : Nat) (w : World) (hnh : nh = hs.length) (hnm : nm = ms.length) (hh : Rd w Ah (hs.map (.int .u32))) (hm : Rd w Am (ms.map (.int .u8))) (lh : nh ≤ 1000000000) (lm : nm ≤ 1000000000) :
    Calls Try.prog 22 #[.agg (m.cells (.slice Ah nh ch) (.slice Am nm cm))] w (IsMach m hs ms w) := by
  subst hnh hnm
  have hz := (zero_of_info zero50).1
  have hc1 : ∀ W, Below w.heap.size w W → Calls Try.prog 50 #[.slice Ah hs.length ch] W (OwnsV 45 (hs.map (.int .u32)) hs.length W) := fun W hW => copyWords_any hs Ah hs.length ch W rfl (hh.below hW rfl) lh
  have hc2 : ∀ W, Below w.heap.size w W → Calls Try.prog 51 #[.slice Am ms.length cm] W (OwnsV 5 (ms.map (.int .u8)) ms.length W) := fun W hW => copyBytes_any ms Am ms.length cm W rfl (hm.below hW rfl) lm
  have hb := (MBox.new hok w (.slice Ah hs.length ch) (.slice Am ms.length cm)).below ((Below.refl _ _).alloc (Nat.le_refl _) (.cells zCells 50))
  have hr0 := Blk.new (w.alloc (.cells (m.cells (.slice Ah hs.length ch) (.slice Am ms.length cm)) 50)) 50 zCells
  rw [World.size_alloc] at hr0
  have hcs := Mc.size hok (.slice Ah hs.length ch) (.slice Am ms.length cm)
  have q1 : (m.cells (.slice Ah hs.length ch) (.slice Am ms.length cm))[261]? = some (.slice Ah hs.length ch) := by rw [← (MBox.new hok w (.slice Ah hs.length ch) (.slice Am ms.length cm)).blk.cell 261]; exact (MBox.new hok w _ _).ch
  have q2 : (m.cells (.slice Ah hs.length ch) (.slice Am ms.length cm))[262]? = some (.slice Am ms.length cm) := by rw [← (MBox.new hok w (.slice Ah hs.length ch) (.slice Am ms.length cm)).blk.cell 262]; exact (MBox.new hok w _ _).cm
  have HC1 := Lib.hid hc1
  have HC2 := Lib.hid hc2
  have HB := Lib.hid hb
  have HR0 := Lib.hid hr0
  have HCS := Lib.hid hcs
  clear hc1 hc2 hh hm hb hr0 hcs
  generalize hcc : m.cells (.slice Ah hs.length ch) (.slice Am ms.length cm) = cs at q1 q2 HCS HB HR0 ⊢
  have HCC := Lib.hid hcc
  clear hcc
  go_enter Try.func22, Try.ntmps22
  go_upto_region 1 with fail
  go_cut [3] from 3 to 11 (fun s wx => ∃ A1 d1 A2 d2, MBox wx w.heap.size m (.slice A1 hs.length d1) (.slice A2 ms.length d2) ∧ Blk wx (w.heap.size + 1) 50 zCells ∧ hs.length ≤ d1 ∧ ms.length ≤ d2 ∧ wx.ownsRow (w.heap.size + 2) 45 1 (.slice A1 hs.length d1) hs.length (hs.map (.int .u32)) ∧ wx.ownsRow (w.heap.size + 2) 5 1 (.slice A2 ms.length d2) ms.length (ms.map (.int .u8)) ∧ Below w.heap.size w wx)
  case first =>
    go_region_with (first
      | (go_at_call 50; go_must (with_reducible refine (HC1.out _ ((((Below.refl _ _).alloc (Nat.le_refl _) _).alloc (by simp) _).drew)).mono ?_); rintro e w1 ⟨⟨A1, d1, rfl, hd1, ho1⟩, hb1⟩; have K1 := Lib.hid ((((Below.refl w.heap.size w).alloc (Nat.le_refl _) _).alloc (by simp) _).drew.trans (hb1.mono (by simp; omega))); have X1 := Lib.hid ((HB.out.below (Below.refl _ _).drew).below hb1); have R1 := Lib.hid (HR0.out.drew.below hb1); have S1 : Hid (w.heap.size + 2 ≤ w1.heap.size) := Lib.hid (by have := hb1.size; simp at this; omega); have O1 := Lib.hid (own_base (b' := w.heap.size + 2) ho1 (by simp)); have x15 := X1.out.cm; clear hb1 ho1)
      | (go_at_call 51; (with_reducible refine (HC2.out w1 K1.out).mono ?_); rintro e w2 ⟨⟨A2, d2, rfl, hd2, ho2⟩, hb2⟩; have K2 := Lib.hid (K1.out.trans (hb2.mono K1.out.size)); have X2 := Lib.hid (X1.out.below hb2); have R2 := Lib.hid (R1.out.below hb2); have O12 := Lib.hid (own_below O1.out hb2); have O2 := Lib.hid (own_base (b' := w.heap.size + 2) ho2 S1.out); have x24 := X2.out.ch; have x25 := X2.out.cm; have f1 := X2.out.fz 261; have f2 := X2.out.fz 262; clear hb2 ho2 x15))
    all_goals
      go_wp2_with fail
      go_meet
      have h3 := two_set X2.out (.slice A1 hs.length d1) (.slice A2 ms.length d2)
      exact ⟨A1, d1, A2, d2, h3.1, R2.out.frm h3.2 (by omega), hd1, hd2, h3.2.own O12.out (fun k hk e => by have := own_ge O12.out k hk; omega), h3.2.own O2.out (fun k hk e => by have := own_ge O2.out k hk; omega), K2.out.trans (h3.2.to_below K2.out.size (fun k hk => by omega))⟩
  case rest =>
    obtain ⟨A1, d1, A2, d2, hb, hr, hd1, hd2, o1, o2, hw⟩ := hcut
    have HB3 := Lib.hid hb
    have HRR := Lib.hid hr
    have O1 := Lib.hid o1
    have O2 := Lib.hid o2
    have HW := Lib.hid hw
    clear hb hr o1 o2 hw
    have hcz := Mc.size HB3.out.ok (.slice A1 hs.length d1) (.slice A2 ms.length d2)
    have hzz : zCells.size = 263 := Mc.size zM_ok _ _
    have hone : (m.cells (.slice A1 hs.length d1) (.slice A2 ms.length d2)).all (·.oneCell') = true := Mc.one rfl rfl
    have HSI : Hid ((Try.prog.info? 50).map (·.size) = some (m.cells (.slice A1 hs.length d1) (.slice A2 ms.length d2)).size) := Lib.hid (by rw [hcz]; exact size50)
    have HSS : Hid (zCells.size = (m.cells (.slice A1 hs.length d1) (.slice A2 ms.length d2)).size) := Lib.hid (by rw [hcz, hzz])
    have HONE := Lib.hid hone
    have HLEN : Hid ((Try.prog.info? 50).map (·.size) = some (m.list (.slice A1 hs.length d1) (.slice A2 ms.length d2)).length) := Lib.hid (by rw [Mc.list_len HB3.out.ok]; exact size50)
    have HRG := Lib.hid HB3.out.range
    obtain ⟨l, hl⟩ : ∃ x, m.list (.slice A1 hs.length d1) (.slice A2 ms.length d2) = x := ⟨_, rfl⟩
    have hcl : m.cells (.slice A1 hs.length d1) (.slice A2 ms.length d2) = l.toArray := by rw [← hl]; rfl
    rw [hcl] at HSI HSS HONE
    rw [hl] at HRG HLEN
    have HCL := Lib.hid hcl
    clear hcz hzz hone hl hcl
    go_wp2_with (first
      | (refine wpList_load_mid rfl 50 (.tmp 1) rfl w.heap.size 0 rfl _ _ HRG.out Try.underlying50 rfl HLEN.out ?_)
      | (refine wpList_store_row rfl 50 (.tmp 2) (.tmp 11) rfl (w.heap.size + 1) l.toArray rfl rfl 50 _ HRR.out HSI.out HSS.out HONE.out ?_))
    have hf := frm_setRow wc (w.heap.size + 1) l.toArray
    have hM : IsMach m hs ms w (.returned (.agg l.toArray)) (wc.setRow (w.heap.size + 1) l.toArray) := ⟨⟨A1, d1, A2, d2, by rw [HCL.out], hd1, hd2, own_base (b' := w.heap.size) (hf.own O1.out (fun k hk e => by have := own_ge O1.out k hk; omega)) (by omega), own_base (b' := w.heap.size) (hf.own O2.out (fun k hk e => by have := own_ge O2.out k hk; omega)) (by omega)⟩, HW.out.trans (hf.to_below HW.out.size (fun k hk => by omega))⟩
    exact bodyPost_ret (v := .agg l.toArray) (results_cell_row rfl _ _ (w.heap.size + 1) 50 l.toArray _ _ rfl (blk_setRow HRR.out l.toArray) Try.underlying50 rfl HSI.out) rfl hM
end Go.Proofs.Ytebmgladdgmmeaa
