/- Apply as one contract; a law's piece and file; Size, Blocks, Frags: walks. -/
import Derived.Test.YtlhhkmpidnegcaaVeA3
import Derived.Laws.Cover3
namespace Go.Proofs.Ytlhhkmpidnegcaa
open Go.RowKit Go.WideShapes
set_option linter.unusedVariables false
set_option linter.unusedSimpArgs false
section
variable {B gt gi mb nst : Nat} {T : Tab} {v V : Value} {xs : List Value}
theorem Tb.sg_lt {w : World} (h : Tb B w gt gi mb nst T v V xs) (k : Nat) (hk : Sg gt gi mb v k) : k < w.heap.size := by
  rcases hk with rfl | rfl | rfl | hk
  · exact h.blk.lt
  · exact h.idx.blk.lt
  · exact h.idx.map.lt
  · exact (h.idx.own.lt k hk).2
theorem Tb.sg_ge {w : World} (h : Tb B w gt gi mb nst T v V xs) (k : Nat) (hk : Sg gt gi mb v k ∨ V.ownBlock = some k) : B ≤ k := by
  rcases hk with (rfl | rfl | rfl | hk) | hk
  · exact h.ge
  · exact h.idx.ge
  · exact h.idx.gm
  · exact (h.idx.own.lt k hk).1
  · exact own_ge h.row k hk
theorem ApE.below {r : Int × Tab} {most : Nat} {w0 w : World} {e : Ending} (h0 : Tb B w0 gt gi mb nst T v V xs) (h : ApE B gt gi mb most r v V w0 e w) : Below B w0 w :=
  h.frm.to_below (by have := h0.ge; have := h0.lt; omega) fun k hk => h0.sg_ge k (by
    rcases hk with h | h | h | h | h
    · exact .inl (.inl h)
    · exact .inl (.inr (.inl h))
    · exact .inl (.inr (.inr (.inl h)))
    · exact .inl (.inr (.inr (.inr h)))
    · exact .inr h)
theorem apply_any (blocks roll : Int) (pcs : List Pc) (fs : List Fl) (Ap Af : Option Addr) (np cp nf cf : Nat) (w : World) (h : Tb B w gt gi mb nst T v V xs)
    (hP : ∀ W, Frm (Sg gt gi mb v) w W → Rd W Ap (flatP pcs)) (hoks : ∀ p ∈ pcs, p.ok) (hnp : pcs.length = np) (hnp2 : np ≤ 1000000)
    (hF : ∀ W, Frm (Sg gt gi mb v) w W → RdF W Af fs) (hnf : fs.length = nf) (hnm : ∀ f ∈ fs, f.nm.size ≤ maxLen) (hfA : Af = none → nf = 0 ∧ cf = 0) (hnf2 : nf ≤ 1000000000) (hrl : -9223372036854775808 ≤ roll ∧ roll ≤ 9223372036854775807) (hbk : -9223372036854775808 ≤ blocks ∧ blocks ≤ 9223372036854775807)
    (hns : nst + np ≤ 99999) :
    Calls Try.prog 7 #[.pointer (some ⟨gt, 0, none⟩), .int .i64 blocks, .slice Ap np cp, .agg #[.int .i64 roll, .slice Af nf cf]] w (ApE B gt gi mb (nst + np) (applyT T blocks pcs roll (fs.map Fl.dat)) v V w) := by
  by_cases hfull : T.vs.length = 100 ∨ 1048576 - T.bl < blocks ∨ 8192 - (T.ps.length : Int) < (np : Int)
  · have hr : applyT T blocks pcs roll (fs.map Fl.dat) = (5, T) := by
      unfold applyT
      rw [hnp, if_pos hfull]
    rw [hr]
    refine (ap_full blocks roll Ap Af np cp nf cf w h hnp2 hbk hfull).mono ?_
    rintro e w' ⟨rfl, hb⟩
    exact ap_same h hb (by omega)
  · have c1 : T.vs.length ≠ 100 := fun e => hfull (.inl e)
    have c2 : ¬ 1048576 - T.bl < blocks := fun e => hfull (.inr (.inl e))
    have c3 : ¬ 8192 - (T.ps.length : Int) < (np : Int) := fun e => hfull (.inr (.inr e))
    by_cases hneg : blocks < 0
    · have hr : applyT T blocks pcs roll (fs.map Fl.dat) = (2, T) := by
        unfold applyT
        rw [hnp, if_neg hfull, if_pos hneg]
      rw [hr]
      refine (ap_neg blocks roll Ap Af np cp nf cf w h hnp2 hbk c1 c2 c3 hneg).mono ?_
      rintro e w' ⟨rfl, hb⟩
      exact ap_same h hb (by omega)
    · obtain ⟨bl, ps0, vs⟩ := T
      exact ap_main bl ps0 vs blocks roll pcs fs Ap Af np cp nf cf w h hP hoks hnp hF hnf hnm hfA hnf2 hrl c1 c2 c3 (by omega) hns
def pcV (n : Nat) (b : Int) : Pc := ⟨[(n : Int) % 256, (n : Int) / 256, 0, 0, 0, 0, 0, 0, 0, 0, 0, 0, 0, 0, 0, 0, 0, 0, 0, 0], 64, b, 0⟩
theorem pcV_ok (n : Nat) (b : Int) (hn : n < 65536) : (pcV n b).ok := ⟨⟨rfl, fun x hx => by
  simp [pcV] at hx
  rcases hx with rfl | rfl | rfl <;> omega⟩⟩
set_option maxRecDepth 100000 in
set_option maxHeartbeats 1000000 in
theorem piece_any (n : Nat) (b : Int) (w : World) (hn : n < 65536) : Calls Try.prog 26 #[.int .i64 (n : Int), .int .i64 b] w (Quiet (pcV n b).agg w) := by
  have hs : (Try.prog.info? 52).map (·.size) = some (pcV n b).cells.toArray.size := by rw [List.size_toArray, Pc.cells_length (pcV_ok n b hn)]; exact size39
  have hzz : (23 : Nat) = (pcV n b).cells.toArray.size := by rw [List.size_toArray]; exact (Pc.cells_length (pcV_ok n b hn)).symm
  have hone : (pcV n b).cells.toArray.all (·.oneCell') = true := by
    rw [Array.all_eq_true]
    intro i hi'
    exact Pc.cells_one (pcV n b) _ (show (pcV n b).cells.toArray[i] ∈ (pcV n b).cells by simp)
  have k2 := Blk.new w 52 (pcV n b).cells.toArray
  have hb := (Below.refl w.heap.size w).alloc (Nat.le_refl _) (.cells (pcV n b).cells.toArray 52)
  have HS := Lib.hid hs
  have HZ := Lib.hid hzz
  have HO := Lib.hid hone
  have K2 := Lib.hid k2
  have HB := Lib.hid hb
  clear hs hzz hone k2 hb
  go_enter Try.func26, Try.ntmps26
  go_wp2_with (refine wpList_store_row rfl 52 (.tmp 4) (.tmp 12) rfl w.heap.size (pcV n b).cells.toArray rfl rfl 52 _ (heap_alloc_new _ _) HS.out HZ.out HO.out ?_; rw [World.setRow_alloc_new])
  exact bodyPost_ret (v := (pcV n b).agg) (results_cell_row rfl _ _ w.heap.size 52 _ _ _ rfl K2.out Try.underlying52 rfl HS.out) rfl ⟨rfl, HB.out⟩
theorem file_any (s : ByteArray) (A : Option Addr) (n c : Nat) (w : World) : Calls Try.prog 18 #[.string s, .slice A n c] w (Quiet (.agg #[.string s, .slice A n c]) w) := by
  have hb := (Below.refl w.heap.size w).alloc (Nat.le_refl _) (.cells #[.string s, .slice A n c] 41)
  have HB := Lib.hid hb
  clear hb
  go_enter Try.func18, Try.ntmps18
  go_wp2
  exact bodyPost_ret (v := .agg #[.string s, .slice A n c]) (by simp [results, Try.results18, go_sem]) rfl ⟨rfl, HB.out⟩
theorem blocks15 {bl : Int} {b3 : Value} (w : World) (hb : Blk w gt 46 #[.pointer (some ⟨gi, 0, none⟩), .int .i64 bl, b3]) : Calls Try.prog 15 #[.pointer (some ⟨gt, 0, none⟩)] w (Same (.int .i64 bl) w) := by
  have hn := none33 w hb
  have c1 := hb.cell 1
  simp at c1
  have HN := Lib.hid hn
  clear hb hn
  go_enter Try.func15, Try.ntmps15
  go_wp2_with fail
  refine (HN.out).mono ?_
  rintro e w1 ⟨rfl, rfl⟩
  go_wp2
  go_ret
  exact ⟨rfl, rfl⟩
theorem frags16 (w : World) (h : Tb B w gt gi mb nst T v V xs) : Calls Try.prog 16 #[.pointer (some ⟨gt, 0, none⟩)] w (Same (.int .i64 T.ps.length) w) := by
  have hn := none33 w h.blk
  have hl := len_any w h.idx
  have c0 := h.blk.cell 0
  simp at c0
  have HN := Lib.hid hn
  have HL := Lib.hid hl
  clear hn hl h
  go_enter Try.func16, Try.ntmps16
  go_wp2_with fail
  refine (HN.out).mono ?_
  rintro e w1 ⟨rfl, rfl⟩
  go_wp2_with fail
  refine (HL.out).mono ?_
  rintro e w1 ⟨rfl, rfl⟩
  go_wp2
  go_ret
  exact ⟨rfl, rfl⟩
def sizeG (ps : List Pc) : Int → List Int → Int
  | s, [] => s
  | s, n :: r => sizeG ps (s + szOf ps n) r
theorem sizeG_go {ps : List Pc} {fr : List Int} {k : Nat} {x s : Int} (hx : fr[k]? = some x) : sizeG ps s (fr.drop k) = sizeG ps (s + szOf ps x) (fr.drop (k + 1)) := by
  have hk := (List.getElem?_eq_some_iff.1 hx).1
  have : fr.drop k = x :: fr.drop (k + 1) := by
    rw [List.drop_eq_getElem_cons hk]
    rw [List.getElem?_eq_getElem hk] at hx
    injection hx with hx
    rw [hx]
  rw [this]
  rfl
set_option maxRecDepth 100000 in
set_option maxHeartbeats 4000000 in
theorem size_any (f : Fl) (w : World) (h : Tb B w gt gi mb nst T v V xs) (hf : f.rd w) (hfn : f.n ≤ 1000000) : Calls Try.prog 17 #[.pointer (some ⟨gt, 0, none⟩), .agg #[.string f.nm, .slice f.A f.n f.c]] w (Quiet (.int .i64 (sizeG T.ps 0 f.fr)) w) := by
  obtain ⟨nm, fr, A, m, c⟩ := f
  obtain ⟨hlen, hcap, htop, hrd, hnil⟩ := hf
  simp only at hlen hcap htop hrd hnil hfn ⊢
  have hb := h.blk
  have hi := h.idx
  have hw1 := (Below.refl w.heap.size w).alloc (Nat.le_refl _) (.cells #[.string nm, .slice A m c] 41)
  have hst : ∀ W, Below w.heap.size w W → W.cell? ⟨gt, 0, none⟩ = some (.pointer (some ⟨gi, 0, none⟩)) ∧ Idx B W gi mb nst T.ps v ∧ Rd W A (ints fr) := fun W hW => by
    have := (hb.below hW).cell 0
    simp at this
    exact ⟨this, hi.below hW, hrd.below hW rfl⟩
  have hno := none33 _ (hb.below hw1)
  have hav := fun x => at_view (B := B) (g := gi) (mb := mb) (n := nst) (v := v) x h.lm hi.oks
  have hbd := fun x => szOf_bd h.rt x
  obtain ⟨ps, hps⟩ : ∃ ps, T.ps = ps := ⟨_, rfl⟩
  rw [hps] at hst hav hbd ⊢
  have HST := Lib.hid hst
  have HAV := Lib.hid hav
  have HBD := Lib.hid hbd
  have HW1 := Lib.hid hw1
  have HL := Lib.hid hlen
  have HNO := Lib.hid hno
  clear hst hav hw1 hlen hcap htop hrd hnil hb hi h hbd hno hps
  go_enter Try.func17, Try.ntmps17
  go_wp2_with fail
  refine (HNO.out).mono ?_
  rintro e w1 ⟨rfl, rfl⟩
  go_wp2_with fail
  go_loopw [5, 15] (fun sv i wr => ∃ (k : Nat) (s : Int), k ≤ m ∧ i = .int .i64 k ∧ sv = .int .i64 s ∧ 0 ≤ s ∧ s ≤ k * 4096 ∧ sizeG ps 0 fr = sizeG ps s (fr.drop k) ∧ Below w.heap.size w wr) (fun _ i _ => m - (intOf i).toNat)
  case atStart => exact ⟨0, 0, by omega, rfl, rfl, by omega, by omega, rfl, HW1.out⟩
  case round =>
    obtain ⟨k, s, hk, rfl, rfl, hs0, hs1, hwr, hlow⟩ := hrel
    have HWR := Lib.hid hwr
    have HLOW := Lib.hid hlow
    clear hwr hlow
    by_cases hlt : k < m
    · obtain ⟨x, hx⟩ : ∃ x, fr[k]? = some x := ⟨_, List.getElem?_eq_getElem (by rw [HL.out]; exact hlt)⟩
      obtain ⟨hc0, hix, hrx⟩ := HST.out wr HLOW.out
      obtain ⟨b1, o1, rfl, _, hc1⟩ := hrx.at (k := k) (u := .int .i64 x) (by rw [ints, List.getElem?_map, hx]; rfl)
      obtain ⟨cs, hcs, hcall⟩ := HAV.out x
      have hca := hcall wr hix
      have HCA := Lib.hid hca
      have HCS := Lib.hid hcs
      have HGO := Lib.hid (sizeG_go (ps := ps) (s := s) hx)
      obtain ⟨hb0, hb1⟩ := HBD.out x
      obtain ⟨sz, hsz⟩ : ∃ sz, szOf ps x = sz := ⟨_, rfl⟩
      rw [hsz] at hb0 hb1 HCS HGO
      have hkn : (k : Int) < (m : Int) := by omega
      clear hrx hix hcall hca hcs hx hsz
      go_wp2_with fail
      refine (HCA.out).mono ?_
      rintro e wa ⟨rfl, hba⟩
      have hbn := (Below.refl wa.heap.size wa).alloc (Nat.le_refl _) (.cells cs 52)
      have HLA := Lib.hid (HLOW.out.trans ((hba.trans (hbn.mono hba.size)).mono HLOW.out.size))
      have hc20 := HCS.out.cs
      have hsb : s + sz ≤ 10000000000 := by omega
      clear hbn hba hc0 hc1
      go_wp2_with (refine wpList_store_row rfl 52 (.tmp 8) (.tmp 26) rfl wa.heap.size cs rfl rfl 52 zeroA (heap_alloc_new _ _) HCS.out.inf HCS.out.sz HCS.out.one ?_; rw [World.setRow_alloc_new])
      go_roundw
      case rel => exact ⟨k + 1, s + sz, by omega, by go_num, rfl, by omega, by omega, by rw [HWR.out, HGO.out], HLA.out⟩
      case measure => simp [intOf]; omega
    · obtain rfl : k = m := by omega
      go_wp2
      go_ret
      exact ⟨ret_i64 (by rw [HWR.out, List.drop_of_length_le (by rw [HL.out]; exact Nat.le_refl _)]; rfl), HLOW.out⟩
end
end Go.Proofs.Ytlhhkmpidnegcaa
