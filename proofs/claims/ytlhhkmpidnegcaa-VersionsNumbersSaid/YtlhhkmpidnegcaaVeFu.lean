/- full: the walk. Condition: none. -/
import Derived.Test.YtlhhkmpidnegcaaVeFp
namespace Go.Proofs.Ytlhhkmpidnegcaa
open Go.RowKit Go.WideShapes
set_option linter.unusedVariables false
set_option linter.unusedSimpArgs false
theorem range_below {w w' : World} {b : Nat} {cs : List Value} (h : w.rangeAt b 0 cs) (hb : Below w.heap.size w w') (hlt : b < w.heap.size) : w'.rangeAt b 0 cs := fun j y hy =>
  (hb.cell (p := ⟨b, 0 + j, none⟩) hlt).trans (h j y hy)
theorem big_len : pcBig.cells.length = 23 := by kernel_rfl
theorem big_fold : List.foldl (fun (cs : Array Value) (x : Value × Nat) => cs.setIfInBounds x.snd x.fst) #[.int .u8 0, .int .u8 0, .int .u8 0, .int .u8 0, .int .u8 0, .int .u8 0, .int .u8 0, .int .u8 0, .int .u8 0, .int .u8 0, .int .u8 0, .int .u8 0, .int .u8 0, .int .u8 0, .int .u8 0, .int .u8 0, .int .u8 0, .int .u8 0, .int .u8 0, .int .u8 0, .int .i64 0, .int .i64 0, .int .i64 0] pcBig.cells.zipIdx = pcBig.cells.toArray := by kernel_rfl
theorem ones32 (w : World) : Calls Try.prog 23 #[.int .i64 32] w (IsOnes 32 w) := ones_any 32 w (by omega) (by omega)
theorem ones33 (w : World) : Calls Try.prog 23 #[.int .i64 33] w (IsOnes 33 w) := ones_any 33 w (by omega) (by omega)
theorem range_frm {S : Nat → Prop} {w w' : World} {b : Nat} {cs : List Value} (h : w.rangeAt b 0 cs) (hf : Frm S w w') (hlt : b < w.heap.size) (hn : ¬ S b) : w'.rangeAt b 0 cs := fun j y hy =>
  (hf.cell (p := ⟨b, 0 + j, none⟩) hlt hn).trans (h j y hy)
theorem RdF.oneR {W : World} {b n : Nat} {A : Option Addr} {nm : ByteArray} {fr : List Int} (h : Blk W b 41 #[.string nm, .slice A n n]) (hi : Rd W A (ints fr)) (hA : A ≠ none) (hn : fr.length = n) (hm : n ≤ maxLen) : RdF W (some ⟨b, 0, none⟩) [⟨nm, fr, A, n, n⟩] :=
  ⟨rd_blk h, fun f hf => by
    simp at hf
    subst hf
    exact ⟨hn, Nat.le_refl _, hm, hi, fun h => absurd h hA⟩⟩
/-- What is known of a table behind an Apply of full's: block b is none of its blocks. -/
structure FuE (B gt gi mb b : Nat) (r : Int × Tab) (most : Nat) (w0 : World) (e : Ending) (w : World) : Prop where
  ret : e = .returned (.int .i64 r.1)
  ex : ∃ n v V xs, n ≤ most ∧ Tb B w gt gi mb n r.2 v V xs ∧ Below B w0 w ∧ Frm (fun k => k ≠ b) w0 w ∧ (∀ k, Sg gt gi mb v k ∨ V.ownBlock = some k → k ≠ b)
section
variable {B gt gi mb nst : Nat} {T : Tab} {v V : Value} {xs : List Value}
theorem fu_out {W W' : World} {most b : Nat} {r : Int × Tab} {e : Ending} (hT : Tb B W gt gi mb nst T v V xs) (hne : ∀ k, Sg gt gi mb v k ∨ V.ownBlock = some k → k ≠ b) (hb : b < W.heap.size) (ha : ApE B gt gi mb most r v V W e W') : FuE B gt gi mb b r most W e W' := by
  have hbl := ha.below hT
  obtain ⟨h1, ⟨n, v', V', xs', hn, hT', hV, hv⟩, hf⟩ := ha
  have hsub : ∀ k, (k = gt ∨ k = gi ∨ k = mb ∨ v.ownBlock = some k ∨ V.ownBlock = some k) → k ≠ b := fun k hk => by
    rcases hk with h | h | h | h | h
    · exact hne k (.inl (.inl h))
    · exact hne k (.inl (.inr (.inl h)))
    · exact hne k (.inl (.inr (.inr (.inl h))))
    · exact hne k (.inl (.inr (.inr (.inr h))))
    · exact hne k (.inr h)
  refine ⟨h1, n, v', V', xs', hn, hT', hbl, hf.mono fun k _ hk => hsub k hk, fun k hk => ?_⟩
  rcases hk with (h | h | h | h) | h
  · exact hsub k (.inl h)
  · exact hsub k (.inr (.inl h))
  · exact hsub k (.inr (.inr (.inl h)))
  · rcases hv k h with h | h
    · exact hsub k (.inr (.inr (.inr (.inl h))))
    · omega
  · rcases hV with h2 | h2
    · exact hsub k (.inr (.inr (.inr (.inr (h2 ▸ h)))))
    · have := h2 k h
      omega
theorem fuA1 {W : World} {b go gp gf s : Nat} (hT : Tb B W gt gi mb 0 ⟨0, [], []⟩ v V xs) (hne : ∀ k, Sg gt gi mb v k ∨ V.ownBlock = some k → k ≠ b) (hb : b < W.heap.size) (hs : ∀ k, Sg gt gi mb v k → k < s)
    (hp : Blk W gp 52 pcBig.cells.toArray) (hf : Blk W gf 41 #[.string ⟨#[97]⟩, .slice (some ⟨go, 0, none⟩) 32 32]) (ho : Rd W (some ⟨go, 0, none⟩) (ints (List.replicate 32 1))) (h1 : s ≤ gp) (h2 : s ≤ gf) (h3 : s ≤ go) :
    Calls Try.prog 7 #[.pointer (some ⟨gt, 0, none⟩), .int .i64 1, .slice (some ⟨gp, 0, none⟩) 1 1, .agg #[.int .i64 0, .slice (some ⟨gf, 0, none⟩) 1 1]] W (FuE B gt gi mb b (0, ⟨1, [pcBig], [[(⟨#[97]⟩, List.replicate 32 1)]]⟩) 1 W) := by
  have ha := apply_any 1 0 [pcBig] [⟨⟨#[97]⟩, List.replicate 32 1, some ⟨go, 0, none⟩, 32, 32⟩] (some ⟨gp, 0, none⟩) (some ⟨gf, 0, none⟩) 1 1 1 1 W hT
    (fun W' hW => by
      have := rd_blk (hp.frm hW fun h => by have := hs _ h; omega)
      simpa [flatP] using this)
    (fun p hp => by simp at hp; subst hp; exact pcBig_ok) rfl (by omega)
    (fun W' hW => RdF.oneR (hf.frm hW fun h => by have := hs _ h; omega) (hW.rd ho fun q hq _ h => by injection hq with hq; subst hq; have := hs _ h; simp only at this; omega) (by simp) (by simp) (by unfold maxLen; omega)) rfl
    (fun f hf => by simp at hf; subst hf; show (1 : Nat) ≤ maxLen; unfold maxLen; omega) (fun h => by cases h) (by omega) (by omega) (by omega) (by omega)
  rw [show List.map Fl.dat [⟨⟨#[97]⟩, List.replicate 32 1, some ⟨go, 0, none⟩, 32, 32⟩] = [((⟨#[97]⟩ : ByteArray), List.replicate 32 (1 : Int))] from rfl, fu1] at ha
  exact ha.mono fun e w' h => fu_out hT hne hb h
theorem fuA2 {W : World} {b go gf s : Nat} (hT : Tb B W gt gi mb nst ⟨1, [pcBig], [[(⟨#[97]⟩, List.replicate 32 1)]]⟩ v V xs) (hn : nst ≤ 1) (hne : ∀ k, Sg gt gi mb v k ∨ V.ownBlock = some k → k ≠ b) (hb : b < W.heap.size) (hs : ∀ k, Sg gt gi mb v k → k < s)
    (hf : Blk W gf 41 #[.string ⟨#[97]⟩, .slice (some ⟨go, 0, none⟩) 33 33]) (ho : Rd W (some ⟨go, 0, none⟩) (ints (List.replicate 33 1))) (h2 : s ≤ gf) (h3 : s ≤ go) :
    Calls Try.prog 7 #[.pointer (some ⟨gt, 0, none⟩), .int .i64 0, .slice none 0 0, .agg #[.int .i64 0, .slice (some ⟨gf, 0, none⟩) 1 1]] W (FuE B gt gi mb b (13, ⟨1, [pcBig], [[(⟨#[97]⟩, List.replicate 32 1)]]⟩) 1 W) := by
  have ha := apply_any 0 0 [] [⟨⟨#[97]⟩, List.replicate 33 1, some ⟨go, 0, none⟩, 33, 33⟩] none (some ⟨gf, 0, none⟩) 0 0 1 1 W hT
    (fun W' hW => Rd.nil _ _) (fun p hp => by cases hp) rfl (by omega)
    (fun W' hW => RdF.oneR (hf.frm hW fun h => by have := hs _ h; omega) (hW.rd ho fun q hq _ h => by injection hq with hq; subst hq; have := hs _ h; simp only at this; omega) (by simp) (by simp) (by unfold maxLen; omega)) rfl
    (fun f hf => by simp at hf; subst hf; show (1 : Nat) ≤ maxLen; unfold maxLen; omega) (fun h => by cases h) (by omega) (by omega) (by omega) (by omega)
  rw [show List.map Fl.dat [⟨⟨#[97]⟩, List.replicate 33 1, some ⟨go, 0, none⟩, 33, 33⟩] = [((⟨#[97]⟩ : ByteArray), List.replicate 33 (1 : Int))] from rfl, fu2] at ha
  refine ha.mono fun e w' h => ?_
  obtain ⟨q1, ⟨n, v', V', xs', q2, q3, q4⟩, q5⟩ := h
  exact fu_out hT hne hb ⟨q1, ⟨n, v', V', xs', by omega, q3, q4⟩, q5⟩
end
set_option maxRecDepth 100000 in
set_option maxHeartbeats 8000000 in
theorem full_any (w : World) : Calls Try.prog 31 #[] w (Quiet (.bool true) w) := by
  have hs : (Try.prog.info? 52).map (·.size) = some pcBig.cells.toArray.size := by rw [List.size_toArray, Pc.cells_length pcBig_ok]; exact size39
  have hzz : (23 : Nat) = pcBig.cells.toArray.size := by rw [List.size_toArray]; exact (Pc.cells_length pcBig_ok).symm
  have hone : pcBig.cells.toArray.all (·.oneCell') = true := by
    rw [Array.all_eq_true]
    intro i hi'
    exact Pc.cells_one pcBig _ (show pcBig.cells.toArray[i] ∈ pcBig.cells by simp)
  have HSI := Lib.hid hs
  have HZZ := Lib.hid hzz
  have HON := Lib.hid hone
  clear hs hzz hone
  go_enter Try.func31, Try.ntmps31
  go_wp2_with fail
  refine (newT_any w).mono ?_
  rintro e w1 ⟨⟨gt, gi, mb, rfl, hT1⟩, hb1⟩
  have HT1 := Lib.hid hT1
  have HB1 := Lib.hid hb1
  have HNE1 := Lib.hid (show ∀ k, Sg gt gi mb (.slice none 0 0) k ∨ (Value.slice none 0 0).ownBlock = some k → k ≠ w1.heap.size from fun k hk => by
    rcases hk with h | h
    · exact Nat.ne_of_lt (HT1.out.sg_lt k h)
    · cases h)
  clear hT1 hb1
  go_upto_region 3 with (refine wpList_store_row rfl 52 (.tmp 2) (.tmp 8) rfl w1.heap.size pcBig.cells.toArray rfl rfl 52 _ (heap_alloc_new _ _) HSI.out HZZ.out HON.out ?_; rw [World.setRow_alloc_new]; try simp only [Act.put, List.setIfInBounds_toArray, List.set_cons_zero, List.set_cons_succ])
  have hk2 := Blk.new w1 52 pcBig.cells.toArray
  have B2 := Lib.hid ((Below.refl w1.heap.size w1).alloc (Nat.le_refl _) (.cells pcBig.cells.toArray 52))
  generalize hw2 : w1.alloc (.cells pcBig.cells.toArray 52) = w2 at hk2 B2 ⊢
  have hrg : w2.rangeAt w1.heap.size 0 pcBig.cells := fun jj y hy => by
    rw [Nat.zero_add, hk2.cell, List.getElem?_toArray]
    exact hy
  have R2 := Lib.hid hrg
  have BQ2 := Lib.hid hk2.lt
  clear hrg hk2 hw2
  go_cut [26] from 9 to 26 (fun c wx => c = .bool false ∧ ∃ n v V x, n ≤ 2 ∧ Tb w.heap.size wx gt gi mb n ⟨1, [pcBig], [[(⟨#[97]⟩, List.replicate 32 1)]]⟩ v V x ∧ Below w.heap.size w wx)
  case first =>
    refine wp_region_held_drew (S := fun W => W.rangeAt w1.heap.size 0 pcBig.cells) (by kernel_rfl) R2.out (fun hHeld => ?_)
    refine wpAnyH_takeD (i := 0) (d := 9) (oi := _) (v := ?_) rfl rfl (by kernel_rfl) (by kernel_rfl) (by kernel_rfl) (fun _ _ _ h => h) (Or.inl ⟨by rfl, ?_⟩) (by assumption) ?_
    rotate_left
    · (intro w hSw; (try dsimp only at hSw); go_simp) <;> with_reducible rfl
    simp only [Act.put, List.setIfInBounds_toArray, List.set_cons_zero, List.set_cons_succ]
    have B3 := Lib.hid (show Below w1.heap.size w1 w2.drew from below_drewN B2.out 1)
    have R3 := Lib.hid hHeld
    have BQ3 := Lib.hid (show w1.heap.size < w2.drew.heap.size from BQ2.out)
    obtain ⟨w3, hw3⟩ : ∃ x, w2.drew = x := ⟨_, rfl⟩
    rw [hw3] at B3 R3 BQ3 hHeld ⊢
    clear hw3
    refine wpAnyH_takeD (i := 1) (d := 10) (oi := _) (v := .agg pcBig.cells.toArray) rfl rfl (by kernel_rfl) (by kernel_rfl) (by kernel_rfl) (fun _ _ _ h => h) (yieldsIf_load_mid (by rfl) 52 (.tmp 2) rfl w1.heap.size 0 rfl pcBig.cells _ (fun w hw => hw) Try.underlying52 rfl HSI.out) (by assumption) ?_
    simp only [Act.put, List.setIfInBounds_toArray, List.set_cons_zero, List.set_cons_succ]
    refine wpAnyH_ready (rs := [2, 3]) (by kernel_rfl) (by simp) ?_
    refine AllReadyH.cons (o := _) rfl (fun K hK => ?_) (AllReadyH.cons (o := _) rfl (fun K hK => ?_) AllReadyH.nil)
    · have hbl := big_len
      have hfo := big_fold
      go_simp
      clear hbl hfo
      have hb := (Below.refl w3.heap.size w3).alloc (Nat.le_refl _) (.cells pcBig.cells.toArray 52)
      have Pa0 := Lib.hid (Blk.new w3 52 pcBig.cells.toArray)
      have GP := Lib.hid (B3.out.size)
      obtain ⟨gp, hgp⟩ : ∃ x, w3.heap.size = x := ⟨_, rfl⟩
      generalize hwn : w3.alloc (.cells pcBig.cells.toArray 52) = wa0 at hb Pa0 ⊢
      rw [hgp] at Pa0 GP ⊢
      have Ba0 := Lib.hid (B3.out.trans (hb.mono B3.out.size))
      have Ra0 := Lib.hid (range_below R3.out hb BQ3.out)
      have BQa0 := Lib.hid (Nat.lt_of_lt_of_le BQ3.out hb.size)
      clear hb hwn hgp
      refine hK.out _ _ Ra0.out (fun hHeld => ?_)
      clear hK K
      try simp only [Act.put, List.setIfInBounds_toArray, List.set_cons_zero, List.set_cons_succ]
      refine wpAnyH_ready (rs := [3]) (by kernel_rfl) (by simp) ?_
      refine AllReadyH.cons (o := _) rfl (fun K hK => ?_) AllReadyH.nil
      go_simp
      refine (ones32 wa0).mono ?_
      rintro e wo0p ⟨⟨go, hgo, rfl, hro⟩, hb⟩
      have Bo0p := Lib.hid (Ba0.out.trans (hb.mono Ba0.out.size))
      have Ro0p := Lib.hid (range_below Ra0.out hb BQa0.out)
      have BQo0p := Lib.hid (Nat.lt_of_lt_of_le BQa0.out hb.size)
      have Po0p := Lib.hid (Pa0.out.below hb)
      have Oo0p := Lib.hid hro
      have GO := Lib.hid (Nat.le_trans Ba0.out.size hgo)
      clear hb hro hgo
      go_wp2_with fail
      refine hK.out _ _ Ro0p.out (fun hHeld => ?_)
      clear hK K
      try simp only [Act.put, List.setIfInBounds_toArray, List.set_cons_zero, List.set_cons_succ]
      refine wpAnyH_ready (rs := [4]) (by kernel_rfl) (by simp) ?_
      refine AllReadyH.cons (o := _) rfl (fun K hK => ?_) AllReadyH.nil
      go_simp
      refine (file_any _ _ _ _ _).mono ?_
      rintro e wo1p ⟨rfl, hb⟩
      have Bo1p := Lib.hid (Bo0p.out.trans (hb.mono Bo0p.out.size))
      have Ro1p := Lib.hid (range_below Ro0p.out hb BQo0p.out)
      have BQo1p := Lib.hid (Nat.lt_of_lt_of_le BQo0p.out hb.size)
      have Po1p := Lib.hid (Po0p.out.below hb)
      have Oo1p := Lib.hid (Oo0p.out.below hb rfl)
      clear hb
      go_wp2_with fail
      refine hK.out _ _ Ro1p.out (fun hHeld => ?_)
      clear hK K
      try simp only [Act.put, List.setIfInBounds_toArray, List.set_cons_zero, List.set_cons_succ]
      refine wpAnyH_ready (rs := [5]) (by kernel_rfl) (by simp) ?_
      refine AllReadyH.cons (o := _) rfl (fun K hK => ?_) AllReadyH.nil
      go_simp
      have hb := (Below.refl wo1p.heap.size wo1p).alloc (Nat.le_refl _) (.cells #[.string ⟨#[97]⟩, .slice (some ⟨go, 0, none⟩) 32 32] 41)
      have Fo2p := Lib.hid (Blk.new wo1p 41 #[.string ⟨#[97]⟩, .slice (some ⟨go, 0, none⟩) 32 32])
      have GF := Lib.hid (Bo1p.out.size)
      obtain ⟨gf, hgf⟩ : ∃ x, wo1p.heap.size = x := ⟨_, rfl⟩
      generalize hwn : wo1p.alloc (.cells #[.string ⟨#[97]⟩, .slice (some ⟨go, 0, none⟩) 32 32] 41) = wo2p at hb Fo2p ⊢
      rw [hgf] at Fo2p GF ⊢
      have Bo2p := Lib.hid (Bo1p.out.trans (hb.mono Bo1p.out.size))
      have Ro2p := Lib.hid (range_below Ro1p.out hb BQo1p.out)
      have BQo2p := Lib.hid (Nat.lt_of_lt_of_le BQo1p.out hb.size)
      have Po2p := Lib.hid (Po1p.out.below hb)
      have Oo2p := Lib.hid (Oo1p.out.below hb rfl)
      clear hb hwn hgf
      refine hK.out _ _ Ro2p.out (fun hHeld => ?_)
      clear hK K
      try simp only [Act.put, List.setIfInBounds_toArray, List.set_cons_zero, List.set_cons_succ]
      refine wpAnyH_takeD (i := 6) (d := 15) (oi := _) (v := ?_) rfl rfl (by kernel_rfl) (by kernel_rfl) (by kernel_rfl) (fun _ _ _ h => h) (Or.inl ⟨by rfl, ?_⟩) (by assumption) ?_
      rotate_left
      · (intro w hSw; (try dsimp only at hSw); go_simp) <;> with_reducible rfl
      simp only [Act.put, List.setIfInBounds_toArray, List.set_cons_zero, List.set_cons_succ]
      refine wpAnyH_ready (rs := [7]) (by kernel_rfl) (by simp) ?_
      refine AllReadyH.cons (o := _) rfl (fun K hK => ?_) AllReadyH.nil
      go_simp
      have hbl := HB1.out.trans (Bo2p.out.mono HB1.out.size)
      have hT := HT1.out.below Bo2p.out
      refine (fuA1 (b := w1.heap.size) hT HNE1.out BQo2p.out HT1.out.sg_lt Po2p.out Fo2p.out Oo2p.out GP.out GF.out GO.out).mono ?_
      rintro e we ⟨rfl, ne, ve, Ve, xe, hne, hTe, hbe, hfe, hxe⟩
      have Re := Lib.hid (range_frm Ro2p.out hfe BQo2p.out (fun h => h rfl))
      have BQe := Lib.hid (Nat.lt_of_lt_of_le BQo2p.out hfe.size)
      have HTE := Lib.hid hTe
      have HNE := Lib.hid hne
      have HXE := Lib.hid hxe
      have HBE := Lib.hid (hbl.trans hbe)
      clear hTe hbe hfe hne hxe hbl hT
      simp only at HTE
      go_wp2_with fail
      refine hK.out _ _ Re.out (fun hHeld => ?_)
      clear hK K
      try simp only [Act.put, List.setIfInBounds_toArray, List.set_cons_zero, List.set_cons_succ]
      refine wpAnyH_takeD (i := 8) (d := 17) (oi := _) (v := ?_) rfl rfl (by kernel_rfl) (by kernel_rfl) (by kernel_rfl) (fun _ _ _ h => h) (Or.inl ⟨by rfl, ?_⟩) (by assumption) ?_
      rotate_left
      · (intro w hSw; (try dsimp only at hSw); go_simp) <;> with_reducible rfl
      simp only [Act.put, List.setIfInBounds_toArray, List.set_cons_zero, List.set_cons_succ]
      refine wpAnyH_takeD (i := 9) (d := 18) (oi := _) (v := ?_) rfl rfl (by kernel_rfl) (by kernel_rfl) (by kernel_rfl) (fun _ _ _ h => h) (Or.inl ⟨by rfl, ?_⟩) (by assumption) ?_
      rotate_left
      · (intro w hSw; (try dsimp only at hSw); go_simp) <;> with_reducible rfl
      simp only [Act.put, List.setIfInBounds_toArray, List.set_cons_zero, List.set_cons_succ]
      refine wpAnyH_takeD (i := 10) (d := 19) (oi := _) (v := ?_) rfl rfl (by kernel_rfl) (by kernel_rfl) (by kernel_rfl) (fun _ _ _ h => h) (Or.inl ⟨by rfl, ?_⟩) (by assumption) ?_
      rotate_left
      · (intro w hSw; (try dsimp only at hSw); go_simp) <;> with_reducible rfl
      simp only [Act.put, List.setIfInBounds_toArray, List.set_cons_zero, List.set_cons_succ]
      refine wpAnyH_ready (rs := [11]) (by kernel_rfl) (by simp) ?_
      refine AllReadyH.cons (o := _) rfl (fun K hK => ?_) AllReadyH.nil
      go_simp
      refine (ones33 we).mono ?_
      rintro e wf ⟨⟨go2, hgo2, rfl, hro2⟩, hb⟩
      have Rf := Lib.hid (range_below Re.out hb BQe.out)
      have BQf := Lib.hid (Nat.lt_of_lt_of_le BQe.out hb.size)
      have Of := Lib.hid hro2
      have GO2 := Lib.hid hgo2
      have Bf := Lib.hid hb
      clear hro2 hgo2 hb
      go_wp2_with fail
      refine hK.out _ _ Rf.out (fun hHeld => ?_)
      clear hK K
      try simp only [Act.put, List.setIfInBounds_toArray, List.set_cons_zero, List.set_cons_succ]
      refine wpAnyH_ready (rs := [12]) (by kernel_rfl) (by simp) ?_
      refine AllReadyH.cons (o := _) rfl (fun K hK => ?_) AllReadyH.nil
      go_simp
      refine (file_any _ _ _ _ _).mono ?_
      rintro e wg ⟨rfl, hb⟩
      have Rg := Lib.hid (range_below Rf.out hb BQf.out)
      have BQg := Lib.hid (Nat.lt_of_lt_of_le BQf.out hb.size)
      have Og := Lib.hid (Of.out.below hb rfl)
      have Bg := Lib.hid (Bf.out.trans (hb.mono Bf.out.size))
      clear hb
      go_wp2_with fail
      refine hK.out _ _ Rg.out (fun hHeld => ?_)
      clear hK K
      try simp only [Act.put, List.setIfInBounds_toArray, List.set_cons_zero, List.set_cons_succ]
      refine wpAnyH_ready (rs := [13]) (by kernel_rfl) (by simp) ?_
      refine AllReadyH.cons (o := _) rfl (fun K hK => ?_) AllReadyH.nil
      go_simp
      have hb := (Below.refl wg.heap.size wg).alloc (Nat.le_refl _) (.cells #[.string ⟨#[97]⟩, .slice (some ⟨go2, 0, none⟩) 33 33] 41)
      have Fh := Lib.hid (Blk.new wg 41 #[.string ⟨#[97]⟩, .slice (some ⟨go2, 0, none⟩) 33 33])
      have GF2 := Lib.hid (Bg.out.size)
      obtain ⟨gf2, hgf⟩ : ∃ x, wg.heap.size = x := ⟨_, rfl⟩
      generalize hwn : wg.alloc (.cells #[.string ⟨#[97]⟩, .slice (some ⟨go2, 0, none⟩) 33 33] 41) = wh at hb Fh ⊢
      rw [hgf] at Fh GF2 ⊢
      have Rh := Lib.hid (range_below Rg.out hb BQg.out)
      have BQh := Lib.hid (Nat.lt_of_lt_of_le BQg.out hb.size)
      have Oh := Lib.hid (Og.out.below hb rfl)
      have Bh := Lib.hid (Bg.out.trans (hb.mono Bg.out.size))
      clear hb hwn hgf
      refine hK.out _ _ Rh.out (fun hHeld => ?_)
      clear hK K
      try simp only [Act.put, List.setIfInBounds_toArray, List.set_cons_zero, List.set_cons_succ]
      refine wpAnyH_takeD (i := 14) (d := 23) (oi := _) (v := ?_) rfl rfl (by kernel_rfl) (by kernel_rfl) (by kernel_rfl) (fun _ _ _ h => h) (Or.inl ⟨by rfl, ?_⟩) (by assumption) ?_
      rotate_left
      · (intro w hSw; (try dsimp only at hSw); go_simp) <;> with_reducible rfl
      simp only [Act.put, List.setIfInBounds_toArray, List.set_cons_zero, List.set_cons_succ]
      refine wpAnyH_ready (rs := [15]) (by kernel_rfl) (by simp) ?_
      refine AllReadyH.cons (o := _) rfl (fun K hK => ?_) AllReadyH.nil
      go_simp
      have hbl := HBE.out.trans (Bh.out.mono HBE.out.size)
      have hT := HTE.out.below Bh.out
      refine (fuA2 (b := w1.heap.size) hT HNE.out HXE.out BQh.out HTE.out.sg_lt Fh.out Oh.out GF2.out GO2.out).mono ?_
      rintro e wi ⟨rfl, ni, vi, Vi, xi, hni, hTi, hbi, hfi, _⟩
      have Ri := Lib.hid (range_frm Rh.out hfi BQh.out (fun h => h rfl))
      have HTI := Lib.hid hTi
      have HNI := Lib.hid hni
      have HBI := Lib.hid (hbl.trans hbi)
      clear hTi hbi hfi hni hbl hT
      go_wp2_with fail
      refine hK.out _ _ Ri.out (fun hHeld => ?_)
      clear hK K
      try simp only [Act.put, List.setIfInBounds_toArray, List.set_cons_zero, List.set_cons_succ]
      refine wpAnyH_takeD (i := 16) (d := 25) (oi := _) (v := ?_) rfl rfl (by kernel_rfl) (by kernel_rfl) (by kernel_rfl) (fun _ _ _ h => h) (Or.inl ⟨by rfl, ?_⟩) (by assumption) ?_
      rotate_left
      · (intro w hSw; (try dsimp only at hSw); go_simp) <;> with_reducible rfl
      simp only [Act.put, List.setIfInBounds_toArray, List.set_cons_zero, List.set_cons_succ]
      refine wpAnyH_takeD (i := 17) (d := 26) (oi := _) (v := ?_) rfl rfl (by kernel_rfl) (by kernel_rfl) (by kernel_rfl) (fun _ _ _ h => h) (Or.inl ⟨by rfl, ?_⟩) (by assumption) ?_
      rotate_left
      · (intro w hSw; (try dsimp only at hSw); go_simp) <;> with_reducible rfl
      simp only [Act.put, List.setIfInBounds_toArray, List.set_cons_zero, List.set_cons_succ]
      refine wpAnyH_done (by kernel_rfl) ?_ _
      go_wp2
      go_meet
      exact ⟨rfl, _, _, _, _, Nat.le_trans HNI.out (by omega), HTI.out, HBI.out⟩
    · go_simp
      refine (ones32 w3).mono ?_
      rintro e wo0 ⟨⟨go, hgo, rfl, hro⟩, hb⟩
      have Bo0 := Lib.hid (B3.out.trans (hb.mono B3.out.size))
      have Ro0 := Lib.hid (range_below R3.out hb BQ3.out)
      have BQo0 := Lib.hid (Nat.lt_of_lt_of_le BQ3.out hb.size)
      have Oo0 := Lib.hid hro
      have GO := Lib.hid (Nat.le_trans B3.out.size hgo)
      clear hb hro hgo
      go_wp2_with fail
      refine hK.out _ _ Ro0.out (fun hHeld => ?_)
      clear hK K
      try simp only [Act.put, List.setIfInBounds_toArray, List.set_cons_zero, List.set_cons_succ]
      refine wpAnyH_ready (rs := [2, 4]) (by kernel_rfl) (by simp) ?_
      refine AllReadyH.cons (o := _) rfl (fun K hK => ?_) (AllReadyH.cons (o := _) rfl (fun K hK => ?_) AllReadyH.nil)
      · have hbl := big_len
        have hfo := big_fold
        go_simp
        clear hbl hfo
        have hb := (Below.refl wo0.heap.size wo0).alloc (Nat.le_refl _) (.cells pcBig.cells.toArray 52)
        have Pa1 := Lib.hid (Blk.new wo0 52 pcBig.cells.toArray)
        have GP := Lib.hid (Bo0.out.size)
        obtain ⟨gp, hgp⟩ : ∃ x, wo0.heap.size = x := ⟨_, rfl⟩
        generalize hwn : wo0.alloc (.cells pcBig.cells.toArray 52) = wa1 at hb Pa1 ⊢
        rw [hgp] at Pa1 GP ⊢
        have Ba1 := Lib.hid (Bo0.out.trans (hb.mono Bo0.out.size))
        have Ra1 := Lib.hid (range_below Ro0.out hb BQo0.out)
        have BQa1 := Lib.hid (Nat.lt_of_lt_of_le BQo0.out hb.size)
        have Oa1 := Lib.hid (Oo0.out.below hb rfl)
        clear hb hwn hgp
        refine hK.out _ _ Ra1.out (fun hHeld => ?_)
        clear hK K
        try simp only [Act.put, List.setIfInBounds_toArray, List.set_cons_zero, List.set_cons_succ]
        refine wpAnyH_ready (rs := [4]) (by kernel_rfl) (by simp) ?_
        refine AllReadyH.cons (o := _) rfl (fun K hK => ?_) AllReadyH.nil
        go_simp
        refine (file_any _ _ _ _ _).mono ?_
        rintro e wo1p ⟨rfl, hb⟩
        have Bo1p := Lib.hid (Ba1.out.trans (hb.mono Ba1.out.size))
        have Ro1p := Lib.hid (range_below Ra1.out hb BQa1.out)
        have BQo1p := Lib.hid (Nat.lt_of_lt_of_le BQa1.out hb.size)
        have Po1p := Lib.hid (Pa1.out.below hb)
        have Oo1p := Lib.hid (Oa1.out.below hb rfl)
        clear hb
        go_wp2_with fail
        refine hK.out _ _ Ro1p.out (fun hHeld => ?_)
        clear hK K
        try simp only [Act.put, List.setIfInBounds_toArray, List.set_cons_zero, List.set_cons_succ]
        refine wpAnyH_ready (rs := [5]) (by kernel_rfl) (by simp) ?_
        refine AllReadyH.cons (o := _) rfl (fun K hK => ?_) AllReadyH.nil
        go_simp
        have hb := (Below.refl wo1p.heap.size wo1p).alloc (Nat.le_refl _) (.cells #[.string ⟨#[97]⟩, .slice (some ⟨go, 0, none⟩) 32 32] 41)
        have Fo2p := Lib.hid (Blk.new wo1p 41 #[.string ⟨#[97]⟩, .slice (some ⟨go, 0, none⟩) 32 32])
        have GF := Lib.hid (Bo1p.out.size)
        obtain ⟨gf, hgf⟩ : ∃ x, wo1p.heap.size = x := ⟨_, rfl⟩
        generalize hwn : wo1p.alloc (.cells #[.string ⟨#[97]⟩, .slice (some ⟨go, 0, none⟩) 32 32] 41) = wo2p at hb Fo2p ⊢
        rw [hgf] at Fo2p GF ⊢
        have Bo2p := Lib.hid (Bo1p.out.trans (hb.mono Bo1p.out.size))
        have Ro2p := Lib.hid (range_below Ro1p.out hb BQo1p.out)
        have BQo2p := Lib.hid (Nat.lt_of_lt_of_le BQo1p.out hb.size)
        have Po2p := Lib.hid (Po1p.out.below hb)
        have Oo2p := Lib.hid (Oo1p.out.below hb rfl)
        clear hb hwn hgf
        refine hK.out _ _ Ro2p.out (fun hHeld => ?_)
        clear hK K
        try simp only [Act.put, List.setIfInBounds_toArray, List.set_cons_zero, List.set_cons_succ]
        refine wpAnyH_takeD (i := 6) (d := 15) (oi := _) (v := ?_) rfl rfl (by kernel_rfl) (by kernel_rfl) (by kernel_rfl) (fun _ _ _ h => h) (Or.inl ⟨by rfl, ?_⟩) (by assumption) ?_
        rotate_left
        · (intro w hSw; (try dsimp only at hSw); go_simp) <;> with_reducible rfl
        simp only [Act.put, List.setIfInBounds_toArray, List.set_cons_zero, List.set_cons_succ]
        refine wpAnyH_ready (rs := [7]) (by kernel_rfl) (by simp) ?_
        refine AllReadyH.cons (o := _) rfl (fun K hK => ?_) AllReadyH.nil
        go_simp
        have hbl := HB1.out.trans (Bo2p.out.mono HB1.out.size)
        have hT := HT1.out.below Bo2p.out
        refine (fuA1 (b := w1.heap.size) hT HNE1.out BQo2p.out HT1.out.sg_lt Po2p.out Fo2p.out Oo2p.out GP.out GF.out GO.out).mono ?_
        rintro e we ⟨rfl, ne, ve, Ve, xe, hne, hTe, hbe, hfe, hxe⟩
        have Re := Lib.hid (range_frm Ro2p.out hfe BQo2p.out (fun h => h rfl))
        have BQe := Lib.hid (Nat.lt_of_lt_of_le BQo2p.out hfe.size)
        have HTE := Lib.hid hTe
        have HNE := Lib.hid hne
        have HXE := Lib.hid hxe
        have HBE := Lib.hid (hbl.trans hbe)
        clear hTe hbe hfe hne hxe hbl hT
        simp only at HTE
        go_wp2_with fail
        refine hK.out _ _ Re.out (fun hHeld => ?_)
        clear hK K
        try simp only [Act.put, List.setIfInBounds_toArray, List.set_cons_zero, List.set_cons_succ]
        refine wpAnyH_takeD (i := 8) (d := 17) (oi := _) (v := ?_) rfl rfl (by kernel_rfl) (by kernel_rfl) (by kernel_rfl) (fun _ _ _ h => h) (Or.inl ⟨by rfl, ?_⟩) (by assumption) ?_
        rotate_left
        · (intro w hSw; (try dsimp only at hSw); go_simp) <;> with_reducible rfl
        simp only [Act.put, List.setIfInBounds_toArray, List.set_cons_zero, List.set_cons_succ]
        refine wpAnyH_takeD (i := 9) (d := 18) (oi := _) (v := ?_) rfl rfl (by kernel_rfl) (by kernel_rfl) (by kernel_rfl) (fun _ _ _ h => h) (Or.inl ⟨by rfl, ?_⟩) (by assumption) ?_
        rotate_left
        · (intro w hSw; (try dsimp only at hSw); go_simp) <;> with_reducible rfl
        simp only [Act.put, List.setIfInBounds_toArray, List.set_cons_zero, List.set_cons_succ]
        refine wpAnyH_takeD (i := 10) (d := 19) (oi := _) (v := ?_) rfl rfl (by kernel_rfl) (by kernel_rfl) (by kernel_rfl) (fun _ _ _ h => h) (Or.inl ⟨by rfl, ?_⟩) (by assumption) ?_
        rotate_left
        · (intro w hSw; (try dsimp only at hSw); go_simp) <;> with_reducible rfl
        simp only [Act.put, List.setIfInBounds_toArray, List.set_cons_zero, List.set_cons_succ]
        refine wpAnyH_ready (rs := [11]) (by kernel_rfl) (by simp) ?_
        refine AllReadyH.cons (o := _) rfl (fun K hK => ?_) AllReadyH.nil
        go_simp
        refine (ones33 we).mono ?_
        rintro e wf ⟨⟨go2, hgo2, rfl, hro2⟩, hb⟩
        have Rf := Lib.hid (range_below Re.out hb BQe.out)
        have BQf := Lib.hid (Nat.lt_of_lt_of_le BQe.out hb.size)
        have Of := Lib.hid hro2
        have GO2 := Lib.hid hgo2
        have Bf := Lib.hid hb
        clear hro2 hgo2 hb
        go_wp2_with fail
        refine hK.out _ _ Rf.out (fun hHeld => ?_)
        clear hK K
        try simp only [Act.put, List.setIfInBounds_toArray, List.set_cons_zero, List.set_cons_succ]
        refine wpAnyH_ready (rs := [12]) (by kernel_rfl) (by simp) ?_
        refine AllReadyH.cons (o := _) rfl (fun K hK => ?_) AllReadyH.nil
        go_simp
        refine (file_any _ _ _ _ _).mono ?_
        rintro e wg ⟨rfl, hb⟩
        have Rg := Lib.hid (range_below Rf.out hb BQf.out)
        have BQg := Lib.hid (Nat.lt_of_lt_of_le BQf.out hb.size)
        have Og := Lib.hid (Of.out.below hb rfl)
        have Bg := Lib.hid (Bf.out.trans (hb.mono Bf.out.size))
        clear hb
        go_wp2_with fail
        refine hK.out _ _ Rg.out (fun hHeld => ?_)
        clear hK K
        try simp only [Act.put, List.setIfInBounds_toArray, List.set_cons_zero, List.set_cons_succ]
        refine wpAnyH_ready (rs := [13]) (by kernel_rfl) (by simp) ?_
        refine AllReadyH.cons (o := _) rfl (fun K hK => ?_) AllReadyH.nil
        go_simp
        have hb := (Below.refl wg.heap.size wg).alloc (Nat.le_refl _) (.cells #[.string ⟨#[97]⟩, .slice (some ⟨go2, 0, none⟩) 33 33] 41)
        have Fh := Lib.hid (Blk.new wg 41 #[.string ⟨#[97]⟩, .slice (some ⟨go2, 0, none⟩) 33 33])
        have GF2 := Lib.hid (Bg.out.size)
        obtain ⟨gf2, hgf⟩ : ∃ x, wg.heap.size = x := ⟨_, rfl⟩
        generalize hwn : wg.alloc (.cells #[.string ⟨#[97]⟩, .slice (some ⟨go2, 0, none⟩) 33 33] 41) = wh at hb Fh ⊢
        rw [hgf] at Fh GF2 ⊢
        have Rh := Lib.hid (range_below Rg.out hb BQg.out)
        have BQh := Lib.hid (Nat.lt_of_lt_of_le BQg.out hb.size)
        have Oh := Lib.hid (Og.out.below hb rfl)
        have Bh := Lib.hid (Bg.out.trans (hb.mono Bg.out.size))
        clear hb hwn hgf
        refine hK.out _ _ Rh.out (fun hHeld => ?_)
        clear hK K
        try simp only [Act.put, List.setIfInBounds_toArray, List.set_cons_zero, List.set_cons_succ]
        refine wpAnyH_takeD (i := 14) (d := 23) (oi := _) (v := ?_) rfl rfl (by kernel_rfl) (by kernel_rfl) (by kernel_rfl) (fun _ _ _ h => h) (Or.inl ⟨by rfl, ?_⟩) (by assumption) ?_
        rotate_left
        · (intro w hSw; (try dsimp only at hSw); go_simp) <;> with_reducible rfl
        simp only [Act.put, List.setIfInBounds_toArray, List.set_cons_zero, List.set_cons_succ]
        refine wpAnyH_ready (rs := [15]) (by kernel_rfl) (by simp) ?_
        refine AllReadyH.cons (o := _) rfl (fun K hK => ?_) AllReadyH.nil
        go_simp
        have hbl := HBE.out.trans (Bh.out.mono HBE.out.size)
        have hT := HTE.out.below Bh.out
        refine (fuA2 (b := w1.heap.size) hT HNE.out HXE.out BQh.out HTE.out.sg_lt Fh.out Oh.out GF2.out GO2.out).mono ?_
        rintro e wi ⟨rfl, ni, vi, Vi, xi, hni, hTi, hbi, hfi, _⟩
        have Ri := Lib.hid (range_frm Rh.out hfi BQh.out (fun h => h rfl))
        have HTI := Lib.hid hTi
        have HNI := Lib.hid hni
        have HBI := Lib.hid (hbl.trans hbi)
        clear hTi hbi hfi hni hbl hT
        go_wp2_with fail
        refine hK.out _ _ Ri.out (fun hHeld => ?_)
        clear hK K
        try simp only [Act.put, List.setIfInBounds_toArray, List.set_cons_zero, List.set_cons_succ]
        refine wpAnyH_takeD (i := 16) (d := 25) (oi := _) (v := ?_) rfl rfl (by kernel_rfl) (by kernel_rfl) (by kernel_rfl) (fun _ _ _ h => h) (Or.inl ⟨by rfl, ?_⟩) (by assumption) ?_
        rotate_left
        · (intro w hSw; (try dsimp only at hSw); go_simp) <;> with_reducible rfl
        simp only [Act.put, List.setIfInBounds_toArray, List.set_cons_zero, List.set_cons_succ]
        refine wpAnyH_takeD (i := 17) (d := 26) (oi := _) (v := ?_) rfl rfl (by kernel_rfl) (by kernel_rfl) (by kernel_rfl) (fun _ _ _ h => h) (Or.inl ⟨by rfl, ?_⟩) (by assumption) ?_
        rotate_left
        · (intro w hSw; (try dsimp only at hSw); go_simp) <;> with_reducible rfl
        simp only [Act.put, List.setIfInBounds_toArray, List.set_cons_zero, List.set_cons_succ]
        refine wpAnyH_done (by kernel_rfl) ?_ _
        go_wp2
        go_meet
        exact ⟨rfl, _, _, _, _, Nat.le_trans HNI.out (by omega), HTI.out, HBI.out⟩
      · go_simp
        refine (file_any _ _ _ _ _).mono ?_
        rintro e wo1 ⟨rfl, hb⟩
        have Bo1 := Lib.hid (Bo0.out.trans (hb.mono Bo0.out.size))
        have Ro1 := Lib.hid (range_below Ro0.out hb BQo0.out)
        have BQo1 := Lib.hid (Nat.lt_of_lt_of_le BQo0.out hb.size)
        have Oo1 := Lib.hid (Oo0.out.below hb rfl)
        clear hb
        go_wp2_with fail
        refine hK.out _ _ Ro1.out (fun hHeld => ?_)
        clear hK K
        try simp only [Act.put, List.setIfInBounds_toArray, List.set_cons_zero, List.set_cons_succ]
        refine wpAnyH_ready (rs := [2, 5]) (by kernel_rfl) (by simp) ?_
        refine AllReadyH.cons (o := _) rfl (fun K hK => ?_) (AllReadyH.cons (o := _) rfl (fun K hK => ?_) AllReadyH.nil)
        · have hbl := big_len
          have hfo := big_fold
          go_simp
          clear hbl hfo
          have hb := (Below.refl wo1.heap.size wo1).alloc (Nat.le_refl _) (.cells pcBig.cells.toArray 52)
          have Pa2 := Lib.hid (Blk.new wo1 52 pcBig.cells.toArray)
          have GP := Lib.hid (Bo1.out.size)
          obtain ⟨gp, hgp⟩ : ∃ x, wo1.heap.size = x := ⟨_, rfl⟩
          generalize hwn : wo1.alloc (.cells pcBig.cells.toArray 52) = wa2 at hb Pa2 ⊢
          rw [hgp] at Pa2 GP ⊢
          have Ba2 := Lib.hid (Bo1.out.trans (hb.mono Bo1.out.size))
          have Ra2 := Lib.hid (range_below Ro1.out hb BQo1.out)
          have BQa2 := Lib.hid (Nat.lt_of_lt_of_le BQo1.out hb.size)
          have Oa2 := Lib.hid (Oo1.out.below hb rfl)
          clear hb hwn hgp
          refine hK.out _ _ Ra2.out (fun hHeld => ?_)
          clear hK K
          try simp only [Act.put, List.setIfInBounds_toArray, List.set_cons_zero, List.set_cons_succ]
          refine wpAnyH_ready (rs := [5]) (by kernel_rfl) (by simp) ?_
          refine AllReadyH.cons (o := _) rfl (fun K hK => ?_) AllReadyH.nil
          go_simp
          have hb := (Below.refl wa2.heap.size wa2).alloc (Nat.le_refl _) (.cells #[.string ⟨#[97]⟩, .slice (some ⟨go, 0, none⟩) 32 32] 41)
          have Fo2p := Lib.hid (Blk.new wa2 41 #[.string ⟨#[97]⟩, .slice (some ⟨go, 0, none⟩) 32 32])
          have GF := Lib.hid (Ba2.out.size)
          obtain ⟨gf, hgf⟩ : ∃ x, wa2.heap.size = x := ⟨_, rfl⟩
          generalize hwn : wa2.alloc (.cells #[.string ⟨#[97]⟩, .slice (some ⟨go, 0, none⟩) 32 32] 41) = wo2p at hb Fo2p ⊢
          rw [hgf] at Fo2p GF ⊢
          have Bo2p := Lib.hid (Ba2.out.trans (hb.mono Ba2.out.size))
          have Ro2p := Lib.hid (range_below Ra2.out hb BQa2.out)
          have BQo2p := Lib.hid (Nat.lt_of_lt_of_le BQa2.out hb.size)
          have Po2p := Lib.hid (Pa2.out.below hb)
          have Oo2p := Lib.hid (Oa2.out.below hb rfl)
          clear hb hwn hgf
          refine hK.out _ _ Ro2p.out (fun hHeld => ?_)
          clear hK K
          try simp only [Act.put, List.setIfInBounds_toArray, List.set_cons_zero, List.set_cons_succ]
          refine wpAnyH_takeD (i := 6) (d := 15) (oi := _) (v := ?_) rfl rfl (by kernel_rfl) (by kernel_rfl) (by kernel_rfl) (fun _ _ _ h => h) (Or.inl ⟨by rfl, ?_⟩) (by assumption) ?_
          rotate_left
          · (intro w hSw; (try dsimp only at hSw); go_simp) <;> with_reducible rfl
          simp only [Act.put, List.setIfInBounds_toArray, List.set_cons_zero, List.set_cons_succ]
          refine wpAnyH_ready (rs := [7]) (by kernel_rfl) (by simp) ?_
          refine AllReadyH.cons (o := _) rfl (fun K hK => ?_) AllReadyH.nil
          go_simp
          have hbl := HB1.out.trans (Bo2p.out.mono HB1.out.size)
          have hT := HT1.out.below Bo2p.out
          refine (fuA1 (b := w1.heap.size) hT HNE1.out BQo2p.out HT1.out.sg_lt Po2p.out Fo2p.out Oo2p.out GP.out GF.out GO.out).mono ?_
          rintro e we ⟨rfl, ne, ve, Ve, xe, hne, hTe, hbe, hfe, hxe⟩
          have Re := Lib.hid (range_frm Ro2p.out hfe BQo2p.out (fun h => h rfl))
          have BQe := Lib.hid (Nat.lt_of_lt_of_le BQo2p.out hfe.size)
          have HTE := Lib.hid hTe
          have HNE := Lib.hid hne
          have HXE := Lib.hid hxe
          have HBE := Lib.hid (hbl.trans hbe)
          clear hTe hbe hfe hne hxe hbl hT
          simp only at HTE
          go_wp2_with fail
          refine hK.out _ _ Re.out (fun hHeld => ?_)
          clear hK K
          try simp only [Act.put, List.setIfInBounds_toArray, List.set_cons_zero, List.set_cons_succ]
          refine wpAnyH_takeD (i := 8) (d := 17) (oi := _) (v := ?_) rfl rfl (by kernel_rfl) (by kernel_rfl) (by kernel_rfl) (fun _ _ _ h => h) (Or.inl ⟨by rfl, ?_⟩) (by assumption) ?_
          rotate_left
          · (intro w hSw; (try dsimp only at hSw); go_simp) <;> with_reducible rfl
          simp only [Act.put, List.setIfInBounds_toArray, List.set_cons_zero, List.set_cons_succ]
          refine wpAnyH_takeD (i := 9) (d := 18) (oi := _) (v := ?_) rfl rfl (by kernel_rfl) (by kernel_rfl) (by kernel_rfl) (fun _ _ _ h => h) (Or.inl ⟨by rfl, ?_⟩) (by assumption) ?_
          rotate_left
          · (intro w hSw; (try dsimp only at hSw); go_simp) <;> with_reducible rfl
          simp only [Act.put, List.setIfInBounds_toArray, List.set_cons_zero, List.set_cons_succ]
          refine wpAnyH_takeD (i := 10) (d := 19) (oi := _) (v := ?_) rfl rfl (by kernel_rfl) (by kernel_rfl) (by kernel_rfl) (fun _ _ _ h => h) (Or.inl ⟨by rfl, ?_⟩) (by assumption) ?_
          rotate_left
          · (intro w hSw; (try dsimp only at hSw); go_simp) <;> with_reducible rfl
          simp only [Act.put, List.setIfInBounds_toArray, List.set_cons_zero, List.set_cons_succ]
          refine wpAnyH_ready (rs := [11]) (by kernel_rfl) (by simp) ?_
          refine AllReadyH.cons (o := _) rfl (fun K hK => ?_) AllReadyH.nil
          go_simp
          refine (ones33 we).mono ?_
          rintro e wf ⟨⟨go2, hgo2, rfl, hro2⟩, hb⟩
          have Rf := Lib.hid (range_below Re.out hb BQe.out)
          have BQf := Lib.hid (Nat.lt_of_lt_of_le BQe.out hb.size)
          have Of := Lib.hid hro2
          have GO2 := Lib.hid hgo2
          have Bf := Lib.hid hb
          clear hro2 hgo2 hb
          go_wp2_with fail
          refine hK.out _ _ Rf.out (fun hHeld => ?_)
          clear hK K
          try simp only [Act.put, List.setIfInBounds_toArray, List.set_cons_zero, List.set_cons_succ]
          refine wpAnyH_ready (rs := [12]) (by kernel_rfl) (by simp) ?_
          refine AllReadyH.cons (o := _) rfl (fun K hK => ?_) AllReadyH.nil
          go_simp
          refine (file_any _ _ _ _ _).mono ?_
          rintro e wg ⟨rfl, hb⟩
          have Rg := Lib.hid (range_below Rf.out hb BQf.out)
          have BQg := Lib.hid (Nat.lt_of_lt_of_le BQf.out hb.size)
          have Og := Lib.hid (Of.out.below hb rfl)
          have Bg := Lib.hid (Bf.out.trans (hb.mono Bf.out.size))
          clear hb
          go_wp2_with fail
          refine hK.out _ _ Rg.out (fun hHeld => ?_)
          clear hK K
          try simp only [Act.put, List.setIfInBounds_toArray, List.set_cons_zero, List.set_cons_succ]
          refine wpAnyH_ready (rs := [13]) (by kernel_rfl) (by simp) ?_
          refine AllReadyH.cons (o := _) rfl (fun K hK => ?_) AllReadyH.nil
          go_simp
          have hb := (Below.refl wg.heap.size wg).alloc (Nat.le_refl _) (.cells #[.string ⟨#[97]⟩, .slice (some ⟨go2, 0, none⟩) 33 33] 41)
          have Fh := Lib.hid (Blk.new wg 41 #[.string ⟨#[97]⟩, .slice (some ⟨go2, 0, none⟩) 33 33])
          have GF2 := Lib.hid (Bg.out.size)
          obtain ⟨gf2, hgf⟩ : ∃ x, wg.heap.size = x := ⟨_, rfl⟩
          generalize hwn : wg.alloc (.cells #[.string ⟨#[97]⟩, .slice (some ⟨go2, 0, none⟩) 33 33] 41) = wh at hb Fh ⊢
          rw [hgf] at Fh GF2 ⊢
          have Rh := Lib.hid (range_below Rg.out hb BQg.out)
          have BQh := Lib.hid (Nat.lt_of_lt_of_le BQg.out hb.size)
          have Oh := Lib.hid (Og.out.below hb rfl)
          have Bh := Lib.hid (Bg.out.trans (hb.mono Bg.out.size))
          clear hb hwn hgf
          refine hK.out _ _ Rh.out (fun hHeld => ?_)
          clear hK K
          try simp only [Act.put, List.setIfInBounds_toArray, List.set_cons_zero, List.set_cons_succ]
          refine wpAnyH_takeD (i := 14) (d := 23) (oi := _) (v := ?_) rfl rfl (by kernel_rfl) (by kernel_rfl) (by kernel_rfl) (fun _ _ _ h => h) (Or.inl ⟨by rfl, ?_⟩) (by assumption) ?_
          rotate_left
          · (intro w hSw; (try dsimp only at hSw); go_simp) <;> with_reducible rfl
          simp only [Act.put, List.setIfInBounds_toArray, List.set_cons_zero, List.set_cons_succ]
          refine wpAnyH_ready (rs := [15]) (by kernel_rfl) (by simp) ?_
          refine AllReadyH.cons (o := _) rfl (fun K hK => ?_) AllReadyH.nil
          go_simp
          have hbl := HBE.out.trans (Bh.out.mono HBE.out.size)
          have hT := HTE.out.below Bh.out
          refine (fuA2 (b := w1.heap.size) hT HNE.out HXE.out BQh.out HTE.out.sg_lt Fh.out Oh.out GF2.out GO2.out).mono ?_
          rintro e wi ⟨rfl, ni, vi, Vi, xi, hni, hTi, hbi, hfi, _⟩
          have Ri := Lib.hid (range_frm Rh.out hfi BQh.out (fun h => h rfl))
          have HTI := Lib.hid hTi
          have HNI := Lib.hid hni
          have HBI := Lib.hid (hbl.trans hbi)
          clear hTi hbi hfi hni hbl hT
          go_wp2_with fail
          refine hK.out _ _ Ri.out (fun hHeld => ?_)
          clear hK K
          try simp only [Act.put, List.setIfInBounds_toArray, List.set_cons_zero, List.set_cons_succ]
          refine wpAnyH_takeD (i := 16) (d := 25) (oi := _) (v := ?_) rfl rfl (by kernel_rfl) (by kernel_rfl) (by kernel_rfl) (fun _ _ _ h => h) (Or.inl ⟨by rfl, ?_⟩) (by assumption) ?_
          rotate_left
          · (intro w hSw; (try dsimp only at hSw); go_simp) <;> with_reducible rfl
          simp only [Act.put, List.setIfInBounds_toArray, List.set_cons_zero, List.set_cons_succ]
          refine wpAnyH_takeD (i := 17) (d := 26) (oi := _) (v := ?_) rfl rfl (by kernel_rfl) (by kernel_rfl) (by kernel_rfl) (fun _ _ _ h => h) (Or.inl ⟨by rfl, ?_⟩) (by assumption) ?_
          rotate_left
          · (intro w hSw; (try dsimp only at hSw); go_simp) <;> with_reducible rfl
          simp only [Act.put, List.setIfInBounds_toArray, List.set_cons_zero, List.set_cons_succ]
          refine wpAnyH_done (by kernel_rfl) ?_ _
          go_wp2
          go_meet
          exact ⟨rfl, _, _, _, _, Nat.le_trans HNI.out (by omega), HTI.out, HBI.out⟩
        · go_simp
          have hb := (Below.refl wo1.heap.size wo1).alloc (Nat.le_refl _) (.cells #[.string ⟨#[97]⟩, .slice (some ⟨go, 0, none⟩) 32 32] 41)
          have Fo2 := Lib.hid (Blk.new wo1 41 #[.string ⟨#[97]⟩, .slice (some ⟨go, 0, none⟩) 32 32])
          have GF := Lib.hid (Bo1.out.size)
          obtain ⟨gf, hgf⟩ : ∃ x, wo1.heap.size = x := ⟨_, rfl⟩
          generalize hwn : wo1.alloc (.cells #[.string ⟨#[97]⟩, .slice (some ⟨go, 0, none⟩) 32 32] 41) = wo2 at hb Fo2 ⊢
          rw [hgf] at Fo2 GF ⊢
          have Bo2 := Lib.hid (Bo1.out.trans (hb.mono Bo1.out.size))
          have Ro2 := Lib.hid (range_below Ro1.out hb BQo1.out)
          have BQo2 := Lib.hid (Nat.lt_of_lt_of_le BQo1.out hb.size)
          have Oo2 := Lib.hid (Oo1.out.below hb rfl)
          clear hb hwn hgf
          refine hK.out _ _ Ro2.out (fun hHeld => ?_)
          clear hK K
          try simp only [Act.put, List.setIfInBounds_toArray, List.set_cons_zero, List.set_cons_succ]
          refine wpAnyH_takeD (i := 6) (d := 15) (oi := _) (v := ?_) rfl rfl (by kernel_rfl) (by kernel_rfl) (by kernel_rfl) (fun _ _ _ h => h) (Or.inl ⟨by rfl, ?_⟩) (by assumption) ?_
          rotate_left
          · (intro w hSw; (try dsimp only at hSw); go_simp) <;> with_reducible rfl
          simp only [Act.put, List.setIfInBounds_toArray, List.set_cons_zero, List.set_cons_succ]
          refine wpAnyH_ready (rs := [2]) (by kernel_rfl) (by simp) ?_
          refine AllReadyH.cons (o := _) rfl (fun K hK => ?_) AllReadyH.nil
          have hbl := big_len
          have hfo := big_fold
          go_simp
          clear hbl hfo
          have hb := (Below.refl wo2.heap.size wo2).alloc (Nat.le_refl _) (.cells pcBig.cells.toArray 52)
          have Pa3 := Lib.hid (Blk.new wo2 52 pcBig.cells.toArray)
          have GP := Lib.hid (Bo2.out.size)
          obtain ⟨gp, hgp⟩ : ∃ x, wo2.heap.size = x := ⟨_, rfl⟩
          generalize hwn : wo2.alloc (.cells pcBig.cells.toArray 52) = wa3 at hb Pa3 ⊢
          rw [hgp] at Pa3 GP ⊢
          have Ba3 := Lib.hid (Bo2.out.trans (hb.mono Bo2.out.size))
          have Ra3 := Lib.hid (range_below Ro2.out hb BQo2.out)
          have BQa3 := Lib.hid (Nat.lt_of_lt_of_le BQo2.out hb.size)
          have Oa3 := Lib.hid (Oo2.out.below hb rfl)
          have Fa3 := Lib.hid (Fo2.out.below hb)
          clear hb hwn hgp
          refine hK.out _ _ Ra3.out (fun hHeld => ?_)
          clear hK K
          try simp only [Act.put, List.setIfInBounds_toArray, List.set_cons_zero, List.set_cons_succ]
          refine wpAnyH_ready (rs := [7]) (by kernel_rfl) (by simp) ?_
          refine AllReadyH.cons (o := _) rfl (fun K hK => ?_) AllReadyH.nil
          go_simp
          have hbl := HB1.out.trans (Ba3.out.mono HB1.out.size)
          have hT := HT1.out.below Ba3.out
          refine (fuA1 (b := w1.heap.size) hT HNE1.out BQa3.out HT1.out.sg_lt Pa3.out Fa3.out Oa3.out GP.out GF.out GO.out).mono ?_
          rintro e we ⟨rfl, ne, ve, Ve, xe, hne, hTe, hbe, hfe, hxe⟩
          have Re := Lib.hid (range_frm Ra3.out hfe BQa3.out (fun h => h rfl))
          have BQe := Lib.hid (Nat.lt_of_lt_of_le BQa3.out hfe.size)
          have HTE := Lib.hid hTe
          have HNE := Lib.hid hne
          have HXE := Lib.hid hxe
          have HBE := Lib.hid (hbl.trans hbe)
          clear hTe hbe hfe hne hxe hbl hT
          simp only at HTE
          go_wp2_with fail
          refine hK.out _ _ Re.out (fun hHeld => ?_)
          clear hK K
          try simp only [Act.put, List.setIfInBounds_toArray, List.set_cons_zero, List.set_cons_succ]
          refine wpAnyH_takeD (i := 8) (d := 17) (oi := _) (v := ?_) rfl rfl (by kernel_rfl) (by kernel_rfl) (by kernel_rfl) (fun _ _ _ h => h) (Or.inl ⟨by rfl, ?_⟩) (by assumption) ?_
          rotate_left
          · (intro w hSw; (try dsimp only at hSw); go_simp) <;> with_reducible rfl
          simp only [Act.put, List.setIfInBounds_toArray, List.set_cons_zero, List.set_cons_succ]
          refine wpAnyH_takeD (i := 9) (d := 18) (oi := _) (v := ?_) rfl rfl (by kernel_rfl) (by kernel_rfl) (by kernel_rfl) (fun _ _ _ h => h) (Or.inl ⟨by rfl, ?_⟩) (by assumption) ?_
          rotate_left
          · (intro w hSw; (try dsimp only at hSw); go_simp) <;> with_reducible rfl
          simp only [Act.put, List.setIfInBounds_toArray, List.set_cons_zero, List.set_cons_succ]
          refine wpAnyH_takeD (i := 10) (d := 19) (oi := _) (v := ?_) rfl rfl (by kernel_rfl) (by kernel_rfl) (by kernel_rfl) (fun _ _ _ h => h) (Or.inl ⟨by rfl, ?_⟩) (by assumption) ?_
          rotate_left
          · (intro w hSw; (try dsimp only at hSw); go_simp) <;> with_reducible rfl
          simp only [Act.put, List.setIfInBounds_toArray, List.set_cons_zero, List.set_cons_succ]
          refine wpAnyH_ready (rs := [11]) (by kernel_rfl) (by simp) ?_
          refine AllReadyH.cons (o := _) rfl (fun K hK => ?_) AllReadyH.nil
          go_simp
          refine (ones33 we).mono ?_
          rintro e wf ⟨⟨go2, hgo2, rfl, hro2⟩, hb⟩
          have Rf := Lib.hid (range_below Re.out hb BQe.out)
          have BQf := Lib.hid (Nat.lt_of_lt_of_le BQe.out hb.size)
          have Of := Lib.hid hro2
          have GO2 := Lib.hid hgo2
          have Bf := Lib.hid hb
          clear hro2 hgo2 hb
          go_wp2_with fail
          refine hK.out _ _ Rf.out (fun hHeld => ?_)
          clear hK K
          try simp only [Act.put, List.setIfInBounds_toArray, List.set_cons_zero, List.set_cons_succ]
          refine wpAnyH_ready (rs := [12]) (by kernel_rfl) (by simp) ?_
          refine AllReadyH.cons (o := _) rfl (fun K hK => ?_) AllReadyH.nil
          go_simp
          refine (file_any _ _ _ _ _).mono ?_
          rintro e wg ⟨rfl, hb⟩
          have Rg := Lib.hid (range_below Rf.out hb BQf.out)
          have BQg := Lib.hid (Nat.lt_of_lt_of_le BQf.out hb.size)
          have Og := Lib.hid (Of.out.below hb rfl)
          have Bg := Lib.hid (Bf.out.trans (hb.mono Bf.out.size))
          clear hb
          go_wp2_with fail
          refine hK.out _ _ Rg.out (fun hHeld => ?_)
          clear hK K
          try simp only [Act.put, List.setIfInBounds_toArray, List.set_cons_zero, List.set_cons_succ]
          refine wpAnyH_ready (rs := [13]) (by kernel_rfl) (by simp) ?_
          refine AllReadyH.cons (o := _) rfl (fun K hK => ?_) AllReadyH.nil
          go_simp
          have hb := (Below.refl wg.heap.size wg).alloc (Nat.le_refl _) (.cells #[.string ⟨#[97]⟩, .slice (some ⟨go2, 0, none⟩) 33 33] 41)
          have Fh := Lib.hid (Blk.new wg 41 #[.string ⟨#[97]⟩, .slice (some ⟨go2, 0, none⟩) 33 33])
          have GF2 := Lib.hid (Bg.out.size)
          obtain ⟨gf2, hgf⟩ : ∃ x, wg.heap.size = x := ⟨_, rfl⟩
          generalize hwn : wg.alloc (.cells #[.string ⟨#[97]⟩, .slice (some ⟨go2, 0, none⟩) 33 33] 41) = wh at hb Fh ⊢
          rw [hgf] at Fh GF2 ⊢
          have Rh := Lib.hid (range_below Rg.out hb BQg.out)
          have BQh := Lib.hid (Nat.lt_of_lt_of_le BQg.out hb.size)
          have Oh := Lib.hid (Og.out.below hb rfl)
          have Bh := Lib.hid (Bg.out.trans (hb.mono Bg.out.size))
          clear hb hwn hgf
          refine hK.out _ _ Rh.out (fun hHeld => ?_)
          clear hK K
          try simp only [Act.put, List.setIfInBounds_toArray, List.set_cons_zero, List.set_cons_succ]
          refine wpAnyH_takeD (i := 14) (d := 23) (oi := _) (v := ?_) rfl rfl (by kernel_rfl) (by kernel_rfl) (by kernel_rfl) (fun _ _ _ h => h) (Or.inl ⟨by rfl, ?_⟩) (by assumption) ?_
          rotate_left
          · (intro w hSw; (try dsimp only at hSw); go_simp) <;> with_reducible rfl
          simp only [Act.put, List.setIfInBounds_toArray, List.set_cons_zero, List.set_cons_succ]
          refine wpAnyH_ready (rs := [15]) (by kernel_rfl) (by simp) ?_
          refine AllReadyH.cons (o := _) rfl (fun K hK => ?_) AllReadyH.nil
          go_simp
          have hbl := HBE.out.trans (Bh.out.mono HBE.out.size)
          have hT := HTE.out.below Bh.out
          refine (fuA2 (b := w1.heap.size) hT HNE.out HXE.out BQh.out HTE.out.sg_lt Fh.out Oh.out GF2.out GO2.out).mono ?_
          rintro e wi ⟨rfl, ni, vi, Vi, xi, hni, hTi, hbi, hfi, _⟩
          have Ri := Lib.hid (range_frm Rh.out hfi BQh.out (fun h => h rfl))
          have HTI := Lib.hid hTi
          have HNI := Lib.hid hni
          have HBI := Lib.hid (hbl.trans hbi)
          clear hTi hbi hfi hni hbl hT
          go_wp2_with fail
          refine hK.out _ _ Ri.out (fun hHeld => ?_)
          clear hK K
          try simp only [Act.put, List.setIfInBounds_toArray, List.set_cons_zero, List.set_cons_succ]
          refine wpAnyH_takeD (i := 16) (d := 25) (oi := _) (v := ?_) rfl rfl (by kernel_rfl) (by kernel_rfl) (by kernel_rfl) (fun _ _ _ h => h) (Or.inl ⟨by rfl, ?_⟩) (by assumption) ?_
          rotate_left
          · (intro w hSw; (try dsimp only at hSw); go_simp) <;> with_reducible rfl
          simp only [Act.put, List.setIfInBounds_toArray, List.set_cons_zero, List.set_cons_succ]
          refine wpAnyH_takeD (i := 17) (d := 26) (oi := _) (v := ?_) rfl rfl (by kernel_rfl) (by kernel_rfl) (by kernel_rfl) (fun _ _ _ h => h) (Or.inl ⟨by rfl, ?_⟩) (by assumption) ?_
          rotate_left
          · (intro w hSw; (try dsimp only at hSw); go_simp) <;> with_reducible rfl
          simp only [Act.put, List.setIfInBounds_toArray, List.set_cons_zero, List.set_cons_succ]
          refine wpAnyH_done (by kernel_rfl) ?_ _
          go_wp2
          go_meet
          exact ⟨rfl, _, _, _, _, Nat.le_trans HNI.out (by omega), HTI.out, HBI.out⟩
  case rest =>
    obtain ⟨rfl, n0, v0, V0, x0, hn0, hT0, hb0⟩ := hcut
    have HN0 := Lib.hid hn0
    have HT0 := Lib.hid hT0
    have HB0 := Lib.hid hb0
    clear hn0 hT0 hb0
    go_wp2_with fail
    go_loopw [3] (fun i wr => ∃ k : Nat, 1 ≤ k ∧ k ≤ 100 ∧ i = .int .i64 k ∧ ∃ n v V x vs, vs.length = k ∧ n ≤ 2 ∧ Tb w.heap.size wr gt gi mb n ⟨1, [pcBig], vs⟩ v V x ∧ Below w.heap.size w wr) (fun i _ => 100 - (intOf i).toNat)
    case atStart => exact ⟨1, by omega, by omega, rfl, n0, v0, V0, x0, _, rfl, HN0.out, HT0.out, HB0.out⟩
    case round =>
      obtain ⟨k, hk1, hk, rfl, n, v, V, x, vs, hl, hn, hT, hlow⟩ := hrel
      have HL := Lib.hid hl
      have HN := Lib.hid hn
      have HT := Lib.hid hT
      have HLOW := Lib.hid hlow
      clear hl hn hT hlow
      by_cases hlt : k < 100
      · have hki : (k : Int) < 100 := by omega
        go_wp2_with fail
        refine (apply_roll 0 (k : Int) wr HT.out (by omega) (by omega) (by have := HN.out; omega)).mono ?_
        rw [fu_roll vs k hk1 HL.out hlt]
        rintro e w5 hap
        have hbp := hap.below HT.out
        obtain ⟨hre, ⟨n2, v2, V2, x2, hn2, hT2, _⟩, _⟩ := hap
        subst hre
        have HN2 := Lib.hid hn2
        have HT2 := Lib.hid hT2
        have HL2 := Lib.hid (HLOW.out.trans hbp)
        clear hbp hn2 hT2
        go_wp2
        go_roundw
        case rel => exact ⟨k + 1, by omega, by omega, by go_num, n2, v2, V2, x2, _, by rw [List.length_append, HL.out]; rfl, Nat.le_trans HN2.out HN.out, HT2.out, HL2.out⟩
        case measure => simp [intOf]; omega
      · obtain rfl : k = 100 := by omega
        go_wp2_with fail
        refine (apply_roll 0 1 wr HT.out (by omega) (by omega) (by have := HN.out; omega)).mono ?_
        rw [fu_full vs 1 HL.out]
        rintro e w5 hap
        have hbp := hap.below HT.out
        obtain ⟨hre, ⟨n2, v2, V2, x2, hn2, hT2, _⟩, _⟩ := hap
        subst hre
        have HT2 := Lib.hid hT2
        have HL2 := Lib.hid (HLOW.out.trans hbp)
        clear hbp hn2 hT2
        go_wp2_with fail
        refine (newT_any w5).mono ?_
        rintro e na ⟨⟨ga, ia, ma, rfl, hNa⟩, hca⟩
        have HNa := Lib.hid hNa
        have HCa := Lib.hid hca
        clear hNa hca
        go_wp2_with fail
        refine (apply_roll (1048577) 0 na HNa.out (by omega) (by omega) (by omega)).mono ?_
        rw [fu3]
        rintro e pa hap
        have hbp := hap.below HNa.out
        have hre := hap.ret
        subst hre
        have HPa := Lib.hid (HCa.out.trans hbp)
        clear hap hbp
        go_wp2_with fail
        refine (newT_any pa).mono ?_
        rintro e nb ⟨⟨gb, ib, mb, rfl, hNb⟩, hcb⟩
        have HNb := Lib.hid hNb
        have HCb := Lib.hid hcb
        clear hNb hcb
        go_wp2_with fail
        refine (apply_roll (1048576) 0 nb HNb.out (by omega) (by omega) (by omega)).mono ?_
        rw [fu4]
        rintro e pb hap
        have hbp := hap.below HNb.out
        have hre := hap.ret
        subst hre
        have HPb := Lib.hid (HCb.out.trans hbp)
        clear hap hbp
        go_wp2_with fail
        refine (newT_any pb).mono ?_
        rintro e nc ⟨⟨gc, ic, mc, rfl, hNc⟩, hcc⟩
        have HNc := Lib.hid hNc
        have HCc := Lib.hid hcc
        clear hNc hcc
        go_wp2_with fail
        refine (apply_roll (-1) 0 nc HNc.out (by omega) (by omega) (by omega)).mono ?_
        rw [fu5]
        rintro e pc hap
        have hbp := hap.below HNc.out
        have hre := hap.ret
        subst hre
        have HPc := Lib.hid (HCc.out.trans hbp)
        clear hap hbp
        have hs5 := HL2.out.size
        have hbA := HPa.out
        have hbB := hbA.trans (HPb.out.mono hbA.size)
        have hbC := hbB.trans (HPc.out.mono hbB.size)
        have hle := len9_any pc (HT2.out.below hbC)
        rw [show ((Tab.mk 1 [pcBig] vs).vs.length : Int) = 100 by show (vs.length : Int) = 100; rw [HL.out]; rfl] at hle
        have HLE := Lib.hid hle
        have HEND := Lib.hid (HL2.out.trans (hbC.mono hs5))
        clear hs5 hbA hbB hbC hle
        go_wp2_with fail
        refine (HLE.out).mono ?_
        rintro e w9 ⟨rfl, rfl⟩
        go_wp2
        go_ret
        exact ⟨rfl, HEND.out⟩
end Go.Proofs.Ytlhhkmpidnegcaa
