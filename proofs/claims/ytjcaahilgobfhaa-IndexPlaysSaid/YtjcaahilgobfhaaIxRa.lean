/- The index: the document's Add. -/
import Derived.Test.YtjcaahilgobfhaaIxAp
namespace Go.Proofs.Ytjcaahilgobfhaa
open Go.RowKit Go.WideShapes Go.Maps
set_option linter.unusedVariables false
set_option linter.unusedSimpArgs false
set_option maxHeartbeats 1000000 in
theorem refAdd_wrong {B : Nat} {l : List Pc} {A : Option Addr} {M c : Nat} (p : Pc) (w : World) (ho : RowP B w (.slice A M c) M (flatP l)) (hp : p.ok) (hr : rightP p.s p.b p.a = false) :
    Calls Try.prog 28 #[.slice A M c, p.agg] w (Quiet (.tuple #[.slice A M c, .int .i64 0, .bool false, .int .i64 2]) w) := by
  have hcs := cellsOf p hp
  have hri := fun W => rightR_any p hp W
  have hag : p.agg = .agg p.cells.toArray := rfl
  rw [hag] at hri ⊢
  rw [hr] at hri
  have hbn := (Below.refl w.heap.size w).alloc (Nat.le_refl _) (.cells p.cells.toArray 39)
  have HB1 := Lib.hid hbn
  have HG1 := Lib.hid (Blk.new w 39 p.cells.toArray)
  have HRO := Lib.hid (ho.below hbn)
  have CS := Lib.hid hcs
  have HRI := Lib.hid hri
  clear hcs hri hag hbn ho hp hr
  go_enter Try.func28, Try.ntmps28
  go_wp2_with (refine wpList_load_row rfl 39 (.tmp 3) rfl w.heap.size rfl 39 p.cells.toArray _ _ HG1.out Try.underlying39 rfl CS.out.a39 ?_)
  obtain ⟨gb, hgb⟩ : ∃ gb, w.heap.size = gb := ⟨_, rfl⟩
  rw [hgb] at HG1 ⊢
  have HGB := Lib.hid hgb
  generalize w.alloc (.cells p.cells.toArray 39) = W1 at HB1 HG1 HRO ⊢
  clear hgb
  refine (HRI.out W1).mono ?_
  rintro e w2 ⟨rfl, hb2⟩
  have HB2 := Lib.hid (HB1.out.trans (hb2.mono HB1.out.size))
  have HG2 := Lib.hid (HG1.out.below hb2)
  have HR2 := Lib.hid (HRO.out.below hb2)
  have HRG := Lib.hid (CS.out.rg _ _ HG2.out)
  clear hb2
  go_wp2_with fail
  exact bodyPost_ret (v := .tuple #[.slice A M c, .int .i64 0, .bool false, .int .i64 2]) (by simp [results, Try.results28, go_sem]) rfl ⟨rfl, HGB.out ▸ HB2.out⟩
set_option maxHeartbeats 1000000 in
theorem refAdd_there {B : Nat} {l : List Pc} {A : Option Addr} {M c : Nat} (p : Pc) (w : World) (ho : RowP B w (.slice A M c) M (flatP l)) (hp : p.ok) (hr : rightP p.s p.b p.a = true) (oks : ∀ p ∈ l, p.ok) (hM : l.length = M) (hm : M ≤ 8192) (i : Nat) (hf : findP l p.h = some i) :
    Calls Try.prog 28 #[.slice A M c, p.agg] w (Quiet (.tuple #[.slice A M c, .int .i64 (i : Int), .bool false, .int .i64 0]) w) := by
  have hfd := fun (W : World) (h : RowP B W (.slice A M c) M (flatP l)) => (refFind_any p.h W h oks hM hm hp.h).mono fun e w' hx => found_some hf hx
  have HFD := Lib.hid hfd
  have hcs := cellsOf p hp
  have hri := fun W => rightR_any p hp W
  have hag : p.agg = .agg p.cells.toArray := rfl
  rw [hag] at hri ⊢
  rw [hr] at hri
  have hbn := (Below.refl w.heap.size w).alloc (Nat.le_refl _) (.cells p.cells.toArray 39)
  have HB1 := Lib.hid hbn
  have HG1 := Lib.hid (Blk.new w 39 p.cells.toArray)
  have HRO := Lib.hid (ho.below hbn)
  have CS := Lib.hid hcs
  have HRI := Lib.hid hri
  clear hcs hri hag hbn ho hp hr hfd oks hM hf
  go_enter Try.func28, Try.ntmps28
  go_wp2_with (refine wpList_load_row rfl 39 (.tmp 3) rfl w.heap.size rfl 39 p.cells.toArray _ _ HG1.out Try.underlying39 rfl CS.out.a39 ?_)
  obtain ⟨gb, hgb⟩ : ∃ gb, w.heap.size = gb := ⟨_, rfl⟩
  rw [hgb] at HG1 ⊢
  have HGB := Lib.hid hgb
  generalize w.alloc (.cells p.cells.toArray 39) = W1 at HB1 HG1 HRO ⊢
  clear hgb
  refine (HRI.out W1).mono ?_
  rintro e w2 ⟨rfl, hb2⟩
  have HB2 := Lib.hid (HB1.out.trans (hb2.mono HB1.out.size))
  have HG2 := Lib.hid (HG1.out.below hb2)
  have HR2 := Lib.hid (HRO.out.below hb2)
  have HRG := Lib.hid (CS.out.rg _ _ HG2.out)
  clear hb2
  go_wp2_with (refine wpList_load_mid rfl 37 (.tmp 17) rfl gb 0 rfl (hashV p.h) _ HRG.out Try.underlying37 rfl CS.out.s37 ?_)
  refine (HFD.out w2 HR2.out).mono ?_
  rintro e w3 ⟨rfl, hb3⟩
  have HB3 := Lib.hid (HB2.out.trans (hb3.mono HB2.out.size))
  have HG3 := Lib.hid (HG2.out.below hb3)
  have HR3 := Lib.hid (HR2.out.below hb3)
  clear hb3
  go_wp2_with fail
  exact bodyPost_ret (v := .tuple #[.slice A M c, .int .i64 (i : Int), .bool false, .int .i64 0]) (by simp [results, Try.results28, go_sem]) rfl ⟨rfl, HGB.out ▸ HB3.out⟩
theorem blk_src {w : World} {g : Nat} {t : TypeId} {us : List Value} (h : Blk w g t us.toArray) : ∀ j u, us[j]? = some u → w.cell? ((⟨g, 0, none⟩ : Addr).add j) = some u := fun j u hu => by
  rw [addr_add, Nat.zero_add, h.cell, List.getElem?_toArray]; exact hu
theorem rowp_src' {B M c : Nat} {w : World} {A : Option Addr} {xs : List Value} (h : RowP B w (.slice A M c) M xs) : M = 0 ∨ ∃ ad : Addr, A = some ad ∧ ∀ j u, xs[j]? = some u → w.cell? (ad.add j) = some u := by
  have h1 := rowp_src h M (Nat.le_refl _)
  rw [List.take_of_length_le (by rw [h.len]; exact Nat.le_refl _)] at h1
  exact h1
structure RefAdd (l : List Pc) (m : Nat) (w0 : World) (e : Ending) (w : World) : Prop where
  ex : ∃ u, e = .returned (.tuple #[u, .int .i64 (m : Int), .bool true, .int .i64 0]) ∧ RefRow l m u w0 w
set_option maxHeartbeats 2000000 in
theorem refAdd_new {B : Nat} {l : List Pc} {A : Option Addr} {M c : Nat} (p : Pc) (w : World) (ho : RowP B w (.slice A M c) M (flatP l)) (hp : p.ok) (hr : rightP p.s p.b p.a = true) (oks : ∀ p ∈ l, p.ok) (hM : l.length = M) (hm : M ≤ 100) (hf : findP l p.h = none) :
    Calls Try.prog 28 #[.slice A M c, p.agg] w (RefAdd (l ++ [p]) (M + 1) w) := by
  have hfd := fun (W : World) (h : RowP B W (.slice A M c) M (flatP l)) => (refFind_any p.h W h oks hM (by omega) hp.h).mono fun e w' hx => found_none hf hx
  have HFD := Lib.hid hfd
  have hlen : (flatP l).length = M * 23 := by rw [flatP_length l oks, hM]
  have HLEN := Lib.hid hlen
  have e1 : decide ((8192 : Int) ≤ M) = false := by simp; omega
  have hfold := fold_set p.cells #[.int .u8 0, .int .u8 0, .int .u8 0, .int .u8 0, .int .u8 0, .int .u8 0, .int .u8 0, .int .u8 0, .int .u8 0, .int .u8 0, .int .u8 0, .int .u8 0, .int .u8 0, .int .u8 0, .int .u8 0, .int .u8 0, .int .u8 0, .int .u8 0, .int .u8 0, .int .u8 0, .int .i64 0, .int .i64 0, .int .i64 0] (by rw [Pc.cells_length hp]; rfl)
  have hpl : p.cells.length = 23 := Pc.cells_length hp
  have hnl : ¬ (¬ p.cells.length = 23 ∨ 23 < p.cells.length) := by omega
  have hsn := flatP_snoc l p
  have HSN := Lib.hid hsn
  have HPO := Lib.hid (Pc.cells_one p)
  have hcs := cellsOf p hp
  have hri := fun W => rightR_any p hp W
  have hag : p.agg = .agg p.cells.toArray := rfl
  rw [hag] at hri ⊢
  rw [hr] at hri
  have hbn := (Below.refl w.heap.size w).alloc (Nat.le_refl _) (.cells p.cells.toArray 39)
  have HB1 := Lib.hid hbn
  have HG1 := Lib.hid (Blk.new w 39 p.cells.toArray)
  have HRO := Lib.hid (ho.below hbn)
  have CS := Lib.hid hcs
  have HRI := Lib.hid hri
  clear hcs hri hag hbn ho hp hr hfd oks hM hf hlen hsn
  go_enter Try.func28, Try.ntmps28
  go_wp2_with (refine wpList_load_row rfl 39 (.tmp 3) rfl w.heap.size rfl 39 p.cells.toArray _ _ HG1.out Try.underlying39 rfl CS.out.a39 ?_)
  obtain ⟨gb, hgb⟩ : ∃ gb, w.heap.size = gb := ⟨_, rfl⟩
  rw [hgb] at HG1 ⊢
  have HGB := Lib.hid hgb
  generalize w.alloc (.cells p.cells.toArray 39) = W1 at HB1 HG1 HRO ⊢
  clear hgb
  refine (HRI.out W1).mono ?_
  rintro e w2 ⟨rfl, hb2⟩
  have HB2 := Lib.hid (HB1.out.trans (hb2.mono HB1.out.size))
  have HG2 := Lib.hid (HG1.out.below hb2)
  have HR2 := Lib.hid (HRO.out.below hb2)
  have HRG := Lib.hid (CS.out.rg _ _ HG2.out)
  clear hb2
  go_wp2_with (refine wpList_load_mid rfl 37 (.tmp 17) rfl gb 0 rfl (hashV p.h) _ HRG.out Try.underlying37 rfl CS.out.s37 ?_)
  refine (HFD.out w2 HR2.out).mono ?_
  rintro e w3 ⟨rfl, hb3⟩
  have HB3 := Lib.hid (HB2.out.trans (hb3.mono HB2.out.size))
  have HG3 := Lib.hid (HG2.out.below hb3)
  have HR3 := Lib.hid (HR2.out.below hb3)
  clear hb3
  have hown3 : w3.ownsRow w.heap.size 39 23 (.slice none 0 0) 0 [] := ⟨rfl, .inl ⟨rfl, rfl⟩⟩
  have HOWN := Lib.hid hown3
  have HSRC := Lib.hid (rowp_src' HR3.out)
  have HONE := Lib.hid (flatP_one l)
  have HSZ := Lib.hid HB3.out.size
  have hM1 : wrap64 ((M : Int) + 1) = (M : Int) + 1 := by unfold wrap64; omega
  clear hown3
  go_wp2_with (first | (refine wpList_appN tPcs rfl (.tmp 29) (.tmp 30) rfl w.heap.size (.slice none 0 0) 0 [] rfl HOWN.out A M c (flatP l) rfl HLEN.out HSRC.out HONE.out (by omega) (by unfold maxLen; omega) HSZ.out (fun u1 w4 ho4 hg4 hn4 => ?_); have HB4 := Lib.hid (HB3.out.grown hg4 HSZ.out (fun k hk => by simp [Value.ownBlock] at hk)); have HG4 := Lib.hid (HG3.out.frm (Frm.of_grown (S := fun _ => False) hg4 (fun k hk => by simp [Value.ownBlock] at hk)) (fun h => h)); have HO4 := Lib.hid (show (w4.alloc (.cells p.cells.toArray 39)).ownsRow w.heap.size 39 23 u1 M (flatP l) from by simpa using ho4.alloc (.cells p.cells.toArray 39)); have HN4 := Lib.hid (Blk.new w4 39 p.cells.toArray); have HB4a := Lib.hid (HB4.out.alloc HB4.out.size (.cells p.cells.toArray 39)); clear ho4 hg4 hn4) | (refine wpList_load_row rfl 39 (.tmp 3) rfl gb rfl 39 p.cells.toArray _ _ HG4.out Try.underlying39 rfl CS.out.a39 ?_) | (refine wpList_appN tPcs rfl (.tmp 32) (.tmp 34) rfl w.heap.size u1 M (flatP l) rfl HO4.out (some ⟨w4.heap.size, 0, none⟩) 1 1 p.cells rfl (by rw [hpl]) (.inr ⟨_, rfl, blk_src HN4.out⟩) HPO.out (by omega) (by unfold maxLen; omega) HB4a.out.size (fun u2 w5 ho5 hg5 hn5 => ?_); obtain ⟨A2, c2, rfl, hc2⟩ := own_slice ho5; have HO5 := Lib.hid ho5; have HB5 := Lib.hid (HB4a.out.grown hg5 HB4a.out.size (own_ge HO4.out)); clear ho5 hg5 hn5))
  exact bodyPost_ret (v := .tuple #[.slice A2 (M + 1) c2, .int .i64 ((M + 1 : Nat) : Int), .bool true, .int .i64 0]) (by simp [results, Try.results28, go_sem]) rfl ⟨⟨_, rfl, by rw [HSN.out]; exact HO5.out, HB5.out⟩⟩
end Go.Proofs.Ytjcaahilgobfhaa
