/- awake: the chapter's examples: the walk. Condition: none. -/
import Derived.Test.YtlhhkmpidnegcaaVeAy
namespace Go.Proofs.Ytlhhkmpidnegcaa
open Go.RowKit Go.WideShapes
set_option linter.unusedVariables false
set_option linter.unusedSimpArgs false
theorem piece11 (w : World) : Calls Try.prog 26 #[.int .i64 1, .int .i64 1] w (Quiet (.agg #[.int .u8 1, .int .u8 0, .int .u8 0, .int .u8 0, .int .u8 0, .int .u8 0, .int .u8 0, .int .u8 0, .int .u8 0, .int .u8 0, .int .u8 0, .int .u8 0, .int .u8 0, .int .u8 0, .int .u8 0, .int .u8 0, .int .u8 0, .int .u8 0, .int .u8 0, .int .u8 0, .int .i64 64, .int .i64 1, .int .i64 0]) w) := piece_any 1 1 w (by omega)
theorem piece21 (w : World) : Calls Try.prog 26 #[.int .i64 2, .int .i64 1] w (Quiet (.agg #[.int .u8 2, .int .u8 0, .int .u8 0, .int .u8 0, .int .u8 0, .int .u8 0, .int .u8 0, .int .u8 0, .int .u8 0, .int .u8 0, .int .u8 0, .int .u8 0, .int .u8 0, .int .u8 0, .int .u8 0, .int .u8 0, .int .u8 0, .int .u8 0, .int .u8 0, .int .u8 0, .int .i64 64, .int .i64 1, .int .i64 0]) w) := piece_any 2 1 w (by omega)
theorem app1 : applyT ⟨0, [], []⟩ 1 [pcV 1 1] 0 [(⟨#[97]⟩, [1, 1])] = (0, ⟨1, [pcV 1 1], [[(⟨#[97]⟩, [1, 1])]]⟩) := by kernel_rfl
theorem app2 : applyT ⟨1, [pcV 1 1], [[(⟨#[97]⟩, [1, 1])]]⟩ 0 [] 1 [] = (0, ⟨1, [pcV 1 1], [[(⟨#[97]⟩, [1, 1])], [(⟨#[97]⟩, [1, 1])]]⟩) := by kernel_rfl
theorem app3 : applyT ⟨1, [pcV 1 1], [[(⟨#[97]⟩, [1, 1])], [(⟨#[97]⟩, [1, 1])]]⟩ 0 [] 9 [] = (17, ⟨1, [pcV 1 1], [[(⟨#[97]⟩, [1, 1])], [(⟨#[97]⟩, [1, 1])]]⟩) := by kernel_rfl
theorem app4 : applyT ⟨1, [pcV 1 1], [[(⟨#[97]⟩, [1, 1])], [(⟨#[97]⟩, [1, 1])]]⟩ 0 [] 0 [(⟨#[97]⟩, [2])] = (13, ⟨1, [pcV 1 1], [[(⟨#[97]⟩, [1, 1])], [(⟨#[97]⟩, [1, 1])]]⟩) := by kernel_rfl
theorem app5 : applyT ⟨1, [pcV 1 1], [[(⟨#[97]⟩, [1, 1])], [(⟨#[97]⟩, [1, 1])]]⟩ 0 [pcV 2 1] 0 [] = (2, ⟨1, [pcV 1 1], [[(⟨#[97]⟩, [1, 1])], [(⟨#[97]⟩, [1, 1])]]⟩) := by kernel_rfl
theorem sz1 : sizeG [pcV 1 1] 0 [1, 1] = 128 := by kernel_rfl
theorem rd_blk {W : World} {b : Nat} {t : TypeId} {cs : Array Value} (h : Blk W b t cs) : Rd W (some ⟨b, 0, none⟩) cs.toList := fun _ =>
  ⟨b, 0, rfl, h.lt, fun i u hu => by rw [Nat.zero_add, h.cell, ← Array.getElem?_toList]; exact hu⟩
theorem RdF.nil (W : World) : RdF W none [] := ⟨Rd.nil _ _, fun f hf => by cases hf⟩
theorem blk_far {S : Nat → Prop} {w1 W W' : World} {b : Nat} {t : TypeId} {cs : Array Value} (hb : Blk W b t cs) (hlt : ∀ k, S k → k < w1.heap.size) (hge : w1.heap.size ≤ b) (hf : Frm S W W') : Blk W' b t cs := hb.frm hf fun h => by have := hlt _ h; omega
/-- Files out of one block. -/
theorem RdF.one {W : World} {b ib n : Nat} {nm : ByteArray} {fr : List Int} {cs : Array Value} (h : Blk W b 41 #[.string nm, .slice (some ⟨ib, 0, none⟩) n n]) (hi : Blk W ib 3 cs) (hc : cs.toList = ints fr) (hn : fr.length = n) (hm : n ≤ maxLen) : RdF W (some ⟨b, 0, none⟩) [⟨nm, fr, some ⟨ib, 0, none⟩, n, n⟩] :=
  ⟨rd_blk h, fun f hf => by
    simp at hf
    subst hf
    exact ⟨hn, Nat.le_refl _, hm, by rw [← hc]; exact rd_blk hi, fun h => by cases h⟩⟩
section
variable {B gt gi mb nst : Nat} {T : Tab} {v V : Value} {xs : List Value}
theorem len9_any (w : World) (h : Tb B w gt gi mb nst T v V xs) : Calls Try.prog 9 #[.pointer (some ⟨gt, 0, none⟩)] w (Same (.int .i64 T.vs.length) w) := by
  obtain ⟨A, c, rfl, _⟩ := own_slice h.row
  exact len9 w h.blk
/-- Apply of nothing but an entry without files. -/
theorem apply_roll (blocks roll : Int) (w : World) (h : Tb B w gt gi mb nst T v V xs) (hrl : -9223372036854775808 ≤ roll ∧ roll ≤ 9223372036854775807) (hbk : -9223372036854775808 ≤ blocks ∧ blocks ≤ 9223372036854775807) (hns : nst ≤ 99999) :
    Calls Try.prog 7 #[.pointer (some ⟨gt, 0, none⟩), .int .i64 blocks, .slice none 0 0, .agg #[.int .i64 roll, .slice none 0 0]] w (ApE B gt gi mb nst (applyT T blocks [] roll []) v V w) :=
  apply_any blocks roll [] [] none none 0 0 0 0 w h (fun _ _ => Rd.nil _ _) (fun p hp => by cases hp) rfl (by omega) (fun W _ => RdF.nil W) rfl (fun f hf => by cases hf) (fun _ => ⟨rfl, rfl⟩) (by omega) hrl hbk hns
end
set_option maxRecDepth 100000 in
set_option maxHeartbeats 4000000 in
theorem awake12 (w : World) : Calls Try.prog 12 #[] w (Quiet (.bool true) w) := by
  go_enter Try.func12, Try.ntmps12
  go_wp2_with fail
  refine (newT_any w).mono ?_
  rintro e w1 ⟨⟨gt, gi, mb, rfl, hT1⟩, hb1⟩
  have HT1 := Lib.hid hT1
  have HB1 := Lib.hid hb1
  clear hT1 hb1
  go_wp2_with fail
  refine (piece11 _).mono ?_
  rintro e w2 ⟨rfl, hb2⟩
  have HB2 := Lib.hid hb2
  clear hb2
  go_wp2_with fail
  refine (file_any _ _ _ _ _).mono ?_
  rintro e w3 ⟨rfl, hb3⟩
  have kp := ((Blk.new w2 52 #[.int .u8 1, .int .u8 0, .int .u8 0, .int .u8 0, .int .u8 0, .int .u8 0, .int .u8 0, .int .u8 0, .int .u8 0, .int .u8 0, .int .u8 0, .int .u8 0, .int .u8 0, .int .u8 0, .int .u8 0, .int .u8 0, .int .u8 0, .int .u8 0, .int .u8 0, .int .u8 0, .int .i64 64, .int .i64 1, .int .i64 0]).alloc (.cells #[.int .i64 1, .int .i64 1] 3)).below hb3 |>.alloc (.cells #[.string ⟨#[97]⟩, .slice (some ⟨w2.heap.size + 1, 0, none⟩) 2 2] 41)
  have ki := (Blk.new (w2.alloc (.cells #[.int .u8 1, .int .u8 0, .int .u8 0, .int .u8 0, .int .u8 0, .int .u8 0, .int .u8 0, .int .u8 0, .int .u8 0, .int .u8 0, .int .u8 0, .int .u8 0, .int .u8 0, .int .u8 0, .int .u8 0, .int .u8 0, .int .u8 0, .int .u8 0, .int .u8 0, .int .u8 0, .int .i64 64, .int .i64 1, .int .i64 0] 52)) 3 #[.int .i64 1, .int .i64 1]).below hb3 |>.alloc (.cells #[.string ⟨#[97]⟩, .slice (some ⟨w2.heap.size + 1, 0, none⟩) 2 2] 41)
  rw [show (w2.alloc (.cells #[.int .u8 1, .int .u8 0, .int .u8 0, .int .u8 0, .int .u8 0, .int .u8 0, .int .u8 0, .int .u8 0, .int .u8 0, .int .u8 0, .int .u8 0, .int .u8 0, .int .u8 0, .int .u8 0, .int .u8 0, .int .u8 0, .int .u8 0, .int .u8 0, .int .u8 0, .int .u8 0, .int .i64 64, .int .i64 1, .int .i64 0] 52)).heap.size = w2.heap.size + 1 by simp] at ki
  have kf := Blk.new w3 41 #[.string ⟨#[97]⟩, .slice (some ⟨w2.heap.size + 1, 0, none⟩) 2 2]
  have hb4 : Below w1.heap.size w1 (w3.alloc (.cells #[.string ⟨#[97]⟩, .slice (some ⟨w2.heap.size + 1, 0, none⟩) 2 2] 41)) := by
    have h1 := (HB2.out.alloc HB2.out.size (.cells #[.int .u8 1, .int .u8 0, .int .u8 0, .int .u8 0, .int .u8 0, .int .u8 0, .int .u8 0, .int .u8 0, .int .u8 0, .int .u8 0, .int .u8 0, .int .u8 0, .int .u8 0, .int .u8 0, .int .u8 0, .int .u8 0, .int .u8 0, .int .u8 0, .int .u8 0, .int .u8 0, .int .i64 64, .int .i64 1, .int .i64 0] 52)).alloc (by have := HB2.out.size; simp; omega) (.cells #[.int .i64 1, .int .i64 1] 3)
    have h2 := h1.trans (hb3.mono h1.size)
    exact h2.alloc h2.size _
  have hs2 := HB2.out.size
  have hs3 : w1.heap.size ≤ w3.heap.size := by have := hb3.size; simp at this; omega
  have hsg := HT1.out.sg_lt
  have hT4 := HT1.out.below hb4
  generalize hW4 : (w3.alloc (.cells #[.string ⟨#[97]⟩, .slice (some ⟨w2.heap.size + 1, 0, none⟩) 2 2] 41)) = W4 at kp ki kf hb4 hT4
  have ha := apply_any 1 0 [pcV 1 1] [⟨⟨#[97]⟩, [1, 1], some ⟨w2.heap.size + 1, 0, none⟩, 2, 2⟩] (some ⟨w2.heap.size, 0, none⟩) (some ⟨w3.heap.size, 0, none⟩) 1 1 1 1 W4 hT4 (fun W hW => rd_blk (blk_far kp hsg hs2 hW))
    (fun p hp => by simp at hp; subst hp; exact pcV_ok 1 1 (by omega)) rfl (by omega) (fun W hW => RdF.one (blk_far kf hsg hs3 hW) (blk_far ki hsg (by omega) hW) rfl rfl (by unfold maxLen; omega)) rfl (fun f hf => by simp at hf; subst hf; show (1 : Nat) ≤ maxLen; unfold maxLen; omega) (fun h => by cases h) (by omega) (by omega) (by omega) (by omega)
  rw [show List.map Fl.dat [⟨⟨#[97]⟩, [1, 1], some ⟨w2.heap.size + 1, 0, none⟩, 2, 2⟩] = [(⟨#[97]⟩, [1, 1])] from rfl, app1] at ha
  have HA := Lib.hid ha
  have HB4 := Lib.hid (HB1.out.trans (hb4.mono HB1.out.size))
  have HT4 := Lib.hid hT4
  clear ha hb4 hT4 kp ki kf hsg hs2 hs3 hb3
  go_wp2_with fail
  refine (HA.out).mono ?_
  rintro e w5 hap
  have hb5 := hap.below HT4.out
  obtain ⟨rfl, ⟨n5, v5, V5, x5, hn5, hT5, _⟩, _⟩ := hap
  have HT5 := Lib.hid (show Tb w.heap.size w5 gt gi mb n5 ⟨1, [pcV 1 1], [[(⟨#[97]⟩, [1, 1])]]⟩ v5 V5 x5 from hT5)
  have HB5 := Lib.hid (HB4.out.trans hb5)
  clear hb5 hT5 hW4
  go_wp2_with fail
  refine (apply_roll 0 1 w5 HT5.out (by omega) (by omega) (by omega)).mono ?_
  rw [app2]
  rintro e w6 hap
  have hb6 := hap.below HT5.out
  obtain ⟨rfl, ⟨n6, v6, V6, x6, hn6, hT6, _⟩, _⟩ := hap
  have HT6 := Lib.hid (show Tb w.heap.size w6 gt gi mb n6 ⟨1, [pcV 1 1], [[(⟨#[97]⟩, [1, 1])], [(⟨#[97]⟩, [1, 1])]]⟩ v6 V6 x6 from hT6)
  have HB6 := Lib.hid (HB5.out.trans hb6)
  clear hb6 hT6
  go_wp2_with fail
  refine (apply_roll 0 9 w6 HT6.out (by omega) (by omega) (by omega)).mono ?_
  rw [app3]
  rintro e w7 hap
  have hb7 := hap.below HT6.out
  obtain ⟨rfl, ⟨n7, v7, V7, x7, hn7, hT7, _⟩, _⟩ := hap
  have HT7 := Lib.hid (show Tb w.heap.size w7 gt gi mb n7 ⟨1, [pcV 1 1], [[(⟨#[97]⟩, [1, 1])], [(⟨#[97]⟩, [1, 1])]]⟩ v7 V7 x7 from hT7)
  have HB7 := Lib.hid (HB6.out.trans hb7)
  clear hb7 hT7
  go_wp2_with fail
  refine (file_any _ _ _ _ _).mono ?_
  rintro e w8 ⟨rfl, hb8⟩
  have ki := (Blk.new w7 3 #[.int .i64 2]).below hb8 |>.alloc (.cells #[.string ⟨#[97]⟩, .slice (some ⟨w7.heap.size, 0, none⟩) 1 1] 41)
  have kf := Blk.new w8 41 #[.string ⟨#[97]⟩, .slice (some ⟨w7.heap.size, 0, none⟩) 1 1]
  have hb9 : Below w7.heap.size w7 (w8.alloc (.cells #[.string ⟨#[97]⟩, .slice (some ⟨w7.heap.size, 0, none⟩) 1 1] 41)) := by
    have h1 := (Below.refl w7.heap.size w7).alloc (Nat.le_refl _) (.cells #[.int .i64 2] 3)
    have h2 := h1.trans (hb8.mono h1.size)
    exact h2.alloc h2.size _
  have hs8 : w7.heap.size ≤ w8.heap.size := by have := hb8.size; simp at this; omega
  have hsg := HT7.out.sg_lt
  have hT9 := HT7.out.below hb9
  generalize hW9 : (w8.alloc (.cells #[.string ⟨#[97]⟩, .slice (some ⟨w7.heap.size, 0, none⟩) 1 1] 41)) = W9 at ki kf hb9 hT9
  have ha := apply_any 0 0 [] [⟨⟨#[97]⟩, [2], some ⟨w7.heap.size, 0, none⟩, 1, 1⟩] none (some ⟨w8.heap.size, 0, none⟩) 0 0 1 1 W9 hT9 (fun W hW => Rd.nil _ _)
    (fun p hp => by cases hp) rfl (by omega) (fun W hW => RdF.one (blk_far kf hsg hs8 hW) (blk_far ki hsg (Nat.le_refl _) hW) rfl rfl (by unfold maxLen; omega)) rfl (fun f hf => by simp at hf; subst hf; show (1 : Nat) ≤ maxLen; unfold maxLen; omega) (fun h => by cases h) (by omega) (by omega) (by omega) (by omega)
  rw [show List.map Fl.dat [⟨⟨#[97]⟩, [2], some ⟨w7.heap.size, 0, none⟩, 1, 1⟩] = [(⟨#[97]⟩, [2])] from rfl, app4] at ha
  have HA2 := Lib.hid ha
  have HB9 := Lib.hid (HB7.out.trans (hb9.mono HB7.out.size))
  have HT9 := Lib.hid hT9
  clear ha hb9 hT9 ki kf hsg hs8 hb8
  go_wp2_with fail
  refine (HA2.out).mono ?_
  rintro e w10 hap
  have hb10 := hap.below HT9.out
  obtain ⟨rfl, ⟨n10, v10, V10, x10, hn10, hT10, _⟩, _⟩ := hap
  have HT10 := Lib.hid (show Tb w.heap.size w10 gt gi mb n10 ⟨1, [pcV 1 1], [[(⟨#[97]⟩, [1, 1])], [(⟨#[97]⟩, [1, 1])]]⟩ v10 V10 x10 from hT10)
  have HB10 := Lib.hid (HB9.out.trans hb10)
  clear hb10 hT10 hW9
  go_wp2_with fail
  refine (piece21 _).mono ?_
  rintro e w11 ⟨rfl, hb11⟩
  have kp := Blk.new w11 52 #[.int .u8 2, .int .u8 0, .int .u8 0, .int .u8 0, .int .u8 0, .int .u8 0, .int .u8 0, .int .u8 0, .int .u8 0, .int .u8 0, .int .u8 0, .int .u8 0, .int .u8 0, .int .u8 0, .int .u8 0, .int .u8 0, .int .u8 0, .int .u8 0, .int .u8 0, .int .u8 0, .int .i64 64, .int .i64 1, .int .i64 0]
  have hb12 : Below w10.heap.size w10 (w11.alloc (.cells #[.int .u8 2, .int .u8 0, .int .u8 0, .int .u8 0, .int .u8 0, .int .u8 0, .int .u8 0, .int .u8 0, .int .u8 0, .int .u8 0, .int .u8 0, .int .u8 0, .int .u8 0, .int .u8 0, .int .u8 0, .int .u8 0, .int .u8 0, .int .u8 0, .int .u8 0, .int .u8 0, .int .i64 64, .int .i64 1, .int .i64 0] 52)) := hb11.alloc hb11.size _
  have hs11 := hb11.size
  have hsg := HT10.out.sg_lt
  have hT12 := HT10.out.below hb12
  generalize hW12 : (w11.alloc (.cells #[.int .u8 2, .int .u8 0, .int .u8 0, .int .u8 0, .int .u8 0, .int .u8 0, .int .u8 0, .int .u8 0, .int .u8 0, .int .u8 0, .int .u8 0, .int .u8 0, .int .u8 0, .int .u8 0, .int .u8 0, .int .u8 0, .int .u8 0, .int .u8 0, .int .u8 0, .int .u8 0, .int .i64 64, .int .i64 1, .int .i64 0] 52)) = W12 at kp hb12 hT12
  have ha := apply_any 0 0 [pcV 2 1] [] (some ⟨w11.heap.size, 0, none⟩) none 1 1 0 0 W12 hT12 (fun W hW => rd_blk (blk_far kp hsg hs11 hW))
    (fun p hp => by simp at hp; subst hp; exact pcV_ok 2 1 (by omega)) rfl (by omega) (fun W hW => RdF.nil W) rfl (fun f hf => by cases hf) (fun _ => ⟨rfl, rfl⟩) (by omega) (by omega) (by omega) (by omega)
  rw [List.map_nil, app5] at ha
  have HA3 := Lib.hid ha
  have HB12 := Lib.hid (HB10.out.trans (hb12.mono HB10.out.size))
  have HT12 := Lib.hid hT12
  clear ha hb12 hT12 kp hsg hs11 hb11
  go_wp2_with fail
  refine (HA3.out).mono ?_
  rintro e w13 hap
  have hb13 := hap.below HT12.out
  obtain ⟨rfl, ⟨n13, v13, V13, x13, hn13, hT13, _⟩, _⟩ := hap
  have HT13 := Lib.hid (show Tb w.heap.size w13 gt gi mb n13 ⟨1, [pcV 1 1], [[(⟨#[97]⟩, [1, 1])], [(⟨#[97]⟩, [1, 1])]]⟩ v13 V13 x13 from hT13)
  have HB13 := Lib.hid (HB12.out.trans hb13)
  clear hb13 hT13 hW12
  go_wp2_with fail
  refine (files_yes 1 [(⟨#[97]⟩, [1, 1])] w13 HT13.out rfl).mono ?_
  rintro e w14 ⟨⟨A, n, c, fs, rfl, hc, hl, hd, ho, hn2⟩, hb14⟩
  obtain ⟨f, rfl⟩ : ∃ f, fs = [f] := by
    have := congrArg List.length hd
    simp at this
    exact List.length_eq_one_iff.1 this
  obtain rfl : 1 = n := hl
  have hT14 := HT13.out.below hb14
  have hrd := ho.rd rfl
  have hnm : f.nm = ⟨#[97]⟩ ∧ f.fr = [1, 1] := by
    simp [Fl.dat] at hd
    exact hd
  obtain ⟨b1, o1, rfl, hat⟩ := hrd.row.fl (k := 0) (f := f) rfl
  have h0 := hat.c0
  have h1 := hat.c1
  have hfr := hrd.each f (by simp)
  have hsz := size_any f w14 hT14 hfr (by have := hfr.len; rw [hnm.2] at this; simp at this; omega)
  rw [hnm.2] at hsz
  rw [hnm.1] at h0 hsz
  rw [show sizeG (Tab.mk 1 [pcV 1 1] [[(⟨#[97]⟩, [1, 1])], [(⟨#[97]⟩, [1, 1])]]).ps 0 [1, 1] = 128 from sz1] at hsz
  have hl9 := len9_any w14 hT14
  have hb15 := blocks15 w14 hT14.blk
  have hf16 := frags16 w14 hT14
  have HSZ := Lib.hid hsz
  have HL9 := Lib.hid hl9
  have HB15 := Lib.hid hb15
  have HF16 := Lib.hid hf16
  have HB14 := Lib.hid (HB13.out.trans (hb14.mono HB13.out.size))
  clear hsz hl9 hb15 hf16 hT14 hrd hfr hnm hat ho hd hb14
  obtain ⟨nm, fr, fA, fn, fc⟩ := f
  simp only at h0 h1 HSZ
  simp only [Nat.zero_mul, Nat.add_zero] at h0 h1
  have hstr : ((⟨#[97]⟩ : ByteArray).toList == (⟨#[97]⟩ : ByteArray).toList) = true := by simp
  go_wp2_with fail
  refine (HL9.out).mono ?_
  rintro e w15 ⟨rfl, rfl⟩
  go_wp2_with fail
  refine (HB15.out).mono ?_
  rintro e w15 ⟨rfl, rfl⟩
  go_wp2_with fail
  refine (HF16.out).mono ?_
  rintro e w15 ⟨rfl, rfl⟩
  go_wp2_with fail
  refine (HSZ.out).mono ?_
  rintro e w16 ⟨rfl, hb16⟩
  have HB16 := Lib.hid (HB14.out.trans (hb16.mono HB14.out.size))
  clear hb16
  go_wp2_with fail
  go_ret
  exact ⟨rfl, HB16.out⟩
end Go.Proofs.Ytlhhkmpidnegcaa
