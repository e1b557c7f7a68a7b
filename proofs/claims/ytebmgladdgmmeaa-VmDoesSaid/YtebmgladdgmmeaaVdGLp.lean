/- What VmDoes' walk asks of Do's and New's answers. Plain, over their contracts. · VmDoes' walk. No condition beyond the arguments' own memory. · VmDoes' law: arguments opened. No condition. -/
import Derived.Test.YtebmgladdgmmeaaVdGRe
import Derived.Test.YtebmgladdgmmeaaVdGQj
import Derived.Test.YtebmgladdgmmeaaVdGMo
import Derived.Test.YtebmgladdgmmeaaVdHeld
import Derived.BigRegion
namespace Go.Proofs.Ytebmgladdgmmeaa
open Go.RowKit Go.WideShapes
set_option linter.unusedVariables false
set_option linter.unusedSimpArgs false
theorem ok_a {s : St} (h : s.ok) {x : Int} (hx : U32 x) : ({ s with m := { s.m with a := x } } : St).ok := ⟨⟨hx, h.m.b, h.m.c, h.m.d, h.m.len, h.m.r⟩, h.hw, h.mo, h.right⟩
theorem ok_f {s : St} (h : s.ok) (b : Bool) : ({ s with m := { s.m with f := b } } : St).ok := ⟨⟨h.m.a, h.m.b, h.m.c, h.m.d, h.m.len, h.m.r⟩, h.hw, h.mo, h.right⟩
theorem ok_r {s : St} (h : s.ok) (k : Nat) {x : Int} (hx : U32 x) : ({ s with m := { s.m with r := s.m.r.set k x } } : St).ok := ⟨⟨h.m.a, h.m.b, h.m.c, h.m.d, by rw [List.length_set]; exact h.m.len, fun y hy => mem_set h.m.r hx y hy⟩, h.hw, h.mo, h.right⟩
theorem r_u32 {s : St} (h : s.ok) (k : Nat) : U32 (s.m.r.getD k 0) := by
  rw [List.getD_eq_getElem?_getD]
  rcases Nat.lt_or_ge k s.m.r.length with hk | hk
  · rw [List.getElem?_eq_getElem hk]
    exact h.m.r _ (List.getElem_mem hk)
  · rw [List.getElem?_eq_none hk]
    exact u32_0
theorem ite_ok {c : Prop} [Decidable c] {a b : St} (ha : a.ok) (hb : b.ok) : (if c then a else b).ok := by
  by_cases h : c
  · rw [if_pos h]
    exact ha
  · rw [if_neg h]
    exact hb
theorem doV_ok {s : St} (h : s.ok) (o d n v : Int) : (doV o d n v s).ok := by
  have hg := getP_u32 h d
  unfold doV
  exact ite_ok (ok_a h (calcV_u32 o h.m.a (operV_u32 h n v))) (ite_ok (ok_f h _) (ite_ok (setP_ok h d (operV_u32 h n v)) (ite_ok (setP_ok h d (mod_range _)) (ite_ok (setP_ok h d (mod_range _))
    (ite_ok (setP_ok h d (mod_range _)) (ite_ok (setP_ok h d ⟨by have := hg.2; omega, by have := hg.1; omega⟩) (ite_ok (setP_ok h d u32_0) (ite_ok (ok_a (setP_ok h d h.m.a) hg)
    (ite_ok (setP_ok h d (r_u32 h _)) (ite_ok (ok_r h _ h.m.a) (ite_ok (ok_a h (mod_range _)) (ite_ok (setP_ok h 6 (mod_range _)) h))))))))))))
theorem DoS_ok (o d n v : Int) {s : St} (hm : s.m.ok) (hw : Wds s.hs) (mo : Oct s.ms) : (DoS o d n v s).m.ok ∧ Wds (DoS o d n v s).hs ∧ Oct (DoS o d n v s).ms := by
  unfold DoS
  split
  · rename_i h
    have hk := doV_ok (⟨hm, hw, mo, h.1⟩ : s.ok) o d n v
    exact ⟨hk.m, hk.hw, hk.mo⟩
  · exact ⟨hm, hw, mo⟩
theorem DoS_len (o d n v : Int) (s : St) : (DoS o d n v s).hs.length = s.hs.length ∧ (DoS o d n v s).ms.length = s.ms.length := by
  unfold DoS
  split
  · exact doV_len o d n v s
  · exact ⟨rfl, rfl⟩
/-- What New hands back. -/
def IsNewV (s : St) (f : Int) (w0 : World) (e : Ending) (w : World) : Prop := (∃ v1 v2, e = .returned (.tuple #[.agg (s.m.cells v1 v2), .int .i64 f]) ∧ OwnR w w0.heap.size v1 45 (s.hs.map (.int .u32)) ∧ OwnR w w0.heap.size v2 5 (s.ms.map (.int .u8))) ∧ Below w0.heap.size w0 w
theorem IsNewV.bad {w0 : World} {e : Ending} {w : World} (h : IsNewE w0 e w) : IsNewV zS 2 w0 e w := ⟨⟨_, _, h.1, .inl ⟨rfl, rfl⟩, .inl ⟨rfl, rfl⟩⟩, h.2⟩
theorem IsNewV.good {p q : Nat} {w0 : World} {e : Ending} {w : World} (h : IsNew p q w0 e w) : IsNewV ⟨zM, List.replicate p 0, List.replicate q 0⟩ 0 w0 e w := by
  obtain ⟨⟨v1, v2, h1, h2, h3⟩, h4⟩ := h
  exact ⟨⟨v1, v2, h1, by simpa using h2, by simpa using h3⟩, h4⟩
theorem new_any (x y : Int) : ∃ (s : St) (f : Int), s.m.ok ∧ s.hs.length ≤ 256 ∧ s.ms.length ≤ 4096 ∧ (∀ w, Calls Try.prog 23 #[.int .i64 x, .int .i64 y] w (IsNewV s f w)) ∧ (∀ w, Calls Try.prog 24 #[.int .i64 x, .int .i64 y] w (IsNewV s f w)) := by
  by_cases h0 : x < 0
  · exact ⟨zS, 2, zM_ok, by decide, by decide, fun w => (new23_a x y w h0).mono fun _ _ h => .bad h, fun w => (new24_a x y w h0).mono fun _ _ h => .bad h⟩
  by_cases h8 : 8 < x
  · exact ⟨zS, 2, zM_ok, by decide, by decide, fun w => (new23_b x y w h0 h8).mono fun _ _ h => .bad h, fun w => (new24_b x y w h0 h8).mono fun _ _ h => .bad h⟩
  by_cases hm : y < 0
  · exact ⟨zS, 2, zM_ok, by decide, by decide, fun w => (new23_c x y w h0 h8 hm).mono fun _ _ h => .bad h, fun w => (new24_c x y w h0 h8 hm).mono fun _ _ h => .bad h⟩
  by_cases h12 : 12 < y
  · exact ⟨zS, 2, zM_ok, by decide, by decide, fun w => (new23_d x y w h0 h8 hm h12).mono fun _ _ h => .bad h, fun w => (new24_d x y w h0 h8 hm h12).mono fun _ _ h => .bad h⟩
  obtain ⟨a, rfl⟩ := Int.eq_ofNat_of_zero_le (show 0 ≤ x by omega)
  obtain ⟨b, rfl⟩ := Int.eq_ofNat_of_zero_le (show 0 ≤ y by omega)
  have hp : 2 ^ a ≤ 256 := Nat.pow_le_pow_right (n := 2) (by omega) (show a ≤ 8 by omega)
  have hq : 2 ^ b ≤ 4096 := Nat.pow_le_pow_right (n := 2) (by omega) (show b ≤ 12 by omega)
  exact ⟨⟨zM, List.replicate (2 ^ a) 0, List.replicate (2 ^ b) 0⟩, 0, zM_ok, by simpa using hp, by simpa using hq, fun w => (new23_ok a b w (by omega) (by omega)).mono fun _ _ h => .good h, fun w => (new24_ok a b w (by omega) (by omega)).mono fun _ _ h => .good h⟩
/-- SameMachine of two that are one, handed back. -/
theorem same_own (s : St) (hm : s.m.ok) (b b' : Nat) (v1 v2 u1 u2 : Value) (w : World) (h1 : OwnR w b v1 45 (s.hs.map (.int .u32))) (h2 : OwnR w b v2 5 (s.ms.map (.int .u8))) (h3 : OwnR w b' u1 45 (s.hs.map (.int .u32))) (h4 : OwnR w b' u2 5 (s.ms.map (.int .u8))) (lh : s.hs.length ≤ 5000) (lm : s.ms.length ≤ 5000) :
    Calls Try.prog 26 #[.agg (s.m.cells v1 v2), .agg (s.m.cells u1 u2)] w (Quiet (.bool true) w) := by
  obtain ⟨A1, d1, rfl, _, r1, _⟩ := h1.form
  obtain ⟨A2, d2, rfl, _, r2, _⟩ := h2.form
  obtain ⟨A3, d3, rfl, _, r3, _⟩ := h3.form
  obtain ⟨A4, d4, rfl, _, r4, _⟩ := h4.form
  simp only [List.length_map]
  exact same26 s hm A1 A2 A3 A4 d1 d2 d3 d4 s.hs.length s.ms.length w rfl rfl r1 r2 r3 r4 (by omega) (by omega)
theorem same_in (s : St) (hm : s.m.ok) (b : Nat) (v1 v2 : Value) (A3 A4 : Option Addr) (d3 d4 : Nat) (w : World) (h1 : OwnR w b v1 45 (s.hs.map (.int .u32))) (h2 : OwnR w b v2 5 (s.ms.map (.int .u8))) (r3 : Rd w A3 (s.hs.map (.int .u32))) (r4 : Rd w A4 (s.ms.map (.int .u8))) (lh : s.hs.length ≤ 5000) (lm : s.ms.length ≤ 5000) :
    Calls Try.prog 26 #[.agg (s.m.cells v1 v2), .agg (s.m.cells (.slice A3 s.hs.length d3) (.slice A4 s.ms.length d4))] w (Quiet (.bool true) w) := by
  obtain ⟨A1, d1, rfl, _, r1, _⟩ := h1.form
  obtain ⟨A2, d2, rfl, _, r2, _⟩ := h2.form
  simp only [List.length_map]
  exact same26 s hm A1 A2 A3 A4 d1 d2 d3 d4 s.hs.length s.ms.length w rfl rfl r1 r2 r3 r4 (by omega) (by omega)
end Go.Proofs.Ytebmgladdgmmeaa
namespace Go.Proofs.Ytebmgladdgmmeaa
open Go.RowKit Go.WideShapes
open List (setIfInBounds_toArray set_cons_zero set_cons_succ)
set_option linter.unusedVariables false
set_option linter.unusedSimpArgs false
theorem OwnR.ge {w : World} {b : Nat} {v : Value} {e : TypeId} {xs : List Value} (h : OwnR w b v e xs) : ∀ k, v.ownBlock = some k → b ≤ k := fun k hk => by
  rcases h with ⟨rfl, _⟩ | ⟨g, c, rfl, _, hb, _⟩
  · cases hk
  · have : g = k := by simpa [Value.ownBlock] using hk
    omega
theorem OwnR.apart {w : World} {b g : Nat} {v : Value} {e t : TypeId} {xs : List Value} {cs : Array Value} (h : OwnR w b v e xs) (hb : Blk w g t cs) (hne : e ≠ t) : ∀ k, v.ownBlock = some k → k ≠ g := fun k hk => by
  rcases h with ⟨rfl, _⟩ | ⟨g', c, rfl, _, _, hr⟩
  · cases hk
  · have e1 : g' = k := by simpa [Value.ownBlock] using hk
    subst e1
    exact hr.ne hb hne
theorem OwnR.parted {w : World} {b b' : Nat} {v v' : Value} {e e' : TypeId} {xs xs' : List Value} (h : OwnR w b v e xs) (h' : OwnR w b' v' e' xs') (hne : e ≠ e') : ∀ k, v.ownBlock = some k → ¬ v'.ownBlock = some k := fun k hk hk' => by
  rcases h' with ⟨rfl, _⟩ | ⟨g', c, rfl, _, _, cur, hb, _⟩
  · cases hk'
  · have e1 : g' = k := by simpa [Value.ownBlock] using hk'
    exact h.apart hb hne k hk e1.symm
theorem OwnR.frm2 {w w' : World} {S : Nat → Prop} {b : Nat} {v : Value} {e : TypeId} {xs : List Value} (h : OwnR w b v e xs) (hf : Frm S w w') (hn : ∀ k, v.ownBlock = some k → ¬ S k) : OwnR w' b v e xs := by
  rcases h with h | ⟨g, c, h1, h2, h3, h4⟩
  · exact .inl h
  · exact .inr ⟨g, c, h1, h2, h3, h4.frm hf (hn g (by rw [h1]; rfl))⟩
set_option maxRecDepth 100000 in
set_option maxHeartbeats 16000000 in
theorem does5 (o dd n v : Int) (ho : 0 ≤ o) (s : St) (Ah Am : Option Addr) (ch cm : Nat) (x y : Int) (w : World) (hin : MIn s Ah Am ch cm w) :
    Calls Try.prog 5 #[.agg #[.int .u8 o, .int .i64 dd, .int .i64 n, .int .i64 v], .agg (s.m.cells (.slice Ah s.hs.length ch) (.slice Am s.ms.length cm)), .agg #[.int .i64 x, .int .i64 y]] w (Quiet (.bool true) w) := by
  have hz := (zero_of_info zero50).1
  obtain ⟨hm, hw, mo, rh, rm, lh, lm⟩ := hin
  have bx := MBox.new hm (w.alloc (.cells #[.int .u8 o, .int .i64 dd, .int .i64 n, .int .i64 v] 31)) (.slice Ah s.hs.length ch) (.slice Am s.ms.length cm)
  rw [World.size_alloc] at bx
  have b3 := ((Blk.new w 31 #[.int .u8 o, .int .i64 dd, .int .i64 n, .int .i64 v]).alloc (.cells (s.m.cells (.slice Ah s.hs.length ch) (.slice Am s.ms.length cm)) 50)).alloc (.cells #[.int .i64 x, .int .i64 y] 51)
  have b4 := bx.below ((Below.refl _ _).alloc (Nat.le_refl _) (.cells #[.int .i64 x, .int .i64 y] 51))
  have b5 := Blk.new ((w.alloc (.cells #[.int .u8 o, .int .i64 dd, .int .i64 n, .int .i64 v] 31)).alloc (.cells (s.m.cells (.slice Ah s.hs.length ch) (.slice Am s.ms.length cm)) 50)) 51 #[.int .i64 x, .int .i64 y]
  rw [World.size_alloc, World.size_alloc] at b5
  have hb3 : Below w.heap.size w (((w.alloc (.cells #[.int .u8 o, .int .i64 dd, .int .i64 n, .int .i64 v] 31)).alloc (.cells (s.m.cells (.slice Ah s.hs.length ch) (.slice Am s.ms.length cm)) 50)).alloc (.cells #[.int .i64 x, .int .i64 y] 51)) := (((Below.refl _ _).alloc (Nat.le_refl _) _).alloc (by simp) _).alloc (by simp; omega) _
  have hlg := fun W => large_any s.m hm Ah Am s.hs.length ch s.ms.length cm W
  obtain ⟨big, hbig⟩ : ∃ z, (decide (300 < s.hs.length) || decide (5000 < s.ms.length)) = z := ⟨_, rfl⟩
  rw [hbig] at hlg
  have hcp := fun W (hW : Below w.heap.size w W) (h1 : s.hs.length ≤ 5000) (h2 : s.ms.length ≤ 5000) => copyMach_any s.m hm s.hs s.ms Ah Am ch cm s.hs.length s.ms.length W rfl rfl (rh.below hW rfl) (rm.below hW rfl) (by omega) (by omega)
  have h27 := fun W (hW : Below w.heap.size w W) (h1 : s.hs.length ≤ 5000) (h2 : s.ms.length ≤ 5000) => do27 o dd n v s hm hw mo Ah Am ch cm s.hs.length s.ms.length W rfl rfl (rh.below hW rfl) (rm.below hW rfl) h1 h2 ho
  have h29 := fun W (hW : Below w.heap.size w W) => holds29 o dd n v s hm hw mo Ah Am ch cm s.hs.length s.ms.length W rfl rfl (rh.below hW rfl) (rm.below hW rfl) ho
  have hsm := fun (W : World) (b : Nat) (v1 v2 : Value) (hW : Below w.heap.size w W) (h1 : OwnR W b v1 45 (s.hs.map (.int .u32))) (h2 : OwnR W b v2 5 (s.ms.map (.int .u8))) (l1 : s.hs.length ≤ 5000) (l2 : s.ms.length ≤ 5000) => same_in s hm b v1 v2 Ah Am ch cm W h1 h2 (rh.below hW rfl) (rm.below hW rfl) l1 l2
  have z4 := Mc.size hm (.slice Ah s.hs.length ch) (.slice Am s.ms.length cm)
  have hrg4 := fun W (hW : Below (((w.alloc (.cells #[.int .u8 o, .int .i64 dd, .int .i64 n, .int .i64 v] 31)).alloc (.cells (s.m.cells (.slice Ah s.hs.length ch) (.slice Am s.ms.length cm)) 50)).alloc (.cells #[.int .i64 x, .int .i64 y] 51)).heap.size (((w.alloc (.cells #[.int .u8 o, .int .i64 dd, .int .i64 n, .int .i64 v] 31)).alloc (.cells (s.m.cells (.slice Ah s.hs.length ch) (.slice Am s.ms.length cm)) 50)).alloc (.cells #[.int .i64 x, .int .i64 y] 51)) W) => (b4.below hW).range
  have hl4 : s.m.list (.slice Ah s.hs.length ch) (.slice Am s.ms.length cm) = (s.m.cells (.slice Ah s.hs.length ch) (.slice Am s.ms.length cm)).toList := rfl
  rw [hl4] at hrg4
  obtain ⟨s2, hs2⟩ : ∃ z, DoS o dd n v s = z := ⟨_, rfl⟩
  have hok2 := DoS_ok o dd n v hm hw mo
  have hln2 := DoS_len o dd n v s
  rw [hs2] at hok2 hln2 h27
  obtain ⟨hb, hhb⟩ : ∃ z, HoldsS o dd n v s = z := ⟨_, rfl⟩
  simp only [hhb] at h29
  obtain ⟨sn, fe, oksn, ln1, ln2, hn23, hn24⟩ := new_any x y
  obtain ⟨c4, hc4⟩ : ∃ z, s.m.cells (.slice Ah s.hs.length ch) (.slice Am s.ms.length cm) = z := ⟨_, rfl⟩
  rw [hc4] at b3 b5 hb3 hlg hcp h27 h29 hsm z4 hrg4 ⊢
  have HC4 := Lib.hid hc4
  obtain ⟨W0, hW0⟩ : ∃ z, ((w.alloc (.cells #[.int .u8 o, .int .i64 dd, .int .i64 n, .int .i64 v] 31)).alloc (.cells c4 50)).alloc (.cells #[.int .i64 x, .int .i64 y] 51) = z := ⟨_, rfl⟩
  rw [hW0] at b3 b5 hb3 hrg4
  have SL4 : Hid ((Try.prog.info? 50).map (·.size) = some c4.toList.length) := Lib.hid (by rw [Array.length_toList, z4]; exact size50)
  have B3 := Lib.hid b3
  have B5 := Lib.hid b5
  have LW0 := Lib.hid hb3
  have HLG := Lib.hid hlg
  have HCP := Lib.hid hcp
  have H27 := Lib.hid h27
  have H29 := Lib.hid h29
  have HSM := Lib.hid hsm
  have RG4 := Lib.hid hrg4
  have OK2 := Lib.hid hok2
  have LN2 := Lib.hid hln2
  have HS2 := Lib.hid hs2
  have HHB := Lib.hid hhb
  have OKN := Lib.hid oksn
  have LN := Lib.hid (show sn.hs.length ≤ 5000 ∧ sn.ms.length ≤ 5000 by omega)
  have HN23 := Lib.hid hn23
  have HN24 := Lib.hid hn24
  have HM := Lib.hid hm
  have HWD := Lib.hid hw
  have HMO := Lib.hid mo
  have HBIG := Lib.hid hbig
  have HOO := Lib.hid ho
  have HW0 := Lib.hid hW0
  obtain ⟨zs, hzs⟩ : ∃ x, zCells = x := ⟨_, rfl⟩
  simp only [hzs] at hz
  have HZN : Hid (zs.size = 263) := Lib.hid (by rw [← hzs]; exact Mc.size zM_ok _ _)
  clear b3 b4 b5 hb3 hlg hcp h27 h29 hsm hrg4 hok2 hln2 hs2 hhb oksn ln1 ln2 hn23 hn24 hm hw mo hbig ho hc4 z4 hl4 bx rh rm lh lm hzs
  go_enter Try.func5, Try.ntmps5
  cases big
  rotate_left
  · go_wp2_with (refine wpList_load_midA rfl 50 (.tmp 4) rfl (w.heap.size + 1) 0 rfl c4 _ (RG4.out _ (Below.refl _ _)) Try.underlying50 rfl SL4.out ?_; simp only [Act.put, setIfInBounds_toArray, set_cons_zero, set_cons_succ])
    refine (HLG.out _).mono ?_
    rintro e w1 ⟨rfl, hb1⟩
    have L1 := Lib.hid (ch0 LW0.out hb1)
    clear hb1
    go_wp2_with fail
    refine (awake17 _).mono ?_
    rintro e w2 ⟨rfl, hb2⟩
    have L2 := Lib.hid (ch0 L1.out hb2)
    clear hb2
    go_wp2_with fail
    go_ret
    exact ⟨rfl, L2.out⟩
  have hll : s.hs.length ≤ 300 ∧ s.ms.length ≤ 5000 := by
    have h := HBIG.out
    simp at h
    omega
  have LL := Lib.hid (show s.hs.length ≤ 5000 ∧ s.ms.length ≤ 5000 by omega)
  clear hll
  have hbb : (hb != hb) = false := by simp
  have hee : (fe != fe) = false := by simp
  go_wp2_with (first
  | (refine wpList_load_midA rfl 50 (.tmp 4) rfl (w.heap.size + 1) 0 rfl c4 _ (RG4.out _ (Below.refl _ _)) Try.underlying50 rfl SL4.out ?_; simp only [Act.put, setIfInBounds_toArray, set_cons_zero, set_cons_succ]))
  refine (HLG.out _).mono ?_
  rintro e w1 ⟨rfl, hb1⟩
  have D01 := Lib.hid hb1
  have LW1 := Lib.hid (ch0 LW0.out hb1)
  clear hb1
  go_wp2_with (first
    | (refine wpList_load_midA rfl 50 (.tmp 4) rfl (w.heap.size + 1) 0 rfl c4 _ (RG4.out _ D01.out) Try.underlying50 rfl SL4.out ?_; simp only [Act.put, setIfInBounds_toArray, set_cons_zero, set_cons_succ]))
  refine (HCP.out w1 LW1.out LL.out.1 LL.out.2).mono ?_
  rintro e w2 ⟨⟨A1, d1, A2, d2, rfl, _, _, p7a, p7b⟩, l7⟩
  have o7a := OwnR.of_own p7a
  have o7b := OwnR.of_own p7b
  obtain ⟨v1, hv1⟩ : ∃ z, Value.slice A1 s.hs.length d1 = z := ⟨_, rfl⟩
  obtain ⟨v2, hv2⟩ : ∃ z, Value.slice A2 s.ms.length d2 = z := ⟨_, rfl⟩
  rw [hv1] at o7a ⊢
  rw [hv2] at o7b ⊢
  clear p7a p7b hv1 hv2
  have z7 := Mc.size (m := s.m) HM.out v1 v2
  have one7 := Mc.one (m := s.m) (vh := v1) (vm := v2) o7a.one o7b.one
  have bx7 := MBox.new (m := s.m) HM.out w2 v1 v2
  have ob7 : Below w2.heap.size w2 (w2.alloc (.cells (s.m.cells v1 v2) 50)) := (Below.refl _ _).alloc (Nat.le_refl _) _
  have r7a := o7a.below ob7
  have r7b := o7b.below ob7
  obtain ⟨c7, hc7⟩ : ∃ x, s.m.cells v1 v2 = x := ⟨_, rfl⟩
  rw [hc7] at z7 one7 bx7 ob7 r7a r7b ⊢
  obtain ⟨V7, hV7⟩ : ∃ x, w2.alloc (.cells c7 50) = x := ⟨_, rfl⟩
  rw [hV7] at bx7 ob7 r7a r7b
  have rg7 : ∀ W, Below V7.heap.size V7 W → W.rangeAt w2.heap.size 0 c7.toList := fun W hW j u hu => by
    rw [Nat.zero_add, (bx7.below hW).blk.cell j, hc7]
    simpa using hu
  have SI7 : Hid ((Try.prog.info? 50).map (·.size) = some c7.size) := Lib.hid (by rw [z7]; exact size50)
  have SL7 : Hid ((Try.prog.info? 50).map (·.size) = some c7.toList.length) := Lib.hid (by rw [Array.length_toList, z7]; exact size50)
  have SS7 : Hid (zs.size = c7.size) := Lib.hid (by rw [z7]; exact HZN.out)
  have ONE7 := Lib.hid one7
  have BX7 := Lib.hid bx7
  have RA7 := Lib.hid r7a
  have RB7 := Lib.hid r7b
  have RG7 := Lib.hid rg7
  have HC7 := Lib.hid hc7
  have HV7 := Lib.hid hV7
  clear z7 one7 bx7 r7a r7b rg7 hc7 hV7 o7a o7b
  have P7 := Lib.hid (ch0 l7 ob7)
  have D07 := Lib.hid (ch0 D01.out P7.out)
  have LW7 := Lib.hid (ch0 LW1.out P7.out)
  clear l7 ob7 P7
  have q0 := (B5.out.below D07.out).cell 0
  have q1 := (B5.out.below D07.out).cell 1
  simp at q0 q1
  go_wp2_with (first
    | (refine wpList_store_row rfl 50 (.tmp 7) (.tmp 19) rfl w2.heap.size c7 rfl rfl 50 _ (heap_alloc_new _ _) SI7.out SS7.out ONE7.out ?_; rw [World.setRow_alloc_new, HV7.out]; simp only [Act.put, setIfInBounds_toArray, set_cons_zero, set_cons_succ]))
  refine (HN23.out V7).mono ?_
  rintro e w3 ⟨⟨u1, u2, rfl, o8a, o8b⟩, l8⟩
  clear q0 q1
  have z8 := Mc.size (m := sn.m) OKN.out u1 u2
  have one8 := Mc.one (m := sn.m) (vh := u1) (vm := u2) o8a.one o8b.one
  have bx8 := MBox.new (m := sn.m) OKN.out w3 u1 u2
  have ob8 : Below w3.heap.size w3 (w3.alloc (.cells (sn.m.cells u1 u2) 50)) := (Below.refl _ _).alloc (Nat.le_refl _) _
  have r8a := o8a.below ob8
  have r8b := o8b.below ob8
  obtain ⟨c8, hc8⟩ : ∃ x, sn.m.cells u1 u2 = x := ⟨_, rfl⟩
  rw [hc8] at z8 one8 bx8 ob8 r8a r8b ⊢
  obtain ⟨V8, hV8⟩ : ∃ x, w3.alloc (.cells c8 50) = x := ⟨_, rfl⟩
  rw [hV8] at bx8 ob8 r8a r8b
  have rg8 : ∀ W, Below V8.heap.size V8 W → W.rangeAt w3.heap.size 0 c8.toList := fun W hW j u hu => by
    rw [Nat.zero_add, (bx8.below hW).blk.cell j, hc8]
    simpa using hu
  have SI8 : Hid ((Try.prog.info? 50).map (·.size) = some c8.size) := Lib.hid (by rw [z8]; exact size50)
  have SL8 : Hid ((Try.prog.info? 50).map (·.size) = some c8.toList.length) := Lib.hid (by rw [Array.length_toList, z8]; exact size50)
  have SS8 : Hid (zs.size = c8.size) := Lib.hid (by rw [z8]; exact HZN.out)
  have ONE8 := Lib.hid one8
  have BX8 := Lib.hid bx8
  have RA8 := Lib.hid r8a
  have RB8 := Lib.hid r8b
  have RG8 := Lib.hid rg8
  have HC8 := Lib.hid hc8
  have HV8 := Lib.hid hV8
  clear z8 one8 bx8 r8a r8b rg8 hc8 hV8 o8a o8b
  have P8 := Lib.hid (ch0 l8 ob8)
  have D08 := Lib.hid (ch0 D07.out P8.out)
  have D78 := P8
  have LW8 := Lib.hid (ch0 LW7.out P8.out)
  clear l8 ob8 P8
  have q0 := (B5.out.below D08.out).cell 0
  have q1 := (B5.out.below D08.out).cell 1
  simp at q0 q1
  go_wp2_with (first
    | (refine wpList_store_row rfl 50 (.tmp 8) (.tmp 26) rfl w3.heap.size c8 rfl rfl 50 _ (heap_alloc_new _ _) SI8.out SS8.out ONE8.out ?_; rw [World.setRow_alloc_new, HV8.out]; simp only [Act.put, setIfInBounds_toArray, set_cons_zero, set_cons_succ]))
  refine (HN24.out V8).mono ?_
  rintro e w4 ⟨⟨x1, x2, rfl, o10a, o10b⟩, l10⟩
  clear q0 q1
  have z10 := Mc.size (m := sn.m) OKN.out x1 x2
  have one10 := Mc.one (m := sn.m) (vh := x1) (vm := x2) o10a.one o10b.one
  have bx10 := MBox.new (m := sn.m) OKN.out w4 x1 x2
  have ob10 : Below w4.heap.size w4 (w4.alloc (.cells (sn.m.cells x1 x2) 50)) := (Below.refl _ _).alloc (Nat.le_refl _) _
  have r10a := o10a.below ob10
  have r10b := o10b.below ob10
  obtain ⟨c10, hc10⟩ : ∃ x, sn.m.cells x1 x2 = x := ⟨_, rfl⟩
  rw [hc10] at z10 one10 bx10 ob10 r10a r10b ⊢
  obtain ⟨V10, hV10⟩ : ∃ x, w4.alloc (.cells c10 50) = x := ⟨_, rfl⟩
  rw [hV10] at bx10 ob10 r10a r10b
  have rg10 : ∀ W, Below V10.heap.size V10 W → W.rangeAt w4.heap.size 0 c10.toList := fun W hW j u hu => by
    rw [Nat.zero_add, (bx10.below hW).blk.cell j, hc10]
    simpa using hu
  have SI10 : Hid ((Try.prog.info? 50).map (·.size) = some c10.size) := Lib.hid (by rw [z10]; exact size50)
  have SL10 : Hid ((Try.prog.info? 50).map (·.size) = some c10.toList.length) := Lib.hid (by rw [Array.length_toList, z10]; exact size50)
  have SS10 : Hid (zs.size = c10.size) := Lib.hid (by rw [z10]; exact HZN.out)
  have ONE10 := Lib.hid one10
  have BX10 := Lib.hid bx10
  have RA10 := Lib.hid r10a
  have RB10 := Lib.hid r10b
  have RG10 := Lib.hid rg10
  have HC10 := Lib.hid hc10
  have HV10 := Lib.hid hV10
  clear z10 one10 bx10 r10a r10b rg10 hc10 hV10 o10a o10b
  have P10 := Lib.hid (ch0 l10 ob10)
  have D010 := Lib.hid (ch0 D08.out P10.out)
  have D710 := Lib.hid (ch0 D78.out P10.out)
  have D810 := P10
  have LW10 := Lib.hid (ch0 LW8.out P10.out)
  clear l10 ob10 P10
  have q0 := (B3.out.below D010.out).cell 0
  have q1 := (B3.out.below D010.out).cell 1
  have q2 := (B3.out.below D010.out).cell 2
  have q3 := (B3.out.below D010.out).cell 3
  simp at q0 q1 q2 q3
  go_wp2_with (first
    | (refine wpList_store_row rfl 50 (.tmp 10) (.tmp 34) rfl w4.heap.size c10 rfl rfl 50 _ (heap_alloc_new _ _) SI10.out SS10.out ONE10.out ?_; rw [World.setRow_alloc_new, HV10.out]; simp only [Act.put, setIfInBounds_toArray, set_cons_zero, set_cons_succ])
    | (refine wpList_load_midA rfl 50 (.tmp 7) rfl w2.heap.size 0 rfl c7 _ (RG7.out _ D710.out) Try.underlying50 rfl SL7.out ?_; simp only [Act.put, setIfInBounds_toArray, set_cons_zero, set_cons_succ]))
  have hd := do25_own o dd n v s HM.out HWD.out HMO.out _ v1 v2 V10 (RA7.out.below D710.out) (RB7.out.below D710.out) LL.out.1 LL.out.2 HOO.out
  rw [HC7.out, HS2.out] at hd
  refine hd.mono ?_
  clear hd
  rintro e w5 ⟨⟨y1, y2, rfl, o12a, o12b⟩, l12⟩
  clear q0 q1 q2 q3
  have z12 := Mc.size (m := s2.m) OK2.out.1 y1 y2
  have one12 := Mc.one (m := s2.m) (vh := y1) (vm := y2) o12a.one o12b.one
  have bx12 := MBox.new (m := s2.m) OK2.out.1 w5 y1 y2
  have ob12 : Below w5.heap.size w5 (w5.alloc (.cells (s2.m.cells y1 y2) 50)) := (Below.refl _ _).alloc (Nat.le_refl _) _
  have r12a := o12a.below ob12
  have r12b := o12b.below ob12
  obtain ⟨c12, hc12⟩ : ∃ x, s2.m.cells y1 y2 = x := ⟨_, rfl⟩
  rw [hc12] at z12 one12 bx12 ob12 r12a r12b ⊢
  obtain ⟨V12, hV12⟩ : ∃ x, w5.alloc (.cells c12 50) = x := ⟨_, rfl⟩
  rw [hV12] at bx12 ob12 r12a r12b
  have rg12 : ∀ W, Below V12.heap.size V12 W → W.rangeAt w5.heap.size 0 c12.toList := fun W hW j u hu => by
    rw [Nat.zero_add, (bx12.below hW).blk.cell j, hc12]
    simpa using hu
  have SI12 : Hid ((Try.prog.info? 50).map (·.size) = some c12.size) := Lib.hid (by rw [z12]; exact size50)
  have SL12 : Hid ((Try.prog.info? 50).map (·.size) = some c12.toList.length) := Lib.hid (by rw [Array.length_toList, z12]; exact size50)
  have SS12 : Hid (zs.size = c12.size) := Lib.hid (by rw [z12]; exact HZN.out)
  have ONE12 := Lib.hid one12
  have BX12 := Lib.hid bx12
  have RA12 := Lib.hid r12a
  have RB12 := Lib.hid r12b
  have RG12 := Lib.hid rg12
  have HC12 := Lib.hid hc12
  have HV12 := Lib.hid hV12
  clear z12 one12 bx12 r12a r12b rg12 hc12 hV12 o12a o12b
  have P12 := Lib.hid (ch0 l12 ob12)
  have D012 := Lib.hid (ch0 D010.out P12.out)
  have D712 := Lib.hid (ch0 D710.out P12.out)
  have D812 := Lib.hid (ch0 D810.out P12.out)
  have D1012 := P12
  have LW12 := Lib.hid (ch0 LW10.out P12.out)
  clear l12 ob12 P12
  go_upto_region 7 with (refine wpList_store_row rfl 50 (.tmp 12) (.tmp 38) rfl w5.heap.size c12 rfl rfl 50 _ (heap_alloc_new _ _) SI12.out SS12.out ONE12.out ?_; rw [World.setRow_alloc_new, HV12.out]; simp only [Act.put, setIfInBounds_toArray, set_cons_zero, set_cons_succ])
  go_cut [64] from 39 (fun c wx => c = .bool false ∧ Below V12.heap.size V12 wx)
  case first =>
    have F12 := Lib.hid (Below.drew (Below.refl V12.heap.size V12))
    have hS : (fun W => W.rangeAt w5.heap.size 0 c12.toList ∧ W.rangeAt (w.heap.size + 1) 0 c4.toList ∧ W.rangeAt w2.heap.size 0 c7.toList ∧ W.rangeAt w3.heap.size 0 c8.toList ∧ W.rangeAt w4.heap.size 0 c10.toList ∧ W.cell? ⟨w.heap.size, 0, none⟩ = some (.int .u8 o) ∧ W.cell? ⟨w.heap.size, 1, none⟩ = some (.int .i64 dd) ∧ W.cell? ⟨w.heap.size, 2, none⟩ = some (.int .i64 n) ∧ W.cell? ⟨w.heap.size, 3, none⟩ = some (.int .i64 v)) V12.drew := ⟨RG12.out _ F12.out, RG4.out _ (ch0 D012.out F12.out), RG7.out _ (ch0 D712.out F12.out), RG8.out _ (ch0 D812.out F12.out), RG10.out _ (ch0 D1012.out F12.out), (by have := (B3.out.below (ch0 D012.out F12.out)).cell 0; simpa using this), (by have := (B3.out.below (ch0 D012.out F12.out)).cell 1; simpa using this), (by have := (B3.out.below (ch0 D012.out F12.out)).cell 2; simpa using this), (by have := (B3.out.below (ch0 D012.out F12.out)).cell 3; simpa using this)⟩
    refine wp_region_held_drew (S := fun W => W.rangeAt w5.heap.size 0 c12.toList ∧ W.rangeAt (w.heap.size + 1) 0 c4.toList ∧ W.rangeAt w2.heap.size 0 c7.toList ∧ W.rangeAt w3.heap.size 0 c8.toList ∧ W.rangeAt w4.heap.size 0 c10.toList ∧ W.cell? ⟨w.heap.size, 0, none⟩ = some (.int .u8 o) ∧ W.cell? ⟨w.heap.size, 1, none⟩ = some (.int .i64 dd) ∧ W.cell? ⟨w.heap.size, 2, none⟩ = some (.int .i64 n) ∧ W.cell? ⟨w.heap.size, 3, none⟩ = some (.int .i64 v)) (by kernel_rfl) hS (fun hHeld => ?_)
    clear hS
    refine wpAnyH_takeD (i := 0) (d := 39) (oi := _) (v := .agg c12) rfl rfl (by kernel_rfl) (by kernel_rfl) (by kernel_rfl) (fun _ _ _ h => h) (yieldsIf_load_mid (by rfl) 50 (.tmp 12) rfl w5.heap.size 0 rfl c12.toList _ (fun w hS => hS.1) Try.underlying50 rfl SL12.out) (by assumption) ?_
    simp only [Act.put, setIfInBounds_toArray, set_cons_zero, set_cons_succ]
    refine wpAnyH_takeD (i := 1) (d := 40) (oi := _) (v := ?_) rfl rfl (by kernel_rfl) (by kernel_rfl) (by kernel_rfl) (fun _ _ _ h => h) (Or.inl ⟨by rfl, ?_⟩) (by assumption) ?_
    rotate_left
    · (intro w hSw; (try dsimp only at hSw); go_simp) <;> with_reducible rfl
    simp only [Act.put, setIfInBounds_toArray, set_cons_zero, set_cons_succ]
    refine wpAnyH_takeD (i := 2) (d := 41) (oi := _) (v := .agg c4) rfl rfl (by kernel_rfl) (by kernel_rfl) (by kernel_rfl) (fun _ _ _ h => h) (yieldsIf_load_mid (by rfl) 50 (.tmp 4) rfl (w.heap.size + 1) 0 rfl c4.toList _ (fun w hS => hS.2.1) Try.underlying50 rfl SL4.out) (by assumption) ?_
    simp only [Act.put, setIfInBounds_toArray, set_cons_zero, set_cons_succ]
    refine wpAnyH_ready (rs := [3]) (by kernel_rfl) (by simp) ?_
    refine AllReadyH.cons (o := _) rfl (fun K hK => ?_) AllReadyH.nil
    go_simp
    refine (H27.out _ (ch0 LW12.out F12.out) LL.out.1 LL.out.2).mono ?_
    rintro e w6 ⟨⟨z1, z2, rfl, oz1, oz2⟩, l13⟩
    have F13 := Lib.hid (ch0 F12.out l13)
    have OZ1 := Lib.hid oz1
    have OZ2 := Lib.hid oz2
    clear oz1 oz2 l13
    go_wp2_with fail
    refine hK.out _ _ ⟨RG12.out _ F13.out, RG4.out _ (ch0 D012.out F13.out), RG7.out _ (ch0 D712.out F13.out), RG8.out _ (ch0 D812.out F13.out), RG10.out _ (ch0 D1012.out F13.out), (by have := (B3.out.below (ch0 D012.out F13.out)).cell 0; simpa using this), (by have := (B3.out.below (ch0 D012.out F13.out)).cell 1; simpa using this), (by have := (B3.out.below (ch0 D012.out F13.out)).cell 2; simpa using this), (by have := (B3.out.below (ch0 D012.out F13.out)).cell 3; simpa using this)⟩ (fun hHeld => ?_)
    clear hK K
    try simp only [Act.put, setIfInBounds_toArray, set_cons_zero, set_cons_succ]
    refine wpAnyH_ready (rs := [4]) (by kernel_rfl) (by simp) ?_
    refine AllReadyH.cons (o := _) rfl (fun K hK => ?_) AllReadyH.nil
    go_simp
    have hsx := same_own s2 OK2.out.1 _ _ y1 y2 z1 z2 w6 (RA12.out.below F13.out) (RB12.out.below F13.out) OZ1.out OZ2.out (by have := LN2.out.1; have := LL.out.1; omega) (by have := LN2.out.2; have := LL.out.2; omega)
    rw [HC12.out] at hsx
    refine hsx.mono ?_
    clear hsx
    rintro e w7 ⟨rfl, hbq⟩
    have F14 := Lib.hid (ch0 F13.out hbq)
    clear hbq
    go_wp2_with fail
    refine hK.out _ _ ⟨RG12.out _ F14.out, RG4.out _ (ch0 D012.out F14.out), RG7.out _ (ch0 D712.out F14.out), RG8.out _ (ch0 D812.out F14.out), RG10.out _ (ch0 D1012.out F14.out), (by have := (B3.out.below (ch0 D012.out F14.out)).cell 0; simpa using this), (by have := (B3.out.below (ch0 D012.out F14.out)).cell 1; simpa using this), (by have := (B3.out.below (ch0 D012.out F14.out)).cell 2; simpa using this), (by have := (B3.out.below (ch0 D012.out F14.out)).cell 3; simpa using this)⟩ (fun hHeld => ?_)
    clear hK K
    try simp only [Act.put, setIfInBounds_toArray, set_cons_zero, set_cons_succ]
    refine wpAnyH_takeD (i := 5) (d := 44) (oi := _) (v := ?_) rfl rfl (by kernel_rfl) (by kernel_rfl) (by kernel_rfl) (fun _ _ _ h => h) (Or.inl ⟨by rfl, ?_⟩) (by assumption) ?_
    rotate_left
    · (intro w hSw; (try dsimp only at hSw); go_simp) <;> with_reducible rfl
    simp only [Act.put, setIfInBounds_toArray, set_cons_zero, set_cons_succ]
    refine wpAnyH_takeD (i := 6) (d := 45) (oi := _) (v := ?_) rfl rfl (by kernel_rfl) (by kernel_rfl) (by kernel_rfl) (fun _ _ _ h => h) (Or.inl ⟨by rfl, ?_⟩) (by assumption) ?_
    rotate_left
    · (intro w hSw; (try dsimp only at hSw); go_simp) <;> with_reducible rfl
    simp only [Act.put, setIfInBounds_toArray, set_cons_zero, set_cons_succ]
    refine wpAnyH_takeD (i := 7) (d := 46) (oi := _) (v := ?_) rfl rfl (by kernel_rfl) (by kernel_rfl) (by kernel_rfl) (fun _ _ _ h => h) (Or.inl ⟨by rfl, ?_⟩) (by assumption) ?_
    rotate_left
    · (intro w hSw; (try dsimp only at hSw); go_simp) <;> with_reducible rfl
    simp only [Act.put, setIfInBounds_toArray, set_cons_zero, set_cons_succ]
    refine wpAnyH_takeD (i := 8) (d := 47) (oi := _) (v := .agg c7) rfl rfl (by kernel_rfl) (by kernel_rfl) (by kernel_rfl) (fun _ _ _ h => h) (yieldsIf_load_mid (by rfl) 50 (.tmp 7) rfl w2.heap.size 0 rfl c7.toList _ (fun w hS => hS.2.2.1) Try.underlying50 rfl SL7.out) (by assumption) ?_
    simp only [Act.put, setIfInBounds_toArray, set_cons_zero, set_cons_succ]
    refine wpAnyH_takeD (i := 10) (d := 49) (oi := _) (v := ?_) rfl rfl (by kernel_rfl) (by kernel_rfl) (by kernel_rfl) (fun _ _ _ h => h) (Or.inl ⟨by rfl, ?_⟩) (by assumption) ?_
    rotate_left
    · (intro w hSw; (try dsimp only at hSw); go_simp) <;> with_reducible rfl
    simp only [Act.put, setIfInBounds_toArray, set_cons_zero, set_cons_succ]
    refine wpAnyH_takeD (i := 11) (d := 50) (oi := _) (v := .agg c4) rfl rfl (by kernel_rfl) (by kernel_rfl) (by kernel_rfl) (fun _ _ _ h => h) (yieldsIf_load_mid (by rfl) 50 (.tmp 4) rfl (w.heap.size + 1) 0 rfl c4.toList _ (fun w hS => hS.2.1) Try.underlying50 rfl SL4.out) (by assumption) ?_
    simp only [Act.put, setIfInBounds_toArray, set_cons_zero, set_cons_succ]
    refine wpAnyH_ready (rs := [9]) (by kernel_rfl) (by simp) ?_
    refine AllReadyH.cons (o := _) rfl (fun K hK => ?_) AllReadyH.nil
    go_simp
    have hsx := holds28 o dd n v s HM.out HWD.out HMO.out _ v1 v2 _ (RA7.out.below (ch0 D712.out F14.out)) (RB7.out.below (ch0 D712.out F14.out)) LL.out.1 LL.out.2 HOO.out
    rw [HC7.out, HHB.out] at hsx
    refine hsx.mono ?_
    clear hsx
    rintro e w8 ⟨rfl, hbq⟩
    have F15 := Lib.hid (ch0 F14.out hbq)
    clear hbq
    go_wp2_with fail
    refine hK.out _ _ ⟨RG12.out _ F15.out, RG4.out _ (ch0 D012.out F15.out), RG7.out _ (ch0 D712.out F15.out), RG8.out _ (ch0 D812.out F15.out), RG10.out _ (ch0 D1012.out F15.out), (by have := (B3.out.below (ch0 D012.out F15.out)).cell 0; simpa using this), (by have := (B3.out.below (ch0 D012.out F15.out)).cell 1; simpa using this), (by have := (B3.out.below (ch0 D012.out F15.out)).cell 2; simpa using this), (by have := (B3.out.below (ch0 D012.out F15.out)).cell 3; simpa using this)⟩ (fun hHeld => ?_)
    clear hK K
    try simp only [Act.put, setIfInBounds_toArray, set_cons_zero, set_cons_succ]
    refine wpAnyH_ready (rs := [12]) (by kernel_rfl) (by simp) ?_
    refine AllReadyH.cons (o := _) rfl (fun K hK => ?_) AllReadyH.nil
    go_simp
    refine (H29.out _ (ch0 LW12.out F15.out)).mono ?_
    rintro e w9 ⟨rfl, hbq⟩
    have F16 := Lib.hid (ch0 F15.out hbq)
    clear hbq
    go_wp2_with fail
    refine hK.out _ _ ⟨RG12.out _ F16.out, RG4.out _ (ch0 D012.out F16.out), RG7.out _ (ch0 D712.out F16.out), RG8.out _ (ch0 D812.out F16.out), RG10.out _ (ch0 D1012.out F16.out), (by have := (B3.out.below (ch0 D012.out F16.out)).cell 0; simpa using this), (by have := (B3.out.below (ch0 D012.out F16.out)).cell 1; simpa using this), (by have := (B3.out.below (ch0 D012.out F16.out)).cell 2; simpa using this), (by have := (B3.out.below (ch0 D012.out F16.out)).cell 3; simpa using this)⟩ (fun hHeld => ?_)
    clear hK K
    try simp only [Act.put, setIfInBounds_toArray, set_cons_zero, set_cons_succ]
    refine wpAnyH_takeD (i := 13) (d := 52) (oi := _) (v := ?_) rfl rfl (by kernel_rfl) (by kernel_rfl) (by kernel_rfl) (fun _ _ _ h => h) (Or.inl ⟨by rfl, ?_⟩) (by assumption) ?_
    rotate_left
    · (intro w hSw; (try dsimp only at hSw); go_simp) <;> with_reducible rfl
    simp only [Act.put, setIfInBounds_toArray, set_cons_zero, set_cons_succ]
    refine wpAnyH_takeD (i := 14) (d := 53) (oi := _) (v := ?_) rfl rfl (by kernel_rfl) (by kernel_rfl) (by kernel_rfl) (fun _ _ _ h => h) (Or.inl ⟨by rfl, ?_⟩) (by assumption) ?_
    rotate_left
    · (intro w hSw; (try dsimp only at hSw); go_simp) <;> with_reducible rfl
    simp only [Act.put, setIfInBounds_toArray, set_cons_zero, set_cons_succ]
    refine wpAnyH_takeD (i := 15) (d := 54) (oi := _) (v := ?_) rfl rfl (by kernel_rfl) (by kernel_rfl) (by kernel_rfl) (fun _ _ _ h => h) (Or.inl ⟨by rfl, ?_⟩) (by assumption) ?_
    rotate_left
    · (intro w hSw; (try dsimp only at hSw); go_simp) <;> with_reducible rfl
    simp only [Act.put, setIfInBounds_toArray, set_cons_zero, set_cons_succ]
    refine wpAnyH_takeD (i := 16) (d := 55) (oi := _) (v := ?_) rfl rfl (by kernel_rfl) (by kernel_rfl) (by kernel_rfl) (fun _ _ _ h => h) (Or.inl ⟨by rfl, ?_⟩) (by assumption) ?_
    rotate_left
    · (intro w hSw; (try dsimp only at hSw); go_simp) <;> with_reducible rfl
    simp only [Act.put, setIfInBounds_toArray, set_cons_zero, set_cons_succ]
    refine wpAnyH_takeD (i := 17) (d := 56) (oi := _) (v := ?_) rfl rfl (by kernel_rfl) (by kernel_rfl) (by kernel_rfl) (fun _ _ _ h => h) (Or.inl ⟨by rfl, ?_⟩) (by assumption) ?_
    rotate_left
    · (intro w hSw; (try dsimp only at hSw); go_simp) <;> with_reducible rfl
    simp only [Act.put, setIfInBounds_toArray, set_cons_zero, set_cons_succ]
    refine wpAnyH_takeD (i := 18) (d := 57) (oi := _) (v := ?_) rfl rfl (by kernel_rfl) (by kernel_rfl) (by kernel_rfl) (fun _ _ _ h => h) (Or.inl ⟨by rfl, ?_⟩) (by assumption) ?_
    rotate_left
    · (intro w hSw; (try dsimp only at hSw); go_simp) <;> with_reducible rfl
    simp only [Act.put, setIfInBounds_toArray, set_cons_zero, set_cons_succ]
    refine wpAnyH_takeD (i := 19) (d := 58) (oi := _) (v := ?_) rfl rfl (by kernel_rfl) (by kernel_rfl) (by kernel_rfl) (fun _ _ _ h => h) (Or.inl ⟨by rfl, ?_⟩) (by assumption) ?_
    rotate_left
    · (intro w hSw; (try dsimp only at hSw); go_simp) <;> with_reducible rfl
    simp only [Act.put, setIfInBounds_toArray, set_cons_zero, set_cons_succ]
    refine wpAnyH_takeD (i := 20) (d := 59) (oi := _) (v := ?_) rfl rfl (by kernel_rfl) (by kernel_rfl) (by kernel_rfl) (fun _ _ _ h => h) (Or.inl ⟨by rfl, ?_⟩) (by assumption) ?_
    rotate_left
    · (intro w hSw; (try dsimp only at hSw); go_simp) <;> with_reducible rfl
    simp only [Act.put, setIfInBounds_toArray, set_cons_zero, set_cons_succ]
    refine wpAnyH_takeD (i := 21) (d := 60) (oi := _) (v := .agg c8) rfl rfl (by kernel_rfl) (by kernel_rfl) (by kernel_rfl) (fun _ _ _ h => h) (yieldsIf_load_mid (by rfl) 50 (.tmp 8) rfl w3.heap.size 0 rfl c8.toList _ (fun w hS => hS.2.2.2.1) Try.underlying50 rfl SL8.out) (by assumption) ?_
    simp only [Act.put, setIfInBounds_toArray, set_cons_zero, set_cons_succ]
    refine wpAnyH_takeD (i := 22) (d := 61) (oi := _) (v := .agg c10) rfl rfl (by kernel_rfl) (by kernel_rfl) (by kernel_rfl) (fun _ _ _ h => h) (yieldsIf_load_mid (by rfl) 50 (.tmp 10) rfl w4.heap.size 0 rfl c10.toList _ (fun w hS => hS.2.2.2.2.1) Try.underlying50 rfl SL10.out) (by assumption) ?_
    simp only [Act.put, setIfInBounds_toArray, set_cons_zero, set_cons_succ]
    refine wpAnyH_ready (rs := [23]) (by kernel_rfl) (by simp) ?_
    refine AllReadyH.cons (o := _) rfl (fun K hK => ?_) AllReadyH.nil
    go_simp
    have hsx := same_own sn OKN.out _ _ u1 u2 x1 x2 w9 (RA8.out.below (ch0 D812.out F16.out)) (RB8.out.below (ch0 D812.out F16.out)) (RA10.out.below (ch0 D1012.out F16.out)) (RB10.out.below (ch0 D1012.out F16.out)) LN.out.1 LN.out.2
    rw [HC8.out, HC10.out] at hsx
    refine hsx.mono ?_
    clear hsx
    rintro e w10 ⟨rfl, hbq⟩
    have F17 := Lib.hid (ch0 F16.out hbq)
    clear hbq
    go_wp2_with fail
    refine hK.out _ _ ⟨RG12.out _ F17.out, RG4.out _ (ch0 D012.out F17.out), RG7.out _ (ch0 D712.out F17.out), RG8.out _ (ch0 D812.out F17.out), RG10.out _ (ch0 D1012.out F17.out), (by have := (B3.out.below (ch0 D012.out F17.out)).cell 0; simpa using this), (by have := (B3.out.below (ch0 D012.out F17.out)).cell 1; simpa using this), (by have := (B3.out.below (ch0 D012.out F17.out)).cell 2; simpa using this), (by have := (B3.out.below (ch0 D012.out F17.out)).cell 3; simpa using this)⟩ (fun hHeld => ?_)
    clear hK K
    try simp only [Act.put, setIfInBounds_toArray, set_cons_zero, set_cons_succ]
    refine wpAnyH_takeD (i := 24) (d := 63) (oi := _) (v := ?_) rfl rfl (by kernel_rfl) (by kernel_rfl) (by kernel_rfl) (fun _ _ _ h => h) (Or.inl ⟨by rfl, ?_⟩) (by assumption) ?_
    rotate_left
    · (intro w hSw; (try dsimp only at hSw); go_simp) <;> with_reducible rfl
    simp only [Act.put, setIfInBounds_toArray, set_cons_zero, set_cons_succ]
    refine wpAnyH_takeD (i := 25) (d := 64) (oi := _) (v := ?_) rfl rfl (by kernel_rfl) (by kernel_rfl) (by kernel_rfl) (fun _ _ _ h => h) (Or.inl ⟨by rfl, ?_⟩) (by assumption) ?_
    rotate_left
    · (intro w hSw; (try dsimp only at hSw); go_simp) <;> with_reducible rfl
    simp only [Act.put, setIfInBounds_toArray, set_cons_zero, set_cons_succ]
    refine wpAnyH_done (by kernel_rfl) ?_ _
    go_wp2_with fail
    go_meet
    exact ⟨rfl, F17.out⟩
  case rest =>
    obtain ⟨rfl, hbc⟩ := hcut
    obtain ⟨AH, cH, fH, _, _, _⟩ := RA12.out.form
    obtain ⟨AM, cM, fM, _, _, _⟩ := RB12.out.form
    rw [List.length_map] at fH fM
    have bx12 := BX12.out.below hbc
    have ra := RA12.out.below hbc
    have rb := RB12.out.below hbc
    rw [fH, fM] at bx12
    rw [fH] at ra
    rw [fM] at rb
    obtain ⟨nh, hnh⟩ : ∃ z, s2.hs.length = z := ⟨_, rfl⟩
    obtain ⟨nm, hnm⟩ : ∃ z, s2.ms.length = z := ⟨_, rfl⟩
    rw [hnh, hnm] at bx12
    rw [hnh] at ra
    rw [hnm] at rb
    have hnh5 : nh ≤ 5000 := by have := LN2.out.1; have := LL.out.1; omega
    have hnm5 : nm ≤ 5000 := by have := LN2.out.2; have := LL.out.2; omega
    have NH5 := Lib.hid hnh5
    have NM5 := Lib.hid hnm5
    have HNH := Lib.hid hnh
    have HNM := Lib.hid hnm
    have BXC := Lib.hid bx12
    have RAC := Lib.hid ra
    have RBC := Lib.hid rb
    have DC := Lib.hid (ch0 D1012.out hbc)
    have e6 := bx12.cm
    have apm := fun k hk => And.intro (rb.apart bx12.blk (by decide) k hk) (rb.ge k hk)
    have aph := fun k hk => And.intro (ra.apart bx12.blk (by decide) k hk) (ra.ge k hk)
    have ahm := ra.parted rb (by decide)
    have APM := Lib.hid apm
    have APH := Lib.hid aph
    have AHM := Lib.hid ahm
    clear hbc fH fM bx12 ra rb hnh hnm apm aph ahm
    go_wp2_with fail
    go_loopw [68] (fun i wr => ∃ (j : Nat) (ls : List Int), j ≤ nm ∧ i = .int .i64 j ∧ ls.length = nm ∧ OwnR wr V10.heap.size (.slice AM nm cM) 5 (ls.map (.int .u8)) ∧ Frm (fun k => (Value.slice AM nm cM).ownBlock = some k) wc wr) (fun i _ => nm - (intOf i).toNat)
    case atStart => exact ⟨0, s2.ms, by omega, rfl, HNM.out, RBC.out, Frm.refl _ _⟩
    case round =>
      obtain ⟨j, ls, hj, rfl, hlen, hown, hfr⟩ := hrel
      have HL := Lib.hid hlen
      have HF := Lib.hid hfr
      have HOWN := Lib.hid hown
      have e7 := (⟨BXC.out.blk.frm hfr (fun h => (APM.out _ h).1 rfl), BXC.out.ok⟩ : MBox wr w5.heap.size s2.m (.slice AH nh cH) (.slice AM nm cM)).cm
      by_cases hlt : j < nm
      · obtain ⟨gm, c2, hv, hcl, hge, hrow⟩ := hown.at (by rw [List.length_map, hlen]; omega)
        rw [List.length_map, hlen] at hcl
        injection hv with hv1 hv2 hv3
        obtain ⟨x9, hx9⟩ : ∃ z, ls[j]? = some z := ⟨_, List.getElem?_eq_getElem (by omega)⟩
        have c9 : wr.cell? ⟨gm, j, none⟩ = some (.int .u8 x9) := hrow.cell (by rw [List.getElem?_map, hx9]; rfl)
        have f9 := hrow.fz j
        have hai : (j : Int) < (nm : Int) := by omega
        have HROW := Lib.hid hrow
        have HGE := Lib.hid hge
        have HCL := Lib.hid hcl
        rw [hv1] at e7
        have HV1 := Lib.hid hv1
        have HV3 := Lib.hid hv3
        clear hlen hown hfr hv1 hv2 hv3 hcl hge hrow hx9
        go_wp2_with fail
        go_roundw
        case rel =>
          refine ⟨j + 1, ls.set j (IntKind.u8.wrap (x9 + 1)), by omega, by go_num, by rw [List.length_set]; exact HL.out, ?_, HF.out.setCell (p := ⟨gm, j, none⟩) (fun _ => by rw [HV1.out]; rfl) _⟩
          have hr2 := HROW.out.set j (.int .u8 (IntKind.u8.wrap (x9 + 1)))
          rw [← List.map_set] at hr2
          exact .inr ⟨gm, cM, by rw [HV1.out, List.length_map, List.length_set, HL.out], by rw [List.length_map, List.length_set, HL.out, HV3.out]; exact HCL.out, HGE.out, hr2⟩
        case measure => simp [intOf]; omega
      · have q1 : decide ((j : Int) < (nm : Int)) = false := by simp; omega
        have q1n : decide (j < nm) = false := by simp; omega
        have rh := RAC.out.frm2 hfr (AHM.out)
        have bx1 : MBox wr w5.heap.size s2.m (.slice AH nh cH) (.slice AM nm cM) := ⟨BXC.out.blk.frm hfr (fun h => (APM.out _ h).1 rfl), BXC.out.ok⟩
        have d1 : Below V10.heap.size V10 wr := DC.out.trans (hfr.to_below DC.out.size (fun k hk => (APM.out k hk).2))
        have e8 := bx1.ch
        have RH1 := Lib.hid rh
        have BX1 := Lib.hid bx1
        have D1 := Lib.hid d1
        obtain ⟨W1, hW1⟩ : ∃ z, wr = z := ⟨_, rfl⟩
        rw [hW1] at e8 RH1 BX1 D1 e7 ⊢
        clear hlen hown hfr rh bx1 d1 HOWN HF hW1
        go_wp2_with fail
        go_loopw [82] (fun i wr => ∃ (j : Nat) (ls : List Int), j ≤ nh ∧ i = .int .i64 j ∧ ls.length = nh ∧ OwnR wr V10.heap.size (.slice AH nh cH) 45 (ls.map (.int .u32)) ∧ Frm (fun k => (Value.slice AH nh cH).ownBlock = some k) W1 wr) (fun i _ => nh - (intOf i).toNat)
        case atStart => exact ⟨0, s2.hs, by omega, rfl, HNH.out, RH1.out, Frm.refl _ _⟩
        case round =>
          obtain ⟨j, ls, hj, rfl, hlen, hown, hfr⟩ := hrel
          have HL := Lib.hid hlen
          have HF := Lib.hid hfr
          have HOWN := Lib.hid hown
          have e7 := (⟨BX1.out.blk.frm hfr (fun h => (APH.out _ h).1 rfl), BX1.out.ok⟩ : MBox wr w5.heap.size s2.m (.slice AH nh cH) (.slice AM nm cM)).ch
          by_cases hlt : j < nh
          · obtain ⟨gm, c2, hv, hcl, hge, hrow⟩ := hown.at (by rw [List.length_map, hlen]; omega)
            rw [List.length_map, hlen] at hcl
            injection hv with hv1 hv2 hv3
            obtain ⟨x9, hx9⟩ : ∃ z, ls[j]? = some z := ⟨_, List.getElem?_eq_getElem (by omega)⟩
            have c9 : wr.cell? ⟨gm, j, none⟩ = some (.int .u32 x9) := hrow.cell (by rw [List.getElem?_map, hx9]; rfl)
            have f9 := hrow.fz j
            have hai : (j : Int) < (nh : Int) := by omega
            have HROW := Lib.hid hrow
            have HGE := Lib.hid hge
            have HCL := Lib.hid hcl
            rw [hv1] at e7
            have HV1 := Lib.hid hv1
            have HV3 := Lib.hid hv3
            clear hlen hown hfr hv1 hv2 hv3 hcl hge hrow hx9
            go_wp2_with fail
            go_roundw
            case rel =>
              refine ⟨j + 1, ls.set j (IntKind.u32.wrap (x9 + 1)), by omega, by go_num, by rw [List.length_set]; exact HL.out, ?_, HF.out.setCell (p := ⟨gm, j, none⟩) (fun _ => by rw [HV1.out]; rfl) _⟩
              have hr2 := HROW.out.set j (.int .u32 (IntKind.u32.wrap (x9 + 1)))
              rw [← List.map_set] at hr2
              exact .inr ⟨gm, cH, by rw [HV1.out, List.length_map, List.length_set, HL.out], by rw [List.length_map, List.length_set, HL.out, HV3.out]; exact HCL.out, HGE.out, hr2⟩
            case measure => simp [intOf]; omega
          · have q1 : decide ((j : Int) < (nh : Int)) = false := by simp; omega
            have q1n : decide (j < nh) = false := by simp; omega
            have d2 : Below V10.heap.size V10 wr := D1.out.trans (hfr.to_below D1.out.size (fun k hk => (APH.out k hk).2))
            have D2 := Lib.hid d2
            clear hlen hown hfr d2 HOWN HF
            go_wp2_with (first
              | (refine wpList_load_midA rfl 50 (.tmp 7) rfl w2.heap.size 0 rfl c7 _ (RG7.out _ (ch0 D710.out D2.out)) Try.underlying50 rfl SL7.out ?_; simp only [Act.put, setIfInBounds_toArray, set_cons_zero, set_cons_succ])
              | (refine wpList_load_midA rfl 50 (.tmp 4) rfl (w.heap.size + 1) 0 rfl c4 _ (RG4.out _ (ch0 D010.out D2.out)) Try.underlying50 rfl SL4.out ?_; simp only [Act.put, setIfInBounds_toArray, set_cons_zero, set_cons_succ]))
            have hsx := HSM.out wr _ v1 v2 (ch0 LW10.out D2.out) (RA7.out.below (ch0 D710.out D2.out)) (RB7.out.below (ch0 D710.out D2.out)) LL.out.1 LL.out.2
            rw [HC7.out] at hsx
            refine hsx.mono ?_
            clear hsx
            rintro e w20 ⟨rfl, hbq⟩
            have G1 := Lib.hid (ch0 (ch0 LW10.out D2.out) hbq)
            clear hbq
            go_wp2_with fail
            refine (awake17 _).mono ?_
            rintro e w21 ⟨rfl, hbq⟩
            have G2 := Lib.hid (ch0 G1.out hbq)
            clear hbq
            go_wp2_with fail
            go_ret
            exact ⟨rfl, G2.out⟩
end Go.Proofs.Ytebmgladdgmmeaa
namespace Go.Proofs.Ytebmgladdgmmeaa
open Go.RowKit Go.WideShapes Go.ChangeShapes Go.Deep
set_option maxRecDepth 100000 in
theorem vmDoes_law {H : Type} {enc : TypeId × Value → H} {base0 base1 base2 : Nat} {d0 d1 d2 : DataW H} {p0 p1 p2 : List MemPlace} (v0 v1 v2 : Value) (w : World)
    (h0 : Value.okWide Try.prog w .any base0 31 v0) (k0 : DataW.Trod enc Try.prog w 0 (fun _ => true) true 31 v0 d0 p0) (h1 : Value.okWide Try.prog w .any base1 50 v1) (k1 : DataW.Trod enc Try.prog w 0 (fun _ => true) true 50 v1 d1 p1)
    (h2 : Value.okWide Try.prog w .any base2 51 v2) (k2 : DataW.Trod enc Try.prog w 0 (fun _ => true) true 51 v2 d2 p2) :
    Calls Try.prog 5 #[v0, v1, v2] w fun e w' => e = .returned (.bool true) ∧ Below w.heap.size w w' := by
  obtain ⟨o, dd, n, v, rfl, ho, _⟩ := open_ins h0 k0
  obtain ⟨s, Ah, Am, ch, cm, rfl, hin⟩ := open_machine h1 k1
  obtain ⟨x, y, rfl⟩ := open_two h2 k2
  exact (does5 o dd n v ho s Ah Am ch cm x y w hin).mono fun _ _ h => ⟨h.1, h.2⟩
end Go.Proofs.Ytebmgladdgmmeaa
