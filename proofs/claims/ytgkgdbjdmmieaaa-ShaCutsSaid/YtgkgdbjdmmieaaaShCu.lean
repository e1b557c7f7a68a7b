/- ShaCuts' walk. -/
import Derived.Test.YtgkgdbjdmmieaaaShOp
import Derived.Test.YtgkgdbjdmmieaaaShAw
import Derived.Test.YtgkgdbjdmmieaaaShEq
import Derived.Deep.Matrix
namespace Go.Proofs.Ytgkgdbjdmmieaaa
open Go.RowKit Go.WideShapes Go.ChangeShapes
set_option linter.unusedVariables false
set_option linter.unusedSimpArgs false
theorem open_rows {H : Type} {enc : TypeId × Value → H} {base : Nat} {d : DataW H} {ps : List MemPlace} {v : Value} {w : World} (hv : Value.okWide Try.prog w .any base 40 v) (hk : DataW.Trod enc Try.prog w 0 (fun _ => true) true 40 v d ps) :
    ∃ X n c, v = .slice X n c ∧ n ≤ maxLen ∧ ∀ r, r < n → ∃ b off A L C bs, X = some ⟨b, off, none⟩ ∧ b < w.heap.size ∧ w.cell? ⟨b, off + r, none⟩ = some (.slice A L C) ∧ L ≤ C ∧ C ≤ maxLen ∧ bs.length = L ∧ Oct bs ∧ Rd w A (octs bs) := by
  obtain ⟨a, len, cap, rfl⟩ := okWide_slice Try.underlying40 hv
  obtain ⟨fuel, hf⟩ := hk
  rcases Go.Deep.open_int_rows Try.underlying40 Try.underlying25 Try.underlying5 (by kernel_rfl) (by kernel_rfl) hf with ⟨hcs, _⟩ | ⟨x, l, c, A, L, C, Z, hcs, _, hl, hm, _, hall⟩
  · simp [Value.cells] at hcs
    obtain ⟨rfl, rfl, rfl⟩ := hcs
    exact ⟨none, 0, 0, rfl, by simp [maxLen], fun r hr => absurd hr (by omega)⟩
  · simp [Value.cells] at hcs
    obtain ⟨rfl, rfl, rfl⟩ := hcs
    refine ⟨some x, len, cap, rfl, by omega, fun r hr => ?_⟩
    obtain ⟨hc, h1, h2, h3, h4, h5, h6⟩ := hall r (by omega)
    obtain ⟨b, off, spot⟩ := x
    have hc0 := (hall 0 (by omega)).1
    have hspot : spot = none := by simpa [Addr.add] using World.cell?_spot hc0
    subst hspot
    rw [addr_add] at hc
    refine ⟨b, off, A r, L r, C r, (Z r).take (L r), rfl, block_lt_of_cell hc, hc, h1, h2, by rw [List.length_take]; omega, (Oct.of_wf h4).take _, fun hn => ?_⟩
    rw [octs_length, List.length_take] at hn
    cases hA : A r with
    | none => have := h5 hA; omega
    | some a' =>
      obtain ⟨hb', hcell⟩ := h6 a' hA
      obtain ⟨b', off', spot'⟩ := a'
      have hz0 := hcell 0 (by omega)
      have hspot' : spot' = none := by simpa [Addr.add] using World.cell?_spot hz0
      subst hspot'
      refine ⟨b', off', rfl, block_lt_of_cell hz0, fun i u hu => ?_⟩
      unfold octs at hu
      rw [List.getElem?_map, List.getElem?_take] at hu
      have hi : i < (Z r).length := by
        rcases Nat.lt_or_ge i (Z r).length with h | h
        · exact h
        · rw [List.getElem?_eq_none h] at hu; split at hu <;> cases hu
      have := hcell i (by omega)
      rw [addr_add] at this
      rw [this]
      split at hu
      · rw [List.getElem?_eq_getElem hi] at hu
        rw [List.getD_eq_getElem?_getD, List.getElem?_eq_getElem hi]
        simpa using hu
      · cases hu
structure IsCopy (M : Nat) (bs : List Int) (w0 : World) (e : Ending) (w : World) : Prop where
  ex : ∃ A c, e = .returned (.slice A M c) ∧ M ≤ c ∧ w.ownsRow w0.heap.size 5 1 (.slice A M c) M (octs bs)
  low : Below w0.heap.size w0 w
theorem copyM (M : Nat) (bs : List Int) (A : Option Addr) (c : Nat) (w : World) (hl : bs.length = M) (hM : M ≤ 3000) (hr : Rd w A (octs bs)) : Calls Try.prog 16 #[.slice A M c] w (IsCopy M bs w) := by
  subst hl
  exact (copyBytes_any bs A c w hr (by omega)).mono fun e w' ⟨⟨A1, c1, h1, h2, h3⟩, hb⟩ => ⟨⟨A1, c1, h1, h2, h3⟩, hb⟩
theorem own_lt {w : World} {B n : Nat} {e : TypeId} {size : Nat} {v : Value} {xs : List Value} (h : w.ownsRow B e size v n xs) : ∀ b, v.ownBlock = some b → B ≤ b ∧ b < w.heap.size := fun b hb => by
  rcases h.2 with ⟨rfl, _⟩ | ⟨g, cap, cur, rfl, h1, hg, _⟩
  · simp [Value.ownBlock] at hb
  · simp [Value.ownBlock] at hb
    subst hb
    exact ⟨h1, (Array.getElem?_eq_some_iff.1 hg).1⟩
/-- What stands behind the copy and the Write. -/
structure Mid (B q M : Nat) (all part : List Int) (va vi vd : Value) (w0 w : World) : Prop where
  own : w.ownsRow B 5 1 va all.length (octs all)
  inn : w.ownsRow q 5 1 vi M (octs part)
  dig : Dig B w B (all ++ part) vd
  sep : ∀ b, va.ownBlock = some b → vd.ownBlock ≠ some b
  sep2 : ∀ b, vi.ownBlock = some b → vd.ownBlock ≠ some b ∧ va.ownBlock ≠ some b ∧ b ≠ B ∧ w0.heap.size ≤ b
  low : Below w0.heap.size w0 w
theorem mid_of {B M : Nat} {all part : List Int} {va vi vd v' : Value} {w0 wq w3 w4 : World} (hB : w0.heap.size = B) (hb : Below w0.heap.size w0 wq) (hBq : B < wq.heap.size) (hown : wq.ownsRow B 5 1 va all.length (octs all)) (hdig : Dig B wq B all vd) (hne : ∀ b, va.ownBlock = some b → vd.ownBlock ≠ some b)
    (ho1 : w3.ownsRow wq.heap.size 5 1 vi M (octs part)) (hb3 : Below wq.heap.size wq w3) (hd4 : Dig B w4 B (all ++ part) v') (hv4 : ∀ k, v'.ownBlock = some k → w3.heap.size ≤ k) (hf4 : Frm (fun k => k = B ∨ vd.ownBlock = some k) w3 w4) :
    Mid B wq.heap.size M all part va vi v' w0 w4 := by
  have hva := own_lt hown
  have hvi := own_lt ho1
  have hvd := own_lt hdig.own
  have o3 := own_below hown hb3
  have hap := (hdig.blk.below hb3).apart o3 (by decide)
  have hva3 := own_lt o3
  refine ⟨hf4.own o3 fun k hk hs => ?_, hf4.own ho1 fun k hk hs => ?_, hd4, fun b hb' hc => ?_, fun b hb' => ⟨fun hc => ?_, fun hc => ?_, ?_, ?_⟩, ?_⟩
  · rcases hs with rfl | hs
    · exact hap _ hk rfl
    · exact hne k hk hs
  · have := hvi k hk
    rcases hs with rfl | hs
    · omega
    · have := hvd k hs; omega
  · have := hv4 b hc; have := hva3 b hb'; omega
  · have := hv4 b hc; have := hvi b hb'; omega
  · have := hva b hc; have := hvi b hb'; omega
  · have := hvi b hb'; omega
  · have := hvi b hb'; have := hb.size; omega
  · have h3 : Below w0.heap.size w0 w3 := hb.trans (hb3.mono hb.size)
    exact h3.trans (hf4.to_below h3.size fun k hk => by
      rcases hk with rfl | hk
      · omega
      · have := hvd k hk; omega)
/-- The copy's bytes are turned; each is a byte still. -/
def InC (w : World) (A : Option Addr) (M : Nat) : Prop := 0 < M → ∃ gi, A = some ⟨gi, 0, none⟩ ∧ ∃ cur, Blk w gi 5 cur ∧ ∀ j, j < M → ∃ x : Int, cur[j]? = some (.int .u8 x)
theorem inC_of {w : World} {q M c : Nat} {A : Option Addr} {part : List Int} (h : w.ownsRow q 5 1 (.slice A M c) M (octs part)) : InC w A M := fun hM => by
  have hl := h.1
  rw [octs_length, Nat.mul_one] at hl
  rcases h.2 with ⟨h0, h1⟩ | ⟨g, cap, cur, hv, h1, hg, h2, h3, h4, ht⟩
  · omega
  · injection hv with hv _ _
    refine ⟨g, hv, cur, hg, fun j hj => ⟨part.getD j 0, ?_⟩⟩
    have e : (cur.toList.take (octs part).length)[j]? = some (.int .u8 (part.getD j 0)) := by
      have h5 := octs_at (l := part) (i := j) (by omega)
      rw [octs_length, hl]
      rw [Nat.mul_one] at ht
      rw [ht]
      exact h5
    rw [List.getElem?_take] at e
    split at e
    · simpa using e
    · cases e
theorem inC_set {w : World} {gi M k : Nat} {A : Option Addr} {cur : Array Value} {x : Int} (hA : A = some ⟨gi, 0, none⟩) (hk : Blk w gi 5 cur) (hc : ∀ j, j < M → ∃ x : Int, cur[j]? = some (.int .u8 x)) : InC (w.setCell ⟨gi, k, none⟩ (.int .u8 x)) A M := fun _ => by
  refine ⟨gi, hA, _, hk.set k _, fun j hj => ?_⟩
  obtain ⟨y, hy⟩ := hc j hj
  by_cases e : k = j
  · subst e
    exact ⟨x, by rw [Array.getElem?_setIfInBounds_self_of_lt (Array.getElem?_eq_some_iff.1 hy).1]⟩
  · exact ⟨y, by rw [Array.getElem?_setIfInBounds_ne e]; exact hy⟩
theorem mid_frm {B q M c : Nat} {all part : List Int} {va vd : Value} {A : Option Addr} {w0 w4 w5 : World} (hB : w0.heap.size = B) (h : Mid B q M all part va (.slice A M c) vd w0 w4) (hf : Frm (fun b => (Value.slice A M c).ownBlock = some b) w4 w5) :
    w5.ownsRow B 5 1 va all.length (octs all) ∧ Dig B w5 B (all ++ part) vd ∧ Below w0.heap.size w0 w5 := by
  refine ⟨hf.own h.own fun k hk hs => (h.sep2 k hs).2.1 hk, h.dig.frm hf (fun hs => (h.sep2 _ hs).2.2.1 rfl) fun k hk hs => (h.sep2 k hs).1 hk, h.low.trans (hf.to_below h.low.size fun k hk => (h.sep2 k hk).2.2.2)⟩
theorem end_of {B : Nat} {all part : List Int} {va va' vd : Value} {w0 w5 w6 : World} (hB : w0.heap.size = B) (hd : Dig B w5 B (all ++ part) vd) (ho : w5.ownsRow B 5 1 va all.length (octs all)) (hsep : ∀ b, va.ownBlock = some b → vd.ownBlock ≠ some b) (hb : Below w0.heap.size w0 w5)
    (hg : w5.grownBy w6 va.ownBlock) (hb6 : Below B w5 w6) (hl : va'.ownBlock = va.ownBlock ∨ va'.ownBlock = some w5.heap.size) :
    Dig B w6 B (all ++ part) vd ∧ (∀ b, va'.ownBlock = some b → vd.ownBlock ≠ some b) ∧ Below w0.heap.size w0 w6 := by
  have hf : Frm (fun k => va.ownBlock = some k) w5 w6 := Frm.of_grown hg fun k hk => hk
  have hap := hd.blk.apart ho (by decide)
  refine ⟨hd.frm hf (fun hs => hap _ hs rfl) fun k hk hs => hsep k hs hk, fun b hb' => ?_, hb.trans (by rw [hB]; exact hb6)⟩
  rcases hl with h | h
  · rw [h] at hb'; exact hsep b hb'
  · rw [h] at hb'
    injection hb' with hb'
    intro hc
    have := own_lt hd.own b hc
    omega
structure CRel (B g : Nat) (w0 : World) (va i : Value) (w : World) : Prop where
  ex : ∃ (k : Nat) (all : List Int) (vd : Value), i = .int .i64 k ∧ k ≤ 30 ∧ all.length ≤ 3000 * k ∧ Oct all ∧ w.ownsRow B 5 1 va all.length (octs all) ∧ Dig B w g all vd ∧ (∀ b, va.ownBlock = some b → vd.ownBlock ≠ some b)
  low : Below w0.heap.size w0 w
set_option maxHeartbeats 4000000 in
set_option maxRecDepth 100000 in
theorem cuts_law {H : Type} {enc : TypeId × Value → H} {base : Nat} {d : DataW H} {ps : List MemPlace} (v : Value) (w : World) (hv : Value.okWide Try.prog w .any base 40 v) (hk : DataW.Trod enc Try.prog w 0 (fun _ => true) true 40 v d ps) :
    Calls Try.prog 5 #[v] w fun e w' => e = .returned (.bool true) ∧ Below w.heap.size w w' := by
  obtain ⟨X, n, c, rfl, hn, hrow⟩ := open_rows hv hk
  clear hv hk
  unfold maxLen at hn
  have HROW := Lib.hid hrow
  clear hrow
  go_enter Try.func5, Try.ntmps5
  go_wp2_with fail
  refine (new_any w).mono ?_
  rintro e w1 ⟨rfl, hd1, hb1⟩
  obtain ⟨B, hB⟩ : ∃ B, w.heap.size = B := ⟨_, rfl⟩
  have HD1 := Lib.hid hd1
  have HB1 := Lib.hid hb1
  clear hd1 hb1
  rw [hB] at HD1 HB1 ⊢
  have HBE := Lib.hid hB
  clear hB
  go_wp2_with fail
  go_loopw [4, 5] (fun va i wr => CRel B B w va i wr) (fun _ i _ => 30 - (intOf i).toNat)
  case atStart => exact ⟨⟨0, [], _, rfl, by omega, by simp, (fun x hx => by cases hx), ⟨rfl, .inl ⟨rfl, rfl⟩⟩, HD1.out, fun b hb => by simp [Value.ownBlock] at hb⟩, by rw [HBE.out]; exact HB1.out⟩
  case round =>
    obtain ⟨⟨k, all, vd, rfl, hk30, hlen, hoa, hown, hdig, hne⟩, hb⟩ := hrel
    by_cases hcond : k < n ∧ k < 30
    · obtain ⟨hkn, hk3⟩ := hcond
      obtain ⟨b0, off, A, L, C, bs, rfl, hb0, hcell, hLC, hCm, hbl, hbo, hbr⟩ := HROW.out k hkn
      unfold maxLen at hCm
      obtain ⟨m, hm⟩ : ∃ m, min L 3000 = m := ⟨_, rfl⟩
      have hmL : m ≤ L := by omega
      have hm3 : m ≤ 3000 := by omega
      have hmi : min (L : Int) 3000 = (m : Int) := by omega
      obtain ⟨part, hpart⟩ : ∃ part, bs.take m = part := ⟨_, rfl⟩
      have hpl : part.length = m := by rw [← hpart, List.length_take]; omega
      have hpo : Oct part := by rw [← hpart]; exact hbo.take _
      have hpr : Rd w A (octs part) := by rw [← hpart, ← octs_take]; exact hbr.take _
      have c0 : wr.cell? ⟨b0, off + k, none⟩ = some (.slice A L C) := (hb.cell (p := ⟨b0, off + k, none⟩) hb0).trans hcell
      have hmC : (m : Int) ≤ C := by omega
      have hknI : (k : Int) < n := by omega
      have hk30I : (k : Int) < 30 := by omega
      have HPR := Lib.hid hpr
      have HPL := Lib.hid hpl
      have HPO := Lib.hid hpo
      have HLEN := Lib.hid hlen
      have HOA := Lib.hid hoa
      have HOWN := Lib.hid hown
      have HDIG := Lib.hid hdig
      have HNE := Lib.hid hne
      have HB := Lib.hid hb
      clear hpr hpl hpo hlen hoa hown hdig hne hb hm hpart hbl hbo hbr hcell
      by_cases hL3 : L ≤ 3000
      · obtain rfl : m = L := by omega
        have hL3I : (m : Int) ≤ 3000 := by omega
        go_wp2_with fail
        go_quiet (fail)
        go_wp2_with fail
        have hdq : Dig B (wr.drewN nq) B all vd := ⟨HDIG.out.ge, HDIG.out.oct, HDIG.out.blk, HDIG.out.own⟩
        have hoq : (wr.drewN nq).ownsRow B 5 1 u4 all.length (octs all) := HOWN.out
        have hbq : Below w.heap.size w (wr.drewN nq) := below_drewN HB.out nq
        generalize wr.drewN nq = wq at hdq hoq hbq ⊢
        have HDQ := Lib.hid hdq
        have HOQ := Lib.hid hoq
        have HBQ := Lib.hid hbq
        have HLT := Lib.hid hdq.blk.lt
        clear hdq hoq hbq
        refine (copyM m part A C wq HPL.out (by omega) (HPR.out.below HBQ.out rfl)).mono ?_
        rintro e w3 ⟨⟨A1, c1, rfl, hc1, ho1⟩, hb3⟩
        have HO1 := Lib.hid ho1
        have HB3 := Lib.hid hb3
        have HD3 := Lib.hid (HDQ.out.below hb3)
        have hA1 : 0 < part.length → ∀ q, A1 = some q → q.block ≠ B := fun _ q hq => by
          have := (own_lt ho1 q.block (by
            rcases ho1.2 with ⟨h0, _⟩ | ⟨gg, cap, cur, hv, _⟩
            · injection h0 with h0; rw [h0] at hq; cases hq
            · injection hv with hv; rw [hv] at hq ⊢; injection hq with hq; rw [← hq]; rfl)).1
          have := HLT.out
          omega
        have HA1 := Lib.hid hA1
        clear ho1 hb3 hA1
        go_wp2_with fail
        refine (write_any B B all part vd A1 m c1 w3 HD3.out HPL.out.symm HPO.out (Rd.of_own HO1.out) HA1.out (by have := HLEN.out; omega)).mono ?_
        rintro e w4 ⟨rfl, ⟨v', hd4, hv4⟩, hf4⟩
        have HMID := Lib.hid (mid_of HBE.out HBQ.out HLT.out HOQ.out HDQ.out HNE.out HO1.out HB3.out hd4 hv4 hf4)
        clear hd4 hv4 hf4 HD3 HA1 HB3 HO1
        have HIN := Lib.hid (inC_of HMID.out.inn)
        go_wp2_with fail
        go_loopw [8] (fun i wz => ∃ q : Nat, q ≤ m ∧ i = .int .i64 (q : Int) ∧ Frm (fun b => (Value.slice A1 m c1).ownBlock = some b) w4 wz ∧ InC wz A1 m) (fun i _ => m - (intOf i).toNat)
        case atStart => exact ⟨0, by omega, rfl, Frm.refl _ _, HIN.out⟩
        case round =>
          obtain ⟨q, hq, rfl, hf, hin⟩ := hrel
          by_cases hqM : q < m
          · obtain ⟨gi, rfl, cur, hcb, hcx⟩ := hin (by omega)
            obtain ⟨x, hx⟩ := hcx q hqM
            have cx := (hcb.cell q).trans hx
            have fx := hcb.frozen q
            have hst : ∀ y : Int, Frm (fun b => (Value.slice (some ⟨gi, 0, none⟩) m c1).ownBlock = some b) w4 (wr.setCell ⟨gi, q, none⟩ (.int .u8 y)) ∧ InC (wr.setCell ⟨gi, q, none⟩ (.int .u8 y)) (some ⟨gi, 0, none⟩) m := fun y => ⟨hf.setCell (p := ⟨gi, q, none⟩) (fun _ => rfl) _, inC_set rfl hcb hcx⟩
            have HST := Lib.hid hst
            clear hst hf hin hcb hcx hx
            go_wp2_with fail
            go_roundw
            case rel => exact ⟨q + 1, by omega, by go_num, (HST.out _).1, (HST.out _).2⟩
            case measure => simp [intOf]; omega
          · have HM5 := Lib.hid (mid_frm HBE.out HMID.out hf)
            have HSEP := Lib.hid HMID.out.sep
            have HR5 := Lib.hid (HPR.out.below HM5.out.2.2 rfl)
            clear hf hin HMID HIN
            go_wp2_with (at_builtin; refine wpList_appAt tBytes rfl (.tmp 51) (.tmp 52) rfl B u4 all.length (octs all) rfl HM5.out.1 A m C (octs part) rfl (by rw [octs_length]; exact HPL.out.symm) HR5.out octs_one (by have := HLEN.out; omega) (by have := HLEN.out; unfold maxLen; omega) (by have h1 := HM5.out.2.2.size; have h2 := HBE.out; omega) ?_; intro v6 w6 o6 hg6 hb6 hl6; rw [octs_append] at o6; have HE := Lib.hid (end_of HBE.out HM5.out.2.1 HM5.out.1 HSEP.out HM5.out.2.2 hg6 hb6 hl6); obtain ⟨A6, c6, hv6, hc6⟩ := own_slice o6; subst hv6; have HO6 := Lib.hid o6; clear o6 hg6 hb6 hl6)
            refine (len_any HE.out.1).mono ?_
            rintro e w7 ⟨rfl, rfl⟩
            obtain ⟨NL, hNL⟩ : ∃ NL, all.length + m = NL := ⟨_, rfl⟩
            have hNL2 : (all ++ part).length = NL := by rw [List.length_append, HPL.out]; exact hNL
            have hNLb : NL ≤ 3000 * (k + 1) := by have := HLEN.out; omega
            have HALLO := Lib.hid (HOA.out.append HPO.out)
            obtain ⟨all', hall⟩ : ∃ all', all ++ part = all' := ⟨_, rfl⟩
            rw [hall] at hNL2 HE HO6 HALLO ⊢
            rw [hNL] at HO6 HE ⊢
            rw [hNL2]
            have HNL := Lib.hid hNL2
            have hNL9 : NL ≤ 90000 := by omega
            clear hNL hNL2 hall
            have heq := fun W => eq20_same (shaI all') (shaI_length all') (outL_oct _ _) W
            have hsum := fun (W : World) (hd : Dig B W B all' v') => sum_any B B all' v' W hd (by have := HNL.out; omega)
            have hof := fun (W : World) (hr : Rd W A6 (octs all')) => of_any all' A6 NL c6 W HNL.out.symm HALLO.out hr (by omega)
            generalize (octs (shaI all')).toArray = a at *
            have HSUM := Lib.hid hsum
            have HOF := Lib.hid hof
            clear hsum hof
            go_wp2_with fail
            refine (HSUM.out _ HE.out.1).mono ?_
            rintro e w8 ⟨rfl, hb8⟩
            have HB8 := Lib.hid hb8
            clear hb8
            go_wp2_with fail
            refine (HOF.out _ (Rd.of_own (own_below HO6.out HB8.out))).mono ?_
            rintro e w9 ⟨rfl, hb9⟩
            have HB9 := Lib.hid (ch0 HB8.out hb9)
            clear hb9
            go_wp2_with fail
            refine (HSUM.out _ (HE.out.1.below HB9.out)).mono ?_
            rintro e wa ⟨rfl, hba⟩
            have HBA := Lib.hid (ch0 HB9.out hba)
            clear hba
            go_wp2_with fail
            refine (HSUM.out _ (HE.out.1.below HBA.out)).mono ?_
            rintro e wb ⟨rfl, hbb⟩
            have HBB := Lib.hid (ch0 HBA.out hbb)
            clear hbb
            go_wp2_with fail
            go_roundw
            case rel => exact ⟨⟨k + 1, all', v', by go_num, by omega, by rw [HNL.out]; omega, HALLO.out, by rw [HNL.out]; exact own_below HO6.out HBB.out, HE.out.1.below HBB.out, HE.out.2.1⟩, HE.out.2.2.trans (HBB.out.mono HE.out.2.2.size)⟩
            case measure => simp [intOf]; omega
      · obtain rfl : m = 3000 := by omega
        have hL3I : (3000 : Int) < L := by omega
        go_wp2_with fail
        go_quiet (fail)
        go_wp2_with fail
        have hdq : Dig B (wr.drewN nq) B all vd := ⟨HDIG.out.ge, HDIG.out.oct, HDIG.out.blk, HDIG.out.own⟩
        have hoq : (wr.drewN nq).ownsRow B 5 1 u4 all.length (octs all) := HOWN.out
        have hbq : Below w.heap.size w (wr.drewN nq) := below_drewN HB.out nq
        generalize wr.drewN nq = wq at hdq hoq hbq ⊢
        have HDQ := Lib.hid hdq
        have HOQ := Lib.hid hoq
        have HBQ := Lib.hid hbq
        have HLT := Lib.hid hdq.blk.lt
        clear hdq hoq hbq
        refine (copyM 3000 part A C wq HPL.out (by omega) (HPR.out.below HBQ.out rfl)).mono ?_
        rintro e w3 ⟨⟨A1, c1, rfl, hc1, ho1⟩, hb3⟩
        have HO1 := Lib.hid ho1
        have HB3 := Lib.hid hb3
        have HD3 := Lib.hid (HDQ.out.below hb3)
        have hA1 : 0 < part.length → ∀ q, A1 = some q → q.block ≠ B := fun _ q hq => by
          have := (own_lt ho1 q.block (by
            rcases ho1.2 with ⟨h0, _⟩ | ⟨gg, cap, cur, hv, _⟩
            · injection h0 with h0; rw [h0] at hq; cases hq
            · injection hv with hv; rw [hv] at hq ⊢; injection hq with hq; rw [← hq]; rfl)).1
          have := HLT.out
          omega
        have HA1 := Lib.hid hA1
        clear ho1 hb3 hA1
        go_wp2_with fail
        refine (write_any B B all part vd A1 3000 c1 w3 HD3.out HPL.out.symm HPO.out (Rd.of_own HO1.out) HA1.out (by have := HLEN.out; omega)).mono ?_
        rintro e w4 ⟨rfl, ⟨v', hd4, hv4⟩, hf4⟩
        have HMID := Lib.hid (mid_of HBE.out HBQ.out HLT.out HOQ.out HDQ.out HNE.out HO1.out HB3.out hd4 hv4 hf4)
        clear hd4 hv4 hf4 HD3 HA1 HB3 HO1
        have HIN := Lib.hid (inC_of HMID.out.inn)
        go_wp2_with fail
        go_loopw [8] (fun i wz => ∃ q : Nat, q ≤ 3000 ∧ i = .int .i64 (q : Int) ∧ Frm (fun b => (Value.slice A1 3000 c1).ownBlock = some b) w4 wz ∧ InC wz A1 3000) (fun i _ => 3000 - (intOf i).toNat)
        case atStart => exact ⟨0, by omega, rfl, Frm.refl _ _, HIN.out⟩
        case round =>
          obtain ⟨q, hq, rfl, hf, hin⟩ := hrel
          by_cases hqM : q < 3000
          · obtain ⟨gi, rfl, cur, hcb, hcx⟩ := hin (by omega)
            obtain ⟨x, hx⟩ := hcx q hqM
            have cx := (hcb.cell q).trans hx
            have fx := hcb.frozen q
            have hst : ∀ y : Int, Frm (fun b => (Value.slice (some ⟨gi, 0, none⟩) 3000 c1).ownBlock = some b) w4 (wr.setCell ⟨gi, q, none⟩ (.int .u8 y)) ∧ InC (wr.setCell ⟨gi, q, none⟩ (.int .u8 y)) (some ⟨gi, 0, none⟩) 3000 := fun y => ⟨hf.setCell (p := ⟨gi, q, none⟩) (fun _ => rfl) _, inC_set rfl hcb hcx⟩
            have HST := Lib.hid hst
            clear hst hf hin hcb hcx hx
            go_wp2_with fail
            go_roundw
            case rel => exact ⟨q + 1, by omega, by go_num, (HST.out _).1, (HST.out _).2⟩
            case measure => simp [intOf]; omega
          · have HM5 := Lib.hid (mid_frm HBE.out HMID.out hf)
            have HSEP := Lib.hid HMID.out.sep
            have HR5 := Lib.hid (HPR.out.below HM5.out.2.2 rfl)
            clear hf hin HMID HIN
            go_wp2_with (at_builtin; refine wpList_appAt tBytes rfl (.tmp 51) (.tmp 52) rfl B u4 all.length (octs all) rfl HM5.out.1 A 3000 C (octs part) rfl (by rw [octs_length]; exact HPL.out.symm) HR5.out octs_one (by have := HLEN.out; omega) (by have := HLEN.out; unfold maxLen; omega) (by have h1 := HM5.out.2.2.size; have h2 := HBE.out; omega) ?_; intro v6 w6 o6 hg6 hb6 hl6; rw [octs_append] at o6; have HE := Lib.hid (end_of HBE.out HM5.out.2.1 HM5.out.1 HSEP.out HM5.out.2.2 hg6 hb6 hl6); obtain ⟨A6, c6, hv6, hc6⟩ := own_slice o6; subst hv6; have HO6 := Lib.hid o6; clear o6 hg6 hb6 hl6)
            refine (len_any HE.out.1).mono ?_
            rintro e w7 ⟨rfl, rfl⟩
            obtain ⟨NL, hNL⟩ : ∃ NL, all.length + 3000 = NL := ⟨_, rfl⟩
            have hNL2 : (all ++ part).length = NL := by rw [List.length_append, HPL.out]; exact hNL
            have hNLb : NL ≤ 3000 * (k + 1) := by have := HLEN.out; omega
            have HALLO := Lib.hid (HOA.out.append HPO.out)
            obtain ⟨all', hall⟩ : ∃ all', all ++ part = all' := ⟨_, rfl⟩
            rw [hall] at hNL2 HE HO6 HALLO ⊢
            rw [hNL] at HO6 HE ⊢
            rw [hNL2]
            have HNL := Lib.hid hNL2
            have hNL9 : NL ≤ 90000 := by omega
            clear hNL hNL2 hall
            have heq := fun W => eq20_same (shaI all') (shaI_length all') (outL_oct _ _) W
            have hsum := fun (W : World) (hd : Dig B W B all' v') => sum_any B B all' v' W hd (by have := HNL.out; omega)
            have hof := fun (W : World) (hr : Rd W A6 (octs all')) => of_any all' A6 NL c6 W HNL.out.symm HALLO.out hr (by omega)
            generalize (octs (shaI all')).toArray = a at *
            have HSUM := Lib.hid hsum
            have HOF := Lib.hid hof
            clear hsum hof
            go_wp2_with fail
            refine (HSUM.out _ HE.out.1).mono ?_
            rintro e w8 ⟨rfl, hb8⟩
            have HB8 := Lib.hid hb8
            clear hb8
            go_wp2_with fail
            refine (HOF.out _ (Rd.of_own (own_below HO6.out HB8.out))).mono ?_
            rintro e w9 ⟨rfl, hb9⟩
            have HB9 := Lib.hid (ch0 HB8.out hb9)
            clear hb9
            go_wp2_with fail
            refine (HSUM.out _ (HE.out.1.below HB9.out)).mono ?_
            rintro e wa ⟨rfl, hba⟩
            have HBA := Lib.hid (ch0 HB9.out hba)
            clear hba
            go_wp2_with fail
            refine (HSUM.out _ (HE.out.1.below HBA.out)).mono ?_
            rintro e wb ⟨rfl, hbb⟩
            have HBB := Lib.hid (ch0 HBA.out hbb)
            clear hbb
            go_wp2_with fail
            go_roundw
            case rel => exact ⟨⟨k + 1, all', v', by go_num, by omega, by rw [HNL.out]; omega, HALLO.out, by rw [HNL.out]; exact own_below HO6.out HBB.out, HE.out.1.below HBB.out, HE.out.2.1⟩, HE.out.2.2.trans (HBB.out.mono HE.out.2.2.size)⟩
            case measure => simp [intOf]; omega
    · have hfin : ∀ (W : World) (NL : Nat), True := fun _ _ => trivial
      obtain ⟨A6, c6, hva, hc6⟩ := own_slice hown
      subst hva
      obtain ⟨NL, hNL⟩ : ∃ NL, all.length = NL := ⟨_, rfl⟩
      have hNLb : NL ≤ 90000 := by omega
      have HNL := Lib.hid hNL
      rw [hNL] at hown ⊢
      have heq := fun W => eq20_same (shaI all) (shaI_length all) (outL_oct _ _) W
      have hsum := fun (W : World) (hd : Dig B W B all vd) => sum_any B B all vd W hd (by omega)
      have hof := fun (W : World) (hr : Rd W A6 (octs all)) => of_any all A6 NL c6 W hNL.symm hoa hr (by omega)
      generalize (octs (shaI all)).toArray = a at *
      have HSUM := Lib.hid hsum
      have HOF := Lib.hid hof
      have HO6 := Lib.hid hown
      have HDIG := Lib.hid hdig
      have HB := Lib.hid hb
      have HNC := Lib.hid hcond
      clear hsum hof hown hdig hb hcond hfin hNL hne hlen hoa
      by_cases hkn : k < n
      · have hk30' : ¬ k < 30 := fun h => HNC.out ⟨hkn, h⟩
        have e1 : (k : Int) < n := by omega
        have e2 : ¬ (k : Int) < 30 := by omega
        go_wp2_with fail
        refine (HSUM.out _ HDIG.out).mono ?_
        rintro e w8 ⟨rfl, hb8⟩
        have HB8 := Lib.hid hb8
        clear hb8
        go_wp2_with fail
        refine (HOF.out _ (Rd.of_own (own_below HO6.out HB8.out))).mono ?_
        rintro e w9 ⟨rfl, hb9⟩
        have HB9 := Lib.hid (ch0 HB8.out hb9)
        clear hb9
        go_wp2_with fail
        refine (awake_any _).mono ?_
        rintro e wa ⟨rfl, hba⟩
        have HBA := Lib.hid (ch0 HB9.out hba)
        clear hba
        go_wp2_with fail
        go_ret
        exact ⟨rfl, HB.out.trans (HBA.out.mono HB.out.size)⟩
      · have e1 : ¬ (k : Int) < n := by omega
        go_wp2_with fail
        refine (HSUM.out _ HDIG.out).mono ?_
        rintro e w8 ⟨rfl, hb8⟩
        have HB8 := Lib.hid hb8
        clear hb8
        go_wp2_with fail
        refine (HOF.out _ (Rd.of_own (own_below HO6.out HB8.out))).mono ?_
        rintro e w9 ⟨rfl, hb9⟩
        have HB9 := Lib.hid (ch0 HB8.out hb9)
        clear hb9
        go_wp2_with fail
        refine (awake_any _).mono ?_
        rintro e wa ⟨rfl, hba⟩
        have HBA := Lib.hid (ch0 HB9.out hba)
        clear hba
        go_wp2_with fail
        go_ret
        exact ⟨rfl, HB.out.trans (HBA.out.mono HB.out.size)⟩
end Go.Proofs.Ytgkgdbjdmmieaaa
