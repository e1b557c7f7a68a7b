/- OctetsOwn's walk: any bytes within the form's reach, any text of at most 500 bytes, any number: true; nothing that was there is written. -/
import Derived.Test.YtbmhfefbfocelaaAq
namespace Go.Proofs.Ytbmhfefbfocelaa
open Go.RowKit Go.WideShapes
set_option linter.unusedVariables false
set_option linter.unusedSimpArgs false
set_option maxHeartbeats 1000000 in
theorem addText_own (bs : List Int) (s : ByteArray) (A : Option Addr) (L c : Nat) (w : World) (hL : L = bs.length) (hr : Rd w A (octs bs)) (hc : L ≤ c) (hb : L ≤ 140737488351232) (hs : s.size ≤ 500) :
    Calls Try.prog 16 #[.slice A L c, .string s] w (IsPutE bs (beI s.size 2 ++ strI s) (L + 2 + s.size) w) := by
  have HL := Lib.hid hL
  have HR := Lib.hid hr
  clear hL hr
  have hsz : (s.size : Int) ≤ 65535 := by omega
  go_enter Try.func16, Try.ntmps16
  go_wp2_with fail
  refine (add16 bs s.size A L c w HL.out HR.out hc (by omega) (by omega) (by omega)).mono ?_
  rintro e w1 ⟨⟨A1, c1, rfl, hc1, hl1, hown1⟩, hb1⟩
  go_wp2_with (at_builtin; refine wpList_app_str tBytes 9 Try.underlying9 rfl (.tmp 14) (.tmp 15) rfl w.heap.size _ (L + 2) _ rfl hown1 s rfl (by unfold fineMost; omega) (by omega) hb1.size ?_; intro v2 w2 hown2 hb2)
  rw [strI_cells, show octs (bs ++ beI s.size 2) ++ octs (strI s) = octs (bs ++ (beI s.size 2 ++ strI s)) by simp [octs]] at hown2
  obtain ⟨A2, c2, rfl, hc2⟩ := own_slice hown2
  go_ret2
  exact ⟨⟨A2, c2, rfl, hc2, by have := hown2.1; rw [octs_length] at this; omega, hown2⟩, hb1.trans hb2⟩
/-- A list of its own, all of whose block is its own. -/
structure RowOK (w : World) (x : Lst) : Prop where
  n : x.n ≤ x.c
  c : x.c ≤ maxLen
  m : x.n ≤ 1125899906842624
  b : ∃ cur, Blk w x.g 5 cur ∧ cur.size = x.c
theorem RowOK.below {w w' : World} {x : Lst} (h : RowOK w x) (hb : Below w.heap.size w w') : RowOK w' x := ⟨h.n, h.c, h.m, by obtain ⟨cur, h1, h2⟩ := h.b; exact ⟨cur, h1.below hb, h2⟩⟩
theorem RowOK.lt {w : World} {x : Lst} (h : RowOK w x) : x.g < w.heap.size := by obtain ⟨cur, h1, _⟩ := h.b; exact h1.lt
structure NewRow (w0 : World) (v : Value) (w : World) (x : Lst) : Prop where
  val : v = x.val
  ok : RowOK w x
  lo : w0.heap.size ≤ x.g
theorem newRow_of {w0 w : World} {A : Option Addr} {M c : Nat} {xs : List Value} (hM : 0 < M) (hM2 : M ≤ 1125899906842624) (h : w.ownsRow w0.heap.size 5 1 (.slice A M c) M xs) : ∃ x, NewRow w0 (.slice A M c) w x := by
  rcases h.2 with ⟨_, hn⟩ | ⟨g, cap, cur, hv, hb, hg, hn, hm, hs, _⟩
  · omega
  · injection hv with h1 h2 h3
    subst h1
    subst h3
    exact ⟨⟨g, M, c⟩, rfl, ⟨hn, hm, hM2, cur, hg, by simpa using hs⟩, hb⟩
def six (a b c d e f : Lst) : List Lst := [a, b, c, d, e, f]
theorem rm_six {w : World} {a b c d e f : Lst} (ha : RowOK w a) (hb : RowOK w b) (hc : RowOK w c) (hd : RowOK w d) (he : RowOK w e) (hf : RowOK w f) (h1 : e.g < f.g) (h2 : f.g < a.g) (h3 : a.g < b.g) (h4 : b.g < c.g) (h5 : c.g < d.g) : Rm w (six a b c d e f) := by
  have hall : ∀ (k : Nat) (x : Lst), (six a b c d e f)[k]? = some x → RowOK w x ∧ x.g = [a.g, b.g, c.g, d.g, e.g, f.g].getD k 0 ∧ k < 6 := fun k x hx => by
    unfold six at hx
    rcases k with _ | _ | _ | _ | _ | _ | k <;> simp at hx <;> subst hx <;> (refine ⟨?_, rfl, by omega⟩; assumption)
  refine ⟨fun k x hx => ?_, fun i j x y hx hy e => ?_⟩
  · have := (hall k x hx).1
    exact ⟨this.n, this.c, this.m, this.b⟩
  · obtain ⟨_, e1, l1⟩ := hall i x hx
    obtain ⟨_, e2, l2⟩ := hall j y hy
    rw [e1, e2] at e
    clear e1 e2 hx hy hall
    rcases i with _ | _ | _ | _ | _ | _ | i <;> rcases j with _ | _ | _ | _ | _ | _ | j <;> simp at e <;> omega
theorem six_in {a b c d e f : Lst} {k : Nat} (h : inL (six a b c d e f) k) : k = a.g ∨ k = b.g ∨ k = c.g ∨ k = d.g ∨ k = e.g ∨ k = f.g := by
  obtain ⟨i, x, hx, rfl⟩ := h
  unfold six at hx
  rcases i with _ | _ | _ | _ | _ | _ | i <;> simp at hx <;> subst hx <;> simp
set_option maxRecDepth 100000 in
set_option maxHeartbeats 8000000 in
theorem own_law1 (bs : List Int) (A : Option Addr) (L c : Nat) (s : ByteArray) (v : Int) (w : World) (hL : L = bs.length) (ho : Oct bs) (hr : Rd w A (octs bs)) (h2 : L ≤ c) (hm : c ≤ maxLen) (hb : L ≤ 140737488351232) (hs : s.size ≤ maxLen)
    (v0 : 0 ≤ v) (v1 : v ≤ 18446744073709551615) :
    Calls Try.prog 9 #[.slice A L c, .string s, .int .u64 v] w fun e w' => e = .returned (.bool true) ∧ Below w.heap.size w w' := by
  have HL := Lib.hid hL
  have HM := Lib.hid hm
  have HR := Lib.hid hr
  have HO := Lib.hid ho
  clear hL hm hr ho
  unfold maxLen at hs
  by_cases hs5 : 500 < s.size
  · have g1 : decide ((500 : Int) < (s.size : Int)) = true := by simp; omega
    go_enter Try.func9, Try.ntmps9
    go_wp2_with (go_at_call 10; refine (awake_any _).mono ?_; rintro e w11 ⟨rfl, hb11⟩)
    go_ret
    exact ⟨rfl, hb11⟩
  · have g1 : decide ((500 : Int) < (s.size : Int)) = false := by simp; omega
    go_enter Try.func9, Try.ntmps9
    go_wp2_with fail
    have hlb := lentBytes_any bs A c w HR.out (by rw [← HL.out]; exact hb)
    rw [← HL.out] at hlb
    refine hlb.mono ?_
    clear hlb
    rintro e w1 ⟨⟨A1, c1, rfl, hle⟩, hb1⟩
    rw [← HL.out]
    have hc1 : L ≤ c1 := by have := hle.cap; have := HL.out; omega
    have LE := Lib.hid hle
    have R1 := Lib.hid (HR.out.below hb1 rfl)
    have K1 := Lib.hid hb1
    clear hle hb1
    go_wp2_with fail
    refine (addText_own bs s A1 L c1 _ HL.out LE.out.rd hc1 hb (by omega)).mono ?_
    rintro e w2 ⟨⟨A2, c2, rfl, _, _, o2⟩, hb2⟩
    obtain ⟨xp, hxp⟩ := newRow_of (by omega) (by omega) o2
    have hvp := hxp.val
    unfold Lst.val at hvp
    rw [hvp]
    have XP2 := Lib.hid hxp
    have R2 := Lib.hid (R1.out.below hb2 rfl)
    have LE2 := Lib.hid (LE.out.below hb2)
    have K2 := Lib.hid hb2
    clear hvp hxp hb2 o2
    go_wp2_with fail
    refine (addText_own bs ⟨#[]⟩ A1 L c1 _ HL.out LE2.out.rd hc1 hb (by decide)).mono ?_
    rintro e w3 ⟨⟨A3, c3, rfl, _, _, o3⟩, hb3⟩
    obtain ⟨xq, hxq⟩ := newRow_of (by omega) (by show L + 2 + 0 ≤ _; omega) o3
    have hvq := hxq.val
    unfold Lst.val at hvq
    rw [hvq]
    have XQ3 := Lib.hid hxq
    have R3 := Lib.hid (R2.out.below hb3 rfl)
    have LE3 := Lib.hid (LE2.out.below hb3)
    have K3 := Lib.hid hb3
    clear hvq hxq hb3 o3
    go_wp2_with fail
    refine (add8 bs (v % 256) A1 L c1 _ HL.out LE3.out.rd hc1 (by omega) (by omega) (by omega)).mono ?_
    rintro e w4 ⟨⟨A4, c4, rfl, _, _, o4⟩, hb4⟩
    obtain ⟨xa, hxa⟩ := newRow_of (by omega) (by omega) o4
    have hva := hxa.val
    unfold Lst.val at hva
    rw [hva]
    have XA4 := Lib.hid hxa
    have R4 := Lib.hid (R3.out.below hb4 rfl)
    have LE4 := Lib.hid (LE3.out.below hb4)
    have K4 := Lib.hid hb4
    clear hva hxa hb4 o4
    go_wp2_with fail
    refine (add16 bs (v % 65536) A1 L c1 _ HL.out LE4.out.rd hc1 (by omega) (by omega) (by omega)).mono ?_
    rintro e w5 ⟨⟨A5, c5, rfl, _, _, o5⟩, hb5⟩
    obtain ⟨xb, hxb⟩ := newRow_of (by omega) (by omega) o5
    have hvb := hxb.val
    unfold Lst.val at hvb
    rw [hvb]
    have XB5 := Lib.hid hxb
    have R5 := Lib.hid (R4.out.below hb5 rfl)
    have LE5 := Lib.hid (LE4.out.below hb5)
    have K5 := Lib.hid hb5
    clear hvb hxb hb5 o5
    go_wp2_with fail
    refine (add32 bs (v % 4294967296) A1 L c1 _ HL.out LE5.out.rd hc1 (by omega) (by omega) (by omega)).mono ?_
    rintro e w6 ⟨⟨A6, c6, rfl, _, _, o6⟩, hb6⟩
    obtain ⟨xc, hxc⟩ := newRow_of (by omega) (by omega) o6
    have hvc := hxc.val
    unfold Lst.val at hvc
    rw [hvc]
    have XC6 := Lib.hid hxc
    have R6 := Lib.hid (R5.out.below hb6 rfl)
    have LE6 := Lib.hid (LE5.out.below hb6)
    have K6 := Lib.hid hb6
    clear hvc hxc hb6 o6
    go_wp2_with fail
    refine (add64 bs v A1 L c1 _ HL.out LE6.out.rd hc1 (by omega) (by omega) (by omega)).mono ?_
    rintro e w7 ⟨⟨A7, c7, rfl, _, _, o7⟩, hb7⟩
    obtain ⟨xd, hxd⟩ := newRow_of (by omega) (by omega) o7
    have hvd := hxd.val
    unfold Lst.val at hvd
    rw [hvd]
    have XD7 := Lib.hid hxd
    have R7 := Lib.hid (R6.out.below hb7 rfl)
    have LE7 := Lib.hid (LE6.out.below hb7)
    have K7 := Lib.hid hb7
    clear hvd hxd hb7 o7
    go_wp2_with fail
    have okp := ((((XP2.out.ok.below K3.out).below K4.out).below K5.out).below K6.out).below K7.out
    have okq := (((XQ3.out.ok.below K4.out).below K5.out).below K6.out).below K7.out
    have oka := ((XA4.out.ok.below K5.out).below K6.out).below K7.out
    have okb := (XB5.out.ok.below K6.out).below K7.out
    have okc := XC6.out.ok.below K7.out
    have okd := XD7.out.ok
    have hrm := rm_six oka okb okc okd okp okq (Nat.lt_of_lt_of_le XP2.out.ok.lt XQ3.out.lo) (Nat.lt_of_lt_of_le XQ3.out.ok.lt XA4.out.lo) (Nat.lt_of_lt_of_le XA4.out.ok.lt XB5.out.lo) (Nat.lt_of_lt_of_le XB5.out.ok.lt XC6.out.lo) (Nat.lt_of_lt_of_le XC6.out.ok.lt XD7.out.lo)
    have h12 := K2.out.size
    have h23 := K3.out.size
    have h34 := K4.out.size
    have h45 := K5.out.size
    have h56 := K6.out.size
    have h67 := K7.out.size
    have hlo : ∀ k, inL (six xa xb xc xd xp xq) k → w1.heap.size ≤ k ∧ k < w7.heap.size := fun k hk => by
      have l1 := XP2.out.lo
      have l2 := XQ3.out.lo
      have l3 := XA4.out.lo
      have l4 := XB5.out.lo
      have l5 := XC6.out.lo
      have l6 := XD7.out.lo
      have u1 := okp.lt
      have u2 := okq.lt
      have u3 := oka.lt
      have u4 := okb.lt
      have u5 := okc.lt
      have u6 := okd.lt
      rcases six_in hk with e | e | e | e | e | e <;> omega
    have HLO := Lib.hid hlo
    have HRM := Lib.hid hrm
    have KW := Lib.hid (ch0 (ch0 (ch0 (ch0 (ch0 (ch0 K1.out K2.out) K3.out) K4.out) K5.out) K6.out) K7.out)
    have HAB : Hid (∃ g, A1 = some ⟨g, 0, none⟩ ∧ g < w1.heap.size) := by
      have h := own_some LE.out.own (by omega)
      obtain ⟨g, cap, cur, hv, _, hg, _⟩ := h
      injection hv with h1
      exact Lib.hid ⟨g, h1, (Array.getElem?_eq_some_iff.1 hg).1⟩
    clear okp okq oka okb okc okd hrm hlo h12 h23 h34 h45 h56 h67 XP2 XQ3 XA4 XB5 XC6 XD7 R1 R2 R3 R4 R5 R6 R7 LE LE2 LE3 LE4 LE5 LE6 K2 K3 K4 K5 K6 K7
    obtain ⟨w8, hw8⟩ : ∃ W, W = w7.alloc (.cells #[xa.val, xb.val, xc.val, xd.val, xp.val, xq.val] 22) := ⟨_, rfl⟩
    have hbl : Below w7.heap.size w7 w8 := hw8 ▸ (Below.refl _ _).alloc (Nat.le_refl _) _
    have hrow : w8.heap[w7.heap.size]? = some (.cells #[xa.val, xb.val, xc.val, xd.val, xp.val, xq.val] 22 (0, 0)) := hw8 ▸ heap_alloc_new _ _
    have hgl : w7.heap.size < w8.heap.size := (Array.getElem?_eq_some_iff.1 hrow).1
    have hcall := apart_any (six xa xb xc xd xp xq) w7.heap.size 6 6 w8 rfl (by omega) hgl (fun h => by have := (HLO.out _ h).2; omega) (HRM.out.below hbl)
      (fun k x hx => by
        unfold six at hx
        rw [cell_of_row _ _ _ _ _ _ hrow]
        rcases k with _ | _ | _ | _ | _ | _ | k <;> simp at hx <;> subst hx <;> rfl)
    unfold Lst.val at hw8
    rw [← hw8]
    refine hcall.mono ?_
    rintro e w9 ⟨rfl, hf9⟩
    have k9 : Below w.heap.size w w9 := (ch0 KW.out hbl).trans (hf9.to_below (by have := KW.out.size; omega) (fun k hk => by have := (HLO.out k hk).1; have := K1.out.size; omega))
    have l9 : Lent w.heap.size bs A1 c1 w9 := ⟨LE7.out.cap, hf9.own (LE7.out.below hbl).own (fun k hk hs => by
      obtain ⟨g, rfl, hg⟩ := HAB.out
      simp [Value.ownBlock] at hk
      subst hk
      have := (HLO.out _ hs).1
      omega)⟩
    have R9 := Lib.hid (HR.out.below k9 rfl)
    have L9 := Lib.hid l9
    have K9 := Lib.hid k9
    clear hcall hw8 hbl hrow hgl hf9 k9 l9 LE7 KW HLO HRM HAB
    go_wp2_with fail
    have hk := kept_any w.heap.size bs A1 A c1 c w9 L9.out R9.out (by rw [← HL.out]; exact hb) L9.out.capm
    rw [← HL.out] at hk
    refine hk.mono ?_
    clear hk
    rintro e w10 ⟨rfl, hb10⟩
    go_wp2_with (go_at_call 10; refine (awake_any _).mono ?_; rintro e w11 ⟨rfl, hb11⟩)
    go_ret
    exact ⟨rfl, ch0 (ch0 K9.out hb10) hb11⟩
theorem own_law (bs : List Int) (A : Option Addr) (c : Nat) (s : ByteArray) (v : Int) (w : World) (ho : Oct bs) (hr : Rd w A (octs bs)) (h2 : bs.length ≤ c) (hm : c ≤ maxLen) (hb : bs.length ≤ 140737488351232) (hs : s.size ≤ maxLen) (hv : (Lit.int .u64 v).wf = true) :
    Calls Try.prog 9 #[.slice A bs.length c, .string s, .int .u64 v] w fun e w' => e = .returned (.bool true) ∧ Below w.heap.size w w' :=
  own_law1 bs A _ c s v w rfl ho hr h2 hm hb hs (wf_u64 hv).1 (wf_u64 hv).2
end Go.Proofs.Ytbmhfefbfocelaa
