/- The table: what it says, how it lies in memory; New, none, Len, Files: walks. -/
import Derived.Test.YtlhhkmpidnegcaaVeWr
namespace Go.Proofs.Ytlhhkmpidnegcaa
open Go.RowKit Go.WideShapes
set_option linter.unusedVariables false
set_option linter.unusedSimpArgs false
structure Tab where
  bl : Int
  ps : List Pc
  vs : List (List (ByteArray × List Int))
/-- The versions' cells. -/
structure VsR (B : Nat) (w : World) (xs : List Value) (vs : List (List (ByteArray × List Int))) : Prop where
  at_ : ∀ (i : Nat) (ds : List (ByteArray × List Int)), vs[i]? = some ds → ∃ (A : Option Addr) (n c : Nat) (fs : List Fl), xs[i]? = some (.slice A n c) ∧ fs.length = n ∧ fs.map Fl.dat = ds ∧ OwnF B w (.slice A n c) fs ∧ n ≤ 200 ∧ (∀ f ∈ fs, f.n ≤ 131072) ∧ (A = none → n = 0 ∧ c = 0)
structure Tb (B : Nat) (w : World) (gt gi mb nst : Nat) (T : Tab) (v V : Value) (xs : List Value) : Prop where
  ge : B ≤ gt
  blk : Blk w gt 46 #[.pointer (some ⟨gi, 0, none⟩), .int .i64 T.bl, V]
  idx : Idx B w gi mb nst T.ps v
  rt : ∀ p ∈ T.ps, rightP p.s p.b p.a = true
  nd : (T.ps.map Pc.h).Nodup
  lm : T.ps.length ≤ 8192
  b0 : 0 ≤ T.bl
  b1 : T.bl ≤ 1048576
  vl : T.vs.length ≤ 100
  row : w.ownsRow B 27 1 V T.vs.length xs
  vs : VsR B w xs T.vs
theorem VsR.frm {S : Nat → Prop} {B : Nat} {w w' : World} {xs : List Value} {vs : List (List (ByteArray × List Int))} (h : VsR B w xs vs) (hf : Frm S w w') (hS : ∀ k, S k → Foreign w k) : VsR B w' xs vs :=
  ⟨fun i ds hi => by
    obtain ⟨A, n, c, fs, h1, h2, h3, h4, h5⟩ := h.at_ i ds hi
    exact ⟨A, n, c, fs, h1, h2, h3, h4.frm hf hS, h5⟩⟩
theorem VsR.below {B : Nat} {w w' : World} {xs : List Value} {vs : List (List (ByteArray × List Int))} (h : VsR B w xs vs) (hb : Below w.heap.size w w') : VsR B w' xs vs := h.frm (Frm.of_below (S := fun _ => False) hb) fun _ h => h.elim
section
variable {B gt gi mb nst : Nat} {T : Tab} {v V : Value} {xs : List Value} {w w' : World}
theorem Tb.below (h : Tb B w gt gi mb nst T v V xs) (hb : Below w.heap.size w w') : Tb B w' gt gi mb nst T v V xs :=
  ⟨h.ge, h.blk.below hb, h.idx.below hb, h.rt, h.nd, h.lm, h.b0, h.b1, h.vl, own_below h.row hb, h.vs.below hb⟩
theorem Tb.lt (h : Tb B w gt gi mb nst T v V xs) : gt < w.heap.size := h.blk.lt
theorem none33 {b2 b3 : Value} (w : World) (hb : Blk w gt 46 #[.pointer (some ⟨gi, 0, none⟩), b2, b3]) : Calls Try.prog 33 #[.pointer (some ⟨gt, 0, none⟩)] w (Same (.bool false) w) := by
  have c0 := hb.cell 0
  simp at c0
  clear hb
  go_enter Try.func33, Try.ntmps33
  go_wp2
  go_ret
  exact ⟨rfl, rfl⟩
theorem none33_nil (w : World) : Calls Try.prog 33 #[.pointer none] w (Same (.bool true) w) := by
  go_enter Try.func33, Try.ntmps33
  go_wp2
  go_ret
  exact ⟨rfl, rfl⟩
theorem none33_zero {b2 b3 : Value} (w : World) (hb : Blk w gt 46 #[.pointer none, b2, b3]) : Calls Try.prog 33 #[.pointer (some ⟨gt, 0, none⟩)] w (Same (.bool true) w) := by
  have c0 := hb.cell 0
  simp at c0
  clear hb
  go_enter Try.func33, Try.ntmps33
  go_wp2
  go_ret
  exact ⟨rfl, rfl⟩
theorem len9 {A : Option Addr} {n c : Nat} {b2 : Value} (w : World) (hb : Blk w gt 46 #[.pointer (some ⟨gi, 0, none⟩), b2, .slice A n c]) : Calls Try.prog 9 #[.pointer (some ⟨gt, 0, none⟩)] w (Same (.int .i64 n) w) := by
  have hn := none33 w hb
  have c2 := hb.cell 2
  simp at c2
  have HN := Lib.hid hn
  clear hb hn
  go_enter Try.func9, Try.ntmps9
  go_wp2_with fail
  refine (HN.out).mono ?_
  rintro e w1 ⟨rfl, rfl⟩
  go_wp2
  go_ret
  exact ⟨rfl, rfl⟩
structure NewTb (w0 : World) (e : Ending) (w : World) : Prop where
  ex : ∃ gt gi mb, e = .returned (.pointer (some ⟨gt, 0, none⟩)) ∧ Tb w0.heap.size w gt gi mb 0 ⟨0, [], []⟩ (.slice none 0 0) (.slice none 0 0) []
  low : Below w0.heap.size w0 w
theorem newT_any (w : World) : Calls Try.prog 6 #[] w (NewTb w) := by
  have hx := newIx_any w
  have HX := Lib.hid hx
  clear hx
  go_enter Try.func6, Try.ntmps6
  go_wp2_with fail
  refine (HX.out).mono ?_
  rintro e w1 ⟨⟨gi, mb, rfl, hi, hg⟩, hb⟩
  have HI := Lib.hid hi
  have HB := Lib.hid hb
  clear hi hb hg
  go_wp2
  go_ret
  have hb2 := (Below.refl w1.heap.size w1).alloc (Nat.le_refl _) (.cells #[.pointer (some ⟨gi, 0, none⟩), .int .i64 0, .slice none 0 0] 46)
  exact ⟨⟨_, gi, mb, rfl, ⟨HB.out.size, Blk.new w1 46 _, HI.out.below hb2, (fun p hp => by cases hp), by simp, by simp, (by show (0 : Int) ≤ 0; omega), (by show (0 : Int) ≤ 1048576; omega), by simp, ⟨rfl, .inl ⟨rfl, rfl⟩⟩, ⟨fun i ds h => by simp at h⟩⟩⟩, HB.out.trans (hb2.mono HB.out.size)⟩
/-- What Files tells. -/
structure FilesE (T : Tab) (x : Int) (w0 : World) (e : Ending) (w : World) : Prop where
  low : Below w0.heap.size w0 w
  no : (x < 1 ∨ (T.vs.length : Int) < x) → e = .returned (.tuple #[.slice none 0 0, .int .i64 17])
  yes : ∀ (k : Nat) (ds : List (ByteArray × List Int)), x = (k : Int) + 1 → T.vs[k]? = some ds → ∃ A n c fs', e = .returned (.tuple #[.slice A n c, .int .i64 0]) ∧ n ≤ c ∧ fs'.length = n ∧ fs'.map Fl.dat = ds ∧ OwnF w0.heap.size w (.slice A n c) fs' ∧ n ≤ 200
theorem files_no (x : Int) (w : World) (h : Tb B w gt gi mb nst T v V xs) (hx : x < 1 ∨ (T.vs.length : Int) < x) : Calls Try.prog 10 #[.pointer (some ⟨gt, 0, none⟩), .int .i64 x] w (Same (.tuple #[.slice none 0 0, .int .i64 17]) w) := by
  have hn := none33 w h.blk
  obtain ⟨A, c, rfl, hc⟩ := own_slice h.row
  have c2 := h.blk.cell 2
  simp at c2
  have HN := Lib.hid hn
  generalize T.vs.length = L at *
  clear h hn
  by_cases h1 : x < 1
  · have e1 : decide (x < 1) = true := decide_eq_true h1
    clear hx
    go_enter Try.func10, Try.ntmps10
    go_wp2_with fail
    refine (HN.out).mono ?_
    rintro e w1 ⟨rfl, rfl⟩
    go_wp2
    go_ret2
    exact ⟨rfl, rfl⟩
  · have e1 : decide (x < 1) = false := decide_eq_false h1
    have h2 : (L : Int) < x := by omega
    clear hx
    go_enter Try.func10, Try.ntmps10
    go_wp2_with fail
    refine (HN.out).mono ?_
    rintro e w1 ⟨rfl, rfl⟩
    go_wp2
    go_ret2
    exact ⟨rfl, rfl⟩
structure Files1 (ds : List (ByteArray × List Int)) (w0 : World) (e : Ending) (w : World) : Prop where
  ex : ∃ A n c fs', e = .returned (.tuple #[.slice A n c, .int .i64 0]) ∧ n ≤ c ∧ fs'.length = n ∧ fs'.map Fl.dat = ds ∧ OwnF w0.heap.size w (.slice A n c) fs' ∧ n ≤ 200
  low : Below w0.heap.size w0 w
theorem files_yes (k : Nat) (ds : List (ByteArray × List Int)) (w : World) (h : Tb B w gt gi mb nst T v V xs) (hk : T.vs[k]? = some ds) : Calls Try.prog 10 #[.pointer (some ⟨gt, 0, none⟩), .int .i64 ((k : Int) + 1)] w (Files1 ds w) := by
  have hn := none33 w h.blk
  have hkl : k < T.vs.length := (List.getElem?_eq_some_iff.1 hk).1
  have hvl := h.vl
  obtain ⟨A, n, c, fs, hx, hfl, hfd, hfo, hn2, hf2, hnil⟩ := h.vs.at_ k ds hk
  have hrd : RdF w A fs := hfo.rd hfl
  have hcp := copied_any fs A n c w hfl hrd hnil (by omega) (fun f hf => by have := hf2 f hf; omega)
  obtain ⟨VA, Vc, rfl, hc⟩ := own_slice h.row
  have c2 := h.blk.cell 2
  simp at c2
  have hrow := Rd.of_own h.row
  obtain ⟨b1, o1, rfl, _, hc1⟩ := hrow.at hx
  have HN := Lib.hid hn
  have HCP := Lib.hid hcp
  have HFD := Lib.hid hfd
  generalize T.vs.length = L at *
  have e1 : decide ((k : Int) + 1 < 1) = false := by simp; omega
  have e2 : decide ((L : Int) < (k : Int) + 1) = false := by simp; omega
  have e3 : wrap64 ((k : Int) + 1 - 1) = (k : Int) := by unfold wrap64; omega
  have e4 : (k : Int) + 1 - 1 = (k : Int) := by omega
  have hkI : (k : Int) < L := by omega
  clear h hn hcp hfd hrow hrd hfo hx hk hf2 hnil
  go_enter Try.func10, Try.ntmps10
  go_wp2_with fail
  refine (HN.out).mono ?_
  rintro e w1 ⟨rfl, rfl⟩
  go_wp2_with fail
  refine (HCP.out).mono ?_
  rintro e w1 ⟨⟨A1, c1, fs', rfl, hc1, hl1, hd1, ho1⟩, hb1⟩
  have HD1 := Lib.hid hd1
  have HL1 := Lib.hid hl1
  have HO1 := Lib.hid ho1
  clear hd1 hl1 ho1
  go_wp2
  go_ret2
  exact ⟨⟨A1, n, c1, fs', rfl, hc1, HL1.out, by rw [HD1.out, HFD.out], HO1.out, hn2⟩, hb1⟩
end
end Go.Proofs.Ytlhhkmpidnegcaa
