/- The reference's Cuts: where fragments end, byte by byte, for every row of at most 1000000 bytes. -/
import Derived.Test.YtjcaahilgobfhaaCutAll
namespace Go.Proofs.Ytjcaahilgobfhaa
open Go.RowKit Go.WideShapes
def encB (l : List Int) : Array Value := (l.map (Value.int .u8)).toArray
/-- Block g is a table of the bytes l. -/
def Tab (w : World) (g : Nat) (e : TypeId) (l : List Int) : Prop := w.heap[g]? = some (.cells (encB l) e (0, 0))
theorem Tab.lt {w : World} {g : Nat} {e : TypeId} {l : List Int} (h : Tab w g e l) : g < w.heap.size := (Array.getElem?_eq_some_iff.1 h).1
theorem Tab.cell {w : World} {g : Nat} {e : TypeId} {l : List Int} (h : Tab w g e l) (i : Nat) (hi : i < l.length) : w.cell? ⟨g, i, none⟩ = some (.int .u8 (l.getD i 0)) := by
  rw [cell_of_row _ _ _ _ _ _ h]
  unfold encB
  rw [List.getElem?_toArray, List.getElem?_map, List.getElem?_eq_getElem hi, List.getD_eq_getElem?_getD, List.getElem?_eq_getElem hi]
  rfl
theorem Tab.free {w : World} {g : Nat} {e : TypeId} {l : List Int} (h : Tab w g e l) (i : Nat) : w.frozen? ⟨g, i, none⟩ = false := frozen_of_row _ _ _ _ _ h
theorem Tab.set_ {w : World} {g : Nat} {e : TypeId} {l : List Int} (h : Tab w g e l) (i : Nat) (c : Int) : Tab (w.setCell ⟨g, i, none⟩ (.int .u8 c)) g e (l.set i c) := by
  unfold Tab
  rw [heap_setCell_same _ _ _ _ _ _ h]
  congr 2
  unfold encB
  rw [List.map_set, List.setIfInBounds_toArray]
theorem Tab.below {w w' : World} {g : Nat} {e : TypeId} {l : List Int} (h : Tab w g e l) (hb : Below w.heap.size w w') : Tab w' g e l := (hb.block g h.lt).trans h
theorem Tab.new (w : World) (e : TypeId) : Tab (w.alloc (.cells zeros256 e)) w.heap.size e noGuess := heap_alloc_new w _
theorem own_ne {w : World} {g : Nat} {e e' : TypeId} {l : List Int} {base n : Nat} {v : Value} {xs : List Value} (h : Tab w g e l) (ho : w.ownsRow base e' 1 v n xs) (hne : e' ≠ e) : v.ownBlock ≠ some g := by
  rcases ho.2 with ⟨rfl, _⟩ | ⟨g', cap, cur, rfl, _, hh, _⟩
  · simp [Value.ownBlock]
  · intro he
    have : g' = g := by simpa [Value.ownBlock] using he
    subst this
    unfold Tab at h
    rw [hh] at h
    injection h with h
    injection h with _ ht
    exact hne ht
theorem own_set {w : World} {g : Nat} {base e n i : Nat} {v u : Value} {xs : List Value} (ho : w.ownsRow base e 1 v n xs) (hne : v.ownBlock ≠ some g) : (w.setCell ⟨g, i, none⟩ u).ownsRow base e 1 v n xs :=
  ho.kept (row := some g) ⟨rfl, rfl, rfl, by simp [World.setCell], fun k _ hk => Below.heap_setCell w _ u k (fun e => hk (by rw [e]))⟩ (.inr hne)
structure RefRel (bs : List Int) (w0 : World) (v t u x y i : Value) (w : World) : Prop where
  ex : ∃ (k n g : Nat) (l : List Nat), i = .int .i64 ((k : Int) + n) ∧ y = .int .i64 n ∧ k + n ≤ bs.length ∧ n < 4096 ∧ (n = 0 ∨ k + n < bs.length) ∧ l.length ≤ k ∧ CutTo bs k l ∧ w.ownsRow w0.heap.size 3 1 v l.length (ints l) ∧
    t = .slice (some ⟨g, 0, none⟩) 256 256 ∧ w0.heap.size ≤ g ∧ u = .int .u64 (scanS (bs.drop k) n).s ∧ x = .int .u8 (scanS (bs.drop k) n).a ∧ Tab w g 5 (scanS (bs.drop k) n).g ∧ ∀ j, 0 < j → j ≤ n → ¬ lowAt (bs.drop k) j
  low : Below w0.heap.size w0 w
theorem ref_stop {bs : List Int} {w w2 : World} {k n : Nat} {l : List Nat} {v2 : Value} (hlt : k + n < bs.length) (hn : n < 4096) (hlk : l.length ≤ k) (hC : CutTo bs k l) (hno : ∀ j, 0 < j → j ≤ n → ¬ lowAt (bs.drop k) j)
    (hst : k + n + 1 = bs.length ∨ n + 1 = 4096 ∨ lowAt (bs.drop k) (n + 1)) (hown : w2.ownsRow w.heap.size 3 1 v2 (l.length + 1) (ints l ++ [.int .i64 ((k : Int) + n + 1)])) (hb : Below w.heap.size w w2) :
    RefRel bs w v2 (.slice (some ⟨w2.heap.size, 0, none⟩) 256 256) (.int .u64 0) (.int .u8 0) (.int .i64 0) (.int .i64 ((k : Int) + n + 1)) (w2.alloc (.cells zeros256 5)) := by
  have hN : IsNext (bs.drop k) (n + 1) := ⟨by rw [List.length_drop]; omega, by omega, fun _ => by omega, fun j h0 hj => hno j h0 (by omega), by
    rw [List.length_drop]
    rcases hst with h | h | h
    · left; omega
    · right; left; exact h
    · right; right; exact h⟩
  have hC2 := hC.next (by omega) hN
  rw [show k + (n + 1) = k + n + 1 from rfl] at hC2
  exact ⟨⟨k + n + 1, 0, w2.heap.size, l ++ [k + n + 1], by simp, rfl, by omega, by omega, .inl rfl, by simp; omega, hC2, by rw [ints_snoc, List.length_append]; simpa using hown.alloc _, rfl, hb.size, rfl, rfl, Tab.new w2 5, fun j h0 h1 => by omega⟩, hb.alloc hb.size _⟩
theorem ref_go {bs : List Int} {w w2 : World} {k n g : Nat} {l : List Nat} {v : Value} {x : CS} {s' cell : Int} (hlt : k + n < bs.length) (hlk : l.length ≤ k) (hC : CutTo bs k l) (hno : ∀ j, 0 < j → j ≤ n → ¬ lowAt (bs.drop k) j)
    (h1 : ¬ k + n + 1 = bs.length) (h2 : ¬ n + 1 = 4096) (hn : n < 4096) (h3 : ¬ lowAt (bs.drop k) (n + 1)) (hs : scanS (bs.drop k) (n + 1) = x) (e1 : s' = x.s) (e2 : cell = x.a)
    (hown : w2.ownsRow w.heap.size 3 1 v l.length (ints l)) (hg : w.heap.size ≤ g) (ht : Tab w2 g 5 x.g) (hb : Below w.heap.size w w2) :
    RefRel bs w v (.slice (some ⟨g, 0, none⟩) 256 256) (.int .u64 s') (.int .u8 cell) (.int .i64 ((n : Int) + 1)) (.int .i64 ((k : Int) + n + 1)) w2 :=
  ⟨⟨k, n + 1, g, l, by simp; omega, by simp, by omega, by omega, .inr (by omega), hlk, hC, hown, rfl, hg, by rw [hs, e1], by rw [hs, e2], by rw [hs]; exact ht, fun j h0 hj => by
    by_cases e : j = n + 1
    · rw [e]; exact h3
    · exact hno j h0 (by omega)⟩, hb⟩
set_option maxRecDepth 100000 in
set_option maxHeartbeats 8000000 in
theorem refCuts_any (bs : List Int) (A : Option Addr) (c : Nat) (w : World) (ho : Oct bs) (hr : Rd w A (bs.map (.int .u8))) (hm : bs.length ≤ 1000000) :
    Calls Try.prog 13 #[.slice A bs.length c] w (IsCuts bs w) := by
  have HR := Lib.hid hr
  have HO := Lib.hid ho
  clear hr ho
  have hmk : ∀ w : World, (Instr.makeSlice 22 (.int .i64 256) (.int .i64 256)).run Try.prog w = .ok (.slice (some ⟨w.heap.size, 0, none⟩) 256 256) (w.alloc (.cells zeros256 5)) := fun _ => by kernel_rfl
  go_enter Try.func13, Try.ntmps13
  go_wp2_with fail
  go_loopw [3, 4, 5, 6, 7, 8] (fun v t u x y i wr => RefRel bs w v t u x y i wr) (fun _ _ _ _ _ i _ => bs.length - (intOf i).toNat)
  case atStart => exact ⟨⟨0, 0, w.heap.size, [], rfl, rfl, by omega, by omega, .inl rfl, by simp, CutTo.start bs, World.ownsRow_nil _ w.heap.size 3 1, rfl, Nat.le_refl _, rfl, rfl, Tab.new w 5, fun j h0 h1 => by omega⟩, (Below.refl _ _).alloc (Nat.le_refl _) _⟩
  case round =>
    obtain ⟨⟨k, n, g, l, rfl, rfl, hkn, hn, hz, hlk, hcut, hown, rfl, hg, rfl, rfl, htab, hno⟩, hb⟩ := hrel
    have HC := Lib.hid hcut
    have HZ := Lib.hid hz
    clear hcut hz
    by_cases hlt : k + n < bs.length
    · have hok := scan_ok (HO.out.drop k) n
      obtain ⟨cell, hcell⟩ : ∃ c, c = (bs.drop k).getD n 0 := ⟨_, rfl⟩
      have hcb := (HO.out.drop k).getD n
      rw [← hcell] at hcb
      have hstep : scanS (bs.drop k) (n + 1) = (scanS (bs.drop k) n).step cell := by rw [hcell]; rfl
      have hlow : lowAt (bs.drop k) (n + 1) ↔ 64 ≤ n + 1 ∧ ((scanS (bs.drop k) n).step cell).s < 8388608 := by unfold lowAt; rw [hstep]
      have hcell' : (bs.map (Value.int .u8))[k + n]? = some (.int .u8 cell) := by
        rw [hcell, List.getElem?_map, List.getElem?_eq_getElem hlt, List.getD_eq_getElem?_getD, List.getElem?_drop, List.getElem?_eq_getElem hlt]; rfl
      obtain ⟨b, off, hA, hbl, hcl⟩ := ((HR.out).below hb rfl).at hcell'
      subst hA
      have HS := Lib.hid hstep
      have HL := Lib.hid hlow
      have HN := Lib.hid hno
      clear hstep hlow hcell hno hcell'
      generalize scanS (bs.drop k) n = S at *
      obtain ⟨s, a, gl⟩ := S
      obtain ⟨o1, o2, o3, o4, o5⟩ := hok
      simp only at o1 o2 o3 o4 o5 htab
      have ha := htab.cell a.toNat (by omega)
      have hf := htab.free a.toNat
      have hset := htab.set_ a.toNat cell
      obtain ⟨q, hq⟩ : ∃ q, q = gl.getD a.toNat 0 := ⟨_, rfl⟩
      rw [← hq] at ha
      have hown1 := own_set (i := a.toNat) (u := .int .u8 cell) hown (own_ne htab hown (by decide))
      have hbs := hb.setCell (p := ⟨g, a.toNat, none⟩) hg (.int .u8 cell)
      have HT := Lib.hid hset
      have H5 := Lib.hid o5
      have HQ := Lib.hid hq
      clear hq htab hset o5 hown
      by_cases hhit : q = cell
      · skip
        have hqc : (q == cell) = true := by simpa using hhit
        have hfac : (⟨s, a, gl⟩ : CS).step cell = ⟨mixI s cell 314159265, cell, gl.set a.toNat cell⟩ := by unfold CS.step; simp only; rw [← HQ.out, hqc]; rfl
        have HF := Lib.hid hfac
        clear hhit hfac
        rcases (show n + 1 = 4096 ∨ (¬ n + 1 = 4096 ∧ k + n + 1 = bs.length) ∨ (¬ n + 1 = 4096 ∧ ¬ k + n + 1 = bs.length) from by omega) with e1 | ⟨e1, e2⟩ | ⟨e1, e2⟩
        all_goals
          first | have e1' : ((n : Int) + 1 == 4096) = false := by simp; omega
                | have e1' : ((n : Int) + 1 == 4096) = true := by simp; omega
          first | have e2' : ((k : Int) + n == (bs.length : Int) - 1) = false := by simp; omega
                | have e2' : ((k : Int) + n == (bs.length : Int) - 1) = true := by simp; omega
                | skip
          have E1 := Lib.hid e1
          try have E2 := Lib.hid e2
          clear e1
          try clear e2
          go_wp2_with (at_builtin; refine wpList_app1 tInts rfl (.tmp 61) (.tmp 64) rfl w.heap.size _ l.length (ints l) rfl hown1 (.int .i64 ((k : Int) + n + 1)) rfl _ rfl (by simp [World.setCell]) (by omega) (by unfold maxLen; omega) hbs.size ?_; intro v2 w2 hown2 _ hb3)
        all_goals first
          | (refine ⟨ref_go hlt hlk HC.out HN.out E2.out E1.out hn (fun hl => ?_) (HS.out.trans HF.out) rfl rfl hown1 hg HT.out hbs, by simp [intOf]; omega⟩; have := HL.out.1 hl; rw [HF.out] at this; simp only [mixI] at this; omega)
          | exact ⟨ref_stop hlt hn hlk HC.out HN.out (.inr (.inl E1.out)) hown2 (hbs.trans hb3), by simp [intOf]; omega⟩
          | exact ⟨ref_stop hlt hn hlk HC.out HN.out (.inl E2.out) hown2 (hbs.trans hb3), by simp [intOf]; omega⟩
          | (refine ⟨ref_stop hlt hn hlk HC.out HN.out (.inr (.inr (HL.out.2 ⟨by omega, ?_⟩))) hown2 (hbs.trans hb3), by simp [intOf]; omega⟩; rw [HF.out]; simp only [mixI]; omega)
      · skip
        have hqc : (q == cell) = false := by simpa using hhit
        have hfac : (⟨s, a, gl⟩ : CS).step cell = ⟨mixI s cell 271828182, cell, gl.set a.toNat cell⟩ := by unfold CS.step; simp only; rw [← HQ.out, hqc]; rfl
        have HF := Lib.hid hfac
        clear hhit hfac
        rcases (show n + 1 = 4096 ∨ (¬ n + 1 = 4096 ∧ k + n + 1 = bs.length) ∨ (¬ n + 1 = 4096 ∧ ¬ k + n + 1 = bs.length) from by omega) with e1 | ⟨e1, e2⟩ | ⟨e1, e2⟩
        all_goals
          first | have e1' : ((n : Int) + 1 == 4096) = false := by simp; omega
                | have e1' : ((n : Int) + 1 == 4096) = true := by simp; omega
          first | have e2' : ((k : Int) + n == (bs.length : Int) - 1) = false := by simp; omega
                | have e2' : ((k : Int) + n == (bs.length : Int) - 1) = true := by simp; omega
                | skip
          have E1 := Lib.hid e1
          try have E2 := Lib.hid e2
          clear e1
          try clear e2
          go_wp2_with (at_builtin; refine wpList_app1 tInts rfl (.tmp 61) (.tmp 64) rfl w.heap.size _ l.length (ints l) rfl hown1 (.int .i64 ((k : Int) + n + 1)) rfl _ rfl (by simp [World.setCell]) (by omega) (by unfold maxLen; omega) hbs.size ?_; intro v2 w2 hown2 _ hb3)
        all_goals first
          | (refine ⟨ref_go hlt hlk HC.out HN.out E2.out E1.out hn (fun hl => ?_) (HS.out.trans HF.out) rfl rfl hown1 hg HT.out hbs, by simp [intOf]; omega⟩; have := HL.out.1 hl; rw [HF.out] at this; simp only [mixI] at this; omega)
          | exact ⟨ref_stop hlt hn hlk HC.out HN.out (.inr (.inl E1.out)) hown2 (hbs.trans hb3), by simp [intOf]; omega⟩
          | exact ⟨ref_stop hlt hn hlk HC.out HN.out (.inl E2.out) hown2 (hbs.trans hb3), by simp [intOf]; omega⟩
          | (refine ⟨ref_stop hlt hn hlk HC.out HN.out (.inr (.inr (HL.out.2 ⟨by omega, ?_⟩))) hown2 (hbs.trans hb3), by simp [intOf]; omega⟩; rw [HF.out]; simp only [mixI]; omega)
    · have hkn' : k + n = bs.length := by omega
      have hz := HZ.out
      go_wp2
      go_ret
      exact ⟨⟨_, l, rfl, HC.out.all (by omega), by omega, hown⟩, hb⟩
end Go.Proofs.Ytjcaahilgobfhaa
