/- The index: pieces, the object, New, none, right, Len. -/
import Derived.Test.YtlhhkmpidnegcaaIxMap
import Derived.Test.YtlhhkmpidnegcaaHeld
import Derived.Deep.MidRow
import Derived.Laws.Cover3
namespace Go.Proofs.Ytlhhkmpidnegcaa
open Go.RowKit Go.WideShapes Go.Maps
set_option linter.unusedVariables false
set_option linter.unusedSimpArgs false
set_option maxRecDepth 100000
structure Pc where
  h : List Int
  s : Int
  b : Int
  a : Int
def Pc.cells (p : Pc) : List Value := hashV p.h ++ [.int .i64 p.s, .int .i64 p.b, .int .i64 p.a]
def Pc.agg (p : Pc) : Value := .agg p.cells.toArray
structure Pc.ok (p : Pc) : Prop where
  h : IsHash p.h
theorem Pc.cells_length {p : Pc} (h : p.ok) : p.cells.length = 23 := by simp [Pc.cells, hashV_length, h.h.len]
theorem Pc.cell_s {p : Pc} (h : p.ok) : p.cells[20]? = some (.int .i64 p.s) := by
  unfold Pc.cells; rw [List.getElem?_append_right (by rw [hashV_length, h.h.len]; omega), hashV_length, h.h.len]; rfl
theorem Pc.cell_b {p : Pc} (h : p.ok) : p.cells[21]? = some (.int .i64 p.b) := by
  unfold Pc.cells; rw [List.getElem?_append_right (by rw [hashV_length, h.h.len]; omega), hashV_length, h.h.len]; rfl
theorem Pc.cell_a {p : Pc} (h : p.ok) : p.cells[22]? = some (.int .i64 p.a) := by
  unfold Pc.cells; rw [List.getElem?_append_right (by rw [hashV_length, h.h.len]; omega), hashV_length, h.h.len]; rfl
theorem Pc.cells_one (p : Pc) : ∀ u ∈ p.cells, u.oneCell' = true := by
  intro u hu
  simp [Pc.cells, hashV] at hu
  rcases hu with ⟨x, _, rfl⟩ | rfl | rfl | rfl <;> rfl
theorem size39 : (Try.prog.info? 52).map (·.size) = some 23 := by kernel_rfl
theorem size37 : (Try.prog.info? 50).map (·.size) = some 20 := by kernel_rfl
def flatP (l : List Pc) : List Value := l.flatMap Pc.cells
theorem flatP_snoc (l : List Pc) (p : Pc) : flatP (l ++ [p]) = flatP l ++ p.cells := by simp [flatP]
/-- By hash: the number. -/
def findP (l : List Pc) (h : List Int) : Option Nat := (l.findIdx? (fun p => p.h == h)).map (· + 1)
theorem findP_snoc (l : List Pc) (p : Pc) (hn : findP l p.h = none) : findP (l ++ [p]) = fun h => if h = p.h then some (l.length + 1) else findP l h := by
  funext h
  unfold findP at *
  rw [List.findIdx?_append]
  by_cases e : h = p.h
  · subst e
    cases hf : l.findIdx? (fun q => q.h == p.h) with
    | none => simp [List.findIdx?_cons]
    | some i => rw [hf] at hn; simp at hn
  · have e' : (p.h == h) = false := by simp; exact fun h' => e h'.symm
    cases hf : l.findIdx? (fun q => q.h == h) with
    | none => simp [List.findIdx?_cons, e', e]
    | some i => simp [e]
/-- The pieces' slice: a row of the index's own, or one that was cut (no room behind it). -/
def RowP (B : Nat) (w : World) (v : Value) (n : Nat) (xs : List Value) : Prop :=
  w.ownsRow B 52 23 v n xs ∨ ∃ gl cur, v = .slice (some ⟨gl, 0, none⟩) n n ∧ B ≤ gl ∧ n ≤ maxLen ∧ xs.length = n * 23 ∧ Blk w gl 52 cur ∧ cur.toList.take (n * 23) = xs
theorem RowP.slice {B n : Nat} {w : World} {v : Value} {xs : List Value} (h : RowP B w v n xs) : ∃ A c, v = .slice A n c ∧ n ≤ c := by
  rcases h with h | ⟨gl, cur, rfl, _⟩
  · exact own_slice h
  · exact ⟨_, _, rfl, Nat.le_refl _⟩
theorem RowP.blk {B n : Nat} {w : World} {v : Value} {xs : List Value} (h : RowP B w v n xs) : ∀ k, v.ownBlock = some k → B ≤ k ∧ ∃ cur, Blk w k 52 cur := fun k hk => by
  rcases h with h | ⟨gl, cur, rfl, hB, _, _, hb, _⟩
  · rcases h.2 with ⟨rfl, _⟩ | ⟨g, cap, cur, rfl, h1, hg, _⟩
    · simp [Value.ownBlock] at hk
    · simp [Value.ownBlock] at hk
      subst hk
      exact ⟨h1, cur, hg⟩
  · simp [Value.ownBlock] at hk
    subst hk
    exact ⟨hB, cur, hb⟩
theorem RowP.lt {B n : Nat} {w : World} {v : Value} {xs : List Value} (h : RowP B w v n xs) : ∀ k, v.ownBlock = some k → B ≤ k ∧ k < w.heap.size := fun k hk => by
  obtain ⟨h1, cur, h2⟩ := h.blk k hk
  exact ⟨h1, h2.lt⟩
theorem RowP.apart {B n g : Nat} {w : World} {v : Value} {xs : List Value} {t : TypeId} {cs : Array Value} (h : RowP B w v n xs) (hb : Blk w g t cs) (hne : 52 ≠ t) : ∀ k, v.ownBlock = some k → k ≠ g := fun k hk e => by
  obtain ⟨_, cur, h2⟩ := h.blk k hk
  subst e
  exact Blk.ne h2 hb hne rfl
theorem RowP.frm {S : Nat → Prop} {B n : Nat} {w w' : World} {v : Value} {xs : List Value} (h : RowP B w v n xs) (hf : Frm S w w') (hn : ∀ k, v.ownBlock = some k → ¬ S k) : RowP B w' v n xs := by
  rcases h with h | ⟨gl, cur, rfl, hB, hm, hl, hb, ht⟩
  · exact .inl (hf.own h hn)
  · exact .inr ⟨gl, cur, rfl, hB, hm, hl, hb.frm hf (hn gl rfl), ht⟩
theorem RowP.below {B n : Nat} {w w' : World} {v : Value} {xs : List Value} (h : RowP B w v n xs) (hb : Below w.heap.size w w') : RowP B w' v n xs := h.frm (Frm.of_below (S := fun _ => False) hb) (fun _ _ h => h)
theorem RowP.len {B n : Nat} {w : World} {v : Value} {xs : List Value} (h : RowP B w v n xs) : xs.length = n * 23 := by
  rcases h with h | ⟨gl, cur, rfl, hB, hm, hl, _⟩
  · exact h.1
  · exact hl
theorem RowP.cell {B n : Nat} {w : World} {g c : Nat} {xs : List Value} (h : RowP B w (.slice (some ⟨g, 0, none⟩) n c) n xs) : ∀ j y, xs[j]? = some y → w.cell? ⟨g, j, none⟩ = some y := fun j y hy => by
  rcases h with h | ⟨gl, cur, hv, hB, hm, hl, hb, ht⟩
  · have := h.cells (g := g) rfl j y hy
    rwa [addr_add, Nat.zero_add] at this
  · injection hv with hv
    injection hv with hv
    injection hv with hv
    subst hv
    rw [hb.cell, ← Array.getElem?_toList]
    rw [← ht] at hy
    rw [List.getElem?_take] at hy
    split at hy
    · exact hy
    · cases hy
/-- An index in block g: pieces l, the map in block mb, at most n stores so far. -/
structure Idx (B : Nat) (w : World) (g mb n : Nat) (l : List Pc) (v : Value) : Prop where
  ge : B ≤ g
  gm : B ≤ mb
  oks : ∀ p ∈ l, p.ok
  blk : Blk w g 108 #[v, .map (some mb)]
  own : RowP B w v l.length (flatP l)
  map : KMap w mb n (findP l)
structure Same (v : Value) (w0 : World) (e : Ending) (w : World) : Prop where
  ret : e = .returned v
  same : w0 = w
theorem Idx.below {B g mb n : Nat} {l : List Pc} {v : Value} {w w' : World} (h : Idx B w g mb n l v) (hb : Below w.heap.size w w') : Idx B w' g mb n l v := ⟨h.ge, h.gm, h.oks, h.blk.below hb, h.own.below hb, h.map.below hb⟩
theorem map_nil (m : Option Nat) (W : World) : (binOp .eql 106 (.map m) (.map none)).run Try.prog W = .ok (.bool m.isNone) W := by
  simp only [binOp]
  simp [run_equal_map_nil W 106 50 3 m Try.underlying106]
theorem none_nil (w : World) : Calls Try.prog 66 #[.pointer none] w (Same (.bool true) w) := by
  go_enter Try.func66, Try.ntmps66
  go_wp2
  go_ret
  exact ⟨rfl, rfl⟩
theorem none_unmade (g : Nat) (u : Value) (w : World) (hb : Blk w g 108 #[u, .map none]) : Calls Try.prog 66 #[.pointer (some ⟨g, 0, none⟩)] w (Same (.bool true) w) := by
  have c1 := hb.cell 1
  simp at c1
  clear hb
  have hmn := map_nil
  go_enter Try.func66, Try.ntmps66
  go_wp2
  go_ret
  exact ⟨rfl, rfl⟩
theorem none_made (g mb : Nat) (u : Value) (w : World) (hb : Blk w g 108 #[u, .map (some mb)]) : Calls Try.prog 66 #[.pointer (some ⟨g, 0, none⟩)] w (Same (.bool false) w) := by
  have c1 := hb.cell 1
  simp at c1
  clear hb
  have hmn := map_nil
  go_enter Try.func66, Try.ntmps66
  go_wp2
  go_ret
  exact ⟨rfl, rfl⟩
structure NewIdx (w0 : World) (e : Ending) (w : World) : Prop where
  ex : ∃ g mb, e = .returned (.pointer (some ⟨g, 0, none⟩)) ∧ Idx w0.heap.size w g mb 0 [] (.slice none 0 0) ∧ g < w.heap.size
  low : Below w0.heap.size w0 w
theorem newIx_any (w : World) : Calls Try.prog 32 #[] w (NewIdx w) := by
  have hmm := @run_makeMap Try.prog
  have k0 := kmap_new w
  have k1 := k0.below ((Below.refl (w.alloc (.map #[] 0)).heap.size _).alloc (Nat.le_refl _) (.cells #[.slice none 0 0, .map (some w.heap.size)] 108))
  have k2 := Blk.new (w.alloc (.map #[] 0)) 108 #[.slice none 0 0, .map (some w.heap.size)]
  rw [show (w.alloc (.map #[] 0)).heap.size = w.heap.size + 1 by simp] at k2
  have hb := ((Below.refl w.heap.size w).alloc (Nat.le_refl _) (.map #[] 0)).alloc (by simp) (.cells #[.slice none 0 0, .map (some w.heap.size)] 108)
  have K1 := Lib.hid k1
  have K2 := Lib.hid k2
  have HB := Lib.hid hb
  clear k0 k1 k2 hb
  go_enter Try.func32, Try.ntmps32
  go_wp2
  go_ret
  exact ⟨⟨_, w.heap.size, rfl, ⟨by omega, Nat.le_refl _, fun p hp => (by cases hp), K2.out, .inl ⟨rfl, .inl ⟨rfl, rfl⟩⟩, K1.out⟩, K2.out.lt⟩, HB.out⟩
theorem len_made (g mb : Nat) (A : Option Addr) (n c : Nat) (w : World) (hb : Blk w g 108 #[.slice A n c, .map (some mb)]) : Calls Try.prog 34 #[.pointer (some ⟨g, 0, none⟩)] w (Same (.int .i64 n) w) := by
  have hn := none_made g mb (.slice A n c) w hb
  have c0 := hb.cell 0
  simp at c0
  have HN := Lib.hid hn
  clear hb hn
  go_enter Try.func34, Try.ntmps34
  go_wp2_with fail
  refine (HN.out).mono ?_
  rintro e w1 ⟨rfl, rfl⟩
  go_wp2
  go_ret
  exact ⟨rfl, rfl⟩
/-- Which pieces may be. -/
def rightP (s b a : Int) : Bool := decide (1 ≤ s) && decide (s ≤ 4096) && decide (1 ≤ b) && decide (b ≤ 1048576) && decide (0 ≤ a) && decide (a ≤ 65536 - s)
structure Quiet (v : Value) (w0 : World) (e : Ending) (w : World) : Prop where
  ret : e = .returned v
  low : Below w0.heap.size w0 w
theorem right_any (p : Pc) (hp : p.ok) (w : World) : Calls Try.prog 67 #[p.agg] w (Quiet (.bool (rightP p.s p.b p.a)) w) := by
  have k := Blk.new w 52 p.cells.toArray
  have c20 := k.cell 20
  have c21 := k.cell 21
  have c22 := k.cell 22
  rw [List.getElem?_toArray] at c20 c21 c22
  rw [Pc.cell_s hp] at c20
  rw [Pc.cell_b hp] at c21
  rw [Pc.cell_a hp] at c22
  have hb := (Below.refl w.heap.size w).alloc (Nat.le_refl _) (.cells p.cells.toArray 52)
  have HB := Lib.hid hb
  clear k hb
  unfold Pc.agg
  obtain ⟨h, s, b, a⟩ := p
  simp only at c20 c21 c22 ⊢
  obtain ⟨r, hr⟩ : ∃ r, rightP s b a = r := ⟨_, rfl⟩
  rw [hr]
  generalize Pc.cells ⟨h, s, b, a⟩ = cs at *
  have HR := Lib.hid hr
  clear hr
  by_cases h1 : 1 ≤ s
  · by_cases h2 : s ≤ 4096
    · by_cases h3 : 1 ≤ b
      · by_cases h4 : b ≤ 1048576
        · by_cases h5 : 0 ≤ a
          · by_cases h6 : a ≤ 65536 - s
            · go_enter Try.func67, Try.ntmps67
              go_wp2
              go_ret
              exact ⟨ret_bool (by rw [← HR.out]; first | (simp [rightP, *]; done) | (simp [rightP, *]; intros; omega)), HB.out⟩
            · go_enter Try.func67, Try.ntmps67
              go_wp2
              go_ret
              exact ⟨ret_bool (by rw [← HR.out]; first | (simp [rightP, *]; done) | (simp [rightP, *]; intros; omega)), HB.out⟩
          · go_enter Try.func67, Try.ntmps67
            go_wp2
            go_ret
            exact ⟨ret_bool (by rw [← HR.out]; first | (simp [rightP, *]; done) | (simp [rightP, *]; intros; omega)), HB.out⟩
        · go_enter Try.func67, Try.ntmps67
          go_wp2
          go_ret
          exact ⟨ret_bool (by rw [← HR.out]; first | (simp [rightP, *]; done) | (simp [rightP, *]; intros; omega)), HB.out⟩
      · go_enter Try.func67, Try.ntmps67
        go_wp2
        go_ret
        exact ⟨ret_bool (by rw [← HR.out]; first | (simp [rightP, *]; done) | (simp [rightP, *]; intros; omega)), HB.out⟩
    · go_enter Try.func67, Try.ntmps67
      go_wp2
      go_ret
      exact ⟨ret_bool (by rw [← HR.out]; first | (simp [rightP, *]; done) | (simp [rightP, *]; intros; omega)), HB.out⟩
  · go_enter Try.func67, Try.ntmps67
    go_wp2
    go_ret
    exact ⟨ret_bool (by rw [← HR.out]; first | (simp [rightP, *]; done) | (simp [rightP, *]; intros; omega)), HB.out⟩
end Go.Proofs.Ytlhhkmpidnegcaa
