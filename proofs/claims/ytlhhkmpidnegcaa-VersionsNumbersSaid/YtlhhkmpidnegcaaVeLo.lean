/- The law's row of pieces: what is laid into it, its bytes, what they say again; names. Condition: none. -/
import Derived.Test.YtlhhkmpidnegcaaVeLn
namespace Go.Proofs.Ytlhhkmpidnegcaa
open Go.RowKit Go.WideShapes
set_option linter.unusedVariables false
set_option linter.unusedSimpArgs false
def pcL (n : Nat) : List Pc := (List.range n).map fun i => pcV i 1
theorem pcL_length (n : Nat) : (pcL n).length = n := by simp [pcL]
theorem pcL_succ (n : Nat) : pcL (n + 1) = pcL n ++ [pcV n 1] := by simp [pcL, List.range_succ]
theorem pcL_ok {n : Nat} (hn : n ≤ 60000) : ∀ p ∈ pcL n, p.ok := fun p hp => by
  obtain ⟨i, hi, rfl⟩ := List.mem_map.1 hp
  exact pcV_ok i 1 (by have := List.mem_range.1 hi; omega)
theorem pcL_at {n i : Nat} (h : i < n) : (pcL n)[i]? = some (pcV i 1) := by simp [pcL, h]
theorem blk_setCells {g : Nat} {t : TypeId} : ∀ (vs : List Value) (o : Nat) (w : World) (cs : Array Value), Blk w g t cs → ∃ cs', Blk (w.setCells g o vs) g t cs' ∧ cs'.size = cs.size
  | [], _, _, cs, h => ⟨cs, h, rfl⟩
  | v :: r, o, w, cs, h => by
    obtain ⟨cs', h1, h2⟩ := blk_setCells r (o + 1) _ _ (h.set o v)
    exact ⟨cs', h1, by rw [h2, Array.size_setIfInBounds]⟩
theorem below_setCells {g B : Nat} (hg : B ≤ g) : ∀ (vs : List Value) (o : Nat) (w0 w : World), Below B w0 w → Below B w0 (w.setCells g o vs)
  | [], _, _, _, h => h
  | v :: r, o, w0, w, h => below_setCells hg r (o + 1) w0 _ (h.setCell (p := ⟨g, o, none⟩) hg v)
/-- A block of n pieces, the first k of them laid. -/
structure PcRow (g n k : Nat) (w : World) : Prop where
  ex : ∃ cs : Array Value, Blk w g 52 cs ∧ cs.size = 23 * n ∧ ∀ i, i < k → w.rangeAt g (23 * i) (pcV i 1).cells
theorem PcRow.there {g n k i : Nat} {w : World} (h : PcRow g n k w) (hi : i < n) : w.there g (23 * i) 23 := fun j hj => by
  obtain ⟨cs, hb, hs, _⟩ := h.ex
  refine ⟨?_, hb.frozen _⟩
  rw [hb.cell, Array.getElem?_eq_getElem (by omega)]
  rfl
theorem PcRow.step {g n k : Nat} {w : World} (h : PcRow g n k w) (hk : k < n) (hn : n ≤ 60000) : PcRow g n (k + 1) (w.setCells g (23 * k) (pcV k 1).cells) := by
  have ht := h.there hk
  obtain ⟨cs, hb, hs, hr⟩ := h.ex
  obtain ⟨cs', h1, h2⟩ := blk_setCells (pcV k 1).cells (23 * k) w cs hb
  have hl := Pc.cells_length (pcV_ok k 1 (by omega))
  refine ⟨cs', h1, by omega, fun i hi => ?_⟩
  by_cases he : i = k
  · subst he
    exact World.rangeAt_setCells_same w g _ _ (by rw [hl]; exact ht)
  · refine World.rangeAt_setCells_apart (hr i (by omega)) g _ _ (.inr (.inl ?_))
    rw [Pc.cells_length (pcV_ok i 1 (by omega))]
    omega
theorem PcRow.below {g n k : Nat} {w w' : World} (h : PcRow g n k w) (hb : Below w.heap.size w w') : PcRow g n k w' := by
  obtain ⟨cs, h1, hs, hr⟩ := h.ex
  exact ⟨cs, h1.below hb, hs, fun i hi j y hy => (hb.cell (p := ⟨g, 23 * i + j, none⟩) h1.lt).trans (hr i hi j y hy)⟩
theorem PcRow.done {g n : Nat} {w : World} (h : PcRow g n n w) (hn : n ≤ 60000) : Rd w (some ⟨g, 0, none⟩) (flatP (pcL n)) := by
  obtain ⟨cs, hb, hs, hr⟩ := h.ex
  have : ∀ m, m ≤ n → ∀ p y, (flatP (pcL m))[p]? = some y → w.cell? ⟨g, p, none⟩ = some y := by
    intro m
    induction m with
    | zero => intro _ p y hp; simp [pcL, flatP] at hp
    | succ m ih =>
      intro hm p y hp
      rw [pcL_succ, show flatP (pcL m ++ [pcV m 1]) = flatP (pcL m) ++ (pcV m 1).cells by simp [flatP]] at hp
      have hl : (flatP (pcL m)).length = m * 23 := by rw [flatP_length _ (pcL_ok (by omega)), pcL_length]
      by_cases hlt : p < m * 23
      · rw [List.getElem?_append_left (by omega)] at hp
        exact ih (by omega) p y hp
      · rw [List.getElem?_append_right (by omega), hl] at hp
        have := hr m (by omega) (p - m * 23) y hp
        rwa [show 23 * m + (p - m * 23) = p by omega] at this
  exact fun _ => ⟨g, 0, rfl, hb.lt, fun k y hk => by rw [Nat.zero_add]; exact this n (Nat.le_refl _) k y hk⟩
theorem PcRow.cell {g n i : Nat} {w : World} (h : PcRow g n n w) (hi : i < n) {j : Nat} {y : Value} (hy : (pcV i 1).cells[j]? = some y) : w.cell? ⟨g, 23 * i + j, none⟩ = some y := by
  obtain ⟨cs, hb, hs, hr⟩ := h.ex
  exact hr i hi j y hy
/-- The pieces' bytes. -/
def bsL (n : Nat) : List Int := beI (n : Int) 2 ++ (pcL n).flatMap pieceB
theorem pieceB_pcV (i : Nat) : pieceB (pcV i 1) = [(i : Int) % 256, (i : Int) / 256, 0, 0, 0, 0, 0, 0, 0, 0, 0, 0, 0, 0, 0, 0, 0, 0, 0, 0, 0, 64, 0, 0, 0, 1, 0, 0, 0, 0] := rfl
theorem flat_drop : ∀ (n i : Nat), i < n → ∃ r, ((pcL n).flatMap pieceB).drop (30 * i) = pieceB (pcV i 1) ++ r := by
  intro n
  induction n with
  | zero => intro i hi; omega
  | succ n ih =>
    intro i hi
    have hl : ((pcL n).flatMap pieceB).length = 30 * n := by
      clear ih hi
      induction n with
      | zero => rfl
      | succ n ih => rw [pcL_succ, List.flatMap_append, List.length_append, ih, List.flatMap_singleton, pieceB_pcV]; simp; omega
    rw [pcL_succ, List.flatMap_append, List.flatMap_singleton]
    by_cases he : i < n
    · obtain ⟨r, hr⟩ := ih i he
      rw [List.drop_append_of_le_length (by omega), hr, List.append_assoc]
      exact ⟨_, rfl⟩
    · obtain rfl : i = n := by omega
      rw [List.drop_append, hl, Nat.sub_self, List.drop_zero, List.drop_of_length_le (by omega)]
      exact ⟨[], by simp⟩
theorem flat_length (n : Nat) : ((pcL n).flatMap pieceB).length = 30 * n := by
  induction n with
  | zero => rfl
  | succ n ih => rw [pcL_succ, List.flatMap_append, List.length_append, ih, List.flatMap_singleton, pieceB_pcV]; simp; omega
theorem bsL_length (n : Nat) : (bsL n).length = 2 + 30 * n := by rw [bsL, List.length_append, beI_length, flat_length]
theorem bsL_drop {n i : Nat} (h : i < n) : ∃ r, (bsL n).drop (2 + 30 * i) = pieceB (pcV i 1) ++ r := by
  obtain ⟨r, hr⟩ := flat_drop n i h
  refine ⟨r, ?_⟩
  rw [bsL, ← List.drop_drop, List.drop_left' (beI_length 2 _), hr]
theorem at30_bsL {n i : Nat} (h : i < n) : at30 (bsL n) i = pcV i 1 := by
  obtain ⟨r, hr⟩ := bsL_drop h
  have hd : ∀ k m, numI (bsL n) (2 + 30 * i + k) m = numI (pieceB (pcV i 1) ++ r) k m := fun k m => by
    unfold numI
    rw [← List.drop_drop, hr]
  unfold at30 pieceAt
  rw [hr, hd, hd, hd, pieceB_pcV]
  rfl
theorem rgt_pcV (i : Nat) : rgt (pcV i 1) = true := rfl
theorem putP_pcL {n : Nat} (h : n ≤ 2184) : putP (pcL n) = (0, bsL n) := by
  unfold putP
  rw [if_neg, if_neg (by rw [pcL_length]; omega), pcL_length]
  · rfl
  · simp [pcL, rgt_pcV]
theorem oct_bsL {n : Nat} (h : n ≤ 60000) : Oct (bsL n) := by
  refine (beI_oct 2 _).append fun x hx => ?_
  obtain ⟨p, hp, hx⟩ := List.mem_flatMap.1 hx
  obtain ⟨i, hi, rfl⟩ := List.mem_map.1 hp
  have := List.mem_range.1 hi
  rw [pieceB_pcV] at hx
  simp at hx
  omega
theorem num_bsL {n : Nat} (h : n ≤ 60000) : numI (bsL n) 0 2 = (n : Int) := by
  unfold numI bsL
  rw [List.drop_zero, List.take_left' (beI_length 2 _)]
  show valI [(n : Int) / 256 % 256, (n : Int) % 256] = n
  simp [valI]
  omega
theorem putP_more : (putP (pcL 2184 ++ [pcV 9999 1])).1 = 3 := by
  unfold putP
  rw [if_neg, if_pos (by rw [List.length_append, pcL_length]; simp)]
  simp [pcL, rgt_pcV]
def pcZ : Pc := ⟨List.replicate 20 0, 0, 0, 0⟩
theorem pcZ_ok : pcZ.ok := ⟨⟨rfl, fun x hx => by
  have := List.eq_of_mem_replicate hx
  omega⟩⟩
theorem putP_z : (putP [pcZ]).1 = 2 := by decide +kernel
/-- The name of k letters. -/
def nmL (k : Nat) : ByteArray := ⟨(List.replicate k 110).toArray⟩
theorem nmL_succ (k : Nat) : nmL k ++ ⟨#[110]⟩ = nmL (k + 1) := by
  apply ByteArray.ext
  show (nmL k ++ ⟨#[110]⟩).data = _
  rw [ByteArray.data_append]
  unfold nmL
  rw [List.replicate_succ']
  exact List.append_toArray _ [110]
theorem nmL_size (k : Nat) : (nmL k).size = k := by simp [nmL, ByteArray.size]
theorem name_ab : nameB ⟨#[97, 32, 98]⟩ = true := by decide +kernel
theorem name_100 : nameB (nmL 100) = true := by decide +kernel
theorem name_101 : nameB (nmL 101) = false := by decide +kernel
theorem name_0 : nameB ⟨#[]⟩ = false := by decide +kernel
theorem name_tab : nameB ⟨#[97, 9, 98]⟩ = false := by decide +kernel
theorem name_long {s : ByteArray} (h : s.size = 101) : nameB s = false := by
  unfold nameB
  rw [h]
  simp
end Go.Proofs.Ytlhhkmpidnegcaa
