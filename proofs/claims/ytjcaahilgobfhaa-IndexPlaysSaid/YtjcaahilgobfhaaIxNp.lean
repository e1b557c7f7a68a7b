/- IndexNumbers: the pieces, the index's answers at a full index. -/
import Derived.Test.YtjcaahilgobfhaaIxNo
namespace Go.Proofs.Ytjcaahilgobfhaa
open Go.RowKit Go.WideShapes Go.Maps
set_option linter.unusedVariables false
set_option linter.unusedSimpArgs false
def pcs (k : Nat) : List Pc := (List.range k).map pieceP
theorem pcs_succ (k : Nat) : pcs (k + 1) = pcs k ++ [pieceP k] := by simp [pcs, List.range_succ]
theorem pcs_length (k : Nat) : (pcs k).length = k := by simp [pcs]
theorem find_pcs_none (k j : Nat) (hk : k ≤ j) (hj : j < 65536) : findP (pcs k) (pieceP j).h = none := by
  unfold findP
  rw [Option.map_eq_none_iff, List.findIdx?_eq_none_iff]
  intro p hp
  simp only [pcs, List.mem_map, List.mem_range] at hp
  obtain ⟨i, hi, rfl⟩ := hp
  simp only [beq_eq_false_iff_ne]
  intro e
  have := pieceP_inj (a := i) (b := j) (by omega) hj e
  omega
theorem find_pcs_some (k j : Nat) (hj : j < k) (hk : k ≤ 65536) : findP (pcs k) (pieceP j).h = some (j + 1) := by
  induction k with
  | zero => omega
  | succ k ih =>
    rw [pcs_succ, findP_snoc _ _ (find_pcs_none k k (Nat.le_refl _) (by omega)), pcs_length]
    by_cases e : j = k
    · subst e; simp
    · have hne : ¬ (pieceP j).h = (pieceP k).h := fun e' => e (pieceP_inj (by omega) (by omega) e')
      simp only [hne, if_false]
      exact ih (by omega) (by omega)
theorem pcs_nodup (k : Nat) (hk : k ≤ 65536) : ((pcs k).map Pc.h).Nodup := by
  rw [pcs, List.map_map]
  unfold List.Nodup
  rw [List.pairwise_map]
  refine (List.nodup_range (n := k)).imp_of_mem fun {a b} ha hb hab e => hab ?_
  rw [List.mem_range] at ha hb
  exact pieceP_inj (by omega) (by omega) e
def zh : List Int := List.replicate 20 0
def badP : List Pc := [⟨zh, 4097, 1, 0⟩, ⟨zh, 1, 0, 0⟩, ⟨zh, 1, 1048577, 0⟩, ⟨zh, 1, 1, -1⟩, ⟨zh, 2, 1, 65535⟩, ⟨zh, 1, 1, 4611686018427387904⟩]
theorem zh_ok : IsHash zh := ⟨rfl, fun x hx => by simp [zh] at hx; omega⟩
theorem badP_ok : ∀ p ∈ badP, p.ok := fun p hp => by
  simp [badP] at hp
  rcases hp with rfl | rfl | rfl | rfl | rfl | rfl <;> exact ⟨zh_ok⟩
theorem badP_wrong : ∀ p ∈ badP, rightP p.s p.b p.a = false := fun p hp => by
  simp [badP] at hp
  rcases hp with rfl | rfl | rfl | rfl | rfl | rfl <;> rfl
def badC : Array Value := (flatP badP).toArray
theorem bad_load (q : Nat) (hq : q < 6) : ∃ p : Pc, p.ok ∧ rightP p.s p.b p.a = false ∧ p.cells.length = 23 ∧ ∀ (W : World) (gs : Nat), Blk W gs 39 badC → W.rangeAt gs (23 * q) p.cells := by
  have hb : badP.length = 6 := rfl
  have hq' : badP[q]? = some badP[q] := List.getElem?_eq_getElem (by rw [hb]; exact hq)
  have hm : badP[q] ∈ badP := List.getElem_mem _
  refine ⟨badP[q], badP_ok _ hm, badP_wrong _ hm, Pc.cells_length (badP_ok _ hm), fun W gs h j y hy => ?_⟩
  rw [h.cell, badC, List.getElem?_toArray]
  exact flatP_at badP badP_ok q _ hq' j y hy
theorem num_full (B g mb k : Nat) (hk : k = 8192) : ∃ P : Value, (∀ W, Calls Try.prog 21 #[.int .i64 8192] W (Quiet P W)) ∧ ∀ W v, Idx B W g mb k (pcs k) v → Calls Try.prog 20 #[.pointer (some ⟨g, 0, none⟩), P] W (Quiet (.tuple #[.int .i64 0, .bool false, .int .i64 5]) W) := by
  refine ⟨(pieceP 8192).agg, fun W => piece_any 8192 W (by omega), fun W v h => ?_⟩
  exact add_full (pieceP 8192) W h (pieceP_ok 8192 (by omega)) (pieceP_right 8192) (find_pcs_none k 8192 (by omega) (by omega)) (by rw [pcs_length]; exact hk)
theorem num_there (B g mb k : Nat) (hk : k = 8192) : ∃ P : Value, (∀ W, Calls Try.prog 21 #[.int .i64 77] W (Quiet P W)) ∧ ∀ W v, Idx B W g mb k (pcs k) v → Calls Try.prog 20 #[.pointer (some ⟨g, 0, none⟩), P] W (Quiet (.tuple #[.int .i64 78, .bool false, .int .i64 0]) W) := by
  refine ⟨(pieceP 77).agg, fun W => piece_any 77 W (by omega), fun W v h => ?_⟩
  exact add_there (pieceP 77) W h (pieceP_ok 77 (by omega)) (pieceP_right 77) 78 (find_pcs_some k 77 (by omega) (by omega))
theorem num_cut (B g mb k : Nat) (hk : k = 8192) (W : World) (v : Value) (h : Idx B W g mb k (pcs k) v) :
    Calls Try.prog 22 #[.pointer (some ⟨g, 0, none⟩), .int .i64 8193] W (Same (.int .i64 2) W) ∧ Calls Try.prog 22 #[.pointer (some ⟨g, 0, none⟩), .int .i64 (-1)] W (Same (.int .i64 2) W) := by
  obtain ⟨A, c, rfl, _⟩ := h.own.slice
  have hb := h.blk
  rw [pcs_length] at hb
  exact ⟨cut_wrong 8193 W hb (.inr (by omega)), cut_wrong (-1) W hb (.inl (by omega))⟩
theorem num_cut0 (B g mb k : Nat) (hk : k = 8192) (W : World) (v : Value) (h : Idx B W g mb k (pcs k) v) :
    Calls Try.prog 22 #[.pointer (some ⟨g, 0, none⟩), .int .i64 0] W (AddB B g mb k [] (.int .i64 0) W) := by
  have := cut_anyB 0 W h (pcs_nodup k (by omega)) (Nat.zero_le _) (by rw [pcs_length]; omega)
  exact this
theorem num_len (B g mb k : Nat) (W : World) (v : Value) (h : Idx B W g mb k [] v) : Calls Try.prog 23 #[.pointer (some ⟨g, 0, none⟩)] W (Same (.int .i64 0) W) := len_any W h
theorem num_add (B g mb k : Nat) (hk : k < 8192) (W : World) (v : Value) (h : Idx B W g mb k (pcs k) v) : Calls Try.prog 20 #[.pointer (some ⟨g, 0, none⟩), (pieceP k).agg] W (AddB B g mb (k + 1) (pcs (k + 1)) (.tuple #[.int .i64 ((k : Int) + 1), .bool true, .int .i64 0]) W) := by
  have := add_newB (pieceP k) W h (pieceP_ok k (by omega)) (pieceP_right k) (find_pcs_none k k (Nat.le_refl _) (by omega)) (by rw [pcs_length]; exact hk) (by omega)
  rw [pcs_length, ← pcs_succ] at this
  exact this
theorem num_bad (q : Nat) (hq : q < 6) : ∃ cs : Array Value, cs.size = 23 ∧ cs.all (·.oneCell') = true ∧ (∀ (W : World) (gs : Nat), Blk W gs 39 badC → W.rangeAt gs (23 * q) cs.toList) ∧
    ∀ (B g mb n : Nat) (l : List Pc) (v : Value) (W : World), Idx B W g mb n l v → Calls Try.prog 20 #[.pointer (some ⟨g, 0, none⟩), .agg cs] W (Quiet (.tuple #[.int .i64 0, .bool false, .int .i64 2]) W) := by
  obtain ⟨p, h1, h2, h3, h4⟩ := bad_load q hq
  refine ⟨p.cells.toArray, by simp [h3], ?_, fun W gs h => h4 W gs h, fun B g mb n l v W hi => add_wrong p W hi h1 h2⟩
  rw [Array.all_eq_true]
  intro i hi'
  exact Pc.cells_one p _ (show p.cells.toArray[i] ∈ p.cells by simp)
end Go.Proofs.Ytjcaahilgobfhaa
