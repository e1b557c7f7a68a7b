/- What bytes say, as the reference reads it: plain. -/
import Derived.Test.YtaiekpdoljleeaaMoGe
namespace Go.Proofs.Ytaiekpdoljleeaa
open Go.RowKit Go.WideShapes
set_option linter.unusedVariables false
set_option linter.unusedSimpArgs false
theorem end_none (bs h : List Int) (acc : List Pt) : endG bs h (none, acc) = (Md.zero, 0, 12) := rfl
theorem end_none1 (bs h : List Int) (L : Left) (acc : List Pt) (h1 : (codeG L).1 = none) : endG bs h (L, acc) = (Md.zero, 0, 12) := by
  unfold endG
  simp only [h1, code_none]
theorem end_none2 (bs h : List Int) (L : Left) (acc : List Pt) (h1 : (codeG (codeG L).1).1 = none) : endG bs h (L, acc) = (Md.zero, 0, 12) := by
  unfold endG
  simp only [h1]
theorem get_short5 (bs : List Int) (h : bs.length < 5) : getM bs = (Md.zero, 0, 12) := by
  have e : headG bs = (none, List.replicate 5 0) := nx_no h
  unfold getM
  rw [e]
  simp only [parts_none]
  rfl
theorem take5 (bs : List Int) (h : 5 ≤ bs.length) : bs.take 5 = [bs.getD 0 0, bs.getD 1 0, bs.getD 2 0, bs.getD 3 0, bs.getD 4 0] := by
  rcases bs with _ | ⟨a, _ | ⟨b, _ | ⟨c, _ | ⟨d, _ | ⟨e, l⟩⟩⟩⟩⟩
  all_goals first
    | (simp at h; done)
    | rfl
theorem get_head (bs : List Int) (h : 5 ≤ bs.length) : getM bs = match partsG (bs.getD 4 0).toNat (some (bs.drop 5)) [] with
    | none => (Md.zero, 0, 131)
    | some q => endG bs [bs.getD 0 0, bs.getD 1 0, bs.getD 2 0, bs.getD 3 0, bs.getD 4 0] q := by
  have e : headG bs = (some (bs.drop 5), [bs.getD 0 0, bs.getD 1 0, bs.getD 2 0, bs.getD 3 0, bs.getD 4 0]) := by
    unfold headG
    rw [nx_ok h, take5 bs h]
  unfold getM
  rw [e]
  rfl
theorem nx1_at (bs : List Int) (a : Nat) (h : a < bs.length) : nx 1 (some (bs.drop a)) = (some (bs.drop (a + 1)), [bs.getD a 0]) := by
  rw [nx_ok (by rw [List.length_drop]; omega), List.drop_drop, List.drop_eq_getElem_cons h, List.getD_eq_getElem?_getD, List.getElem?_eq_getElem h]
  rfl
theorem nx1_end (bs : List Int) (a : Nat) (h : bs.length ≤ a) : nx 1 (some (bs.drop a)) = (none, [0]) := by
  rw [nx_no (by rw [List.length_drop]; omega)]
  rfl
def widN (j : Nat) : Nat := if wide j then 2 else 1
def valF (bs : List Int) (a j : Nat) : Int := if wide j then bs.getD a 0 * 256 + bs.getD (a + 1) 0 else bs.getD a 0
theorem fdG_at (bs : List Int) (a j : Nat) (t : Pt) (h : a + widN j ≤ bs.length) : fdG (some (bs.drop a), t) j = (some (bs.drop (a + widN j)), t.set j (valF bs a j - moreF j)) := by
  unfold widN valF at *
  unfold fdG
  cases hw : wide j with
  | true =>
    rw [hw] at h
    simp only [if_true] at h ⊢
    rw [nx1_at bs a (by omega), nx1_at bs (a + 1) (by omega)]
    rfl
  | false =>
    rw [hw] at h
    simp only [Bool.false_eq_true, if_false] at h ⊢
    rw [nx1_at bs a (by omega)]
    rfl
theorem fdG_end (bs : List Int) (a j : Nat) (t : Pt) (h : bs.length < a + widN j) : (fdG (some (bs.drop a), t) j).1 = none := by
  unfold widN at *
  unfold fdG
  cases hw : wide j with
  | true =>
    rw [hw] at h
    simp only [if_true] at h ⊢
    rcases Nat.lt_or_ge a bs.length with h1 | h1
    · rw [nx1_at bs a h1, nx1_end bs (a + 1) (by omega)]
    · rw [nx1_end bs a h1]; rfl
  | false =>
    rw [hw] at h
    simp only [Bool.false_eq_true, if_false] at h ⊢
    rw [nx1_end bs a (by omega)]
/-- The fields up to the q-th. -/
def fq (k : Int) (r : List Int) (q : Nat) : Left × Pt := ((([1, 2, 3, 4, 5, 6] : List Nat).take q).filter (hasK k)).foldl fdG (some r, ptZ k)
theorem fq_zero (k : Int) (r : List Int) : fq k r 0 = (some r, ptZ k) := rfl
theorem fq_six (k : Int) (r : List Int) : fq k r 6 = ptG r k := rfl
theorem fq_step (k : Int) (r : List Int) (q : Nat) (hq : q < 6) : fq k r (q + 1) = if hasK k (q + 1) then fdG (fq k r q) (q + 1) else fq k r q := by
  unfold fq
  have e : (([1, 2, 3, 4, 5, 6] : List Nat).take (q + 1)) = (([1, 2, 3, 4, 5, 6] : List Nat).take q) ++ [q + 1] := by
    rcases (show q = 0 ∨ q = 1 ∨ q = 2 ∨ q = 3 ∨ q = 4 ∨ q = 5 from by omega) with rfl | rfl | rfl | rfl | rfl | rfl <;> rfl
  rw [e, List.filter_append, List.foldl_append]
  cases h : hasK k (q + 1) <;> simp [List.filter, h]
theorem fq_none (k : Int) (r : List Int) (q : Nat) (hq : q < 6) (h1 : hasK k (q + 1) = true) (h2 : (fdG (fq k r q) (q + 1)).1 = none) : (ptG r k).1 = none := by
  have e : ∀ n, q + 1 ≤ n → n ≤ 6 → (fq k r n).1 = none := by
    intro n
    induction n with
    | zero => intro h; omega
    | succ n ih =>
      intro h3 h4
      rw [fq_step k r n (by omega)]
      rcases Nat.lt_or_ge q n with h5 | h5
      · have h6 := ih (by omega) (by omega)
        split
        · exact fdG_left _ _ h6
        · exact h6
      · obtain rfl : n = q := by omega
        rw [if_pos h1]; exact h2
  rw [← fq_six]
  exact e 6 (by omega) (by omega)
theorem get_set (t : Pt) (j i : Nat) (v : Int) (h1 : 1 ≤ j) (h6 : j ≤ 6) (g1 : 1 ≤ i) (g6 : i ≤ 6) : (t.set j v).get i = if i = j then v else t.get i := by
  rcases (show j = 1 ∨ j = 2 ∨ j = 3 ∨ j = 4 ∨ j = 5 ∨ j = 6 from by omega) with rfl | rfl | rfl | rfl | rfl | rfl <;> rcases (show i = 1 ∨ i = 2 ∨ i = 3 ∨ i = 4 ∨ i = 5 ∨ i = 6 from by omega) with rfl | rfl | rfl | rfl | rfl | rfl <;> rfl
theorem set_k (t : Pt) (j : Nat) (v : Int) : (t.set j v).k = t.k := by
  unfold Pt.set
  repeat' split
  all_goals rfl
/-- A field's number as the reference keeps it. -/
def vq (k : Int) (q : Nat) (t : Pt) (j : Nat) : Int := if hasK k j = true ∧ j ≤ q then t.get j + moreF j else 0
structure FqI (k : Int) (q : Nat) (t : Pt) : Prop where
  kind : t.k = k
  none : ∀ j, 1 ≤ j → j ≤ 6 → ¬ (hasK k j = true ∧ j ≤ q) → t.get j = 0
theorem fqi_zero (k : Int) : FqI k 0 (ptZ k) := ⟨rfl, fun j h1 h6 _ => by rcases (show j = 1 ∨ j = 2 ∨ j = 3 ∨ j = 4 ∨ j = 5 ∨ j = 6 from by omega) with rfl | rfl | rfl | rfl | rfl | rfl <;> rfl⟩
theorem fqi_skip {k : Int} {q : Nat} {t : Pt} (h : FqI k q t) (hn : hasK k (q + 1) = false) : FqI k (q + 1) t :=
  ⟨h.kind, fun j h1 h6 hj => h.none j h1 h6 fun h7 => hj ⟨h7.1, by omega⟩⟩
theorem fqi_set {k : Int} {q : Nat} {t : Pt} (h : FqI k q t) (hq : q < 6) (v : Int) (hy : hasK k (q + 1) = true) : FqI k (q + 1) (t.set (q + 1) v) :=
  ⟨by rw [set_k]; exact h.kind, fun j h1 h6 hj => by
    rw [get_set t (q + 1) j v (by omega) (by omega) h1 h6, if_neg (fun e => hj ⟨by rw [e]; exact hy, by omega⟩)]
    exact h.none j h1 h6 fun h7 => hj ⟨h7.1, by omega⟩⟩
def vqs (k : Int) (q : Nat) (t : Pt) : Array Value := #[.int .i64 (vq k q t 1), .int .i64 (vq k q t 2), .int .i64 (vq k q t 3), .int .i64 (vq k q t 4), .int .i64 (vq k q t 5), .int .i64 (vq k q t 6)]
theorem vq_skip {k : Int} {q : Nat} {t : Pt} (hn : hasK k (q + 1) = false) (j : Nat) : vq k (q + 1) t j = vq k q t j := by
  unfold vq
  by_cases h : hasK k j = true ∧ j ≤ q
  · rw [if_pos h, if_pos ⟨h.1, by omega⟩]
  · rw [if_neg h, if_neg]
    rintro ⟨h1, h2⟩
    rcases (show j ≤ q ∨ j = q + 1 from by omega) with h3 | rfl
    · exact h ⟨h1, h3⟩
    · rw [hn] at h1; cases h1
theorem vq_set {k : Int} {q : Nat} {t : Pt} (hq : q < 6) (v : Int) (hy : hasK k (q + 1) = true) (j : Nat) (h1 : 1 ≤ j) (h6 : j ≤ 6) : vq k (q + 1) (t.set (q + 1) (v - moreF (q + 1))) j = if j = q + 1 then v else vq k q t j := by
  unfold vq
  by_cases e : j = q + 1
  · subst e
    rw [if_pos ⟨hy, Nat.le_refl _⟩, if_pos rfl, get_set _ _ _ _ (by omega) (by omega) (by omega) (by omega), if_pos rfl]
    omega
  · rw [if_neg e, get_set _ _ _ _ (by omega) (by omega) h1 h6, if_neg e]
    by_cases h : hasK k j = true ∧ j ≤ q
    · rw [if_pos h, if_pos ⟨h.1, by omega⟩]
    · rw [if_neg h, if_neg]
      rintro ⟨h2, h3⟩
      exact h ⟨h2, by omega⟩
theorem vq_own {k : Int} {q : Nat} {t : Pt} : vq k q t (q + 1) = 0 := by unfold vq; rw [if_neg (by omega)]
theorem vqs_skip {k : Int} {q : Nat} {t : Pt} (hn : hasK k (q + 1) = false) : vqs k (q + 1) t = vqs k q t := by
  unfold vqs
  simp only [vq_skip hn]
theorem vqs_set {k : Int} {q : Nat} {t : Pt} (hq : q < 6) (v : Int) (hy : hasK k (q + 1) = true) : vqs k (q + 1) (t.set (q + 1) (v - moreF (q + 1))) = (vqs k q t).setIfInBounds q (.int .i64 v) := by
  unfold vqs
  rw [vq_set hq v hy 1 (by omega) (by omega), vq_set hq v hy 2 (by omega) (by omega), vq_set hq v hy 3 (by omega) (by omega), vq_set hq v hy 4 (by omega) (by omega), vq_set hq v hy 5 (by omega) (by omega), vq_set hq v hy 6 (by omega) (by omega)]
  rcases (show q = 0 ∨ q = 1 ∨ q = 2 ∨ q = 3 ∨ q = 4 ∨ q = 5 from by omega) with rfl | rfl | rfl | rfl | rfl | rfl <;> rfl
theorem vqs_zero (k : Int) (t : Pt) : vqs k 0 t = #[.int .i64 0, .int .i64 0, .int .i64 0, .int .i64 0, .int .i64 0, .int .i64 0] := by
  have h : ∀ j, 1 ≤ j → vq k 0 t j = 0 := fun j hj => by unfold vq; rw [if_neg (by omega)]
  unfold vqs
  rw [h 1 (by omega), h 2 (by omega), h 3 (by omega), h 4 (by omega), h 5 (by omega), h 6 (by omega)]
theorem vqs_at {k : Int} {q : Nat} {t : Pt} (i : Nat) (hi : i < 6) : (vqs k q t)[i]? = some (.int .i64 (vq k q t (i + 1))) := by
  rcases (show i = 0 ∨ i = 1 ∨ i = 2 ∨ i = 3 ∨ i = 4 ∨ i = 5 from by omega) with rfl | rfl | rfl | rfl | rfl | rfl <;> rfl
/-- The part at the end. -/
theorem vq_get {k : Int} {t : Pt} (h : FqI k 6 t) (j : Nat) (h1 : 1 ≤ j) (h6 : j ≤ 6) (h4 : j ≠ 4) : vq k 6 t j = t.get j := by
  unfold vq
  by_cases e : hasK k j = true
  · rw [if_pos ⟨e, h6⟩]
    unfold moreF
    rw [if_neg h4]
    omega
  · rw [if_neg (fun h => e h.1)]
    exact (h.none j h1 h6 (fun h => e h.1)).symm
theorem vq_c {k : Int} {t : Pt} (h : FqI k 6 t) : t.c = if hasK k 4 then vq k 6 t 4 - 2048 else 0 := by
  cases e : hasK k 4 with
  | true =>
    have hv : vq k 6 t 4 = t.get 4 + moreF 4 := by unfold vq; exact if_pos ⟨e, by omega⟩
    rw [hv]
    simp [moreF, Pt.get]
  | false =>
    have := h.none 4 (by omega) (by omega) (by rw [e]; simp)
    simpa [Pt.get] using this
/-- What a field's array cell holds behind s bytes. -/
def pvF (bs : List Int) (a s : Nat) : Int := if s = 0 then 0 else if s = 1 then bs.getD (a + 0) 0 else bs.getD a 0 * 256 + bs.getD (a + 1) 0
theorem pvF_val (bs : List Int) (a j : Nat) : pvF bs a (widN j) = valF bs a j := by
  unfold pvF widN valF
  cases wide j <;> rfl
theorem vset_at (k : Int) (u : Nat) (t : Pt) (u' : Nat) (x : Int) (h : u < 6) : ((vqs k u' t).setIfInBounds u (.int .i64 x))[u]? = some (.int .i64 x) := by
  rw [Array.getElem?_setIfInBounds_self_of_lt (by show u < 6; exact h)]
theorem vset_zero (k : Int) (u : Nat) (t : Pt) (bs : List Int) (a : Nat) (h : u < 6) : (vqs k u t).setIfInBounds u (.int .i64 (pvF bs a 0)) = vqs k u t := by
  have hz : vq k u t (u + 1) = 0 := vq_own
  have e : pvF bs a 0 = 0 := rfl
  rw [e, ← hz]
  unfold vqs
  rcases (show u = 0 ∨ u = 1 ∨ u = 2 ∨ u = 3 ∨ u = 4 ∨ u = 5 from by omega) with rfl | rfl | rfl | rfl | rfl | rfl <;> rfl
theorem has_at (k : Int) (i : Nat) (h : i < 6) : (#[Value.bool (hasK k 1), .bool (hasK k 2), .bool (hasK k 3), .bool (hasK k 4), .bool (hasK k 5), .bool (hasK k 6)] : Array Value)[i]? = some (.bool (hasK k (i + 1))) := by
  rcases (show i = 0 ∨ i = 1 ∨ i = 2 ∨ i = 3 ∨ i = 4 ∨ i = 5 from by omega) with rfl | rfl | rfl | rfl | rfl | rfl <;> rfl
end Go.Proofs.Ytaiekpdoljleeaa
