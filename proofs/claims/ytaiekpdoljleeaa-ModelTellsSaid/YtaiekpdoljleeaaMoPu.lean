/- A model put into bytes: the program's walk. Lists of at most 5000 parts. -/
import Derived.Test.YtaiekpdoljleeaaMoFd
namespace Go.Proofs.Ytaiekpdoljleeaa
open Go.RowKit Go.WideShapes
set_option linter.unusedVariables false
set_option linter.unusedSimpArgs false
/-- Bytes of the call's own, and no fault. -/
structure IsBytes (bs : List Int) (w0 : World) (e : Ending) (w : World) : Prop where
  ex : ∃ A c, e = .returned (.tuple #[.slice A bs.length c, .int .i64 0]) ∧ bs.length ≤ c ∧ w.ownsRow w0.heap.size 5 1 (.slice A bs.length c) bs.length (octs bs)
  low : Below w0.heap.size w0 w
theorem own_base {w : World} {b b' n : Nat} {e : TypeId} {size : Nat} {v : Value} {xs : List Value} (h : w.ownsRow b e size v n xs) (hb : b' ≤ b) : w.ownsRow b' e size v n xs := by
  obtain ⟨hl, h⟩ := h
  refine ⟨hl, ?_⟩
  rcases h with h | ⟨g, cap, cur, hv, hbg, hr⟩
  · exact .inl h
  · exact .inr ⟨g, cap, cur, hv, by omega, hr⟩
/-- What a part has as field j. -/
theorem box_at {w : World} {g j : Nat} {t : Pt} (h : Blk w g 32 t.cells.toArray) (h1 : 1 ≤ j) (h6 : j ≤ 6) : w.cell? ⟨g, j, none⟩ = some (.int .i64 (t.get j)) := by
  rw [h.cell j]
  rcases (show j = 1 ∨ j = 2 ∨ j = 3 ∨ j = 4 ∨ j = 5 ∨ j = 6 from by omega) with rfl | rfl | rfl | rfl | rfl | rfl <;> rfl
theorem fds_in {k : Int} {j : Nat} (h : j ∈ fdsK k) : 1 ≤ j ∧ j ≤ 6 := by
  unfold fdsK at h
  have := (List.mem_filter.1 h).1
  simp at this
  omega
theorem flatF_length (g : Nat) : ∀ l, (flatF g l).length = l.length * 3
  | [] => rfl
  | j :: l => by
    have : flatF g (j :: l) = fdC g j ++ flatF g l := rfl
    rw [this, List.length_append, flatF_length g l, List.length_cons]
    show 3 + _ = _
    omega
theorem flatF_at (g : Nat) : ∀ (l : List Nat) (k q j : Nat), l[k]? = some j → q < 3 → (flatF g l)[k * 3 + q]? = (fdC g j)[q]?
  | [], k, q, j, h, _ => by simp at h
  | i :: l, 0, q, j, h, hq => by
    simp at h
    subst h
    have : flatF g (i :: l) = fdC g i ++ flatF g l := rfl
    rw [this, Nat.zero_mul, Nat.zero_add, List.getElem?_append_left (by show q < 3; omega)]
  | i :: l, k + 1, q, j, h, hq => by
    have : flatF g (i :: l) = fdC g i ++ flatF g l := rfl
    rw [this, List.getElem?_append_right (by show 3 ≤ _; omega)]
    have e : (k + 1) * 3 + q - (fdC g i).length = k * 3 + q := by show (k + 1) * 3 + q - 3 = _; omega
    rw [e]
    exact flatF_at g l k q j (by simpa using h) hq
/-- A field of the list that 'fields' tells. -/
theorem fds_at {w : World} {A : Option Addr} {g : Nat} {l : List Nat} (h : Rd w A (flatF g l)) {k : Nat} (hk : k < l.length) : ∃ j b o, l[k]? = some j ∧ A = some ⟨b, o, none⟩ ∧ b < w.heap.size ∧ w.cell? ⟨b, o + k * 3, none⟩ = some (.pointer (some ⟨g, j, none⟩)) ∧ w.cell? ⟨b, o + k * 3 + 1, none⟩ = some (.bool (wide j)) ∧ w.cell? ⟨b, o + k * 3 + 2, none⟩ = some (.int .i64 (moreF j)) := by
  obtain ⟨j, hj⟩ : ∃ j, l[k]? = some j := ⟨_, List.getElem?_eq_getElem hk⟩
  obtain ⟨b, o, hA, hlt, hc⟩ := h (by rw [flatF_length]; omega)
  refine ⟨j, b, o, hj, hA, hlt, ?_, ?_, ?_⟩
  · have := hc (k * 3 + 0) _ ((flatF_at g l k 0 j hj (by omega)).trans rfl)
    rwa [← Nat.add_assoc] at this
  · have := hc (k * 3 + 1) _ ((flatF_at g l k 1 j hj (by omega)).trans rfl)
    rwa [← Nat.add_assoc] at this
  · have := hc (k * 3 + 2) _ ((flatF_at g l k 2 j hj (by omega)).trans rfl)
    rwa [← Nat.add_assoc] at this
theorem fdb_at {w : World} {gb g : Nat} {l : List Nat} (h : Blk w gb 89 (flatF g l).toArray) {k : Nat} (hk : k < l.length) : ∃ j, l[k]? = some j ∧ w.cell? ⟨gb, k * 3, none⟩ = some (.pointer (some ⟨g, j, none⟩)) ∧ w.cell? ⟨gb, k * 3 + 1, none⟩ = some (.bool (wide j)) ∧ w.cell? ⟨gb, k * 3 + 2, none⟩ = some (.int .i64 (moreF j)) := by
  obtain ⟨j, hj⟩ : ∃ j, l[k]? = some j := ⟨_, List.getElem?_eq_getElem hk⟩
  refine ⟨j, hj, ?_, ?_, ?_⟩
  · rw [h.cell, List.getElem?_toArray]; exact (flatF_at g l k 0 j hj (by omega)).trans rfl
  · rw [h.cell, List.getElem?_toArray]; exact (flatF_at g l k 1 j hj (by omega)).trans rfl
  · rw [h.cell, List.getElem?_toArray]; exact (flatF_at g l k 2 j hj (by omega)).trans rfl
/-- A block of another element type stays while the row grows. -/
theorem Blk.grown {w w' : World} {g : Nat} {t : TypeId} {cs : Array Value} {base n : Nat} {e : TypeId} {size : Nat} {v : Value} {xs : List Value} (h : Blk w g t cs) (ho : w.ownsRow base e size v n xs) (hne : e ≠ t) (hg : w.grownBy w' v.ownBlock) : Blk w' g t cs :=
  h.frm (Frm.of_grown (S := fun k => v.ownBlock = some k) hg (fun k hk => hk)) (fun hk => h.apart ho hne _ hk rfl)
theorem part_field {t : Pt} (h : PtIn t) {j : Nat} (hj : j ∈ fdsK t.k) : 0 ≤ t.get j + moreF j ∧ t.get j + moreF j ≤ 65535 ∧ (wide j = false → t.get j + moreF j ≤ 255) := by
  have := fds_in hj
  obtain ⟨_, _, h1, h2, h3, h4, h5, h6⟩ := h
  rcases (show j = 1 ∨ j = 2 ∨ j = 3 ∨ j = 4 ∨ j = 5 ∨ j = 6 from by omega) with rfl | rfl | rfl | rfl | rfl | rfl <;> simp [Pt.get, moreF, wide] <;> omega
def fdsB (t : Pt) (l : List Nat) : List Int := l.flatMap fun j => fB j (t.get j + moreF j)
theorem fdsB_snoc (t : Pt) (l : List Nat) (j : Nat) : fdsB t (l ++ [j]) = fdsB t l ++ fB j (t.get j + moreF j) := by simp [fdsB]
theorem octs_append (a b : List Int) : octs (a ++ b) = octs a ++ octs b := by simp [octs]
theorem fB_length (j : Nat) (n : Int) : (fB j n).length ≤ 2 := by unfold fB; split <;> simp
theorem fdsB_length (t : Pt) : ∀ l, (fdsB t l).length ≤ 2 * l.length
  | [] => by simp [fdsB]
  | j :: l => by
    have := fdsB_length t l
    have := fB_length j (t.get j + moreF j)
    have e : fdsB t (j :: l) = fB j (t.get j + moreF j) ++ fdsB t l := rfl
    rw [e, List.length_append, List.length_cons]
    omega
theorem fdsK_length (k : Int) : (fdsK k).length ≤ 6 := List.length_filter_le _ _
theorem octP_length (t : Pt) : (octP t).length ≤ 13 := by
  have h1 := fdsB_length t (fdsK t.k)
  have h2 := fdsK_length t.k
  have e : octP t = t.k :: fdsB t (fdsK t.k) := rfl
  rw [e, List.length_cons]
  omega
theorem flatP_length : ∀ ts : List Pt, (ts.flatMap octP).length ≤ 13 * ts.length
  | [] => by simp
  | t :: ts => by
    have := flatP_length ts
    have := octP_length t
    rw [List.flatMap_cons, List.length_append, List.length_cons]
    omega
def headB (d : Md) : List Int := [d.h, d.m, d.ph, d.pm, (d.ts.length : Int)]
theorem flatP_snoc {ts : List Pt} {k : Nat} {t : Pt} (h : ts[k]? = some t) : (ts.take (k + 1)).flatMap octP = (ts.take k).flatMap octP ++ octP t := by
  rw [List.take_add_one, h]
  simp
/-- What is out so far. -/
structure OutB (base : Nat) (bs : List Int) (v : Value) (w : World) : Prop where
  own : w.ownsRow base 5 1 v bs.length (octs bs)
theorem OutB.of {base n : Nat} {bs : List Int} {v : Value} {w : World} (h : w.ownsRow base 5 1 v n (octs bs)) : OutB base bs v w := by
  have : n = bs.length := by have := h.1; rw [octs_length] at this; omega
  subst this
  exact ⟨h⟩
theorem OutB.below {base : Nat} {bs : List Int} {v : Value} {w w' : World} (h : OutB base bs v w) (hb : Below w.heap.size w w') : OutB base bs v w' := ⟨own_below h.own hb⟩
set_option maxRecDepth 100000 in
set_option maxHeartbeats 8000000 in
theorem put35_no (d : Md) (A B D : Option Addr) (n c nc cc np cp : Nat) (w : World) (hn : n = d.ts.length) (hnc : nc = d.code.length) (hnp : np = d.post.length) (hok : ∀ t ∈ d.ts, t.ok) (hr : Rd w A (flat_pts d.ts)) (hl : n ≤ 5000) (lc : nc ≤ 1000000000) (lp : np ≤ 1000000000) (hno : rightM d ≠ 0) :
    Calls Try.prog 35 #[mdV d.h d.m d.ph d.pm (.slice A n c) (.slice B nc cc) (.slice D np cp)] w fun e w' => e = .returned (.tuple #[.slice none 0 0, .int .i64 (rightM d)]) ∧ Below w.heap.size w w' := by
  have hrt := fun W (h : Below w.heap.size w W) => right39 d A B D n c nc cc np cp W hn hnc hnp hok (hr.below h rfl) hl lc lp
  obtain ⟨T, hT⟩ : ∃ T, rightM d = T := ⟨_, rfl⟩
  simp only [hT] at hrt
  rw [hT] at hno ⊢
  obtain ⟨h, m, ph, pm, ts, code, post⟩ := d
  unfold mdV at *
  simp only at hrt ⊢
  clear hT hn hnc hnp hok hr
  have HRT := Lib.hid hrt
  have q0 : (T != 0) = true := by simpa using hno
  clear hrt hno
  go_enter Try.func35, Try.ntmps35
  go_wp2_with fail
  refine (HRT.out _ ((Below.refl _ _).alloc (Nat.le_refl _) _)).mono ?_
  rintro e w1 ⟨rfl, hb1⟩
  have HB := Lib.hid (((Below.refl w.heap.size w).alloc (Nat.le_refl _) _).trans (hb1.mono (by simp)))
  clear hb1
  go_wp2_with fail
  go_ret2
  exact ⟨rfl, HB.out⟩
end Go.Proofs.Ytaiekpdoljleeaa
