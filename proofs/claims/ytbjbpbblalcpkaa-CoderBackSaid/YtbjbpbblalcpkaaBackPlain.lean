/- What the encoder sheds, read back: the decoder's number stays within the interval, so each bit is told as it was put. Plain laws; conditions: chances from 1 to 65535. -/
import Derived.Test.YtbjbpbblalcpkaaRefGet
namespace Go.Proofs.Ytbjbpbblalcpkaa
open Go.RowKit Go.WideShapes
set_option linter.unusedVariables false
/-- Four bytes of a row, as a number. -/
def win (S : List Int) (n : Nat) : Int := S.getD n 0 * 16777216 + S.getD (n + 1) 0 * 65536 + S.getD (n + 2) 0 * 256 + S.getD (n + 3) 0
theorem zN_win (S : List Int) (ho : Oct S) (n : Nat) : zN S (n + 4) = win S n := by
  have h0 := zN_le S ho n
  have e0 := zN_succ S n
  have e1 := zN_succ S (n + 1)
  have e2 := zN_succ S (n + 2)
  have e3 := zN_succ S (n + 3)
  have o0 := ho.getD n
  have o1 := ho.getD (n + 1)
  have o2 := ho.getD (n + 2)
  have o3 := ho.getD (n + 3)
  unfold win
  rw [show n + 1 + 1 = n + 2 from rfl] at e1
  rw [show n + 2 + 1 = n + 3 from rfl] at e2
  rw [show n + 3 + 1 = n + 4 from rfl] at e3
  generalize zN S n = a at *
  generalize zN S (n + 1) = b at *
  generalize zN S (n + 2) = c at *
  generalize zN S (n + 3) = d at *
  generalize S.getD n 0 = s at *
  generalize S.getD (n + 1) 0 = t at *
  generalize S.getD (n + 2) 0 = u at *
  generalize S.getD (n + 3) 0 = v at *
  rw [e3]
  clear e3
  have b1 : b % 256 = s := by omega
  clear e0
  have c1 : c % 65536 = s * 256 + t := by omega
  clear e1
  have d1 : d % 16777216 = s * 65536 + t * 256 + u := by omega
  clear e2
  omega
theorem win_next {S : List Int} (ho : Oct S) (n : Nat) : win S n = S.getD n 0 * 16777216 + win S (n + 1) / 256 := by
  have o4 := ho.getD (n + 4)
  unfold win
  rw [show n + 1 + 1 = n + 2 from rfl, show n + 1 + 2 = n + 3 from rfl, show n + 1 + 3 = n + 4 from rfl]
  omega
theorem shed_back {S : List Int} (ho : Oct S) : ∀ (k : Nat) (x y : Int), need x y = k → Ivl x y → ∀ n, (∀ i, i < k → S.getD (n + i) 0 = (norm x y).1.getD i 0) → (norm x y).2.1 ≤ win S (n + k) → win S (n + k) ≤ (norm x y).2.2 → x ≤ win S n ∧ win S n ≤ y
  | 0, x, y, hk, i, n, _, h1, h2 => by
    have h : x / 16777216 ≠ y / 16777216 := fun e => by have := (need_succ i e).1; omega
    rw [norm_done h] at h1 h2
    exact ⟨h1, h2⟩
  | k + 1, x, y, hk, i, n, hs, h1, h2 => by
    have h : x / 16777216 = y / 16777216 := Classical.byContradiction fun e => by rw [need_zero e] at hk; omega
    obtain ⟨hn, hi⟩ := need_succ i h
    rw [norm_more i h] at hs h1 h2
    simp only at h1 h2
    have h0 := hs 0 (by omega)
    simp only [List.getD_cons_zero, Nat.add_zero] at h0
    have ih := shed_back ho k _ _ (by omega) hi (n + 1) (fun j hj => by
      have := hs (j + 1) (by omega)
      simp only [List.getD_cons_succ] at this
      rw [← this]; congr 1; omega) (by rw [show n + 1 + k = n + (k + 1) by omega]; exact h1) (by rw [show n + 1 + k = n + (k + 1) by omega]; exact h2)
    rw [win_next ho n, h0]
    have x0 := i.x0
    have y1 := i.y1
    have xy := i.xy
    unfold nx ny at ih
    omega
/-- What an encoder is behind some bits: its interval, what it has shed. -/
def estep (s : Int × Int × List Int) (t : Int × Int) : Int × Int × List Int := ((step t.1 t.2 s.1 s.2.1).2.1, (step t.1 t.2 s.1 s.2.1).2.2, s.2.2 ++ (step t.1 t.2 s.1 s.2.1).1)
def est (s : Int × Int × List Int) (l : List (Int × Int)) : Int × Int × List Int := l.foldl estep s
def est0 : Int × Int × List Int := (0, 4294967295, [])
def Good (l : List (Int × Int)) : Prop := ∀ t ∈ l, (t.1 = 0 ∨ t.1 = 1) ∧ 1 ≤ t.2 ∧ t.2 ≤ 65535
theorem est_cons (s : Int × Int × List Int) (t : Int × Int) (l : List (Int × Int)) : est s (t :: l) = est (estep s t) l := rfl
theorem est_snoc (s : Int × Int × List Int) (t : Int × Int) (l : List (Int × Int)) : est s (l ++ [t]) = estep (est s l) t := by simp [est, List.foldl_append]
theorem est_nrm : ∀ (l : List (Int × Int)) (s : Int × Int × List Int), Good l → Nrm s.1 s.2.1 → Nrm (est s l).1 (est s l).2.1
  | [], s, _, h => h
  | t :: l, s, hg, h => by
    rw [est_cons]
    have ht := hg t (List.mem_cons_self ..)
    exact est_nrm l _ (fun u hu => hg u (List.mem_cons_of_mem _ hu)) (step_nrm h ht.2.1 ht.2.2)
theorem est_pre : ∀ (l : List (Int × Int)) (s : Int × Int × List Int), ∃ r, (est s l).2.2 = s.2.2 ++ r
  | [], s => ⟨[], by simp [est]⟩
  | t :: l, s => by
    obtain ⟨r, hr⟩ := est_pre l (estep s t)
    exact ⟨_, by rw [est_cons, hr]; unfold estep; simp only [List.append_assoc]; rfl⟩
theorem getD_app_right (a b : List Int) (i : Nat) : (a ++ b).getD (a.length + i) 0 = b.getD i 0 := by
  rw [List.getD_eq_getElem?_getD, List.getD_eq_getElem?_getD, List.getElem?_append_right (by omega)]
  congr 2
  omega
theorem win_four {x : Int} (x0 : 0 ≤ x) (x1 : x ≤ 4294967295) (a r : List Int) : win (a ++ ([x / 16777216, x / 65536 % 256, x / 256 % 256, x % 256] ++ r)) a.length = x := by
  unfold win
  have e0 := getD_app_right a ([x / 16777216, x / 65536 % 256, x / 256 % 256, x % 256] ++ r) 0
  have e1 := getD_app_right a ([x / 16777216, x / 65536 % 256, x / 256 % 256, x % 256] ++ r) 1
  have e2 := getD_app_right a ([x / 16777216, x / 65536 % 256, x / 256 % 256, x % 256] ++ r) 2
  have e3 := getD_app_right a ([x / 16777216, x / 65536 % 256, x / 256 % 256, x % 256] ++ r) 3
  rw [Nat.add_zero] at e0
  rw [e0, e1, e2, e3]
  simp
  omega
theorem cut_lo {b p x y : Int} (n : Nrm x y) (p0 : 1 ≤ p) (p1 : p ≤ 65535) : x ≤ cutX b p x y ∧ cutY b p x y ≤ y := by
  have h := n.df
  have hx := n.xy
  have hm := mid_in (x := x) (y := y) n.x0 (by omega) p0 p1
  unfold cutX cutY
  constructor <;> split <;> omega
theorem win_cut {S : List Int} (ho : Oct S) (s : Int × Int × List Int) (t : Int × Int) (h : Nrm s.1 s.2.1) (p0 : 1 ≤ t.2) (p1 : t.2 ≤ 65535) (r : List Int) (hS : S = (estep s t).2.2 ++ r)
    (h1 : (estep s t).1 ≤ win S (estep s t).2.2.length) (h2 : win S (estep s t).2.2.length ≤ (estep s t).2.1) : cutX t.1 t.2 s.1 s.2.1 ≤ win S s.2.2.length ∧ win S s.2.2.length ≤ cutY t.1 t.2 s.1 s.2.1 := by
  have hi := cut_ivl (b := t.1) h p0 p1
  have hl := norm_len _ _ _ rfl hi
  have e : (estep s t).2.2.length = s.2.2.length + need (cutX t.1 t.2 s.1 s.2.1) (cutY t.1 t.2 s.1 s.2.1) := by
    show (s.2.2 ++ (norm _ _).1).length = _
    rw [List.length_append, hl]
  rw [e] at h1 h2
  refine shed_back ho _ _ _ rfl hi s.2.2.length (fun i hij => ?_) h1 h2
  rw [hS]
  show ((s.2.2 ++ (norm (cutX t.1 t.2 s.1 s.2.1) (cutY t.1 t.2 s.1 s.2.1)).1) ++ r).getD _ 0 = _
  rw [List.append_assoc, getD_app_right, List.getD_eq_getElem?_getD, List.getD_eq_getElem?_getD, List.getElem?_append_left (by omega)]
theorem win_in {S : List Int} (ho : Oct S) (more : List Int) : ∀ (l : List (Int × Int)) (s : Int × Int × List Int), Good l → Nrm s.1 s.2.1 →
    S = (est s l).2.2 ++ (four (est s l).1 ++ more) → s.1 ≤ win S s.2.2.length ∧ win S s.2.2.length ≤ s.2.1
  | [], s, _, h, hS => by
    have hx := h.x0
    have hy := h.y1
    have hxy := h.xy
    have : win S s.2.2.length = s.1 := by rw [hS]; exact win_four hx (by omega) _ _
    omega
  | t :: l, s, hg, h, hS => by
    have ht := hg t (List.mem_cons_self ..)
    have hs := step_nrm (b := t.1) h ht.2.1 ht.2.2
    have hg' : Good l := fun u hu => hg u (List.mem_cons_of_mem _ hu)
    have ih := win_in ho more l (estep s t) hg' hs (by rw [est_cons] at hS; exact hS)
    obtain ⟨r, hr⟩ := est_pre l (estep s t)
    rw [est_cons, hr, List.append_assoc] at hS
    have hc := win_cut ho s t h ht.2.1 ht.2.2 _ hS ih.1 ih.2
    have hl := cut_lo (b := t.1) h ht.2.1 ht.2.2
    omega
/-- The bit that was put is told. -/
theorem bit_back {S : List Int} (ho : Oct S) (more : List Int) (l0 : List (Int × Int)) (t : Int × Int) (l1 : List (Int × Int)) (hg : Good (l0 ++ t :: l1)) (s : Int × Int × List Int) (h : Nrm s.1 s.2.1)
    (hS : S = (est s (l0 ++ t :: l1)).2.2 ++ (four (est s (l0 ++ t :: l1)).1 ++ more)) :
    bitOf (est s l0).1 (est s l0).2.1 t.2 (zN S ((est s l0).2.2.length + 4)) = t.1 := by
  have ht := hg t (by simp)
  have hg0 : Good l0 := fun u hu => hg u (by simp [hu])
  have hg1 : Good l1 := fun u hu => hg u (by simp [hu])
  have e : est s (l0 ++ t :: l1) = est (estep (est s l0) t) l1 := by simp [est, List.foldl_append]
  rw [e] at hS
  have hn := est_nrm l0 s hg0 h
  have hn1 : Nrm (estep (est s l0) t).1 (estep (est s l0) t).2.1 := step_nrm (b := t.1) hn ht.2.1 ht.2.2
  have hw := win_in ho more l1 (estep (est s l0) t) hg1 hn1 hS
  obtain ⟨r, hr⟩ := est_pre l1 (estep (est s l0) t)
  rw [hr, List.append_assoc] at hS
  have hc := win_cut ho (est s l0) t hn ht.2.1 ht.2.2 _ hS hw.1 hw.2
  rw [zN_win S ho]
  unfold bitOf
  unfold cutX cutY at hc
  rcases ht.1 with h0 | h0
  · rw [if_neg (by omega), if_neg (by omega)] at hc
    rw [if_neg (by omega), h0]
  · rw [if_pos h0, if_pos h0] at hc
    rw [if_pos (by omega), h0]
theorem est_len : ∀ (l : List (Int × Int)) (s : Int × Int × List Int), Good l → Nrm s.1 s.2.1 → (est s l).2.2.length ≤ s.2.2.length + 4 * l.length
  | [], s, _, _ => by simp [est]
  | t :: l, s, hg, h => by
    have ht := hg t (List.mem_cons_self ..)
    rw [est_cons]
    have := est_len l (estep s t) (fun u hu => hg u (List.mem_cons_of_mem _ hu)) (step_nrm h ht.2.1 ht.2.2)
    have e : (estep s t).2.2.length ≤ s.2.2.length + 4 := by
      show (s.2.2 ++ (norm _ _).1).length ≤ _
      rw [List.length_append, norm_len _ _ _ rfl (cut_ivl h ht.2.1 ht.2.2)]
      have := need_le (cutX t.1 t.2 s.1 s.2.1) (cutY t.1 t.2 s.1 s.2.1)
      omega
    rw [List.length_cons]
    omega
theorem est_oct : ∀ (l : List (Int × Int)) (s : Int × Int × List Int), Good l → Nrm s.1 s.2.1 → Oct s.2.2 → Oct (est s l).2.2
  | [], s, _, _, ho => ho
  | t :: l, s, hg, h, ho => by
    have ht := hg t (List.mem_cons_self ..)
    rw [est_cons]
    exact est_oct l (estep s t) (fun u hu => hg u (List.mem_cons_of_mem _ hu)) (step_nrm h ht.2.1 ht.2.2) (ho.append (norm_oct _ _ _ rfl (cut_ivl h ht.2.1 ht.2.2)))
theorem four_oct {x : Int} (x0 : 0 ≤ x) (x1 : x ≤ 4294967295) : Oct (four x) := fun u hu => by
  unfold four at hu
  simp at hu
  omega
end Go.Proofs.Ytbjbpbblalcpkaa
