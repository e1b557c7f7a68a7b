/- A model's bytes, and what bytes say: plain. Theorems on lists alone. -/
import Derived.Test.YtaiekpdoljleeaaPaStand
namespace Go.Proofs.Ytaiekpdoljleeaa
open Go.RowKit Go.WideShapes
set_option linter.unusedVariables false
set_option linter.unusedSimpArgs false
/-- A model. -/
structure Md where
  h : Int
  m : Int
  ph : Int
  pm : Int
  ts : List Pt
  code : List Int
  post : List Int
def Md.zero : Md := ⟨0, 0, 0, 0, [], [], []⟩
/-- May its numbers be? -/
def okM (d : Md) : Bool :=
  decide (0 ≤ d.h) && decide (d.h ≤ 8) && decide (0 ≤ d.ph) && decide (d.ph ≤ 8) && decide (0 ≤ d.m) && decide (d.m ≤ 12) && decide (0 ≤ d.pm) && decide (d.pm ≤ 12) && decide (d.code.length ≤ 4096) && decide (d.post.length ≤ 4096) &&
  (decide (d.post.length ≠ 0) || (decide (d.ph = 0) && decide (d.pm = 0))) && decide ((d.ts.length : Int) ≤ pw d.h)
def rightM (d : Md) : Int := if okM d then rightP d.ts else 131
/-- Has a kind a field: 1 Size, 2 A, 3 B, 4 C, 5 Rate, 6 Limit. -/
def hasK (k : Int) (j : Nat) : Bool :=
  if k = 1 then j == 4 else if k = 2 then j == 1 || j == 6 else if k = 3 then j == 1 else if k = 4 then j == 1 else if k = 5 then j == 2 || j == 3 || j == 4 else
  if k = 6 then j == 1 || j == 2 || j == 3 || j == 5 else if k = 7 then j == 1 || j == 2 || j == 3 || j == 5 else if k = 8 then j == 1 || j == 2 else if k = 9 then j == 1 || j == 2 || j == 6 else false
def fdsK (k : Int) : List Nat := [1, 2, 3, 4, 5, 6].filter (hasK k)
def wide (j : Nat) : Bool := j == 4 || j == 6
def moreF (j : Nat) : Int := if j = 4 then 2048 else 0
def Pt.get (t : Pt) (j : Nat) : Int := if j = 1 then t.s else if j = 2 then t.a else if j = 3 then t.b else if j = 4 then t.c else if j = 5 then t.r else t.l
def Pt.set (t : Pt) (j : Nat) (v : Int) : Pt := if j = 1 then { t with s := v } else if j = 2 then { t with a := v } else if j = 3 then { t with b := v } else if j = 4 then { t with c := v } else if j = 5 then { t with r := v } else { t with l := v }
/-- A field's bytes. -/
def fB (j : Nat) (n : Int) : List Int := if wide j then [n / 256, n % 256] else [n]
def octP (t : Pt) : List Int := t.k :: (fdsK t.k).flatMap fun j => fB j (t.get j + moreF j)
def two (n : Nat) : List Int := [(n : Int) / 256, (n : Int) % 256]
def bytesM (d : Md) : List Int := [d.h, d.m, d.ph, d.pm, (d.ts.length : Int)] ++ d.ts.flatMap octP ++ (two d.code.length ++ d.code) ++ (two d.post.length ++ d.post)
/-- What is left to read; none: it was not enough. -/
abbrev Left := Option (List Int)
def nx (n : Nat) : Left → Left × List Int
  | some r => if n ≤ r.length then (some (r.drop n), r.take n) else (none, List.replicate n 0)
  | none => (none, List.replicate n 0)
def fdG (q : Left × Pt) (j : Nat) : Left × Pt :=
  if wide j then ((nx 1 (nx 1 q.1).1).1, q.2.set j ((nx 1 q.1).2.headD 0 * 256 + (nx 1 (nx 1 q.1).1).2.headD 0 - moreF j)) else ((nx 1 q.1).1, q.2.set j ((nx 1 q.1).2.headD 0 - moreF j))
def ptZ (k : Int) : Pt := ⟨k, 0, 0, 0, 0, 0, 0⟩
/-- A part's fields. -/
def ptG (r : List Int) (k : Int) : Left × Pt := (fdsK k).foldl fdG (some r, ptZ k)
def partsG : Nat → Left → List Pt → Option (Left × List Pt)
  | 0, r, acc => some (r, acc)
  | n + 1, r, acc => match (nx 1 r).1 with
    | none => some (none, acc)
    | some r1 => bif okK ((nx 1 r).2.headD 0) then partsG n (ptG r1 ((nx 1 r).2.headD 0)).1 (acc ++ [(ptG r1 ((nx 1 r).2.headD 0)).2]) else none
/-- A program: two bytes that say how many, and these. -/
def codeG (r : Left) : Left × List Int := nx (((nx 2 r).2.getD 0 0 * 256 + (nx 2 r).2.getD 1 0).toNat) (nx 2 r).1
def headG (bs : List Int) : Left × List Int := nx 5 (some bs)
def endG (bs : List Int) (h : List Int) (q : Left × List Pt) : Md × Int × Int :=
  match (codeG (codeG q.1).1).1 with
  | none => (Md.zero, 0, 12)
  | some rest => if rightM ⟨h.getD 0 0, h.getD 1 0, h.getD 2 0, h.getD 3 0, q.2, (codeG q.1).2, (codeG (codeG q.1).1).2⟩ = 0 then (⟨h.getD 0 0, h.getD 1 0, h.getD 2 0, h.getD 3 0, q.2, (codeG q.1).2, (codeG (codeG q.1).1).2⟩, (bs.length : Int) - (rest.length : Int), 0) else (Md.zero, 0, 131)
def getM (bs : List Int) : Md × Int × Int :=
  match partsG ((headG bs).2.getD 4 0).toNat (headG bs).1 [] with
  | none => (Md.zero, 0, 131)
  | some q => endG bs (headG bs).2 q
theorem nx_none (n : Nat) : nx n none = (none, List.replicate n 0) := rfl
theorem nx_ok {n : Nat} {r : List Int} (h : n ≤ r.length) : nx n (some r) = (some (r.drop n), r.take n) := by simp [nx, h]
theorem nx_no {n : Nat} {r : List Int} (h : r.length < n) : nx n (some r) = (none, List.replicate n 0) := by simp [nx, Nat.not_le.2 h]
theorem nx_app {n : Nat} (u rest : List Int) (h : u.length = n) : nx n (some (u ++ rest)) = (some rest, u) := by
  rw [nx_ok (by simp; omega), List.drop_append_of_le_length (by omega), List.take_append_of_le_length (by omega)]
  subst h
  simp
theorem nx_one (x : Int) (rest : List Int) : nx 1 (some (x :: rest)) = (some rest, [x]) := nx_app [x] rest rfl
theorem nx_len (n : Nat) (r : Left) : (nx n r).2.length = n := by
  rcases r with _ | r
  · simp [nx]
  · by_cases h : n ≤ r.length
    · rw [nx_ok h]; simp; omega
    · rw [nx_no (by omega)]; simp
/-- What was read stood there. -/
theorem nx_inv {n : Nat} {r : Left} {r' o : List Int} (h : nx n r = (some r', o)) : r = some (o ++ r') ∧ o.length = n := by
  rcases r with _ | r
  · simp [nx] at h
  · by_cases hn : n ≤ r.length
    · rw [nx_ok hn] at h
      simp only [Prod.mk.injEq, Option.some.injEq] at h
      obtain ⟨rfl, rfl⟩ := h
      simp; omega
    · rw [nx_no (by omega)] at h; simp at h
theorem field_get (j : Nat) (n : Int) (rest : List Int) (t : Pt) : fdG (some (fB j n ++ rest), t) j = (some rest, t.set j (n - moreF j)) := by
  unfold fdG fB
  cases hw : wide j
  · simp [nx_one]
  · simp [nx_one]
    congr 1; omega
/-- A part that is right: its numbers. -/
structure PtIn (t : Pt) : Prop where
  kind : okK t.k = true
  keep : fieldsP t = t
  s : 0 ≤ t.s ∧ t.s ≤ 255
  a : 0 ≤ t.a ∧ t.a ≤ 255
  b : 0 ≤ t.b ∧ t.b ≤ 255
  c : 0 ≤ t.c + 2048 ∧ t.c + 2048 ≤ 65535
  r : 0 ≤ t.r ∧ t.r ≤ 255
  l : 0 ≤ t.l ∧ t.l ≤ 65535
theorem ptIn_of (t : Pt) (i : Int) (h : oneP t i = true) (h16 : i ≤ 16) : PtIn t := by
  have hf := one_fields t i h
  have hk0 : okK t.k = true := by
    unfold oneP at h
    simp only [Bool.and_eq_true] at h
    exact h.1.1.1.1.1.1
  have hall : (0 ≤ t.s ∧ t.s ≤ 255) ∧ (0 ≤ t.a ∧ t.a ≤ 255) ∧ (0 ≤ t.b ∧ t.b ≤ 255) ∧ (0 ≤ t.c + 2048 ∧ t.c + 2048 ≤ 65535) ∧ (0 ≤ t.r ∧ t.r ≤ 255) ∧ (0 ≤ t.l ∧ t.l ≤ 65535) := by
    obtain ⟨k, s, a, b, c, r, l⟩ := t
    simp only
    clear hf hk0
    rcases kind_cases k with rfl | rfl | rfl | rfl | rfl | rfl | rfl | rfl | rfl | hk
    all_goals first
      | (rw [one_none k s a b c r l i hk] at h; cases h; done)
      | (simp [oneP, okK, rowK, inB] at h; (try split at h); all_goals omega)
  obtain ⟨a1, a2, a3, a4, a5, a6⟩ := hall
  exact ⟨hk0, hf, a1, a2, a3, a4, a5, a6⟩
theorem part_get (t : Pt) (rest : List Int) (h : PtIn t) : ptG (((fdsK t.k).flatMap fun j => fB j (t.get j + moreF j)) ++ rest) t.k = (some rest, t) := by
  obtain ⟨hk, hf, _⟩ := h
  obtain ⟨k, s, a, b, c, r, l⟩ := t
  simp only at hk ⊢
  unfold ptG
  rcases kind_cases k with rfl | rfl | rfl | rfl | rfl | rfl | rfl | rfl | rfl | hx
  all_goals first
    | (unfold okK at hk; simp at hk; omega)
    | (simp [fieldsP] at hf
       simp [fdsK, hasK, List.filter, field_get, List.append_assoc, Pt.set, Pt.get, ptZ, moreF, hf]
       try omega)
theorem parts_get : ∀ (ts : List Pt) (rest : List Int) (acc : List Pt), (∀ t ∈ ts, PtIn t) → partsG ts.length (some (ts.flatMap octP ++ rest)) acc = some (some rest, acc ++ ts)
  | [], rest, acc, _ => by simp [partsG]
  | t :: ts, rest, acc, h => by
    have ht := h t (by simp)
    rw [List.flatMap_cons, List.append_assoc, List.length_cons, partsG]
    have e : octP t ++ (ts.flatMap octP ++ rest) = t.k :: (((fdsK t.k).flatMap fun j => fB j (t.get j + moreF j)) ++ (ts.flatMap octP ++ rest)) := rfl
    rw [e, nx_one]
    simp only [List.headD_cons]
    rw [ht.kind, part_get t _ ht]
    simp only [cond_true]
    rw [parts_get ts rest _ fun t ht => h t (by simp [ht])]
    simp
theorem code_get (c rest : List Int) (h : c.length ≤ 65535) : codeG (some (two c.length ++ c ++ rest)) = (some rest, c) := by
  unfold codeG
  rw [List.append_assoc, nx_app (n := 2) (two c.length) _ rfl]
  simp only [two, List.getD_cons_zero, List.getD_cons_succ]
  rw [show ((c.length : Int) / 256 * 256 + (c.length : Int) % 256).toNat = c.length by omega]
  exact nx_app c rest rfl
theorem okM_iff (d : Md) : okM d = true ↔ (0 ≤ d.h ∧ d.h ≤ 8 ∧ 0 ≤ d.ph ∧ d.ph ≤ 8 ∧ 0 ≤ d.m ∧ d.m ≤ 12 ∧ 0 ≤ d.pm ∧ d.pm ≤ 12 ∧ d.code.length ≤ 4096 ∧ d.post.length ≤ 4096 ∧ (d.post.length = 0 → d.ph = 0 ∧ d.pm = 0) ∧ (d.ts.length : Int) ≤ pw d.h) := by
  unfold okM
  simp only [Bool.and_eq_true, Bool.or_eq_true, decide_eq_true_eq]
  constructor
  · rintro ⟨⟨⟨⟨⟨⟨⟨⟨⟨⟨⟨a, b⟩, c⟩, x⟩, e⟩, f⟩, g⟩, h⟩, i⟩, j⟩, k⟩, l⟩
    exact ⟨a, b, c, x, e, f, g, h, i, j, fun h0 => k.elim (fun hn => absurd h0 hn) id, l⟩
  · rintro ⟨a, b, c, x, e, f, g, h, i, j, k, l⟩
    refine ⟨⟨⟨⟨⟨⟨⟨⟨⟨⟨⟨a, b⟩, c⟩, x⟩, e⟩, f⟩, g⟩, h⟩, i⟩, j⟩, ?_⟩, l⟩
    by_cases h0 : d.post.length = 0
    · exact .inr (k h0)
    · exact .inl h0
theorem rightM_zero {d : Md} (h : rightM d = 0) : okM d = true ∧ rightP d.ts = 0 := by
  unfold rightM at h
  split at h
  · exact ⟨by assumption, h⟩
  · omega
theorem ptIn_all {d : Md} (h : rightM d = 0) : ∀ t ∈ d.ts, PtIn t := fun t ht => by
  obtain ⟨h1, h2, h3, h4⟩ := right_zero (rightM_zero h).2
  obtain ⟨j, hj⟩ := List.mem_iff_getElem?.1 ht
  have hlt : j < d.ts.length := (List.getElem?_eq_some_iff.1 hj).1
  have := h3 j hlt
  rw [oneAt_of hj] at this
  exact ptIn_of t j this (by omega)
theorem head_get (d : Md) (rest : List Int) : headG (bytesM d ++ rest) = (some (d.ts.flatMap octP ++ ((two d.code.length ++ d.code) ++ ((two d.post.length ++ d.post) ++ rest))), [d.h, d.m, d.ph, d.pm, (d.ts.length : Int)]) := by
  unfold headG bytesM
  rw [List.append_assoc, List.append_assoc, List.append_assoc]
  exact nx_app _ _ rfl
/-- What was put is got, whatever stands behind. -/
theorem get_put (d : Md) (rest : List Int) (h : rightM d = 0) : getM (bytesM d ++ rest) = (d, ((bytesM d).length : Int), 0) := by
  have hin := ptIn_all h
  have ho := (okM_iff d).1 (rightM_zero h).1
  unfold getM
  rw [head_get]
  simp only [List.getD_cons_succ, List.getD_cons_zero, Int.toNat_natCast]
  rw [parts_get d.ts _ [] hin]
  simp only [List.nil_append]
  unfold endG
  simp only
  rw [code_get d.code _ (by omega)]
  simp only
  rw [code_get d.post _ (by omega)]
  simp only [List.getD_cons_succ, List.getD_cons_zero]
  rw [if_pos h]
  simp
/-- One reader stands behind the other, which was cut. -/
def Cut (r s : Left) : Prop := s = none ∨ ∃ r0 j, r = some r0 ∧ s = some (r0.take j) ∧ j < r0.length
theorem cut_nx {r s : Left} (h : Cut r s) (n : Nat) (hr : (nx n r).1 ≠ none) : Cut (nx n r).1 (nx n s).1 ∧ ((nx n s).1 = none ∨ (nx n s).2 = (nx n r).2) := by
  rcases h with rfl | ⟨r0, j, rfl, rfl, hj⟩
  · exact ⟨.inl rfl, .inl rfl⟩
  · by_cases hn : n ≤ r0.length
    · rw [nx_ok hn]
      by_cases hnj : n ≤ j
      · rw [nx_ok (by simp; omega)]
        refine ⟨.inr ⟨r0.drop n, j - n, rfl, ?_, by rw [List.length_drop]; omega⟩, .inr ?_⟩
        · simp [List.drop_take]
        · show (r0.take j).take n = r0.take n
          rw [List.take_take, Nat.min_eq_left hnj]
      · rw [nx_no (by simp; omega)]
        exact ⟨.inl rfl, .inl rfl⟩
    · rw [nx_no (by omega)] at hr
      exact absurd rfl hr
theorem fdG_left (q : Left × Pt) (j : Nat) (h : q.1 = none) : (fdG q j).1 = none := by
  unfold fdG
  rw [h]
  cases wide j <;> simp [nx_none]
theorem foldG_left : ∀ (l : List Nat) (q : Left × Pt), q.1 = none → (l.foldl fdG q).1 = none
  | [], q, h => h
  | j :: l, q, h => foldG_left l _ (fdG_left q j h)
theorem cut_fd {q p : Left × Pt} (j : Nat) (h : Cut q.1 p.1) (h2 : p.1 = none ∨ p.2 = q.2) (hr : (fdG q j).1 ≠ none) : Cut (fdG q j).1 (fdG p j).1 ∧ ((fdG p j).1 = none ∨ (fdG p j).2 = (fdG q j).2) := by
  rcases h2 with h2 | h2
  · exact ⟨.inl (fdG_left p j h2), .inl (fdG_left p j h2)⟩
  · unfold fdG at hr ⊢
    cases hw : wide j
    · rw [hw] at hr
      simp only [Bool.false_eq_true, if_false] at hr ⊢
      obtain ⟨c1, c2⟩ := cut_nx h 1 hr
      refine ⟨c1, c2.elim .inl fun e => .inr ?_⟩
      rw [e, h2]
    · rw [hw] at hr
      simp only [if_true] at hr ⊢
      have hr1 : (nx 1 q.1).1 ≠ none := fun e => hr (by rw [e]; rfl)
      obtain ⟨c1, c2⟩ := cut_nx h 1 hr1
      obtain ⟨d1, d2⟩ := cut_nx c1 1 hr
      refine ⟨d1, ?_⟩
      rcases c2 with e | e
      · rw [e]; exact .inl rfl
      · rcases d2 with f | f
        · exact .inl f
        · right; rw [e, f, h2]
theorem cut_fold : ∀ (l : List Nat) (q p : Left × Pt), Cut q.1 p.1 → (p.1 = none ∨ p.2 = q.2) → (l.foldl fdG q).1 ≠ none → Cut (l.foldl fdG q).1 (l.foldl fdG p).1 ∧ ((l.foldl fdG p).1 = none ∨ (l.foldl fdG p).2 = (l.foldl fdG q).2)
  | [], q, p, h, h2, _ => ⟨h, h2⟩
  | j :: l, q, p, h, h2, hr => by
    simp only [List.foldl_cons] at hr ⊢
    have hr1 : (fdG q j).1 ≠ none := fun e => hr (foldG_left l _ e)
    obtain ⟨c1, c2⟩ := cut_fd j h h2 hr1
    exact cut_fold l _ _ c1 c2 hr
theorem parts_none (n : Nat) (acc : List Pt) : partsG n none acc = some (none, acc) := by
  cases n <;> simp [partsG, nx_none]
theorem cut_parts : ∀ (n : Nat) (r s : Left) (acc : List Pt) (x : List Int) (ts : List Pt), Cut r s → partsG n r acc = some (some x, ts) → ∃ y us, partsG n s acc = some (y, us) ∧ Cut (some x) y
  | 0, r, s, acc, x, ts, h, e => by
    simp only [partsG, Option.some.injEq, Prod.mk.injEq] at e
    rw [e.1] at h
    exact ⟨s, acc, rfl, h⟩
  | n + 1, r, s, acc, x, ts, h, e => by
    rw [partsG] at e
    rcases hx : (nx 1 r).1 with _ | r1
    · rw [hx] at e; simp at e
    · obtain ⟨c1, c2⟩ := cut_nx h 1 (by rw [hx]; simp)
      rw [hx] at e c1
      simp only at e
      rw [partsG]
      rcases hy : (nx 1 s).1 with _ | s1
      · exact ⟨none, acc, rfl, .inl rfl⟩
      · rw [hy] at c1 c2
        simp at c2
        simp only
        rw [c2]
        by_cases hk : okK ((nx 1 r).2.headD 0) = true
        · rw [hk] at e ⊢
          simp only [cond_true] at e ⊢
          generalize (nx 1 r).2.headD 0 = k at *
          have hr : (ptG r1 k).1 ≠ none := fun en => by
            rw [en, parts_none] at e
            simp at e
          obtain ⟨d1, d2⟩ := cut_fold (fdsK k) (some r1, ptZ k) (some s1, ptZ k) c1 (.inr rfl) hr
          rcases d2 with d2 | d2
          · refine ⟨none, acc ++ [(ptG s1 k).2], ?_, .inl rfl⟩
            show partsG n (ptG s1 k).1 _ = _
            rw [show (ptG s1 k).1 = none from d2, parts_none]
          · rw [show (ptG s1 k).2 = (ptG r1 k).2 from d2]
            exact cut_parts n _ _ _ x ts d1 e
        · rw [show okK ((nx 1 r).2.headD 0) = false by simpa using hk] at e; cases e
theorem code_none : (codeG none).1 = none := rfl
theorem cut_code {r s : Left} (h : Cut r s) (hr : (codeG r).1 ≠ none) : Cut (codeG r).1 (codeG s).1 := by
  have hr1 : (nx 2 r).1 ≠ none := fun e => hr (by unfold codeG; rw [e]; rfl)
  obtain ⟨c1, c2⟩ := cut_nx h 2 hr1
  unfold codeG at hr ⊢
  rcases c2 with e | e
  · rw [e]; exact .inl rfl
  · rw [e]; exact (cut_nx c1 _ hr).1
/-- Of what was put and cut nothing is got. -/
theorem get_cut (d : Md) (i : Nat) (h : rightM d = 0) (hi : i < (bytesM d).length) : getM ((bytesM d).take i) = (Md.zero, 0, 12) := by
  have hin := ptIn_all h
  have ho := (okM_iff d).1 (rightM_zero h).1
  have hh := head_get d []
  rw [List.append_nil] at hh
  have hp := parts_get d.ts ((two d.code.length ++ d.code) ++ ((two d.post.length ++ d.post) ++ [])) [] hin
  have hc0 : Cut (some (bytesM d)) (some ((bytesM d).take i)) := .inr ⟨_, i, rfl, rfl, hi⟩
  obtain ⟨c1, c2⟩ := cut_nx hc0 5 (by show (headG (bytesM d)).1 ≠ none; rw [hh]; simp)
  change Cut (headG (bytesM d)).1 (headG ((bytesM d).take i)).1 at c1
  change (headG ((bytesM d).take i)).1 = none ∨ (headG ((bytesM d).take i)).2 = (headG (bytesM d)).2 at c2
  rw [hh] at c1 c2
  simp only at c1 c2
  have key : ∃ y us, partsG ((headG ((bytesM d).take i)).2.getD 4 0).toNat (headG ((bytesM d).take i)).1 [] = some (y, us) ∧ (codeG (codeG y).1).1 = none := by
    rcases c2 with e | e
    · rw [e, parts_none]
      exact ⟨none, _, rfl, rfl⟩
    · rw [e]
      simp only [List.getD_cons_succ, List.getD_cons_zero, Int.toNat_natCast]
      obtain ⟨y, us, e1, c3⟩ := cut_parts _ _ _ [] _ _ c1 hp
      refine ⟨y, us, e1, ?_⟩
      have g1 := code_get d.code ((two d.post.length ++ d.post) ++ []) (by omega)
      have g2 := code_get d.post [] (by omega)
      have c4 := cut_code c3 (by rw [g1]; simp)
      rw [g1] at c4
      have c5 := cut_code c4 (by rw [g2]; simp)
      rw [g2] at c5
      rcases c5 with c5 | ⟨r0, j, e0, _, hj⟩
      · exact c5
      · simp only [Option.some.injEq] at e0
        subst e0
        simp at hj
  obtain ⟨y, us, e1, e2⟩ := key
  unfold getM
  rw [e1]
  simp only
  unfold endG
  simp only [e2]
theorem oct1 {x : Int} (h : 0 ≤ x ∧ x ≤ 255) : x / 256 = 0 ∧ x % 256 = x := by omega
/-- A field's bytes are those that were read. -/
theorem fd_inv (j : Nat) (r : List Int) (t t' : Pt) (x : List Int) (ho : Oct r) (h : fdG (some r, t) j = (some x, t')) : ∃ n, r = fB j (n + moreF j) ++ x ∧ t' = t.set j n ∧ 0 ≤ n + moreF j := by
  unfold fdG at h
  simp only at h
  unfold fB
  cases hw : wide j
  · rw [hw] at h
    simp only [Bool.false_eq_true, if_false, Prod.mk.injEq] at h ⊢
    rcases hx : nx 1 (some r) with ⟨r1, o⟩
    rw [hx] at h
    simp only at h
    obtain ⟨rfl, rfl⟩ := h
    obtain ⟨e, hl⟩ := nx_inv hx
    obtain ⟨y, rfl⟩ := List.length_eq_one_iff.1 hl
    simp only [Option.some.injEq] at e
    refine ⟨y - moreF j, by rw [e]; simp, rfl, ?_⟩
    have := ho y (by rw [e]; simp)
    omega
  · rw [hw] at h
    simp only [if_true, Prod.mk.injEq] at h ⊢
    rcases hx : nx 1 (some r) with ⟨r1, o⟩
    rw [hx] at h
    simp only at h
    rcases r1 with _ | r1
    · simp [nx] at h
    rcases hy : nx 1 (some r1) with ⟨r2, o2⟩
    rw [hy] at h
    simp only at h
    obtain ⟨rfl, rfl⟩ := h
    obtain ⟨e, hl⟩ := nx_inv hx
    obtain ⟨e2, hl2⟩ := nx_inv hy
    obtain ⟨y, rfl⟩ := List.length_eq_one_iff.1 hl
    obtain ⟨z, rfl⟩ := List.length_eq_one_iff.1 hl2
    simp only [Option.some.injEq] at e e2
    have h1 := ho y (by rw [e]; simp)
    have h2 := ho z (by rw [e, e2]; simp)
    refine ⟨y * 256 + z - moreF j, ?_, rfl, by omega⟩
    rw [e, e2]
    simp
    omega
theorem fold_inv : ∀ (l : List Nat) (r : List Int) (t t' : Pt) (x : List Int), Oct r → l.foldl fdG (some r, t) = (some x, t') → ∃ ns : List (Nat × Int), ns.map (·.1) = l ∧ r = ns.flatMap (fun p => fB p.1 (p.2 + moreF p.1)) ++ x ∧ t' = ns.foldl (fun t p => t.set p.1 p.2) t
  | [], r, t, t', x, ho, h => by
    simp only [List.foldl_nil, Prod.mk.injEq, Option.some.injEq] at h
    exact ⟨[], rfl, by simp [h.1], by simp [h.2]⟩
  | j :: l, r, t, t', x, ho, h => by
    rw [List.foldl_cons] at h
    rcases hq : fdG (some r, t) j with ⟨r1, t1⟩
    rw [hq] at h
    rcases r1 with _ | r1
    · have := foldG_left l (none, t1) rfl
      rw [h] at this
      cases this
    · obtain ⟨n, e, e2, _⟩ := fd_inv j r t t1 r1 ho hq
      obtain ⟨ns, f1, f2, f3⟩ := fold_inv l r1 t1 t' x (fun y hy => ho y (by rw [e]; simp [hy])) h
      exact ⟨(j, n) :: ns, by simp [f1], by rw [e, f2]; simp, by rw [f3, e2]; rfl⟩
theorem pt_inv (k : Int) (r : List Int) (t : Pt) (x : List Int) (ho : Oct r) (h : ptG r k = (some x, t)) : t.k = k ∧ k :: r = octP t ++ x := by
  obtain ⟨ns, f1, f2, f3⟩ := fold_inv (fdsK k) r (ptZ k) t x ho h
  rw [f2]
  clear h f2
  have hz : (okK k = true) ∨ fdsK k = [] := by
    rcases kind_cases k with rfl | rfl | rfl | rfl | rfl | rfl | rfl | rfl | rfl | hx
    all_goals first
      | (left; rfl)
      | (right; unfold fdsK; rw [show hasK k = fun _ => false from funext fun j => by unfold hasK; (repeat rw [if_neg (by omega)])]; rfl)
  unfold octP
  rcases kind_cases k with rfl | rfl | rfl | rfl | rfl | rfl | rfl | rfl | rfl | hx
  all_goals first
    | (simp [fdsK, hasK, List.filter] at f1
       rcases ns with _ | ⟨⟨j1, n1⟩, _ | ⟨⟨j2, n2⟩, _ | ⟨⟨j3, n3⟩, _ | ⟨⟨j4, n4⟩, _ | ⟨p5, ns⟩⟩⟩⟩⟩
       all_goals first
         | (simp at f1; done)
         | (simp at f1
            simp only [f1, List.foldl_cons, List.foldl_nil] at f3
            subst f3
            refine ⟨rfl, ?_⟩
            simp [f1, fdsK, hasK, List.filter, Pt.set, Pt.get, ptZ, List.flatMap_cons, List.append_assoc]))
    | (rcases hz with hz | hz
       · unfold okK at hz; simp at hz; omega
       · rw [hz] at f1
         obtain rfl : ns = [] := by simpa using f1
         simp only [List.foldl_nil] at f3
         subst f3
         exact ⟨rfl, by show _ = _ :: (fdsK k).flatMap _ ++ x; rw [hz]; simp [ptZ]⟩)
theorem parts_inv : ∀ (n : Nat) (r : List Int) (acc ts : List Pt) (x : List Int), Oct r → partsG n (some r) acc = some (some x, ts) → ∃ us, ts = acc ++ us ∧ us.length = n ∧ r = us.flatMap octP ++ x
  | 0, r, acc, ts, x, ho, h => by
    simp only [partsG, Option.some.injEq, Prod.mk.injEq] at h
    exact ⟨[], by simp [h.2], rfl, by simp [h.1]⟩
  | n + 1, r, acc, ts, x, ho, h => by
    rw [partsG] at h
    rcases hx : nx 1 (some r) with ⟨r1, o⟩
    rw [hx] at h
    rcases r1 with _ | r1
    · simp at h
    · obtain ⟨e, hl⟩ := nx_inv hx
      obtain ⟨k, rfl⟩ := List.length_eq_one_iff.1 hl
      simp only [Option.some.injEq] at e
      simp only [List.headD_cons] at h
      by_cases hk : okK k = true
      · rw [hk] at h
        simp only [cond_true] at h
        have ho1 : Oct r1 := fun y hy => ho y (by rw [e]; simp [hy])
        rcases hp : ptG r1 k with ⟨r2, t⟩
        rw [hp] at h
        simp only at h
        rcases r2 with _ | r2
        · rw [parts_none] at h; simp at h
        · obtain ⟨_, e2⟩ := pt_inv k r1 t r2 ho1 hp
          have ho2 : Oct r2 := fun y hy => by
            have : y ∈ k :: r1 := by rw [e2]; simp [hy]
            exact ho y (by rw [e]; exact this)
          obtain ⟨us, f1, f2, f3⟩ := parts_inv n r2 _ ts x ho2 h
          refine ⟨t :: us, by rw [f1]; simp, by simp [f2], ?_⟩
          rw [e]
          show k :: r1 = _
          rw [e2, f3]
          simp
      · rw [show okK k = false by simpa using hk] at h; cases h
theorem code_inv {r x c : List Int} (ho : Oct r) (h : codeG (some r) = (some x, c)) : r = two c.length ++ c ++ x ∧ c.length ≤ 65535 := by
  unfold codeG at h
  rcases hx : nx 2 (some r) with ⟨r1, o⟩
  rw [hx] at h
  simp only at h
  rcases r1 with _ | r1
  · simp [nx] at h
  obtain ⟨e, hl⟩ := nx_inv hx
  rcases o with _ | ⟨a, _ | ⟨b, _ | ⟨z, o⟩⟩⟩
  · simp at hl
  · simp at hl
  · simp only [List.getD_cons_zero, List.getD_cons_succ] at h
    obtain ⟨e2, hl2⟩ := nx_inv h
    simp only [Option.some.injEq] at e e2
    have ha := ho a (by rw [e]; simp)
    have hb := ho b (by rw [e]; simp)
    have hc : (c.length : Int) = a * 256 + b := by omega
    refine ⟨?_, by omega⟩
    rw [e, e2]
    unfold two
    rw [hc]
    simp
    omega
  · simp at hl
theorem head_inv {bs x o : List Int} (h : headG bs = (some x, o)) : bs = o ++ x ∧ o.length = 5 := by
  obtain ⟨e, hl⟩ := nx_inv h
  exact ⟨by simpa using e, hl⟩
/-- Bytes that say a model are the ones that it is put into. -/
theorem put_get (bs : List Int) (d : Md) (n : Int) (ho : Oct bs) (h : getM bs = (d, n, 0)) : rightM d = 0 ∧ ∃ k : Nat, n = (k : Int) ∧ k ≤ bs.length ∧ bytesM d = bs.take k := by
  unfold getM at h
  rcases hp : partsG ((headG bs).2.getD 4 0).toNat (headG bs).1 [] with _ | q
  · rw [hp] at h; simp at h
  rw [hp] at h
  simp only at h
  unfold endG at h
  rcases hc : (codeG (codeG q.1).1).1 with _ | rest
  · rw [hc] at h; simp at h
  rw [hc] at h
  simp only at h
  split at h
  · rename_i hr
    simp only [Prod.mk.injEq] at h
    obtain ⟨rfl, rfl, _⟩ := h
    refine ⟨hr, ?_⟩
    obtain ⟨q1, ts⟩ := q
    simp only at hc hr hp ⊢
    rcases hh : headG bs with ⟨h1, o⟩
    simp only [hh] at hr hp ⊢
    rcases q1 with _ | q1
    · simp [code_none] at hc
    rcases h1 with _ | h1
    · rw [parts_none] at hp; simp at hp
    obtain ⟨e1, l1⟩ := head_inv hh
    have o1 : Oct h1 := fun y hy => ho y (by rw [e1]; simp [hy])
    obtain ⟨us, f1, f2, f3⟩ := parts_inv _ _ _ _ _ o1 hp
    simp only [List.nil_append] at f1
    subst f1
    have o2 : Oct q1 := fun y hy => o1 y (by rw [f3]; simp [hy])
    rcases hc1 : codeG (some q1) with ⟨r2, c⟩
    simp only [hc1] at hc hr ⊢
    rcases r2 with _ | r2
    · simp [code_none] at hc
    obtain ⟨e2, lc⟩ := code_inv o2 hc1
    have o3 : Oct r2 := fun y hy => o2 y (by rw [e2]; simp [hy])
    rcases hc2 : codeG (some r2) with ⟨r3, c2⟩
    simp only [hc2] at hc hr ⊢
    obtain rfl : r3 = some rest := hc
    obtain ⟨e3, lc2⟩ := code_inv o3 hc2
    rcases o with _ | ⟨a0, _ | ⟨a1, _ | ⟨a2, _ | ⟨a3, _ | ⟨a4, _ | ⟨a5, o⟩⟩⟩⟩⟩⟩
    all_goals first
      | (simp at l1; done)
      | skip
    simp only [List.getD_cons_zero, List.getD_cons_succ] at f2 hr ⊢
    have ha := ho a4 (by rw [e1]; simp)
    have hb : bs = bytesM ⟨a0, a1, a2, a3, ts, c, c2⟩ ++ rest := by
      rw [e1, f3, e2, e3]
      unfold bytesM
      rw [show (ts.length : Int) = a4 by omega]
      simp
    have hlen : bs.length = (bytesM ⟨a0, a1, a2, a3, ts, c, c2⟩).length + rest.length := by rw [hb]; simp
    refine ⟨(bytesM ⟨a0, a1, a2, a3, ts, c, c2⟩).length, by omega, by omega, ?_⟩
    rw [hb]
    simp
  · simp at h
end Go.Proofs.Ytaiekpdoljleeaa
