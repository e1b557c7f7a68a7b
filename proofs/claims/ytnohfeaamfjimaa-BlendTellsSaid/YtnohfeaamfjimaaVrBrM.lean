/- The reference's blend in memory: what lies where. Plain over the memory. -/
import Derived.Test.YtnohfeaamfjimaaVrBrA
namespace Go.Proofs.Ytnohfeaamfjimaa
open Go.RowKit Go.WideShapes
set_option linter.unusedVariables false
set_option linter.unusedSimpArgs false
/-- Every other number, from the first or the second on. -/
def evens (t : List Int) : List Int := (List.range (t.length / 2)).map fun i => t.getD (i * 2) 0
def odds (t : List Int) : List Int := (List.range (t.length / 2)).map fun i => t.getD (i * 2 + 1) 0
theorem evens_len (t : List Int) : (evens t).length = t.length / 2 := by simp [evens]
theorem odds_len (t : List Int) : (odds t).length = t.length / 2 := by simp [odds]
theorem evens_at {t : List Int} {i : Nat} (h : i < t.length / 2) : (evens t)[i]? = some (t.getD (i * 2) 0) := by
  unfold evens
  rw [List.getElem?_map, List.getElem?_range h]
  rfl
theorem odds_at {t : List Int} {i : Nat} (h : i < t.length / 2) : (odds t)[i]? = some (t.getD (i * 2 + 1) 0) := by
  unfold odds
  rw [List.getElem?_map, List.getElem?_range h]
  rfl
/-- A row of numbers in a block, from its beginning on. -/
def Row (w : World) (g : Nat) (t : TypeId) (xs : List Value) : Prop := ∃ tail, Blk w g t (xs ++ tail).toArray
section
variable {w w' : World} {g : Nat} {t : TypeId} {xs : List Value} {S : Nat → Prop}
theorem Row.lt (h : Row w g t xs) : g < w.heap.size := by obtain ⟨tail, h⟩ := h; exact h.lt
theorem Row.frm (h : Row w g t xs) (hf : Frm S w w') (hn : ¬ S g) : Row w' g t xs := by obtain ⟨tail, h⟩ := h; exact ⟨tail, h.frm hf hn⟩
theorem Row.below (h : Row w g t xs) (hb : Below w.heap.size w w') : Row w' g t xs := by obtain ⟨tail, h⟩ := h; exact ⟨tail, h.below hb⟩
theorem Row.at (h : Row w g t xs) {k : Nat} {v : Value} (hv : xs[k]? = some v) : w.cell? ⟨g, k, none⟩ = some v := by
  obtain ⟨tail, h⟩ := h
  rw [h.cell, List.getElem?_toArray, List.getElem?_append_left (List.getElem?_eq_some_iff.1 hv).1]
  exact hv
theorem Row.frozen (h : Row w g t xs) (k : Nat) : w.frozen? ⟨g, k, none⟩ = false := by obtain ⟨tail, h⟩ := h; exact h.frozen k
theorem Row.set (h : Row w g t xs) {k : Nat} (hk : k < xs.length) (v : Value) : Row (w.setCell ⟨g, k, none⟩ v) g t (xs.set k v) := by
  obtain ⟨tail, h⟩ := h
  have := h.set k v
  rw [List.setIfInBounds_toArray, List.set_append_left _ _ hk] at this
  exact ⟨tail, this⟩
theorem Row.far (h : Row w g t xs) {p : Addr} (hp : g ≠ p.block) (u : Value) : Row (w.setCell p u) g t xs := by obtain ⟨tail, h⟩ := h; exact ⟨tail, h.far hp u⟩
theorem Row.ne {g' : Nat} {t' : TypeId} {xs' : List Value} (h : Row w g t xs) (h' : Row w g' t' xs') (hne : t ≠ t') : g ≠ g' := by
  obtain ⟨tail, h⟩ := h
  obtain ⟨tail', h'⟩ := h'
  exact h.ne h' hne
end
theorem getD_i {l : List Int} {k : Nat} (h : k < l.length) : (ints l)[k]? = some (.int .i64 (l.getD k 0)) := by
  unfold ints
  rw [List.getElem?_map, getD_some h]
  rfl
theorem getD_o {l : List Int} {k : Nat} (h : k < l.length) : (octs l)[k]? = some (.int .u8 (l.getD k 0)) := by
  unfold octs
  rw [List.getElem?_map, getD_some h]
  rfl
/-- Where a unit's six rows lie, and their rooms. -/
structure RL where
  g1 : Nat
  g2 : Nat
  g3 : Nat
  g4 : Nat
  g5 : Nat
  g6 : Nat
  c1 : Nat
  c2 : Nat
  c4 : Nat
def Un.ch (u : Un) : List Int := if u.p.k = 2 ∨ u.p.k = 9 then evens u.t else if u.p.k = 3 then u.x else []
def Un.ct (u : Un) : List Int := if u.p.k = 2 ∨ u.p.k = 9 then odds u.t else []
def Un.ss (u : Un) : List Int := if u.p.k = 3 ∨ u.p.k = 8 then u.b else []
def Un.wt (u : Un) : List Int := if u.p.k = 6 ∨ u.p.k = 7 then u.t else if u.p.k = 8 then u.x else []
def Un.nm (u : Un) : List Int := if u.p.k = 4 then u.t else []
def Un.rg (u : Un) : List Int := if u.p.k = 4 then u.b else []
def sV (g n c : Nat) : Value := if n = 0 then .slice none 0 0 else .slice (some ⟨g, 0, none⟩) n c
def Un.rc (u : Un) (l : RL) : List Value := u.p.cells ++ [.int .u32 u.h, sV l.g1 u.ch.length l.c1, sV l.g2 u.ct.length l.c2, sV l.g3 u.ss.length u.ss.length, sV l.g4 u.wt.length l.c4, sV l.g5 u.nm.length u.nm.length, sV l.g6 u.rg.length u.rg.length, .int .i64 (u.ptr : Int), .int .i64 (u.len : Int)]
theorem Un.rc_len (u : Un) (l : RL) : (u.rc l).length = 16 := by simp [Un.rc, Pt.cells]
def RL.has (l : RL) (u : Un) (b : Nat) : Prop := (u.ch ≠ [] ∧ b = l.g1) ∨ (u.ct ≠ [] ∧ b = l.g2) ∨ (u.ss ≠ [] ∧ b = l.g3) ∨ (u.wt ≠ [] ∧ b = l.g4) ∨ (u.nm ≠ [] ∧ b = l.g5) ∨ (u.rg ≠ [] ∧ b = l.g6)
/-- A unit's rows. -/
structure RU (w : World) (u : Un) (l : RL) : Prop where
  r1 : u.ch ≠ [] → Row w l.g1 3 (ints u.ch)
  r2 : u.ct ≠ [] → Row w l.g2 3 (ints u.ct)
  r3 : u.ss ≠ [] → Row w l.g3 5 (octs u.ss)
  r4 : u.wt ≠ [] → Row w l.g4 3 (ints u.wt)
  r5 : u.nm ≠ [] → Row w l.g5 3 (ints u.nm)
  r6 : u.rg ≠ [] → Row w l.g6 5 (octs u.rg)
  d12 : u.ct ≠ [] → l.g1 ≠ l.g2
theorem RU.frm {S : Nat → Prop} {w w' : World} {u : Un} {l : RL} (h : RU w u l) (hf : Frm S w w') (hn : ∀ b, l.has u b → ¬ S b) : RU w' u l :=
  ⟨fun k => (h.r1 k).frm hf (hn _ (.inl ⟨k, rfl⟩)), fun k => (h.r2 k).frm hf (hn _ (.inr (.inl ⟨k, rfl⟩))), fun k => (h.r3 k).frm hf (hn _ (.inr (.inr (.inl ⟨k, rfl⟩)))), fun k => (h.r4 k).frm hf (hn _ (.inr (.inr (.inr (.inl ⟨k, rfl⟩))))),
    fun k => (h.r5 k).frm hf (hn _ (.inr (.inr (.inr (.inr (.inl ⟨k, rfl⟩)))))), fun k => (h.r6 k).frm hf (hn _ (.inr (.inr (.inr (.inr (.inr ⟨k, rfl⟩)))))), h.d12⟩
theorem RU.below {w w' : World} {u : Un} {l : RL} (h : RU w u l) (hb : Below w.heap.size w w') : RU w' u l :=
  ⟨fun k => (h.r1 k).below hb, fun k => (h.r2 k).below hb, fun k => (h.r3 k).below hb, fun k => (h.r4 k).below hb, fun k => (h.r5 k).below hb, fun k => (h.r6 k).below hb, h.d12⟩
theorem RU.lt {w : World} {u : Un} {l : RL} (h : RU w u l) : ∀ b, l.has u b → b < w.heap.size := fun b hb => by
  rcases hb with ⟨k, rfl⟩ | ⟨k, rfl⟩ | ⟨k, rfl⟩ | ⟨k, rfl⟩ | ⟨k, rfl⟩ | ⟨k, rfl⟩
  · exact (h.r1 k).lt
  · exact (h.r2 k).lt
  · exact (h.r3 k).lt
  · exact (h.r4 k).lt
  · exact (h.r5 k).lt
  · exact (h.r6 k).lt
def refs : List Un → List RL → List Value
  | u :: us, l :: ls => u.rc l ++ refs us ls
  | _, _ => []
theorem refs_at : ∀ (us : List Un) (ls : List RL) (i j : Nat) (u : Un) (l : RL), us[i]? = some u → ls[i]? = some l → j < 16 → (refs us ls)[i * 16 + j]? = (u.rc l)[j]?
  | [], _, i, j, u, l, h, _, _ => by simp at h
  | _ :: _, [], i, j, u, l, _, h, _ => by simp at h
  | v :: us, m :: ls, 0, j, u, l, hu, hl, hj => by
    simp at hu hl
    subst hu hl
    unfold refs
    rw [Nat.zero_mul, Nat.zero_add, List.getElem?_append_left (by rw [Un.rc_len]; exact hj)]
  | v :: us, m :: ls, i + 1, j, u, l, hu, hl, hj => by
    unfold refs
    rw [Nat.succ_mul, List.getElem?_append_right (by rw [Un.rc_len]; omega), Un.rc_len, show i * 16 + 16 + j - 16 = i * 16 + j by omega]
    exact refs_at us ls i j u l (by simpa using hu) (by simpa using hl) hj
theorem refs_len : ∀ (us : List Un) (ls : List RL), us.length = ls.length → (refs us ls).length = us.length * 16
  | [], [], _ => rfl
  | [], _ :: _, h => by simp at h
  | _ :: _, [], h => by simp at h
  | u :: us, l :: ls, h => by
    unfold refs
    rw [List.length_append, Un.rc_len, refs_len us ls (by simpa using h), List.length_cons]
    omega
theorem refs_snoc : ∀ (us : List Un) (ls : List RL) (u : Un) (l : RL), us.length = ls.length → refs (us ++ [u]) (ls ++ [l]) = refs us ls ++ u.rc l
  | [], [], u, l, _ => by simp [refs]
  | [], _ :: _, _, _, h => by simp at h
  | _ :: _, [], _, _, h => by simp at h
  | v :: us, m :: ls, u, l, h => by
    rw [List.cons_append, List.cons_append]
    unfold refs
    rw [refs_snoc us ls u l (by simpa using h), List.append_assoc]
/-- One cell of one unit turned. -/
theorem refs_set : ∀ (us : List Un) (ls : List RL) (i j : Nat) (u u' : Un) (l : RL) (v : Value), us[i]? = some u → ls[i]? = some l → j < 16 → (u.rc l).set j v = u'.rc l → (refs us ls).set (i * 16 + j) v = refs (us.set i u') ls
  | [], _, i, j, u, u', l, v, h, _, _, _ => by simp at h
  | _ :: _, [], i, j, u, u', l, v, _, h, _, _ => by simp at h
  | x :: us, m :: ls, 0, j, u, u', l, v, hu, hl, hj, e => by
    simp at hu hl
    subst hu hl
    rw [List.set_cons_zero]
    unfold refs
    rw [Nat.zero_mul, Nat.zero_add, List.set_append_left _ _ (by rw [Un.rc_len]; exact hj), e]
  | x :: us, m :: ls, i + 1, j, u, u', l, v, hu, hl, hj, e => by
    rw [List.set_cons_succ]
    unfold refs
    rw [Nat.succ_mul, List.set_append_right _ _ (by rw [Un.rc_len]; omega), Un.rc_len, show i * 16 + 16 + j - 16 = i * 16 + j by omega, refs_set us ls i j u u' l v (by simpa using hu) (by simpa using hl) hj e]
/-- A unit turned whose cells are the same. -/
theorem refs_same : ∀ (us : List Un) (ls : List RL) (i : Nat) (u u' : Un) (l : RL), us[i]? = some u → ls[i]? = some l → u'.rc l = u.rc l → refs (us.set i u') ls = refs us ls
  | [], _, i, u, u', l, h, _, _ => by simp at h
  | _ :: _, [], i, u, u', l, _, h, _ => by simp at h
  | x :: us, m :: ls, 0, u, u', l, hu, hl, e => by
    simp at hu hl
    subst hu hl
    rw [List.set_cons_zero]
    unfold refs
    rw [e]
  | x :: us, m :: ls, i + 1, u, u', l, hu, hl, e => by
    rw [List.set_cons_succ]
    unfold refs
    rw [refs_same us ls i u u' l (by simpa using hu) (by simpa using hl) e]
/-- The reference's blend. -/
structure RB (w : World) (B R cr : Nat) (us : List Un) (ls : List RL) (c : Int) (bits wh : Nat) : Prop where
  blk : Blk w B 53 #[.slice (some ⟨R, 0, none⟩) us.length cr, .int .i64 c, .int .i64 (bits : Int), .int .i64 (wh : Int)]
  row : Row w R 74 (refs us ls)
  len : us.length = ls.length
  cap : us.length ≤ cr
  ru : ∀ (i : Nat) (u : Un) (l : RL), us[i]? = some u → ls[i]? = some l → RU w u l
  far : ∀ (i : Nat) (u : Un) (l : RL), us[i]? = some u → ls[i]? = some l → ∀ b, l.has u b → b ≠ B ∧ b ≠ R
  apart : ∀ (i j : Nat) (u v : Un) (l m : RL), us[i]? = some u → ls[i]? = some l → us[j]? = some v → ls[j]? = some m → i ≠ j → ∀ b, l.has u b → ¬ m.has v b
section
variable {w w' : World} {B R cr bits wh : Nat} {us : List Un} {ls : List RL} {c : Int} {S : Nat → Prop}
def RBlks (B R : Nat) (us : List Un) (ls : List RL) (b : Nat) : Prop := b = B ∨ b = R ∨ ∃ (i : Nat) (u : Un) (l : RL), us[i]? = some u ∧ ls[i]? = some l ∧ l.has u b
theorem RB.frm (h : RB w B R cr us ls c bits wh) (hf : Frm S w w') (hn : ∀ b, RBlks B R us ls b → ¬ S b) : RB w' B R cr us ls c bits wh :=
  ⟨h.blk.frm hf (hn _ (.inl rfl)), h.row.frm hf (hn _ (.inr (.inl rfl))), h.len, h.cap, fun i u l hu hl => (h.ru i u l hu hl).frm hf (fun b hb => hn b (.inr (.inr ⟨i, u, l, hu, hl, hb⟩))), h.far, h.apart⟩
theorem RB.below (h : RB w B R cr us ls c bits wh) (hb : Below w.heap.size w w') : RB w' B R cr us ls c bits wh :=
  h.frm (S := fun _ => False) ⟨hb.os, hb.tape, hb.output, hb.size, fun k hk _ => hb.block k hk⟩ (fun _ _ h => h)
theorem RB.lt (h : RB w B R cr us ls c bits wh) : ∀ b, RBlks B R us ls b → b < w.heap.size := fun b hb => by
  rcases hb with rfl | rfl | ⟨i, u, l, hu, hl, hb⟩
  · exact h.blk.lt
  · exact h.row.lt
  · exact (h.ru i u l hu hl).lt b hb
theorem RB.ne (h : RB w B R cr us ls c bits wh) : B ≠ R := by
  obtain ⟨tail, hr⟩ := h.row
  exact h.blk.ne hr (by decide)
theorem RB.cell (h : RB w B R cr us ls c bits wh) {i j : Nat} {u : Un} {l : RL} {v : Value} (hu : us[i]? = some u) (hl : ls[i]? = some l) (hj : j < 16) (hv : (u.rc l)[j]? = some v) : w.cell? ⟨R, i * 16 + j, none⟩ = some v :=
  h.row.at ((refs_at us ls i j u l hu hl hj).trans hv)
end
end Go.Proofs.Ytnohfeaamfjimaa
