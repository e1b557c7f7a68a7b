/- What statements do: plain. · A program of statements in memory: plain theorems over any world. · The closure that puts a byte out: the walk. Condition: room of at most 1000 bytes. · A condition done: the walk. No condition. · A loop done: the walk. No condition. · A loop done: the walk. Condition: at most 1000 rounds and bytes. -/
import Derived.Test.YtebmgladdgmmeaaVlGLp
import Derived.Test.YtebmgladdgmmeaaVlGFo
import Derived.Test.YtebmgladdgmmeaaVdGQd
import Derived.BigRegion
import Derived.Test.YtebmgladdgmmeaaVdHeld
import Derived.BigQuiet
import Derived.WalkMore
namespace Go.Proofs.Ytebmgladdgmmeaa
open Go.RowKit Go.WideShapes
set_option linter.unusedVariables false
set_option linter.unusedSimpArgs false
/-- A program at work. -/
structure Rs where
  s : St
  fuel : Int
  out : List Int
  hal : Bool
/-- What is to be done: a list, a statement, a loop (its first round ahead, or not). -/
inductive Tk where
  | list (f : Fo) : Tk
  | one (h : Hd) (b e : Fo) : Tk
  | loop (h : Hd) (b : Fo) (first : Bool) : Tk
def doI (t : In) (s : St) : St := DoS t.o t.d t.s t.n s
/-- The state behind a condition; does it hold? -/
def condS (h : Hd) (σ : Rs) : Rs := { σ with s := doI h.ci σ.s }
def condV (h : Hd) (σ : Rs) : Bool := (doI h.ci σ.s).m.f != h.nt
def spend (first : Bool) (σ : Rs) : Rs := if first then σ else { σ with fuel := σ.fuel - 1 }
inductive Ev (most : Int) : Tk → Rs → Int → Rs → Prop
  | nil {σ : Rs} : Ev most (.list .nil) σ 0 σ
  | stop {h : Hd} {b e r : Fo} {σ σ' : Rs} {c : Int} : Ev most (.one h b e) σ c σ' → (c ≠ 0 ∨ σ'.hal = true) → Ev most (.list (.cons h b e r)) σ c σ'
  | next {h : Hd} {b e r : Fo} {σ σ1 σ2 : Rs} {c : Int} : Ev most (.one h b e) σ 0 σ1 → σ1.hal = false → Ev most (.list r) σ1 c σ2 → Ev most (.list (.cons h b e r)) σ c σ2
  | halt {h : Hd} {b e : Fo} {σ : Rs} : h.k = 4 → Ev most (.one h b e) σ 0 { σ with hal := true }
  | yes {h : Hd} {b e : Fo} {σ σ' : Rs} {c : Int} : h.k = 2 → condV h σ = true → Ev most (.list b) (condS h σ) c σ' → Ev most (.one h b e) σ c σ'
  | no {h : Hd} {b e : Fo} {σ σ' : Rs} {c : Int} : h.k = 2 → condV h σ = false → Ev most (.list e) (condS h σ) c σ' → Ev most (.one h b e) σ c σ'
  | loop {h : Hd} {b e : Fo} {σ σ' : Rs} {c : Int} : h.k = 3 → Ev most (.loop h b true) σ c σ' → Ev most (.one h b e) σ c σ'
  | full {h : Hd} {b e : Fo} {σ : Rs} : (h.k ≠ 4 ∧ h.k ≠ 2 ∧ h.k ≠ 3) → h.i.o = 26 → most ≤ (σ.out.length : Int) → Ev most (.one h b e) σ 112 σ
  | put {h : Hd} {b e : Fo} {σ : Rs} : (h.k ≠ 4 ∧ h.k ≠ 2 ∧ h.k ≠ 3) → h.i.o = 26 → (σ.out.length : Int) < most → Ev most (.one h b e) σ 0 { σ with out := σ.out ++ [σ.s.m.a % 256] }
  | plain {h : Hd} {b e : Fo} {σ : Rs} : (h.k ≠ 4 ∧ h.k ≠ 2 ∧ h.k ≠ 3) → h.i.o ≠ 26 → Ev most (.one h b e) σ 0 { σ with s := doI h.i σ.s }
  | dry {h : Hd} {b : Fo} {σ : Rs} : σ.fuel < 1 → Ev most (.loop h b false) σ 111 σ
  | lstop {h : Hd} {b : Fo} {first : Bool} {σ σ' : Rs} {c : Int} : (first = true ∨ 1 ≤ σ.fuel) → Ev most (.list b) (spend first σ) c σ' → (c ≠ 0 ∨ σ'.hal = true) → Ev most (.loop h b first) σ c σ'
  | lend {h : Hd} {b : Fo} {first : Bool} {σ σ' : Rs} : (first = true ∨ 1 ≤ σ.fuel) → Ev most (.list b) (spend first σ) 0 σ' → σ'.hal = false → condV h σ' = false → Ev most (.loop h b first) σ 0 (condS h σ')
  | lmore {h : Hd} {b : Fo} {first : Bool} {σ σ1 σ2 : Rs} {c : Int} : (first = true ∨ 1 ≤ σ.fuel) → Ev most (.list b) (spend first σ) 0 σ1 → σ1.hal = false → condV h σ1 = true → Ev most (.loop h b false) (condS h σ1) c σ2 → Ev most (.loop h b first) σ c σ2
theorem Ev.same {most : Int} {t : Tk} {σ σ1 : Rs} {c : Int} (h1 : Ev most t σ c σ1) : ∀ {c2 : Int} {σ2 : Rs}, Ev most t σ c2 σ2 → c = c2 ∧ σ1 = σ2 := by
  induction h1 with
  | nil =>
    intro c2 σ2 h2
    cases h2
    exact ⟨rfl, rfl⟩
  | stop a hc ih =>
    intro c2 σ2 h2
    cases h2 with
    | stop a2 _ => exact ih a2
    | next a2 hh _ =>
      obtain ⟨rfl, rfl⟩ := ih a2
      rcases hc with hc | hc
      · exact absurd rfl hc
      · rw [hc] at hh; cases hh
  | next a hh b iha ihb =>
    intro c2 σ2 h2
    cases h2 with
    | stop a2 hc =>
      obtain ⟨rfl, rfl⟩ := iha a2
      rcases hc with hc | hc
      · exact absurd rfl hc
      · rw [hc] at hh; cases hh
    | next a2 _ b2 =>
      obtain ⟨_, rfl⟩ := iha a2
      exact ihb b2
  | halt hk =>
    intro c2 σ2 h2
    cases h2 with
    | halt => exact ⟨rfl, rfl⟩
    | yes k _ _ => omega
    | no k _ _ => omega
    | loop k _ => omega
    | full k _ _ => exact absurd hk k.1
    | put k _ _ => exact absurd hk k.1
    | plain k _ => exact absurd hk k.1
  | yes hk hv a ih =>
    intro c2 σ2 h2
    cases h2 with
    | halt k => omega
    | yes _ _ a2 => exact ih a2
    | no _ v2 _ => rw [hv] at v2; cases v2
    | loop k _ => omega
    | full k _ _ => exact absurd hk k.2.1
    | put k _ _ => exact absurd hk k.2.1
    | plain k _ => exact absurd hk k.2.1
  | no hk hv a ih =>
    intro c2 σ2 h2
    cases h2 with
    | halt k => omega
    | yes _ v2 _ => rw [hv] at v2; cases v2
    | no _ _ a2 => exact ih a2
    | loop k _ => omega
    | full k _ _ => exact absurd hk k.2.1
    | put k _ _ => exact absurd hk k.2.1
    | plain k _ => exact absurd hk k.2.1
  | loop hk a ih =>
    intro c2 σ2 h2
    cases h2 with
    | halt k => omega
    | yes k _ _ => omega
    | no k _ _ => omega
    | loop _ a2 => exact ih a2
    | full k _ _ => exact absurd hk k.2.2
    | put k _ _ => exact absurd hk k.2.2
    | plain k _ => exact absurd hk k.2.2
  | full hk ho hl =>
    intro c2 σ2 h2
    cases h2 with
    | halt k => exact absurd k hk.1
    | yes k _ _ => exact absurd k hk.2.1
    | no k _ _ => exact absurd k hk.2.1
    | loop k _ => exact absurd k hk.2.2
    | full => exact ⟨rfl, rfl⟩
    | put _ _ l => omega
    | plain _ o => exact absurd ho o
  | put hk ho hl =>
    intro c2 σ2 h2
    cases h2 with
    | halt k => exact absurd k hk.1
    | yes k _ _ => exact absurd k hk.2.1
    | no k _ _ => exact absurd k hk.2.1
    | loop k _ => exact absurd k hk.2.2
    | full _ _ l => omega
    | put => exact ⟨rfl, rfl⟩
    | plain _ o => exact absurd ho o
  | plain hk ho =>
    intro c2 σ2 h2
    cases h2 with
    | halt k => exact absurd k hk.1
    | yes k _ _ => exact absurd k hk.2.1
    | no k _ _ => exact absurd k hk.2.1
    | loop k _ => exact absurd k hk.2.2
    | full _ o _ => exact absurd o ho
    | put _ o _ => exact absurd o ho
    | plain => exact ⟨rfl, rfl⟩
  | dry hf =>
    intro c2 σ2 h2
    cases h2 with
    | dry => exact ⟨rfl, rfl⟩
    | lstop f _ _ => rcases f with f | f <;> first | cases f | omega
    | lend f _ _ _ => rcases f with f | f <;> first | cases f | omega
    | lmore f _ _ _ _ => rcases f with f | f <;> first | cases f | omega
  | lstop hf a hc ih =>
    intro c2 σ2 h2
    cases h2 with
    | dry f => rcases hf with hf | hf <;> first | cases hf | omega
    | lstop _ a2 _ => exact ih a2
    | lend _ a2 hh _ =>
      obtain ⟨rfl, rfl⟩ := ih a2
      rcases hc with hc | hc
      · exact absurd rfl hc
      · rw [hc] at hh; cases hh
    | lmore _ a2 hh _ _ =>
      obtain ⟨rfl, rfl⟩ := ih a2
      rcases hc with hc | hc
      · exact absurd rfl hc
      · rw [hc] at hh; cases hh
  | lend hf a hh hv ih =>
    intro c2 σ2 h2
    cases h2 with
    | dry f => rcases hf with hf | hf <;> first | cases hf | omega
    | lstop _ a2 hc =>
      obtain ⟨rfl, rfl⟩ := ih a2
      rcases hc with hc | hc
      · exact absurd rfl hc
      · rw [hc] at hh; cases hh
    | lend _ a2 _ _ =>
      obtain ⟨_, rfl⟩ := ih a2
      exact ⟨rfl, rfl⟩
    | lmore _ a2 _ v2 _ =>
      obtain ⟨_, rfl⟩ := ih a2
      rw [hv] at v2
      cases v2
  | lmore hf a hh hv b iha ihb =>
    intro c2 σ2 h2
    cases h2 with
    | dry f => rcases hf with hf | hf <;> first | cases hf | omega
    | lstop _ a2 hc =>
      obtain ⟨rfl, rfl⟩ := iha a2
      rcases hc with hc | hc
      · exact absurd rfl hc
      · rw [hc] at hh; cases hh
    | lend _ a2 _ v2 =>
      obtain ⟨_, rfl⟩ := iha a2
      rw [hv] at v2
      cases v2
    | lmore _ a2 _ _ b2 =>
      obtain ⟨_, rfl⟩ := iha a2
      exact ihb b2
end Go.Proofs.Ytebmgladdgmmeaa
namespace Go.Proofs.Ytebmgladdgmmeaa
open Go.RowKit Go.WideShapes
set_option linter.unusedVariables false
set_option linter.unusedSimpArgs false
theorem frm_setCells {g : Nat} : ∀ (vs : List Value) (o : Nat) (w : World), Frm (fun k => k = g) w (w.setCells g o vs)
  | [], o, w => Frm.refl _ _
  | v :: r, o, w => ((Frm.refl (fun k => k = g) w).setCell (p := ⟨g, o, none⟩) (fun _ => rfl) v).trans (frm_setCells r (o + 1) _) (fun _ _ h => h)
theorem blk_setCells {g : Nat} {t : TypeId} : ∀ (vs : List Value) (o : Nat) (w : World) (cs : List Value), Blk w g t cs.toArray → o + vs.length ≤ cs.length → Blk (w.setCells g o vs) g t (cs.take o ++ vs ++ cs.drop (o + vs.length)).toArray
  | [], o, w, cs, h, hl => by
    show Blk w g t _
    simpa using h
  | v :: r, o, w, cs, h, hl => by
    simp only [List.length_cons] at hl
    have h1 : Blk (w.setCell ⟨g, o, none⟩ v) g t (cs.set o v).toArray := by simpa using h.set o v
    have h2 := blk_setCells r (o + 1) _ (cs.set o v) h1 (by rw [List.length_set]; omega)
    have e : (cs.set o v).take (o + 1) ++ r ++ (cs.set o v).drop (o + 1 + r.length) = cs.take o ++ v :: r ++ cs.drop (o + (v :: r).length) := by
      have ho : o < cs.length := by omega
      have hA : (cs.take o).length = o := by rw [List.length_take]; omega
      have hs : cs.set o v = (cs.take o ++ [v]) ++ cs.drop (o + 1) := by rw [List.set_eq_take_append_cons_drop, if_pos ho]; simp
      have ht : (cs.set o v).take (o + 1) = cs.take o ++ [v] := by rw [hs]; exact List.take_left' (by simp [hA])
      rw [ht, List.drop_set_of_lt (by omega)]
      simp only [List.length_cons, List.append_assoc, List.cons_append, List.nil_append]
      rw [show o + 1 + r.length = o + (r.length + 1) by omega]
    rw [← e]
    exact h2
theorem OwnR.frmX {w w' : World} {S : Nat → Prop} {b : Nat} {v : Value} {e : TypeId} {xs : List Value} (h : OwnR w b v e xs) (hf : Frm S w w') (hn : ∀ k, v.ownBlock = some k → ¬ S k) : OwnR w' b v e xs := by
  rcases h with h | ⟨g, c, h1, h2, h3, h4⟩
  · exact .inl h
  · exact .inr ⟨g, c, h1, h2, h3, h4.frm hf (hn g (by rw [h1]; rfl))⟩
theorem OwnR.geX {w : World} {b : Nat} {v : Value} {e : TypeId} {xs : List Value} (h : OwnR w b v e xs) : ∀ k, v.ownBlock = some k → b ≤ k := fun k hk => by
  rcases h with ⟨rfl, _⟩ | ⟨g, c, rfl, _, hb, _⟩
  · cases hk
  · have : g = k := by simpa [Value.ownBlock] using hk
    omega
theorem OwnR.ltX {w : World} {b : Nat} {v : Value} {e : TypeId} {xs : List Value} (h : OwnR w b v e xs) : ∀ k, v.ownBlock = some k → k < w.heap.size := fun k hk => by
  rcases h with ⟨rfl, _⟩ | ⟨g, c, rfl, _, _, hr⟩
  · cases hk
  · have e1 : g = k := by simpa [Value.ownBlock] using hk
    have := hr.lt
    omega
theorem OwnR.apartX {w : World} {b g : Nat} {v : Value} {e t : TypeId} {xs : List Value} {cs : Array Value} (h : OwnR w b v e xs) (hb : Blk w g t cs) (hne : e ≠ t) : ∀ k, v.ownBlock = some k → k ≠ g := fun k hk => by
  rcases h with ⟨rfl, _⟩ | ⟨g', c, rfl, _, _, hr⟩
  · cases hk
  · have e1 : g' = k := by simpa [Value.ownBlock] using hk
    subst e1
    exact hr.ne hb hne
/-- The cells of a program at work. -/
def qCells (m : Mc) (fuel : Int) (hal : Bool) (u p9 : Nat) (vh vm : Value) : List Value := m.list vh vm ++ [.int .i64 fuel, .func (.func 65) #[] #[.pointer (some ⟨u, 0, none⟩), .pointer (some ⟨p9, 0, none⟩)], .bool hal]
theorem qCells_len {m : Mc} (h : m.ok) (fuel : Int) (hal : Bool) (u p9 : Nat) (vh vm : Value) : (qCells m fuel hal u p9 vh vm).length = 266 := by simp [qCells, Mc.list_len h]
/-- A program at work, in memory: the box q, the bytes' box u, the room's box p9; the bytes' slice. -/
structure RX (w : World) (q u p9 : Nat) (most : Int) (σ : Rs) (vh vm vo : Value) : Prop where
  box : Blk w q 104 (qCells σ.s.m σ.fuel σ.hal u p9 vh vm).toArray
  rh : OwnR w 0 vh 45 (σ.s.hs.map (.int .u32))
  rm : OwnR w 0 vm 5 (σ.s.ms.map (.int .u8))
  apart : ∀ k, vo.ownBlock = some k → ¬ vm.ownBlock = some k
  ub : Blk w u 48 #[vo]
  own : w.ownsRow (q + 1) 5 1 vo σ.out.length (σ.out.map (.int .u8))
  pb : Blk w p9 3 #[.int .i64 most]
  m : σ.s.m.ok
  hw : Wds σ.s.hs
  mo : Oct σ.s.ms
  lh : σ.s.hs.length ≤ 5000
  lm : σ.s.ms.length ≤ 5000
  uq : u < q ∧ p9 < u
  fle : σ.fuel ≤ 1000
  room : σ.out.length ≤ 1000
section
variable {w w' : World} {q u p9 : Nat} {most : Int} {σ : Rs} {vh vm vo : Value}
theorem RX.c0 (h : RX w q u p9 most σ vh vm vo) : w.cell? ⟨q, 0, none⟩ = some (.int .u32 σ.s.m.a) := by rw [h.box.cell 0]; rfl
theorem RX.c4 (h : RX w q u p9 most σ vh vm vo) : w.cell? ⟨q, 4, none⟩ = some (.bool σ.s.m.f) := by rw [h.box.cell 4]; rfl
set_option maxRecDepth 100000 in
theorem RX.tail (h : RX w q u p9 most σ vh vm vo) (j : Nat) : w.cell? ⟨q, 263 + j, none⟩ = ([.int .i64 σ.fuel, .func (.func 65) #[] #[.pointer (some ⟨u, 0, none⟩), .pointer (some ⟨p9, 0, none⟩)], .bool σ.hal] : List Value)[j]? := by
  rw [h.box.cell (263 + j)]
  have hl := Mc.list_len h.m (vh := vh) (vm := vm)
  simp only [List.getElem?_toArray, qCells]
  rw [List.getElem?_append_right (by omega), hl]
  congr 1
  omega
theorem RX.range (h : RX w q u p9 most σ vh vm vo) : w.rangeAt q 0 (σ.s.m.list vh vm) := fun j v hv => by
  rw [Nat.zero_add, h.box.cell j]
  have : j < (σ.s.m.list vh vm).length := (List.getElem?_eq_some_iff.1 hv).1
  simp only [List.getElem?_toArray, qCells]
  rw [List.getElem?_append_left this]
  exact hv
theorem RX.there (h : RX w q u p9 most σ vh vm vo) {n : Nat} (hn : n ≤ 266) : w.there q 0 n := fun j hj => by
  rw [Nat.zero_add]
  refine ⟨?_, h.box.frozen j⟩
  rw [h.box.cell j]
  have hl := qCells_len h.m σ.fuel σ.hal u p9 vh vm
  simp only [List.getElem?_toArray]
  rw [List.getElem?_eq_getElem (by omega)]
  rfl
theorem RX.frm {S : Nat → Prop} (h : RX w q u p9 most σ vh vm vo) (hf : Frm S w w') (h1 : ¬ S q) (h2 : ¬ S u) (h3 : ¬ S p9) (h4 : ∀ k, vh.ownBlock = some k → ¬ S k) (h5 : ∀ k, vm.ownBlock = some k → ¬ S k) (h6 : ∀ k, vo.ownBlock = some k → ¬ S k) : RX w' q u p9 most σ vh vm vo :=
  ⟨h.box.frm hf h1, h.rh.frmX hf h4, h.rm.frmX hf h5, h.apart, h.ub.frm hf h2, hf.own h.own h6, h.pb.frm hf h3, h.m, h.hw, h.mo, h.lh, h.lm, h.uq, h.fle, h.room⟩
theorem own_ltX {base n : Nat} {e : TypeId} {size : Nat} {v : Value} {xs : List Value} (h : w.ownsRow base e size v n xs) : ∀ k, v.ownBlock = some k → k < w.heap.size := fun k hk => by
  rcases h.2 with ⟨rfl, _⟩ | ⟨g, cap, cur, rfl, _, hg, _⟩
  · cases hk
  · have e1 : g = k := by simpa [Value.ownBlock] using hk
    subst e1
    exact (Array.getElem?_eq_some_iff.1 hg).1
theorem own_apartX {base n g : Nat} {e t : TypeId} {size : Nat} {v : Value} {xs : List Value} {cs : Array Value} (h : w.ownsRow base e size v n xs) (hb : Blk w g t cs) (hne : e ≠ t) : ∀ k, v.ownBlock = some k → k ≠ g := fun k hk => by
  exact hb.apart h hne k hk
/-- What may turn in a step. -/
def Sx (q u : Nat) (vo : Value) (k : Nat) : Prop := k = q ∨ k = u ∨ vo.ownBlock = some k
theorem RX.below (h : RX w q u p9 most σ vh vm vo) (hb : Below w.heap.size w w') : RX w' q u p9 most σ vh vm vo := h.frm (S := fun _ => False) (Frm.of_below hb) (fun h => h) (fun h => h) (fun h => h) (fun _ _ h => h) (fun _ _ h => h) (fun _ _ h => h)
theorem RX.lts (h : RX w q u p9 most σ vh vm vo) : q < w.heap.size ∧ u < w.heap.size ∧ p9 < w.heap.size := ⟨h.box.lt, h.ub.lt, h.pb.lt⟩
/-- The machine is stored anew. -/
theorem RX.did {w1 : World} {s2 : St} {vh2 vm2 : Value} (h : RX w q u p9 most σ vh vm vo) (hb : Below w.heap.size w w1) (r1 : OwnR w1 w.heap.size vh2 45 (s2.hs.map (.int .u32))) (r2 : OwnR w1 w.heap.size vm2 5 (s2.ms.map (.int .u8))) (hm : s2.m.ok) (hw : Wds s2.hs) (mo : Oct s2.ms) (l1 : s2.hs.length ≤ 5000) (l2 : s2.ms.length ≤ 5000) :
    RX (w1.setCells q 0 (s2.m.list vh2 vm2)) q u p9 most { σ with s := s2 } vh2 vm2 vo ∧ Frm (fun k => k = q) w1 (w1.setCells q 0 (s2.m.list vh2 vm2)) := by
  have h1 := h.below hb
  have hf := frm_setCells (g := q) (s2.m.list vh2 vm2) 0 w1
  have hq := h.box.lt
  have hl := Mc.list_len hm (vh := vh2) (vm := vm2)
  have hl0 := Mc.list_len h.m (vh := vh) (vm := vm)
  have hbx := blk_setCells (s2.m.list vh2 vm2) 0 w1 _ h1.box (by rw [qCells_len h.m, hl]; omega)
  have he : (qCells σ.s.m σ.fuel σ.hal u p9 vh vm).take 0 ++ s2.m.list vh2 vm2 ++ (qCells σ.s.m σ.fuel σ.hal u p9 vh vm).drop (0 + (s2.m.list vh2 vm2).length) = qCells s2.m σ.fuel σ.hal u p9 vh2 vm2 := by
    rw [hl, Nat.zero_add, List.take_zero, List.nil_append]
    unfold qCells
    rw [List.drop_left' hl0]
  rw [he] at hbx
  have n1 : ∀ k, vh2.ownBlock = some k → ¬ k = q := fun k hk e => by have := r1.geX k hk; omega
  have n2 : ∀ k, vm2.ownBlock = some k → ¬ k = q := fun k hk e => by have := r2.geX k hk; omega
  have n3 : ∀ k, vo.ownBlock = some k → ¬ k = q := fun k hk e => by have := own_ge h.own k hk; omega
  refine ⟨⟨hbx, ((r1.frmX hf n1).base (Nat.zero_le _)), ((r2.frmX hf n2).base (Nat.zero_le _)), fun k hk e => ?_, h1.ub.frm hf (by have := h.uq; omega), hf.own h1.own n3, h1.pb.frm hf (by have := h.uq; omega), hm, hw, mo, l1, l2, h.uq, h.fle, h.room⟩, hf⟩
  have := own_ltX h.own k hk
  have := r2.geX k e
  omega
theorem RX.fuelSet (h : RX w q u p9 most σ vh vm vo) (x : Int) (hx : x ≤ 1000) : RX (w.setCell ⟨q, 263, none⟩ (.int .i64 x)) q u p9 most { σ with fuel := x } vh vm vo ∧ Frm (fun k => k = q) w (w.setCell ⟨q, 263, none⟩ (.int .i64 x)) := by
  have hf : Frm (fun k => k = q) w (w.setCell ⟨q, 263, none⟩ (.int .i64 x)) := (Frm.refl (fun k => k = q) w).setCell (p := ⟨q, 263, none⟩) (fun _ => rfl) _
  have hl0 := Mc.list_len h.m (vh := vh) (vm := vm)
  have hbx := h.box.set 263 (.int .i64 x)
  have he : (qCells σ.s.m σ.fuel σ.hal u p9 vh vm).toArray.setIfInBounds 263 (.int .i64 x) = (qCells σ.s.m x σ.hal u p9 vh vm).toArray := by
    rw [List.setIfInBounds_toArray]
    unfold qCells
    rw [List.set_append_right _ _ (by omega), hl0]
    rfl
  rw [he] at hbx
  have n1 : ∀ k, vh.ownBlock = some k → ¬ k = q := fun k hk e => h.rh.apartX h.box (by decide) k hk e
  have n2 : ∀ k, vm.ownBlock = some k → ¬ k = q := fun k hk e => h.rm.apartX h.box (by decide) k hk e
  have n3 : ∀ k, vo.ownBlock = some k → ¬ k = q := fun k hk e => by have := own_ge h.own k hk; omega
  exact ⟨⟨hbx, h.rh.frmX hf n1, h.rm.frmX hf n2, h.apart, h.ub.frm hf (by have := h.uq; omega), hf.own h.own n3, h.pb.frm hf (by have := h.uq; omega), h.m, h.hw, h.mo, h.lh, h.lm, h.uq, hx, h.room⟩, hf⟩
theorem RX.haltSet (h : RX w q u p9 most σ vh vm vo) : RX (w.setCell ⟨q, 265, none⟩ (.bool true)) q u p9 most { σ with hal := true } vh vm vo ∧ Frm (fun k => k = q) w (w.setCell ⟨q, 265, none⟩ (.bool true)) := by
  have hf : Frm (fun k => k = q) w (w.setCell ⟨q, 265, none⟩ (.bool true)) := (Frm.refl (fun k => k = q) w).setCell (p := ⟨q, 265, none⟩) (fun _ => rfl) _
  have hl0 := Mc.list_len h.m (vh := vh) (vm := vm)
  have hbx := h.box.set 265 (.bool true)
  have he : (qCells σ.s.m σ.fuel σ.hal u p9 vh vm).toArray.setIfInBounds 265 (.bool true) = (qCells σ.s.m σ.fuel true u p9 vh vm).toArray := by
    rw [List.setIfInBounds_toArray]
    unfold qCells
    rw [List.set_append_right _ _ (by omega), hl0]
    rfl
  rw [he] at hbx
  have n1 : ∀ k, vh.ownBlock = some k → ¬ k = q := fun k hk e => h.rh.apartX h.box (by decide) k hk e
  have n2 : ∀ k, vm.ownBlock = some k → ¬ k = q := fun k hk e => h.rm.apartX h.box (by decide) k hk e
  have n3 : ∀ k, vo.ownBlock = some k → ¬ k = q := fun k hk e => by have := own_ge h.own k hk; omega
  exact ⟨⟨hbx, h.rh.frmX hf n1, h.rm.frmX hf n2, h.apart, h.ub.frm hf (by have := h.uq; omega), hf.own h.own n3, h.pb.frm hf (by have := h.uq; omega), h.m, h.hw, h.mo, h.lh, h.lm, h.uq, h.fle, h.room⟩, hf⟩
/-- What a step leaves behind. -/
structure RP (most : Int) (t : Tk) (σ : Rs) (q u p9 : Nat) (vo : Value) (w0 : World) (e : Ending) (w : World) : Prop where
  ex : ∃ (c : Int) (σ' : Rs) (vh' vm' vo' : Value), e = .returned (.int .i64 c) ∧ Ev most t σ c σ' ∧ RX w q u p9 most σ' vh' vm' vo' ∧ (∀ k, vo'.ownBlock = some k → vo.ownBlock = some k ∨ w0.heap.size ≤ k)
  frm : Frm (Sx q u vo) w0 w
theorem sx_trans {w0 w1 w2 : World} {vo vo1 : Value} (h1 : Frm (Sx q u vo) w0 w1) (h2 : Frm (Sx q u vo1) w1 w2) (hv : ∀ k, vo1.ownBlock = some k → vo.ownBlock = some k ∨ w0.heap.size ≤ k) : Frm (Sx q u vo) w0 w2 :=
  h1.trans h2 (fun k hk hs => by
    rcases hs with hs | hs | hs
    · exact .inl hs
    · exact .inr (.inl hs)
    · rcases hv k hs with hv | hv
      · exact .inr (.inr hv)
      · omega)
end
end Go.Proofs.Ytebmgladdgmmeaa
namespace Go.Proofs.Ytebmgladdgmmeaa
open Go.RowKit Go.WideShapes
set_option linter.unusedVariables false
set_option linter.unusedSimpArgs false
section
variable {w w' : World} {q u p9 : Nat} {most : Int} {σ : Rs} {vh vm vo : Value}
theorem OwnR.blkX {b : Nat} {v : Value} {e : TypeId} {xs : List Value} (h : OwnR w b v e xs) : ∀ k, v.ownBlock = some k → ∃ cur, Blk w k e cur := fun k hk => by
  rcases h with ⟨rfl, _⟩ | ⟨g', c, rfl, _, _, cur, hb, _⟩
  · cases hk
  · have e1 : g' = k := by simpa [Value.ownBlock] using hk
    subst e1
    exact ⟨cur, hb⟩
theorem RX.put {w2 : World} {vo' : Value} {x : Int} (h : RX w q u p9 most σ vh vm vo) (hown : w2.ownsRow (q + 1) 5 1 vo' (σ.out.length + 1) (σ.out.map (.int .u8) ++ [.int .u8 x])) (hg : w.grownBy w2 vo.ownBlock) (hv : vo'.ownBlock = vo.ownBlock ∨ vo'.ownBlock = some (w.heap.size + 1)) (hr : σ.out.length < 1000) :
    RX (w2.setCell ⟨u, 0, none⟩ vo') q u p9 most { σ with out := σ.out ++ [x] } vh vm vo' ∧ Frm (Sx q u vo) w (w2.setCell ⟨u, 0, none⟩ vo') ∧ (∀ k, vo'.ownBlock = some k → vo.ownBlock = some k ∨ w.heap.size ≤ k) := by
  have huq := h.uq
  have hf1 : Frm (fun k => vo.ownBlock = some k) w w2 := Frm.of_grown hg (fun _ h => h)
  have hf2 : Frm (fun k => k = u) w2 (w2.setCell ⟨u, 0, none⟩ vo') := (Frm.refl (fun k => k = u) w2).setCell (p := ⟨u, 0, none⟩) (fun _ => rfl) _
  have hge : ∀ k, vo.ownBlock = some k → q + 1 ≤ k := own_ge h.own
  have hge' : ∀ k, vo'.ownBlock = some k → q + 1 ≤ k := own_ge hown
  have a1 : ∀ k, vh.ownBlock = some k → ¬ vo.ownBlock = some k := fun k hk hk2 => by
    obtain ⟨cur, hb⟩ := h.rh.blkX k hk
    exact own_apartX h.own hb (by decide) k hk2 rfl
  have a2 : ∀ k, vm.ownBlock = some k → ¬ vo.ownBlock = some k := fun k hk hk2 => h.apart k hk2 hk
  have u1 : ∀ k, vh.ownBlock = some k → ¬ k = u := fun k hk => h.rh.apartX h.ub (by decide) k hk
  have u2 : ∀ k, vm.ownBlock = some k → ¬ k = u := fun k hk => h.rm.apartX h.ub (by decide) k hk
  have nq : ¬ vo.ownBlock = some q := fun e => by have := hge q e; omega
  have nu : ¬ vo.ownBlock = some u := fun e => by have := hge u e; omega
  have np : ¬ vo.ownBlock = some p9 := fun e => by have := hge p9 e; omega
  have ub2 : Blk (w2.setCell ⟨u, 0, none⟩ vo') u 48 #[vo'] := by simpa using (h.ub.frm hf1 nu).set 0 vo'
  have hlt := h.lts
  refine ⟨⟨(h.box.frm hf1 nq).frm hf2 (by omega), (h.rh.frmX hf1 a1).frmX hf2 u1, (h.rm.frmX hf1 a2).frmX hf2 u2, fun k hk hk2 => ?_, ub2, ?_, (h.pb.frm hf1 np).frm hf2 (by omega), h.m, h.hw, h.mo, h.lh, h.lm, h.uq, h.fle, by simp; omega⟩, ?_, ?_⟩
  · rcases hv with hv | hv
    · exact h.apart k (hv ▸ hk) hk2
    · rw [hv] at hk
      injection hk with hk
      have := h.rm.ltX k hk2
      omega
  · have := hf2.own hown (fun k hk e => by have := hge' k hk; omega)
    simpa using this
  · exact (hf1.mono (fun k _ hk => .inr (.inr hk))).trans hf2 (fun k _ hk => .inr (.inl hk))
  · intro k hk
    rcases hv with hv | hv
    · exact .inl (hv ▸ hk)
    · rw [hv] at hk
      injection hk with hk
      exact .inr (by omega)
/-- What putting a byte out comes to. -/
def OutP (q u p9 : Nat) (most : Int) (σ : Rs) (vh vm vo : Value) (x : Int) (w0 : World) (e : Ending) (w : World) : Prop :=
  (most ≤ (σ.out.length : Int) ∧ e = .returned (.int .i64 112) ∧ w0 = w) ∨
  ((σ.out.length : Int) < most ∧ e = .returned (.int .i64 0) ∧ ∃ vo', RX w q u p9 most { σ with out := σ.out ++ [x] } vh vm vo' ∧ Frm (Sx q u vo) w0 w ∧ (∀ k, vo'.ownBlock = some k → vo.ownBlock = some k ∨ w0.heap.size ≤ k))
set_option maxRecDepth 100000 in
set_option maxHeartbeats 4000000 in
theorem out65 (x : Int) (h : RX w q u p9 most σ vh vm vo) (hmo : most ≤ 1000) :
    Calls Try.prog 65 #[.int .u8 x, .pointer (some ⟨u, 0, none⟩), .pointer (some ⟨p9, 0, none⟩)] w (OutP q u p9 most σ vh vm vo x w) := by
  have c1 := h.ub.cell 0
  have c2 := h.pb.cell 0
  have f1 := h.ub.frozen 0
  simp at c1 c2
  obtain ⟨A, c, hvo, _⟩ := own_slice h.own
  have hsz : q + 1 ≤ w.heap.size := h.box.lt
  have HX := Lib.hid h
  have HVO := Lib.hid hvo
  have HSZ := Lib.hid hsz
  have hroom := h.room
  rw [hvo] at c1
  obtain ⟨len, hlen⟩ : ∃ z, σ.out.length = z := ⟨_, rfl⟩
  rw [hlen] at c1 hroom
  have HLEN := Lib.hid hlen
  clear h hvo hsz hlen
  by_cases hm : most ≤ (len : Int)
  · have g1 : decide (most ≤ (len : Int)) = true := by simpa using hm
    have HM := Lib.hid hm
    clear hm
    go_enter Try.func65, Try.ntmps65
    go_wp2_with fail
    go_ret
    exact .inl ⟨by rw [HLEN.out]; exact HM.out, rfl, rfl⟩
  · have g1 : decide (most ≤ (len : Int)) = false := by simpa using hm
    have HM := Lib.hid hm
    have hlt : len < 1000 := by omega
    have own := HX.out.own
    rw [HVO.out, HLEN.out] at own
    have OW := Lib.hid own
    have HLT := Lib.hid hlt
    have hby : (len + 1) * 1 ≤ 140737488355328 := by omega
    have HBY := Lib.hid hby
    clear hm own
    have cu : ∀ w2 : World, w.grownBy w2 (Value.slice A len c).ownBlock → w2.cell? ⟨u, 0, none⟩ = some (.slice A len c) ∧ w2.frozen? ⟨u, 0, none⟩ = false := fun w2 hg => by
      have hf : Frm (fun k => (Value.slice A len c).ownBlock = some k) w w2 := Frm.of_grown hg (fun _ h => h)
      have hb := HX.out.ub.frm hf (fun e => by have := own_ge OW.out u e; have := HX.out.uq; omega)
      refine ⟨?_, hb.frozen 0⟩
      rw [hb.cell 0, HVO.out, HLEN.out]
      rfl
    have CU := Lib.hid cu
    clear cu
    go_enter Try.func65, Try.ntmps65
    go_wp2_with (at_builtin; refine wpList_lit tB rfl (.tmp 9) (.tmp 11) rfl (q + 1) (.slice A len c) len _ rfl OW.out [.int .u8 x] (by intro u hu; simp at hu; subst hu; rfl) 1 rfl _ rfl rfl (by have := HBY.out; omega) (by unfold maxLen; have := HLT.out; omega) HSZ.out ?_; intro v2 w2 o2 hg2 hv2 hb2; obtain ⟨A2, d2, rfl, _⟩ := own_slice o2; have c3 := (CU.out w2 hg2).1; have f3 := (CU.out w2 hg2).2; have O2 := Lib.hid o2; have G2 := Lib.hid hg2; have V2 := Lib.hid hv2; have B2 := Lib.hid hb2; clear o2 hg2 hv2 hb2)
    go_ret
    have hp := HX.out.put (x := x) (w2 := w2) (vo' := .slice A2 (len + 1) d2) (by rw [HLEN.out]; exact O2.out) (by rw [HVO.out, HLEN.out]; exact G2.out) (by rw [HVO.out, HLEN.out]; exact V2.out) (by rw [HLEN.out]; exact HLT.out)
    exact .inr ⟨by rw [HLEN.out]; have := HM.out; omega, rfl, _, hp⟩
end
end Go.Proofs.Ytebmgladdgmmeaa
namespace Go.Proofs.Ytebmgladdgmmeaa
open Go.RowKit Go.WideShapes
open List (setIfInBounds_toArray set_cons_zero set_cons_succ)
set_option linter.unusedVariables false
set_option linter.unusedSimpArgs false
section
variable {w : World} {q u p9 : Nat} {most : Int} {σ : Rs} {vh vm vo : Value}
theorem RX.drewN (h : RX w q u p9 most σ vh vm vo) (n : Nat) : RX (w.drewN n) q u p9 most σ vh vm vo := h.frm (S := fun _ => False) ((Frm.refl _ w).drewN n) (fun h => h) (fun h => h) (fun h => h) (fun _ _ h => h) (fun _ _ h => h) (fun _ _ h => h)
/-- What a condition comes to. -/
def HoldP (h : Hd) (q u p9 : Nat) (most : Int) (σ : Rs) (vo : Value) (w0 : World) (e : Ending) (w : World) : Prop :=
  e = .returned (.bool (condV h σ)) ∧ (∃ vh vm, RX w q u p9 most (condS h σ) vh vm vo) ∧ Frm (fun k => k = q) w0 w
set_option maxRecDepth 100000 in
set_option maxHeartbeats 8000000 in
theorem holds82 (h : Hd) (ho : 0 ≤ h.ci.o) (hx : RX w q u p9 most σ vh vm vo) :
    Calls Try.prog 82 #[.pointer (some ⟨q, 0, none⟩), .agg #[.bool h.nt, .int .u8 h.ci.o, .int .i64 h.ci.d, .int .i64 h.ci.s, .int .i64 h.ci.n]] w (HoldP h q u p9 most σ vo w) := by
  have hb0 : Below w.heap.size w (w.alloc (.cells #[.bool h.nt, .int .u8 h.ci.o, .int .i64 h.ci.d, .int .i64 h.ci.s, .int .i64 h.ci.n] 33)) := (Below.refl _ _).alloc (Nat.le_refl _) _
  have hx0 := hx.below hb0
  have hblk := Blk.new w 33 #[.bool h.nt, .int .u8 h.ci.o, .int .i64 h.ci.d, .int .i64 h.ci.s, .int .i64 h.ci.n]
  have hlt := hx.box.lt
  have hx1 := hx0.below (Below.drew (Below.refl _ _))
  obtain ⟨W0, hW0⟩ : ∃ z, w.alloc (.cells #[.bool h.nt, .int .u8 h.ci.o, .int .i64 h.ci.d, .int .i64 h.ci.s, .int .i64 h.ci.n] 33) = z := ⟨_, rfl⟩
  rw [hW0] at hb0 hx0 hblk hx1
  have hd := do25_own h.ci.o h.ci.d h.ci.s h.ci.n σ.s hx.m hx.hw hx.mo _ vh vm W0.drew hx1.rh hx1.rm hx.lh hx.lm ho
  have hok := DoS_ok h.ci.o h.ci.d h.ci.s h.ci.n hx.m hx.hw hx.mo
  have hln := DoS_len h.ci.o h.ci.d h.ci.s h.ci.n σ.s
  obtain ⟨s2, hs2⟩ : ∃ z, DoS h.ci.o h.ci.d h.ci.s h.ci.n σ.s = z := ⟨_, rfl⟩
  rw [hs2] at hd hok hln
  have hcs : condS h σ = { σ with s := s2 } := by unfold condS doI; rw [hs2]
  have hcv : condV h σ = (s2.m.f != h.nt) := by unfold condV doI; rw [hs2]
  have z9 := Mc.size hx.m vh vm
  have rg := fun W (hW : Below W0.heap.size W0 W) => (hx0.below hW).range
  obtain ⟨c9, hc9⟩ : ∃ z, σ.s.m.cells vh vm = z := ⟨_, rfl⟩
  have hl9 : σ.s.m.list vh vm = c9.toList := by rw [← hc9]; rfl
  rw [hc9] at z9 hd
  rw [hl9] at rg
  have SL : Hid ((Try.prog.info? 50).map (·.size) = some c9.toList.length) := Lib.hid (by rw [Array.length_toList, z9]; exact size50)
  have RG := Lib.hid rg
  have HB := Lib.hid hblk
  have HX0 := Lib.hid hx0
  have HX1 := Lib.hid hx1
  have HB0 := Lib.hid hb0
  have HD := Lib.hid hd
  have HOK := Lib.hid hok
  have HLN := Lib.hid hln
  have HCS := Lib.hid hcs
  have HCV := Lib.hid hcv
  have HLH := Lib.hid hx.lh
  have HLM := Lib.hid hx.lm
  have HLT := Lib.hid hlt
  have HW0 := Lib.hid hW0
  clear hb0 hx0 hx1 hblk hd hok hln hs2 hcs hcv z9 rg hc9 hl9 hx ho hlt
  go_enter Try.func82, Try.ntmps82
  go_wp2_with fail
  have F0 := Lib.hid (Below.refl W0.heap.size W0)
  have F1 := Lib.hid (Below.drew (Below.refl W0.heap.size W0))
  have hS : (fun W => W.cell? ⟨w.heap.size, 1, none⟩ = some (.int .u8 h.ci.o) ∧ W.cell? ⟨w.heap.size, 2, none⟩ = some (.int .i64 h.ci.d) ∧ W.cell? ⟨w.heap.size, 3, none⟩ = some (.int .i64 h.ci.s) ∧ W.cell? ⟨w.heap.size, 4, none⟩ = some (.int .i64 h.ci.n)) W0.drew := ⟨(by have := (HB.out.below F1.out).cell 1; simpa using this), (by have := (HB.out.below F1.out).cell 2; simpa using this), (by have := (HB.out.below F1.out).cell 3; simpa using this), (by have := (HB.out.below F1.out).cell 4; simpa using this)⟩
  try rw [hW0]
  refine wp_region_held_drew (S := fun W => W.cell? ⟨w.heap.size, 1, none⟩ = some (.int .u8 h.ci.o) ∧ W.cell? ⟨w.heap.size, 2, none⟩ = some (.int .i64 h.ci.d) ∧ W.cell? ⟨w.heap.size, 3, none⟩ = some (.int .i64 h.ci.s) ∧ W.cell? ⟨w.heap.size, 4, none⟩ = some (.int .i64 h.ci.n)) (by kernel_rfl) hS (fun hHeld => ?_)
  clear hS hW0
  refine wpAnyH_takeD (i := 0) (d := 5) (oi := _) (v := ?_) rfl rfl (by kernel_rfl) (by kernel_rfl) (by kernel_rfl) (fun _ _ _ h => h) (Or.inl ⟨by rfl, ?_⟩) (by assumption) ?_
  rotate_left
  · (intro w hSw; (try dsimp only at hSw); go_simp) <;> with_reducible rfl
  simp only [Act.put, setIfInBounds_toArray, set_cons_zero, set_cons_succ]
  refine wpAnyH_takeD (i := 1) (d := 6) (oi := _) (v := ?_) rfl rfl (by kernel_rfl) (by kernel_rfl) (by kernel_rfl) (fun _ _ _ h => h) (Or.inl ⟨by rfl, ?_⟩) (by assumption) ?_
  rotate_left
  · (intro w hSw; (try dsimp only at hSw); go_simp) <;> with_reducible rfl
  simp only [Act.put, setIfInBounds_toArray, set_cons_zero, set_cons_succ]
  refine wpAnyH_takeD (i := 2) (d := 7) (oi := _) (v := ?_) rfl rfl (by kernel_rfl) (by kernel_rfl) (by kernel_rfl) (fun _ _ _ h => h) (Or.inl ⟨by rfl, ?_⟩) (by assumption) ?_
  rotate_left
  · (intro w hSw; (try dsimp only at hSw); go_simp) <;> with_reducible rfl
  simp only [Act.put, setIfInBounds_toArray, set_cons_zero, set_cons_succ]
  refine wpAnyH_takeD (i := 3) (d := 8) (oi := _) (v := ?_) rfl rfl (by kernel_rfl) (by kernel_rfl) (by kernel_rfl) (fun _ _ _ h => h) (Or.inl ⟨by rfl, ?_⟩) (by assumption) ?_
  rotate_left
  · (intro w hSw; (try dsimp only at hSw); go_simp) <;> with_reducible rfl
  simp only [Act.put, setIfInBounds_toArray, set_cons_zero, set_cons_succ]
  refine wpAnyH_takeD (i := 4) (d := 9) (oi := _) (v := ?_) rfl rfl (by kernel_rfl) (by kernel_rfl) (by kernel_rfl) (fun _ _ _ h => h) (Or.inl ⟨by rfl, ?_⟩) (by assumption) ?_
  rotate_left
  · (intro w hSw; (try dsimp only at hSw); go_simp) <;> with_reducible rfl
  simp only [Act.put, setIfInBounds_toArray, set_cons_zero, set_cons_succ]
  refine wpAnyH_takeD (i := 5) (d := 10) (oi := _) (v := ?_) rfl rfl (by kernel_rfl) (by kernel_rfl) (by kernel_rfl) (fun _ _ _ h => h) (Or.inl ⟨by rfl, ?_⟩) (by assumption) ?_
  rotate_left
  · (intro w hSw; (try dsimp only at hSw); go_simp) <;> with_reducible rfl
  simp only [Act.put, setIfInBounds_toArray, set_cons_zero, set_cons_succ]
  refine wpAnyH_ready (rs := [6]) (by kernel_rfl) (by simp) ?_
  refine AllReadyH.cons (o := _) rfl (fun K hK => ?_) AllReadyH.nil
  rw [if_pos (by rfl)]
  try simp only [List.getElem_toArray, List.getElem_cons_zero, List.getElem_cons_succ]
  refine wp_load_mid 50 (.tmp 10) rfl q 0 rfl c9.toList _ (RG.out _ F1.out) Try.underlying50 rfl SL.out ?_
  refine hK.out _ _ hHeld (fun hHeld => ?_)
  clear hK K
  try simp only [List.getElem_toArray, List.getElem_cons_zero, List.getElem_cons_succ, Act.put, setIfInBounds_toArray, set_cons_zero, set_cons_succ]
  refine wpAnyH_ready (rs := [7]) (by kernel_rfl) (by simp) ?_
  refine AllReadyH.cons (o := _) rfl (fun K hK => ?_) AllReadyH.nil
  go_simp
  refine HD.out.mono ?_
  rintro e w1 ⟨⟨y1, y2, rfl, o1, o2⟩, l1⟩
  have F2 := Lib.hid (ch0 F1.out l1)
  have hdid := HX1.out.did l1 o1 o2 HOK.out.1 HOK.out.2.1 HOK.out.2.2 (by rw [HLN.out.1]; exact HLH.out) (by rw [HLN.out.2]; exact HLM.out)
  have one := Mc.one (m := s2.m) o1.one o2.one
  have z2 := Mc.size HOK.out.1 y1 y2
  have th := (HX1.out.below l1).there (n := 263) (by omega)
  obtain ⟨c2, hc2⟩ : ∃ z, s2.m.cells y1 y2 = z := ⟨_, rfl⟩
  have hl2 : s2.m.list y1 y2 = c2.toList := by rw [← hc2]; rfl
  rw [hc2] at one z2 ⊢
  rw [hl2] at hdid
  rw [← z2] at th
  have SI : Hid ((Try.prog.info? 50).map (·.size) = some c2.size) := Lib.hid (by rw [z2]; exact size50)
  have ONE := Lib.hid one
  have TH := Lib.hid th
  have HDID := Lib.hid hdid
  clear o1 o2 l1 hdid one z2 th hc2 hl2
  go_wp2_with fail
  refine hK.out _ _ ⟨(by have := (HB.out.below F2.out).cell 1; simpa using this), (by have := (HB.out.below F2.out).cell 2; simpa using this), (by have := (HB.out.below F2.out).cell 3; simpa using this), (by have := (HB.out.below F2.out).cell 4; simpa using this)⟩ (fun hHeld => ?_)
  clear hK K
  try simp only [List.getElem_toArray, List.getElem_cons_zero, List.getElem_cons_succ, Act.put, setIfInBounds_toArray, set_cons_zero, set_cons_succ]
  refine wpAnyH_takeD (i := 8) (d := 13) (oi := _) (v := ?_) rfl rfl (by kernel_rfl) (by kernel_rfl) (by kernel_rfl) (fun _ _ _ h => h) (Or.inl ⟨by rfl, ?_⟩) (by assumption) ?_
  rotate_left
  · (intro w hSw; (try dsimp only at hSw); go_simp) <;> with_reducible rfl
  simp only [Act.put, setIfInBounds_toArray, set_cons_zero, set_cons_succ]
  refine wpAnyH_takeD (i := 9) (d := 14) (oi := _) (v := ?_) rfl rfl (by kernel_rfl) (by kernel_rfl) (by kernel_rfl) (fun _ _ _ h => h) (Or.inl ⟨by rfl, ?_⟩) (by assumption) ?_
  rotate_left
  · (intro w hSw; (try dsimp only at hSw); go_simp) <;> with_reducible rfl
  simp only [Act.put, setIfInBounds_toArray, set_cons_zero, set_cons_succ]
  refine wpAnyH_ready (rs := [10]) (by kernel_rfl) (by simp) ?_
  refine AllReadyH.cons (o := _) rfl (fun K hK => ?_) AllReadyH.nil
  rw [if_pos (by rfl)]
  try simp only [List.getElem_toArray, List.getElem_cons_zero, List.getElem_cons_succ]
  refine wp_store_mid 50 (.tmp 14) (.tmp 12) rfl q 0 c2 rfl rfl TH.out SI.out ONE.out ?_
  have hb2 := (HB.out.below F2.out).frm HDID.out.2 (by have := HLT.out; omega)
  have hfr : Frm (fun k => k = q) w (w1.setCells q 0 c2.toList) := (Frm.of_below (ch0 HB0.out F2.out)).trans HDID.out.2 (fun _ _ h => h)
  have hrx := HDID.out.1
  obtain ⟨W2, hW2⟩ : ∃ z, w1.setCells q 0 c2.toList = z := ⟨_, rfl⟩
  rw [hW2] at hb2 hrx hfr ⊢
  have HB2 := Lib.hid hb2
  have HRX := Lib.hid hrx
  have HFR := Lib.hid hfr
  refine hK.out _ _ ⟨(by have := (HB2.out.below (Below.refl _ _)).cell 1; simpa using this), (by have := (HB2.out.below (Below.refl _ _)).cell 2; simpa using this), (by have := (HB2.out.below (Below.refl _ _)).cell 3; simpa using this), (by have := (HB2.out.below (Below.refl _ _)).cell 4; simpa using this)⟩ (fun hHeld2 => ?_)
  clear hK K hHeld2 hW2
  try simp only [List.getElem_toArray, List.getElem_cons_zero, List.getElem_cons_succ, Act.put, setIfInBounds_toArray, set_cons_zero, set_cons_succ]
  refine wpAnyH_done (by kernel_rfl) ?_ _
  have c4 := HRX.out.c4
  have n0 := HB2.out.cell 0
  simp at n0
  clear hb2 hrx hfr HDID
  go_upto_region 2 with fail
  go_quiet (fail)
  go_wp2_with fail
  go_ret
  exact ⟨by rw [HCV.out]; rfl, ⟨y1, y2, by rw [HCS.out]; exact HRX.out.drewN _⟩, HFR.out.drewN _⟩
end
end Go.Proofs.Ytebmgladdgmmeaa
namespace Go.Proofs.Ytebmgladdgmmeaa
open Go.RowKit Go.WideShapes
set_option linter.unusedVariables false
set_option linter.unusedSimpArgs false
theorem Ev.fuelLe {most : Int} {t : Tk} {σ σ' : Rs} {c : Int} (h : Ev most t σ c σ') : σ'.fuel ≤ σ.fuel := by
  induction h with
  | nil => exact Int.le_refl _
  | stop _ _ ih => exact ih
  | next _ _ _ h1 h2 => omega
  | halt _ => exact Int.le_refl _
  | yes _ _ _ ih => exact ih
  | no _ _ _ ih => exact ih
  | loop _ _ ih => exact ih
  | full _ _ _ => exact Int.le_refl _
  | put _ _ _ => exact Int.le_refl _
  | plain _ _ => exact Int.le_refl _
  | dry _ => exact Int.le_refl _
  | @lstop h b first σ σ' c _ _ _ ih =>
    refine Int.le_trans ih ?_
    cases first
    · show σ.fuel - 1 ≤ σ.fuel
      omega
    · exact Int.le_refl _
  | @lend h b first σ σ' _ _ _ _ ih =>
    refine Int.le_trans ih ?_
    cases first
    · show σ.fuel - 1 ≤ σ.fuel
      omega
    · exact Int.le_refl _
  | @lmore h b first σ σ1 σ2 c _ _ _ _ _ h1 h2 =>
    refine Int.le_trans h2 (Int.le_trans h1 ?_)
    cases first
    · show σ.fuel - 1 ≤ σ.fuel
      omega
    · exact Int.le_refl _
def msrL (q : Nat) (fst : Value) (wr : World) : Nat := ((wr.cell? ⟨q, 263, none⟩).map (fun v => (intOf v).toNat)).getD 0 * 2 + (match fst with | .bool true => 1 | _ => 0)
section
variable {w w' : World} {q u p9 : Nat} {most : Int} {σ : Rs} {vh vm vo : Value}
theorem RX.fuelAt (h : RX w q u p9 most σ vh vm vo) : w.cell? ⟨q, 263, none⟩ = some (.int .i64 σ.fuel) := h.tail 0
theorem RX.halAt (h : RX w q u p9 most σ vh vm vo) : w.cell? ⟨q, 265, none⟩ = some (.bool σ.hal) := h.tail 2
theorem RX.outAt (h : RX w q u p9 most σ vh vm vo) : w.cell? ⟨q, 264, none⟩ = some (.func (.func 65) #[] #[.pointer (some ⟨u, 0, none⟩), .pointer (some ⟨p9, 0, none⟩)]) := h.tail 1
theorem msr_first {σ1 σ2 : Rs} {vh1 vm1 vo1 vh2 vm2 vo2 : Value} {first : Bool} (h1 : RX w q u p9 most σ1 vh1 vm1 vo1) (h2 : RX w' q u p9 most σ2 vh2 vm2 vo2) (hf : σ2.fuel ≤ (spend first σ1).fuel) (hr : first = true ∨ 1 ≤ σ1.fuel) : msrL q (.bool false) w' < msrL q (.bool first) w := by
  unfold msrL
  rw [h1.fuelAt, h2.fuelAt]
  cases first
  · rcases hr with hr | hr
    · cases hr
    · have : σ2.fuel ≤ σ1.fuel - 1 := hf
      simp [intOf]
      omega
  · have : σ2.fuel ≤ σ1.fuel := hf
    simp [intOf]
    omega
/-- Where a loop, or a list, stands. -/
structure RL (B q u p9 : Nat) (most : Int) (vo : Value) (w : World) (σ' : Rs) (vh' vm' vo' : Value) (wr : World) : Prop where
  rx : RX wr q u p9 most σ' vh' vm' vo'
  frm : Frm (Sx q u vo) w wr
  rel : ∀ k, vo'.ownBlock = some k → vo.ownBlock = some k ∨ w.heap.size ≤ k
  low : Below B w wr
theorem RL.step {B : Nat} {wr w2 : World} {σ1 σ2 : Rs} {vh1 vm1 vo1 vh2 vm2 vo2 : Value} (h : RL B q u p9 most vo w σ1 vh1 vm1 vo1 wr) (hB : B ≤ p9) (hx : RX w2 q u p9 most σ2 vh2 vm2 vo2) (hf : Frm (Sx q u vo1) wr w2) (hv : ∀ k, vo2.ownBlock = some k → vo1.ownBlock = some k ∨ wr.heap.size ≤ k) : RL B q u p9 most vo w σ2 vh2 vm2 vo2 w2 := by
  have huq := h.rx.uq
  have hlow := h.low
  have hs := h.frm.size
  refine ⟨hx, sx_trans h.frm hf h.rel, fun k hk => ?_, h.low.trans (hf.to_below (by have := h.rx.pb.lt; omega) (fun k hk => ?_))⟩
  · rcases hv k hk with hv | hv
    · exact h.rel k hv
    · exact .inr (by omega)
  · rcases hk with hk | hk | hk
    · omega
    · omega
    · have := own_ge h.rx.own k hk
      omega
theorem RL.box {B g : Nat} {wr w2 : World} {t : TypeId} {cs : Array Value} {σ1 : Rs} {vh1 vm1 vo1 : Value} (h : RL B q u p9 most vo w σ1 vh1 vm1 vo1 wr) (hb : Blk wr g t cs) (hq : g ≠ q) (hu : g ≠ u) (ht : (5 : TypeId) ≠ t) (hf : Frm (Sx q u vo1) wr w2) : Blk w2 g t cs :=
  hb.frm hf (fun e => by
    rcases e with e | e | e
    · exact hq e
    · exact hu e
    · exact own_apartX h.rx.own hb ht g e rfl)
end
end Go.Proofs.Ytebmgladdgmmeaa
namespace Go.Proofs.Ytebmgladdgmmeaa
open Go.RowKit Go.WideShapes
set_option linter.unusedVariables false
set_option linter.unusedSimpArgs false
section
variable {w : World} {B q u p9 : Nat} {most : Int} {σ : Rs} {vh vm vo : Value}
set_option maxRecDepth 100000 in
set_option maxHeartbeats 8000000 in
theorem loop83 (h : Hd) (b e : Fo) (Ab Ae : Option Addr) (cb ce : Nat) (ho : 0 ≤ h.ci.o) (hx : RX w q u p9 most σ vh vm vo) (hh : σ.hal = false) (hB : B ≤ p9)
    (hbd : ∀ W σ1 vh1 vm1 vo1, RX W q u p9 most σ1 vh1 vm1 vo1 → σ1.hal = false → Below B w W → Calls Try.prog 66 #[.pointer (some ⟨q, 0, none⟩), .slice Ab b.len cb] W (RP most (.list b) σ1 q u p9 vo1 W)) :
    Calls Try.prog 83 #[.pointer (some ⟨q, 0, none⟩), .agg (h.cells (.slice Ab b.len cb) (.slice Ae e.len ce)).toArray] w (RP most (.loop h b true) σ q u p9 vo w) := by
  have hb0 : Below w.heap.size w (w.alloc (.cells (h.cells (.slice Ab b.len cb) (.slice Ae e.len ce)).toArray 35)) := (Below.refl _ _).alloc (Nat.le_refl _) _
  have hblk := Blk.new w 35 (h.cells (.slice Ab b.len cb) (.slice Ae e.len ce)).toArray
  have hlt := hx.lts
  have hst : ∃ (first : Bool) (σ' : Rs) (vh' vm' vo' : Value), (Value.bool true) = .bool first ∧ RL B q u p9 most vo w σ' vh' vm' vo' (w.alloc (.cells (h.cells (.slice Ab b.len cb) (.slice Ae e.len ce)).toArray 35)) ∧ σ'.hal = false ∧ Blk (w.alloc (.cells (h.cells (.slice Ab b.len cb) (.slice Ae e.len ce)).toArray 35)) w.heap.size 35 (h.cells (.slice Ab b.len cb) (.slice Ae e.len ce)).toArray ∧ (∀ c σ2, Ev most (.loop h b first) σ' c σ2 → Ev most (.loop h b true) σ c σ2) :=
    ⟨true, σ, vh, vm, vo, rfl, ⟨hx.below hb0, (Frm.of_below hb0), fun _ h => .inl h, hb0.mono (by omega)⟩, hh, hblk, fun _ _ h => h⟩
  have HST := Lib.hid hst
  have HBD := Lib.hid hbd
  have HLT := Lib.hid hlt
  have HBB := Lib.hid hB
  have HO := Lib.hid ho
  obtain ⟨nb, hnb⟩ : ∃ z, b.len = z := ⟨_, rfl⟩
  obtain ⟨ne, hne⟩ : ∃ z, e.len = z := ⟨_, rfl⟩
  rw [hnb] at HBD
  rw [hnb, hne] at HST ⊢
  obtain ⟨cs, hcs⟩ : ∃ z, (h.cells (.slice Ab nb cb) (.slice Ae ne ce)).toArray = z := ⟨_, rfl⟩
  have HCS := Lib.hid hcs
  clear hb0 hblk hst hbd hlt hx hh hB ho hnb hne
  rw [hcs] at HST ⊢
  clear hcs
  go_enter Try.func83, Try.ntmps83
  go_wp2_with fail
  go_step3
  go_wp2_with fail
  go_step3
  go_wp2_with fail
  go_loopw [5] (fun fst wr => ∃ (first : Bool) (σ' : Rs) (vh' vm' vo' : Value), fst = .bool first ∧ RL B q u p9 most vo w σ' vh' vm' vo' wr ∧ σ'.hal = false ∧ Blk wr w.heap.size 35 cs ∧ (∀ c σ2, Ev most (.loop h b first) σ' c σ2 → Ev most (.loop h b true) σ c σ2)) (fun fst wr => msrL q fst wr)
  case atStart => exact HST.out
  case round =>
    obtain ⟨first, σ1, vh1, vm1, vo1, rfl, hrl, hh1, hblk, hto⟩ := hrel
    have RL1 := Lib.hid hrl
    have HTO := Lib.hid hto
    have HH1 := Lib.hid hh1
    have HBK := Lib.hid hblk
    clear HST
    cases first
    · have f3 := RL1.out.rx.fuelAt
      have z3 := RL1.out.rx.box.frozen 263
      have d10 := HBK.out.cell 10
      rw [← HCS.out] at d10
      simp [Hd.cells] at d10
      have hfle := RL1.out.rx.fle
      by_cases hf : σ1.fuel < 1
      · have g1 : decide (σ1.fuel < 1) = true := by simpa using hf
        have HF := Lib.hid hf
        clear hf hrl hto hh1 hblk
        go_wp2_with fail
        (try rw [Exit.noGoto_ret])
        go_ret
        exact ⟨⟨111, σ1, vh1, vm1, vo1, rfl, HTO.out _ _ (Ev.dry HF.out), RL1.out.rx, RL1.out.rel⟩, RL1.out.frm⟩
      have g1 : decide (σ1.fuel < 1) = false := by simpa using hf
      have hfs := RL1.out.rx.fuelSet (σ1.fuel - 1) (by omega)
      have hf2' : Frm (Sx q u vo1) wr (wr.setCell ⟨q, 263, none⟩ (.int .i64 (σ1.fuel - 1))) := hfs.2.mono (fun k _ hk => .inl hk)
      have hrls := RL1.out.step HBB.out hfs.1 hf2' (fun k hk => .inl hk)
      have hbks := RL1.out.box HBK.out (by have := HLT.out; omega) (by have := HLT.out; omega) (by decide) hf2'
      have hf1 : 1 ≤ σ1.fuel := by omega
      obtain ⟨F, hF⟩ : ∃ z, σ1.fuel = z := ⟨_, rfl⟩
      have HF := Lib.hid hF
      rw [hF] at f3 g1 hfle hf1 hrls hbks
      obtain ⟨Ws, hWs⟩ : ∃ z, wr.setCell ⟨q, 263, none⟩ (.int .i64 (F - 1)) = z := ⟨_, rfl⟩
      rw [hWs] at hrls hbks
      have RLs := Lib.hid hrls
      have HBKs := Lib.hid hbks
      have e10 := hbks.cell 10
      rw [← HCS.out] at e10
      simp [Hd.cells] at e10
      have HF1 := Lib.hid hf1
      have SPE : Hid (spend false σ1 = { σ1 with fuel := F - 1 }) := Lib.hid (by unfold spend; rw [HF.out]; rfl)
      clear hf hrl hto hh1 hblk hfs hf2' hrls hbks hF
      go_wp2_with fail
      try rw [hWs]
      refine (HBD.out Ws _ _ _ _ RLs.out.rx (show ({ σ1 with fuel := F - 1 } : Rs).hal = false from HH1.out) RLs.out.low).mono ?_
      rintro e w2 ⟨⟨c, σ2, vh2, vm2, vo2, rfl, hev, hx2, hv2⟩, hf2⟩
      have hrl2 := RLs.out.step HBB.out hx2 hf2 hv2
      have hbk2 := RLs.out.box HBKs.out (by have := HLT.out; omega) (by have := HLT.out; omega) (by decide) hf2
      have HEV := Lib.hid hev
      have RL2 := Lib.hid hrl2
      have HBK2 := Lib.hid hbk2
      have hal := hx2.halAt
      clear hev hx2 hv2 hf2 hrl2 hbk2
      by_cases hc : c = 0
      rotate_left
      · have e0 : (c == 0) = false := by simpa using hc
        have e1 : (c != 0) = true := by simp [bne, e0]
        have HC := Lib.hid hc
        clear hc hal
        go_wp2_with fail
        (try rw [Exit.noGoto_ret])
        go_ret
        exact ⟨⟨c, σ2, vh2, vm2, vo2, rfl, HTO.out _ _ (Ev.lstop (.inr (by rw [HF.out]; exact HF1.out)) (by rw [SPE.out]; exact HEV.out) (.inl HC.out)), RL2.out.rx, RL2.out.rel⟩, RL2.out.frm⟩
      subst hc
      obtain ⟨hl2, hhl2⟩ : ∃ z, σ2.hal = z := ⟨_, rfl⟩
      rw [hhl2] at hal
      have HHL := Lib.hid hhl2
      clear hhl2
      cases hl2
      rotate_left
      · go_wp2_with fail
        (try rw [Exit.noGoto_ret])
        go_ret
        exact ⟨⟨0, σ2, vh2, vm2, vo2, rfl, HTO.out _ _ (Ev.lstop (.inr (by rw [HF.out]; exact HF1.out)) (by rw [SPE.out]; exact HEV.out) (.inr HHL.out)), RL2.out.rx, RL2.out.rel⟩, RL2.out.frm⟩
      have d5 := HBK2.out.cell 5
      have d6 := HBK2.out.cell 6
      have d7 := HBK2.out.cell 7
      have d8 := HBK2.out.cell 8
      have d9 := HBK2.out.cell 9
      rw [← HCS.out] at d5 d6 d7 d8 d9
      simp [Hd.cells] at d5 d6 d7 d8 d9
      go_wp2_with fail
      refine (holds82 h HO.out RL2.out.rx).mono ?_
      rintro e w3 ⟨rfl, ⟨vh3, vm3, hx3⟩, hf3⟩
      have hf3' : Frm (Sx q u vo2) w2 w3 := hf3.mono (fun k _ hk => .inl hk)
      have hrl3 := RL2.out.step HBB.out hx3 hf3' (fun k hk => .inl hk)
      have hbk3 := RL2.out.box HBK2.out (by have := HLT.out; omega) (by have := HLT.out; omega) (by decide) hf3'
      have RL3 := Lib.hid hrl3
      have HBK3 := Lib.hid hbk3
      clear d5 d6 d7 d8 d9 hal hx3 hf3 hf3' hrl3 hbk3
      obtain ⟨cv, hcv⟩ : ∃ z, condV h σ2 = z := ⟨_, rfl⟩
      rw [hcv]
      have HCV := Lib.hid hcv
      clear hcv
      cases cv
      · go_wp2_with fail
        (try rw [Exit.noGoto_ret])
        go_ret
        exact ⟨⟨0, condS h σ2, vh3, vm3, vo2, rfl, HTO.out _ _ (Ev.lend (.inr (by rw [HF.out]; exact HF1.out)) (by rw [SPE.out]; exact HEV.out) HHL.out HCV.out), RL3.out.rx, RL3.out.rel⟩, RL3.out.frm⟩
      · go_wp2_with fail
        go_roundw
        case rel => exact ⟨false, condS h σ2, vh3, vm3, vo2, rfl, RL3.out, HHL.out, HBK3.out, fun c2 σ4 h4 => HTO.out _ _ (Ev.lmore (.inr (by rw [HF.out]; exact HF1.out)) (by rw [SPE.out]; exact HEV.out) HHL.out HCV.out h4)⟩
        case measure => exact msr_first RL1.out.rx RL3.out.rx (by rw [SPE.out]; exact HEV.out.fuelLe) (.inr (by rw [HF.out]; exact HF1.out))
    · have d10 := HBK.out.cell 10
      rw [← HCS.out] at d10
      simp [Hd.cells] at d10
      clear hrl hto hh1 hblk
      go_wp2_with fail
      refine (HBD.out wr _ _ _ _ RL1.out.rx HH1.out RL1.out.low).mono ?_
      rintro e w2 ⟨⟨c, σ2, vh2, vm2, vo2, rfl, hev, hx2, hv2⟩, hf2⟩
      have hrl2 := RL1.out.step HBB.out hx2 hf2 hv2
      have hbk2 := RL1.out.box HBK.out (by have := HLT.out; omega) (by have := HLT.out; omega) (by decide) hf2
      have HEV := Lib.hid hev
      have RL2 := Lib.hid hrl2
      have HBK2 := Lib.hid hbk2
      have hal := hx2.halAt
      clear hev hx2 hv2 hf2 hrl2 hbk2
      by_cases hc : c = 0
      rotate_left
      · have e0 : (c == 0) = false := by simpa using hc
        have e1 : (c != 0) = true := by simp [bne, e0]
        have HC := Lib.hid hc
        clear hc hal
        go_wp2_with fail
        (try rw [Exit.noGoto_ret])
        go_ret
        exact ⟨⟨c, σ2, vh2, vm2, vo2, rfl, HTO.out _ _ (Ev.lstop (.inl rfl) HEV.out (.inl HC.out)), RL2.out.rx, RL2.out.rel⟩, RL2.out.frm⟩
      subst hc
      obtain ⟨hl2, hhl2⟩ : ∃ z, σ2.hal = z := ⟨_, rfl⟩
      rw [hhl2] at hal
      have HHL := Lib.hid hhl2
      clear hhl2
      cases hl2
      rotate_left
      · go_wp2_with fail
        (try rw [Exit.noGoto_ret])
        go_ret
        exact ⟨⟨0, σ2, vh2, vm2, vo2, rfl, HTO.out _ _ (Ev.lstop (.inl rfl) HEV.out (.inr HHL.out)), RL2.out.rx, RL2.out.rel⟩, RL2.out.frm⟩
      have d5 := HBK2.out.cell 5
      have d6 := HBK2.out.cell 6
      have d7 := HBK2.out.cell 7
      have d8 := HBK2.out.cell 8
      have d9 := HBK2.out.cell 9
      rw [← HCS.out] at d5 d6 d7 d8 d9
      simp [Hd.cells] at d5 d6 d7 d8 d9
      go_wp2_with fail
      refine (holds82 h HO.out RL2.out.rx).mono ?_
      rintro e w3 ⟨rfl, ⟨vh3, vm3, hx3⟩, hf3⟩
      have hf3' : Frm (Sx q u vo2) w2 w3 := hf3.mono (fun k _ hk => .inl hk)
      have hrl3 := RL2.out.step HBB.out hx3 hf3' (fun k hk => .inl hk)
      have hbk3 := RL2.out.box HBK2.out (by have := HLT.out; omega) (by have := HLT.out; omega) (by decide) hf3'
      have RL3 := Lib.hid hrl3
      have HBK3 := Lib.hid hbk3
      clear d5 d6 d7 d8 d9 hal hx3 hf3 hf3' hrl3 hbk3
      obtain ⟨cv, hcv⟩ : ∃ z, condV h σ2 = z := ⟨_, rfl⟩
      rw [hcv]
      have HCV := Lib.hid hcv
      clear hcv
      cases cv
      · go_wp2_with fail
        (try rw [Exit.noGoto_ret])
        go_ret
        exact ⟨⟨0, condS h σ2, vh3, vm3, vo2, rfl, HTO.out _ _ (Ev.lend (.inl rfl) HEV.out HHL.out HCV.out), RL3.out.rx, RL3.out.rel⟩, RL3.out.frm⟩
      · go_wp2_with fail
        go_roundw
        case rel => exact ⟨false, condS h σ2, vh3, vm3, vo2, rfl, RL3.out, HHL.out, HBK3.out, fun c2 σ4 h4 => HTO.out _ _ (Ev.lmore (.inl rfl) HEV.out HHL.out HCV.out h4)⟩
        case measure => exact msr_first RL1.out.rx RL3.out.rx HEV.out.fuelLe (.inl rfl)
end
end Go.Proofs.Ytebmgladdgmmeaa
