/- A machine at work in memory; place and its closures: walks. Condition: a right machine. -/
import Derived.Test.YtebmgladdgmmeaaVdGCn
import Derived.Test.YtebmgladdgmmeaaVdGMa
import Derived.Laws.BitsLemmas
namespace Go.Proofs.Ytebmgladdgmmeaa
open Go.RowKit Go.WideShapes
set_option linter.unusedVariables false
set_option linter.unusedSimpArgs false
/-- A row of whole length at the head of a block. -/
def RowAt (w : World) (g : Nat) (e : TypeId) (xs : List Value) : Prop := ∃ cur : Array Value, Blk w g e cur ∧ cur.toList.take xs.length = xs
section
variable {w w' : World} {g k : Nat} {e : TypeId} {xs : List Value}
theorem RowAt.below (h : RowAt w g e xs) (hb : Below w.heap.size w w') : RowAt w' g e xs := by
  obtain ⟨cur, h1, h2⟩ := h
  exact ⟨cur, h1.below hb, h2⟩
theorem RowAt.frm {S : Nat → Prop} (h : RowAt w g e xs) (hf : Frm S w w') (hn : ¬ S g) : RowAt w' g e xs := by
  obtain ⟨cur, h1, h2⟩ := h
  exact ⟨cur, h1.frm hf hn, h2⟩
theorem RowAt.lt (h : RowAt w g e xs) : g < w.heap.size := by
  obtain ⟨cur, h1, _⟩ := h
  exact h1.lt
theorem RowAt.cell (h : RowAt w g e xs) {u : Value} (hu : xs[k]? = some u) : w.cell? ⟨g, k, none⟩ = some u := by
  obtain ⟨cur, h1, h2⟩ := h
  rw [h1.cell k]
  rw [← h2, List.getElem?_take] at hu
  split at hu
  · simpa using hu
  · cases hu
theorem RowAt.fz (h : RowAt w g e xs) (k : Nat) : w.frozen? ⟨g, k, none⟩ = false := by
  obtain ⟨cur, h1, _⟩ := h
  exact h1.frozen k
theorem RowAt.set (h : RowAt w g e xs) (k : Nat) (u : Value) : RowAt (w.setCell ⟨g, k, none⟩ u) g e (xs.set k u) := by
  obtain ⟨cur, h1, h2⟩ := h
  refine ⟨_, h1.set k u, ?_⟩
  rw [List.length_set, Array.toList_setIfInBounds, List.take_set, h2]
theorem RowAt.ne {g' : Nat} {t' : TypeId} {cs' : Array Value} (h : RowAt w g e xs) (h' : Blk w g' t' cs') (hne : e ≠ t') : g ≠ g' := by
  obtain ⟨cur, h1, _⟩ := h
  exact Blk.ne h1 h' hne
theorem RowAt.of_own {base n c : Nat} (h : w.ownsRow base e 1 (.slice (some ⟨g, 0, none⟩) n c) n xs) (hn : n = xs.length) : RowAt w g e xs := by
  rcases h.2 with ⟨h0, _⟩ | ⟨g', cap, cur, hv, hb, hg, _, _, _, ht⟩
  · cases h0
  · injection hv with hv _ _
    injection hv with hv
    injection hv with hv _ _
    subst hv
    exact ⟨cur, hg, by rw [← hn]; simpa using ht⟩
end
def Wds (l : List Int) : Prop := ∀ x ∈ l, U32 x
def idx (x : Int) (n : Nat) : Nat := (x % (n : Int)).toNat
theorem mask_mod (x : Int) (n : Nat) (hx : U32 x) (hp : powF n 12 = true) : bits .and .u32 x ((n : Int) - 1) = (idx x n : Int) := by
  have h := fun K hK => bits_mask .u32 32 (by decide) (fun n h0 h1 => by rw [IntKind.wrap_u32]; omega) K hK x hx.1 (by have := hx.2; omega)
  unfold idx
  have e : ∀ K : Nat, n = 2 ^ K → K ≤ 12 → bits .and .u32 x ((n : Int) - 1) = (((x % (n : Int)).toNat : Nat) : Int) := by
    intro K hn hK
    have h1 := h K (by omega)
    have e1 : ((n : Int)) = (2 : Int) ^ K := by rw [hn]; simp
    rw [e1, h1]
    have : 0 ≤ x % (2 : Int) ^ K := Int.emod_nonneg _ (by rw [← e1]; have := Nat.pos_of_ne_zero (n := n) (by rw [hn]; exact Nat.ne_of_gt (Nat.two_pow_pos K)); omega)
    omega
  rcases pow_cases hp with h | h | h | h | h | h | h | h | h | h | h | h | h
  · exact e 0 h (by omega)
  · exact e 1 h (by omega)
  · exact e 2 h (by omega)
  · exact e 3 h (by omega)
  · exact e 4 h (by omega)
  · exact e 5 h (by omega)
  · exact e 6 h (by omega)
  · exact e 7 h (by omega)
  · exact e 8 h (by omega)
  · exact e 9 h (by omega)
  · exact e 10 h (by omega)
  · exact e 11 h (by omega)
  · exact e 12 h (by omega)
theorem idx_lt (x : Int) {n : Nat} (hn : 0 < n) : idx x n < n := by
  unfold idx
  have := Int.emod_lt_of_pos x (show (0 : Int) < (n : Int) by omega)
  omega
/-- A machine: its registers, its memories. -/
structure St where
  m : Mc
  hs : List Int
  ms : List Int
structure St.ok (s : St) : Prop where
  m : s.m.ok
  hw : Wds s.hs
  mo : Oct s.ms
  right : rightM s.hs.length s.ms.length = true
/-- A machine that may work: a box g, the memories' blocks gh, gm. -/
structure Vm (w : World) (g gh gm : Nat) (s : St) (ch cm : Nat) : Prop where
  box : MBox w g s.m (.slice (some ⟨gh, 0, none⟩) s.hs.length ch) (.slice (some ⟨gm, 0, none⟩) s.ms.length cm)
  hrow : RowAt w gh 45 (s.hs.map (.int .u32))
  mrow : RowAt w gm 5 (s.ms.map (.int .u8))
  ok : s.ok
def Sg (g gh gm : Nat) (k : Nat) : Prop := k = g ∨ k = gh ∨ k = gm
theorem pow_pos {n most : Nat} (h : powF n most = true) : 0 < n := by
  unfold powF at h
  rw [List.any_eq_true] at h
  obtain ⟨k, _, hk⟩ := h
  have := Nat.two_pow_pos k
  simp at hk
  omega
theorem St.ok.p8 {s : St} (h : s.ok) : powF s.hs.length 8 = true := by
  have := h.right
  unfold rightM at this
  simp at this
  exact this.1
theorem St.ok.p12 {s : St} (h : s.ok) : powF s.ms.length 12 = true := by
  have := h.right
  unfold rightM at this
  simp at this
  exact this.2
theorem pow_up {n : Nat} (h : powF n 8 = true) : powF n 12 = true := by
  unfold powF at *
  rw [List.any_eq_true] at *
  obtain ⟨k, hk, hk2⟩ := h
  exact ⟨k, by simp at hk ⊢; omega, hk2⟩
theorem pow_le {n : Nat} (h : powF n 12 = true) : n ≤ 4096 := by
  rcases pow_cases h with h | h | h | h | h | h | h | h | h | h | h | h | h <;> omega
theorem Vm.below {w w' : World} {g gh gm : Nat} {s : St} {ch cm : Nat} (h : Vm w g gh gm s ch cm) (hb : Below w.heap.size w w') : Vm w' g gh gm s ch cm := ⟨h.box.below hb, h.hrow.below hb, h.mrow.below hb, h.ok⟩
/-- What stands at a place. -/
def getP (n : Int) (s : St) : Int :=
  if n = 0 then s.m.a else if n = 1 then s.m.b else if n = 2 then s.m.c else if n = 3 then s.m.d else
  if n = 4 then s.ms.getD (idx s.m.b s.ms.length) 0 else if n = 5 then s.ms.getD (idx s.m.c s.ms.length) 0 else s.hs.getD (idx s.m.d s.hs.length) 0
/-- A number at a place. -/
def setP (n x : Int) (s : St) : St :=
  if n = 0 then { s with m := { s.m with a := x } } else if n = 1 then { s with m := { s.m with b := x } } else if n = 2 then { s with m := { s.m with c := x } } else if n = 3 then { s with m := { s.m with d := x } } else
  if n = 4 then { s with ms := s.ms.set (idx s.m.b s.ms.length) (x % 256) } else if n = 5 then { s with ms := s.ms.set (idx s.m.c s.ms.length) (x % 256) } else { s with hs := s.hs.set (idx s.m.d s.hs.length) x }
theorem mem_set {P : Int → Prop} {l : List Int} (h : ∀ x ∈ l, P x) {k : Nat} {u : Int} (hu : P u) : ∀ x ∈ l.set k u, P x := fun x hx => by
  rcases List.mem_or_eq_of_mem_set hx with h1 | h1
  · exact h x h1
  · exact h1 ▸ hu
theorem setP_ok {s : St} (h : s.ok) (n : Int) {x : Int} (hx : U32 x) : (setP n x s).ok := by
  have hb : 0 ≤ x % 256 ∧ x % 256 ≤ 255 := by omega
  unfold setP
  split
  · exact ⟨⟨hx, h.m.b, h.m.c, h.m.d, h.m.len, h.m.r⟩, h.hw, h.mo, h.right⟩
  split
  · exact ⟨⟨h.m.a, hx, h.m.c, h.m.d, h.m.len, h.m.r⟩, h.hw, h.mo, h.right⟩
  split
  · exact ⟨⟨h.m.a, h.m.b, hx, h.m.d, h.m.len, h.m.r⟩, h.hw, h.mo, h.right⟩
  split
  · exact ⟨⟨h.m.a, h.m.b, h.m.c, hx, h.m.len, h.m.r⟩, h.hw, h.mo, h.right⟩
  split
  · exact ⟨h.m, h.hw, mem_set h.mo hb, by simpa using h.right⟩
  split
  · exact ⟨h.m, h.hw, mem_set h.mo hb, by simpa using h.right⟩
  · exact ⟨h.m, mem_set h.hw hx, h.mo, by simpa using h.right⟩
theorem getP_u32 {s : St} (h : s.ok) (n : Int) : U32 (getP n s) := by
  have hm : ∀ k, U32 (s.ms.getD k 0) := fun k => by
    rw [List.getD_eq_getElem?_getD]
    rcases hx : s.ms[k]? with _ | x
    · exact u32_0
    · have := h.mo x (List.mem_of_getElem? hx)
      exact ⟨this.1, by simp; omega⟩
  have hh : ∀ k, U32 (s.hs.getD k 0) := fun k => by
    rw [List.getD_eq_getElem?_getD]
    rcases hx : s.hs[k]? with _ | x
    · exact u32_0
    · exact h.hw x (List.mem_of_getElem? hx)
  unfold getP
  split
  · exact h.m.a
  split
  · exact h.m.b
  split
  · exact h.m.c
  split
  · exact h.m.d
  split
  · exact hm _
  split
  · exact hm _
  · exact hh _
theorem Mc.set_reg {m : Mc} (vh vm : Value) (x : Int) : (m.cells vh vm).setIfInBounds 0 (.int .u32 x) = ({ m with a := x } : Mc).cells vh vm ∧ (m.cells vh vm).setIfInBounds 1 (.int .u32 x) = ({ m with b := x } : Mc).cells vh vm ∧ (m.cells vh vm).setIfInBounds 2 (.int .u32 x) = ({ m with c := x } : Mc).cells vh vm ∧ (m.cells vh vm).setIfInBounds 3 (.int .u32 x) = ({ m with d := x } : Mc).cells vh vm ∧ ∀ f : Bool, (m.cells vh vm).setIfInBounds 4 (.bool f) = ({ m with f := f } : Mc).cells vh vm := by
  refine ⟨?_, ?_, ?_, ?_, fun f => ?_⟩ <;> simp [Mc.cells, Mc.list]
end Go.Proofs.Ytebmgladdgmmeaa
