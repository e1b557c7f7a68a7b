/- A map from numbers to ones, as a set of numbers: written, asked, gone through in any order. Plain. -/
import Derived.Test.YtebmgladdgmmeaaVdWords
import Derived.Test.YtebmgladdgmmeaaRows
import Derived.Maps.OwnSet
import Derived.Maps.OwnOps
import Derived.Maps.Views
import Derived.Maps.RangeWalk
namespace Go.Proofs.Ytebmgladdgmmeaa
open Go.RowKit Go.WideShapes Go.Maps
set_option linter.unusedVariables false
set_option linter.unusedSimpArgs false
theorem keyed3 : Keyed Try.prog 3 := int_keyed Try.underlying3
theorem zero3 (w : World) : (zeroValue 3).run Try.prog w = .ok (.int .i64 0) w := by kernel_rfl
def oneL : DataW Unit := .lit (.int .i64 1)
/-- The map in block b has just the numbers of l, a one behind each. -/
structure KSet (w : World) (b n : Nat) (l : List Int) : Prop where
  ex : ∃ D : DataW Unit, w.ownsMap Try.prog 3 (plainElem Try.prog 3) b n D ∧ ∀ x : Int, Maps.has D (.int .i64 x) = l.contains x ∧ (x ∈ l → ∀ zd, D.atKey (.int .i64 x) zd = oneL)
theorem isKeyI (x : Int) : WideAt.IsKeyLit (.int .i64 x) := trivial
theorem kset_new (w : World) : KSet (w.alloc (.map #[] 0)) w.heap.size 0 [] :=
  ⟨⟨_, World.ownsMap_made w Try.prog 3 _, fun x => ⟨rfl, fun hx => by simp at hx⟩⟩⟩
section
variable {w w' : World} {b n : Nat} {l : List Int}
theorem KSet.lt (h : KSet w b n l) : b < w.heap.size := by obtain ⟨D, h1, _⟩ := h.ex; exact h1.lt
theorem KSet.frm {S : Nat → Prop} (h : KSet w b n l) (hf : Frm S w w') (hb : ¬ S b) : KSet w' b n l := by
  obtain ⟨D, h1, h2⟩ := h.ex
  obtain ⟨es, clock, he, hr⟩ := h1
  exact ⟨⟨D, ⟨es, clock, (hf.block b h.lt hb).trans he, hr⟩, h2⟩⟩
theorem KSet.below (h : KSet w b n l) (hf : Below w.heap.size w w') : KSet w' b n l := h.frm (Frm.of_below (S := fun _ => False) hf) (fun h => h)
theorem KSet.look (h : KSet w b n l) (x : Int) (hx : (Lit.int .i64 x).wf = true) :
    (Instr.lookup 96 (.map (some b)) (.int .i64 x) false).run Try.prog w = .ok (.int .i64 (if l.contains x then 1 else 0)) w := by
  obtain ⟨D, h1, h2⟩ := h.ex
  obtain ⟨c, hrun, hat, _⟩ := h1.lookup_int keyed3 Try.underlying96 Try.underlying3 (zero3 w) (keyOf_int_mk Try.underlying3 hx)
  obtain ⟨h3, h4⟩ := h2 x
  have hcc : c = (if l.contains x then 1 else 0) := by
    clear hrun
    by_cases hc : x ∈ l
    · rw [h4 hc] at hat
      unfold oneL at hat
      injection hat with hat
      injection hat with _ hat
      rw [← hat, if_pos (by simpa using hc)]
    · have h5 : Maps.has D (.int .i64 x) = false := by rw [h3]; simpa using hc
      rw [atKey_of_not_has h5] at hat
      injection hat with hat
      injection hat with _ hat
      rw [← hat, if_neg (by simpa using hc)]
  rw [hrun, hcc]
theorem KSet.store (h : KSet w b n l) (hn : n < 100000) (x : Int) (hx : (Lit.int .i64 x).wf = true) :
    ∃ w', (Instr.mapUpdate 96 (.map (some b)) (.int .i64 x) (.int .i64 1)).run Try.prog w = .ok () w' ∧ KSet w' b (n + 1) (l ++ [x]) ∧ w.grownBy w' (some b) := by
  obtain ⟨D, h1, h2⟩ := h.ex
  obtain ⟨w', hrun, h3, h4⟩ := h1.update keyed3 Try.underlying96 (by unfold maxLen; omega) (keyOf_int_mk Try.underlying3 hx) (plainElem_int (H := Unit) Try.underlying3 (by decide : (Lit.int .i64 1).wf = true))
  refine ⟨w', hrun, ⟨⟨_, h3, fun y => ?_⟩⟩, h4⟩
  by_cases e : y = x
  · subst e
    refine ⟨by rw [has_put_same h1.isMap (isKeyI y)]; simp, fun _ zd => ?_⟩
    exact atKey_put_same h1.isMap (isKeyI y) _ _
  · have hne : Lit.int .i64 y ≠ Lit.int .i64 x := fun e' => e (by injection e')
    refine ⟨by rw [has_put_other hne, (h2 y).1]; simp [e], fun hy zd => ?_⟩
    rw [atKey_put_other hne]
    exact (h2 y).2 (by simpa [e] using hy) zd
/-- Going through it: of the numbers of l those are left that 'left' tells. -/
structure KRng (w : World) (b r n : Nat) (l : List Int) (done : List Int) (cnt : Nat) : Prop where
  ex : ∃ (D : DataW Unit) (left : Lit → Bool), w.ranges Try.prog 3 (plainElem Try.prog 3) b r n D left cnt ∧ ∀ x : Int, left (.int .i64 x) = (l.contains x && !done.contains x)
theorem KSet.range (h : KSet w b n l) : ∃ w' cnt, (Instr.range 96 (.map (some b))).run Try.prog w = .ok (.pointer (some ⟨w.heap.size, 0, none⟩)) w' ∧ KRng w' b w.heap.size n l [] cnt ∧ w.grownBy w' none ∧ w'.heap.size = w.heap.size + 1 := by
  obtain ⟨D, h1, h2⟩ := h.ex
  obtain ⟨w', hrun, hr, hg, hs⟩ := h1.range keyed3 Try.underlying96
  exact ⟨w', _, hrun, ⟨⟨D, _, hr, fun x => by rw [(h2 x).1]; simp⟩⟩, hg, hs⟩
theorem KSet.drew (h : KSet w b n l) : KSet w.drew b n l := h.frm (S := fun _ => False) (Frm.drew (Frm.refl _ _)) (fun h => h)
theorem KSet.mono (h : KSet w b n l) {m : Nat} (hm : n ≤ m) : KSet w b m l := by obtain ⟨D, h1, h2⟩ := h.ex; exact ⟨⟨D, h1.mono hm, h2⟩⟩
theorem KSet.alloc (h : KSet w b n l) (o : Obj) : KSet (w.alloc o) b n l := h.below ((Below.refl _ _).alloc (Nat.le_refl _) o)
end
theorem samek (z x : Int) : (Lit.int .i64 z).sameKey (.int .i64 x) = (z == x) := by
  by_cases h : z = x
  · subst h
    rw [WideAt.sameKey_self (isKeyI z)]
    simp
  · rw [sameKey_ne (fun e => h (by injection e))]
    simp [h]
theorem left_step {left : Lit → Bool} {l done : List Int} (h : ∀ x : Int, left (.int .i64 x) = (l.contains x && !done.contains x)) (x y : Int) :
    (left (.int .i64 y) && !(Lit.int .i64 y).sameKey (.int .i64 x)) = (l.contains y && !(done ++ [x]).contains y) := by
  rw [samek, h y]
  by_cases e : y = x
  · subst e; simp
  · simp [e]
end Go.Proofs.Ytebmgladdgmmeaa
