/- The index's map: keyed by twenty bytes, numbers behind them. -/
import Derived.Test.YtlhhkmpidnegcaaFrm
import Derived.Test.YtlhhkmpidnegcaaRows
import Derived.Maps.OwnSet
import Derived.Maps.Views
import Derived.DeepKeys
import Derived.DeepKeys4
namespace Go.Proofs.Ytlhhkmpidnegcaa
open Go.RowKit Go.WideShapes Go.Maps
set_option linter.unusedVariables false
set_option linter.unusedSimpArgs false
set_option maxRecDepth 100000
def hashV (l : List Int) : List Value := l.map (Value.int .u8)
theorem hashV_length (l : List Int) : (hashV l).length = l.length := by simp [hashV]
structure IsHash (h : List Int) : Prop where
  len : h.length = 20
  oct : Oct h
theorem mapM_has {α β : Type} {f : α → Option β} {g : α → β} : ∀ (l : List α), (∀ a ∈ l, f a = some (g a)) → l.mapM f = some (l.map g)
  | [], _ => rfl
  | a :: l, h => by
    rw [List.mapM_cons, h a (by simp), mapM_has l fun b hb => h b (by simp [hb])]
    rfl
theorem flat_one {α β : Type} (g : α → β) : ∀ l : List α, (l.map fun a => [g a]).flatten = l.map g
  | [] => rfl
  | a :: l => by simp [flat_one g l]
theorem range_getD (l : List Int) (n : Nat) (h : l.length = n) : (List.range n).map (fun i => Lit.int .u8 (l.getD i 0)) = l.map (Lit.int .u8) := by
  subst h
  apply List.ext_getElem
  · simp
  · intro i h1 h2
    simp at h1
    simp [List.getD_eq_getElem?_getD, List.getElem?_eq_getElem h1]
theorem cells37 : Try.prog.cellsOf 50 = 20 := by kernel_rfl
theorem cells5 : Try.prog.cellsOf 5 = 1 := by kernel_rfl
theorem hashLits (d : Nat) (l : List Int) (hl : IsHash l) : Try.prog.keyLits (d + 2) 50 (hashV l) = some (l.map (Lit.int .u8)) := by
  have hm := mapM_has (f := fun i => Try.prog.keyLits (d + 1) 5 (((hashV l).drop (i * 1)).take 1)) (g := fun i => [Lit.int .u8 (l.getD i 0)]) (List.range 20) (fun i hi => by
    have hi' : i < l.length := by rw [hl.len]; simpa using hi
    have e : ((hashV l).drop (i * 1)).take 1 = [.int .u8 (l.getD i 0)] := by
      unfold hashV
      rw [Nat.mul_one, ← List.map_drop, ← List.map_take, List.take_one, List.head?_drop, List.getElem?_eq_getElem hi', List.getD_eq_getElem?_getD, List.getElem?_eq_getElem hi']
      rfl
    rw [e]
    have hb := hl.oct.getD i
    have hwf : (Lit.int .u8 (l.getD i 0)).wf = true := by
      generalize l.getD i 0 = x at hb
      simp [Lit.wf, IntKind.min, IntKind.max, IntKind.signed, IntKind.bits]
      omega
    unfold Program.keyLits
    rw [Try.underlying5]
    simp only
    rw [if_pos ⟨trivial, hwf⟩])
  unfold Program.keyLits
  rw [Try.underlying50]
  simp only
  rw [if_pos (by rw [hashV_length, cells37, hl.len]), cells5, hm]
  simp only [Option.map_some]
  rw [flat_one, range_getD l 20 hl.len]
theorem hash_formed (l : List Int) (hl : IsHash l) : (Value.agg (hashV l).toArray).formed Try.prog 50 = true := by
  simp [Value.formed, Try.underlying50, cells37, hashV_length, hl.len]
/-- What a hash reads as, as a key. -/
def klit (l : List Int) : Lit := .string (keyBytes (l.map (Lit.int .u8)))

theorem laidOutP : laidOutB Try.prog = true := by kernel_rfl
theorem row37 : (50 : TypeId) < Try.prog.types.size := of_decide_eq_true (by kernel_rfl)
theorem wide37 : (match Try.prog.underlying 50 with | some (.array _ _) | some (.struct _) => true | _ => false) = true := by rw [Try.underlying50]

theorem klaw : WideMaps.KeyLaw Try.prog 50 := deep_law_laid laidOutP (m := 2) (by omega) row37 (by kernel_rfl) wide37
theorem keyed37 : Keyed Try.prog 50 := Keyed.of_law klaw
theorem keyType37 : Try.prog.keyType 50 = true := by kernel_rfl
theorem hash_key (l : List Int) (hl : IsHash l) : keyOf Try.prog 50 (.agg (hashV l).toArray) = some (klit l) := by
  unfold keyOf
  rw [Try.underlying50]
  simp only
  obtain ⟨d, hd⟩ : ∃ d, Try.prog.types.size + 1 = d + 2 := ⟨Try.prog.types.size - 1, by have h37 : 50 < Try.prog.types.size := row37; omega⟩
  rw [if_pos (by rw [keyType37, hash_formed l hl]; rfl), hd]
  simp only [Value.cells]
  rw [hashLits d l hl]
  rfl
theorem klit_inj {a b : List Int} (ha : IsHash a) (hb : IsHash b) (h : klit a = klit b) : a = b := by
  unfold klit at h
  injection h with h
  have e := keyBytes_inj (keyLits_alike (hashLits 0 a ha) (hashLits 0 b hb)) (keyLits_wf (hashLits 0 a ha)) (keyLits_wf (hashLits 0 b hb)) h
  exact List.map_inj_right (fun x y h => by injection h) |>.1 e
theorem zero3 (w : World) : (zeroValue 3).run Try.prog w = .ok (.int .i64 0) w := by kernel_rfl
/-- The map in block b tells f. -/
structure KMap (w : World) (b n : Nat) (f : List Int → Option Nat) : Prop where
  ex : ∃ D : DataW Unit, w.ownsMap Try.prog 50 (plainElem Try.prog 3) b n D ∧ ∀ h, IsHash h → Maps.has D (klit h) = (f h).isSome ∧ ∀ i, f h = some i → D.atKey (klit h) (.lit (.int .i64 0)) = .lit (.int .i64 (i : Int))
theorem isKey (h : List Int) (hh : IsHash h) : WideAt.IsKeyLit (klit h) := trivial
theorem kmap_new (w : World) : KMap (w.alloc (.map #[] 0)) w.heap.size 0 (fun _ => none) :=
  ⟨⟨_, World.ownsMap_made w Try.prog 50 _, fun h hh => ⟨rfl, fun i hi => by cases hi⟩⟩⟩
theorem KMap.lt {w : World} {b n : Nat} {f : List Int → Option Nat} (h : KMap w b n f) : b < w.heap.size := by obtain ⟨D, h1, _⟩ := h.ex; exact h1.lt
theorem KMap.look {w : World} {b n : Nat} {f : List Int → Option Nat} (h : KMap w b n f) (l : List Int) (hl : IsHash l) :
    (Instr.lookup 106 (.map (some b)) (.agg (hashV l).toArray) true).run Try.prog w = .ok (.tuple #[.int .i64 ((f l).getD 0 : Nat), .bool (f l).isSome]) w := by
  obtain ⟨D, h1, h2⟩ := h.ex
  obtain ⟨v, ps, hrun, hv⟩ := h1.look_ok keyed37 Try.underlying106 (zero3 w) (zd := .lit (.int .i64 0)) (zp := []) (plainElem_int Try.underlying3 (by decide)) (hash_key l hl)
  obtain ⟨c, rfl, hc, hwc⟩ := plainElem_int_inv Try.underlying3 hv
  obtain ⟨h3, h4⟩ := h2 l hl
  rw [hrun, h3]
  cases hf : f l with
  | none =>
    have hno : Maps.has D (klit l) = false := by rw [h3, hf]; rfl
    have := congrArg Prod.fst hc
    simp only at this
    rw [atKey_of_not_has hno] at this
    injection this with this
    injection this with _ this
    subst this
    rfl
  | some i =>
    have := congrArg Prod.fst hc
    simp only at this
    rw [h4 i hf] at this
    injection this with this
    injection this with _ this
    subst this
    rfl
theorem KMap.store {w : World} {b n : Nat} {f : List Int → Option Nat} (h : KMap w b n f) (hn : n < 100000) (l : List Int) (hl : IsHash l) (i : Nat) (hi : i < 100000) :
    ∃ w', (Instr.mapUpdate 106 (.map (some b)) (.agg (hashV l).toArray) (.int .i64 (i : Int))).run Try.prog w = .ok () w' ∧ KMap w' b (n + 1) (fun h => if h = l then some i else f h) ∧ w.grownBy w' (some b) := by
  obtain ⟨D, h1, h2⟩ := h.ex
  have hwf : (Lit.int .i64 (i : Int)).wf = true := by simp [Lit.wf, IntKind.min, IntKind.max, IntKind.signed, IntKind.bits]; omega
  obtain ⟨w', hrun, h3, h4⟩ := h1.update keyed37 Try.underlying106 (by unfold maxLen; omega) (hash_key l hl) (plainElem_int (H := Unit) Try.underlying3 hwf)
  refine ⟨w', hrun, ⟨⟨_, h3, fun h hh => ?_⟩⟩, h4⟩
  by_cases e : h = l
  · subst e
    rw [has_put_same h1.isMap (isKey h hh)]
    refine ⟨by simp, fun j hj => ?_⟩
    simp at hj
    subst hj
    exact atKey_put_same h1.isMap (isKey h hh) _ _
  · have hne : klit h ≠ klit l := fun e' => e (klit_inj hh hl e')
    rw [has_put_other hne, (h2 h hh).1]
    refine ⟨by simp [e], fun j hj => ?_⟩
    simp [e] at hj
    rw [atKey_put_other hne]
    exact (h2 h hh).2 j hj
theorem KMap.del {w : World} {b n : Nat} {f : List Int → Option Nat} (h : KMap w b n f) (l : List Int) (hl : IsHash l) (ty : TypeId) :
    ∃ w', (Builtin.delete_ #[106, 50] ty #[.map (some b), .agg (hashV l).toArray]).run Try.prog w = .ok (.tuple #[]) w' ∧ KMap w' b n (fun h => if h = l then none else f h) ∧ w.mapTurned w' b := by
  obtain ⟨D, h1, h2⟩ := h.ex
  obtain ⟨w', hrun, h3, h4⟩ := h1.drop keyed37 Try.underlying106 (hash_key l hl) ty
  refine ⟨w', hrun, ⟨⟨_, h3, fun h hh => ?_⟩⟩, h4⟩
  by_cases e : h = l
  · subst e
    rw [has_del_same]
    exact ⟨by simp, fun j hj => by simp at hj⟩
  · have hne : klit h ≠ klit l := fun e' => e (klit_inj hh hl e')
    rw [has_del_other hne, (h2 h hh).1]
    refine ⟨by simp [e], fun j hj => ?_⟩
    simp [e] at hj
    rw [atKey_del_other hne]
    exact (h2 h hh).2 j hj
theorem KMap.frm {w w' : World} {b n : Nat} {f : List Int → Option Nat} {S : Nat → Prop} (h : KMap w b n f) (hf : Frm S w w') (hb : ¬ S b) : KMap w' b n f := by
  obtain ⟨D, h1, h2⟩ := h.ex
  obtain ⟨es, clock, he, hr⟩ := h1
  exact ⟨⟨D, ⟨es, clock, (hf.block b h.lt hb).trans he, hr⟩, h2⟩⟩
theorem KMap.below {w w' : World} {b n : Nat} {f : List Int → Option Nat} (h : KMap w b n f) (hf : Below w.heap.size w w') : KMap w' b n f := h.frm (Frm.of_below (S := fun _ => False) hf) (fun h => h)
end Go.Proofs.Ytlhhkmpidnegcaa
