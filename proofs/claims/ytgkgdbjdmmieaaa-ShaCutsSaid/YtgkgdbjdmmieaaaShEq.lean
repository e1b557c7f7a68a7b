/- '==' of two arrays of twenty bytes: just where the bytes are the same. -/
import Derived.Test.YtgkgdbjdmmieaaaShSu
import Derived.DeepKeys
namespace Go.Proofs.Ytgkgdbjdmmieaaa
open Go.RowKit Go.WideShapes
set_option linter.unusedVariables false
set_option linter.unusedSimpArgs false
theorem mapM_has {α β : Type} {f : α → Option β} {g : α → β} : ∀ (l : List α), (∀ a ∈ l, f a = some (g a)) → l.mapM f = some (l.map g)
  | [], _ => rfl
  | a :: l, h => by
    rw [List.mapM_cons, h a (by simp), mapM_has l fun b hb => h b (by simp [hb])]
    rfl
theorem flat_one {α β : Type} (g : α → β) : ∀ l : List α, (l.map fun a => [g a]).flatten = l.map g
  | [] => rfl
  | a :: l => by simp [flat_one g l]
theorem range_getD (l : List Int) (n : Nat) (h : l.length = n) : (List.range n).map (fun i => Lit.int .u8 (l.getD i 0)) = l.map (Lit.int .u8) := by
  subst h
  apply List.ext_getElem
  · simp
  · intro i h1 h2
    simp at h1
    simp [List.getD_eq_getElem?_getD, List.getElem?_eq_getElem h1]
theorem keyLits20 (l : List Int) (hl : l.length = 20) (ho : Oct l) : Try.prog.keyLits 2 23 (octs l) = some (l.map (Lit.int .u8)) := by
  have c23 : Try.prog.cellsOf 23 = 20 := by kernel_rfl
  have c5 : Try.prog.cellsOf 5 = 1 := by kernel_rfl
  have u23 : Try.prog.underlying 23 = some (.array 20 5) := Try.underlying23
  have u5 : Try.prog.underlying 5 = some (.int .u8) := Try.underlying5
  have hm := mapM_has (f := fun i => Try.prog.keyLits 1 5 (((octs l).drop (i * 1)).take 1)) (g := fun i => [Lit.int .u8 (l.getD i 0)]) (List.range 20) (fun i hi => by
    have hi' : i < l.length := by rw [hl]; simpa using hi
    have e : ((octs l).drop (i * 1)).take 1 = [.int .u8 (l.getD i 0)] := by
      rw [Nat.mul_one, octs_drop, octs_take]
      rw [List.take_one, List.head?_drop, List.getElem?_eq_getElem hi', List.getD_eq_getElem?_getD, List.getElem?_eq_getElem hi']
      rfl
    rw [e]
    have hb := ho.getD i
    have hwf : (Lit.int .u8 (l.getD i 0)).wf = true := by
      generalize l.getD i 0 = x at hb
      simp [Lit.wf, IntKind.min, IntKind.max, IntKind.signed, IntKind.bits]
      omega
    unfold Program.keyLits
    rw [u5]
    simp only
    rw [if_pos ⟨trivial, hwf⟩])
  unfold Program.keyLits
  rw [u23]
  simp only
  rw [if_pos (by rw [octs_length, c23, hl]), c5, hm]
  simp only [Option.map_some]
  rw [flat_one, range_getD l 20 hl]
theorem eq20 (a b : List Int) (ha : a.length = 20) (hb : b.length = 20) (oa : Oct a) (ob : Oct b) (w : World) :
    ∃ r : Bool, (Op.equalIn 10000 23 (.agg (octs a).toArray) (.agg (octs b).toArray)).run Try.prog w = .ok r w ∧ (r = true ↔ a = b) := by
  have hk : Try.prog.keyTypeAt 2 23 = true := by kernel_rfl
  have fm : ∀ l : List Int, l.length = 20 → (Value.agg (octs l).toArray).formed Try.prog 23 = true := fun l hl => by
    have c23 : Try.prog.cellsOf 23 = 20 := by kernel_rfl
    simp [Value.formed, Try.underlying23, c23, octs_length, hl]
  obtain ⟨r, hr, hi⟩ := run_equalIn_deep (P := Try.prog) 9998 2 23 hk w 2 2 (.agg (octs a).toArray) (.agg (octs b).toArray) _ _ (fm a ha) (fm b hb) (by simpa [Value.cells] using keyLits20 a ha oa) (by simpa [Value.cells] using keyLits20 b hb ob)
  refine ⟨r, hr, hi.trans ⟨fun h => ?_, fun h => by rw [h]⟩⟩
  exact List.map_inj_right (fun x y h => by injection h) |>.1 h
theorem eq20_same (a : List Int) (ha : a.length = 20) (oa : Oct a) (w : World) : (Op.equalIn 10000 23 (.agg (octs a).toArray) (.agg (octs a).toArray)).run Try.prog w = .ok true w := by
  obtain ⟨r, hr, hi⟩ := eq20 a a ha ha oa oa w
  rw [hr, hi.2 rfl]
end Go.Proofs.Ytgkgdbjdmmieaaa
