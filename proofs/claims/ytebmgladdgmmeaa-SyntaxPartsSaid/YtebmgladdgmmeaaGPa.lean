/- SyntaxParts: the law's walk. Condition: none. -/
import Derived.Test.YtebmgladdgmmeaaGPp
import Derived.Test.YtebmgladdgmmeaaGDp
import Derived.Test.YtebmgladdgmmeaaGAw
import Derived.Test.YtebmgladdgmmeaaGOp
import Derived.Test.YtebmgladdgmmeaaCoRight
namespace Go.Proofs.Ytebmgladdgmmeaa
open Go.RowKit Go.WideShapes
set_option linter.unusedVariables false
set_option linter.unusedSimpArgs false
theorem tLists : SlT Try.prog 27 22 (.slice none 0 0) 24 := ⟨Try.underlying27, by kernel_rfl, rfl⟩
def sumT : List Fo → Nat
  | [] => 0
  | f :: fs => f.tot + sumT fs
theorem sumT_app : ∀ (a b : List Fo), sumT (a ++ b) = sumT a + sumT b
  | [], b => by simp [sumT]
  | f :: a, b => by simp [sumT, sumT_app a b]; omega
def lenV : Value → Nat
  | .slice _ n _ => n
  | _ => 0
theorem Qu.lenV {w : World} {base n : Nat} {v : Value} {xs : List Value} (h : Qu w base v n xs) : lenV v = n := by
  obtain ⟨_, g, o, cap, cur, rfl, _⟩ := h
  rfl
/-- What stands in the queue. -/
def RowQ (post : Bool) (B : Nat) (w : World) : List Fo → List Value → Prop
  | [], [] => True
  | f :: fs, x :: xs => (∃ A c, x = .slice A f.len c ∧ f.len ≤ c ∧ f.len ≤ lenMost ∧ RdS B w A f ∧ Good post f) ∧ RowQ post B w fs xs
  | _, _ => False
theorem RowQ.below {post : Bool} {B : Nat} {w w' : World} (hb : Below B w w') : ∀ {fs : List Fo} {xs : List Value}, RowQ post B w fs xs → RowQ post B w' fs xs
  | [], [], _ => trivial
  | f :: fs, x :: xs, ⟨⟨A, c, h1, h2, h3, h4, h5⟩, h6⟩ => ⟨⟨A, c, h1, h2, h3, h4.below hb, h5⟩, RowQ.below hb h6⟩
theorem RowQ.len {post : Bool} {B : Nat} {w : World} : ∀ {fs : List Fo} {xs : List Value}, RowQ post B w fs xs → xs.length = fs.length
  | [], [], _ => rfl
  | f :: fs, x :: xs, ⟨_, h6⟩ => by simp [RowQ.len h6]
theorem RowQ.app {post : Bool} {B : Nat} {w : World} {gs : List Fo} {ys : List Value} (h2 : RowQ post B w gs ys) : ∀ {fs : List Fo} {xs : List Value}, RowQ post B w fs xs → RowQ post B w (fs ++ gs) (xs ++ ys)
  | [], [], _ => h2
  | f :: fs, x :: xs, ⟨h, h6⟩ => ⟨h, RowQ.app h2 h6⟩
/-- Where the outer loop stands. -/
structure AtQ (post : Bool) (T : Nat) (w0 : World) (v n : Value) (w : World) : Prop where
  ex : ∃ (fs : List Fo) (xs : List Value) (m : Nat), Qu w w0.heap.size v fs.length xs ∧ RowQ post w0.heap.size w fs xs ∧ n = .int .i64 m ∧ m + sumT fs = T ∧ fs.length ≤ 2 * m + 1
  low : Below w0.heap.size w0 w
/-- Where the inner loop stands. -/
structure AtI (post : Bool) (T m L g o : Nat) (f : Fo) (w0 : World) (v i : Value) (w : World) : Prop where
  ex : ∃ (k : Nat) (r : Fo) (fs : List Fo) (xs : List Value), Qu w w0.heap.size v fs.length xs ∧ RowQ post w0.heap.size w fs xs ∧ i = .int .i64 k ∧ k + r.len = f.len ∧ RdF w0.heap.size w r g (o + k * 13) ∧ Good post r ∧ m + sumT fs + r.tot = T + r.len ∧ fs.length + 2 * r.len = L + 2 * f.len
  low : Below w0.heap.size w0 w
/-- 'append(queue, x, y)', both laid in a block of their own just ahead. -/
theorem wpList_appQ {P : Program} {t : TypeId} {z : Value} {bytes : Nat} {ops : Array Oper} {rest : List Oper} {o : Oper} {a : Act} {w : World} {Q : Exit → Act → World → Prop} (T : SlT P t 22 z bytes) (hgd : Region.wanted o (yielded ops a.tmps) = true) (s x : Operand)
    (ho : o.op = .call { callee := .builtin .append, args := #[s, x], argTypes := #[t, t] })
    (base : Nat) (v : Value) (n : Nat) (xs : List Value) (hs : a.eval s = v) (hq : Qu w base v n xs) (u0 u1 : Value) (h0 : u0.oneCell' = true) (h1 : u1.oneCell' = true)
    (g0 : Nat) (hx : a.eval x = .slice (some ⟨g0, 0, none⟩) 2 2) (hg0 : g0 = w.heap.size)
    (hby : (n + 2) * bytes ≤ 140737488355328) (h63 : n + 2 ≤ maxLen) (hbase : base ≤ w.heap.size)
    (h : ∀ v' w', Qu w' base v' (n + 2) (xs ++ [u0, u1]) → Below base w w' → wpList P ops Q rest (a.put o.dst v') w') : wpList P ops Q (o :: rest) a (w.alloc (.cells #[u0, u1] 22)) := by
  subst hg0
  have hal := (Below.refl w.heap.size w).alloc (Nat.le_refl _) (.cells #[u0, u1] 22)
  have hbase' : base ≤ (w.alloc (.cells #[u0, u1] 22)).heap.size := by simp; omega
  have hge : ∀ k, v.ownBlock = some k → base ≤ k := fun k hk => by
    obtain ⟨_, g, o, cap, cur, rfl, hg, _⟩ := hq
    simp [Value.ownBlock] at hk
    omega
  obtain ⟨v', w', hrun, h2, h3, h4⟩ := (hq.below hal).app (ty := o.type) T ⟨w.heap.size, 0, none⟩ [u0, u1]
    (fun j u hu => by rw [addr_add, Nat.zero_add, cell_of_row _ _ _ _ _ _ (heap_alloc_new _ _)]; simpa using hu) (fun u hu => by
      simp at hu
      rcases hu with rfl | rfl
      · exact h0
      · exact h1) 2 h63 hby hbase'
  refine wpList_want hgd fun K hK => ?_
  unfold Oper.wp execOp
  have hrun' : (Builtin.append_ #[t, t] o.type #[v, .slice (some ⟨w.heap.size, 0, none⟩) 2 2]).run P (w.alloc (.cells #[u0, u1] 22)) = .ok v' w' := hrun
  simp only [ho, resolve, invoke, builtin, Sem.run_bind, Sem.run_pure, Result.andThen_ok, List.map_toArray, List.map_cons, List.map_nil, hs, hx, hrun']
  exact hK _ _ (h v' w' h2 ((hal.mono hbase).grown h3 hbase' hge))
theorem AtI.step {post : Bool} {T m L g o k : Nat} {f b e r : Fo} {h : Hd} {fs : List Fo} {xs : List Value} {w0 w w1 w2 : World} {v2 : Value} {Ab Ae : Option Addr} {cb ce : Nat}
    (hrow : RowQ post w0.heap.size w fs xs) (hk : k + (r.len + 1) = f.len) (hrd : RdF w0.heap.size w r g (o + k * 13 + 13)) (hgd : Good post (.cons h b e r)) (hT : m + sumT fs + (Fo.cons h b e r).tot = T + (r.len + 1)) (hL : fs.length + 2 * (r.len + 1) = L + 2 * f.len) (hlow : Below w0.heap.size w0 w)
    (hb : RdS w0.heap.size w Ab b) (he : RdS w0.heap.size w Ae e) (hbl : b.len ≤ cb ∧ cb ≤ maxLen ∧ b.len ≤ lenMost) (hel : e.len ≤ ce ∧ ce ≤ maxLen ∧ e.len ≤ lenMost)
    (hw1 : Below w.heap.size w w1) (hq : Qu w2 w0.heap.size v2 (fs.length + 2) (xs ++ [.slice Ab b.len cb, .slice Ae e.len ce])) (hw2 : Below w0.heap.size w1 w2) :
    AtI post T m L g o f w0 v2 (.int .i64 ((k : Int) + 1)) w2 := by
  obtain ⟨_, gb, ge, gr⟩ := hgd.cons
  have hbl2 : Below w0.heap.size w w2 := (hw1.mono hlow.size).trans hw2
  have h2 : RowQ post w0.heap.size w [b, e] [.slice Ab b.len cb, .slice Ae e.len ce] := ⟨⟨Ab, cb, rfl, hbl.1, hbl.2.2, hb, gb⟩, ⟨Ae, ce, rfl, hel.1, hel.2.2, he, ge⟩, trivial⟩
  refine ⟨⟨k + 1, r, fs ++ [b, e], _, by simpa using hq, (RowQ.app h2 hrow).below hbl2, by go_num, by omega, ?_, gr, ?_, ?_⟩, hlow.trans hbl2⟩
  · have := hrd.below hbl2
    rwa [show o + k * 13 + 13 = o + (k + 1) * 13 by omega] at this
  · rw [sumT_app]
    simp only [sumT, Fo.tot] at hT ⊢
    omega
  · simp
    omega
end Go.Proofs.Ytebmgladdgmmeaa
