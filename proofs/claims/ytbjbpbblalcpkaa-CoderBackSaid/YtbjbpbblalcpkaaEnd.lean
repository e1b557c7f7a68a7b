/- The encoder's end: the walk. -/
import Derived.Test.YtbjbpbblalcpkaaClone
namespace Go.Proofs.Ytbjbpbblalcpkaa
open Go.RowKit Go.WideShapes
set_option linter.unusedVariables false
/-- Some elements more, which lie in a block known whole, as one step of a region that draws. -/
theorem step_lit {P : Program} {t e : TypeId} {z : Value} {bytes : Nat} {ops : Array Oper} {o : Oper} {a : Act} {w : World} {K : Act → World → Prop} {Q : Exit → Act → World → Prop} {E : Prop} (T : SlT P t e z bytes) (hgd : Region.wanted o (yielded ops a.tmps) = true) (s x : Operand)
    (ho : o.op = .call { callee := .builtin .append, args := #[s, x], argTypes := #[t, t] })
    (base : Nat) (v : Value) (n : Nat) (xs : List Value) (hs : a.eval s = v) (hown : w.ownsRow base e 1 v n xs) (us : Array Value) (m : Nat) (hm : m = us.size) (h1 : ∀ u ∈ us.toList, u.oneCell' = true)
    (g0 : Nat) (hx : a.eval x = .slice (some ⟨g0, 0, none⟩) m m) (hc : Blk w g0 e us)
    (hby : (n + m) * bytes ≤ 140737488355328) (h63 : n + m ≤ maxLen) (hbase : base ≤ w.heap.size)
    (h : ∀ v' w', w'.ownsRow base e 1 v' (n + m) (xs ++ us.toList) → w.grownBy w' v.ownBlock → (v'.ownBlock = v.ownBlock ∨ v'.ownBlock = some w.heap.size) → K (a.put o.dst v') w') :
    if Region.wanted o (yielded ops a.tmps) = true then Oper.wp P o a w K Q else E := by
  obtain ⟨i, hi, hz, hsz, hb⟩ := info_parts T.i
  subst hm
  rw [if_pos hgd]
  obtain ⟨v', w', hrun, h2, h3, _, h5⟩ := run_append_own_at (P := P) w base t o.type e i z 1 bytes T.u hi hz hsz hb T.z (by omega) v n xs hown ⟨g0, 0, none⟩ us.size us.size us.toList (by simp)
    (fun j y hy => by rw [addr_add, Nat.zero_add, hc.cell]; simpa using hy) h1 h63 hby hbase
  unfold Oper.wp execOp
  simp only [ho, resolve, invoke, builtin, Sem.run_bind, Sem.run_pure, Result.andThen_ok, List.map_toArray, List.map_cons, List.map_nil, hs, hx, hrun]
  exact h v' w' h2 h3 h5
/-- The four bytes of a number. -/
def four (x : Int) : List Int := [x / 16777216, x / 65536 % 256, x / 256 % 256, x % 256]
/-- A row of the call's own that reads as xs, whatever lies behind. -/
structure Reads (xs : List Int) (w0 : World) (e : Ending) (w : World) : Prop where
  ex : ∃ A c, e = .returned (.slice A xs.length c) ∧ xs.length ≤ c ∧ w.ownsRow w0.heap.size 5 1 (.slice A xs.length c) xs.length (octs xs)
  low : Below w0.heap.size w0 w
theorem Enc.rd {B : Nat} {w : World} {g : Nat} {x y : Int} {out : List Int} {A : Option Addr} {c : Nat} (h : Enc B w g x y out (.slice A out.length c)) : Rd w A (octs out) := fun hn => by
  rw [octs_length] at hn
  obtain ⟨g', cap, hv, _, hlt⟩ := h.own.form hn
  injection hv with hA
  subst hA
  refine ⟨g', 0, rfl, hlt, fun i u hu => ?_⟩
  have := h.own.cells (g := g') rfl i u hu
  rwa [addr_add] at this
theorem Enc.none {B : Nat} {w : World} {g : Nat} {x y : Int} {out : List Int} {A : Option Addr} {c : Nat} (h : Enc B w g x y out (.slice A out.length c)) : A = none → out.length = 0 ∧ c = 0 := fun hA => by
  subst hA
  rcases h.own.2 with ⟨h0, hx⟩ | ⟨g', cap, cur, hv, _⟩
  · injection h0 with _ h1 h2
    exact ⟨h1, h2⟩
  · injection hv with h0
    cases h0
theorem endB1 {w w0 w1 w2 : World} {o : Obj} {v : Value} {n : Nat} {xs : List Value} (hk : Below w.heap.size w w1) (hb : Below w0.heap.size w0 w1) (h0 : w1.ownsRow w0.heap.size 5 1 v n xs) (hw : w.heap.size ≤ w0.heap.size) (hg : (w1.alloc o).grownBy w2 v.ownBlock) : Below w.heap.size w w2 :=
  (hk.alloc hk.size o).grown hg (by rw [World.size_alloc]; have := hk.size; omega) fun k hk' => Nat.le_trans hw (own_ge h0 k hk')
theorem endB2 {w w0 w1 w2 : World} {v : Value} {n : Nat} {xs : List Value} (hk : Below w.heap.size w w1) (h0 : w1.ownsRow w0.heap.size 5 1 v n xs) (hw : w.heap.size ≤ w0.heap.size) (hg : w1.grownBy w2 v.ownBlock) : Below w.heap.size w w2 :=
  hk.grown hg hk.size fun k hk' => Nat.le_trans hw (own_ge h0 k hk')
theorem reads_close {w w0 w2 : World} {v : Value} {n : Nat} {us : List Value} {xs : List Int} (h : w2.ownsRow w0.heap.size 5 1 v n us) (hu : us = octs xs) (hw : w.heap.size ≤ w0.heap.size) (hk : Below w.heap.size w w2) : Reads xs w (.returned v) w2 := by
  subst hu
  have hn : n = xs.length := by have := h.1; rw [octs_length] at this; omega
  subst hn
  obtain ⟨A, c, rfl, hc⟩ := own_slice h
  obtain ⟨hl, h⟩ := h
  refine ⟨⟨A, c, rfl, hc, hl, ?_⟩, hk⟩
  rcases h with h | ⟨g, cap, cur, hv, hbg, hr⟩
  · exact .inl h
  · exact .inr ⟨g, cap, cur, hv, by omega, hr⟩
set_option maxRecDepth 100000 in
set_option maxHeartbeats 4000000 in
theorem end_any (B g : Nat) (x y : Int) (out : List Int) (v : Value) (w : World) (he : Enc B w g x y out v) (hi : Ivl x y) (hl : out.length ≤ 100000) :
    Calls Try.prog 13 #[.pointer (some ⟨g, 0, none⟩)] w (Reads (out ++ four x) w) := by
  obtain ⟨A, c, rfl, hc⟩ := own_slice he.own
  have c0 := he.blk.cell 0
  have c2 := he.blk.cell 2
  have c3 := he.blk.cell 3
  simp at c0 c2 c3
  have x0 := hi.x0
  have x1 : x ≤ 4294967295 := by have := hi.xy; have := hi.y1; omega
  have hgl := he.blk.lt
  have n0 := World.new_ne w ⟨g, 0, none⟩ c0
  have n3 := World.new_ne w ⟨g, 3, none⟩ c3
  have HE := Lib.hid he
  clear he hi
  have hbl : ∀ w1 : World, (Below w.heap.size w w1) → w1.cell? ⟨g, 0, none⟩ = some (.int .u32 x) ∧ w1.cell? ⟨g, 3, none⟩ = some (.slice A out.length c) := fun w1 hb => ⟨(hb.cell (p := ⟨g, 0, none⟩) hgl).trans c0, (hb.cell (p := ⟨g, 3, none⟩) hgl).trans c3⟩
  have HBL := Lib.hid hbl
  clear hbl
  go_enter Try.func13, Try.ntmps13
  go_wp2_with fail
  go_region_held3 (fun w' => w'.cell? ⟨g, 0, none⟩ = some (.int .u32 x) ∧ w'.cell? ⟨g, 3, none⟩ = some (.slice A out.length c)) (first | go_keep | assumption)
    (first
      | (go_at_call 31; ((refine (clone_any out A out.length c _ rfl (by first | exact HE.out.rd.drew | exact (HE.out.rd.alloc _).drew) HE.out.none (by omega)).mono ?_)); rintro e w1 ⟨⟨A1, c1, rfl, hc1, o1⟩, hb1⟩; have hk1 : Below w.heap.size w w1 := (by first | exact of_drew hb1 | exact ch1 (Below.refl _ _) (of_drew hb1)); have hq1 := HBL.out _ hk1)
      | (refine step_lit tBytes rfl (.tmp 17) (.tmp 45) rfl _ _ out.length (octs out) rfl (o1.alloc _) _ 4 rfl (by simp [Value.oneCell']) _ rfl (Blk.new _ _ _) (by omega) (by unfold maxLen; omega) (by first | (have := hb1.size; simp at this ⊢; omega)) ?_; intro v2 w2 o2 hg2 hat2; have hk2 : Below w.heap.size w w2 := (by first | exact endB1 hk1 hb1 o1 (by simp) hg2 | exact endB2 hk1 o1 (by simp) hg2); have hq2 := HBL.out _ hk2)
      | (refine step_lit tBytes rfl (.tmp 17) (.tmp 45) rfl _ _ out.length (octs out) rfl o1 _ 4 rfl (by simp [Value.oneCell']) _ rfl ((Blk.new _ _ _).drew.below hb1) (by omega) (by unfold maxLen; omega) (by first | (have := hb1.size; simp at this ⊢; omega)) ?_; intro v2 w2 o2 hg2 hat2; have hk2 : Below w.heap.size w w2 := (by first | exact endB1 hk1 hb1 o1 (by simp) hg2 | exact endB2 hk1 o1 (by simp) hg2); have hq2 := HBL.out _ hk2))
  all_goals
    go_wp2
    go_ret
    refine reads_close o2 (by simp [octs, four, IntKind.wrap_u8']; omega) (by simp) hk2
end Go.Proofs.Ytbjbpbblalcpkaa
