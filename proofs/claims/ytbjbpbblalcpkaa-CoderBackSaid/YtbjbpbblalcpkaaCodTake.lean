/- The coder's interval: middle, and what a closure sheds: walks. -/
import Derived.Test.YtbjbpbblalcpkaaRows
import Derived.Test.YtbjbpbblalcpkaaFrm
import Derived.Test.YtbjbpbblalcpkaaCodPlain
import Derived.Deep.RegionHeld3
import Derived.Deep.RegionLaw
import Derived.Deep.QuietTactic
import Derived.BigQuiet
namespace Go.Proofs.Ytbjbpbblalcpkaa
open Go.RowKit Go.WideShapes
set_option linter.unusedVariables false
def octs (l : List Int) : List Value := l.map (.int .u8)
theorem octs_one (l : List Int) : ∀ u ∈ octs l, u.oneCell' = true := fun u hu => by
  obtain ⟨x, _, rfl⟩ := List.mem_map.1 hu; rfl
theorem octs_length (l : List Int) : (octs l).length = l.length := by simp [octs]
theorem octs_snoc (l : List Int) (x : Int) : octs l ++ [.int .u8 x] = octs (l ++ [x]) := by simp [octs]
theorem tBytes : SlT Try.prog 30 5 (.int .u8 0) 1 := ⟨Try.underlying30, by kernel_rfl, rfl⟩
/-- One element more, as one step of a region that draws. -/
theorem step_app1 {P : Program} {t e : TypeId} {z : Value} {bytes : Nat} {ops : Array Oper} {o : Oper} {a : Act} {w : World} {K : Act → World → Prop} {Q : Exit → Act → World → Prop} {E : Prop} (T : SlT P t e z bytes) (hgd : Region.wanted o (yielded ops a.tmps) = true) (s x : Operand)
    (ho : o.op = .call { callee := .builtin .append, args := #[s, x], argTypes := #[t, t] })
    (base : Nat) (v : Value) (n : Nat) (xs : List Value) (hs : a.eval s = v) (hown : w.ownsRow base e 1 v n xs) (u : Value) (h1 : u.oneCell' = true)
    (g0 : Nat) (hx : a.eval x = .slice (some ⟨g0, 0, none⟩) 1 1) (hc : w.cell? ⟨g0, 0, none⟩ = some u)
    (hby : (n + 1) * bytes ≤ 140737488355328) (h63 : n + 1 ≤ maxLen) (hbase : base ≤ w.heap.size)
    (h : ∀ v' w', w'.ownsRow base e 1 v' (n + 1) (xs ++ [u]) → w.grownBy w' v.ownBlock → (v'.ownBlock = v.ownBlock ∨ v'.ownBlock = some w.heap.size) → K (a.put o.dst v') w') :
    if Region.wanted o (yielded ops a.tmps) = true then Oper.wp P o a w K Q else E := by
  obtain ⟨i, hi, hz, hsz, hb⟩ := info_parts T.i
  rw [if_pos hgd]
  obtain ⟨v', w', hrun, h2, h3, _, h5⟩ := run_append_own_at (P := P) w base t o.type e i z 1 bytes T.u hi hz hsz hb T.z (by omega) v n xs hown ⟨g0, 0, none⟩ 1 1 [u] rfl
    (fun j y hy => by
      rcases j with _ | j
      · simp at hy; subst hy; rw [addr_add]; exact hc
      · simp at hy) (by simpa using h1) h63 hby hbase
  unfold Oper.wp execOp
  simp only [ho, resolve, invoke, builtin, Sem.run_bind, Sem.run_pure, Result.andThen_ok, List.map_toArray, List.map_cons, List.map_nil, hs, hx, hrun]
  exact h v' w' h2 h3 h5
/-- An encoder in block g: its interval, what it has shed, the slice that holds that. -/
structure Enc (B : Nat) (w : World) (g : Nat) (x y : Int) (out : List Int) (v : Value) : Prop where
  blk : Blk w g 58 #[.int .u32 x, .int .u32 y, .bool true, v]
  own : w.ownsRow B 5 1 v out.length (octs out)
  ge : B ≤ g
/-- What an encoder's own blocks are. -/
def own1 (g : Nat) (v : Value) (k : Nat) : Prop := k = g ∨ v.ownBlock = some k
theorem Enc.frm {B : Nat} {w w' : World} {g : Nat} {x y : Int} {out : List Int} {v : Value} {S : Nat → Prop} (h : Enc B w g x y out v) (hf : Frm S w w') (hn : ∀ k, own1 g v k → ¬ S k) : Enc B w' g x y out v :=
  ⟨h.blk.frm hf (hn g (.inl rfl)), hf.own h.own fun k hk => hn k (.inr hk), h.ge⟩
theorem middle_any (g : Nat) (x y p : Int) (t : TypeId) (cs : Array Value) (w : World) (hb : Blk w g t cs) (h0 : cs[0]? = some (.int .u32 x)) (h1 : cs[1]? = some (.int .u32 y)) (n : Nrm x y) (p0 : 1 ≤ p) (p1 : p ≤ 65535) :
    Calls Try.prog 28 #[.pointer (some ⟨g, 0, none⟩), .int .i64 p] w fun e w' => e = .returned (.int .u32 (mid x y p)) ∧ ∃ m, w' = w.drewN m := by
  have c0 := (hb.cell 0).trans h0
  have c1 := (hb.cell 1).trans h1
  have hx := n.x0
  have hy := n.y1
  have hxy : x < y := by have := n.df; have := n.xy; omega
  have g1 : 0 ≤ y - x := by omega
  have g2 : y - x ≤ 4294967295 := by omega
  have hm := mid_in n.x0 hxy p0 p1
  have ha := and_low (y - x) g1 g2
  have hq1 : 0 ≤ (y - x) / 65536 * p := Int.mul_nonneg (by omega) (by omega)
  have hq2 : (y - x) / 65536 * p ≤ (y - x) / 65536 * 65535 := Int.mul_le_mul_of_nonneg_left p1 (by omega)
  have hq3 : 0 ≤ (y - x) % 65536 * p := Int.mul_nonneg (by omega) (by omega)
  have hq4 : (y - x) % 65536 * p ≤ (y - x) % 65536 * 65535 := Int.mul_le_mul_of_nonneg_left p1 (by omega)
  clear n hb
  go_enter Try.func28, Try.ntmps28
  go_wp2_with fail
  go_quiet (fail)
  go_wp2
  go_ret
  exact ⟨rfl, nq, rfl⟩
/-- What a byte shed by Put leaves. -/
structure Shed (B g : Nat) (x y : Int) (out : List Int) (v : Value) (w0 : World) (e : Ending) (w : World) : Prop where
  ret : e = .returned (.tuple #[])
  ex : ∃ v', Enc B w g x y out v' ∧ (v'.ownBlock = v.ownBlock ∨ ∃ q, v'.ownBlock = some q ∧ w0.heap.size ≤ q)
  frm : Frm (own1 g v) w0 w
theorem shed_close {B g : Nat} {x y c : Int} {out : List Int} {v v' : Value} {w w1 : World} (he : Enc B w g x y out v) (F : Frm (fun k => v.ownBlock = some k) w w1) (hng : ¬ v.ownBlock = some g)
    (own1' : w1.ownsRow B 5 1 v' (out.length + 1) (octs out ++ [.int .u8 c])) (hat : v'.ownBlock = v.ownBlock ∨ v'.ownBlock = some ((w.alloc (.cells #[.int .u8 c] 5)).drew).heap.size) :
    Shed B g x y (out ++ [c]) v w (.returned (.tuple #[])) (w1.setCell ⟨g, 3, none⟩ v') := by
  have hb := he.blk.frm F hng
  have h2 : Frm (fun k => k = g) w1 (w1.setCell ⟨g, 3, none⟩ v') := (Frm.refl (fun k => k = g) w1).setCell (p := ⟨g, 3, none⟩) (fun _ => rfl) v'
  refine ⟨rfl, ⟨v', ⟨?_, ?_, he.ge⟩, ?_⟩, ?_⟩
  · have := hb.set 3 v'
    simpa using this
  · rw [octs_snoc] at own1'
    rw [List.length_append, List.length_singleton]
    exact h2.own own1' fun k hk e => hb.apart own1' (by decide) k hk e
  · rcases hat with h | h
    · exact .inl h
    · exact .inr ⟨_, h, by show w.heap.size ≤ (w.alloc _).heap.size; rw [World.size_alloc]; omega⟩
  · exact (F.mono (T := own1 g v) fun k _ h => .inr h).trans h2 fun k _ h => .inl h
set_option maxHeartbeats 2000000 in
theorem shed_put (B g bx : Nat) (x y c : Int) (out : List Int) (v : Value) (w : World) (he : Enc B w g x y out v) (hbx : Blk w bx 23 #[.pointer (some ⟨g, 0, none⟩)]) (hl : out.length ≤ 1000000) (hB : B ≤ w.heap.size) :
    Calls Try.prog 29 #[.int .u8 c, .pointer (some ⟨bx, 0, none⟩)] w (Shed B g x y (out ++ [c]) v w) := by
  have c0 := hbx.cell 0
  have c3 := he.blk.cell 3
  have f3 := he.blk.frozen 3
  have nb := hbx.ne he.blk (by decide)
  have hgl := he.blk.lt
  have HE := Lib.hid he
  have HX := Lib.hid hbx
  have HO := Lib.hid he.own
  have hap := he.blk.apart he.own (by decide)
  have hap2 := hbx.apart he.own (by decide)
  have hfr : ∀ w1, ((w.alloc (.cells #[.int .u8 c] 5)).drew).grownBy w1 v.ownBlock → Frm (fun k => v.ownBlock = some k) w w1 := fun w1 hg => by
    have h1 : Frm (fun k => v.ownBlock = some k) w ((w.alloc (.cells #[.int .u8 c] 5)).drew) := ((Frm.refl _ w).alloc _).drew
    exact h1.trans (Frm.of_grown (S := fun k => v.ownBlock = some k) hg fun k hk => hk) fun _ _ h => h
  have HF := Lib.hid hfr
  have HNX : Hid (¬ v.ownBlock = some bx) := fun e => hap2 bx e rfl
  have HNG : Hid (¬ v.ownBlock = some g) := fun e => hap g e rfl
  clear hap hap2 hfr
  simp at c0 c3
  clear he hbx
  have n1 := World.new_ne w ⟨g, 3, none⟩ c3
  have n2 := World.new_ne w ⟨bx, 0, none⟩ c0
  have a0 := (World.cell?_alloc_lt w (.cells #[.int .u8 c] 5) ⟨bx, 0, none⟩ HX.out.lt).trans c0
  have a3 := (World.cell?_alloc_lt w (.cells #[.int .u8 c] 5) ⟨g, 3, none⟩ HE.out.blk.lt).trans c3
  go_enter Try.func29, Try.ntmps29
  go_region_law (
    (refine step_app1 tBytes rfl (.tmp 7) (.tmp 9) rfl B v out.length (octs out) rfl (HO.out.drew.alloc _) (.int .u8 c) rfl w.heap.size rfl (by simp) (by omega) (by unfold maxLen; omega) (by simp; omega) ?_; intro v' w1 own1' hg1 hat1; obtain ⟨A1, c1, rfl, hc1⟩ := own_slice own1'; have F1 := HF.out w1 hg1; have k0 := (HX.out.frm F1 (HNX.out)).cell 0; have k3 := (HE.out.blk.frm F1 HNG.out).cell 3; have kf := (HE.out.blk.frm F1 HNG.out).frozen 3; simp at k0 k3))
  all_goals (go_end0; exact shed_close HE.out F1 HNG.out own1' hat1)
end Go.Proofs.Ytbjbpbblalcpkaa
