/- Acts on blends: what becomes of the state; two blends under one set of what may turn. Plain over the contracts. -/
import Derived.Test.YtnohfeaamfjimaaVrBlKt
import Derived.Test.YtnohfeaamfjimaaVrBlLs
namespace Go.Proofs.Ytnohfeaamfjimaa
open Go.RowKit Go.WideShapes
set_option linter.unusedVariables false
set_option linter.unusedSimpArgs false
def Bst.doCtx (s : Bst) (hs : List Int) : Bst := if s.bits = 0 then s.ctx hs else s
def Bst.doBit (s : Bst) (bit : Int) : Bst := if bit = 0 ∨ bit = 1 then s.put bit else s
def ctxR (s : Bst) : Int := if s.bits = 0 then 0 else 2
def bitR (bit : Int) : Int := if bit = 0 ∨ bit = 1 then 0 else 2
def Bst.act (s : Bst) (a : Act1) : Bst := if a.k = 0 then s.doCtx a.hs else s.doBit a.bit
def runA (s : Bst) (acts : List Act1) : Nat → Bst
  | 0 => s
  | n + 1 => match acts[n]? with
    | some a => (runA s acts n).act a
    | none => runA s acts n
theorem runA_step {s : Bst} {acts : List Act1} {n : Nat} {a : Act1} (h : acts[n]? = some a) : runA s acts (n + 1) = (runA s acts n).act a := by
  rw [runA, h]
theorem wok_of {hs : List Int} (h : ∀ x ∈ hs, U32 x) : WOk hs := fun j => by
  by_cases hj : j < hs.length
  · exact h _ (getD_mem hj)
  · rw [List.getD_eq_getElem?_getD, List.getElem?_eq_none (by omega)]
    exact ⟨by simp, by simp⟩
theorem Bst.doCtx_ok {s : Bst} (h : s.Ok) {hs : List Int} (hw : WOk hs) : (s.doCtx hs).Ok := by
  unfold Bst.doCtx
  split
  · exact Bst.ctx_ok h hw
  · exact h
theorem Bst.doBit_ok {s : Bst} (h : s.Ok) (bit : Int) : (s.doBit bit).Ok := by
  unfold Bst.doBit
  split
  · rename_i hb
    exact Bst.put_ok h hb
  · exact h
theorem Bst.act_ok {s : Bst} (h : s.Ok) {a : Act1} (hu : ∀ x ∈ a.hs, U32 x) : (s.act a).Ok := by
  unfold Bst.act
  split
  · exact Bst.doCtx_ok h (wok_of hu)
  · exact Bst.doBit_ok h _
theorem Bst.act_wh (s : Bst) (a : Act1) : (s.act a).wh ≤ s.wh + 1 := by
  unfold Bst.act Bst.doCtx Bst.doBit Bst.put Bst.ctx
  (repeat' split) <;> simp
theorem Bst.act_len (s : Bst) (a : Act1) : (s.act a).us.length = s.us.length := by
  unfold Bst.act Bst.doCtx Bst.doBit
  split
  · split
    · exact Bst.ctx_len _ _
    · rfl
  · split
    · exact Bst.put_len _ _
    · rfl
theorem runA_ok {s : Bst} (h : s.Ok) {acts : List Act1} (hu : ∀ a ∈ acts, ∀ x ∈ a.hs, U32 x) : ∀ n, (runA s acts n).Ok
  | 0 => h
  | n + 1 => by
    unfold runA
    split
    · rename_i a ha
      exact Bst.act_ok (runA_ok h hu n) (hu a (List.mem_of_getElem? ha))
    · exact runA_ok h hu n
theorem runA_wh (s : Bst) (acts : List Act1) : ∀ n, (runA s acts n).wh ≤ s.wh + n
  | 0 => by simp [runA]
  | n + 1 => by
    have := runA_wh s acts n
    unfold runA
    split
    · rename_i a ha
      have := Bst.act_wh (runA s acts n) a
      omega
    · omega
theorem runA_len (s : Bst) (acts : List Act1) : ∀ n, (runA s acts n).us.length = s.us.length
  | 0 => rfl
  | n + 1 => by
    unfold runA
    split
    · exact (Bst.act_len _ _).trans (runA_len s acts n)
    · exact runA_len s acts n
section
variable {T : Nat → Prop} {w : World} {B : Nat} {s : Bst}
theorem BS.ops (h : BS T w B s) (v : Value) : OpS T B s w v (.returned v) w := by
  refine ⟨rfl, ⟨?_, ext_lt h.lt (Nat.le_refl _)⟩, Frm.refl _ _⟩
  obtain ⟨base, R, cr, ls, V, L, hm, ht⟩ := h.ex
  exact ⟨base, R, cr, ls, V, L, hm, fun b hb => .inl (ht b hb)⟩
theorem ctx_all (h : BS T w B s) (ho : s.Ok) (hwh : s.wh ≤ 1000000) (hs : List Int) (Ah : Option Addr) (nh ch : Nat) (hw : WOk hs) (hnl : hs.length = nh) (hnh : nh ≤ 9223372036854775807) (hrd : ∀ W, Frm T w W → Rd W Ah (wds hs)) :
    Calls Try.prog 17 #[.pointer (some ⟨B, 0, none⟩), .slice Ah nh ch] w (OpS T B (s.doCtx hs) w (.int .i64 (ctxR s))) := by
  unfold Bst.doCtx ctxR
  by_cases hb : s.bits = 0
  · rw [if_pos hb, if_pos hb]
    exact ctxS h ho hb hwh hs Ah nh ch hw hnl hnh hrd
  · rw [if_neg hb, if_neg hb]
    refine (ctxSarg h ho hb Ah nh ch).mono ?_
    rintro e w' ⟨rfl, rfl⟩
    exact h.ops _
theorem bit_all (h : BS T w B s) (ho : s.Ok) (hwh : s.wh ≤ 1000000) (bit : Int) : Calls Try.prog 9 #[.pointer (some ⟨B, 0, none⟩), .int .i64 bit] w (OpS T B (s.doBit bit) w (.int .i64 (bitR bit))) := by
  unfold Bst.doBit bitR
  by_cases hb : bit = 0 ∨ bit = 1
  · rw [if_pos hb, if_pos hb]
    exact learnS h ho hb hwh
  · rw [if_neg hb, if_neg hb]
    refine (learnSarg h ho hb).mono ?_
    rintro e w' ⟨rfl, rfl⟩
    exact h.ops _
end
/-- Two blends; of the blocks of wb only those of U may have turned. -/
structure TP (U : Nat → Prop) (wb w : World) (B1 : Nat) (s1 : Bst) (B2 : Nat) (s2 : Bst) : Prop where
  ex : ∃ T1 T2, BS T1 w B1 s1 ∧ BS T2 w B2 s2 ∧ (∀ b, T1 b → ¬ T2 b) ∧ (∀ b, T1 b ∨ T2 b → U b ∨ wb.heap.size ≤ b)
  frm : Frm U wb w
section
variable {U : Nat → Prop} {w0 wb w w' : World} {B1 B2 : Nat} {s1 s2 s1' s2' : Bst} {f : FuncId} {args : Array Value} {v : Value}
theorem TP.swap (h : TP U wb w B1 s1 B2 s2) : TP U wb w B2 s2 B1 s1 := by
  obtain ⟨⟨T1, T2, h1, h2, hd, hg⟩, hl⟩ := h
  exact ⟨⟨T2, T1, h2, h1, fun b hb hc => hd b hc hb, fun b hb => hg b hb.symm⟩, hl⟩
theorem TP.below (h : TP U wb w B1 s1 B2 s2) (hb : Below w.heap.size w w') : TP U wb w' B1 s1 B2 s2 := by
  obtain ⟨⟨T1, T2, h1, h2, hd, hg⟩, hl⟩ := h
  exact ⟨⟨T1, T2, h1.below hb, h2.below hb, hd, hg⟩, hl.below hb⟩
theorem TP.drew (h : TP U wb w B1 s1 B2 s2) : TP U wb w.drew B1 s1 B2 s2 := h.below (below_drewN (Below.refl _ _) 1)
theorem TP.one (h : TP U wb w B1 s1 B2 s2) (hc : ∀ T, (∀ b, T b → U b ∨ wb.heap.size ≤ b) → BS T w B1 s1 → Calls Try.prog f args w (OpS T B1 s1' w v)) : Calls Try.prog f args w (fun e w' => e = .returned v ∧ TP U wb w' B1 s1' B2 s2) := by
  obtain ⟨⟨T1, T2, h1, h2, hd, hg⟩, hl⟩ := h
  refine (hc T1 (fun b hb => hg b (.inl hb)) h1).mono ?_
  rintro e w' ⟨rfl, hbs, hf⟩
  refine ⟨rfl, ⟨Ext T1 w w', T2, hbs, h2.frm hf (fun b hb ht => hd b ht hb), fun b hb h2' => hb.elim (fun h => hd b h h2') (fun h => by have := h2.lt b h2'; omega), fun b hb => ?_⟩, hl.trans hf (fun b hb ht => (hg b (.inl ht)).elim id (fun h => by omega))⟩
  rcases hb with (hb | hb) | hb
  · exact hg b (.inl hb)
  · have := hl.size
    exact .inr (by omega)
  · exact hg b (.inr hb)
theorem TP.two (h : TP U wb w B1 s1 B2 s2) (hc : ∀ T, (∀ b, T b → U b ∨ wb.heap.size ≤ b) → BS T w B2 s2 → Calls Try.prog f args w (OpS T B2 s2' w v)) : Calls Try.prog f args w (fun e w' => e = .returned v ∧ TP U wb w' B1 s1 B2 s2') :=
  (h.swap.one hc).mono fun e w' h => ⟨h.1, h.2.swap⟩
theorem row_block {w : World} {m : Nat} {e : TypeId} {k n c : Nat} {A : Option Addr} {xs : List Value} (h : w.ownsRow m e k (.slice A n c) n xs) : ∀ q, A = some q → m ≤ q.block ∨ n = 0 := fun q hq => by
  rcases h.2 with ⟨hv, _⟩ | ⟨g, cap, cur, hv, hb, _⟩
  · injection hv with hA
    rw [hq] at hA
    cases hA
  · injection hv with hA
    rw [hq] at hA
    injection hA with hA
    subst hA
    exact .inl hb
structure LnP (U : Nat → Prop) (wb : World) (B1 : Nat) (s1 : Bst) (B2 : Nat) (s2 : Bst) (e : Ending) (w : World) : Prop where
  ex : ∃ A cp U', e = .returned (.slice A s1.us.length cp) ∧ s1.us.length ≤ cp ∧ Rd w A (ints s1.leans) ∧ (∀ q, A = some q → q.block < w.heap.size → ¬ U' q.block) ∧ TP U' w w B1 s1 B2 s2 ∧ (∀ b, U' b → U b ∨ wb.heap.size ≤ b)
  frm : Frm U wb w
theorem TP.leans1 (h : TP U wb w B1 s1 B2 s2) (ho : s1.Ok) : Calls Try.prog 21 #[.pointer (some ⟨B1, 0, none⟩)] w (LnP U wb B1 s1 B2 s2) := by
  obtain ⟨⟨T1, T2, h1, h2, hd, hg⟩, hl⟩ := h
  refine (leansS h1 ho).mono ?_
  rintro e w' ⟨⟨A, cp, T', m, rfl, hcp, hbs, hext, hlt, hm1, hm2, hrow⟩, hf⟩
  have h2' := h2.frm hf (fun b hb ht => hd b ht hb)
  refine ⟨⟨A, cp, fun b => T' b ∨ T2 b, rfl, hcp, Rd.of_own hrow, fun q hq hlq hU => ?_, ⟨⟨T', T2, hbs, h2', fun b hb hb2 => ?_, fun b hb => .inl hb⟩, Frm.refl _ _⟩, fun b hb => ?_⟩, hl.trans hf (fun b hb ht => (hg b (.inl ht)).elim id (fun h => by omega))⟩
  · rcases row_block hrow q hq with hr | hr
    · rcases hU with hU | hU
      · have := hlt _ hU
        omega
      · have := h2.lt _ hU
        omega
    · have := ho.n0
      omega
  · rcases hext b hb with hb | hb
    · exact hd b hb hb2
    · have := h2.lt b hb2
      omega
  · have hs := hl.size
    rcases hb with hb | hb
    · rcases hext b hb with hb | hb
      · exact hg b (.inl hb)
      · exact .inr (by omega)
    · exact hg b (.inr hb)
end
theorem guess_bd (s : Bst) : 16 ≤ s.guess ∧ s.guess ≤ 65520 := by
  have := sq_bd (s.leans.getD (s.us.length - 1) 0)
  unfold Bst.guess
  omega
theorem sameI_refl (xs : List Int) (A B : Option Addr) (n c d : Nat) (w : World) (hn : n = xs.length) (hA : Rd w A (ints xs)) (hB : Rd w B (ints xs)) (hl : n ≤ 9223372036854775807) : Calls Try.prog 22 #[.slice A n c, .slice B n d] w (Quiet (.bool true) w) := by
  refine (sameI_any xs xs A B n n c d w hn hn hA hB hl).mono ?_
  rintro e w' ⟨rfl, hb⟩
  exact ⟨by rw [decide_eq_true rfl], hb⟩
end Go.Proofs.Ytnohfeaamfjimaa
