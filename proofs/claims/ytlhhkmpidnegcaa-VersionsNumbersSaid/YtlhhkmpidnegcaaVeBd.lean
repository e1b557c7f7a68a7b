/- Apply's closure 'bad'; what Apply does to what is told, plain. -/
import Derived.Test.YtlhhkmpidnegcaaVeTb
namespace Go.Proofs.Ytlhhkmpidnegcaa
open Go.RowKit Go.WideShapes
set_option linter.unusedVariables false
set_option linter.unusedSimpArgs false
structure Bad (B gi mb n : Nat) (l : List Pc) (v : Value) (x : Int) (w0 : World) (e : Ending) (w : World) : Prop where
  ret : e = .returned (.int .i64 x)
  ex : ∃ v', Idx B w gi mb n l v' ∧ v'.ownBlock = v.ownBlock
  frm : Frm (fun k => k = gi ∨ k = mb) w0 w
theorem Idx.drew {B g mb n : Nat} {l : List Pc} {v : Value} {w : World} (h : Idx B w g mb n l v) : Idx B w.drew g mb n l v := h.below ((Below.refl _ w).drew)
set_option maxRecDepth 100000 in
set_option maxHeartbeats 2000000 in
theorem bad35 {B gt gi mb n : Nat} {l : List Pc} {v : Value} (x : Int) (tb wb L0 : Nat) (w : World) (h1 : w.cell? ⟨tb, 0, none⟩ = some (.pointer (some ⟨gt, 0, none⟩))) (h2 : w.cell? ⟨gt, 0, none⟩ = some (.pointer (some ⟨gi, 0, none⟩))) (h3 : w.cell? ⟨wb, 0, none⟩ = some (.int .i64 (L0 : Int)))
    (n1 : tb ≠ gi ∧ tb ≠ mb) (n2 : gt ≠ gi ∧ gt ≠ mb) (n3 : wb ≠ gi ∧ wb ≠ mb) (hi : Idx B w gi mb n l v) (nd : (l.map Pc.h).Nodup) (hL : L0 ≤ l.length) (hm : l.length ≤ 8192) :
    Calls Try.prog 35 #[.int .i64 x, .pointer (some ⟨tb, 0, none⟩), .pointer (some ⟨wb, 0, none⟩)] w (Bad B gi mb n (l.take L0) v x w) := by
  have hcut := cut_any L0 w.drew hi.drew nd hL hm
  have hlt : tb < w.heap.size ∧ gt < w.heap.size ∧ wb < w.heap.size := ⟨block_lt_of_cell h1, block_lt_of_cell h2, block_lt_of_cell h3⟩
  have hk : ∀ W, Frm (fun k => k = gi ∨ k = mb) w W → W.cell? ⟨tb, 0, none⟩ = some (.pointer (some ⟨gt, 0, none⟩)) ∧ W.cell? ⟨gt, 0, none⟩ = some (.pointer (some ⟨gi, 0, none⟩)) ∧ W.cell? ⟨wb, 0, none⟩ = some (.int .i64 (L0 : Int)) := fun W hW =>
    ⟨(hW.cell (p := ⟨tb, 0, none⟩) hlt.1 (fun h => h.elim n1.1 n1.2)).trans h1, (hW.cell (p := ⟨gt, 0, none⟩) hlt.2.1 (fun h => h.elim n2.1 n2.2)).trans h2, (hW.cell (p := ⟨wb, 0, none⟩) hlt.2.2 (fun h => h.elim n3.1 n3.2)).trans h3⟩
  have HK := Lib.hid hk
  have HC := Lib.hid hcut
  clear hk hcut hi nd hlt n1 n2 n3
  go_enter Try.func35, Try.ntmps35
  go_wp2_with fail
  go_region_held3 (fun w' => w'.cell? ⟨tb, 0, none⟩ = some (.pointer (some ⟨gt, 0, none⟩)) ∧ w'.cell? ⟨gt, 0, none⟩ = some (.pointer (some ⟨gi, 0, none⟩)) ∧ w'.cell? ⟨wb, 0, none⟩ = some (.int .i64 (L0 : Int))) (first | exact HK.out _ (by assumption) | go_keep)
    ((go_at_call 36; ((refine (HC.out).mono ?_)); rintro e w1 ⟨rfl, hex, hfr⟩; have hf1 := hfr.of_drew))
  have HX := Lib.hid hex
  have HF := Lib.hid hf1
  clear hex hf1 hfr
  go_wp2
  go_ret
  exact ⟨rfl, HX.out, HF.out⟩
/-- Pieces taken in, one by one. -/
def addAll (lo hi : Int) : List Pc → List Pc → Option (List Pc)
  | ps, [] => some ps
  | ps, p :: r => if decide (lo < p.b) && decide (p.b ≤ hi) && rightP p.s p.b p.a && (findP ps p.h).isNone then addAll lo hi (ps ++ [p]) r else none
theorem addAll_go {lo hi : Int} {ps l : List Pc} {k : Nat} {p : Pc} (hp : l[k]? = some p) : addAll lo hi ps (l.drop k) = if decide (lo < p.b) && decide (p.b ≤ hi) && rightP p.s p.b p.a && (findP ps p.h).isNone then addAll lo hi (ps ++ [p]) (l.drop (k + 1)) else none := by
  have hk := (List.getElem?_eq_some_iff.1 hp).1
  have : l.drop k = p :: l.drop (k + 1) := by
    rw [List.drop_eq_getElem_cons hk]
    rw [List.getElem?_eq_getElem hk] at hp
    injection hp with hp
    rw [hp]
  rw [this]
  rfl
/-- What an entry's files are: right in form? -/
def formB (ps : List Pc) (roll : Int) (ds : List (ByteArray × List Int)) : Bool :=
  decide (0 ≤ roll) && (decide (roll ≤ 0) || decide (ds.length ≤ 0)) && decide (ds.length ≤ 200) && namedB (ds.map Prod.fst) && !(ds.any fun d => wrongB ps d.2)
/-- What Apply tells, and the table behind it. -/
def applyT (T : Tab) (blocks : Int) (pcs : List Pc) (roll : Int) (ds : List (ByteArray × List Int)) : Int × Tab :=
  if T.vs.length = 100 ∨ 1048576 - T.bl < blocks ∨ 8192 - (T.ps.length : Int) < (pcs.length : Int) then (5, T)
  else if blocks < 0 then (2, T)
  else match addAll T.bl (T.bl + blocks) T.ps pcs with
    | none => (2, T)
    | some ps => if 0 < roll ∧ (T.vs.length : Int) < roll then (17, T)
      else if formB ps roll ds = false then (13, T)
      else (0, ⟨T.bl + blocks, ps, T.vs ++ [if 0 < roll then T.vs.getD (roll.toNat - 1) [] else ds]⟩)
end Go.Proofs.Ytlhhkmpidnegcaa
