/- CoderDear's walk: any number: true; nothing that was there is written. No condition. -/
import Derived.Test.YtbjbpbblalcpkaaAwake
import Derived.Test.YtbjbpbblalcpkaaDearPlain
namespace Go.Proofs.Ytbjbpbblalcpkaa
open Go.RowKit Go.WideShapes
set_option linter.unusedVariables false
theorem tmod_bd (x : Int) (n : Nat) (hn : 0 < n) : -(n : Int) < x.tmod n ∧ x.tmod n < n := by
  rcases Int.le_total 0 x with h | h
  · rw [Int.tmod_eq_emod_of_nonneg h]
    have := Int.emod_nonneg x (b := (n : Int)) (by omega)
    have := Int.emod_lt_of_pos x (b := (n : Int)) (by omega)
    omega
  · have e : x.tmod n = -((-x) % n) := by rw [← Int.tmod_eq_emod_of_nonneg (by omega), Int.neg_tmod, Int.neg_neg]
    have := Int.emod_nonneg (-x) (b := (n : Int)) (by omega)
    have := Int.emod_lt_of_pos (-x) (b := (n : Int)) (by omega)
    omega
/-- Pick: a place from 0 to n - 1. -/
def pickI (x : Int) (n : Nat) : Nat := (if x.tmod n < 0 then x.tmod n + n else x.tmod n).toNat
theorem pickI_lt (x : Int) (n : Nat) (hn : 0 < n) : pickI x n < n := by
  have h := tmod_bd x n hn
  unfold pickI
  split <;> omega
theorem pick_any (x N : Int) (n : Nat) (w : World) (hN : N = n) (hn : 0 < n) (hm : n ≤ 1000000000) (h0 : -9223372036854775808 ≤ x) (h1 : x ≤ 9223372036854775807) :
    Calls Try.prog 17 #[.int .i64 x, .int .i64 N] w (Same (.int .i64 (pickI x n)) w) := by
  have h := tmod_bd x n hn
  have e : ((pickI x n : Nat) : Int) = if x.tmod N < 0 then x.tmod N + N else x.tmod N := by
    subst hN
    unfold pickI
    split <;> omega
  rw [e]
  rw [← hN] at h
  have gN : 1 ≤ N := by omega
  have gM : N ≤ 1000000000 := by omega
  clear hN e
  by_cases hx : x.tmod N < 0
  · rw [if_pos hx]
    go_enter Try.func17, Try.ntmps17
    go_wp2
    go_ret
    exact ⟨rfl, rfl⟩
  · rw [if_neg hx]
    go_enter Try.func17, Try.ntmps17
    go_wp2
    go_ret
    exact ⟨rfl, rfl⟩
theorem stepA (n : Nat) : ∃ r : List Int, step 1 65000 0 (ones 65000 n).2 = (r, 0, (ones 65000 (n + 1)).2) ∧ (ones 65000 (n + 1)).1 = (ones 65000 n).1 + r.length ∧ r.length ≤ 4 := ones_step 65000 (by omega) n
theorem leA (n : Nat) : (ones 65000 n).1 ≤ 4 * n := ones_le 65000 (by omega) n
theorem nrmA (n : Nat) : Nrm 0 (ones 65000 n).2 := ones_nrm 65000 (by omega) n
theorem stepB (n : Nat) : ∃ r : List Int, step 1 500 0 (ones 500 n).2 = (r, 0, (ones 500 (n + 1)).2) ∧ (ones 500 (n + 1)).1 = (ones 500 n).1 + r.length ∧ r.length ≤ 4 := ones_step 500 (by omega) n
theorem leB (n : Nat) : (ones 500 n).1 ≤ 4 * n := ones_le 500 (by omega) n
theorem nrmB (n : Nat) : Nrm 0 (ones 500 n).2 := ones_nrm 500 (by omega) n
structure DearRel (B ga gb n : Nat) (w0 : World) (i : Value) (w : World) : Prop where
  ex : ∃ (k : Nat) (oa ob : List Int) (va vb : Value), k ≤ n ∧ i = .int .i64 k ∧ Enc B w ga 0 (ones 65000 k).2 oa va ∧ Enc B w gb 0 (ones 500 k).2 ob vb ∧ oa.length = (ones 65000 k).1 ∧ ob.length = (ones 500 k).1 ∧ (∀ q, vb.ownBlock = some q → va.ownBlock ≠ some q)
  low : Below B w0 w
theorem own_lt {w : World} {base n : Nat} {e : TypeId} {size : Nat} {v : Value} {xs : List Value} (h : w.ownsRow base e size v n xs) : ∀ q, v.ownBlock = some q → q < w.heap.size := fun q hq => by
  rcases h.2 with ⟨rfl, _⟩ | ⟨g, cap, cur, rfl, _, hg, _⟩
  · cases hq
  · simp [Value.ownBlock] at hq
    subst hq
    exact (Array.getElem?_eq_some_iff.1 hg).1
theorem Enc.less {B B' : Nat} {w : World} {g : Nat} {x y : Int} {out : List Int} {v : Value} (h : Enc B w g x y out v) (hb : B' ≤ B) : Enc B' w g x y out v := ⟨h.blk, own_less h.own hb, Nat.le_trans hb h.ge⟩
set_option maxRecDepth 100000 in
set_option maxHeartbeats 8000000 in
theorem dear_any (x : Int) (w : World) (h0 : -9223372036854775808 ≤ x) (h1 : x ≤ 9223372036854775807) : Calls Try.prog 5 #[.int .i64 x] w fun e w' => e = .returned (.bool true) ∧ Below w.heap.size w w' := by
  go_enter Try.func5, Try.ntmps5
  go_wp2_with fail
  refine (pick_any x 3201 3201 _ rfl (by omega) (by omega) h0 h1).mono ?_
  have hp := pickI_lt x 3201 (by omega)
  generalize pickI x 3201 = p at *
  rintro e w1 ⟨rfl, rfl⟩
  go_wp2_with fail
  refine (newEnc_any _).mono ?_
  rintro e w1 ⟨⟨ga, rfl, ea⟩, hb1⟩
  go_wp2_with fail
  refine (newEnc_any _).mono ?_
  rintro e w2 ⟨⟨gb, rfl, eb⟩, hb2⟩
  have nab : ga ≠ gb := by have := ea.lt; have := eb.ge; omega
  have EA := Lib.hid (ea.below hb2)
  have EB := Lib.hid (eb.less hb1.size)
  have K2 := Lib.hid (ch0 hb1 hb2)
  clear ea eb hb1 hb2
  go_wp2_with fail
  go_loopw [5] (fun i wr => DearRel w.heap.size ga gb (800 + p) w i wr) (fun i _ => (800 + p) - (intOf i).toNat)
  case atStart => exact ⟨⟨0, [], [], _, _, by omega, rfl, EA.out, EB.out, rfl, rfl, fun q hq => by cases hq⟩, K2.out⟩
  case round =>
    obtain ⟨⟨k, oa, ob, va, vb, hk, rfl, ea, eb, la, lb, hd⟩, hb⟩ := hrel
    by_cases hlt : k < 800 + p
    · obtain ⟨ra, sa, na, _⟩ := stepA k
      obtain ⟨rb, sb, nb, _⟩ := stepB k
      have ma := nrmA k
      have mb := nrmB k
      have qa := leA k
      have qb := leB k
      have EA := Lib.hid ea
      have EB := Lib.hid eb
      have HD := Lib.hid hd
      have KB := Lib.hid hb
      have LA := Lib.hid la
      have LB := Lib.hid lb
      have SA := Lib.hid sa
      have SB := Lib.hid sb
      have NA := Lib.hid na
      have NB := Lib.hid nb
      have MA := Lib.hid ma
      have MB := Lib.hid mb
      have QA : oa.length < 65536 := by omega
      have QB : ob.length < 65536 := by omega
      have QA' := Lib.hid QA
      have QB' := Lib.hid QB
      clear ea eb hd hb la lb sa sb na nb ma mb qa qb QA QB
      go_wp2_with fail
      refine (put_ok _ ga 1 0 _ 65000 oa va _ EA.out MA.out QA'.out KB.out.size (.inr rfl) (by omega) (by omega)).mono ?_
      rw [show step 1 65000 0 (ones 65000 k).2 = (ra, 0, (ones 65000 (k + 1)).2) from SA.out]
      rintro e w3 ⟨rfl, ⟨va', ea3, hva⟩, f3⟩
      have eb3 := EB.out.other EA.out f3 nab HD.out
      have hd3 : ∀ q, vb.ownBlock = some q → va'.ownBlock ≠ some q := fun q hq he => by
        rcases hva with h | ⟨q', h, hq'⟩
        · exact HD.out q hq (h ▸ he)
        · rw [h] at he
          injection he with he
          subst he
          have := own_lt EB.out.own q' hq
          omega
      have k3 := KB.out.trans (f3.to_below (B := w.heap.size) KB.out.size fun k hk => EA.out.low k hk)
      have EA3 := Lib.hid ea3
      have EB3 := Lib.hid eb3
      have HD3 := Lib.hid hd3
      have K3 := Lib.hid k3
      clear ea3 eb3 hd3 k3 f3 hva EA EB HD KB
      go_wp2_with fail
      refine (put_ok _ gb 1 0 _ 500 ob vb _ EB3.out MB.out QB'.out K3.out.size (.inr rfl) (by omega) (by omega)).mono ?_
      rw [show step 1 500 0 (ones 500 k).2 = (rb, 0, (ones 500 (k + 1)).2) from SB.out]
      rintro e w4 ⟨rfl, ⟨vb', eb4, hvb⟩, f4⟩
      have ea4 := EA3.out.other EB3.out f4 (Ne.symm nab) (fun q hq he => HD3.out q he hq)
      have hd4 : ∀ q, vb'.ownBlock = some q → va'.ownBlock ≠ some q := fun q hq he => by
        rcases hvb with h | ⟨q', h, hq'⟩
        · exact HD3.out q (h ▸ hq) he
        · rw [h] at hq
          injection hq with hq
          subst hq
          have := own_lt EA3.out.own q' he
          omega
      have k4 := K3.out.trans (f4.to_below (B := w.heap.size) K3.out.size fun k hk => EB3.out.low k hk)
      have EA4 := Lib.hid ea4
      have EB4 := Lib.hid eb4
      have HD4 := Lib.hid hd4
      have K4 := Lib.hid k4
      clear ea4 eb4 hd4 k4 f4 hvb EA3 EB3 HD3 K3
      go_wp2
      go_roundw
      case rel => exact ⟨⟨k + 1, _, _, _, _, by omega, by go_num, EA4.out, EB4.out, by rw [List.length_append, LA.out, NA.out], by rw [List.length_append, LB.out, NB.out], HD4.out⟩, K4.out⟩
      case measure => simp [intOf]; omega
    · have hkn : k = 800 + p := by omega
      subst hkn
      have da := dearA (800 + p) (by omega) (by omega)
      have db := dearB (800 + p) (by omega) (by omega)
      rw [← la] at da
      rw [← lb] at db
      have EA := Lib.hid ea
      have EB := Lib.hid eb
      have KB := Lib.hid hb
      have ga1 : (oa.length : Int) ≤ 10 + (800 + (p : Int)) / 500 := by omega
      have gb1 : (800 + (p : Int)) * 7 / 8 - 2 ≤ ob.length := by omega
      clear ea eb hb hd la lb da db
      go_wp2_with fail
      refine (len_any _ ga _ _ _ _ _ EA.out).mono ?_
      rintro e w3 ⟨rfl, rfl⟩
      go_wp2_with fail
      refine (len_any _ gb _ _ _ _ _ EB.out).mono ?_
      rintro e w3 ⟨rfl, rfl⟩
      go_wp2_with (go_at_call 16; refine (awake_any _).mono ?_; rintro e w4 ⟨rfl, hb4⟩)
      go_ret
      exact ⟨rfl, ch0 KB.out hb4⟩
theorem dear_law (x : Int) (w : World) (hx : (Lit.int .i64 x).wf = true) : Calls Try.prog 5 #[.int .i64 x] w fun e w' => e = .returned (.bool true) ∧ Below w.heap.size w w' :=
  dear_any x w (wf_i64 hx).1 (wf_i64 hx).2
end Go.Proofs.Ytbjbpbblalcpkaa
