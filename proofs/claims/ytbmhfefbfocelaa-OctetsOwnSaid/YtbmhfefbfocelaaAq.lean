/- Answers that share no memory: each list is stamped all through, all are looked at: the walk. Condition: the lists lie in blocks of their own, whole. -/
import Derived.Test.YtbmhfefbfocelaaAp
import Derived.Test.YtbmhfefbfocelaaFrm
import Derived.Deep.RegionHeld3
namespace Go.Proofs.Ytbmhfefbfocelaa
open Go.RowKit Go.WideShapes
set_option linter.unusedVariables false
set_option linter.unusedSimpArgs false
/-- A list: its block, its length, its capacity. -/
structure Lst where
  g : Nat
  n : Nat
  c : Nat
def Lst.val (x : Lst) : Value := .slice (some ⟨x.g, 0, none⟩) x.n x.c
def Lst.most (x : Lst) : Nat := min x.c (x.n + 40)
def inL (L : List Lst) (b : Nat) : Prop := ∃ (k : Nat) (x : Lst), L[k]? = some x ∧ x.g = b
/-- The lists lie in blocks of their own. -/
structure Rm (w : World) (L : List Lst) : Prop where
  row : ∀ (k : Nat) (x : Lst), L[k]? = some x → x.n ≤ x.c ∧ x.c ≤ maxLen ∧ x.n ≤ 1125899906842624 ∧ ∃ cur, Blk w x.g 5 cur ∧ cur.size = x.c
  one : ∀ (i j : Nat) (x y : Lst), L[i]? = some x → L[j]? = some y → x.g = y.g → i = j
theorem Rm.frm {S : Nat → Prop} {w w' : World} {L : List Lst} (h : Rm w L) (hf : Frm S w w') (hn : ∀ b, S b → ¬ inL L b) : Rm w' L :=
  ⟨fun k x hx => by
    obtain ⟨h1, h2, h3, cur, h4, h5⟩ := h.row k x hx
    exact ⟨h1, h2, h3, cur, h4.frm hf (fun hs => hn _ hs ⟨k, x, hx, rfl⟩), h5⟩, h.one⟩
theorem Rm.below {w w' : World} {L : List Lst} (h : Rm w L) (hb : Below w.heap.size w w') : Rm w' L := h.frm (S := fun _ => False) (Frm.mono (Frm.of_below hb) (fun k hk hs => by first | exact hs | omega)) (fun _ hf => hf.elim)
theorem Rm.drew {w : World} {L : List Lst} (h : Rm w L) : Rm w.drew L := ⟨h.row, h.one⟩
/-- The state of the stamping: the lists ahead of k whole, of list k the first j. -/
structure SA (w0 : World) (L : List Lst) (r bR k j : Nat) (w : World) : Prop where
  frm : Frm (inL L) w0 w
  box : w.cell? ⟨bR, 0, none⟩ = some (.int .i64 r)
  low : w0.heap.size ≤ bR
  out : ¬ inL L bR
  rows : Rm w L
  st : ∀ (q : Nat) (x : Lst), q < k → L[q]? = some x → ∀ i, i < x.most → w.cell? ⟨x.g, i, none⟩ = some (.int .u8 (stI q r))
  part : ∀ (x : Lst), L[k]? = some x → ∀ i, i < j → w.cell? ⟨x.g, i, none⟩ = some (.int .u8 (stI k r))
section
variable {w0 w w' : World} {L : List Lst} {r bR k j : Nat}
theorem SA.drew (h : SA w0 L r bR k j w) : SA w0 L r bR k j w.drew := ⟨h.frm.drew, h.box, h.low, h.out, h.rows.drew, h.st, h.part⟩
theorem SA.below (h : SA w0 L r bR k j w) (hb : Below w.heap.size w w') : SA w0 L r bR k j w' := by
  have hc : ∀ p v, w.cell? p = some v → w'.cell? p = some v := fun p v hp => (hb.cell (World.block_lt_of_cell? _ _ hp)).trans hp
  exact ⟨h.frm.below hb, hc _ _ h.box, h.low, h.out, h.rows.below hb, fun q x hq hx i hi => hc _ _ (h.st q x hq hx i hi), fun x hx i hi => hc _ _ (h.part x hx i hi)⟩
theorem SA.set {x : Lst} (h : SA w0 L r bR k j w) (hx : L[k]? = some x) (hj : j < x.most) : SA w0 L r bR k (j + 1) (w.setCell ⟨x.g, j, none⟩ (.int .u8 (stI k r))) := by
  obtain ⟨h1, h2, h3, cur, h4, h5⟩ := h.rows.row k x hx
  have hjc : j < cur.size := by unfold Lst.most at hj; omega
  have hfar : ∀ p : Addr, p.block ≠ x.g → (w.setCell ⟨x.g, j, none⟩ (.int .u8 (stI k r))).cell? p = w.cell? p := fun p hp =>
    World.cell?_of_block (Below.heap_setCell w ⟨x.g, j, none⟩ _ p.block (fun e => hp (e.symm ▸ rfl)))
  have hset := h4.set j (.int .u8 (stI k r))
  refine ⟨h.frm.setCell (fun _ => ⟨k, x, hx, rfl⟩) _, ?_, h.low, h.out, ?_, ?_, ?_⟩
  · rw [hfar _ (fun e => h.out ⟨k, x, hx, e.symm⟩)]; exact h.box
  · refine ⟨fun q y hy => ?_, h.rows.one⟩
    obtain ⟨a1, a2, a3, cu, a4, a5⟩ := h.rows.row q y hy
    by_cases hqk : q = k
    · subst hqk
      rw [hx] at hy
      obtain rfl := Option.some.inj hy
      exact ⟨a1, a2, a3, _, hset, by simp [h5]⟩
    · exact ⟨a1, a2, a3, cu, a4.far (fun e => hqk (h.rows.one _ _ _ _ hy hx e)) _, a5⟩
  · intro q y hq hy i hi
    rw [hfar _ (fun e => by have := h.rows.one _ _ _ _ hy hx e; omega)]
    exact h.st q y hq hy i hi
  · intro y hy i hi
    rw [hx] at hy
    obtain rfl := Option.some.inj hy
    rw [hset.cell i]
    by_cases hij : i = j
    · subst hij; simp [hjc]
    · have := h.part x hx i (by omega)
      rw [h4.cell i] at this
      rw [Array.getElem?_setIfInBounds_ne (by omega)]
      exact this
theorem SA.next {x : Lst} (h : SA w0 L r bR k x.most w) (hx : L[k]? = some x) : SA w0 L r bR (k + 1) 0 w :=
  ⟨h.frm, h.box, h.low, h.out, h.rows, fun q y hq hy i hi => by
    rcases Nat.lt_or_ge q k with hlt | hge
    · exact h.st q y hlt hy i hi
    · obtain rfl : q = k := by omega
      rw [hx] at hy
      obtain rfl := Option.some.inj hy
      exact h.part x hx i hi, fun _ _ i hi => absurd hi (by omega)⟩
theorem SA.start (hf : Frm (inL L) w0 w) (hr : Rm w L) (hb : ∀ b, inL L b → b < w0.heap.size) (o : Obj) (ho : (w.alloc o).cell? ⟨w.heap.size, 0, none⟩ = some (.int .i64 r)) : SA w0 L r w.heap.size 0 0 (w.alloc o) :=
  ⟨hf.alloc o, ho, hf.size, fun h => by have := hb _ h; have := hf.size; omega, hr.below ((Below.refl _ _).alloc (Nat.le_refl _) o), fun q _ hq => absurd hq (by omega), fun _ _ i hi => absurd hi (by omega)⟩
end
/-- What ApartBytes tells, what it turns. -/
structure IsAp (L : List Lst) (w0 : World) (e : Ending) (w : World) : Prop where
  ret : e = .returned (.bool true)
  frm : Frm (inL L) w0 w
set_option maxRecDepth 100000 in
set_option maxHeartbeats 4000000 in
theorem apart_any (L : List Lst) (gl m cm : Nat) (w : World) (hm : m = L.length) (hm2 : m ≤ 200) (hgl : gl < w.heap.size) (hno : ¬ inL L gl) (hr : Rm w L)
    (hc : ∀ (k : Nat) (x : Lst), L[k]? = some x → w.cell? ⟨gl, k, none⟩ = some x.val) : Calls Try.prog 32 #[.slice (some ⟨gl, 0, none⟩) m cm] w (IsAp L w) := by
  have hb : ∀ b, inL L b → b < w.heap.size := fun b ⟨k, x, hx, e⟩ => by
    obtain ⟨_, _, _, cur, h4, _⟩ := hr.row k x hx
    exact e ▸ h4.lt
  have hcl : ∀ W, Frm (inL L) w W → ∀ (k : Nat) (x : Lst), L[k]? = some x → W.cell? ⟨gl, k, none⟩ = some x.val := fun W hW k x hx => (hW.cell (p := ⟨gl, k, none⟩) hgl hno).trans (hc k x hx)
  have HC := Lib.hid hcl
  have HB := Lib.hid hb
  have HR := Lib.hid hr
  have HM := Lib.hid hm
  have HC0 := Lib.hid hc
  have HNO := Lib.hid hno
  clear hcl hb hr hm hc hno
  go_enter Try.func32, Try.ntmps32
  go_wp2_with fail
  go_loopw [10] (fun i wr => ∃ r : Nat, r ≤ 2 ∧ i = .int .i64 r ∧ Frm (inL L) w wr ∧ Rm wr L) (fun i _ => 2 - (intOf i).toNat)
  case atStart => exact ⟨0, by omega, rfl, Frm.refl _ _, HR.out⟩
  case round =>
    obtain ⟨r, hr2, rfl, hfr, hrm⟩ := hrel
    have HF := Lib.hid hfr
    have HRM := Lib.hid hrm
    clear hfr hrm
    by_cases hlt : r < 2
    · have g1 : decide ((r : Int) < 2) = true := by simp; omega
      go_wp2_with fail
      have hs := SA.start (r := r) HF.out HRM.out HB.out (.cells #[.int .i64 r] 3) (by rw [cell_of_row _ _ _ _ _ _ (heap_alloc_new _ _)]; rfl)
      have hwb := (Frm.alloc HF.out (.cells #[.int .i64 r] 3)).size
      generalize wr.alloc (.cells #[.int .i64 r] 3) = wa at *
      generalize wr.heap.size = bR at *
      have HS := Lib.hid hs
      clear hs HF HRM hwb
      go_loopw [15] (fun i wb => ∃ k : Nat, k ≤ m ∧ i = .int .i64 k ∧ SA w L r bR k 0 wb) (fun i _ => m - (intOf i).toNat)
      case atStart => exact ⟨0, by omega, rfl, HS.out⟩
      case round =>
        obtain ⟨k, hk, rfl, hsa⟩ := hrel
        have HSA := Lib.hid hsa
        clear hsa HS
        by_cases hkm : k < m
        · have g2 : decide ((k : Int) < (m : Int)) = true := by simp; omega
          obtain ⟨x, hx⟩ : ∃ x, L[k]? = some x := ⟨_, List.getElem?_eq_getElem (by rw [← HM.out]; exact hkm)⟩
          have hcx := HC.out _ HSA.out.frm k x hx
          obtain ⟨hn1, hn2, hn3, _⟩ := HSA.out.rows.row k x hx
          unfold Lst.val at hcx
          have HX := Lib.hid hx
          have hkI : (k : Int) < (m : Int) := by omega
          clear hx
          have hwh := fun W => whole_any x.g x.n x.c W hn1 hn2 hn3
          have HW := Lib.hid hwh
          clear hwh
          have hmost : min x.c (x.n + 40) = x.most := rfl
          have hmm : x.most ≤ 9223372036854775807 := by unfold Lst.most; unfold maxLen at hn2; omega
          have HMO := Lib.hid hmost
          clear hmost
          unfold maxLen at hn2
          go_wp2_with fail
          refine (HW.out _).mono ?_
          rintro e w1 ⟨rfl, rfl⟩
          rw [HMO.out]
          go_wp2_with fail
          go_loopw [23] (fun i wb => ∃ j : Nat, j ≤ x.most ∧ i = .int .i64 j ∧ SA w L r bR k j wb) (fun i _ => x.most - (intOf i).toNat)
          case atStart => exact ⟨0, by omega, rfl, HSA.out⟩
          case round =>
            obtain ⟨j, hj, rfl, hsb⟩ := hrel
            have HSB := Lib.hid hsb
            clear hsb HSA
            by_cases hjm : j < x.most
            · have g3 : decide ((j : Int) < (x.most : Int)) = true := by simp; omega
              have hjI : (j : Int) < (x.most : Int) := by omega
              have hj0 : (0 : Int) ≤ (j : Int) := by omega
              have hbox := HSB.out.box
              have hst := fun W => stamped_any k r W (by omega) hlt
              have HST := Lib.hid hst
              have hnext := HSB.out.drew.set HX.out hjm
              have HNX := Lib.hid hnext
              have hfz : ∀ W, SA w L r bR k j W → W.frozen? ⟨x.g, j, none⟩ = false := fun W hW => by
                obtain ⟨_, _, _, cur, h4, _⟩ := hW.rows.row k x HX.out
                exact h4.frozen j
              have hce : ∀ W, SA w L r bR k j W → ∃ u, W.cell? ⟨x.g, j, none⟩ = some u := fun W hW => by
                obtain ⟨_, _, _, cur, h4, h5⟩ := hW.rows.row k x HX.out
                exact ⟨cur[j]'(by have h6 : x.most ≤ x.c := Nat.min_le_left _ _; omega), by rw [h4.cell j]; simp⟩
              have hf1 := hfz _ HSB.out
              obtain ⟨u1, hu1⟩ := hce _ HSB.out
              clear hst hnext hfz hce
              generalize stI k r = z at *
              go_wp2_with fail
              go_region_with (first
                | (go_at_call 44; refine (HW.out _).mono ?_; rintro e w2 ⟨rfl, rfl⟩; rw [HMO.out])
                | (go_at_call 45; refine (HST.out _).mono ?_; rintro e w3 ⟨rfl, rfl⟩))
              all_goals
                go_wp2
                go_roundw
                case rel => exact ⟨j + 1, by omega, by go_num, HNX.out⟩
                case measure => simp [intOf]; omega
            · have g3 : decide ((j : Int) < (x.most : Int)) = false := by simp; omega
              obtain rfl : j = x.most := by omega
              go_wp2_with fail
              go_roundw
              case rel => exact ⟨k + 1, by omega, by go_num, HSB.out.next HX.out⟩
              case measure => simp [intOf]; omega
        · have g2 : decide ((k : Int) < (m : Int)) = false := by simp; omega
          obtain rfl : k = m := by omega
          have hmf : ∀ (fn : Fn) (first cap : Array Value) (w : World), (Instr.makeFunc fn first cap).run Try.prog w = .ok (.func fn first cap) w := fun _ _ _ _ => rfl
          clear HC
          have HC2 := Lib.hid fun W (hW : Frm (inL L) w W) (q : Nat) (x : Lst) (hx : L[q]? = some x) => (hW.cell (p := ⟨gl, q, none⟩) hgl HNO.out).trans (HC0.out q x hx)
          go_wp2_with fail
          go_loopw [37] (fun i wb => ∃ q : Nat, q ≤ k ∧ i = .int .i64 q ∧ SA w L r bR k 0 wb) (fun i _ => k - (intOf i).toNat)
          case atStart => exact ⟨0, by omega, rfl, HSA.out⟩
          case round =>
            obtain ⟨q, hq, rfl, hsb⟩ := hrel
            have HSB := Lib.hid hsb
            clear hsb HSA
            by_cases hqk : q < k
            · have g3 : decide ((q : Int) < (k : Int)) = true := by simp; omega
              have hqI : (q : Int) < (k : Int) := by omega
              have hq0 : (0 : Int) ≤ (q : Int) := by omega
              obtain ⟨x, hx⟩ : ∃ x, L[q]? = some x := ⟨_, List.getElem?_eq_getElem (by rw [← HM.out]; exact hqk)⟩
              have hcx := HC2.out _ HSB.out.frm q x hx
              unfold Lst.val at hcx
              obtain ⟨hn1, hn2, hn3, _⟩ := HSB.out.rows.row q x hx
              have hst := HSB.out.st q x hqk hx
              have hal := HSB.out.below ((Below.refl _ _).alloc (Nat.le_refl _) (.cells #[.int .i64 q] 3))
              have hbl := World.block_lt_of_cell? _ _ HSB.out.box
              have hwh := fun W => whole_any x.g x.n x.c W hn1 hn2 hn3
              have HW := Lib.hid hwh
              have hmost : min x.c (x.n + 40) = x.most := rfl
              have hmm : x.most ≤ 9223372036854775807 := by unfold Lst.most; unfold maxLen at hn2; omega
              have hall := all_any x.g x.most x.c q r wr.heap.size bR (wr.alloc (.cells #[.int .i64 q] 3)) (by omega) hlt hmm (by rw [cell_of_row _ _ _ _ _ _ (heap_alloc_new _ _)]; rfl) hal.box (hal.st q x hqk hx)
              have HALL := Lib.hid hall
              have HAL := Lib.hid hal
              have HMO := Lib.hid hmost
              have HX := Lib.hid hx
              clear hx hst hal hwh hall hmost
              unfold maxLen at hn2
              go_wp2_with fail
              refine (HW.out _).mono ?_
              rintro e w1 ⟨rfl, rfl⟩
              rw [HMO.out]
              go_wp2_with fail
              refine (HALL.out).mono ?_
              rintro e w2 ⟨rfl, hb2⟩
              have HS2 := Lib.hid (HAL.out.below hb2)
              clear hb2
              go_wp2_with fail
              go_roundw
              case rel => exact ⟨q + 1, by omega, by go_num, HS2.out⟩
              case measure => simp [intOf]; omega
            · have g3 : decide ((q : Int) < (k : Int)) = false := by simp; omega
              go_wp2_with fail
              go_roundw
              case rel => exact ⟨r + 1, by omega, by go_num, HSB.out.frm, HSB.out.rows⟩
              case measure => simp [intOf]; omega
    · have g1 : decide ((r : Int) < 2) = false := by simp; omega
      go_wp2_with fail
      go_ret
      exact ⟨rfl, HF.out⟩
end Go.Proofs.Ytbmhfefbfocelaa
