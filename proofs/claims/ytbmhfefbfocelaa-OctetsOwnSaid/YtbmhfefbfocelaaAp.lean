/- Answers that share no memory: stamped, whole, all. -/
import Derived.Test.YtbmhfefbfocelaaLent
namespace Go.Proofs.Ytbmhfefbfocelaa
open Go.RowKit Go.WideShapes
set_option linter.unusedVariables false
set_option linter.unusedSimpArgs false
def stI (k r : Nat) : Int := if r = 0 then (k : Int) else 0
theorem stI_bd (k r : Nat) (hk : k < 256) : 0 ≤ stI k r ∧ stI k r < 256 := by unfold stI; split <;> omega
structure Calm (v : Value) (w0 : World) (e : Ending) (w : World) : Prop where
  ret : e = .returned v
  low : Below w0.heap.size w0 w
theorem stamped_any (k r : Nat) (w : World) (hk : k < 256) (hr : r < 2) : Calls Try.prog 45 #[.int .i64 k, .int .i64 r] w (Same w (.int .u8 (stI k r))) := by
  rcases (show r = 0 ∨ r = 1 by omega) with rfl | rfl
  · go_enter Try.func45, Try.ntmps45
    go_wp2
    go_ret
    exact ⟨rfl, rfl⟩
  · go_enter Try.func45, Try.ntmps45
    go_wp2
    go_ret
    exact ⟨ret_u8 (by show (k : Int) / 256 = 0; omega), rfl⟩
theorem whole_any (g n c : Nat) (w : World) (hn : n ≤ c) (hc : c ≤ maxLen) (hb : n ≤ 1125899906842624) : Calls Try.prog 44 #[.slice (some ⟨g, 0, none⟩) n c] w (Same w (.slice (some ⟨g, 0, none⟩) (min c (n + 40)) c)) := by
  unfold maxLen at hc
  have hcI : (c : Int) ≤ 9223372036854775807 := by omega
  have hw : wrap64 ((n : Int) + 40) = (n : Int) + 40 := by unfold wrap64; omega
  have hcc : (0 : Int) ≤ c := by omega
  rcases Nat.lt_or_ge (n + 40) c with h | h
  · have h1 : (n : Int) + 40 < c := by omega
    have h2 : (n : Int) + 40 ≤ c := by omega
    have h3 : ((n : Int) + 40).toNat = n + 40 := by omega
    rw [Nat.min_eq_right (by omega)]
    go_enter Try.func44, Try.ntmps44
    go_wp2
    go_ret
    exact ⟨rfl, rfl⟩
  · have h1 : ¬ (n : Int) + 40 < c := by omega
    have h3 : (c : Int).toNat = c := by omega
    rw [Nat.min_eq_left (by omega)]
    go_enter Try.func44, Try.ntmps44
    go_wp2
    go_ret
    exact ⟨rfl, rfl⟩
theorem mine_any (x : Int) (k r a b : Nat) (w : World) (hk : k < 256) (hr : r < 2) (ha : w.cell? ⟨a, 0, none⟩ = some (.int .i64 k)) (hb : w.cell? ⟨b, 0, none⟩ = some (.int .i64 r)) :
    Calls Try.prog 46 #[.int .u8 x, .pointer (some ⟨a, 0, none⟩), .pointer (some ⟨b, 0, none⟩)] w (Same w (.bool (x == stI k r))) := by
  have hst := stamped_any k r w hk hr
  have HST := Lib.hid hst
  clear hst
  go_enter Try.func46, Try.ntmps46
  go_wp2_with fail
  refine (HST.out).mono ?_
  rintro e w1 ⟨rfl, rfl⟩
  go_wp2_with fail
  go_ret
  exact ⟨rfl, rfl⟩
def mineF (a b : Nat) : Value := .func (.func 46) #[] #[.pointer (some ⟨a, 0, none⟩), .pointer (some ⟨b, 0, none⟩)]
/-- all's inner function. -/
theorem not_any (x : Int) (k r a b f : Nat) (w : World) (hk : k < 256) (hr : r < 2) (ha : w.cell? ⟨a, 0, none⟩ = some (.int .i64 k)) (hb : w.cell? ⟨b, 0, none⟩ = some (.int .i64 r)) (hf : w.cell? ⟨f, 0, none⟩ = some (mineF a b)) :
    Calls Try.prog 51 #[.int .u8 x, .pointer (some ⟨f, 0, none⟩)] w (Same w (.bool (!(x == stI k r)))) := by
  have hmi := mine_any x k r a b w hk hr ha hb
  have HMI := Lib.hid hmi
  clear hmi
  unfold mineF at hf
  go_enter Try.func51, Try.ntmps51
  go_wp2_with fail
  refine (HMI.out).mono ?_
  rintro e w1 ⟨rfl, rfl⟩
  go_wp2_with fail
  go_ret
  exact ⟨rfl, rfl⟩
def notF (f : Nat) : Value := .func (.func 51) #[] #[.pointer (some ⟨f, 0, none⟩)]
set_option maxHeartbeats 1000000 in
theorem indexF_any (g m c k r a b f : Nat) (w : World) (hk : k < 256) (hr : r < 2) (hm : m ≤ 9223372036854775807) (ha : w.cell? ⟨a, 0, none⟩ = some (.int .i64 k)) (hb : w.cell? ⟨b, 0, none⟩ = some (.int .i64 r)) (hf : w.cell? ⟨f, 0, none⟩ = some (mineF a b)) (hc : ∀ i, i < m → w.cell? ⟨g, i, none⟩ = some (.int .u8 (stI k r))) :
    Calls Try.prog 52 #[.slice (some ⟨g, 0, none⟩) m c, notF f] w (Same w (.int .i64 (-1))) := by
  have hno := not_any (stI k r) k r a b f w hk hr ha hb hf
  rw [show (stI k r == stI k r) = true by simp] at hno
  have HNO := Lib.hid hno
  have HC := Lib.hid hc
  clear hno hc ha hb hf
  generalize stI k r = x at HNO HC
  unfold notF
  go_enter Try.func52, Try.ntmps52
  go_wp2_with fail
  go_loopw [8] (fun i wr => ∃ q : Nat, q ≤ m ∧ i = .int .i64 q ∧ wr = w) (fun i _ => m - (intOf i).toNat)
  case atStart => exact ⟨0, by omega, rfl, rfl⟩
  case round =>
    obtain ⟨q, hq, rfl, hwr⟩ := hrel
    subst hwr
    by_cases hlt : q < m
    · have e1 : decide ((q : Int) < (m : Int)) = true := by simp; omega
      have hqI : (q : Int) < (m : Int) := by omega
      have hcq := HC.out q hlt
      go_wp2_with fail
      refine (HNO.out).mono ?_
      rintro e w1 ⟨rfl, rfl⟩
      go_wp2_with fail
      exact ⟨⟨q + 1, by omega, congrArg (Value.int .i64) (by omega), trivial⟩, by simp [intOf]; omega⟩
    · have e1 : decide ((q : Int) < (m : Int)) = false := by simp; omega
      go_wp2_with fail
      go_ret
      exact ⟨rfl, rfl⟩
theorem containsF_any (g m c k r a b f : Nat) (w : World) (hk : k < 256) (hr : r < 2) (hm : m ≤ 9223372036854775807) (ha : w.cell? ⟨a, 0, none⟩ = some (.int .i64 k)) (hb : w.cell? ⟨b, 0, none⟩ = some (.int .i64 r)) (hf : w.cell? ⟨f, 0, none⟩ = some (mineF a b)) (hc : ∀ i, i < m → w.cell? ⟨g, i, none⟩ = some (.int .u8 (stI k r))) :
    Calls Try.prog 50 #[.slice (some ⟨g, 0, none⟩) m c, notF f] w (Same w (.bool false)) := by
  have hi := indexF_any g m c k r a b f w hk hr hm ha hb hf hc
  have HI := Lib.hid hi
  clear hi hc ha hb hf
  unfold notF at HI ⊢
  go_enter Try.func50, Try.ntmps50
  go_wp2_with fail
  refine (HI.out).mono ?_
  rintro e w1 ⟨rfl, rfl⟩
  go_wp2_with fail
  go_ret
  exact ⟨rfl, rfl⟩
theorem all_any (g m c k r a b : Nat) (w : World) (hk : k < 256) (hr : r < 2) (hm : m ≤ 9223372036854775807) (ha : w.cell? ⟨a, 0, none⟩ = some (.int .i64 k)) (hb : w.cell? ⟨b, 0, none⟩ = some (.int .i64 r)) (hc : ∀ i, i < m → w.cell? ⟨g, i, none⟩ = some (.int .u8 (stI k r))) :
    Calls Try.prog 47 #[.slice (some ⟨g, 0, none⟩) m c, mineF a b] w (Calm (.bool true) w) := by
  have lt := fun (x : Addr) (v : Value) (h : w.cell? x = some v) => World.block_lt_of_cell? _ _ h
  have hal : ∀ x v, w.cell? x = some v → (w.alloc (.cells #[mineF a b] 75)).cell? x = some v := fun x v h => (World.cell?_alloc_lt w _ x (lt x v h)).trans h
  have hf : (w.alloc (.cells #[mineF a b] 75)).cell? ⟨w.heap.size, 0, none⟩ = some (mineF a b) := by rw [cell_of_row _ _ _ _ _ _ (heap_alloc_new _ _)]; rfl
  have hcf := containsF_any g m c k r a b w.heap.size (w.alloc (.cells #[mineF a b] 75)) hk hr hm (hal _ _ ha) (hal _ _ hb) hf (fun i hi => hal _ _ (hc i hi))
  have hbl := (Below.refl w.heap.size w).alloc (Nat.le_refl _) (.cells #[mineF a b] 75)
  have HB := Lib.hid hbl
  have HCF := Lib.hid hcf
  clear hal hf hcf hc lt ha hb hbl
  unfold mineF notF at *
  have hmf : ∀ (fn : Fn) (first cap : Array Value) (w : World), (Instr.makeFunc fn first cap).run Try.prog w = .ok (.func fn first cap) w := fun _ _ _ _ => rfl
  go_enter Try.func47, Try.ntmps47
  go_wp2_with fail
  refine (HCF.out).mono ?_
  rintro e w1 ⟨rfl, rfl⟩
  go_wp2_with fail
  go_ret
  exact ⟨rfl, HB.out⟩
end Go.Proofs.Ytbmhfefbfocelaa
