/- May a list be, how many statements there are, may a config be: walks. Condition: at most a million statements. -/
import Derived.Test.YtebmgladdgmmeaaVlGWr
namespace Go.Proofs.Ytebmgladdgmmeaa
open Go.RowKit Go.WideShapes
set_option linter.unusedVariables false
set_option linter.unusedSimpArgs false
def rightF (post : Bool) (f : Fo) : Bool := okF f 20 && gdF post f 20 && decide (cnF f 20 ≤ 500)
set_option maxRecDepth 100000 in
set_option maxHeartbeats 4000000 in
theorem rightS_any (f : Fo) (post : Bool) (A : Option Addr) (c : Nat) (w : World) (hr : RdS w.heap.size w A f) (hc : f.len ≤ c) (hl : f.len ≤ lenMost) (ht : f.tot ≤ 1000000) :
    Calls Try.prog 10 #[.slice A f.len c, .bool post] w (Quiet (.bool (rightF post f)) w) := by
  have hcn := cnF_le f 20
  have h0 := Blk.new w 4 #[.bool post]
  have h1 := Blk.new (w.alloc (.cells #[.bool post] 4)) 3 #[.int .i64 ((0 : Nat) : Int)]
  have h2 := Blk.new ((w.alloc (.cells #[.bool post] 4)).alloc (.cells #[.int .i64 ((0 : Nat) : Int)] 3)) 4 #[.bool true]
  simp only [World.size_alloc] at h1 h2
  have hj : Jd (w.heap.size + 1) (w.heap.size + 1 + 1) w.heap.size post 0 true (((w.alloc (.cells #[.bool post] 4)).alloc (.cells #[.int .i64 ((0 : Nat) : Int)] 3)).alloc (.cells #[.bool true] 4)) := ⟨h1.alloc _, h2, (h0.alloc _).alloc _⟩
  have hal : Below w.heap.size w (((w.alloc (.cells #[.bool post] 4)).alloc (.cells #[.int .i64 ((0 : Nat) : Int)] 3)).alloc (.cells #[.bool true] 4)) := (((Below.refl _ w).alloc (Nat.le_refl _) _).alloc (by simp) _).alloc (by simp; omega) _
  have hwk := walkJ f.tot f (Nat.le_refl _) w.heap.size (w.heap.size + 1) (w.heap.size + 1 + 1) w.heap.size post 0 true c 20 A _ (hr.below hal) hj ⟨by omega, by omega, Nat.le_refl _, by omega⟩ (by simp; omega) (by omega) hc hl (by omega)
  obtain ⟨xo, hxo⟩ : ∃ x, okF f 20 = x := ⟨_, rfl⟩
  obtain ⟨xg, hxg⟩ : ∃ x, gdF post f 20 = x := ⟨_, rfl⟩
  obtain ⟨xn, hxn⟩ : ∃ x, cnF f 20 = x := ⟨_, rfl⟩
  rw [hxo, hxg, hxn] at hwk
  have hv : rightF post f = (xo && xg && decide (xn ≤ 500)) := by unfold rightF; rw [hxo, hxg, hxn]
  rw [hv]
  have hmf : ∀ (fn : Fn) (first cap : Array Value) (w : World), (Instr.makeFunc fn first cap).run Try.prog w = .ok (.func fn first cap) w := fun _ _ _ _ => rfl
  have HW := Lib.hid hwk
  have HAL := Lib.hid hal
  have hd : decide ((xn : Int) ≤ 500) = decide (xn ≤ 500) := by
    by_cases e : xn ≤ 500
    · rw [decide_eq_true e]; simp; omega
    · rw [decide_eq_false e]; simp; omega
  clear hwk hal hj h0 h1 h2 hr hv hxo hxg hxn hcn
  generalize decide (xn ≤ 500) = z at *
  generalize hlen : f.len = len at *
  clear hlen
  cases xo <;> cases xg
  all_goals
    go_enter Try.func10, Try.ntmps10
    go_wp2_with fail
    refine (HW.out).mono ?_
    rintro e w1 ⟨rfl, hq, hb⟩
    have d0 := hq.n.cell 0
    have d1 := hq.g.cell 0
    simp at d0 d1
    have K := Lib.hid (HAL.out.trans hb)
    clear hq hb
    go_wp2_with fail
    go_ret
    exact ⟨rfl, K.out⟩
end Go.Proofs.Ytebmgladdgmmeaa
