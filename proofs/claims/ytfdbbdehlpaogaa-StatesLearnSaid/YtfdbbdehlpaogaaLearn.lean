/- StatesLearn's walk: any state, any row of bools, any last bit: true, nothing written. -/
import Derived.Test.YtfdbbdehlpaogaaStates
import Derived.ProofKit
import Derived.Deep.Grids
namespace Go.Proofs.Ytfdbbdehlpaogaa
open Go.RowKit Go.WideShapes
def bitI (b : Bool) : Int := if b then 1 else 0
def iterI (b : Bool) : Nat → Int → Int
  | 0, s => s
  | n + 1, s => nextI (iterI b n s) (bitI b)
theorem all_mono : ∀ s : Fin 256, chanceI (s.val : Int) ≤ chanceI (nextI (s.val : Int) 1) ∧ chanceI (nextI (s.val : Int) 0) ≤ chanceI (s.val : Int) ∧ 1 ≤ chanceI (s.val : Int) ∧ chanceI (s.val : Int) ≤ 65535 := by decide +kernel
theorem mono (s : Int) (h0 : 0 ≤ s) (h1 : s ≤ 255) : chanceI s ≤ chanceI (nextI s 1) ∧ chanceI (nextI s 0) ≤ chanceI s ∧ 1 ≤ chanceI s ∧ chanceI s ≤ 65535 := by
  have := all_mono ⟨s.toNat, by omega⟩
  simpa [Int.toNat_of_nonneg h0] using this
theorem all_full : ∀ s : Fin 256, iterI true 15 (s.val : Int) % 16 = 15 ∧ iterI true 15 (s.val : Int) / 16 ≤ 2 ∧ iterI false 15 (s.val : Int) / 16 = 15 ∧ iterI false 15 (s.val : Int) % 16 ≤ 2 := by decide +kernel
theorem full (s : Int) (h0 : 0 ≤ s) (h1 : s ≤ 255) : iterI true 15 s % 16 = 15 ∧ iterI true 15 s / 16 ≤ 2 ∧ iterI false 15 s / 16 = 15 ∧ iterI false 15 s % 16 ≤ 2 := by
  have := all_full ⟨s.toNat, by omega⟩
  simpa [Int.toNat_of_nonneg h0] using this
theorem iter_bd (b : Bool) (s : Int) (h0 : 0 ≤ s) (h1 : s ≤ 255) : ∀ n, 0 ≤ iterI b n s ∧ iterI b n s ≤ 255
  | 0 => ⟨h0, h1⟩
  | n + 1 => by
    have := iter_bd b s h0 h1 n
    exact next_bd _ _ this.1 this.2
theorem kind_any (b : Bool) (w : World) :
    Calls Try.prog 14 #[.bool b] w fun e w' => e = .returned (.int .i64 (bitI b)) ∧ w = w' := by
  cases b
  all_goals
    go_enter Try.func14, Try.ntmps14
    go_wp2
    go_ret
    exact ⟨rfl, rfl⟩
def Bools (w : World) (a : Option Addr) (len : Nat) (B : Nat → Bool) : Prop := 0 < len → ∃ b off, a = some ⟨b, off, none⟩ ∧ ∀ i, i < len → w.cell? ⟨b, off + i, none⟩ = some (.bool (B i))
set_option maxHeartbeats 1000000 in
set_option maxRecDepth 100000 in
theorem learn_any (s : Int) (a : Option Addr) (len cap : Nat) (B : Nat → Bool) (last : Bool) (w : World) (h0 : 0 ≤ s) (h1 : s ≤ 255) (hlen : len ≤ maxLen) (hB : Bools w a len B) :
    Calls Try.prog 4 #[.int .u8 s, .slice a len cap, .bool last] w fun e w' => e = .returned (.bool true) ∧ w = w' := by
  unfold maxLen at hlen
  have HB := Lib.hid hB
  clear hB
  go_enter Try.func4, Try.ntmps4
  go_wp2
  go_loop [0, 8] (fun u i => ∃ k : Nat, k ≤ len ∧ i = .int .i64 k ∧ ∃ t : Int, u = .int .u8 t ∧ 0 ≤ t ∧ t ≤ 255) (fun _ i => len - (intOf i).toNat)
  case atStart => exact ⟨0, Nat.zero_le _, rfl, s, rfl, h0, h1⟩
  case round =>
    obtain ⟨k, hk, rfl, t, rfl, ht0, ht1⟩ := hrel
    clear h0 h1
    by_cases hlt : k < len ∧ k < 200
    · obtain ⟨b, off, rfl, hcs⟩ := HB.out (by omega)
      have hc := hcs k hlt.1
      clear hcs
      obtain ⟨hl1, hl2⟩ := hlt
      obtain ⟨m1, m2, m3, m4⟩ := mono t ht0 ht1
      have nb := next_bd t 1 ht0 ht1
      have nc := next_bd t 0 ht0 ht1
      obtain ⟨_, _, p3, p4⟩ := mono (nextI t 1) nb.1 nb.2
      obtain ⟨_, _, q3, q4⟩ := mono (nextI t 0) nc.1 nc.2
      cases hBk : B k
      all_goals
        rw [hBk] at hc
        clear hBk
        go_wp2_with (first | (go_at_call 9; refine (next_any _ _ _ (by omega) (by omega)).mono ?_; rintro e w' ⟨rfl, rfl⟩) | (go_at_call 11; refine (chance_any _ _ (by omega) (by omega)).mono ?_; rintro e w' ⟨rfl, rfl⟩) | (go_at_call 14; refine (kind_any _ _).mono ?_; rintro e w' ⟨rfl, rfl⟩; simp only [bitI, if_true]))
        go_round
        case rel => exact ⟨k + 1, by omega, by go_num, _, rfl, by omega, by omega⟩
        case measure => simp [intOf]; omega
    · rcases (show (¬ k < len) ∨ (k < len ∧ 200 ≤ k) from by omega) with hl1 | ⟨hl1, hl2⟩
      all_goals
        clear hlt
        go_wp2_with fail
        have ib := iter_bd last t ht0 ht1
        have IB := Lib.hid ib
        clear ib
        go_loop [0, 12] (fun u j => ∃ n : Nat, n ≤ 15 ∧ j = .int .i64 n ∧ u = .int .u8 (iterI last n t)) (fun _ j => 15 - (intOf j).toNat)
        case atStart => exact ⟨0, by omega, rfl, rfl⟩
        case round =>
          obtain ⟨n, hn, rfl, rfl⟩ := hrel
          have ib := IB.out n
          by_cases hl : n < 15
          · go_wp2_with (first | (go_at_call 9; refine (next_any _ _ _ (by omega) (by omega)).mono ?_; rintro e w' ⟨rfl, rfl⟩) | (go_at_call 14; refine (kind_any _ _).mono ?_; rintro e w' ⟨rfl, rfl⟩))
            go_round
            case rel => exact ⟨n + 1, by omega, by go_num, rfl⟩
            case measure => simp [intOf]; omega
          · obtain rfl : n = 15 := by omega
            have hf := full t ht0 ht1
            cases last
            all_goals
              obtain ⟨f1, f2, f3, f4⟩ := hf
              have g1 : ((iterI true 15 t % 16) == 15) = true := by simp [f1]
              have g2 : ((iterI false 15 t / 16) == 15) = true := by simp [f3]
              clear f1 f3
              go_wp2_with (first | (go_at_call 7; refine (counts_any _ _ (by omega) (by omega)).mono ?_; rintro e w' ⟨rfl, rfl⟩) | (go_at_call 13; refine (awake_any _).mono ?_; rintro e w' ⟨rfl, rfl⟩))
              go_ret
              exact ⟨rfl, rfl⟩
theorem learn_law {H : Type} {enc : TypeId × Value → H} {base : Nat} {d : DataW H} {ps : List MemPlace} (s : Int) (v : Value) (last : Bool) (w : World) (h : (Lit.int .u8 s).wf = true)
    (hv : Value.okWide Try.prog w .any base 28 v) (hk : DataW.Trod enc Try.prog w 0 (fun _ => true) true 28 v d ps) :
    Calls Try.prog 4 #[.int .u8 s, v, .bool last] w fun e w' => e = .returned (.bool true) ∧ Below w.heap.size w w' := by
  simp [Lit.wf, IntKind.min, IntKind.max, IntKind.signed, IntKind.bits] at h
  obtain ⟨a, len, cap, rfl⟩ := okWide_slice Try.underlying28 hv
  obtain ⟨fuel, hf⟩ := hk
  rcases Go.Deep.open_bools Try.underlying28 Try.underlying4 (by kernel_rfl) hf with ⟨hcs, _⟩ | ⟨x, l, c, B, hcs, _, hl, hm, _, hcell⟩
  · simp [Value.cells] at hcs
    obtain ⟨rfl, rfl, rfl⟩ := hcs
    exact (learn_any s _ 0 0 (fun _ => true) last w (by omega) (by omega) (by omega) (fun h => by omega)).mono fun e w' ⟨he, hw⟩ => ⟨he, hw ▸ Below.refl _ _⟩
  · simp [Value.cells] at hcs
    obtain ⟨rfl, rfl, rfl⟩ := hcs
    refine (learn_any s _ len cap B last w (by omega) (by omega) (by omega) (fun h => ?_)).mono fun e w' ⟨he, hw⟩ => ⟨he, hw ▸ Below.refl _ _⟩
    have h0 := hcell 0 (by omega)
    obtain ⟨b, off, spot⟩ := x
    have hspot : spot = none := by simpa [Addr.add] using World.cell?_spot h0
    subst hspot
    refine ⟨b, off, rfl, fun i hi => ?_⟩
    have := hcell i (by omega)
    simp only [Addr.add] at this
    split at this
    · rename_i hz; subst hz; simpa using this
    · exact this
end Go.Proofs.Ytfdbbdehlpaogaa
