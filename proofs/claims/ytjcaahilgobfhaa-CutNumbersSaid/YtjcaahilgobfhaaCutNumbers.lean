/- CutNumbers' walk: true. It has no argument; no condition. -/
import Derived.Test.YtjcaahilgobfhaaMake
namespace Go.Proofs.Ytjcaahilgobfhaa
open Go.RowKit Go.WideShapes
set_option linter.unusedVariables false
structure FillRel (g base2 : Nat) (A : Option Addr) (c : Nat) (m : List Int) (w0 : World) (i : Value) (w : World) : Prop where
  ex : ∃ (k : Nat) (l : List Int), i = .int .i64 k ∧ k ≤ 9000 ∧ l.length = 9000 ∧ Oct l ∧ w.ownsRow w0.heap.size 5 1 (.slice (some ⟨g, 0, none⟩) 9000 9000) 9000 (octs l) ∧ w.ownsRow base2 5 1 (.slice A 9000 c) 9000 (octs m)
  low : Below w0.heap.size w0 w
theorem fill_step {g base2 : Nat} {A : Option Addr} {c : Nat} {m l : List Int} {w0 w : World} {k : Nat} {x : Int} (hk : k < 9000) (hl : l.length = 9000) (ho : Oct l) (h1 : w.ownsRow w0.heap.size 5 1 (.slice (some ⟨g, 0, none⟩) 9000 9000) 9000 (octs l))
    (h2 : w.ownsRow base2 5 1 (.slice A 9000 c) 9000 (octs m)) (hg : g < base2) (hg0 : w0.heap.size ≤ g) (hb : Below w0.heap.size w0 w) (hx : 0 ≤ x ∧ x ≤ 255) :
    FillRel g base2 A c m w0 (.int .i64 ((k : Int) + 1)) (w.setCell ⟨g, k, none⟩ (.int .u8 x)) :=
  ⟨⟨k + 1, l.set k x, by simp, by omega, by simp [hl], fun y hy => by
    rcases List.mem_or_eq_of_mem_set hy with h | h
    · exact ho y h
    · rw [h]; exact hx, by
    have := (h1.stored k (.int .u8 x)).1
    rwa [show (octs l).set k (.int .u8 x) = octs (l.set k x) by simp [octs, List.map_set]] at this, own_set h2 (fun e => by have := own_ge h2 _ e; omega)⟩, hb.setCell (p := ⟨g, k, none⟩) hg0 _⟩
theorem fill_skip {g base2 : Nat} {A : Option Addr} {c : Nat} {m l : List Int} {w0 w : World} {k : Nat} (hk : k < 9000) (hl : l.length = 9000) (ho : Oct l) (h1 : w.ownsRow w0.heap.size 5 1 (.slice (some ⟨g, 0, none⟩) 9000 9000) 9000 (octs l))
    (h2 : w.ownsRow base2 5 1 (.slice A 9000 c) 9000 (octs m)) (hb : Below w0.heap.size w0 w) :
    FillRel g base2 A c m w0 (.int .i64 ((k : Int) + 1)) w :=
  ⟨⟨k + 1, l, by simp, by omega, hl, ho, h1, h2⟩, hb⟩
structure PatRel (w0 : World) (a b i : Value) (w : World) : Prop where
  ex : ∃ k : Nat, i = .int .i64 k ∧ k ≤ 2100 ∧ w.ownsRow w0.heap.size 5 1 a (2 * k) (octs (pat 59 0 k)) ∧ w.ownsRow w0.heap.size 5 1 b (2 * k) (octs (pat 169 1 k))
  ne : a.ownBlock = none ∧ b.ownBlock = none ∨ a.ownBlock ≠ b.ownBlock
  low : Below w0.heap.size w0 w
theorem own_lt {w : World} {base : Nat} {e : TypeId} {size n : Nat} {v : Value} {xs : List Value} (h : w.ownsRow base e size v n xs) : ∀ k, v.ownBlock = some k → k < w.heap.size := fun k hk => by
  rcases h.2 with ⟨rfl, _⟩ | ⟨g, cap, cur, rfl, hb, hg, _⟩
  · simp [Value.ownBlock] at hk
  · simp [Value.ownBlock] at hk; subst hk; exact (Array.getElem?_eq_some_iff.1 hg).1
theorem pat_octs (x y : Int) (k : Nat) : octs (pat x y k) ++ [.int .u8 x, .int .u8 y] = octs (pat x y (k + 1)) := by simp [octs, pat]
theorem pat_rel {w0 w w2 w3 : World} {a b v2 v3 : Value} {k : Nat} (hk : k < 2100) (ha : w.ownsRow w0.heap.size 5 1 a (2 * k) (octs (pat 59 0 k))) (hb : w.ownsRow w0.heap.size 5 1 b (2 * k) (octs (pat 169 1 k)))
    (hne : a.ownBlock = none ∧ b.ownBlock = none ∨ a.ownBlock ≠ b.ownBlock) (h2 : w2.ownsRow w0.heap.size 5 1 v2 (2 * k + 2) (octs (pat 59 0 k) ++ [.int .u8 59, .int .u8 0])) (t2 : v2.ownBlock = a.ownBlock ∨ v2.ownBlock = some (w.heap.size + 1)) (l2 : Below w0.heap.size w w2)
    (h3 : w3.ownsRow w0.heap.size 5 1 v3 (2 * k + 2) (octs (pat 169 1 k) ++ [.int .u8 169, .int .u8 1])) (g3 : w2.grownBy w3 b.ownBlock) (t3 : v3.ownBlock = b.ownBlock ∨ v3.ownBlock = some (w2.heap.size + 1)) (l3 : Below w0.heap.size w2 w3) (hb0 : Below w0.heap.size w0 w) :
    PatRel w0 v2 v3 (.int .i64 ((k : Int) + 1)) w3 := by
  have b1 := own_lt hb
  have b2 := own_lt h2
  have n2 : v2.ownBlock ≠ none := by
    obtain ⟨g, cap, e, _⟩ := h2.form (by omega)
    rw [e]; simp [Value.ownBlock]
  have e2 : v2.ownBlock ≠ b.ownBlock := by
    rcases t2 with t2 | t2
    · rcases hne with ⟨h, _⟩ | h
      · rw [h] at t2; exact absurd t2 n2
      · rw [t2]; exact h
    · rw [t2]; intro e; have := b1 _ e.symm; omega
  refine ⟨⟨k + 1, by simp, by omega, ?_, ?_⟩, .inr ?_, (hb0.trans l2).trans l3⟩
  · have := h2.kept g3 (.inr e2)
    rw [pat_octs] at this
    rwa [show 2 * (k + 1) = 2 * k + 2 by omega]
  · rw [pat_octs] at h3
    rwa [show 2 * (k + 1) = 2 * k + 2 by omega]
  · rcases t3 with t3 | t3
    · rw [t3]; exact e2
    · rw [t3]; intro e; have := b2 _ e; omega
set_option maxRecDepth 100000 in
set_option maxHeartbeats 16000000 in
theorem cutNumbers_any (w : World) : Calls Try.prog 3 #[] w fun e w' => e = .returned (.bool true) ∧ Below w.heap.size w w' := by
  go_enter Try.func3, Try.ntmps3
  go_wp2_with fail
  go_loopw [1] (fun k wr => ∃ n : Nat, k = .int .i64 n ∧ n ≤ 6 ∧ Below w.heap.size w wr) (fun k _ => 6 - (intOf k).toNat)
  case atStart => exact ⟨0, rfl, by omega, Below.refl _ _⟩
  case round =>
    obtain ⟨n, rfl, hn, hb⟩ := hrel
    obtain ⟨w1, ew⟩ : ∃ w1 : World, w1 = wr := ⟨_, rfl⟩
    subst ew
    by_cases hlt : n < 6
    · go_wp2_with (refine wpList_mk tBytes rfl rfl (.const (.int .i64 9000)) (.const (.int .i64 9000)) rfl w1.heap.size .i64 .i64 9000 9000 9000 rfl rfl rfl rfl (by omega) (by unfold maxLen; omega) (Nat.le_refl _) ?_; intro w2 hown2 hlt2 hb2)
      refine (made9000 (n : Int) w2 (by omega) (by omega)).mono ?_
      rintro e w3 ⟨⟨A, c, m, rfl, hml, hmo, hmade⟩, hb3⟩
      have hz : (List.replicate 9000 (Value.int IntKind.u8 0)) = octs (zerosN 9000) := by unfold octs zerosN; rw [List.map_replicate]
      rw [hz] at hown2
      have hown3 := own_below hown2 hb3
      have k3 := hb2.trans (hb3.mono hb2.size)
      have HM := Lib.hid hml
      have HO := Lib.hid hmo
      clear hown2 hz hml hmo
      go_wp2_with fail
      go_loopw [4] (fun i wr => FillRel w1.heap.size w2.heap.size A c m w1 i wr) (fun i _ => 9000 - (intOf i).toNat)
      case atStart => exact ⟨⟨0, zerosN 9000, rfl, by omega, zeros_length _, zeros_oct _, hown3, hmade⟩, k3⟩
      case round =>
        obtain ⟨⟨k, l, rfl, hk, hl, ho, h1, h2⟩, hb4⟩ := hrel
        have HL := Lib.hid hl
        have HX := Lib.hid ho
        clear hl ho
        by_cases hk9 : k < 9000
        · have hc := h1.cellAt k (by omega)
          have hf := h1.frozenAt k
          obtain ⟨y, hy⟩ : ∃ y, (octs l)[k]? = some y := ⟨_, List.getElem?_eq_getElem (by rw [octs_length, HL.out]; exact hk9)⟩
          rw [hy] at hc
          clear hy
          obtain ⟨x, hx⟩ : ∃ x, m[k]? = some x := ⟨_, List.getElem?_eq_getElem (by rw [HM.out]; exact hk9)⟩
          have hxb := HO.out x (List.mem_of_getElem? hx)
          obtain ⟨b9, o9, rfl, hlt9, hc9⟩ := (Rd.of_own h2).at (k := k) (u := .int .u8 x) (by unfold octs; rw [List.getElem?_map, hx]; rfl)
          have HXX := Lib.hid hx
          clear hx
          rcases (show n = 0 ∨ n = 1 ∨ n = 2 ∨ n = 3 ∨ n = 4 ∨ n = 5 from by omega) with rfl | rfl | rfl | rfl | rfl | rfl
          · go_wp2
            exact ⟨fill_skip hk9 HL.out HX.out h1 h2 hb4, by simp [intOf]; omega⟩
          all_goals
            go_wp2
            exact ⟨fill_step hk9 HL.out HX.out h1 h2 hlt2 (Nat.le_refl _) hb4 (by omega), by simp [intOf]; omega⟩
        · obtain rfl : k = 9000 := by omega
          obtain ⟨cl, hcl⟩ := cut_ex l
          have hcn := cut_len hcl
          rw [HL.out] at hcn
          have HC := Lib.hid hcl
          clear hcl
          have hr4 := Rd.of_own h1
          have k4 := ch0 hb hb4
          go_wp2_with fail
          refine (cuts_to l _ 9000 _ _ cl HC.out HL.out.symm HX.out hr4 (by omega) (by omega) (by unfold maxLen; omega)).mono ?_
          rintro e w5 ⟨⟨A5, c5, rfl, hr5⟩, hb5⟩
          go_wp2_with fail
          refine (ref_to l _ 9000 _ _ cl HC.out HL.out.symm HX.out (hr4.below hb5 rfl) (by omega)).mono ?_
          rintro e w6 ⟨⟨A6, c6, rfl, hr6⟩, hb6⟩
          go_wp2_with fail
          refine (sameI cl cl _ _ _ _ _ _ w6 rfl rfl (hr5.below hb6 rfl) hr6 (by omega)).mono ?_
          rintro e w7 ⟨rfl, hb7⟩
          have k7 := ch0 (ch0 (ch0 k4 hb5) hb6) hb7
          go_wp2
          go_roundw
          case rel => exact ⟨n + 1, by go_num, by omega, k7⟩
          case measure => simp [intOf]; omega
    · go_wp2_with fail
      go_loopw [5, 6, 7] (fun a b i wr => PatRel w a b i wr) (fun _ _ i _ => 2100 - (intOf i).toNat)
      case atStart => exact ⟨⟨0, rfl, by omega, World.ownsRow_nil w1 w.heap.size 5 1, World.ownsRow_nil w1 w.heap.size 5 1⟩, .inl ⟨rfl, rfl⟩, hb⟩
      case round =>
        obtain ⟨⟨k, rfl, hk, ha, hb'⟩, hne, hb2⟩ := hrel
        have HN := Lib.hid hne
        clear hne
        by_cases hk2 : k < 2100
        · go_wp2_with (first
            | (at_builtin; refine wpList_lit (us := [.int .u8 59, .int .u8 0]) tBytes rfl (.tmp 62) (.tmp 63) rfl w.heap.size _ (2 * k) _ rfl ha (by intro u hu; simp at hu; rcases hu with rfl | rfl <;> rfl) 2 rfl _ rfl rfl (by omega) (by unfold maxLen; omega) hb2.size ?_; intro v2 w2 hown2 hgr2 hat2 hb3; have hbk : w2.ownsRow w.heap.size 5 1 _ (2 * k) (octs (pat 169 1 k)) := hb'.kept hgr2 (by rcases HN.out with ⟨_, h⟩ | h; exact .inl h; exact .inr (fun e => h e.symm)))
            | (at_builtin; refine wpList_lit (us := [.int .u8 169, .int .u8 1]) tBytes rfl (.tmp 65) (.tmp 66) rfl w.heap.size _ (2 * k) _ rfl hbk (by intro u hu; simp at hu; rcases hu with rfl | rfl <;> rfl) 2 rfl _ rfl rfl (by omega) (by unfold maxLen; omega) (Nat.le_trans hb2.size (Nat.le_trans (Nat.le_refl _) hgr2.size)) ?_; intro v3 w3 hown3 hgr3 hat3 hb4))
          exact ⟨pat_rel hk2 ha hb' HN.out hown2 hat2 hb3 hown3 hgr3 hat3 hb4 hb2, by simp [intOf]; omega⟩
        · obtain rfl : k = 2100 := by omega
          obtain ⟨A, c, rfl, hc⟩ := own_slice ha
          obtain ⟨B, d, rfl, hd⟩ := own_slice hb'
          have ra := Rd.of_own ha
          have rb := Rd.of_own hb'
          have q1 : (2 * 2100 : Nat) = (pat 59 0 2100).length := (pat_length 59 0 2100).symm
          have q2 : (2 * 2100 : Nat) = (pat 169 1 2100).length := (pat_length 169 1 2100).symm
          have Q1 := Lib.hid q1
          have Q2 := Lib.hid q2
          clear q1 q2
          go_wp2_with fail
          refine (next_at (pat 59 0 2100) _ _ _ _ Q1.out (pat_oct _ _ (by omega) (by omega) _) ra (by unfold maxLen; omega)).mono ?_
          rintro e w5 ⟨⟨n5, rfl, hn5⟩, hb5⟩
          obtain rfl := hn5.uniq (most_next 2100 (by omega))
          go_wp2_with fail
          refine (next_at (pat 169 1 2100) _ _ _ _ Q2.out (pat_oct _ _ (by omega) (by omega) _) (rb.below hb5 rfl) (by unfold maxLen; omega)).mono ?_
          rintro e w6 ⟨⟨n6, rfl, hn6⟩, hb6⟩
          obtain rfl := hn6.uniq (least_next 2100 (by omega))
          go_wp2_with (go_at_call 15; refine (cutAwake_any _).mono ?_; rintro e w7 ⟨rfl, hb7⟩)
          go_ret
          exact ⟨rfl, ch0 (ch0 (ch0 hb2 hb5) hb6) hb7⟩
theorem cutNumbers_law (w : World) : Calls Try.prog 3 #[] w fun e w' => e = .returned (.bool true) ∧ Below w.heap.size w w' := cutNumbers_any w
end Go.Proofs.Ytjcaahilgobfhaa
