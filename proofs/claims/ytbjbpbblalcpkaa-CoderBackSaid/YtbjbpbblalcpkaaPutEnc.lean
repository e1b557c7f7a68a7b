/- The encoder's Put: walks. -/
import Derived.Test.YtbjbpbblalcpkaaTakePut
namespace Go.Proofs.Ytbjbpbblalcpkaa
open Go.RowKit Go.WideShapes
set_option linter.unusedVariables false
structure PutOk (B g : Nat) (x y : Int) (out : List Int) (v : Value) (w0 : World) (e : Ending) (w : World) : Prop where
  ret : e = .returned (.int .i64 0)
  ex : ∃ v', Enc B w g x y out v' ∧ (v'.ownBlock = v.ownBlock ∨ ∃ q, v'.ownBlock = some q ∧ w0.heap.size ≤ q)
  frm : Frm (own1 g v) w0 w
theorem chance_any (p : Int) (w : World) : Calls Try.prog 26 #[.int .i64 p] w fun e w' => e = .returned (.bool (decide (1 ≤ p) && decide (p ≤ 65535))) ∧ w = w' := by
  by_cases h1 : 1 ≤ p
  · by_cases h2 : p ≤ 65535
    all_goals
      go_enter Try.func26, Try.ntmps26
      go_wp2
      go_ret
      exact ⟨by simp [h1, h2], rfl⟩
  · go_enter Try.func26, Try.ntmps26
    go_wp2
    go_ret
    exact ⟨by simp; omega, rfl⟩
theorem chance_yes (p : Int) (w : World) (p0 : 1 ≤ p) (p1 : p ≤ 65535) : Calls Try.prog 26 #[.int .i64 p] w fun e w' => e = .returned (.bool true) ∧ w = w' := by
  have h := chance_any p w
  rwa [show (decide (1 ≤ p) && decide (p ≤ 65535)) = true by simp; omega] at h
theorem chance_no (p : Int) (w : World) (p0 : p < 1 ∨ 65535 < p) : Calls Try.prog 26 #[.int .i64 p] w fun e w' => e = .returned (.bool false) ∧ w = w' := by
  have h := chance_any p w
  rwa [show (decide (1 ≤ p) && decide (p ≤ 65535)) = false by rw [Bool.and_eq_false_iff]; simp; omega] at h
theorem Enc.drew' {B : Nat} {w : World} {g : Nat} {x y : Int} {out : List Int} {v : Value} (h : Enc B w g x y out v) : Enc B w.drew g x y out v := h.drewN 1
theorem nbox {B : Nat} {w : World} {g bx : Nat} {x y : Int} {out : List Int} {v p : Value} (hx : Blk w bx 23 #[p]) (h : Enc B w g x y out v) : ¬ own1 g v bx := by
  rintro (e | e)
  · exact hx.ne h.blk (by decide) e
  · exact hx.apart h.own (by decide) bx e rfl
theorem Frm.of_drew' {S : Nat → Prop} {a w : World} {n : Nat} (h : Frm S (a.drewN n) w) : Frm S a w := ⟨h.os, h.tape, h.output, h.size, h.block⟩
theorem put_close {B g : Nat} {X Y : Int} {out : List Int} {v v5 : Value} {w wa w5 : World} {r : List Int × Int × Int} (hr : norm X Y = r) (he5 : Enc B w5 g (norm X Y).2.1 (norm X Y).2.2 (out ++ (norm X Y).1) v5)
    (hd5 : v5.ownBlock = v.ownBlock ∨ ∃ q, v5.ownBlock = some q ∧ wa.heap.size ≤ q) (hgs : w.heap.size ≤ wa.heap.size) (hfa : Frm (own1 g v) w wa) (hf5 : Frm (own1 g v) wa w5) :
    PutOk B g r.2.1 r.2.2 (out ++ r.1) v w (.returned (.int .i64 0)) w5 := by
  subst hr
  exact ⟨rfl, ⟨v5, he5, hd5.imp id fun ⟨q, h, hq⟩ => ⟨q, h, by omega⟩⟩, hfa.trans hf5 fun _ _ h => h⟩
set_option maxRecDepth 100000 in
set_option maxHeartbeats 4000000 in
theorem put_one (B g : Nat) (x y p : Int) (out : List Int) (v : Value) (w : World) (he : Enc B w g x y out v) (hn : Nrm x y) (hl : out.length < 65536) (hB : B ≤ w.heap.size) (p0 : 1 ≤ p) (p1 : p ≤ 65535) :
    Calls Try.prog 10 #[.pointer (some ⟨g, 0, none⟩), .int .i64 1, .int .i64 p] w (PutOk B g (step 1 p x y).2.1 (step 1 p x y).2.2 (out ++ (step 1 p x y).1) v w) := by
  obtain ⟨A, c, rfl, hc⟩ := own_slice he.own
  have hi : Ivl x (mid x y p) := by have := cut_ivl (b := 1) hn p0 p1; simpa [cutX, cutY] using this
  have hst : norm x (mid x y p) = step 1 p x y := by simp [step, cutX, cutY]
  have HST := Lib.hid hst
  clear hst
  have c2 := (he.blk.alloc (.cells #[.pointer (some ⟨g, 0, none⟩)] 23)).cell 2
  have c3 := (he.blk.alloc (.cells #[.pointer (some ⟨g, 0, none⟩)] 23)).cell 3
  simp at c2 c3
  have HX := Lib.hid (Blk.new w 23 #[.pointer (some ⟨g, 0, none⟩)])
  have hea : Enc B (w.alloc (.cells #[.pointer (some ⟨g, 0, none⟩)] 23)) g x y out (.slice A out.length c) := ⟨he.blk.alloc _, he.own.alloc _, he.ge⟩
  have HEA := Lib.hid hea
  have HI := Lib.hid hi
  have HN := Lib.hid hn
  clear he hea hi hn
  have gl : (out.length : Int) < 65536 := by omega
  have gd : decide ((65536 : Int) ≤ (out.length : Int)) = false := by simp; omega
  have HGL := Lib.hid gl
  clear gl
  have HL := Lib.hid hl
  clear hl
  go_enter Try.func10, Try.ntmps10
  go_wp2_with fail
  refine (chance_yes p _ p0 p1).mono ?_
  rintro e w1 ⟨rfl, rfl⟩
  go_wp2_with fail
  have hmf : ∀ (fn : Fn) (first cap : Array Value) (w : World), (Instr.makeFunc fn first cap).run Try.prog w = .ok (.func fn first cap) w := fun _ _ _ _ => rfl
  have hsz : B ≤ (w.alloc (.cells #[.pointer (some ⟨g, 0, none⟩)] 23)).heap.size := by rw [World.size_alloc]; omega
  have hfa : Frm (own1 g (.slice A out.length c)) w (w.alloc (.cells #[.pointer (some ⟨g, 0, none⟩)] 23)) := (Frm.refl _ w).alloc _
  have hgs : w.heap.size ≤ (w.alloc (.cells #[.pointer (some ⟨g, 0, none⟩)] 23)).heap.size := by rw [World.size_alloc]; omega
  obtain ⟨wa, hwa⟩ : ∃ x, x = w.alloc (.cells #[.pointer (some ⟨g, 0, none⟩)] 23) := ⟨_, rfl⟩
  rw [← hwa] at HX HEA hsz hfa hgs ⊢
  clear hwa
  have c0 := HX.out.cell 0
  simp at c0
  have HFA := Lib.hid hfa
  clear c2 c3 hfa
  have hkx : ∀ w5 : World, Frm (own1 g (.slice A out.length c)) wa w5 → w5.cell? ⟨w.heap.size, 0, none⟩ = some (.pointer (some ⟨g, 0, none⟩)) := fun w5 hf => by
    have := (HX.out.frm hf (nbox HX.out HEA.out)).cell 0
    simpa using this
  have HKX := Lib.hid hkx
  have HSZ : Hid (∀ n, B ≤ (wa.drewN n).heap.size) := fun n => hsz
  clear hkx
  go_region_held3 (fun w' => w'.cell? ⟨w.heap.size, 0, none⟩ = some (.pointer (some ⟨g, 0, none⟩))) (first | exact c0 | exact HKX.out _ (by assumption))
    (first
      | (go_at_call 28; ((with_reducible refine (middle_any g x y p 58 _ _ (HEA.out.blk.drew) rfl rfl HN.out p0 p1).mono ?_)); rintro e w4 ⟨rfl, nq, rfl⟩)
      | (go_at_call 27; ((with_reducible refine (take_one B g w.heap.size x y (mid x y p) out _ _ (HEA.out.drewN _) (HX.out.drewN _) (by have := HL.out; omega) (HSZ.out _) HI.out).mono ?_)); rintro e w5 ⟨rfl, ⟨v5, he5, hd5⟩, hf5'⟩; have hf5 := Frm.of_drew' (a := wa) hf5'; clear hf5'))
  all_goals
    go_wp2
    go_ret
    exact put_close (wa := wa) HST.out he5 hd5 hgs HFA.out hf5
set_option maxRecDepth 100000 in
set_option maxHeartbeats 4000000 in
theorem put_zero (B g : Nat) (x y p : Int) (out : List Int) (v : Value) (w : World) (he : Enc B w g x y out v) (hn : Nrm x y) (hl : out.length < 65536) (hB : B ≤ w.heap.size) (p0 : 1 ≤ p) (p1 : p ≤ 65535) :
    Calls Try.prog 10 #[.pointer (some ⟨g, 0, none⟩), .int .i64 0, .int .i64 p] w (PutOk B g (step 0 p x y).2.1 (step 0 p x y).2.2 (out ++ (step 0 p x y).1) v w) := by
  obtain ⟨A, c, rfl, hc⟩ := own_slice he.own
  have hi : Ivl (mid x y p + 1) y := by have := cut_ivl (b := 0) hn p0 p1; simpa [cutX, cutY] using this
  have hxy : x < y := by have := hn.df; have := hn.xy; omega
  have hmi := mid_in hn.x0 hxy p0 p1
  have hm0 : 0 ≤ mid x y p := by have := hn.x0; omega
  have hm1 : mid x y p + 1 ≤ 4294967295 := by have := hn.y1; omega
  clear hxy hmi
  have hst : norm (mid x y p + 1) y = step 0 p x y := by simp [step, cutX, cutY]
  have HST := Lib.hid hst
  clear hst
  have c2 := (he.blk.alloc (.cells #[.pointer (some ⟨g, 0, none⟩)] 23)).cell 2
  have c3 := (he.blk.alloc (.cells #[.pointer (some ⟨g, 0, none⟩)] 23)).cell 3
  simp at c2 c3
  have HX := Lib.hid (Blk.new w 23 #[.pointer (some ⟨g, 0, none⟩)])
  have hea : Enc B (w.alloc (.cells #[.pointer (some ⟨g, 0, none⟩)] 23)) g x y out (.slice A out.length c) := ⟨he.blk.alloc _, he.own.alloc _, he.ge⟩
  have HEA := Lib.hid hea
  have HI := Lib.hid hi
  have HN := Lib.hid hn
  clear he hea hi hn
  have gl : (out.length : Int) < 65536 := by omega
  have gd : decide ((65536 : Int) ≤ (out.length : Int)) = false := by simp; omega
  have HGL := Lib.hid gl
  clear gl
  have HL := Lib.hid hl
  clear hl
  go_enter Try.func10, Try.ntmps10
  go_wp2_with fail
  refine (chance_yes p _ p0 p1).mono ?_
  rintro e w1 ⟨rfl, rfl⟩
  go_wp2_with fail
  have hmf : ∀ (fn : Fn) (first cap : Array Value) (w : World), (Instr.makeFunc fn first cap).run Try.prog w = .ok (.func fn first cap) w := fun _ _ _ _ => rfl
  have hsz : B ≤ (w.alloc (.cells #[.pointer (some ⟨g, 0, none⟩)] 23)).heap.size := by rw [World.size_alloc]; omega
  have hfa : Frm (own1 g (.slice A out.length c)) w (w.alloc (.cells #[.pointer (some ⟨g, 0, none⟩)] 23)) := (Frm.refl _ w).alloc _
  have hgs : w.heap.size ≤ (w.alloc (.cells #[.pointer (some ⟨g, 0, none⟩)] 23)).heap.size := by rw [World.size_alloc]; omega
  obtain ⟨wa, hwa⟩ : ∃ x, x = w.alloc (.cells #[.pointer (some ⟨g, 0, none⟩)] 23) := ⟨_, rfl⟩
  rw [← hwa] at HX HEA hsz hfa hgs ⊢
  clear hwa
  have c0 := HX.out.cell 0
  simp at c0
  have HFA := Lib.hid hfa
  clear c2 c3 hfa
  have hkx : ∀ w5 : World, Frm (own1 g (.slice A out.length c)) wa w5 → w5.cell? ⟨w.heap.size, 0, none⟩ = some (.pointer (some ⟨g, 0, none⟩)) := fun w5 hf => by
    have := (HX.out.frm hf (nbox HX.out HEA.out)).cell 0
    simpa using this
  have HKX := Lib.hid hkx
  have HSZ : Hid (∀ n, B ≤ (wa.drewN n).heap.size) := fun n => hsz
  clear hkx
  go_region_held3 (fun w' => w'.cell? ⟨w.heap.size, 0, none⟩ = some (.pointer (some ⟨g, 0, none⟩))) (first | exact c0 | exact HKX.out _ (by assumption))
    (first
      | (go_at_call 28; ((with_reducible refine (middle_any g x y p 58 _ _ (HEA.out.blk.drew) rfl rfl HN.out p0 p1).mono ?_)); rintro e w4 ⟨rfl, nq, rfl⟩)
      | (go_at_call 27; ((with_reducible refine (take_zero B g w.heap.size x y (mid x y p) out _ _ (HEA.out.drewN _) (HX.out.drewN _) (by have := HL.out; omega) (HSZ.out _) HI.out hm0 hm1).mono ?_)); rintro e w5 ⟨rfl, ⟨v5, he5, hd5⟩, hf5'⟩; have hf5 := Frm.of_drew' (a := wa) hf5'; clear hf5'))
  all_goals
    go_wp2
    go_ret
    exact put_close (wa := wa) HST.out he5 hd5 hgs HFA.out hf5
theorem put_ok (B g : Nat) (b x y p : Int) (out : List Int) (v : Value) (w : World) (he : Enc B w g x y out v) (hn : Nrm x y) (hl : out.length < 65536) (hB : B ≤ w.heap.size) (hb : b = 0 ∨ b = 1) (p0 : 1 ≤ p) (p1 : p ≤ 65535) :
    Calls Try.prog 10 #[.pointer (some ⟨g, 0, none⟩), .int .i64 b, .int .i64 p] w (PutOk B g (step b p x y).2.1 (step b p x y).2.2 (out ++ (step b p x y).1) v w) := by
  rcases hb with rfl | rfl
  · exact put_zero B g x y p out v w he hn hl hB p0 p1
  · exact put_one B g x y p out v w he hn hl hB p0 p1
/-- What is refused: the world stays, but for new blocks. -/
structure PutNo (n : Int) (w0 : World) (e : Ending) (w : World) : Prop where
  ret : e = .returned (.int .i64 n)
  low : Below w0.heap.size w0 w
set_option maxHeartbeats 2000000 in
theorem put_nil (b p : Int) (w : World) : Calls Try.prog 10 #[.pointer none, .int .i64 b, .int .i64 p] w (PutNo 1 w) := by
  go_enter Try.func10, Try.ntmps10
  go_wp2
  go_ret
  exact ⟨rfl, (Below.refl _ _).alloc (Nat.le_refl _) _⟩
set_option maxHeartbeats 2000000 in
theorem put_arg (B g : Nat) (b x y p : Int) (out : List Int) (v : Value) (w : World) (he : Enc B w g x y out v) (h : (b ≠ 0 ∧ b ≠ 1) ∨ p < 1 ∨ 65535 < p) :
    Calls Try.prog 10 #[.pointer (some ⟨g, 0, none⟩), .int .i64 b, .int .i64 p] w (PutNo 2 w) := by
  have c2 := (he.blk.alloc (.cells #[.pointer (some ⟨g, 0, none⟩)] 23)).cell 2
  simp at c2
  clear he
  by_cases hb : b ≠ 0 ∧ b ≠ 1
  · have g0 : (b != 0) = true := by simp [hb.1]
    have g1 : (b != 1) = true := by simp [hb.2]
    clear h hb
    go_enter Try.func10, Try.ntmps10
    go_wp2_with (go_at_call 26; refine (chance_any p _).mono ?_; rintro e w1 ⟨rfl, rfl⟩)
    go_ret
    exact ⟨rfl, (Below.refl _ _).alloc (Nat.le_refl _) _⟩
  · have hp : p < 1 ∨ 65535 < p := by omega
    have HP := Lib.hid hp
    rcases (show b = 0 ∨ b = 1 from by omega) with rfl | rfl
    all_goals
      clear h hb hp
      go_enter Try.func10, Try.ntmps10
      go_wp2_with (go_at_call 26; refine (chance_no p _ HP.out).mono ?_; rintro e w1 ⟨rfl, rfl⟩)
      go_ret
      exact ⟨rfl, (Below.refl _ _).alloc (Nat.le_refl _) _⟩
end Go.Proofs.Ytbjbpbblalcpkaa
