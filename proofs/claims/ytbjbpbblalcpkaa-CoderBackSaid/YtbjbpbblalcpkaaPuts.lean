/- CoderPuts's walk: any bits, any chances: true; nothing that was there is written. No condition. -/
import Derived.Test.YtbjbpbblalcpkaaPutG
import Derived.Test.YtbjbpbblalcpkaaRefDec
import Derived.Test.YtbjbpbblalcpkaaBitOpen
import Derived.Test.YtbjbpbblalcpkaaGets
namespace Go.Proofs.Ytbjbpbblalcpkaa
open Go.RowKit Go.WideShapes
set_option linter.unusedVariables false
theorem encR_other {B ge gr : Nat} {x y x' y' : Int} {out out' : List Int} {v v' : Value} {w w' : World} (hE : Enc B w ge x y out v) (hR : EncR B w gr x' y' out' v') (hd : ∀ q, v.ownBlock = some q → v'.ownBlock ≠ some q) (f : Frm (own1 ge v) w w') : EncR B w' gr x' y' out' v' := by
  refine hR.frm f ?_
  rintro k (rfl | e) (e' | e')
  · exact hE.blk.ne hR.blk (by decide) e'.symm
  · exact hR.blk.apart hE.own (by decide) _ e' rfl
  · exact hE.blk.apart hR.own (by decide) k e e'
  · exact hd k e' e
theorem enc_other {B ge gr : Nat} {x y x' y' : Int} {out out' : List Int} {v v' : Value} {w w' : World} (hE : Enc B w ge x y out v) (hR : EncR B w gr x' y' out' v') (hd : ∀ q, v.ownBlock = some q → v'.ownBlock ≠ some q) (f : Frm (own1 gr v') w w') : Enc B w' ge x y out v := by
  refine hE.frm f ?_
  rintro k (rfl | e) (e' | e')
  · exact hR.blk.ne hE.blk (by decide) e'.symm
  · exact hE.blk.apart hR.own (by decide) _ e' rfl
  · exact hR.blk.apart hE.own (by decide) k e e'
  · exact hd k e e'
theorem puts_apart1 {B gr : Nat} {x y : Int} {out : List Int} {v v' v6 : Value} {w : World} (hR : EncR B w gr x y out v') (hd : ∀ q, v.ownBlock = some q → v'.ownBlock ≠ some q) (h : v6.ownBlock = v.ownBlock ∨ ∃ q, v6.ownBlock = some q ∧ w.heap.size ≤ q) : ∀ q, v6.ownBlock = some q → v'.ownBlock ≠ some q := by
  intro q hq e
  rcases h with h | ⟨q', h, hl⟩
  · exact hd q (h.symm.trans hq) e
  · have := own_lt hR.own q e
    rw [h] at hq
    injection hq with hq
    omega
theorem puts_apart2 {B ge : Nat} {x y : Int} {out : List Int} {v v' v7 : Value} {w : World} (hE : Enc B w ge x y out v) (hd : ∀ q, v.ownBlock = some q → v'.ownBlock ≠ some q) (h : v7.ownBlock = v'.ownBlock ∨ ∃ q, v7.ownBlock = some q ∧ w.heap.size ≤ q) : ∀ q, v.ownBlock = some q → v7.ownBlock ≠ some q := by
  intro q hq e
  rcases h with h | ⟨q', h, hl⟩
  · exact hd q hq (h.symm.trans e)
  · have := own_lt hE.own q hq
    rw [h] at e
    injection e with e
    omega
theorem row_apart {base n c : Nat} {A : Option Addr} {w : World} {xs : List Value} (h : w.ownsRow base 5 1 (.slice A n c) n xs) : ∀ j, j < base → ¬ ∃ o : Addr, A = some o ∧ o.block = j := by
  rintro j hj ⟨o, e, e'⟩
  subst e
  have := own_ge h o.block rfl
  omega
theorem enc_lt {B g : Nat} {x y : Int} {out : List Int} {v : Value} {w : World} (h : Enc B w g x y out v) : ∀ j, own1 g v j → j < w.heap.size := by
  rintro j (rfl | e)
  · exact h.blk.lt
  · exact own_lt h.own j e
theorem encR_lt {B g : Nat} {x y : Int} {out : List Int} {v : Value} {w : World} (h : EncR B w g x y out v) : ∀ j, own1 g v j → j < w.heap.size := by
  rintro j (rfl | e)
  · exact h.blk.lt
  · exact own_lt h.own j e
theorem EncR.below {B : Nat} {w w' : World} {g : Nat} {x y : Int} {out : List Int} {v : Value} (h : EncR B w g x y out v) (hb : Below w.heap.size w w') : EncR B w' g x y out v := h.frm (S := fun _ => False) (Frm.of_below hb) fun _ _ hh => hh
theorem wpAnyH_more {P : Program} {ops : Array Oper} {Q : Exit → Act → World → Prop} {md : Region.Mode} {S S' : World → Prop} (hs : ∀ w, S' w → S w) : ∀ {fuel : Nat} {listed : Array Bool} {a : Act} {w : World}, wpAnyH P md ops Q S' fuel listed a w → wpAnyH P md ops Q S fuel listed a w
  | 0, _, _, _, h => h
  | fuel + 1, _, _, _, h => ⟨h.1, fun i hi => wpOp_mono (fun a' w' h' => ⟨hs _ h'.1, wpAnyH_more hs h'.2⟩) (h.2 i hi)⟩
theorem wpAnyH_takeD {P : Program} {ops : Array Oper} {Q : Exit → Act → World → Prop} {md : Region.Mode} {S : World → Prop} {i d : Nat} {oi : Oper} {v : Value} {fuel : Nat} {listed : Array Bool} {a : Act} {w : World} (hi : ops[i]? = some oi) (hd : oi.dst = some d)
    (hs : Region.noSelect ops = true) (hf : Region.free md ops listed i = true) (hr : (Region.ready md ops listed).contains i = true)
    (hQ : ∀ c a w, Q (.panic c) (a.put (some d) v) w → Q (.panic c) a w) (hy : YieldsIf P ops S oi v a) (hS : S w)
    (h : wpAnyH P md ops Q S fuel (listed.setIfInBounds i true) (a.put (some d) v) w) : wpAnyH P md ops Q S (fuel + 1) listed a w :=
  wpAnyH_take hi hs hf hr (by rw [hd]; exact hQ) hy hS (by rw [hd]; exact h)
structure PutsRel (B ge gr : Nat) (w0 : World) (k : Nat) (w : World) : Prop where
  ex : ∃ x y out v v', out.length ≤ 4 * k ∧ Oct out ∧ Nrm x y ∧ Enc B w ge x y out v ∧ EncR B w gr x y out v' ∧ ∀ q, v.ownBlock = some q → v'.ownBlock ≠ some q
  low : Below w0.heap.size w0 w
set_option maxRecDepth 100000 in
set_option maxHeartbeats 8000000 in
theorem puts_any (ts : List Bt) (A : Option Addr) (n c : Nat) (w : World) (hn : n = ts.length) (hr : Rd w A (flat ts)) (hnl : n ≤ 9223372036854775807) :
    Calls Try.prog 3 #[.slice A n c] w fun e w' => e = .returned (.bool true) ∧ Below w.heap.size w w' := by
  have HN := Lib.hid hn
  have HR := Lib.hid hr
  clear hn hr
  go_enter Try.func3, Try.ntmps3
  go_wp2_with fail
  refine (newEnc_any w).mono ?_
  rintro e w1 ⟨⟨ge, rfl, ee⟩, hb1⟩
  have E1 := Lib.hid ee
  have B1 := Lib.hid hb1
  clear ee hb1
  go_wp2_with fail
  refine (begunR_any w1).mono ?_
  rintro e w2 ⟨rfl, hb2⟩
  have B2 := Lib.hid (ch0 B1.out hb2)
  have E2 := Lib.hid (E1.out.below hb2)
  clear hb2
  go_wp2_with fail
  have er : EncR w.heap.size (w2.alloc (.cells #[.int .u64 0, .int .u64 4294967295, .slice none 0 0] 32)) w2.heap.size 0 4294967295 [] (.slice none 0 0) := ⟨Blk.new _ _ _, ⟨rfl, .inl ⟨rfl, rfl⟩⟩, B2.out.size⟩
  have R3 := Lib.hid er
  have E3 := Lib.hid (E2.out.alloc (.cells #[.int .u64 0, .int .u64 4294967295, .slice none 0 0] 32))
  have B3 := Lib.hid (B2.out.alloc B2.out.size (.cells #[.int .u64 0, .int .u64 4294967295, .slice none 0 0] 32))
  clear er
  go_loopw [5] (fun i wz => ∃ j : Nat, j ≤ n ∧ j ≤ 5000 ∧ i = .int .i64 j ∧ PutsRel w.heap.size ge w2.heap.size w j wz) (fun i _ => n - (intOf i).toNat)
  case atStart => exact ⟨0, by omega, by omega, rfl, ⟨⟨0, 4294967295, [], _, _, by simp, (fun u hu => by cases hu), nrm0, E3.out, R3.out, fun q h => by cases h⟩, B3.out⟩⟩
  case round =>
    obtain ⟨j, hjn, hj5, rfl, ⟨⟨x, y, out, v, v', hol, hoc, hnr, hE, hR, hd⟩, hB⟩⟩ := hrel
    have HE := Lib.hid hE
    have HRR := Lib.hid hR
    have HD := Lib.hid hd
    have HB := Lib.hid hB
    have HNR := Lib.hid hnr
    have HOL := Lib.hid hol
    have HOC := Lib.hid hoc
    clear hoc
    clear hE hR hd hB hnr hol
    by_cases hlt : j < n ∧ j < 5000
    · obtain ⟨hln, hl5⟩ := hlt
      have gj : decide ((j : Int) < 5000) = true := by simp; omega
      obtain ⟨t, ht⟩ : ∃ t, ts[j]? = some t := ⟨_, List.getElem?_eq_getElem (by rw [← HN.out]; exact hln)⟩
      have hc0 := flat_at ts j 0 t ht (by omega)
      have hc1 := flat_at ts j 1 t ht (by omega)
      obtain ⟨b0, o0, hA, hAl, hA0⟩ := HR.out.at hc0
      obtain ⟨b1, o1, hA', _, hA1⟩ := HR.out.at hc1
      subst hA
      injection hA' with hA'
      injection hA' with e1 e2
      subst e1 e2
      obtain ⟨b, p⟩ := t
      rw [Nat.add_zero] at hA0
      rw [show b0 = b0 from rfl, ← Nat.add_assoc] at hA1
      have H0 := Lib.hid hA0
      have H1 := Lib.hid hA1
      have hx0 := (HB.out.cell (p := ⟨b0, o0 + j * 2, none⟩) hAl).trans hA0
      have hx1 := (HB.out.cell (p := ⟨b0, o0 + j * 2 + 1, none⟩) hAl).trans hA1
      clear ht hc0 hc1 hA0 hA1
      obtain ⟨cG, hcG⟩ : ∃ r, codeG b p = r := ⟨_, rfl⟩
      have hsn := stepG_nrm (b := b) (p := p) HNR.out
      have hsl := stepG_len (b := b) (p := p) HNR.out
      have hso := stepG_oct (b := b) (p := p) HNR.out
      have PE := fun W h => put_gen w.heap.size ge b x y p out v W h HNR.out (by have := HOL.out; omega)
      have PR := fun W h => putR_gen w.heap.size w2.heap.size b x y p out v' W h HNR.out (by have := HOL.out; omega)
      obtain ⟨st, hst⟩ : ∃ r, stepG b p x y = r := ⟨_, rfl⟩
      simp only [hst, hcG] at PE PR hsn hsl hso
      have HPE := Lib.hid PE
      have HPR := Lib.hid PR
      have HSN := Lib.hid hsn
      have HSL := Lib.hid hsl
      have HSO := Lib.hid hso
      clear hso
      clear PE PR hsn hsl hst hcG
      go_wp2_with fail
      refine wp_region_held_drew (S := fun w' => w'.cell? ⟨b0, o0 + j * 2, none⟩ = some (.int .i64 b) ∧ w'.cell? ⟨b0, o0 + j * 2 + 1, none⟩ = some (.int .i64 p)) (by kernel_rfl) ⟨hx0, hx1⟩ (fun hHeld => ?_)
      refine wpAnyH_takeD (i := 0) (d := 22) (oi := _) (v := ?_) rfl rfl (by kernel_rfl) (by kernel_rfl) (by kernel_rfl) (fun _ _ _ h => h) (Or.inl ⟨by rfl, ?_⟩) (by assumption) ?_
      rotate_left
      · (intro w hSw; (try dsimp only at hSw); go_simp) <;> with_reducible rfl
      simp only [Act.put, List.setIfInBounds_toArray, List.set_cons_zero, List.set_cons_succ]
      refine wpAnyH_takeD (i := 1) (d := 23) (oi := _) (v := ?_) rfl rfl (by kernel_rfl) (by kernel_rfl) (by kernel_rfl) (fun _ _ _ h => h) (Or.inl ⟨by rfl, ?_⟩) (by assumption) ?_
      rotate_left
      · (intro w hSw; (try dsimp only at hSw); go_simp) <;> with_reducible rfl
      simp only [Act.put, List.setIfInBounds_toArray, List.set_cons_zero, List.set_cons_succ]
      refine wpAnyH_takeD (i := 2) (d := 24) (oi := _) (v := ?_) rfl rfl (by kernel_rfl) (by kernel_rfl) (by kernel_rfl) (fun _ _ _ h => h) (Or.inl ⟨by rfl, ?_⟩) (by assumption) ?_
      rotate_left
      · (intro w hSw; (try dsimp only at hSw); go_simp) <;> with_reducible rfl
      simp only [Act.put, List.setIfInBounds_toArray, List.set_cons_zero, List.set_cons_succ]
      refine wpAnyH_takeD (i := 3) (d := 25) (oi := _) (v := ?_) rfl rfl (by kernel_rfl) (by kernel_rfl) (by kernel_rfl) (fun _ _ _ h => h) (Or.inl ⟨by rfl, ?_⟩) (by assumption) ?_
      rotate_left
      · (intro w hSw; (try dsimp only at hSw); go_simp) <;> with_reducible rfl
      simp only [Act.put, List.setIfInBounds_toArray, List.set_cons_zero, List.set_cons_succ]
      refine wpAnyH_takeD (i := 4) (d := 26) (oi := _) (v := ?_) rfl rfl (by kernel_rfl) (by kernel_rfl) (by kernel_rfl) (fun _ _ _ h => h) (Or.inl ⟨by rfl, ?_⟩) (by assumption) ?_
      rotate_left
      · (intro w hSw; (try dsimp only at hSw); go_simp) <;> with_reducible rfl
      simp only [Act.put, List.setIfInBounds_toArray, List.set_cons_zero, List.set_cons_succ]
      refine wpAnyH_takeD (i := 5) (d := 27) (oi := _) (v := ?_) rfl rfl (by kernel_rfl) (by kernel_rfl) (by kernel_rfl) (fun _ _ _ h => h) (Or.inl ⟨by rfl, ?_⟩) (by assumption) ?_
      rotate_left
      · (intro w hSw; (try dsimp only at hSw); go_simp) <;> with_reducible rfl
      simp only [Act.put, List.setIfInBounds_toArray, List.set_cons_zero, List.set_cons_succ]
      refine wpAnyH_takeD (i := 6) (d := 28) (oi := _) (v := ?_) rfl rfl (by kernel_rfl) (by kernel_rfl) (by kernel_rfl) (fun _ _ _ h => h) (Or.inl ⟨by rfl, ?_⟩) (by assumption) ?_
      rotate_left
      · (intro w hSw; (try dsimp only at hSw); go_simp) <;> with_reducible rfl
      simp only [Act.put, List.setIfInBounds_toArray, List.set_cons_zero, List.set_cons_succ]
      refine wpAnyH_takeD (i := 7) (d := 29) (oi := _) (v := ?_) rfl rfl (by kernel_rfl) (by kernel_rfl) (by kernel_rfl) (fun _ _ _ h => h) (Or.inl ⟨by rfl, ?_⟩) (by assumption) ?_
      rotate_left
      · (intro w hSw; (try dsimp only at hSw); go_simp) <;> with_reducible rfl
      simp only [Act.put, List.setIfInBounds_toArray, List.set_cons_zero, List.set_cons_succ]
      refine wpAnyH_takeD (i := 8) (d := 30) (oi := _) (v := ?_) rfl rfl (by kernel_rfl) (by kernel_rfl) (by kernel_rfl) (fun _ _ _ h => h) (Or.inl ⟨by rfl, ?_⟩) (by assumption) ?_
      rotate_left
      · (intro w hSw; (try dsimp only at hSw); go_simp) <;> with_reducible rfl
      simp only [Act.put, List.setIfInBounds_toArray, List.set_cons_zero, List.set_cons_succ]
      refine wpAnyH_takeD (i := 9) (d := 31) (oi := _) (v := ?_) rfl rfl (by kernel_rfl) (by kernel_rfl) (by kernel_rfl) (fun _ _ _ h => h) (Or.inl ⟨by rfl, ?_⟩) (by assumption) ?_
      rotate_left
      · (intro w hSw; (try dsimp only at hSw); go_simp) <;> with_reducible rfl
      simp only [Act.put, List.setIfInBounds_toArray, List.set_cons_zero, List.set_cons_succ]
      refine wpAnyH_takeD (i := 10) (d := 32) (oi := _) (v := ?_) rfl rfl (by kernel_rfl) (by kernel_rfl) (by kernel_rfl) (fun _ _ _ h => h) (Or.inl ⟨by rfl, ?_⟩) (by assumption) ?_
      rotate_left
      · (intro w hSw; (try dsimp only at hSw); go_simp) <;> with_reducible rfl
      simp only [Act.put, List.setIfInBounds_toArray, List.set_cons_zero, List.set_cons_succ]
      refine wpAnyH_takeD (i := 12) (d := 34) (oi := _) (v := ?_) rfl rfl (by kernel_rfl) (by kernel_rfl) (by kernel_rfl) (fun _ _ _ h => h) (Or.inl ⟨by rfl, ?_⟩) (by assumption) ?_
      rotate_left
      · (intro w hSw; (try dsimp only at hSw); go_simp) <;> with_reducible rfl
      simp only [Act.put, List.setIfInBounds_toArray, List.set_cons_zero, List.set_cons_succ]
      refine wpAnyH_takeD (i := 13) (d := 35) (oi := _) (v := ?_) rfl rfl (by kernel_rfl) (by kernel_rfl) (by kernel_rfl) (fun _ _ _ h => h) (Or.inl ⟨by rfl, ?_⟩) (by assumption) ?_
      rotate_left
      · (intro w hSw; (try dsimp only at hSw); go_simp) <;> with_reducible rfl
      simp only [Act.put, List.setIfInBounds_toArray, List.set_cons_zero, List.set_cons_succ]
      refine wpAnyH_takeD (i := 14) (d := 36) (oi := _) (v := ?_) rfl rfl (by kernel_rfl) (by kernel_rfl) (by kernel_rfl) (fun _ _ _ h => h) (Or.inl ⟨by rfl, ?_⟩) (by assumption) ?_
      rotate_left
      · (intro w hSw; (try dsimp only at hSw); go_simp) <;> with_reducible rfl
      simp only [Act.put, List.setIfInBounds_toArray, List.set_cons_zero, List.set_cons_succ]
      refine wpAnyH_takeD (i := 15) (d := 37) (oi := _) (v := ?_) rfl rfl (by kernel_rfl) (by kernel_rfl) (by kernel_rfl) (fun _ _ _ h => h) (Or.inl ⟨by rfl, ?_⟩) (by assumption) ?_
      rotate_left
      · (intro w hSw; (try dsimp only at hSw); go_simp) <;> with_reducible rfl
      simp only [Act.put, List.setIfInBounds_toArray, List.set_cons_zero, List.set_cons_succ]
      refine wpAnyH_takeD (i := 16) (d := 38) (oi := _) (v := ?_) rfl rfl (by kernel_rfl) (by kernel_rfl) (by kernel_rfl) (fun _ _ _ h => h) (Or.inl ⟨by rfl, ?_⟩) (by assumption) ?_
      rotate_left
      · (intro w hSw; (try dsimp only at hSw); go_simp) <;> with_reducible rfl
      simp only [Act.put, List.setIfInBounds_toArray, List.set_cons_zero, List.set_cons_succ]
      refine wpAnyH_takeD (i := 17) (d := 39) (oi := _) (v := ?_) rfl rfl (by kernel_rfl) (by kernel_rfl) (by kernel_rfl) (fun _ _ _ h => h) (Or.inl ⟨by rfl, ?_⟩) (by assumption) ?_
      rotate_left
      · (intro w hSw; (try dsimp only at hSw); go_simp) <;> with_reducible rfl
      simp only [Act.put, List.setIfInBounds_toArray, List.set_cons_zero, List.set_cons_succ]
      refine wpAnyH_takeD (i := 18) (d := 40) (oi := _) (v := ?_) rfl rfl (by kernel_rfl) (by kernel_rfl) (by kernel_rfl) (fun _ _ _ h => h) (Or.inl ⟨by rfl, ?_⟩) (by assumption) ?_
      rotate_left
      · (intro w hSw; (try dsimp only at hSw); go_simp) <;> with_reducible rfl
      simp only [Act.put, List.setIfInBounds_toArray, List.set_cons_zero, List.set_cons_succ]
      refine wpAnyH_takeD (i := 19) (d := 41) (oi := _) (v := ?_) rfl rfl (by kernel_rfl) (by kernel_rfl) (by kernel_rfl) (fun _ _ _ h => h) (Or.inl ⟨by rfl, ?_⟩) (by assumption) ?_
      rotate_left
      · (intro w hSw; (try dsimp only at hSw); go_simp) <;> with_reducible rfl
      simp only [Act.put, List.setIfInBounds_toArray, List.set_cons_zero, List.set_cons_succ]
      refine wpAnyH_takeD (i := 20) (d := 42) (oi := _) (v := ?_) rfl rfl (by kernel_rfl) (by kernel_rfl) (by kernel_rfl) (fun _ _ _ h => h) (Or.inl ⟨by rfl, ?_⟩) (by assumption) ?_
      rotate_left
      · (intro w hSw; (try dsimp only at hSw); go_simp) <;> with_reducible rfl
      simp only [Act.put, List.setIfInBounds_toArray, List.set_cons_zero, List.set_cons_succ]
      refine wpAnyH_takeD (i := 21) (d := 43) (oi := _) (v := ?_) rfl rfl (by kernel_rfl) (by kernel_rfl) (by kernel_rfl) (fun _ _ _ h => h) (Or.inl ⟨by rfl, ?_⟩) (by assumption) ?_
      rotate_left
      · (intro w hSw; (try dsimp only at hSw); go_simp) <;> with_reducible rfl
      simp only [Act.put, List.setIfInBounds_toArray, List.set_cons_zero, List.set_cons_succ]
      refine wpAnyH_takeD (i := 22) (d := 44) (oi := _) (v := ?_) rfl rfl (by kernel_rfl) (by kernel_rfl) (by kernel_rfl) (fun _ _ _ h => h) (Or.inl ⟨by rfl, ?_⟩) (by assumption) ?_
      rotate_left
      · (intro w hSw; (try dsimp only at hSw); go_simp) <;> with_reducible rfl
      simp only [Act.put, List.setIfInBounds_toArray, List.set_cons_zero, List.set_cons_succ]
      refine wpAnyH_ready (rs := [11]) (by kernel_rfl) (by simp) ?_
      refine AllReadyH.cons (o := _) rfl (fun K hK => ?_) AllReadyH.nil
      go_simp
      refine (HPE.out wr.drew HE.out.drew' HB.out.size).mono ?_
      rintro e w6 ⟨rfl, ⟨v6, he6, hd6⟩, hf6⟩
      have hf6' : Frm (own1 ge v) wr w6 := Frm.of_drew hf6
      have E6 := Lib.hid he6
      have D6 := Lib.hid (puts_apart1 HRR.out HD.out hd6)
      have R6 := Lib.hid (encR_other HE.out HRR.out HD.out hf6')
      have B6 := Lib.hid (HB.out.trans (hf6'.to_below HB.out.size fun k hk => HE.out.low k hk))
      have hy0 := (B6.out.cell (p := ⟨b0, o0 + j * 2, none⟩) hAl).trans H0.out
      have hy1 := (B6.out.cell (p := ⟨b0, o0 + j * 2 + 1, none⟩) hAl).trans H1.out
      clear he6 hd6 hf6 hf6'
      go_wp2_with fail
      refine hK.out _ _ ⟨hy0, hy1⟩ (fun hHeld => ?_)
      clear hK K
      try simp only [Act.put, List.setIfInBounds_toArray, List.set_cons_zero, List.set_cons_succ]
      refine wpAnyH_ready (rs := [23]) (by kernel_rfl) (by simp) ?_
      refine AllReadyH.cons (o := _) rfl (fun K hK => ?_) AllReadyH.nil
      go_simp
      refine (HPR.out _ R6.out B6.out.size).mono ?_
      rintro e w7 ⟨rfl, ⟨v7, hr7, hd7⟩, hf7⟩
      have E7 := Lib.hid (enc_other E6.out R6.out D6.out hf7)
      have R7 := Lib.hid hr7
      have D7 := Lib.hid (puts_apart2 E6.out D6.out hd7)
      have B7 := Lib.hid (B6.out.trans (hf7.to_below B6.out.size fun k hk => R6.out.low k hk))
      clear hr7 hd7 hf7
      obtain ⟨A7, c7, rfl, hc7⟩ := own_slice R7.out.own
      have k2 := R7.out.blk.cell 2
      simp at k2
      have hz0 := (B7.out.cell (p := ⟨b0, o0 + j * 2, none⟩) hAl).trans H0.out
      have hz1 := (B7.out.cell (p := ⟨b0, o0 + j * 2 + 1, none⟩) hAl).trans H1.out
      go_wp2_with fail
      refine hK.out _ _ ⟨hz0, hz1⟩ (fun _ => wpAnyH_more (S' := fun w' => (w'.cell? ⟨b0, o0 + j * 2, none⟩ = some (.int .i64 b) ∧ w'.cell? ⟨b0, o0 + j * 2 + 1, none⟩ = some (.int .i64 p)) ∧ w'.cell? ⟨w2.heap.size, 2, none⟩ = some (Value.slice A7 (out.length + st.1.length) c7)) (fun _ h => h.1) ?_)
      clear hK K
      try simp only [Act.put, List.setIfInBounds_toArray, List.set_cons_zero, List.set_cons_succ]
      have hHeld : (fun w' : World => (w'.cell? ⟨b0, o0 + j * 2, none⟩ = some (.int .i64 b) ∧ w'.cell? ⟨b0, o0 + j * 2 + 1, none⟩ = some (.int .i64 p)) ∧ w'.cell? ⟨w2.heap.size, 2, none⟩ = some (Value.slice A7 (out.length + st.1.length) c7)) w7 := ⟨⟨hz0, hz1⟩, k2⟩
      refine wpAnyH_takeD (i := 24) (d := 46) (oi := _) (v := ?_) rfl rfl (by kernel_rfl) (by kernel_rfl) (by kernel_rfl) (fun _ _ _ h => h) (Or.inl ⟨by rfl, ?_⟩) (by assumption) ?_
      rotate_left
      · (intro w hSw; (try dsimp only at hSw); go_simp) <;> with_reducible rfl
      simp only [Act.put, List.setIfInBounds_toArray, List.set_cons_zero, List.set_cons_succ]
      refine wpAnyH_takeD (i := 25) (d := 47) (oi := _) (v := ?_) rfl rfl (by kernel_rfl) (by kernel_rfl) (by kernel_rfl) (fun _ _ _ h => h) (Or.inl ⟨by rfl, ?_⟩) (by assumption) ?_
      rotate_left
      · (intro w hSw; (try dsimp only at hSw); go_simp) <;> with_reducible rfl
      simp only [Act.put, List.setIfInBounds_toArray, List.set_cons_zero, List.set_cons_succ]
      refine wpAnyH_takeD (i := 26) (d := 48) (oi := _) (v := ?_) rfl rfl (by kernel_rfl) (by kernel_rfl) (by kernel_rfl) (fun _ _ _ h => h) (Or.inl ⟨by rfl, ?_⟩) (by assumption) ?_
      rotate_left
      · (intro w hSw; (try dsimp only at hSw); go_simp) <;> with_reducible rfl
      simp only [Act.put, List.setIfInBounds_toArray, List.set_cons_zero, List.set_cons_succ]
      refine wpAnyH_takeD (i := 28) (d := 50) (oi := _) (v := ?_) rfl rfl (by kernel_rfl) (by kernel_rfl) (by kernel_rfl) (fun _ _ _ h => h) (Or.inl ⟨by rfl, ?_⟩) (by assumption) ?_
      rotate_left
      · (intro w hSw; (try dsimp only at hSw); go_simp) <;> with_reducible rfl
      simp only [Act.put, List.setIfInBounds_toArray, List.set_cons_zero, List.set_cons_succ]
      refine wpAnyH_takeD (i := 29) (d := 51) (oi := _) (v := ?_) rfl rfl (by kernel_rfl) (by kernel_rfl) (by kernel_rfl) (fun _ _ _ h => h) (Or.inl ⟨by rfl, ?_⟩) (by assumption) ?_
      rotate_left
      · (intro w hSw; (try dsimp only at hSw); go_simp) <;> with_reducible rfl
      simp only [Act.put, List.setIfInBounds_toArray, List.set_cons_zero, List.set_cons_succ]
      refine wpAnyH_takeD (i := 30) (d := 52) (oi := _) (v := ?_) rfl rfl (by kernel_rfl) (by kernel_rfl) (by kernel_rfl) (fun _ _ _ h => h) (Or.inl ⟨by rfl, ?_⟩) (by assumption) ?_
      rotate_left
      · (intro w hSw; (try dsimp only at hSw); go_simp) <;> with_reducible rfl
      simp only [Act.put, List.setIfInBounds_toArray, List.set_cons_zero, List.set_cons_succ]
      refine wpAnyH_takeD (i := 31) (d := 53) (oi := _) (v := ?_) rfl rfl (by kernel_rfl) (by kernel_rfl) (by kernel_rfl) (fun _ _ _ h => h) (Or.inl ⟨by rfl, ?_⟩) (by assumption) ?_
      rotate_left
      · (intro w hSw; (try dsimp only at hSw); go_simp) <;> with_reducible rfl
      simp only [Act.put, List.setIfInBounds_toArray, List.set_cons_zero, List.set_cons_succ]
      refine wpAnyH_takeD (i := 32) (d := 54) (oi := _) (v := ?_) rfl rfl (by kernel_rfl) (by kernel_rfl) (by kernel_rfl) (fun _ _ _ h => h) (Or.inl ⟨by rfl, ?_⟩) (by assumption) ?_
      rotate_left
      · (intro w hSw; (try dsimp only at hSw); go_simp) <;> with_reducible rfl
      simp only [Act.put, List.setIfInBounds_toArray, List.set_cons_zero, List.set_cons_succ]
      refine wpAnyH_ready (rs := [27]) (by kernel_rfl) (by simp) ?_
      refine AllReadyH.cons (o := _) rfl (fun K hK => ?_) AllReadyH.nil
      go_simp
      refine (len_any w.heap.size ge _ _ _ _ _ E7.out).mono ?_
      rintro e w8 ⟨rfl, rfl⟩
      go_wp2_with fail
      refine hK.out _ _ hHeld (fun hHeld => ?_)
      clear hK K
      try simp only [Act.put, List.setIfInBounds_toArray, List.set_cons_zero, List.set_cons_succ]
      refine wpAnyH_takeD (i := 33) (d := 55) (oi := _) (v := ?_) rfl rfl (by kernel_rfl) (by kernel_rfl) (by kernel_rfl) (fun _ _ _ h => h) (Or.inl ⟨by rfl, ?_⟩) (by assumption) ?_
      rotate_left
      · (intro w hSw; (try dsimp only at hSw); go_simp) <;> with_reducible rfl
      simp only [Act.put, List.setIfInBounds_toArray, List.set_cons_zero, List.set_cons_succ]
      refine wpAnyH_takeD (i := 34) (d := 56) (oi := _) (v := ?_) rfl rfl (by kernel_rfl) (by kernel_rfl) (by kernel_rfl) (fun _ _ _ h => h) (Or.inl ⟨by rfl, ?_⟩) (by assumption) ?_
      rotate_left
      · (intro w hSw; (try dsimp only at hSw); go_simp) <;> with_reducible rfl
      simp only [Act.put, List.setIfInBounds_toArray, List.set_cons_zero, List.set_cons_succ]
      refine wpAnyH_done (by kernel_rfl) ?_ _
      clear hz0 hz1 hy0 hy1 hx0 hx1 k2
      have HOL7 : Hid ((out ++ st.1).length ≤ 4 * (j + 1)) := by
        show (out ++ st.1).length ≤ 4 * (j + 1)
        rw [List.length_append]; have := HOL.out; have := HSL.out; omega
      have HOC7 := Lib.hid (HOC.out.append HSO.out)
      generalize hov : out ++ st.1 = out7 at *
      clear hov
      by_cases hm : j % 100 = 0
      · have gm : ((j : Int) % 100 == 0) = true := by simp; omega
        clear hm
        have hxs : (out7 ++ four st.2.1).length ≤ 100000 := by rw [List.length_append]; have := HOL7.out; show _ + 4 ≤ _; omega
        have HXO := Lib.hid (HOC7.out.append (four_oct' HSN.out.x0 (by have := HSN.out.xy; have := HSN.out.y1; omega)))
        have HEND := Lib.hid (fun W h => end_any w.heap.size ge st.2.1 st.2.2 out7 v6 W h HSN.out.toIvl (by have := HOL7.out; omega))
        have HENDR := Lib.hid (fun W h => endR_any w.heap.size w2.heap.size st.2.1 st.2.2 out7 (Value.slice A7 out7.length c7) W h HSN.out.toIvl (by have := HOL7.out; omega))
        generalize out7 ++ four st.2.1 = xs at *
        go_wp2_with fail
        refine (HEND.out _ E7.out).mono ?_
        rintro e w8 ⟨⟨A8, c8, rfl, hc8, o8⟩, hb8⟩
        have E8 := Lib.hid (E7.out.below hb8)
        have R8 := Lib.hid (R7.out.below hb8)
        have O8 := Lib.hid o8
        have B8 := Lib.hid (ch0 B7.out hb8)
        have hs8 := hb8.size
        clear o8 hb8
        go_wp2_with fail
        refine (HENDR.out _ R8.out).mono ?_
        rintro e w9 ⟨⟨A9, c9, rfl, hc9, o9⟩, hb9⟩
        have E9 := Lib.hid (E8.out.below hb9)
        have R9 := Lib.hid (R8.out.below hb9)
        have O9 := Lib.hid (own_below O8.out hb9)
        have O9' := Lib.hid o9
        have B9 := Lib.hid (ch0 B8.out hb9)
        have hs9 := hb9.size
        clear o9 hb9
        go_wp2_with fail
        refine (sameB1 xs A8 A9 c8 c9 w9 (rd_own O9.out) (rd_own O9'.out) (by omega)).mono ?_
        rintro e w10 ⟨rfl, hb10⟩
        have E10 := Lib.hid (E9.out.below hb10)
        have R10 := Lib.hid (R9.out.below hb10)
        have O10 := Lib.hid (own_below O9.out hb10)
        have B10 := Lib.hid (ch0 B9.out hb10)
        clear hb10
        go_wp2_with fail
        go_loopw [69] (fun i wz => ∃ k : Nat, k ≤ xs.length ∧ i = .int .i64 k ∧ InRel A8 xs.length w10 wz) (fun i _ => xs.length - (intOf i).toNat)
        case atStart => exact ⟨0, by omega, rfl, inRel_of O10.out HXO.out⟩
        case round =>
          obtain ⟨k, hk, rfl, hi⟩ := hrel
          by_cases hkn : k < xs.length
          · rcases hi.ex with h0 | ⟨g, cur, rfl, hb, hc⟩
            · omega
            · obtain ⟨z, z0, z1, hz⟩ := hc k hkn
              have c0 := (hb.cell k).trans hz
              have f0 := hb.frozen k
              have HI := Lib.hid hi
              clear hi hb hc hz
              go_wp2
              go_roundw
              case rel => exact ⟨k + 1, by omega, by go_num, inRel_set HI.out (by omega) (by omega)⟩
              case measure => simp [intOf]; omega
          · have hke : k = xs.length := by omega
            subst hke
            have E11 := Lib.hid (E10.out.frm hi.frm fun j hj => row_apart O10.out j (enc_lt E7.out j hj))
            have R11 := Lib.hid (R10.out.frm hi.frm fun j hj => row_apart O10.out j (encR_lt R7.out j hj))
            have B11 := Lib.hid (B10.out.trans (hi.frm.to_below B10.out.size fun j ⟨o, e, e'⟩ => by subst e; rw [← e']; exact Nat.le_trans B7.out.size (own_ge O10.out o.block rfl)))
            clear hi
            go_wp2_with fail
            go_roundw
            case rel => exact ⟨j + 1, by omega, by omega, by go_num, ⟨⟨_, _, _, _, _, HOL7.out, HOC7.out, HSN.out, E11.out, R11.out, D7.out⟩, B11.out⟩⟩
            case measure => simp [intOf]; omega
      · have gm : ((j : Int) % 100 == 0) = false := by simp; omega
        clear hm
        go_wp2_with fail
        go_roundw
        case rel => exact ⟨j + 1, by omega, by omega, by go_num, ⟨⟨_, _, _, _, _, HOL7.out, HOC7.out, HSN.out, E7.out, R7.out, D7.out⟩, B7.out⟩⟩
        case measure => simp [intOf]; omega
    · have hxs : (out ++ four x).length ≤ 100000 := by rw [List.length_append]; have := HOL.out; show _ + 4 ≤ _; omega
      have HEND := Lib.hid (fun W h => end_any w.heap.size ge x y out v W h HNR.out.toIvl (by have := HOL.out; omega))
      have HENDR := Lib.hid (fun W h => endR_any w.heap.size w2.heap.size x y out v' W h HNR.out.toIvl (by have := HOL.out; omega))
      generalize out ++ four x = xs at *
      rcases Nat.lt_or_ge j n with hlm | hlm
      · have gj : decide ((j : Int) < 5000) = false := by simp; omega
        clear hlt
        go_wp2_with fail
        refine (HEND.out _ HE.out).mono ?_
        rintro e w8 ⟨⟨A8, c8, rfl, hc8, o8⟩, hb8⟩
        have R8 := Lib.hid (HRR.out.below hb8)
        have O8 := Lib.hid o8
        have B8 := Lib.hid (ch0 HB.out hb8)
        clear o8 hb8
        go_wp2_with fail
        refine (HENDR.out _ R8.out).mono ?_
        rintro e w9 ⟨⟨A9, c9, rfl, hc9, o9⟩, hb9⟩
        have O9 := Lib.hid (own_below O8.out hb9)
        have O9' := Lib.hid o9
        have B9 := Lib.hid (ch0 B8.out hb9)
        clear o9 hb9
        go_wp2_with fail
        refine (sameB1 xs A8 A9 c8 c9 w9 (rd_own O9.out) (rd_own O9'.out) (by omega)).mono ?_
        rintro e w10 ⟨rfl, hb10⟩
        have B10 := Lib.hid (ch0 B9.out hb10)
        clear hb10
        go_wp2_with (go_at_call 16; refine (awake_any _).mono ?_; rintro e w11 ⟨rfl, hb11⟩)
        go_ret
        exact ⟨rfl, ch0 B10.out hb11⟩
      · have hjn2 : j = n := by omega
        subst hjn2
        clear hlt
        go_wp2_with fail
        refine (HEND.out _ HE.out).mono ?_
        rintro e w8 ⟨⟨A8, c8, rfl, hc8, o8⟩, hb8⟩
        have R8 := Lib.hid (HRR.out.below hb8)
        have O8 := Lib.hid o8
        have B8 := Lib.hid (ch0 HB.out hb8)
        clear o8 hb8
        go_wp2_with fail
        refine (HENDR.out _ R8.out).mono ?_
        rintro e w9 ⟨⟨A9, c9, rfl, hc9, o9⟩, hb9⟩
        have O9 := Lib.hid (own_below O8.out hb9)
        have O9' := Lib.hid o9
        have B9 := Lib.hid (ch0 B8.out hb9)
        clear o9 hb9
        go_wp2_with fail
        refine (sameB1 xs A8 A9 c8 c9 w9 (rd_own O9.out) (rd_own O9'.out) (by omega)).mono ?_
        rintro e w10 ⟨rfl, hb10⟩
        have B10 := Lib.hid (ch0 B9.out hb10)
        clear hb10
        go_wp2_with (go_at_call 16; refine (awake_any _).mono ?_; rintro e w11 ⟨rfl, hb11⟩)
        go_ret
        exact ⟨rfl, ch0 B10.out hb11⟩
theorem puts_law {H : Type} {enc : TypeId × Value → H} {base : Nat} {d : DataW H} {ps : List MemPlace} (v : Value) (w : World) (hv : Value.okWide Try.prog w .any base 22 v) (hk : DataW.Trod enc Try.prog w 0 (fun _ => true) true 22 v d ps) :
    Calls Try.prog 3 #[v] w fun e w' => e = .returned (.bool true) ∧ Below w.heap.size w w' := by
  obtain ⟨ts, A, c, rfl, _, hr, hc, hm⟩ := open_bits hv hk
  exact puts_any ts A _ c w rfl hr (by unfold maxLen at *; omega)
end Go.Proofs.Ytbjbpbblalcpkaa
