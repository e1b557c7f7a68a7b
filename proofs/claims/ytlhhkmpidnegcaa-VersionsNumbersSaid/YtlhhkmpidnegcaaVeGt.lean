/- GetEntry (fn 29) of one file with two fragments and too few, or too many, bytes: the walk. Condition: at most three bytes, or more, behind the first fragment. -/
import Derived.Test.YtlhhkmpidnegcaaVeGs
namespace Go.Proofs.Ytlhhkmpidnegcaa
open Go.RowKit Go.WideShapes
set_option linter.unusedVariables false
set_option linter.unusedSimpArgs false
theorem str97 (w : World) (A : Option Addr) (c : Nat) (hr : Rd w A (octs [97])) : (convert 58 9 (.slice A 1 c)).run Try.prog w = .ok (.string ⟨#[97]⟩) w :=
  run_str (bs := [97]) Try.underlying58 Try.underlying5 Try.underlying9 w A 1 c rfl hr
/-- What stands behind the file's name: the file in a block of its own. -/
def boxA (g : Nat) (v : Value) (w : World) : Prop := Blk w g 41 #[.string ⟨#[97]⟩, v]
theorem boxA_set {g : Nat} {w : World} (h : Blk w g 41 #[.string ⟨#[]⟩, .slice none 0 0]) : boxA g (.slice none 0 0) ((w.setCell ⟨g, 0, none⟩ (.string ⟨#[97]⟩)).setCell ⟨g, 1, none⟩ (.slice none 0 0)) := by
  have := (h.set 0 (.string ⟨#[97]⟩)).set 1 (.slice none 0 0)
  unfold boxA
  simpa using this
theorem GS.set2 {B g : Nat} {w0 w : World} {l : List Int} {bad : Bool} {e : Value} (h : GS B w0 w l bad e) (hg : B + 4 ≤ g) (u v : Value) : GS B w0 ((w.setCell ⟨g, 0, none⟩ u).setCell ⟨g, 1, none⟩ v) l bad e :=
  h.far (((Frm.refl (fun k => k = g) w).setCell (p := ⟨g, 0, none⟩) (fun _ => rfl) u).setCell (p := ⟨g, 1, none⟩) (fun _ => rfl) v) (by rintro k rfl; exact hg)
/-- The inner loop behind j rounds: the file's box in block g. -/
structure InV (rest : List Int) (g B : Nat) (w0 w : World) (j : Nat) : Prop where
  ex : ∃ A c, boxA g (.slice A j c) w ∧ w.ownsRow (B + 4) 3 1 (.slice A j c) j (ints (sF rest j))
  st : GS B w0 w (sL rest j) (sB rest j) (.slice none 0 0)
theorem boxA.frm {g : Nat} {v : Value} {S : Nat → Prop} {w w' : World} (h : boxA g v w) (hf : Frm S w w') (hn : ¬ S g) : boxA g v w' := Blk.frm h hf hn
theorem boxA.c1 {g : Nat} {v : Value} {w : World} (h : boxA g v w) : w.cell? ⟨g, 1, none⟩ = some v := by
  have := Blk.cell h 1
  simpa using this
theorem boxA.z1 {g : Nat} {v : Value} {w : World} (h : boxA g v w) : w.frozen? ⟨g, 1, none⟩ = false := Blk.frozen h 1
theorem GS.setE {B : Nat} {w0 w : World} {l : List Int} {bad : Bool} {e : Value} (h : GS B w0 w l bad e) (v : Value) : GS B w0 (w.setCell ⟨B + 3, 1, none⟩ v) l bad v := by
  have hf : Frm (fun k => k = B + 3) w (w.setCell ⟨B + 3, 1, none⟩ v) := (Frm.refl (fun k => k = B + 3) w).setCell (p := ⟨B + 3, 1, none⟩) (fun _ => rfl) v
  have hs := h.k3.set 1 v
  simp only [List.setIfInBounds_toArray, List.set_cons_zero, List.set_cons_succ] at hs
  exact ⟨h.r.frm hf (fun k hk => by omega), h.k0.frm hf (by omega), h.k2.frm hf (by omega), hs, h.low.trans (hf.to_below (by have := h.k3.lt; omega) (fun k hk => by omega))⟩
/-- What the outer loop leaves behind. -/
structure DoneE (rest : List Int) (w0 w : World) : Prop where
  ex : ∃ Af cf f l bad, GS w0.heap.size w0 w l bad (.slice Af 1 cf) ∧ OwnF (w0.heap.size + 4) w (.slice Af 1 cf) [f] ∧ f.nm = ⟨#[97]⟩ ∧ (bad = true ∨ 0 < l.length)
theorem done18 {rest : List Int} {g B : Nat} {w0 w w9 : World} {Aj : Option Addr} {cj : Nat} {v5 : Value} (hB : B = w0.heap.size) (hg : GS B w0 w (sL rest 2) (sB rest 2) (.slice none 0 0)) (ho : w.ownsRow (B + 4) 3 1 (.slice Aj 2 cj) 2 (ints (sF rest 2))) (hz : sB rest 2 = true ∨ 0 < (sL rest 2).length)
    (hgr : (w.alloc (.cells #[.string ⟨#[97]⟩, .slice Aj 2 cj] 41)).grownBy w9 none) (h5 : w9.ownsRow (B + 4) 41 2 v5 1 [.string ⟨#[97]⟩, .slice Aj 2 cj]) : DoneE rest w0 (w9.setCell ⟨B + 3, 1, none⟩ v5) ∧ w9.cell? ⟨B + 3, 1, none⟩ = some (.slice none 0 0) ∧ w9.frozen? ⟨B + 3, 1, none⟩ = false := by
  subst hB
  have hal := (Below.refl w.heap.size w).alloc (Nat.le_refl _) (.cells #[.string ⟨#[97]⟩, .slice Aj 2 cj] 41)
  have hf9 : Frm (fun _ => False) (w.alloc (.cells #[.string ⟨#[97]⟩, .slice Aj 2 cj] 41)) w9 := Frm.of_grown hgr (fun k hk => by cases hk)
  have g9 := (hg.below hal).far hf9 (fun k hk => hk.elim)
  have o9 := hf9.own (own_below ho hal) (fun k _ h => h)
  have hf : Frm (fun k => k = w0.heap.size + 3) w9 (w9.setCell ⟨w0.heap.size + 3, 1, none⟩ v5) := (Frm.refl (fun k => k = w0.heap.size + 3) w9).setCell (p := ⟨w0.heap.size + 3, 1, none⟩) (fun _ => rfl) v5
  have c9 := g9.k3.cell 1
  obtain ⟨A5, c5, rfl, hc5⟩ := own_slice h5
  refine ⟨⟨A5, c5, ⟨⟨#[97]⟩, sF rest 2, Aj, 2, cj⟩, _, _, g9.setE _, ⟨hf.own h5 (fun k hk e => by have := own_ge h5 k hk; omega), fun f hf' => ?_⟩, rfl, hz⟩, by simpa using c9, g9.k3.frozen 1⟩
  rw [List.mem_singleton] at hf'
  subst hf'
  exact hf.own o9 (fun k hk e => by have := own_ge o9 k hk; omega)
theorem rd_one {w : World} {g : Nat} {e : TypeId} {u : Value} (h : Blk w g e #[u]) : Rd w (some ⟨g, 0, none⟩) [u] := fun _ => ⟨g, 0, rfl, h.lt, fun k y hk => by rw [Nat.zero_add, h.cell]; simpa using hk⟩
theorem GS.drew {B : Nat} {w0 w : World} {l : List Int} {bad : Bool} {e : Value} (h : GS B w0 w l bad e) : GS B w0 w.drew l bad e := h.below ((Below.refl w.heap.size w).drew)
structure In17 (g B : Nat) (w0 w4 : World) (l : List Int) (bad : Bool) (A : Option Addr) (j c : Nat) (v4 : Value) (xs : List Int) : Prop where
  bx : boxA g (.slice A j c) w4
  bx2 : boxA g v4 (w4.setCell ⟨g, 1, none⟩ v4)
  st : GS B w0 (w4.setCell ⟨g, 1, none⟩ v4) l bad (.slice none 0 0)
  own : (w4.setCell ⟨g, 1, none⟩ v4).ownsRow (B + 4) 3 1 v4 (j + 1) (ints xs)
theorem in17 {g B : Nat} {w0 w1 w4 : World} {l : List Int} {bad : Bool} {A : Option Addr} {j c : Nat} {v4 : Value} {v : Int} {xs : List Int} (hx : boxA g (.slice A j c) w1) (hg : GS B w0 w1 l bad (.slice none 0 0)) (ho : w1.ownsRow (B + 4) 3 1 (.slice A j c) j (ints xs)) (hge : B + 4 ≤ g)
    (hgr : (w1.alloc (.cells #[.int .i64 v] 3)).grownBy w4 (Value.slice A j c).ownBlock) (h4 : w4.ownsRow (B + 4) 3 1 v4 (j + 1) (ints xs ++ [.int .i64 v])) : In17 g B w0 w4 l bad A j c v4 (xs ++ [v]) := by
  have hal := (Below.refl w1.heap.size w1).alloc (Nat.le_refl _) (.cells #[.int .i64 v] 3)
  have hx2 : Blk (w1.alloc (.cells #[.int .i64 v] 3)) g 41 #[.string ⟨#[97]⟩, .slice A j c] := Blk.below hx hal
  have hg2 := hg.below hal
  have ho2 := own_below ho hal
  have hf4 : Frm (fun k => (Value.slice A j c).ownBlock = some k) (w1.alloc (.cells #[.int .i64 v] 3)) w4 := Frm.of_grown hgr (fun k hk => hk)
  have hx4 := hx2.frm hf4 (fun e => hx2.apart ho2 (by decide) _ e rfl)
  have hg4 := hg2.far hf4 (fun k hk => own_ge ho2 k hk)
  have hset := hx4.set 1 v4
  simp only [List.setIfInBounds_toArray, List.set_cons_zero, List.set_cons_succ] at hset
  have hf5 : Frm (fun k => k = g) w4 (w4.setCell ⟨g, 1, none⟩ v4) := (Frm.refl (fun k => k = g) w4).setCell (p := ⟨g, 1, none⟩) (fun _ => rfl) v4
  have hown := hf5.own h4 (fun k hk e => hx4.apart h4 (by decide) k hk e)
  refine ⟨hx4, hset, hg4.far hf5 (by rintro k rfl; exact hge), ?_⟩
  rw [show ints (xs ++ [v]) = ints xs ++ [.int .i64 v] by simp [ints]]
  exact hown
set_option maxRecDepth 100000 in
set_option maxHeartbeats 8000000 in
theorem getE_two (rest : List Int) (A : Option Addr) (L c : Nat) (w : World) (l0 : List Int) (hl0 : l0 = [115] ++ ([0, 1] ++ ([0, 1] ++ ([97] ++ ([0, 0, 0, 2] ++ sL rest 0))))) (hr : Rd w A (octs l0)) (ho : Oct l0) (hL : l0.length = L) (hc : L ≤ c) (hm : c ≤ maxLen)
    (hz : sB rest 2 = true ∨ 0 < (sL rest 2).length) : Calls Try.prog 29 #[.slice A L c] w (GetNoE w) := by
  have hgs := GS.start hr (by rw [hl0]; simp) ho (by rw [hL]; exact hc) hm
  rw [hL] at hgs
  obtain ⟨W4, hW4⟩ : ∃ x, (((w.alloc (.cells #[.int .i64 0, .slice none 0 0] 29)).alloc (.cells #[.slice A L c, .bool false] 103)).alloc (.cells #[.pointer (some ⟨w.heap.size + 1, 0, none⟩)] 101)).alloc (.cells #[.int .i64 0, .slice none 0 0] 29) = x := ⟨_, rfl⟩
  rw [hW4, hl0] at hgs
  have htk := hgs.take (n := 1) rfl (by omega)
  have q2 := hgs.k2.cell 0
  simp at q2
  have HTK := Lib.hid htk
  have HW4 := Lib.hid hW4
  have HZ := Lib.hid hz
  clear htk hgs hW4 hr ho hL hc hm hl0 hz
  go_enter Try.func29, Try.ntmps29
  go_upto_region 4 with fail
  rw [HW4.out]
  go_wp2_with fail
  refine (HTK.out).mono ?_
  rintro e w5 ⟨⟨A5, c5, rfl, hc5, hcm5, hrd5⟩, hst5, hfr5⟩
  obtain ⟨b1, o1, rfl, _, hb1⟩ := hrd5.at (k := 0) (u := .int .u8 115) rfl
  simp at hb1
  have hs1 : (List.length [(115 : Int)]) = 1 := rfl
  rw [hs1] at hc5 ⊢
  have H10 := Lib.hid (hst5.num (n := 2) rfl (by omega))
  clear hst5 hfr5 hrd5
  go_wp2_with fail
  refine (H10.out).mono ?_
  rintro e w6 ⟨rfl, hst6, _⟩
  have hv6 : valI [0, 1] = 1 := by decide
  rw [hv6]
  have HST6 := Lib.hid hst6
  clear hst6 hv6 hb1 q2 hc5 hcm5
  go_wp2_with fail
  go_loopw [7] (fun k wr => (k = .int .i64 1 ∧ GS w.heap.size w wr ([0, 1] ++ ([97] ++ ([0, 0, 0, 2] ++ sL rest 0))) false (.slice none 0 0)) ∨ (k = .int .i64 0 ∧ DoneE rest w wr)) (fun k _ => (intOf k).toNat)
  case atStart => exact .inl ⟨rfl, HST6.out⟩
  case round =>
    rcases hrel with ⟨rfl, hg⟩ | ⟨rfl, hd⟩
    · obtain ⟨⟨A6, c6, k1, kr1, klc, kcm, kne⟩, koc⟩ := hg.r
      have q2 := hg.k2.cell 0
      have q1 := k1.cell 1
      simp at q2 q1
      have hgb := hg.k3.lt
      have HG := Lib.hid hg
      clear hg k1 kr1 klc kcm kne koc
      go_upto_region 13 with fail
      go_cut [8] from 44 to 86 (fun p wx => ∃ g, p = .pointer (some ⟨g, 0, none⟩) ∧ w.heap.size + 4 ≤ g ∧ boxA g (.slice none 0 0) wx ∧ GS w.heap.size w wx ([0, 0, 0, 2] ++ sL rest 0) false (.slice none 0 0))
      case first =>
        have HGB := Lib.hid hgb
        have N13 := Lib.hid (show ∀ W, GS w.heap.size w W ([0, 1] ++ ([97] ++ ([0, 0, 0, 2] ++ sL rest 0))) false (.slice none 0 0) → Calls Try.prog 64 #[.int .i64 2, .pointer (some ⟨w.heap.size + 1 + 1, 0, none⟩)] W (GNum w.heap.size w (valI [0, 1]) ([97] ++ ([0, 0, 0, 2] ++ sL rest 0)) false (.slice none 0 0) W) from fun W h => h.num (n := 2) rfl (by omega))
        have T13 := Lib.hid (show ∀ W, GS w.heap.size w W ([97] ++ ([0, 0, 0, 2] ++ sL rest 0)) false (.slice none 0 0) → Calls Try.prog 65 #[.pointer (some ⟨w.heap.size + 1, 0, none⟩), .int .i64 1] W (GTake w.heap.size w [97] ([0, 0, 0, 2] ++ sL rest 0) false (.slice none 0 0) W) from fun W h => h.take (n := 1) rfl (by omega))
        clear hgb
        have hS0 : wr.drew.cell? ⟨w.heap.size + 1 + 1, 0, none⟩ = some (.pointer (some ⟨w.heap.size + 1, 0, none⟩)) := q2
        refine wp_region_held_drew (S := fun w' => w'.cell? ⟨w.heap.size + 1 + 1, 0, none⟩ = some (.pointer (some ⟨w.heap.size + 1, 0, none⟩))) (by kernel_rfl) hS0 (fun hHeld => ?_)
        refine wpAnyH_takeD (i := 0) (d := 55) (oi := _) (v := ?_) rfl rfl (by kernel_rfl) (by kernel_rfl) (by kernel_rfl) (fun _ _ _ h => h) (Or.inl ⟨by rfl, ?_⟩) (by assumption) ?_
        rotate_left
        · (intro w hSw; (try dsimp only at hSw); go_simp) <;> with_reducible rfl
        simp only [Act.put, List.setIfInBounds_toArray, List.set_cons_zero, List.set_cons_succ]
        refine wpAnyH_takeD (i := 1) (d := 56) (oi := _) (v := ?_) rfl rfl (by kernel_rfl) (by kernel_rfl) (by kernel_rfl) (fun _ _ _ h => h) (Or.inl ⟨by rfl, ?_⟩) (by assumption) ?_
        rotate_left
        · (intro w hSw; (try dsimp only at hSw); go_simp) <;> with_reducible rfl
        simp only [Act.put, List.setIfInBounds_toArray, List.set_cons_zero, List.set_cons_succ]
        refine wpAnyH_ready (rs := [2, 6]) (by kernel_rfl) (by simp) ?_
        refine AllReadyH.cons (o := _) rfl (fun K hK => ?_) (AllReadyH.cons (o := _) rfl (fun K hK => ?_) AllReadyH.nil)
        · go_simp
          refine (N13.out _ (HG.out.below ((Below.refl wr.heap.size wr).drew))).mono ?_
          rintro e w1 ⟨rfl, g1, hf1⟩
          rw [show valI [0, 1] = 1 from by decide]
          have p2 := g1.k2.cell 0
          simp at p2
          have G1 := Lib.hid g1
          have HF1 := Lib.hid hf1
          clear g1 hf1
          go_wp2_with fail
          refine hK.out _ _ p2 (fun hHeld => ?_)
          clear hK K
          try simp only [Act.put, List.setIfInBounds_toArray, List.set_cons_zero, List.set_cons_succ]
          refine wpAnyH_ready (rs := [3, 6]) (by kernel_rfl) (by simp) ?_
          refine AllReadyH.cons (o := _) rfl (fun K hK => ?_) (AllReadyH.cons (o := _) rfl (fun K hK => ?_) AllReadyH.nil)
          · go_simp
            refine (T13.out _ G1.out).mono ?_
            rintro e w2 ⟨⟨A2, c2, rfl, hc2, hm2, hr2⟩, g2, hf2⟩
            rw [show (List.length [(97 : Int)]) = 1 from rfl] at hc2 ⊢
            have p2 := g2.k2.cell 0
            simp at p2
            have HR2 := Lib.hid hr2
            have G2 := Lib.hid g2
            clear g2 hf2 hr2
            go_wp2_with fail
            refine hK.out _ _ p2 (fun hHeld => ?_)
            clear hK K
            try simp only [Act.put, List.setIfInBounds_toArray, List.set_cons_zero, List.set_cons_succ]
            refine wpAnyH_ready (rs := [4, 6]) (by kernel_rfl) (by simp) ?_
            refine AllReadyH.cons (o := _) rfl (fun K hK => ?_) (AllReadyH.cons (o := _) rfl (fun K hK => ?_) AllReadyH.nil)
            · have hs2 := str97 w2 A2 c2 HR2.out
              go_simp
              refine hK.out _ _ hHeld (fun hHeld => ?_)
              clear hK K
              try simp only [Act.put, List.setIfInBounds_toArray, List.set_cons_zero, List.set_cons_succ]
              refine wpAnyH_takeD (i := 5) (d := 60) (oi := _) (v := ?_) rfl rfl (by kernel_rfl) (by kernel_rfl) (by kernel_rfl) (fun _ _ _ h => h) (Or.inl ⟨by rfl, ?_⟩) (by assumption) ?_
              rotate_left
              · (intro w hSw; (try dsimp only at hSw); go_simp) <;> with_reducible rfl
              simp only [Act.put, List.setIfInBounds_toArray, List.set_cons_zero, List.set_cons_succ]
              refine wpAnyH_ready (rs := [6]) (by kernel_rfl) (by simp) ?_
              refine AllReadyH.cons (o := _) rfl (fun K hK => ?_) AllReadyH.nil
              go_simp
              refine hK.out _ _ (show (w2.alloc (.cells #[.string ⟨#[]⟩, .slice none 0 0] 41)).cell? ⟨w.heap.size + 1 + 1, 0, none⟩ = _ from (G2.out.below ((Below.refl w2.heap.size w2).alloc (Nat.le_refl _) (.cells #[.string ⟨#[]⟩, .slice none 0 0] 41))).k2.cell 0) (fun hHeld => ?_)
              clear hK K
              try simp only [Act.put, List.setIfInBounds_toArray, List.set_cons_zero, List.set_cons_succ]
              refine wpAnyH_ready (rs := [7]) (by kernel_rfl) (by simp) ?_
              refine AllReadyH.cons (o := _) rfl (fun K hK => ?_) AllReadyH.nil
              have GB := Lib.hid (show boxA w2.heap.size (.slice none 0 0) (w2.alloc (.cells #[.string ⟨#[97]⟩, .slice none 0 0] 41)) from Blk.new w2 41 #[.string ⟨#[97]⟩, .slice none 0 0])
              have G4 := Lib.hid (G2.out.below ((Below.refl w2.heap.size w2).alloc (Nat.le_refl _) (.cells #[.string ⟨#[97]⟩, .slice none 0 0] 41)))
              have GE := Lib.hid (show w.heap.size + 4 ≤ w2.heap.size by have := G2.out.k3.lt; omega)
              go_simp
              refine hK.out _ _ (G4.out.k2.cell 0) (fun hHeld => ?_)
              clear hK K
              try simp only [Act.put, List.setIfInBounds_toArray, List.set_cons_zero, List.set_cons_succ]
              refine wpAnyH_done (by kernel_rfl) ?_ _
              go_wp2_with fail
              go_meet
              exact ⟨_, rfl, GE.out, GB.out, G4.out⟩
            · go_simp
              refine hK.out _ _ (show (w2.alloc (.cells #[.string ⟨#[]⟩, .slice none 0 0] 41)).cell? ⟨w.heap.size + 1 + 1, 0, none⟩ = _ from (G2.out.below ((Below.refl w2.heap.size w2).alloc (Nat.le_refl _) (.cells #[.string ⟨#[]⟩, .slice none 0 0] 41))).k2.cell 0) (fun hHeld => ?_)
              clear hK K
              try simp only [Act.put, List.setIfInBounds_toArray, List.set_cons_zero, List.set_cons_succ]
              refine wpAnyH_ready (rs := [4]) (by kernel_rfl) (by simp) ?_
              refine AllReadyH.cons (o := _) rfl (fun K hK => ?_) AllReadyH.nil
              have hs2 := str97 (w2.alloc (.cells #[.string ⟨#[]⟩, .slice none 0 0] 41)) A2 c2 (HR2.out.below ((Below.refl w2.heap.size w2).alloc (Nat.le_refl _) (.cells #[.string ⟨#[]⟩, .slice none 0 0] 41)) rfl)
              go_simp
              refine hK.out _ _ hHeld (fun hHeld => ?_)
              clear hK K
              try simp only [Act.put, List.setIfInBounds_toArray, List.set_cons_zero, List.set_cons_succ]
              refine wpAnyH_takeD (i := 5) (d := 60) (oi := _) (v := ?_) rfl rfl (by kernel_rfl) (by kernel_rfl) (by kernel_rfl) (fun _ _ _ h => h) (Or.inl ⟨by rfl, ?_⟩) (by assumption) ?_
              rotate_left
              · (intro w hSw; (try dsimp only at hSw); go_simp) <;> with_reducible rfl
              simp only [Act.put, List.setIfInBounds_toArray, List.set_cons_zero, List.set_cons_succ]
              refine wpAnyH_ready (rs := [7]) (by kernel_rfl) (by simp) ?_
              refine AllReadyH.cons (o := _) rfl (fun K hK => ?_) AllReadyH.nil
              have GB := Lib.hid (show boxA w2.heap.size (.slice none 0 0) (w2.alloc (.cells #[.string ⟨#[97]⟩, .slice none 0 0] 41)) from Blk.new w2 41 #[.string ⟨#[97]⟩, .slice none 0 0])
              have G4 := Lib.hid (G2.out.below ((Below.refl w2.heap.size w2).alloc (Nat.le_refl _) (.cells #[.string ⟨#[97]⟩, .slice none 0 0] 41)))
              have GE := Lib.hid (show w.heap.size + 4 ≤ w2.heap.size by have := G2.out.k3.lt; omega)
              go_simp
              refine hK.out _ _ (G4.out.k2.cell 0) (fun hHeld => ?_)
              clear hK K
              try simp only [Act.put, List.setIfInBounds_toArray, List.set_cons_zero, List.set_cons_succ]
              refine wpAnyH_done (by kernel_rfl) ?_ _
              go_wp2_with fail
              go_meet
              exact ⟨_, rfl, GE.out, GB.out, G4.out⟩
          · go_simp
            refine hK.out _ _ (show (w1.alloc (.cells #[.string ⟨#[]⟩, .slice none 0 0] 41)).cell? ⟨w.heap.size + 1 + 1, 0, none⟩ = _ from (G1.out.below ((Below.refl w1.heap.size w1).alloc (Nat.le_refl _) (.cells #[.string ⟨#[]⟩, .slice none 0 0] 41))).k2.cell 0) (fun hHeld => ?_)
            clear hK K
            try simp only [Act.put, List.setIfInBounds_toArray, List.set_cons_zero, List.set_cons_succ]
            refine wpAnyH_ready (rs := [3]) (by kernel_rfl) (by simp) ?_
            refine AllReadyH.cons (o := _) rfl (fun K hK => ?_) AllReadyH.nil
            go_simp
            refine (T13.out _ (G1.out.below ((Below.refl w1.heap.size w1).alloc (Nat.le_refl _) (.cells #[.string ⟨#[]⟩, .slice none 0 0] 41)))).mono ?_
            rintro e w2 ⟨⟨A2, c2, rfl, hc2, hm2, hr2⟩, g2, hf2⟩
            rw [show (List.length [(97 : Int)]) = 1 from rfl] at hc2 ⊢
            have p2 := g2.k2.cell 0
            simp at p2
            have B2 := Lib.hid ((Blk.new w1 41 #[.string ⟨#[]⟩, .slice none 0 0]).frm hf2 (fun e => by have := G1.out.k3.lt; omega))
            have HR2 := Lib.hid hr2
            have G2 := Lib.hid g2
            clear g2 hf2 hr2
            go_wp2_with fail
            refine hK.out _ _ p2 (fun hHeld => ?_)
            clear hK K
            try simp only [Act.put, List.setIfInBounds_toArray, List.set_cons_zero, List.set_cons_succ]
            refine wpAnyH_ready (rs := [4]) (by kernel_rfl) (by simp) ?_
            refine AllReadyH.cons (o := _) rfl (fun K hK => ?_) AllReadyH.nil
            have hs2 := str97 w2 A2 c2 HR2.out
            go_simp
            refine hK.out _ _ hHeld (fun hHeld => ?_)
            clear hK K
            try simp only [Act.put, List.setIfInBounds_toArray, List.set_cons_zero, List.set_cons_succ]
            refine wpAnyH_takeD (i := 5) (d := 60) (oi := _) (v := ?_) rfl rfl (by kernel_rfl) (by kernel_rfl) (by kernel_rfl) (fun _ _ _ h => h) (Or.inl ⟨by rfl, ?_⟩) (by assumption) ?_
            rotate_left
            · (intro w hSw; (try dsimp only at hSw); go_simp) <;> with_reducible rfl
            simp only [Act.put, List.setIfInBounds_toArray, List.set_cons_zero, List.set_cons_succ]
            refine wpAnyH_ready (rs := [7]) (by kernel_rfl) (by simp) ?_
            refine AllReadyH.cons (o := _) rfl (fun K hK => ?_) AllReadyH.nil
            have hb2 : Blk w2 w1.heap.size 41 #[.string ⟨#[]⟩, .slice none 0 0] := B2.out
            have hgs := G2.out
            have hge : w.heap.size + 4 ≤ w1.heap.size := by first | exact Nat.le_trans HGB.out (Nat.le_refl _) | (have := G1.out.k3.lt; omega)
            have z0 := hb2.cell 0
            have z1 := hb2.cell 1
            have y0 := hb2.frozen 0
            have y1 := hb2.frozen 1
            simp at z0 z1
            have GB := Lib.hid (boxA_set hb2)
            have G4 := Lib.hid (hgs.set2 hge (.string ⟨#[97]⟩) (.slice none 0 0))
            have GE := Lib.hid hge
            clear hb2 hgs hge
            go_simp
            refine hK.out _ _ (G4.out.k2.cell 0) (fun hHeld => ?_)
            clear hK K
            try simp only [Act.put, List.setIfInBounds_toArray, List.set_cons_zero, List.set_cons_succ]
            refine wpAnyH_done (by kernel_rfl) ?_ _
            go_wp2_with fail
            go_meet
            exact ⟨_, rfl, GE.out, GB.out, G4.out⟩
        · go_simp
          refine hK.out _ _ (show (wr.drew.alloc (.cells #[.string ⟨#[]⟩, .slice none 0 0] 41)).cell? ⟨w.heap.size + 1 + 1, 0, none⟩ = _ from (HG.out.below (((Below.refl wr.heap.size wr).drew).alloc (Nat.le_refl _) (.cells #[.string ⟨#[]⟩, .slice none 0 0] 41))).k2.cell 0) (fun hHeld => ?_)
          clear hK K
          try simp only [Act.put, List.setIfInBounds_toArray, List.set_cons_zero, List.set_cons_succ]
          refine wpAnyH_ready (rs := [2]) (by kernel_rfl) (by simp) ?_
          refine AllReadyH.cons (o := _) rfl (fun K hK => ?_) AllReadyH.nil
          go_simp
          refine (N13.out _ (HG.out.below (((Below.refl wr.heap.size wr).alloc (Nat.le_refl _) (.cells #[.string ⟨#[]⟩, .slice none 0 0] 41)).drew))).mono ?_
          rintro e w1 ⟨rfl, g1, hf1⟩
          rw [show valI [0, 1] = 1 from by decide]
          have p2 := g1.k2.cell 0
          simp at p2
          have B1 := Lib.hid ((show Blk (wr.alloc (.cells #[.string ⟨#[]⟩, .slice none 0 0] 41)).drew wr.heap.size 41 #[.string ⟨#[]⟩, .slice none 0 0] from Blk.new wr 41 #[.string ⟨#[]⟩, .slice none 0 0]).frm hf1 (fun e => by have := HGB.out; omega))
          have G1 := Lib.hid g1
          have HF1 := Lib.hid hf1
          clear g1 hf1
          go_wp2_with fail
          refine hK.out _ _ p2 (fun hHeld => ?_)
          clear hK K
          try simp only [Act.put, List.setIfInBounds_toArray, List.set_cons_zero, List.set_cons_succ]
          refine wpAnyH_ready (rs := [3]) (by kernel_rfl) (by simp) ?_
          refine AllReadyH.cons (o := _) rfl (fun K hK => ?_) AllReadyH.nil
          go_simp
          refine (T13.out _ G1.out).mono ?_
          rintro e w2 ⟨⟨A2, c2, rfl, hc2, hm2, hr2⟩, g2, hf2⟩
          rw [show (List.length [(97 : Int)]) = 1 from rfl] at hc2 ⊢
          have p2 := g2.k2.cell 0
          simp at p2
          have B2 := Lib.hid (B1.out.frm hf2 (fun e => by have := HGB.out; omega))
          have HR2 := Lib.hid hr2
          have G2 := Lib.hid g2
          clear g2 hf2 hr2
          go_wp2_with fail
          refine hK.out _ _ p2 (fun hHeld => ?_)
          clear hK K
          try simp only [Act.put, List.setIfInBounds_toArray, List.set_cons_zero, List.set_cons_succ]
          refine wpAnyH_ready (rs := [4]) (by kernel_rfl) (by simp) ?_
          refine AllReadyH.cons (o := _) rfl (fun K hK => ?_) AllReadyH.nil
          have hs2 := str97 w2 A2 c2 HR2.out
          go_simp
          refine hK.out _ _ hHeld (fun hHeld => ?_)
          clear hK K
          try simp only [Act.put, List.setIfInBounds_toArray, List.set_cons_zero, List.set_cons_succ]
          refine wpAnyH_takeD (i := 5) (d := 60) (oi := _) (v := ?_) rfl rfl (by kernel_rfl) (by kernel_rfl) (by kernel_rfl) (fun _ _ _ h => h) (Or.inl ⟨by rfl, ?_⟩) (by assumption) ?_
          rotate_left
          · (intro w hSw; (try dsimp only at hSw); go_simp) <;> with_reducible rfl
          simp only [Act.put, List.setIfInBounds_toArray, List.set_cons_zero, List.set_cons_succ]
          refine wpAnyH_ready (rs := [7]) (by kernel_rfl) (by simp) ?_
          refine AllReadyH.cons (o := _) rfl (fun K hK => ?_) AllReadyH.nil
          have hb2 : Blk w2 wr.heap.size 41 #[.string ⟨#[]⟩, .slice none 0 0] := B2.out
          have hgs := G2.out
          have hge : w.heap.size + 4 ≤ wr.heap.size := by first | exact Nat.le_trans HGB.out (Nat.le_refl _) | (have := G1.out.k3.lt; omega)
          have z0 := hb2.cell 0
          have z1 := hb2.cell 1
          have y0 := hb2.frozen 0
          have y1 := hb2.frozen 1
          simp at z0 z1
          have GB := Lib.hid (boxA_set hb2)
          have G4 := Lib.hid (hgs.set2 hge (.string ⟨#[97]⟩) (.slice none 0 0))
          have GE := Lib.hid hge
          clear hb2 hgs hge
          go_simp
          refine hK.out _ _ (G4.out.k2.cell 0) (fun hHeld => ?_)
          clear hK K
          try simp only [Act.put, List.setIfInBounds_toArray, List.set_cons_zero, List.set_cons_succ]
          refine wpAnyH_done (by kernel_rfl) ?_ _
          go_wp2_with fail
          go_meet
          exact ⟨_, rfl, GE.out, GB.out, G4.out⟩
      case rest =>
        obtain ⟨g, rfl, hge, hbx, hgs⟩ := hcut
        have N14 := Lib.hid (hgs.num (n := 4) rfl (by omega))
        have HBX := Lib.hid hbx
        have HGE := Lib.hid hge
        clear hbx hge hgs q1 q2 hgb
        go_wp2_with fail
        refine (N14.out).mono ?_
        rintro e w7 ⟨rfl, hg7, hf7⟩
        rw [show valI [0, 0, 0, 2] = 2 from by decide]
        have HIN := Lib.hid (show InV rest g w.heap.size w w7 0 from ⟨⟨none, 0, HBX.out.frm hf7 (fun e => by have := HGE.out; omega), World.ownsRow_nil w7 _ 3 1⟩, hg7⟩)
        clear hg7 hf7
        go_wp2_with fail
        go_loopw [9] (fun i wy => ∃ j k : Nat, j + k = 2 ∧ i = .int .i64 k ∧ InV rest g w.heap.size w wy j) (fun i _ => (intOf i).toNat)
        case atStart => exact ⟨0, 2, rfl, rfl, HIN.out⟩
        case round =>
          obtain ⟨j, k, hjk, rfl, hin⟩ := hrel
          by_cases hlt : j < 2
          · have hbj : sB rest j = false := by
              rcases (show j = 0 ∨ j = 1 by omega) with rfl | rfl
              · rfl
              · exact sB_one rest
            obtain ⟨⟨Aj, cj, hbx, hown⟩, hgs⟩ := hin
            rw [hbj] at hgs
            obtain ⟨⟨A8, c8, k1, _, _, _, _⟩, _⟩ := hgs.r
            have q2 := hgs.k2.cell 0
            have q1 := k1.cell 1
            have qb := hbx.c1
            simp at q2 q1
            have hkp : (0 : Int) < (k : Int) := by omega
            have N17 := Lib.hid (show ∀ W, GS w.heap.size w W (sL rest j) false (.slice none 0 0) → Calls Try.prog 64 #[.int .i64 4, .pointer (some ⟨w.heap.size + 1 + 1, 0, none⟩)] W (GNum w.heap.size w (valI (takeV 4 (sL rest j))) (sL rest (j + 1)) (sB rest (j + 1)) (.slice none 0 0) W) from fun W h => by
              have := h.number 4 (by omega)
              rw [← hbj] at this
              exact this)
            have HSF := Lib.hid (show sF rest (j + 1) = sF rest j ++ [valI (takeV 4 (sL rest j))] from rfl)
            obtain ⟨v, hv⟩ : ∃ v, valI (takeV 4 (sL rest j)) = v := ⟨_, rfl⟩
            rw [hv] at N17 HSF
            have HGS := Lib.hid hgs
            have HBJ := Lib.hid hbx
            have HOJ := Lib.hid hown
            have HJK := Lib.hid hjk
            have hj2 : j ≤ 1 := by omega
            have hk9 : (k : Int) ≤ 2 := by omega
            have hk8 : 1 ≤ k := by omega
            clear hbx hown hgs k1 hv hjk hlt hbj
            go_upto_region 17 with fail
            refine wp_region_held_drew (S := fun _ => True) (by kernel_rfl) trivial (fun hHeld => ?_)
            refine wpAnyH_takeD (i := 0) (d := 74) (oi := _) (v := ?_) rfl rfl (by kernel_rfl) (by kernel_rfl) (by kernel_rfl) (fun _ _ _ h => h) (Or.inl ⟨by rfl, ?_⟩) (by assumption) ?_
            rotate_left
            · (intro w hSw; (try dsimp only at hSw); go_simp) <;> with_reducible rfl
            simp only [Act.put, List.setIfInBounds_toArray, List.set_cons_zero, List.set_cons_succ]
            refine wpAnyH_takeD (i := 2) (d := 76) (oi := _) (v := ?_) rfl rfl (by kernel_rfl) (by kernel_rfl) (by kernel_rfl) (fun _ _ _ h => h) (Or.inl ⟨by rfl, ?_⟩) (by assumption) ?_
            rotate_left
            · (intro w hSw; (try dsimp only at hSw); go_simp) <;> with_reducible rfl
            simp only [Act.put, List.setIfInBounds_toArray, List.set_cons_zero, List.set_cons_succ]
            refine wpAnyH_ready (rs := [1, 3]) (by kernel_rfl) (by simp) ?_
            refine AllReadyH.cons (o := _) rfl (fun K hK => ?_) (AllReadyH.cons (o := _) rfl (fun K hK => ?_) AllReadyH.nil)
            · go_simp
              refine hK.out _ _ trivial (fun hHeld => ?_)
              clear hK K
              try simp only [Act.put, List.setIfInBounds_toArray, List.set_cons_zero, List.set_cons_succ]
              refine wpAnyH_ready (rs := [3]) (by kernel_rfl) (by simp) ?_
              refine AllReadyH.cons (o := _) rfl (fun K hK => ?_) AllReadyH.nil
              go_simp
              refine (N17.out _ HGS.out.drew).mono ?_
              rintro e w1 ⟨rfl, g1, hf1⟩
              replace hf1 := Frm.of_drew hf1
              have hb1 := HBJ.out.frm hf1 (fun e => by have := HGE.out; omega)
              have ho1 := hf1.own HOJ.out (fun k hk e => by have := own_ge HOJ.out k hk; omega)
              have qb := hb1.c1
              have qba := (boxA.frm hb1 (Frm.of_below (S := fun _ => False) ((Below.refl w1.heap.size w1).alloc (Nat.le_refl _) (.cells #[.int .i64 v] 3))) id).c1
              have hblk := Blk.new w1 3 #[.int .i64 v]
              have HN1 := Lib.hid hblk
              have HB1 := Lib.hid hb1
              have HO1 := Lib.hid ho1
              have HO1a := Lib.hid (own_below ho1 ((Below.refl w1.heap.size w1).alloc (Nat.le_refl _) (.cells #[.int .i64 v] 3)))
              have HZ1 := Lib.hid (show w.heap.size + 4 ≤ (w1.alloc (.cells #[.int .i64 v] 3)).heap.size by have := g1.k3.lt; simp; omega)
              have G1 := Lib.hid g1
              clear hb1 ho1 hblk hf1 g1
              go_wp2_with fail
              refine hK.out _ _ trivial (fun hHeld => ?_)
              clear hK K
              try simp only [Act.put, List.setIfInBounds_toArray, List.set_cons_zero, List.set_cons_succ]
              refine wpAnyH_ready (rs := [4]) (by kernel_rfl) (by simp) ?_
              refine AllReadyH.cons (o := _) rfl (fun K hK => ?_) AllReadyH.nil
              go_simp
              refine hK.out _ _ trivial (fun hHeld => ?_)
              clear hK K
              try simp only [Act.put, List.setIfInBounds_toArray, List.set_cons_zero, List.set_cons_succ]
              refine wpAnyH_ready (rs := [5]) (by kernel_rfl) (by simp) ?_
              refine AllReadyH.cons (o := _) rfl (fun K hK => ?_) AllReadyH.nil
              refine step_appB tInt rfl (.tmp 75) (.tmp 78) rfl (w.heap.size + 4) (.slice Aj j cj) j (ints (sF rest j)) rfl HO1a.out (some ⟨w1.heap.size, 0, none⟩) 1 1 [.int .i64 v] rfl rfl (rd_one HN1.out) (by simp [Value.oneCell']) (by omega) (by unfold maxLen; omega) HZ1.out ?_
              intro v4 w4 o4 hg4 _
              have hin := in17 HB1.out G1.out HO1.out HGE.out hg4 o4
              obtain ⟨A4, c4, rfl, hc4⟩ := own_slice o4
              have qx := hin.bx.c1
              have qz := hin.bx.z1
              have HNX := Lib.hid (show InV rest g w.heap.size w (w4.setCell ⟨g, 1, none⟩ (.slice A4 (j + 1) c4)) (j + 1) from ⟨⟨A4, c4, hin.bx2, by rw [HSF.out]; exact hin.own⟩, hin.st⟩)
              clear hin o4 hg4
              try simp only [Act.put, List.setIfInBounds_toArray, List.set_cons_zero, List.set_cons_succ]
              refine hK.out _ _ trivial (fun hHeld => ?_)
              clear hK K
              try simp only [Act.put, List.setIfInBounds_toArray, List.set_cons_zero, List.set_cons_succ]
              refine wpAnyH_takeD (i := 6) (d := 80) (oi := _) (v := ?_) rfl rfl (by kernel_rfl) (by kernel_rfl) (by kernel_rfl) (fun _ _ _ h => h) (Or.inl ⟨by rfl, ?_⟩) (by assumption) ?_
              rotate_left
              · (intro w hSw; (try dsimp only at hSw); go_simp) <;> with_reducible rfl
              simp only [Act.put, List.setIfInBounds_toArray, List.set_cons_zero, List.set_cons_succ]
              refine wpAnyH_ready (rs := [7]) (by kernel_rfl) (by simp) ?_
              refine AllReadyH.cons (o := _) rfl (fun K hK => ?_) AllReadyH.nil
              go_simp
              refine hK.out _ _ trivial (fun hHeld => ?_)
              clear hK K
              try simp only [Act.put, List.setIfInBounds_toArray, List.set_cons_zero, List.set_cons_succ]
              refine wpAnyH_done (by kernel_rfl) ?_ _
              go_wp2
              go_roundw
              case rel => exact ⟨j + 1, k - 1, by have := HJK.out; omega, by go_num, HNX.out⟩
              case measure => simp [intOf]; omega
            · go_simp
              refine (N17.out _ HGS.out.drew).mono ?_
              rintro e w1 ⟨rfl, g1, hf1⟩
              replace hf1 := Frm.of_drew hf1
              have hb1 := HBJ.out.frm hf1 (fun e => by have := HGE.out; omega)
              have ho1 := hf1.own HOJ.out (fun k hk e => by have := own_ge HOJ.out k hk; omega)
              have qb := hb1.c1
              have qba := (boxA.frm hb1 (Frm.of_below (S := fun _ => False) ((Below.refl w1.heap.size w1).alloc (Nat.le_refl _) (.cells #[.int .i64 v] 3))) id).c1
              have hblk := Blk.new w1 3 #[.int .i64 v]
              have HN1 := Lib.hid hblk
              have HB1 := Lib.hid hb1
              have HO1 := Lib.hid ho1
              have HO1a := Lib.hid (own_below ho1 ((Below.refl w1.heap.size w1).alloc (Nat.le_refl _) (.cells #[.int .i64 v] 3)))
              have HZ1 := Lib.hid (show w.heap.size + 4 ≤ (w1.alloc (.cells #[.int .i64 v] 3)).heap.size by have := g1.k3.lt; simp; omega)
              have G1 := Lib.hid g1
              clear hb1 ho1 hblk hf1 g1
              go_wp2_with fail
              refine hK.out _ _ trivial (fun hHeld => ?_)
              clear hK K
              try simp only [Act.put, List.setIfInBounds_toArray, List.set_cons_zero, List.set_cons_succ]
              refine wpAnyH_ready (rs := [1, 4]) (by kernel_rfl) (by simp) ?_
              refine AllReadyH.cons (o := _) rfl (fun K hK => ?_) (AllReadyH.cons (o := _) rfl (fun K hK => ?_) AllReadyH.nil)
              · go_simp
                refine hK.out _ _ trivial (fun hHeld => ?_)
                clear hK K
                try simp only [Act.put, List.setIfInBounds_toArray, List.set_cons_zero, List.set_cons_succ]
                refine wpAnyH_ready (rs := [4]) (by kernel_rfl) (by simp) ?_
                refine AllReadyH.cons (o := _) rfl (fun K hK => ?_) AllReadyH.nil
                go_simp
                refine hK.out _ _ trivial (fun hHeld => ?_)
                clear hK K
                try simp only [Act.put, List.setIfInBounds_toArray, List.set_cons_zero, List.set_cons_succ]
                refine wpAnyH_ready (rs := [5]) (by kernel_rfl) (by simp) ?_
                refine AllReadyH.cons (o := _) rfl (fun K hK => ?_) AllReadyH.nil
                refine step_appB tInt rfl (.tmp 75) (.tmp 78) rfl (w.heap.size + 4) (.slice Aj j cj) j (ints (sF rest j)) rfl HO1a.out (some ⟨w1.heap.size, 0, none⟩) 1 1 [.int .i64 v] rfl rfl (rd_one HN1.out) (by simp [Value.oneCell']) (by omega) (by unfold maxLen; omega) HZ1.out ?_
                intro v4 w4 o4 hg4 _
                have hin := in17 HB1.out G1.out HO1.out HGE.out hg4 o4
                obtain ⟨A4, c4, rfl, hc4⟩ := own_slice o4
                have qx := hin.bx.c1
                have qz := hin.bx.z1
                have HNX := Lib.hid (show InV rest g w.heap.size w (w4.setCell ⟨g, 1, none⟩ (.slice A4 (j + 1) c4)) (j + 1) from ⟨⟨A4, c4, hin.bx2, by rw [HSF.out]; exact hin.own⟩, hin.st⟩)
                clear hin o4 hg4
                try simp only [Act.put, List.setIfInBounds_toArray, List.set_cons_zero, List.set_cons_succ]
                refine hK.out _ _ trivial (fun hHeld => ?_)
                clear hK K
                try simp only [Act.put, List.setIfInBounds_toArray, List.set_cons_zero, List.set_cons_succ]
                refine wpAnyH_takeD (i := 6) (d := 80) (oi := _) (v := ?_) rfl rfl (by kernel_rfl) (by kernel_rfl) (by kernel_rfl) (fun _ _ _ h => h) (Or.inl ⟨by rfl, ?_⟩) (by assumption) ?_
                rotate_left
                · (intro w hSw; (try dsimp only at hSw); go_simp) <;> with_reducible rfl
                simp only [Act.put, List.setIfInBounds_toArray, List.set_cons_zero, List.set_cons_succ]
                refine wpAnyH_ready (rs := [7]) (by kernel_rfl) (by simp) ?_
                refine AllReadyH.cons (o := _) rfl (fun K hK => ?_) AllReadyH.nil
                go_simp
                refine hK.out _ _ trivial (fun hHeld => ?_)
                clear hK K
                try simp only [Act.put, List.setIfInBounds_toArray, List.set_cons_zero, List.set_cons_succ]
                refine wpAnyH_done (by kernel_rfl) ?_ _
                go_wp2
                go_roundw
                case rel => exact ⟨j + 1, k - 1, by have := HJK.out; omega, by go_num, HNX.out⟩
                case measure => simp [intOf]; omega
              · go_simp
                refine hK.out _ _ trivial (fun hHeld => ?_)
                clear hK K
                try simp only [Act.put, List.setIfInBounds_toArray, List.set_cons_zero, List.set_cons_succ]
                refine wpAnyH_ready (rs := [1]) (by kernel_rfl) (by simp) ?_
                refine AllReadyH.cons (o := _) rfl (fun K hK => ?_) AllReadyH.nil
                go_simp
                refine hK.out _ _ trivial (fun hHeld => ?_)
                clear hK K
                try simp only [Act.put, List.setIfInBounds_toArray, List.set_cons_zero, List.set_cons_succ]
                refine wpAnyH_ready (rs := [5]) (by kernel_rfl) (by simp) ?_
                refine AllReadyH.cons (o := _) rfl (fun K hK => ?_) AllReadyH.nil
                refine step_appB tInt rfl (.tmp 75) (.tmp 78) rfl (w.heap.size + 4) (.slice Aj j cj) j (ints (sF rest j)) rfl HO1a.out (some ⟨w1.heap.size, 0, none⟩) 1 1 [.int .i64 v] rfl rfl (rd_one HN1.out) (by simp [Value.oneCell']) (by omega) (by unfold maxLen; omega) HZ1.out ?_
                intro v4 w4 o4 hg4 _
                have hin := in17 HB1.out G1.out HO1.out HGE.out hg4 o4
                obtain ⟨A4, c4, rfl, hc4⟩ := own_slice o4
                have qx := hin.bx.c1
                have qz := hin.bx.z1
                have HNX := Lib.hid (show InV rest g w.heap.size w (w4.setCell ⟨g, 1, none⟩ (.slice A4 (j + 1) c4)) (j + 1) from ⟨⟨A4, c4, hin.bx2, by rw [HSF.out]; exact hin.own⟩, hin.st⟩)
                clear hin o4 hg4
                try simp only [Act.put, List.setIfInBounds_toArray, List.set_cons_zero, List.set_cons_succ]
                refine hK.out _ _ trivial (fun hHeld => ?_)
                clear hK K
                try simp only [Act.put, List.setIfInBounds_toArray, List.set_cons_zero, List.set_cons_succ]
                refine wpAnyH_takeD (i := 6) (d := 80) (oi := _) (v := ?_) rfl rfl (by kernel_rfl) (by kernel_rfl) (by kernel_rfl) (fun _ _ _ h => h) (Or.inl ⟨by rfl, ?_⟩) (by assumption) ?_
                rotate_left
                · (intro w hSw; (try dsimp only at hSw); go_simp) <;> with_reducible rfl
                simp only [Act.put, List.setIfInBounds_toArray, List.set_cons_zero, List.set_cons_succ]
                refine wpAnyH_ready (rs := [7]) (by kernel_rfl) (by simp) ?_
                refine AllReadyH.cons (o := _) rfl (fun K hK => ?_) AllReadyH.nil
                go_simp
                refine hK.out _ _ trivial (fun hHeld => ?_)
                clear hK K
                try simp only [Act.put, List.setIfInBounds_toArray, List.set_cons_zero, List.set_cons_succ]
                refine wpAnyH_done (by kernel_rfl) ?_ _
                go_wp2
                go_roundw
                case rel => exact ⟨j + 1, k - 1, by have := HJK.out; omega, by go_num, HNX.out⟩
                case measure => simp [intOf]; omega
          · obtain rfl : k = 0 := by omega
            obtain rfl : j = 2 := by omega
            obtain ⟨⟨Aj, cj, hbx, hown⟩, hgs⟩ := hin
            have q3 := hgs.k3.cell 1
            have b0 := Blk.cell hbx 0
            have b1' := hbx.c1
            simp at q3 b0
            have HGS := Lib.hid hgs
            have HOJ := Lib.hid hown
            have HZ4 := Lib.hid (show w.heap.size + 4 ≤ (wr.alloc (.cells #[.string ⟨#[97]⟩, .slice Aj 2 cj] 41)).heap.size by have := hgs.k3.lt; simp; omega)
            have HN := Lib.hid (Blk.new wr 41 #[.string ⟨#[97]⟩, .slice Aj 2 cj])
            clear hbx hown hgs hjk hlt
            go_wp2_with (refine wpList_appN tFls rfl (.tmp 82) (.tmp 84) rfl (w.heap.size + 4) (.slice none 0 0) 0 [] rfl (World.ownsRow_nil _ _ 41 2) (some ⟨wr.heap.size, 0, none⟩) 1 1 [.string ⟨#[97]⟩, .slice Aj 2 cj] rfl rfl (.inr ⟨_, rfl, fun jj u hu => by rw [addr_add, Nat.zero_add, HN.out.cell]; simpa using hu⟩) (by simp [Value.oneCell']) (by omega) (by unfold maxLen; omega) HZ4.out ?_; intro v5 w9 h5 hg5 _; obtain ⟨A5, c5, rfl, _⟩ := own_slice h5; have hd5 := done18 (g := g) rfl HGS.out HOJ.out HZ.out hg5 h5; obtain ⟨DN, z1, z2⟩ := hd5; have HDN := Lib.hid DN; clear h5 hg5 DN)
            go_roundw
            case rel => exact .inr ⟨by go_num, HDN.out⟩
            case measure => simp [intOf]
    · obtain ⟨⟨Af, cf, f, l, bad, hgs, hof, hnm, hb⟩⟩ := hd
      obtain ⟨⟨A8, c8, k1, _, _, _, _⟩, _⟩ := hgs.r
      have hpe := putEntry_any 0 [f] Af 1 cf wr (hof.rd rfl) rfl (by omega) (fun f' hf' => by rw [List.mem_singleton] at hf'; subst hf'; rw [hnm]; unfold maxLen; decide)
      have q2 := hgs.k2.cell 0
      have q3 := hgs.k3.cell 0
      have q4 := hgs.k3.cell 1
      have q1 := k1.cell 1
      simp at q1 q2 q3 q4
      have HPE := Lib.hid hpe
      have HGS := Lib.hid hgs
      have HK1 := Lib.hid k1
      have HB := Lib.hid hb
      obtain ⟨ll, hll⟩ : ∃ n, l.length = n := ⟨_, rfl⟩
      rw [hll] at HB HK1
      clear hpe hgs k1 hb hof hnm hll
      go_wp2_with fail
      refine (HPE.out).mono ?_
      intro e w7 hp7
      obtain ⟨⟨A7, n7, c7, x7, rfl⟩, hb7⟩ := hp7.form
      have g7 := HGS.out.below hb7
      have k7 := HK1.out.below hb7
      have y2 := g7.k2.cell 0
      have y1 := k7.cell 1
      have y0 := k7.cell 0
      have t0 := g7.k0.cell 0
      have t1 := g7.k0.cell 1
      have v0 := g7.k0.frozen 0
      have v1 := g7.k0.frozen 1
      simp at y2 y1 y0 t0 t1
      have H07 := Lib.hid g7.k0
      have HL7 := Lib.hid g7.low
      clear hp7 hb7 g7 k7 q1 q2 q3 q4
      cases bad with
      | true =>
        go_wp2_with fail
        exact getE_done H07.out HL7.out ⟨rfl, rfl⟩ rfl
      | false =>
        have hpos : 0 < ll := HB.out.resolve_left (by decide)
        have hpos2 : (0 : Int) < (ll : Int) := by omega
        have d1 : decide ((0 : Int) < (ll : Int)) = true := decide_eq_true hpos2
        have d2 : decide (0 < ll) = true := decide_eq_true hpos
        go_wp2_with fail
        exact getE_done H07.out HL7.out ⟨rfl, rfl⟩ rfl
end Go.Proofs.Ytlhhkmpidnegcaa
