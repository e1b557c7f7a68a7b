/- A digest's Write. For any bytes up to the bound on appends. -/
import Derived.Test.YtgkgdbjdmmieaaaShDg
import Derived.Deep.LoopGhost
namespace Go.Proofs.Ytgkgdbjdmmieaaa
open Go.RowKit Go.WideShapes
set_option linter.unusedVariables false
set_option linter.unusedSimpArgs false
theorem own_mono {w : World} {B B' : Nat} {e : TypeId} {size n : Nat} {v : Value} {xs : List Value} (h : w.ownsRow B' e size v n xs) (hB : B ≤ B') : w.ownsRow B e size v n xs := by
  refine ⟨h.1, ?_⟩
  rcases h.2 with h0 | ⟨g, cap, cur, rfl, hb, hr⟩
  · exact .inl h0
  · exact .inr ⟨g, cap, cur, rfl, by omega, hr⟩
structure Written (B g : Nat) (bs xs : List Int) (v : Value) (w0 : World) (e : Ending) (w : World) : Prop where
  ret : e = .returned (.int .i64 0)
  ex : ∃ v', Dig B w g (bs ++ xs) v' ∧ (∀ k, v'.ownBlock = some k → w0.heap.size ≤ k)
  frm : Frm (fun k => k = g ∨ v.ownBlock = some k) w0 w
structure WRel (g : Nat) (p : List Int) (h0 : S5) (N : Int) (w0 : World) (k : Nat) (w : World) : Prop where
  ex : ∃ (j : Nat) (A : Option Addr) (c : Nat), k + 64 * j = p.length ∧ k ≤ c ∧ Rd w A (octs (p.drop (64 * j))) ∧ (∀ q, A = some q → q.block ≠ g) ∧
    Blk w g 33 #[.bool true, .int .u32 (runs j h0 p).a, .int .u32 (runs j h0 p).b, .int .u32 (runs j h0 p).c, .int .u32 (runs j h0 p).d, .int .u32 (runs j h0 p).e, .slice A k c, .int .i64 N]
  frm : Frm (fun k => k = g) w0 w
theorem wr_mid {B g n0 m : Nat} {A0 : Option Addr} {cc0 : Nat} {R xs : List Int} {w w1 w2 : World} {cs : Array Value} {A2 : Option Addr} {cc2 : Nat} (hs : Blk w1 g 33 cs) (hf1 : Frm (fun k => k = g) w w1) (hap : ∀ k, (Value.slice A0 n0 cc0).ownBlock = some k → k ≠ g)
    (o2 : w2.ownsRow B 5 1 (.slice A2 (n0 + m) cc2) (n0 + m) (octs R ++ octs xs)) (hg2 : w1.grownBy w2 (Value.slice A0 n0 cc0).ownBlock) :
    Blk w2 g 33 cs ∧ Frm (fun k => k = g ∨ (Value.slice A0 n0 cc0).ownBlock = some k) w w2 ∧ Rd w2 A2 (octs (R ++ xs)) ∧ (∀ q, A2 = some q → q.block ≠ g) := by
  have hS2 : Frm (fun k => (Value.slice A0 n0 cc0).ownBlock = some k) w1 w2 := Frm.of_grown hg2 (fun k hk => hk)
  have hbk2 : Blk w2 g 33 cs := hs.frm hS2 (fun h => hap _ h rfl)
  refine ⟨hbk2, (hf1.mono (T := fun k => k = g ∨ (Value.slice A0 n0 cc0).ownBlock = some k) (fun k _ h => .inl h)).trans hS2 (fun k _ h => .inr h), ?_, ?_⟩
  · rw [← octs_append]; exact Rd.of_own o2
  · have h3 := hbk2.apart o2 (by decide)
    intro q hq
    subst hq
    refine h3 q.block ?_
    rcases o2.2 with ⟨h0, _⟩ | ⟨gg, cap, cur, hv, _⟩
    · cases h0
    · injection hv with hv; injection hv with hv; subst hv; rfl
theorem wr_call {g : Nat} {w2 wr w5 : World} {a b c d e x1 x2 x3 x4 x5 : Int} {v : Value} {N : Int} (hb : Blk wr g 33 #[.bool true, .int .u32 a, .int .u32 b, .int .u32 c, .int .u32 d, .int .u32 e, v, .int .i64 N]) (hf : Frm (fun k => k = g) w2 wr) (h5 : Below wr.drew.heap.size wr.drew w5) :
    (w5.cell? ⟨g, 1, none⟩ = some (.int .u32 a) ∧ w5.cell? ⟨g, 2, none⟩ = some (.int .u32 b) ∧ w5.cell? ⟨g, 3, none⟩ = some (.int .u32 c) ∧ w5.cell? ⟨g, 4, none⟩ = some (.int .u32 d) ∧ w5.cell? ⟨g, 5, none⟩ = some (.int .u32 e)) ∧
    (∀ i, w5.frozen? ⟨g, i, none⟩ = false) ∧ w5.cell? ⟨g, 6, none⟩ = some v ∧
    (((((w5.setCell ⟨g, 1, none⟩ (.int .u32 x1)).setCell ⟨g, 2, none⟩ (.int .u32 x2)).setCell ⟨g, 3, none⟩ (.int .u32 x3)).setCell ⟨g, 4, none⟩ (.int .u32 x4)).setCell ⟨g, 5, none⟩ (.int .u32 x5)).cell? ⟨g, 6, none⟩ = some v ∧
    Blk (((((w5.setCell ⟨g, 1, none⟩ (.int .u32 x1)).setCell ⟨g, 2, none⟩ (.int .u32 x2)).setCell ⟨g, 3, none⟩ (.int .u32 x3)).setCell ⟨g, 4, none⟩ (.int .u32 x4)).setCell ⟨g, 5, none⟩ (.int .u32 x5)) g 33 #[.bool true, .int .u32 x1, .int .u32 x2, .int .u32 x3, .int .u32 x4, .int .u32 x5, v, .int .i64 N] ∧
    Frm (fun k => k = g) w2 (((((w5.setCell ⟨g, 1, none⟩ (.int .u32 x1)).setCell ⟨g, 2, none⟩ (.int .u32 x2)).setCell ⟨g, 3, none⟩ (.int .u32 x3)).setCell ⟨g, 4, none⟩ (.int .u32 x4)).setCell ⟨g, 5, none⟩ (.int .u32 x5)) := by
  have k5 : Blk w5 g 33 _ := (hb.drew).below h5
  have k6 := ((((k5.set 1 (.int .u32 x1)).set 2 (.int .u32 x2)).set 3 (.int .u32 x3)).set 4 (.int .u32 x4)).set 5 (.int .u32 x5)
  simp only [List.setIfInBounds_toArray, List.set_cons_zero, List.set_cons_succ] at k6
  have e1 := k5.cell 1
  have e2 := k5.cell 2
  have e3 := k5.cell 3
  have e4 := k5.cell 4
  have e5 := k5.cell 5
  have e6 := k5.cell 6
  have z6 := k6.cell 6
  simp at e1 e2 e3 e4 e5 e6
  refine ⟨⟨e1, e2, e3, e4, e5⟩, fun i => k5.frozen i, e6, by rw [z6]; rfl, k6, ?_⟩
  exact (((((hf.drew.below h5).setCell (p := ⟨g, 1, none⟩) (fun _ => rfl) _).setCell (p := ⟨g, 2, none⟩) (fun _ => rfl) _).setCell (p := ⟨g, 3, none⟩) (fun _ => rfl) _).setCell (p := ⟨g, 4, none⟩) (fun _ => rfl) _).setCell (p := ⟨g, 5, none⟩) (fun _ => rfl) _
theorem wr_next {g j gk c3 c4 : Nat} {P : List Int} {h : S5} {N x1 x2 x3 x4 x5 : Int} {w2 wr w6 : World} {A3 A4 : Option Addr} (hk : gk + 64 * j = P.length) (h64 : 64 ≤ gk) (hff : Frm (fun k => k = g) w2 wr) (hf6 : Frm (fun k => k = g) wr w6) (hsn : runs (j + 1) h P = ⟨x1, x2, x3, x4, x5⟩)
    (hblk6 : Blk w6 g 33 #[.bool true, .int .u32 x1, .int .u32 x2, .int .u32 x3, .int .u32 x4, .int .u32 x5, .slice A3 gk c3, .int .i64 N]) (hc4 : gk - 64 ≤ c4) (hr4 : Rd wr A4 (octs (P.drop (64 * (j + 1))))) (hne : ∀ q, A4 = some q → q.block ≠ g) :
    WRel g P h N w2 (gk - 64) (w6.setCell ⟨g, 6, none⟩ (.slice A4 (gk - 64) c4)) := by
  have h6 := hblk6.set 6 (.slice A4 (gk - 64) c4)
  simp only [List.setIfInBounds_toArray, List.set_cons_zero, List.set_cons_succ] at h6
  have hf7 : Frm (fun k => k = g) wr (w6.setCell ⟨g, 6, none⟩ (.slice A4 (gk - 64) c4)) := hf6.setCell (p := ⟨g, 6, none⟩) (fun _ => rfl) _
  refine ⟨⟨j + 1, A4, c4, by omega, hc4, hf7.rd hr4 (fun q hq _ => hne q hq), hne, ?_⟩, hff.trans hf7 (fun _ _ h => h)⟩
  rw [hsn]
  exact h6
theorem Rd.dropAt {w : World} {A : Option Addr} {xs : List Value} (h : Rd w A xs) (k : Nat) : Rd w (A.map fun x => ⟨x.block, x.off + k, none⟩) (xs.drop k) := fun hn => by
  rw [List.length_drop] at hn
  obtain ⟨b, off, rfl, hlt, hcell⟩ := h (by omega)
  refine ⟨b, off + k, rfl, hlt, fun i u hu => ?_⟩
  rw [List.getElem?_drop] at hu
  rw [Nat.add_assoc]
  exact hcell _ u hu
theorem map_block {A : Option Addr} {g k : Nat} (h : ∀ q, A = some q → q.block ≠ g) : ∀ q, (A.map fun x => (⟨x.block, x.off + k, none⟩ : Addr)) = some q → q.block ≠ g := fun q hq => by
  cases A with
  | none => cases hq
  | some x => simp at hq; subst hq; exact h x rfl
theorem add_block (x : Addr) (k : Nat) : (x.add k).block = x.block := by unfold Addr.add; split <;> rfl
theorem wr_end {B g j gk c3 m M : Nat} {P bs xs : List Int} {h s : S5} {w w2 wr w6 : World} {A3 : Option Addr} {v v4 : Value} (hge : B ≤ g) (hlt : g < w.heap.size) (hoo : Oct (bs ++ xs)) (hk : gk + 64 * j = P.length) (h64 : gk < 64) (hs : runs j h P = s)
    (hhas : hasI (bs ++ xs) = runs (P.length / 64) h P) (hres : restI (bs ++ xs) = P.drop (64 * (P.length / 64))) (hM2 : ((bs ++ xs).length : Int) = (M : Int) + (m : Int))
    (hff2 : Frm (fun k => k = g ∨ v.ownBlock = some k) w w2) (hff : Frm (fun k => k = g) w2 wr)
    (hbk : Blk wr g 33 #[.bool true, .int .u32 s.a, .int .u32 s.b, .int .u32 s.c, .int .u32 s.d, .int .u32 s.e, .slice A3 gk c3, .int .i64 ((M : Int) + (m : Int))])
    (o4 : w6.ownsRow wr.heap.size 5 1 v4 gk ([] ++ octs (P.drop (64 * j)))) (hb4 : Below wr.heap.size wr w6) (hl4 : v4.ownBlock = (Value.slice none 0 0).ownBlock ∨ v4.ownBlock = some wr.heap.size) :
    Written B g bs xs v w (.returned (.int .i64 0)) (w6.setCell ⟨g, 6, none⟩ v4) := by
  have hj : P.length / 64 = j := by omega
  rw [hj] at hhas hres
  rw [hs] at hhas
  have hsz : w.heap.size ≤ wr.heap.size := Nat.le_trans hff2.size hff.size
  have hbk6 : Blk w6 g 33 _ := hbk.below hb4
  have hset := hbk6.set 6 v4
  simp only [List.setIfInBounds_toArray, List.set_cons_zero, List.set_cons_succ] at hset
  have hap := hbk6.apart o4 (by decide)
  have hf7 : Frm (fun k => k = g) w6 (w6.setCell ⟨g, 6, none⟩ v4) := (Frm.refl (fun k => k = g) w6).setCell (p := ⟨g, 6, none⟩) (fun _ => rfl) _
  have ho7 := hf7.own o4 hap
  refine ⟨rfl, ⟨v4, ⟨hge, hoo, ?_, ?_⟩, ?_⟩, ?_⟩
  · rw [hhas, hM2]; exact hset
  · rw [hres]
    have hln : (P.drop (64 * j)).length = gk := by rw [List.length_drop]; omega
    rw [hln]
    have := own_mono ho7 (B := B) (by omega)
    simpa using this
  · intro k hk
    rcases hl4 with h | h
    · rw [h] at hk; simp [Value.ownBlock] at hk
    · rw [h] at hk; injection hk with hk; omega
  · exact ((hff2.trans hff (fun _ _ h => .inl h)).below hb4).trans hf7 (fun _ _ h => .inl h)
set_option maxHeartbeats 4000000 in
set_option maxRecDepth 100000 in
theorem write_any (B g : Nat) (bs xs : List Int) (v : Value) (A : Option Addr) (m c : Nat) (w : World) (hd : Dig B w g bs v) (hm : m = xs.length) (ho : Oct xs) (hr : Rd w A (octs xs)) (hA : 0 < xs.length → ∀ q, A = some q → q.block ≠ g) (hlen : bs.length + m ≤ 140737488355000) :
    Calls Try.prog 12 #[.pointer (some ⟨g, 0, none⟩), .slice A m c] w (Written B g bs xs v w) := by
  obtain ⟨hge, hoct, hblk, hown⟩ := hd
  obtain ⟨A0, cc0, rfl, hc0⟩ := own_slice hown
  have hap := hblk.apart hown (by decide)
  obtain ⟨P, hP⟩ : ∃ P, restI bs ++ xs = P := ⟨_, rfl⟩
  have hrl := restI_length bs
  have hPl : P.length = (restI bs).length + m := by rw [← hP, List.length_append, hm]
  have hPo : Oct P := by rw [← hP]; exact (hoct.drop _).append ho
  have hhas := hasI_app bs xs
  have hres := restI_app bs xs
  rw [hP, ← hm, ← hPl] at hhas hres
  have hlow : (restI bs).length ≤ bs.length := by rw [hrl]; omega
  obtain ⟨R, hR⟩ : ∃ R, restI bs = R := ⟨_, rfl⟩
  rw [hR] at hown hc0 hap hP hrl hPl hlow hblk ⊢
  obtain ⟨H, hH⟩ : ∃ H, hasI bs = H := ⟨_, rfl⟩
  rw [hH] at hblk hhas
  obtain ⟨Ha, Hb, Hc, Hd, He⟩ := H
  obtain ⟨n0, hn0⟩ : ∃ n0, R.length = n0 := ⟨_, rfl⟩
  rw [hn0] at hown hc0 hap hrl hPl hlow hblk ⊢
  obtain ⟨M, hM⟩ : ∃ M, bs.length = M := ⟨_, rfl⟩
  have hM2 : ((bs ++ xs).length : Int) = (M : Int) + (m : Int) := by simp [hM, hm]
  rw [hM] at hblk hlen hrl hlow
  simp only at hblk
  have c0 := hblk.cell 0
  have c6 := hblk.cell 6
  have c7 := hblk.cell 7
  have f6 := hblk.frozen 6
  have f7 := hblk.frozen 7
  simp at c0 c6 c7
  have hset := hblk.set 7 (.int .i64 ((M : Int) + (m : Int)))
  simp only [List.setIfInBounds_toArray, List.set_cons_zero, List.set_cons_succ] at hset
  have hf1 : Frm (fun k => k = g) w (w.setCell ⟨g, 7, none⟩ (.int .i64 ((M : Int) + (m : Int)))) := (Frm.refl (fun k => k = g) w).setCell (p := ⟨g, 7, none⟩) (fun _ => rfl) _
  have ho1 := hf1.own hown (fun k hk e => hap k hk e)
  have hr1 : Rd (w.setCell ⟨g, 7, none⟩ (.int .i64 ((M : Int) + (m : Int)))) A (octs xs) := fun hx => hf1.rd hr (fun q hq _ => hA (by rwa [octs_length] at hx) q hq) hx
  have s1 : (w.setCell ⟨g, 7, none⟩ (.int .i64 ((M : Int) + (m : Int)))).heap.size = w.heap.size := by simp [World.setCell]
  have HR1 := Lib.hid hr1
  have HO1 := Lib.hid ho1
  have HF1 := Lib.hid hf1
  have HSET := Lib.hid hset
  have HPO := Lib.hid hPo
  have HPL := Lib.hid hPl
  have HPP := Lib.hid hP
  have HHAS := Lib.hid hhas
  have HRES := Lib.hid hres
  have HM2 := Lib.hid hM2
  have HM := Lib.hid hM
  have HAP := Lib.hid hap
  have HOX := Lib.hid ho
  have HN := Lib.hid (show n0 + m ≤ 140737488355000 by omega)
  have HXL := Lib.hid hm
  have HGE := Lib.hid hge
  have HLT := Lib.hid hblk.lt
  have HRL := Lib.hid hrl
  have HRE := Lib.hid hR
  have HHE := Lib.hid hH
  have HBSO := Lib.hid hoct
  clear hr1 ho1 hf1 hset hPo hPl hP hhas hres hM2 hM hap ho hr hown hblk hA hge hoct hrl hR hH hn0 hm
  go_enter Try.func12, Try.ntmps12
  go_wp2_with (at_builtin; refine wpList_appAt tBytes rfl (.tmp 27) (.tmp 28) rfl B (.slice A0 n0 cc0) n0 (octs R) rfl HO1.out A m c (octs xs) rfl (by rw [octs_length]; exact HXL.out) HR1.out octs_one (by have := HN.out; omega) (by have := HN.out; unfold maxLen; omega) (by have h1 := HLT.out; have h2 := HGE.out; simp [World.setCell]; omega) ?_; intro v2 w2 o2 hg2 hb2 hl2; obtain ⟨A2, cc2, hv2, hc2⟩ := own_slice o2; subst hv2; obtain ⟨hbk2, hff2, hRR2, hne2⟩ := wr_mid HSET.out HF1.out HAP.out o2 hg2; obtain ⟨d6, e6⟩ := And.intro (hbk2.cell 6) (hbk2.frozen 6); rw [List.getElem?_toArray] at d6; simp only [List.getElem?_cons_succ, List.getElem?_cons_zero] at d6; clear o2 hg2 hb2 hl2 HO1 HR1 HSET HF1)
  rw [HPP.out] at hRR2
  have hset3 := hbk2.set 6 (.slice A2 (n0 + m) cc2)
  simp only [List.setIfInBounds_toArray, List.set_cons_zero, List.set_cons_succ] at hset3
  have hf3 : Frm (fun k => k = g) w2 (w2.setCell ⟨g, 6, none⟩ (.slice A2 (n0 + m) cc2)) := (Frm.refl (fun k => k = g) w2).setCell (p := ⟨g, 6, none⟩) (fun _ => rfl) _
  have hR3 := hf3.rd hRR2 (fun q hq _ => hne2 q hq)
  have HRR := Lib.hid hR3
  have HS3 := Lib.hid hset3
  have HF3 := Lib.hid hf3
  have HNE := Lib.hid hne2
  have HFF2 := Lib.hid hff2
  have HL2 := Lib.hid hbk2.lt
  have HC2 := Lib.hid hc2
  clear hR3 hset3 hf3 hne2 hRR2 hff2 hbk2 d6 e6 c0 c6 c7 f6 f7
  go_loopg [] (n0 + m) (fun k wr => WRel g P ⟨Ha, Hb, Hc, Hd, He⟩ ((M : Int) + (m : Int)) w2 k wr)
  case atStart => exact ⟨⟨0, A2, cc2, by have := HPL.out; omega, HC2.out, by simpa using HRR.out, HNE.out, HS3.out⟩, HF3.out⟩
  case round =>
    obtain ⟨⟨j, A3, c3, hk, hkc, hrd, hne, hbk⟩, hff⟩ := hrel
    obtain ⟨s, hs⟩ : ∃ s, runs j ⟨Ha, Hb, Hc, Hd, He⟩ P = s := ⟨_, rfl⟩
    rw [hs] at hbk
    obtain ⟨sa, sb, sc, sd, se⟩ := s
    simp only at hbk
    have c1 := hbk.cell 1
    have c2 := hbk.cell 2
    have c3' := hbk.cell 3
    have c4 := hbk.cell 4
    have c5 := hbk.cell 5
    have c6 := hbk.cell 6
    simp at c1 c2 c3' c4 c5 c6
    by_cases h64 : 64 ≤ gk
    · have hbo : Oct ((P.drop (64 * j)).take 64) := (HPO.out.drop _).take _
      have hbr : Rd wr.drew A3 (octs ((P.drop (64 * j)).take 64)) := by rw [← octs_take]; exact hrd.take 64
      obtain ⟨s2, hs2⟩ : ∃ s2, blockI ⟨sa, sb, sc, sd, se⟩ ((P.drop (64 * j)).take 64) = s2 := ⟨_, rfl⟩
      have hbl : Calls Try.prog 25 #[.agg #[.int .u32 sa, .int .u32 sb, .int .u32 sc, .int .u32 sd, .int .u32 se], .slice A3 64 c3] wr.drew fun e w' => e = .returned (.agg s2.vals) ∧ Below wr.drew.heap.size wr.drew w' := by
        rw [← hs2]
        exact block_any ⟨sa, sb, sc, sd, se⟩ _ A3 c3 wr.drew (by rw [List.length_take, List.length_drop]; omega) hbo hbr (by omega)
      have hsn := runs_snoc j ⟨Ha, Hb, Hc, Hd, He⟩ P
      rw [hs, hs2] at hsn
      obtain ⟨x1, x2, x3, x4, x5⟩ := s2
      have hkc' : (64 : Int) ≤ c3 := by omega
      have hk64 : (64 : Int) ≤ gk := by omega
      have hbl' : Calls Try.prog 25 #[.agg #[.int .u32 sa, .int .u32 sb, .int .u32 sc, .int .u32 sd, .int .u32 se], .slice A3 64 c3] wr.drew fun e w' => e = .returned (.agg #[.int .u32 x1, .int .u32 x2, .int .u32 x3, .int .u32 x4, .int .u32 x5]) ∧ Below wr.drew.heap.size wr.drew w' := hbl
      have HBL := Lib.hid hbl'
      have HSN := Lib.hid hsn
      have HBK := Lib.hid hbk
      have HFF := Lib.hid hff
      have HRD := Lib.hid hrd
      have HNE3 := Lib.hid hne
      have HK := Lib.hid hk
      have hS0 : wr.drew.cell? ⟨g, 6, none⟩ = some (.slice A3 gk c3) := c6
      clear hbl hbl' hsn hbk hff hbo hbr hs hs2 hrd hne hk
      go_wp2_with fail
      refine wp_region_held_drew (S := fun w' => w'.cell? ⟨g, 6, none⟩ = some (.slice A3 gk c3)) (by kernel_rfl) hS0 (fun hHeld => ?_)
      refine wpAnyH_takeD (i := 0) (d := 38) (oi := _) (v := ?_) rfl rfl (by kernel_rfl) (by kernel_rfl) (by kernel_rfl) (fun _ _ _ h => h) (Or.inl ⟨by rfl, ?_⟩) (by assumption) ?_
      rotate_left
      · (intro w hSw; (try dsimp only at hSw); go_simp) <;> with_reducible rfl
      simp only [Act.put, List.setIfInBounds_toArray, List.set_cons_zero, List.set_cons_succ]
      refine wpAnyH_takeD (i := 1) (d := 39) (oi := _) (v := ?_) rfl rfl (by kernel_rfl) (by kernel_rfl) (by kernel_rfl) (fun _ _ _ h => h) (Or.inl ⟨by rfl, ?_⟩) (by assumption) ?_
      rotate_left
      · (intro w hSw; (try dsimp only at hSw); go_simp) <;> with_reducible rfl
      simp only [Act.put, List.setIfInBounds_toArray, List.set_cons_zero, List.set_cons_succ]
      refine wpAnyH_takeD (i := 2) (d := 40) (oi := _) (v := ?_) rfl rfl (by kernel_rfl) (by kernel_rfl) (by kernel_rfl) (fun _ _ _ h => h) (Or.inl ⟨by rfl, ?_⟩) (by assumption) ?_
      rotate_left
      · (intro w hSw; (try dsimp only at hSw); go_simp) <;> with_reducible rfl
      simp only [Act.put, List.setIfInBounds_toArray, List.set_cons_zero, List.set_cons_succ]
      refine wpAnyH_takeD (i := 3) (d := 41) (oi := _) (v := ?_) rfl rfl (by kernel_rfl) (by kernel_rfl) (by kernel_rfl) (fun _ _ _ h => h) (Or.inl ⟨by rfl, ?_⟩) (by assumption) ?_
      rotate_left
      · (intro w hSw; (try dsimp only at hSw); go_simp) <;> with_reducible rfl
      simp only [Act.put, List.setIfInBounds_toArray, List.set_cons_zero, List.set_cons_succ]
      refine wpAnyH_takeD (i := 5) (d := 43) (oi := _) (v := ?_) rfl rfl (by kernel_rfl) (by kernel_rfl) (by kernel_rfl) (fun _ _ _ h => h) (Or.inl ⟨by rfl, ?_⟩) (by assumption) ?_
      rotate_left
      · (intro w hSw; (try dsimp only at hSw); go_simp) <;> with_reducible rfl
      simp only [Act.put, List.setIfInBounds_toArray, List.set_cons_zero, List.set_cons_succ]
      refine wpAnyH_takeD (i := 6) (d := 44) (oi := _) (v := ?_) rfl rfl (by kernel_rfl) (by kernel_rfl) (by kernel_rfl) (fun _ _ _ h => h) (Or.inl ⟨by rfl, ?_⟩) (by assumption) ?_
      rotate_left
      · (intro w hSw; (try dsimp only at hSw); go_simp) <;> with_reducible rfl
      simp only [Act.put, List.setIfInBounds_toArray, List.set_cons_zero, List.set_cons_succ]
      refine wpAnyH_takeD (i := 7) (d := 45) (oi := _) (v := ?_) rfl rfl (by kernel_rfl) (by kernel_rfl) (by kernel_rfl) (fun _ _ _ h => h) (Or.inl ⟨by rfl, ?_⟩) (by assumption) ?_
      rotate_left
      · (intro w hSw; (try dsimp only at hSw); go_simp) <;> with_reducible rfl
      simp only [Act.put, List.setIfInBounds_toArray, List.set_cons_zero, List.set_cons_succ]
      refine wpAnyH_takeD (i := 8) (d := 46) (oi := _) (v := ?_) rfl rfl (by kernel_rfl) (by kernel_rfl) (by kernel_rfl) (fun _ _ _ h => h) (Or.inl ⟨by rfl, ?_⟩) (by assumption) ?_
      rotate_left
      · (intro w hSw; (try dsimp only at hSw); go_simp) <;> with_reducible rfl
      simp only [Act.put, List.setIfInBounds_toArray, List.set_cons_zero, List.set_cons_succ]
      refine wpAnyH_takeD (i := 9) (d := 47) (oi := _) (v := ?_) rfl rfl (by kernel_rfl) (by kernel_rfl) (by kernel_rfl) (fun _ _ _ h => h) (Or.inl ⟨by rfl, ?_⟩) (by assumption) ?_
      rotate_left
      · (intro w hSw; (try dsimp only at hSw); go_simp) <;> with_reducible rfl
      simp only [Act.put, List.setIfInBounds_toArray, List.set_cons_zero, List.set_cons_succ]
      refine wpAnyH_ready (rs := [4]) (by kernel_rfl) (by simp) ?_
      refine AllReadyH.cons (o := _) rfl (fun K hK => ?_) AllReadyH.nil
      go_simp
      refine hK.out _ _ hHeld (fun hHeld => ?_)
      clear hK K
      try simp only [Act.put, List.setIfInBounds_toArray, List.set_cons_zero, List.set_cons_succ]
      refine wpAnyH_ready (rs := [10]) (by kernel_rfl) (by simp) ?_
      refine AllReadyH.cons (o := _) rfl (fun K hK => ?_) AllReadyH.nil
      go_simp
      refine (HBL.out).mono ?_
      rintro e w5 ⟨rfl, hb5⟩
      obtain ⟨⟨e1, e2, e3, e4, e5⟩, hfz, e6, hS5, hblk5, hf5⟩ := wr_call (w2 := wr) (x1 := x1) (x2 := x2) (x3 := x3) (x4 := x4) (x5 := x5) HBK.out (Frm.refl _ wr) hb5
      have q1 := hfz 1
      have q2 := hfz 2
      have q3 := hfz 3
      have q4 := hfz 4
      have q5 := hfz 5
      go_wp2_with fail
      refine hK.out _ _ e6 (fun hHeld => ?_)
      clear hK K
      try simp only [Act.put, List.setIfInBounds_toArray, List.set_cons_zero, List.set_cons_succ]
      refine wpAnyH_takeD (i := 11) (d := 49) (oi := _) (v := ?_) rfl rfl (by kernel_rfl) (by kernel_rfl) (by kernel_rfl) (fun _ _ _ h => h) (Or.inl ⟨by rfl, ?_⟩) (by assumption) ?_
      rotate_left
      · (intro w hSw; (try dsimp only at hSw); go_simp) <;> with_reducible rfl
      simp only [Act.put, List.setIfInBounds_toArray, List.set_cons_zero, List.set_cons_succ]
      refine wpAnyH_takeD (i := 12) (d := 50) (oi := _) (v := ?_) rfl rfl (by kernel_rfl) (by kernel_rfl) (by kernel_rfl) (fun _ _ _ h => h) (Or.inl ⟨by rfl, ?_⟩) (by assumption) ?_
      rotate_left
      · (intro w hSw; (try dsimp only at hSw); go_simp) <;> with_reducible rfl
      simp only [Act.put, List.setIfInBounds_toArray, List.set_cons_zero, List.set_cons_succ]
      refine wpAnyH_ready (rs := [13]) (by kernel_rfl) (by simp) ?_
      refine AllReadyH.cons (o := _) rfl (fun K hK => ?_) AllReadyH.nil
      go_simp
      refine hK.out _ _ hS5 (fun hHeld => ?_)
      clear hK K
      try simp only [Act.put, List.setIfInBounds_toArray, List.set_cons_zero, List.set_cons_succ]
      refine wpAnyH_done (by kernel_rfl) ?_ _
      generalize (((((w5.setCell ⟨g, 1, none⟩ (.int .u32 x1)).setCell ⟨g, 2, none⟩ (.int .u32 x2)).setCell ⟨g, 3, none⟩ (.int .u32 x3)).setCell ⟨g, 4, none⟩ (.int .u32 x4)).setCell ⟨g, 5, none⟩ (.int .u32 x5)) = w6 at hblk5 hf5 hHeld ⊢
      have HB6 := Lib.hid hblk5
      have HF6 := Lib.hid hf5
      have z6 := hblk5.frozen 6
      rename_i hHeld1
      clear hblk5 hf5 c1 c2 c3' c4 c5 c6 e1 e2 e3 e4 e5 e6 q1 q2 q3 q4 q5 hfz hS5 hb5 hS0
      have hk1 : 64 * (j + 1) = 64 * j + 64 := by omega
      by_cases hc64 : c3 = 64
      · subst hc64
        obtain rfl : gk = 64 := by omega
        go_wp2_with fail
        go_roundg 0
        case measure => omega
        case rel => exact wr_next (gk := 64) (c4 := 0) HK.out (Nat.le_refl _) HFF.out HF6.out HSN.out HB6.out (by omega) (by rw [List.drop_eq_nil_of_le (by have := HK.out; omega)]; exact Rd.nil _ _) HNE3.out
      · go_wp2_with fail
        go_roundg (gk - 64)
        case measure => omega
        case rel =>
          refine wr_next HK.out h64 HFF.out HF6.out HSN.out HB6.out (by omega) ?_ (map_block HNE3.out)
          have := HRD.out.dropAt 64
          rw [octs_drop, List.drop_drop, ← hk1] at this
          exact this
    · have hk64 : gk < 64 := by omega
      have f6 := hbk.frozen 6
      have HK := Lib.hid hk
      have HRD := Lib.hid hrd
      have HBK := Lib.hid hbk
      have HFF := Lib.hid hff
      have HSE := Lib.hid hs
      clear hk hrd hbk hff hs hne c1 c2 c3' c4 c5
      go_wp2_with (at_builtin; refine wpList_appAt tBytes rfl (.const (.slice none 0 0)) (.tmp 63) rfl wr.heap.size (.slice none 0 0) 0 [] rfl ⟨rfl, .inl ⟨rfl, rfl⟩⟩ A3 gk c3 (octs (P.drop (64 * j))) rfl (by rw [octs_length, List.length_drop]; have := HK.out; omega) HRD.out octs_one (by omega) (by unfold maxLen; omega) (Nat.le_refl _) ?_; intro v4 w6 o4 hg4 hb4 hl4; rw [Nat.zero_add] at o4; obtain ⟨d6, e6⟩ := And.intro ((HBK.out.below hb4).cell 6) ((HBK.out.below hb4).frozen 6); rw [List.getElem?_toArray] at d6; simp only [List.getElem?_cons_succ, List.getElem?_cons_zero] at d6; have HO4 := Lib.hid o4; have HB4 := Lib.hid hb4; have HL4 := Lib.hid hl4; obtain ⟨A4, cc4, hv4, hc4⟩ := own_slice o4; subst hv4; clear o4 hg4 hb4 hl4)
      go_ret
      exact wr_end HGE.out HLT.out (HBSO.out.append HOX.out) HK.out hk64 HSE.out HHAS.out HRES.out HM2.out HFF2.out HFF.out HBK.out HO4.out HB4.out HL4.out
end Go.Proofs.Ytgkgdbjdmmieaaa
