/- Apply: a walk of each way: no room, no right number of blocks; what the other ways need. -/
import Derived.Test.YtlhhkmpidnegcaaVeA1
namespace Go.Proofs.Ytlhhkmpidnegcaa
open Go.RowKit Go.WideShapes
set_option linter.unusedVariables false
set_option linter.unusedSimpArgs false
/-- What Apply tells, the table behind it, what may have turned. -/
structure ApE (B gt gi mb most : Nat) (r : Int × Tab) (v V : Value) (w0 : World) (e : Ending) (w : World) : Prop where
  ret : e = .returned (.int .i64 r.1)
  ex : ∃ n' v' V' xs', n' ≤ most ∧ Tb B w gt gi mb n' r.2 v' V' xs' ∧ (V'.ownBlock = V.ownBlock ∨ ∀ k, V'.ownBlock = some k → w0.heap.size ≤ k) ∧ ∀ k, v'.ownBlock = some k → v.ownBlock = some k ∨ w0.heap.size ≤ k
  frm : Frm (fun k => k = gt ∨ k = gi ∨ k = mb ∨ v.ownBlock = some k ∨ V.ownBlock = some k) w0 w
/-- What the walk reads: the boxes, the table. -/
structure FxA (tb eb wb gt gi : Nat) (roll bl : Int) (L0 : Nat) (F V : Value) (W : World) : Prop where
  t : W.cell? ⟨tb, 0, none⟩ = some (.pointer (some ⟨gt, 0, none⟩))
  e0 : W.cell? ⟨eb, 0, none⟩ = some (.int .i64 roll)
  e1 : W.cell? ⟨eb, 1, none⟩ = some F
  b : W.cell? ⟨wb, 0, none⟩ = some (.int .i64 (L0 : Int))
  g0 : W.cell? ⟨gt, 0, none⟩ = some (.pointer (some ⟨gi, 0, none⟩))
  g1 : W.cell? ⟨gt, 1, none⟩ = some (.int .i64 bl)
  g2 : W.cell? ⟨gt, 2, none⟩ = some V
theorem FxA.frm {tb eb wb gt gi : Nat} {roll bl : Int} {L0 : Nat} {F V : Value} {W W' : World} {S : Nat → Prop} (h : FxA tb eb wb gt gi roll bl L0 F V W) (hf : Frm S W W') (h1 : ¬ S tb) (h2 : ¬ S eb) (h3 : ¬ S wb) (h4 : ¬ S gt) : FxA tb eb wb gt gi roll bl L0 F V W' :=
  ⟨(hf.cell (p := ⟨tb, 0, none⟩) (block_lt_of_cell h.t) h1).trans h.t, (hf.cell (p := ⟨eb, 0, none⟩) (block_lt_of_cell h.e0) h2).trans h.e0, (hf.cell (p := ⟨eb, 1, none⟩) (block_lt_of_cell h.e1) h2).trans h.e1, (hf.cell (p := ⟨wb, 0, none⟩) (block_lt_of_cell h.b) h3).trans h.b,
    (hf.cell (p := ⟨gt, 0, none⟩) (block_lt_of_cell h.g0) h4).trans h.g0, (hf.cell (p := ⟨gt, 1, none⟩) (block_lt_of_cell h.g1) h4).trans h.g1, (hf.cell (p := ⟨gt, 2, none⟩) (block_lt_of_cell h.g2) h4).trans h.g2⟩
section
variable {B gt gi mb nst : Nat} {T : Tab} {v V : Value} {xs : List Value}
theorem ap_same {w w' : World} {x : Int} {most : Nat} (h : Tb B w gt gi mb nst T v V xs) (hb : Below w.heap.size w w') (hm : nst ≤ most) : ApE B gt gi mb most (x, T) v V w (.returned (.int .i64 x)) w' :=
  ⟨rfl, ⟨nst, v, V, xs, hm, h.below hb, .inl rfl, fun _ h => .inl h⟩, Frm.of_below hb⟩
set_option maxRecDepth 100000 in
set_option maxHeartbeats 4000000 in
theorem ap_full (blocks roll : Int) (Ap Af : Option Addr) (np cp nf cf : Nat) (w : World) (h : Tb B w gt gi mb nst T v V xs) (hnp : np ≤ 1000000) (hbk : -9223372036854775808 ≤ blocks ∧ blocks ≤ 9223372036854775807)
    (hc : T.vs.length = 100 ∨ 1048576 - T.bl < blocks ∨ 8192 - (T.ps.length : Int) < (np : Int)) :
    Calls Try.prog 7 #[.pointer (some ⟨gt, 0, none⟩), .int .i64 blocks, .slice Ap np cp, .agg #[.int .i64 roll, .slice Af nf cf]] w fun e w' => e = .returned (.int .i64 5) ∧ Below w.heap.size w w' := by
  have hb2 := ((Below.refl w.heap.size w).alloc (Nat.le_refl _) (.cells #[.pointer (some ⟨gt, 0, none⟩)] 23)).alloc (by simp) (.cells #[.int .i64 roll, .slice Af nf cf] 29)
  have h2 := h.below hb2
  obtain ⟨VA, Vc, rfl, hVc⟩ := own_slice h.row
  have c0 := h.blk.cell 0
  have c1 := h.blk.cell 1
  have c2 := h.blk.cell 2
  simp at c0 c1 c2
  have hno := none33 _ h2.blk
  have hle := len_any _ h2.idx
  have hbl0 := h.b0
  have hbl1 := h.b1
  have hlm := h.lm
  have hvl := h.vl
  have hgt := h.lt
  have HB2 := Lib.hid hb2
  have HNO := Lib.hid hno
  have HLE := Lib.hid hle
  generalize T.vs.length = L at *
  generalize T.ps.length = L0 at *
  generalize T.bl = bl at *
  clear hb2 hno hle h h2
  have hn1 : gt ≠ w.heap.size := by omega
  have hn2 : gt ≠ w.heap.size + 1 := by omega
  by_cases h1 : L = 100
  · have e1 : ((L : Int) == 100) = true := by simp [h1]
    have H1 := Lib.hid h1
    clear hc h1
    go_enter Try.func7, Try.ntmps7
    go_wp2_with fail
    refine (HNO.out).mono ?_
    rintro e w1 ⟨rfl, rfl⟩
    go_wp2
    go_ret
    exact ⟨rfl, HB2.out⟩
  · have e1 : ((L : Int) == 100) = false := by simp; omega
    by_cases h3 : 1048576 - bl < blocks
    · have e2 : decide (1048576 - bl < blocks) = true := decide_eq_true h3
      clear hc h1
      go_enter Try.func7, Try.ntmps7
      go_wp2_with fail
      refine (HNO.out).mono ?_
      rintro e w1 ⟨rfl, rfl⟩
      go_wp2
      go_ret
      exact ⟨rfl, HB2.out⟩
    · have e2 : decide (1048576 - bl < blocks) = false := decide_eq_false h3
      have h4 : 8192 - (L0 : Int) < np := by omega
      have e3 : decide (8192 - (L0 : Int) < np) = true := decide_eq_true h4
      clear hc h1
      go_enter Try.func7, Try.ntmps7
      go_wp2_with fail
      refine (HNO.out).mono ?_
      rintro e w1 ⟨rfl, rfl⟩
      go_wp2_with fail
      refine (HLE.out).mono ?_
      rintro e w1 ⟨rfl, rfl⟩
      go_wp2
      go_ret
      exact ⟨rfl, HB2.out⟩
set_option maxRecDepth 100000 in
set_option maxHeartbeats 4000000 in
theorem ap_neg (blocks roll : Int) (Ap Af : Option Addr) (np cp nf cf : Nat) (w : World) (h : Tb B w gt gi mb nst T v V xs) (hnp : np ≤ 1000000) (hbk : -9223372036854775808 ≤ blocks ∧ blocks ≤ 9223372036854775807)
    (hc1 : T.vs.length ≠ 100) (hc2 : ¬ 1048576 - T.bl < blocks) (hc3 : ¬ 8192 - (T.ps.length : Int) < (np : Int)) (hc4 : blocks < 0) :
    Calls Try.prog 7 #[.pointer (some ⟨gt, 0, none⟩), .int .i64 blocks, .slice Ap np cp, .agg #[.int .i64 roll, .slice Af nf cf]] w fun e w' => e = .returned (.int .i64 2) ∧ Below w.heap.size w w' := by
  have hb2 := ((Below.refl w.heap.size w).alloc (Nat.le_refl _) (.cells #[.pointer (some ⟨gt, 0, none⟩)] 23)).alloc (by simp) (.cells #[.int .i64 roll, .slice Af nf cf] 29)
  have h2 := h.below hb2
  obtain ⟨VA, Vc, rfl, hVc⟩ := own_slice h.row
  have c0 := h.blk.cell 0
  have c1 := h.blk.cell 1
  have c2 := h.blk.cell 2
  simp at c0 c1 c2
  have hno := none33 _ h2.blk
  have hle := len_any _ h2.idx
  have hbl0 := h.b0
  have hbl1 := h.b1
  have hlm := h.lm
  have hvl := h.vl
  have hgt := h.lt
  have HB2 := Lib.hid hb2
  have HNO := Lib.hid hno
  have HLE := Lib.hid hle
  generalize T.vs.length = L at *
  generalize T.ps.length = L0 at *
  generalize T.bl = bl at *
  clear hb2 hno hle h h2
  have hn1 : gt ≠ w.heap.size := by omega
  have hn2 : gt ≠ w.heap.size + 1 := by omega
  have e1 : ((L : Int) == 100) = false := by simp; omega
  have e2 : decide (1048576 - bl < blocks) = false := decide_eq_false hc2
  have e3 : decide (8192 - (L0 : Int) < np) = false := decide_eq_false hc3
  have e4 : decide (blocks < 0) = true := decide_eq_true hc4
  go_enter Try.func7, Try.ntmps7
  go_wp2_with fail
  refine (HNO.out).mono ?_
  rintro e w1 ⟨rfl, rfl⟩
  go_wp2_with fail
  refine (HLE.out).mono ?_
  rintro e w1 ⟨rfl, rfl⟩
  go_wp2
  go_ret
  exact ⟨rfl, HB2.out⟩
end
theorem wrong_len {ps : List Pc} (rt : ∀ p ∈ ps, rightP p.s p.b p.a = true) : ∀ (fr : List Int) (s : Int), s ≤ 131072 → wrongG ps s fr = false → s + (fr.length : Int) ≤ 131072
  | [], s, hs, _ => by simpa using hs
  | n :: r, s, hs, h => by
    unfold wrongG at h
    by_cases ho : okOf ps n = true
    · by_cases hd : s + szOf ps n ≤ 131072
      · rw [ho, show decide (s + szOf ps n ≤ 131072) = true from decide_eq_true hd, Bool.true_and, if_pos rfl] at h
        have h1 := wrong_len rt r _ hd h
        have h2 : 1 ≤ szOf ps n := by
          unfold szOf
          rw [if_pos ho]
          unfold okOf at ho
          simp only [Bool.and_eq_true, decide_eq_true_eq] at ho
          obtain ⟨p, hp⟩ : ∃ p, ps[(n - 1).toNat]? = some p := ⟨_, List.getElem?_eq_getElem (by omega)⟩
          rw [hp]
          have := rt p (List.mem_of_getElem? hp)
          simp only [rightP, Bool.and_eq_true, decide_eq_true_eq] at this
          simp only [Option.map_some, Option.getD_some]
          omega
        rw [List.length_cons]
        omega
      · rw [ho, show decide (s + szOf ps n ≤ 131072) = false from decide_eq_false hd, Bool.and_false, if_neg (by decide)] at h
        cases h
    · rw [show okOf ps n = false by simpa using ho, Bool.false_and, if_neg (by decide)] at h
      cases h
section
variable {B gt gi mb nst : Nat} {T : Tab} {v V : Value} {xs : List Value}
abbrev Sx (gi mb : Nat) (v : Value) (k : Nat) : Prop := k = gi ∨ k = mb ∨ v.ownBlock = some k
abbrev Sg (gt gi mb : Nat) (v : Value) (k : Nat) : Prop := k = gt ∨ k = gi ∨ k = mb ∨ v.ownBlock = some k
/-- Where Apply's loop stands. -/
structure LpS (B gt gi mb nst : Nat) (bl blocks : Int) (ps0 : List Pc) (vs : List (List (ByteArray × List Int))) (v V : Value) (xs : List Value) (pcs : List Pc) (k : Nat) (w3 wr : World) : Prop where
  ex : ∃ (psk : List Pc) (nk : Nat) (v' : Value), Tb B wr gt gi mb nk ⟨bl, psk, vs⟩ v' V xs ∧ psk.take ps0.length = ps0 ∧ ps0.length ≤ psk.length ∧ psk.length ≤ ps0.length + k ∧ nk ≤ nst + k ∧ addAll bl (bl + blocks) ps0 pcs = addAll bl (bl + blocks) psk (pcs.drop k) ∧ (∀ b, v'.ownBlock = some b → v.ownBlock = some b ∨ w3.heap.size ≤ b)
  frm : Frm (Sx gi mb v) w3 wr
/-- The closure has cut what was added. -/
theorem bad_done {bl x : Int} {ps0 psk : List Pc} {vs : List (List (ByteArray × List Int))} {nk most : Nat} {v' : Value} {w w3 W W' : World} {e : Ending} {r : Int × Tab} (hb3 : Below w.heap.size w w3) (hf : Frm (Sx gi mb v) w3 W) (h : Tb B W gt gi mb nk ⟨bl, psk, vs⟩ v' V xs) (ht : psk.take ps0.length = ps0) (hm : nk ≤ most)
    (hbad : Bad B gi mb nk (psk.take ps0.length) v' x W e W') (hvw : ∀ b, v'.ownBlock = some b → v.ownBlock = some b ∨ w.heap.size ≤ b) (hr : r = (x, ⟨bl, ps0, vs⟩)) : ApE B gt gi mb most r v V w e W' := by
  obtain ⟨h1, ⟨v2, hi, hv2⟩, hf2⟩ := hbad
  rw [ht] at hi
  subst hr
  have hsub : ∀ p ∈ ps0, p ∈ psk := fun p hp => List.mem_of_mem_take (ht.symm ▸ hp)
  have hT := h.turn (w' := W') (ps' := ps0) hf2 (fun k hk => hk.elim .inl (fun h => .inr (.inl h))) hi (fun p hp => h.rt p (hsub p hp)) (by
    have := h.nd
    rw [← ht, List.map_take]
    exact this.sublist (List.take_sublist _ _)) (by
    have h1 := h.lm
    have h2 : ps0.length ≤ psk.length := by
      have := congrArg List.length ht
      rw [List.length_take] at this
      omega
    exact Nat.le_trans h2 h1)
  refine ⟨h1, ⟨nk, v2, V, xs, hm, hT, .inl rfl, fun k hk => hvw k (hv2 ▸ hk)⟩, ?_⟩
  refine (((Frm.of_below (S := Sx gi mb v) hb3).trans hf (fun _ _ h => h)).trans hf2 (fun k _ hk => hk.elim .inl (fun h => .inr (.inl h)))).mono fun k _ hk => ?_
  rcases hk with h | h | h
  · exact .inr (.inl h)
  · exact .inr (.inr (.inl h))
  · exact .inr (.inr (.inr (.inl h)))
/-- A version was added. -/
theorem ok_done {bl : Int} {psk : List Pc} {vs : List (List (ByteArray × List Int))} {nk most n c2 : Nat} {v' V' : Value} {w w7 w8 w9 : World} {r : Int × Tab} {A2 : Option Addr} {fs : List Fl} {ds : List (ByteArray × List Int)} (hf : Frm (Sg gt gi mb v) w w7) (hv' : ∀ b, v'.ownBlock = some b → v.ownBlock = some b ∨ w.heap.size ≤ b)
    (h : Tb B w7 gt gi mb nk ⟨bl, psk, vs⟩ v' V xs) (hlt : vs.length < 100) (hm : nk ≤ most) (hfl : fs.length = n) (hd : fs.map Fl.dat = ds) (hn : n ≤ 200) (hfn : ∀ f ∈ fs, f.n ≤ 131072) (hb : Below w7.heap.size w7 w8) (ho : OwnF w7.heap.size w8 (.slice A2 n c2) fs)
    (hg : (w8.alloc (.cells #[.slice A2 n c2] 27)).grownBy w9 V.ownBlock) (h3 : w9.ownsRow B 27 1 V' (vs.length + 1) (xs ++ [.slice A2 n c2])) (hnew : V'.ownBlock = V.ownBlock ∨ ∀ k, V'.ownBlock = some k → (w8.alloc (.cells #[.slice A2 n c2] 27)).heap.size ≤ k) (hr : r = (0, ⟨bl, psk, vs ++ [ds]⟩)) :
    ApE B gt gi mb most r v V w (.returned (.int .i64 0)) (w9.setCell ⟨gt, 2, none⟩ V') := by
  subst hr
  have hs7 : w.heap.size ≤ w7.heap.size := hf.size
  refine ⟨rfl, ⟨nk, v', V', _, hm, h.more hlt w9 hfl hd hn hfn hb ho hg h3, hnew.imp id fun hk k he => ?_, hv'⟩, ?_⟩
  · have h1 := hk k he
    have h2 := hb.size
    simp at h1
    omega
  · have k1 : Frm (fun k => V.ownBlock = some k) w8 w9 := ((Frm.refl _ w8).alloc (.cells #[.slice A2 n c2] 27)).trans (Frm.of_grown hg (fun k hk => hk)) (fun _ _ h => h)
    have k2 := (hf.below hb).mono (T := fun k => k = gt ∨ k = gi ∨ k = mb ∨ v.ownBlock = some k ∨ V.ownBlock = some k) fun k _ hk => by
      rcases hk with h | h | h | h
      · exact .inl h
      · exact .inr (.inl h)
      · exact .inr (.inr (.inl h))
      · exact .inr (.inr (.inr (.inl h)))
    exact (k2.trans k1 (fun k _ hk => .inr (.inr (.inr (.inr hk))))).setCell (p := ⟨gt, 2, none⟩) (fun _ => .inl rfl) _
end
theorem formB_neg {ps : List Pc} {roll : Int} {ds : List (ByteArray × List Int)} (h : roll < 0) : formB ps roll ds = false := by
  unfold formB
  rw [show decide (0 ≤ roll) = false from decide_eq_false (by omega), Bool.false_and, Bool.false_and, Bool.false_and, Bool.false_and]
theorem formB_both {ps : List Pc} {roll : Int} {ds : List (ByteArray × List Int)} (h : 0 < roll) (hd : 0 < ds.length) : formB ps roll ds = false := by
  unfold formB
  rw [show decide (roll ≤ 0) = false from decide_eq_false (by omega), show decide (ds.length ≤ 0) = false from decide_eq_false (by omega), Bool.or_false, Bool.and_false, Bool.false_and, Bool.false_and, Bool.false_and]
theorem formB_many {ps : List Pc} {roll : Int} {ds : List (ByteArray × List Int)} (h : 200 < ds.length) : formB ps roll ds = false := by
  unfold formB
  rw [show decide (ds.length ≤ 200) = false from decide_eq_false (by omega), Bool.and_false, Bool.false_and, Bool.false_and]
theorem dat_names (fs : List Fl) : (fs.map Fl.dat).map Prod.fst = fs.map Fl.nm := by rw [List.map_map]; rfl
theorem dat_any (ps : List Pc) (fs : List Fl) : ((fs.map Fl.dat).any fun d => wrongB ps d.2) = fs.any fun f => wrongB ps f.fr := by rw [List.any_map]; rfl
theorem formB_name {ps : List Pc} {roll : Int} {fs : List Fl} (h : namedB (fs.map Fl.nm) = false) : formB ps roll (fs.map Fl.dat) = false := by
  unfold formB
  rw [dat_names, h, Bool.and_false, Bool.false_and]
theorem formB_wrong {ps : List Pc} {roll : Int} {fs : List Fl} (h : (fs.any fun f => wrongB ps f.fr) = true) : formB ps roll (fs.map Fl.dat) = false := by
  unfold formB
  rw [dat_any, h, Bool.not_true, Bool.and_false]
theorem formB_ok {ps : List Pc} {roll : Int} {fs : List Fl} (h0 : 0 ≤ roll) (h1 : roll ≤ 0 ∨ fs.length = 0) (h2 : fs.length ≤ 200) (h3 : namedB (fs.map Fl.nm) = true) (h4 : (fs.any fun f => wrongB ps f.fr) = false) : formB ps roll (fs.map Fl.dat) = true := by
  unfold formB
  rw [dat_any, dat_names, h3, h4, List.length_map, show decide (0 ≤ roll) = true from decide_eq_true h0, show decide (fs.length ≤ 200) = true from decide_eq_true h2]
  rcases h1 with h1 | h1
  · rw [show decide (roll ≤ 0) = true from decide_eq_true h1]; rfl
  · rw [show decide (fs.length ≤ 0) = true from decide_eq_true (by omega), Bool.or_true]; rfl
theorem sizes_of {B : Nat} {w : World} {v : Value} {fs fs' : List Fl} (h : fs'.map Fl.dat = fs.map Fl.dat) (ho : OwnF B w v fs') (hs : ∀ f ∈ fs, f.fr.length ≤ 131072) : ∀ f ∈ fs', f.n ≤ 131072 := fun f hf => by
  have h1 : f.dat ∈ fs.map Fl.dat := h ▸ List.mem_map_of_mem hf
  obtain ⟨g, hg, hgd⟩ := List.mem_map.1 h1
  have h2 := hs g hg
  have h3 := (ho.each f hf).1
  rw [ints_length] at h3
  have h4 : g.fr = f.fr := congrArg Prod.snd hgd
  rw [h4] at h2
  omega
theorem tVs : SlS Try.prog 25 27 (.slice none 0 0) 1 24 := ⟨Try.underlying25, by kernel_rfl, by kernel_rfl, by omega⟩
end Go.Proofs.Ytlhhkmpidnegcaa
