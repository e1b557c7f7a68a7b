/- blend: Leans: walk. · blend: New: walk. · blend: Contexts, whatever the row of leans is: walk. · blend: all calls of a blend of New's, told of its state. Plain over the contracts. · blend: the chapter's examples: walk. -/
import Derived.Test.YtnohfeaamfjimaaVrBlLn
import Derived.Test.YtnohfeaamfjimaaVrBlRp
import Derived.StillTailTactics
import Derived.IntWalk
import Derived.Lib.SliceRun
import Derived.Test.YtnohfeaamfjimaaVrBlBf
import Derived.Test.YtnohfeaamfjimaaVrPaEq
namespace Go.Proofs.Ytnohfeaamfjimaa
open Go.RowKit Go.WideShapes
set_option linter.unusedVariables false
set_option linter.unusedSimpArgs false
theorem tI1 : SlT Try.prog 48 3 (.int .i64 0) 8 := ⟨Try.underlying48, by kernel_rfl, rfl⟩
structure OwnsV (t : TypeId) (xs : List Value) (n : Nat) (w0 : World) (e : Ending) (w : World) : Prop where
  ex : ∃ A c, e = .returned (.slice A n c) ∧ n ≤ c ∧ w.ownsRow w0.heap.size t 1 (.slice A n c) n xs
  low : Below w0.heap.size w0 w
set_option maxHeartbeats 2000000 in
theorem cloneI_some (xs : List Int) (a : Addr) (n c : Nat) (w : World) (hn : n = xs.length) (hr : Rd w (some a) (ints xs)) (hm : n ≤ 1000000000) : Calls Try.prog 39 #[.slice (some a) n c] w (OwnsV 3 (ints xs) n w) := by
  subst hn
  have h := fun w => Lib.run_eql_slice_nil (P := Try.prog) w 48 3 (some a) xs.length c 0 0 Try.underlying48
  have HR := Lib.hid hr
  clear hr
  go_enter Try.func39, Try.ntmps39
  go_wp2_with (at_builtin; refine wpList_app tI1 rfl (.tmp 5) (.tmp 6) rfl w.heap.size (.slice (some ⟨w.heap.size, 0, none⟩) 0 0) 0 [] rfl (World.ownsRow_lit w #[] 0 (Nat.le_refl _) (by simp [maxLen]) rfl) (some a) _ c (ints xs) rfl (by rw [ints_length]) (HR.out.alloc _) (by intro u hu; obtain ⟨z, _, rfl⟩ := List.mem_map.1 hu; rfl) (by omega) (by unfold maxLen; omega) (by simp) ?_; intro v1 w1 o1 hg1 hb1)
  rw [Nat.zero_add, List.nil_append] at o1
  obtain ⟨A1, c1, rfl, hc1⟩ := own_slice o1
  go_ret
  exact ⟨⟨A1, c1, rfl, hc1, o1⟩, ((Below.refl _ _).alloc (Nat.le_refl _) _).trans hb1⟩
structure LeansE (base B R cr : Nat) (us : List Un) (ls : List Loc) (c : Int) (bits wh : Nat) (V : Value) (w0 : World) (e : Ending) (w : World) : Prop where
  ex : ∃ A cp V' wm, e = .returned (.slice A us.length cp) ∧ us.length ≤ cp ∧ w.ownsRow (wm : World).heap.size 3 1 (.slice A us.length cp) us.length (ints (leansB us c bits)) ∧ BM base wm B R cr us ls c bits wh V' (leansB us c bits) ∧
    (V'.ownBlock = V.ownBlock ∨ ∀ k, V'.ownBlock = some k → w0.heap.size ≤ k) ∧ Frm (fun b => b = B ∨ V.ownBlock = some b) w0 wm ∧ Below wm.heap.size wm w
set_option maxRecDepth 100000 in
theorem leans21 {base B R cr bits wh : Nat} {us : List Un} {ls : List Loc} {c : Int} {V : Value} {L : List Int} (w : World) (h : BM base w B R cr us ls c bits wh V L) (ho : UsOk us wh) (hc : 0 ≤ c ∧ c ≤ 255) (hb : bits < 8) (hne : 0 < us.length) :
    Calls Try.prog 21 #[.pointer (some ⟨B, 0, none⟩)] w (LeansE base B R cr us ls c bits wh V w) := by
  have HR := Lib.hid (rightYes B _ _ _ w hne (h.blk.cell 0))
  have HLN := Lib.hid (lean29 w h ho hc hb)
  have hll := leansB_length us c bits
  have h16 := h.n
  go_enter Try.func21, Try.ntmps21
  go_wp2_with fail
  refine (HR.out).mono ?_
  rintro e w1 ⟨rfl, rfl⟩
  go_wp2_with fail
  refine (HLN.out).mono ?_
  rintro e w2 ⟨⟨A, cp, rfl, hm, hn⟩, hf⟩
  have hlt : 0 < (leansB us c bits).length := by omega
  obtain ⟨g2, rfl, hcell⟩ := (hm.nb hll.symm (by omega)).rd _ hlt
  have HO := Lib.hid (show Rd w2 (some ⟨g2, 0, none⟩) (ints (leansB us c bits)) from by
    have := hm.own
    rw [hll] at this
    exact Rd.of_own this)
  have HM := Lib.hid hm
  have HN := Lib.hid hn
  have HF := Lib.hid hf
  have HLL := Lib.hid hll
  clear hm hn hf hll h HR HLN hlt hcell
  go_wp2_with fail
  refine (cloneI_some _ _ _ _ _ HLL.out.symm HO.out (by omega)).mono ?_
  rintro e w3 ⟨⟨A3, c3, rfl, hc3, ho3⟩, hb3⟩
  have HO3 := Lib.hid ho3
  have HB3 := Lib.hid hb3
  clear ho3 hb3
  go_wp2
  go_ret
  exact ⟨A3, c3, _, _, rfl, hc3, HO3.out, HM.out, HN.out, HF.out, HB3.out⟩
end Go.Proofs.Ytnohfeaamfjimaa
namespace Go.Proofs.Ytnohfeaamfjimaa
open Go.RowKit Go.WideShapes
set_option linter.unusedVariables false
set_option linter.unusedSimpArgs false
theorem tUnits : SlS Try.prog 55 63 .nilIface 1 16 := ⟨Try.underlying55, by kernel_rfl, by kernel_rfl, by omega⟩
def ifc (t : Pt) (l : Loc) : Value := .iface (ptU t.k) (.pointer (some ⟨l.g, 0, none⟩))
def box59 (A : Option Addr) (k c : Nat) : Array Value := #[.slice A k c, .int .i64 1, .int .i64 0, .int .i64 0, .slice none 0 0]
/-- Under way: the first k parts stand. -/
structure NwP (ts : List Pt) (w0 : World) (B k : Nat) (A : Option Addr) (c : Nat) (ls : List Loc) (ifs : List Value) (w : World) : Prop where
  blk : Blk w B 59 (box59 A k c)
  own : w.ownsRow w0.heap.size 63 1 (.slice A k c) k ifs
  len : ls.length = k
  row : ∀ (i : Nat) (t : Pt) (l : Loc), ts[i]? = some t → ls[i]? = some l → ifs[i]? = some (ifc t l)
  ub : ∀ (i : Nat) (t : Pt) (l : Loc), ts[i]? = some t → ls[i]? = some l → UB w (beginU t) l
  far : ∀ (i : Nat) (l : Loc), ls[i]? = some l → ∀ b, l.has b → w0.heap.size ≤ b ∧ b < w.heap.size ∧ b ≠ B ∧ (Value.slice A k c).ownBlock ≠ some b
  apart : ∀ (i j : Nat) (l m : Loc), ls[i]? = some l → ls[j]? = some m → i ≠ j → ∀ b, l.has b → ¬ m.has b
  geB : w0.heap.size ≤ B
  low : Below w0.heap.size w0 w
section
variable {ts : List Pt} {w0 w wX w3 : World} {B k c c' : Nat} {A A' : Option Addr} {ls : List Loc} {ifs : List Value}
theorem NwP.below (h : NwP ts w0 B k A c ls ifs w) (hb : Below w.heap.size w wX) : NwP ts w0 B k A c ls ifs wX :=
  ⟨h.blk.below hb, own_below h.own hb, h.len, h.row, fun i t l ht hl => (h.ub i t l ht hl).below hb, fun i l hl b hb' => by
    obtain ⟨q1, q2, q3⟩ := h.far i l hl b hb'
    exact ⟨q1, Nat.lt_of_lt_of_le q2 hb.size, q3⟩, h.apart, h.geB, bl_step h.low hb⟩
theorem NwP.ownB (h : NwP ts w0 B k A c ls ifs w) : (Value.slice A k c).ownBlock ≠ some B := fun e => h.blk.apart h.own (by decide) _ e rfl
theorem NwP.put {t : Pt} {l : Loc} (h : NwP ts w0 B k A c ls ifs w) (hb : Below w.heap.size w wX) (ht : ts[k]? = some t) (hu : UB wX (beginU t) l) (hl : ∀ b, l.has b → w.heap.size ≤ b ∧ b < wX.heap.size)
    (hf : Frm (fun b => (Value.slice A k c).ownBlock = some b) wX w3) (ho : w3.ownsRow w0.heap.size 63 1 (.slice A' (k + 1) c') (k + 1) (ifs ++ [ifc t l]))
    (hn : (Value.slice A' (k + 1) c').ownBlock = (Value.slice A k c).ownBlock ∨ ∀ b, (Value.slice A' (k + 1) c').ownBlock = some b → wX.heap.size ≤ b) :
    NwP ts w0 B (k + 1) A' c' (ls ++ [l]) (ifs ++ [ifc t l]) (w3.setCell ⟨B, 0, none⟩ (.slice A' (k + 1) c')) := by
  have h1 := h.below hb
  have hBlt : B < w.heap.size := h.blk.lt
  have hB2 := h1.blk.frm hf h1.ownB
  have hs := (Frm.refl (fun k => k = B) w3).setCell (p := ⟨B, 0, none⟩) (fun _ => rfl) (.slice A' (k + 1) c')
  have hVB : (Value.slice A' (k + 1) c').ownBlock ≠ some B := fun e => hB2.apart ho (by decide) _ e rfl
  have hVlt : ∀ b, (Value.slice A k c).ownBlock = some b → b < w.heap.size := fun b hb => (own_lt h.own b hb).2
  have hil : ifs.length = k := by have := h.own.1; omega
  have hnew : ∀ b, l.has b → (Value.slice A k c).ownBlock ≠ some b := fun b hb e => by
    have := hVlt b e
    have := (hl b hb).1
    omega
  have hsn : ∀ (i : Nat) (m : Loc), (ls ++ [l])[i]? = some m → (i < k ∧ ls[i]? = some m) ∨ (i = k ∧ m = l) := fun i m hm => by
    by_cases hi : i < k
    · rw [List.getElem?_append_left (by rw [h.len]; exact hi)] at hm
      exact .inl ⟨hi, hm⟩
    · rw [List.getElem?_append_right (by rw [h.len]; omega), h.len] at hm
      have : i - k = 0 := by
        have := (List.getElem?_eq_some_iff.1 hm).1
        simp at this
        omega
      rw [this] at hm
      simp at hm
      exact .inr ⟨by omega, hm.symm⟩
  refine ⟨?_, hs.own ho (fun b hb e => hVB (by rw [hb, e])), by rw [List.length_append, h.len]; rfl, fun i u m hu' hm => ?_, fun i u m hu' hm => ?_, fun i m hm b hb' => ?_, fun i j m n hm hn' hij b hb' hb2 => ?_, h.geB, ?_⟩
  · have := hB2.set 0 (.slice A' (k + 1) c')
    exact this
  · rcases hsn i m hm with ⟨hi, hm⟩ | ⟨rfl, rfl⟩
    · rw [List.getElem?_append_left (by rw [hil]; exact hi)]
      exact h.row i u m hu' hm
    · rw [ht] at hu'
      injection hu' with hu'
      subst hu'
      rw [List.getElem?_append_right (by rw [hil]; omega), hil, Nat.sub_self]
      rfl
  · rcases hsn i m hm with ⟨hi, hm⟩ | ⟨rfl, rfl⟩
    · exact ((h1.ub i u m hu' hm).frm hf (fun b hb' => (h1.far i m hm b hb').2.2.2)).frm hs (fun b hb' => (h1.far i m hm b hb').2.2.1)
    · rw [ht] at hu'
      injection hu' with hu'
      subst hu'
      exact (hu.frm hf hnew).frm hs (fun b hb' e => by have := (hl b hb').1; omega)
  · have hgrow := Nat.le_trans hf.size hs.size
    rcases hsn i m hm with ⟨hi, hm⟩ | ⟨rfl, rfl⟩
    · obtain ⟨q1, q2, q3, q4⟩ := h1.far i m hm b hb'
      refine ⟨q1, Nat.lt_of_lt_of_le q2 hgrow, q3, ?_⟩
      rcases hn with hn | hn
      · rw [hn]; exact q4
      · intro e
        have := hn b e
        omega
    · obtain ⟨q1, q2⟩ := hl b hb'
      have := h.low.size
      refine ⟨by omega, Nat.lt_of_lt_of_le q2 hgrow, by omega, ?_⟩
      rcases hn with hn | hn
      · rw [hn]; exact hnew b hb'
      · intro e
        have := hn b e
        omega
  · rcases hsn i m hm with ⟨hi, hm1⟩ | ⟨hi, hm1⟩
    · rcases hsn j n hn' with ⟨hj, hn1⟩ | ⟨hj, hn1⟩
      · exact h.apart i j m n hm1 hn1 hij b hb' hb2
      · have := (h.far i m hm1 b hb').2.1
        have := (hl b (hn1 ▸ hb2)).1
        omega
    · rcases hsn j n hn' with ⟨hj, hn1⟩ | ⟨hj, hn1⟩
      · have := (h.far j n hn1 b hb2).2.1
        have := (hl b (hm1 ▸ hb')).1
        omega
      · exact hij (by omega)
  · have hfb : Below w0.heap.size wX w3 := hf.to_below (by have := h1.low.size; omega) (fun b hb => (own_lt h.own b hb).1)
    exact (h1.low.trans hfb).setCell (p := ⟨B, 0, none⟩) h.geB _
end
def NewE (ts : List Pt) (w0 : World) (e : Ending) (w : World) : Prop :=
  Below w0.heap.size w0 w ∧ (if rightP ts = 0 then ∃ (B R cr : Nat) (ls : List Loc), e = .returned (.tuple #[.pointer (some ⟨B, 0, none⟩), .int .i64 0]) ∧ BM w0.heap.size w B R cr (ts.map beginU) ls 1 0 0 (.slice none 0 0) []
    else e = .returned (.tuple #[.pointer none, .int .i64 (rightP ts)]))
theorem NwP.bm {ts : List Pt} {w0 w : World} {B k c : Nat} {A : Option Addr} {ls : List Loc} {ifs : List Value} (h : NwP ts w0 B k A c ls ifs w) (hk : k = ts.length) (h0 : 0 < k) (h16 : k ≤ 16) : ∃ R cr ls, BM w0.heap.size w B R cr (ts.map beginU) ls 1 0 0 (.slice none 0 0) [] := by
  rcases h.own.2 with ⟨hv, hn⟩ | ⟨g, cap, cur, hv, hbase, hg, hcap, hsz, hcur, hpre⟩
  · omega
  · injection hv with hA _ hc
    subst hA hc
    have hmk : ∀ (i : Nat) (u : Un), (ts.map beginU)[i]? = some u → ∃ t, ts[i]? = some t ∧ u = beginU t := fun i u hu => by
      rw [List.getElem?_map] at hu
      cases ht : ts[i]? with
      | none => rw [ht] at hu; cases hu
      | some t =>
        rw [ht] at hu
        injection hu with hu
        exact ⟨t, rfl, hu.symm⟩
    have hlen : (ts.map beginU).length = k := by rw [List.length_map, hk]
    refine ⟨g, c, ls, ?_, ⟨cur, hg, fun i u l hu hl => ?_⟩, by rw [hlen]; exact h.len, by rw [hlen]; exact h16, by rw [hlen]; exact hcap, ⟨rfl, .inl ⟨rfl, rfl⟩⟩, fun i u l hu hl => ?_, fun i l hl b hb => ?_, h.apart, h.geB, hbase⟩
    · rw [hlen]
      exact h.blk
    · obtain ⟨t, ht, rfl⟩ := hmk i u hu
      have hr := h.row i t l ht hl
      have := h.own.cells (g := g) rfl i _ hr
      rw [addr_add, Nat.zero_add, Blk.cell hg] at this
      exact this
    · obtain ⟨t, ht, rfl⟩ := hmk i u hu
      exact h.ub i t l ht hl
    · obtain ⟨q1, q2, q3, q4⟩ := h.far i l hl b hb
      exact ⟨q1, q2, q3, fun e => q4 (by rw [e]; rfl), by simp [Value.ownBlock]⟩
theorem right_ok {ts : List Pt} (h : rightP ts = 0) : 1 ≤ ts.length ∧ ts.length ≤ 16 ∧ ∀ (k : Nat) (t : Pt), ts[k]? = some t → oneP t (k : Int) = true := by
  unfold rightP at h
  split at h
  · omega
  · rename_i hl
    split at h
    · rename_i ha
      refine ⟨by omega, by omega, fun k t ht => ?_⟩
      have := (allOne_iff ts).1 ha k (List.getElem?_eq_some_iff.1 ht).1
      rwa [oneAt_of ht] at this
    · omega
set_option maxRecDepth 100000 in
set_option maxHeartbeats 4000000 in
theorem new8 (ts : List Pt) (A : Option Addr) (n c : Nat) (w : World) (hn : n = ts.length) (hok : ∀ t ∈ ts, t.ok) (hr : Rd w A (flat_pts ts)) (hl : n ≤ 5000) :
    Calls Try.prog 8 #[.slice A n c] w (NewE ts w) := by
  have HRL := Lib.hid (rightList ts A n c w hn hok hr hl)
  by_cases h0 : rightP ts = 0
  · rw [h0] at HRL
    obtain ⟨hl1, hl16, hone⟩ := right_ok h0
    have HN := Lib.hid hn
    have HR := Lib.hid hr
    have HOK := Lib.hid hone
    have H0 := Lib.hid h0
    have hn16 : n ≤ 16 := by omega
    have hn1 : 1 ≤ n := by omega
    clear hn hr hone hok h0 hl1 hl16 hl
    go_enter Try.func8, Try.ntmps8
    go_wp2_with fail
    refine (HRL.out).mono ?_
    rintro e w1 ⟨rfl, hb1⟩
    have HB1 := Lib.hid hb1
    clear hb1
    go_wp2_with fail
    go_loopw [18] (fun v wr => ∃ k : Nat, k ≤ n ∧ v = .int .i64 k ∧ ∃ A' c' ls ifs, NwP ts w w1.heap.size k A' c' ls ifs wr) (fun v _ => n - (intOf v).toNat)
    case atStart =>
      refine ⟨0, by omega, rfl, none, 0, [], [], ⟨Blk.new w1 59 _, ⟨rfl, .inl ⟨rfl, rfl⟩⟩, rfl, fun i t l _ h => by simp at h, fun i t l _ h => by simp at h, fun i l h => by simp at h, fun i j l m h => by simp at h, HB1.out.size, ?_⟩⟩
      exact HB1.out.alloc HB1.out.size _
    case round =>
      obtain ⟨k, hk, rfl, A', c', ls, ifs, hp⟩ := hrel
      have HP := Lib.hid hp
      by_cases hlt : k < n
      · obtain ⟨t, b, o, ht, rfl, hat⟩ := pts_at (HR.out.below hp.low rfl) (k := k) (by rw [← HN.out]; exact hlt)
        obtain ⟨c0, c1, c2, c3, c4, c5, c6⟩ : _ ∧ _ ∧ _ ∧ _ ∧ _ ∧ _ ∧ _ := ⟨hat.c0, hat.c1, hat.c2, hat.c3, hat.c4, hat.c5, hat.c6⟩
        have HBG := Lib.hid (show ∀ W, Calls Try.prog 27 #[.agg #[.int .u8 t.k, .int .i64 t.s, .int .i64 t.a, .int .i64 t.b, .int .i64 t.c, .int .i64 t.r, .int .i64 t.l]] W (BegE t W) from fun W => begun_any (HOK.out k t ht) W)
        have HT := Lib.hid ht
        have hki : (k : Int) < n := by omega
        clear ht hat hp
        go_upto_region 8 with fail
        obtain ⟨w2, hw2⟩ : ∃ x, wr.alloc (.cells #[.int .u8 t.k, .int .i64 t.s, .int .i64 t.a, .int .i64 t.b, .int .i64 t.c, .int .i64 t.r, .int .i64 t.l] 25) = x := ⟨_, rfl⟩
        have k25 : Blk w2 wr.heap.size 25 #[.int .u8 t.k, .int .i64 t.s, .int .i64 t.a, .int .i64 t.b, .int .i64 t.c, .int .i64 t.r, .int .i64 t.l] := hw2 ▸ Blk.new wr _ _
        have hb2 : Below wr.heap.size wr w2 := hw2 ▸ (Below.refl _ _).alloc (Nat.le_refl _) _
        rw [hw2]
        have b0 : w2.cell? ⟨w1.heap.size, 0, none⟩ = some (.slice A' k c') := (HP.out.below hb2).blk.cell 0
        have q0 : w2.cell? ⟨wr.heap.size, 0, none⟩ = some (.int .u8 t.k) := k25.cell 0
        have q1 : w2.cell? ⟨wr.heap.size, 1, none⟩ = some (.int .i64 t.s) := k25.cell 1
        have q2 : w2.cell? ⟨wr.heap.size, 2, none⟩ = some (.int .i64 t.a) := k25.cell 2
        have q3 : w2.cell? ⟨wr.heap.size, 3, none⟩ = some (.int .i64 t.b) := k25.cell 3
        have q4 : w2.cell? ⟨wr.heap.size, 4, none⟩ = some (.int .i64 t.c) := k25.cell 4
        have q5 : w2.cell? ⟨wr.heap.size, 5, none⟩ = some (.int .i64 t.r) := k25.cell 5
        have q6 : w2.cell? ⟨wr.heap.size, 6, none⟩ = some (.int .i64 t.l) := k25.cell 6
        have HB2 := Lib.hid hb2
        clear k25 hw2 hb2 c0 c1 c2 c3 c4 c5 c6
        obtain ⟨gp, hgp⟩ : ∃ x, wr.heap.size = x := ⟨_, rfl⟩
        rw [hgp] at q0 q1 q2 q3 q4 q5 q6 ⊢
        clear hgp
        refine wp_region_held_drew (S := (fun _ : World => True)) (by kernel_rfl) trivial (fun hHeld => ?_)
        have b03 : w2.drew.cell? ⟨w1.heap.size, 0, none⟩ = some (.slice A' k c') := b0
        have HB3 := Lib.hid (show Below wr.heap.size wr w2.drew from HB2.out.drew)
        have hS : (fun W : World => Below wr.heap.size wr W) w2.drew := HB3.out
        replace q0 : w2.drew.cell? ⟨gp, 0, none⟩ = some (.int .u8 t.k) := q0
        replace q1 : w2.drew.cell? ⟨gp, 1, none⟩ = some (.int .i64 t.s) := q1
        replace q2 : w2.drew.cell? ⟨gp, 2, none⟩ = some (.int .i64 t.a) := q2
        replace q3 : w2.drew.cell? ⟨gp, 3, none⟩ = some (.int .i64 t.b) := q3
        replace q4 : w2.drew.cell? ⟨gp, 4, none⟩ = some (.int .i64 t.c) := q4
        replace q5 : w2.drew.cell? ⟨gp, 5, none⟩ = some (.int .i64 t.r) := q5
        replace q6 : w2.drew.cell? ⟨gp, 6, none⟩ = some (.int .i64 t.l) := q6
        obtain ⟨w3, hw3⟩ : ∃ x, w2.drew = x := ⟨_, rfl⟩
        rw [hw3] at b03 HB3 q0 q1 q2 q3 q4 q5 q6 ⊢
        clear hw3 b0 hS
        refine tkz (i := 0) (d := 22) rfl rfl ?_
        simp only [Act.put, zzA, zzB, zzC]
        refine tkz (i := 1) (d := 23) rfl rfl ?_
        simp only [Act.put, zzA, zzB, zzC]
        refine tkz (i := 2) (d := 24) rfl rfl ?_
        simp only [Act.put, zzA, zzB, zzC]
        refine tkz (i := 3) (d := 25) rfl rfl ?_
        simp only [Act.put, zzA, zzB, zzC]
        refine wpAnyH_ready (rs := [4, 5]) (by kernel_rfl) (by simp) ?_
        refine AllReadyH.cons (o := _) rfl (fun K hK => ?_) (AllReadyH.cons (o := _) rfl (fun K hK => ?_) AllReadyH.nil)
        · go_simp
          refine hK.out _ _ trivial (fun hHeld => ?_)
          clear hK K
          try simp only [Act.put, zzA, zzB, zzC]
          refine rdz (i := 5) rfl (fun K hK => ?_)
          go_simp
          refine hK.out _ _ trivial (fun hHeld => ?_)
          clear hK K
          try simp only [Act.put, zzA, zzB, zzC]
          refine rdz (i := 6) rfl (fun K hK => ?_)
          go_simp
          refine (HBG.out _).mono ?_
          rintro e w4 ⟨l, rfl, hb4, hu4, hl4⟩
          have HB4 := Lib.hid (bl_step HB3.out hb4)
          have HU4 := Lib.hid hu4
          have HL4 := Lib.hid (show ∀ b, l.has b → wr.heap.size ≤ b ∧ b < w4.heap.size from fun b hb => ⟨Nat.le_trans HB3.out.size (hl4 b hb).1, (hl4 b hb).2⟩)
          have b04 := ck b03 hb4
          clear hb4 hu4 hl4
          go_wp2_with fail
          refine hK.out _ _ trivial (fun hHeld => ?_)
          clear hK K
          try simp only [Act.put, zzA, zzB, zzC]
          refine rdz (i := 7) rfl (fun K hK => ?_)
          go_simp
          have hal := (Below.refl w4.heap.size w4).alloc (Nat.le_refl _) (.cells #[.iface (ptU t.k) (.pointer (some ⟨l.g, 0, none⟩))] 63)
          have HN5 := Lib.hid (Blk.new w4 63 #[.iface (ptU t.k) (.pointer (some ⟨l.g, 0, none⟩))])
          obtain ⟨gn, hgn⟩ : ∃ x, w4.heap.size = x := ⟨_, rfl⟩
          have HB5 := Lib.hid (bl_step HB4.out hal)
          have HU5 := Lib.hid (HU4.out.below hal)
          have HL5 := Lib.hid (show ∀ b, l.has b → wr.heap.size ≤ b ∧ b < (w4.alloc (.cells #[.iface (ptU t.k) (.pointer (some ⟨l.g, 0, none⟩))] 63)).heap.size from fun b hb => ⟨(HL4.out b hb).1, Nat.lt_of_lt_of_le (HL4.out b hb).2 hal.size⟩)
          have b05 := ck b04 hal
          obtain ⟨w5, hw5⟩ : ∃ x, w4.alloc (.cells #[.iface (ptU t.k) (.pointer (some ⟨l.g, 0, none⟩))] 63) = x := ⟨_, rfl⟩
          rw [hw5] at HN5 HB5 HU5 HL5 b05 ⊢
          rw [hgn] at HN5 ⊢
          clear hw5 hgn hal
          refine hK.out _ _ trivial (fun hHeld => ?_)
          clear hK K
          try simp only [Act.put, zzA, zzB, zzC]
          refine rdz (i := 8) rfl (fun K hK => ?_)
          have HOWN := Lib.hid (HP.out.below HB5.out).own
          have HBS := Lib.hid (HP.out.below HB5.out).low.size
          refine step_appN tUnits rfl (.tmp 26) (.tmp 29) rfl w.heap.size (.slice A' k c') k ifs rfl HOWN.out ⟨gn, 0, none⟩ 1 1 [ifc t l] rfl rfl (fun jj u hu => by rw [addr_add, Nat.zero_add, HN5.out.cell]; simpa [ifc] using hu) (by simp [Value.oneCell', ifc]) (by omega) (by unfold maxLen; omega) HBS.out ?_
          intro V3 w6 ho3 hg3 hn3
          obtain ⟨A3, c3, rfl, _⟩ := own_slice ho3
          have HO3 := Lib.hid ho3
          have hf3 : Frm (fun b => (Value.slice A' k c').ownBlock = some b) w5 w6 := Frm.of_grown hg3 (fun b hb => hb)
          have hm2 := HP.out.below HB5.out
          have b06 : w6.cell? ⟨w1.heap.size, 0, none⟩ = some (.slice A' k c') := (hf3.cell (block_lt_of_cell b05) hm2.ownB).trans b05
          have z06 : w6.frozen? ⟨w1.heap.size, 0, none⟩ = false := (hm2.blk.frm hf3 hm2.ownB).frozen 0
          have HF3 := Lib.hid hf3
          have HN3 := Lib.hid hn3
          clear ho3 hg3 hf3 hm2 hn3
          refine hK.out _ _ trivial (fun hHeld => ?_)
          clear hK K
          try simp only [Act.put, zzA, zzB, zzC]
          refine tkz (i := 9) (d := 31) rfl rfl ?_
          simp only [Act.put, zzA, zzB, zzC]
          refine tkz (i := 10) (d := 32) rfl rfl ?_
          simp only [Act.put, zzA, zzB, zzC]
          refine rdz (i := 11) rfl (fun K hK => ?_)
          go_simp
          refine hK.out _ _ trivial (fun hHeld => ?_)
          clear hK K
          try simp only [Act.put, zzA, zzB, zzC]
          refine wpAnyH_done (by kernel_rfl) ?_ _
          have HPUT := Lib.hid (HP.out.put HB5.out HT.out HU5.out HL5.out HF3.out HO3.out HN3.out)
          go_wp2
          go_roundw
          case rel => exact ⟨k + 1, by omega, by go_num, A3, c3, _, _, HPUT.out⟩
          case measure => simp [intOf]; omega
        · go_simp
          refine hK.out _ _ trivial (fun hHeld => ?_)
          clear hK K
          try simp only [Act.put, zzA, zzB, zzC]
          refine wpAnyH_ready (rs := [4, 6]) (by kernel_rfl) (by simp) ?_
          refine AllReadyH.cons (o := _) rfl (fun K hK => ?_) (AllReadyH.cons (o := _) rfl (fun K hK => ?_) AllReadyH.nil)
          · go_simp
            refine hK.out _ _ trivial (fun hHeld => ?_)
            clear hK K
            try simp only [Act.put, zzA, zzB, zzC]
            refine rdz (i := 6) rfl (fun K hK => ?_)
            go_simp
            refine (HBG.out _).mono ?_
            rintro e w4 ⟨l, rfl, hb4, hu4, hl4⟩
            have HB4 := Lib.hid (bl_step HB3.out hb4)
            have HU4 := Lib.hid hu4
            have HL4 := Lib.hid (show ∀ b, l.has b → wr.heap.size ≤ b ∧ b < w4.heap.size from fun b hb => ⟨Nat.le_trans HB3.out.size (hl4 b hb).1, (hl4 b hb).2⟩)
            have b04 := ck b03 hb4
            clear hb4 hu4 hl4
            go_wp2_with fail
            refine hK.out _ _ trivial (fun hHeld => ?_)
            clear hK K
            try simp only [Act.put, zzA, zzB, zzC]
            refine rdz (i := 7) rfl (fun K hK => ?_)
            go_simp
            have hal := (Below.refl w4.heap.size w4).alloc (Nat.le_refl _) (.cells #[.iface (ptU t.k) (.pointer (some ⟨l.g, 0, none⟩))] 63)
            have HN5 := Lib.hid (Blk.new w4 63 #[.iface (ptU t.k) (.pointer (some ⟨l.g, 0, none⟩))])
            obtain ⟨gn, hgn⟩ : ∃ x, w4.heap.size = x := ⟨_, rfl⟩
            have HB5 := Lib.hid (bl_step HB4.out hal)
            have HU5 := Lib.hid (HU4.out.below hal)
            have HL5 := Lib.hid (show ∀ b, l.has b → wr.heap.size ≤ b ∧ b < (w4.alloc (.cells #[.iface (ptU t.k) (.pointer (some ⟨l.g, 0, none⟩))] 63)).heap.size from fun b hb => ⟨(HL4.out b hb).1, Nat.lt_of_lt_of_le (HL4.out b hb).2 hal.size⟩)
            have b05 := ck b04 hal
            obtain ⟨w5, hw5⟩ : ∃ x, w4.alloc (.cells #[.iface (ptU t.k) (.pointer (some ⟨l.g, 0, none⟩))] 63) = x := ⟨_, rfl⟩
            rw [hw5] at HN5 HB5 HU5 HL5 b05 ⊢
            rw [hgn] at HN5 ⊢
            clear hw5 hgn hal
            refine hK.out _ _ trivial (fun hHeld => ?_)
            clear hK K
            try simp only [Act.put, zzA, zzB, zzC]
            refine rdz (i := 8) rfl (fun K hK => ?_)
            have HOWN := Lib.hid (HP.out.below HB5.out).own
            have HBS := Lib.hid (HP.out.below HB5.out).low.size
            refine step_appN tUnits rfl (.tmp 26) (.tmp 29) rfl w.heap.size (.slice A' k c') k ifs rfl HOWN.out ⟨gn, 0, none⟩ 1 1 [ifc t l] rfl rfl (fun jj u hu => by rw [addr_add, Nat.zero_add, HN5.out.cell]; simpa [ifc] using hu) (by simp [Value.oneCell', ifc]) (by omega) (by unfold maxLen; omega) HBS.out ?_
            intro V3 w6 ho3 hg3 hn3
            obtain ⟨A3, c3, rfl, _⟩ := own_slice ho3
            have HO3 := Lib.hid ho3
            have hf3 : Frm (fun b => (Value.slice A' k c').ownBlock = some b) w5 w6 := Frm.of_grown hg3 (fun b hb => hb)
            have hm2 := HP.out.below HB5.out
            have b06 : w6.cell? ⟨w1.heap.size, 0, none⟩ = some (.slice A' k c') := (hf3.cell (block_lt_of_cell b05) hm2.ownB).trans b05
            have z06 : w6.frozen? ⟨w1.heap.size, 0, none⟩ = false := (hm2.blk.frm hf3 hm2.ownB).frozen 0
            have HF3 := Lib.hid hf3
            have HN3 := Lib.hid hn3
            clear ho3 hg3 hf3 hm2 hn3
            refine hK.out _ _ trivial (fun hHeld => ?_)
            clear hK K
            try simp only [Act.put, zzA, zzB, zzC]
            refine tkz (i := 9) (d := 31) rfl rfl ?_
            simp only [Act.put, zzA, zzB, zzC]
            refine tkz (i := 10) (d := 32) rfl rfl ?_
            simp only [Act.put, zzA, zzB, zzC]
            refine rdz (i := 11) rfl (fun K hK => ?_)
            go_simp
            refine hK.out _ _ trivial (fun hHeld => ?_)
            clear hK K
            try simp only [Act.put, zzA, zzB, zzC]
            refine wpAnyH_done (by kernel_rfl) ?_ _
            have HPUT := Lib.hid (HP.out.put HB5.out HT.out HU5.out HL5.out HF3.out HO3.out HN3.out)
            go_wp2
            go_roundw
            case rel => exact ⟨k + 1, by omega, by go_num, A3, c3, _, _, HPUT.out⟩
            case measure => simp [intOf]; omega
          · go_simp
            refine (HBG.out _).mono ?_
            rintro e w4 ⟨l, rfl, hb4, hu4, hl4⟩
            have HB4 := Lib.hid (bl_step HB3.out hb4)
            have HU4 := Lib.hid hu4
            have HL4 := Lib.hid (show ∀ b, l.has b → wr.heap.size ≤ b ∧ b < w4.heap.size from fun b hb => ⟨Nat.le_trans HB3.out.size (hl4 b hb).1, (hl4 b hb).2⟩)
            have b04 := ck b03 hb4
            clear hb4 hu4 hl4
            go_wp2_with fail
            refine hK.out _ _ trivial (fun hHeld => ?_)
            clear hK K
            try simp only [Act.put, zzA, zzB, zzC]
            refine wpAnyH_ready (rs := [4, 7]) (by kernel_rfl) (by simp) ?_
            refine AllReadyH.cons (o := _) rfl (fun K hK => ?_) (AllReadyH.cons (o := _) rfl (fun K hK => ?_) AllReadyH.nil)
            · go_simp
              refine hK.out _ _ trivial (fun hHeld => ?_)
              clear hK K
              try simp only [Act.put, zzA, zzB, zzC]
              refine rdz (i := 7) rfl (fun K hK => ?_)
              go_simp
              have hal := (Below.refl w4.heap.size w4).alloc (Nat.le_refl _) (.cells #[.iface (ptU t.k) (.pointer (some ⟨l.g, 0, none⟩))] 63)
              have HN5 := Lib.hid (Blk.new w4 63 #[.iface (ptU t.k) (.pointer (some ⟨l.g, 0, none⟩))])
              obtain ⟨gn, hgn⟩ : ∃ x, w4.heap.size = x := ⟨_, rfl⟩
              have HB5 := Lib.hid (bl_step HB4.out hal)
              have HU5 := Lib.hid (HU4.out.below hal)
              have HL5 := Lib.hid (show ∀ b, l.has b → wr.heap.size ≤ b ∧ b < (w4.alloc (.cells #[.iface (ptU t.k) (.pointer (some ⟨l.g, 0, none⟩))] 63)).heap.size from fun b hb => ⟨(HL4.out b hb).1, Nat.lt_of_lt_of_le (HL4.out b hb).2 hal.size⟩)
              have b05 := ck b04 hal
              obtain ⟨w5, hw5⟩ : ∃ x, w4.alloc (.cells #[.iface (ptU t.k) (.pointer (some ⟨l.g, 0, none⟩))] 63) = x := ⟨_, rfl⟩
              rw [hw5] at HN5 HB5 HU5 HL5 b05 ⊢
              rw [hgn] at HN5 ⊢
              clear hw5 hgn hal
              refine hK.out _ _ trivial (fun hHeld => ?_)
              clear hK K
              try simp only [Act.put, zzA, zzB, zzC]
              refine rdz (i := 8) rfl (fun K hK => ?_)
              have HOWN := Lib.hid (HP.out.below HB5.out).own
              have HBS := Lib.hid (HP.out.below HB5.out).low.size
              refine step_appN tUnits rfl (.tmp 26) (.tmp 29) rfl w.heap.size (.slice A' k c') k ifs rfl HOWN.out ⟨gn, 0, none⟩ 1 1 [ifc t l] rfl rfl (fun jj u hu => by rw [addr_add, Nat.zero_add, HN5.out.cell]; simpa [ifc] using hu) (by simp [Value.oneCell', ifc]) (by omega) (by unfold maxLen; omega) HBS.out ?_
              intro V3 w6 ho3 hg3 hn3
              obtain ⟨A3, c3, rfl, _⟩ := own_slice ho3
              have HO3 := Lib.hid ho3
              have hf3 : Frm (fun b => (Value.slice A' k c').ownBlock = some b) w5 w6 := Frm.of_grown hg3 (fun b hb => hb)
              have hm2 := HP.out.below HB5.out
              have b06 : w6.cell? ⟨w1.heap.size, 0, none⟩ = some (.slice A' k c') := (hf3.cell (block_lt_of_cell b05) hm2.ownB).trans b05
              have z06 : w6.frozen? ⟨w1.heap.size, 0, none⟩ = false := (hm2.blk.frm hf3 hm2.ownB).frozen 0
              have HF3 := Lib.hid hf3
              have HN3 := Lib.hid hn3
              clear ho3 hg3 hf3 hm2 hn3
              refine hK.out _ _ trivial (fun hHeld => ?_)
              clear hK K
              try simp only [Act.put, zzA, zzB, zzC]
              refine tkz (i := 9) (d := 31) rfl rfl ?_
              simp only [Act.put, zzA, zzB, zzC]
              refine tkz (i := 10) (d := 32) rfl rfl ?_
              simp only [Act.put, zzA, zzB, zzC]
              refine rdz (i := 11) rfl (fun K hK => ?_)
              go_simp
              refine hK.out _ _ trivial (fun hHeld => ?_)
              clear hK K
              try simp only [Act.put, zzA, zzB, zzC]
              refine wpAnyH_done (by kernel_rfl) ?_ _
              have HPUT := Lib.hid (HP.out.put HB5.out HT.out HU5.out HL5.out HF3.out HO3.out HN3.out)
              go_wp2
              go_roundw
              case rel => exact ⟨k + 1, by omega, by go_num, A3, c3, _, _, HPUT.out⟩
              case measure => simp [intOf]; omega
            · go_simp
              have hal := (Below.refl w4.heap.size w4).alloc (Nat.le_refl _) (.cells #[.iface (ptU t.k) (.pointer (some ⟨l.g, 0, none⟩))] 63)
              have HN5 := Lib.hid (Blk.new w4 63 #[.iface (ptU t.k) (.pointer (some ⟨l.g, 0, none⟩))])
              obtain ⟨gn, hgn⟩ : ∃ x, w4.heap.size = x := ⟨_, rfl⟩
              have HB5 := Lib.hid (bl_step HB4.out hal)
              have HU5 := Lib.hid (HU4.out.below hal)
              have HL5 := Lib.hid (show ∀ b, l.has b → wr.heap.size ≤ b ∧ b < (w4.alloc (.cells #[.iface (ptU t.k) (.pointer (some ⟨l.g, 0, none⟩))] 63)).heap.size from fun b hb => ⟨(HL4.out b hb).1, Nat.lt_of_lt_of_le (HL4.out b hb).2 hal.size⟩)
              have b05 := ck b04 hal
              obtain ⟨w5, hw5⟩ : ∃ x, w4.alloc (.cells #[.iface (ptU t.k) (.pointer (some ⟨l.g, 0, none⟩))] 63) = x := ⟨_, rfl⟩
              rw [hw5] at HN5 HB5 HU5 HL5 b05 ⊢
              rw [hgn] at HN5 ⊢
              clear hw5 hgn hal
              refine hK.out _ _ trivial (fun hHeld => ?_)
              clear hK K
              try simp only [Act.put, zzA, zzB, zzC]
              refine rdz (i := 4) rfl (fun K hK => ?_)
              go_simp
              refine hK.out _ _ trivial (fun hHeld => ?_)
              clear hK K
              try simp only [Act.put, zzA, zzB, zzC]
              refine rdz (i := 8) rfl (fun K hK => ?_)
              have HOWN := Lib.hid (HP.out.below HB5.out).own
              have HBS := Lib.hid (HP.out.below HB5.out).low.size
              refine step_appN tUnits rfl (.tmp 26) (.tmp 29) rfl w.heap.size (.slice A' k c') k ifs rfl HOWN.out ⟨gn, 0, none⟩ 1 1 [ifc t l] rfl rfl (fun jj u hu => by rw [addr_add, Nat.zero_add, HN5.out.cell]; simpa [ifc] using hu) (by simp [Value.oneCell', ifc]) (by omega) (by unfold maxLen; omega) HBS.out ?_
              intro V3 w6 ho3 hg3 hn3
              obtain ⟨A3, c3, rfl, _⟩ := own_slice ho3
              have HO3 := Lib.hid ho3
              have hf3 : Frm (fun b => (Value.slice A' k c').ownBlock = some b) w5 w6 := Frm.of_grown hg3 (fun b hb => hb)
              have hm2 := HP.out.below HB5.out
              have b06 : w6.cell? ⟨w1.heap.size, 0, none⟩ = some (.slice A' k c') := (hf3.cell (block_lt_of_cell b05) hm2.ownB).trans b05
              have z06 : w6.frozen? ⟨w1.heap.size, 0, none⟩ = false := (hm2.blk.frm hf3 hm2.ownB).frozen 0
              have HF3 := Lib.hid hf3
              have HN3 := Lib.hid hn3
              clear ho3 hg3 hf3 hm2 hn3
              refine hK.out _ _ trivial (fun hHeld => ?_)
              clear hK K
              try simp only [Act.put, zzA, zzB, zzC]
              refine tkz (i := 9) (d := 31) rfl rfl ?_
              simp only [Act.put, zzA, zzB, zzC]
              refine tkz (i := 10) (d := 32) rfl rfl ?_
              simp only [Act.put, zzA, zzB, zzC]
              refine rdz (i := 11) rfl (fun K hK => ?_)
              go_simp
              refine hK.out _ _ trivial (fun hHeld => ?_)
              clear hK K
              try simp only [Act.put, zzA, zzB, zzC]
              refine wpAnyH_done (by kernel_rfl) ?_ _
              have HPUT := Lib.hid (HP.out.put HB5.out HT.out HU5.out HL5.out HF3.out HO3.out HN3.out)
              go_wp2
              go_roundw
              case rel => exact ⟨k + 1, by omega, by go_num, A3, c3, _, _, HPUT.out⟩
              case measure => simp [intOf]; omega
      · obtain rfl : k = n := by omega
        obtain ⟨R, cr, ls', hbm⟩ := hp.bm HN.out hn1 hn16
        have hlow := hp.low
        have HBM := Lib.hid hbm
        have HLW := Lib.hid hlow
        clear hp hbm hlow
        go_wp2
        refine bodyPost_ret (v := .tuple #[.pointer (some ⟨w1.heap.size, 0, none⟩), .int .i64 0]) (by simp [results, Try.results8, go_sem]) rfl ?_
        refine ⟨HLW.out, ?_⟩
        rw [if_pos H0.out]
        exact ⟨w1.heap.size, R, cr, ls', rfl, HBM.out⟩
  · have gq : (rightP ts != 0) = true := by simpa using h0
    have H0 := Lib.hid h0
    clear hn hr hok h0 hl
    go_enter Try.func8, Try.ntmps8
    go_wp2_with fail
    refine (HRL.out).mono ?_
    rintro e w1 ⟨rfl, hb1⟩
    have HB1 := Lib.hid hb1
    clear hb1 HRL
    obtain ⟨q, hq⟩ : ∃ q, rightP ts = q := ⟨_, rfl⟩
    have HQ := Lib.hid hq
    rw [hq] at gq ⊢
    clear hq
    go_wp2
    refine bodyPost_ret (v := .tuple #[.pointer none, .int .i64 q]) (by simp [results, Try.results8, go_sem]) rfl ?_
    refine ⟨HB1.out, ?_⟩
    rw [if_neg H0.out, HQ.out]
end Go.Proofs.Ytnohfeaamfjimaa
namespace Go.Proofs.Ytnohfeaamfjimaa
open Go.RowKit Go.WideShapes
set_option linter.unusedVariables false
set_option linter.unusedSimpArgs false
theorem ctx_any3 {u : Un} {l : Loc} {w : World} {B wh : Nat} (x : Int) (hu : UB w u l) (i : Nat) (ho : u.Ok i wh) (w3 : w.cell? ⟨B, 3, none⟩ = some (.int .i64 (wh : Int))) (x0 : 0 ≤ x) (x1 : x ≤ 4294967295) (hwh : wh ≤ 1000000000) (hB : ¬ l.has B) :
    Calls Try.prog (fCtx u.p.k) #[.pointer (some ⟨l.g, 0, none⟩), .pointer (some ⟨B, 1, none⟩), .int .u32 x] w (TurnU (ctxU u wh x) l w) := by
  have hp := ho.pow
  have hpl := place_bd x 1 u.sz ho.s.2
  unfold fCtx ctxU
  split
  · rename_i hk
    obtain ⟨b1, b2⟩ := ho.bs (.inr (.inl hk))
    obtain ⟨t1, t2⟩ := ho.t4 hk
    obtain ⟨m1, m2⟩ := ho.m hk
    have hN : u.t.length = u.b.length := by rw [t1, b1]
    have hgs := hu.gs (.inr (.inl hk))
    have hgt := hu.gt (.inr (.inr (.inl hk)))
    have hst := hu.st hk
    have hpp : ((2 ^ u.sz : Nat) : Int) = (2 : Int) ^ u.sz := by push_cast; rfl
    have haN : (placeI x 1 u.sz).toNat < u.b.length := by rw [b1]; omega
    have hq := t2 _ (getD_mem (i := (placeI x 1 u.sz).toNat) (by rw [hN]; exact haN))
    refine (context103 l.g B l.s u.b.length l.t u.b.length u.b.length u.p u.h x u.b u.t u.ptr u.len wh u.sz (placeI x 1 u.sz).toNat (u.t.getD (placeI x 1 u.sz).toNat 0).toNat w x0 x1 ho.s.2 ho.s.1 (Int.toNat_of_nonneg hpl.1).symm haN (by rw [b1]; omega) m2 hwh (by omega) (hu.g4 hk hN) (hu.s (.inr (.inl hk))) (hu.t' (.inl hk)) rfl (by rw [Int.toNat_of_nonneg hq.1]; exact getD_some (by rw [hN]; exact haN)) hgs hgt hst (Lib.hid (fun e => hB (.inl e))) (Lib.hid (fun e => hB (.inr (.inr e)))) w3).mono ?_
    rintro e w' ⟨rfl, hb, ht', hf⟩
    refine ⟨rfl, ⟨?_, fun _ => (hu.s (.inr (.inl hk))).frm hf (fun e => e.elim (fun e => hgs e.symm) (fun e => hst e)), fun k => absurd (show u.p.k = 2 ∨ u.p.k = 9 from k) (by omega), fun _ => ht'⟩, frm_gt hf⟩
    show Blk w' l.g (tyU u.p.k) _
    rw [show tyU u.p.k = 99 by rw [hk]; rfl, cells4' u.p _ _ _ _ _ _ l hk (by rw [List.length_set]; exact hN)]
    exact hb
  · rename_i hk
    refine (context90 l.g B x u.h w hu.c7 (hu.g.frozen 7)).mono ?_
    rintro e w' ⟨rfl, rfl⟩
    have hgs : ∀ k : u.p.k = 3 ∨ u.p.k = 4 ∨ u.p.k = 8, l.s ≠ l.g := fun k e => hu.gs k e.symm
    refine ⟨rfl, ⟨?_, fun k => (hu.s k).far (p := ⟨l.g, 7, none⟩) (hgs k) _, fun k => (hu.t k).far (p := ⟨l.g, 7, none⟩) (fun e => hu.gt (show u.p.k = 2 ∨ u.p.k = 9 ∨ u.p.k = 4 ∨ u.p.k = 6 ∨ u.p.k = 7 by rcases k with k | k; exact .inl k; exact .inr (.inl k)) e.symm) _, fun k => (hu.t' k).far (p := ⟨l.g, 7, none⟩) (fun e => hu.gt (show u.p.k = 2 ∨ u.p.k = 9 ∨ u.p.k = 4 ∨ u.p.k = 6 ∨ u.p.k = 7 from .inr (.inr k)) e.symm) _⟩, (Frm.refl _ w).setCell (p := ⟨l.g, 7, none⟩) (fun _ => .inl rfl) _⟩
    have h := hu.g.set 7 (.int .u32 x)
    rw [List.setIfInBounds_toArray] at h
    exact h
set_option maxRecDepth 100000 in
set_option maxHeartbeats 4000000 in
theorem ctx17b {base B R cr wh : Nat} {us : List Un} {ls : List Loc} {c : Int} {V : Value} {L : List Int} (hs : List Int) (Ah : Option Addr) (nh ch : Nat) (w : World) (h : BM base w B R cr us ls c 0 wh V L) (ho : UsOk us wh) (hne : 0 < us.length) (hwh : wh ≤ 1000000000) (hw : WOk hs) (hnl : hs.length = nh) (hnh : nh ≤ 9223372036854775807) (hrd : ∀ W, Frm (Own B V ls) w W → Rd W Ah (wds hs)) :
    Calls Try.prog 17 #[.pointer (some ⟨B, 0, none⟩), .slice Ah nh ch] w (CtxE base B R cr us ls c 0 wh V L hs w) := by
  have HR := Lib.hid (rightYes B _ _ _ w hne (h.blk.cell 0))
  have h16 := h.n
  have hlen := h.len
  have b0 : w.cell? ⟨B, 0, none⟩ = some (.slice (some ⟨R, 0, none⟩) us.length cr) := h.blk.cell 0
  have b2 : w.cell? ⟨B, 2, none⟩ = some (.int .i64 0) := h.blk.cell 2
  have HO := Lib.hid ho
  have HLP := Lib.hid (show LpR base B R cr us ls c 0 wh V V L (fun i u => ctxU u wh (hs.getD i 0)) w 0 w from ⟨h, Frm.refl _ _⟩)
  obtain ⟨AV, cV, hV, hcV⟩ := own_slice h.own
  have HV := Lib.hid hV
  have HRD := Lib.hid hrd
  have HWK := Lib.hid hw
  clear h ho hrd hw hV
  go_enter Try.func17, Try.ntmps17
  go_wp2_with fail
  refine (HR.out).mono ?_
  rintro e w1 ⟨rfl, rfl⟩
  go_wp2_with fail
  go_loopw [24] (fun v wr => ∃ k : Nat, k ≤ us.length ∧ v = .int .i64 k ∧ LpR base B R cr us ls c 0 wh V V L (fun i u => ctxU u wh (hs.getD i 0)) w1 k wr) (fun v _ => us.length - (intOf v).toNat)
  case atStart => exact ⟨0, by omega, rfl, HLP.out⟩
  case round =>
    obtain ⟨k, hk, rfl, hlp⟩ := hrel
    have HLK := Lib.hid hlp
    have hm := hlp.bm
    have hml := mapK_length us (fun i u => ctxU u wh (hs.getD i 0)) k
    by_cases hlt : k < us.length
    · obtain ⟨u, hu⟩ : ∃ u, us[k]? = some u := ⟨us[k], List.getElem?_eq_getElem hlt⟩
      obtain ⟨l, hl⟩ : ∃ l, ls[k]? = some l := ⟨ls[k]'(by rw [hlen]; exact hlt), List.getElem?_eq_getElem (by rw [hlen]; exact hlt)⟩
      have hu' : (mapK us (fun i u => ctxU u wh (hs.getD i 0)) k)[k]? = some u := (mapK_ge us _ k k (Nat.le_refl _)).trans hu
      obtain ⟨cur, hrow, hcur⟩ := hm.row
      have rk : wr.cell? ⟨R, k, none⟩ = some (.iface (ptU u.p.k) (.pointer (some ⟨l.g, 0, none⟩))) := (hrow.cell k).trans (hcur k u l hu' hl)
      have hkk := (HO.out k u hu).k
      have hxk := HWK.out k
      have hcall : ∀ W, Below wr.heap.size wr W → Calls Try.prog (fCtx u.p.k) #[.pointer (some ⟨l.g, 0, none⟩), .pointer (some ⟨B, 1, none⟩), .int .u32 (hs.getD k 0)] W (TurnU (ctxU u wh (hs.getD k 0)) l W) := fun W hW => by
        have hmW := hm.below hW
        rw [HV.out] at hmW
        exact ctx_any3 _ (hmW.ub k u l hu' hl) k (HO.out k u hu) (hmW.blk.cell 3) hxk.1 hxk.2 hwh (fun e => (hmW.far k l hl B e).2.2.1 rfl)
      have hmeth := fun W => methCtx hkk l.g W
      have hent := fun args W => enterCtx hkk args W
      have hnil := fun W => nilCtx hkk l.g W
      obtain ⟨T, hT⟩ : ∃ T, ptU u.p.k = T := ⟨_, rfl⟩
      obtain ⟨f, hf⟩ : ∃ f, fCtx u.p.k = f := ⟨_, rfl⟩
      rw [hT] at rk hmeth hnil
      rw [hf] at hcall hmeth hent
      have HU := Lib.hid hu
      have HLL := Lib.hid hl
      have hrdr := HRD.out wr hlp.frm
      have hki : (k : Int) < us.length := by omega
      have hn1 : nh ≤ 9223372036854775807 := hnh
      obtain ⟨x, hx⟩ : ∃ x, hs.getD k 0 = x := ⟨_, rfl⟩
      by_cases hkh : k < nh
      · have hkhi : (k : Int) < nh := by omega
        obtain ⟨bh, oh, rfl, hbl, hch⟩ := hrdr.at (k := k) (u := .int .u32 x) (by rw [← hx]; unfold wds; rw [List.getElem?_map, getD_some (by omega)]; rfl)
        rw [hx] at hcall
        have HCALL := Lib.hid hcall
        have HX := Lib.hid hx
        clear hrow hcur hcall hT hf hkk hm hu hl hu' hlp hml hrdr hx hxk
        go_upto_region 11 with fail
        refine wp_region_held_drew (S := (fun _ : World => True)) (by kernel_rfl) trivial (fun hHeld => ?_)
        refine tkz (i := 0) (d := 37) rfl rfl ?_
        simp only [Act.put, zzA, zzB, zzC]
        refine tkz (i := 1) (d := 38) rfl rfl ?_
        simp only [Act.put, zzA, zzB, zzC]
        refine tkz (i := 2) (d := 39) rfl rfl ?_
        simp only [Act.put, zzA, zzB, zzC]
        refine tkz (i := 3) (d := 40) rfl rfl ?_
        simp only [Act.put, zzA, zzB, zzC]
        refine tkz (i := 4) (d := 41) rfl rfl ?_
        simp only [Act.put, zzA, zzB, zzC]
        refine tkz (i := 5) (d := 42) rfl rfl ?_
        simp only [Act.put, zzA, zzB, zzC]
        refine tkz (i := 6) (d := 43) rfl rfl ?_
        simp only [Act.put, zzA, zzB, zzC]
        refine tkz (i := 7) (d := 44) rfl rfl ?_
        simp only [Act.put, zzA, zzB, zzC]
        refine rdz (i := 8) rfl (fun K hK => ?_)
        go_simp
        have HB0 := Lib.hid ((Below.refl wr.heap.size wr).drew)
        refine (HCALL.out _ HB0.out).mono ?_
        rintro e w3 ht
        have hre := ht.ret
        subst hre
        have HT := Lib.hid ht
        clear ht
        go_wp2_with fail
        refine hK.out _ _ trivial (fun hHeld => ?_)
        clear hK K
        try simp only [Act.put, zzA, zzB, zzC]
        refine wpAnyH_done (by kernel_rfl) ?_ _
        have HNX := Lib.hid (HLK.out.step HU.out HLL.out HB0.out (ctxU_p ..) (by rw [HX.out]; exact HT.out))
        go_wp2
        go_roundw
        case rel => exact ⟨k + 1, by omega, by go_num, HNX.out⟩
        case measure => simp [intOf]; omega
      · have hkhi : ¬ (k : Int) < nh := by omega
        have hx0 : hs.getD k 0 = 0 := by rw [List.getD_eq_getElem?_getD, List.getElem?_eq_none (by omega)]; rfl
        rw [hx0] at hcall
        have HCALL := Lib.hid hcall
        have HX0 := Lib.hid hx0
        clear hrow hcur hcall hT hf hkk hm hu hl hu' hlp hml hrdr hx hxk hx0
        go_upto_region 11 with fail
        refine wp_region_held_drew (S := (fun _ : World => True)) (by kernel_rfl) trivial (fun hHeld => ?_)
        refine tkz (i := 0) (d := 37) rfl rfl ?_
        simp only [Act.put, zzA, zzB, zzC]
        refine tkz (i := 1) (d := 38) rfl rfl ?_
        simp only [Act.put, zzA, zzB, zzC]
        refine tkz (i := 2) (d := 39) rfl rfl ?_
        simp only [Act.put, zzA, zzB, zzC]
        refine tkz (i := 3) (d := 40) rfl rfl ?_
        simp only [Act.put, zzA, zzB, zzC]
        refine tkz (i := 4) (d := 41) rfl rfl ?_
        simp only [Act.put, zzA, zzB, zzC]
        refine tkz (i := 5) (d := 42) rfl rfl ?_
        simp only [Act.put, zzA, zzB, zzC]
        refine tkz (i := 6) (d := 43) rfl rfl ?_
        simp only [Act.put, zzA, zzB, zzC]
        refine tkz (i := 7) (d := 44) rfl rfl ?_
        simp only [Act.put, zzA, zzB, zzC]
        refine rdz (i := 8) rfl (fun K hK => ?_)
        go_simp
        have HB0 := Lib.hid ((Below.refl wr.heap.size wr).drew)
        refine (HCALL.out _ HB0.out).mono ?_
        rintro e w3 ht
        have hre := ht.ret
        subst hre
        have HT := Lib.hid ht
        clear ht
        go_wp2_with fail
        refine hK.out _ _ trivial (fun hHeld => ?_)
        clear hK K
        try simp only [Act.put, zzA, zzB, zzC]
        refine wpAnyH_done (by kernel_rfl) ?_ _
        have HNX := Lib.hid (HLK.out.step HU.out HLL.out HB0.out (ctxU_p ..) (by rw [HX0.out]; exact HT.out))
        go_wp2
        go_roundw
        case rel => exact ⟨k + 1, by omega, by go_num, HNX.out⟩
        case measure => simp [intOf]; omega
    · obtain rfl : k = us.length := by omega
      go_wp2
      go_ret
      exact ⟨rfl, HLK.out.bm, HLK.out.frm⟩
end Go.Proofs.Ytnohfeaamfjimaa
namespace Go.Proofs.Ytnohfeaamfjimaa
open Go.RowKit Go.WideShapes
set_option linter.unusedVariables false
set_option linter.unusedSimpArgs false
structure Bst where
  us : List Un
  c : Int
  bits : Nat
  wh : Nat
structure Bst.Ok (s : Bst) : Prop where
  us : UsOk s.us s.wh
  n0 : 0 < s.us.length
  c0 : 0 ≤ s.c
  c1 : s.c < 2 ^ (s.bits + 1)
  bits : s.bits < 8
def Bst.put (s : Bst) (bit : Int) : Bst := if s.bits = 7 then ⟨endB (learnB s.us s.c s.bits bit) (s.c * 2 + bit) s.wh, 1, 0, s.wh + 1⟩ else ⟨learnB s.us s.c s.bits bit, s.c * 2 + bit, s.bits + 1, s.wh⟩
def Bst.ctx (s : Bst) (hs : List Int) : Bst := ⟨ctxB s.us s.wh hs, s.c, s.bits, s.wh⟩
def Bst.leans (s : Bst) : List Int := leansB s.us s.c s.bits
def Bst.guess (s : Bst) : Int := 16 * sqI (s.leans.getD (s.us.length - 1) 0)
def Bst.new (ts : List Pt) : Bst := ⟨ts.map beginU, 1, 0, 0⟩
theorem pow8 {b : Nat} (h : b < 8) : (2 : Int) ^ (b + 1) ≤ 256 := by
  have h8 : b = 0 ∨ b = 1 ∨ b = 2 ∨ b = 3 ∨ b = 4 ∨ b = 5 ∨ b = 6 ∨ b = 7 := by omega
  rcases h8 with rfl | rfl | rfl | rfl | rfl | rfl | rfl | rfl <;> decide
theorem Bst.Ok.c255 {s : Bst} (h : s.Ok) : 0 ≤ s.c ∧ s.c ≤ 255 := by
  have := pow8 h.bits
  have := h.c1
  exact ⟨h.c0, by omega⟩
theorem learnB_length (us : List Un) (c : Int) (bits : Nat) (bit : Int) : (learnB us c bits bit).length = us.length := mapK_length _ _ _
theorem endB_length (us : List Un) (c : Int) (wh : Nat) : (endB us c wh).length = us.length := mapK_length _ _ _
theorem ctxB_length (us : List Un) (wh : Nat) (hs : List Int) : (ctxB us wh hs).length = us.length := mapK_length _ _ _
theorem Bst.put_ok {s : Bst} (h : s.Ok) {bit : Int} (hb : bit = 0 ∨ bit = 1) : (s.put bit).Ok := by
  have h1 := learnB_ok h.us s.c s.bits hb
  unfold Bst.put
  split
  · refine ⟨endB_ok h1 _, ?_, by simp only; omega, by simp, by simp⟩
    show 0 < (endB _ _ _).length
    rw [endB_length, learnB_length]
    exact h.n0
  · have hc0 := h.c0
    have hc1 := h.c1
    have hb8 := h.bits
    refine ⟨h1, ?_, ?_, ?_, by simp only; omega⟩
    · show 0 < (learnB _ _ _ _).length
      rw [learnB_length]
      exact h.n0
    · simp only
      omega
    · show s.c * 2 + bit < 2 ^ (s.bits + 1 + 1)
      rw [Int.pow_succ]
      omega
theorem Bst.ctx_ok {s : Bst} (h : s.Ok) {hs : List Int} (hw : WOk hs) : (s.ctx hs).Ok := by
  refine ⟨ctxB_ok h.us hw, ?_, h.c0, h.c1, h.bits⟩
  show 0 < (ctxB _ _ _).length
  rw [ctxB_length]
  exact h.n0
theorem Bst.new_ok {ts : List Pt} (h : rightP ts = 0) : (Bst.new ts).Ok := by
  obtain ⟨h1, h16, ho⟩ := right_ok h
  refine ⟨fun i u hu => ?_, ?_, by simp [Bst.new], by simp [Bst.new], by simp [Bst.new]⟩
  · have hu' : (ts.map beginU)[i]? = some u := hu
    rw [List.getElem?_map] at hu'
    cases ht : ts[i]? with
    | none => rw [ht] at hu'; cases hu'
    | some t =>
      rw [ht] at hu'
      injection hu' with hu'
      subst hu'
      exact beginU_ok (ho i t ht)
  · show 0 < (ts.map beginU).length
    rw [List.length_map]
    omega
theorem Bst.put_len (s : Bst) (bit : Int) : (s.put bit).us.length = s.us.length := by
  unfold Bst.put
  split
  · exact (endB_length _ _ _).trans (learnB_length _ _ _ _)
  · exact learnB_length _ _ _ _
theorem Bst.ctx_len (s : Bst) (hs : List Int) : (s.ctx hs).us.length = s.us.length := ctxB_length _ _ _
theorem Bst.leans_len (s : Bst) : s.leans.length = s.us.length := leansB_length _ _ _
/-! ### In memory -/
def Blks (B R : Nat) (V : Value) (ls : List Loc) (b : Nat) : Prop := b = B ∨ b = R ∨ V.ownBlock = some b ∨ ∃ l ∈ ls, l.has b
theorem mem_at {l : Loc} {ls : List Loc} (h : l ∈ ls) : ∃ i : Nat, ls[i]? = some l := List.mem_iff_getElem?.1 h
section
variable {base B R cr bits wh : Nat} {us : List Un} {ls : List Loc} {c : Int} {V : Value} {L : List Int} {w w' : World} {S : Nat → Prop}
theorem BM.frm (h : BM base w B R cr us ls c bits wh V L) (hf : Frm S w w') (hn : ∀ b, Blks B R V ls b → ¬ S b) : BM base w' B R cr us ls c bits wh V L := by
  obtain ⟨cur, hr, hc⟩ := h.row
  refine ⟨h.blk.frm hf (hn _ (.inl rfl)), ⟨cur, hr.frm hf (hn _ (.inr (.inl rfl))), hc⟩, h.len, h.n, h.cap, hf.own h.own (fun k hk => hn _ (.inr (.inr (.inl hk)))), fun i u l hu hl => (h.ub i u l hu hl).frm hf (fun b hb => hn _ (.inr (.inr (.inr ⟨l, List.mem_of_getElem? hl, hb⟩)))), fun i l hl b hb => ?_, h.apart, h.geB, h.geR⟩
  obtain ⟨q1, q2, q3⟩ := h.far i l hl b hb
  exact ⟨q1, Nat.lt_of_lt_of_le q2 hf.size, q3⟩
theorem BM.ltAll (h : BM base w B R cr us ls c bits wh V L) : ∀ b, Blks B R V ls b → b < w.heap.size := fun b hb => by
  obtain ⟨cur, hr, _⟩ := h.row
  rcases hb with rfl | rfl | hb | ⟨l, hl, hb⟩
  · exact h.blk.lt
  · exact hr.lt
  · exact (own_lt h.own b hb).2
  · obtain ⟨i, hi⟩ := mem_at hl
    exact (h.far i l hi b hb).2.1
theorem BM.geAll (h : BM base w B R cr us ls c bits wh V L) : ∀ b, Blks B R V ls b → base ≤ b := fun b hb => by
  rcases hb with rfl | rfl | hb | ⟨l, hl, hb⟩
  · exact h.geB
  · exact h.geR
  · exact (own_lt h.own b hb).1
  · obtain ⟨i, hi⟩ := mem_at hl
    exact (h.far i l hi b hb).1
end
structure BS (T : Nat → Prop) (w : World) (B : Nat) (s : Bst) : Prop where
  ex : ∃ base R cr ls V L, BM base w B R cr s.us ls s.c s.bits s.wh V L ∧ ∀ b, Blks B R V ls b → T b
  lt : ∀ b, T b → b < w.heap.size
def Ext (T : Nat → Prop) (w0 w : World) (b : Nat) : Prop := T b ∨ (w0.heap.size ≤ b ∧ b < w.heap.size)
structure OpS (T : Nat → Prop) (B : Nat) (s : Bst) (w0 : World) (v : Value) (e : Ending) (w : World) : Prop where
  ret : e = .returned v
  bs : BS (Ext T w0 w) w B s
  frm : Frm T w0 w
section
variable {T S : Nat → Prop} {w w' : World} {B : Nat} {s : Bst}
theorem BS.frm (h : BS T w B s) (hf : Frm S w w') (hn : ∀ b, T b → ¬ S b) : BS T w' B s := by
  obtain ⟨base, R, cr, ls, V, L, hm, ht⟩ := h.ex
  exact ⟨⟨base, R, cr, ls, V, L, hm.frm hf (fun b hb => hn b (ht b hb)), ht⟩, fun b hb => Nat.lt_of_lt_of_le (h.lt b hb) hf.size⟩
theorem BS.below (h : BS T w B s) (hb : Below w.heap.size w w') : BS T w' B s := h.frm (S := fun _ => False) ⟨hb.os, hb.tape, hb.output, hb.size, fun k hk _ => hb.block k hk⟩ (fun _ _ h => h)
theorem ext_lt (hT : ∀ b, T b → b < w.heap.size) (hs : w.heap.size ≤ w'.heap.size) : ∀ b, Ext T w w' b → b < w'.heap.size := fun b hb => by
  rcases hb with hb | hb
  · exact Nat.lt_of_lt_of_le (hT b hb) hs
  · exact hb.2
/-- A blend whose row of leans turned, may be. -/
theorem bs_turn {base R cr bits wh : Nat} {ls : List Loc} {us : List Un} {c : Int} {V V' : Value} {L' : List Int} (hT : ∀ b, T b → b < w.heap.size) (ht : ∀ b, Blks B R V ls b → T b) (hm : BM base w' B R cr us ls c bits wh V' L') (hn : V'.ownBlock = V.ownBlock ∨ ∀ k, V'.ownBlock = some k → w.heap.size ≤ k) (hs : w.heap.size ≤ w'.heap.size) :
    BS (Ext T w w') w' B ⟨us, c, bits, wh⟩ := by
  refine ⟨⟨base, R, cr, ls, V', L', hm, fun b hb => ?_⟩, ext_lt hT hs⟩
  rcases hb with rfl | rfl | hb | hb
  · exact .inl (ht _ (.inl rfl))
  · exact .inl (ht _ (.inr (.inl rfl)))
  · rcases hn with hn | hn
    · exact .inl (ht _ (.inr (.inr (.inl (hn ▸ hb)))))
    · exact .inr ⟨hn b hb, (own_lt hm.own b hb).2⟩
  · exact .inl (ht _ (.inr (.inr (.inr hb))))
theorem own_sub {R : Nat} {V : Value} {ls : List Loc} (ht : ∀ b, Blks B R V ls b → T b) : ∀ b, Own B V ls b → T b := fun b hb => by
  rcases hb with rfl | hb | hb
  · exact ht _ (.inl rfl)
  · exact ht _ (.inr (.inr (.inl hb)))
  · exact ht _ (.inr (.inr (.inr hb)))
theorem guessS (h : BS T w B s) (ho : s.Ok) : Calls Try.prog 10 #[.pointer (some ⟨B, 0, none⟩)] w (OpS T B s w (.int .i64 s.guess)) := by
  obtain ⟨base, R, cr, ls, V, L, hm, ht⟩ := h.ex
  refine (guess10 w hm ho.us ho.c255 ho.bits ho.n0).mono ?_
  rintro e w' ⟨rfl, ⟨⟨V', L', hm', hn⟩, hf⟩⟩
  have hf' : Frm T w w' := hf.mono (fun b _ hb => by
    rcases hb with rfl | hb
    · exact ht _ (.inl rfl)
    · exact ht _ (.inr (.inr (.inl hb))))
  exact ⟨rfl, bs_turn h.lt ht hm' hn hf.size, hf'⟩
theorem learnS (h : BS T w B s) (ho : s.Ok) {bit : Int} (hb : bit = 0 ∨ bit = 1) (hwh : s.wh ≤ 1000000) : Calls Try.prog 9 #[.pointer (some ⟨B, 0, none⟩), .int .i64 bit] w (OpS T B (s.put bit) w (.int .i64 0)) := by
  obtain ⟨base, R, cr, ls, V, L, hm, ht⟩ := h.ex
  refine (learn9t bit w hm ho.us ho.c255 ho.bits ho.n0 hb hwh).mono ?_
  rintro e w' ⟨rfl, hx, hf⟩
  have hf' : Frm T w w' := hf.mono (fun b _ hb => own_sub ht b hb)
  refine ⟨rfl, ?_, hf'⟩
  unfold Bst.put
  rcases hx with ⟨h7, V', L', hm', hn⟩ | ⟨h7, V', L', hm', hn⟩
  · rw [if_neg h7]
    exact bs_turn h.lt ht hm' hn hf.size
  · rw [if_pos h7]
    exact bs_turn h.lt ht hm' hn hf.size
theorem learnSarg (h : BS T w B s) (ho : s.Ok) {bit : Int} (hb : ¬ (bit = 0 ∨ bit = 1)) : Calls Try.prog 9 #[.pointer (some ⟨B, 0, none⟩), .int .i64 bit] w (Sam (.int .i64 2) w) := by
  obtain ⟨base, R, cr, ls, V, L, hm, ht⟩ := h.ex
  exact learnArg bit B _ _ _ w ho.n0 (hm.blk.cell 0) hb
theorem bitsS (h : BS T w B s) (ho : s.Ok) : Calls Try.prog 25 #[.pointer (some ⟨B, 0, none⟩)] w (Sam (.int .i64 (s.bits : Int)) w) := by
  obtain ⟨base, R, cr, ls, V, L, hm, ht⟩ := h.ex
  exact bitsYes w hm ho.n0
theorem ctxS (h : BS T w B s) (ho : s.Ok) (hb : s.bits = 0) (hwh : s.wh ≤ 1000000) (hs : List Int) (Ah : Option Addr) (nh ch : Nat) (hw : WOk hs) (hnl : hs.length = nh) (hnh : nh ≤ 9223372036854775807) (hrd : ∀ W, Frm T w W → Rd W Ah (wds hs)) :
    Calls Try.prog 17 #[.pointer (some ⟨B, 0, none⟩), .slice Ah nh ch] w (OpS T B (s.ctx hs) w (.int .i64 0)) := by
  obtain ⟨us, c, bits, wh⟩ := s
  obtain rfl : bits = 0 := hb
  obtain ⟨base, R, cr, ls, V, L, hm, ht⟩ := h.ex
  refine (ctx17b hs Ah nh ch w hm ho.us ho.n0 (Nat.le_trans hwh (by decide)) hw hnl hnh (fun W hf => hrd W (hf.mono (fun b _ hb => own_sub ht b hb)))).mono ?_
  rintro e w' ⟨rfl, hm', hf⟩
  exact ⟨rfl, bs_turn h.lt ht hm' (.inl rfl) hf.size, hf.mono (fun b _ hb => own_sub ht b hb)⟩
theorem ctxSarg (h : BS T w B s) (ho : s.Ok) (hb : ¬ s.bits = 0) (Ah : Option Addr) (nh ch : Nat) : Calls Try.prog 17 #[.pointer (some ⟨B, 0, none⟩), .slice Ah nh ch] w (Sam (.int .i64 2) w) := by
  obtain ⟨base, R, cr, ls, V, L, hm, ht⟩ := h.ex
  exact ctxArg B _ Ah _ _ nh ch (s.bits : Int) w ho.n0 (hm.blk.cell 0) (hm.blk.cell 2) (by omega)
structure LnS (T : Nat → Prop) (B : Nat) (s : Bst) (w0 : World) (e : Ending) (w : World) : Prop where
  ex : ∃ A cp T' m, e = .returned (.slice A s.us.length cp) ∧ s.us.length ≤ cp ∧ BS T' w B s ∧ (∀ b, T' b → Ext T w0 w b) ∧ (∀ b, T' b → b < m) ∧ w0.heap.size ≤ m ∧ m ≤ w.heap.size ∧ w.ownsRow m 3 1 (.slice A s.us.length cp) s.us.length (ints s.leans)
  frm : Frm T w0 w
theorem leansS (h : BS T w B s) (ho : s.Ok) : Calls Try.prog 21 #[.pointer (some ⟨B, 0, none⟩)] w (LnS T B s w) := by
  obtain ⟨base, R, cr, ls, V, L, hm, ht⟩ := h.ex
  refine (leans21 w hm ho.us ho.c255 ho.bits ho.n0).mono ?_
  rintro e w' ⟨A, cp, V', wm, rfl, hcp, hrow, hm', hn, hf, hb⟩
  have hf' : Frm T w wm := hf.mono (fun b _ hb => by
    rcases hb with rfl | hb
    · exact ht _ (.inl rfl)
    · exact ht _ (.inr (.inr (.inl hb))))
  have hbs := bs_turn h.lt ht hm' hn hf.size
  refine ⟨⟨A, cp, Ext T w wm, wm.heap.size, rfl, hcp, hbs.below hb, fun b hb' => hb'.imp id (fun h => ⟨h.1, Nat.lt_of_lt_of_le h.2 hb.size⟩), hbs.lt, hf.size, hb.size, hrow⟩, hf'.below hb⟩
end
def NewS (ts : List Pt) (w0 : World) (e : Ending) (w : World) : Prop :=
  Below w0.heap.size w0 w ∧ (if rightP ts = 0 then ∃ B, e = .returned (.tuple #[.pointer (some ⟨B, 0, none⟩), .int .i64 0]) ∧ BS (fun b => w0.heap.size ≤ b ∧ b < w.heap.size) w B (Bst.new ts)
    else e = .returned (.tuple #[.pointer none, .int .i64 (rightP ts)]))
theorem newS (ts : List Pt) (A : Option Addr) (n c : Nat) (w : World) (hn : n = ts.length) (hok : ∀ t ∈ ts, t.ok) (hr : Rd w A (flat_pts ts)) (hl : n ≤ 5000) : Calls Try.prog 8 #[.slice A n c] w (NewS ts w) := by
  refine (new8 ts A n c w hn hok hr hl).mono ?_
  rintro e w' ⟨hb, hx⟩
  refine ⟨hb, ?_⟩
  split
  · rename_i h0
    rw [if_pos h0] at hx
    obtain ⟨B, R, cr, ls, rfl, hm⟩ := hx
    exact ⟨B, rfl, ⟨_, R, cr, ls, _, [], hm, fun b hb => ⟨hm.geAll b hb, hm.ltAll b hb⟩⟩, fun b hb => hb.2⟩
  · rename_i h0
    rw [if_neg h0] at hx
    exact hx
end Go.Proofs.Ytnohfeaamfjimaa
namespace Go.Proofs.Ytnohfeaamfjimaa
open Go.RowKit Go.WideShapes
set_option linter.unusedVariables false
set_option linter.unusedSimpArgs false
structure NewL (t : Pt) (W : World) (e : Ending) (w : World) : Prop where
  ex : ∃ B, e = .returned (.tuple #[.pointer (some ⟨B, 0, none⟩), .int .i64 0]) ∧ BS (fun b => W.heap.size ≤ b ∧ b < w.heap.size) w B (Bst.new [t])
  low : Below W.heap.size W w
theorem newLit {t : Pt} (hok : t.ok) (h0 : rightP [t] = 0) (g0 : Nat) (W : World) (hr : Rd W (some ⟨g0, 0, none⟩) t.cells) : Calls Try.prog 8 #[.slice (some ⟨g0, 0, none⟩) 1 1] W (NewL t W) := by
  refine (newS [t] (some ⟨g0, 0, none⟩) 1 1 W rfl (by simpa using hok) (by simpa [flat_pts] using hr) (by omega)).mono ?_
  rintro e w ⟨hb, hx⟩
  rw [if_pos h0] at hx
  exact ⟨hx, hb⟩
theorem rd_lit (W : World) (t : Pt) : Rd (W.alloc (.cells #[.int .u8 t.k, .int .i64 t.s, .int .i64 t.a, .int .i64 t.b, .int .i64 t.c, .int .i64 t.r, .int .i64 t.l] 25)) (some ⟨W.heap.size, 0, none⟩) t.cells := fun _ => by
  refine ⟨_, 0, rfl, by simp, fun i u hu => ?_⟩
  rw [Nat.zero_add, (Blk.new W 25 _).cell, List.getElem?_toArray]
  exact hu
def p1 : Pt := ⟨2, 0, 0, 0, 0, 0, 255⟩
def p2 : Pt := ⟨1, 0, 0, 0, 128, 0, 0⟩
theorem p1_ok : p1.ok := by constructor <;> decide
theorem p2_ok : p2.ok := by constructor <;> decide
theorem p1_right : rightP [p1] = 0 := by decide +kernel
theorem p2_right : rightP [p2] = 0 := by decide +kernel
theorem none_right : rightP [] = 100 := by decide +kernel
theorem aw1 : (Bst.new [p1]).guess = 32768 := by decide +kernel
theorem aw2 : (Bst.new [p2]).guess = 40800 := by decide +kernel
theorem aw3 : ((Bst.new [p1]).put 1).guess = 16 * sqI (stI 3071) := by decide +kernel
theorem aw4 : ((Bst.new [p2]).put 0).guess = 40800 := by decide +kernel
theorem aw5 : ((Bst.new [p1]).put 1).bits = 1 := by decide +kernel
/-- Two blends side by side. -/
structure TB (w0 w : World) (B1 : Nat) (s1 : Bst) (B2 : Nat) (s2 : Bst) : Prop where
  ex : ∃ T1 T2, BS T1 w B1 s1 ∧ BS T2 w B2 s2 ∧ (∀ b, T1 b → ¬ T2 b) ∧ (∀ b, T1 b ∨ T2 b → w0.heap.size ≤ b)
  low : Below w0.heap.size w0 w
section
variable {w0 w w' : World} {B1 B2 : Nat} {s1 s2 s1' s2' : Bst} {f : FuncId} {args : Array Value} {v : Value}
theorem TB.swap (h : TB w0 w B1 s1 B2 s2) : TB w0 w B2 s2 B1 s1 := by
  obtain ⟨⟨T1, T2, h1, h2, hd, hg⟩, hl⟩ := h
  exact ⟨⟨T2, T1, h2, h1, fun b hb hc => hd b hc hb, fun b hb => hg b hb.symm⟩, hl⟩
theorem TB.below (h : TB w0 w B1 s1 B2 s2) (hb : Below w.heap.size w w') : TB w0 w' B1 s1 B2 s2 := by
  obtain ⟨⟨T1, T2, h1, h2, hd, hg⟩, hl⟩ := h
  exact ⟨⟨T1, T2, h1.below hb, h2.below hb, hd, hg⟩, bl_step hl hb⟩
theorem TB.one (h : TB w0 w B1 s1 B2 s2) (hc : ∀ T, BS T w B1 s1 → Calls Try.prog f args w (OpS T B1 s1' w v)) : Calls Try.prog f args w (fun e w' => e = .returned v ∧ TB w0 w' B1 s1' B2 s2) := by
  obtain ⟨⟨T1, T2, h1, h2, hd, hg⟩, hl⟩ := h
  refine (hc T1 h1).mono ?_
  rintro e w' ⟨rfl, hbs, hf⟩
  refine ⟨rfl, ⟨Ext T1 w w', T2, hbs, h2.frm hf (fun b hb ht => hd b ht hb), fun b hb h2' => hb.elim (fun h => hd b h h2') (fun h => by have := h2.lt b h2'; omega), fun b hb => ?_⟩, hl.trans (hf.to_below hl.size (fun b hb => hg b (.inl hb)))⟩
  rcases hb with (hb | hb) | hb
  · exact hg b (.inl hb)
  · have := hl.size
    omega
  · exact hg b (.inr hb)
theorem TB.two (h : TB w0 w B1 s1 B2 s2) (hc : ∀ T, BS T w B2 s2 → Calls Try.prog f args w (OpS T B2 s2' w v)) : Calls Try.prog f args w (fun e w' => e = .returned v ∧ TB w0 w' B1 s1 B2 s2') :=
  (h.swap.one hc).mono fun e w' h => ⟨h.1, h.2.swap⟩
theorem TB.same (h : TB w0 w B1 s1 B2 s2) (hc : ∀ T, BS T w B1 s1 → Calls Try.prog f args w (Sam v w)) : Calls Try.prog f args w (Sam v w) := by
  obtain ⟨⟨T1, T2, h1, h2, hd, hg⟩, hl⟩ := h
  exact hc T1 h1
end
theorem tb_new {w0 wa wb w1 w2 : World} {B1 B2 : Nat} {s1 s2 : Bst} (h0 : Below w0.heap.size w0 wa) (ha : BS (fun b => wa.heap.size ≤ b ∧ b < w1.heap.size) w1 B1 s1) (h1 : Below wa.heap.size wa w1) (h2 : Below w1.heap.size w1 wb) (hb : BS (fun b => wb.heap.size ≤ b ∧ b < w2.heap.size) w2 B2 s2) (h3 : Below wb.heap.size wb w2) : TB w0 w2 B1 s1 B2 s2 := by
  have h12 : Below w1.heap.size w1 w2 := bl_step h2 h3
  refine ⟨⟨_, _, ha.below h12, hb, fun b hb hc => ?_, fun b hb => ?_⟩, bl_step (bl_step h0 h1) h12⟩
  · have := h2.size
    omega
  · have := h0.size
    have := h1.size
    have := h2.size
    omega
set_option maxRecDepth 100000 in
set_option maxHeartbeats 4000000 in
theorem awake_any (w : World) : Calls Try.prog 11 #[] w (Quiet (.bool true) w) := by
  have ho1 := Bst.new_ok p1_right
  have ho2 := Bst.new_ok p2_right
  have HO1 := Lib.hid ho1
  have HO2 := Lib.hid ho2
  have HO3 := Lib.hid (Bst.put_ok ho1 (bit := 1) (.inr rfl))
  have HO4 := Lib.hid (Bst.put_ok ho2 (bit := 0) (.inl rfl))
  clear ho1 ho2
  go_enter Try.func11, Try.ntmps11
  go_wp2_with fail
  refine (newLit p1_ok p1_right _ _ (rd_lit w p1)).mono ?_
  rintro e w1 ⟨⟨B1, rfl, hs1⟩, hb1⟩
  have HS1 := Lib.hid hs1
  have HB1 := Lib.hid hb1
  clear hs1 hb1
  go_wp2_with fail
  refine (newLit p2_ok p2_right _ _ (rd_lit w1 p2)).mono ?_
  rintro e w2 ⟨⟨B2, rfl, hs2⟩, hb2⟩
  have HT := Lib.hid (tb_new ((Below.refl w.heap.size w).alloc (Nat.le_refl _) _) HS1.out HB1.out ((Below.refl w1.heap.size w1).alloc (Nat.le_refl _) _) hs2 hb2)
  clear hs2 hb2 HS1 HB1
  obtain ⟨q, hq⟩ : ∃ q, sqI (stI 3071) = q := ⟨_, rfl⟩
  have hqb := sq_bd (stI 3071)
  rw [hq] at hqb
  have HQ := Lib.hid hq
  clear hq
  go_wp2_with fail
  refine (HT.out.one (fun T h => guessS h HO1.out)).mono ?_
  rintro e w3 ⟨rfl, ht3⟩
  rw [aw1]
  have HT3 := Lib.hid ht3
  clear ht3 HT
  go_wp2_with fail
  refine (HT3.out.two (fun T h => guessS h HO2.out)).mono ?_
  rintro e w4 ⟨rfl, ht4⟩
  rw [aw2]
  have HT4 := Lib.hid ht4
  clear ht4 HT3
  go_wp2_with fail
  refine (HT4.out.one (fun T h => learnS h HO1.out (.inr rfl) (by decide))).mono ?_
  rintro e w5 ⟨rfl, ht5⟩
  have HT5 := Lib.hid ht5
  clear ht5 HT4
  go_wp2_with fail
  refine (HT5.out.two (fun T h => learnS h HO2.out (.inl rfl) (by decide))).mono ?_
  rintro e w6 ⟨rfl, ht6⟩
  have HT6 := Lib.hid ht6
  clear ht6 HT5
  go_wp2_with fail
  refine (newS [] none 0 0 w6 rfl (by simp) (Rd.nil _ _) (by omega)).mono ?_
  rintro e w7 ⟨hb7, hx7⟩
  rw [if_neg (by rw [none_right]; decide), none_right] at hx7
  subst hx7
  have HT7 := Lib.hid (HT6.out.below hb7)
  clear hb7 HT6
  go_wp2_with fail
  refine (HT7.out.one (fun T h => guessS h HO3.out)).mono ?_
  rintro e w8 ⟨rfl, ht8⟩
  rw [aw3, HQ.out]
  have HT8 := Lib.hid ht8
  clear ht8 HT7
  go_wp2_with fail
  refine (stretch_any 3071 w8).mono ?_
  rintro e w9 ⟨rfl, hb9⟩
  have HT9 := Lib.hid (HT8.out.below hb9)
  clear hb9 HT8
  go_wp2_with fail
  refine (squash_any (stI 3071) w9).mono ?_
  rintro e w10 ⟨rfl, hb10⟩
  rw [HQ.out]
  have HT10 := Lib.hid (HT9.out.below hb10)
  clear hb10 HT9
  go_wp2_with fail
  refine (HT10.out.two (fun T h => guessS h HO4.out)).mono ?_
  rintro e w11 ⟨rfl, ht11⟩
  rw [aw4]
  have HT11 := Lib.hid ht11
  clear ht11 HT10
  go_wp2_with fail
  refine (HT11.out.same (fun T h => bitsS h HO3.out)).mono ?_
  rintro e w12 ⟨rfl, rfl⟩
  rw [aw5]
  go_wp2_with fail
  refine (HT11.out.same (fun T h => learnSarg h HO3.out (bit := 2) (by decide))).mono ?_
  rintro e w13 ⟨rfl, rfl⟩
  go_wp2_with fail
  refine (HT11.out.same (fun T h => ctxSarg h HO3.out (by rw [aw5]; decide) none 0 0)).mono ?_
  rintro e w14 ⟨rfl, rfl⟩
  go_wp2
  go_ret
  exact ⟨rfl, HT11.out.low⟩
end Go.Proofs.Ytnohfeaamfjimaa
