/- The reference: begun by one contract; New: walk. -/
import Derived.Test.YtnohfeaamfjimaaVrBrBe
import Derived.Test.YtnohfeaamfjimaaVrBlGr
import Derived.StillTailTactics
import Derived.IntWalk
namespace Go.Proofs.Ytnohfeaamfjimaa
open Go.RowKit Go.WideShapes
set_option linter.unusedVariables false
set_option linter.unusedSimpArgs false
theorem begunR_any {p : Pt} {i : Int} (h : oneP p i = true) (w : World) : Calls Try.prog 34 #[p.agg] w (BegR p w) := by
  obtain ⟨hk, hs, _, _, _, hb7, _⟩ := one_facts h
  obtain ⟨k, s, a, b, c, r, l⟩ := p
  simp only at hk hs hb7
  obtain ⟨S, rfl⟩ : ∃ S : Nat, s = (S : Int) := ⟨s.toNat, by omega⟩
  have hs2 : S ≤ 16 := by omega
  rcases kind9 hk with rfl | rfl | rfl | rfl | rfl | rfl | rfl | rfl | rfl
  · exact begR_1 S _ a b c r l hs2 rfl w
  · exact begR_2 S _ a b c r l hs2 rfl w
  · exact begR_3 S _ a b c r l hs2 rfl w
  · exact begR_4 S _ a b c r l hs2 rfl w
  · exact begR_5 S _ a b c r l hs2 rfl w
  · exact begR_6 S _ a b c r l hs2 rfl w
  · obtain ⟨b1, b2, _⟩ := hb7 rfl
    obtain ⟨m, rfl⟩ : ∃ m : Nat, b = (m : Int) := ⟨b.toNat, by omega⟩
    exact begR_7 S _ m _ a c r l _ hs2 rfl (by omega) (by omega) rfl rfl w
  · exact begR_8 S _ a b c r l hs2 rfl w
  · exact begR_9 S _ _ a b c r l hs2 rfl rfl w
theorem tRefs : SlS Try.prog 51 74 (.agg #[.int .u8 0, .int .i64 0, .int .i64 0, .int .i64 0, .int .i64 0, .int .i64 0, .int .i64 0, .int .u32 0, .slice none 0 0, .slice none 0 0, .slice none 0 0, .slice none 0 0, .slice none 0 0, .slice none 0 0, .int .i64 0, .int .i64 0]) 16 224 := ⟨Try.underlying51, by kernel_rfl, by kernel_rfl, by omega⟩
/-- Under way: the first k parts stand. -/
structure NwR (ts : List Pt) (w0 : World) (B k : Nat) (A : Option Addr) (c : Nat) (ls : List RL) (w : World) : Prop where
  blk : Blk w B 53 #[.slice A k c, .int .i64 1, .int .i64 0, .int .i64 0]
  own : w.ownsRow w0.heap.size 74 16 (.slice A k c) k (refs ((ts.take k).map beginU) ls)
  len : ls.length = k
  kt : k ≤ ts.length
  ru : ∀ (i : Nat) (t : Pt) (l : RL), ts[i]? = some t → ls[i]? = some l → RU w (beginU t) l
  far : ∀ (i : Nat) (t : Pt) (l : RL), ts[i]? = some t → ls[i]? = some l → ∀ b, l.has (beginU t) b → w0.heap.size ≤ b ∧ b < w.heap.size ∧ b ≠ B ∧ (Value.slice A k c).ownBlock ≠ some b
  apart : ∀ (i j : Nat) (t s : Pt) (l m : RL), ts[i]? = some t → ls[i]? = some l → ts[j]? = some s → ls[j]? = some m → i ≠ j → ∀ b, l.has (beginU t) b → ¬ m.has (beginU s) b
  geB : w0.heap.size ≤ B
  low : Below w0.heap.size w0 w
section
variable {ts : List Pt} {w0 w wX w3 : World} {B k c c' : Nat} {A A' : Option Addr} {ls : List RL}
theorem NwR.below (h : NwR ts w0 B k A c ls w) (hb : Below w.heap.size w wX) : NwR ts w0 B k A c ls wX :=
  ⟨h.blk.below hb, own_below h.own hb, h.len, h.kt, fun i t l ht hl => (h.ru i t l ht hl).below hb, fun i t l ht hl b hb' => by
    obtain ⟨q1, q2, q3⟩ := h.far i t l ht hl b hb'
    exact ⟨q1, Nat.lt_of_lt_of_le q2 hb.size, q3⟩, h.apart, h.geB, bl_step h.low hb⟩
theorem NwR.ownB (h : NwR ts w0 B k A c ls w) : (Value.slice A k c).ownBlock ≠ some B := fun e => h.blk.apart h.own (by decide) _ e rfl
theorem NwR.put {t : Pt} {l : RL} (h : NwR ts w0 B k A c ls w) (hb : Below w.heap.size w wX) (ht : ts[k]? = some t) (hu : RU wX (beginU t) l) (hl : ∀ b, l.has (beginU t) b → w.heap.size ≤ b ∧ b < wX.heap.size)
    (hf : Frm (fun b => (Value.slice A k c).ownBlock = some b) wX w3) (ho : w3.ownsRow w0.heap.size 74 16 (.slice A' (k + 1) c') (k + 1) (refs ((ts.take k).map beginU) ls ++ (beginU t).rc l))
    (hn : (Value.slice A' (k + 1) c').ownBlock = (Value.slice A k c).ownBlock ∨ ∀ b, (Value.slice A' (k + 1) c').ownBlock = some b → wX.heap.size ≤ b) :
    NwR ts w0 B (k + 1) A' c' (ls ++ [l]) (w3.setCell ⟨B, 0, none⟩ (.slice A' (k + 1) c')) := by
  have h1 := h.below hb
  have hBlt : B < w.heap.size := h.blk.lt
  have hB2 := h1.blk.frm hf h1.ownB
  have hs := (Frm.refl (fun k => k = B) w3).setCell (p := ⟨B, 0, none⟩) (fun _ => rfl) (.slice A' (k + 1) c')
  have hVB : (Value.slice A' (k + 1) c').ownBlock ≠ some B := fun e => hB2.apart ho (by decide) _ e rfl
  have hVlt : ∀ b, (Value.slice A k c).ownBlock = some b → b < w.heap.size := fun b hb => (own_lt h.own b hb).2
  have hkl := (List.getElem?_eq_some_iff.1 ht).1
  have htk : ((ts.take k).map beginU).length = ls.length := by rw [List.length_map, List.length_take, h.len]; omega
  have hnew : ∀ b, l.has (beginU t) b → (Value.slice A k c).ownBlock ≠ some b := fun b hb e => by
    have := hVlt b e
    have := (hl b hb).1
    omega
  have hsn : ∀ (i : Nat) (m : RL), (ls ++ [l])[i]? = some m → (i < k ∧ ls[i]? = some m) ∨ (i = k ∧ m = l) := fun i m hm => by
    by_cases hi : i < k
    · rw [List.getElem?_append_left (by rw [h.len]; exact hi)] at hm
      exact .inl ⟨hi, hm⟩
    · rw [List.getElem?_append_right (by rw [h.len]; omega), h.len] at hm
      have : i - k = 0 := by
        have := (List.getElem?_eq_some_iff.1 hm).1
        simp at this
        omega
      rw [this] at hm
      simp at hm
      exact .inr ⟨by omega, hm.symm⟩
  have htt : ∀ (u : Pt), ts[k]? = some u → u = t := fun u hu' => by rw [ht] at hu'; exact (Option.some.inj hu').symm
  refine ⟨?_, ?_, by rw [List.length_append, h.len]; rfl, by omega, fun i u m hu' hm => ?_, fun i u m hu' hm b hb' => ?_, fun i j u s m n hu' hm hs' hn' hij b hb' hb2 => ?_, h.geB, ?_⟩
  · have := hB2.set 0 (.slice A' (k + 1) c')
    exact this
  · have e : refs ((ts.take (k + 1)).map beginU) (ls ++ [l]) = refs ((ts.take k).map beginU) ls ++ (beginU t).rc l := by
      rw [List.take_add_one, ht, List.map_append]
      exact refs_snoc _ _ _ _ htk
    rw [e]
    exact hs.own ho (fun b hb e => hVB (by rw [hb, e]))
  · rcases hsn i m hm with ⟨hi, hm⟩ | ⟨hi, hm⟩
    · exact ((h1.ru i u m hu' hm).frm hf (fun b hb' => (h1.far i u m hu' hm b hb').2.2.2)).frm hs (fun b hb' => (h1.far i u m hu' hm b hb').2.2.1)
    · subst hi hm
      rw [htt u hu']
      exact (hu.frm hf hnew).frm hs (fun b hb' e => by have := (hl b hb').1; omega)
  · have hgrow := Nat.le_trans hf.size hs.size
    rcases hsn i m hm with ⟨hi, hm⟩ | ⟨hi, hm⟩
    · obtain ⟨q1, q2, q3, q4⟩ := h1.far i u m hu' hm b hb'
      refine ⟨q1, Nat.lt_of_lt_of_le q2 hgrow, q3, ?_⟩
      rcases hn with hn | hn
      · rw [hn]; exact q4
      · intro e
        have := hn b e
        omega
    · subst hi hm
      rw [htt u hu'] at hb'
      obtain ⟨q1, q2⟩ := hl b hb'
      have := h.low.size
      refine ⟨by omega, Nat.lt_of_lt_of_le q2 hgrow, by omega, ?_⟩
      rcases hn with hn | hn
      · rw [hn]; exact hnew b hb'
      · intro e
        have := hn b e
        omega
  · rcases hsn i m hm with ⟨hi, hm1⟩ | ⟨hi, hm1⟩
    · rcases hsn j n hn' with ⟨hj, hn1⟩ | ⟨hj, hn1⟩
      · exact h.apart i j u s m n hu' hm1 hs' hn1 hij b hb' hb2
      · have := (h.far i u m hu' hm1 b hb').2.1
        have e := htt s (hj ▸ hs')
        rw [e, hn1] at hb2
        have := (hl b hb2).1
        omega
    · rcases hsn j n hn' with ⟨hj, hn1⟩ | ⟨hj, hn1⟩
      · have := (h.far j s n hs' hn1 b hb2).2.1
        have e := htt u (hi ▸ hu')
        rw [e, hm1] at hb'
        have := (hl b hb').1
        omega
      · exact hij (by omega)
  · have hfb : Below w0.heap.size wX w3 := hf.to_below (by have := h1.low.size; omega) (fun b hb => (own_lt h.own b hb).1)
    exact (h1.low.trans hfb).setCell (p := ⟨B, 0, none⟩) h.geB _
end
/-- The reference's blend, told of its state. -/
structure RS (T : Nat → Prop) (w : World) (B : Nat) (s : Bst) : Prop where
  ex : ∃ R cr ls, RB w B R cr s.us ls s.c s.bits s.wh ∧ ∀ b, RBlks B R s.us ls b → T b
  lt : ∀ b, T b → b < w.heap.size
theorem NwR.rb {ts : List Pt} {w0 w : World} {B k c : Nat} {A : Option Addr} {ls : List RL} (h : NwR ts w0 B k A c ls w) (hk : k = ts.length) (h0 : 0 < k) : RS (fun b => w0.heap.size ≤ b ∧ b < w.heap.size) w B (Bst.new ts) := by
  have hut : ∀ (i : Nat) (u : Un), (ts.map beginU)[i]? = some u → ∃ t, ts[i]? = some t ∧ u = beginU t := fun i u hu => by
    rw [List.getElem?_map] at hu
    cases ht : ts[i]? with
    | none => rw [ht] at hu; cases hu
    | some t =>
      rw [ht] at hu
      injection hu with hu
      exact ⟨t, rfl, hu.symm⟩
  have htake : ts.take k = ts := by rw [hk]; exact List.take_of_length_le (Nat.le_refl _)
  have hown := h.own
  rw [htake] at hown
  rcases hown.2 with ⟨hv, hn⟩ | ⟨g, cap, cur, hv, hbase, hg, hcap, _, _, hpre⟩
  · omega
  · injection hv with hA _ hc
    subst hA hc
    have hgB : g ≠ B := fun e => h.ownB (by rw [← e]; rfl)
    have hrb : RB w B g c (ts.map beginU) ls 1 0 0 := by
      refine ⟨by rw [List.length_map, ← hk]; exact h.blk, ⟨cur.toList.drop (k * 16), by rw [← hpre, List.take_append_drop]; exact hg⟩, by rw [List.length_map, h.len, hk], by rw [List.length_map, ← hk]; exact hcap, fun i u l hu hl => ?_, fun i u l hu hl b hb => ?_, fun i j u v l m hu hl hv hm hij b hb => ?_⟩
      · obtain ⟨t, ht, rfl⟩ := hut i u hu
        exact h.ru i t l ht hl
      · obtain ⟨t, ht, rfl⟩ := hut i u hu
        obtain ⟨q1, q2, q3, q4⟩ := h.far i t l ht hl b hb
        exact ⟨q3, fun e => q4 (by rw [e]; rfl)⟩
      · obtain ⟨t, ht, rfl⟩ := hut i u hu
        obtain ⟨s, hs, rfl⟩ := hut j v hv
        exact h.apart i j t s l m ht hl hs hm hij b hb
    refine ⟨⟨g, c, ls, hrb, fun b hb => ⟨?_, hrb.lt b hb⟩⟩, fun b hb => hb.2⟩
    rcases hb with rfl | rfl | ⟨i, u, l, hu, hl, hb⟩
    · exact h.geB
    · exact hbase
    · obtain ⟨t, ht, rfl⟩ := hut i u hu
      exact (h.far i t l ht hl b hb).1
def NewRE (ts : List Pt) (w0 : World) (e : Ending) (w : World) : Prop :=
  Below w0.heap.size w0 w ∧ (if rightP ts = 0 then ∃ B : Nat, e = .returned (.tuple #[.pointer (some ⟨B, 0, none⟩), .int .i64 0]) ∧ RS (fun b => w0.heap.size ≤ b ∧ b < w.heap.size) w B (Bst.new ts)
    else e = .returned (.tuple #[.pointer none, .int .i64 (rightP ts)]))
theorem rc_lits (t : Pt) (l : RL) : ∃ (A1 : Option Addr) (n1 c1 : Nat) (A2 : Option Addr) (n2 c2 : Nat) (A3 : Option Addr) (n3 c3 : Nat) (A4 : Option Addr) (n4 c4 : Nat) (A5 : Option Addr) (n5 c5 : Nat) (A6 : Option Addr) (n6 c6 : Nat), (beginU t).rc l = [.int .u8 t.k, .int .i64 t.s, .int .i64 t.a, .int .i64 t.b, .int .i64 t.c, .int .i64 t.r, .int .i64 t.l, .int .u32 0, .slice A1 n1 c1, .slice A2 n2 c2, .slice A3 n3 c3, .slice A4 n4 c4, .slice A5 n5 c5, .slice A6 n6 c6, .int .i64 0, .int .i64 0] := by
  refine ⟨slA l.g1 (beginU t).ch.length, (beginU t).ch.length, slN l.c1 (beginU t).ch.length, slA l.g2 (beginU t).ct.length, (beginU t).ct.length, slN l.c2 (beginU t).ct.length, slA l.g3 (beginU t).ss.length, (beginU t).ss.length, slN (beginU t).ss.length (beginU t).ss.length, slA l.g4 (beginU t).wt.length, (beginU t).wt.length, slN l.c4 (beginU t).wt.length, slA l.g5 (beginU t).nm.length, (beginU t).nm.length, slN (beginU t).nm.length (beginU t).nm.length, slA l.g6 (beginU t).rg.length, (beginU t).rg.length, slN (beginU t).rg.length (beginU t).rg.length, ?_⟩
  unfold Un.rc
  rw [sV_eq, sV_eq, sV_eq, sV_eq, sV_eq, sV_eq]
  rfl
set_option maxRecDepth 100000 in
set_option maxHeartbeats 4000000 in
theorem new14 (ts : List Pt) (A : Option Addr) (n c : Nat) (w : World) (hn : n = ts.length) (hr : Rd w A (flat_pts ts)) :
    Calls Try.prog 14 #[.slice A n c] w (NewRE ts w) := by
  have HRL := Lib.hid (rightR_any ts A n c w hn hr)
  by_cases h0 : rightP ts = 0
  · rw [h0] at HRL
    obtain ⟨hl1, hl16, hone⟩ := right_ok h0
    have HN := Lib.hid hn
    have HR := Lib.hid hr
    have HOK := Lib.hid hone
    have H0 := Lib.hid h0
    have hn16 : n ≤ 16 := by omega
    have hn1 : 1 ≤ n := by omega
    clear hn hr hone h0 hl1 hl16
    go_enter Try.func14, Try.ntmps14
    go_wp2_with fail
    refine (HRL.out).mono ?_
    rintro e w1 ⟨rfl, hb1⟩
    have HB1 := Lib.hid hb1
    clear hb1
    go_wp2_with fail
    go_loopw [6] (fun v wr => ∃ k : Nat, k ≤ n ∧ v = .int .i64 k ∧ ∃ A' c' ls, NwR ts w w1.heap.size k A' c' ls wr) (fun v _ => n - (intOf v).toNat)
    case atStart =>
      refine ⟨0, by omega, rfl, none, 0, [], ⟨Blk.new w1 53 _, ⟨rfl, .inl ⟨rfl, rfl⟩⟩, rfl, by omega, fun i t l _ h => by simp at h, fun i t l _ h => by simp at h, fun i j t s l m _ h => by simp at h, HB1.out.size, ?_⟩⟩
      exact HB1.out.alloc HB1.out.size _
    case round =>
      obtain ⟨k, hk, rfl, A', c', ls, hp⟩ := hrel
      have HP := Lib.hid hp
      by_cases hlt : k < n
      · obtain ⟨t, b, o, ht, rfl, hat⟩ := pts_at HR.out (k := k) (by rw [← HN.out]; exact hlt)
        have HQ := Lib.hid (show ∀ W : World, Below w.heap.size w W → W.cell? ⟨b, o + k * 7, none⟩ = some (.int .u8 t.k) ∧ W.cell? ⟨b, o + k * 7 + 1, none⟩ = some (.int .i64 t.s) ∧ W.cell? ⟨b, o + k * 7 + 2, none⟩ = some (.int .i64 t.a) ∧ W.cell? ⟨b, o + k * 7 + 3, none⟩ = some (.int .i64 t.b) ∧ W.cell? ⟨b, o + k * 7 + 4, none⟩ = some (.int .i64 t.c) ∧ W.cell? ⟨b, o + k * 7 + 5, none⟩ = some (.int .i64 t.r) ∧ W.cell? ⟨b, o + k * 7 + 6, none⟩ = some (.int .i64 t.l) from fun W hW => ⟨ck hat.c0 hW, ck hat.c1 hW, ck hat.c2 hW, ck hat.c3 hW, ck hat.c4 hW, ck hat.c5 hW, ck hat.c6 hW⟩)
        have b0 : wr.cell? ⟨w1.heap.size, 0, none⟩ = some (.slice A' k c') := hp.blk.cell 0
        have HBG := Lib.hid (show ∀ W, Calls Try.prog 34 #[.agg #[.int .u8 t.k, .int .i64 t.s, .int .i64 t.a, .int .i64 t.b, .int .i64 t.c, .int .i64 t.r, .int .i64 t.l]] W (BegR t W) from fun W => begunR_any (HOK.out k t ht) W)
        have HT := Lib.hid ht
        have hki : (k : Int) < n := by omega
        clear ht hat hp
        go_upto_region 8 with fail
        refine wp_region_till (fun W : World => W.cell? ⟨w1.heap.size, 0, none⟩ = some (.slice A' k c') ∧ W.cell? ⟨b, o + k * 7, none⟩ = some (.int .u8 t.k) ∧ W.cell? ⟨b, o + k * 7 + 1, none⟩ = some (.int .i64 t.s) ∧ W.cell? ⟨b, o + k * 7 + 2, none⟩ = some (.int .i64 t.a) ∧ W.cell? ⟨b, o + k * 7 + 3, none⟩ = some (.int .i64 t.b) ∧ W.cell? ⟨b, o + k * 7 + 4, none⟩ = some (.int .i64 t.c) ∧ W.cell? ⟨b, o + k * 7 + 5, none⟩ = some (.int .i64 t.r) ∧ W.cell? ⟨b, o + k * 7 + 6, none⟩ = some (.int .i64 t.l)) 14 (by kernel_rfl) ⟨b0, HQ.out _ (by have := HP.out.low; exact this.drew)⟩ (fun hHeld => ?_)
        have hbz : Below wr.heap.size wr wr.drew := (Below.refl wr.heap.size wr).drew
        obtain ⟨w3, hw3⟩ : ∃ x, wr.drew = x := ⟨_, rfl⟩
        rw [hw3] at hHeld hbz ⊢
        have HBZ := Lib.hid hbz
        clear hw3 hbz b0
        refine tkt (i := 0) (d := 20) rfl rfl ?_
        simp only [Act.put, zzA, zzB, zzC]
        refine tkt (i := 1) (d := 21) rfl rfl ?_
        simp only [Act.put, zzA, zzB, zzC]
        refine tkt (i := 2) (d := 22) rfl rfl ?_
        simp only [Act.put, zzA, zzB, zzC]
        refine tkt (i := 3) (d := 23) rfl rfl ?_
        simp only [Act.put, zzA, zzB, zzC]
        refine tkt (i := 4) (d := 24) rfl rfl ?_
        simp only [Act.put, zzA, zzB, zzC]
        refine tkt (i := 5) (d := 25) rfl rfl ?_
        simp only [Act.put, zzA, zzB, zzC]
        refine tkt (i := 6) (d := 26) rfl rfl ?_
        simp only [Act.put, zzA, zzB, zzC]
        refine tkt (i := 7) (d := 27) rfl rfl ?_
        simp only [Act.put, zzA, zzB, zzC]
        refine tkt (i := 8) (d := 28) rfl rfl ?_
        simp only [Act.put, zzA, zzB, zzC]
        refine wpAnyT_ready (rs := [9]) (by kernel_rfl) (by simp) ?_
        refine AllReadyT.cons (o := _) rfl (fun K hK => ?_) (AllReadyT.nil)
        go_simp
        refine (HBG.out _).mono ?_
        rintro e w4 ⟨⟨l, rfl, hu4, hl4⟩, hb4⟩
        obtain ⟨A1, n1, c1, A2, n2, c2, A3, n3, c3, A4, n4, c4, A5, n5, c5, A6, n6, c6, hrc⟩ := rc_lits t l
        rw [hrc]
        have HRC := Lib.hid hrc
        have HU4 := Lib.hid hu4
        have HL4 := Lib.hid (show ∀ b, l.has (beginU t) b → wr.heap.size ≤ b ∧ b < w4.heap.size from fun b hb => ⟨Nat.le_trans HBZ.out.size (hl4 b hb).1, (hl4 b hb).2⟩)
        have HBX := Lib.hid (bl_step HBZ.out hb4)
        have b04 := ck hHeld.1 hb4
        clear hu4 hl4 hrc hb4
        go_wp2_with fail
        refine hK.out _ _ ⟨b04, HQ.out _ (bl_step HP.out.low HBX.out)⟩ (fun hHeld => ?_)
        clear b04
        clear hK K
        try simp only [Act.put, zzA, zzB, zzC]
        refine wpAnyT_ready (rs := [10]) (by kernel_rfl) (by simp) ?_
        refine AllReadyT.cons (o := _) rfl (fun K hK => ?_) (AllReadyT.nil)
        go_simp
        have hal := (Below.refl w4.heap.size w4).alloc (Nat.le_refl _) (.cells #[.int .u8 t.k, .int .i64 t.s, .int .i64 t.a, .int .i64 t.b, .int .i64 t.c, .int .i64 t.r, .int .i64 t.l, .int .u32 0, .slice A1 n1 c1, .slice A2 n2 c2, .slice A3 n3 c3, .slice A4 n4 c4, .slice A5 n5 c5, .slice A6 n6 c6, .int .i64 0, .int .i64 0] 74)
        have hna := Blk.new w4 74 #[.int .u8 t.k, .int .i64 t.s, .int .i64 t.a, .int .i64 t.b, .int .i64 t.c, .int .i64 t.r, .int .i64 t.l, .int .u32 0, .slice A1 n1 c1, .slice A2 n2 c2, .slice A3 n3 c3, .slice A4 n4 c4, .slice A5 n5 c5, .slice A6 n6 c6, .int .i64 0, .int .i64 0]
        have hu5 := HU4.out.below hal
        have hl5 : ∀ b, l.has (beginU t) b → wr.heap.size ≤ b ∧ b < (w4.alloc (.cells #[.int .u8 t.k, .int .i64 t.s, .int .i64 t.a, .int .i64 t.b, .int .i64 t.c, .int .i64 t.r, .int .i64 t.l, .int .u32 0, .slice A1 n1 c1, .slice A2 n2 c2, .slice A3 n3 c3, .slice A4 n4 c4, .slice A5 n5 c5, .slice A6 n6 c6, .int .i64 0, .int .i64 0] 74)).heap.size := fun b hb => ⟨(HL4.out b hb).1, Nat.lt_of_lt_of_le (HL4.out b hb).2 hal.size⟩
        have hbx := bl_step HBX.out hal
        have b05 := ck hHeld.1 hal
        obtain ⟨w5, hw5⟩ : ∃ x, w4.alloc (.cells #[.int .u8 t.k, .int .i64 t.s, .int .i64 t.a, .int .i64 t.b, .int .i64 t.c, .int .i64 t.r, .int .i64 t.l, .int .u32 0, .slice A1 n1 c1, .slice A2 n2 c2, .slice A3 n3 c3, .slice A4 n4 c4, .slice A5 n5 c5, .slice A6 n6 c6, .int .i64 0, .int .i64 0] 74) = x := ⟨_, rfl⟩
        obtain ⟨gn, hgn⟩ : ∃ x, w4.heap.size = x := ⟨_, rfl⟩
        rw [hw5] at hna hu5 hl5 hbx b05 ⊢
        rw [hgn] at hna ⊢
        have HNA := Lib.hid hna
        have HU5 := Lib.hid hu5
        have HL5 := Lib.hid hl5
        have HBE := Lib.hid hbx
        clear hna hu5 hl5 hal hw5 hgn hbx
        refine hK.out _ _ ⟨b05, HQ.out _ (bl_step HP.out.low HBE.out)⟩ (fun hHeld => ?_)
        clear b05
        clear hK K
        try simp only [Act.put, zzA, zzB, zzC]
        refine wpAnyT_ready (rs := [11]) (by kernel_rfl) (by simp) ?_
        refine AllReadyT.cons (o := _) rfl (fun K hK => ?_) (AllReadyT.nil)
        have hm2 := HP.out.below HBE.out
        have HOWN := Lib.hid hm2.own
        have HBS := Lib.hid hm2.low.size
        refine step_appN tRefs rfl (.tmp 24) (.tmp 30) rfl w.heap.size (.slice A' k c') k (refs ((ts.take k).map beginU) ls) rfl HOWN.out ⟨gn, 0, none⟩ 1 1 [.int .u8 t.k, .int .i64 t.s, .int .i64 t.a, .int .i64 t.b, .int .i64 t.c, .int .i64 t.r, .int .i64 t.l, .int .u32 0, .slice A1 n1 c1, .slice A2 n2 c2, .slice A3 n3 c3, .slice A4 n4 c4, .slice A5 n5 c5, .slice A6 n6 c6, .int .i64 0, .int .i64 0] rfl rfl (fun jj u hu => by rw [addr_add, Nat.zero_add, HNA.out.cell, List.getElem?_toArray]; exact hu) (by intro u hu; simp only [List.mem_cons, List.not_mem_nil, or_false] at hu; rcases hu with rfl | rfl | rfl | rfl | rfl | rfl | rfl | rfl | rfl | rfl | rfl | rfl | rfl | rfl | rfl | rfl <;> rfl) (by omega) (by unfold maxLen; omega) HBS.out ?_
        intro V3 w6 ho3 hg3 hn3
        obtain ⟨A7, c7, rfl, _⟩ := own_slice ho3
        have hf3 : Frm (fun b => (Value.slice A' k c').ownBlock = some b) w5 w6 := Frm.of_grown hg3 (fun b hb => hb)
        have HF3 := Lib.hid hf3
        have HO3 := Lib.hid (show w6.ownsRow w.heap.size 74 16 (.slice A7 (k + 1) c7) (k + 1) (refs ((ts.take k).map beginU) ls ++ (beginU t).rc l) from by rw [HRC.out]; exact ho3)
        have HN3 := Lib.hid hn3
        have z06 : w6.frozen? ⟨w1.heap.size, 0, none⟩ = false := (hm2.blk.frm hf3 hm2.ownB).frozen 0
        have b06 : w6.cell? ⟨w1.heap.size, 0, none⟩ = some (.slice A' k c') := (hm2.blk.frm hf3 hm2.ownB).cell 0
        have hlow6 : Below w.heap.size w w6 := hm2.low.trans (hf3.to_below hm2.low.size (fun b hb => (own_lt HOWN.out b hb).1))
        have HLOW6 := Lib.hid hlow6
        clear ho3 hg3 hf3 hn3 hm2 hlow6
        refine hK.out _ _ ⟨b06, HQ.out _ HLOW6.out⟩ (fun hHeld => ?_)
        clear hK K
        try simp only [Act.put, zzA, zzB, zzC]
        refine wpAnyT_ready (rs := [12]) (by kernel_rfl) (by simp) ?_
        refine AllReadyT.cons (o := _) rfl (fun K hK => ?_) (AllReadyT.nil)
        go_simp
        refine hK.out _ _ hHeld (fun hHeld => ?_)
        clear hK K
        try simp only [Act.put, zzA, zzB, zzC]
        refine tkt (i := 13) (d := 33) rfl rfl ?_
        simp only [Act.put, zzA, zzB, zzC]
        refine wpAnyT_ready (rs := [14]) (by kernel_rfl) (by simp) ?_
        refine AllReadyT.past (o := _) rfl (by kernel_rfl) (fun K hK => ?_) (AllReadyT.nil)
        go_simp
        refine hK.out _ _ ?_
        clear hK K
        try simp only [Act.put, zzA, zzB, zzC]
        refine wpAnyT_done (by kernel_rfl) ?_ _
        have HPUT := Lib.hid (HP.out.put HBE.out HT.out HU5.out HL5.out HF3.out HO3.out HN3.out)
        go_wp2
        go_roundw
        case rel => exact ⟨k + 1, by omega, by go_num, A7, c7, _, HPUT.out⟩
        case measure => simp [intOf]; omega
      · obtain rfl : k = n := by omega
        have HRB := Lib.hid (hp.rb HN.out hn1)
        have hlow := hp.low
        have HLW := Lib.hid hlow
        clear hp hlow
        go_wp2
        refine bodyPost_ret (v := .tuple #[.pointer (some ⟨w1.heap.size, 0, none⟩), .int .i64 0]) (by simp [results, Try.results14, go_sem]) rfl ?_
        refine ⟨HLW.out, ?_⟩
        rw [if_pos H0.out]
        exact ⟨w1.heap.size, rfl, HRB.out⟩
  · have gq : (rightP ts != 0) = true := by simpa using h0
    have H0 := Lib.hid h0
    clear hn hr h0
    go_enter Try.func14, Try.ntmps14
    go_wp2_with fail
    refine (HRL.out).mono ?_
    rintro e w1 ⟨rfl, hb1⟩
    have HB1 := Lib.hid hb1
    clear hb1 HRL
    obtain ⟨q, hq⟩ : ∃ q, rightP ts = q := ⟨_, rfl⟩
    have HQ := Lib.hid hq
    rw [hq] at gq ⊢
    clear hq
    go_wp2
    refine bodyPost_ret (v := .tuple #[.pointer none, .int .i64 q]) (by simp [results, Try.results14, go_sem]) rfl ?_
    refine ⟨HB1.out, ?_⟩
    rw [if_neg H0.out, HQ.out]
end Go.Proofs.Ytnohfeaamfjimaa
