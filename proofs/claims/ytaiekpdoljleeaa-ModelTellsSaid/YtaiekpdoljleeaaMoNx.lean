/- What is read next of bytes: the closure's walk. Condition: at most 65535 bytes at once. -/
import Derived.Test.YtaiekpdoljleeaaMoPu
import Derived.Laws.CopyOwn
namespace Go.Proofs.Ytaiekpdoljleeaa
open Go.RowKit Go.WideShapes
set_option linter.unusedVariables false
set_option linter.unusedSimpArgs false
theorem made_blk {w : World} {base g n : Nat} {e : TypeId} {xs : List Value} (h : w.ownsRow base e 1 (.slice (some ⟨g, 0, none⟩) n n) n xs) : Blk w g e xs.toArray := by
  obtain ⟨hl, h | ⟨g', cap, cur, hv, hb, hg, h1, h2, h3, h4⟩⟩ := h
  · cases h.1
  · injection hv with e1 _ e2
    injection e1 with e1
    injection e1 with e1
    subst e1 e2
    have : cur.toList = xs := by rw [← h4, List.take_of_length_le (by simp [h3])]
    rw [← this]
    rw [Array.toArray_toList]; exact hg
/-- The reader's blocks: g the bytes, g + 2 the place, g + 3 whether it was not enough, g + 4 the closure. -/
structure Rs (g : Nat) (bs : List Int) (A : Option Addr) (n c : Nat) (L : Left) (w : World) : Prop where
  b : Blk w g 37 #[.slice A n c]
  pos : ∃ a : Nat, a ≤ n ∧ Blk w (g + 2) 3 #[.int .i64 a] ∧ ((L = some (bs.drop a) ∧ Blk w (g + 3) 4 #[.bool false]) ∨ (L = none ∧ Blk w (g + 3) 4 #[.bool true]))
  nxt : Blk w (g + 4) 95 #[.func (.func 59) #[] #[.pointer (some ⟨g + 3, 0, none⟩), .pointer (some ⟨g, 0, none⟩), .pointer (some ⟨g + 2, 0, none⟩)]]
  rd : Rd w A (octs bs)
theorem Rs.below {g : Nat} {bs : List Int} {A : Option Addr} {n c : Nat} {L : Left} {w w' : World} (h : Rs g bs A n c L w) (hb : Below w.heap.size w w') : Rs g bs A n c L w' := by
  obtain ⟨a, h1, h2, h3⟩ := h.pos
  exact ⟨h.b.below hb, ⟨a, h1, h2.below hb, h3.imp (fun h => ⟨h.1, h.2.below hb⟩) (fun h => ⟨h.1, h.2.below hb⟩)⟩, h.nxt.below hb, h.rd.below hb rfl⟩
theorem rd_far {g : Nat} {bs : List Int} {A : Option Addr} {w w' : World} {S : Nat → Prop} (h : Rd w A (octs bs)) (hA : 0 < bs.length → ∀ q, A = some q → q.block < g) (hf : Frm S w w') (hs : ∀ k, k < g → ¬ S k) : Rd w' A (octs bs) :=
  fun hx => hf.rd h (fun q hq _ => hs _ (hA (by rwa [octs_length] at hx) q hq)) hx
theorem Rs.frm {g : Nat} {bs : List Int} {A : Option Addr} {n c : Nat} {L : Left} {w w' : World} {S : Nat → Prop} (h : Rs g bs A n c L w) (hf : Frm S w w') (hs : ∀ k, k ≤ g + 4 → ¬ S k) (hA : 0 < bs.length → ∀ q, A = some q → q.block < g) : Rs g bs A n c L w' := by
  obtain ⟨a, h1, h2, h3⟩ := h.pos
  exact ⟨h.b.frm hf (hs _ (by omega)), ⟨a, h1, h2.frm hf (hs _ (by omega)), h3.imp (fun h => ⟨h.1, h.2.frm hf (hs _ (by omega))⟩) (fun h => ⟨h.1, h.2.frm hf (hs _ (by omega))⟩)⟩, h.nxt.frm hf (hs _ (by omega)), rd_far h.rd hA hf (fun k hk => hs k (by omega))⟩
def SR (g : Nat) : Nat → Prop := fun k => k = g + 2 ∨ k = g + 3
/-- What the closure tells. -/
structure IsNx (g : Nat) (bs : List Int) (A : Option Addr) (n c k : Nat) (L : Left) (w0 : World) (e : Ending) (w : World) : Prop where
  ex : ∃ gb, e = .returned (.slice (some ⟨gb, 0, none⟩) k k) ∧ w0.heap.size ≤ gb ∧ Blk w gb 5 (octs (nx k L).2).toArray
  st : Rs g bs A n c (nx k L).1 w
  frm : Frm (SR g) w0 w
theorem octs_zero (k : Nat) : octs (List.replicate k 0) = List.replicate k (.int .u8 0) := by simp [octs]
set_option maxRecDepth 100000 in
set_option maxHeartbeats 4000000 in
theorem next_short (g : Nat) (bs : List Int) (A : Option Addr) (n c k : Nat) (L : Left) (w : World) (hn : n = bs.length) (hA : 0 < n → ∀ q, A = some q → q.block < g) (hm : n ≤ 9223372036854775807) (h : Rs g bs A n c L w) (hk : k ≤ 65535) (hno : (nx k L).1 = none) :
    Calls Try.prog 59 #[.int .i64 k, .pointer (some ⟨g + 3, 0, none⟩), .pointer (some ⟨g, 0, none⟩), .pointer (some ⟨g + 2, 0, none⟩)] w (IsNx g bs A n c k L w) := by
  obtain ⟨a, ha, hat, hsh⟩ := h.pos
  have e2 : (nx k L).2 = List.replicate k 0 := by
    rcases L with _ | r
    · rfl
    · by_cases hr : k ≤ r.length
      · rw [nx_ok hr] at hno; cases hno
      · rw [nx_no (by omega)]
  have H0 := Lib.hid h
  have HB := Lib.hid h.b
  have p2 := hat.cell 0
  have pb := h.b.cell 0
  have HE := Lib.hid e2
  have HNO := Lib.hid hno
  have HAT := Lib.hid hat
  have hR := Lib.hid h.rd
  have HX := Lib.hid h.nxt
  have hg4 := h.nxt.lt
  have HAA := Lib.hid (fun h => hA (by rw [hn]; exact h))
  simp at p2 pb
  have hfin : ∀ (b0 : Bool), Blk w (g + 3) 4 #[.bool b0] → Rs g bs A n c none (w.setCell ⟨g + 3, 0, none⟩ (.bool true)) ∧ Frm (SR g) w (w.setCell ⟨g + 3, 0, none⟩ (.bool true)) := fun b0 hb0 => by
    have hf : Frm (fun k => k = g + 3) w (w.setCell ⟨g + 3, 0, none⟩ (.bool true)) := Frm.setCell (S := fun k => k = g + 3) (p := ⟨g + 3, 0, none⟩) (Frm.refl _ _) (fun _ => rfl) _
    refine ⟨⟨HB.out.frm hf (by omega), ⟨a, ha, HAT.out.frm hf (by omega), .inr ⟨rfl, by simpa using hb0.set 0 (.bool true)⟩⟩, HX.out.frm hf (by omega), rd_far hR.out HAA.out hf (fun k hk => by omega)⟩, hf.mono fun k _ hk => .inr hk⟩
  rcases hsh with ⟨hL, hsh⟩ | ⟨hL, hsh⟩
  · have hlt : n - a < k := by
      rw [hL] at hno
      refine Nat.lt_of_not_le fun hle => ?_
      rw [nx_ok (by rw [List.length_drop]; omega)] at hno
      cases hno
    have p3 := hsh.cell 0
    have f3 := hsh.frozen 0
    simp at p3
    obtain ⟨hr1, hf1⟩ := hfin false hsh
    have HR1 := Lib.hid hr1
    have HF1 := Lib.hid hf1
    have g1 : decide ((n : Int) - (a : Int) < (k : Int)) = true := by simp; omega
    clear h hL e2 hno hat hsh hfin hr1 hf1 hA
    go_enter Try.func59, Try.ntmps59
    go_wp2_with (refine wpList_mk tBytes rfl rfl (.tmp 16) (.tmp 16) rfl (w.setCell ⟨g + 3, 0, none⟩ (.bool true)).heap.size .i64 .i64 k k k rfl rfl rfl rfl (by omega) (by unfold maxLen; omega) (Nat.le_refl _) ?_; intro w5 o5 hs5 hb5)
    go_ret
    rw [World.size_setCell] at o5
    refine ⟨⟨_, rfl, Nat.le_refl _, ?_⟩, ?_, ?_⟩
    · rw [HE.out, octs_zero]
      exact made_blk o5
    · rw [HNO.out]; exact HR1.out.below hb5
    · exact HF1.out.below hb5
  · have p3 := hsh.cell 0
    have f3 := hsh.frozen 0
    simp at p3
    obtain ⟨hr1, hf1⟩ := hfin true hsh
    have HR1 := Lib.hid hr1
    have HF1 := Lib.hid hf1
    clear h hL e2 hno hat hsh hfin hr1 hf1 hA
    go_enter Try.func59, Try.ntmps59
    go_wp2_with (refine wpList_mk tBytes rfl rfl (.tmp 16) (.tmp 16) rfl (w.setCell ⟨g + 3, 0, none⟩ (.bool true)).heap.size .i64 .i64 k k k rfl rfl rfl rfl (by omega) (by unfold maxLen; omega) (Nat.le_refl _) ?_; intro w5 o5 hs5 hb5)
    go_ret
    rw [World.size_setCell] at o5
    refine ⟨⟨_, rfl, Nat.le_refl _, ?_⟩, ?_, ?_⟩
    · rw [HE.out, octs_zero]
      exact made_blk o5
    · rw [HNO.out]; exact HR1.out.below hb5
    · exact HF1.out.below hb5
set_option maxRecDepth 100000 in
set_option maxHeartbeats 4000000 in
theorem next_ok (g : Nat) (bs : List Int) (A : Option Addr) (n c k : Nat) (r : List Int) (w : World) (hn : n = bs.length) (hnc : n ≤ c) (hA : 0 < n → ∀ q, A = some q → q.block < g) (hm : n ≤ 1000000000) (hcm : c ≤ 9223372036854775807) (h : Rs g bs A n c (some r) w) (hk : k ≤ r.length) (hk6 : k ≤ 65535) :
    Calls Try.prog 59 #[.int .i64 k, .pointer (some ⟨g + 3, 0, none⟩), .pointer (some ⟨g, 0, none⟩), .pointer (some ⟨g + 2, 0, none⟩)] w (IsNx g bs A n c k (some r) w) := by
  obtain ⟨a, ha, hat, hsh⟩ := h.pos
  obtain ⟨hL, hsh⟩ : r = bs.drop a ∧ Blk w (g + 3) 4 #[.bool false] := by
    rcases hsh with ⟨h1, h2⟩ | ⟨h1, h2⟩
    · exact ⟨Option.some.inj h1, h2⟩
    · cases h1
  have hrl : r.length = n - a := by rw [hL, List.length_drop, hn]
  have H0 := Lib.hid h
  have HB := Lib.hid h.b
  have p2 := hat.cell 0
  have pb := h.b.cell 0
  have HAT := Lib.hid hat
  have HSH := Lib.hid hsh
  have hR := Lib.hid h.rd
  have HX := Lib.hid h.nxt
  have hg4 := h.nxt.lt
  have HAA := Lib.hid (fun h => hA (by rw [hn]; exact h))
  have f2 := hat.frozen 0
  have p3 := hsh.cell 0
  simp at p2 pb p3
  have hx : nx k (some r) = (some (r.drop k), r.take k) := nx_ok hk
  have HXX := Lib.hid hx
  have g1 : decide ((n : Int) - (a : Int) < (k : Int)) = false := by simp; omega
  have HL := Lib.hid hL
  have HRL := Lib.hid hrl
  have HN := Lib.hid hn
  have hkn : a + k ≤ n := by omega
  clear h hL hat hsh hx hA hrl hk hn
  have hfin : ∀ (w6 : World) (v : Value), Below w.heap.size w w6 → v = .int .i64 ((a + k : Nat) : Int) → w6.heap[w.heap.size]? = some (.cells (splice (List.replicate k (.int .u8 0)) 0 (octs (r.take k))).toArray 5 (0, 0)) → IsNx g bs A n c k (some r) w (.returned (.slice (some ⟨w.heap.size, 0, none⟩) k k)) (w6.setCell ⟨g + 2, 0, none⟩ v) := fun w6 v hb hv hg => by
    subst hv
    have hsz := hb.size
    have hlen : (octs (r.take k)).length = k := by rw [octs_length, List.length_take, HRL.out]; omega
    have hsp : splice (List.replicate k (.int .u8 0)) 0 (octs (r.take k)) = octs (r.take k) := by
      unfold splice
      rw [hlen]; simp
    have hblk : Blk w6 w.heap.size 5 (octs (r.take k)).toArray := by rw [hsp] at hg; exact hg
    have hf : Frm (fun k => k = g + 2) w6 (w6.setCell ⟨g + 2, 0, none⟩ (.int .i64 ((a + k : Nat) : Int))) := Frm.setCell (S := fun k => k = g + 2) (p := ⟨g + 2, 0, none⟩) (Frm.refl _ _) (fun _ => rfl) _
    refine ⟨⟨_, rfl, Nat.le_refl _, ?_⟩, ?_, ?_⟩
    · rw [HXX.out]
      exact hblk.frm hf (by omega)
    · rw [HXX.out]
      refine ⟨(HB.out.below hb).frm hf (by omega), ⟨a + k, hkn, by simpa using (HAT.out.below hb).set 0 (.int .i64 ((a + k : Nat) : Int)), .inl ⟨?_, (HSH.out.below hb).frm hf (by omega)⟩⟩, (HX.out.below hb).frm hf (by omega), rd_far (hR.out.below hb rfl) HAA.out hf (fun k hk => by omega)⟩
      rw [HL.out, List.drop_drop]
    · exact ((Frm.of_below hb).trans hf (fun k _ hk => .inl hk))
  have HFIN := Lib.hid hfin
  have hcs : (octs (r.take k)).length = Nat.min (n - a) k := by rw [octs_length, List.length_take, HRL.out]; show min k (n - a) = min (n - a) k; omega
  have HCS := Lib.hid hcs
  have hsrc : c ≠ a → 0 < (octs (r.take k)).length → ∀ W, Below w.heap.size w W → ∃ ad, A.map (fun x => x.add a) = some ad ∧ ∀ j v, (octs (r.take k))[j]? = some v → W.cell? (ad.add j) = some v := fun hca h0 W hW => by
    have hrd := ((hR.out.below hW rfl).drop a).take k
    have e : ((octs bs).drop a).take k = octs (r.take k) := by rw [HL.out]; unfold octs; rw [List.map_take, List.map_drop]
    rw [e] at hrd
    obtain ⟨b, off, e2, _, hc⟩ := hrd h0
    exact ⟨⟨b, off, none⟩, e2, fun j v hv => by rw [addr_add]; exact hc j v hv⟩
  have HSRC := Lib.hid hsrc
  clear hfin hcs hsrc
  by_cases hca : c = a
  · obtain rfl : a = c := hca.symm
    go_enter Try.func59, Try.ntmps59
    go_wp2_with (first
      | (refine wpList_mk tBytes rfl rfl (.tmp 18) (.tmp 18) rfl w.heap.size .i64 .i64 k k k rfl rfl rfl rfl (by omega) (by unfold maxLen; omega) (Nat.le_refl _) ?_; intro w5 o5 hs5 hb5; have hc5 := (bcell hb5).1; have q2 := (hc5 (g + 2) 0 (by omega)).trans p2; have qb := (hc5 g 0 (by omega)).trans pb; have HB5 := Lib.hid hb5; have O5 := Lib.hid (made_blk o5); clear hb5 hc5 o5)
      | (refine wpList_copy_splice rfl (.tmp 20) (.tmp 23) 37 37 rfl 5 Try.underlying37 (by kernel_rfl) _ _ k k 0 _ rfl rfl w.heap.size 0 (List.replicate k (.int .u8 0)) 5 O5.out (octs (r.take k)) (by rw [HCS.out]; show min (n - a) k = min 0 k; omega) (fun h0 => absurd (by rw [HCS.out] at h0; exact h0) (by show ¬ 0 < min (n - a) k; omega)) (by rw [HCS.out, List.length_replicate]; show 0 + min (n - a) k ≤ k; omega) (octs_one _) w.heap.size w HB5.out (Nat.le_refl _) ?_; intro w6 hg6 hb6; have s2 := (hb6.cell (p := ⟨g + 2, 0, none⟩) (by show g + 2 < _; omega)).trans p2; have t2 := (hb6.frozen (p := ⟨g + 2, 0, none⟩) (by show g + 2 < _; omega)).trans f2; have HB6 := Lib.hid hb6; have G6 := Lib.hid hg6.out; clear hb6 hg6))
    go_ret
    exact HFIN.out _ _ HB6.out (by go_num) G6.out
  · go_enter Try.func59, Try.ntmps59
    go_wp2_with (first
      | (refine wpList_mk tBytes rfl rfl (.tmp 18) (.tmp 18) rfl w.heap.size .i64 .i64 k k k rfl rfl rfl rfl (by omega) (by unfold maxLen; omega) (Nat.le_refl _) ?_; intro w5 o5 hs5 hb5; have hc5 := (bcell hb5).1; have q2 := (hc5 (g + 2) 0 (by omega)).trans p2; have qb := (hc5 g 0 (by omega)).trans pb; have HB5 := Lib.hid hb5; have O5 := Lib.hid (made_blk o5); clear hb5 hc5 o5)
      | (refine wpList_copy_splice rfl (.tmp 20) (.tmp 23) 37 37 rfl 5 Try.underlying37 (by kernel_rfl) _ _ k k (n - a) _ rfl rfl w.heap.size 0 (List.replicate k (.int .u8 0)) 5 O5.out (octs (r.take k)) HCS.out (fun h0 => ⟨rfl, HSRC.out hca h0 _ HB5.out⟩) (by rw [HCS.out, List.length_replicate]; show 0 + min (n - a) k ≤ k; omega) (octs_one _) w.heap.size w HB5.out (Nat.le_refl _) ?_; intro w6 hg6 hb6; have s2 := (hb6.cell (p := ⟨g + 2, 0, none⟩) (by show g + 2 < _; omega)).trans p2; have t2 := (hb6.frozen (p := ⟨g + 2, 0, none⟩) (by show g + 2 < _; omega)).trans f2; have HB6 := Lib.hid hb6; have G6 := Lib.hid hg6.out; clear hb6 hg6))
    go_ret
    exact HFIN.out _ _ HB6.out (by go_num) G6.out
theorem next_any (g : Nat) (bs : List Int) (A : Option Addr) (n c k : Nat) (L : Left) (w : World) (hn : n = bs.length) (hnc : n ≤ c) (hA : 0 < n → ∀ q, A = some q → q.block < g) (hm : n ≤ 1000000000) (hcm : c ≤ 9223372036854775807) (h : Rs g bs A n c L w) (hk : k ≤ 65535) :
    Calls Try.prog 59 #[.int .i64 k, .pointer (some ⟨g + 3, 0, none⟩), .pointer (some ⟨g, 0, none⟩), .pointer (some ⟨g + 2, 0, none⟩)] w (IsNx g bs A n c k L w) := by
  rcases L with _ | r
  · exact next_short g bs A n c k none w hn hA (by omega) h hk rfl
  · by_cases hr : k ≤ r.length
    · exact next_ok g bs A n c k r w hn hnc hA hm hcm h hr hk
    · exact next_short g bs A n c k (some r) w hn hA (by omega) h hk (by rw [nx_no (by omega)])
end Go.Proofs.Ytaiekpdoljleeaa
