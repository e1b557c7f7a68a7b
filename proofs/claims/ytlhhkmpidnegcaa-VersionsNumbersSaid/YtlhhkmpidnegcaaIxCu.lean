/- The index: Cut. -/
import Derived.Test.YtlhhkmpidnegcaaIxAd
import Derived.Deep.WholeRow
namespace Go.Proofs.Ytlhhkmpidnegcaa
open Go.RowKit Go.WideShapes Go.Maps
set_option linter.unusedVariables false
set_option linter.unusedSimpArgs false
set_option maxRecDepth 100000
theorem cut_nil (k : Int) (w : World) : Calls Try.prog 36 #[.pointer none, .int .i64 k] w (Same (.int .i64 1) w) := by
  go_enter Try.func36, Try.ntmps36
  go_wp2_with fail
  refine (none_nil _).mono ?_
  rintro e w1 ⟨rfl, rfl⟩
  go_wp2_with fail
  go_ret
  exact ⟨rfl, rfl⟩
theorem cut_unmade (g : Nat) (u : Value) (k : Int) (w : World) (hb : Blk w g 108 #[u, .map none]) : Calls Try.prog 36 #[.pointer (some ⟨g, 0, none⟩), .int .i64 k] w (Same (.int .i64 1) w) := by
  have hno := none_unmade g u w hb
  have HNO := Lib.hid hno
  clear hno hb
  go_enter Try.func36, Try.ntmps36
  go_wp2_with fail
  refine (HNO.out).mono ?_
  rintro e w1 ⟨rfl, rfl⟩
  go_wp2_with fail
  go_ret
  exact ⟨rfl, rfl⟩
theorem cut_wrong {g mb : Nat} {A : Option Addr} {L c : Nat} (k : Int) (w : World) (hb : Blk w g 108 #[.slice A L c, .map (some mb)]) (hk : k < 0 ∨ (L : Int) < k) : Calls Try.prog 36 #[.pointer (some ⟨g, 0, none⟩), .int .i64 k] w (Same (.int .i64 2) w) := by
  have hno := none_made g mb _ w hb
  have c0 := hb.cell 0
  simp at c0
  have HNO := Lib.hid hno
  clear hno hb
  by_cases h1 : k < 0
  · go_enter Try.func36, Try.ntmps36
    go_wp2_with fail
    refine (HNO.out).mono ?_
    rintro e w1 ⟨rfl, rfl⟩
    go_wp2_with fail
    go_ret
    exact ⟨rfl, rfl⟩
  · have h2 : (L : Int) < k := by omega
    go_enter Try.func36, Try.ntmps36
    go_wp2_with fail
    refine (HNO.out).mono ?_
    rintro e w1 ⟨rfl, rfl⟩
    go_wp2_with fail
    go_ret
    exact ⟨rfl, rfl⟩
/-- What Cut leaves. -/
structure CutP (B g mb n : Nat) (l : List Pc) (v : Value) (w0 : World) (e : Ending) (w : World) : Prop where
  ret : e = .returned (.int .i64 0)
  ex : ∃ v', Idx B w g mb n l v' ∧ v'.ownBlock = v.ownBlock
  frm : Frm (fun k => k = g ∨ k = mb) w0 w
/-- Without the hashes of r. -/
def lessP (l r : List Pc) (h : List Int) : Option Nat := if h ∈ r.map Pc.h then none else findP l h
theorem lessP_step (l r : List Pc) (q : Pc) : (fun h => if h = q.h then none else lessP l r h) = lessP l (r ++ [q]) := by
  funext h
  unfold lessP
  by_cases e : h = q.h
  · simp [e]
  · by_cases e2 : h ∈ r.map Pc.h
    · simp [e, e2]
    · simp [e, e2]
theorem lessP_end (l : List Pc) (k : Nat) (nd : (l.map Pc.h).Nodup) : lessP l (l.drop k) = findP (l.take k) := by
  funext h
  unfold lessP findP
  have hs : l = l.take k ++ l.drop k := (List.take_append_drop k l).symm
  by_cases e : h ∈ (l.drop k).map Pc.h
  · rw [if_pos e]
    have : (l.take k).findIdx? (fun p => p.h == h) = none := by
      rw [List.findIdx?_eq_none_iff]
      intro p hp
      rw [hs, List.map_append, List.nodup_append] at nd
      simp
      intro e2
      exact nd.2.2 p.h (List.mem_map.2 ⟨p, hp, rfl⟩) h e e2
    rw [this]; rfl
  · rw [if_neg e]
    conv => lhs; rw [hs]
    rw [List.findIdx?_append]
    have : (l.drop k).findIdx? (fun p => p.h == h) = none := by
      rw [List.findIdx?_eq_none_iff]
      intro p hp
      simp
      intro e2
      exact e (List.mem_map.2 ⟨p, hp, e2⟩)
    rw [this]
    simp
theorem flatP_at (l : List Pc) (ok : ∀ p ∈ l, p.ok) (i : Nat) (q : Pc) (hq : l[i]? = some q) : ∀ j y, q.cells[j]? = some y → (flatP l)[23 * i + j]? = some y := by
  induction l generalizing i with
  | nil => simp at hq
  | cons p l ih =>
    intro j y hy
    have hp := Pc.cells_length (ok p (by simp))
    unfold flatP
    rw [List.flatMap_cons]
    cases i with
    | zero =>
      simp at hq
      subst hq
      rw [List.getElem?_append_left (by have := (List.getElem?_eq_some_iff.1 hy).1; omega)]
      simpa using hy
    | succ i =>
      rw [List.getElem?_append_right (by omega), hp, show 23 * (i + 1) + j - 23 = 23 * i + j by omega]
      exact ih (fun p hp => ok p (by simp [hp])) i (by simpa using hq) j y hy
theorem flatP_length (l : List Pc) (ok : ∀ p ∈ l, p.ok) : (flatP l).length = l.length * 23 := by
  induction l with
  | nil => rfl
  | cons p l ih =>
    unfold flatP
    rw [List.flatMap_cons, List.length_append, Pc.cells_length (ok p (by simp))]
    have := ih (fun p hp => ok p (by simp [hp]))
    unfold flatP at this
    rw [this, List.length_cons]
    omega
theorem flatP_take (l : List Pc) (ok : ∀ p ∈ l, p.ok) (k : Nat) (hk : k ≤ l.length) : (flatP l).take (k * 23) = flatP (l.take k) := by
  have e : flatP l = flatP (l.take k) ++ flatP (l.drop k) := by unfold flatP; rw [← List.flatMap_append, List.take_append_drop]
  rw [e, List.take_left']
  rw [flatP_length _ (fun p hp => ok p (List.mem_of_mem_take hp)), List.length_take]
  congr 1
  omega
theorem row_cut {B n k : Nat} {w : World} {g c : Nat} {l : List Pc} (ok : ∀ p ∈ l, p.ok) (h : RowP B w (.slice (some ⟨g, 0, none⟩) n c) n (flatP l)) (hn : n = l.length) (hk : k ≤ n) (hm : n ≤ maxLen) : RowP B w (.slice (some ⟨g, 0, none⟩) k k) k (flatP (l.take k)) := by
  have hx : (flatP (l.take k)).length = k * 23 := by rw [flatP_length _ (fun p hp => ok p (List.mem_of_mem_take hp)), List.length_take]; congr 1; omega
  have key : ∃ cur, B ≤ g ∧ Blk w g 52 cur ∧ cur.toList.take (n * 23) = flatP l := by
    rcases h with h | ⟨gl, cur, hv, hB, hm', hl, hb, ht⟩
    · rcases h.2 with ⟨h0, _⟩ | ⟨g', cap, cur, hv, h1, hg, h2, h3, h4, ht⟩
      · cases h0
      · injection hv with hv
        injection hv with hv
        injection hv with hv
        subst hv
        exact ⟨cur, h1, hg, ht⟩
    · injection hv with hv
      injection hv with hv
      injection hv with hv
      subst hv
      exact ⟨cur, hB, hb, ht⟩
  obtain ⟨cur, hB, hb, ht⟩ := key
  refine .inr ⟨g, cur, rfl, hB, by omega, hx, hb, ?_⟩
  have := congrArg (List.take (k * 23)) ht
  rw [List.take_take, flatP_take l ok k (by omega), Nat.min_eq_left (Nat.mul_le_mul_right 23 hk)] at this
  exact this
theorem cut_done {B g mb n k : Nat} {l : List Pc} {v v' : Value} {w0 wr : World} (hi : Idx B w0 g mb n l v) (nd : (l.map Pc.h).Nodup) (hk : k ≤ l.length) (hm : l.length ≤ maxLen) (hk2 : KMap wr mb n (lessP l (l.drop k))) (hf : Frm (fun b => b = mb) w0 wr)
    (hrow : RowP B wr v' k (flatP (l.take k))) (hov : v'.ownBlock = v.ownBlock) : CutP B g mb n (l.take k) v w0 (.returned (.int .i64 0)) (wr.setCell ⟨g, 0, none⟩ v') := by
  have hbk := hi.blk.frm hf (fun e => kmap_ne_blk hi.map hi.blk e.symm)
  have hset := hbk.set 0 v'
  simp only [List.setIfInBounds_toArray, List.set_cons_zero] at hset
  have f5 : Frm (fun b => b = g) wr (wr.setCell ⟨g, 0, none⟩ v') := (Frm.refl (fun b => b = g) wr).setCell (p := ⟨g, 0, none⟩) (fun _ => rfl) _
  rw [lessP_end l k nd] at hk2
  have hlen : (l.take k).length = k := by rw [List.length_take]; omega
  refine ⟨rfl, ⟨v', ⟨hi.ge, hi.gm, fun p hp => hi.oks p (List.mem_of_mem_take hp), hset, ?_, hk2.frm f5 (kmap_ne_blk hk2 hbk)⟩, hov⟩, ?_⟩
  · rw [hlen]
    exact hrow.frm f5 fun b hb e => hrow.apart hbk (by decide) b hb e
  · exact (hf.mono (T := fun b => b = g ∨ b = mb) (fun _ _ h => .inr h)).trans f5 (fun _ _ h => .inl h)
set_option maxHeartbeats 4000000 in

theorem cut_any {B g mb n : Nat} {l : List Pc} {v : Value} (k : Nat) (w : World) (hi : Idx B w g mb n l v) (nd : (l.map Pc.h).Nodup) (hk : k ≤ l.length) (hm : l.length ≤ 8192) :
    Calls Try.prog 36 #[.pointer (some ⟨g, 0, none⟩), .int .i64 (k : Int)] w (CutP B g mb n (l.take k) v w) := by
  have hID := hi
  obtain ⟨A, c, rfl, hc⟩ := hi.own.slice
  have hno := none_made g mb _ w hi.blk
  have hbk := hi.blk
  have c0 := hbk.cell 0
  have f0 := hbk.frozen 0
  simp at c0
  obtain ⟨L, hL⟩ : ∃ L, l.length = L := ⟨_, rfl⟩
  rw [hL] at hk hm hc c0 hbk
  have hkI : (k : Int) ≤ L := by omega
  have HNO := Lib.hid hno
  have HID := Lib.hid hID
  have HND := Lib.hid nd
  have HLL := Lib.hid hL
  have HBK := Lib.hid hbk
  clear hno hID nd hL hbk
  by_cases hkL : k = L
  · subst hkL
    have hrow := hi.own
    rw [HLL.out] at hrow
    have hkm2 : KMap w mb n (lessP l (l.drop k)) := by
      rw [List.drop_eq_nil_of_le (by rw [HLL.out]; omega)]
      have e : lessP l [] = findP l := by funext h; simp [lessP]
      rw [e]
      exact hi.map
    have hcd := fun (v' : Value) (hr : RowP B w v' k (flatP (l.take k))) (ho : v'.ownBlock = (Value.slice A l.length c).ownBlock) => cut_done (k := k) HID.out HND.out (by rw [HLL.out]; omega) (by rw [HLL.out]; unfold maxLen; omega) hkm2 (Frm.refl (fun b => b = mb) w) hr ho
    have e1 : decide ((k : Int) < 0) = false := by simp
    rcases A with _ | ⟨gl0, off0, sp0⟩
    · have hc0 : c = 0 ∧ k = 0 := by
        rcases hrow with h | ⟨gl, cur, hv, _⟩
        · rcases h.2 with ⟨h0, h1⟩ | ⟨g', cap, cur, hv, _⟩
          · injection h0 with _ _ h2; exact ⟨h2, h1⟩
          · injection hv with hv; cases hv
        · injection hv with hv; cases hv
      obtain ⟨rfl, rfl⟩ := hc0
      have HCD := Lib.hid (hcd (.slice none 0 0) (.inl (by
        have e : flatP (l.take 0) = [] := by simp [flatP]
        rw [e]
        exact ⟨rfl, .inl ⟨rfl, rfl⟩⟩)) rfl)
      clear hcd hrow hkm2
      clear hi
      go_enter Try.func36, Try.ntmps36
      go_wp2_with fail
      refine (HNO.out).mono ?_
      rintro e w1 ⟨rfl, rfl⟩
      go_wp2_with fail
      go_loopw [29] (fun i wr => i = .int .i64 0 ∧ wr = w) (fun i _ => 0)
      case atStart => exact ⟨rfl, rfl⟩
      case round =>
        obtain ⟨rfl, hw⟩ := hrel
        subst hw
        go_wp2_with fail
        go_ret
        exact HCD.out
    · have hA : off0 = 0 ∧ sp0 = none := by
        rcases hrow with h | ⟨gl, cur, hv, _⟩
        · rcases h.2 with ⟨h0, h1⟩ | ⟨g', cap, cur, hv, _⟩
          · injection h0 with h0; cases h0
          · injection hv with hv; injection hv with hv; injection hv with _ h2 h3; exact ⟨h2, h3⟩
        · injection hv with hv; injection hv with hv; injection hv with _ h2 h3; exact ⟨h2, h3⟩
      obtain ⟨rfl, rfl⟩ := hA
      have HCD := Lib.hid (hcd (.slice (some ⟨gl0, 0, none⟩) k k) (row_cut HID.out.oks hrow HLL.out.symm (Nat.le_refl _) (by unfold maxLen; omega)) rfl)
      clear hcd hrow hkm2
      by_cases hck : c = k
      · subst hck
        clear hi
        go_enter Try.func36, Try.ntmps36
        go_wp2_with fail
        refine (HNO.out).mono ?_
        rintro e w1 ⟨rfl, rfl⟩
        go_wp2_with fail
        go_loopw [29] (fun i wr => i = .int .i64 0 ∧ wr = w) (fun i _ => 0)
        case atStart => exact ⟨rfl, rfl⟩
        case round =>
          obtain ⟨rfl, hw⟩ := hrel
          subst hw
          go_wp2_with fail
          go_ret
          exact HCD.out
      · skip
        clear hi
        go_enter Try.func36, Try.ntmps36
        go_wp2_with fail
        refine (HNO.out).mono ?_
        rintro e w1 ⟨rfl, rfl⟩
        go_wp2_with fail
        go_loopw [29] (fun i wr => i = .int .i64 0 ∧ wr = w) (fun i _ => 0)
        case atStart => exact ⟨rfl, rfl⟩
        case round =>
          obtain ⟨rfl, hw⟩ := hrel
          subst hw
          go_wp2_with fail
          go_ret
          exact HCD.out
  · have hkl : k < L := by omega
    obtain ⟨gl, rfl⟩ : ∃ gl, A = some ⟨gl, 0, none⟩ := by
      rcases hi.own with h | ⟨gl, cur, hv, _⟩
      · rcases h.2 with ⟨h0, h1⟩ | ⟨g', cap, cur, hv, _⟩
        · rw [HLL.out] at h1; omega
        · injection hv with hv; exact ⟨g', hv⟩
      · injection hv with hv; exact ⟨gl, hv⟩
    have hck : ¬ c = k := by omega
    have e1 : decide ((k : Int) < 0) = false := by simp
    have e2 : decide (L < k) = false := by simp; omega
    clear hi
    go_enter Try.func36, Try.ntmps36
    go_wp2_with fail
    refine (HNO.out).mono ?_
    rintro e w1 ⟨rfl, rfl⟩
    go_wp2_with fail
    have HC0 := Lib.hid c0
    have HF0 := Lib.hid f0
    obtain ⟨R, hR⟩ : ∃ R, L - k = R := ⟨_, rfl⟩
    rw [hR]
    have HRR := Lib.hid hR
    have hRk : k + R = L := by omega
    clear hR
    clear c0 f0
    go_loopw [29] (fun i wr => ∃ j : Nat, j ≤ R ∧ i = .int .i64 (j : Int) ∧ KMap wr mb n (lessP l ((l.drop k).take j)) ∧ Frm (fun b => b = mb) w wr) (fun i _ => R - (intOf i).toNat)
    case atStart => exact ⟨0, by omega, rfl, by have := HID.out.map; have e : lessP l ((l.drop k).take 0) = findP l := by funext h; simp [lessP]
                                                rw [e]; exact this, Frm.refl _ _⟩
    case round =>
      obtain ⟨j, hj, rfl, hkm, hfr⟩ := hrel
      have hmbg : g ≠ mb := fun e => kmap_ne_blk HID.out.map HID.out.blk e.symm
      by_cases hjR : j < R
      · obtain ⟨q, hq⟩ : ∃ q, l[k + j]? = some q := ⟨_, List.getElem?_eq_getElem (by rw [HLL.out]; omega)⟩
        have hqo : q.ok := HID.out.oks q (List.mem_of_getElem? hq)
        have hrow := HID.out.own
        rw [HLL.out] at hrow
        have hglm : gl ≠ mb := fun e => rowp_map HID.out.map hrow (by rw [← e]; rfl)
        have hrg : wr.rangeAt gl (k * 23 + j * 23) q.cells := fun jj y hy => by
          have h1 := flatP_at l HID.out.oks (k + j) q hq jj y hy
          have h2 := hrow.cell _ _ h1
          have h3 := World.block_lt_of_cell? _ _ h2
          rw [show k * 23 + j * 23 + jj = 23 * (k + j) + jj by omega]
          exact (hfr.cell (p := ⟨gl, 23 * (k + j) + jj, none⟩) h3 hglm).trans h2
        have hbk2 := (HBK.out.frm hfr hmbg).alloc (.cells q.cells.toArray 52)
        have p1 := hbk2.cell 1
        simp at p1
        have hkm2 : KMap (wr.alloc (.cells q.cells.toArray 52)).drew mb n (lessP l ((l.drop k).take j)) := ⟨(hkm.below ((Below.refl wr.heap.size wr).alloc (Nat.le_refl _) _)).ex⟩
        obtain ⟨w6, hdel, hk6, hg6⟩ := hkm2.del q.h hqo.h 0
        have hrh : (wr.alloc (.cells q.cells.toArray 52)).drew.rangeAt wr.heap.size 0 (hashV q.h) := fun jj y hy => by
          have := (Blk.new wr 52 q.cells.toArray).cell jj
          rw [Nat.zero_add]
          refine this.trans ?_
          rw [List.getElem?_toArray]
          unfold Pc.cells
          rw [List.getElem?_append_left (List.getElem?_eq_some_iff.1 hy).1]
          exact hy
        have hstep := lessP_step l ((l.drop k).take j) q
        have htk : (l.drop k).take j ++ [q] = (l.drop k).take (j + 1) := by
          rw [List.take_add_one, List.getElem?_drop, hq]; rfl
        rw [hstep, htk] at hk6
        have f6 : Frm (fun b => b = mb) (wr.alloc (.cells q.cells.toArray 52)).drew w6 := Frm.of_grown hg6.grown fun b hb => by injection hb with hb; exact hb.symm
        have hmb6 : wr.heap.size ≠ mb := fun e => by have := hkm.lt; omega
        have hS6 : w6.cell? ⟨g, 1, none⟩ = some (.map (some mb)) ∧ w6.rangeAt wr.heap.size 0 (hashV q.h) := by
          refine ⟨(f6.cell (p := ⟨g, 1, none⟩) hbk2.lt hmbg).trans p1, fun jj y hy => ?_⟩
          have h1 := hrh jj y hy
          exact (f6.cell (p := ⟨wr.heap.size, 0 + jj, none⟩) (World.block_lt_of_cell? _ _ h1) hmb6).trans h1
        have hfr6 : Frm (fun b => b = mb) w w6 := (hfr.alloc (.cells q.cells.toArray 52)).drew.trans f6 (fun _ _ h => h)
        have hsh : (Try.prog.info? 50).map (·.size) = some (hashV q.h).length := by rw [hashV_length, hqo.h.len]; exact size37
        have hs39 : (Try.prog.info? 52).map (·.size) = some q.cells.length := by rw [Pc.cells_length hqo]; exact size39
        have hs39a : (Try.prog.info? 52).map (·.size) = some q.cells.toArray.size := by rw [List.size_toArray]; exact hs39
        have hzz : (23 : Nat) = q.cells.toArray.size := by rw [List.size_toArray]; exact (Pc.cells_length hqo).symm
        have hone : q.cells.toArray.all (·.oneCell') = true := by
          rw [Array.all_eq_true]
          intro i hi'
          exact Pc.cells_one q _ (show q.cells.toArray[i] ∈ q.cells by simp)
        have HRG := Lib.hid hrg
        have HRH := Lib.hid (show (wr.alloc (.cells q.cells.toArray 52)).drew.cell? ⟨g, 1, none⟩ = some (.map (some mb)) ∧ (wr.alloc (.cells q.cells.toArray 52)).drew.rangeAt wr.heap.size 0 (hashV q.h) from ⟨p1, hrh⟩)
        have HS6 := Lib.hid hS6
        have HSH := Lib.hid hsh
        have HS39 := Lib.hid hs39
        have HS39A := Lib.hid hs39a
        have HZZ := Lib.hid hzz
        have HONE := Lib.hid hone
        have HK6 := Lib.hid hk6
        have HFR6 := Lib.hid hfr6
        have hjI : (j : Int) < R := by omega
        clear hrg hrh hS6 hsh hs39 hs39a hzz hone hk6 hfr6 f6 hg6 hkm hkm2 hfr hbk2 hrow hstep htk hmb6 hqo
        go_wp2_with (first | (refine wpList_load_mid rfl 52 (.tmp 31) rfl gl (k * 23 + j * 23) rfl q.cells _ HRG.out Try.underlying52 rfl HS39.out ?_) | (refine wpList_store_row rfl 52 (.tmp 6) (.tmp 32) rfl wr.heap.size q.cells.toArray rfl rfl 52 _ (heap_alloc_new _ _) HS39A.out HZZ.out HONE.out ?_; rw [World.setRow_alloc_new]))
        generalize hashV q.h = hs at HRH HS6 HSH hdel
        generalize wr.alloc (.cells q.cells.toArray 52) = W at p1 HRH hdel ⊢
        refine wp_region_held_drew (S := fun w' => w'.cell? ⟨g, 1, none⟩ = some (.map (some mb)) ∧ w'.rangeAt wr.heap.size 0 hs) (by kernel_rfl) HRH.out (fun hHeld => ?_)
        refine wpAnyH_takeD (i := 0) (d := 33) (oi := _) (v := ?_) rfl rfl (by kernel_rfl) (by kernel_rfl) (by kernel_rfl) (fun _ _ _ h => h) (Or.inl ⟨by rfl, ?_⟩) (by assumption) ?_
        rotate_left
        · (intro w hSw; (try dsimp only at hSw); go_simp) <;> with_reducible rfl
        simp only [Act.put, List.setIfInBounds_toArray, List.set_cons_zero, List.set_cons_succ]
        refine wpAnyH_takeD (i := 1) (d := 34) (oi := _) (v := ?_) rfl rfl (by kernel_rfl) (by kernel_rfl) (by kernel_rfl) (fun _ _ _ h => h) (Or.inl ⟨by rfl, ?_⟩) (by assumption) ?_
        rotate_left
        · (intro w hSw; (try dsimp only at hSw); go_simp) <;> with_reducible rfl
        simp only [Act.put, List.setIfInBounds_toArray, List.set_cons_zero, List.set_cons_succ]
        refine wpAnyH_takeD (i := 2) (d := 35) (oi := _) (v := ?_) rfl rfl (by kernel_rfl) (by kernel_rfl) (by kernel_rfl) (fun _ _ _ h => h) (Or.inl ⟨by rfl, ?_⟩) (by assumption) ?_
        rotate_left
        · (intro w hSw; (try dsimp only at hSw); go_simp) <;> with_reducible rfl
        simp only [Act.put, List.setIfInBounds_toArray, List.set_cons_zero, List.set_cons_succ]
        refine wpAnyH_takeD (i := 3) (d := 36) (oi := _) (v := ?_) rfl rfl (by kernel_rfl) (by kernel_rfl) (by kernel_rfl) (fun _ _ _ h => h) (Or.inl ⟨by rfl, ?_⟩) (by assumption) ?_
        rotate_left
        · (intro w hSw; (try dsimp only at hSw); go_simp) <;> with_reducible rfl
        simp only [Act.put, List.setIfInBounds_toArray, List.set_cons_zero, List.set_cons_succ]
        refine wpAnyH_takeD (i := 4) (d := 37) (oi := _) (v := ?_) rfl rfl (by kernel_rfl) (by kernel_rfl) (by kernel_rfl) (fun _ _ _ h => h) (Or.inl ⟨by rfl, ?_⟩) (by assumption) ?_
        rotate_left
        · (intro w hSw; (try dsimp only at hSw); go_simp) <;> with_reducible rfl
        simp only [Act.put, List.setIfInBounds_toArray, List.set_cons_zero, List.set_cons_succ]
        refine wpAnyH_takeD (i := 5) (d := 38) (oi := _) (v := .agg (hs).toArray) rfl rfl (by kernel_rfl) (by kernel_rfl) (by kernel_rfl) (fun _ _ _ h => h) (yieldsIf_load_mid (by rfl) 50 (.tmp 37) rfl wr.heap.size 0 rfl (hs) _ (fun w hw => hw.2) Try.underlying50 rfl HSH.out) (by assumption) ?_
        simp only [Act.put, List.setIfInBounds_toArray, List.set_cons_zero, List.set_cons_succ]
        refine wpAnyH_ready (rs := [6]) (by kernel_rfl) (by simp) ?_
        refine AllReadyH.cons (o := _) rfl (fun K hK => ?_) AllReadyH.nil
        go_simp
        refine hK.out _ _ HS6.out (fun hHeld => ?_)
        clear hK K
        try simp only [Act.put, List.setIfInBounds_toArray, List.set_cons_zero, List.set_cons_succ]
        refine wpAnyH_done (by kernel_rfl) ?_ _
        go_wp2_with fail
        go_roundw
        case rel => exact ⟨j + 1, by omega, by go_num, HK6.out, HFR6.out⟩
        case measure => simp [intOf]; omega
      · obtain rfl : j = R := by omega
        have hkm2 : KMap wr mb n (lessP l (l.drop k)) := by
          rw [List.take_of_length_le (by rw [List.length_drop, HLL.out]; omega)] at hkm
          exact hkm
        have c0 := ((HBK.out.frm hfr hmbg).cell 0)
        have f0 := ((HBK.out.frm hfr hmbg).frozen 0)
        simp at c0
        have hrow := HID.out.own
        rw [HLL.out] at hrow
        have hrow2 := hrow.frm hfr (fun b hb e => rowp_map HID.out.map hrow (by rw [hb, e]))
        have hcut := row_cut HID.out.oks hrow2 HLL.out.symm (by omega) (by unfold maxLen; omega)
        have HCD := Lib.hid (cut_done (k := k) HID.out HND.out (by rw [HLL.out]; omega) (by rw [HLL.out]; unfold maxLen; omega) hkm2 hfr hcut rfl)
        clear hkm hkm2 hfr hrow hrow2 hcut
        go_wp2_with fail
        go_ret
        exact HCD.out
end Go.Proofs.Ytlhhkmpidnegcaa
