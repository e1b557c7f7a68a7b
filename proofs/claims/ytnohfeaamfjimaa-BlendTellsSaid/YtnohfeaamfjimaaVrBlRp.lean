/- slices.Repeat of one element: walk. · blend: what begins: plain. · blend: what begins without tables: walks. · blend: what begins with rows of one number: walks. -/
import Derived.Test.YtnohfeaamfjimaaVrBlLn
import Derived.StillTailTactics
import Derived.IntWalk
import Derived.Laws.IdiomCopy
import Derived.Lib.SlBuf
namespace Go.Proofs.Ytnohfeaamfjimaa
open Go.RowKit Go.WideShapes
set_option linter.unusedVariables false
set_option linter.unusedSimpArgs false
theorem tSlows : SlS Try.prog 86 89 (.agg #[.int .i64 0, .int .i64 0]) 2 16 := ⟨Try.underlying86, by kernel_rfl, by kernel_rfl, by omega⟩
def rep (k : Nat) (xs : List Value) : List Value := (List.replicate k xs).flatten
theorem rep_len (k : Nat) (xs : List Value) : (rep k xs).length = k * xs.length := by simp [rep]
theorem rep_add (k m : Nat) (xs : List Value) : rep (k + m) xs = rep k xs ++ rep m xs := by
  unfold rep
  rw [← List.replicate_append_replicate, List.flatten_append]
theorem rep_one (xs : List Value) : rep 1 xs = xs := by simp [rep]
theorem run_copyN {P : Program} (w : World) (dT sT ty elem : TypeId) (s : Nat) (b o dLen dCap : Nat) (a : Addr) (sLen sCap : Nat) (cs : List Value)
    (hu : P.underlying dT = some (.slice elem)) (hs : (P.info? elem).map (·.size) = some s) (hn : cs.length = Nat.min sLen dLen * s)
    (hsrc : ∀ j v, cs[j]? = some v → w.cell? (a.add j) = some v) (hc : ∀ j, j < cs.length → (w.cell? ⟨b, o + j, none⟩).isSome = true) (hf : ∀ j, j < cs.length → w.frozen? ⟨b, o + j, none⟩ = false) (h1 : ∀ v ∈ cs, v.oneCell' = true) :
    (Builtin.copy_ #[dT, sT] ty #[.slice (some ⟨b, o, none⟩) dLen dCap, .slice (some a) sLen sCap]).run P w = .ok (goInt (Nat.min sLen dLen)) (w.setCells b o cs) := by
  have hl := run_loadCells_list (P := P) w a cs hsrc
  have hst := run_storeCells_cells (P := P) b o cs 0 w (by simpa using hc) (by simpa using hf) h1
  cases hq : P.info? elem with
  | none => simp [hq] at hs
  | some i =>
    have hi : i.size = s := by simpa [hq] using hs
    simp [Builtin.copy_, run_underlying hu, Builtin.lenOf, Builtin.firstCells, sizeOf, typeInfo, hq, hi, ← hn, hl, hst]
theorem setCells_blk {g : Nat} {t : TypeId} : ∀ (vs : List Value) (w : World) (a b : List Value), Blk w g t (a ++ b).toArray → vs.length ≤ b.length → Blk (w.setCells g a.length vs) g t (a ++ vs ++ b.drop vs.length).toArray
  | [], w, a, b, h, _ => by simpa [World.setCells] using h
  | v :: r, w, a, [], h, hl => by simp at hl
  | v :: r, w, a, x :: b, h, hl => by
    have h1 := h.set a.length v
    rw [List.setIfInBounds_toArray, List.set_append_right _ _ (Nat.le_refl _), Nat.sub_self, List.set_cons_zero] at h1
    have h2 := setCells_blk r (w.setCell ⟨g, a.length, none⟩ v) (a ++ [v]) b (by simpa using h1) (by simpa using hl)
    simpa [World.setCells] using h2
theorem setCells_below {B g : Nat} {a : World} (hg : B ≤ g) : ∀ (vs : List Value) (o : Nat) (w : World), Below B a w → Below B a (w.setCells g o vs)
  | [], _, _, h => h
  | v :: r, o, w, h => setCells_below hg r (o + 1) _ (h.setCell (p := ⟨g, o, none⟩) hg v)
theorem made_same (z : Array Value) (v : Value) (m : Nat) (hz : ∀ i, i < z.size → z[i]! = v) (h0 : 0 < z.size) : madeCells z m = (List.replicate m v).toArray := by
  apply Array.ext
  · simp [madeCells]
  · intro i h1 h2
    simp [madeCells, hz _ (Nat.mod_lt i h0)]
theorem run_makeS {t e : TypeId} {z : Value} {size bytes : Nat} (T : SlS Try.prog t e z size bytes) (v : Value) (hz : ∀ i, i < z.cells.size → z.cells[i]! = v) (w : World) (n : Nat) (hb : bytes * n ≤ 281474976710656) (hn : n ≤ 9223372036854775807) :
    (Instr.makeSlice t (.int .i64 (n : Int)) (.int .i64 (n : Int))).run Try.prog w = .ok (.slice (some ⟨w.heap.size, 0, none⟩) n n) (w.alloc (.cells (List.replicate (n * size) v).toArray e)) := by
  obtain ⟨ht, hi, hone, hp⟩ := T
  cases hq : Try.prog.info? e with
  | none => simp [hq] at hi
  | some i =>
    simp [hq] at hi
    obtain ⟨i1, i2, i3⟩ := hi
    have hb' : (i.bytes : Int) * (n : Int) ≤ 281474976710656 := by
      rw [i3]
      have h : ((bytes * n : Nat) : Int) ≤ 281474976710656 := by omega
      rwa [Int.natCast_mul] at h
    have hr := run_make (P := Try.prog) w t e i z ht hq i1 .i64 .i64 n n (by omega) (Int.le_refl _) hb' (by omega)
    simp only [Int.toNat_natCast, i2] at hr
    rw [made_same z.cells v _ hz (by omega)] at hr
    exact hr
theorem rep_take {k m : Nat} (h : m ≤ k) (xs : List Value) (j : Nat) (v : Value) (hv : (rep m xs)[j]? = some v) (r : List Value) : (rep k xs ++ r)[j]? = some v := by
  obtain ⟨d, rfl⟩ := Nat.exists_eq_add_of_le h
  have hj := (List.getElem?_eq_some_iff.1 hv).1
  rw [rep_add, List.append_assoc, List.getElem?_append_left hj]
  exact hv
theorem rep_mem {k : Nat} {xs : List Value} {v : Value} (h : v ∈ rep k xs) : v ∈ xs := by
  unfold rep at h
  obtain ⟨l, hl, hv⟩ := List.mem_flatten.1 h
  rwa [(List.mem_replicate.1 hl).2] at hv
theorem step_copyN {P : Program} {ops : Array Oper} {o : Oper} {a : Act} {w : World} {K : Act → World → Prop} {Q : Exit → Act → World → Prop} {E : Prop} (hgd : Region.wanted o (yielded ops a.tmps) = true) (d s : Operand) (t t' : TypeId)
    (ho : o.op = .call { callee := .builtin .copy, args := #[d, s], argTypes := #[t, t'] }) (v u : Value) (hd : a.eval d = v) (hs : a.eval s = u) {v' : Value} {w' : World}
    (hr : (Builtin.copy_ #[t, t'] o.type #[v, u]).run P w = .ok v' w') (h : K (a.put o.dst v') w') :
    if Region.wanted o (yielded ops a.tmps) = true then Oper.wp P o a w K Q else E := by
  rw [if_pos hgd]
  exact Lib.wp_copy_run w d s t t' ho v u hd hs hr h
structure RpB (w0 w : World) (g : Nat) (t : TypeId) (s n k : Nat) (xs : List Value) : Prop where
  blk : Blk w g t (rep k xs ++ List.replicate ((n - k) * s) (Value.int .i64 0)).toArray
  b : Below w0.heap.size w0 w
  g : w0.heap.size ≤ g
  k : k ≤ n
  s : xs.length = s
  one : ∀ v ∈ xs, v.oneCell' = true
theorem RpB.more {w0 w : World} {g : Nat} {t : TypeId} {s n k m : Nat} {xs : List Value} (h : RpB w0 w g t s n k xs) (hm : k + m ≤ n) : RpB w0 (w.setCells g (k * s) (rep m xs)) g t s n (k + m) xs := by
  have hl : (rep k xs).length = k * s := by rw [rep_len, h.s]
  have hm2 : (rep m xs).length = m * s := by rw [rep_len, h.s]
  have := setCells_blk (rep m xs) w (rep k xs) _ h.blk (by rw [hm2, List.length_replicate]; exact Nat.mul_le_mul_right s (by omega))
  rw [hl, hm2, List.drop_replicate, ← rep_add, ← Nat.sub_mul, Nat.sub_sub] at this
  exact ⟨this, setCells_below h.g _ _ _ h.b, h.g, hm, h.s, h.one⟩
theorem RpB.drew {w0 w : World} {g : Nat} {t : TypeId} {s n k : Nat} {xs : List Value} (h : RpB w0 w g t s n k xs) : RpB w0 w.drew g t s n k xs := ⟨h.blk.drew, below_drewN h.b 1, h.g, h.k, h.s, h.one⟩
theorem RpB.run {w0 w : World} {g : Nat} {t T : TypeId} {z : Value} {s n k bytes : Nat} {xs : List Value} (h : RpB w0 w g t s n k xs) (hT : SlS Try.prog T t z s bytes) (ty : TypeId) (o q dCap m sLen sCap : Nat) (a : Addr) (hq : k + q = n) (hm : Nat.min sLen q = m) (ho : o = k * s) (ha : ∀ j v, (rep m xs)[j]? = some v → w.cell? (a.add j) = some v) :
    (Builtin.copy_ #[T, T] ty #[.slice (some ⟨g, o, none⟩) q dCap, .slice (some a) sLen sCap]).run Try.prog w = .ok (goInt m) (w.setCells g (k * s) (rep m xs)) := by
  subst ho
  have hs : (Try.prog.info? t).map (·.size) = some s := by
    have := hT.i
    cases hi : Try.prog.info? t with
    | none => rw [hi] at this; cases this
    | some i => rw [hi] at this; simp at this ⊢; exact this.2.1
  have hm2 : (rep m xs).length = m * s := by rw [rep_len, h.s]
  have hmq : m ≤ q := by rw [← hm]; exact Nat.min_le_right _ _
  have hle : m * s ≤ (n - k) * s := Nat.mul_le_mul_right s (by omega)
  have hsz : (rep k xs ++ List.replicate ((n - k) * s) (Value.int .i64 0)).length = k * s + (n - k) * s := by rw [List.length_append, rep_len, h.s, List.length_replicate]
  have := run_copyN (P := Try.prog) w T T ty t s g (k * s) q dCap a sLen sCap (rep m xs) hT.u hs (by rw [hm2, hm]) ha (fun j hj => by
      rw [h.blk.cell, List.getElem?_toArray, List.getElem?_eq_getElem (by omega)]
      rfl) (fun j _ => h.blk.frozen _) (fun v hv => h.one v (rep_mem hv))
  rw [hm] at this
  exact this
set_option maxRecDepth 100000 in
set_option maxHeartbeats 1000000 in
theorem repeatI (x : Int) (g : Nat) (n : Nat) (w : World) (hn : 1 ≤ n) (hb : n ≤ 16777216) (hx : Blk w g 3 #[.int .i64 x]) : Calls Try.prog 45 #[.slice (some ⟨g, 0, none⟩) 1 1, .int .i64 (n : Int)] w fun e w' => e = .returned (sl w.heap.size n) ∧ Below w.heap.size w w' ∧ Blk w' w.heap.size 3 (rep n [Value.int .i64 x]).toArray := by
  have c64 := mul64 n (by omega) w
  have hmk := run_makeS tInts (.int .i64 0) (by intro i hi; simp [Value.cells] at hi; subst hi; rfl) w n (by omega) (by omega)
  have hr0 : RpB w (w.alloc (.cells (List.replicate (n * 1) (.int .i64 0)).toArray 3)) w.heap.size 3 1 n 0 [Value.int .i64 x] := ⟨by simpa [rep] using Blk.new w 3 (List.replicate (n * 1) (.int .i64 0)).toArray, Below.alloc (Below.refl _ _) (Nat.le_refl _) _, Nat.le_refl _, Nat.zero_le _, rfl, by simp [Value.oneCell']⟩
  obtain ⟨w1, hw1⟩ : ∃ w1, w.alloc (.cells (List.replicate (n * 1) (.int .i64 0)).toArray 3) = w1 := ⟨_, rfl⟩
  have hx1 := hx.below (show Below w.heap.size w w1 from by rw [← hw1]; exact Below.alloc (Below.refl _ _) (Nat.le_refl _) _)
  rw [hw1] at hmk hr0
  have hcp := fun ty => hr0.run tInts ty 0 n n 1 1 1 ⟨g, 0, none⟩ (by omega) (Nat.min_eq_left hn) (by omega) (fun j v hv => by rw [rep_one] at hv; rw [addr_add, Nat.zero_add, hx1.cell, List.getElem?_toArray]; exact hv)
  have hr1 := hr0.more (m := 1) (by omega)
  obtain ⟨w2, hw2⟩ : ∃ w2, w1.setCells w.heap.size (0 * 1) (rep 1 [Value.int .i64 x]) = w2 := ⟨_, rfl⟩
  rw [hw2] at hcp hr1
  have HR1 := Lib.hid hr1
  clear hr0 hr1 hw2 hw1 hx1 hx
  go_enter Try.func45, Try.ntmps45
  go_upto_region 6 with (go_at_call 64; refine c64.mono ?_; rintro e w' ⟨rfl, hw⟩; rw [hw])
  go_upto_region 7 with fail
  go_wp2_with (at_builtin; refine Lib.wpList_copy_run _ rfl _ _ 48 48 rfl _ _ rfl rfl (hcp _) ?_)
  go_loopw [8] (fun v wr => ∃ k : Nat, v = .int .i64 k ∧ 1 ≤ k ∧ RpB w wr w.heap.size 3 1 n k [Value.int .i64 x]) (fun v _ => n - (intOf v).toNat)
  case atStart => exact ⟨1, rfl, Nat.le_refl _, HR1.out⟩
  case round =>
    obtain ⟨k, rfl, hk, hrk⟩ := hrel
    have hkn := hrk.k
    have HRK := Lib.hid hrk
    clear hrk
    by_cases hlt : k < n
    · have hrd := (HRK.out).drew
      have hmin : min k (n - k) = Nat.min k (n - k) := rfl
      have hcp := fun ty o ho => hrd.run tInts ty o (n - k) (n - k) (min k (n - k)) k n ⟨w.heap.size, 0, none⟩ (by omega) rfl ho (fun j v hv => by rw [addr_add, Nat.zero_add, hrd.blk.cell, List.getElem?_toArray]; exact rep_take (Nat.min_le_left _ _) _ j v hv _)
      have hr2 := hrd.more (m := min k (n - k)) (by omega)
      have hm1 : 1 ≤ min k (n - k) := by omega
      have hm2 : k + min k (n - k) ≤ n := by omega
      obtain ⟨m, hm⟩ : ∃ m, min k (n - k) = m := ⟨_, rfl⟩
      rw [hm] at hcp hr2 hm1 hm2
      obtain ⟨w3, hw3⟩ : ∃ w3, wr.drew.setCells w.heap.size (k * 1) (rep m [Value.int .i64 x]) = w3 := ⟨_, rfl⟩
      rw [hw3] at hcp hr2
      have HR2 := Lib.hid hr2
      have HM := Lib.hid hm
      have HCP := Lib.hid hcp
      clear hr2 hm hw3 hcp hrd hmin
      have hsum : IntKind.i64.wrap ((k : Int) + (m : Int)) = (k : Int) + (m : Int) := IntWalk.i64_in _ ⟨by omega, by omega⟩
      have HSUM := Lib.hid hsum
      clear hsum
      go_wp2_with fail
      refine wp_region_held_drew (S := (fun _ => True)) (by kernel_rfl) trivial (fun hHeld => ?_)
      refine tkz (i := 0) (d := 38) rfl rfl ?_
      simp only [Act.put, zzA, zzB, zzC]
      refine tkz (i := 1) (d := 39) rfl rfl ?_
      simp only [Act.put, zzA, zzB, zzC]
      refine tkz (i := 2) (d := 40) rfl rfl ?_
      simp only [Act.put, zzA, zzB, zzC]
      refine tkz (i := 3) (d := 41) rfl rfl ?_
      simp only [Act.put, zzA, zzB, zzC]
      refine tkz (i := 4) (d := 42) rfl rfl ?_
      simp only [Act.put, zzA, zzB, zzC]
      refine tkz (i := 5) (d := 43) rfl rfl ?_
      simp only [Act.put, zzA, zzB, zzC]
      refine tkz (i := 6) (d := 44) rfl rfl ?_
      simp only [Act.put, zzA, zzB, zzC]
      refine rdz (i := 7) rfl (fun K hK => ?_)
      refine step_copyN rfl (.tmp 41) (.tmp 44) 48 48 rfl (.slice (some ⟨w.heap.size, k, none⟩) (n - k) (n - k)) (.slice (some ⟨w.heap.size, 0, none⟩) k n) ?_ rfl (HCP.out _ _ (by omega)) ?_
      · exact congrArg (fun q => Value.slice q (n - k) (n - k)) (if_neg (by omega))
      refine hK.out _ _ trivial (fun hHeld => ?_)
      clear hK K
      try simp only [Act.put, zzA, zzB, zzC]
      refine tkz (i := 8) (d := 46) rfl rfl ?_
      simp only [Act.put, zzA, zzB, zzC]
      refine tkz (i := 9) (d := 8) rfl rfl ?_
      simp only [Act.put, zzA, zzB, zzC]
      refine wpAnyH_done (by kernel_rfl) ?_ _
      go_wp2
      go_roundw
      case rel => exact ⟨k + m, by rw [HSUM.out]; push_cast; rfl, by omega, HR2.out⟩
      case measure => simp [intOf]; rw [HSUM.out]; omega
    · have hkk : k = n := by omega
      have HKK := Lib.hid hkk
      clear hkk
      go_wp2
      go_ret
      have hfin := HRK.out
      rw [HKK.out] at hfin
      exact ⟨rfl, hfin.b, by simpa using hfin.blk⟩
set_option maxRecDepth 100000 in
set_option maxHeartbeats 1000000 in
theorem repeatS (x y : Int) (g : Nat) (n : Nat) (w : World) (hn : 1 ≤ n) (hb : n ≤ 16777216) (hx : Blk w g 89 #[.int .i64 x, .int .i64 y]) : Calls Try.prog 43 #[.slice (some ⟨g, 0, none⟩) 1 1, .int .i64 (n : Int)] w fun e w' => e = .returned (sl w.heap.size n) ∧ Below w.heap.size w w' ∧ Blk w' w.heap.size 89 (rep n [Value.int .i64 x, Value.int .i64 y]).toArray := by
  have c64 := mul64 n (by omega) w
  have hmk := run_makeS tSlows (.int .i64 0) (by intro i hi; simp [Value.cells] at hi; (rcases i with _ | _ | i) <;> first | rfl | omega) w n (by omega) (by omega)
  have hr0 : RpB w (w.alloc (.cells (List.replicate (n * 2) (.int .i64 0)).toArray 89)) w.heap.size 89 2 n 0 [Value.int .i64 x, Value.int .i64 y] := ⟨by simpa [rep] using Blk.new w 89 (List.replicate (n * 2) (.int .i64 0)).toArray, Below.alloc (Below.refl _ _) (Nat.le_refl _) _, Nat.le_refl _, Nat.zero_le _, rfl, by simp [Value.oneCell']⟩
  obtain ⟨w1, hw1⟩ : ∃ w1, w.alloc (.cells (List.replicate (n * 2) (.int .i64 0)).toArray 89) = w1 := ⟨_, rfl⟩
  have hx1 := hx.below (show Below w.heap.size w w1 from by rw [← hw1]; exact Below.alloc (Below.refl _ _) (Nat.le_refl _) _)
  rw [hw1] at hmk hr0
  have hcp := fun ty => hr0.run tSlows ty 0 n n 1 1 1 ⟨g, 0, none⟩ (by omega) (Nat.min_eq_left hn) (by omega) (fun j v hv => by rw [rep_one] at hv; rw [addr_add, Nat.zero_add, hx1.cell, List.getElem?_toArray]; exact hv)
  have hr1 := hr0.more (m := 1) (by omega)
  obtain ⟨w2, hw2⟩ : ∃ w2, w1.setCells w.heap.size (0 * 2) (rep 1 [Value.int .i64 x, Value.int .i64 y]) = w2 := ⟨_, rfl⟩
  rw [hw2] at hcp hr1
  have HR1 := Lib.hid hr1
  clear hr0 hr1 hw2 hw1 hx1 hx
  go_enter Try.func43, Try.ntmps43
  go_upto_region 6 with (go_at_call 64; refine c64.mono ?_; rintro e w' ⟨rfl, hw⟩; rw [hw])
  go_upto_region 7 with fail
  go_wp2_with (at_builtin; refine Lib.wpList_copy_run _ rfl _ _ 86 86 rfl _ _ rfl rfl (hcp _) ?_)
  go_loopw [8] (fun v wr => ∃ k : Nat, v = .int .i64 k ∧ 1 ≤ k ∧ RpB w wr w.heap.size 89 2 n k [Value.int .i64 x, Value.int .i64 y]) (fun v _ => n - (intOf v).toNat)
  case atStart => exact ⟨1, rfl, Nat.le_refl _, HR1.out⟩
  case round =>
    obtain ⟨k, rfl, hk, hrk⟩ := hrel
    have hkn := hrk.k
    have HRK := Lib.hid hrk
    clear hrk
    by_cases hlt : k < n
    · have hrd := (HRK.out).drew
      have hmin : min k (n - k) = Nat.min k (n - k) := rfl
      have hcp := fun ty o ho => hrd.run tSlows ty o (n - k) (n - k) (min k (n - k)) k n ⟨w.heap.size, 0, none⟩ (by omega) rfl ho (fun j v hv => by rw [addr_add, Nat.zero_add, hrd.blk.cell, List.getElem?_toArray]; exact rep_take (Nat.min_le_left _ _) _ j v hv _)
      have hr2 := hrd.more (m := min k (n - k)) (by omega)
      have hm1 : 1 ≤ min k (n - k) := by omega
      have hm2 : k + min k (n - k) ≤ n := by omega
      obtain ⟨m, hm⟩ : ∃ m, min k (n - k) = m := ⟨_, rfl⟩
      rw [hm] at hcp hr2 hm1 hm2
      obtain ⟨w3, hw3⟩ : ∃ w3, wr.drew.setCells w.heap.size (k * 2) (rep m [Value.int .i64 x, Value.int .i64 y]) = w3 := ⟨_, rfl⟩
      rw [hw3] at hcp hr2
      have HR2 := Lib.hid hr2
      have HM := Lib.hid hm
      have HCP := Lib.hid hcp
      clear hr2 hm hw3 hcp hrd hmin
      have hsum : IntKind.i64.wrap ((k : Int) + (m : Int)) = (k : Int) + (m : Int) := IntWalk.i64_in _ ⟨by omega, by omega⟩
      have HSUM := Lib.hid hsum
      clear hsum
      go_wp2_with fail
      refine wp_region_held_drew (S := (fun _ => True)) (by kernel_rfl) trivial (fun hHeld => ?_)
      refine tkz (i := 0) (d := 38) rfl rfl ?_
      simp only [Act.put, zzA, zzB, zzC]
      refine tkz (i := 1) (d := 39) rfl rfl ?_
      simp only [Act.put, zzA, zzB, zzC]
      refine tkz (i := 2) (d := 40) rfl rfl ?_
      simp only [Act.put, zzA, zzB, zzC]
      refine tkz (i := 3) (d := 41) rfl rfl ?_
      simp only [Act.put, zzA, zzB, zzC]
      refine tkz (i := 4) (d := 42) rfl rfl ?_
      simp only [Act.put, zzA, zzB, zzC]
      refine tkz (i := 5) (d := 43) rfl rfl ?_
      simp only [Act.put, zzA, zzB, zzC]
      refine tkz (i := 6) (d := 44) rfl rfl ?_
      simp only [Act.put, zzA, zzB, zzC]
      refine rdz (i := 7) rfl (fun K hK => ?_)
      refine step_copyN rfl (.tmp 41) (.tmp 44) 86 86 rfl (.slice (some ⟨w.heap.size, k * 2, none⟩) (n - k) (n - k)) (.slice (some ⟨w.heap.size, 0, none⟩) k n) ?_ rfl (HCP.out _ _ (by omega)) ?_
      · exact congrArg (fun q => Value.slice q (n - k) (n - k)) (if_neg (by omega))
      refine hK.out _ _ trivial (fun hHeld => ?_)
      clear hK K
      try simp only [Act.put, zzA, zzB, zzC]
      refine tkz (i := 8) (d := 46) rfl rfl ?_
      simp only [Act.put, zzA, zzB, zzC]
      refine tkz (i := 9) (d := 8) rfl rfl ?_
      simp only [Act.put, zzA, zzB, zzC]
      refine wpAnyH_done (by kernel_rfl) ?_ _
      go_wp2
      go_roundw
      case rel => exact ⟨k + m, by rw [HSUM.out]; push_cast; rfl, by omega, HR2.out⟩
      case measure => simp [intOf]; rw [HSUM.out]; omega
    · have hkk : k = n := by omega
      have HKK := Lib.hid hkk
      clear hkk
      go_wp2
      go_ret
      have hfin := HRK.out
      rw [HKK.out] at hfin
      exact ⟨rfl, hfin.b, by simpa using hfin.blk⟩
end Go.Proofs.Ytnohfeaamfjimaa
namespace Go.Proofs.Ytnohfeaamfjimaa
open Go.RowKit Go.WideShapes
set_option linter.unusedVariables false
set_option linter.unusedSimpArgs false
def pairs (f : Nat → Int × Int) : Nat → List Int
  | 0 => []
  | n + 1 => pairs f n ++ [(f n).1, (f n).2]
def beginU (p : Pt) : Un :=
  { p := p, h := 0, ptr := 0, len := 0
    t := if p.k = 2 then pairs (fun _ => (2097152, 0)) (2 ^ p.s.toNat) else if p.k = 4 then List.replicate (2 ^ p.s.toNat) 0 else if p.k = 6 then List.replicate (2 ^ p.s.toNat) 32768
      else if p.k = 7 then List.replicate (2 ^ p.s.toNat * p.b.toNat) (65536 / p.b) else if p.k = 9 then pairs (fun i => (sqI (((i % 32 : Nat) : Int) * 132 - 2047) * 1024, 0)) (2 ^ p.s.toNat * 32) else []
    b := if p.k = 3 ∨ p.k = 4 ∨ p.k = 8 then List.replicate (2 ^ p.s.toNat) 0 else []
    x := if p.k = 3 then (List.range 256).map (fun i : Nat => chanceI (i : Int)) else if p.k = 8 then pairs (fun _ => (65536, 0)) 256 else [] }
def BegE (p : Pt) (w0 : World) (e : Ending) (w : World) : Prop :=
  ∃ l : Loc, e = .returned (.iface (ptU p.k) (.pointer (some ⟨l.g, 0, none⟩))) ∧ Below w0.heap.size w0 w ∧ UB w (beginU p) l ∧ ∀ b, l.has b → w0.heap.size ≤ b ∧ b < w.heap.size
end Go.Proofs.Ytnohfeaamfjimaa
namespace Go.Proofs.Ytnohfeaamfjimaa
open Go.RowKit Go.WideShapes
set_option linter.unusedVariables false
set_option linter.unusedSimpArgs false
theorem Loc.has_one {g b : Nat} : (Loc.mk g g g).has b → b = g := fun h => by rcases h with h | h | h <;> exact h
theorem BegE.mk {p : Pt} {w0 w : World} (l : Loc) {T : TypeId} {e : Ending} (hT : ptU p.k = T) (he : e = .returned (.iface T (.pointer (some ⟨l.g, 0, none⟩)))) (hb : Below w0.heap.size w0 w) (hu : UB w (beginU p) l) (hl : ∀ b, l.has b → w0.heap.size ≤ b ∧ b < w.heap.size) : BegE p w0 e w :=
  ⟨l, by rw [hT, he], hb, hu, hl⟩
theorem ub1 {S : Nat} {a b c r l : Int} {w : World} {g : Nat} (h : Blk w g 117 #[.int .u8 1, .int .i64 (S : Int), .int .i64 a, .int .i64 b, .int .i64 c, .int .i64 r, .int .i64 l, .int .u32 0]) : UB w (beginU ⟨1, S, a, b, c, r, l⟩) ⟨g, g, g⟩ :=
  ⟨h, fun k => by simp [beginU] at k, fun k => by simp [beginU] at k, fun k => by simp [beginU] at k⟩
theorem ub5 {S : Nat} {a b c r l : Int} {w : World} {g : Nat} (h : Blk w g 102 #[.int .u8 5, .int .i64 (S : Int), .int .i64 a, .int .i64 b, .int .i64 c, .int .i64 r, .int .i64 l, .int .u32 0]) : UB w (beginU ⟨5, S, a, b, c, r, l⟩) ⟨g, g, g⟩ :=
  ⟨h, fun k => by simp [beginU] at k, fun k => by simp [beginU] at k, fun k => by simp [beginU] at k⟩
set_option maxRecDepth 100000 in
set_option maxHeartbeats 4000000 in
theorem begun_1 (S N : Nat) (a b c r l : Int) (hs2 : S ≤ 16) (hN : 2 ^ S = N) (w : World) :
    Calls Try.prog 27 #[Pt.agg ⟨1, S, a, b, c, r, l⟩] w (BegE ⟨1, S, a, b, c, r, l⟩ w) := by
  unfold Pt.agg
  have hNb : N ≤ 65536 := by rw [← hN]; exact Nat.pow_le_pow_right (show 0 < 2 by omega) hs2
  have hN1 : 1 ≤ N := by rw [← hN]; exact Nat.two_pow_pos S
  have hp : wrap64 ((2 : Int) ^ S) = (N : Int) := by
    rw [show ((2 : Int) ^ S) = ((2 ^ S : Nat) : Int) by push_cast; rfl, hN]
    unfold wrap64
    omega
  have HN := Lib.hid hN
  clear hN
  go_enter Try.func27, Try.ntmps27
  go_upto_region 1 with fail
  go_region
  try simp only [hp]
  obtain ⟨w1, hw1⟩ : ∃ w1, ((w.alloc (.cells #[.int .u8 1, .int .i64 (S : Int), .int .i64 a, .int .i64 b, .int .i64 c, .int .i64 r, .int .i64 l] 25)).alloc (.cells #[.int .u8 1, .int .i64 (S : Int), .int .i64 a, .int .i64 b, .int .i64 c, .int .i64 r, .int .i64 l, .int .u32 0] 84)).drew = w1 := ⟨_, rfl⟩
  have k25 : Blk w1 w.heap.size 25 #[.int .u8 1, .int .i64 (S : Int), .int .i64 a, .int .i64 b, .int .i64 c, .int .i64 r, .int .i64 l] := hw1 ▸ ((Blk.new w _ _).alloc _).drew
  have k84 : Blk w1 (w.heap.size + 1) 84 #[.int .u8 1, .int .i64 (S : Int), .int .i64 a, .int .i64 b, .int .i64 c, .int .i64 r, .int .i64 l, .int .u32 0] := by
    have := (Blk.new (w.alloc (.cells #[.int .u8 1, .int .i64 (S : Int), .int .i64 a, .int .i64 b, .int .i64 c, .int .i64 r, .int .i64 l] 25)) 84 #[.int .u8 1, .int .i64 (S : Int), .int .i64 a, .int .i64 b, .int .i64 c, .int .i64 r, .int .i64 l, .int .u32 0]).drew
    rw [hw1] at this
    simpa using this
  have hb1 : Below w.heap.size w w1 := hw1 ▸ below_drewN (((Below.refl _ _).alloc (Nat.le_refl _) _).alloc (by simp) _) 1
  rw [hw1]
  have hsz1 : w.heap.size + 2 ≤ w1.heap.size := by have := k84.lt; omega
  have q0 : w1.cell? ⟨w.heap.size + 1, 0, none⟩ = some (.int .u8 1) := k84.cell 0
  have q1 : w1.cell? ⟨w.heap.size + 1, 1, none⟩ = some (.int .i64 (S : Int)) := k84.cell 1
  have q2 : w1.cell? ⟨w.heap.size + 1, 2, none⟩ = some (.int .i64 a) := k84.cell 2
  have q3 : w1.cell? ⟨w.heap.size + 1, 3, none⟩ = some (.int .i64 b) := k84.cell 3
  have q4 : w1.cell? ⟨w.heap.size + 1, 4, none⟩ = some (.int .i64 c) := k84.cell 4
  have q5 : w1.cell? ⟨w.heap.size + 1, 5, none⟩ = some (.int .i64 r) := k84.cell 5
  have q6 : w1.cell? ⟨w.heap.size + 1, 6, none⟩ = some (.int .i64 l) := k84.cell 6
  have q7 : w1.cell? ⟨w.heap.size + 1, 7, none⟩ = some (.int .u32 0) := k84.cell 7
  have d0 : w1.cell? ⟨w.heap.size, 0, none⟩ = some (.int .u8 1) := k25.cell 0
  have d3 : w1.cell? ⟨w.heap.size, 3, none⟩ = some (.int .i64 b) := k25.cell 3
  clear k25 k84
  have HF := Lib.hid (show ∀ W : World, Below w1.heap.size w1 W → W.cell? ⟨w.heap.size + 1, 0, none⟩ = some (.int .u8 1) ∧ W.cell? ⟨w.heap.size + 1, 1, none⟩ = some (.int .i64 (S : Int)) ∧ W.cell? ⟨w.heap.size + 1, 2, none⟩ = some (.int .i64 a) ∧ W.cell? ⟨w.heap.size + 1, 3, none⟩ = some (.int .i64 b) ∧ W.cell? ⟨w.heap.size + 1, 4, none⟩ = some (.int .i64 c) ∧ W.cell? ⟨w.heap.size + 1, 5, none⟩ = some (.int .i64 r) ∧ W.cell? ⟨w.heap.size + 1, 6, none⟩ = some (.int .i64 l) ∧ W.cell? ⟨w.heap.size + 1, 7, none⟩ = some (.int .u32 0) ∧ W.cell? ⟨w.heap.size, 0, none⟩ = some (.int .u8 1) ∧ W.cell? ⟨w.heap.size, 3, none⟩ = some (.int .i64 b) ∧ Below w1.heap.size w1 W from fun W hL => ⟨ck q0 hL, ck q1 hL, ck q2 hL, ck q3 hL, ck q4 hL, ck q5 hL, ck q6 hL, ck q7 hL, ck d0 hL, ck d3 hL, hL⟩)
  have HL := Lib.hid (show Below w1.heap.size w1 w1 from Below.refl _ _)
  have HB1 := Lib.hid hb1
  clear hw1 hb1 hp
  go_upto_region 37 with fail
  go_wp2_with fail
  go_ret
  have hb2 := below_drewN (HB1.out) 0
  refine BegE.mk ⟨w1.heap.size, w1.heap.size, w1.heap.size⟩ (T := 116) rfl rfl ((HB1.out).alloc (by omega) _) (ub1 (Blk.new w1 117 _)) (fun b hb => ?_)
  have := Loc.has_one hb
  subst this
  exact ⟨by omega, by simp⟩
set_option maxRecDepth 100000 in
set_option maxHeartbeats 4000000 in
theorem begun_5 (S N : Nat) (a b c r l : Int) (hs2 : S ≤ 16) (hN : 2 ^ S = N) (w : World) :
    Calls Try.prog 27 #[Pt.agg ⟨5, S, a, b, c, r, l⟩] w (BegE ⟨5, S, a, b, c, r, l⟩ w) := by
  unfold Pt.agg
  have hNb : N ≤ 65536 := by rw [← hN]; exact Nat.pow_le_pow_right (show 0 < 2 by omega) hs2
  have hN1 : 1 ≤ N := by rw [← hN]; exact Nat.two_pow_pos S
  have hp : wrap64 ((2 : Int) ^ S) = (N : Int) := by
    rw [show ((2 : Int) ^ S) = ((2 ^ S : Nat) : Int) by push_cast; rfl, hN]
    unfold wrap64
    omega
  have HN := Lib.hid hN
  clear hN
  go_enter Try.func27, Try.ntmps27
  go_upto_region 1 with fail
  go_region
  try simp only [hp]
  obtain ⟨w1, hw1⟩ : ∃ w1, ((w.alloc (.cells #[.int .u8 5, .int .i64 (S : Int), .int .i64 a, .int .i64 b, .int .i64 c, .int .i64 r, .int .i64 l] 25)).alloc (.cells #[.int .u8 5, .int .i64 (S : Int), .int .i64 a, .int .i64 b, .int .i64 c, .int .i64 r, .int .i64 l, .int .u32 0] 84)).drew = w1 := ⟨_, rfl⟩
  have k25 : Blk w1 w.heap.size 25 #[.int .u8 5, .int .i64 (S : Int), .int .i64 a, .int .i64 b, .int .i64 c, .int .i64 r, .int .i64 l] := hw1 ▸ ((Blk.new w _ _).alloc _).drew
  have k84 : Blk w1 (w.heap.size + 1) 84 #[.int .u8 5, .int .i64 (S : Int), .int .i64 a, .int .i64 b, .int .i64 c, .int .i64 r, .int .i64 l, .int .u32 0] := by
    have := (Blk.new (w.alloc (.cells #[.int .u8 5, .int .i64 (S : Int), .int .i64 a, .int .i64 b, .int .i64 c, .int .i64 r, .int .i64 l] 25)) 84 #[.int .u8 5, .int .i64 (S : Int), .int .i64 a, .int .i64 b, .int .i64 c, .int .i64 r, .int .i64 l, .int .u32 0]).drew
    rw [hw1] at this
    simpa using this
  have hb1 : Below w.heap.size w w1 := hw1 ▸ below_drewN (((Below.refl _ _).alloc (Nat.le_refl _) _).alloc (by simp) _) 1
  rw [hw1]
  have hsz1 : w.heap.size + 2 ≤ w1.heap.size := by have := k84.lt; omega
  have q0 : w1.cell? ⟨w.heap.size + 1, 0, none⟩ = some (.int .u8 5) := k84.cell 0
  have q1 : w1.cell? ⟨w.heap.size + 1, 1, none⟩ = some (.int .i64 (S : Int)) := k84.cell 1
  have q2 : w1.cell? ⟨w.heap.size + 1, 2, none⟩ = some (.int .i64 a) := k84.cell 2
  have q3 : w1.cell? ⟨w.heap.size + 1, 3, none⟩ = some (.int .i64 b) := k84.cell 3
  have q4 : w1.cell? ⟨w.heap.size + 1, 4, none⟩ = some (.int .i64 c) := k84.cell 4
  have q5 : w1.cell? ⟨w.heap.size + 1, 5, none⟩ = some (.int .i64 r) := k84.cell 5
  have q6 : w1.cell? ⟨w.heap.size + 1, 6, none⟩ = some (.int .i64 l) := k84.cell 6
  have q7 : w1.cell? ⟨w.heap.size + 1, 7, none⟩ = some (.int .u32 0) := k84.cell 7
  have d0 : w1.cell? ⟨w.heap.size, 0, none⟩ = some (.int .u8 5) := k25.cell 0
  have d3 : w1.cell? ⟨w.heap.size, 3, none⟩ = some (.int .i64 b) := k25.cell 3
  clear k25 k84
  have HF := Lib.hid (show ∀ W : World, Below w1.heap.size w1 W → W.cell? ⟨w.heap.size + 1, 0, none⟩ = some (.int .u8 5) ∧ W.cell? ⟨w.heap.size + 1, 1, none⟩ = some (.int .i64 (S : Int)) ∧ W.cell? ⟨w.heap.size + 1, 2, none⟩ = some (.int .i64 a) ∧ W.cell? ⟨w.heap.size + 1, 3, none⟩ = some (.int .i64 b) ∧ W.cell? ⟨w.heap.size + 1, 4, none⟩ = some (.int .i64 c) ∧ W.cell? ⟨w.heap.size + 1, 5, none⟩ = some (.int .i64 r) ∧ W.cell? ⟨w.heap.size + 1, 6, none⟩ = some (.int .i64 l) ∧ W.cell? ⟨w.heap.size + 1, 7, none⟩ = some (.int .u32 0) ∧ W.cell? ⟨w.heap.size, 0, none⟩ = some (.int .u8 5) ∧ W.cell? ⟨w.heap.size, 3, none⟩ = some (.int .i64 b) ∧ Below w1.heap.size w1 W from fun W hL => ⟨ck q0 hL, ck q1 hL, ck q2 hL, ck q3 hL, ck q4 hL, ck q5 hL, ck q6 hL, ck q7 hL, ck d0 hL, ck d3 hL, hL⟩)
  have HL := Lib.hid (show Below w1.heap.size w1 w1 from Below.refl _ _)
  have HB1 := Lib.hid hb1
  clear hw1 hb1 hp
  go_upto_region 16 with fail
  go_wp2_with fail
  go_ret
  have hb2 := below_drewN (HB1.out) 0
  refine BegE.mk ⟨w1.heap.size, w1.heap.size, w1.heap.size⟩ (T := 100) rfl rfl ((HB1.out).alloc (by omega) _) (ub5 (Blk.new w1 102 _)) (fun b hb => ?_)
  have := Loc.has_one hb
  subst this
  exact ⟨by omega, by simp⟩
end Go.Proofs.Ytnohfeaamfjimaa
namespace Go.Proofs.Ytnohfeaamfjimaa
open Go.RowKit Go.WideShapes
set_option linter.unusedVariables false
set_option linter.unusedSimpArgs false
theorem rep_succ (k : Nat) (xs : List Value) : rep (k + 1) xs = xs ++ rep k xs := by simp [rep, List.replicate_succ]
theorem ints_rep (N : Nat) (x : Int) : ints (List.replicate N x) = rep N [.int .i64 x] := by
  induction N with
  | zero => rfl
  | succ n ih => rw [List.replicate_succ, rep_succ, ← ih]; rfl
theorem ints_append (l r : List Int) : ints (l ++ r) = ints l ++ ints r := by simp [ints]
theorem ints_pairs (N : Nat) (x y : Int) : ints (pairs (fun _ => (x, y)) N) = rep N [.int .i64 x, .int .i64 y] := by
  induction N with
  | zero => rfl
  | succ n ih =>
    unfold pairs
    rw [ints_append, ih, rep_add, rep_one]
    rfl
theorem pairs_length (f : Nat → Int × Int) : ∀ n, (pairs f n).length = n * 2
  | 0 => rfl
  | n + 1 => by unfold pairs; rw [List.length_append, pairs_length f n]; simp; omega
theorem ub6 {S N : Nat} {a b c r l : Int} {w : World} {g gt : Nat} (hN : 2 ^ S = N) (h : Blk w g 106 #[.int .u8 6, .int .i64 (S : Int), .int .i64 a, .int .i64 b, .int .i64 c, .int .i64 r, .int .i64 l, .int .u32 0, .slice (some ⟨gt, 0, none⟩) N N]) (ht : Blk w gt 3 (rep N [.int .i64 32768]).toArray) : UB w (beginU ⟨6, S, a, b, c, r, l⟩) ⟨g, g, gt⟩ := by
  subst hN
  have e : (beginU ⟨6, S, a, b, c, r, l⟩).t = List.replicate (2 ^ S) 32768 := by simp [beginU]
  refine ⟨?_, fun k => by simp [beginU] at k, fun k => by simp [beginU] at k, fun _ => by rw [e, ints_rep]; exact ht⟩
  unfold Un.cells
  rw [tail67 _ _ (.inl rfl), e, List.length_replicate]
  exact h
theorem ub7 {S N m : Nat} {a c r l x : Int} {w : World} {g gt : Nat} (hN : 2 ^ S = N) (hx : 65536 / (m : Int) = x) (h : Blk w g 108 #[.int .u8 7, .int .i64 (S : Int), .int .i64 a, .int .i64 (m : Int), .int .i64 c, .int .i64 r, .int .i64 l, .int .u32 0, .slice (some ⟨gt, 0, none⟩) (N * m) (N * m)]) (ht : Blk w gt 3 (rep (N * m) [.int .i64 x]).toArray) : UB w (beginU ⟨7, S, a, m, c, r, l⟩) ⟨g, g, gt⟩ := by
  subst hN
  have e : (beginU ⟨7, S, a, m, c, r, l⟩).t = List.replicate (2 ^ S * m) x := by simp [beginU, hx]
  refine ⟨?_, fun k => by simp [beginU] at k, fun k => by simp [beginU] at k, fun _ => by rw [e, ints_rep]; exact ht⟩
  unfold Un.cells
  rw [tail67 _ _ (.inr rfl), e, List.length_replicate]
  exact h
theorem ub2 {S N : Nat} {a b c r l : Int} {w : World} {g gt : Nat} (hN : 2 ^ S = N) (h : Blk w g 91 #[.int .u8 2, .int .i64 (S : Int), .int .i64 a, .int .i64 b, .int .i64 c, .int .i64 r, .int .i64 l, .int .u32 0, .slice (some ⟨gt, 0, none⟩) N N]) (ht : Blk w gt 89 (rep N [.int .i64 2097152, .int .i64 0]).toArray) : UB w (beginU ⟨2, S, a, b, c, r, l⟩) ⟨g, g, gt⟩ := by
  subst hN
  have e : (beginU ⟨2, S, a, b, c, r, l⟩).t = pairs (fun _ => (2097152, 0)) (2 ^ S) := by simp [beginU]
  refine ⟨?_, fun k => by simp [beginU] at k, fun _ => by rw [e, ints_pairs]; exact ht, fun k => by simp [beginU] at k⟩
  unfold Un.cells
  rw [tail29 _ _ (.inl rfl), e, pairs_length, Nat.mul_div_cancel _ (by omega)]
  exact h
set_option maxRecDepth 100000 in
set_option maxHeartbeats 4000000 in
theorem begun_6 (S N : Nat) (a b c r l : Int) (hs2 : S ≤ 16) (hN : 2 ^ S = N) (w : World) :
    Calls Try.prog 27 #[Pt.agg ⟨6, S, a, b, c, r, l⟩] w (BegE ⟨6, S, a, b, c, r, l⟩ w) := by
  unfold Pt.agg
  have hNb : N ≤ 65536 := by rw [← hN]; exact Nat.pow_le_pow_right (show 0 < 2 by omega) hs2
  have hN1 : 1 ≤ N := by rw [← hN]; exact Nat.two_pow_pos S
  have hp : wrap64 ((2 : Int) ^ S) = (N : Int) := by
    rw [show ((2 : Int) ^ S) = ((2 ^ S : Nat) : Int) by push_cast; rfl, hN]
    unfold wrap64
    omega
  have HN := Lib.hid hN
  clear hN
  go_enter Try.func27, Try.ntmps27
  go_upto_region 1 with fail
  go_region
  try simp only [hp]
  obtain ⟨w1, hw1⟩ : ∃ w1, ((w.alloc (.cells #[.int .u8 6, .int .i64 (S : Int), .int .i64 a, .int .i64 b, .int .i64 c, .int .i64 r, .int .i64 l] 25)).alloc (.cells #[.int .u8 6, .int .i64 (S : Int), .int .i64 a, .int .i64 b, .int .i64 c, .int .i64 r, .int .i64 l, .int .u32 0] 84)).drew = w1 := ⟨_, rfl⟩
  have k25 : Blk w1 w.heap.size 25 #[.int .u8 6, .int .i64 (S : Int), .int .i64 a, .int .i64 b, .int .i64 c, .int .i64 r, .int .i64 l] := hw1 ▸ ((Blk.new w _ _).alloc _).drew
  have k84 : Blk w1 (w.heap.size + 1) 84 #[.int .u8 6, .int .i64 (S : Int), .int .i64 a, .int .i64 b, .int .i64 c, .int .i64 r, .int .i64 l, .int .u32 0] := by
    have := (Blk.new (w.alloc (.cells #[.int .u8 6, .int .i64 (S : Int), .int .i64 a, .int .i64 b, .int .i64 c, .int .i64 r, .int .i64 l] 25)) 84 #[.int .u8 6, .int .i64 (S : Int), .int .i64 a, .int .i64 b, .int .i64 c, .int .i64 r, .int .i64 l, .int .u32 0]).drew
    rw [hw1] at this
    simpa using this
  have hb1 : Below w.heap.size w w1 := hw1 ▸ below_drewN (((Below.refl _ _).alloc (Nat.le_refl _) _).alloc (by simp) _) 1
  rw [hw1]
  have hsz1 : w.heap.size + 2 ≤ w1.heap.size := by have := k84.lt; omega
  have q0 : w1.cell? ⟨w.heap.size + 1, 0, none⟩ = some (.int .u8 6) := k84.cell 0
  have q1 : w1.cell? ⟨w.heap.size + 1, 1, none⟩ = some (.int .i64 (S : Int)) := k84.cell 1
  have q2 : w1.cell? ⟨w.heap.size + 1, 2, none⟩ = some (.int .i64 a) := k84.cell 2
  have q3 : w1.cell? ⟨w.heap.size + 1, 3, none⟩ = some (.int .i64 b) := k84.cell 3
  have q4 : w1.cell? ⟨w.heap.size + 1, 4, none⟩ = some (.int .i64 c) := k84.cell 4
  have q5 : w1.cell? ⟨w.heap.size + 1, 5, none⟩ = some (.int .i64 r) := k84.cell 5
  have q6 : w1.cell? ⟨w.heap.size + 1, 6, none⟩ = some (.int .i64 l) := k84.cell 6
  have q7 : w1.cell? ⟨w.heap.size + 1, 7, none⟩ = some (.int .u32 0) := k84.cell 7
  have d0 : w1.cell? ⟨w.heap.size, 0, none⟩ = some (.int .u8 6) := k25.cell 0
  have d3 : w1.cell? ⟨w.heap.size, 3, none⟩ = some (.int .i64 b) := k25.cell 3
  clear k25 k84
  have HF := Lib.hid (show ∀ W : World, Below w1.heap.size w1 W → W.cell? ⟨w.heap.size + 1, 0, none⟩ = some (.int .u8 6) ∧ W.cell? ⟨w.heap.size + 1, 1, none⟩ = some (.int .i64 (S : Int)) ∧ W.cell? ⟨w.heap.size + 1, 2, none⟩ = some (.int .i64 a) ∧ W.cell? ⟨w.heap.size + 1, 3, none⟩ = some (.int .i64 b) ∧ W.cell? ⟨w.heap.size + 1, 4, none⟩ = some (.int .i64 c) ∧ W.cell? ⟨w.heap.size + 1, 5, none⟩ = some (.int .i64 r) ∧ W.cell? ⟨w.heap.size + 1, 6, none⟩ = some (.int .i64 l) ∧ W.cell? ⟨w.heap.size + 1, 7, none⟩ = some (.int .u32 0) ∧ W.cell? ⟨w.heap.size, 0, none⟩ = some (.int .u8 6) ∧ W.cell? ⟨w.heap.size, 3, none⟩ = some (.int .i64 b) ∧ Below w1.heap.size w1 W from fun W hL => ⟨ck q0 hL, ck q1 hL, ck q2 hL, ck q3 hL, ck q4 hL, ck q5 hL, ck q6 hL, ck q7 hL, ck d0 hL, ck d3 hL, hL⟩)
  have HL := Lib.hid (show Below w1.heap.size w1 w1 from Below.refl _ _)
  have HB1 := Lib.hid hb1
  clear hw1 hb1 hp
  have HRP := Lib.hid (show ∀ (g : Nat) (W : World), Blk W g 3 #[.int .i64 32768] → Calls Try.prog 45 #[.slice (some ⟨g, 0, none⟩) 1 1, .int .i64 (N : Int)] W (fun e w' => e = .returned (.slice (some ⟨W.heap.size, 0, none⟩) (N) (N)) ∧ Below W.heap.size W w' ∧ Blk w' W.heap.size 3 (rep (N) [.int .i64 32768]).toArray) from fun g W hx => repeatI 32768 g N W hN1 (by omega) hx)
  go_upto_region 18 with fail
  refine wp_region_held_drew (S := (fun W : World => W.cell? ⟨w.heap.size + 1, 0, none⟩ = some (.int .u8 6) ∧ W.cell? ⟨w.heap.size + 1, 1, none⟩ = some (.int .i64 (S : Int)) ∧ W.cell? ⟨w.heap.size + 1, 2, none⟩ = some (.int .i64 a) ∧ W.cell? ⟨w.heap.size + 1, 3, none⟩ = some (.int .i64 b) ∧ W.cell? ⟨w.heap.size + 1, 4, none⟩ = some (.int .i64 c) ∧ W.cell? ⟨w.heap.size + 1, 5, none⟩ = some (.int .i64 r) ∧ W.cell? ⟨w.heap.size + 1, 6, none⟩ = some (.int .i64 l) ∧ W.cell? ⟨w.heap.size + 1, 7, none⟩ = some (.int .u32 0) ∧ W.cell? ⟨w.heap.size, 0, none⟩ = some (.int .u8 6) ∧ W.cell? ⟨w.heap.size, 3, none⟩ = some (.int .i64 b) ∧ Below w1.heap.size w1 W)) (by kernel_rfl) (HF.out _ (below_drewN (HL.out) 1)) (fun hHeld => ?_)
  have HB2 := Lib.hid (show Below w1.heap.size w1 w1.drew from below_drewN (Below.refl _ _) 1)
  obtain ⟨w2, hw2⟩ : ∃ x, w1.drew = x := ⟨_, rfl⟩
  rw [hw2] at HB2 hHeld ⊢
  clear hw2
  refine tkz (i := 0) (d := 67) rfl rfl ?_
  simp only [Act.put, zzA, zzB, zzC]
  refine tkz (i := 2) (d := 69) rfl rfl ?_
  simp only [Act.put, zzA, zzB, zzC]
  refine rdz (i := 1) rfl (fun K hK => ?_)
  go_simp
  have hb := (Below.refl w2.heap.size w2).alloc (Nat.le_refl _) (.cells #[.int .i64 32768] 3)
  have HNgn := Lib.hid (Blk.new w2 3 #[.int .i64 32768])
  have HGgn := Lib.hid (show w2.heap.size ≤ w2.heap.size from Nat.le_refl _)
  have HBEgn := Lib.hid (hHeld.2.2.2.2.2.2.2.2.2.2)
  obtain ⟨w3, hwn⟩ : ∃ x, w2.alloc (.cells #[.int .i64 32768] 3) = x := ⟨_, rfl⟩
  obtain ⟨gn, hgn⟩ : ∃ x, w2.heap.size = x := ⟨_, rfl⟩
  rw [hwn] at hb HNgn ⊢
  have hGE : w1.heap.size ≤ gn := by have := HBEgn.out.size; omega
  rw [hgn] at HNgn ⊢
  clear hwn hgn HGgn HBEgn
  refine hK.out _ _ (HF.out _ (bl_step (hHeld.2.2.2.2.2.2.2.2.2.2) hb)) (fun hHeld => ?_)
  clear hK K
  try simp only [Act.put, zzA, zzB, zzC]
  refine rdz (i := 3) rfl (fun K hK => ?_)
  go_simp
  refine (HRP.out gn w3 HNgn.out).mono ?_
  rintro e w4 ⟨he, hb, hbk⟩
  subst he
  have HBK := Lib.hid hbk
  have hGT : w1.heap.size ≤ w3.heap.size := (hHeld.2.2.2.2.2.2.2.2.2.2).size
  obtain ⟨gt, hgt⟩ : ∃ x, w3.heap.size = x := ⟨_, rfl⟩
  rw [hgt] at HBK hGT ⊢
  clear hbk hgt
  go_wp2_with fail
  refine hK.out _ _ (HF.out _ (bl_step (hHeld.2.2.2.2.2.2.2.2.2.2) hb)) (fun hHeld => ?_)
  clear hK K
  try simp only [Act.put, zzA, zzB, zzC]
  refine tkz (i := 4) (d := 71) rfl rfl ?_
  simp only [Act.put, zzA, zzB, zzC]
  refine rdz (i := 5) rfl (fun K hK => ?_)
  go_simp
  have hb := (Below.refl w4.heap.size w4).alloc (Nat.le_refl _) (.cells #[.int .u8 6, .int .i64 (S : Int), .int .i64 a, .int .i64 b, .int .i64 c, .int .i64 r, .int .i64 l, .int .u32 0, .slice (some ⟨gt, 0, none⟩) (N) (N)] 106)
  have HNg6 := Lib.hid (Blk.new w4 106 #[.int .u8 6, .int .i64 (S : Int), .int .i64 a, .int .i64 b, .int .i64 c, .int .i64 r, .int .i64 l, .int .u32 0, .slice (some ⟨gt, 0, none⟩) (N) (N)])
  have HGg6 := Lib.hid (show w4.heap.size ≤ w4.heap.size from Nat.le_refl _)
  have HBEg6 := Lib.hid (hHeld.2.2.2.2.2.2.2.2.2.2)
  obtain ⟨w5, hwn⟩ : ∃ x, w4.alloc (.cells #[.int .u8 6, .int .i64 (S : Int), .int .i64 a, .int .i64 b, .int .i64 c, .int .i64 r, .int .i64 l, .int .u32 0, .slice (some ⟨gt, 0, none⟩) (N) (N)] 106) = x := ⟨_, rfl⟩
  obtain ⟨g6, hgn⟩ : ∃ x, w4.heap.size = x := ⟨_, rfl⟩
  rw [hwn] at hb HNg6 ⊢
  have hGE : w1.heap.size ≤ g6 := by have := HBEg6.out.size; omega
  rw [hgn] at HNg6 ⊢
  clear hwn hgn HGg6 HBEg6
  have HBK5 := Lib.hid (HBK.out.below hb)
  refine hK.out _ _ (HF.out _ (bl_step (hHeld.2.2.2.2.2.2.2.2.2.2) hb)) (fun hHeld => ?_)
  clear hK K
  try simp only [Act.put, zzA, zzB, zzC]
  refine tkz (i := 6) (d := 73) rfl rfl ?_
  simp only [Act.put, zzA, zzB, zzC]
  refine tkz (i := 7) (d := 2) rfl rfl ?_
  simp only [Act.put, zzA, zzB, zzC]
  refine wpAnyH_done (by kernel_rfl) ?_ _
  go_wp2
  go_ret
  refine BegE.mk ⟨g6, g6, gt⟩ (T := 103) rfl rfl (bl_step HB1.out (hHeld.2.2.2.2.2.2.2.2.2.2)) (ub6 HN.out HNg6.out HBK5.out) (fun b hb => ?_)
  have k1 := HNg6.out.lt
  have k2 := HBK5.out.lt
  rcases hb with hb | hb | hb <;> (simp only at hb; subst hb) <;> omega
set_option maxRecDepth 100000 in
set_option maxHeartbeats 4000000 in
theorem begun_2 (S N : Nat) (a b c r l : Int) (hs2 : S ≤ 16) (hN : 2 ^ S = N) (w : World) :
    Calls Try.prog 27 #[Pt.agg ⟨2, S, a, b, c, r, l⟩] w (BegE ⟨2, S, a, b, c, r, l⟩ w) := by
  unfold Pt.agg
  have hNb : N ≤ 65536 := by rw [← hN]; exact Nat.pow_le_pow_right (show 0 < 2 by omega) hs2
  have hN1 : 1 ≤ N := by rw [← hN]; exact Nat.two_pow_pos S
  have hp : wrap64 ((2 : Int) ^ S) = (N : Int) := by
    rw [show ((2 : Int) ^ S) = ((2 ^ S : Nat) : Int) by push_cast; rfl, hN]
    unfold wrap64
    omega
  have HN := Lib.hid hN
  clear hN
  go_enter Try.func27, Try.ntmps27
  go_upto_region 1 with fail
  go_region
  try simp only [hp]
  obtain ⟨w1, hw1⟩ : ∃ w1, ((w.alloc (.cells #[.int .u8 2, .int .i64 (S : Int), .int .i64 a, .int .i64 b, .int .i64 c, .int .i64 r, .int .i64 l] 25)).alloc (.cells #[.int .u8 2, .int .i64 (S : Int), .int .i64 a, .int .i64 b, .int .i64 c, .int .i64 r, .int .i64 l, .int .u32 0] 84)).drew = w1 := ⟨_, rfl⟩
  have k25 : Blk w1 w.heap.size 25 #[.int .u8 2, .int .i64 (S : Int), .int .i64 a, .int .i64 b, .int .i64 c, .int .i64 r, .int .i64 l] := hw1 ▸ ((Blk.new w _ _).alloc _).drew
  have k84 : Blk w1 (w.heap.size + 1) 84 #[.int .u8 2, .int .i64 (S : Int), .int .i64 a, .int .i64 b, .int .i64 c, .int .i64 r, .int .i64 l, .int .u32 0] := by
    have := (Blk.new (w.alloc (.cells #[.int .u8 2, .int .i64 (S : Int), .int .i64 a, .int .i64 b, .int .i64 c, .int .i64 r, .int .i64 l] 25)) 84 #[.int .u8 2, .int .i64 (S : Int), .int .i64 a, .int .i64 b, .int .i64 c, .int .i64 r, .int .i64 l, .int .u32 0]).drew
    rw [hw1] at this
    simpa using this
  have hb1 : Below w.heap.size w w1 := hw1 ▸ below_drewN (((Below.refl _ _).alloc (Nat.le_refl _) _).alloc (by simp) _) 1
  rw [hw1]
  have hsz1 : w.heap.size + 2 ≤ w1.heap.size := by have := k84.lt; omega
  have q0 : w1.cell? ⟨w.heap.size + 1, 0, none⟩ = some (.int .u8 2) := k84.cell 0
  have q1 : w1.cell? ⟨w.heap.size + 1, 1, none⟩ = some (.int .i64 (S : Int)) := k84.cell 1
  have q2 : w1.cell? ⟨w.heap.size + 1, 2, none⟩ = some (.int .i64 a) := k84.cell 2
  have q3 : w1.cell? ⟨w.heap.size + 1, 3, none⟩ = some (.int .i64 b) := k84.cell 3
  have q4 : w1.cell? ⟨w.heap.size + 1, 4, none⟩ = some (.int .i64 c) := k84.cell 4
  have q5 : w1.cell? ⟨w.heap.size + 1, 5, none⟩ = some (.int .i64 r) := k84.cell 5
  have q6 : w1.cell? ⟨w.heap.size + 1, 6, none⟩ = some (.int .i64 l) := k84.cell 6
  have q7 : w1.cell? ⟨w.heap.size + 1, 7, none⟩ = some (.int .u32 0) := k84.cell 7
  have d0 : w1.cell? ⟨w.heap.size, 0, none⟩ = some (.int .u8 2) := k25.cell 0
  have d3 : w1.cell? ⟨w.heap.size, 3, none⟩ = some (.int .i64 b) := k25.cell 3
  clear k25 k84
  have HF := Lib.hid (show ∀ W : World, Below w1.heap.size w1 W → W.cell? ⟨w.heap.size + 1, 0, none⟩ = some (.int .u8 2) ∧ W.cell? ⟨w.heap.size + 1, 1, none⟩ = some (.int .i64 (S : Int)) ∧ W.cell? ⟨w.heap.size + 1, 2, none⟩ = some (.int .i64 a) ∧ W.cell? ⟨w.heap.size + 1, 3, none⟩ = some (.int .i64 b) ∧ W.cell? ⟨w.heap.size + 1, 4, none⟩ = some (.int .i64 c) ∧ W.cell? ⟨w.heap.size + 1, 5, none⟩ = some (.int .i64 r) ∧ W.cell? ⟨w.heap.size + 1, 6, none⟩ = some (.int .i64 l) ∧ W.cell? ⟨w.heap.size + 1, 7, none⟩ = some (.int .u32 0) ∧ W.cell? ⟨w.heap.size, 0, none⟩ = some (.int .u8 2) ∧ W.cell? ⟨w.heap.size, 3, none⟩ = some (.int .i64 b) ∧ Below w1.heap.size w1 W from fun W hL => ⟨ck q0 hL, ck q1 hL, ck q2 hL, ck q3 hL, ck q4 hL, ck q5 hL, ck q6 hL, ck q7 hL, ck d0 hL, ck d3 hL, hL⟩)
  have HL := Lib.hid (show Below w1.heap.size w1 w1 from Below.refl _ _)
  have HB1 := Lib.hid hb1
  clear hw1 hb1 hp
  have HRP := Lib.hid (show ∀ (g : Nat) (W : World), Blk W g 89 #[.int .i64 2097152, .int .i64 0] → Calls Try.prog 43 #[.slice (some ⟨g, 0, none⟩) 1 1, .int .i64 (N : Int)] W (fun e w' => e = .returned (.slice (some ⟨W.heap.size, 0, none⟩) (N) (N)) ∧ Below W.heap.size W w' ∧ Blk w' W.heap.size 89 (rep (N) [.int .i64 2097152, .int .i64 0]).toArray) from fun g W hx => repeatS 2097152 0 g N W hN1 (by omega) hx)
  go_upto_region 4 with fail
  refine wp_region_held_drew (S := (fun W : World => W.cell? ⟨w.heap.size + 1, 0, none⟩ = some (.int .u8 2) ∧ W.cell? ⟨w.heap.size + 1, 1, none⟩ = some (.int .i64 (S : Int)) ∧ W.cell? ⟨w.heap.size + 1, 2, none⟩ = some (.int .i64 a) ∧ W.cell? ⟨w.heap.size + 1, 3, none⟩ = some (.int .i64 b) ∧ W.cell? ⟨w.heap.size + 1, 4, none⟩ = some (.int .i64 c) ∧ W.cell? ⟨w.heap.size + 1, 5, none⟩ = some (.int .i64 r) ∧ W.cell? ⟨w.heap.size + 1, 6, none⟩ = some (.int .i64 l) ∧ W.cell? ⟨w.heap.size + 1, 7, none⟩ = some (.int .u32 0) ∧ W.cell? ⟨w.heap.size, 0, none⟩ = some (.int .u8 2) ∧ W.cell? ⟨w.heap.size, 3, none⟩ = some (.int .i64 b) ∧ Below w1.heap.size w1 W)) (by kernel_rfl) (HF.out _ (below_drewN (HL.out) 1)) (fun hHeld => ?_)
  have HB2 := Lib.hid (show Below w1.heap.size w1 w1.drew from below_drewN (Below.refl _ _) 1)
  obtain ⟨w2, hw2⟩ : ∃ x, w1.drew = x := ⟨_, rfl⟩
  rw [hw2] at HB2 hHeld ⊢
  clear hw2
  refine tkz (i := 0) (d := 20) rfl rfl ?_
  simp only [Act.put, zzA, zzB, zzC]
  refine tkz (i := 1) (d := 21) rfl rfl ?_
  simp only [Act.put, zzA, zzB, zzC]
  refine tkz (i := 3) (d := 23) rfl rfl ?_
  simp only [Act.put, zzA, zzB, zzC]
  refine rdz (i := 2) rfl (fun K hK => ?_)
  go_simp
  have hb := (Below.refl w2.heap.size w2).alloc (Nat.le_refl _) (.cells #[.int .i64 2097152, .int .i64 0] 89)
  have HNgn := Lib.hid (Blk.new w2 89 #[.int .i64 2097152, .int .i64 0])
  have HGgn := Lib.hid (show w2.heap.size ≤ w2.heap.size from Nat.le_refl _)
  have HBEgn := Lib.hid (hHeld.2.2.2.2.2.2.2.2.2.2)
  obtain ⟨w3, hwn⟩ : ∃ x, w2.alloc (.cells #[.int .i64 2097152, .int .i64 0] 89) = x := ⟨_, rfl⟩
  obtain ⟨gn, hgn⟩ : ∃ x, w2.heap.size = x := ⟨_, rfl⟩
  rw [hwn] at hb HNgn ⊢
  have hGE : w1.heap.size ≤ gn := by have := HBEgn.out.size; omega
  rw [hgn] at HNgn ⊢
  clear hwn hgn HGgn HBEgn
  refine hK.out _ _ (HF.out _ (bl_step (hHeld.2.2.2.2.2.2.2.2.2.2) hb)) (fun hHeld => ?_)
  clear hK K
  try simp only [Act.put, zzA, zzB, zzC]
  refine rdz (i := 4) rfl (fun K hK => ?_)
  go_simp
  refine (HRP.out gn w3 HNgn.out).mono ?_
  rintro e w4 ⟨he, hb, hbk⟩
  subst he
  have HBK := Lib.hid hbk
  have hGT : w1.heap.size ≤ w3.heap.size := (hHeld.2.2.2.2.2.2.2.2.2.2).size
  obtain ⟨gt, hgt⟩ : ∃ x, w3.heap.size = x := ⟨_, rfl⟩
  rw [hgt] at HBK hGT ⊢
  clear hbk hgt
  go_wp2_with fail
  refine hK.out _ _ (HF.out _ (bl_step (hHeld.2.2.2.2.2.2.2.2.2.2) hb)) (fun hHeld => ?_)
  clear hK K
  try simp only [Act.put, zzA, zzB, zzC]
  refine tkz (i := 5) (d := 25) rfl rfl ?_
  simp only [Act.put, zzA, zzB, zzC]
  refine rdz (i := 6) rfl (fun K hK => ?_)
  go_simp
  have hb := (Below.refl w4.heap.size w4).alloc (Nat.le_refl _) (.cells #[.int .u8 2, .int .i64 (S : Int), .int .i64 a, .int .i64 b, .int .i64 c, .int .i64 r, .int .i64 l, .int .u32 0, .slice (some ⟨gt, 0, none⟩) (N) (N)] 91)
  have HNg6 := Lib.hid (Blk.new w4 91 #[.int .u8 2, .int .i64 (S : Int), .int .i64 a, .int .i64 b, .int .i64 c, .int .i64 r, .int .i64 l, .int .u32 0, .slice (some ⟨gt, 0, none⟩) (N) (N)])
  have HGg6 := Lib.hid (show w4.heap.size ≤ w4.heap.size from Nat.le_refl _)
  have HBEg6 := Lib.hid (hHeld.2.2.2.2.2.2.2.2.2.2)
  obtain ⟨w5, hwn⟩ : ∃ x, w4.alloc (.cells #[.int .u8 2, .int .i64 (S : Int), .int .i64 a, .int .i64 b, .int .i64 c, .int .i64 r, .int .i64 l, .int .u32 0, .slice (some ⟨gt, 0, none⟩) (N) (N)] 91) = x := ⟨_, rfl⟩
  obtain ⟨g6, hgn⟩ : ∃ x, w4.heap.size = x := ⟨_, rfl⟩
  rw [hwn] at hb HNg6 ⊢
  have hGE : w1.heap.size ≤ g6 := by have := HBEg6.out.size; omega
  rw [hgn] at HNg6 ⊢
  clear hwn hgn HGg6 HBEg6
  have HBK5 := Lib.hid (HBK.out.below hb)
  refine hK.out _ _ (HF.out _ (bl_step (hHeld.2.2.2.2.2.2.2.2.2.2) hb)) (fun hHeld => ?_)
  clear hK K
  try simp only [Act.put, zzA, zzB, zzC]
  refine tkz (i := 7) (d := 27) rfl rfl ?_
  simp only [Act.put, zzA, zzB, zzC]
  refine tkz (i := 8) (d := 2) rfl rfl ?_
  simp only [Act.put, zzA, zzB, zzC]
  refine wpAnyH_done (by kernel_rfl) ?_ _
  go_wp2
  go_ret
  refine BegE.mk ⟨g6, g6, gt⟩ (T := 85) rfl rfl (bl_step HB1.out (hHeld.2.2.2.2.2.2.2.2.2.2)) (ub2 HN.out HNg6.out HBK5.out) (fun b hb => ?_)
  have k1 := HNg6.out.lt
  have k2 := HBK5.out.lt
  rcases hb with hb | hb | hb <;> (simp only at hb; subst hb) <;> omega
end Go.Proofs.Ytnohfeaamfjimaa
