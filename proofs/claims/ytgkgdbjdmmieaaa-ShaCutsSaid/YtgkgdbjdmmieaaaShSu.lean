/- A digest's Sum. -/
import Derived.Test.YtgkgdbjdmmieaaaShDg
import Derived.Deep.LoopGhost
namespace Go.Proofs.Ytgkgdbjdmmieaaa
open Go.RowKit Go.WideShapes
set_option linter.unusedVariables false
set_option linter.unusedSimpArgs false
def zero20 : Array Value := (octs (List.replicate 20 0)).toArray
theorem zero20_one : zero20.all (·.oneCell') = true := by kernel_rfl
theorem size23 : (Try.prog.info? 23).map (·.size) = some 20 := by kernel_rfl
structure Quiet (v : Value) (w0 : World) (e : Ending) (w : World) : Prop where
  ret : e = .returned v
  low : Below w0.heap.size w0 w
theorem row2 {w0 w : World} {B g : Nat} {t : TypeId} {cs cs' : Array Value} (h : Blk w g t cs) (hb : Below B w0 w) (hg : B ≤ g) : Blk (w.setRow g cs') g t cs' ∧ Below B w0 (w.setRow g cs') := ⟨setRow_heap w g cs cs' t (0, 0) h, ⟨hb.os, hb.tape, hb.output, by rw [size_setRow]; exact hb.size, fun k hk => (setRow_other w g k cs' (by omega)).trans (hb.block k hk)⟩⟩
set_option maxHeartbeats 1000000 in
theorem sum_nil (w : World) : Calls Try.prog 13 #[.pointer none] w (Quiet (.agg zero20) w) := by
  have k0 := (Blk.new w 23 zero20).alloc (.cells zero20 23)
  have k1 := Blk.new (w.alloc (.cells zero20 23)) 23 zero20
  rw [show (w.alloc (.cells zero20 23)).heap.size = w.heap.size + 1 by simp] at k1
  obtain ⟨k2, hb⟩ := row2 (cs' := zero20) k0 (((Below.refl w.heap.size w).alloc (Nat.le_refl _) (.cells zero20 23)).alloc (by simp) (.cells zero20 23)) (Nat.le_refl _)
  have K0 := Lib.hid k0
  have K1 := Lib.hid k1
  have K2 := Lib.hid k2
  have HB := Lib.hid hb
  clear k0 k1 k2 hb
  go_enter Try.func13, Try.ntmps13
  go_wp2_with (first | (refine wpList_load_row rfl 23 (.tmp 3) rfl _ rfl 23 zero20 _ _ K1.out Try.underlying23 rfl size23 ?_) | (refine wpList_store_row rfl 23 (.tmp 2) (.tmp 17) rfl w.heap.size zero20 rfl rfl 23 _ K0.out size23 rfl zero20_one ?_))
  exact bodyPost_ret (v := .agg zero20) (results_cell_row rfl _ _ w.heap.size 23 zero20 _ _ rfl K2.out Try.underlying23 rfl size23) rfl ⟨rfl, HB.out⟩
set_option maxHeartbeats 1000000 in
theorem sum_unmade (g : Nat) (u1 u2 u3 u4 u5 u6 u7 : Value) (w : World) (hd : Blk w g 33 #[.bool false, u1, u2, u3, u4, u5, u6, u7]) : Calls Try.prog 13 #[.pointer (some ⟨g, 0, none⟩)] w (Quiet (.agg zero20) w) := by
  have c0 := hd.cell 0
  have hlt := hd.lt
  simp at c0
  have k0 := (Blk.new w 23 zero20).alloc (.cells zero20 23)
  have k1 := Blk.new (w.alloc (.cells zero20 23)) 23 zero20
  rw [show (w.alloc (.cells zero20 23)).heap.size = w.heap.size + 1 by simp] at k1
  obtain ⟨k2, hb⟩ := row2 (cs' := zero20) k0 (((Below.refl w.heap.size w).alloc (Nat.le_refl _) (.cells zero20 23)).alloc (by simp) (.cells zero20 23)) (Nat.le_refl _)
  have K0 := Lib.hid k0
  have K1 := Lib.hid k1
  have K2 := Lib.hid k2
  have HB := Lib.hid hb
  clear k0 k1 k2 hb hd
  go_enter Try.func13, Try.ntmps13
  go_wp2_with (first | (refine wpList_load_row rfl 23 (.tmp 3) rfl _ rfl 23 zero20 _ _ K1.out Try.underlying23 rfl size23 ?_) | (refine wpList_store_row rfl 23 (.tmp 2) (.tmp 17) rfl w.heap.size zero20 rfl rfl 23 _ K0.out size23 rfl zero20_one ?_))
  exact bodyPost_ret (v := .agg zero20) (results_cell_row rfl _ _ w.heap.size 23 zero20 _ _ rfl K2.out Try.underlying23 rfl size23) rfl ⟨rfl, HB.out⟩
theorem su_call {G : Nat} {w0 wz w5 : World} {a b c d e x1 x2 x3 x4 x5 : Int} (hb : Blk wz G 31 #[.int .u32 a, .int .u32 b, .int .u32 c, .int .u32 d, .int .u32 e]) (hf : Below G w0 wz) (h5 : Below wz.drew.heap.size wz.drew w5) :
    w5.cell? ⟨G, 0, none⟩ = some (.int .u32 a) ∧ w5.cell? ⟨G, 1, none⟩ = some (.int .u32 b) ∧ w5.cell? ⟨G, 2, none⟩ = some (.int .u32 c) ∧ w5.cell? ⟨G, 3, none⟩ = some (.int .u32 d) ∧ w5.cell? ⟨G, 4, none⟩ = some (.int .u32 e) ∧
    (∀ i, w5.frozen? ⟨G, i, none⟩ = false) ∧
    Blk (((((w5.setCell ⟨G, 0, none⟩ (.int .u32 x1)).setCell ⟨G, 1, none⟩ (.int .u32 x2)).setCell ⟨G, 2, none⟩ (.int .u32 x3)).setCell ⟨G, 3, none⟩ (.int .u32 x4)).setCell ⟨G, 4, none⟩ (.int .u32 x5)) G 31 #[.int .u32 x1, .int .u32 x2, .int .u32 x3, .int .u32 x4, .int .u32 x5] ∧
    Below G w0 (((((w5.setCell ⟨G, 0, none⟩ (.int .u32 x1)).setCell ⟨G, 1, none⟩ (.int .u32 x2)).setCell ⟨G, 2, none⟩ (.int .u32 x3)).setCell ⟨G, 3, none⟩ (.int .u32 x4)).setCell ⟨G, 4, none⟩ (.int .u32 x5)) := by
  have hlt := hb.lt
  have k5 : Blk w5 G 31 _ := (hb.drew).below h5
  have hb5 : Below G w0 w5 := hf.trans ((of_drew h5).mono (Nat.le_of_lt hlt))
  obtain ⟨k6, hb6⟩ := st5 (.int .u32 x1) (.int .u32 x2) (.int .u32 x3) (.int .u32 x4) (.int .u32 x5) k5 hb5 (Nat.le_refl _)
  have e1 := k5.cell 0
  have e2 := k5.cell 1
  have e3 := k5.cell 2
  have e4 := k5.cell 3
  have e5 := k5.cell 4
  simp at e1 e2 e3 e4 e5
  exact ⟨e1, e2, e3, e4, e5, fun i => k5.frozen i, k6, hb6⟩
def cellsO (s : S5) (k : Nat) : Array Value := (octs (outL s k ++ List.replicate (20 - k) 0)).toArray
theorem cellsO_size (s : S5) (k : Nat) (h : k ≤ 20) : (cellsO s k).size = 20 := by simp [cellsO, octs_length, outL_length]; omega
theorem cellsO_set (s : S5) (k : Nat) (h : k < 20) : (cellsO s k).setIfInBounds k (.int .u8 (outI s k)) = cellsO s (k + 1) := by
  unfold cellsO
  rw [List.setIfInBounds_toArray]
  congr 1
  have hl : (octs (outL s k)).length = k := by rw [octs_length, outL_length]
  rw [← octs_append, List.set_append, if_neg (by omega), hl, show 20 - k = (20 - (k + 1)) + 1 by omega, List.replicate_succ, Nat.sub_self]
  simp [octs, outL]
theorem cellsO_one (s : S5) (k : Nat) : (cellsO s k).all (·.oneCell') = true := by
  rw [Array.all_eq_true]
  intro i hi
  have h : (cellsO s k)[i] ∈ octs (outL s k ++ List.replicate (20 - k) 0) := by
    have : (cellsO s k)[i] ∈ (cellsO s k).toList := by simp
    simpa only [cellsO] using this
  exact octs_one _ h
theorem cellsO_end (s : S5) : cellsO s 20 = (octs (outL s 20)).toArray := by simp [cellsO]
theorem vals_at (s : S5) (k : Nat) (h : k < 20) : s.vals[k / 4]? = some (.int .u32 (s.at (k / 4))) := by
  have : k / 4 = 0 ∨ k / 4 = 1 ∨ k / 4 = 2 ∨ k / 4 = 3 ∨ k / 4 = 4 := by omega
  rcases this with e | e | e | e | e <;> rw [e] <;> simp [S5.vals, S5.at]
theorem Rd.dropAt {w : World} {A : Option Addr} {xs : List Value} (h : Rd w A xs) (k : Nat) : Rd w (A.map fun x => ⟨x.block, x.off + k, none⟩) (xs.drop k) := fun hn => by
  rw [List.length_drop] at hn
  obtain ⟨b, off, rfl, hlt, hcell⟩ := h (by omega)
  refine ⟨b, off + k, rfl, hlt, fun i u hu => ?_⟩
  rw [List.getElem?_drop] at hu
  rw [Nat.add_assoc]
  exact hcell _ u hu
structure SRel (G : Nat) (P : List Int) (h : S5) (wr : World) (k : Nat) (v : Value) (w0 w : World) : Prop where
  ex : ∃ (j : Nat) (A : Option Addr) (c : Nat), v = .slice A k c ∧ k + 64 * j = P.length ∧ k ≤ c ∧ Rd wr A (octs (P.drop (64 * j))) ∧ Blk w G 31 (runs j h P).vals
  low : Below G w0 w
set_option maxHeartbeats 4000000 in
set_option maxRecDepth 100000 in
theorem sum_any (B g : Nat) (bs : List Int) (v : Value) (w : World) (hd : Dig B w g bs v) (hlen : bs.length ≤ 140737488355000) :
    Calls Try.prog 13 #[.pointer (some ⟨g, 0, none⟩)] w (Quiet (.agg (octs (shaI bs)).toArray) w) := by
  obtain ⟨A, c, rfl, hc⟩ := own_slice hd.own
  have hd1 := hd
  have k0 := (Blk.new w 23 zero20).alloc (.cells zero20 23)
  have k1 := Blk.new (w.alloc (.cells zero20 23)) 23 zero20
  rw [show (w.alloc (.cells zero20 23)).heap.size = w.heap.size + 1 by simp] at k1
  have hd2 := (hd.alloc (.cells zero20 23)).alloc (.cells zero20 23)
  have hb2 := ((Below.refl w.heap.size w).alloc (Nat.le_refl _) (.cells zero20 23)).alloc (by simp) (.cells zero20 23)
  have s2 : ((w.alloc (.cells zero20 23)).alloc (.cells zero20 23)).heap.size = w.heap.size + 1 + 1 := by simp
  have hlt := hd.blk.lt
  obtain ⟨n0, hn0⟩ : ∃ n0, (restI bs).length = n0 := ⟨_, rfl⟩
  rw [hn0] at hd2 hc
  have hown := hd2.own
  rw [hn0] at hown
  have hrl := restI_length bs
  rw [hn0] at hrl
  have c0 := hd.blk.cell 0
  have c6 := hd.blk.cell 6
  simp at c0 c6
  rw [hn0] at c6
  have hr2 := Rd.of_own hown
  have HR2 := Lib.hid hr2
  have HD2 := Lib.hid hd2
  have K0 := Lib.hid k0
  have K1 := Lib.hid k1
  have HB2 := Lib.hid hb2
  have HN := Lib.hid hn0
  have HS2 := Lib.hid s2
  have HR0 := Lib.hid hrl
  have hn64 : n0 ≤ 63 := by omega
  clear hr2 hd2 hd hd1 k0 k1 hb2 hn0 s2 hown hrl
  go_enter Try.func13, Try.ntmps13
  go_wp2_with (first
    | (at_builtin; refine wpList_app tBytes rfl (.const (.slice none 0 0)) (.tmp 21) rfl (w.heap.size + 1 + 1) (.slice none 0 0) 0 [] rfl ⟨rfl, .inl ⟨rfl, rfl⟩⟩ A n0 c (octs (restI bs)) rfl (by rw [octs_length]; exact HN.out.symm) HR2.out octs_one (by omega) (by unfold maxLen; omega) (by simp) ?_; intro v3 w3 o3 hg3 hb3; rw [Nat.zero_add, List.nil_append] at o3; obtain ⟨A3, cc3, hv3, hc3⟩ := own_slice o3; subst hv3; have HO3 := Lib.hid o3; have HB3 := Lib.hid hb3; clear o3 hg3 hb3)
    | (at_builtin; refine wpList_app1 tBytes rfl (.tmp 22) (.tmp 23) rfl (w.heap.size + 1 + 1) (.slice A3 n0 cc3) n0 (octs (restI bs)) rfl HO3.out (.int .u8 128) rfl _ rfl (by first | rfl | simp) (by omega) (by unfold maxLen; omega) (by have h := HB3.out.size; simp at h; omega) ?_; intro v4 w4 o4 hg4 hb4; rw [octs_snoc] at o4; obtain ⟨A4, cc4, hv4, hc4⟩ := own_slice o4; subst hv4; have HO4 := Lib.hid o4; have HB4 := Lib.hid hb4; clear o4 hg4 hb4))
  have hb4 : Below (w.heap.size + 1 + 1) ((w.alloc (.cells zero20 23)).alloc (.cells zero20 23)) w4 := HB3.out.trans HB4.out
  generalize hW : (w.alloc (.cells zero20 23)).alloc (.cells zero20 23) = W at K0 K1 HB2 HD2 hb4
  obtain ⟨B2, hB2⟩ : ∃ B2, w.heap.size + 1 + 1 = B2 := ⟨_, rfl⟩
  rw [hB2] at hb4 HO4
  obtain ⟨Z, hZ⟩ : ∃ Z, padZ bs.length = Z := ⟨_, rfl⟩
  have hZ1 : (n0 + 1 + Z) % 64 = 56 ∧ Z ≤ 63 ∧ ∀ z, z < Z → (n0 + 1 + z) % 64 ≠ 56 := by
    have := HR0.out
    rw [← hZ]
    unfold padZ
    refine ⟨by omega, by omega, fun z hz => by omega⟩
  have HZ1 := Lib.hid hZ1
  have HZ := Lib.hid hZ
  have HB4' := Lib.hid hb4
  have HWS := Lib.hid (show W.heap.size = B2 by rw [← hW, ← hB2]; simp)
  have HBB := Lib.hid hB2
  clear hZ1 hZ hb4 HB3 HB4 HR2 HS2 hW hB2 c6 c0
  go_loopg [4] Z (fun k v wr => ∃ z, k + z = Z ∧ wr.ownsRow B2 5 1 v (n0 + 1 + z) (octs (restI bs ++ 128 :: List.replicate z 0)) ∧ Below B2 W wr)
  case atStart => exact ⟨0, by omega, HO4.out, HB4'.out⟩
  case round =>
    obtain ⟨z, hz, hown, hb⟩ := hrel
    have hz1 := HZ1.out
    obtain ⟨L, hL⟩ : ∃ L, n0 + 1 + z = L := ⟨_, rfl⟩
    have hL2 : L + 1 = n0 + 1 + (z + 1) := by omega
    have hL3 : L ≤ 128 := by omega
    rw [hL] at hown
    obtain ⟨A5, c5, rfl, hc5⟩ := own_slice hown
    by_cases hgk : gk = 0
    · obtain rfl : z = Z := by omega
      have h56 : (L : Int) % 64 = 56 := by have := hz1.1; omega
      have hQl : (restI bs ++ 128 :: List.replicate z 0).length = L := by simp only [List.length_append, List.length_cons, List.length_replicate]; have := HN.out; omega
      have hP : (restI bs ++ 128 :: List.replicate z 0) ++ lenB (bitsI bs.length) 8 = restI bs ++ padI bs.length := by unfold padI; rw [HZ.out]; simp
      obtain ⟨Q, hQ⟩ : ∃ Q, restI bs ++ 128 :: List.replicate z 0 = Q := ⟨_, rfl⟩
      rw [hQ] at hown hQl hP
      obtain ⟨M, hM⟩ : ∃ M, bs.length = M := ⟨_, rfl⟩
      rw [hM] at hP hlen
      have hbi : bitsI M = (M : Int) * 8 := by unfold bitsI; omega
      have HD2' := HD2.out
      have hblk := HD2'.blk
      rw [hM] at hblk
      have hgB : g < B2 := by have := HBB.out; omega
      have HBLK := Lib.hid hblk
      have HOW := Lib.hid hown
      have HB5 := Lib.hid hb
      have HPP := Lib.hid hP
      have HQL := Lib.hid hQl
      have HBI := Lib.hid hbi
      have HMM := Lib.hid hM
      have hL64 : L % 64 = 56 := by omega
      have HL64 := Lib.hid hL64
      clear hown hb hP hQl hbi hQ hz1 hz HZ1 HZ hL2 hL HD2' hblk hM hL64 hgk
      go_wp2_with fail
      clear h56
      go_loopw [4, 32] (fun v i wr => ∃ k : Nat, k ≤ 8 ∧ i = .int .i64 k ∧ wr.ownsRow B2 5 1 v (L + k) (octs (Q ++ lenB (bitsI M) k)) ∧ Below B2 W wr) (fun _ i _ => 8 - (intOf i).toNat)
      case atStart => exact ⟨0, by omega, rfl, by simpa [lenB] using HOW.out, HB5.out⟩
      case round =>
        obtain ⟨k, hk, rfl, hown, hb⟩ := hrel
        obtain ⟨A6, c6, rfl, hc6⟩ := own_slice hown
        by_cases hk8 : k < 8
        · have c7 := (HBLK.out.low hb hgB).cell 7
          simp at c7
          have hs0 : (0 : Int) ≤ 56 - 8 * (k : Int) := by omega
          have hoc : octs (Q ++ lenB (bitsI M) k) ++ [.int .u8 ((M : Int) * 8 / 2 ^ (56 - 8 * k) % 256)] = octs (Q ++ lenB (bitsI M) (k + 1)) := by
            rw [octs_snoc, List.append_assoc]
            simp only [lenB]
            rw [HBI.out]
          have HOC := Lib.hid hoc
          have HO6 := Lib.hid hown
          have HB6 := Lib.hid hb
          obtain ⟨L2, hL2⟩ : ∃ L2, L + k = L2 := ⟨_, rfl⟩
          rw [hL2] at HO6 hc6 ⊢
          have HL2 := Lib.hid hL2
          have hL2b : L2 ≤ 200 := by omega
          clear hoc hown hb hL2
          go_wp2_with (at_builtin; refine wpList_app1 tBytes rfl (.tmp 35) (.tmp 47) rfl B2 (.slice A6 L2 c6) L2 _ rfl HO6.out (.int .u8 ((M : Int) * 8 / 2 ^ (56 - 8 * k) % 256)) rfl _ rfl (by first | rfl | simp) (by omega) (by unfold maxLen; omega) (by have h := HB6.out.size; have h2 := HWS.out; omega) ?_; intro v6 w6 o6 hg6 hb6)
          go_roundw
          case rel => exact ⟨k + 1, by omega, by go_num, by rw [HOC.out, ← HL2.out] at o6; exact o6, HB6.out.trans hb6⟩
          case measure => simp [intOf]; omega
        · have hk8' : k = 8 := by omega
          subst hk8'
          obtain ⟨w8, rfl⟩ : ∃ w8, w8 = wr := ⟨wr, rfl⟩
          rw [HPP.out] at hown
          obtain ⟨P, hPe⟩ : ∃ P, restI bs ++ padI M = P := ⟨_, rfl⟩
          have hPl : P.length = L + 8 := by have := hown.1; rw [octs_length, hPe] at this; omega
          have hPo : Oct P := by rw [← hPe]; exact (HD2.out.oct.drop _).append (padI_oct M)
          have hend := shaI_end bs
          rw [HMM.out, hPe] at hend
          have hPl2 : (restI bs).length + (padI M).length = P.length := by rw [← hPe, List.length_append]
          rw [hPl2] at hend
          rw [hPe] at hown
          obtain ⟨H, hH⟩ : ∃ H, hasI bs = H := ⟨_, rfl⟩
          rw [hH] at hend
          have hbw := HBLK.out.low hb hgB
          rw [hH] at hbw
          obtain ⟨Ha, Hb, Hc, Hd, He⟩ := H
          simp only at hbw
          have c1 := hbw.cell 1
          have c2 := hbw.cell 2
          have c3 := hbw.cell 3
          have c4 := hbw.cell 4
          have c5' := hbw.cell 5
          simp at c1 c2 c3 c4 c5'
          have hrd := Rd.of_own hown
          have hk6 := Blk.new w8 31 #[.int .u32 Ha, .int .u32 Hb, .int .u32 Hc, .int .u32 Hd, .int .u32 He]
          have hlb : B2 ≤ w8.heap.size := by have := hb.size; have := HWS.out; omega
          have HPL := Lib.hid hPl
          have HPO := Lib.hid hPo
          have HEND := Lib.hid (show ∀ n, n = P.length / 64 → shaI bs = outL (runs n ⟨Ha, Hb, Hc, Hd, He⟩ P) 20 from fun n hn => by rw [hn]; exact hend)
          have HRD := Lib.hid hrd
          have HK6 := Lib.hid hk6
          have HB6 := Lib.hid hb
          have HLB := Lib.hid hlb
          have hL64 : L % 64 = 56 := HL64.out
          clear hPl hPo hend hPl2 hown hbw hrd hk6 hPe hH hb hlb hL64
          go_wp2_with (refine wpList_store_row rfl 31 (.tmp 6) (.tmp 53) rfl w8.heap.size #[.int .u32 Ha, .int .u32 Hb, .int .u32 Hc, .int .u32 Hd, .int .u32 He] rfl rfl 31 _ (heap_alloc_new _ _) size31 rfl rfl ?_; rw [World.setRow_alloc_new])
          generalize hw7 : w8.alloc (.cells #[.int .u32 Ha, .int .u32 Hb, .int .u32 Hc, .int .u32 Hd, .int .u32 He] 31) = w7 at HK6 ⊢
          have hb7 : Below w8.heap.size w8 w7 := by rw [← hw7]; exact (Below.refl _ _).alloc (Nat.le_refl _) _
          have HB7 := Lib.hid hb7
          obtain ⟨G, hG⟩ : ∃ G, w8.heap.size = G := ⟨_, rfl⟩
          rw [hG] at HK6 HB7 HLB ⊢
          have HGG := Lib.hid hG
          clear hw7 hb7 hG c1 c2 c3 c4 c5'
          go_loopg [4] (L + 8) (fun k v wz => SRel G P ⟨Ha, Hb, Hc, Hd, He⟩ w8 k v w7 wz)
          case atStart => exact ⟨⟨0, A6, c6, rfl, by have := HPL.out; omega, by omega, by simpa using HRD.out, HK6.out⟩, Below.refl _ _⟩
          case round =>
            obtain ⟨⟨j, A7, cc7, rfl, hk, hkc, hrd, hbk⟩, hbe⟩ := hrel
            have hPl := HPL.out
            have hL6 := HL64.out
            by_cases hg0 : gk = 0
            · subst hg0
              obtain ⟨w10, rfl⟩ : ∃ w10, w10 = wr := ⟨wr, rfl⟩
              have hj : j = P.length / 64 := by omega
              have hend := HEND.out j hj
              obtain ⟨s, hs⟩ : ∃ s, runs j ⟨Ha, Hb, Hc, Hd, He⟩ P = s := ⟨_, rfl⟩
              rw [hs] at hbk hend
              have hW : Below B2 W w10 := HB6.out.trans ((HB7.out.trans hbe).mono HLB.out)
              have hBB := HBB.out
              have kO : Blk w10 (w.heap.size + 1) 23 (cellsO s 0) := K1.out.low hW (by omega)
              have kR := K0.out.low hW (by omega)
              have hne : G ≠ w.heap.size + 1 := by have := HLB.out; omega
              have HEE := Lib.hid (show ∀ n, n = 20 → shaI bs = outL s n from fun n hn => by rw [hn]; exact hend)
              have HKO := Lib.hid kO
              have HKR := Lib.hid kR
              have HHW := Lib.hid hW
              have HBK := Lib.hid hbk
              clear kO kR hW hbk hend hs hrd hbe hPl hL6 hBB
              go_wp2_with fail
              go_loopw [63] (fun i wq => ∃ k : Nat, k ≤ 20 ∧ i = .int .i64 k ∧ Blk wq (w.heap.size + 1) 23 (cellsO s k) ∧ Frm (fun b => b = w.heap.size + 1) w10 wq) (fun i _ => 20 - (intOf i).toNat)
              case atStart => exact ⟨0, by omega, rfl, HKO.out, Frm.refl _ _⟩
              case round =>
                obtain ⟨k, hk20, rfl, hbo, hfo⟩ := hrel
                by_cases hlt20 : k < 20
                · have hgc := ((HBK.out.frm hfo hne).cell (k / 4)).trans (vals_at s k hlt20)
                  have hset := hbo.set k (.int .u8 (outI s k))
                  rw [cellsO_set s k hlt20] at hset
                  have hfo2 : Frm (fun b => b = w.heap.size + 1) w10 (wr.setCell ⟨w.heap.size + 1, k, none⟩ (.int .u8 (outI s k))) := hfo.setCell (p := ⟨w.heap.size + 1, k, none⟩) (fun _ => rfl) _
                  have hfz := hbo.frozen k
                  have hcl : wr.cell? ⟨w.heap.size + 1, k, none⟩ = some ((cellsO s k)[k]'(by rw [cellsO_size s k hk20]; exact hlt20)) := by rw [hbo.cell]; simp
                  have hoi : outI s k = s.at (k / 4) / 2 ^ (24 - 8 * (k % 4)) % 256 := rfl
                  generalize (cellsO s k)[k]'(by rw [cellsO_size s k hk20]; exact hlt20) = old at hcl
                  rw [hoi] at hset hfo2
                  generalize s.at (k / 4) = x at *
                  have hq0 : ((k : Int) / 4).toNat = k / 4 := by omega
                  have hq1 : (0 : Int) ≤ (k : Int) / 4 := by omega
                  have hq2 : (k : Int) / 4 < 5 := by omega
                  have hs0 : (0 : Int) ≤ 24 - 8 * ((k : Int) % 4) := by omega
                  have HSET := Lib.hid hset
                  have HFO := Lib.hid hfo2
                  clear hset hfo2 hbo hfo hoi
                  go_wp2_with fail
                  go_roundw
                  case rel => exact ⟨k + 1, by omega, by go_num, HSET.out, HFO.out⟩
                  case measure => simp [intOf]; omega
                · obtain rfl : k = 20 := by omega
                  have hkr := HKR.out.frm hfo (show ¬ w.heap.size = w.heap.size + 1 by omega)
                  have hbw : Below w.heap.size w wr := by
                    have h1 : Below w.heap.size w w10 := HB2.out.trans (HHW.out.mono (by have := HBB.out; omega))
                    exact h1.trans ⟨hfo.os, hfo.tape, hfo.output, hfo.size, fun b hb => hfo.block b (by have := h1.size; omega) (by omega)⟩
                  have hsz : (Try.prog.info? 23).map (·.size) = some (cellsO s 20).size := by rw [cellsO_size s 20 (Nat.le_refl _)]; exact size23
                  have hss : zero20.size = (cellsO s 20).size := by rw [cellsO_size s 20 (Nat.le_refl _)]; rfl
                  have hone := cellsO_one s 20
                  obtain ⟨hk2, hb2⟩ := row2 (cs' := cellsO s 20) hkr hbw (Nat.le_refl _)
                  have hfin := HEE.out 20 rfl
                  have hce := cellsO_end s
                  rw [← hfin] at hce
                  generalize cellsO s 20 = fin at *
                  subst hce
                  have HBO := Lib.hid hbo
                  have HKR2 := Lib.hid hkr
                  have HSZ := Lib.hid hsz
                  have HSS := Lib.hid hss
                  have HONE := Lib.hid hone
                  have HK2 := Lib.hid hk2
                  have HBB2 := Lib.hid hb2
                  clear hbo hkr hsz hss hone hk2 hb2 hfo hbw hfin
                  go_wp2_with (first | (refine wpList_load_row rfl 23 (.tmp 3) rfl _ rfl 23 _ _ _ HBO.out Try.underlying23 rfl HSZ.out ?_) | (refine wpList_store_row rfl 23 (.tmp 2) (.tmp 79) rfl w.heap.size _ rfl rfl 23 _ HKR2.out HSZ.out HSS.out HONE.out ?_))
                  exact bodyPost_ret (v := .agg _) (results_cell_row rfl _ _ w.heap.size 23 _ _ _ rfl HK2.out Try.underlying23 rfl HSZ.out) rfl ⟨rfl, HBB2.out⟩
            · have hg64 : 64 ≤ gk := by omega
              obtain ⟨s, hs⟩ : ∃ s, runs j ⟨Ha, Hb, Hc, Hd, He⟩ P = s := ⟨_, rfl⟩
              rw [hs] at hbk
              have hsn := runs_snoc j ⟨Ha, Hb, Hc, Hd, He⟩ P
              rw [hs] at hsn
              obtain ⟨sa, sb, sc, sd, se⟩ := s
              simp only [S5.vals] at hbk
              have hb8 : Below w8.heap.size w8 wr := by rw [HGG.out]; exact HB7.out.trans hbe
              have hbr : Rd wr.drew A7 (octs ((P.drop (64 * j)).take 64)) := by
                rw [← octs_take]
                exact ((hrd.below hb8 rfl).take 64)
              obtain ⟨s2, hs2⟩ : ∃ s2, blockI ⟨sa, sb, sc, sd, se⟩ ((P.drop (64 * j)).take 64) = s2 := ⟨_, rfl⟩
              have hbl := block_any ⟨sa, sb, sc, sd, se⟩ _ A7 cc7 wr.drew (by rw [List.length_take, List.length_drop]; omega) ((HPO.out.drop (64 * j)).take 64) hbr (by omega)
              rw [hs2] at hsn hbl
              obtain ⟨x1, x2, x3, x4, x5⟩ := s2
              simp only [S5.vals] at hbl
              have c1 := hbk.cell 0
              have c2 := hbk.cell 1
              have c3 := hbk.cell 2
              have c4 := hbk.cell 3
              have c5' := hbk.cell 4
              simp at c1 c2 c3 c4 c5'
              have hg64' : (64 : Int) ≤ gk := by omega
              have hc64' : (64 : Int) ≤ cc7 := by omega
              have HBL := Lib.hid hbl
              have HSN := Lib.hid hsn
              have HBK := Lib.hid hbk
              have HBE := Lib.hid hbe
              have HRD7 := Lib.hid hrd
              have HK7 := Lib.hid hk
              clear hbl hsn hbk hbe hbr hs hs2 hrd hk hb8 hPl hL6
              go_wp2_with fail
              refine wp_region_held_drew (S := fun w' => True) (by kernel_rfl) trivial (fun hHeld => ?_)
              refine wpAnyH_takeD (i := 1) (d := 60) (oi := _) (v := ?_) rfl rfl (by kernel_rfl) (by kernel_rfl) (by kernel_rfl) (fun _ _ _ h => h) (Or.inl ⟨by rfl, ?_⟩) (by assumption) ?_
              rotate_left
              · (intro w hSw; (try dsimp only at hSw); go_simp) <;> with_reducible rfl
              simp only [Act.put, List.setIfInBounds_toArray, List.set_cons_zero, List.set_cons_succ]
              refine wpAnyH_takeD (i := 2) (d := 61) (oi := _) (v := ?_) rfl rfl (by kernel_rfl) (by kernel_rfl) (by kernel_rfl) (fun _ _ _ h => h) (Or.inl ⟨by rfl, ?_⟩) (by assumption) ?_
              rotate_left
              · (intro w hSw; (try dsimp only at hSw); go_simp) <;> with_reducible rfl
              simp only [Act.put, List.setIfInBounds_toArray, List.set_cons_zero, List.set_cons_succ]
              refine wpAnyH_ready (rs := [0]) (by kernel_rfl) (by simp) ?_
              refine AllReadyH.cons (o := _) rfl (fun K hK => ?_) AllReadyH.nil
              go_simp
              refine hK.out _ _ trivial (fun hHeld => ?_)
              clear hK K
              try simp only [Act.put, List.setIfInBounds_toArray, List.set_cons_zero, List.set_cons_succ]
              refine wpAnyH_ready (rs := [3]) (by kernel_rfl) (by simp) ?_
              refine AllReadyH.cons (o := _) rfl (fun K hK => ?_) AllReadyH.nil
              go_simp
              refine (HBL.out).mono ?_
              rintro e w5 ⟨rfl, hb5⟩
              obtain ⟨e0, e1, e2, e3, e4, hfz, hblk5, hf5⟩ := su_call (x1 := x1) (x2 := x2) (x3 := x3) (x4 := x4) (x5 := x5) HBK.out HBE.out hb5
              have q0 := hfz 0
              have q1 := hfz 1
              have q2 := hfz 2
              have q3 := hfz 3
              have q4 := hfz 4
              go_wp2_with fail
              refine hK.out _ _ trivial (fun hHeld => ?_)
              clear hK K
              try simp only [Act.put, List.setIfInBounds_toArray, List.set_cons_zero, List.set_cons_succ]
              refine wpAnyH_ready (rs := [4]) (by kernel_rfl) (by simp) ?_
              refine AllReadyH.cons (o := _) rfl (fun K hK => ?_) AllReadyH.nil
              go_simp
              refine hK.out _ _ trivial (fun hHeld => ?_)
              clear hK K
              try simp only [Act.put, List.setIfInBounds_toArray, List.set_cons_zero, List.set_cons_succ]
              refine wpAnyH_done (by kernel_rfl) ?_ _
              generalize (((((w5.setCell ⟨G, 0, none⟩ (.int .u32 x1)).setCell ⟨G, 1, none⟩ (.int .u32 x2)).setCell ⟨G, 2, none⟩ (.int .u32 x3)).setCell ⟨G, 3, none⟩ (.int .u32 x4)).setCell ⟨G, 4, none⟩ (.int .u32 x5)) = w9 at hblk5 hf5 ⊢
              have hrn : runs (j + 1) ⟨Ha, Hb, Hc, Hd, He⟩ P = ⟨x1, x2, x3, x4, x5⟩ := HSN.out
              have hbn : Blk w9 G 31 (runs (j + 1) ⟨Ha, Hb, Hc, Hd, He⟩ P).vals := by rw [hrn]; exact hblk5
              have HBN := Lib.hid (show ∀ n, n = j + 1 → Blk w9 G 31 (runs n ⟨Ha, Hb, Hc, Hd, He⟩ P).vals from fun n hn => by rw [hn]; exact hbn)
              have HFN := Lib.hid hf5
              clear hblk5 hf5 hrn hbn HSN HBK HBE HBL c1 c2 c3 c4 c5' e0 e1 e2 e3 e4 q0 q1 q2 q3 q4 hfz hb5
              by_cases hc64 : cc7 = 64
              · subst hc64
                obtain rfl : gk = 64 := by omega
                go_wp2_with fail
                go_roundg 0
                case measure => omega
                case rel =>
                  refine ⟨⟨j + 1, A7, 0, rfl, by have := HK7.out; omega, Nat.le_refl _, ?_, HBN.out _ rfl⟩, HFN.out⟩
                  rw [List.drop_eq_nil_of_le (by have := HK7.out; omega)]
                  exact Rd.nil _ _
              · go_wp2_with fail
                go_roundg (gk - 64)
                case measure => omega
                case rel =>
                  refine ⟨⟨j + 1, _, _, rfl, by have := HK7.out; omega, by omega, ?_, HBN.out _ rfl⟩, HFN.out⟩
                  have := HRD7.out.dropAt 64
                  rw [octs_drop, List.drop_drop, show 64 * j + 64 = 64 * (j + 1) by omega] at this
                  exact this
    · have hne : ¬ (L : Int) % 64 = 56 := by have := hz1.2.2 z (by omega); omega
      have hoc : octs (restI bs ++ 128 :: List.replicate z 0) ++ [.int .u8 0] = octs (restI bs ++ 128 :: List.replicate (z + 1) 0) := by
        rw [octs_snoc, List.replicate_succ', List.append_assoc, List.cons_append]
      have HOC := Lib.hid hoc
      have HOW := Lib.hid hown
      have HB5 := Lib.hid hb
      have HLL := Lib.hid hL2
      have HHZ := Lib.hid hz
      clear hoc hown hb hL2 hz hz1 hL
      go_wp2_with (at_builtin; refine wpList_app1 tBytes rfl (.tmp 29) (.tmp 30) rfl B2 (.slice A5 L c5) L _ rfl HOW.out (.int .u8 0) rfl _ rfl (by first | rfl | simp) (by omega) (by unfold maxLen; omega) (by have h := HB5.out.size; have h2 := HWS.out; omega) ?_; intro v6 w6 o6 hg6 hb6)
      go_roundg (gk - 1)
      case measure => omega
      case rel => exact ⟨z + 1, by have := HHZ.out; omega, by rw [HOC.out, HLL.out] at o6; exact o6, HB5.out.trans hb6⟩
end Go.Proofs.Ytgkgdbjdmmieaaa
