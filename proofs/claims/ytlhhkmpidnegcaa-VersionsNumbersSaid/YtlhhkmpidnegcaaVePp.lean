/- PutPieces: walks. Condition: none. -/
import Derived.Test.YtlhhkmpidnegcaaVeRp
namespace Go.Proofs.Ytlhhkmpidnegcaa
open Go.RowKit Go.WideShapes
set_option linter.unusedVariables false
set_option linter.unusedSimpArgs false
theorem wrap_u32 {x : Int} (h0 : 0 ≤ x) (h1 : x ≤ 4294967295) : IntKind.u32.wrap x = x := by
  have : IntKind.u32.wrap x = x % 4294967296 := by simp [IntKind.wrap, IntKind.bits, IntKind.signed]
  omega
def rgt (p : Pc) : Bool := rightP p.s p.b p.a
set_option maxRecDepth 100000 in
set_option maxHeartbeats 4000000 in
theorem not60 (p : Pc) (hp : p.ok) (w : World) : Calls Try.prog 60 #[p.agg] w (Quiet (.bool (!rgt p)) w) := by
  have hb0 := (Below.refl w.heap.size w).alloc (Nat.le_refl _) (.cells p.cells.toArray 52)
  have hk := Blk.new w 52 p.cells.toArray
  have hrg : (w.alloc (.cells p.cells.toArray 52)).rangeAt w.heap.size 0 p.cells := fun j y hy => by
    rw [Nat.zero_add, hk.cell, List.getElem?_toArray]
    exact hy
  have hs52 : (Try.prog.info? 52).map (·.size) = some p.cells.length := by rw [Pc.cells_length hp]; exact size39
  have hr := right61 p hp (w.alloc (.cells p.cells.toArray 52))
  have HB0 := Lib.hid hb0
  have HRG := Lib.hid hrg
  have HS52 := Lib.hid hs52
  have hv : rgt p = rightP p.s p.b p.a := rfl
  rw [← hv] at hr
  obtain ⟨r, hr'⟩ : ∃ r, rgt p = r := ⟨_, rfl⟩
  rw [hr'] at hr ⊢
  unfold Pc.agg at hr ⊢
  have HR := Lib.hid hr
  clear hb0 hk hrg hs52 hr hv hr' hp
  generalize p.cells = cs at *
  go_enter Try.func60, Try.ntmps60
  go_wp2_with (refine wpList_load_mid rfl 52 (.tmp 1) rfl w.heap.size 0 rfl cs _ HRG.out Try.underlying52 rfl HS52.out ?_)
  refine (HR.out).mono ?_
  rintro e w5 ⟨rfl, hb5⟩
  have HB5 := Lib.hid (HB0.out.trans (hb5.mono HB0.out.size))
  clear hb5
  go_wp2
  go_ret
  exact ⟨rfl, HB5.out⟩
theorem pc_range {w : World} {A : Option Addr} {pcs : List Pc} (h : Rd w A (flatP pcs)) (oks : ∀ p ∈ pcs, p.ok) {k : Nat} {p : Pc} (hp : pcs[k]? = some p) : ∃ b o, A = some ⟨b, o, none⟩ ∧ b < w.heap.size ∧ w.rangeAt b (o + k * 23) p.cells := by
  have hpo := oks p (List.mem_of_getElem? hp)
  obtain ⟨bp, op, rfl, hblt, hcl⟩ := h (by
    have h1 := flatP_at pcs oks k p hp 20 _ (Pc.cell_s hpo)
    have h2 := (List.getElem?_eq_some_iff.1 h1).1
    omega)
  refine ⟨bp, op, rfl, hblt, fun j y hy => ?_⟩
  have h1 := flatP_at pcs oks k p hp j y hy
  rw [show op + k * 23 + j = op + (23 * k + j) by omega]
  exact hcl _ _ h1
set_option maxRecDepth 100000 in
set_option maxHeartbeats 4000000 in
theorem idx79 (pcs : List Pc) (A : Option Addr) (m c : Nat) (w : World) (hn : pcs.length = m) (hr : Rd w A (flatP pcs)) (hok : ∀ p ∈ pcs, p.ok) (hl : m ≤ 1000000000) :
    Calls Try.prog 79 #[.slice A m c, .func (.func 60) #[] #[]] w (IsIdxQ (pcs.any fun p => !rgt p) w) := by
  have HR := Lib.hid hr
  have HN := Lib.hid hn
  have HOK := Lib.hid hok
  clear hr hn hok
  go_enter Try.func79, Try.ntmps79
  go_wp2_with fail
  go_loopw [8] (fun i wr => ∃ k : Nat, k ≤ m ∧ i = .int .i64 k ∧ (pcs.take k).any (fun p => !rgt p) = false ∧ Below w.heap.size w wr) (fun i _ => m - (intOf i).toNat)
  case atStart => exact ⟨0, by omega, rfl, rfl, Below.refl _ _⟩
  case round =>
    obtain ⟨k, hk, rfl, hno, hlow⟩ := hrel
    have HNO := Lib.hid hno
    have HLOW := Lib.hid hlow
    clear hno hlow
    by_cases hlt : k < m
    · obtain ⟨p, hp⟩ : ∃ p, pcs[k]? = some p := ⟨_, List.getElem?_eq_getElem (by rw [HN.out]; exact hlt)⟩
      obtain ⟨b1, o1, rfl, hblt, hrg⟩ := pc_range (HR.out.below HLOW.out rfl) HOK.out hp
      have hpo := HOK.out p (List.mem_of_getElem? hp)
      have hs52 : (Try.prog.info? 52).map (·.size) = some p.cells.length := by rw [Pc.cells_length hpo]; exact size39
      have hca := not60 p hpo wr
      have HP := Lib.hid hp
      have HRG := Lib.hid hrg
      have HS52 := Lib.hid hs52
      have hkn : (k : Int) < (m : Int) := by omega
      unfold Pc.agg at hca
      clear hrg hs52 hpo hp
      obtain ⟨cs, hcs⟩ : ∃ cs, p.cells = cs := ⟨_, rfl⟩
      rw [hcs] at HRG HS52 hca
      clear hcs
      cases hb : rgt p with
      | false =>
        rw [hb] at hca
        have HB := Lib.hid hb
        have HCA := Lib.hid (show Calls Try.prog 60 #[.agg cs.toArray] wr (Quiet (.bool true) wr) from hca)
        clear hb hca
        go_wp2_with (refine wpList_load_mid rfl 52 (.tmp 14) rfl b1 (o1 + k * 23) rfl cs _ HRG.out Try.underlying52 rfl HS52.out ?_)
        refine (HCA.out).mono ?_
        rintro e w1 ⟨rfl, hb1⟩
        go_wp2
        go_ret
        refine ⟨⟨k, rfl, ?_⟩, HLOW.out.trans (hb1.mono HLOW.out.size)⟩
        rw [show (pcs.any fun p => !rgt p) = true from List.any_eq_true.2 ⟨_, List.mem_of_getElem? HP.out, by rw [HB.out]; rfl⟩]
        simp
      | true =>
        rw [hb] at hca
        have HB := Lib.hid hb
        have HCA := Lib.hid (show Calls Try.prog 60 #[.agg cs.toArray] wr (Quiet (.bool false) wr) from hca)
        clear hb hca
        go_wp2_with (refine wpList_load_mid rfl 52 (.tmp 14) rfl b1 (o1 + k * 23) rfl cs _ HRG.out Try.underlying52 rfl HS52.out ?_)
        refine (HCA.out).mono ?_
        rintro e w1 ⟨rfl, hb1⟩
        have HL1 := Lib.hid (HLOW.out.trans (hb1.mono HLOW.out.size))
        clear hb1
        go_wp2
        go_roundw
        case rel => exact ⟨k + 1, by omega, by go_num, by rw [List.take_add_one, HP.out, List.any_append, HNO.out]; simp [HB.out], HL1.out⟩
        case measure => simp [intOf]; omega
    · obtain rfl : k = m := by omega
      go_wp2
      go_ret
      refine ⟨⟨-1, rfl, ?_⟩, HLOW.out⟩
      have := HNO.out
      rw [List.take_of_length_le (by rw [HN.out]; exact Nat.le_refl _)] at this
      rw [this]
      rfl
theorem has59 (pcs : List Pc) (A : Option Addr) (m c : Nat) (w : World) (hn : pcs.length = m) (hr : Rd w A (flatP pcs)) (hok : ∀ p ∈ pcs, p.ok) (hl : m ≤ 1000000000) :
    Calls Try.prog 59 #[.slice A m c, .func (.func 60) #[] #[]] w (Quiet (.bool (pcs.any fun p => !rgt p)) w) := by
  have h := idx79 pcs A m c w hn hr hok hl
  have HI := Lib.hid h
  clear h hn hr
  obtain ⟨r, hr⟩ : ∃ r, (pcs.any fun p => !rgt p) = r := ⟨_, rfl⟩
  rw [hr] at HI ⊢
  clear hr hok
  go_enter Try.func59, Try.ntmps59
  go_wp2_with fail
  refine (HI.out).mono ?_
  rintro e w1 ⟨⟨q, rfl, hq⟩, hb1⟩
  go_wp2
  go_ret
  exact ⟨rfl, hb1⟩
def pieceB (p : Pc) : List Int := p.h ++ [p.s / 256, p.s % 256] ++ (beI p.b 4 ++ beI p.a 4)
def putP (pcs : List Pc) : Int × List Int :=
  if (pcs.any fun p => !rgt p) = true then (2, []) else if 2184 < pcs.length then (3, []) else (0, beI (pcs.length : Int) 2 ++ pcs.flatMap pieceB)
theorem pieceB_length {p : Pc} (hp : p.ok) : (pieceB p).length = 30 := by
  unfold pieceB
  rw [List.length_append, List.length_append, List.length_append, beI_length, beI_length, hp.h.len]
  rfl
theorem step_appB {P : Program} {t e : TypeId} {z : Value} {bytes : Nat} {ops : Array Oper} {o : Oper} {a : Act} {w : World} {K : Act → World → Prop} {Q : Exit → Act → World → Prop} {E : Prop} (T : SlT P t e z bytes) (hgd : Region.wanted o (yielded ops a.tmps) = true) (s x : Operand)
    (ho : o.op = .call { callee := .builtin .append, args := #[s, x], argTypes := #[t, t] })
    (base : Nat) (v : Value) (n : Nat) (xs : List Value) (hs : a.eval s = v) (hown : w.ownsRow base e 1 v n xs)
    (A : Option Addr) (m c : Nat) (news : List Value) (hx : a.eval x = .slice A m c) (hm : m = news.length) (hr : Rd w A news) (h1 : ∀ u ∈ news, u.oneCell' = true)
    (hby : (n + m) * bytes ≤ 140737488355328) (h63 : n + m ≤ maxLen) (hbase : base ≤ w.heap.size)
    (h : ∀ v' w', w'.ownsRow base e 1 v' (n + m) (xs ++ news) → w.grownBy w' v.ownBlock → Below base w w' → K (a.put o.dst v') w') :
    if Region.wanted o (yielded ops a.tmps) = true then Oper.wp P o a w K Q else E := by
  subst hm
  obtain ⟨v', w', hrun, h2, h3, h4⟩ := run_app T w o.type base v n xs hown A c news hr h1 hby h63 hbase
  rw [if_pos hgd]
  unfold Oper.wp execOp
  simp only [ho, resolve, invoke, builtin, Sem.run_bind, Sem.run_pure, Result.andThen_ok, List.map_toArray, List.map_cons, List.map_nil, hs, hx, hrun]
  exact h v' w' h2 h3 h4
set_option maxRecDepth 100000 in
set_option maxHeartbeats 40000000 in
theorem putP_any (pcs : List Pc) (A : Option Addr) (m c : Nat) (w : World) (hn : pcs.length = m) (hr : Rd w A (flatP pcs)) (hok : ∀ p ∈ pcs, p.ok) (hl : m ≤ 1000000000) : Calls Try.prog 27 #[.slice A m c] w (PutE (putP pcs) w) := by
  have hh := has59 pcs A m c w hn hr hok hl
  have HH := Lib.hid hh
  clear hh
  cases hany : (pcs.any fun p => !rgt p) with
  | true =>
    rw [hany] at HH
    have HP := Lib.hid (show putP pcs = (2, []) by unfold putP; rw [if_pos hany])
    clear hany hn hr hok
    go_enter Try.func27, Try.ntmps27
    go_wp2_with fail
    refine (HH.out).mono ?_
    rintro e w1 ⟨rfl, hb1⟩
    go_wp2
    go_ret2
    exact PutE.no (x := 2) HP.out (by decide) hb1
  | false =>
    rw [hany] at HH
    have hall : ∀ p ∈ pcs, rgt p = true := fun p hp => by
      have := List.any_eq_false.1 hany p hp
      simpa using this
    by_cases hbig : 2184 < m
    · have d1 : decide ((2184 : Int) < (m : Int)) = true := decide_eq_true (by omega)
      have HP := Lib.hid (show putP pcs = (3, []) by unfold putP; rw [if_neg (by rw [hany]; decide), if_pos (by omega)])
      clear hany hn hr hok hall hbig
      go_enter Try.func27, Try.ntmps27
      go_wp2_with fail
      refine (HH.out).mono ?_
      rintro e w1 ⟨rfl, hb1⟩
      go_wp2
      go_ret2
      exact PutE.no (x := 3) HP.out (by decide) hb1
    · have d1 : decide ((2184 : Int) < (m : Int)) = false := decide_eq_false (by omega)
      have hm2 : m ≤ 2184 := by omega
      have HP := Lib.hid (show putP pcs = (0, beI (m : Int) 2 ++ pcs.flatMap pieceB) by unfold putP; rw [if_neg (by rw [hany]; decide), if_neg (by omega), hn])
      have HR := Lib.hid hr
      have HN := Lib.hid hn
      have HOK := Lib.hid hok
      have HALL := Lib.hid hall
      clear hany hn hr hok hall hbig hl
      go_enter Try.func27, Try.ntmps27
      go_wp2_with fail
      refine (HH.out).mono ?_
      rintro e w1 ⟨rfl, hb1⟩
      have HB1 := Lib.hid hb1
      clear hb1
      go_wp2_with fail
      refine (add16 [] (m : Int) none 0 0 w1 rfl (Rd.nil _ _) (by omega) (by omega) (by omega) (by omega)).mono ?_
      rintro e w2 ⟨⟨A2, c2, rfl, hc2, hl2, ho2⟩, hb2⟩
      have HB2 := Lib.hid (HB1.out.trans (hb2.mono HB1.out.size))
      have HO2 := Lib.hid (own_mono ho2 HB1.out.size)
      clear hb2 ho2 hl2
      go_wp2_with fail
      go_loopw [4, 18] (fun v i wr => ∃ k : Nat, k ≤ m ∧ i = .int .i64 k ∧ wr.ownsRow w.heap.size 5 1 v (2 + 30 * k) (octs (beI (m : Int) 2 ++ (pcs.take k).flatMap pieceB)) ∧ Below w.heap.size w wr) (fun _ i _ => m - (intOf i).toNat)
      case atStart => exact ⟨0, by omega, rfl, by simpa using HO2.out, HB2.out⟩
      case round =>
        obtain ⟨k, hk, rfl, ho, hlow⟩ := hrel
        obtain ⟨Av, cv, rfl, hcv⟩ := own_slice ho
        have HO := Lib.hid ho
        have HLOW := Lib.hid hlow
        clear ho hlow
        by_cases hlt : k < m
        · obtain ⟨p, hp⟩ : ∃ p, pcs[k]? = some p := ⟨_, List.getElem?_eq_getElem (by rw [HN.out]; exact hlt)⟩
          obtain ⟨b1, o1, rfl, hblt, hrg⟩ := pc_range (HR.out.below HLOW.out rfl) HOK.out hp
          have hpo := HOK.out p (List.mem_of_getElem? hp)
          have hpr := HALL.out p (List.mem_of_getElem? hp)
          have hs52 : (Try.prog.info? 52).map (·.size) = some p.cells.length := by rw [Pc.cells_length hpo]; exact size39
          have hzz : zeroA.size = p.cells.toArray.size := (by rfl : zeroA.size = 23).trans (by rw [List.size_toArray, Pc.cells_length hpo])
          have hone : p.cells.toArray.all (·.oneCell') = true := by
            rw [Array.all_eq_true]
            intro i hi'
            exact Pc.cells_one p _ (show p.cells.toArray[i] ∈ p.cells by simp)
          have hsn : (pcs.take (k + 1)).flatMap pieceB = (pcs.take k).flatMap pieceB ++ pieceB p := by rw [List.take_add_one, hp]; simp
          simp only [rgt, rightP, Bool.and_eq_true, decide_eq_true_eq] at hpr
          obtain ⟨⟨⟨⟨⟨s0, s1⟩, t0⟩, t1⟩, a0⟩, a1⟩ := hpr
          have hbx := Blk.new wr 52 p.cells.toArray
          have hlb := HLOW.out.alloc HLOW.out.size (.cells p.cells.toArray 52)
          have hck : ∀ W, Below (wr.alloc (.cells p.cells.toArray 52)).heap.size (wr.alloc (.cells p.cells.toArray 52)) W ∨ W = wr.alloc (.cells p.cells.toArray 52) → True := fun _ _ => trivial
          have hkeep : ∀ W, Blk W wr.heap.size 52 p.cells.toArray → W.cell? ⟨wr.heap.size, 20, none⟩ = some (.int .i64 p.s) ∧ W.cell? ⟨wr.heap.size, 21, none⟩ = some (.int .i64 p.b) ∧ W.cell? ⟨wr.heap.size, 22, none⟩ = some (.int .i64 p.a) ∧ Rd W (some ⟨wr.heap.size, 0, none⟩) (octs p.h) := fun W hW => by
            refine ⟨?_, ?_, ?_, fun _ => ⟨_, 0, rfl, hW.lt, fun i u hu => ?_⟩⟩
            · rw [hW.cell, List.getElem?_toArray]; exact Pc.cell_s hpo
            · rw [hW.cell, List.getElem?_toArray]; exact Pc.cell_b hpo
            · rw [hW.cell, List.getElem?_toArray]; exact Pc.cell_a hpo
            · rw [Nat.zero_add, hW.cell, List.getElem?_toArray]
              unfold Pc.cells
              rw [List.getElem?_append_left (by have := (List.getElem?_eq_some_iff.1 hu).1; rw [octs_length] at this; rw [hashV_length]; exact this)]
              exact hu
          have hap : ∀ W v n xs, W.ownsRow w.heap.size 5 1 v n xs → Blk W wr.heap.size 52 p.cells.toArray → ∀ k', v.ownBlock = some k' → wr.heap.size ≠ k' := fun W v n xs hW hb k' hk' e => Blk.apart hb hW (by decide) k' hk' e.symm
          have HRG := Lib.hid hrg
          have HS52 := Lib.hid hs52
          have HSA := Lib.hid (show (Try.prog.info? 52).map (·.size) = some p.cells.toArray.size from by rw [List.size_toArray]; exact hs52)
          have HZ := Lib.hid hzz
          have HON := Lib.hid hone
          have HSN := Lib.hid hsn
          have HKP := Lib.hid hkeep
          have HAPT := Lib.hid hap
          have HBX := Lib.hid hbx
          have HLB := Lib.hid hlb
          have HOA := Lib.hid (HO.out.alloc (.cells p.cells.toArray 52))
          have HHL := Lib.hid hpo.h.len
          obtain ⟨f20, f21, f22, frd⟩ := hkeep _ hbx
          have HFRD := Lib.hid frd
          have hkn : (k : Int) < m := by omega
          clear hrg hs52 hzz hone hsn hbx hlb hck hkeep hap hpo hp frd
          obtain ⟨cs, hcs⟩ : ∃ cs, p.cells = cs := ⟨_, rfl⟩
          rw [hcs] at HRG HS52 HSA HZ HON HKP HAPT HBX HLB HOA HFRD f20 f21 f22
          clear hcs
          obtain ⟨ph, psz, pb, pat⟩ := p
          simp only at HKP HHL HFRD f20 f21 f22 s0 s1 t0 t1 a0 a1
          go_wp2_with (first
            | (refine wpList_load_mid rfl 52 (.tmp 20) rfl b1 (o1 + k * 23) rfl cs _ HRG.out Try.underlying52 rfl HS52.out ?_) | (refine wpList_store_row rfl 52 (.tmp 6) (.tmp 21) rfl wr.heap.size cs.toArray rfl rfl 52 zeroA (heap_alloc_new _ _) HSA.out HZ.out HON.out ?_; rw [World.setRow_alloc_new])
            | (at_builtin; refine wpList_app tBytes rfl (.tmp 22) (.tmp 24) rfl w.heap.size (.slice Av (2 + 30 * k) cv) (2 + 30 * k) _ rfl HOA.out (some ⟨wr.heap.size, 0, none⟩) 20 20 (octs ph) rfl (by rw [octs_length, HHL.out]) HFRD.out (octs_one _) (by omega) (by unfold maxLen; omega) HLB.out.size ?_; intro v3 w3 o3 hg3 hb3; have hbx3 : Blk w3 wr.heap.size 52 cs.toArray := HBX.out.frm (Frm.of_grown (S := fun k' => (Value.slice Av (2 + 30 * k) cv).ownBlock = some k') hg3 (fun _ h => h)) (fun e => HAPT.out _ _ _ _ HOA.out HBX.out _ e rfl); obtain ⟨g20, g21, g22, _⟩ := HKP.out w3 hbx3; obtain ⟨A3, c3, rfl, hc3⟩ := own_slice o3; have O3 := Lib.hid o3; have HBX3 := Lib.hid hbx3; have HLB3 := Lib.hid (HLB.out.trans hb3); clear o3 hg3 hb3 hbx3)
            | (at_builtin; refine wpList_lit (us := [.int .u8 (psz / 256), .int .u8 (psz % 256)]) tBytes rfl (.tmp 26) (.tmp 34) rfl w.heap.size (.slice A3 (2 + 30 * k + 20) c3) (2 + 30 * k + 20) _ rfl O3.out (by simp [Value.oneCell']) 2 rfl w3.heap.size rfl rfl (by omega) (by unfold maxLen; omega) HLB3.out.size ?_; intro v4 w4 o4 hg4 hn4 hb4; have hbx4 : Blk w4 wr.heap.size 52 cs.toArray := HBX3.out.frm (Frm.of_grown (S := fun k' => (Value.slice A3 (2 + 30 * k + 20) c3).ownBlock = some k') hg4 (fun _ h => h)) (fun e => HAPT.out _ _ _ _ O3.out HBX3.out _ e rfl); obtain ⟨h20, h21, h22, _⟩ := HKP.out w4 hbx4; obtain ⟨A4, c4, rfl, hc4⟩ := own_slice o4; have O4 := Lib.hid o4; have HBX4 := Lib.hid hbx4; have HLB4 := Lib.hid (HLB3.out.trans hb4); clear o4 hg4 hb4 hbx4 hn4))
          have HK4 := Lib.hid (show ∀ W, Below w4.heap.size w4 W → W.cell? ⟨wr.heap.size, 21, none⟩ = some (.int .i64 pb) ∧ W.cell? ⟨wr.heap.size, 22, none⟩ = some (.int .i64 pat) from fun W hW => ⟨(HKP.out W (HBX4.out.below hW)).2.1, (HKP.out W (HBX4.out.below hW)).2.2.1⟩)
          have HBD := Lib.hid ((Below.refl w4.heap.size w4).drew)
          have hwb : IntKind.u32.wrap pb = pb := wrap_u32 (by omega) (by omega)
          have hwa : IntKind.u32.wrap pat = pat := wrap_u32 (by omega) (by omega)
          clear f20 f21 f22 g20 g21 g22 h20
          go_region_held3 (fun w' => w'.cell? ⟨wr.heap.size, 21, none⟩ = some (.int .i64 pb) ∧ w'.cell? ⟨wr.heap.size, 22, none⟩ = some (.int .i64 pat)) (first | exact hk7 | exact HK4.out _ (by assumption) | go_keep)
            (first
              | (refine step_appB tBytes rfl (.tmp 36) (.tmp 44) rfl w.heap.size (.slice A4 (2 + 30 * k + 20 + 2) c4) (2 + 30 * k + 20 + 2) _ rfl O6.out A6 8 c6 _ rfl HM6.out (Rd.of_own R6.out) (octs_one _) (by omega) (by unfold maxLen; omega) HLB6.out.size ?_; intro v7 w7 o7 hg7 hb7; have hbx7 : Blk w7 wr.heap.size 52 cs.toArray := HBX6.out.frm (Frm.of_grown (S := fun k' => (Value.slice A4 (2 + 30 * k + 20 + 2) c4).ownBlock = some k') hg7 (fun _ h => h)) (fun e => HAPT.out _ _ _ _ O6.out HBX6.out _ e rfl); have hk7 := (show w7.cell? ⟨wr.heap.size, 21, none⟩ = some (.int .i64 pb) ∧ w7.cell? ⟨wr.heap.size, 22, none⟩ = some (.int .i64 pat) from ⟨(HKP.out w7 hbx7).2.1, (HKP.out w7 hbx7).2.2.1⟩))
              | (go_at_call 55; ((refine (add32 (beI pb 4) pat A5 4 c5 w5 (by rw [beI_length]) R5.out hc5 (by omega) (by omega) (by omega)).mono ?_)); rintro e w6 ⟨⟨A6, c6, rfl, hc6, hl6, ho6⟩, hb6⟩; have hB6 : Below w4.heap.size w4 w6 := HB5.out.trans (hb6.mono HB5.out.size); have R6 := Lib.hid ho6; have HM6 := Lib.hid (show 8 = (octs (beI pb 4 ++ beI pat 4)).length from by rw [octs_length]; exact hl6.symm); have O6 := Lib.hid (own_below O4.out hB6); have HBX6 := Lib.hid (HBX4.out.below hB6); have HLB6 := Lib.hid (HLB4.out.trans (hB6.mono HLB4.out.size)); clear hb6 ho6 hl6)
              | (go_at_call 55; ((refine (add32 [] pb none 0 0 w4.drew rfl (Rd.nil _ _) (by omega) (by omega) (by omega) (by omega)).mono ?_)); rintro e w5 ⟨⟨A5, c5, rfl, hc5, hl5, ho5⟩, hb5⟩; have hB5 : Below w4.heap.size w4 w5 := of_drew hb5; have HB5 := Lib.hid hB5; have R5 := Lib.hid (Rd.of_own ho5); clear hb5 ho5 hl5))
          have HLB7 := Lib.hid (HLB6.out.trans hb7)
          have O7 := Lib.hid o7
          clear hg7 hb7 o7 hk7 hbx7 hB6 hB5 h21 h22
          go_wp2
          go_roundw
          case rel =>
            refine ⟨k + 1, by omega, by go_num, ?_, HLB7.out⟩
            have he : ∀ (l r : List Int), octs (l ++ r) = octs l ++ octs r := fun l r => by simp [octs]
            have h1 := O7.out
            rw [HSN.out, show 2 + 30 * (k + 1) = 2 + 30 * k + 20 + 2 + 8 by omega]
            rw [show pieceB ⟨ph, psz, pb, pat⟩ = ph ++ [psz / 256, psz % 256] ++ (beI pb 4 ++ beI pat 4) from rfl]
            simp only [he, ← List.append_assoc] at h1 ⊢
            rw [show octs [psz / 256, psz % 256] = [.int .u8 (psz / 256), .int .u8 (psz % 256)] from rfl]
            exact h1
          case measure => simp [intOf]; omega
        · obtain rfl : k = m := by omega
          go_wp2
          go_ret2
          have h1 := HO.out
          rw [List.take_of_length_le (by rw [HN.out]; exact Nat.le_refl _)] at h1
          have hle : (beI (k : Int) 2 ++ pcs.flatMap pieceB).length = 2 + 30 * k := by
            have := h1.1
            rw [octs_length] at this
            omega
          rw [HP.out]
          refine ⟨.inr ⟨rfl, Av, cv, ?_, ?_, ?_⟩, HLOW.out⟩
          · show Ending.returned (.tuple #[.slice Av (2 + 30 * k) cv, .int .i64 0]) = .returned (.tuple #[.slice Av (beI (k : Int) 2 ++ pcs.flatMap pieceB).length cv, .int .i64 0])
            rw [hle]
          · rw [hle]; exact hcv
          · rw [hle]; exact h1
end Go.Proofs.Ytlhhkmpidnegcaa
