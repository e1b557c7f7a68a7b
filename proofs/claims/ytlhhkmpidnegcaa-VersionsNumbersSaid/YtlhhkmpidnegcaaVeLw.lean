/- VersionsNumbers: the law's own walk. Condition: none. -/
import Derived.Test.YtlhhkmpidnegcaaVeLp
import Derived.DeepKeys
namespace Go.Proofs.Ytlhhkmpidnegcaa
open Go.RowKit Go.WideShapes
set_option linter.unusedVariables false
set_option linter.unusedSimpArgs false
def aC : Array Value := #[.int .u8 135, .int .u8 8, .int .u8 0, .int .u8 0, .int .u8 0, .int .u8 0, .int .u8 0, .int .u8 0, .int .u8 0, .int .u8 0, .int .u8 0, .int .u8 0, .int .u8 0, .int .u8 0, .int .u8 0, .int .u8 0, .int .u8 0, .int .u8 0, .int .u8 0, .int .u8 0, .int .i64 64, .int .i64 1, .int .i64 0]
def lC : List Lit := [.int .u8 135, .int .u8 8, .int .u8 0, .int .u8 0, .int .u8 0, .int .u8 0, .int .u8 0, .int .u8 0, .int .u8 0, .int .u8 0, .int .u8 0, .int .u8 0, .int .u8 0, .int .u8 0, .int .u8 0, .int .u8 0, .int .u8 0, .int .u8 0, .int .u8 0, .int .u8 0, .int .i64 64, .int .i64 1, .int .i64 0]
theorem aC_lits : Try.prog.keyLits 4 52 aC.toList = some lC := by kernel_rfl
theorem aC_eq (w : World) : (Op.equalIn 10000 52 (.agg aC) (.agg aC)).run Try.prog w = .ok true w := by
  obtain ⟨r, hr, hi⟩ := run_equalIn_deep (P := Try.prog) 9996 4 52 (by kernel_rfl) w 4 4 (.agg aC) (.agg aC) _ _ (by kernel_rfl) (by kernel_rfl) aC_lits aC_lits
  rw [hi.2 rfl] at hr
  exact hr
theorem wpQuiet_load_mid {P : Program} {ops : Array Oper} {C : World → Prop} {Q : Act → Prop} {a : Act} {op : Oper} {rest : List Oper} (hw : Region.wanted op (yielded ops a.tmps) = true) (ty : TypeId) (x : Operand) (ho : op.op = .load ty x)
    (b o : Nat) (hx : a.eval x = .pointer (some ⟨b, o, none⟩)) (cs : List Value) (d : TypeDesc) (hC : ∀ w, C w → w.rangeAt b o cs)
    (hu : P.underlying ty = some d) (hd : d.isRow = true) (hi : (P.info? ty).map (·.size) = some cs.length) (h : wpQuiet P ops C Q rest (a.put op.dst (.agg cs.toArray))) : wpQuiet P ops C Q (op :: rest) a :=
  wpQuiet_step fun K hK => by
    rw [if_pos hw]
    refine ⟨.agg cs.toArray, fun w hw => ?_, hK _ h⟩
    unfold Oper.quietAt execOp
    simp only [ho, hx, Instr.loadAt, Instr.sureAddr, Sem.run_bind, Sem.run_pure, Result.andThen_ok, run_loadVar_mid w b o ty cs d (hC w hw) hu hd hi]
    exact ⟨rfl, rfl⟩
theorem piece9999 (w : World) : Calls Try.prog 26 #[.int .i64 9999, .int .i64 1] w (Quiet (.agg #[.int .u8 15, .int .u8 39, .int .u8 0, .int .u8 0, .int .u8 0, .int .u8 0, .int .u8 0, .int .u8 0, .int .u8 0, .int .u8 0, .int .u8 0, .int .u8 0, .int .u8 0, .int .u8 0, .int .u8 0, .int .u8 0, .int .u8 0, .int .u8 0, .int .u8 0, .int .u8 0, .int .i64 64, .int .i64 1, .int .i64 0]) w) := piece_any 9999 1 w (by omega)
theorem cells9999 : (pcV 9999 1).cells = [.int .u8 15, .int .u8 39, .int .u8 0, .int .u8 0, .int .u8 0, .int .u8 0, .int .u8 0, .int .u8 0, .int .u8 0, .int .u8 0, .int .u8 0, .int .u8 0, .int .u8 0, .int .u8 0, .int .u8 0, .int .u8 0, .int .u8 0, .int .u8 0, .int .u8 0, .int .u8 0, .int .i64 64, .int .i64 1, .int .i64 0] := by kernel_rfl
set_option maxRecDepth 100000 in
set_option maxHeartbeats 16000000 in
theorem numbers_any (w : World) : Calls Try.prog 5 #[] w fun e w' => e = .returned (.bool true) ∧ Below w.heap.size w w' := by
  go_enter Try.func5, Try.ntmps5
  go_wp2_with fail
  have Cw := Lib.hid (Below.refl w.heap.size w)
  refine (made101 1 w (by omega) (by omega)).mono ?_
  rintro e w1 ⟨⟨A, c, l, rfl, hl, ho, hw⟩, hb⟩
  replace Cw := Lib.hid hb
  have hstr := run_str (P := Try.prog) (bs := l) Try.underlying58 Try.underlying5 Try.underlying9 w1 A 101 c hl.symm (Rd.of_own hw)
  have hsz := strOfNums_size l
  rw [hl] at hsz
  obtain ⟨lo, hlo⟩ : ∃ s, strOfNums l = s := ⟨_, rfl⟩
  rw [hlo] at hstr hsz
  have HLO := Lib.hid (lw_name (by omega) (name_long hsz))
  clear hb hlo hl ho hw hsz
  go_wp2_with fail
  go_loopw [2] (fun s wr => ∃ k : Nat, k ≤ 100 ∧ s = .string (nmL k) ∧ wr = w1) (fun s _ => match s with | .string x => 100 - x.size | _ => 0)
  case atStart => exact ⟨0, by omega, rfl, rfl⟩
  case round =>
    obtain ⟨k, hk, rfl, rfl⟩ := hrel
    have hn := nmL_succ k
    have hs := nmL_size k
    have hs2 := nmL_size (k + 1)
    by_cases hlt : k < 100
    · obtain ⟨x, hx⟩ : ∃ x, nmL k = x := ⟨_, rfl⟩
      obtain ⟨y, hy⟩ : ∃ y, nmL (k + 1) = y := ⟨_, rfl⟩
      rw [hx] at hn hs ⊢
      rw [hy] at hn hs2
      have hlt' : (x.size : Int) < 100 := by omega
      have HY := Lib.hid hy
      clear hx hy
      go_wp2
      go_roundw
      case rel => exact ⟨k + 1, by omega, by rw [HY.out], by first | rfl | trivial⟩
      case measure => simp only []; omega
    · obtain rfl : k = 100 := by omega
      have hn1 := lw_name (s := nmL 100) (by rw [nmL_size]; omega) name_100
      have hn2 := lw_name (s := nmL 101) (by rw [nmL_size]; omega) name_101
      have hge : ¬ ((nmL 100).size : Int) < 100 := by rw [nmL_size]; omega
      obtain ⟨x, hx⟩ : ∃ x, nmL 100 = x := ⟨_, rfl⟩
      obtain ⟨y, hy⟩ : ∃ y, nmL 101 = y := ⟨_, rfl⟩
      rw [show 100 + 1 = 101 from rfl, hx, hy] at hn
      rw [hx] at hn1 hge hs ⊢
      rw [hy] at hn2
      have HN1 := Lib.hid hn1
      have HN2 := Lib.hid hn2
      clear hx hy hn1 hn2 hs2 hlt
      go_wp2_with fail
      refine (lw_name (s := ⟨#[97, 32, 98]⟩) (by decide) name_ab wr).mono ?_
      rintro e w1 ⟨rfl, hb⟩
      replace Cw := Lib.hid (Cw.out.trans (hb.mono Cw.out.size))
      clear hb
      go_wp2_with fail
      refine (HN1.out w1).mono ?_
      rintro e w2 ⟨rfl, hb⟩
      replace Cw := Lib.hid (Cw.out.trans (hb.mono Cw.out.size))
      clear hb
      go_wp2_with fail
      refine (HN2.out w2).mono ?_
      rintro e w3 ⟨rfl, hb⟩
      replace Cw := Lib.hid (Cw.out.trans (hb.mono Cw.out.size))
      clear hb
      go_wp2_with fail
      refine (lw_name (s := ⟨#[]⟩) (by decide) name_0 w3).mono ?_
      rintro e w4 ⟨rfl, hb⟩
      replace Cw := Lib.hid (Cw.out.trans (hb.mono Cw.out.size))
      clear hb
      go_wp2_with fail
      refine (lw_name (s := ⟨#[97, 9, 98]⟩) (by decide) name_tab w4).mono ?_
      rintro e w5 ⟨rfl, hb⟩
      replace Cw := Lib.hid (Cw.out.trans (hb.mono Cw.out.size))
      clear hb
      go_wp2_with fail
      refine (HLO.out w5).mono ?_
      rintro e w6 ⟨rfl, hb⟩
      replace Cw := Lib.hid (Cw.out.trans (hb.mono Cw.out.size))
      clear hb
      go_wp2_with fail
      refine (lw3 w6).mono ?_
      rintro e w7 ⟨⟨A3, c3, rfl, hc3, hm3, hr3⟩, hb⟩
      replace Cw := Lib.hid (Cw.out.trans (hb.mono Cw.out.size))
      have HR3 := Lib.hid hr3
      clear hr3
      clear hb
      have Cw7 := Lib.hid (Below.refl w7.heap.size w7)
      go_wp2_with fail
      refine (file_any _ _ _ _ w7).mono ?_
      rintro e w8 ⟨rfl, hb⟩
      replace Cw := Lib.hid (Cw.out.trans (hb.mono Cw.out.size))
      have Cw7 := Lib.hid hb
      clear hb
      go_wp2_with fail
      have hb := (Below.refl w8.heap.size w8).alloc (Nat.le_refl _) (.cells #[.string ⟨#[97]⟩, .slice none 0 0] 41)
      have Ka := Lib.hid (Blk.new w8 41 #[.string ⟨#[97]⟩, .slice none 0 0])
      obtain ⟨ga, hga⟩ : ∃ x, w8.heap.size = x := ⟨_, rfl⟩
      generalize hwn : w8.alloc (.cells #[.string ⟨#[97]⟩, .slice none 0 0] 41) = w9 at hb Ka ⊢
      rw [hga] at Ka ⊢
      replace Cw := Lib.hid (Cw.out.trans (hb.mono Cw.out.size))
      replace Cw7 := Lib.hid (Cw7.out.trans (hb.mono Cw7.out.size))
      clear hb hwn hga
      refine (lw4 w9 Ka.out).mono ?_
      rintro e w10 ⟨⟨At9, nt9, ct9, rfl⟩, hb⟩
      replace Cw := Lib.hid (Cw.out.trans (hb.mono Cw.out.size))
      replace Cw7 := Lib.hid (Cw7.out.trans (hb.mono Cw7.out.size))
      clear hb
      clear Ka
      go_wp2_with fail
      refine (file_any _ _ _ _ w10).mono ?_
      rintro e w11 ⟨rfl, hb⟩
      replace Cw := Lib.hid (Cw.out.trans (hb.mono Cw.out.size))
      replace Cw7 := Lib.hid (Cw7.out.trans (hb.mono Cw7.out.size))
      clear hb
      go_wp2_with fail
      refine (file_any _ _ _ _ w11).mono ?_
      rintro e w12 ⟨rfl, hb⟩
      replace Cw := Lib.hid (Cw.out.trans (hb.mono Cw.out.size))
      replace Cw7 := Lib.hid (Cw7.out.trans (hb.mono Cw7.out.size))
      clear hb
      go_wp2_with fail
      have hb := (Below.refl w12.heap.size w12).alloc (Nat.le_refl _) (.cells #[.string ⟨#[98]⟩, .slice none 0 0, .string ⟨#[97]⟩, .slice none 0 0] 41)
      have Kb := Lib.hid (Blk.new w12 41 #[.string ⟨#[98]⟩, .slice none 0 0, .string ⟨#[97]⟩, .slice none 0 0])
      obtain ⟨gb, hgb⟩ : ∃ x, w12.heap.size = x := ⟨_, rfl⟩
      generalize hwn : w12.alloc (.cells #[.string ⟨#[98]⟩, .slice none 0 0, .string ⟨#[97]⟩, .slice none 0 0] 41) = w13 at hb Kb ⊢
      rw [hgb] at Kb ⊢
      replace Cw := Lib.hid (Cw.out.trans (hb.mono Cw.out.size))
      replace Cw7 := Lib.hid (Cw7.out.trans (hb.mono Cw7.out.size))
      clear hb hwn hgb
      refine (lw5 w13 Kb.out).mono ?_
      rintro e w14 ⟨⟨At13, nt13, ct13, rfl⟩, hb⟩
      replace Cw := Lib.hid (Cw.out.trans (hb.mono Cw.out.size))
      replace Cw7 := Lib.hid (Cw7.out.trans (hb.mono Cw7.out.size))
      clear hb
      clear Kb
      go_wp2_with fail
      have hb := (Below.refl w14.heap.size w14).alloc (Nat.le_refl _) (.cells #[.int .i64 0] 3)
      have Kc := Lib.hid (Blk.new w14 3 #[.int .i64 0])
      obtain ⟨gc, hgc⟩ : ∃ x, w14.heap.size = x := ⟨_, rfl⟩
      generalize hwn : w14.alloc (.cells #[.int .i64 0] 3) = w15 at hb Kc ⊢
      rw [hgc] at Kc ⊢
      replace Cw := Lib.hid (Cw.out.trans (hb.mono Cw.out.size))
      replace Cw7 := Lib.hid (Cw7.out.trans (hb.mono Cw7.out.size))
      clear hb hwn hgc
      refine (file_any _ _ _ _ w15).mono ?_
      rintro e w16 ⟨rfl, hb⟩
      replace Cw := Lib.hid (Cw.out.trans (hb.mono Cw.out.size))
      replace Cw7 := Lib.hid (Cw7.out.trans (hb.mono Cw7.out.size))
      replace Kc := Lib.hid (Kc.out.below hb)
      clear hb
      go_wp2_with fail
      have KR := Lib.hid (rd_blk Kc.out)
      have hb := (Below.refl w16.heap.size w16).alloc (Nat.le_refl _) (.cells #[.string ⟨#[97]⟩, .slice (some ⟨gc, 0, none⟩) 1 1] 41)
      have Kd := Lib.hid (Blk.new w16 41 #[.string ⟨#[97]⟩, .slice (some ⟨gc, 0, none⟩) 1 1])
      obtain ⟨gd, hgd⟩ : ∃ x, w16.heap.size = x := ⟨_, rfl⟩
      generalize hwn : w16.alloc (.cells #[.string ⟨#[97]⟩, .slice (some ⟨gc, 0, none⟩) 1 1] 41) = w17 at hb Kd ⊢
      rw [hgd] at Kd ⊢
      replace KR := Lib.hid (KR.out.below hb rfl)
      replace Cw := Lib.hid (Cw.out.trans (hb.mono Cw.out.size))
      replace Cw7 := Lib.hid (Cw7.out.trans (hb.mono Cw7.out.size))
      clear hb hwn hgd
      refine (lw_one (fr := [0]) w17 Kd.out KR.out (by simp) rfl (by unfold maxLen; omega) (congrArg Prod.fst ln6)).mono ?_
      rintro e w18 ⟨⟨At17, nt17, ct17, rfl⟩, hb⟩
      replace Cw := Lib.hid (Cw.out.trans (hb.mono Cw.out.size))
      replace Cw7 := Lib.hid (Cw7.out.trans (hb.mono Cw7.out.size))
      clear hb
      clear Kd Kc KR
      go_wp2_with fail
      have hones : Calls Try.prog 23 #[.int .i64 16400] w18 (IsOnes 16400 w18) := ones_any 16400 w18 (by omega) (by omega)
      refine (hones).mono ?_
      rintro e w19 ⟨⟨go, hgo, rfl, hro⟩, hb⟩
      replace Cw := Lib.hid (Cw.out.trans (hb.mono Cw.out.size))
      replace Cw7 := Lib.hid (Cw7.out.trans (hb.mono Cw7.out.size))
      have HO := Lib.hid hro
      clear hones hro hgo
      clear hb
      go_wp2_with fail
      refine (file_any _ _ _ _ w19).mono ?_
      rintro e w20 ⟨rfl, hb⟩
      replace Cw := Lib.hid (Cw.out.trans (hb.mono Cw.out.size))
      replace Cw7 := Lib.hid (Cw7.out.trans (hb.mono Cw7.out.size))
      replace HO := Lib.hid (HO.out.below hb rfl)
      clear hb
      go_wp2_with fail
      have hb := (Below.refl w20.heap.size w20).alloc (Nat.le_refl _) (.cells #[.string ⟨#[97]⟩, .slice (some ⟨go, 0, none⟩) 16400 16400] 41)
      have Ke := Lib.hid (Blk.new w20 41 #[.string ⟨#[97]⟩, .slice (some ⟨go, 0, none⟩) 16400 16400])
      obtain ⟨ge, hge⟩ : ∃ x, w20.heap.size = x := ⟨_, rfl⟩
      generalize hwn : w20.alloc (.cells #[.string ⟨#[97]⟩, .slice (some ⟨go, 0, none⟩) 16400 16400] 41) = w21 at hb Ke ⊢
      rw [hge] at Ke ⊢
      replace HO := Lib.hid (HO.out.below hb rfl)
      replace Cw := Lib.hid (Cw.out.trans (hb.mono Cw.out.size))
      replace Cw7 := Lib.hid (Cw7.out.trans (hb.mono Cw7.out.size))
      clear hb hwn hge
      refine (lw_one (fr := List.replicate 16400 1) w21 Ke.out HO.out (by simp) (List.length_replicate ..) (by unfold maxLen; omega) ln7).mono ?_
      rintro e w22 ⟨⟨At21, nt21, ct21, rfl⟩, hb⟩
      replace Cw := Lib.hid (Cw.out.trans (hb.mono Cw.out.size))
      replace Cw7 := Lib.hid (Cw7.out.trans (hb.mono Cw7.out.size))
      clear hb
      clear Ke HO
      go_wp2_with fail
      have hones : Calls Try.prog 23 #[.int .i64 16380] w22 (IsOnes 16380 w22) := ones_any 16380 w22 (by omega) (by omega)
      refine (hones).mono ?_
      rintro e w23 ⟨⟨go, hgo, rfl, hro⟩, hb⟩
      replace Cw := Lib.hid (Cw.out.trans (hb.mono Cw.out.size))
      replace Cw7 := Lib.hid (Cw7.out.trans (hb.mono Cw7.out.size))
      have HO := Lib.hid hro
      clear hones hro hgo
      clear hb
      go_wp2_with fail
      refine (file_any _ _ _ _ w23).mono ?_
      rintro e w24 ⟨rfl, hb⟩
      replace Cw := Lib.hid (Cw.out.trans (hb.mono Cw.out.size))
      replace Cw7 := Lib.hid (Cw7.out.trans (hb.mono Cw7.out.size))
      replace HO := Lib.hid (HO.out.below hb rfl)
      clear hb
      go_wp2_with fail
      have hb := (Below.refl w24.heap.size w24).alloc (Nat.le_refl _) (.cells #[.string ⟨#[97]⟩, .slice (some ⟨go, 0, none⟩) 16380 16380] 41)
      have Ke := Lib.hid (Blk.new w24 41 #[.string ⟨#[97]⟩, .slice (some ⟨go, 0, none⟩) 16380 16380])
      obtain ⟨ge, hge⟩ : ∃ x, w24.heap.size = x := ⟨_, rfl⟩
      generalize hwn : w24.alloc (.cells #[.string ⟨#[97]⟩, .slice (some ⟨go, 0, none⟩) 16380 16380] 41) = w25 at hb Ke ⊢
      rw [hge] at Ke ⊢
      replace HO := Lib.hid (HO.out.below hb rfl)
      replace Cw := Lib.hid (Cw.out.trans (hb.mono Cw.out.size))
      replace Cw7 := Lib.hid (Cw7.out.trans (hb.mono Cw7.out.size))
      clear hb hwn hge
      refine (lw_one (fr := List.replicate 16380 1) w25 Ke.out HO.out (by simp) (List.length_replicate ..) (by unfold maxLen; omega) ln8).mono ?_
      rintro e w26 ⟨⟨At25, nt25, ct25, rfl⟩, hb⟩
      replace Cw := Lib.hid (Cw.out.trans (hb.mono Cw.out.size))
      replace Cw7 := Lib.hid (Cw7.out.trans (hb.mono Cw7.out.size))
      clear hb
      clear Ke HO
      go_wp2_with fail
      have hmany : Calls Try.prog 24 #[.int .i64 201] w26 (IsMany 201 w26) := many_any 201 w26 (by omega)
      refine hmany.mono ?_
      rintro e w27 ⟨⟨Am, cm, fm, rfl, hmn⟩⟩
      have hb := hmn.low
      have HMN := Lib.hid hmn
      replace Cw := Lib.hid (Cw.out.trans (hb.mono Cw.out.size))
      replace Cw7 := Lib.hid (Cw7.out.trans (hb.mono Cw7.out.size))
      clear hb hmn hmany
      go_wp2_with fail
      refine (lw_many w27 HMN.out (by omega) ln9).mono ?_
      rintro e w28 ⟨⟨At27, nt27, ct27, rfl⟩, hb⟩
      replace Cw := Lib.hid (Cw.out.trans (hb.mono Cw.out.size))
      replace Cw7 := Lib.hid (Cw7.out.trans (hb.mono Cw7.out.size))
      clear hb
      clear HMN
      go_wp2_with fail
      have hmany : Calls Try.prog 24 #[.int .i64 200] w28 (IsMany 200 w28) := many_any 200 w28 (by omega)
      refine hmany.mono ?_
      rintro e w29 ⟨⟨Am, cm, fm, rfl, hmn⟩⟩
      have hb := hmn.low
      have HMN := Lib.hid hmn
      replace Cw := Lib.hid (Cw.out.trans (hb.mono Cw.out.size))
      replace Cw7 := Lib.hid (Cw7.out.trans (hb.mono Cw7.out.size))
      clear hb hmn hmany
      go_wp2_with fail
      refine (lw_many w29 HMN.out (by omega) ln10).mono ?_
      rintro e w30 ⟨⟨At29, nt29, ct29, rfl⟩, hb⟩
      replace Cw := Lib.hid (Cw.out.trans (hb.mono Cw.out.size))
      replace Cw7 := Lib.hid (Cw7.out.trans (hb.mono Cw7.out.size))
      clear hb
      clear HMN
      go_wp2_with fail
      replace HR3 := Lib.hid (HR3.out.below Cw7.out rfl)
      have hb := (Below.refl w30.heap.size w30).alloc (Nat.le_refl _) (.cells #[.int .u8 114, .int .u8 0, .int .u8 0, .int .u8 0, .int .u8 3] 5)
      have Kf := Lib.hid (Blk.new w30 5 #[.int .u8 114, .int .u8 0, .int .u8 0, .int .u8 0, .int .u8 3])
      obtain ⟨gf, hgf⟩ : ∃ x, w30.heap.size = x := ⟨_, rfl⟩
      generalize hwn : w30.alloc (.cells #[.int .u8 114, .int .u8 0, .int .u8 0, .int .u8 0, .int .u8 3] 5) = w31 at hb Kf ⊢
      rw [hgf] at Kf ⊢
      replace HR3 := Lib.hid (HR3.out.below hb rfl)
      replace Cw := Lib.hid (Cw.out.trans (hb.mono Cw.out.size))
      replace Cw7 := Lib.hid (Cw7.out.trans (hb.mono Cw7.out.size))
      clear hb hwn hgf
      clear Cw7
      have hsame : Calls Try.prog 25 #[.slice A3 5 c3, .slice (some ⟨gf, 0, none⟩) 5 5] w31 (Quiet (.bool true) w31) := same25 [114, 0, 0, 0, 3] [114, 0, 0, 0, 3] A3 (some ⟨gf, 0, none⟩) 5 5 c3 5 w31 rfl rfl HR3.out (rd_blk Kf.out) (by omega)
      refine (hsame).mono ?_
      rintro e w32 ⟨rfl, hb⟩
      replace Cw := Lib.hid (Cw.out.trans (hb.mono Cw.out.size))
      clear hb
      clear hsame HR3 Kf
      go_wp2_with (refine wpList_mkP rfl _ _ rfl 2184 rfl rfl (by omega) ?_; intro wp hP0 hb; have HP0 := Lib.hid hP0; have HBP := Lib.hid hb; clear hb hP0)
      have HGP := Lib.hid (Cw.out.size)
      replace Cw := Lib.hid (Cw.out.trans (HBP.out.mono Cw.out.size))
      clear HBP
      obtain ⟨gp, hgp⟩ : ∃ x, w32.heap.size = x := ⟨_, rfl⟩
      rw [hgp] at HP0 HGP ⊢
      clear hgp
      obtain ⟨N, hN⟩ : ∃ N : Nat, 2184 = N := ⟨_, rfl⟩
      have HNN := Lib.hid hN
      rw [hN] at HP0 ⊢
      clear hN
      go_loopw [22] (fun i wr => ∃ k : Nat, k ≤ N ∧ i = .int .i64 k ∧ PcRow gp N k wr ∧ Below w.heap.size w wr) (fun i _ => N - (intOf i).toNat)
      case atStart => exact ⟨0, by omega, rfl, HP0.out, Cw.out⟩
      case round =>
        obtain ⟨k, hk, rfl, hpr, hlow⟩ := hrel
        have HPR := Lib.hid hpr
        have HLOW := Lib.hid hlow
        clear hpr hlow
        by_cases hlt : k < N
        · have hki : (k : Int) < N := by omega
          have hk6 : k < 65536 := by have := HNN.out; omega
          have hk1 : k + 1 ≤ 100000 := by have := HNN.out; omega
          have hN6 : N ≤ 60000 := by have := HNN.out; omega
          go_wp2_with fail
          refine (piece_any k 1 wr hk6).mono ?_
          rintro e wa ⟨rfl, hb⟩
          have HPA := Lib.hid (HPR.out.below hb)
          have HLA := Lib.hid (HLOW.out.trans (hb.mono HLOW.out.size))
          have HTH := Lib.hid (show wa.there gp (k * 23) (pcV k 1).cells.toArray.size by rw [List.size_toArray, Pc.cells_length (pcV_ok k 1 hk6), Nat.mul_comm]; exact HPA.out.there hlt)
          have HSZ := Lib.hid (show (Try.prog.info? 52).map (·.size) = some (pcV k 1).cells.toArray.size by rw [List.size_toArray, Pc.cells_length (pcV_ok k 1 hk6)]; exact size39)
          have HON := Lib.hid (show (pcV k 1).cells.toArray.all (·.oneCell') = true from all_oneCell_toArray (Pc.cells_one (pcV k 1)))
          have HNX := Lib.hid (show PcRow gp N (k + 1) (wa.setCells gp (k * 23) (pcV k 1).cells.toArray.toList) by rw [Nat.mul_comm]; exact HPA.out.step hlt hN6)
          have HLX := Lib.hid (show Below w.heap.size w (wa.setCells gp (k * 23) (pcV k 1).cells.toArray.toList) from below_setCells HGP.out _ _ _ _ HLA.out)
          clear hb hk6 hN6
          unfold Pc.agg
          generalize (pcV k 1).cells.toArray = cz at *
          go_wp2_with (refine wpList_store_mid rfl 52 _ _ rfl gp (k * 23) cz rfl rfl HTH.out HSZ.out HON.out ?_)
          go_roundw
          case rel => exact ⟨k + 1, by omega, by go_num, HNX.out, HLX.out⟩
          case measure => simp [intOf]; omega
        · obtain rfl : k = N := by omega
          obtain rfl := HNN.out
          clear hlt hk HP0 HNN Cw
          have Cw := HLOW
          clear HLOW
          go_wp2_with fail
          refine (lw_put wr HPR.out).mono ?_
          rintro e w33 ⟨⟨Ab, cb, rfl, hcb, hmb, hrb⟩, hb⟩
          replace Cw := Lib.hid (Cw.out.trans (hb.mono Cw.out.size))
          have HRB := Lib.hid hrb
          replace HPR := Lib.hid (HPR.out.below hb)
          clear hrb
          clear hb
          have HPS := HPR
          have Cw33 := Lib.hid (Below.refl w33.heap.size w33)
          go_wp2_with fail
          refine (piece9999 w33).mono ?_
          rintro e w34 ⟨rfl, hb⟩
          replace Cw := Lib.hid (Cw.out.trans (hb.mono Cw.out.size))
          have Cw33 := Lib.hid hb
          replace HPR := Lib.hid (HPR.out.below hb)
          clear hb
          have hal := (Below.refl w34.heap.size w34).alloc (Nat.le_refl _) (.cells #[.int .u8 15, .int .u8 39, .int .u8 0, .int .u8 0, .int .u8 0, .int .u8 0, .int .u8 0, .int .u8 0, .int .u8 0, .int .u8 0, .int .u8 0, .int .u8 0, .int .u8 0, .int .u8 0, .int .u8 0, .int .u8 0, .int .u8 0, .int .u8 0, .int .u8 0, .int .u8 0, .int .i64 64, .int .i64 1, .int .i64 0] 52)
          have HPQ := Lib.hid (HPR.out.below hal)
          have KZ := Lib.hid (show Blk (w34.alloc (.cells #[.int .u8 15, .int .u8 39, .int .u8 0, .int .u8 0, .int .u8 0, .int .u8 0, .int .u8 0, .int .u8 0, .int .u8 0, .int .u8 0, .int .u8 0, .int .u8 0, .int .u8 0, .int .u8 0, .int .u8 0, .int .u8 0, .int .u8 0, .int .u8 0, .int .u8 0, .int .u8 0, .int .i64 64, .int .i64 1, .int .i64 0] 52)) w34.heap.size 52 (pcV 9999 1).cells.toArray by rw [cells9999]; exact Blk.new w34 52 #[.int .u8 15, .int .u8 39, .int .u8 0, .int .u8 0, .int .u8 0, .int .u8 0, .int .u8 0, .int .u8 0, .int .u8 0, .int .u8 0, .int .u8 0, .int .u8 0, .int .u8 0, .int .u8 0, .int .u8 0, .int .u8 0, .int .u8 0, .int .u8 0, .int .u8 0, .int .u8 0, .int .i64 64, .int .i64 1, .int .i64 0])
          have HLX := Lib.hid (show (flatP (pcL 2184)).length = 2184 * 23 by rw [flatP_length _ (pcL_ok (by omega)), pcL_length])
          have HHO := Lib.hid (show ∀ j v, (flatP (pcL 2184))[j]? = some v → (w34.alloc (.cells #[.int .u8 15, .int .u8 39, .int .u8 0, .int .u8 0, .int .u8 0, .int .u8 0, .int .u8 0, .int .u8 0, .int .u8 0, .int .u8 0, .int .u8 0, .int .u8 0, .int .u8 0, .int .u8 0, .int .u8 0, .int .u8 0, .int .u8 0, .int .u8 0, .int .u8 0, .int .u8 0, .int .i64 64, .int .i64 1, .int .i64 0] 52)).cell? ((⟨gp, 0, none⟩ : Addr).add j) = some v from fun j v hv => by
            obtain ⟨g, o, he, _, hc⟩ := HPQ.out.done (by omega) (by rw [HLX.out]; omega)
            injection he with he
            injection he with h1 h2
            subst h1 h2
            rw [addr_add]
            exact hc j v hv)
          have HC9 := Lib.hid (show (pcV 9999 1).cells.length = 23 from Pc.cells_length (pcV_ok 9999 1 (by omega)))
          have HAL := Lib.hid hal
          clear hal
          go_wp2_with (refine wpList_appF rfl _ _ rfl ⟨gp, 0, none⟩ 2184 (flatP (pcL 2184)) rfl HLX.out HHO.out w34.heap.size (pcV 9999 1).cells rfl HC9.out KZ.out (by omega) ?_; intro g5 c5 w5x h5 hb5; have H5 := Lib.hid h5; have hb := HAL.out.trans (hb5.mono HAL.out.size); replace HPR := Lib.hid (HPR.out.below hb); have HB5 := Lib.hid hb; clear h5 hb hb5)
          have hb := HB5.out
          replace Cw := Lib.hid (Cw.out.trans (hb.mono Cw.out.size))
          replace Cw33 := Lib.hid (Cw33.out.trans (hb.mono Cw33.out.size))
          clear hb HB5 HPQ KZ HLX HHO HC9 HAL
          refine (lw_more w5x H5.out).mono ?_
          rintro e w35 ⟨⟨At34, nt34, ct34, rfl⟩, hb⟩
          replace Cw := Lib.hid (Cw.out.trans (hb.mono Cw.out.size))
          replace Cw33 := Lib.hid (Cw33.out.trans (hb.mono Cw33.out.size))
          clear hb
          clear H5
          go_wp2_with fail
          have hb := (Below.refl w35.heap.size w35).alloc (Nat.le_refl _) (.cells #[.int .u8 0, .int .u8 0, .int .u8 0, .int .u8 0, .int .u8 0, .int .u8 0, .int .u8 0, .int .u8 0, .int .u8 0, .int .u8 0, .int .u8 0, .int .u8 0, .int .u8 0, .int .u8 0, .int .u8 0, .int .u8 0, .int .u8 0, .int .u8 0, .int .u8 0, .int .u8 0, .int .i64 0, .int .i64 0, .int .i64 0] 52)
          have Kz := Lib.hid (Blk.new w35 52 #[.int .u8 0, .int .u8 0, .int .u8 0, .int .u8 0, .int .u8 0, .int .u8 0, .int .u8 0, .int .u8 0, .int .u8 0, .int .u8 0, .int .u8 0, .int .u8 0, .int .u8 0, .int .u8 0, .int .u8 0, .int .u8 0, .int .u8 0, .int .u8 0, .int .u8 0, .int .u8 0, .int .i64 0, .int .i64 0, .int .i64 0])
          obtain ⟨gz, hgz⟩ : ∃ x, w35.heap.size = x := ⟨_, rfl⟩
          generalize hwn : w35.alloc (.cells #[.int .u8 0, .int .u8 0, .int .u8 0, .int .u8 0, .int .u8 0, .int .u8 0, .int .u8 0, .int .u8 0, .int .u8 0, .int .u8 0, .int .u8 0, .int .u8 0, .int .u8 0, .int .u8 0, .int .u8 0, .int .u8 0, .int .u8 0, .int .u8 0, .int .u8 0, .int .u8 0, .int .i64 0, .int .i64 0, .int .i64 0] 52) = w36 at hb Kz ⊢
          rw [hgz] at Kz ⊢
          replace Cw := Lib.hid (Cw.out.trans (hb.mono Cw.out.size))
          replace Cw33 := Lib.hid (Cw33.out.trans (hb.mono Cw33.out.size))
          clear hb hwn hgz
          refine (rd_z w36 Kz.out).mono ?_
          rintro e w37 ⟨⟨At36, nt36, ct36, rfl⟩, hb⟩
          replace Cw := Lib.hid (Cw.out.trans (hb.mono Cw.out.size))
          replace Cw33 := Lib.hid (Cw33.out.trans (hb.mono Cw33.out.size))
          clear hb
          clear Kz
          go_wp2_with fail
          replace HRB := Lib.hid (HRB.out.below Cw33.out rfl)
          refine (lw_get w37 HRB.out hcb hmb).mono ?_
          rintro e w38 ⟨⟨gq, cq, rfl, hgq, hcq⟩, hb⟩
          replace Cw := Lib.hid (Cw.out.trans (hb.mono Cw.out.size))
          replace Cw33 := Lib.hid (Cw33.out.trans (hb.mono Cw33.out.size))
          have HGQ := Lib.hid hgq
          have HCQ := Lib.hid hcq
          clear hgq hcq HRB
          clear hb
          have Cw38 := Lib.hid (Below.refl w38.heap.size w38)
          go_wp2_with fail
          refine (getE_nil w38).mono ?_
          rintro e w39 ⟨rfl, hb⟩
          replace Cw := Lib.hid (Cw.out.trans (hb.mono Cw.out.size))
          replace Cw33 := Lib.hid (Cw33.out.trans (hb.mono Cw33.out.size))
          have Cw38 := Lib.hid hb
          clear hb
          go_upto_region 25 with fail
          have hb := (Below.refl w39.heap.size w39).alloc (Nat.le_refl _) (.cells #[.int .i64 0, .slice none 0 0] 29)
          generalize w39.alloc (.cells #[.int .i64 0, .slice none 0 0] 29) = wz at hb ⊢
          replace Cw := Lib.hid (Cw.out.trans (hb.mono Cw.out.size))
          replace Cw33 := Lib.hid (Cw33.out.trans (hb.mono Cw33.out.size))
          replace Cw38 := Lib.hid (Cw38.out.trans (hb.mono Cw38.out.size))
          clear hb
          have HPZ := Lib.hid (HPS.out.below Cw33.out)
          have hge := HGQ.out
          have HQR := Lib.hid (show wz.rangeAt gq 50209 (pcV 2183 1).cells from fun j y hy => (Cw38.out.cell (p := ⟨gq, 50209 + j, none⟩) hge).trans (HCQ.out j y hy))
          have HPRR := Lib.hid (show wz.rangeAt gp 50209 (pcV 2183 1).cells from fun j y hy => HPZ.out.cell (i := 2183) (by omega) hy)
          have HS52 := Lib.hid (show (Try.prog.info? 52).map (·.size) = some (pcV 2183 1).cells.length by rw [Pc.cells_length (pcV_ok 2183 1 (by omega))]; exact size39)
          have heq : ∀ W : World, (Op.equalIn 10000 52 (.agg (pcV 2183 1).cells.toArray) (.agg (pcV 2183 1).cells.toArray)).run Try.prog W = .ok true W := by
            rw [cells2183]
            exact aC_eq
          clear hge HPZ
          generalize (pcV 2183 1).cells = cz at *
          refine wp_region_quiet_lit (by kernel_rfl) (by kernel_rfl) ?_
          iterate 22 quiet_step (fail)
          refine wpQuiet_load_mid rfl 52 _ rfl gq 50209 rfl cz _ (fun W hW => by obtain ⟨q, rfl⟩ := hW; exact HQR.out) Try.underlying52 rfl HS52.out ?_
          iterate 2 quiet_step (fail)
          refine wpQuiet_load_mid rfl 52 _ rfl gp 50209 rfl cz _ (fun W hW => by obtain ⟨q, rfl⟩ := hW; exact HPRR.out) Try.underlying52 rfl HS52.out ?_
          iterate 7 quiet_step (fail)
          refine wpQuiet_nil ?_
          rintro _ ⟨nq, rfl⟩
          clear heq
          have hb := below_drewN (Below.refl wz.heap.size wz) nq
          generalize wz.drewN nq = wy at hb ⊢
          replace Cw := Lib.hid (Cw.out.trans (hb.mono Cw.out.size))
          replace Cw33 := Lib.hid (Cw33.out.trans (hb.mono Cw33.out.size))
          replace Cw38 := Lib.hid (Cw38.out.trans (hb.mono Cw38.out.size))
          clear hb
          go_wp2_with fail
          refine (four_any wy).mono ?_
          rintro e w40 ⟨rfl, hb⟩
          replace Cw := Lib.hid (Cw.out.trans (hb.mono Cw.out.size))
          replace Cw33 := Lib.hid (Cw33.out.trans (hb.mono Cw33.out.size))
          replace Cw38 := Lib.hid (Cw38.out.trans (hb.mono Cw38.out.size))
          clear hb
          go_wp2_with fail
          refine (full_any w40).mono ?_
          rintro e w41 ⟨rfl, hb⟩
          replace Cw := Lib.hid (Cw.out.trans (hb.mono Cw.out.size))
          replace Cw33 := Lib.hid (Cw33.out.trans (hb.mono Cw33.out.size))
          replace Cw38 := Lib.hid (Cw38.out.trans (hb.mono Cw38.out.size))
          clear hb
          go_wp2_with fail
          refine (awake12 w41).mono ?_
          rintro e w42 ⟨rfl, hb⟩
          replace Cw := Lib.hid (Cw.out.trans (hb.mono Cw.out.size))
          replace Cw33 := Lib.hid (Cw33.out.trans (hb.mono Cw33.out.size))
          replace Cw38 := Lib.hid (Cw38.out.trans (hb.mono Cw38.out.size))
          clear hb
          go_wp2
          go_ret
          exact ⟨rfl, Cw.out⟩
end Go.Proofs.Ytlhhkmpidnegcaa
