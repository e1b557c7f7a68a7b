/- The reference of chapter 16: Check: the walk. Condition: none beyond a slice's own. -/
import Derived.Test.YtaiekpdoljleeaaVaKit
import Derived.Test.YtaiekpdoljleeaaVaLaw
namespace Go.Proofs.Ytaiekpdoljleeaa
open Go.RowKit Go.WideShapes
set_option linter.unusedVariables false
set_option linter.unusedSimpArgs false
theorem no_good {post : Bool} {ps : List (Nat × In)} {k : Nat} {p : Nat × In} (hp : ps[k]? = some p) (h : (post || p.2.o != 26) = false) : checkI post ps = false := by
  unfold checkI
  have : goodI post ps = false := by
    unfold goodI
    rw [List.all_eq_false]
    exact ⟨p, List.mem_iff_getElem?.2 ⟨k, hp⟩, by rw [h]; decide⟩
  rw [this]; rfl
theorem no_goal {post : Bool} {ps : List (Nat × In)} {k : Nat} {p : Nat × In} (hp : ps[k]? = some p) (h27 : 27 ≤ p.2.o) (h : (startsI ps).contains p.2.n = false) : checkI post ps = false := by
  unfold checkI
  have : (goesI ps).all (fun x => (startsI ps).contains x) = false := by
    rw [List.all_eq_false]
    exact ⟨p.2.n, goes_mem hp h27, by rw [h]; decide⟩
  rw [this]; simp
theorem no_end {post : Bool} {ps : List (Nat × In)} {k : Nat} {p : Nat × In} (hp : ps[k]? = some p) (hk : k + 1 = ps.length) (h : endI p.2.o = false) : checkI post ps = false := by
  unfold checkI
  rw [last_of hp hk, h]; simp
/-- All that Check asks of one instruction. -/
structure Fine (post : Bool) (ps : List (Nat × In)) (k : Nat) (p : Nat × In) : Prop where
  good : (post || p.2.o != 26) = true
  goal : 27 ≤ p.2.o → (startsI ps).contains p.2.n = true
  last : k + 1 = ps.length → endI p.2.o = true
theorem all_fine {post : Bool} {ps : List (Nat × In)} (h : ∀ (k : Nat) (p : Nat × In), ps[k]? = some p → Fine post ps k p) (hn : 0 < ps.length) : checkI post ps = true := by
  unfold checkI
  simp only [Bool.and_eq_true]
  refine ⟨⟨?_, ?_⟩, ?_⟩
  · unfold goodI
    rw [List.all_eq_true]
    intro p hp
    obtain ⟨k, hk⟩ := List.mem_iff_getElem?.1 hp
    exact (h k p hk).good
  · rw [List.all_eq_true]
    intro x hx
    obtain ⟨p, hp, rfl⟩ := List.mem_map.1 hx
    obtain ⟨hp, h27⟩ := List.mem_filter.1 hp
    obtain ⟨k, hk⟩ := List.mem_iff_getElem?.1 hp
    exact (h k p hk).goal (by simpa using h27)
  · obtain ⟨p, hp⟩ : ∃ p, ps[ps.length - 1]? = some p := ⟨_, List.getElem?_eq_getElem (by omega)⟩
    rw [last_of hp (by omega)]
    exact (h _ p hp).last (by omega)
set_option maxRecDepth 100000 in
set_option maxHeartbeats 8000000 in
theorem check16 (bs : List Int) (A : Option Addr) (n c : Nat) (ps : List (Nat × In)) (z : Nat) (post : Bool) (w : World) (hn : n = bs.length) (ho : Oct bs) (hr : Rd w A (octs bs)) (hnm : n ≤ 9223372036854775807) (hs : n ≤ 4096 → Scan bs ps z) :
    Calls Try.prog 32 #[.slice A n c, .bool post] w (IsCheck bs ps z post w) := by
  have hst := starts16 bs A n c ps z w hn ho hr hnm hs
  have HST := Lib.hid hst
  have HN := Lib.hid hn
  have HO := Lib.hid ho
  have HR := Lib.hid hr
  have HS := Lib.hid hs
  clear hst hn ho hr hs
  go_enter Try.func32, Try.ntmps32
  go_wp2_with fail
  refine (HST.out).mono ?_
  rintro e w1 ⟨⟨A1, c1, rfl, hr1⟩, hb1⟩
  rcases (show codeS bs z = 0 ∨ codeS bs z ≠ 0 from by omega) with h | h
  · have hls : listS bs ps z = startsI ps := by unfold listS; rw [if_pos h]
    have hlen : bs.length ≤ 4096 ∧ 0 < bs.length := by
      unfold codeS at h
      split at h
      · omega
      · split at h
        · omega
        · omega
    have hsc := HS.out (by have := HN.out; omega)
    have hz : z = bs.length := by
      unfold codeS at h
      rw [if_neg (by omega), if_neg (by omega)] at h
      split at h
      · assumption
      · omega
    have hpl : ps.length ≤ 4096 ∧ 0 < ps.length := by
      have h1 := hsc.chain.le (by omega)
      refine ⟨by omega, ?_⟩
      rcases ps with _ | ⟨p, ps⟩
      · have h2 : 0 = z := hsc.chain
        omega
      · simp
    have hec : codeC bs ps z post = if checkI post ps then 0 else 110 := by unfold codeC; rw [if_pos h]
    rw [hls] at hr1 ⊢
    rw [h, startsI_length]
    obtain ⟨m, hm⟩ : ∃ m, ps.length = m := ⟨_, rfl⟩
    rw [hm] at hpl ⊢
    have HM := Lib.hid hm
    have HEC := Lib.hid hec
    have HSC := Lib.hid hsc
    have R1 := Lib.hid hr1
    have B1 := Lib.hid hb1
    have m1 := hpl.1
    have m0 := hpl.2
    clear hls hlen hsc hz hpl hec hm h hr1 hb1 HST HS
    go_wp2_with fail
    go_loopw [7] (fun i wr => ∃ k : Nat, k ≤ m ∧ i = .int .i64 k ∧ (∀ (j : Nat) (p : Nat × In), j < k → ps[j]? = some p → Fine post ps j p) ∧ Below w1.heap.size w1 wr) (fun i _ => m - (intOf i).toNat)
    case atStart => exact ⟨0, by omega, rfl, fun j p hj => absurd hj (by omega), Below.refl _ _⟩
    case round =>
      obtain ⟨k, hk, rfl, hfine, hbr⟩ := hrel
      have HF := Lib.hid hfine
      have hbw := ch0 B1.out hbr
      have BW := Lib.hid hbw
      have BR := Lib.hid hbr
      clear hfine hbw hbr
      by_cases hlt : k < m
      · have g1 : decide (k < m) = true := by simpa using hlt
        have hkI : (k : Int) < (m : Int) := by omega
        obtain ⟨p, hp⟩ : ∃ p, ps[k]? = some p := ⟨_, List.getElem?_eq_getElem (by rw [HM.out]; exact hlt)⟩
        have hrd1 := R1.out.below BR.out rfl
        obtain ⟨b2, o2, hA1, _, hcell⟩ := hrd1.at (k := k) (u := .int .i64 (p.1 : Int)) (by unfold ints startsI; rw [List.getElem?_map, List.getElem?_map, hp]; rfl)
        subst hA1
        obtain ⟨hpl, n2, hge, hgot⟩ := HSC.out.chain.at k p hp
        have hgt := getR_any bs A n c p.1 wr HN.out HO.out (HR.out.below BW.out rfl) hnm
        rw [hge] at hgt
        have HGT := Lib.hid hgt
        have HP := Lib.hid hp
        have ho0 := hgot.o0
        have ho1 := hgot.o1
        have hbd := (right_bd hgot.right).2.2
        have hn0 := hbd.1
        have hn1 := hbd.2
        have HH1 := Lib.hid hrd1
        obtain ⟨a, t⟩ := p
        obtain ⟨o, dd, s, nn⟩ := t
        simp only at ho0 ho1 hn0 hn1 HGT hcell
        clear hp hgt hge hgot hbd hrd1 hpl
        go_wp2_with fail
        refine (HGT.out).mono ?_
        rintro e w2 ⟨rfl, hb2⟩
        have hbB := Blk.new w2 36 #[.int .u8 o, .int .i64 dd, .int .i64 s, .int .i64 nn]
        have hb3 := (ch0 BR.out hb2).alloc (ch0 BR.out hb2).size (.cells #[.int .u8 o, .int .i64 dd, .int .i64 s, .int .i64 nn] 36)
        have B3 := Lib.hid hb3
        have BB := Lib.hid hbB
        have BW3 := Lib.hid (ch0 B1.out B3.out)
        have HBAD := Lib.hid (fun (h : checkI post ps = false) W (hW : Below w.heap.size w W) => show IsCheck bs ps z post w (.returned (.int .i64 110)) W from ⟨by rw [HEC.out, h]; rfl, hW⟩)
        have HCON := Lib.hid (fun (h : Fine post ps k (a, ⟨o, dd, s, nn⟩)) (j : Nat) (p : Nat × In) (hj : j < k + 1) (hp : ps[j]? = some p) => show Fine post ps j p from by
          rcases Nat.lt_or_ge j k with h1 | h1
          · exact HF.out j p h1 hp
          · obtain rfl : j = k := by omega
            rw [HP.out] at hp
            obtain rfl := Option.some.inj hp
            exact h)
        clear hb2 hb3 hbB
        unfold In.agg
        by_cases h26 : o = 26
        · subst h26
          cases post
          · have hbad := HBAD.out (no_good HP.out rfl)
            have HBD := Lib.hid hbad
            clear hbad HBAD HCON
            go_wp2_with fail
            go_ret
            exact HBD.out _ BW3.out
          · have hno : k + 1 = ps.length → checkI true ps = false := fun h => no_end HP.out h rfl
            have HNO := Lib.hid hno
            clear hno
            rcases (show k + 1 = m ∨ k + 1 ≠ m from by omega) with hl | hl
            · have g4 : ((k : Int) == (m : Int) - 1) = true := by simp; omega
              have hbad := HBAD.out (HNO.out (by rw [HM.out]; exact hl))
              have HBD := Lib.hid hbad
              clear hbad HBAD HCON hl
              go_wp2_with fail
              go_ret
              exact HBD.out _ BW3.out
            · have g4 : ((k : Int) == (m : Int) - 1) = false := by simp; omega
              have hcon := HCON.out ⟨rfl, fun h => absurd h (by simp only; omega), fun h => absurd h (by rw [HM.out]; exact hl)⟩
              have HC := Lib.hid hcon
              clear hcon HBAD HCON hl
              go_wp2_with fail
              go_roundw
              case rel => exact ⟨k + 1, by omega, by go_num, HC.out, B3.out⟩
              case measure => simp [intOf]; omega
        · have e26 : (o == 26) = false := by simpa using h26
          have hgood : (post || o != 26) = true := by simp [bne_iff_ne, h26]
          have HGD := Lib.hid hgood
          clear hgood h26
          rcases (show o < 27 ∨ 27 ≤ o from by omega) with h27 | h27
          · have g5 : decide (27 ≤ o) = false := by simp; omega
            rcases (show k + 1 = m ∨ k + 1 ≠ m from by omega) with hl | hl
            · have g4 : ((k : Int) == (m : Int) - 1) = true := by simp; omega
              obtain ⟨e0, he0⟩ : ∃ b : Bool, endI o = b := ⟨_, rfl⟩
              cases e0
              · have hne : o ≠ 0 ∧ o ≠ 29 ∧ o ≠ 30 := by unfold endI at he0; simp at he0; omega
                have d0 : (o != 0) = true := by simpa using hne.1
                have d1 : (o != 29) = true := by simpa using hne.2.1
                have d2 : (o != 30) = true := by simpa using hne.2.2
                have hbad := HBAD.out (no_end HP.out (by rw [HM.out]; exact hl) he0)
                have HBD := Lib.hid hbad
                clear hbad HBAD HCON hl he0 hne
                go_wp2_with fail
                go_ret
                exact HBD.out _ BW3.out
              · have hcon := HCON.out ⟨HGD.out, fun h => absurd h (by simp only; omega), fun _ => he0⟩
                have HC := Lib.hid hcon
                have hend : o = 0 ∨ o = 29 ∨ o = 30 := by unfold endI at he0; simp at he0; omega
                clear hcon HBAD HCON hl he0
                rcases hend with rfl | rfl | rfl
                all_goals
                  first
                    | omega
                    | (go_wp2_with fail
                       go_roundw
                       case rel => exact ⟨k + 1, by omega, by go_num, HC.out, B3.out⟩
                       case measure => simp [intOf]; omega)
            · have g4 : ((k : Int) == (m : Int) - 1) = false := by simp; omega
              have hcon := HCON.out ⟨HGD.out, fun h => absurd h (by simp only; omega), fun h => absurd h (by rw [HM.out]; exact hl)⟩
              have HC := Lib.hid hcon
              clear hcon HBAD HCON hl
              go_wp2_with fail
              go_roundw
              case rel => exact ⟨k + 1, by omega, by go_num, HC.out, B3.out⟩
              case measure => simp [intOf]; omega
          · have g5 : decide (27 ≤ o) = true := by simp; omega
            go_wp2_with fail
            go_loopw [11, 12] (fun f j wq => ∃ (q : Nat), q ≤ m ∧ j = .int .i64 q ∧ f = .bool (((startsI ps).take q).contains nn) ∧ Blk wq w2.heap.size 36 #[.int .u8 o, .int .i64 dd, .int .i64 s, .int .i64 nn] ∧ Below w1.heap.size w1 wq) (fun _ j _ => m - (intOf j).toNat)
            case atStart => exact ⟨0, by omega, rfl, by simp, BB.out, B3.out⟩
            case round =>
              obtain ⟨q, hq, rfl, rfl, hbq, hbw⟩ := hrel
              have HBQ := Lib.hid hbq
              have HBW := Lib.hid hbw
              clear hbq hbw
              by_cases hqm : q < m
              · have g6 : decide (q < m) = true := by simpa using hqm
                have hqI : (q : Int) < (m : Int) := by omega
                have hq0 : (0 : Int) ≤ (q : Int) := by omega
                obtain ⟨x, hx⟩ : ∃ x, (startsI ps)[q]? = some x := ⟨_, List.getElem?_eq_getElem (by rw [startsI_length, HM.out]; exact hqm)⟩
                have hrd2 := R1.out.below HBW.out rfl
                obtain ⟨b3, o3, hA3, _, hcx⟩ := hrd2.at (k := q) (u := .int .i64 x) (by unfold ints; rw [List.getElem?_map, hx]; rfl)
                injection hA3 with hA3
                injection hA3 with e1 e2
                subst e1 e2
                have c3 := HBQ.out.cell 3
                simp at c3
                have hnew : ((startsI ps).take (q + 1)).contains nn = (((startsI ps).take q).contains nn || x == nn) := by
                  rw [List.take_add_one, hx]
                  by_cases e : x = nn
                  · subst e; simp
                  · have e' : nn ≠ x := fun h => e h.symm
                    simp [e, e']
                obtain ⟨f0, hf0⟩ : ∃ f : Bool, ((startsI ps).take q).contains nn = f := ⟨_, rfl⟩
                obtain ⟨f1, hf1⟩ : ∃ f : Bool, (x == nn) = f := ⟨_, rfl⟩
                rw [hf0, hf1] at hnew
                rw [hf0]
                have HNW := Lib.hid hnew
                clear hrd2 hx hnew hf0
                cases f0
                · go_wp2_with fail
                  go_quiet (fail)
                  go_wp2_with fail
                  go_roundw
                  case rel => exact ⟨q + 1, by omega, by go_num, by rw [HNW.out]; rfl, HBQ.out.drewN _, below_drewN HBW.out _⟩
                  case measure => simp [intOf]; omega
                · go_wp2_with fail
                  go_quiet (fail)
                  go_wp2_with fail
                  go_roundw
                  case rel => exact ⟨q + 1, by omega, by go_num, by rw [HNW.out]; rfl, HBQ.out.drewN _, below_drewN HBW.out _⟩
                  case measure => simp [intOf]; omega
              · have g6 : decide (q < m) = false := by simpa using hqm
                obtain rfl : q = m := by omega
                rw [List.take_of_length_le (by rw [startsI_length, HM.out]; exact Nat.le_refl _)]
                have c0 := HBQ.out.cell 0
                simp at c0
                have B4 := HBW
                have BW4 := Lib.hid (ch0 B1.out HBW.out)
                obtain ⟨f0, hf0⟩ : ∃ f : Bool, (startsI ps).contains nn = f := ⟨_, rfl⟩
                rw [hf0]
                have HF0 := Lib.hid hf0
                clear hf0
                cases f0
                · have hbad := HBAD.out (no_goal HP.out h27 HF0.out)
                  have HBD := Lib.hid hbad
                  clear hbad HBAD HCON
                  go_wp2_with fail
                  go_ret
                  exact HBD.out _ BW4.out
                · rcases (show k + 1 = q ∨ k + 1 ≠ q from by omega) with hl | hl
                  · have g4 : ((k : Int) == (q : Int) - 1) = true := by simp; omega
                    obtain ⟨e0, he0⟩ : ∃ b : Bool, endI o = b := ⟨_, rfl⟩
                    cases e0
                    · have hne : o ≠ 0 ∧ o ≠ 29 ∧ o ≠ 30 := by unfold endI at he0; simp at he0; omega
                      have d0 : (o != 0) = true := by simpa using hne.1
                      have d1 : (o != 29) = true := by simpa using hne.2.1
                      have d2 : (o != 30) = true := by simpa using hne.2.2
                      have hbad := HBAD.out (no_end HP.out (by rw [HM.out]; exact hl) he0)
                      have HBD := Lib.hid hbad
                      clear hbad HBAD HCON hl he0 hne
                      go_wp2_with fail
                      go_ret
                      exact HBD.out _ BW4.out
                    · have hcon := HCON.out ⟨HGD.out, fun _ => HF0.out, fun _ => he0⟩
                      have HC := Lib.hid hcon
                      have hend : o = 0 ∨ o = 29 ∨ o = 30 := by unfold endI at he0; simp at he0; omega
                      clear hcon HBAD HCON hl he0
                      rcases hend with rfl | rfl | rfl
                      all_goals
                        first
                          | omega
                          | (go_wp2_with fail
                             go_roundw
                             case rel => exact ⟨k + 1, by omega, by go_num, HC.out, B4.out⟩
                             case measure => simp [intOf]; omega)
                  · have g4 : ((k : Int) == (q : Int) - 1) = false := by simp; omega
                    have hcon := HCON.out ⟨HGD.out, fun _ => HF0.out, fun h => absurd h (by rw [HM.out]; exact hl)⟩
                    have HC := Lib.hid hcon
                    clear hcon HBAD HCON hl
                    go_wp2_with fail
                    go_roundw
                    case rel => exact ⟨k + 1, by omega, by go_num, HC.out, B4.out⟩
                    case measure => simp [intOf]; omega
      · have g1 : decide (k < m) = false := by simpa using hlt
        obtain rfl : k = m := by omega
        have hok : checkI post ps = true := all_fine (fun j p hp => HF.out j p (by have := (List.getElem?_eq_some_iff.1 hp).1; rw [HM.out] at this; exact this) hp) (by rw [HM.out]; exact m0)
        have hfin : IsCheck bs ps z post w (.returned (.int .i64 0)) wr := ⟨by rw [HEC.out, hok]; rfl, BW.out⟩
        have HFN := Lib.hid hfin
        clear hok hfin
        go_wp2_with fail
        go_ret
        exact HFN.out
  · have ec : codeC bs ps z post = codeS bs z := by unfold codeC; rw [if_neg h]
    have g : (codeS bs z != 0) = true := by simpa using h
    have HF := Lib.hid (show IsCheck bs ps z post w (.returned (.int .i64 (codeS bs z))) w1 from ⟨by rw [ec], hb1⟩)
    generalize codeS bs z = x at *
    clear h ec hr1 hb1 HST
    go_wp2_with fail
    go_ret
    exact HF.out
end Go.Proofs.Ytaiekpdoljleeaa
