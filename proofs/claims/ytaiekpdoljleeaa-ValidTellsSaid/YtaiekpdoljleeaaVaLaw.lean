/- ValidStays' walk: any bytes, any choices: true; nothing that was there is written. No condition. -/
import Derived.Test.YtaiekpdoljleeaaVaAw
namespace Go.Proofs.Ytaiekpdoljleeaa
open Go.RowKit Go.WideShapes Go.Maps
set_option linter.unusedVariables false
set_option linter.unusedSimpArgs false
theorem chain_next {bs : List Int} : ∀ {ps : List (Nat × In)} {a z : Nat}, Chain bs a ps z → ∀ (k : Nat) (p : Nat × In), ps[k]? = some p → ∃ n : Nat, getI bs p.1 = (p.2, (n : Int), 0) ∧ Got bs p.1 p.2 n ∧ (k + 1 = ps.length ∨ ∃ q, ps[k + 1]? = some q ∧ q.1 = n)
  | [], a, z, h, k, p, hp => by simp at hp
  | q :: ps, a, z, h, k, p, hp => by
    obtain ⟨h0, hlt, n, h1, hg, hc⟩ := h
    rcases k with _ | k
    · simp at hp
      subst hp
      refine ⟨n, by rw [h0]; exact h1, by rw [h0]; exact hg, ?_⟩
      rcases ps with _ | ⟨q2, ps⟩
      · exact .inl rfl
      · exact .inr ⟨q2, rfl, hc.1⟩
    · obtain ⟨n2, h2, h3, h4⟩ := chain_next hc k p (by simpa using hp)
      exact ⟨n2, h2, h3, by simpa using h4⟩
theorem last_of {ps : List (Nat × In)} {k : Nat} {p : Nat × In} (h : ps[k]? = some p) (hk : k + 1 = ps.length) : lastI ps = p.2.o := by
  unfold lastI
  rw [List.getLast?_eq_getElem?, show ps.length - 1 = k by omega, h]
theorem starts_mem {ps : List (Nat × In)} {x : Int} (h : x ∈ startsI ps) : ∃ (k : Nat) (p : Nat × In), ps[k]? = some p ∧ (p.1 : Int) = x := by
  unfold startsI at h
  obtain ⟨p, hp, e⟩ := List.mem_map.1 h
  obtain ⟨k, hk⟩ := List.mem_iff_getElem?.1 hp
  exact ⟨k, p, hk, e⟩
theorem mem_starts {ps : List (Nat × In)} {k : Nat} {p : Nat × In} (h : ps[k]? = some p) : (p.1 : Int) ∈ startsI ps := List.mem_map.2 ⟨p, List.mem_iff_getElem?.2 ⟨k, h⟩, rfl⟩
theorem goes_mem {ps : List (Nat × In)} {k : Nat} {p : Nat × In} (h : ps[k]? = some p) (ho : 27 ≤ p.2.o) : p.2.n ∈ goesI ps :=
  List.mem_map.2 ⟨p, List.mem_filter.2 ⟨List.mem_iff_getElem?.2 ⟨k, h⟩, by simpa using ho⟩, rfl⟩
/-- Right code: its instructions. -/
structure IsOk (bs : List Int) (ps : List (Nat × In)) (z : Nat) (post : Bool) : Prop where
  scan : Scan bs ps z
  len : bs.length ≤ 4096
  pos : 0 < bs.length
  all : z = bs.length
  chk : checkI post ps = true
theorem isOk_of {bs : List Int} {ps : List (Nat × In)} {z : Nat} {post : Bool} (hs : Scan bs ps z) (h : codeC bs ps z post = 0) : IsOk bs ps z post := by
  unfold codeC at h
  by_cases h0 : codeS bs z = 0
  · rw [if_pos h0] at h
    have h1 : checkI post ps = true := by
      cases hc : checkI post ps with
      | true => rfl
      | false => rw [hc] at h; simp at h
    unfold codeS at h0
    split at h0
    · omega
    · split at h0
      · omega
      · split at h0
        · exact ⟨hs, by omega, by omega, by assumption, h1⟩
        · omega
  · rw [if_neg h0] at h
    exact absurd h h0
theorem checkI_post {post : Bool} {ps : List (Nat × In)} (h : checkI post ps = true) : checkI true ps = true := by
  unfold checkI at *
  simp only [Bool.and_eq_true] at *
  exact ⟨⟨by simp [goodI], h.1.2⟩, h.2⟩
theorem IsOk.codeS {bs : List Int} {ps : List (Nat × In)} {z : Nat} {post : Bool} (h : IsOk bs ps z post) : codeS bs z = 0 := by
  unfold Go.Proofs.Ytaiekpdoljleeaa.codeS
  rw [if_neg (by have := h.len; omega), if_neg (by have := h.pos; omega), if_pos h.all]
/-- The place where the program stands is a start; what its instruction may lead to is one. -/
theorem IsOk.step {bs : List Int} {ps : List (Nat × In)} {z : Nat} {post : Bool} (h : IsOk bs ps z post) {k : Nat} {p : Nat × In} (hp : ps[k]? = some p) :
    ∃ n : Nat, getI bs p.1 = (p.2, (n : Int), 0) ∧ Got bs p.1 p.2 n ∧ (post || p.2.o != 26) = true ∧ (27 ≤ p.2.o → ∃ (j : Nat) (q : Nat × In), ps[j]? = some q ∧ (q.1 : Int) = p.2.n) ∧ (p.2.o ≠ 0 → p.2.o ≠ 29 → p.2.o ≠ 30 → ∃ (j : Nat) (q : Nat × In), ps[j]? = some q ∧ q.1 = n) := by
  obtain ⟨n, h1, h2, h3⟩ := chain_next h.scan.chain k p hp
  have hc := h.chk
  unfold checkI at hc
  simp only [Bool.and_eq_true] at hc
  refine ⟨n, h1, h2, ?_, fun h27 => ?_, fun a b c => ?_⟩
  · have := hc.1.1
    unfold goodI at this
    exact List.all_eq_true.1 this p (List.mem_iff_getElem?.2 ⟨k, hp⟩)
  · have := List.all_eq_true.1 hc.1.2 _ (goes_mem hp h27)
    exact starts_mem (by simpa using this)
  · rcases h3 with h3 | ⟨q, hq, e⟩
    · have := hc.2
      rw [last_of hp h3] at this
      unfold endI at this
      simp at this
      omega
    · exact ⟨_, q, hq, e⟩
theorem pick_pos (x n : Nat) (w : World) (hn : 0 < n) (hm : n ≤ 9223372036854775807) (hx : x ≤ 1000) : Calls Try.prog 19 #[.int .i64 x, .int .i64 n] w (Same (.int .i64 ((x % n : Nat) : Int)) w) := by
  have h := Nat.mod_lt x hn
  have hz : ((n : Int) == 0) = false := by simp; omega
  have e1 : decide ((n : Int) < 1) = false := by simp; omega
  have e2 : (x : Int).tmod n = ((x % n : Nat) : Int) := by rw [Int.tmod_eq_emod_of_nonneg (by omega)]; rfl
  have e3 : (x : Int) % n = ((x % n : Nat) : Int) := rfl
  generalize x % n = r at *
  go_enter Try.func19, Try.ntmps19
  go_wp2
  go_ret
  exact ⟨rfl, rfl⟩
/-- Where the loop stands: at a start. -/
structure AtStart (ps : List (Nat × In)) (mb m : Nat) (w0 : World) (x : Value) (w : World) : Prop where
  at_ : ∃ (j : Nat) (q : Nat × In), ps[j]? = some q ∧ x = .int .i64 (q.1 : Int)
  set : KSet w mb m (startsI ps)
  low : Below w0.heap.size w0 w
theorem AtStart.below {ps : List (Nat × In)} {mb m : Nat} {w0 w w' : World} {x : Value} (h : AtStart ps mb m w0 x w) (hb : Below w.heap.size w w') : AtStart ps mb m w0 x w' := ⟨h.at_, h.set.below hb, ch0 h.low hb⟩
theorem AtStart.to {ps : List (Nat × In)} {mb m : Nat} {w0 w : World} {x y : Value} (h : AtStart ps mb m w0 x w) (hy : ∃ (j : Nat) (q : Nat × In), ps[j]? = some q ∧ y = .int .i64 (q.1 : Int)) : AtStart ps mb m w0 y w := ⟨hy, h.set, h.low⟩
set_option maxRecDepth 100000 in
set_option maxHeartbeats 8000000 in
theorem stays_any (bs : List Int) (A : Option Addr) (n c : Nat) (post : Bool) (qs : List Bool) (B : Option Addr) (nq d : Nat) (w : World) (hn : n = bs.length) (ho : Oct bs) (hr : Rd w A (octs bs)) (hnm : n ≤ 9223372036854775807) (hq : nq = qs.length) (hqr : Rd w B (qs.map Value.bool)) (hqm : nq ≤ 9223372036854775807) :
    Calls Try.prog 7 #[.slice A n c, .bool post, .slice B nq d] w (Quiet (.bool true) w) := by
  have HN := Lib.hid hn
  have HO := Lib.hid ho
  have HR := Lib.hid hr
  have HQ := Lib.hid hq
  have HQR := Lib.hid hqr
  clear hn ho hr hq hqr
  have hc1 := chk_any bs A n c post w HN.out HO.out HR.out hnm
  have HC1 := Lib.hid hc1
  clear hc1
  by_cases hok : chk bs post = 0
  · have hlen : bs.length ≤ 65536 := by
      unfold chk codeC codeS at hok
      rcases Nat.lt_or_ge 4096 bs.length with h | h
      · rw [if_pos h] at hok; simp at hok
      · omega
    have hsc := scan_F bs HO.out hlen
    have hi := isOk_of hsc hok
    have hk2 : chk bs true = 0 := by
      unfold chk codeC
      rw [if_pos hi.codeS, if_pos (checkI_post hi.chk)]
    have hst := fun W (h : Below w.heap.size w W) => starts_any bs A n c (psF bs) (zF bs) W HN.out HO.out (HR.out.below h rfl) hnm (fun _ => hsc)
    have hcs := hi.codeS
    have hls : listS bs (psF bs) (zF bs) = startsI (psF bs) := by unfold listS; rw [if_pos hcs]
    have hlp : (startsI (psF bs)).length ≤ 4096 := by
      have := hi.scan.chain.le (by omega)
      have := hi.len
      rw [startsI_length]; omega
    have h0 : ∃ q, (psF bs)[0]? = some q ∧ q.1 = 0 := by
      have := hi.scan.chain
      generalize psF bs = l at this
      rcases l with _ | ⟨q, l⟩
      · have h : 0 = zF bs := this
        have := hi.all
        have := hi.pos
        omega
      · exact ⟨q, rfl, this.1⟩
    have HI := Lib.hid hi
    have HK2 := Lib.hid hk2
    have HCS := Lib.hid hcs
    have HLS := Lib.hid hls
    have HST := Lib.hid hst
    have HOK := Lib.hid hok
    have H0 := Lib.hid h0
    generalize psF bs = ps at *
    generalize zF bs = z at *
    clear hok hlen hsc hi hk2 hst hcs hls h0
    have hmm := @run_makeMap Try.prog
    go_enter Try.func7, Try.ntmps7
    go_wp2_with fail
    refine (HC1.out).mono ?_
    rw [HOK.out]
    rintro e w1 ⟨rfl, hb1⟩
    have B1 := Lib.hid hb1
    clear hb1
    go_wp2_with fail
    refine (HST.out w1 B1.out).mono ?_
    rintro e w2 ⟨⟨A2, c2, rfl, hr2⟩, hb2⟩
    rw [HCS.out]
    rw [HLS.out] at hr2 ⊢
    have B2 := Lib.hid (ch0 B1.out hb2)
    have R2 := Lib.hid hr2
    clear hb2 hr2
    obtain ⟨m, hm⟩ : ∃ m, (startsI ps).length = m := ⟨_, rfl⟩
    rw [hm] at hlp ⊢
    have HM := Lib.hid hm
    clear hm
    go_wp2_with fail
    refine (chk_any bs A n c true w2 HN.out HO.out (HR.out.below B2.out rfl) hnm).mono ?_
    rw [HK2.out]
    rintro e w3 ⟨rfl, hb3⟩
    have B3 := Lib.hid (ch0 B2.out hb3)
    have R3 := Lib.hid (R2.out.below hb3 rfl)
    clear hb3
    have hwf : ∀ x ∈ startsI ps, (Lit.int .i64 x).wf = true := fun x hx => by
      obtain ⟨k, p, hp, e⟩ := starts_mem hx
      have := (HI.out.scan.chain.at k p hp).1
      have := HI.out.len
      subst e
      simp [Lit.wf, IntKind.min, IntKind.max, IntKind.signed, IntKind.bits]; omega
    have HWF := Lib.hid hwf
    clear hwf
    have hk0 := kset_new w3
    have HK0 := Lib.hid hk0
    have R4 := Lib.hid (R3.out.alloc (.map #[] 0))
    have B4 := Lib.hid (B3.out.alloc B3.out.size (.map #[] 0))
    have hA2 := R3.out.low0
    have HA2 := Lib.hid hA2
    clear hk0 hA2
    go_wp2_with fail
    obtain ⟨W0, hW0⟩ : ∃ W, W = w3.alloc (.map #[] 0) := ⟨_, rfl⟩
    rw [← hW0] at HK0 R4 B4 ⊢
    have hmbs : w.heap.size ≤ w3.heap.size := B3.out.size
    have hmb1 : w3.heap.size < W0.heap.size := by rw [hW0]; simp
    clear hW0
    generalize w3.heap.size = mb at *
    go_loopw [38, 11] (fun i _ wr => ∃ k : Nat, k ≤ m ∧ i = .int .i64 k ∧ KSet wr mb k ((startsI ps).take k) ∧ Frm (fun q => q = mb) W0 wr) (fun i _ _ => m - (intOf i).toNat)
    case atStart => exact ⟨0, by omega, rfl, HK0.out, Frm.refl _ _⟩
    case round =>
      obtain ⟨k, hk, rfl, hks, hfr⟩ := hrel
      have HKS := Lib.hid hks
      have HFR := Lib.hid hfr
      clear hks hfr
      by_cases hlt : k < m
      · have g1 : decide (k < m) = true := by simpa using hlt
        have hkI : (k : Int) < (m : Int) := by omega
        obtain ⟨x, hx⟩ : ∃ x, (startsI ps)[k]? = some x := ⟨_, List.getElem?_eq_getElem (by rw [HM.out]; exact hlt)⟩
        have hrd := HFR.out.rd R4.out (fun q hq hlt2 e => by
          have h1 := HA2.out (by simp [ints, HM.out]; omega) q hq
          omega)
        obtain ⟨b2, o2, rfl, _, hcell⟩ := hrd.at (k := k) (u := .int .i64 x) (by unfold ints; rw [List.getElem?_map, hx]; rfl)
        obtain ⟨w5, hrun, hks5, hg5⟩ := HKS.out.store (by omega) x (HWF.out x (List.mem_iff_getElem?.2 ⟨k, hx⟩))
        have hk5 : KSet w5 mb (k + 1) ((startsI ps).take (k + 1)) := by rw [List.take_add_one, hx]; exact hks5
        have hf5 := HFR.out.trans (Frm.of_grown (S := fun q => q = mb) hg5 (fun q hq => (Option.some.inj hq).symm)) (fun _ _ h => h)
        have HK5 := Lib.hid hk5
        have HF5 := Lib.hid hf5
        clear hx hrd hks5 hg5 hk5 hf5
        go_wp2_with fail
        go_roundw
        case rel => exact ⟨k + 1, by omega, by go_num, HK5.out, HF5.out⟩
        case measure => simp [intOf]; omega
      · have g1 : decide (k < m) = false := by simpa using hlt
        obtain rfl : k = m := by omega
        have hfull : KSet wr mb k (startsI ps) := by have := HKS.out; rwa [List.take_of_length_le (by rw [HM.out]; exact Nat.le_refl _)] at this
        have hbl : Below w.heap.size w wr := B4.out.trans (HFR.out.to_below (by omega) (fun q hq => by omega))
        obtain ⟨q0, hq0, hq1⟩ := H0.out
        have hs0 : AtStart ps mb k w (.int .i64 0) wr := ⟨⟨0, q0, hq0, by rw [hq1]; rfl⟩, hfull, hbl⟩
        have HS0 := Lib.hid hs0
        clear hfull hbl hq0 hq1 hs0 HKS HFR H0
        go_wp2_with fail
        go_loopw [12, 13] (fun a i wr => ∃ v : Nat, v ≤ 500 ∧ i = .int .i64 v ∧ AtStart ps mb k w a wr) (fun _ i _ => 500 - (intOf i).toNat)
        case atStart => exact ⟨0, by omega, rfl, HS0.out⟩
        case round =>
          obtain ⟨v, hv, rfl, hst⟩ := hrel
          clear HS0 R4 B4 HA2
          obtain ⟨⟨j, q, hq, rfl⟩, _, _⟩ := id hst
          obtain ⟨n2, hg1, hg2, hg3, hg4, hg5⟩ := HI.out.step hq
          by_cases hv5 : v < 500
          · have g1 : decide ((v : Int) < 500) = true := by simp; omega
            have hgt := get_any bs A n c q.1 wr HN.out HO.out (HR.out.below hst.low rfl) hnm
            rw [hg1] at hgt
            have HGT := Lib.hid hgt
            have HST2 := Lib.hid hst
            have hwx : (Lit.int .i64 (q.1 : Int)).wf = true := HWF.out _ (mem_starts hq)
            have HWX := Lib.hid hwx
            have hin : (startsI ps).contains (q.1 : Int) = true := by simpa using mem_starts hq
            have HIN := Lib.hid hin
            have HG4 := Lib.hid hg4
            have HG5 := Lib.hid hg5
            have ho0 := hg2.o0
            have ho1 := hg2.o1
            have hrn := right_bd hg2.right
            have hn0 := hrn.2.2.1
            have hn1 := hrn.2.2.2
            obtain ⟨a, t⟩ := q
            obtain ⟨o, dd, s, nn⟩ := t
            simp only at hg3 ho0 ho1 hn0 hn1 HG4 HG5 HGT HWX HIN
            clear hq hg1 hg2 hg4 hg5 hgt hst hwx hin hrn
            go_wp2_with fail
            refine (HGT.out).mono ?_
            rintro e w6 ⟨rfl, hb6⟩
            have hb6' := (ch0 (Below.refl wr.heap.size wr) hb6).alloc hb6.size (.cells #[.int .u8 o, .int .i64 dd, .int .i64 s, .int .i64 nn] 36)
            have hs7 := HST2.out.below hb6'
            have hlk := hs7.set.look a HWX.out
            rw [HIN.out] at hlk
            simp only [if_true] at hlk
            have HS7 := Lib.hid hs7
            clear hb6 hb6' hs7
            unfold In.agg
            rcases (show o = 0 ∨ (o = 29 ∨ o = 30) ∨ (o = 27 ∨ o = 28) ∨ o = 26 ∨ ((1 ≤ o ∧ o ≤ 25) ∨ 31 ≤ o) from by omega) with h | h | h | h | h
            · subst h
              go_wp2_with fail
              refine (awakeV_any _).mono ?_
              rintro e w8 ⟨rfl, hb8⟩
              have B8 := Lib.hid (ch0 HS7.out.low hb8)
              clear hb8
              go_wp2_with fail
              go_ret
              exact ⟨rfl, B8.out⟩
            · have hto := HG4.out (by omega)
              have HS8 := Lib.hid (HS7.out.to (y := .int .i64 nn) (by obtain ⟨j2, q2, h1, h2⟩ := hto; exact ⟨j2, q2, h1, by rw [h2]⟩))
              clear hto hg3
              rcases h with rfl | rfl
              all_goals
                go_wp2_with fail
                go_roundw
                case rel => exact ⟨v + 1, by omega, by go_num, HS8.out⟩
                case measure => simp [intOf]; omega
            · have hto := HG4.out (by omega)
              have hnx := HG5.out (by omega) (by omega) (by omega)
              have HS8 := Lib.hid (HS7.out.to (y := .int .i64 nn) (by obtain ⟨j2, q2, h1, h2⟩ := hto; exact ⟨j2, q2, h1, by rw [h2]⟩))
              have HS9 := Lib.hid (HS7.out.to (y := .int .i64 n2) (by obtain ⟨j2, q2, h1, h2⟩ := hnx; exact ⟨j2, q2, h1, by rw [h2]⟩))
              clear hto hnx hg3
              rcases Nat.eq_zero_or_pos nq with hz | hz
              · subst hz
                rcases h with rfl | rfl
                all_goals
                  go_wp2_with fail
                  go_roundw
                  case rel => exact ⟨v + 1, by omega, by go_num, HS9.out⟩
                  case measure => simp [intOf]; omega
              · have hrd := HQR.out.below HS7.out.low rfl
                have hlt := Nat.mod_lt v hz
                obtain ⟨y, hy⟩ : ∃ y, qs[v % nq]? = some y := ⟨_, List.getElem?_eq_getElem (by rw [← HQ.out]; exact hlt)⟩
                obtain ⟨b3, o3, rfl, _, hcy⟩ := hrd.at (k := v % nq) (u := .bool y) (by rw [List.getElem?_map, hy]; rfl)
                have hpk := fun W => pick_pos v nq W hz hqm (by omega)
                have HPK := Lib.hid hpk
                have hzd : decide (0 < nq) = true := by simpa using hz
                have hltI : ((v % nq : Nat) : Int) < (nq : Int) := by omega
                clear hrd hy hpk
                generalize v % nq = r at *
                rcases h with rfl | rfl
                all_goals
                  cases y
                  all_goals
                    go_wp2_with (go_at_call 19; refine (HPK.out _).mono ?_; rintro e w8 ⟨rfl, rfl⟩)
                    go_roundw
                    case rel => first | exact ⟨v + 1, by omega, by go_num, HS9.out⟩ | exact ⟨v + 1, by omega, by go_num, HS8.out⟩
                    case measure => simp [intOf]; omega
            · subst h
              have hnx := HG5.out (by omega) (by omega) (by omega)
              have HS9 := Lib.hid (HS7.out.to (y := .int .i64 n2) (by obtain ⟨j2, q2, h1, h2⟩ := hnx; exact ⟨j2, q2, h1, by rw [h2]⟩))
              obtain rfl : post = true := by simpa using hg3
              clear hnx hg3
              go_wp2_with fail
              go_roundw
              case rel => exact ⟨v + 1, by omega, by go_num, HS9.out⟩
              case measure => simp [intOf]; omega
            · have hnx := HG5.out (by omega) (by omega) (by omega)
              have HS9 := Lib.hid (HS7.out.to (y := .int .i64 n2) (by obtain ⟨j2, q2, h1, h2⟩ := hnx; exact ⟨j2, q2, h1, by rw [h2]⟩))
              clear hnx hg3
              have e26 : (o == 26) = false := by simp; omega
              have e0 : (o == 0) = false := by simp; omega
              have e29 : (o == 29) = false := by simp; omega
              have e30 : (o == 30) = false := by simp; omega
              have e27 : (o == 27) = false := by simp; omega
              have e28 : (o == 28) = false := by simp; omega
              clear h
              go_wp2_with fail
              go_roundw
              case rel => exact ⟨v + 1, by omega, by go_num, HS9.out⟩
              case measure => simp [intOf]; omega
          · have g1 : decide ((v : Int) < 500) = false := by simp; omega
            have B7 := Lib.hid hst.low
            clear hg1 hg2 hg3 hg4 hg5 hst
            go_wp2_with fail
            refine (awakeV_any _).mono ?_
            rintro e w8 ⟨rfl, hb8⟩
            have B8 := Lib.hid (ch0 B7.out hb8)
            clear hb8
            go_wp2_with fail
            go_ret
            exact ⟨rfl, B8.out⟩
  · have g : (chk bs post != 0) = true := by simpa using hok
    generalize chk bs post = x at *
    clear hok
    go_enter Try.func7, Try.ntmps7
    go_wp2_with fail
    refine (HC1.out).mono ?_
    rintro e w1 ⟨rfl, hb1⟩
    have B1 := Lib.hid hb1
    clear hb1
    go_wp2_with fail
    refine (awakeV_any _).mono ?_
    rintro e w2 ⟨rfl, hb2⟩
    have B2 := Lib.hid (ch0 B1.out hb2)
    clear hb2
    go_wp2_with fail
    go_ret
    exact ⟨rfl, B2.out⟩
end Go.Proofs.Ytaiekpdoljleeaa
