/- Table.wrong, and whether any file is wrong: walks. Condition: an index as New makes it. -/
import Derived.Test.YtlhhkmpidnegcaaVeNa
namespace Go.Proofs.Ytlhhkmpidnegcaa
open Go.RowKit Go.WideShapes
set_option linter.unusedVariables false
set_option linter.unusedSimpArgs false
def okOf (ps : List Pc) (x : Int) : Bool := decide (1 ≤ x) && decide (x ≤ (ps.length : Int))
def szOf (ps : List Pc) (x : Int) : Int := if okOf ps x then ((ps[(x - 1).toNat]?).map Pc.s).getD 0 else 0
/-- Is there a number that is none, or are the sizes too great? -/
def wrongG (ps : List Pc) : Int → List Int → Bool
  | s, [] => false
  | s, n :: r => if okOf ps n && decide (s + szOf ps n ≤ 131072) then wrongG ps (s + szOf ps n) r else true
def wrongB (ps : List Pc) (fr : List Int) : Bool := wrongG ps 0 fr
theorem szOf_bd {ps : List Pc} (rt : ∀ p ∈ ps, rightP p.s p.b p.a = true) (x : Int) : 0 ≤ szOf ps x ∧ szOf ps x ≤ 4096 := by
  unfold szOf
  split
  · cases h : ps[(x - 1).toNat]? with
    | none => simp
    | some p =>
      have := rt p (List.mem_of_getElem? h)
      simp only [rightP, Bool.and_eq_true, decide_eq_true_eq] at this
      simp only [Option.map_some, Option.getD_some]
      omega
  · omega
/-- What At tells, as the walk needs it. -/
structure AtV (cs : Array Value) (s : Int) : Prop where
  inf : (Try.prog.info? 52).map (·.size) = some cs.size
  sz : zeroA.size = cs.size
  one : cs.all (·.oneCell') = true
  cs : cs[20]? = some (.int .i64 s)
theorem zero52 : zeroA = #[.int .u8 0, .int .u8 0, .int .u8 0, .int .u8 0, .int .u8 0, .int .u8 0, .int .u8 0, .int .u8 0, .int .u8 0, .int .u8 0, .int .u8 0, .int .u8 0, .int .u8 0, .int .u8 0, .int .u8 0, .int .u8 0, .int .u8 0, .int .u8 0, .int .u8 0, .int .u8 0, .int .i64 0, .int .i64 0, .int .i64 0] := rfl
theorem at_view {B g mb n : Nat} {l : List Pc} {v : Value} (x : Int) (hm : l.length ≤ 8192) (hok : ∀ p ∈ l, p.ok) : ∃ cs : Array Value, AtV cs (szOf l x) ∧ ∀ w, Idx B w g mb n l v → Calls Try.prog 45 #[.pointer (some ⟨g, 0, none⟩), .int .i64 x] w (Quiet (.tuple #[.agg cs, .bool (okOf l x)]) w) := by
  by_cases h : 1 ≤ x ∧ x ≤ (l.length : Int)
  · obtain ⟨k, hk⟩ : ∃ k : Nat, x = (k : Int) + 1 := ⟨(x - 1).toNat, by omega⟩
    obtain ⟨p, hp⟩ : ∃ p, l[k]? = some p := ⟨_, List.getElem?_eq_getElem (by omega)⟩
    have hpo := hok p (List.mem_of_getElem? hp)
    have ho : okOf l x = true := by simp [okOf, h.1, h.2]
    have hz : szOf l x = p.s := by
      unfold szOf
      rw [ho, if_pos rfl, hk, show ((k : Int) + 1 - 1).toNat = k by omega, hp]
      rfl
    refine ⟨p.cells.toArray, ⟨by rw [List.size_toArray, Pc.cells_length hpo]; exact size39, ?_, ?_, ?_⟩, fun w hw => ?_⟩
    · exact (by rfl : zeroA.size = 23).trans (by rw [List.size_toArray, Pc.cells_length hpo])
    · rw [Array.all_eq_true]
      intro i hi'
      exact Pc.cells_one p _ (show p.cells.toArray[i] ∈ p.cells by simp)
    · rw [List.getElem?_toArray, Pc.cell_s hpo, hz]
    · rw [ho, hk]
      exact at_in k w hw p hp hm
  · have ho : okOf l x = false := by
      unfold okOf
      by_cases h1 : 1 ≤ x
      · rw [show decide (x ≤ (l.length : Int)) = false from decide_eq_false (fun h2 => h ⟨h1, h2⟩), Bool.and_false]
      · rw [show decide (1 ≤ x) = false from decide_eq_false h1, Bool.false_and]
    have hz : szOf l x = 0 := by
      unfold szOf
      rw [ho]
      rfl
    refine ⟨zeroA, ⟨zeroA_info, rfl, by kernel_rfl, by rw [hz]; rfl⟩, fun w hw => ?_⟩
    rw [ho]
    exact at_out x w hw (by omega)
theorem wrong_go {ps : List Pc} {fr : List Int} {k : Nat} {x s : Int} (hx : fr[k]? = some x) : wrongG ps s (fr.drop k) = if okOf ps x && decide (s + szOf ps x ≤ 131072) then wrongG ps (s + szOf ps x) (fr.drop (k + 1)) else true := by
  have hk := (List.getElem?_eq_some_iff.1 hx).1
  have : fr.drop k = x :: fr.drop (k + 1) := by
    rw [List.drop_eq_getElem_cons hk]
    rw [List.getElem?_eq_getElem hk] at hx
    injection hx with hx
    rw [hx]
  rw [this]
  rfl
set_option maxRecDepth 100000 in
set_option maxHeartbeats 4000000 in
theorem wrong_any {B gt gi mb n : Nat} {ps : List Pc} {v b2 b3 : Value} (f : Fl) (w : World) (hb : Blk w gt 46 #[.pointer (some ⟨gi, 0, none⟩), b2, b3]) (hi : Idx B w gi mb n ps v) (hm : ps.length ≤ 8192) (rt : ∀ p ∈ ps, rightP p.s p.b p.a = true) (hf : f.rd w) :
    Calls Try.prog 40 #[.pointer (some ⟨gt, 0, none⟩), .agg #[.string f.nm, .slice f.A f.n f.c]] w (Quiet (.bool (wrongB ps f.fr)) w) := by
  obtain ⟨nm, fr, A, m, c⟩ := f
  obtain ⟨hlen, hcap, htop, hrd, hnil⟩ := hf
  simp only at hlen hcap htop hrd hnil ⊢
  have hml : m ≤ 9223372036854775807 := by unfold maxLen at htop; omega
  have hw1 := (Below.refl w.heap.size w).alloc (Nat.le_refl _) (.cells #[.string nm, .slice A m c] 41)
  have hst : ∀ W, Below w.heap.size w W → W.cell? ⟨gt, 0, none⟩ = some (.pointer (some ⟨gi, 0, none⟩)) ∧ Idx B W gi mb n ps v ∧ Rd W A (ints fr) := fun W hW => by
    have := (hb.below hW).cell 0
    simp at this
    exact ⟨this, hi.below hW, hrd.below hW rfl⟩
  have hav := fun x => at_view (B := B) (g := gi) (mb := mb) (n := n) (v := v) x hm hi.oks
  have hbd := fun x => szOf_bd rt x
  have HST := Lib.hid hst
  have HAV := Lib.hid hav
  have HBD := Lib.hid hbd
  have HW1 := Lib.hid hw1
  have HL := Lib.hid hlen
  clear hst hav hw1 hlen hcap htop hrd hnil hb hi rt hm hbd
  go_enter Try.func40, Try.ntmps40
  go_wp2_with fail
  go_loopw [5, 13] (fun sv i wr => ∃ (k : Nat) (s : Int), k ≤ m ∧ i = .int .i64 k ∧ sv = .int .i64 s ∧ 0 ≤ s ∧ s ≤ 131072 ∧ wrongB ps fr = wrongG ps s (fr.drop k) ∧ Below w.heap.size w wr) (fun _ i _ => m - (intOf i).toNat)
  case atStart => exact ⟨0, 0, by omega, rfl, rfl, by omega, by omega, rfl, HW1.out⟩
  case round =>
    obtain ⟨k, s, hk, rfl, rfl, hs0, hs1, hwr, hlow⟩ := hrel
    have HWR := Lib.hid hwr
    have HLOW := Lib.hid hlow
    clear hwr hlow
    by_cases hlt : k < m
    · obtain ⟨x, hx⟩ : ∃ x, fr[k]? = some x := ⟨_, List.getElem?_eq_getElem (by rw [HL.out]; exact hlt)⟩
      obtain ⟨hc0, hix, hrx⟩ := HST.out wr HLOW.out
      obtain ⟨b1, o1, rfl, _, hc1⟩ := hrx.at (k := k) (u := .int .i64 x) (by rw [ints, List.getElem?_map, hx]; rfl)
      obtain ⟨cs, hcs, hcall⟩ := HAV.out x
      have hca := hcall wr hix
      have HCA := Lib.hid hca
      have HCS := Lib.hid hcs
      have HGO := Lib.hid (wrong_go (ps := ps) (s := s) hx)
      have hbx := HBD.out x
      obtain ⟨hb0, hb1⟩ := hbx
      obtain ⟨sz, hsz⟩ : ∃ sz, szOf ps x = sz := ⟨_, rfl⟩
      rw [hsz] at hb0 hb1 HCS HGO
      have hkn : (k : Int) < (m : Int) := by omega
      clear hrx hix hcall hca hcs hx hsz
      go_wp2_with fail
      refine (HCA.out).mono ?_
      rintro e wa ⟨rfl, hba⟩
      have hbn := (Below.refl wa.heap.size wa).alloc (Nat.le_refl _) (.cells cs 52)
      have HLA := Lib.hid (HLOW.out.trans ((hba.trans (hbn.mono hba.size)).mono HLOW.out.size))
      have hc20 := HCS.out.cs
      clear hbn hba hc0 hc1
      cases hok : okOf ps x with
      | false =>
        rw [hok] at HGO
        have HOK := Lib.hid hok
        clear hok
        go_wp2_with (refine wpList_store_row rfl 52 (.tmp 8) (.tmp 24) rfl wa.heap.size cs rfl rfl 52 zeroA (heap_alloc_new _ _) HCS.out.inf HCS.out.sz HCS.out.one ?_; rw [World.setRow_alloc_new])
        go_ret
        exact ⟨ret_bool (by rw [HWR.out, HGO.out, Bool.false_and, if_neg (by decide)]), HLA.out⟩
      | true =>
        rw [hok] at HGO
        have HOK := Lib.hid hok
        clear hok
        by_cases hle : s + sz ≤ 131072
        · have hd : decide (s + sz ≤ 131072) = true := decide_eq_true hle
          rw [hd] at HGO
          clear hd
          go_wp2_with (refine wpList_store_row rfl 52 (.tmp 8) (.tmp 24) rfl wa.heap.size cs rfl rfl 52 zeroA (heap_alloc_new _ _) HCS.out.inf HCS.out.sz HCS.out.one ?_; rw [World.setRow_alloc_new])
          go_roundw
          case rel => exact ⟨k + 1, s + sz, by omega, by go_num, rfl, by omega, hle, by rw [HWR.out, HGO.out, Bool.true_and, if_pos rfl], HLA.out⟩
          case measure => simp [intOf]; omega
        · have hd : decide (s + sz ≤ 131072) = false := decide_eq_false hle
          rw [hd] at HGO
          clear hd
          go_wp2_with (refine wpList_store_row rfl 52 (.tmp 8) (.tmp 24) rfl wa.heap.size cs rfl rfl 52 zeroA (heap_alloc_new _ _) HCS.out.inf HCS.out.sz HCS.out.one ?_; rw [World.setRow_alloc_new])
          go_ret
          exact ⟨ret_bool (by rw [HWR.out, HGO.out, Bool.and_false, if_neg (by decide)]), HLA.out⟩
    · obtain rfl : k = m := by omega
      go_wp2
      go_ret
      exact ⟨ret_bool (by rw [HWR.out, List.drop_of_length_le (by rw [HL.out]; exact Nat.le_refl _)]; rfl), HLOW.out⟩
/-- Of files the first that is so; -1: none. -/
structure IsIdxQ (b : Bool) (w0 : World) (e : Ending) (w : World) : Prop where
  ex : ∃ r : Int, e = .returned (.int .i64 r) ∧ decide (0 ≤ r) = b
  low : Below w0.heap.size w0 w
set_option maxRecDepth 100000 in
set_option maxHeartbeats 4000000 in
theorem idx68 {B gt gi mb n : Nat} {ps : List Pc} {v b2 b3 : Value} (fs : List Fl) (A : Option Addr) (m c : Nat) (w : World) (hb : Blk w gt 46 #[.pointer (some ⟨gi, 0, none⟩), b2, b3]) (hi : Idx B w gi mb n ps v) (hm : ps.length ≤ 8192) (rt : ∀ p ∈ ps, rightP p.s p.b p.a = true) (hn : fs.length = m) (hr : RdF w A fs) (hl : m ≤ 1000000000) :
    Calls Try.prog 68 #[.slice A m c, .func (.func 40) #[.pointer (some ⟨gt, 0, none⟩)] #[]] w (IsIdxQ (fs.any fun f => wrongB ps f.fr) w) := by
  have hcl : ∀ W, Below w.heap.size w W → ∀ f ∈ fs, Calls Try.prog 40 #[.pointer (some ⟨gt, 0, none⟩), .agg #[.string f.nm, .slice f.A f.n f.c]] W (Quiet (.bool (wrongB ps f.fr)) W) := fun W hW f hf => wrong_any f W (hb.below hW) (hi.below hW) hm rt ((hr.each f hf).below hW)
  have HCL := Lib.hid hcl
  have HR := Lib.hid hr
  have HN := Lib.hid hn
  clear hcl hr hn hb hi hm rt
  go_enter Try.func68, Try.ntmps68
  go_wp2_with fail
  go_loopw [8] (fun i wr => ∃ k : Nat, k ≤ m ∧ i = .int .i64 k ∧ (fs.take k).any (fun f => wrongB ps f.fr) = false ∧ Below w.heap.size w wr) (fun i _ => m - (intOf i).toNat)
  case atStart => exact ⟨0, by omega, rfl, rfl, Below.refl _ _⟩
  case round =>
    obtain ⟨k, hk, rfl, hno, hlow⟩ := hrel
    have HNO := Lib.hid hno
    have HLOW := Lib.hid hlow
    clear hno hlow
    by_cases hlt : k < m
    · obtain ⟨f, hf⟩ : ∃ f, fs[k]? = some f := ⟨_, List.getElem?_eq_getElem (by rw [HN.out]; exact hlt)⟩
      obtain ⟨b1, o1, rfl, hat⟩ := (HR.out.below HLOW.out).row.fl hf
      have h10 := hat.c0
      have h11 := hat.c1
      have hca := HCL.out wr HLOW.out f (List.mem_of_getElem? hf)
      have HF := Lib.hid hf
      have hkn : (k : Int) < (m : Int) := by omega
      cases hb : wrongB ps f.fr with
      | true =>
        rw [hb] at hca
        have HB := Lib.hid hb
        have HCA := Lib.hid hca
        clear hb hca hat hf
        obtain ⟨nm, fr, fA, fn, fc⟩ := f
        simp only at h10 h11 HCA HB
        go_wp2_with fail
        refine (HCA.out).mono ?_
        rintro e w1 ⟨rfl, hb1⟩
        go_wp2
        go_ret
        refine ⟨⟨k, rfl, ?_⟩, HLOW.out.trans (hb1.mono HLOW.out.size)⟩
        rw [show (fs.any fun f => wrongB ps f.fr) = true from List.any_eq_true.2 ⟨_, List.mem_of_getElem? HF.out, HB.out⟩]
        simp
      | false =>
        rw [hb] at hca
        have HB := Lib.hid hb
        have HCA := Lib.hid hca
        clear hb hca hat hf
        obtain ⟨nm, fr, fA, fn, fc⟩ := f
        simp only at h10 h11 HCA HB
        go_wp2_with fail
        refine (HCA.out).mono ?_
        rintro e w1 ⟨rfl, hb1⟩
        have HL1 := Lib.hid (HLOW.out.trans (hb1.mono HLOW.out.size))
        clear hb1
        go_wp2
        go_roundw
        case rel => exact ⟨k + 1, by omega, by go_num, by rw [List.take_add_one, HF.out, List.any_append, HNO.out]; simp [HB.out], HL1.out⟩
        case measure => simp [intOf]; omega
    · obtain rfl : k = m := by omega
      go_wp2
      go_ret
      refine ⟨⟨-1, rfl, ?_⟩, HLOW.out⟩
      have := HNO.out
      rw [List.take_of_length_le (by rw [HN.out]; exact Nat.le_refl _)] at this
      rw [this]
      rfl
theorem has39 {B gt gi mb n : Nat} {ps : List Pc} {v b2 b3 : Value} (fs : List Fl) (A : Option Addr) (m c : Nat) (w : World) (hb : Blk w gt 46 #[.pointer (some ⟨gi, 0, none⟩), b2, b3]) (hi : Idx B w gi mb n ps v) (hm : ps.length ≤ 8192) (rt : ∀ p ∈ ps, rightP p.s p.b p.a = true) (hn : fs.length = m) (hr : RdF w A fs) (hl : m ≤ 1000000000) :
    Calls Try.prog 39 #[.slice A m c, .func (.func 40) #[.pointer (some ⟨gt, 0, none⟩)] #[]] w (Quiet (.bool (fs.any fun f => wrongB ps f.fr)) w) := by
  have h := idx68 fs A m c w hb hi hm rt hn hr hl
  have HI := Lib.hid h
  clear h hb hi hm rt hn hr
  obtain ⟨r, hr⟩ : ∃ r, (fs.any fun f => wrongB ps f.fr) = r := ⟨_, rfl⟩
  rw [hr] at HI ⊢
  clear hr
  go_enter Try.func39, Try.ntmps39
  go_wp2_with fail
  refine (HI.out).mono ?_
  rintro e w1 ⟨⟨q, rfl, hq⟩, hb1⟩
  go_wp2
  go_ret
  exact ⟨rfl, hb1⟩
end Go.Proofs.Ytlhhkmpidnegcaa
