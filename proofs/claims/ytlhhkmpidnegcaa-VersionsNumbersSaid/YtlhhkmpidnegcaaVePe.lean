/- PutEntry: what it tells, plain; the walks of its refusals and of an entry that rolls. Condition: none. -/
import Derived.Test.YtlhhkmpidnegcaaVeOc
namespace Go.Proofs.Ytlhhkmpidnegcaa
open Go.RowKit Go.WideShapes
set_option linter.unusedVariables false
set_option linter.unusedSimpArgs false
def fragB (fr : List Int) : List Int := fr.flatMap fun x => beI x 4
def fileB (d : ByteArray × List Int) : List Int := beI (d.1.size : Int) 2 ++ strI d.1 ++ beI (d.2.length : Int) 4 ++ fragB d.2
/-- The files' bytes behind others; none: too many. -/
def putFs : List Int → List (ByteArray × List Int) → Option (List Int)
  | b, [] => some b
  | b, d :: r => if 16384 < d.2.length then none else if 65536 < (b ++ fileB d).length then none else putFs (b ++ fileB d) r
def outD (ds : List (ByteArray × List Int)) : Bool := ds.any fun d => d.2.any outB
def putE (roll : Int) (ds : List (ByteArray × List Int)) : Int × List Int :=
  if roll < 0 ∨ 1048576 < roll ∨ (0 < roll ∧ 0 < ds.length) ∨ outD ds = true then (2, [])
  else if namedB (ds.map Prod.fst) = false then (18, [])
  else if 200 < ds.length then (3, [])
  else if 0 < roll then (0, 114 :: beI roll 4)
  else match putFs (115 :: beI (ds.length : Int) 2) ds with
    | none => (3, [])
    | some b => (0, b)
structure PutE (r : Int × List Int) (w0 : World) (e : Ending) (w : World) : Prop where
  ex : (r.1 ≠ 0 ∧ e = .returned (.tuple #[.slice none 0 0, .int .i64 r.1])) ∨ (r.1 = 0 ∧ ∃ A c, e = .returned (.tuple #[.slice A r.2.length c, .int .i64 0]) ∧ r.2.length ≤ c ∧ w.ownsRow w0.heap.size 5 1 (.slice A r.2.length c) r.2.length (octs r.2))
  low : Below w0.heap.size w0 w
theorem out_dat (fs : List Fl) : outD (fs.map Fl.dat) = fs.any fun f => f.fr.any outB := by unfold outD; rw [List.any_map]; rfl
theorem PutE.no {x : Int} {r : Int × List Int} {w0 w : World} (h : r = (x, [])) (hx : x ≠ 0) (hb : Below w0.heap.size w0 w) : PutE r w0 (.returned (.tuple #[.slice none 0 0, .int .i64 x])) w := by
  subst h
  exact ⟨.inl ⟨hx, rfl⟩, hb⟩
set_option maxRecDepth 100000 in
set_option maxHeartbeats 8000000 in
theorem putE_bad (roll : Int) (fs : List Fl) (Af : Option Addr) (nf cf : Nat) (w : World) (hrd : RdF w Af fs) (hn : fs.length = nf) (hnf : nf ≤ 1000000000) (hnm : ∀ f ∈ fs, f.nm.size ≤ maxLen)
    (hb : (roll < 0 ∨ 1048576 < roll ∨ (0 < roll ∧ 0 < (fs.map Fl.dat).length) ∨ outD (fs.map Fl.dat) = true) ∨ namedB ((fs.map Fl.dat).map Prod.fst) = false ∨ 200 < (fs.map Fl.dat).length) :
    Calls Try.prog 22 #[.agg #[.int .i64 roll, .slice Af nf cf]] w (PutE (putE roll (fs.map Fl.dat)) w) := by
  have hbx := (Below.refl w.heap.size w).alloc (Nat.le_refl _) (.cells #[.int .i64 roll, .slice Af nf cf] 29)
  have hlb := hrd.below hbx
  have h39 := has39o fs Af nf cf _ hn hlb hnf
  have hkx : ∀ W, Below (w.alloc (.cells #[.int .i64 roll, .slice Af nf cf] 29)).heap.size (w.alloc (.cells #[.int .i64 roll, .slice Af nf cf] 29)) W → W.cell? ⟨w.heap.size, 0, none⟩ = some (.int .i64 roll) ∧ W.cell? ⟨w.heap.size, 1, none⟩ = some (.slice Af nf cf) ∧ Below w.heap.size w W ∧ Calls Try.prog 38 #[.slice Af nf cf] W (Quiet (.bool (namedB (fs.map Fl.nm))) W) := fun W hW => by
    have k := (Blk.new w 29 #[.int .i64 roll, .slice Af nf cf]).below hW
    exact ⟨k.cell 0, k.cell 1, hbx.trans (hW.mono (by simp)), named_any fs Af nf cf W hn (hlb.below hW).row hnf hnm⟩
  have hdl : (fs.map Fl.dat).length = nf := by rw [List.length_map]; exact hn
  have hout := out_dat fs
  have hdn := dat_names fs
  obtain ⟨ds, hds⟩ : ∃ ds, fs.map Fl.dat = ds := ⟨_, rfl⟩
  rw [hds] at hdl hout hdn hb ⊢
  have HBX := Lib.hid hbx
  have H39 := Lib.hid h39
  have HKX := Lib.hid hkx
  have HOU := Lib.hid hout
  have HDN := Lib.hid hdn
  have HDL := Lib.hid hdl
  clear hbx hlb h39 hkx hrd hn hnm hds hout hdn
  obtain ⟨o, ho⟩ : ∃ o, outD ds = o := ⟨_, rfl⟩
  obtain ⟨nmd, hnmd⟩ : ∃ o, namedB (ds.map Prod.fst) = o := ⟨_, rfl⟩
  rw [hdl] at hb
  rw [ho, hnmd] at hb
  have hp : putE roll ds = if roll < 0 ∨ 1048576 < roll ∨ (0 < roll ∧ 0 < nf) ∨ o = true then (2, []) else if nmd = false then (18, []) else if 200 < nf then (3, []) else putE roll ds := by
    rw [← hdl, ← ho, ← hnmd]
    unfold putE
    split
    · rfl
    · split
      · rfl
      · split
        · rfl
        · rfl
  rw [← HDN.out, hnmd] at HKX
  rw [← HOU.out, ho] at H39
  have HPU := Lib.hid hp
  clear hp ho hnmd hdl
  obtain ⟨R, hR⟩ : ∃ R, putE roll ds = R := ⟨_, rfl⟩
  rw [hR] at HPU ⊢
  clear hR
  by_cases c1 : roll < 0
  · have d1 : decide (roll < 0) = true := decide_eq_true c1
    clear hb
    go_enter Try.func22, Try.ntmps22
    go_wp2
    go_ret2
    exact PutE.no (x := 2) (by rw [HPU.out, if_pos (.inl c1)]) (by decide) HBX.out
  · have d1 : decide (roll < 0) = false := decide_eq_false c1
    by_cases c2 : 1048576 < roll
    · have d2 : decide (1048576 < roll) = true := decide_eq_true c2
      clear hb
      go_enter Try.func22, Try.ntmps22
      go_wp2
      go_ret2
      exact PutE.no (x := 2) (by rw [HPU.out, if_pos (.inr (.inl c2))]) (by decide) HBX.out
    · have d2 : decide (1048576 < roll) = false := decide_eq_false c2
      by_cases c3 : 0 < roll ∧ 0 < nf
      · have d3 : decide (0 < roll) = true := decide_eq_true c3.1
        have d4 : decide ((0 : Int) < (nf : Int)) = true := decide_eq_true (by omega)
        have d5 : 0 < nf := c3.2
        have C3 := Lib.hid c3
        clear hb c3
        go_enter Try.func22, Try.ntmps22
        go_wp2
        go_ret2
        exact PutE.no (x := 2) (by rw [HPU.out, if_pos (.inr (.inr (.inl C3.out)))]) (by decide) HBX.out
      · have hrest : (roll ≤ 0 ∧ decide (0 < roll) = false) ∨ (0 < roll ∧ decide (0 < roll) = true ∧ nf = 0 ∧ decide ((0 : Int) < (nf : Int)) = false ∧ decide (0 < nf) = false) := by
          by_cases h : 0 < roll
          · have hz : nf = 0 := by omega
            exact .inr ⟨h, decide_eq_true h, hz, decide_eq_false (by omega), decide_eq_false (by omega)⟩
          · exact .inl ⟨by omega, decide_eq_false h⟩
        have C3 := Lib.hid c3
        clear c3
        cases o with
        | true =>
          clear hb
          rcases hrest with ⟨r0, r1⟩ | ⟨r0, r1, r2, r3, r4⟩
          all_goals
            try (have R2 := Lib.hid r2; clear r2)
            go_enter Try.func22, Try.ntmps22
            go_wp2_with fail
            refine (H39.out).mono ?_
            rintro e w5 ⟨rfl, hb5⟩
            have HB5 := Lib.hid (HBX.out.trans (hb5.mono (by simp)))
            clear hb5
            go_wp2
            go_ret2
            exact PutE.no (x := 2) (by rw [HPU.out, if_pos (.inr (.inr (.inr (by first | rfl | trivial))))]) (by decide) HB5.out
        | false =>
          have HNO := Lib.hid (show ¬ (roll < 0 ∨ 1048576 < roll ∨ (0 < roll ∧ 0 < nf) ∨ false = true) from by
            rintro (h | h | h | h)
            · exact c1 h
            · exact c2 h
            · exact C3.out h
            · cases h)
          cases nmd with
          | false =>
            clear hb
            rcases hrest with ⟨r0, r1⟩ | ⟨r0, r1, r2, r3, r4⟩
            all_goals
              try (have R2 := Lib.hid r2; clear r2)
              go_enter Try.func22, Try.ntmps22
              go_wp2_with fail
              refine (H39.out).mono ?_
              rintro e w5 ⟨rfl, hb5⟩
              obtain ⟨q0, q1, q2, q3⟩ := HKX.out w5 hb5
              have HQ3 := Lib.hid q3
              have HQ2 := Lib.hid q2
              clear hb5 q2 q3
              go_wp2_with fail
              refine (HQ3.out).mono ?_
              rintro e w6 ⟨rfl, hb6⟩
              have HB6 := Lib.hid (HQ2.out.trans (hb6.mono HQ2.out.size))
              clear hb6
              go_wp2
              go_ret2
              exact PutE.no (x := 18) (by rw [HPU.out, if_neg HNO.out]; simp) (by decide) HB6.out
          | true =>
            have h200 : 200 < nf := by
              rcases hb with h | h | h
              · exact absurd h HNO.out
              · cases h
              · exact h
            have e2 : decide ((200 : Int) < (nf : Int)) = true := decide_eq_true (by omega)
            clear hb
            rcases hrest with ⟨r0, r1⟩ | ⟨r0, r1, r2, r3, r4⟩
            · go_enter Try.func22, Try.ntmps22
              go_wp2_with fail
              refine (H39.out).mono ?_
              rintro e w5 ⟨rfl, hb5⟩
              obtain ⟨q0, q1, q2, q3⟩ := HKX.out w5 hb5
              have HQ3 := Lib.hid q3
              have HQ2 := Lib.hid q2
              have hb5s := hb5.size
              have HB5 := Lib.hid hb5
              clear hb5 q2 q3
              go_wp2_with fail
              refine (HQ3.out).mono ?_
              rintro e w6 ⟨rfl, hb6⟩
              obtain ⟨p0, p1, p2, _⟩ := HKX.out w6 (HB5.out.trans (hb6.mono HB5.out.size))
              have HP2 := Lib.hid p2
              clear hb6 p2 hb5s
              go_wp2
              go_ret2
              exact PutE.no (x := 3) (by rw [HPU.out, if_neg HNO.out]; simp [h200]) (by decide) HP2.out
            · omega
end Go.Proofs.Ytlhhkmpidnegcaa
