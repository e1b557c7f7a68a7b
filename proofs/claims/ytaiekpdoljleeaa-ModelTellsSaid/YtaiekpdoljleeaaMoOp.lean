/- A model argument opened; ModelBack's law. Plain. -/
import Derived.Test.YtaiekpdoljleeaaMoBa
namespace Go.Proofs.Ytaiekpdoljleeaa
open Go.RowKit Go.WideShapes Go.ChangeShapes Go.Deep
set_option linter.unusedVariables false
set_option linter.unusedSimpArgs false
set_option maxRecDepth 100000 in
theorem open_ptsF {H : Type} {enc : TypeId × Value → H} {w : World} {fuel : Nat} {a : Option Addr} {len cap : Nat} {y : DataW H × List MemPlace} (hf : DataW.trod enc Try.prog w 0 (fun _ => true) true fuel 22 [.slice a len cap] = some y) :
    ∃ ts A c, Value.slice a len cap = .slice A (ts : List Pt).length c ∧ (∀ t ∈ ts, t.ok) ∧ Rd w A (flat_pts ts) ∧ ts.length ≤ c ∧ c ≤ maxLen := by
  rcases open_slice Try.underlying22 hf with ⟨hcs, _⟩ | ⟨x, l, c, m, n, D, Pl, hcs, _, hl, hm, hmm, _, hel⟩
  · simp at hcs
    obtain ⟨rfl, rfl, rfl⟩ := hcs
    exact ⟨[], none, 0, rfl, (by intro t ht; cases ht), Rd.nil _ _, Nat.le_refl _, by simp [maxLen]⟩
  · simp at hcs
    obtain ⟨rfl, rfl, rfl⟩ := hcs
    have hlm : len ≤ m := by simp at hmm; omega
    have hth : ∀ i, i < len → ∃ t : Pt, t.ok ∧ ∀ j, j < 7 → w.cell? (x.add (i * 7 + j)) = t.cells[j]? := by
      intro i hi
      obtain ⟨cs, h1, h2⟩ := hel i (by omega)
      have hfld := open_elem Try.underlying32 (by kernel_rfl) (by kernel_rfl) h1 h2
      obtain ⟨v0, m0, y0, c0, t0⟩ := hfld 0 _ rfl
      obtain ⟨v1, m1, y1, c1, t1⟩ := hfld 1 _ rfl
      obtain ⟨v2, m2, y2, c2, t2⟩ := hfld 2 _ rfl
      obtain ⟨v3, m3, y3, c3, t3⟩ := hfld 3 _ rfl
      obtain ⟨v4, m4, y4, c4, t4⟩ := hfld 4 _ rfl
      obtain ⟨v5, m5, y5, c5, t5⟩ := hfld 5 _ rfl
      obtain ⟨v6, m6, y6, c6, t6⟩ := hfld 6 _ rfl
      obtain ⟨n0, e0, _, wf0⟩ := DataW.trod_int Try.underlying30 t0
      obtain ⟨n1, e1, _, wf1⟩ := DataW.trod_int Try.underlying3 t1
      obtain ⟨n2, e2, _, wf2⟩ := DataW.trod_int Try.underlying3 t2
      obtain ⟨n3, e3, _, wf3⟩ := DataW.trod_int Try.underlying3 t3
      obtain ⟨n4, e4, _, wf4⟩ := DataW.trod_int Try.underlying3 t4
      obtain ⟨n5, e5, _, wf5⟩ := DataW.trod_int Try.underlying3 t5
      obtain ⟨n6, e6, _, wf6⟩ := DataW.trod_int Try.underlying3 t6
      simp at e0 e1 e2 e3 e4 e5 e6
      subst e0 e1 e2 e3 e4 e5 e6
      rw [cellsOf_pts] at c0 c1 c2 c3 c4 c5 c6
      rw [Go.Deep.add_add] at c0 c1 c2 c3 c4 c5 c6
      refine ⟨⟨n0, n1, n2, n3, n4, n5, n6⟩, ⟨(wf_u8 wf0).1, (wf_u8 wf0).2, (wf_i64 wf1).1, (wf_i64 wf1).2, (wf_i64 wf2).1, (wf_i64 wf2).2, (wf_i64 wf3).1, (wf_i64 wf3).2, (wf_i64 wf4).1, (wf_i64 wf4).2, (wf_i64 wf5).1, (wf_i64 wf5).2, (wf_i64 wf6).1, (wf_i64 wf6).2⟩, fun j hj => ?_⟩
      rcases (show j = 0 ∨ j = 1 ∨ j = 2 ∨ j = 3 ∨ j = 4 ∨ j = 5 ∨ j = 6 from by omega) with rfl | rfl | rfl | rfl | rfl | rfl | rfl
      · exact c0
      · exact c1
      · exact c2
      · exact c3
      · exact c4
      · exact c5
      · exact c6
    obtain ⟨f, hf⟩ := choose_lt hth
    refine ⟨(List.range len).map f, some x, cap, by simp, fun t ht => ?_, fun hn => ?_, by simpa using hl, hm⟩
    · obtain ⟨i, hi, rfl⟩ := List.mem_map.1 ht
      exact (hf i (List.mem_range.1 hi)).1
    · rw [flat_pts_length] at hn
      simp at hn
      have h0 := (hf 0 (by omega)).2 0 (by omega)
      obtain ⟨b, off, spot⟩ := x
      have h0' : w.cell? (Addr.add ⟨b, off, spot⟩ 0) = some (.int .u8 (f 0).k) := h0
      have hspot : spot = none := by simpa [Addr.add] using World.cell?_spot h0'
      subst hspot
      refine ⟨b, off, rfl, block_lt_of_cell h0', fun q u hu => ?_⟩
      have hq : q < len * 7 := by
        have := (List.getElem?_eq_some_iff.1 hu).1
        rw [flat_pts_length] at this
        simpa using this
      have hqi : q / 7 < len := by omega
      have hat := (hf (q / 7) hqi).2 (q % 7) (by omega)
      have hfl := flat_pts_at ((List.range len).map f) (q / 7) (q % 7) (f (q / 7)) (by rw [List.getElem?_map, List.getElem?_range hqi]; rfl) (by omega)
      rw [show q / 7 * 7 + q % 7 = q by omega] at hat hfl
      rw [addr_add] at hat
      rw [hat, ← hfl, hu]
set_option maxRecDepth 100000 in
theorem open_bytesF {H : Type} {enc : TypeId × Value → H} {w : World} {fuel : Nat} {a : Option Addr} {len cap : Nat} {y : DataW H × List MemPlace} (hf : DataW.trod enc Try.prog w 0 (fun _ => true) true fuel 37 [.slice a len cap] = some y) :
    ∃ bs A c, Value.slice a len cap = .slice A (bs : List Int).length c ∧ Oct bs ∧ Rd w A (octs bs) ∧ bs.length ≤ c ∧ c ≤ maxLen := by
  rcases open_ints Try.underlying37 Try.underlying5 (by kernel_rfl) hf with ⟨hcs, _⟩ | ⟨x, l, c, zs, hcs, _, hl, hm, hz, _, hcell, hwz⟩
  · simp at hcs
    obtain ⟨rfl, rfl, rfl⟩ := hcs
    exact ⟨[], none, 0, rfl, (by intro x hx; cases hx), Rd.nil _ _, Nat.le_refl _, by simp [maxLen]⟩
  · simp at hcs
    obtain ⟨rfl, rfl, rfl⟩ := hcs
    simp at hz
    refine ⟨zs.take len, some x, cap, by rw [List.length_take]; congr 1; omega, (Oct.of_wf hwz).take len, fun hn => ?_, by rw [List.length_take]; omega, hm⟩
    rw [octs_length, List.length_take] at hn
    obtain ⟨b, off, spot⟩ := x
    have h0 := hcell 0 (by omega)
    have hspot : spot = none := by simpa [Addr.add] using World.cell?_spot h0
    subst hspot
    refine ⟨b, off, rfl, block_lt_of_cell h0, fun i u hu => ?_⟩
    unfold octs at hu
    rw [List.getElem?_map, List.getElem?_take] at hu
    have hi : i < zs.length := by
      rcases Nat.lt_or_ge i zs.length with h | h
      · exact h
      · rw [List.getElem?_eq_none h] at hu; split at hu <;> cases hu
    have := hcell i hi
    rw [addr_add] at this
    rw [this]
    split at hu
    · rw [List.getElem?_eq_getElem hi] at hu
      rw [List.getD_eq_getElem?_getD, List.getElem?_eq_getElem hi]
      simpa using hu
    · cases hu
/-- A model argument's memory. -/
structure MdIn (d : Md) (A B D : Option Addr) (c cc cp : Nat) (w : World) : Prop where
  ok : ∀ t ∈ d.ts, t.ok
  rd : MdR d A B D w
  oc : Oct d.code
  op : Oct d.post
  l1 : d.ts.length ≤ c ∧ c ≤ 9223372036854775807
  l2 : d.code.length ≤ cc ∧ cc ≤ 9223372036854775807
  l3 : d.post.length ≤ cp ∧ cp ≤ 9223372036854775807
set_option maxRecDepth 100000 in
theorem open_model {H : Type} {enc : TypeId × Value → H} {base : Nat} {d : DataW H} {ps : List MemPlace} {v : Value} {w : World} (hv : Value.okWide Try.prog w .any base 58 v) (hk : DataW.Trod enc Try.prog w 0 (fun _ => true) true 58 v d ps) :
    ∃ (t : Md) (A B D : Option Addr) (c cc cp : Nat), v = t.val A B D c cc cp ∧ MdIn t A B D c cc cp w := by
  obtain ⟨cs, rfl, hcsz⟩ := okWide_struct Try.underlying58 hv
  obtain ⟨fuel, hf⟩ := hk
  obtain ⟨xs, n, hm, hy, hl, hxl, hf⟩ := DataW.trod_struct Try.underlying58 hf
  have hcc : (Value.agg cs).cells.toList = cs.toList := rfl
  rw [hcc] at hl hf
  have c3 : Try.prog.cellsOf 3 = 1 := by kernel_rfl
  have c22 : Try.prog.cellsOf 22 = 1 := by kernel_rfl
  have c37 : Try.prog.cellsOf 37 = 1 := by kernel_rfl
  have c58 : Try.prog.cellsOf 58 = 7 := by kernel_rfl
  rw [c58] at hl
  have hx : ∀ i, i < 7 → ∃ y, xs[i]? = some y := fun i hi => ⟨_, List.getElem?_eq_getElem (by rw [hxl]; exact hi)⟩
  have h0 : DataW.trod enc Try.prog w 0 (fun _ => true) true n 3 ((cs.toList.drop 0).take (Try.prog.cellsOf 3)) = xs[0]? := hf 0 _ rfl
  have h1 : DataW.trod enc Try.prog w 0 (fun _ => true) true n 3 ((cs.toList.drop 1).take (Try.prog.cellsOf 3)) = xs[1]? := hf 1 _ rfl
  have h2 : DataW.trod enc Try.prog w 0 (fun _ => true) true n 3 ((cs.toList.drop 2).take (Try.prog.cellsOf 3)) = xs[2]? := hf 2 _ rfl
  have h3 : DataW.trod enc Try.prog w 0 (fun _ => true) true n 3 ((cs.toList.drop 3).take (Try.prog.cellsOf 3)) = xs[3]? := hf 3 _ rfl
  have h4 : DataW.trod enc Try.prog w 0 (fun _ => true) true n 22 ((cs.toList.drop 4).take (Try.prog.cellsOf 22)) = xs[4]? := hf 4 _ rfl
  have h5 : DataW.trod enc Try.prog w 0 (fun _ => true) true n 37 ((cs.toList.drop 5).take (Try.prog.cellsOf 37)) = xs[5]? := hf 5 _ rfl
  have h6 : DataW.trod enc Try.prog w 0 (fun _ => true) true n 37 ((cs.toList.drop 6).take (Try.prog.cellsOf 37)) = xs[6]? := hf 6 _ rfl
  rw [c3] at h0
  rw [c3] at h1
  rw [c3] at h2
  rw [c3] at h3
  rw [c22] at h4
  rw [c37] at h5
  rw [c37] at h6
  obtain ⟨y0, e0⟩ := hx 0 (by omega)
  obtain ⟨y1, e1⟩ := hx 1 (by omega)
  obtain ⟨y2, e2⟩ := hx 2 (by omega)
  obtain ⟨y3, e3⟩ := hx 3 (by omega)
  obtain ⟨y4, e4⟩ := hx 4 (by omega)
  obtain ⟨y5, e5⟩ := hx 5 (by omega)
  obtain ⟨y6, e6⟩ := hx 6 (by omega)
  rw [e0] at h0
  rw [e1] at h1
  rw [e2] at h2
  rw [e3] at h3
  rw [e4] at h4
  rw [e5] at h5
  rw [e6] at h6
  obtain ⟨n0, q0, _, wf0⟩ := DataW.trod_int Try.underlying3 h0
  obtain ⟨n1, q1, _, wf1⟩ := DataW.trod_int Try.underlying3 h1
  obtain ⟨n2, q2, _, wf2⟩ := DataW.trod_int Try.underlying3 h2
  obtain ⟨n3, q3, _, wf3⟩ := DataW.trod_int Try.underlying3 h3
  have q4 : ∃ a l c, (cs.toList.drop 4).take 1 = [.slice a l c] := by
    rcases DataW.trod_slice Try.underlying22 h4 with ⟨hcs, _⟩ | ⟨a, len, cap, elems, rest, n, hn, hcs, _⟩
    · exact ⟨_, _, _, hcs⟩
    · exact ⟨_, _, _, hcs⟩
  obtain ⟨a4, l4, c4, q4⟩ := q4
  rw [q4] at h4
  have q5 : ∃ a l c, (cs.toList.drop 5).take 1 = [.slice a l c] := by
    rcases DataW.trod_slice Try.underlying37 h5 with ⟨hcs, _⟩ | ⟨a, len, cap, elems, rest, n, hn, hcs, _⟩
    · exact ⟨_, _, _, hcs⟩
    · exact ⟨_, _, _, hcs⟩
  obtain ⟨a5, l5, c5, q5⟩ := q5
  rw [q5] at h5
  have q6 : ∃ a l c, (cs.toList.drop 6).take 1 = [.slice a l c] := by
    rcases DataW.trod_slice Try.underlying37 h6 with ⟨hcs, _⟩ | ⟨a, len, cap, elems, rest, n, hn, hcs, _⟩
    · exact ⟨_, _, _, hcs⟩
    · exact ⟨_, _, _, hcs⟩
  obtain ⟨a6, l6, c6, q6⟩ := q6
  rw [q6] at h6
  obtain ⟨ts, A, c, r4, hok, p4, b4, m4⟩ := open_ptsF h4
  obtain ⟨code, B, cc, r5, o5, p5, b5, m5⟩ := open_bytesF h5
  obtain ⟨post, D, cp, r6, o6, p6, b6, m6⟩ := open_bytesF h6
  rw [r4] at q4
  rw [r5] at q5
  rw [r6] at q6
  unfold maxLen at m4 m5 m6
  refine ⟨⟨n0, n1, n2, n3, ts, code, post⟩, A, B, D, c, cc, cp, ?_, ⟨hok, ⟨p4, p5, p6⟩, o5, o6, ⟨b4, by omega⟩, ⟨b5, by omega⟩, ⟨b6, by omega⟩⟩⟩
  obtain ⟨l⟩ := cs
  simp only at *
  rcases l with _ | ⟨v0, _ | ⟨v1, _ | ⟨v2, _ | ⟨v3, _ | ⟨v4, _ | ⟨v5, _ | ⟨v6, _ | ⟨v7, l⟩⟩⟩⟩⟩⟩⟩⟩ <;> simp at hl
  simp at q0 q1 q2 q3 q4 q5 q6
  subst q0 q1 q2 q3 q4 q5 q6
  rfl
theorem modelBack_law {H : Type} {enc : TypeId × Value → H} {base0 base1 : Nat} {d0 d1 : DataW H} {p0 p1 : List MemPlace} (v0 v1 : Value) (w : World)
    (h0 : Value.okWide Try.prog w .any base0 58 v0) (k0 : DataW.Trod enc Try.prog w 0 (fun _ => true) true 58 v0 d0 p0) (h1 : Value.okWide Try.prog w .any base1 37 v1) (k1 : DataW.Trod enc Try.prog w 0 (fun _ => true) true 37 v1 d1 p1) :
    Calls Try.prog 9 #[v0, v1] w fun e w' => e = .returned (.bool true) ∧ Below w.heap.size w w' := by
  obtain ⟨d, A, B, D, c, cc, cp, rfl, hm⟩ := open_model h0 k0
  obtain ⟨bs, E, cb, rfl, ho, hr, hb, hcb⟩ := open_bytesV h1 k1
  unfold maxLen at hcb
  exact (back9 d A B D c cc cp bs E bs.length cb w hm.ok hm.rd hm.oc hm.op rfl hb (by omega) ho hr (by have := hm.l1; omega) (by have := hm.l2; omega) (by have := hm.l3; omega)).mono fun _ _ h => ⟨h.1, h.2⟩
end Go.Proofs.Ytaiekpdoljleeaa
