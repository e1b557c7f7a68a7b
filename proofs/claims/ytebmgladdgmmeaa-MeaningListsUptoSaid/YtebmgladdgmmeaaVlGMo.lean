/- A machine, an instruction, two numbers, opened. Plain. -/
import Derived.Test.YtebmgladdgmmeaaVdGPl
import Derived.Test.YtebmgladdgmmeaaVlEx
import Derived.Deep.Slices
import Derived.Deep.Fields
import Derived.Deep.Grids
import Derived.OpenShut
namespace Go.Proofs.Ytebmgladdgmmeaa
open Go.RowKit Go.WideShapes Go.ChangeShapes Go.Deep
set_option linter.unusedVariables false
set_option linter.unusedSimpArgs false
section
variable {H : Type} {enc : TypeId × Value → H} {w : World} {base : Nat}
set_option maxRecDepth 100000 in
theorem open_wordsG {fuel : Nat} {a : Option Addr} {len cap : Nat} {y : DataW H × List MemPlace} (hf : DataW.trod enc Try.prog w 0 (fun _ => true) true fuel 47 [.slice a len cap] = some y) :
    ∃ bs A c, Value.slice a len cap = .slice A (bs : List Int).length c ∧ Wds bs ∧ Rd w A (bs.map (.int .u32)) ∧ bs.length ≤ c ∧ c ≤ maxLen := by
  rcases open_ints Try.underlying47 Try.underlying45 (by kernel_rfl) hf with ⟨hcs, _⟩ | ⟨x, l, c, zs, hcs, _, hl, hm, hz, _, hcell, hwz⟩
  · simp at hcs
    obtain ⟨rfl, rfl, rfl⟩ := hcs
    exact ⟨[], none, 0, rfl, (by intro x hx; cases hx), Rd.nil _ _, Nat.le_refl _, by simp [maxLen]⟩
  · simp at hcs
    obtain ⟨rfl, rfl, rfl⟩ := hcs
    simp at hz
    have hp : Wds zs := fun x hx => wf_u32 (hwz x hx)
    refine ⟨zs.take len, some x, cap, by rw [List.length_take]; congr 1; omega, (fun x hx => hp x (List.mem_of_mem_take hx)), fun hn => ?_, by rw [List.length_take]; omega, hm⟩
    rw [List.length_map, List.length_take] at hn
    obtain ⟨b, off, spot⟩ := x
    have h0 := hcell 0 (by omega)
    have hspot : spot = none := by simpa [Addr.add] using World.cell?_spot h0
    subst hspot
    refine ⟨b, off, rfl, block_lt_of_cell h0, fun i u hu => ?_⟩
    rw [List.getElem?_map, List.getElem?_take] at hu
    have hi : i < zs.length := by
      rcases Nat.lt_or_ge i zs.length with h | h
      · exact h
      · rw [List.getElem?_eq_none h] at hu; split at hu <;> cases hu
    have := hcell i hi
    rw [addr_add] at this
    rw [this]
    split at hu
    · rw [List.getElem?_eq_getElem hi] at hu
      rw [List.getD_eq_getElem?_getD, List.getElem?_eq_getElem hi]
      simpa using hu
    · cases hu
set_option maxRecDepth 100000 in
theorem open_bytesG {fuel : Nat} {a : Option Addr} {len cap : Nat} {y : DataW H × List MemPlace} (hf : DataW.trod enc Try.prog w 0 (fun _ => true) true fuel 48 [.slice a len cap] = some y) :
    ∃ bs A c, Value.slice a len cap = .slice A (bs : List Int).length c ∧ Oct bs ∧ Rd w A (bs.map (.int .u8)) ∧ bs.length ≤ c ∧ c ≤ maxLen := by
  rcases open_ints Try.underlying48 Try.underlying5 (by kernel_rfl) hf with ⟨hcs, _⟩ | ⟨x, l, c, zs, hcs, _, hl, hm, hz, _, hcell, hwz⟩
  · simp at hcs
    obtain ⟨rfl, rfl, rfl⟩ := hcs
    exact ⟨[], none, 0, rfl, (by intro x hx; cases hx), Rd.nil _ _, Nat.le_refl _, by simp [maxLen]⟩
  · simp at hcs
    obtain ⟨rfl, rfl, rfl⟩ := hcs
    simp at hz
    have hp : Oct zs := fun x hx => wf_u8 (hwz x hx)
    refine ⟨zs.take len, some x, cap, by rw [List.length_take]; congr 1; omega, (fun x hx => hp x (List.mem_of_mem_take hx)), fun hn => ?_, by rw [List.length_take]; omega, hm⟩
    rw [List.length_map, List.length_take] at hn
    obtain ⟨b, off, spot⟩ := x
    have h0 := hcell 0 (by omega)
    have hspot : spot = none := by simpa [Addr.add] using World.cell?_spot h0
    subst hspot
    refine ⟨b, off, rfl, block_lt_of_cell h0, fun i u hu => ?_⟩
    rw [List.getElem?_map, List.getElem?_take] at hu
    have hi : i < zs.length := by
      rcases Nat.lt_or_ge i zs.length with h | h
      · exact h
      · rw [List.getElem?_eq_none h] at hu; split at hu <;> cases hu
    have := hcell i hi
    rw [addr_add] at this
    rw [this]
    split at hu
    · rw [List.getElem?_eq_getElem hi] at hu
      rw [List.getD_eq_getElem?_getD, List.getElem?_eq_getElem hi]
      simpa using hu
    · cases hu
theorem drop_split (l : List Value) (k n : Nat) : l.drop k = (l.drop k).take n ++ l.drop (k + n) := by
  rw [← List.drop_drop, List.take_append_drop]
theorem open_rowG {fuel : Nat} {cs : List Value} {x : DataW H × List MemPlace} (h : DataW.trod enc Try.prog w 0 (fun _ => true) true fuel 46 cs = some x) : ∃ l : List Int, l.length = 256 ∧ Wds l ∧ cs = l.map (.int .u32) := by
  have c46 : Try.prog.cellsOf 46 = 256 := by kernel_rfl
  have c45 : Try.prog.cellsOf 45 = 1 := by kernel_rfl
  obtain ⟨xs, m, _, _, hlen, hxl, hf⟩ := DataW.trod_array Try.underlying46 h
  rw [c46] at hlen
  have hel : ∀ i, i < 256 → ∃ n : Int, U32 n ∧ cs[i]? = some (.int .u32 n) := fun i hi => by
    have h1 := hf i hi
    rw [c45, Nat.mul_one, List.getElem?_eq_getElem (by omega)] at h1
    obtain ⟨n, e, _, wf⟩ := DataW.trod_int Try.underlying45 h1
    have h2 : (cs.drop i).take 1 = [cs[i]] := by rw [List.drop_eq_getElem_cons (by omega)]; rfl
    rw [h2] at e
    injection e with e
    exact ⟨n, wf_u32 wf, by rw [List.getElem?_eq_getElem (by omega), e]⟩
  obtain ⟨f, hfn⟩ := choose_lt hel
  refine ⟨(List.range 256).map f, by simp, fun y hy => ?_, ?_⟩
  · obtain ⟨i, hi, rfl⟩ := List.mem_map.1 hy
    exact (hfn i (List.mem_range.1 hi)).1
  · apply List.ext_getElem?
    intro i
    rcases Nat.lt_or_ge i 256 with hi | hi
    · rw [(hfn i hi).2]
      simp [List.getElem?_range hi]
    · rw [List.getElem?_eq_none (by omega), List.getElem?_eq_none (by simp; omega)]
/-- A machine argument. -/
structure MIn (s : St) (Ah Am : Option Addr) (ch cm : Nat) (w : World) : Prop where
  m : s.m.ok
  hw : Wds s.hs
  mo : Oct s.ms
  rh : Rd w Ah (s.hs.map (.int .u32))
  rm : Rd w Am (s.ms.map (.int .u8))
  lh : s.hs.length ≤ ch ∧ ch ≤ maxLen
  lm : s.ms.length ≤ cm ∧ cm ≤ maxLen
set_option maxRecDepth 100000 in
theorem open_machine {d : DataW H} {ps : List MemPlace} {v : Value} (hv : Value.okWide Try.prog w .any base 50 v) (hk : DataW.Trod enc Try.prog w 0 (fun _ => true) true 50 v d ps) :
    ∃ (s : St) (Ah Am : Option Addr) (ch cm : Nat), v = .agg (s.m.cells (.slice Ah s.hs.length ch) (.slice Am s.ms.length cm)) ∧ MIn s Ah Am ch cm w := by
  obtain ⟨cs, rfl, hcsz⟩ := okWide_struct Try.underlying50 hv
  obtain ⟨fuel, hf⟩ := hk
  obtain ⟨xs, n, hm, hy, hl, hxl, hf⟩ := DataW.trod_struct Try.underlying50 hf
  have hcc : (Value.agg cs).cells.toList = cs.toList := rfl
  rw [hcc] at hl hf
  have c4 : Try.prog.cellsOf 4 = 1 := by kernel_rfl
  have c45 : Try.prog.cellsOf 45 = 1 := by kernel_rfl
  have c46 : Try.prog.cellsOf 46 = 256 := by kernel_rfl
  have c47 : Try.prog.cellsOf 47 = 1 := by kernel_rfl
  have c48 : Try.prog.cellsOf 48 = 1 := by kernel_rfl
  have c50 : Try.prog.cellsOf 50 = 263 := by kernel_rfl
  rw [c50] at hl
  have hx : ∀ i, i < 8 → ∃ y, xs[i]? = some y := fun i hi => ⟨_, List.getElem?_eq_getElem (by rw [hxl]; exact hi)⟩
  have h0 : DataW.trod enc Try.prog w 0 (fun _ => true) true n 45 ((cs.toList.drop 0).take (Try.prog.cellsOf 45)) = xs[0]? := hf 0 _ rfl
  have h1 : DataW.trod enc Try.prog w 0 (fun _ => true) true n 45 ((cs.toList.drop 1).take (Try.prog.cellsOf 45)) = xs[1]? := hf 1 _ rfl
  have h2 : DataW.trod enc Try.prog w 0 (fun _ => true) true n 45 ((cs.toList.drop 2).take (Try.prog.cellsOf 45)) = xs[2]? := hf 2 _ rfl
  have h3 : DataW.trod enc Try.prog w 0 (fun _ => true) true n 45 ((cs.toList.drop 3).take (Try.prog.cellsOf 45)) = xs[3]? := hf 3 _ rfl
  have h4 : DataW.trod enc Try.prog w 0 (fun _ => true) true n 4 ((cs.toList.drop 4).take (Try.prog.cellsOf 4)) = xs[4]? := hf 4 _ rfl
  have h5 : DataW.trod enc Try.prog w 0 (fun _ => true) true n 46 ((cs.toList.drop 5).take (Try.prog.cellsOf 46)) = xs[5]? := hf 5 _ rfl
  have h6 : DataW.trod enc Try.prog w 0 (fun _ => true) true n 47 ((cs.toList.drop 261).take (Try.prog.cellsOf 47)) = xs[6]? := hf 6 _ rfl
  have h7 : DataW.trod enc Try.prog w 0 (fun _ => true) true n 48 ((cs.toList.drop 262).take (Try.prog.cellsOf 48)) = xs[7]? := hf 7 _ rfl
  rw [c45] at h0
  obtain ⟨y0, e0⟩ := hx 0 (by omega)
  rw [e0] at h0
  rw [c45] at h1
  obtain ⟨y1, e1⟩ := hx 1 (by omega)
  rw [e1] at h1
  rw [c45] at h2
  obtain ⟨y2, e2⟩ := hx 2 (by omega)
  rw [e2] at h2
  rw [c45] at h3
  obtain ⟨y3, e3⟩ := hx 3 (by omega)
  rw [e3] at h3
  rw [c4] at h4
  obtain ⟨y4, e4⟩ := hx 4 (by omega)
  rw [e4] at h4
  rw [c46] at h5
  obtain ⟨y5, e5⟩ := hx 5 (by omega)
  rw [e5] at h5
  rw [c47] at h6
  obtain ⟨y6, e6⟩ := hx 6 (by omega)
  rw [e6] at h6
  rw [c48] at h7
  obtain ⟨y7, e7⟩ := hx 7 (by omega)
  rw [e7] at h7
  obtain ⟨n0, q0, _, wf0⟩ := DataW.trod_int Try.underlying45 h0
  obtain ⟨n1, q1, _, wf1⟩ := DataW.trod_int Try.underlying45 h1
  obtain ⟨n2, q2, _, wf2⟩ := DataW.trod_int Try.underlying45 h2
  obtain ⟨n3, q3, _, wf3⟩ := DataW.trod_int Try.underlying45 h3
  obtain ⟨n4, q4, _⟩ := DataW.trod_bool Try.underlying4 h4
  obtain ⟨rl, r1, r2, q5⟩ := open_rowG h5
  have q6 : ∃ a l c, (cs.toList.drop 261).take 1 = [.slice a l c] := by
    rcases DataW.trod_slice Try.underlying47 h6 with ⟨hcs, _⟩ | ⟨a, len, cap, elems, rest, n, hn, hcs, _⟩
    · exact ⟨_, _, _, hcs⟩
    · exact ⟨_, _, _, hcs⟩
  obtain ⟨a6, l6, c6', q6⟩ := q6
  rw [q6] at h6
  have q7 : ∃ a l c, (cs.toList.drop 262).take 1 = [.slice a l c] := by
    rcases DataW.trod_slice Try.underlying48 h7 with ⟨hcs, _⟩ | ⟨a, len, cap, elems, rest, n, hn, hcs, _⟩
    · exact ⟨_, _, _, hcs⟩
    · exact ⟨_, _, _, hcs⟩
  obtain ⟨a7, l7, c7', q7⟩ := q7
  rw [q7] at h7
  obtain ⟨hs, Ah, ch, r6, wh, rh, lh, mh⟩ := open_wordsG h6
  obtain ⟨ms, Am, cm, r7, om, rm, lm, mm⟩ := open_bytesG h7
  rw [r6] at q6
  rw [r7] at q7
  have hd : cs.toList = ([.int .u32 n0] : List Value) ++ ([.int .u32 n1] ++ ([.int .u32 n2] ++ ([.int .u32 n3] ++ ([.bool n4] ++ (rl.map (.int .u32) ++ ([.slice Ah hs.length ch] ++ ([.slice Am ms.length cm] ++ []))))))) := by
    have e : cs.toList.drop 263 = [] := List.drop_eq_nil_of_le (by omega)
    rw [← q0, ← q1, ← q2, ← q3, ← q4, ← q5, ← q6, ← q7, ← e]
    rw [← drop_split cs.toList 262 1, ← drop_split cs.toList 261 1, ← drop_split cs.toList 5 256, ← drop_split cs.toList 4 1, ← drop_split cs.toList 3 1, ← drop_split cs.toList 2 1, ← drop_split cs.toList 1 1, ← drop_split cs.toList 0 1]
    rfl
  refine ⟨⟨⟨n0, n1, n2, n3, n4, rl⟩, hs, ms⟩, Ah, Am, ch, cm, ?_, ⟨⟨wf_u32 wf0, wf_u32 wf1, wf_u32 wf2, wf_u32 wf3, r1, r2⟩, wh, om, rh, rm, ⟨lh, mh⟩, ⟨lm, mm⟩⟩⟩
  congr 1
  apply Array.ext'
  rw [hd]
  simp [Mc.cells, Mc.list]
end
end Go.Proofs.Ytebmgladdgmmeaa
