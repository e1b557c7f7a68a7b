/- sha.Of, the law's hex. -/
import Derived.Test.YtgkgdbjdmmieaaaShWr
import Derived.Test.YtgkgdbjdmmieaaaShSu
namespace Go.Proofs.Ytgkgdbjdmmieaaa
open Go.RowKit Go.WideShapes
set_option linter.unusedVariables false
set_option linter.unusedSimpArgs false
theorem shaV_size (bs : List Int) : (octs (shaI bs)).toArray.size = 20 := by simp [octs_length, shaI_length]
theorem shaV_info (bs : List Int) : (Try.prog.info? 23).map (·.size) = some (octs (shaI bs)).toArray.size := by rw [shaV_size]; exact size23
theorem octs_all (l : List Int) : (octs l).toArray.all (·.oneCell') = true := by
  rw [Array.all_eq_true]
  intro i hi
  exact octs_one _ (show (octs l).toArray[i] ∈ octs l by simp)
theorem rd_block {w : World} {A : Option Addr} {xs : List Int} (h : Rd w A (octs xs)) : 0 < xs.length → ∀ q, A = some q → q.block < w.heap.size := fun hl q hq => by
  obtain ⟨b, off, e, hlt, _⟩ := h (by rwa [octs_length])
  rw [hq] at e
  injection e with e
  subst e
  exact hlt
set_option maxHeartbeats 1000000 in
theorem of_any (xs : List Int) (A : Option Addr) (m c : Nat) (w : World) (hm : m = xs.length) (ho : Oct xs) (hr : Rd w A (octs xs)) (hlen : m ≤ 140737488355000) :
    Calls Try.prog 8 #[.slice A m c] w (Quiet (.agg (octs (shaI xs)).toArray) w) := by
  have hblk := rd_block hr
  have k0 := Blk.new w 23 zero20
  have hr1 := hr.alloc (.cells zero20 23)
  have s1 : (w.alloc (.cells zero20 23)).heap.size = w.heap.size + 1 := by simp
  have hb1 := (Below.refl w.heap.size w).alloc (Nat.le_refl _) (.cells zero20 23)
  have hnew := fun W => new_any W
  have hwr := fun (W : World) (g : Nat) (B : Nat) (hd : Dig B W g [] (.slice none 0 0)) (hr : Rd W A (octs xs)) (hA : 0 < xs.length → ∀ q, A = some q → q.block ≠ g) => write_any B g [] xs (.slice none 0 0) A m c W hd hm ho hr hA (by simpa using hlen)
  have hsu := fun (W : World) (g B : Nat) (v : Value) (hd : Dig B W g ([] ++ xs) v) => sum_any B g ([] ++ xs) v W hd (by simpa [hm] using hlen)
  rw [List.nil_append] at hsu
  have HBLK := Lib.hid hblk
  have K0 := Lib.hid k0
  have HR1 := Lib.hid hr1
  have HS1 := Lib.hid s1
  have HB1 := Lib.hid hb1
  have HNEW := Lib.hid hnew
  have HWR := Lib.hid hwr
  have HSU := Lib.hid hsu
  clear hblk k0 hr1 s1 hb1 hnew hwr hsu hr ho hm
  go_enter Try.func8, Try.ntmps8
  go_wp2_with fail
  refine (HNEW.out _).mono ?_
  rintro e w2 ⟨rfl, hd2, hb2⟩
  have hd2' : Dig (w.alloc (.cells zero20 23)).heap.size w2 (w.alloc (.cells zero20 23)).heap.size [] (.slice none 0 0) := hd2
  have hb2' : Below (w.alloc (.cells zero20 23)).heap.size (w.alloc (.cells zero20 23)) w2 := hb2
  have hr2 : Rd w2 A (octs xs) := HR1.out.below hb2' rfl
  have k2 := K0.out.below hb2'
  have hb2w := HB1.out.trans (hb2'.mono (by rw [HS1.out]; omega))
  rw [HS1.out] at hd2' hb2'
  have hA : 0 < xs.length → ∀ q, A = some q → q.block ≠ w.heap.size + 1 := fun h q hq => by have := HBLK.out h q hq; omega
  have HD2 := Lib.hid hd2'
  have HR2 := Lib.hid hr2
  have K2 := Lib.hid k2
  have HB2 := Lib.hid hb2w
  have HA := Lib.hid hA
  clear hd2 hb2 hd2' hb2' hr2 k2 hb2w hA
  go_wp2_with fail
  refine (HWR.out w2 (w.heap.size + 1) (w.heap.size + 1) HD2.out HR2.out HA.out).mono ?_
  rintro e w3 ⟨rfl, ⟨v3, hd3, hv3⟩, hf3⟩
  have k3 := K2.out.frm hf3 (by rintro (h | h); · omega
                                · simp [Value.ownBlock] at h)
  have hb3 : Below w.heap.size w w3 := HB2.out.trans (hf3.to_below HB2.out.size (fun k hk => by
    rcases hk with h | h
    · omega
    · simp [Value.ownBlock] at h))
  have HD3 := Lib.hid hd3
  have K3 := Lib.hid k3
  have HB3 := Lib.hid hb3
  clear hd3 k3 hb3 hf3 hv3
  go_wp2_with fail
  refine (HSU.out w3 (w.heap.size + 1) (w.heap.size + 1) v3 HD3.out).mono ?_
  rintro e w4 ⟨rfl, hb4⟩
  have k4 := K3.out.below hb4
  obtain ⟨k5, hb5⟩ := row2 (cs' := (octs (shaI xs)).toArray) k4 (HB3.out.trans (hb4.mono HB3.out.size)) (Nat.le_refl _)
  have hsi := shaV_info xs
  have hss : zero20.size = (octs (shaI xs)).toArray.size := by rw [shaV_size]; rfl
  have hone := octs_all (shaI xs)
  generalize (octs (shaI xs)).toArray = fin at *
  have HK4 := Lib.hid k4
  have HK5 := Lib.hid k5
  have HB5 := Lib.hid hb5
  have HSI := Lib.hid hsi
  have HSS := Lib.hid hss
  have HONE := Lib.hid hone
  clear hb4 k4 k5 hb5 hsi hss hone
  go_wp2_with (refine wpList_store_row rfl 23 (.tmp 2) (.tmp 9) rfl w.heap.size fin rfl rfl 23 _ HK4.out HSI.out HSS.out HONE.out ?_)
  exact bodyPost_ret (v := .agg fin) (results_cell_row rfl _ _ w.heap.size 23 fin _ _ rfl HK5.out Try.underlying23 rfl HSI.out) rfl ⟨rfl, HB5.out⟩
end Go.Proofs.Ytgkgdbjdmmieaaa
