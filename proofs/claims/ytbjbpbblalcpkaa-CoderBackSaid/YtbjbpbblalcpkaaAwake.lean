/- The chapter's examples, which every statement of chapter 14 asks ('awake'): true. -/
import Derived.Test.YtbjbpbblalcpkaaGet
namespace Go.Proofs.Ytbjbpbblalcpkaa
open Go.RowKit Go.WideShapes
set_option linter.unusedVariables false
theorem Enc.below {B : Nat} {w w' : World} {g : Nat} {x y : Int} {out : List Int} {v : Value} (h : Enc B w g x y out v) (hb : Below w.heap.size w w') : Enc B w' g x y out v := h.frm (S := fun _ => False) (Frm.of_below hb) fun _ _ hh => hh
theorem Enc.alloc {B : Nat} {w : World} {g : Nat} {x y : Int} {out : List Int} {v : Value} (h : Enc B w g x y out v) (o : Obj) : Enc B (w.alloc o) g x y out v := h.frm (S := fun _ => False) ((Frm.refl _ w).alloc o) fun _ _ hh => hh
theorem Enc.low {B : Nat} {w : World} {g : Nat} {x y : Int} {out : List Int} {v : Value} (h : Enc B w g x y out v) : ∀ k, own1 g v k → B ≤ k := by
  rintro k (rfl | hk)
  · exact h.ge
  · exact own_ge h.own k hk
theorem Enc.other {B1 B2 : Nat} {w w' : World} {g1 g2 : Nat} {x1 y1 x2 y2 : Int} {o1 o2 : List Int} {v1 v2 : Value} (h2 : Enc B2 w g2 x2 y2 o2 v2) (h1 : Enc B1 w g1 x1 y1 o1 v1) (hf : Frm (own1 g1 v1) w w') (hg : g1 ≠ g2)
    (hv : ∀ k, v2.ownBlock = some k → v1.ownBlock ≠ some k) : Enc B2 w' g2 x2 y2 o2 v2 := by
  refine h2.frm hf ?_
  rintro k (rfl | hk) (h | h)
  · exact hg h.symm
  · exact h2.blk.apart h1.own (by decide) _ h rfl
  · exact h1.blk.apart h2.own (by decide) _ hk h
  · exact hv k hk h
theorem Enc.lt {B : Nat} {w : World} {g : Nat} {x y : Int} {out : List Int} {v : Value} (h : Enc B w g x y out v) : g < w.heap.size := h.blk.lt
theorem nrm0 : Nrm 0 4294967295 := ⟨⟨by omega, by omega, by omega⟩, by omega⟩
theorem step_a : step 1 32768 0 4294967295 = ([], 0, 2147483647) := by decide +kernel
theorem step_b : step 0 32768 0 4294967295 = ([], 2147483648, 4294967295) := by decide +kernel
theorem step_c : step 1 1 0 4294967295 = ([0, 0], 0, 4294967295) := by decide +kernel
theorem four_a : four 0 = [0, 0, 0, 0] := by decide +kernel
theorem four_b : four 2147483648 = [128, 0, 0, 0] := by decide +kernel
theorem nexts_b : nexts [128, 0, 0, 0] 4 (0, 0) = (4, 2147483648) := by decide +kernel
theorem bit_b : bitOf 0 4294967295 32768 2147483648 = 0 := by decide +kernel
theorem rd_new (w : World) (l : List Value) (e : TypeId) : Rd (w.alloc (.cells l.toArray e)) (some ⟨w.heap.size, 0, none⟩) l := fun _ => by
  refine ⟨_, 0, rfl, by simp, fun i u hu => ?_⟩
  rw [cell_of_row _ _ _ _ _ _ (heap_alloc_new _ _), Nat.zero_add]
  simpa using hu
theorem rd_octs (w : World) (l : List Int) : Rd (w.alloc (.cells ((l.map (Value.int .u8)).toArray) 5)) (some ⟨w.heap.size, 0, none⟩) (octs l) := rd_new w _ 5
structure AwakeA (B : Nat) (w0 : World) (e : Ending) (w : World) : Prop where
  ret : e = .returned (.bool true)
  low : Below B w0 w
set_option maxRecDepth 100000 in
set_option maxHeartbeats 8000000 in
theorem awake_any (w : World) : Calls Try.prog 16 #[] w fun e w' => e = .returned (.bool true) ∧ Below w.heap.size w w' := by
  go_enter Try.func16, Try.ntmps16
  go_wp2_with fail
  refine (newEnc_any _).mono ?_
  rintro e w1 ⟨⟨ga, rfl, ea⟩, hb1⟩
  go_wp2_with fail
  refine (newEnc_any _).mono ?_
  rintro e w2 ⟨⟨gb, rfl, eb⟩, hb2⟩
  go_wp2_with fail
  refine (newEnc_any _).mono ?_
  rintro e w3 ⟨⟨gc, rfl, ec⟩, hb3⟩
  have ea3 := (ea.below hb2).below hb3
  have eb3 := eb.below hb3
  have nab : ga ≠ gb := by have := ea.lt; have := eb.ge; omega
  have nac : ga ≠ gc := by have := (ea.below hb2).lt; have := ec.ge; omega
  have nbc : gb ≠ gc := by have := eb.lt; have := ec.ge; omega
  have k3 := ch0 (ch0 hb1 hb2) hb3
  have s13 : w.heap.size ≤ w1.heap.size := hb1.size
  have s12 : w.heap.size ≤ w2.heap.size := by have := hb2.size; omega
  have EA := Lib.hid ea3
  have EB := Lib.hid eb3
  have EC := Lib.hid ec
  have K3 := Lib.hid k3
  have S3 : Hid (w1.heap.size ≤ w3.heap.size ∧ w2.heap.size ≤ w3.heap.size) := ⟨Nat.le_trans hb2.size hb3.size, hb3.size⟩
  clear ea eb ec ea3 eb3 hb1 hb2 hb3 k3
  go_wp2_with fail
  refine (put_ok _ ga 1 0 4294967295 32768 [] _ _ EA.out nrm0 (by simp) (by have := S3.out; have := K3.out.size; omega) (.inr rfl) (by omega) (by omega)).mono ?_
  rw [step_a]
  rintro e w4 ⟨rfl, ⟨va, ea4, hva⟩, f4⟩
  have eb4 := EB.out.other EA.out f4 nab (fun k hk => by cases hk)
  have ec4 := EC.out.other EA.out f4 nac (fun k hk => by cases hk)
  have k4 := K3.out.trans (f4.to_below (B := w.heap.size) K3.out.size fun k hk => EA.out.low k hk)
  have EA4 := Lib.hid ea4
  have EB4 := Lib.hid eb4
  have EC4 := Lib.hid ec4
  have K4 := Lib.hid k4
  have S4 := Lib.hid f4.size
  clear ea4 eb4 ec4 k4 f4 hva EA EB EC K3
  go_wp2_with fail
  refine (put_ok _ gb 0 0 4294967295 32768 [] _ _ EB4.out nrm0 (by simp) (by have := S3.out; have := S4.out; omega) (.inl rfl) (by omega) (by omega)).mono ?_
  rw [step_b]
  rintro e w5 ⟨rfl, ⟨vb, eb5, hvb⟩, f5⟩
  have ea5 := EA4.out.other EB4.out f5 (Ne.symm nab) (fun k hk => by simp [Value.ownBlock])
  have ec5 := EC4.out.other EB4.out f5 nbc (fun k hk => by cases hk)
  have k5 := K4.out.trans (f5.to_below (B := w.heap.size) K4.out.size fun k hk => Nat.le_trans s13 (EB4.out.low k hk))
  have EA5 := Lib.hid ea5
  have EB5 := Lib.hid eb5
  have EC5 := Lib.hid ec5
  have K5 := Lib.hid k5
  have S5 := Lib.hid f5.size
  clear ea5 eb5 ec5 k5 f5 hvb EA4 EB4 EC4 K4
  go_wp2_with fail
  refine (put_ok _ gc 1 0 4294967295 1 [] _ _ EC5.out nrm0 (by simp) (by have := S3.out; have := S4.out; have := S5.out; omega) (.inr rfl) (by omega) (by omega)).mono ?_
  rw [step_c]
  rintro e w6 ⟨rfl, ⟨vc, ec6, hvc⟩, f6⟩
  have ea6 := EA5.out.other EC5.out f6 (Ne.symm nac) (fun k hk => by simp [Value.ownBlock])
  have eb6 := EB5.out.other EC5.out f6 (Ne.symm nbc) (fun k hk => by simp [Value.ownBlock])
  have k6 := K5.out.trans (f6.to_below (B := w.heap.size) K5.out.size fun k hk => Nat.le_trans s12 (EC5.out.low k hk))
  have EA6 := Lib.hid ea6
  have EB6 := Lib.hid eb6
  have EC6 := Lib.hid ec6
  have K6 := Lib.hid k6
  clear ea6 eb6 ec6 k6 f6 hvc EA5 EB5 EC5 K5
  go_wp2_with fail
  refine (end_any _ gb _ _ _ _ _ EB6.out ⟨by omega, by omega, by omega⟩ (by simp)).mono ?_
  rw [four_b]
  rintro e w7 ⟨⟨A7, c7, rfl, hc7, o7⟩, hb7⟩
  have EA7 := Lib.hid (EA6.out.below hb7)
  have EB7 := Lib.hid (EB6.out.below hb7)
  have EC7 := Lib.hid (EC6.out.below hb7)
  have K7 := Lib.hid (ch0 K6.out hb7)
  have R7 := Lib.hid (rd_own o7)
  have hA7 : A7 = none → 4 = 0 ∧ c7 = 0 := fun h => by
    subst h
    rcases o7.2 with ⟨h0, _⟩ | ⟨_, _, _, h0, _⟩
    · injection h0 with _ h1; cases h1
    · injection h0 with h1; cases h1
  have HA7 := Lib.hid hA7
  clear hb7 o7 EA6 EB6 EC6 K6 hA7
  go_wp2_with fail
  refine (newDec_any [128, 0, 0, 0] A7 4 c7 _ rfl (by unfold Oct; decide) R7.out HA7.out (by omega)).mono ?_
  rintro e w8 ⟨⟨gd, vd, rfl, ed, _⟩, hb8⟩
  rw [nexts_b] at ed
  have EA8 := Lib.hid (EA7.out.below hb8)
  have EB8 := Lib.hid (EB7.out.below hb8)
  have EC8 := Lib.hid (EC7.out.below hb8)
  have K8 := Lib.hid (ch0 K7.out hb8)
  have ED := Lib.hid ed
  have hgd := ed.ge
  have ndA : ga ≠ gd := by have := EA7.out.lt; omega
  have ndB : gb ≠ gd := by have := EB7.out.lt; omega
  have ndC : gc ≠ gd := by have := EC7.out.lt; omega
  have hlow : w.heap.size ≤ gd := by have := K7.out.size; omega
  clear ed hb8 EA7 EB7 EC7 K7 hgd
  go_wp2_with fail
  refine (get_ok _ gd 0 4294967295 32768 [128, 0, 0, 0] _ _ _ ED.out nrm0 (by simp) (by omega) (by omega)).mono ?_
  rw [show bitOf 0 4294967295 32768 ((4, 2147483648) : Nat × Int).2 = 0 from bit_b]
  rintro e w9 ⟨rfl, _, f9⟩
  have kn : ∀ {g x y out v}, Enc w.heap.size w8 g x y out v → True := fun _ => trivial
  clear kn
  have EA9 := Lib.hid (EA8.out.frm f9 (by rintro k (rfl | hk) h; exact ndA h; exact ED.out.blk.apart EA8.out.own (by decide) k hk h))
  have EB9 := Lib.hid (EB8.out.frm f9 (by rintro k (rfl | hk) h; exact ndB h; exact ED.out.blk.apart EB8.out.own (by decide) k hk h))
  have EC9 := Lib.hid (EC8.out.frm f9 (by rintro k (rfl | hk) h; exact ndC h; exact ED.out.blk.apart EC8.out.own (by decide) k hk h))
  have K9 := Lib.hid (K8.out.trans (f9.to_below (B := w.heap.size) K8.out.size fun k hk => by omega))
  clear f9 EA8 EB8 EC8 K8 ED
  go_wp2_with fail
  refine (end_any _ ga _ _ _ _ _ EA9.out ⟨by omega, by omega, by omega⟩ (by simp)).mono ?_
  rw [four_a]
  rintro e w10 ⟨⟨A10, c10, rfl, hc10, o10⟩, hb10⟩
  have EA10 := Lib.hid (EA9.out.below hb10)
  have EB10 := Lib.hid (EB9.out.below hb10)
  have EC10 := Lib.hid (EC9.out.below hb10)
  have K10 := Lib.hid (ch0 K9.out hb10)
  have R10 := Lib.hid ((rd_own o10).alloc (.cells #[.int .u8 0, .int .u8 0, .int .u8 0, .int .u8 0] 5))
  clear hb10 o10 EA9 EB9 EC9 K9
  go_wp2_with fail
  refine (sameB [0, 0, 0, 0] [0, 0, 0, 0] A10 _ 4 4 _ _ _ rfl rfl R10.out (rd_octs _ [0, 0, 0, 0]) (by omega)).mono ?_
  rw [show decide (([0, 0, 0, 0] : List Int) = [0, 0, 0, 0]) = true from by decide]
  rintro e w11 ⟨rfl, hb11⟩
  have EA11 := Lib.hid ((EA10.out.alloc _).below hb11)
  have EB11 := Lib.hid ((EB10.out.alloc _).below hb11)
  have EC11 := Lib.hid ((EC10.out.alloc _).below hb11)
  have K11 := Lib.hid (ch1 K10.out hb11)
  clear hb11 EA10 EB10 EC10 K10
  go_wp2_with fail
  refine (end_any _ gb _ _ _ _ _ EB11.out ⟨by omega, by omega, by omega⟩ (by simp)).mono ?_
  rw [four_b]
  rintro e w12 ⟨⟨A12, c12, rfl, hc12, o12⟩, hb12⟩
  have EA12 := Lib.hid (EA11.out.below hb12)
  have EC12 := Lib.hid (EC11.out.below hb12)
  have K12 := Lib.hid (ch0 K11.out hb12)
  have R12 := Lib.hid ((rd_own o12).alloc (.cells #[.int .u8 128, .int .u8 0, .int .u8 0, .int .u8 0] 5))
  clear hb12 o12 EA11 EB11 EC11 K11
  go_wp2_with fail
  refine (sameB [128, 0, 0, 0] [128, 0, 0, 0] A12 _ 4 4 _ _ _ rfl rfl R12.out (rd_octs _ [128, 0, 0, 0]) (by omega)).mono ?_
  rw [show decide (([128, 0, 0, 0] : List Int) = [128, 0, 0, 0]) = true from by decide]
  rintro e w13 ⟨rfl, hb13⟩
  have EA13 := Lib.hid ((EA12.out.alloc _).below hb13)
  have EC13 := Lib.hid ((EC12.out.alloc _).below hb13)
  have K13 := Lib.hid (ch1 K12.out hb13)
  clear hb13 EA12 EC12 K12
  go_wp2_with fail
  refine (len_any _ gc _ _ _ _ _ EC13.out).mono ?_
  rintro e w14 ⟨rfl, rfl⟩
  go_wp2_with fail
  refine (put_arg _ ga 2 _ _ 5 _ _ _ EA13.out (.inl (by omega))).mono ?_
  rintro e w15 ⟨rfl, hb15⟩
  have EA15 := Lib.hid (EA13.out.below hb15)
  have K15 := Lib.hid (ch0 K13.out hb15)
  clear hb15 EA13 EC13 K13
  go_wp2_with fail
  refine (put_arg _ ga 1 _ _ 65536 _ _ _ EA15.out (.inr (.inr (by omega)))).mono ?_
  rintro e w16 ⟨rfl, hb16⟩
  go_wp2
  go_ret
  exact ⟨rfl, ch0 K15.out hb16⟩
end Go.Proofs.Ytbjbpbblalcpkaa
