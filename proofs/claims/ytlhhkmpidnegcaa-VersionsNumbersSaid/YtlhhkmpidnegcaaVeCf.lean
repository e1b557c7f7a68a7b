/- CopyFiles: files copied one by one: the walk. -/
import Derived.Test.YtlhhkmpidnegcaaVeKi
namespace Go.Proofs.Ytlhhkmpidnegcaa
open Go.RowKit Go.WideShapes
set_option linter.unusedVariables false
set_option linter.unusedSimpArgs false
theorem own_type_ne {w : World} {B B' n n' s s' : Nat} {e e' : TypeId} {v v' : Value} {xs xs' : List Value} (h : w.ownsRow B e s v n xs) (h' : w.ownsRow B' e' s' v' n' xs') (hne : e ≠ e') (k : Nat) (hk : v.ownBlock = some k) : v'.ownBlock ≠ some k := fun hv => by
  rcases h.2 with ⟨rfl, _⟩ | ⟨g, cap, cur, rfl, _, hg, _⟩
  · simp [Value.ownBlock] at hk
  · rcases h'.2 with ⟨rfl, _⟩ | ⟨g', cap', cur', rfl, _, hg', _⟩
    · simp [Value.ownBlock] at hv
    · simp [Value.ownBlock] at hk hv
      subst hk hv
      rw [hg] at hg'
      injection hg' with hg'
      injection hg' with _ ht
      exact hne ht
theorem cf_step {B k : Nat} {wr w1 w3 : World} {v v3 : Value} {fs' : List Fl} {nm : ByteArray} {fr : List Int} {A2 : Option Addr} {n2 c2 : Nat} {o : Obj} (h : OwnF B wr v fs') (hk : fs'.length = k) (hB : B ≤ wr.heap.size) (hb : Below wr.heap.size wr w1)
    (ho : w1.ownsRow wr.heap.size 3 1 (.slice A2 n2 c2) n2 (ints fr)) (hg : (w1.alloc o).grownBy w3 v.ownBlock) (h3 : w3.ownsRow B 41 2 v3 (k + 1) (flatF fs' ++ [.string nm, .slice A2 n2 c2])) : OwnF B w3 v3 (fs' ++ [⟨nm, fr, A2, n2, c2⟩]) := by
  have h1 := h.below hb
  have hfr : Frm (fun k => v.ownBlock = some k) w1 w3 := ((Frm.refl _ w1).alloc o).trans (Frm.of_grown hg (fun k hk => hk)) (fun _ _ h => h)
  have hrow : ∀ {u : Value} {m : Nat} {xs : List Value}, w1.ownsRow B 3 1 u m xs → w3.ownsRow B 3 1 u m xs := fun hu => hfr.own hu fun j hj e => own_type_ne h1.own hu (by decide) j e hj
  refine ⟨?_, fun f hf => ?_⟩
  · rw [List.length_append, hk, flatF_app]
    exact h3
  · rcases List.mem_append.1 hf with hf | hf
    · exact hrow (h1.each f hf)
    · simp at hf
      subst hf
      exact hrow (own_mono ho hB)
theorem appOf_own {P : Program} {t e : TypeId} {z : Value} {size bytes : Nat} (T : SlS P t e z size bytes) {w : World} {B n : Nat} {v : Value} {xs : List Value} (h : w.ownsRow B e size v n xs) : AppOf P w t e size bytes B v n xs := by
  intro ad us hus hc h1 h63 hby hbase ty
  obtain ⟨i, hi, hz, hsz, hb⟩ := info_parts T.i
  obtain ⟨v', w', hrun, h2, h3, _, h5⟩ := run_append_own_at (P := P) w B t ty e i z size bytes T.u hi hz hsz hb T.z T.pos v n xs h ad 1 1 us (by omega) hc h1 h63 hby hbase
  exact ⟨v', w', hrun, h2, h3, h5.imp id fun h k hk => by rw [h] at hk; injection hk with hk; omega⟩
set_option maxRecDepth 100000 in
set_option maxHeartbeats 4000000 in
theorem copyF_any (fs : List Fl) (A : Option Addr) (n c : Nat) (w : World) (hn : fs.length = n) (hr : RdF w A fs) (hm : n ≤ 100000) (hf : ∀ f ∈ fs, f.n ≤ 1000000000) : Calls Try.prog 8 #[.slice A n c] w (Copied fs n w) := by
  have HR := Lib.hid hr
  have HN := Lib.hid hn
  have HF := Lib.hid hf
  clear hr hn hf
  go_enter Try.func8, Try.ntmps8
  go_wp2_with fail
  go_loopw [3, 4] (fun v i wr => ∃ (k : Nat) (fs' : List Fl), k ≤ n ∧ i = .int .i64 k ∧ fs'.length = k ∧ fs'.map Fl.dat = (fs.take k).map Fl.dat ∧ OwnF w.heap.size wr v fs' ∧ Below w.heap.size w wr ∧ w.heap.size ≤ wr.heap.size) (fun _ i _ => n - (intOf i).toNat)
  case atStart => exact ⟨0, [], by omega, rfl, rfl, rfl, ⟨⟨rfl, .inl ⟨rfl, rfl⟩⟩, fun f hf => by cases hf⟩, Below.refl _ _, Nat.le_refl _⟩
  case round =>
    obtain ⟨k, fs', hk, rfl, hl', hd', ho', hb, hsz⟩ := hrel
    have HL := Lib.hid hl'
    have HD := Lib.hid hd'
    have HO := Lib.hid ho'
    have HB := Lib.hid hb
    clear hl' hd' ho' hb
    by_cases hlt : k < n
    · obtain ⟨f, hf⟩ : ∃ f, fs[k]? = some f := ⟨_, List.getElem?_eq_getElem (by rw [HN.out]; exact hlt)⟩
      obtain ⟨b1, o1, rfl, hat⟩ := HR.out.row.fl hf
      have hS : ∀ W, Below w.heap.size w W → W.cell? ⟨b1, o1 + k * 2, none⟩ = some (.string f.nm) ∧ W.cell? ⟨b1, o1 + k * 2 + 1, none⟩ = some (.slice f.A f.n f.c) := fun W hW => ⟨(hW.cell (p := ⟨b1, o1 + k * 2, none⟩) hat.lt).trans hat.c0, (hW.cell (p := ⟨b1, o1 + k * 2 + 1, none⟩) hat.lt).trans hat.c1⟩
      have hfd := HR.out.each f (List.mem_of_getElem? hf)
      have hcp : ∀ W, Below w.heap.size w W → Calls Try.prog 42 #[.slice f.A f.n f.c] W (OwnsV 3 (ints f.fr) f.n W) := fun W hW => copyI_any f.fr f.A f.n f.c W hfd.len.symm (hfd.below hW).fr (HF.out f (List.mem_of_getElem? hf))
      obtain ⟨h0, h1⟩ := hS wr HB.out
      have HS := Lib.hid hS
      have HCP := Lib.hid hcp
      have HFF := Lib.hid hf
      obtain ⟨A1, c1, rfl, hc1⟩ := own_slice (show wr.ownsRow w.heap.size 41 2 _ k (flatF fs') from HL.out ▸ HO.out.own)
      have HOK := Lib.hid (show wr.ownsRow w.heap.size 41 2 (.slice A1 k c1) k (flatF fs') from HL.out ▸ HO.out.own)
      have HBD := Lib.hid ((below_of HB.out (Nat.le_refl _)).drew)
      have hkn : (k : Int) < n := by omega
      clear hS hcp hf hfd hat
      obtain ⟨nm, fr, fA, fn, fc⟩ := f
      simp only at h0 h1 HS HCP
      go_wp2_with fail
      go_region_held3 (fun w' => w'.cell? ⟨b1, o1 + k * 2, none⟩ = some (.string nm) ∧ w'.cell? ⟨b1, o1 + k * 2 + 1, none⟩ = some (.slice fA fn fc)) (first | exact HS.out _ (by assumption) | go_keep)
        (first
          | (go_at_call 42; ((refine (HCP.out _ HBD.out).mono ?_)); rintro e w1 ⟨⟨A2, c2, rfl, hc2, o2⟩, hb2⟩; have hB1 : Below w.heap.size w w1 := HBD.out.trans (hb2.mono HBD.out.size); have hsz1 : w.heap.size ≤ w1.heap.size := hB1.size; have O2 := Lib.hid (show w1.ownsRow wr.heap.size 3 1 (.slice A2 fn c2) fn (ints fr) from o2); have HB2 := Lib.hid (of_drew hb2); have HOW := Lib.hid (appOf_own tFls ((own_below HOK.out HB2.out).alloc (.cells #[.string nm, .slice A2 fn c2] 41))); have HNB := Lib.hid (Blk.new w1 41 #[.string nm, .slice A2 fn c2]); have HSZ := Lib.hid (show w.heap.size ≤ (w1.alloc (.cells #[.string nm, .slice A2 fn c2] 41)).heap.size by simp; omega); clear o2 hb2)
          | ((refine step_appS tFls rfl (.tmp 11) (.tmp 24) rfl w.heap.size (.slice A1 k c1) k (flatF fs') rfl HOW.out [.string nm, .slice A2 fn c2] rfl (Fl.cells_one ⟨nm, fr, A2, fn, c2⟩) w1.heap.size rfl HNB.out (by omega) (by unfold maxLen; omega) HSZ.out ?_); intro v3 w3 o3 hg3 ho3; have hB3 : Below w.heap.size w w3 := (hB1.alloc hsz1 _).grown hg3 HSZ.out (own_ge HOK.out)))
      have HNX := Lib.hid (cf_step HO.out HL.out hsz HB2.out O2.out hg3 o3)
      have HB3 := Lib.hid hB3
      have hsz3 : w.heap.size ≤ w3.heap.size := hB3.size
      clear hg3 o3 hB3 ho3 hB1
      go_wp2
      go_roundw
      case rel => exact ⟨k + 1, _, by omega, by go_num, by rw [List.length_append, HL.out]; rfl, by rw [List.map_append, HD.out, List.take_add_one, HFF.out, List.map_append]; rfl, HNX.out, HB3.out, hsz3⟩
      case measure => simp [intOf]; omega
    · obtain rfl : k = n := by omega
      obtain ⟨A1, c1, rfl, hc1⟩ := own_slice (show wr.ownsRow w.heap.size 41 2 _ k (flatF fs') from HL.out ▸ HO.out.own)
      go_wp2
      go_ret
      exact ⟨⟨A1, c1, fs', rfl, hc1, HL.out, by rw [HD.out, List.take_of_length_le (by rw [HN.out]; exact Nat.le_refl _)], HO.out⟩, HB.out⟩
end Go.Proofs.Ytlhhkmpidnegcaa
