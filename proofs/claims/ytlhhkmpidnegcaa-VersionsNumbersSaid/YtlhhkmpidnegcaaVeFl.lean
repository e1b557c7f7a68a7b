/- Files in memory: a slice of them that reads as a list, one of the call's own. Plain. -/
import Derived.Test.YtlhhkmpidnegcaaVeIx
import Derived.Lib.SliceRun
namespace Go.Proofs.Ytlhhkmpidnegcaa
open Go.RowKit Go.WideShapes
set_option linter.unusedVariables false
set_option linter.unusedSimpArgs false
structure Fl where
  nm : ByteArray
  fr : List Int
  A : Option Addr
  n : Nat
  c : Nat
def ints (l : List Int) : List Value := l.map (Value.int .i64)
theorem ints_length (l : List Int) : (ints l).length = l.length := by simp [ints]
theorem ints_one (l : List Int) : ∀ u ∈ ints l, u.oneCell' = true := fun u hu => by
  obtain ⟨x, _, rfl⟩ := List.mem_map.1 hu
  rfl
def Fl.cells (f : Fl) : List Value := [.string f.nm, .slice f.A f.n f.c]
def Fl.dat (f : Fl) : ByteArray × List Int := (f.nm, f.fr)
theorem Fl.cells_one (f : Fl) : ∀ u ∈ f.cells, u.oneCell' = true := fun u hu => by
  simp only [Fl.cells, List.mem_cons, List.not_mem_nil, or_false] at hu
  rcases hu with rfl | rfl <;> rfl
def flatF (l : List Fl) : List Value := l.flatMap Fl.cells
theorem flatF_cons (f : Fl) (l : List Fl) : flatF (f :: l) = f.cells ++ flatF l := rfl
theorem flatF_app (a b : List Fl) : flatF (a ++ b) = flatF a ++ flatF b := by simp [flatF]
theorem flatF_length : ∀ l : List Fl, (flatF l).length = l.length * 2
  | [] => rfl
  | f :: l => by
    rw [flatF_cons, List.length_append, flatF_length l, List.length_cons]
    show 2 + _ = _
    omega
theorem flatF_one (l : List Fl) : ∀ u ∈ flatF l, u.oneCell' = true := fun u hu => by
  obtain ⟨f, _, h⟩ := List.mem_flatMap.1 hu
  exact f.cells_one u h
theorem flatF_at : ∀ (l : List Fl) (k j : Nat) (f : Fl), l[k]? = some f → j < 2 → (flatF l)[k * 2 + j]? = f.cells[j]?
  | [], k, j, t, h, _ => by simp at h
  | u :: l, 0, j, t, h, hj => by
    simp at h
    subst h
    rw [flatF_cons, Nat.zero_mul, Nat.zero_add, List.getElem?_append_left (by show j < 2; omega)]
  | u :: l, k + 1, j, t, h, hj => by
    rw [flatF_cons, List.getElem?_append_right (by show 2 ≤ _; omega)]
    have e : (k + 1) * 2 + j - u.cells.length = k * 2 + j := by show (k + 1) * 2 + j - 2 = _; omega
    rw [e]
    exact flatF_at l k j t (by simpa using h) hj
/-- A file's list of numbers is turned. -/
theorem flatF_set : ∀ (a : List Fl) (f f' : Fl) (b : List Fl), f'.nm = f.nm → (flatF (a ++ f :: b)).set (a.length * 2 + 1) (.slice f'.A f'.n f'.c) = flatF (a ++ f' :: b)
  | [], f, f', b, h => by simp [flatF, Fl.cells, h]
  | x :: a, f, f', b, h => by
    have := flatF_set a f f' b h
    simp only [List.cons_append, List.length_cons]
    rw [flatF_cons, flatF_cons, ← this]
    show ([Value.string x.nm, .slice x.A x.n x.c] ++ _).set ((a.length + 1) * 2 + 1) _ = [Value.string x.nm, .slice x.A x.n x.c] ++ _
    rw [show (a.length + 1) * 2 + 1 = a.length * 2 + 1 + 1 + 1 by omega]
    rfl
/-- A file's numbers can be read. -/
structure Fl.rd (w : World) (f : Fl) : Prop where
  len : f.fr.length = f.n
  cap : f.n ≤ f.c
  top : f.c ≤ maxLen
  fr : Rd w f.A (ints f.fr)
  nil : f.A = none → f.n = 0 ∧ f.c = 0
structure RdF (w : World) (A : Option Addr) (fs : List Fl) : Prop where
  row : Rd w A (flatF fs)
  each : ∀ f ∈ fs, f.rd w
theorem Fl.rd.below {w w' : World} {f : Fl} (h : f.rd w) (hb : Below w.heap.size w w') : f.rd w' := ⟨h.len, h.cap, h.top, h.fr.below hb rfl, h.nil⟩
theorem RdF.below {w w' : World} {A : Option Addr} {fs : List Fl} (h : RdF w A fs) (hb : Below w.heap.size w w') : RdF w' A fs := ⟨h.row.below hb rfl, fun f hf => (h.each f hf).below hb⟩
theorem below_of {B : Nat} {w w' : World} (h : Below B w w') (hB : w.heap.size ≤ B) : Below w.heap.size w w' := h.mono hB
/-- One of the files of a slice, cell by cell. -/
structure Fl.At (f : Fl) (w : World) (b p : Nat) : Prop where
  lt : b < w.heap.size
  c0 : w.cell? ⟨b, p, none⟩ = some (.string f.nm)
  c1 : w.cell? ⟨b, p + 1, none⟩ = some (.slice f.A f.n f.c)
theorem Rd.fl {w : World} {A : Option Addr} {fs : List Fl} (h : Rd w A (flatF fs)) {k : Nat} {f : Fl} (hk : fs[k]? = some f) : ∃ b o, A = some ⟨b, o, none⟩ ∧ f.At w b (o + k * 2) := by
  have hkl : k < fs.length := (List.getElem?_eq_some_iff.1 hk).1
  obtain ⟨b, o, hA, hlt, hc⟩ := h (by rw [flatF_length]; omega)
  refine ⟨b, o, hA, hlt, ?_, ?_⟩
  · have := hc (k * 2 + 0) _ ((flatF_at fs k 0 f hk (by omega)).trans rfl)
    rwa [← Nat.add_assoc] at this
  · have := hc (k * 2 + 1) _ ((flatF_at fs k 1 f hk (by omega)).trans rfl)
    rwa [← Nat.add_assoc] at this
theorem rd_ownS {w : World} {base n : Nat} {e : TypeId} {size c : Nat} {A : Option Addr} {xs : List Value} (h : w.ownsRow base e size (.slice A n c) n xs) : Rd w A xs := fun hn => by
  have hl := h.1
  obtain ⟨g, cap, hv, _, hlt⟩ := h.form (by
    rcases Nat.eq_zero_or_pos n with h0 | h0
    · subst h0; rw [Nat.zero_mul] at hl; omega
    · exact h0)
  have hA : A = some ⟨g, 0, none⟩ := by injection hv
  subst hA
  refine ⟨g, 0, rfl, hlt, fun i u hu => ?_⟩
  have := h.cells (g := g) rfl i u hu
  rwa [addr_add] at this
/-- Files in memory of the call's own. -/
structure OwnF (B : Nat) (w : World) (v : Value) (fs : List Fl) : Prop where
  own : w.ownsRow B 41 2 v fs.length (flatF fs)
  each : ∀ f ∈ fs, w.ownsRow B 3 1 (.slice f.A f.n f.c) f.n (ints f.fr)
theorem own_parts {w : World} {base n c : Nat} {e : TypeId} {size : Nat} {A : Option Addr} {xs : List Value} (h : w.ownsRow base e size (.slice A n c) n xs) : n ≤ c ∧ c ≤ maxLen ∧ (A = none → n = 0 ∧ c = 0) := by
  rcases h.2 with ⟨h0, _⟩ | ⟨g, cap, cur, hv, _, _, h1, h2, _⟩
  · injection h0 with h0 h1 h2
    subst h0 h1 h2
    exact ⟨Nat.le_refl _, by unfold maxLen; omega, fun _ => ⟨rfl, rfl⟩⟩
  · injection hv with hv h3 h4
    subst hv h4
    exact ⟨h1, h2, fun h => by cases h⟩
theorem OwnF.rd {B : Nat} {w : World} {A : Option Addr} {n c : Nat} {fs : List Fl} (h : OwnF B w (.slice A n c) fs) (hn : fs.length = n) : RdF w A fs := by
  refine ⟨rd_ownS (hn ▸ h.own), fun f hf => ?_⟩
  have ho := h.each f hf
  have hp := own_parts ho
  refine ⟨?_, hp.1, hp.2.1, Rd.of_own ho, hp.2.2⟩
  have := ho.1
  rw [ints_length] at this
  omega
/-- Block k is none of files or of numbers. -/
def Foreign (w : World) (k : Nat) : Prop := ∀ cs, w.heap[k]? ≠ some (.cells cs 41 (0, 0)) ∧ w.heap[k]? ≠ some (.cells cs 3 (0, 0))
theorem Foreign.blk {w : World} {k : Nat} {t : TypeId} {cs : Array Value} (h : Blk w k t cs) (h1 : t ≠ 41) (h2 : t ≠ 3) : Foreign w k := fun cs' => by
  unfold Blk at h
  constructor <;> intro e <;> rw [h] at e <;> injection e with e <;> injection e with _ e
  · exact h1 e
  · exact h2 e
theorem own_foreign {w : World} {B n : Nat} {e : TypeId} {size : Nat} {v : Value} {xs : List Value} (ho : w.ownsRow B e size v n xs) (he : e = 41 ∨ e = 3) {k : Nat} (hk : Foreign w k) : v.ownBlock ≠ some k := fun hv => by
  rcases ho.2 with ⟨rfl, _⟩ | ⟨g, cap, cur, rfl, _, hg, _⟩
  · simp [Value.ownBlock] at hv
  · simp [Value.ownBlock] at hv
    subst hv
    rcases he with rfl | rfl
    · exact (hk cur).1 hg
    · exact (hk cur).2 hg
theorem OwnF.frm {S : Nat → Prop} {B : Nat} {w w' : World} {v : Value} {fs : List Fl} (h : OwnF B w v fs) (hf : Frm S w w') (hS : ∀ k, S k → Foreign w k) : OwnF B w' v fs :=
  ⟨hf.own h.own fun k hk hs => own_foreign h.own (.inl rfl) (hS k hs) hk, fun f hm => hf.own (h.each f hm) fun k hk hs => own_foreign (h.each f hm) (.inr rfl) (hS k hs) hk⟩
theorem OwnF.below {B : Nat} {w w' : World} {v : Value} {fs : List Fl} (h : OwnF B w v fs) (hb : Below w.heap.size w w') : OwnF B w' v fs := h.frm (Frm.of_below (S := fun _ => False) hb) fun _ h => h.elim
theorem OwnF.mono {B B' : Nat} {w : World} {v : Value} {fs : List Fl} (h : OwnF B w v fs) (hB : B' ≤ B) : OwnF B' w v fs := ⟨own_mono h.own hB, fun f hf => own_mono (h.each f hf) hB⟩
theorem tFls : SlS Try.prog 27 41 (.agg #[.string ⟨#[]⟩, .slice none 0 0]) 2 40 := ⟨Try.underlying27, by kernel_rfl, by kernel_rfl, by omega⟩
theorem tInt : SlT Try.prog 39 3 (.int .i64 0) 8 := ⟨Try.underlying39, by kernel_rfl, by kernel_rfl⟩
structure OwnsV (e : TypeId) (xs : List Value) (n : Nat) (w0 : World) (en : Ending) (w : World) : Prop where
  ex : ∃ A c, en = .returned (.slice A n c) ∧ n ≤ c ∧ w.ownsRow w0.heap.size e 1 (.slice A n c) n xs
  low : Below w0.heap.size w0 w
theorem cloneI_nil (w : World) : Calls Try.prog 70 #[.slice none 0 0] w (OwnsV 3 [] 0 w) := by
  have h := fun w => Lib.run_eql_slice_nil (P := Try.prog) w 39 3 none 0 0 0 0 Try.underlying39
  go_enter Try.func70, Try.ntmps70
  go_wp2
  go_ret
  exact ⟨⟨none, 0, rfl, by simp, ⟨rfl, .inl ⟨rfl, rfl⟩⟩⟩, Below.refl _ _⟩
set_option maxHeartbeats 2000000 in
theorem cloneI_some (xs : List Int) (a : Addr) (n c : Nat) (w : World) (hn : n = xs.length) (hr : Rd w (some a) (ints xs)) (hm : n ≤ 1000000000) : Calls Try.prog 70 #[.slice (some a) n c] w (OwnsV 3 (ints xs) n w) := by
  have h := fun w => Lib.run_eql_slice_nil (P := Try.prog) w 39 3 (some a) n c 0 0 Try.underlying39
  have HR := Lib.hid hr
  have HN := Lib.hid hn
  clear hr hn
  go_enter Try.func70, Try.ntmps70
  go_wp2_with (at_builtin; refine wpList_app tInt rfl (.tmp 5) (.tmp 6) rfl w.heap.size (.slice (some ⟨w.heap.size, 0, none⟩) 0 0) 0 [] rfl (World.ownsRow_lit w #[] 0 (Nat.le_refl _) (by simp [maxLen]) rfl) (some a) n c (ints xs) rfl (by rw [ints_length, HN.out]) (HR.out.alloc _) (ints_one xs) (by omega) (by unfold maxLen; omega) (by simp) ?_; intro v1 w1 o1 _ hb1)
  rw [Nat.zero_add, List.nil_append] at o1
  obtain ⟨A1, c1, rfl, hc1⟩ := own_slice o1
  go_ret
  exact ⟨⟨A1, c1, rfl, hc1, o1⟩, ((Below.refl _ _).alloc (Nat.le_refl _) _).trans hb1⟩
theorem cloneI_any (xs : List Int) (A : Option Addr) (n c : Nat) (w : World) (hn : n = xs.length) (hr : Rd w A (ints xs)) (hA : A = none → n = 0 ∧ c = 0) (hm : n ≤ 1000000000) : Calls Try.prog 70 #[.slice A n c] w (OwnsV 3 (ints xs) n w) := by
  rcases A with _ | a
  · obtain ⟨rfl, rfl⟩ := hA rfl
    obtain rfl := List.eq_nil_of_length_eq_zero hn.symm
    exact cloneI_nil w
  · exact cloneI_some xs a n c w hn hr hm
structure OwnsF (xs : List Value) (n : Nat) (w0 : World) (en : Ending) (w : World) : Prop where
  ex : ∃ A c, en = .returned (.slice A n c) ∧ n ≤ c ∧ w.ownsRow w0.heap.size 41 2 (.slice A n c) n xs
  low : Below w0.heap.size w0 w
theorem cloneF_nil (w : World) : Calls Try.prog 69 #[.slice none 0 0] w (OwnsF [] 0 w) := by
  have h := fun w => Lib.run_eql_slice_nil (P := Try.prog) w 27 41 none 0 0 0 0 Try.underlying27
  go_enter Try.func69, Try.ntmps69
  go_wp2
  go_ret
  exact ⟨⟨none, 0, rfl, by simp, ⟨rfl, .inl ⟨rfl, rfl⟩⟩⟩, Below.refl _ _⟩
set_option maxHeartbeats 2000000 in
theorem cloneF_some (fs : List Fl) (a : Addr) (n c : Nat) (w : World) (hn : fs.length = n) (hr : Rd w (some a) (flatF fs)) (hm : n ≤ 1000000000) : Calls Try.prog 69 #[.slice (some a) n c] w (OwnsF (flatF fs) n w) := by
  have h := fun w => Lib.run_eql_slice_nil (P := Try.prog) w 27 41 (some a) n c 0 0 Try.underlying27
  have hl : (flatF fs).length = n * 2 := by rw [flatF_length, hn]
  have hr2 : n = 0 ∨ ∃ ad : Addr, some a = some ad ∧ ∀ j u, (flatF fs)[j]? = some u → (w.alloc (.cells #[] 41)).cell? (ad.add j) = some u := by
    rcases Nat.eq_zero_or_pos n with h0 | h0
    · exact .inl h0
    · refine .inr ⟨_, rfl, fun j u hu => ?_⟩
      obtain ⟨b', o', hA, hlt, hc⟩ := hr.alloc (.cells #[] 41) (by omega)
      injection hA with hA
      rw [hA, addr_add]
      exact hc j u hu
  have HR := Lib.hid hr2
  have HL := Lib.hid hl
  clear hr hn hl hr2
  go_enter Try.func69, Try.ntmps69
  go_wp2_with (at_builtin; refine wpList_appN tFls rfl (.tmp 5) (.tmp 6) rfl w.heap.size (.slice (some ⟨w.heap.size, 0, none⟩) 0 0) 0 [] rfl (World.ownsRow_lit w #[] 0 (Nat.le_refl _) (by simp [maxLen]) rfl) (some a) n c (flatF fs) rfl HL.out HR.out (flatF_one fs) (by omega) (by unfold maxLen; omega) (by simp) ?_; intro v1 w1 o1 hg1 _)
  rw [Nat.zero_add, List.nil_append] at o1
  obtain ⟨A1, c1, rfl, hc1⟩ := own_slice o1
  go_ret
  exact ⟨⟨A1, c1, rfl, hc1, o1⟩, ((Below.refl _ _).alloc (Nat.le_refl _) _).grown hg1 (by simp) (fun k hk => by simp [Value.ownBlock] at hk; omega)⟩
theorem cloneF_any (fs : List Fl) (A : Option Addr) (n c : Nat) (w : World) (hn : fs.length = n) (hr : Rd w A (flatF fs)) (hA : A = none → n = 0 ∧ c = 0) (hm : n ≤ 1000000000) : Calls Try.prog 69 #[.slice A n c] w (OwnsF (flatF fs) n w) := by
  rcases A with _ | a
  · obtain ⟨rfl, rfl⟩ := hA rfl
    obtain rfl := List.eq_nil_of_length_eq_zero hn
    exact cloneF_nil w
  · exact cloneF_some fs a n c w hn hr hm
end Go.Proofs.Ytlhhkmpidnegcaa
