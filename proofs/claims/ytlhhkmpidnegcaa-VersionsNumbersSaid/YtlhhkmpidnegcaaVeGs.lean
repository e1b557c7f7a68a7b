/- GetEntry (fn 29) of one file with two fragments and too few, or too many, bytes: the walk. Condition: at most three bytes, or more, behind the first fragment. -/
import Derived.Test.YtlhhkmpidnegcaaVeGe
namespace Go.Proofs.Ytlhhkmpidnegcaa
open Go.RowKit Go.WideShapes
set_option linter.unusedVariables false
set_option linter.unusedSimpArgs false
theorem takeV_app {a r : List Int} {n : Nat} (h : a.length = n) : takeV n (a ++ r) = a := by
  subst h
  unfold takeV
  rw [if_neg (by simp), List.take_left' rfl]
theorem takeL_app {a r : List Int} {n : Nat} (h : a.length = n) : takeL n (a ++ r) = r := by
  subst h
  unfold takeL
  rw [if_neg (by simp), List.drop_left' rfl]
theorem takeB_app {a r : List Int} {n : Nat} (b : Bool) (h : a.length = n) : takeB n (a ++ r) b = b := by
  subst h
  unfold takeB
  rw [if_neg (by simp)]
/-- The four blocks of GetEntry, B the first; e its entry's files. -/
structure GS (B : Nat) (w0 w : World) (l : List Int) (bad : Bool) (e : Value) : Prop where
  r : Rdr (B + 1) l bad w
  k0 : Blk w B 29 #[.int .i64 0, .slice none 0 0]
  k2 : Blk w (B + 2) 101 #[.pointer (some ⟨B + 1, 0, none⟩)]
  k3 : Blk w (B + 3) 29 #[.int .i64 0, e]
  low : Below B w0 w
theorem GS.step {B : Nat} {w0 w w' : World} {l l' : List Int} {bad bad' : Bool} {e : Value} (h : GS B w0 w l bad e) (hf : Frm (fun k => k = B + 1) w w') (hr : Rdr (B + 1) l' bad' w') : GS B w0 w' l' bad' e :=
  ⟨hr, h.k0.frm hf (by omega), h.k2.frm hf (by omega), h.k3.frm hf (by omega), h.low.trans (hf.to_below (by have := h.k3.lt; omega) (fun k hk => by omega))⟩
theorem GS.below {B : Nat} {w0 w w' : World} {l : List Int} {bad : Bool} {e : Value} (h : GS B w0 w l bad e) (hb : Below w.heap.size w w') : GS B w0 w' l bad e :=
  ⟨h.r.below hb, h.k0.below hb, h.k2.below hb, h.k3.below hb, h.low.trans (hb.mono (by have := h.k3.lt; omega))⟩
theorem Rdr.frm {g : Nat} {l : List Int} {bad : Bool} {S : Nat → Prop} {w w' : World} (h : Rdr g l bad w) (hf : Frm S w w') (hS : ∀ k, S k → g < k) : Rdr g l bad w' := by
  obtain ⟨⟨A, c, h1, h2, h3, h4, h5⟩, ho⟩ := h
  exact ⟨⟨A, c, h1.frm hf (fun e => by have := hS _ e; omega), hf.rd h2 (fun q hq _ e => by have := hS _ e; have := h5 q hq; omega), h3, h4, h5⟩, ho⟩
theorem GS.far {B : Nat} {w0 w w' : World} {l : List Int} {bad : Bool} {e : Value} {S : Nat → Prop} (h : GS B w0 w l bad e) (hf : Frm S w w') (hS : ∀ k, S k → B + 4 ≤ k) : GS B w0 w' l bad e :=
  ⟨h.r.frm hf (fun k hk => by have := hS k hk; omega), h.k0.frm hf (fun e => by have := hS _ e; omega), h.k2.frm hf (fun e => by have := hS _ e; omega), h.k3.frm hf (fun e => by have := hS _ e; omega), h.low.trans (hf.to_below (by have := h.k3.lt; omega) (fun k hk => by have := hS k hk; omega))⟩
structure GNum (B : Nat) (w0 : World) (v : Int) (l : List Int) (bad : Bool) (ev : Value) (w : World) (e : Ending) (w' : World) : Prop where
  ret : e = .returned (.int .i64 v)
  st : GS B w0 w' l bad ev
  frm : Frm (fun k => k = B + 1) w w'
theorem GS.number {B : Nat} {w0 w : World} {l : List Int} {bad : Bool} {e : Value} (h : GS B w0 w l bad e) (n : Nat) (hn : n ≤ 4) : Calls Try.prog 64 #[.int .i64 (n : Int), .pointer (some ⟨B + 2, 0, none⟩)] w (GNum B w0 (valI (takeV n l)) (takeL n l) (takeB n l bad) e w) :=
  (number64 n hn w h.r (by have := h.k2.cell 0; simpa using this)).mono fun e w' hp => ⟨hp.ret, h.step hp.frm hp.st, hp.frm⟩
theorem GS.num {B : Nat} {w0 w : World} {a r : List Int} {bad : Bool} {e : Value} (h : GS B w0 w (a ++ r) bad e) {n : Nat} (hl : a.length = n) (hn : n ≤ 4) : Calls Try.prog 64 #[.int .i64 (n : Int), .pointer (some ⟨B + 2, 0, none⟩)] w (GNum B w0 (valI a) r bad e w) := by
  have := h.number n hn
  rwa [takeV_app hl, takeL_app hl, takeB_app _ hl] at this
structure GTake (B : Nat) (w0 : World) (a : List Int) (l : List Int) (bad : Bool) (ev : Value) (w : World) (e : Ending) (w' : World) : Prop where
  ret : ∃ A c, e = .returned (.slice A a.length c) ∧ a.length ≤ c ∧ c ≤ maxLen ∧ Rd w' A (octs a)
  st : GS B w0 w' l bad ev
  frm : Frm (fun k => k = B + 1) w w'
theorem GS.take {B : Nat} {w0 w : World} {a r : List Int} {bad : Bool} {e : Value} (h : GS B w0 w (a ++ r) bad e) {n : Nat} (hl : a.length = n) (hn : n ≤ 4) : Calls Try.prog 65 #[.pointer (some ⟨B + 1, 0, none⟩), .int .i64 (n : Int)] w (GTake B w0 a r bad e w) :=
  (take65 n w h.r (by omega)).mono fun e w' hp => by
    obtain ⟨h1, h2, h3⟩ := hp
    rw [takeV_app hl] at h1
    rw [takeL_app hl, takeB_app _ hl] at h2
    exact ⟨h1, h.step h3 h2, h3⟩
theorem GS.start {w : World} {A : Option Addr} {c : Nat} {l : List Int} (hr : Rd w A (octs l)) (hl : 0 < l.length) (ho : Oct l) (hc : l.length ≤ c) (hm : c ≤ maxLen) :
    GS w.heap.size w ((((w.alloc (.cells #[.int .i64 0, .slice none 0 0] 29)).alloc (.cells #[.slice A l.length c, .bool false] 103)).alloc (.cells #[.pointer (some ⟨w.heap.size + 1, 0, none⟩)] 101)).alloc (.cells #[.int .i64 0, .slice none 0 0] 29)) l false (.slice none 0 0) := by
  have hb4 : Below w.heap.size w ((((w.alloc (.cells #[.int .i64 0, .slice none 0 0] 29)).alloc (.cells #[.slice A l.length c, .bool false] 103)).alloc (.cells #[.pointer (some ⟨w.heap.size + 1, 0, none⟩)] 101)).alloc (.cells #[.int .i64 0, .slice none 0 0] 29)) := ((((Below.refl _ _).alloc (Nat.le_refl _) _).alloc (by simp) _).alloc (by simp; omega) _).alloc (by simp; omega) _
  refine ⟨⟨⟨A, c, ?_, hr.below hb4 rfl, hc, hm, fun a ha => ?_⟩, ho⟩, ?_, ?_, ?_, hb4⟩
  · have := ((Blk.new (w.alloc (.cells #[.int .i64 0, .slice none 0 0] 29)) 103 #[.slice A l.length c, .bool false]).alloc (.cells #[.pointer (some ⟨w.heap.size + 1, 0, none⟩)] 101)).alloc (.cells #[.int .i64 0, .slice none 0 0] 29)
    rwa [World.size_alloc] at this
  · obtain ⟨b1, o1, h1, h2, _⟩ := hr.at (k := 0) (u := .int .u8 l[0]) (by rw [octs, List.getElem?_map, List.getElem?_eq_getElem hl]; rfl)
    rw [h1] at ha
    cases ha
    show b1 < _
    omega
  · exact (((Blk.new w _ _).alloc _).alloc _).alloc _
  · have := (Blk.new ((w.alloc (.cells #[.int .i64 0, .slice none 0 0] 29)).alloc (.cells #[.slice A l.length c, .bool false] 103)) 101 #[.pointer (some ⟨w.heap.size + 1, 0, none⟩)]).alloc (.cells #[.int .i64 0, .slice none 0 0] 29)
    rwa [World.size_alloc, World.size_alloc] at this
  · have := Blk.new (((w.alloc (.cells #[.int .i64 0, .slice none 0 0] 29)).alloc (.cells #[.slice A l.length c, .bool false] 103)).alloc (.cells #[.pointer (some ⟨w.heap.size + 1, 0, none⟩)] 101)) 29 #[.int .i64 0, .slice none 0 0]
    rwa [World.size_alloc, World.size_alloc, World.size_alloc] at this
/-- The bytes, the state and the fragments behind j rounds of the inner loop. -/
def sL (rest : List Int) : Nat → List Int
  | 0 => [0, 0, 0, 1] ++ rest
  | j + 1 => takeL 4 (sL rest j)
def sB (rest : List Int) : Nat → Bool
  | 0 => false
  | j + 1 => takeB 4 (sL rest j) (sB rest j)
def sF (rest : List Int) : Nat → List Int
  | 0 => []
  | j + 1 => sF rest j ++ [valI (takeV 4 (sL rest j))]
theorem sB_one (rest : List Int) : sB rest 1 = false := takeB_app (a := [0, 0, 0, 1]) false rfl
theorem sF_length (rest : List Int) : ∀ j, (sF rest j).length = j
  | 0 => rfl
  | j + 1 => by rw [sF, List.length_append, sF_length rest j]; rfl
end Go.Proofs.Ytlhhkmpidnegcaa
