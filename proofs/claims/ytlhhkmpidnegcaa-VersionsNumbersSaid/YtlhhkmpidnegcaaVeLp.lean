/- The law's calls at its own data: contracts; a row of pieces made, one more on a full row. Condition: none. -/
import Derived.Test.YtlhhkmpidnegcaaVeLo
namespace Go.Proofs.Ytlhhkmpidnegcaa
open Go.RowKit Go.WideShapes
set_option linter.unusedVariables false
set_option linter.unusedSimpArgs false
/-- Bytes that are not looked at, and a number. -/
structure Told (x : Int) (w0 : World) (e : Ending) (w : World) : Prop where
  ex : ∃ A n c, e = .returned (.tuple #[.slice A n c, .int .i64 x])
  low : Below w0.heap.size w0 w
theorem PutE.told {r : Int × List Int} {x : Int} {w0 w : World} {e : Ending} (h : PutE r w0 e w) (hx : r.1 = x) : Told x w0 e w := by
  obtain ⟨h1, h2⟩ := h
  subst hx
  rcases h1 with ⟨_, rfl⟩ | ⟨h0, A, c, rfl, _⟩
  · exact ⟨⟨_, _, _, rfl⟩, h2⟩
  · exact ⟨⟨_, _, _, by rw [h0]⟩, h2⟩
structure Bytes (bs : List Int) (n : Nat) (w0 : World) (e : Ending) (w : World) : Prop where
  ex : ∃ A c, e = .returned (.tuple #[.slice A n c, .int .i64 0]) ∧ n ≤ c ∧ c ≤ maxLen ∧ Rd w A (octs bs)
  low : Below w0.heap.size w0 w
theorem PutE.bytes {r : Int × List Int} {bs : List Int} {n : Nat} {w0 w : World} {e : Ending} (h : PutE r w0 e w) (hx : r = (0, bs)) (hn : bs.length = n) : Bytes bs n w0 e w := by
  obtain ⟨h1, h2⟩ := h
  subst hx hn
  rcases h1 with ⟨h0, _⟩ | ⟨h0, A, c, rfl, hc, ho⟩
  · exact absurd rfl h0
  · exact ⟨⟨_, _, rfl, hc, (own_parts ho).2.1, Rd.of_own ho⟩, h2⟩
theorem lw3 (w : World) : Calls Try.prog 22 #[.agg #[.int .i64 3, .slice none 0 0]] w (Bytes [114, 0, 0, 0, 3] 5 w) :=
  (putEntry_any 3 [] none 0 0 w (RdF.nil w) rfl (by omega) (fun f hf => by cases hf)).mono fun e w' h => h.bytes ln3 rfl
theorem nm_small (s : ByteArray) (h : s.size ≤ 1000) : s.size ≤ maxLen := by unfold maxLen; omega
theorem lw4 {b : Nat} (w : World) (h : Blk w b 41 #[.string ⟨#[97]⟩, .slice none 0 0]) : Calls Try.prog 22 #[.agg #[.int .i64 1, .slice (some ⟨b, 0, none⟩) 1 1]] w (Told 2 w) :=
  (putEntry_any 1 [⟨⟨#[97]⟩, [], none, 0, 0⟩] (some ⟨b, 0, none⟩) 1 1 w ⟨rd_blk h, fun f hf => by simp at hf; subst hf; exact ⟨rfl, Nat.le_refl _, by simp [maxLen], Rd.nil _ _, fun _ => ⟨rfl, rfl⟩⟩⟩ rfl (by omega)
    (fun f hf => by simp at hf; subst hf; exact nm_small _ (by decide))).mono fun e w' h => h.told (congrArg Prod.fst ln4)
theorem lw5 {b : Nat} (w : World) (h : Blk w b 41 #[.string ⟨#[98]⟩, .slice none 0 0, .string ⟨#[97]⟩, .slice none 0 0]) : Calls Try.prog 22 #[.agg #[.int .i64 0, .slice (some ⟨b, 0, none⟩) 2 2]] w (Told 18 w) :=
  (putEntry_any 0 [⟨⟨#[98]⟩, [], none, 0, 0⟩, ⟨⟨#[97]⟩, [], none, 0, 0⟩] (some ⟨b, 0, none⟩) 2 2 w ⟨rd_blk h, fun f hf => by simp at hf; rcases hf with rfl | rfl <;> exact ⟨rfl, Nat.le_refl _, by simp [maxLen], Rd.nil _ _, fun _ => ⟨rfl, rfl⟩⟩⟩ rfl (by omega)
    (fun f hf => by simp at hf; rcases hf with rfl | rfl <;> exact nm_small _ (by decide))).mono fun e w' h => h.told (congrArg Prod.fst ln5)
theorem lw_one {b n : Nat} {A : Option Addr} {fr : List Int} {x : Int} (w : World) (h : Blk w b 41 #[.string ⟨#[97]⟩, .slice A n n]) (hi : Rd w A (ints fr)) (hA : A ≠ none) (hn : fr.length = n) (hm : n ≤ maxLen) (hx : (putE 0 [((⟨#[97]⟩ : ByteArray), fr)]).1 = x) :
    Calls Try.prog 22 #[.agg #[.int .i64 0, .slice (some ⟨b, 0, none⟩) 1 1]] w (Told x w) :=
  (putEntry_any 0 [⟨⟨#[97]⟩, fr, A, n, n⟩] (some ⟨b, 0, none⟩) 1 1 w (RdF.oneR h hi hA hn hm) rfl (by omega) (fun f hf => by simp at hf; subst hf; exact nm_small _ (show (1 : Nat) ≤ 1000 by omega))).mono fun e w' h => h.told hx
theorem nameM_size (k : Nat) : (nameM k).size = 3 := rfl
theorem lw_many {n c : Nat} {B : Nat} {A : Option Addr} {fs : List Fl} {w0 : World} {x : Int} (w : World) (h : MnF n B w0 (.slice A n c) w fs) (hn : n ≤ 400) (hx : (putE 0 ((List.range n).map fun k => (nameM k, []))).1 = x) :
    Calls Try.prog 22 #[.agg #[.int .i64 0, .slice A n c]] w (Told x w) := by
  have hp := putEntry_any 0 fs A n c w (h.own.rd h.len) h.len (by omega) (fun f hf => by
    have : f.dat ∈ (List.range n).map fun k => (nameM k, ([] : List Int)) := h.dat ▸ List.mem_map_of_mem hf
    obtain ⟨k, _, hk⟩ := List.mem_map.1 this
    have : f.nm = nameM k := (congrArg Prod.fst hk).symm
    rw [this, nameM_size]
    unfold maxLen; omega)
  rw [h.dat] at hp
  exact hp.mono fun e w' h => h.told hx
theorem lw_name {s : ByteArray} {b : Bool} (hs : s.size ≤ 1000) (hb : nameB s = b) (w : World) : Calls Try.prog 21 #[.string s] w (Quiet (.bool b) w) := hb ▸ name_any s w (nm_small s hs)
theorem strOfNums_size (l : List Int) : (strOfNums l).size = l.length := by simp [strOfNums, ByteArray.size]
theorem rd_z {b : Nat} (w : World) (h : Blk w b 52 #[.int .u8 0, .int .u8 0, .int .u8 0, .int .u8 0, .int .u8 0, .int .u8 0, .int .u8 0, .int .u8 0, .int .u8 0, .int .u8 0, .int .u8 0, .int .u8 0, .int .u8 0, .int .u8 0, .int .u8 0, .int .u8 0, .int .u8 0, .int .u8 0, .int .u8 0, .int .u8 0, .int .i64 0, .int .i64 0, .int .i64 0]) :
    Calls Try.prog 27 #[.slice (some ⟨b, 0, none⟩) 1 1] w (Told 2 w) :=
  (putP_any [pcZ] (some ⟨b, 0, none⟩) 1 1 w rfl (rd_blk h) (fun p hp => by simp at hp; subst hp; exact pcZ_ok) (by omega)).mono fun e w' h => h.told putP_z
theorem lw_put {g : Nat} (w : World) (h : PcRow g 2184 2184 w) : Calls Try.prog 27 #[.slice (some ⟨g, 0, none⟩) 2184 2184] w (Bytes (bsL 2184) 65522 w) :=
  (putP_any (pcL 2184) (some ⟨g, 0, none⟩) 2184 2184 w (pcL_length _) (h.done (by omega)) (pcL_ok (by omega)) (by omega)).mono fun e w' h => h.bytes (putP_pcL (by omega)) (bsL_length _)
theorem lw_more {A : Option Addr} {c : Nat} (w : World) (h : Rd w A (flatP (pcL 2184) ++ (pcV 9999 1).cells)) : Calls Try.prog 27 #[.slice A 2185 c] w (Told 3 w) :=
  (putP_any (pcL 2184 ++ [pcV 9999 1]) A 2185 c w (by rw [List.length_append, pcL_length]; rfl) (by rw [flatP_snoc]; exact h) (fun p hp => by
    rcases List.mem_append.1 hp with h | h
    · exact pcL_ok (by omega) p h
    · rw [List.mem_singleton] at h; subst h; exact pcV_ok 9999 1 (by omega)) (by omega)).mono fun e w' h => h.told putP_more
/-- The pieces that GetPieces tells: the last one's cells. -/
structure GotP (w0 : World) (e : Ending) (w : World) : Prop where
  ex : ∃ g c, e = .returned (.tuple #[.slice (some ⟨g, 0, none⟩) 2184 c, .int .i64 0]) ∧ g < w.heap.size ∧ ∀ j y, (pcV 2183 1).cells[j]? = some y → w.cell? ⟨g, 50209 + j, none⟩ = some y
  low : Below w0.heap.size w0 w
theorem lw_get {A : Option Addr} {c : Nat} (w : World) (hr : Rd w A (octs (bsL 2184))) (hc : 65522 ≤ c) (hm : c ≤ maxLen) : Calls Try.prog 28 #[.slice A 65522 c] w (GotP w) :=
  (getP_any 2184 (bsL 2184) A 65522 c w (bsL_length _) (oct_bsL (by omega)) hr hc hm rfl (num_bsL (by omega)) (by omega)).mono fun e w' h => by
    obtain ⟨A', c', he, hc', ho⟩ := h.yes (fun i hi => by rw [at30_bsL hi]; exact rgt_pcV i)
    have hl : (List.range 2184).map (at30 (bsL 2184)) = pcL 2184 := List.map_congr_left fun i hi => at30_bsL (List.mem_range.1 hi)
    rw [hl] at ho
    have hrd := rd_ownS ho
    obtain ⟨g, o, rfl, hlt, hcell⟩ := hrd (by
      have := flatP_length (pcL 2184) (pcL_ok (by omega))
      rw [pcL_length] at this
      omega)
    have h0 : o = 0 := by
      rcases ho.2 with ⟨hv, _⟩ | ⟨g2, _, _, hv, _⟩
      · exact congrArg (fun v : Value => match v with | .slice (some x) _ _ => x.off | _ => 0) hv
      · exact congrArg (fun v : Value => match v with | .slice (some x) _ _ => x.off | _ => 0) hv
    subst h0
    refine ⟨⟨g, c', he, hlt, fun j y hy => ?_⟩, h.low⟩
    have := flatP_at (pcL 2184) (pcL_ok (by omega)) 2183 (pcV 2183 1) (pcL_at (by omega)) j y hy
    have := hcell _ _ this
    rwa [Nat.zero_add] at this
section
variable {ops : Array Oper} {rest : List Oper} {o : Oper} {a : Act} {w : World} {Q : Exit → Act → World → Prop}
theorem wpList_mkP (hgd : Region.wanted o (yielded ops a.tmps) = true) (l c : Operand) (ho : o.op = .makeSlice 26 l c) (n : Nat) (hl : a.eval l = .int .i64 (n : Int)) (hc : a.eval c = .int .i64 (n : Int)) (hn : n ≤ 100000)
    (h : ∀ w', PcRow w.heap.size n 0 w' → Below w.heap.size w w' → wpList Try.prog ops Q rest (a.put o.dst (.slice (some ⟨w.heap.size, 0, none⟩) n n)) w') : wpList Try.prog ops Q (o :: rest) a w := by
  obtain ⟨i, hi, hz, hs, hb⟩ := info_parts tPcs.i
  have hrun := run_make (P := Try.prog) w 26 52 i zeroPc tPcs.u hi hz .i64 .i64 (n : Int) (n : Int) (by omega) (Int.le_refl _) (by rw [hb]; omega) (by omega)
  simp only [Int.toNat_natCast] at hrun
  refine wpList_want hgd fun K hK => ?_
  unfold Oper.wp execOp
  simp only [ho, hl, hc, Sem.run_bind, Sem.run_pure, Result.andThen_ok, hrun]
  exact hK _ _ (h _ ⟨_, Blk.new w 52 _, by rw [size_madeCells, hs, Nat.mul_comm], fun i hi => by omega⟩ ((Below.refl _ _).alloc (Nat.le_refl _) _))
theorem wpList_appF (hgd : Region.wanted o (yielded ops a.tmps) = true) (s x : Operand) (ho : o.op = .call { callee := .builtin .append, args := #[s, x], argTypes := #[26, 26] })
    (b : Addr) (n : Nat) (xs : List Value) (hs : a.eval s = .slice (some b) n n) (hlo : xs.length = n * 23) (holds : ∀ j v, xs[j]? = some v → w.cell? (b.add j) = some v)
    (g0 : Nat) (news : List Value) (hx : a.eval x = .slice (some ⟨g0, 0, none⟩) 1 1) (hl : news.length = 23) (hc : Blk w g0 52 news.toArray) (hn : n ≤ 100000)
    (h : ∀ g' c' w', Rd w' (some ⟨g', 0, none⟩) (xs ++ news) → Below w.heap.size w w' → wpList Try.prog ops Q rest (a.put o.dst (.slice (some ⟨g', 0, none⟩) (n + 1) c')) w') : wpList Try.prog ops Q (o :: rest) a w := by
  obtain ⟨i, hi, hz, hsz, hb⟩ := info_parts tPcs.i
  have hrun := run_append_grow (P := Try.prog) w 26 o.type 52 i zeroPc tPcs.u hi hz b n n xs (by rw [hsz]; exact hlo) holds ⟨g0, 0, none⟩ 1 1 news (by rw [hsz, hl]) (fun j y hy => by rw [addr_add, Nat.zero_add, hc.cell]; simpa using hy) (by omega) (by omega) (by rw [hb]; exact growslice_fits (by omega) (by omega))
  refine wpList_want hgd fun K hK => ?_
  unfold Oper.wp execOp
  simp only [ho, resolve, invoke, builtin, Sem.run_bind, Sem.run_pure, Result.andThen_ok, List.map_toArray, List.map_cons, List.map_nil, hs, hx, hrun]
  refine hK _ _ (h _ _ _ (fun _ => ?_) (((Below.refl _ _).drew).alloc (by simp) _))
  have hk := Blk.new w.drew 52 (xs.toArray ++ news.toArray ++ Builtin.zeroCells zeroPc.cells (grownCap w (n + 1) n 52 - (n + 1)))
  refine ⟨_, 0, rfl, hk.lt, fun j y hy => ?_⟩
  rw [Nat.zero_add]
  refine (hk.cell j).trans ?_
  have hj := (List.getElem?_eq_some_iff.1 hy).1
  rw [Array.getElem?_append_left (by simpa using hj), List.append_toArray, List.getElem?_toArray]
  exact hy
end
theorem cells2183 : (pcV 2183 1).cells = [.int .u8 135, .int .u8 8, .int .u8 0, .int .u8 0, .int .u8 0, .int .u8 0, .int .u8 0, .int .u8 0, .int .u8 0, .int .u8 0, .int .u8 0, .int .u8 0, .int .u8 0, .int .u8 0, .int .u8 0, .int .u8 0, .int .u8 0, .int .u8 0, .int .u8 0, .int .u8 0, .int .i64 64, .int .i64 1, .int .i64 0] := by kernel_rfl
end Go.Proofs.Ytlhhkmpidnegcaa
