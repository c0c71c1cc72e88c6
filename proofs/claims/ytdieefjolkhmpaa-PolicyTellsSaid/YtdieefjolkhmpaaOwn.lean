/- General laws of this session: arrays and structs that lie whole in a block. -/
import Derived.Test.YtdieefjolkhmpaaWWords
import Derived.Test.YtdieefjolkhmpaaWLast
import Derived.Test.YtdieefjolkhmpaaWMore
import Derived.ProofKit
import Derived.Deep.RegionLaw
set_option linter.unusedSimpArgs false
set_option linter.unusedVariables false
namespace Go.Proofs.Ytdieefjolkhmpaa.Own
open Go.RowKit Go.Proofs.YtdieefjolkhmpaaW.PrintWords

/-- An element of an array that is a value: of one cell. -/
theorem run_index_agg {P : Program} {t e : TypeId} {n : Nat} {d : TypeDesc} {cs : Array Value} {k : IntKind} {i : Int} {v : Value} (hu : P.underlying t = some (.array n e)) (hs : (P.info? e).map (·.size) = some 1)
    (he : P.underlying e = some d) (hd : (match d with | .struct _ | .array _ _ => true | _ => false) = false) (h0 : 0 ≤ i) (h1 : i < n) (hv : cs[i.toNat]? = some v) (w : World) :
    (Instr.index t (.agg cs) (.int k i)).run P w = .ok v w := by
  cases hq : P.info? e with
  | none => simp [hq] at hs
  | some j =>
    have hj : j.size = 1 := by simpa [hq] using hs
    have hagg : (isAgg e).run P w = .ok false w := by
      unfold isAgg
      rw [Sem.run_bind, run_underlying he w]
      cases d <;> simp_all
    simp [Instr.index, asIntOf, run_underlying hu, h0, h1, sizeOf, typeInfo, hq, hj, part, hagg, hv]
theorem getD_map {α β : Type} (f : α → β) (l : List α) (z : α) (i : Nat) (h : i < l.length) : (l.map f).toArray[i]? = some (f (l.getD i z)) := by
  simp [List.getD_eq_getElem?_getD, List.getElem?_eq_getElem h]

/-- A block that is just a row of whole numbers. -/
def NumBlk (w : World) (g : Nat) (t : TypeId) (k : IntKind) (l : List Int) : Prop := w.heap[g]? = some (.cells (l.map fun x => Value.int k x).toArray t (0, 0))
section
variable {w w' : World} {g : Nat} {t : TypeId} {k : IntKind} {l : List Int}
theorem NumBlk.lt (h : NumBlk w g t k l) : g < w.heap.size := by
  rcases Nat.lt_or_ge g w.heap.size with hlt | hge
  · exact hlt
  · unfold NumBlk at h; rw [Array.getElem?_eq_none hge] at h; cases h
theorem NumBlk.cell (h : NumBlk w g t k l) (i : Int) (h0 : 0 ≤ i) (h1 : i < l.length) : w.cell? ⟨g, i.toNat, none⟩ = some (.int k (rd l i)) := by
  rw [cell_of_row w g _ _ t (0, 0) h, getD_map _ l 0 _ (by omega)]
  rfl
theorem NumBlk.frozen (h : NumBlk w g t k l) (i : Nat) : w.frozen? ⟨g, i, none⟩ = false := by
  unfold NumBlk at h
  simp [World.frozen?, h]
theorem NumBlk.drew (h : NumBlk w g t k l) : NumBlk w.drew g t k l := h
theorem NumBlk.drewN (h : NumBlk w g t k l) (n : Nat) : NumBlk (w.drewN n) g t k l := h
theorem NumBlk.alloc (h : NumBlk w g t k l) (o : Obj) : NumBlk (w.alloc o) g t k l := (Below.heap_alloc w o g h.lt).trans h
theorem NumBlk.set_ (h : NumBlk w g t k l) (i : Nat) (x : Int) : NumBlk (w.setCell ⟨g, i, none⟩ (.int k x)) g t k (l.set i x) := by
  unfold NumBlk at h ⊢
  simp [World.setCell, Array.getElem?_modify, h, List.map_set]
theorem NumBlk.far (h : NumBlk w g t k l) {p : Addr} (hp : g ≠ p.block) (u : Value) : NumBlk (w.setCell p u) g t k l := (Below.heap_setCell w p u g hp).trans h
theorem NumBlk.below {B : Nat} (h : NumBlk w g t k l) (hb : Below B w w') (hg : g < B) : NumBlk w' g t k l := (hb.block g hg).trans h
theorem NumBlk.grown {row : Option Nat} (h : NumBlk w g t k l) (hb : w.grownBy w' row) (hg : some g ≠ row) : NumBlk w' g t k l := (hb.block g h.lt hg).trans h
end
section
variable {P : Program} {ops : Array Oper} {o : Oper} {a : Act} {Q : Exit → Act → World → Prop} {Kc : Act → World → Prop}
/-- A text's bytes appended within a region that draws its order. -/
theorem print_append_str_step {w0 W : World} (base : Nat) (hw : Region.wanted o (yielded ops a.tmps) = true) (s x : Operand) (t u e : TypeId)
    (ho : o.op = .call { callee := .builtin .append, args := #[s, x], argTypes := #[t, u] })
    (ht : P.underlying t = some (.slice e)) (hu : P.underlying u = some .string) (hinfo : (P.info? e).map (fun i => (i.zero, i.size, i.bytes)) = some (some (.int .u8 0), 1, 1))
    (v : Value) (xs : List Int) (y : ByteArray) (hs : a.eval s = v) (hx : a.eval x = .string y)
    (HO : W.ownsRow base e 1 v xs.length (nums .u8 xs)) (HB : Below base w0 W) (hbase : base ≤ W.heap.size) (hl : xs.length + y.size ≤ 140737488355328)
    (h : ∀ v1 w1, w1.ownsRow base e 1 v1 (xs ++ bytesOf y).length (nums .u8 (xs ++ bytesOf y)) → Below base w0 w1 → W.grownBy w1 v.ownBlock → Kc (a.put o.dst v1) w1) :
    if Region.wanted o (yielded ops a.tmps) = true then Oper.wp P o a W Kc Q else Kc (a.put o.dst undef) W := by
  obtain ⟨i0, hi, hzz⟩ := Option.map_eq_some_iff.1 hinfo
  simp only [Prod.mk.injEq] at hzz
  obtain ⟨hz0, hz1, hz2⟩ := hzz
  rw [if_pos hw]
  obtain ⟨v', w', hr, h2, h3, h4⟩ := Lib.run_append_own_string (P := P) W base t u o.type e i0 ht hu hi hz0 hz1 hz2 v xs.length (nums .u8 xs) HO y (by simp only [maxLen]; omega) hl hbase
  unfold Oper.wp execOp
  simp only [ho, resolve, invoke, builtin, Sem.run_bind, Sem.run_pure, Result.andThen_ok, List.map_toArray, List.map_cons, List.map_nil, hs, hx, hr]
  have hl2 : (xs ++ bytesOf y).length = xs.length + y.size := by rw [List.length_append, bytesOf_length]
  have hc : nums .u8 (xs ++ bytesOf y) = nums .u8 xs ++ Lib.strCells y := by
    rw [nums_append]
    congr 1
    simp [nums, bytesOf, Lib.strCells]
  exact h v' w' (by rw [hl2, hc]; exact h2) (HB.grown h3 hbase (own_base HO)) h3
end
/-! Ranks of a policy. -/
def rankDup (R : List Int) (i : Nat) : Bool := (List.range i).any fun j => decide (rd R (i : Int) > 0) && (rd R (j : Int) == rd R (i : Int))
def rankScan (R : List Int) : Nat → Nat → Int
  | 0, _ => 0
  | n + 1, i => if rd R (i : Int) < 0 then 1 else if rankDup R i = true then 15 else rankScan R n (i + 1)
def ranksOf (alg : Int) (R : List Int) : Option Int := if rd R 0 = 0 then (if 0 ≤ alg then (if alg < 7 then (if rd R alg < 1 then some 1 else some (rankScan R 7 0)) else none) else none) else some 1
theorem rankDup_false {R : List Int} {i : Nat} (h : ∀ j : Nat, j < i → ¬ (rd R (i : Int) > 0 ∧ rd R (j : Int) = rd R (i : Int))) : rankDup R i = false := by
  unfold rankDup
  rw [List.any_eq_false]
  intro j hj hh
  simp only [List.mem_range] at hj
  simp only [Bool.and_eq_true, decide_eq_true_eq, beq_iff_eq] at hh
  exact h j hj hh
theorem rankDup_true {R : List Int} {i j : Nat} (hj : j < i) (h1 : rd R (i : Int) > 0) (h2 : rd R (j : Int) = rd R (i : Int)) : rankDup R i = true := by
  unfold rankDup
  rw [List.any_eq_true]
  exact ⟨j, List.mem_range.2 hj, by simp [h1, h2]⟩
theorem seven_cell {w : World} {g : Nat} {t : TypeId} {a0 a1 a2 a3 a4 a5 a6 a7 a8 a9 a10 a11 a12 : Int} (h : w.heap[g]? = some (.cells #[.int .i64 a0, .int .i64 a1, .int .i64 a2, .int .i64 a3, .int .i64 a4, .int .i64 a5, .int .i64 a6, .int .i64 a7, .int .i64 a8, .int .i64 a9, .int .i64 a10, .int .i64 a11, .int .i64 a12] t (0, 0)))
    (x : Int) (h0 : 0 ≤ x) (h1 : x < 7) : w.cell? ⟨g, 6 + x.toNat, none⟩ = some (.int .i64 (rd [a6, a7, a8, a9, a10, a11, a12] x)) := by
  rw [cell_of_row w g _ _ t (0, 0) h]
  rcases (show x = 0 ∨ x = 1 ∨ x = 2 ∨ x = 3 ∨ x = 4 ∨ x = 5 ∨ x = 6 by omega) with rfl | rfl | rfl | rfl | rfl | rfl | rfl <;> rfl
theorem run_slice7 {P : Program} {t e : TypeId} {n : Nat} {a : Addr} (hu : P.underlying t = some (.array n e)) (hs : (P.info? e).map (·.size) = some 1) {i : Nat} (hi : i ≤ n) (W : World) : (Instr.sliceAt t (.pointer (some a)) none (some (.int .i64 (i : Int))) none).run P W = .ok (.slice (some a) i n) W := by
  cases hq : P.info? e with
  | none => simp [hq] at hs
  | some j =>
    have hj : j.size = 1 := by simpa [hq] using hs
    simp [Instr.sliceAt, Instr.sureAddr, run_underlying hu, Instr.sliceBounds, Instr.sliceBound, asIntOf, sizeOf, typeInfo, hq, hj, hi, Addr.add]
/-- Whether a rank is behind another one, or, where both are the same, what else tells it. -/
def behindR (alg old : Int) (R : List Int) (low : Option Bool) : Option Bool := if 0 ≤ old then (if old < 7 then (if 0 ≤ alg then (if alg < 7 then (if rd R old = rd R alg then low else some (decide (rd R old < rd R alg))) else none) else none) else none) else none
def behindP (alg old : Int) (R : List Int) (low : Option Bool) : Option (Bool × Int) := if 0 ≤ old then (if old < 7 then (if 0 ≤ alg then (if alg < 7 then (if rd R old < rd R alg then some (true, 0) else (if rd R old = rd R alg then (low.bind fun b => some (b, 0)) else some (false, 0))) else none) else none) else none) else none
/-- Where an algorithm is put among the ranked ones: behind all of a rank that is not lower. -/
def insPos (R out : List Int) (alg : Int) : Nat → Nat
  | 0 => 0
  | n + 1 => if rd R (rd out (n : Int)) < rd R alg then insPos R out alg n else n + 1
theorem insPos_le (R out : List Int) (alg : Int) : ∀ n, insPos R out alg n ≤ n
  | 0 => Nat.le_refl _
  | n + 1 => by
    unfold insPos
    split
    · have := insPos_le R out alg n; omega
    · exact Nat.le_refl _
def insRank (R out : List Int) (alg : Int) : List Int := out.take (insPos R out alg out.length) ++ (alg :: out.drop (insPos R out alg out.length))
def rankedFrom (R : List Int) : Nat → Nat → List Int → List Int
  | 0, _, out => out
  | n + 1, alg, out => rankedFrom R n (alg + 1) (if rd R (alg : Int) < 1 then out else insRank R out (alg : Int))
theorem insRank_len (R out : List Int) (alg : Int) : (insRank R out alg).length = out.length + 1 := by
  have := insPos_le R out alg out.length
  unfold insRank
  simp only [List.length_append, List.length_take, List.length_cons, List.length_drop]
  omega
theorem insRank_all (R out : List Int) (alg : Int) (h : ∀ x, x ∈ out → 1 ≤ x ∧ x < 7) (h1 : 1 ≤ alg) (h2 : alg < 7) : ∀ x, x ∈ insRank R out alg → 1 ≤ x ∧ x < 7 := by
  intro x hx
  unfold insRank at hx
  rcases List.mem_append.1 hx with hx | hx
  · exact h x (List.mem_of_mem_take hx)
  · rcases List.mem_cons.1 hx with rfl | hx
    · exact ⟨h1, h2⟩
    · exact h x (List.mem_of_mem_drop hx)
theorem rd_mem (l : List Int) (i : Nat) (h : i < l.length) : rd l (i : Int) ∈ l := by
  unfold rd
  rw [Int.toNat_natCast, List.getD_eq_getElem?_getD, List.getElem?_eq_getElem h]
  exact List.getElem_mem h
/-- A row of one whole number that has just been made. -/
theorem lit_R (W : World) (base : Nat) (h : base ≤ W.heap.size) (a : Int) : Kd.R (Kd.int .i64) 3 (W.alloc (.cells #[.int .i64 a] 3)) base (fun _ => True) (.slice (some ⟨W.heap.size, 0, none⟩) 1 1) [a] :=
  ⟨fun _ _ => trivial, [.int .i64 a], ⟨rfl, .inr ⟨W.heap.size, 1, #[.int .i64 a], rfl, h, heap_alloc_new W _, Nat.le_refl _, by decide, rfl, rfl⟩⟩, Kd.reps_scalar (enc := fun x : Int => Value.int .i64 x) [a]⟩
theorem run_cut_to {P : Program} {t e : TypeId} (hu : P.underlying t = some (.slice e)) (hs : (P.info? e).map (·.size) = some 1) {A : Option Addr} {n c : Nat} {p : Int} (h0 : 0 ≤ p) (h1 : p ≤ c) (W : World) :
    (Instr.sliceAt t (.slice A n c) none (some (.int .i64 p)) none).run P W = .ok (.slice A p.toNat c) W := by
  have he : P.elem t = e := by simp [Program.elem, hu]
  cases hq : P.info? e with
  | none => simp [hq] at hs
  | some j =>
    have hj : j.size = 1 := by simpa [hq] using hs
    rw [run_sliceAt_slice W t _ _ _ _ (by rw [he]; exact hu), run_slice_h W t A n c (by rw [he]; exact hu) .i64 p h0 h1, he]
    simp only [sizeOf, typeInfo, Sem.run_bind]
    simp [hq, hj, sliced]
    cases A with
    | none => simp
    | some a => simp [Addr.add]
theorem run_cut_from {P : Program} {t e : TypeId} (hu : P.underlying t = some (.slice e)) (hs : (P.info? e).map (·.size) = some 1) {A : Option Addr} {n c : Nat} {p : Int} (h0 : 0 ≤ p) (h1 : p ≤ n) (W : World) :
    (Instr.sliceAt t (.slice A n c) (some (.int .i64 p)) none none).run P W = .ok (.slice (if c = p.toNat then A else A.map (·.add (p.toNat * 1))) (n - p.toNat) (c - p.toNat)) W := by
  have he : P.elem t = e := by simp [Program.elem, hu]
  cases hq : P.info? e with
  | none => simp [hq] at hs
  | some j =>
    have hj : j.size = 1 := by simpa [hq] using hs
    rw [run_sliceAt_slice W t _ _ _ _ (by rw [he]; exact hu), run_slice_l W t A n c (by rw [he]; exact hu) .i64 p h0 h1, he]
    simp only [sizeOf, typeInfo, Sem.run_bind]
    simp [hq, hj, sliced]
end Go.Proofs.Ytdieefjolkhmpaa.Own
