/- General laws of this session: arrays and structs that lie whole in a block. -/
import Derived.Test.YtdieefjolkhmpaaWWords
import Derived.Test.YtdieefjolkhmpaaWLast
import Derived.Test.YtdieefjolkhmpaaWMore
import Derived.ProofKit
namespace Go.Proofs.Ytdieefjolkhmpaa.Own
open Go.RowKit Go.Proofs.YtdieefjolkhmpaaW.PrintWords

/-- An element of an array that is a value: of one cell. -/
theorem run_index_agg {P : Program} {t e : TypeId} {n : Nat} {d : TypeDesc} {cs : Array Value} {k : IntKind} {i : Int} {v : Value} (hu : P.underlying t = some (.array n e)) (hs : (P.info? e).map (·.size) = some 1)
    (he : P.underlying e = some d) (hd : (match d with | .struct _ | .array _ _ => true | _ => false) = false) (h0 : 0 ≤ i) (h1 : i < n) (hv : cs[i.toNat]? = some v) (w : World) :
    (Instr.index t (.agg cs) (.int k i)).run P w = .ok v w := by
  cases hq : P.info? e with
  | none => simp [hq] at hs
  | some j =>
    have hj : j.size = 1 := by simpa [hq] using hs
    have hagg : (isAgg e).run P w = .ok false w := by
      unfold isAgg
      rw [Sem.run_bind, run_underlying he w]
      cases d <;> simp_all
    simp [Instr.index, asIntOf, run_underlying hu, h0, h1, sizeOf, typeInfo, hq, hj, part, hagg, hv]
theorem getD_map {α β : Type} (f : α → β) (l : List α) (z : α) (i : Nat) (h : i < l.length) : (l.map f).toArray[i]? = some (f (l.getD i z)) := by
  simp [List.getD_eq_getElem?_getD, List.getElem?_eq_getElem h]

/-- A block that is just a row of whole numbers. -/
def NumBlk (w : World) (g : Nat) (t : TypeId) (k : IntKind) (l : List Int) : Prop := w.heap[g]? = some (.cells (l.map fun x => Value.int k x).toArray t (0, 0))
section
variable {w w' : World} {g : Nat} {t : TypeId} {k : IntKind} {l : List Int}
theorem NumBlk.lt (h : NumBlk w g t k l) : g < w.heap.size := by
  rcases Nat.lt_or_ge g w.heap.size with hlt | hge
  · exact hlt
  · unfold NumBlk at h; rw [Array.getElem?_eq_none hge] at h; cases h
theorem NumBlk.cell (h : NumBlk w g t k l) (i : Int) (h0 : 0 ≤ i) (h1 : i < l.length) : w.cell? ⟨g, i.toNat, none⟩ = some (.int k (rd l i)) := by
  rw [cell_of_row w g _ _ t (0, 0) h, getD_map _ l 0 _ (by omega)]
  rfl
theorem NumBlk.frozen (h : NumBlk w g t k l) (i : Nat) : w.frozen? ⟨g, i, none⟩ = false := by
  unfold NumBlk at h
  simp [World.frozen?, h]
theorem NumBlk.drew (h : NumBlk w g t k l) : NumBlk w.drew g t k l := h
theorem NumBlk.drewN (h : NumBlk w g t k l) (n : Nat) : NumBlk (w.drewN n) g t k l := h
theorem NumBlk.alloc (h : NumBlk w g t k l) (o : Obj) : NumBlk (w.alloc o) g t k l := (Below.heap_alloc w o g h.lt).trans h
theorem NumBlk.set_ (h : NumBlk w g t k l) (i : Nat) (x : Int) : NumBlk (w.setCell ⟨g, i, none⟩ (.int k x)) g t k (l.set i x) := by
  unfold NumBlk at h ⊢
  simp [World.setCell, Array.getElem?_modify, h, List.map_set]
theorem NumBlk.far (h : NumBlk w g t k l) {p : Addr} (hp : g ≠ p.block) (u : Value) : NumBlk (w.setCell p u) g t k l := (Below.heap_setCell w p u g hp).trans h
theorem NumBlk.below {B : Nat} (h : NumBlk w g t k l) (hb : Below B w w') (hg : g < B) : NumBlk w' g t k l := (hb.block g hg).trans h
theorem NumBlk.grown {row : Option Nat} (h : NumBlk w g t k l) (hb : w.grownBy w' row) (hg : some g ≠ row) : NumBlk w' g t k l := (hb.block g h.lt hg).trans h
end
section
variable {P : Program} {ops : Array Oper} {o : Oper} {a : Act} {Q : Exit → Act → World → Prop} {Kc : Act → World → Prop}
/-- A text's bytes appended within a region that draws its order. -/
theorem print_append_str_step {w0 W : World} (base : Nat) (hw : Region.wanted o (yielded ops a.tmps) = true) (s x : Operand) (t u e : TypeId)
    (ho : o.op = .call { callee := .builtin .append, args := #[s, x], argTypes := #[t, u] })
    (ht : P.underlying t = some (.slice e)) (hu : P.underlying u = some .string) (hinfo : (P.info? e).map (fun i => (i.zero, i.size, i.bytes)) = some (some (.int .u8 0), 1, 1))
    (v : Value) (xs : List Int) (y : ByteArray) (hs : a.eval s = v) (hx : a.eval x = .string y)
    (HO : W.ownsRow base e 1 v xs.length (nums .u8 xs)) (HB : Below base w0 W) (hbase : base ≤ W.heap.size) (hl : xs.length + y.size ≤ 140737488355328)
    (h : ∀ v1 w1, w1.ownsRow base e 1 v1 (xs ++ bytesOf y).length (nums .u8 (xs ++ bytesOf y)) → Below base w0 w1 → W.grownBy w1 v.ownBlock → Kc (a.put o.dst v1) w1) :
    if Region.wanted o (yielded ops a.tmps) = true then Oper.wp P o a W Kc Q else Kc (a.put o.dst undef) W := by
  obtain ⟨i0, hi, hzz⟩ := Option.map_eq_some_iff.1 hinfo
  simp only [Prod.mk.injEq] at hzz
  obtain ⟨hz0, hz1, hz2⟩ := hzz
  rw [if_pos hw]
  obtain ⟨v', w', hr, h2, h3, h4⟩ := Lib.run_append_own_string (P := P) W base t u o.type e i0 ht hu hi hz0 hz1 hz2 v xs.length (nums .u8 xs) HO y (by simp only [maxLen]; omega) hl hbase
  unfold Oper.wp execOp
  simp only [ho, resolve, invoke, builtin, Sem.run_bind, Sem.run_pure, Result.andThen_ok, List.map_toArray, List.map_cons, List.map_nil, hs, hx, hr]
  have hl2 : (xs ++ bytesOf y).length = xs.length + y.size := by rw [List.length_append, bytesOf_length]
  have hc : nums .u8 (xs ++ bytesOf y) = nums .u8 xs ++ Lib.strCells y := by
    rw [nums_append]
    congr 1
    simp [nums, bytesOf, Lib.strCells]
  exact h v' w' (by rw [hl2, hc]; exact h2) (HB.grown h3 hbase (own_base HO)) h3
end
end Go.Proofs.Ytdieefjolkhmpaa.Own
