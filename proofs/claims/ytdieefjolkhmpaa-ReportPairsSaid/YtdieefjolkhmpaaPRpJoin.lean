/- Texts put together with a byte between: what the program's function comes to. -/
import Derived.Test.YtdieefjolkhmpaaPRpx10
import Derived.Test.YtdieefjolkhmpaaBase
namespace Go.Proofs.Ytdieefjolkhmpaa.PRpJoin
open Go.RowKit Go.Proofs.Ytdieefjolkhmpaa.PRp Go.Proofs.YtdieefjolkhmpaaW.PrintWords Go.Proofs.YtdieefjolkhmpaaW.PrintLast Go.Proofs.YtdieefjolkhmpaaW.PrintMore Go.Proofs.Ytdieefjolkhmpaa.Base
set_option linter.unusedSimpArgs false
set_option linter.unusedVariables false
attribute [local irreducible] IntKind.wrap bt

/-- Texts with a byte between. -/
def joinL (c : UInt8) : List (List UInt8) → List UInt8
  | [] => []
  | [p] => p
  | p :: q :: r => p ++ c :: joinL c (q :: r)
/-- The same, of what stands behind a first text. -/
def tailL (c : UInt8) : List (List UInt8) → List UInt8
  | [] => []
  | p :: r => c :: p ++ tailL c r
theorem joinL_tail (c : UInt8) (p : List UInt8) : ∀ r, joinL c (p :: r) = p ++ tailL c r
  | [] => by simp [joinL, tailL]
  | q :: r => by simp only [joinL, tailL, joinL_tail c q r, List.cons_append]
def sumLen (P : List (List UInt8)) : Nat := (P.map fun p => p.length + 1).sum

theorem join_l0 (c : UInt8) (P : List (List UInt8)) (hP : P.length ≤ 1000) : ∀ (r : List (List UInt8)) (i : Nat) (acc : List UInt8), P.drop i = r → 0 < i → i ≤ P.length → acc.length + sumLen r ≤ 2000000 →
    Ev (fun k => fields_Join.l0 k (c.toNat : Int) (acc.map fun b : UInt8 => (b.toNat : Int)) (P.map B) (P.length : Int) (i : Int)) (B (acc ++ tailL c r)) := by
  intro r
  induction r with
  | nil =>
    intro i acc hr h0 hi ha
    have : P.length ≤ i := List.drop_eq_nil_iff.1 hr
    refine Ev.step (f := fun _ => _) (fun k => ?_) (Ev.now _)
    simp only [fields_Join.l0]
    rw [if_neg (by omega), nums_B]
    simp [tailL]
  | cons p r ih =>
    intro i acc hr h0 hi ha
    have hl : i < P.length := by
      rcases Nat.lt_or_ge i P.length with h1 | h1
      · exact h1
      · rw [List.drop_eq_nil_of_le h1] at hr; cases hr
    rw [List.drop_eq_getElem_cons hl] at hr
    injection hr with q1 q2
    have hrd : rdOf ByteArray.empty (P.map B) (i : Int) = B p := by
      unfold rdOf
      rw [List.getD_eq_getElem?_getD, Int.toNat_natCast, List.getElem?_map, List.getElem?_eq_getElem hl, q1]
      rfl
    have e1 := nx (i := i) (by omega)
    have hsum : sumLen (p :: r) = p.length + 1 + sumLen r := by simp [sumLen]
    rw [hsum] at ha
    have ih' := ih (i + 1) (acc ++ c :: p) q2 (by omega) (by omega) (by simp only [List.length_append, List.length_cons]; omega)
    have c1 : (acc.map fun b : UInt8 => (b.toNat : Int)).length < 140737488355328 := by rw [List.length_map]; omega
    have c2 : ((acc.map fun b : UInt8 => (b.toNat : Int)) ++ [(c.toNat : Int)]).length + (B p).size < 140737488355328 := by rw [size_B]; simp only [List.length_append, List.length_map, List.length_cons, List.length_nil]; omega
    have e2 : acc ++ tailL c (p :: r) = (acc ++ c :: p) ++ tailL c r := by simp [tailL]
    rw [e2]
    refine Ev.step (fun k => ?_) ih'
    simp only [fields_Join.l0]
    rw [if_pos (by omega), if_pos (by omega), if_pos (by rw [List.length_map]; omega), if_pos (by omega), hrd, e1.out]
    simp only [if_pos c1, Option.bind_some, if_pos c2]
    rw [bytesOf_L, L_B]
    simp

theorem join_f (c : UInt8) (p : List UInt8) (r : List (List UInt8)) (hP : r.length ≤ 900) (hs : sumLen (p :: r) ≤ 2000000) : Ev (fun k => fields_Join.f k (c.toNat : Int) ((p :: r).map B)) (B (joinL c (p :: r))) := by
  have e1 : wrap64 (0 + 1) = ((1 : Nat) : Int) := by rw [w64 (by omega) (by omega)]; rfl
  have hsum : sumLen (p :: r) = p.length + 1 + sumLen r := by simp [sumLen]
  rw [hsum] at hs
  have h := join_l0 c (p :: r) (by simp only [List.length_cons]; omega) r 1 p rfl (by omega) (by simp only [List.length_cons]; omega) (by omega)
  rw [joinL_tail]
  have c2 : ([] : List Int).length + (B p).size < 140737488355328 := by rw [size_B]; simp only [List.length_nil]; omega
  refine Ev.step (g := fun k => fields_Join.l0 k (c.toNat : Int) ([] : List Int) ((p :: r).map B) (((p :: r).map B).length : Int) 0) (fun k => ?_) h
  simp only [fields_Join.l0]
  rw [List.length_map, if_pos (by simp only [List.length_cons]; omega), if_pos (by omega), if_pos (by simp only [List.length_cons]; omega), if_neg (by omega)]
  have hrd : rdOf ByteArray.empty ((p :: r).map B) 0 = B p := rfl
  rw [hrd, if_pos c2, e1, bytesOf_L, L_B, List.nil_append]
end Go.Proofs.Ytdieefjolkhmpaa.PRpJoin
