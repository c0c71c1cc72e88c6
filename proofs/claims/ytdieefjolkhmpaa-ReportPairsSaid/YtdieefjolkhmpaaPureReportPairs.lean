/- Any calls with as many replies, and how many replies have which error, are told by the program just as by the reference; of another number of replies the program tells an error. -/
import Derived.Test.YtdieefjolkhmpaaStmtReportPairs
import Derived.Test.YtdieefjolkhmpaaPRpTally
namespace Go.Proofs.Ytdieefjolkhmpaa.Pure
open Go.RowKit Go.Proofs.Ytdieefjolkhmpaa.PRp Go.Proofs.YtdieefjolkhmpaaW.PrintWords Go.Proofs.YtdieefjolkhmpaaW.PrintLast Go.Proofs.YtdieefjolkhmpaaW.PrintMore Go.Proofs.Ytdieefjolkhmpaa.Base Go.Proofs.Ytdieefjolkhmpaa.PRpRep Go.Proofs.Ytdieefjolkhmpaa.PRpPairs Go.Proofs.Ytdieefjolkhmpaa.PRpTally
set_option linter.unusedVariables false
attribute [local irreducible] IntKind.wrap bt

theorem wf_lt {n : Int} (h : (Lit.int .i64 n).wf = true) : -9223372036854775808 ≤ n ∧ n < 9223372036854775808 := by
  have e : (decide (-9223372036854775808 ≤ n) && decide (n ≤ 9223372036854775807)) = true := h
  simp only [Bool.and_eq_true, decide_eq_true_eq] at e
  omega
theorem repAwake : Ev (fun k => pestlelaw54_awake.f k) true := Ev.of pestlelaw54_awake.mono (k := 40) (by decide +kernel)
theorem rp_l1 (x : List S23) (y : List S26) (hx : x.length ≤ 30) (hy : y.length ≤ 30) (hy2 : ∀ i : Nat, i < y.length → (rd_T26 y (i : Int)).f3 < 9223372036854775808) (hs : ∀ i : Nat, i < x.length → (rd_T23 x (i : Int)).f1.size ≤ 300 ∧ (rd_T23 x (i : Int)).f2.size ≤ 300) :
    ∀ (d i : Nat), i + d = y.length → (∀ j : Nat, j < i → (rd_T26 y (j : Int)).f1.size ≤ 300) → Ev (fun k => pestlelaw54_ReportPairs.l1 k x y y (y.length : Int) (i : Int)) true := by
  intro d
  induction d with
  | zero =>
    intro i hi hj
    obtain ⟨t, t1, t2⟩ := tl_both y (by omega) 18 0 [] rfl (by simp) (by simp [Go.Proofs.Ytdieefjolkhmpaa.PRpJoin.sumLen])
    refine Ev.step (fun k => by
      simp only [pestlelaw54_ReportPairs.l1]
      rw [if_neg (by omega)]) ?_
    by_cases c : (x.length : Int) = (y.length : Int)
    · obtain ⟨out, o1, o2⟩ := pairs_both x y (by omega) (by omega) hs (fun j hj2 => ⟨hj j (by omega), hy2 j hj2⟩) x.length 0 [] (by omega) (by simp)
      refine Ev.bind (Ev.congr (fun k => by unfold report_Pairs.f; rw [if_pos c]; rfl) o1) ?_
      refine Ev.bind t1 (Ev.bind t2 ?_)
      refine Ev.congr (fun k => by rw [if_pos rfl, if_pos c, if_pos rfl]) ?_
      refine Ev.bind o2 (Ev.congr (f := fun _ => some true) (fun k => ?_) (Ev.now _))
      simp
    · refine Ev.bind (Ev.congr (f := fun _ => _) (fun k => by unfold report_Pairs.f; rw [if_neg c]) (Ev.now _)) ?_
      refine Ev.bind t1 (Ev.bind t2 ?_)
      refine Ev.congr (f := fun _ => some true) (fun k => ?_) (Ev.now _)
      rw [if_pos rfl, if_neg c, if_pos rfl]
      show some (ByteArray.toList ⟨#[]⟩).isEmpty = some true
      rw [toList_L]
      rfl
  | succ d ih =>
    intro i hi hj
    have e1 := nx (i := i) (by omega)
    by_cases c : ((rd_T26 y (i : Int)).f1.size : Int) > 300
    · refine Ev.step (f := fun _ => _) (fun k => ?_) (Ev.now _)
      simp only [pestlelaw54_ReportPairs.l1]
      rw [if_pos (by omega), if_pos (by omega), if_pos (by omega), if_pos c]
    · refine Ev.step (fun k => ?_) (ih (i + 1) (by omega) (fun j hj2 => by
        rcases Nat.lt_or_ge j i with q | q
        · exact hj j q
        · obtain rfl : j = i := by omega
          omega))
      simp only [pestlelaw54_ReportPairs.l1]
      rw [if_pos (by omega), if_pos (by omega), if_pos (by omega), if_neg c, e1.out]
theorem rp_l0 (x : List S23) (y : List S26) (hx : x.length ≤ 30) (hy : y.length ≤ 30) (hy2 : ∀ i : Nat, i < y.length → (rd_T26 y (i : Int)).f3 < 9223372036854775808) :
    ∀ (d i : Nat), i + d = x.length → (∀ j : Nat, j < i → (rd_T23 x (j : Int)).f1.size ≤ 300 ∧ (rd_T23 x (j : Int)).f2.size ≤ 300) → Ev (fun k => pestlelaw54_ReportPairs.l0 k x y x (x.length : Int) (i : Int)) true := by
  intro d
  induction d with
  | zero =>
    intro i hi hj
    refine Ev.step (fun k => ?_) (rp_l1 x y hx hy hy2 (fun j hj2 => hj j (by omega)) y.length 0 (by omega) (fun j h => absurd h (by omega)))
    simp only [pestlelaw54_ReportPairs.l0]
    rw [if_neg (by omega)]
    rfl
  | succ d ih =>
    intro i hi hj
    have e1 := nx (i := i) (by omega)
    by_cases c : ((rd_T23 x (i : Int)).f1.size : Int) > 300
    · refine Ev.step (f := fun _ => _) (fun k => ?_) (Ev.now _)
      simp only [pestlelaw54_ReportPairs.l0]
      rw [if_pos (by omega), if_pos (by omega), if_pos (by omega), if_pos c]
    · by_cases c2 : ((rd_T23 x (i : Int)).f2.size : Int) > 300
      · refine Ev.step (f := fun _ => _) (fun k => ?_) (Ev.now _)
        simp only [pestlelaw54_ReportPairs.l0]
        rw [if_pos (by omega), if_pos (by omega), if_pos (by omega), if_neg c, if_pos c2]
      · refine Ev.step (fun k => ?_) (ih (i + 1) (by omega) (fun j hj2 => by
          rcases Nat.lt_or_ge j i with q | q
          · exact hj j q
          · obtain rfl : j = i := by omega
            omega))
        simp only [pestlelaw54_ReportPairs.l0]
        rw [if_pos (by omega), if_pos (by omega), if_pos (by omega), if_neg c, if_neg c2, e1.out]
theorem ReportPairs : PRpReportPairs.Pure := by
  intro x y hx hy
  refine Ev.rounds ?_
  refine Ev.bind repAwake ?_
  have long : Ev (fun k => pestlelaw54_ReportPairs.j0 k x y true) true :=
    Ev.step (f := fun _ => _) (fun k => by simp only [pestlelaw54_ReportPairs.j0]; rw [if_pos trivial]) (Ev.now _)
  have hy2 : ∀ i : Nat, i < y.length → (rd_T26 y (i : Int)).f3 < 9223372036854775808 := by
    intro i hi
    have : rd_T26 y (i : Int) = y[i] := by
      unfold rd_T26
      rw [Int.toNat_natCast, List.getD_eq_getElem?_getD, List.getElem?_eq_getElem hi]
      rfl
    rw [this]
    exact (wf_lt (hy.2 _ (List.getElem_mem hi)).2.2.2).2
  by_cases c1 : (x.length : Int) > 30
  · exact Ev.congr (fun k => by rw [if_pos rfl, if_pos c1]) long
  · by_cases c2 : (y.length : Int) > 30
    · exact Ev.congr (fun k => by rw [if_pos rfl, if_neg c1, decide_eq_true c2]) long
    · refine Ev.congr (fun k => by rw [if_pos rfl, if_neg c1, decide_eq_false c2]) (Ev.step (fun k => ?_) (rp_l0 x y (by omega) (by omega) hy2 x.length 0 (by omega) (fun j h => absurd h (by omega))))
      simp only [pestlelaw54_ReportPairs.j0]
      rw [if_neg (by decide)]
      rfl
end Go.Proofs.Ytdieefjolkhmpaa.Pure
