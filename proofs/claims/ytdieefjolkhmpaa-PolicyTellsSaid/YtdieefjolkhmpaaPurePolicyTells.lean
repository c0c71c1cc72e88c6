/- Whether any policy may be, and whether any parameters are behind it, is told by the program just as by the reference. -/
import Derived.Test.YtdieefjolkhmpaaStmtPolicyTells
import Derived.Test.YtdieefjolkhmpaaPPoPol
namespace Go.Proofs.Ytdieefjolkhmpaa.Pure
open Go.RowKit Go.Proofs.Ytdieefjolkhmpaa.PPo Go.Proofs.YtdieefjolkhmpaaW.PrintWords Go.Proofs.YtdieefjolkhmpaaW.PrintLast Go.Proofs.YtdieefjolkhmpaaW.PrintMore Go.Proofs.Ytdieefjolkhmpaa.Base Go.Proofs.Ytdieefjolkhmpaa.PPoParams Go.Proofs.Ytdieefjolkhmpaa.PPoPol
set_option linter.unusedVariables false
attribute [local irreducible] IntKind.wrap bt

theorem wf_in {n : Int} (h : (Lit.int .i64 n).wf = true) : -9223372036854775808 ≤ n ∧ n < 9223372036854775808 := by
  have e : (decide (-9223372036854775808 ≤ n) && decide (n ≤ 9223372036854775807)) = true := h
  simp only [Bool.and_eq_true, decide_eq_true_eq] at e
  omega
theorem polAwake : Ev (fun k => pestlelaw46_awake.f k) true := Ev.of pestlelaw46_awake.mono (k := 40) (by decide +kernel)
theorem PolicyTells : PPoPolicyTells.Pure := by
  intro p o hp ho
  refine Ev.rounds ?_
  refine Ev.bind polAwake (Ev.congr (fun k => if_pos rfl) ?_)
  refine Ev.bind (rcheck_f p.f0.f0 p.f0.f1 p.f0.f2 p.f0.f3 p.f0.f4 p.f1 p.f2.f0 p.f2.f1 p.f2.f2 p.f2.f3 p.f2.f4 p.f2.f5 p.f2.f6 (wf_in hp.1.2.2.2.1)) ?_
  refine Ev.bind (behind_f p.f0.f0 p.f0.f1 p.f0.f2 p.f0.f3 p.f0.f4 p.f1 p.f2.f0 p.f2.f1 p.f2.f2 p.f2.f3 p.f2.f4 p.f2.f5 p.f2.f6 o.f0 o.f1 o.f2 o.f3 o.f4) ?_
  refine Ev.bind (check_f p.f0.f0 p.f0.f1 p.f0.f2 p.f0.f3 p.f0.f4 p.f1 p.f2.f0 p.f2.f1 p.f2.f2 p.f2.f3 p.f2.f4 p.f2.f5 p.f2.f6) ?_
  refine Ev.congr (fun k => if_pos rfl) ?_
  by_cases q : checkV p.f0.f0 p.f0.f1 p.f0.f2 p.f0.f3 p.f0.f4 p.f1 [p.f2.f0, p.f2.f1, p.f2.f2, p.f2.f3, p.f2.f4, p.f2.f5, p.f2.f6] = 0
  · rw [if_pos q]
    refine Ev.congr (fun k => if_pos q) (Ev.bind (rparams_f o.f0 o.f1 o.f2 o.f3 o.f4 (wf_in ho.2.2.2.1)) ?_)
    by_cases q2 : whyP o.f0 o.f1 o.f2 o.f3 o.f4 = 0
    · rw [if_pos q2]
      refine Ev.congr (f := fun _ => some true) (fun k => ?_) (Ev.now _)
      rw [if_pos q2, if_pos rfl, rbehind_f p.f0.f0 p.f0.f1 p.f0.f2 p.f0.f3 p.f0.f4 p.f1 p.f2.f0 p.f2.f1 p.f2.f2 p.f2.f3 p.f2.f4 p.f2.f5 p.f2.f6 o.f0 o.f1 o.f2 o.f3 o.f4 q q2]
      simp
    · rw [if_neg q2]
      refine Ev.congr (f := fun _ => some true) (fun k => ?_) (Ev.now _)
      rw [if_neg q2]
      simp
  · rw [if_neg q]
    refine Ev.congr (f := fun _ => some true) (fun k => ?_) (Ev.now _)
    rw [if_neg q]
    simp
end Go.Proofs.Ytdieefjolkhmpaa.Pure
