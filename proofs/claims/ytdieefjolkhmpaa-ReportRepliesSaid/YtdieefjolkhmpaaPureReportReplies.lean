/- Any reply to any call, any parameters and any error's number are told by the program just as by the reference. -/
import Derived.Test.YtdieefjolkhmpaaStmtReportReplies
import Derived.Test.YtdieefjolkhmpaaPRePar
namespace Go.Proofs.Ytdieefjolkhmpaa.Pure
open Go.RowKit Go.Proofs.Ytdieefjolkhmpaa.PRe Go.Proofs.YtdieefjolkhmpaaW.PrintWords Go.Proofs.YtdieefjolkhmpaaW.PrintLast Go.Proofs.YtdieefjolkhmpaaW.PrintMore Go.Proofs.Ytdieefjolkhmpaa.Base Go.Proofs.Ytdieefjolkhmpaa.PReRep Go.Proofs.Ytdieefjolkhmpaa.PRePar
attribute [local irreducible] IntKind.wrap bt

theorem wf_lt {n : Int} (h : (Lit.int .i64 n).wf = true) : -9223372036854775808 ≤ n ∧ n < 9223372036854775808 := by
  have e : (decide (-9223372036854775808 ≤ n) && decide (n ≤ 9223372036854775807)) = true := h
  simp only [Bool.and_eq_true, decide_eq_true_eq] at e
  omega
theorem repAwake : Ev (fun k => pestlelaw54_awake.f k) true := Ev.of pestlelaw54_awake.mono (k := 40) (by decide +kernel)
theorem ReportReplies : PReReportReplies.Pure := by
  intro x0 x1 x2 x3 h0 h1 h2 h3
  refine Ev.rounds ?_
  refine Ev.bind repAwake ?_
  have long : Ev (fun k => pestlelaw54_ReportReplies.j0 k x3 true x0.f0 x0.f1 x0.f2 x1.f0 x1.f1 x1.f2 x1.f3 x2.f0 x2.f1 x2.f2 x2.f3 x2.f4) true :=
    Ev.step (f := fun _ => _) (fun k => by simp only [pestlelaw54_ReportReplies.j0]; rw [if_pos trivial]) (Ev.now _)
  by_cases c1 : (x0.f1.size : Int) > 500
  · exact Ev.congr (fun k => by rw [if_pos rfl, if_pos c1]) long
  · by_cases c2 : (x0.f2.size : Int) > 500
    · exact Ev.congr (fun k => by rw [if_pos rfl, if_neg c1, if_pos c2]) long
    · by_cases c3 : (x1.f1.size : Int) > 500
      · exact Ev.congr (fun k => by rw [if_pos rfl, if_neg c1, if_neg c2, decide_eq_true c3]) long
      · obtain ⟨r, _, r1, r2⟩ := reply_both x0.f0 x0.f1 x0.f2 x1.f0 x1.f1 x1.f2 x1.f3 (by omega) (wf_lt h1.2.2.2).2
        obtain ⟨p, p1, p2⟩ := params_both x2.f0 x2.f1 x2.f2 x2.f3 x2.f4 (wf_lt h2.2.1).2 (wf_lt h2.2.2.1).2 (wf_lt h2.2.2.2.1).2 (wf_lt h2.2.2.2.2).2
        obtain ⟨n, _, n1, n2⟩ := name_both x3
        have j0 : Ev (fun k => pestlelaw54_ReportReplies.j0 k x3 false x0.f0 x0.f1 x0.f2 x1.f0 x1.f1 x1.f2 x1.f3 x2.f0 x2.f1 x2.f2 x2.f3 x2.f4) true := by
          refine Ev.step (fun k => by simp only [pestlelaw54_ReportReplies.j0]; rw [if_neg (by simp)]) ?_
          refine Ev.bind r1 (Ev.bind r2 ?_)
          refine Ev.congr (fun k => if_pos rfl) ?_
          refine Ev.bind p1 (Ev.bind p2 ?_)
          refine Ev.congr (fun k => if_pos rfl) ?_
          refine Ev.congr (f := fun _ => some true) (fun k => ?_) (Ev.now _)
          rw [n1, n2]
          simp
        exact Ev.congr (fun k => by rw [if_pos rfl, if_neg c1, if_neg c2, decide_eq_false c3]) j0
end Go.Proofs.Ytdieefjolkhmpaa.Pure
