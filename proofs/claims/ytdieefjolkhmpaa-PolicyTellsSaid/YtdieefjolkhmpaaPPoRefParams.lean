/- Which parameters may be: the reference's function. -/
import Derived.Test.YtdieefjolkhmpaaPPoParams
namespace Go.Proofs.Ytdieefjolkhmpaa.PPoParams
open Go.RowKit Go.Proofs.Ytdieefjolkhmpaa.PPo Go.Proofs.YtdieefjolkhmpaaW.PrintWords Go.Proofs.YtdieefjolkhmpaaW.PrintLast Go.Proofs.YtdieefjolkhmpaaW.PrintMore Go.Proofs.Ytdieefjolkhmpaa.Base
set_option linter.unusedSimpArgs false
set_option linter.unusedVariables false
attribute [local irreducible] IntKind.wrap bt

theorem ref27_f (a b c d e : Int) (ha : 1 ≤ a ∧ a ≤ 3) (hd : -9223372036854775808 ≤ d ∧ d < 9223372036854775808) : ∃ s : Int × Int × Int × Int × Int × Int × Int × Int × Bool, Ev (fun k => pestleref27_Of.f k a b c d e) s ∧ s.2.2.2.2.2.2.2.2 = decide (ArgOk b c d e) ∧ (ArgOk b c d e → s.2.2.2.2.1 = blocksOf c d) := by
  have no : Ev (fun k => pestleref27_Of.j0 k true a b c d e) (0, 0, 0, 0, 0, 0, 0, 0, false) := Ev.step (f := fun _ => _) (fun k => by simp only [pestleref27_Of.j0]; rw [if_pos trivial]) (Ev.now _)
  by_cases q : ArgOk b c d e
  · have q' := q
    unfold ArgOk at q
    obtain ⟨q1, q2, q3, q4, q5, q6, q7, q8⟩ := q
    have e8 : wrap64 (8 * d) = 8 * d := w64 (by omega) (by omega)
    have e4 : wrap64 (4 * d) = 4 * d := w64 (by omega) (by omega)
    have hq : Int.tdiv c (4 * d) = c / (4 * d) := Int.tdiv_eq_ediv_of_nonneg (by omega)
    have hm := Int.mul_ediv_add_emod c (4 * d)
    have hm1 : 0 ≤ c % (4 * d) := Int.emod_nonneg _ (by omega)
    have hm2 : c % (4 * d) < 4 * d := Int.emod_lt_of_pos _ (by omega)
    have hq0 : 0 ≤ c / (4 * d) := Int.ediv_nonneg (by omega) (by omega)
    have hq1 : c / (4 * d) ≤ c := Int.ediv_le_self _ (by omega)
    have e5 : wrap64 (c / (4 * d)) = c / (4 * d) := w64 (by omega) (by omega)
    generalize hx : 4 * d * (c / (4 * d)) = x at *
    have e6 : wrap64 x = x := w64 (by omega) (by omega)
    refine ⟨(a, b, d, c, x, wrap64 (4 * (c / (4 * d))), c / (4 * d), e, true), Ev.congr (f := fun k => pestleref27_Of.j0 k false a b c d e) (fun k => ?_) (Ev.step (f := fun _ => some (a, b, d, c, x, wrap64 (4 * (c / (4 * d))), c / (4 * d), e, true)) (fun k => ?_) (Ev.now _)), ?_, fun _ => ?_⟩
    · unfold pestleref27_Of.f
      rw [if_neg (by omega), if_neg (by omega), if_neg (by omega), if_neg (by omega), if_neg (by omega), if_neg (by omega), if_neg (by omega), decide_eq_false (by omega)]
    · simp only [pestleref27_Of.j0]
      rw [if_neg (by decide), e8, if_neg (by omega), if_neg (by omega), e4, if_neg (by omega), hq, e5, hx, e6]
    · rw [decide_eq_true q']
    · show x = blocksOf c d
      unfold blocksOf
      omega
  · rw [decide_eq_false q]
    have bad : ∀ s : Int × Int × Int × Int × Int × Int × Int × Int × Bool, Ev (fun k => pestleref27_Of.f k a b c d e) s → s.2.2.2.2.2.2.2.2 = false → ∃ s : Int × Int × Int × Int × Int × Int × Int × Int × Bool, Ev (fun k => pestleref27_Of.f k a b c d e) s ∧ s.2.2.2.2.2.2.2.2 = false ∧ (ArgOk b c d e → s.2.2.2.2.1 = blocksOf c d) := fun s h h2 => ⟨s, h, h2, fun z => absurd z q⟩
    by_cases c1 : b < 1
    · exact bad _ (Ev.congr (fun k => by unfold pestleref27_Of.f; rw [if_neg (by omega), if_neg (by omega), if_pos c1]) no) rfl
    · by_cases c2 : b > 4294967295
      · exact bad _ (Ev.congr (fun k => by unfold pestleref27_Of.f; rw [if_neg (by omega), if_neg (by omega), if_neg c1, if_pos c2]) no) rfl
      · by_cases c3 : d < 1
        · exact bad _ (Ev.congr (fun k => by unfold pestleref27_Of.f; rw [if_neg (by omega), if_neg (by omega), if_neg c1, if_neg c2, if_pos c3]) no) rfl
        · by_cases c4 : d > 16777215
          · exact bad _ (Ev.congr (fun k => by unfold pestleref27_Of.f; rw [if_neg (by omega), if_neg (by omega), if_neg c1, if_neg c2, if_neg c3, if_pos c4]) no) rfl
          · by_cases c5 : e < 4
            · exact bad _ (Ev.congr (fun k => by unfold pestleref27_Of.f; rw [if_neg (by omega), if_neg (by omega), if_neg c1, if_neg c2, if_neg c3, if_neg c4, if_pos c5]) no) rfl
            · by_cases c6 : e > 1024
              · exact bad _ (Ev.congr (fun k => by unfold pestleref27_Of.f; rw [if_neg (by omega), if_neg (by omega), if_neg c1, if_neg c2, if_neg c3, if_neg c4, if_neg c5, decide_eq_true c6]) no) rfl
              · have st : ∀ r, Ev (fun k => pestleref27_Of.j0 k false a b c d e) r → Ev (fun k => pestleref27_Of.f k a b c d e) r := fun r h => Ev.congr (fun k => by unfold pestleref27_Of.f; rw [if_neg (by omega), if_neg (by omega), if_neg c1, if_neg c2, if_neg c3, if_neg c4, if_neg c5, decide_eq_false c6]) h
                have e8 : wrap64 (8 * d) = 8 * d := w64 (by omega) (by omega)
                have q' := q
                unfold ArgOk at q'
                by_cases c7 : c < 8 * d
                · exact bad _ (st _ (Ev.step (f := fun _ => _) (fun k => by simp only [pestleref27_Of.j0]; rw [if_neg (by decide), e8, if_pos c7]) (Ev.now _))) rfl
                · exact bad _ (st _ (Ev.step (f := fun _ => _) (fun k => by simp only [pestleref27_Of.j0]; rw [if_neg (by decide), e8, if_neg c7, if_pos (by omega)]) (Ev.now _))) rfl

theorem ref25_f (b c d e : Int) : pestleref25_Check.f b c d e = some (decide (1 ≤ c ∧ c ≤ 512 ∧ 1 ≤ d ∧ d ≤ 512 ∧ wrap64 (c * d) ≤ 512 ∧ 1 ≤ b ∧ b ≤ 32 ∧ b < wrap64 (16 * c) ∧ 1 ≤ e ∧ e ≤ 1024)) := by
  unfold pestleref25_Check.f
  by_cases c1 : c < 1
  · rw [if_pos c1, decide_eq_false (by omega)]
  · rw [if_neg c1]
    by_cases c2 : c > 512
    · rw [if_pos c2, decide_eq_false (by omega)]
    · rw [if_neg c2]
      by_cases c3 : d < 1
      · rw [if_pos c3, decide_eq_false (by omega)]
      · rw [if_neg c3]
        by_cases c4 : d > 512
        · rw [if_pos c4, decide_eq_false (by omega)]
        · rw [if_neg c4]
          generalize wrap64 (c * d) = t
          generalize wrap64 (16 * c) = u
          by_cases c5 : t > 512
          · rw [if_pos c5, decide_eq_false (by omega)]
          · rw [if_neg c5]
            by_cases c6 : b ≥ 1
            · rw [if_pos c6]
              by_cases c7 : b ≤ 32
              · rw [if_pos c7]
                by_cases c8 : b < u
                · rw [if_pos c8]
                  by_cases c9 : e ≥ 1
                  · rw [if_pos c9]
                    by_cases c10 : e ≤ 1024
                    · rw [decide_eq_true c10, decide_eq_true (by omega)]
                    · rw [decide_eq_false c10, decide_eq_false (by omega)]
                  · rw [if_neg c9, decide_eq_false (by omega)]
                · rw [if_neg c8, decide_eq_false (by omega)]
              · rw [if_neg c7, decide_eq_false (by omega)]
            · rw [if_neg c6, decide_eq_false (by omega)]

theorem rparams_f (a b c d e : Int) (hd : -9223372036854775808 ≤ d ∧ d < 9223372036854775808) : Ev (fun k => pestleref44_Params.f k a b c d e) (whyP a b c d e) := by
  have j3 : ∀ x : Bool, a ≠ 6 → Ev (fun k => pestleref44_Params.j3 k x a b c d e) (if x = true then 0 else 2) := fun x h => Ev.step (f := fun _ => _) (fun k => by
    simp only [pestleref44_Params.j3]
    rw [if_neg h]) (Ev.congr (f := fun _ => some (if x = true then 0 else 2)) (fun k => by cases x <;> rfl) (Ev.now _))
  have j2 : ∀ x : Bool, a ≠ 6 → a ≠ 5 → Ev (fun k => pestleref44_Params.j2 k x a b c d e) (if x = true then 0 else 2) := fun x h h5 => Ev.step (fun k => by
    simp only [pestleref44_Params.j2]
    rw [if_neg h5]) (j3 x h)
  have j1 : ∀ x : Bool, a ≠ 6 → a ≠ 5 → a ≠ 4 → Ev (fun k => pestleref44_Params.j1 k x a b c d e) (if x = true then 0 else 2) := fun x h h5 h4 => Ev.step (fun k => by
    simp only [pestleref44_Params.j1]
    rw [if_neg h4]) (j2 x h h5)
  have six : Ev (fun k => pestleref44_Params.j0 k true a b c d e) 6 := Ev.step (f := fun _ => _) (fun k => by simp only [pestleref44_Params.j0]; rw [if_pos trivial]) (Ev.now _)
  unfold whyP
  by_cases c0 : a < 1
  · rw [if_neg (by omega), if_neg (by omega), if_neg (by omega), if_neg (by omega)]
    exact Ev.congr (fun k => by unfold pestleref44_Params.f; rw [if_pos c0]) six
  · by_cases c6 : a > 6
    · rw [if_neg (by omega), if_neg (by omega), if_neg (by omega), if_neg (by omega)]
      exact Ev.congr (fun k => by unfold pestleref44_Params.f; rw [if_neg c0, decide_eq_true c6]) six
    · have st : ∀ r, Ev (fun k => pestleref44_Params.j0 k false a b c d e) r → Ev (fun k => pestleref44_Params.f k a b c d e) r := fun r h => Ev.congr (fun k => by unfold pestleref44_Params.f; rw [if_neg c0, decide_eq_false c6]) h
      refine st _ ?_
      by_cases c3 : a ≤ 3
      · rw [if_pos (by omega)]
        obtain ⟨s, s1, s2, _⟩ := ref27_f a b c d e (by omega) hd
        refine Ev.step (fun k => by
          simp only [pestleref44_Params.j0]
          rw [if_neg (by decide), if_pos c3]) (Ev.bind s1 ?_)
        refine Ev.congr (f := fun k => pestleref44_Params.j1 k (decide (ArgOk b c d e)) a b c d e) (fun k => by rw [s2]) ?_
        have h := j1 (decide (ArgOk b c d e)) (by omega) (by omega) (by omega)
        by_cases q : ArgOk b c d e
        · rw [decide_eq_true q] at h ⊢; rw [if_pos q]; exact h
        · rw [decide_eq_false q] at h ⊢; rw [if_neg q]; exact h
      · rw [if_neg (by omega)]
        refine Ev.step (f := fun k => pestleref44_Params.j1 k true a b c d e) (fun k => by
          simp only [pestleref44_Params.j0]
          rw [if_neg (by decide), if_neg c3]) ?_
        by_cases h4 : a = 4
        · rw [if_pos h4]
          by_cases c1 : e ≥ 4
          · refine Ev.step (f := fun k => pestleref44_Params.j2 k (decide (1 ≤ c ∧ c ≤ 512 ∧ 1 ≤ d ∧ d ≤ 512 ∧ wrap64 (c * d) ≤ 512 ∧ 1 ≤ b ∧ b ≤ 32 ∧ b < wrap64 (16 * c) ∧ 1 ≤ e ∧ e ≤ 1024)) a b c d e) (fun k => by
              simp only [pestleref44_Params.j1]
              rw [if_pos h4, if_pos c1, ref25_f, Option.bind_some]) ?_
            have h := j2 (decide (1 ≤ c ∧ c ≤ 512 ∧ 1 ≤ d ∧ d ≤ 512 ∧ wrap64 (c * d) ≤ 512 ∧ 1 ≤ b ∧ b ≤ 32 ∧ b < wrap64 (16 * c) ∧ 1 ≤ e ∧ e ≤ 1024)) (by omega) (by omega)
            by_cases c2 : ScrOk b c d e
            · have c2' := c2
              unfold ScrOk at c2'
              rw [decide_eq_true (by generalize wrap64 (c * d) = t at *; generalize wrap64 (16 * c) = u at *; omega)] at h ⊢; rw [if_pos c2]; exact h
            · have c2' := c2
              unfold ScrOk at c2'
              rw [decide_eq_false (by generalize wrap64 (c * d) = t at *; generalize wrap64 (16 * c) = u at *; omega)] at h ⊢; rw [if_neg c2]; exact h
          · rw [if_neg (show ¬ ScrOk b c d e by unfold ScrOk; omega)]
            exact Ev.step (fun k => by
              simp only [pestleref44_Params.j1]
              rw [if_pos h4, if_neg c1]) (j2 false (by omega) (by omega))
        · rw [if_neg h4]
          refine Ev.step (f := fun k => pestleref44_Params.j2 k true a b c d e) (fun k => by
            simp only [pestleref44_Params.j1]
            rw [if_neg h4]) ?_
          by_cases h5 : a = 5
          · rw [if_pos h5]
            have j3f := j3 false (by omega)
            by_cases c1 : b ≥ 4
            · by_cases c2 : b ≤ 31
              · by_cases c3 : c = 0
                · have last : d = 0 ∨ d = 1 → Ev (fun k => pestleref44_Params.j3 k (e == 23) a b c d e) (if BcOk b c d e then 0 else 2) := fun hd2 => by
                    have h := j3 (e == 23) (by omega)
                    by_cases c4 : e = 23
                    · rw [if_pos (show BcOk b c d e by unfold BcOk; omega)]
                      rw [beq_iff_eq.mpr c4] at h ⊢; exact h
                    · rw [if_neg (show ¬ BcOk b c d e by unfold BcOk; omega)]
                      rw [beq_eq_false_iff_ne.mpr c4] at h ⊢; exact h
                  by_cases c4 : d = 0
                  · exact Ev.step (fun k => by
                      simp only [pestleref44_Params.j2]
                      rw [if_pos h5, if_pos c1, if_pos c2, if_pos c3, if_pos c4]) (last (Or.inl c4))
                  · by_cases c5 : d = 1
                    · exact Ev.step (fun k => by
                        simp only [pestleref44_Params.j2]
                        rw [if_pos h5, if_pos c1, if_pos c2, if_pos c3, if_neg c4, if_pos c5]) (last (Or.inr c5))
                    · rw [if_neg (show ¬ BcOk b c d e by unfold BcOk; omega)]
                      exact Ev.step (fun k => by
                        simp only [pestleref44_Params.j2]
                        rw [if_pos h5, if_pos c1, if_pos c2, if_pos c3, if_neg c4, if_neg c5]) j3f
                · rw [if_neg (show ¬ BcOk b c d e by unfold BcOk; omega)]
                  exact Ev.step (fun k => by
                    simp only [pestleref44_Params.j2]
                    rw [if_pos h5, if_pos c1, if_pos c2, if_neg c3]) j3f
              · rw [if_neg (show ¬ BcOk b c d e by unfold BcOk; omega)]
                exact Ev.step (fun k => by
                  simp only [pestleref44_Params.j2]
                  rw [if_pos h5, if_pos c1, if_neg c2]) j3f
            · rw [if_neg (show ¬ BcOk b c d e by unfold BcOk; omega)]
              exact Ev.step (fun k => by
                simp only [pestleref44_Params.j2]
                rw [if_pos h5, if_neg c1]) j3f
          · rw [if_neg h5, if_pos (by omega)]
            have h6 : a = 6 := by omega
            refine Ev.step (f := fun k => pestleref44_Params.j3 k true a b c d e) (fun k => by
              simp only [pestleref44_Params.j2]
              rw [if_neg h5]) (Ev.step (f := fun _ => some (if PbOk b c d e then 0 else 2)) (fun k => ?_) (Ev.now _))
            simp only [pestleref44_Params.j3]
            rw [if_pos h6]
            by_cases c1 : b ≥ 1
            · rw [if_pos c1]
              by_cases c2 : b ≤ 4294967295
              · rw [if_pos c2]
                by_cases c3 : c = 0
                · rw [if_pos c3]
                  by_cases c4 : d = 0
                  · rw [if_pos c4]
                    by_cases c5 : e ≥ 4
                    · rw [if_pos c5]
                      by_cases c6 : e ≤ 1024
                      · rw [if_pos c6, if_pos (show PbOk b c d e by unfold PbOk; omega)]
                      · rw [if_neg c6, if_neg (show ¬ PbOk b c d e by unfold PbOk; omega)]
                    · rw [if_neg c5, if_neg (show ¬ PbOk b c d e by unfold PbOk; omega)]
                  · rw [if_neg c4, if_neg (show ¬ PbOk b c d e by unfold PbOk; omega)]
                · rw [if_neg c3, if_neg (show ¬ PbOk b c d e by unfold PbOk; omega)]
              · rw [if_neg c2, if_neg (show ¬ PbOk b c d e by unfold PbOk; omega)]
            · rw [if_neg c1, if_neg (show ¬ PbOk b c d e by unfold PbOk; omega)]
end Go.Proofs.Ytdieefjolkhmpaa.PPoParams
