/- What a policy hashes is not behind it, and what costs less of one of its numbers is. -/
import Derived.Test.YtdieefjolkhmpaaStmtPolicyOwn
import Derived.Test.YtdieefjolkhmpaaPPoPol
namespace Go.Proofs.Ytdieefjolkhmpaa.Pure
open Go.RowKit Go.Proofs.Ytdieefjolkhmpaa.PPo Go.Proofs.YtdieefjolkhmpaaW.PrintWords Go.Proofs.YtdieefjolkhmpaaW.PrintLast Go.Proofs.YtdieefjolkhmpaaW.PrintMore Go.Proofs.Ytdieefjolkhmpaa.Base Go.Proofs.Ytdieefjolkhmpaa.PPoParams Go.Proofs.Ytdieefjolkhmpaa.PPoPol
set_option linter.unusedVariables false
attribute [local irreducible] IntKind.wrap bt

theorem wf_in {n : Int} (h : (Lit.int .i64 n).wf = true) : -9223372036854775808 ≤ n ∧ n < 9223372036854775808 := by
  have e : (decide (-9223372036854775808 ≤ n) && decide (n ≤ 9223372036854775807)) = true := h
  simp only [Bool.and_eq_true, decide_eq_true_eq] at e
  omega
theorem polAwake : Ev (fun k => pestlelaw46_awake.f k) true := Ev.of pestlelaw46_awake.mono (k := 40) (by decide +kernel)
theorem low_self (a b c d e : Int) : lowV a b c d e b c d e = false := by
  unfold lowV
  split
  · exact decide_eq_false (by omega)
  · split
    · exact decide_eq_false (by omega)
    · exact decide_eq_false (by omega)
theorem own_j2 (a b c d e s r0 r1 r2 r3 r4 r5 r6 b' c' d' e' : Int) (q : checkV a b c d e s [r0, r1, r2, r3, r4, r5, r6] = 0) (hl : lowV a b' c' d' e' b c d e = true) :
    Ev (fun k => pestlelaw46_PolicyOwn.j2 k a b c d e s r0 r1 r2 r3 r4 r5 r6 a b' c' d' e') true := by
  have ga := whyP_zero (check_zero q).1
  refine Ev.step (f := fun k => (policy_Lower.f k a b' c' d' e' a b c d e).bind fun t207 => if t207 = true then ((policy_Behind.f k a b c d e s r0 r1 r2 r3 r4 r5 r6 a b' c' d' e').bind fun bt208 => if bt208.2 = 0 then some bt208.1 else some true) else some false) (fun k => by simp only [pestlelaw46_PolicyOwn.j2]) (Ev.bind (lower_f a b' c' d' e' b c d e ga) ?_)
  refine Ev.congr (fun k => if_pos hl) (Ev.bind (behind_f a b c d e s r0 r1 r2 r3 r4 r5 r6 a b' c' d' e') ?_)
  rw [if_pos q]
  by_cases q2 : whyP a b' c' d' e' = 0
  · rw [if_pos q2]
    refine Ev.congr (f := fun _ => some true) (fun k => ?_) (Ev.now _)
    rw [if_pos rfl]
    unfold behV
    rw [if_pos rfl, hl]
  · rw [if_neg q2]
    exact Ev.congr (f := fun _ => some true) (fun k => if_neg q2) (Ev.now _)
theorem PolicyOwn : PPoPolicyOwn.Pure := by
  intro p x by_ hp hx hb
  have wx := wf_in hx
  have wb := wf_in hb
  have w1 := wf_in hp.1.2.1
  have w2 := wf_in hp.1.2.2.1
  have w3 := wf_in hp.1.2.2.2.1
  have w4 := wf_in hp.1.2.2.2.2
  obtain ⟨⟨a, b, c, d, e⟩, s, ⟨r0, r1, r2, r3, r4, r5, r6⟩⟩ := p
  simp only at w1 w2 w3 w4
  refine Ev.rounds ?_
  refine Ev.bind polAwake (Ev.congr (fun k => if_pos rfl) ?_)
  refine Ev.bind (check_f a b c d e s r0 r1 r2 r3 r4 r5 r6) ?_
  by_cases q : checkV a b c d e s [r0, r1, r2, r3, r4, r5, r6] = 0
  · refine Ev.congr (fun k => if_pos q) (Ev.bind (behind_f a b c d e s r0 r1 r2 r3 r4 r5 r6 a b c d e) ?_)
    have q1 := (check_zero q).1
    have ga := whyP_zero q1
    rw [if_pos q, if_pos q1]
    have hv : behV a b c d e [r0, r1, r2, r3, r4, r5, r6] a b c d e = false := by
      unfold behV
      rw [if_pos rfl, low_self]
    rw [hv]
    refine Ev.congr (fun k => by rw [if_neg (by decide), if_pos rfl]) ?_
    refine Ev.bind (lower_f a b c d e b c d e ga) ?_
    rw [low_self]
    have yes : ∀ b' c' d' e' : Int, Ev (fun k => pestlelaw46_PolicyOwn.j1 k x by_ true a b c d e s r0 r1 r2 r3 r4 r5 r6 a b' c' d' e') true := fun b' c' d' e' => Ev.step (f := fun _ => some true) (fun k => by simp only [pestlelaw46_PolicyOwn.j1]; rw [if_pos trivial]) (Ev.now _)
    have hcost := costs_f a b c d e ga
    by_cases c1 : x < 0
    · exact Ev.step (fun k => by simp only [pestlelaw46_PolicyOwn.j0]; rw [if_neg (by decide), hcost, Option.bind_some, if_pos c1]) (yes b c d e)
    · by_cases c2 : x ≥ ((costsOf a b c d e).length : Int)
      · exact Ev.step (fun k => by simp only [pestlelaw46_PolicyOwn.j0]; rw [if_neg (by decide), hcost, Option.bind_some, if_neg c1, if_pos c2]) (yes b c d e)
      · by_cases c3 : by_ < 1
        · exact Ev.step (fun k => by simp only [pestlelaw46_PolicyOwn.j0]; rw [if_neg (by decide), hcost, Option.bind_some, if_neg c1, if_neg c2, if_pos c3]) (yes b c d e)
        · by_cases c4 : by_ ≥ rd (costsOf a b c d e) x
          · exact Ev.step (fun k => by simp only [pestlelaw46_PolicyOwn.j0]; rw [if_neg (by decide), hcost, Option.bind_some, if_neg c1, if_neg c2, if_neg c3, if_pos (by omega), if_pos (by omega), decide_eq_true c4]) (yes b c d e)
          · refine Ev.step (f := fun k => pestlelaw46_PolicyOwn.j1 k x by_ false a b c d e s r0 r1 r2 r3 r4 r5 r6 a b c d e) (fun k => by simp only [pestlelaw46_PolicyOwn.j0]; rw [if_neg (by decide), hcost, Option.bind_some, if_neg c1, if_neg c2, if_neg c3, if_pos (by omega), if_pos (by omega), decide_eq_false c4]) ?_
            have hlen : (costsOf a b c d e).length = if a = 5 then 1 else if a = 6 then 2 else 4 := by
              unfold costsOf
              split
              · rfl
              · split <;> rfl
            have hrd : rd (costsOf a b c d e) x = if x = 0 then b else if a = 6 then e else if x = 1 then c else if x = 2 then d else e := by
              unfold costsOf at c2 ⊢
              by_cases a5 : a = 5
              · rw [if_pos a5] at c2 ⊢
                have : x = 0 := by simp only [List.length_cons, List.length_nil] at c2; omega
                subst this
                rfl
              · rw [if_neg a5] at c2 ⊢
                by_cases a6 : a = 6
                · rw [if_pos a6] at c2 ⊢
                  rcases (show x = 0 ∨ x = 1 by simp only [List.length_cons, List.length_nil] at c2; omega) with rfl | rfl
                  · rfl
                  · rw [if_pos a6]; rfl
                · rw [if_neg a6] at c2 ⊢
                  rcases (show x = 0 ∨ x = 1 ∨ x = 2 ∨ x = 3 by simp only [List.length_cons, List.length_nil] at c2; omega) with rfl | rfl | rfl | rfl
                  · rfl
                  · rw [if_neg a6]; rfl
                  · rw [if_neg a6]; rfl
                  · rw [if_neg a6]; rfl
            rw [hlen] at c2
            rw [hrd] at c4
            have g := own_j2 a b c d e s r0 r1 r2 r3 r4 r5 r6
            by_cases x0 : x = 0
            · rw [if_pos x0] at c4
              refine Ev.step (fun k => by simp only [pestlelaw46_PolicyOwn.j1]; rw [if_neg (by decide), if_pos x0, w64 (by omega) (by omega)]) (g (b - by_) c d e q ?_)
              unfold lowV
              split
              · exact decide_eq_true (by omega)
              · split <;> exact decide_eq_true (by omega)
            · rw [if_neg x0] at c4
              have a5 : ¬ a = 5 := fun z => by rw [if_pos z] at c2; omega
              rw [if_neg a5] at c2
              by_cases x1 : x = 1
              · by_cases a6 : a = 6
                · rw [if_pos a6] at c4
                  refine Ev.step (fun k => by simp only [pestlelaw46_PolicyOwn.j1]; rw [if_neg (by decide), if_neg x0, if_pos x1, if_pos a6, w64 (by omega) (by omega)]) (g b c d (e - by_) q ?_)
                  unfold lowV
                  rw [if_neg a5, if_pos a6]
                  exact decide_eq_true (by omega)
                · rw [if_neg a6, if_pos x1] at c4
                  refine Ev.step (fun k => by simp only [pestlelaw46_PolicyOwn.j1]; rw [if_neg (by decide), if_neg x0, if_pos x1, if_neg a6, w64 (by omega) (by omega)]) (g b (c - by_) d e q ?_)
                  unfold lowV
                  rw [if_neg a5, if_neg a6]
                  exact decide_eq_true (by omega)
              · have a6 : ¬ a = 6 := fun z => by rw [if_pos z] at c2; omega
                rw [if_neg a6, if_neg x1] at c4
                by_cases x2 : x = 2
                · rw [if_pos x2] at c4
                  refine Ev.step (fun k => by simp only [pestlelaw46_PolicyOwn.j1]; rw [if_neg (by decide), if_neg x0, if_neg x1, if_pos x2, w64 (by omega) (by omega)]) (g b c (d - by_) e q ?_)
                  unfold lowV
                  rw [if_neg a5, if_neg a6]
                  exact decide_eq_true (by omega)
                · rw [if_neg x2] at c4
                  refine Ev.step (fun k => by simp only [pestlelaw46_PolicyOwn.j1]; rw [if_neg (by decide), if_neg x0, if_neg x1, if_neg x2, w64 (by omega) (by omega)]) (g b c d (e - by_) q ?_)
                  unfold lowV
                  rw [if_neg a5, if_neg a6]
                  exact decide_eq_true (by omega)
  · exact Ev.congr (f := fun _ => some true) (fun k => if_neg q) (Ev.now _)
end Go.Proofs.Ytdieefjolkhmpaa.Pure
