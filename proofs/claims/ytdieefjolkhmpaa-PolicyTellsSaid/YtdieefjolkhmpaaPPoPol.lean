/- Policies: the program's and the reference's functions come to the same. -/
import Derived.Test.YtdieefjolkhmpaaPPoRefParams
namespace Go.Proofs.Ytdieefjolkhmpaa.PPoPol
open Go.RowKit Go.Proofs.Ytdieefjolkhmpaa.PPo Go.Proofs.YtdieefjolkhmpaaW.PrintWords Go.Proofs.YtdieefjolkhmpaaW.PrintLast Go.Proofs.YtdieefjolkhmpaaW.PrintMore Go.Proofs.Ytdieefjolkhmpaa.Base Go.Proofs.Ytdieefjolkhmpaa.Own Go.Proofs.Ytdieefjolkhmpaa.PPoParams
set_option linter.unusedSimpArgs false
set_option linter.unusedVariables false
attribute [local irreducible] IntKind.wrap bt

theorem whyP_zero {a b c d e : Int} (h : whyP a b c d e = 0) : 1 ≤ a ∧ a ≤ 6 := by
  unfold whyP at h
  by_cases c1 : 1 ≤ a ∧ a ≤ 3
  · omega
  · rw [if_neg c1] at h
    by_cases c4 : a = 4
    · omega
    · rw [if_neg c4] at h
      by_cases c5 : a = 5
      · omega
      · rw [if_neg c5] at h
        by_cases c6 : a = 6
        · omega
        · rw [if_neg c6] at h
          omega
/-- What ranks come to. -/
def ranksV (alg : Int) (R : List Int) : Int := if rd R 0 = 0 then (if rd R alg < 1 then 1 else rankScan R 7 0) else 1
theorem ranksOf_V {alg : Int} (R : List Int) (h0 : 0 ≤ alg) (h1 : alg < 7) : ranksOf alg R = some (ranksV alg R) := by
  unfold ranksOf ranksV
  rw [if_pos h0, if_pos h1]
  split
  · split <;> rfl
  · rfl
/-- Why a policy may not be. -/
def checkV (a b c d e s : Int) (R : List Int) : Int := if whyP a b c d e = 0 then (if (a = 5 ∧ s ≠ 16) ∨ s < 8 ∨ s > 64 then 9 else ranksV a R) else whyP a b c d e

theorem check_f (a b c d e s r0 r1 r2 r3 r4 r5 r6 : Int) : Ev (fun k => policy_Check.f k a b c d e s r0 r1 r2 r3 r4 r5 r6) (checkV a b c d e s [r0, r1, r2, r3, r4, r5, r6]) := by
  have hp := params_f a b c d e
  unfold checkV
  by_cases q : whyP a b c d e = 0
  · obtain ⟨g1, g2⟩ := whyP_zero q
    have hr : policy_ranks.f a b c d e s r0 r1 r2 r3 r4 r5 r6 = some (ranksV a [r0, r1, r2, r3, r4, r5, r6]) := ranksOf_V _ (by omega) (by omega)
    rw [q] at hp
    rw [if_pos q]
    refine Ev.bind hp (Ev.congr (f := fun _ => some (if (a = 5 ∧ s ≠ 16) ∨ s < 8 ∨ s > 64 then 9 else ranksV a [r0, r1, r2, r3, r4, r5, r6])) (fun k => ?_) (Ev.now _))
    show (if (0 : Int) = 0 then _ else _) = _
    rw [if_pos rfl, within_f, Option.bind_some]
    by_cases c5 : a = 5
    · rw [if_pos c5]
      by_cases c16 : s = 16
      · rw [if_pos c16, hr, if_neg (by omega)]
        rfl
      · rw [if_neg c16, if_pos (Or.inl ⟨c5, c16⟩)]
    · rw [if_neg c5]
      by_cases c8 : 8 ≤ s ∧ s ≤ 64
      · rw [decide_eq_true c8, if_pos rfl, hr, if_neg (by omega)]
        rfl
      · rw [decide_eq_false c8, if_neg (by decide), if_pos (by omega)]
  · rw [if_neg q]
    refine Ev.bind hp (Ev.congr (f := fun _ => _) (fun k => ?_) (Ev.now _))
    show (if whyP a b c d e = 0 then _ else _) = _
    rw [if_neg q]
theorem rcheck_f (a b c d e s r0 r1 r2 r3 r4 r5 r6 : Int) (hd : -9223372036854775808 ≤ d ∧ d < 9223372036854775808) : Ev (fun k => pestleref46_Check.f k a b c d e s r0 r1 r2 r3 r4 r5 r6) (checkV a b c d e s [r0, r1, r2, r3, r4, r5, r6]) := by
  have hp := rparams_f a b c d e hd
  unfold checkV
  by_cases q : whyP a b c d e = 0
  · obtain ⟨g1, g2⟩ := whyP_zero q
    have hr := ranksOf_V (alg := a) [r0, r1, r2, r3, r4, r5, r6] (by omega) (by omega)
    rw [q] at hp
    rw [if_pos q]
    refine Ev.bind hp (Ev.congr (f := fun _ => some (if (a = 5 ∧ s ≠ 16) ∨ s < 8 ∨ s > 64 then 9 else ranksV a [r0, r1, r2, r3, r4, r5, r6])) (fun k => ?_) (Ev.now _))
    show (if (0 : Int) = 0 then _ else _) = _
    rw [if_pos rfl, hr]
    split <;> rfl
  · rw [if_neg q]
    refine Ev.bind hp (Ev.congr (f := fun _ => _) (fun k => ?_) (Ev.now _))
    show (if whyP a b c d e = 0 then _ else _) = _
    rw [if_neg q]

/-- Ranks that may be are none twice. -/
theorem scan_zero (R : List Int) : ∀ (n i : Nat), rankScan R n i = 0 → ∀ j : Nat, i ≤ j → j < i + n → rankDup R j = false
  | 0, i, h, j, h1, h2 => absurd h2 (by omega)
  | n + 1, i, h, j, h1, h2 => by
    unfold rankScan at h
    by_cases c1 : rd R (i : Int) < 0
    · rw [if_pos c1] at h; omega
    · rw [if_neg c1] at h
      by_cases c2 : rankDup R i = true
      · rw [if_pos c2] at h; omega
      · rw [if_neg c2] at h
        by_cases q : j = i
        · subst q; simpa using c2
        · exact scan_zero R n (i + 1) h j (by omega) (by omega)
theorem dup_ne {R : List Int} {i j : Nat} (h : rankDup R i = false) (hj : j < i) (hp : rd R (i : Int) > 0) : rd R (j : Int) ≠ rd R (i : Int) := fun e => by
  rw [rankDup_true hj hp e] at h
  cases h
theorem ranks_one {a o : Int} {R : List Int} (hv : ranksV a R = 0) (ha : 1 ≤ a ∧ a ≤ 6) (ho : 1 ≤ o ∧ o ≤ 6) : 1 ≤ rd R a ∧ (rd R o = rd R a → o = a) := by
  unfold ranksV at hv
  by_cases c0 : rd R 0 = 0
  · rw [if_pos c0] at hv
    by_cases c1 : rd R a < 1
    · rw [if_pos c1] at hv; omega
    · rw [if_neg c1] at hv
      refine ⟨by omega, fun e => ?_⟩
      have hz := scan_zero R 7 0 hv
      have ea : ((a.toNat : Nat) : Int) = a := by omega
      have eo : ((o.toNat : Nat) : Int) = o := by omega
      rcases Int.lt_trichotomy o a with q | q | q
      · have := dup_ne (i := a.toNat) (j := o.toNat) (hz a.toNat (by omega) (by omega)) (by omega) (by rw [ea]; omega)
        rw [ea, eo] at this
        exact absurd e this
      · exact q
      · have := dup_ne (i := o.toNat) (j := a.toNat) (hz o.toNat (by omega) (by omega)) (by omega) (by rw [eo]; omega)
        rw [ea, eo] at this
        exact absurd e.symm this
  · rw [if_neg c0] at hv; omega

/-- Whether some number of one is below another one's, from a place on. -/
def anyLt (x y : List Int) : Nat → Nat → Bool
  | 0, _ => false
  | d + 1, i => if rd x (i : Int) < rd y (i : Int) then true else anyLt x y d (i + 1)
theorem lower_l0 (x y : List Int) (hx : x.length ≤ 1000) (hy : x.length = y.length) : ∀ (d i : Nat), i + d = x.length → Ev (fun k => policy_Lower.l0 k x y (x.length : Int) (i : Int)) (anyLt x y d i)
  | 0, i, h => Ev.step (f := fun _ => _) (fun k => by simp only [policy_Lower.l0]; rw [if_neg (by omega)]; rfl) (Ev.now _)
  | d + 1, i, h => by
    have e1 := nx (i := i) (by omega)
    unfold anyLt
    by_cases c : rd x (i : Int) < rd y (i : Int)
    · rw [if_pos c]
      exact Ev.step (f := fun _ => _) (fun k => by simp only [policy_Lower.l0]; rw [if_pos (by omega), if_pos (by omega), if_pos (by omega), if_pos (by omega), if_pos c]) (Ev.now _)
    · rw [if_neg c]
      exact Ev.step (fun k => by simp only [policy_Lower.l0]; rw [if_pos (by omega), if_pos (by omega), if_pos (by omega), if_pos (by omega), if_neg c, e1.out]) (lower_l0 x y hx hy d (i + 1) (by omega))
/-- Whether some cost is lower, both of one algorithm. -/
def lowV (a b c d e b' c' d' e' : Int) : Bool := if a = 5 then decide (b < b') else if a = 6 then decide (b < b' ∨ e < e') else decide (b < b' ∨ c < c' ∨ d < d' ∨ e < e')
theorem rlower_f (a b c d e b' c' d' e' : Int) : pestleref46_Lower.f a b c d e a b' c' d' e' = some (lowV a b c d e b' c' d' e') := by
  unfold pestleref46_Lower.f lowV
  by_cases c0 : b < b'
  · rw [if_pos c0, decide_eq_true c0, decide_eq_true (Or.inl c0), decide_eq_true (Or.inl c0)]
    split
    · rfl
    · split <;> rfl
  · rw [if_neg c0]
    by_cases c5 : a = 5
    · rw [if_pos c5, if_pos c5, decide_eq_false c0]
    · rw [if_neg c5, if_neg c5]
      by_cases c6 : a = 6
      · rw [if_pos c6, if_pos c6]
        by_cases q : e < e'
        · rw [decide_eq_true q, decide_eq_true (Or.inr q)]
        · rw [decide_eq_false q, decide_eq_false (by omega)]
      · rw [if_neg c6, if_neg c6]
        by_cases q1 : c < c'
        · rw [if_pos q1, decide_eq_true (Or.inr (Or.inl q1))]
        · rw [if_neg q1]
          by_cases q2 : d < d'
          · rw [if_pos q2, decide_eq_true (Or.inr (Or.inr (Or.inl q2)))]
          · rw [if_neg q2]
            by_cases q : e < e'
            · rw [decide_eq_true q, decide_eq_true (Or.inr (Or.inr (Or.inr q)))]
            · rw [decide_eq_false q, decide_eq_false (by omega)]
theorem mn_self (n : Int) : mn n n = n := by unfold mn; split <;> omega
/-- An algorithm's numbers. -/
def costsOf (a b c d e : Int) : List Int := if a = 5 then [b] else if a = 6 then [b, e] else [b, c, d, e]
theorem costs_f (a b c d e : Int) (ha : 1 ≤ a ∧ a ≤ 6) : policy_Costs.f a b c d e = some (costsOf a b c d e) := by
  unfold policy_Costs.f costsOf
  rw [argon_f, Option.bind_some]
  by_cases c1 : 1 ≤ a ∧ a ≤ 3
  · rw [decide_eq_true c1, if_pos rfl, if_neg (by omega), if_neg (by omega)]
  · rw [decide_eq_false c1, if_neg (by decide)]
    by_cases c4 : a = 4
    · rw [if_pos c4, if_neg (by omega), if_neg (by omega)]
    · rw [if_neg c4]
      by_cases c5 : a = 5
      · rw [if_pos c5, if_pos c5]
      · rw [if_neg c5, if_neg c5, if_pos (by omega), if_pos (by omega)]
theorem lower_f (a b c d e b' c' d' e' : Int) (ha : 1 ≤ a ∧ a ≤ 6) : Ev (fun k => policy_Lower.f k a b c d e a b' c' d' e') (lowV a b c d e b' c' d' e') := by
  have h : ∀ x y : List Int, x.length ≤ 1000 → x.length = y.length → costsOf a b c d e = x → costsOf a b' c' d' e' = y → Ev (fun k => policy_Lower.f k a b c d e a b' c' d' e') (anyLt x y x.length 0) := fun x y h1 h2 h3 h4 => by
    refine Ev.congr (fun k => ?_) (lower_l0 x y h1 h2 x.length 0 (by omega))
    unfold policy_Lower.f
    rw [costs_f a b c d e ha, Option.bind_some, costs_f a b' c' d' e' ha, Option.bind_some, h3, h4, ← h2, mn_self]
    rfl
  unfold lowV
  by_cases c5 : a = 5
  · rw [if_pos c5]
    have g := h [b] [b'] (by simp) rfl (by unfold costsOf; rw [if_pos c5]) (by unfold costsOf; rw [if_pos c5])
    have e1 : anyLt [b] [b'] 1 0 = decide (b < b') := by
      show (if b < b' then true else false) = _
      by_cases q : b < b'
      · rw [if_pos q, decide_eq_true q]
      · rw [if_neg q, decide_eq_false q]
    rw [← e1]
    exact g
  · rw [if_neg c5]
    by_cases c6 : a = 6
    · rw [if_pos c6]
      have g := h [b, e] [b', e'] (by simp) rfl (by unfold costsOf; rw [if_neg c5, if_pos c6]) (by unfold costsOf; rw [if_neg c5, if_pos c6])
      have e1 : anyLt [b, e] [b', e'] 2 0 = decide (b < b' ∨ e < e') := by
        show (if b < b' then true else if e < e' then true else false) = _
        by_cases q : b < b'
        · rw [if_pos q, decide_eq_true (Or.inl q)]
        · rw [if_neg q]
          by_cases q2 : e < e'
          · rw [if_pos q2, decide_eq_true (Or.inr q2)]
          · rw [if_neg q2, decide_eq_false (by omega)]
      rw [← e1]
      exact g
    · rw [if_neg c6]
      have g := h [b, c, d, e] [b', c', d', e'] (by simp) rfl (by unfold costsOf; rw [if_neg c5, if_neg c6]) (by unfold costsOf; rw [if_neg c5, if_neg c6])
      have e1 : anyLt [b, c, d, e] [b', c', d', e'] 4 0 = decide (b < b' ∨ c < c' ∨ d < d' ∨ e < e') := by
        show (if b < b' then true else if c < c' then true else if d < d' then true else if e < e' then true else false) = _
        by_cases q : b < b'
        · rw [if_pos q, decide_eq_true (Or.inl q)]
        · rw [if_neg q]
          by_cases q2 : c < c'
          · rw [if_pos q2, decide_eq_true (Or.inr (Or.inl q2))]
          · rw [if_neg q2]
            by_cases q3 : d < d'
            · rw [if_pos q3, decide_eq_true (Or.inr (Or.inr (Or.inl q3)))]
            · rw [if_neg q3]
              by_cases q4 : e < e'
              · rw [if_pos q4, decide_eq_true (Or.inr (Or.inr (Or.inr q4)))]
              · rw [if_neg q4, decide_eq_false (by omega)]
      rw [← e1]
      exact g

/-- Whether parameters are behind a policy, both of which may be. -/
def behV (a b c d e : Int) (R : List Int) (o b' c' d' e' : Int) : Bool := if rd R o = rd R a then lowV a b' c' d' e' b c d e else decide (rd R o < rd R a)
theorem behind_f (a b c d e s r0 r1 r2 r3 r4 r5 r6 o b' c' d' e' : Int) :
    Ev (fun k => policy_Behind.f k a b c d e s r0 r1 r2 r3 r4 r5 r6 o b' c' d' e')
      (if checkV a b c d e s [r0, r1, r2, r3, r4, r5, r6] = 0 then (if whyP o b' c' d' e' = 0 then (behV a b c d e [r0, r1, r2, r3, r4, r5, r6] o b' c' d' e', 0) else (false, whyP o b' c' d' e')) else (false, checkV a b c d e s [r0, r1, r2, r3, r4, r5, r6])) := by
  have hc := check_f a b c d e s r0 r1 r2 r3 r4 r5 r6
  have hp := params_f o b' c' d' e'
  refine Ev.bind hc ?_
  by_cases q : checkV a b c d e s [r0, r1, r2, r3, r4, r5, r6] = 0
  · rw [if_pos q]
    refine Ev.congr (fun k => if_pos q) (Ev.bind hp ?_)
    by_cases q2 : whyP o b' c' d' e' = 0
    · rw [if_pos q2]
      refine Ev.congr (fun k => if_pos q2) ?_
      have q1 : whyP a b c d e = 0 := by
        unfold checkV at q
        by_cases z : whyP a b c d e = 0
        · exact z
        · rw [if_neg z] at q; exact absurd q z
      have hv : ranksV a [r0, r1, r2, r3, r4, r5, r6] = 0 := by
        unfold checkV at q
        rw [if_pos q1] at q
        by_cases z : (a = 5 ∧ s ≠ 16) ∨ s < 8 ∨ s > 64
        · rw [if_pos z] at q; omega
        · rw [if_neg z] at q; exact q
      have ga := whyP_zero q1
      have go := whyP_zero q2
      obtain ⟨k1, k2⟩ := ranks_one hv ga go
      unfold behV
      generalize [r0, r1, r2, r3, r4, r5, r6] = R at *
      unfold behindP
      by_cases c1 : rd R o < rd R a
      · rw [if_neg (by omega), decide_eq_true c1]
        exact Ev.congr (f := fun _ => _) (fun k => by rw [if_pos (by omega), if_pos (by omega), if_pos (by omega), if_pos (by omega), if_pos c1]) (Ev.now _)
      · by_cases c2 : rd R o = rd R a
        · rw [if_pos c2]
          obtain rfl := k2 c2
          refine Ev.congr (fun k => by rw [if_pos (by omega), if_pos (by omega), if_pos (by omega), if_pos (by omega), if_neg c1, if_pos c2]) (Ev.bind (lower_f o b' c' d' e' b c d e ga) (Ev.now _))
        · rw [if_neg c2, decide_eq_false c1]
          exact Ev.congr (f := fun _ => _) (fun k => by rw [if_pos (by omega), if_pos (by omega), if_pos (by omega), if_pos (by omega), if_neg c1, if_neg c2]) (Ev.now _)
    · rw [if_neg q2]
      exact Ev.congr (f := fun _ => _) (fun k => if_neg q2) (Ev.now _)
  · rw [if_neg q]
    exact Ev.congr (f := fun _ => _) (fun k => if_neg q) (Ev.now _)
theorem check_zero {a b c d e s : Int} {R : List Int} (q : checkV a b c d e s R = 0) : whyP a b c d e = 0 ∧ ranksV a R = 0 := by
  unfold checkV at q
  by_cases z : whyP a b c d e = 0
  · rw [if_pos z] at q
    by_cases z2 : (a = 5 ∧ s ≠ 16) ∨ s < 8 ∨ s > 64
    · rw [if_pos z2] at q; omega
    · rw [if_neg z2] at q; exact ⟨z, q⟩
  · rw [if_neg z] at q; exact absurd q z
theorem rbehind_f (a b c d e s r0 r1 r2 r3 r4 r5 r6 o b' c' d' e' : Int) (q : checkV a b c d e s [r0, r1, r2, r3, r4, r5, r6] = 0) (q2 : whyP o b' c' d' e' = 0) :
    pestleref46_Behind.f a b c d e s r0 r1 r2 r3 r4 r5 r6 o b' c' d' e' = some (behV a b c d e [r0, r1, r2, r3, r4, r5, r6] o b' c' d' e') := by
  obtain ⟨q1, hv⟩ := check_zero q
  have ga := whyP_zero q1
  have go := whyP_zero q2
  obtain ⟨k1, k2⟩ := ranks_one hv ga go
  unfold pestleref46_Behind.f behindR behV
  generalize [r0, r1, r2, r3, r4, r5, r6] = R at *
  rw [if_pos (by omega), if_pos (by omega), if_pos (by omega), if_pos (by omega)]
  by_cases c2 : rd R o = rd R a
  · rw [if_pos c2, if_pos c2]
    obtain rfl := k2 c2
    exact rlower_f o b' c' d' e' b c d e
  · rw [if_neg c2, if_neg c2]
end Go.Proofs.Ytdieefjolkhmpaa.PPoPol
