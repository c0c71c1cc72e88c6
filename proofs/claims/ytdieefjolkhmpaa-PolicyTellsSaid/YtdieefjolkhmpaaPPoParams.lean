/- Which parameters may be: the program's and the reference's functions come to the same. -/
import Derived.Test.YtdieefjolkhmpaaPPox6
import Derived.Test.YtdieefjolkhmpaaBase
namespace Go.Proofs.Ytdieefjolkhmpaa.PPoParams
open Go.RowKit Go.Proofs.Ytdieefjolkhmpaa.PPo Go.Proofs.YtdieefjolkhmpaaW.PrintWords Go.Proofs.YtdieefjolkhmpaaW.PrintLast Go.Proofs.YtdieefjolkhmpaaW.PrintMore Go.Proofs.Ytdieefjolkhmpaa.Base
set_option linter.unusedSimpArgs false
set_option linter.unusedVariables false
attribute [local irreducible] IntKind.wrap bt

def ArgOk (b c d e : Int) : Prop := 1 ≤ b ∧ b ≤ 4294967295 ∧ 1 ≤ d ∧ d ≤ 16777215 ∧ c ≤ 4294967295 ∧ 8 * d ≤ c ∧ 4 ≤ e ∧ e ≤ 1024
def ScrOk (b c d e : Int) : Prop := 1 ≤ c ∧ c ≤ 512 ∧ 1 ≤ d ∧ d ≤ 512 ∧ wrap64 (c * d) ≤ 512 ∧ 1 ≤ b ∧ b ≤ 32 ∧ b < wrap64 (16 * c) ∧ 4 ≤ e ∧ e ≤ 1024
def BcOk (b c d e : Int) : Prop := 4 ≤ b ∧ b ≤ 31 ∧ c = 0 ∧ 0 ≤ d ∧ d ≤ 1 ∧ e = 23
def PbOk (b c d e : Int) : Prop := 1 ≤ b ∧ b ≤ 4294967295 ∧ c = 0 ∧ d = 0 ∧ 4 ≤ e ∧ e ≤ 1024
instance (b c d e : Int) : Decidable (ArgOk b c d e) := by unfold ArgOk; infer_instance
instance (b c d e : Int) : Decidable (ScrOk b c d e) := by unfold ScrOk; infer_instance
instance (b c d e : Int) : Decidable (BcOk b c d e) := by unfold BcOk; infer_instance
instance (b c d e : Int) : Decidable (PbOk b c d e) := by unfold PbOk; infer_instance
/-- Why parameters may not be: the error's number. -/
def whyP (a b c d e : Int) : Int :=
  if 1 ≤ a ∧ a ≤ 3 then (if ArgOk b c d e then 0 else 2)
  else if a = 4 then (if ScrOk b c d e then 0 else 2)
  else if a = 5 then (if BcOk b c d e then 0 else 2)
  else if a = 6 then (if PbOk b c d e then 0 else 2)
  else 6
theorem within_f (a l h : Int) : size_Within.f a l h = some (decide (l ≤ a ∧ a ≤ h)) := by
  unfold size_Within.f
  by_cases c : a ≥ l
  · rw [if_pos c]
    by_cases c2 : a ≤ h
    · rw [decide_eq_true c2, decide_eq_true ⟨c, c2⟩]
    · rw [decide_eq_false c2, decide_eq_false (fun z => c2 z.2)]
  · rw [if_neg c, decide_eq_false (fun z => c z.1)]
theorem argon_f (a : Int) : record_Argon.f a = some (decide (1 ≤ a ∧ a ≤ 3)) := by
  unfold record_Argon.f
  rw [within_f, Option.bind_some]

theorem d8 {c d : Int} (hc : 0 ≤ c) (h2 : c ≤ 4294967295) : (wrap64 (Int.tdiv c 8) ≥ d) ↔ 8 * d ≤ c := by
  rw [Int.tdiv_eq_ediv_of_nonneg hc, w64 (by omega) (by omega)]
  omega
/-- How many blocks Argon2's memory is. -/
def blocksOf (c d : Int) : Int := c - c % (4 * d)
theorem shape_f (a b c d e : Int) (ha : 1 ≤ a ∧ a ≤ 3) : ∃ s : Int × Int × Int × Int × Int × Int × Int × Int × Int, Ev (fun k => shape_Of.f k a b c d e) s ∧ s.2.2.2.2.2.2.2.2 = (if ArgOk b c d e then 0 else 2) ∧ (ArgOk b c d e → s.2.2.2.2.1 = blocksOf c d) := by
  have no1 : Ev (fun k => shape_Of.j1 k false a b c d e) (0, 0, 0, 0, 0, 0, 0, 0, 2) := Ev.step (f := fun _ => _) (fun k => by simp only [shape_Of.j1]; rw [if_neg (by decide)]) (Ev.now _)
  have no0 : Ev (fun k => shape_Of.j0 k false a b c d e) (0, 0, 0, 0, 0, 0, 0, 0, 2) := Ev.step (fun k => by simp only [shape_Of.j0]; rw [if_neg (by decide)]) no1
  by_cases c1 : 1 ≤ b ∧ b ≤ 4294967295
  · by_cases c2 : 1 ≤ d ∧ d ≤ 16777215
    · by_cases c3 : 1 ≤ c ∧ c ≤ 4294967295
      · have h8 := d8 (c := c) (d := d) (by omega) c3.2
        by_cases c4 : 8 * d ≤ c
        · by_cases c5 : 4 ≤ e ∧ e ≤ 1024
          · have hok : ArgOk b c d e := by unfold ArgOk; omega
            have e4 : wrap64 (4 * d) = 4 * d := w64 (by omega) (by omega)
            have hm : Int.tmod c (4 * d) = c % (4 * d) := Int.tmod_eq_emod_of_nonneg (by omega)
            have hm1 : 0 ≤ c % (4 * d) := Int.emod_nonneg _ (by omega)
            have hm2 : c % (4 * d) < 4 * d := Int.emod_lt_of_pos _ (by omega)
            have hd : size_Down.f c (4 * d) = some (blocksOf c d, 0) := by
              unfold size_Down.f size_held.f blocksOf
              rw [if_pos (by omega), Option.bind_some, decide_eq_true (by omega), if_pos rfl, if_neg (by omega), if_neg (by omega), hm, w64 (by omega) (by omega)]
            refine ⟨(a, b, d, c, blocksOf c d, wrap64 (Int.tdiv (blocksOf c d) d), wrap64 (Int.tdiv (wrap64 (Int.tdiv (blocksOf c d) d)) 4), e, 0), Ev.congr (f := fun k => shape_Of.j0 k true a b c d e) (fun k => ?_) (Ev.step (f := fun k => shape_Of.j1 k true a b c d e) (fun k => ?_) (Ev.step (f := fun _ => _) (fun k => ?_) (Ev.now _))), ?_, fun _ => ?_⟩
            · unfold shape_Of.f
              rw [within_f, Option.bind_some, decide_eq_true ha, if_pos rfl, within_f, Option.bind_some, decide_eq_true c1]
            · simp only [shape_Of.j0]
              rw [if_pos trivial, within_f, Option.bind_some, decide_eq_true c2, if_pos rfl, within_f, Option.bind_some, decide_eq_true c3]
            · simp only [shape_Of.j1]
              rw [if_pos trivial, if_pos (h8.2 c4), within_f, Option.bind_some, decide_eq_true c5, if_pos rfl, e4, hd, Option.bind_some, if_neg (by omega)]
            · rw [if_pos hok]
            · rfl
          · have hok : ¬ ArgOk b c d e := by unfold ArgOk; omega
            refine ⟨(0, 0, 0, 0, 0, 0, 0, 0, 2), Ev.congr (f := fun k => shape_Of.j0 k true a b c d e) (fun k => ?_) (Ev.step (f := fun k => shape_Of.j1 k true a b c d e) (fun k => ?_) (Ev.step (f := fun _ => _) (fun k => ?_) (Ev.now _))), by rw [if_neg hok], fun h => absurd h hok⟩
            · unfold shape_Of.f
              rw [within_f, Option.bind_some, decide_eq_true ha, if_pos rfl, within_f, Option.bind_some, decide_eq_true c1]
            · simp only [shape_Of.j0]
              rw [if_pos trivial, within_f, Option.bind_some, decide_eq_true c2, if_pos rfl, within_f, Option.bind_some, decide_eq_true c3]
            · simp only [shape_Of.j1]
              rw [if_pos trivial, if_pos (h8.2 c4), within_f, Option.bind_some, decide_eq_false c5, if_neg (by decide)]
        · have hok : ¬ ArgOk b c d e := by unfold ArgOk; omega
          refine ⟨(0, 0, 0, 0, 0, 0, 0, 0, 2), Ev.congr (f := fun k => shape_Of.j0 k true a b c d e) (fun k => ?_) (Ev.step (f := fun k => shape_Of.j1 k true a b c d e) (fun k => ?_) (Ev.step (f := fun _ => _) (fun k => ?_) (Ev.now _))), by rw [if_neg hok], fun h => absurd h hok⟩
          · unfold shape_Of.f
            rw [within_f, Option.bind_some, decide_eq_true ha, if_pos rfl, within_f, Option.bind_some, decide_eq_true c1]
          · simp only [shape_Of.j0]
            rw [if_pos trivial, within_f, Option.bind_some, decide_eq_true c2, if_pos rfl, within_f, Option.bind_some, decide_eq_true c3]
          · simp only [shape_Of.j1]
            rw [if_pos trivial, if_neg (fun z => c4 (h8.1 z))]
      · have hok : ¬ ArgOk b c d e := by unfold ArgOk; omega
        refine ⟨(0, 0, 0, 0, 0, 0, 0, 0, 2), Ev.congr (f := fun k => shape_Of.j0 k true a b c d e) (fun k => ?_) (Ev.step (fun k => ?_) no1), by rw [if_neg hok], fun h => absurd h hok⟩
        · unfold shape_Of.f
          rw [within_f, Option.bind_some, decide_eq_true ha, if_pos rfl, within_f, Option.bind_some, decide_eq_true c1]
        · simp only [shape_Of.j0]
          rw [if_pos trivial, within_f, Option.bind_some, decide_eq_true c2, if_pos rfl, within_f, Option.bind_some, decide_eq_false c3]
    · have hok : ¬ ArgOk b c d e := by unfold ArgOk; omega
      refine ⟨(0, 0, 0, 0, 0, 0, 0, 0, 2), Ev.congr (f := fun k => shape_Of.j0 k true a b c d e) (fun k => ?_) (Ev.step (fun k => ?_) no1), by rw [if_neg hok], fun h => absurd h hok⟩
      · unfold shape_Of.f
        rw [within_f, Option.bind_some, decide_eq_true ha, if_pos rfl, within_f, Option.bind_some, decide_eq_true c1]
      · simp only [shape_Of.j0]
        rw [if_pos trivial, within_f, Option.bind_some, decide_eq_false c2, if_neg (by decide)]
  · have hok : ¬ ArgOk b c d e := by unfold ArgOk; omega
    refine ⟨(0, 0, 0, 0, 0, 0, 0, 0, 2), Ev.congr (fun k => ?_) no0, by rw [if_neg hok], fun h => absurd h hok⟩
    unfold shape_Of.f
    rw [within_f, Option.bind_some, decide_eq_true ha, if_pos rfl, within_f, Option.bind_some, decide_eq_false c1]

theorem scrypt_f (b c d e : Int) : Ev (fun k => scrypt_Check.f k b c d e) (if (1 ≤ c ∧ c ≤ 512 ∧ 1 ≤ d ∧ d ≤ 512 ∧ wrap64 (c * d) ≤ 512 ∧ 1 ≤ b ∧ b ≤ 32 ∧ b < wrap64 (16 * c) ∧ 1 ≤ e ∧ e ≤ 1024) then 0 else 2) := by
  have no : Ev (fun k => scrypt_Check.j0 k b c e false) 2 := Ev.step (f := fun _ => _) (fun k => by simp only [scrypt_Check.j0]; rw [if_neg (by decide)]) (Ev.now _)
  by_cases c1 : 1 ≤ c ∧ c ≤ 512
  · by_cases c2 : 1 ≤ d ∧ d ≤ 512
    · by_cases c3 : wrap64 (c * d) ≤ 512
      · have st : ∀ r, Ev (fun k => scrypt_Check.j0 k b c e true) r → Ev (fun k => scrypt_Check.f k b c d e) r := fun r h => Ev.congr (fun k => by
          unfold scrypt_Check.f
          rw [within_f, Option.bind_some, decide_eq_true c1, if_pos rfl, within_f, Option.bind_some, decide_eq_true c2, if_pos rfl, decide_eq_true c3]) h
        refine st _ (Ev.step (f := fun _ => _) (fun k => ?_) (Ev.now _))
        simp only [scrypt_Check.j0]
        rw [if_pos trivial, within_f, Option.bind_some]
        by_cases c4 : 1 ≤ b ∧ b ≤ 32
        · rw [decide_eq_true c4, if_pos rfl]
          by_cases c5 : b < wrap64 (16 * c)
          · rw [if_pos c5, within_f, Option.bind_some]
            by_cases c6 : 1 ≤ e ∧ e ≤ 1024
            · rw [decide_eq_true c6, if_pos rfl, if_pos ⟨c1.1, c1.2, c2.1, c2.2, c3, c4.1, c4.2, c5, c6.1, c6.2⟩]
            · rw [decide_eq_false c6, if_neg (by decide), if_neg (fun z => c6 ⟨z.2.2.2.2.2.2.2.2.1, z.2.2.2.2.2.2.2.2.2⟩)]
          · rw [if_neg c5, if_neg (fun z => c5 z.2.2.2.2.2.2.2.1)]
        · rw [decide_eq_false c4, if_neg (by decide), if_neg (fun z => c4 ⟨z.2.2.2.2.2.1, z.2.2.2.2.2.2.1⟩)]
      · rw [if_neg (fun z => c3 z.2.2.2.2.1)]
        exact Ev.congr (fun k => by
          unfold scrypt_Check.f
          rw [within_f, Option.bind_some, decide_eq_true c1, if_pos rfl, within_f, Option.bind_some, decide_eq_true c2, if_pos rfl, decide_eq_false c3]) no
    · rw [if_neg (fun z => c2 ⟨z.2.2.1, z.2.2.2.1⟩)]
      exact Ev.congr (fun k => by
        unfold scrypt_Check.f
        rw [within_f, Option.bind_some, decide_eq_true c1, if_pos rfl, within_f, Option.bind_some, decide_eq_false c2, if_neg (by decide)]) no
  · rw [if_neg (fun z => c1 ⟨z.1, z.2.1⟩)]
    exact Ev.congr (fun k => by
      unfold scrypt_Check.f
      rw [within_f, Option.bind_some, decide_eq_false c1, if_neg (by decide)]) no

theorem params_f (a b c d e : Int) : Ev (fun k => record_Params.f k a b c d e) (whyP a b c d e) := by
  unfold whyP
  by_cases h1 : 1 ≤ a ∧ a ≤ 3
  · rw [if_pos h1]
    obtain ⟨s, s1, s2, _⟩ := shape_f a b c d e h1
    refine Ev.congr (fun k => by
      unfold record_Params.f
      rw [argon_f, Option.bind_some, decide_eq_true h1, if_pos rfl]) (Ev.bind s1 ?_)
    rw [← s2]
    exact Ev.now _
  · rw [if_neg h1]
    have st : ∀ r, Ev (fun k => if a = 4 then _ else _) r → Ev (fun k => record_Params.f k a b c d e) r := fun r h => Ev.congr (fun k => by
      unfold record_Params.f
      rw [argon_f, Option.bind_some, decide_eq_false h1, if_neg (by decide)]) h
    refine st _ ?_
    by_cases h4 : a = 4
    · simp only [if_pos h4]
      by_cases c1 : e ≥ 4
      · refine Ev.congr (fun k => if_pos c1) (Ev.bind (scrypt_f b c d e) ?_)
        by_cases c2 : ScrOk b c d e
        · rw [if_pos c2]
          have p : (1 ≤ c ∧ c ≤ 512 ∧ 1 ≤ d ∧ d ≤ 512 ∧ wrap64 (c * d) ≤ 512 ∧ 1 ≤ b ∧ b ≤ 32 ∧ b < wrap64 (16 * c) ∧ 1 ≤ e ∧ e ≤ 1024) := by unfold ScrOk at c2; exact ⟨c2.1, c2.2.1, c2.2.2.1, c2.2.2.2.1, c2.2.2.2.2.1, c2.2.2.2.2.2.1, c2.2.2.2.2.2.2.1, c2.2.2.2.2.2.2.2.1, by omega, c2.2.2.2.2.2.2.2.2.2⟩
          exact Ev.congr (f := fun _ => some 0) (fun k => by rw [if_pos p]; rfl) (Ev.now _)
        · rw [if_neg c2]
          have p : ¬ (1 ≤ c ∧ c ≤ 512 ∧ 1 ≤ d ∧ d ≤ 512 ∧ wrap64 (c * d) ≤ 512 ∧ 1 ≤ b ∧ b ≤ 32 ∧ b < wrap64 (16 * c) ∧ 1 ≤ e ∧ e ≤ 1024) := fun z => c2 (by unfold ScrOk; exact ⟨z.1, z.2.1, z.2.2.1, z.2.2.2.1, z.2.2.2.2.1, z.2.2.2.2.2.1, z.2.2.2.2.2.2.1, z.2.2.2.2.2.2.2.1, by omega, z.2.2.2.2.2.2.2.2.2⟩)
          exact Ev.congr (f := fun _ => some 2) (fun k => by rw [if_neg p]; rfl) (Ev.now _)
      · rw [if_neg (show ¬ ScrOk b c d e by unfold ScrOk; omega)]
        exact Ev.congr (fun k => if_neg c1) (Ev.now _)
    · simp only [if_neg h4]
      by_cases h5 : a = 5
      · simp only [if_pos h5]
        refine Ev.congr (f := fun _ => _) (fun k => ?_) (Ev.now _)
        rw [within_f, Option.bind_some]
        by_cases c1 : 4 ≤ b ∧ b ≤ 31
        · rw [decide_eq_true c1, if_pos rfl]
          by_cases c2 : c = 0
          · rw [if_pos c2, within_f, Option.bind_some]
            by_cases c3 : 0 ≤ d ∧ d ≤ 1
            · rw [decide_eq_true c3, if_pos rfl]
              by_cases c4 : e = 23
              · rw [if_pos c4, if_pos (show BcOk b c d e by unfold BcOk; omega)]
              · rw [if_neg c4, if_neg (show ¬ BcOk b c d e by unfold BcOk; omega)]
            · rw [decide_eq_false c3, if_neg (by decide), if_neg (show ¬ BcOk b c d e by unfold BcOk; omega)]
          · rw [if_neg c2, if_neg (show ¬ BcOk b c d e by unfold BcOk; omega)]
        · rw [decide_eq_false c1, if_neg (by decide), if_neg (show ¬ BcOk b c d e by unfold BcOk; omega)]
      · simp only [if_neg h5]
        by_cases h6 : a = 6
        · simp only [if_pos h6]
          refine Ev.congr (f := fun _ => _) (fun k => ?_) (Ev.now _)
          rw [within_f, Option.bind_some]
          by_cases c1 : 4 ≤ e ∧ e ≤ 1024
          · rw [decide_eq_true c1, if_pos rfl]
            by_cases c2 : c = 0
            · rw [if_pos c2]
              by_cases c3 : d = 0
              · rw [if_pos c3]
                unfold pbkdf_Check.f
                rw [within_f, Option.bind_some]
                by_cases c4 : 1 ≤ b ∧ b ≤ 4294967295
                · rw [decide_eq_true c4, if_pos rfl, within_f, Option.bind_some, decide_eq_true (show 1 ≤ e ∧ e ≤ 65536 by omega), if_pos rfl, if_pos (show PbOk b c d e by unfold PbOk; omega)]
                  rfl
                · rw [decide_eq_false c4, if_neg (by decide), if_neg (show ¬ PbOk b c d e by unfold PbOk; omega)]
                  rfl
              · rw [if_neg c3, if_neg (show ¬ PbOk b c d e by unfold PbOk; omega)]
            · rw [if_neg c2, if_neg (show ¬ PbOk b c d e by unfold PbOk; omega)]
          · rw [decide_eq_false c1, if_neg (by decide), if_neg (show ¬ PbOk b c d e by unfold PbOk; omega)]
        · simp only [if_neg h6]
          exact Ev.now _
end Go.Proofs.Ytdieefjolkhmpaa.PPoParams
