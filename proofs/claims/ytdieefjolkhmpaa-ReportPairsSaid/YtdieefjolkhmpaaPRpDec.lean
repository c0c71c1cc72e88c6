/- Numbers as digits: what the program's and the reference's functions come to. -/
import Derived.Test.YtdieefjolkhmpaaPRpx10
import Derived.Test.YtdieefjolkhmpaaBase
namespace Go.Proofs.Ytdieefjolkhmpaa.PRpDec
open Go.RowKit Go.Proofs.Ytdieefjolkhmpaa.PRp Go.Proofs.YtdieefjolkhmpaaW.PrintWords Go.Proofs.YtdieefjolkhmpaaW.PrintLast Go.Proofs.YtdieefjolkhmpaaW.PrintMore Go.Proofs.Ytdieefjolkhmpaa.Base
set_option linter.unusedSimpArgs false
set_option linter.unusedVariables false
attribute [local irreducible] IntKind.wrap bt

/-- A digit's letter. -/
def dg (n : Nat) : UInt8 := UInt8.ofNat (48 + n % 10)
/-- A number's digits, the last one first. -/
def rdigs (n : Nat) : List UInt8 := if n < 10 then [dg n] else dg n :: rdigs (n / 10)
/-- A number's digits. -/
def digs (n : Nat) : List UInt8 := (rdigs n).reverse
theorem rdigs_lt {n : Nat} (h : n < 10) : rdigs n = [dg n] := by rw [rdigs, if_pos h]
theorem rdigs_ge {n : Nat} (h : ¬ n < 10) : rdigs n = dg n :: rdigs (n / 10) := by rw [rdigs, if_neg h]
theorem rdigs_len : ∀ (m n : Nat), n < 10 ^ (m + 1) → (rdigs n).length ≤ m + 1
  | 0, n, h => by rw [rdigs_lt (by simpa using h)]; simp
  | m + 1, n, h => by
    by_cases c : n < 10
    · rw [rdigs_lt c]; simp
    · rw [rdigs_ge c, List.length_cons]
      have := rdigs_len m (n / 10) (by rw [Nat.div_lt_iff_lt_mul (by omega), ← Nat.pow_succ]; exact h)
      omega
theorem digs_len {n : Nat} (h : n < 9223372036854775808) : (digs n).length ≤ 19 := by
  rw [digs, List.length_reverse]
  exact rdigs_len 18 n (by omega)
theorem digs_lt {n : Nat} (h : n < 10) : digs n = [dg n] := by rw [digs, rdigs_lt h]; rfl
theorem digs_ge {n : Nat} (h : ¬ n < 10) : digs n = digs (n / 10) ++ [dg n] := by rw [digs, rdigs_ge h, List.reverse_cons]; rfl
theorem rdigs_pos (n : Nat) : 0 < (rdigs n).length := by
  by_cases c : n < 10
  · rw [rdigs_lt c]; simp
  · rw [rdigs_ge c]; simp
theorem digs_pos (n : Nat) : 0 < (digs n).length := by rw [digs, List.length_reverse]; exact rdigs_pos n
theorem dg_num (n : Nat) : (wrap64 (48 + ((n % 10 : Nat) : Int))) % 256 = ((dg n).toNat : Int) := by
  rw [w64 (by omega) (by omega)]
  unfold dg
  rw [UInt8.toNat_ofNat']
  omega

/-- The other way round, the two ends by turns. -/
theorem rev_l1 : ∀ (d : Nat) (m a b : List UInt8), m.length = d → b.length = a.length → a.length + m.length ≤ 1000 →
    Ev (fun k => dec_Text.l1 k ((a ++ (m ++ b)).map fun x : UInt8 => (x.toNat : Int)) (a.length : Int) (((a.length + m.length : Nat) : Int) - 1)) (B (a ++ (m.reverse ++ b))) := by
  intro d
  induction d using Nat.strongRecOn with
  | ind d ih =>
    intro m a b hd hb hm
    by_cases c : m.length < 2
    · have hr : m.reverse = m := by
        cases m with
        | nil => rfl
        | cons x m =>
          cases m with
          | nil => rfl
          | cons y m => simp only [List.length_cons] at c; omega
      rw [hr]
      refine Ev.step (f := fun _ => _) (fun k => ?_) (Ev.now _)
      simp only [dec_Text.l1]
      rw [if_neg (by omega), nums_B]
    · obtain ⟨x, m1, rfl⟩ : ∃ x m1, m = x :: m1 := by
        cases m with
        | nil => simp at c
        | cons x m1 => exact ⟨x, m1, rfl⟩
      obtain ⟨m2, y, rfl⟩ : ∃ m2 y, m1 = m2 ++ [y] := by
        rcases List.eq_nil_or_concat m1 with h | ⟨l, z, h⟩
        · subst h; simp at c
        · exact ⟨l, z, by simpa using h⟩
      simp only [List.length_cons, List.length_append, List.length_nil] at hd hm c
      have ih' := ih m2.length (by omega) m2 (a ++ [y]) (x :: b) rfl (by simp only [List.length_append, List.length_cons, List.length_nil]; omega) (by simp only [List.length_append, List.length_cons, List.length_nil]; omega)
      have e0 : a ++ ((x :: (m2 ++ [y])).reverse ++ b) = a ++ [y] ++ (m2.reverse ++ x :: b) := by simp
      rw [e0]
      have z1 : (wrap64 ((a.length : Int) + 1)) = ((a ++ [y]).length : Int) := by
        rw [w64 (by omega) (by omega)]; simp
      have z2 : wrap64 (((a.length + (x :: (m2 ++ [y])).length : Nat) : Int) - 1 - 1) = (((a ++ [y]).length + m2.length : Nat) : Int) - 1 := by
        simp only [List.length_cons, List.length_append, List.length_nil]
        rw [w64 (by omega) (by omega)]
        omega
      have z3 : ((((a.length + (x :: (m2 ++ [y])).length : Nat) : Int) - 1 : Int).toNat) = a.length + (m2.length + 1) := by
        simp only [List.length_cons, List.length_append, List.length_nil]; omega
      have hl : ((a ++ (x :: (m2 ++ [y]) ++ b)).map fun x : UInt8 => (x.toNat : Int)) = (a.map fun x : UInt8 => (x.toNat : Int)) ++ (x.toNat : Int) :: ((m2.map fun x : UInt8 => (x.toNat : Int)) ++ (y.toNat : Int) :: (b.map fun x : UInt8 => (x.toNat : Int))) := by simp
      have g1 : rd ((a ++ (x :: (m2 ++ [y]) ++ b)).map fun x : UInt8 => (x.toNat : Int)) (a.length : Int) = (x.toNat : Int) := by
        rw [hl]; unfold rd; rw [Int.toNat_natCast]; simp
      have g2 : rd ((a ++ (x :: (m2 ++ [y]) ++ b)).map fun x : UInt8 => (x.toNat : Int)) (((a.length + (x :: (m2 ++ [y])).length : Nat) : Int) - 1) = (y.toNat : Int) := by
        rw [hl]; unfold rd; rw [z3, List.getD_eq_getElem?_getD, List.getElem?_append_right (by rw [List.length_map]; omega), List.length_map, Nat.add_sub_cancel_left, List.getElem?_cons_succ, List.getElem?_append_right (by rw [List.length_map]; omega), List.length_map, Nat.sub_self]; rfl
      have s1 : ((((a ++ (x :: (m2 ++ [y]) ++ b)).map fun x : UInt8 => (x.toNat : Int)).set ((a.length : Int)).toNat (y.toNat : Int)).set ((((a.length + (x :: (m2 ++ [y])).length : Nat) : Int) - 1 : Int).toNat) (x.toNat : Int)) = ((a ++ [y] ++ (m2 ++ x :: b)).map fun x : UInt8 => (x.toNat : Int)) := by
        rw [hl, z3, Int.toNat_natCast, List.set_append_right _ _ (by rw [List.length_map]; exact Nat.le_refl _), List.length_map, Nat.sub_self, List.set_cons_zero, List.set_append_right _ _ (by rw [List.length_map]; omega), List.length_map, Nat.add_sub_cancel_left, List.set_cons_succ, List.set_append_right _ _ (by rw [List.length_map]; omega), List.length_map, Nat.sub_self, List.set_cons_zero]
        simp
      have n1 : (a.length : Int) < ((a.length + (x :: (m2 ++ [y])).length : Nat) : Int) - 1 := by simp only [List.length_cons, List.length_append, List.length_nil]; omega
      have n2 : ((a.length + (x :: (m2 ++ [y])).length : Nat) : Int) - 1 < ((((a ++ (x :: (m2 ++ [y]) ++ b)).map fun x : UInt8 => (x.toNat : Int)).length : Nat) : Int) := by simp only [List.length_map, List.length_cons, List.length_append, List.length_nil]; omega
      refine Ev.step (fun k => ?_) ih'
      simp only [dec_Text.l1]
      rw [if_pos n1, if_pos (by omega), if_pos n2, if_pos (by omega), if_pos (by omega), g1, g2, s1, z1, z2]

theorem text_l0 : ∀ (n : Nat), n < 9223372036854775808 → ∀ (acc : List UInt8) (r : ByteArray), acc.length + (rdigs n).length ≤ 1000 →
    Ev (fun k => dec_Text.l1 k ((acc ++ rdigs n).map fun x : UInt8 => (x.toNat : Int)) 0 (wrap64 ((((acc ++ rdigs n).map fun x : UInt8 => (x.toNat : Int)).length : Int) - 1))) r →
    Ev (fun k => dec_Text.l0 k (n : Int) (acc.map fun x : UInt8 => (x.toNat : Int)) true) r := by
  intro n
  induction n using Nat.strongRecOn with
  | ind n ih =>
    intro hn acc r ha h
    have m1 : Int.tmod (n : Int) 10 = ((n % 10 : Nat) : Int) := tmod_cast n 10
    have m2 : wrap64 (Int.tdiv (n : Int) 10) = ((n / 10 : Nat) : Int) := by rw [show Int.tdiv (n : Int) 10 = ((n / 10 : Nat) : Int) from tdiv_cast n 10, w64 (by omega) (by omega)]
    have c1 : (acc.map fun x : UInt8 => (x.toNat : Int)).length < 140737488355328 := by rw [List.length_map]; omega
    have e1 : ((acc.map fun x : UInt8 => (x.toNat : Int)) ++ [((dg n).toNat : Int)]) = ((acc ++ [dg n]).map fun x : UInt8 => (x.toNat : Int)) := by simp
    by_cases c : n < 10
    · rw [rdigs_lt c] at h
      have d0 : decide (((n / 10 : Nat) : Int) > 0) = false := decide_eq_false (by omega)
      refine Ev.step (f := fun k => dec_Text.l0 k ((n / 10 : Nat) : Int) ((acc ++ [dg n]).map fun x : UInt8 => (x.toNat : Int)) false) (fun k => ?_) ?_
      · simp only [dec_Text.l0]
        rw [if_pos trivial, if_pos c1, m1, m2, dg_num, e1, d0]
      · refine Ev.step (fun k => ?_) h
        simp only [dec_Text.l0]
        rw [if_neg (by decide)]
    · rw [rdigs_ge c, List.length_cons] at ha
      rw [rdigs_ge c] at h
      have d0 : decide (((n / 10 : Nat) : Int) > 0) = true := decide_eq_true (by omega)
      have ih' := ih (n / 10) (by omega) (by omega) (acc ++ [dg n]) r (by simp only [List.length_append, List.length_cons, List.length_nil]; omega)
      rw [List.append_assoc, List.singleton_append] at ih'
      refine Ev.step (f := fun k => dec_Text.l0 k ((n / 10 : Nat) : Int) ((acc ++ [dg n]).map fun x : UInt8 => (x.toNat : Int)) true) (fun k => ?_) (ih' h)
      simp only [dec_Text.l0]
      rw [if_pos trivial, if_pos c1, m1, m2, dg_num, e1, d0]

theorem text_f (n : Nat) (hn : n < 9223372036854775808) : Ev (fun k => dec_Text.f k (n : Int)) (B (digs n)) := by
  have hl := digs_len hn
  rw [digs, List.length_reverse] at hl
  have h := rev_l1 _ (rdigs n) [] [] rfl rfl (by simp only [List.length_nil]; omega)
  have h2 := text_l0 n hn [] (B (digs n)) (by simp only [List.length_nil]; omega) (by
    rw [List.nil_append, List.length_map, w64 (by omega) (by omega)]
    simpa [digs] using h)
  refine Ev.congr (fun k => ?_) h2
  unfold dec_Text.f
  rw [if_neg (by omega)]
  rfl
theorem text_neg {n : Int} (h : n < 0) (k : Nat) : dec_Text.f k n = some ⟨#[]⟩ := by unfold dec_Text.f; rw [if_pos h]

theorem letter_cut : ∀ d : Nat, d < 10 → (⟨#[48, 49, 50, 51, 52, 53, 54, 55, 56, 57]⟩ : ByteArray).extract d (d + 1) = B [UInt8.ofNat (48 + d)] := by decide +kernel
theorem rtext_f : ∀ (n : Nat), n < 9223372036854775808 → Ev (fun k => pestleref18_Text.f k (n : Int)) (B (digs n)) := by
  intro n
  induction n using Nat.strongRecOn with
  | ind n ih =>
    intro hn
    have m1 : Int.tmod (n : Int) 10 = ((n % 10 : Nat) : Int) := tmod_cast n 10
    have m2 : wrap64 (Int.tdiv (n : Int) 10) = ((n / 10 : Nat) : Int) := by rw [show Int.tdiv (n : Int) 10 = ((n / 10 : Nat) : Int) from tdiv_cast n 10, w64 (by omega) (by omega)]
    have m3 : wrap64 (((n % 10 : Nat) : Int) + 1) = ((n % 10 + 1 : Nat) : Int) := by rw [w64 (by omega) (by omega)]; omega
    have c := letter_cut (n % 10) (by omega)
    by_cases c0 : n < 10
    · refine Ev.step (f := fun _ => _) (fun k => ?_) (Ev.now _)
      simp only [pestleref18_Text.f]
      rw [if_neg (by omega), m1, if_pos (by omega), m3, if_pos (by omega), if_pos (by omega), if_pos (by omega), Int.toNat_natCast, Int.toNat_natCast, c, digs_lt c0]
      rfl
    · have hl := digs_len (n := n / 10) (by omega)
      refine Ev.step (f := fun k => (pestleref18_Text.f k ((n / 10 : Nat) : Int)).bind fun t => if t.size + (B [dg n]).size ≤ 9223372036854775807 then some (t ++ B [dg n]) else none) (fun k => ?_) ?_
      · simp only [pestleref18_Text.f]
        rw [if_neg (by omega), m1, if_pos (by omega), m3, if_pos (by omega), if_pos (by omega), if_neg (by omega), Int.toNat_natCast, Int.toNat_natCast, c, m2]
        rfl
      · refine Ev.bind (ih (n / 10) (by omega) (by omega)) ?_
        have c2 : (B (digs (n / 10))).size + (B [dg n]).size ≤ 9223372036854775807 := by rw [size_B, size_B]; simp only [List.length_cons, List.length_nil]; omega
        simp only [if_pos c2]
        rw [← B_append, ← digs_ge c0]
        exact Ev.now _
theorem rtext_neg {n : Int} (h : n < 0) (k : Nat) : pestleref18_Text.f (k + 1) n = some ⟨#[]⟩ := by simp only [pestleref18_Text.f]; rw [if_pos h]
end Go.Proofs.Ytdieefjolkhmpaa.PRpDec
