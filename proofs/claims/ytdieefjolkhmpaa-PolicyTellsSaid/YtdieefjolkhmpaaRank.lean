/- What the ranking of seven ranks comes to: plain lemmas. -/
import Derived.Test.YtdieefjolkhmpaaOwn
set_option linter.unusedSimpArgs false
set_option linter.unusedVariables false
namespace Go.Proofs.Ytdieefjolkhmpaa.Own
open Go.RowKit Go.Proofs.YtdieefjolkhmpaaW.PrintWords

/-- One stands rankAhead of another one. -/
def rankAhead (R : List Int) (a b : Int) : Prop := rd R b < rd R a ∨ (rd R a = rd R b ∧ a < b)
/-- How many of 1 to a are ranked. -/
def cntTo (R : List Int) : Nat → Nat
  | 0 => 0
  | a + 1 => cntTo R a + if rd R ((a + 1 : Nat) : Int) < 1 then 0 else 1
theorem ranked_len (R : List Int) : ∀ (n a : Nat) (out : List Int), (rankedFrom R n (a + 1) out).length + cntTo R a = out.length + cntTo R (a + n)
  | 0, a, out => by simp [rankedFrom]
  | n + 1, a, out => by
    have h := ranked_len R n (a + 1) (if rd R ((a + 1 : Nat) : Int) < 1 then out else insRank R out ((a + 1 : Nat) : Int))
    rw [show a + (n + 1) = a + 1 + n by omega]
    simp only [rankedFrom]
    simp only [cntTo] at h
    by_cases c : rd R ((a + 1 : Nat) : Int) < 1
    · rw [if_pos c] at h ⊢
      rw [if_pos c] at h
      omega
    · rw [if_neg c] at h ⊢
      rw [if_neg c, insRank_len] at h
      omega
/-- From the place on all ranks are lower; the one rankAhead of it is not. -/
theorem insPos_spec (R out : List Int) (alg : Int) : ∀ n : Nat, (∀ j : Nat, insPos R out alg n ≤ j → j < n → rd R (rd out (j : Int)) < rd R alg) ∧ (0 < insPos R out alg n → rd R alg ≤ rd R (rd out ((insPos R out alg n - 1 : Nat) : Int)))
  | 0 => ⟨fun j _ h => absurd h (by omega), fun h => absurd h (by simp [insPos])⟩
  | n + 1 => by
    simp only [insPos]
    by_cases c : rd R (rd out (n : Int)) < rd R alg
    · rw [if_pos c]
      obtain ⟨h1, h2⟩ := insPos_spec R out alg n
      refine ⟨fun j hj hn => ?_, h2⟩
      by_cases q : j = n
      · rw [q]; exact c
      · exact h1 j hj (by omega)
    · rw [if_neg c]
      exact ⟨fun j hj hn => absurd hj (by omega), fun _ => by rw [Nat.add_sub_cancel]; omega⟩
theorem rd_get (l : List Int) (i : Nat) (h : i < l.length) : rd l (i : Int) = l[i] := by
  unfold rd
  rw [Int.toNat_natCast, List.getD_eq_getElem?_getD, List.getElem?_eq_getElem h]
  rfl
theorem insRank_sorted (R out : List Int) (alg : Int) (hs : out.Pairwise (rankAhead R)) (hl : ∀ x, x ∈ out → x < alg) : (insRank R out alg).Pairwise (rankAhead R) := by
  obtain ⟨h1, h2⟩ := insPos_spec R out alg out.length
  have hp := insPos_le R out alg out.length
  unfold insRank
  generalize insPos R out alg out.length = p at *
  rw [List.pairwise_append]
  refine ⟨hs.sublist (List.take_sublist _ _), ?_, ?_⟩
  · rw [List.pairwise_cons]
    refine ⟨fun b hb => ?_, hs.sublist (List.drop_sublist _ _)⟩
    obtain ⟨i, hi, rfl⟩ := List.mem_iff_getElem.1 hb
    rw [List.length_drop] at hi
    rw [List.getElem_drop]
    have := h1 (p + i) (by omega) (by omega)
    rw [rd_get out (p + i) (by omega)] at this
    exact Or.inl this
  · intro a ha b hb
    obtain ⟨i, hi, rfl⟩ := List.mem_iff_getElem.1 ha
    rw [List.length_take] at hi
    rw [List.getElem_take]
    have hlast := h2 (by omega)
    rw [rd_get out (p - 1) (by omega)] at hlast
    have hge : rd R out[p - 1] ≤ rd R (out[i]'(by omega)) := by
      by_cases q : i = p - 1
      · subst q; exact Int.le_refl _
      · have := List.pairwise_iff_getElem.1 hs i (p - 1) (by omega) (by omega) (by omega)
        rcases this with z | z
        · omega
        · omega
    rcases List.mem_cons.1 hb with rfl | hb
    · have := hl _ (List.getElem_mem (show i < out.length by omega))
      by_cases q : rd R (out[i]'(by omega)) = rd R b
      · exact Or.inr ⟨q, this⟩
      · exact Or.inl (by omega)
    · obtain ⟨j, hj, rfl⟩ := List.mem_iff_getElem.1 hb
      rw [List.length_drop] at hj
      rw [List.getElem_drop]
      exact List.pairwise_iff_getElem.1 hs i (p + j) (by omega) (by omega) (by omega)
theorem ranked_all (R : List Int) : ∀ (n a : Nat) (out : List Int), a + n ≤ 6 → out.Pairwise (rankAhead R) → (∀ x, x ∈ out → 1 ≤ x ∧ x < ((a + 1 : Nat) : Int) ∧ 1 ≤ rd R x) →
    (rankedFrom R n (a + 1) out).Pairwise (rankAhead R) ∧ ∀ x, x ∈ rankedFrom R n (a + 1) out → 1 ≤ x ∧ x < 7 ∧ 1 ≤ rd R x
  | 0, a, out, ha, hs, hx => ⟨hs, fun x h => by have := hx x h; omega⟩
  | n + 1, a, out, ha, hs, hx => by
    simp only [rankedFrom]
    refine ranked_all R n (a + 1) _ (by omega) ?_ ?_
    · split
      · exact hs
      · exact insRank_sorted R out _ hs (fun x h => (hx x h).2.1)
    · split
      · intro x h
        have := hx x h
        omega
      · rename_i c
        intro x h
        unfold insRank at h
        rcases List.mem_append.1 h with h | h
        · have := hx x (List.mem_of_mem_take h)
          omega
        · rcases List.mem_cons.1 h with rfl | h
          · exact ⟨by omega, by omega, by omega⟩
          · have := hx x (List.mem_of_mem_drop h)
            omega
/-- What the seven ranks' ranking is. -/
theorem ranked_facts (R : List Int) : (rankedFrom R 6 1 []).length = cntTo R 6 ∧ (∀ x, x ∈ rankedFrom R 6 1 [] → 1 ≤ x ∧ x < 7 ∧ 1 ≤ rd R x) ∧
    (∀ i : Nat, 0 < i → i < (rankedFrom R 6 1 []).length → rankAhead R (rd (rankedFrom R 6 1 []) ((i - 1 : Nat) : Int)) (rd (rankedFrom R 6 1 []) (i : Int))) := by
  have h1 := ranked_len R 6 0 []
  obtain ⟨h2, h3⟩ := ranked_all R 6 0 [] (by omega) List.Pairwise.nil (fun x h => by simp at h)
  have h2' : (rankedFrom R 6 1 []).Pairwise (rankAhead R) := h2
  refine ⟨by simpa [cntTo] using h1, h3, fun i h0 hi => ?_⟩
  rw [rd_get _ (i - 1) (by omega), rd_get _ i hi]
  exact List.pairwise_iff_getElem.1 h2' (i - 1) i (by omega) hi (by omega)
end Go.Proofs.Ytdieefjolkhmpaa.Own
