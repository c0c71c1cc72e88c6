/- A call's line read, and a line's call written: the two ways round, over lists of bytes. -/
import Derived.Test.YtdieefjolkhmpaaLineWrite
namespace Go.Proofs.Ytdieefjolkhmpaa.LineBack
open Go.RowKit Go.Proofs.Ytdieefjolkhmpaa.PLi Go.Proofs.YtdieefjolkhmpaaW.PrintWords Go.Proofs.YtdieefjolkhmpaaW.PrintLast Go.Proofs.YtdieefjolkhmpaaW.PrintMore Go.Proofs.Ytdieefjolkhmpaa.Base Go.Proofs.Ytdieefjolkhmpaa.LineParts Go.Proofs.Ytdieefjolkhmpaa.LineRead Go.Proofs.Ytdieefjolkhmpaa.LineWrite
attribute [local irreducible] IntKind.wrap bt

/-- Parts joined, split again. -/
theorem splitA_none (c : UInt8) : ∀ (r q : List UInt8), (∀ x, x ∈ r → x ≠ c) → splitA c q r = [q ++ r]
  | [], q, _ => by simp [splitA]
  | x :: r, q, h => by
    unfold splitA
    rw [if_neg (h x (by simp)), splitA_none c r (q ++ [x]) (fun y hy => h y (by simp [hy]))]
    simp
theorem splitA_to (c : UInt8) : ∀ (r q t : List UInt8), (∀ x, x ∈ r → x ≠ c) → splitA c q (r ++ c :: t) = (q ++ r) :: splitA c [] t
  | [], q, t, _ => by simp [splitA]
  | x :: r, q, t, h => by
    rw [List.cons_append]
    show (if x = c then _ else splitA c (q ++ [x]) (r ++ c :: t)) = _
    rw [if_neg (h x (by simp)), splitA_to c r (q ++ [x]) t (fun y hy => h y (by simp [hy]))]
    simp
theorem split_join (c : UInt8) : ∀ (P : List (List UInt8)), P ≠ [] → (∀ p, p ∈ P → ∀ x, x ∈ p → x ≠ c) → splitA c [] (joinL c P) = P
  | [], h, _ => absurd rfl h
  | [p], _, h => by simp only [joinL]; rw [splitA_none c p [] (h p (by simp))]; simp
  | p :: q :: r, _, h => by
    simp only [joinL]
    rw [splitA_to c p [] _ (h p (by simp)), split_join c (q :: r) (by simp) (fun p' hp => h p' (by simp [hp]))]
    simp
theorem join_head (c : UInt8) (x : UInt8) (p : List UInt8) (r : List (List UInt8)) : x :: joinL c (p :: r) = joinL c ((x :: p) :: r) := by
  rw [joinL_tail, joinL_tail]; rfl
theorem splitA_cons (c : UInt8) (r q : List UInt8) : ∃ p t, splitA c q r = (q ++ p) :: t ∧ joinL c (p :: t) = r := by
  induction r generalizing q with
  | nil => exact ⟨[], [], by simp [splitA], rfl⟩
  | cons x r ih =>
    by_cases hc : x = c
    · obtain ⟨p, t, h1, h2⟩ := ih []
      refine ⟨[], p :: t, ?_, ?_⟩
      · unfold splitA
        rw [if_pos hc, h1]
        simp
      · simp only [joinL, h2, hc, List.nil_append]
    · obtain ⟨p, t, h1, h2⟩ := ih (q ++ [x])
      refine ⟨x :: p, t, ?_, ?_⟩
      · unfold splitA
        rw [if_neg hc, h1]
        simp
      · rw [← join_head, h2]
theorem join_split (c : UInt8) (r : List UInt8) : joinL c (splitA c [] r) = r := by
  obtain ⟨p, t, h1, h2⟩ := splitA_cons c r []
  rw [h1, List.nil_append, h2]

/-- Digits. -/
theorem hexv_hexd : ∀ n : Nat, n < 16 → hexv (hexd n) = (n : Int) := by decide +kernel
theorem hexd_hexv : ∀ n : Nat, n < 256 → 0 ≤ hexv (UInt8.ofNat n) → hexv (UInt8.ofNat n) < 16 ∧ hexd (hexv (UInt8.ofNat n)).toNat = UInt8.ofNat n := by decide +kernel
theorem hexd_v (x : UInt8) (h : 0 ≤ hexv x) : hexv x < 16 ∧ hexd (hexv x).toNat = x := by
  have := hexd_hexv x.toNat x.toNat_lt
  rw [UInt8.ofNat_toNat] at this
  exact this h
theorem hexd_plain : ∀ n : Nat, n < 16 → (33 ≤ (hexd n).toNat ∧ (hexd n).toNat ≤ 126) ∧ hexd n ≠ 45 := by decide +kernel
attribute [local irreducible] hexv hexd
theorem enhex_all : ∀ l x, x ∈ enhex l → 0 ≤ hexv x ∧ (33 ≤ x.toNat ∧ x.toNat ≤ 126) ∧ x ≠ 45
  | [], x, h => by simp [enhex] at h
  | b :: r, x, h => by
    have hb := b.toNat_lt
    simp only [enhex, List.mem_cons] at h
    rcases h with h | h | h
    · rw [h, hexv_hexd _ (by omega)]
      exact ⟨by omega, hexd_plain _ (by omega)⟩
    · rw [h, hexv_hexd _ (by omega)]
      exact ⟨by omega, hexd_plain _ (by omega)⟩
    · exact enhex_all r x h
theorem pairs_enhex : ∀ l, pairsOf (enhex l) = l
  | [] => rfl
  | b :: r => by
    have hb := b.toNat_lt
    simp only [enhex, pairsOf]
    rw [hexv_hexd _ (by omega), hexv_hexd _ (by omega), pairs_enhex r, Int.toNat_natCast, Int.toNat_natCast]
    congr 1
    rw [show 16 * (b.toNat / 16) + b.toNat % 16 = b.toNat by omega, UInt8.ofNat_toNat]
theorem enhex_pairs : ∀ (n : Nat) (l : List UInt8), l.length = 2 * n → (∀ x, x ∈ l → 0 ≤ hexv x) → enhex (pairsOf l) = l
  | 0, l, hl, _ => by obtain rfl := List.eq_nil_of_length_eq_zero (by omega : l.length = 0); rfl
  | n + 1, [], hl, _ => by simp at hl
  | n + 1, [a], hl, _ => by simp at hl; omega
  | n + 1, a :: b :: r, hl, h => by
    simp only [List.length_cons] at hl
    obtain ⟨a1, a2⟩ := hexd_v a (h a (by simp))
    obtain ⟨b1, b2⟩ := hexd_v b (h b (by simp))
    have a0 := h a (by simp)
    have b0 := h b (by simp)
    have e : (UInt8.ofNat (16 * (hexv a).toNat + (hexv b).toNat)).toNat = 16 * (hexv a).toNat + (hexv b).toNat := by
      rw [UInt8.toNat_ofNat']; omega
    simp only [pairsOf, enhex]
    rw [e, show (16 * (hexv a).toNat + (hexv b).toNat) / 16 = (hexv a).toNat by omega, show (16 * (hexv a).toNat + (hexv b).toNat) % 16 = (hexv b).toNat by omega, a2, b2,
      enhex_pairs n r (by omega) (fun x hx => h x (by simp [hx]))]
theorem unhex_enhex (l : List UInt8) : unhex (enhex l) = (l, 0) := by
  have h : (enhex l).all (fun x => decide (0 ≤ hexv x)) = true := by
    rw [List.all_eq_true]
    intro x hx
    exact decide_eq_true (enhex_all l x hx).1
  unfold unhex
  rw [if_pos h, if_pos (by rw [enhex_len]; omega), pairs_enhex]
theorem enhex_unhex (l : List UInt8) (h : (unhex l).2 = 0) : enhex (unhex l).1 = l := by
  unfold unhex at h ⊢
  by_cases c1 : l.all (fun x => decide (0 ≤ hexv x)) = true
  · rw [if_pos c1] at h ⊢
    by_cases c2 : l.length % 2 = 0
    · rw [if_pos c2]
      exact enhex_pairs (l.length / 2) l (by omega) (fun x hx => by rw [List.all_eq_true] at c1; exact of_decide_eq_true (c1 x hx))
    · rw [if_neg c2] at h
      exact absurd h (by decide)
  · rw [if_neg c1] at h
    exact absurd h (by decide)

theorem undash_dash (l : List UInt8) : undash (B (dashL l)) = (B l, 0) := by
  unfold undash
  rw [L_B]
  unfold dashL
  by_cases c : l = []
  · rw [if_pos c, if_pos rfl, c]; rfl
  · rw [if_neg c]
    have c1 : ¬ enhex l = [45] := by
      intro h
      have := (enhex_all l 45 (by rw [h]; simp)).2.2
      exact this rfl
    have c2 : ¬ enhex l = [] := by
      intro h
      have := enhex_len l
      rw [h] at this
      cases l
      · exact c rfl
      · simp only [List.length_nil, List.length_cons] at this; omega
    rw [if_neg c1, if_neg c2, unhex_enhex]
theorem dash_undash (s : ByteArray) (h : (undash s).2 = 0) : dashL (L (undash s).1) = L s := by
  unfold undash at h ⊢
  by_cases c1 : L s = [45]
  · rw [if_pos c1, c1]; rfl
  · rw [if_neg c1] at h ⊢
    by_cases c2 : L s = []
    · rw [if_pos c2] at h
      exact absurd h (by decide)
    · rw [if_neg c2] at h ⊢
      simp only at h ⊢
      have e := enhex_unhex (L s) h
      rw [L_B]
      unfold dashL
      rw [if_neg (fun hn => c2 (by rw [← e, hn]; rfl)), e]
theorem dash_plain (l : List UInt8) : plainB (dashL l) = true := by
  unfold plainB dashL
  by_cases c : l = []
  · rw [if_pos c]; decide
  · rw [if_neg c]
    have c2 : ¬ enhex l = [] := by
      intro h
      have := enhex_len l
      rw [h] at this
      cases l
      · exact c rfl
      · simp only [List.length_nil, List.length_cons] at this; omega
    rw [Bool.and_eq_true]
    constructor
    · rw [List.all_eq_true]
      intro x hx
      exact decide_eq_true (enhex_all l x hx).2.1
    · cases h : enhex l
      · exact absurd h c2
      · rfl
theorem plain_no (l : List UInt8) (h : plainB l = true) (x : UInt8) (hx : x ∈ l) : x ≠ 32 ∧ x ≠ 10 := by
  unfold plainB at h
  rw [Bool.and_eq_true, List.all_eq_true] at h
  have := of_decide_eq_true (h.1 x hx)
  constructor
  · intro e; rw [e] at this; exact absurd this (by decide)
  · intro e; rw [e] at this; exact absurd this (by decide)
end Go.Proofs.Ytdieefjolkhmpaa.LineBack
