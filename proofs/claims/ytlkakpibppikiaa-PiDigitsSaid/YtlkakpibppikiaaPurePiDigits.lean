/- Each digit of pi that the program looks up is the one that it reckons, and the one that the reference reckons, at every place; at a place that is none both tell so. -/
import Derived.Test.YtlkakpibppikiaaPiSeries
namespace Go.Proofs.Ytlkakpibppikiaa.Pure
open Go.RowKit Go.Proofs.Ytlkakpibppikiaa.PPi Go.Proofs.YtlkakpibppikiaaW.PrintWords Go.Proofs.YtlkakpibppikiaaW.PrintLast
open Go.Proofs.Ytlkakpibppikiaa.PiLoops Go.Proofs.Ytlkakpibppikiaa.PiMath Go.Proofs.Ytlkakpibppikiaa.PiSeries
attribute [local irreducible] IntKind.wrap

theorem radd_mod (S a : Nat) (hS : S < 1152921504606846976) (ha : a ≤ 1152921504606846976) : Int.tmod (IntKind.u64.wrap ((S : Int) + (a : Int))) 1152921504606846976 = (((S + a) % 1152921504606846976 : Nat) : Int) := by
  rw [u64w (by omega) (by omega)]
  have := tmod_cast (S + a) 1152921504606846976
  rw [← this, Int.natCast_add]
  rfl
theorem rden (x j : Nat) (hx : x ≤ 9000) (hj : j ≤ 6) : IntKind.u64.wrap (wrap64 (wrap64 (8 * (x : Int)) + (j : Int))) = ((8 * x + j : Nat) : Int) := by
  rw [w64 (n := 8 * (x : Int)) (by omega) (by omega), w64 (by omega) (by omega), u64w (by omega) (by omega)]
  omega
def lf (i : Nat) : Nat := if i < 15 then 2 ^ (4 * (15 - 1 - i)) else 0
theorem lf_le (i : Nat) : lf i ≤ 2 ^ 56 := by
  unfold lf
  split
  · exact Nat.pow_le_pow_right (by decide) (by omega)
  · exact Nat.zero_le _
theorem lf_next (i : Nat) (h : i < 15) : IntKind.u64.wrap (Int.tdiv (lf i : Int) 16) = (lf (i + 1) : Int) := by
  have hl := lf_le i
  have e := tdiv_cast (lf i) 16
  rw [show Int.tdiv (lf i : Int) 16 = ((lf i / 16 : Nat) : Int) from e, u64w (by omega) (by omega)]
  have : lf i / 16 = lf (i + 1) := by
    unfold lf
    rw [if_pos h]
    by_cases c : i + 1 < 15
    · rw [if_pos c, show 4 * (15 - 1 - i) = 4 * (15 - 1 - (i + 1)) + 4 by omega, Nat.pow_add]
      exact Nat.mul_div_cancel _ (by decide)
    · rw [if_neg c, show 4 * (15 - 1 - i) = 0 by omega]
  rw [this]

theorem rseries_l1 (n j : Nat) (hn : n ≤ 8335) (hj : 0 < j) (hj2 : j ≤ 6) : ∀ d i k S : Nat, i + d = 15 → d < k → S < 1152921504606846976 →
    pestleref09_series.l1 k (j : Int) (S : Int) (lf i : Int) ((n + 1 + i : Nat) : Int) = some (((S + sumTo (fun q => U 15 n j (i + q)) d) % 1152921504606846976 : Nat) : Int) := by
  intro d
  induction d with
  | zero =>
    intro i k S hi hk hS
    obtain ⟨k, rfl⟩ : ∃ q, k = q + 1 := ⟨k - 1, by omega⟩
    simp only [pestleref09_series.l1, sumTo]
    rw [if_neg (by unfold lf; rw [if_neg (by omega)]; omega), Nat.add_zero, Nat.mod_eq_of_lt hS]
  | succ d ih =>
    intro i k S hi hk hS
    obtain ⟨k, rfl⟩ : ∃ q, k = q + 1 := ⟨k - 1, by omega⟩
    have ih' := ih (i + 1) k ((S + U 15 n j i) % 1152921504606846976) (by omega) (by omega) (Nat.mod_lt _ (by decide))
    rw [add_mod_left, ← sum_left (U 15 n j)] at ih'
    rw [← ih']
    have hlf : lf i = 2 ^ (4 * (15 - 1 - i)) := by unfold lf; rw [if_pos (by omega)]
    have hU : U 15 n j i ≤ 1152921504606846976 := by
      have h1 := lf_le i
      have h2 : U 15 n j i ≤ 2 ^ (4 * (15 - 1 - i)) := Nat.div_le_self _ _
      rw [← hlf] at h2
      omega
    have eU : IntKind.u64.wrap (Int.tdiv (lf i : Int) ((8 * (n + 1 + i) + j : Nat) : Int)) = ((U 15 n j i : Nat) : Int) := by
      rw [tdiv_cast, hlf]
      exact u64w (Int.natCast_nonneg _) (Int.ofNat_lt.2 (Nat.lt_of_le_of_lt hU (by decide)))
    have c1 : (lf i : Int) > 0 := by rw [hlf]; exact Int.ofNat_lt.2 (Nat.pow_pos (by decide))
    have c3 : ¬ ((8 * (n + 1 + i) + j : Nat) : Int) = 0 := by clear hU eU c1 hlf ih' ih; omega
    simp only [pestleref09_series.l1]
    rw [if_pos c1, rden _ _ (by omega) hj2, if_neg c3, eU, radd_mod S _ hS hU, lf_next i (by omega), next64 _ (by omega)]
    rfl

theorem rseries_l0 (n j : Nat) (hn : n ≤ 8335) (hj : 0 < j) (hj2 : j ≤ 6) : ∀ d i k S : Nat, i + d = n + 1 → d + n + 100 ≤ k → S < 1152921504606846976 →
    pestleref09_series.l0 k (n : Int) (j : Int) (S : Int) (i : Int) = some (((S + (sumTo (fun q => T 60 n j (i + q)) d + sumTo (U 15 n j) 15)) % 1152921504606846976 : Nat) : Int) := by
  intro d
  induction d with
  | zero =>
    intro i k S hi hk hS
    obtain ⟨k, rfl⟩ : ∃ q, k = q + 1 := ⟨k - 1, by omega⟩
    have h := rseries_l1 n j hn hj hj2 15 0 k S (by omega) (by omega) hS
    have e1 : sumTo (fun q => U 15 n j (0 + q)) 15 = sumTo (U 15 n j) 15 := sumTo_congr _ (fun q _ => by rw [Nat.zero_add])
    rw [e1] at h
    simp only [pestleref09_series.l0]
    rw [show sumTo (fun q => T 60 n j (i + q)) 0 = 0 from rfl, Nat.zero_add, if_neg (by omega), next64 _ (by omega)]
    exact h
  | succ d ih =>
    intro i k S hi hk hS
    obtain ⟨k, rfl⟩ : ∃ q, k = q + 1 := ⟨k - 1, by omega⟩
    have ih' := ih (i + 1) k ((S + T 60 n j i) % 1152921504606846976) (by omega) (by omega) (Nat.mod_lt _ (by decide))
    rw [add_mod_left, ← Nat.add_assoc (T 60 n j i), ← sum_left (T 60 n j)] at ih'
    rw [← ih']
    have hm : 0 < 8 * i + j := by omega
    have hp := rpower_f (8 * i + j) hm (by omega) (n - i) k (by omega) (by omega)
    have hd := part_f (8 * i + j) (16 ^ (n - i) % (8 * i + j)) (Nat.mod_lt _ hm) (by omega) k (by omega)
    have hT : T 60 n j i ≤ 1152921504606846976 := by
      unfold T
      have h1 : 16 ^ (n - i) % (8 * i + j) < 8 * i + j := Nat.mod_lt _ hm
      have h2 : 16 ^ (n - i) % (8 * i + j) * 2 ^ 60 / (8 * i + j) ≤ (8 * i + j) * 2 ^ 60 / (8 * i + j) := Nat.div_le_div_right (Nat.mul_le_mul_right _ (Nat.le_of_lt h1))
      rw [Nat.mul_div_cancel_left _ hm] at h2
      exact h2
    have c0 : (i : Int) ≤ (n : Int) := by clear hd hp hT ih ih'; omega
    simp only [pestleref09_series.l0]
    rw [if_pos c0, rden _ _ (by omega) hj2, left64 n i (by omega) (by omega), hp]
    simp only [Option.bind_some]
    rw [hd]
    simp only [Option.bind_some]
    rw [next64 _ (by omega)]
    exact congrArg (fun z => pestleref09_series.l0 k (n : Int) (j : Int) z ((i + 1 : Nat) : Int)) (radd_mod S (T 60 n j i) hS hT)

theorem rseries_f (n j : Nat) (hn : n ≤ 8335) (hj : 0 < j) (hj2 : j ≤ 6) (k : Nat) (hk : 2 * n + 200 ≤ k) : pestleref09_series.f k (n : Int) (j : Int) = some ((G 60 j n % 1152921504606846976 : Nat) : Int) := by
  unfold pestleref09_series.f
  have h := rseries_l0 n j hn hj hj2 (n + 1) 0 k 0 (by omega) (by omega) (by omega)
  have g := G_loops (B := 60) (j := j) (n := n) (t := 15) hj rfl (by omega)
  rw [show (1152921504606846976 : Nat) = 2 ^ 60 from rfl, g]
  rw [Nat.zero_add] at h
  have e1 : sumTo (fun q => T 60 n j (0 + q)) (n + 1) = sumTo (fun k => 16 ^ (n - k) % (8 * k + j) * 2 ^ 60 / (8 * k + j)) (n + 1) := sumTo_congr _ (fun q _ => by rw [Nat.zero_add]; rfl)
  rw [e1] at h
  exact h

theorem rdigit_f (n : Nat) (hn : n ≤ 8335) (k : Nat) (hk : 2 * n + 300 ≤ k) : pestleref09_Digit.f k (n : Int) = some ((dig n : Nat) : Int) := by
  unfold pestleref09_Digit.f
  have h1 := rseries_f n 1 hn (by decide) (by decide) k (by omega)
  have h4 := rseries_f n 4 hn (by decide) (by decide) k (by omega)
  have h5 := rseries_f n 5 hn (by decide) (by decide) k (by omega)
  have h6 := rseries_f n 6 hn (by decide) (by decide) k (by omega)
  rw [show (1 : Int) = ((1 : Nat) : Int) from rfl, h1]
  simp only [Option.bind_some]
  rw [show (4 : Int) = ((4 : Nat) : Int) from rfl, h4]
  simp only [Option.bind_some]
  rw [show (5 : Int) = ((5 : Nat) : Int) from rfl, h5]
  simp only [Option.bind_some]
  rw [show (6 : Int) = ((6 : Nat) : Int) from rfl, h6]
  simp only [Option.bind_some]
  obtain ⟨n1, n2⟩ := near (B := 60) (n := n) (by omega)
  have t := top60 (by omega) n1 n2
  clear h1 h4 h5 h6 n1 n2
  have hd : dig n < 16 := Nat.mod_lt _ (by decide)
  generalize G 60 1 n = g1 at *
  generalize G 60 4 n = g4 at *
  generalize G 60 5 n = g5 at *
  generalize G 60 6 n = g6 at *
  generalize dig n = dd at *
  have e1 : IntKind.u64.wrap (((4 : Nat) : Int) * ((g1 % 1152921504606846976 : Nat) : Int)) = 4 * ((g1 % 1152921504606846976 : Nat) : Int) := u64w (by omega) (by omega)
  have e4 : IntKind.u64.wrap (2 * IntKind.u64.wrap (1152921504606846976 - ((g4 % 1152921504606846976 : Nat) : Int))) = 2 * (1152921504606846976 - ((g4 % 1152921504606846976 : Nat) : Int)) := by
    rw [u64w (n := 1152921504606846976 - ((g4 % 1152921504606846976 : Nat) : Int)) (by omega) (by omega)]
    exact u64w (by omega) (by omega)
  rw [e1, e4]
  generalize hs1 : ((g1 % 1152921504606846976 : Nat) : Int) = s1
  generalize hs4 : ((g4 % 1152921504606846976 : Nat) : Int) = s4
  generalize hs5 : ((g5 % 1152921504606846976 : Nat) : Int) = s5
  generalize hs6 : ((g6 % 1152921504606846976 : Nat) : Int) = s6
  clear e1 e4
  rw [u64w (n := 4 * s1 + 2 * (1152921504606846976 - s4)) (by omega) (by omega)]
  rw [u64w (n := 4 * s1 + 2 * (1152921504606846976 - s4) + 1152921504606846976) (by omega) (by omega)]
  rw [u64w (n := 4 * s1 + 2 * (1152921504606846976 - s4) + 1152921504606846976 - s5) (by omega) (by omega)]
  rw [u64w (n := 4 * s1 + 2 * (1152921504606846976 - s4) + 1152921504606846976 - s5 + 1152921504606846976) (by omega) (by omega)]
  rw [u64w (n := 4 * s1 + 2 * (1152921504606846976 - s4) + 1152921504606846976 - s5 + 1152921504606846976 - s6) (by omega) (by omega)]
  rw [Int.tmod_eq_emod_of_nonneg (by omega), Int.tdiv_eq_ediv_of_nonneg (by omega)]
  have e : (4 * s1 + 2 * (1152921504606846976 - s4) + 1152921504606846976 - s5 + 1152921504606846976 - s6) % 1152921504606846976 = (4 * (g1 : Int) - 2 * g4 - g5 - g6) % 1152921504606846976 := by omega
  rw [e, t, u64w (by omega) (by omega), w64 (by omega) (by omega)]

/-! The text of the digits, read letter by letter. -/
def val (b : UInt8) : Nat := if 97 ≤ b.toNat then b.toNat - 97 + 10 else (b.toNat + 208) % 256
def walkL : List UInt8 → Nat → Bool
  | [], _ => true
  | b :: l, n => Nat.beq (val b) (dig n) && walkL l (n + 1)
theorem walk_all : walkL digits.data.toList 0 = true := by decide +kernel
theorem walk_get : ∀ (l : List UInt8) (n : Nat), walkL l n = true → ∀ (i : Nat) (h : i < l.length), val (l[i]'h) = dig (n + i)
  | [], _, _, _, h => by simp at h
  | b :: l, n, hw, i, h => by
    simp only [walkL, Bool.and_eq_true] at hw
    cases i with
    | zero => exact Nat.eq_of_beq_eq_true hw.1
    | succ i =>
      have := walk_get l (n + 1) hw.2 i (by simpa using h)
      rw [show n + 1 + i = n + (i + 1) by omega] at this
      exact this
theorem value_val (b : UInt8) : pi_value.f (b.toNat : Int) = some (val b : Int) := by
  have := b.toNat_lt
  unfold pi_value.f val
  by_cases c : 97 ≤ b.toNat
  · rw [if_pos (by omega), if_pos c]
    exact congrArg some (by omega)
  · rw [if_neg (by omega), if_neg c]
    exact congrArg some (by omega)
theorem digit_f (n : Nat) (hn : n ≤ 8335) : pi_Digit.f (n : Int) = some (((dig n : Nat) : Int), 0) := by
  have hs : n < digits.size := by rw [digits_size]; omega
  have hl : n < digits.data.toList.length := by simpa using hs
  have h := walk_get _ 0 walk_all n hl
  rw [Nat.zero_add] at h
  unfold pi_Digit.f
  rw [if_neg (by omega), if_neg (by omega)]
  have e : bt digits (n : Int) = (((digits.data.toList[n]'hl).toNat : Nat) : Int) := by
    have := bt_at digits (n : Int) (by simpa using hs)
    rw [← this]
    rfl
  rw [e, value_val, h]
  rfl


theorem words_ok : pi_Word.f 0 = some (608135816, 0) ∧ pi_Word.f 1041 = some (985887462, 0) ∧ dig 0 = 2 := by decide +kernel
theorem awake_ok : pestlelaw09_awake.f = some true := by
  unfold pestlelaw09_awake.f
  rw [words_ok.1]
  simp only [Option.bind_some]
  rw [words_ok.2.1]
  simp only [Option.bind_some]
  have h := digit_f 0 (by omega)
  rw [words_ok.2.2] at h
  rw [show (0 : Int) = ((0 : Nat) : Int) from rfl, h]
  rfl

theorem PiDigits : pestlelaw09_PiDigits.Pure := by
  intro n _
  refine ⟨20000, ?_⟩
  unfold pestlelaw09_PiDigits.f
  rw [awake_ok]
  simp only [Option.bind_some]
  rw [if_pos trivial]
  by_cases c1 : n < 0
  · have e1 : pi_Digit.f n = some (0, 11) := by unfold pi_Digit.f; rw [if_pos c1]
    have e2 : pi_Reckon.f 20000 n = some (0, 11) := by
      unfold pi_Reckon.f
      rw [if_pos c1, show (20000 : Nat) = 19999 + 1 from rfl]
      simp only [pi_Reckon.j0]
      rw [if_pos trivial]
    rw [e1, e2]
    simp only [Option.bind_some]
    rw [if_pos c1, if_pos trivial, if_pos trivial, if_pos trivial]
    rfl
  · by_cases c2 : n > 8335
    · have e1 : pi_Digit.f n = some (0, 11) := by unfold pi_Digit.f; rw [if_neg c1, if_pos (by omega)]
      have e2 : pi_Reckon.f 20000 n = some (0, 11) := by
        unfold pi_Reckon.f
        rw [if_neg c1, decide_eq_true (by omega), show (20000 : Nat) = 19999 + 1 from rfl]
        simp only [pi_Reckon.j0]
        rw [if_pos trivial]
      rw [e1, e2]
      simp only [Option.bind_some]
      rw [if_neg c1, if_pos c2, if_pos trivial, if_pos trivial, if_pos trivial]
      rfl
    · obtain ⟨m, rfl⟩ : ∃ m : Nat, n = (m : Int) := ⟨n.toNat, by omega⟩
      rw [digit_f m (by omega), reckon_f m (by omega) 20000 (by omega)]
      simp only [Option.bind_some]
      rw [if_neg c1, if_neg c2, if_pos trivial, if_pos trivial, if_pos trivial, rdigit_f m (by omega) 20000 (by omega)]
      simp only [Option.bind_some]
      simp
end Go.Proofs.Ytlkakpibppikiaa.Pure
