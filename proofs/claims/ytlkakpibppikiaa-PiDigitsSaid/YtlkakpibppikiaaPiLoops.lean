/- Lookups, powers and quotients of the printed functions, as plain arithmetic. -/
import Derived.Test.YtlkakpibppikiaaPPix4
import Derived.Laws.Bits64b
namespace Go.Proofs.Ytlkakpibppikiaa.PiLoops
open Go.RowKit Go.Proofs.Ytlkakpibppikiaa.PPi Go.Proofs.YtlkakpibppikiaaW.PrintWords Go.Proofs.YtlkakpibppikiaaW.PrintLast Go.Proofs.YtlkakpibppikiaaW.PrintMore

theorem u64w {n : Int} (h0 : 0 ≤ n) (h1 : n < 18446744073709551616) : IntKind.u64.wrap n = n := by rw [IntKind.wrap_u64]; omega
theorem w64 {n : Int} (h0 : -9223372036854775808 ≤ n) (h1 : n < 9223372036854775808) : wrap64 n = n := by unfold wrap64; omega

attribute [local irreducible] IntKind.wrap

theorem tmod_cast (a b : Nat) : Int.tmod (a : Int) (b : Int) = ((a % b : Nat) : Int) := by
  rw [Int.tmod_eq_emod_of_nonneg (by omega)]; rfl
theorem tdiv_cast (a b : Nat) : Int.tdiv (a : Int) (b : Int) = ((a / b : Nat) : Int) := by
  rw [Int.tdiv_eq_ediv_of_nonneg (by omega)]; rfl
theorem mul_lt {a b c : Nat} (ha : a < c) (hb : b < c) (hc : c ≤ 4294967296) : a * b < 18446744073709551616 := by
  have : a * b ≤ 4294967295 * 4294967295 := Nat.mul_le_mul (by omega) (by omega)
  omega

theorem pow_half (base n : Nat) : base ^ n = base ^ (n % 2) * (base * base) ^ (n / 2) := by
  rw [← Nat.pow_two, ← Nat.pow_mul, ← Nat.pow_add]
  congr 1
  omega

theorem pow_step (out base n m : Nat) (h : n % 2 = 1) : out * base % m * (base * base % m) ^ (n / 2) % m = out * base ^ n % m := by
  rw [pow_half base n, h, Nat.pow_one, Nat.mul_mod, Nat.mod_mod, ← Nat.pow_mod, ← Nat.mul_mod, Nat.mul_assoc]
theorem pow_step' (out base n m : Nat) (h : n % 2 = 0) : out * (base * base % m) ^ (n / 2) % m = out * base ^ n % m := by
  rw [pow_half base n, h, Nat.pow_zero, Nat.one_mul, Nat.mul_mod, ← Nat.pow_mod, ← Nat.mul_mod]

theorem power_l0 (m : Nat) (hm : 0 < m) (hm2 : m ≤ 4294967296) : ∀ (d n k out base : Nat), n ≤ d → d < k → n < 9223372036854775808 → out < m → base < m →
    pi_power.l0 k (n : Int) (m : Int) (out : Int) (base : Int) = some ((out * base ^ n % m : Nat) : Int) := by
  intro d
  induction d with
  | zero =>
    intro n k out base hn hk _ ho hb
    obtain ⟨k, rfl⟩ : ∃ q, k = q + 1 := ⟨k - 1, by omega⟩
    obtain rfl : n = 0 := by omega
    simp only [pi_power.l0]
    rw [if_neg (by omega), Nat.pow_zero, Nat.mul_one, Nat.mod_eq_of_lt ho]
  | succ d ih =>
    intro n k out base hn hk hn2 ho hb
    obtain ⟨k, rfl⟩ : ∃ q, k = q + 1 := ⟨k - 1, by omega⟩
    by_cases h0 : n = 0
    · subst h0
      simp only [pi_power.l0]
      rw [if_neg (by omega), Nat.pow_zero, Nat.mul_one, Nat.mod_eq_of_lt ho]
    · have hbb := mul_lt hb hb hm2
      have hob := mul_lt ho hb hm2
      have e1 : IntKind.u64.wrap ((base : Int) * base) = ((base * base : Nat) : Int) := by rw [u64w (by rw [← Int.natCast_mul]; omega) (by rw [← Int.natCast_mul]; omega), Int.natCast_mul]
      have e2 : IntKind.u64.wrap ((out : Int) * base) = ((out * base : Nat) : Int) := by rw [u64w (by rw [← Int.natCast_mul]; omega) (by rw [← Int.natCast_mul]; omega), Int.natCast_mul]
      have e3 : wrap64 (Int.tdiv (n : Int) 2) = ((n / 2 : Nat) : Int) := by
        have : Int.tdiv (n : Int) 2 = ((n / 2 : Nat) : Int) := tdiv_cast n 2
        rw [this, w64 (by omega) (by omega)]
      have e4 : Int.tmod (n : Int) 2 = ((n % 2 : Nat) : Int) := tmod_cast n 2
      simp only [pi_power.l0]
      rw [if_pos (by omega), e1, e2, e3, e4, tmod_cast, tmod_cast]
      by_cases h1 : n % 2 = 1
      · rw [if_pos (by omega), if_neg (by omega), ih (n / 2) k _ _ (by omega) (by omega) (by omega) (Nat.mod_lt _ hm) (Nat.mod_lt _ hm), pow_step _ _ _ _ h1]
      · rw [if_neg (by omega), if_neg (by omega), ih (n / 2) k _ _ (by omega) (by omega) (by omega) ho (Nat.mod_lt _ hm), pow_step' _ _ _ _ (by omega)]

theorem power_f (m : Nat) (hm : 0 < m) (hm2 : m ≤ 4294967296) (n k : Nat) (hk : n < k) (hn : n < 9223372036854775808) : pi_power.f k (n : Int) (m : Int) = some ((16 ^ n % m : Nat) : Int) := by
  unfold pi_power.f
  rw [if_neg (by omega)]
  have e1 : (1 : Int) % (m : Int) = ((1 % m : Nat) : Int) := rfl
  have e2 : (16 : Int) % (m : Int) = ((16 % m : Nat) : Int) := rfl
  rw [e1, e2, power_l0 m hm hm2 n n k _ _ (Nat.le_refl _) hk hn (Nat.mod_lt _ hm) (Nat.mod_lt _ hm), Nat.mul_mod, Nat.mod_mod, ← Nat.pow_mod, ← Nat.mul_mod, Nat.one_mul]

theorem rpower_l0 (m : Nat) (hm : 0 < m) (hm2 : m ≤ 4294967296) : ∀ (d n k out base : Nat), n ≤ d → d < k → n < 9223372036854775808 → out < m → base < m →
    pestleref09_power.l0 k (n : Int) (m : Int) (out : Int) (base : Int) = some ((out * base ^ n % m : Nat) : Int) := by
  intro d
  induction d with
  | zero =>
    intro n k out base hn hk _ ho hb
    obtain ⟨k, rfl⟩ : ∃ q, k = q + 1 := ⟨k - 1, by omega⟩
    obtain rfl : n = 0 := by omega
    simp only [pestleref09_power.l0]
    rw [if_neg (by omega), Nat.pow_zero, Nat.mul_one, Nat.mod_eq_of_lt ho]
  | succ d ih =>
    intro n k out base hn hk hn2 ho hb
    obtain ⟨k, rfl⟩ : ∃ q, k = q + 1 := ⟨k - 1, by omega⟩
    by_cases h0 : n = 0
    · subst h0
      simp only [pestleref09_power.l0]
      rw [if_neg (by omega), Nat.pow_zero, Nat.mul_one, Nat.mod_eq_of_lt ho]
    · have hbb := mul_lt hb hb hm2
      have hob := mul_lt ho hb hm2
      have e1 : IntKind.u64.wrap ((base : Int) * base) = ((base * base : Nat) : Int) := by rw [u64w (by rw [← Int.natCast_mul]; omega) (by rw [← Int.natCast_mul]; omega), Int.natCast_mul]
      have e2 : IntKind.u64.wrap ((out : Int) * base) = ((out * base : Nat) : Int) := by rw [u64w (by rw [← Int.natCast_mul]; omega) (by rw [← Int.natCast_mul]; omega), Int.natCast_mul]
      have e3 : wrap64 (Int.tdiv (n : Int) 2) = ((n / 2 : Nat) : Int) := by
        have : Int.tdiv (n : Int) 2 = ((n / 2 : Nat) : Int) := tdiv_cast n 2
        rw [this, w64 (by omega) (by omega)]
      have e4 : Int.tmod (n : Int) 2 = ((n % 2 : Nat) : Int) := tmod_cast n 2
      simp only [pestleref09_power.l0]
      rw [if_pos (by omega), e1, e2, e3, e4, tmod_cast, tmod_cast]
      by_cases h1 : n % 2 = 1
      · rw [if_pos (by omega), if_neg (by omega), ih (n / 2) k _ _ (by omega) (by omega) (by omega) (Nat.mod_lt _ hm) (Nat.mod_lt _ hm), pow_step _ _ _ _ h1]
      · rw [if_neg (by omega), if_neg (by omega), ih (n / 2) k _ _ (by omega) (by omega) (by omega) ho (Nat.mod_lt _ hm), pow_step' _ _ _ _ (by omega)]

theorem rpower_f (m : Nat) (hm : 0 < m) (hm2 : m ≤ 4294967296) (n k : Nat) (hk : n < k) (hn : n < 9223372036854775808) : pestleref09_power.f k (n : Int) (m : Int) = some ((16 ^ n % m : Nat) : Int) := by
  unfold pestleref09_power.f
  rw [if_neg (by omega)]
  have e1 : (1 : Int) % (m : Int) = ((1 % m : Nat) : Int) := rfl
  have e2 : (16 : Int) % (m : Int) = ((16 % m : Nat) : Int) := rfl
  rw [e1, e2, rpower_l0 m hm hm2 n n k _ _ (Nat.le_refl _) hk hn (Nat.mod_lt _ hm) (Nat.mod_lt _ hm), Nat.mul_mod, Nat.mod_mod, ← Nat.pow_mod, ← Nat.mul_mod, Nat.one_mul]

/-- The bits behind the point of a/m, one by one. -/
theorem part_l0 (m a : Nat) (ha : a < m) (hm2 : m ≤ 4294967296) : ∀ (d i k : Nat), i + d = 60 → d < k →
    pestleref09_part.l0 k ((a * 2 ^ i % m : Nat) : Int) (m : Int) ((a * 2 ^ i / m : Nat) : Int) (i : Int) = some ((a * 2 ^ 60 / m : Nat) : Int) := by
  generalize hV : a * 2 ^ 60 / m = V
  intro d
  induction d with
  | zero =>
    intro i k hi hk
    obtain ⟨k, rfl⟩ : ∃ q, k = q + 1 := ⟨k - 1, by omega⟩
    obtain rfl : i = 60 := by omega
    simp only [pestleref09_part.l0]
    rw [if_neg (by omega), hV]
  | succ d ih =>
    intro i k hi hk
    obtain ⟨k, rfl⟩ : ∃ q, k = q + 1 := ⟨k - 1, by omega⟩
    have hm : 0 < m := by omega
    have ih' := ih (i + 1) k (by omega) (by omega)
    have p := Nat.div_add_mod (a * 2 ^ i) m
    have r := Nat.mod_lt (a * 2 ^ i) hm
    clear hV
    have q60 : a * 2 ^ i / m < 1152921504606846976 := by
      rw [Nat.div_lt_iff_lt_mul hm]
      have h1 : 2 ^ i ≤ 2 ^ 60 := Nat.pow_le_pow_right (by decide) (by omega)
      calc a * 2 ^ i ≤ a * 2 ^ 60 := Nat.mul_le_mul_left _ h1
        _ < m * 2 ^ 60 := Nat.mul_lt_mul_of_pos_right ha (by decide)
        _ = 2 ^ 60 * m := Nat.mul_comm _ _
    have e : a * 2 ^ (i + 1) = 2 * (a * 2 ^ i) := by rw [Nat.pow_succ]; rw [← Nat.mul_assoc, Nat.mul_comm]
    rw [e] at ih'
    clear e
    generalize a * 2 ^ i = x at *
    generalize x / m = q at *
    generalize x % m = s at *
    clear ha
    have e5 : wrap64 ((i : Int) + 1) = ((i + 1 : Nat) : Int) := by rw [w64 (by omega) (by omega)]; omega
    have c0 : (i : Int) < 60 := by omega
    by_cases c : m ≤ 2 * s
    · have f : 2 * x / m = 2 * q + 1 ∧ 2 * x % m = 2 * s - m := by
        refine (Nat.div_mod_unique hm).2 ⟨?_, by omega⟩
        have : m * (2 * q + 1) = 2 * (m * q) + m := by rw [Nat.mul_add, Nat.mul_one, Nat.mul_left_comm]
        omega
      rw [f.1, f.2] at ih'
      clear p f
      have e1 : IntKind.u64.wrap (2 * (s : Int)) = ((2 * s : Nat) : Int) := by rw [u64w (by omega) (by omega)]; omega
      have e2 : IntKind.u64.wrap (2 * (q : Int)) = ((2 * q : Nat) : Int) := by rw [u64w (by omega) (by omega)]; omega
      have e3 : IntKind.u64.wrap (((2 * s : Nat) : Int) - (m : Int)) = ((2 * s - m : Nat) : Int) := by rw [u64w (by omega) (by omega)]; omega
      have e4 : IntKind.u64.wrap (((2 * q : Nat) : Int) + 1) = ((2 * q + 1 : Nat) : Int) := by rw [u64w (by omega) (by omega)]; omega
      simp only [pestleref09_part.l0]
      rw [if_pos c0, e1, e2, e5, if_pos (by omega), e3, e4]
      exact ih'
    · have f : 2 * x / m = 2 * q ∧ 2 * x % m = 2 * s := by
        refine (Nat.div_mod_unique hm).2 ⟨?_, by omega⟩
        have : m * (2 * q) = 2 * (m * q) := by rw [Nat.mul_left_comm]
        omega
      rw [f.1, f.2] at ih'
      clear p f
      have e1 : IntKind.u64.wrap (2 * (s : Int)) = ((2 * s : Nat) : Int) := by rw [u64w (by omega) (by omega)]; omega
      have e2 : IntKind.u64.wrap (2 * (q : Int)) = ((2 * q : Nat) : Int) := by rw [u64w (by omega) (by omega)]; omega
      simp only [pestleref09_part.l0]
      rw [if_pos c0, e1, e2, e5, if_neg (by omega)]
      exact ih'

theorem part_f (m a : Nat) (ha : a < m) (hm2 : m ≤ 4294967296) (k : Nat) (hk : 60 < k) : pestleref09_part.f k (a : Int) (m : Int) = some ((a * 2 ^ 60 / m : Nat) : Int) := by
  unfold pestleref09_part.f
  have h := part_l0 m a ha hm2 60 0 k (by omega) hk
  rw [Nat.pow_zero, Nat.mul_one, Nat.mod_eq_of_lt ha, Nat.div_eq_of_lt ha] at h
  exact h

/-- How many bits a number below 256 has. -/
theorem tab_ok : ∀ i : Nat, i < 256 → 0 < i → ∃ b : Nat, bt (⟨#[0, 1, 2, 2, 3, 3, 3, 3, 4, 4, 4, 4, 4, 4, 4, 4, 5, 5, 5, 5, 5, 5, 5, 5, 5, 5, 5, 5, 5, 5, 5, 5, 6, 6, 6, 6, 6, 6, 6, 6, 6, 6, 6, 6, 6, 6, 6, 6, 6, 6, 6, 6, 6, 6, 6, 6, 6, 6, 6, 6, 6, 6, 6, 6, 7, 7, 7, 7, 7, 7, 7, 7, 7, 7, 7, 7, 7, 7, 7, 7, 7, 7, 7, 7, 7, 7, 7, 7, 7, 7, 7, 7, 7, 7, 7, 7, 7, 7, 7, 7, 7, 7, 7, 7, 7, 7, 7, 7, 7, 7, 7, 7, 7, 7, 7, 7, 7, 7, 7, 7, 7, 7, 7, 7, 7, 7, 7, 7, 8, 8, 8, 8, 8, 8, 8, 8, 8, 8, 8, 8, 8, 8, 8, 8, 8, 8, 8, 8, 8, 8, 8, 8, 8, 8, 8, 8, 8, 8, 8, 8, 8, 8, 8, 8, 8, 8, 8, 8, 8, 8, 8, 8, 8, 8, 8, 8, 8, 8, 8, 8, 8, 8, 8, 8, 8, 8, 8, 8, 8, 8, 8, 8, 8, 8, 8, 8, 8, 8, 8, 8, 8, 8, 8, 8, 8, 8, 8, 8, 8, 8, 8, 8, 8, 8, 8, 8, 8, 8, 8, 8, 8, 8, 8, 8, 8, 8, 8, 8, 8, 8, 8, 8, 8, 8, 8, 8, 8, 8, 8, 8, 8, 8, 8, 8, 8, 8, 8, 8, 8, 8, 8, 8, 8, 8, 8, 8]⟩ : ByteArray) (i : Int) = (b : Int) ∧ b ≤ 8 ∧ 2 ^ b ≤ 2 * i ∧ i < 2 ^ b := by
  have h : ∀ i : Nat, i < 256 → 0 < i → (bt (⟨#[0, 1, 2, 2, 3, 3, 3, 3, 4, 4, 4, 4, 4, 4, 4, 4, 5, 5, 5, 5, 5, 5, 5, 5, 5, 5, 5, 5, 5, 5, 5, 5, 6, 6, 6, 6, 6, 6, 6, 6, 6, 6, 6, 6, 6, 6, 6, 6, 6, 6, 6, 6, 6, 6, 6, 6, 6, 6, 6, 6, 6, 6, 6, 6, 7, 7, 7, 7, 7, 7, 7, 7, 7, 7, 7, 7, 7, 7, 7, 7, 7, 7, 7, 7, 7, 7, 7, 7, 7, 7, 7, 7, 7, 7, 7, 7, 7, 7, 7, 7, 7, 7, 7, 7, 7, 7, 7, 7, 7, 7, 7, 7, 7, 7, 7, 7, 7, 7, 7, 7, 7, 7, 7, 7, 7, 7, 7, 7, 8, 8, 8, 8, 8, 8, 8, 8, 8, 8, 8, 8, 8, 8, 8, 8, 8, 8, 8, 8, 8, 8, 8, 8, 8, 8, 8, 8, 8, 8, 8, 8, 8, 8, 8, 8, 8, 8, 8, 8, 8, 8, 8, 8, 8, 8, 8, 8, 8, 8, 8, 8, 8, 8, 8, 8, 8, 8, 8, 8, 8, 8, 8, 8, 8, 8, 8, 8, 8, 8, 8, 8, 8, 8, 8, 8, 8, 8, 8, 8, 8, 8, 8, 8, 8, 8, 8, 8, 8, 8, 8, 8, 8, 8, 8, 8, 8, 8, 8, 8, 8, 8, 8, 8, 8, 8, 8, 8, 8, 8, 8, 8, 8, 8, 8, 8, 8, 8, 8, 8, 8, 8, 8, 8, 8, 8, 8, 8]⟩ : ByteArray) (i : Int) = ((bt (⟨#[0, 1, 2, 2, 3, 3, 3, 3, 4, 4, 4, 4, 4, 4, 4, 4, 5, 5, 5, 5, 5, 5, 5, 5, 5, 5, 5, 5, 5, 5, 5, 5, 6, 6, 6, 6, 6, 6, 6, 6, 6, 6, 6, 6, 6, 6, 6, 6, 6, 6, 6, 6, 6, 6, 6, 6, 6, 6, 6, 6, 6, 6, 6, 6, 7, 7, 7, 7, 7, 7, 7, 7, 7, 7, 7, 7, 7, 7, 7, 7, 7, 7, 7, 7, 7, 7, 7, 7, 7, 7, 7, 7, 7, 7, 7, 7, 7, 7, 7, 7, 7, 7, 7, 7, 7, 7, 7, 7, 7, 7, 7, 7, 7, 7, 7, 7, 7, 7, 7, 7, 7, 7, 7, 7, 7, 7, 7, 7, 8, 8, 8, 8, 8, 8, 8, 8, 8, 8, 8, 8, 8, 8, 8, 8, 8, 8, 8, 8, 8, 8, 8, 8, 8, 8, 8, 8, 8, 8, 8, 8, 8, 8, 8, 8, 8, 8, 8, 8, 8, 8, 8, 8, 8, 8, 8, 8, 8, 8, 8, 8, 8, 8, 8, 8, 8, 8, 8, 8, 8, 8, 8, 8, 8, 8, 8, 8, 8, 8, 8, 8, 8, 8, 8, 8, 8, 8, 8, 8, 8, 8, 8, 8, 8, 8, 8, 8, 8, 8, 8, 8, 8, 8, 8, 8, 8, 8, 8, 8, 8, 8, 8, 8, 8, 8, 8, 8, 8, 8, 8, 8, 8, 8, 8, 8, 8, 8, 8, 8, 8, 8, 8, 8, 8, 8, 8, 8]⟩ : ByteArray) (i : Int)).toNat : Int) ∧ (bt (⟨#[0, 1, 2, 2, 3, 3, 3, 3, 4, 4, 4, 4, 4, 4, 4, 4, 5, 5, 5, 5, 5, 5, 5, 5, 5, 5, 5, 5, 5, 5, 5, 5, 6, 6, 6, 6, 6, 6, 6, 6, 6, 6, 6, 6, 6, 6, 6, 6, 6, 6, 6, 6, 6, 6, 6, 6, 6, 6, 6, 6, 6, 6, 6, 6, 7, 7, 7, 7, 7, 7, 7, 7, 7, 7, 7, 7, 7, 7, 7, 7, 7, 7, 7, 7, 7, 7, 7, 7, 7, 7, 7, 7, 7, 7, 7, 7, 7, 7, 7, 7, 7, 7, 7, 7, 7, 7, 7, 7, 7, 7, 7, 7, 7, 7, 7, 7, 7, 7, 7, 7, 7, 7, 7, 7, 7, 7, 7, 7, 8, 8, 8, 8, 8, 8, 8, 8, 8, 8, 8, 8, 8, 8, 8, 8, 8, 8, 8, 8, 8, 8, 8, 8, 8, 8, 8, 8, 8, 8, 8, 8, 8, 8, 8, 8, 8, 8, 8, 8, 8, 8, 8, 8, 8, 8, 8, 8, 8, 8, 8, 8, 8, 8, 8, 8, 8, 8, 8, 8, 8, 8, 8, 8, 8, 8, 8, 8, 8, 8, 8, 8, 8, 8, 8, 8, 8, 8, 8, 8, 8, 8, 8, 8, 8, 8, 8, 8, 8, 8, 8, 8, 8, 8, 8, 8, 8, 8, 8, 8, 8, 8, 8, 8, 8, 8, 8, 8, 8, 8, 8, 8, 8, 8, 8, 8, 8, 8, 8, 8, 8, 8, 8, 8, 8, 8, 8, 8]⟩ : ByteArray) (i : Int)).toNat ≤ 8 ∧ 2 ^ (bt (⟨#[0, 1, 2, 2, 3, 3, 3, 3, 4, 4, 4, 4, 4, 4, 4, 4, 5, 5, 5, 5, 5, 5, 5, 5, 5, 5, 5, 5, 5, 5, 5, 5, 6, 6, 6, 6, 6, 6, 6, 6, 6, 6, 6, 6, 6, 6, 6, 6, 6, 6, 6, 6, 6, 6, 6, 6, 6, 6, 6, 6, 6, 6, 6, 6, 7, 7, 7, 7, 7, 7, 7, 7, 7, 7, 7, 7, 7, 7, 7, 7, 7, 7, 7, 7, 7, 7, 7, 7, 7, 7, 7, 7, 7, 7, 7, 7, 7, 7, 7, 7, 7, 7, 7, 7, 7, 7, 7, 7, 7, 7, 7, 7, 7, 7, 7, 7, 7, 7, 7, 7, 7, 7, 7, 7, 7, 7, 7, 7, 8, 8, 8, 8, 8, 8, 8, 8, 8, 8, 8, 8, 8, 8, 8, 8, 8, 8, 8, 8, 8, 8, 8, 8, 8, 8, 8, 8, 8, 8, 8, 8, 8, 8, 8, 8, 8, 8, 8, 8, 8, 8, 8, 8, 8, 8, 8, 8, 8, 8, 8, 8, 8, 8, 8, 8, 8, 8, 8, 8, 8, 8, 8, 8, 8, 8, 8, 8, 8, 8, 8, 8, 8, 8, 8, 8, 8, 8, 8, 8, 8, 8, 8, 8, 8, 8, 8, 8, 8, 8, 8, 8, 8, 8, 8, 8, 8, 8, 8, 8, 8, 8, 8, 8, 8, 8, 8, 8, 8, 8, 8, 8, 8, 8, 8, 8, 8, 8, 8, 8, 8, 8, 8, 8, 8, 8, 8, 8]⟩ : ByteArray) (i : Int)).toNat ≤ 2 * i ∧ i < 2 ^ (bt (⟨#[0, 1, 2, 2, 3, 3, 3, 3, 4, 4, 4, 4, 4, 4, 4, 4, 5, 5, 5, 5, 5, 5, 5, 5, 5, 5, 5, 5, 5, 5, 5, 5, 6, 6, 6, 6, 6, 6, 6, 6, 6, 6, 6, 6, 6, 6, 6, 6, 6, 6, 6, 6, 6, 6, 6, 6, 6, 6, 6, 6, 6, 6, 6, 6, 7, 7, 7, 7, 7, 7, 7, 7, 7, 7, 7, 7, 7, 7, 7, 7, 7, 7, 7, 7, 7, 7, 7, 7, 7, 7, 7, 7, 7, 7, 7, 7, 7, 7, 7, 7, 7, 7, 7, 7, 7, 7, 7, 7, 7, 7, 7, 7, 7, 7, 7, 7, 7, 7, 7, 7, 7, 7, 7, 7, 7, 7, 7, 7, 8, 8, 8, 8, 8, 8, 8, 8, 8, 8, 8, 8, 8, 8, 8, 8, 8, 8, 8, 8, 8, 8, 8, 8, 8, 8, 8, 8, 8, 8, 8, 8, 8, 8, 8, 8, 8, 8, 8, 8, 8, 8, 8, 8, 8, 8, 8, 8, 8, 8, 8, 8, 8, 8, 8, 8, 8, 8, 8, 8, 8, 8, 8, 8, 8, 8, 8, 8, 8, 8, 8, 8, 8, 8, 8, 8, 8, 8, 8, 8, 8, 8, 8, 8, 8, 8, 8, 8, 8, 8, 8, 8, 8, 8, 8, 8, 8, 8, 8, 8, 8, 8, 8, 8, 8, 8, 8, 8, 8, 8, 8, 8, 8, 8, 8, 8, 8, 8, 8, 8, 8, 8, 8, 8, 8, 8, 8, 8]⟩ : ByteArray) (i : Int)).toNat) := by decide +kernel
  exact fun i h1 h2 => ⟨_, h i h1 h2⟩

set_option maxRecDepth 100000 in
theorem len_ok (y : Nat) (h0 : 0 < y) (h1 : y < 131072) (k : Nat) : ∃ b : Nat, bits_Len64.f (k + 1) (y : Int) = some (b : Int) ∧ b ≤ 17 ∧ 2 ^ b ≤ 2 * y ∧ y < 2 ^ b := by
  unfold bits_Len64.f
  rw [if_neg (by omega)]
  rw [bits_Len64.j0]
  by_cases c1 : 65536 ≤ y
  · obtain ⟨b, hb, b8, b1, b2⟩ := tab_ok 1 (by decide) (by decide)
    have d1 : ((y : Int) / 65536) = 1 := by omega
    have e1 : b = 1 := by
      rcases (show b = 0 ∨ b = 1 ∨ 2 ≤ b by omega) with rfl | rfl | h
      · simp at b2
      · rfl
      · have := Nat.pow_le_pow_right (show 0 < 2 by decide) h
        omega
    subst e1
    rw [if_pos (by omega), d1, if_neg (by omega), show ((1 : Int) % 256) = ((1 : Nat) : Int) from rfl, if_pos (by omega), if_pos (by omega), hb]
    refine ⟨17, ?_, by omega, by omega, by omega⟩
    rw [w64 (n := ((1 : Nat) : Int)) (by omega) (by omega), w64 (n := 0 + 16) (by omega) (by omega), w64 (by omega) (by omega)]
    rfl
  · rw [if_neg (by omega)]
    by_cases c2 : 256 ≤ y
    · obtain ⟨b, hb, b8, b1, b2⟩ := tab_ok (y / 256) (by omega) (by omega)
      have e1 : ((y : Int) / 256) % 256 = ((y / 256 : Nat) : Int) := by omega
      rw [if_pos (by omega), e1, if_pos (by omega), if_pos (by omega), hb]
      refine ⟨8 + b, ?_, by omega, ?_, ?_⟩
      · rw [w64 (n := (b : Int)) (by omega) (by omega), w64 (n := 0 + 8) (by omega) (by omega), w64 (by omega) (by omega)]
        exact congrArg some (by omega)

      · rw [Nat.pow_add]
        omega
      · rw [Nat.pow_add]
        omega
    · obtain ⟨b, hb, b8, b1, b2⟩ := tab_ok y (by omega) h0
      have e1 : (y : Int) % 256 = (y : Int) := by omega
      rw [if_neg (by omega), e1, if_pos (by omega), if_pos (by omega), hb]
      refine ⟨b, ?_, by omega, b1, b2⟩
      rw [w64 (n := (b : Int)) (by omega) (by omega), w64 (by omega) (by omega)]
      exact congrArg some (by omega)


/-- How far a number is to be shifted until its highest bit stands highest. -/
theorem zeros_ok (y : Nat) (h0 : 0 < y) (h1 : y < 131072) (k : Nat) : ∃ t : Nat, bits_LeadingZeros64.f (k + 1) (y : Int) = some ((t + 32 : Nat) : Int) ∧ 15 ≤ t ∧ t ≤ 31 ∧ 2147483648 ≤ y * 2 ^ t ∧ y * 2 ^ t < 4294967296 := by
  obtain ⟨b, hb, b17, l1, l2⟩ := len_ok y h0 h1 k
  have b0 : 0 < b := by
    rcases Nat.eq_zero_or_pos b with rfl | h
    · simp at l2; omega
    · exact h
  refine ⟨32 - b, ?_, by omega, by omega, ?_, ?_⟩
  · unfold bits_LeadingZeros64.f
    rw [hb]
    simp only [Option.bind_some]
    rw [w64 (by omega) (by omega)]
    exact congrArg some (by omega)

  · have e : 2 ^ b * 2 ^ (32 - b) = 4294967296 := by rw [← Nat.pow_add, show b + (32 - b) = 32 by omega]
    have := Nat.mul_le_mul_right (2 ^ (32 - b)) l1
    rw [e, Nat.mul_assoc] at this
    omega
  · have e : 2 ^ b * 2 ^ (32 - b) = 4294967296 := by rw [← Nat.pow_add, show b + (32 - b) = 32 by omega]
    have := Nat.mul_lt_mul_of_pos_right l2 (show 0 < 2 ^ (32 - b) from Nat.pow_pos (by decide))
    rwa [e] at this

theorem and_low (x : Nat) (h : x < 18446744073709551616) : Go.bits .and .u64 (x : Int) 4294967295 = ((x % 4294967296 : Nat) : Int) := by
  have := bits_and_u64_nat x 4294967295 h (by decide)
  have e : x &&& 4294967295 = x % 2 ^ 32 := Nat.and_two_pow_sub_one_eq_mod x 32
  rw [e] at this
  exact this
theorem or_zero (x : Nat) (h : x < 18446744073709551616) : Go.bits .or .u64 (x : Int) 0 = (x : Int) := by
  have := bits_or_u64_nat x 0 h (by decide)
  rw [Nat.or_zero] at this
  exact this
theorem shl_nat (x s : Nat) (hs : s ≤ 64) (h : x * 2 ^ s < 18446744073709551616) : shl .u64 (x : Int) (s : Int) = ((x * 2 ^ s : Nat) : Int) := by
  unfold shl
  rw [show min (s : Int).toNat (IntKind.bits .u64) = s from Nat.min_eq_left hs]
  have e : (x : Int) * 2 ^ s = ((x * 2 ^ s : Nat) : Int) := by rw [Int.natCast_mul, Int.natCast_pow]; rfl
  rw [e, u64w (by omega) (by omega)]

theorem two_steps (u d : Nat) (hd : 0 < d) : u / d * 4294967296 + u % d * 4294967296 / d = u * 4294967296 / d := by
  have h := Nat.div_add_mod u d
  have e : u * 4294967296 = d * (u / d * 4294967296) + u % d * 4294967296 := by rw [← Nat.mul_assoc, ← Nat.add_mul, h]
  rw [e, Nat.mul_add_div hd]

/-- What stands behind the walk of the second half of the division. -/
theorem div_l1 (x2 y' q1 rh k s : Nat) (hs : s ≤ 64) (hy : 0 < y') (hr : rh < y') (hq1 : q1 < 4294967296) (x16 : Int) :
    ∃ r, bits_Div64.l1 (k + 2) (x2 : Int) (s : Int) (y' : Int) 0 0 (q1 : Int) x16 ((rh * 4294967296 : Nat) : Int) ((rh * 4294967296 / y' : Nat) : Int) = some (((q1 * 4294967296 + rh * 4294967296 / y' : Nat) : Int), r) := by
  have hq0 : rh * 4294967296 / y' < 4294967296 := by
    rw [Nat.div_lt_iff_lt_mul hy, Nat.mul_comm]
    exact Nat.mul_lt_mul_of_pos_left hr (by decide)
  generalize rh * 4294967296 / y' = q0 at hq0 ⊢
  simp only [bits_Div64.l1]
  rw [if_neg (by omega), Int.mul_zero, u64w (n := 0) (by omega) (by omega)]
  have hb := IntKind.wrap_u64 (IntKind.u64.wrap (4294967296 * x16) + 0)
  rw [decide_eq_false (by rw [hb]; omega)]
  simp only [bits_Div64.j4]
  rw [if_neg (by simp), if_pos (by omega)]
  have e1 : IntKind.u64.wrap ((q1 : Int) * 4294967296) = ((q1 * 4294967296 : Nat) : Int) := by rw [u64w (by omega) (by omega)]; omega
  have e2 : IntKind.u64.wrap (((q1 * 4294967296 : Nat) : Int) + (q0 : Int)) = ((q1 * 4294967296 + q0 : Nat) : Int) := by rw [u64w (by omega) (by omega)]; omega
  rw [e1, e2]
  exact ⟨_, rfl⟩

theorem div_l0 (u y' k s : Nat) (hs : s ≤ 64) (hy : 0 < y') (hy2 : y' < 4294967296) (hu : u < y' * 4294967296) :
    ∃ r, bits_Div64.l0 (k + 5) ((y' * 4294967296 : Nat) : Int) (s : Int) (y' : Int) 0 (u : Int) 0 0 ((u / y' : Nat) : Int) ((u % y' : Nat) : Int) = some (((u * 4294967296 / y' : Nat) : Int), r) := by
  have hq : u / y' < 4294967296 := by
    rw [Nat.div_lt_iff_lt_mul hy, Nat.mul_comm]
    exact hu
  have hr := Nat.mod_lt u hy
  have h := Nat.div_add_mod u y'
  obtain ⟨r, e⟩ := div_l1 (y' * 4294967296) y' (u / y') (u % y') k s hs hy hr hq (IntKind.u64.wrap (((u % y' * 4294967296 : Nat) : Int) - IntKind.u64.wrap (((u % y' * 4294967296 / y' : Nat) : Int) * (y' : Int))))
  rw [two_steps u y' hy] at e
  refine ⟨r, ?_⟩
  rw [← e]
  -- the second number, in the machine's words
  have e21 : IntKind.u64.wrap (IntKind.u64.wrap (IntKind.u64.wrap ((u : Int) * 4294967296) + 0) - IntKind.u64.wrap (((u / y' : Nat) : Int) * ((y' * 4294967296 : Nat) : Int))) = ((u % y' * 4294967296 : Nat) : Int) := by
    have p : (u : Int) * 4294967296 - ((u / y' : Nat) : Int) * ((y' * 4294967296 : Nat) : Int) = ((u % y' * 4294967296 : Nat) : Int) := by
      have g : u * 4294967296 = u / y' * (y' * 4294967296) + u % y' * 4294967296 := by
        rw [← Nat.mul_assoc, ← Nat.add_mul, Nat.mul_comm (u / y'), h]
      have g2 : (u : Int) * 4294967296 = ((u / y' : Nat) : Int) * ((y' * 4294967296 : Nat) : Int) + ((u % y' * 4294967296 : Nat) : Int) := by
        rw [← Int.natCast_mul, ← Int.natCast_add, ← g]
        rfl
      omega
    generalize ((u / y' : Nat) : Int) * ((y' * 4294967296 : Nat) : Int) = z at p ⊢
    generalize u % y' = v at *
    generalize u / y' = q at *
    clear h e
    have t1 := IntKind.wrap_u64 ((u : Int) * 4294967296)
    have t2 := IntKind.wrap_u64 z
    rw [IntKind.wrap_u64, IntKind.wrap_u64 (IntKind.u64.wrap ((u : Int) * 4294967296) + 0), t1, t2]
    clear t1 t2
    omega
  have e22 : IntKind.u64.wrap (Int.tdiv ((u % y' * 4294967296 : Nat) : Int) (y' : Int)) = ((u % y' * 4294967296 / y' : Nat) : Int) := by
    have hq0 : u % y' * 4294967296 / y' < 4294967296 := by
      rw [Nat.div_lt_iff_lt_mul hy, Nat.mul_comm]
      exact Nat.mul_lt_mul_of_pos_left hr (by decide)
    rw [tdiv_cast]
    generalize u % y' * 4294967296 / y' = q0 at hq0 ⊢
    exact u64w (by omega) (by omega)
  clear e h
  generalize hv : u % y' = v at *
  generalize hw : u / y' = q at *
  clear hv hw
  simp only [bits_Div64.l0]
  rw [if_neg (by omega), Int.mul_zero, u64w (n := 0) (by omega) (by omega)]
  have hb := IntKind.wrap_u64 (IntKind.u64.wrap (4294967296 * (v : Int)) + 0)
  rw [decide_eq_false (by rw [hb]; omega)]
  simp only [bits_Div64.j1]
  rw [if_neg (by simp)]
  simp only [bits_Div64.j2]
  rw [if_neg (by omega), e21, e22]
end Go.Proofs.Ytlkakpibppikiaa.PiLoops
