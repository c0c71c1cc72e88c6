/- The printed sums of fractions are the sums of floors, and the digits that are reckoned are those of the text. -/
import Derived.Test.YtlkakpibppikiaaPiLoops
import Derived.Test.YtlkakpibppikiaaPiMath
namespace Go.Proofs.Ytlkakpibppikiaa.PiSeries
open Go.RowKit Go.Proofs.Ytlkakpibppikiaa.PPi Go.Proofs.YtlkakpibppikiaaW.PrintWords Go.Proofs.YtlkakpibppikiaaW.PrintLast Go.Proofs.YtlkakpibppikiaaW.PrintMore
open Go.Proofs.Ytlkakpibppikiaa.PiLoops Go.Proofs.Ytlkakpibppikiaa.PiMath
attribute [local irreducible] IntKind.wrap

theorem div_f (hi y : Nat) (h0 : 0 < y) (h1 : y < 131072) (hh : hi < y) (k : Nat) : ∃ r, bits_Div64.f (k + 6) (hi : Int) 0 (y : Int) = some (((hi * 2 ^ 64 / y : Nat) : Int), r) := by
  unfold bits_Div64.f
  rw [if_neg (by omega), if_neg (by omega)]
  by_cases hz : hi = 0
  · subst hz
    rw [if_pos (by rfl)]
    refine ⟨Int.tmod 0 (y : Int), ?_⟩
    rw [Int.zero_tdiv, u64w (by omega) (by omega), Nat.zero_mul, Nat.zero_div]
    rfl
  · rw [if_neg (by omega)]
    obtain ⟨t, ht, t1, t2, y1, y2⟩ := zeros_ok y h0 h1 (k + 5)
    rw [ht]
    simp only [Option.bind_some]
    have es : IntKind.u64.wrap ((t + 32 : Nat) : Int) = ((t + 32 : Nat) : Int) := u64w (by omega) (by omega)
    have es2 : IntKind.u64.wrap (64 - ((t + 32 : Nat) : Int)) = ((32 - t : Nat) : Int) := by rw [u64w (by omega) (by omega)]; omega
    have p32 : ∀ x : Nat, x * 2 ^ (t + 32) = x * 2 ^ t * 4294967296 := fun x => by rw [Nat.pow_add, Nat.mul_assoc]
    have hx : hi * 2 ^ t < y * 2 ^ t := Nat.mul_lt_mul_of_pos_right hh (Nat.pow_pos (by decide))
    have ey : shl .u64 (y : Int) ((t + 32 : Nat) : Int) = ((y * 2 ^ t * 4294967296 : Nat) : Int) := by rw [shl_nat _ _ (by omega) (by rw [p32]; omega), p32]
    have eh : shl .u64 (hi : Int) ((t + 32 : Nat) : Int) = ((hi * 2 ^ t * 4294967296 : Nat) : Int) := by rw [shl_nat _ _ (by omega) (by rw [p32]; omega), p32]
    have ez : shl .u64 0 ((t + 32 : Nat) : Int) = 0 := by
      have := shl_nat 0 (t + 32) (by omega) (by omega)
      rw [Nat.zero_mul] at this
      exact this
    have er : shr .u64 0 ((32 - t : Nat) : Int) = 0 := by unfold shr; exact Int.zero_ediv _
    have ed : ((y * 2 ^ t * 4294967296 : Nat) : Int) / 4294967296 = ((y * 2 ^ t : Nat) : Int) := by omega
    have ea : Go.bits .and .u64 ((y * 2 ^ t * 4294967296 : Nat) : Int) 4294967295 = 0 := by rw [and_low _ (by omega)]; omega
    have ea0 : Go.bits .and .u64 0 4294967295 = 0 := and_low 0 (by omega)
    have eo : Go.bits .or .u64 ((hi * 2 ^ t * 4294967296 : Nat) : Int) 0 = ((hi * 2 ^ t * 4294967296 : Nat) : Int) := or_zero _ (by omega)
    have fin : hi * 2 ^ t * 4294967296 * 4294967296 / (y * 2 ^ t) = hi * 2 ^ 64 / y := by
      rw [Nat.mul_assoc, Nat.mul_assoc, Nat.mul_comm (2 ^ t), ← Nat.mul_assoc, Nat.mul_div_mul_right _ _ (Nat.pow_pos (by decide))]
    obtain ⟨r, e⟩ := div_l0 (hi * 2 ^ t * 4294967296) (y * 2 ^ t) (k + 1) (t + 32) (by omega) (by omega) y2 (by omega)
    rw [fin] at e
    have hq : hi * 2 ^ t * 4294967296 / (y * 2 ^ t) < 4294967296 := by
      rw [Nat.div_lt_iff_lt_mul (by omega), Nat.mul_comm]
      omega
    have h := Nat.div_add_mod (hi * 2 ^ t * 4294967296) (y * 2 ^ t)
    rw [es, es2, ey, eh, ez, er, ed, ea, ea0, eo, if_pos (by omega), if_pos (by omega), if_neg (by omega), tdiv_cast, Int.zero_ediv]
    have e1 : IntKind.u64.wrap ((hi * 2 ^ t * 4294967296 / (y * 2 ^ t) : Nat) : Int) = ((hi * 2 ^ t * 4294967296 / (y * 2 ^ t) : Nat) : Int) := by
      clear e fin h es es2 ey eh ez er ed ea ea0 eo
      generalize hi * 2 ^ t * 4294967296 / (y * 2 ^ t) = q at *
      exact u64w (by omega) (by omega)
    rw [e1]
    have e2 : IntKind.u64.wrap (((hi * 2 ^ t * 4294967296 : Nat) : Int) - IntKind.u64.wrap (((hi * 2 ^ t * 4294967296 / (y * 2 ^ t) : Nat) : Int) * ((y * 2 ^ t : Nat) : Int))) = ((hi * 2 ^ t * 4294967296 % (y * 2 ^ t) : Nat) : Int) := by
      rw [← Int.natCast_mul]
      clear e fin es es2 ey eh ez er ed ea ea0 eo e1 hq
      generalize hi * 2 ^ t * 4294967296 % (y * 2 ^ t) = v at *
      rw [Nat.mul_comm] at h
      generalize hi * 2 ^ t * 4294967296 / (y * 2 ^ t) * (y * 2 ^ t) = z at *
      generalize hU : hi * 2 ^ t = U at *
      generalize hY : y * 2 ^ t = W at *
      clear hU hY p32
      rw [u64w (n := (z : Int)) (by omega) (by omega), u64w (by omega) (by omega)]
      omega
    rw [e2]
    exact ⟨r, e⟩

/-- What one round of the first loop adds. -/
def T (B n j q : Nat) : Nat := 16 ^ (n - q) % (8 * q + j) * 2 ^ B / (8 * q + j)
/-- What one round of the second loop adds. -/
def U (t n j i : Nat) : Nat := 2 ^ (4 * (t - 1 - i)) / (8 * (n + 1 + i) + j)

theorem sum_left (f : Nat → Nat) (i d : Nat) : sumTo (fun q => f (i + q)) (d + 1) = f i + sumTo (fun q => f (i + 1 + q)) d := by
  rw [show d + 1 = 1 + d by omega, sumTo_add]
  congr 1
  · show sumTo _ 0 + f (i + 0) = f i
    rw [Nat.add_zero]
    exact Nat.zero_add _
  · exact sumTo_congr _ (fun q _ => by rw [Nat.add_assoc])

theorem add_mod_left (S a b M : Nat) : ((S + a) % M + b) % M = (S + (a + b)) % M := by rw [Nat.mod_add_mod, Nat.add_assoc]

theorem add_wrap (S a : Nat) : IntKind.u64.wrap ((S : Int) + (a : Int)) = (((S + a) % 18446744073709551616 : Nat) : Int) := by rw [IntKind.wrap_u64]; omega
theorem shift_step (i : Nat) (h : i < 16) : IntKind.u64.wrap (((4 * (16 - 1 - i) : Nat) : Int) - 4) = (if i + 1 < 16 then 60 - 4 * ((i + 1 : Nat) : Int) else 18446744073709551612) := by
  rw [IntKind.wrap_u64]
  by_cases c : i + 1 < 16
  · rw [if_pos c]; omega
  · rw [if_neg c]; omega
theorem den (x j : Nat) (hx : x ≤ 9000) (hj : j ≤ 6) : IntKind.u64.wrap (IntKind.u64.wrap (8 * IntKind.u64.wrap (x : Int)) + (j : Int)) = ((8 * x + j : Nat) : Int) := by
  rw [u64w (n := (x : Int)) (by omega) (by omega), u64w (n := 8 * (x : Int)) (by omega) (by omega), u64w (by omega) (by omega)]
  omega
theorem next64 (x : Nat) (hx : x ≤ 9000) : wrap64 ((x : Int) + 1) = ((x + 1 : Nat) : Int) := by rw [w64 (by omega) (by omega)]; omega
theorem left64 (n i : Nat) (hn : n ≤ 9000) (hi : i ≤ n) : wrap64 ((n : Int) - (i : Int)) = ((n - i : Nat) : Int) := by rw [w64 (by omega) (by omega)]; omega

theorem series_l1 (n j : Nat) (hn : n ≤ 8335) (hj : 0 < j) (hj2 : j ≤ 6) : ∀ d i k S : Nat, i + d = 16 → d < k → S < 18446744073709551616 →
    pi_series.l1 k (j : Int) (S : Int) ((n + 1 + i : Nat) : Int) (if i < 16 then 60 - 4 * (i : Int) else 18446744073709551612) = some (((S + sumTo (fun q => U 16 n j (i + q)) d) % 18446744073709551616 : Nat) : Int) := by
  intro d
  induction d with
  | zero =>
    intro i k S hi hk hS
    obtain ⟨k, rfl⟩ : ∃ q, k = q + 1 := ⟨k - 1, by omega⟩
    rw [if_neg (by omega)]
    simp only [pi_series.l1, sumTo]
    rw [if_neg (by omega), Nat.add_zero, Nat.mod_eq_of_lt hS]
  | succ d ih =>
    intro i k S hi hk hS
    obtain ⟨k, rfl⟩ : ∃ q, k = q + 1 := ⟨k - 1, by omega⟩
    have e0 : (if i < 16 then 60 - 4 * (i : Int) else 18446744073709551612) = ((4 * (16 - 1 - i) : Nat) : Int) := by rw [if_pos (by omega)]; omega
    have ih' := ih (i + 1) k ((S + U 16 n j i) % 18446744073709551616) (by omega) (by omega) (Nat.mod_lt _ (by decide))
    rw [add_mod_left, ← sum_left (U 16 n j)] at ih'
    rw [← ih', e0]
    simp only [pi_series.l1]
    have hp : 2 ^ (4 * (16 - 1 - i)) ≤ 2 ^ 60 := Nat.pow_le_pow_right (by decide) (by omega)
    have esh : shl .u64 1 ((4 * (16 - 1 - i) : Nat) : Int) = ((2 ^ (4 * (16 - 1 - i)) : Nat) : Int) := by
      have := shl_nat 1 (4 * (16 - 1 - i)) (by omega) (by omega)
      rw [Nat.one_mul] at this
      exact this
    have hU : U 16 n j i < 18446744073709551616 := Nat.lt_of_le_of_lt (Nat.div_le_self _ _) (by omega)
    have eU : IntKind.u64.wrap (Int.tdiv ((2 ^ (4 * (16 - 1 - i)) : Nat) : Int) ((8 * (n + 1 + i) + j : Nat) : Int)) = ((U 16 n j i : Nat) : Int) := by
      rw [tdiv_cast]
      exact u64w (Int.natCast_nonneg _) (Int.ofNat_lt.2 hU)
    have c1 : ((4 * (16 - 1 - i) : Nat) : Int) < 64 := by clear hU eU esh hp; omega
    have c2 : 0 ≤ ((4 * (16 - 1 - i) : Nat) : Int) := Int.natCast_nonneg _
    have c3 : ¬ ((8 * (n + 1 + i) + j : Nat) : Int) = 0 := by clear hU eU esh hp; omega
    rw [if_pos c1, if_pos c2, den _ _ (by omega) hj2, if_neg c3, esh, eU, add_wrap, next64 _ (by omega), shift_step i (by omega)]
    rfl

theorem series_l0 (n j : Nat) (hn : n ≤ 8335) (hj : 0 < j) (hj2 : j ≤ 6) : ∀ d i k S : Nat, i + d = n + 1 → d + n + 100 ≤ k → S < 18446744073709551616 →
    pi_series.l0 k (n : Int) (j : Int) (S : Int) (i : Int) = some (((S + (sumTo (fun q => T 64 n j (i + q)) d + sumTo (U 16 n j) 16)) % 18446744073709551616 : Nat) : Int) := by
  intro d
  induction d with
  | zero =>
    intro i k S hi hk hS
    obtain ⟨k, rfl⟩ : ∃ q, k = q + 1 := ⟨k - 1, by omega⟩
    simp only [pi_series.l0]
    rw [show sumTo (fun q => T 64 n j (i + q)) 0 = 0 from rfl, Nat.zero_add]
    have h := series_l1 n j hn hj hj2 16 0 k S (by omega) (by omega) hS
    rw [if_neg (by omega), next64 _ (by omega)]
    rw [if_pos (by decide)] at h
    have e1 : sumTo (fun q => U 16 n j (0 + q)) 16 = sumTo (U 16 n j) 16 := sumTo_congr _ (fun q _ => by rw [Nat.zero_add])
    rw [e1] at h
    exact h
  | succ d ih =>
    intro i k S hi hk hS
    obtain ⟨k, rfl⟩ : ∃ q, k = q + 1 := ⟨k - 1, by omega⟩
    have ih' := ih (i + 1) k ((S + T 64 n j i) % 18446744073709551616) (by omega) (by omega) (Nat.mod_lt _ (by decide))
    rw [add_mod_left, ← Nat.add_assoc (T 64 n j i), ← sum_left (T 64 n j)] at ih'
    rw [← ih']
    have hm : 0 < 8 * i + j := by omega
    have hp := power_f (8 * i + j) hm (by omega) (n - i) k (by omega) (by omega)
    obtain ⟨r, hd⟩ := div_f (16 ^ (n - i) % (8 * i + j)) (8 * i + j) hm (by omega) (Nat.mod_lt _ hm) (k - 6)
    rw [show k - 6 + 6 = k by omega] at hd
    have c0 : (i : Int) ≤ (n : Int) := by clear hd hp; omega
    have c3 : ¬ ((8 * i + j : Nat) : Int) = 0 := by clear hd hp; omega
    simp only [pi_series.l0]
    rw [if_pos c0, den _ _ (by omega) hj2, left64 n i (by omega) (by omega), hp]
    simp only [Option.bind_some]
    rw [if_neg c3, tmod_cast, Nat.mod_mod, hd]
    simp only [Option.bind_some]
    rw [next64 _ (by omega)]
    exact congrArg (fun z => pi_series.l0 k (n : Int) (j : Int) z ((i + 1 : Nat) : Int)) (add_wrap S (T 64 n j i))

theorem series_f (n j : Nat) (hn : n ≤ 8335) (hj : 0 < j) (hj2 : j ≤ 6) (k : Nat) (hk : 2 * n + 200 ≤ k) : pi_series.f k (n : Int) (j : Int) = some ((G 64 j n % 18446744073709551616 : Nat) : Int) := by
  unfold pi_series.f
  have h := series_l0 n j hn hj hj2 (n + 1) 0 k 0 (by omega) (by omega) (by omega)
  have g := G_loops (B := 64) (j := j) (n := n) (t := 16) hj rfl (by omega)
  rw [show (18446744073709551616 : Nat) = 2 ^ 64 from rfl, g]
  rw [Nat.zero_add] at h
  have e1 : sumTo (fun q => T 64 n j (0 + q)) (n + 1) = sumTo (fun k => 16 ^ (n - k) % (8 * k + j) * 2 ^ 64 / (8 * k + j)) (n + 1) := sumTo_congr _ (fun q _ => by rw [Nat.zero_add]; rfl)
  rw [e1] at h
  exact h

theorem reckon_f (n : Nat) (hn : n ≤ 8335) (k : Nat) (hk : 2 * n + 300 ≤ k) : pi_Reckon.f k (n : Int) = some (((dig n : Nat) : Int), 0) := by
  unfold pi_Reckon.f
  obtain ⟨k, rfl⟩ : ∃ q, k = q + 1 := ⟨k - 1, by omega⟩
  rw [if_neg (by omega), decide_eq_false (by omega)]
  simp only [pi_Reckon.j0]
  have h1 := series_f n 1 hn (by decide) (by decide) k (by omega)
  have h4 := series_f n 4 hn (by decide) (by decide) k (by omega)
  have h5 := series_f n 5 hn (by decide) (by decide) k (by omega)
  have h6 := series_f n 6 hn (by decide) (by decide) k (by omega)
  rw [if_neg (by simp), show (1 : Int) = ((1 : Nat) : Int) from rfl, h1]
  simp only [Option.bind_some]
  rw [show (4 : Int) = ((4 : Nat) : Int) from rfl, h4]
  simp only [Option.bind_some]
  rw [show (5 : Int) = ((5 : Nat) : Int) from rfl, h5]
  simp only [Option.bind_some]
  rw [show (6 : Int) = ((6 : Nat) : Int) from rfl, h6]
  simp only [Option.bind_some]
  obtain ⟨n1, n2⟩ := near (B := 64) (n := n) (by omega)
  have t := top64 (by omega) n1 n2
  clear h1 h4 h5 h6 n1 n2
  have hd : dig n < 16 := Nat.mod_lt _ (by decide)
  generalize G 64 1 n = g1 at *
  generalize G 64 4 n = g4 at *
  generalize G 64 5 n = g5 at *
  generalize G 64 6 n = g6 at *
  generalize dig n = dd at *
  rw [IntKind.wrap_u64, IntKind.wrap_u64, IntKind.wrap_u64, IntKind.wrap_u64, IntKind.wrap_u64]
  have e : ((((((4 : Nat) : Int) * ((g1 % 18446744073709551616 : Nat) : Int)) % 18446744073709551616 - (2 * ((g4 % 18446744073709551616 : Nat) : Int)) % 18446744073709551616) % 18446744073709551616 - ((g5 % 18446744073709551616 : Nat) : Int)) % 18446744073709551616 - ((g6 % 18446744073709551616 : Nat) : Int)) % 18446744073709551616 = (4 * (g1 : Int) - 2 * g4 - g5 - g6) % 18446744073709551616 := by omega
  rw [e, t, w64 (by omega) (by omega)]
end Go.Proofs.Ytlkakpibppikiaa.PiSeries
