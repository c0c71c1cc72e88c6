/- Each Go function that the law reaches has the same answers as the Lean function of its name: contracts, written by a program of this session. -/
import Derived.Test.YtdieefjolkhmpaaPRpx0
import Derived.Test.YtdieefjolkhmpaaPRpx5
import Derived.Test.YtdieefjolkhmpaaPRpx7
import Derived.Test.YtdieefjolkhmpaaPRpx8
namespace Go.Proofs.Ytdieefjolkhmpaa.PRp
open Go.RowKit Go.Proofs.YtdieefjolkhmpaaW.PrintWords Go.Proofs.YtdieefjolkhmpaaW.PrintLast Go.Proofs.YtdieefjolkhmpaaW.PrintMore
attribute [local go_sem] max2_int min2_int max_two min_two max_three min_three max_four min_four   -- for this text's walks alone
set_option linter.unusedVariables false
set_option linter.unusedSimpArgs false
attribute [local go_sem] IntKind.wrap_u8 IntKind.wrap_u32
noncomputable section

/-! ### pestleref54_Pairs: function 30 -/
def pestleref54_Pairs.l0 : Nat → List (S23) → List (S26) → ByteArray → Int → Option (ByteArray)
  | 0, _, _, _, _ => none
  | k + 1, x0, x1, x5, x6 => if x6 < (x0.length : Int) then (if 0 ≤ x6 then ((pestleref53_Line.f k ((rd_T23 x0 x6).f0) ((rd_T23 x0 x6).f1) ((rd_T23 x0 x6).f2)).bind fun bt229 => (if bt229.2 = 0 then (if x5.size + bt229.1.size ≤ 9223372036854775807 then (if (x5 ++ bt229.1).size + 4 ≤ 9223372036854775807 then (if x6 < (x1.length : Int) then ((pestleref54_Reply.f k ((rd_T23 x0 x6).f0) ((rd_T23 x0 x6).f1) ((rd_T23 x0 x6).f2) ((rd_T26 x1 x6).f0) ((rd_T26 x1 x6).f1) ((rd_T26 x1 x6).f2) ((rd_T26 x1 x6).f3)).bind fun t233 => (if ((x5 ++ bt229.1) ++ (⟨#[32, 45, 62, 32]⟩ : ByteArray)).size + t233.size ≤ 9223372036854775807 then (if (((x5 ++ bt229.1) ++ (⟨#[32, 45, 62, 32]⟩ : ByteArray)) ++ t233).size + 1 ≤ 9223372036854775807 then (pestleref54_Pairs.l0 k x0 x1 ((((x5 ++ bt229.1) ++ (⟨#[32, 45, 62, 32]⟩ : ByteArray)) ++ t233) ++ (⟨#[10]⟩ : ByteArray)) (wrap64 (x6 + 1))) else (none)) else (none))) else (none)) else (none)) else (none)) else ((pestleref54_Name.f bt229.2).bind fun t234 => (if 2 + t234.size ≤ 9223372036854775807 then (if x5.size + ((⟨#[63, 32]⟩ : ByteArray) ++ t234).size ≤ 9223372036854775807 then (if (x5 ++ ((⟨#[63, 32]⟩ : ByteArray) ++ t234)).size + 4 ≤ 9223372036854775807 then (if x6 < (x1.length : Int) then ((pestleref54_Reply.f k ((rd_T23 x0 x6).f0) ((rd_T23 x0 x6).f1) ((rd_T23 x0 x6).f2) ((rd_T26 x1 x6).f0) ((rd_T26 x1 x6).f1) ((rd_T26 x1 x6).f2) ((rd_T26 x1 x6).f3)).bind fun t237 => (if ((x5 ++ ((⟨#[63, 32]⟩ : ByteArray) ++ t234)) ++ (⟨#[32, 45, 62, 32]⟩ : ByteArray)).size + t237.size ≤ 9223372036854775807 then (if (((x5 ++ ((⟨#[63, 32]⟩ : ByteArray) ++ t234)) ++ (⟨#[32, 45, 62, 32]⟩ : ByteArray)) ++ t237).size + 1 ≤ 9223372036854775807 then (pestleref54_Pairs.l0 k x0 x1 ((((x5 ++ ((⟨#[63, 32]⟩ : ByteArray) ++ t234)) ++ (⟨#[32, 45, 62, 32]⟩ : ByteArray)) ++ t237) ++ (⟨#[10]⟩ : ByteArray)) (wrap64 (x6 + 1))) else (none)) else (none))) else (none)) else (none)) else (none)) else (none))))) else (none)) else (some x5)
def pestleref54_Pairs.f (k : Nat) (l0 : List (S23)) (l1 : List (S26)) : Option (ByteArray) := pestleref54_Pairs.l0 k l0 l1 (⟨#[]⟩ : ByteArray) 0
theorem pestleref54_Pairs.mono_l : ∀ k, (∀ y0 y1 y2 y3, LeO (pestleref54_Pairs.l0 k y0 y1 y2 y3) (pestleref54_Pairs.l0 (k + 1) y0 y1 y2 y3))
  | 0 => fun _ _ _ _ r h => by simp [pestleref54_Pairs.l0] at h
  | k + 1 => by
    have ih0 := pestleref54_Pairs.mono_l k
    · intro y0 y1 y2 y3
      unfold pestleref54_Pairs.l0
      repeat' first
      | (with_reducible exact ih0 _ _ _ _)
      | (with_reducible exact pestleref53_Line.mono _ _ _ _)
      | (with_reducible exact pestleref54_Reply.mono _ _ _ _ _ _ _ _)
      | (with_reducible exact LeO.refl _)
      | (with_reducible exact LeO.none _)
      | (with_reducible refine LeO.ite ?_ ?_)
      | (with_reducible refine LeO.bind ?_ (fun _ => ?_))
      | exact ih0 _ _ _ _
      | exact pestleref53_Line.mono _ _ _ _
      | exact pestleref54_Reply.mono _ _ _ _ _ _ _ _
      | exact LeO.none _
      | refine LeO.ite ?_ ?_
      | refine LeO.bind ?_ (fun _ => ?_)
theorem pestleref54_Pairs.mono : ∀ a0 a1 k, LeO (pestleref54_Pairs.f k a0 a1) (pestleref54_Pairs.f (k + 1) a0 a1) := by
  intro a0 a1 k
  have ih0 := pestleref54_Pairs.mono_l k
  unfold pestleref54_Pairs.f
  repeat' first
      | (with_reducible exact ih0 _ _ _ _)
      | (with_reducible exact pestleref53_Line.mono _ _ _ _)
      | (with_reducible exact pestleref54_Reply.mono _ _ _ _ _ _ _ _)
      | (with_reducible exact LeO.refl _)
      | (with_reducible exact LeO.none _)
      | (with_reducible refine LeO.ite ?_ ?_)
      | (with_reducible refine LeO.bind ?_ (fun _ => ?_))
      | exact ih0 _ _ _ _
      | exact pestleref53_Line.mono _ _ _ _
      | exact pestleref54_Reply.mono _ _ _ _ _ _ _ _
      | exact LeO.none _
      | refine LeO.ite ?_ ?_
      | refine LeO.bind ?_ (fun _ => ?_)
def pestleref54_Pairs.T8 : Bool × List (List Nat × List Nat) := (true, [([], []), ([], []), ([0, 1], [0, 1]), ([2], [2]), ([], []), ([], []), ([4, 5], [4, 5]), ([6], [6]), ([], []), ([], []), ([8, 9], [8, 9]), ([10], [10]), ([7, 11], [7, 11]), ([3, 12], [3, 12]), ([13], [13]), ([14, 12, 0, 1, 2, 3, 4, 5, 6, 7, 8, 9, 10, 11, 12, 13, 14], [0, 14])])
def pestleref54_Pairs.B8 : List Nat := [0, 0, 3, 7, 0, 0, 48, 112, 0, 0, 768, 1792, 4080, 8191, 16383, 32767]
theorem pestleref54_Pairs.tab8 : rtab .any (opsOf Try.f30 8) = pestleref54_Pairs.T8 := by kernel_rfl
theorem pestleref54_Pairs.bits8 : waitsOk pestleref54_Pairs.T8.2 pestleref54_Pairs.B8 = true := by kernel_rfl
set_option maxHeartbeats 8000000 in
set_option maxRecDepth 100000 in
theorem pestleref54_Pairs.calls (k : Nat) (A0 : Option Addr) (c0 : Nat) (l0 : List (S23)) (A1 : Option Addr) (c1 : Nat) (l1 : List (S26)) (r : ByteArray) (w : World) (hr0 : Kd.C k23 w A0 l0.length l0) (hc0 : l0.length ≤ c0) (hr1 : Kd.C k26 w A1 l1.length l1) (hc1 : l1.length ≤ c1) (h : pestleref54_Pairs.f k l0 l1 = some r) :
    Calls Try.prog 30 #[.slice A0 l0.length c0, .slice A1 l1.length c1] w fun e w' => e = .returned (.string r) ∧ Below w.heap.size w w' := by
  have hu23 := Try.underlying23
  have hu26 := Try.underlying26
  have HR0 := Aside0.mk hr0
  have HC0 := Aside0.mk hc0
  clear hr0 hc0
  have HR1 := Aside0.mk hr1
  have HC1 := Aside0.mk hc1
  clear hr1 hc1
  have HB := Aside0.mk (Below.refl w.heap.size w)
  have H : (pestleref54_Pairs.l0 k l0 l1 (⟨#[]⟩ : ByteArray) 0) = some r := h
  clear h
  have H' := Aside0.mk H
  clear H
  go_enter Try.func30, Try.ntmps30
  go_wp2
  go_loopg [5, 6] k (fun kq v5 v6 w' => ∃ (x5_1 : ByteArray) (x6_1 : Int), v5 = .string x5_1 ∧ v6 = .int .i64 x6_1 ∧ Aside0 (pestleref54_Pairs.l0 kq l0 l1 x5_1 x6_1 = some r) ∧ Aside0 (kq ≤ k) ∧ Aside0 (Below w.heap.size w w'))
  case atStart => exact ⟨((⟨#[]⟩ : ByteArray)), (0), (by first | rfl | (simp; done) | (simp [*]; done)), (by first | rfl | (simp; done) | (simp [*]; done)), H', ⟨Nat.le_refl _⟩, ⟨by repeat (first | (with_reducible first | exact HB.out | apply below_alloc | apply pw_below_drewN | apply below_drew1) | exact HB.out)⟩⟩
  case round =>
    clear H'
    try clear c1
    try clear p2
    obtain ⟨x5_1, x6_1, rfl, rfl, HA, HK1, HB⟩ := hrel
    cases gk with
    | zero => exact absurd HA.out (by simp [pestleref54_Pairs.l0])
    | succ k1 =>
      have H := HA.out
      clear HA
      simp only [pestleref54_Pairs.l0] at H
      by_cases c3 : x6_1 < (l0.length : Int)
      · rw [if_pos c3] at H
        have c3b0 : decide (x6_1 < (l0.length : Int)) = true := decide_eq_true c3
        clear c3
        by_cases c4 : 0 ≤ x6_1
        · rw [if_pos c4] at H
          have c4b0 : decide (0 ≤ x6_1) = true := decide_eq_true c4
          clear c4
          replace H := Option.bind_eq_some_iff.mp H
          obtain ⟨⟨t229, t230⟩, A50, H⟩ := H
          replace H : (if t230 = 0 then (if x5_1.size + t229.size ≤ 9223372036854775807 then (if (x5_1 ++ t229).size + 4 ≤ 9223372036854775807 then (if x6_1 < (l1.length : Int) then ((pestleref54_Reply.f k1 ((rd_T23 l0 x6_1).f0) ((rd_T23 l0 x6_1).f1) ((rd_T23 l0 x6_1).f2) ((rd_T26 l1 x6_1).f0) ((rd_T26 l1 x6_1).f1) ((rd_T26 l1 x6_1).f2) ((rd_T26 l1 x6_1).f3)).bind fun t233 => (if ((x5_1 ++ t229) ++ (⟨#[32, 45, 62, 32]⟩ : ByteArray)).size + t233.size ≤ 9223372036854775807 then (if (((x5_1 ++ t229) ++ (⟨#[32, 45, 62, 32]⟩ : ByteArray)) ++ t233).size + 1 ≤ 9223372036854775807 then (pestleref54_Pairs.l0 k1 l0 l1 ((((x5_1 ++ t229) ++ (⟨#[32, 45, 62, 32]⟩ : ByteArray)) ++ t233) ++ (⟨#[10]⟩ : ByteArray)) (wrap64 (x6_1 + 1))) else (none)) else (none))) else (none)) else (none)) else (none)) else ((pestleref54_Name.f t230).bind fun t234 => (if 2 + t234.size ≤ 9223372036854775807 then (if x5_1.size + ((⟨#[63, 32]⟩ : ByteArray) ++ t234).size ≤ 9223372036854775807 then (if (x5_1 ++ ((⟨#[63, 32]⟩ : ByteArray) ++ t234)).size + 4 ≤ 9223372036854775807 then (if x6_1 < (l1.length : Int) then ((pestleref54_Reply.f k1 ((rd_T23 l0 x6_1).f0) ((rd_T23 l0 x6_1).f1) ((rd_T23 l0 x6_1).f2) ((rd_T26 l1 x6_1).f0) ((rd_T26 l1 x6_1).f1) ((rd_T26 l1 x6_1).f2) ((rd_T26 l1 x6_1).f3)).bind fun t237 => (if ((x5_1 ++ ((⟨#[63, 32]⟩ : ByteArray) ++ t234)) ++ (⟨#[32, 45, 62, 32]⟩ : ByteArray)).size + t237.size ≤ 9223372036854775807 then (if (((x5_1 ++ ((⟨#[63, 32]⟩ : ByteArray) ++ t234)) ++ (⟨#[32, 45, 62, 32]⟩ : ByteArray)) ++ t237).size + 1 ≤ 9223372036854775807 then (pestleref54_Pairs.l0 k1 l0 l1 ((((x5_1 ++ ((⟨#[63, 32]⟩ : ByteArray) ++ t234)) ++ (⟨#[32, 45, 62, 32]⟩ : ByteArray)) ++ t237) ++ (⟨#[10]⟩ : ByteArray)) (wrap64 (x6_1 + 1))) else (none)) else (none))) else (none)) else (none)) else (none)) else (none)))) = some r := H
          have A5 := Aside0.mk A50
          clear A50
          by_cases c6 : t230 = 0
          · rw [if_pos c6] at H
            have c6b0 : (t230 == 0) = true := beq_iff_eq.mpr c6
            have c6b1 : (t230 != 0) = false := bne_eq_false_iff_eq.mpr c6
            clear c6
            by_cases c7 : x5_1.size + t229.size ≤ 9223372036854775807
            · rw [if_pos c7] at H
              have c7b0 := eq_true c7
              have c7b1 : decide (x5_1.size + t229.size ≤ 9223372036854775807) = true := decide_eq_true c7
              try have c7b2 : (9223372036854775807 < x5_1.size + t229.size) = False := eq_false (Nat.not_lt.2 c7)
              by_cases c8 : (x5_1 ++ t229).size + 4 ≤ 9223372036854775807
              · rw [if_pos c8] at H
                have c8b0 := eq_true c8
                try (have c8d : x5_1.size + t229.size + 4 ≤ 9223372036854775807 := by (have h_ := c8; simp only [ByteArray.size_append] at h_; exact h_)
                     have c8e := eq_false (Nat.not_lt.2 c8d)
                     replace c8d := eq_true c8d)
                have c8b1 : decide ((x5_1 ++ t229).size + 4 ≤ 9223372036854775807) = true := decide_eq_true c8
                try have c8b2 : (9223372036854775807 < (x5_1 ++ t229).size + 4) = False := eq_false (Nat.not_lt.2 c8)
                by_cases c9 : x6_1 < (l1.length : Int)
                · rw [if_pos c9] at H
                  have c9b0 : decide (x6_1 < (l1.length : Int)) = true := decide_eq_true c9
                  clear c9
                  replace H := Option.bind_eq_some_iff.mp H
                  obtain ⟨t233, A100, H⟩ := H
                  replace H : (if ((x5_1 ++ t229) ++ (⟨#[32, 45, 62, 32]⟩ : ByteArray)).size + t233.size ≤ 9223372036854775807 then (if (((x5_1 ++ t229) ++ (⟨#[32, 45, 62, 32]⟩ : ByteArray)) ++ t233).size + 1 ≤ 9223372036854775807 then (pestleref54_Pairs.l0 k1 l0 l1 ((((x5_1 ++ t229) ++ (⟨#[32, 45, 62, 32]⟩ : ByteArray)) ++ t233) ++ (⟨#[10]⟩ : ByteArray)) (wrap64 (x6_1 + 1))) else (none)) else (none)) = some r := H
                  have A10 := Aside0.mk A100
                  clear A100
                  by_cases c11 : ((x5_1 ++ t229) ++ (⟨#[32, 45, 62, 32]⟩ : ByteArray)).size + t233.size ≤ 9223372036854775807
                  · rw [if_pos c11] at H
                    have c11b0 := eq_true c11
                    try (have c11d : x5_1.size + t229.size + 4 + t233.size ≤ 9223372036854775807 := by (have h_ := c11; simp only [ByteArray.size_append] at h_; exact h_)
                         have c11e := eq_false (Nat.not_lt.2 c11d)
                         replace c11d := eq_true c11d)
                    have c11b1 : decide (((x5_1 ++ t229) ++ (⟨#[32, 45, 62, 32]⟩ : ByteArray)).size + t233.size ≤ 9223372036854775807) = true := decide_eq_true c11
                    try have c11b2 : (9223372036854775807 < ((x5_1 ++ t229) ++ (⟨#[32, 45, 62, 32]⟩ : ByteArray)).size + t233.size) = False := eq_false (Nat.not_lt.2 c11)
                    by_cases c12 : (((x5_1 ++ t229) ++ (⟨#[32, 45, 62, 32]⟩ : ByteArray)) ++ t233).size + 1 ≤ 9223372036854775807
                    · rw [if_pos c12] at H
                      have c12b0 := eq_true c12
                      try (have c12d : x5_1.size + t229.size + 4 + t233.size + 1 ≤ 9223372036854775807 := by (have h_ := c12; simp only [ByteArray.size_append] at h_; exact h_)
                           have c12e := eq_false (Nat.not_lt.2 c12d)
                           replace c12d := eq_true c12d)
                      have c12b1 : decide ((((x5_1 ++ t229) ++ (⟨#[32, 45, 62, 32]⟩ : ByteArray)) ++ t233).size + 1 ≤ 9223372036854775807) = true := decide_eq_true c12
                      try have c12b2 : (9223372036854775807 < (((x5_1 ++ t229) ++ (⟨#[32, 45, 62, 32]⟩ : ByteArray)) ++ t233).size + 1) = False := eq_false (Nat.not_lt.2 c12)
                      have H' := Aside0.mk H
                      clear H
                      have p228 : 0 ≤ (x6_1 : Int) := of_decide_eq_true (by first | (with_reducible assumption) | assumption)
                      have q228 : x6_1 < (l0.length : Int) := of_decide_eq_true (by first | (with_reducible assumption) | assumption)
                      obtain ⟨ad228, e228, hx228_0, hx228_1, hx228_2⟩ := at_T23 HR0.out x6_1 p228 q228
                      cases e228
                      replace hx228_0 := (HB.out.cell (World.block_lt_of_cell? w _ hx228_0)).trans hx228_0
                      replace hx228_1 := (HB.out.cell (World.block_lt_of_cell? w _ hx228_1)).trans hx228_1
                      replace hx228_2 := (HB.out.cell (World.block_lt_of_cell? w _ hx228_2)).trans hx228_2
                      replace p228 := eq_true p228
                      replace q228 := eq_true q228
                      try go_wp2_with (first | ((with_reducible refine gate_callee (f := 49) rfl ?_); refine goesL_ (some 20) rfl rfl Try.func49 (by kernel_rfl) rfl #[.agg #[.int .i64 ((rd_T23 l0 x6_1).f0), .string ((rd_T23 l0 x6_1).f1), .string ((rd_T23 l0 x6_1).f2)]] rfl (by (try simp only [List.map_toArray, List.map_cons, List.map_nil]); first | done | rfl | (simp only [List.length_drop, List.length_take]; rfl)) ?_; (with_reducible refine (pestleref53_Line.calls k1 ((rd_T23 l0 x6_1).f0) ((rd_T23 l0 x6_1).f1) ((rd_T23 l0 x6_1).f2) t229 t230 _ A5.out).mono ?_); rintro e w13 ⟨rfl, hb⟩; refine ⟨_, rfl, ?_⟩; have n0_ := Aside0.mk (below_step (by repeat (first | (with_reducible first | exact HB.out | apply below_alloc | apply pw_below_drewN | apply below_drew1) | exact HB.out)) hb); clear HB; have HB := n0_; clear n0_; (try clear hb); (try clear hb2); (try clear hk); (try clear hi)))
                      have n0_ := Aside0.mk (below_drew1 HB.out)
                      clear HB
                      have HB := n0_
                      clear n0_
                      have p231 : 0 ≤ (x6_1 : Int) := of_decide_eq_true (by first | (with_reducible assumption) | assumption)
                      have q231 : x6_1 < (l0.length : Int) := of_decide_eq_true (by first | (with_reducible assumption) | assumption)
                      obtain ⟨ad231, e231, hx231_0, hx231_1, hx231_2⟩ := at_T23 HR0.out x6_1 p231 q231
                      have hw231_2 := hx231_2
                      have hw231_1 := hx231_1
                      have hw231_0 := hx231_0
                      obtain rfl : ad228 = ad231 := (by injection e231)
                      replace hx231_0 := (HB.out.cell (World.block_lt_of_cell? w _ hx231_0)).trans hx231_0
                      replace hx231_1 := (HB.out.cell (World.block_lt_of_cell? w _ hx231_1)).trans hx231_1
                      replace hx231_2 := (HB.out.cell (World.block_lt_of_cell? w _ hx231_2)).trans hx231_2
                      replace p231 := eq_true p231
                      replace q231 := eq_true q231
                      have p232 : 0 ≤ (x6_1 : Int) := of_decide_eq_true (by first | (with_reducible assumption) | assumption)
                      have q232 : x6_1 < (l1.length : Int) := of_decide_eq_true (by first | (with_reducible assumption) | assumption)
                      obtain ⟨ad232, e232, hx232_0, hx232_1, hx232_2, hx232_3⟩ := at_T26 HR1.out x6_1 p232 q232
                      have hw232_3 := hx232_3
                      have hw232_2 := hx232_2
                      have hw232_1 := hx232_1
                      have hw232_0 := hx232_0
                      cases e232
                      replace hx232_0 := (HB.out.cell (World.block_lt_of_cell? w _ hx232_0)).trans hx232_0
                      replace hx232_1 := (HB.out.cell (World.block_lt_of_cell? w _ hx232_1)).trans hx232_1
                      replace hx232_2 := (HB.out.cell (World.block_lt_of_cell? w _ hx232_2)).trans hx232_2
                      replace hx232_3 := (HB.out.cell (World.block_lt_of_cell? w _ hx232_3)).trans hx232_3
                      replace p232 := eq_true p232
                      replace q232 := eq_true q232
                      refine start_ (n := 16) (S := fun w' => w'.cell? (ad228.add ((x6_1).toNat * 3)) = some (.int .i64 ((rd_T23 l0 x6_1).f0)) ∧ w'.cell? ⟨(ad228.add ((x6_1).toNat * 3)).block, (ad228.add ((x6_1).toNat * 3)).off + 1, none⟩ = some (.string ((rd_T23 l0 x6_1).f1)) ∧ w'.cell? ⟨(ad228.add ((x6_1).toNat * 3)).block, (ad228.add ((x6_1).toNat * 3)).off + 2, none⟩ = some (.string ((rd_T23 l0 x6_1).f2)) ∧ w'.cell? (ad232.add ((x6_1).toNat * 4)) = some (.int .i64 ((rd_T26 l1 x6_1).f0)) ∧ w'.cell? ⟨(ad232.add ((x6_1).toNat * 4)).block, (ad232.add ((x6_1).toNat * 4)).off + 1, none⟩ = some (.string ((rd_T26 l1 x6_1).f1)) ∧ w'.cell? ⟨(ad232.add ((x6_1).toNat * 4)).block, (ad232.add ((x6_1).toNat * 4)).off + 2, none⟩ = some (.bool ((rd_T26 l1 x6_1).f2)) ∧ w'.cell? ⟨(ad232.add ((x6_1).toNat * 4)).block, (ad232.add ((x6_1).toNat * 4)).off + 3, none⟩ = some (.int .i64 ((rd_T26 l1 x6_1).f3))) (ds := []) #[false, false, false, false, false, false, false, false, false, false, false, false, false, false, false, false] (by kernel_rfl) rfl rfl ⟨((HB.out.cell (World.block_lt_of_cell? w _ hw231_0)).trans hw231_0), ((HB.out.cell (World.block_lt_of_cell? w _ hw231_1)).trans hw231_1), ((HB.out.cell (World.block_lt_of_cell? w _ hw231_2)).trans hw231_2), ((HB.out.cell (World.block_lt_of_cell? w _ hw232_0)).trans hw232_0), ((HB.out.cell (World.block_lt_of_cell? w _ hw232_1)).trans hw232_1), ((HB.out.cell (World.block_lt_of_cell? w _ hw232_2)).trans hw232_2), ((HB.out.cell (World.block_lt_of_cell? w _ hw232_3)).trans hw232_3)⟩ (fun hHeld => ?_); refine with_tabW pestleref54_Pairs.tab8 pestleref54_Pairs.bits8 (fun HT_ HW_ => ?_)
                      generalize w13.drew = w14 at HB hx231_0 hx231_1 hx231_2 hx232_0 hx232_1 hx232_2 hx232_3 hHeld ⊢
                      refine pure_ (i := 0) (N := some 28) (v := ?_) (a' := ?_) #[true, false, false, false, false, false, false, false, false, false, false, false, false, false, false, false] rfl rfl (any_of HT_.out (by kernel_rfl)) (fun _ _ _ h => h) (Or.inl ⟨by rfl, ?_⟩) ?_ ?_
                      rotate_left
                      · intro w'
                        go_simp
                        with_reducible rfl
                      rotate_left
                      · simp only [Act.put, List.setIfInBounds_toArray, List.set_cons_zero, List.set_cons_succ, i64_w, i32_w]
                        rfl
                      refine pure_ (i := 1) (N := some 29) (v := ?_) (a' := ?_) #[true, true, false, false, false, false, false, false, false, false, false, false, false, false, false, false] rfl rfl (any_of HT_.out (by kernel_rfl)) (fun _ _ _ h => h) (Or.inl ⟨by rfl, ?_⟩) ?_ ?_
                      rotate_left
                      · intro w'
                        go_simp
                        with_reducible rfl
                      rotate_left
                      · simp only [Act.put, List.setIfInBounds_toArray, List.set_cons_zero, List.set_cons_succ, i64_w, i32_w]
                        rfl
                      refine pure_ (i := 2) (N := some 30) (v := ?_) (a' := ?_) #[true, true, true, false, false, false, false, false, false, false, false, false, false, false, false, false] rfl rfl (any_of HT_.out (by kernel_rfl)) (fun _ _ _ h => h) (Or.inl ⟨by rfl, ?_⟩) ?_ ?_
                      rotate_left
                      · intro w'
                        go_simp
                        with_reducible rfl
                      rotate_left
                      · simp only [Act.put, List.setIfInBounds_toArray, List.set_cons_zero, List.set_cons_succ, i64_w, i32_w]
                        rfl
                      refine pure_ (i := 3) (N := some 31) (v := ?_) (a' := ?_) #[true, true, true, true, false, false, false, false, false, false, false, false, false, false, false, false] rfl rfl (any_of HT_.out (by kernel_rfl)) (fun _ _ _ h => h) (Or.inl ⟨by rfl, ?_⟩) ?_ ?_
                      rotate_left
                      · intro w'
                        go_simp
                        with_reducible rfl
                      rotate_left
                      · simp only [Act.put, List.setIfInBounds_toArray, List.set_cons_zero, List.set_cons_succ, i64_w, i32_w]
                        rfl
                      refine pure_ (i := 4) (N := some 32) (v := ?_) (a' := ?_) #[true, true, true, true, true, false, false, false, false, false, false, false, false, false, false, false] rfl rfl (any_of HT_.out (by kernel_rfl)) (fun _ _ _ h => h) (Or.inl ⟨by rfl, ?_⟩) ?_ ?_
                      rotate_left
                      · intro w'
                        go_simp
                        with_reducible rfl
                      rotate_left
                      · simp only [Act.put, List.setIfInBounds_toArray, List.set_cons_zero, List.set_cons_succ, i64_w, i32_w]
                        rfl
                      refine pure_ (i := 5) (N := some 33) (v := ?_) (a' := ?_) #[true, true, true, true, true, true, false, false, false, false, false, false, false, false, false, false] rfl rfl (any_of HT_.out (by kernel_rfl)) (fun _ _ _ h => h) (Or.inl ⟨by rfl, ?_⟩) ?_ ?_
                      rotate_left
                      · intro w'
                        go_simp
                        with_reducible rfl
                      rotate_left
                      · simp only [Act.put, List.setIfInBounds_toArray, List.set_cons_zero, List.set_cons_succ, i64_w, i32_w]
                        rfl
                      refine pure_ (i := 6) (N := some 34) (v := ?_) (a' := ?_) #[true, true, true, true, true, true, true, false, false, false, false, false, false, false, false, false] rfl rfl (any_of HT_.out (by kernel_rfl)) (fun _ _ _ h => h) (Or.inl ⟨by rfl, ?_⟩) ?_ ?_
                      rotate_left
                      · intro w'
                        go_simp
                        with_reducible rfl
                      rotate_left
                      · simp only [Act.put, List.setIfInBounds_toArray, List.set_cons_zero, List.set_cons_succ, i64_w, i32_w]
                        rfl
                      refine pure_ (i := 8) (N := some 36) (v := ?_) (a' := ?_) #[true, true, true, true, true, true, true, false, true, false, false, false, false, false, false, false] rfl rfl (any_of HT_.out (by kernel_rfl)) (fun _ _ _ h => h) (Or.inl ⟨by rfl, ?_⟩) ?_ ?_
                      rotate_left
                      · intro w'
                        go_simp
                        with_reducible rfl
                      rotate_left
                      · simp only [Act.put, List.setIfInBounds_toArray, List.set_cons_zero, List.set_cons_succ, i64_w, i32_w]
                        rfl
                      refine pure_ (i := 9) (N := some 37) (v := ?_) (a' := ?_) #[true, true, true, true, true, true, true, false, true, true, false, false, false, false, false, false] rfl rfl (any_of HT_.out (by kernel_rfl)) (fun _ _ _ h => h) (Or.inl ⟨by rfl, ?_⟩) ?_ ?_
                      rotate_left
                      · intro w'
                        go_simp
                        with_reducible rfl
                      rotate_left
                      · simp only [Act.put, List.setIfInBounds_toArray, List.set_cons_zero, List.set_cons_succ, i64_w, i32_w]
                        rfl
                      refine pure_ (i := 10) (N := some 38) (v := ?_) (a' := ?_) #[true, true, true, true, true, true, true, false, true, true, true, false, false, false, false, false] rfl rfl (any_of HT_.out (by kernel_rfl)) (fun _ _ _ h => h) (Or.inl ⟨by rfl, ?_⟩) ?_ ?_
                      rotate_left
                      · intro w'
                        go_simp
                        with_reducible rfl
                      rotate_left
                      · simp only [Act.put, List.setIfInBounds_toArray, List.set_cons_zero, List.set_cons_succ, i64_w, i32_w]
                        rfl
                      refine take_ (i := 7) (N := some 35) (v := ?_) (a' := ?_) #[true, true, true, true, true, true, true, true, true, true, true, false, false, false, false, false] rfl rfl (take_ofW HT_.out HW_.out (by kernel_rfl)) (fun _ _ _ h => h) (Or.inl ⟨by rfl, ?_⟩) hHeld ?_ ?_
                      rotate_left
                      · rintro w' ⟨s0, s1, s2, s3, s4, s5, s6⟩
                        go_simp
                        with_reducible rfl
                      rotate_left
                      · simp only [Act.put, List.setIfInBounds_toArray, List.set_cons_zero, List.set_cons_succ, i64_w, i32_w]
                        rfl
                      refine take_ (i := 11) (N := some 39) (v := ?_) (a' := ?_) #[true, true, true, true, true, true, true, true, true, true, true, true, false, false, false, false] rfl rfl (take_ofW HT_.out HW_.out (by kernel_rfl)) (fun _ _ _ h => h) (Or.inl ⟨by rfl, ?_⟩) hHeld ?_ ?_
                      rotate_left
                      · rintro w' ⟨s0, s1, s2, s3, s4, s5, s6⟩
                        go_simp
                        with_reducible rfl
                      rotate_left
                      · simp only [Act.put, List.setIfInBounds_toArray, List.set_cons_zero, List.set_cons_succ, i64_w, i32_w]
                        rfl
                      refine one_ (i := 12) (N := some 40) #[true, true, true, true, true, true, true, true, true, true, true, true, true, false, false, false] rfl rfl (one_of HT_.out (by kernel_rfl)) (by decide) (fun K hK => ?_)
                      refine goes_ Try.func13 (by kernel_rfl) rfl #[.agg #[.int .i64 ((rd_T23 l0 x6_1).f0), .string ((rd_T23 l0 x6_1).f1), .string ((rd_T23 l0 x6_1).f2)], .agg #[.int .i64 ((rd_T26 l1 x6_1).f0), .string ((rd_T26 l1 x6_1).f1), .bool ((rd_T26 l1 x6_1).f2), .int .i64 ((rd_T26 l1 x6_1).f3)]] (by rfl) rfl rfl (by (try simp only [List.map_toArray, List.map_cons, List.map_nil]); first | done | rfl | (simp only [List.length_drop, List.length_take]; rfl)) ?_
                      with_reducible refine (pestleref54_Reply.calls k1 ((rd_T23 l0 x6_1).f0) ((rd_T23 l0 x6_1).f1) ((rd_T23 l0 x6_1).f2) ((rd_T26 l1 x6_1).f0) ((rd_T26 l1 x6_1).f1) ((rd_T26 l1 x6_1).f2) ((rd_T26 l1 x6_1).f3) t233 _ A10.out).mono ?_
                      rintro e w15 ⟨rfl, hb⟩
                      refine ⟨_, rfl, ?_⟩
                      have n0_ := Aside0.mk (below_step (by repeat (first | (with_reducible first | exact HB.out | apply below_alloc | apply pw_below_drewN | apply below_drew1) | exact HB.out)) hb)
                      clear HB
                      have HB := n0_
                      clear n0_
                      (try clear hb)
                      (try clear hb2)
                      (try clear hk)
                      (try clear hi)
                      refine hK.out _ _ ⟨((HB.out.cell (World.block_lt_of_cell? w _ hw231_0)).trans hw231_0), ((HB.out.cell (World.block_lt_of_cell? w _ hw231_1)).trans hw231_1), ((HB.out.cell (World.block_lt_of_cell? w _ hw231_2)).trans hw231_2), ((HB.out.cell (World.block_lt_of_cell? w _ hw232_0)).trans hw232_0), ((HB.out.cell (World.block_lt_of_cell? w _ hw232_1)).trans hw232_1), ((HB.out.cell (World.block_lt_of_cell? w _ hw232_2)).trans hw232_2), ((HB.out.cell (World.block_lt_of_cell? w _ hw232_3)).trans hw232_3)⟩ (fun hHeld => ?_)
                      clear hK K
                      refine norm_ (a' := ?_) ?_ ?_
                      rotate_left
                      · show Act.put _ (some 40) _ = _
                        simp only [Act.put, List.setIfInBounds_toArray, List.set_cons_zero, List.set_cons_succ, i64_w, i32_w]
                        rfl
                      refine pure_ (i := 13) (N := some 41) (v := ?_) (a' := ?_) #[true, true, true, true, true, true, true, true, true, true, true, true, true, true, false, false] rfl rfl (any_of HT_.out (by kernel_rfl)) (fun _ _ _ h => h) (Or.inl ⟨by rfl, ?_⟩) ?_ ?_
                      rotate_left
                      · intro w'
                        go_simp
                        with_reducible rfl
                      rotate_left
                      · simp only [Act.put, List.setIfInBounds_toArray, List.set_cons_zero, List.set_cons_succ, i64_w, i32_w]
                        rfl
                      refine pure_ (i := 14) (N := some 42) (v := ?_) (a' := ?_) #[true, true, true, true, true, true, true, true, true, true, true, true, true, true, true, false] rfl rfl (any_of HT_.out (by kernel_rfl)) (fun _ _ _ h => h) (Or.inl ⟨by rfl, ?_⟩) ?_ ?_
                      rotate_left
                      · intro w'
                        go_simp
                        with_reducible rfl
                      rotate_left
                      · simp only [Act.put, List.setIfInBounds_toArray, List.set_cons_zero, List.set_cons_succ, i64_w, i32_w]
                        rfl
                      refine pure_ (i := 15) (N := some 5) (v := ?_) (a' := ?_) #[true, true, true, true, true, true, true, true, true, true, true, true, true, true, true, true] rfl rfl (any_of HT_.out (by kernel_rfl)) (fun _ _ _ h => h) (Or.inl ⟨by rfl, ?_⟩) ?_ ?_
                      rotate_left
                      · intro w'
                        go_simp
                        with_reducible rfl
                      rotate_left
                      · simp only [Act.put, List.setIfInBounds_toArray, List.set_cons_zero, List.set_cons_succ, i64_w, i32_w]
                        rfl
                      refine done_ (done_of HT_.out (by kernel_rfl)) ?_
                      try go_wp2
                      go_roundg k1
                      case measure => have := HK1.out; omega
                      case rel => exact ⟨((((x5_1 ++ t229) ++ (⟨#[32, 45, 62, 32]⟩ : ByteArray)) ++ t233) ++ (⟨#[10]⟩ : ByteArray)), (wrap64 (x6_1 + 1)), (by first | rfl | (simp; done) | (simp [*]; done)), (by first | rfl | (simp; done) | (simp [*]; done)), H', ⟨by have := HK1.out; omega⟩, ⟨by repeat (first | (with_reducible first | exact HB.out | apply below_alloc | apply pw_below_drewN | apply below_drew1) | exact HB.out)⟩⟩
                    · rw [if_neg c12] at H
                      exact absurd H (by simp)
                  · rw [if_neg c11] at H
                    exact absurd H (by simp)
                · rw [if_neg c9] at H
                  exact absurd H (by simp)
              · rw [if_neg c8] at H
                exact absurd H (by simp)
            · rw [if_neg c7] at H
              exact absurd H (by simp)
          · rw [if_neg c6] at H
            have c6b0 : (t230 == 0) = false := beq_eq_false_iff_ne.mpr c6
            have c6b1 : (t230 != 0) = true := bne_iff_ne.mpr c6
            replace H := Option.bind_eq_some_iff.mp H
            obtain ⟨t234, A160, H⟩ := H
            replace H : (if 2 + t234.size ≤ 9223372036854775807 then (if x5_1.size + ((⟨#[63, 32]⟩ : ByteArray) ++ t234).size ≤ 9223372036854775807 then (if (x5_1 ++ ((⟨#[63, 32]⟩ : ByteArray) ++ t234)).size + 4 ≤ 9223372036854775807 then (if x6_1 < (l1.length : Int) then ((pestleref54_Reply.f k1 ((rd_T23 l0 x6_1).f0) ((rd_T23 l0 x6_1).f1) ((rd_T23 l0 x6_1).f2) ((rd_T26 l1 x6_1).f0) ((rd_T26 l1 x6_1).f1) ((rd_T26 l1 x6_1).f2) ((rd_T26 l1 x6_1).f3)).bind fun t237 => (if ((x5_1 ++ ((⟨#[63, 32]⟩ : ByteArray) ++ t234)) ++ (⟨#[32, 45, 62, 32]⟩ : ByteArray)).size + t237.size ≤ 9223372036854775807 then (if (((x5_1 ++ ((⟨#[63, 32]⟩ : ByteArray) ++ t234)) ++ (⟨#[32, 45, 62, 32]⟩ : ByteArray)) ++ t237).size + 1 ≤ 9223372036854775807 then (pestleref54_Pairs.l0 k1 l0 l1 ((((x5_1 ++ ((⟨#[63, 32]⟩ : ByteArray) ++ t234)) ++ (⟨#[32, 45, 62, 32]⟩ : ByteArray)) ++ t237) ++ (⟨#[10]⟩ : ByteArray)) (wrap64 (x6_1 + 1))) else (none)) else (none))) else (none)) else (none)) else (none)) else (none)) = some r := H
            have A16 := Aside0.mk A160
            clear A160
            by_cases c17 : 2 + t234.size ≤ 9223372036854775807
            · rw [if_pos c17] at H
              have c17b0 := eq_true c17
              have c17b1 : decide (2 + t234.size ≤ 9223372036854775807) = true := decide_eq_true c17
              try have c17b2 : (9223372036854775807 < 2 + t234.size) = False := eq_false (Nat.not_lt.2 c17)
              by_cases c18 : x5_1.size + ((⟨#[63, 32]⟩ : ByteArray) ++ t234).size ≤ 9223372036854775807
              · rw [if_pos c18] at H
                have c18b0 := eq_true c18
                try (have c18d : x5_1.size + (2 + t234.size) ≤ 9223372036854775807 := by (have h_ := c18; simp only [ByteArray.size_append] at h_; exact h_)
                     have c18e := eq_false (Nat.not_lt.2 c18d)
                     replace c18d := eq_true c18d)
                have c18b1 : decide (x5_1.size + ((⟨#[63, 32]⟩ : ByteArray) ++ t234).size ≤ 9223372036854775807) = true := decide_eq_true c18
                try have c18b2 : (9223372036854775807 < x5_1.size + ((⟨#[63, 32]⟩ : ByteArray) ++ t234).size) = False := eq_false (Nat.not_lt.2 c18)
                by_cases c19 : (x5_1 ++ ((⟨#[63, 32]⟩ : ByteArray) ++ t234)).size + 4 ≤ 9223372036854775807
                · rw [if_pos c19] at H
                  have c19b0 := eq_true c19
                  try (have c19d : x5_1.size + (2 + t234.size) + 4 ≤ 9223372036854775807 := by (have h_ := c19; simp only [ByteArray.size_append] at h_; exact h_)
                       have c19e := eq_false (Nat.not_lt.2 c19d)
                       replace c19d := eq_true c19d)
                  have c19b1 : decide ((x5_1 ++ ((⟨#[63, 32]⟩ : ByteArray) ++ t234)).size + 4 ≤ 9223372036854775807) = true := decide_eq_true c19
                  try have c19b2 : (9223372036854775807 < (x5_1 ++ ((⟨#[63, 32]⟩ : ByteArray) ++ t234)).size + 4) = False := eq_false (Nat.not_lt.2 c19)
                  by_cases c20 : x6_1 < (l1.length : Int)
                  · rw [if_pos c20] at H
                    have c20b0 : decide (x6_1 < (l1.length : Int)) = true := decide_eq_true c20
                    clear c20
                    replace H := Option.bind_eq_some_iff.mp H
                    obtain ⟨t237, A210, H⟩ := H
                    replace H : (if ((x5_1 ++ ((⟨#[63, 32]⟩ : ByteArray) ++ t234)) ++ (⟨#[32, 45, 62, 32]⟩ : ByteArray)).size + t237.size ≤ 9223372036854775807 then (if (((x5_1 ++ ((⟨#[63, 32]⟩ : ByteArray) ++ t234)) ++ (⟨#[32, 45, 62, 32]⟩ : ByteArray)) ++ t237).size + 1 ≤ 9223372036854775807 then (pestleref54_Pairs.l0 k1 l0 l1 ((((x5_1 ++ ((⟨#[63, 32]⟩ : ByteArray) ++ t234)) ++ (⟨#[32, 45, 62, 32]⟩ : ByteArray)) ++ t237) ++ (⟨#[10]⟩ : ByteArray)) (wrap64 (x6_1 + 1))) else (none)) else (none)) = some r := H
                    have A21 := Aside0.mk A210
                    clear A210
                    by_cases c22 : ((x5_1 ++ ((⟨#[63, 32]⟩ : ByteArray) ++ t234)) ++ (⟨#[32, 45, 62, 32]⟩ : ByteArray)).size + t237.size ≤ 9223372036854775807
                    · rw [if_pos c22] at H
                      have c22b0 := eq_true c22
                      try (have c22d : x5_1.size + (2 + t234.size) + 4 + t237.size ≤ 9223372036854775807 := by (have h_ := c22; simp only [ByteArray.size_append] at h_; exact h_)
                           have c22e := eq_false (Nat.not_lt.2 c22d)
                           replace c22d := eq_true c22d)
                      have c22b1 : decide (((x5_1 ++ ((⟨#[63, 32]⟩ : ByteArray) ++ t234)) ++ (⟨#[32, 45, 62, 32]⟩ : ByteArray)).size + t237.size ≤ 9223372036854775807) = true := decide_eq_true c22
                      try have c22b2 : (9223372036854775807 < ((x5_1 ++ ((⟨#[63, 32]⟩ : ByteArray) ++ t234)) ++ (⟨#[32, 45, 62, 32]⟩ : ByteArray)).size + t237.size) = False := eq_false (Nat.not_lt.2 c22)
                      by_cases c23 : (((x5_1 ++ ((⟨#[63, 32]⟩ : ByteArray) ++ t234)) ++ (⟨#[32, 45, 62, 32]⟩ : ByteArray)) ++ t237).size + 1 ≤ 9223372036854775807
                      · rw [if_pos c23] at H
                        have c23b0 := eq_true c23
                        try (have c23d : x5_1.size + (2 + t234.size) + 4 + t237.size + 1 ≤ 9223372036854775807 := by (have h_ := c23; simp only [ByteArray.size_append] at h_; exact h_)
                             have c23e := eq_false (Nat.not_lt.2 c23d)
                             replace c23d := eq_true c23d)
                        have c23b1 : decide ((((x5_1 ++ ((⟨#[63, 32]⟩ : ByteArray) ++ t234)) ++ (⟨#[32, 45, 62, 32]⟩ : ByteArray)) ++ t237).size + 1 ≤ 9223372036854775807) = true := decide_eq_true c23
                        try have c23b2 : (9223372036854775807 < (((x5_1 ++ ((⟨#[63, 32]⟩ : ByteArray) ++ t234)) ++ (⟨#[32, 45, 62, 32]⟩ : ByteArray)) ++ t237).size + 1) = False := eq_false (Nat.not_lt.2 c23)
                        have H' := Aside0.mk H
                        clear H
                        have p228 : 0 ≤ (x6_1 : Int) := of_decide_eq_true (by first | (with_reducible assumption) | assumption)
                        have q228 : x6_1 < (l0.length : Int) := of_decide_eq_true (by first | (with_reducible assumption) | assumption)
                        obtain ⟨ad228, e228, hx228_0, hx228_1, hx228_2⟩ := at_T23 HR0.out x6_1 p228 q228
                        cases e228
                        replace hx228_0 := (HB.out.cell (World.block_lt_of_cell? w _ hx228_0)).trans hx228_0
                        replace hx228_1 := (HB.out.cell (World.block_lt_of_cell? w _ hx228_1)).trans hx228_1
                        replace hx228_2 := (HB.out.cell (World.block_lt_of_cell? w _ hx228_2)).trans hx228_2
                        replace p228 := eq_true p228
                        replace q228 := eq_true q228
                        try go_wp2_with (first | ((with_reducible refine gate_callee (f := 49) rfl ?_); refine goesL_ (some 20) rfl rfl Try.func49 (by kernel_rfl) rfl #[.agg #[.int .i64 ((rd_T23 l0 x6_1).f0), .string ((rd_T23 l0 x6_1).f1), .string ((rd_T23 l0 x6_1).f2)]] rfl (by (try simp only [List.map_toArray, List.map_cons, List.map_nil]); first | done | rfl | (simp only [List.length_drop, List.length_take]; rfl)) ?_; (with_reducible refine (pestleref53_Line.calls k1 ((rd_T23 l0 x6_1).f0) ((rd_T23 l0 x6_1).f1) ((rd_T23 l0 x6_1).f2) t229 t230 _ A5.out).mono ?_); rintro e w24 ⟨rfl, hb⟩; refine ⟨_, rfl, ?_⟩; have n0_ := Aside0.mk (below_step (by repeat (first | (with_reducible first | exact HB.out | apply below_alloc | apply pw_below_drewN | apply below_drew1) | exact HB.out)) hb); clear HB; have HB := n0_; clear n0_; (try clear hb); (try clear hb2); (try clear hk); (try clear hi)) | ((with_reducible refine gate_callee (f := 17) rfl ?_); refine goesL_ (some 26) rfl rfl Try.func17 (by kernel_rfl) rfl #[.int .i64 t230] rfl (by (try simp only [List.map_toArray, List.map_cons, List.map_nil]); first | done | rfl | (simp only [List.length_drop, List.length_take]; rfl)) ?_; (with_reducible refine (pestleref54_Name.calls t230 t234 _ A16.out).mono ?_); rintro e w25 ⟨rfl, hb⟩; refine ⟨_, rfl, ?_⟩; have n0_ := Aside0.mk (below_step (by repeat (first | (with_reducible first | exact HB.out | apply below_alloc | apply pw_below_drewN | apply below_drew1) | exact HB.out)) hb); clear HB; have HB := n0_; clear n0_; (try clear hb); (try clear hb2); (try clear hk); (try clear hi)))
                        have n0_ := Aside0.mk (below_drew1 HB.out)
                        clear HB
                        have HB := n0_
                        clear n0_
                        have p235 : 0 ≤ (x6_1 : Int) := of_decide_eq_true (by first | (with_reducible assumption) | assumption)
                        have q235 : x6_1 < (l0.length : Int) := of_decide_eq_true (by first | (with_reducible assumption) | assumption)
                        obtain ⟨ad235, e235, hx235_0, hx235_1, hx235_2⟩ := at_T23 HR0.out x6_1 p235 q235
                        have hw235_2 := hx235_2
                        have hw235_1 := hx235_1
                        have hw235_0 := hx235_0
                        obtain rfl : ad228 = ad235 := (by injection e235)
                        replace hx235_0 := (HB.out.cell (World.block_lt_of_cell? w _ hx235_0)).trans hx235_0
                        replace hx235_1 := (HB.out.cell (World.block_lt_of_cell? w _ hx235_1)).trans hx235_1
                        replace hx235_2 := (HB.out.cell (World.block_lt_of_cell? w _ hx235_2)).trans hx235_2
                        replace p235 := eq_true p235
                        replace q235 := eq_true q235
                        have p236 : 0 ≤ (x6_1 : Int) := of_decide_eq_true (by first | (with_reducible assumption) | assumption)
                        have q236 : x6_1 < (l1.length : Int) := of_decide_eq_true (by first | (with_reducible assumption) | assumption)
                        obtain ⟨ad236, e236, hx236_0, hx236_1, hx236_2, hx236_3⟩ := at_T26 HR1.out x6_1 p236 q236
                        have hw236_3 := hx236_3
                        have hw236_2 := hx236_2
                        have hw236_1 := hx236_1
                        have hw236_0 := hx236_0
                        cases e236
                        replace hx236_0 := (HB.out.cell (World.block_lt_of_cell? w _ hx236_0)).trans hx236_0
                        replace hx236_1 := (HB.out.cell (World.block_lt_of_cell? w _ hx236_1)).trans hx236_1
                        replace hx236_2 := (HB.out.cell (World.block_lt_of_cell? w _ hx236_2)).trans hx236_2
                        replace hx236_3 := (HB.out.cell (World.block_lt_of_cell? w _ hx236_3)).trans hx236_3
                        replace p236 := eq_true p236
                        replace q236 := eq_true q236
                        refine start_ (n := 16) (S := fun w' => w'.cell? (ad228.add ((x6_1).toNat * 3)) = some (.int .i64 ((rd_T23 l0 x6_1).f0)) ∧ w'.cell? ⟨(ad228.add ((x6_1).toNat * 3)).block, (ad228.add ((x6_1).toNat * 3)).off + 1, none⟩ = some (.string ((rd_T23 l0 x6_1).f1)) ∧ w'.cell? ⟨(ad228.add ((x6_1).toNat * 3)).block, (ad228.add ((x6_1).toNat * 3)).off + 2, none⟩ = some (.string ((rd_T23 l0 x6_1).f2)) ∧ w'.cell? (ad236.add ((x6_1).toNat * 4)) = some (.int .i64 ((rd_T26 l1 x6_1).f0)) ∧ w'.cell? ⟨(ad236.add ((x6_1).toNat * 4)).block, (ad236.add ((x6_1).toNat * 4)).off + 1, none⟩ = some (.string ((rd_T26 l1 x6_1).f1)) ∧ w'.cell? ⟨(ad236.add ((x6_1).toNat * 4)).block, (ad236.add ((x6_1).toNat * 4)).off + 2, none⟩ = some (.bool ((rd_T26 l1 x6_1).f2)) ∧ w'.cell? ⟨(ad236.add ((x6_1).toNat * 4)).block, (ad236.add ((x6_1).toNat * 4)).off + 3, none⟩ = some (.int .i64 ((rd_T26 l1 x6_1).f3))) (ds := []) #[false, false, false, false, false, false, false, false, false, false, false, false, false, false, false, false] (by kernel_rfl) rfl rfl ⟨((HB.out.cell (World.block_lt_of_cell? w _ hw235_0)).trans hw235_0), ((HB.out.cell (World.block_lt_of_cell? w _ hw235_1)).trans hw235_1), ((HB.out.cell (World.block_lt_of_cell? w _ hw235_2)).trans hw235_2), ((HB.out.cell (World.block_lt_of_cell? w _ hw236_0)).trans hw236_0), ((HB.out.cell (World.block_lt_of_cell? w _ hw236_1)).trans hw236_1), ((HB.out.cell (World.block_lt_of_cell? w _ hw236_2)).trans hw236_2), ((HB.out.cell (World.block_lt_of_cell? w _ hw236_3)).trans hw236_3)⟩ (fun hHeld => ?_); refine with_tabW pestleref54_Pairs.tab8 pestleref54_Pairs.bits8 (fun HT_ HW_ => ?_)
                        generalize w25.drew = w26 at HB hx235_0 hx235_1 hx235_2 hx236_0 hx236_1 hx236_2 hx236_3 hHeld ⊢
                        refine pure_ (i := 0) (N := some 28) (v := ?_) (a' := ?_) #[true, false, false, false, false, false, false, false, false, false, false, false, false, false, false, false] rfl rfl (any_of HT_.out (by kernel_rfl)) (fun _ _ _ h => h) (Or.inl ⟨by rfl, ?_⟩) ?_ ?_
                        rotate_left
                        · intro w'
                          go_simp
                          with_reducible rfl
                        rotate_left
                        · simp only [Act.put, List.setIfInBounds_toArray, List.set_cons_zero, List.set_cons_succ, i64_w, i32_w]
                          rfl
                        refine pure_ (i := 1) (N := some 29) (v := ?_) (a' := ?_) #[true, true, false, false, false, false, false, false, false, false, false, false, false, false, false, false] rfl rfl (any_of HT_.out (by kernel_rfl)) (fun _ _ _ h => h) (Or.inl ⟨by rfl, ?_⟩) ?_ ?_
                        rotate_left
                        · intro w'
                          go_simp
                          with_reducible rfl
                        rotate_left
                        · simp only [Act.put, List.setIfInBounds_toArray, List.set_cons_zero, List.set_cons_succ, i64_w, i32_w]
                          rfl
                        refine pure_ (i := 2) (N := some 30) (v := ?_) (a' := ?_) #[true, true, true, false, false, false, false, false, false, false, false, false, false, false, false, false] rfl rfl (any_of HT_.out (by kernel_rfl)) (fun _ _ _ h => h) (Or.inl ⟨by rfl, ?_⟩) ?_ ?_
                        rotate_left
                        · intro w'
                          go_simp
                          with_reducible rfl
                        rotate_left
                        · simp only [Act.put, List.setIfInBounds_toArray, List.set_cons_zero, List.set_cons_succ, i64_w, i32_w]
                          rfl
                        refine pure_ (i := 3) (N := some 31) (v := ?_) (a' := ?_) #[true, true, true, true, false, false, false, false, false, false, false, false, false, false, false, false] rfl rfl (any_of HT_.out (by kernel_rfl)) (fun _ _ _ h => h) (Or.inl ⟨by rfl, ?_⟩) ?_ ?_
                        rotate_left
                        · intro w'
                          go_simp
                          with_reducible rfl
                        rotate_left
                        · simp only [Act.put, List.setIfInBounds_toArray, List.set_cons_zero, List.set_cons_succ, i64_w, i32_w]
                          rfl
                        refine pure_ (i := 4) (N := some 32) (v := ?_) (a' := ?_) #[true, true, true, true, true, false, false, false, false, false, false, false, false, false, false, false] rfl rfl (any_of HT_.out (by kernel_rfl)) (fun _ _ _ h => h) (Or.inl ⟨by rfl, ?_⟩) ?_ ?_
                        rotate_left
                        · intro w'
                          go_simp
                          with_reducible rfl
                        rotate_left
                        · simp only [Act.put, List.setIfInBounds_toArray, List.set_cons_zero, List.set_cons_succ, i64_w, i32_w]
                          rfl
                        refine pure_ (i := 5) (N := some 33) (v := ?_) (a' := ?_) #[true, true, true, true, true, true, false, false, false, false, false, false, false, false, false, false] rfl rfl (any_of HT_.out (by kernel_rfl)) (fun _ _ _ h => h) (Or.inl ⟨by rfl, ?_⟩) ?_ ?_
                        rotate_left
                        · intro w'
                          go_simp
                          with_reducible rfl
                        rotate_left
                        · simp only [Act.put, List.setIfInBounds_toArray, List.set_cons_zero, List.set_cons_succ, i64_w, i32_w]
                          rfl
                        refine pure_ (i := 6) (N := some 34) (v := ?_) (a' := ?_) #[true, true, true, true, true, true, true, false, false, false, false, false, false, false, false, false] rfl rfl (any_of HT_.out (by kernel_rfl)) (fun _ _ _ h => h) (Or.inl ⟨by rfl, ?_⟩) ?_ ?_
                        rotate_left
                        · intro w'
                          go_simp
                          with_reducible rfl
                        rotate_left
                        · simp only [Act.put, List.setIfInBounds_toArray, List.set_cons_zero, List.set_cons_succ, i64_w, i32_w]
                          rfl
                        refine pure_ (i := 8) (N := some 36) (v := ?_) (a' := ?_) #[true, true, true, true, true, true, true, false, true, false, false, false, false, false, false, false] rfl rfl (any_of HT_.out (by kernel_rfl)) (fun _ _ _ h => h) (Or.inl ⟨by rfl, ?_⟩) ?_ ?_
                        rotate_left
                        · intro w'
                          go_simp
                          with_reducible rfl
                        rotate_left
                        · simp only [Act.put, List.setIfInBounds_toArray, List.set_cons_zero, List.set_cons_succ, i64_w, i32_w]
                          rfl
                        refine pure_ (i := 9) (N := some 37) (v := ?_) (a' := ?_) #[true, true, true, true, true, true, true, false, true, true, false, false, false, false, false, false] rfl rfl (any_of HT_.out (by kernel_rfl)) (fun _ _ _ h => h) (Or.inl ⟨by rfl, ?_⟩) ?_ ?_
                        rotate_left
                        · intro w'
                          go_simp
                          with_reducible rfl
                        rotate_left
                        · simp only [Act.put, List.setIfInBounds_toArray, List.set_cons_zero, List.set_cons_succ, i64_w, i32_w]
                          rfl
                        refine pure_ (i := 10) (N := some 38) (v := ?_) (a' := ?_) #[true, true, true, true, true, true, true, false, true, true, true, false, false, false, false, false] rfl rfl (any_of HT_.out (by kernel_rfl)) (fun _ _ _ h => h) (Or.inl ⟨by rfl, ?_⟩) ?_ ?_
                        rotate_left
                        · intro w'
                          go_simp
                          with_reducible rfl
                        rotate_left
                        · simp only [Act.put, List.setIfInBounds_toArray, List.set_cons_zero, List.set_cons_succ, i64_w, i32_w]
                          rfl
                        refine take_ (i := 7) (N := some 35) (v := ?_) (a' := ?_) #[true, true, true, true, true, true, true, true, true, true, true, false, false, false, false, false] rfl rfl (take_ofW HT_.out HW_.out (by kernel_rfl)) (fun _ _ _ h => h) (Or.inl ⟨by rfl, ?_⟩) hHeld ?_ ?_
                        rotate_left
                        · rintro w' ⟨s0, s1, s2, s3, s4, s5, s6⟩
                          go_simp
                          with_reducible rfl
                        rotate_left
                        · simp only [Act.put, List.setIfInBounds_toArray, List.set_cons_zero, List.set_cons_succ, i64_w, i32_w]
                          rfl
                        refine take_ (i := 11) (N := some 39) (v := ?_) (a' := ?_) #[true, true, true, true, true, true, true, true, true, true, true, true, false, false, false, false] rfl rfl (take_ofW HT_.out HW_.out (by kernel_rfl)) (fun _ _ _ h => h) (Or.inl ⟨by rfl, ?_⟩) hHeld ?_ ?_
                        rotate_left
                        · rintro w' ⟨s0, s1, s2, s3, s4, s5, s6⟩
                          go_simp
                          with_reducible rfl
                        rotate_left
                        · simp only [Act.put, List.setIfInBounds_toArray, List.set_cons_zero, List.set_cons_succ, i64_w, i32_w]
                          rfl
                        refine one_ (i := 12) (N := some 40) #[true, true, true, true, true, true, true, true, true, true, true, true, true, false, false, false] rfl rfl (one_of HT_.out (by kernel_rfl)) (by decide) (fun K hK => ?_)
                        refine goes_ Try.func13 (by kernel_rfl) rfl #[.agg #[.int .i64 ((rd_T23 l0 x6_1).f0), .string ((rd_T23 l0 x6_1).f1), .string ((rd_T23 l0 x6_1).f2)], .agg #[.int .i64 ((rd_T26 l1 x6_1).f0), .string ((rd_T26 l1 x6_1).f1), .bool ((rd_T26 l1 x6_1).f2), .int .i64 ((rd_T26 l1 x6_1).f3)]] (by rfl) rfl rfl (by (try simp only [List.map_toArray, List.map_cons, List.map_nil]); first | done | rfl | (simp only [List.length_drop, List.length_take]; rfl)) ?_
                        with_reducible refine (pestleref54_Reply.calls k1 ((rd_T23 l0 x6_1).f0) ((rd_T23 l0 x6_1).f1) ((rd_T23 l0 x6_1).f2) ((rd_T26 l1 x6_1).f0) ((rd_T26 l1 x6_1).f1) ((rd_T26 l1 x6_1).f2) ((rd_T26 l1 x6_1).f3) t237 _ A21.out).mono ?_
                        rintro e w27 ⟨rfl, hb⟩
                        refine ⟨_, rfl, ?_⟩
                        have n0_ := Aside0.mk (below_step (by repeat (first | (with_reducible first | exact HB.out | apply below_alloc | apply pw_below_drewN | apply below_drew1) | exact HB.out)) hb)
                        clear HB
                        have HB := n0_
                        clear n0_
                        (try clear hb)
                        (try clear hb2)
                        (try clear hk)
                        (try clear hi)
                        refine hK.out _ _ ⟨((HB.out.cell (World.block_lt_of_cell? w _ hw235_0)).trans hw235_0), ((HB.out.cell (World.block_lt_of_cell? w _ hw235_1)).trans hw235_1), ((HB.out.cell (World.block_lt_of_cell? w _ hw235_2)).trans hw235_2), ((HB.out.cell (World.block_lt_of_cell? w _ hw236_0)).trans hw236_0), ((HB.out.cell (World.block_lt_of_cell? w _ hw236_1)).trans hw236_1), ((HB.out.cell (World.block_lt_of_cell? w _ hw236_2)).trans hw236_2), ((HB.out.cell (World.block_lt_of_cell? w _ hw236_3)).trans hw236_3)⟩ (fun hHeld => ?_)
                        clear hK K
                        refine norm_ (a' := ?_) ?_ ?_
                        rotate_left
                        · show Act.put _ (some 40) _ = _
                          simp only [Act.put, List.setIfInBounds_toArray, List.set_cons_zero, List.set_cons_succ, i64_w, i32_w]
                          rfl
                        refine pure_ (i := 13) (N := some 41) (v := ?_) (a' := ?_) #[true, true, true, true, true, true, true, true, true, true, true, true, true, true, false, false] rfl rfl (any_of HT_.out (by kernel_rfl)) (fun _ _ _ h => h) (Or.inl ⟨by rfl, ?_⟩) ?_ ?_
                        rotate_left
                        · intro w'
                          go_simp
                          with_reducible rfl
                        rotate_left
                        · simp only [Act.put, List.setIfInBounds_toArray, List.set_cons_zero, List.set_cons_succ, i64_w, i32_w]
                          rfl
                        refine pure_ (i := 14) (N := some 42) (v := ?_) (a' := ?_) #[true, true, true, true, true, true, true, true, true, true, true, true, true, true, true, false] rfl rfl (any_of HT_.out (by kernel_rfl)) (fun _ _ _ h => h) (Or.inl ⟨by rfl, ?_⟩) ?_ ?_
                        rotate_left
                        · intro w'
                          go_simp
                          with_reducible rfl
                        rotate_left
                        · simp only [Act.put, List.setIfInBounds_toArray, List.set_cons_zero, List.set_cons_succ, i64_w, i32_w]
                          rfl
                        refine pure_ (i := 15) (N := some 5) (v := ?_) (a' := ?_) #[true, true, true, true, true, true, true, true, true, true, true, true, true, true, true, true] rfl rfl (any_of HT_.out (by kernel_rfl)) (fun _ _ _ h => h) (Or.inl ⟨by rfl, ?_⟩) ?_ ?_
                        rotate_left
                        · intro w'
                          go_simp
                          with_reducible rfl
                        rotate_left
                        · simp only [Act.put, List.setIfInBounds_toArray, List.set_cons_zero, List.set_cons_succ, i64_w, i32_w]
                          rfl
                        refine done_ (done_of HT_.out (by kernel_rfl)) ?_
                        try go_wp2
                        go_roundg k1
                        case measure => have := HK1.out; omega
                        case rel => exact ⟨((((x5_1 ++ ((⟨#[63, 32]⟩ : ByteArray) ++ t234)) ++ (⟨#[32, 45, 62, 32]⟩ : ByteArray)) ++ t237) ++ (⟨#[10]⟩ : ByteArray)), (wrap64 (x6_1 + 1)), (by first | rfl | (simp; done) | (simp [*]; done)), (by first | rfl | (simp; done) | (simp [*]; done)), H', ⟨by have := HK1.out; omega⟩, ⟨by repeat (first | (with_reducible first | exact HB.out | apply below_alloc | apply pw_below_drewN | apply below_drew1) | exact HB.out)⟩⟩
                      · rw [if_neg c23] at H
                        exact absurd H (by simp)
                    · rw [if_neg c22] at H
                      exact absurd H (by simp)
                  · rw [if_neg c20] at H
                    exact absurd H (by simp)
                · rw [if_neg c19] at H
                  exact absurd H (by simp)
              · rw [if_neg c18] at H
                exact absurd H (by simp)
            · rw [if_neg c17] at H
              exact absurd H (by simp)
        · rw [if_neg c4] at H
          exact absurd H (by simp)
      · rw [if_neg c3] at H
        have c3b0 : decide (x6_1 < (l0.length : Int)) = false := decide_eq_false c3
        clear c3
        obtain rfl := Option.some.inj H
        go_wp2
        go_ret
        exact ⟨by first | rfl | (simp [errW_none, errW_some] <;> rfl) | (simp [*, errW_none, errW_some] <;> rfl), by repeat (first | (with_reducible first | exact HB.out | apply below_alloc | apply pw_below_drewN | apply below_drew1) | exact HB.out)⟩

end
end Go.Proofs.Ytdieefjolkhmpaa.PRp
