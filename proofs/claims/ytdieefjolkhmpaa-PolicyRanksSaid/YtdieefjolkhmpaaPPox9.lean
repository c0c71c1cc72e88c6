/- Each Go function that the law reaches has the same answers as the Lean function of its name: contracts, written by a program of this session. -/
import Derived.Test.YtdieefjolkhmpaaPPox0
import Derived.Test.YtdieefjolkhmpaaPPox3
import Derived.Test.YtdieefjolkhmpaaPPox4
namespace Go.Proofs.Ytdieefjolkhmpaa.PPo
open Go.RowKit Go.Proofs.YtdieefjolkhmpaaW.PrintWords Go.Proofs.YtdieefjolkhmpaaW.PrintLast Go.Proofs.YtdieefjolkhmpaaW.PrintMore
attribute [local go_sem] max2_int min2_int max_two min_two max_three min_three max_four min_four   -- for this text's walks alone
set_option linter.unusedVariables false
set_option linter.unusedSimpArgs false
attribute [local go_sem] IntKind.wrap_u8 IntKind.wrap_u32
noncomputable section

/-! ### pestlelaw46_PolicyRanks: function 6 -/
open Go.Proofs.Ytdieefjolkhmpaa.Own
def pestlelaw46_PolicyRanks.f (k : Nat) (a0_0 a0_1 a0_2 a0_3 a0_4 a0_5 a0_6 a0_7 a0_8 a0_9 a0_10 a0_11 a0_12 : Int) : Option Bool := pestlelaw46_awake.f k
theorem pestlelaw46_PolicyRanks.mono : ∀ a0 a1 a2 a3 a4 a5 a6 a7 a8 a9 a10 a11 a12 k, LeO (pestlelaw46_PolicyRanks.f k a0 a1 a2 a3 a4 a5 a6 a7 a8 a9 a10 a11 a12) (pestlelaw46_PolicyRanks.f (k + 1) a0 a1 a2 a3 a4 a5 a6 a7 a8 a9 a10 a11 a12) := by
  intro a0 a1 a2 a3 a4 a5 a6 a7 a8 a9 a10 a11 a12 k
  exact pestlelaw46_awake.mono k
set_option maxHeartbeats 8000000 in
set_option maxRecDepth 100000 in
theorem pestlelaw46_PolicyRanks.calls (k : Nat) (a0_0 a0_1 a0_2 a0_3 a0_4 a0_5 a0_6 a0_7 a0_8 a0_9 a0_10 a0_11 a0_12 : Int) (r : Bool) (w : World) (h : pestlelaw46_PolicyRanks.f k a0_0 a0_1 a0_2 a0_3 a0_4 a0_5 a0_6 a0_7 a0_8 a0_9 a0_10 a0_11 a0_12 = some r) :
    Calls Try.prog 6 #[.agg #[.int .i64 a0_0, .int .i64 a0_1, .int .i64 a0_2, .int .i64 a0_3, .int .i64 a0_4, .int .i64 a0_5, .int .i64 a0_6, .int .i64 a0_7, .int .i64 a0_8, .int .i64 a0_9, .int .i64 a0_10, .int .i64 a0_11, .int .i64 a0_12]] w fun e w' => e = .returned (.bool r) ∧ Below w.heap.size w w' := by
  unfold pestlelaw46_PolicyRanks.f at h
  have H37 := Aside0.mk (heap_alloc_new w (.cells #[.int .i64 a0_0, .int .i64 a0_1, .int .i64 a0_2, .int .i64 a0_3, .int .i64 a0_4, .int .i64 a0_5, .int .i64 a0_6, .int .i64 a0_7, .int .i64 a0_8, .int .i64 a0_9, .int .i64 a0_10, .int .i64 a0_11, .int .i64 a0_12] 37))
  have HB := Aside0.mk (below_alloc (Below.refl w.heap.size w) (.cells #[.int .i64 a0_0, .int .i64 a0_1, .int .i64 a0_2, .int .i64 a0_3, .int .i64 a0_4, .int .i64 a0_5, .int .i64 a0_6, .int .i64 a0_7, .int .i64 a0_8, .int .i64 a0_9, .int .i64 a0_10, .int .i64 a0_11, .int .i64 a0_12] 37))
  have HZ : w.heap.size < (w.alloc (.cells #[.int .i64 a0_0, .int .i64 a0_1, .int .i64 a0_2, .int .i64 a0_3, .int .i64 a0_4, .int .i64 a0_5, .int .i64 a0_6, .int .i64 a0_7, .int .i64 a0_8, .int .i64 a0_9, .int .i64 a0_10, .int .i64 a0_11, .int .i64 a0_12] 37)).heap.size := by simp
  have H := Aside0.mk h
  clear h
  go_enter Try.func6, Try.ntmps6
  go_upto_region 1 with (fail)
  generalize w.alloc (.cells #[.int .i64 a0_0, .int .i64 a0_1, .int .i64 a0_2, .int .i64 a0_3, .int .i64 a0_4, .int .i64 a0_5, .int .i64 a0_6, .int .i64 a0_7, .int .i64 a0_8, .int .i64 a0_9, .int .i64 a0_10, .int .i64 a0_11, .int .i64 a0_12] 37) = w1 at H37 HB HZ ⊢
  have c0 : w1.cell? ⟨w.heap.size, 0, none⟩ = some (.int .i64 a0_0) := cell_of_row _ _ 0 _ _ _ H37.out
  have c1 : w1.cell? ⟨w.heap.size, 1, none⟩ = some (.int .i64 a0_1) := cell_of_row _ _ 1 _ _ _ H37.out
  have c2 : w1.cell? ⟨w.heap.size, 2, none⟩ = some (.int .i64 a0_2) := cell_of_row _ _ 2 _ _ _ H37.out
  have c3 : w1.cell? ⟨w.heap.size, 3, none⟩ = some (.int .i64 a0_3) := cell_of_row _ _ 3 _ _ _ H37.out
  have c4 : w1.cell? ⟨w.heap.size, 4, none⟩ = some (.int .i64 a0_4) := cell_of_row _ _ 4 _ _ _ H37.out
  have c5 : w1.cell? ⟨w.heap.size, 5, none⟩ = some (.int .i64 a0_5) := cell_of_row _ _ 5 _ _ _ H37.out
  have c6 : w1.cell? ⟨w.heap.size, 6, none⟩ = some (.int .i64 a0_6) := cell_of_row _ _ 6 _ _ _ H37.out
  have c7 : w1.cell? ⟨w.heap.size, 7, none⟩ = some (.int .i64 a0_7) := cell_of_row _ _ 7 _ _ _ H37.out
  have c8 : w1.cell? ⟨w.heap.size, 8, none⟩ = some (.int .i64 a0_8) := cell_of_row _ _ 8 _ _ _ H37.out
  have c9 : w1.cell? ⟨w.heap.size, 9, none⟩ = some (.int .i64 a0_9) := cell_of_row _ _ 9 _ _ _ H37.out
  have c10 : w1.cell? ⟨w.heap.size, 10, none⟩ = some (.int .i64 a0_10) := cell_of_row _ _ 10 _ _ _ H37.out
  have c11 : w1.cell? ⟨w.heap.size, 11, none⟩ = some (.int .i64 a0_11) := cell_of_row _ _ 11 _ _ _ H37.out
  have c12 : w1.cell? ⟨w.heap.size, 12, none⟩ = some (.int .i64 a0_12) := cell_of_row _ _ 12 _ _ _ H37.out
  cases r
  · go_wp2_with (go_at_call 18; (with_reducible refine (pestlelaw46_awake.calls k _ _ H.out).mono ?_); rintro e w2 ⟨rfl, hb⟩; have n_ : Aside0 (Below w.heap.size w w2) := Aside0.mk (by first | exact below_step HB.out hb | exact below_step (pw_below_drewN HB.out _) hb); clear HB; have HB := n_; clear n_; have hzz := hb.size; have H37' := Aside0.mk ((hb.block w.heap.size (by omega)).trans H37.out); clear hb H37; have H37 := H37'; clear H37')
    go_ret
    exact ⟨rfl, HB.out⟩
  · go_upto_region 3 with (go_at_call 18; (with_reducible refine (pestlelaw46_awake.calls k _ _ H.out).mono ?_); rintro e w2 ⟨rfl, hb⟩; have n_ : Aside0 (Below w.heap.size w w2) := Aside0.mk (by first | exact below_step HB.out hb | exact below_step (pw_below_drewN HB.out _) hb); clear HB; have HB := n_; clear n_; have hzz := hb.size; have H37' := Aside0.mk ((hb.block w.heap.size (by omega)).trans H37.out); clear hb H37; have H37 := H37'; clear H37')
    clear c0 c1 c2 c3 c4 c5 c6 c7 c8 c9 c10 c11 c12 H
    have c0 : w2.cell? ⟨w.heap.size, 0, none⟩ = some (.int .i64 a0_0) := cell_of_row _ _ 0 _ _ _ H37.out
    have c1 : w2.cell? ⟨w.heap.size, 1, none⟩ = some (.int .i64 a0_1) := cell_of_row _ _ 1 _ _ _ H37.out
    have c2 : w2.cell? ⟨w.heap.size, 2, none⟩ = some (.int .i64 a0_2) := cell_of_row _ _ 2 _ _ _ H37.out
    have c3 : w2.cell? ⟨w.heap.size, 3, none⟩ = some (.int .i64 a0_3) := cell_of_row _ _ 3 _ _ _ H37.out
    have c4 : w2.cell? ⟨w.heap.size, 4, none⟩ = some (.int .i64 a0_4) := cell_of_row _ _ 4 _ _ _ H37.out
    have c5 : w2.cell? ⟨w.heap.size, 5, none⟩ = some (.int .i64 a0_5) := cell_of_row _ _ 5 _ _ _ H37.out
    have c6 : w2.cell? ⟨w.heap.size, 6, none⟩ = some (.int .i64 a0_6) := cell_of_row _ _ 6 _ _ _ H37.out
    have c7 : w2.cell? ⟨w.heap.size, 7, none⟩ = some (.int .i64 a0_7) := cell_of_row _ _ 7 _ _ _ H37.out
    have c8 : w2.cell? ⟨w.heap.size, 8, none⟩ = some (.int .i64 a0_8) := cell_of_row _ _ 8 _ _ _ H37.out
    have c9 : w2.cell? ⟨w.heap.size, 9, none⟩ = some (.int .i64 a0_9) := cell_of_row _ _ 9 _ _ _ H37.out
    have c10 : w2.cell? ⟨w.heap.size, 10, none⟩ = some (.int .i64 a0_10) := cell_of_row _ _ 10 _ _ _ H37.out
    have c11 : w2.cell? ⟨w.heap.size, 11, none⟩ = some (.int .i64 a0_11) := cell_of_row _ _ 11 _ _ _ H37.out
    have c12 : w2.cell? ⟨w.heap.size, 12, none⟩ = some (.int .i64 a0_12) := cell_of_row _ _ 12 _ _ _ H37.out
    have hs := seven_cell H37.out
    generalize hR : ([a0_6, a0_7, a0_8, a0_9, a0_10, a0_11, a0_12] : List Int) = R at hs
    have HRR := Aside0.mk hR
    clear hR
    have HC := Aside0.mk hs
    clear hs
    go_upto_region 4 with (go_at_call 26; (with_reducible refine (policy_Ranked.calls a0_0 a0_1 a0_2 a0_3 a0_4 a0_5 a0_6 a0_7 a0_8 a0_9 a0_10 a0_11 a0_12 (rankedFrom R 6 1 []) _ (by unfold policy_Ranked.f; rw [HRR.out])).mono ?_); rintro e w3 ⟨v_, rfl, ho, hb⟩; have n_ : Aside0 (Below w.heap.size w w3) := Aside0.mk (below_step HB.out hb); clear HB; have HB := n_; clear n_; have hz3 := hb.size; have hw := (hb.block w.heap.size (by omega)); clear hb)
    have HC3 : Aside0 (∀ x : Int, 0 ≤ x → x < 7 → w3.cell? ⟨w.heap.size, 6 + x.toNat, none⟩ = some (.int .i64 (rd R x))) := Aside0.mk (fun x h0 h1 => (World.cell?_of_block hw).trans (HC.out x h0 h1))
    clear HC hw
    have HF := Aside0.mk (ranked_facts R)
    generalize rankedFrom R 6 1 [] = xs at ho HF
    have HO := Aside0.mk ho
    clear ho c0 c1 c2 c3 c4 c5 c6 c7 c8 c9 c10 c11 c12
    go_wp2
    go_loop [4, 5] (fun v4 v5 => ∃ a : Nat, a ≤ 6 ∧ v5 = .int .i64 ((a : Int) + 1) ∧ v4 = .int .i64 (cntTo R a)) (fun _ v5 => 7 - (intOf v5).toNat)
    case atStart => exact ⟨0, by omega, rfl, rfl⟩
    case round =>
      obtain ⟨a, ha, rfl, rfl⟩ := hrel
      have hcl : ∀ a : Nat, cntTo R a ≤ a := fun a => by
        induction a with
        | zero => exact Nat.le_refl _
        | succ a ih => unfold cntTo; split <;> omega
      have hca := hcl a
      clear hcl
      obtain ⟨b, hb⟩ : ∃ b : Int, b = (a : Int) + 1 := ⟨_, rfl⟩
      by_cases c7 : a < 6
      · have hce := HC3.out b (by omega) (by omega)
        have hcs : cntTo R (a + 1) = cntTo R a + if rd R b < 1 then 0 else 1 := by rw [hb]; rfl
        have HCS := Aside0.mk hcs
        clear hcs
        rw [← hb]
        have hb0 : 0 ≤ b := by omega
        have hb7 : b < 7 := by omega
        have db0 : decide (0 ≤ b) = true := decide_eq_true hb0
        have db7 : decide (b < 7) = true := decide_eq_true hb7
        have HBB := Aside0.mk hb
        clear hb
        by_cases c8 : rd R b < 1
        · have d8 : decide (0 < rd R b) = false := decide_eq_false (by omega)
          go_wp2
          go_round
          case rel => exact ⟨a + 1, by omega, by rw [HBB.out]; rfl, by rw [HCS.out, if_pos c8]; rfl⟩
          case measure => simp only [intOf]; have := HBB.out; omega
        · have d8 : decide (0 < rd R b) = true := decide_eq_true (by omega)
          go_wp2
          go_round
          case rel => exact ⟨a + 1, by omega, by rw [HBB.out]; rfl, by rw [HCS.out, if_neg c8]; rfl⟩
          case measure => simp only [intOf]; have := HBB.out; omega
      · obtain rfl : a = 6 := by omega
        clear hb
        obtain ⟨v_A, v_c, hv⟩ := Kd.R_slice HO.out
        subst hv
        have hl7 : xs.length ≤ 6 := by have := HF.out.1; omega
        have e1 : (((xs.length : Nat) : Int) != ((cntTo R 6 : Nat) : Int)) = false := bne_eq_false_iff_eq.mpr (by have := HF.out.1; omega)
        have e2 : ((xs.length : Nat) != (cntTo R 6 : Nat)) = false := bne_eq_false_iff_eq.mpr HF.out.1
        have d9 : decide (((6 : Nat) : Int) + 1 < 7) = false := rfl
        go_wp2
        clear e1 e2 d9
        go_loopw [29] (fun v29 wq => ∃ (y : Int) (n : Nat), 0 ≤ y ∧ y ≤ xs.length ∧ v29 = .int .i64 y ∧ wq = w3.drewN n) (fun v29 _ => xs.length - (intOf v29).toNat)
        case atStart => exact ⟨0, 0, by omega, by omega, rfl, rfl⟩
        case round =>
          obtain ⟨y, n, hy0, hy1, rfl, rfl⟩ := hrel
          by_cases c8 : y < (xs.length : Int)
          · have hm := HF.out.2.1 (rd xs y) (by have := rd_mem xs y.toNat (by omega); rwa [show ((y.toNat : Nat) : Int) = y by omega] at this)
            obtain ⟨ad, cs, z1, z2, z3, z4⟩ := Kd.C_get (Kd.R_reads' HO.out).2.2 0 y (by omega) (by omega)
            subst z1
            have z5 : cs = [.int .i64 (rd xs y)] := z3
            subst z5
            have q1 : w3.cell? (ad.add y.toNat) = some (.int .i64 (rd xs y)) := by
              have := z4 0 _ rfl
              rw [show y.toNat * (Kd.int .i64).sz + 0 = y.toNat from Nat.mul_one _] at this
              exact this
            have q2 := HC3.out (rd xs y) (by omega) hm.2.1
            have hah : 0 < y → rankAhead R (rd xs (y - 1)) (rd xs y) := fun h => by
              have := HF.out.2.2 y.toNat (by omega) (by omega)
              rwa [show ((y.toNat : Nat) : Int) = y by omega, show ((y.toNat - 1 : Nat) : Int) = y - 1 by omega] at this
            clear z2 z3
            have ey0 := eq_true hy0
            have ey1 := eq_true c8
            by_cases c9 : 0 < y
            · have hah := hah c9
              have hm2 := HF.out.2.1 (rd xs (y - 1)) (by have := rd_mem xs (y - 1).toNat (by omega); rwa [show (((y - 1).toNat : Nat) : Int) = y - 1 by omega] at this)
              obtain ⟨ad2, cs2, y1, y2, y3, y4⟩ := Kd.C_get (Kd.R_reads' HO.out).2.2 0 (y - 1) (by omega) (by omega)
              cases y1
              have y5 : cs2 = [.int .i64 (rd xs (y - 1))] := y3
              subst y5
              have q3 : w3.cell? (ad.add (y - 1).toNat) = some (.int .i64 (rd xs (y - 1))) := by
                have := y4 0 _ rfl
                rw [show (y - 1).toNat * (Kd.int .i64).sz + 0 = (y - 1).toNat from Nat.mul_one _] at this
                exact this
              have q3' : w3.cell? (ad.add (y.toNat - 1)) = some (.int .i64 (rd xs (y - 1))) := by rw [show y.toNat - 1 = (y - 1).toNat by omega]; exact q3
              have q4 := HC3.out (rd xs (y - 1)) (by omega) hm2.2.1
              clear y2 y3 y4 z4
              generalize rd xs (y - 1) = u at *
              generalize rd xs y = v at *
              have du0 : decide (0 ≤ u) = true := decide_eq_true (by omega)
              have du7 : decide (u < 7) = true := decide_eq_true hm2.2.1
              have dv0 : decide (0 ≤ v) = true := decide_eq_true (by omega)
              have dv7 : decide (v < 7) = true := decide_eq_true hm.2.1
              have eu0 : (0 ≤ u) = True := eq_true (by omega)
              have eu7 : (u < 7) = True := eq_true hm2.2.1
              have ev0 : (0 ≤ v) = True := eq_true (by omega)
              have ev7 : (v < 7) = True := eq_true hm.2.1
              have ey2 : (0 ≤ y - 1) = True := eq_true (by omega)
              have ey3 : (y - 1 < (xs.length : Int)) = True := eq_true (by omega)
              have ey4 : (y ≤ (xs.length : Int)) = True := eq_true (by omega)
              have ey5 : (1 ≤ y) = True := eq_true (by omega)
              have ew : IntKind.i64.wrap (y - 1) = y - 1 := by rw [IntKind.wrap_i64]; omega
              have ew2 : wrap64 (y - 1) = y - 1 := by unfold wrap64; omega
              have f1 : decide (v < 1) = false := decide_eq_false (by omega)
              have f2 : decide (6 < v) = false := decide_eq_false (by omega)
              have f3 : decide (rd R v < 1) = false := decide_eq_false (by omega)
              have f4 : decide (0 < y) = true := decide_eq_true c9
              by_cases c10 : rd R u = rd R v
              · have g1 : decide (rd R u < rd R v) = false := decide_eq_false (by omega)
                have g2 : (rd R u == rd R v) = true := beq_iff_eq.mpr c10
                have g3 : decide (v ≤ u) = false := decide_eq_false (by unfold rankAhead at hah; omega)
                clear hm hm2 c10 hah
                go_wp2
                go_quiet (fail)
                clear ew ew2
                go_wp2
                go_roundw
                case rel => exact ⟨y + 1, _, by omega, by omega, rfl, rfl⟩
                case measure => simp only [intOf]; omega
              · have g1 : decide (rd R u < rd R v) = false := decide_eq_false (by unfold rankAhead at hah; omega)
                have g2 : (rd R u == rd R v) = false := beq_eq_false_iff_ne.mpr c10
                clear hm hm2 c10 hah
                go_wp2
                go_quiet (fail)
                clear ew ew2
                go_wp2
                go_roundw
                case rel => exact ⟨y + 1, _, by omega, by omega, rfl, rfl⟩
                case measure => simp only [intOf]; omega
            · obtain rfl : y = 0 := by omega
              have q0 : w3.cell? ad = some (.int .i64 (rd xs 0)) := by have := q1; rwa [show ad.add (0 : Int).toNat = ad by simp [Addr.add]] at this
              generalize rd xs 0 = v at *
              have dv0 : decide (0 ≤ v) = true := decide_eq_true (by omega)
              have dv7 : decide (v < 7) = true := decide_eq_true hm.2.1
              have ev0 : (0 ≤ v) = True := eq_true (by omega)
              have ev7 : (v < 7) = True := eq_true hm.2.1
              have f1 : decide (v < 1) = false := decide_eq_false (by omega)
              have f2 : decide (6 < v) = false := decide_eq_false (by omega)
              have f3 : decide (rd R v < 1) = false := decide_eq_false (by omega)
              have f4 : decide ((0 : Int) < 0) = false := rfl
              clear hm hah z4 c9
              go_wp2
              go_quiet (fail)
              go_wp2
              go_roundw
              case rel => exact ⟨1, _, by omega, by omega, rfl, rfl⟩
              case measure => simp [intOf]; omega
          · obtain rfl : y = xs.length := by omega
            go_wp2
            go_ret
            exact ⟨rfl, by repeat (first | exact HB.out | apply pw_below_drewN)⟩

end
end Go.Proofs.Ytdieefjolkhmpaa.PPo
