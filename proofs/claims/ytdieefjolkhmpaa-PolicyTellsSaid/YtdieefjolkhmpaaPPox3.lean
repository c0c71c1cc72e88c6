/- Each Go function that the law reaches has the same answers as the Lean function of its name: contracts, written by a program of this session. -/
import Derived.Test.YtdieefjolkhmpaaPPox0
import Derived.Test.YtdieefjolkhmpaaPPox2
namespace Go.Proofs.Ytdieefjolkhmpaa.PPo
open Go.RowKit Go.Proofs.YtdieefjolkhmpaaW.PrintWords Go.Proofs.YtdieefjolkhmpaaW.PrintLast Go.Proofs.YtdieefjolkhmpaaW.PrintMore
attribute [local go_sem] max2_int min2_int max_two min_two max_three min_three max_four min_four   -- for this text's walks alone
set_option linter.unusedVariables false
set_option linter.unusedSimpArgs false
attribute [local go_sem] IntKind.wrap_u8 IntKind.wrap_u32
noncomputable section

/-! ### policy_Lower: function 24 -/
def policy_Lower.l0 : Nat → List Int → List Int → Int → Int → Option (Bool)
  | 0, _, _, _, _ => none
  | k + 1, x5, x6, x16, x17 => if x17 < x16 then (if 0 ≤ x17 then (if x17 < (x5.length : Int) then (if x17 < (x6.length : Int) then (if (rd x5 x17) < (rd x6 x17) then (some true) else (policy_Lower.l0 k x5 x6 x16 (wrap64 (x17 + 1)))) else (none)) else (none)) else (none)) else (some false)
def policy_Lower.f (k : Nat) (a0_0 : Int) (a0_1 : Int) (a0_2 : Int) (a0_3 : Int) (a0_4 : Int) (a1_0 : Int) (a1_1 : Int) (a1_2 : Int) (a1_3 : Int) (a1_4 : Int) : Option (Bool) := (policy_Costs.f a0_0 a0_1 a0_2 a0_3 a0_4).bind fun t156 => ((policy_Costs.f a1_0 a1_1 a1_2 a1_3 a1_4).bind fun t159 => (policy_Lower.l0 k t156 t159 (mn (t156.length : Int) (t159.length : Int)) 0))
theorem policy_Lower.mono_l : ∀ k, (∀ y0 y1 y2 y3, LeO (policy_Lower.l0 k y0 y1 y2 y3) (policy_Lower.l0 (k + 1) y0 y1 y2 y3))
  | 0 => fun _ _ _ _ r h => by simp [policy_Lower.l0] at h
  | k + 1 => by
    have ih0 := policy_Lower.mono_l k
    · intro y0 y1 y2 y3
      unfold policy_Lower.l0
      repeat' first
      | (with_reducible exact ih0 _ _ _ _)
      | (with_reducible exact LeO.refl _)
      | (with_reducible exact LeO.none _)
      | (with_reducible refine LeO.ite ?_ ?_)
      | (with_reducible refine LeO.bind ?_ (fun _ => ?_))
      | exact ih0 _ _ _ _
      | exact LeO.none _
      | refine LeO.ite ?_ ?_
      | refine LeO.bind ?_ (fun _ => ?_)
theorem policy_Lower.mono : ∀ a0 a1 a2 a3 a4 a5 a6 a7 a8 a9 k, LeO (policy_Lower.f k a0 a1 a2 a3 a4 a5 a6 a7 a8 a9) (policy_Lower.f (k + 1) a0 a1 a2 a3 a4 a5 a6 a7 a8 a9) := by
  intro a0 a1 a2 a3 a4 a5 a6 a7 a8 a9 k
  have ih0 := policy_Lower.mono_l k
  unfold policy_Lower.f
  repeat' first
      | (with_reducible exact ih0 _ _ _ _)
      | (with_reducible exact LeO.refl _)
      | (with_reducible exact LeO.none _)
      | (with_reducible refine LeO.ite ?_ ?_)
      | (with_reducible refine LeO.bind ?_ (fun _ => ?_))
      | exact ih0 _ _ _ _
      | exact LeO.none _
      | refine LeO.ite ?_ ?_
      | refine LeO.bind ?_ (fun _ => ?_)
def policy_Lower.T5 : Bool × List (List Nat × List Nat) := (true, [([], []), ([], []), ([0, 1], [0, 1]), ([2], [2]), ([], []), ([], []), ([4, 5], [4, 5]), ([6], [6]), ([3, 7], [3, 7])])
def policy_Lower.B5 : List Nat := [0, 0, 3, 7, 0, 0, 48, 112, 255]
theorem policy_Lower.tab5 : rtab .any (opsOf Try.f24 5) = policy_Lower.T5 := by kernel_rfl
theorem policy_Lower.bits5 : waitsOk policy_Lower.T5.2 policy_Lower.B5 = true := by kernel_rfl
set_option maxHeartbeats 8000000 in
set_option maxRecDepth 100000 in
theorem policy_Lower.calls (k : Nat) (a0_0 : Int) (a0_1 : Int) (a0_2 : Int) (a0_3 : Int) (a0_4 : Int) (a1_0 : Int) (a1_1 : Int) (a1_2 : Int) (a1_3 : Int) (a1_4 : Int) (r : Bool) (w : World) (h : policy_Lower.f k a0_0 a0_1 a0_2 a0_3 a0_4 a1_0 a1_1 a1_2 a1_3 a1_4 = some r) :
    Calls Try.prog 24 #[.agg #[.int .i64 a0_0, .int .i64 a0_1, .int .i64 a0_2, .int .i64 a0_3, .int .i64 a0_4], .agg #[.int .i64 a1_0, .int .i64 a1_1, .int .i64 a1_2, .int .i64 a1_3, .int .i64 a1_4]] w fun e w' => e = .returned (.bool r) ∧ Below w.heap.size w w' := by
  have hu28 := Try.underlying28
  have HB := Aside0.mk (Below.refl w.heap.size w)
  have H : ((policy_Costs.f a0_0 a0_1 a0_2 a0_3 a0_4).bind fun t156 => ((policy_Costs.f a1_0 a1_1 a1_2 a1_3 a1_4).bind fun t159 => (policy_Lower.l0 k t156 t159 (mn (t156.length : Int) (t159.length : Int)) 0))) = some r := h
  clear h
  replace H := Option.bind_eq_some_iff.mp H
  obtain ⟨t156, A30, H⟩ := H
  replace H : ((policy_Costs.f a1_0 a1_1 a1_2 a1_3 a1_4).bind fun t159 => (policy_Lower.l0 k t156 t159 (mn (t156.length : Int) (t159.length : Int)) 0)) = some r := H
  have A3 := Aside0.mk A30
  clear A30
  replace H := Option.bind_eq_some_iff.mp H
  obtain ⟨t159, A40, H⟩ := H
  replace H : (policy_Lower.l0 k t156 t159 (mn (t156.length : Int) (t159.length : Int)) 0) = some r := H
  have A4 := Aside0.mk A40
  clear A40
  obtain ⟨ji5, hji5⟩ : ∃ j_ : Int, (mn (t156.length : Int) (t159.length : Int)) = j_ := ⟨_, rfl⟩
  replace H : (policy_Lower.l0 k t156 t159 ji5 0) = some r := by first | (rw [hji5] at H; exact H) | (simp only [hji5] at H ⊢; exact H)
  have hmnA : (if (t159.length : Int) < (t156.length : Int) then (t159.length : Int) else (t156.length : Int)) = ji5 := by rw [← hji5]; unfold mn; (repeat' split) <;> omega
  have hmnB : (if t159.length < t156.length then (t159.length : Int) else (t156.length : Int)) = ji5 := by rw [← hji5]; unfold mn; (repeat' split) <;> omega
  (try rw [hji5] at A3)
  (try rw [hji5] at A4)
  (try (have hji5l : 0 ≤ ji5 := by (rw [← hji5]; unfold mn; (repeat' split) <;> omega)))
  (try (have hji5m : 0 ≤ ji5 := by omega))
  have hji5_ : (if (t159.length : Int) < (t156.length : Int) then (t159.length : Int) else (t156.length : Int)) = ji5 := hji5
  have H' := Aside0.mk H
  clear H
  go_enter Try.func24, Try.ntmps24
  try go_wp2_with (first | ((with_reducible refine gate_dst (N := 2) rfl ?_); refine box_event ?hg (N := 2) ?hd (cs := #[.int .i64 a0_0, .int .i64 a0_1, .int .i64 a0_2, .int .i64 a0_3, .int .i64 a0_4]) (t := 28) ?hr ?_; (case hd => rfl); (case hg => rfl); (case hr => first | (go_simp; done) | (go_simp; rfl)); intro gb154 hg w6 hbox hb; have n0_ := Aside0.mk (below_step (by repeat (first | (with_reducible first | exact HB.out | apply below_alloc | apply pw_below_drewN | apply below_drew1) | exact HB.out)) hb); have n1_ := Aside0.mk (hbox); have n2_ := Aside0.mk ((by rw [hg]; exact (below_size (by repeat (first | (with_reducible first | exact HB.out | apply below_alloc | apply pw_below_drewN | apply below_drew1) | exact HB.out))) : w.heap.size ≤ gb154)); have n3_ := Aside0.mk ((by rw [hg]; exact (below_size (by repeat (first | (with_reducible first | exact HB.out | apply below_alloc | apply pw_below_drewN | apply below_drew1) | exact HB.out))) : w.heap.size ≤ gb154)); clear HB; have HB := n0_; have BK154 := n1_; have GW154 := n2_; have GE154 := n3_; clear n0_ n1_ n2_ n3_; clear hb hbox hg) | ((with_reducible refine gate_dst (N := 3) rfl ?_); refine box_event ?hg (N := 3) ?hd (cs := #[.int .i64 a1_0, .int .i64 a1_1, .int .i64 a1_2, .int .i64 a1_3, .int .i64 a1_4]) (t := 28) ?hr ?_; (case hd => rfl); (case hg => rfl); (case hr => first | (go_simp; done) | (go_simp; rfl)); intro gb155 hg w7 hbox hb; have n0_ := Aside0.mk (blk_below (g := gb154) (o := .cells #[.int .i64 a0_0, .int .i64 a0_1, .int .i64 a0_2, .int .i64 a0_3, .int .i64 a0_4] 28 (0, 0)) (by (with_reducible repeat (first | refine blk_drewN ?_ _ | refine blk_drew ?_ | refine blk_alloc ?_ _)); exact BK154.out) hb); have n1_ := Aside0.mk (below_step (by repeat (first | (with_reducible first | exact HB.out | apply below_alloc | apply pw_below_drewN | apply below_drew1 | refine below_set ?_ GE154.out) | exact HB.out)) hb); have n2_ := Aside0.mk (hbox); have n3_ := Aside0.mk ((by rw [hg]; exact (below_size (by repeat (first | (with_reducible first | exact HB.out | apply below_alloc | apply pw_below_drewN | apply below_drew1 | refine below_set ?_ GE154.out) | exact HB.out))) : w.heap.size ≤ gb155)); have n4_ := Aside0.mk ((by rw [hg]; exact (below_size (by repeat (first | (with_reducible first | exact HB.out | apply below_alloc | apply pw_below_drewN | apply below_drew1 | refine below_set ?_ GE154.out) | exact HB.out))) : w.heap.size ≤ gb155)); have n5_ := Aside0.mk ((by rw [hg]; exact Nat.ne_of_lt (blk_lt (g := gb154) (o := .cells #[.int .i64 a0_0, .int .i64 a0_1, .int .i64 a0_2, .int .i64 a0_3, .int .i64 a0_4] 28 (0, 0)) (by (with_reducible repeat (first | refine blk_drewN ?_ _ | refine blk_drew ?_ | refine blk_alloc ?_ _)); exact BK154.out)) : gb154 ≠ gb155)); have n6_ := Aside0.mk ((by rw [hg]; exact Nat.ne_of_gt (blk_lt (g := gb154) (o := .cells #[.int .i64 a0_0, .int .i64 a0_1, .int .i64 a0_2, .int .i64 a0_3, .int .i64 a0_4] 28 (0, 0)) (by (with_reducible repeat (first | refine blk_drewN ?_ _ | refine blk_drew ?_ | refine blk_alloc ?_ _)); exact BK154.out)) : gb155 ≠ gb154)); clear BK154; clear HB; have BK154 := n0_; have HB := n1_; have BK155 := n2_; have GW155 := n3_; have GE155 := n4_; have NB154_155 := n5_; have NB155_154 := n6_; clear n0_ n1_ n2_ n3_ n4_ n5_ n6_; clear hb hbox hg))
  have n0_ := Aside0.mk (blk_drew BK154.out)
  have n1_ := Aside0.mk (blk_drew BK155.out)
  have n2_ := Aside0.mk (below_drew1 HB.out)
  clear BK154
  clear BK155
  clear HB
  have BK154 := n0_
  have BK155 := n1_
  have HB := n2_
  clear n0_ n1_ n2_
  refine start_ (n := 6) (S := fun w' => w'.cell? ⟨gb154, 0, none⟩ = some (.int .i64 a0_0) ∧ w'.cell? ⟨gb154, 1, none⟩ = some (.int .i64 a0_1) ∧ w'.cell? ⟨gb154, 2, none⟩ = some (.int .i64 a0_2) ∧ w'.cell? ⟨gb154, 3, none⟩ = some (.int .i64 a0_3) ∧ w'.cell? ⟨gb154, 4, none⟩ = some (.int .i64 a0_4) ∧ w'.cell? ⟨gb155, 0, none⟩ = some (.int .i64 a1_0) ∧ w'.cell? ⟨gb155, 1, none⟩ = some (.int .i64 a1_1) ∧ w'.cell? ⟨gb155, 2, none⟩ = some (.int .i64 a1_2) ∧ w'.cell? ⟨gb155, 3, none⟩ = some (.int .i64 a1_3) ∧ w'.cell? ⟨gb155, 4, none⟩ = some (.int .i64 a1_4)) (ds := []) #[false, false, false, false, false, false] (by kernel_rfl) rfl rfl ⟨(blk_cell BK154.out 0).trans rfl, (blk_cell BK154.out 1).trans rfl, (blk_cell BK154.out 2).trans rfl, (blk_cell BK154.out 3).trans rfl, (blk_cell BK154.out 4).trans rfl, (blk_cell BK155.out 0).trans rfl, (blk_cell BK155.out 1).trans rfl, (blk_cell BK155.out 2).trans rfl, (blk_cell BK155.out 3).trans rfl, (blk_cell BK155.out 4).trans rfl⟩ (fun hHeld => ?_)
  generalize w7.drew = w8 at BK154 BK155 HB hHeld ⊢
  refine take_ (i := 0) (N := some 8) (v := ?_) (a' := ?_) #[true, false, false, false, false, false] rfl rfl (by kernel_rfl) (fun _ _ _ h => h) (Or.inl ⟨by rfl, ?_⟩) hHeld ?_ ?_
  rotate_left
  · rintro w' ⟨s0, s1, s2, s3, s4, s5, s6, s7, s8, s9⟩
    go_simp
    with_reducible rfl
  rotate_left
  · simp only [Act.put, List.setIfInBounds_toArray, List.set_cons_zero, List.set_cons_succ, i64_w, i32_w]
    rfl
  refine take_ (i := 2) (N := some 10) (v := ?_) (a' := ?_) #[true, false, true, false, false, false] rfl rfl (by kernel_rfl) (fun _ _ _ h => h) (Or.inl ⟨by rfl, ?_⟩) hHeld ?_ ?_
  rotate_left
  · rintro w' ⟨s0, s1, s2, s3, s4, s5, s6, s7, s8, s9⟩
    go_simp
    with_reducible rfl
  rotate_left
  · simp only [Act.put, List.setIfInBounds_toArray, List.set_cons_zero, List.set_cons_succ, i64_w, i32_w]
    rfl
  refine one_ (i := 1) (N := some 9) #[true, true, true, false, false, false] rfl rfl (by kernel_rfl) (by decide) (fun K hK => ?_)
  refine goes_ Try.func25 (by kernel_rfl) rfl #[.agg #[.int .i64 a0_0, .int .i64 a0_1, .int .i64 a0_2, .int .i64 a0_3, .int .i64 a0_4]] (by rfl) rfl rfl (by (try simp only [List.map_toArray, List.map_cons, List.map_nil]); first | done | rfl | (simp only [List.length_drop, List.length_take]; rfl)) ?_
  with_reducible refine (policy_Costs.calls a0_0 a0_1 a0_2 a0_3 a0_4 t156 _ A3.out).mono ?_
  rintro e w9 ⟨v157, rfl, ho0, hb⟩
  refine ⟨_, rfl, ?_⟩
  have n0_ := Aside0.mk (Kd.R_lower ho0 (below_size (by repeat (first | (with_reducible first | exact HB.out | apply below_alloc | apply pw_below_drewN | apply below_drew1 | refine below_set ?_ GE154.out | refine below_set ?_ GE155.out) | exact HB.out))))
  have n1_ := Aside0.mk (blk_below (g := gb154) (o := .cells #[.int .i64 a0_0, .int .i64 a0_1, .int .i64 a0_2, .int .i64 a0_3, .int .i64 a0_4] 28 (0, 0)) (by (with_reducible repeat (first | refine blk_drewN ?_ _ | refine blk_drew ?_ | refine blk_alloc ?_ _)); exact BK154.out) hb)
  have n2_ := Aside0.mk (blk_below (g := gb155) (o := .cells #[.int .i64 a1_0, .int .i64 a1_1, .int .i64 a1_2, .int .i64 a1_3, .int .i64 a1_4] 28 (0, 0)) (by (with_reducible repeat (first | refine blk_drewN ?_ _ | refine blk_drew ?_ | refine blk_alloc ?_ _)); exact BK155.out) hb)
  have n3_ := Aside0.mk (below_step (by repeat (first | (with_reducible first | exact HB.out | apply below_alloc | apply pw_below_drewN | apply below_drew1 | refine below_set ?_ GE154.out | refine below_set ?_ GE155.out) | exact HB.out)) hb)
  clear BK154
  clear BK155
  clear HB
  have HO158 := n0_
  have BK154 := n1_
  have BK155 := n2_
  have HB := n3_
  clear n0_ n1_ n2_ n3_
  (try clear hb)
  (try clear hb2)
  (try clear hk)
  (try clear hi)
  (try clear ho0)
  refine hK.out _ _ ⟨(blk_cell BK154.out 0).trans rfl, (blk_cell BK154.out 1).trans rfl, (blk_cell BK154.out 2).trans rfl, (blk_cell BK154.out 3).trans rfl, (blk_cell BK154.out 4).trans rfl, (blk_cell BK155.out 0).trans rfl, (blk_cell BK155.out 1).trans rfl, (blk_cell BK155.out 2).trans rfl, (blk_cell BK155.out 3).trans rfl, (blk_cell BK155.out 4).trans rfl⟩ (fun hHeld => ?_)
  clear hK K
  refine norm_ (a' := ?_) ?_ ?_
  rotate_left
  · show Act.put _ (some 9) _ = _
    simp only [Act.put, List.setIfInBounds_toArray, List.set_cons_zero, List.set_cons_succ, i64_w, i32_w]
    rfl
  refine one_ (i := 3) (N := some 11) #[true, true, true, true, false, false] rfl rfl (by kernel_rfl) (by decide) (fun K hK => ?_)
  refine goes_ Try.func25 (by kernel_rfl) rfl #[.agg #[.int .i64 a1_0, .int .i64 a1_1, .int .i64 a1_2, .int .i64 a1_3, .int .i64 a1_4]] (by rfl) rfl rfl (by (try simp only [List.map_toArray, List.map_cons, List.map_nil]); first | done | rfl | (simp only [List.length_drop, List.length_take]; rfl)) ?_
  with_reducible refine (policy_Costs.calls a1_0 a1_1 a1_2 a1_3 a1_4 t159 _ A4.out).mono ?_
  rintro e w10 ⟨v160, rfl, ho0, hb⟩
  refine ⟨_, rfl, ?_⟩
  have n0_ := Aside0.mk (Kd.R_elder' (by (with_reducible repeat (first | apply Kd.R_alloc | apply Kd.R_drewN | apply Kd.R_drew)); exact HO158.out) (Kd.R_base ho0) hb)
  have n1_ := Aside0.mk (Kd.R_lower (Kd.R_new' ho0 (Kd.R_lt (by (with_reducible repeat (first | apply Kd.R_alloc | apply Kd.R_drewN | apply Kd.R_drew)); exact HO158.out))) (below_size (by repeat (first | (with_reducible first | exact HB.out | apply below_alloc | apply pw_below_drewN | apply below_drew1 | refine below_set ?_ GE154.out | refine below_set ?_ GE155.out) | exact HB.out))))
  have n2_ := Aside0.mk (blk_below (g := gb154) (o := .cells #[.int .i64 a0_0, .int .i64 a0_1, .int .i64 a0_2, .int .i64 a0_3, .int .i64 a0_4] 28 (0, 0)) (by (with_reducible repeat (first | refine blk_drewN ?_ _ | refine blk_drew ?_ | refine blk_alloc ?_ _)); exact BK154.out) hb)
  have n3_ := Aside0.mk (blk_below (g := gb155) (o := .cells #[.int .i64 a1_0, .int .i64 a1_1, .int .i64 a1_2, .int .i64 a1_3, .int .i64 a1_4] 28 (0, 0)) (by (with_reducible repeat (first | refine blk_drewN ?_ _ | refine blk_drew ?_ | refine blk_alloc ?_ _)); exact BK155.out) hb)
  have n4_ := Aside0.mk (below_step (by repeat (first | (with_reducible first | exact HB.out | apply below_alloc | apply pw_below_drewN | apply below_drew1 | refine below_set ?_ GE154.out | refine below_set ?_ GE155.out) | exact HB.out)) hb)
  clear HO158
  clear BK154
  clear BK155
  clear HB
  have HO158 := n0_
  have HO161 := n1_
  have BK154 := n2_
  have BK155 := n3_
  have HB := n4_
  clear n0_ n1_ n2_ n3_ n4_
  (try clear hb)
  (try clear hb2)
  (try clear hk)
  (try clear hi)
  (try clear ho0)
  refine hK.out _ _ ⟨(blk_cell BK154.out 0).trans rfl, (blk_cell BK154.out 1).trans rfl, (blk_cell BK154.out 2).trans rfl, (blk_cell BK154.out 3).trans rfl, (blk_cell BK154.out 4).trans rfl, (blk_cell BK155.out 0).trans rfl, (blk_cell BK155.out 1).trans rfl, (blk_cell BK155.out 2).trans rfl, (blk_cell BK155.out 3).trans rfl, (blk_cell BK155.out 4).trans rfl⟩ (fun hHeld => ?_)
  clear hK K
  refine norm_ (a' := ?_) ?_ ?_
  rotate_left
  · show Act.put _ (some 11) _ = _
    simp only [Act.put, List.setIfInBounds_toArray, List.set_cons_zero, List.set_cons_succ, i64_w, i32_w]
    rfl
  refine pure_ (i := 4) (N := some 5) (v := ?_) (a' := ?_) #[true, true, true, true, true, false] rfl rfl (by kernel_rfl) (fun _ _ _ h => h) (Or.inl ⟨by rfl, ?_⟩) ?_ ?_
  rotate_left
  · intro w'
    go_simp
    with_reducible rfl
  rotate_left
  · simp only [Act.put, List.setIfInBounds_toArray, List.set_cons_zero, List.set_cons_succ, i64_w, i32_w]
    rfl
  refine pure_ (i := 5) (N := some 6) (v := ?_) (a' := ?_) #[true, true, true, true, true, true] rfl rfl (by kernel_rfl) (fun _ _ _ h => h) (Or.inl ⟨by rfl, ?_⟩) ?_ ?_
  rotate_left
  · intro w'
    go_simp
    with_reducible rfl
  rotate_left
  · simp only [Act.put, List.setIfInBounds_toArray, List.set_cons_zero, List.set_cons_succ, i64_w, i32_w]
    rfl
  refine done_ (by kernel_rfl) ?_
  obtain ⟨Ao11, co11, eo11⟩ := Kd.R_slice HO158.out
  subst eo11
  obtain ⟨Ao12, co12, eo12⟩ := Kd.R_slice HO161.out
  subst eo12
  try go_wp2
  go_loopg [17] k (fun kq v17 w' => ∃ (x17_1 : Int), v17 = .int .i64 x17_1 ∧ Aside0 (policy_Lower.l0 kq t156 t159 ji5 x17_1 = some r) ∧ Aside0 (kq ≤ k) ∧ Aside0 (Kd.R (Kd.int .i64) 3 w' w.heap.size (fun k_ => some k_ ≠ ((.slice Ao12 t159.length co12) : Value).ownBlock) (.slice Ao11 t156.length co11) t156) ∧ Aside0 (Kd.R (Kd.int .i64) 3 w' w.heap.size (fun k_ => some k_ ≠ ((.slice Ao11 t156.length co11) : Value).ownBlock) (.slice Ao12 t159.length co12) t159) ∧ Aside0 (w'.heap[gb154]? = some (.cells #[.int .i64 a0_0, .int .i64 a0_1, .int .i64 a0_2, .int .i64 a0_3, .int .i64 a0_4] 28 (0, 0))) ∧ Aside0 (w'.heap[gb155]? = some (.cells #[.int .i64 a1_0, .int .i64 a1_1, .int .i64 a1_2, .int .i64 a1_3, .int .i64 a1_4] 28 (0, 0))) ∧ Aside0 (Below w.heap.size w w'))
  case atStart => exact ⟨(0), (by first | rfl | (simp; done) | (simp [*]; done)), H', ⟨Nat.le_refl _⟩, ⟨by (with_reducible repeat (first | apply Kd.R_alloc | apply Kd.R_drewN | apply Kd.R_drew)); exact Kd.R_mono HO158.out (fun _ hk => hk.2)⟩, ⟨by (with_reducible repeat (first | apply Kd.R_alloc | apply Kd.R_drewN | apply Kd.R_drew)); exact Kd.R_mono HO161.out (fun _ hk => hk.2)⟩, ⟨by (with_reducible repeat (first | refine blk_drewN ?_ _ | refine blk_drew ?_ | refine blk_alloc ?_ _)); exact BK154.out⟩, ⟨by (with_reducible repeat (first | refine blk_drewN ?_ _ | refine blk_drew ?_ | refine blk_alloc ?_ _)); exact BK155.out⟩, ⟨by repeat (first | (with_reducible first | exact HB.out | apply below_alloc | apply pw_below_drewN | apply below_drew1 | refine below_set ?_ GE154.out | refine below_set ?_ GE155.out) | exact HB.out)⟩⟩
  case round =>
    clear H'
    try clear c2
    try clear p2
    obtain ⟨x17_1, rfl, HA, HK1, HO_5, HO_6, BK154, BK155, HB⟩ := hrel
    cases gk with
    | zero => exact absurd HA.out (by simp [policy_Lower.l0])
    | succ k1 =>
      have H := HA.out
      clear HA
      simp only [policy_Lower.l0] at H
      by_cases c13 : x17_1 < ji5
      · rw [if_pos c13] at H
        have c13b0 : decide (x17_1 < ji5) = true := decide_eq_true c13
        clear c13
        by_cases c14 : 0 ≤ x17_1
        · rw [if_pos c14] at H
          have c14b0 : decide (0 ≤ x17_1) = true := decide_eq_true c14
          clear c14
          by_cases c15 : x17_1 < (t156.length : Int)
          · rw [if_pos c15] at H
            have c15b0 : decide (x17_1 < (t156.length : Int)) = true := decide_eq_true c15
            clear c15
            by_cases c16 : x17_1 < (t159.length : Int)
            · rw [if_pos c16] at H
              have c16b0 : decide (x17_1 < (t159.length : Int)) = true := decide_eq_true c16
              clear c16
              by_cases c17 : (rd t156 x17_1) < (rd t159 x17_1)
              · rw [if_pos c17] at H
                have c17b0 : decide ((rd t156 x17_1) < (rd t159 x17_1)) = true := decide_eq_true c17
                clear c17
                obtain rfl := Option.some.inj H
                try go_wp2
                have n0_ := Aside0.mk (Kd.R_drew HO_5.out)
                have n1_ := Aside0.mk (Kd.R_drew HO_6.out)
                have n2_ := Aside0.mk (blk_drew BK154.out)
                have n3_ := Aside0.mk (blk_drew BK155.out)
                have n4_ := Aside0.mk (below_drew1 HB.out)
                clear HO_5
                clear HO_6
                clear BK154
                clear BK155
                clear HB
                have HO_5 := n0_
                have HO_6 := n1_
                have BK154 := n2_
                have BK155 := n3_
                have HB := n4_
                clear n0_ n1_ n2_ n3_ n4_
                have p162 : 0 ≤ (x17_1 : Int) := of_decide_eq_true (by first | (with_reducible assumption) | assumption)
                have q162 : x17_1 < (t156.length : Int) := of_decide_eq_true (by first | (with_reducible assumption) | assumption)
                obtain ⟨ad162, e162, hx162_0⟩ := Kd.at_int (Kd.R_reads' HO_5.out).2.2 x17_1 p162 q162
                cases e162
                replace p162 := eq_true p162
                replace q162 := eq_true q162
                have p163 : 0 ≤ (x17_1 : Int) := of_decide_eq_true (by first | (with_reducible assumption) | assumption)
                have q163 : x17_1 < (t159.length : Int) := of_decide_eq_true (by first | (with_reducible assumption) | assumption)
                obtain ⟨ad163, e163, hx163_0⟩ := Kd.at_int (Kd.R_reads' HO_6.out).2.2 x17_1 p163 q163
                cases e163
                replace p163 := eq_true p163
                replace q163 := eq_true q163
                refine start_ (n := 9) (S := fun w' => w'.cell? (ad162.add (x17_1).toNat) = some (.int .i64 (rd t156 x17_1)) ∧ w'.cell? (ad163.add (x17_1).toNat) = some (.int .i64 (rd t159 x17_1))) (ds := []) #[false, false, false, false, false, false, false, false, false] (by kernel_rfl) rfl rfl ⟨hx162_0, hx163_0⟩ (fun hHeld => ?_); refine with_tabW policy_Lower.tab5 policy_Lower.bits5 (fun HT_ HW_ => ?_)
                generalize wr.drew = w18 at HO_5 HO_6 BK154 BK155 HB hx162_0 hx163_0 hHeld ⊢
                refine pure_ (i := 0) (N := some 20) (v := ?_) (a' := ?_) #[true, false, false, false, false, false, false, false, false] rfl rfl (any_of HT_.out (by kernel_rfl)) (fun _ _ _ h => h) (Or.inl ⟨by rfl, ?_⟩) ?_ ?_
                rotate_left
                · intro w'
                  go_simp
                  with_reducible rfl
                rotate_left
                · simp only [Act.put, List.setIfInBounds_toArray, List.set_cons_zero, List.set_cons_succ, i64_w, i32_w]
                  rfl
                refine pure_ (i := 1) (N := some 21) (v := ?_) (a' := ?_) #[true, true, false, false, false, false, false, false, false] rfl rfl (any_of HT_.out (by kernel_rfl)) (fun _ _ _ h => h) (Or.inl ⟨by rfl, ?_⟩) ?_ ?_
                rotate_left
                · intro w'
                  go_simp
                  with_reducible rfl
                rotate_left
                · simp only [Act.put, List.setIfInBounds_toArray, List.set_cons_zero, List.set_cons_succ, i64_w, i32_w]
                  rfl
                refine pure_ (i := 2) (N := some 22) (v := ?_) (a' := ?_) #[true, true, true, false, false, false, false, false, false] rfl rfl (any_of HT_.out (by kernel_rfl)) (fun _ _ _ h => h) (Or.inl ⟨by rfl, ?_⟩) ?_ ?_
                rotate_left
                · intro w'
                  go_simp
                  with_reducible rfl
                rotate_left
                · simp only [Act.put, List.setIfInBounds_toArray, List.set_cons_zero, List.set_cons_succ, i64_w, i32_w]
                  rfl
                refine pure_ (i := 4) (N := some 24) (v := ?_) (a' := ?_) #[true, true, true, false, true, false, false, false, false] rfl rfl (any_of HT_.out (by kernel_rfl)) (fun _ _ _ h => h) (Or.inl ⟨by rfl, ?_⟩) ?_ ?_
                rotate_left
                · intro w'
                  go_simp
                  with_reducible rfl
                rotate_left
                · simp only [Act.put, List.setIfInBounds_toArray, List.set_cons_zero, List.set_cons_succ, i64_w, i32_w]
                  rfl
                refine pure_ (i := 5) (N := some 25) (v := ?_) (a' := ?_) #[true, true, true, false, true, true, false, false, false] rfl rfl (any_of HT_.out (by kernel_rfl)) (fun _ _ _ h => h) (Or.inl ⟨by rfl, ?_⟩) ?_ ?_
                rotate_left
                · intro w'
                  go_simp
                  with_reducible rfl
                rotate_left
                · simp only [Act.put, List.setIfInBounds_toArray, List.set_cons_zero, List.set_cons_succ, i64_w, i32_w]
                  rfl
                refine pure_ (i := 6) (N := some 26) (v := ?_) (a' := ?_) #[true, true, true, false, true, true, true, false, false] rfl rfl (any_of HT_.out (by kernel_rfl)) (fun _ _ _ h => h) (Or.inl ⟨by rfl, ?_⟩) ?_ ?_
                rotate_left
                · intro w'
                  go_simp
                  with_reducible rfl
                rotate_left
                · simp only [Act.put, List.setIfInBounds_toArray, List.set_cons_zero, List.set_cons_succ, i64_w, i32_w]
                  rfl
                refine take_ (i := 3) (N := some 23) (v := ?_) (a' := ?_) #[true, true, true, true, true, true, true, false, false] rfl rfl (take_ofW HT_.out HW_.out (by kernel_rfl)) (fun _ _ _ h => h) (Or.inl ⟨by rfl, ?_⟩) hHeld ?_ ?_
                rotate_left
                · rintro w' ⟨s0, s1⟩
                  go_simp
                  with_reducible rfl
                rotate_left
                · simp only [Act.put, List.setIfInBounds_toArray, List.set_cons_zero, List.set_cons_succ, i64_w, i32_w]
                  rfl
                refine take_ (i := 7) (N := some 27) (v := ?_) (a' := ?_) #[true, true, true, true, true, true, true, true, false] rfl rfl (take_ofW HT_.out HW_.out (by kernel_rfl)) (fun _ _ _ h => h) (Or.inl ⟨by rfl, ?_⟩) hHeld ?_ ?_
                rotate_left
                · rintro w' ⟨s0, s1⟩
                  go_simp
                  with_reducible rfl
                rotate_left
                · simp only [Act.put, List.setIfInBounds_toArray, List.set_cons_zero, List.set_cons_succ, i64_w, i32_w]
                  rfl
                refine pure_ (i := 8) (N := some 28) (v := ?_) (a' := ?_) #[true, true, true, true, true, true, true, true, true] rfl rfl (any_of HT_.out (by kernel_rfl)) (fun _ _ _ h => h) (Or.inl ⟨by rfl, ?_⟩) ?_ ?_
                rotate_left
                · intro w'
                  go_simp
                  with_reducible rfl
                rotate_left
                · simp only [Act.put, List.setIfInBounds_toArray, List.set_cons_zero, List.set_cons_succ, i64_w, i32_w]
                  rfl
                refine done_ (done_of HT_.out (by kernel_rfl)) ?_
                try go_wp2
                go_ret
                exact ⟨by first | rfl | (simp [errW_none, errW_some] <;> rfl) | (simp only [← hji5]; first | rfl | (simp [errW_none, errW_some] <;> rfl)) | (simp [*, errW_none, errW_some] <;> rfl), by repeat (first | (with_reducible first | exact HB.out | apply below_alloc | apply pw_below_drewN | apply below_drew1 | refine below_set ?_ GE154.out | refine below_set ?_ GE155.out) | exact HB.out)⟩
              · rw [if_neg c17] at H
                have c17b0 : decide ((rd t156 x17_1) < (rd t159 x17_1)) = false := decide_eq_false c17
                clear c17
                have H' := Aside0.mk H
                clear H
                try go_wp2
                have n0_ := Aside0.mk (Kd.R_drew HO_5.out)
                have n1_ := Aside0.mk (Kd.R_drew HO_6.out)
                have n2_ := Aside0.mk (blk_drew BK154.out)
                have n3_ := Aside0.mk (blk_drew BK155.out)
                have n4_ := Aside0.mk (below_drew1 HB.out)
                clear HO_5
                clear HO_6
                clear BK154
                clear BK155
                clear HB
                have HO_5 := n0_
                have HO_6 := n1_
                have BK154 := n2_
                have BK155 := n3_
                have HB := n4_
                clear n0_ n1_ n2_ n3_ n4_
                have p162 : 0 ≤ (x17_1 : Int) := of_decide_eq_true (by first | (with_reducible assumption) | assumption)
                have q162 : x17_1 < (t156.length : Int) := of_decide_eq_true (by first | (with_reducible assumption) | assumption)
                obtain ⟨ad162, e162, hx162_0⟩ := Kd.at_int (Kd.R_reads' HO_5.out).2.2 x17_1 p162 q162
                cases e162
                replace p162 := eq_true p162
                replace q162 := eq_true q162
                have p163 : 0 ≤ (x17_1 : Int) := of_decide_eq_true (by first | (with_reducible assumption) | assumption)
                have q163 : x17_1 < (t159.length : Int) := of_decide_eq_true (by first | (with_reducible assumption) | assumption)
                obtain ⟨ad163, e163, hx163_0⟩ := Kd.at_int (Kd.R_reads' HO_6.out).2.2 x17_1 p163 q163
                cases e163
                replace p163 := eq_true p163
                replace q163 := eq_true q163
                refine start_ (n := 9) (S := fun w' => w'.cell? (ad162.add (x17_1).toNat) = some (.int .i64 (rd t156 x17_1)) ∧ w'.cell? (ad163.add (x17_1).toNat) = some (.int .i64 (rd t159 x17_1))) (ds := []) #[false, false, false, false, false, false, false, false, false] (by kernel_rfl) rfl rfl ⟨hx162_0, hx163_0⟩ (fun hHeld => ?_); refine with_tabW policy_Lower.tab5 policy_Lower.bits5 (fun HT_ HW_ => ?_)
                generalize wr.drew = w19 at HO_5 HO_6 BK154 BK155 HB hx162_0 hx163_0 hHeld ⊢
                refine pure_ (i := 0) (N := some 20) (v := ?_) (a' := ?_) #[true, false, false, false, false, false, false, false, false] rfl rfl (any_of HT_.out (by kernel_rfl)) (fun _ _ _ h => h) (Or.inl ⟨by rfl, ?_⟩) ?_ ?_
                rotate_left
                · intro w'
                  go_simp
                  with_reducible rfl
                rotate_left
                · simp only [Act.put, List.setIfInBounds_toArray, List.set_cons_zero, List.set_cons_succ, i64_w, i32_w]
                  rfl
                refine pure_ (i := 1) (N := some 21) (v := ?_) (a' := ?_) #[true, true, false, false, false, false, false, false, false] rfl rfl (any_of HT_.out (by kernel_rfl)) (fun _ _ _ h => h) (Or.inl ⟨by rfl, ?_⟩) ?_ ?_
                rotate_left
                · intro w'
                  go_simp
                  with_reducible rfl
                rotate_left
                · simp only [Act.put, List.setIfInBounds_toArray, List.set_cons_zero, List.set_cons_succ, i64_w, i32_w]
                  rfl
                refine pure_ (i := 2) (N := some 22) (v := ?_) (a' := ?_) #[true, true, true, false, false, false, false, false, false] rfl rfl (any_of HT_.out (by kernel_rfl)) (fun _ _ _ h => h) (Or.inl ⟨by rfl, ?_⟩) ?_ ?_
                rotate_left
                · intro w'
                  go_simp
                  with_reducible rfl
                rotate_left
                · simp only [Act.put, List.setIfInBounds_toArray, List.set_cons_zero, List.set_cons_succ, i64_w, i32_w]
                  rfl
                refine pure_ (i := 4) (N := some 24) (v := ?_) (a' := ?_) #[true, true, true, false, true, false, false, false, false] rfl rfl (any_of HT_.out (by kernel_rfl)) (fun _ _ _ h => h) (Or.inl ⟨by rfl, ?_⟩) ?_ ?_
                rotate_left
                · intro w'
                  go_simp
                  with_reducible rfl
                rotate_left
                · simp only [Act.put, List.setIfInBounds_toArray, List.set_cons_zero, List.set_cons_succ, i64_w, i32_w]
                  rfl
                refine pure_ (i := 5) (N := some 25) (v := ?_) (a' := ?_) #[true, true, true, false, true, true, false, false, false] rfl rfl (any_of HT_.out (by kernel_rfl)) (fun _ _ _ h => h) (Or.inl ⟨by rfl, ?_⟩) ?_ ?_
                rotate_left
                · intro w'
                  go_simp
                  with_reducible rfl
                rotate_left
                · simp only [Act.put, List.setIfInBounds_toArray, List.set_cons_zero, List.set_cons_succ, i64_w, i32_w]
                  rfl
                refine pure_ (i := 6) (N := some 26) (v := ?_) (a' := ?_) #[true, true, true, false, true, true, true, false, false] rfl rfl (any_of HT_.out (by kernel_rfl)) (fun _ _ _ h => h) (Or.inl ⟨by rfl, ?_⟩) ?_ ?_
                rotate_left
                · intro w'
                  go_simp
                  with_reducible rfl
                rotate_left
                · simp only [Act.put, List.setIfInBounds_toArray, List.set_cons_zero, List.set_cons_succ, i64_w, i32_w]
                  rfl
                refine take_ (i := 3) (N := some 23) (v := ?_) (a' := ?_) #[true, true, true, true, true, true, true, false, false] rfl rfl (take_ofW HT_.out HW_.out (by kernel_rfl)) (fun _ _ _ h => h) (Or.inl ⟨by rfl, ?_⟩) hHeld ?_ ?_
                rotate_left
                · rintro w' ⟨s0, s1⟩
                  go_simp
                  with_reducible rfl
                rotate_left
                · simp only [Act.put, List.setIfInBounds_toArray, List.set_cons_zero, List.set_cons_succ, i64_w, i32_w]
                  rfl
                refine take_ (i := 7) (N := some 27) (v := ?_) (a' := ?_) #[true, true, true, true, true, true, true, true, false] rfl rfl (take_ofW HT_.out HW_.out (by kernel_rfl)) (fun _ _ _ h => h) (Or.inl ⟨by rfl, ?_⟩) hHeld ?_ ?_
                rotate_left
                · rintro w' ⟨s0, s1⟩
                  go_simp
                  with_reducible rfl
                rotate_left
                · simp only [Act.put, List.setIfInBounds_toArray, List.set_cons_zero, List.set_cons_succ, i64_w, i32_w]
                  rfl
                refine pure_ (i := 8) (N := some 28) (v := ?_) (a' := ?_) #[true, true, true, true, true, true, true, true, true] rfl rfl (any_of HT_.out (by kernel_rfl)) (fun _ _ _ h => h) (Or.inl ⟨by rfl, ?_⟩) ?_ ?_
                rotate_left
                · intro w'
                  go_simp
                  with_reducible rfl
                rotate_left
                · simp only [Act.put, List.setIfInBounds_toArray, List.set_cons_zero, List.set_cons_succ, i64_w, i32_w]
                  rfl
                refine done_ (done_of HT_.out (by kernel_rfl)) ?_
                try go_wp2
                go_roundg k1
                case measure => have := HK1.out; omega
                case rel => exact ⟨(wrap64 (x17_1 + 1)), (by first | rfl | (simp; done) | (simp [*]; done)), H', ⟨by have := HK1.out; omega⟩, ⟨by (with_reducible repeat (first | apply Kd.R_alloc | apply Kd.R_drewN | apply Kd.R_drew)); exact HO_5.out⟩, ⟨by (with_reducible repeat (first | apply Kd.R_alloc | apply Kd.R_drewN | apply Kd.R_drew)); exact HO_6.out⟩, ⟨by (with_reducible repeat (first | refine blk_drewN ?_ _ | refine blk_drew ?_ | refine blk_alloc ?_ _)); exact BK154.out⟩, ⟨by (with_reducible repeat (first | refine blk_drewN ?_ _ | refine blk_drew ?_ | refine blk_alloc ?_ _)); exact BK155.out⟩, ⟨by repeat (first | (with_reducible first | exact HB.out | apply below_alloc | apply pw_below_drewN | apply below_drew1 | refine below_set ?_ GE154.out | refine below_set ?_ GE155.out) | exact HB.out)⟩⟩
            · rw [if_neg c16] at H
              exact absurd H (by simp)
          · rw [if_neg c15] at H
            exact absurd H (by simp)
        · rw [if_neg c14] at H
          exact absurd H (by simp)
      · rw [if_neg c13] at H
        have c13b0 : decide (x17_1 < ji5) = false := decide_eq_false c13
        clear c13
        obtain rfl := Option.some.inj H
        go_wp2
        go_ret
        exact ⟨by first | rfl | (simp [errW_none, errW_some] <;> rfl) | (simp only [← hji5]; first | rfl | (simp [errW_none, errW_some] <;> rfl)) | (simp [*, errW_none, errW_some] <;> rfl), by repeat (first | (with_reducible first | exact HB.out | apply below_alloc | apply pw_below_drewN | apply below_drew1 | refine below_set ?_ GE154.out | refine below_set ?_ GE155.out) | exact HB.out)⟩

/-! ### policy_Behind: function 20 -/
open Go.Proofs.Ytdieefjolkhmpaa.Own
def policy_Behind.f (k : Nat) (a0_0 a0_1 a0_2 a0_3 a0_4 a0_5 a0_6 a0_7 a0_8 a0_9 a0_10 a0_11 a0_12 : Int) (a1_0 a1_1 a1_2 a1_3 a1_4 : Int) : Option (Bool × Int) := (policy_Check.f k a0_0 a0_1 a0_2 a0_3 a0_4 a0_5 a0_6 a0_7 a0_8 a0_9 a0_10 a0_11 a0_12).bind fun e => if e = 0 then ((record_Params.f k a1_0 a1_1 a1_2 a1_3 a1_4).bind fun e2 => if e2 = 0 then behindP a0_0 a1_0 [a0_6, a0_7, a0_8, a0_9, a0_10, a0_11, a0_12] (policy_Lower.f k a1_0 a1_1 a1_2 a1_3 a1_4 a0_0 a0_1 a0_2 a0_3 a0_4) else some (false, e2)) else some (false, e)
theorem policy_Behind.mono : ∀ a0 a1 a2 a3 a4 a5 a6 a7 a8 a9 a10 a11 a12 a13 a14 a15 a16 a17 k, LeO (policy_Behind.f k a0 a1 a2 a3 a4 a5 a6 a7 a8 a9 a10 a11 a12 a13 a14 a15 a16 a17) (policy_Behind.f (k + 1) a0 a1 a2 a3 a4 a5 a6 a7 a8 a9 a10 a11 a12 a13 a14 a15 a16 a17) := by
  intro a0 a1 a2 a3 a4 a5 a6 a7 a8 a9 a10 a11 a12 a13 a14 a15 a16 a17 k
  unfold policy_Behind.f behindP
  repeat' first
    | (with_reducible exact policy_Check.mono _ _ _ _ _ _ _ _ _ _ _ _ _ _)
    | (with_reducible exact record_Params.mono _ _ _ _ _ _)
    | (with_reducible exact policy_Lower.mono _ _ _ _ _ _ _ _ _ _ _)
    | (with_reducible exact LeO.refl _)
    | (with_reducible exact LeO.none _)
    | (with_reducible refine LeO.ite ?_ ?_)
    | (with_reducible refine LeO.bind ?_ (fun _ => ?_))
set_option maxHeartbeats 8000000 in
set_option maxRecDepth 100000 in
theorem policy_Behind.calls (k : Nat) (a0_0 a0_1 a0_2 a0_3 a0_4 a0_5 a0_6 a0_7 a0_8 a0_9 a0_10 a0_11 a0_12 : Int) (a1_0 a1_1 a1_2 a1_3 a1_4 : Int) (r1 : Bool) (r2 : Int) (w : World) (h : policy_Behind.f k a0_0 a0_1 a0_2 a0_3 a0_4 a0_5 a0_6 a0_7 a0_8 a0_9 a0_10 a0_11 a0_12 a1_0 a1_1 a1_2 a1_3 a1_4 = some (r1, r2)) :
    Calls Try.prog 20 #[.agg #[.int .i64 a0_0, .int .i64 a0_1, .int .i64 a0_2, .int .i64 a0_3, .int .i64 a0_4, .int .i64 a0_5, .int .i64 a0_6, .int .i64 a0_7, .int .i64 a0_8, .int .i64 a0_9, .int .i64 a0_10, .int .i64 a0_11, .int .i64 a0_12], .agg #[.int .i64 a1_0, .int .i64 a1_1, .int .i64 a1_2, .int .i64 a1_3, .int .i64 a1_4]] w fun e w' => e = .returned (.tuple #[.bool r1, .int .i64 r2]) ∧ Below w.heap.size w w' := by
  unfold policy_Behind.f at h
  obtain ⟨u, hu, h⟩ := Option.bind_eq_some_iff.mp h
  have HU := Aside0.mk hu
  clear hu
  have H37 := Aside0.mk (heap_alloc2_old w (.cells #[.int .i64 a0_0, .int .i64 a0_1, .int .i64 a0_2, .int .i64 a0_3, .int .i64 a0_4, .int .i64 a0_5, .int .i64 a0_6, .int .i64 a0_7, .int .i64 a0_8, .int .i64 a0_9, .int .i64 a0_10, .int .i64 a0_11, .int .i64 a0_12] 37) (.cells #[.int .i64 a1_0, .int .i64 a1_1, .int .i64 a1_2, .int .i64 a1_3, .int .i64 a1_4] 28))
  have H28 := Aside0.mk (heap_alloc2_new w (.cells #[.int .i64 a0_0, .int .i64 a0_1, .int .i64 a0_2, .int .i64 a0_3, .int .i64 a0_4, .int .i64 a0_5, .int .i64 a0_6, .int .i64 a0_7, .int .i64 a0_8, .int .i64 a0_9, .int .i64 a0_10, .int .i64 a0_11, .int .i64 a0_12] 37) (.cells #[.int .i64 a1_0, .int .i64 a1_1, .int .i64 a1_2, .int .i64 a1_3, .int .i64 a1_4] 28))
  have HB := Aside0.mk (below_alloc (below_alloc (Below.refl w.heap.size w) (.cells #[.int .i64 a0_0, .int .i64 a0_1, .int .i64 a0_2, .int .i64 a0_3, .int .i64 a0_4, .int .i64 a0_5, .int .i64 a0_6, .int .i64 a0_7, .int .i64 a0_8, .int .i64 a0_9, .int .i64 a0_10, .int .i64 a0_11, .int .i64 a0_12] 37)) (.cells #[.int .i64 a1_0, .int .i64 a1_1, .int .i64 a1_2, .int .i64 a1_3, .int .i64 a1_4] 28))
  have HZ : w.heap.size + 1 < ((w.alloc (.cells #[.int .i64 a0_0, .int .i64 a0_1, .int .i64 a0_2, .int .i64 a0_3, .int .i64 a0_4, .int .i64 a0_5, .int .i64 a0_6, .int .i64 a0_7, .int .i64 a0_8, .int .i64 a0_9, .int .i64 a0_10, .int .i64 a0_11, .int .i64 a0_12] 37)).alloc (.cells #[.int .i64 a1_0, .int .i64 a1_1, .int .i64 a1_2, .int .i64 a1_3, .int .i64 a1_4] 28)).heap.size := by simp
  have H := Aside0.mk h
  clear h
  go_enter Try.func20, Try.ntmps20
  go_upto_region 1 with (fail)
  generalize (w.alloc (.cells #[.int .i64 a0_0, .int .i64 a0_1, .int .i64 a0_2, .int .i64 a0_3, .int .i64 a0_4, .int .i64 a0_5, .int .i64 a0_6, .int .i64 a0_7, .int .i64 a0_8, .int .i64 a0_9, .int .i64 a0_10, .int .i64 a0_11, .int .i64 a0_12] 37)).alloc (.cells #[.int .i64 a1_0, .int .i64 a1_1, .int .i64 a1_2, .int .i64 a1_3, .int .i64 a1_4] 28) = w1 at H37 H28 HB HZ ⊢
  have c0 : w1.cell? ⟨w.heap.size, 0, none⟩ = some (.int .i64 a0_0) := cell_of_row _ _ 0 _ _ _ H37.out
  have c1 : w1.cell? ⟨w.heap.size, 1, none⟩ = some (.int .i64 a0_1) := cell_of_row _ _ 1 _ _ _ H37.out
  have c2 : w1.cell? ⟨w.heap.size, 2, none⟩ = some (.int .i64 a0_2) := cell_of_row _ _ 2 _ _ _ H37.out
  have c3 : w1.cell? ⟨w.heap.size, 3, none⟩ = some (.int .i64 a0_3) := cell_of_row _ _ 3 _ _ _ H37.out
  have c4 : w1.cell? ⟨w.heap.size, 4, none⟩ = some (.int .i64 a0_4) := cell_of_row _ _ 4 _ _ _ H37.out
  have c5 : w1.cell? ⟨w.heap.size, 5, none⟩ = some (.int .i64 a0_5) := cell_of_row _ _ 5 _ _ _ H37.out
  have c6 : w1.cell? ⟨w.heap.size, 6, none⟩ = some (.int .i64 a0_6) := cell_of_row _ _ 6 _ _ _ H37.out
  have c7 : w1.cell? ⟨w.heap.size, 7, none⟩ = some (.int .i64 a0_7) := cell_of_row _ _ 7 _ _ _ H37.out
  have c8 : w1.cell? ⟨w.heap.size, 8, none⟩ = some (.int .i64 a0_8) := cell_of_row _ _ 8 _ _ _ H37.out
  have c9 : w1.cell? ⟨w.heap.size, 9, none⟩ = some (.int .i64 a0_9) := cell_of_row _ _ 9 _ _ _ H37.out
  have c10 : w1.cell? ⟨w.heap.size, 10, none⟩ = some (.int .i64 a0_10) := cell_of_row _ _ 10 _ _ _ H37.out
  have c11 : w1.cell? ⟨w.heap.size, 11, none⟩ = some (.int .i64 a0_11) := cell_of_row _ _ 11 _ _ _ H37.out
  have c12 : w1.cell? ⟨w.heap.size, 12, none⟩ = some (.int .i64 a0_12) := cell_of_row _ _ 12 _ _ _ H37.out
  have d0 : w1.cell? ⟨w.heap.size + 1, 0, none⟩ = some (.int .i64 a1_0) := cell_of_row _ _ 0 _ _ _ H28.out
  have d1 : w1.cell? ⟨w.heap.size + 1, 1, none⟩ = some (.int .i64 a1_1) := cell_of_row _ _ 1 _ _ _ H28.out
  have d2 : w1.cell? ⟨w.heap.size + 1, 2, none⟩ = some (.int .i64 a1_2) := cell_of_row _ _ 2 _ _ _ H28.out
  have d3 : w1.cell? ⟨w.heap.size + 1, 3, none⟩ = some (.int .i64 a1_3) := cell_of_row _ _ 3 _ _ _ H28.out
  have d4 : w1.cell? ⟨w.heap.size + 1, 4, none⟩ = some (.int .i64 a1_4) := cell_of_row _ _ 4 _ _ _ H28.out
  have H := H.out
  by_cases cu : u = 0
  · subst cu
    rw [if_pos rfl] at H
    obtain ⟨v, hv, H⟩ := Option.bind_eq_some_iff.mp H
    have HV := Aside0.mk hv
    clear hv
    have H1 := Aside0.mk H
    clear H
    go_upto_region 4 with (go_at_call 21; (with_reducible refine (policy_Check.calls k a0_0 a0_1 a0_2 a0_3 a0_4 a0_5 a0_6 a0_7 a0_8 a0_9 a0_10 a0_11 a0_12 0 _ HU.out).mono ?_); rintro e w2 ⟨rfl, hb⟩; have n_ : Aside0 (Below w.heap.size w w2) := Aside0.mk (by first | exact below_step HB.out hb | exact below_step (pw_below_drewN HB.out _) hb); clear HB; have HB := n_; clear n_; have hzz := hb.size; have H37' := Aside0.mk ((hb.block w.heap.size (by omega)).trans H37.out); have H28' := Aside0.mk ((hb.block (w.heap.size + 1) (by omega)).trans H28.out); clear hb H37 H28; have H37 := H37'; have H28 := H28'; clear H37' H28')
    clear c0 c1 c2 c3 c4 c5 c6 c7 c8 c9 c10 c11 c12 d0 d1 d2 d3 d4
    have c0 : w2.cell? ⟨w.heap.size, 0, none⟩ = some (.int .i64 a0_0) := cell_of_row _ _ 0 _ _ _ H37.out
    have c1 : w2.cell? ⟨w.heap.size, 1, none⟩ = some (.int .i64 a0_1) := cell_of_row _ _ 1 _ _ _ H37.out
    have c2 : w2.cell? ⟨w.heap.size, 2, none⟩ = some (.int .i64 a0_2) := cell_of_row _ _ 2 _ _ _ H37.out
    have c3 : w2.cell? ⟨w.heap.size, 3, none⟩ = some (.int .i64 a0_3) := cell_of_row _ _ 3 _ _ _ H37.out
    have c4 : w2.cell? ⟨w.heap.size, 4, none⟩ = some (.int .i64 a0_4) := cell_of_row _ _ 4 _ _ _ H37.out
    have c5 : w2.cell? ⟨w.heap.size, 5, none⟩ = some (.int .i64 a0_5) := cell_of_row _ _ 5 _ _ _ H37.out
    have c6 : w2.cell? ⟨w.heap.size, 6, none⟩ = some (.int .i64 a0_6) := cell_of_row _ _ 6 _ _ _ H37.out
    have c7 : w2.cell? ⟨w.heap.size, 7, none⟩ = some (.int .i64 a0_7) := cell_of_row _ _ 7 _ _ _ H37.out
    have c8 : w2.cell? ⟨w.heap.size, 8, none⟩ = some (.int .i64 a0_8) := cell_of_row _ _ 8 _ _ _ H37.out
    have c9 : w2.cell? ⟨w.heap.size, 9, none⟩ = some (.int .i64 a0_9) := cell_of_row _ _ 9 _ _ _ H37.out
    have c10 : w2.cell? ⟨w.heap.size, 10, none⟩ = some (.int .i64 a0_10) := cell_of_row _ _ 10 _ _ _ H37.out
    have c11 : w2.cell? ⟨w.heap.size, 11, none⟩ = some (.int .i64 a0_11) := cell_of_row _ _ 11 _ _ _ H37.out
    have c12 : w2.cell? ⟨w.heap.size, 12, none⟩ = some (.int .i64 a0_12) := cell_of_row _ _ 12 _ _ _ H37.out
    have d0 : w2.cell? ⟨w.heap.size + 1, 0, none⟩ = some (.int .i64 a1_0) := cell_of_row _ _ 0 _ _ _ H28.out
    have d1 : w2.cell? ⟨w.heap.size + 1, 1, none⟩ = some (.int .i64 a1_1) := cell_of_row _ _ 1 _ _ _ H28.out
    have d2 : w2.cell? ⟨w.heap.size + 1, 2, none⟩ = some (.int .i64 a1_2) := cell_of_row _ _ 2 _ _ _ H28.out
    have d3 : w2.cell? ⟨w.heap.size + 1, 3, none⟩ = some (.int .i64 a1_3) := cell_of_row _ _ 3 _ _ _ H28.out
    have d4 : w2.cell? ⟨w.heap.size + 1, 4, none⟩ = some (.int .i64 a1_4) := cell_of_row _ _ 4 _ _ _ H28.out
    have H := H1.out
    clear H1
    by_cases cv : v = 0
    · subst cv
      rw [if_pos rfl] at H
      unfold behindP at H
      have H := Aside0.mk H
      go_upto_region 7 with (go_at_call 59; (with_reducible refine (record_Params.calls k a1_0 a1_1 a1_2 a1_3 a1_4 0 _ HV.out).mono ?_); rintro e w3 ⟨rfl, hb⟩; have n_ : Aside0 (Below w.heap.size w w3) := Aside0.mk (by first | exact below_step HB.out hb | exact below_step (pw_below_drewN HB.out _) hb); clear HB; have HB := n_; clear n_; have hz3 := hb.size; have H37' := Aside0.mk ((hb.block w.heap.size (by omega)).trans H37.out); have H28' := Aside0.mk ((hb.block (w.heap.size + 1) (by omega)).trans H28.out); clear hb H37 H28; have H37 := H37'; have H28 := H28'; clear H37' H28')
      clear c0 c1 c2 c3 c4 c5 c6 c7 c8 c9 c10 c11 c12 d0 d1 d2 d3 d4
      have c0 : w3.cell? ⟨w.heap.size, 0, none⟩ = some (.int .i64 a0_0) := cell_of_row _ _ 0 _ _ _ H37.out
      have c1 : w3.cell? ⟨w.heap.size, 1, none⟩ = some (.int .i64 a0_1) := cell_of_row _ _ 1 _ _ _ H37.out
      have c2 : w3.cell? ⟨w.heap.size, 2, none⟩ = some (.int .i64 a0_2) := cell_of_row _ _ 2 _ _ _ H37.out
      have c3 : w3.cell? ⟨w.heap.size, 3, none⟩ = some (.int .i64 a0_3) := cell_of_row _ _ 3 _ _ _ H37.out
      have c4 : w3.cell? ⟨w.heap.size, 4, none⟩ = some (.int .i64 a0_4) := cell_of_row _ _ 4 _ _ _ H37.out
      have c5 : w3.cell? ⟨w.heap.size, 5, none⟩ = some (.int .i64 a0_5) := cell_of_row _ _ 5 _ _ _ H37.out
      have c6 : w3.cell? ⟨w.heap.size, 6, none⟩ = some (.int .i64 a0_6) := cell_of_row _ _ 6 _ _ _ H37.out
      have c7 : w3.cell? ⟨w.heap.size, 7, none⟩ = some (.int .i64 a0_7) := cell_of_row _ _ 7 _ _ _ H37.out
      have c8 : w3.cell? ⟨w.heap.size, 8, none⟩ = some (.int .i64 a0_8) := cell_of_row _ _ 8 _ _ _ H37.out
      have c9 : w3.cell? ⟨w.heap.size, 9, none⟩ = some (.int .i64 a0_9) := cell_of_row _ _ 9 _ _ _ H37.out
      have c10 : w3.cell? ⟨w.heap.size, 10, none⟩ = some (.int .i64 a0_10) := cell_of_row _ _ 10 _ _ _ H37.out
      have c11 : w3.cell? ⟨w.heap.size, 11, none⟩ = some (.int .i64 a0_11) := cell_of_row _ _ 11 _ _ _ H37.out
      have c12 : w3.cell? ⟨w.heap.size, 12, none⟩ = some (.int .i64 a0_12) := cell_of_row _ _ 12 _ _ _ H37.out
      have d0 : w3.cell? ⟨w.heap.size + 1, 0, none⟩ = some (.int .i64 a1_0) := cell_of_row _ _ 0 _ _ _ H28.out
      have d1 : w3.cell? ⟨w.heap.size + 1, 1, none⟩ = some (.int .i64 a1_1) := cell_of_row _ _ 1 _ _ _ H28.out
      have d2 : w3.cell? ⟨w.heap.size + 1, 2, none⟩ = some (.int .i64 a1_2) := cell_of_row _ _ 2 _ _ _ H28.out
      have d3 : w3.cell? ⟨w.heap.size + 1, 3, none⟩ = some (.int .i64 a1_3) := cell_of_row _ _ 3 _ _ _ H28.out
      have d4 : w3.cell? ⟨w.heap.size + 1, 4, none⟩ = some (.int .i64 a1_4) := cell_of_row _ _ 4 _ _ _ H28.out
      have hs := seven_cell H37.out
      generalize hR : ([a0_6, a0_7, a0_8, a0_9, a0_10, a0_11, a0_12] : List Int) = R at hs H
      clear hR
      have H := H.out
      by_cases c1 : 0 ≤ a1_0
      · rw [if_pos c1] at H
        by_cases c2 : a1_0 < 7
        · rw [if_pos c2] at H
          by_cases c3 : 0 ≤ a0_0
          · rw [if_pos c3] at H
            by_cases c4 : a0_0 < 7
            · rw [if_pos c4] at H
              have q1 := hs a1_0 c1 c2
              have q2 := hs a0_0 c3 c4
              have e1 : decide (0 ≤ a1_0) = true := decide_eq_true c1
              have e2 : decide (a1_0 < 7) = true := decide_eq_true c2
              have e3 : decide (0 ≤ a0_0) = true := decide_eq_true c3
              have e4 : decide (a0_0 < 7) = true := decide_eq_true c4
              clear hs
              generalize rd R a1_0 = x at *
              generalize rd R a0_0 = y at *
              by_cases c5 : x < y
              · rw [if_pos c5] at H
                injection H with H
                injection H with h1 h2
                subst h1 h2
                have d5 : decide (x < y) = true := decide_eq_true c5
                clear c5
                go_quiet (fail)
                go_wp2
                go_ret2
                exact ⟨rfl, by repeat (first | exact HB.out | apply pw_below_drewN)⟩
              · rw [if_neg c5] at H
                have d5 : decide (x < y) = false := decide_eq_false c5
                clear c5
                by_cases c6 : x = y
                · rw [if_pos c6] at H
                  obtain ⟨b, hL, H⟩ := Option.bind_eq_some_iff.mp H
                  have HL := Aside0.mk hL
                  clear hL
                  injection H with H
                  injection H with h1 h2
                  subst h1 h2
                  have d6 : (x == y) = true := beq_iff_eq.mpr c6
                  clear c6
                  go_quiet (fail)
                  go_wp2_with (go_at_call 24; (with_reducible refine (policy_Lower.calls k a1_0 a1_1 a1_2 a1_3 a1_4 a0_0 a0_1 a0_2 a0_3 a0_4 b _ HL.out).mono ?_); rintro e w4 ⟨rfl, hb⟩; have n_ : Aside0 (Below w.heap.size w w4) := Aside0.mk (by first | exact below_step HB.out hb | exact below_step (pw_below_drewN HB.out _) hb); clear HB; have HB := n_; clear n_)
                  go_ret2
                  exact ⟨rfl, HB.out⟩
                · rw [if_neg c6] at H
                  injection H with H
                  injection H with h1 h2
                  subst h1 h2
                  have d6 : (x == y) = false := beq_eq_false_iff_ne.mpr c6
                  clear c6
                  go_quiet (fail)
                  go_wp2
                  go_ret2
                  exact ⟨rfl, by repeat (first | exact HB.out | apply pw_below_drewN)⟩
            · rw [if_neg c4] at H; cases H
          · rw [if_neg c3] at H; cases H
        · rw [if_neg c2] at H; cases H
      · rw [if_neg c1] at H; cases H
    · rw [if_neg cv] at H
      injection H with H
      injection H with h1 h2
      subst h1 h2
      have ev : (v != 0) = true := bne_iff_ne.mpr cv
      go_wp2_with (go_at_call 59; (with_reducible refine (record_Params.calls k a1_0 a1_1 a1_2 a1_3 a1_4 v _ HV.out).mono ?_); rintro e w3 ⟨rfl, hb⟩; have n_ : Aside0 (Below w.heap.size w w3) := Aside0.mk (by first | exact below_step HB.out hb | exact below_step (pw_below_drewN HB.out _) hb); clear HB; have HB := n_; clear n_; have hz3 := hb.size; have H37' := Aside0.mk ((hb.block w.heap.size (by omega)).trans H37.out); have H28' := Aside0.mk ((hb.block (w.heap.size + 1) (by omega)).trans H28.out); clear hb H37 H28; have H37 := H37'; have H28 := H28'; clear H37' H28')
      go_ret2
      exact ⟨rfl, HB.out⟩
  · rw [if_neg cu] at H
    injection H with H
    injection H with h1 h2
    subst h1 h2
    have eu : (u != 0) = true := bne_iff_ne.mpr cu
    go_wp2_with (go_at_call 21; (with_reducible refine (policy_Check.calls k a0_0 a0_1 a0_2 a0_3 a0_4 a0_5 a0_6 a0_7 a0_8 a0_9 a0_10 a0_11 a0_12 u _ HU.out).mono ?_); rintro e w2 ⟨rfl, hb⟩; have n_ : Aside0 (Below w.heap.size w w2) := Aside0.mk (by first | exact below_step HB.out hb | exact below_step (pw_below_drewN HB.out _) hb); clear HB; have HB := n_; clear n_; have hzz := hb.size; have H37' := Aside0.mk ((hb.block w.heap.size (by omega)).trans H37.out); have H28' := Aside0.mk ((hb.block (w.heap.size + 1) (by omega)).trans H28.out); clear hb H37 H28; have H37 := H37'; have H28 := H28'; clear H37' H28')
    go_ret2
    exact ⟨rfl, HB.out⟩


/-! ### policy_Ranked: function 26 -/
open Go.Proofs.Ytdieefjolkhmpaa.Own
def policy_Ranked.f (a0_0 a0_1 a0_2 a0_3 a0_4 a0_5 a0_6 a0_7 a0_8 a0_9 a0_10 a0_11 a0_12 : Int) : Option (List Int) := some (rankedFrom [a0_6, a0_7, a0_8, a0_9, a0_10, a0_11, a0_12] 6 1 [])
set_option maxHeartbeats 8000000 in
set_option maxRecDepth 100000 in
theorem policy_Ranked.calls (a0_0 a0_1 a0_2 a0_3 a0_4 a0_5 a0_6 a0_7 a0_8 a0_9 a0_10 a0_11 a0_12 : Int) (r : List Int) (w : World) (h : policy_Ranked.f a0_0 a0_1 a0_2 a0_3 a0_4 a0_5 a0_6 a0_7 a0_8 a0_9 a0_10 a0_11 a0_12 = some r) :
    Calls Try.prog 26 #[.agg #[.int .i64 a0_0, .int .i64 a0_1, .int .i64 a0_2, .int .i64 a0_3, .int .i64 a0_4, .int .i64 a0_5, .int .i64 a0_6, .int .i64 a0_7, .int .i64 a0_8, .int .i64 a0_9, .int .i64 a0_10, .int .i64 a0_11, .int .i64 a0_12]] w fun e w' => ∃ v0_ : Value, e = .returned (v0_) ∧ Kd.R (Kd.int .i64) 3 w' w.heap.size (fun _ => True) v0_ r ∧ Below w.heap.size w w' := by
  unfold policy_Ranked.f at h
  injection h with h
  have H37 := Aside0.mk (heap_alloc_new w (.cells #[.int .i64 a0_0, .int .i64 a0_1, .int .i64 a0_2, .int .i64 a0_3, .int .i64 a0_4, .int .i64 a0_5, .int .i64 a0_6, .int .i64 a0_7, .int .i64 a0_8, .int .i64 a0_9, .int .i64 a0_10, .int .i64 a0_11, .int .i64 a0_12] 37))
  have HB := Aside0.mk (below_alloc (Below.refl w.heap.size w) (.cells #[.int .i64 a0_0, .int .i64 a0_1, .int .i64 a0_2, .int .i64 a0_3, .int .i64 a0_4, .int .i64 a0_5, .int .i64 a0_6, .int .i64 a0_7, .int .i64 a0_8, .int .i64 a0_9, .int .i64 a0_10, .int .i64 a0_11, .int .i64 a0_12] 37))
  have HZ : w.heap.size < (w.alloc (.cells #[.int .i64 a0_0, .int .i64 a0_1, .int .i64 a0_2, .int .i64 a0_3, .int .i64 a0_4, .int .i64 a0_5, .int .i64 a0_6, .int .i64 a0_7, .int .i64 a0_8, .int .i64 a0_9, .int .i64 a0_10, .int .i64 a0_11, .int .i64 a0_12] 37)).heap.size := by simp
  have H := Aside0.mk h
  clear h
  go_enter Try.func26, Try.ntmps26
  go_upto_region 1 with (fail)
  generalize w.alloc (.cells #[.int .i64 a0_0, .int .i64 a0_1, .int .i64 a0_2, .int .i64 a0_3, .int .i64 a0_4, .int .i64 a0_5, .int .i64 a0_6, .int .i64 a0_7, .int .i64 a0_8, .int .i64 a0_9, .int .i64 a0_10, .int .i64 a0_11, .int .i64 a0_12] 37) = w1 at H37 HB HZ ⊢
  have hs := seven_cell H37.out
  generalize hR : ([a0_6, a0_7, a0_8, a0_9, a0_10, a0_11, a0_12] : List Int) = R at hs H
  clear hR
  have HC := Aside0.mk hs
  clear hs
  go_wp2
  go_loopw [3, 4] (fun v3 v4 wr => ∃ (alg : Nat) (xs : List Int), 1 ≤ alg ∧ alg ≤ 7 ∧ v4 = .int .i64 alg ∧ Aside0 (rankedFrom R (7 - alg) alg xs = r) ∧ Aside0 (xs.length < alg ∧ ∀ x, x ∈ xs → 1 ≤ x ∧ x < 7) ∧ Aside0 (Kd.R (Kd.int .i64) 3 wr (w.heap.size + 1) (fun _ => True) v3 xs) ∧ Aside0 (wr.heap[w.heap.size]? = w1.heap[w.heap.size]?) ∧ Aside0 (Below w.heap.size w wr)) (fun _ v4 _ => 7 - (intOf v4).toNat)
  case atStart => exact ⟨1, [], by omega, by omega, rfl, H, ⟨by simp, fun x hx => by simp at hx⟩, ⟨Kd.R_nil _ _ _ _ _⟩, ⟨rfl⟩, HB⟩
  case round =>
    clear H HB HZ
    obtain ⟨alg, xs, ha1, ha7, rfl, H, HX, HO, HW, HB⟩ := hrel
    by_cases ca : alg < 7
    · have hr := H.out
      clear H
      rw [show 7 - alg = (6 - alg) + 1 by omega, rankedFrom] at hr
      have hca0 := HC.out alg (by omega) (by omega)
      rw [Int.toNat_natCast] at hca0
      have hz : w.heap.size < wr.heap.size := by
        rcases Nat.lt_or_ge w.heap.size wr.heap.size with q | q
        · exact q
        · exact absurd HW.out (by rw [Array.getElem?_eq_none q]; intro z; rw [← z] at H37; cases H37.out)
      have hca : wr.cell? ⟨w.heap.size, 6 + alg, none⟩ = some (.int .i64 (rd R (alg : Int))) := (World.cell?_of_block HW.out).trans hca0
      clear hca0
      by_cases c1 : rd R (alg : Int) < 1
      · rw [if_pos c1] at hr
        have d1 : decide (rd R (alg : Int) < 1) = true := decide_eq_true c1
        have H := Aside0.mk hr
        clear hr c1
        go_wp2
        go_roundw
        case rel => exact ⟨alg + 1, xs, by omega, by omega, by go_num, by rw [show 7 - (alg + 1) = 6 - alg by omega]; exact H, ⟨by have := HX.out.1; omega, HX.out.2⟩, HO, HW, HB⟩
        case measure => simp [intOf]; omega
      · rw [if_neg c1] at hr
        have d1 : decide (rd R (alg : Int) < 1) = false := decide_eq_false c1
        have H := Aside0.mk hr
        clear hr c1
        obtain ⟨A_, c_, hv⟩ := Kd.R_slice HO.out
        subst hv
        go_wp2
        clear d1
        go_loopw [5] (fun v5 wq => ∃ (y : Int) (n : Nat), 0 ≤ y ∧ y ≤ xs.length ∧ v5 = .int .i64 y ∧ wq = wr.drewN n ∧ Aside0 (insPos R xs (alg : Int) y.toNat = insPos R xs (alg : Int) xs.length)) (fun v5 _ => (intOf v5).toNat)
        case atStart => exact ⟨xs.length, 0, by omega, by omega, rfl, rfl, ⟨by rw [Int.toNat_natCast]⟩⟩
        case round =>
          obtain ⟨y, n, hy0, hy1, rfl, rfl, HP⟩ := hrel
          have hlen := HX.out.1
          by_cases c2 : 0 < y
          · have d2 : decide (0 < y) = true := decide_eq_true c2
            have hp := HP.out
            rw [show y.toNat = (y - 1).toNat + 1 by omega] at hp
            simp only [insPos] at hp
            rw [show (((y - 1).toNat : Nat) : Int) = y - 1 by omega] at hp
            have hmem := HX.out.2 (rd xs (y - 1)) (by have := rd_mem xs (y - 1).toNat (by omega); rwa [show (((y - 1).toNat : Nat) : Int) = y - 1 by omega] at this)
            obtain ⟨ad, cs, e1, e2, e3, e4⟩ := Kd.C_get (Kd.R_reads' HO.out).2.2 0 (y - 1) (by omega) (by omega)
            subst e1
            have e5 : cs = [.int .i64 (rd xs (y - 1))] := e3
            subst e5
            have q1 : wr.cell? (ad.add (y - 1).toNat) = some (.int .i64 (rd xs (y - 1))) := by
              have := e4 0 _ rfl
              rw [show (y - 1).toNat * (Kd.int .i64).sz + 0 = (y - 1).toNat from Nat.mul_one _] at this
              exact this
            have q1' : wr.cell? (ad.add (y.toNat - 1)) = some (.int .i64 (rd xs (y - 1))) := by rw [show y.toNat - 1 = (y - 1).toNat by omega]; exact q1
            have q2 : wr.cell? ⟨w.heap.size, 6 + (rd xs (y - 1)).toNat, none⟩ = some (.int .i64 (rd R (rd xs (y - 1)))) := (World.cell?_of_block HW.out).trans (HC.out _ (by omega) hmem.2)
            clear e2 e3 e4
            generalize hx : rd xs (y - 1) = x at *
            have HXX := Aside0.mk hx
            clear hx
            have hm0 : 0 ≤ x := by omega
            have hm7 : x < 7 := hmem.2
            have dm0 : decide (0 ≤ x) = true := decide_eq_true hm0
            have dm7 : decide (x < 7) = true := decide_eq_true hm7
            have dy0 : decide (0 ≤ y - 1) = true := decide_eq_true (by omega)
            have dy1 : decide (1 ≤ y) = true := decide_eq_true (by omega)
            have dy2 : decide (y - 1 < (xs.length : Int)) = true := decide_eq_true (by omega)
            have hy2 : 0 ≤ y - 1 := by omega
            have hy3 : y - 1 < (xs.length : Int) := by omega
            have ey0 := eq_true hy2
            have ey1 := eq_true hy3
            have ey2 := eq_true hy1
            have ey3 : (1 ≤ y) = True := eq_true (by omega)
            have ex0 := eq_true hm0
            have ex7 := eq_true hm7
            have ha0 : 0 ≤ (alg : Int) := by omega
            have haz : (alg : Int) < 7 := by omega
            by_cases c3 : rd R x < rd R (alg : Int)
            · rw [if_pos c3] at hp
              have d3 : decide (rd R x < rd R (alg : Int)) = true := decide_eq_true c3
              have HP := Aside0.mk hp
              have ew : IntKind.i64.wrap (y - 1) = y - 1 := by rw [IntKind.wrap_i64]; omega
              have ew2 : wrap64 (y - 1) = y - 1 := by unfold wrap64; omega
              clear hp c3
              go_wp2
              go_quiet (fail)
              go_wp2
              go_roundw
              case rel => exact ⟨y - 1, _, by omega, by omega, rfl, rfl, HP⟩
              case measure => simp only [intOf]; omega
            · rw [if_neg c3] at hp
              have d3 : decide (rd R x < rd R (alg : Int)) = false := decide_eq_false c3
              have HP : Aside0 (insPos R xs (alg : Int) xs.length = y.toNat) := Aside0.mk (by rw [show y.toNat = (y - 1).toNat + 1 by omega]; exact hp.symm)
              have ew : IntKind.i64.wrap (y - 1) = y - 1 := by rw [IntKind.wrap_i64]; omega
              have ew2 : wrap64 (y - 1) = y - 1 := by unfold wrap64; omega
              clear hp c3
              go_wp2
              go_quiet (fail)
              go_wp2
              clear q1 q1' q2 dm0 dm7 dy0 dy1 dy2 ey0 ey1 ey2 ey3 ex0 ex7 d3 ew ew2 HXX hmem hm0 hm7 hy2 hy3

              generalize hwz : World.drewN (wr.drewN n) _ = w2
              have HO2 : Kd.R (Kd.int .i64) 3 w2 (w.heap.size + 1) (fun _ => True) (.slice (some ad) xs.length c_) xs := by rw [← hwz]; exact Kd.R_drewN (Kd.R_drewN HO.out _) _
              have HW2 : Aside0 (w2.heap[w.heap.size]? = w1.heap[w.heap.size]?) := Aside0.mk (by rw [← hwz]; exact HW.out)
              have HB2 : Below w.heap.size w w2 := by rw [← hwz]; exact pw_below_drewN (pw_below_drewN HB.out _) _
              have hz2 : w.heap.size + 1 ≤ w2.heap.size := by rw [← hwz]; exact hz
              clear hwz HO HW HB hca hz
              have hnc := (Kd.R_reads' HO2).2.1
              have HC2 := Kd.C_drop (m := y.toNat) (Kd.R_reads' HO2).2.2 (by omega) hnc
              have HT2 := Kd.R_bound (Kd.R_take (m := y.toNat) HO2 (by omega))
              have HXX2 := HX.out.2
              have hs1 : ∀ W, (Instr.sliceAt 45 (.slice (some ad) xs.length c_) none (some (.int .i64 y)) none).run Try.prog W = .ok (.slice (some ad) (y).toNat c_) W := fun W => run_cut_to Try.underlying45 (by kernel_rfl) (by omega) (by omega) W
              obtain ⟨A2, hA2⟩ : ∃ A2, A2 = (if c_ = (y).toNat then (some ad) else (some ad).map (·.add ((y).toNat * 1))) := ⟨_, rfl⟩
              have hs2 : ∀ W, (Instr.sliceAt 45 (.slice (some ad) xs.length c_) (some (.int .i64 y)) none none).run Try.prog W = .ok (.slice A2 (xs.length - (y).toNat) (c_ - (y).toNat)) W := fun W => by rw [hA2]; exact run_cut_from Try.underlying45 (by kernel_rfl) (by omega) (by omega) W
              have HC3 : Kd.C (Kd.int .i64) w2 A2 (xs.length - (y).toNat) (xs.drop (y).toNat) := by
                have e := HC2
                rw [List.length_drop] at e
                rw [hA2]
                exact e
              clear HC2 hA2
              obtain ⟨p_, hp_⟩ : ∃ p_ : Nat, p_ = (y).toNat := ⟨_, rfl⟩
              have HPP : Aside0 (p_ = insPos R xs (alg : Int) xs.length) := Aside0.mk (by rw [HP.out]; exact hp_)
              rw [← hp_] at hs1 hs2 HC3 HT2
              have hpl : p_ ≤ xs.length := by omega
              have HPE := Aside0.mk hp_
              clear hp_
              have hxl : xs.length < 7 := by omega
              go_region_law (first
                | (refine Kd.R_append_rows_step (Kd.int .i64) (w0 := w2) (w.heap.size + 1) rfl (.tmp 40) (.tmp 43) 45 3 (.int .i64 0) 8 rfl Try.underlying45 info3 rfl (by decide) (by omega) (.slice (some ⟨w2.heap.size, 0, none⟩) 1 1) [(alg : Int)] (xs.drop p_) A2 (xs.length - p_) (c_ - p_) (fun _ => True) (fun _ => False) rfl rfl (lit_R w2.drew _ hz2 _) (Kd.C_alloc (Kd.C_drew HC3) _) (fun x cs hx => hx) (fun k hk => hk.elim) (fun _ _ => trivial) (below_drew ((Below.refl _ _).alloc hz2 _)) (by simp; omega) (by simp; omega) ?_; intro v3_ w3 ho1 hb1 hg1 hat1; obtain ⟨A3, c3, e3⟩ := Kd.R_slice ho1; subst e3; have HC5 : Kd.C (Kd.int .i64) w3 A3 (xs.length - p_ + 1) ([(alg : Int)] ++ xs.drop p_) := (by have q := (Kd.R_reads' ho1).2.2; have l_ : ([(alg : Int)] ++ xs.drop p_).length = xs.length - p_ + 1 := (by simp); rw [l_] at q; exact q))
                | (refine Kd.R_append_rows_step (Kd.int .i64) (w0 := w2) (w.heap.size + 1) rfl (.tmp 38) (.tmp 44) 45 3 (.int .i64 0) 8 rfl Try.underlying45 info3 rfl (by decide) (by omega) (.slice (some ad) p_ c_) (xs.take p_) ([(alg : Int)] ++ xs.drop p_) A3 (xs.length - p_ + 1) c3 (fun _ => True) (fun _ => False) rfl rfl (Kd.R_mono (Kd.R_grown (Kd.R_alloc (Kd.R_drew HT2) _) hg1 (fun k hk e => by have q := hk.2.2.1; have e' : k = w2.heap.size := (by simpa [Value.ownBlock] using e); omega)) (fun _ _ => trivial)) HC5 (fun x cs hx => hx) (fun k hk => hk.elim) (fun _ _ => trivial) hb1 (by have := hb1.size; omega) (by simp only [List.length_append, List.length_take, List.length_drop, List.length_cons, List.length_nil]; omega) ?_; intro v4_ w4 ho4 hb4 hg4 hat4))
              go_wp2
              go_roundw
              case rel => exact ⟨alg + 1, insRank R xs (alg : Int), by omega, by omega, by go_num, by rw [show 7 - (alg + 1) = 6 - alg by omega]; exact H, ⟨by rw [insRank_len]; omega, insRank_all R xs _ HXX2 (by omega) (by omega)⟩, ⟨by unfold insRank; rw [← HPP.out]; exact ho4⟩, ⟨(hb4.block w.heap.size (by omega)).trans HW2.out⟩, ⟨HB2.trans (hb4.mono (by omega))⟩⟩
              case measure => simp [intOf]; omega

          · obtain rfl : y = 0 := by omega
            have d2 : decide ((0 : Int) < 0) = false := rfl
            have HP : Aside0 (insPos R xs (alg : Int) xs.length = (0 : Int).toNat) := Aside0.mk (by have := HP.out; exact this.symm)
            go_wp2
            go_quiet (fail)
            go_wp2

            generalize hwz : World.drewN (wr.drewN n) _ = w2
            have HO2 : Kd.R (Kd.int .i64) 3 w2 (w.heap.size + 1) (fun _ => True) (.slice A_ xs.length c_) xs := by rw [← hwz]; exact Kd.R_drewN (Kd.R_drewN HO.out _) _
            have HW2 : Aside0 (w2.heap[w.heap.size]? = w1.heap[w.heap.size]?) := Aside0.mk (by rw [← hwz]; exact HW.out)
            have HB2 : Below w.heap.size w w2 := by rw [← hwz]; exact pw_below_drewN (pw_below_drewN HB.out _) _
            have hz2 : w.heap.size + 1 ≤ w2.heap.size := by rw [← hwz]; exact hz
            clear hwz HO HW HB hca hz
            have hnc := (Kd.R_reads' HO2).2.1
            have HC2 := Kd.C_drop (m := (0 : Int).toNat) (Kd.R_reads' HO2).2.2 (by omega) hnc
            have HT2 := Kd.R_bound (Kd.R_take (m := (0 : Int).toNat) HO2 (by omega))
            have HXX2 := HX.out.2
            have hs1 : ∀ W, (Instr.sliceAt 45 (.slice A_ xs.length c_) none (some (.int .i64 (0 : Int))) none).run Try.prog W = .ok (.slice A_ ((0 : Int)).toNat c_) W := fun W => run_cut_to Try.underlying45 (by kernel_rfl) (by omega) (by omega) W
            obtain ⟨A2, hA2⟩ : ∃ A2, A2 = (if c_ = ((0 : Int)).toNat then A_ else A_.map (·.add (((0 : Int)).toNat * 1))) := ⟨_, rfl⟩
            have hs2 : ∀ W, (Instr.sliceAt 45 (.slice A_ xs.length c_) (some (.int .i64 (0 : Int))) none none).run Try.prog W = .ok (.slice A2 (xs.length - ((0 : Int)).toNat) (c_ - ((0 : Int)).toNat)) W := fun W => by rw [hA2]; exact run_cut_from Try.underlying45 (by kernel_rfl) (by omega) (by omega) W
            have HC3 : Kd.C (Kd.int .i64) w2 A2 (xs.length - ((0 : Int)).toNat) (xs.drop ((0 : Int)).toNat) := by
              have e := HC2
              rw [List.length_drop] at e
              rw [hA2]
              exact e
            clear HC2 hA2
            obtain ⟨p_, hp_⟩ : ∃ p_ : Nat, p_ = ((0 : Int)).toNat := ⟨_, rfl⟩
            have HPP : Aside0 (p_ = insPos R xs (alg : Int) xs.length) := Aside0.mk (by rw [HP.out]; exact hp_)
            rw [← hp_] at hs1 hs2 HC3 HT2
            have hpl : p_ ≤ xs.length := by omega
            have HPE := Aside0.mk hp_
            clear hp_
            have hxl : xs.length < 7 := by omega
            go_region_law (first
              | (refine Kd.R_append_rows_step (Kd.int .i64) (w0 := w2) (w.heap.size + 1) rfl (.tmp 40) (.tmp 43) 45 3 (.int .i64 0) 8 rfl Try.underlying45 info3 rfl (by decide) (by omega) (.slice (some ⟨w2.heap.size, 0, none⟩) 1 1) [(alg : Int)] (xs.drop p_) A2 (xs.length - p_) (c_ - p_) (fun _ => True) (fun _ => False) rfl rfl (lit_R w2.drew _ hz2 _) (Kd.C_alloc (Kd.C_drew HC3) _) (fun x cs hx => hx) (fun k hk => hk.elim) (fun _ _ => trivial) (below_drew ((Below.refl _ _).alloc hz2 _)) (by simp; omega) (by simp; omega) ?_; intro v3_ w3 ho1 hb1 hg1 hat1; obtain ⟨A3, c3, e3⟩ := Kd.R_slice ho1; subst e3; have HC5 : Kd.C (Kd.int .i64) w3 A3 (xs.length - p_ + 1) ([(alg : Int)] ++ xs.drop p_) := (by have q := (Kd.R_reads' ho1).2.2; have l_ : ([(alg : Int)] ++ xs.drop p_).length = xs.length - p_ + 1 := (by simp); rw [l_] at q; exact q))
              | (refine Kd.R_append_rows_step (Kd.int .i64) (w0 := w2) (w.heap.size + 1) rfl (.tmp 38) (.tmp 44) 45 3 (.int .i64 0) 8 rfl Try.underlying45 info3 rfl (by decide) (by omega) (.slice A_ p_ c_) (xs.take p_) ([(alg : Int)] ++ xs.drop p_) A3 (xs.length - p_ + 1) c3 (fun _ => True) (fun _ => False) rfl rfl (Kd.R_mono (Kd.R_grown (Kd.R_alloc (Kd.R_drew HT2) _) hg1 (fun k hk e => by have q := hk.2.2.1; have e' : k = w2.heap.size := (by simpa [Value.ownBlock] using e); omega)) (fun _ _ => trivial)) HC5 (fun x cs hx => hx) (fun k hk => hk.elim) (fun _ _ => trivial) hb1 (by have := hb1.size; omega) (by simp only [List.length_append, List.length_take, List.length_drop, List.length_cons, List.length_nil]; omega) ?_; intro v4_ w4 ho4 hb4 hg4 hat4))
            go_wp2
            go_roundw
            case rel => exact ⟨alg + 1, insRank R xs (alg : Int), by omega, by omega, by go_num, by rw [show 7 - (alg + 1) = 6 - alg by omega]; exact H, ⟨by rw [insRank_len]; omega, insRank_all R xs _ HXX2 (by omega) (by omega)⟩, ⟨by unfold insRank; rw [← HPP.out]; exact ho4⟩, ⟨(hb4.block w.heap.size (by omega)).trans HW2.out⟩, ⟨HB2.trans (hb4.mono (by omega))⟩⟩
            case measure => simp [intOf]; omega

    · obtain rfl : alg = 7 := by omega
      have hr := H.out
      clear H
      rw [show 7 - 7 = 0 from rfl, rankedFrom] at hr
      subst hr
      go_wp2
      go_ret
      exact ⟨_, rfl, Kd.R_lower HO.out (by omega), HB.out⟩


end
end Go.Proofs.Ytdieefjolkhmpaa.PPo
