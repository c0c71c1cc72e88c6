/- How many replies have which error: the program's and the reference's functions come to the same. -/
import Derived.Test.YtdieefjolkhmpaaPRpPairs
namespace Go.Proofs.Ytdieefjolkhmpaa.PRpTally
open Go.RowKit Go.Proofs.Ytdieefjolkhmpaa.PRp Go.Proofs.YtdieefjolkhmpaaW.PrintWords Go.Proofs.YtdieefjolkhmpaaW.PrintLast Go.Proofs.YtdieefjolkhmpaaW.PrintMore Go.Proofs.Ytdieefjolkhmpaa.Base Go.Proofs.Ytdieefjolkhmpaa.PRpDec Go.Proofs.Ytdieefjolkhmpaa.PRpRep Go.Proofs.Ytdieefjolkhmpaa.PRpJoin Go.Proofs.Ytdieefjolkhmpaa.PRpLine Go.Proofs.Ytdieefjolkhmpaa.PRpPairs
set_option linter.unusedSimpArgs false
set_option linter.unusedVariables false
attribute [local irreducible] IntKind.wrap bt

/-- How many replies have an error. -/
def cnt (l : List S26) (e : Int) : Nat := l.countP fun x => decide (tallyKey x.f0 = e)
theorem cnt_le (l : List S26) (e : Int) : cnt l e ≤ l.length := List.countP_le_length
theorem cnt_snoc (l : List S26) (e : Int) (i : Nat) (h : i < l.length) : cnt (l.take (i + 1)) e = cnt (l.take i) e + if tallyKey (rd_T26 l (i : Int)).f0 = e then 1 else 0 := by
  rw [List.take_succ_eq_append_getElem h]
  unfold cnt
  rw [List.countP_append]
  have hx : rd_T26 l (i : Int) = l[i] := by
    unfold rd_T26
    rw [Int.toNat_natCast, List.getD_eq_getElem?_getD, List.getElem?_eq_getElem h]
    rfl
  rw [hx]
  by_cases c : tallyKey (l[i]).f0 = e
  · simp [c]
  · simp [c]
theorem rd_set (m : List Int) (a b : Int) (v : Int) (h0 : 0 ≤ a) (h1 : a < m.length) (h2 : 0 ≤ b) : rd (m.set a.toNat v) b = if a = b then v else rd m b := by
  unfold rd
  rw [List.getD_eq_getElem?_getD, List.getD_eq_getElem?_getD]
  by_cases c : a = b
  · subst c
    rw [if_pos rfl, List.getElem?_set_self (by omega)]
    rfl
  · rw [if_neg c, List.getElem?_set_ne (by omega)]
theorem tally_rd (l : List S26) (hl : l.length ≤ 1000) (e : Int) (h0 : 0 ≤ e) (h1 : e < 18) : ∀ i : Nat, i ≤ l.length → rd (tallyOf (l.take i)) e = (cnt (l.take i) e : Int)
  | 0, _ => by
    simp only [List.take_zero]
    show rd (List.replicate 18 0) e = 0
    unfold rd
    rw [List.getD_eq_getElem?_getD, List.getElem?_replicate]
    split <;> rfl
  | i + 1, h => by
    have ih := tally_rd l hl e h0 h1 i (by omega)
    have hc := cnt_le (l.take i) e
    have hk0 := tallyKey_lo (rd_T26 l (i : Int)).f0
    have hk1 := tallyKey_hi (rd_T26 l (i : Int)).f0
    have hlen : (l.take i).length ≤ i := List.length_take_le _ _
    rw [tallyOf_snoc l i (by omega), cnt_snoc l e i (by omega)]
    unfold tallyUp
    rw [rd_set _ _ _ _ hk0 (by rw [tallyOf_len]; exact hk1) h0]
    by_cases c : tallyKey (rd_T26 l (i : Int)).f0 = e
    · rw [if_pos c, if_pos c, c, ih, w64 (by omega) (by omega)]
      omega
    · rw [if_neg c, if_neg c, ih]
      omega

theorem rjoin_l0 (c : UInt8) (P : List (List UInt8)) (hP : P.length ≤ 1000) : ∀ (r : List (List UInt8)) (i : Nat) (acc : List UInt8), P.drop i = r → 0 < i → i ≤ P.length → acc.length + sumLen r ≤ 2000000 →
    Ev (fun k => pestleref41_Join.l0 k (B [c]) (P.map B) (B acc) (i : Int)) (B (acc ++ tailL c r)) := by
  intro r
  induction r with
  | nil =>
    intro i acc hr h0 hi ha
    have : P.length ≤ i := List.drop_eq_nil_iff.1 hr
    refine Ev.step (f := fun _ => _) (fun k => ?_) (Ev.now _)
    simp only [pestleref41_Join.l0]
    rw [if_neg (by rw [List.length_map]; omega)]
    simp [tailL]
  | cons p r ih =>
    intro i acc hr h0 hi ha
    have hl : i < P.length := by
      rcases Nat.lt_or_ge i P.length with h1 | h1
      · exact h1
      · rw [List.drop_eq_nil_of_le h1] at hr; cases hr
    rw [List.drop_eq_getElem_cons hl] at hr
    injection hr with q1 q2
    have hrd : rdOf ByteArray.empty (P.map B) (i : Int) = B p := by
      unfold rdOf
      rw [List.getD_eq_getElem?_getD, Int.toNat_natCast, List.getElem?_map, List.getElem?_eq_getElem hl, q1]
      rfl
    have e1 := nx (i := i) (by omega)
    rw [sumLen_cons] at ha
    have ih' := ih (i + 1) (acc ++ c :: p) q2 (by omega) (by omega) (by simp only [List.length_append, List.length_cons]; omega)
    have e2 : acc ++ tailL c (p :: r) = (acc ++ c :: p) ++ tailL c r := by simp [tailL]
    have e3 : B (acc ++ c :: p) = B acc ++ B [c] ++ B p := by rw [← L_inj]; simp only [L_append, L_B]; simp
    rw [e2]
    rw [e3] at ih'
    refine Ev.step (fun k => ?_) ih'
    simp only [pestleref41_Join.l0]
    rw [if_pos (by rw [List.length_map]; omega), if_pos (by omega), if_pos (by simp only [size_B, List.length_cons, List.length_nil]; omega), if_pos (by omega), hrd, if_pos (by simp only [ByteArray.size_append, size_B, List.length_cons, List.length_nil]; omega), e1.out]
theorem join_both (c : UInt8) (P : List (List UInt8)) (hP : P.length ≤ 900) (hs : sumLen P ≤ 2000000) : ∃ out : ByteArray, Ev (fun k => fields_Join.f k (c.toNat : Int) (P.map B)) out ∧ Ev (fun k => pestleref41_Join.f k (B [c]) (P.map B)) out := by
  cases P with
  | nil =>
    refine ⟨⟨#[]⟩, ?_, ?_⟩
    · exact Ev.step (g := fun k => fields_Join.l0 k (c.toNat : Int) [] ([] : List ByteArray) 0 0) (f := fun _ => _) (fun k => by simp only [fields_Join.l0]; rw [if_neg (by omega)]; rfl) (Ev.now _)
    · exact Ev.step (g := fun k => pestleref41_Join.l0 k (B [c]) ([] : List ByteArray) ⟨#[]⟩ 0) (f := fun _ => _) (fun k => by simp only [pestleref41_Join.l0]; rw [if_neg (by simp)]) (Ev.now _)
  | cons p r =>
    simp only [List.length_cons] at hP
    refine ⟨_, join_f c p r (by omega) hs, ?_⟩
    have e1 : wrap64 (0 + 1) = ((1 : Nat) : Int) := by rw [w64 (by omega) (by omega)]; rfl
    rw [sumLen_cons] at hs
    have h := rjoin_l0 c (p :: r) (by simp only [List.length_cons]; omega) r 1 p rfl (by omega) (by simp only [List.length_cons]; omega) (by omega)
    rw [joinL_tail]
    refine Ev.step (g := fun k => pestleref41_Join.l0 k (B [c]) ((p :: r).map B) ⟨#[]⟩ 0) (fun k => ?_) h
    simp only [pestleref41_Join.l0]
    have hrd : rdOf ByteArray.empty ((p :: r).map B) 0 = B p := rfl
    have e0 : (⟨#[]⟩ : ByteArray) ++ B p = B p := by rw [← L_inj, L_append]; rfl
    rw [if_pos (by rw [List.length_map]; simp only [List.length_cons]; omega), if_neg (by omega), if_pos (by omega), hrd, if_pos (by rw [size_B]; show 0 + p.length ≤ _; omega), e1, e0]

theorem rt_l1 (l : List S26) (hl : l.length ≤ 1000) (P : List ByteArray) (e : Int) (r : ByteArray) (h : Ev (fun k => pestleref54_Tally.l1 k l P e (cnt l e : Int) (l.length : Int)) r) : ∀ (d i : Nat), i + d = l.length → Ev (fun k => pestleref54_Tally.l1 k l P e (cnt (l.take i) e : Int) (i : Int)) r := by
  intro d
  induction d with
  | zero =>
    intro i hi
    obtain rfl : i = l.length := by omega
    rw [List.take_length]
    exact h
  | succ d ih =>
    intro i hi
    have ih' := ih (i + 1) (by omega)
    have e1 := nx (i := i) (by omega)
    have hc := cnt_le (l.take i) e
    have hlen : (l.take i).length ≤ i := List.length_take_le _ _
    rw [cnt_snoc l e i (by omega)] at ih'
    have e2 : wrap64 ((cnt (l.take i) e : Int) + 1) = ((cnt (l.take i) e + 1 : Nat) : Int) := by rw [w64 (by omega) (by omega)]; omega
    have step : ∀ (b : Bool) (y : Int), tallyKey (rd_T26 l (i : Int)).f0 = (if b = true then 17 else (rd_T26 l (i : Int)).f0) → y = (rd_T26 l (i : Int)).f0 → Ev (fun k => pestleref54_Tally.j2 k l P e (cnt (l.take i) e : Int) (i : Int) y b) r := by
      intro b y hk hy
      subst hy
      rw [hk] at ih'
      cases b
      · rw [if_neg (show ¬ (false = true) by decide)] at ih'
        by_cases c : (rd_T26 l (i : Int)).f0 = e
        · rw [if_pos c] at ih'
          refine Ev.step (fun k => ?_) ih'
          simp only [pestleref54_Tally.j2]
          rw [if_neg (by decide), if_pos c, e2, e1.out]
        · rw [if_neg c] at ih'
          refine Ev.step (fun k => ?_) ih'
          simp only [pestleref54_Tally.j2]
          rw [if_neg (by decide), if_neg c, e1.out]
          rfl
      · rw [if_pos (show true = true from rfl)] at ih'
        by_cases c : 17 = e
        · rw [if_pos c] at ih'
          refine Ev.step (fun k => ?_) ih'
          simp only [pestleref54_Tally.j2]
          rw [if_pos trivial, if_pos c, e2, e1.out]
        · rw [if_neg c] at ih'
          refine Ev.step (fun k => ?_) ih'
          simp only [pestleref54_Tally.j2]
          rw [if_pos trivial, if_neg c, e1.out]
          rfl
    by_cases c1 : (rd_T26 l (i : Int)).f0 < 0
    · refine Ev.step (fun k => ?_) (step true _ (by unfold tallyKey; rw [if_pos c1, if_pos rfl]) rfl)
      simp only [pestleref54_Tally.l1]
      rw [if_pos (by omega), if_pos (by omega), if_pos c1]
    · by_cases c2 : (rd_T26 l (i : Int)).f0 > 16
      · refine Ev.step (fun k => ?_) (step true _ (by unfold tallyKey; rw [if_neg c1, if_pos c2, if_pos rfl]) rfl)
        simp only [pestleref54_Tally.l1]
        rw [if_pos (by omega), if_pos (by omega), if_neg c1, decide_eq_true c2]
      · refine Ev.step (fun k => ?_) (step false _ (by unfold tallyKey; rw [if_neg c1, if_neg c2, if_neg (by decide)]) rfl)
        simp only [pestleref54_Tally.l1]
        rw [if_pos (by omega), if_pos (by omega), if_neg c1, decide_eq_false c2]

theorem zb : (⟨#[32]⟩ : ByteArray).size = 1 := rfl
theorem tl_both (l : List S26) (hl : l.length ≤ 1000) : ∀ (d e : Nat) (P : List (List UInt8)), e + d = 18 → P.length ≤ e → sumLen P ≤ e * 100 →
    ∃ out : ByteArray, Ev (fun k => report_Tally.l1 k (tallyOf l) (P.map B) (e : Int)) out ∧ Ev (fun k => pestleref54_Tally.l0 k l (P.map B) (e : Int)) out := by
  intro d
  induction d with
  | zero =>
    intro e P he hP hs
    obtain ⟨out, o1, o2⟩ := join_both 44 P (by omega) (by omega)
    refine ⟨out, ?_, ?_⟩
    · refine Ev.step (fun k => ?_) o1
      simp only [report_Tally.l1]
      rw [if_neg (by omega)]
      rfl
    · refine Ev.step (fun k => ?_) (Ev.bind (f := fun _ t => some t) o2 (Ev.now _))
      simp only [pestleref54_Tally.l0]
      rw [if_neg (by omega)]
      rfl
  | succ d ih =>
    intro e P he hP hs
    have e1 := nx (i := e) (by omega)
    have hc := cnt_le l (e : Int)
    have hrd := tally_rd l hl (e : Int) (by omega) (by omega) l.length (Nat.le_refl _)
    rw [List.take_length] at hrd
    by_cases c0 : 0 < cnt l (e : Int)
    · obtain ⟨n, hn8, n1, n2⟩ := name_both (e : Int)
      have hd := digs_len (n := cnt l (e : Int)) (by omega)
      obtain ⟨out, o1, o2⟩ := ih (e + 1) (P ++ [L ((n ++ (⟨#[32]⟩ : ByteArray)) ++ B (digs (cnt l (e : Int))))]) (by omega) (by simp only [List.length_append, List.length_cons, List.length_nil]; omega) (by
        have : sumLen (P ++ [L ((n ++ (⟨#[32]⟩ : ByteArray)) ++ B (digs (cnt l (e : Int))))]) = sumLen P + ((L ((n ++ (⟨#[32]⟩ : ByteArray)) ++ B (digs (cnt l (e : Int))))).length + 1) := by simp [sumLen]
        rw [this, L_size]
        simp only [ByteArray.size_append, zb, size_B]
        omega)
      have hm : (P ++ [L ((n ++ (⟨#[32]⟩ : ByteArray)) ++ B (digs (cnt l (e : Int))))]).map B = P.map B ++ [(n ++ (⟨#[32]⟩ : ByteArray)) ++ B (digs (cnt l (e : Int)))] := by simp only [List.map_append, List.map_cons, List.map_nil, B_L]
      rw [hm] at o1 o2
      refine ⟨out, ?_, ?_⟩
      · refine Ev.step (fun k => by
          simp only [report_Tally.l1]
          rw [if_pos (by omega), hrd, if_pos (by omega), n1, Option.bind_some, if_pos (by omega), e1.out]) ?_
        refine Ev.bind (text_f (cnt l (e : Int)) (by omega)) ?_
        exact Ev.congr (fun k => by rw [if_pos (by simp only [ByteArray.size_append, zb, size_B]; omega), if_pos (by rw [List.length_map]; omega)]) o1
      · refine Ev.step (f := fun k => pestleref54_Tally.l1 k l (P.map B) (e : Int) 0 0) (fun k => ?_) (rt_l1 l hl (P.map B) (e : Int) out ?_ l.length 0 (by omega))
        · simp only [pestleref54_Tally.l0]
          rw [if_pos (by omega)]
        · refine Ev.step (fun k => by
            simp only [pestleref54_Tally.l1]
            rw [if_neg (by omega), if_pos (by omega), n2, Option.bind_some, if_pos (by omega), e1.out]) ?_
          refine Ev.bind (rtext_f (cnt l (e : Int)) (by omega)) ?_
          exact Ev.congr (fun k => by rw [if_pos (by simp only [ByteArray.size_append, zb, size_B]; omega), if_pos (by rw [List.length_map]; omega)]) o2
    · obtain ⟨out, o1, o2⟩ := ih (e + 1) P (by omega) (by omega) (by omega)
      refine ⟨out, ?_, ?_⟩
      · refine Ev.step (fun k => ?_) o1
        simp only [report_Tally.l1]
        rw [if_pos (by omega), hrd, if_neg (by omega), e1.out]
      · refine Ev.step (f := fun k => pestleref54_Tally.l1 k l (P.map B) (e : Int) 0 0) (fun k => ?_) (rt_l1 l hl (P.map B) (e : Int) out ?_ l.length 0 (by omega))
        · simp only [pestleref54_Tally.l0]
          rw [if_pos (by omega)]
        · refine Ev.step (fun k => ?_) o2
          simp only [pestleref54_Tally.l1]
          rw [if_neg (by omega), if_neg (by omega), e1.out]
end Go.Proofs.Ytdieefjolkhmpaa.PRpTally
