/- Calls written as lines and read back: what the program computes answers true. -/
import Derived.Test.YtdieefjolkhmpaaStmtLineWrites
import Derived.Test.YtdieefjolkhmpaaLineCall
import Derived.Test.YtdieefjolkhmpaaPureLineReads
namespace Go.Proofs.Ytdieefjolkhmpaa.Pure
open Go.RowKit Go.Proofs.Ytdieefjolkhmpaa.PLi Go.Proofs.YtdieefjolkhmpaaW.PrintWords Go.Proofs.YtdieefjolkhmpaaW.PrintLast Go.Proofs.YtdieefjolkhmpaaW.PrintMore Go.Proofs.Ytdieefjolkhmpaa.Base Go.Proofs.Ytdieefjolkhmpaa.LineParts Go.Proofs.Ytdieefjolkhmpaa.LineRead Go.Proofs.Ytdieefjolkhmpaa.LineWrite Go.Proofs.Ytdieefjolkhmpaa.LineBack Go.Proofs.Ytdieefjolkhmpaa.LineCall
attribute [local irreducible] IntKind.wrap bt hexv hexd

theorem kind_word (kd : Int) (hk : kd = 1 ∨ kd = 2 ∨ kd = 3) : kindOf (B (wordL kd)) = kd := by
  unfold kindOf
  rw [toList_L, L_B]
  rcases hk with rfl | rfl | rfl <;> decide
theorem wordL_no (kd : Int) (x : UInt8) (h : x ∈ wordL kd) : x ≠ 32 ∧ x ≠ 10 := by
  have h2 : plainB (wordL kd) = true := by
    unfold wordL
    split
    · decide
    · split <;> decide
  exact plain_no _ h2 x h

theorem lineS_cases (kd : Int) (w t : ByteArray) : (lineS kd w t).2 = 0 ∧ (kd = 1 ∨ kd = 2 ∨ kd = 3) ∧ (kd = 3 → L w = []) ∧ (kd = 1 → L t = []) ∧ (¬ kd = 1 → plainB (L t) = true) ∧ lineS kd w t = (B (joinL 32 (partsL kd (L w) (L t))), 0) ∨ ¬ (lineS kd w t).2 = 0 ∧ (lineS kd w t).1 = ⟨#[]⟩ := by
  unfold lineS
  by_cases c0 : kd < 1 ∨ 3 < kd
  · rw [if_pos c0]
    exact .inr ⟨by decide, rfl⟩
  · rw [if_neg c0]
    by_cases c5 : (kd = 3 ∧ ¬ L w = []) ∨ (kd = 1 ∧ ¬ L t = [])
    · rw [if_pos c5]
      exact .inr ⟨by decide, rfl⟩
    · rw [if_neg c5]
      by_cases c8 : ¬ kd = 1 ∧ ¬ plainB (L t) = true
      · rw [if_pos c8]
        exact .inr ⟨by decide, rfl⟩
      · rw [if_neg c8]
        refine .inl ⟨rfl, by omega, fun h => Classical.byContradiction (fun h2 => c5 (.inl ⟨h, h2⟩)), fun h => Classical.byContradiction (fun h2 => c5 (.inr ⟨h, h2⟩)), fun h => Classical.byContradiction (fun h2 => c8 ⟨h, h2⟩), rfl⟩

theorem parts_no (kd : Int) (w t : List UInt8) (ht : ¬ kd = 1 → plainB t = true) : ∀ p, p ∈ partsL kd w t → ∀ x, x ∈ p → x ≠ 32 ∧ x ≠ 10 := by
  intro p hp x hx
  unfold partsL at hp
  rw [List.mem_cons, List.mem_append] at hp
  rcases hp with h | h | h
  · rw [h] at hx
    exact wordL_no kd x hx
  · split at h
    · cases h
    · rw [List.mem_singleton] at h
      rw [h] at hx
      exact plain_no _ (dash_plain w) x hx
  · split at h
    · cases h
    · rename_i hk
      rw [List.mem_singleton] at h
      rw [h] at hx
      exact plain_no _ (ht hk) x hx

theorem joinL_mem (c : UInt8) : ∀ (P : List (List UInt8)) (x : UInt8), x ∈ joinL c P → x = c ∨ ∃ p, p ∈ P ∧ x ∈ p
  | [], x, h => by cases h
  | [p], x, h => .inr ⟨p, by simp, h⟩
  | p :: q :: r, x, h => by
    simp only [joinL, List.mem_append, List.mem_cons] at h
    rcases h with h | h | h
    · exact .inr ⟨p, by simp, h⟩
    · exact .inl h
    · rcases joinL_mem c (q :: r) x h with h | ⟨p', h1, h2⟩
      · exact .inl h
      · exact .inr ⟨p', by simp [h1], h2⟩

/-- A line holds no end of a line. -/
theorem line_no (kd : Int) (w t : ByteArray) (h : (lineS kd w t).2 = 0) (x : UInt8) (hx : x ∈ L (lineS kd w t).1) : x ≠ 10 := by
  rcases lineS_cases kd w t with ⟨_, hk, h3, h1, ht, e⟩ | ⟨hn, _⟩
  · rw [e, L_B] at hx
    rcases joinL_mem 32 _ x hx with h | ⟨p, hp, hxp⟩
    · rw [h]; decide
    · exact (parts_no kd _ _ ht p hp x hxp).2
  · exact absurd h hn

theorem back1 (kd : Int) (w t : ByteArray) (h : (lineS kd w t).2 = 0) : readS (lineS kd w t).1 = (kd, w, t, 0) := by
  rcases lineS_cases kd w t with ⟨_, hk, h3, h1, ht, e⟩ | ⟨hn, _⟩
  · rw [e]
    unfold readS
    rw [L_B, split_join 32 _ (by unfold partsL; simp) (fun p hp x hx => (parts_no kd _ _ ht p hp x hx).1)]
    have hkw := kind_word kd hk
    have hw : B (L w) = w := B_L w
    have htt : B (L t) = t := B_L t
    have hud := undash_dash (L w)
    rcases hk with rfl | rfl | rfl
    · have h1 := h1 rfl
      have hp : (partsL 1 (L w) (L t)).map B = [B (wordL 1), B (dashL (L w))] := rfl
      have r0 : rdOf ByteArray.empty [B (wordL 1), B (dashL (L w))] 0 = B (wordL 1) := rfl
      have r1 : rdOf ByteArray.empty [B (wordL 1), B (dashL (L w))] 1 = B (dashL (L w)) := rfl
      simp only [hp, r0, r1, hkw, hud, hw]
      rw [← htt, h1]
      rfl
    · have ht := ht (by decide)
      have hp : (partsL 2 (L w) (L t)).map B = [B (wordL 2), B (dashL (L w)), B (L t)] := rfl
      have r0 : rdOf ByteArray.empty [B (wordL 2), B (dashL (L w)), B (L t)] 0 = B (wordL 2) := rfl
      have r1 : rdOf ByteArray.empty [B (wordL 2), B (dashL (L w)), B (L t)] 1 = B (dashL (L w)) := rfl
      have r2 : rdOf ByteArray.empty [B (wordL 2), B (dashL (L w)), B (L t)] (([B (wordL 2), B (dashL (L w)), B (L t)].length : Int) - 1) = B (L t) := rfl
      simp only [hp, r0, r1, hkw, hud, hw]
      rw [r2, htt, if_pos ht]
      rfl
    · have h3 := h3 rfl
      have ht := ht (by decide)
      have hp : (partsL 3 (L w) (L t)).map B = [B (wordL 3), B (L t)] := rfl
      have r0 : rdOf ByteArray.empty [B (wordL 3), B (L t)] 0 = B (wordL 3) := rfl
      have r2 : rdOf ByteArray.empty [B (wordL 3), B (L t)] (([B (wordL 3), B (L t)].length : Int) - 1) = B (L t) := rfl
      simp only [hp, r0, hkw]
      rw [r2, htt, if_pos ht, ← hw, h3]
      rfl
  · exact absurd h hn

theorem read_no (s : ByteArray) (h : ¬ (readS s).2.2.2 = 0) : (readS s).1 = 0 ∧ (readS s).2.1 = ⟨#[]⟩ ∧ (readS s).2.2.1 = ⟨#[]⟩ := by
  unfold readS at h ⊢
  simp only at h ⊢
  generalize (splitA 32 [] (L s)).map B = p at *
  generalize kindOf (rdOf ByteArray.empty p 0) = kd at *
  by_cases c0 : kd = 0
  · rw [if_pos c0]; exact ⟨rfl, rfl, rfl⟩
  · rw [if_neg c0] at h ⊢
    by_cases c1 : ¬ p.length = (if kd = 2 then 3 else 2)
    · rw [if_pos c1]; exact ⟨rfl, rfl, rfl⟩
    · rw [if_neg c1] at h ⊢
      generalize (if kd = 3 then ((⟨#[]⟩ : ByteArray), (0 : Int)) else undash (rdOf ByteArray.empty p 1)) = w at *
      by_cases c2 : ¬ w.2 = 0
      · rw [if_pos c2]; exact ⟨rfl, rfl, rfl⟩
      · rw [if_neg c2] at h ⊢
        by_cases c3 : kd = 1
        · rw [if_pos c3] at h
          exact absurd rfl h
        · rw [if_neg c3] at h ⊢
          by_cases c4 : plainB (L (rdOf ByteArray.empty p ((p.length : Int) - 1))) = true
          · rw [if_pos c4] at h
            exact absurd rfl h
          · rw [if_neg c4]; exact ⟨rfl, rfl, rfl⟩

theorem kind_L (s : ByteArray) (kd : Int) (h : kindOf s = kd) (h0 : ¬ kd = 0) : L s = wordL kd ∧ (kd = 1 ∨ kd = 2 ∨ kd = 3) := by
  unfold kindOf at h
  rw [toList_L] at h
  by_cases c1 : L s = ([104, 97, 115, 104] : List UInt8)
  · rw [if_pos c1] at h
    subst h
    exact ⟨c1, by decide⟩
  · rw [if_neg c1] at h
    by_cases c2 : L s = ([118, 101, 114, 105, 102, 121] : List UInt8)
    · rw [if_pos c2] at h
      subst h
      exact ⟨c2, by decide⟩
    · rw [if_neg c2] at h
      by_cases c3 : L s = ([115, 116, 97, 108, 101] : List UInt8)
      · rw [if_pos c3] at h
        subst h
        exact ⟨c3, by decide⟩
      · rw [if_neg c3] at h
        exact absurd h.symm h0

theorem lineS_ok (kd : Int) (w t : ByteArray) (hk : kd = 1 ∨ kd = 2 ∨ kd = 3) (h3 : kd = 3 → L w = []) (h1 : kd = 1 → L t = []) (ht : ¬ kd = 1 → plainB (L t) = true) : lineS kd w t = (B (joinL 32 (partsL kd (L w) (L t))), 0) := by
  unfold lineS
  have n0 : ¬ (kd < 1 ∨ 3 < kd) := by omega
  have n5 : ¬ ((kd = 3 ∧ ¬ L w = []) ∨ (kd = 1 ∧ ¬ L t = [])) := by
    rintro (h | h)
    · exact h.2 (h3 h.1)
    · exact h.2 (h1 h.1)
  have n8 : ¬ (¬ kd = 1 ∧ ¬ plainB (L t) = true) := fun h => h.2 (ht h.1)
  rw [if_neg n0, if_neg n5, if_neg n8]

theorem back2 (s : ByteArray) (h : (readS s).2.2.2 = 0) : lineS (readS s).1 (readS s).2.1 (readS s).2.2.1 = (s, 0) := by
  have hj := join_split 32 (L s)
  unfold readS at h ⊢
  simp only at h ⊢
  have hpm : ∀ p : List ByteArray, p = (splitA 32 [] (L s)).map B → p.map L = splitA 32 [] (L s) := by
    intro p hp
    rw [hp, List.map_map]
    conv => rhs; rw [← List.map_id (splitA 32 [] (L s))]
    congr 1
  have hl1 := (splitA_len 32 (L s) []).1
  rw [← List.length_map (f := B)] at hl1
  generalize hp : (splitA 32 [] (L s)).map B = p at *
  have hpl := hpm p rfl
  rw [← hpl] at hj
  clear hpm hpl hp
  have hkl := kind_L (rdOf ByteArray.empty p 0)
  generalize kindOf (rdOf ByteArray.empty p 0) = kd at *
  by_cases c0 : kd = 0
  · rw [if_pos c0] at h; exact absurd h (by decide)
  · obtain ⟨hw0, hk⟩ := hkl kd rfl c0
    rw [if_neg c0] at h ⊢
    by_cases c1 : ¬ p.length = (if kd = 2 then 3 else 2)
    · rw [if_pos c1] at h; exact absurd h (by decide)
    · rw [if_neg c1] at h ⊢
      have c1 := Decidable.not_not.1 c1
      rcases hk with rfl | rfl | rfl
      · match p, c1, hw0, hj, h with
        | [a, b], _, hw0, hj, h =>
          have r0 : rdOf ByteArray.empty [a, b] 0 = a := rfl
          have r1 : rdOf ByteArray.empty [a, b] 1 = b := rfl
          rw [r0] at hw0
          rw [if_neg (show ¬ (1 : Int) = 3 by decide), r1] at h ⊢
          by_cases c2 : ¬ (undash b).2 = 0
          · rw [if_pos c2] at h; exact absurd h c2
          · rw [if_neg c2, if_pos rfl]
            have c2 := Decidable.not_not.1 c2
            rw [lineS_ok 1 _ _ (by decide) (fun h => absurd h (by decide)) (fun _ => rfl) (fun h => absurd rfl h)]
            have e : partsL 1 (L (undash b).1) (L ⟨#[]⟩) = [wordL 1, dashL (L (undash b).1)] := rfl
            rw [e, dash_undash b c2, ← hw0]
            have hj : joinL 32 [L a, L b] = L s := hj
            rw [hj, B_L]
      · match p, c1, hw0, hj, h with
        | [a, b, c], _, hw0, hj, h =>
          have r0 : rdOf ByteArray.empty [a, b, c] 0 = a := rfl
          have r1 : rdOf ByteArray.empty [a, b, c] 1 = b := rfl
          have r2 : rdOf ByteArray.empty [a, b, c] (([a, b, c].length : Int) - 1) = c := rfl
          rw [r0] at hw0
          rw [if_neg (show ¬ (2 : Int) = 3 by decide), r1, r2] at h ⊢
          by_cases c2 : ¬ (undash b).2 = 0
          · rw [if_pos c2] at h; exact absurd h c2
          · rw [if_neg c2, if_neg (by decide)] at h ⊢
            have c2 := Decidable.not_not.1 c2
            by_cases c4 : plainB (L c) = true
            · rw [if_pos c4]
              rw [lineS_ok 2 _ _ (by decide) (fun h => absurd h (by decide)) (fun h => absurd h (by decide)) (fun _ => c4)]
              have e : partsL 2 (L (undash b).1) (L c) = [wordL 2, dashL (L (undash b).1), L c] := rfl
              rw [e, dash_undash b c2, ← hw0]
              have hj : joinL 32 [L a, L b, L c] = L s := hj
              rw [hj, B_L]
            · rw [if_neg c4] at h; exact absurd h (by decide)
      · match p, c1, hw0, hj, h with
        | [a, b], _, hw0, hj, h =>
          have r0 : rdOf ByteArray.empty [a, b] 0 = a := rfl
          have r2 : rdOf ByteArray.empty [a, b] (([a, b].length : Int) - 1) = b := rfl
          rw [r0] at hw0
          rw [if_pos rfl, r2] at h ⊢
          rw [if_neg (show ¬ ¬ ((⟨#[]⟩ : ByteArray), (0 : Int)).2 = 0 by simp), if_neg (by decide)] at h ⊢
          by_cases c4 : plainB (L b) = true
          · rw [if_pos c4]
            rw [lineS_ok 3 _ _ (by decide) (fun _ => rfl) (fun h => absurd h (by decide)) (fun _ => c4)]
            have e : partsL 3 (L ⟨#[]⟩) (L b) = [wordL 3, L b] := rfl
            rw [e, ← hw0]
            have hj : joinL 32 [L a, L b] = L s := hj
            rw [hj, B_L]
          · rw [if_neg c4] at h; exact absurd h (by decide)

theorem empty_toList : (⟨#[]⟩ : ByteArray).toList = [] := by rw [toList_L]; rfl
abbrev lnS (c : S23) : ByteArray × Int := lineS c.f0 c.f1 c.f2
/-- All lines, one behind the other. -/
def accA : List UInt8 → List S23 → List UInt8
  | acc, [] => acc
  | acc, c :: r => accA (acc ++ L (lnS c).1 ++ [10]) r
/-- The first error's number. -/
def foldW : Int → List S23 → Int
  | why, [] => why
  | why, c :: r => foldW (if why = 0 then (lnS c).2 else why) r
theorem foldW_stay : ∀ (r : List S23) (why : Int), ¬ why = 0 → foldW why r = why
  | [], _, _ => rfl
  | c :: r, why, h => by
    simp only [foldW]
    rw [if_neg h, foldW_stay r why h]
def smallC (c : S23) : Prop := c.f1.size ≤ 300 ∧ c.f2.size ≤ 300

theorem lnS_size (c : S23) (h : smallC c) : (lnS c).1.size ≤ 1300 := by
  rcases lineS_cases c.f0 c.f1 c.f2 with ⟨_, hk, _, _, _, e⟩ | ⟨_, e⟩
  · show (lineS c.f0 c.f1 c.f2).1.size ≤ 1300
    rw [e, size_B]
    have h1 := dashL_len (L c.f1)
    have h2 := (wordL_len c.f0).1
    have h3 := h.1
    have h4 := h.2
    rw [← L_size] at h3 h4
    have key : ∀ P Q : List (List UInt8), (P = [] ∨ P = [dashL (L c.f1)]) → (Q = [] ∨ Q = [L c.f2]) → (joinL 32 (wordL c.f0 :: (P ++ Q))).length ≤ 1300 := by
      rintro P Q (rfl | rfl) (rfl | rfl)
      · show (wordL c.f0).length ≤ 1300
        omega
      · show (wordL c.f0 ++ 32 :: L c.f2).length ≤ 1300
        rw [List.length_append, List.length_cons]
        omega
      · show (wordL c.f0 ++ 32 :: dashL (L c.f1)).length ≤ 1300
        rw [List.length_append, List.length_cons]
        omega
      · show (wordL c.f0 ++ 32 :: (dashL (L c.f1) ++ 32 :: L c.f2)).length ≤ 1300
        rw [List.length_append, List.length_cons, List.length_append, List.length_cons]
        omega
    show (joinL 32 (partsL c.f0 (L c.f1) (L c.f2))).length ≤ 1300
    unfold partsL
    refine key _ _ ?_ ?_
    · split
      · exact .inl rfl
      · exact .inr rfl
    · split
      · exact .inl rfl
      · exact .inr rfl
  · show (lineS c.f0 c.f1 c.f2).1.size ≤ 1300
    rw [e]
    exact Nat.zero_le _

theorem rdT (l r : List S23) (c : S23) (i : Nat) (h : l.drop i = c :: r) : rd_T23 l (i : Int) = c ∧ i < l.length ∧ l.drop (i + 1) = r := by
  have hl : i < l.length := by
    rcases Nat.lt_or_ge i l.length with h1 | h1
    · exact h1
    · rw [List.drop_eq_nil_of_le h1] at h; cases h
  rw [List.drop_eq_getElem_cons hl] at h
  injection h with q1 q2
  refine ⟨?_, hl, q2⟩
  unfold rd_T23
  rw [List.getD_eq_getElem?_getD, Int.toNat_natCast, List.getElem?_eq_getElem hl, q1]
  rfl

theorem lines_l0 (l : List S23) (hl : l.length ≤ 20) (hs : ∀ c, c ∈ l → smallC c) : ∀ (r : List S23) (i : Nat) (acc : List UInt8), l.drop i = r → i ≤ l.length → acc.length ≤ 1400 * i →
    Ev (fun k => line_Lines.l0 k (acc.map fun b : UInt8 => (b.toNat : Int)) l (l.length : Int) (i : Int)) (if foldW 0 r = 0 then (B (accA acc r), 0) else (⟨#[]⟩, foldW 0 r)) := by
  intro r
  induction r with
  | nil =>
    intro i acc hr hi ha
    have : l.length ≤ i := List.drop_eq_nil_iff.1 hr
    refine Ev.step (f := fun _ => _) (fun k => ?_) (Ev.now _)
    simp only [line_Lines.l0]
    rw [if_neg (by omega), nums_B]
    rfl
  | cons c r ih =>
    intro i acc hr hi ha
    obtain ⟨h1, h2, h3⟩ := rdT l r c i hr
    have e1 := nx (i := i) (by omega)
    have hc : smallC c := hs c (List.mem_of_mem_drop (i := i) (by rw [hr]; simp))
    have hz := lnS_size c hc
    have hf := line_f c.f0 c.f1 c.f2 (by have := hc.1; omega) (by have := hc.2; omega)
    have q : (i : Int) < (l.length : Int) ∧ (0 : Int) ≤ (i : Int) := by omega
    refine Ev.step (f := fun k => (line_Line.f k c.f0 c.f1 c.f2).bind fun bt263 => (if bt263.2 = 0 then (if (acc.map fun b : UInt8 => (b.toNat : Int)).length + bt263.1.size < 140737488355328 then ((some ((acc.map fun b : UInt8 => (b.toNat : Int)) ++ bytesOf bt263.1 : List Int)).bind fun y265 => (if y265.length < 140737488355328 then (line_Lines.l0 k (y265 ++ [10]) l (l.length : Int) ((i + 1 : Nat) : Int)) else (none))) else (none)) else (some ((⟨#[]⟩ : ByteArray), bt263.2)))) (fun k => ?_) ?_
    · simp only [line_Lines.l0]
      rw [if_pos q.1, if_pos q.2, if_pos q.1, h1, e1.out]
    · refine Ev.bind hf ?_
      by_cases c0 : (lineS c.f0 c.f1 c.f2).2 = 0
      · have e3 : foldW 0 (c :: r) = foldW 0 r := by
          show foldW (if (0 : Int) = 0 then (lineS c.f0 c.f1 c.f2).2 else 0) r = _
          rw [if_pos rfl, c0]
        rw [e3]
        have ih' := ih (i + 1) (acc ++ L (lnS c).1 ++ [10]) h3 (by omega) (by simp only [List.length_append, L_size, List.length_cons, List.length_nil]; omega)
        refine Ev.congr (fun k => ?_) ih'
        rw [if_pos c0, if_pos (by rw [List.length_map]; have : (lineS c.f0 c.f1 c.f2).1.size ≤ 1300 := hz; omega)]
        simp only [Option.bind_some]
        rw [if_pos (by rw [bytesOf_L, List.length_append, List.length_map, List.length_map, L_size]; have : (lineS c.f0 c.f1 c.f2).1.size ≤ 1300 := hz; omega), bytesOf_L]
        simp
      · have e3 : foldW 0 (c :: r) = (lineS c.f0 c.f1 c.f2).2 := by
          show foldW (if (0 : Int) = 0 then (lineS c.f0 c.f1 c.f2).2 else 0) r = _
          rw [if_pos rfl, foldW_stay r _ c0]
        rw [e3, if_neg c0]
        exact Ev.congr (f := fun _ => _) (fun k => by rw [if_neg c0]) (Ev.now _)

theorem all_acc : ∀ (r : List S23) (n : Nat) (out : List S23) (acc : List UInt8), (foldW 0 r = 0) → ∃ t, accA acc r = acc ++ t ∧ allA (splitA 10 [] t) n out = (out ++ r, 0, 0) := by
  intro r
  induction r with
  | nil =>
    intro n out acc _
    refine ⟨[], by simp [accA], ?_⟩
    simp [splitA, allA]
  | cons c r ih =>
    intro n out acc h
    have c0 : (lineS c.f0 c.f1 c.f2).2 = 0 := by
      apply Classical.byContradiction
      intro hn
      have e3 : foldW 0 (c :: r) = (lineS c.f0 c.f1 c.f2).2 := by
        show foldW (if (0 : Int) = 0 then (lineS c.f0 c.f1 c.f2).2 else 0) r = _
        rw [if_pos rfl, foldW_stay r _ hn]
      exact hn (by rw [← e3]; exact h)
    have h' : foldW 0 r = 0 := by
      have e3 : foldW 0 (c :: r) = foldW 0 r := by
        show foldW (if (0 : Int) = 0 then (lineS c.f0 c.f1 c.f2).2 else 0) r = _
        rw [if_pos rfl, c0]
      rw [← e3]; exact h
    obtain ⟨t, h1, h2⟩ := ih (n + 1) (out ++ [c]) (acc ++ L (lnS c).1 ++ [10]) h'
    refine ⟨L (lnS c).1 ++ 10 :: t, ?_, ?_⟩
    · simp only [accA]
      rw [h1]
      simp
    · rw [splitA_to 10 (L (lnS c).1) [] t (fun x hx => line_no c.f0 c.f1 c.f2 c0 x hx), List.nil_append]
      have hb : B (L (lnS c).1) = (lineS c.f0 c.f1 c.f2).1 := B_L _
      have hbk := back1 c.f0 c.f1 c.f2 c0
      have hne : ¬ splitA 10 [] t = [] := by
        intro hn
        have := (splitA_len 10 t []).1
        rw [hn] at this
        simp at this
      simp only [allA]
      rw [if_neg hne, hb, hbk, if_pos rfl, h2]
      simp

/-- Behind the loop. -/
theorem lw_j5 (s : ByteArray) (hs : s.size ≤ 1000) : Ev (fun k => pestlelaw53_LineWrites.j5 k s false) true := by
  have hr := read_f s (by omega)
  refine Ev.step (fun k => by simp only [pestlelaw53_LineWrites.j5]; rw [if_neg (by simp)]) ?_
  refine Ev.bind hr ?_
  by_cases c : (readS s).2.2.2 = 0
  · have hb := back2 s c
    have small : (readS s).2.1.size ≤ 300000 ∧ (readS s).2.2.1.size ≤ 300000 := by
      rcases lineS_cases (readS s).1 (readS s).2.1 (readS s).2.2.1 with ⟨_, hk, h3, h1, ht, e⟩ | ⟨hn, _⟩
      · rw [hb] at e
        have e2 : s = B (joinL 32 (partsL (readS s).1 (L (readS s).2.1) (L (readS s).2.2.1))) := (Prod.mk.inj e).1
        have e3 : s.size = (joinL 32 (partsL (readS s).1 (L (readS s).2.1) (L (readS s).2.2.1))).length := by rw [← size_B, ← e2]
        generalize (readS s).1 = kd at *
        generalize (readS s).2.1 = w at *
        generalize (readS s).2.2.1 = t at *
        have lw : (L w).length ≤ (dashL (L w)).length := by
          unfold dashL
          split
          · rename_i h; rw [h]; simp
          · rw [enhex_len]; omega
        rw [L_size] at lw
        have lt : (L t).length = t.size := L_size t
        unfold partsL at e3
        rcases hk with rfl | rfl | rfl
        · have := h1 rfl
          rw [this] at lt
          rw [if_neg (by decide), if_pos rfl] at e3
          simp only [List.append_nil, joinL, List.length_append, List.length_cons, List.length_nil] at e3 lt
          omega
        · rw [if_neg (by decide), if_neg (by decide)] at e3
          simp only [List.cons_append, List.nil_append, joinL, List.length_append, List.length_cons] at e3
          omega
        · have := h3 rfl
          have lw0 := L_size w
          rw [this] at lw0
          rw [if_pos rfl, if_neg (by decide)] at e3
          simp only [List.nil_append, joinL, List.length_append, List.length_cons, List.length_nil] at e3 lw0
          omega
      · rw [hb] at hn; exact absurd rfl hn
    have hl := line_f (readS s).1 (readS s).2.1 (readS s).2.2.1 small.1 small.2
    rw [hb] at hl
    refine Ev.congr (fun k => by rw [if_pos c]) ?_
    refine Ev.bind hl ?_
    exact Ev.congr (f := fun _ => _) (fun k => by rw [if_pos rfl, beq_self_eq_true]) (Ev.now _)
  · obtain ⟨n1, n2, n3⟩ := read_no s c
    refine Ev.congr (f := fun _ => _) (fun k => ?_) (Ev.now _)
    rw [if_neg c, n1, n2, n3, empty_toList]
    rfl

theorem accA_len (l : List S23) (hs : ∀ c, c ∈ l → smallC c) : ∀ acc : List UInt8, (accA acc l).length ≤ acc.length + 1400 * l.length := by
  induction l with
  | nil => intro acc; simp [accA]
  | cons c l ih =>
    intro acc
    have h1 := ih (fun c' h => hs c' (by simp [h])) (acc ++ L (lnS c).1 ++ [10])
    have h2 := lnS_size c (hs c (by simp))
    rw [← L_size] at h2
    simp only [accA, List.length_append, List.length_cons, List.length_nil] at *
    omega

/-- The law's end. -/
theorem lw_end (l : List S23) (hl : l.length ≤ 20) (hs : ∀ c, c ∈ l → smallC c) (s : ByteArray) (hss : s.size ≤ 1000) (n : Nat) (hn : l.length ≤ n) :
    Ev (fun k => pestlelaw53_LineWrites.l0 k l s (B (accA [] l)) (foldW 0 l) l (l.length : Int) (n : Int)) true := by
  have h1 := lines_l0 l hl hs l 0 [] rfl (by omega) (by simp)
  have h1 : Ev (fun k => line_Lines.f k l) (if foldW 0 l = 0 then (B (accA [] l), 0) else (⟨#[]⟩, foldW 0 l)) := h1
  refine Ev.step (fun k => by simp only [pestlelaw53_LineWrites.l0]; rw [if_neg (by omega)]) ?_
  refine Ev.bind h1 ?_
  by_cases c : foldW 0 l = 0
  · rw [if_pos c]
    have hz := accA_len l hs []
    simp only [List.length_nil] at hz
    have ha := all_f (B (accA [] l)) (by rw [size_B]; omega)
    obtain ⟨t, e1, e2⟩ := all_acc l 0 [] [] c
    rw [L_B, e1, List.nil_append, e2] at ha
    rw [e1, List.nil_append]
    refine Ev.congr (fun k => by rw [if_pos c]) ?_
    refine Ev.bind ha ?_
    have hsm := same_f l (by omega)
    refine Ev.congr (f := fun k => (pestleref53_Same.f k l l).bind fun t290 => (pestlelaw53_LineWrites.j5 k s (!t290))) (fun k => by rw [if_pos rfl, if_pos rfl, if_pos rfl, if_pos rfl]; rfl) ?_
    exact Ev.bind hsm (lw_j5 s hss)
  · rw [if_neg c]
    refine Ev.congr (f := fun _ => _) (fun k => by rw [if_neg c, if_pos rfl, empty_toList]; rfl) (Ev.now _)

theorem lw_l0 (l : List S23) (hl : l.length ≤ 20) (s : ByteArray) (hss : s.size ≤ 1000) : ∀ (r : List S23) (i : Nat) (acc : List UInt8) (why : Int), l.drop i = r → i ≤ l.length → acc.length ≤ 1400 * i → (∀ c, c ∈ l.take i → smallC c) → accA [] l = accA acc r → foldW 0 l = foldW why r →
    Ev (fun k => pestlelaw53_LineWrites.l0 k l s (B acc) why l (l.length : Int) (i : Int)) true := by
  intro r
  induction r with
  | nil =>
    intro i acc why hr hi ha hsm hA hW
    have hn : l.length ≤ i := List.drop_eq_nil_iff.1 hr
    rw [List.take_of_length_le hn] at hsm
    have := lw_end l hl hsm s hss i hn
    rw [hA, hW] at this
    exact this
  | cons c r ih =>
    intro i acc why hr hi ha hsm hA hW
    obtain ⟨h1, h2, h3⟩ := rdT l r c i hr
    have e1 := nx (i := i) (by omega)
    have q : (i : Int) < (l.length : Int) ∧ (0 : Int) ≤ (i : Int) := by omega
    have long : Ev (fun k => pestlelaw53_LineWrites.j2 k l s (B acc) why l (l.length : Int) (i : Int) true c.f0 c.f1 c.f2) true :=
      Ev.step (f := fun _ => _) (fun k => by simp only [pestlelaw53_LineWrites.j2]; rw [if_pos trivial]) (Ev.now _)
    by_cases c1 : (c.f1.size : Int) > 300
    · refine Ev.step (fun k => ?_) long
      simp only [pestlelaw53_LineWrites.l0]
      rw [if_pos q.1, if_pos q.2, if_pos q.1, h1, if_pos c1]
    · by_cases c2 : (c.f2.size : Int) > 300
      · refine Ev.step (fun k => ?_) long
        simp only [pestlelaw53_LineWrites.l0]
        rw [if_pos q.1, if_pos q.2, if_pos q.1, h1, if_neg c1, decide_eq_true c2]
      · have hc : smallC c := ⟨by omega, by omega⟩
        have hz := lnS_size c hc
        have hz : (lineS c.f0 c.f1 c.f2).1.size ≤ 1300 := hz
        have hf := line_f c.f0 c.f1 c.f2 (by omega) (by omega)
        have hg := rline_f c.f0 c.f1 c.f2 (by omega) (by omega)
        have hl2 : i < l.length := h2
        have ih' := ih (i + 1) (acc ++ L (lnS c).1 ++ [10]) (if why = 0 then (lnS c).2 else why) h3 (by omega) (by simp only [List.length_append, L_size, List.length_cons, List.length_nil]; omega)
          (fun x hx => by
            rw [List.take_succ_eq_append_getElem hl2, List.mem_append] at hx
            rcases hx with hx | hx
            · exact hsm x hx
            · rw [List.drop_eq_getElem_cons hl2] at hr
              injection hr with q1 _
              rw [q1, List.mem_singleton] at hx
              rw [hx]; exact hc) hA hW
        have eb : B acc ++ (lineS c.f0 c.f1 c.f2).1 ++ (⟨#[10]⟩ : ByteArray) = B (acc ++ L (lnS c).1 ++ [10]) := by
          rw [B_append, B_append, B_L]
          rfl
        have s1 : (B acc).size + (lineS c.f0 c.f1 c.f2).1.size ≤ 9223372036854775807 := by rw [size_B]; omega
        have s2 : (B acc ++ (lineS c.f0 c.f1 c.f2).1).size + 1 ≤ 9223372036854775807 := by rw [ByteArray.size_append, size_B]; omega
        have on : Ev (fun k => if why = 0 then (if (B acc).size + (lineS c.f0 c.f1 c.f2).1.size ≤ 9223372036854775807 then (if (B acc ++ (lineS c.f0 c.f1 c.f2).1).size + 1 ≤ 9223372036854775807 then (pestlelaw53_LineWrites.l0 k l s ((B acc ++ (lineS c.f0 c.f1 c.f2).1) ++ (⟨#[10]⟩ : ByteArray)) (lineS c.f0 c.f1 c.f2).2 l (l.length : Int) (wrap64 ((i : Int) + 1))) else (none)) else (none)) else (if (B acc).size + (lineS c.f0 c.f1 c.f2).1.size ≤ 9223372036854775807 then (if (B acc ++ (lineS c.f0 c.f1 c.f2).1).size + 1 ≤ 9223372036854775807 then (pestlelaw53_LineWrites.l0 k l s ((B acc ++ (lineS c.f0 c.f1 c.f2).1) ++ (⟨#[10]⟩ : ByteArray)) why l (l.length : Int) (wrap64 ((i : Int) + 1))) else (none)) else (none))) true := by
          refine Ev.congr (fun k => ?_) ih'
          rw [if_pos s1, if_pos s2, if_pos s1, if_pos s2, eb, e1.out]
          by_cases c3 : why = 0
          · rw [if_pos c3, if_pos c3]
          · rw [if_neg c3, if_neg c3]
        have j2 : Ev (fun k => pestlelaw53_LineWrites.j2 k l s (B acc) why l (l.length : Int) (i : Int) false c.f0 c.f1 c.f2) true := by
          refine Ev.step (fun k => by simp only [pestlelaw53_LineWrites.j2]; rw [if_neg (by simp)]) ?_
          refine Ev.bind hf (Ev.bind hg ?_)
          refine Ev.congr (fun k => by rw [if_pos rfl, bne_self_eq_false]) ?_
          refine Ev.step (fun k => by simp only [pestlelaw53_LineWrites.j3]; rw [if_neg (by simp)]) ?_
          by_cases c0 : (lineS c.f0 c.f1 c.f2).2 = 0
          · have hr1 := read_f (lineS c.f0 c.f1 c.f2).1 (by omega)
            rw [back1 c.f0 c.f1 c.f2 c0] at hr1
            refine Ev.congr (fun k => by rw [if_pos c0]) ?_
            refine Ev.bind hr1 ?_
            refine Ev.congr (fun k => by rw [if_pos rfl]) ?_
            refine Ev.step (fun k => by simp only [pestlelaw53_LineWrites.j4, beq_self_eq_true, Bool.not_true, Bool.or_false]; rw [if_neg (by simp)]) on
          · exact Ev.congr (fun k => by rw [if_neg c0]) on
        refine Ev.step (fun k => ?_) j2
        simp only [pestlelaw53_LineWrites.l0]
        rw [if_pos q.1, if_pos q.2, if_pos q.1, h1, if_neg c1, decide_eq_false c2]

theorem lw_awake : Ev (fun k => pestlelaw53_awake.f k) true := awake_ev

theorem LineWrites : PLiLineWrites.Pure := by
  intro l s _ _
  refine Ev.rounds ?_
  refine Ev.bind lw_awake ?_
  have long : Ev (fun k => pestlelaw53_LineWrites.j0 k l s true) true :=
    Ev.step (f := fun _ => _) (fun k => by simp only [pestlelaw53_LineWrites.j0]; rw [if_pos trivial]) (Ev.now _)
  by_cases c1 : (l.length : Int) > 20
  · exact Ev.congr (fun k => by rw [if_pos rfl, if_pos c1]) long
  · by_cases c2 : (s.size : Int) > 1000
    · exact Ev.congr (fun k => by rw [if_pos rfl, if_neg c1, decide_eq_true c2]) long
    · have h := lw_l0 l (by omega) s (by omega) l 0 [] 0 rfl (by omega) (by simp) (by simp) rfl rfl
      have j0 : Ev (fun k => pestlelaw53_LineWrites.j0 k l s false) true := by
        refine Ev.step (fun k => ?_) h
        simp only [pestlelaw53_LineWrites.j0]
        rw [if_neg (by simp)]
        rfl
      exact Ev.congr (fun k => by rw [if_pos rfl, if_neg c1, decide_eq_false c2]) j0
end Go.Proofs.Ytdieefjolkhmpaa.Pure
