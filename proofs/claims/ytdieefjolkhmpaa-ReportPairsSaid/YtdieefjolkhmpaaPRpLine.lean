/- A call as a line: what the program's and the reference's writers come to. -/
import Derived.Test.YtdieefjolkhmpaaPRpJoin
import Derived.Laws.BitsLemmas
namespace Go.Proofs.Ytdieefjolkhmpaa.PRpLine
open Go.RowKit Go.Proofs.Ytdieefjolkhmpaa.PRp Go.Proofs.YtdieefjolkhmpaaW.PrintWords Go.Proofs.YtdieefjolkhmpaaW.PrintLast Go.Proofs.YtdieefjolkhmpaaW.PrintMore Go.Proofs.Ytdieefjolkhmpaa.Base Go.Proofs.Ytdieefjolkhmpaa.PRpJoin
set_option linter.unusedSimpArgs false
set_option linter.unusedVariables false
attribute [local irreducible] IntKind.wrap bt

theorem byte_eq (x c : UInt8) : ((x.toNat : Int) = (c.toNat : Int)) ↔ x = c := by
  constructor
  · intro h
    exact UInt8.toNat_inj.1 (by omega)
  · intro h
    rw [h]

def plainB (l : List UInt8) : Bool := l.all (fun x => decide (33 ≤ x.toNat ∧ x.toNat ≤ 126)) && !l.isEmpty
theorem plain_l0 (s : ByteArray) (hs : s.size ≤ 1000000) : ∀ (r : List UInt8) (i : Nat), (L s).drop i = r → i ≤ s.size →
    Ev (fun k => line_Plain.l0 k s (s.size : Int) (i : Int)) (r.all (fun x => decide (33 ≤ x.toNat ∧ x.toNat ≤ 126)) && !(L s).isEmpty) ∧
    Ev (fun k => pestleref53_Plain.l0 k s (i : Int)) (r.all (fun x => decide (33 ≤ x.toNat ∧ x.toNat ≤ 126)) && !(L s).isEmpty) := by
  intro r
  induction r with
  | nil =>
    intro i hr hi
    have hn := left_nil hr
    obtain rfl : i = s.size := by omega
    constructor
    · refine Ev.step (f := fun _ => _) (fun k => ?_) (Ev.now _)
      simp only [line_Plain.l0]
      rw [if_neg (by omega), toList_L]
      simp
    · refine Ev.step (f := fun _ => _) (fun k => ?_) (Ev.now _)
      simp only [pestleref53_Plain.l0]
      rw [if_neg (by omega), ← L_size]
      cases L s
      · rfl
      · simp
  | cons x r ih =>
    intro i hr hi
    obtain ⟨h1, h2, h3⟩ := left_cons hr
    have e1 := nx (i := i) (by omega)
    obtain ⟨ih1, ih2⟩ := ih (i + 1) h3 (by omega)
    by_cases c : 33 ≤ x.toNat ∧ x.toNat ≤ 126
    · have e : (x :: r).all (fun x => decide (33 ≤ x.toNat ∧ x.toNat ≤ 126)) = r.all (fun x => decide (33 ≤ x.toNat ∧ x.toNat ≤ 126)) := by
        rw [List.all_cons, decide_eq_true c, Bool.true_and]
      rw [e]
      constructor
      · refine Ev.step (f := fun k => line_Plain.l0 k s (s.size : Int) ((i + 1 : Nat) : Int)) (fun k => ?_) ih1
        simp only [line_Plain.l0]
        rw [if_pos (by omega), if_pos (by omega), if_pos (by omega), h2.out, if_neg (by omega), if_neg (by omega), e1.out]
      · refine Ev.step (f := fun k => pestleref53_Plain.l0 k s ((i + 1 : Nat) : Int)) (fun k => ?_) ih2
        simp only [pestleref53_Plain.l0]
        rw [if_pos (by omega), if_pos (by omega), h2.out, if_neg (by omega), if_neg (by omega), e1.out]
    · have e : (x :: r).all (fun x => decide (33 ≤ x.toNat ∧ x.toNat ≤ 126)) = false := by
        rw [List.all_cons, decide_eq_false c, Bool.false_and]
      rw [e, Bool.false_and]
      constructor
      · refine Ev.step (f := fun _ => _) (fun k => ?_) (Ev.now _)
        simp only [line_Plain.l0]
        rw [if_pos (by omega), if_pos (by omega), if_pos (by omega), h2.out]
        by_cases c1 : x.toNat < 33
        · rw [if_pos (by omega)]
        · rw [if_neg (by omega), if_pos (by omega)]
      · refine Ev.step (f := fun _ => _) (fun k => ?_) (Ev.now _)
        simp only [pestleref53_Plain.l0]
        rw [if_pos (by omega), if_pos (by omega), h2.out]
        by_cases c1 : x.toNat < 33
        · rw [if_pos (by omega)]
        · rw [if_neg (by omega), if_pos (by omega)]
theorem plain_f (s : ByteArray) (hs : s.size ≤ 1000000) : Ev (fun k => line_Plain.f k s) (plainB (L s)) := (plain_l0 s hs (L s) 0 (by simp) (by omega)).1
theorem rplain_f (s : ByteArray) (hs : s.size ≤ 1000000) : Ev (fun k => pestleref53_Plain.f k s) (plainB (L s)) := (plain_l0 s hs (L s) 0 (by simp) (by omega)).2
/-- A digit's letter. -/
def hexd (n : Nat) : UInt8 := UInt8.ofNat (if n < 10 then 48 + n else 87 + n)
def enhex : List UInt8 → List UInt8
  | [] => []
  | b :: r => hexd (b.toNat / 16) :: hexd (b.toNat % 16) :: enhex r
theorem enhex_len : ∀ l, (enhex l).length = 2 * l.length
  | [] => rfl
  | b :: r => by simp only [enhex, List.length_cons, enhex_len r]; omega
theorem enhex_append : ∀ a b, enhex (a ++ b) = enhex a ++ enhex b
  | [], b => rfl
  | x :: a, b => by simp only [List.cons_append, enhex, enhex_append a b]
theorem bt_letters : ∀ n : Nat, n < 16 → bt (⟨#[48, 49, 50, 51, 52, 53, 54, 55, 56, 57, 97, 98, 99, 100, 101, 102]⟩ : ByteArray) (n : Int) = ((hexd n).toNat : Int) := by decide +kernel
theorem letter_all : ∀ n : Nat, n < 16 → pestleref14_letter.f (n : Int) = some (B [hexd n]) := by decide +kernel

theorem enc_l1 (s : ByteArray) (hs : s.size ≤ 1000000) (xs : List ByteArray) (m : Int) (res : ByteArray) : ∀ (r : List UInt8) (i : Nat) (acc : List UInt8), (L s).drop i = r → i ≤ s.size → acc.length = 2 * i →
    Ev (fun k => hexes_Encode.l0 k ((enhex (L s)).map fun b : UInt8 => (b.toNat : Int)) xs m (wrap64 (0 + 1))) res → acc = enhex ((L s).take i) →
    Ev (fun k => hexes_Encode.l1 k (acc.map fun b : UInt8 => (b.toNat : Int)) s xs m 0 (s.size : Int) (i : Int)) res := by
  intro r
  induction r with
  | nil =>
    intro i acc hr hi ha hend he
    have hn := left_nil hr
    obtain rfl : i = s.size := by omega
    rw [List.take_of_length_le (by rw [L_size]; exact Nat.le_refl _)] at he
    subst he
    refine Ev.step (fun k => ?_) hend
    simp only [hexes_Encode.l1]
    rw [if_neg (by omega)]
  | cons x r ih =>
    intro i acc hr hi ha hend he
    obtain ⟨h1, h2, h3⟩ := left_cons hr
    have hx := x.toNat_lt
    have e1 := nx (i := i) (by omega)
    have hl : i < (L s).length := by rw [L_size]; exact h1
    have et : (L s).take (i + 1) = (L s).take i ++ [x] := by
      rw [List.take_succ_eq_append_getElem hl]
      rw [List.drop_eq_getElem_cons hl] at hr
      injection hr with q1 _
      rw [q1]
    have ih' := ih (i + 1) (acc ++ [hexd (x.toNat / 16), hexd (x.toNat % 16)]) h3 (by omega) (by simp only [List.length_append, List.length_cons, List.length_nil]; omega) hend (by rw [et, enhex_append, ← he]; rfl)
    have d1 : Int.tdiv (x.toNat : Int) 16 % 256 = ((x.toNat / 16 : Nat) : Int) := by rw [show Int.tdiv (x.toNat : Int) 16 = ((x.toNat / 16 : Nat) : Int) from tdiv_cast _ 16]; omega
    have d2 : Int.tmod (x.toNat : Int) 16 = ((x.toNat % 16 : Nat) : Int) := tmod_cast _ 16
    have b1 := bt_letters (x.toNat / 16) (by omega)
    have b2 := bt_letters (x.toNat % 16) (by omega)
    have c5 : (acc.map fun b : UInt8 => (b.toNat : Int)).length + [((hexd (x.toNat / 16)).toNat : Int), ((hexd (x.toNat % 16)).toNat : Int)].length < 140737488355328 := by simp only [List.length_map, List.length_cons, List.length_nil]; omega
    have q1 : (0 : Int) ≤ ((x.toNat / 16 : Nat) : Int) ∧ ((x.toNat / 16 : Nat) : Int) < 16 ∧ (0 : Int) ≤ ((x.toNat % 16 : Nat) : Int) ∧ ((x.toNat % 16 : Nat) : Int) < 16 := by omega
    have q2 : (i : Int) < (s.size : Int) ∧ (0 : Int) ≤ (i : Int) := by omega
    refine Ev.step (fun k => ?_) ih'
    simp only [hexes_Encode.l1]
    rw [if_pos q2.1, if_pos q2.2, if_pos q2.1, h2.out, d1, d2, if_pos q1.1, if_pos q1.2.1, if_pos q1.2.2.1, if_pos q1.2.2.2, b1, b2, e1.out]
    simp only [Option.bind_some, if_pos c5, List.map_append, List.map_cons, List.map_nil]

theorem enc_f (s : ByteArray) (hs : s.size ≤ 1000000) : Ev (fun k => hexes_Encode.f k [s]) (B (enhex (L s))) := by
  have e1 : wrap64 (0 + 1) = 1 := by rw [w64 (by omega) (by omega)]; rfl
  have last : Ev (fun k => hexes_Encode.l0 k ((enhex (L s)).map fun b : UInt8 => (b.toNat : Int)) [s] 1 (wrap64 (0 + 1))) (B (enhex (L s))) := by
    refine Ev.step (f := fun _ => _) (fun k => ?_) (Ev.now _)
    simp only [hexes_Encode.l0]
    rw [e1, if_neg (by omega), nums_B]
  have h := enc_l1 s hs [s] 1 _ (L s) 0 [] (by simp) (by omega) rfl last rfl
  refine Ev.step (g := fun k => hexes_Encode.l0 k ([] : List Int) [s] 1 0) (fun k => ?_) h
  simp only [hexes_Encode.l0]
  rw [if_pos (by omega), if_pos (by omega), if_pos (by simp)]
  rfl

theorem renc_l0 (s : ByteArray) (hs : s.size ≤ 1000000) : ∀ (r : List UInt8) (i : Nat) (acc : List UInt8), (L s).drop i = r → i ≤ s.size → acc.length = 2 * i → acc = enhex ((L s).take i) →
    Ev (fun k => pestleref14_Encode.l0 k s (B acc) (i : Int)) (B (enhex (L s))) := by
  intro r
  induction r with
  | nil =>
    intro i acc hr hi ha he
    have hn := left_nil hr
    obtain rfl : i = s.size := by omega
    rw [List.take_of_length_le (by rw [L_size]; exact Nat.le_refl _)] at he
    subst he
    refine Ev.step (f := fun _ => _) (fun k => ?_) (Ev.now _)
    simp only [pestleref14_Encode.l0]
    rw [if_neg (by omega)]
  | cons x r ih =>
    intro i acc hr hi ha he
    obtain ⟨h1, h2, h3⟩ := left_cons hr
    have hx := x.toNat_lt
    have e1 := nx (i := i) (by omega)
    have hl : i < (L s).length := by rw [L_size]; exact h1
    have et : (L s).take (i + 1) = (L s).take i ++ [x] := by
      rw [List.take_succ_eq_append_getElem hl]
      rw [List.drop_eq_getElem_cons hl] at hr
      injection hr with q1 _
      rw [q1]
    have ih' := ih (i + 1) (acc ++ [hexd (x.toNat / 16), hexd (x.toNat % 16)]) h3 (by omega) (by simp only [List.length_append, List.length_cons, List.length_nil]; omega) (by rw [et, enhex_append, ← he]; rfl)
    have d0 : wrap64 (x.toNat : Int) = (x.toNat : Int) := w64 (by omega) (by omega)
    have d1 : wrap64 (Int.tdiv (x.toNat : Int) 16) = ((x.toNat / 16 : Nat) : Int) := by rw [show Int.tdiv (x.toNat : Int) 16 = ((x.toNat / 16 : Nat) : Int) from tdiv_cast _ 16, w64 (by omega) (by omega)]
    have d2 : Int.tmod (x.toNat : Int) 16 = ((x.toNat % 16 : Nat) : Int) := tmod_cast _ 16
    have b1 := letter_all (x.toNat / 16) (by omega)
    have b2 := letter_all (x.toNat % 16) (by omega)
    have c1 : (B acc).size + (B [hexd (x.toNat / 16)]).size ≤ 9223372036854775807 := by rw [size_B, size_B]; simp only [List.length_cons, List.length_nil]; omega
    have c2 : (B acc ++ B [hexd (x.toNat / 16)]).size + (B [hexd (x.toNat % 16)]).size ≤ 9223372036854775807 := by rw [← B_append, size_B, size_B]; simp only [List.length_append, List.length_cons, List.length_nil]; omega
    have q2 : (i : Int) < (s.size : Int) ∧ (0 : Int) ≤ (i : Int) := by omega
    refine Ev.step (fun k => ?_) ih'
    simp only [pestleref14_Encode.l0]
    rw [if_pos q2.1, if_pos q2.2, h2.out, d0, d1, d2, b1, b2, e1.out]
    simp only [Option.bind_some, if_pos c1, if_pos c2]
    rw [← B_append, ← B_append]
    simp
theorem renc_f (s : ByteArray) (hs : s.size ≤ 1000000) : Ev (fun k => pestleref14_Encode.f k s) (B (enhex (L s))) := renc_l0 s hs (L s) 0 [] (by simp) (by omega) rfl rfl

/-- The digits of bytes, and a dash of none. -/
def dashL (l : List UInt8) : List UInt8 := if l = [] then [45] else enhex l
theorem dash_f (s : ByteArray) (hs : s.size ≤ 1000000) : Ev (fun k => hexes_Dash.f k s) (B (dashL (L s))) := by
  unfold dashL
  by_cases c : L s = []
  · rw [if_pos c]
    exact Ev.congr (f := fun _ => _) (fun k => by unfold hexes_Dash.f; rw [toList_L, if_pos c]; rfl) (Ev.now _)
  · rw [if_neg c]
    refine Ev.congr (f := fun k => (hexes_Encode.f k [s]).bind fun t => some t) (fun k => by unfold hexes_Dash.f; rw [toList_L, if_neg c]) ?_
    exact Ev.bind (f := fun _ t => some t) (enc_f s hs) (Ev.now _)
theorem rdash_f (s : ByteArray) (hs : s.size ≤ 1000000) : Ev (fun k => pestleref14_Dash.f k s) (B (dashL (L s))) := by
  unfold dashL
  by_cases c : L s = []
  · rw [if_pos c]
    exact Ev.congr (f := fun _ => _) (fun k => by unfold pestleref14_Dash.f; rw [toList_L, if_pos c]; rfl) (Ev.now _)
  · rw [if_neg c]
    refine Ev.congr (f := fun k => (pestleref14_Encode.f k s).bind fun t => some t) (fun k => by unfold pestleref14_Dash.f; rw [toList_L, if_neg c]) ?_
    exact Ev.bind (f := fun _ t => some t) (renc_f s hs) (Ev.now _)
theorem dashL_len (l : List UInt8) : (dashL l).length ≤ 2 * l.length + 1 := by
  unfold dashL
  split
  · simp
  · rw [enhex_len]; omega
theorem word1 : pestleref53_word.f 1 = some ⟨#[104, 97, 115, 104]⟩ := by rfl
theorem word2 : pestleref53_word.f 2 = some ⟨#[118, 101, 114, 105, 102, 121]⟩ := by rfl
theorem word3 : pestleref53_word.f 3 = some ⟨#[115, 116, 97, 108, 101]⟩ := by rfl
theorem lit (l : List UInt8) : (⟨l.toArray⟩ : ByteArray).toList = l := by rw [toList_L]; exact L_B l
attribute [local irreducible] hexd
def wordL (kd : Int) : List UInt8 := if kd = 1 then [104, 97, 115, 104] else if kd = 2 then [118, 101, 114, 105, 102, 121] else [115, 116, 97, 108, 101]
theorem lineWord_B (kd : Int) : lineWord kd = B (wordL kd) := by
  unfold lineWord wordL
  split
  · rfl
  · split <;> rfl
/-- The parts of a call's line. -/
def partsL (kd : Int) (w t : List UInt8) : List (List UInt8) := wordL kd :: ((if kd = 3 then [] else [dashL w]) ++ (if kd = 1 then [] else [t]))
/-- A call's line and the error's number. -/
def lineS (kd : Int) (w t : ByteArray) : ByteArray × Int :=
  if kd < 1 ∨ 3 < kd then (⟨#[]⟩, 1)
  else if (kd = 3 ∧ ¬ L w = []) ∨ (kd = 1 ∧ ¬ L t = []) then (⟨#[]⟩, 5)
  else if ¬ kd = 1 ∧ ¬ plainB (L t) = true then (⟨#[]⟩, 8)
  else (B (joinL 32 (partsL kd (L w) (L t))), 0)

theorem sumLen_parts (kd : Int) (w t : List UInt8) (hw : w.length ≤ 300000) (ht : t.length ≤ 300000) : sumLen (partsL kd w t) ≤ 2000000 ∧ (partsL kd w t).length ≤ 3 := by
  have := dashL_len w
  have h6 : (wordL kd).length ≤ 6 := by
    unfold wordL
    split
    · decide
    · split <;> decide
  unfold partsL sumLen
  generalize wordL kd = wl at *
  by_cases c1 : kd = 1 <;> by_cases c3 : kd = 3 <;> simp only [c1, c3, if_pos, if_false, List.map_cons, List.map_nil, List.nil_append, List.append_nil, List.cons_append, List.sum_cons, List.sum_nil, List.length_cons, List.length_nil] <;> first | omega | (simp only [show ¬ (1 : Int) = 3 by decide, show ¬ (3 : Int) = 1 by decide, if_false, List.map_cons, List.map_nil, List.sum_cons, List.sum_nil, List.length_cons, List.length_nil]; omega)

theorem line_j0 (kd : Int) (hk : kd = 1 ∨ kd = 2 ∨ kd = 3) (w t : ByteArray) (hw : w.size ≤ 300000) (ht : t.size ≤ 300000) (h1 : ¬ (kd = 3 ∧ ¬ L w = [])) (P : List (List UInt8)) (hP : P = if kd = 3 then [] else [dashL (L w)]) :
    Ev (fun k => line_Line.j0 k ((wordL kd :: P).map B) kd w t) (lineS kd w t) := by
  have hsm := sumLen_parts kd (L w) (L t) (by rw [L_size]; exact hw) (by rw [L_size]; exact ht)
  have c0 : ¬ (kd < 1 ∨ 3 < kd) := by rcases hk with rfl | rfl | rfl <;> decide
  have hPl : P.length ≤ 1 := by rw [hP]; split <;> simp
  unfold partsL at hsm
  unfold lineS partsL
  rw [if_neg c0]
  rw [← hP] at hsm ⊢
  clear hP
  by_cases c1 : kd = 1
  · by_cases c2 : L t = []
    · have n5 : ¬ ((kd = 3 ∧ ¬ L w = []) ∨ (kd = 1 ∧ ¬ L t = [])) := by
        rintro (h | h)
        · exact h1 h
        · exact h.2 c2
      have n8 : ¬ (¬ kd = 1 ∧ ¬ plainB (L t) = true) := fun h => h.1 c1
      rw [if_neg n5, if_neg n8]
      rw [if_pos c1, List.append_nil] at hsm ⊢
      have hj := join_f 32 (wordL kd) P (by omega) hsm.1
      refine Ev.step (f := fun k => (fields_Join.f k 32 ((wordL kd :: P).map B)).bind fun t160 => some (t160, 0)) (fun k => ?_) ?_
      · simp only [line_Line.j0]
        rw [if_pos c1, toList_L, if_pos c2]
      · exact Ev.bind (f := fun _ t => some (t, 0)) hj (Ev.now _)
    · rw [if_pos (.inr ⟨c1, c2⟩)]
      refine Ev.step (f := fun _ => _) (fun k => ?_) (Ev.now _)
      simp only [line_Line.j0]
      rw [if_pos c1, toList_L, if_neg c2]
  · have n5 : ¬ ((kd = 3 ∧ ¬ L w = []) ∨ (kd = 1 ∧ ¬ L t = [])) := by
      rintro (h | h)
      · exact h1 h
      · exact c1 h.1
    rw [if_neg n5]
    rw [if_neg c1] at hsm ⊢
    have hl : ((wordL kd :: P).map B).length < 8796093022208 := by rw [List.length_map, List.length_cons]; omega
    refine Ev.step (f := fun k => (line_Plain.f k t).bind fun t161 => (if t161 = true then (if ((wordL kd :: P).map B).length < 8796093022208 then ((fields_Join.f k 32 (((wordL kd :: P).map B) ++ [t])).bind fun t165 => (some (t165, 0))) else (none)) else (some ((⟨#[]⟩ : ByteArray), 8)))) (fun k => ?_) ?_
    · simp only [line_Line.j0]
      rw [if_neg c1]
    · refine Ev.bind (plain_f t (by omega)) ?_
      by_cases c2 : plainB (L t) = true
      · have n8 : ¬ (¬ kd = 1 ∧ ¬ plainB (L t) = true) := fun h => h.2 c2
        rw [if_neg n8]
        have hj := join_f 32 (wordL kd) (P ++ [L t]) (by rw [List.length_append, List.length_cons, List.length_nil]; omega) hsm.1
        have el : ((wordL kd :: P).map B) ++ [t] = (wordL kd :: (P ++ [L t])).map B := by simp [B_L]
        refine Ev.congr (f := fun k => (fields_Join.f k 32 ((wordL kd :: (P ++ [L t])).map B)).bind fun t165 => (some (t165, 0))) (fun k => by rw [if_pos c2, if_pos hl, el]) ?_
        exact Ev.bind (f := fun _ t => some (t, 0)) hj (Ev.now _)
      · have y8 : ¬ kd = 1 ∧ ¬ plainB (L t) = true := ⟨c1, c2⟩
        rw [if_pos y8]
        exact Ev.congr (f := fun _ => _) (fun k => by rw [if_neg c2]) (Ev.now _)

theorem line_f (kd : Int) (w t : ByteArray) (hw : w.size ≤ 300000) (ht : t.size ≤ 300000) : Ev (fun k => line_Line.f k kd w t) (lineS kd w t) := by
  by_cases c0 : kd < 1 ∨ 3 < kd
  · refine Ev.congr (f := fun _ => _) (fun k => ?_) (Ev.now _)
    unfold lineS line_Line.f line_Word.f
    rw [if_pos c0]
    by_cases c1 : kd < 1
    · rw [if_pos c1]; rfl
    · rw [if_neg c1, if_pos (by omega)]; rfl
  · have hW : line_Word.f kd = some (B (wordL kd), 0) := by
      unfold line_Word.f
      rw [if_neg (by omega), if_neg (by omega), lineWord_B]
    have hk : kd = 1 ∨ kd = 2 ∨ kd = 3 := by omega
    by_cases c3 : kd = 3
    · by_cases c4 : L w = []
      · have h := line_j0 kd hk w t hw ht (fun h => h.2 c4) [] (by rw [if_pos c3])
        refine Ev.congr (fun k => ?_) h
        unfold line_Line.f
        rw [hW]
        simp only [Option.bind_some]
        rw [if_pos trivial, if_pos c3, toList_L, if_pos c4]
        rfl
      · refine Ev.congr (f := fun _ => _) (fun k => ?_) (Ev.now _)
        unfold lineS line_Line.f
        rw [hW]
        simp only [Option.bind_some]
        rw [if_pos trivial, if_pos c3, toList_L, if_neg c4, if_neg c0, if_pos (.inl ⟨c3, c4⟩)]
    · have h := line_j0 kd hk w t hw ht (fun h => c3 h.1) [dashL (L w)] (by rw [if_neg c3])
      refine Ev.congr (f := fun k => (hexes_Dash.f k w).bind fun t156 => (if [B (wordL kd)].length < 8796093022208 then (line_Line.j0 k ([B (wordL kd)] ++ [t156]) kd w t) else (none))) (fun k => ?_) ?_
      · unfold line_Line.f
        rw [hW]
        simp only [Option.bind_some]
        rw [if_pos trivial, if_neg c3]
      · refine Ev.bind (dash_f w (by omega)) ?_
        refine Ev.congr (fun k => ?_) h
        rw [if_pos (by simp)]
        rfl

theorem rword_B (kd : Int) (h : 1 ≤ kd) (h3 : kd ≤ 3) : pestleref53_word.f kd = some (B (wordL kd)) := by
  have hk : kd = 1 ∨ kd = 2 ∨ kd = 3 := by omega
  rcases hk with rfl | rfl | rfl
  · exact word1
  · exact word2
  · exact word3

theorem wordL_len (kd : Int) : (wordL kd).length ≤ 6 ∧ ¬ wordL kd = [] := by
  unfold wordL
  split
  · decide
  · split <;> decide

theorem rline_j1 (kd : Int) (hk : kd = 1 ∨ kd = 2 ∨ kd = 3) (w t : ByteArray) (hw : w.size ≤ 300000) (ht : t.size ≤ 300000) :
    Ev (fun k => pestleref53_Line.j1 k false kd w t) (B (joinL 32 (partsL kd (L w) (L t))), 0) := by
  have hwl := (wordL_len kd).1
  have hdl := dashL_len (L w)
  rw [L_size] at hdl
  have c1 : (B (wordL kd)).size + 1 ≤ 9223372036854775807 := by rw [size_B]; omega
  have c2 : ∀ l : List UInt8, l.length ≤ 700000 → (B (wordL kd) ++ (⟨#[32]⟩ : ByteArray)).size + (B l).size ≤ 9223372036854775807 := by
    intro l hl
    rw [ByteArray.size_append, size_B, size_B]
    show _ + 1 + _ ≤ _
    omega
  have t1 : t = B (L t) := (B_L t).symm
  have tl : (L t).length ≤ 700000 := by rw [L_size]; omega
  have sp : (⟨#[32]⟩ : ByteArray) = B [32] := rfl
  rcases hk with rfl | rfl | rfl
  · refine Ev.step (f := fun k => (pestleref14_Dash.f k w).bind fun t260 => (if (B (wordL 1) ++ (⟨#[32]⟩ : ByteArray)).size + t260.size ≤ 9223372036854775807 then some ((B (wordL 1) ++ (⟨#[32]⟩ : ByteArray)) ++ t260, 0) else none)) (fun k => ?_) ?_
    · simp only [pestleref53_Line.j1]
      rw [if_neg (by simp), rword_B 1 (by omega) (by omega)]
      simp only [Option.bind_some]
      rw [if_neg (by omega), if_pos c1]
      simp only [if_pos trivial]
    · refine Ev.bind (rdash_f w (by omega)) ?_
      refine Ev.congr (f := fun _ => _) (fun k => ?_) (Ev.now _)
      rw [if_pos (c2 _ (by omega)), sp, ← B_append, ← B_append]
      congr 2
  · refine Ev.step (f := fun k => (pestleref14_Dash.f k w).bind fun t260 => (if (B (wordL 2) ++ (⟨#[32]⟩ : ByteArray)).size + t260.size ≤ 9223372036854775807 then (if ((B (wordL 2) ++ (⟨#[32]⟩ : ByteArray)) ++ t260).size + 1 ≤ 9223372036854775807 then (if (((B (wordL 2) ++ (⟨#[32]⟩ : ByteArray)) ++ t260) ++ (⟨#[32]⟩ : ByteArray)).size + t.size ≤ 9223372036854775807 then (some ((((B (wordL 2) ++ (⟨#[32]⟩ : ByteArray)) ++ t260) ++ (⟨#[32]⟩ : ByteArray)) ++ t, 0)) else (none)) else (none)) else none)) (fun k => ?_) ?_
    · simp only [pestleref53_Line.j1]
      rw [if_neg (by simp), rword_B 2 (by omega) (by omega)]
      simp only [Option.bind_some]
      rw [if_neg (by omega), if_pos c1]
      simp only [if_neg (show ¬ (2 : Int) = 1 by omega)]
    · refine Ev.bind (rdash_f w (by omega)) ?_
      refine Ev.congr (f := fun _ => _) (fun k => ?_) (Ev.now _)
      rw [if_pos (c2 _ (by omega)), sp, ← B_append, ← B_append, if_pos (by rw [size_B]; simp only [List.length_append, List.length_cons, List.length_nil]; omega), ← B_append, if_pos (by rw [size_B]; simp only [List.length_append, List.length_cons, List.length_nil]; omega)]
      rw [show B (wordL 2 ++ [32] ++ dashL (L w) ++ [32]) ++ t = B (wordL 2 ++ [32] ++ dashL (L w) ++ [32]) ++ B (L t) by rw [B_L], ← B_append]
      congr 2
      simp [partsL, joinL]
  · refine Ev.step (f := fun _ => _) (fun k => ?_) (Ev.now _)
    simp only [pestleref53_Line.j1]
    rw [if_neg (by simp), rword_B 3 (by omega) (by omega)]
    simp only [Option.bind_some]
    rw [if_pos trivial, if_neg (by omega), if_pos c1]
    rw [if_pos (by have := c2 _ tl; rw [B_L] at this; exact this)]
    rw [show B (wordL 3) ++ (⟨#[32]⟩ : ByteArray) ++ t = B (wordL 3) ++ B [32] ++ B (L t) by rw [B_L, sp], ← B_append, ← B_append]
    congr 2

theorem rline_j0 (kd : Int) (hk : kd = 1 ∨ kd = 2 ∨ kd = 3) (w t : ByteArray) (hw : w.size ≤ 300000) (ht : t.size ≤ 300000) (h1 : ¬ ((kd = 3 ∧ ¬ L w = []) ∨ (kd = 1 ∧ ¬ L t = []))) :
    Ev (fun k => pestleref53_Line.j0 k false kd w t) (lineS kd w t) := by
  have hj := rline_j1 kd hk w t hw ht
  unfold lineS
  rw [if_neg (by omega), if_neg h1]
  by_cases c1 : kd = 1
  · rw [if_neg (fun h => h.1 c1)]
    refine Ev.step (fun k => ?_) hj
    simp only [pestleref53_Line.j0]
    rw [if_neg (by simp), if_pos c1]
  · refine Ev.step (f := fun k => (pestleref53_Plain.f k t).bind fun t258 => (pestleref53_Line.j1 k (!t258) kd w t)) (fun k => ?_) ?_
    · simp only [pestleref53_Line.j0]
      rw [if_neg (by simp), if_neg c1]
    · refine Ev.bind (rplain_f t (by omega)) ?_
      by_cases c2 : plainB (L t) = true
      · rw [if_neg (fun h => h.2 c2), c2]
        exact hj
      · rw [if_pos ⟨c1, c2⟩]
        rw [Bool.not_eq_true] at c2
        rw [c2]
        refine Ev.step (f := fun _ => _) (fun k => ?_) (Ev.now _)
        simp only [pestleref53_Line.j1]
        rw [if_pos (by simp)]

theorem rword_no (kd : Int) (h : kd < 1 ∨ 3 < kd) : pestleref53_word.f kd = some ⟨#[]⟩ := by
  unfold pestleref53_word.f
  simp only [Option.bind_some]
  by_cases c : kd < 1
  · rw [if_pos c]
  · rw [if_neg c, if_pos (by omega)]

theorem rline_f (kd : Int) (w t : ByteArray) (hw : w.size ≤ 300000) (ht : t.size ≤ 300000) : Ev (fun k => pestleref53_Line.f k kd w t) (lineS kd w t) := by
  by_cases c0 : kd < 1 ∨ 3 < kd
  · refine Ev.congr (f := fun _ => _) (fun k => ?_) (Ev.now _)
    unfold lineS pestleref53_Line.f
    rw [if_pos c0, rword_no kd c0]
    simp only [Option.bind_some]
    rw [toList_L, if_pos (show L ⟨#[]⟩ = [] from rfl)]
  · have hk : kd = 1 ∨ kd = 2 ∨ kd = 3 := by omega
    have hne : ¬ (B (wordL kd)).toList = ([] : List UInt8) := by rw [toList_L, L_B]; exact (wordL_len kd).2
    by_cases c5 : (kd = 3 ∧ ¬ L w = []) ∨ (kd = 1 ∧ ¬ L t = [])
    · have hj : Ev (fun k => pestleref53_Line.j0 k true kd w t) (lineS kd w t) := by
        refine Ev.step (f := fun _ => _) (fun k => ?_) (Ev.now _)
        unfold lineS
        simp only [pestleref53_Line.j0]
        rw [if_pos trivial, if_neg c0, if_pos c5]
      refine Ev.congr (fun k => ?_) hj
      unfold pestleref53_Line.f
      rw [rword_B kd (by omega) (by omega)]
      simp only [Option.bind_some]
      rw [if_neg hne]
      rcases c5 with c | c
      · rw [if_pos c.1, toList_L, if_neg c.2]
      · rw [if_neg (by omega), if_pos c.1, toList_L]
        have : (L t).isEmpty = false := by
          cases h : L t
          · exact absurd h c.2
          · rfl
        rw [this]
        rfl
    · refine Ev.congr (fun k => ?_) (rline_j0 kd hk w t hw ht c5)
      unfold pestleref53_Line.f
      rw [rword_B kd (by omega) (by omega)]
      simp only [Option.bind_some]
      rw [if_neg hne, toList_L, toList_L]
      by_cases c3 : kd = 3
      · have c4 : L w = [] := Classical.byContradiction (fun h => c5 (.inl ⟨c3, h⟩))
        rw [if_pos c3, if_pos c4, if_neg (by omega)]
      · rw [if_neg c3]
        by_cases c1 : kd = 1
        · have c4 : L t = [] := Classical.byContradiction (fun h => c5 (.inr ⟨c1, h⟩))
          rw [if_pos c1, c4]
          rfl
        · rw [if_neg c1]
end Go.Proofs.Ytdieefjolkhmpaa.PRpLine
