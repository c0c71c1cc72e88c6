/- A call as a line: what the program's and the reference's functions come to. -/
import Derived.Test.YtdieefjolkhmpaaLineRead
import Derived.Laws.BitsLemmas
namespace Go.Proofs.Ytdieefjolkhmpaa.LineWrite
open Go.RowKit Go.Proofs.Ytdieefjolkhmpaa.PLi Go.Proofs.YtdieefjolkhmpaaW.PrintWords Go.Proofs.YtdieefjolkhmpaaW.PrintLast Go.Proofs.YtdieefjolkhmpaaW.PrintMore Go.Proofs.Ytdieefjolkhmpaa.Base Go.Proofs.Ytdieefjolkhmpaa.LineParts Go.Proofs.Ytdieefjolkhmpaa.LineRead
attribute [local irreducible] IntKind.wrap bt hexv

/-- A digit's letter. -/
def hexd (n : Nat) : UInt8 := UInt8.ofNat (if n < 10 then 48 + n else 87 + n)
def enhex : List UInt8 → List UInt8
  | [] => []
  | b :: r => hexd (b.toNat / 16) :: hexd (b.toNat % 16) :: enhex r
theorem enhex_len : ∀ l, (enhex l).length = 2 * l.length
  | [] => rfl
  | b :: r => by simp only [enhex, List.length_cons, enhex_len r]; omega
theorem enhex_append : ∀ a b, enhex (a ++ b) = enhex a ++ enhex b
  | [], b => rfl
  | x :: a, b => by simp only [List.cons_append, enhex, enhex_append a b]
theorem bt_letters : ∀ n : Nat, n < 16 → bt (⟨#[48, 49, 50, 51, 52, 53, 54, 55, 56, 57, 97, 98, 99, 100, 101, 102]⟩ : ByteArray) (n : Int) = ((hexd n).toNat : Int) := by decide +kernel
theorem letter_all : ∀ n : Nat, n < 16 → pestleref14_letter.f (n : Int) = some (B [hexd n]) := by decide +kernel

theorem enc_l1 (s : ByteArray) (hs : s.size ≤ 1000000) (xs : List ByteArray) (m : Int) (res : ByteArray) : ∀ (r : List UInt8) (i : Nat) (acc : List UInt8), (L s).drop i = r → i ≤ s.size → acc.length = 2 * i →
    Ev (fun k => hexes_Encode.l0 k ((enhex (L s)).map fun b : UInt8 => (b.toNat : Int)) xs m (wrap64 (0 + 1))) res → acc = enhex ((L s).take i) →
    Ev (fun k => hexes_Encode.l1 k (acc.map fun b : UInt8 => (b.toNat : Int)) s xs m 0 (s.size : Int) (i : Int)) res := by
  intro r
  induction r with
  | nil =>
    intro i acc hr hi ha hend he
    have hn := left_nil hr
    obtain rfl : i = s.size := by omega
    rw [List.take_of_length_le (by rw [L_size]; exact Nat.le_refl _)] at he
    subst he
    refine Ev.step (fun k => ?_) hend
    simp only [hexes_Encode.l1]
    rw [if_neg (by omega)]
  | cons x r ih =>
    intro i acc hr hi ha hend he
    obtain ⟨h1, h2, h3⟩ := left_cons hr
    have hx := x.toNat_lt
    have e1 := nx (i := i) (by omega)
    have hl : i < (L s).length := by rw [L_size]; exact h1
    have et : (L s).take (i + 1) = (L s).take i ++ [x] := by
      rw [List.take_succ_eq_append_getElem hl]
      rw [List.drop_eq_getElem_cons hl] at hr
      injection hr with q1 _
      rw [q1]
    have ih' := ih (i + 1) (acc ++ [hexd (x.toNat / 16), hexd (x.toNat % 16)]) h3 (by omega) (by simp only [List.length_append, List.length_cons, List.length_nil]; omega) hend (by rw [et, enhex_append, ← he]; rfl)
    have d1 : Int.tdiv (x.toNat : Int) 16 % 256 = ((x.toNat / 16 : Nat) : Int) := by rw [show Int.tdiv (x.toNat : Int) 16 = ((x.toNat / 16 : Nat) : Int) from tdiv_cast _ 16]; omega
    have d2 : Int.tmod (x.toNat : Int) 16 = ((x.toNat % 16 : Nat) : Int) := tmod_cast _ 16
    have b1 := bt_letters (x.toNat / 16) (by omega)
    have b2 := bt_letters (x.toNat % 16) (by omega)
    have c5 : (acc.map fun b : UInt8 => (b.toNat : Int)).length + [((hexd (x.toNat / 16)).toNat : Int), ((hexd (x.toNat % 16)).toNat : Int)].length < 140737488355328 := by simp only [List.length_map, List.length_cons, List.length_nil]; omega
    have q1 : (0 : Int) ≤ ((x.toNat / 16 : Nat) : Int) ∧ ((x.toNat / 16 : Nat) : Int) < 16 ∧ (0 : Int) ≤ ((x.toNat % 16 : Nat) : Int) ∧ ((x.toNat % 16 : Nat) : Int) < 16 := by omega
    have q2 : (i : Int) < (s.size : Int) ∧ (0 : Int) ≤ (i : Int) := by omega
    refine Ev.step (fun k => ?_) ih'
    simp only [hexes_Encode.l1]
    rw [if_pos q2.1, if_pos q2.2, if_pos q2.1, h2.out, d1, d2, if_pos q1.1, if_pos q1.2.1, if_pos q1.2.2.1, if_pos q1.2.2.2, b1, b2, e1.out]
    simp only [Option.bind_some, if_pos c5, List.map_append, List.map_cons, List.map_nil]

theorem enc_f (s : ByteArray) (hs : s.size ≤ 1000000) : Ev (fun k => hexes_Encode.f k [s]) (B (enhex (L s))) := by
  have e1 : wrap64 (0 + 1) = 1 := by rw [w64 (by omega) (by omega)]; rfl
  have last : Ev (fun k => hexes_Encode.l0 k ((enhex (L s)).map fun b : UInt8 => (b.toNat : Int)) [s] 1 (wrap64 (0 + 1))) (B (enhex (L s))) := by
    refine Ev.step (f := fun _ => _) (fun k => ?_) (Ev.now _)
    simp only [hexes_Encode.l0]
    rw [e1, if_neg (by omega), nums_B]
  have h := enc_l1 s hs [s] 1 _ (L s) 0 [] (by simp) (by omega) rfl last rfl
  refine Ev.step (g := fun k => hexes_Encode.l0 k ([] : List Int) [s] 1 0) (fun k => ?_) h
  simp only [hexes_Encode.l0]
  rw [if_pos (by omega), if_pos (by omega), if_pos (by simp)]
  rfl

theorem renc_l0 (s : ByteArray) (hs : s.size ≤ 1000000) : ∀ (r : List UInt8) (i : Nat) (acc : List UInt8), (L s).drop i = r → i ≤ s.size → acc.length = 2 * i → acc = enhex ((L s).take i) →
    Ev (fun k => pestleref14_Encode.l0 k s (B acc) (i : Int)) (B (enhex (L s))) := by
  intro r
  induction r with
  | nil =>
    intro i acc hr hi ha he
    have hn := left_nil hr
    obtain rfl : i = s.size := by omega
    rw [List.take_of_length_le (by rw [L_size]; exact Nat.le_refl _)] at he
    subst he
    refine Ev.step (f := fun _ => _) (fun k => ?_) (Ev.now _)
    simp only [pestleref14_Encode.l0]
    rw [if_neg (by omega)]
  | cons x r ih =>
    intro i acc hr hi ha he
    obtain ⟨h1, h2, h3⟩ := left_cons hr
    have hx := x.toNat_lt
    have e1 := nx (i := i) (by omega)
    have hl : i < (L s).length := by rw [L_size]; exact h1
    have et : (L s).take (i + 1) = (L s).take i ++ [x] := by
      rw [List.take_succ_eq_append_getElem hl]
      rw [List.drop_eq_getElem_cons hl] at hr
      injection hr with q1 _
      rw [q1]
    have ih' := ih (i + 1) (acc ++ [hexd (x.toNat / 16), hexd (x.toNat % 16)]) h3 (by omega) (by simp only [List.length_append, List.length_cons, List.length_nil]; omega) (by rw [et, enhex_append, ← he]; rfl)
    have d0 : wrap64 (x.toNat : Int) = (x.toNat : Int) := w64 (by omega) (by omega)
    have d1 : wrap64 (Int.tdiv (x.toNat : Int) 16) = ((x.toNat / 16 : Nat) : Int) := by rw [show Int.tdiv (x.toNat : Int) 16 = ((x.toNat / 16 : Nat) : Int) from tdiv_cast _ 16, w64 (by omega) (by omega)]
    have d2 : Int.tmod (x.toNat : Int) 16 = ((x.toNat % 16 : Nat) : Int) := tmod_cast _ 16
    have b1 := letter_all (x.toNat / 16) (by omega)
    have b2 := letter_all (x.toNat % 16) (by omega)
    have c1 : (B acc).size + (B [hexd (x.toNat / 16)]).size ≤ 9223372036854775807 := by rw [size_B, size_B]; simp only [List.length_cons, List.length_nil]; omega
    have c2 : (B acc ++ B [hexd (x.toNat / 16)]).size + (B [hexd (x.toNat % 16)]).size ≤ 9223372036854775807 := by rw [← B_append, size_B, size_B]; simp only [List.length_append, List.length_cons, List.length_nil]; omega
    have q2 : (i : Int) < (s.size : Int) ∧ (0 : Int) ≤ (i : Int) := by omega
    refine Ev.step (fun k => ?_) ih'
    simp only [pestleref14_Encode.l0]
    rw [if_pos q2.1, if_pos q2.2, h2.out, d0, d1, d2, b1, b2, e1.out]
    simp only [Option.bind_some, if_pos c1, if_pos c2]
    rw [← B_append, ← B_append]
    simp
theorem renc_f (s : ByteArray) (hs : s.size ≤ 1000000) : Ev (fun k => pestleref14_Encode.f k s) (B (enhex (L s))) := renc_l0 s hs (L s) 0 [] (by simp) (by omega) rfl rfl

/-- The digits of bytes, and a dash of none. -/
def dashL (l : List UInt8) : List UInt8 := if l = [] then [45] else enhex l
theorem dash_f (s : ByteArray) (hs : s.size ≤ 1000000) : Ev (fun k => hexes_Dash.f k s) (B (dashL (L s))) := by
  unfold dashL
  by_cases c : L s = []
  · rw [if_pos c]
    exact Ev.congr (f := fun _ => _) (fun k => by unfold hexes_Dash.f; rw [toList_L, if_pos c]; rfl) (Ev.now _)
  · rw [if_neg c]
    refine Ev.congr (f := fun k => (hexes_Encode.f k [s]).bind fun t => some t) (fun k => by unfold hexes_Dash.f; rw [toList_L, if_neg c]) ?_
    exact Ev.bind (f := fun _ t => some t) (enc_f s hs) (Ev.now _)
theorem rdash_f (s : ByteArray) (hs : s.size ≤ 1000000) : Ev (fun k => pestleref14_Dash.f k s) (B (dashL (L s))) := by
  unfold dashL
  by_cases c : L s = []
  · rw [if_pos c]
    exact Ev.congr (f := fun _ => _) (fun k => by unfold pestleref14_Dash.f; rw [toList_L, if_pos c]; rfl) (Ev.now _)
  · rw [if_neg c]
    refine Ev.congr (f := fun k => (pestleref14_Encode.f k s).bind fun t => some t) (fun k => by unfold pestleref14_Dash.f; rw [toList_L, if_neg c]) ?_
    exact Ev.bind (f := fun _ t => some t) (renc_f s hs) (Ev.now _)
theorem dashL_len (l : List UInt8) : (dashL l).length ≤ 2 * l.length + 1 := by
  unfold dashL
  split
  · simp
  · rw [enhex_len]; omega

/-- Texts with a byte between. -/
def joinL (c : UInt8) : List (List UInt8) → List UInt8
  | [] => []
  | [p] => p
  | p :: q :: r => p ++ c :: joinL c (q :: r)
/-- The same, of what stands behind a first text. -/
def tailL (c : UInt8) : List (List UInt8) → List UInt8
  | [] => []
  | p :: r => c :: p ++ tailL c r
theorem joinL_tail (c : UInt8) (p : List UInt8) : ∀ r, joinL c (p :: r) = p ++ tailL c r
  | [] => by simp [joinL, tailL]
  | q :: r => by simp only [joinL, tailL, joinL_tail c q r, List.cons_append]
def sumLen (P : List (List UInt8)) : Nat := (P.map fun p => p.length + 1).sum

theorem join_l0 (c : UInt8) (P : List (List UInt8)) (hP : P.length ≤ 1000) : ∀ (r : List (List UInt8)) (i : Nat) (acc : List UInt8), P.drop i = r → 0 < i → i ≤ P.length → acc.length + sumLen r ≤ 2000000 →
    Ev (fun k => fields_Join.l0 k (c.toNat : Int) (acc.map fun b : UInt8 => (b.toNat : Int)) (P.map B) (P.length : Int) (i : Int)) (B (acc ++ tailL c r)) := by
  intro r
  induction r with
  | nil =>
    intro i acc hr h0 hi ha
    have : P.length ≤ i := List.drop_eq_nil_iff.1 hr
    refine Ev.step (f := fun _ => _) (fun k => ?_) (Ev.now _)
    simp only [fields_Join.l0]
    rw [if_neg (by omega), nums_B]
    simp [tailL]
  | cons p r ih =>
    intro i acc hr h0 hi ha
    have hl : i < P.length := by
      rcases Nat.lt_or_ge i P.length with h1 | h1
      · exact h1
      · rw [List.drop_eq_nil_of_le h1] at hr; cases hr
    rw [List.drop_eq_getElem_cons hl] at hr
    injection hr with q1 q2
    have hrd : rdOf ByteArray.empty (P.map B) (i : Int) = B p := by
      unfold rdOf
      rw [List.getD_eq_getElem?_getD, Int.toNat_natCast, List.getElem?_map, List.getElem?_eq_getElem hl, q1]
      rfl
    have e1 := nx (i := i) (by omega)
    have hsum : sumLen (p :: r) = p.length + 1 + sumLen r := by simp [sumLen]
    rw [hsum] at ha
    have ih' := ih (i + 1) (acc ++ c :: p) q2 (by omega) (by omega) (by simp only [List.length_append, List.length_cons]; omega)
    have c1 : (acc.map fun b : UInt8 => (b.toNat : Int)).length < 140737488355328 := by rw [List.length_map]; omega
    have c2 : ((acc.map fun b : UInt8 => (b.toNat : Int)) ++ [(c.toNat : Int)]).length + (B p).size < 140737488355328 := by rw [size_B]; simp only [List.length_append, List.length_map, List.length_cons, List.length_nil]; omega
    have e2 : acc ++ tailL c (p :: r) = (acc ++ c :: p) ++ tailL c r := by simp [tailL]
    rw [e2]
    refine Ev.step (fun k => ?_) ih'
    simp only [fields_Join.l0]
    rw [if_pos (by omega), if_pos (by omega), if_pos (by rw [List.length_map]; omega), if_pos (by omega), hrd, e1.out]
    simp only [if_pos c1, Option.bind_some, if_pos c2]
    rw [bytesOf_L, L_B]
    simp

theorem join_f (c : UInt8) (p : List UInt8) (r : List (List UInt8)) (hP : r.length ≤ 900) (hs : sumLen (p :: r) ≤ 2000000) : Ev (fun k => fields_Join.f k (c.toNat : Int) ((p :: r).map B)) (B (joinL c (p :: r))) := by
  have e1 : wrap64 (0 + 1) = ((1 : Nat) : Int) := by rw [w64 (by omega) (by omega)]; rfl
  have hsum : sumLen (p :: r) = p.length + 1 + sumLen r := by simp [sumLen]
  rw [hsum] at hs
  have h := join_l0 c (p :: r) (by simp only [List.length_cons]; omega) r 1 p rfl (by omega) (by simp only [List.length_cons]; omega) (by omega)
  rw [joinL_tail]
  have c2 : ([] : List Int).length + (B p).size < 140737488355328 := by rw [size_B]; simp only [List.length_nil]; omega
  refine Ev.step (g := fun k => fields_Join.l0 k (c.toNat : Int) ([] : List Int) ((p :: r).map B) (((p :: r).map B).length : Int) 0) (fun k => ?_) h
  simp only [fields_Join.l0]
  rw [List.length_map, if_pos (by simp only [List.length_cons]; omega), if_pos (by omega), if_pos (by simp only [List.length_cons]; omega), if_neg (by omega)]
  have hrd : rdOf ByteArray.empty ((p :: r).map B) 0 = B p := rfl
  rw [hrd, if_pos c2, e1, bytesOf_L, L_B, List.nil_append]
end Go.Proofs.Ytdieefjolkhmpaa.LineWrite
