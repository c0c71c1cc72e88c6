/- A call as a line: the writers' answers, and both ways round. -/
import Derived.Test.YtdieefjolkhmpaaLineBack
namespace Go.Proofs.Ytdieefjolkhmpaa.LineCall
open Go.RowKit Go.Proofs.Ytdieefjolkhmpaa.PLi Go.Proofs.YtdieefjolkhmpaaW.PrintWords Go.Proofs.YtdieefjolkhmpaaW.PrintLast Go.Proofs.YtdieefjolkhmpaaW.PrintMore Go.Proofs.Ytdieefjolkhmpaa.Base Go.Proofs.Ytdieefjolkhmpaa.LineParts Go.Proofs.Ytdieefjolkhmpaa.LineRead Go.Proofs.Ytdieefjolkhmpaa.LineWrite Go.Proofs.Ytdieefjolkhmpaa.LineBack
attribute [local irreducible] IntKind.wrap bt hexv hexd

def wordL (kd : Int) : List UInt8 := if kd = 1 then [104, 97, 115, 104] else if kd = 2 then [118, 101, 114, 105, 102, 121] else [115, 116, 97, 108, 101]
theorem lineWord_B (kd : Int) : lineWord kd = B (wordL kd) := by
  unfold lineWord wordL
  split
  · rfl
  · split <;> rfl
/-- The parts of a call's line. -/
def partsL (kd : Int) (w t : List UInt8) : List (List UInt8) := wordL kd :: ((if kd = 3 then [] else [dashL w]) ++ (if kd = 1 then [] else [t]))
/-- A call's line and the error's number. -/
def lineS (kd : Int) (w t : ByteArray) : ByteArray × Int :=
  if kd < 1 ∨ 3 < kd then (⟨#[]⟩, 1)
  else if (kd = 3 ∧ ¬ L w = []) ∨ (kd = 1 ∧ ¬ L t = []) then (⟨#[]⟩, 5)
  else if ¬ kd = 1 ∧ ¬ plainB (L t) = true then (⟨#[]⟩, 8)
  else (B (joinL 32 (partsL kd (L w) (L t))), 0)

theorem sumLen_parts (kd : Int) (w t : List UInt8) (hw : w.length ≤ 300000) (ht : t.length ≤ 300000) : sumLen (partsL kd w t) ≤ 2000000 ∧ (partsL kd w t).length ≤ 3 := by
  have := dashL_len w
  have h6 : (wordL kd).length ≤ 6 := by
    unfold wordL
    split
    · decide
    · split <;> decide
  unfold partsL sumLen
  generalize wordL kd = wl at *
  by_cases c1 : kd = 1 <;> by_cases c3 : kd = 3 <;> simp only [c1, c3, if_pos, if_false, List.map_cons, List.map_nil, List.nil_append, List.append_nil, List.cons_append, List.sum_cons, List.sum_nil, List.length_cons, List.length_nil] <;> first | omega | (simp only [show ¬ (1 : Int) = 3 by decide, show ¬ (3 : Int) = 1 by decide, if_false, List.map_cons, List.map_nil, List.sum_cons, List.sum_nil, List.length_cons, List.length_nil]; omega)

theorem line_j0 (kd : Int) (hk : kd = 1 ∨ kd = 2 ∨ kd = 3) (w t : ByteArray) (hw : w.size ≤ 300000) (ht : t.size ≤ 300000) (h1 : ¬ (kd = 3 ∧ ¬ L w = [])) (P : List (List UInt8)) (hP : P = if kd = 3 then [] else [dashL (L w)]) :
    Ev (fun k => line_Line.j0 k ((wordL kd :: P).map B) kd w t) (lineS kd w t) := by
  have hsm := sumLen_parts kd (L w) (L t) (by rw [L_size]; exact hw) (by rw [L_size]; exact ht)
  have c0 : ¬ (kd < 1 ∨ 3 < kd) := by rcases hk with rfl | rfl | rfl <;> decide
  have hPl : P.length ≤ 1 := by rw [hP]; split <;> simp
  unfold partsL at hsm
  unfold lineS partsL
  rw [if_neg c0]
  rw [← hP] at hsm ⊢
  clear hP
  by_cases c1 : kd = 1
  · by_cases c2 : L t = []
    · have n5 : ¬ ((kd = 3 ∧ ¬ L w = []) ∨ (kd = 1 ∧ ¬ L t = [])) := by
        rintro (h | h)
        · exact h1 h
        · exact h.2 c2
      have n8 : ¬ (¬ kd = 1 ∧ ¬ plainB (L t) = true) := fun h => h.1 c1
      rw [if_neg n5, if_neg n8]
      rw [if_pos c1, List.append_nil] at hsm ⊢
      have hj := join_f 32 (wordL kd) P (by omega) hsm.1
      refine Ev.step (f := fun k => (fields_Join.f k 32 ((wordL kd :: P).map B)).bind fun t160 => some (t160, 0)) (fun k => ?_) ?_
      · simp only [line_Line.j0]
        rw [if_pos c1, toList_L, if_pos c2]
      · exact Ev.bind (f := fun _ t => some (t, 0)) hj (Ev.now _)
    · rw [if_pos (.inr ⟨c1, c2⟩)]
      refine Ev.step (f := fun _ => _) (fun k => ?_) (Ev.now _)
      simp only [line_Line.j0]
      rw [if_pos c1, toList_L, if_neg c2]
  · have n5 : ¬ ((kd = 3 ∧ ¬ L w = []) ∨ (kd = 1 ∧ ¬ L t = [])) := by
      rintro (h | h)
      · exact h1 h
      · exact c1 h.1
    rw [if_neg n5]
    rw [if_neg c1] at hsm ⊢
    have hl : ((wordL kd :: P).map B).length < 8796093022208 := by rw [List.length_map, List.length_cons]; omega
    refine Ev.step (f := fun k => (line_Plain.f k t).bind fun t161 => (if t161 = true then (if ((wordL kd :: P).map B).length < 8796093022208 then ((fields_Join.f k 32 (((wordL kd :: P).map B) ++ [t])).bind fun t165 => (some (t165, 0))) else (none)) else (some ((⟨#[]⟩ : ByteArray), 8)))) (fun k => ?_) ?_
    · simp only [line_Line.j0]
      rw [if_neg c1]
    · refine Ev.bind (plain_f t (by omega)) ?_
      by_cases c2 : plainB (L t) = true
      · have n8 : ¬ (¬ kd = 1 ∧ ¬ plainB (L t) = true) := fun h => h.2 c2
        rw [if_neg n8]
        have hj := join_f 32 (wordL kd) (P ++ [L t]) (by rw [List.length_append, List.length_cons, List.length_nil]; omega) hsm.1
        have el : ((wordL kd :: P).map B) ++ [t] = (wordL kd :: (P ++ [L t])).map B := by simp [B_L]
        refine Ev.congr (f := fun k => (fields_Join.f k 32 ((wordL kd :: (P ++ [L t])).map B)).bind fun t165 => (some (t165, 0))) (fun k => by rw [if_pos c2, if_pos hl, el]) ?_
        exact Ev.bind (f := fun _ t => some (t, 0)) hj (Ev.now _)
      · have y8 : ¬ kd = 1 ∧ ¬ plainB (L t) = true := ⟨c1, c2⟩
        rw [if_pos y8]
        exact Ev.congr (f := fun _ => _) (fun k => by rw [if_neg c2]) (Ev.now _)

theorem line_f (kd : Int) (w t : ByteArray) (hw : w.size ≤ 300000) (ht : t.size ≤ 300000) : Ev (fun k => line_Line.f k kd w t) (lineS kd w t) := by
  by_cases c0 : kd < 1 ∨ 3 < kd
  · refine Ev.congr (f := fun _ => _) (fun k => ?_) (Ev.now _)
    unfold lineS line_Line.f line_Word.f
    rw [if_pos c0]
    by_cases c1 : kd < 1
    · rw [if_pos c1]; rfl
    · rw [if_neg c1, if_pos (by omega)]; rfl
  · have hW : line_Word.f kd = some (B (wordL kd), 0) := by
      unfold line_Word.f
      rw [if_neg (by omega), if_neg (by omega), lineWord_B]
    have hk : kd = 1 ∨ kd = 2 ∨ kd = 3 := by omega
    by_cases c3 : kd = 3
    · by_cases c4 : L w = []
      · have h := line_j0 kd hk w t hw ht (fun h => h.2 c4) [] (by rw [if_pos c3])
        refine Ev.congr (fun k => ?_) h
        unfold line_Line.f
        rw [hW]
        simp only [Option.bind_some]
        rw [if_pos trivial, if_pos c3, toList_L, if_pos c4]
        rfl
      · refine Ev.congr (f := fun _ => _) (fun k => ?_) (Ev.now _)
        unfold lineS line_Line.f
        rw [hW]
        simp only [Option.bind_some]
        rw [if_pos trivial, if_pos c3, toList_L, if_neg c4, if_neg c0, if_pos (.inl ⟨c3, c4⟩)]
    · have h := line_j0 kd hk w t hw ht (fun h => c3 h.1) [dashL (L w)] (by rw [if_neg c3])
      refine Ev.congr (f := fun k => (hexes_Dash.f k w).bind fun t156 => (if [B (wordL kd)].length < 8796093022208 then (line_Line.j0 k ([B (wordL kd)] ++ [t156]) kd w t) else (none))) (fun k => ?_) ?_
      · unfold line_Line.f
        rw [hW]
        simp only [Option.bind_some]
        rw [if_pos trivial, if_neg c3]
      · refine Ev.bind (dash_f w (by omega)) ?_
        refine Ev.congr (fun k => ?_) h
        rw [if_pos (by simp)]
        rfl

theorem rword_B (kd : Int) (h : 1 ≤ kd) (h3 : kd ≤ 3) : pestleref53_word.f kd = some (B (wordL kd)) := by
  have hk : kd = 1 ∨ kd = 2 ∨ kd = 3 := by omega
  rcases hk with rfl | rfl | rfl
  · exact word1
  · exact word2
  · exact word3

theorem wordL_len (kd : Int) : (wordL kd).length ≤ 6 ∧ ¬ wordL kd = [] := by
  unfold wordL
  split
  · decide
  · split <;> decide

theorem rline_j1 (kd : Int) (hk : kd = 1 ∨ kd = 2 ∨ kd = 3) (w t : ByteArray) (hw : w.size ≤ 300000) (ht : t.size ≤ 300000) :
    Ev (fun k => pestleref53_Line.j1 k false kd w t) (B (joinL 32 (partsL kd (L w) (L t))), 0) := by
  have hwl := (wordL_len kd).1
  have hdl := dashL_len (L w)
  rw [L_size] at hdl
  have c1 : (B (wordL kd)).size + 1 ≤ 9223372036854775807 := by rw [size_B]; omega
  have c2 : ∀ l : List UInt8, l.length ≤ 700000 → (B (wordL kd) ++ (⟨#[32]⟩ : ByteArray)).size + (B l).size ≤ 9223372036854775807 := by
    intro l hl
    rw [ByteArray.size_append, size_B, size_B]
    show _ + 1 + _ ≤ _
    omega
  have t1 : t = B (L t) := (B_L t).symm
  have tl : (L t).length ≤ 700000 := by rw [L_size]; omega
  have sp : (⟨#[32]⟩ : ByteArray) = B [32] := rfl
  rcases hk with rfl | rfl | rfl
  · refine Ev.step (f := fun k => (pestleref14_Dash.f k w).bind fun t260 => (if (B (wordL 1) ++ (⟨#[32]⟩ : ByteArray)).size + t260.size ≤ 9223372036854775807 then some ((B (wordL 1) ++ (⟨#[32]⟩ : ByteArray)) ++ t260, 0) else none)) (fun k => ?_) ?_
    · simp only [pestleref53_Line.j1]
      rw [if_neg (by simp), rword_B 1 (by omega) (by omega)]
      simp only [Option.bind_some]
      rw [if_neg (by omega), if_pos c1]
      simp only [if_pos trivial]
    · refine Ev.bind (rdash_f w (by omega)) ?_
      refine Ev.congr (f := fun _ => _) (fun k => ?_) (Ev.now _)
      rw [if_pos (c2 _ (by omega)), sp, ← B_append, ← B_append]
      congr 2
  · refine Ev.step (f := fun k => (pestleref14_Dash.f k w).bind fun t260 => (if (B (wordL 2) ++ (⟨#[32]⟩ : ByteArray)).size + t260.size ≤ 9223372036854775807 then (if ((B (wordL 2) ++ (⟨#[32]⟩ : ByteArray)) ++ t260).size + 1 ≤ 9223372036854775807 then (if (((B (wordL 2) ++ (⟨#[32]⟩ : ByteArray)) ++ t260) ++ (⟨#[32]⟩ : ByteArray)).size + t.size ≤ 9223372036854775807 then (some ((((B (wordL 2) ++ (⟨#[32]⟩ : ByteArray)) ++ t260) ++ (⟨#[32]⟩ : ByteArray)) ++ t, 0)) else (none)) else (none)) else none)) (fun k => ?_) ?_
    · simp only [pestleref53_Line.j1]
      rw [if_neg (by simp), rword_B 2 (by omega) (by omega)]
      simp only [Option.bind_some]
      rw [if_neg (by omega), if_pos c1]
      simp only [if_neg (show ¬ (2 : Int) = 1 by omega)]
    · refine Ev.bind (rdash_f w (by omega)) ?_
      refine Ev.congr (f := fun _ => _) (fun k => ?_) (Ev.now _)
      rw [if_pos (c2 _ (by omega)), sp, ← B_append, ← B_append, if_pos (by rw [size_B]; simp only [List.length_append, List.length_cons, List.length_nil]; omega), ← B_append, if_pos (by rw [size_B]; simp only [List.length_append, List.length_cons, List.length_nil]; omega)]
      rw [show B (wordL 2 ++ [32] ++ dashL (L w) ++ [32]) ++ t = B (wordL 2 ++ [32] ++ dashL (L w) ++ [32]) ++ B (L t) by rw [B_L], ← B_append]
      congr 2
      simp [partsL, joinL]
  · refine Ev.step (f := fun _ => _) (fun k => ?_) (Ev.now _)
    simp only [pestleref53_Line.j1]
    rw [if_neg (by simp), rword_B 3 (by omega) (by omega)]
    simp only [Option.bind_some]
    rw [if_pos trivial, if_neg (by omega), if_pos c1]
    rw [if_pos (by have := c2 _ tl; rw [B_L] at this; exact this)]
    rw [show B (wordL 3) ++ (⟨#[32]⟩ : ByteArray) ++ t = B (wordL 3) ++ B [32] ++ B (L t) by rw [B_L, sp], ← B_append, ← B_append]
    congr 2

theorem rline_j0 (kd : Int) (hk : kd = 1 ∨ kd = 2 ∨ kd = 3) (w t : ByteArray) (hw : w.size ≤ 300000) (ht : t.size ≤ 300000) (h1 : ¬ ((kd = 3 ∧ ¬ L w = []) ∨ (kd = 1 ∧ ¬ L t = []))) :
    Ev (fun k => pestleref53_Line.j0 k false kd w t) (lineS kd w t) := by
  have hj := rline_j1 kd hk w t hw ht
  unfold lineS
  rw [if_neg (by omega), if_neg h1]
  by_cases c1 : kd = 1
  · rw [if_neg (fun h => h.1 c1)]
    refine Ev.step (fun k => ?_) hj
    simp only [pestleref53_Line.j0]
    rw [if_neg (by simp), if_pos c1]
  · refine Ev.step (f := fun k => (pestleref53_Plain.f k t).bind fun t258 => (pestleref53_Line.j1 k (!t258) kd w t)) (fun k => ?_) ?_
    · simp only [pestleref53_Line.j0]
      rw [if_neg (by simp), if_neg c1]
    · refine Ev.bind (rplain_f t (by omega)) ?_
      by_cases c2 : plainB (L t) = true
      · rw [if_neg (fun h => h.2 c2), c2]
        exact hj
      · rw [if_pos ⟨c1, c2⟩]
        rw [Bool.not_eq_true] at c2
        rw [c2]
        refine Ev.step (f := fun _ => _) (fun k => ?_) (Ev.now _)
        simp only [pestleref53_Line.j1]
        rw [if_pos (by simp)]

theorem rword_no (kd : Int) (h : kd < 1 ∨ 3 < kd) : pestleref53_word.f kd = some ⟨#[]⟩ := by
  unfold pestleref53_word.f
  simp only [Option.bind_some]
  by_cases c : kd < 1
  · rw [if_pos c]
  · rw [if_neg c, if_pos (by omega)]

theorem rline_f (kd : Int) (w t : ByteArray) (hw : w.size ≤ 300000) (ht : t.size ≤ 300000) : Ev (fun k => pestleref53_Line.f k kd w t) (lineS kd w t) := by
  by_cases c0 : kd < 1 ∨ 3 < kd
  · refine Ev.congr (f := fun _ => _) (fun k => ?_) (Ev.now _)
    unfold lineS pestleref53_Line.f
    rw [if_pos c0, rword_no kd c0]
    simp only [Option.bind_some]
    rw [toList_L, if_pos (show L ⟨#[]⟩ = [] from rfl)]
  · have hk : kd = 1 ∨ kd = 2 ∨ kd = 3 := by omega
    have hne : ¬ (B (wordL kd)).toList = ([] : List UInt8) := by rw [toList_L, L_B]; exact (wordL_len kd).2
    by_cases c5 : (kd = 3 ∧ ¬ L w = []) ∨ (kd = 1 ∧ ¬ L t = [])
    · have hj : Ev (fun k => pestleref53_Line.j0 k true kd w t) (lineS kd w t) := by
        refine Ev.step (f := fun _ => _) (fun k => ?_) (Ev.now _)
        unfold lineS
        simp only [pestleref53_Line.j0]
        rw [if_pos trivial, if_neg c0, if_pos c5]
      refine Ev.congr (fun k => ?_) hj
      unfold pestleref53_Line.f
      rw [rword_B kd (by omega) (by omega)]
      simp only [Option.bind_some]
      rw [if_neg hne]
      rcases c5 with c | c
      · rw [if_pos c.1, toList_L, if_neg c.2]
      · rw [if_neg (by omega), if_pos c.1, toList_L]
        have : (L t).isEmpty = false := by
          cases h : L t
          · exact absurd h c.2
          · rfl
        rw [this]
        rfl
    · refine Ev.congr (fun k => ?_) (rline_j0 kd hk w t hw ht c5)
      unfold pestleref53_Line.f
      rw [rword_B kd (by omega) (by omega)]
      simp only [Option.bind_some]
      rw [if_neg hne, toList_L, toList_L]
      by_cases c3 : kd = 3
      · have c4 : L w = [] := Classical.byContradiction (fun h => c5 (.inl ⟨c3, h⟩))
        rw [if_pos c3, if_pos c4, if_neg (by omega)]
      · rw [if_neg c3]
        by_cases c1 : kd = 1
        · have c4 : L t = [] := Classical.byContradiction (fun h => c5 (.inr ⟨c1, h⟩))
          rw [if_pos c1, c4]
          rfl
        · rw [if_neg c1]
end Go.Proofs.Ytdieefjolkhmpaa.LineCall
