/- Any text is the call, or the calls, that the reference says, or both tell why it is none, and where; a text's kind and a kind's word fit. -/
import Derived.Test.YtdieefjolkhmpaaLineRead
namespace Go.Proofs.Ytdieefjolkhmpaa.Pure
open Go.RowKit Go.Proofs.Ytdieefjolkhmpaa.PLi Go.Proofs.YtdieefjolkhmpaaW.PrintWords Go.Proofs.YtdieefjolkhmpaaW.PrintLast Go.Proofs.YtdieefjolkhmpaaW.PrintMore Go.Proofs.Ytdieefjolkhmpaa.Base Go.Proofs.Ytdieefjolkhmpaa.LineParts Go.Proofs.Ytdieefjolkhmpaa.LineRead
attribute [local irreducible] IntKind.wrap bt hexv

/-- The calls of lines, the number of the first that is none, and the error's number. -/
def allA : List (List UInt8) → Nat → List S23 → List S23 × Int × Int
  | [], _, acc => (acc, 0, 0)
  | p :: r, n, acc => if r = [] then (if p = [] then (acc, 0, 0) else ([], (n : Int), 13)) else if (readS (B p)).2.2.2 = 0 then allA r (n + 1) (acc ++ [⟨(readS (B p)).1, (readS (B p)).2.1, (readS (B p)).2.2.1⟩]) else ([], (n : Int), (readS (B p)).2.2.2)

theorem all_l0 (P : List (List UInt8)) (hP : P.length ≤ 1000001) (hs : ∀ p, p ∈ P → p.length ≤ 1000000) : ∀ (r : List (List UInt8)) (i : Nat) (acc : List S23), P.drop i = r → r ≠ [] → i ≤ P.length → acc.length + r.length ≤ 2000000 →
    Ev (fun k => line_All.l0 k acc (P.map B) (P.map B) (P.length : Int) (i : Int)) (allA r i acc) := by
  intro r
  induction r with
  | nil => intro i acc _ h; exact absurd rfl h
  | cons p r ih =>
    intro i acc hr _ hi ha
    have hl : i < P.length := by
      rcases Nat.lt_or_ge i P.length with h1 | h1
      · exact h1
      · rw [List.drop_eq_nil_of_le h1] at hr; cases hr
    have hlen : i + (r.length + 1) = P.length := by
      have := congrArg List.length hr
      rw [List.length_drop, List.length_cons] at this
      omega
    rw [List.drop_eq_getElem_cons hl] at hr
    injection hr with q1 q2
    have hrd : rdOf ByteArray.empty (P.map B) (i : Int) = B p := by
      unfold rdOf
      rw [List.getD_eq_getElem?_getD, Int.toNat_natCast, List.getElem?_map, List.getElem?_eq_getElem hl, q1]
      rfl
    have hsp : (B p).size ≤ 1000000 := by rw [size_B, ← q1]; exact hs _ (List.getElem_mem hl)
    simp only [List.length_cons] at ha
    have e1 := nx (i := i) (by omega)
    have eP : wrap64 ((P.length : Int) - 1) = (P.length : Int) - 1 := w64 (by omega) (by omega)
    by_cases c1 : r = []
    · have c1' : r.length = 0 := by rw [c1]; rfl
      show Ev _ (if r = [] then _ else _)
      rw [if_pos c1]
      by_cases c2 : p = []
      · rw [if_pos c2]
        refine Ev.step (f := fun _ => _) (fun k => ?_) (Ev.now _)
        simp only [line_All.l0, List.length_map]
        rw [if_pos (by omega), if_pos (by omega), if_pos (by omega), eP, if_pos (by omega), hrd, toList_L, L_B, if_pos c2]
      · rw [if_neg c2]
        refine Ev.step (f := fun _ => _) (fun k => ?_) (Ev.now _)
        simp only [line_All.l0, List.length_map]
        rw [if_pos (by omega), if_pos (by omega), if_pos (by omega), eP, if_pos (by omega), hrd, toList_L, L_B, if_neg c2]
    · have c1' : 0 < r.length := List.length_pos_iff.2 c1
      show Ev _ (if r = [] then _ else _)
      rw [if_neg c1]
      refine Ev.step (f := fun k => (line_Read.f k (B p)).bind fun bt207 => (if bt207.2.2.2 = 0 then (line_All.l0 k (acc ++ [(⟨bt207.1, bt207.2.1, bt207.2.2.1⟩ : S23)]) (P.map B) (P.map B) (P.length : Int) ((i + 1 : Nat) : Int)) else (some (([] : List (S23)), (i : Int), bt207.2.2.2)))) (fun k => ?_) ?_
      · have c3 : acc.length < 3518437208883 := by omega
        simp only [line_All.l0, List.length_map]
        rw [if_pos (by omega), if_pos (by omega), if_pos (by omega), eP, if_neg (by omega), hrd, e1.out]
        simp only [if_pos c3]
      · refine Ev.bind (read_f (B p) hsp) ?_
        by_cases c4 : (readS (B p)).2.2.2 = 0
        · rw [if_pos c4]
          refine Ev.congr (fun k => by rw [if_pos c4]) (ih (i + 1) _ q2 c1 (by omega) ?_)
          simp only [List.length_append, List.length_cons, List.length_nil]
          omega
        · rw [if_neg c4]
          exact Ev.congr (f := fun _ => _) (fun k => by rw [if_neg c4]) (Ev.now _)

theorem all_f (s : ByteArray) (hs : s.size ≤ 1000000) : Ev (fun k => line_All.f k s) (allA (splitA 10 [] (L s)) 0 []) := by
  by_cases c : L s = []
  · rw [c]
    refine Ev.congr (f := fun _ => _) (fun k => ?_) (Ev.now _)
    unfold line_All.f
    rw [toList_L, if_pos c]
    rfl
  · refine Ev.congr (f := fun k => (fields_Split.f k s 10).bind fun t203 => (line_All.l0 k ([] : List (S23)) t203 t203 (t203.length : Int) 0)) (fun k => by unfold line_All.f; rw [toList_L, if_neg c]) ?_
    refine Ev.bind (split_f s 10 hs) ?_
    have hlen := splitA_len 10 (L s) []
    rw [L_size] at hlen
    rw [List.length_map]
    refine all_l0 (splitA 10 [] (L s)) (by omega) (fun p hp => ?_) _ 0 [] rfl ?_ (by omega) (by simp only [List.length_nil]; omega)
    · have := splitA_small 10 _ _ p hp
      rw [L_size] at this
      simp only [List.length_nil] at this
      omega
    · intro h
      rw [h] at hlen
      simp at hlen

theorem rall_l0 (s : ByteArray) (hs : s.size ≤ 1000000) : ∀ (r : List UInt8) (i n : Nat) (p : List UInt8) (acc : List S23), (L s).drop i = r → i ≤ s.size → p.length ≤ i → n ≤ i → acc.length ≤ i →
    Ev (fun k => pestleref53_All.l0 k s acc (B p) (n : Int) (i : Int)) (allA (splitA 10 p r) n acc) := by
  intro r
  induction r with
  | nil =>
    intro i n p acc hr hi hp hn ha
    have hz := left_nil hr
    show Ev _ (if ([] : List (List UInt8)) = [] then _ else _)
    rw [if_pos rfl]
    by_cases c2 : p = []
    · rw [if_pos c2]
      refine Ev.step (f := fun _ => _) (fun k => ?_) (Ev.now _)
      simp only [pestleref53_All.l0]
      rw [if_neg (by omega), toList_L, L_B, if_pos c2]
    · rw [if_neg c2]
      refine Ev.step (f := fun _ => _) (fun k => ?_) (Ev.now _)
      simp only [pestleref53_All.l0]
      rw [if_neg (by omega), toList_L, L_B, if_neg c2]
  | cons x r ih =>
    intro i n p acc hr hi hp hn ha
    obtain ⟨h1, h2, h3⟩ := left_cons hr
    have e1 := nx (i := i) (by omega)
    have en := nx (i := n) (by omega)
    have hc10 : ((x.toNat : Int) = 10) ↔ x = 10 := byte_eq x 10
    by_cases hc : x = 10
    · have hne : splitA 10 [] r ≠ [] := by
        intro h
        have := splitA_len 10 r []
        rw [h] at this
        simp at this
      have e : splitA 10 p (x :: r) = p :: splitA 10 [] r := by
        show (if x = 10 then _ else _) = _
        rw [if_pos hc]
      rw [e]
      show Ev _ (if splitA 10 [] r = [] then _ else _)
      rw [if_neg hne]
      refine Ev.step (f := fun k => (pestleref53_Read.f k (B p)).bind fun bt215 => (if bt215.2.2.2 = 0 then (pestleref53_All.l0 k s (acc ++ [(⟨bt215.1, bt215.2.1, bt215.2.2.1⟩ : S23)]) (B []) ((n + 1 : Nat) : Int) ((i + 1 : Nat) : Int)) else (some (([] : List (S23)), (n : Int), bt215.2.2.2)))) (fun k => ?_) ?_
      · have c3 : acc.length < 3518437208883 := by omega
        simp only [pestleref53_All.l0]
        rw [if_pos (by omega), if_pos (by omega), h2.out, if_pos (hc10.2 hc), e1.out, en.out]
        simp only [if_pos c3]
        rfl
      · refine Ev.bind (rread_f (B p) (by rw [size_B]; omega)) ?_
        by_cases c4 : (readS (B p)).2.2.2 = 0
        · rw [if_pos c4]
          refine Ev.congr (fun k => by rw [if_pos c4]) (ih (i + 1) (n + 1) [] _ h3 (by omega) (by simp) (by omega) ?_)
          simp only [List.length_append, List.length_cons, List.length_nil]
          omega
        · rw [if_neg c4]
          exact Ev.congr (f := fun _ => _) (fun k => by rw [if_neg c4]) (Ev.now _)
    · have e : splitA 10 p (x :: r) = splitA 10 (p ++ [x]) r := by
        show (if x = 10 then _ else _) = _
        rw [if_neg hc]
      have ex : s.extract i (i + 1) = B [x] := by
        rw [← L_inj, L_B, L_extract, List.drop_take, hr, show i + 1 - i = 1 by omega]
        rfl
      rw [e]
      have ih' := ih (i + 1) n (p ++ [x]) acc h3 (by omega) (by simp only [List.length_append, List.length_cons, List.length_nil]; omega) (by omega) (by omega)
      refine Ev.step (f := fun k => pestleref53_All.l0 k s acc (B (p ++ [x])) (n : Int) ((i + 1 : Nat) : Int)) (fun k => ?_) ih'
      simp only [pestleref53_All.l0]
      rw [if_pos (by omega), if_pos (by omega), h2.out, if_neg (fun h => hc (hc10.1 h)), e1.out, if_pos (by omega), if_pos (by omega)]
      simp only [Int.toNat_natCast]
      rw [ex, size_B, size_B, if_pos (by simp only [List.length_cons, List.length_nil]; omega), ← B_append]
theorem rall_f (s : ByteArray) (hs : s.size ≤ 1000000) : Ev (fun k => pestleref53_All.f k s) (allA (splitA 10 [] (L s)) 0 []) :=
  rall_l0 s hs (L s) 0 0 [] [] (by simp) (by omega) (by simp) (by omega) (by simp)

theorem allA_len : ∀ (r : List (List UInt8)) (n : Nat) (acc : List S23), (allA r n acc).1.length ≤ acc.length + r.length
  | [], n, acc => by simp [allA]
  | p :: r, n, acc => by
    unfold allA
    split
    · split
      · simp
      · simp
    · split
      · have := allA_len r (n + 1) (acc ++ [⟨(readS (B p)).1, (readS (B p)).2.1, (readS (B p)).2.2.1⟩])
        simp only [List.length_append, List.length_cons, List.length_nil] at *
        omega
      · simp

theorem same_l0 (l : List S23) (hl : l.length ≤ 2000000) : ∀ (d i : Nat), i + d = l.length → Ev (fun k => pestleref53_Same.l0 k l l (i : Int)) true := by
  intro d
  induction d with
  | zero =>
    intro i hi
    exact Ev.step (f := fun _ => _) (fun k => by simp only [pestleref53_Same.l0]; rw [if_neg (by omega)]) (Ev.now _)
  | succ d ih =>
    intro i hi
    have e1 := nx (i := i) (by omega)
    refine Ev.step (fun k => ?_) (ih (i + 1) (by omega))
    simp only [pestleref53_Same.l0]
    rw [if_pos (by omega), if_pos (by omega), if_pos (by omega), if_neg (by simp), e1.out]
theorem same_f (l : List S23) (hl : l.length ≤ 2000000) : Ev (fun k => pestleref53_Same.f k l l) true := by
  refine Ev.congr (fun k => ?_) (same_l0 l hl l.length 0 (by omega))
  unfold pestleref53_Same.f
  rw [if_pos rfl]
  rfl

theorem awake_at : pestlelaw53_awake.f 40 = some true := by decide +kernel
theorem awake_ev : Ev (fun k => pestlelaw53_awake.f k) true := Ev.of (fun k => pestlelaw53_awake.mono k) awake_at

theorem word_kind (s : ByteArray) (h : ¬ kindOf s = 0) : line_Word.f (kindOf s) = some (s, 0) := by
  unfold kindOf at h ⊢
  have key : ∀ l : List UInt8, s.toList = l → s = ⟨l.toArray⟩ := fun l hl => by rw [← L_inj, ← toList_L, hl]; exact (L_B l).symm
  by_cases c1 : s.toList = ([104, 97, 115, 104] : List UInt8)
  · rw [if_pos c1, key _ c1]; rfl
  · rw [if_neg c1] at h ⊢
    by_cases c2 : s.toList = ([118, 101, 114, 105, 102, 121] : List UInt8)
    · rw [if_pos c2, key _ c2]; rfl
    · rw [if_neg c2] at h ⊢
      by_cases c3 : s.toList = ([115, 116, 97, 108, 101] : List UInt8)
      · rw [if_pos c3, key _ c3]; rfl
      · rw [if_neg c3] at h
        exact absurd rfl h

theorem lr_j1 (s : ByteArray) (hs : s.size ≤ 1000000) (e n g : Int) (l : List S23) (hl : l.length ≤ 2000000) (a : Int) (b c : ByteArray) :
    Ev (fun k => pestlelaw53_LineReads.j1 k s e e l n g l n g false a b c a b c) true := by
  refine Ev.step (f := fun k => (pestleref53_Same.f k l l).bind fun t250 => (if t250 = true then (if n = n then (if g = g then ((line_Plain.f k s).bind fun t251 => ((pestleref53_Plain.f k s).bind fun t252 => (some (t251 == t252)))) else (some false)) else (some false)) else (some false))) (fun k => ?_) ?_
  · simp only [pestlelaw53_LineReads.j1]
    rw [if_neg (by simp), if_pos (by simp), if_pos trivial]
  · refine Ev.bind (same_f l hl) ?_
    refine Ev.congr (f := fun k => (line_Plain.f k s).bind fun t251 => ((pestleref53_Plain.f k s).bind fun t252 => (some (t251 == t252)))) (fun k => by rw [if_pos rfl, if_pos rfl, if_pos rfl]) ?_
    refine Ev.bind (plain_f s hs) (Ev.bind (rplain_f s hs) ?_)
    exact Ev.congr (f := fun _ => _) (fun k => by rw [beq_self_eq_true]) (Ev.now _)

theorem lr_j0 (s t : ByteArray) (hs : s.size ≤ 1000) (ht : t.size ≤ 1000) : Ev (fun k => pestlelaw53_LineReads.j0 k s t false) true := by
  have hl : (allA (splitA 10 [] (L t)) 0 []).1.length ≤ 2000000 := by
    have h1 := allA_len (splitA 10 [] (L t)) 0 []
    have h2 := splitA_len 10 (L t) []
    rw [L_size] at h2
    simp only [List.length_nil] at h1
    omega
  have r1 := read_f s (by omega)
  have r2 := rread_f s (by omega)
  have a1 := all_f t (by omega)
  have a2 := rall_f t (by omega)
  have kf := kind_f s
  have j1 := fun a b c e n g => lr_j1 s (by omega) e n g (allA (splitA 10 [] (L t)) 0 []).1 hl a b c
  generalize readS s = x at *
  generalize allA (splitA 10 [] (L t)) 0 [] = y at *
  refine Ev.step (fun k => by simp only [pestlelaw53_LineReads.j0]; rw [if_neg (by simp)]) ?_
  refine Ev.bind r1 (Ev.bind r2 (Ev.bind a1 (Ev.bind a2 ?_)))
  by_cases c : kindOf s = 0
  · have hw : line_Word.f (kindOf s) = some (⟨#[]⟩, 1) := by rw [c]; rfl
    refine Ev.congr (fun k => by rw [kf]; simp only [Option.bind_some]; rw [hw]; simp only [Option.bind_some, if_pos c]; rw [if_neg (by omega), if_pos trivial]; rfl) (j1 x.1 x.2.1 x.2.2.1 x.2.2.2 y.2.1 y.2.2)
  · have hw := word_kind s c
    refine Ev.congr (fun k => by rw [kf]; simp only [Option.bind_some]; rw [hw]; simp only [Option.bind_some, if_neg c]; rw [if_pos trivial, if_pos trivial, if_pos trivial]) (j1 x.1 x.2.1 x.2.2.1 x.2.2.2 y.2.1 y.2.2)

theorem LineReads : pestlelaw53_LineReads.Pure := by
  intro s t _ _
  refine Ev.rounds ?_
  refine Ev.bind awake_ev ?_
  have long : Ev (fun k => pestlelaw53_LineReads.j0 k s t true) true :=
    Ev.step (f := fun _ => _) (fun k => by simp only [pestlelaw53_LineReads.j0]; rw [if_pos trivial]) (Ev.now _)
  by_cases c1 : (s.size : Int) > 1000
  · exact Ev.congr (fun k => by rw [if_pos rfl, if_pos c1]) long
  · by_cases c2 : (t.size : Int) > 1000
    · exact Ev.congr (fun k => by rw [if_pos rfl, if_neg c1, decide_eq_true c2]) long
    · exact Ev.congr (fun k => by rw [if_pos rfl, if_neg c1, decide_eq_false c2]) (lr_j0 s t (by omega) (by omega))
end Go.Proofs.Ytdieefjolkhmpaa.Pure
