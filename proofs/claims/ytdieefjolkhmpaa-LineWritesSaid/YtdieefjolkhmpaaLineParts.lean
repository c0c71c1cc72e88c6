/- The parts of a text, and digits of bytes: what the program's and the reference's functions come to, as lists of bytes. -/
import Derived.Test.YtdieefjolkhmpaaPLix
import Derived.Test.YtdieefjolkhmpaaBase
namespace Go.Proofs.Ytdieefjolkhmpaa.LineParts
open Go.RowKit Go.Proofs.Ytdieefjolkhmpaa.PLi Go.Proofs.YtdieefjolkhmpaaW.PrintWords Go.Proofs.YtdieefjolkhmpaaW.PrintLast Go.Proofs.YtdieefjolkhmpaaW.PrintMore Go.Proofs.Ytdieefjolkhmpaa.Base
attribute [local irreducible] IntKind.wrap bt

/-- The parts of bytes between a byte, with what is held of the first. -/
def splitA (c : UInt8) : List UInt8 → List UInt8 → List (List UInt8)
  | p, [] => [p]
  | p, x :: r => if x = c then p :: splitA c [] r else splitA c (p ++ [x]) r
theorem splitA_len (c : UInt8) : ∀ (r p : List UInt8), 0 < (splitA c p r).length ∧ (splitA c p r).length ≤ r.length + 1
  | [], p => by simp [splitA]
  | x :: r, p => by
    unfold splitA
    split
    · have := splitA_len c r []
      simp only [List.length_cons]
      omega
    · have := splitA_len c r (p ++ [x])
      simp only [List.length_cons]
      omega

theorem byte_eq (x c : UInt8) : ((x.toNat : Int) = (c.toNat : Int)) ↔ x = c := by
  constructor
  · intro h
    exact UInt8.toNat_inj.1 (by omega)
  · intro h
    rw [h]

theorem split_l0 (s : ByteArray) (c : UInt8) (hs : s.size ≤ 1000000) : ∀ (r : List UInt8) (i fr : Nat) (acc : List ByteArray), (L s).drop i = r → fr ≤ i → i ≤ s.size → acc.length + r.length ≤ 2000000 →
    Ev (fun k => fields_Split.l0 k s (c.toNat : Int) acc (fr : Int) (s.size : Int) (i : Int)) (acc ++ (splitA c (((L s).take i).drop fr) r).map B) := by
  intro r
  induction r with
  | nil =>
    intro i fr acc hr hf hi ha
    have hn := left_nil hr
    obtain rfl : i = s.size := by omega
    refine Ev.step (f := fun _ => _) (fun k => ?_) (Ev.now _)
    simp only [fields_Split.l0]
    simp only [List.length_nil] at ha
    rw [if_neg (by omega), if_pos (by omega), if_pos (by omega), if_pos (by omega)]
    simp only [splitA, List.map_cons, List.map_nil, Int.toNat_natCast]
    rw [← L_extract, B_L]
  | cons x r ih =>
    intro i fr acc hr hf hi ha
    obtain ⟨h1, h2, h3⟩ := left_cons hr
    simp only [List.length_cons] at ha
    have e1 := nx (i := i) (by omega)
    by_cases hc : x = c
    · have := ih (i + 1) (i + 1) (acc ++ [s.extract fr i]) h3 (by omega) (by omega) (by simp only [List.length_append, List.length_cons, List.length_nil]; omega)
      refine Ev.step (f := fun k => fields_Split.l0 k s (c.toNat : Int) (acc ++ [s.extract fr i]) ((i + 1 : Nat) : Int) (s.size : Int) ((i + 1 : Nat) : Int)) (fun k => ?_) ?_
      · simp only [fields_Split.l0]
        rw [if_pos (by omega), if_pos (by omega), if_pos (by omega), h2.out, if_pos ((byte_eq x c).2 hc), if_pos (by omega), if_pos (by omega), if_pos (by omega), if_pos (by omega), e1.out]
        simp only [Int.toNat_natCast]
      · have e : acc ++ (splitA c (((L s).take i).drop fr) (x :: r)).map B = acc ++ [s.extract fr i] ++ (splitA c (((L s).take (i + 1)).drop (i + 1)) r).map B := by
          have e2 : ((L s).take (i + 1)).drop (i + 1) = [] := by rw [List.drop_eq_nil_iff, List.length_take]; omega
          rw [e2]
          simp only [splitA]
          rw [if_pos hc, ← L_extract]
          simp
        rw [e]
        exact this
    · have := ih (i + 1) fr acc h3 (by omega) (by omega) (by omega)
      refine Ev.step (f := fun k => fields_Split.l0 k s (c.toNat : Int) acc (fr : Int) (s.size : Int) ((i + 1 : Nat) : Int)) (fun k => ?_) ?_
      · simp only [fields_Split.l0]
        rw [if_pos (by omega), if_pos (by omega), if_pos (by omega), h2.out, if_neg (fun h => hc ((byte_eq x c).1 h)), e1.out]
      · have e : splitA c (((L s).take i).drop fr) (x :: r) = splitA c (((L s).take (i + 1)).drop fr) r := by
          have hl : i < (L s).length := by rw [L_size]; exact h1
          have e2 : (L s).take (i + 1) = (L s).take i ++ [x] := by
            rw [List.take_succ_eq_append_getElem hl]
            rw [List.drop_eq_getElem_cons hl] at hr
            injection hr with q1 _
            rw [q1]
          rw [e2, List.drop_append_of_le_length (by rw [List.length_take]; omega)]
          show (if x = c then _ else _) = _
          rw [if_neg hc]
        rw [e]
        exact this

theorem split_f (s : ByteArray) (c : UInt8) (hs : s.size ≤ 1000000) : Ev (fun k => fields_Split.f k s (c.toNat : Int)) ((splitA c [] (L s)).map B) := by
  have h := split_l0 s c hs (L s) 0 0 [] (by simp) (by omega) (by omega) (by rw [L_size]; simp only [List.length_nil]; omega)
  simp only [List.take_zero, List.drop_nil, List.nil_append] at h
  exact h

theorem rsplit_l0 (s : ByteArray) (c : UInt8) (hs : s.size ≤ 1000000) : ∀ (r : List UInt8) (i : Nat) (p : List UInt8) (acc : List ByteArray), (L s).drop i = r → i ≤ s.size → acc.length + r.length ≤ 2000000 → p.length ≤ i →
    Ev (fun k => pestleref41_Split.l0 k s (c.toNat : Int) acc (B p) (i : Int)) (acc ++ (splitA c p r).map B) := by
  intro r
  induction r with
  | nil =>
    intro i p acc hr hi ha hp
    have hn := left_nil hr
    obtain rfl : i = s.size := by omega
    refine Ev.step (f := fun _ => _) (fun k => ?_) (Ev.now _)
    simp only [pestleref41_Split.l0]
    simp only [List.length_nil] at ha
    rw [if_neg (by omega), if_pos (by omega)]
    simp only [splitA, List.map_cons, List.map_nil]
  | cons x r ih =>
    intro i p acc hr hi ha hp
    obtain ⟨h1, h2, h3⟩ := left_cons hr
    simp only [List.length_cons] at ha
    have e1 := nx (i := i) (by omega)
    have ex : s.extract i (i + 1) = B [x] := by
      rw [← L_inj, L_B, L_extract, List.drop_take]
      rw [hr, show i + 1 - i = 1 by omega]
      rfl
    by_cases hc : x = c
    · have := ih (i + 1) [] (acc ++ [B p]) h3 (by omega) (by simp only [List.length_append, List.length_cons, List.length_nil]; omega) (by simp)
      refine Ev.step (f := fun k => pestleref41_Split.l0 k s (c.toNat : Int) (acc ++ [B p]) (B []) ((i + 1 : Nat) : Int)) (fun k => ?_) ?_
      · simp only [pestleref41_Split.l0]
        rw [if_pos (by omega), if_pos (by omega), h2.out, if_pos ((byte_eq x c).2 hc), if_pos (by omega), e1.out]
        rfl
      · have e : acc ++ (splitA c p (x :: r)).map B = acc ++ [B p] ++ (splitA c [] r).map B := by
          simp only [splitA]
          rw [if_pos hc]
          simp
        rw [e]
        exact this
    · have := ih (i + 1) (p ++ [x]) acc h3 (by omega) (by omega) (by simp only [List.length_append, List.length_cons, List.length_nil]; omega)
      refine Ev.step (f := fun k => pestleref41_Split.l0 k s (c.toNat : Int) acc (B (p ++ [x])) ((i + 1 : Nat) : Int)) (fun k => ?_) ?_
      · simp only [pestleref41_Split.l0]
        rw [if_pos (by omega), if_pos (by omega), h2.out, if_neg (fun h => hc ((byte_eq x c).1 h)), e1.out, if_pos (by omega), if_pos (by omega)]
        simp only [Int.toNat_natCast]
        rw [ex, size_B, size_B, if_pos (by simp only [List.length_cons, List.length_nil]; omega), ← B_append]
      · have e : splitA c p (x :: r) = splitA c (p ++ [x]) r := by
          show (if x = c then _ else _) = _
          rw [if_neg hc]
        rw [e]
        exact this

theorem rsplit_f (s : ByteArray) (c : UInt8) (hs : s.size ≤ 1000000) : Ev (fun k => pestleref41_Split.f k s (c.toNat : Int)) ((splitA c [] (L s)).map B) := by
  have h := rsplit_l0 s c hs (L s) 0 [] [] (by simp) (by omega) (by rw [L_size]; simp only [List.length_nil]; omega) (by simp)
  exact h

/-! ### digits -/
/-- A digit's value; below 0: it is none. -/
def hexv (x : UInt8) : Int := if 48 ≤ x.toNat ∧ x.toNat ≤ 57 then (x.toNat : Int) - 48 else if 97 ≤ x.toNat ∧ x.toNat ≤ 102 then (x.toNat : Int) - 87 else -1
theorem digit_all : ∀ n : Nat, n < 256 → hexes_digit.f 2 (n : Int) = some (hexv (UInt8.ofNat n)) := by decide +kernel
theorem digit_f (x : UInt8) : Ev (fun k => hexes_digit.f k (x.toNat : Int)) (hexv x) := by
  have h := digit_all x.toNat x.toNat_lt
  rw [UInt8.ofNat_toNat] at h
  exact Ev.of (fun k => hexes_digit.mono _ k) h
theorem rvalue_all : ∀ n : Nat, n < 256 → pestleref14_value.f 20 (n : Int) = some (hexv (UInt8.ofNat n)) := by decide +kernel
theorem rvalue_f (x : UInt8) : Ev (fun k => pestleref14_value.f k (x.toNat : Int)) (hexv x) := by
  have h := rvalue_all x.toNat x.toNat_lt
  rw [UInt8.ofNat_toNat] at h
  exact Ev.of (fun k => pestleref14_value.mono _ k) h
theorem hexv_le (x : UInt8) : -1 ≤ hexv x ∧ hexv x ≤ 15 := by
  unfold hexv
  split
  · omega
  · split
    · omega
    · omega

attribute [local irreducible] hexv
/-- Digits two by two, as bytes. -/
def pairsOf : List UInt8 → List UInt8
  | a :: b :: r => UInt8.ofNat (16 * (hexv a).toNat + (hexv b).toNat) :: pairsOf r
  | _ => []
/-- What digits are: bytes, and the error's number. -/
def unhex (l : List UInt8) : List UInt8 × Int := if l.all (fun x => decide (0 ≤ hexv x)) then (if l.length % 2 = 0 then (pairsOf l, 0) else ([], 9)) else ([], 8)

theorem pair_num (a b : UInt8) (ha : 0 ≤ hexv a) (hb : 0 ≤ hexv b) : (wrap64 (wrap64 (16 * hexv a) + hexv b)) % 256 = ((UInt8.ofNat (16 * (hexv a).toNat + (hexv b).toNat)).toNat : Int) := by
  have h1 := hexv_le a
  have h2 := hexv_le b
  rw [w64 (n := 16 * hexv a) (by omega) (by omega), w64 (by omega) (by omega), ← byte_of _ (by omega)]
  omega

/-- The second loop of the reference. -/
theorem rdec_l1 (s : ByteArray) (hs : s.size ≤ 1000000) : ∀ (n : Nat) (r : List UInt8) (i : Nat) (acc : List UInt8), r.length = 2 * n → (L s).drop i = r → i ≤ s.size → (∀ x, x ∈ r → 0 ≤ hexv x) → acc.length + r.length ≤ 2000000 →
    Ev (fun k => pestleref14_Decode.l1 k s (acc.map fun b : UInt8 => (b.toNat : Int)) (i : Int)) (B (acc ++ pairsOf r), 0) := by
  intro n
  induction n with
  | zero =>
    intro r i acc hn hr hi hx ha
    obtain rfl := List.eq_nil_of_length_eq_zero (by omega : r.length = 0)
    have := left_nil hr
    refine Ev.step (f := fun _ => _) (fun k => ?_) (Ev.now _)
    simp only [pestleref14_Decode.l1]
    rw [if_neg (by omega), nums_B]
    simp [pairsOf]
  | succ n ih =>
    intro r i acc hn hr hi hx ha
    match r, hn, hr, hx, ha with
    | a :: b :: r, hn, hr, hx, ha =>
      obtain ⟨h1, h2, h3⟩ := left_cons hr
      obtain ⟨g1, g2, g3⟩ := left_cons h3
      simp only [List.length_cons] at hn ha
      have ih' := ih r (i + 2) (acc ++ [UInt8.ofNat (16 * (hexv a).toNat + (hexv b).toNat)]) (by omega) g3 (by omega) (fun x h => hx x (by simp [h])) (by simp only [List.length_append, List.length_cons, List.length_nil]; omega)
      have e1 := nx (i := i) (by omega)
      have e2 := nx2 (i := i) (by omega)
      have ea := hx a (by simp)
      have eb := hx b (by simp)
      refine Ev.step (f := fun k => (pestleref14_value.f k (a.toNat : Int)).bind fun t => (pestleref14_value.f k (b.toNat : Int)).bind fun u => pestleref14_Decode.l1 k s ((acc.map fun b : UInt8 => (b.toNat : Int)) ++ [(wrap64 (wrap64 (16 * t) + u)) % 256]) ((i + 2 : Nat) : Int)) (fun k => ?_) ?_
      · simp only [pestleref14_Decode.l1]
        have c1 : (0 : Int) ≤ ((i + 1 : Nat) : Int) := by omega
        have c2 : ((i + 1 : Nat) : Int) < (s.size : Int) := by omega
        have c3 : (acc.map fun b : UInt8 => (b.toNat : Int)).length < 140737488355328 := by rw [List.length_map]; omega
        rw [if_pos (by omega), if_pos (by omega), h2.out, e1.out, g2.out]
        simp only [if_pos c1, if_pos c2, if_pos c3, e2.out]
      · refine Ev.bind (rvalue_f a) (Ev.bind (rvalue_f b) ?_)
        rw [pair_num a b ea eb]
        have e3 : (acc.map fun b : UInt8 => (b.toNat : Int)) ++ [((UInt8.ofNat (16 * (hexv a).toNat + (hexv b).toNat)).toNat : Int)] = (acc ++ [UInt8.ofNat (16 * (hexv a).toNat + (hexv b).toNat)]).map fun b : UInt8 => (b.toNat : Int) := by simp
        rw [e3]
        have e4 : acc ++ pairsOf (a :: b :: r) = acc ++ [UInt8.ofNat (16 * (hexv a).toNat + (hexv b).toNat)] ++ pairsOf r := by simp [pairsOf]
        rw [e4]
        exact ih'

theorem rdec_l0 (s : ByteArray) (hs : s.size ≤ 1000000) : ∀ (r : List UInt8) (i : Nat), (L s).drop i = r → i ≤ s.size → (∀ x, x ∈ (L s).take i → 0 ≤ hexv x) →
    Ev (fun k => pestleref14_Decode.l0 k s (i : Int)) (B (unhex (L s)).1, (unhex (L s)).2) := by
  intro r
  induction r with
  | nil =>
    intro i hr hi hx
    have hn := left_nil hr
    obtain rfl : i = s.size := by omega
    rw [List.take_of_length_le (by rw [L_size]; exact Nat.le_refl _)] at hx
    have hall : (L s).all (fun x => decide (0 ≤ hexv x)) = true := by rw [List.all_eq_true]; intro x h; exact decide_eq_true (hx x h)
    unfold unhex
    rw [if_pos hall, L_size]
    by_cases c : s.size % 2 = 0
    · rw [if_pos c]
      have h := rdec_l1 s hs (s.size / 2) (L s) 0 [] (by rw [L_size]; omega) (by simp) (by omega) hx (by rw [L_size]; simp only [List.length_nil]; omega)
      refine Ev.step (f := fun k => pestleref14_Decode.l1 k s ([] : List Int) 0) (fun k => ?_) ?_
      · simp only [pestleref14_Decode.l0]
        rw [if_neg (by omega), if_neg (by omega)]
      · exact h
    · rw [if_neg c]
      refine Ev.step (f := fun _ => _) (fun k => ?_) (Ev.now _)
      simp only [pestleref14_Decode.l0]
      rw [if_neg (by omega), if_pos (by omega)]
      rfl
  | cons x r ih =>
    intro i hr hi hx
    obtain ⟨h1, h2, h3⟩ := left_cons hr
    have e1 := nx (i := i) (by omega)
    refine Ev.step (f := fun k => (pestleref14_value.f k (x.toNat : Int)).bind fun t => if t < 0 then some ((⟨#[]⟩ : ByteArray), 8) else pestleref14_Decode.l0 k s ((i + 1 : Nat) : Int)) (fun k => ?_) ?_
    · simp only [pestleref14_Decode.l0]
      rw [if_pos (by omega), if_pos (by omega), h2.out, e1.out]
    · refine Ev.bind (rvalue_f x) ?_
      by_cases c : hexv x < 0
      · have hall : ¬ (L s).all (fun x => decide (0 ≤ hexv x)) = true := by
          rw [List.all_eq_true]
          intro h
          have hm : x ∈ L s := List.mem_of_mem_drop (i := i) (by rw [hr]; simp)
          have := of_decide_eq_true (h x hm)
          omega
        refine Ev.congr (f := fun _ => _) (fun k => ?_) (Ev.now _)
        rw [if_pos c]
        unfold unhex
        rw [if_neg hall]
        rfl
      · refine Ev.congr (f := fun k => pestleref14_Decode.l0 k s ((i + 1 : Nat) : Int)) (fun k => by rw [if_neg c]) ?_
        refine ih (i + 1) h3 (by omega) (fun y hy => ?_)
        have hl : i < (L s).length := by rw [L_size]; exact h1
        rw [List.take_succ_eq_append_getElem hl, List.mem_append] at hy
        rcases hy with hy | hy
        · exact hx y hy
        · rw [List.drop_eq_getElem_cons hl] at hr
          injection hr with q1 _
          rw [q1, List.mem_singleton] at hy
          rw [hy]
          omega
theorem rdec_f (s : ByteArray) (hs : s.size ≤ 1000000) : Ev (fun k => pestleref14_Decode.f k s) (B (unhex (L s)).1, (unhex (L s)).2) :=
  rdec_l0 s hs (L s) 0 (by simp) (by omega) (by simp)

/-- The second loop of the program: the bytes are laid into what was made. -/
theorem dec_l1 (s : ByteArray) (hs : s.size ≤ 1000000) : ∀ (n : Nat) (r : List UInt8) (i : Nat) (acc : List UInt8), r.length = 2 * n → (L s).drop (2 * i) = r → 2 * i + 2 * n = s.size → acc.length = i → (∀ x, x ∈ r → 0 ≤ hexv x) →
    Ev (fun k => hexes_Decode.l1 k s ((acc.map fun b : UInt8 => (b.toNat : Int)) ++ List.replicate n 0) ((i + n : Nat) : Int) (i : Int)) (B (acc ++ pairsOf r), 0) := by
  intro n
  induction n with
  | zero =>
    intro r i acc hn hr hi ha hx
    obtain rfl := List.eq_nil_of_length_eq_zero (by omega : r.length = 0)
    refine Ev.step (f := fun _ => _) (fun k => ?_) (Ev.now _)
    simp only [hexes_Decode.l1]
    rw [if_neg (by omega)]
    simp only [List.replicate_zero, List.append_nil, nums_B, pairsOf]
  | succ n ih =>
    intro r i acc hn hr hi ha hx
    match r, hn, hr, hx with
    | a :: b :: r, hn, hr, hx =>
      obtain ⟨h1, h2, h3⟩ := left_cons hr
      obtain ⟨g1, g2, g3⟩ := left_cons h3
      simp only [List.length_cons] at hn
      have ih' := ih r (i + 1) (acc ++ [UInt8.ofNat (16 * (hexv a).toNat + (hexv b).toNat)]) (by omega) (by rw [← g3]; rfl) (by omega) (by simp only [List.length_append, List.length_cons, List.length_nil]; omega) (fun x h => hx x (by simp [h]))
      have e0 := tw (i := i) (by omega)
      have e1 := nx (i := 2 * i) (by omega)
      have e2 := nx (i := i) (by omega)
      have ea := hx a (by simp)
      have eb := hx b (by simp)
      have hlen : ((acc.map fun b : UInt8 => (b.toNat : Int)) ++ List.replicate (n + 1) 0).length = i + n + 1 := by simp; omega
      refine Ev.step (f := fun k => (hexes_digit.f k (a.toNat : Int)).bind fun t => (hexes_digit.f k (b.toNat : Int)).bind fun u => hexes_Decode.l1 k s (((acc.map fun b : UInt8 => (b.toNat : Int)) ++ List.replicate (n + 1) 0).set i ((wrap64 (wrap64 (16 * t) + u)) % 256)) ((i + (n + 1) : Nat) : Int) ((i + 1 : Nat) : Int)) (fun k => ?_) ?_
      · simp only [hexes_Decode.l1]
        have c1 : (0 : Int) ≤ ((2 * i + 1 : Nat) : Int) := by omega
        have c2 : ((2 * i + 1 : Nat) : Int) < (s.size : Int) := by omega
        have c3 : (0 : Int) ≤ (i : Int) := by omega
        have c4 : (i : Int) < (((acc.map fun b : UInt8 => (b.toNat : Int)) ++ List.replicate (n + 1) 0).length : Int) := by rw [hlen]; omega
        rw [if_pos (by omega), e0.out, if_pos (by omega), if_pos (by omega), h2.out, e1.out, g2.out]
        simp only [if_pos c1, if_pos c2, if_pos c3, if_pos c4, e2.out, Int.toNat_natCast]
      · refine Ev.bind (digit_f a) (Ev.bind (digit_f b) ?_)
        rw [pair_num a b ea eb]
        have e3 : ((acc.map fun b : UInt8 => (b.toNat : Int)) ++ List.replicate (n + 1) 0).set i ((UInt8.ofNat (16 * (hexv a).toNat + (hexv b).toNat)).toNat : Int) = ((acc ++ [UInt8.ofNat (16 * (hexv a).toNat + (hexv b).toNat)]).map fun b : UInt8 => (b.toNat : Int)) ++ List.replicate n 0 := by
          rw [List.set_append_right _ _ (by rw [List.length_map]; omega), List.length_map, ha, Nat.sub_self, List.replicate_succ]
          simp
        rw [e3, show i + (n + 1) = i + 1 + n by omega]
        have e4 : acc ++ pairsOf (a :: b :: r) = acc ++ [UInt8.ofNat (16 * (hexv a).toNat + (hexv b).toNat)] ++ pairsOf r := by simp [pairsOf]
        rw [e4]
        exact ih'

theorem dec_l0 (s : ByteArray) (hs : s.size ≤ 1000000) : ∀ (r : List UInt8) (i : Nat), (L s).drop i = r → i ≤ s.size → (∀ x, x ∈ (L s).take i → 0 ≤ hexv x) →
    Ev (fun k => hexes_Decode.l0 k s (s.size : Int) (i : Int)) (B (unhex (L s)).1, (unhex (L s)).2) := by
  intro r
  induction r with
  | nil =>
    intro i hr hi hx
    have hn := left_nil hr
    obtain rfl : i = s.size := by omega
    rw [List.take_of_length_le (by rw [L_size]; exact Nat.le_refl _)] at hx
    have hall : (L s).all (fun x => decide (0 ≤ hexv x)) = true := by rw [List.all_eq_true]; intro x h; exact decide_eq_true (hx x h)
    unfold unhex
    rw [if_pos hall, L_size]
    by_cases c : s.size % 2 = 0
    · rw [if_pos c]
      have h := dec_l1 s hs (s.size / 2) (L s) 0 [] (by rw [L_size]; omega) (by simp) (by omega) rfl hx
      have e0 : wrap64 ((s.size : Int) / 2) = ((s.size / 2 : Nat) : Int) := by rw [w64 (by omega) (by omega)]; omega
      refine Ev.step (f := fun k => hexes_Decode.l1 k s (List.replicate (s.size / 2) 0) ((s.size / 2 : Nat) : Int) 0) (fun k => ?_) ?_
      · simp only [hexes_Decode.l0]
        rw [if_neg (by omega), if_pos (by omega), e0, if_pos (by omega), if_pos (by omega)]
        simp only [Option.bind_some, Int.toNat_natCast, List.length_replicate]
      · simp only [List.map_nil, List.nil_append, Nat.zero_add] at h
        exact h
    · rw [if_neg c]
      refine Ev.step (f := fun _ => _) (fun k => ?_) (Ev.now _)
      simp only [hexes_Decode.l0]
      rw [if_neg (by omega), if_neg (by omega)]
      rfl
  | cons x r ih =>
    intro i hr hi hx
    obtain ⟨h1, h2, h3⟩ := left_cons hr
    have e1 := nx (i := i) (by omega)
    refine Ev.step (f := fun k => (hexes_digit.f k (x.toNat : Int)).bind fun t => if t < 0 then some ((⟨#[]⟩ : ByteArray), 8) else hexes_Decode.l0 k s (s.size : Int) ((i + 1 : Nat) : Int)) (fun k => ?_) ?_
    · simp only [hexes_Decode.l0]
      rw [if_pos (by omega), if_pos (by omega), if_pos (by omega), h2.out, e1.out]
    · refine Ev.bind (digit_f x) ?_
      by_cases c : hexv x < 0
      · have hall : ¬ (L s).all (fun x => decide (0 ≤ hexv x)) = true := by
          rw [List.all_eq_true]
          intro h
          have hm : x ∈ L s := List.mem_of_mem_drop (i := i) (by rw [hr]; simp)
          have := of_decide_eq_true (h x hm)
          omega
        refine Ev.congr (f := fun _ => _) (fun k => ?_) (Ev.now _)
        rw [if_pos c]
        unfold unhex
        rw [if_neg hall]
        rfl
      · refine Ev.congr (f := fun k => hexes_Decode.l0 k s (s.size : Int) ((i + 1 : Nat) : Int)) (fun k => by rw [if_neg c]) ?_
        refine ih (i + 1) h3 (by omega) (fun y hy => ?_)
        have hl : i < (L s).length := by rw [L_size]; exact h1
        rw [List.take_succ_eq_append_getElem hl, List.mem_append] at hy
        rcases hy with hy | hy
        · exact hx y hy
        · rw [List.drop_eq_getElem_cons hl] at hr
          injection hr with q1 _
          rw [q1, List.mem_singleton] at hy
          rw [hy]
          omega
theorem dec_f (s : ByteArray) (hs : s.size ≤ 1000000) : Ev (fun k => hexes_Decode.f k s) (B (unhex (L s)).1, (unhex (L s)).2) :=
  dec_l0 s hs (L s) 0 (by simp) (by omega) (by simp)

/-- What is told of digits behind a dash or none. -/
def undash (s : ByteArray) : ByteArray × Int := if L s = [45] then (⟨#[]⟩, 0) else if L s = [] then (⟨#[]⟩, 5) else (B (unhex (L s)).1, (unhex (L s)).2)
theorem undash_f (s : ByteArray) (hs : s.size ≤ 1000000) : Ev (fun k => hexes_Undash.f k s) (undash s) := by
  unfold undash
  by_cases c1 : L s = [45]
  · rw [if_pos c1]
    exact Ev.congr (f := fun _ => _) (fun k => by unfold hexes_Undash.f; rw [toList_L, if_pos c1]) (Ev.now _)
  · rw [if_neg c1]
    by_cases c2 : L s = []
    · rw [if_pos c2]
      exact Ev.congr (f := fun _ => _) (fun k => by unfold hexes_Undash.f; rw [toList_L, if_neg c1, if_pos c2]) (Ev.now _)
    · rw [if_neg c2]
      refine Ev.congr (f := fun k => (hexes_Decode.f k s).bind fun b => some (b.1, b.2)) (fun k => by unfold hexes_Undash.f; rw [toList_L, if_neg c1, if_neg c2]) ?_
      exact Ev.bind (f := fun _ b => some (b.1, b.2)) (dec_f s hs) (Ev.now _)
theorem rundash_f (s : ByteArray) (hs : s.size ≤ 1000000) : Ev (fun k => pestleref14_Undash.f k s) (undash s) := by
  unfold undash
  by_cases c2 : L s = []
  · rw [if_neg (by rw [c2]; simp), if_pos c2]
    exact Ev.congr (f := fun _ => _) (fun k => by unfold pestleref14_Undash.f; rw [toList_L, if_pos c2]) (Ev.now _)
  · by_cases c1 : L s = [45]
    · rw [if_pos c1]
      exact Ev.congr (f := fun _ => _) (fun k => by unfold pestleref14_Undash.f; rw [toList_L, if_neg c2, if_pos c1]) (Ev.now _)
    · rw [if_neg c1, if_neg c2]
      refine Ev.congr (f := fun k => (pestleref14_Decode.f k s).bind fun b => some (b.1, b.2)) (fun k => by unfold pestleref14_Undash.f; rw [toList_L, if_neg c2, if_neg c1]) ?_
      exact Ev.bind (f := fun _ b => some (b.1, b.2)) (rdec_f s hs) (Ev.now _)

/-- May bytes stand in a line? -/
def plainB (l : List UInt8) : Bool := l.all (fun x => decide (33 ≤ x.toNat ∧ x.toNat ≤ 126)) && !l.isEmpty
theorem plain_l0 (s : ByteArray) (hs : s.size ≤ 1000000) : ∀ (r : List UInt8) (i : Nat), (L s).drop i = r → i ≤ s.size →
    Ev (fun k => line_Plain.l0 k s (s.size : Int) (i : Int)) (r.all (fun x => decide (33 ≤ x.toNat ∧ x.toNat ≤ 126)) && !(L s).isEmpty) ∧
    Ev (fun k => pestleref53_Plain.l0 k s (i : Int)) (r.all (fun x => decide (33 ≤ x.toNat ∧ x.toNat ≤ 126)) && !(L s).isEmpty) := by
  intro r
  induction r with
  | nil =>
    intro i hr hi
    have hn := left_nil hr
    obtain rfl : i = s.size := by omega
    constructor
    · refine Ev.step (f := fun _ => _) (fun k => ?_) (Ev.now _)
      simp only [line_Plain.l0]
      rw [if_neg (by omega), toList_L]
      simp
    · refine Ev.step (f := fun _ => _) (fun k => ?_) (Ev.now _)
      simp only [pestleref53_Plain.l0]
      rw [if_neg (by omega), ← L_size]
      cases L s
      · rfl
      · simp
  | cons x r ih =>
    intro i hr hi
    obtain ⟨h1, h2, h3⟩ := left_cons hr
    have e1 := nx (i := i) (by omega)
    obtain ⟨ih1, ih2⟩ := ih (i + 1) h3 (by omega)
    by_cases c : 33 ≤ x.toNat ∧ x.toNat ≤ 126
    · have e : (x :: r).all (fun x => decide (33 ≤ x.toNat ∧ x.toNat ≤ 126)) = r.all (fun x => decide (33 ≤ x.toNat ∧ x.toNat ≤ 126)) := by
        rw [List.all_cons, decide_eq_true c, Bool.true_and]
      rw [e]
      constructor
      · refine Ev.step (f := fun k => line_Plain.l0 k s (s.size : Int) ((i + 1 : Nat) : Int)) (fun k => ?_) ih1
        simp only [line_Plain.l0]
        rw [if_pos (by omega), if_pos (by omega), if_pos (by omega), h2.out, if_neg (by omega), if_neg (by omega), e1.out]
      · refine Ev.step (f := fun k => pestleref53_Plain.l0 k s ((i + 1 : Nat) : Int)) (fun k => ?_) ih2
        simp only [pestleref53_Plain.l0]
        rw [if_pos (by omega), if_pos (by omega), h2.out, if_neg (by omega), if_neg (by omega), e1.out]
    · have e : (x :: r).all (fun x => decide (33 ≤ x.toNat ∧ x.toNat ≤ 126)) = false := by
        rw [List.all_cons, decide_eq_false c, Bool.false_and]
      rw [e, Bool.false_and]
      constructor
      · refine Ev.step (f := fun _ => _) (fun k => ?_) (Ev.now _)
        simp only [line_Plain.l0]
        rw [if_pos (by omega), if_pos (by omega), if_pos (by omega), h2.out]
        by_cases c1 : x.toNat < 33
        · rw [if_pos (by omega)]
        · rw [if_neg (by omega), if_pos (by omega)]
      · refine Ev.step (f := fun _ => _) (fun k => ?_) (Ev.now _)
        simp only [pestleref53_Plain.l0]
        rw [if_pos (by omega), if_pos (by omega), h2.out]
        by_cases c1 : x.toNat < 33
        · rw [if_pos (by omega)]
        · rw [if_neg (by omega), if_pos (by omega)]
theorem plain_f (s : ByteArray) (hs : s.size ≤ 1000000) : Ev (fun k => line_Plain.f k s) (plainB (L s)) := (plain_l0 s hs (L s) 0 (by simp) (by omega)).1
theorem rplain_f (s : ByteArray) (hs : s.size ≤ 1000000) : Ev (fun k => pestleref53_Plain.f k s) (plainB (L s)) := (plain_l0 s hs (L s) 0 (by simp) (by omega)).2
end Go.Proofs.Ytdieefjolkhmpaa.LineParts
