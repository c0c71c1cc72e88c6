/- Arguments that can be read as data are values of the printed kinds: whole numbers, bools, texts, slices, structs and small arrays, to the bottom. -/
import Derived.Test.YtdieefjolkhmpaaWWords
import Derived.ProofKit
import Derived.ChangeOld
import Derived.ChangeArms
import Derived.OpenShut
namespace Go.Proofs.Ytdieefjolkhmpaa.Open
open Go.Proofs.YtdieefjolkhmpaaW.PrintWords

/-- What can be read at a type is a value of a kind. -/
structure Opens {α : Type} (P : Program) (T : TypeId) (kd : Kd α) (ok : α → Prop) : Prop where
  out : ∀ {H : Type} (enc : TypeId × Value → H) (W : World) (fuel : Nat) (cs : List Value) (x : DataW H × List MemPlace), DataW.trod enc P W 0 (fun _ => true) true fuel T cs = some x → ∃ a, kd.K W a cs ∧ ok a

variable {P : Program} {T E : TypeId}

theorem Opens.weaken {α : Type} {kd : Kd α} {ok ok' : α → Prop} (h : Opens P T kd ok) (hk : ∀ a, ok a → ok' a) : Opens P T kd ok' := ⟨fun enc W fuel cs x hx =>
  let ⟨a, h1, h2⟩ := h.out enc W fuel cs x hx
  ⟨a, h1, hk a h2⟩⟩

theorem opens_int {k : IntKind} (hu : P.underlying T = some (.int k)) : Opens P T (Kd.int k) (fun n => (Lit.int k n).wf = true) := by
  refine ⟨?_⟩
  intro H enc W fuel cs x h
  obtain ⟨n, rfl, _, hw⟩ := DataW.trod_int hu h
  exact ⟨n, rfl, hw⟩
theorem opens_bool (hu : P.underlying T = some .bool) : Opens P T Kd.bool (fun _ => True) := by
  refine ⟨?_⟩
  intro H enc W fuel cs x h
  obtain ⟨n, rfl, _⟩ := DataW.trod_bool hu h
  exact ⟨n, rfl, trivial⟩
theorem opens_string (hu : P.underlying T = some .string) : Opens P T Kd.string (fun s => s.size ≤ maxLen) := by
  refine ⟨?_⟩
  intro H enc W fuel cs x h
  obtain ⟨n, rfl, _, hw⟩ := DataW.trod_string hu h
  exact ⟨n, rfl, hw⟩

/-- All of a list's readings, one by one. -/
theorem mapM_get {α β : Type} {f : α → Option β} : ∀ {l : List α} {r : List β}, l.mapM f = some r → r.length = l.length ∧ ∀ (i : Nat) (a : α), l[i]? = some a → ∃ b, f a = some b
  | [], r, h => by
    simp at h
    subst h
    exact ⟨rfl, fun i a h => by simp at h⟩
  | x :: l, r, h => by
    rw [List.mapM_cons] at h
    cases hx : f x with
    | none => rw [hx] at h; simp at h
    | some b =>
      rw [hx] at h
      cases hl : l.mapM f with
      | none => rw [hl] at h; simp at h
      | some r' =>
        rw [hl] at h
        simp at h
        subst h
        obtain ⟨h1, h2⟩ := mapM_get hl
        refine ⟨by simp [h1], fun i a ha => ?_⟩
        cases i with
        | zero => simp at ha; subst ha; exact ⟨b, hx⟩
        | succ i => exact h2 i a (by simpa using ha)

theorem mapM_at {α : Type} {f : Nat → Option α} {n : Nat} {r : List α} (h : (List.range n).mapM f = some r) (j : Nat) (hj : j < n) : f j = r[j]? := by
  have key : ∀ (l : List Nat) (r : List α), l.mapM f = some r → ∀ (i a : Nat), l[i]? = some a → f a = r[i]? := by
    intro l
    induction l with
    | nil => intro r _ i a ha; simp at ha
    | cons x l ih =>
      intro r h i a ha
      rw [List.mapM_cons] at h
      cases hx : f x with
      | none => rw [hx] at h; simp at h
      | some b =>
        rw [hx] at h
        cases hl : l.mapM f with
        | none => rw [hl] at h; simp at h
        | some r' =>
          rw [hl] at h
          simp at h
          subst h
          cases i with
          | zero => simp at ha; subst ha; simp [hx]
          | succ i => simp at ha; simpa using ih r' hl i a ha
  exact key _ _ h j j (by rw [List.getElem?_range hj])
theorem add_add (a : Addr) (n m : Nat) : (a.add n).add m = a.add (n + m) := by
  unfold Addr.add
  by_cases h1 : n = 0
  · subst h1; simp
  · by_cases h2 : m = 0
    · subst h2; simp [h1]
    · rw [if_neg h1, if_neg h2, if_neg (by omega), Nat.add_assoc]

/-- One by one, the values that were read. -/
theorem pick {α : Type} (n : Nat) (Q : Nat → α → Prop) (h : ∀ i, i < n → ∃ a, Q i a) : ∃ l : List α, l.length = n ∧ ∀ (i : Nat) (a : α), l[i]? = some a → Q i a := by
  induction n with
  | zero => exact ⟨[], rfl, fun i a h => by simp at h⟩
  | succ n ih =>
    obtain ⟨l, h1, h2⟩ := ih (fun i hi => h i (by omega))
    obtain ⟨a, ha⟩ := h n (by omega)
    refine ⟨l ++ [a], by simp [h1], fun i b hb => ?_⟩
    rcases Nat.lt_trichotomy i n with c | c | c
    · rw [List.getElem?_append_left (by omega)] at hb
      exact h2 i b hb
    · subst c
      rw [List.getElem?_append_right (by omega)] at hb
      simp [h1] at hb
      subst hb
      exact ha
    · rw [List.getElem?_append_right (by omega)] at hb
      have : i - l.length ≠ 0 := by omega
      rw [List.getElem?_eq_none (by simp; omega)] at hb
      cases hb

theorem opens_slice {α : Type} {kd : Kd α} {ok : α → Prop} (hu : P.underlying T = some (.slice E)) (hE : Opens P E kd ok) (hsz : kd.sz = P.cellsOf E) : Opens P T (Kd.slice E kd) (fun l => l.length ≤ maxLen ∧ ∀ a, a ∈ l → ok a) := by
  refine ⟨?_⟩
  intro H enc W fuel cs x h
  rcases DataW.trod_slice hu h with ⟨rfl, _⟩ | ⟨ad, len, cap, elems, rest, n, _, rfl, _, _, c1, c2, hl, he, _⟩
  · exact ⟨[], ⟨none, 0, rfl, Nat.le_refl _, rfl, Nat.zero_le _, fun h => by simp at h⟩, Nat.zero_le _, fun a h => by simp at h⟩
  · have hmax : maxLen = 9223372036854775807 := rfl
    have each : ∀ i, i < len → ∃ a, ok a ∧ ∃ c : List Value, c.length = kd.sz ∧ kd.K W a c ∧ ∀ j u, c[j]? = some u → W.cell? (ad.add (i * kd.sz + j)) = some u := by
      intro i hi
      have hb := he i hi
      rw [List.getElem?_eq_getElem (by omega)] at hb
      cases hc : W.cells? 0 (ad.add (i * P.cellsOf E)) (P.cellsOf E) with
      | none => rw [hc] at hb; simp at hb
      | some c =>
        rw [hc] at hb
        obtain ⟨a, ha, hk⟩ := hE.out enc W n c _ hb
        refine ⟨a, hk, c, kd.K_len ha, ha, ?_⟩
        intro j u hj
        unfold World.cells? at hc
        rw [if_pos (Nat.zero_le _)] at hc
        have hlen := (mapM_get hc).1
        have hj2 : j < c.length := by
          rcases Nat.lt_or_ge j c.length with q | q
          · exact q
          · rw [List.getElem?_eq_none q] at hj; cases hj
        have := mapM_at hc j (by simpa [hlen] using hj2)
        rw [hj] at this
        rw [hsz, ← add_add]
        exact this
    obtain ⟨l, l1, l2⟩ := pick len _ each
    refine ⟨l, ⟨some ad, cap, by rw [l1], by omega, rfl, by omega, fun _ => ⟨ad, rfl, fun j p hp => ?_⟩⟩, by omega, ?_⟩
    · obtain ⟨_, c, hc⟩ := l2 j p hp
      exact ⟨c, hc⟩
    · intro a ha
      obtain ⟨i, hi⟩ := List.getElem?_of_mem ha
      exact (l2 i a hi).1

/-- The fields from one on are values of a kind. -/
structure From {α : Type} (P : Program) (fs : Array Field) (o : Nat) (kd : Kd α) (ok : α → Prop) : Prop where
  out : ∀ {H : Type} (enc : TypeId × Value → H) (W : World) (n : Nat) (cs : List Value), (∀ (j : Nat) (f : Field), fs[j]? = some f → ∃ x, DataW.trod enc P W 0 (fun _ => true) true n f.type ((cs.drop f.offset).take (P.cellsOf f.type)) = some x) →
    cs.length = o + kd.sz → ∃ a, kd.K W a (cs.drop o) ∧ ok a
theorem from_last {α : Type} {fs : Array Field} {o : Nat} {kd : Kd α} {ok : α → Prop} (i : Nat) {f : Field} (hf : fs[i]? = some f) (ho : f.offset = o) (hs : kd.sz = P.cellsOf f.type) (h : Opens P f.type kd ok) : From P fs o kd ok := by
  refine ⟨?_⟩
  intro H enc W n cs hall hl
  obtain ⟨x, hx⟩ := hall i f hf
  rw [ho, ← hs, List.take_of_length_le (by rw [List.length_drop]; omega)] at hx
  exact h.out enc W n _ x hx
theorem from_cons {α β : Type} {fs : Array Field} {o : Nat} {kd : Kd α} {kr : Kd β} {ok : α → Prop} {okr : β → Prop} (i : Nat) {f : Field} (hf : fs[i]? = some f) (ho : f.offset = o) (hs : kd.sz = P.cellsOf f.type) (h : Opens P f.type kd ok)
    (hr : From P fs (o + kd.sz) kr okr) : From P fs o (Kd.pair kd kr) (fun x => ok x.1 ∧ okr x.2) := by
  refine ⟨?_⟩
  intro H enc W n cs hall hl
  have hl' : cs.length = o + (kd.sz + kr.sz) := hl
  obtain ⟨x, hx⟩ := hall i f hf
  rw [ho, ← hs] at hx
  obtain ⟨a, ha, ka⟩ := h.out enc W n _ x hx
  obtain ⟨b, hb, kb⟩ := hr.out enc W n cs hall (by omega)
  refine ⟨(a, b), ⟨_, _, ?_, ha, hb⟩, ka, kb⟩
  rw [← List.drop_drop, List.take_append_drop]
theorem opens_struct {α β : Type} {fs : Array Field} {kd : Kd α} {ok : α → Prop} (hu : P.underlying T = some (.struct fs)) (h : From P fs 0 kd ok) (hs : kd.sz = P.cellsOf T) (f : β → α) (mk : α → β) (hmk : ∀ a, f (mk a) = a) : Opens P T (Kd.iso kd f) (fun b => ok (f b)) := by
  refine ⟨?_⟩
  intro H enc W fuel cs x hx
  obtain ⟨xs, n, _, _, hl, hlen, hall⟩ := DataW.trod_struct hu hx
  obtain ⟨a, ha, ka⟩ := h.out enc W n cs (fun j f hf => ⟨xs[j]'(by
      rcases Nat.lt_or_ge j fs.size with q | q
      · omega
      · rw [Array.getElem?_eq_none q] at hf; cases hf), by rw [hall j f hf, List.getElem?_eq_getElem]⟩) (by omega)
  refine ⟨mk a, ?_, by show ok (f (mk a)); rw [hmk]; exact ka⟩
  show kd.K W (f (mk a)) cs
  rw [hmk]
  exact ha

/-- An array's elements from one on are values of a kind. -/
structure FromA {α : Type} (P : Program) (e : TypeId) (n i : Nat) (kd : Kd α) (ok : α → Prop) : Prop where
  out : ∀ {H : Type} (enc : TypeId × Value → H) (W : World) (m : Nat) (cs : List Value), (∀ j, j < n → ∃ x, DataW.trod enc P W 0 (fun _ => true) true m e ((cs.drop (j * P.cellsOf e)).take (P.cellsOf e)) = some x) →
    cs.length = i * P.cellsOf e + kd.sz → ∃ a, kd.K W a (cs.drop (i * P.cellsOf e)) ∧ ok a
theorem fromA_last {α : Type} {e : TypeId} {n : Nat} {kd : Kd α} {ok : α → Prop} (i : Nat) (hi : i < n) (hs : kd.sz = P.cellsOf e) (h : Opens P e kd ok) : FromA P e n i kd ok := by
  refine ⟨?_⟩
  intro H enc W m cs hall hl
  obtain ⟨x, hx⟩ := hall i hi
  rw [List.take_of_length_le (by rw [List.length_drop]; omega)] at hx
  exact h.out enc W m _ x hx
theorem fromA_cons {α β : Type} {e : TypeId} {n : Nat} {kd : Kd α} {kr : Kd β} {ok : α → Prop} {okr : β → Prop} (i : Nat) (hi : i < n) (hs : kd.sz = P.cellsOf e) (h : Opens P e kd ok) (hr : FromA P e n (i + 1) kr okr) : FromA P e n i (Kd.pair kd kr) (fun x => ok x.1 ∧ okr x.2) := by
  refine ⟨?_⟩
  intro H enc W m cs hall hl
  have hl' : cs.length = i * P.cellsOf e + (kd.sz + kr.sz) := hl
  obtain ⟨x, hx⟩ := hall i hi
  obtain ⟨a, ha, ka⟩ := h.out enc W m _ x hx
  have e1 : (i + 1) * P.cellsOf e = i * P.cellsOf e + P.cellsOf e := Nat.succ_mul _ _
  obtain ⟨b, hb, kb⟩ := hr.out enc W m cs hall (by omega)
  refine ⟨(a, b), ⟨_, _, ?_, ha, hb⟩, ka, kb⟩
  rw [e1, ← List.drop_drop, List.take_append_drop]
theorem opens_array {α β : Type} {n : Nat} {e : TypeId} {kd : Kd α} {ok : α → Prop} (hu : P.underlying T = some (.array n e)) (h : FromA P e n 0 kd ok) (hs : kd.sz = P.cellsOf T) (f : β → α) (mk : α → β) (hmk : ∀ a, f (mk a) = a) : Opens P T (Kd.iso kd f) (fun b => ok (f b)) := by
  refine ⟨?_⟩
  intro H enc W fuel cs x hx
  obtain ⟨xs, m, _, _, hl, hlen, hall⟩ := DataW.trod_array hu hx
  obtain ⟨a, ha, ka⟩ := h.out enc W m cs (fun j hj => ⟨xs[j]'(by omega), by rw [hall j hj, List.getElem?_eq_getElem]⟩) (by omega)
  refine ⟨mk a, ?_, by show ok (f (mk a)); rw [hmk]; exact ka⟩
  show kd.K W (f (mk a)) cs
  rw [hmk]
  simpa using ha
end Go.Proofs.Ytdieefjolkhmpaa.Open
