/- A line as a call: what the program's and the reference's functions come to. -/
import Derived.Test.YtdieefjolkhmpaaLineParts
namespace Go.Proofs.Ytdieefjolkhmpaa.LineRead
open Go.RowKit Go.Proofs.Ytdieefjolkhmpaa.PLi Go.Proofs.YtdieefjolkhmpaaW.PrintWords Go.Proofs.YtdieefjolkhmpaaW.PrintLast Go.Proofs.YtdieefjolkhmpaaW.PrintMore Go.Proofs.Ytdieefjolkhmpaa.Base Go.Proofs.Ytdieefjolkhmpaa.LineParts
attribute [local irreducible] IntKind.wrap bt hexv

/-- The kind of a word; 0: there is none. -/
def kindOf (s : ByteArray) : Int := if s.toList = ([104, 97, 115, 104] : List UInt8) then 1 else if s.toList = ([118, 101, 114, 105, 102, 121] : List UInt8) then 2 else if s.toList = ([115, 116, 97, 108, 101] : List UInt8) then 3 else 0
theorem kind_cases (s : ByteArray) : kindOf s = 0 ∨ kindOf s = 1 ∨ kindOf s = 2 ∨ kindOf s = 3 := by
  unfold kindOf
  split
  · exact .inr (.inl rfl)
  · split
    · exact .inr (.inr (.inl rfl))
    · split
      · exact .inr (.inr (.inr rfl))
      · exact .inl rfl
theorem kind_f (s : ByteArray) : line_Kind.f s = some (kindOf s, if kindOf s = 0 then 6 else 0) := by
  unfold line_Kind.f kindOf
  split
  · rfl
  · split
    · rfl
    · split <;> rfl

def noCall (e : Int) : Int × ByteArray × ByteArray × Int := (0, ⟨#[]⟩, ⟨#[]⟩, e)
/-- The call of a line, and the error's number. -/
def readS (s : ByteArray) : Int × ByteArray × ByteArray × Int :=
  let p := (splitA 32 [] (L s)).map B
  let kd := kindOf (rdOf ByteArray.empty p 0)
  if kd = 0 then noCall 6
  else if ¬ p.length = (if kd = 2 then 3 else 2) then noCall 5
  else
    let w : ByteArray × Int := if kd = 3 then (⟨#[]⟩, 0) else undash (rdOf ByteArray.empty p 1)
    if ¬ w.2 = 0 then noCall w.2
    else if kd = 1 then (kd, w.1, ⟨#[]⟩, 0)
    else if plainB (L (rdOf ByteArray.empty p ((p.length : Int) - 1))) = true then (kd, w.1, rdOf ByteArray.empty p ((p.length : Int) - 1), 0)
    else noCall 8

theorem splitA_small (c : UInt8) : ∀ (r q : List UInt8) (p : List UInt8), p ∈ splitA c q r → p.length ≤ q.length + r.length
  | [], q, p, h => by simp only [splitA, List.mem_singleton] at h; rw [h]; simp
  | x :: r, q, p, h => by
    unfold splitA at h
    split at h
    · rw [List.mem_cons] at h
      rcases h with h | h
      · rw [h]; simp
      · have := splitA_small c r [] p h
        simp only [List.length_nil, List.length_cons] at *
        omega
    · have := splitA_small c r (q ++ [x]) p h
      simp only [List.length_append, List.length_nil, List.length_cons] at *
      omega
theorem part_small (s : ByteArray) (c : UInt8) (i : Int) : (rdOf ByteArray.empty ((splitA c [] (L s)).map B) i).size ≤ s.size := by
  unfold rdOf
  rw [List.getD_eq_getElem?_getD]
  cases h : ((splitA c [] (L s)).map B)[i.toNat]? with
  | none => simp
  | some t =>
    have hm := List.mem_of_getElem? h
    rw [List.mem_map] at hm
    obtain ⟨p, hp, rfl⟩ := hm
    have := splitA_small c _ _ p hp
    rw [L_size] at this
    simp only [Option.getD_some, size_B, List.length_nil] at *
    omega

theorem read_f (s : ByteArray) (hs : s.size ≤ 1000000) : Ev (fun k => line_Read.f k s) (readS s) := by
  refine Ev.bind (split_f s 32 hs) ?_
  have hsm := part_small s 32
  have hlen := splitA_len 32 (L s) []
  unfold readS
  have hl1 : 0 < ((splitA 32 [] (L s)).map B).length := by rw [List.length_map]; exact hlen.1
  generalize (splitA 32 [] (L s)).map B = p at *
  simp only
  have hk := kind_cases (rdOf ByteArray.empty p 0)
  have hkf := kind_f (rdOf ByteArray.empty p 0)
  generalize kindOf (rdOf ByteArray.empty p 0) = kd at *
  refine Ev.congr (f := fun k => (line_Kind.f (rdOf ByteArray.empty p 0)).bind fun bt121 => (if bt121.2 = 0 then (if bt121.1 = 2 then (line_Read.j0 k p bt121.1 3) else (line_Read.j0 k p bt121.1 2)) else (some (0, (⟨#[]⟩ : ByteArray), (⟨#[]⟩ : ByteArray), bt121.2)))) (fun k => by rw [if_pos (by omega)]) ?_
  rw [hkf]
  simp only [Option.bind_some]
  by_cases c0 : kd = 0
  · rw [if_pos c0]
    exact Ev.congr (f := fun _ => _) (fun k => by rw [if_pos c0, if_neg (by omega)]; rfl) (Ev.now _)
  · simp only [if_neg c0]
    -- one way for both numbers of parts
    have tail : ∀ m : Nat, (m = 2 ∨ m = 3) → m = (if kd = 2 then 3 else 2) → Ev (fun k => line_Read.j0 k p kd (m : Int)) (if ¬ p.length = m then noCall 5 else
        let w : ByteArray × Int := if kd = 3 then (⟨#[]⟩, 0) else undash (rdOf ByteArray.empty p 1)
        if ¬ w.2 = 0 then noCall w.2 else if kd = 1 then (kd, w.1, ⟨#[]⟩, 0)
        else if plainB (L (rdOf ByteArray.empty p ((p.length : Int) - 1))) = true then (kd, w.1, rdOf ByteArray.empty p ((p.length : Int) - 1), 0) else noCall 8) := by
      intro m hm hm2
      by_cases c1 : p.length = m
      · rw [if_neg (by omega)]
        simp only
        -- behind the word
        have behind : ∀ w : ByteArray, Ev (fun k => line_Read.j1 k p kd (m : Int) kd w (⟨#[]⟩ : ByteArray)) (if kd = 1 then (kd, w, ⟨#[]⟩, 0)
            else if plainB (L (rdOf ByteArray.empty p ((p.length : Int) - 1))) = true then (kd, w, rdOf ByteArray.empty p ((p.length : Int) - 1), 0) else noCall 8) := by
          intro w
          by_cases c2 : kd = 1
          · rw [if_pos c2]
            exact Ev.step (f := fun _ => _) (fun k => by simp only [line_Read.j1]; rw [if_pos c2]) (Ev.now _)
          · rw [if_neg c2]
            have em : wrap64 ((m : Int) - 1) = (p.length : Int) - 1 := by rw [w64 (by omega) (by omega)]; omega
            refine Ev.step (f := fun k => (line_Plain.f k (rdOf ByteArray.empty p ((p.length : Int) - 1))).bind fun t128 => (if t128 = true then (some (kd, w, rdOf ByteArray.empty p ((p.length : Int) - 1), 0)) else (some (0, (⟨#[]⟩ : ByteArray), (⟨#[]⟩ : ByteArray), 8)))) (fun k => ?_) ?_
            · simp only [line_Read.j1]
              rw [if_neg c2, em, if_pos (by omega), if_pos (by omega)]
            · refine Ev.bind (plain_f _ (Nat.le_trans (hsm _) hs)) ?_
              by_cases c3 : plainB (L (rdOf ByteArray.empty p ((p.length : Int) - 1))) = true
              · rw [if_pos c3]
                exact Ev.congr (f := fun _ => _) (fun k => by rw [if_pos c3]) (Ev.now _)
              · rw [if_neg c3]
                exact Ev.congr (f := fun _ => _) (fun k => by rw [if_neg c3]; rfl) (Ev.now _)
        by_cases c3 : kd = 3
        · rw [if_pos c3, if_neg (by simp)]
          refine Ev.step (f := fun k => line_Read.j1 k p kd (m : Int) kd (⟨#[]⟩ : ByteArray) (⟨#[]⟩ : ByteArray)) (fun k => ?_) (behind _)
          simp only [line_Read.j0]
          rw [if_pos (by omega), if_pos c3]
        · rw [if_neg c3]
          refine Ev.step (f := fun k => (hexes_Undash.f k (rdOf ByteArray.empty p 1)).bind fun bt125 => (if bt125.2 = 0 then (line_Read.j1 k p kd (m : Int) kd bt125.1 (⟨#[]⟩ : ByteArray)) else (some (0, (⟨#[]⟩ : ByteArray), (⟨#[]⟩ : ByteArray), bt125.2)))) (fun k => ?_) ?_
          · simp only [line_Read.j0]
            rw [if_pos (by omega), if_neg c3, if_pos (by omega)]
          · refine Ev.bind (undash_f _ (Nat.le_trans (hsm _) hs)) ?_
            generalize undash (rdOf ByteArray.empty p 1) = w
            by_cases c4 : w.2 = 0
            · rw [if_neg (by simpa using c4)]
              exact Ev.congr (fun k => by rw [if_pos c4]) (behind w.1)
            · rw [if_pos c4]
              exact Ev.congr (f := fun _ => _) (fun k => by rw [if_neg c4]; rfl) (Ev.now _)
      · rw [if_pos c1]
        refine Ev.step (f := fun _ => _) (fun k => ?_) (Ev.now _)
        simp only [line_Read.j0]
        rw [if_neg (by omega)]
        rfl
    by_cases c2 : kd = 2
    · have := tail 3 (.inr rfl) (by rw [if_pos c2])
      rw [if_pos c2]
      exact Ev.congr (fun k => by rw [if_pos trivial, if_pos c2]; rfl) this
    · have := tail 2 (.inl rfl) (by rw [if_neg c2])
      rw [if_neg c2]
      exact Ev.congr (fun k => by rw [if_pos trivial, if_neg c2]; rfl) this

theorem word1 : pestleref53_word.f 1 = some ⟨#[104, 97, 115, 104]⟩ := by rfl
theorem word2 : pestleref53_word.f 2 = some ⟨#[118, 101, 114, 105, 102, 121]⟩ := by rfl
theorem word3 : pestleref53_word.f 3 = some ⟨#[115, 116, 97, 108, 101]⟩ := by rfl
theorem lit (l : List UInt8) : (⟨l.toArray⟩ : ByteArray).toList = l := by rw [toList_L]; exact L_B l

theorem rread_f (s : ByteArray) (hs : s.size ≤ 1000000) : Ev (fun k => pestleref53_Read.f k s) (readS s) := by
  refine Ev.bind (rsplit_f s 32 hs) ?_
  have hsm := part_small s 32
  have hlen := splitA_len 32 (L s) []
  unfold readS
  have hl1 : 0 < ((splitA 32 [] (L s)).map B).length := by rw [List.length_map]; exact hlen.1
  generalize (splitA 32 [] (L s)).map B = p at *
  simp only
  -- behind the loop
  have tail : ∀ kd : Int, (kd = 0 ∨ kd = 1 ∨ kd = 2 ∨ kd = 3) → Ev (fun k => pestleref53_Read.l0 k p kd 4) (if kd = 0 then noCall 6 else if ¬ p.length = (if kd = 2 then 3 else 2) then noCall 5 else
        let w : ByteArray × Int := if kd = 3 then (⟨#[]⟩, 0) else undash (rdOf ByteArray.empty p 1)
        if ¬ w.2 = 0 then noCall w.2 else if kd = 1 then (kd, w.1, ⟨#[]⟩, 0)
        else if plainB (L (rdOf ByteArray.empty p ((p.length : Int) - 1))) = true then (kd, w.1, rdOf ByteArray.empty p ((p.length : Int) - 1), 0) else noCall 8) := by
    intro kd hk
    by_cases c0 : kd = 0
    · rw [if_pos c0]
      refine Ev.step (f := fun _ => _) (fun k => ?_) (Ev.now _)
      simp only [pestleref53_Read.l0]
      rw [if_neg (by omega), if_pos c0]
      rfl
    · rw [if_neg c0]
      by_cases c1 : p.length = (if kd = 2 then 3 else 2)
      · rw [if_neg (by rw [← c1]; simp)]
        have c1' : 2 ≤ p.length ∧ p.length ≤ 3 := by rw [c1]; split <;> omega
        simp only
        have behind : ∀ w : ByteArray, Ev (fun k => pestleref53_Read.j2 k p kd kd w (⟨#[]⟩ : ByteArray)) (if kd = 1 then (kd, w, ⟨#[]⟩, 0)
            else if plainB (L (rdOf ByteArray.empty p ((p.length : Int) - 1))) = true then (kd, w, rdOf ByteArray.empty p ((p.length : Int) - 1), 0) else noCall 8) := by
          intro w
          by_cases c2 : kd = 1
          · rw [if_pos c2]
            exact Ev.step (f := fun _ => _) (fun k => by simp only [pestleref53_Read.j2]; rw [if_pos c2]) (Ev.now _)
          · rw [if_neg c2]
            have em : wrap64 ((p.length : Int) - 1) = (p.length : Int) - 1 := by rw [w64 (by omega) (by omega)]
            refine Ev.step (f := fun k => (pestleref53_Plain.f k (rdOf ByteArray.empty p ((p.length : Int) - 1))).bind fun t128 => (if t128 = true then (some (kd, w, rdOf ByteArray.empty p ((p.length : Int) - 1), 0)) else (some (0, (⟨#[]⟩ : ByteArray), (⟨#[]⟩ : ByteArray), 8)))) (fun k => ?_) ?_
            · simp only [pestleref53_Read.j2]
              rw [if_neg c2, em, if_pos (by omega), if_pos (by omega)]
            · refine Ev.bind (rplain_f _ (Nat.le_trans (hsm _) hs)) ?_
              by_cases c3 : plainB (L (rdOf ByteArray.empty p ((p.length : Int) - 1))) = true
              · rw [if_pos c3]
                exact Ev.congr (f := fun _ => _) (fun k => by rw [if_pos c3]) (Ev.now _)
              · rw [if_neg c3]
                exact Ev.congr (f := fun _ => _) (fun k => by rw [if_neg c3]; rfl) (Ev.now _)
        have j1 : Ev (fun k => pestleref53_Read.j1 k p kd false kd (⟨#[]⟩ : ByteArray) (⟨#[]⟩ : ByteArray)) (let w : ByteArray × Int := if kd = 3 then (⟨#[]⟩, 0) else undash (rdOf ByteArray.empty p 1)
            if ¬ w.2 = 0 then noCall w.2 else if kd = 1 then (kd, w.1, ⟨#[]⟩, 0)
            else if plainB (L (rdOf ByteArray.empty p ((p.length : Int) - 1))) = true then (kd, w.1, rdOf ByteArray.empty p ((p.length : Int) - 1), 0) else noCall 8) := by
          simp only
          by_cases c3 : kd = 3
          · rw [if_pos c3, if_neg (by simp)]
            refine Ev.step (f := fun k => pestleref53_Read.j2 k p kd kd (⟨#[]⟩ : ByteArray) (⟨#[]⟩ : ByteArray)) (fun k => ?_) (behind _)
            simp only [pestleref53_Read.j1]
            rw [if_neg (by simp), if_pos c3]
          · rw [if_neg c3]
            refine Ev.step (f := fun k => (pestleref14_Undash.f k (rdOf ByteArray.empty p 1)).bind fun bt125 => (if bt125.2 = 0 then (pestleref53_Read.j2 k p kd kd bt125.1 (⟨#[]⟩ : ByteArray)) else (some (0, (⟨#[]⟩ : ByteArray), (⟨#[]⟩ : ByteArray), bt125.2)))) (fun k => ?_) ?_
            · simp only [pestleref53_Read.j1]
              rw [if_neg (by simp), if_neg c3, if_pos (by omega)]
            · refine Ev.bind (rundash_f _ (Nat.le_trans (hsm _) hs)) ?_
              generalize undash (rdOf ByteArray.empty p 1) = w
              by_cases c4 : w.2 = 0
              · rw [if_neg (by simpa using c4)]
                exact Ev.congr (fun k => by rw [if_pos c4]) (behind w.1)
              · rw [if_pos c4]
                exact Ev.congr (f := fun _ => _) (fun k => by rw [if_neg c4]; rfl) (Ev.now _)
        refine Ev.step (f := fun k => pestleref53_Read.j1 k p kd false kd (⟨#[]⟩ : ByteArray) (⟨#[]⟩ : ByteArray)) (fun k => ?_) j1
        simp only [pestleref53_Read.l0]
        rw [if_neg (by omega), if_neg c0]
        by_cases c2 : kd = 2
        · rw [if_pos c2] at c1 ⊢
          rw [if_pos (by omega)]
        · rw [if_neg c2] at c1 ⊢
          rw [show ((p.length : Int) != 2) = false by rw [c1]; rfl]
      · rw [if_pos c1]
        have j1 : Ev (fun k => pestleref53_Read.j1 k p kd true kd (⟨#[]⟩ : ByteArray) (⟨#[]⟩ : ByteArray)) (noCall 5) :=
          Ev.step (f := fun _ => _) (fun k => by simp only [pestleref53_Read.j1]; rw [if_pos trivial]; rfl) (Ev.now _)
        refine Ev.step (f := fun k => pestleref53_Read.j1 k p kd true kd (⟨#[]⟩ : ByteArray) (⟨#[]⟩ : ByteArray)) (fun k => ?_) j1
        simp only [pestleref53_Read.l0]
        rw [if_neg (by omega), if_neg c0]
        by_cases c2 : kd = 2
        · rw [if_pos c2] at c1 ⊢
          rw [if_neg (by omega)]
        · rw [if_neg c2] at c1 ⊢
          rw [show ((p.length : Int) != 2) = true by rw [bne_iff_ne]; omega]
  -- the three words, one behind the other
  have e2 : wrap64 (1 + 1) = 2 := by rw [w64 (by omega) (by omega)]; rfl
  have e3 : wrap64 (2 + 1) = 3 := by rw [w64 (by omega) (by omega)]; rfl
  have e4 : wrap64 (3 + 1) = 4 := by rw [w64 (by omega) (by omega)]; rfl
  have one : ∀ (kd j : Int) (w : ByteArray), j ≤ 3 → pestleref53_word.f j = some w → ∀ k, pestleref53_Read.l0 (k + 1) p kd j = if w.toList = (rdOf ByteArray.empty p 0).toList then pestleref53_Read.l0 k p j (wrap64 (j + 1)) else pestleref53_Read.l0 k p kd (wrap64 (j + 1)) := by
    intro kd j w hj hw k
    simp only [pestleref53_Read.l0]
    rw [if_pos hj, hw]
    simp only [Option.bind_some]
    rw [if_pos (by omega)]
  have key : ∀ kd : Int, (kd = 0 ∨ kd = 1 ∨ kd = 2 ∨ kd = 3) → kindOf (rdOf ByteArray.empty p 0) = kd → Ev (fun k => pestleref53_Read.l0 k p 0 1) (if kd = 0 then noCall 6 else if ¬ p.length = (if kd = 2 then 3 else 2) then noCall 5 else
        let w : ByteArray × Int := if kd = 3 then (⟨#[]⟩, 0) else undash (rdOf ByteArray.empty p 1)
        if ¬ w.2 = 0 then noCall w.2 else if kd = 1 then (kd, w.1, ⟨#[]⟩, 0)
        else if plainB (L (rdOf ByteArray.empty p ((p.length : Int) - 1))) = true then (kd, w.1, rdOf ByteArray.empty p ((p.length : Int) - 1), 0) else noCall 8) := by
    intro kd hk hkd
    have ht := tail kd hk
    unfold kindOf at hkd
    by_cases c1 : (rdOf ByteArray.empty p 0).toList = ([104, 97, 115, 104] : List UInt8)
    · rw [if_pos c1] at hkd
      subst hkd
      refine Ev.step (f := fun k => pestleref53_Read.l0 k p 1 2) (fun k => by rw [one 0 1 _ (by omega) word1, lit, if_pos c1.symm, e2]) ?_
      refine Ev.step (f := fun k => pestleref53_Read.l0 k p 1 3) (fun k => by rw [one 1 2 _ (by omega) word2, lit, c1, if_neg (by decide), e3]) ?_
      exact Ev.step (f := fun k => pestleref53_Read.l0 k p 1 4) (fun k => by rw [one 1 3 _ (by omega) word3, lit, c1, if_neg (by decide), e4]) ht
    · rw [if_neg c1] at hkd
      refine Ev.step (f := fun k => pestleref53_Read.l0 k p 0 2) (fun k => by rw [one 0 1 _ (by omega) word1, lit, if_neg (fun h => c1 h.symm), e2]) ?_
      by_cases c2 : (rdOf ByteArray.empty p 0).toList = ([118, 101, 114, 105, 102, 121] : List UInt8)
      · rw [if_pos c2] at hkd
        subst hkd
        refine Ev.step (f := fun k => pestleref53_Read.l0 k p 2 3) (fun k => by rw [one 0 2 _ (by omega) word2, lit, if_pos c2.symm, e3]) ?_
        exact Ev.step (f := fun k => pestleref53_Read.l0 k p 2 4) (fun k => by rw [one 2 3 _ (by omega) word3, lit, c2, if_neg (by decide), e4]) ht
      · rw [if_neg c2] at hkd
        refine Ev.step (f := fun k => pestleref53_Read.l0 k p 0 3) (fun k => by rw [one 0 2 _ (by omega) word2, lit, if_neg (fun h => c2 h.symm), e3]) ?_
        by_cases c3 : (rdOf ByteArray.empty p 0).toList = ([115, 116, 97, 108, 101] : List UInt8)
        · rw [if_pos c3] at hkd
          subst hkd
          exact Ev.step (f := fun k => pestleref53_Read.l0 k p 3 4) (fun k => by rw [one 0 3 _ (by omega) word3, lit, if_pos c3.symm, e4]) ht
        · rw [if_neg c3] at hkd
          subst hkd
          exact Ev.step (f := fun k => pestleref53_Read.l0 k p 0 4) (fun k => by rw [one 0 3 _ (by omega) word3, lit, if_neg (fun h => c3 h.symm), e4]) ht
  exact key _ (kind_cases _) rfl
end Go.Proofs.Ytdieefjolkhmpaa.LineRead
