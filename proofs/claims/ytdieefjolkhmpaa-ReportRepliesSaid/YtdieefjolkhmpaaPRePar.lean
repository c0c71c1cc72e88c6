/- Parameters as a line: the program's and the reference's functions come to the same. -/
import Derived.Test.YtdieefjolkhmpaaPReRep
import Derived.Test.YtdieefjolkhmpaaPReJoin
namespace Go.Proofs.Ytdieefjolkhmpaa.PRePar
open Go.RowKit Go.Proofs.Ytdieefjolkhmpaa.PRe Go.Proofs.YtdieefjolkhmpaaW.PrintWords Go.Proofs.YtdieefjolkhmpaaW.PrintLast Go.Proofs.YtdieefjolkhmpaaW.PrintMore Go.Proofs.Ytdieefjolkhmpaa.Base Go.Proofs.Ytdieefjolkhmpaa.PReDec Go.Proofs.Ytdieefjolkhmpaa.PReRep Go.Proofs.Ytdieefjolkhmpaa.PReJoin
set_option linter.unusedSimpArgs false
set_option linter.unusedVariables false
attribute [local irreducible] IntKind.wrap bt

theorem none_l0 (a : Int) (P : List S121) (hP : P.length ≤ 1000) (hn : ∀ x, x ∈ P → x.f0 ≠ a) : ∀ (d i : Nat), i + d = P.length → Ev (fun k => record_Name.l0 k a P (P.length : Int) (i : Int)) (⟨#[]⟩, 6) := by
  intro d
  induction d with
  | zero =>
    intro i hi
    refine Ev.step (f := fun _ => _) (fun k => ?_) (Ev.now _)
    simp only [record_Name.l0]
    rw [if_neg (by omega)]
  | succ d ih =>
    intro i hi
    have e1 := nx (i := i) (by omega)
    have hl : i < P.length := by omega
    have hx : ¬ (rd_T121 P (i : Int)).f0 = a := by
      unfold rd_T121
      rw [Int.toNat_natCast, List.getD_eq_getElem?_getD, List.getElem?_eq_getElem hl]
      exact hn _ (List.getElem_mem hl)
    refine Ev.step (fun k => ?_) (ih (i + 1) (by omega))
    simp only [record_Name.l0]
    rw [if_pos (by omega), if_pos (by omega), if_pos (by omega), if_neg hx, e1.out]

theorem id_both (a : Int) : ∃ t : ByteArray, t.size ≤ 13 ∧ pestleref44_Id.f a = some t ∧ ((t.toList = [] ∧ Ev (fun k => record_Name.f k a) (⟨#[]⟩, 6)) ∨ (t.toList ≠ [] ∧ Ev (fun k => record_Name.f k a) (t, 0))) := by
  by_cases c : 1 ≤ a ∧ a ≤ 6
  · rcases (show a = 1 ∨ a = 2 ∨ a = 3 ∨ a = 4 ∨ a = 5 ∨ a = 6 by omega) with rfl | rfl | rfl | rfl | rfl | rfl
    · exact ⟨⟨#[97, 114, 103, 111, 110, 50, 100]⟩, by decide, rfl, Or.inr ⟨by rw [toList_L]; decide, Ev.of (record_Name.mono 1) (k := 20) (by decide +kernel)⟩⟩
    · exact ⟨⟨#[97, 114, 103, 111, 110, 50, 105]⟩, by decide, rfl, Or.inr ⟨by rw [toList_L]; decide, Ev.of (record_Name.mono 2) (k := 20) (by decide +kernel)⟩⟩
    · exact ⟨⟨#[97, 114, 103, 111, 110, 50, 105, 100]⟩, by decide, rfl, Or.inr ⟨by rw [toList_L]; decide, Ev.of (record_Name.mono 3) (k := 20) (by decide +kernel)⟩⟩
    · exact ⟨⟨#[115, 99, 114, 121, 112, 116]⟩, by decide, rfl, Or.inr ⟨by rw [toList_L]; decide, Ev.of (record_Name.mono 4) (k := 20) (by decide +kernel)⟩⟩
    · exact ⟨⟨#[98, 99, 114, 121, 112, 116]⟩, by decide, rfl, Or.inr ⟨by rw [toList_L]; decide, Ev.of (record_Name.mono 5) (k := 20) (by decide +kernel)⟩⟩
    · exact ⟨⟨#[112, 98, 107, 100, 102, 50, 45, 115, 104, 97, 50, 53, 54]⟩, by decide, rfl, Or.inr ⟨by rw [toList_L]; decide, Ev.of (record_Name.mono 6) (k := 20) (by decide +kernel)⟩⟩
  · refine ⟨⟨#[]⟩, by decide, ?_, Or.inl ⟨by rw [toList_L]; rfl, ?_⟩⟩
    · unfold pestleref44_Id.f
      rw [Option.bind_some]
      by_cases c1 : a < 1
      · rw [if_pos c1]
      · rw [if_neg c1, if_pos (by omega)]
    · refine Ev.congr (fun k => ?_) (none_l0 a (record_kinds.f.getD []) (by decide) ?_ 5 0 rfl)
      · unfold record_Name.f
        rw [if_neg (by omega)]
        rfl
      · intro x hx
        have hx' : x.f0 = 1 ∨ x.f0 = 2 ∨ x.f0 = 3 ∨ x.f0 = 4 ∨ x.f0 = 6 := by
          simp only [record_kinds.f, Option.getD_some, List.mem_cons, List.not_mem_nil, or_false] at hx
          rcases hx with rfl | rfl | rfl | rfl | rfl <;> simp
        omega

theorem lit_B (l : List UInt8) : (⟨l.toArray⟩ : ByteArray) = B l := rfl
theorem pt : (⟨#[32, 116, 105, 109, 101, 32]⟩ : ByteArray).size = 6 := rfl
theorem pm : (⟨#[32, 109, 101, 109, 111, 114, 121, 32]⟩ : ByteArray).size = 8 := rfl
theorem pl : (⟨#[32, 108, 97, 110, 101, 115, 32]⟩ : ByteArray).size = 7 := rfl
theorem ps : (⟨#[32, 115, 105, 122, 101, 32]⟩ : ByteArray).size = 6 := rfl
theorem params_both (a b c d e : Int) (hb : b < 9223372036854775808) (hc : c < 9223372036854775808) (hd : d < 9223372036854775808) (he : e < 9223372036854775808) :
    ∃ r : ByteArray, Ev (fun k => report_Params.f k a b c d e) r ∧ Ev (fun k => pestleref54_Params.f k a b c d e) r := by
  obtain ⟨t, ht, h1, h2⟩ := id_both a
  have lb := numL_len hb
  have lc := numL_len hc
  have ld := numL_len hd
  have le := numL_len he
  rcases h2 with ⟨h0, h2⟩ | ⟨h0, h2⟩
  · refine ⟨⟨#[63]⟩, ?_, ?_⟩
    · refine Ev.bind (f := fun k (bt189 : ByteArray × Int) => if bt189.2 = 0 then _ else _) h2 ?_
      exact Ev.congr (f := fun _ => some (⟨#[63]⟩ : ByteArray)) (fun k => if_neg (by decide)) (Ev.now _)
    · exact Ev.congr (f := fun _ => _) (fun k => by unfold pestleref54_Params.f; rw [h1, Option.bind_some, if_pos h0]) (Ev.now _)
  · refine ⟨t ++ (⟨#[32, 116, 105, 109, 101, 32]⟩ : ByteArray) ++ B (numL b) ++ (⟨#[32, 109, 101, 109, 111, 114, 121, 32]⟩ : ByteArray) ++ B (numL c) ++ (⟨#[32, 108, 97, 110, 101, 115, 32]⟩ : ByteArray) ++ B (numL d) ++ (⟨#[32, 115, 105, 122, 101, 32]⟩ : ByteArray) ++ B (numL e), ?_, ?_⟩
    · refine Ev.bind (f := fun k (bt189 : ByteArray × Int) => if bt189.2 = 0 then _ else _) h2 ?_
      refine Ev.congr (fun k => if_pos rfl) ?_
      refine Ev.bind (list_one _ b hb) ?_
      refine Ev.bind (list_one _ c hc) ?_
      refine Ev.bind (list_one _ d hd) ?_
      refine Ev.bind (list_one _ e he) ?_
      have hj := join_f 32 (L t) [[116, 105, 109, 101], numL b, [109, 101, 109, 111, 114, 121], numL c, [108, 97, 110, 101, 115], numL d, [115, 105, 122, 101], numL e] (by simp) (by simp only [sumLen, List.map_cons, List.map_nil, List.sum_cons, List.sum_nil, List.length_cons, List.length_nil, L_size]; omega)
      simp only [List.map_cons, List.map_nil, B_L] at hj
      have hq : B (joinL 32 [L t, [116, 105, 109, 101], numL b, [109, 101, 109, 111, 114, 121], numL c, [108, 97, 110, 101, 115], numL d, [115, 105, 122, 101], numL e]) = t ++ (⟨#[32, 116, 105, 109, 101, 32]⟩ : ByteArray) ++ B (numL b) ++ (⟨#[32, 109, 101, 109, 111, 114, 121, 32]⟩ : ByteArray) ++ B (numL c) ++ (⟨#[32, 108, 97, 110, 101, 115, 32]⟩ : ByteArray) ++ B (numL d) ++ (⟨#[32, 115, 105, 122, 101, 32]⟩ : ByteArray) ++ B (numL e) := by
        rw [← L_inj]
        simp only [lit_B, L_append, L_B, joinL]
        simp
      rw [hq] at hj
      exact Ev.bind hj (Ev.now _)
    · refine Ev.congr (f := fun k => _) (fun k => by
        unfold pestleref54_Params.f
        rw [h1, Option.bind_some, if_neg h0, if_pos (show t.size + 6 ≤ 9223372036854775807 by omega)]) ?_
      refine Ev.bind (rnum_f b hb) ?_
      refine Ev.congr (fun k => by rw [if_pos (by simp only [ByteArray.size_append, pt, pm, pl, ps, size_B]; omega), if_pos (by simp only [ByteArray.size_append, pt, pm, pl, ps, size_B]; omega)]) ?_
      refine Ev.bind (rnum_f c hc) ?_
      refine Ev.congr (fun k => by rw [if_pos (by simp only [ByteArray.size_append, pt, pm, pl, ps, size_B]; omega), if_pos (by simp only [ByteArray.size_append, pt, pm, pl, ps, size_B]; omega)]) ?_
      refine Ev.bind (rnum_f d hd) ?_
      refine Ev.congr (fun k => by rw [if_pos (by simp only [ByteArray.size_append, pt, pm, pl, ps, size_B]; omega), if_pos (by simp only [ByteArray.size_append, pt, pm, pl, ps, size_B]; omega)]) ?_
      refine Ev.bind (rnum_f e he) ?_
      refine Ev.congr (fun k => by rw [if_pos (by simp only [ByteArray.size_append, pt, pm, pl, ps, size_B]; omega)]) (Ev.now _)
end Go.Proofs.Ytdieefjolkhmpaa.PRePar
