/- Replies, names and parameters as lines: the program's and the reference's functions come to the same. -/
import Derived.Test.YtdieefjolkhmpaaPRpDec
namespace Go.Proofs.Ytdieefjolkhmpaa.PRpRep
open Go.RowKit Go.Proofs.Ytdieefjolkhmpaa.PRp Go.Proofs.YtdieefjolkhmpaaW.PrintWords Go.Proofs.YtdieefjolkhmpaaW.PrintLast Go.Proofs.YtdieefjolkhmpaaW.PrintMore Go.Proofs.Ytdieefjolkhmpaa.Base Go.Proofs.Ytdieefjolkhmpaa.PRpDec
set_option linter.unusedSimpArgs false
set_option linter.unusedVariables false
attribute [local irreducible] IntKind.wrap bt

theorem sz (l : List UInt8) : (⟨l.toArray⟩ : ByteArray).size = l.length := rfl
/-- A number's digits, a dash for one below 0. -/
def numL (n : Int) : List UInt8 := if n < 0 then [45] else digs n.toNat
theorem numL_len {n : Int} (h : n < 9223372036854775808) : (numL n).length ≤ 19 := by
  unfold numL
  split
  · simp
  · exact digs_len (by omega)
theorem one_w : wrap64 (0 + 1) = 1 := by rw [w64 (by omega) (by omega)]; rfl
theorem rd_one (n : Int) : rd [n] 0 = n := rfl

theorem list_one (s : ByteArray) (n : Int) (h1 : n < 9223372036854775808) : Ev (fun k => dec_List.f k s [n]) (B (numL n)) := by
  have hl := numL_len h1
  unfold numL at hl ⊢
  have fin : ∀ x : ByteArray, Ev (fun k => dec_List.l0 k s x [n] 1 1) x := fun x => Ev.step (f := fun _ => _) (fun k => by simp only [dec_List.l0]; rw [if_neg (by omega)]) (Ev.now _)
  have e0 : ∀ x : ByteArray, (⟨#[]⟩ : ByteArray) ++ x = x := fun x => by rw [← L_inj, L_append]; rfl
  by_cases c : n < 0
  · rw [if_pos c]
    refine Ev.step (g := fun k => dec_List.l0 k s ⟨#[]⟩ [n] 1 0) (fun k => ?_) (fin _)
    simp only [dec_List.l0]
    rw [if_pos (by omega), if_pos (by omega), if_pos (by simp), if_neg (by omega), if_pos (show rd [n] 0 < 0 from c), if_pos (by decide), one_w, e0]
    rfl
  · rw [if_neg c] at hl ⊢
    obtain ⟨m, rfl⟩ : ∃ m : Nat, n = m := ⟨n.toNat, by omega⟩
    rw [Int.toNat_natCast] at hl ⊢
    refine Ev.step (g := fun k => dec_List.l0 k s ⟨#[]⟩ [(m : Int)] 1 0) (f := fun k => (dec_Text.f k (m : Int)).bind fun t => if (⟨#[]⟩ : ByteArray).size + t.size ≤ 9223372036854775807 then dec_List.l0 k s (⟨#[]⟩ ++ t) [(m : Int)] 1 1 else none) (fun k => ?_) (Ev.bind (text_f m (by omega)) ?_)
    · simp only [dec_List.l0]
      rw [if_pos (by omega), if_pos (by omega), if_pos (by simp), if_neg (by omega), if_neg (show ¬ rd [(m : Int)] 0 < 0 from c), one_w]
      rfl
    · have c2 : (⟨#[]⟩ : ByteArray).size + (B (digs m)).size ≤ 9223372036854775807 := by rw [size_B, sz]; simp only [List.length_nil]; omega
      simp only [if_pos c2, e0]
      exact fin _
theorem rnum_f (n : Int) (h1 : n < 9223372036854775808) : Ev (fun k => pestleref54_num.f k n) (B (numL n)) := by
  have hl := numL_len h1
  unfold numL at hl ⊢
  have e0 : ∀ x : ByteArray, (⟨#[]⟩ : ByteArray) ++ x = x := fun x => by rw [← L_inj, L_append]; rfl
  have fin : ∀ x : ByteArray, Ev (fun k => pestleref18_List.l0 k ⟨#[]⟩ [n] x 1) x := fun x => Ev.step (f := fun _ => _) (fun k => by simp only [pestleref18_List.l0]; rw [if_neg (by simp)]) (Ev.now _)
  refine Ev.congr (f := fun k => (pestleref18_List.f k ⟨#[]⟩ [n]).bind fun t => some t) (fun k => rfl) (Ev.bind ?_ (Ev.now _))
  by_cases c : n < 0
  · rw [if_pos c]
    refine Ev.step (g := fun k => pestleref18_List.l0 k ⟨#[]⟩ [n] ⟨#[]⟩ 0) (f := fun k => (pestleref18_Text.f k n).bind fun t => if ((⟨#[]⟩ : ByteArray) ++ (⟨#[45]⟩ : ByteArray)).size + t.size ≤ 9223372036854775807 then pestleref18_List.l0 k ⟨#[]⟩ [n] (⟨#[]⟩ ++ ⟨#[45]⟩ ++ t) 1 else none) (fun k => ?_) (Ev.bind (Ev.step (f := fun _ => some ⟨#[]⟩) (fun k => rtext_neg c k) (Ev.now _)) ?_)
    · simp only [pestleref18_List.l0]
      rw [if_pos (by simp), if_neg (by omega), if_pos (by omega), if_pos (show rd [n] 0 < 0 from c), if_pos (by decide), one_w]
      rfl
    · have c2 : ((⟨#[]⟩ : ByteArray) ++ (⟨#[45]⟩ : ByteArray)).size + (⟨#[]⟩ : ByteArray).size ≤ 9223372036854775807 := by decide
      simp only [if_pos c2]
      exact fin _
  · rw [if_neg c] at hl ⊢
    obtain ⟨m, rfl⟩ : ∃ m : Nat, n = m := ⟨n.toNat, by omega⟩
    rw [Int.toNat_natCast] at hl ⊢
    refine Ev.step (g := fun k => pestleref18_List.l0 k ⟨#[]⟩ [(m : Int)] ⟨#[]⟩ 0) (f := fun k => (pestleref18_Text.f k (m : Int)).bind fun t => if (⟨#[]⟩ : ByteArray).size + t.size ≤ 9223372036854775807 then pestleref18_List.l0 k ⟨#[]⟩ [(m : Int)] (⟨#[]⟩ ++ t) 1 else none) (fun k => ?_) (Ev.bind (rtext_f m (by omega)) ?_)
    · simp only [pestleref18_List.l0]
      rw [if_pos (by simp), if_neg (by omega), if_pos (by omega), if_neg (show ¬ rd [(m : Int)] 0 < 0 from c), one_w]
      rfl
    · have c2 : (⟨#[]⟩ : ByteArray).size + (B (digs m)).size ≤ 9223372036854775807 := by rw [size_B, sz]; simp only [List.length_nil]; omega
      simp only [if_pos c2, e0]
      exact fin _

/-- The word of an error. -/
theorem name_small : ∀ n : Nat, n < 17 → pestleref54_Name.f (n : Int) = some (reportName n) ∧ (reportName n).size ≤ 8 := by decide +kernel
theorem name_both (e : Int) : ∃ r : ByteArray, r.size ≤ 8 ∧ report_Name.f e = some r ∧ pestleref54_Name.f e = some r := by
  by_cases c : e < 0
  · refine ⟨⟨#[101, 114, 114, 111, 114]⟩, by decide, ?_, ?_⟩
    · unfold report_Name.f; rw [if_pos c]
    · unfold pestleref54_Name.f; rw [Option.bind_some, if_pos c]
  · by_cases c2 : e ≥ 17
    · refine ⟨⟨#[101, 114, 114, 111, 114]⟩, by decide, ?_, ?_⟩
      · unfold report_Name.f; rw [if_neg c, if_pos c2]
      · unfold pestleref54_Name.f; rw [Option.bind_some, if_neg c, if_pos (by omega)]
    · obtain ⟨n, rfl⟩ : ∃ n : Nat, e = n := ⟨e.toNat, by omega⟩
      obtain ⟨h1, h2⟩ := name_small n (by omega)
      refine ⟨reportName n, h2, ?_, h1⟩
      unfold report_Name.f
      rw [if_neg c, if_neg c2, Int.toNat_natCast]

theorem yes_both (b : Bool) : ∃ r : ByteArray, r.size ≤ 3 ∧ report_yes.f b = some r ∧ pestleref54_yes.f b = some r := by
  cases b
  · exact ⟨⟨#[110, 111]⟩, by decide, rfl, rfl⟩
  · exact ⟨⟨#[121, 101, 115]⟩, by decide, rfl, rfl⟩

theorem zh : (⟨#[104, 97, 115, 104, 101, 100, 32]⟩ : ByteArray).size = 7 := rfl
theorem zv : (⟨#[118, 101, 114, 105, 102, 105, 101, 100, 32]⟩ : ByteArray).size = 9 := rfl
theorem zs : (⟨#[115, 116, 97, 108, 101, 32]⟩ : ByteArray).size = 6 := rfl
theorem zr : (⟨#[114, 101, 102, 117, 115, 101, 100, 32]⟩ : ByteArray).size = 8 := rfl
theorem zi : (⟨#[32, 104, 105, 103, 104, 32]⟩ : ByteArray).size = 6 := rfl
theorem reply_both (kd : Int) (w t : ByteArray) (e : Int) (s : ByteArray) (b : Bool) (hi : Int) (hs : s.size ≤ 1000) (hh : hi < 9223372036854775808) :
    ∃ r : ByteArray, r.size ≤ 2000 ∧ Ev (fun k => report_Reply.f k kd w t e s b hi) r ∧ Ev (fun k => pestleref54_Reply.f k kd w t e s b hi) r := by
  have hl := numL_len hh
  by_cases c : e = 0
  · by_cases c1 : kd = 1
    · have s1 : 7 + s.size ≤ 9223372036854775807 := by omega
      have s2 : ((⟨#[104, 97, 115, 104, 101, 100, 32]⟩ : ByteArray) ++ s).size + 6 ≤ 9223372036854775807 := by simp only [ByteArray.size_append, zh, zv, zs, zr, zi, size_B]; omega
      have s3 : (((⟨#[104, 97, 115, 104, 101, 100, 32]⟩ : ByteArray) ++ s) ++ (⟨#[32, 104, 105, 103, 104, 32]⟩ : ByteArray)).size + (B (numL hi)).size ≤ 9223372036854775807 := by simp only [ByteArray.size_append, zh, zv, zs, zr, zi, size_B]; omega
      refine ⟨((⟨#[104, 97, 115, 104, 101, 100, 32]⟩ : ByteArray) ++ s) ++ (⟨#[32, 104, 105, 103, 104, 32]⟩ : ByteArray) ++ B (numL hi), ?_, ?_, ?_⟩
      · simp only [ByteArray.size_append, zh, zv, zs, zr, zi, size_B]; omega
      · refine Ev.congr (f := fun k => (dec_List.f k (⟨#[32]⟩ : ByteArray) [hi]).bind fun t117 => if (((⟨#[104, 97, 115, 104, 101, 100, 32]⟩ : ByteArray) ++ s) ++ (⟨#[32, 104, 105, 103, 104, 32]⟩ : ByteArray)).size + t117.size ≤ 9223372036854775807 then (some ((((⟨#[104, 97, 115, 104, 101, 100, 32]⟩ : ByteArray) ++ s) ++ (⟨#[32, 104, 105, 103, 104, 32]⟩ : ByteArray)) ++ t117)) else none) (fun k => ?_) (Ev.bind (list_one _ hi hh) ?_)
        · unfold report_Reply.f; rw [if_pos c, if_pos c1, if_pos s1, if_pos s2]
        · simp only [if_pos s3]; exact Ev.now _
      · refine Ev.congr (f := fun k => (pestleref54_num.f k hi).bind fun t117 => if (((⟨#[104, 97, 115, 104, 101, 100, 32]⟩ : ByteArray) ++ s) ++ (⟨#[32, 104, 105, 103, 104, 32]⟩ : ByteArray)).size + t117.size ≤ 9223372036854775807 then (some ((((⟨#[104, 97, 115, 104, 101, 100, 32]⟩ : ByteArray) ++ s) ++ (⟨#[32, 104, 105, 103, 104, 32]⟩ : ByteArray)) ++ t117)) else none) (fun k => ?_) (Ev.bind (rnum_f hi hh) ?_)
        · unfold pestleref54_Reply.f; rw [if_pos c, if_pos c1, if_pos s1, if_pos s2]
        · simp only [if_pos s3]; exact Ev.now _
    · obtain ⟨y, hy, hy1, hy2⟩ := yes_both b
      by_cases c2 : kd = 2
      · have s1 : 9 + y.size ≤ 9223372036854775807 := by omega
        have s2 : ((⟨#[118, 101, 114, 105, 102, 105, 101, 100, 32]⟩ : ByteArray) ++ y).size + 6 ≤ 9223372036854775807 := by simp only [ByteArray.size_append, zh, zv, zs, zr, zi, size_B]; omega
        have s3 : (((⟨#[118, 101, 114, 105, 102, 105, 101, 100, 32]⟩ : ByteArray) ++ y) ++ (⟨#[32, 104, 105, 103, 104, 32]⟩ : ByteArray)).size + (B (numL hi)).size ≤ 9223372036854775807 := by simp only [ByteArray.size_append, zh, zv, zs, zr, zi, size_B]; omega
        refine ⟨((⟨#[118, 101, 114, 105, 102, 105, 101, 100, 32]⟩ : ByteArray) ++ y) ++ (⟨#[32, 104, 105, 103, 104, 32]⟩ : ByteArray) ++ B (numL hi), ?_, ?_, ?_⟩
        · simp only [ByteArray.size_append, zh, zv, zs, zr, zi, size_B]; omega
        · refine Ev.congr (f := fun k => (dec_List.f k (⟨#[32]⟩ : ByteArray) [hi]).bind fun t117 => if (((⟨#[118, 101, 114, 105, 102, 105, 101, 100, 32]⟩ : ByteArray) ++ y) ++ (⟨#[32, 104, 105, 103, 104, 32]⟩ : ByteArray)).size + t117.size ≤ 9223372036854775807 then (some ((((⟨#[118, 101, 114, 105, 102, 105, 101, 100, 32]⟩ : ByteArray) ++ y) ++ (⟨#[32, 104, 105, 103, 104, 32]⟩ : ByteArray)) ++ t117)) else none) (fun k => ?_) (Ev.bind (list_one _ hi hh) ?_)
          · unfold report_Reply.f; rw [if_pos c, if_neg c1, if_pos c2, hy1, Option.bind_some, if_pos s1, if_pos s2]
          · simp only [if_pos s3]; exact Ev.now _
        · refine Ev.congr (f := fun k => (pestleref54_num.f k hi).bind fun t117 => if (((⟨#[118, 101, 114, 105, 102, 105, 101, 100, 32]⟩ : ByteArray) ++ y) ++ (⟨#[32, 104, 105, 103, 104, 32]⟩ : ByteArray)).size + t117.size ≤ 9223372036854775807 then (some ((((⟨#[118, 101, 114, 105, 102, 105, 101, 100, 32]⟩ : ByteArray) ++ y) ++ (⟨#[32, 104, 105, 103, 104, 32]⟩ : ByteArray)) ++ t117)) else none) (fun k => ?_) (Ev.bind (rnum_f hi hh) ?_)
          · unfold pestleref54_Reply.f; rw [if_pos c, if_neg c1, if_pos c2, hy2, Option.bind_some, if_pos s1, if_pos s2]
          · simp only [if_pos s3]; exact Ev.now _
      · have s1 : 6 + y.size ≤ 9223372036854775807 := by omega
        refine ⟨(⟨#[115, 116, 97, 108, 101, 32]⟩ : ByteArray) ++ y, ?_, ?_, ?_⟩
        · simp only [ByteArray.size_append, zh, zv, zs, zr, zi, size_B]; omega
        · exact Ev.congr (f := fun _ => _) (fun k => by unfold report_Reply.f; rw [if_pos c, if_neg c1, if_neg c2, hy1, Option.bind_some, if_pos s1]) (Ev.now _)
        · exact Ev.congr (f := fun _ => _) (fun k => by unfold pestleref54_Reply.f; rw [if_pos c, if_neg c1, if_neg c2, hy2, Option.bind_some, if_pos s1]) (Ev.now _)
  · obtain ⟨y, hy, hy1, hy2⟩ := name_both e
    have s1 : 8 + y.size ≤ 9223372036854775807 := by omega
    refine ⟨(⟨#[114, 101, 102, 117, 115, 101, 100, 32]⟩ : ByteArray) ++ y, ?_, ?_, ?_⟩
    · simp only [ByteArray.size_append, zh, zv, zs, zr, zi, size_B]; omega
    · exact Ev.congr (f := fun _ => _) (fun k => by unfold report_Reply.f; rw [if_neg c, hy1, Option.bind_some, if_pos s1]) (Ev.now _)
    · exact Ev.congr (f := fun _ => _) (fun k => by unfold pestleref54_Reply.f; rw [if_neg c, hy2, Option.bind_some, if_pos s1]) (Ev.now _)
end Go.Proofs.Ytdieefjolkhmpaa.PRpRep
