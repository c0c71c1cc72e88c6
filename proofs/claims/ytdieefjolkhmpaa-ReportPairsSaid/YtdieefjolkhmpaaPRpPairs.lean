/- Calls with their replies, and how many replies have which error: the program's and the reference's functions come to the same. -/
import Derived.Test.YtdieefjolkhmpaaPRpRep
import Derived.Test.YtdieefjolkhmpaaPRpLine
namespace Go.Proofs.Ytdieefjolkhmpaa.PRpPairs
open Go.RowKit Go.Proofs.Ytdieefjolkhmpaa.PRp Go.Proofs.YtdieefjolkhmpaaW.PrintWords Go.Proofs.YtdieefjolkhmpaaW.PrintLast Go.Proofs.YtdieefjolkhmpaaW.PrintMore Go.Proofs.Ytdieefjolkhmpaa.Base Go.Proofs.Ytdieefjolkhmpaa.PRpDec Go.Proofs.Ytdieefjolkhmpaa.PRpRep Go.Proofs.Ytdieefjolkhmpaa.PRpJoin Go.Proofs.Ytdieefjolkhmpaa.PRpLine
set_option linter.unusedSimpArgs false
set_option linter.unusedVariables false
attribute [local irreducible] IntKind.wrap bt lineS

theorem sumLen_cons (p : List UInt8) (r : List (List UInt8)) : sumLen (p :: r) = p.length + 1 + sumLen r := by simp [sumLen]
theorem joinL_len (c : UInt8) : ∀ P, (joinL c P).length ≤ sumLen P
  | [] => by simp [joinL]
  | [p] => by rw [sumLen_cons]; simp only [joinL]; omega
  | p :: q :: r => by
    have := joinL_len c (q :: r)
    rw [sumLen_cons]
    simp only [joinL, List.length_append, List.length_cons]
    omega
unseal lineS in
theorem lineS_small (kd : Int) (w t : ByteArray) (hw : w.size ≤ 300000) (ht : t.size ≤ 300000) : (lineS kd w t).1.size ≤ 2000000 := by
  unfold lineS
  split
  · show (⟨#[]⟩ : ByteArray).size ≤ _
    decide
  · split
    · show (⟨#[]⟩ : ByteArray).size ≤ _
      decide
    · split
      · show (⟨#[]⟩ : ByteArray).size ≤ _
        decide
      · show (B _).size ≤ _
        rw [size_B]
        have h1 := (sumLen_parts kd (L w) (L t) (by rw [L_size]; exact hw) (by rw [L_size]; exact ht)).1
        have h2 := joinL_len 32 (partsL kd (L w) (L t))
        omega

theorem za : (⟨#[32, 45, 62, 32]⟩ : ByteArray).size = 4 := rfl
theorem zn : (⟨#[10]⟩ : ByteArray).size = 1 := rfl
theorem zq : (⟨#[63, 32]⟩ : ByteArray).size = 2 := rfl
theorem bytesOf_app (acc : List UInt8) (s : ByteArray) : (acc.map fun b : UInt8 => (b.toNat : Int)) ++ bytesOf s = ((acc ++ L s).map fun b : UInt8 => (b.toNat : Int)) := by rw [bytesOf_L, List.map_append]

theorem pairs_both (l0 : List S23) (l1 : List S26) (hn : l0.length = l1.length) (hm : l0.length ≤ 1000) (h0 : ∀ i : Nat, i < l0.length → (rd_T23 l0 (i : Int)).f1.size ≤ 300 ∧ (rd_T23 l0 (i : Int)).f2.size ≤ 300)
    (h1 : ∀ i : Nat, i < l1.length → (rd_T26 l1 (i : Int)).f1.size ≤ 300 ∧ (rd_T26 l1 (i : Int)).f3 < 9223372036854775808) : ∀ (d i : Nat) (acc : List UInt8), i + d = l0.length → acc.length ≤ i * 3000000 →
    ∃ out : ByteArray, Ev (fun k => report_Pairs.l0 k l1 (acc.map fun b : UInt8 => (b.toNat : Int)) l0 (l0.length : Int) (i : Int)) (out, 0) ∧ Ev (fun k => pestleref54_Pairs.l0 k l0 l1 (B acc) (i : Int)) out := by
  intro d
  induction d with
  | zero =>
    intro i acc hi ha
    refine ⟨B acc, ?_, ?_⟩
    · exact Ev.step (f := fun _ => _) (fun k => by simp only [report_Pairs.l0]; rw [if_neg (by omega), nums_B]) (Ev.now _)
    · exact Ev.step (f := fun _ => _) (fun k => by simp only [pestleref54_Pairs.l0]; rw [if_neg (by omega)]) (Ev.now _)
  | succ d ih =>
    intro i acc hi ha
    obtain ⟨b1, b2⟩ := h0 i (by omega)
    obtain ⟨b3, b4⟩ := h1 i (by omega)
    have e1 := nx (i := i) (by omega)
    have hA := line_f (rd_T23 l0 (i : Int)).f0 (rd_T23 l0 (i : Int)).f1 (rd_T23 l0 (i : Int)).f2 (by omega) (by omega)
    have hB := rline_f (rd_T23 l0 (i : Int)).f0 (rd_T23 l0 (i : Int)).f1 (rd_T23 l0 (i : Int)).f2 (by omega) (by omega)
    have hC := lineS_small (rd_T23 l0 (i : Int)).f0 (rd_T23 l0 (i : Int)).f1 (rd_T23 l0 (i : Int)).f2 (by omega) (by omega)
    obtain ⟨r, hr, r1, r2⟩ := reply_both (rd_T23 l0 (i : Int)).f0 (rd_T23 l0 (i : Int)).f1 (rd_T23 l0 (i : Int)).f2 (rd_T26 l1 (i : Int)).f0 (rd_T26 l1 (i : Int)).f1 (rd_T26 l1 (i : Int)).f2 (rd_T26 l1 (i : Int)).f3 (by omega) b4
    have hac : acc.length ≤ 3000000000 := Nat.le_trans ha (by omega)
    have hap : ((acc.map fun b : UInt8 => (b.toNat : Int))).length = acc.length := List.length_map _
    generalize lineS (rd_T23 l0 (i : Int)).f0 (rd_T23 l0 (i : Int)).f1 (rd_T23 l0 (i : Int)).f2 = le at *
    obtain ⟨s, e⟩ := le
    simp only at hC
    by_cases ce : e = 0
    · obtain ⟨out, o1, o2⟩ := ih (i + 1) (acc ++ L (((s ++ (⟨#[32, 45, 62, 32]⟩ : ByteArray)) ++ r) ++ (⟨#[10]⟩ : ByteArray))) (by omega) (by rw [List.length_append, L_size]; simp only [ByteArray.size_append, za, zn]; omega)
      refine ⟨out, ?_, ?_⟩
      · refine Ev.step (fun k => by simp only [report_Pairs.l0]; rw [if_pos (by omega), if_pos (by omega), if_pos (by omega), e1.out]) ?_
        refine Ev.bind hA ?_
        refine Ev.congr (fun k => if_pos ce) ?_
        refine Ev.congr (fun k => by rw [if_pos (show s.size + 4 ≤ 9223372036854775807 by omega), if_pos (by omega)]) ?_
        refine Ev.bind r1 ?_
        refine Ev.congr (fun k => by rw [if_pos (by simp only [ByteArray.size_append, za, zn]; omega), if_pos (by simp only [ByteArray.size_append, za, zn]; omega), if_pos (by rw [hap]; simp only [ByteArray.size_append, za, zn]; omega), bytesOf_app]) o1
      · refine Ev.step (fun k => by simp only [pestleref54_Pairs.l0]; rw [if_pos (by omega), if_pos (by omega), e1.out]) ?_
        refine Ev.bind hB ?_
        refine Ev.congr (fun k => if_pos ce) ?_
        refine Ev.congr (fun k => by rw [if_pos (show (B acc).size + s.size ≤ 9223372036854775807 by rw [size_B]; omega), if_pos (by simp only [ByteArray.size_append, size_B]; omega), if_pos (by omega)]) ?_
        refine Ev.bind r2 ?_
        have q : B (acc ++ L (((s ++ (⟨#[32, 45, 62, 32]⟩ : ByteArray)) ++ r) ++ (⟨#[10]⟩ : ByteArray))) = (((B acc ++ s) ++ (⟨#[32, 45, 62, 32]⟩ : ByteArray)) ++ r) ++ (⟨#[10]⟩ : ByteArray) := by rw [← L_inj]; simp only [L_append, L_B, List.append_assoc]
        rw [q] at o2
        exact Ev.congr (fun k => by rw [if_pos (by simp only [ByteArray.size_append, za, zn, size_B]; omega), if_pos (by simp only [ByteArray.size_append, za, zn, size_B]; omega)]) o2
    · obtain ⟨n, hn8, n1, n2⟩ := name_both e
      obtain ⟨out, o1, o2⟩ := ih (i + 1) (acc ++ L (((((⟨#[63, 32]⟩ : ByteArray) ++ n) ++ (⟨#[32, 45, 62, 32]⟩ : ByteArray)) ++ r) ++ (⟨#[10]⟩ : ByteArray))) (by omega) (by rw [List.length_append, L_size]; simp only [ByteArray.size_append, za, zn, zq]; omega)
      refine ⟨out, ?_, ?_⟩
      · refine Ev.step (fun k => by simp only [report_Pairs.l0]; rw [if_pos (by omega), if_pos (by omega), if_pos (by omega), e1.out]) ?_
        refine Ev.bind hA ?_
        refine Ev.congr (fun k => if_neg ce) ?_
        refine Ev.congr (fun k => by
          show (report_Name.f e).bind _ = _
          rw [n1, Option.bind_some, if_pos (show 2 + n.size ≤ 9223372036854775807 by omega), if_pos (by simp only [ByteArray.size_append, zq]; omega), if_pos (by omega)]) ?_
        refine Ev.bind r1 ?_
        exact Ev.congr (fun k => by rw [if_pos (by simp only [ByteArray.size_append, za, zn, zq]; omega), if_pos (by simp only [ByteArray.size_append, za, zn, zq]; omega), if_pos (by rw [hap]; simp only [ByteArray.size_append, za, zn, zq]; omega), bytesOf_app]) o1
      · refine Ev.step (fun k => by simp only [pestleref54_Pairs.l0]; rw [if_pos (by omega), if_pos (by omega), e1.out]) ?_
        refine Ev.bind hB ?_
        refine Ev.congr (fun k => if_neg ce) ?_
        refine Ev.congr (fun k => by
          show (pestleref54_Name.f e).bind _ = _
          rw [n2, Option.bind_some, if_pos (show 2 + n.size ≤ 9223372036854775807 by omega), if_pos (by simp only [ByteArray.size_append, zq, size_B]; omega), if_pos (by simp only [ByteArray.size_append, zq, size_B]; omega), if_pos (by omega)]) ?_
        refine Ev.bind r2 ?_
        have q : B (acc ++ L (((((⟨#[63, 32]⟩ : ByteArray) ++ n) ++ (⟨#[32, 45, 62, 32]⟩ : ByteArray)) ++ r) ++ (⟨#[10]⟩ : ByteArray))) = (((B acc ++ ((⟨#[63, 32]⟩ : ByteArray) ++ n)) ++ (⟨#[32, 45, 62, 32]⟩ : ByteArray)) ++ r) ++ (⟨#[10]⟩ : ByteArray) := by rw [← L_inj]; simp only [L_append, L_B, List.append_assoc]
        rw [q] at o2
        exact Ev.congr (fun k => by rw [if_pos (by simp only [ByteArray.size_append, za, zn, zq, size_B]; omega), if_pos (by simp only [ByteArray.size_append, za, zn, zq, size_B]; omega)]) o2
end Go.Proofs.Ytdieefjolkhmpaa.PRpPairs
