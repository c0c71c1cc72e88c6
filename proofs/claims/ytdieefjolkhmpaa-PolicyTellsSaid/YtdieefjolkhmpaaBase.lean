/- Texts as lists of bytes, and whole numbers that need no wrap: words that several plain laws use. -/
import Derived.Test.YtdieefjolkhmpaaWWords
import Derived.Test.YtdieefjolkhmpaaWLast
import Derived.Test.YtdieefjolkhmpaaWMore
import Derived.Lib.Strings
import Derived.Laws.Bits64b
namespace Go.Proofs.Ytdieefjolkhmpaa.Base
open Go.RowKit Go.Proofs.YtdieefjolkhmpaaW.PrintWords Go.Proofs.YtdieefjolkhmpaaW.PrintLast Go.Proofs.YtdieefjolkhmpaaW.PrintMore

theorem u64w {n : Int} (h0 : 0 ≤ n) (h1 : n < 18446744073709551616) : IntKind.u64.wrap n = n := by rw [IntKind.wrap_u64]; omega
theorem w64 {n : Int} (h0 : -9223372036854775808 ≤ n) (h1 : n < 9223372036854775808) : wrap64 n = n := by unfold wrap64; omega
theorem tmod_cast (a b : Nat) : Int.tmod (a : Int) (b : Int) = ((a % b : Nat) : Int) := by
  rw [Int.tmod_eq_emod_of_nonneg (by omega)]; rfl
theorem tdiv_cast (a b : Nat) : Int.tdiv (a : Int) (b : Int) = ((a / b : Nat) : Int) := by
  rw [Int.tdiv_eq_ediv_of_nonneg (by omega)]; rfl

/- An equation that linear arithmetic is not to see is held as 'Aside0'. -/
theorem nx {i : Nat} (h : i ≤ 2000000) : Aside0 (wrap64 ((i : Int) + 1) = ((i + 1 : Nat) : Int)) := ⟨by rw [w64 (by omega) (by omega)]; omega⟩
theorem nx2 {i : Nat} (h : i ≤ 2000000) : Aside0 (wrap64 ((i : Int) + 2) = ((i + 2 : Nat) : Int)) := ⟨by rw [w64 (by omega) (by omega)]; omega⟩
theorem tw {i : Nat} (h : i ≤ 2000000) : Aside0 (wrap64 (2 * (i : Int)) = ((2 * i : Nat) : Int)) := ⟨by rw [w64 (by omega) (by omega)]; omega⟩
/-- A text's bytes. -/
def L (s : ByteArray) : List UInt8 := s.data.toList
/-- The text of bytes. -/
def B (l : List UInt8) : ByteArray := ⟨l.toArray⟩
@[simp] theorem L_B (l : List UInt8) : L (B l) = l := by simp [L, B]
@[simp] theorem B_L (s : ByteArray) : B (L s) = s := by
  cases s with
  | mk d => exact congrArg ByteArray.mk (Array.toArray_toList)
theorem L_inj {s t : ByteArray} : L s = L t ↔ s = t := ⟨fun h => by rw [← B_L s, h, B_L], fun h => by rw [h]⟩
theorem toList_L (s : ByteArray) : s.toList = L s := ByteArray.toList_eq s
theorem L_size (s : ByteArray) : (L s).length = s.size := Array.length_toList
theorem size_B (l : List UInt8) : (B l).size = l.length := by rw [← L_size, L_B]
@[simp] theorem L_append (s t : ByteArray) : L (s ++ t) = L s ++ L t := by simp [L]
theorem B_append (a b : List UInt8) : B (a ++ b) = B a ++ B b := by rw [← L_inj]; simp
theorem L_extract (s : ByteArray) (a b : Nat) : L (s.extract a b) = ((L s).take b).drop a := by
  simp [L, List.extract_eq_take_drop, List.drop_take]
theorem L_nil : L (⟨#[]⟩ : ByteArray) = [] := rfl
theorem B_nil : B [] = (⟨#[]⟩ : ByteArray) := rfl
theorem toList_nil (s : ByteArray) : s.toList = ([] : List UInt8) ↔ L s = [] := by rw [toList_L]
theorem L_eq_nil {s : ByteArray} : L s = [] ↔ s = ⟨#[]⟩ := by
  constructor
  · intro h
    rw [← B_L s, h]
    rfl
  · intro h
    rw [h]
    rfl

theorem bt_L (s : ByteArray) (i : Nat) (h : i < (L s).length) : bt s (i : Int) = (((L s)[i]'h).toNat : Int) := by
  have := bt_at s (i : Int) (by rw [L_size] at h; simpa using h)
  rw [← this]
  rfl
/-- What is left of a text, from a place on. -/
theorem left_cons {s : ByteArray} {i : Nat} {x : UInt8} {r : List UInt8} (h : (L s).drop i = x :: r) : i < s.size ∧ Aside0 (bt s (i : Int) = (x.toNat : Int)) ∧ (L s).drop (i + 1) = r := by
  have hl : i < (L s).length := by
    rcases Nat.lt_or_ge i (L s).length with h1 | h1
    · exact h1
    · rw [List.drop_eq_nil_of_le h1] at h; cases h
  rw [List.drop_eq_getElem_cons hl] at h
  injection h with h1 h2
  refine ⟨by rw [← L_size]; exact hl, ⟨?_⟩, h2⟩
  rw [bt_L s i hl, h1]
theorem left_nil {s : ByteArray} {i : Nat} (h : (L s).drop i = []) : s.size ≤ i := by
  rw [← L_size]
  exact List.drop_eq_nil_iff.1 h
theorem left_len {s : ByteArray} {i : Nat} {r : List UInt8} (h : (L s).drop i = r) (hi : i ≤ s.size) : i + r.length = s.size := by
  rw [← h, List.length_drop, L_size]
  omega

theorem nums_B (l : List UInt8) : strOfNums (l.map fun b => (b.toNat : Int)) = B l := by
  unfold strOfNums B
  congr 2
  rw [List.map_map]
  conv => rhs; rw [← List.map_id l]
  refine List.map_congr_left (fun b _ => ?_)
  simp
theorem bytesOf_L (s : ByteArray) : bytesOf s = (L s).map fun b => (b.toNat : Int) := rfl
theorem nums_bytes (s : ByteArray) : strOfNums (bytesOf s) = s := by rw [bytesOf_L, nums_B, B_L]
theorem byte_of (n : Nat) (h : n < 256) : (n : Int) = ((UInt8.ofNat n).toNat : Int) := by simp [UInt8.toNat_ofNat']; omega

end Go.Proofs.Ytdieefjolkhmpaa.Base
