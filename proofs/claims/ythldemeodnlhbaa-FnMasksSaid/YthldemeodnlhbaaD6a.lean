/-
  Texts, byte by byte: plain laws with no program in sight.
-/
import Derived.Test.YthldemeodnlhbaaD5
namespace Go.Proofs.Ythldemeodnlhbaa.R
open Go
set_option linter.unusedVariables false
set_option linter.unusedSimpArgs false
theorem toList_loop (a : ByteArray) : ∀ (d i : Nat) (r : List UInt8), a.size - i = d → ByteArray.toList.loop a i r = r.reverse ++ a.data.toList.drop i
  | 0, i, r, h => by
    rw [ByteArray.toList.loop]
    have : ¬ i < a.size := by omega
    rw [if_neg this]
    have hl : a.data.toList.length ≤ i := by simp only [Array.length_toList]; have : a.data.size = a.size := rfl; omega
    rw [List.drop_eq_nil_of_le hl]
    simp
  | d + 1, i, r, h => by
    rw [ByteArray.toList.loop]
    have hi : i < a.size := by omega
    rw [if_pos hi, toList_loop a d (i + 1) _ (by omega)]
    have hl : i < a.data.toList.length := by simp only [Array.length_toList]; exact hi
    rw [List.drop_eq_getElem_cons hl]
    have : a.get! i = a.data.toList[i] := by
      unfold ByteArray.get!
      have hi' : i < a.data.size := hi
      simp only [Array.getElem_toList]
      exact getElem!_pos a.data i hi'
    rw [this]
    simp
theorem toList_data (a : ByteArray) : a.toList = a.data.toList := by
  have := toList_loop a a.size 0 [] (by omega)
  simpa [ByteArray.toList] using this
theorem toList_eq {a b : ByteArray} : (a.toList == b.toList) = true ↔ a = b := by
  rw [beq_iff_eq, toList_data, toList_data]
  constructor
  · intro h
    cases a; cases b
    simp only at h
    rw [Array.toList_inj.1 h]
  · intro h; rw [h]
theorem byteAt_getElem {a : ByteArray} {i : Nat} (h : i < a.data.toList.length) : byteAt a (i : Int) = (a.data.toList[i]).toNat := by
  unfold byteAt
  simp [List.getD, List.getElem?_eq_getElem h]
theorem text_ext {a b : ByteArray} (hs : a.size = b.size) (h : ∀ i : Nat, i < a.size → byteAt a i = byteAt b i) : a = b := by
  refine toList_eq.1 (beq_iff_eq.2 ?_)
  rw [toList_data, toList_data]
  apply List.ext_getElem
  · simp only [Array.length_toList]; exact hs
  · intro i h1 h2
    have h1' : i < a.size := by simp only [Array.length_toList] at h1; exact h1
    have := h i h1'
    rw [byteAt_getElem h1, byteAt_getElem h2] at this
    exact UInt8.toNat_inj.1 (by omega)
theorem byteAt_left {a b : ByteArray} {i : Nat} (h : i < a.size) : byteAt (a ++ b) i = byteAt a i := by
  unfold byteAt
  rw [ByteArray.data_append, Array.toList_append]
  simp only [Int.toNat_natCast, List.getD]
  rw [List.getElem?_append_left (by simp only [Array.length_toList]; exact h)]
theorem byteAt_right {a b : ByteArray} {i : Nat} (h : a.size ≤ i) : byteAt (a ++ b) i = byteAt b ((i - a.size : Nat) : Int) := by
  unfold byteAt
  rw [ByteArray.data_append, Array.toList_append]
  simp only [Int.toNat_natCast, List.getD]
  rw [List.getElem?_append_right (by simp only [Array.length_toList]; exact h)]
  rfl
theorem byteAt_extract {a : ByteArray} {i j k : Nat} (h : k < j - i) (hj : j ≤ a.size) : byteAt (a.extract i j) k = byteAt a ((i + k : Nat) : Int) := by
  unfold byteAt
  rw [ByteArray.data_extract, Array.toList_extract]
  simp only [Int.toNat_natCast, List.getD, List.extract_eq_take_drop]
  rw [List.getElem?_take, if_pos h, List.getElem?_drop]
theorem byteAt_bytesOf {n : Nat} {g : Nat → F} {j : Nat} {b : Int} (hj : j < n) (hg : g j = .int .u8 b) (h0 : 0 ≤ b) (h1 : b < 256) : byteAt (bytesOfF n g) j = b := by
  have hl : j < (bytesOfF n g).data.toList.length := by rw [bytesOfF_data, List.length_map, List.length_range]; exact hj
  rw [byteAt_getElem hl]
  have : (bytesOfF n g).data.toList[j] = UInt8.ofNat b.toNat := by
    simp only [bytesOfF_data, List.getElem_map, List.getElem_range, hg]
  rw [this, UInt8.toNat_ofNat']
  omega
theorem allFrom_iff (p : Nat → Bool) (n : Nat) : allFrom p n 0 = true ↔ ∀ i, i < n → p i = true := by
  simp [allFrom]
end Go.Proofs.Ythldemeodnlhbaa.R
