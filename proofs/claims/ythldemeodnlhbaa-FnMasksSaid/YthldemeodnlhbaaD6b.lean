/-
  Matrices and masks: plain laws with no program in sight.
-/
import Derived.Test.YthldemeodnlhbaaD6a
namespace Go.Proofs.Ythldemeodnlhbaa.R
open Go
noncomputable section
set_option linter.unusedVariables false
set_option linter.unusedSimpArgs false
def turn9 (i : Nat) : Nat := 3 * (i % 3) + i / 3
theorem turn9_lt {i : Nat} (h : i < 9) : turn9 i < 9 := by unfold turn9; omega
theorem turn9_turn9 : ∀ i : Nat, i < 9 → turn9 (turn9 i) = i := by decide
theorem all_turn (p : Nat → Bool) : allFrom (fun i => p (turn9 i)) 9 0 = allFrom p 9 0 := by
  rw [Bool.eq_iff_iff, allFrom_iff, allFrom_iff]
  exact ⟨fun h i hi => by have := h (turn9 i) (turn9_lt hi); rwa [turn9_turn9 i hi] at this, fun h i hi => h _ (turn9_lt hi)⟩
theorem all_congr {p q : Nat → Bool} (h : ∀ i, i < 9 → p i = q i) : allFrom p 9 0 = allFrom q 9 0 := by
  rw [Bool.eq_iff_iff, allFrom_iff, allFrom_iff]
  exact ⟨fun h1 i hi => by rw [← h i hi]; exact h1 i hi, fun h1 i hi => by rw [h i hi]; exact h1 i hi⟩
theorem trans_def {m : ByteArray} (h : matV m = true) : transV m = bytesOfF 9 (fun j => F.int .u8 (byteAt m (turn9 j : Nat))) := by
  unfold transV
  rw [h, cond_true]
  rfl
theorem trans_size {m : ByteArray} (h : matV m = true) : (transV m).size = 9 := by
  rw [trans_def h]; exact bytesOfF_size _ _
theorem trans_at {m : ByteArray} (h : matV m = true) {i : Nat} (hi : i < 9) : byteAt (transV m) i = byteAt m (turn9 i : Nat) := by
  rw [trans_def h]
  exact byteAt_bytesOf hi rfl (byteAt_rng _ _).1 (byteAt_rng _ _).2
theorem trans_empty (m : ByteArray) : ((transV m).toList == (ByteArray.mk #[]).toList) = !matV m := by
  cases h : matV m with
  | false => unfold transV; rw [h]; exact toList_eq.2 rfl
  | true =>
    cases hb : (transV m).toList == (ByteArray.mk #[]).toList with
    | false => rfl
    | true =>
      have := trans_size h
      rw [toList_eq.1 hb] at this
      cases this
theorem mat_iff (m : ByteArray) : matV m = true ↔ m.size = 9 ∧ ∀ i, i < 9 → okm (byteAt m (i : Nat)) = true := by
  unfold matV; rw [Bool.and_eq_true, decide_eq_true_eq, allFrom_iff]
theorem mask_iff (m : ByteArray) : maskV m = true ↔ m.size = 9 ∧ ∀ i, i < 9 → okc (byteAt m (i : Nat)) = true := by
  unfold maskV; rw [Bool.and_eq_true, decide_eq_true_eq, allFrom_iff]
theorem okm_cases {b : Int} (h : okm b = true) : b = 70 ∨ b = 48 ∨ b = 49 ∨ b = 50 := by
  unfold okm at h
  simp only [Bool.or_eq_true, Bool.and_eq_true, beq_iff_eq, decide_eq_true_eq] at h
  omega
theorem okm_okc {b : Int} (h : okm b = true) : okc b = true := by
  rcases okm_cases h with rfl | rfl | rfl | rfl <;> decide
theorem okp_self {b : Int} (h : okm b = true) : okp b b = true := by
  rcases okm_cases h with rfl | rfl | rfl | rfl <;> decide
theorem mat_mask {m : ByteArray} (h : matV m = true) : maskV m = true := by
  rw [mat_iff] at h; rw [mask_iff]
  exact ⟨h.1, fun i hi => okm_okc (h.2 i hi)⟩
theorem meet_self {m : ByteArray} (h : matV m = true) : meetV m m = true := by
  unfold meetV
  rw [h, mat_mask h, Bool.true_and, Bool.true_and, allFrom_iff]
  rw [mat_iff] at h
  exact fun i hi => okp_self (h.2 i hi)
def stars : ByteArray := ⟨#[42, 42, 42, 42, 42, 42, 42, 42, 42]⟩
theorem stars_at : ∀ i : Nat, i < 9 → byteAt stars i = 42 := by decide +kernel
theorem meet_stars {m : ByteArray} (h : matV m = true) : meetV m stars = true := by
  unfold meetV
  have hm : maskV stars = true := by decide +kernel
  rw [h, hm, Bool.true_and, Bool.true_and, allFrom_iff]
  intro i hi
  rw [stars_at i hi]
  rfl
theorem mat_trans {m : ByteArray} (h : matV m = true) : matV (transV m) = true := by
  rw [mat_iff]
  refine ⟨trans_size h, fun i hi => ?_⟩
  rw [trans_at h hi]
  exact ((mat_iff m).1 h).2 _ (turn9_lt hi)
theorem trans_trans {m : ByteArray} (h : matV m = true) : transV (transV m) = m := by
  refine text_ext (by rw [trans_size (mat_trans h)]; exact ((mat_iff m).1 h).1.symm) fun i hi => ?_
  rw [trans_size (mat_trans h)] at hi
  rw [trans_at (mat_trans h) hi, trans_at h (turn9_lt hi), turn9_turn9 i hi]
theorem meet_turned {m k t : ByteArray} (h : matV m = true) (hk : k.size = 9) (ht : t.size = 9) (hb : ∀ i, i < 9 → byteAt t (i : Nat) = byteAt k (turn9 i : Nat)) : meetV (transV m) t = meetV m k := by
  have hmask : maskV t = maskV k := by
    unfold maskV
    rw [hk, ht, all_congr (q := fun i => okc (byteAt k (turn9 i : Nat))) fun i hi => by rw [hb i hi], all_turn (fun i => okc (byteAt k (i : Nat)))]
  unfold meetV
  rw [h, mat_trans h, hmask, all_congr (q := fun i => okp (byteAt m (turn9 i : Nat)) (byteAt k (turn9 i : Nat))) fun i hi => by rw [hb i hi, trans_at h hi], all_turn (fun i => okp (byteAt m (i : Nat)) (byteAt k (i : Nat)))]
theorem meet_nomat {m k : ByteArray} (h : matV m = false) : meetV m k = false := by unfold meetV; rw [h]; rfl
theorem meet_nomask {m k : ByteArray} (h : maskV k = false) : meetV m k = false := by unfold meetV; rw [h]; simp
end
end Go.Proofs.Ythldemeodnlhbaa.R
