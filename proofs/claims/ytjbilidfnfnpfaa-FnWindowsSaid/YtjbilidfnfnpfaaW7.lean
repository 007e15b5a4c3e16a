/-
  A segment that meets a box meets a greater one: a plain law with no program in sight.
-/
import Derived.Test.YtjbilidfnfnpfaaW6
namespace Go.Proofs.Ytjbilidfnfnpfaa.R
open Go
set_option linter.unusedVariables false
set_option linter.unusedSimpArgs false
theorem mul_bound {a b : Int} {M N : Nat} (ha : -(M : Int) ≤ a ∧ a ≤ M) (hb : -(N : Int) ≤ b ∧ b ≤ N) : -((M * N : Nat) : Int) ≤ a * b ∧ a * b ≤ ((M * N : Nat) : Int) := by
  have h1 : a.natAbs ≤ M := by omega
  have h2 : b.natAbs ≤ N := by omega
  have h3 : (a * b).natAbs ≤ M * N := by rw [Int.natAbs_mul]; exact Nat.mul_le_mul h1 h2
  omega
def lin (dx dy x0 y0 x y : Int) : Int := dx * (y - y0) - dy * (x - x0)
theorem lin_pos {dx dy x0 y0 x y X0 Y0 X1 Y1 : Int} (hx : X0 ≤ x ∧ x ≤ X1) (hy : Y0 ≤ y ∧ y ≤ Y1) (h1 : 0 < lin dx dy x0 y0 X0 Y0) (h2 : 0 < lin dx dy x0 y0 X0 Y1) (h3 : 0 < lin dx dy x0 y0 X1 Y0) (h4 : 0 < lin dx dy x0 y0 X1 Y1) : 0 < lin dx dy x0 y0 x y := by
  simp only [lin, Int.mul_sub] at *
  rcases Int.le_total 0 dx with hdx | hdx <;> rcases Int.le_total 0 dy with hdy | hdy
  · have a := Int.mul_le_mul_of_nonneg_left hy.1 hdx
    have b := Int.mul_le_mul_of_nonneg_left hx.2 hdy
    omega
  · have a := Int.mul_le_mul_of_nonneg_left hy.1 hdx
    have b := Int.mul_le_mul_of_nonpos_left hdy hx.1
    omega
  · have a := Int.mul_le_mul_of_nonpos_left hdx hy.2
    have b := Int.mul_le_mul_of_nonneg_left hx.2 hdy
    omega
  · have a := Int.mul_le_mul_of_nonpos_left hdx hy.2
    have b := Int.mul_le_mul_of_nonpos_left hdy hx.1
    omega
theorem lin_neg {dx dy x0 y0 x y : Int} : lin (-dx) (-dy) x0 y0 x y = -lin dx dy x0 y0 x y := by
  simp only [lin, Int.neg_mul]
  omega
/-- Of spots in bounds the machine counts as one does. -/
theorem cross_exact {x0 y0 x1 y1 x2 y2 : Int} (h0 : -2000000 ≤ x0 ∧ x0 ≤ 2000000) (h1 : -2000000 ≤ y0 ∧ y0 ≤ 2000000) (h2 : -2000000 ≤ x1 ∧ x1 ≤ 2000000) (h3 : -2000000 ≤ y1 ∧ y1 ≤ 2000000) (h4 : -2000000 ≤ x2 ∧ x2 ≤ 2000000) (h5 : -2000000 ≤ y2 ∧ y2 ≤ 2000000) :
    crossW x0 y0 x1 y1 x2 y2 = lin (x1 - x0) (y1 - y0) x0 y0 x2 y2 := by
  unfold crossW lin
  have a := mul_bound (a := x1 - x0) (b := y2 - y0) (M := 4000000) (N := 4000000) (by omega) (by omega)
  have b := mul_bound (a := y1 - y0) (b := x2 - x0) (M := 4000000) (N := 4000000) (by omega) (by omega)
  rw [wrapi (x := x1 - x0) (by omega) (by omega), wrapi (x := y2 - y0) (by omega) (by omega), wrapi (x := y1 - y0) (by omega) (by omega), wrapi (x := x2 - x0) (by omega) (by omega),
    wrapi (x := (x1 - x0) * (y2 - y0)) (by omega) (by omega), wrapi (x := (y1 - y0) * (x2 - x0)) (by omega) (by omega), wrapi (by omega) (by omega)]
theorem sign_one {n : Int} : (signV n == 1) = decide (0 < n) := by
  unfold signV
  by_cases h : n < 0
  · rw [decide_eq_true h, decide_eq_false (by omega)]; rfl
  · rw [decide_eq_false h]
    by_cases h2 : n > 0
    · have e : decide (n > 0) = decide (0 < n) := rfl
      rw [e, decide_eq_true h2]; rfl
    · have e : decide (n > 0) = decide (0 < n) := rfl
      rw [e, decide_eq_false h2]; rfl
theorem sign_minus {n : Int} : (signV n == -1) = decide (n < 0) := by
  unfold signV
  by_cases h : n < 0
  · rw [decide_eq_true h]; rfl
  · rw [decide_eq_false h]
    by_cases h2 : n > 0
    · rw [decide_eq_true h2]; rfl
    · rw [decide_eq_false h2]; rfl
theorem meets_grown {x0 y0 x1 y1 lx ly hx hy LX LY HX HY : Int} (hs : -1000000 ≤ x0 ∧ x0 ≤ 1000000 ∧ -1000000 ≤ y0 ∧ y0 ≤ 1000000 ∧ -1000000 ≤ x1 ∧ x1 ≤ 1000000 ∧ -1000000 ≤ y1 ∧ y1 ≤ 1000000)
    (hb : -1000000 ≤ LX ∧ -1000000 ≤ LY ∧ HX ≤ 1000000 ∧ HY ≤ 1000000) (bx : LX ≤ lx ∧ lx ≤ hx ∧ hx ≤ HX) (bb : LY ≤ ly ∧ ly ≤ hy ∧ hy ≤ HY)
    (h : meetsV x0 y0 x1 y1 lx ly hx hy = true) : meetsV x0 y0 x1 y1 LX LY HX HY = true := by
  have ex : ∀ x y : Int, LX ≤ x → x ≤ HX → LY ≤ y → y ≤ HY → crossW x0 y0 x1 y1 x y = lin (x1 - x0) (y1 - y0) x0 y0 x y := fun x y a b c d => cross_exact (by omega) (by omega) (by omega) (by omega) (by omega) (by omega)
  unfold meetsV turnV at *
  simp only [sign_one, sign_minus] at *
  rw [ex lx ly (by omega) (by omega) (by omega) (by omega), ex hx hy (by omega) (by omega) (by omega) (by omega), ex lx hy (by omega) (by omega) (by omega) (by omega), ex hx ly (by omega) (by omega) (by omega) (by omega)] at h
  rw [ex LX LY (by omega) (by omega) (by omega) (by omega), ex HX HY (by omega) (by omega) (by omega) (by omega), ex LX HY (by omega) (by omega) (by omega) (by omega), ex HX LY (by omega) (by omega) (by omega) (by omega)]
  have pos : ∀ (dx dy : Int), 0 < lin dx dy x0 y0 LX LY → 0 < lin dx dy x0 y0 HX HY → 0 < lin dx dy x0 y0 LX HY → 0 < lin dx dy x0 y0 HX LY → ∀ x y : Int, LX ≤ x → x ≤ HX → LY ≤ y → y ≤ HY → 0 < lin dx dy x0 y0 x y := fun dx dy a b c d x y e f g h => lin_pos ⟨e, f⟩ ⟨g, h⟩ a c d b
  have p1 := pos (x1 - x0) (y1 - y0)
  have p2 := pos (-(x1 - x0)) (-(y1 - y0))
  simp only [lin_neg] at p2
  simp only [Bool.and_eq_true, Bool.not_eq_true', Bool.and_eq_false_iff, decide_eq_false_iff_not, apartV, Bool.or_eq_false_iff] at h ⊢
  obtain ⟨⟨a1, a2, a3, a4⟩, b, c⟩ := h
  refine ⟨⟨by omega, by omega, by omega, by omega⟩, ?_, ?_⟩
  · by_cases k1 : 0 < lin (x1 - x0) (y1 - y0) x0 y0 LX LY
    · by_cases k2 : 0 < lin (x1 - x0) (y1 - y0) x0 y0 HX HY
      · by_cases k3 : 0 < lin (x1 - x0) (y1 - y0) x0 y0 LX HY
        · by_cases k4 : 0 < lin (x1 - x0) (y1 - y0) x0 y0 HX LY
          · have q := p1 k1 k2 k3 k4
            have q1 := q lx ly (by omega) (by omega) (by omega) (by omega)
            have q2 := q hx hy (by omega) (by omega) (by omega) (by omega)
            have q3 := q lx hy (by omega) (by omega) (by omega) (by omega)
            have q4 := q hx ly (by omega) (by omega) (by omega) (by omega)
            exfalso
            rcases b with ((b | b) | b) | b
            · exact b q1
            · exact b q2
            · exact b q3
            · exact b q4
          · exact .inr k4
        · exact .inl (.inr k3)
      · exact .inl (.inl (.inr k2))
    · exact .inl (.inl (.inl k1))
  · by_cases k1 : lin (x1 - x0) (y1 - y0) x0 y0 LX LY < 0
    · by_cases k2 : lin (x1 - x0) (y1 - y0) x0 y0 HX HY < 0
      · by_cases k3 : lin (x1 - x0) (y1 - y0) x0 y0 LX HY < 0
        · by_cases k4 : lin (x1 - x0) (y1 - y0) x0 y0 HX LY < 0
          · have q := p2 (by omega) (by omega) (by omega) (by omega)
            have q1 := q lx ly (by omega) (by omega) (by omega) (by omega)
            have q2 := q hx hy (by omega) (by omega) (by omega) (by omega)
            have q3 := q lx hy (by omega) (by omega) (by omega) (by omega)
            have q4 := q hx ly (by omega) (by omega) (by omega) (by omega)
            exfalso
            rcases c with ((c | c) | c) | c <;> omega
          · exact .inr k4
        · exact .inl (.inr k3)
      · exact .inl (.inl (.inr k2))
    · exact .inl (.inl (.inl k1))
end Go.Proofs.Ytjbilidfnfnpfaa.R
