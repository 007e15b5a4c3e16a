/-
  The walk of the functions about masks: which matrices meet which masks.
-/
import Derived.Test.YthldemeodnlhbaaM7a
namespace Go.Proofs.Ythldemeodnlhbaa.R
open Go
set_option linter.unusedVariables false
set_option linter.unusedSimpArgs false
set_option maxRecDepth 100000
/-! ### function 13 -/
def S13_4 (a0 : ByteArray) (a1 : ByteArray) (x5 : Int) : St := ⟨[(U.f (F.str a0)), (U.f (F.str a1)), .bad, .bad, .bad, (U.f (F.int .i64 x5)), .bad, .bad, .bad, .bad, .bad, .bad, .bad, .bad, .bad, .bad, .bad, .bad, .bad, .bad, .bad, .bad, .bad, .bad, .bad, .bad, .bad, .bad, .bad, .bad, .bad, .bad, .bad, .bad, .bad, .bad, .bad, .bad, .bad, .bad, .bad, .bad, .bad, .bad, .bad, .bad, .bad, .bad, .bad], []⟩
def T13_4 {ρ : Type} (ret : Bool → Option ρ) (c4 : (ByteArray) → (ByteArray) → (Int) → Option ρ) (a0 : ByteArray) (a1 : ByteArray) (x5 : Int) : Option ρ :=
  (bsel (decide (x5 < 9))
   (bsel (decide (0 ≤ x5))
    (bsel (decide (x5 < (↑a1.size : Int)))
     (bsel ((byteAt a1 x5 == 84) == true)
      (bsel (decide (0 ≤ x5))
       (bsel (decide (x5 < (↑a0.size : Int)))
        (bsel ((byteAt a0 x5 == 70) == false)
         (bsel (decide (0 ≤ x5))
          (bsel (decide (x5 < (↑a1.size : Int)))
           (bsel ((byteAt a1 x5 != 84) == true)
            (bsel (decide (0 ≤ x5))
             (bsel (decide (x5 < (↑a1.size : Int)))
              (bsel ((byteAt a1 x5 != 42) == true)
               (bsel (decide (0 ≤ x5))
                (bsel (decide (x5 < (↑a1.size : Int)))
                 (bsel (decide (0 ≤ x5))
                  (bsel (decide (x5 < (↑a0.size : Int)))
                   (bsel (byteAt a1 x5 != byteAt a0 x5)
                    (ret (false))
                    (c4 (a0) (a1) (IntKind.i64.wrap (x5 + 1))))
                   none)
                  none)
                 none)
                none)
               (c4 (a0) (a1) (IntKind.i64.wrap (x5 + 1))))
              none)
             none)
            (c4 (a0) (a1) (IntKind.i64.wrap (x5 + 1))))
           none)
          none)
         (ret (false)))
        none)
       none)
      (bsel (decide (0 ≤ x5))
       (bsel (decide (x5 < (↑a1.size : Int)))
        (bsel ((byteAt a1 x5 != 84) == true)
         (bsel (decide (0 ≤ x5))
          (bsel (decide (x5 < (↑a1.size : Int)))
           (bsel ((byteAt a1 x5 != 42) == true)
            (bsel (decide (0 ≤ x5))
             (bsel (decide (x5 < (↑a1.size : Int)))
              (bsel (decide (0 ≤ x5))
               (bsel (decide (x5 < (↑a0.size : Int)))
                (bsel (byteAt a1 x5 != byteAt a0 x5)
                 (ret (false))
                 (c4 (a0) (a1) (IntKind.i64.wrap (x5 + 1))))
                none)
               none)
              none)
             none)
            (c4 (a0) (a1) (IntKind.i64.wrap (x5 + 1))))
           none)
          none)
         (c4 (a0) (a1) (IntKind.i64.wrap (x5 + 1))))
        none)
       none))
     none)
    none)
   (ret (true)))
def L13_4 : Nat → (ByteArray) → (ByteArray) → (Int) → Option (Bool)
  | 0, _, _, _ => none
  | k + 1, a0, a1, x5 => T13_4 some (L13_4 k) a0 a1 x5
def T13 {ρ : Type} (ret : Bool → Option ρ) (c4 : (ByteArray) → (ByteArray) → (Int) → Option ρ) (a0 : ByteArray) (a1 : ByteArray) : Option ρ :=
  (bsel ((!matV a0) == false)
   (bsel (!maskV a1)
    (ret (false))
    (c4 (a0) (a1) (0)))
   (ret (false)))
def G13 (k : Nat) (a0 : ByteArray) (a1 : ByteArray) : Option (Bool) := T13 some (L13_4 k) a0 a1
theorem t13_4 : ∀ (k : Nat) (a0 : ByteArray) (a1 : ByteArray) (x5 : Int) (r : Bool), L13_4 k a0 a1 x5 = some r → Ends Try.prog Try.f13.results.toList (at_ Try.f13 4) (S13_4 a0 a1 x5) (F.bool r)
  | 0, _, _, _, _, h => nomatch h
  | k + 1, a0, a1, x5, r, h => by
    refine Ends.of_cut tyOK env8_ok (T := [(4, [0, 1, 5], 0)]) (n := 200) ?_
    have e : runCut Try.prog (tiOf Try.prog) env8 [(4, [0, 1, 5], 0)] 0 Try.f13.results.toList some 200 (at_ Try.f13 4) (S13_4 a0 a1 x5) = T13_4 (fun r => some (.ret (F.bool r))) (fun a0 a1 x5 => some (.cut (at_ Try.f13 4) (S13_4 a0 a1 x5))) a0 a1 x5 := by kernel_rfl
    rw [e]
    exact (good_sel h (fun _ h => (good_sel h (fun _ h => (good_sel h (fun _ h => (good_sel h (fun _ h => (good_sel h (fun _ h => (good_sel h (fun _ h => (good_sel h (fun _ h => (good_sel h (fun _ h => (good_sel h (fun _ h => (good_sel h (fun _ h => (good_sel h (fun _ h => (good_sel h (fun _ h => (good_sel h (fun _ h => (good_sel h (fun _ h => (good_sel h (fun _ h => (good_sel h (fun _ h => (good_sel h (fun _ h => (good_sel h (fun _ h => good_ret (by cases h; rfl)) (fun _ h => good_cut (t13_4 k _ _ _ r h)))) (fun _ h => nomatch h))) (fun _ h => nomatch h))) (fun _ h => nomatch h))) (fun _ h => nomatch h))) (fun _ h => good_cut (t13_4 k _ _ _ r h)))) (fun _ h => nomatch h))) (fun _ h => nomatch h))) (fun _ h => good_cut (t13_4 k _ _ _ r h)))) (fun _ h => nomatch h))) (fun _ h => nomatch h))) (fun _ h => good_ret (by cases h; rfl)))) (fun _ h => nomatch h))) (fun _ h => nomatch h))) (fun _ h => (good_sel h (fun _ h => (good_sel h (fun _ h => (good_sel h (fun _ h => (good_sel h (fun _ h => (good_sel h (fun _ h => (good_sel h (fun _ h => (good_sel h (fun _ h => (good_sel h (fun _ h => (good_sel h (fun _ h => (good_sel h (fun _ h => (good_sel h (fun _ h => good_ret (by cases h; rfl)) (fun _ h => good_cut (t13_4 k _ _ _ r h)))) (fun _ h => nomatch h))) (fun _ h => nomatch h))) (fun _ h => nomatch h))) (fun _ h => nomatch h))) (fun _ h => good_cut (t13_4 k _ _ _ r h)))) (fun _ h => nomatch h))) (fun _ h => nomatch h))) (fun _ h => good_cut (t13_4 k _ _ _ r h)))) (fun _ h => nomatch h))) (fun _ h => nomatch h))))) (fun _ h => nomatch h))) (fun _ h => nomatch h))) (fun _ h => good_ret (by cases h; rfl)))
theorem t13 (k : Nat) (a0 : ByteArray) (a1 : ByteArray) (r : Bool) (h : G13 k a0 a1 = some r) : Ends Try.prog Try.f13.results.toList [.code (bodyOf Try.f13)] (start Try.f13.ntmps ([F.str a0, F.str a1].map .f)) (F.bool r) := by
  refine Ends.of_run tyOK env8_ok (T := [(4, [0, 1, 5], 0)]) (n := 200) ?_
  have e : run Try.prog (tiOf Try.prog) env8 [(4, [0, 1, 5], 0)] 0 Try.f13.results.toList some 200 [.code (bodyOf Try.f13)] (start Try.f13.ntmps ([F.str a0, F.str a1].map .f)) = T13 (fun r => some (.ret (F.bool r))) (fun a0 a1 x5 => some (.cut (at_ Try.f13 4) (S13_4 a0 a1 x5))) a0 a1 := by kernel_rfl
  rw [e]
  exact (good_sel h (fun _ h => (good_sel h (fun _ h => good_ret (by cases h; rfl)) (fun _ h => good_cut (t13_4 k _ _ _ r h)))) (fun _ h => good_ret (by cases h; rfl)))
/-! ### function 14 -/
def S14_4 (a0 : ByteArray) (a1 : ByteArray) (x16 : Int) : St := ⟨[(U.f (F.str a0)), (U.f (F.str a1)), .bad, .bad, .bad, .bad, .bad, .bad, .bad, .bad, .bad, .bad, .bad, .bad, .bad, .bad, (U.f (F.int .i64 x16)), .bad, .bad, .bad, .bad, .bad, .bad, .bad, .bad, .bad, .bad, .bad, .bad, .bad, .bad, .bad, .bad, .bad, .bad, .bad, .bad, .bad, .bad, .bad, .bad], []⟩
def T14_4 {ρ : Type} (ret : Bool → Option ρ) (c4 : (ByteArray) → (ByteArray) → (Int) → Option ρ) (a0 : ByteArray) (a1 : ByteArray) (x16 : Int) : Option ρ :=
  (bsel (decide (x16 < 9))
   (bsel (decide (0 ≤ x16))
    (bsel (decide (x16 < (↑a1.size : Int)))
     (bsel (decide (0 ≤ x16))
      (bsel (decide (x16 < (↑a0.size : Int)))
       (bsel ((byteAt a1 x16 != 42) == true)
        (bsel ((byteAt a1 x16 != byteAt a0 x16) == true)
         (bsel ((byteAt a1 x16 != 84) == false)
          (bsel (byteAt a0 x16 == 70)
           (ret (false))
           (c4 (a0) (a1) (IntKind.i64.wrap (x16 + 1))))
          (ret (false)))
         (c4 (a0) (a1) (IntKind.i64.wrap (x16 + 1))))
        (c4 (a0) (a1) (IntKind.i64.wrap (x16 + 1))))
       none)
      none)
     none)
    none)
   (ret (true)))
def L14_4 : Nat → (ByteArray) → (ByteArray) → (Int) → Option (Bool)
  | 0, _, _, _ => none
  | k + 1, a0, a1, x16 => T14_4 some (L14_4 k) a0 a1 x16
def T14 {ρ : Type} (ret : Bool → Option ρ) (c4 : (ByteArray) → (ByteArray) → (Int) → Option ρ) (a0 : ByteArray) (a1 : ByteArray) : Option ρ :=
  (bsel ((!matV a0) == false)
   (bsel (!maskV a1)
    (ret (false))
    (c4 (a0) (a1) (0)))
   (ret (false)))
def G14 (k : Nat) (a0 : ByteArray) (a1 : ByteArray) : Option (Bool) := T14 some (L14_4 k) a0 a1
theorem t14_4 : ∀ (k : Nat) (a0 : ByteArray) (a1 : ByteArray) (x16 : Int) (r : Bool), L14_4 k a0 a1 x16 = some r → Ends Try.prog Try.f14.results.toList (at_ Try.f14 4) (S14_4 a0 a1 x16) (F.bool r)
  | 0, _, _, _, _, h => nomatch h
  | k + 1, a0, a1, x16, r, h => by
    refine Ends.of_cut tyOK env8_ok (T := [(4, [0, 1, 16], 0)]) (n := 200) ?_
    have e : runCut Try.prog (tiOf Try.prog) env8 [(4, [0, 1, 16], 0)] 0 Try.f14.results.toList some 200 (at_ Try.f14 4) (S14_4 a0 a1 x16) = T14_4 (fun r => some (.ret (F.bool r))) (fun a0 a1 x16 => some (.cut (at_ Try.f14 4) (S14_4 a0 a1 x16))) a0 a1 x16 := by kernel_rfl
    rw [e]
    exact (good_sel h (fun _ h => (good_sel h (fun _ h => (good_sel h (fun _ h => (good_sel h (fun _ h => (good_sel h (fun _ h => (good_sel h (fun _ h => (good_sel h (fun _ h => (good_sel h (fun _ h => (good_sel h (fun _ h => good_ret (by cases h; rfl)) (fun _ h => good_cut (t14_4 k _ _ _ r h)))) (fun _ h => good_ret (by cases h; rfl)))) (fun _ h => good_cut (t14_4 k _ _ _ r h)))) (fun _ h => good_cut (t14_4 k _ _ _ r h)))) (fun _ h => nomatch h))) (fun _ h => nomatch h))) (fun _ h => nomatch h))) (fun _ h => nomatch h))) (fun _ h => good_ret (by cases h; rfl)))
theorem t14 (k : Nat) (a0 : ByteArray) (a1 : ByteArray) (r : Bool) (h : G14 k a0 a1 = some r) : Ends Try.prog Try.f14.results.toList [.code (bodyOf Try.f14)] (start Try.f14.ntmps ([F.str a0, F.str a1].map .f)) (F.bool r) := by
  refine Ends.of_run tyOK env8_ok (T := [(4, [0, 1, 16], 0)]) (n := 200) ?_
  have e : run Try.prog (tiOf Try.prog) env8 [(4, [0, 1, 16], 0)] 0 Try.f14.results.toList some 200 [.code (bodyOf Try.f14)] (start Try.f14.ntmps ([F.str a0, F.str a1].map .f)) = T14 (fun r => some (.ret (F.bool r))) (fun a0 a1 x16 => some (.cut (at_ Try.f14 4) (S14_4 a0 a1 x16))) a0 a1 := by kernel_rfl
  rw [e]
  exact (good_sel h (fun _ h => (good_sel h (fun _ h => good_ret (by cases h; rfl)) (fun _ h => good_cut (t14_4 k _ _ _ r h)))) (fun _ h => good_ret (by cases h; rfl)))
def okp (x m : Int) : Bool := m == 42 || m == x && !(m == 84 && x == 70) || m == 84 && !(x == 70)
def meetV (s b : ByteArray) : Bool := matV s && maskV b && allFrom (fun i => okp (byteAt s i) (byteAt b i)) 9 0
theorem mat_size {s : ByteArray} (h : matV s = true) : s.size = 9 := by
  unfold matV at h
  simp only [Bool.and_eq_true, decide_eq_true_eq] at h
  exact h.1
theorem mask_size {s : ByteArray} (h : maskV s = true) : s.size = 9 := by
  unfold maskV at h
  simp only [Bool.and_eq_true, decide_eq_true_eq] at h
  exact h.1
theorem L13_all (s b : ByteArray) (hs : s.size = 9) (hb : b.size = 9) : ∀ (d i : Nat), i + d = 9 → L13_4 (d + 1) s b i = some (allFrom (fun i => okp (byteAt s i) (byteAt b i)) 9 i)
  | 0, i, h => by
    obtain rfl : i = 9 := by omega
    simp [L13_4, T13_4, allFrom_end, bsel]
  | d + 1, i, h => by
    have ih := L13_all s b hs hb d (i + 1) (by omega)
    have hi : i < 9 := by omega
    have hw : IntKind.i64.wrap ((i : Int) + 1) = ((i + 1 : Nat) : Int) := by rw [wrap_i64 (by omega) (by omega)]; omega
    rw [L13_4]
    simp only [T13_4, hw, ih]
    rw [allFrom_step _ hi]
    have c1 : decide ((i : Int) < 9) = true := by simp; omega
    have c2 : decide (0 ≤ (i : Int)) = true := by simp
    have c3 : decide ((i : Int) < (s.size : Int)) = true := by rw [hs]; simp; omega
    have c4 : decide ((i : Int) < (b.size : Int)) = true := by rw [hb]; simp; omega
    simp only [c1, c2, c3, c4, bsel_true]
    generalize allFrom (fun i => okp (byteAt s i) (byteAt b i)) 9 (i + 1) = R
    generalize byteAt s i = x
    generalize byteAt b i = m
    unfold okp
    simp only [bne]
    cases e1 : m == 84 <;> cases e2 : x == 70 <;> cases e3 : m == 42 <;> cases e4 : m == x <;> first
      | rfl
      | (cases R <;> rfl)
      | (exfalso; simp only [beq_iff_eq, beq_eq_false_iff_ne] at e1 e2 e3 e4; omega)
theorem G13_eq (s b : ByteArray) : G13 10 s b = some (meetV s b) := by
  unfold G13 T13 meetV
  cases hm : matV s with
  | false => rfl
  | true => cases hk : maskV b with
    | false => rfl
    | true => exact L13_all s b (mat_size hm) (mask_size hk) 9 0 (by omega)
theorem L14_all (s b : ByteArray) (hs : s.size = 9) (hb : b.size = 9) : ∀ (d i : Nat), i + d = 9 → L14_4 (d + 1) s b i = some (allFrom (fun i => okp (byteAt s i) (byteAt b i)) 9 i)
  | 0, i, h => by
    obtain rfl : i = 9 := by omega
    simp [L14_4, T14_4, allFrom_end, bsel]
  | d + 1, i, h => by
    have ih := L14_all s b hs hb d (i + 1) (by omega)
    have hi : i < 9 := by omega
    have hw : IntKind.i64.wrap ((i : Int) + 1) = ((i + 1 : Nat) : Int) := by rw [wrap_i64 (by omega) (by omega)]; omega
    rw [L14_4]
    simp only [T14_4, hw, ih]
    rw [allFrom_step _ hi]
    have c1 : decide ((i : Int) < 9) = true := by simp; omega
    have c2 : decide (0 ≤ (i : Int)) = true := by simp
    have c3 : decide ((i : Int) < (s.size : Int)) = true := by rw [hs]; simp; omega
    have c4 : decide ((i : Int) < (b.size : Int)) = true := by rw [hb]; simp; omega
    simp only [c1, c2, c3, c4, bsel_true]
    generalize allFrom (fun i => okp (byteAt s i) (byteAt b i)) 9 (i + 1) = R
    generalize byteAt s i = x
    generalize byteAt b i = m
    unfold okp
    simp only [bne]
    cases e1 : m == 84 <;> cases e2 : x == 70 <;> cases e3 : m == 42 <;> cases e4 : m == x <;> first
      | rfl
      | (cases R <;> rfl)
      | (exfalso; simp only [beq_iff_eq, beq_eq_false_iff_ne] at e1 e2 e3 e4; omega)
theorem G14_eq (s b : ByteArray) : G14 10 s b = some (meetV s b) := by
  unfold G14 T14 meetV
  cases hm : matV s with
  | false => rfl
  | true => cases hk : maskV b with
    | false => rfl
    | true => exact L14_all s b (mat_size hm) (mask_size hk) 9 0 (by omega)
def pre13 : List F → Bool | [.str s, .str b] => true | _ => false
def res13 : List F → F | [.str s, .str b] => .bool (meetV s b) | _ => .bool false
theorem ok13 : PureOK Try.prog 13 pre13 res13 :=
  fn_pure (c := bodyOf Try.f13) Try.func13 (by kernel_rfl) (by kernel_rfl) fun xs hp => match xs, hp with
  | [.str s, .str b], hp => t13 10 s b _ (G13_eq s b)
theorem ok14 : PureOK Try.prog 14 pre13 res13 :=
  fn_pure (c := bodyOf Try.f14) Try.func14 (by kernel_rfl) (by kernel_rfl) fun xs hp => match xs, hp with
  | [.str s, .str b], hp => t14 10 s b _ (G14_eq s b)
def env9 : Env := fun f => match f with | 13 => .pure pre13 res13 | 14 => .pure pre13 res13 | _ => .none
theorem env9_ok : EnvOK Try.prog env9 := by
  intro f
  unfold env9
  split
  · exact ok13
  · exact ok14
  · trivial
end Go.Proofs.Ythldemeodnlhbaa.R
