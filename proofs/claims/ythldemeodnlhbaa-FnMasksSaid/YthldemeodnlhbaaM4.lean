/-
  The walk of the functions about masks: which texts are matrices.
-/
import Derived.Test.YthldemeodnlhbaaM3
namespace Go.Proofs.Ythldemeodnlhbaa.R
open Go
set_option linter.unusedVariables false
set_option linter.unusedSimpArgs false
set_option maxRecDepth 100000
/-! ### function 30 -/
def S30_4 (a0 : ByteArray) (x3 : Int) : St := ⟨[(U.f (F.str a0)), .bad, .bad, (U.f (F.int .i64 x3)), .bad, .bad, .bad, .bad, .bad, .bad, .bad, .bad, .bad, .bad, .bad, .bad, .bad, .bad, .bad, .bad, .bad, .bad, .bad, .bad, .bad, .bad, .bad], []⟩
def T30_4 {ρ : Type} (ret : Bool → Option ρ) (c4 : ByteArray → Int → Option ρ) (a0 : ByteArray) (x3 : Int) : Option ρ :=
  (bsel (decide (x3 < 9))
   (bsel (decide (0 ≤ x3))
    (bsel (decide (x3 < (↑a0.size : Int)))
     (bsel ((byteAt a0 x3 != 70) == true)
      (bsel (decide (0 ≤ x3))
       (bsel (decide (x3 < (↑a0.size : Int)))
        (bsel (decide (byteAt a0 x3 < 48) == false)
         (bsel (decide (0 ≤ x3))
          (bsel (decide (x3 < (↑a0.size : Int)))
           (bsel (decide (byteAt a0 x3 > 50))
            (ret (false))
            (c4 (a0) (IntKind.i64.wrap (x3 + 1))))
           none)
          none)
         (ret (false)))
        none)
       none)
      (c4 (a0) (IntKind.i64.wrap (x3 + 1))))
     none)
    none)
   (ret (true)))
def L30_4 : Nat → ByteArray → Int → Option (Bool)
  | 0, _, _ => none
  | k + 1, a0, x3 => T30_4 some (L30_4 k) a0 x3
def T30 {ρ : Type} (ret : Bool → Option ρ) (c4 : ByteArray → Int → Option ρ) (a0 : ByteArray) : Option ρ :=
  (bsel ((↑a0.size : Int) != 9)
   (ret (false))
   (c4 (a0) (0)))
def G30 (k : Nat) (a0 : ByteArray) : Option (Bool) := T30 some (L30_4 k) a0
theorem t30_4 : ∀ (k : Nat) (a0 : ByteArray) (x3 : Int) (r : Bool), L30_4 k a0 x3 = some r → Ends Try.prog Try.f30.results.toList (at_ Try.f30 4) (S30_4 a0 x3) (F.bool r)
  | 0, _, _, _, h => nomatch h
  | k + 1, a0, x3, r, h => by
    refine Ends.of_cut tyOK env0_ok (T := [(4, [0, 3], 0)]) (n := 200) ?_
    have e : runCut Try.prog (tiOf Try.prog) env0 [(4, [0, 3], 0)] 0 Try.f30.results.toList some 200 (at_ Try.f30 4) (S30_4 a0 x3) = T30_4 (fun r => some (.ret (F.bool r))) (fun a0 x3 => some (.cut (at_ Try.f30 4) (S30_4 a0 x3))) a0 x3 := by kernel_rfl
    rw [e]
    exact (good_sel h (fun _ h => (good_sel h (fun _ h => (good_sel h (fun _ h => (good_sel h (fun _ h => (good_sel h (fun _ h => (good_sel h (fun _ h => (good_sel h (fun _ h => (good_sel h (fun _ h => (good_sel h (fun _ h => (good_sel h (fun _ h => good_ret (by cases h; rfl)) (fun _ h => good_cut (t30_4 k _ _ r h)))) (fun _ h => nomatch h))) (fun _ h => nomatch h))) (fun _ h => good_ret (by cases h; rfl)))) (fun _ h => nomatch h))) (fun _ h => nomatch h))) (fun _ h => good_cut (t30_4 k _ _ r h)))) (fun _ h => nomatch h))) (fun _ h => nomatch h))) (fun _ h => good_ret (by cases h; rfl)))
theorem t30 (k : Nat) (a0 : ByteArray) (r : Bool) (h : G30 k a0 = some r) : Ends Try.prog Try.f30.results.toList [.code (bodyOf Try.f30)] (start Try.f30.ntmps ([F.str a0].map .f)) (F.bool r) := by
  refine Ends.of_run tyOK env0_ok (T := [(4, [0, 3], 0)]) (n := 200) ?_
  have e : run Try.prog (tiOf Try.prog) env0 [(4, [0, 3], 0)] 0 Try.f30.results.toList some 200 [.code (bodyOf Try.f30)] (start Try.f30.ntmps ([F.str a0].map .f)) = T30 (fun r => some (.ret (F.bool r))) (fun a0 x3 => some (.cut (at_ Try.f30 4) (S30_4 a0 x3))) a0 := by kernel_rfl
  rw [e]
  exact (good_sel h (fun _ h => good_ret (by cases h; rfl)) (fun _ h => good_cut (t30_4 k _ _ r h)))
def okm (b : Int) : Bool := b == 70 || (decide (48 ≤ b) && decide (b ≤ 50))
def matV (s : ByteArray) : Bool := decide (s.size = 9) && allFrom (fun i => okm (byteAt s i)) 9 0
theorem L30_all (s : ByteArray) (hs : s.size = 9) : ∀ (d i : Nat), i + d = 9 → L30_4 (d + 1) s i = some (allFrom (fun i => okm (byteAt s i)) 9 i)
  | 0, i, h => by
    obtain rfl : i = 9 := by omega
    simp [L30_4, T30_4, allFrom_end, bsel]
  | d + 1, i, h => by
    have ih := L30_all s hs d (i + 1) (by omega)
    have hi : i < 9 := by omega
    have hw : IntKind.i64.wrap ((i : Int) + 1) = ((i + 1 : Nat) : Int) := by rw [wrap_i64 (by omega) (by omega)]; omega
    rw [L30_4]
    simp only [T30_4, hw, ih]
    rw [allFrom_step _ hi]
    have c1 : decide ((i : Int) < 9) = true := by simp; omega
    have c2 : decide (0 ≤ (i : Int)) = true := by simp
    have c3 : decide ((i : Int) < (s.size : Int)) = true := by rw [hs]; simp; omega
    rw [c1, c2, c3]
    simp only [bsel_true]
    generalize allFrom (fun i => okm (byteAt s i)) 9 (i + 1) = R
    generalize byteAt s i = b
    unfold okm
    by_cases h2 : b = 70
    · subst h2; simp [bsel]
    · have q2 : (b == 70) = false := beq_eq_false_iff_ne.2 h2
      by_cases h4 : b < 48
      · have e1 : decide (48 ≤ b) = false := by simp; omega
        simp only [bne, q2, e1, decide_eq_true h4]; rfl
      · have e1 : decide (48 ≤ b) = true := by simp; omega
        by_cases h5 : b > 50
        · have e2 : decide (b ≤ 50) = false := by simp; omega
          simp only [bne, q2, e1, e2, decide_eq_false h4, decide_eq_true h5]; rfl
        · have e2 : decide (b ≤ 50) = true := by simp; omega
          simp only [bne, q2, e1, e2, decide_eq_false h4, decide_eq_false h5]
          simp [bsel]
def res30 : List F → F | [.str s] => .bool (matV s) | _ => .bool false
theorem G30_eq (s : ByteArray) : G30 10 s = some (matV s) := by
  unfold G30 T30 matV
  by_cases h : s.size = 9
  · have c : ((s.size : Int) != 9) = false := by simp [h]
    have := L30_all s h 9 0 (by omega)
    rw [c, bsel_false, decide_eq_true h, Bool.true_and]
    exact this
  · have c : ((s.size : Int) != 9) = true := by simp; omega
    rw [c, bsel_true, decide_eq_false h, Bool.false_and]
theorem ok30 : PureOK Try.prog 30 pre9 res30 :=
  fn_pure (c := bodyOf Try.f30) Try.func30 (by kernel_rfl) (by kernel_rfl) fun xs hp => match xs, hp with
  | [.str s], hp => t30 10 s _ (G30_eq s)
/-! ### function 31 -/
def T31 {ρ : Type} (ret : Bool → Option ρ) (a0 : ByteArray) : Option ρ :=
  (bsel (((↑a0.size : Int) == 9) == true)
   (bsel (pre29 [F.str a0, F.str { data := #[70, 48, 49, 50] }])
    (ret (isOfV a0 { data := #[70, 48, 49, 50] }))
    none)
   (ret (false)))
def G31 (a0 : ByteArray) : Option (Bool) := T31 some a0
theorem t31 (a0 : ByteArray) (r : Bool) (h : G31 a0 = some r) : Ends Try.prog Try.f31.results.toList [.code (bodyOf Try.f31)] (start Try.f31.ntmps ([F.str a0].map .f)) (F.bool r) := by
  refine Ends.of_run tyOK env4_ok (T := []) (n := 200) ?_
  have e : run Try.prog (tiOf Try.prog) env4 [] 0 Try.f31.results.toList some 200 [.code (bodyOf Try.f31)] (start Try.f31.ntmps ([F.str a0].map .f)) = T31 (fun r => some (.ret (F.bool r))) a0 := by kernel_rfl
  rw [e]
  exact (good_sel h (fun _ h => (good_sel h (fun _ h => good_ret (by cases h; rfl)) (fun _ h => nomatch h))) (fun _ h => good_ret (by cases h; rfl)))
theorem okm_table : ∀ n : Nat, n < 256 → decide (0 ≤ Lib.indexByte [70, 48, 49, 50] n.toUInt8) = okm (n : Int) := by decide +kernel
theorem mat_bytes (s : ByteArray) (i : Int) : decide (0 ≤ idx { data := #[70, 48, 49, 50] } (byteAt s i)) = okm (byteAt s i) := by
  obtain ⟨n, hn, e⟩ := byteAt_lt s i
  rw [e]
  exact okm_table n hn
theorem isOf_mat (s : ByteArray) (h : s.size = 9) : isOfV s { data := #[70, 48, 49, 50] } = matV s := by
  unfold isOfV matV
  simp only [mat_bytes]
  rw [h]
  simp
theorem G31_eq (s : ByteArray) : G31 s = some (matV s) := by
  unfold G31 T31
  by_cases h : s.size = 9
  · have c : ((s.size : Int) == 9) = true := by simp [h]
    have c2 : pre29 [F.str s, F.str { data := #[70, 48, 49, 50] }] = true := by simp [pre29, h]
    rw [c, c2, isOf_mat s h]
    rfl
  · have c : ((s.size : Int) == 9) = false := by simp; omega
    rw [c]
    unfold matV
    rw [decide_eq_false h, Bool.false_and]
    rfl
theorem ok31 : PureOK Try.prog 31 pre9 res30 :=
  fn_pure (c := bodyOf Try.f31) Try.func31 (by kernel_rfl) (by kernel_rfl) fun xs hp => match xs, hp with
  | [.str s], hp => t31 s _ (G31_eq s)
def env6 : Env := fun f => match f with | 30 => .pure pre9 res30 | 31 => .pure pre9 res30 | _ => .none
theorem env6_ok : EnvOK Try.prog env6 := by
  intro f
  unfold env6
  split
  · exact ok30
  · exact ok31
  · trivial
end Go.Proofs.Ythldemeodnlhbaa.R
