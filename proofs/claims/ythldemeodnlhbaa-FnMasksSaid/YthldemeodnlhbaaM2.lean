/-
  The walk of the functions about masks: which texts are masks, and which are matrices.
-/
import Derived.Test.YthldemeodnlhbaaM1
namespace Go.Proofs.Ythldemeodnlhbaa.R
open Go
set_option linter.unusedVariables false
set_option linter.unusedSimpArgs false
set_option maxRecDepth 100000
/-! ### function 29 -/
def S29_2 (a0 : ByteArray) (a1 : ByteArray) (x7 : Int) (x8 : Int) : St := ⟨[(U.f (F.str a0)), (U.f (F.str a1)), .bad, .bad, .bad, .bad, .bad, (U.f (F.int .i64 x7)), (U.f (F.int .i64 x8)), .bad, .bad, .bad, .bad, .bad, .bad, .bad, .bad, .bad, .bad, .bad, .bad], []⟩
def T29_2 {ρ : Type} (ret : Bool → Option ρ) (c2 : ByteArray → ByteArray → Int → Int → Option ρ) (a0 : ByteArray) (a1 : ByteArray) (x7 : Int) (x8 : Int) : Option ρ :=
  (bsel (decide (x8 < x7))
   (bsel (decide (0 ≤ x8))
    (bsel (decide (x8 < (↑a0.size : Int)))
     (bsel (decide (idx a1 (byteAt a0 x8) < 0))
      (ret (false))
      (c2 (a0) (a1) (x7) (IntKind.i64.wrap (x8 + 1))))
     none)
    none)
   (ret ((↑a0.size : Int) == 9)))
def L29_2 : Nat → ByteArray → ByteArray → Int → Int → Option (Bool)
  | 0, _, _, _, _ => none
  | k + 1, a0, a1, x7, x8 => T29_2 some (L29_2 k) a0 a1 x7 x8
def T29 {ρ : Type} (ret : Bool → Option ρ) (c2 : ByteArray → ByteArray → Int → Int → Option ρ) (a0 : ByteArray) (a1 : ByteArray) : Option ρ :=
  (c2 (a0) (a1) ((↑a0.size : Int)) (0))
def G29 (k : Nat) (a0 : ByteArray) (a1 : ByteArray) : Option (Bool) := T29 some (L29_2 k) a0 a1
theorem t29_2 : ∀ (k : Nat) (a0 : ByteArray) (a1 : ByteArray) (x7 : Int) (x8 : Int) (r : Bool), L29_2 k a0 a1 x7 x8 = some r → Ends Try.prog Try.f29.results.toList (at_ Try.f29 2) (S29_2 a0 a1 x7 x8) (F.bool r)
  | 0, _, _, _, _, _, h => nomatch h
  | k + 1, a0, a1, x7, x8, r, h => by
    refine Ends.of_cut tyOK env3_ok (T := [(2, [0, 1, 7, 8], 0)]) (n := 200) ?_
    have e : runCut Try.prog (tiOf Try.prog) env3 [(2, [0, 1, 7, 8], 0)] 0 Try.f29.results.toList some 200 (at_ Try.f29 2) (S29_2 a0 a1 x7 x8) = T29_2 (fun r => some (.ret (F.bool r))) (fun a0 a1 x7 x8 => some (.cut (at_ Try.f29 2) (S29_2 a0 a1 x7 x8))) a0 a1 x7 x8 := by kernel_rfl
    rw [e]
    exact (good_sel h (fun _ h => (good_sel h (fun _ h => (good_sel h (fun _ h => (good_sel h (fun _ h => good_ret (by cases h; rfl)) (fun _ h => good_cut (t29_2 k _ _ _ _ r h)))) (fun _ h => nomatch h))) (fun _ h => nomatch h))) (fun _ h => good_ret (by cases h; rfl)))
theorem t29 (k : Nat) (a0 : ByteArray) (a1 : ByteArray) (r : Bool) (h : G29 k a0 a1 = some r) : Ends Try.prog Try.f29.results.toList [.code (bodyOf Try.f29)] (start Try.f29.ntmps ([F.str a0, F.str a1].map .f)) (F.bool r) := by
  refine Ends.of_run tyOK env3_ok (T := [(2, [0, 1, 7, 8], 0)]) (n := 200) ?_
  have e : run Try.prog (tiOf Try.prog) env3 [(2, [0, 1, 7, 8], 0)] 0 Try.f29.results.toList some 200 [.code (bodyOf Try.f29)] (start Try.f29.ntmps ([F.str a0, F.str a1].map .f)) = T29 (fun r => some (.ret (F.bool r))) (fun a0 a1 x7 x8 => some (.cut (at_ Try.f29 2) (S29_2 a0 a1 x7 x8))) a0 a1 := by kernel_rfl
  rw [e]
  exact good_cut (t29_2 k _ _ _ _ r h)
theorem wrap_i64 {x : Int} (h0 : 0 ≤ x) (h1 : x ≤ 4611686018427387904) : IntKind.i64.wrap x = x := by
  unfold IntKind.wrap
  simp [IntKind.bits, IntKind.signed]
  omega
def allFrom (p : Nat → Bool) (n i : Nat) : Bool := ((List.range n).drop i).all p
theorem allFrom_end (p : Nat → Bool) (n : Nat) : allFrom p n n = true := by
  unfold allFrom
  rw [List.drop_eq_nil_of_le (by simp)]
  rfl
theorem allFrom_step (p : Nat → Bool) {n i : Nat} (h : i < n) : allFrom p n i = (p i && allFrom p n (i + 1)) := by
  unfold allFrom
  rw [List.drop_eq_getElem_cons (by simpa using h)]
  simp
def isOfV (s b : ByteArray) : Bool := allFrom (fun i => decide (0 ≤ idx b (byteAt s i))) s.size 0 && decide (s.size = 9)
theorem L29_all (s b : ByteArray) (hs : s.size ≤ 140737488351232) : ∀ (d i : Nat), i + d = s.size →
    L29_2 (d + 1) s b s.size i = some (allFrom (fun i => decide (0 ≤ idx b (byteAt s i))) s.size i && decide (s.size = 9))
  | 0, i, h => by
    obtain rfl : i = s.size := by omega
    have h9 : (((s.size : Nat) : Int) == 9) = decide (s.size = 9) := by
      rw [Bool.eq_iff_iff]; simp; omega
    simp [L29_2, T29_2, allFrom_end, bsel, h9]
  | d + 1, i, h => by
    have ih := L29_all s b hs d (i + 1) (by omega)
    have hi : i < s.size := by omega
    have hw : IntKind.i64.wrap ((i : Int) + 1) = ((i + 1 : Nat) : Int) := by rw [wrap_i64 (by omega) (by omega)]; omega
    rw [L29_2]
    simp only [T29_2, hw, ih]
    rw [allFrom_step _ hi]
    have c1 : decide ((i : Int) < (s.size : Int)) = true := by simp; omega
    have c2 : decide (0 ≤ (i : Int)) = true := by simp
    rw [c1, c2]
    simp only [bsel_true]
    by_cases hc : idx b (byteAt s i) < 0
    · have c3 : decide (0 ≤ idx b (byteAt s i)) = false := by simp; omega
      rw [decide_eq_true hc, c3]; simp [bsel]
    · have c3 : decide (0 ≤ idx b (byteAt s i)) = true := by simp; omega
      rw [decide_eq_false hc, c3]; simp [bsel]
def pre29 : List F → Bool | [.str s, .str _] => decide (s.size ≤ 140737488351232) | _ => false
def res29 : List F → F | [.str s, .str b] => .bool (isOfV s b) | _ => .bool false
theorem ok29 : PureOK Try.prog 29 pre29 res29 :=
  fn_pure (c := bodyOf Try.f29) Try.func29 (by kernel_rfl) (by kernel_rfl) fun xs hp => match xs, hp with
  | [.str s, .str b], hp => t29 (s.size + 1) s b _ (L29_all s b (of_decide_eq_true hp) s.size 0 (by omega))
def env4 : Env := fun f => match f with | 29 => .pure pre29 res29 | _ => .none
theorem env4_ok : EnvOK Try.prog env4 := by
  intro f
  unfold env4
  split
  · exact ok29
  · trivial
/-! ### function 9 -/
def S9_4 (a0 : ByteArray) (x3 : Int) : St := ⟨[(U.f (F.str a0)), .bad, .bad, (U.f (F.int .i64 x3)), .bad, .bad, .bad, .bad, .bad, .bad, .bad, .bad, .bad, .bad, .bad, .bad, .bad, .bad, .bad, .bad, .bad, .bad, .bad, .bad, .bad, .bad, .bad, .bad, .bad, .bad, .bad, .bad, .bad], []⟩
def T9_4 {ρ : Type} (ret : Bool → Option ρ) (c4 : ByteArray → Int → Option ρ) (a0 : ByteArray) (x3 : Int) : Option ρ :=
  (bsel (decide (x3 < 9))
   (bsel (decide (0 ≤ x3))
    (bsel (decide (x3 < (↑a0.size : Int)))
     (bsel ((byteAt a0 x3 != 84) == true)
      (bsel ((byteAt a0 x3 != 70) == true)
       (bsel ((byteAt a0 x3 != 42) == true)
        (bsel (decide (byteAt a0 x3 < 48) == false)
         (bsel (decide (byteAt a0 x3 > 50))
          (ret (false))
          (c4 (a0) (IntKind.i64.wrap (x3 + 1))))
         (ret (false)))
        (c4 (a0) (IntKind.i64.wrap (x3 + 1))))
       (c4 (a0) (IntKind.i64.wrap (x3 + 1))))
      (c4 (a0) (IntKind.i64.wrap (x3 + 1))))
     none)
    none)
   (ret (true)))
def L9_4 : Nat → ByteArray → Int → Option (Bool)
  | 0, _, _ => none
  | k + 1, a0, x3 => T9_4 some (L9_4 k) a0 x3
def T9 {ρ : Type} (ret : Bool → Option ρ) (c4 : ByteArray → Int → Option ρ) (a0 : ByteArray) : Option ρ :=
  (bsel ((↑a0.size : Int) != 9)
   (ret (false))
   (c4 (a0) (0)))
def G9 (k : Nat) (a0 : ByteArray) : Option (Bool) := T9 some (L9_4 k) a0
theorem t9_4 : ∀ (k : Nat) (a0 : ByteArray) (x3 : Int) (r : Bool), L9_4 k a0 x3 = some r → Ends Try.prog Try.f9.results.toList (at_ Try.f9 4) (S9_4 a0 x3) (F.bool r)
  | 0, _, _, _, h => nomatch h
  | k + 1, a0, x3, r, h => by
    refine Ends.of_cut tyOK env0_ok (T := [(4, [0, 3], 0)]) (n := 200) ?_
    have e : runCut Try.prog (tiOf Try.prog) env0 [(4, [0, 3], 0)] 0 Try.f9.results.toList some 200 (at_ Try.f9 4) (S9_4 a0 x3) = T9_4 (fun r => some (.ret (F.bool r))) (fun a0 x3 => some (.cut (at_ Try.f9 4) (S9_4 a0 x3))) a0 x3 := by kernel_rfl
    rw [e]
    exact (good_sel h (fun _ h => (good_sel h (fun _ h => (good_sel h (fun _ h => (good_sel h (fun _ h => (good_sel h (fun _ h => (good_sel h (fun _ h => (good_sel h (fun _ h => (good_sel h (fun _ h => good_ret (by cases h; rfl)) (fun _ h => good_cut (t9_4 k _ _ r h)))) (fun _ h => good_ret (by cases h; rfl)))) (fun _ h => good_cut (t9_4 k _ _ r h)))) (fun _ h => good_cut (t9_4 k _ _ r h)))) (fun _ h => good_cut (t9_4 k _ _ r h)))) (fun _ h => nomatch h))) (fun _ h => nomatch h))) (fun _ h => good_ret (by cases h; rfl)))
theorem t9 (k : Nat) (a0 : ByteArray) (r : Bool) (h : G9 k a0 = some r) : Ends Try.prog Try.f9.results.toList [.code (bodyOf Try.f9)] (start Try.f9.ntmps ([F.str a0].map .f)) (F.bool r) := by
  refine Ends.of_run tyOK env0_ok (T := [(4, [0, 3], 0)]) (n := 200) ?_
  have e : run Try.prog (tiOf Try.prog) env0 [(4, [0, 3], 0)] 0 Try.f9.results.toList some 200 [.code (bodyOf Try.f9)] (start Try.f9.ntmps ([F.str a0].map .f)) = T9 (fun r => some (.ret (F.bool r))) (fun a0 x3 => some (.cut (at_ Try.f9 4) (S9_4 a0 x3))) a0 := by kernel_rfl
  rw [e]
  exact (good_sel h (fun _ h => good_ret (by cases h; rfl)) (fun _ h => good_cut (t9_4 k _ _ r h)))
def okc (b : Int) : Bool := b == 84 || b == 70 || b == 42 || (decide (48 ≤ b) && decide (b ≤ 50))
def maskV (s : ByteArray) : Bool := decide (s.size = 9) && allFrom (fun i => okc (byteAt s i)) 9 0
theorem L9_all (s : ByteArray) (hs : s.size = 9) : ∀ (d i : Nat), i + d = 9 → L9_4 (d + 1) s i = some (allFrom (fun i => okc (byteAt s i)) 9 i)
  | 0, i, h => by
    obtain rfl : i = 9 := by omega
    simp [L9_4, T9_4, allFrom_end, bsel]
  | d + 1, i, h => by
    have ih := L9_all s hs d (i + 1) (by omega)
    have hi : i < 9 := by omega
    have hw : IntKind.i64.wrap ((i : Int) + 1) = ((i + 1 : Nat) : Int) := by rw [wrap_i64 (by omega) (by omega)]; omega
    rw [L9_4]
    simp only [T9_4, hw, ih]
    rw [allFrom_step _ hi]
    have c1 : decide ((i : Int) < 9) = true := by simp; omega
    have c2 : decide (0 ≤ (i : Int)) = true := by simp
    have c3 : decide ((i : Int) < (s.size : Int)) = true := by rw [hs]; simp; omega
    rw [c1, c2, c3]
    simp only [bsel_true]
    generalize allFrom (fun i => okc (byteAt s i)) 9 (i + 1) = R
    generalize byteAt s i = b
    unfold okc
    by_cases h1 : b = 84
    · subst h1; simp [bsel]
    · have q1 : (b == 84) = false := beq_eq_false_iff_ne.2 h1
      by_cases h2 : b = 70
      · subst h2; simp [bsel]
      · have q2 : (b == 70) = false := beq_eq_false_iff_ne.2 h2
        by_cases h3 : b = 42
        · subst h3; simp [bsel]
        · have q3 : (b == 42) = false := beq_eq_false_iff_ne.2 h3
          by_cases h4 : b < 48
          · have e1 : decide (48 ≤ b) = false := by simp; omega
            simp only [bne, q1, q2, q3, e1, decide_eq_true h4]; rfl
          · have e1 : decide (48 ≤ b) = true := by simp; omega
            by_cases h5 : b > 50
            · have e2 : decide (b ≤ 50) = false := by simp; omega
              simp only [bne, q1, q2, q3, e1, e2, decide_eq_false h4, decide_eq_true h5]; rfl
            · have e2 : decide (b ≤ 50) = true := by simp; omega
              simp only [bne, q1, q2, q3, e1, e2, decide_eq_false h4, decide_eq_false h5]
              simp [bsel]
def pre9 : List F → Bool | [.str s] => true | _ => false
def res9 : List F → F | [.str s] => .bool (maskV s) | _ => .bool false
theorem G9_eq (s : ByteArray) : G9 10 s = some (maskV s) := by
  unfold G9 T9 maskV
  by_cases h : s.size = 9
  · have c : ((s.size : Int) != 9) = false := by simp [h]
    have := L9_all s h 9 0 (by omega)
    rw [c, bsel_false, decide_eq_true h, Bool.true_and]
    exact this
  · have c : ((s.size : Int) != 9) = true := by simp; omega
    rw [c, bsel_true, decide_eq_false h, Bool.false_and]
theorem ok9 : PureOK Try.prog 9 pre9 res9 :=
  fn_pure (c := bodyOf Try.f9) Try.func9 (by kernel_rfl) (by kernel_rfl) fun xs hp => match xs, hp with
  | [.str s], hp => t9 10 s _ (G9_eq s)
end Go.Proofs.Ythldemeodnlhbaa.R
