/-
  The walk of lists of numbers: whether two are one, and whether a number is in one.
-/
import Derived.Test.YtjbilidfnfnpfaaD14
namespace Go.Proofs.Ytjbilidfnfnpfaa.R
open Go
set_option linter.unusedVariables false
set_option linter.unusedSimpArgs false
set_option maxRecDepth 100000
def isI64 : F → Bool
  | .int .i64 _ => true
  | _ => false
def unI64 : F → Int
  | .int .i64 n => n
  | _ => 0
def isInts (x : F) : Bool := isSl isI64 x
def unInts (x : F) : List Int := unSl unI64 x
theorem unInts_intsF (l : List Int) : unInts (intsF l) = l := unSl_slF (fun _ => rfl) l
theorem isInts_intsF (l : List Int) : isInts (intsF l) = true := isSl_slF l fun _ _ => rfl
theorem i64_eq {x : F} (h : isI64 x = true) : i64F (unI64 x) = x := by
  unfold isI64 at h
  split at h
  · rfl
  · cases h
theorem ints_eqv {x : F} (hx : isInts x = true) : FLe x (intsF (unInts x)) ∧ FLe (intsF (unInts x)) x := slF_eqv (fun _ h => i64_eq h) hx
/-! ### function 31 -/
def S31_4 (a : List Int) (b : List Int) (x5 : Int) : St := ⟨[(U.f (intsF a)), (U.f (intsF b)), .bad, .bad, .bad, (U.f (F.int .i64 x5)), .bad, .bad, .bad, .bad, .bad, .bad, .bad, .bad, .bad, .bad, .bad, .bad, .bad, .bad, .bad, .bad, .bad, .bad, .bad, .bad], []⟩
def T31_4 {ρ : Type} (ret : (Bool) → Option ρ) (c4 : (List Int) → (List Int) → (Int) → Option ρ) (a : List Int) (b : List Int) (x5 : Int) : Option ρ :=
  (bsel (decide (x5 < (↑a.length : Int)))
   (bsel (decide (0 ≤ x5))
    (bsel (decide (x5 < (↑a.length : Int)))
     (bsel (decide (0 ≤ x5))
      (bsel (decide (x5 < (↑b.length : Int)))
       (bsel (a.getD x5.toNat 0 != b.getD x5.toNat 0)
        (ret (false))
        (c4 (a) (b) (IntKind.i64.wrap (x5 + 1))))
       none)
      none)
     none)
    none)
   (ret (true)))
def L31_4 : Nat → (List Int) → (List Int) → (Int) → Option (Bool)
  | 0, _, _, _ => none
  | k + 1, a, b, x5 => T31_4 some (L31_4 k) a b x5
def T31 {ρ : Type} (ret : (Bool) → Option ρ) (c4 : (List Int) → (List Int) → (Int) → Option ρ) (a : List Int) (b : List Int) : Option ρ :=
  (bsel ((↑a.length : Int) != (↑b.length : Int))
   (ret (false))
   (c4 (a) (b) (0)))
def G31 (k : Nat) (a : List Int) (b : List Int) : Option (Bool) := T31 some (L31_4 k) a b
theorem t31_4 : ∀ (k : Nat) (a : List Int) (b : List Int) (x5 : Int) (r : Bool), L31_4 k a b x5 = some r → Ends Try.prog Try.f31.results.toList (at_ Try.f31 4) (S31_4 a b x5) (F.bool r)
  | 0, _, _, _, _, h => nomatch h
  | k + 1, a, b, x5, r, h => by
    refine Ends.of_cut tyOK env0_ok (T := [(4, [0, 1, 5], 0)]) (n := 200) ?_
    have e : runCut Try.prog (tiOf Try.prog) env0 [(4, [0, 1, 5], 0)] 0 Try.f31.results.toList some 200 (at_ Try.f31 4) (S31_4 a b x5) = T31_4 (fun r => some (.ret (F.bool r))) (fun a b x5 => some (.cut (at_ Try.f31 4) (S31_4 a b x5))) a b x5 := by kernel_rfl
    rw [e]
    exact (good_sel h (fun _ h => (good_sel h (fun _ h => (good_sel h (fun _ h => (good_sel h (fun _ h => (good_sel h (fun _ h => (good_sel h (fun _ h => good_ret (by cases h; rfl)) (fun _ h => good_cut (t31_4 k _ _ _ r h)))) (fun _ h => nomatch h))) (fun _ h => nomatch h))) (fun _ h => nomatch h))) (fun _ h => nomatch h))) (fun _ h => good_ret (by cases h; rfl)))
theorem t31 (k : Nat) (a : List Int) (b : List Int) (r : Bool) (h : G31 k a b = some r) : Ends Try.prog Try.f31.results.toList [.code (bodyOf Try.f31)] (start Try.f31.ntmps ([intsF a, intsF b].map .f)) (F.bool r) := by
  refine Ends.of_run tyOK env0_ok (T := [(4, [0, 1, 5], 0)]) (n := 200) ?_
  have e : run Try.prog (tiOf Try.prog) env0 [(4, [0, 1, 5], 0)] 0 Try.f31.results.toList some 200 [.code (bodyOf Try.f31)] (start Try.f31.ntmps ([intsF a, intsF b].map .f)) = T31 (fun r => some (.ret (F.bool r))) (fun a b x5 => some (.cut (at_ Try.f31 4) (S31_4 a b x5))) a b := by kernel_rfl
  rw [e]
  exact (good_sel h (fun _ h => good_ret (by cases h; rfl)) (fun _ h => good_cut (t31_4 k _ _ _ r h)))
/-! ### function 32 -/
def S32_2 (a : List Int) (x : Int) (x5 : Int) : St := ⟨[(U.f (intsF a)), (U.f (F.int .i64 x)), .bad, .bad, .bad, (U.f (F.int .i64 x5)), .bad, .bad, .bad, .bad, .bad, .bad, .bad, .bad, .bad, .bad, .bad, .bad], []⟩
def T32_2 {ρ : Type} (ret : (Bool) → Option ρ) (c2 : (List Int) → (Int) → (Int) → Option ρ) (a : List Int) (x : Int) (x5 : Int) : Option ρ :=
  (bsel (decide (x5 < (↑a.length : Int)))
   (bsel (decide (0 ≤ x5))
    (bsel (decide (x5 < (↑a.length : Int)))
     (bsel (a.getD x5.toNat 0 == x)
      (ret (true))
      (c2 (a) (x) (IntKind.i64.wrap (x5 + 1))))
     none)
    none)
   (ret (false)))
def L32_2 : Nat → (List Int) → (Int) → (Int) → Option (Bool)
  | 0, _, _, _ => none
  | k + 1, a, x, x5 => T32_2 some (L32_2 k) a x x5
def T32 {ρ : Type} (ret : (Bool) → Option ρ) (c2 : (List Int) → (Int) → (Int) → Option ρ) (a : List Int) (x : Int) : Option ρ :=
  (c2 (a) (x) (0))
def G32 (k : Nat) (a : List Int) (x : Int) : Option (Bool) := T32 some (L32_2 k) a x
theorem t32_2 : ∀ (k : Nat) (a : List Int) (x : Int) (x5 : Int) (r : Bool), L32_2 k a x x5 = some r → Ends Try.prog Try.f32.results.toList (at_ Try.f32 2) (S32_2 a x x5) (F.bool r)
  | 0, _, _, _, _, h => nomatch h
  | k + 1, a, x, x5, r, h => by
    refine Ends.of_cut tyOK env0_ok (T := [(2, [0, 1, 5], 0)]) (n := 200) ?_
    have e : runCut Try.prog (tiOf Try.prog) env0 [(2, [0, 1, 5], 0)] 0 Try.f32.results.toList some 200 (at_ Try.f32 2) (S32_2 a x x5) = T32_2 (fun r => some (.ret (F.bool r))) (fun a x x5 => some (.cut (at_ Try.f32 2) (S32_2 a x x5))) a x x5 := by kernel_rfl
    rw [e]
    exact (good_sel h (fun _ h => (good_sel h (fun _ h => (good_sel h (fun _ h => (good_sel h (fun _ h => good_ret (by cases h; rfl)) (fun _ h => good_cut (t32_2 k _ _ _ r h)))) (fun _ h => nomatch h))) (fun _ h => nomatch h))) (fun _ h => good_ret (by cases h; rfl)))
theorem t32 (k : Nat) (a : List Int) (x : Int) (r : Bool) (h : G32 k a x = some r) : Ends Try.prog Try.f32.results.toList [.code (bodyOf Try.f32)] (start Try.f32.ntmps ([intsF a, F.int .i64 x].map .f)) (F.bool r) := by
  refine Ends.of_run tyOK env0_ok (T := [(2, [0, 1, 5], 0)]) (n := 200) ?_
  have e : run Try.prog (tiOf Try.prog) env0 [(2, [0, 1, 5], 0)] 0 Try.f32.results.toList some 200 [.code (bodyOf Try.f32)] (start Try.f32.ntmps ([intsF a, F.int .i64 x].map .f)) = T32 (fun r => some (.ret (F.bool r))) (fun a x x5 => some (.cut (at_ Try.f32 2) (S32_2 a x x5))) a x := by kernel_rfl
  rw [e]
  exact good_cut (t32_2 k _ _ _ r h)
theorem sameInts_loop (a b : List Int) (hab : a.length = b.length) (ha : a.length ≤ 1000000) : ∀ (d i : Nat), i + d = a.length → L31_4 (d + 1) a b i = some (a.drop i == b.drop i)
  | 0, i, h => by
    have c1 : decide ((i : Int) < (a.length : Int)) = false := decide_eq_false (by omega)
    simp only [L31_4, T31_4, c1, bsel_false]
    rw [List.drop_eq_nil_of_le (by omega), List.drop_eq_nil_of_le (by omega)]
    rfl
  | d + 1, i, h => by
    have hi : i < a.length := by omega
    have hj : i < b.length := by omega
    have c1 : decide ((i : Int) < (a.length : Int)) = true := decide_eq_true (by omega)
    have c2 : decide ((i : Int) < (b.length : Int)) = true := decide_eq_true (by omega)
    have c3 : decide (0 ≤ (i : Int)) = true := decide_eq_true (by omega)
    have hw : IntKind.i64.wrap ((i : Int) + 1) = ((i + 1 : Nat) : Int) := by rw [wrapi (by omega) (by omega)]; omega
    have ga : a.getD i 0 = a[i] := by simp [List.getD, List.getElem?_eq_getElem hi]
    have gb : b.getD i 0 = b[i] := by simp [List.getD, List.getElem?_eq_getElem hj]
    rw [L31_4]
    simp only [T31_4, c1, c2, c3, hw, sameInts_loop a b hab ha d (i + 1) (by omega), bsel_true, Int.toNat_natCast, ga, gb]
    rw [List.drop_eq_getElem_cons hi, List.drop_eq_getElem_cons hj, List.cons_beq_cons, bne]
    cases a[i] == b[i] <;> rfl
theorem hasInt_loop (a : List Int) (x : Int) (ha : a.length ≤ 1000000) : ∀ (d i : Nat), i + d = a.length → L32_2 (d + 1) a x i = some ((a.drop i).any (· == x))
  | 0, i, h => by
    have c1 : decide ((i : Int) < (a.length : Int)) = false := decide_eq_false (by omega)
    simp only [L32_2, T32_2, c1, bsel_false]
    rw [List.drop_eq_nil_of_le (by omega)]
    rfl
  | d + 1, i, h => by
    have hi : i < a.length := by omega
    have c1 : decide ((i : Int) < (a.length : Int)) = true := decide_eq_true (by omega)
    have c3 : decide (0 ≤ (i : Int)) = true := decide_eq_true (by omega)
    have hw : IntKind.i64.wrap ((i : Int) + 1) = ((i + 1 : Nat) : Int) := by rw [wrapi (by omega) (by omega)]; omega
    have ga : a.getD i 0 = a[i] := by simp [List.getD, List.getElem?_eq_getElem hi]
    rw [L32_2]
    simp only [T32_2, c1, c3, hw, hasInt_loop a x ha d (i + 1) (by omega), bsel_true, Int.toNat_natCast, ga]
    rw [List.drop_eq_getElem_cons hi, List.any_cons]
    cases a[i] == x <;> rfl
def shortInts (x : F) : Bool := isInts x && decide ((unInts x).length ≤ 1000000)
def preSame : List F → Bool | [x, y] => shortInts x && isInts y | _ => false
def resSame : List F → F | [x, y] => .bool (unInts x == unInts y) | _ => .dflt
theorem sameInts_eq (a b : List Int) (ha : a.length ≤ 1000000) : G31 (a.length + 1) a b = some (a == b) := by
  unfold G31 T31
  by_cases h : a.length = b.length
  · have c : ((a.length : Int) != (b.length : Int)) = false := by simp [h]
    rw [c]
    exact sameInts_loop a b h ha a.length 0 (by omega)
  · have c : ((a.length : Int) != (b.length : Int)) = true := by simp; omega
    rw [c, bsel_true]
    have : (a == b) = false := by
      rw [beq_eq_false_iff_ne]
      intro e; exact h (by rw [e])
    rw [this]
theorem okSame : PureOK Try.prog 31 preSame resSame :=
  fn_pure_at (c := bodyOf Try.f31) Try.func31 (by kernel_rfl) (by kernel_rfl) fun xs hp => match xs, hp with
  | [x, y], hp => by
    simp only [preSame, shortInts, Bool.and_eq_true, decide_eq_true_eq] at hp
    exact ⟨[intsF (unInts x), intsF (unInts y)], _, ⟨(ints_eqv hp.1.1).1, (ints_eqv hp.2).1, trivial⟩, t31 _ _ _ _ (sameInts_eq _ _ hp.1.2), .refl _⟩
def preHas : List F → Bool | [x, .int .i64 _] => shortInts x | _ => false
def resHas : List F → F | [x, .int .i64 n] => .bool ((unInts x).any (· == n)) | _ => .dflt
theorem okHas : PureOK Try.prog 32 preHas resHas :=
  fn_pure_at (c := bodyOf Try.f32) Try.func32 (by kernel_rfl) (by kernel_rfl) fun xs hp => match xs, hp with
  | [x, .int .i64 n], hp => by
    simp only [preHas, shortInts, Bool.and_eq_true, decide_eq_true_eq] at hp
    have : G32 ((unInts x).length + 1) (unInts x) n = some ((unInts x).any (· == n)) := hasInt_loop (unInts x) n hp.2 (unInts x).length 0 (by omega)
    exact ⟨[intsF (unInts x), .int .i64 n], _, ⟨(ints_eqv hp.1).1, .refl _, trivial⟩, t32 _ _ _ _ this, .refl _⟩
theorem okBigD1 : SpOK Try.prog 29 (.pure preB (fun xs => match xs with | [b] => .bool (decide (((unBytes b).size : Int) > 1048576)) | _ => .bool false)) := okBig
noncomputable def envD15 : Env := ((((((env0.add 29 (.pure preB (fun xs => match xs with | [b] => .bool (decide (((unBytes b).size : Int) > 1048576)) | _ => .bool false))).add 30 (.pure preD resDrawWindow)).add 18 (.pure preWindow resWindow)).add 15 (.pure preWindow resWindow)).add 31 (.pure preSame resSame)).add 32 (.pure preHas resHas)).add 33 (.pure preMeets resMeetsBox)
theorem envD15_ok : EnvOK Try.prog envD15 := Env.add_ok (Env.add_ok (Env.add_ok (Env.add_ok (Env.add_ok (Env.add_ok (Env.add_ok env0_ok okBigD1) okDrawWindow.sp) okWindowI.sp) okWindowS.sp) okSame.sp) okHas.sp) okMeetsBox.sp
end Go.Proofs.Ytjbilidfnfnpfaa.R
