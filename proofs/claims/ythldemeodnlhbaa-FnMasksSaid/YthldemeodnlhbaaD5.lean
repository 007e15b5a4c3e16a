/-
  The walk of the reader of drawn bytes: a drawn matrix and a drawn mask.
-/
import Derived.Test.YthldemeodnlhbaaD4
import Derived.Test.YthldemeodnlhbaaM5
import Derived.Test.YthldemeodnlhbaaM7
namespace Go.Proofs.Ythldemeodnlhbaa.R
open Go
noncomputable section
set_option linter.unusedVariables false
set_option linter.unusedSimpArgs false
set_option maxRecDepth 100000
/-! ### function 18 -/
def T18 {ρ : Type} (ret : (ByteArray) → (ByteArray) → Option ρ) (a0 : ByteArray) : Option ρ :=
  (bsel (isBytes (bytesF a0))
   (bsel (isBytes (bytesF a0) && rdOk (unBytes (bytesF a0)) 0 && true)
    (bsel (isBytes (bytesF a0) && rdOk (unBytes (bytesF a0)) (lettersV (unBytes (bytesF a0)) 0 (ByteArray.mk #[70, 70, 49, 50])).snd)
     (bsel ((onceV (unBytes (bytesF a0)) (lettersV (unBytes (bytesF a0)) 0 (ByteArray.mk #[70, 70, 49, 50])).snd 3).fst)
      (bsel (isBytes (bytesF a0) && rdOk (unBytes (bytesF a0)) (onceV (unBytes (bytesF a0)) (lettersV (unBytes (bytesF a0)) 0 (ByteArray.mk #[70, 70, 49, 50])).snd 3).snd && true)
       (ret ((lettersV (unBytes (bytesF a0)) 0 (ByteArray.mk #[70, 70, 49, 50])).fst) ((lettersV (unBytes (bytesF a0)) (onceV (unBytes (bytesF a0)) (lettersV (unBytes (bytesF a0)) 0 (ByteArray.mk #[70, 70, 49, 50])).snd 3).snd (ByteArray.mk #[84, 42])).fst))
       none)
      (bsel (isBytes (bytesF a0) && rdOk (unBytes (bytesF a0)) (onceV (unBytes (bytesF a0)) (lettersV (unBytes (bytesF a0)) 0 (ByteArray.mk #[70, 70, 49, 50])).snd 3).snd && true)
       (ret ((lettersV (unBytes (bytesF a0)) 0 (ByteArray.mk #[70, 70, 49, 50])).fst) ((lettersV (unBytes (bytesF a0)) (onceV (unBytes (bytesF a0)) (lettersV (unBytes (bytesF a0)) 0 (ByteArray.mk #[70, 70, 49, 50])).snd 3).snd (ByteArray.mk #[84, 70, 42, 42, 42, 50])).fst))
       none))
     none)
    none)
   none)
def G18 (a0 : ByteArray) : Option ((ByteArray) × (ByteArray)) := T18 (fun r q => some (r, q)) a0
theorem t18 (a0 : ByteArray) (r : ByteArray) (q : ByteArray) (h : G18 a0 = some (r, q)) : Ends Try.prog Try.f18.results.toList [.code (bodyOf Try.f18)] (start Try.f18.ntmps ([bytesF a0].map .f)) (F.tup [F.str r, F.str q]) := by
  refine Ends.of_run tyOK envD4_ok (T := []) (n := 200) ?_
  have e : run Try.prog (tiOf Try.prog) envD4 [] 0 Try.f18.results.toList some 200 [.code (bodyOf Try.f18)] (start Try.f18.ntmps ([bytesF a0].map .f)) = T18 (fun r q => some (.ret (F.tup [F.str r, F.str q]))) a0 := by kernel_rfl
  rw [e]
  exact (good_sel h (fun _ h => (good_sel h (fun _ h => (good_sel h (fun _ h => (good_sel h (fun _ h => (good_sel h (fun _ h => good_ret (by cases h; rfl)) (fun _ h => nomatch h))) (fun _ h => (good_sel h (fun _ h => good_ret (by cases h; rfl)) (fun _ h => nomatch h))))) (fun _ h => nomatch h))) (fun _ h => nomatch h))) (fun _ h => nomatch h))
def drawMatchesV (s : ByteArray) : ByteArray × ByteArray := (G18 s).getD (⟨#[]⟩, ⟨#[]⟩)
theorem drawMatches_ok {s : ByteArray} (h : s.size ≤ 1048576) : G18 s = some (drawMatchesV s) ∧ (drawMatchesV s).1.size ≤ 9 ∧ (drawMatchesV s).2.size ≤ 9 := by
  have h0 : rdOk s 0 = true := rdOk_iff.2 (by omega)
  obtain ⟨a1, a2, a3⟩ := letters_ok h0 (a1 := ⟨#[70, 70, 49, 50]⟩) (by decide) (by decide)
  obtain ⟨b1, b2⟩ := once_ok a3 3
  obtain ⟨c1, c2, c3⟩ := letters_ok b2 (a1 := ⟨#[84, 42]⟩) (by decide) (by decide)
  obtain ⟨d1, d2, d3⟩ := letters_ok b2 (a1 := ⟨#[84, 70, 42, 42, 42, 50]⟩) (by decide) (by decide)
  unfold drawMatchesV G18 T18
  simp only [unBytes_bytesF, isBytes_bytesF, h0, a3, b2, Bool.and_self, Bool.and_true, bsel_true]
  cases (onceV s (lettersV s 0 ⟨#[70, 70, 49, 50]⟩).2 3).1
  · simp only [bsel_false, Option.getD_some]; exact ⟨trivial, a2, d2⟩
  · simp only [bsel_true, Option.getD_some]; exact ⟨trivial, a2, c2⟩
def preD : List F → Bool | [b] => isBytes b && decide ((unBytes b).size ≤ 1048576) | _ => false
def resDrawMatches : List F → F | [b] => .tup [.str (drawMatchesV (unBytes b)).1, .str (drawMatchesV (unBytes b)).2] | _ => .dflt
theorem okDrawMatches : SpOK Try.prog 18 (.pure preD resDrawMatches) :=
  fn_pure_at (c := bodyOf Try.f18) Try.func18 (by kernel_rfl) (by kernel_rfl) fun xs hp => match xs, hp with
  | [b], hp => by
    simp only [preD, Bool.and_eq_true, decide_eq_true_eq] at hp
    exact ⟨[bytesF (unBytes b)], _, ⟨(bytes_eqv hp.1).1, trivial⟩, t18 _ _ _ (drawMatches_ok hp.2).1, .refl _⟩
def envD5 : Env := ((((((envD4.add 18 (.pure preD resDrawMatches)).add 10 (.pure pre9 res9)).add 11 (.pure pre9 res11)).add 12 (.pure pre9 res11)).add 13 (.pure pre13 res13)).add 14 (.pure pre13 res13))
theorem envD5_ok : EnvOK Try.prog envD5 := Env.add_ok (Env.add_ok (Env.add_ok (Env.add_ok (Env.add_ok (Env.add_ok envD4_ok okDrawMatches) ok10.sp) ok11.sp) ok12.sp) ok13.sp) ok14.sp
end
end Go.Proofs.Ythldemeodnlhbaa.R
