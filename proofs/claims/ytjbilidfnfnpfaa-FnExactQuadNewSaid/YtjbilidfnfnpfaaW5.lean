/-
  The walk of segments: right ones, told by yes or no.
-/
import Derived.Test.YtjbilidfnfnpfaaW4
namespace Go.Proofs.Ytjbilidfnfnpfaa.R
open Go
set_option linter.unusedVariables false
set_option linter.unusedSimpArgs false
set_option maxRecDepth 100000
/-! ### function 51 -/
def T51 {ρ : Type} (ret : (Bool) → Option ρ) (l : List Sg) : Option ρ :=
  (bsel (isSegs (segsF l))
   (ret (segsFaultV (unSegs (segsF l)) == 0))
   none)
def G51 (l : List Sg) : Option (Bool) := T51 some l
theorem t51 (l : List Sg) (r : Bool) (h : G51 l = some r) : Ends Try.prog Try.f51.results.toList [.code (bodyOf Try.f51)] (start Try.f51.ntmps ([segsF l].map .f)) (F.bool r) := by
  refine Ends.of_run tyOK envW4_ok (T := []) (n := 200) ?_
  have e : run Try.prog (tiOf Try.prog) envW4 [] 0 Try.f51.results.toList some 200 [.code (bodyOf Try.f51)] (start Try.f51.ntmps ([segsF l].map .f)) = T51 (fun r => some (.ret (F.bool r))) l := by kernel_rfl
  rw [e]
  exact (good_sel h (fun _ h => good_ret (by cases h; rfl)) (fun _ h => nomatch h))
/-! ### function 54 -/
def T54 {ρ : Type} (ret : (Bool) → Option ρ) (l : List Sg) : Option ρ :=
  (bsel (isSegs (segsF l))
   (ret (segsFaultV (unSegs (segsF l)) == 0))
   none)
def G54 (l : List Sg) : Option (Bool) := T54 some l
theorem t54 (l : List Sg) (r : Bool) (h : G54 l = some r) : Ends Try.prog Try.f54.results.toList [.code (bodyOf Try.f54)] (start Try.f54.ntmps ([segsF l].map .f)) (F.bool r) := by
  refine Ends.of_run tyOK envW4_ok (T := []) (n := 200) ?_
  have e : run Try.prog (tiOf Try.prog) envW4 [] 0 Try.f54.results.toList some 200 [.code (bodyOf Try.f54)] (start Try.f54.ntmps ([segsF l].map .f)) = T54 (fun r => some (.ret (F.bool r))) l := by kernel_rfl
  rw [e]
  exact (good_sel h (fun _ h => good_ret (by cases h; rfl)) (fun _ h => nomatch h))
def segsOkV (l : List Sg) : Bool := segsFaultV l == 0
theorem segsOk_spec (l : List Sg) : G51 l = some (segsOkV l) := by
  unfold G51 T51 segsOkV
  simp only [isSegs_segsF, unSegs_segsF, bsel_true]
theorem segsOk_impl (l : List Sg) : G54 l = some (segsOkV l) := by
  unfold G54 T54 segsOkV
  simp only [isSegs_segsF, unSegs_segsF, bsel_true]
theorem segsOk_iff {l : List Sg} : segsOkV l = true ↔ l.length ≤ 40 ∧ ∀ s ∈ l, sgOk s = true := by
  unfold segsOkV segsFaultV
  by_cases h : (l.length : Int) > 40
  · rw [decide_eq_true h]; simp; omega
  · rw [decide_eq_false h, cond_false]
    cases ha : l.all sgOk with
    | true => rw [List.all_eq_true] at ha; simp; exact ⟨by omega, ha⟩
    | false =>
      simp only [cond_false, beq_iff_eq]
      constructor
      · intro h; cases h
      · intro h; rw [List.all_eq_true.2 h.2] at ha; cases ha
def resSegsOk : List F → F | [x] => .bool (segsOkV (unSegs x)) | _ => .dflt
theorem okSegsOkS : PureOK Try.prog 51 preSegs resSegsOk :=
  fn_pure_at (c := bodyOf Try.f51) Try.func51 (by kernel_rfl) (by kernel_rfl) fun xs hp => match xs, hp with
  | [x], hp => ⟨[segsF (unSegs x)], _, ⟨(segs_eqv hp).1, trivial⟩, t51 _ _ (segsOk_spec _), .refl _⟩
theorem okSegsOkI : PureOK Try.prog 54 preSegs resSegsOk :=
  fn_pure_at (c := bodyOf Try.f54) Try.func54 (by kernel_rfl) (by kernel_rfl) fun xs hp => match xs, hp with
  | [x], hp => ⟨[segsF (unSegs x)], _, ⟨(segs_eqv hp).1, trivial⟩, t54 _ _ (segsOk_impl _), .refl _⟩
def envW5 : Env := (envW4.add 51 (.pure preSegs resSegsOk)).add 54 (.pure preSegs resSegsOk)
theorem envW5_ok : EnvOK Try.prog envW5 := Env.add_ok (Env.add_ok envW4_ok okSegsOkS.sp) okSegsOkI.sp
end Go.Proofs.Ytjbilidfnfnpfaa.R
