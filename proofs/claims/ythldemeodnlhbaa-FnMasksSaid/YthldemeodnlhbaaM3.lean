/-
  The walk of the functions about masks: both ways to tell a mask agree.
-/
import Derived.Test.YthldemeodnlhbaaM2
namespace Go.Proofs.Ythldemeodnlhbaa.R
open Go
set_option linter.unusedVariables false
set_option linter.unusedSimpArgs false
set_option maxRecDepth 100000
/-! ### function 10 -/
def T10 {ρ : Type} (ret : Bool → Option ρ) (a0 : ByteArray) : Option ρ :=
  (bsel (((↑a0.size : Int) == 9) == true)
   (bsel (pre29 [F.str a0, F.str { data := #[84, 70, 42, 48, 49, 50] }])
    (ret (isOfV a0 { data := #[84, 70, 42, 48, 49, 50] }))
    none)
   (ret (false)))
def G10 (a0 : ByteArray) : Option (Bool) := T10 some a0
theorem t10 (a0 : ByteArray) (r : Bool) (h : G10 a0 = some r) : Ends Try.prog Try.f10.results.toList [.code (bodyOf Try.f10)] (start Try.f10.ntmps ([F.str a0].map .f)) (F.bool r) := by
  refine Ends.of_run tyOK env4_ok (T := []) (n := 200) ?_
  have e : run Try.prog (tiOf Try.prog) env4 [] 0 Try.f10.results.toList some 200 [.code (bodyOf Try.f10)] (start Try.f10.ntmps ([F.str a0].map .f)) = T10 (fun r => some (.ret (F.bool r))) a0 := by kernel_rfl
  rw [e]
  exact (good_sel h (fun _ h => (good_sel h (fun _ h => good_ret (by cases h; rfl)) (fun _ h => nomatch h))) (fun _ h => good_ret (by cases h; rfl)))
theorem okc_table : ∀ n : Nat, n < 256 → decide (0 ≤ Lib.indexByte [84, 70, 42, 48, 49, 50] n.toUInt8) = okc (n : Int) := by decide +kernel
theorem byteAt_lt (s : ByteArray) (i : Int) : ∃ n : Nat, n < 256 ∧ byteAt s i = (n : Int) := ⟨_, UInt8.toNat_lt _, rfl⟩
theorem mask_bytes (s : ByteArray) (i : Int) : decide (0 ≤ idx { data := #[84, 70, 42, 48, 49, 50] } (byteAt s i)) = okc (byteAt s i) := by
  obtain ⟨n, hn, e⟩ := byteAt_lt s i
  rw [e]
  exact okc_table n hn
theorem isOf_mask (s : ByteArray) (h : s.size = 9) : isOfV s { data := #[84, 70, 42, 48, 49, 50] } = maskV s := by
  unfold isOfV maskV
  simp only [mask_bytes]
  rw [h]
  simp
theorem G10_eq (s : ByteArray) : G10 s = some (maskV s) := by
  unfold G10 T10
  by_cases h : s.size = 9
  · have c : ((s.size : Int) == 9) = true := by simp [h]
    have c2 : pre29 [F.str s, F.str { data := #[84, 70, 42, 48, 49, 50] }] = true := by simp [pre29, h]
    rw [c, c2, isOf_mask s h]
    rfl
  · have c : ((s.size : Int) == 9) = false := by simp; omega
    rw [c]
    unfold maskV
    rw [decide_eq_false h, Bool.false_and]
    rfl
theorem ok10 : PureOK Try.prog 10 pre9 res9 :=
  fn_pure (c := bodyOf Try.f10) Try.func10 (by kernel_rfl) (by kernel_rfl) fun xs hp => match xs, hp with
  | [.str s], hp => t10 s _ (G10_eq s)
def env5 : Env := fun f => match f with | 9 => .pure pre9 res9 | 10 => .pure pre9 res9 | _ => .none
theorem env5_ok : EnvOK Try.prog env5 := by
  intro f
  unfold env5
  split
  · exact ok9
  · exact ok10
  · trivial
/-! ### function 3 -/
def T3 {ρ : Type} (ret : Bool → Option ρ) (a0 : ByteArray) : Option ρ :=
  (bsel (decide ((↑a0.size : Int) > 1048576))
   (ret (true))
   (bsel (!maskV a0 == maskV a0)
    (ret (false))
    (ret (true))))
def G3 (a0 : ByteArray) : Option (Bool) := T3 some a0
theorem t3 (a0 : ByteArray) (r : Bool) (h : G3 a0 = some r) : Ends Try.prog Try.f3.results.toList [.code (bodyOf Try.f3)] (start Try.f3.ntmps ([F.str a0].map .f)) (F.bool r) := by
  refine Ends.of_run tyOK env5_ok (T := []) (n := 200) ?_
  have e : run Try.prog (tiOf Try.prog) env5 [] 0 Try.f3.results.toList some 200 [.code (bodyOf Try.f3)] (start Try.f3.ntmps ([F.str a0].map .f)) = T3 (fun r => some (.ret (F.bool r))) a0 := by kernel_rfl
  rw [e]
  exact (good_sel h (fun _ h => good_ret (by cases h; rfl)) (fun _ h => (good_sel h (fun _ h => good_ret (by cases h; rfl)) (fun _ h => good_ret (by cases h; rfl)))))
theorem ok3 : PureOK Try.prog 3 pre9 (fun _ => .bool true) :=
  fn_pure (c := bodyOf Try.f3) Try.func3 (by kernel_rfl) (by kernel_rfl) fun xs hp => match xs, hp with
  | [.str s], hp => t3 s true (by unfold G3 T3; cases decide ((s.size : Int) > 1048576) <;> cases maskV s <;> rfl)
end Go.Proofs.Ythldemeodnlhbaa.R
