/-
  The walk of trees: marks on empty slices.
-/
import Derived.Test.YtjbilidfnfnpfaaQ6
import Derived.Test.YtjbilidfnfnpfaaR28
namespace Go.Proofs.Ytjbilidfnfnpfaa.R
open Go
noncomputable section
set_option linter.unusedVariables false
set_option linter.unusedSimpArgs false
set_option maxRecDepth 100000
/-! ### function 22 -/
def S22z_2 (m : Int) : St := ⟨[(U.f (F.sl 0 (fun _ => F.dflt))), (U.f (F.int .i64 m)), .bad, .bad, .bad, (U.f (F.int .i64 0)), .bad, .bad, .bad, .bad, .bad, .bad, .bad, .bad, .bad, .bad, .bad, .bad, .bad], []⟩
def T22z_2 {ρ : Type} (ret : (Int) → Option ρ) (c2 : (Int) → Option ρ) (m : Int) : Option ρ :=
  (ret (m))
def L22z_2 : Nat → (Int) → Option (Int)
  | 0, _ => none
  | k + 1, m => T22z_2 some (L22z_2 k) m
def T22z {ρ : Type} (ret : (Int) → Option ρ) (c2 : (Int) → Option ρ) (m : Int) : Option ρ :=
  (c2 (m))
def G22z (k : Nat) (m : Int) : Option (Int) := T22z some (L22z_2 k) m
theorem t22z_2 : ∀ (k : Nat) (m : Int) (r : Int), L22z_2 k m = some r → Ends Try.prog Try.f22.results.toList (at_ Try.f22 2) (S22z_2 m) (F.int .i64 r)
  | 0, _, _, h => nomatch h
  | k + 1, m, r, h => by
    refine Ends.of_cut tyOK envQ6_ok (T := [(2, [0, 1, 5], 1000)]) (n := 200) ?_
    have e : runCut Try.prog (tiOf Try.prog) envQ6 [(2, [0, 1, 5], 1000)] 0 Try.f22.results.toList some 200 (at_ Try.f22 2) (S22z_2 m) = T22z_2 (fun r => some (.ret (F.int .i64 r))) (fun m => some (.cut (at_ Try.f22 2) (S22z_2 m))) m := by kernel_rfl
    rw [e]
    exact good_ret (by cases h; rfl)
theorem t22z (k : Nat) (m : Int) (r : Int) (h : G22z k m = some r) : Ends Try.prog Try.f22.results.toList [.code (bodyOf Try.f22)] (start Try.f22.ntmps ([F.sl 0 (fun _ => F.dflt), F.int .i64 m].map .f)) (F.int .i64 r) := by
  refine Ends.of_run tyOK envQ6_ok (T := [(2, [0, 1, 5], 1000)]) (n := 200) ?_
  have e : run Try.prog (tiOf Try.prog) envQ6 [(2, [0, 1, 5], 1000)] 0 Try.f22.results.toList some 200 [.code (bodyOf Try.f22)] (start Try.f22.ntmps ([F.sl 0 (fun _ => F.dflt), F.int .i64 m].map .f)) = T22z (fun r => some (.ret (F.int .i64 r))) (fun m => some (.cut (at_ Try.f22 2) (S22z_2 m))) m := by kernel_rfl
  rw [e]
  exact good_cut (t22z_2 k _ r h)
/-! ### function 23 -/
def S23z_2 (m : Int) : St := ⟨[(U.f (F.sl 0 (fun _ => F.dflt))), (U.f (F.int .i64 m)), .bad, .bad, .bad, (U.f (F.int .i64 0)), .bad, .bad, .bad, .bad, .bad, .bad, .bad, .bad, .bad, .bad, .bad, .bad, .bad, .bad, .bad], []⟩
def T23z_2 {ρ : Type} (ret : (Int) → Option ρ) (c2 : (Int) → Option ρ) (m : Int) : Option ρ :=
  (ret (m))
def L23z_2 : Nat → (Int) → Option (Int)
  | 0, _ => none
  | k + 1, m => T23z_2 some (L23z_2 k) m
def T23z {ρ : Type} (ret : (Int) → Option ρ) (c2 : (Int) → Option ρ) (m : Int) : Option ρ :=
  (c2 (m))
def G23z (k : Nat) (m : Int) : Option (Int) := T23z some (L23z_2 k) m
theorem t23z_2 : ∀ (k : Nat) (m : Int) (r : Int), L23z_2 k m = some r → Ends Try.prog Try.f23.results.toList (at_ Try.f23 2) (S23z_2 m) (F.int .i64 r)
  | 0, _, _, h => nomatch h
  | k + 1, m, r, h => by
    refine Ends.of_cut tyOK envQ6_ok (T := [(2, [0, 1, 5], 1000)]) (n := 200) ?_
    have e : runCut Try.prog (tiOf Try.prog) envQ6 [(2, [0, 1, 5], 1000)] 0 Try.f23.results.toList some 200 (at_ Try.f23 2) (S23z_2 m) = T23z_2 (fun r => some (.ret (F.int .i64 r))) (fun m => some (.cut (at_ Try.f23 2) (S23z_2 m))) m := by kernel_rfl
    rw [e]
    exact good_ret (by cases h; rfl)
theorem t23z (k : Nat) (m : Int) (r : Int) (h : G23z k m = some r) : Ends Try.prog Try.f23.results.toList [.code (bodyOf Try.f23)] (start Try.f23.ntmps ([F.sl 0 (fun _ => F.dflt), F.int .i64 m].map .f)) (F.int .i64 r) := by
  refine Ends.of_run tyOK envQ6_ok (T := [(2, [0, 1, 5], 1000)]) (n := 200) ?_
  have e : run Try.prog (tiOf Try.prog) envQ6 [(2, [0, 1, 5], 1000)] 0 Try.f23.results.toList some 200 [.code (bodyOf Try.f23)] (start Try.f23.ntmps ([F.sl 0 (fun _ => F.dflt), F.int .i64 m].map .f)) = T23z (fun r => some (.ret (F.int .i64 r))) (fun m => some (.cut (at_ Try.f23 2) (S23z_2 m))) m := by kernel_rfl
  rw [e]
  exact good_cut (t23z_2 k _ r h)
/-! ### function 63 -/
def S63z_2 (m : Int) : St := ⟨[(U.f (F.sl 0 (fun _ => F.dflt))), (U.f (F.int .i64 m)), .bad, .bad, .bad, (U.f (F.int .i64 0)), .bad, .bad, .bad, .bad, .bad, .bad, .bad, .bad, .bad, .bad, .bad, .bad, .bad, .bad, .bad, .bad, .bad, .bad, .bad, .bad, .bad, .bad, .bad, .bad, .bad, .bad, .bad, .bad, .bad, .bad, .bad, .bad, .bad, .bad, .bad, .bad, .bad, .bad, .bad, .bad, .bad, .bad, .bad, .bad, .bad, .bad, .bad, .bad, .bad, .bad], []⟩
def T63z_2 {ρ : Type} (ret : (Int) → Option ρ) (c2 : (Int) → Option ρ) (m : Int) : Option ρ :=
  (ret (m))
def L63z_2 : Nat → (Int) → Option (Int)
  | 0, _ => none
  | k + 1, m => T63z_2 some (L63z_2 k) m
def T63z {ρ : Type} (ret : (Int) → Option ρ) (c2 : (Int) → Option ρ) (m : Int) : Option ρ :=
  (c2 (m))
def G63z (k : Nat) (m : Int) : Option (Int) := T63z some (L63z_2 k) m
theorem t63z_2 : ∀ (k : Nat) (m : Int) (r : Int), L63z_2 k m = some r → Ends Try.prog Try.f63.results.toList (at_ Try.f63 2) (S63z_2 m) (F.int .i64 r)
  | 0, _, _, h => nomatch h
  | k + 1, m, r, h => by
    refine Ends.of_cut tyOK envQ6_ok (T := [(2, [0, 1, 5], 1000)]) (n := 200) ?_
    have e : runCut Try.prog (tiOf Try.prog) envQ6 [(2, [0, 1, 5], 1000)] 0 Try.f63.results.toList some 200 (at_ Try.f63 2) (S63z_2 m) = T63z_2 (fun r => some (.ret (F.int .i64 r))) (fun m => some (.cut (at_ Try.f63 2) (S63z_2 m))) m := by kernel_rfl
    rw [e]
    exact good_ret (by cases h; rfl)
theorem t63z (k : Nat) (m : Int) (r : Int) (h : G63z k m = some r) : Ends Try.prog Try.f63.results.toList [.code (bodyOf Try.f63)] (start Try.f63.ntmps ([F.sl 0 (fun _ => F.dflt), F.int .i64 m].map .f)) (F.int .i64 r) := by
  refine Ends.of_run tyOK envQ6_ok (T := [(2, [0, 1, 5], 1000)]) (n := 200) ?_
  have e : run Try.prog (tiOf Try.prog) envQ6 [(2, [0, 1, 5], 1000)] 0 Try.f63.results.toList some 200 [.code (bodyOf Try.f63)] (start Try.f63.ntmps ([F.sl 0 (fun _ => F.dflt), F.int .i64 m].map .f)) = T63z (fun r => some (.ret (F.int .i64 r))) (fun m => some (.cut (at_ Try.f63 2) (S63z_2 m))) m := by kernel_rfl
  rw [e]
  exact good_cut (t63z_2 k _ r h)
/-! ### function 65 -/
def S65z_2 (m : Int) : St := ⟨[(U.f (F.sl 0 (fun _ => F.dflt))), (U.f (F.int .i64 m)), .bad, .bad, .bad, (U.f (F.int .i64 0)), .bad, .bad, .bad, .bad, .bad, .bad, .bad, .bad, .bad, .bad, .bad, .bad, .bad, .bad, .bad, .bad, .bad, .bad, .bad, .bad, .bad, .bad, .bad, .bad, .bad, .bad, .bad, .bad, .bad, .bad, .bad, .bad, .bad, .bad, .bad, .bad, .bad, .bad, .bad, .bad, .bad, .bad, .bad, .bad, .bad, .bad, .bad, .bad, .bad, .bad, .bad, .bad, .bad, .bad, .bad, .bad, .bad, .bad, .bad, .bad], []⟩
def T65z_2 {ρ : Type} (ret : (Int) → Option ρ) (c2 : (Int) → Option ρ) (m : Int) : Option ρ :=
  (ret (m))
def L65z_2 : Nat → (Int) → Option (Int)
  | 0, _ => none
  | k + 1, m => T65z_2 some (L65z_2 k) m
def T65z {ρ : Type} (ret : (Int) → Option ρ) (c2 : (Int) → Option ρ) (m : Int) : Option ρ :=
  (c2 (m))
def G65z (k : Nat) (m : Int) : Option (Int) := T65z some (L65z_2 k) m
theorem t65z_2 : ∀ (k : Nat) (m : Int) (r : Int), L65z_2 k m = some r → Ends Try.prog Try.f65.results.toList (at_ Try.f65 2) (S65z_2 m) (F.int .i64 r)
  | 0, _, _, h => nomatch h
  | k + 1, m, r, h => by
    refine Ends.of_cut tyOK envQ6_ok (T := [(2, [0, 1, 5], 1000)]) (n := 200) ?_
    have e : runCut Try.prog (tiOf Try.prog) envQ6 [(2, [0, 1, 5], 1000)] 0 Try.f65.results.toList some 200 (at_ Try.f65 2) (S65z_2 m) = T65z_2 (fun r => some (.ret (F.int .i64 r))) (fun m => some (.cut (at_ Try.f65 2) (S65z_2 m))) m := by kernel_rfl
    rw [e]
    exact good_ret (by cases h; rfl)
theorem t65z (k : Nat) (m : Int) (r : Int) (h : G65z k m = some r) : Ends Try.prog Try.f65.results.toList [.code (bodyOf Try.f65)] (start Try.f65.ntmps ([F.sl 0 (fun _ => F.dflt), F.int .i64 m].map .f)) (F.int .i64 r) := by
  refine Ends.of_run tyOK envQ6_ok (T := [(2, [0, 1, 5], 1000)]) (n := 200) ?_
  have e : run Try.prog (tiOf Try.prog) envQ6 [(2, [0, 1, 5], 1000)] 0 Try.f65.results.toList some 200 [.code (bodyOf Try.f65)] (start Try.f65.ntmps ([F.sl 0 (fun _ => F.dflt), F.int .i64 m].map .f)) = T65z (fun r => some (.ret (F.int .i64 r))) (fun m => some (.cut (at_ Try.f65 2) (S65z_2 m))) m := by kernel_rfl
  rw [e]
  exact good_cut (t65z_2 k _ r h)
def preE : List F → Bool | [.sl n _, .int .i64 _] => Nat.beq n 0 | _ => false
def resE : List F → F | [_, .int .i64 m] => .int .i64 m | _ => .dflt
theorem okMarkI0 : PureOK Try.prog 22 preE resE :=
  fn_pure_at (c := bodyOf Try.f22) Try.func22 (by kernel_rfl) (by kernel_rfl) fun xs hp => match xs, hp with
  | [.sl n g, .int .i64 m], hp => by
    have h : n = 0 := Nat.eq_of_beq_eq_true hp
    subst h
    exact ⟨[.sl 0 fun _ => F.dflt, .int .i64 m], _, ⟨FLe.sl fun j hj => by omega, .refl _, trivial⟩, t22z 2 m _ rfl, .refl _⟩
theorem okHeldI0 : PureOK Try.prog 23 preE resE :=
  fn_pure_at (c := bodyOf Try.f23) Try.func23 (by kernel_rfl) (by kernel_rfl) fun xs hp => match xs, hp with
  | [.sl n g, .int .i64 m], hp => by
    have h : n = 0 := Nat.eq_of_beq_eq_true hp
    subst h
    exact ⟨[.sl 0 fun _ => F.dflt, .int .i64 m], _, ⟨FLe.sl fun j hj => by omega, .refl _, trivial⟩, t23z 2 m _ rfl, .refl _⟩
theorem okMarkT0 : PureOK Try.prog 63 preE resE :=
  fn_pure_at (c := bodyOf Try.f63) Try.func63 (by kernel_rfl) (by kernel_rfl) fun xs hp => match xs, hp with
  | [.sl n g, .int .i64 m], hp => by
    have h : n = 0 := Nat.eq_of_beq_eq_true hp
    subst h
    exact ⟨[.sl 0 fun _ => F.dflt, .int .i64 m], _, ⟨FLe.sl fun j hj => by omega, .refl _, trivial⟩, t63z 2 m _ rfl, .refl _⟩
theorem okHeldT0 : PureOK Try.prog 65 preE resE :=
  fn_pure_at (c := bodyOf Try.f65) Try.func65 (by kernel_rfl) (by kernel_rfl) fun xs hp => match xs, hp with
  | [.sl n g, .int .i64 m], hp => by
    have h : n = 0 := Nat.eq_of_beq_eq_true hp
    subst h
    exact ⟨[.sl 0 fun _ => F.dflt, .int .i64 m], _, ⟨FLe.sl fun j hj => by omega, .refl _, trivial⟩, t65z 2 m _ rfl, .refl _⟩
def envY1 : Env := ((((envQ6.add 22 (.pure preE resE)).add 23 (.pure preE resE)).add 63 (.pure preE resE)).add 65 (.pure preE resE))
theorem envY1_ok : EnvOK Try.prog envY1 := (Env.add_ok (Env.add_ok (Env.add_ok (Env.add_ok envQ6_ok okMarkI0.sp) okHeldI0.sp) okMarkT0.sp) okHeldT0.sp)
end
end Go.Proofs.Ytjbilidfnfnpfaa.R
