/-
  The walk of trees: a tree that is marked, and held.
-/
import Derived.Test.YtjbilidfnfnpfaaY2
namespace Go.Proofs.Ytjbilidfnfnpfaa.R
open Go
noncomputable section
set_option linter.unusedVariables false
set_option linter.unusedSimpArgs false
set_option maxRecDepth 100000
/-! ### function 27 -/
def T27 {ρ : Type} (ret : (Int) → (Nat → F) → Option ρ) (a : Int) (b : Int) (x : Int) (y : Int) (s : Int) (p : Bool) (z : Nat → F) (m : Int) : Option ρ :=
  (ret (w4 m) (fun x ↦ F.agg [F.int IntKind.i64 m, F.int IntKind.i64 (w1I m), F.int IntKind.i64 (w1I (w1I m)), F.bool ((w1I (w1I (w1I m))).tmod 3 == 0), F.sl 0 z]))
def G27 (a : Int) (b : Int) (x : Int) (y : Int) (s : Int) (p : Bool) (z : Nat → F) (m : Int) : Option ((Int) × (Nat → F)) := T27 (fun r g2 => some (r, g2)) a b x y s p z m
theorem t27 (a : Int) (b : Int) (x : Int) (y : Int) (s : Int) (p : Bool) (z : Nat → F) (m : Int) (r : Int) (g2 : Nat → F) (h : G27 a b x y s p z m = some (r, g2)) : EndsN Try.prog 1 Try.f27.results.toList [.code (bodyOf Try.f27)] (startN Try.f27.ntmps [U.agg [U.f (F.int .i64 a), U.f (F.int .i64 b), U.nils, U.hs 0 1 0 1], U.f (F.int .i64 m)] [HO.arr 5 1 (fun _ => F.agg [F.int .i64 x, F.int .i64 y, F.int .i64 s, F.bool p, F.sl 0 z])]) (F.tup [F.int .i64 r, F.sl 1 g2]) := by
  refine Ends.of_run tyOK envY2_ok (T := []) (n := 200) ?_
  have e : run Try.prog (tiOf Try.prog) envY2 [] 1 Try.f27.results.toList some 200 [.code (bodyOf Try.f27)] (startN Try.f27.ntmps [U.agg [U.f (F.int .i64 a), U.f (F.int .i64 b), U.nils, U.hs 0 1 0 1], U.f (F.int .i64 m)] [HO.arr 5 1 (fun _ => F.agg [F.int .i64 x, F.int .i64 y, F.int .i64 s, F.bool p, F.sl 0 z])]) = T27 (fun r g2 => some (.ret (F.tup [F.int .i64 r, F.sl 1 g2]))) a b x y s p z m := by kernel_rfl
  rw [e]
  exact good_ret (by cases h; rfl)
/-! ### function 27 -/
def T27z {ρ : Type} (ret : (Int) → Option ρ) (a : Int) (b : Int) (m : Int) : Option ρ :=
  (ret (m))
def G27z (a : Int) (b : Int) (m : Int) : Option (Int) := T27z some a b m
theorem t27z (a : Int) (b : Int) (m : Int) (r : Int) (h : G27z a b m = some r) : Ends Try.prog Try.f27.results.toList [.code (bodyOf Try.f27)] (start Try.f27.ntmps ([F.agg [F.int .i64 a, F.int .i64 b, F.sl 0 (fun _ => F.dflt), F.sl 0 (fun _ => F.dflt)], F.int .i64 m].map .f)) (F.int .i64 r) := by
  refine Ends.of_run tyOK envY2_ok (T := []) (n := 200) ?_
  have e : run Try.prog (tiOf Try.prog) envY2 [] 0 Try.f27.results.toList some 200 [.code (bodyOf Try.f27)] (start Try.f27.ntmps ([F.agg [F.int .i64 a, F.int .i64 b, F.sl 0 (fun _ => F.dflt), F.sl 0 (fun _ => F.dflt)], F.int .i64 m].map .f)) = T27z (fun r => some (.ret (F.int .i64 r))) a b m := by kernel_rfl
  rw [e]
  exact good_ret (by cases h; rfl)
/-! ### function 28 -/
def T28 {ρ : Type} (ret : (Int) → Option ρ) (a : Int) (b : Int) (x : Int) (y : Int) (s : Int) (p : Bool) (z : Nat → F) (m : Int) : Option ρ :=
  (bsel (decide (m < 0))
   (ret (-1))
   (bsel (decide (heldNV 1 (F.agg [F.int IntKind.i64 x, F.int IntKind.i64 y, F.int IntKind.i64 s, F.bool p, F.sl 0 z]) m < 0))
    (ret (-1))
    (ret (heldNV 1 (F.agg [F.int IntKind.i64 x, F.int IntKind.i64 y, F.int IntKind.i64 s, F.bool p, F.sl 0 z]) m))))
def G28 (a : Int) (b : Int) (x : Int) (y : Int) (s : Int) (p : Bool) (z : Nat → F) (m : Int) : Option (Int) := T28 some a b x y s p z m
theorem t28 (a : Int) (b : Int) (x : Int) (y : Int) (s : Int) (p : Bool) (z : Nat → F) (m : Int) (r : Int) (h : G28 a b x y s p z m = some r) : Ends Try.prog Try.f28.results.toList [.code (bodyOf Try.f28)] (start Try.f28.ntmps ([F.agg [F.int .i64 a, F.int .i64 b, F.sl 0 (fun _ => F.dflt), F.sl 1 (fun _ => F.agg [F.int .i64 x, F.int .i64 y, F.int .i64 s, F.bool p, F.sl 0 z])], F.int .i64 m].map .f)) (F.int .i64 r) := by
  refine Ends.of_run tyOK envY2_ok (T := []) (n := 200) ?_
  have e : run Try.prog (tiOf Try.prog) envY2 [] 0 Try.f28.results.toList some 200 [.code (bodyOf Try.f28)] (start Try.f28.ntmps ([F.agg [F.int .i64 a, F.int .i64 b, F.sl 0 (fun _ => F.dflt), F.sl 1 (fun _ => F.agg [F.int .i64 x, F.int .i64 y, F.int .i64 s, F.bool p, F.sl 0 z])], F.int .i64 m].map .f)) = T28 (fun r => some (.ret (F.int .i64 r))) a b x y s p z m := by kernel_rfl
  rw [e]
  exact (good_sel h (fun _ h => good_ret (by cases h; rfl)) (fun _ h => (good_sel h (fun _ h => good_ret (by cases h; rfl)) (fun _ h => good_ret (by cases h; rfl)))))
/-! ### function 28 -/
def T28z {ρ : Type} (ret : (Int) → Option ρ) (a : Int) (b : Int) (m : Int) : Option ρ :=
  (bsel (decide (m < 0))
   (ret (-1))
   (bsel (decide (heldNV 0 (F.bool false) m < 0))
    (ret (-1))
    (ret (heldNV 0 (F.bool false) m))))
def G28z (a : Int) (b : Int) (m : Int) : Option (Int) := T28z some a b m
theorem t28z (a : Int) (b : Int) (m : Int) (r : Int) (h : G28z a b m = some r) : Ends Try.prog Try.f28.results.toList [.code (bodyOf Try.f28)] (start Try.f28.ntmps ([F.agg [F.int .i64 a, F.int .i64 b, F.sl 0 (fun _ => F.dflt), F.sl 0 (fun _ => F.dflt)], F.int .i64 m].map .f)) (F.int .i64 r) := by
  refine Ends.of_run tyOK envY2_ok (T := []) (n := 200) ?_
  have e : run Try.prog (tiOf Try.prog) envY2 [] 0 Try.f28.results.toList some 200 [.code (bodyOf Try.f28)] (start Try.f28.ntmps ([F.agg [F.int .i64 a, F.int .i64 b, F.sl 0 (fun _ => F.dflt), F.sl 0 (fun _ => F.dflt)], F.int .i64 m].map .f)) = T28z (fun r => some (.ret (F.int .i64 r))) a b m := by kernel_rfl
  rw [e]
  exact (good_sel h (fun _ h => good_ret (by cases h; rfl)) (fun _ h => (good_sel h (fun _ h => good_ret (by cases h; rfl)) (fun _ h => good_ret (by cases h; rfl)))))
def preMarkQd : List U → Nat → (Nat → F) → Bool
  | [.agg [.f (.int .i64 _), .f (.int .i64 _), .nils, .hs 0 gen off len], .f (.int .i64 _)], n, g => Nat.beq gen 1 && Nat.beq off 0 && Nat.beq len 1 && Nat.beq n 1 && isBk0 (g 0)
  | _, _, _ => false
def resMarkQd : List U → Nat → (Nat → F) → F × (Nat → F)
  | [_, .f (.int .i64 m)], _, g => (.int .i64 (w4 m), fun _ => markBk m (g 0))
  | _, _, g => (.dflt, g)
def preMarkQd0 : List F → Bool
  | [.agg [.int .i64 _, .int .i64 _, .sl a _, .sl b _], .int .i64 _] => Nat.beq a 0 && Nat.beq b 0
  | _ => false
def resMarkQd0 : List F → F | [_, .int .i64 m] => .int .i64 m | _ => .dflt
theorem okMarkQd0 : PureOK Try.prog 27 preMarkQd0 resMarkQd0 :=
  fn_pure_at (c := bodyOf Try.f27) Try.func27 (by kernel_rfl) (by kernel_rfl) fun xs hp => match xs, hp with
  | [.agg [.int .i64 a, .int .i64 b, .sl n1 g1, .sl n2 g2], .int .i64 m], hp => by
    simp only [preMarkQd0, Bool.and_eq_true] at hp
    have h1 : n1 = 0 := Nat.eq_of_beq_eq_true hp.1
    have h2 : n2 = 0 := Nat.eq_of_beq_eq_true hp.2
    subst h1; subst h2
    exact ⟨[.agg [.int .i64 a, .int .i64 b, .sl 0 fun _ => F.dflt, .sl 0 fun _ => F.dflt], .int .i64 m], _, ⟨FLe.agg ⟨.refl _, .refl _, FLe.sl fun j hj => by omega, FLe.sl fun j hj => by omega, trivial⟩, .refl _, trivial⟩, t27z a b m _ rfl, .refl _⟩
theorem okMarkQd : SpOK Try.prog 27 (.lent 5 preMarkQd resMarkQd preMarkQd0 resMarkQd0) :=
  fn_lent (c := bodyOf Try.f27) Try.func27 (by kernel_rfl) (by kernel_rfl) (fun us n g hp => match us, n, hp with
    | [.agg [.f (.int .i64 a), .f (.int .i64 b), .nils, .hs 0 gen off len], .f (.int .i64 m)], n, hp => by
      simp only [preMarkQd, Bool.and_eq_true] at hp
      obtain ⟨⟨⟨⟨h1, h2⟩, h3⟩, h4⟩, hb⟩ := hp
      have h1 : gen = 1 := Nat.eq_of_beq_eq_true h1
      have h2 : off = 0 := Nat.eq_of_beq_eq_true h2
      have h3 : len = 1 := Nat.eq_of_beq_eq_true h3
      have h4 : n = 1 := Nat.eq_of_beq_eq_true h4
      subst h1; subst h2; subst h3; subst h4
      obtain ⟨x, y, s, p, z, hg⟩ := bk0_form hb
      refine ⟨rfl, _, Ends.weak (st' := startN Try.f27.ntmps [U.agg [U.f (F.int .i64 a), U.f (F.int .i64 b), U.nils, U.hs 0 1 0 1], U.f (F.int .i64 m)] [HO.arr 5 1 (fun _ => F.agg [F.int .i64 x, F.int .i64 y, F.int .i64 s, F.bool p, F.sl 0 z])]) (UsLe.refl _) (HLe.cons (ObLe.arr fun j hj => by
          have : j = 0 := by omega
          rw [this, hg]) HLe.nil) (t27 a b x y s p z m _ _ rfl), fun j hj => ?_⟩
      have : j = 0 := by omega
      subst this
      have e : (resMarkQd [.agg [.f (.int .i64 a), .f (.int .i64 b), .nils, .hs 0 1 0 1], .f (.int .i64 m)] 1 g).2 0 = markBk m (g 0) := rfl
      rw [e, hg]
      rfl)
    okMarkQd0 (fun xs hp => match xs, hp with
      | [.agg [.int .i64 _, .int .i64 _, .sl _ _, .sl _ _], .int .i64 _], _ => rfl)
def preHeldQd : List F → Bool
  | [.agg [.int .i64 _, .int .i64 _, .sl a _, .sl b g], .int .i64 _] => Nat.beq a 0 && (Nat.beq b 0 || (Nat.beq b 1 && isBk0 (g 0)))
  | _ => false
def heldQdV (b : Nat) (x : F) (m : Int) : Int := bif decide (m < 0) then -1 else bif decide (heldNV b x m < 0) then -1 else heldNV b x m
def resHeldQd : List F → F
  | [.agg [_, _, _, .sl b g], .int .i64 m] => .int .i64 (heldQdV b (g 0) m)
  | _ => .dflt
theorem okHeldQd : PureOK Try.prog 28 preHeldQd resHeldQd :=
  fn_pure_at (c := bodyOf Try.f28) Try.func28 (by kernel_rfl) (by kernel_rfl) fun xs hp => match xs, hp with
  | [.agg [.int .i64 a, .int .i64 b, .sl n1 g1, .sl n2 g], .int .i64 m], hp => by
    simp only [preHeldQd, Bool.and_eq_true, Bool.or_eq_true] at hp
    obtain ⟨h1, hp⟩ := hp
    have h1 : n1 = 0 := Nat.eq_of_beq_eq_true h1
    subst h1
    rcases hp with h2 | ⟨h2, hb⟩
    · have h2 : n2 = 0 := Nat.eq_of_beq_eq_true h2
      subst h2
      refine ⟨[.agg [.int .i64 a, .int .i64 b, .sl 0 fun _ => F.dflt, .sl 0 fun _ => F.dflt], .int .i64 m], _, ⟨FLe.agg ⟨.refl _, .refl _, FLe.sl fun j hj => by omega, FLe.sl fun j hj => by omega, trivial⟩, .refl _, trivial⟩, t28z a b m (heldQdV 0 F.dflt m) ?_, ?_⟩
      · unfold G28z T28z heldQdV
        have e : heldNV 0 F.dflt m = m := rfl
        have e2 : heldNV 0 (F.bool false) m = m := rfl
        rw [e, e2]
        cases decide (m < 0) <;> rfl
      · exact .refl _
    · have h2 : n2 = 1 := Nat.eq_of_beq_eq_true h2
      subst h2
      obtain ⟨x, y, s, p, z, hg⟩ := bk0_form hb
      refine ⟨[.agg [.int .i64 a, .int .i64 b, .sl 0 fun _ => F.dflt, .sl 1 fun _ => F.agg [F.int .i64 x, F.int .i64 y, F.int .i64 s, F.bool p, F.sl 0 z]], .int .i64 m], _, ⟨FLe.agg ⟨.refl _, .refl _, FLe.sl fun j hj => by omega, FLe.sl fun j hj => by
        have : j = 0 := by omega
        rw [this, hg], trivial⟩, .refl _, trivial⟩, t28 a b x y s p z m (heldQdV 1 (F.agg [F.int .i64 x, F.int .i64 y, F.int .i64 s, F.bool p, F.sl 0 z]) m) ?_, ?_⟩
      · unfold G28 T28 heldQdV
        generalize heldNV 1 (F.agg [F.int .i64 x, F.int .i64 y, F.int .i64 s, F.bool p, F.sl 0 z]) m = r
        cases decide (m < 0) with
        | true => rfl
        | false => cases decide (r < 0) <;> rfl
      · have e : resHeldQd [.agg [.int .i64 a, .int .i64 b, .sl 0 g1, .sl 1 g], .int .i64 m] = .int .i64 (heldQdV 1 (g 0) m) := rfl
        rw [e, hg]
        exact .refl _
def envY3 : Env := (envY2.add 27 (.lent 5 preMarkQd resMarkQd preMarkQd0 resMarkQd0)).add 28 (.pure preHeldQd resHeldQd)
theorem envY3_ok : EnvOK Try.prog envY3 := Env.add_ok (Env.add_ok envY2_ok okMarkQd) okHeldQd.sp
end
end Go.Proofs.Ytjbilidfnfnpfaa.R
