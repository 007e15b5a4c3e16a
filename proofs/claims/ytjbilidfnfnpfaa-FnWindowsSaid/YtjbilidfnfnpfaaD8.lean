/-
  The walk of the reader of drawn bytes: a number near others.
-/
import Derived.Test.YtjbilidfnfnpfaaD7
namespace Go.Proofs.Ytjbilidfnfnpfaa.R
open Go
set_option linter.unusedVariables false
set_option linter.unusedSimpArgs false
set_option maxRecDepth 100000
/-! ### function 123 -/
def T123 {ρ : Type} (ret : (Int) → (Int) → Option ρ) (s : ByteArray) (p : Int) (a : Int) (b : Int) : Option ρ :=
  (bsel (isBytes (bytesF s) && rdOk (unBytes (bytesF s)) p)
   (bsel ((belowV (unBytes (bytesF s)) p 8).fst == 0)
    (ret (a) ((belowV (unBytes (bytesF s)) p 8).snd))
    (bsel ((belowV (unBytes (bytesF s)) p 8).fst == 1)
     (ret (b) ((belowV (unBytes (bytesF s)) p 8).snd))
     (bsel (decide (b < a))
      (ret (a) ((belowV (unBytes (bytesF s)) p 8).snd))
      (bsel (isBytes (bytesF s) && rdOk (unBytes (bytesF s)) (belowV (unBytes (bytesF s)) p 8).snd && true)
       (bsel (IntKind.u64.wrap (IntKind.i64.wrap (IntKind.i64.wrap (b - a) + 1)) != 0)
        (ret (IntKind.i64.wrap (a + IntKind.i64.wrap (((wordV (unBytes (bytesF s)) (belowV (unBytes (bytesF s)) p 8).snd).fst.fdiv (2 ^ min (Int.toNat 1) IntKind.u64.bits)).tmod (IntKind.u64.wrap (IntKind.i64.wrap (IntKind.i64.wrap (b - a) + 1)))))) ((wordV (unBytes (bytesF s)) (belowV (unBytes (bytesF s)) p 8).snd).snd))
        none)
       none))))
   none)
def G123 (s : ByteArray) (p : Int) (a : Int) (b : Int) : Option ((Int) × (Int)) := T123 (fun r q => some (r, q)) s p a b
theorem t123 (s : ByteArray) (p : Int) (a : Int) (b : Int) (r : Int) (q : Int) (h : G123 s p a b = some (r, q)) : EndsN Try.prog 1 Try.f123.results.toList [.code (bodyOf Try.f123)] (startN Try.f123.ntmps [U.hp 0 0, U.f (F.int .i64 a), U.f (F.int .i64 b)] [HO.box [U.f (bytesF s), U.f (F.int .i64 p)]]) (F.tup [F.int .i64 r, F.agg [bytesF s, F.int .i64 q]]) := by
  refine Ends.of_run tyOK envD7_ok (T := []) (n := 200) ?_
  have e : run Try.prog (tiOf Try.prog) envD7 [] 1 Try.f123.results.toList some 200 [.code (bodyOf Try.f123)] (startN Try.f123.ntmps [U.hp 0 0, U.f (F.int .i64 a), U.f (F.int .i64 b)] [HO.box [U.f (bytesF s), U.f (F.int .i64 p)]]) = T123 (fun r q => some (.ret (F.tup [F.int .i64 r, F.agg [bytesF s, F.int .i64 q]]))) s p a b := by kernel_rfl
  rw [e]
  exact (good_sel h (fun _ h => (good_sel h (fun _ h => good_ret (by cases h; rfl)) (fun _ h => (good_sel h (fun _ h => good_ret (by cases h; rfl)) (fun _ h => (good_sel h (fun _ h => good_ret (by cases h; rfl)) (fun _ h => (good_sel h (fun _ h => (good_sel h (fun _ h => good_ret (by cases h; rfl)) (fun _ h => nomatch h))) (fun _ h => nomatch h))))))))) (fun _ h => nomatch h))
theorem wrapu {x : Int} (h0 : 0 ≤ x) (h1 : x ≤ 18446744073709551615) : IntKind.u64.wrap x = x := by
  unfold IntKind.wrap
  simp [IntKind.bits, IntKind.signed]
  omega
def isNear : List F → Bool
  | [.int .i64 a, .int .i64 b] => decide (-1099511627776 ≤ a ∧ a ≤ b ∧ b ≤ 1099511627776)
  | _ => false
def nearV (a b : Int) (s : ByteArray) (p : Int) : Int × Int := (G123 s p a b).getD (0, 0)
theorem near_ok {s : ByteArray} {p a b : Int} (h : rdOk s p = true) (hab : -1099511627776 ≤ a ∧ a ≤ b ∧ b ≤ 1099511627776) : G123 s p a b = some (nearV a b s p) ∧ rdOk s (nearV a b s p).2 = true := by
  obtain ⟨b1, b2, b3, b4⟩ := below_ok h 8
  obtain ⟨w1, w2⟩ := word_ok b4
  unfold nearV G123 T123
  have e : IntKind.u64.wrap (IntKind.i64.wrap (IntKind.i64.wrap (b - a) + 1)) = b - a + 1 := by
    rw [wrapi (x := b - a) (by omega) (by omega), wrapi (by omega) (by omega), wrapu (by omega) (by omega)]
  have c1 : (b - a + 1 != 0) = true := by simp; omega
  have c2 : decide (b < a) = false := decide_eq_false (by omega)
  simp only [unBytes_bytesF, isBytes_bytesF, h, b4, e, c1, c2, Bool.and_self, Bool.and_true, bsel_true, bsel_false]
  cases (belowV s p 8).1 == 0
  · simp only [bsel_false]
    cases (belowV s p 8).1 == 1
    · simp only [bsel_false, Option.getD_some]; exact ⟨trivial, w2⟩
    · simp only [bsel_true, Option.getD_some]; exact ⟨trivial, b4⟩
  · simp only [bsel_true, Option.getD_some]; exact ⟨trivial, b4⟩
def resNear : List F → ByteArray → Int → F × Int
  | [.int .i64 a, .int .i64 b], s, p => (.int .i64 (nearV a b s p).1, (nearV a b s p).2)
  | _, _, p => (.dflt, p)
theorem okNear : SpOK Try.prog 123 (rdSp isNear resNear) :=
  ok_rd (c := bodyOf Try.f123) Try.func123 (by kernel_rfl) (by kernel_rfl) fun xs s p hx hr => match xs, hx with
  | [.int .i64 a, .int .i64 b], hx => ⟨_, .refl _, t123 s p a b _ _ (near_ok hr (of_decide_eq_true hx)).1⟩
def envD8 : Env := envD7.add 123 (rdSp isNear resNear)
theorem envD8_ok : EnvOK Try.prog envD8 := Env.add_ok envD7_ok okNear
end Go.Proofs.Ytjbilidfnfnpfaa.R
