/-
  The own walk and what it shows, part 6 of 9.
-/
import Derived.Test.YtmambbfnjbdfgaaJ1
import Derived.Test.YtmambbfnjbdfgaaJ2
import Derived.Test.YtmambbfnjbdfgaaJ3
import Derived.Test.YtmambbfnjbdfgaaJ4
import Derived.Test.YtmambbfnjbdfgaaJ5
set_option exponentiation.threshold 30000
namespace Go.Proofs.Ytmambbfnjbdfgaa.R
open Go
noncomputable section
set_option linter.unusedVariables false
set_option linter.unusedSimpArgs false
set_option maxRecDepth 100000
theorem boundC_up {x : Int} {n m : Nat} (h : x.natAbs < 4294967296 ^ n) (hn : n ≤ m) : x.natAbs < 4294967296 ^ m := Nat.lt_of_lt_of_le h (Nat.pow_le_pow_right (by omega) hn)
theorem boundC_sub {x y : Int} {n : Nat} (hx : x.natAbs < 4294967296 ^ n) (hy : y.natAbs < 4294967296 ^ n) : (x - y).natAbs < 4294967296 ^ (n + 1) := by
  rw [Nat.pow_succ]
  generalize 4294967296 ^ n = t at *
  omega
theorem boundC_mul {x y : Int} {n m : Nat} (hx : x.natAbs < 4294967296 ^ n) (hy : y.natAbs < 4294967296 ^ m) : (x * y).natAbs < 4294967296 ^ (n + m) := by
  rw [Int.natAbs_mul, Nat.pow_add]
  exact Nat.mul_lt_mul_of_lt_of_le hx (Nat.le_of_lt hy) (Nat.pow_pos (by omega))
/-! ### function 70 -/
def T70 {ρ : Type} (ret : (Int) → Option ρ) (x : Int) (y : Int) : Option ρ :=
 (bsel (isL1n 800 (l1nF x) && isL1n 800 (l1nF y))
 (bsel (isL1n 900 (resSubZ [l1nF x, l1nF y]))
 (ret ((unL1n (resSubZ [l1nF x, l1nF y])).sign))
 none)
 none)
def G70 (x : Int) (y : Int) : Option (Int) := T70 some x y
theorem t70 (x : Int) (y : Int) (r : Int) (h : G70 x y = some r) : Ends Try.prog Try.f70.results.toList [.code (bodyOf Try.f70)] (start Try.f70.ntmps ([l1nF x, l1nF y].map .f)) (F.int .i64 r) := by
  refine Ends.of_run tyOK envS4_ok (T := []) (n := 200) ?_
  have e : run Try.prog (tiOf Try.prog) envS4 [] 0 Try.f70.results.toList some 200 [.code (bodyOf Try.f70)] (start Try.f70.ntmps ([l1nF x, l1nF y].map .f)) = T70 (fun r => some (.ret (F.int .i64 r))) x y := by kernel_rfl
  rw [e]
  exact (good_sel h (fun _ h => (good_sel h (fun _ h => good_ret (by cases h; rfl)) (fun _ h => nomatch h))) (fun _ h => nomatch h))
theorem cmpZ_law {x y : Int} (hx : x.natAbs < 4294967296 ^ 800) (hy : y.natAbs < 4294967296 ^ 800) : G70 x y = some (x - y).sign := by
  have hs : (x - y).natAbs < 4294967296 ^ 900 := boundC_up (boundC_sub hx hy) (by omega)
  unfold G70 T70
  simp only [resSubZ, unL1n_l1nF, isL1n_l1nF hx, isL1n_l1nF hy, isL1n_l1nF hs, Bool.and_self, bsel_true]
def resCmpZ : List F → F | [x, y] => .int .i64 (unL1n x - unL1n y).sign | _ => .dflt
theorem okCmpZ : PureOK Try.prog 70 (preL2 800) resCmpZ :=
  fn_pure_at (c := bodyOf Try.f70) Try.func70 (by kernel_rfl) (by kernel_rfl) fun xs hp => match xs, hp with
  | [x, y], hp => by
    obtain ⟨hx, hy⟩ := preL2_iff hp
    exact ⟨[l1nF (unL1n x), l1nF (unL1n y)], _, ⟨(l1n_eqv hx).1, (l1n_eqv hy).1, trivial⟩, t70 _ _ _ (cmpZ_law (natAbs_of_isL1n hx) (natAbs_of_isL1n hy)), .refl _⟩
/-! ### function 108 -/
def T108 {ρ : Type} (ret : (F) → Option ρ) (x : Int) (y : Int) : Option ρ :=
 (bsel (isTrimH 699 (halvesF (digs 4294967296 x.natAbs)) && isTrimH 699 (halvesF (digs 4294967296 y.natAbs)) && isDivA (val 4294967296 (unHalves (halvesF (digs 4294967296 y.natAbs)))))
 (bsel (isHalves (halvesF (digs 4294967296 (val 4294967296 (unHalves (halvesF (digs 4294967296 x.natAbs))) / val 4294967296 (unHalves (halvesF (digs 4294967296 y.natAbs)))))) && lenOk 2000 (halvesF (digs 4294967296 (val 4294967296 (unHalves (halvesF (digs 4294967296 x.natAbs))) / val 4294967296 (unHalves (halvesF (digs 4294967296 y.natAbs)))))))
 (bsel (isHalves (halvesF (digs 4294967296 (val 4294967296 (unHalves (halvesF (digs 4294967296 x.natAbs))) % val 4294967296 (unHalves (halvesF (digs 4294967296 y.natAbs)))))) && lenOk 2000 (halvesF (digs 4294967296 (val 4294967296 (unHalves (halvesF (digs 4294967296 x.natAbs))) % val 4294967296 (unHalves (halvesF (digs 4294967296 y.natAbs)))))))
 (bsel (decide (sgn (decide (x < 0)) (val 4294967296 (unHalves (halvesF (digs 4294967296 (val 4294967296 (unHalves (halvesF (digs 4294967296 x.natAbs))) % val 4294967296 (unHalves (halvesF (digs 4294967296 y.natAbs)))))))) < 0))
 (bsel (decide (y < 0))
 (bsel (isL1n 800 (l1nF (sgn (!decide (x < 0) == decide (y < 0)) (val 4294967296 (unHalves (halvesF (digs 4294967296 (val 4294967296 (unHalves (halvesF (digs 4294967296 x.natAbs))) / val 4294967296 (unHalves (halvesF (digs 4294967296 y.natAbs)))))))))) && true)
 (bsel (isL1n 800 (l1nF (sgn (decide (x < 0)) (val 4294967296 (unHalves (halvesF (digs 4294967296 (val 4294967296 (unHalves (halvesF (digs 4294967296 x.natAbs))) % val 4294967296 (unHalves (halvesF (digs 4294967296 y.natAbs)))))))))) && isL1n 800 (l1nF y))
 (ret (F.tup [l1nF (unL1n (l1nF (sgn (!decide (x < 0) == decide (y < 0)) (val 4294967296 (unHalves (halvesF (digs 4294967296 (val 4294967296 (unHalves (halvesF (digs 4294967296 x.natAbs))) / val 4294967296 (unHalves (halvesF (digs 4294967296 y.natAbs)))))))))) + unL1n (resInt3 [F.int .i64 1])), l1nF (unL1n (l1nF (sgn (decide (x < 0)) (val 4294967296 (unHalves (halvesF (digs 4294967296 (val 4294967296 (unHalves (halvesF (digs 4294967296 x.natAbs))) % val 4294967296 (unHalves (halvesF (digs 4294967296 y.natAbs)))))))))) - unL1n (l1nF y))]))
 none)
 none)
 (bsel (isL1n 800 (l1nF (sgn (!decide (x < 0) == decide (y < 0)) (val 4294967296 (unHalves (halvesF (digs 4294967296 (val 4294967296 (unHalves (halvesF (digs 4294967296 x.natAbs))) / val 4294967296 (unHalves (halvesF (digs 4294967296 y.natAbs)))))))))) && true)
 (bsel (isL1n 800 (l1nF (sgn (decide (x < 0)) (val 4294967296 (unHalves (halvesF (digs 4294967296 (val 4294967296 (unHalves (halvesF (digs 4294967296 x.natAbs))) % val 4294967296 (unHalves (halvesF (digs 4294967296 y.natAbs)))))))))) && isL1n 800 (l1nF y))
 (ret (F.tup [l1nF (unL1n (l1nF (sgn (!decide (x < 0) == decide (y < 0)) (val 4294967296 (unHalves (halvesF (digs 4294967296 (val 4294967296 (unHalves (halvesF (digs 4294967296 x.natAbs))) / val 4294967296 (unHalves (halvesF (digs 4294967296 y.natAbs)))))))))) - unL1n (resInt3 [F.int .i64 1])), l1nF (unL1n (l1nF (sgn (decide (x < 0)) (val 4294967296 (unHalves (halvesF (digs 4294967296 (val 4294967296 (unHalves (halvesF (digs 4294967296 x.natAbs))) % val 4294967296 (unHalves (halvesF (digs 4294967296 y.natAbs)))))))))) + unL1n (l1nF y))]))
 none)
 none))
 (ret (F.tup [l1nF (sgn (!decide (x < 0) == decide (y < 0)) (val 4294967296 (unHalves (halvesF (digs 4294967296 (val 4294967296 (unHalves (halvesF (digs 4294967296 x.natAbs))) / val 4294967296 (unHalves (halvesF (digs 4294967296 y.natAbs))))))))), l1nF (sgn (decide (x < 0)) (val 4294967296 (unHalves (halvesF (digs 4294967296 (val 4294967296 (unHalves (halvesF (digs 4294967296 x.natAbs))) % val 4294967296 (unHalves (halvesF (digs 4294967296 y.natAbs)))))))))])))
 none)
 none)
 none)
def G108 (x : Int) (y : Int) : Option (F) := T108 some x y
theorem t108 (x : Int) (y : Int) (r : F) (h : G108 x y = some r) : Ends Try.prog Try.f108.results.toList [.code (bodyOf Try.f108)] (start Try.f108.ntmps ([l1nF x, l1nF y].map .f)) (r) := by
  refine Ends.of_run tyOK envS4_ok (T := []) (n := 200) ?_
  have e : run Try.prog (tiOf Try.prog) envS4 [] 0 Try.f108.results.toList some 200 [.code (bodyOf Try.f108)] (start Try.f108.ntmps ([l1nF x, l1nF y].map .f)) = T108 (fun r => some (.ret (r))) x y := by kernel_rfl
  rw [e]
  exact (good_sel h (fun _ h => (good_sel h (fun _ h => (good_sel h (fun _ h => (good_sel h (fun _ h => (good_sel h (fun _ h => (good_sel h (fun _ h => (good_sel h (fun _ h => good_ret (by cases h; rfl)) (fun _ h => nomatch h))) (fun _ h => nomatch h))) (fun _ h => (good_sel h (fun _ h => (good_sel h (fun _ h => good_ret (by cases h; rfl)) (fun _ h => nomatch h))) (fun _ h => nomatch h))))) (fun _ h => good_ret (by cases h; rfl)))) (fun _ h => nomatch h))) (fun _ h => nomatch h))) (fun _ h => nomatch h))
theorem divZ_law {x y : Int} (hy : y ≠ 0) (hx : x.natAbs < 4294967296 ^ 699) (hyb : y.natAbs < 4294967296 ^ 699) : ∃ a b, G108 x y = some (.tup [l1nF a, l1nF b]) ∧ a = x / y ∧ b = x % y := by
  have q1 : x.natAbs / y.natAbs < 4294967296 ^ 699 := Nat.lt_of_le_of_lt (Nat.div_le_self _ _) hx
  have q2 : x.natAbs % y.natAbs < 4294967296 ^ 699 := Nat.lt_of_le_of_lt (Nat.mod_le _ _) hx
  have q1' : (x.tdiv y).natAbs < 4294967296 ^ 800 := by rw [Int.natAbs_tdiv]; exact bound_upC q1 (by omega)
  have q2' : (x.tmod y).natAbs < 4294967296 ^ 800 := by rw [Int.natAbs_tmod]; exact bound_upC q2 (by omega)
  have d : isDivA y.natAbs = true := isDivA_iff.2 (by omega)
  unfold G108 T108
  simp only [unHalves_digs, val_digsH, isTrimH_digs hx, isTrimH_digs hyb, d, isHalves_digs, lenOkH_digs q1 (show 699 ≤ 2000 by omega), lenOkH_digs q2 (show 699 ≤ 2000 by omega), Bool.and_self, Bool.and_true, bsel_true, sgn_div x y hy, sgn_mod, isL1n_l1nF (boundC_up hyb (show 699 ≤ 800 by omega)), isL1n_l1nF q1', isL1n_l1nF q2', resInt3, unL1n_l1nF]
  obtain ⟨f1, f2, f3⟩ := over_fix (x := x) hy
  by_cases hr : x.tmod y < 0
  · rw [decide_eq_true hr, bsel_true]
    by_cases hn : y < 0
    · obtain ⟨g1, g2⟩ := f1 hr hn
      rw [decide_eq_true hn, bsel_true]
      exact ⟨_, _, rfl, g1, by rw [← g2]; omega⟩
    · obtain ⟨g1, g2⟩ := f2 hr hn
      rw [decide_eq_false hn, bsel_false]
      exact ⟨_, _, rfl, g1, by rw [← g2]; omega⟩
  · obtain ⟨g1, g2⟩ := f3 hr
    rw [decide_eq_false hr, bsel_false]
    exact ⟨_, _, rfl, g1, g2⟩
def isDivZ (y : Int) : Bool := isDivA y.natAbs
def preDivZ : List F → Bool | [x, y] => isL1n 699 x && isL1n 699 y && isDivZ (unL1n y) | _ => false
def resDivZ : List F → F | [x, y] => .tup [l1nF (unL1n x / unL1n y), l1nF (unL1n x % unL1n y)] | _ => .dflt
theorem okDivZ : PureOK Try.prog 108 preDivZ resDivZ :=
  fn_pure_at (c := bodyOf Try.f108) Try.func108 (by kernel_rfl) (by kernel_rfl) fun xs hp => match xs, hp with
  | [x, y], hp => by
    simp only [preDivZ, Bool.and_eq_true] at hp
    obtain ⟨⟨hx, hy⟩, hd⟩ := hp
    have h0 := isDivA_iff.1 hd
    obtain ⟨a, b, e, rfl, rfl⟩ := divZ_law (x := unL1n x) (y := unL1n y) (by omega) (natAbs_of_isL1n hx) (natAbs_of_isL1n hy)
    exact ⟨[l1nF (unL1n x), l1nF (unL1n y)], _, ⟨(l1n_eqv hx).1, (l1n_eqv hy).1, trivial⟩, t108 _ _ _ e, .refl _⟩
/-! ### function 107 -/
def S107_3 (x : List Nat) (y : List Nat) : St := ⟨[.bad, .bad, .bad, .bad, (U.hp 0 0), (U.f (halvesF x)), (U.f (halvesF y)), .bad, .bad, .bad, .bad, .bad, .bad, .bad, .bad, .bad, .bad, .bad, .bad, .bad, .bad, .bad, .bad, .bad, .bad, .bad], [HO.box [(U.f (F.bool false)), U.nils]]⟩
def T107_3 {ρ : Type} (ret : (F) → Option ρ) (c3 : (List Nat) → (List Nat) → Option ρ) (x : List Nat) (y : List Nat) : Option ρ :=
 (bsel (decide ((↑y.length : Int) > 0))
 (bsel (isTrimH 699 (halvesF x) && isTrimH 699 (halvesF y) && isDivA (val 4294967296 (unHalves (halvesF y))))
 (c3 (y) (digs 4294967296 (val 4294967296 (unHalves (halvesF x)) % val 4294967296 (unHalves (halvesF y)))))
 none)
 (bsel (isHalves (halvesF x) && lenOk 2000 (halvesF x))
 (ret (l1nF (sgn false (val 4294967296 (unHalves (halvesF x))))))
 none))
def L107_3 : Nat → (List Nat) → (List Nat) → Option (F)
  | 0, _, _ => none
  | k + 1, x, y => T107_3 some (L107_3 k) x y
def T107 {ρ : Type} (ret : (F) → Option ρ) (c3 : (List Nat) → (List Nat) → Option ρ) (x : Int) (y : Int) : Option ρ :=
 (c3 (digs 4294967296 x.natAbs) (digs 4294967296 y.natAbs))
def G107 (k : Nat) (x : Int) (y : Int) : Option (F) := T107 some (L107_3 k) x y
theorem t107_3 : ∀ (k : Nat) (x : List Nat) (y : List Nat) (r : F), L107_3 k x y = some r → Ends Try.prog Try.f107.results.toList (at_ Try.f107 3) (S107_3 x y) (r)
  | 0, _, _, _, h => nomatch h
  | k + 1, x, y, r, h => by
    refine Ends.of_cut tyOK envS4_ok (T := [(3, [4, 5, 6], 1000)]) (n := 200) ?_
    have e : runCut Try.prog (tiOf Try.prog) envS4 [(3, [4, 5, 6], 1000)] 0 Try.f107.results.toList some 200 (at_ Try.f107 3) (S107_3 x y) = T107_3 (fun r => some (.ret (r))) (fun x y => some (.cut (at_ Try.f107 3) (S107_3 x y))) x y := by kernel_rfl
    rw [e]
    exact (good_sel h (fun _ h => (good_sel h (fun _ h => good_cut (t107_3 k _ _ r h)) (fun _ h => nomatch h))) (fun _ h => (good_sel h (fun _ h => good_ret (by cases h; rfl)) (fun _ h => nomatch h))))
theorem t107 (k : Nat) (x : Int) (y : Int) (r : F) (h : G107 k x y = some r) : Ends Try.prog Try.f107.results.toList [.code (bodyOf Try.f107)] (start Try.f107.ntmps ([l1nF x, l1nF y].map .f)) (r) := by
  refine Ends.of_run tyOK envS4_ok (T := [(3, [4, 5, 6], 1000)]) (n := 200) ?_
  have e : run Try.prog (tiOf Try.prog) envS4 [(3, [4, 5, 6], 1000)] 0 Try.f107.results.toList some 200 [.code (bodyOf Try.f107)] (start Try.f107.ntmps ([l1nF x, l1nF y].map .f)) = T107 (fun r => some (.ret (r))) (fun x y => some (.cut (at_ Try.f107 3) (S107_3 x y))) x y := by kernel_rfl
  rw [e]
  exact good_cut (t107_3 k _ _ r h)
theorem gcd3_loop : ∀ (y x k : Nat), y < 4294967296 ^ 699 → x < 4294967296 ^ 699 → y + 1 ≤ k → L107_3 k (digs 4294967296 x) (digs 4294967296 y) = some (l1nF ((Nat.gcd x y : Nat) : Int)) := by
  intro y
  induction y using Nat.strongRecOn with
  | _ y ih =>
    intro x k hy hx hk
    obtain ⟨k, rfl⟩ : ∃ j, k = j + 1 := ⟨k - 1, by omega⟩
    rw [L107_3]
    unfold T107_3
    by_cases h0 : y = 0
    · subst h0
      rw [digs_zero, show decide (((([] : List Nat).length : Nat) : Int) > 0) = false from rfl, bsel_false, isHalves_digs, lenOkH_digs hx (show 699 ≤ 2000 by omega), unHalves_digs, val_digsH, Nat.gcd_zero_right]
      rfl
    · have hm : x % y < y := Nat.mod_lt _ (by omega)
      rw [decide_eq_true (digsH_len_pos.2 h0), bsel_true, isTrimH_digs hx, isTrimH_digs hy]
      simp only [unHalves_digs, val_digsH, isDivA_iff.2 (show 0 < y by omega), Bool.and_self, bsel_true]
      rw [ih (x % y) hm y k (Nat.lt_trans hm hy) hy (by omega), ← gcd_step]
def resGcdZ : List F → F | [x, y] => l1nF (gcdI (unL1n x) (unL1n y)) | _ => .dflt
theorem okGcdZ : PureOK Try.prog 107 (preL2 699) resGcdZ :=
  fn_pure_at (c := bodyOf Try.f107) Try.func107 (by kernel_rfl) (by kernel_rfl) fun xs hp => match xs, hp with
  | [x, y], hp => by
    obtain ⟨hx, hy⟩ := preL2_iff hp
    exact ⟨[l1nF (unL1n x), l1nF (unL1n y)], _, ⟨(l1n_eqv hx).1, (l1n_eqv hy).1, trivial⟩, t107 ((unL1n y).natAbs + 1) _ _ _ (gcd3_loop _ _ _ (natAbs_of_isL1n hy) (natAbs_of_isL1n hx) (Nat.le_refl _)), .refl _⟩
def envS5 : Env := ((envS4.add 70 (.pure (preL2 800) resCmpZ)).add 108 (.pure preDivZ resDivZ)).add 107 (.pure (preL2 699) resGcdZ)
theorem envS5_ok : EnvOK Try.prog envS5 := (Env.add_ok (Env.add_ok (Env.add_ok envS4_ok okCmpZ.sp) okDivZ.sp) okGcdZ.sp)
end
end Go.Proofs.Ytmambbfnjbdfgaa.R

namespace Go.Proofs.Ytmambbfnjbdfgaa.R
open Go
noncomputable section
set_option linter.unusedVariables false
set_option linter.unusedSimpArgs false
set_option maxRecDepth 100000
/-! ### function 71 -/
def envS6 : Env := envS5
theorem envS6_ok : EnvOK Try.prog envS6 := envS5_ok
end
end Go.Proofs.Ytmambbfnjbdfgaa.R

namespace Go.Proofs.Ytmambbfnjbdfgaa.R
open Go
noncomputable section
set_option linter.unusedVariables false
set_option linter.unusedSimpArgs false
set_option maxRecDepth 100000
/-! ### function 36 -/
structure NearOk (s : Int × Int × Int) : Prop where
  idx : 0 ≤ s.1
  up0 : 0 ≤ s.2.1
  up : s.2.1.natAbs < 18446744073709551616 ^ 2
  down : 0 < s.2.2 ∧ s.2.2 ≤ 8000000000000
/-! ### function 37 -/
def envN19 : Env := envN18
theorem envN19_ok : EnvOK Try.prog envN19 := envN18_ok
end
end Go.Proofs.Ytmambbfnjbdfgaa.R

namespace Go.Proofs.Ytmambbfnjbdfgaa.R
open Go
noncomputable section
set_option linter.unusedVariables false
set_option linter.unusedSimpArgs false
set_option maxRecDepth 100000
/-! ### function 68 -/
/-! ### function 31 -/
/-! ### function 32 -/
def envS7 : Env := envS6
theorem envS7_ok : EnvOK Try.prog envS7 := envS6_ok
end
end Go.Proofs.Ytmambbfnjbdfgaa.R

namespace Go.Proofs.Ytmambbfnjbdfgaa.R
open Go
noncomputable section
set_option linter.unusedVariables false
set_option linter.unusedSimpArgs false
set_option maxRecDepth 100000
/-! ### function 30 -/
def envS8 : Env := envS7
theorem envS8_ok : EnvOK Try.prog envS8 := envS7_ok
end
end Go.Proofs.Ytmambbfnjbdfgaa.R

namespace Go.Proofs.Ytmambbfnjbdfgaa.R
open Go
noncomputable section
set_option linter.unusedVariables false
set_option linter.unusedSimpArgs false
set_option maxRecDepth 100000
/-! ### function 11 -/
def envN20 : Env := envN19
theorem envN20_ok : EnvOK Try.prog envN20 := envN19_ok
end
end Go.Proofs.Ytmambbfnjbdfgaa.R

namespace Go.Proofs.Ytmambbfnjbdfgaa.R
open Go
noncomputable section
set_option linter.unusedVariables false
set_option linter.unusedSimpArgs false
set_option maxRecDepth 100000
/-! ### function 8 -/
def envS9 : Env := envS8.or envN20
theorem envS9_ok : EnvOK Try.prog envS9 := (Env.or_ok envS8_ok envN20_ok)
end
end Go.Proofs.Ytmambbfnjbdfgaa.R

namespace Go.Proofs.Ytmambbfnjbdfgaa.R
open Go
noncomputable section
set_option linter.unusedVariables false
set_option linter.unusedSimpArgs false
set_option maxRecDepth 100000
/-! ### function 59 -/
def T59 {ρ : Type} (ret : (Bool) → Option ρ) (a : Int) (b : Int) (c : Int) (d : Int) : Option ρ :=
 (bsel (a != c)
 (ret (false))
 (bsel (b != d)
 (ret (false))
 (ret (true))))
def G59 (a : Int) (b : Int) (c : Int) (d : Int) : Option (Bool) := T59 some a b c d
theorem t59 (a : Int) (b : Int) (c : Int) (d : Int) (r : Bool) (h : G59 a b c d = some r) : Ends Try.prog Try.f59.results.toList [.code (bodyOf Try.f59)] (start Try.f59.ntmps ([F.agg [F.int .i64 a, F.int .i64 b], F.agg [F.int .i64 c, F.int .i64 d]].map .f)) (F.bool r) := by
  refine Ends.of_run tyOK envS9_ok (T := []) (n := 200) ?_
  have e : run Try.prog (tiOf Try.prog) envS9 [] 0 Try.f59.results.toList some 200 [.code (bodyOf Try.f59)] (start Try.f59.ntmps ([F.agg [F.int .i64 a, F.int .i64 b], F.agg [F.int .i64 c, F.int .i64 d]].map .f)) = T59 (fun r => some (.ret (F.bool r))) a b c d := by kernel_rfl
  rw [e]
  exact (good_sel h (fun _ h => good_ret (by cases h; rfl)) (fun _ h => (good_sel h (fun _ h => good_ret (by cases h; rfl)) (fun _ h => good_ret (by cases h; rfl)))))
/-! ### function 10 -/
def T10 {ρ : Type} (ret : (F) → Option ρ) (a : Int) (b : Int) : Option ρ :=
 (ret (F.agg [F.int .i64 a, F.int .i64 b]))
def G10 (a : Int) (b : Int) : Option (F) := T10 some a b
theorem t10 (a : Int) (b : Int) (r : F) (h : G10 a b = some r) : Ends Try.prog Try.f10.results.toList [.code (bodyOf Try.f10)] (start Try.f10.ntmps ([F.agg [F.int .i64 a, F.int .i64 b]].map .f)) (r) := by
  refine Ends.of_run tyOK envS9_ok (T := []) (n := 200) ?_
  have e : run Try.prog (tiOf Try.prog) envS9 [] 0 Try.f10.results.toList some 200 [.code (bodyOf Try.f10)] (start Try.f10.ntmps ([F.agg [F.int .i64 a, F.int .i64 b]].map .f)) = T10 (fun r => some (.ret (r))) a b := by kernel_rfl
  rw [e]
  exact good_ret (by cases h; rfl)
/-! ### function 38 -/
def Fills {α : Type} (enc : α → F) (d : α) (z : F) (l : List α) (i : Nat) (g : Nat → F) : Prop := ∀ j, (j < i → g j = enc (l.getD j d)) ∧ (i ≤ j → g j = z)
theorem Fills.zero {α : Type} {enc : α → F} {d : α} {z : F} {l : List α} : Fills enc d z l 0 (fun _ => z) := fun j => ⟨fun h => by omega, fun _ => rfl⟩
theorem Fills.set {α : Type} {enc : α → F} {d : α} {z : F} {l : List α} {i : Nat} {g : Nat → F} (h : Fills enc d z l i g) : Fills enc d z l (i + 1) (fun j => if j = i then enc (l.getD i d) else g j) := fun j => by
  by_cases e : j = i
  · subst e; exact ⟨fun _ => by simp, fun h => by omega⟩
  · simp only [if_neg e]; exact ⟨fun hj => (h j).1 (by omega), fun hj => (h j).2 (by omega)⟩
theorem Fills.lists {α : Type} {enc : α → F} {d : α} {z : F} {l : List α} {g : Nat → F} (h : Fills enc d z l l.length g) : Lists enc d l.length g l := ⟨rfl, fun j hj => (h j).1 hj⟩
def sameSpotV (a b c d : Int) : Bool := a == c && b == d
def resSameSpot : List F → F | [.agg [.int .i64 a, .int .i64 b], .agg [.int .i64 c, .int .i64 d]] => .bool (sameSpotV a b c d) | _ => .dflt
theorem okEqSpot : PureOK Try.prog 59 pre2p resSameSpot :=
  fn_pure (c := bodyOf Try.f59) Try.func59 (by kernel_rfl) (by kernel_rfl) fun xs hp => match xs, hp with
  | [.agg [.int .i64 a, .int .i64 b], .agg [.int .i64 c, .int .i64 d]], hp => t59 a b c d (sameSpotV a b c d) (by
      unfold G59 T59 sameSpotV
      simp only [bne]
      cases (a == c) <;> cases (b == d) <;> rfl)
def resSpotA : List F → F | [.agg [.int .i64 a, .int .i64 b]] => .agg [.int .i64 a, .int .i64 b] | _ => .dflt
theorem okToSpot : PureOK Try.prog 10 pre1p resSpotA :=
  fn_pure (c := bodyOf Try.f10) Try.func10 (by kernel_rfl) (by kernel_rfl) fun xs hp => match xs, hp with
  | [.agg [.int .i64 a, .int .i64 b]], hp => t10 a b _ rfl
def envZ1 : Env := (envS9.add 59 (.pure pre2p resSameSpot)).add 10 (.pure pre1p resSpotA)
theorem envZ1_ok : EnvOK Try.prog envZ1 := (Env.add_ok (Env.add_ok envS9_ok okEqSpot.sp) okToSpot.sp)
end
end Go.Proofs.Ytmambbfnjbdfgaa.R

namespace Go.Proofs.Ytmambbfnjbdfgaa.R
open Go
noncomputable section
set_option linter.unusedVariables false
set_option linter.unusedSimpArgs false
set_option maxRecDepth 100000
/-! ### function 39 -/
/-! ### function 33 -/
/-! ### function 12 -/
def envZ2 : Env := envZ1
theorem envZ2_ok : EnvOK Try.prog envZ2 := envZ1_ok
end
end Go.Proofs.Ytmambbfnjbdfgaa.R

namespace Go.Proofs.Ytmambbfnjbdfgaa.R
open Go
noncomputable section
set_option linter.unusedVariables false
set_option linter.unusedSimpArgs false
set_option maxRecDepth 100000
/-! ### function 7 -/
/-! ### function 9 -/
/-! ### function 13 -/
def leftV (n : Nat) (k : Int) : Int := bif decide (IntKind.i64.wrap (k - (n : Int)) < 0) then -1 else IntKind.i64.wrap (k - (n : Int))
theorem scal_of {n : Nat} {g : Nat → F} (h : ∀ j, j < n → scal0 (g j) = true) : isScal n g = true := by
  unfold isScal
  rw [List.all_eq_true]
  intro i hi
  exact h i (List.mem_range.1 hi)
def envZ3 : Env := envZ2
theorem envZ3_ok : EnvOK Try.prog envZ3 := envZ2_ok
end
end Go.Proofs.Ytmambbfnjbdfgaa.R

namespace Go.Proofs.Ytmambbfnjbdfgaa.R
open Go
set_option linter.unusedVariables false
def lexLt (x0 y0 x1 y1 : Int) : Prop := x0 < x1 ∨ (x0 = x1 ∧ y0 < y1)
def lexLe (x0 y0 x1 y1 : Int) : Prop := x0 < x1 ∨ (x0 = x1 ∧ y0 ≤ y1)
theorem col_vec {p q f g e h : Int} (hD : p ≠ 0 ∨ q ≠ 0) (ha : p * g = q * f) (hb : p * h = q * e) : h * f = e * g := by
  by_cases hp : p = 0
  · subst hp
    have hq : q ≠ 0 := by rcases hD with h | h; exact absurd rfl h; exact h
    have hf : f = 0 := by
      have : q * f = 0 := by rw [← ha, Int.zero_mul]
      rcases Int.mul_eq_zero.1 this with h | h
      · exact absurd h hq
      · exact h
    have he : e = 0 := by
      have : q * e = 0 := by rw [← hb, Int.zero_mul]
      rcases Int.mul_eq_zero.1 this with h | h
      · exact absurd h hq
      · exact h
    rw [hf, he, Int.mul_zero, Int.zero_mul]
  · have : p * (h * f) = p * (e * g) := by grind
    exact Int.eq_of_mul_eq_mul_left hp this
theorem collinear {x0 y0 x1 y1 u0 v0 u1 v1 : Int} (hs : lexLt x0 y0 x1 y1) (ha : crossZ x0 y0 x1 y1 u0 v0 = 0) (hb : crossZ x0 y0 x1 y1 u1 v1 = 0) : crossZ u0 v0 u1 v1 x0 y0 = 0 ∧ crossZ u0 v0 u1 v1 x1 y1 = 0 := by
  unfold crossZ at *
  have hD : x1 - x0 ≠ 0 ∨ y1 - y0 ≠ 0 := by unfold lexLt at hs; omega
  have h1 : (x1 - x0) * (v0 - y0) = (y1 - y0) * (u0 - x0) := by omega
  have h2 : (x1 - x0) * (v1 - v0) = (y1 - y0) * (u1 - u0) := by grind
  have h3 := col_vec hD h1 h2
  constructor <;> grind
theorem weights {s0 s1 t0 t1 a b c d : Int} (ha : 0 ≤ a) (hb : 0 ≤ b) (hc : 0 ≤ c) (hd : 0 ≤ d) (hw : a + b = c + d) (h0 : 0 < a + b) (he : t0 * a + t1 * b = s0 * c + s1 * d) : ¬ (s0 < t0 ∧ s0 < t1 ∧ s1 < t0 ∧ s1 < t1) := by
  rintro ⟨h1, h2, h3, h4⟩
  have m : ∃ m, s0 ≤ m ∧ s1 ≤ m ∧ m < t0 ∧ m < t1 := by
    rcases Int.le_total s0 s1 with h | h
    · exact ⟨s1, h, Int.le_refl _, h3, h4⟩
    · exact ⟨s0, Int.le_refl _, h, h1, h2⟩
  obtain ⟨m, k1, k2, k3, k4⟩ := m
  have e1 : (m + 1) * a ≤ t0 * a := Int.mul_le_mul_of_nonneg_right (by omega) ha
  have e2 : (m + 1) * b ≤ t1 * b := Int.mul_le_mul_of_nonneg_right (by omega) hb
  have e3 : s0 * c ≤ m * c := Int.mul_le_mul_of_nonneg_right k1 hc
  have e4 : s1 * d ≤ m * d := Int.mul_le_mul_of_nonneg_right k2 hd
  have e5 : (m + 1) * a + (m + 1) * b = (m + 1) * (a + b) := by grind
  have e6 : m * c + m * d = m * (a + b) := by rw [hw]; grind
  have e7 : (m + 1) * (a + b) = m * (a + b) + (a + b) := by grind
  omega
def apart (a b : Int) : Prop := (a ≤ 0 ∧ 0 ≤ b) ∨ (0 ≤ a ∧ b ≤ 0)
theorem sep {s0 s1 t0 t1 a b c d : Int} (h1 : apart a b) (h2 : apart c d) (hn : ¬ (a = 0 ∧ b = 0)) (hw : a - b = d - c) (he : t1 * a - t0 * b = s0 * d - s1 * c) :
    ¬ (s0 < t0 ∧ s0 < t1 ∧ s1 < t0 ∧ s1 < t1) ∧ ¬ (t0 < s0 ∧ t0 < s1 ∧ t1 < s0 ∧ t1 < s1) := by
  unfold apart at h1 h2
  rcases Int.lt_trichotomy (a - b) 0 with h | h | h
  · have p1 : 0 ≤ -a := by omega
    have p2 : 0 ≤ b := by omega
    have p3 : 0 ≤ c := by omega
    have p4 : 0 ≤ -d := by omega
    exact ⟨weights (a := b) (b := -a) (c := -d) (d := c) p2 p1 p4 p3 (by omega) (by omega) (by rw [Int.mul_neg, Int.mul_neg]; omega),
      fun ⟨k1, k2, k3, k4⟩ => weights (s0 := t0) (s1 := t1) (t0 := s0) (t1 := s1) (a := -d) (b := c) (c := b) (d := -a) p4 p3 p2 p1 (by omega) (by omega) (by rw [Int.mul_neg, Int.mul_neg]; omega) ⟨k1, k2, k3, k4⟩⟩
  · omega
  · have p1 : 0 ≤ a := by omega
    have p2 : 0 ≤ -b := by omega
    have p3 : 0 ≤ -c := by omega
    have p4 : 0 ≤ d := by omega
    exact ⟨weights (a := -b) (b := a) (c := d) (d := -c) p2 p1 p4 p3 (by omega) (by omega) (by rw [Int.mul_neg, Int.mul_neg]; omega),
      fun ⟨k1, k2, k3, k4⟩ => weights (s0 := t0) (s1 := t1) (t0 := s0) (t1 := s1) (a := d) (b := -c) (c := -b) (d := a) p4 p3 p2 p1 (by omega) (by omega) (by rw [Int.mul_neg, Int.mul_neg]; omega) ⟨k1, k2, k3, k4⟩⟩
theorem between {p q f g : Int} (h : p * g = q * f) (h1 : 0 < f ∨ (0 = f ∧ 0 ≤ g)) (h2 : f < p ∨ (f = p ∧ g ≤ q)) : (0 ≤ g ∧ g ≤ q) ∨ (q ≤ g ∧ g ≤ 0) := by
  by_cases hp : p = 0
  · subst hp; omega
  · have hp0 : 0 < p := by omega
    rcases Int.le_total 0 q with hq | hq
    · left
      have a1 : 0 ≤ q * f := Int.mul_nonneg hq (by omega)
      have a2 : q * f ≤ q * p := Int.mul_le_mul_of_nonneg_left (by omega) hq
      constructor
      · rcases Int.lt_or_le g 0 with hg | hg
        · have := Int.mul_neg_of_pos_of_neg hp0 hg; omega
        · exact hg
      · have : p * g ≤ p * q := by rw [h, Int.mul_comm p q]; exact a2
        exact Int.le_of_mul_le_mul_left this hp0
    · right
      have a1 : q * f ≤ 0 := Int.mul_nonpos_of_nonpos_of_nonneg hq (by omega)
      have a2 : q * p ≤ q * f := Int.mul_le_mul_of_nonpos_left hq (by omega)
      constructor
      · have : p * q ≤ p * g := by rw [h, Int.mul_comm p q]; exact a2
        exact Int.le_of_mul_le_mul_left this hp0
      · rcases Int.lt_or_le 0 g with hg | hg
        · have := Int.mul_pos hp0 hg; omega
        · exact hg
def meets (x0 y0 x1 y1 u0 v0 u1 v1 : Int) : Prop :=
  (crossZ x0 y0 x1 y1 u0 v0 = 0 ∧ crossZ x0 y0 x1 y1 u1 v1 = 0 ∧ lexLe u0 v0 x1 y1 ∧ lexLe x0 y0 u1 v1) ∨
  (¬ (crossZ x0 y0 x1 y1 u0 v0 = 0 ∧ crossZ x0 y0 x1 y1 u1 v1 = 0) ∧ apart (crossZ x0 y0 x1 y1 u0 v0) (crossZ x0 y0 x1 y1 u1 v1) ∧ apart (crossZ u0 v0 u1 v1 x0 y0) (crossZ u0 v0 u1 v1 x1 y1))
theorem meets_comm {x0 y0 x1 y1 u0 v0 u1 v1 : Int} (hs : lexLt x0 y0 x1 y1) (ht : lexLt u0 v0 u1 v1) (h : meets x0 y0 x1 y1 u0 v0 u1 v1) : meets u0 v0 u1 v1 x0 y0 x1 y1 := by
  rcases h with ⟨h1, h2, h3, h4⟩ | ⟨h1, h2, h3⟩
  · obtain ⟨k1, k2⟩ := collinear hs h1 h2
    exact .inl ⟨k1, k2, h4, h3⟩
  · exact .inr ⟨fun ⟨k1, k2⟩ => h1 (collinear ht k1 k2), h3, h2⟩
theorem on_range {x0 y0 x1 y1 p q : Int} (h : crossZ x0 y0 x1 y1 p q = 0) (h1 : lexLe x0 y0 p q) (h2 : lexLe p q x1 y1) : (y0 ≤ q ∧ q ≤ y1) ∨ (y1 ≤ q ∧ q ≤ y0) := by
  unfold crossZ at h
  unfold lexLe at h1 h2
  have := between (p := x1 - x0) (q := y1 - y0) (f := p - x0) (g := q - y0) (by omega) (by omega) (by omega)
  omega
theorem meets_box {x0 y0 x1 y1 u0 v0 u1 v1 : Int} (hs : lexLt x0 y0 x1 y1) (ht : lexLt u0 v0 u1 v1) (h : meets x0 y0 x1 y1 u0 v0 u1 v1) :
    (u0 ≤ x1 ∧ x0 ≤ u1) ∧ ¬ (y0 < v0 ∧ y0 < v1 ∧ y1 < v0 ∧ y1 < v1) ∧ ¬ (v0 < y0 ∧ v0 < y1 ∧ v1 < y0 ∧ v1 < y1) := by
  rcases h with ⟨h1, h2, h3, h4⟩ | ⟨h1, h2, h3⟩
  · obtain ⟨k1, k2⟩ := collinear hs h1 h2
    have hx : u0 ≤ x1 ∧ x0 ≤ u1 := by unfold lexLe at h3 h4; omega
    refine ⟨hx, ?_⟩
    -- the greater of the two beginnings lies on both
    by_cases hl : lexLe x0 y0 u0 v0
    · have := on_range h1 hl h3
      omega
    · have hl' : lexLe u0 v0 x0 y0 := by unfold lexLe at hl ⊢; omega
      have := on_range k1 hl' h4
      omega
  · have hw : crossZ x0 y0 x1 y1 u0 v0 - crossZ x0 y0 x1 y1 u1 v1 = crossZ u0 v0 u1 v1 x1 y1 - crossZ u0 v0 u1 v1 x0 y0 := by unfold crossZ; grind
    have ex : u1 * crossZ x0 y0 x1 y1 u0 v0 - u0 * crossZ x0 y0 x1 y1 u1 v1 = x0 * crossZ u0 v0 u1 v1 x1 y1 - x1 * crossZ u0 v0 u1 v1 x0 y0 := by unfold crossZ; grind
    have ey : v1 * crossZ x0 y0 x1 y1 u0 v0 - v0 * crossZ x0 y0 x1 y1 u1 v1 = y0 * crossZ u0 v0 u1 v1 x1 y1 - y1 * crossZ u0 v0 u1 v1 x0 y0 := by unfold crossZ; grind
    have sx := sep h2 h3 h1 hw ex
    have sy := sep h2 h3 h1 hw ey
    refine ⟨?_, sy⟩
    unfold lexLt at hs ht
    omega
def onSg (x0 y0 x1 y1 p q : Int) : Prop := crossZ x0 y0 x1 y1 p q = 0 ∧ lexLe x0 y0 p q ∧ lexLe p q x1 y1
theorem apart_of {c d f g k : Int} (hf : 0 ≤ f) (hg : 0 ≤ g) (hp : 0 < f + g) (hc : (f + g) * c = f * k) (hd : (f + g) * d = -(g * k)) : apart c d := by
  unfold apart
  have sgn : ∀ {z w : Int}, (f + g) * z = w → (0 ≤ w → 0 ≤ z) ∧ (w ≤ 0 → z ≤ 0) := by
    intro z w h
    constructor
    · intro hw
      rcases Int.lt_or_le z 0 with hz | hz
      · have := Int.mul_neg_of_pos_of_neg hp hz; omega
      · exact hz
    · intro hw
      rcases Int.lt_or_le 0 z with hz | hz
      · have := Int.mul_pos hp hz; omega
      · exact hz
  rcases Int.le_total 0 k with hk | hk
  · have a1 := Int.mul_nonneg hf hk
    have a2 := Int.mul_nonneg hg hk
    right
    exact ⟨(sgn hc).1 a1, (sgn hd).2 (by omega)⟩
  · have a1 := Int.mul_nonpos_of_nonneg_of_nonpos hf hk
    have a2 := Int.mul_nonpos_of_nonneg_of_nonpos hg hk
    left
    exact ⟨(sgn hc).2 a1, (sgn hd).1 (by omega)⟩
theorem on_apart {x0 y0 x1 y1 p q e h : Int} (hs : lexLt x0 y0 x1 y1) (ho : onSg x0 y0 x1 y1 p q) : apart (e * (y0 - q) - h * (x0 - p)) (e * (y1 - q) - h * (x1 - p)) := by
  obtain ⟨h1, h2, h3⟩ := ho
  unfold crossZ at h1
  unfold lexLe at h2 h3
  unfold lexLt at hs
  by_cases hx : x0 = x1
  · have e1 : p = x0 := by omega
    subst e1; subst hx
    exact apart_of (f := q - y0) (g := y1 - q) (k := -(e * (y1 - y0))) (by omega) (by omega) (by omega) (by grind) (by grind)
  · exact apart_of (f := p - x0) (g := x1 - p) (k := h * (x1 - x0) - e * (y1 - y0)) (by omega) (by omega) (by omega) (by grind) (by grind)
theorem on_meets {x0 y0 x1 y1 u0 v0 u1 v1 : Int} (hs : lexLt x0 y0 x1 y1) (ht : lexLt u0 v0 u1 v1) (h : onSg x0 y0 x1 y1 u0 v0 ∨ onSg x0 y0 x1 y1 u1 v1) : meets x0 y0 x1 y1 u0 v0 u1 v1 := by
  by_cases hc : crossZ x0 y0 x1 y1 u0 v0 = 0 ∧ crossZ x0 y0 x1 y1 u1 v1 = 0
  · left
    refine ⟨hc.1, hc.2, ?_⟩
    unfold lexLt at hs ht
    unfold onSg lexLe at h
    unfold lexLe
    omega
  · right
    refine ⟨hc, ?_, ?_⟩
    · unfold apart
      rcases h with h | h
      · have := h.1; omega
      · have := h.1; omega
    · rcases h with h | h
      · have := on_apart (e := u1 - u0) (h := v1 - v0) hs h
        exact this
      · have := on_apart (e := u1 - u0) (h := v1 - v0) hs h
        have e1 : crossZ u0 v0 u1 v1 x0 y0 = (u1 - u0) * (y0 - v1) - (v1 - v0) * (x0 - u1) := by unfold crossZ; grind
        have e2 : crossZ u0 v0 u1 v1 x1 y1 = (u1 - u0) * (y1 - v1) - (v1 - v0) * (x1 - u1) := by unfold crossZ; grind
        rw [e1, e2]
        exact this
end Go.Proofs.Ytmambbfnjbdfgaa.R

namespace Go.Proofs.Ytmambbfnjbdfgaa.R
open Go
noncomputable section
set_option linter.unusedVariables false
set_option linter.unusedSimpArgs false
set_option maxRecDepth 100000
def isL3p (n : Nat) : F → Bool | .agg [a, b, c, d, e, f] => isL1n n (.agg [a, b]) && (isL1n n (.agg [c, d]) && isL1n n (.agg [e, f])) | _ => false
def unX3 : F → Int | .agg [a, b, _, _, _, _] => unL1n (.agg [a, b]) | _ => 0
def unY3 : F → Int | .agg [_, _, a, b, _, _] => unL1n (.agg [a, b]) | _ => 0
def unW3 : F → Int | .agg [_, _, _, _, a, b] => unL1n (.agg [a, b]) | _ => 0
theorem l3p_eqv {n : Nat} {x : F} (h : isL3p n x = true) : FLe x (l3pF (unX3 x) (unY3 x) (unW3 x)) ∧ FLe (l3pF (unX3 x) (unY3 x) (unW3 x)) x := by
  unfold isL3p at h
  split at h
  · rename_i a b c d e f
    rw [Bool.and_eq_true, Bool.and_eq_true] at h
    obtain ⟨s, y, e1, hy, f1⟩ := l1n_form h.1
    obtain ⟨t, z, e2, hz, f2⟩ := l1n_form h.2.1
    obtain ⟨r, o, e3, ho, f3⟩ := l1n_form h.2.2
    cases e1; cases e2; cases e3
    have g : l3pF (unX3 (.agg [.bool s, b, .bool t, d, .bool r, f])) (unY3 (.agg [.bool s, b, .bool t, d, .bool r, f])) (unW3 (.agg [.bool s, b, .bool t, d, .bool r, f])) = .agg [.bool s, halvesF (unHalves b), .bool t, halvesF (unHalves d), .bool r, halvesF (unHalves f)] := by
      unfold l1nF at f1 f2 f3
      injection f1 with f1
      injection f2 with f2
      injection f3 with f3
      simp only [List.cons.injEq, and_true] at f1 f2 f3
      show F.agg [_, _, _, _, _, _] = _
      rw [show unX3 (.agg [.bool s, b, .bool t, d, .bool r, f]) = unL1n (.agg [.bool s, b]) from rfl, show unY3 (.agg [.bool s, b, .bool t, d, .bool r, f]) = unL1n (.agg [.bool t, d]) from rfl, show unW3 (.agg [.bool s, b, .bool t, d, .bool r, f]) = unL1n (.agg [.bool r, f]) from rfl, f1.1, f1.2, f2.1, f2.2, f3.1, f3.2]
    rw [g]
    exact ⟨FLe.agg ⟨.refl _, (halves_eqv hy).1, .refl _, (halves_eqv hz).1, .refl _, (halves_eqv ho).1, trivial⟩, FLe.agg ⟨.refl _, (halves_eqv hy).2, .refl _, (halves_eqv hz).2, .refl _, (halves_eqv ho).2, trivial⟩⟩
  · cases h
/-! ### function 52 -/
def T52 {ρ : Type} (ret : (F) → Option ρ) (x : Int) (y : Int) : Option ρ :=
 (bsel (isI64 x)
 (bsel (isI64 y)
 (ret (l3pF x y 1))
 none)
 none)
def G52 (x : Int) (y : Int) : Option (F) := T52 some x y
theorem t52 (x : Int) (y : Int) (r : F) (h : G52 x y = some r) : Ends Try.prog Try.f52.results.toList [.code (bodyOf Try.f52)] (start Try.f52.ntmps ([F.agg [F.int .i64 x, F.int .i64 y]].map .f)) (r) := by
  refine Ends.of_run tyOK envS9_ok (T := []) (n := 200) ?_
  have e : run Try.prog (tiOf Try.prog) envS9 [] 0 Try.f52.results.toList some 200 [.code (bodyOf Try.f52)] (start Try.f52.ntmps ([F.agg [F.int .i64 x, F.int .i64 y]].map .f)) = T52 (fun r => some (.ret (r))) x y := by kernel_rfl
  rw [e]
  exact (good_sel h (fun _ h => (good_sel h (fun _ h => good_ret (by cases h; rfl)) (fun _ h => nomatch h))) (fun _ h => nomatch h))
def resSpot3 : List F → F | [.agg [.int .i64 a, .int .i64 b]] => l3pF a b 1 | _ => .dflt
/-! ### function 147 -/
/-! ### function 148 -/
/-! ### function 129 -/
theorem boundC_add {x y : Int} {n : Nat} (hx : x.natAbs < 4294967296 ^ n) (hy : y.natAbs < 4294967296 ^ n) : (x + y).natAbs < 4294967296 ^ (n + 1) := by
  rw [Nat.pow_succ]
  generalize 4294967296 ^ n = m at *
  omega
theorem resMulZ_eq (x y : Int) : resMulZ [l1nF x, l1nF y] = l1nF (x * y) := by
  show l1nF (unL1n (l1nF x) * unL1n (l1nF y)) = _
  rw [unL1n_l1nF, unL1n_l1nF]
theorem l3spot_law {x y : Int} (hx : isI64 x = true) (hy : isI64 y = true) : G52 x y = some (l3pF x y 1) := by
  unfold G52 T52
  rw [hx, hy]; rfl
def preSp3 : List F → Bool | [.agg [.int .i64 a, .int .i64 b]] => isI64 a && isI64 b | _ => false
theorem okSpot3 : PureOK Try.prog 52 preSp3 resSpot3 :=
  fn_pure (c := bodyOf Try.f52) Try.func52 (by kernel_rfl) (by kernel_rfl) fun xs hp => match xs, hp with
  | [.agg [.int .i64 a, .int .i64 b]], hp => by
    simp only [preSp3, Bool.and_eq_true] at hp
    exact t52 a b _ (l3spot_law hp.1 hp.2)
def envH1 : Env := envS9.add 52 (.pure preSp3 resSpot3)
theorem envH1_ok : EnvOK Try.prog envH1 := (Env.add_ok envS9_ok okSpot3.sp)
end
end Go.Proofs.Ytmambbfnjbdfgaa.R

namespace Go.Proofs.Ytmambbfnjbdfgaa.R
open Go
noncomputable section
set_option linter.unusedVariables false
set_option linter.unusedSimpArgs false
set_option maxRecDepth 100000
/-! ### function 128 -/
/-! ### function 92 -/
def T92 {ρ : Type} (ret : (F) → Option ρ) (x : Int) (y : Int) (w : Int) : Option ρ :=
 (bsel (decide (w < 0))
 (bsel (isL1n 800 (l1nF x))
 (bsel (isL1n 800 (l1nF y))
 (bsel (isL1n 800 (l1nF w))
 (bsel (isL1n 699 (l1nF (-unL1n (l1nF x))) && isL1n 699 (l1nF (-unL1n (l1nF y))))
 (bsel (isL1n 699 (resGcdZ [l1nF (-unL1n (l1nF x)), l1nF (-unL1n (l1nF y))]) && isL1n 699 (l1nF (-unL1n (l1nF w))))
 (bsel (isL1n 800 (l1nF (gcdI (unL1n (resGcdZ [l1nF (-unL1n (l1nF x)), l1nF (-unL1n (l1nF y))])) (unL1n (l1nF (-unL1n (l1nF w)))))) && true)
 (bsel ((unL1n (l1nF (gcdI (unL1n (resGcdZ [l1nF (-unL1n (l1nF x)), l1nF (-unL1n (l1nF y))])) (unL1n (l1nF (-unL1n (l1nF w)))))) - unL1n (resInt3 [F.int .i64 1])).sign != 0)
 (bsel (isL1n 699 (l1nF (-unL1n (l1nF x))) && isL1n 699 (l1nF (gcdI (unL1n (resGcdZ [l1nF (-unL1n (l1nF x)), l1nF (-unL1n (l1nF y))])) (unL1n (l1nF (-unL1n (l1nF w)))))) && isDivZ (unL1n (l1nF (gcdI (unL1n (resGcdZ [l1nF (-unL1n (l1nF x)), l1nF (-unL1n (l1nF y))])) (unL1n (l1nF (-unL1n (l1nF w))))))))
 (bsel (isL1n 699 (l1nF (-unL1n (l1nF y))) && isL1n 699 (l1nF (gcdI (unL1n (resGcdZ [l1nF (-unL1n (l1nF x)), l1nF (-unL1n (l1nF y))])) (unL1n (l1nF (-unL1n (l1nF w)))))) && isDivZ (unL1n (l1nF (gcdI (unL1n (resGcdZ [l1nF (-unL1n (l1nF x)), l1nF (-unL1n (l1nF y))])) (unL1n (l1nF (-unL1n (l1nF w))))))))
 (bsel (isL1n 699 (l1nF (-unL1n (l1nF w))) && isL1n 699 (l1nF (gcdI (unL1n (resGcdZ [l1nF (-unL1n (l1nF x)), l1nF (-unL1n (l1nF y))])) (unL1n (l1nF (-unL1n (l1nF w)))))) && isDivZ (unL1n (l1nF (gcdI (unL1n (resGcdZ [l1nF (-unL1n (l1nF x)), l1nF (-unL1n (l1nF y))])) (unL1n (l1nF (-unL1n (l1nF w))))))))
 (ret (l3pF (unL1n (l1nF (-unL1n (l1nF x))) / unL1n (l1nF (gcdI (unL1n (resGcdZ [l1nF (-unL1n (l1nF x)), l1nF (-unL1n (l1nF y))])) (unL1n (l1nF (-unL1n (l1nF w))))))) (unL1n (l1nF (-unL1n (l1nF y))) / unL1n (l1nF (gcdI (unL1n (resGcdZ [l1nF (-unL1n (l1nF x)), l1nF (-unL1n (l1nF y))])) (unL1n (l1nF (-unL1n (l1nF w))))))) (unL1n (l1nF (-unL1n (l1nF w))) / unL1n (l1nF (gcdI (unL1n (resGcdZ [l1nF (-unL1n (l1nF x)), l1nF (-unL1n (l1nF y))])) (unL1n (l1nF (-unL1n (l1nF w)))))))))
 none)
 none)
 none)
 (ret (l3pF (-unL1n (l1nF x)) (-unL1n (l1nF y)) (-unL1n (l1nF w)))))
 none)
 none)
 none)
 none)
 none)
 none)
 (bsel (isL1n 699 (l1nF x) && isL1n 699 (l1nF y))
 (bsel (isL1n 699 (resGcdZ [l1nF x, l1nF y]) && isL1n 699 (l1nF w))
 (bsel (isL1n 800 (l1nF (gcdI (unL1n (resGcdZ [l1nF x, l1nF y])) (unL1n (l1nF w)))) && true)
 (bsel ((unL1n (l1nF (gcdI (unL1n (resGcdZ [l1nF x, l1nF y])) (unL1n (l1nF w)))) - unL1n (resInt3 [F.int .i64 1])).sign != 0)
 (bsel (isL1n 699 (l1nF x) && isL1n 699 (l1nF (gcdI (unL1n (resGcdZ [l1nF x, l1nF y])) (unL1n (l1nF w)))) && isDivZ (unL1n (l1nF (gcdI (unL1n (resGcdZ [l1nF x, l1nF y])) (unL1n (l1nF w))))))
 (bsel (isL1n 699 (l1nF y) && isL1n 699 (l1nF (gcdI (unL1n (resGcdZ [l1nF x, l1nF y])) (unL1n (l1nF w)))) && isDivZ (unL1n (l1nF (gcdI (unL1n (resGcdZ [l1nF x, l1nF y])) (unL1n (l1nF w))))))
 (bsel (isL1n 699 (l1nF w) && isL1n 699 (l1nF (gcdI (unL1n (resGcdZ [l1nF x, l1nF y])) (unL1n (l1nF w)))) && isDivZ (unL1n (l1nF (gcdI (unL1n (resGcdZ [l1nF x, l1nF y])) (unL1n (l1nF w))))))
 (ret (l3pF (unL1n (l1nF x) / unL1n (l1nF (gcdI (unL1n (resGcdZ [l1nF x, l1nF y])) (unL1n (l1nF w))))) (unL1n (l1nF y) / unL1n (l1nF (gcdI (unL1n (resGcdZ [l1nF x, l1nF y])) (unL1n (l1nF w))))) (unL1n (l1nF w) / unL1n (l1nF (gcdI (unL1n (resGcdZ [l1nF x, l1nF y])) (unL1n (l1nF w)))))))
 none)
 none)
 none)
 (ret (l3pF x y w)))
 none)
 none)
 none))
def G92 (x : Int) (y : Int) (w : Int) : Option (F) := T92 some x y w
theorem t92 (x : Int) (y : Int) (w : Int) (r : F) (h : G92 x y w = some r) : Ends Try.prog Try.f92.results.toList [.code (bodyOf Try.f92)] (start Try.f92.ntmps ([l1nF x, l1nF y, l1nF w].map .f)) (r) := by
  refine Ends.of_run tyOK envH1_ok (T := []) (n := 200) ?_
  have e : run Try.prog (tiOf Try.prog) envH1 [] 0 Try.f92.results.toList some 200 [.code (bodyOf Try.f92)] (start Try.f92.ntmps ([l1nF x, l1nF y, l1nF w].map .f)) = T92 (fun r => some (.ret (r))) x y w := by kernel_rfl
  rw [e]
  exact (good_sel h (fun _ h => (good_sel h (fun _ h => (good_sel h (fun _ h => (good_sel h (fun _ h => (good_sel h (fun _ h => (good_sel h (fun _ h => (good_sel h (fun _ h => (good_sel h (fun _ h => (good_sel h (fun _ h => (good_sel h (fun _ h => (good_sel h (fun _ h => good_ret (by cases h; rfl)) (fun _ h => nomatch h))) (fun _ h => nomatch h))) (fun _ h => nomatch h))) (fun _ h => good_ret (by cases h; rfl)))) (fun _ h => nomatch h))) (fun _ h => nomatch h))) (fun _ h => nomatch h))) (fun _ h => nomatch h))) (fun _ h => nomatch h))) (fun _ h => nomatch h))) (fun _ h => (good_sel h (fun _ h => (good_sel h (fun _ h => (good_sel h (fun _ h => (good_sel h (fun _ h => (good_sel h (fun _ h => (good_sel h (fun _ h => (good_sel h (fun _ h => good_ret (by cases h; rfl)) (fun _ h => nomatch h))) (fun _ h => nomatch h))) (fun _ h => nomatch h))) (fun _ h => good_ret (by cases h; rfl)))) (fun _ h => nomatch h))) (fun _ h => nomatch h))) (fun _ h => nomatch h))))
theorem gcdI_bound {x y : Int} {m : Nat} (hx : x.natAbs < m) (hy : y.natAbs < m) : (gcdI x y).natAbs < m := by
  unfold gcdI
  rw [Int.natAbs_natCast]
  by_cases h : y.natAbs = 0
  · rw [h, Nat.gcd_zero_right]; exact hx
  · exact Nat.lt_of_le_of_lt (Nat.gcd_le_right x.natAbs (by omega)) hy
def g3 (x y w : Int) : Int := gcdI (gcdI x y) w
def mkXV (x y w : Int) : Int := if w < 0 then -x / g3 (-x) (-y) (-w) else x / g3 x y w
def mkYV (x y w : Int) : Int := if w < 0 then -y / g3 (-x) (-y) (-w) else y / g3 x y w
def mkWV (x y w : Int) : Int := if w < 0 then -w / g3 (-x) (-y) (-w) else w / g3 x y w
theorem resGcdZ_eq (x y : Int) : resGcdZ [l1nF x, l1nF y] = l1nF (gcdI x y) := by
  show l1nF (gcdI (unL1n (l1nF x)) (unL1n (l1nF y))) = _
  rw [unL1n_l1nF, unL1n_l1nF]
theorem l3make_law {x y w : Int} (hw0 : w ≠ 0) (hx : x.natAbs < 4294967296 ^ 600) (hy : y.natAbs < 4294967296 ^ 600) (hw : w.natAbs < 4294967296 ^ 600) :
    G92 x y w = some (l3pF (mkXV x y w) (mkYV x y w) (mkWV x y w)) := by
  unfold mkXV mkYV mkWV
  have key : ∀ {g : Int}, ¬ (g - 1).sign ≠ 0 → ∀ z : Int, z / g = z := fun {g} h z => by
    have h1 := Int.sign_eq_zero_iff_zero.1 (Classical.byContradiction h)
    obtain rfl : g = 1 := by omega
    exact Int.ediv_one z
  unfold G92 T92
  simp only [resGcdZ_eq, unL1n_l1nF]
  by_cases hn : w < 0
  · have gxy := gcdI_bound (x := -x) (y := -y) (by rw [Int.natAbs_neg]; exact hx) (by rw [Int.natAbs_neg]; exact hy)
    obtain ⟨g1, g2⟩ := gcdI_pos (u := gcdI (-x) (-y)) (show 0 < -w by omega)
    have hg : (gcdI (gcdI (-x) (-y)) (-w)).natAbs < 4294967296 ^ 600 := by omega
    have dz : isDivZ (gcdI (gcdI (-x) (-y)) (-w)) = true := isDivA_iff.2 (by omega)
    have nx : (-x).natAbs < 4294967296 ^ 600 := by rw [Int.natAbs_neg]; exact hx
    have ny : (-y).natAbs < 4294967296 ^ 600 := by rw [Int.natAbs_neg]; exact hy
    have nw : (-w).natAbs < 4294967296 ^ 600 := by rw [Int.natAbs_neg]; exact hw
    have i7 : ∀ {z : Int}, z.natAbs < 4294967296 ^ 600 → isL1n 699 (l1nF z) = true := fun h => isL1n_l1nF (boundC_up h (by omega))
    have i8 : ∀ {z : Int}, z.natAbs < 4294967296 ^ 600 → isL1n 800 (l1nF z) = true := fun h => isL1n_l1nF (boundC_up h (by omega))
    rw [decide_eq_true hn, if_pos hn, if_pos hn, if_pos hn]
    simp only [i8 hx, i8 hy, i8 hw, i7 nx, i7 ny, i7 nw, i7 gxy, i7 hg, i8 hg, dz, resInt3, unL1n_l1nF, Bool.and_self, bsel_true]
    unfold g3
    by_cases h : (gcdI (gcdI (-x) (-y)) (-w) - 1).sign ≠ 0
    · rw [show ((gcdI (gcdI (-x) (-y)) (-w) - 1).sign != 0) = true by simpa using h, bsel_true]
    · rw [show ((gcdI (gcdI (-x) (-y)) (-w) - 1).sign != 0) = false by simpa using h, bsel_false, key h, key h, key h]
  · have gxy := gcdI_bound hx hy
    obtain ⟨g1, g2⟩ := gcdI_pos (u := gcdI x y) (show 0 < w by omega)
    have hg : (gcdI (gcdI x y) w).natAbs < 4294967296 ^ 600 := by omega
    have dz : isDivZ (gcdI (gcdI x y) w) = true := isDivA_iff.2 (by omega)
    have i7 : ∀ {z : Int}, z.natAbs < 4294967296 ^ 600 → isL1n 699 (l1nF z) = true := fun h => isL1n_l1nF (boundC_up h (by omega))
    have i8 : ∀ {z : Int}, z.natAbs < 4294967296 ^ 600 → isL1n 800 (l1nF z) = true := fun h => isL1n_l1nF (boundC_up h (by omega))
    rw [decide_eq_false hn, if_neg hn, if_neg hn, if_neg hn]
    simp only [i8 hx, i8 hy, i8 hw, i7 hx, i7 hy, i7 hw, i7 gxy, i7 hg, i8 hg, dz, resInt3, unL1n_l1nF, Bool.and_self, bsel_true, bsel_false]
    unfold g3
    by_cases h : (gcdI (gcdI x y) w - 1).sign ≠ 0
    · rw [show ((gcdI (gcdI x y) w - 1).sign != 0) = true by simpa using h, bsel_true]
    · rw [show ((gcdI (gcdI x y) w - 1).sign != 0) = false by simpa using h, bsel_false, key h, key h, key h]
def isNon0 (w : Int) : Bool := !(w == 0)
def preMake3p : List F → Bool | [x, y, w] => isL1n 600 x && isL1n 600 y && isL1n 600 w && isNon0 (unL1n w) | _ => false
def resMake3p : List F → F | [x, y, w] => l3pF (mkXV (unL1n x) (unL1n y) (unL1n w)) (mkYV (unL1n x) (unL1n y) (unL1n w)) (mkWV (unL1n x) (unL1n y) (unL1n w)) | _ => .dflt
theorem okMake3p : PureOK Try.prog 92 preMake3p resMake3p :=
  fn_pure_at (c := bodyOf Try.f92) Try.func92 (by kernel_rfl) (by kernel_rfl) fun xs hp => match xs, hp with
  | [x, y, w], hp => by
    simp only [preMake3p, isNon0, Bool.and_eq_true, Bool.not_eq_true', beq_eq_false_iff_ne, ne_eq] at hp
    obtain ⟨⟨⟨h1, h2⟩, h3⟩, h4⟩ := hp
    exact ⟨[l1nF (unL1n x), l1nF (unL1n y), l1nF (unL1n w)], _, ⟨(l1n_eqv h1).1, (l1n_eqv h2).1, (l1n_eqv h3).1, trivial⟩, t92 _ _ _ _ (l3make_law h4 (natAbs_of_isL1n h1) (natAbs_of_isL1n h2) (natAbs_of_isL1n h3)), .refl _⟩
def envH2 : Env := envH1.add 92 (.pure preMake3p resMake3p)
theorem envH2_ok : EnvOK Try.prog envH2 := (Env.add_ok envH1_ok okMake3p.sp)
end
end Go.Proofs.Ytmambbfnjbdfgaa.R

namespace Go.Proofs.Ytmambbfnjbdfgaa.R
open Go
noncomputable section
set_option linter.unusedVariables false
set_option linter.unusedSimpArgs false
set_option maxRecDepth 100000
/-! ### function 87 -/
def envH3 : Env := envH2
theorem envH3_ok : EnvOK Try.prog envH3 := envH2_ok
end
end Go.Proofs.Ytmambbfnjbdfgaa.R

namespace Go.Proofs.Ytmambbfnjbdfgaa.R
open Go
noncomputable section
set_option linter.unusedVariables false
set_option linter.unusedSimpArgs false
set_option maxRecDepth 100000
/-! ### function 51 -/
def envH4a : Env := envH3
theorem envH4a_ok : EnvOK Try.prog envH4a := envH3_ok
end
end Go.Proofs.Ytmambbfnjbdfgaa.R

namespace Go.Proofs.Ytmambbfnjbdfgaa.R
open Go
set_option linter.unusedVariables false
end Go.Proofs.Ytmambbfnjbdfgaa.R
