/-
  The own walk and what it shows, part 6 of 7.
-/
import Derived.Test.YtmambbfnjbdfgaaJ1
import Derived.Test.YtmambbfnjbdfgaaJ2
import Derived.Test.YtmambbfnjbdfgaaJ3
import Derived.Test.YtmambbfnjbdfgaaJ4
import Derived.Test.YtmambbfnjbdfgaaJ5
set_option exponentiation.threshold 30000
namespace Go.Proofs.Ytmambbfnjbdfgaa.R
open Go
noncomputable section
set_option linter.unusedVariables false
set_option linter.unusedSimpArgs false
set_option maxRecDepth 100000
theorem boundC_up {x : Int} {n m : Nat} (h : x.natAbs < 4294967296 ^ n) (hn : n ≤ m) : x.natAbs < 4294967296 ^ m := Nat.lt_of_lt_of_le h (Nat.pow_le_pow_right (by omega) hn)
theorem boundC_sub {x y : Int} {n : Nat} (hx : x.natAbs < 4294967296 ^ n) (hy : y.natAbs < 4294967296 ^ n) : (x - y).natAbs < 4294967296 ^ (n + 1) := by
  rw [Nat.pow_succ]
  generalize 4294967296 ^ n = t at *
  omega
theorem boundC_mul {x y : Int} {n m : Nat} (hx : x.natAbs < 4294967296 ^ n) (hy : y.natAbs < 4294967296 ^ m) : (x * y).natAbs < 4294967296 ^ (n + m) := by
  rw [Int.natAbs_mul, Nat.pow_add]
  exact Nat.mul_lt_mul_of_lt_of_le hx (Nat.le_of_lt hy) (Nat.pow_pos (by omega))
/-! ### function 70 -/
def T70 {ρ : Type} (ret : (Int) → Option ρ) (x : Int) (y : Int) : Option ρ :=
 (bsel (isL1n 800 (l1nF x) && isL1n 800 (l1nF y))
 (bsel (isL1n 900 (resSubZ [l1nF x, l1nF y]))
 (ret ((unL1n (resSubZ [l1nF x, l1nF y])).sign))
 none)
 none)
def G70 (x : Int) (y : Int) : Option (Int) := T70 some x y
theorem t70 (x : Int) (y : Int) (r : Int) (h : G70 x y = some r) : Ends Try.prog Try.f70.results.toList [.code (bodyOf Try.f70)] (start Try.f70.ntmps ([l1nF x, l1nF y].map .f)) (F.int .i64 r) := by
  refine Ends.of_run tyOK envS4_ok (T := []) (n := 200) ?_
  have e : run Try.prog (tiOf Try.prog) envS4 [] 0 Try.f70.results.toList some 200 [.code (bodyOf Try.f70)] (start Try.f70.ntmps ([l1nF x, l1nF y].map .f)) = T70 (fun r => some (.ret (F.int .i64 r))) x y := by kernel_rfl
  rw [e]
  exact (good_sel h (fun _ h => (good_sel h (fun _ h => good_ret (by cases h; rfl)) (fun _ h => nomatch h))) (fun _ h => nomatch h))
theorem cmpZ_law {x y : Int} (hx : x.natAbs < 4294967296 ^ 800) (hy : y.natAbs < 4294967296 ^ 800) : G70 x y = some (x - y).sign := by
  have hs : (x - y).natAbs < 4294967296 ^ 900 := boundC_up (boundC_sub hx hy) (by omega)
  unfold G70 T70
  simp only [resSubZ, unL1n_l1nF, isL1n_l1nF hx, isL1n_l1nF hy, isL1n_l1nF hs, Bool.and_self, bsel_true]
def resCmpZ : List F → F | [x, y] => .int .i64 (unL1n x - unL1n y).sign | _ => .dflt
theorem okCmpZ : PureOK Try.prog 70 (preL2 800) resCmpZ :=
  fn_pure_at (c := bodyOf Try.f70) Try.func70 (by kernel_rfl) (by kernel_rfl) fun xs hp => match xs, hp with
  | [x, y], hp => by
    obtain ⟨hx, hy⟩ := preL2_iff hp
    exact ⟨[l1nF (unL1n x), l1nF (unL1n y)], _, ⟨(l1n_eqv hx).1, (l1n_eqv hy).1, trivial⟩, t70 _ _ _ (cmpZ_law (natAbs_of_isL1n hx) (natAbs_of_isL1n hy)), .refl _⟩
/-! ### function 108 -/
def T108 {ρ : Type} (ret : (F) → Option ρ) (x : Int) (y : Int) : Option ρ :=
 (bsel (isTrimH 699 (halvesF (digs 4294967296 x.natAbs)) && isTrimH 699 (halvesF (digs 4294967296 y.natAbs)) && isDivA (val 4294967296 (unHalves (halvesF (digs 4294967296 y.natAbs)))))
 (bsel (isHalves (halvesF (digs 4294967296 (val 4294967296 (unHalves (halvesF (digs 4294967296 x.natAbs))) / val 4294967296 (unHalves (halvesF (digs 4294967296 y.natAbs)))))) && lenOk 2000 (halvesF (digs 4294967296 (val 4294967296 (unHalves (halvesF (digs 4294967296 x.natAbs))) / val 4294967296 (unHalves (halvesF (digs 4294967296 y.natAbs)))))))
 (bsel (isHalves (halvesF (digs 4294967296 (val 4294967296 (unHalves (halvesF (digs 4294967296 x.natAbs))) % val 4294967296 (unHalves (halvesF (digs 4294967296 y.natAbs)))))) && lenOk 2000 (halvesF (digs 4294967296 (val 4294967296 (unHalves (halvesF (digs 4294967296 x.natAbs))) % val 4294967296 (unHalves (halvesF (digs 4294967296 y.natAbs)))))))
 (bsel (decide (sgn (decide (x < 0)) (val 4294967296 (unHalves (halvesF (digs 4294967296 (val 4294967296 (unHalves (halvesF (digs 4294967296 x.natAbs))) % val 4294967296 (unHalves (halvesF (digs 4294967296 y.natAbs)))))))) < 0))
 (bsel (decide (y < 0))
 (bsel (isL1n 800 (l1nF (sgn (!decide (x < 0) == decide (y < 0)) (val 4294967296 (unHalves (halvesF (digs 4294967296 (val 4294967296 (unHalves (halvesF (digs 4294967296 x.natAbs))) / val 4294967296 (unHalves (halvesF (digs 4294967296 y.natAbs)))))))))) && true)
 (bsel (isL1n 800 (l1nF (sgn (decide (x < 0)) (val 4294967296 (unHalves (halvesF (digs 4294967296 (val 4294967296 (unHalves (halvesF (digs 4294967296 x.natAbs))) % val 4294967296 (unHalves (halvesF (digs 4294967296 y.natAbs)))))))))) && isL1n 800 (l1nF y))
 (ret (F.tup [l1nF (unL1n (l1nF (sgn (!decide (x < 0) == decide (y < 0)) (val 4294967296 (unHalves (halvesF (digs 4294967296 (val 4294967296 (unHalves (halvesF (digs 4294967296 x.natAbs))) / val 4294967296 (unHalves (halvesF (digs 4294967296 y.natAbs)))))))))) + unL1n (resInt3 [F.int .i64 1])), l1nF (unL1n (l1nF (sgn (decide (x < 0)) (val 4294967296 (unHalves (halvesF (digs 4294967296 (val 4294967296 (unHalves (halvesF (digs 4294967296 x.natAbs))) % val 4294967296 (unHalves (halvesF (digs 4294967296 y.natAbs)))))))))) - unL1n (l1nF y))]))
 none)
 none)
 (bsel (isL1n 800 (l1nF (sgn (!decide (x < 0) == decide (y < 0)) (val 4294967296 (unHalves (halvesF (digs 4294967296 (val 4294967296 (unHalves (halvesF (digs 4294967296 x.natAbs))) / val 4294967296 (unHalves (halvesF (digs 4294967296 y.natAbs)))))))))) && true)
 (bsel (isL1n 800 (l1nF (sgn (decide (x < 0)) (val 4294967296 (unHalves (halvesF (digs 4294967296 (val 4294967296 (unHalves (halvesF (digs 4294967296 x.natAbs))) % val 4294967296 (unHalves (halvesF (digs 4294967296 y.natAbs)))))))))) && isL1n 800 (l1nF y))
 (ret (F.tup [l1nF (unL1n (l1nF (sgn (!decide (x < 0) == decide (y < 0)) (val 4294967296 (unHalves (halvesF (digs 4294967296 (val 4294967296 (unHalves (halvesF (digs 4294967296 x.natAbs))) / val 4294967296 (unHalves (halvesF (digs 4294967296 y.natAbs)))))))))) - unL1n (resInt3 [F.int .i64 1])), l1nF (unL1n (l1nF (sgn (decide (x < 0)) (val 4294967296 (unHalves (halvesF (digs 4294967296 (val 4294967296 (unHalves (halvesF (digs 4294967296 x.natAbs))) % val 4294967296 (unHalves (halvesF (digs 4294967296 y.natAbs)))))))))) + unL1n (l1nF y))]))
 none)
 none))
 (ret (F.tup [l1nF (sgn (!decide (x < 0) == decide (y < 0)) (val 4294967296 (unHalves (halvesF (digs 4294967296 (val 4294967296 (unHalves (halvesF (digs 4294967296 x.natAbs))) / val 4294967296 (unHalves (halvesF (digs 4294967296 y.natAbs))))))))), l1nF (sgn (decide (x < 0)) (val 4294967296 (unHalves (halvesF (digs 4294967296 (val 4294967296 (unHalves (halvesF (digs 4294967296 x.natAbs))) % val 4294967296 (unHalves (halvesF (digs 4294967296 y.natAbs)))))))))])))
 none)
 none)
 none)
def G108 (x : Int) (y : Int) : Option (F) := T108 some x y
theorem t108 (x : Int) (y : Int) (r : F) (h : G108 x y = some r) : Ends Try.prog Try.f108.results.toList [.code (bodyOf Try.f108)] (start Try.f108.ntmps ([l1nF x, l1nF y].map .f)) (r) := by
  refine Ends.of_run tyOK envS4_ok (T := []) (n := 200) ?_
  have e : run Try.prog (tiOf Try.prog) envS4 [] 0 Try.f108.results.toList some 200 [.code (bodyOf Try.f108)] (start Try.f108.ntmps ([l1nF x, l1nF y].map .f)) = T108 (fun r => some (.ret (r))) x y := by kernel_rfl
  rw [e]
  exact (good_sel h (fun _ h => (good_sel h (fun _ h => (good_sel h (fun _ h => (good_sel h (fun _ h => (good_sel h (fun _ h => (good_sel h (fun _ h => (good_sel h (fun _ h => good_ret (by cases h; rfl)) (fun _ h => nomatch h))) (fun _ h => nomatch h))) (fun _ h => (good_sel h (fun _ h => (good_sel h (fun _ h => good_ret (by cases h; rfl)) (fun _ h => nomatch h))) (fun _ h => nomatch h))))) (fun _ h => good_ret (by cases h; rfl)))) (fun _ h => nomatch h))) (fun _ h => nomatch h))) (fun _ h => nomatch h))
theorem divZ_law {x y : Int} (hy : y ≠ 0) (hx : x.natAbs < 4294967296 ^ 699) (hyb : y.natAbs < 4294967296 ^ 699) : ∃ a b, G108 x y = some (.tup [l1nF a, l1nF b]) ∧ a = x / y ∧ b = x % y := by
  have q1 : x.natAbs / y.natAbs < 4294967296 ^ 699 := Nat.lt_of_le_of_lt (Nat.div_le_self _ _) hx
  have q2 : x.natAbs % y.natAbs < 4294967296 ^ 699 := Nat.lt_of_le_of_lt (Nat.mod_le _ _) hx
  have q1' : (x.tdiv y).natAbs < 4294967296 ^ 800 := by rw [Int.natAbs_tdiv]; exact bound_upC q1 (by omega)
  have q2' : (x.tmod y).natAbs < 4294967296 ^ 800 := by rw [Int.natAbs_tmod]; exact bound_upC q2 (by omega)
  have d : isDivA y.natAbs = true := isDivA_iff.2 (by omega)
  unfold G108 T108
  simp only [unHalves_digs, val_digsH, isTrimH_digs hx, isTrimH_digs hyb, d, isHalves_digs, lenOkH_digs q1 (show 699 ≤ 2000 by omega), lenOkH_digs q2 (show 699 ≤ 2000 by omega), Bool.and_self, Bool.and_true, bsel_true, sgn_div x y hy, sgn_mod, isL1n_l1nF (boundC_up hyb (show 699 ≤ 800 by omega)), isL1n_l1nF q1', isL1n_l1nF q2', resInt3, unL1n_l1nF]
  obtain ⟨f1, f2, f3⟩ := over_fix (x := x) hy
  by_cases hr : x.tmod y < 0
  · rw [decide_eq_true hr, bsel_true]
    by_cases hn : y < 0
    · obtain ⟨g1, g2⟩ := f1 hr hn
      rw [decide_eq_true hn, bsel_true]
      exact ⟨_, _, rfl, g1, by rw [← g2]; omega⟩
    · obtain ⟨g1, g2⟩ := f2 hr hn
      rw [decide_eq_false hn, bsel_false]
      exact ⟨_, _, rfl, g1, by rw [← g2]; omega⟩
  · obtain ⟨g1, g2⟩ := f3 hr
    rw [decide_eq_false hr, bsel_false]
    exact ⟨_, _, rfl, g1, g2⟩
def isDivZ (y : Int) : Bool := isDivA y.natAbs
def preDivZ : List F → Bool | [x, y] => isL1n 699 x && isL1n 699 y && isDivZ (unL1n y) | _ => false
def resDivZ : List F → F | [x, y] => .tup [l1nF (unL1n x / unL1n y), l1nF (unL1n x % unL1n y)] | _ => .dflt
theorem okDivZ : PureOK Try.prog 108 preDivZ resDivZ :=
  fn_pure_at (c := bodyOf Try.f108) Try.func108 (by kernel_rfl) (by kernel_rfl) fun xs hp => match xs, hp with
  | [x, y], hp => by
    simp only [preDivZ, Bool.and_eq_true] at hp
    obtain ⟨⟨hx, hy⟩, hd⟩ := hp
    have h0 := isDivA_iff.1 hd
    obtain ⟨a, b, e, rfl, rfl⟩ := divZ_law (x := unL1n x) (y := unL1n y) (by omega) (natAbs_of_isL1n hx) (natAbs_of_isL1n hy)
    exact ⟨[l1nF (unL1n x), l1nF (unL1n y)], _, ⟨(l1n_eqv hx).1, (l1n_eqv hy).1, trivial⟩, t108 _ _ _ e, .refl _⟩
/-! ### function 107 -/
def S107_3 (x : List Nat) (y : List Nat) : St := ⟨[.bad, .bad, .bad, .bad, (U.hp 0 0), (U.f (halvesF x)), (U.f (halvesF y)), .bad, .bad, .bad, .bad, .bad, .bad, .bad, .bad, .bad, .bad, .bad, .bad, .bad, .bad, .bad, .bad, .bad, .bad, .bad], [HO.box [(U.f (F.bool false)), U.nils]]⟩
def T107_3 {ρ : Type} (ret : (F) → Option ρ) (c3 : (List Nat) → (List Nat) → Option ρ) (x : List Nat) (y : List Nat) : Option ρ :=
 (bsel (decide ((↑y.length : Int) > 0))
 (bsel (isTrimH 699 (halvesF x) && isTrimH 699 (halvesF y) && isDivA (val 4294967296 (unHalves (halvesF y))))
 (c3 (y) (digs 4294967296 (val 4294967296 (unHalves (halvesF x)) % val 4294967296 (unHalves (halvesF y)))))
 none)
 (bsel (isHalves (halvesF x) && lenOk 2000 (halvesF x))
 (ret (l1nF (sgn false (val 4294967296 (unHalves (halvesF x))))))
 none))
def L107_3 : Nat → (List Nat) → (List Nat) → Option (F)
  | 0, _, _ => none
  | k + 1, x, y => T107_3 some (L107_3 k) x y
def T107 {ρ : Type} (ret : (F) → Option ρ) (c3 : (List Nat) → (List Nat) → Option ρ) (x : Int) (y : Int) : Option ρ :=
 (c3 (digs 4294967296 x.natAbs) (digs 4294967296 y.natAbs))
def G107 (k : Nat) (x : Int) (y : Int) : Option (F) := T107 some (L107_3 k) x y
theorem t107_3 : ∀ (k : Nat) (x : List Nat) (y : List Nat) (r : F), L107_3 k x y = some r → Ends Try.prog Try.f107.results.toList (at_ Try.f107 3) (S107_3 x y) (r)
  | 0, _, _, _, h => nomatch h
  | k + 1, x, y, r, h => by
    refine Ends.of_cut tyOK envS4_ok (T := [(3, [4, 5, 6], 1000)]) (n := 200) ?_
    have e : runCut Try.prog (tiOf Try.prog) envS4 [(3, [4, 5, 6], 1000)] 0 Try.f107.results.toList some 200 (at_ Try.f107 3) (S107_3 x y) = T107_3 (fun r => some (.ret (r))) (fun x y => some (.cut (at_ Try.f107 3) (S107_3 x y))) x y := by kernel_rfl
    rw [e]
    exact (good_sel h (fun _ h => (good_sel h (fun _ h => good_cut (t107_3 k _ _ r h)) (fun _ h => nomatch h))) (fun _ h => (good_sel h (fun _ h => good_ret (by cases h; rfl)) (fun _ h => nomatch h))))
theorem t107 (k : Nat) (x : Int) (y : Int) (r : F) (h : G107 k x y = some r) : Ends Try.prog Try.f107.results.toList [.code (bodyOf Try.f107)] (start Try.f107.ntmps ([l1nF x, l1nF y].map .f)) (r) := by
  refine Ends.of_run tyOK envS4_ok (T := [(3, [4, 5, 6], 1000)]) (n := 200) ?_
  have e : run Try.prog (tiOf Try.prog) envS4 [(3, [4, 5, 6], 1000)] 0 Try.f107.results.toList some 200 [.code (bodyOf Try.f107)] (start Try.f107.ntmps ([l1nF x, l1nF y].map .f)) = T107 (fun r => some (.ret (r))) (fun x y => some (.cut (at_ Try.f107 3) (S107_3 x y))) x y := by kernel_rfl
  rw [e]
  exact good_cut (t107_3 k _ _ r h)
theorem gcd3_loop : ∀ (y x k : Nat), y < 4294967296 ^ 699 → x < 4294967296 ^ 699 → y + 1 ≤ k → L107_3 k (digs 4294967296 x) (digs 4294967296 y) = some (l1nF ((Nat.gcd x y : Nat) : Int)) := by
  intro y
  induction y using Nat.strongRecOn with
  | _ y ih =>
    intro x k hy hx hk
    obtain ⟨k, rfl⟩ : ∃ j, k = j + 1 := ⟨k - 1, by omega⟩
    rw [L107_3]
    unfold T107_3
    by_cases h0 : y = 0
    · subst h0
      rw [digs_zero, show decide (((([] : List Nat).length : Nat) : Int) > 0) = false from rfl, bsel_false, isHalves_digs, lenOkH_digs hx (show 699 ≤ 2000 by omega), unHalves_digs, val_digsH, Nat.gcd_zero_right]
      rfl
    · have hm : x % y < y := Nat.mod_lt _ (by omega)
      rw [decide_eq_true (digsH_len_pos.2 h0), bsel_true, isTrimH_digs hx, isTrimH_digs hy]
      simp only [unHalves_digs, val_digsH, isDivA_iff.2 (show 0 < y by omega), Bool.and_self, bsel_true]
      rw [ih (x % y) hm y k (Nat.lt_trans hm hy) hy (by omega), ← gcd_step]
def resGcdZ : List F → F | [x, y] => l1nF (gcdI (unL1n x) (unL1n y)) | _ => .dflt
theorem okGcdZ : PureOK Try.prog 107 (preL2 699) resGcdZ :=
  fn_pure_at (c := bodyOf Try.f107) Try.func107 (by kernel_rfl) (by kernel_rfl) fun xs hp => match xs, hp with
  | [x, y], hp => by
    obtain ⟨hx, hy⟩ := preL2_iff hp
    exact ⟨[l1nF (unL1n x), l1nF (unL1n y)], _, ⟨(l1n_eqv hx).1, (l1n_eqv hy).1, trivial⟩, t107 ((unL1n y).natAbs + 1) _ _ _ (gcd3_loop _ _ _ (natAbs_of_isL1n hy) (natAbs_of_isL1n hx) (Nat.le_refl _)), .refl _⟩
def envS5 : Env := ((envS4.add 70 (.pure (preL2 800) resCmpZ)).add 108 (.pure preDivZ resDivZ)).add 107 (.pure (preL2 699) resGcdZ)
theorem envS5_ok : EnvOK Try.prog envS5 := Env.add_ok (Env.add_ok (Env.add_ok envS4_ok okCmpZ.sp) okDivZ.sp) okGcdZ.sp
end
end Go.Proofs.Ytmambbfnjbdfgaa.R

namespace Go.Proofs.Ytmambbfnjbdfgaa.R
open Go
noncomputable section
set_option linter.unusedVariables false
set_option linter.unusedSimpArgs false
set_option maxRecDepth 100000
/-! ### function 71 -/
def S71_10 (d : List Nat) (m : Nat) (g : Nat → F) (i : Int) : St := ⟨[.bad, .bad, (U.hp 0 0), .bad, (U.f (halvesF d)), (U.hs 1 m 0 m), (U.f (F.int .i64 i)), .bad, .bad, .bad, .bad, .bad, .bad, .bad, .bad, .bad, .bad, .bad, .bad, .bad, .bad, .bad, .bad, .bad, .bad, .bad, .bad, .bad, .bad, .bad, .bad, .bad, .bad, .bad, .bad, .bad, .bad, .bad, .bad, .bad, .bad, .bad, .bad, .bad, .bad, .bad, .bad, .bad, .bad, .bad, .bad, .bad, .bad, .bad, .bad, .bad, .bad, .bad, .bad, .bad, .bad, .bad, .bad, .bad, .bad, .bad, .bad, .bad, .bad, .bad, .bad, .bad, .bad, .bad, .bad, .bad, .bad], [HO.box [(U.f (F.int .u64 0)), (U.f (F.int .u64 0)), (U.f (F.int .u64 0)), (U.f (F.int .u64 0))], HO.arr 1 m g]⟩
def S71_8 (d : List Nat) : St := ⟨[.bad, .bad, (U.hp 0 0), .bad, (U.f (halvesF d)), .bad, .bad, .bad, .bad, .bad, .bad, .bad, .bad, .bad, .bad, .bad, .bad, .bad, .bad, .bad, .bad, .bad, .bad, .bad, .bad, .bad, .bad, .bad, .bad, .bad, .bad, .bad, .bad, .bad, .bad, .bad, .bad, .bad, .bad, .bad, .bad, .bad, .bad, .bad, .bad, .bad, .bad, .bad, .bad, .bad, .bad, .bad, .bad, .bad, .bad, .bad, .bad, .bad, .bad, .bad, .bad, .bad, .bad, .bad, .bad, .bad, .bad, .bad, .bad, .bad, .bad, .bad, .bad, .bad, .bad, .bad, .bad], [HO.box [(U.f (F.int .u64 0)), (U.f (F.int .u64 0)), (U.f (F.int .u64 0)), (U.f (F.int .u64 0))]]⟩
def S71_13 (m : Nat) (g : Nat → F) : St := ⟨[.bad, .bad, (U.hp 0 0), .bad, .bad, (U.hs 1 m 0 m), .bad, .bad, .bad, .bad, .bad, .bad, .bad, .bad, .bad, .bad, .bad, .bad, .bad, .bad, .bad, .bad, .bad, .bad, .bad, .bad, .bad, .bad, .bad, .bad, .bad, .bad, .bad, .bad, .bad, .bad, .bad, .bad, .bad, .bad, .bad, .bad, .bad, .bad, .bad, .bad, .bad, .bad, .bad, .bad, .bad, .bad, .bad, .bad, .bad, .bad, .bad, .bad, .bad, .bad, .bad, .bad, .bad, .bad, .bad, .bad, .bad, .bad, .bad, .bad, .bad, .bad, .bad, .bad, .bad, .bad, .bad], [HO.box [(U.f (F.int .u64 0)), (U.f (F.int .u64 0)), (U.f (F.int .u64 0)), (U.f (F.int .u64 0))], HO.arr 1 m g]⟩
def T71_10 {ρ : Type} (ret : (F) → Option ρ) (c10 : (List Nat) → (Nat) → (Nat → F) → (Int) → Option ρ) (c8 : (List Nat) → Option ρ) (c13 : (Nat) → (Nat → F) → Option ρ) (d : List Nat) (m : Nat) (g : Nat → F) (i : Int) : Option ρ :=
 (bsel (decide (i < 8) == true)
 (bsel (decide (i < (↑d.length : Int)))
 (bsel (decide (0 ≤ i))
 (bsel (decide (i < (↑d.length : Int)))
 (bsel (decide (m = m))
 (bsel (decide (0 ≤ i))
 (bsel (decide (i < (↑m : Int)))
 (bsel (decide (m = m))
 (bsel (decide (0 + i.toNat < m))
 (bsel (decide ((g (0 + i.toNat)).cells.length = 1))
 (bsel ((isAggF (g (0 + i.toNat)) || true) && true)
 (c10 (d) (m) (fun j ↦ if j = 0 + i.toNat then F.int .u64 (IntKind.u64.wrap (↑(d.getD i.toNat 0) : Int)) else g j) (IntKind.i64.wrap (i + 1)))
 none)
 none)
 none)
 none)
 none)
 none)
 none)
 none)
 none)
 (c13 (m) (g)))
 (c13 (m) (g)))
def T71_8 {ρ : Type} (ret : (F) → Option ρ) (c10 : (List Nat) → (Nat) → (Nat → F) → (Int) → Option ρ) (c8 : (List Nat) → Option ρ) (c13 : (Nat) → (Nat → F) → Option ρ) (d : List Nat) : Option ρ :=
 (bsel (decide (8 * (((8 : Nat) : Int) + 1) ≤ (↑limit : Int)))
 (c10 (d) (8) (fun x ↦ F.int .u64 0) (0))
 none)
def T71_13 {ρ : Type} (ret : (F) → Option ρ) (c10 : (List Nat) → (Nat) → (Nat → F) → (Int) → Option ρ) (c8 : (List Nat) → Option ρ) (c13 : (Nat) → (Nat → F) → Option ρ) (m : Nat) (g : Nat → F) : Option ρ :=
 (bsel (decide (m = m))
 (bsel (decide (7 < (↑m : Int)))
 (bsel (decide (m = m))
 (bsel (decide (0 + 7 < m))
 (bsel (decide ((g (0 + 7)).cells.length = 1))
 (bsel (okV (Value.int IntKind.u64 0) ((List.drop 0 (g (0 + Int.toNat 7)).cells).headD F.dflt) && true)
 (bsel (decide (m = m))
 (bsel (decide (6 < (↑m : Int)))
 (bsel (decide (m = m))
 (bsel (decide (0 + 6 < m))
 (bsel (decide ((g (0 + 6)).cells.length = 1))
 (bsel (okV (Value.int IntKind.u64 0) ((List.drop 0 (g (0 + Int.toNat 6)).cells).headD F.dflt) && true)
 (bsel (decide (m = m))
 (bsel (decide (5 < (↑m : Int)))
 (bsel (decide (m = m))
 (bsel (decide (0 + 5 < m))
 (bsel (decide ((g (0 + 5)).cells.length = 1))
 (bsel (okV (Value.int IntKind.u64 0) ((List.drop 0 (g (0 + Int.toNat 5)).cells).headD F.dflt) && true)
 (bsel (decide (m = m))
 (bsel (decide (4 < (↑m : Int)))
 (bsel (decide (m = m))
 (bsel (decide (0 + 4 < m))
 (bsel (decide ((g (0 + 4)).cells.length = 1))
 (bsel (okV (Value.int IntKind.u64 0) ((List.drop 0 (g (0 + Int.toNat 4)).cells).headD F.dflt) && true)
 (bsel (decide (m = m))
 (bsel (decide (3 < (↑m : Int)))
 (bsel (decide (m = m))
 (bsel (decide (0 + 3 < m))
 (bsel (decide ((g (0 + 3)).cells.length = 1))
 (bsel (okV (Value.int IntKind.u64 0) ((List.drop 0 (g (0 + Int.toNat 3)).cells).headD F.dflt) && true)
 (bsel (decide (m = m))
 (bsel (decide (2 < (↑m : Int)))
 (bsel (decide (m = m))
 (bsel (decide (0 + 2 < m))
 (bsel (decide ((g (0 + 2)).cells.length = 1))
 (bsel (okV (Value.int IntKind.u64 0) ((List.drop 0 (g (0 + Int.toNat 2)).cells).headD F.dflt) && true)
 (bsel (decide (m = m))
 (bsel (decide (1 < (↑m : Int)))
 (bsel (decide (m = m))
 (bsel (decide (0 + 1 < m))
 (bsel (decide ((g (0 + 1)).cells.length = 1))
 (bsel (okV (Value.int IntKind.u64 0) ((List.drop 0 (g (0 + Int.toNat 1)).cells).headD F.dflt) && true)
 (bsel (decide (m = m))
 (bsel (decide (0 < (↑m : Int)))
 (bsel (decide (m = m))
 (bsel (decide (0 + 0 < m))
 (bsel (decide ((g (0 + 0)).cells.length = 1))
 (bsel (okV (Value.int IntKind.u64 0) ((List.drop 0 (g (0 + Int.toNat 0)).cells).headD F.dflt) && true)
 (ret (F.tup [F.agg [F.int .u64 (bitsOp BinOp.or IntKind.u64 (IntKind.u64.wrap (intOf ((List.drop 0 (g (0 + Int.toNat 7)).cells).headD F.dflt) * 2 ^ min (Int.toNat 32) IntKind.u64.bits)) (intOf ((List.drop 0 (g (0 + Int.toNat 6)).cells).headD F.dflt))), F.int .u64 (bitsOp BinOp.or IntKind.u64 (IntKind.u64.wrap (intOf ((List.drop 0 (g (0 + Int.toNat 5)).cells).headD F.dflt) * 2 ^ min (Int.toNat 32) IntKind.u64.bits)) (intOf ((List.drop 0 (g (0 + Int.toNat 4)).cells).headD F.dflt))), F.int .u64 (bitsOp BinOp.or IntKind.u64 (IntKind.u64.wrap (intOf ((List.drop 0 (g (0 + Int.toNat 3)).cells).headD F.dflt) * 2 ^ min (Int.toNat 32) IntKind.u64.bits)) (intOf ((List.drop 0 (g (0 + Int.toNat 2)).cells).headD F.dflt))), F.int .u64 (bitsOp BinOp.or IntKind.u64 (IntKind.u64.wrap (intOf ((List.drop 0 (g (0 + Int.toNat 1)).cells).headD F.dflt) * 2 ^ min (Int.toNat 32) IntKind.u64.bits)) (intOf ((List.drop 0 (g (0 + Int.toNat 0)).cells).headD F.dflt)))], F.bool true]))
 none)
 none)
 none)
 none)
 none)
 none)
 none)
 none)
 none)
 none)
 none)
 none)
 none)
 none)
 none)
 none)
 none)
 none)
 none)
 none)
 none)
 none)
 none)
 none)
 none)
 none)
 none)
 none)
 none)
 none)
 none)
 none)
 none)
 none)
 none)
 none)
 none)
 none)
 none)
 none)
 none)
 none)
 none)
 none)
 none)
 none)
 none)
 none)
mutual
def L71_10 : Nat → (List Nat) → (Nat) → (Nat → F) → (Int) → Option (F)
  | 0, _, _, _, _ => none
  | k + 1, d, m, g, i => T71_10 some (L71_10 k) (L71_8 k) (L71_13 k) d m g i
def L71_8 : Nat → (List Nat) → Option (F)
  | 0, _ => none
  | k + 1, d => T71_8 some (L71_10 k) (L71_8 k) (L71_13 k) d
def L71_13 : Nat → (Nat) → (Nat → F) → Option (F)
  | 0, _, _ => none
  | k + 1, m, g => T71_13 some (L71_10 k) (L71_8 k) (L71_13 k) m g
end
def T71 {ρ : Type} (ret : (F) → Option ρ) (c10 : (List Nat) → (Nat) → (Nat → F) → (Int) → Option ρ) (c8 : (List Nat) → Option ρ) (c13 : (Nat) → (Nat → F) → Option ρ) (z : Int) : Option ρ :=
 (bsel (decide (z < 0))
 (bsel (isTrimH 800 (halvesF (digs 4294967296 z.natAbs)) && true)
 (bsel (decide (((↑(val 4294967296 (unHalves (halvesF (digs 4294967296 z.natAbs)))) : Int) - ((57896044618658097711785492504343953926634992332820282019728792003956564819968 : Nat) : Int)).sign > 0))
 (ret (F.tup [F.agg [F.int .u64 0, F.int .u64 0, F.int .u64 0, F.int .u64 0], F.bool false]))
 (bsel (isHalves (halvesF (digs 4294967296 z.natAbs)) && lenOk 1900 (halvesF (digs 4294967296 z.natAbs)))
 (c8 (subL 4294967296 (unHalves (resLeft [F.sl 1 (lget [F.int .u32 1]), F.int .i64 256])) (unHalves (halvesF (digs 4294967296 z.natAbs))) 0))
 none))
 none)
 (bsel (isTrimH 800 (halvesF (digs 4294967296 z.natAbs)))
 (bsel (decide ((↑(Go.Proofs.Ytmambbfnjbdfgaa.R.bitLen (val 4294967296 (unHalves (halvesF (digs 4294967296 z.natAbs))))) : Int) > 255))
 (ret (F.tup [F.agg [F.int .u64 0, F.int .u64 0, F.int .u64 0, F.int .u64 0], F.bool false]))
 (c8 (digs 4294967296 z.natAbs)))
 none))
def G71 (k : Nat) (z : Int) : Option (F) := T71 some (L71_10 k) (L71_8 k) (L71_13 k) z
mutual
theorem t71_10 : ∀ (k : Nat) (d : List Nat) (m : Nat) (g : Nat → F) (i : Int) (r : F), L71_10 k d m g i = some r → Ends Try.prog Try.f71.results.toList (at_ Try.f71 10) (S71_10 d m g i) (r)
  | 0, _, _, _, _, _, h => nomatch h
  | k + 1, d, m, g, i, r, h => by
    refine Ends.of_cut tyOK envS5_ok (T := [(10, [2, 4, 5, 6], 1000), (8, [2, 4], 1000), (13, [2, 5], 1000)]) (n := 200) ?_
    have e : runCut Try.prog (tiOf Try.prog) envS5 [(10, [2, 4, 5, 6], 1000), (8, [2, 4], 1000), (13, [2, 5], 1000)] 0 Try.f71.results.toList some 200 (at_ Try.f71 10) (S71_10 d m g i) = T71_10 (fun r => some (.ret (r))) (fun d m g i => some (.cut (at_ Try.f71 10) (S71_10 d m g i))) (fun d => some (.cut (at_ Try.f71 8) (S71_8 d))) (fun m g => some (.cut (at_ Try.f71 13) (S71_13 m g))) d m g i := by kernel_rfl
    rw [e]
    exact (good_sel h (fun _ h => (good_sel h (fun _ h => (good_sel h (fun _ h => (good_sel h (fun _ h => (good_sel h (fun _ h => (good_sel h (fun _ h => (good_sel h (fun _ h => (good_sel h (fun _ h => (good_sel h (fun _ h => (good_sel h (fun _ h => (good_sel h (fun _ h => good_cut (t71_10 k _ _ _ _ r h)) (fun _ h => nomatch h))) (fun _ h => nomatch h))) (fun _ h => nomatch h))) (fun _ h => nomatch h))) (fun _ h => nomatch h))) (fun _ h => nomatch h))) (fun _ h => nomatch h))) (fun _ h => nomatch h))) (fun _ h => nomatch h))) (fun _ h => good_cut (t71_13 k _ _ r h)))) (fun _ h => good_cut (t71_13 k _ _ r h)))
theorem t71_8 : ∀ (k : Nat) (d : List Nat) (r : F), L71_8 k d = some r → Ends Try.prog Try.f71.results.toList (at_ Try.f71 8) (S71_8 d) (r)
  | 0, _, _, h => nomatch h
  | k + 1, d, r, h => by
    refine Ends.of_cut tyOK envS5_ok (T := [(10, [2, 4, 5, 6], 1000), (8, [2, 4], 1000), (13, [2, 5], 1000)]) (n := 200) ?_
    have e : runCut Try.prog (tiOf Try.prog) envS5 [(10, [2, 4, 5, 6], 1000), (8, [2, 4], 1000), (13, [2, 5], 1000)] 0 Try.f71.results.toList some 200 (at_ Try.f71 8) (S71_8 d) = T71_8 (fun r => some (.ret (r))) (fun d m g i => some (.cut (at_ Try.f71 10) (S71_10 d m g i))) (fun d => some (.cut (at_ Try.f71 8) (S71_8 d))) (fun m g => some (.cut (at_ Try.f71 13) (S71_13 m g))) d := by kernel_rfl
    rw [e]
    exact (good_sel h (fun _ h => good_cut (t71_10 k _ _ _ _ r h)) (fun _ h => nomatch h))
theorem t71_13 : ∀ (k : Nat) (m : Nat) (g : Nat → F) (r : F), L71_13 k m g = some r → Ends Try.prog Try.f71.results.toList (at_ Try.f71 13) (S71_13 m g) (r)
  | 0, _, _, _, h => nomatch h
  | k + 1, m, g, r, h => by
    refine Ends.of_cut tyOK envS5_ok (T := [(10, [2, 4, 5, 6], 1000), (8, [2, 4], 1000), (13, [2, 5], 1000)]) (n := 200) ?_
    have e : runCut Try.prog (tiOf Try.prog) envS5 [(10, [2, 4, 5, 6], 1000), (8, [2, 4], 1000), (13, [2, 5], 1000)] 0 Try.f71.results.toList some 200 (at_ Try.f71 13) (S71_13 m g) = T71_13 (fun r => some (.ret (r))) (fun d m g i => some (.cut (at_ Try.f71 10) (S71_10 d m g i))) (fun d => some (.cut (at_ Try.f71 8) (S71_8 d))) (fun m g => some (.cut (at_ Try.f71 13) (S71_13 m g))) m g := by kernel_rfl
    rw [e]
    exact (good_sel h (fun _ h => (good_sel h (fun _ h => (good_sel h (fun _ h => (good_sel h (fun _ h => (good_sel h (fun _ h => (good_sel h (fun _ h => (good_sel h (fun _ h => (good_sel h (fun _ h => (good_sel h (fun _ h => (good_sel h (fun _ h => (good_sel h (fun _ h => (good_sel h (fun _ h => (good_sel h (fun _ h => (good_sel h (fun _ h => (good_sel h (fun _ h => (good_sel h (fun _ h => (good_sel h (fun _ h => (good_sel h (fun _ h => (good_sel h (fun _ h => (good_sel h (fun _ h => (good_sel h (fun _ h => (good_sel h (fun _ h => (good_sel h (fun _ h => (good_sel h (fun _ h => (good_sel h (fun _ h => (good_sel h (fun _ h => (good_sel h (fun _ h => (good_sel h (fun _ h => (good_sel h (fun _ h => (good_sel h (fun _ h => (good_sel h (fun _ h => (good_sel h (fun _ h => (good_sel h (fun _ h => (good_sel h (fun _ h => (good_sel h (fun _ h => (good_sel h (fun _ h => (good_sel h (fun _ h => (good_sel h (fun _ h => (good_sel h (fun _ h => (good_sel h (fun _ h => (good_sel h (fun _ h => (good_sel h (fun _ h => (good_sel h (fun _ h => (good_sel h (fun _ h => (good_sel h (fun _ h => (good_sel h (fun _ h => (good_sel h (fun _ h => (good_sel h (fun _ h => good_ret (by cases h; rfl)) (fun _ h => nomatch h))) (fun _ h => nomatch h))) (fun _ h => nomatch h))) (fun _ h => nomatch h))) (fun _ h => nomatch h))) (fun _ h => nomatch h))) (fun _ h => nomatch h))) (fun _ h => nomatch h))) (fun _ h => nomatch h))) (fun _ h => nomatch h))) (fun _ h => nomatch h))) (fun _ h => nomatch h))) (fun _ h => nomatch h))) (fun _ h => nomatch h))) (fun _ h => nomatch h))) (fun _ h => nomatch h))) (fun _ h => nomatch h))) (fun _ h => nomatch h))) (fun _ h => nomatch h))) (fun _ h => nomatch h))) (fun _ h => nomatch h))) (fun _ h => nomatch h))) (fun _ h => nomatch h))) (fun _ h => nomatch h))) (fun _ h => nomatch h))) (fun _ h => nomatch h))) (fun _ h => nomatch h))) (fun _ h => nomatch h))) (fun _ h => nomatch h))) (fun _ h => nomatch h))) (fun _ h => nomatch h))) (fun _ h => nomatch h))) (fun _ h => nomatch h))) (fun _ h => nomatch h))) (fun _ h => nomatch h))) (fun _ h => nomatch h))) (fun _ h => nomatch h))) (fun _ h => nomatch h))) (fun _ h => nomatch h))) (fun _ h => nomatch h))) (fun _ h => nomatch h))) (fun _ h => nomatch h))) (fun _ h => nomatch h))) (fun _ h => nomatch h))) (fun _ h => nomatch h))) (fun _ h => nomatch h))) (fun _ h => nomatch h))) (fun _ h => nomatch h))
end
theorem t71 (k : Nat) (z : Int) (r : F) (h : G71 k z = some r) : Ends Try.prog Try.f71.results.toList [.code (bodyOf Try.f71)] (start Try.f71.ntmps ([l1nF z].map .f)) (r) := by
  refine Ends.of_run tyOK envS5_ok (T := [(10, [2, 4, 5, 6], 1000), (8, [2, 4], 1000), (13, [2, 5], 1000)]) (n := 200) ?_
  have e : run Try.prog (tiOf Try.prog) envS5 [(10, [2, 4, 5, 6], 1000), (8, [2, 4], 1000), (13, [2, 5], 1000)] 0 Try.f71.results.toList some 200 [.code (bodyOf Try.f71)] (start Try.f71.ntmps ([l1nF z].map .f)) = T71 (fun r => some (.ret (r))) (fun d m g i => some (.cut (at_ Try.f71 10) (S71_10 d m g i))) (fun d => some (.cut (at_ Try.f71 8) (S71_8 d))) (fun m g => some (.cut (at_ Try.f71 13) (S71_13 m g))) z := by kernel_rfl
  rw [e]
  exact (good_sel h (fun _ h => (good_sel h (fun _ h => (good_sel h (fun _ h => good_ret (by cases h; rfl)) (fun _ h => (good_sel h (fun _ h => good_cut (t71_8 k _ r h)) (fun _ h => nomatch h))))) (fun _ h => nomatch h))) (fun _ h => (good_sel h (fun _ h => (good_sel h (fun _ h => good_ret (by cases h; rfl)) (fun _ h => good_cut (t71_8 k _ r h)))) (fun _ h => nomatch h))))
theorem pair64 {a b : Nat} (ha : a < 4294967296) (hb : b < 4294967296) : F.int .u64 (bitsOp BinOp.or IntKind.u64 (IntKind.u64.wrap ((a : Int) * 2 ^ min (Int.toNat 32) IntKind.u64.bits)) (b : Int)) = u64F (a * 4294967296 + b) := by
  refine congrArg (F.int .u64) ?_
  rw [show min (Int.toNat 32) IntKind.u64.bits = 32 from rfl, wshl, show (2 : Nat) ^ 32 = 4294967296 from rfl, Nat.mod_eq_of_lt (show a * 4294967296 < 18446744073709551616 by omega)]
  have h := or_disj (i := 32) (a := a) (b := b) (by omega) hb (by show 4294967296 * a < 18446744073709551616; omega)
  rw [show (2 : Nat) ^ 32 = 4294967296 from rfl, Nat.mul_comm 4294967296 a] at h
  exact h
theorem wide3_end {m k : Nat} {g : Nat → F} {v : Nat → Nat} (hm : m = 8) (hv : ∀ j, v j < 4294967296) (hg : ∀ j, j < m → g j = u64F (v j)) :
    L71_13 (k + 1) m g = some (.tup [.agg [u64F (v 7 * 4294967296 + v 6), u64F (v 5 * 4294967296 + v 4), u64F (v 3 * 4294967296 + v 2), u64F (v 1 * 4294967296 + v 0)], .bool true]) := by
  subst hm
  rw [L71_13]
  unfold T71_13
  simp only [show Int.toNat 7 = 7 from rfl, show Int.toNat 6 = 6 from rfl, show Int.toNat 5 = 5 from rfl, show Int.toNat 4 = 4 from rfl, show Int.toNat 3 = 3 from rfl, show Int.toNat 2 = 2 from rfl, show Int.toNat 1 = 1 from rfl, Int.toNat_zero, Nat.zero_add, hg 0 (by omega), hg 1 (by omega), hg 2 (by omega), hg 3 (by omega), hg 4 (by omega), hg 5 (by omega), hg 6 (by omega), hg 7 (by omega), cell_of, intOf_u64, pair64 (hv 7) (hv 6), pair64 (hv 5) (hv 4), pair64 (hv 3) (hv 2), pair64 (hv 1) (hv 0)]
  rfl
theorem wide3_loop {d : List Nat} (od : okD 4294967296 d) : ∀ (c i k : Nat) (g : Nat → F), i + c = 8 → c + 2 < k → (∀ j, j < 8 → g j = u64F (if j < i then d.getD j 0 else 0)) →
    L71_10 k d 8 g i = some (.tup [.agg [u64F (d.getD 7 0 * 4294967296 + d.getD 6 0), u64F (d.getD 5 0 * 4294967296 + d.getD 4 0), u64F (d.getD 3 0 * 4294967296 + d.getD 2 0), u64F (d.getD 1 0 * 4294967296 + d.getD 0 0)], .bool true])
  | 0, i, k, g, hi, hk, hg => by
    obtain ⟨k, rfl⟩ : ∃ j, k = j + 2 := ⟨k - 2, by omega⟩
    rw [L71_10]
    unfold T71_10
    rw [decide_eq_false (show ¬ (i : Int) < 8 by omega), show (false == true) = false from rfl, bsel_false]
    exact wide3_end (v := fun j => d.getD j 0) rfl (fun j => getD_lt' (by omega) od j) fun j hj => by rw [hg j hj, if_pos (by omega)]
  | c + 1, i, k, g, hi, hk, hg => by
    obtain ⟨k, rfl⟩ : ∃ j, k = j + 2 := ⟨k - 2, by omega⟩
    rw [L71_10]
    unfold T71_10
    rw [decide_eq_true (show (i : Int) < 8 by omega), show (true == true) = true from rfl, bsel_true]
    by_cases hd : i < d.length
    · have hb := getD_lt od hd
      rw [decide_eq_true (show (i : Int) < d.length by omega), bsel_true, Int.toNat_natCast, Nat.zero_add, hg i (by omega), decide_eq_true (show (0 : Int) ≤ i by omega), decide_eq_true (show (i : Int) < ((8 : Nat) : Int) by omega), decide_eq_true (show i < 8 by omega), decide_eq_true (u64_cells _), isAgg_or, wrapu_lt (show d.getD i 0 < 18446744073709551616 by omega), wrapI (by omega) (by omega), show (i : Int) + 1 = ((i + 1 : Nat) : Int) by omega]
      simp only [bsel_true, decide_true]
      refine wide3_loop od c (i + 1) (k + 1) _ (by omega) (by omega) fun j hj => ?_
      by_cases hji : j = i
      · subst hji
        rw [if_pos rfl, if_pos (by omega)]
        rfl
      · rw [if_neg hji, hg j hj]
        by_cases hlt : j < i
        · rw [if_pos hlt, if_pos (by omega)]
        · rw [if_neg hlt, if_neg (by omega)]
    · rw [decide_eq_false (show ¬ (i : Int) < d.length by omega), bsel_false]
      exact wide3_end (v := fun j => d.getD j 0) rfl (fun j => getD_lt' (by omega) od j) fun j hj => by
        rw [hg j hj]
        by_cases hlt : j < i
        · rw [if_pos hlt]
        · rw [if_neg hlt, getD_beyond (by omega)]
theorem eight_words {f : Nat → Nat} {V : Nat} (h : ∀ p, f p = V / 4294967296 ^ p % 4294967296) : f 1 * 4294967296 + f 0 = V % 18446744073709551616 ∧ f 3 * 4294967296 + f 2 = V / 18446744073709551616 % 18446744073709551616 ∧ f 5 * 4294967296 + f 4 = V / 340282366920938463463374607431768211456 % 18446744073709551616 ∧ f 7 * 4294967296 + f 6 = V / 6277101735386680763835789423207666416102355444464034512896 % 18446744073709551616 := by
  have two : ∀ W : Nat, W / 4294967296 % 4294967296 * 4294967296 + W % 4294967296 = W % 18446744073709551616 := fun W => by omega
  have step : ∀ p, f (p + 1) * 4294967296 + f p = V / 4294967296 ^ p % 18446744073709551616 := fun p => by
    rw [h, h, Nat.pow_succ, ← Nat.div_div_eq_div_mul]
    exact two _
  have s0 := step 0
  rw [Nat.pow_zero, Nat.div_one] at s0
  exact ⟨s0, step 2, step 4, step 6⟩
theorem wide3_eight {d : List Nat} (od : okD 4294967296 d) {k : Nat} (hk : 20 ≤ k) :
    L71_8 k d = some (.tup [.agg [u64F (val 4294967296 d / 6277101735386680763835789423207666416102355444464034512896 % 18446744073709551616), u64F (val 4294967296 d / 340282366920938463463374607431768211456 % 18446744073709551616), u64F (val 4294967296 d / 18446744073709551616 % 18446744073709551616), u64F (val 4294967296 d % 18446744073709551616)], .bool true]) := by
  obtain ⟨k, rfl⟩ : ∃ j, k = j + 1 := ⟨k - 1, by omega⟩
  rw [L71_8]
  unfold T71_8
  have hlim : (8 : Int) * (((8 : Nat) : Int) + 1) ≤ ((limit : Nat) : Int) := by rw [limit_eq]; omega
  rw [decide_eq_true hlim, bsel_true]
  refine (wide3_loop od 8 0 k (fun _ => F.int .u64 0) (by omega) (by omega) fun j hj => rfl).trans ?_
  have h := fun p => digit_at (B := 4294967296) (by omega) d p od
  obtain ⟨w0, w1, w2, w3⟩ := eight_words h
  rw [w0, w1, w2, w3]
theorem wideZ_law {z : Int} (hz : z.natAbs < 4294967296 ^ 800) : G71 100 z = some (.tup [wideF z, .bool (isWide z)]) := by
  have t := isTrimH_digs hz
  have l1 : isHalves (halvesF (digs 4294967296 z.natAbs)) = true := isHalves_digs _
  have l2 : lenOk 1900 (halvesF (digs 4294967296 z.natAbs)) = true := lenOkH_digs hz (by omega)
  have ll := digsH_len hz
  clear hz
  have e256 : unHalves (resLeft [F.sl 1 (lget [F.int .u32 1]), F.int .i64 256]) = digs 4294967296 115792089237316195423570985008687907853269984665640564039457584007913129639936 := by
    have : val 4294967296 (unHalves (F.sl 1 (lget [F.int .u32 1]))) = 1 := rfl
    simp only [resLeft, this, Nat.one_mul, unHalves_digs]
    rfl
  have e255 : (2 : Nat) ^ 255 = 57896044618658097711785492504343953926634992332820282019728792003956564819968 := rfl
  unfold G71 T71
  simp only [t, l1, l2, e256, unHalves_digs, val_digsH, Bool.and_self, Bool.and_true, bsel_true]
  by_cases hn : z < 0
  · rw [decide_eq_true hn, bsel_true]
    by_cases hw : -57896044618658097711785492504343953926634992332820282019728792003956564819968 ≤ z
    · have ht : isWide z = true := isWide_iff.2 (by omega)
      rw [decide_eq_false (show ¬ ((z.natAbs : Int) - ((57896044618658097711785492504343953926634992332820282019728792003956564819968 : Nat) : Int)).sign > 0 from fun h => by have := Int.sign_pos_iff.1 h; omega), bsel_false]
      have hlong : (digs 4294967296 z.natAbs).length ≤ (digs 4294967296 115792089237316195423570985008687907853269984665640564039457584007913129639936).length := by
        rcases Nat.lt_or_ge (digs 4294967296 115792089237316195423570985008687907853269984665640564039457584007913129639936).length (digs 4294967296 z.natAbs).length with h1 | h1
        · have := val_longer (B := 4294967296) (by omega) (okD_digs (by omega) 115792089237316195423570985008687907853269984665640564039457584007913129639936) (trimD_digs (by omega) z.natAbs) h1
          rw [val_digsH, val_digsH] at this
          omega
        · exact h1
      have hv : val 4294967296 (subL 4294967296 (digs 4294967296 115792089237316195423570985008687907853269984665640564039457584007913129639936) (digs 4294967296 z.natAbs) 0) = 115792089237316195423570985008687907853269984665640564039457584007913129639936 - z.natAbs := by
        have := val_subL (B := 4294967296) (by omega) (digs 4294967296 115792089237316195423570985008687907853269984665640564039457584007913129639936) (digs 4294967296 z.natAbs) 0 (okD_digs (by omega) _) (okD_digs (by omega) _) (by omega) hlong (by rw [val_digsH, val_digsH]; omega)
        rw [val_digsH, val_digsH] at this
        omega
      rw [wide3_eight (okD_subL (by omega) _ _ _) (by omega), hv, ht]
      have e3 : u64F ((115792089237316195423570985008687907853269984665640564039457584007913129639936 - z.natAbs) / 6277101735386680763835789423207666416102355444464034512896 % 18446744073709551616) = .int .u64 (z / 6277101735386680763835789423207666416102355444464034512896 % 18446744073709551616) := congrArg (F.int .u64) (by omega)
      have e2 : u64F ((115792089237316195423570985008687907853269984665640564039457584007913129639936 - z.natAbs) / 340282366920938463463374607431768211456 % 18446744073709551616) = .int .u64 (z / 340282366920938463463374607431768211456 % 18446744073709551616) := congrArg (F.int .u64) (by omega)
      have e1 : u64F ((115792089237316195423570985008687907853269984665640564039457584007913129639936 - z.natAbs) / 18446744073709551616 % 18446744073709551616) = .int .u64 (z / 18446744073709551616 % 18446744073709551616) := congrArg (F.int .u64) (by omega)
      have e0 : u64F ((115792089237316195423570985008687907853269984665640564039457584007913129639936 - z.natAbs) % 18446744073709551616) = .int .u64 (z % 18446744073709551616) := congrArg (F.int .u64) (by omega)
      rw [e0, e1, e2, e3]
      simp only [wideF, wd3, wd2, wd1, wd0, ht, cond_true]
    · have hf : isWide z = false := by
        cases h : isWide z with
        | false => rfl
        | true => have := isWide_iff.1 h; exfalso; omega
      rw [decide_eq_true (show ((z.natAbs : Int) - ((57896044618658097711785492504343953926634992332820282019728792003956564819968 : Nat) : Int)).sign > 0 from Int.sign_pos_iff.2 (by omega)), bsel_true, hf, wide_none hf]
  · rw [decide_eq_false hn, bsel_false]
    have b0 := bitLen_le (n := z.natAbs) (j := 255)
    rw [e255] at b0
    by_cases hw : 255 < bitLen z.natAbs
    · have hf : isWide z = false := by
        cases h : isWide z with
        | false => rfl
        | true => have := isWide_iff.1 h; exfalso; omega
      rw [decide_eq_true (show ((bitLen z.natAbs : Nat) : Int) > 255 by omega), bsel_true, hf, wide_none hf]
    · have ht : isWide z = true := isWide_iff.2 (by omega)
      rw [decide_eq_false (show ¬ ((bitLen z.natAbs : Nat) : Int) > 255 by omega), bsel_false, wide3_eight (okD_digs (by omega) _) (by omega), val_digsH, ht]
      have e3 : u64F (z.natAbs / 6277101735386680763835789423207666416102355444464034512896 % 18446744073709551616) = .int .u64 (z / 6277101735386680763835789423207666416102355444464034512896 % 18446744073709551616) := congrArg (F.int .u64) (by omega)
      have e2 : u64F (z.natAbs / 340282366920938463463374607431768211456 % 18446744073709551616) = .int .u64 (z / 340282366920938463463374607431768211456 % 18446744073709551616) := congrArg (F.int .u64) (by omega)
      have e1 : u64F (z.natAbs / 18446744073709551616 % 18446744073709551616) = .int .u64 (z / 18446744073709551616 % 18446744073709551616) := congrArg (F.int .u64) (by omega)
      have e0 : u64F (z.natAbs % 18446744073709551616) = .int .u64 (z % 18446744073709551616) := congrArg (F.int .u64) (by omega)
      rw [e0, e1, e2, e3]
      simp only [wideF, wd3, wd2, wd1, wd0, ht, cond_true]
def resWideZ : List F → F | [x] => .tup [wideF (unL1n x), .bool (isWide (unL1n x))] | _ => .dflt
theorem okWideZ : PureOK Try.prog 71 (preL1 800) resWideZ :=
  fn_pure_at (c := bodyOf Try.f71) Try.func71 (by kernel_rfl) (by kernel_rfl) fun xs hp => match xs, hp with
  | [x], hp => ⟨[l1nF (unL1n x)], _, ⟨(l1n_eqv hp).1, trivial⟩, t71 100 _ _ (wideZ_law (natAbs_of_isL1n hp)), .refl _⟩
def envS6 : Env := envS5.add 71 (.pure (preL1 800) resWideZ)
theorem envS6_ok : EnvOK Try.prog envS6 := Env.add_ok envS5_ok okWideZ.sp
end
end Go.Proofs.Ytmambbfnjbdfgaa.R

namespace Go.Proofs.Ytmambbfnjbdfgaa.R
open Go
noncomputable section
set_option linter.unusedVariables false
set_option linter.unusedSimpArgs false
set_option maxRecDepth 100000
def nU (px py : Int) (s : Sg) : Int := nearU s.x0 s.y0 s.x1 s.y1 px py
def nD (px py : Int) (s : Sg) : Int := nearD s.x0 s.y0 s.x1 s.y1 px py
theorem sq_nonneg (a : Int) : 0 ≤ a * a := by
  rcases Int.le_total 0 a with h | h
  · exact Int.mul_nonneg h h
  · exact Int.mul_nonneg_of_nonpos_of_nonpos h h
theorem long_nonneg (a b c d : Int) : 0 ≤ longZ a b c d := by
  unfold longZ
  have h1 := sq_nonneg (c - a)
  have h2 := sq_nonneg (d - b)
  omega
theorem long_bound {a b c d : Int} (h1 : spotIn a b) (h2 : spotIn c d) : longZ a b c d ≤ 8000000000000 := by
  unfold spotIn at h1 h2
  exact (dotW (a := c - a) (b := c - a) (c := d - b) (d := d - b) (by omega) (by omega) (by omega) (by omega)).2.2
theorem near_bounds {x0 y0 x1 y1 px py : Int} (h0 : spotIn x0 y0) (h1 : spotIn x1 y1) (h2 : spotIn px py) :
    0 ≤ nearU x0 y0 x1 y1 px py ∧ (nearU x0 y0 x1 y1 px py).natAbs < 18446744073709551616 ^ 2 ∧ 0 < nearD x0 y0 x1 y1 px py ∧ nearD x0 y0 x1 y1 px py ≤ 8000000000000 := by
  obtain ⟨_, c2, c3⟩ := crossW_eq h0 h1 h2
  have b1 := long_bound h0 h1
  have b2 := long_bound h1 h2
  have b3 := long_bound h0 h2
  have n2 := long_nonneg x1 y1 px py
  have n3 := long_nonneg x0 y0 px py
  unfold nearU nearD
  by_cases hc : 0 < alongZ x0 y0 x1 y1 px py ∧ alongZ x0 y0 x1 y1 px py < longZ x0 y0 x1 y1
  · rw [if_pos hc, if_pos hc]
    refine ⟨sq_nonneg _, ?_, by omega, by omega⟩
    have hb : (crossZ x0 y0 x1 y1 px py).natAbs < 18446744073709551616 ^ 1 := by rw [Nat.pow_one]; omega
    exact mul_bound hb hb
  · rw [if_neg hc, if_neg hc]
    split
    · exact ⟨n2, by omega, by omega, by omega⟩
    · exact ⟨n3, by omega, by omega, by omega⟩
def nearGo (px py : Int) : List Sg → Int → Int × Int × Int → Int × Int × Int
  | [], _, s => s
  | g :: r, i, (b, u, d) => nearGo px py r (i + 1) (if nU px py g * d - u * nD px py g < 0 then (i, nU px py g, nD px py g) else (b, u, d))
def nearAll (px py : Int) : List Sg → Int × Int × Int
  | [] => (0, 0, 1)
  | g :: r => nearGo px py r 1 (0, nU px py g, nD px py g)
def sgIn (s : Sg) : Prop := spotIn s.x0 s.y0 ∧ spotIn s.x1 s.y1
theorem sgOk_in {s : Sg} (h : sgOk s = true) : sgIn s := by
  unfold sgOk segOkV at h
  simp only [Bool.and_eq_true] at h
  exact ⟨spotOk_iff.1 h.1, spotOk_iff.1 h.2.1⟩
/-! ### function 36 -/
def S36_3z (l : List Sg) (px : Int) (py : Int) (n : Int) (i : Int) : St := ⟨[.bad, .bad, .bad, (U.hp 0 0), .bad, (U.hp 1 0), (U.f (F.int .i64 (-1))), (U.hp 2 0), .bad, .bad, .bad, .bad, (U.f (segsF l)), (U.f (F.int .i64 n)), (U.f (F.int .i64 i)), .bad, .bad, .bad, .bad, .bad, .bad, .bad, .bad, .bad, .bad, .bad, .bad, .bad, .bad, .bad, .bad, .bad, .bad, .bad, .bad], [HO.box [(U.f (F.int .i64 px)), (U.f (F.int .i64 py))], HO.box [(U.f (F.bool false)), U.nils, (U.f (F.bool false)), U.nils], HO.box [(U.f (F.bool false)), U.nils, (U.f (F.bool false)), U.nils]]⟩
def S36_3 (l : List Sg) (px : Int) (py : Int) (b : Int) (u : Int) (d : Int) (n : Int) (i : Int) : St := ⟨[.bad, .bad, .bad, (U.hp 0 0), .bad, (U.hp 1 0), (U.f (F.int .i64 b)), (U.hp 2 0), .bad, .bad, .bad, .bad, (U.f (segsF l)), (U.f (F.int .i64 n)), (U.f (F.int .i64 i)), .bad, .bad, .bad, .bad, .bad, .bad, .bad, .bad, .bad, .bad, .bad, .bad, .bad, .bad, .bad, .bad, .bad, .bad, .bad, .bad], [HO.box [(U.f (F.int .i64 px)), (U.f (F.int .i64 py))], HO.box [(U.f (F.bool false)), U.nils, (U.f (F.bool false)), U.nils], HO.box [(U.f (F.bool (decide (u < 0)))), (U.f (wordsF (digs 18446744073709551616 u.natAbs))), (U.f (F.bool (decide (d < 0)))), (U.f (wordsF (digs 18446744073709551616 d.natAbs)))]]⟩
def T36_3z {ρ : Type} (ret : (Int) → (F) → Option ρ) (c3z : (List Sg) → (Int) → (Int) → (Int) → (Int) → Option ρ) (c3 : (List Sg) → (Int) → (Int) → (Int) → (Int) → (Int) → (Int) → (Int) → Option ρ) (l : List Sg) (px : Int) (py : Int) (n : Int) (i : Int) : Option ρ :=
 (bsel (decide (i < n))
 (bsel (decide (0 ≤ i))
 (bsel (decide (i < (↑l.length : Int)))
 (bsel (isNearArg (l.getD i.toNat Sg.zero).x0 (l.getD i.toNat Sg.zero).y0 (l.getD i.toNat Sg.zero).x1 (l.getD i.toNat Sg.zero).y1 px py)
 (c3 (l) (px) (py) (i) (nearU (l.getD i.toNat Sg.zero).x0 (l.getD i.toNat Sg.zero).y0 (l.getD i.toNat Sg.zero).x1 (l.getD i.toNat Sg.zero).y1 px py) (nearD (l.getD i.toNat Sg.zero).x0 (l.getD i.toNat Sg.zero).y0 (l.getD i.toNat Sg.zero).x1 (l.getD i.toNat Sg.zero).y1 px py) (n) (IntKind.i64.wrap (i + 1)))
 none)
 none)
 none)
 (ret (-1) (F.agg [F.bool false, F.sl 0 fun x ↦ F.bool false, F.bool false, F.sl 0 fun x ↦ F.bool false])))
def T36_3 {ρ : Type} (ret : (Int) → (F) → Option ρ) (c3z : (List Sg) → (Int) → (Int) → (Int) → (Int) → Option ρ) (c3 : (List Sg) → (Int) → (Int) → (Int) → (Int) → (Int) → (Int) → (Int) → Option ρ) (l : List Sg) (px : Int) (py : Int) (b : Int) (u : Int) (d : Int) (n : Int) (i : Int) : Option ρ :=
 (bsel (decide (i < n))
 (bsel (decide (0 ≤ i))
 (bsel (decide (i < (↑l.length : Int)))
 (bsel (isNearArg (l.getD i.toNat Sg.zero).x0 (l.getD i.toNat Sg.zero).y0 (l.getD i.toNat Sg.zero).x1 (l.getD i.toNat Sg.zero).y1 px py)
 (bsel (decide (b < 0) == false)
 (bsel (isRat 180 (ratF (nearU (l.getD i.toNat Sg.zero).x0 (l.getD i.toNat Sg.zero).y0 (l.getD i.toNat Sg.zero).x1 (l.getD i.toNat Sg.zero).y1 px py) (nearD (l.getD i.toNat Sg.zero).x0 (l.getD i.toNat Sg.zero).y0 (l.getD i.toNat Sg.zero).x1 (l.getD i.toNat Sg.zero).y1 px py)) && isRat 180 (ratF u d))
 (bsel (decide ((unUp (ratF (nearU (l.getD i.toNat Sg.zero).x0 (l.getD i.toNat Sg.zero).y0 (l.getD i.toNat Sg.zero).x1 (l.getD i.toNat Sg.zero).y1 px py) (nearD (l.getD i.toNat Sg.zero).x0 (l.getD i.toNat Sg.zero).y0 (l.getD i.toNat Sg.zero).x1 (l.getD i.toNat Sg.zero).y1 px py)) * unDown (ratF u d) - unUp (ratF u d) * unDown (ratF (nearU (l.getD i.toNat Sg.zero).x0 (l.getD i.toNat Sg.zero).y0 (l.getD i.toNat Sg.zero).x1 (l.getD i.toNat Sg.zero).y1 px py) (nearD (l.getD i.toNat Sg.zero).x0 (l.getD i.toNat Sg.zero).y0 (l.getD i.toNat Sg.zero).x1 (l.getD i.toNat Sg.zero).y1 px py))).sign < 0))
 (c3 (l) (px) (py) (i) (nearU (l.getD i.toNat Sg.zero).x0 (l.getD i.toNat Sg.zero).y0 (l.getD i.toNat Sg.zero).x1 (l.getD i.toNat Sg.zero).y1 px py) (nearD (l.getD i.toNat Sg.zero).x0 (l.getD i.toNat Sg.zero).y0 (l.getD i.toNat Sg.zero).x1 (l.getD i.toNat Sg.zero).y1 px py) (n) (IntKind.i64.wrap (i + 1)))
 (c3 (l) (px) (py) (b) (u) (d) (n) (IntKind.i64.wrap (i + 1))))
 none)
 (c3 (l) (px) (py) (i) (nearU (l.getD i.toNat Sg.zero).x0 (l.getD i.toNat Sg.zero).y0 (l.getD i.toNat Sg.zero).x1 (l.getD i.toNat Sg.zero).y1 px py) (nearD (l.getD i.toNat Sg.zero).x0 (l.getD i.toNat Sg.zero).y0 (l.getD i.toNat Sg.zero).x1 (l.getD i.toNat Sg.zero).y1 px py) (n) (IntKind.i64.wrap (i + 1))))
 none)
 none)
 none)
 (ret (b) (ratF u d)))
mutual
def L36_3z : Nat → (List Sg) → (Int) → (Int) → (Int) → (Int) → Option ((Int) × (F))
  | 0, _, _, _, _, _ => none
  | k + 1, l, px, py, n, i => T36_3z (fun bi r => some (bi, r)) (L36_3z k) (L36_3 k) l px py n i
def L36_3 : Nat → (List Sg) → (Int) → (Int) → (Int) → (Int) → (Int) → (Int) → (Int) → Option ((Int) × (F))
  | 0, _, _, _, _, _, _, _, _ => none
  | k + 1, l, px, py, b, u, d, n, i => T36_3 (fun bi r => some (bi, r)) (L36_3z k) (L36_3 k) l px py b u d n i
end
def T36 {ρ : Type} (ret : (Int) → (F) → Option ρ) (c3z : (List Sg) → (Int) → (Int) → (Int) → (Int) → Option ρ) (c3 : (List Sg) → (Int) → (Int) → (Int) → (Int) → (Int) → (Int) → (Int) → Option ρ) (l : List Sg) (px : Int) (py : Int) : Option ρ :=
 (c3z (l) (px) (py) ((↑l.length : Int)) (0))
def G36 (k : Nat) (l : List Sg) (px : Int) (py : Int) : Option ((Int) × (F)) := T36 (fun bi r => some (bi, r)) (L36_3z k) (L36_3 k) l px py
mutual
theorem t36_3z : ∀ (k : Nat) (l : List Sg) (px : Int) (py : Int) (n : Int) (i : Int) (bi : Int) (r : F), L36_3z k l px py n i = some (bi, r) → Ends Try.prog Try.f36.results.toList (at_ Try.f36 3) (S36_3z l px py n i) (F.tup [F.int .i64 bi, r])
  | 0, _, _, _, _, _, _, _, h => nomatch h
  | k + 1, l, px, py, n, i, bi, r, h => by
    refine Ends.of_cut tyOK envN18_ok (T := [(3, [3, 5, 6, 7, 12, 13, 14], 1000)]) (n := 200) ?_
    have e : runCut Try.prog (tiOf Try.prog) envN18 [(3, [3, 5, 6, 7, 12, 13, 14], 1000)] 0 Try.f36.results.toList some 200 (at_ Try.f36 3) (S36_3z l px py n i) = T36_3z (fun bi r => some (.ret (F.tup [F.int .i64 bi, r]))) (fun l px py n i => some (.cut (at_ Try.f36 3) (S36_3z l px py n i))) (fun l px py b u d n i => some (.cut (at_ Try.f36 3) (S36_3 l px py b u d n i))) l px py n i := by kernel_rfl
    rw [e]
    exact (good_sel h (fun _ h => (good_sel h (fun _ h => (good_sel h (fun _ h => (good_sel h (fun _ h => good_cut (t36_3 k _ _ _ _ _ _ _ _ bi r h)) (fun _ h => nomatch h))) (fun _ h => nomatch h))) (fun _ h => nomatch h))) (fun _ h => good_ret (by cases h; rfl)))
theorem t36_3 : ∀ (k : Nat) (l : List Sg) (px : Int) (py : Int) (b : Int) (u : Int) (d : Int) (n : Int) (i : Int) (bi : Int) (r : F), L36_3 k l px py b u d n i = some (bi, r) → Ends Try.prog Try.f36.results.toList (at_ Try.f36 3) (S36_3 l px py b u d n i) (F.tup [F.int .i64 bi, r])
  | 0, _, _, _, _, _, _, _, _, _, _, h => nomatch h
  | k + 1, l, px, py, b, u, d, n, i, bi, r, h => by
    refine Ends.of_cut tyOK envN18_ok (T := [(3, [3, 5, 6, 7, 12, 13, 14], 1000)]) (n := 200) ?_
    have e : runCut Try.prog (tiOf Try.prog) envN18 [(3, [3, 5, 6, 7, 12, 13, 14], 1000)] 0 Try.f36.results.toList some 200 (at_ Try.f36 3) (S36_3 l px py b u d n i) = T36_3 (fun bi r => some (.ret (F.tup [F.int .i64 bi, r]))) (fun l px py n i => some (.cut (at_ Try.f36 3) (S36_3z l px py n i))) (fun l px py b u d n i => some (.cut (at_ Try.f36 3) (S36_3 l px py b u d n i))) l px py b u d n i := by kernel_rfl
    rw [e]
    exact (good_sel h (fun _ h => (good_sel h (fun _ h => (good_sel h (fun _ h => (good_sel h (fun _ h => (good_sel h (fun _ h => (good_sel h (fun _ h => (good_sel h (fun _ h => good_cut (t36_3 k _ _ _ _ _ _ _ _ bi r h)) (fun _ h => good_cut (t36_3 k _ _ _ _ _ _ _ _ bi r h)))) (fun _ h => nomatch h))) (fun _ h => good_cut (t36_3 k _ _ _ _ _ _ _ _ bi r h)))) (fun _ h => nomatch h))) (fun _ h => nomatch h))) (fun _ h => nomatch h))) (fun _ h => good_ret (by cases h; rfl)))
end
theorem t36 (k : Nat) (l : List Sg) (px : Int) (py : Int) (bi : Int) (r : F) (h : G36 k l px py = some (bi, r)) : Ends Try.prog Try.f36.results.toList [.code (bodyOf Try.f36)] (start Try.f36.ntmps ([segsF l, F.agg [F.int .i64 px, F.int .i64 py]].map .f)) (F.tup [F.int .i64 bi, r]) := by
  refine Ends.of_run tyOK envN18_ok (T := [(3, [3, 5, 6, 7, 12, 13, 14], 1000)]) (n := 200) ?_
  have e : run Try.prog (tiOf Try.prog) envN18 [(3, [3, 5, 6, 7, 12, 13, 14], 1000)] 0 Try.f36.results.toList some 200 [.code (bodyOf Try.f36)] (start Try.f36.ntmps ([segsF l, F.agg [F.int .i64 px, F.int .i64 py]].map .f)) = T36 (fun bi r => some (.ret (F.tup [F.int .i64 bi, r]))) (fun l px py n i => some (.cut (at_ Try.f36 3) (S36_3z l px py n i))) (fun l px py b u d n i => some (.cut (at_ Try.f36 3) (S36_3 l px py b u d n i))) l px py := by kernel_rfl
  rw [e]
  exact good_cut (t36_3z k _ _ _ _ _ bi r h)
theorem drop_consS {a : List Sg} {x : Sg} {rest : List Sg} {i : Nat} (h : a.drop i = x :: rest) : a.getD i Sg.zero = x ∧ a.drop (i + 1) = rest ∧ i < a.length := by
  have hi : i < a.length := by
    rcases Nat.lt_or_ge i a.length with h1 | h1
    · exact h1
    · rw [List.drop_eq_nil_of_le h1] at h; cases h
  rw [List.drop_eq_getElem_cons hi] at h
  injection h with h1 h2
  exact ⟨by simp [List.getD, List.getElem?_eq_getElem hi, h1], h2, hi⟩
structure NearOk (s : Int × Int × Int) : Prop where
  idx : 0 ≤ s.1
  up0 : 0 ≤ s.2.1
  up : s.2.1.natAbs < 18446744073709551616 ^ 2
  down : 0 < s.2.2 ∧ s.2.2 ≤ 8000000000000
theorem nearOk_of {px py : Int} {g : Sg} (hg : sgIn g) (hp : spotIn px py) {i : Int} (hi : 0 ≤ i) : NearOk (i, nU px py g, nD px py g) := by
  obtain ⟨h1, h2, h3, h4⟩ := near_bounds hg.1 hg.2 hp
  exact ⟨hi, h1, h2, h3, h4⟩
theorem isRat_near {u d : Int} (hu : u.natAbs < 18446744073709551616 ^ 2) (hd : 0 < d ∧ d ≤ 8000000000000) : isRat 180 (ratF u d) = true :=
  isRat_ratF (bound_up hu (by omega)) (bound_up (n := 1) (by rw [Nat.pow_one]; omega) (by omega))
theorem nearest_loop {l : List Sg} {px py : Int} (hl : l.length ≤ 1000) (hin : ∀ s ∈ l, sgIn s) (hp : spotIn px py) : ∀ (rest : List Sg) (i k : Nat) (s : Int × Int × Int), l.drop i = rest → i + rest.length = l.length → NearOk s → rest.length < k →
    L36_3 k l px py s.1 s.2.1 s.2.2 l.length i = some ((nearGo px py rest i s).1, ratF (nearGo px py rest i s).2.1 (nearGo px py rest i s).2.2)
  | _, _, 0, _, _, _, _, h => by omega
  | [], i, k + 1, (b, u, d), hr, hi, hs, hk => by
    simp only [List.length_nil, Nat.add_zero] at hi
    subst hi
    rw [L36_3]
    unfold T36_3
    rw [decide_eq_false (by omega), bsel_false]
    rfl
  | g :: rest, i, k + 1, (b, u, d), hr, hi, hs, hk => by
    obtain ⟨hx, hr', hlt⟩ := drop_consS hr
    have hg : sgIn g := hin g (by rw [← hx]; simp [List.getD, List.getElem?_eq_getElem hlt])
    have hn := nearOk_of hg hp (show (0 : Int) ≤ (i : Int) by omega)
    have hk' : rest.length < k := by simp at hk; omega
    have hi' : i + 1 + rest.length = l.length := by simp only [List.length_cons] at hi; omega
    rw [L36_3]
    unfold T36_3
    rw [Int.toNat_natCast, hx]
    rw [show nearU g.x0 g.y0 g.x1 g.y1 px py = nU px py g from rfl, show nearD g.x0 g.y0 g.x1 g.y1 px py = nD px py g from rfl]
    rw [isNearArg_iff.2 ⟨hg.1, hg.2, hp⟩, isRat_near hn.up hn.down, isRat_near hs.up hs.down, unUp_ratF, unUp_ratF, unDown_ratF, unDown_ratF]
    rw [decide_eq_true (show (i : Int) < l.length by omega), decide_eq_true (show (0 : Int) ≤ i by omega), decide_eq_false (show ¬ b < 0 by have := hs.idx; simp at this; omega), show (false == false) = true from rfl, Bool.and_self, wrapI (by omega) (by omega), show (i : Int) + 1 = ((i + 1 : Nat) : Int) by omega]
    simp only [bsel_true, nearGo]
    by_cases hc : nU px py g * d - u * nD px py g < 0
    · rw [decide_eq_true (show (nU px py g * d - u * nD px py g).sign < 0 by rw [Int.sign_eq_neg_one_of_neg hc]; omega), bsel_true, if_pos hc]
      exact nearest_loop hl hin hp rest (i + 1) k (i, nU px py g, nD px py g) hr' hi' hn hk'
    · have : ¬ (nU px py g * d - u * nD px py g).sign < 0 := by
        rw [Int.sign_neg_iff]; exact hc
      rw [decide_eq_false this, bsel_false, if_neg hc]
      exact nearest_loop hl hin hp rest (i + 1) k (b, u, d) hr' hi' hs hk'
theorem nearest_law {l : List Sg} {px py : Int} (h0 : l ≠ []) (hl : l.length ≤ 1000) (hin : ∀ s ∈ l, sgIn s) (hp : spotIn px py) :
    G36 2000 l px py = some ((nearAll px py l).1, ratF (nearAll px py l).2.1 (nearAll px py l).2.2) := by
  cases l with
  | nil => exact absurd rfl h0
  | cons g rest =>
    have hg : sgIn g := hin g (by simp)
    have hn := nearOk_of (px := px) (py := py) hg hp (show (0 : Int) ≤ 0 by omega)
    unfold G36 T36
    rw [L36_3z]
    unfold T36_3z
    rw [show (0 : Int).toNat = 0 from rfl, List.getD_cons_zero]
    rw [isNearArg_iff.2 ⟨hg.1, hg.2, hp⟩, decide_eq_true (show (0 : Int) < (g :: rest).length by simp), decide_eq_true (show (0 : Int) ≤ 0 by omega), wrapI (by omega) (by omega)]
    simp only [bsel_true]
    exact nearest_loop hl hin hp rest 1 1999 (0, nU px py g, nD px py g) rfl (by simp; omega) hn (by simp at hl; omega)
def isNearest (l : List Sg) (px py : Int) : Bool := segsOkV l && (spotOkV px py && !(Nat.beq l.length 0))
theorem isNearest_iff {l : List Sg} {px py : Int} (h : isNearest l px py = true) : l ≠ [] ∧ l.length ≤ 40 ∧ (∀ s ∈ l, sgIn s) ∧ spotIn px py := by
  simp only [isNearest, Bool.and_eq_true, Bool.not_eq_true'] at h
  obtain ⟨h1, h2, h3⟩ := h
  obtain ⟨k1, k2⟩ := segsOk_iff.1 h1
  exact ⟨fun e => (by subst e; cases h3), k1, fun s hs => sgOk_in (k2 s hs), spotOk_iff.1 h2⟩
def preNearest : List F → Bool | [x, .agg [.int .i64 a, .int .i64 b]] => isSegs x && isNearest (unSegs x) a b | _ => false
def resNearest : List F → F | [x, .agg [.int .i64 a, .int .i64 b]] => .tup [.int .i64 (nearAll a b (unSegs x)).1, ratF (nearAll a b (unSegs x)).2.1 (nearAll a b (unSegs x)).2.2] | _ => .dflt
theorem okNearest : PureOK Try.prog 36 preNearest resNearest :=
  fn_pure_at (c := bodyOf Try.f36) Try.func36 (by kernel_rfl) (by kernel_rfl) fun xs hp => match xs, hp with
  | [x, .agg [.int .i64 a, .int .i64 b]], hp => by
    simp only [preNearest, Bool.and_eq_true] at hp
    obtain ⟨h1, h2, h3, h4⟩ := isNearest_iff hp.2
    exact ⟨[segsF (unSegs x), _], _, ⟨(segs_eqv hp.1).1, .refl _, trivial⟩, t36 2000 _ _ _ _ _ (nearest_law h1 (by omega) h3 h4), .refl _⟩
theorem nearGo_ok {px py : Int} (hp : spotIn px py) : ∀ (l : List Sg) (i : Int) (s : Int × Int × Int), (∀ g ∈ l, sgIn g) → 0 ≤ i → NearOk s → NearOk (nearGo px py l i s)
  | [], _, _, _, _, hs => hs
  | g :: l, i, (b, u, d), hin, hi, hs => by
    simp only [nearGo]
    refine nearGo_ok hp l (i + 1) _ (fun g hg => hin g (by simp [hg])) (by omega) ?_
    split
    · exact nearOk_of (hin g (by simp)) hp hi
    · exact hs
theorem nearAll_ok {px py : Int} (hp : spotIn px py) {l : List Sg} (h0 : l ≠ []) (hin : ∀ g ∈ l, sgIn g) : NearOk (nearAll px py l) := by
  cases l with
  | nil => exact absurd rfl h0
  | cons g r => exact nearGo_ok hp r 1 _ (fun g hg => hin g (by simp [hg])) (by omega) (nearOk_of (hin g (by simp)) hp (by omega))
/-! ### function 37 -/
def T37 {ρ : Type} (ret : (F) → Option ρ) (u : Int) (d : Int) : Option ρ :=
 (bsel (isNum 400 (numF d))
 (bsel ((unNum (numF d)).sign == 0)
 (ret (F.tup [F.agg [F.int .u64 0, F.int .u64 0, F.int .u64 0, F.int .u64 0, F.int .u64 0, F.int .u64 0, F.int .u64 0, F.int .u64 0], F.bool false]))
 (bsel (isRat 180 (ratF u d) && isLow (unUp (ratF u d)) (unDown (ratF u d)))
 (bsel (isNum 399 (numF (unUp (ratF u d) / gcdI (unUp (ratF u d)) (unDown (ratF u d)))))
 (bsel (isNum 399 (numF (unDown (ratF u d) / gcdI (unUp (ratF u d)) (unDown (ratF u d)))))
 (bsel ((!isWide (unNum (numF (unUp (ratF u d) / gcdI (unUp (ratF u d)) (unDown (ratF u d)))))) == false)
 (bsel (!isWide (unNum (numF (unDown (ratF u d) / gcdI (unUp (ratF u d)) (unDown (ratF u d))))))
 (ret (F.tup [F.agg [F.int .u64 0, F.int .u64 0, F.int .u64 0, F.int .u64 0, F.int .u64 0, F.int .u64 0, F.int .u64 0, F.int .u64 0], F.bool false]))
 (ret (F.tup [F.agg [F.int .u64 (wd3 (unNum (numF (unUp (ratF u d) / gcdI (unUp (ratF u d)) (unDown (ratF u d)))))), F.int .u64 (wd2 (unNum (numF (unUp (ratF u d) / gcdI (unUp (ratF u d)) (unDown (ratF u d)))))), F.int .u64 (wd1 (unNum (numF (unUp (ratF u d) / gcdI (unUp (ratF u d)) (unDown (ratF u d)))))), F.int .u64 (wd0 (unNum (numF (unUp (ratF u d) / gcdI (unUp (ratF u d)) (unDown (ratF u d)))))), F.int .u64 (wd3 (unNum (numF (unDown (ratF u d) / gcdI (unUp (ratF u d)) (unDown (ratF u d)))))), F.int .u64 (wd2 (unNum (numF (unDown (ratF u d) / gcdI (unUp (ratF u d)) (unDown (ratF u d)))))), F.int .u64 (wd1 (unNum (numF (unDown (ratF u d) / gcdI (unUp (ratF u d)) (unDown (ratF u d)))))), F.int .u64 (wd0 (unNum (numF (unDown (ratF u d) / gcdI (unUp (ratF u d)) (unDown (ratF u d))))))], F.bool true])))
 (ret (F.tup [F.agg [F.int .u64 0, F.int .u64 0, F.int .u64 0, F.int .u64 0, F.int .u64 0, F.int .u64 0, F.int .u64 0, F.int .u64 0], F.bool false])))
 none)
 none)
 none))
 none)
def G37 (u : Int) (d : Int) : Option (F) := T37 some u d
theorem t37 (u : Int) (d : Int) (r : F) (h : G37 u d = some r) : Ends Try.prog Try.f37.results.toList [.code (bodyOf Try.f37)] (start Try.f37.ntmps ([ratF u d].map .f)) (r) := by
  refine Ends.of_run tyOK envN18_ok (T := []) (n := 200) ?_
  have e : run Try.prog (tiOf Try.prog) envN18 [] 0 Try.f37.results.toList some 200 [.code (bodyOf Try.f37)] (start Try.f37.ntmps ([ratF u d].map .f)) = T37 (fun r => some (.ret (r))) u d := by kernel_rfl
  rw [e]
  exact (good_sel h (fun _ h => (good_sel h (fun _ h => good_ret (by cases h; rfl)) (fun _ h => (good_sel h (fun _ h => (good_sel h (fun _ h => (good_sel h (fun _ h => (good_sel h (fun _ h => (good_sel h (fun _ h => good_ret (by cases h; rfl)) (fun _ h => good_ret (by cases h; rfl)))) (fun _ h => good_ret (by cases h; rfl)))) (fun _ h => nomatch h))) (fun _ h => nomatch h))) (fun _ h => nomatch h))))) (fun _ h => nomatch h))
def okT (u d : Int) : Bool := isWide u && isWide d
def toldF (u d : Int) : F := .agg [.int .u64 (bif okT u d then wd3 u else 0), .int .u64 (bif okT u d then wd2 u else 0), .int .u64 (bif okT u d then wd1 u else 0), .int .u64 (bif okT u d then wd0 u else 0),
  .int .u64 (bif okT u d then wd3 d else 0), .int .u64 (bif okT u d then wd2 d else 0), .int .u64 (bif okT u d then wd1 d else 0), .int .u64 (bif okT u d then wd0 d else 0)]
theorem told_law {u d : Int} (hu : u.natAbs < 18446744073709551616 ^ 180) (hd : 0 < d) (hd2 : d < 18446744073709551616) : G37 u d = some (.tup [toldF (u / gcdI u d) (d / gcdI u d), .bool (okT (u / gcdI u d) (d / gcdI u d))]) := by
  have hdB : d.natAbs < 18446744073709551616 ^ 1 := by rw [Nat.pow_one]; omega
  obtain ⟨g1, g2⟩ := gcdI_pos (u := u) hd
  have q : ∀ x : Int, (x / gcdI u d).natAbs ≤ x.natAbs := fun x => by
    rcases Int.le_total 0 x with hx | hx
    · have h1 := Int.ediv_nonneg hx (show 0 ≤ gcdI u d by omega)
      have h2 := Int.ediv_le_self (gcdI u d) hx
      omega
    · exact Int.natAbs_ediv_le_natAbs x (gcdI u d)
  have e1 : isNum 400 (numF d) = true := isNum_numF (bound_up hdB (by omega))
  have e2 : isRat 180 (ratF u d) = true := isRat_ratF hu (bound_up hdB (by omega))
  have e3 : isLow u d = true := isLow_iff.2 ⟨hd, hd2⟩
  have e4 : isNum 399 (numF (u / gcdI u d)) = true := isNum_numF (bound_up (n := 180) (Nat.lt_of_le_of_lt (q u) hu) (by omega))
  have e5 : isNum 399 (numF (d / gcdI u d)) = true := isNum_numF (bound_up (n := 1) (Nat.lt_of_le_of_lt (q d) hdB) (by omega))
  have e6 : (d.sign == 0) = false := by rw [Int.sign_eq_one_of_pos hd]; rfl
  unfold G37 T37
  simp only [e1, e2, e3, e4, e5, e6, unUp_ratF, unDown_ratF, unNum_numF, Bool.and_self, bsel_true, bsel_false]
  unfold toldF okT
  cases h1 : isWide (u / gcdI u d) <;> cases h2 : isWide (d / gcdI u d) <;> rfl
def resTold : List F → F | [x] => .tup [toldF (unUp x / gcdI (unUp x) (unDown x)) (unDown x / gcdI (unUp x) (unDown x)), .bool (okT (unUp x / gcdI (unUp x) (unDown x)) (unDown x / gcdI (unUp x) (unDown x)))] | _ => .dflt
theorem okTold : PureOK Try.prog 37 preLow resTold :=
  fn_pure_at (c := bodyOf Try.f37) Try.func37 (by kernel_rfl) (by kernel_rfl) fun xs hp => match xs, hp with
  | [x], hp => by
    simp only [preLow, Bool.and_eq_true] at hp
    obtain ⟨h1, h2⟩ := isLow_iff.1 hp.2
    exact ⟨[ratF (unUp x) (unDown x)], _, ⟨(rat_eqv hp.1).1, trivial⟩, t37 _ _ _ (told_law (rat_bound hp.1).1 h1 h2), .refl _⟩
def envN19 : Env := (envN18.add 36 (.pure preNearest resNearest)).add 37 (.pure preLow resTold)
theorem envN19_ok : EnvOK Try.prog envN19 := Env.add_ok (Env.add_ok envN18_ok okNearest.sp) okTold.sp
end
end Go.Proofs.Ytmambbfnjbdfgaa.R

namespace Go.Proofs.Ytmambbfnjbdfgaa.R
open Go
noncomputable section
set_option linter.unusedVariables false
set_option linter.unusedSimpArgs false
set_option maxRecDepth 100000
def isL2r (n : Nat) : F → Bool | .agg [a, b, c, d] => isL1n n (.agg [a, b]) && isL1n n (.agg [c, d]) | _ => false
def unUp3 : F → Int | .agg [a, b, _, _] => unL1n (.agg [a, b]) | _ => 0
def unDown3 : F → Int | .agg [_, _, c, d] => unL1n (.agg [c, d]) | _ => 0
theorem unUp3_l2rF (u d : Int) : unUp3 (l2rF u d) = u := unL1n_l1nF u
theorem unDown3_l2rF (u d : Int) : unDown3 (l2rF u d) = d := unL1n_l1nF d
theorem isL2r_l2rF {n : Nat} {u d : Int} (hu : u.natAbs < 4294967296 ^ n) (hd : d.natAbs < 4294967296 ^ n) : isL2r n (l2rF u d) = true := by
  have h1 := isL1n_l1nF hu
  have h2 := isL1n_l1nF hd
  unfold l1nF at h1 h2
  simp only [isL2r, l2rF, h1, h2, Bool.and_self]
theorem l2r_eqv {n : Nat} {x : F} (h : isL2r n x = true) : FLe x (l2rF (unUp3 x) (unDown3 x)) ∧ FLe (l2rF (unUp3 x) (unDown3 x)) x := by
  unfold isL2r at h
  split at h
  · rename_i a b c d
    rw [Bool.and_eq_true] at h
    obtain ⟨s, y, e1, hy, f1⟩ := l1n_form h.1
    obtain ⟨t, z, e2, hz, f2⟩ := l1n_form h.2
    cases e1; cases e2
    have g : l2rF (unUp3 (.agg [.bool s, b, .bool t, d])) (unDown3 (.agg [.bool s, b, .bool t, d])) = .agg [.bool s, halvesF (unHalves b), .bool t, halvesF (unHalves d)] := by
      unfold l1nF at f1 f2
      injection f1 with f1
      injection f2 with f2
      simp only [List.cons.injEq, and_true] at f1 f2
      show F.agg [_, _, _, _] = _
      rw [show unUp3 (.agg [.bool s, b, .bool t, d]) = unL1n (.agg [.bool s, b]) from rfl, show unDown3 (.agg [.bool s, b, .bool t, d]) = unL1n (.agg [.bool t, d]) from rfl, f1.1, f1.2, f2.1, f2.2]
    rw [g]
    exact ⟨FLe.agg ⟨.refl _, (halves_eqv hy).1, .refl _, (halves_eqv hz).1, trivial⟩, FLe.agg ⟨.refl _, (halves_eqv hy).2, .refl _, (halves_eqv hz).2, trivial⟩⟩
  · cases h
theorem l2r_bound {n : Nat} {x : F} (h : isL2r n x = true) : (unUp3 x).natAbs < 4294967296 ^ n ∧ (unDown3 x).natAbs < 4294967296 ^ n := by
  unfold isL2r at h
  split at h
  · rw [Bool.and_eq_true] at h
    exact ⟨natAbs_of_isL1n h.1, natAbs_of_isL1n h.2⟩
  · cases h
/-! ### function 68 -/
def T68 {ρ : Type} (ret : (F) → Option ρ) (u : Int) (d : Int) : Option ρ :=
 (bsel (decide (d < 0))
 (bsel (isL1n 800 (l1nF u))
 (bsel (isL1n 800 (l1nF d))
 (bsel (isL1n 699 (l1nF (-unL1n (l1nF u))) && isL1n 699 (l1nF (-unL1n (l1nF d))))
 (bsel (isL1n 800 (l1nF (gcdI (unL1n (l1nF (-unL1n (l1nF u)))) (unL1n (l1nF (-unL1n (l1nF d)))))) && true)
 (bsel ((unL1n (l1nF (gcdI (unL1n (l1nF (-unL1n (l1nF u)))) (unL1n (l1nF (-unL1n (l1nF d)))))) - unL1n (resInt3 [F.int .i64 1])).sign != 0)
 (bsel (isL1n 699 (l1nF (-unL1n (l1nF u))) && isL1n 699 (l1nF (gcdI (unL1n (l1nF (-unL1n (l1nF u)))) (unL1n (l1nF (-unL1n (l1nF d)))))) && isDivZ (unL1n (l1nF (gcdI (unL1n (l1nF (-unL1n (l1nF u)))) (unL1n (l1nF (-unL1n (l1nF d))))))))
 (bsel (isL1n 699 (l1nF (-unL1n (l1nF d))) && isL1n 699 (l1nF (gcdI (unL1n (l1nF (-unL1n (l1nF u)))) (unL1n (l1nF (-unL1n (l1nF d)))))) && isDivZ (unL1n (l1nF (gcdI (unL1n (l1nF (-unL1n (l1nF u)))) (unL1n (l1nF (-unL1n (l1nF d))))))))
 (ret (l2rF (unL1n (l1nF (-unL1n (l1nF u))) / unL1n (l1nF (gcdI (unL1n (l1nF (-unL1n (l1nF u)))) (unL1n (l1nF (-unL1n (l1nF d))))))) (unL1n (l1nF (-unL1n (l1nF d))) / unL1n (l1nF (gcdI (unL1n (l1nF (-unL1n (l1nF u)))) (unL1n (l1nF (-unL1n (l1nF d)))))))))
 none)
 none)
 (ret (l2rF (-unL1n (l1nF u)) (-unL1n (l1nF d)))))
 none)
 none)
 none)
 none)
 (bsel (isL1n 699 (l1nF u) && isL1n 699 (l1nF d))
 (bsel (isL1n 800 (l1nF (gcdI (unL1n (l1nF u)) (unL1n (l1nF d)))) && true)
 (bsel ((unL1n (l1nF (gcdI (unL1n (l1nF u)) (unL1n (l1nF d)))) - unL1n (resInt3 [F.int .i64 1])).sign != 0)
 (bsel (isL1n 699 (l1nF u) && isL1n 699 (l1nF (gcdI (unL1n (l1nF u)) (unL1n (l1nF d)))) && isDivZ (unL1n (l1nF (gcdI (unL1n (l1nF u)) (unL1n (l1nF d))))))
 (bsel (isL1n 699 (l1nF d) && isL1n 699 (l1nF (gcdI (unL1n (l1nF u)) (unL1n (l1nF d)))) && isDivZ (unL1n (l1nF (gcdI (unL1n (l1nF u)) (unL1n (l1nF d))))))
 (ret (l2rF (unL1n (l1nF u) / unL1n (l1nF (gcdI (unL1n (l1nF u)) (unL1n (l1nF d))))) (unL1n (l1nF d) / unL1n (l1nF (gcdI (unL1n (l1nF u)) (unL1n (l1nF d)))))))
 none)
 none)
 (ret (l2rF u d)))
 none)
 none))
def G68 (u : Int) (d : Int) : Option (F) := T68 some u d
theorem t68 (u : Int) (d : Int) (r : F) (h : G68 u d = some r) : Ends Try.prog Try.f68.results.toList [.code (bodyOf Try.f68)] (start Try.f68.ntmps ([l1nF u, l1nF d].map .f)) (r) := by
  refine Ends.of_run tyOK envS6_ok (T := []) (n := 200) ?_
  have e : run Try.prog (tiOf Try.prog) envS6 [] 0 Try.f68.results.toList some 200 [.code (bodyOf Try.f68)] (start Try.f68.ntmps ([l1nF u, l1nF d].map .f)) = T68 (fun r => some (.ret (r))) u d := by kernel_rfl
  rw [e]
  exact (good_sel h (fun _ h => (good_sel h (fun _ h => (good_sel h (fun _ h => (good_sel h (fun _ h => (good_sel h (fun _ h => (good_sel h (fun _ h => (good_sel h (fun _ h => (good_sel h (fun _ h => good_ret (by cases h; rfl)) (fun _ h => nomatch h))) (fun _ h => nomatch h))) (fun _ h => good_ret (by cases h; rfl)))) (fun _ h => nomatch h))) (fun _ h => nomatch h))) (fun _ h => nomatch h))) (fun _ h => nomatch h))) (fun _ h => (good_sel h (fun _ h => (good_sel h (fun _ h => (good_sel h (fun _ h => (good_sel h (fun _ h => (good_sel h (fun _ h => good_ret (by cases h; rfl)) (fun _ h => nomatch h))) (fun _ h => nomatch h))) (fun _ h => good_ret (by cases h; rfl)))) (fun _ h => nomatch h))) (fun _ h => nomatch h))))
theorem gcd_one_div {u d : Int} (h : ¬ (gcdI u d - 1).sign ≠ 0) : u / gcdI u d = u ∧ d / gcdI u d = d := by
  have h1 : gcdI u d = 1 := by
    have := Int.sign_eq_zero_iff_zero.1 (Classical.byContradiction h)
    omega
  rw [h1]
  exact ⟨Int.ediv_one u, Int.ediv_one d⟩
theorem make3_law {u d : Int} (hu : u.natAbs < 4294967296 ^ 699) (hd : 0 < d) (hdb : d.natAbs < 4294967296 ^ 699) : G68 u d = some (l2rF (u / gcdI u d) (d / gcdI u d)) := by
  obtain ⟨g1, g2⟩ := gcdI_pos (u := u) hd
  have hg : (gcdI u d).natAbs < 4294967296 ^ 699 := Nat.lt_of_le_of_lt (by omega) hdb
  have dz : isDivZ (gcdI u d) = true := isDivA_iff.2 (by omega)
  unfold G68 T68
  rw [decide_eq_false (show ¬ d < 0 by omega), bsel_false]
  simp only [unL1n_l1nF, isL1n_l1nF hu, isL1n_l1nF hdb, isL1n_l1nF hg, isL1n_l1nF (boundC_up hg (show 699 ≤ 800 by omega)), dz, resInt3, Bool.and_self, bsel_true]
  by_cases h : (gcdI u d - 1).sign ≠ 0
  · rw [show ((gcdI u d - 1).sign != 0) = true by simpa using h, bsel_true]
  · obtain ⟨e1, e2⟩ := gcd_one_div h
    rw [show ((gcdI u d - 1).sign != 0) = false by simpa using h, bsel_false, e1, e2]
def isMake (d : Int) : Bool := decide (0 < d)
def preMake : List F → Bool | [x, y] => isL1n 699 x && isL1n 699 y && isMake (unL1n y) | _ => false
def resMake : List F → F | [x, y] => l2rF (unL1n x / gcdI (unL1n x) (unL1n y)) (unL1n y / gcdI (unL1n x) (unL1n y)) | _ => .dflt
theorem okMake : PureOK Try.prog 68 preMake resMake :=
  fn_pure_at (c := bodyOf Try.f68) Try.func68 (by kernel_rfl) (by kernel_rfl) fun xs hp => match xs, hp with
  | [x, y], hp => by
    simp only [preMake, Bool.and_eq_true] at hp
    obtain ⟨⟨hx, hy⟩, hd⟩ := hp
    exact ⟨[l1nF (unL1n x), l1nF (unL1n y)], _, ⟨(l1n_eqv hx).1, (l1n_eqv hy).1, trivial⟩, t68 _ _ _ (make3_law (natAbs_of_isL1n hx) (of_decide_eq_true hd) (natAbs_of_isL1n hy)), .refl _⟩
/-! ### function 31 -/
def T31 {ρ : Type} (ret : (Int) → Option ρ) (u : Int) (d : Int) (v : Int) (e : Int) : Option ρ :=
 (bsel (isL1n 900 (l1nF u) && isL1n 900 (l1nF e))
 (bsel (isL1n 900 (l1nF v) && isL1n 900 (l1nF d))
 (bsel (isL1n 800 (resMulZ [l1nF u, l1nF e]) && isL1n 800 (resMulZ [l1nF v, l1nF d]))
 (ret ((unL1n (resMulZ [l1nF u, l1nF e]) - unL1n (resMulZ [l1nF v, l1nF d])).sign))
 none)
 none)
 none)
def G31 (u : Int) (d : Int) (v : Int) (e : Int) : Option (Int) := T31 some u d v e
theorem t31 (u : Int) (d : Int) (v : Int) (e : Int) (r : Int) (h : G31 u d v e = some r) : Ends Try.prog Try.f31.results.toList [.code (bodyOf Try.f31)] (start Try.f31.ntmps ([l2rF u d, l2rF v e].map .f)) (F.int .i64 r) := by
  refine Ends.of_run tyOK envS6_ok (T := []) (n := 200) ?_
  have e : run Try.prog (tiOf Try.prog) envS6 [] 0 Try.f31.results.toList some 200 [.code (bodyOf Try.f31)] (start Try.f31.ntmps ([l2rF u d, l2rF v e].map .f)) = T31 (fun r => some (.ret (F.int .i64 r))) u d v e := by kernel_rfl
  rw [e]
  exact (good_sel h (fun _ h => (good_sel h (fun _ h => (good_sel h (fun _ h => good_ret (by cases h; rfl)) (fun _ h => nomatch h))) (fun _ h => nomatch h))) (fun _ h => nomatch h))
def preL2r2 : List F → Bool | [x, y] => isL2r 390 x && isL2r 390 y | _ => false
def resL2Cmp : List F → F | [x, y] => .int .i64 (unUp3 x * unDown3 y - unUp3 y * unDown3 x).sign | _ => .dflt
theorem l2cmp_law {u d v e : Int} (hu : u.natAbs < 4294967296 ^ 390) (hd : d.natAbs < 4294967296 ^ 390) (hv : v.natAbs < 4294967296 ^ 390) (he : e.natAbs < 4294967296 ^ 390) : G31 u d v e = some (u * e - v * d).sign := by
  unfold G31 T31
  have up : ∀ {x : Int}, x.natAbs < 4294967296 ^ 390 → isL1n 900 (l1nF x) = true := fun h => isL1n_l1nF (boundC_up h (by omega))
  have h1 : isL1n 800 (l1nF (u * e)) = true := isL1n_l1nF (boundC_up (boundC_mul hu he) (by omega))
  have h2 : isL1n 800 (l1nF (v * d)) = true := isL1n_l1nF (boundC_up (boundC_mul hv hd) (by omega))
  simp only [up hu, up hd, up hv, up he, resMulZ, unL1n_l1nF, h1, h2, Bool.and_self, bsel_true]
theorem okL2Cmp : PureOK Try.prog 31 preL2r2 resL2Cmp :=
  fn_pure_at (c := bodyOf Try.f31) Try.func31 (by kernel_rfl) (by kernel_rfl) fun xs hp => match xs, hp with
  | [x, y], hp => by
    simp only [preL2r2, Bool.and_eq_true] at hp
    obtain ⟨h1, h2⟩ := l2r_bound hp.1
    obtain ⟨h3, h4⟩ := l2r_bound hp.2
    exact ⟨[l2rF (unUp3 x) (unDown3 x), l2rF (unUp3 y) (unDown3 y)], _, ⟨(l2r_eqv hp.1).1, (l2r_eqv hp.2).1, trivial⟩, t31 _ _ _ _ _ (l2cmp_law h1 h2 h3 h4), .refl _⟩
/-! ### function 32 -/
def T32 {ρ : Type} (ret : (F) → Option ρ) (u : Int) (d : Int) : Option ρ :=
 (bsel (isL1n 800 (l1nF u))
 (bsel (isL1n 800 (l1nF d))
 (bsel ((!isWide (unL1n (l1nF u))) == false)
 (bsel (!isWide (unL1n (l1nF d)))
 (ret (F.tup [F.agg [F.int .u64 0, F.int .u64 0, F.int .u64 0, F.int .u64 0, F.int .u64 0, F.int .u64 0, F.int .u64 0, F.int .u64 0], F.bool false]))
 (ret (F.tup [F.agg [F.int .u64 (wd3 (unL1n (l1nF u))), F.int .u64 (wd2 (unL1n (l1nF u))), F.int .u64 (wd1 (unL1n (l1nF u))), F.int .u64 (wd0 (unL1n (l1nF u))), F.int .u64 (wd3 (unL1n (l1nF d))), F.int .u64 (wd2 (unL1n (l1nF d))), F.int .u64 (wd1 (unL1n (l1nF d))), F.int .u64 (wd0 (unL1n (l1nF d)))], F.bool true])))
 (ret (F.tup [F.agg [F.int .u64 0, F.int .u64 0, F.int .u64 0, F.int .u64 0, F.int .u64 0, F.int .u64 0, F.int .u64 0, F.int .u64 0], F.bool false])))
 none)
 none)
def G32 (u : Int) (d : Int) : Option (F) := T32 some u d
theorem t32 (u : Int) (d : Int) (r : F) (h : G32 u d = some r) : Ends Try.prog Try.f32.results.toList [.code (bodyOf Try.f32)] (start Try.f32.ntmps ([l2rF u d].map .f)) (r) := by
  refine Ends.of_run tyOK envS6_ok (T := []) (n := 200) ?_
  have e : run Try.prog (tiOf Try.prog) envS6 [] 0 Try.f32.results.toList some 200 [.code (bodyOf Try.f32)] (start Try.f32.ntmps ([l2rF u d].map .f)) = T32 (fun r => some (.ret (r))) u d := by kernel_rfl
  rw [e]
  exact (good_sel h (fun _ h => (good_sel h (fun _ h => (good_sel h (fun _ h => (good_sel h (fun _ h => good_ret (by cases h; rfl)) (fun _ h => good_ret (by cases h; rfl)))) (fun _ h => good_ret (by cases h; rfl)))) (fun _ h => nomatch h))) (fun _ h => nomatch h))
theorem l2ratio_law {u d : Int} (hu : u.natAbs < 4294967296 ^ 800) (hd : d.natAbs < 4294967296 ^ 800) : G32 u d = some (.tup [toldF u d, .bool (okT u d)]) := by
  unfold G32 T32
  simp only [isL1n_l1nF hu, isL1n_l1nF hd, unL1n_l1nF, bsel_true]
  unfold toldF okT
  cases h1 : isWide u <;> cases h2 : isWide d <;> rfl
def preL2r : List F → Bool | [x] => isL2r 800 x | _ => false
def resL2Ratio : List F → F | [x] => .tup [toldF (unUp3 x) (unDown3 x), .bool (okT (unUp3 x) (unDown3 x))] | _ => .dflt
theorem okL2Ratio : PureOK Try.prog 32 preL2r resL2Ratio :=
  fn_pure_at (c := bodyOf Try.f32) Try.func32 (by kernel_rfl) (by kernel_rfl) fun xs hp => match xs, hp with
  | [x], hp => by
    obtain ⟨h1, h2⟩ := l2r_bound hp
    exact ⟨[l2rF (unUp3 x) (unDown3 x)], _, ⟨(l2r_eqv hp).1, trivial⟩, t32 _ _ _ (l2ratio_law h1 h2), .refl _⟩
def envS7 : Env := ((envS6.add 68 (.pure preMake resMake)).add 31 (.pure preL2r2 resL2Cmp)).add 32 (.pure preL2r resL2Ratio)
theorem envS7_ok : EnvOK Try.prog envS7 := Env.add_ok (Env.add_ok (Env.add_ok envS6_ok okMake.sp) okL2Cmp.sp) okL2Ratio.sp
end
end Go.Proofs.Ytmambbfnjbdfgaa.R

namespace Go.Proofs.Ytmambbfnjbdfgaa.R
open Go
noncomputable section
set_option linter.unusedVariables false
set_option linter.unusedSimpArgs false
set_option maxRecDepth 100000
/-! ### function 30 -/
def T30 {ρ : Type} (ret : (F) → Option ρ) (x0 : Int) (y0 : Int) (x1 : Int) (y1 : Int) (px : Int) (py : Int) : Option ρ :=
 (bsel (decide (IntKind.i64.wrap (IntKind.i64.wrap (IntKind.i64.wrap (px - x0) * IntKind.i64.wrap (x1 - x0)) + IntKind.i64.wrap (IntKind.i64.wrap (py - y0) * IntKind.i64.wrap (y1 - y0))) ≤ 0))
 (bsel (isI64 (IntKind.i64.wrap (IntKind.i64.wrap (IntKind.i64.wrap (px - x0) * IntKind.i64.wrap (px - x0)) + IntKind.i64.wrap (IntKind.i64.wrap (py - y0) * IntKind.i64.wrap (py - y0)))))
 (ret (l2rF (IntKind.i64.wrap (IntKind.i64.wrap (IntKind.i64.wrap (px - x0) * IntKind.i64.wrap (px - x0)) + IntKind.i64.wrap (IntKind.i64.wrap (py - y0) * IntKind.i64.wrap (py - y0)))) 1))
 none)
 (bsel (decide (IntKind.i64.wrap (IntKind.i64.wrap (IntKind.i64.wrap (px - x0) * IntKind.i64.wrap (x1 - x0)) + IntKind.i64.wrap (IntKind.i64.wrap (py - y0) * IntKind.i64.wrap (y1 - y0))) ≥ IntKind.i64.wrap (IntKind.i64.wrap (IntKind.i64.wrap (x1 - x0) * IntKind.i64.wrap (x1 - x0)) + IntKind.i64.wrap (IntKind.i64.wrap (y1 - y0) * IntKind.i64.wrap (y1 - y0)))))
 (bsel (isI64 (IntKind.i64.wrap (IntKind.i64.wrap (IntKind.i64.wrap (px - x1) * IntKind.i64.wrap (px - x1)) + IntKind.i64.wrap (IntKind.i64.wrap (py - y1) * IntKind.i64.wrap (py - y1)))))
 (ret (l2rF (IntKind.i64.wrap (IntKind.i64.wrap (IntKind.i64.wrap (px - x1) * IntKind.i64.wrap (px - x1)) + IntKind.i64.wrap (IntKind.i64.wrap (py - y1) * IntKind.i64.wrap (py - y1)))) 1))
 none)
 (bsel (isI64 (IntKind.i64.wrap (IntKind.i64.wrap (IntKind.i64.wrap (x1 - x0) * IntKind.i64.wrap (py - y0)) - IntKind.i64.wrap (IntKind.i64.wrap (y1 - y0) * IntKind.i64.wrap (px - x0)))))
 (bsel (isL1n 900 (l1nF (IntKind.i64.wrap (IntKind.i64.wrap (IntKind.i64.wrap (x1 - x0) * IntKind.i64.wrap (py - y0)) - IntKind.i64.wrap (IntKind.i64.wrap (y1 - y0) * IntKind.i64.wrap (px - x0))))) && isL1n 900 (l1nF (IntKind.i64.wrap (IntKind.i64.wrap (IntKind.i64.wrap (x1 - x0) * IntKind.i64.wrap (py - y0)) - IntKind.i64.wrap (IntKind.i64.wrap (y1 - y0) * IntKind.i64.wrap (px - x0))))))
 (bsel (isI64 (IntKind.i64.wrap (IntKind.i64.wrap (IntKind.i64.wrap (x1 - x0) * IntKind.i64.wrap (x1 - x0)) + IntKind.i64.wrap (IntKind.i64.wrap (y1 - y0) * IntKind.i64.wrap (y1 - y0)))))
 (bsel (isL1n 699 (resMulZ [l1nF (IntKind.i64.wrap (IntKind.i64.wrap (IntKind.i64.wrap (x1 - x0) * IntKind.i64.wrap (py - y0)) - IntKind.i64.wrap (IntKind.i64.wrap (y1 - y0) * IntKind.i64.wrap (px - x0)))), l1nF (IntKind.i64.wrap (IntKind.i64.wrap (IntKind.i64.wrap (x1 - x0) * IntKind.i64.wrap (py - y0)) - IntKind.i64.wrap (IntKind.i64.wrap (y1 - y0) * IntKind.i64.wrap (px - x0))))]) && isL1n 699 (resInt3 [F.int .i64 (IntKind.i64.wrap (IntKind.i64.wrap (IntKind.i64.wrap (x1 - x0) * IntKind.i64.wrap (x1 - x0)) + IntKind.i64.wrap (IntKind.i64.wrap (y1 - y0) * IntKind.i64.wrap (y1 - y0))))]) && isMake (unL1n (resInt3 [F.int .i64 (IntKind.i64.wrap (IntKind.i64.wrap (IntKind.i64.wrap (x1 - x0) * IntKind.i64.wrap (x1 - x0)) + IntKind.i64.wrap (IntKind.i64.wrap (y1 - y0) * IntKind.i64.wrap (y1 - y0))))])))
 (ret (l2rF (unL1n (resMulZ [l1nF (IntKind.i64.wrap (IntKind.i64.wrap (IntKind.i64.wrap (x1 - x0) * IntKind.i64.wrap (py - y0)) - IntKind.i64.wrap (IntKind.i64.wrap (y1 - y0) * IntKind.i64.wrap (px - x0)))), l1nF (IntKind.i64.wrap (IntKind.i64.wrap (IntKind.i64.wrap (x1 - x0) * IntKind.i64.wrap (py - y0)) - IntKind.i64.wrap (IntKind.i64.wrap (y1 - y0) * IntKind.i64.wrap (px - x0))))]) / gcdI (unL1n (resMulZ [l1nF (IntKind.i64.wrap (IntKind.i64.wrap (IntKind.i64.wrap (x1 - x0) * IntKind.i64.wrap (py - y0)) - IntKind.i64.wrap (IntKind.i64.wrap (y1 - y0) * IntKind.i64.wrap (px - x0)))), l1nF (IntKind.i64.wrap (IntKind.i64.wrap (IntKind.i64.wrap (x1 - x0) * IntKind.i64.wrap (py - y0)) - IntKind.i64.wrap (IntKind.i64.wrap (y1 - y0) * IntKind.i64.wrap (px - x0))))])) (unL1n (resInt3 [F.int .i64 (IntKind.i64.wrap (IntKind.i64.wrap (IntKind.i64.wrap (x1 - x0) * IntKind.i64.wrap (x1 - x0)) + IntKind.i64.wrap (IntKind.i64.wrap (y1 - y0) * IntKind.i64.wrap (y1 - y0))))]))) (unL1n (resInt3 [F.int .i64 (IntKind.i64.wrap (IntKind.i64.wrap (IntKind.i64.wrap (x1 - x0) * IntKind.i64.wrap (x1 - x0)) + IntKind.i64.wrap (IntKind.i64.wrap (y1 - y0) * IntKind.i64.wrap (y1 - y0))))]) / gcdI (unL1n (resMulZ [l1nF (IntKind.i64.wrap (IntKind.i64.wrap (IntKind.i64.wrap (x1 - x0) * IntKind.i64.wrap (py - y0)) - IntKind.i64.wrap (IntKind.i64.wrap (y1 - y0) * IntKind.i64.wrap (px - x0)))), l1nF (IntKind.i64.wrap (IntKind.i64.wrap (IntKind.i64.wrap (x1 - x0) * IntKind.i64.wrap (py - y0)) - IntKind.i64.wrap (IntKind.i64.wrap (y1 - y0) * IntKind.i64.wrap (px - x0))))])) (unL1n (resInt3 [F.int .i64 (IntKind.i64.wrap (IntKind.i64.wrap (IntKind.i64.wrap (x1 - x0) * IntKind.i64.wrap (x1 - x0)) + IntKind.i64.wrap (IntKind.i64.wrap (y1 - y0) * IntKind.i64.wrap (y1 - y0))))])))))
 none)
 none)
 none)
 none)))
def G30 (x0 : Int) (y0 : Int) (x1 : Int) (y1 : Int) (px : Int) (py : Int) : Option (F) := T30 some x0 y0 x1 y1 px py
theorem t30 (x0 : Int) (y0 : Int) (x1 : Int) (y1 : Int) (px : Int) (py : Int) (r : F) (h : G30 x0 y0 x1 y1 px py = some r) : Ends Try.prog Try.f30.results.toList [.code (bodyOf Try.f30)] (start Try.f30.ntmps ([F.agg [F.int .i64 x0, F.int .i64 y0, F.int .i64 x1, F.int .i64 y1], F.agg [F.int .i64 px, F.int .i64 py]].map .f)) (r) := by
  refine Ends.of_run tyOK envS7_ok (T := []) (n := 200) ?_
  have e : run Try.prog (tiOf Try.prog) envS7 [] 0 Try.f30.results.toList some 200 [.code (bodyOf Try.f30)] (start Try.f30.ntmps ([F.agg [F.int .i64 x0, F.int .i64 y0, F.int .i64 x1, F.int .i64 y1], F.agg [F.int .i64 px, F.int .i64 py]].map .f)) = T30 (fun r => some (.ret (r))) x0 y0 x1 y1 px py := by kernel_rfl
  rw [e]
  exact (good_sel h (fun _ h => (good_sel h (fun _ h => good_ret (by cases h; rfl)) (fun _ h => nomatch h))) (fun _ h => (good_sel h (fun _ h => (good_sel h (fun _ h => good_ret (by cases h; rfl)) (fun _ h => nomatch h))) (fun _ h => (good_sel h (fun _ h => (good_sel h (fun _ h => (good_sel h (fun _ h => (good_sel h (fun _ h => good_ret (by cases h; rfl)) (fun _ h => nomatch h))) (fun _ h => nomatch h))) (fun _ h => nomatch h))) (fun _ h => nomatch h))))))
def lowU (u d : Int) : Int := u / gcdI u d
def lowD (u d : Int) : Int := d / gcdI u d
theorem low_one (u : Int) : lowU u 1 = u ∧ lowD u 1 = 1 := by
  obtain ⟨g1, g2⟩ := gcdI_pos (u := u) (d := 1) (by omega)
  have : gcdI u 1 = 1 := by omega
  unfold lowU lowD
  rw [this]
  exact ⟨Int.ediv_one u, rfl⟩
theorem sq_zero {a b : Int} (h : a * a + b * b ≤ 0) : a = 0 ∧ b = 0 := by
  have h1 := sq_nonneg a
  have h2 := sq_nonneg b
  have h3 : a * a = 0 := by omega
  have h4 : b * b = 0 := by omega
  refine ⟨?_, ?_⟩
  · rcases Int.mul_eq_zero.1 h3 with h | h <;> exact h
  · rcases Int.mul_eq_zero.1 h4 with h | h <;> exact h
theorem smallC {x : Int} {n : Nat} (h0 : -8000000000000 ≤ x) (h1 : x ≤ 8000000000000) (hn : 2 ≤ n) : x.natAbs < 4294967296 ^ n :=
  boundC_up (n := 2) (show x.natAbs < 4294967296 ^ 2 by omega) hn
theorem near3_law {x0 y0 x1 y1 px py : Int} (h0 : spotIn x0 y0) (h1 : spotIn x1 y1) (h2 : spotIn px py) :
    G30 x0 y0 x1 y1 px py = some (l2rF (lowU (nearU x0 y0 x1 y1 px py) (nearD x0 y0 x1 y1 px py)) (lowD (nearU x0 y0 x1 y1 px py) (nearD x0 y0 x1 y1 px py))) := by
  obtain ⟨c1, c2, c3⟩ := crossW_eq h0 h1 h2
  have n1 := long_nonneg x0 y0 x1 y1
  unfold spotIn at h0 h1 h2
  unfold crossW at c1
  unfold G30 T30
  rw [c1]
  rw [wrapI (x := px - x0) (by omega) (by omega), wrapI (x := x1 - x0) (by omega) (by omega), wrapI (x := py - y0) (by omega) (by omega), wrapI (x := y1 - y0) (by omega) (by omega), wrapI (x := px - x1) (by omega) (by omega), wrapI (x := py - y1) (by omega) (by omega)]
  obtain ⟨a1, a2, a3⟩ := dotW (a := px - x0) (b := x1 - x0) (c := py - y0) (d := y1 - y0) (by omega) (by omega) (by omega) (by omega)
  obtain ⟨l1, l2, l3⟩ := dotW (a := x1 - x0) (b := x1 - x0) (c := y1 - y0) (d := y1 - y0) (by omega) (by omega) (by omega) (by omega)
  obtain ⟨p1, p2, p3⟩ := dotW (a := px - x1) (b := px - x1) (c := py - y1) (d := py - y1) (by omega) (by omega) (by omega) (by omega)
  obtain ⟨q1, q2, q3⟩ := dotW (a := px - x0) (b := px - x0) (c := py - y0) (d := py - y0) (by omega) (by omega) (by omega) (by omega)
  have ea : (px - x0) * (x1 - x0) + (py - y0) * (y1 - y0) = alongZ x0 y0 x1 y1 px py := rfl
  have el : (x1 - x0) * (x1 - x0) + (y1 - y0) * (y1 - y0) = longZ x0 y0 x1 y1 := rfl
  have ep : (px - x1) * (px - x1) + (py - y1) * (py - y1) = longZ x1 y1 px py := rfl
  have eq : (px - x0) * (px - x0) + (py - y0) * (py - y0) = longZ x0 y0 px py := rfl
  rw [a1, l1, p1, q1, ea, el, ep, eq]
  have b1 : -8000000000000 ≤ longZ x0 y0 x1 y1 ∧ longZ x0 y0 x1 y1 ≤ 8000000000000 := ⟨l2, l3⟩
  have b2 : -8000000000000 ≤ longZ x1 y1 px py ∧ longZ x1 y1 px py ≤ 8000000000000 := ⟨p2, p3⟩
  have b3 : -8000000000000 ≤ longZ x0 y0 px py ∧ longZ x0 y0 px py ≤ 8000000000000 := ⟨q2, q3⟩
  have same : longZ x0 y0 x1 y1 ≤ 0 → longZ x1 y1 px py = longZ x0 y0 px py := fun h => by
    obtain ⟨e1, e2⟩ := sq_zero (show (x1 - x0) * (x1 - x0) + (y1 - y0) * (y1 - y0) ≤ 0 from h)
    rw [show x1 = x0 by omega, show y1 = y0 by omega]
  clear a1 a2 a3 l1 l2 l3 p1 p2 p3 q1 q2 q3 ea el ep eq c1
  simp only [isI64_iff.2 (show -9223372036854775808 ≤ crossZ x0 y0 x1 y1 px py ∧ _ by omega), isI64_iff.2 (show -9223372036854775808 ≤ longZ x0 y0 x1 y1 ∧ _ by omega), isI64_iff.2 (show -9223372036854775808 ≤ longZ x1 y1 px py ∧ _ by omega), isI64_iff.2 (show -9223372036854775808 ≤ longZ x0 y0 px py ∧ _ by omega), isL1n_l1nF (smallC c2 c3 (show 2 ≤ 900 by omega)), unL1n_l1nF, resMulZ, resInt3, isL1n_l1nF (boundC_up (boundC_mul (smallC c2 c3 (Nat.le_refl 2)) (smallC c2 c3 (Nat.le_refl 2))) (show 2 + 2 ≤ 699 by omega)), isL1n_l1nF (smallC b1.1 b1.2 (show 2 ≤ 699 by omega)), Bool.and_self, Bool.true_and, bsel_true]
  unfold nearU nearD
  generalize alongZ x0 y0 x1 y1 px py = al at *
  generalize longZ x0 y0 x1 y1 = lo at *
  by_cases k1 : 0 < al
  · rw [decide_eq_false (show ¬ al ≤ 0 by omega), bsel_false]
    by_cases k2 : al < lo
    · rw [decide_eq_false (show ¬ al ≥ lo by omega), bsel_false, if_pos ⟨k1, k2⟩, if_pos ⟨k1, k2⟩]
      have : isMake lo = true := decide_eq_true (by omega)
      rw [this]
      rfl
    · rw [decide_eq_true (show al ≥ lo by omega), bsel_true, if_neg (show ¬ (0 < al ∧ al < lo) from fun h => k2 h.2), if_neg (show ¬ (0 < al ∧ al < lo) from fun h => k2 h.2), if_pos (by omega), (low_one _).1, (low_one _).2]
  · rw [decide_eq_true (show al ≤ 0 by omega), bsel_true, if_neg (show ¬ (0 < al ∧ al < lo) from fun h => k1 h.1), if_neg (show ¬ (0 < al ∧ al < lo) from fun h => k1 h.1)]
    by_cases k2 : lo ≤ al
    · rw [if_pos k2, same (by omega), (low_one _).1, (low_one _).2]
    · rw [if_neg k2, (low_one _).1, (low_one _).2]
def resNear3 : List F → F | [.agg [.int .i64 a, .int .i64 b, .int .i64 c, .int .i64 d], .agg [.int .i64 e, .int .i64 f]] => l2rF (lowU (nearU a b c d e f) (nearD a b c d e f)) (lowD (nearU a b c d e f) (nearD a b c d e f)) | _ => .dflt
theorem okNear3 : PureOK Try.prog 30 preNear resNear3 :=
  fn_pure (c := bodyOf Try.f30) Try.func30 (by kernel_rfl) (by kernel_rfl) fun xs hp => match xs, hp with
  | [.agg [.int .i64 a, .int .i64 b, .int .i64 c, .int .i64 d], .agg [.int .i64 e, .int .i64 f]], hp => by
    obtain ⟨h0, h1, h2⟩ := isNearArg_iff.1 hp
    exact t30 a b c d e f _ (near3_law h0 h1 h2)
def envS8 : Env := envS7.add 30 (.pure preNear resNear3)
theorem envS8_ok : EnvOK Try.prog envS8 := Env.add_ok envS7_ok okNear3.sp
end
end Go.Proofs.Ytmambbfnjbdfgaa.R

namespace Go.Proofs.Ytmambbfnjbdfgaa.R
open Go
noncomputable section
set_option linter.unusedVariables false
set_option linter.unusedSimpArgs false
set_option maxRecDepth 100000
def nsI (l : List Sg) (px py : Int) : Int := bif isNearest l px py then (nearAll px py l).1 else 0
def nsU (l : List Sg) (px py : Int) : Int := bif isNearest l px py then (nearAll px py l).2.1 / gcdI (nearAll px py l).2.1 (nearAll px py l).2.2 else 57896044618658097711785492504343953926634992332820282019728792003956564819968
def nsD (l : List Sg) (px py : Int) : Int := bif isNearest l px py then (nearAll px py l).2.2 / gcdI (nearAll px py l).2.1 (nearAll px py l).2.2 else 57896044618658097711785492504343953926634992332820282019728792003956564819968
theorem okT_none : okT 57896044618658097711785492504343953926634992332820282019728792003956564819968 57896044618658097711785492504343953926634992332820282019728792003956564819968 = false := by
  have : isWide 57896044618658097711785492504343953926634992332820282019728792003956564819968 = false := by
    cases h : isWide 57896044618658097711785492504343953926634992332820282019728792003956564819968 with
    | false => rfl
    | true => have := isWide_iff.1 h; omega
  unfold okT
  rw [this]
  rfl
theorem toldF_none {u d : Int} (h : okT u d = false) : toldF u d = .agg [.int .u64 0, .int .u64 0, .int .u64 0, .int .u64 0, .int .u64 0, .int .u64 0, .int .u64 0, .int .u64 0] := by
  simp only [toldF, h, cond_false]
/-! ### function 11 -/
def T11 {ρ : Type} (ret : (F) → Option ρ) (l : List Sg) (px : Int) (py : Int) : Option ρ :=
 (bsel (isSegs (segsF l))
 (bsel ((!segsOkV (unSegs (segsF l))) == false)
 (bsel ((!spotOkV px py) == false)
 (bsel ((↑l.length : Int) == 0)
 (ret (F.tup [F.int .i64 0, F.agg [F.int .u64 0, F.int .u64 0, F.int .u64 0, F.int .u64 0, F.int .u64 0, F.int .u64 0, F.int .u64 0, F.int .u64 0], F.bool false]))
 (bsel (isSegs (segsF l) && isNearest (unSegs (segsF l)) px py)
 (bsel (isRat 180 (ratF (nearAll px py (unSegs (segsF l))).snd.fst (nearAll px py (unSegs (segsF l))).snd.snd) && isLow (unUp (ratF (nearAll px py (unSegs (segsF l))).snd.fst (nearAll px py (unSegs (segsF l))).snd.snd)) (unDown (ratF (nearAll px py (unSegs (segsF l))).snd.fst (nearAll px py (unSegs (segsF l))).snd.snd)))
 (ret (F.tup [F.int .i64 (nearAll px py (unSegs (segsF l))).fst, F.agg [F.int .u64 (bif okT (unUp (ratF (nearAll px py (unSegs (segsF l))).snd.fst (nearAll px py (unSegs (segsF l))).snd.snd) / gcdI (unUp (ratF (nearAll px py (unSegs (segsF l))).snd.fst (nearAll px py (unSegs (segsF l))).snd.snd)) (unDown (ratF (nearAll px py (unSegs (segsF l))).snd.fst (nearAll px py (unSegs (segsF l))).snd.snd))) (unDown (ratF (nearAll px py (unSegs (segsF l))).snd.fst (nearAll px py (unSegs (segsF l))).snd.snd) / gcdI (unUp (ratF (nearAll px py (unSegs (segsF l))).snd.fst (nearAll px py (unSegs (segsF l))).snd.snd)) (unDown (ratF (nearAll px py (unSegs (segsF l))).snd.fst (nearAll px py (unSegs (segsF l))).snd.snd))) then wd3 (unUp (ratF (nearAll px py (unSegs (segsF l))).snd.fst (nearAll px py (unSegs (segsF l))).snd.snd) / gcdI (unUp (ratF (nearAll px py (unSegs (segsF l))).snd.fst (nearAll px py (unSegs (segsF l))).snd.snd)) (unDown (ratF (nearAll px py (unSegs (segsF l))).snd.fst (nearAll px py (unSegs (segsF l))).snd.snd))) else 0), F.int .u64 (bif okT (unUp (ratF (nearAll px py (unSegs (segsF l))).snd.fst (nearAll px py (unSegs (segsF l))).snd.snd) / gcdI (unUp (ratF (nearAll px py (unSegs (segsF l))).snd.fst (nearAll px py (unSegs (segsF l))).snd.snd)) (unDown (ratF (nearAll px py (unSegs (segsF l))).snd.fst (nearAll px py (unSegs (segsF l))).snd.snd))) (unDown (ratF (nearAll px py (unSegs (segsF l))).snd.fst (nearAll px py (unSegs (segsF l))).snd.snd) / gcdI (unUp (ratF (nearAll px py (unSegs (segsF l))).snd.fst (nearAll px py (unSegs (segsF l))).snd.snd)) (unDown (ratF (nearAll px py (unSegs (segsF l))).snd.fst (nearAll px py (unSegs (segsF l))).snd.snd))) then wd2 (unUp (ratF (nearAll px py (unSegs (segsF l))).snd.fst (nearAll px py (unSegs (segsF l))).snd.snd) / gcdI (unUp (ratF (nearAll px py (unSegs (segsF l))).snd.fst (nearAll px py (unSegs (segsF l))).snd.snd)) (unDown (ratF (nearAll px py (unSegs (segsF l))).snd.fst (nearAll px py (unSegs (segsF l))).snd.snd))) else 0), F.int .u64 (bif okT (unUp (ratF (nearAll px py (unSegs (segsF l))).snd.fst (nearAll px py (unSegs (segsF l))).snd.snd) / gcdI (unUp (ratF (nearAll px py (unSegs (segsF l))).snd.fst (nearAll px py (unSegs (segsF l))).snd.snd)) (unDown (ratF (nearAll px py (unSegs (segsF l))).snd.fst (nearAll px py (unSegs (segsF l))).snd.snd))) (unDown (ratF (nearAll px py (unSegs (segsF l))).snd.fst (nearAll px py (unSegs (segsF l))).snd.snd) / gcdI (unUp (ratF (nearAll px py (unSegs (segsF l))).snd.fst (nearAll px py (unSegs (segsF l))).snd.snd)) (unDown (ratF (nearAll px py (unSegs (segsF l))).snd.fst (nearAll px py (unSegs (segsF l))).snd.snd))) then wd1 (unUp (ratF (nearAll px py (unSegs (segsF l))).snd.fst (nearAll px py (unSegs (segsF l))).snd.snd) / gcdI (unUp (ratF (nearAll px py (unSegs (segsF l))).snd.fst (nearAll px py (unSegs (segsF l))).snd.snd)) (unDown (ratF (nearAll px py (unSegs (segsF l))).snd.fst (nearAll px py (unSegs (segsF l))).snd.snd))) else 0), F.int .u64 (bif okT (unUp (ratF (nearAll px py (unSegs (segsF l))).snd.fst (nearAll px py (unSegs (segsF l))).snd.snd) / gcdI (unUp (ratF (nearAll px py (unSegs (segsF l))).snd.fst (nearAll px py (unSegs (segsF l))).snd.snd)) (unDown (ratF (nearAll px py (unSegs (segsF l))).snd.fst (nearAll px py (unSegs (segsF l))).snd.snd))) (unDown (ratF (nearAll px py (unSegs (segsF l))).snd.fst (nearAll px py (unSegs (segsF l))).snd.snd) / gcdI (unUp (ratF (nearAll px py (unSegs (segsF l))).snd.fst (nearAll px py (unSegs (segsF l))).snd.snd)) (unDown (ratF (nearAll px py (unSegs (segsF l))).snd.fst (nearAll px py (unSegs (segsF l))).snd.snd))) then wd0 (unUp (ratF (nearAll px py (unSegs (segsF l))).snd.fst (nearAll px py (unSegs (segsF l))).snd.snd) / gcdI (unUp (ratF (nearAll px py (unSegs (segsF l))).snd.fst (nearAll px py (unSegs (segsF l))).snd.snd)) (unDown (ratF (nearAll px py (unSegs (segsF l))).snd.fst (nearAll px py (unSegs (segsF l))).snd.snd))) else 0), F.int .u64 (bif okT (unUp (ratF (nearAll px py (unSegs (segsF l))).snd.fst (nearAll px py (unSegs (segsF l))).snd.snd) / gcdI (unUp (ratF (nearAll px py (unSegs (segsF l))).snd.fst (nearAll px py (unSegs (segsF l))).snd.snd)) (unDown (ratF (nearAll px py (unSegs (segsF l))).snd.fst (nearAll px py (unSegs (segsF l))).snd.snd))) (unDown (ratF (nearAll px py (unSegs (segsF l))).snd.fst (nearAll px py (unSegs (segsF l))).snd.snd) / gcdI (unUp (ratF (nearAll px py (unSegs (segsF l))).snd.fst (nearAll px py (unSegs (segsF l))).snd.snd)) (unDown (ratF (nearAll px py (unSegs (segsF l))).snd.fst (nearAll px py (unSegs (segsF l))).snd.snd))) then wd3 (unDown (ratF (nearAll px py (unSegs (segsF l))).snd.fst (nearAll px py (unSegs (segsF l))).snd.snd) / gcdI (unUp (ratF (nearAll px py (unSegs (segsF l))).snd.fst (nearAll px py (unSegs (segsF l))).snd.snd)) (unDown (ratF (nearAll px py (unSegs (segsF l))).snd.fst (nearAll px py (unSegs (segsF l))).snd.snd))) else 0), F.int .u64 (bif okT (unUp (ratF (nearAll px py (unSegs (segsF l))).snd.fst (nearAll px py (unSegs (segsF l))).snd.snd) / gcdI (unUp (ratF (nearAll px py (unSegs (segsF l))).snd.fst (nearAll px py (unSegs (segsF l))).snd.snd)) (unDown (ratF (nearAll px py (unSegs (segsF l))).snd.fst (nearAll px py (unSegs (segsF l))).snd.snd))) (unDown (ratF (nearAll px py (unSegs (segsF l))).snd.fst (nearAll px py (unSegs (segsF l))).snd.snd) / gcdI (unUp (ratF (nearAll px py (unSegs (segsF l))).snd.fst (nearAll px py (unSegs (segsF l))).snd.snd)) (unDown (ratF (nearAll px py (unSegs (segsF l))).snd.fst (nearAll px py (unSegs (segsF l))).snd.snd))) then wd2 (unDown (ratF (nearAll px py (unSegs (segsF l))).snd.fst (nearAll px py (unSegs (segsF l))).snd.snd) / gcdI (unUp (ratF (nearAll px py (unSegs (segsF l))).snd.fst (nearAll px py (unSegs (segsF l))).snd.snd)) (unDown (ratF (nearAll px py (unSegs (segsF l))).snd.fst (nearAll px py (unSegs (segsF l))).snd.snd))) else 0), F.int .u64 (bif okT (unUp (ratF (nearAll px py (unSegs (segsF l))).snd.fst (nearAll px py (unSegs (segsF l))).snd.snd) / gcdI (unUp (ratF (nearAll px py (unSegs (segsF l))).snd.fst (nearAll px py (unSegs (segsF l))).snd.snd)) (unDown (ratF (nearAll px py (unSegs (segsF l))).snd.fst (nearAll px py (unSegs (segsF l))).snd.snd))) (unDown (ratF (nearAll px py (unSegs (segsF l))).snd.fst (nearAll px py (unSegs (segsF l))).snd.snd) / gcdI (unUp (ratF (nearAll px py (unSegs (segsF l))).snd.fst (nearAll px py (unSegs (segsF l))).snd.snd)) (unDown (ratF (nearAll px py (unSegs (segsF l))).snd.fst (nearAll px py (unSegs (segsF l))).snd.snd))) then wd1 (unDown (ratF (nearAll px py (unSegs (segsF l))).snd.fst (nearAll px py (unSegs (segsF l))).snd.snd) / gcdI (unUp (ratF (nearAll px py (unSegs (segsF l))).snd.fst (nearAll px py (unSegs (segsF l))).snd.snd)) (unDown (ratF (nearAll px py (unSegs (segsF l))).snd.fst (nearAll px py (unSegs (segsF l))).snd.snd))) else 0), F.int .u64 (bif okT (unUp (ratF (nearAll px py (unSegs (segsF l))).snd.fst (nearAll px py (unSegs (segsF l))).snd.snd) / gcdI (unUp (ratF (nearAll px py (unSegs (segsF l))).snd.fst (nearAll px py (unSegs (segsF l))).snd.snd)) (unDown (ratF (nearAll px py (unSegs (segsF l))).snd.fst (nearAll px py (unSegs (segsF l))).snd.snd))) (unDown (ratF (nearAll px py (unSegs (segsF l))).snd.fst (nearAll px py (unSegs (segsF l))).snd.snd) / gcdI (unUp (ratF (nearAll px py (unSegs (segsF l))).snd.fst (nearAll px py (unSegs (segsF l))).snd.snd)) (unDown (ratF (nearAll px py (unSegs (segsF l))).snd.fst (nearAll px py (unSegs (segsF l))).snd.snd))) then wd0 (unDown (ratF (nearAll px py (unSegs (segsF l))).snd.fst (nearAll px py (unSegs (segsF l))).snd.snd) / gcdI (unUp (ratF (nearAll px py (unSegs (segsF l))).snd.fst (nearAll px py (unSegs (segsF l))).snd.snd)) (unDown (ratF (nearAll px py (unSegs (segsF l))).snd.fst (nearAll px py (unSegs (segsF l))).snd.snd))) else 0)], F.bool (okT (unUp (ratF (nearAll px py (unSegs (segsF l))).snd.fst (nearAll px py (unSegs (segsF l))).snd.snd) / gcdI (unUp (ratF (nearAll px py (unSegs (segsF l))).snd.fst (nearAll px py (unSegs (segsF l))).snd.snd)) (unDown (ratF (nearAll px py (unSegs (segsF l))).snd.fst (nearAll px py (unSegs (segsF l))).snd.snd))) (unDown (ratF (nearAll px py (unSegs (segsF l))).snd.fst (nearAll px py (unSegs (segsF l))).snd.snd) / gcdI (unUp (ratF (nearAll px py (unSegs (segsF l))).snd.fst (nearAll px py (unSegs (segsF l))).snd.snd)) (unDown (ratF (nearAll px py (unSegs (segsF l))).snd.fst (nearAll px py (unSegs (segsF l))).snd.snd))))]))
 none)
 none))
 (ret (F.tup [F.int .i64 0, F.agg [F.int .u64 0, F.int .u64 0, F.int .u64 0, F.int .u64 0, F.int .u64 0, F.int .u64 0, F.int .u64 0, F.int .u64 0], F.bool false])))
 (ret (F.tup [F.int .i64 0, F.agg [F.int .u64 0, F.int .u64 0, F.int .u64 0, F.int .u64 0, F.int .u64 0, F.int .u64 0, F.int .u64 0, F.int .u64 0], F.bool false])))
 none)
def G11 (l : List Sg) (px : Int) (py : Int) : Option (F) := T11 some l px py
theorem t11 (l : List Sg) (px : Int) (py : Int) (r : F) (h : G11 l px py = some r) : Ends Try.prog Try.f11.results.toList [.code (bodyOf Try.f11)] (start Try.f11.ntmps ([segsF l, F.agg [F.int .i64 px, F.int .i64 py]].map .f)) (r) := by
  refine Ends.of_run tyOK envN19_ok (T := []) (n := 200) ?_
  have e : run Try.prog (tiOf Try.prog) envN19 [] 0 Try.f11.results.toList some 200 [.code (bodyOf Try.f11)] (start Try.f11.ntmps ([segsF l, F.agg [F.int .i64 px, F.int .i64 py]].map .f)) = T11 (fun r => some (.ret (r))) l px py := by kernel_rfl
  rw [e]
  exact (good_sel h (fun _ h => (good_sel h (fun _ h => (good_sel h (fun _ h => (good_sel h (fun _ h => good_ret (by cases h; rfl)) (fun _ h => (good_sel h (fun _ h => (good_sel h (fun _ h => good_ret (by cases h; rfl)) (fun _ h => nomatch h))) (fun _ h => nomatch h))))) (fun _ h => good_ret (by cases h; rfl)))) (fun _ h => good_ret (by cases h; rfl)))) (fun _ h => nomatch h))
theorem ns_law (l : List Sg) (px py : Int) : G11 l px py = some (.tup [.int .i64 (nsI l px py), toldF (nsU l px py) (nsD l px py), .bool (okT (nsU l px py) (nsD l px py))]) := by
  unfold G11 T11
  simp only [isSegs_segsF, unSegs_segsF, unUp_ratF, unDown_ratF, bsel_true, Bool.true_and]
  have no : isNearest l px py = false → some (F.tup [F.int .i64 0, F.agg [F.int .u64 0, F.int .u64 0, F.int .u64 0, F.int .u64 0, F.int .u64 0, F.int .u64 0, F.int .u64 0, F.int .u64 0], F.bool false]) = some (.tup [.int .i64 (nsI l px py), toldF (nsU l px py) (nsD l px py), .bool (okT (nsU l px py) (nsD l px py))]) := by
    intro h
    simp only [nsI, nsU, nsD, h, cond_false]
    rw [toldF_none okT_none, okT_none]
  cases h1 : segsOkV l with
  | false => exact no (by simp [isNearest, h1])
  | true =>
    cases h2 : spotOkV px py with
    | false => exact no (by simp [isNearest, h1, h2])
    | true =>
      by_cases h3 : l = []
      · subst h3; exact no (by simp [isNearest, h1, h2])
      · have hl : l.length ≠ 0 := fun e => h3 (List.eq_nil_of_length_eq_zero e)
        have hb : Nat.beq l.length 0 = false := by
          cases hb : Nat.beq l.length 0 with
          | false => rfl
          | true => exact absurd (Nat.eq_of_beq_eq_true hb) hl
        have hn : isNearest l px py = true := by simp [isNearest, h1, h2, hb]
        obtain ⟨k1, k2, k3, k4⟩ := isNearest_iff hn
        have ho := nearAll_ok k4 k1 k3
        have e1 := isRat_near ho.up ho.down
        have e2 : isLow (nearAll px py l).2.1 (nearAll px py l).2.2 = true := isLow_iff.2 (by have := ho.down; omega)
        simp only [nsI, nsU, nsD, hn, cond_true, e1, e2, Bool.and_self, bsel_true]
        rw [show ((l.length : Int) == 0) = false by simp only [beq_eq_false_iff_ne, ne_eq]; omega]
        rfl
def preNS : List F → Bool | [x, .agg [.int .i64 _, .int .i64 _]] => isSegs x | _ => false
def resNS : List F → F | [x, .agg [.int .i64 a, .int .i64 b]] => .tup [.int .i64 (nsI (unSegs x) a b), toldF (nsU (unSegs x) a b) (nsD (unSegs x) a b), .bool (okT (nsU (unSegs x) a b) (nsD (unSegs x) a b))] | _ => .dflt
theorem okNSI : PureOK Try.prog 11 preNS resNS :=
  fn_pure_at (c := bodyOf Try.f11) Try.func11 (by kernel_rfl) (by kernel_rfl) fun xs hp => match xs, hp with
  | [x, .agg [.int .i64 a, .int .i64 b]], hp => ⟨[segsF (unSegs x), _], _, ⟨(segs_eqv hp).1, .refl _, trivial⟩, t11 _ _ _ _ (ns_law _ _ _), .refl _⟩
def envN20 : Env := envN19.add 11 (.pure preNS resNS)
theorem envN20_ok : EnvOK Try.prog envN20 := Env.add_ok envN19_ok okNSI.sp
end
end Go.Proofs.Ytmambbfnjbdfgaa.R

namespace Go.Proofs.Ytmambbfnjbdfgaa.R
open Go
noncomputable section
set_option linter.unusedVariables false
set_option linter.unusedSimpArgs false
set_option maxRecDepth 100000
/-! ### function 8 -/
def S8_6 (l : List Sg) (px : Int) (py : Int) (b : Int) (u : Int) (d : Int) (i : Int) : St := ⟨[(U.f (segsF l)), .bad, .bad, (U.hp 0 0), .bad, (U.hp 1 0), .bad, (U.f (F.int .i64 b)), (U.hp 2 0), (U.f (F.int .i64 i)), .bad, .bad, .bad, .bad, .bad, .bad, .bad, .bad, .bad, .bad, .bad, .bad, .bad, .bad, .bad, .bad, .bad, .bad, .bad, .bad, .bad, .bad, .bad, .bad, .bad, .bad, .bad, .bad, .bad, .bad, .bad, .bad, .bad, .bad, .bad, .bad, .bad, .bad, .bad, .bad, .bad, .bad, .bad, .bad, .bad, .bad, .bad], [HO.box [(U.f (F.int .i64 px)), (U.f (F.int .i64 py))], HO.box [(U.f (F.int .u64 0)), (U.f (F.int .u64 0)), (U.f (F.int .u64 0)), (U.f (F.int .u64 0)), (U.f (F.int .u64 0)), (U.f (F.int .u64 0)), (U.f (F.int .u64 0)), (U.f (F.int .u64 0))], HO.box [(U.f (F.bool (decide (u < 0)))), (U.f (halvesF (digs 4294967296 u.natAbs))), (U.f (F.bool (decide (d < 0)))), (U.f (halvesF (digs 4294967296 d.natAbs)))]]⟩
def T8_6 {ρ : Type} (ret : (F) → Option ρ) (c6 : (List Sg) → (Int) → (Int) → (Int) → (Int) → (Int) → (Int) → Option ρ) (l : List Sg) (px : Int) (py : Int) (b : Int) (u : Int) (d : Int) (i : Int) : Option ρ :=
 (bsel (decide (i < (↑l.length : Int)))
 (bsel (decide (0 ≤ i))
 (bsel (decide (i < (↑l.length : Int)))
 (bsel (isNearArg (l.getD i.toNat Sg.zero).x0 (l.getD i.toNat Sg.zero).y0 (l.getD i.toNat Sg.zero).x1 (l.getD i.toNat Sg.zero).y1 px py)
 (bsel (isL2r 390 (l2rF (lowU (nearU (l.getD i.toNat Sg.zero).x0 (l.getD i.toNat Sg.zero).y0 (l.getD i.toNat Sg.zero).x1 (l.getD i.toNat Sg.zero).y1 px py) (nearD (l.getD i.toNat Sg.zero).x0 (l.getD i.toNat Sg.zero).y0 (l.getD i.toNat Sg.zero).x1 (l.getD i.toNat Sg.zero).y1 px py)) (lowD (nearU (l.getD i.toNat Sg.zero).x0 (l.getD i.toNat Sg.zero).y0 (l.getD i.toNat Sg.zero).x1 (l.getD i.toNat Sg.zero).y1 px py) (nearD (l.getD i.toNat Sg.zero).x0 (l.getD i.toNat Sg.zero).y0 (l.getD i.toNat Sg.zero).x1 (l.getD i.toNat Sg.zero).y1 px py))) && isL2r 390 (l2rF u d))
 (bsel (decide ((unUp3 (l2rF (lowU (nearU (l.getD i.toNat Sg.zero).x0 (l.getD i.toNat Sg.zero).y0 (l.getD i.toNat Sg.zero).x1 (l.getD i.toNat Sg.zero).y1 px py) (nearD (l.getD i.toNat Sg.zero).x0 (l.getD i.toNat Sg.zero).y0 (l.getD i.toNat Sg.zero).x1 (l.getD i.toNat Sg.zero).y1 px py)) (lowD (nearU (l.getD i.toNat Sg.zero).x0 (l.getD i.toNat Sg.zero).y0 (l.getD i.toNat Sg.zero).x1 (l.getD i.toNat Sg.zero).y1 px py) (nearD (l.getD i.toNat Sg.zero).x0 (l.getD i.toNat Sg.zero).y0 (l.getD i.toNat Sg.zero).x1 (l.getD i.toNat Sg.zero).y1 px py))) * unDown3 (l2rF u d) - unUp3 (l2rF u d) * unDown3 (l2rF (lowU (nearU (l.getD i.toNat Sg.zero).x0 (l.getD i.toNat Sg.zero).y0 (l.getD i.toNat Sg.zero).x1 (l.getD i.toNat Sg.zero).y1 px py) (nearD (l.getD i.toNat Sg.zero).x0 (l.getD i.toNat Sg.zero).y0 (l.getD i.toNat Sg.zero).x1 (l.getD i.toNat Sg.zero).y1 px py)) (lowD (nearU (l.getD i.toNat Sg.zero).x0 (l.getD i.toNat Sg.zero).y0 (l.getD i.toNat Sg.zero).x1 (l.getD i.toNat Sg.zero).y1 px py) (nearD (l.getD i.toNat Sg.zero).x0 (l.getD i.toNat Sg.zero).y0 (l.getD i.toNat Sg.zero).x1 (l.getD i.toNat Sg.zero).y1 px py)))).sign < 0))
 (c6 (l) (px) (py) (i) (lowU (nearU (l.getD i.toNat Sg.zero).x0 (l.getD i.toNat Sg.zero).y0 (l.getD i.toNat Sg.zero).x1 (l.getD i.toNat Sg.zero).y1 px py) (nearD (l.getD i.toNat Sg.zero).x0 (l.getD i.toNat Sg.zero).y0 (l.getD i.toNat Sg.zero).x1 (l.getD i.toNat Sg.zero).y1 px py)) (lowD (nearU (l.getD i.toNat Sg.zero).x0 (l.getD i.toNat Sg.zero).y0 (l.getD i.toNat Sg.zero).x1 (l.getD i.toNat Sg.zero).y1 px py) (nearD (l.getD i.toNat Sg.zero).x0 (l.getD i.toNat Sg.zero).y0 (l.getD i.toNat Sg.zero).x1 (l.getD i.toNat Sg.zero).y1 px py)) (IntKind.i64.wrap (i + 1)))
 (c6 (l) (px) (py) (b) (u) (d) (IntKind.i64.wrap (i + 1))))
 none)
 none)
 none)
 none)
 (bsel (isL2r 800 (l2rF u d))
 (ret (F.tup [F.int .i64 b, F.agg [F.int .u64 (bif okT (unUp3 (l2rF u d)) (unDown3 (l2rF u d)) then wd3 (unUp3 (l2rF u d)) else 0), F.int .u64 (bif okT (unUp3 (l2rF u d)) (unDown3 (l2rF u d)) then wd2 (unUp3 (l2rF u d)) else 0), F.int .u64 (bif okT (unUp3 (l2rF u d)) (unDown3 (l2rF u d)) then wd1 (unUp3 (l2rF u d)) else 0), F.int .u64 (bif okT (unUp3 (l2rF u d)) (unDown3 (l2rF u d)) then wd0 (unUp3 (l2rF u d)) else 0), F.int .u64 (bif okT (unUp3 (l2rF u d)) (unDown3 (l2rF u d)) then wd3 (unDown3 (l2rF u d)) else 0), F.int .u64 (bif okT (unUp3 (l2rF u d)) (unDown3 (l2rF u d)) then wd2 (unDown3 (l2rF u d)) else 0), F.int .u64 (bif okT (unUp3 (l2rF u d)) (unDown3 (l2rF u d)) then wd1 (unDown3 (l2rF u d)) else 0), F.int .u64 (bif okT (unUp3 (l2rF u d)) (unDown3 (l2rF u d)) then wd0 (unDown3 (l2rF u d)) else 0)], F.bool true]))
 none))
def L8_6 : Nat → (List Sg) → (Int) → (Int) → (Int) → (Int) → (Int) → (Int) → Option (F)
  | 0, _, _, _, _, _, _, _ => none
  | k + 1, l, px, py, b, u, d, i => T8_6 some (L8_6 k) l px py b u d i
def T8 {ρ : Type} (ret : (F) → Option ρ) (c6 : (List Sg) → (Int) → (Int) → (Int) → (Int) → (Int) → (Int) → Option ρ) (l : List Sg) (px : Int) (py : Int) : Option ρ :=
 (bsel (isSegs (segsF l))
 (bsel ((!segsOkV (unSegs (segsF l))) == false)
 (bsel ((!spotOkV px py) == false)
 (bsel ((↑l.length : Int) == 0)
 (ret (F.tup [F.int .i64 0, F.agg [F.int .u64 0, F.int .u64 0, F.int .u64 0, F.int .u64 0, F.int .u64 0, F.int .u64 0, F.int .u64 0, F.int .u64 0], F.bool false]))
 (bsel (decide (0 < (↑l.length : Int)))
 (bsel (isNearArg (l.getD (Int.toNat 0) Sg.zero).x0 (l.getD (Int.toNat 0) Sg.zero).y0 (l.getD (Int.toNat 0) Sg.zero).x1 (l.getD (Int.toNat 0) Sg.zero).y1 px py)
 (c6 (l) (px) (py) (0) (lowU (nearU (l.getD (Int.toNat 0) Sg.zero).x0 (l.getD (Int.toNat 0) Sg.zero).y0 (l.getD (Int.toNat 0) Sg.zero).x1 (l.getD (Int.toNat 0) Sg.zero).y1 px py) (nearD (l.getD (Int.toNat 0) Sg.zero).x0 (l.getD (Int.toNat 0) Sg.zero).y0 (l.getD (Int.toNat 0) Sg.zero).x1 (l.getD (Int.toNat 0) Sg.zero).y1 px py)) (lowD (nearU (l.getD (Int.toNat 0) Sg.zero).x0 (l.getD (Int.toNat 0) Sg.zero).y0 (l.getD (Int.toNat 0) Sg.zero).x1 (l.getD (Int.toNat 0) Sg.zero).y1 px py) (nearD (l.getD (Int.toNat 0) Sg.zero).x0 (l.getD (Int.toNat 0) Sg.zero).y0 (l.getD (Int.toNat 0) Sg.zero).x1 (l.getD (Int.toNat 0) Sg.zero).y1 px py)) (1))
 none)
 none))
 (ret (F.tup [F.int .i64 0, F.agg [F.int .u64 0, F.int .u64 0, F.int .u64 0, F.int .u64 0, F.int .u64 0, F.int .u64 0, F.int .u64 0, F.int .u64 0], F.bool false])))
 (ret (F.tup [F.int .i64 0, F.agg [F.int .u64 0, F.int .u64 0, F.int .u64 0, F.int .u64 0, F.int .u64 0, F.int .u64 0, F.int .u64 0, F.int .u64 0], F.bool false])))
 none)
def G8 (k : Nat) (l : List Sg) (px : Int) (py : Int) : Option (F) := T8 some (L8_6 k) l px py
theorem t8_6 : ∀ (k : Nat) (l : List Sg) (px : Int) (py : Int) (b : Int) (u : Int) (d : Int) (i : Int) (r : F), L8_6 k l px py b u d i = some r → Ends Try.prog Try.f8.results.toList (at_ Try.f8 6) (S8_6 l px py b u d i) (r)
  | 0, _, _, _, _, _, _, _, _, h => nomatch h
  | k + 1, l, px, py, b, u, d, i, r, h => by
    refine Ends.of_cut tyOK envS8_ok (T := [(6, [0, 3, 5, 7, 8, 9], 1000)]) (n := 200) ?_
    have e : runCut Try.prog (tiOf Try.prog) envS8 [(6, [0, 3, 5, 7, 8, 9], 1000)] 0 Try.f8.results.toList some 200 (at_ Try.f8 6) (S8_6 l px py b u d i) = T8_6 (fun r => some (.ret (r))) (fun l px py b u d i => some (.cut (at_ Try.f8 6) (S8_6 l px py b u d i))) l px py b u d i := by kernel_rfl
    rw [e]
    exact (good_sel h (fun _ h => (good_sel h (fun _ h => (good_sel h (fun _ h => (good_sel h (fun _ h => (good_sel h (fun _ h => (good_sel h (fun _ h => good_cut (t8_6 k _ _ _ _ _ _ _ r h)) (fun _ h => good_cut (t8_6 k _ _ _ _ _ _ _ r h)))) (fun _ h => nomatch h))) (fun _ h => nomatch h))) (fun _ h => nomatch h))) (fun _ h => nomatch h))) (fun _ h => (good_sel h (fun _ h => good_ret (by cases h; rfl)) (fun _ h => nomatch h))))
theorem t8 (k : Nat) (l : List Sg) (px : Int) (py : Int) (r : F) (h : G8 k l px py = some r) : Ends Try.prog Try.f8.results.toList [.code (bodyOf Try.f8)] (start Try.f8.ntmps ([segsF l, F.agg [F.int .i64 px, F.int .i64 py]].map .f)) (r) := by
  refine Ends.of_run tyOK envS8_ok (T := [(6, [0, 3, 5, 7, 8, 9], 1000)]) (n := 200) ?_
  have e : run Try.prog (tiOf Try.prog) envS8 [(6, [0, 3, 5, 7, 8, 9], 1000)] 0 Try.f8.results.toList some 200 [.code (bodyOf Try.f8)] (start Try.f8.ntmps ([segsF l, F.agg [F.int .i64 px, F.int .i64 py]].map .f)) = T8 (fun r => some (.ret (r))) (fun l px py b u d i => some (.cut (at_ Try.f8 6) (S8_6 l px py b u d i))) l px py := by kernel_rfl
  rw [e]
  exact (good_sel h (fun _ h => (good_sel h (fun _ h => (good_sel h (fun _ h => (good_sel h (fun _ h => good_ret (by cases h; rfl)) (fun _ h => (good_sel h (fun _ h => (good_sel h (fun _ h => good_cut (t8_6 k _ _ _ _ _ _ _ r h)) (fun _ h => nomatch h))) (fun _ h => nomatch h))))) (fun _ h => good_ret (by cases h; rfl)))) (fun _ h => good_ret (by cases h; rfl)))) (fun _ h => nomatch h))
theorem low_mul {u d : Int} : lowU u d * gcdI u d = u ∧ lowD u d * gcdI u d = d := by
  have h1 : gcdI u d ∣ u := Int.gcd_dvd_left ..
  have h2 : gcdI u d ∣ d := Int.gcd_dvd_right ..
  exact ⟨Int.ediv_mul_cancel h1, Int.ediv_mul_cancel h2⟩
theorem low_bounds {u d : Int} (hu : 0 ≤ u) (hd : 0 < d) : 0 ≤ lowU u d ∧ lowU u d ≤ u ∧ 0 < lowD u d ∧ lowD u d ≤ d := by
  obtain ⟨g1, g2⟩ := gcdI_pos (u := u) hd
  obtain ⟨m1, m2⟩ := low_mul (u := u) (d := d)
  have a1 : 0 ≤ lowU u d := Int.ediv_nonneg hu (by omega)
  have a2 : 0 ≤ lowD u d := Int.ediv_nonneg (by omega) (by omega)
  have a3 : lowU u d ≤ u := Int.ediv_le_self _ hu
  have a4 : lowD u d ≤ d := Int.ediv_le_self _ (by omega)
  refine ⟨a1, a3, ?_, a4⟩
  rcases Int.lt_or_eq_of_le a2 with h | h
  · exact h
  · rw [← h, Int.zero_mul] at m2
    omega
theorem low_key {u d v e a b c f g h : Int} (m1 : a * g = u) (m2 : b * g = d) (m3 : c * h = v) (m4 : f * h = e) : u * e - v * d = (g * h) * (a * f - c * b) := by
  subst m1 m2 m3 m4
  grind
theorem low_cmp {u d v e : Int} (hd : 0 < d) (he : 0 < e) : lowU u d * lowD v e - lowU v e * lowD u d < 0 ↔ u * e - v * d < 0 := by
  obtain ⟨g1, _⟩ := gcdI_pos (u := u) hd
  obtain ⟨g2, _⟩ := gcdI_pos (u := v) he
  obtain ⟨m1, m2⟩ := low_mul (u := u) (d := d)
  obtain ⟨m3, m4⟩ := low_mul (u := v) (d := e)
  have hG := Int.mul_pos g1 g2
  have key := low_key m1 m2 m3 m4
  rw [key]
  generalize lowU u d * lowD v e - lowU v e * lowD u d = t at *
  constructor
  · intro h
    exact Int.mul_neg_of_pos_of_neg hG h
  · intro h
    rcases Int.lt_or_le t 0 with h1 | h1
    · exact h1
    · have := Int.mul_nonneg (Int.le_of_lt hG) h1
      omega
theorem low_ok {s : Int × Int × Int} (h : NearOk s) : isL2r 390 (l2rF (lowU s.2.1 s.2.2) (lowD s.2.1 s.2.2)) = true := by
  obtain ⟨h1, h2, h3, h4⟩ := low_bounds h.up0 h.down.1
  have hu := h.up
  have hd := h.down
  refine isL2r_l2rF (boundC_up (n := 4) ?_ (by omega)) (boundC_up (n := 4) ?_ (by omega))
  · show _ < 4294967296 ^ 4
    have : (4294967296 : Nat) ^ 4 = 18446744073709551616 ^ 2 := by decide
    rw [this]
    omega
  · show _ < 4294967296 ^ 4
    omega
theorem low_okT {s : Int × Int × Int} (h : NearOk s) : okT (lowU s.2.1 s.2.2) (lowD s.2.1 s.2.2) = true := by
  obtain ⟨h1, h2, h3, h4⟩ := low_bounds h.up0 h.down.1
  have hu := h.up
  have hd := h.down
  unfold okT
  rw [Bool.and_eq_true]
  exact ⟨isWide_iff.2 (by omega), isWide_iff.2 (by omega)⟩
theorem near3_loop {l : List Sg} {px py : Int} (hl : l.length ≤ 1000) (hin : ∀ s ∈ l, sgIn s) (hp : spotIn px py) : ∀ (rest : List Sg) (i k : Nat) (s : Int × Int × Int), l.drop i = rest → i + rest.length = l.length → NearOk s → rest.length < k →
    L8_6 k l px py s.1 (lowU s.2.1 s.2.2) (lowD s.2.1 s.2.2) i =
      some (.tup [.int .i64 (nearGo px py rest i s).1, toldF (lowU (nearGo px py rest i s).2.1 (nearGo px py rest i s).2.2) (lowD (nearGo px py rest i s).2.1 (nearGo px py rest i s).2.2), .bool true])
  | _, _, 0, _, _, _, _, h => by omega
  | [], i, k + 1, (b, u, d), hr, hi, hs, hk => by
    simp only [List.length_nil, Nat.add_zero] at hi
    subst hi
    have h8 : isL2r 800 (l2rF (lowU u d) (lowD u d)) = true := by
      obtain ⟨h1, h2⟩ := l2r_bound (low_ok hs)
      rw [unUp3_l2rF, unDown3_l2rF] at *
      exact isL2r_l2rF (boundC_up h1 (by omega)) (boundC_up h2 (by omega))
    rw [L8_6]
    unfold T8_6
    rw [decide_eq_false (by omega), bsel_false, h8, bsel_true, unUp3_l2rF, unDown3_l2rF]
    rfl
  | g :: rest, i, k + 1, (b, u, d), hr, hi, hs, hk => by
    obtain ⟨hx, hr', hlt⟩ := drop_consS hr
    have hg : sgIn g := hin g (by rw [← hx]; simp [List.getD, List.getElem?_eq_getElem hlt])
    have hn := nearOk_of hg hp (show (0 : Int) ≤ (i : Int) by omega)
    have hk' : rest.length < k := by simp at hk; omega
    have hi' : i + 1 + rest.length = l.length := by simp only [List.length_cons] at hi; omega
    have o1 := low_ok hn
    have o2 := low_ok hs
    simp only at o1 o2
    rw [L8_6]
    unfold T8_6
    rw [Int.toNat_natCast, hx]
    rw [show nearU g.x0 g.y0 g.x1 g.y1 px py = nU px py g from rfl, show nearD g.x0 g.y0 g.x1 g.y1 px py = nD px py g from rfl]
    rw [isNearArg_iff.2 ⟨hg.1, hg.2, hp⟩, o1, o2, unUp3_l2rF, unUp3_l2rF, unDown3_l2rF, unDown3_l2rF]
    rw [decide_eq_true (show (i : Int) < l.length by omega), decide_eq_true (show (0 : Int) ≤ i by omega), Bool.and_self, wrapI (by omega) (by omega), show (i : Int) + 1 = ((i + 1 : Nat) : Int) by omega]
    simp only [bsel_true, nearGo]
    have hcmp := low_cmp (u := nU px py g) (d := nD px py g) (v := u) (e := d) hn.down.1 hs.down.1
    by_cases hc : nU px py g * d - u * nD px py g < 0
    · rw [decide_eq_true (show (lowU (nU px py g) (nD px py g) * lowD u d - lowU u d * lowD (nU px py g) (nD px py g)).sign < 0 from Int.sign_neg_iff.2 (hcmp.2 hc)), bsel_true, if_pos hc]
      exact near3_loop hl hin hp rest (i + 1) k (i, nU px py g, nD px py g) hr' hi' hn hk'
    · rw [decide_eq_false (show ¬ (lowU (nU px py g) (nD px py g) * lowD u d - lowU u d * lowD (nU px py g) (nD px py g)).sign < 0 from fun h => hc (hcmp.1 (Int.sign_neg_iff.1 h))), bsel_false, if_neg hc]
      exact near3_loop hl hin hp rest (i + 1) k (b, u, d) hr' hi' hs hk'
theorem ns_ok (l : List Sg) (px py : Int) : okT (nsU l px py) (nsD l px py) = isNearest l px py := by
  cases h : isNearest l px py with
  | false =>
    simp only [nsU, nsD, h, cond_false]
    exact okT_none
  | true =>
    obtain ⟨k1, k2, k3, k4⟩ := isNearest_iff h
    have ho := nearAll_ok k4 k1 k3
    simp only [nsU, nsD, h, cond_true]
    exact low_okT ho
theorem ns3_law (l : List Sg) (px py : Int) : G8 2000 l px py = some (.tup [.int .i64 (nsI l px py), toldF (nsU l px py) (nsD l px py), .bool (okT (nsU l px py) (nsD l px py))]) := by
  unfold G8 T8
  simp only [isSegs_segsF, unSegs_segsF, bsel_true]
  have no : isNearest l px py = false → some (F.tup [F.int .i64 0, F.agg [F.int .u64 0, F.int .u64 0, F.int .u64 0, F.int .u64 0, F.int .u64 0, F.int .u64 0, F.int .u64 0, F.int .u64 0], F.bool false]) = some (.tup [.int .i64 (nsI l px py), toldF (nsU l px py) (nsD l px py), .bool (okT (nsU l px py) (nsD l px py))]) := by
    intro h
    simp only [nsI, nsU, nsD, h, cond_false]
    rw [toldF_none okT_none, okT_none]
  cases h1 : segsOkV l with
  | false => exact no (by simp [isNearest, h1])
  | true =>
    cases h2 : spotOkV px py with
    | false => exact no (by simp [isNearest, h1, h2])
    | true =>
      cases l with
      | nil => exact no (by simp [isNearest, h1, h2])
      | cons g rest =>
        have hn : isNearest (g :: rest) px py = true := by
          simp only [isNearest, h1, h2, Bool.true_and, Bool.not_eq_true']
          rfl
        obtain ⟨k1, k2, k3, k4⟩ := isNearest_iff hn
        have hg := k3 g (by simp)
        have hok := nearOk_of (px := px) (py := py) hg k4 (show (0 : Int) ≤ 0 by omega)
        have hloop := near3_loop (l := g :: rest) (by omega) k3 k4 rest 1 2000 (0, nU px py g, nD px py g) rfl (by simp; omega) hok (by simp at k2; omega)
        rw [ns_ok, hn]
        simp only [nsI, nsU, nsD, hn, cond_true]
        rw [show (((g :: rest).length : Int) == 0) = false by simp only [beq_eq_false_iff_ne, ne_eq, List.length_cons]; omega, decide_eq_true (show (0 : Int) < ((g :: rest).length : Int) by simp), show Int.toNat 0 = 0 from rfl, List.getD_cons_zero, isNearArg_iff.2 ⟨hg.1, hg.2, k4⟩]
        exact hloop
theorem okNSS : PureOK Try.prog 8 preNS resNS :=
  fn_pure_at (c := bodyOf Try.f8) Try.func8 (by kernel_rfl) (by kernel_rfl) fun xs hp => match xs, hp with
  | [x, .agg [.int .i64 a, .int .i64 b]], hp => ⟨[segsF (unSegs x), _], _, ⟨(segs_eqv hp).1, .refl _, trivial⟩, t8 2000 _ _ _ _ (ns3_law _ _ _), .refl _⟩
def envS9 : Env := ((envS8.or envN20).add 8 (.pure preNS resNS)).add 11 (.pure preNS resNS)
theorem envS9_ok : EnvOK Try.prog envS9 := Env.add_ok (Env.add_ok (Env.or_ok envS8_ok envN20_ok) okNSS.sp) okNSI.sp
end
end Go.Proofs.Ytmambbfnjbdfgaa.R

namespace Go.Proofs.Ytmambbfnjbdfgaa.R
open Go
set_option linter.unusedVariables false
theorem cross_le {u d v e x y : Int} (hd : 0 < d) (he : 0 < e) (hy : 0 < y) (h1 : v * d < u * e) (h2 : u * y ≤ x * d) : v * y < x * e := by
  have a1 : v * d * y < u * e * y := Int.mul_lt_mul_of_pos_right h1 hy
  have a2 : u * y * e ≤ x * d * e := Int.mul_le_mul_of_nonneg_right h2 (Int.le_of_lt he)
  have a3 : v * y * d < x * e * d := by
    have e1 : v * y * d = v * d * y := by grind
    have e2 : u * e * y = u * y * e := by grind
    have e3 : x * d * e = x * e * d := by grind
    omega
  exact Int.lt_of_mul_lt_mul_right a3 (Int.le_of_lt hd)
structure Best (px py : Int) (l : List Sg) (i : Nat) (s : Int × Int × Int) : Prop where
  at_ : ∃ n : Nat, s.1 = n ∧ n < i ∧ s.2.1 = nU px py (l.getD n .zero) ∧ s.2.2 = nD px py (l.getD n .zero)
  pos : 0 < s.2.2
  least : ∀ j, j < i → s.2.1 * nD px py (l.getD j .zero) ≤ nU px py (l.getD j .zero) * s.2.2 ∧ (s.2.1 * nD px py (l.getD j .zero) = nU px py (l.getD j .zero) * s.2.2 → s.1 ≤ j)
theorem best_go {px py : Int} (hp : spotIn px py) (l : List Sg) (hin : ∀ g ∈ l, sgIn g) : ∀ (rest : List Sg) (i : Nat) (s : Int × Int × Int), l.drop i = rest → Best px py l i s → i ≤ l.length → Best px py l l.length (nearGo px py rest i s)
  | [], i, s, hr, hb, hi => by
    have : l.length ≤ i := by
      rcases Nat.lt_or_ge i l.length with h | h
      · rw [List.drop_eq_getElem_cons h] at hr; cases hr
      · exact h
    obtain rfl : i = l.length := by omega
    exact hb
  | g :: rest, i, (b, u, d), hr, hb, hi => by
    obtain ⟨hx, hr', hlt⟩ := drop_consS hr
    have hpos : ∀ j, j < l.length → 0 < nD px py (l.getD j .zero) := fun j hj => by
      have hg : sgIn (l.getD j .zero) := hin _ (by simp [List.getD, List.getElem?_eq_getElem hj])
      exact (near_bounds hg.1 hg.2 hp).2.2.1
    simp only [nearGo]
    refine best_go hp l hin rest (i + 1) _ hr' ?_ (by omega)
    obtain ⟨⟨n, h1, h2, h3, h4⟩, h5, h6⟩ := hb
    simp only at h1 h3 h4 h5 h6
    have hgpos := hpos i hlt
    rw [hx] at hgpos
    by_cases hc : nU px py g * d - u * nD px py g < 0
    · rw [if_pos hc]
      refine ⟨⟨i, rfl, by omega, by rw [hx], by rw [hx]⟩, hgpos, fun j hj => ?_⟩
      simp only
      by_cases hji : j = i
      · subst hji; rw [hx]; exact ⟨Int.le_refl _, fun _ => Int.le_refl _⟩
      · have hj' : j < i := by omega
        have := cross_le (u := u) (d := d) (v := nU px py g) (e := nD px py g) h5 hgpos (hpos j (by omega)) (by omega) (h6 j hj').1
        exact ⟨by omega, fun e => by omega⟩
    · rw [if_neg hc]
      refine ⟨⟨n, h1, by omega, h3, h4⟩, h5, fun j hj => ?_⟩
      simp only
      by_cases hji : j = i
      · subst hji; rw [hx]; exact ⟨by omega, fun _ => by omega⟩
      · exact h6 j (by omega)
theorem nearAll_best {px py : Int} (hp : spotIn px py) {l : List Sg} (h0 : l ≠ []) (hin : ∀ g ∈ l, sgIn g) : Best px py l l.length (nearAll px py l) := by
  cases l with
  | nil => exact absurd rfl h0
  | cons g r =>
    have hg := hin g (by simp)
    have hn := near_bounds hg.1 hg.2 hp
    refine best_go hp (g :: r) hin r 1 _ rfl ⟨⟨0, rfl, by omega, rfl, rfl⟩, hn.2.2.1, fun j hj => ?_⟩ (by simp)
    obtain rfl : j = 0 := by omega
    exact ⟨Int.le_refl _, fun _ => Int.le_refl _⟩
theorem red_spec {u d : Int} (hu : 0 ≤ u) (hd : 0 < d) : 0 < gcdI u d ∧ u = u / gcdI u d * gcdI u d ∧ d = d / gcdI u d * gcdI u d ∧ 0 ≤ u / gcdI u d ∧ u / gcdI u d ≤ u ∧ 0 < d / gcdI u d ∧ d / gcdI u d ≤ d ∧ gcdI (u / gcdI u d) (d / gcdI u d) = 1 := by
  obtain ⟨a, rfl⟩ := Int.eq_ofNat_of_zero_le hu
  obtain ⟨b, rfl⟩ := Int.eq_ofNat_of_zero_le (Int.le_of_lt hd)
  have hb : 0 < b := by omega
  have hg := Nat.gcd_pos_of_pos_right a hb
  have e1 : gcdI (a : Int) (b : Int) = ((Nat.gcd a b : Nat) : Int) := rfl
  have e2 : (a : Int) / ((Nat.gcd a b : Nat) : Int) = ((a / Nat.gcd a b : Nat) : Int) := (Int.natCast_ediv a _).symm
  have e3 : (b : Int) / ((Nat.gcd a b : Nat) : Int) = ((b / Nat.gcd a b : Nat) : Int) := (Int.natCast_ediv b _).symm
  rw [e1, e2, e3]
  have m1 := Nat.div_mul_cancel (Nat.gcd_dvd_left a b)
  have m2 := Nat.div_mul_cancel (Nat.gcd_dvd_right a b)
  have l1 := Nat.div_le_self a (Nat.gcd a b)
  have l2 := Nat.div_le_self b (Nat.gcd a b)
  have p2 := Nat.div_pos (Nat.le_of_dvd hb (Nat.gcd_dvd_right a b)) hg
  refine ⟨by omega, ?_, ?_, Int.natCast_nonneg _, by omega, by omega, by omega, ?_⟩
  · rw [← Int.natCast_mul, m1]
  · rw [← Int.natCast_mul, m2]
  · show ((Nat.gcd (a / Nat.gcd a b) (b / Nat.gcd a b) : Nat) : Int) = 1
    rw [Nat.gcd_div (Nat.gcd_dvd_left a b) (Nat.gcd_dvd_right a b), Nat.div_self hg]
    rfl
theorem red_cross {u d v e : Int} (hu : 0 ≤ u) (hd : 0 < d) (hv : 0 ≤ v) (he : 0 < e) : (u / gcdI u d * (e / gcdI v e) - v / gcdI v e * (d / gcdI u d)).sign = (u * e - v * d).sign := by
  obtain ⟨g1, a1, a2, _, _, _, _, _⟩ := red_spec hu hd
  obtain ⟨g2, b1, b2, _, _, _, _, _⟩ := red_spec hv he
  generalize u / gcdI u d = x at *
  generalize d / gcdI u d = y at *
  generalize v / gcdI v e = z at *
  generalize e / gcdI v e = w at *
  generalize gcdI u d = g at *
  generalize gcdI v e = f at *
  have hm : 0 < g * f := Int.mul_pos g1 g2
  have : u * e - v * d = (x * w - z * y) * (g * f) := by
    rw [a1, a2, b1, b2]
    grind
  rw [this, Int.sign_mul, Int.sign_eq_one_of_pos hm, Int.mul_one]
def wdsV (a b c d : Int) : Int := d + 18446744073709551616 * (c + 18446744073709551616 * (b + 18446744073709551616 * a))
theorem wdsV_wd {z : Int} (h0 : 0 ≤ z) (h : isWide z = true) : wdsV (wd3 z) (wd2 z) (wd1 z) (wd0 z) = z ∧ 0 ≤ wd3 z ∧ wd3 z < 9223372036854775808 ∧ (0 ≤ wd2 z ∧ wd2 z < 18446744073709551616) ∧ (0 ≤ wd1 z ∧ wd1 z < 18446744073709551616) ∧ (0 ≤ wd0 z ∧ wd0 z < 18446744073709551616) := by
  have hw := (isWide_iff.1 h).2
  simp only [wdsV, wd3, wd2, wd1, wd0, h, cond_true]
  omega
end Go.Proofs.Ytmambbfnjbdfgaa.R

namespace Go.Proofs.Ytmambbfnjbdfgaa.R
open Go
noncomputable section
set_option linter.unusedVariables false
set_option linter.unusedSimpArgs false
set_option maxRecDepth 100000
/-! ### function 86 -/
def S86_5 (m : Nat) (g : Nat → F) (n : Int) (i : Int) : St := ⟨[.bad, .bad, (U.hp 0 0), (U.hs 1 m 0 m), .bad, .bad, .bad, .bad, .bad, .bad, .bad, .bad, .bad, .bad, .bad, .bad, .bad, .bad, .bad, .bad, .bad, (U.f (F.int .i64 n)), (U.f (F.int .i64 i)), .bad, .bad, .bad, .bad, .bad, .bad, .bad, .bad, .bad, .bad, .bad, .bad, .bad, .bad, .bad, .bad], [HO.box [(U.f (F.bool false)), U.nils], HO.arr 1 m g]⟩
def T86_5 {ρ : Type} (ret : (F) → Option ρ) (c5 : (Nat) → (Nat → F) → (Int) → (Int) → Option ρ) (m : Nat) (g : Nat → F) (n : Int) (i : Int) : Option ρ :=
 (bsel (decide (i < n))
 (bsel (decide (m = m))
 (bsel (decide (0 ≤ i))
 (bsel (decide (i < (↑m : Int)))
 (bsel (decide (m = m))
 (bsel (decide (0 + i.toNat < m))
 (bsel (decide ((g (0 + i.toNat)).cells.length = 1))
 (bsel (okV (Value.int IntKind.u64 0) ((List.drop 0 (g (0 + i.toNat)).cells).headD F.dflt) && true)
 (bsel (decide (m = m))
 (bsel (decide (0 ≤ i))
 (bsel (decide (i < (↑m : Int)))
 (bsel (decide (m = m))
 (bsel (decide (0 + i.toNat < m))
 (bsel (decide ((g (0 + i.toNat)).cells.length = 1))
 (bsel ((isAggF (g (0 + i.toNat)) || true) && true)
 (c5 (m) (fun j ↦ if j = 0 + i.toNat then F.int .u64 (bitsOp BinOp.xor IntKind.u64 (if IntKind.u64.signed = true then -1 else IntKind.u64.max) (intOf ((List.drop 0 (g (0 + i.toNat)).cells).headD F.dflt))) else g j) (n) (IntKind.i64.wrap (i + 1)))
 none)
 none)
 none)
 none)
 none)
 none)
 none)
 none)
 none)
 none)
 none)
 none)
 none)
 none)
 (bsel (decide (m = m))
 (bsel (isWords (F.sl m (offF 0 g)) && decide ((unWords (F.sl m (offF 0 g))).length ≤ 1000))
 (bsel (isWords (resTrim [F.sl m (offF 0 g)]) && lenOk 900 (resTrim [F.sl m (offF 0 g)]) && true)
 (bsel (isWords (resAddW [resTrim [F.sl m (offF 0 g)], F.sl 1 (lget [F.int .u64 1])]) && lenOk 1000 (resAddW [resTrim [F.sl m (offF 0 g)], F.sl 1 (lget [F.int .u64 1])]))
 (ret (numF (sgn true (val 18446744073709551616 (unWords (resAddW [resTrim [F.sl m (offF 0 g)], F.sl 1 (lget [F.int .u64 1])]))))))
 none)
 none)
 none)
 none))
def L86_5 : Nat → (Nat) → (Nat → F) → (Int) → (Int) → Option (F)
  | 0, _, _, _, _ => none
  | k + 1, m, g, n, i => T86_5 some (L86_5 k) m g n i
def T86 {ρ : Type} (ret : (F) → Option ρ) (c5 : (Nat) → (Nat → F) → (Int) → (Int) → Option ρ) (a : Int) (b : Int) (c : Int) (d : Int) : Option ρ :=
 (bsel (a.fdiv (2 ^ min (Int.toNat 63) IntKind.u64.bits) == 0)
 (bsel (isWords (F.sl 4 (offF 0 (lget [F.int .u64 d, F.int .u64 c, F.int .u64 b, F.int .u64 a]))) && true)
 (ret (numF (sgn false (val 18446744073709551616 (unWords (F.sl 4 (offF 0 (lget [F.int .u64 d, F.int .u64 c, F.int .u64 b, F.int .u64 a]))))))))
 none)
 (c5 (4) (lget [F.int .u64 d, F.int .u64 c, F.int .u64 b, F.int .u64 a]) (((4 : Nat) : Int)) (0)))
def G86 (k : Nat) (a : Int) (b : Int) (c : Int) (d : Int) : Option (F) := T86 some (L86_5 k) a b c d
theorem t86_5 : ∀ (k : Nat) (m : Nat) (g : Nat → F) (n : Int) (i : Int) (r : F), L86_5 k m g n i = some r → Ends Try.prog Try.f86.results.toList (at_ Try.f86 5) (S86_5 m g n i) (r)
  | 0, _, _, _, _, _, h => nomatch h
  | k + 1, m, g, n, i, r, h => by
    refine Ends.of_cut tyOK envN20_ok (T := [(5, [2, 3, 21, 22], 1000)]) (n := 200) ?_
    have e : runCut Try.prog (tiOf Try.prog) envN20 [(5, [2, 3, 21, 22], 1000)] 0 Try.f86.results.toList some 200 (at_ Try.f86 5) (S86_5 m g n i) = T86_5 (fun r => some (.ret (r))) (fun m g n i => some (.cut (at_ Try.f86 5) (S86_5 m g n i))) m g n i := by kernel_rfl
    rw [e]
    exact (good_sel h (fun _ h => (good_sel h (fun _ h => (good_sel h (fun _ h => (good_sel h (fun _ h => (good_sel h (fun _ h => (good_sel h (fun _ h => (good_sel h (fun _ h => (good_sel h (fun _ h => (good_sel h (fun _ h => (good_sel h (fun _ h => (good_sel h (fun _ h => (good_sel h (fun _ h => (good_sel h (fun _ h => (good_sel h (fun _ h => (good_sel h (fun _ h => good_cut (t86_5 k _ _ _ _ r h)) (fun _ h => nomatch h))) (fun _ h => nomatch h))) (fun _ h => nomatch h))) (fun _ h => nomatch h))) (fun _ h => nomatch h))) (fun _ h => nomatch h))) (fun _ h => nomatch h))) (fun _ h => nomatch h))) (fun _ h => nomatch h))) (fun _ h => nomatch h))) (fun _ h => nomatch h))) (fun _ h => nomatch h))) (fun _ h => nomatch h))) (fun _ h => nomatch h))) (fun _ h => (good_sel h (fun _ h => (good_sel h (fun _ h => (good_sel h (fun _ h => (good_sel h (fun _ h => good_ret (by cases h; rfl)) (fun _ h => nomatch h))) (fun _ h => nomatch h))) (fun _ h => nomatch h))) (fun _ h => nomatch h))))
theorem t86 (k : Nat) (a : Int) (b : Int) (c : Int) (d : Int) (r : F) (h : G86 k a b c d = some r) : Ends Try.prog Try.f86.results.toList [.code (bodyOf Try.f86)] (start Try.f86.ntmps ([F.agg [F.int .u64 a, F.int .u64 b, F.int .u64 c, F.int .u64 d]].map .f)) (r) := by
  refine Ends.of_run tyOK envN20_ok (T := [(5, [2, 3, 21, 22], 1000)]) (n := 200) ?_
  have e : run Try.prog (tiOf Try.prog) envN20 [(5, [2, 3, 21, 22], 1000)] 0 Try.f86.results.toList some 200 [.code (bodyOf Try.f86)] (start Try.f86.ntmps ([F.agg [F.int .u64 a, F.int .u64 b, F.int .u64 c, F.int .u64 d]].map .f)) = T86 (fun r => some (.ret (r))) (fun m g n i => some (.cut (at_ Try.f86 5) (S86_5 m g n i))) a b c d := by kernel_rfl
  rw [e]
  exact (good_sel h (fun _ h => (good_sel h (fun _ h => good_ret (by cases h; rfl)) (fun _ h => nomatch h))) (fun _ h => good_cut (t86_5 k _ _ _ _ r h)))
def isU64 (a : Int) : Bool := decide (0 ≤ a) && decide (a < 18446744073709551616)
def isUw (a b c d : Int) : Bool := isU64 a && decide (a < 9223372036854775808) && (isU64 b && isU64 c && isU64 d)
theorem isUw_iff {a b c d : Int} : isUw a b c d = true ↔ (0 ≤ a ∧ a < 9223372036854775808) ∧ (0 ≤ b ∧ b < 18446744073709551616) ∧ (0 ≤ c ∧ c < 18446744073709551616) ∧ (0 ≤ d ∧ d < 18446744073709551616) := by
  simp only [isUw, isU64, Bool.and_eq_true, decide_eq_true_eq]
  omega
theorem wdsV_bound {a b c d : Int} (h : isUw a b c d = true) : 0 ≤ wdsV a b c d ∧ wdsV a b c d < 57896044618658097711785492504343953926634992332820282019728792003956564819968 := by
  have := isUw_iff.1 h
  unfold wdsV
  omega
theorem wnum_law {a b c d : Int} (h : isUw a b c d = true) : G86 1 a b c d = some (numF (wdsV a b c d)) := by
  obtain ⟨⟨a1, a2⟩, ⟨b1, b2⟩, ⟨c1, c2⟩, d1, d2⟩ := isUw_iff.1 h
  have e0 : (a.fdiv (2 ^ min (Int.toNat 63) IntKind.u64.bits) == 0) = true := by
    rw [show ((2 : Int) ^ min (Int.toNat 63) IntKind.u64.bits) = 9223372036854775808 from rfl, Int.fdiv_eq_ediv_of_nonneg _ (by omega), beq_iff_eq]
    omega
  have w : ∀ {z : Int}, 0 ≤ z ∧ z < 18446744073709551616 → isW64 (F.int .u64 z) = true := fun h => by
    simp only [isW64, Bool.and_eq_true, decide_eq_true_eq]
    omega
  have e1 : isWords (F.sl 4 (offF 0 (lget [F.int .u64 d, F.int .u64 c, F.int .u64 b, F.int .u64 a]))) = true := by
    simp only [isWords, isSl, List.all_eq_true, List.mem_range]
    intro i hi
    match i, hi with
    | 0, _ => exact w ⟨d1, d2⟩
    | 1, _ => exact w ⟨c1, c2⟩
    | 2, _ => exact w ⟨b1, b2⟩
    | 3, _ => exact w ⟨a1, by omega⟩
  have e2 : unWords (F.sl 4 (offF 0 (lget [F.int .u64 d, F.int .u64 c, F.int .u64 b, F.int .u64 a]))) = [d.toNat, c.toNat, b.toNat, a.toNat] := rfl
  have e3 : sgn false (val 18446744073709551616 [d.toNat, c.toNat, b.toNat, a.toNat]) = wdsV a b c d := by
    simp only [sgn, val, wdsV, Nat.mul_zero, Nat.add_zero, Bool.false_eq_true, if_false]
    omega
  unfold G86 T86
  rw [e0, e1, e2, e3]
  rfl
def preWn : List F → Bool | [.agg [.int .u64 a, .int .u64 b, .int .u64 c, .int .u64 d]] => isUw a b c d | _ => false
def resWn : List F → F | [.agg [.int .u64 a, .int .u64 b, .int .u64 c, .int .u64 d]] => numF (wdsV a b c d) | _ => .dflt
theorem okWn : PureOK Try.prog 86 preWn resWn :=
  fn_pure (c := bodyOf Try.f86) Try.func86 (by kernel_rfl) (by kernel_rfl) fun xs hp => match xs, hp with
  | [.agg [.int .u64 a, .int .u64 b, .int .u64 c, .int .u64 d]], hp => t86 1 a b c d _ (wnum_law hp)
def envU1 : Env := envN20.add 86 (.pure preWn resWn)
theorem envU1_ok : EnvOK Try.prog envU1 := Env.add_ok envN20_ok okWn.sp
end
end Go.Proofs.Ytmambbfnjbdfgaa.R

namespace Go.Proofs.Ytmambbfnjbdfgaa.R
open Go
noncomputable section
set_option linter.unusedVariables false
set_option linter.unusedSimpArgs false
set_option maxRecDepth 100000
/-! ### function 48 -/
def T48 {ρ : Type} (ret : (F) → Option ρ) (a : Int) (b : Int) (c : Int) (d : Int) (p : Int) (q : Int) (u : Int) (v : Int) : Option ρ :=
 (bsel (isUw a b c d)
 (bsel (isUw p q u v)
 (ret (ratF (wdsV a b c d) (wdsV p q u v)))
 none)
 none)
def G48 (a : Int) (b : Int) (c : Int) (d : Int) (p : Int) (q : Int) (u : Int) (v : Int) : Option (F) := T48 some a b c d p q u v
theorem t48 (a : Int) (b : Int) (c : Int) (d : Int) (p : Int) (q : Int) (u : Int) (v : Int) (r : F) (h : G48 a b c d p q u v = some r) : Ends Try.prog Try.f48.results.toList [.code (bodyOf Try.f48)] (start Try.f48.ntmps ([F.agg [F.int .u64 a, F.int .u64 b, F.int .u64 c, F.int .u64 d, F.int .u64 p, F.int .u64 q, F.int .u64 u, F.int .u64 v]].map .f)) (r) := by
  refine Ends.of_run tyOK envU1_ok (T := []) (n := 200) ?_
  have e : run Try.prog (tiOf Try.prog) envU1 [] 0 Try.f48.results.toList some 200 [.code (bodyOf Try.f48)] (start Try.f48.ntmps ([F.agg [F.int .u64 a, F.int .u64 b, F.int .u64 c, F.int .u64 d, F.int .u64 p, F.int .u64 q, F.int .u64 u, F.int .u64 v]].map .f)) = T48 (fun r => some (.ret (r))) a b c d p q u v := by kernel_rfl
  rw [e]
  exact (good_sel h (fun _ h => (good_sel h (fun _ h => good_ret (by cases h; rfl)) (fun _ h => nomatch h))) (fun _ h => nomatch h))
def preRt : List F → Bool | [.agg [.int .u64 a, .int .u64 b, .int .u64 c, .int .u64 d, .int .u64 e, .int .u64 f, .int .u64 u, .int .u64 v]] => isUw a b c d && isUw e f u v | _ => false
def resRt : List F → F | [.agg [.int .u64 a, .int .u64 b, .int .u64 c, .int .u64 d, .int .u64 e, .int .u64 f, .int .u64 u, .int .u64 v]] => ratF (wdsV a b c d) (wdsV e f u v) | _ => .dflt
theorem okRatio : PureOK Try.prog 48 preRt resRt :=
  fn_pure (c := bodyOf Try.f48) Try.func48 (by kernel_rfl) (by kernel_rfl) fun xs hp => match xs, hp with
  | [.agg [.int .u64 a, .int .u64 b, .int .u64 c, .int .u64 d, .int .u64 e, .int .u64 f, .int .u64 u, .int .u64 v]], hp => by
    simp only [preRt, Bool.and_eq_true] at hp
    exact t48 a b c d e f u v _ (by
      unfold G48 T48
      simp only [hp.1, hp.2, bsel_true]
      rfl)
def envU1b : Env := envU1.add 48 (.pure preRt resRt)
theorem envU1b_ok : EnvOK Try.prog envU1b := Env.add_ok envU1_ok okRatio.sp
end
end Go.Proofs.Ytmambbfnjbdfgaa.R

namespace Go.Proofs.Ytmambbfnjbdfgaa.R
open Go
noncomputable section
set_option linter.unusedVariables false
set_option linter.unusedSimpArgs false
set_option maxRecDepth 100000
/-! ### function 47 -/
def T47 {ρ : Type} (ret : (Bool) → Option ρ) (a : Int) (b : Int) (c : Int) (d : Int) (p : Int) (q : Int) (u : Int) (v : Int) : Option ρ :=
 (bsel (isUw a b c d && isUw p q u v)
 (bsel (isNum 400 (numF (wdsV p q u v)))
 (bsel (decide ((unNum (numF (wdsV p q u v))).sign > 0) == true)
 (bsel (isNums 400 (F.sl 2 (lget [numF (wdsV a b c d), numF (wdsV p q u v)])) && gcdOk (unNums (F.sl 2 (lget [numF (wdsV a b c d), numF (wdsV p q u v)]))))
 (bsel (isNum 399 (resGcd [F.sl 2 (lget [numF (wdsV a b c d), numF (wdsV p q u v)])]) && true)
 (ret ((unNum (resGcd [F.sl 2 (lget [numF (wdsV a b c d), numF (wdsV p q u v)])]) - unNum (resWhole [F.int .i64 1])).sign == 0))
 none)
 none)
 (ret (false)))
 none)
 none)
def G47 (a : Int) (b : Int) (c : Int) (d : Int) (p : Int) (q : Int) (u : Int) (v : Int) : Option (Bool) := T47 some a b c d p q u v
theorem t47 (a : Int) (b : Int) (c : Int) (d : Int) (p : Int) (q : Int) (u : Int) (v : Int) (r : Bool) (h : G47 a b c d p q u v = some r) : Ends Try.prog Try.f47.results.toList [.code (bodyOf Try.f47)] (start Try.f47.ntmps ([F.agg [F.int .u64 a, F.int .u64 b, F.int .u64 c, F.int .u64 d, F.int .u64 p, F.int .u64 q, F.int .u64 u, F.int .u64 v]].map .f)) (F.bool r) := by
  refine Ends.of_run tyOK envU1b_ok (T := []) (n := 200) ?_
  have e : run Try.prog (tiOf Try.prog) envU1b [] 0 Try.f47.results.toList some 200 [.code (bodyOf Try.f47)] (start Try.f47.ntmps ([F.agg [F.int .u64 a, F.int .u64 b, F.int .u64 c, F.int .u64 d, F.int .u64 p, F.int .u64 q, F.int .u64 u, F.int .u64 v]].map .f)) = T47 (fun r => some (.ret (F.bool r))) a b c d p q u v := by kernel_rfl
  rw [e]
  exact (good_sel h (fun _ h => (good_sel h (fun _ h => (good_sel h (fun _ h => (good_sel h (fun _ h => (good_sel h (fun _ h => good_ret (by cases h; rfl)) (fun _ h => nomatch h))) (fun _ h => nomatch h))) (fun _ h => good_ret (by cases h; rfl)))) (fun _ h => nomatch h))) (fun _ h => nomatch h))
def isRed (u d : Int) : Bool := bif decide (d.sign > 0) then ((gcdI u d - 1).sign == 0) else false
theorem isRed_of {u d : Int} (h : 0 < d) (hg : gcdI u d = 1) : isRed u d = true := by
  unfold isRed
  rw [decide_eq_true (show d.sign > 0 by rw [Int.sign_eq_one_of_pos h]; omega), cond_true, hg]
  rfl
theorem ratioOk_law {a b c d e f u v : Int} (h1 : isUw a b c d = true) (h2 : isUw e f u v = true) (h3 : wdsV e f u v < 18446744073709551616) : G47 a b c d e f u v = some (isRed (wdsV a b c d) (wdsV e f u v)) := by
  obtain ⟨a1, a2⟩ := wdsV_bound h1
  obtain ⟨b1, b2⟩ := wdsV_bound h2
  have hp : 57896044618658097711785492504343953926634992332820282019728792003956564819968 ≤ 18446744073709551616 ^ 4 := by decide
  unfold G47 T47
  generalize wdsV a b c d = x at *
  generalize wdsV e f u v = y at *
  have hx : x.natAbs < 18446744073709551616 ^ 4 := by omega
  have hy : y.natAbs < 18446744073709551616 ^ 1 := by rw [Nat.pow_one]; omega
  have e0 : isNums 400 (F.sl 2 (lget [numF x, numF y])) = true := by
    simp only [isNums, isSl, List.all_eq_true, List.mem_range]
    intro i hi
    match i, hi with
    | 0, _ => exact isNum_numF (bound_up hx (by omega))
    | 1, _ => exact isNum_numF (bound_up hy (by omega))
  have e1 : unNums (F.sl 2 (lget [numF x, numF y])) = [x, y] := by
    show [unNum (numF x), unNum (numF y)] = _
    rw [unNum_numF, unNum_numF]
  have e2 : gcdOk [x, y] = true := gcdOk_iff.2 ⟨by simp, fun z hz => by simp at hz; subst hz; rwa [Nat.pow_one] at hy⟩
  have e3 : ((gcdFrom 0 [x, y] : Nat) : Int) = gcdI x y := by rw [gcdFrom_two]; rfl
  have e4 : isNum 400 (numF y) = true := isNum_numF (bound_up hy (by omega))
  have e5 : isNum 399 (numF 1) = true := isNum_numF (bound_up (x := 1) (n := 1) (by decide) (by omega))
  have e6 : isI64 1 = true := by decide
  have e7 : 0 < y → isNum 399 (numF (gcdI x y)) = true := fun h => by
    obtain ⟨g1, g2⟩ := gcdI_pos (u := x) h
    exact isNum_numF (bound_up (n := 1) (by rw [Nat.pow_one]; omega) (by omega))
  have e8 : resGcd [F.sl 2 (lget [numF x, numF y])] = numF (gcdI x y) := by
    show numF (gcdFrom 0 (unNums (F.sl 2 (lget [numF x, numF y]))) : Nat) = _
    rw [e1, e3]
  have e9 : unNum (resWhole [F.int .i64 1]) = 1 := unNum_numF 1
  have tt : (true == true) = true := rfl
  have ft : (false == true) = false := rfl
  unfold isRed
  simp only [h1, h2, e0, e1, e2, e3, e4, e5, e6, unNum_numF, Bool.and_self, bsel_true]
  by_cases hd : y.sign > 0
  · have hy0 : 0 < y := Int.sign_pos_iff.1 hd
    simp only [decide_eq_true hd, e7 hy0, e8, e9, tt, unNum_numF, Bool.and_self, bsel_true, cond_true]
  · simp only [decide_eq_false hd, ft, bsel_false, cond_false]
def preRt1 : List F → Bool | [.agg [.int .u64 a, .int .u64 b, .int .u64 c, .int .u64 d, .int .u64 e, .int .u64 f, .int .u64 u, .int .u64 v]] => isUw a b c d && isUw e f u v && decide (wdsV e f u v < 18446744073709551616) | _ => false
def resRatioOk : List F → F | [.agg [.int .u64 a, .int .u64 b, .int .u64 c, .int .u64 d, .int .u64 e, .int .u64 f, .int .u64 u, .int .u64 v]] => .bool (isRed (wdsV a b c d) (wdsV e f u v)) | _ => .dflt
theorem okRatioOk : PureOK Try.prog 47 preRt1 resRatioOk :=
  fn_pure (c := bodyOf Try.f47) Try.func47 (by kernel_rfl) (by kernel_rfl) fun xs hp => match xs, hp with
  | [.agg [.int .u64 a, .int .u64 b, .int .u64 c, .int .u64 d, .int .u64 e, .int .u64 f, .int .u64 u, .int .u64 v]], hp => by
    simp only [preRt1, Bool.and_eq_true, decide_eq_true_eq] at hp
    exact t47 a b c d e f u v _ (ratioOk_law hp.1.1 hp.1.2 hp.2)
def envU2 : Env := envU1b.add 47 (.pure preRt1 resRatioOk)
theorem envU2_ok : EnvOK Try.prog envU2 := Env.add_ok envU1b_ok okRatioOk.sp
end
end Go.Proofs.Ytmambbfnjbdfgaa.R

namespace Go.Proofs.Ytmambbfnjbdfgaa.R
open Go
noncomputable section
set_option linter.unusedVariables false
set_option linter.unusedSimpArgs false
set_option maxRecDepth 100000
/-! ### function 17 -/
def T17 {ρ : Type} (ret : (Int) → (Bool) → Option ρ) (a : Int) (b : Int) (c : Int) (d : Int) (p : Int) (q : Int) (u : Int) (v : Int) (a' : Int) (b' : Int) (c' : Int) (d' : Int) (p' : Int) (q' : Int) (u' : Int) (v' : Int) : Option ρ :=
 (bsel (isUw a b c d && isUw p q u v && decide (wdsV p q u v < 18446744073709551616))
 (bsel ((!isRed (wdsV a b c d) (wdsV p q u v)) == false)
 (bsel (isUw a' b' c' d' && isUw p' q' u' v' && decide (wdsV p' q' u' v' < 18446744073709551616))
 (bsel (!isRed (wdsV a' b' c' d') (wdsV p' q' u' v'))
 (ret (0) (false))
 (bsel (isUw a b c d && isUw p q u v)
 (bsel (isUw a' b' c' d' && isUw p' q' u' v')
 (bsel (isRat 180 (resRt [F.agg [F.int .u64 a, F.int .u64 b, F.int .u64 c, F.int .u64 d, F.int .u64 p, F.int .u64 q, F.int .u64 u, F.int .u64 v]]) && isRat 180 (resRt [F.agg [F.int .u64 a', F.int .u64 b', F.int .u64 c', F.int .u64 d', F.int .u64 p', F.int .u64 q', F.int .u64 u', F.int .u64 v']]))
 (ret ((unUp (resRt [F.agg [F.int .u64 a, F.int .u64 b, F.int .u64 c, F.int .u64 d, F.int .u64 p, F.int .u64 q, F.int .u64 u, F.int .u64 v]]) * unDown (resRt [F.agg [F.int .u64 a', F.int .u64 b', F.int .u64 c', F.int .u64 d', F.int .u64 p', F.int .u64 q', F.int .u64 u', F.int .u64 v']]) - unUp (resRt [F.agg [F.int .u64 a', F.int .u64 b', F.int .u64 c', F.int .u64 d', F.int .u64 p', F.int .u64 q', F.int .u64 u', F.int .u64 v']]) * unDown (resRt [F.agg [F.int .u64 a, F.int .u64 b, F.int .u64 c, F.int .u64 d, F.int .u64 p, F.int .u64 q, F.int .u64 u, F.int .u64 v]])).sign) (true))
 none)
 none)
 none))
 none)
 (ret (0) (false)))
 none)
def G17 (a : Int) (b : Int) (c : Int) (d : Int) (p : Int) (q : Int) (u : Int) (v : Int) (a' : Int) (b' : Int) (c' : Int) (d' : Int) (p' : Int) (q' : Int) (u' : Int) (v' : Int) : Option ((Int) × (Bool)) := T17 (fun r o => some (r, o)) a b c d p q u v a' b' c' d' p' q' u' v'
theorem t17 (a : Int) (b : Int) (c : Int) (d : Int) (p : Int) (q : Int) (u : Int) (v : Int) (a' : Int) (b' : Int) (c' : Int) (d' : Int) (p' : Int) (q' : Int) (u' : Int) (v' : Int) (r : Int) (o : Bool) (h : G17 a b c d p q u v a' b' c' d' p' q' u' v' = some (r, o)) : Ends Try.prog Try.f17.results.toList [.code (bodyOf Try.f17)] (start Try.f17.ntmps ([F.agg [F.int .u64 a, F.int .u64 b, F.int .u64 c, F.int .u64 d, F.int .u64 p, F.int .u64 q, F.int .u64 u, F.int .u64 v], F.agg [F.int .u64 a', F.int .u64 b', F.int .u64 c', F.int .u64 d', F.int .u64 p', F.int .u64 q', F.int .u64 u', F.int .u64 v']].map .f)) (F.tup [F.int .i64 r, F.bool o]) := by
  refine Ends.of_run tyOK envU2_ok (T := []) (n := 200) ?_
  have e : run Try.prog (tiOf Try.prog) envU2 [] 0 Try.f17.results.toList some 200 [.code (bodyOf Try.f17)] (start Try.f17.ntmps ([F.agg [F.int .u64 a, F.int .u64 b, F.int .u64 c, F.int .u64 d, F.int .u64 p, F.int .u64 q, F.int .u64 u, F.int .u64 v], F.agg [F.int .u64 a', F.int .u64 b', F.int .u64 c', F.int .u64 d', F.int .u64 p', F.int .u64 q', F.int .u64 u', F.int .u64 v']].map .f)) = T17 (fun r o => some (.ret (F.tup [F.int .i64 r, F.bool o]))) a b c d p q u v a' b' c' d' p' q' u' v' := by kernel_rfl
  rw [e]
  exact (good_sel h (fun _ h => (good_sel h (fun _ h => (good_sel h (fun _ h => (good_sel h (fun _ h => good_ret (by cases h; rfl)) (fun _ h => (good_sel h (fun _ h => (good_sel h (fun _ h => (good_sel h (fun _ h => good_ret (by cases h; rfl)) (fun _ h => nomatch h))) (fun _ h => nomatch h))) (fun _ h => nomatch h))))) (fun _ h => nomatch h))) (fun _ h => good_ret (by cases h; rfl)))) (fun _ h => nomatch h))
def rcmpV (x y z w : Int) : Int := bif isRed x y && isRed z w then (x * w - z * y).sign else 0
theorem ratioCmp_law {a b c d e f u v a' b' c' d' e' f' u' v' : Int} (h1 : isUw a b c d = true) (h2 : isUw e f u v = true) (h3 : wdsV e f u v < 18446744073709551616) (k1 : isUw a' b' c' d' = true) (k2 : isUw e' f' u' v' = true) (k3 : wdsV e' f' u' v' < 18446744073709551616) :
    G17 a b c d e f u v a' b' c' d' e' f' u' v' = some (rcmpV (wdsV a b c d) (wdsV e f u v) (wdsV a' b' c' d') (wdsV e' f' u' v'), isRed (wdsV a b c d) (wdsV e f u v) && isRed (wdsV a' b' c' d') (wdsV e' f' u' v')) := by
  obtain ⟨a1, a2⟩ := wdsV_bound h1
  obtain ⟨b1, b2⟩ := wdsV_bound h2
  obtain ⟨c1, c2⟩ := wdsV_bound k1
  obtain ⟨d1, d2⟩ := wdsV_bound k2
  have hp : 57896044618658097711785492504343953926634992332820282019728792003956564819968 ≤ 18446744073709551616 ^ 4 := by decide
  have q1 : isRat 180 (ratF (wdsV a b c d) (wdsV e f u v)) = true := isRat_ratF (bound_up (n := 4) (by omega) (by omega)) (bound_up (n := 1) (by rw [Nat.pow_one]; omega) (by omega))
  have q2 : isRat 180 (ratF (wdsV a' b' c' d') (wdsV e' f' u' v')) = true := isRat_ratF (bound_up (n := 4) (by omega) (by omega)) (bound_up (n := 1) (by rw [Nat.pow_one]; omega) (by omega))
  have r : ∀ a b c d p q u v : Int, resRt [F.agg [F.int .u64 a, F.int .u64 b, F.int .u64 c, F.int .u64 d, F.int .u64 p, F.int .u64 q, F.int .u64 u, F.int .u64 v]] = ratF (wdsV a b c d) (wdsV p q u v) := fun _ _ _ _ _ _ _ _ => rfl
  unfold G17 T17 rcmpV
  simp only [r, h1, h2, k1, k2, decide_eq_true h3, decide_eq_true k3, q1, q2, unUp_ratF, unDown_ratF, Bool.and_self, bsel_true]
  cases isRed (wdsV a b c d) (wdsV e f u v) <;> cases isRed (wdsV a' b' c' d') (wdsV e' f' u' v') <;> rfl
def preRt2 : List F → Bool | [x, y] => preRt1 [x] && preRt1 [y] | _ => false
def resRC : List F → F | [.agg [.int .u64 a, .int .u64 b, .int .u64 c, .int .u64 d, .int .u64 e, .int .u64 f, .int .u64 u, .int .u64 v], .agg [.int .u64 a', .int .u64 b', .int .u64 c', .int .u64 d', .int .u64 e', .int .u64 f', .int .u64 u', .int .u64 v']] => .tup [.int .i64 (rcmpV (wdsV a b c d) (wdsV e f u v) (wdsV a' b' c' d') (wdsV e' f' u' v')), .bool (isRed (wdsV a b c d) (wdsV e f u v) && isRed (wdsV a' b' c' d') (wdsV e' f' u' v'))] | _ => .dflt
def isRt1 (a b c d e f u v : Int) : Bool := isUw a b c d && isUw e f u v && decide (wdsV e f u v < 18446744073709551616)
def preRC : List F → Bool | [.agg [.int .u64 a, .int .u64 b, .int .u64 c, .int .u64 d, .int .u64 e, .int .u64 f, .int .u64 u, .int .u64 v], .agg [.int .u64 a', .int .u64 b', .int .u64 c', .int .u64 d', .int .u64 e', .int .u64 f', .int .u64 u', .int .u64 v']] => isRt1 a b c d e f u v && isRt1 a' b' c' d' e' f' u' v' | _ => false
theorem okRatioCmp : PureOK Try.prog 17 preRC resRC :=
  fn_pure (c := bodyOf Try.f17) Try.func17 (by kernel_rfl) (by kernel_rfl) fun xs hp => match xs, hp with
  | [.agg [.int .u64 a, .int .u64 b, .int .u64 c, .int .u64 d, .int .u64 e, .int .u64 f, .int .u64 u, .int .u64 v], .agg [.int .u64 a', .int .u64 b', .int .u64 c', .int .u64 d', .int .u64 e', .int .u64 f', .int .u64 u', .int .u64 v']], hp => by
    simp only [preRC, isRt1, Bool.and_eq_true, decide_eq_true_eq] at hp
    exact t17 a b c d e f u v a' b' c' d' e' f' u' v' _ _ (ratioCmp_law hp.1.1.1 hp.1.1.2 hp.1.2 hp.2.1.1 hp.2.1.2 hp.2.2)
/-! ### function 16 -/
def T16 {ρ : Type} (ret : (F) → Option ρ) (s : Sg) (px : Int) (py : Int) : Option ρ :=
 (bsel ((!segOkV s.x0 s.y0 s.x1 s.y1) == false)
 (bsel (!spotOkV px py)
 (ret (F.tup [F.agg [F.int .u64 0, F.int .u64 0, F.int .u64 0, F.int .u64 0, F.int .u64 0, F.int .u64 0, F.int .u64 0, F.int .u64 0], F.bool false]))
 (bsel (isNearArg s.x0 s.y0 s.x1 s.y1 px py)
 (bsel (isRat 180 (resNear2 [F.agg [F.int .i64 s.x0, F.int .i64 s.y0, F.int .i64 s.x1, F.int .i64 s.y1], F.agg [F.int .i64 px, F.int .i64 py]]) && isLow (unUp (resNear2 [F.agg [F.int .i64 s.x0, F.int .i64 s.y0, F.int .i64 s.x1, F.int .i64 s.y1], F.agg [F.int .i64 px, F.int .i64 py]])) (unDown (resNear2 [F.agg [F.int .i64 s.x0, F.int .i64 s.y0, F.int .i64 s.x1, F.int .i64 s.y1], F.agg [F.int .i64 px, F.int .i64 py]])))
 (ret (F.tup [F.agg [F.int .u64 (bif okT (unUp (resNear2 [F.agg [F.int .i64 s.x0, F.int .i64 s.y0, F.int .i64 s.x1, F.int .i64 s.y1], F.agg [F.int .i64 px, F.int .i64 py]]) / gcdI (unUp (resNear2 [F.agg [F.int .i64 s.x0, F.int .i64 s.y0, F.int .i64 s.x1, F.int .i64 s.y1], F.agg [F.int .i64 px, F.int .i64 py]])) (unDown (resNear2 [F.agg [F.int .i64 s.x0, F.int .i64 s.y0, F.int .i64 s.x1, F.int .i64 s.y1], F.agg [F.int .i64 px, F.int .i64 py]]))) (unDown (resNear2 [F.agg [F.int .i64 s.x0, F.int .i64 s.y0, F.int .i64 s.x1, F.int .i64 s.y1], F.agg [F.int .i64 px, F.int .i64 py]]) / gcdI (unUp (resNear2 [F.agg [F.int .i64 s.x0, F.int .i64 s.y0, F.int .i64 s.x1, F.int .i64 s.y1], F.agg [F.int .i64 px, F.int .i64 py]])) (unDown (resNear2 [F.agg [F.int .i64 s.x0, F.int .i64 s.y0, F.int .i64 s.x1, F.int .i64 s.y1], F.agg [F.int .i64 px, F.int .i64 py]]))) then wd3 (unUp (resNear2 [F.agg [F.int .i64 s.x0, F.int .i64 s.y0, F.int .i64 s.x1, F.int .i64 s.y1], F.agg [F.int .i64 px, F.int .i64 py]]) / gcdI (unUp (resNear2 [F.agg [F.int .i64 s.x0, F.int .i64 s.y0, F.int .i64 s.x1, F.int .i64 s.y1], F.agg [F.int .i64 px, F.int .i64 py]])) (unDown (resNear2 [F.agg [F.int .i64 s.x0, F.int .i64 s.y0, F.int .i64 s.x1, F.int .i64 s.y1], F.agg [F.int .i64 px, F.int .i64 py]]))) else 0), F.int .u64 (bif okT (unUp (resNear2 [F.agg [F.int .i64 s.x0, F.int .i64 s.y0, F.int .i64 s.x1, F.int .i64 s.y1], F.agg [F.int .i64 px, F.int .i64 py]]) / gcdI (unUp (resNear2 [F.agg [F.int .i64 s.x0, F.int .i64 s.y0, F.int .i64 s.x1, F.int .i64 s.y1], F.agg [F.int .i64 px, F.int .i64 py]])) (unDown (resNear2 [F.agg [F.int .i64 s.x0, F.int .i64 s.y0, F.int .i64 s.x1, F.int .i64 s.y1], F.agg [F.int .i64 px, F.int .i64 py]]))) (unDown (resNear2 [F.agg [F.int .i64 s.x0, F.int .i64 s.y0, F.int .i64 s.x1, F.int .i64 s.y1], F.agg [F.int .i64 px, F.int .i64 py]]) / gcdI (unUp (resNear2 [F.agg [F.int .i64 s.x0, F.int .i64 s.y0, F.int .i64 s.x1, F.int .i64 s.y1], F.agg [F.int .i64 px, F.int .i64 py]])) (unDown (resNear2 [F.agg [F.int .i64 s.x0, F.int .i64 s.y0, F.int .i64 s.x1, F.int .i64 s.y1], F.agg [F.int .i64 px, F.int .i64 py]]))) then wd2 (unUp (resNear2 [F.agg [F.int .i64 s.x0, F.int .i64 s.y0, F.int .i64 s.x1, F.int .i64 s.y1], F.agg [F.int .i64 px, F.int .i64 py]]) / gcdI (unUp (resNear2 [F.agg [F.int .i64 s.x0, F.int .i64 s.y0, F.int .i64 s.x1, F.int .i64 s.y1], F.agg [F.int .i64 px, F.int .i64 py]])) (unDown (resNear2 [F.agg [F.int .i64 s.x0, F.int .i64 s.y0, F.int .i64 s.x1, F.int .i64 s.y1], F.agg [F.int .i64 px, F.int .i64 py]]))) else 0), F.int .u64 (bif okT (unUp (resNear2 [F.agg [F.int .i64 s.x0, F.int .i64 s.y0, F.int .i64 s.x1, F.int .i64 s.y1], F.agg [F.int .i64 px, F.int .i64 py]]) / gcdI (unUp (resNear2 [F.agg [F.int .i64 s.x0, F.int .i64 s.y0, F.int .i64 s.x1, F.int .i64 s.y1], F.agg [F.int .i64 px, F.int .i64 py]])) (unDown (resNear2 [F.agg [F.int .i64 s.x0, F.int .i64 s.y0, F.int .i64 s.x1, F.int .i64 s.y1], F.agg [F.int .i64 px, F.int .i64 py]]))) (unDown (resNear2 [F.agg [F.int .i64 s.x0, F.int .i64 s.y0, F.int .i64 s.x1, F.int .i64 s.y1], F.agg [F.int .i64 px, F.int .i64 py]]) / gcdI (unUp (resNear2 [F.agg [F.int .i64 s.x0, F.int .i64 s.y0, F.int .i64 s.x1, F.int .i64 s.y1], F.agg [F.int .i64 px, F.int .i64 py]])) (unDown (resNear2 [F.agg [F.int .i64 s.x0, F.int .i64 s.y0, F.int .i64 s.x1, F.int .i64 s.y1], F.agg [F.int .i64 px, F.int .i64 py]]))) then wd1 (unUp (resNear2 [F.agg [F.int .i64 s.x0, F.int .i64 s.y0, F.int .i64 s.x1, F.int .i64 s.y1], F.agg [F.int .i64 px, F.int .i64 py]]) / gcdI (unUp (resNear2 [F.agg [F.int .i64 s.x0, F.int .i64 s.y0, F.int .i64 s.x1, F.int .i64 s.y1], F.agg [F.int .i64 px, F.int .i64 py]])) (unDown (resNear2 [F.agg [F.int .i64 s.x0, F.int .i64 s.y0, F.int .i64 s.x1, F.int .i64 s.y1], F.agg [F.int .i64 px, F.int .i64 py]]))) else 0), F.int .u64 (bif okT (unUp (resNear2 [F.agg [F.int .i64 s.x0, F.int .i64 s.y0, F.int .i64 s.x1, F.int .i64 s.y1], F.agg [F.int .i64 px, F.int .i64 py]]) / gcdI (unUp (resNear2 [F.agg [F.int .i64 s.x0, F.int .i64 s.y0, F.int .i64 s.x1, F.int .i64 s.y1], F.agg [F.int .i64 px, F.int .i64 py]])) (unDown (resNear2 [F.agg [F.int .i64 s.x0, F.int .i64 s.y0, F.int .i64 s.x1, F.int .i64 s.y1], F.agg [F.int .i64 px, F.int .i64 py]]))) (unDown (resNear2 [F.agg [F.int .i64 s.x0, F.int .i64 s.y0, F.int .i64 s.x1, F.int .i64 s.y1], F.agg [F.int .i64 px, F.int .i64 py]]) / gcdI (unUp (resNear2 [F.agg [F.int .i64 s.x0, F.int .i64 s.y0, F.int .i64 s.x1, F.int .i64 s.y1], F.agg [F.int .i64 px, F.int .i64 py]])) (unDown (resNear2 [F.agg [F.int .i64 s.x0, F.int .i64 s.y0, F.int .i64 s.x1, F.int .i64 s.y1], F.agg [F.int .i64 px, F.int .i64 py]]))) then wd0 (unUp (resNear2 [F.agg [F.int .i64 s.x0, F.int .i64 s.y0, F.int .i64 s.x1, F.int .i64 s.y1], F.agg [F.int .i64 px, F.int .i64 py]]) / gcdI (unUp (resNear2 [F.agg [F.int .i64 s.x0, F.int .i64 s.y0, F.int .i64 s.x1, F.int .i64 s.y1], F.agg [F.int .i64 px, F.int .i64 py]])) (unDown (resNear2 [F.agg [F.int .i64 s.x0, F.int .i64 s.y0, F.int .i64 s.x1, F.int .i64 s.y1], F.agg [F.int .i64 px, F.int .i64 py]]))) else 0), F.int .u64 (bif okT (unUp (resNear2 [F.agg [F.int .i64 s.x0, F.int .i64 s.y0, F.int .i64 s.x1, F.int .i64 s.y1], F.agg [F.int .i64 px, F.int .i64 py]]) / gcdI (unUp (resNear2 [F.agg [F.int .i64 s.x0, F.int .i64 s.y0, F.int .i64 s.x1, F.int .i64 s.y1], F.agg [F.int .i64 px, F.int .i64 py]])) (unDown (resNear2 [F.agg [F.int .i64 s.x0, F.int .i64 s.y0, F.int .i64 s.x1, F.int .i64 s.y1], F.agg [F.int .i64 px, F.int .i64 py]]))) (unDown (resNear2 [F.agg [F.int .i64 s.x0, F.int .i64 s.y0, F.int .i64 s.x1, F.int .i64 s.y1], F.agg [F.int .i64 px, F.int .i64 py]]) / gcdI (unUp (resNear2 [F.agg [F.int .i64 s.x0, F.int .i64 s.y0, F.int .i64 s.x1, F.int .i64 s.y1], F.agg [F.int .i64 px, F.int .i64 py]])) (unDown (resNear2 [F.agg [F.int .i64 s.x0, F.int .i64 s.y0, F.int .i64 s.x1, F.int .i64 s.y1], F.agg [F.int .i64 px, F.int .i64 py]]))) then wd3 (unDown (resNear2 [F.agg [F.int .i64 s.x0, F.int .i64 s.y0, F.int .i64 s.x1, F.int .i64 s.y1], F.agg [F.int .i64 px, F.int .i64 py]]) / gcdI (unUp (resNear2 [F.agg [F.int .i64 s.x0, F.int .i64 s.y0, F.int .i64 s.x1, F.int .i64 s.y1], F.agg [F.int .i64 px, F.int .i64 py]])) (unDown (resNear2 [F.agg [F.int .i64 s.x0, F.int .i64 s.y0, F.int .i64 s.x1, F.int .i64 s.y1], F.agg [F.int .i64 px, F.int .i64 py]]))) else 0), F.int .u64 (bif okT (unUp (resNear2 [F.agg [F.int .i64 s.x0, F.int .i64 s.y0, F.int .i64 s.x1, F.int .i64 s.y1], F.agg [F.int .i64 px, F.int .i64 py]]) / gcdI (unUp (resNear2 [F.agg [F.int .i64 s.x0, F.int .i64 s.y0, F.int .i64 s.x1, F.int .i64 s.y1], F.agg [F.int .i64 px, F.int .i64 py]])) (unDown (resNear2 [F.agg [F.int .i64 s.x0, F.int .i64 s.y0, F.int .i64 s.x1, F.int .i64 s.y1], F.agg [F.int .i64 px, F.int .i64 py]]))) (unDown (resNear2 [F.agg [F.int .i64 s.x0, F.int .i64 s.y0, F.int .i64 s.x1, F.int .i64 s.y1], F.agg [F.int .i64 px, F.int .i64 py]]) / gcdI (unUp (resNear2 [F.agg [F.int .i64 s.x0, F.int .i64 s.y0, F.int .i64 s.x1, F.int .i64 s.y1], F.agg [F.int .i64 px, F.int .i64 py]])) (unDown (resNear2 [F.agg [F.int .i64 s.x0, F.int .i64 s.y0, F.int .i64 s.x1, F.int .i64 s.y1], F.agg [F.int .i64 px, F.int .i64 py]]))) then wd2 (unDown (resNear2 [F.agg [F.int .i64 s.x0, F.int .i64 s.y0, F.int .i64 s.x1, F.int .i64 s.y1], F.agg [F.int .i64 px, F.int .i64 py]]) / gcdI (unUp (resNear2 [F.agg [F.int .i64 s.x0, F.int .i64 s.y0, F.int .i64 s.x1, F.int .i64 s.y1], F.agg [F.int .i64 px, F.int .i64 py]])) (unDown (resNear2 [F.agg [F.int .i64 s.x0, F.int .i64 s.y0, F.int .i64 s.x1, F.int .i64 s.y1], F.agg [F.int .i64 px, F.int .i64 py]]))) else 0), F.int .u64 (bif okT (unUp (resNear2 [F.agg [F.int .i64 s.x0, F.int .i64 s.y0, F.int .i64 s.x1, F.int .i64 s.y1], F.agg [F.int .i64 px, F.int .i64 py]]) / gcdI (unUp (resNear2 [F.agg [F.int .i64 s.x0, F.int .i64 s.y0, F.int .i64 s.x1, F.int .i64 s.y1], F.agg [F.int .i64 px, F.int .i64 py]])) (unDown (resNear2 [F.agg [F.int .i64 s.x0, F.int .i64 s.y0, F.int .i64 s.x1, F.int .i64 s.y1], F.agg [F.int .i64 px, F.int .i64 py]]))) (unDown (resNear2 [F.agg [F.int .i64 s.x0, F.int .i64 s.y0, F.int .i64 s.x1, F.int .i64 s.y1], F.agg [F.int .i64 px, F.int .i64 py]]) / gcdI (unUp (resNear2 [F.agg [F.int .i64 s.x0, F.int .i64 s.y0, F.int .i64 s.x1, F.int .i64 s.y1], F.agg [F.int .i64 px, F.int .i64 py]])) (unDown (resNear2 [F.agg [F.int .i64 s.x0, F.int .i64 s.y0, F.int .i64 s.x1, F.int .i64 s.y1], F.agg [F.int .i64 px, F.int .i64 py]]))) then wd1 (unDown (resNear2 [F.agg [F.int .i64 s.x0, F.int .i64 s.y0, F.int .i64 s.x1, F.int .i64 s.y1], F.agg [F.int .i64 px, F.int .i64 py]]) / gcdI (unUp (resNear2 [F.agg [F.int .i64 s.x0, F.int .i64 s.y0, F.int .i64 s.x1, F.int .i64 s.y1], F.agg [F.int .i64 px, F.int .i64 py]])) (unDown (resNear2 [F.agg [F.int .i64 s.x0, F.int .i64 s.y0, F.int .i64 s.x1, F.int .i64 s.y1], F.agg [F.int .i64 px, F.int .i64 py]]))) else 0), F.int .u64 (bif okT (unUp (resNear2 [F.agg [F.int .i64 s.x0, F.int .i64 s.y0, F.int .i64 s.x1, F.int .i64 s.y1], F.agg [F.int .i64 px, F.int .i64 py]]) / gcdI (unUp (resNear2 [F.agg [F.int .i64 s.x0, F.int .i64 s.y0, F.int .i64 s.x1, F.int .i64 s.y1], F.agg [F.int .i64 px, F.int .i64 py]])) (unDown (resNear2 [F.agg [F.int .i64 s.x0, F.int .i64 s.y0, F.int .i64 s.x1, F.int .i64 s.y1], F.agg [F.int .i64 px, F.int .i64 py]]))) (unDown (resNear2 [F.agg [F.int .i64 s.x0, F.int .i64 s.y0, F.int .i64 s.x1, F.int .i64 s.y1], F.agg [F.int .i64 px, F.int .i64 py]]) / gcdI (unUp (resNear2 [F.agg [F.int .i64 s.x0, F.int .i64 s.y0, F.int .i64 s.x1, F.int .i64 s.y1], F.agg [F.int .i64 px, F.int .i64 py]])) (unDown (resNear2 [F.agg [F.int .i64 s.x0, F.int .i64 s.y0, F.int .i64 s.x1, F.int .i64 s.y1], F.agg [F.int .i64 px, F.int .i64 py]]))) then wd0 (unDown (resNear2 [F.agg [F.int .i64 s.x0, F.int .i64 s.y0, F.int .i64 s.x1, F.int .i64 s.y1], F.agg [F.int .i64 px, F.int .i64 py]]) / gcdI (unUp (resNear2 [F.agg [F.int .i64 s.x0, F.int .i64 s.y0, F.int .i64 s.x1, F.int .i64 s.y1], F.agg [F.int .i64 px, F.int .i64 py]])) (unDown (resNear2 [F.agg [F.int .i64 s.x0, F.int .i64 s.y0, F.int .i64 s.x1, F.int .i64 s.y1], F.agg [F.int .i64 px, F.int .i64 py]]))) else 0)], F.bool (okT (unUp (resNear2 [F.agg [F.int .i64 s.x0, F.int .i64 s.y0, F.int .i64 s.x1, F.int .i64 s.y1], F.agg [F.int .i64 px, F.int .i64 py]]) / gcdI (unUp (resNear2 [F.agg [F.int .i64 s.x0, F.int .i64 s.y0, F.int .i64 s.x1, F.int .i64 s.y1], F.agg [F.int .i64 px, F.int .i64 py]])) (unDown (resNear2 [F.agg [F.int .i64 s.x0, F.int .i64 s.y0, F.int .i64 s.x1, F.int .i64 s.y1], F.agg [F.int .i64 px, F.int .i64 py]]))) (unDown (resNear2 [F.agg [F.int .i64 s.x0, F.int .i64 s.y0, F.int .i64 s.x1, F.int .i64 s.y1], F.agg [F.int .i64 px, F.int .i64 py]]) / gcdI (unUp (resNear2 [F.agg [F.int .i64 s.x0, F.int .i64 s.y0, F.int .i64 s.x1, F.int .i64 s.y1], F.agg [F.int .i64 px, F.int .i64 py]])) (unDown (resNear2 [F.agg [F.int .i64 s.x0, F.int .i64 s.y0, F.int .i64 s.x1, F.int .i64 s.y1], F.agg [F.int .i64 px, F.int .i64 py]]))))]))
 none)
 none))
 (ret (F.tup [F.agg [F.int .u64 0, F.int .u64 0, F.int .u64 0, F.int .u64 0, F.int .u64 0, F.int .u64 0, F.int .u64 0, F.int .u64 0], F.bool false])))
def G16 (s : Sg) (px : Int) (py : Int) : Option (F) := T16 some s px py
theorem t16 (s : Sg) (px : Int) (py : Int) (r : F) (h : G16 s px py = some r) : Ends Try.prog Try.f16.results.toList [.code (bodyOf Try.f16)] (start Try.f16.ntmps ([sgF s, F.agg [F.int .i64 px, F.int .i64 py]].map .f)) (r) := by
  refine Ends.of_run tyOK envU2_ok (T := []) (n := 200) ?_
  have e : run Try.prog (tiOf Try.prog) envU2 [] 0 Try.f16.results.toList some 200 [.code (bodyOf Try.f16)] (start Try.f16.ntmps ([sgF s, F.agg [F.int .i64 px, F.int .i64 py]].map .f)) = T16 (fun r => some (.ret (r))) s px py := by kernel_rfl
  rw [e]
  exact (good_sel h (fun _ h => (good_sel h (fun _ h => good_ret (by cases h; rfl)) (fun _ h => (good_sel h (fun _ h => (good_sel h (fun _ h => good_ret (by cases h; rfl)) (fun _ h => nomatch h))) (fun _ h => nomatch h))))) (fun _ h => good_ret (by cases h; rfl)))
def isNear2 (s : Sg) (px py : Int) : Bool := sgOk s && spotOkV px py
def n2U (s : Sg) (px py : Int) : Int := bif isNear2 s px py then nU px py s / gcdI (nU px py s) (nD px py s) else 57896044618658097711785492504343953926634992332820282019728792003956564819968
def n2D (s : Sg) (px py : Int) : Int := bif isNear2 s px py then nD px py s / gcdI (nU px py s) (nD px py s) else 57896044618658097711785492504343953926634992332820282019728792003956564819968
theorem near2_law (s : Sg) (px py : Int) : G16 s px py = some (.tup [toldF (n2U s px py) (n2D s px py), .bool (okT (n2U s px py) (n2D s px py))]) := by
  unfold G16 T16
  have no : isNear2 s px py = false → some (F.tup [F.agg [F.int .u64 0, F.int .u64 0, F.int .u64 0, F.int .u64 0, F.int .u64 0, F.int .u64 0, F.int .u64 0, F.int .u64 0], F.bool false]) = some (.tup [toldF (n2U s px py) (n2D s px py), .bool (okT (n2U s px py) (n2D s px py))]) := by
    intro h
    simp only [n2U, n2D, h, cond_false]
    rw [toldF_none okT_none, okT_none]
  have hs : segOkV s.x0 s.y0 s.x1 s.y1 = sgOk s := rfl
  have r : resNear2 [F.agg [F.int .i64 s.x0, F.int .i64 s.y0, F.int .i64 s.x1, F.int .i64 s.y1], F.agg [F.int .i64 px, F.int .i64 py]] = ratF (nU px py s) (nD px py s) := rfl
  simp only [hs, r, unUp_ratF, unDown_ratF]
  cases h1 : sgOk s with
  | false => exact no (by simp [isNear2, h1])
  | true =>
    cases h2 : spotOkV px py with
    | false => exact no (by simp [isNear2, h1, h2])
    | true =>
      have hn : isNear2 s px py = true := by simp [isNear2, h1, h2]
      have hg := sgOk_in h1
      have hq := spotOk_iff.1 h2
      have ho := nearOk_of (px := px) (py := py) hg hq (show (0 : Int) ≤ 0 by omega)
      have e1 := isRat_near ho.up ho.down
      have e2 : isLow (nU px py s) (nD px py s) = true := isLow_iff.2 (by have := ho.down; simp only at this; omega)
      have e3 : isNearArg s.x0 s.y0 s.x1 s.y1 px py = true := isNearArg_iff.2 ⟨hg.1, hg.2, hq⟩
      simp only at e1
      simp only [n2U, n2D, hn, cond_true, e1, e2, e3, unUp_ratF, unDown_ratF, Bool.and_self, bsel_true]
      rfl
def preNr2 : List F → Bool | [.agg [.int .i64 _, .int .i64 _, .int .i64 _, .int .i64 _], .agg [.int .i64 _, .int .i64 _]] => true | _ => false
def resNr2 : List F → F | [.agg [.int .i64 a, .int .i64 b, .int .i64 c, .int .i64 d], .agg [.int .i64 e, .int .i64 f]] => .tup [toldF (n2U ⟨a, b, c, d⟩ e f) (n2D ⟨a, b, c, d⟩ e f), .bool (okT (n2U ⟨a, b, c, d⟩ e f) (n2D ⟨a, b, c, d⟩ e f))] | _ => .dflt
theorem okNr2 : PureOK Try.prog 16 preNr2 resNr2 :=
  fn_pure (c := bodyOf Try.f16) Try.func16 (by kernel_rfl) (by kernel_rfl) fun xs hp => match xs, hp with
  | [.agg [.int .i64 a, .int .i64 b, .int .i64 c, .int .i64 d], .agg [.int .i64 e, .int .i64 f]], hp => t16 ⟨a, b, c, d⟩ e f _ (near2_law _ e f)
end
end Go.Proofs.Ytmambbfnjbdfgaa.R

namespace Go.Proofs.Ytmambbfnjbdfgaa.R
open Go
set_option linter.unusedVariables false
set_option linter.unusedSimpArgs false
set_option maxRecDepth 100000
/-! ### function 77 -/
def T77 {ρ : Type} (ret : (Int) → (Int) → Option ρ) (s : ByteArray) (p : Int) (n : Int) : Option ρ :=
 (bsel (decide (n ≤ 1))
 (ret (0) (p))
 (bsel (decide (n ≤ 256))
 (bsel (isBytes (bytesF s) && rdOk (unBytes (bytesF s)) p)
 (bsel (n != 0)
 (ret ((nextV (unBytes (bytesF s)) p).fst.tmod n) ((nextV (unBytes (bytesF s)) p).snd))
 none)
 none)
 (bsel (isBytes (bytesF s) && rdOk (unBytes (bytesF s)) p)
 (bsel (isBytes (bytesF s) && rdOk (unBytes (bytesF s)) (nextV (unBytes (bytesF s)) p).snd)
 (bsel (n != 0)
 (ret ((IntKind.i64.wrap (IntKind.i64.wrap ((nextV (unBytes (bytesF s)) p).fst * 256) + (nextV (unBytes (bytesF s)) (nextV (unBytes (bytesF s)) p).snd).fst)).tmod n) ((nextV (unBytes (bytesF s)) (nextV (unBytes (bytesF s)) p).snd).snd))
 none)
 none)
 none)))
def G77 (s : ByteArray) (p : Int) (n : Int) : Option ((Int) × (Int)) := T77 (fun r q => some (r, q)) s p n
theorem t77 (s : ByteArray) (p : Int) (n : Int) (r : Int) (q : Int) (h : G77 s p n = some (r, q)) : EndsN Try.prog 1 Try.f77.results.toList [.code (bodyOf Try.f77)] (startN Try.f77.ntmps [U.hp 0 0, U.f (F.int .i64 n)] [HO.box [U.f (bytesF s), U.f (F.int .i64 p)]]) (F.tup [F.int .i64 r, F.agg [bytesF s, F.int .i64 q]]) := by
  refine Ends.of_run tyOK envD1_ok (T := []) (n := 200) ?_
  have e : run Try.prog (tiOf Try.prog) envD1 [] 1 Try.f77.results.toList some 200 [.code (bodyOf Try.f77)] (startN Try.f77.ntmps [U.hp 0 0, U.f (F.int .i64 n)] [HO.box [U.f (bytesF s), U.f (F.int .i64 p)]]) = T77 (fun r q => some (.ret (F.tup [F.int .i64 r, F.agg [bytesF s, F.int .i64 q]]))) s p n := by kernel_rfl
  rw [e]
  exact (good_sel h (fun _ h => good_ret (by cases h; rfl)) (fun _ h => (good_sel h (fun _ h => (good_sel h (fun _ h => (good_sel h (fun _ h => good_ret (by cases h; rfl)) (fun _ h => nomatch h))) (fun _ h => nomatch h))) (fun _ h => (good_sel h (fun _ h => (good_sel h (fun _ h => (good_sel h (fun _ h => good_ret (by cases h; rfl)) (fun _ h => nomatch h))) (fun _ h => nomatch h))) (fun _ h => nomatch h))))))
def belowV (s : ByteArray) (p n : Int) : Int × Int := (G77 s p n).getD (0, 0)
theorem below_ok {s : ByteArray} {p : Int} (h : rdOk s p = true) (n : Int) :
    G77 s p n = some (belowV s p n) ∧ 0 ≤ (belowV s p n).1 ∧ ((belowV s p n).1 < n ∨ (belowV s p n).1 = 0) ∧ rdOk s (belowV s p n).2 = true := by
  obtain ⟨h1, h2, h3, h4⟩ := next_ok h
  obtain ⟨k1, k2, k3, k4⟩ := next_ok h4
  unfold belowV G77 T77
  simp only [unBytes_bytesF, isBytes_bytesF, h, h4, Bool.and_self, bsel_true]
  by_cases c1 : n ≤ 1
  · simp only [decide_eq_true c1, bsel_true, Option.getD_some]
    exact ⟨trivial, by omega, .inr trivial, h⟩
  · have hn : (n != 0) = true := by simp; omega
    simp only [decide_eq_false c1, bsel_false, hn, bsel_true]
    by_cases c2 : n ≤ 256
    · simp only [decide_eq_true c2, bsel_true, Option.getD_some]
      exact ⟨trivial, Int.tmod_nonneg _ h2, .inl (Int.tmod_lt_of_pos _ (by omega)), h4⟩
    · simp only [decide_eq_false c2, bsel_false, Option.getD_some]
      refine ⟨trivial, Int.tmod_nonneg _ ?_, .inl (Int.tmod_lt_of_pos _ (by omega)), k4⟩
      rw [wrapi (x := (nextV s p).1 * 256) (by omega) (by omega), wrapi (by omega) (by omega)]
      omega
theorem okBelow : SpOK Try.prog 77 (ptrSp (fun cs xs => match xs with | [.int .i64 n] => preR cs | _ => false) (fun cs xs => match xs with | [.int .i64 n] => rd (fun s p => (.int .i64 (belowV s p n).1, (belowV s p n).2)) cs | _ => (.dflt, cs))) :=
  fn_ptr_at (c := bodyOf Try.f77) Try.func77 (by kernel_rfl) (by kernel_rfl) fun cs xs hp => by
    split at hp
    · rename_i n
      obtain ⟨b, p, rfl, hb, hr⟩ := preR_open hp
      obtain ⟨h1, _⟩ := below_ok hr n
      exact ⟨[bytesF (unBytes b), .int .i64 p], [.int .i64 n], _, _, ⟨(bytes_eqv hb).1, .refl _, trivial⟩, ⟨.refl _, trivial⟩, t77 _ _ _ _ _ h1, .refl _, ⟨(bytes_eqv hb).2, .refl _, trivial⟩⟩
    · cases hp
def envD2 : Env := envD1.add 77 (ptrSp (fun cs xs => match xs with | [.int .i64 n] => preR cs | _ => false) (fun cs xs => match xs with | [.int .i64 n] => rd (fun s p => (.int .i64 (belowV s p n).1, (belowV s p n).2)) cs | _ => (.dflt, cs)))
theorem envD2_ok : EnvOK Try.prog envD2 := Env.add_ok envD1_ok okBelow
end Go.Proofs.Ytmambbfnjbdfgaa.R

namespace Go.Proofs.Ytmambbfnjbdfgaa.R
open Go
set_option linter.unusedVariables false
set_option linter.unusedSimpArgs false
set_option maxRecDepth 100000
/-! ### function 42 -/
def T42 {ρ : Type} (ret : (Bool) → (Int) → Option ρ) (s : ByteArray) (p : Int) (n : Int) : Option ρ :=
 (bsel (isBytes (bytesF s) && rdOk (unBytes (bytesF s)) p)
 (ret ((belowV (unBytes (bytesF s)) p n).fst == IntKind.i64.wrap (n - 1)) ((belowV (unBytes (bytesF s)) p n).snd))
 none)
def G42 (s : ByteArray) (p : Int) (n : Int) : Option ((Bool) × (Int)) := T42 (fun r q => some (r, q)) s p n
theorem t42 (s : ByteArray) (p : Int) (n : Int) (r : Bool) (q : Int) (h : G42 s p n = some (r, q)) : EndsN Try.prog 1 Try.f42.results.toList [.code (bodyOf Try.f42)] (startN Try.f42.ntmps [U.hp 0 0, U.f (F.int .i64 n)] [HO.box [U.f (bytesF s), U.f (F.int .i64 p)]]) (F.tup [F.bool r, F.agg [bytesF s, F.int .i64 q]]) := by
  refine Ends.of_run tyOK envD2_ok (T := []) (n := 200) ?_
  have e : run Try.prog (tiOf Try.prog) envD2 [] 1 Try.f42.results.toList some 200 [.code (bodyOf Try.f42)] (startN Try.f42.ntmps [U.hp 0 0, U.f (F.int .i64 n)] [HO.box [U.f (bytesF s), U.f (F.int .i64 p)]]) = T42 (fun r q => some (.ret (F.tup [F.bool r, F.agg [bytesF s, F.int .i64 q]]))) s p n := by kernel_rfl
  rw [e]
  exact (good_sel h (fun _ h => good_ret (by cases h; rfl)) (fun _ h => nomatch h))
def onceV (s : ByteArray) (p n : Int) : Bool × Int := (G42 s p n).getD (false, 0)
theorem once_ok {s : ByteArray} {p : Int} (h : rdOk s p = true) (n : Int) : G42 s p n = some (onceV s p n) ∧ rdOk s (onceV s p n).2 = true := by
  obtain ⟨h1, h2, h3, h4⟩ := below_ok h n
  unfold onceV G42 T42
  simp only [unBytes_bytesF, isBytes_bytesF, h, h4, Bool.and_self, bsel_true, Option.getD_some]
  exact ⟨trivial, trivial⟩
theorem okOnce : SpOK Try.prog 42 (ptrSp (fun cs xs => match xs with | [.int .i64 n] => preR cs | _ => false) (fun cs xs => match xs with | [.int .i64 n] => rd (fun s p => (.bool (onceV s p n).1, (onceV s p n).2)) cs | _ => (.dflt, cs))) :=
  fn_ptr_at (c := bodyOf Try.f42) Try.func42 (by kernel_rfl) (by kernel_rfl) fun cs xs hp => by
    split at hp
    · rename_i n
      obtain ⟨b, p, rfl, hb, hr⟩ := preR_open hp
      obtain ⟨h1, _⟩ := once_ok hr n
      exact ⟨[bytesF (unBytes b), .int .i64 p], [.int .i64 n], _, _, ⟨(bytes_eqv hb).1, .refl _, trivial⟩, ⟨.refl _, trivial⟩, t42 _ _ _ _ _ h1, .refl _, ⟨(bytes_eqv hb).2, .refl _, trivial⟩⟩
    · cases hp
def envD3 : Env := envD2.add 42 (ptrSp (fun cs xs => match xs with | [.int .i64 n] => preR cs | _ => false) (fun cs xs => match xs with | [.int .i64 n] => rd (fun s p => (.bool (onceV s p n).1, (onceV s p n).2)) cs | _ => (.dflt, cs)))
theorem envD3_ok : EnvOK Try.prog envD3 := Env.add_ok envD2_ok okOnce
end Go.Proofs.Ytmambbfnjbdfgaa.R

namespace Go.Proofs.Ytmambbfnjbdfgaa.R
open Go
set_option linter.unusedVariables false
set_option linter.unusedSimpArgs false
set_option maxRecDepth 100000
abbrev rdSp (pre : List F → Bool) (V : List F → ByteArray → Int → F × Int) : Sp := ptrSp (fun cs xs => preR cs && pre xs) (fun cs xs => rd (V xs) cs)
theorem ok_rd {f : FuncId} {fn : Func} {c : Code} (hf : Try.prog.funcs[f]? = some fn) (hb : fn.body = some c) (hname : (fn.name == "runtime.NumGoroutine") = false) {pre : List F → Bool} {V : List F → ByteArray → Int → F × Int}
    (h : ∀ xs s p, pre xs = true → rdOk s p = true → ∃ r, FLe r (V xs s p).1 ∧ EndsN Try.prog 1 fn.results.toList [.code c] (startN fn.ntmps (U.hp 0 0 :: xs.map U.f) [HO.box [U.f (bytesF s), U.f (F.int .i64 p)]]) (.tup [r, .agg [bytesF s, .int .i64 (V xs s p).2]])) :
    SpOK Try.prog f (rdSp pre V) :=
  fn_ptr_at hf hb hname fun cs xs hp => by
    simp only [Bool.and_eq_true] at hp
    obtain ⟨b, p, rfl, hb, hr⟩ := preR_open hp.1
    obtain ⟨r, h1, h2⟩ := h xs (unBytes b) p hp.2 hr
    exact ⟨[bytesF (unBytes b), .int .i64 p], xs, r, _, ⟨(bytes_eqv hb).1, .refl _, trivial⟩, FsLe.refl _, h2, h1, ⟨(bytes_eqv hb).2, .refl _, trivial⟩⟩
def isNone : List F → Bool | [] => true | _ => false
/-! ### function 120 -/
def S120_3 (s : ByteArray) (p : Int) (x3 : Int) (x4 : Int) : St := ⟨[(U.hp 0 0), .bad, .bad, (U.f (F.int .u64 x3)), (U.f (F.int .i64 x4)), .bad, .bad, .bad, .bad, .bad, .bad, .bad, .bad, .bad, .bad, .bad], [HO.box [U.f (bytesF s), U.f (F.int .i64 p)]]⟩
def T120_3 {ρ : Type} (ret : (Int) → (Int) → Option ρ) (c3 : (ByteArray) → (Int) → (Int) → (Int) → Option ρ) (s : ByteArray) (p : Int) (x3 : Int) (x4 : Int) : Option ρ :=
 (bsel (decide (x4 < 8))
 (bsel (isBytes (bytesF s) && rdOk (unBytes (bytesF s)) p)
 (c3 (s) ((nextV (unBytes (bytesF s)) p).snd) (bitsOp BinOp.or IntKind.u64 (IntKind.u64.wrap (x3 * 2 ^ min (Int.toNat 8) IntKind.u64.bits)) (IntKind.u64.wrap (nextV (unBytes (bytesF s)) p).fst)) (IntKind.i64.wrap (x4 + 1)))
 none)
 (ret (x3) (p)))
def L120_3 : Nat → (ByteArray) → (Int) → (Int) → (Int) → Option ((Int) × (Int))
  | 0, _, _, _, _ => none
  | k + 1, s, p, x3, x4 => T120_3 (fun r q => some (r, q)) (L120_3 k) s p x3 x4
def T120 {ρ : Type} (ret : (Int) → (Int) → Option ρ) (c3 : (ByteArray) → (Int) → (Int) → (Int) → Option ρ) (s : ByteArray) (p : Int) : Option ρ :=
 (c3 (s) (p) (0) (0))
def G120 (k : Nat) (s : ByteArray) (p : Int) : Option ((Int) × (Int)) := T120 (fun r q => some (r, q)) (L120_3 k) s p
theorem t120_3 : ∀ (k : Nat) (s : ByteArray) (p : Int) (x3 : Int) (x4 : Int) (r : Int) (q : Int), L120_3 k s p x3 x4 = some (r, q) → EndsN Try.prog 1 Try.f120.results.toList (at_ Try.f120 3) (S120_3 s p x3 x4) (F.tup [F.int .u64 r, F.agg [bytesF s, F.int .i64 q]])
  | 0, _, _, _, _, _, _, h => nomatch h
  | k + 1, s, p, x3, x4, r, q, h => by
    refine Ends.of_cut tyOK envD3_ok (T := [(3, [0, 3, 4], 1)]) (n := 200) ?_
    have e : runCut Try.prog (tiOf Try.prog) envD3 [(3, [0, 3, 4], 1)] 1 Try.f120.results.toList some 200 (at_ Try.f120 3) (S120_3 s p x3 x4) = T120_3 (fun r q => some (.ret (F.tup [F.int .u64 r, F.agg [bytesF s, F.int .i64 q]]))) (fun s p x3 x4 => some (.cut (at_ Try.f120 3) (S120_3 s p x3 x4))) s p x3 x4 := by kernel_rfl
    rw [e]
    exact (good_sel h (fun _ h => (good_sel h (fun _ h => good_cut (t120_3 k _ _ _ _ r q h)) (fun _ h => nomatch h))) (fun _ h => good_ret (by cases h; rfl)))
theorem t120 (k : Nat) (s : ByteArray) (p : Int) (r : Int) (q : Int) (h : G120 k s p = some (r, q)) : EndsN Try.prog 1 Try.f120.results.toList [.code (bodyOf Try.f120)] (startN Try.f120.ntmps [U.hp 0 0] [HO.box [U.f (bytesF s), U.f (F.int .i64 p)]]) (F.tup [F.int .u64 r, F.agg [bytesF s, F.int .i64 q]]) := by
  refine Ends.of_run tyOK envD3_ok (T := [(3, [0, 3, 4], 1)]) (n := 200) ?_
  have e : run Try.prog (tiOf Try.prog) envD3 [(3, [0, 3, 4], 1)] 1 Try.f120.results.toList some 200 [.code (bodyOf Try.f120)] (startN Try.f120.ntmps [U.hp 0 0] [HO.box [U.f (bytesF s), U.f (F.int .i64 p)]]) = T120 (fun r q => some (.ret (F.tup [F.int .u64 r, F.agg [bytesF s, F.int .i64 q]]))) (fun s p x3 x4 => some (.cut (at_ Try.f120 3) (S120_3 s p x3 x4))) s p := by kernel_rfl
  rw [e]
  exact good_cut (t120_3 k _ _ _ _ r q h)
theorem word_loop {s : ByteArray} : ∀ (d i : Nat) (p x : Int), i + d = 8 → rdOk s p = true → ∃ r q, L120_3 (d + 1) s p x i = some (r, q) ∧ rdOk s q = true
  | 0, i, p, x, h, hr => by
    obtain rfl : i = 8 := by omega
    have c1 : decide (((8 : Nat) : Int) < 8) = false := by decide
    exact ⟨x, p, by simp only [L120_3, T120_3, c1, bsel_false], hr⟩
  | d + 1, i, p, x, h, hr => by
    obtain ⟨h1, h2, h3, h4⟩ := next_ok hr
    have c1 : decide ((i : Int) < 8) = true := decide_eq_true (by omega)
    have e2 : IntKind.i64.wrap ((i : Int) + 1) = ((i + 1 : Nat) : Int) := by rw [wrapi (by omega) (by omega)]; omega
    rw [L120_3]
    simp only [T120_3, unBytes_bytesF, isBytes_bytesF, hr, c1, e2, Bool.and_self, bsel_true]
    exact word_loop d (i + 1) _ _ (by omega) h4
def wordV (s : ByteArray) (p : Int) : Int × Int := (G120 9 s p).getD (0, 0)
theorem word_ok {s : ByteArray} {p : Int} (h : rdOk s p = true) : G120 9 s p = some (wordV s p) ∧ rdOk s (wordV s p).2 = true := by
  obtain ⟨r, q, e, k⟩ := word_loop 8 0 p 0 (by omega) h
  have : G120 9 s p = some (r, q) := e
  unfold wordV
  rw [this]
  exact ⟨rfl, k⟩
theorem okWord : SpOK Try.prog 120 (rdSp isNone fun _ s p => (.int .u64 (wordV s p).1, (wordV s p).2)) :=
  ok_rd (c := bodyOf Try.f120) Try.func120 (by kernel_rfl) (by kernel_rfl) fun xs s p hx hr => match xs, hx with
  | [], _ => ⟨_, .refl _, t120 9 s p _ _ (word_ok hr).1⟩
def envD7 : Env := envD3.add 120 (rdSp isNone fun _ s p => (.int .u64 (wordV s p).1, (wordV s p).2))
theorem envD7_ok : EnvOK Try.prog envD7 := Env.add_ok envD3_ok okWord
end Go.Proofs.Ytmambbfnjbdfgaa.R

namespace Go.Proofs.Ytmambbfnjbdfgaa.R
open Go
set_option linter.unusedVariables false
set_option linter.unusedSimpArgs false
set_option maxRecDepth 100000
/-! ### function 79 -/
def T79 {ρ : Type} (ret : (Int) → (Int) → Option ρ) (s : ByteArray) (p : Int) (a : Int) (b : Int) : Option ρ :=
 (bsel (isBytes (bytesF s) && rdOk (unBytes (bytesF s)) p)
 (bsel ((belowV (unBytes (bytesF s)) p 8).fst == 0)
 (ret (a) ((belowV (unBytes (bytesF s)) p 8).snd))
 (bsel ((belowV (unBytes (bytesF s)) p 8).fst == 1)
 (ret (b) ((belowV (unBytes (bytesF s)) p 8).snd))
 (bsel (decide (b < a))
 (ret (a) ((belowV (unBytes (bytesF s)) p 8).snd))
 (bsel (isBytes (bytesF s) && rdOk (unBytes (bytesF s)) (belowV (unBytes (bytesF s)) p 8).snd && true)
 (bsel (IntKind.u64.wrap (IntKind.i64.wrap (IntKind.i64.wrap (b - a) + 1)) != 0)
 (ret (IntKind.i64.wrap (a + IntKind.i64.wrap (((wordV (unBytes (bytesF s)) (belowV (unBytes (bytesF s)) p 8).snd).fst.fdiv (2 ^ min (Int.toNat 1) IntKind.u64.bits)).tmod (IntKind.u64.wrap (IntKind.i64.wrap (IntKind.i64.wrap (b - a) + 1)))))) ((wordV (unBytes (bytesF s)) (belowV (unBytes (bytesF s)) p 8).snd).snd))
 none)
 none))))
 none)
def G79 (s : ByteArray) (p : Int) (a : Int) (b : Int) : Option ((Int) × (Int)) := T79 (fun r q => some (r, q)) s p a b
theorem t79 (s : ByteArray) (p : Int) (a : Int) (b : Int) (r : Int) (q : Int) (h : G79 s p a b = some (r, q)) : EndsN Try.prog 1 Try.f79.results.toList [.code (bodyOf Try.f79)] (startN Try.f79.ntmps [U.hp 0 0, U.f (F.int .i64 a), U.f (F.int .i64 b)] [HO.box [U.f (bytesF s), U.f (F.int .i64 p)]]) (F.tup [F.int .i64 r, F.agg [bytesF s, F.int .i64 q]]) := by
  refine Ends.of_run tyOK envD7_ok (T := []) (n := 200) ?_
  have e : run Try.prog (tiOf Try.prog) envD7 [] 1 Try.f79.results.toList some 200 [.code (bodyOf Try.f79)] (startN Try.f79.ntmps [U.hp 0 0, U.f (F.int .i64 a), U.f (F.int .i64 b)] [HO.box [U.f (bytesF s), U.f (F.int .i64 p)]]) = T79 (fun r q => some (.ret (F.tup [F.int .i64 r, F.agg [bytesF s, F.int .i64 q]]))) s p a b := by kernel_rfl
  rw [e]
  exact (good_sel h (fun _ h => (good_sel h (fun _ h => good_ret (by cases h; rfl)) (fun _ h => (good_sel h (fun _ h => good_ret (by cases h; rfl)) (fun _ h => (good_sel h (fun _ h => good_ret (by cases h; rfl)) (fun _ h => (good_sel h (fun _ h => (good_sel h (fun _ h => good_ret (by cases h; rfl)) (fun _ h => nomatch h))) (fun _ h => nomatch h))))))))) (fun _ h => nomatch h))
theorem wrapU64 {x : Int} (h0 : 0 ≤ x) (h1 : x ≤ 18446744073709551615) : IntKind.u64.wrap x = x := by
  unfold IntKind.wrap
  simp [IntKind.bits, IntKind.signed]
  omega
def isNear : List F → Bool
  | [.int .i64 a, .int .i64 b] => decide (-1099511627776 ≤ a ∧ a ≤ b ∧ b ≤ 1099511627776)
  | _ => false
def nearV (a b : Int) (s : ByteArray) (p : Int) : Int × Int := (G79 s p a b).getD (0, 0)
theorem near_ok {s : ByteArray} {p a b : Int} (h : rdOk s p = true) (hab : -1099511627776 ≤ a ∧ a ≤ b ∧ b ≤ 1099511627776) : G79 s p a b = some (nearV a b s p) ∧ rdOk s (nearV a b s p).2 = true := by
  obtain ⟨b1, b2, b3, b4⟩ := below_ok h 8
  obtain ⟨w1, w2⟩ := word_ok b4
  unfold nearV G79 T79
  have e : IntKind.u64.wrap (IntKind.i64.wrap (IntKind.i64.wrap (b - a) + 1)) = b - a + 1 := by
    rw [wrapi (x := b - a) (by omega) (by omega), wrapi (by omega) (by omega), wrapU64 (by omega) (by omega)]
  have c1 : (b - a + 1 != 0) = true := by simp; omega
  have c2 : decide (b < a) = false := decide_eq_false (by omega)
  simp only [unBytes_bytesF, isBytes_bytesF, h, b4, e, c1, c2, Bool.and_self, Bool.and_true, bsel_true, bsel_false]
  cases (belowV s p 8).1 == 0
  · simp only [bsel_false]
    cases (belowV s p 8).1 == 1
    · simp only [bsel_false, Option.getD_some]; exact ⟨trivial, w2⟩
    · simp only [bsel_true, Option.getD_some]; exact ⟨trivial, b4⟩
  · simp only [bsel_true, Option.getD_some]; exact ⟨trivial, b4⟩
def resNear : List F → ByteArray → Int → F × Int
  | [.int .i64 a, .int .i64 b], s, p => (.int .i64 (nearV a b s p).1, (nearV a b s p).2)
  | _, _, p => (.dflt, p)
theorem okNear : SpOK Try.prog 79 (rdSp isNear resNear) :=
  ok_rd (c := bodyOf Try.f79) Try.func79 (by kernel_rfl) (by kernel_rfl) fun xs s p hx hr => match xs, hx with
  | [.int .i64 a, .int .i64 b], hx => ⟨_, .refl _, t79 s p a b _ _ (near_ok hr (of_decide_eq_true hx)).1⟩
def envD8 : Env := envD7.add 79 (rdSp isNear resNear)
theorem envD8_ok : EnvOK Try.prog envD8 := Env.add_ok envD7_ok okNear
end Go.Proofs.Ytmambbfnjbdfgaa.R

namespace Go.Proofs.Ytmambbfnjbdfgaa.R
open Go
set_option linter.unusedVariables false
set_option linter.unusedSimpArgs false
set_option maxRecDepth 100000
/-! ### function 44 -/
def T44 {ρ : Type} (ret : (Int) → (Int) → (Int) → Option ρ) (s : ByteArray) (p : Int) : Option ρ :=
 (bsel (isBytes (bytesF s) && rdOk (unBytes (bytesF s)) p && true)
 (bsel (isBytes (bytesF s) && rdOk (unBytes (bytesF s)) (resNear [F.int .i64 (-6), F.int .i64 6] (unBytes (bytesF s)) p).snd && true)
 (ret ((nearV (-6) 6 (unBytes (bytesF s)) p).fst) ((nearV (-6) 6 (unBytes (bytesF s)) (resNear [F.int .i64 (-6), F.int .i64 6] (unBytes (bytesF s)) p).snd).fst) ((resNear [F.int .i64 (-6), F.int .i64 6] (unBytes (bytesF s)) (resNear [F.int .i64 (-6), F.int .i64 6] (unBytes (bytesF s)) p).snd).snd))
 none)
 none)
def G44 (s : ByteArray) (p : Int) : Option ((Int) × (Int) × (Int)) := T44 (fun r r2 q => some (r, r2, q)) s p
theorem t44 (s : ByteArray) (p : Int) (r : Int) (r2 : Int) (q : Int) (h : G44 s p = some (r, r2, q)) : EndsN Try.prog 1 Try.f44.results.toList [.code (bodyOf Try.f44)] (startN Try.f44.ntmps [U.hp 0 0] [HO.box [U.f (bytesF s), U.f (F.int .i64 p)]]) (F.tup [F.agg [F.int .i64 r, F.int .i64 r2], F.agg [bytesF s, F.int .i64 q]]) := by
  refine Ends.of_run tyOK envD8_ok (T := []) (n := 200) ?_
  have e : run Try.prog (tiOf Try.prog) envD8 [] 1 Try.f44.results.toList some 200 [.code (bodyOf Try.f44)] (startN Try.f44.ntmps [U.hp 0 0] [HO.box [U.f (bytesF s), U.f (F.int .i64 p)]]) = T44 (fun r r2 q => some (.ret (F.tup [F.agg [F.int .i64 r, F.int .i64 r2], F.agg [bytesF s, F.int .i64 q]]))) s p := by kernel_rfl
  rw [e]
  exact (good_sel h (fun _ h => (good_sel h (fun _ h => good_ret (by cases h; rfl)) (fun _ h => nomatch h))) (fun _ h => nomatch h))
/-! ### function 43 -/
def T43 {ρ : Type} (ret : (Int) → (Int) → Option ρ) (s : ByteArray) (p : Int) (a : Int) (b : Int) : Option ρ :=
 (bsel (isBytes (bytesF s) && rdOk (unBytes (bytesF s)) p)
 (bsel ((onceV (unBytes (bytesF s)) p 24).fst)
 (bsel (isBytes (bytesF s) && rdOk (unBytes (bytesF s)) (onceV (unBytes (bytesF s)) p 24).snd)
 (bsel (decide (0 ≤ (belowV (unBytes (bytesF s)) (onceV (unBytes (bytesF s)) p 24).snd 4).fst))
 (bsel (decide ((belowV (unBytes (bytesF s)) (onceV (unBytes (bytesF s)) p 24).snd 4).fst < ((4 : Nat) : Int)))
 (bsel (decide (0 + (belowV (unBytes (bytesF s)) (onceV (unBytes (bytesF s)) p 24).snd 4).fst.toNat < 4))
 (bsel (decide ((lget [F.int .i64 (IntKind.i64.wrap (a - 1)), F.int .i64 (IntKind.i64.wrap (b + 1)), F.int .i64 (-9223372036854775808), F.int .i64 9223372036854775807] (0 + (belowV (unBytes (bytesF s)) (onceV (unBytes (bytesF s)) p 24).snd 4).fst.toNat)).cells.length = 1))
 (bsel (okV (Value.int IntKind.i64 0) ((List.drop 0 (lget [F.int .i64 (IntKind.i64.wrap (a - 1)), F.int .i64 (IntKind.i64.wrap (b + 1)), F.int .i64 (-9223372036854775808), F.int .i64 9223372036854775807] (0 + (belowV (unBytes (bytesF s)) (onceV (unBytes (bytesF s)) p 24).snd 4).fst.toNat)).cells).headD F.dflt) && true)
 (ret (intOf ((List.drop 0 (lget [F.int .i64 (IntKind.i64.wrap (a - 1)), F.int .i64 (IntKind.i64.wrap (b + 1)), F.int .i64 (-9223372036854775808), F.int .i64 9223372036854775807] (0 + (belowV (unBytes (bytesF s)) (onceV (unBytes (bytesF s)) p 24).snd 4).fst.toNat)).cells).headD F.dflt)) ((belowV (unBytes (bytesF s)) (onceV (unBytes (bytesF s)) p 24).snd 4).snd))
 none)
 none)
 none)
 none)
 none)
 none)
 (bsel (isBytes (bytesF s) && rdOk (unBytes (bytesF s)) (onceV (unBytes (bytesF s)) p 24).snd && isNear [F.int .i64 a, F.int .i64 b])
 (ret ((nearV a b (unBytes (bytesF s)) (onceV (unBytes (bytesF s)) p 24).snd).fst) ((resNear [F.int .i64 a, F.int .i64 b] (unBytes (bytesF s)) (onceV (unBytes (bytesF s)) p 24).snd).snd))
 none))
 none)
def G43 (s : ByteArray) (p : Int) (a : Int) (b : Int) : Option ((Int) × (Int)) := T43 (fun r q => some (r, q)) s p a b
theorem t43 (s : ByteArray) (p : Int) (a : Int) (b : Int) (r : Int) (q : Int) (h : G43 s p a b = some (r, q)) : EndsN Try.prog 1 Try.f43.results.toList [.code (bodyOf Try.f43)] (startN Try.f43.ntmps [U.hp 0 0, U.f (F.int .i64 a), U.f (F.int .i64 b)] [HO.box [U.f (bytesF s), U.f (F.int .i64 p)]]) (F.tup [F.int .i64 r, F.agg [bytesF s, F.int .i64 q]]) := by
  refine Ends.of_run tyOK envD8_ok (T := []) (n := 200) ?_
  have e : run Try.prog (tiOf Try.prog) envD8 [] 1 Try.f43.results.toList some 200 [.code (bodyOf Try.f43)] (startN Try.f43.ntmps [U.hp 0 0, U.f (F.int .i64 a), U.f (F.int .i64 b)] [HO.box [U.f (bytesF s), U.f (F.int .i64 p)]]) = T43 (fun r q => some (.ret (F.tup [F.int .i64 r, F.agg [bytesF s, F.int .i64 q]]))) s p a b := by kernel_rfl
  rw [e]
  exact (good_sel h (fun _ h => (good_sel h (fun _ h => (good_sel h (fun _ h => (good_sel h (fun _ h => (good_sel h (fun _ h => (good_sel h (fun _ h => (good_sel h (fun _ h => (good_sel h (fun _ h => good_ret (by cases h; rfl)) (fun _ h => nomatch h))) (fun _ h => nomatch h))) (fun _ h => nomatch h))) (fun _ h => nomatch h))) (fun _ h => nomatch h))) (fun _ h => nomatch h))) (fun _ h => (good_sel h (fun _ h => good_ret (by cases h; rfl)) (fun _ h => nomatch h))))) (fun _ h => nomatch h))
def spotV (s : ByteArray) (p : Int) : Int × Int × Int := (G44 s p).getD (0, 0, 0)
theorem spot_ok {s : ByteArray} {p : Int} (h : rdOk s p = true) : G44 s p = some (spotV s p) ∧ rdOk s (spotV s p).2.2 = true := by
  obtain ⟨a1, a2⟩ := near_ok h (a := -6) (b := 6) (by omega)
  obtain ⟨b1, b2⟩ := near_ok a2 (a := -6) (b := 6) (by omega)
  unfold spotV G44 T44
  simp only [resNear, unBytes_bytesF, isBytes_bytesF, h, a2, Bool.and_self, Bool.and_true, bsel_true, Option.getD_some]
  exact ⟨trivial, b2⟩
def resSpot : List F → ByteArray → Int → F × Int := fun _ s p => (.agg [.int .i64 (spotV s p).1, .int .i64 (spotV s p).2.1], (spotV s p).2.2)
theorem okSpot : SpOK Try.prog 44 (rdSp isNone resSpot) :=
  ok_rd (c := bodyOf Try.f44) Try.func44 (by kernel_rfl) (by kernel_rfl) fun xs s p hx hr => match xs, hx with
  | [], hx => ⟨_, .refl _, t44 s p _ _ _ (spot_ok hr).1⟩
def offV (a b : Int) (s : ByteArray) (p : Int) : Int × Int := (G43 s p a b).getD (0, 0)
theorem off_ok {s : ByteArray} {p a b : Int} (h : rdOk s p = true) (hab : -1099511627776 ≤ a ∧ a ≤ b ∧ b ≤ 1099511627776) : G43 s p a b = some (offV a b s p) ∧ rdOk s (offV a b s p).2 = true := by
  obtain ⟨o1, o2⟩ := once_ok h 24
  obtain ⟨b1, b2, b3, b4⟩ := below_ok o2 4
  obtain ⟨n1, n2⟩ := near_ok o2 hab
  have hn : isNear [F.int .i64 a, F.int .i64 b] = true := decide_eq_true hab
  unfold offV G43 T43
  simp only [resNear, unBytes_bytesF, isBytes_bytesF, h, o2, hn, Bool.and_self, Bool.and_true, bsel_true]
  cases (onceV s p 24).1 with
  | false => simp only [bsel_false, Option.getD_some]; exact ⟨trivial, n2⟩
  | true =>
    simp only [bsel_true]
    have hk : (belowV s (onceV s p 24).2 4).1 = 0 ∨ (belowV s (onceV s p 24).2 4).1 = 1 ∨ (belowV s (onceV s p 24).2 4).1 = 2 ∨ (belowV s (onceV s p 24).2 4).1 = 3 := by omega
    generalize (belowV s (onceV s p 24).2 4).1 = k at hk b2
    rcases hk with rfl | rfl | rfl | rfl <;> exact ⟨rfl, b4⟩
def resOff : List F → ByteArray → Int → F × Int
  | [.int .i64 a, .int .i64 b], s, p => (.int .i64 (offV a b s p).1, (offV a b s p).2)
  | _, _, p => (.dflt, p)
theorem okOff : SpOK Try.prog 43 (rdSp isNear resOff) :=
  ok_rd (c := bodyOf Try.f43) Try.func43 (by kernel_rfl) (by kernel_rfl) fun xs s p hx hr => match xs, hx with
  | [.int .i64 a, .int .i64 b], hx => ⟨_, .refl _, t43 s p a b _ _ (off_ok hr (of_decide_eq_true hx)).1⟩
def envD9 : Env := (envD8.add 44 (rdSp isNone resSpot)).add 43 (rdSp isNear resOff)
theorem envD9_ok : EnvOK Try.prog envD9 := Env.add_ok (Env.add_ok envD8_ok okSpot) okOff
end Go.Proofs.Ytmambbfnjbdfgaa.R

namespace Go.Proofs.Ytmambbfnjbdfgaa.R
open Go
set_option linter.unusedVariables false
def envD10a : Env := (envD9.add 88 (.pure pre2p resLess)).add 89 (.pure pre1s resSegOk)
theorem envD10a_ok : EnvOK Try.prog envD10a := Env.add_ok (Env.add_ok envD9_ok okLess.sp) okSegOkS.sp
end Go.Proofs.Ytmambbfnjbdfgaa.R

namespace Go.Proofs.Ytmambbfnjbdfgaa.R
open Go
set_option linter.unusedVariables false
set_option linter.unusedSimpArgs false
set_option maxRecDepth 100000
/-! ### function 53 -/
def T53 {ρ : Type} (ret : (Int) → (Int) → (Int) → (Int) → (Bool) → Option ρ) (x0 : Int) (y0 : Int) (x1 : Int) (y1 : Int) : Option ρ :=
 (bsel (lessV x1 y1 x0 y0)
 (bsel (!segOkV x1 y1 x0 y0)
 (ret (0) (0) (0) (0) (false))
 (ret (x1) (y1) (x0) (y0) (true)))
 (bsel (!segOkV x0 y0 x1 y1)
 (ret (0) (0) (0) (0) (false))
 (ret (x0) (y0) (x1) (y1) (true))))
def G53 (x0 : Int) (y0 : Int) (x1 : Int) (y1 : Int) : Option ((Int) × (Int) × (Int) × (Int) × (Bool)) := T53 (fun rx0 ry0 rx1 ry1 rb => some (rx0, ry0, rx1, ry1, rb)) x0 y0 x1 y1
theorem t53 (x0 : Int) (y0 : Int) (x1 : Int) (y1 : Int) (rx0 : Int) (ry0 : Int) (rx1 : Int) (ry1 : Int) (rb : Bool) (h : G53 x0 y0 x1 y1 = some (rx0, ry0, rx1, ry1, rb)) : Ends Try.prog Try.f53.results.toList [.code (bodyOf Try.f53)] (start Try.f53.ntmps ([F.agg [F.int .i64 x0, F.int .i64 y0], F.agg [F.int .i64 x1, F.int .i64 y1]].map .f)) (F.tup [F.agg [F.int .i64 rx0, F.int .i64 ry0, F.int .i64 rx1, F.int .i64 ry1], F.bool rb]) := by
  refine Ends.of_run tyOK envD10a_ok (T := []) (n := 200) ?_
  have e : run Try.prog (tiOf Try.prog) envD10a [] 0 Try.f53.results.toList some 200 [.code (bodyOf Try.f53)] (start Try.f53.ntmps ([F.agg [F.int .i64 x0, F.int .i64 y0], F.agg [F.int .i64 x1, F.int .i64 y1]].map .f)) = T53 (fun rx0 ry0 rx1 ry1 rb => some (.ret (F.tup [F.agg [F.int .i64 rx0, F.int .i64 ry0, F.int .i64 rx1, F.int .i64 ry1], F.bool rb]))) x0 y0 x1 y1 := by kernel_rfl
  rw [e]
  exact (good_sel h (fun _ h => (good_sel h (fun _ h => good_ret (by cases h; rfl)) (fun _ h => good_ret (by cases h; rfl)))) (fun _ h => (good_sel h (fun _ h => good_ret (by cases h; rfl)) (fun _ h => good_ret (by cases h; rfl)))))
def segOfV (x0 y0 x1 y1 : Int) : Sg × Bool := match G53 x0 y0 x1 y1 with
  | some (a, b, c, d, e) => (⟨a, b, c, d⟩, e)
  | none => (.zero, false)
theorem segOf_ok (x0 y0 x1 y1 : Int) : G53 x0 y0 x1 y1 = some ((segOfV x0 y0 x1 y1).1.x0, (segOfV x0 y0 x1 y1).1.y0, (segOfV x0 y0 x1 y1).1.x1, (segOfV x0 y0 x1 y1).1.y1, (segOfV x0 y0 x1 y1).2) := by
  unfold segOfV G53 T53
  cases lessV x1 y1 x0 y0 <;> cases segOkV x1 y1 x0 y0 <;> cases segOkV x0 y0 x1 y1 <;> rfl
def resSegOf : List F → F | [.agg [.int .i64 a, .int .i64 b], .agg [.int .i64 c, .int .i64 d]] => .tup [.agg [.int .i64 (segOfV a b c d).1.x0, .int .i64 (segOfV a b c d).1.y0, .int .i64 (segOfV a b c d).1.x1, .int .i64 (segOfV a b c d).1.y1], .bool (segOfV a b c d).2] | _ => .dflt
theorem okSegOf : PureOK Try.prog 53 pre2p resSegOf :=
  fn_pure (c := bodyOf Try.f53) Try.func53 (by kernel_rfl) (by kernel_rfl) fun xs hp => match xs, hp with
  | [.agg [.int .i64 a, .int .i64 b], .agg [.int .i64 c, .int .i64 d]], hp => t53 a b c d _ _ _ _ _ (segOf_ok a b c d)
def envD10 : Env := envD10a.add 53 (.pure pre2p resSegOf)
theorem envD10_ok : EnvOK Try.prog envD10 := Env.add_ok envD10a_ok okSegOf.sp
end Go.Proofs.Ytmambbfnjbdfgaa.R

namespace Go.Proofs.Ytmambbfnjbdfgaa.R
open Go
set_option linter.unusedVariables false
set_option linter.unusedSimpArgs false
set_option maxRecDepth 100000
/-! ### function 78 -/
def T78 {ρ : Type} (ret : (Int) → (Int) → (Int) → (Int) → (Int) → Option ρ) (s : ByteArray) (p : Int) : Option ρ :=
 (bsel (isBytes (bytesF s) && rdOk (unBytes (bytesF s)) p)
 (bsel ((belowV (unBytes (bytesF s)) p 20).fst == 0)
 (bsel (isBytes (bytesF s) && rdOk (unBytes (bytesF s)) (belowV (unBytes (bytesF s)) p 20).snd && true)
 (bsel (isBytes (bytesF s) && rdOk (unBytes (bytesF s)) (resOff [F.int .i64 (-1000000), F.int .i64 1000000] (unBytes (bytesF s)) (belowV (unBytes (bytesF s)) p 20).snd).snd && true)
 (bsel (isBytes (bytesF s) && rdOk (unBytes (bytesF s)) (resOff [F.int .i64 (-1000000), F.int .i64 1000000] (unBytes (bytesF s)) (resOff [F.int .i64 (-1000000), F.int .i64 1000000] (unBytes (bytesF s)) (belowV (unBytes (bytesF s)) p 20).snd).snd).snd && true)
 (bsel (isBytes (bytesF s) && rdOk (unBytes (bytesF s)) (resOff [F.int .i64 (-1000000), F.int .i64 1000000] (unBytes (bytesF s)) (resOff [F.int .i64 (-1000000), F.int .i64 1000000] (unBytes (bytesF s)) (resOff [F.int .i64 (-1000000), F.int .i64 1000000] (unBytes (bytesF s)) (belowV (unBytes (bytesF s)) p 20).snd).snd).snd).snd && true)
 (ret ((offV (-1000000) 1000000 (unBytes (bytesF s)) (belowV (unBytes (bytesF s)) p 20).snd).fst) ((offV (-1000000) 1000000 (unBytes (bytesF s)) (resOff [F.int .i64 (-1000000), F.int .i64 1000000] (unBytes (bytesF s)) (belowV (unBytes (bytesF s)) p 20).snd).snd).fst) ((offV (-1000000) 1000000 (unBytes (bytesF s)) (resOff [F.int .i64 (-1000000), F.int .i64 1000000] (unBytes (bytesF s)) (resOff [F.int .i64 (-1000000), F.int .i64 1000000] (unBytes (bytesF s)) (belowV (unBytes (bytesF s)) p 20).snd).snd).snd).fst) ((offV (-1000000) 1000000 (unBytes (bytesF s)) (resOff [F.int .i64 (-1000000), F.int .i64 1000000] (unBytes (bytesF s)) (resOff [F.int .i64 (-1000000), F.int .i64 1000000] (unBytes (bytesF s)) (resOff [F.int .i64 (-1000000), F.int .i64 1000000] (unBytes (bytesF s)) (belowV (unBytes (bytesF s)) p 20).snd).snd).snd).snd).fst) ((resOff [F.int .i64 (-1000000), F.int .i64 1000000] (unBytes (bytesF s)) (resOff [F.int .i64 (-1000000), F.int .i64 1000000] (unBytes (bytesF s)) (resOff [F.int .i64 (-1000000), F.int .i64 1000000] (unBytes (bytesF s)) (resOff [F.int .i64 (-1000000), F.int .i64 1000000] (unBytes (bytesF s)) (belowV (unBytes (bytesF s)) p 20).snd).snd).snd).snd).snd))
 none)
 none)
 none)
 none)
 (bsel ((belowV (unBytes (bytesF s)) p 20).fst == 1)
 (bsel (isBytes (bytesF s) && rdOk (unBytes (bytesF s)) (belowV (unBytes (bytesF s)) p 20).snd && true)
 (bsel (isBytes (bytesF s) && rdOk (unBytes (bytesF s)) (resNear [F.int .i64 (-1000000), F.int .i64 1000000] (unBytes (bytesF s)) (belowV (unBytes (bytesF s)) p 20).snd).snd && true)
 (bsel (isBytes (bytesF s) && rdOk (unBytes (bytesF s)) (resNear [F.int .i64 (-1000000), F.int .i64 1000000] (unBytes (bytesF s)) (resNear [F.int .i64 (-1000000), F.int .i64 1000000] (unBytes (bytesF s)) (belowV (unBytes (bytesF s)) p 20).snd).snd).snd && true)
 (bsel (isBytes (bytesF s) && rdOk (unBytes (bytesF s)) (resNear [F.int .i64 (-1000000), F.int .i64 1000000] (unBytes (bytesF s)) (resNear [F.int .i64 (-1000000), F.int .i64 1000000] (unBytes (bytesF s)) (resNear [F.int .i64 (-1000000), F.int .i64 1000000] (unBytes (bytesF s)) (belowV (unBytes (bytesF s)) p 20).snd).snd).snd).snd && true)
 (ret ((segOfV (nearV (-1000000) 1000000 (unBytes (bytesF s)) (belowV (unBytes (bytesF s)) p 20).snd).fst (nearV (-1000000) 1000000 (unBytes (bytesF s)) (resNear [F.int .i64 (-1000000), F.int .i64 1000000] (unBytes (bytesF s)) (belowV (unBytes (bytesF s)) p 20).snd).snd).fst (nearV (-1000000) 1000000 (unBytes (bytesF s)) (resNear [F.int .i64 (-1000000), F.int .i64 1000000] (unBytes (bytesF s)) (resNear [F.int .i64 (-1000000), F.int .i64 1000000] (unBytes (bytesF s)) (belowV (unBytes (bytesF s)) p 20).snd).snd).snd).fst (nearV (-1000000) 1000000 (unBytes (bytesF s)) (resNear [F.int .i64 (-1000000), F.int .i64 1000000] (unBytes (bytesF s)) (resNear [F.int .i64 (-1000000), F.int .i64 1000000] (unBytes (bytesF s)) (resNear [F.int .i64 (-1000000), F.int .i64 1000000] (unBytes (bytesF s)) (belowV (unBytes (bytesF s)) p 20).snd).snd).snd).snd).fst).fst.x0) ((segOfV (nearV (-1000000) 1000000 (unBytes (bytesF s)) (belowV (unBytes (bytesF s)) p 20).snd).fst (nearV (-1000000) 1000000 (unBytes (bytesF s)) (resNear [F.int .i64 (-1000000), F.int .i64 1000000] (unBytes (bytesF s)) (belowV (unBytes (bytesF s)) p 20).snd).snd).fst (nearV (-1000000) 1000000 (unBytes (bytesF s)) (resNear [F.int .i64 (-1000000), F.int .i64 1000000] (unBytes (bytesF s)) (resNear [F.int .i64 (-1000000), F.int .i64 1000000] (unBytes (bytesF s)) (belowV (unBytes (bytesF s)) p 20).snd).snd).snd).fst (nearV (-1000000) 1000000 (unBytes (bytesF s)) (resNear [F.int .i64 (-1000000), F.int .i64 1000000] (unBytes (bytesF s)) (resNear [F.int .i64 (-1000000), F.int .i64 1000000] (unBytes (bytesF s)) (resNear [F.int .i64 (-1000000), F.int .i64 1000000] (unBytes (bytesF s)) (belowV (unBytes (bytesF s)) p 20).snd).snd).snd).snd).fst).fst.y0) ((segOfV (nearV (-1000000) 1000000 (unBytes (bytesF s)) (belowV (unBytes (bytesF s)) p 20).snd).fst (nearV (-1000000) 1000000 (unBytes (bytesF s)) (resNear [F.int .i64 (-1000000), F.int .i64 1000000] (unBytes (bytesF s)) (belowV (unBytes (bytesF s)) p 20).snd).snd).fst (nearV (-1000000) 1000000 (unBytes (bytesF s)) (resNear [F.int .i64 (-1000000), F.int .i64 1000000] (unBytes (bytesF s)) (resNear [F.int .i64 (-1000000), F.int .i64 1000000] (unBytes (bytesF s)) (belowV (unBytes (bytesF s)) p 20).snd).snd).snd).fst (nearV (-1000000) 1000000 (unBytes (bytesF s)) (resNear [F.int .i64 (-1000000), F.int .i64 1000000] (unBytes (bytesF s)) (resNear [F.int .i64 (-1000000), F.int .i64 1000000] (unBytes (bytesF s)) (resNear [F.int .i64 (-1000000), F.int .i64 1000000] (unBytes (bytesF s)) (belowV (unBytes (bytesF s)) p 20).snd).snd).snd).snd).fst).fst.x1) ((segOfV (nearV (-1000000) 1000000 (unBytes (bytesF s)) (belowV (unBytes (bytesF s)) p 20).snd).fst (nearV (-1000000) 1000000 (unBytes (bytesF s)) (resNear [F.int .i64 (-1000000), F.int .i64 1000000] (unBytes (bytesF s)) (belowV (unBytes (bytesF s)) p 20).snd).snd).fst (nearV (-1000000) 1000000 (unBytes (bytesF s)) (resNear [F.int .i64 (-1000000), F.int .i64 1000000] (unBytes (bytesF s)) (resNear [F.int .i64 (-1000000), F.int .i64 1000000] (unBytes (bytesF s)) (belowV (unBytes (bytesF s)) p 20).snd).snd).snd).fst (nearV (-1000000) 1000000 (unBytes (bytesF s)) (resNear [F.int .i64 (-1000000), F.int .i64 1000000] (unBytes (bytesF s)) (resNear [F.int .i64 (-1000000), F.int .i64 1000000] (unBytes (bytesF s)) (resNear [F.int .i64 (-1000000), F.int .i64 1000000] (unBytes (bytesF s)) (belowV (unBytes (bytesF s)) p 20).snd).snd).snd).snd).fst).fst.y1) ((resNear [F.int .i64 (-1000000), F.int .i64 1000000] (unBytes (bytesF s)) (resNear [F.int .i64 (-1000000), F.int .i64 1000000] (unBytes (bytesF s)) (resNear [F.int .i64 (-1000000), F.int .i64 1000000] (unBytes (bytesF s)) (resNear [F.int .i64 (-1000000), F.int .i64 1000000] (unBytes (bytesF s)) (belowV (unBytes (bytesF s)) p 20).snd).snd).snd).snd).snd))
 none)
 none)
 none)
 none)
 (bsel ((belowV (unBytes (bytesF s)) p 20).fst == 2)
 (bsel (isBytes (bytesF s) && rdOk (unBytes (bytesF s)) (belowV (unBytes (bytesF s)) p 20).snd && true)
 (bsel (isBytes (bytesF s) && rdOk (unBytes (bytesF s)) (resSpot [] (unBytes (bytesF s)) (belowV (unBytes (bytesF s)) p 20).snd).snd && true)
 (ret ((spotV (unBytes (bytesF s)) (belowV (unBytes (bytesF s)) p 20).snd).fst) ((spotV (unBytes (bytesF s)) (belowV (unBytes (bytesF s)) p 20).snd).snd.fst) ((spotV (unBytes (bytesF s)) (resSpot [] (unBytes (bytesF s)) (belowV (unBytes (bytesF s)) p 20).snd).snd).fst) ((spotV (unBytes (bytesF s)) (resSpot [] (unBytes (bytesF s)) (belowV (unBytes (bytesF s)) p 20).snd).snd).snd.fst) ((resSpot [] (unBytes (bytesF s)) (resSpot [] (unBytes (bytesF s)) (belowV (unBytes (bytesF s)) p 20).snd).snd).snd))
 none)
 none)
 (bsel (isBytes (bytesF s) && rdOk (unBytes (bytesF s)) (belowV (unBytes (bytesF s)) p 20).snd && true)
 (bsel (isBytes (bytesF s) && rdOk (unBytes (bytesF s)) (resSpot [] (unBytes (bytesF s)) (belowV (unBytes (bytesF s)) p 20).snd).snd && true)
 (bsel ((spotV (unBytes (bytesF s)) (belowV (unBytes (bytesF s)) p 20).snd).fst == (spotV (unBytes (bytesF s)) (resSpot [] (unBytes (bytesF s)) (belowV (unBytes (bytesF s)) p 20).snd).snd).fst && ((spotV (unBytes (bytesF s)) (belowV (unBytes (bytesF s)) p 20).snd).snd.fst == (spotV (unBytes (bytesF s)) (resSpot [] (unBytes (bytesF s)) (belowV (unBytes (bytesF s)) p 20).snd).snd).snd.fst && true))
 (ret ((segOfV (spotV (unBytes (bytesF s)) (belowV (unBytes (bytesF s)) p 20).snd).fst (spotV (unBytes (bytesF s)) (belowV (unBytes (bytesF s)) p 20).snd).snd.fst (IntKind.i64.wrap ((spotV (unBytes (bytesF s)) (resSpot [] (unBytes (bytesF s)) (belowV (unBytes (bytesF s)) p 20).snd).snd).fst + 1)) (spotV (unBytes (bytesF s)) (resSpot [] (unBytes (bytesF s)) (belowV (unBytes (bytesF s)) p 20).snd).snd).snd.fst).fst.x0) ((segOfV (spotV (unBytes (bytesF s)) (belowV (unBytes (bytesF s)) p 20).snd).fst (spotV (unBytes (bytesF s)) (belowV (unBytes (bytesF s)) p 20).snd).snd.fst (IntKind.i64.wrap ((spotV (unBytes (bytesF s)) (resSpot [] (unBytes (bytesF s)) (belowV (unBytes (bytesF s)) p 20).snd).snd).fst + 1)) (spotV (unBytes (bytesF s)) (resSpot [] (unBytes (bytesF s)) (belowV (unBytes (bytesF s)) p 20).snd).snd).snd.fst).fst.y0) ((segOfV (spotV (unBytes (bytesF s)) (belowV (unBytes (bytesF s)) p 20).snd).fst (spotV (unBytes (bytesF s)) (belowV (unBytes (bytesF s)) p 20).snd).snd.fst (IntKind.i64.wrap ((spotV (unBytes (bytesF s)) (resSpot [] (unBytes (bytesF s)) (belowV (unBytes (bytesF s)) p 20).snd).snd).fst + 1)) (spotV (unBytes (bytesF s)) (resSpot [] (unBytes (bytesF s)) (belowV (unBytes (bytesF s)) p 20).snd).snd).snd.fst).fst.x1) ((segOfV (spotV (unBytes (bytesF s)) (belowV (unBytes (bytesF s)) p 20).snd).fst (spotV (unBytes (bytesF s)) (belowV (unBytes (bytesF s)) p 20).snd).snd.fst (IntKind.i64.wrap ((spotV (unBytes (bytesF s)) (resSpot [] (unBytes (bytesF s)) (belowV (unBytes (bytesF s)) p 20).snd).snd).fst + 1)) (spotV (unBytes (bytesF s)) (resSpot [] (unBytes (bytesF s)) (belowV (unBytes (bytesF s)) p 20).snd).snd).snd.fst).fst.y1) ((resSpot [] (unBytes (bytesF s)) (resSpot [] (unBytes (bytesF s)) (belowV (unBytes (bytesF s)) p 20).snd).snd).snd))
 (ret ((segOfV (spotV (unBytes (bytesF s)) (belowV (unBytes (bytesF s)) p 20).snd).fst (spotV (unBytes (bytesF s)) (belowV (unBytes (bytesF s)) p 20).snd).snd.fst (spotV (unBytes (bytesF s)) (resSpot [] (unBytes (bytesF s)) (belowV (unBytes (bytesF s)) p 20).snd).snd).fst (spotV (unBytes (bytesF s)) (resSpot [] (unBytes (bytesF s)) (belowV (unBytes (bytesF s)) p 20).snd).snd).snd.fst).fst.x0) ((segOfV (spotV (unBytes (bytesF s)) (belowV (unBytes (bytesF s)) p 20).snd).fst (spotV (unBytes (bytesF s)) (belowV (unBytes (bytesF s)) p 20).snd).snd.fst (spotV (unBytes (bytesF s)) (resSpot [] (unBytes (bytesF s)) (belowV (unBytes (bytesF s)) p 20).snd).snd).fst (spotV (unBytes (bytesF s)) (resSpot [] (unBytes (bytesF s)) (belowV (unBytes (bytesF s)) p 20).snd).snd).snd.fst).fst.y0) ((segOfV (spotV (unBytes (bytesF s)) (belowV (unBytes (bytesF s)) p 20).snd).fst (spotV (unBytes (bytesF s)) (belowV (unBytes (bytesF s)) p 20).snd).snd.fst (spotV (unBytes (bytesF s)) (resSpot [] (unBytes (bytesF s)) (belowV (unBytes (bytesF s)) p 20).snd).snd).fst (spotV (unBytes (bytesF s)) (resSpot [] (unBytes (bytesF s)) (belowV (unBytes (bytesF s)) p 20).snd).snd).snd.fst).fst.x1) ((segOfV (spotV (unBytes (bytesF s)) (belowV (unBytes (bytesF s)) p 20).snd).fst (spotV (unBytes (bytesF s)) (belowV (unBytes (bytesF s)) p 20).snd).snd.fst (spotV (unBytes (bytesF s)) (resSpot [] (unBytes (bytesF s)) (belowV (unBytes (bytesF s)) p 20).snd).snd).fst (spotV (unBytes (bytesF s)) (resSpot [] (unBytes (bytesF s)) (belowV (unBytes (bytesF s)) p 20).snd).snd).snd.fst).fst.y1) ((resSpot [] (unBytes (bytesF s)) (resSpot [] (unBytes (bytesF s)) (belowV (unBytes (bytesF s)) p 20).snd).snd).snd)))
 none)
 none))))
 none)
def G78 (s : ByteArray) (p : Int) : Option ((Int) × (Int) × (Int) × (Int) × (Int)) := T78 (fun rx0 ry0 rx1 ry1 q => some (rx0, ry0, rx1, ry1, q)) s p
theorem t78 (s : ByteArray) (p : Int) (rx0 : Int) (ry0 : Int) (rx1 : Int) (ry1 : Int) (q : Int) (h : G78 s p = some (rx0, ry0, rx1, ry1, q)) : EndsN Try.prog 1 Try.f78.results.toList [.code (bodyOf Try.f78)] (startN Try.f78.ntmps [U.hp 0 0] [HO.box [U.f (bytesF s), U.f (F.int .i64 p)]]) (F.tup [F.agg [F.int .i64 rx0, F.int .i64 ry0, F.int .i64 rx1, F.int .i64 ry1], F.agg [bytesF s, F.int .i64 q]]) := by
  refine Ends.of_run tyOK envD10_ok (T := []) (n := 200) ?_
  have e : run Try.prog (tiOf Try.prog) envD10 [] 1 Try.f78.results.toList some 200 [.code (bodyOf Try.f78)] (startN Try.f78.ntmps [U.hp 0 0] [HO.box [U.f (bytesF s), U.f (F.int .i64 p)]]) = T78 (fun rx0 ry0 rx1 ry1 q => some (.ret (F.tup [F.agg [F.int .i64 rx0, F.int .i64 ry0, F.int .i64 rx1, F.int .i64 ry1], F.agg [bytesF s, F.int .i64 q]]))) s p := by kernel_rfl
  rw [e]
  exact (good_sel h (fun _ h => (good_sel h (fun _ h => (good_sel h (fun _ h => (good_sel h (fun _ h => (good_sel h (fun _ h => (good_sel h (fun _ h => good_ret (by cases h; rfl)) (fun _ h => nomatch h))) (fun _ h => nomatch h))) (fun _ h => nomatch h))) (fun _ h => nomatch h))) (fun _ h => (good_sel h (fun _ h => (good_sel h (fun _ h => (good_sel h (fun _ h => (good_sel h (fun _ h => (good_sel h (fun _ h => good_ret (by cases h; rfl)) (fun _ h => nomatch h))) (fun _ h => nomatch h))) (fun _ h => nomatch h))) (fun _ h => nomatch h))) (fun _ h => (good_sel h (fun _ h => (good_sel h (fun _ h => (good_sel h (fun _ h => good_ret (by cases h; rfl)) (fun _ h => nomatch h))) (fun _ h => nomatch h))) (fun _ h => (good_sel h (fun _ h => (good_sel h (fun _ h => (good_sel h (fun _ h => good_ret (by cases h; rfl)) (fun _ h => good_ret (by cases h; rfl)))) (fun _ h => nomatch h))) (fun _ h => nomatch h))))))))) (fun _ h => nomatch h))
def segV (s : ByteArray) (p : Int) : Int × Int × Int × Int × Int := (G78 s p).getD (0, 0, 0, 0, 0)
theorem seg_ok {s : ByteArray} {p : Int} (h : rdOk s p = true) : G78 s p = some (segV s p) ∧ rdOk s (segV s p).2.2.2.2 = true := by
  obtain ⟨b1, b2, b3, b4⟩ := below_ok h 20
  have hab : -1099511627776 ≤ (-1000000 : Int) ∧ (-1000000 : Int) ≤ 1000000 ∧ (1000000 : Int) ≤ 1099511627776 := by omega
  obtain ⟨_, o1⟩ := off_ok b4 hab
  obtain ⟨_, o2⟩ := off_ok o1 hab
  obtain ⟨_, o3⟩ := off_ok o2 hab
  obtain ⟨_, o4⟩ := off_ok o3 hab
  obtain ⟨_, n1⟩ := near_ok b4 hab
  obtain ⟨_, n2⟩ := near_ok n1 hab
  obtain ⟨_, n3⟩ := near_ok n2 hab
  obtain ⟨_, n4⟩ := near_ok n3 hab
  obtain ⟨_, s1⟩ := spot_ok b4
  obtain ⟨_, s2⟩ := spot_ok s1
  unfold segV G78 T78
  simp only [resSpot, resOff, resNear, unBytes_bytesF, isBytes_bytesF, h, b4, o1, o2, o3, n1, n2, n3, s1, Bool.and_self, Bool.and_true, bsel_true]
  generalize ((belowV s p 20).1 == 0) = c1
  cases c1 with
  | true => simp only [bsel_true, Option.getD_some]; exact ⟨trivial, o4⟩
  | false =>
    simp only [bsel_false]
    generalize ((belowV s p 20).1 == 1) = c2
    cases c2 with
    | true => simp only [bsel_true, Option.getD_some]; exact ⟨trivial, n4⟩
    | false =>
      simp only [bsel_false]
      generalize ((belowV s p 20).1 == 2) = c3
      cases c3 with
      | true => simp only [bsel_true, Option.getD_some]; exact ⟨trivial, s2⟩
      | false =>
        simp only [bsel_false]
        cases (spotV s (belowV s p 20).2).1 == (spotV s (spotV s (belowV s p 20).2).2.2).1 <;> cases (spotV s (belowV s p 20).2).2.1 == (spotV s (spotV s (belowV s p 20).2).2.2).2.1 <;>
          (simp only [Bool.and_self, Bool.and_true, Bool.and_false, Bool.false_and, Bool.true_and, bsel_true, bsel_false, Option.getD_some]; exact ⟨trivial, s2⟩)
def resSegR : List F → ByteArray → Int → F × Int := fun _ s p => (.agg [.int .i64 (segV s p).1, .int .i64 (segV s p).2.1, .int .i64 (segV s p).2.2.1, .int .i64 (segV s p).2.2.2.1], (segV s p).2.2.2.2)
theorem okSegR : SpOK Try.prog 78 (rdSp isNone resSegR) :=
  ok_rd (c := bodyOf Try.f78) Try.func78 (by kernel_rfl) (by kernel_rfl) fun xs s p hx hr => match xs, hx with
  | [], hx => ⟨_, .refl _, t78 s p _ _ _ _ _ (seg_ok hr).1⟩
def envD11 : Env := envD10.add 78 (rdSp isNone resSegR)
theorem envD11_ok : EnvOK Try.prog envD11 := Env.add_ok envD10_ok okSegR
end Go.Proofs.Ytmambbfnjbdfgaa.R
