/-
  The own walk and what it shows, part 6 of 6.
-/
import Derived.Test.YtmambbfnjbdfgaaJ1
import Derived.Test.YtmambbfnjbdfgaaJ2
import Derived.Test.YtmambbfnjbdfgaaJ3
import Derived.Test.YtmambbfnjbdfgaaJ4
import Derived.Test.YtmambbfnjbdfgaaJ5
set_option exponentiation.threshold 30000
namespace Go.Proofs.Ytmambbfnjbdfgaa.R
open Go
noncomputable section
set_option linter.unusedVariables false
set_option linter.unusedSimpArgs false
set_option maxRecDepth 100000
theorem boundC_up {x : Int} {n m : Nat} (h : x.natAbs < 4294967296 ^ n) (hn : n ≤ m) : x.natAbs < 4294967296 ^ m := Nat.lt_of_lt_of_le h (Nat.pow_le_pow_right (by omega) hn)
theorem boundC_sub {x y : Int} {n : Nat} (hx : x.natAbs < 4294967296 ^ n) (hy : y.natAbs < 4294967296 ^ n) : (x - y).natAbs < 4294967296 ^ (n + 1) := by
  rw [Nat.pow_succ]
  generalize 4294967296 ^ n = t at *
  omega
theorem boundC_mul {x y : Int} {n m : Nat} (hx : x.natAbs < 4294967296 ^ n) (hy : y.natAbs < 4294967296 ^ m) : (x * y).natAbs < 4294967296 ^ (n + m) := by
  rw [Int.natAbs_mul, Nat.pow_add]
  exact Nat.mul_lt_mul_of_lt_of_le hx (Nat.le_of_lt hy) (Nat.pow_pos (by omega))
/-! ### function 70 -/
def T70 {ρ : Type} (ret : (Int) → Option ρ) (x : Int) (y : Int) : Option ρ :=
  (bsel (isL1n 800 (l1nF x) && isL1n 800 (l1nF y))
   (bsel (isL1n 900 (resSubZ [l1nF x, l1nF y]))
    (ret ((unL1n (resSubZ [l1nF x, l1nF y])).sign))
    none)
   none)
def G70 (x : Int) (y : Int) : Option (Int) := T70 some x y
theorem t70 (x : Int) (y : Int) (r : Int) (h : G70 x y = some r) : Ends Try.prog Try.f70.results.toList [.code (bodyOf Try.f70)] (start Try.f70.ntmps ([l1nF x, l1nF y].map .f)) (F.int .i64 r) := by
  refine Ends.of_run tyOK envS4_ok (T := []) (n := 200) ?_
  have e : run Try.prog (tiOf Try.prog) envS4 [] 0 Try.f70.results.toList some 200 [.code (bodyOf Try.f70)] (start Try.f70.ntmps ([l1nF x, l1nF y].map .f)) = T70 (fun r => some (.ret (F.int .i64 r))) x y := by kernel_rfl
  rw [e]
  exact (good_sel h (fun _ h => (good_sel h (fun _ h => good_ret (by cases h; rfl)) (fun _ h => nomatch h))) (fun _ h => nomatch h))
theorem cmpZ_law {x y : Int} (hx : x.natAbs < 4294967296 ^ 800) (hy : y.natAbs < 4294967296 ^ 800) : G70 x y = some (x - y).sign := by
  have hs : (x - y).natAbs < 4294967296 ^ 900 := boundC_up (boundC_sub hx hy) (by omega)
  unfold G70 T70
  simp only [resSubZ, unL1n_l1nF, isL1n_l1nF hx, isL1n_l1nF hy, isL1n_l1nF hs, Bool.and_self, bsel_true]
def resCmpZ : List F → F | [x, y] => .int .i64 (unL1n x - unL1n y).sign | _ => .dflt
theorem okCmpZ : PureOK Try.prog 70 (preL2 800) resCmpZ :=
  fn_pure_at (c := bodyOf Try.f70) Try.func70 (by kernel_rfl) (by kernel_rfl) fun xs hp => match xs, hp with
  | [x, y], hp => by
    obtain ⟨hx, hy⟩ := preL2_iff hp
    exact ⟨[l1nF (unL1n x), l1nF (unL1n y)], _, ⟨(l1n_eqv hx).1, (l1n_eqv hy).1, trivial⟩, t70 _ _ _ (cmpZ_law (natAbs_of_isL1n hx) (natAbs_of_isL1n hy)), .refl _⟩
/-! ### function 108 -/
def T108 {ρ : Type} (ret : (F) → Option ρ) (x : Int) (y : Int) : Option ρ :=
  (bsel (isTrimH 699 (halvesF (digs 4294967296 x.natAbs)) && isTrimH 699 (halvesF (digs 4294967296 y.natAbs)) && isDivA (val 4294967296 (unHalves (halvesF (digs 4294967296 y.natAbs)))))
   (bsel (isHalves (halvesF (digs 4294967296 (val 4294967296 (unHalves (halvesF (digs 4294967296 x.natAbs))) / val 4294967296 (unHalves (halvesF (digs 4294967296 y.natAbs)))))) && lenOk 2000 (halvesF (digs 4294967296 (val 4294967296 (unHalves (halvesF (digs 4294967296 x.natAbs))) / val 4294967296 (unHalves (halvesF (digs 4294967296 y.natAbs)))))))
    (bsel (isHalves (halvesF (digs 4294967296 (val 4294967296 (unHalves (halvesF (digs 4294967296 x.natAbs))) % val 4294967296 (unHalves (halvesF (digs 4294967296 y.natAbs)))))) && lenOk 2000 (halvesF (digs 4294967296 (val 4294967296 (unHalves (halvesF (digs 4294967296 x.natAbs))) % val 4294967296 (unHalves (halvesF (digs 4294967296 y.natAbs)))))))
     (bsel (decide (sgn (decide (x < 0)) (val 4294967296 (unHalves (halvesF (digs 4294967296 (val 4294967296 (unHalves (halvesF (digs 4294967296 x.natAbs))) % val 4294967296 (unHalves (halvesF (digs 4294967296 y.natAbs)))))))) < 0))
      (bsel (decide (y < 0))
       (bsel (isL1n 800 (l1nF (sgn (!decide (x < 0) == decide (y < 0)) (val 4294967296 (unHalves (halvesF (digs 4294967296 (val 4294967296 (unHalves (halvesF (digs 4294967296 x.natAbs))) / val 4294967296 (unHalves (halvesF (digs 4294967296 y.natAbs)))))))))) && true)
        (bsel (isL1n 800 (l1nF (sgn (decide (x < 0)) (val 4294967296 (unHalves (halvesF (digs 4294967296 (val 4294967296 (unHalves (halvesF (digs 4294967296 x.natAbs))) % val 4294967296 (unHalves (halvesF (digs 4294967296 y.natAbs)))))))))) && isL1n 800 (l1nF y))
         (ret (F.tup [l1nF (unL1n (l1nF (sgn (!decide (x < 0) == decide (y < 0)) (val 4294967296 (unHalves (halvesF (digs 4294967296 (val 4294967296 (unHalves (halvesF (digs 4294967296 x.natAbs))) / val 4294967296 (unHalves (halvesF (digs 4294967296 y.natAbs)))))))))) + unL1n (resInt3 [F.int IntKind.i64 1])), l1nF (unL1n (l1nF (sgn (decide (x < 0)) (val 4294967296 (unHalves (halvesF (digs 4294967296 (val 4294967296 (unHalves (halvesF (digs 4294967296 x.natAbs))) % val 4294967296 (unHalves (halvesF (digs 4294967296 y.natAbs)))))))))) - unL1n (l1nF y))]))
         none)
        none)
       (bsel (isL1n 800 (l1nF (sgn (!decide (x < 0) == decide (y < 0)) (val 4294967296 (unHalves (halvesF (digs 4294967296 (val 4294967296 (unHalves (halvesF (digs 4294967296 x.natAbs))) / val 4294967296 (unHalves (halvesF (digs 4294967296 y.natAbs)))))))))) && true)
        (bsel (isL1n 800 (l1nF (sgn (decide (x < 0)) (val 4294967296 (unHalves (halvesF (digs 4294967296 (val 4294967296 (unHalves (halvesF (digs 4294967296 x.natAbs))) % val 4294967296 (unHalves (halvesF (digs 4294967296 y.natAbs)))))))))) && isL1n 800 (l1nF y))
         (ret (F.tup [l1nF (unL1n (l1nF (sgn (!decide (x < 0) == decide (y < 0)) (val 4294967296 (unHalves (halvesF (digs 4294967296 (val 4294967296 (unHalves (halvesF (digs 4294967296 x.natAbs))) / val 4294967296 (unHalves (halvesF (digs 4294967296 y.natAbs)))))))))) - unL1n (resInt3 [F.int IntKind.i64 1])), l1nF (unL1n (l1nF (sgn (decide (x < 0)) (val 4294967296 (unHalves (halvesF (digs 4294967296 (val 4294967296 (unHalves (halvesF (digs 4294967296 x.natAbs))) % val 4294967296 (unHalves (halvesF (digs 4294967296 y.natAbs)))))))))) + unL1n (l1nF y))]))
         none)
        none))
      (ret (F.tup [l1nF (sgn (!decide (x < 0) == decide (y < 0)) (val 4294967296 (unHalves (halvesF (digs 4294967296 (val 4294967296 (unHalves (halvesF (digs 4294967296 x.natAbs))) / val 4294967296 (unHalves (halvesF (digs 4294967296 y.natAbs))))))))), l1nF (sgn (decide (x < 0)) (val 4294967296 (unHalves (halvesF (digs 4294967296 (val 4294967296 (unHalves (halvesF (digs 4294967296 x.natAbs))) % val 4294967296 (unHalves (halvesF (digs 4294967296 y.natAbs)))))))))])))
     none)
    none)
   none)
def G108 (x : Int) (y : Int) : Option (F) := T108 some x y
theorem t108 (x : Int) (y : Int) (r : F) (h : G108 x y = some r) : Ends Try.prog Try.f108.results.toList [.code (bodyOf Try.f108)] (start Try.f108.ntmps ([l1nF x, l1nF y].map .f)) (r) := by
  refine Ends.of_run tyOK envS4_ok (T := []) (n := 200) ?_
  have e : run Try.prog (tiOf Try.prog) envS4 [] 0 Try.f108.results.toList some 200 [.code (bodyOf Try.f108)] (start Try.f108.ntmps ([l1nF x, l1nF y].map .f)) = T108 (fun r => some (.ret (r))) x y := by kernel_rfl
  rw [e]
  exact (good_sel h (fun _ h => (good_sel h (fun _ h => (good_sel h (fun _ h => (good_sel h (fun _ h => (good_sel h (fun _ h => (good_sel h (fun _ h => (good_sel h (fun _ h => good_ret (by cases h; rfl)) (fun _ h => nomatch h))) (fun _ h => nomatch h))) (fun _ h => (good_sel h (fun _ h => (good_sel h (fun _ h => good_ret (by cases h; rfl)) (fun _ h => nomatch h))) (fun _ h => nomatch h))))) (fun _ h => good_ret (by cases h; rfl)))) (fun _ h => nomatch h))) (fun _ h => nomatch h))) (fun _ h => nomatch h))
theorem divZ_law {x y : Int} (hy : y ≠ 0) (hx : x.natAbs < 4294967296 ^ 699) (hyb : y.natAbs < 4294967296 ^ 699) : ∃ a b, G108 x y = some (.tup [l1nF a, l1nF b]) ∧ a = x / y ∧ b = x % y := by
  have q1 : x.natAbs / y.natAbs < 4294967296 ^ 699 := Nat.lt_of_le_of_lt (Nat.div_le_self _ _) hx
  have q2 : x.natAbs % y.natAbs < 4294967296 ^ 699 := Nat.lt_of_le_of_lt (Nat.mod_le _ _) hx
  have q1' : (x.tdiv y).natAbs < 4294967296 ^ 800 := by rw [Int.natAbs_tdiv]; exact bound_upC q1 (by omega)
  have q2' : (x.tmod y).natAbs < 4294967296 ^ 800 := by rw [Int.natAbs_tmod]; exact bound_upC q2 (by omega)
  have d : isDivA y.natAbs = true := isDivA_iff.2 (by omega)
  unfold G108 T108
  simp only [unHalves_digs, val_digsH, isTrimH_digs hx, isTrimH_digs hyb, d, isHalves_digs, lenOkH_digs q1 (show 699 ≤ 2000 by omega), lenOkH_digs q2 (show 699 ≤ 2000 by omega), Bool.and_self, Bool.and_true, bsel_true, sgn_div x y hy, sgn_mod, isL1n_l1nF (boundC_up hyb (show 699 ≤ 800 by omega)), isL1n_l1nF q1', isL1n_l1nF q2', resInt3, unL1n_l1nF]
  obtain ⟨f1, f2, f3⟩ := over_fix (x := x) hy
  by_cases hr : x.tmod y < 0
  · rw [decide_eq_true hr, bsel_true]
    by_cases hn : y < 0
    · obtain ⟨g1, g2⟩ := f1 hr hn
      rw [decide_eq_true hn, bsel_true]
      exact ⟨_, _, rfl, g1, by rw [← g2]; omega⟩
    · obtain ⟨g1, g2⟩ := f2 hr hn
      rw [decide_eq_false hn, bsel_false]
      exact ⟨_, _, rfl, g1, by rw [← g2]; omega⟩
  · obtain ⟨g1, g2⟩ := f3 hr
    rw [decide_eq_false hr, bsel_false]
    exact ⟨_, _, rfl, g1, g2⟩
def isDivZ (y : Int) : Bool := isDivA y.natAbs
def preDivZ : List F → Bool | [x, y] => isL1n 699 x && isL1n 699 y && isDivZ (unL1n y) | _ => false
def resDivZ : List F → F | [x, y] => .tup [l1nF (unL1n x / unL1n y), l1nF (unL1n x % unL1n y)] | _ => .dflt
theorem okDivZ : PureOK Try.prog 108 preDivZ resDivZ :=
  fn_pure_at (c := bodyOf Try.f108) Try.func108 (by kernel_rfl) (by kernel_rfl) fun xs hp => match xs, hp with
  | [x, y], hp => by
    simp only [preDivZ, Bool.and_eq_true] at hp
    obtain ⟨⟨hx, hy⟩, hd⟩ := hp
    have h0 := isDivA_iff.1 hd
    obtain ⟨a, b, e, rfl, rfl⟩ := divZ_law (x := unL1n x) (y := unL1n y) (by omega) (natAbs_of_isL1n hx) (natAbs_of_isL1n hy)
    exact ⟨[l1nF (unL1n x), l1nF (unL1n y)], _, ⟨(l1n_eqv hx).1, (l1n_eqv hy).1, trivial⟩, t108 _ _ _ e, .refl _⟩
/-! ### function 107 -/
def S107_3 (x : List Nat) (y : List Nat) : St := ⟨[.bad, .bad, .bad, .bad, (U.hp 0 0), (U.f (halvesF x)), (U.f (halvesF y)), .bad, .bad, .bad, .bad, .bad, .bad, .bad, .bad, .bad, .bad, .bad, .bad, .bad, .bad, .bad, .bad, .bad, .bad, .bad], [HO.box [(U.f (F.bool false)), U.nils]]⟩
def T107_3 {ρ : Type} (ret : (F) → Option ρ) (c3 : (List Nat) → (List Nat) → Option ρ) (x : List Nat) (y : List Nat) : Option ρ :=
  (bsel (decide ((↑y.length : Int) > 0))
   (bsel (isTrimH 699 (halvesF x) && isTrimH 699 (halvesF y) && isDivA (val 4294967296 (unHalves (halvesF y))))
    (c3 (y) (digs 4294967296 (val 4294967296 (unHalves (halvesF x)) % val 4294967296 (unHalves (halvesF y)))))
    none)
   (bsel (isHalves (halvesF x) && lenOk 2000 (halvesF x))
    (ret (l1nF (sgn false (val 4294967296 (unHalves (halvesF x))))))
    none))
def L107_3 : Nat → (List Nat) → (List Nat) → Option (F)
  | 0, _, _ => none
  | k + 1, x, y => T107_3 some (L107_3 k) x y
def T107 {ρ : Type} (ret : (F) → Option ρ) (c3 : (List Nat) → (List Nat) → Option ρ) (x : Int) (y : Int) : Option ρ :=
  (c3 (digs 4294967296 x.natAbs) (digs 4294967296 y.natAbs))
def G107 (k : Nat) (x : Int) (y : Int) : Option (F) := T107 some (L107_3 k) x y
theorem t107_3 : ∀ (k : Nat) (x : List Nat) (y : List Nat) (r : F), L107_3 k x y = some r → Ends Try.prog Try.f107.results.toList (at_ Try.f107 3) (S107_3 x y) (r)
  | 0, _, _, _, h => nomatch h
  | k + 1, x, y, r, h => by
    refine Ends.of_cut tyOK envS4_ok (T := [(3, [4, 5, 6], 1000)]) (n := 200) ?_
    have e : runCut Try.prog (tiOf Try.prog) envS4 [(3, [4, 5, 6], 1000)] 0 Try.f107.results.toList some 200 (at_ Try.f107 3) (S107_3 x y) = T107_3 (fun r => some (.ret (r))) (fun x y => some (.cut (at_ Try.f107 3) (S107_3 x y))) x y := by kernel_rfl
    rw [e]
    exact (good_sel h (fun _ h => (good_sel h (fun _ h => good_cut (t107_3 k _ _ r h)) (fun _ h => nomatch h))) (fun _ h => (good_sel h (fun _ h => good_ret (by cases h; rfl)) (fun _ h => nomatch h))))
theorem t107 (k : Nat) (x : Int) (y : Int) (r : F) (h : G107 k x y = some r) : Ends Try.prog Try.f107.results.toList [.code (bodyOf Try.f107)] (start Try.f107.ntmps ([l1nF x, l1nF y].map .f)) (r) := by
  refine Ends.of_run tyOK envS4_ok (T := [(3, [4, 5, 6], 1000)]) (n := 200) ?_
  have e : run Try.prog (tiOf Try.prog) envS4 [(3, [4, 5, 6], 1000)] 0 Try.f107.results.toList some 200 [.code (bodyOf Try.f107)] (start Try.f107.ntmps ([l1nF x, l1nF y].map .f)) = T107 (fun r => some (.ret (r))) (fun x y => some (.cut (at_ Try.f107 3) (S107_3 x y))) x y := by kernel_rfl
  rw [e]
  exact good_cut (t107_3 k _ _ r h)
theorem gcd3_loop : ∀ (y x k : Nat), y < 4294967296 ^ 699 → x < 4294967296 ^ 699 → y + 1 ≤ k → L107_3 k (digs 4294967296 x) (digs 4294967296 y) = some (l1nF ((Nat.gcd x y : Nat) : Int)) := by
  intro y
  induction y using Nat.strongRecOn with
  | _ y ih =>
    intro x k hy hx hk
    obtain ⟨k, rfl⟩ : ∃ j, k = j + 1 := ⟨k - 1, by omega⟩
    rw [L107_3]
    unfold T107_3
    by_cases h0 : y = 0
    · subst h0
      rw [digs_zero, show decide (((([] : List Nat).length : Nat) : Int) > 0) = false from rfl, bsel_false, isHalves_digs, lenOkH_digs hx (show 699 ≤ 2000 by omega), unHalves_digs, val_digsH, Nat.gcd_zero_right]
      rfl
    · have hm : x % y < y := Nat.mod_lt _ (by omega)
      rw [decide_eq_true (digsH_len_pos.2 h0), bsel_true, isTrimH_digs hx, isTrimH_digs hy]
      simp only [unHalves_digs, val_digsH, isDivA_iff.2 (show 0 < y by omega), Bool.and_self, bsel_true]
      rw [ih (x % y) hm y k (Nat.lt_trans hm hy) hy (by omega), ← gcd_step]
def resGcdZ : List F → F | [x, y] => l1nF (gcdI (unL1n x) (unL1n y)) | _ => .dflt
theorem okGcdZ : PureOK Try.prog 107 (preL2 699) resGcdZ :=
  fn_pure_at (c := bodyOf Try.f107) Try.func107 (by kernel_rfl) (by kernel_rfl) fun xs hp => match xs, hp with
  | [x, y], hp => by
    obtain ⟨hx, hy⟩ := preL2_iff hp
    exact ⟨[l1nF (unL1n x), l1nF (unL1n y)], _, ⟨(l1n_eqv hx).1, (l1n_eqv hy).1, trivial⟩, t107 ((unL1n y).natAbs + 1) _ _ _ (gcd3_loop _ _ _ (natAbs_of_isL1n hy) (natAbs_of_isL1n hx) (Nat.le_refl _)), .refl _⟩
def envS5 : Env := ((envS4.add 70 (.pure (preL2 800) resCmpZ)).add 108 (.pure preDivZ resDivZ)).add 107 (.pure (preL2 699) resGcdZ)
theorem envS5_ok : EnvOK Try.prog envS5 := Env.add_ok (Env.add_ok (Env.add_ok envS4_ok okCmpZ.sp) okDivZ.sp) okGcdZ.sp
end
end Go.Proofs.Ytmambbfnjbdfgaa.R

namespace Go.Proofs.Ytmambbfnjbdfgaa.R
open Go
noncomputable section
set_option linter.unusedVariables false
set_option linter.unusedSimpArgs false
set_option maxRecDepth 100000
/-! ### function 71 -/
def S71_10 (d : List Nat) (m : Nat) (g : Nat → F) (i : Int) : St := ⟨[.bad, .bad, (U.hp 0 0), .bad, (U.f (halvesF d)), (U.hs 1 m 0 m), (U.f (F.int .i64 i)), .bad, .bad, .bad, .bad, .bad, .bad, .bad, .bad, .bad, .bad, .bad, .bad, .bad, .bad, .bad, .bad, .bad, .bad, .bad, .bad, .bad, .bad, .bad, .bad, .bad, .bad, .bad, .bad, .bad, .bad, .bad, .bad, .bad, .bad, .bad, .bad, .bad, .bad, .bad, .bad, .bad, .bad, .bad, .bad, .bad, .bad, .bad, .bad, .bad, .bad, .bad, .bad, .bad, .bad, .bad, .bad, .bad, .bad, .bad, .bad, .bad, .bad, .bad, .bad, .bad, .bad, .bad, .bad, .bad, .bad], [HO.box [(U.f (F.int .u64 0)), (U.f (F.int .u64 0)), (U.f (F.int .u64 0)), (U.f (F.int .u64 0))], HO.arr 1 m g]⟩
def S71_8 (d : List Nat) : St := ⟨[.bad, .bad, (U.hp 0 0), .bad, (U.f (halvesF d)), .bad, .bad, .bad, .bad, .bad, .bad, .bad, .bad, .bad, .bad, .bad, .bad, .bad, .bad, .bad, .bad, .bad, .bad, .bad, .bad, .bad, .bad, .bad, .bad, .bad, .bad, .bad, .bad, .bad, .bad, .bad, .bad, .bad, .bad, .bad, .bad, .bad, .bad, .bad, .bad, .bad, .bad, .bad, .bad, .bad, .bad, .bad, .bad, .bad, .bad, .bad, .bad, .bad, .bad, .bad, .bad, .bad, .bad, .bad, .bad, .bad, .bad, .bad, .bad, .bad, .bad, .bad, .bad, .bad, .bad, .bad, .bad], [HO.box [(U.f (F.int .u64 0)), (U.f (F.int .u64 0)), (U.f (F.int .u64 0)), (U.f (F.int .u64 0))]]⟩
def S71_13 (m : Nat) (g : Nat → F) : St := ⟨[.bad, .bad, (U.hp 0 0), .bad, .bad, (U.hs 1 m 0 m), .bad, .bad, .bad, .bad, .bad, .bad, .bad, .bad, .bad, .bad, .bad, .bad, .bad, .bad, .bad, .bad, .bad, .bad, .bad, .bad, .bad, .bad, .bad, .bad, .bad, .bad, .bad, .bad, .bad, .bad, .bad, .bad, .bad, .bad, .bad, .bad, .bad, .bad, .bad, .bad, .bad, .bad, .bad, .bad, .bad, .bad, .bad, .bad, .bad, .bad, .bad, .bad, .bad, .bad, .bad, .bad, .bad, .bad, .bad, .bad, .bad, .bad, .bad, .bad, .bad, .bad, .bad, .bad, .bad, .bad, .bad], [HO.box [(U.f (F.int .u64 0)), (U.f (F.int .u64 0)), (U.f (F.int .u64 0)), (U.f (F.int .u64 0))], HO.arr 1 m g]⟩
def T71_10 {ρ : Type} (ret : (F) → Option ρ) (c10 : (List Nat) → (Nat) → (Nat → F) → (Int) → Option ρ) (c8 : (List Nat) → Option ρ) (c13 : (Nat) → (Nat → F) → Option ρ) (d : List Nat) (m : Nat) (g : Nat → F) (i : Int) : Option ρ :=
  (bsel (decide (i < 8) == true)
   (bsel (decide (i < (↑d.length : Int)))
    (bsel (decide (0 ≤ i))
     (bsel (decide (i < (↑d.length : Int)))
      (bsel (decide (m = m))
       (bsel (decide (0 ≤ i))
        (bsel (decide (i < (↑m : Int)))
         (bsel (decide (m = m))
          (bsel (decide (0 + i.toNat < m))
           (bsel (decide ((g (0 + i.toNat)).cells.length = 1))
            (bsel ((isAggF (g (0 + i.toNat)) || true) && true)
             (c10 (d) (m) (fun j ↦ if j = 0 + i.toNat then F.int IntKind.u64 (IntKind.u64.wrap (↑(d.getD i.toNat 0) : Int)) else g j) (IntKind.i64.wrap (i + 1)))
             none)
            none)
           none)
          none)
         none)
        none)
       none)
      none)
     none)
    (c13 (m) (g)))
   (c13 (m) (g)))
def T71_8 {ρ : Type} (ret : (F) → Option ρ) (c10 : (List Nat) → (Nat) → (Nat → F) → (Int) → Option ρ) (c8 : (List Nat) → Option ρ) (c13 : (Nat) → (Nat → F) → Option ρ) (d : List Nat) : Option ρ :=
  (bsel (decide (8 * (((8 : Nat) : Int) + 1) ≤ (↑limit : Int)))
   (c10 (d) (8) (fun x ↦ F.int IntKind.u64 0) (0))
   none)
def T71_13 {ρ : Type} (ret : (F) → Option ρ) (c10 : (List Nat) → (Nat) → (Nat → F) → (Int) → Option ρ) (c8 : (List Nat) → Option ρ) (c13 : (Nat) → (Nat → F) → Option ρ) (m : Nat) (g : Nat → F) : Option ρ :=
  (bsel (decide (m = m))
   (bsel (decide (7 < (↑m : Int)))
    (bsel (decide (m = m))
     (bsel (decide (0 + 7 < m))
      (bsel (decide ((g (0 + 7)).cells.length = 1))
       (bsel (okV (Value.int IntKind.u64 0) ((List.drop 0 (g (0 + Int.toNat 7)).cells).headD F.dflt) && true)
        (bsel (decide (m = m))
         (bsel (decide (6 < (↑m : Int)))
          (bsel (decide (m = m))
           (bsel (decide (0 + 6 < m))
            (bsel (decide ((g (0 + 6)).cells.length = 1))
             (bsel (okV (Value.int IntKind.u64 0) ((List.drop 0 (g (0 + Int.toNat 6)).cells).headD F.dflt) && true)
              (bsel (decide (m = m))
               (bsel (decide (5 < (↑m : Int)))
                (bsel (decide (m = m))
                 (bsel (decide (0 + 5 < m))
                  (bsel (decide ((g (0 + 5)).cells.length = 1))
                   (bsel (okV (Value.int IntKind.u64 0) ((List.drop 0 (g (0 + Int.toNat 5)).cells).headD F.dflt) && true)
                    (bsel (decide (m = m))
                     (bsel (decide (4 < (↑m : Int)))
                      (bsel (decide (m = m))
                       (bsel (decide (0 + 4 < m))
                        (bsel (decide ((g (0 + 4)).cells.length = 1))
                         (bsel (okV (Value.int IntKind.u64 0) ((List.drop 0 (g (0 + Int.toNat 4)).cells).headD F.dflt) && true)
                          (bsel (decide (m = m))
                           (bsel (decide (3 < (↑m : Int)))
                            (bsel (decide (m = m))
                             (bsel (decide (0 + 3 < m))
                              (bsel (decide ((g (0 + 3)).cells.length = 1))
                               (bsel (okV (Value.int IntKind.u64 0) ((List.drop 0 (g (0 + Int.toNat 3)).cells).headD F.dflt) && true)
                                (bsel (decide (m = m))
                                 (bsel (decide (2 < (↑m : Int)))
                                  (bsel (decide (m = m))
                                   (bsel (decide (0 + 2 < m))
                                    (bsel (decide ((g (0 + 2)).cells.length = 1))
                                     (bsel (okV (Value.int IntKind.u64 0) ((List.drop 0 (g (0 + Int.toNat 2)).cells).headD F.dflt) && true)
                                      (bsel (decide (m = m))
                                       (bsel (decide (1 < (↑m : Int)))
                                        (bsel (decide (m = m))
                                         (bsel (decide (0 + 1 < m))
                                          (bsel (decide ((g (0 + 1)).cells.length = 1))
                                           (bsel (okV (Value.int IntKind.u64 0) ((List.drop 0 (g (0 + Int.toNat 1)).cells).headD F.dflt) && true)
                                            (bsel (decide (m = m))
                                             (bsel (decide (0 < (↑m : Int)))
                                              (bsel (decide (m = m))
                                               (bsel (decide (0 + 0 < m))
                                                (bsel (decide ((g (0 + 0)).cells.length = 1))
                                                 (bsel (okV (Value.int IntKind.u64 0) ((List.drop 0 (g (0 + Int.toNat 0)).cells).headD F.dflt) && true)
                                                  (ret (F.tup [F.agg [F.int IntKind.u64 (bitsOp BinOp.or IntKind.u64 (IntKind.u64.wrap (intOf ((List.drop 0 (g (0 + Int.toNat 7)).cells).headD F.dflt) * 2 ^ min (Int.toNat 32) IntKind.u64.bits)) (intOf ((List.drop 0 (g (0 + Int.toNat 6)).cells).headD F.dflt))), F.int IntKind.u64 (bitsOp BinOp.or IntKind.u64 (IntKind.u64.wrap (intOf ((List.drop 0 (g (0 + Int.toNat 5)).cells).headD F.dflt) * 2 ^ min (Int.toNat 32) IntKind.u64.bits)) (intOf ((List.drop 0 (g (0 + Int.toNat 4)).cells).headD F.dflt))), F.int IntKind.u64 (bitsOp BinOp.or IntKind.u64 (IntKind.u64.wrap (intOf ((List.drop 0 (g (0 + Int.toNat 3)).cells).headD F.dflt) * 2 ^ min (Int.toNat 32) IntKind.u64.bits)) (intOf ((List.drop 0 (g (0 + Int.toNat 2)).cells).headD F.dflt))), F.int IntKind.u64 (bitsOp BinOp.or IntKind.u64 (IntKind.u64.wrap (intOf ((List.drop 0 (g (0 + Int.toNat 1)).cells).headD F.dflt) * 2 ^ min (Int.toNat 32) IntKind.u64.bits)) (intOf ((List.drop 0 (g (0 + Int.toNat 0)).cells).headD F.dflt)))], F.bool true]))
                                                  none)
                                                 none)
                                                none)
                                               none)
                                              none)
                                             none)
                                            none)
                                           none)
                                          none)
                                         none)
                                        none)
                                       none)
                                      none)
                                     none)
                                    none)
                                   none)
                                  none)
                                 none)
                                none)
                               none)
                              none)
                             none)
                            none)
                           none)
                          none)
                         none)
                        none)
                       none)
                      none)
                     none)
                    none)
                   none)
                  none)
                 none)
                none)
               none)
              none)
             none)
            none)
           none)
          none)
         none)
        none)
       none)
      none)
     none)
    none)
   none)
mutual
def L71_10 : Nat → (List Nat) → (Nat) → (Nat → F) → (Int) → Option (F)
  | 0, _, _, _, _ => none
  | k + 1, d, m, g, i => T71_10 some (L71_10 k) (L71_8 k) (L71_13 k) d m g i
def L71_8 : Nat → (List Nat) → Option (F)
  | 0, _ => none
  | k + 1, d => T71_8 some (L71_10 k) (L71_8 k) (L71_13 k) d
def L71_13 : Nat → (Nat) → (Nat → F) → Option (F)
  | 0, _, _ => none
  | k + 1, m, g => T71_13 some (L71_10 k) (L71_8 k) (L71_13 k) m g
end
def T71 {ρ : Type} (ret : (F) → Option ρ) (c10 : (List Nat) → (Nat) → (Nat → F) → (Int) → Option ρ) (c8 : (List Nat) → Option ρ) (c13 : (Nat) → (Nat → F) → Option ρ) (z : Int) : Option ρ :=
  (bsel (decide (z < 0))
   (bsel (isTrimH 800 (halvesF (digs 4294967296 z.natAbs)) && true)
    (bsel (decide (((↑(val 4294967296 (unHalves (halvesF (digs 4294967296 z.natAbs)))) : Int) - ((57896044618658097711785492504343953926634992332820282019728792003956564819968 : Nat) : Int)).sign > 0))
     (ret (F.tup [F.agg [F.int IntKind.u64 0, F.int IntKind.u64 0, F.int IntKind.u64 0, F.int IntKind.u64 0], F.bool false]))
     (bsel (isHalves (halvesF (digs 4294967296 z.natAbs)) && lenOk 1900 (halvesF (digs 4294967296 z.natAbs)))
      (c8 (subL 4294967296 (unHalves (resLeft [F.sl 1 (lget [F.int IntKind.u32 1]), F.int IntKind.i64 256])) (unHalves (halvesF (digs 4294967296 z.natAbs))) 0))
      none))
    none)
   (bsel (isTrimH 800 (halvesF (digs 4294967296 z.natAbs)))
    (bsel (decide ((↑(Go.Proofs.Ytmambbfnjbdfgaa.R.bitLen (val 4294967296 (unHalves (halvesF (digs 4294967296 z.natAbs))))) : Int) > 255))
     (ret (F.tup [F.agg [F.int IntKind.u64 0, F.int IntKind.u64 0, F.int IntKind.u64 0, F.int IntKind.u64 0], F.bool false]))
     (c8 (digs 4294967296 z.natAbs)))
    none))
def G71 (k : Nat) (z : Int) : Option (F) := T71 some (L71_10 k) (L71_8 k) (L71_13 k) z
mutual
theorem t71_10 : ∀ (k : Nat) (d : List Nat) (m : Nat) (g : Nat → F) (i : Int) (r : F), L71_10 k d m g i = some r → Ends Try.prog Try.f71.results.toList (at_ Try.f71 10) (S71_10 d m g i) (r)
  | 0, _, _, _, _, _, h => nomatch h
  | k + 1, d, m, g, i, r, h => by
    refine Ends.of_cut tyOK envS5_ok (T := [(10, [2, 4, 5, 6], 1000), (8, [2, 4], 1000), (13, [2, 5], 1000)]) (n := 200) ?_
    have e : runCut Try.prog (tiOf Try.prog) envS5 [(10, [2, 4, 5, 6], 1000), (8, [2, 4], 1000), (13, [2, 5], 1000)] 0 Try.f71.results.toList some 200 (at_ Try.f71 10) (S71_10 d m g i) = T71_10 (fun r => some (.ret (r))) (fun d m g i => some (.cut (at_ Try.f71 10) (S71_10 d m g i))) (fun d => some (.cut (at_ Try.f71 8) (S71_8 d))) (fun m g => some (.cut (at_ Try.f71 13) (S71_13 m g))) d m g i := by kernel_rfl
    rw [e]
    exact (good_sel h (fun _ h => (good_sel h (fun _ h => (good_sel h (fun _ h => (good_sel h (fun _ h => (good_sel h (fun _ h => (good_sel h (fun _ h => (good_sel h (fun _ h => (good_sel h (fun _ h => (good_sel h (fun _ h => (good_sel h (fun _ h => (good_sel h (fun _ h => good_cut (t71_10 k _ _ _ _ r h)) (fun _ h => nomatch h))) (fun _ h => nomatch h))) (fun _ h => nomatch h))) (fun _ h => nomatch h))) (fun _ h => nomatch h))) (fun _ h => nomatch h))) (fun _ h => nomatch h))) (fun _ h => nomatch h))) (fun _ h => nomatch h))) (fun _ h => good_cut (t71_13 k _ _ r h)))) (fun _ h => good_cut (t71_13 k _ _ r h)))
theorem t71_8 : ∀ (k : Nat) (d : List Nat) (r : F), L71_8 k d = some r → Ends Try.prog Try.f71.results.toList (at_ Try.f71 8) (S71_8 d) (r)
  | 0, _, _, h => nomatch h
  | k + 1, d, r, h => by
    refine Ends.of_cut tyOK envS5_ok (T := [(10, [2, 4, 5, 6], 1000), (8, [2, 4], 1000), (13, [2, 5], 1000)]) (n := 200) ?_
    have e : runCut Try.prog (tiOf Try.prog) envS5 [(10, [2, 4, 5, 6], 1000), (8, [2, 4], 1000), (13, [2, 5], 1000)] 0 Try.f71.results.toList some 200 (at_ Try.f71 8) (S71_8 d) = T71_8 (fun r => some (.ret (r))) (fun d m g i => some (.cut (at_ Try.f71 10) (S71_10 d m g i))) (fun d => some (.cut (at_ Try.f71 8) (S71_8 d))) (fun m g => some (.cut (at_ Try.f71 13) (S71_13 m g))) d := by kernel_rfl
    rw [e]
    exact (good_sel h (fun _ h => good_cut (t71_10 k _ _ _ _ r h)) (fun _ h => nomatch h))
theorem t71_13 : ∀ (k : Nat) (m : Nat) (g : Nat → F) (r : F), L71_13 k m g = some r → Ends Try.prog Try.f71.results.toList (at_ Try.f71 13) (S71_13 m g) (r)
  | 0, _, _, _, h => nomatch h
  | k + 1, m, g, r, h => by
    refine Ends.of_cut tyOK envS5_ok (T := [(10, [2, 4, 5, 6], 1000), (8, [2, 4], 1000), (13, [2, 5], 1000)]) (n := 200) ?_
    have e : runCut Try.prog (tiOf Try.prog) envS5 [(10, [2, 4, 5, 6], 1000), (8, [2, 4], 1000), (13, [2, 5], 1000)] 0 Try.f71.results.toList some 200 (at_ Try.f71 13) (S71_13 m g) = T71_13 (fun r => some (.ret (r))) (fun d m g i => some (.cut (at_ Try.f71 10) (S71_10 d m g i))) (fun d => some (.cut (at_ Try.f71 8) (S71_8 d))) (fun m g => some (.cut (at_ Try.f71 13) (S71_13 m g))) m g := by kernel_rfl
    rw [e]
    exact (good_sel h (fun _ h => (good_sel h (fun _ h => (good_sel h (fun _ h => (good_sel h (fun _ h => (good_sel h (fun _ h => (good_sel h (fun _ h => (good_sel h (fun _ h => (good_sel h (fun _ h => (good_sel h (fun _ h => (good_sel h (fun _ h => (good_sel h (fun _ h => (good_sel h (fun _ h => (good_sel h (fun _ h => (good_sel h (fun _ h => (good_sel h (fun _ h => (good_sel h (fun _ h => (good_sel h (fun _ h => (good_sel h (fun _ h => (good_sel h (fun _ h => (good_sel h (fun _ h => (good_sel h (fun _ h => (good_sel h (fun _ h => (good_sel h (fun _ h => (good_sel h (fun _ h => (good_sel h (fun _ h => (good_sel h (fun _ h => (good_sel h (fun _ h => (good_sel h (fun _ h => (good_sel h (fun _ h => (good_sel h (fun _ h => (good_sel h (fun _ h => (good_sel h (fun _ h => (good_sel h (fun _ h => (good_sel h (fun _ h => (good_sel h (fun _ h => (good_sel h (fun _ h => (good_sel h (fun _ h => (good_sel h (fun _ h => (good_sel h (fun _ h => (good_sel h (fun _ h => (good_sel h (fun _ h => (good_sel h (fun _ h => (good_sel h (fun _ h => (good_sel h (fun _ h => (good_sel h (fun _ h => (good_sel h (fun _ h => (good_sel h (fun _ h => (good_sel h (fun _ h => good_ret (by cases h; rfl)) (fun _ h => nomatch h))) (fun _ h => nomatch h))) (fun _ h => nomatch h))) (fun _ h => nomatch h))) (fun _ h => nomatch h))) (fun _ h => nomatch h))) (fun _ h => nomatch h))) (fun _ h => nomatch h))) (fun _ h => nomatch h))) (fun _ h => nomatch h))) (fun _ h => nomatch h))) (fun _ h => nomatch h))) (fun _ h => nomatch h))) (fun _ h => nomatch h))) (fun _ h => nomatch h))) (fun _ h => nomatch h))) (fun _ h => nomatch h))) (fun _ h => nomatch h))) (fun _ h => nomatch h))) (fun _ h => nomatch h))) (fun _ h => nomatch h))) (fun _ h => nomatch h))) (fun _ h => nomatch h))) (fun _ h => nomatch h))) (fun _ h => nomatch h))) (fun _ h => nomatch h))) (fun _ h => nomatch h))) (fun _ h => nomatch h))) (fun _ h => nomatch h))) (fun _ h => nomatch h))) (fun _ h => nomatch h))) (fun _ h => nomatch h))) (fun _ h => nomatch h))) (fun _ h => nomatch h))) (fun _ h => nomatch h))) (fun _ h => nomatch h))) (fun _ h => nomatch h))) (fun _ h => nomatch h))) (fun _ h => nomatch h))) (fun _ h => nomatch h))) (fun _ h => nomatch h))) (fun _ h => nomatch h))) (fun _ h => nomatch h))) (fun _ h => nomatch h))) (fun _ h => nomatch h))) (fun _ h => nomatch h))) (fun _ h => nomatch h))) (fun _ h => nomatch h))
end
theorem t71 (k : Nat) (z : Int) (r : F) (h : G71 k z = some r) : Ends Try.prog Try.f71.results.toList [.code (bodyOf Try.f71)] (start Try.f71.ntmps ([l1nF z].map .f)) (r) := by
  refine Ends.of_run tyOK envS5_ok (T := [(10, [2, 4, 5, 6], 1000), (8, [2, 4], 1000), (13, [2, 5], 1000)]) (n := 200) ?_
  have e : run Try.prog (tiOf Try.prog) envS5 [(10, [2, 4, 5, 6], 1000), (8, [2, 4], 1000), (13, [2, 5], 1000)] 0 Try.f71.results.toList some 200 [.code (bodyOf Try.f71)] (start Try.f71.ntmps ([l1nF z].map .f)) = T71 (fun r => some (.ret (r))) (fun d m g i => some (.cut (at_ Try.f71 10) (S71_10 d m g i))) (fun d => some (.cut (at_ Try.f71 8) (S71_8 d))) (fun m g => some (.cut (at_ Try.f71 13) (S71_13 m g))) z := by kernel_rfl
  rw [e]
  exact (good_sel h (fun _ h => (good_sel h (fun _ h => (good_sel h (fun _ h => good_ret (by cases h; rfl)) (fun _ h => (good_sel h (fun _ h => good_cut (t71_8 k _ r h)) (fun _ h => nomatch h))))) (fun _ h => nomatch h))) (fun _ h => (good_sel h (fun _ h => (good_sel h (fun _ h => good_ret (by cases h; rfl)) (fun _ h => good_cut (t71_8 k _ r h)))) (fun _ h => nomatch h))))
theorem pair64 {a b : Nat} (ha : a < 4294967296) (hb : b < 4294967296) : F.int IntKind.u64 (bitsOp BinOp.or IntKind.u64 (IntKind.u64.wrap ((a : Int) * 2 ^ min (Int.toNat 32) IntKind.u64.bits)) (b : Int)) = u64F (a * 4294967296 + b) := by
  refine congrArg (F.int .u64) ?_
  rw [show min (Int.toNat 32) IntKind.u64.bits = 32 from rfl, wshl, show (2 : Nat) ^ 32 = 4294967296 from rfl, Nat.mod_eq_of_lt (show a * 4294967296 < 18446744073709551616 by omega)]
  have h := or_disj (i := 32) (a := a) (b := b) (by omega) hb (by show 4294967296 * a < 18446744073709551616; omega)
  rw [show (2 : Nat) ^ 32 = 4294967296 from rfl, Nat.mul_comm 4294967296 a] at h
  exact h
theorem wide3_end {m k : Nat} {g : Nat → F} {v : Nat → Nat} (hm : m = 8) (hv : ∀ j, v j < 4294967296) (hg : ∀ j, j < m → g j = u64F (v j)) :
    L71_13 (k + 1) m g = some (.tup [.agg [u64F (v 7 * 4294967296 + v 6), u64F (v 5 * 4294967296 + v 4), u64F (v 3 * 4294967296 + v 2), u64F (v 1 * 4294967296 + v 0)], .bool true]) := by
  subst hm
  rw [L71_13]
  unfold T71_13
  simp only [show Int.toNat 7 = 7 from rfl, show Int.toNat 6 = 6 from rfl, show Int.toNat 5 = 5 from rfl, show Int.toNat 4 = 4 from rfl, show Int.toNat 3 = 3 from rfl, show Int.toNat 2 = 2 from rfl, show Int.toNat 1 = 1 from rfl, Int.toNat_zero, Nat.zero_add, hg 0 (by omega), hg 1 (by omega), hg 2 (by omega), hg 3 (by omega), hg 4 (by omega), hg 5 (by omega), hg 6 (by omega), hg 7 (by omega), cell_of, intOf_u64, pair64 (hv 7) (hv 6), pair64 (hv 5) (hv 4), pair64 (hv 3) (hv 2), pair64 (hv 1) (hv 0)]
  rfl
theorem wide3_loop {d : List Nat} (od : okD 4294967296 d) : ∀ (c i k : Nat) (g : Nat → F), i + c = 8 → c + 2 < k → (∀ j, j < 8 → g j = u64F (if j < i then d.getD j 0 else 0)) →
    L71_10 k d 8 g i = some (.tup [.agg [u64F (d.getD 7 0 * 4294967296 + d.getD 6 0), u64F (d.getD 5 0 * 4294967296 + d.getD 4 0), u64F (d.getD 3 0 * 4294967296 + d.getD 2 0), u64F (d.getD 1 0 * 4294967296 + d.getD 0 0)], .bool true])
  | 0, i, k, g, hi, hk, hg => by
    obtain ⟨k, rfl⟩ : ∃ j, k = j + 2 := ⟨k - 2, by omega⟩
    rw [L71_10]
    unfold T71_10
    rw [decide_eq_false (show ¬ (i : Int) < 8 by omega), show (false == true) = false from rfl, bsel_false]
    exact wide3_end (v := fun j => d.getD j 0) rfl (fun j => getD_lt' (by omega) od j) fun j hj => by rw [hg j hj, if_pos (by omega)]
  | c + 1, i, k, g, hi, hk, hg => by
    obtain ⟨k, rfl⟩ : ∃ j, k = j + 2 := ⟨k - 2, by omega⟩
    rw [L71_10]
    unfold T71_10
    rw [decide_eq_true (show (i : Int) < 8 by omega), show (true == true) = true from rfl, bsel_true]
    by_cases hd : i < d.length
    · have hb := getD_lt od hd
      rw [decide_eq_true (show (i : Int) < d.length by omega), bsel_true, Int.toNat_natCast, Nat.zero_add, hg i (by omega), decide_eq_true (show (0 : Int) ≤ i by omega), decide_eq_true (show (i : Int) < ((8 : Nat) : Int) by omega), decide_eq_true (show i < 8 by omega), decide_eq_true (u64_cells _), isAgg_or, wrapu_lt (show d.getD i 0 < 18446744073709551616 by omega), wrapI (by omega) (by omega), show (i : Int) + 1 = ((i + 1 : Nat) : Int) by omega]
      simp only [bsel_true, decide_true]
      refine wide3_loop od c (i + 1) (k + 1) _ (by omega) (by omega) fun j hj => ?_
      by_cases hji : j = i
      · subst hji
        rw [if_pos rfl, if_pos (by omega)]
        rfl
      · rw [if_neg hji, hg j hj]
        by_cases hlt : j < i
        · rw [if_pos hlt, if_pos (by omega)]
        · rw [if_neg hlt, if_neg (by omega)]
    · rw [decide_eq_false (show ¬ (i : Int) < d.length by omega), bsel_false]
      exact wide3_end (v := fun j => d.getD j 0) rfl (fun j => getD_lt' (by omega) od j) fun j hj => by
        rw [hg j hj]
        by_cases hlt : j < i
        · rw [if_pos hlt]
        · rw [if_neg hlt, getD_beyond (by omega)]
theorem eight_words {f : Nat → Nat} {V : Nat} (h : ∀ p, f p = V / 4294967296 ^ p % 4294967296) : f 1 * 4294967296 + f 0 = V % 18446744073709551616 ∧ f 3 * 4294967296 + f 2 = V / 18446744073709551616 % 18446744073709551616 ∧ f 5 * 4294967296 + f 4 = V / 340282366920938463463374607431768211456 % 18446744073709551616 ∧ f 7 * 4294967296 + f 6 = V / 6277101735386680763835789423207666416102355444464034512896 % 18446744073709551616 := by
  have two : ∀ W : Nat, W / 4294967296 % 4294967296 * 4294967296 + W % 4294967296 = W % 18446744073709551616 := fun W => by omega
  have step : ∀ p, f (p + 1) * 4294967296 + f p = V / 4294967296 ^ p % 18446744073709551616 := fun p => by
    rw [h, h, Nat.pow_succ, ← Nat.div_div_eq_div_mul]
    exact two _
  have s0 := step 0
  rw [Nat.pow_zero, Nat.div_one] at s0
  exact ⟨s0, step 2, step 4, step 6⟩
theorem wide3_eight {d : List Nat} (od : okD 4294967296 d) {k : Nat} (hk : 20 ≤ k) :
    L71_8 k d = some (.tup [.agg [u64F (val 4294967296 d / 6277101735386680763835789423207666416102355444464034512896 % 18446744073709551616), u64F (val 4294967296 d / 340282366920938463463374607431768211456 % 18446744073709551616), u64F (val 4294967296 d / 18446744073709551616 % 18446744073709551616), u64F (val 4294967296 d % 18446744073709551616)], .bool true]) := by
  obtain ⟨k, rfl⟩ : ∃ j, k = j + 1 := ⟨k - 1, by omega⟩
  rw [L71_8]
  unfold T71_8
  have hlim : (8 : Int) * (((8 : Nat) : Int) + 1) ≤ ((limit : Nat) : Int) := by rw [limit_eq]; omega
  rw [decide_eq_true hlim, bsel_true]
  refine (wide3_loop od 8 0 k (fun _ => F.int .u64 0) (by omega) (by omega) fun j hj => rfl).trans ?_
  have h := fun p => digit_at (B := 4294967296) (by omega) d p od
  obtain ⟨w0, w1, w2, w3⟩ := eight_words h
  rw [w0, w1, w2, w3]
theorem wideZ_law {z : Int} (hz : z.natAbs < 4294967296 ^ 800) : G71 100 z = some (.tup [wideF z, .bool (isWide z)]) := by
  have t := isTrimH_digs hz
  have l1 : isHalves (halvesF (digs 4294967296 z.natAbs)) = true := isHalves_digs _
  have l2 : lenOk 1900 (halvesF (digs 4294967296 z.natAbs)) = true := lenOkH_digs hz (by omega)
  have ll := digsH_len hz
  clear hz
  have e256 : unHalves (resLeft [F.sl 1 (lget [F.int IntKind.u32 1]), F.int IntKind.i64 256]) = digs 4294967296 115792089237316195423570985008687907853269984665640564039457584007913129639936 := by
    have : val 4294967296 (unHalves (F.sl 1 (lget [F.int IntKind.u32 1]))) = 1 := rfl
    simp only [resLeft, this, Nat.one_mul, unHalves_digs]
    rfl
  have e255 : (2 : Nat) ^ 255 = 57896044618658097711785492504343953926634992332820282019728792003956564819968 := rfl
  unfold G71 T71
  simp only [t, l1, l2, e256, unHalves_digs, val_digsH, Bool.and_self, Bool.and_true, bsel_true]
  by_cases hn : z < 0
  · rw [decide_eq_true hn, bsel_true]
    by_cases hw : -57896044618658097711785492504343953926634992332820282019728792003956564819968 ≤ z
    · have ht : isWide z = true := isWide_iff.2 (by omega)
      rw [decide_eq_false (show ¬ ((z.natAbs : Int) - ((57896044618658097711785492504343953926634992332820282019728792003956564819968 : Nat) : Int)).sign > 0 from fun h => by have := Int.sign_pos_iff.1 h; omega), bsel_false]
      have hlong : (digs 4294967296 z.natAbs).length ≤ (digs 4294967296 115792089237316195423570985008687907853269984665640564039457584007913129639936).length := by
        rcases Nat.lt_or_ge (digs 4294967296 115792089237316195423570985008687907853269984665640564039457584007913129639936).length (digs 4294967296 z.natAbs).length with h1 | h1
        · have := val_longer (B := 4294967296) (by omega) (okD_digs (by omega) 115792089237316195423570985008687907853269984665640564039457584007913129639936) (trimD_digs (by omega) z.natAbs) h1
          rw [val_digsH, val_digsH] at this
          omega
        · exact h1
      have hv : val 4294967296 (subL 4294967296 (digs 4294967296 115792089237316195423570985008687907853269984665640564039457584007913129639936) (digs 4294967296 z.natAbs) 0) = 115792089237316195423570985008687907853269984665640564039457584007913129639936 - z.natAbs := by
        have := val_subL (B := 4294967296) (by omega) (digs 4294967296 115792089237316195423570985008687907853269984665640564039457584007913129639936) (digs 4294967296 z.natAbs) 0 (okD_digs (by omega) _) (okD_digs (by omega) _) (by omega) hlong (by rw [val_digsH, val_digsH]; omega)
        rw [val_digsH, val_digsH] at this
        omega
      rw [wide3_eight (okD_subL (by omega) _ _ _) (by omega), hv, ht]
      have e3 : u64F ((115792089237316195423570985008687907853269984665640564039457584007913129639936 - z.natAbs) / 6277101735386680763835789423207666416102355444464034512896 % 18446744073709551616) = .int .u64 (z / 6277101735386680763835789423207666416102355444464034512896 % 18446744073709551616) := congrArg (F.int .u64) (by omega)
      have e2 : u64F ((115792089237316195423570985008687907853269984665640564039457584007913129639936 - z.natAbs) / 340282366920938463463374607431768211456 % 18446744073709551616) = .int .u64 (z / 340282366920938463463374607431768211456 % 18446744073709551616) := congrArg (F.int .u64) (by omega)
      have e1 : u64F ((115792089237316195423570985008687907853269984665640564039457584007913129639936 - z.natAbs) / 18446744073709551616 % 18446744073709551616) = .int .u64 (z / 18446744073709551616 % 18446744073709551616) := congrArg (F.int .u64) (by omega)
      have e0 : u64F ((115792089237316195423570985008687907853269984665640564039457584007913129639936 - z.natAbs) % 18446744073709551616) = .int .u64 (z % 18446744073709551616) := congrArg (F.int .u64) (by omega)
      rw [e0, e1, e2, e3]
      simp only [wideF, wd3, wd2, wd1, wd0, ht, cond_true]
    · have hf : isWide z = false := by
        cases h : isWide z with
        | false => rfl
        | true => have := isWide_iff.1 h; exfalso; omega
      rw [decide_eq_true (show ((z.natAbs : Int) - ((57896044618658097711785492504343953926634992332820282019728792003956564819968 : Nat) : Int)).sign > 0 from Int.sign_pos_iff.2 (by omega)), bsel_true, hf, wide_none hf]
  · rw [decide_eq_false hn, bsel_false]
    have b0 := bitLen_le (n := z.natAbs) (j := 255)
    rw [e255] at b0
    by_cases hw : 255 < bitLen z.natAbs
    · have hf : isWide z = false := by
        cases h : isWide z with
        | false => rfl
        | true => have := isWide_iff.1 h; exfalso; omega
      rw [decide_eq_true (show ((bitLen z.natAbs : Nat) : Int) > 255 by omega), bsel_true, hf, wide_none hf]
    · have ht : isWide z = true := isWide_iff.2 (by omega)
      rw [decide_eq_false (show ¬ ((bitLen z.natAbs : Nat) : Int) > 255 by omega), bsel_false, wide3_eight (okD_digs (by omega) _) (by omega), val_digsH, ht]
      have e3 : u64F (z.natAbs / 6277101735386680763835789423207666416102355444464034512896 % 18446744073709551616) = .int .u64 (z / 6277101735386680763835789423207666416102355444464034512896 % 18446744073709551616) := congrArg (F.int .u64) (by omega)
      have e2 : u64F (z.natAbs / 340282366920938463463374607431768211456 % 18446744073709551616) = .int .u64 (z / 340282366920938463463374607431768211456 % 18446744073709551616) := congrArg (F.int .u64) (by omega)
      have e1 : u64F (z.natAbs / 18446744073709551616 % 18446744073709551616) = .int .u64 (z / 18446744073709551616 % 18446744073709551616) := congrArg (F.int .u64) (by omega)
      have e0 : u64F (z.natAbs % 18446744073709551616) = .int .u64 (z % 18446744073709551616) := congrArg (F.int .u64) (by omega)
      rw [e0, e1, e2, e3]
      simp only [wideF, wd3, wd2, wd1, wd0, ht, cond_true]
def resWideZ : List F → F | [x] => .tup [wideF (unL1n x), .bool (isWide (unL1n x))] | _ => .dflt
theorem okWideZ : PureOK Try.prog 71 (preL1 800) resWideZ :=
  fn_pure_at (c := bodyOf Try.f71) Try.func71 (by kernel_rfl) (by kernel_rfl) fun xs hp => match xs, hp with
  | [x], hp => ⟨[l1nF (unL1n x)], _, ⟨(l1n_eqv hp).1, trivial⟩, t71 100 _ _ (wideZ_law (natAbs_of_isL1n hp)), .refl _⟩
def envS6 : Env := envS5.add 71 (.pure (preL1 800) resWideZ)
theorem envS6_ok : EnvOK Try.prog envS6 := Env.add_ok envS5_ok okWideZ.sp
end
end Go.Proofs.Ytmambbfnjbdfgaa.R

namespace Go.Proofs.Ytmambbfnjbdfgaa.R
open Go
noncomputable section
set_option linter.unusedVariables false
set_option linter.unusedSimpArgs false
set_option maxRecDepth 100000
def nU (px py : Int) (s : Sg) : Int := nearU s.x0 s.y0 s.x1 s.y1 px py
def nD (px py : Int) (s : Sg) : Int := nearD s.x0 s.y0 s.x1 s.y1 px py
theorem sq_nonneg (a : Int) : 0 ≤ a * a := by
  rcases Int.le_total 0 a with h | h
  · exact Int.mul_nonneg h h
  · exact Int.mul_nonneg_of_nonpos_of_nonpos h h
theorem long_nonneg (a b c d : Int) : 0 ≤ longZ a b c d := by
  unfold longZ
  have h1 := sq_nonneg (c - a)
  have h2 := sq_nonneg (d - b)
  omega
theorem long_bound {a b c d : Int} (h1 : spotIn a b) (h2 : spotIn c d) : longZ a b c d ≤ 8000000000000 := by
  unfold spotIn at h1 h2
  exact (dotW (a := c - a) (b := c - a) (c := d - b) (d := d - b) (by omega) (by omega) (by omega) (by omega)).2.2
theorem near_bounds {x0 y0 x1 y1 px py : Int} (h0 : spotIn x0 y0) (h1 : spotIn x1 y1) (h2 : spotIn px py) :
    0 ≤ nearU x0 y0 x1 y1 px py ∧ (nearU x0 y0 x1 y1 px py).natAbs < 18446744073709551616 ^ 2 ∧ 0 < nearD x0 y0 x1 y1 px py ∧ nearD x0 y0 x1 y1 px py ≤ 8000000000000 := by
  obtain ⟨_, c2, c3⟩ := crossW_eq h0 h1 h2
  have b1 := long_bound h0 h1
  have b2 := long_bound h1 h2
  have b3 := long_bound h0 h2
  have n2 := long_nonneg x1 y1 px py
  have n3 := long_nonneg x0 y0 px py
  unfold nearU nearD
  by_cases hc : 0 < alongZ x0 y0 x1 y1 px py ∧ alongZ x0 y0 x1 y1 px py < longZ x0 y0 x1 y1
  · rw [if_pos hc, if_pos hc]
    refine ⟨sq_nonneg _, ?_, by omega, by omega⟩
    have hb : (crossZ x0 y0 x1 y1 px py).natAbs < 18446744073709551616 ^ 1 := by rw [Nat.pow_one]; omega
    exact mul_bound hb hb
  · rw [if_neg hc, if_neg hc]
    split
    · exact ⟨n2, by omega, by omega, by omega⟩
    · exact ⟨n3, by omega, by omega, by omega⟩
/-- The best of those so far, and then of the others. -/
def nearGo (px py : Int) : List Sg → Int → Int × Int × Int → Int × Int × Int
  | [], _, s => s
  | g :: r, i, (b, u, d) => nearGo px py r (i + 1) (if nU px py g * d - u * nD px py g < 0 then (i, nU px py g, nD px py g) else (b, u, d))
def nearAll (px py : Int) : List Sg → Int × Int × Int
  | [] => (0, 0, 1)
  | g :: r => nearGo px py r 1 (0, nU px py g, nD px py g)
def sgIn (s : Sg) : Prop := spotIn s.x0 s.y0 ∧ spotIn s.x1 s.y1
theorem sgOk_in {s : Sg} (h : sgOk s = true) : sgIn s := by
  unfold sgOk segOkV at h
  simp only [Bool.and_eq_true] at h
  exact ⟨spotOk_iff.1 h.1, spotOk_iff.1 h.2.1⟩
/-! ### function 36 -/
def S36_3z (l : List Sg) (px : Int) (py : Int) (n : Int) (i : Int) : St := ⟨[.bad, .bad, .bad, (U.hp 0 0), .bad, (U.hp 1 0), (U.f (F.int .i64 (-1))), (U.hp 2 0), .bad, .bad, .bad, .bad, (U.f (segsF l)), (U.f (F.int .i64 n)), (U.f (F.int .i64 i)), .bad, .bad, .bad, .bad, .bad, .bad, .bad, .bad, .bad, .bad, .bad, .bad, .bad, .bad, .bad, .bad, .bad, .bad, .bad, .bad], [HO.box [(U.f (F.int .i64 px)), (U.f (F.int .i64 py))], HO.box [(U.f (F.bool false)), U.nils, (U.f (F.bool false)), U.nils], HO.box [(U.f (F.bool false)), U.nils, (U.f (F.bool false)), U.nils]]⟩
def S36_3 (l : List Sg) (px : Int) (py : Int) (b : Int) (u : Int) (d : Int) (n : Int) (i : Int) : St := ⟨[.bad, .bad, .bad, (U.hp 0 0), .bad, (U.hp 1 0), (U.f (F.int .i64 b)), (U.hp 2 0), .bad, .bad, .bad, .bad, (U.f (segsF l)), (U.f (F.int .i64 n)), (U.f (F.int .i64 i)), .bad, .bad, .bad, .bad, .bad, .bad, .bad, .bad, .bad, .bad, .bad, .bad, .bad, .bad, .bad, .bad, .bad, .bad, .bad, .bad], [HO.box [(U.f (F.int .i64 px)), (U.f (F.int .i64 py))], HO.box [(U.f (F.bool false)), U.nils, (U.f (F.bool false)), U.nils], HO.box [(U.f (F.bool (decide (u < 0)))), (U.f (wordsF (digs 18446744073709551616 u.natAbs))), (U.f (F.bool (decide (d < 0)))), (U.f (wordsF (digs 18446744073709551616 d.natAbs)))]]⟩
def T36_3z {ρ : Type} (ret : (Int) → (F) → Option ρ) (c3z : (List Sg) → (Int) → (Int) → (Int) → (Int) → Option ρ) (c3 : (List Sg) → (Int) → (Int) → (Int) → (Int) → (Int) → (Int) → (Int) → Option ρ) (l : List Sg) (px : Int) (py : Int) (n : Int) (i : Int) : Option ρ :=
  (bsel (decide (i < n))
   (bsel (decide (0 ≤ i))
    (bsel (decide (i < (↑l.length : Int)))
     (bsel (isNearArg (l.getD i.toNat Sg.zero).x0 (l.getD i.toNat Sg.zero).y0 (l.getD i.toNat Sg.zero).x1 (l.getD i.toNat Sg.zero).y1 px py)
      (c3 (l) (px) (py) (i) (nearU (l.getD i.toNat Sg.zero).x0 (l.getD i.toNat Sg.zero).y0 (l.getD i.toNat Sg.zero).x1 (l.getD i.toNat Sg.zero).y1 px py) (nearD (l.getD i.toNat Sg.zero).x0 (l.getD i.toNat Sg.zero).y0 (l.getD i.toNat Sg.zero).x1 (l.getD i.toNat Sg.zero).y1 px py) (n) (IntKind.i64.wrap (i + 1)))
      none)
     none)
    none)
   (ret (-1) (F.agg [F.bool false, F.sl 0 fun x ↦ F.bool false, F.bool false, F.sl 0 fun x ↦ F.bool false])))
def T36_3 {ρ : Type} (ret : (Int) → (F) → Option ρ) (c3z : (List Sg) → (Int) → (Int) → (Int) → (Int) → Option ρ) (c3 : (List Sg) → (Int) → (Int) → (Int) → (Int) → (Int) → (Int) → (Int) → Option ρ) (l : List Sg) (px : Int) (py : Int) (b : Int) (u : Int) (d : Int) (n : Int) (i : Int) : Option ρ :=
  (bsel (decide (i < n))
   (bsel (decide (0 ≤ i))
    (bsel (decide (i < (↑l.length : Int)))
     (bsel (isNearArg (l.getD i.toNat Sg.zero).x0 (l.getD i.toNat Sg.zero).y0 (l.getD i.toNat Sg.zero).x1 (l.getD i.toNat Sg.zero).y1 px py)
      (bsel (decide (b < 0) == false)
       (bsel (isRat 180 (ratF (nearU (l.getD i.toNat Sg.zero).x0 (l.getD i.toNat Sg.zero).y0 (l.getD i.toNat Sg.zero).x1 (l.getD i.toNat Sg.zero).y1 px py) (nearD (l.getD i.toNat Sg.zero).x0 (l.getD i.toNat Sg.zero).y0 (l.getD i.toNat Sg.zero).x1 (l.getD i.toNat Sg.zero).y1 px py)) && isRat 180 (ratF u d))
        (bsel (decide ((unUp (ratF (nearU (l.getD i.toNat Sg.zero).x0 (l.getD i.toNat Sg.zero).y0 (l.getD i.toNat Sg.zero).x1 (l.getD i.toNat Sg.zero).y1 px py) (nearD (l.getD i.toNat Sg.zero).x0 (l.getD i.toNat Sg.zero).y0 (l.getD i.toNat Sg.zero).x1 (l.getD i.toNat Sg.zero).y1 px py)) * unDown (ratF u d) - unUp (ratF u d) * unDown (ratF (nearU (l.getD i.toNat Sg.zero).x0 (l.getD i.toNat Sg.zero).y0 (l.getD i.toNat Sg.zero).x1 (l.getD i.toNat Sg.zero).y1 px py) (nearD (l.getD i.toNat Sg.zero).x0 (l.getD i.toNat Sg.zero).y0 (l.getD i.toNat Sg.zero).x1 (l.getD i.toNat Sg.zero).y1 px py))).sign < 0))
         (c3 (l) (px) (py) (i) (nearU (l.getD i.toNat Sg.zero).x0 (l.getD i.toNat Sg.zero).y0 (l.getD i.toNat Sg.zero).x1 (l.getD i.toNat Sg.zero).y1 px py) (nearD (l.getD i.toNat Sg.zero).x0 (l.getD i.toNat Sg.zero).y0 (l.getD i.toNat Sg.zero).x1 (l.getD i.toNat Sg.zero).y1 px py) (n) (IntKind.i64.wrap (i + 1)))
         (c3 (l) (px) (py) (b) (u) (d) (n) (IntKind.i64.wrap (i + 1))))
        none)
       (c3 (l) (px) (py) (i) (nearU (l.getD i.toNat Sg.zero).x0 (l.getD i.toNat Sg.zero).y0 (l.getD i.toNat Sg.zero).x1 (l.getD i.toNat Sg.zero).y1 px py) (nearD (l.getD i.toNat Sg.zero).x0 (l.getD i.toNat Sg.zero).y0 (l.getD i.toNat Sg.zero).x1 (l.getD i.toNat Sg.zero).y1 px py) (n) (IntKind.i64.wrap (i + 1))))
      none)
     none)
    none)
   (ret (b) (ratF u d)))
mutual
def L36_3z : Nat → (List Sg) → (Int) → (Int) → (Int) → (Int) → Option ((Int) × (F))
  | 0, _, _, _, _, _ => none
  | k + 1, l, px, py, n, i => T36_3z (fun bi r => some (bi, r)) (L36_3z k) (L36_3 k) l px py n i
def L36_3 : Nat → (List Sg) → (Int) → (Int) → (Int) → (Int) → (Int) → (Int) → (Int) → Option ((Int) × (F))
  | 0, _, _, _, _, _, _, _, _ => none
  | k + 1, l, px, py, b, u, d, n, i => T36_3 (fun bi r => some (bi, r)) (L36_3z k) (L36_3 k) l px py b u d n i
end
def T36 {ρ : Type} (ret : (Int) → (F) → Option ρ) (c3z : (List Sg) → (Int) → (Int) → (Int) → (Int) → Option ρ) (c3 : (List Sg) → (Int) → (Int) → (Int) → (Int) → (Int) → (Int) → (Int) → Option ρ) (l : List Sg) (px : Int) (py : Int) : Option ρ :=
  (c3z (l) (px) (py) ((↑l.length : Int)) (0))
def G36 (k : Nat) (l : List Sg) (px : Int) (py : Int) : Option ((Int) × (F)) := T36 (fun bi r => some (bi, r)) (L36_3z k) (L36_3 k) l px py
mutual
theorem t36_3z : ∀ (k : Nat) (l : List Sg) (px : Int) (py : Int) (n : Int) (i : Int) (bi : Int) (r : F), L36_3z k l px py n i = some (bi, r) → Ends Try.prog Try.f36.results.toList (at_ Try.f36 3) (S36_3z l px py n i) (F.tup [F.int .i64 bi, r])
  | 0, _, _, _, _, _, _, _, h => nomatch h
  | k + 1, l, px, py, n, i, bi, r, h => by
    refine Ends.of_cut tyOK envN18_ok (T := [(3, [3, 5, 6, 7, 12, 13, 14], 1000)]) (n := 200) ?_
    have e : runCut Try.prog (tiOf Try.prog) envN18 [(3, [3, 5, 6, 7, 12, 13, 14], 1000)] 0 Try.f36.results.toList some 200 (at_ Try.f36 3) (S36_3z l px py n i) = T36_3z (fun bi r => some (.ret (F.tup [F.int .i64 bi, r]))) (fun l px py n i => some (.cut (at_ Try.f36 3) (S36_3z l px py n i))) (fun l px py b u d n i => some (.cut (at_ Try.f36 3) (S36_3 l px py b u d n i))) l px py n i := by kernel_rfl
    rw [e]
    exact (good_sel h (fun _ h => (good_sel h (fun _ h => (good_sel h (fun _ h => (good_sel h (fun _ h => good_cut (t36_3 k _ _ _ _ _ _ _ _ bi r h)) (fun _ h => nomatch h))) (fun _ h => nomatch h))) (fun _ h => nomatch h))) (fun _ h => good_ret (by cases h; rfl)))
theorem t36_3 : ∀ (k : Nat) (l : List Sg) (px : Int) (py : Int) (b : Int) (u : Int) (d : Int) (n : Int) (i : Int) (bi : Int) (r : F), L36_3 k l px py b u d n i = some (bi, r) → Ends Try.prog Try.f36.results.toList (at_ Try.f36 3) (S36_3 l px py b u d n i) (F.tup [F.int .i64 bi, r])
  | 0, _, _, _, _, _, _, _, _, _, _, h => nomatch h
  | k + 1, l, px, py, b, u, d, n, i, bi, r, h => by
    refine Ends.of_cut tyOK envN18_ok (T := [(3, [3, 5, 6, 7, 12, 13, 14], 1000)]) (n := 200) ?_
    have e : runCut Try.prog (tiOf Try.prog) envN18 [(3, [3, 5, 6, 7, 12, 13, 14], 1000)] 0 Try.f36.results.toList some 200 (at_ Try.f36 3) (S36_3 l px py b u d n i) = T36_3 (fun bi r => some (.ret (F.tup [F.int .i64 bi, r]))) (fun l px py n i => some (.cut (at_ Try.f36 3) (S36_3z l px py n i))) (fun l px py b u d n i => some (.cut (at_ Try.f36 3) (S36_3 l px py b u d n i))) l px py b u d n i := by kernel_rfl
    rw [e]
    exact (good_sel h (fun _ h => (good_sel h (fun _ h => (good_sel h (fun _ h => (good_sel h (fun _ h => (good_sel h (fun _ h => (good_sel h (fun _ h => (good_sel h (fun _ h => good_cut (t36_3 k _ _ _ _ _ _ _ _ bi r h)) (fun _ h => good_cut (t36_3 k _ _ _ _ _ _ _ _ bi r h)))) (fun _ h => nomatch h))) (fun _ h => good_cut (t36_3 k _ _ _ _ _ _ _ _ bi r h)))) (fun _ h => nomatch h))) (fun _ h => nomatch h))) (fun _ h => nomatch h))) (fun _ h => good_ret (by cases h; rfl)))
end
theorem t36 (k : Nat) (l : List Sg) (px : Int) (py : Int) (bi : Int) (r : F) (h : G36 k l px py = some (bi, r)) : Ends Try.prog Try.f36.results.toList [.code (bodyOf Try.f36)] (start Try.f36.ntmps ([segsF l, F.agg [F.int .i64 px, F.int .i64 py]].map .f)) (F.tup [F.int .i64 bi, r]) := by
  refine Ends.of_run tyOK envN18_ok (T := [(3, [3, 5, 6, 7, 12, 13, 14], 1000)]) (n := 200) ?_
  have e : run Try.prog (tiOf Try.prog) envN18 [(3, [3, 5, 6, 7, 12, 13, 14], 1000)] 0 Try.f36.results.toList some 200 [.code (bodyOf Try.f36)] (start Try.f36.ntmps ([segsF l, F.agg [F.int .i64 px, F.int .i64 py]].map .f)) = T36 (fun bi r => some (.ret (F.tup [F.int .i64 bi, r]))) (fun l px py n i => some (.cut (at_ Try.f36 3) (S36_3z l px py n i))) (fun l px py b u d n i => some (.cut (at_ Try.f36 3) (S36_3 l px py b u d n i))) l px py := by kernel_rfl
  rw [e]
  exact good_cut (t36_3z k _ _ _ _ _ bi r h)
theorem drop_consS {a : List Sg} {x : Sg} {rest : List Sg} {i : Nat} (h : a.drop i = x :: rest) : a.getD i Sg.zero = x ∧ a.drop (i + 1) = rest ∧ i < a.length := by
  have hi : i < a.length := by
    rcases Nat.lt_or_ge i a.length with h1 | h1
    · exact h1
    · rw [List.drop_eq_nil_of_le h1] at h; cases h
  rw [List.drop_eq_getElem_cons hi] at h
  injection h with h1 h2
  exact ⟨by simp [List.getD, List.getElem?_eq_getElem hi, h1], h2, hi⟩
/-- What is kept of the best one. -/
structure NearOk (s : Int × Int × Int) : Prop where
  idx : 0 ≤ s.1
  up0 : 0 ≤ s.2.1
  up : s.2.1.natAbs < 18446744073709551616 ^ 2
  down : 0 < s.2.2 ∧ s.2.2 ≤ 8000000000000
theorem nearOk_of {px py : Int} {g : Sg} (hg : sgIn g) (hp : spotIn px py) {i : Int} (hi : 0 ≤ i) : NearOk (i, nU px py g, nD px py g) := by
  obtain ⟨h1, h2, h3, h4⟩ := near_bounds hg.1 hg.2 hp
  exact ⟨hi, h1, h2, h3, h4⟩
theorem isRat_near {u d : Int} (hu : u.natAbs < 18446744073709551616 ^ 2) (hd : 0 < d ∧ d ≤ 8000000000000) : isRat 180 (ratF u d) = true :=
  isRat_ratF (bound_up hu (by omega)) (bound_up (n := 1) (by rw [Nat.pow_one]; omega) (by omega))
theorem nearest_loop {l : List Sg} {px py : Int} (hl : l.length ≤ 1000) (hin : ∀ s ∈ l, sgIn s) (hp : spotIn px py) : ∀ (rest : List Sg) (i k : Nat) (s : Int × Int × Int), l.drop i = rest → i + rest.length = l.length → NearOk s → rest.length < k →
    L36_3 k l px py s.1 s.2.1 s.2.2 l.length i = some ((nearGo px py rest i s).1, ratF (nearGo px py rest i s).2.1 (nearGo px py rest i s).2.2)
  | _, _, 0, _, _, _, _, h => by omega
  | [], i, k + 1, (b, u, d), hr, hi, hs, hk => by
    simp only [List.length_nil, Nat.add_zero] at hi
    subst hi
    rw [L36_3]
    unfold T36_3
    rw [decide_eq_false (by omega), bsel_false]
    rfl
  | g :: rest, i, k + 1, (b, u, d), hr, hi, hs, hk => by
    obtain ⟨hx, hr', hlt⟩ := drop_consS hr
    have hg : sgIn g := hin g (by rw [← hx]; simp [List.getD, List.getElem?_eq_getElem hlt])
    have hn := nearOk_of hg hp (show (0 : Int) ≤ (i : Int) by omega)
    have hk' : rest.length < k := by simp at hk; omega
    have hi' : i + 1 + rest.length = l.length := by simp only [List.length_cons] at hi; omega
    rw [L36_3]
    unfold T36_3
    rw [Int.toNat_natCast, hx]
    rw [show nearU g.x0 g.y0 g.x1 g.y1 px py = nU px py g from rfl, show nearD g.x0 g.y0 g.x1 g.y1 px py = nD px py g from rfl]
    rw [isNearArg_iff.2 ⟨hg.1, hg.2, hp⟩, isRat_near hn.up hn.down, isRat_near hs.up hs.down, unUp_ratF, unUp_ratF, unDown_ratF, unDown_ratF]
    rw [decide_eq_true (show (i : Int) < l.length by omega), decide_eq_true (show (0 : Int) ≤ i by omega), decide_eq_false (show ¬ b < 0 by have := hs.idx; simp at this; omega), show (false == false) = true from rfl, Bool.and_self, wrapI (by omega) (by omega), show (i : Int) + 1 = ((i + 1 : Nat) : Int) by omega]
    simp only [bsel_true, nearGo]
    by_cases hc : nU px py g * d - u * nD px py g < 0
    · rw [decide_eq_true (show (nU px py g * d - u * nD px py g).sign < 0 by rw [Int.sign_eq_neg_one_of_neg hc]; omega), bsel_true, if_pos hc]
      exact nearest_loop hl hin hp rest (i + 1) k (i, nU px py g, nD px py g) hr' hi' hn hk'
    · have : ¬ (nU px py g * d - u * nD px py g).sign < 0 := by
        rw [Int.sign_neg_iff]; exact hc
      rw [decide_eq_false this, bsel_false, if_neg hc]
      exact nearest_loop hl hin hp rest (i + 1) k (b, u, d) hr' hi' hs hk'
theorem nearest_law {l : List Sg} {px py : Int} (h0 : l ≠ []) (hl : l.length ≤ 1000) (hin : ∀ s ∈ l, sgIn s) (hp : spotIn px py) :
    G36 2000 l px py = some ((nearAll px py l).1, ratF (nearAll px py l).2.1 (nearAll px py l).2.2) := by
  cases l with
  | nil => exact absurd rfl h0
  | cons g rest =>
    have hg : sgIn g := hin g (by simp)
    have hn := nearOk_of (px := px) (py := py) hg hp (show (0 : Int) ≤ 0 by omega)
    unfold G36 T36
    rw [L36_3z]
    unfold T36_3z
    rw [show (0 : Int).toNat = 0 from rfl, List.getD_cons_zero]
    rw [isNearArg_iff.2 ⟨hg.1, hg.2, hp⟩, decide_eq_true (show (0 : Int) < (g :: rest).length by simp), decide_eq_true (show (0 : Int) ≤ 0 by omega), wrapI (by omega) (by omega)]
    simp only [bsel_true]
    exact nearest_loop hl hin hp rest 1 1999 (0, nU px py g, nD px py g) rfl (by simp; omega) hn (by simp at hl; omega)
def isNearest (l : List Sg) (px py : Int) : Bool := segsOkV l && (spotOkV px py && !(Nat.beq l.length 0))
theorem isNearest_iff {l : List Sg} {px py : Int} (h : isNearest l px py = true) : l ≠ [] ∧ l.length ≤ 40 ∧ (∀ s ∈ l, sgIn s) ∧ spotIn px py := by
  simp only [isNearest, Bool.and_eq_true, Bool.not_eq_true'] at h
  obtain ⟨h1, h2, h3⟩ := h
  obtain ⟨k1, k2⟩ := segsOk_iff.1 h1
  exact ⟨fun e => (by subst e; cases h3), k1, fun s hs => sgOk_in (k2 s hs), spotOk_iff.1 h2⟩
def preNearest : List F → Bool | [x, .agg [.int .i64 a, .int .i64 b]] => isSegs x && isNearest (unSegs x) a b | _ => false
def resNearest : List F → F | [x, .agg [.int .i64 a, .int .i64 b]] => .tup [.int .i64 (nearAll a b (unSegs x)).1, ratF (nearAll a b (unSegs x)).2.1 (nearAll a b (unSegs x)).2.2] | _ => .dflt
theorem okNearest : PureOK Try.prog 36 preNearest resNearest :=
  fn_pure_at (c := bodyOf Try.f36) Try.func36 (by kernel_rfl) (by kernel_rfl) fun xs hp => match xs, hp with
  | [x, .agg [.int .i64 a, .int .i64 b]], hp => by
    simp only [preNearest, Bool.and_eq_true] at hp
    obtain ⟨h1, h2, h3, h4⟩ := isNearest_iff hp.2
    exact ⟨[segsF (unSegs x), _], _, ⟨(segs_eqv hp.1).1, .refl _, trivial⟩, t36 2000 _ _ _ _ _ (nearest_law h1 (by omega) h3 h4), .refl _⟩
theorem nearGo_ok {px py : Int} (hp : spotIn px py) : ∀ (l : List Sg) (i : Int) (s : Int × Int × Int), (∀ g ∈ l, sgIn g) → 0 ≤ i → NearOk s → NearOk (nearGo px py l i s)
  | [], _, _, _, _, hs => hs
  | g :: l, i, (b, u, d), hin, hi, hs => by
    simp only [nearGo]
    refine nearGo_ok hp l (i + 1) _ (fun g hg => hin g (by simp [hg])) (by omega) ?_
    split
    · exact nearOk_of (hin g (by simp)) hp hi
    · exact hs
theorem nearAll_ok {px py : Int} (hp : spotIn px py) {l : List Sg} (h0 : l ≠ []) (hin : ∀ g ∈ l, sgIn g) : NearOk (nearAll px py l) := by
  cases l with
  | nil => exact absurd rfl h0
  | cons g r => exact nearGo_ok hp r 1 _ (fun g hg => hin g (by simp [hg])) (by omega) (nearOk_of (hin g (by simp)) hp (by omega))
/-! ### function 37 -/
def T37 {ρ : Type} (ret : (F) → Option ρ) (u : Int) (d : Int) : Option ρ :=
  (bsel (isNum 400 (numF d))
   (bsel ((unNum (numF d)).sign == 0)
    (ret (F.tup [F.agg [F.int IntKind.u64 0, F.int IntKind.u64 0, F.int IntKind.u64 0, F.int IntKind.u64 0, F.int IntKind.u64 0, F.int IntKind.u64 0, F.int IntKind.u64 0, F.int IntKind.u64 0], F.bool false]))
    (bsel (isRat 180 (ratF u d) && isLow (unUp (ratF u d)) (unDown (ratF u d)))
     (bsel (isNum 399 (numF (unUp (ratF u d) / gcdI (unUp (ratF u d)) (unDown (ratF u d)))))
      (bsel (isNum 399 (numF (unDown (ratF u d) / gcdI (unUp (ratF u d)) (unDown (ratF u d)))))
       (bsel ((!isWide (unNum (numF (unUp (ratF u d) / gcdI (unUp (ratF u d)) (unDown (ratF u d)))))) == false)
        (bsel (!isWide (unNum (numF (unDown (ratF u d) / gcdI (unUp (ratF u d)) (unDown (ratF u d))))))
         (ret (F.tup [F.agg [F.int IntKind.u64 0, F.int IntKind.u64 0, F.int IntKind.u64 0, F.int IntKind.u64 0, F.int IntKind.u64 0, F.int IntKind.u64 0, F.int IntKind.u64 0, F.int IntKind.u64 0], F.bool false]))
         (ret (F.tup [F.agg [F.int IntKind.u64 (wd3 (unNum (numF (unUp (ratF u d) / gcdI (unUp (ratF u d)) (unDown (ratF u d)))))), F.int IntKind.u64 (wd2 (unNum (numF (unUp (ratF u d) / gcdI (unUp (ratF u d)) (unDown (ratF u d)))))), F.int IntKind.u64 (wd1 (unNum (numF (unUp (ratF u d) / gcdI (unUp (ratF u d)) (unDown (ratF u d)))))), F.int IntKind.u64 (wd0 (unNum (numF (unUp (ratF u d) / gcdI (unUp (ratF u d)) (unDown (ratF u d)))))), F.int IntKind.u64 (wd3 (unNum (numF (unDown (ratF u d) / gcdI (unUp (ratF u d)) (unDown (ratF u d)))))), F.int IntKind.u64 (wd2 (unNum (numF (unDown (ratF u d) / gcdI (unUp (ratF u d)) (unDown (ratF u d)))))), F.int IntKind.u64 (wd1 (unNum (numF (unDown (ratF u d) / gcdI (unUp (ratF u d)) (unDown (ratF u d)))))), F.int IntKind.u64 (wd0 (unNum (numF (unDown (ratF u d) / gcdI (unUp (ratF u d)) (unDown (ratF u d))))))], F.bool true])))
        (ret (F.tup [F.agg [F.int IntKind.u64 0, F.int IntKind.u64 0, F.int IntKind.u64 0, F.int IntKind.u64 0, F.int IntKind.u64 0, F.int IntKind.u64 0, F.int IntKind.u64 0, F.int IntKind.u64 0], F.bool false])))
       none)
      none)
     none))
   none)
def G37 (u : Int) (d : Int) : Option (F) := T37 some u d
theorem t37 (u : Int) (d : Int) (r : F) (h : G37 u d = some r) : Ends Try.prog Try.f37.results.toList [.code (bodyOf Try.f37)] (start Try.f37.ntmps ([ratF u d].map .f)) (r) := by
  refine Ends.of_run tyOK envN18_ok (T := []) (n := 200) ?_
  have e : run Try.prog (tiOf Try.prog) envN18 [] 0 Try.f37.results.toList some 200 [.code (bodyOf Try.f37)] (start Try.f37.ntmps ([ratF u d].map .f)) = T37 (fun r => some (.ret (r))) u d := by kernel_rfl
  rw [e]
  exact (good_sel h (fun _ h => (good_sel h (fun _ h => good_ret (by cases h; rfl)) (fun _ h => (good_sel h (fun _ h => (good_sel h (fun _ h => (good_sel h (fun _ h => (good_sel h (fun _ h => (good_sel h (fun _ h => good_ret (by cases h; rfl)) (fun _ h => good_ret (by cases h; rfl)))) (fun _ h => good_ret (by cases h; rfl)))) (fun _ h => nomatch h))) (fun _ h => nomatch h))) (fun _ h => nomatch h))))) (fun _ h => nomatch h))
def okT (u d : Int) : Bool := isWide u && isWide d
/-- A fraction told; noughts where it is not. -/
def toldF (u d : Int) : F := .agg [.int .u64 (bif okT u d then wd3 u else 0), .int .u64 (bif okT u d then wd2 u else 0), .int .u64 (bif okT u d then wd1 u else 0), .int .u64 (bif okT u d then wd0 u else 0),
  .int .u64 (bif okT u d then wd3 d else 0), .int .u64 (bif okT u d then wd2 d else 0), .int .u64 (bif okT u d then wd1 d else 0), .int .u64 (bif okT u d then wd0 d else 0)]
theorem told_law {u d : Int} (hu : u.natAbs < 18446744073709551616 ^ 180) (hd : 0 < d) (hd2 : d < 18446744073709551616) : G37 u d = some (.tup [toldF (u / gcdI u d) (d / gcdI u d), .bool (okT (u / gcdI u d) (d / gcdI u d))]) := by
  have hdB : d.natAbs < 18446744073709551616 ^ 1 := by rw [Nat.pow_one]; omega
  obtain ⟨g1, g2⟩ := gcdI_pos (u := u) hd
  have q : ∀ x : Int, (x / gcdI u d).natAbs ≤ x.natAbs := fun x => by
    rcases Int.le_total 0 x with hx | hx
    · have h1 := Int.ediv_nonneg hx (show 0 ≤ gcdI u d by omega)
      have h2 := Int.ediv_le_self (gcdI u d) hx
      omega
    · exact Int.natAbs_ediv_le_natAbs x (gcdI u d)
  have e1 : isNum 400 (numF d) = true := isNum_numF (bound_up hdB (by omega))
  have e2 : isRat 180 (ratF u d) = true := isRat_ratF hu (bound_up hdB (by omega))
  have e3 : isLow u d = true := isLow_iff.2 ⟨hd, hd2⟩
  have e4 : isNum 399 (numF (u / gcdI u d)) = true := isNum_numF (bound_up (n := 180) (Nat.lt_of_le_of_lt (q u) hu) (by omega))
  have e5 : isNum 399 (numF (d / gcdI u d)) = true := isNum_numF (bound_up (n := 1) (Nat.lt_of_le_of_lt (q d) hdB) (by omega))
  have e6 : (d.sign == 0) = false := by rw [Int.sign_eq_one_of_pos hd]; rfl
  unfold G37 T37
  simp only [e1, e2, e3, e4, e5, e6, unUp_ratF, unDown_ratF, unNum_numF, Bool.and_self, bsel_true, bsel_false]
  unfold toldF okT
  cases h1 : isWide (u / gcdI u d) <;> cases h2 : isWide (d / gcdI u d) <;> rfl
def resTold : List F → F | [x] => .tup [toldF (unUp x / gcdI (unUp x) (unDown x)) (unDown x / gcdI (unUp x) (unDown x)), .bool (okT (unUp x / gcdI (unUp x) (unDown x)) (unDown x / gcdI (unUp x) (unDown x)))] | _ => .dflt
theorem okTold : PureOK Try.prog 37 preLow resTold :=
  fn_pure_at (c := bodyOf Try.f37) Try.func37 (by kernel_rfl) (by kernel_rfl) fun xs hp => match xs, hp with
  | [x], hp => by
    simp only [preLow, Bool.and_eq_true] at hp
    obtain ⟨h1, h2⟩ := isLow_iff.1 hp.2
    exact ⟨[ratF (unUp x) (unDown x)], _, ⟨(rat_eqv hp.1).1, trivial⟩, t37 _ _ _ (told_law (rat_bound hp.1).1 h1 h2), .refl _⟩
def envN19 : Env := (envN18.add 36 (.pure preNearest resNearest)).add 37 (.pure preLow resTold)
theorem envN19_ok : EnvOK Try.prog envN19 := Env.add_ok (Env.add_ok envN18_ok okNearest.sp) okTold.sp
end
end Go.Proofs.Ytmambbfnjbdfgaa.R

namespace Go.Proofs.Ytmambbfnjbdfgaa.R
open Go
noncomputable section
set_option linter.unusedVariables false
set_option linter.unusedSimpArgs false
set_option maxRecDepth 100000
def isL2r (n : Nat) : F → Bool | .agg [a, b, c, d] => isL1n n (.agg [a, b]) && isL1n n (.agg [c, d]) | _ => false
def unUp3 : F → Int | .agg [a, b, _, _] => unL1n (.agg [a, b]) | _ => 0
def unDown3 : F → Int | .agg [_, _, c, d] => unL1n (.agg [c, d]) | _ => 0
theorem unUp3_l2rF (u d : Int) : unUp3 (l2rF u d) = u := unL1n_l1nF u
theorem unDown3_l2rF (u d : Int) : unDown3 (l2rF u d) = d := unL1n_l1nF d
theorem isL2r_l2rF {n : Nat} {u d : Int} (hu : u.natAbs < 4294967296 ^ n) (hd : d.natAbs < 4294967296 ^ n) : isL2r n (l2rF u d) = true := by
  have h1 := isL1n_l1nF hu
  have h2 := isL1n_l1nF hd
  unfold l1nF at h1 h2
  simp only [isL2r, l2rF, h1, h2, Bool.and_self]
theorem l2r_eqv {n : Nat} {x : F} (h : isL2r n x = true) : FLe x (l2rF (unUp3 x) (unDown3 x)) ∧ FLe (l2rF (unUp3 x) (unDown3 x)) x := by
  unfold isL2r at h
  split at h
  · rename_i a b c d
    rw [Bool.and_eq_true] at h
    obtain ⟨s, y, e1, hy, f1⟩ := l1n_form h.1
    obtain ⟨t, z, e2, hz, f2⟩ := l1n_form h.2
    cases e1; cases e2
    have g : l2rF (unUp3 (.agg [.bool s, b, .bool t, d])) (unDown3 (.agg [.bool s, b, .bool t, d])) = .agg [.bool s, halvesF (unHalves b), .bool t, halvesF (unHalves d)] := by
      unfold l1nF at f1 f2
      injection f1 with f1
      injection f2 with f2
      simp only [List.cons.injEq, and_true] at f1 f2
      show F.agg [_, _, _, _] = _
      rw [show unUp3 (.agg [.bool s, b, .bool t, d]) = unL1n (.agg [.bool s, b]) from rfl, show unDown3 (.agg [.bool s, b, .bool t, d]) = unL1n (.agg [.bool t, d]) from rfl, f1.1, f1.2, f2.1, f2.2]
    rw [g]
    exact ⟨FLe.agg ⟨.refl _, (halves_eqv hy).1, .refl _, (halves_eqv hz).1, trivial⟩, FLe.agg ⟨.refl _, (halves_eqv hy).2, .refl _, (halves_eqv hz).2, trivial⟩⟩
  · cases h
theorem l2r_bound {n : Nat} {x : F} (h : isL2r n x = true) : (unUp3 x).natAbs < 4294967296 ^ n ∧ (unDown3 x).natAbs < 4294967296 ^ n := by
  unfold isL2r at h
  split at h
  · rw [Bool.and_eq_true] at h
    exact ⟨natAbs_of_isL1n h.1, natAbs_of_isL1n h.2⟩
  · cases h
/-! ### function 68 -/
def T68 {ρ : Type} (ret : (F) → Option ρ) (u : Int) (d : Int) : Option ρ :=
  (bsel (decide (d < 0))
   (bsel (isL1n 800 (l1nF u))
    (bsel (isL1n 800 (l1nF d))
     (bsel (isL1n 699 (l1nF (-unL1n (l1nF u))) && isL1n 699 (l1nF (-unL1n (l1nF d))))
      (bsel (isL1n 800 (l1nF (gcdI (unL1n (l1nF (-unL1n (l1nF u)))) (unL1n (l1nF (-unL1n (l1nF d)))))) && true)
       (bsel ((unL1n (l1nF (gcdI (unL1n (l1nF (-unL1n (l1nF u)))) (unL1n (l1nF (-unL1n (l1nF d)))))) - unL1n (resInt3 [F.int IntKind.i64 1])).sign != 0)
        (bsel (isL1n 699 (l1nF (-unL1n (l1nF u))) && isL1n 699 (l1nF (gcdI (unL1n (l1nF (-unL1n (l1nF u)))) (unL1n (l1nF (-unL1n (l1nF d)))))) && isDivZ (unL1n (l1nF (gcdI (unL1n (l1nF (-unL1n (l1nF u)))) (unL1n (l1nF (-unL1n (l1nF d))))))))
         (bsel (isL1n 699 (l1nF (-unL1n (l1nF d))) && isL1n 699 (l1nF (gcdI (unL1n (l1nF (-unL1n (l1nF u)))) (unL1n (l1nF (-unL1n (l1nF d)))))) && isDivZ (unL1n (l1nF (gcdI (unL1n (l1nF (-unL1n (l1nF u)))) (unL1n (l1nF (-unL1n (l1nF d))))))))
          (ret (l2rF (unL1n (l1nF (-unL1n (l1nF u))) / unL1n (l1nF (gcdI (unL1n (l1nF (-unL1n (l1nF u)))) (unL1n (l1nF (-unL1n (l1nF d))))))) (unL1n (l1nF (-unL1n (l1nF d))) / unL1n (l1nF (gcdI (unL1n (l1nF (-unL1n (l1nF u)))) (unL1n (l1nF (-unL1n (l1nF d)))))))))
          none)
         none)
        (ret (l2rF (-unL1n (l1nF u)) (-unL1n (l1nF d)))))
       none)
      none)
     none)
    none)
   (bsel (isL1n 699 (l1nF u) && isL1n 699 (l1nF d))
    (bsel (isL1n 800 (l1nF (gcdI (unL1n (l1nF u)) (unL1n (l1nF d)))) && true)
     (bsel ((unL1n (l1nF (gcdI (unL1n (l1nF u)) (unL1n (l1nF d)))) - unL1n (resInt3 [F.int IntKind.i64 1])).sign != 0)
      (bsel (isL1n 699 (l1nF u) && isL1n 699 (l1nF (gcdI (unL1n (l1nF u)) (unL1n (l1nF d)))) && isDivZ (unL1n (l1nF (gcdI (unL1n (l1nF u)) (unL1n (l1nF d))))))
       (bsel (isL1n 699 (l1nF d) && isL1n 699 (l1nF (gcdI (unL1n (l1nF u)) (unL1n (l1nF d)))) && isDivZ (unL1n (l1nF (gcdI (unL1n (l1nF u)) (unL1n (l1nF d))))))
        (ret (l2rF (unL1n (l1nF u) / unL1n (l1nF (gcdI (unL1n (l1nF u)) (unL1n (l1nF d))))) (unL1n (l1nF d) / unL1n (l1nF (gcdI (unL1n (l1nF u)) (unL1n (l1nF d)))))))
        none)
       none)
      (ret (l2rF u d)))
     none)
    none))
def G68 (u : Int) (d : Int) : Option (F) := T68 some u d
theorem t68 (u : Int) (d : Int) (r : F) (h : G68 u d = some r) : Ends Try.prog Try.f68.results.toList [.code (bodyOf Try.f68)] (start Try.f68.ntmps ([l1nF u, l1nF d].map .f)) (r) := by
  refine Ends.of_run tyOK envS6_ok (T := []) (n := 200) ?_
  have e : run Try.prog (tiOf Try.prog) envS6 [] 0 Try.f68.results.toList some 200 [.code (bodyOf Try.f68)] (start Try.f68.ntmps ([l1nF u, l1nF d].map .f)) = T68 (fun r => some (.ret (r))) u d := by kernel_rfl
  rw [e]
  exact (good_sel h (fun _ h => (good_sel h (fun _ h => (good_sel h (fun _ h => (good_sel h (fun _ h => (good_sel h (fun _ h => (good_sel h (fun _ h => (good_sel h (fun _ h => (good_sel h (fun _ h => good_ret (by cases h; rfl)) (fun _ h => nomatch h))) (fun _ h => nomatch h))) (fun _ h => good_ret (by cases h; rfl)))) (fun _ h => nomatch h))) (fun _ h => nomatch h))) (fun _ h => nomatch h))) (fun _ h => nomatch h))) (fun _ h => (good_sel h (fun _ h => (good_sel h (fun _ h => (good_sel h (fun _ h => (good_sel h (fun _ h => (good_sel h (fun _ h => good_ret (by cases h; rfl)) (fun _ h => nomatch h))) (fun _ h => nomatch h))) (fun _ h => good_ret (by cases h; rfl)))) (fun _ h => nomatch h))) (fun _ h => nomatch h))))
theorem gcd_one_div {u d : Int} (h : ¬ (gcdI u d - 1).sign ≠ 0) : u / gcdI u d = u ∧ d / gcdI u d = d := by
  have h1 : gcdI u d = 1 := by
    have := Int.sign_eq_zero_iff_zero.1 (Classical.byContradiction h)
    omega
  rw [h1]
  exact ⟨Int.ediv_one u, Int.ediv_one d⟩
theorem make3_law {u d : Int} (hu : u.natAbs < 4294967296 ^ 699) (hd : 0 < d) (hdb : d.natAbs < 4294967296 ^ 699) : G68 u d = some (l2rF (u / gcdI u d) (d / gcdI u d)) := by
  obtain ⟨g1, g2⟩ := gcdI_pos (u := u) hd
  have hg : (gcdI u d).natAbs < 4294967296 ^ 699 := Nat.lt_of_le_of_lt (by omega) hdb
  have dz : isDivZ (gcdI u d) = true := isDivA_iff.2 (by omega)
  unfold G68 T68
  rw [decide_eq_false (show ¬ d < 0 by omega), bsel_false]
  simp only [unL1n_l1nF, isL1n_l1nF hu, isL1n_l1nF hdb, isL1n_l1nF hg, isL1n_l1nF (boundC_up hg (show 699 ≤ 800 by omega)), dz, resInt3, Bool.and_self, bsel_true]
  by_cases h : (gcdI u d - 1).sign ≠ 0
  · rw [show ((gcdI u d - 1).sign != 0) = true by simpa using h, bsel_true]
  · obtain ⟨e1, e2⟩ := gcd_one_div h
    rw [show ((gcdI u d - 1).sign != 0) = false by simpa using h, bsel_false, e1, e2]
def isMake (d : Int) : Bool := decide (0 < d)
def preMake : List F → Bool | [x, y] => isL1n 699 x && isL1n 699 y && isMake (unL1n y) | _ => false
def resMake : List F → F | [x, y] => l2rF (unL1n x / gcdI (unL1n x) (unL1n y)) (unL1n y / gcdI (unL1n x) (unL1n y)) | _ => .dflt
theorem okMake : PureOK Try.prog 68 preMake resMake :=
  fn_pure_at (c := bodyOf Try.f68) Try.func68 (by kernel_rfl) (by kernel_rfl) fun xs hp => match xs, hp with
  | [x, y], hp => by
    simp only [preMake, Bool.and_eq_true] at hp
    obtain ⟨⟨hx, hy⟩, hd⟩ := hp
    exact ⟨[l1nF (unL1n x), l1nF (unL1n y)], _, ⟨(l1n_eqv hx).1, (l1n_eqv hy).1, trivial⟩, t68 _ _ _ (make3_law (natAbs_of_isL1n hx) (of_decide_eq_true hd) (natAbs_of_isL1n hy)), .refl _⟩
/-! ### function 31 -/
def T31 {ρ : Type} (ret : (Int) → Option ρ) (u : Int) (d : Int) (v : Int) (e : Int) : Option ρ :=
  (bsel (isL1n 900 (l1nF u) && isL1n 900 (l1nF e))
   (bsel (isL1n 900 (l1nF v) && isL1n 900 (l1nF d))
    (bsel (isL1n 800 (resMulZ [l1nF u, l1nF e]) && isL1n 800 (resMulZ [l1nF v, l1nF d]))
     (ret ((unL1n (resMulZ [l1nF u, l1nF e]) - unL1n (resMulZ [l1nF v, l1nF d])).sign))
     none)
    none)
   none)
def G31 (u : Int) (d : Int) (v : Int) (e : Int) : Option (Int) := T31 some u d v e
theorem t31 (u : Int) (d : Int) (v : Int) (e : Int) (r : Int) (h : G31 u d v e = some r) : Ends Try.prog Try.f31.results.toList [.code (bodyOf Try.f31)] (start Try.f31.ntmps ([l2rF u d, l2rF v e].map .f)) (F.int .i64 r) := by
  refine Ends.of_run tyOK envS6_ok (T := []) (n := 200) ?_
  have e : run Try.prog (tiOf Try.prog) envS6 [] 0 Try.f31.results.toList some 200 [.code (bodyOf Try.f31)] (start Try.f31.ntmps ([l2rF u d, l2rF v e].map .f)) = T31 (fun r => some (.ret (F.int .i64 r))) u d v e := by kernel_rfl
  rw [e]
  exact (good_sel h (fun _ h => (good_sel h (fun _ h => (good_sel h (fun _ h => good_ret (by cases h; rfl)) (fun _ h => nomatch h))) (fun _ h => nomatch h))) (fun _ h => nomatch h))
def preL2r2 : List F → Bool | [x, y] => isL2r 390 x && isL2r 390 y | _ => false
def resL2Cmp : List F → F | [x, y] => .int .i64 (unUp3 x * unDown3 y - unUp3 y * unDown3 x).sign | _ => .dflt
theorem l2cmp_law {u d v e : Int} (hu : u.natAbs < 4294967296 ^ 390) (hd : d.natAbs < 4294967296 ^ 390) (hv : v.natAbs < 4294967296 ^ 390) (he : e.natAbs < 4294967296 ^ 390) : G31 u d v e = some (u * e - v * d).sign := by
  unfold G31 T31
  have up : ∀ {x : Int}, x.natAbs < 4294967296 ^ 390 → isL1n 900 (l1nF x) = true := fun h => isL1n_l1nF (boundC_up h (by omega))
  have h1 : isL1n 800 (l1nF (u * e)) = true := isL1n_l1nF (boundC_up (boundC_mul hu he) (by omega))
  have h2 : isL1n 800 (l1nF (v * d)) = true := isL1n_l1nF (boundC_up (boundC_mul hv hd) (by omega))
  simp only [up hu, up hd, up hv, up he, resMulZ, unL1n_l1nF, h1, h2, Bool.and_self, bsel_true]
theorem okL2Cmp : PureOK Try.prog 31 preL2r2 resL2Cmp :=
  fn_pure_at (c := bodyOf Try.f31) Try.func31 (by kernel_rfl) (by kernel_rfl) fun xs hp => match xs, hp with
  | [x, y], hp => by
    simp only [preL2r2, Bool.and_eq_true] at hp
    obtain ⟨h1, h2⟩ := l2r_bound hp.1
    obtain ⟨h3, h4⟩ := l2r_bound hp.2
    exact ⟨[l2rF (unUp3 x) (unDown3 x), l2rF (unUp3 y) (unDown3 y)], _, ⟨(l2r_eqv hp.1).1, (l2r_eqv hp.2).1, trivial⟩, t31 _ _ _ _ _ (l2cmp_law h1 h2 h3 h4), .refl _⟩
/-! ### function 32 -/
def T32 {ρ : Type} (ret : (F) → Option ρ) (u : Int) (d : Int) : Option ρ :=
  (bsel (isL1n 800 (l1nF u))
   (bsel (isL1n 800 (l1nF d))
    (bsel ((!isWide (unL1n (l1nF u))) == false)
     (bsel (!isWide (unL1n (l1nF d)))
      (ret (F.tup [F.agg [F.int IntKind.u64 0, F.int IntKind.u64 0, F.int IntKind.u64 0, F.int IntKind.u64 0, F.int IntKind.u64 0, F.int IntKind.u64 0, F.int IntKind.u64 0, F.int IntKind.u64 0], F.bool false]))
      (ret (F.tup [F.agg [F.int IntKind.u64 (wd3 (unL1n (l1nF u))), F.int IntKind.u64 (wd2 (unL1n (l1nF u))), F.int IntKind.u64 (wd1 (unL1n (l1nF u))), F.int IntKind.u64 (wd0 (unL1n (l1nF u))), F.int IntKind.u64 (wd3 (unL1n (l1nF d))), F.int IntKind.u64 (wd2 (unL1n (l1nF d))), F.int IntKind.u64 (wd1 (unL1n (l1nF d))), F.int IntKind.u64 (wd0 (unL1n (l1nF d)))], F.bool true])))
     (ret (F.tup [F.agg [F.int IntKind.u64 0, F.int IntKind.u64 0, F.int IntKind.u64 0, F.int IntKind.u64 0, F.int IntKind.u64 0, F.int IntKind.u64 0, F.int IntKind.u64 0, F.int IntKind.u64 0], F.bool false])))
    none)
   none)
def G32 (u : Int) (d : Int) : Option (F) := T32 some u d
theorem t32 (u : Int) (d : Int) (r : F) (h : G32 u d = some r) : Ends Try.prog Try.f32.results.toList [.code (bodyOf Try.f32)] (start Try.f32.ntmps ([l2rF u d].map .f)) (r) := by
  refine Ends.of_run tyOK envS6_ok (T := []) (n := 200) ?_
  have e : run Try.prog (tiOf Try.prog) envS6 [] 0 Try.f32.results.toList some 200 [.code (bodyOf Try.f32)] (start Try.f32.ntmps ([l2rF u d].map .f)) = T32 (fun r => some (.ret (r))) u d := by kernel_rfl
  rw [e]
  exact (good_sel h (fun _ h => (good_sel h (fun _ h => (good_sel h (fun _ h => (good_sel h (fun _ h => good_ret (by cases h; rfl)) (fun _ h => good_ret (by cases h; rfl)))) (fun _ h => good_ret (by cases h; rfl)))) (fun _ h => nomatch h))) (fun _ h => nomatch h))
theorem l2ratio_law {u d : Int} (hu : u.natAbs < 4294967296 ^ 800) (hd : d.natAbs < 4294967296 ^ 800) : G32 u d = some (.tup [toldF u d, .bool (okT u d)]) := by
  unfold G32 T32
  simp only [isL1n_l1nF hu, isL1n_l1nF hd, unL1n_l1nF, bsel_true]
  unfold toldF okT
  cases h1 : isWide u <;> cases h2 : isWide d <;> rfl
def preL2r : List F → Bool | [x] => isL2r 800 x | _ => false
def resL2Ratio : List F → F | [x] => .tup [toldF (unUp3 x) (unDown3 x), .bool (okT (unUp3 x) (unDown3 x))] | _ => .dflt
theorem okL2Ratio : PureOK Try.prog 32 preL2r resL2Ratio :=
  fn_pure_at (c := bodyOf Try.f32) Try.func32 (by kernel_rfl) (by kernel_rfl) fun xs hp => match xs, hp with
  | [x], hp => by
    obtain ⟨h1, h2⟩ := l2r_bound hp
    exact ⟨[l2rF (unUp3 x) (unDown3 x)], _, ⟨(l2r_eqv hp).1, trivial⟩, t32 _ _ _ (l2ratio_law h1 h2), .refl _⟩
def envS7 : Env := ((envS6.add 68 (.pure preMake resMake)).add 31 (.pure preL2r2 resL2Cmp)).add 32 (.pure preL2r resL2Ratio)
theorem envS7_ok : EnvOK Try.prog envS7 := Env.add_ok (Env.add_ok (Env.add_ok envS6_ok okMake.sp) okL2Cmp.sp) okL2Ratio.sp
end
end Go.Proofs.Ytmambbfnjbdfgaa.R

namespace Go.Proofs.Ytmambbfnjbdfgaa.R
open Go
noncomputable section
set_option linter.unusedVariables false
set_option linter.unusedSimpArgs false
set_option maxRecDepth 100000
/-! ### function 30 -/
def T30 {ρ : Type} (ret : (F) → Option ρ) (x0 : Int) (y0 : Int) (x1 : Int) (y1 : Int) (px : Int) (py : Int) : Option ρ :=
  (bsel (decide (IntKind.i64.wrap (IntKind.i64.wrap (IntKind.i64.wrap (px - x0) * IntKind.i64.wrap (x1 - x0)) + IntKind.i64.wrap (IntKind.i64.wrap (py - y0) * IntKind.i64.wrap (y1 - y0))) ≤ 0))
   (bsel (isI64 (IntKind.i64.wrap (IntKind.i64.wrap (IntKind.i64.wrap (px - x0) * IntKind.i64.wrap (px - x0)) + IntKind.i64.wrap (IntKind.i64.wrap (py - y0) * IntKind.i64.wrap (py - y0)))))
    (ret (l2rF (IntKind.i64.wrap (IntKind.i64.wrap (IntKind.i64.wrap (px - x0) * IntKind.i64.wrap (px - x0)) + IntKind.i64.wrap (IntKind.i64.wrap (py - y0) * IntKind.i64.wrap (py - y0)))) 1))
    none)
   (bsel (decide (IntKind.i64.wrap (IntKind.i64.wrap (IntKind.i64.wrap (px - x0) * IntKind.i64.wrap (x1 - x0)) + IntKind.i64.wrap (IntKind.i64.wrap (py - y0) * IntKind.i64.wrap (y1 - y0))) ≥ IntKind.i64.wrap (IntKind.i64.wrap (IntKind.i64.wrap (x1 - x0) * IntKind.i64.wrap (x1 - x0)) + IntKind.i64.wrap (IntKind.i64.wrap (y1 - y0) * IntKind.i64.wrap (y1 - y0)))))
    (bsel (isI64 (IntKind.i64.wrap (IntKind.i64.wrap (IntKind.i64.wrap (px - x1) * IntKind.i64.wrap (px - x1)) + IntKind.i64.wrap (IntKind.i64.wrap (py - y1) * IntKind.i64.wrap (py - y1)))))
     (ret (l2rF (IntKind.i64.wrap (IntKind.i64.wrap (IntKind.i64.wrap (px - x1) * IntKind.i64.wrap (px - x1)) + IntKind.i64.wrap (IntKind.i64.wrap (py - y1) * IntKind.i64.wrap (py - y1)))) 1))
     none)
    (bsel (isI64 (IntKind.i64.wrap (IntKind.i64.wrap (IntKind.i64.wrap (x1 - x0) * IntKind.i64.wrap (py - y0)) - IntKind.i64.wrap (IntKind.i64.wrap (y1 - y0) * IntKind.i64.wrap (px - x0)))))
     (bsel (isL1n 900 (l1nF (IntKind.i64.wrap (IntKind.i64.wrap (IntKind.i64.wrap (x1 - x0) * IntKind.i64.wrap (py - y0)) - IntKind.i64.wrap (IntKind.i64.wrap (y1 - y0) * IntKind.i64.wrap (px - x0))))) && isL1n 900 (l1nF (IntKind.i64.wrap (IntKind.i64.wrap (IntKind.i64.wrap (x1 - x0) * IntKind.i64.wrap (py - y0)) - IntKind.i64.wrap (IntKind.i64.wrap (y1 - y0) * IntKind.i64.wrap (px - x0))))))
      (bsel (isI64 (IntKind.i64.wrap (IntKind.i64.wrap (IntKind.i64.wrap (x1 - x0) * IntKind.i64.wrap (x1 - x0)) + IntKind.i64.wrap (IntKind.i64.wrap (y1 - y0) * IntKind.i64.wrap (y1 - y0)))))
       (bsel (isL1n 699 (resMulZ [l1nF (IntKind.i64.wrap (IntKind.i64.wrap (IntKind.i64.wrap (x1 - x0) * IntKind.i64.wrap (py - y0)) - IntKind.i64.wrap (IntKind.i64.wrap (y1 - y0) * IntKind.i64.wrap (px - x0)))), l1nF (IntKind.i64.wrap (IntKind.i64.wrap (IntKind.i64.wrap (x1 - x0) * IntKind.i64.wrap (py - y0)) - IntKind.i64.wrap (IntKind.i64.wrap (y1 - y0) * IntKind.i64.wrap (px - x0))))]) && isL1n 699 (resInt3 [F.int IntKind.i64 (IntKind.i64.wrap (IntKind.i64.wrap (IntKind.i64.wrap (x1 - x0) * IntKind.i64.wrap (x1 - x0)) + IntKind.i64.wrap (IntKind.i64.wrap (y1 - y0) * IntKind.i64.wrap (y1 - y0))))]) && isMake (unL1n (resInt3 [F.int IntKind.i64 (IntKind.i64.wrap (IntKind.i64.wrap (IntKind.i64.wrap (x1 - x0) * IntKind.i64.wrap (x1 - x0)) + IntKind.i64.wrap (IntKind.i64.wrap (y1 - y0) * IntKind.i64.wrap (y1 - y0))))])))
        (ret (l2rF (unL1n (resMulZ [l1nF (IntKind.i64.wrap (IntKind.i64.wrap (IntKind.i64.wrap (x1 - x0) * IntKind.i64.wrap (py - y0)) - IntKind.i64.wrap (IntKind.i64.wrap (y1 - y0) * IntKind.i64.wrap (px - x0)))), l1nF (IntKind.i64.wrap (IntKind.i64.wrap (IntKind.i64.wrap (x1 - x0) * IntKind.i64.wrap (py - y0)) - IntKind.i64.wrap (IntKind.i64.wrap (y1 - y0) * IntKind.i64.wrap (px - x0))))]) / gcdI (unL1n (resMulZ [l1nF (IntKind.i64.wrap (IntKind.i64.wrap (IntKind.i64.wrap (x1 - x0) * IntKind.i64.wrap (py - y0)) - IntKind.i64.wrap (IntKind.i64.wrap (y1 - y0) * IntKind.i64.wrap (px - x0)))), l1nF (IntKind.i64.wrap (IntKind.i64.wrap (IntKind.i64.wrap (x1 - x0) * IntKind.i64.wrap (py - y0)) - IntKind.i64.wrap (IntKind.i64.wrap (y1 - y0) * IntKind.i64.wrap (px - x0))))])) (unL1n (resInt3 [F.int IntKind.i64 (IntKind.i64.wrap (IntKind.i64.wrap (IntKind.i64.wrap (x1 - x0) * IntKind.i64.wrap (x1 - x0)) + IntKind.i64.wrap (IntKind.i64.wrap (y1 - y0) * IntKind.i64.wrap (y1 - y0))))]))) (unL1n (resInt3 [F.int IntKind.i64 (IntKind.i64.wrap (IntKind.i64.wrap (IntKind.i64.wrap (x1 - x0) * IntKind.i64.wrap (x1 - x0)) + IntKind.i64.wrap (IntKind.i64.wrap (y1 - y0) * IntKind.i64.wrap (y1 - y0))))]) / gcdI (unL1n (resMulZ [l1nF (IntKind.i64.wrap (IntKind.i64.wrap (IntKind.i64.wrap (x1 - x0) * IntKind.i64.wrap (py - y0)) - IntKind.i64.wrap (IntKind.i64.wrap (y1 - y0) * IntKind.i64.wrap (px - x0)))), l1nF (IntKind.i64.wrap (IntKind.i64.wrap (IntKind.i64.wrap (x1 - x0) * IntKind.i64.wrap (py - y0)) - IntKind.i64.wrap (IntKind.i64.wrap (y1 - y0) * IntKind.i64.wrap (px - x0))))])) (unL1n (resInt3 [F.int IntKind.i64 (IntKind.i64.wrap (IntKind.i64.wrap (IntKind.i64.wrap (x1 - x0) * IntKind.i64.wrap (x1 - x0)) + IntKind.i64.wrap (IntKind.i64.wrap (y1 - y0) * IntKind.i64.wrap (y1 - y0))))])))))
        none)
       none)
      none)
     none)))
def G30 (x0 : Int) (y0 : Int) (x1 : Int) (y1 : Int) (px : Int) (py : Int) : Option (F) := T30 some x0 y0 x1 y1 px py
theorem t30 (x0 : Int) (y0 : Int) (x1 : Int) (y1 : Int) (px : Int) (py : Int) (r : F) (h : G30 x0 y0 x1 y1 px py = some r) : Ends Try.prog Try.f30.results.toList [.code (bodyOf Try.f30)] (start Try.f30.ntmps ([F.agg [F.int .i64 x0, F.int .i64 y0, F.int .i64 x1, F.int .i64 y1], F.agg [F.int .i64 px, F.int .i64 py]].map .f)) (r) := by
  refine Ends.of_run tyOK envS7_ok (T := []) (n := 200) ?_
  have e : run Try.prog (tiOf Try.prog) envS7 [] 0 Try.f30.results.toList some 200 [.code (bodyOf Try.f30)] (start Try.f30.ntmps ([F.agg [F.int .i64 x0, F.int .i64 y0, F.int .i64 x1, F.int .i64 y1], F.agg [F.int .i64 px, F.int .i64 py]].map .f)) = T30 (fun r => some (.ret (r))) x0 y0 x1 y1 px py := by kernel_rfl
  rw [e]
  exact (good_sel h (fun _ h => (good_sel h (fun _ h => good_ret (by cases h; rfl)) (fun _ h => nomatch h))) (fun _ h => (good_sel h (fun _ h => (good_sel h (fun _ h => good_ret (by cases h; rfl)) (fun _ h => nomatch h))) (fun _ h => (good_sel h (fun _ h => (good_sel h (fun _ h => (good_sel h (fun _ h => (good_sel h (fun _ h => good_ret (by cases h; rfl)) (fun _ h => nomatch h))) (fun _ h => nomatch h))) (fun _ h => nomatch h))) (fun _ h => nomatch h))))))
def lowU (u d : Int) : Int := u / gcdI u d
def lowD (u d : Int) : Int := d / gcdI u d
theorem low_one (u : Int) : lowU u 1 = u ∧ lowD u 1 = 1 := by
  obtain ⟨g1, g2⟩ := gcdI_pos (u := u) (d := 1) (by omega)
  have : gcdI u 1 = 1 := by omega
  unfold lowU lowD
  rw [this]
  exact ⟨Int.ediv_one u, rfl⟩
theorem sq_zero {a b : Int} (h : a * a + b * b ≤ 0) : a = 0 ∧ b = 0 := by
  have h1 := sq_nonneg a
  have h2 := sq_nonneg b
  have h3 : a * a = 0 := by omega
  have h4 : b * b = 0 := by omega
  refine ⟨?_, ?_⟩
  · rcases Int.mul_eq_zero.1 h3 with h | h <;> exact h
  · rcases Int.mul_eq_zero.1 h4 with h | h <;> exact h
theorem smallC {x : Int} {n : Nat} (h0 : -8000000000000 ≤ x) (h1 : x ≤ 8000000000000) (hn : 2 ≤ n) : x.natAbs < 4294967296 ^ n :=
  boundC_up (n := 2) (show x.natAbs < 4294967296 ^ 2 by omega) hn
theorem near3_law {x0 y0 x1 y1 px py : Int} (h0 : spotIn x0 y0) (h1 : spotIn x1 y1) (h2 : spotIn px py) :
    G30 x0 y0 x1 y1 px py = some (l2rF (lowU (nearU x0 y0 x1 y1 px py) (nearD x0 y0 x1 y1 px py)) (lowD (nearU x0 y0 x1 y1 px py) (nearD x0 y0 x1 y1 px py))) := by
  obtain ⟨c1, c2, c3⟩ := crossW_eq h0 h1 h2
  have n1 := long_nonneg x0 y0 x1 y1
  unfold spotIn at h0 h1 h2
  unfold crossW at c1
  unfold G30 T30
  rw [c1]
  rw [wrapI (x := px - x0) (by omega) (by omega), wrapI (x := x1 - x0) (by omega) (by omega), wrapI (x := py - y0) (by omega) (by omega), wrapI (x := y1 - y0) (by omega) (by omega), wrapI (x := px - x1) (by omega) (by omega), wrapI (x := py - y1) (by omega) (by omega)]
  obtain ⟨a1, a2, a3⟩ := dotW (a := px - x0) (b := x1 - x0) (c := py - y0) (d := y1 - y0) (by omega) (by omega) (by omega) (by omega)
  obtain ⟨l1, l2, l3⟩ := dotW (a := x1 - x0) (b := x1 - x0) (c := y1 - y0) (d := y1 - y0) (by omega) (by omega) (by omega) (by omega)
  obtain ⟨p1, p2, p3⟩ := dotW (a := px - x1) (b := px - x1) (c := py - y1) (d := py - y1) (by omega) (by omega) (by omega) (by omega)
  obtain ⟨q1, q2, q3⟩ := dotW (a := px - x0) (b := px - x0) (c := py - y0) (d := py - y0) (by omega) (by omega) (by omega) (by omega)
  have ea : (px - x0) * (x1 - x0) + (py - y0) * (y1 - y0) = alongZ x0 y0 x1 y1 px py := rfl
  have el : (x1 - x0) * (x1 - x0) + (y1 - y0) * (y1 - y0) = longZ x0 y0 x1 y1 := rfl
  have ep : (px - x1) * (px - x1) + (py - y1) * (py - y1) = longZ x1 y1 px py := rfl
  have eq : (px - x0) * (px - x0) + (py - y0) * (py - y0) = longZ x0 y0 px py := rfl
  rw [a1, l1, p1, q1, ea, el, ep, eq]
  have b1 : -8000000000000 ≤ longZ x0 y0 x1 y1 ∧ longZ x0 y0 x1 y1 ≤ 8000000000000 := ⟨l2, l3⟩
  have b2 : -8000000000000 ≤ longZ x1 y1 px py ∧ longZ x1 y1 px py ≤ 8000000000000 := ⟨p2, p3⟩
  have b3 : -8000000000000 ≤ longZ x0 y0 px py ∧ longZ x0 y0 px py ≤ 8000000000000 := ⟨q2, q3⟩
  have same : longZ x0 y0 x1 y1 ≤ 0 → longZ x1 y1 px py = longZ x0 y0 px py := fun h => by
    obtain ⟨e1, e2⟩ := sq_zero (show (x1 - x0) * (x1 - x0) + (y1 - y0) * (y1 - y0) ≤ 0 from h)
    rw [show x1 = x0 by omega, show y1 = y0 by omega]
  clear a1 a2 a3 l1 l2 l3 p1 p2 p3 q1 q2 q3 ea el ep eq c1
  simp only [isI64_iff.2 (show -9223372036854775808 ≤ crossZ x0 y0 x1 y1 px py ∧ _ by omega), isI64_iff.2 (show -9223372036854775808 ≤ longZ x0 y0 x1 y1 ∧ _ by omega), isI64_iff.2 (show -9223372036854775808 ≤ longZ x1 y1 px py ∧ _ by omega), isI64_iff.2 (show -9223372036854775808 ≤ longZ x0 y0 px py ∧ _ by omega), isL1n_l1nF (smallC c2 c3 (show 2 ≤ 900 by omega)), unL1n_l1nF, resMulZ, resInt3, isL1n_l1nF (boundC_up (boundC_mul (smallC c2 c3 (Nat.le_refl 2)) (smallC c2 c3 (Nat.le_refl 2))) (show 2 + 2 ≤ 699 by omega)), isL1n_l1nF (smallC b1.1 b1.2 (show 2 ≤ 699 by omega)), Bool.and_self, Bool.true_and, bsel_true]
  unfold nearU nearD
  generalize alongZ x0 y0 x1 y1 px py = al at *
  generalize longZ x0 y0 x1 y1 = lo at *
  by_cases k1 : 0 < al
  · rw [decide_eq_false (show ¬ al ≤ 0 by omega), bsel_false]
    by_cases k2 : al < lo
    · rw [decide_eq_false (show ¬ al ≥ lo by omega), bsel_false, if_pos ⟨k1, k2⟩, if_pos ⟨k1, k2⟩]
      have : isMake lo = true := decide_eq_true (by omega)
      rw [this]
      rfl
    · rw [decide_eq_true (show al ≥ lo by omega), bsel_true, if_neg (show ¬ (0 < al ∧ al < lo) from fun h => k2 h.2), if_neg (show ¬ (0 < al ∧ al < lo) from fun h => k2 h.2), if_pos (by omega), (low_one _).1, (low_one _).2]
  · rw [decide_eq_true (show al ≤ 0 by omega), bsel_true, if_neg (show ¬ (0 < al ∧ al < lo) from fun h => k1 h.1), if_neg (show ¬ (0 < al ∧ al < lo) from fun h => k1 h.1)]
    by_cases k2 : lo ≤ al
    · rw [if_pos k2, same (by omega), (low_one _).1, (low_one _).2]
    · rw [if_neg k2, (low_one _).1, (low_one _).2]
def resNear3 : List F → F | [.agg [.int .i64 a, .int .i64 b, .int .i64 c, .int .i64 d], .agg [.int .i64 e, .int .i64 f]] => l2rF (lowU (nearU a b c d e f) (nearD a b c d e f)) (lowD (nearU a b c d e f) (nearD a b c d e f)) | _ => .dflt
theorem okNear3 : PureOK Try.prog 30 preNear resNear3 :=
  fn_pure (c := bodyOf Try.f30) Try.func30 (by kernel_rfl) (by kernel_rfl) fun xs hp => match xs, hp with
  | [.agg [.int .i64 a, .int .i64 b, .int .i64 c, .int .i64 d], .agg [.int .i64 e, .int .i64 f]], hp => by
    obtain ⟨h0, h1, h2⟩ := isNearArg_iff.1 hp
    exact t30 a b c d e f _ (near3_law h0 h1 h2)
def envS8 : Env := envS7.add 30 (.pure preNear resNear3)
theorem envS8_ok : EnvOK Try.prog envS8 := Env.add_ok envS7_ok okNear3.sp
end
end Go.Proofs.Ytmambbfnjbdfgaa.R

namespace Go.Proofs.Ytmambbfnjbdfgaa.R
open Go
noncomputable section
set_option linter.unusedVariables false
set_option linter.unusedSimpArgs false
set_option maxRecDepth 100000
def nsI (l : List Sg) (px py : Int) : Int := bif isNearest l px py then (nearAll px py l).1 else 0
def nsU (l : List Sg) (px py : Int) : Int := bif isNearest l px py then (nearAll px py l).2.1 / gcdI (nearAll px py l).2.1 (nearAll px py l).2.2 else 57896044618658097711785492504343953926634992332820282019728792003956564819968
def nsD (l : List Sg) (px py : Int) : Int := bif isNearest l px py then (nearAll px py l).2.2 / gcdI (nearAll px py l).2.1 (nearAll px py l).2.2 else 57896044618658097711785492504343953926634992332820282019728792003956564819968
theorem okT_none : okT 57896044618658097711785492504343953926634992332820282019728792003956564819968 57896044618658097711785492504343953926634992332820282019728792003956564819968 = false := by
  have : isWide 57896044618658097711785492504343953926634992332820282019728792003956564819968 = false := by
    cases h : isWide 57896044618658097711785492504343953926634992332820282019728792003956564819968 with
    | false => rfl
    | true => have := isWide_iff.1 h; omega
  unfold okT
  rw [this]
  rfl
theorem toldF_none {u d : Int} (h : okT u d = false) : toldF u d = .agg [.int .u64 0, .int .u64 0, .int .u64 0, .int .u64 0, .int .u64 0, .int .u64 0, .int .u64 0, .int .u64 0] := by
  simp only [toldF, h, cond_false]
/-! ### function 11 -/
def T11 {ρ : Type} (ret : (F) → Option ρ) (l : List Sg) (px : Int) (py : Int) : Option ρ :=
  (bsel (isSegs (segsF l))
   (bsel ((!segsOkV (unSegs (segsF l))) == false)
    (bsel ((!spotOkV px py) == false)
     (bsel ((↑l.length : Int) == 0)
      (ret (F.tup [F.int IntKind.i64 0, F.agg [F.int IntKind.u64 0, F.int IntKind.u64 0, F.int IntKind.u64 0, F.int IntKind.u64 0, F.int IntKind.u64 0, F.int IntKind.u64 0, F.int IntKind.u64 0, F.int IntKind.u64 0], F.bool false]))
      (bsel (isSegs (segsF l) && isNearest (unSegs (segsF l)) px py)
       (bsel (isRat 180 (ratF (nearAll px py (unSegs (segsF l))).snd.fst (nearAll px py (unSegs (segsF l))).snd.snd) && isLow (unUp (ratF (nearAll px py (unSegs (segsF l))).snd.fst (nearAll px py (unSegs (segsF l))).snd.snd)) (unDown (ratF (nearAll px py (unSegs (segsF l))).snd.fst (nearAll px py (unSegs (segsF l))).snd.snd)))
        (ret (F.tup [F.int IntKind.i64 (nearAll px py (unSegs (segsF l))).fst, F.agg [F.int IntKind.u64 (bif okT (unUp (ratF (nearAll px py (unSegs (segsF l))).snd.fst (nearAll px py (unSegs (segsF l))).snd.snd) / gcdI (unUp (ratF (nearAll px py (unSegs (segsF l))).snd.fst (nearAll px py (unSegs (segsF l))).snd.snd)) (unDown (ratF (nearAll px py (unSegs (segsF l))).snd.fst (nearAll px py (unSegs (segsF l))).snd.snd))) (unDown (ratF (nearAll px py (unSegs (segsF l))).snd.fst (nearAll px py (unSegs (segsF l))).snd.snd) / gcdI (unUp (ratF (nearAll px py (unSegs (segsF l))).snd.fst (nearAll px py (unSegs (segsF l))).snd.snd)) (unDown (ratF (nearAll px py (unSegs (segsF l))).snd.fst (nearAll px py (unSegs (segsF l))).snd.snd))) then wd3 (unUp (ratF (nearAll px py (unSegs (segsF l))).snd.fst (nearAll px py (unSegs (segsF l))).snd.snd) / gcdI (unUp (ratF (nearAll px py (unSegs (segsF l))).snd.fst (nearAll px py (unSegs (segsF l))).snd.snd)) (unDown (ratF (nearAll px py (unSegs (segsF l))).snd.fst (nearAll px py (unSegs (segsF l))).snd.snd))) else 0), F.int IntKind.u64 (bif okT (unUp (ratF (nearAll px py (unSegs (segsF l))).snd.fst (nearAll px py (unSegs (segsF l))).snd.snd) / gcdI (unUp (ratF (nearAll px py (unSegs (segsF l))).snd.fst (nearAll px py (unSegs (segsF l))).snd.snd)) (unDown (ratF (nearAll px py (unSegs (segsF l))).snd.fst (nearAll px py (unSegs (segsF l))).snd.snd))) (unDown (ratF (nearAll px py (unSegs (segsF l))).snd.fst (nearAll px py (unSegs (segsF l))).snd.snd) / gcdI (unUp (ratF (nearAll px py (unSegs (segsF l))).snd.fst (nearAll px py (unSegs (segsF l))).snd.snd)) (unDown (ratF (nearAll px py (unSegs (segsF l))).snd.fst (nearAll px py (unSegs (segsF l))).snd.snd))) then wd2 (unUp (ratF (nearAll px py (unSegs (segsF l))).snd.fst (nearAll px py (unSegs (segsF l))).snd.snd) / gcdI (unUp (ratF (nearAll px py (unSegs (segsF l))).snd.fst (nearAll px py (unSegs (segsF l))).snd.snd)) (unDown (ratF (nearAll px py (unSegs (segsF l))).snd.fst (nearAll px py (unSegs (segsF l))).snd.snd))) else 0), F.int IntKind.u64 (bif okT (unUp (ratF (nearAll px py (unSegs (segsF l))).snd.fst (nearAll px py (unSegs (segsF l))).snd.snd) / gcdI (unUp (ratF (nearAll px py (unSegs (segsF l))).snd.fst (nearAll px py (unSegs (segsF l))).snd.snd)) (unDown (ratF (nearAll px py (unSegs (segsF l))).snd.fst (nearAll px py (unSegs (segsF l))).snd.snd))) (unDown (ratF (nearAll px py (unSegs (segsF l))).snd.fst (nearAll px py (unSegs (segsF l))).snd.snd) / gcdI (unUp (ratF (nearAll px py (unSegs (segsF l))).snd.fst (nearAll px py (unSegs (segsF l))).snd.snd)) (unDown (ratF (nearAll px py (unSegs (segsF l))).snd.fst (nearAll px py (unSegs (segsF l))).snd.snd))) then wd1 (unUp (ratF (nearAll px py (unSegs (segsF l))).snd.fst (nearAll px py (unSegs (segsF l))).snd.snd) / gcdI (unUp (ratF (nearAll px py (unSegs (segsF l))).snd.fst (nearAll px py (unSegs (segsF l))).snd.snd)) (unDown (ratF (nearAll px py (unSegs (segsF l))).snd.fst (nearAll px py (unSegs (segsF l))).snd.snd))) else 0), F.int IntKind.u64 (bif okT (unUp (ratF (nearAll px py (unSegs (segsF l))).snd.fst (nearAll px py (unSegs (segsF l))).snd.snd) / gcdI (unUp (ratF (nearAll px py (unSegs (segsF l))).snd.fst (nearAll px py (unSegs (segsF l))).snd.snd)) (unDown (ratF (nearAll px py (unSegs (segsF l))).snd.fst (nearAll px py (unSegs (segsF l))).snd.snd))) (unDown (ratF (nearAll px py (unSegs (segsF l))).snd.fst (nearAll px py (unSegs (segsF l))).snd.snd) / gcdI (unUp (ratF (nearAll px py (unSegs (segsF l))).snd.fst (nearAll px py (unSegs (segsF l))).snd.snd)) (unDown (ratF (nearAll px py (unSegs (segsF l))).snd.fst (nearAll px py (unSegs (segsF l))).snd.snd))) then wd0 (unUp (ratF (nearAll px py (unSegs (segsF l))).snd.fst (nearAll px py (unSegs (segsF l))).snd.snd) / gcdI (unUp (ratF (nearAll px py (unSegs (segsF l))).snd.fst (nearAll px py (unSegs (segsF l))).snd.snd)) (unDown (ratF (nearAll px py (unSegs (segsF l))).snd.fst (nearAll px py (unSegs (segsF l))).snd.snd))) else 0), F.int IntKind.u64 (bif okT (unUp (ratF (nearAll px py (unSegs (segsF l))).snd.fst (nearAll px py (unSegs (segsF l))).snd.snd) / gcdI (unUp (ratF (nearAll px py (unSegs (segsF l))).snd.fst (nearAll px py (unSegs (segsF l))).snd.snd)) (unDown (ratF (nearAll px py (unSegs (segsF l))).snd.fst (nearAll px py (unSegs (segsF l))).snd.snd))) (unDown (ratF (nearAll px py (unSegs (segsF l))).snd.fst (nearAll px py (unSegs (segsF l))).snd.snd) / gcdI (unUp (ratF (nearAll px py (unSegs (segsF l))).snd.fst (nearAll px py (unSegs (segsF l))).snd.snd)) (unDown (ratF (nearAll px py (unSegs (segsF l))).snd.fst (nearAll px py (unSegs (segsF l))).snd.snd))) then wd3 (unDown (ratF (nearAll px py (unSegs (segsF l))).snd.fst (nearAll px py (unSegs (segsF l))).snd.snd) / gcdI (unUp (ratF (nearAll px py (unSegs (segsF l))).snd.fst (nearAll px py (unSegs (segsF l))).snd.snd)) (unDown (ratF (nearAll px py (unSegs (segsF l))).snd.fst (nearAll px py (unSegs (segsF l))).snd.snd))) else 0), F.int IntKind.u64 (bif okT (unUp (ratF (nearAll px py (unSegs (segsF l))).snd.fst (nearAll px py (unSegs (segsF l))).snd.snd) / gcdI (unUp (ratF (nearAll px py (unSegs (segsF l))).snd.fst (nearAll px py (unSegs (segsF l))).snd.snd)) (unDown (ratF (nearAll px py (unSegs (segsF l))).snd.fst (nearAll px py (unSegs (segsF l))).snd.snd))) (unDown (ratF (nearAll px py (unSegs (segsF l))).snd.fst (nearAll px py (unSegs (segsF l))).snd.snd) / gcdI (unUp (ratF (nearAll px py (unSegs (segsF l))).snd.fst (nearAll px py (unSegs (segsF l))).snd.snd)) (unDown (ratF (nearAll px py (unSegs (segsF l))).snd.fst (nearAll px py (unSegs (segsF l))).snd.snd))) then wd2 (unDown (ratF (nearAll px py (unSegs (segsF l))).snd.fst (nearAll px py (unSegs (segsF l))).snd.snd) / gcdI (unUp (ratF (nearAll px py (unSegs (segsF l))).snd.fst (nearAll px py (unSegs (segsF l))).snd.snd)) (unDown (ratF (nearAll px py (unSegs (segsF l))).snd.fst (nearAll px py (unSegs (segsF l))).snd.snd))) else 0), F.int IntKind.u64 (bif okT (unUp (ratF (nearAll px py (unSegs (segsF l))).snd.fst (nearAll px py (unSegs (segsF l))).snd.snd) / gcdI (unUp (ratF (nearAll px py (unSegs (segsF l))).snd.fst (nearAll px py (unSegs (segsF l))).snd.snd)) (unDown (ratF (nearAll px py (unSegs (segsF l))).snd.fst (nearAll px py (unSegs (segsF l))).snd.snd))) (unDown (ratF (nearAll px py (unSegs (segsF l))).snd.fst (nearAll px py (unSegs (segsF l))).snd.snd) / gcdI (unUp (ratF (nearAll px py (unSegs (segsF l))).snd.fst (nearAll px py (unSegs (segsF l))).snd.snd)) (unDown (ratF (nearAll px py (unSegs (segsF l))).snd.fst (nearAll px py (unSegs (segsF l))).snd.snd))) then wd1 (unDown (ratF (nearAll px py (unSegs (segsF l))).snd.fst (nearAll px py (unSegs (segsF l))).snd.snd) / gcdI (unUp (ratF (nearAll px py (unSegs (segsF l))).snd.fst (nearAll px py (unSegs (segsF l))).snd.snd)) (unDown (ratF (nearAll px py (unSegs (segsF l))).snd.fst (nearAll px py (unSegs (segsF l))).snd.snd))) else 0), F.int IntKind.u64 (bif okT (unUp (ratF (nearAll px py (unSegs (segsF l))).snd.fst (nearAll px py (unSegs (segsF l))).snd.snd) / gcdI (unUp (ratF (nearAll px py (unSegs (segsF l))).snd.fst (nearAll px py (unSegs (segsF l))).snd.snd)) (unDown (ratF (nearAll px py (unSegs (segsF l))).snd.fst (nearAll px py (unSegs (segsF l))).snd.snd))) (unDown (ratF (nearAll px py (unSegs (segsF l))).snd.fst (nearAll px py (unSegs (segsF l))).snd.snd) / gcdI (unUp (ratF (nearAll px py (unSegs (segsF l))).snd.fst (nearAll px py (unSegs (segsF l))).snd.snd)) (unDown (ratF (nearAll px py (unSegs (segsF l))).snd.fst (nearAll px py (unSegs (segsF l))).snd.snd))) then wd0 (unDown (ratF (nearAll px py (unSegs (segsF l))).snd.fst (nearAll px py (unSegs (segsF l))).snd.snd) / gcdI (unUp (ratF (nearAll px py (unSegs (segsF l))).snd.fst (nearAll px py (unSegs (segsF l))).snd.snd)) (unDown (ratF (nearAll px py (unSegs (segsF l))).snd.fst (nearAll px py (unSegs (segsF l))).snd.snd))) else 0)], F.bool (okT (unUp (ratF (nearAll px py (unSegs (segsF l))).snd.fst (nearAll px py (unSegs (segsF l))).snd.snd) / gcdI (unUp (ratF (nearAll px py (unSegs (segsF l))).snd.fst (nearAll px py (unSegs (segsF l))).snd.snd)) (unDown (ratF (nearAll px py (unSegs (segsF l))).snd.fst (nearAll px py (unSegs (segsF l))).snd.snd))) (unDown (ratF (nearAll px py (unSegs (segsF l))).snd.fst (nearAll px py (unSegs (segsF l))).snd.snd) / gcdI (unUp (ratF (nearAll px py (unSegs (segsF l))).snd.fst (nearAll px py (unSegs (segsF l))).snd.snd)) (unDown (ratF (nearAll px py (unSegs (segsF l))).snd.fst (nearAll px py (unSegs (segsF l))).snd.snd))))]))
        none)
       none))
     (ret (F.tup [F.int IntKind.i64 0, F.agg [F.int IntKind.u64 0, F.int IntKind.u64 0, F.int IntKind.u64 0, F.int IntKind.u64 0, F.int IntKind.u64 0, F.int IntKind.u64 0, F.int IntKind.u64 0, F.int IntKind.u64 0], F.bool false])))
    (ret (F.tup [F.int IntKind.i64 0, F.agg [F.int IntKind.u64 0, F.int IntKind.u64 0, F.int IntKind.u64 0, F.int IntKind.u64 0, F.int IntKind.u64 0, F.int IntKind.u64 0, F.int IntKind.u64 0, F.int IntKind.u64 0], F.bool false])))
   none)
def G11 (l : List Sg) (px : Int) (py : Int) : Option (F) := T11 some l px py
theorem t11 (l : List Sg) (px : Int) (py : Int) (r : F) (h : G11 l px py = some r) : Ends Try.prog Try.f11.results.toList [.code (bodyOf Try.f11)] (start Try.f11.ntmps ([segsF l, F.agg [F.int .i64 px, F.int .i64 py]].map .f)) (r) := by
  refine Ends.of_run tyOK envN19_ok (T := []) (n := 200) ?_
  have e : run Try.prog (tiOf Try.prog) envN19 [] 0 Try.f11.results.toList some 200 [.code (bodyOf Try.f11)] (start Try.f11.ntmps ([segsF l, F.agg [F.int .i64 px, F.int .i64 py]].map .f)) = T11 (fun r => some (.ret (r))) l px py := by kernel_rfl
  rw [e]
  exact (good_sel h (fun _ h => (good_sel h (fun _ h => (good_sel h (fun _ h => (good_sel h (fun _ h => good_ret (by cases h; rfl)) (fun _ h => (good_sel h (fun _ h => (good_sel h (fun _ h => good_ret (by cases h; rfl)) (fun _ h => nomatch h))) (fun _ h => nomatch h))))) (fun _ h => good_ret (by cases h; rfl)))) (fun _ h => good_ret (by cases h; rfl)))) (fun _ h => nomatch h))
theorem ns_law (l : List Sg) (px py : Int) : G11 l px py = some (.tup [.int .i64 (nsI l px py), toldF (nsU l px py) (nsD l px py), .bool (okT (nsU l px py) (nsD l px py))]) := by
  unfold G11 T11
  simp only [isSegs_segsF, unSegs_segsF, unUp_ratF, unDown_ratF, bsel_true, Bool.true_and]
  have no : isNearest l px py = false → some (F.tup [F.int IntKind.i64 0, F.agg [F.int IntKind.u64 0, F.int IntKind.u64 0, F.int IntKind.u64 0, F.int IntKind.u64 0, F.int IntKind.u64 0, F.int IntKind.u64 0, F.int IntKind.u64 0, F.int IntKind.u64 0], F.bool false]) = some (.tup [.int .i64 (nsI l px py), toldF (nsU l px py) (nsD l px py), .bool (okT (nsU l px py) (nsD l px py))]) := by
    intro h
    simp only [nsI, nsU, nsD, h, cond_false]
    rw [toldF_none okT_none, okT_none]
  cases h1 : segsOkV l with
  | false => exact no (by simp [isNearest, h1])
  | true =>
    cases h2 : spotOkV px py with
    | false => exact no (by simp [isNearest, h1, h2])
    | true =>
      by_cases h3 : l = []
      · subst h3; exact no (by simp [isNearest, h1, h2])
      · have hl : l.length ≠ 0 := fun e => h3 (List.eq_nil_of_length_eq_zero e)
        have hb : Nat.beq l.length 0 = false := by
          cases hb : Nat.beq l.length 0 with
          | false => rfl
          | true => exact absurd (Nat.eq_of_beq_eq_true hb) hl
        have hn : isNearest l px py = true := by simp [isNearest, h1, h2, hb]
        obtain ⟨k1, k2, k3, k4⟩ := isNearest_iff hn
        have ho := nearAll_ok k4 k1 k3
        have e1 := isRat_near ho.up ho.down
        have e2 : isLow (nearAll px py l).2.1 (nearAll px py l).2.2 = true := isLow_iff.2 (by have := ho.down; omega)
        simp only [nsI, nsU, nsD, hn, cond_true, e1, e2, Bool.and_self, bsel_true]
        rw [show ((l.length : Int) == 0) = false by simp only [beq_eq_false_iff_ne, ne_eq]; omega]
        rfl
def preNS : List F → Bool | [x, .agg [.int .i64 _, .int .i64 _]] => isSegs x | _ => false
def resNS : List F → F | [x, .agg [.int .i64 a, .int .i64 b]] => .tup [.int .i64 (nsI (unSegs x) a b), toldF (nsU (unSegs x) a b) (nsD (unSegs x) a b), .bool (okT (nsU (unSegs x) a b) (nsD (unSegs x) a b))] | _ => .dflt
theorem okNSI : PureOK Try.prog 11 preNS resNS :=
  fn_pure_at (c := bodyOf Try.f11) Try.func11 (by kernel_rfl) (by kernel_rfl) fun xs hp => match xs, hp with
  | [x, .agg [.int .i64 a, .int .i64 b]], hp => ⟨[segsF (unSegs x), _], _, ⟨(segs_eqv hp).1, .refl _, trivial⟩, t11 _ _ _ _ (ns_law _ _ _), .refl _⟩
def envN20 : Env := envN19.add 11 (.pure preNS resNS)
theorem envN20_ok : EnvOK Try.prog envN20 := Env.add_ok envN19_ok okNSI.sp
end
end Go.Proofs.Ytmambbfnjbdfgaa.R

namespace Go.Proofs.Ytmambbfnjbdfgaa.R
open Go
noncomputable section
set_option linter.unusedVariables false
set_option linter.unusedSimpArgs false
set_option maxRecDepth 100000
/-! ### function 8 -/
def S8_6 (l : List Sg) (px : Int) (py : Int) (b : Int) (u : Int) (d : Int) (i : Int) : St := ⟨[(U.f (segsF l)), .bad, .bad, (U.hp 0 0), .bad, (U.hp 1 0), .bad, (U.f (F.int .i64 b)), (U.hp 2 0), (U.f (F.int .i64 i)), .bad, .bad, .bad, .bad, .bad, .bad, .bad, .bad, .bad, .bad, .bad, .bad, .bad, .bad, .bad, .bad, .bad, .bad, .bad, .bad, .bad, .bad, .bad, .bad, .bad, .bad, .bad, .bad, .bad, .bad, .bad, .bad, .bad, .bad, .bad, .bad, .bad, .bad, .bad, .bad, .bad, .bad, .bad, .bad, .bad, .bad, .bad], [HO.box [(U.f (F.int .i64 px)), (U.f (F.int .i64 py))], HO.box [(U.f (F.int .u64 0)), (U.f (F.int .u64 0)), (U.f (F.int .u64 0)), (U.f (F.int .u64 0)), (U.f (F.int .u64 0)), (U.f (F.int .u64 0)), (U.f (F.int .u64 0)), (U.f (F.int .u64 0))], HO.box [(U.f (F.bool (decide (u < 0)))), (U.f (halvesF (digs 4294967296 u.natAbs))), (U.f (F.bool (decide (d < 0)))), (U.f (halvesF (digs 4294967296 d.natAbs)))]]⟩
def T8_6 {ρ : Type} (ret : (F) → Option ρ) (c6 : (List Sg) → (Int) → (Int) → (Int) → (Int) → (Int) → (Int) → Option ρ) (l : List Sg) (px : Int) (py : Int) (b : Int) (u : Int) (d : Int) (i : Int) : Option ρ :=
  (bsel (decide (i < (↑l.length : Int)))
   (bsel (decide (0 ≤ i))
    (bsel (decide (i < (↑l.length : Int)))
     (bsel (isNearArg (l.getD i.toNat Sg.zero).x0 (l.getD i.toNat Sg.zero).y0 (l.getD i.toNat Sg.zero).x1 (l.getD i.toNat Sg.zero).y1 px py)
      (bsel (isL2r 390 (l2rF (lowU (nearU (l.getD i.toNat Sg.zero).x0 (l.getD i.toNat Sg.zero).y0 (l.getD i.toNat Sg.zero).x1 (l.getD i.toNat Sg.zero).y1 px py) (nearD (l.getD i.toNat Sg.zero).x0 (l.getD i.toNat Sg.zero).y0 (l.getD i.toNat Sg.zero).x1 (l.getD i.toNat Sg.zero).y1 px py)) (lowD (nearU (l.getD i.toNat Sg.zero).x0 (l.getD i.toNat Sg.zero).y0 (l.getD i.toNat Sg.zero).x1 (l.getD i.toNat Sg.zero).y1 px py) (nearD (l.getD i.toNat Sg.zero).x0 (l.getD i.toNat Sg.zero).y0 (l.getD i.toNat Sg.zero).x1 (l.getD i.toNat Sg.zero).y1 px py))) && isL2r 390 (l2rF u d))
       (bsel (decide ((unUp3 (l2rF (lowU (nearU (l.getD i.toNat Sg.zero).x0 (l.getD i.toNat Sg.zero).y0 (l.getD i.toNat Sg.zero).x1 (l.getD i.toNat Sg.zero).y1 px py) (nearD (l.getD i.toNat Sg.zero).x0 (l.getD i.toNat Sg.zero).y0 (l.getD i.toNat Sg.zero).x1 (l.getD i.toNat Sg.zero).y1 px py)) (lowD (nearU (l.getD i.toNat Sg.zero).x0 (l.getD i.toNat Sg.zero).y0 (l.getD i.toNat Sg.zero).x1 (l.getD i.toNat Sg.zero).y1 px py) (nearD (l.getD i.toNat Sg.zero).x0 (l.getD i.toNat Sg.zero).y0 (l.getD i.toNat Sg.zero).x1 (l.getD i.toNat Sg.zero).y1 px py))) * unDown3 (l2rF u d) - unUp3 (l2rF u d) * unDown3 (l2rF (lowU (nearU (l.getD i.toNat Sg.zero).x0 (l.getD i.toNat Sg.zero).y0 (l.getD i.toNat Sg.zero).x1 (l.getD i.toNat Sg.zero).y1 px py) (nearD (l.getD i.toNat Sg.zero).x0 (l.getD i.toNat Sg.zero).y0 (l.getD i.toNat Sg.zero).x1 (l.getD i.toNat Sg.zero).y1 px py)) (lowD (nearU (l.getD i.toNat Sg.zero).x0 (l.getD i.toNat Sg.zero).y0 (l.getD i.toNat Sg.zero).x1 (l.getD i.toNat Sg.zero).y1 px py) (nearD (l.getD i.toNat Sg.zero).x0 (l.getD i.toNat Sg.zero).y0 (l.getD i.toNat Sg.zero).x1 (l.getD i.toNat Sg.zero).y1 px py)))).sign < 0))
        (c6 (l) (px) (py) (i) (lowU (nearU (l.getD i.toNat Sg.zero).x0 (l.getD i.toNat Sg.zero).y0 (l.getD i.toNat Sg.zero).x1 (l.getD i.toNat Sg.zero).y1 px py) (nearD (l.getD i.toNat Sg.zero).x0 (l.getD i.toNat Sg.zero).y0 (l.getD i.toNat Sg.zero).x1 (l.getD i.toNat Sg.zero).y1 px py)) (lowD (nearU (l.getD i.toNat Sg.zero).x0 (l.getD i.toNat Sg.zero).y0 (l.getD i.toNat Sg.zero).x1 (l.getD i.toNat Sg.zero).y1 px py) (nearD (l.getD i.toNat Sg.zero).x0 (l.getD i.toNat Sg.zero).y0 (l.getD i.toNat Sg.zero).x1 (l.getD i.toNat Sg.zero).y1 px py)) (IntKind.i64.wrap (i + 1)))
        (c6 (l) (px) (py) (b) (u) (d) (IntKind.i64.wrap (i + 1))))
       none)
      none)
     none)
    none)
   (bsel (isL2r 800 (l2rF u d))
    (ret (F.tup [F.int IntKind.i64 b, F.agg [F.int IntKind.u64 (bif okT (unUp3 (l2rF u d)) (unDown3 (l2rF u d)) then wd3 (unUp3 (l2rF u d)) else 0), F.int IntKind.u64 (bif okT (unUp3 (l2rF u d)) (unDown3 (l2rF u d)) then wd2 (unUp3 (l2rF u d)) else 0), F.int IntKind.u64 (bif okT (unUp3 (l2rF u d)) (unDown3 (l2rF u d)) then wd1 (unUp3 (l2rF u d)) else 0), F.int IntKind.u64 (bif okT (unUp3 (l2rF u d)) (unDown3 (l2rF u d)) then wd0 (unUp3 (l2rF u d)) else 0), F.int IntKind.u64 (bif okT (unUp3 (l2rF u d)) (unDown3 (l2rF u d)) then wd3 (unDown3 (l2rF u d)) else 0), F.int IntKind.u64 (bif okT (unUp3 (l2rF u d)) (unDown3 (l2rF u d)) then wd2 (unDown3 (l2rF u d)) else 0), F.int IntKind.u64 (bif okT (unUp3 (l2rF u d)) (unDown3 (l2rF u d)) then wd1 (unDown3 (l2rF u d)) else 0), F.int IntKind.u64 (bif okT (unUp3 (l2rF u d)) (unDown3 (l2rF u d)) then wd0 (unDown3 (l2rF u d)) else 0)], F.bool true]))
    none))
def L8_6 : Nat → (List Sg) → (Int) → (Int) → (Int) → (Int) → (Int) → (Int) → Option (F)
  | 0, _, _, _, _, _, _, _ => none
  | k + 1, l, px, py, b, u, d, i => T8_6 some (L8_6 k) l px py b u d i
def T8 {ρ : Type} (ret : (F) → Option ρ) (c6 : (List Sg) → (Int) → (Int) → (Int) → (Int) → (Int) → (Int) → Option ρ) (l : List Sg) (px : Int) (py : Int) : Option ρ :=
  (bsel (isSegs (segsF l))
   (bsel ((!segsOkV (unSegs (segsF l))) == false)
    (bsel ((!spotOkV px py) == false)
     (bsel ((↑l.length : Int) == 0)
      (ret (F.tup [F.int IntKind.i64 0, F.agg [F.int IntKind.u64 0, F.int IntKind.u64 0, F.int IntKind.u64 0, F.int IntKind.u64 0, F.int IntKind.u64 0, F.int IntKind.u64 0, F.int IntKind.u64 0, F.int IntKind.u64 0], F.bool false]))
      (bsel (decide (0 < (↑l.length : Int)))
       (bsel (isNearArg (l.getD (Int.toNat 0) Sg.zero).x0 (l.getD (Int.toNat 0) Sg.zero).y0 (l.getD (Int.toNat 0) Sg.zero).x1 (l.getD (Int.toNat 0) Sg.zero).y1 px py)
        (c6 (l) (px) (py) (0) (lowU (nearU (l.getD (Int.toNat 0) Sg.zero).x0 (l.getD (Int.toNat 0) Sg.zero).y0 (l.getD (Int.toNat 0) Sg.zero).x1 (l.getD (Int.toNat 0) Sg.zero).y1 px py) (nearD (l.getD (Int.toNat 0) Sg.zero).x0 (l.getD (Int.toNat 0) Sg.zero).y0 (l.getD (Int.toNat 0) Sg.zero).x1 (l.getD (Int.toNat 0) Sg.zero).y1 px py)) (lowD (nearU (l.getD (Int.toNat 0) Sg.zero).x0 (l.getD (Int.toNat 0) Sg.zero).y0 (l.getD (Int.toNat 0) Sg.zero).x1 (l.getD (Int.toNat 0) Sg.zero).y1 px py) (nearD (l.getD (Int.toNat 0) Sg.zero).x0 (l.getD (Int.toNat 0) Sg.zero).y0 (l.getD (Int.toNat 0) Sg.zero).x1 (l.getD (Int.toNat 0) Sg.zero).y1 px py)) (1))
        none)
       none))
     (ret (F.tup [F.int IntKind.i64 0, F.agg [F.int IntKind.u64 0, F.int IntKind.u64 0, F.int IntKind.u64 0, F.int IntKind.u64 0, F.int IntKind.u64 0, F.int IntKind.u64 0, F.int IntKind.u64 0, F.int IntKind.u64 0], F.bool false])))
    (ret (F.tup [F.int IntKind.i64 0, F.agg [F.int IntKind.u64 0, F.int IntKind.u64 0, F.int IntKind.u64 0, F.int IntKind.u64 0, F.int IntKind.u64 0, F.int IntKind.u64 0, F.int IntKind.u64 0, F.int IntKind.u64 0], F.bool false])))
   none)
def G8 (k : Nat) (l : List Sg) (px : Int) (py : Int) : Option (F) := T8 some (L8_6 k) l px py
theorem t8_6 : ∀ (k : Nat) (l : List Sg) (px : Int) (py : Int) (b : Int) (u : Int) (d : Int) (i : Int) (r : F), L8_6 k l px py b u d i = some r → Ends Try.prog Try.f8.results.toList (at_ Try.f8 6) (S8_6 l px py b u d i) (r)
  | 0, _, _, _, _, _, _, _, _, h => nomatch h
  | k + 1, l, px, py, b, u, d, i, r, h => by
    refine Ends.of_cut tyOK envS8_ok (T := [(6, [0, 3, 5, 7, 8, 9], 1000)]) (n := 200) ?_
    have e : runCut Try.prog (tiOf Try.prog) envS8 [(6, [0, 3, 5, 7, 8, 9], 1000)] 0 Try.f8.results.toList some 200 (at_ Try.f8 6) (S8_6 l px py b u d i) = T8_6 (fun r => some (.ret (r))) (fun l px py b u d i => some (.cut (at_ Try.f8 6) (S8_6 l px py b u d i))) l px py b u d i := by kernel_rfl
    rw [e]
    exact (good_sel h (fun _ h => (good_sel h (fun _ h => (good_sel h (fun _ h => (good_sel h (fun _ h => (good_sel h (fun _ h => (good_sel h (fun _ h => good_cut (t8_6 k _ _ _ _ _ _ _ r h)) (fun _ h => good_cut (t8_6 k _ _ _ _ _ _ _ r h)))) (fun _ h => nomatch h))) (fun _ h => nomatch h))) (fun _ h => nomatch h))) (fun _ h => nomatch h))) (fun _ h => (good_sel h (fun _ h => good_ret (by cases h; rfl)) (fun _ h => nomatch h))))
theorem t8 (k : Nat) (l : List Sg) (px : Int) (py : Int) (r : F) (h : G8 k l px py = some r) : Ends Try.prog Try.f8.results.toList [.code (bodyOf Try.f8)] (start Try.f8.ntmps ([segsF l, F.agg [F.int .i64 px, F.int .i64 py]].map .f)) (r) := by
  refine Ends.of_run tyOK envS8_ok (T := [(6, [0, 3, 5, 7, 8, 9], 1000)]) (n := 200) ?_
  have e : run Try.prog (tiOf Try.prog) envS8 [(6, [0, 3, 5, 7, 8, 9], 1000)] 0 Try.f8.results.toList some 200 [.code (bodyOf Try.f8)] (start Try.f8.ntmps ([segsF l, F.agg [F.int .i64 px, F.int .i64 py]].map .f)) = T8 (fun r => some (.ret (r))) (fun l px py b u d i => some (.cut (at_ Try.f8 6) (S8_6 l px py b u d i))) l px py := by kernel_rfl
  rw [e]
  exact (good_sel h (fun _ h => (good_sel h (fun _ h => (good_sel h (fun _ h => (good_sel h (fun _ h => good_ret (by cases h; rfl)) (fun _ h => (good_sel h (fun _ h => (good_sel h (fun _ h => good_cut (t8_6 k _ _ _ _ _ _ _ r h)) (fun _ h => nomatch h))) (fun _ h => nomatch h))))) (fun _ h => good_ret (by cases h; rfl)))) (fun _ h => good_ret (by cases h; rfl)))) (fun _ h => nomatch h))
theorem low_mul {u d : Int} : lowU u d * gcdI u d = u ∧ lowD u d * gcdI u d = d := by
  have h1 : gcdI u d ∣ u := Int.gcd_dvd_left ..
  have h2 : gcdI u d ∣ d := Int.gcd_dvd_right ..
  exact ⟨Int.ediv_mul_cancel h1, Int.ediv_mul_cancel h2⟩
theorem low_bounds {u d : Int} (hu : 0 ≤ u) (hd : 0 < d) : 0 ≤ lowU u d ∧ lowU u d ≤ u ∧ 0 < lowD u d ∧ lowD u d ≤ d := by
  obtain ⟨g1, g2⟩ := gcdI_pos (u := u) hd
  obtain ⟨m1, m2⟩ := low_mul (u := u) (d := d)
  have a1 : 0 ≤ lowU u d := Int.ediv_nonneg hu (by omega)
  have a2 : 0 ≤ lowD u d := Int.ediv_nonneg (by omega) (by omega)
  have a3 : lowU u d ≤ u := Int.ediv_le_self _ hu
  have a4 : lowD u d ≤ d := Int.ediv_le_self _ (by omega)
  refine ⟨a1, a3, ?_, a4⟩
  rcases Int.lt_or_eq_of_le a2 with h | h
  · exact h
  · rw [← h, Int.zero_mul] at m2
    omega
theorem low_key {u d v e a b c f g h : Int} (m1 : a * g = u) (m2 : b * g = d) (m3 : c * h = v) (m4 : f * h = e) : u * e - v * d = (g * h) * (a * f - c * b) := by
  subst m1 m2 m3 m4
  grind
theorem low_cmp {u d v e : Int} (hd : 0 < d) (he : 0 < e) : lowU u d * lowD v e - lowU v e * lowD u d < 0 ↔ u * e - v * d < 0 := by
  obtain ⟨g1, _⟩ := gcdI_pos (u := u) hd
  obtain ⟨g2, _⟩ := gcdI_pos (u := v) he
  obtain ⟨m1, m2⟩ := low_mul (u := u) (d := d)
  obtain ⟨m3, m4⟩ := low_mul (u := v) (d := e)
  have hG := Int.mul_pos g1 g2
  have key := low_key m1 m2 m3 m4
  rw [key]
  generalize lowU u d * lowD v e - lowU v e * lowD u d = t at *
  constructor
  · intro h
    exact Int.mul_neg_of_pos_of_neg hG h
  · intro h
    rcases Int.lt_or_le t 0 with h1 | h1
    · exact h1
    · have := Int.mul_nonneg (Int.le_of_lt hG) h1
      omega
theorem low_ok {s : Int × Int × Int} (h : NearOk s) : isL2r 390 (l2rF (lowU s.2.1 s.2.2) (lowD s.2.1 s.2.2)) = true := by
  obtain ⟨h1, h2, h3, h4⟩ := low_bounds h.up0 h.down.1
  have hu := h.up
  have hd := h.down
  refine isL2r_l2rF (boundC_up (n := 4) ?_ (by omega)) (boundC_up (n := 4) ?_ (by omega))
  · show _ < 4294967296 ^ 4
    have : (4294967296 : Nat) ^ 4 = 18446744073709551616 ^ 2 := by decide
    rw [this]
    omega
  · show _ < 4294967296 ^ 4
    omega
theorem low_okT {s : Int × Int × Int} (h : NearOk s) : okT (lowU s.2.1 s.2.2) (lowD s.2.1 s.2.2) = true := by
  obtain ⟨h1, h2, h3, h4⟩ := low_bounds h.up0 h.down.1
  have hu := h.up
  have hd := h.down
  unfold okT
  rw [Bool.and_eq_true]
  exact ⟨isWide_iff.2 (by omega), isWide_iff.2 (by omega)⟩
theorem near3_loop {l : List Sg} {px py : Int} (hl : l.length ≤ 1000) (hin : ∀ s ∈ l, sgIn s) (hp : spotIn px py) : ∀ (rest : List Sg) (i k : Nat) (s : Int × Int × Int), l.drop i = rest → i + rest.length = l.length → NearOk s → rest.length < k →
    L8_6 k l px py s.1 (lowU s.2.1 s.2.2) (lowD s.2.1 s.2.2) i =
      some (.tup [.int .i64 (nearGo px py rest i s).1, toldF (lowU (nearGo px py rest i s).2.1 (nearGo px py rest i s).2.2) (lowD (nearGo px py rest i s).2.1 (nearGo px py rest i s).2.2), .bool true])
  | _, _, 0, _, _, _, _, h => by omega
  | [], i, k + 1, (b, u, d), hr, hi, hs, hk => by
    simp only [List.length_nil, Nat.add_zero] at hi
    subst hi
    have h8 : isL2r 800 (l2rF (lowU u d) (lowD u d)) = true := by
      obtain ⟨h1, h2⟩ := l2r_bound (low_ok hs)
      rw [unUp3_l2rF, unDown3_l2rF] at *
      exact isL2r_l2rF (boundC_up h1 (by omega)) (boundC_up h2 (by omega))
    rw [L8_6]
    unfold T8_6
    rw [decide_eq_false (by omega), bsel_false, h8, bsel_true, unUp3_l2rF, unDown3_l2rF]
    rfl
  | g :: rest, i, k + 1, (b, u, d), hr, hi, hs, hk => by
    obtain ⟨hx, hr', hlt⟩ := drop_consS hr
    have hg : sgIn g := hin g (by rw [← hx]; simp [List.getD, List.getElem?_eq_getElem hlt])
    have hn := nearOk_of hg hp (show (0 : Int) ≤ (i : Int) by omega)
    have hk' : rest.length < k := by simp at hk; omega
    have hi' : i + 1 + rest.length = l.length := by simp only [List.length_cons] at hi; omega
    have o1 := low_ok hn
    have o2 := low_ok hs
    simp only at o1 o2
    rw [L8_6]
    unfold T8_6
    rw [Int.toNat_natCast, hx]
    rw [show nearU g.x0 g.y0 g.x1 g.y1 px py = nU px py g from rfl, show nearD g.x0 g.y0 g.x1 g.y1 px py = nD px py g from rfl]
    rw [isNearArg_iff.2 ⟨hg.1, hg.2, hp⟩, o1, o2, unUp3_l2rF, unUp3_l2rF, unDown3_l2rF, unDown3_l2rF]
    rw [decide_eq_true (show (i : Int) < l.length by omega), decide_eq_true (show (0 : Int) ≤ i by omega), Bool.and_self, wrapI (by omega) (by omega), show (i : Int) + 1 = ((i + 1 : Nat) : Int) by omega]
    simp only [bsel_true, nearGo]
    have hcmp := low_cmp (u := nU px py g) (d := nD px py g) (v := u) (e := d) hn.down.1 hs.down.1
    by_cases hc : nU px py g * d - u * nD px py g < 0
    · rw [decide_eq_true (show (lowU (nU px py g) (nD px py g) * lowD u d - lowU u d * lowD (nU px py g) (nD px py g)).sign < 0 from Int.sign_neg_iff.2 (hcmp.2 hc)), bsel_true, if_pos hc]
      exact near3_loop hl hin hp rest (i + 1) k (i, nU px py g, nD px py g) hr' hi' hn hk'
    · rw [decide_eq_false (show ¬ (lowU (nU px py g) (nD px py g) * lowD u d - lowU u d * lowD (nU px py g) (nD px py g)).sign < 0 from fun h => hc (hcmp.1 (Int.sign_neg_iff.1 h))), bsel_false, if_neg hc]
      exact near3_loop hl hin hp rest (i + 1) k (b, u, d) hr' hi' hs hk'
theorem ns_ok (l : List Sg) (px py : Int) : okT (nsU l px py) (nsD l px py) = isNearest l px py := by
  cases h : isNearest l px py with
  | false =>
    simp only [nsU, nsD, h, cond_false]
    exact okT_none
  | true =>
    obtain ⟨k1, k2, k3, k4⟩ := isNearest_iff h
    have ho := nearAll_ok k4 k1 k3
    simp only [nsU, nsD, h, cond_true]
    exact low_okT ho
theorem ns3_law (l : List Sg) (px py : Int) : G8 2000 l px py = some (.tup [.int .i64 (nsI l px py), toldF (nsU l px py) (nsD l px py), .bool (okT (nsU l px py) (nsD l px py))]) := by
  unfold G8 T8
  simp only [isSegs_segsF, unSegs_segsF, bsel_true]
  have no : isNearest l px py = false → some (F.tup [F.int IntKind.i64 0, F.agg [F.int IntKind.u64 0, F.int IntKind.u64 0, F.int IntKind.u64 0, F.int IntKind.u64 0, F.int IntKind.u64 0, F.int IntKind.u64 0, F.int IntKind.u64 0, F.int IntKind.u64 0], F.bool false]) = some (.tup [.int .i64 (nsI l px py), toldF (nsU l px py) (nsD l px py), .bool (okT (nsU l px py) (nsD l px py))]) := by
    intro h
    simp only [nsI, nsU, nsD, h, cond_false]
    rw [toldF_none okT_none, okT_none]
  cases h1 : segsOkV l with
  | false => exact no (by simp [isNearest, h1])
  | true =>
    cases h2 : spotOkV px py with
    | false => exact no (by simp [isNearest, h1, h2])
    | true =>
      cases l with
      | nil => exact no (by simp [isNearest, h1, h2])
      | cons g rest =>
        have hn : isNearest (g :: rest) px py = true := by
          simp only [isNearest, h1, h2, Bool.true_and, Bool.not_eq_true']
          rfl
        obtain ⟨k1, k2, k3, k4⟩ := isNearest_iff hn
        have hg := k3 g (by simp)
        have hok := nearOk_of (px := px) (py := py) hg k4 (show (0 : Int) ≤ 0 by omega)
        have hloop := near3_loop (l := g :: rest) (by omega) k3 k4 rest 1 2000 (0, nU px py g, nD px py g) rfl (by simp; omega) hok (by simp at k2; omega)
        rw [ns_ok, hn]
        simp only [nsI, nsU, nsD, hn, cond_true]
        rw [show (((g :: rest).length : Int) == 0) = false by simp only [beq_eq_false_iff_ne, ne_eq, List.length_cons]; omega, decide_eq_true (show (0 : Int) < ((g :: rest).length : Int) by simp), show Int.toNat 0 = 0 from rfl, List.getD_cons_zero, isNearArg_iff.2 ⟨hg.1, hg.2, k4⟩]
        exact hloop
theorem okNSS : PureOK Try.prog 8 preNS resNS :=
  fn_pure_at (c := bodyOf Try.f8) Try.func8 (by kernel_rfl) (by kernel_rfl) fun xs hp => match xs, hp with
  | [x, .agg [.int .i64 a, .int .i64 b]], hp => ⟨[segsF (unSegs x), _], _, ⟨(segs_eqv hp).1, .refl _, trivial⟩, t8 2000 _ _ _ _ (ns3_law _ _ _), .refl _⟩
def envS9 : Env := ((envS8.or envN20).add 8 (.pure preNS resNS)).add 11 (.pure preNS resNS)
theorem envS9_ok : EnvOK Try.prog envS9 := Env.add_ok (Env.add_ok (Env.or_ok envS8_ok envN20_ok) okNSS.sp) okNSI.sp
end
end Go.Proofs.Ytmambbfnjbdfgaa.R

namespace Go.Proofs.Ytmambbfnjbdfgaa.R
open Go
noncomputable section
set_option linter.unusedVariables false
set_option linter.unusedSimpArgs false
set_option maxRecDepth 100000
/-! ### function 59 -/
def T59 {ρ : Type} (ret : (Bool) → Option ρ) (a : Int) (b : Int) (c : Int) (d : Int) : Option ρ :=
  (bsel (a != c)
   (ret (false))
   (bsel (b != d)
    (ret (false))
    (ret (true))))
def G59 (a : Int) (b : Int) (c : Int) (d : Int) : Option (Bool) := T59 some a b c d
theorem t59 (a : Int) (b : Int) (c : Int) (d : Int) (r : Bool) (h : G59 a b c d = some r) : Ends Try.prog Try.f59.results.toList [.code (bodyOf Try.f59)] (start Try.f59.ntmps ([F.agg [F.int .i64 a, F.int .i64 b], F.agg [F.int .i64 c, F.int .i64 d]].map .f)) (F.bool r) := by
  refine Ends.of_run tyOK envS9_ok (T := []) (n := 200) ?_
  have e : run Try.prog (tiOf Try.prog) envS9 [] 0 Try.f59.results.toList some 200 [.code (bodyOf Try.f59)] (start Try.f59.ntmps ([F.agg [F.int .i64 a, F.int .i64 b], F.agg [F.int .i64 c, F.int .i64 d]].map .f)) = T59 (fun r => some (.ret (F.bool r))) a b c d := by kernel_rfl
  rw [e]
  exact (good_sel h (fun _ h => good_ret (by cases h; rfl)) (fun _ h => (good_sel h (fun _ h => good_ret (by cases h; rfl)) (fun _ h => good_ret (by cases h; rfl)))))
/-! ### function 10 -/
def T10 {ρ : Type} (ret : (F) → Option ρ) (a : Int) (b : Int) : Option ρ :=
  (ret (F.agg [F.int IntKind.i64 a, F.int IntKind.i64 b]))
def G10 (a : Int) (b : Int) : Option (F) := T10 some a b
theorem t10 (a : Int) (b : Int) (r : F) (h : G10 a b = some r) : Ends Try.prog Try.f10.results.toList [.code (bodyOf Try.f10)] (start Try.f10.ntmps ([F.agg [F.int .i64 a, F.int .i64 b]].map .f)) (r) := by
  refine Ends.of_run tyOK envS9_ok (T := []) (n := 200) ?_
  have e : run Try.prog (tiOf Try.prog) envS9 [] 0 Try.f10.results.toList some 200 [.code (bodyOf Try.f10)] (start Try.f10.ntmps ([F.agg [F.int .i64 a, F.int .i64 b]].map .f)) = T10 (fun r => some (.ret (r))) a b := by kernel_rfl
  rw [e]
  exact good_ret (by cases h; rfl)
/-! ### function 38 -/
def T38 {ρ : Type} (ret : (Bool) → Option ρ) (a : Int) (b : Int) (c : Int) (d : Int) (u : Int) (v : Int) (w : Int) (x : Int) : Option ρ :=
  (bsel (a != u)
   (ret (false))
   (bsel (b != v)
    (ret (false))
    (bsel (c != w)
     (ret (false))
     (bsel (d != x)
      (ret (false))
      (ret (true))))))
def G38 (a : Int) (b : Int) (c : Int) (d : Int) (u : Int) (v : Int) (w : Int) (x : Int) : Option (Bool) := T38 some a b c d u v w x
theorem t38 (a : Int) (b : Int) (c : Int) (d : Int) (u : Int) (v : Int) (w : Int) (x : Int) (r : Bool) (h : G38 a b c d u v w x = some r) : Ends Try.prog Try.f38.results.toList [.code (bodyOf Try.f38)] (start Try.f38.ntmps ([F.agg [F.int .u64 a, F.int .u64 b, F.int .u64 c, F.int .u64 d], F.agg [F.int .u64 u, F.int .u64 v, F.int .u64 w, F.int .u64 x]].map .f)) (F.bool r) := by
  refine Ends.of_run tyOK envS9_ok (T := []) (n := 200) ?_
  have e : run Try.prog (tiOf Try.prog) envS9 [] 0 Try.f38.results.toList some 200 [.code (bodyOf Try.f38)] (start Try.f38.ntmps ([F.agg [F.int .u64 a, F.int .u64 b, F.int .u64 c, F.int .u64 d], F.agg [F.int .u64 u, F.int .u64 v, F.int .u64 w, F.int .u64 x]].map .f)) = T38 (fun r => some (.ret (F.bool r))) a b c d u v w x := by kernel_rfl
  rw [e]
  exact (good_sel h (fun _ h => good_ret (by cases h; rfl)) (fun _ h => (good_sel h (fun _ h => good_ret (by cases h; rfl)) (fun _ h => (good_sel h (fun _ h => good_ret (by cases h; rfl)) (fun _ h => (good_sel h (fun _ h => good_ret (by cases h; rfl)) (fun _ h => good_ret (by cases h; rfl)))))))))
def Fills {α : Type} (enc : α → F) (d : α) (z : F) (l : List α) (i : Nat) (g : Nat → F) : Prop := ∀ j, (j < i → g j = enc (l.getD j d)) ∧ (i ≤ j → g j = z)
theorem Fills.zero {α : Type} {enc : α → F} {d : α} {z : F} {l : List α} : Fills enc d z l 0 (fun _ => z) := fun j => ⟨fun h => by omega, fun _ => rfl⟩
theorem Fills.set {α : Type} {enc : α → F} {d : α} {z : F} {l : List α} {i : Nat} {g : Nat → F} (h : Fills enc d z l i g) : Fills enc d z l (i + 1) (fun j => if j = i then enc (l.getD i d) else g j) := fun j => by
  by_cases e : j = i
  · subst e; exact ⟨fun _ => by simp, fun h => by omega⟩
  · simp only [if_neg e]; exact ⟨fun hj => (h j).1 (by omega), fun hj => (h j).2 (by omega)⟩
theorem Fills.lists {α : Type} {enc : α → F} {d : α} {z : F} {l : List α} {g : Nat → F} (h : Fills enc d z l l.length g) : Lists enc d l.length g l := ⟨rfl, fun j hj => (h j).1 hj⟩
def sameSpotV (a b c d : Int) : Bool := a == c && b == d
def resSameSpot : List F → F | [.agg [.int .i64 a, .int .i64 b], .agg [.int .i64 c, .int .i64 d]] => .bool (sameSpotV a b c d) | _ => .dflt
theorem okEqSpot : PureOK Try.prog 59 pre2p resSameSpot :=
  fn_pure (c := bodyOf Try.f59) Try.func59 (by kernel_rfl) (by kernel_rfl) fun xs hp => match xs, hp with
  | [.agg [.int .i64 a, .int .i64 b], .agg [.int .i64 c, .int .i64 d]], hp => t59 a b c d (sameSpotV a b c d) (by
      unfold G59 T59 sameSpotV
      simp only [bne]
      cases (a == c) <;> cases (b == d) <;> rfl)
def resSpotA : List F → F | [.agg [.int .i64 a, .int .i64 b]] => .agg [.int .i64 a, .int .i64 b] | _ => .dflt
theorem okToSpot : PureOK Try.prog 10 pre1p resSpotA :=
  fn_pure (c := bodyOf Try.f10) Try.func10 (by kernel_rfl) (by kernel_rfl) fun xs hp => match xs, hp with
  | [.agg [.int .i64 a, .int .i64 b]], hp => t10 a b _ rfl
def sameWV (a b c d e f g h : Int) : Bool := a == e && (b == f && (c == g && d == h))
def pre2wd : List F → Bool | [.agg [.int .u64 _, .int .u64 _, .int .u64 _, .int .u64 _], .agg [.int .u64 _, .int .u64 _, .int .u64 _, .int .u64 _]] => true | _ => false
def resSameWd : List F → F | [.agg [.int .u64 a, .int .u64 b, .int .u64 c, .int .u64 d], .agg [.int .u64 e, .int .u64 f, .int .u64 g, .int .u64 h]] => .bool (sameWV a b c d e f g h) | _ => .dflt
theorem okEqWide : PureOK Try.prog 38 pre2wd resSameWd :=
  fn_pure (c := bodyOf Try.f38) Try.func38 (by kernel_rfl) (by kernel_rfl) fun xs hp => match xs, hp with
  | [.agg [.int .u64 a, .int .u64 b, .int .u64 c, .int .u64 d], .agg [.int .u64 e, .int .u64 f, .int .u64 g, .int .u64 h]], hp => t38 a b c d e f g h (sameWV a b c d e f g h) (by
      unfold G38 T38 sameWV
      simp only [bne]
      cases (a == e) <;> cases (b == f) <;> cases (c == g) <;> cases (d == h) <;> rfl)
theorem sameWV_refl (a b c d : Int) : sameWV a b c d a b c d = true := by simp [sameWV]
def envZ1 : Env := ((envS9.add 59 (.pure pre2p resSameSpot)).add 10 (.pure pre1p resSpotA)).add 38 (.pure pre2wd resSameWd)
theorem envZ1_ok : EnvOK Try.prog envZ1 := Env.add_ok (Env.add_ok (Env.add_ok envS9_ok okEqSpot.sp) okToSpot.sp) okEqWide.sp
end
end Go.Proofs.Ytmambbfnjbdfgaa.R

namespace Go.Proofs.Ytmambbfnjbdfgaa.R
open Go
noncomputable section
set_option linter.unusedVariables false
set_option linter.unusedSimpArgs false
set_option maxRecDepth 100000
/-! ### function 39 -/
def T39 {ρ : Type} (ret : (Bool) → Option ρ) (a : Sg) (b : Sg) : Option ρ :=
  (bsel (!sameSpotV a.x0 a.y0 b.x0 b.y0)
   (ret (false))
   (bsel (!sameSpotV a.x1 a.y1 b.x1 b.y1)
    (ret (false))
    (ret (true))))
def G39 (a : Sg) (b : Sg) : Option (Bool) := T39 some a b
theorem t39 (a : Sg) (b : Sg) (r : Bool) (h : G39 a b = some r) : Ends Try.prog Try.f39.results.toList [.code (bodyOf Try.f39)] (start Try.f39.ntmps ([sgF a, sgF b].map .f)) (F.bool r) := by
  refine Ends.of_run tyOK envZ1_ok (T := []) (n := 200) ?_
  have e : run Try.prog (tiOf Try.prog) envZ1 [] 0 Try.f39.results.toList some 200 [.code (bodyOf Try.f39)] (start Try.f39.ntmps ([sgF a, sgF b].map .f)) = T39 (fun r => some (.ret (F.bool r))) a b := by kernel_rfl
  rw [e]
  exact (good_sel h (fun _ h => good_ret (by cases h; rfl)) (fun _ h => (good_sel h (fun _ h => good_ret (by cases h; rfl)) (fun _ h => good_ret (by cases h; rfl)))))
/-! ### function 33 -/
def T33 {ρ : Type} (ret : (F) → Option ρ) (a : Sg) : Option ρ :=
  (ret (F.agg [F.int IntKind.i64 a.x0, F.int IntKind.i64 a.y0, F.int IntKind.i64 a.x1, F.int IntKind.i64 a.y1]))
def G33 (a : Sg) : Option (F) := T33 some a
theorem t33 (a : Sg) (r : F) (h : G33 a = some r) : Ends Try.prog Try.f33.results.toList [.code (bodyOf Try.f33)] (start Try.f33.ntmps ([sgF a].map .f)) (r) := by
  refine Ends.of_run tyOK envZ1_ok (T := []) (n := 200) ?_
  have e : run Try.prog (tiOf Try.prog) envZ1 [] 0 Try.f33.results.toList some 200 [.code (bodyOf Try.f33)] (start Try.f33.ntmps ([sgF a].map .f)) = T33 (fun r => some (.ret (r))) a := by kernel_rfl
  rw [e]
  exact good_ret (by cases h; rfl)
/-! ### function 12 -/
def T12 {ρ : Type} (ret : (Bool) → Option ρ) (a : Int) (b : Int) (c : Int) (d : Int) (a' : Int) (b' : Int) (c' : Int) (d' : Int) (u : Int) (v : Int) (w : Int) (x : Int) (u' : Int) (v' : Int) (w' : Int) (x' : Int) : Option ρ :=
  (bsel (!sameWV a b c d u v w x)
   (ret (false))
   (bsel (!sameWV a' b' c' d' u' v' w' x')
    (ret (false))
    (ret (true))))
def G12 (a : Int) (b : Int) (c : Int) (d : Int) (a' : Int) (b' : Int) (c' : Int) (d' : Int) (u : Int) (v : Int) (w : Int) (x : Int) (u' : Int) (v' : Int) (w' : Int) (x' : Int) : Option (Bool) := T12 some a b c d a' b' c' d' u v w x u' v' w' x'
theorem t12 (a : Int) (b : Int) (c : Int) (d : Int) (a' : Int) (b' : Int) (c' : Int) (d' : Int) (u : Int) (v : Int) (w : Int) (x : Int) (u' : Int) (v' : Int) (w' : Int) (x' : Int) (r : Bool) (h : G12 a b c d a' b' c' d' u v w x u' v' w' x' = some r) : Ends Try.prog Try.f12.results.toList [.code (bodyOf Try.f12)] (start Try.f12.ntmps ([F.agg [F.int .u64 a, F.int .u64 b, F.int .u64 c, F.int .u64 d, F.int .u64 a', F.int .u64 b', F.int .u64 c', F.int .u64 d'], F.agg [F.int .u64 u, F.int .u64 v, F.int .u64 w, F.int .u64 x, F.int .u64 u', F.int .u64 v', F.int .u64 w', F.int .u64 x']].map .f)) (F.bool r) := by
  refine Ends.of_run tyOK envZ1_ok (T := []) (n := 200) ?_
  have e : run Try.prog (tiOf Try.prog) envZ1 [] 0 Try.f12.results.toList some 200 [.code (bodyOf Try.f12)] (start Try.f12.ntmps ([F.agg [F.int .u64 a, F.int .u64 b, F.int .u64 c, F.int .u64 d, F.int .u64 a', F.int .u64 b', F.int .u64 c', F.int .u64 d'], F.agg [F.int .u64 u, F.int .u64 v, F.int .u64 w, F.int .u64 x, F.int .u64 u', F.int .u64 v', F.int .u64 w', F.int .u64 x']].map .f)) = T12 (fun r => some (.ret (F.bool r))) a b c d a' b' c' d' u v w x u' v' w' x' := by kernel_rfl
  rw [e]
  exact (good_sel h (fun _ h => good_ret (by cases h; rfl)) (fun _ h => (good_sel h (fun _ h => good_ret (by cases h; rfl)) (fun _ h => good_ret (by cases h; rfl)))))
def sameSegV (a b : Sg) : Bool := sameSpotV a.x0 a.y0 b.x0 b.y0 && sameSpotV a.x1 a.y1 b.x1 b.y1
def pre2s : List F → Bool | [.agg [.int .i64 _, .int .i64 _, .int .i64 _, .int .i64 _], .agg [.int .i64 _, .int .i64 _, .int .i64 _, .int .i64 _]] => true | _ => false
def resSameSeg : List F → F | [.agg [.int .i64 a, .int .i64 b, .int .i64 c, .int .i64 d], .agg [.int .i64 e, .int .i64 f, .int .i64 g, .int .i64 h]] => .bool (sameSegV ⟨a, b, c, d⟩ ⟨e, f, g, h⟩) | _ => .dflt
theorem okEqSeg : PureOK Try.prog 39 pre2s resSameSeg :=
  fn_pure (c := bodyOf Try.f39) Try.func39 (by kernel_rfl) (by kernel_rfl) fun xs hp => match xs, hp with
  | [.agg [.int .i64 a, .int .i64 b, .int .i64 c, .int .i64 d], .agg [.int .i64 e, .int .i64 f, .int .i64 g, .int .i64 h]], hp => t39 ⟨a, b, c, d⟩ ⟨e, f, g, h⟩ (sameSegV ⟨a, b, c, d⟩ ⟨e, f, g, h⟩) (by
      unfold G39 T39 sameSegV
      cases sameSpotV a b e f <;> cases sameSpotV c d g h <;> rfl)
def resSeg : List F → F | [.agg [.int .i64 a, .int .i64 b, .int .i64 c, .int .i64 d]] => .agg [.int .i64 a, .int .i64 b, .int .i64 c, .int .i64 d] | _ => .dflt
theorem okToSeg : PureOK Try.prog 33 pre1s resSeg :=
  fn_pure (c := bodyOf Try.f33) Try.func33 (by kernel_rfl) (by kernel_rfl) fun xs hp => match xs, hp with
  | [.agg [.int .i64 a, .int .i64 b, .int .i64 c, .int .i64 d]], hp => t33 ⟨a, b, c, d⟩ _ rfl
def pre2rt : List F → Bool | [.agg [.int .u64 _, .int .u64 _, .int .u64 _, .int .u64 _, .int .u64 _, .int .u64 _, .int .u64 _, .int .u64 _], .agg [.int .u64 _, .int .u64 _, .int .u64 _, .int .u64 _, .int .u64 _, .int .u64 _, .int .u64 _, .int .u64 _]] => true | _ => false
def resSameRt : List F → F | [.agg [.int .u64 a, .int .u64 b, .int .u64 c, .int .u64 d, .int .u64 a', .int .u64 b', .int .u64 c', .int .u64 d'], .agg [.int .u64 e, .int .u64 f, .int .u64 g, .int .u64 h, .int .u64 e', .int .u64 f', .int .u64 g', .int .u64 h']] => .bool (sameWV a b c d e f g h && sameWV a' b' c' d' e' f' g' h') | _ => .dflt
theorem okEqRatio : PureOK Try.prog 12 pre2rt resSameRt :=
  fn_pure (c := bodyOf Try.f12) Try.func12 (by kernel_rfl) (by kernel_rfl) fun xs hp => match xs, hp with
  | [.agg [.int .u64 a, .int .u64 b, .int .u64 c, .int .u64 d, .int .u64 a', .int .u64 b', .int .u64 c', .int .u64 d'], .agg [.int .u64 e, .int .u64 f, .int .u64 g, .int .u64 h, .int .u64 e', .int .u64 f', .int .u64 g', .int .u64 h']], hp => t12 a b c d a' b' c' d' e f g h e' f' g' h' _ (by
      unfold G12 T12
      cases sameWV a b c d e f g h <;> cases sameWV a' b' c' d' e' f' g' h' <;> rfl)
def envZ2 : Env := ((envZ1.add 39 (.pure pre2s resSameSeg)).add 33 (.pure pre1s resSeg)).add 12 (.pure pre2rt resSameRt)
theorem envZ2_ok : EnvOK Try.prog envZ2 := Env.add_ok (Env.add_ok (Env.add_ok envZ1_ok okEqSeg.sp) okToSeg.sp) okEqRatio.sp
end
end Go.Proofs.Ytmambbfnjbdfgaa.R

namespace Go.Proofs.Ytmambbfnjbdfgaa.R
open Go
noncomputable section
set_option linter.unusedVariables false
set_option linter.unusedSimpArgs false
set_option maxRecDepth 100000
/-! ### function 7 -/
def T7 {ρ : Type} (ret : (Int) → Option ρ) (a : List Sg) (lf : Int) : Option ρ :=
  (bsel (decide (IntKind.i64.wrap (lf - (↑a.length : Int)) < 0))
   (ret (-1))
   (ret (IntKind.i64.wrap (lf - (↑a.length : Int)))))
def G7 (a : List Sg) (lf : Int) : Option (Int) := T7 some a lf
theorem t7 (a : List Sg) (lf : Int) (r : Int) (h : G7 a lf = some r) : Ends Try.prog Try.f7.results.toList [.code (bodyOf Try.f7)] (start Try.f7.ntmps ([segsF a, F.int .i64 lf].map .f)) (F.int .i64 r) := by
  refine Ends.of_run tyOK envZ2_ok (T := []) (n := 200) ?_
  have e : run Try.prog (tiOf Try.prog) envZ2 [] 0 Try.f7.results.toList some 200 [.code (bodyOf Try.f7)] (start Try.f7.ntmps ([segsF a, F.int .i64 lf].map .f)) = T7 (fun r => some (.ret (F.int .i64 r))) a lf := by kernel_rfl
  rw [e]
  exact (good_sel h (fun _ h => good_ret (by cases h; rfl)) (fun _ h => good_ret (by cases h; rfl)))
/-! ### function 9 -/
def S9_3 (a : List Sg) (n : Nat) (g : Nat → F) (i : Int) : St := ⟨[(U.f (segsF a)), .bad, .bad, (U.hs 0 n 0 n), (U.f (F.int .i64 i)), .bad, .bad, .bad, .bad, .bad, .bad, .bad, .bad, .bad, .bad, .bad, .bad, .bad, .bad, .bad, .bad, .bad, .bad], [HO.arr 4 n g]⟩
def T9_3 {ρ : Type} (ret : (F) → Option ρ) (c3 : (List Sg) → (Nat) → (Nat → F) → (Int) → Option ρ) (a : List Sg) (n : Nat) (g : Nat → F) (i : Int) : Option ρ :=
  (bsel (decide (i < (↑a.length : Int)))
   (bsel (decide (0 ≤ i))
    (bsel (decide (i < (↑a.length : Int)))
     (bsel (decide (n = n))
      (bsel (decide (0 ≤ i))
       (bsel (decide (i < (↑n : Int)))
        (bsel (decide (n = n))
         (bsel (decide (0 + i.toNat < n))
          (bsel (decide ((g (0 + i.toNat)).cells.length = 4))
           (bsel ((isAggF (g (0 + i.toNat)) || false) && true)
            (c3 (a) (n) (fun j ↦ if j = 0 + i.toNat then F.agg [F.int IntKind.i64 (a.getD i.toNat Sg.zero).x0, F.int IntKind.i64 (a.getD i.toNat Sg.zero).y0, F.int IntKind.i64 (a.getD i.toNat Sg.zero).x1, F.int IntKind.i64 (a.getD i.toNat Sg.zero).y1] else g j) (IntKind.i64.wrap (i + 1)))
            none)
           none)
          none)
         none)
        none)
       none)
      none)
     none)
    none)
   (bsel (decide (n = n) && true && decide (n = n))
    (bsel (isScal n g)
     (ret (F.tup [F.tup [F.int IntKind.i64 ((4 : Nat) : Int), F.sl n g]]))
     none)
    none))
def L9_3 : Nat → (List Sg) → (Nat) → (Nat → F) → (Int) → Option (F)
  | 0, _, _, _, _ => none
  | k + 1, a, n, g, i => T9_3 some (L9_3 k) a n g i
def T9 {ρ : Type} (ret : (F) → Option ρ) (c3 : (List Sg) → (Nat) → (Nat → F) → (Int) → Option ρ) (a : List Sg) : Option ρ :=
  (bsel (decide ((↑a.length : Int) ≤ (↑a.length : Int)))
   (bsel (decide ((↑a.length : Int) * (((32 : Nat) : Int) + 1) ≤ (↑limit : Int)))
    (c3 (a) ((↑a.length : Int).toNat) (fun x ↦ F.agg [F.int IntKind.i64 0, F.int IntKind.i64 0, F.int IntKind.i64 0, F.int IntKind.i64 0]) (0))
    none)
   none)
def G9 (k : Nat) (a : List Sg) : Option (F) := T9 some (L9_3 k) a
theorem t9_3 : ∀ (k : Nat) (a : List Sg) (n : Nat) (g : Nat → F) (i : Int) (r : F), L9_3 k a n g i = some r → Ends Try.prog (ResultVar.tmp 1000000 :: Go.Proofs.Try.f9.results.toList) (at_ Try.f9 3) (S9_3 a n g i) (r)
  | 0, _, _, _, _, _, h => nomatch h
  | k + 1, a, n, g, i, r, h => by
    refine Ends.of_cut tyOK envZ2_ok (T := [(3, [0, 3, 4], 1000)]) (n := 200) ?_
    have e : runCut Try.prog (tiOf Try.prog) envZ2 [(3, [0, 3, 4], 1000)] 0 (ResultVar.tmp 1000000 :: Go.Proofs.Try.f9.results.toList) some 200 (at_ Try.f9 3) (S9_3 a n g i) = T9_3 (fun r => some (.ret (r))) (fun a n g i => some (.cut (at_ Try.f9 3) (S9_3 a n g i))) a n g i := by kernel_rfl
    rw [e]
    exact (good_sel h (fun _ h => (good_sel h (fun _ h => (good_sel h (fun _ h => (good_sel h (fun _ h => (good_sel h (fun _ h => (good_sel h (fun _ h => (good_sel h (fun _ h => (good_sel h (fun _ h => (good_sel h (fun _ h => (good_sel h (fun _ h => good_cut (t9_3 k _ _ _ _ r h)) (fun _ h => nomatch h))) (fun _ h => nomatch h))) (fun _ h => nomatch h))) (fun _ h => nomatch h))) (fun _ h => nomatch h))) (fun _ h => nomatch h))) (fun _ h => nomatch h))) (fun _ h => nomatch h))) (fun _ h => nomatch h))) (fun _ h => (good_sel h (fun _ h => (good_sel h (fun _ h => good_ret (by cases h; rfl)) (fun _ h => nomatch h))) (fun _ h => nomatch h))))
theorem t9 (k : Nat) (a : List Sg) (r : F) (h : G9 k a = some r) : Ends Try.prog (ResultVar.tmp 1000000 :: Go.Proofs.Try.f9.results.toList) [.code (bodyOf Try.f9)] (start Try.f9.ntmps ([segsF a].map .f)) (r) := by
  refine Ends.of_run tyOK envZ2_ok (T := [(3, [0, 3, 4], 1000)]) (n := 200) ?_
  have e : run Try.prog (tiOf Try.prog) envZ2 [(3, [0, 3, 4], 1000)] 0 (ResultVar.tmp 1000000 :: Go.Proofs.Try.f9.results.toList) some 200 [.code (bodyOf Try.f9)] (start Try.f9.ntmps ([segsF a].map .f)) = T9 (fun r => some (.ret (r))) (fun a n g i => some (.cut (at_ Try.f9 3) (S9_3 a n g i))) a := by kernel_rfl
  rw [e]
  exact (good_sel h (fun _ h => (good_sel h (fun _ h => good_cut (t9_3 k _ _ _ _ r h)) (fun _ h => nomatch h))) (fun _ h => nomatch h))
/-! ### function 13 -/
def S13_4 (a : List Sg) (b : List Sg) (i : Int) : St := ⟨[(U.f (segsF a)), (U.f (segsF b)), .bad, .bad, .bad, (U.f (F.int .i64 i)), .bad, .bad, .bad, .bad, .bad, .bad, .bad, .bad, .bad, .bad, .bad, .bad, .bad, .bad, .bad, .bad, .bad, .bad, .bad, .bad, .bad], []⟩
def T13_4 {ρ : Type} (ret : (Bool) → Option ρ) (c4 : (List Sg) → (List Sg) → (Int) → Option ρ) (a : List Sg) (b : List Sg) (i : Int) : Option ρ :=
  (bsel (decide (i < (↑a.length : Int)))
   (bsel (decide (0 ≤ i))
    (bsel (decide (i < (↑a.length : Int)))
     (bsel (decide (0 ≤ i))
      (bsel (decide (i < (↑b.length : Int)))
       (bsel (!sameSegV { x0 := (a.getD i.toNat Sg.zero).x0, y0 := (a.getD i.toNat Sg.zero).y0, x1 := (a.getD i.toNat Sg.zero).x1, y1 := (a.getD i.toNat Sg.zero).y1 } { x0 := (b.getD i.toNat Sg.zero).x0, y0 := (b.getD i.toNat Sg.zero).y0, x1 := (b.getD i.toNat Sg.zero).x1, y1 := (b.getD i.toNat Sg.zero).y1 })
        (ret (false))
        (c4 (a) (b) (IntKind.i64.wrap (i + 1))))
       none)
      none)
     none)
    none)
   (ret (true)))
def L13_4 : Nat → (List Sg) → (List Sg) → (Int) → Option (Bool)
  | 0, _, _, _ => none
  | k + 1, a, b, i => T13_4 some (L13_4 k) a b i
def T13 {ρ : Type} (ret : (Bool) → Option ρ) (c4 : (List Sg) → (List Sg) → (Int) → Option ρ) (a : List Sg) (b : List Sg) : Option ρ :=
  (bsel ((↑a.length : Int) != (↑b.length : Int))
   (ret (false))
   (c4 (a) (b) (0)))
def G13 (k : Nat) (a : List Sg) (b : List Sg) : Option (Bool) := T13 some (L13_4 k) a b
theorem t13_4 : ∀ (k : Nat) (a : List Sg) (b : List Sg) (i : Int) (r : Bool), L13_4 k a b i = some r → Ends Try.prog Try.f13.results.toList (at_ Try.f13 4) (S13_4 a b i) (F.bool r)
  | 0, _, _, _, _, h => nomatch h
  | k + 1, a, b, i, r, h => by
    refine Ends.of_cut tyOK envZ2_ok (T := [(4, [0, 1, 5], 1000)]) (n := 200) ?_
    have e : runCut Try.prog (tiOf Try.prog) envZ2 [(4, [0, 1, 5], 1000)] 0 Try.f13.results.toList some 200 (at_ Try.f13 4) (S13_4 a b i) = T13_4 (fun r => some (.ret (F.bool r))) (fun a b i => some (.cut (at_ Try.f13 4) (S13_4 a b i))) a b i := by kernel_rfl
    rw [e]
    exact (good_sel h (fun _ h => (good_sel h (fun _ h => (good_sel h (fun _ h => (good_sel h (fun _ h => (good_sel h (fun _ h => (good_sel h (fun _ h => good_ret (by cases h; rfl)) (fun _ h => good_cut (t13_4 k _ _ _ r h)))) (fun _ h => nomatch h))) (fun _ h => nomatch h))) (fun _ h => nomatch h))) (fun _ h => nomatch h))) (fun _ h => good_ret (by cases h; rfl)))
theorem t13 (k : Nat) (a : List Sg) (b : List Sg) (r : Bool) (h : G13 k a b = some r) : Ends Try.prog Try.f13.results.toList [.code (bodyOf Try.f13)] (start Try.f13.ntmps ([segsF a, segsF b].map .f)) (F.bool r) := by
  refine Ends.of_run tyOK envZ2_ok (T := [(4, [0, 1, 5], 1000)]) (n := 200) ?_
  have e : run Try.prog (tiOf Try.prog) envZ2 [(4, [0, 1, 5], 1000)] 0 Try.f13.results.toList some 200 [.code (bodyOf Try.f13)] (start Try.f13.ntmps ([segsF a, segsF b].map .f)) = T13 (fun r => some (.ret (F.bool r))) (fun a b i => some (.cut (at_ Try.f13 4) (S13_4 a b i))) a b := by kernel_rfl
  rw [e]
  exact (good_sel h (fun _ h => good_ret (by cases h; rfl)) (fun _ h => good_cut (t13_4 k _ _ _ r h)))
def leftV (n : Nat) (k : Int) : Int := bif decide (IntKind.i64.wrap (k - (n : Int)) < 0) then -1 else IntKind.i64.wrap (k - (n : Int))
theorem scal_of {n : Nat} {g : Nat → F} (h : ∀ j, j < n → scal0 (g j) = true) : isScal n g = true := by
  unfold isScal
  rw [List.all_eq_true]
  intro i hi
  exact h i (List.mem_range.1 hi)
def resSzSegs : List F → F | [a, .int .i64 k] => .int .i64 (leftV (unSegs a).length k) | _ => .dflt
def preSzSegs : List F → Bool | [a, .int .i64 _] => isSegs a | _ => false
theorem okSzSegs : PureOK Try.prog 7 preSzSegs resSzSegs :=
  fn_pure_at (c := bodyOf Try.f7) Try.func7 (by kernel_rfl) (by kernel_rfl) fun xs hp => match xs, hp with
  | [a, .int .i64 k], hp => ⟨[segsF (unSegs a), .int .i64 k], _, ⟨(segs_eqv hp).1, .refl _, trivial⟩, t7 _ _ (leftV (unSegs a).length k) (by
      unfold G7 T7 leftV
      cases decide (IntKind.i64.wrap (k - ((unSegs a).length : Int)) < 0) <;> rfl), .refl _⟩
def sgZ : F := F.agg [F.int IntKind.i64 0, F.int IntKind.i64 0, F.int IntKind.i64 0, F.int IntKind.i64 0]
theorem toSegs_loop (a : List Sg) (hs : a.length ≤ 1048576) : ∀ (d i : Nat) (g : Nat → F), i + d = a.length → Fills sgF .zero sgZ a i g → ∃ g1, L9_3 (d + 1) a a.length g i = some (F.tup [F.tup [.int .i64 ((4 : Nat) : Int), .sl a.length g1]]) ∧ Lists sgF .zero a.length g1 a
  | 0, i, g, h, hg => by
    have c1 : decide ((i : Int) < (a.length : Int)) = false := decide_eq_false (by omega)
    obtain rfl : i = a.length := by omega
    have c2 : isScal a.length g = true := scal_of fun j hj => by rw [(hg j).1 hj]; rfl
    exact ⟨g, by simp only [L9_3, T9_3, c1, c2, bsel_false, decide_true, bsel_true, Bool.and_self], hg.lists⟩
  | d + 1, i, g, h, hg => by
    have hi : i < a.length := by omega
    have c1 : decide ((i : Int) < (a.length : Int)) = true := decide_eq_true (by omega)
    have c2 : decide (0 ≤ (i : Int)) = true := decide_eq_true (by omega)
    have c3 : decide (i < a.length) = true := decide_eq_true hi
    have hw : IntKind.i64.wrap ((i : Int) + 1) = ((i + 1 : Nat) : Int) := by rw [wrapi (by omega) (by omega)]; omega
    have c4 : g i = sgZ := (hg i).2 (Nat.le_refl _)
    obtain ⟨g1, e1, e2⟩ := toSegs_loop a hs d (i + 1) _ (by omega) hg.set
    refine ⟨g1, ?_, e2⟩
    rw [← e1, L9_3]
    simp only [T9_3, c1, c2, c3, hw, bsel_true, decide_true, Int.toNat_natCast, Nat.zero_add, c4]
    rfl
def shortSegsV (l : List Sg) : Bool := decide (l.length ≤ 1048576)
def preToSegs : List F → Bool | [a] => isSegs a && shortSegsV (unSegs a) | _ => false
def resToSegs : List F → F | [a] => .tup [.tup [.int .i64 4, .sl (unSegs a).length fun i => sgF ((unSegs a).getD i .zero)]] | _ => .dflt
theorem okToSegs : SpOK Try.prog 9 (.own preToSegs (fun _ => true) resToSegs resToSegs) :=
  fn_own (c := bodyOf Try.f9) Try.func9 (by kernel_rfl) (by kernel_rfl) fun xs hp => match xs, hp with
  | [a], hp => by
    simp only [preToSegs, Bool.and_eq_true] at hp
    have hs := of_decide_eq_true hp.2
    have hx := (segs_eqv hp.1).1
    have h1 : resToSegs [a] = .tup [.tup [.int .i64 4, .sl (unSegs a).length fun i => sgF ((unSegs a).getD i .zero)]] := rfl
    simp only [if_true]
    rw [h1]
    generalize unSegs a = l at hx hs ⊢
    obtain ⟨g1, e1, e2⟩ := toSegs_loop l hs l.length 0 _ (by omega) Fills.zero
    have c3 : decide (((l.length : Nat) : Int) * (((32 : Nat) : Int) + 1) ≤ (limit : Int)) = true := by rw [limit_eq]; exact decide_eq_true (by omega)
    have hg : G9 (l.length + 1) l = some (F.tup [F.tup [.int .i64 ((4 : Nat) : Int), .sl l.length g1]]) := by
      unfold G9 T9
      simp only [c3, Int.le_refl, decide_true, bsel_true, Int.toNat_natCast]
      exact e1
    exact ⟨[segsF l], _, [.tup [.int .i64 4, .sl l.length fun i => sgF (l.getD i .zero)]], ⟨hx, trivial⟩, t9 _ _ _ hg, ⟨.of (.obj _ _ _ _ _ e2.2), trivial⟩, rfl⟩
def sameSegsV : List Sg → List Sg → Bool
  | [], [] => true
  | a :: a', b :: b' => sameSegV a b && sameSegsV a' b'
  | _, _ => false
theorem sameSegs_ne : ∀ (a b : List Sg), a.length ≠ b.length → sameSegsV a b = false
  | [], [], h => absurd rfl h
  | [], _ :: _, _ => rfl
  | _ :: _, [], _ => rfl
  | a :: a', b :: b', h => by rw [sameSegsV, sameSegs_ne a' b' (by simpa using h), Bool.and_false]
theorem sameSegs_refl : ∀ a : List Sg, sameSegsV a a = true
  | [] => rfl
  | t :: a => by simp [sameSegsV, sameSegV, sameSpotV, sameSegs_refl a]
theorem eqSegs_loop (a b : List Sg) (hl : a.length = b.length) (hs : a.length ≤ 1048576) : ∀ (d i : Nat), i + d = a.length → L13_4 (d + 1) a b i = some (sameSegsV (a.drop i) (b.drop i))
  | 0, i, h => by
    have c1 : decide ((i : Int) < (a.length : Int)) = false := decide_eq_false (by omega)
    simp only [L13_4, T13_4, c1, bsel_false]
    rw [List.drop_eq_nil_of_le (by omega), List.drop_eq_nil_of_le (by omega)]
    rfl
  | d + 1, i, h => by
    have hi : i < a.length := by omega
    have c1 : decide ((i : Int) < (a.length : Int)) = true := decide_eq_true (by omega)
    have c3 : decide ((i : Int) < (b.length : Int)) = true := decide_eq_true (by omega)
    have c2 : decide (0 ≤ (i : Int)) = true := decide_eq_true (by omega)
    have hw : IntKind.i64.wrap ((i : Int) + 1) = ((i + 1 : Nat) : Int) := by rw [wrapi (by omega) (by omega)]; omega
    have h1 : a.getD i .zero = a[i] := by simp [List.getD, List.getElem?_eq_getElem hi]
    have h2 : b.getD i .zero = b[i]'(by omega) := by simp [List.getD, List.getElem?_eq_getElem (show i < b.length by omega)]
    rw [L13_4]
    simp only [T13_4, c1, c2, c3, hw, eqSegs_loop a b hl hs d (i + 1) (by omega), bsel_true, Int.toNat_natCast]
    rw [List.drop_eq_getElem_cons hi, List.drop_eq_getElem_cons (show i < b.length by omega), sameSegsV, h1, h2]
    cases sameSegV a[i] (b[i]'(by omega)) <;> rfl
def preEqSegs : List F → Bool | [a, b] => isSegs a && isSegs b && shortSegsV (unSegs a) | _ => false
def resEqSegs : List F → F | [a, b] => .bool (sameSegsV (unSegs a) (unSegs b)) | _ => .dflt
theorem eqSegs_law (a b : List Sg) (hs : shortSegsV a = true) : G13 (a.length + 1) a b = some (sameSegsV a b) := by
  unfold G13 T13
  rw [bne]
  cases h : ((a.length : Int) == (b.length : Int)) with
  | true => exact eqSegs_loop a b (by have := eq_of_beq h; omega) (of_decide_eq_true hs) a.length 0 (by omega)
  | false => rw [sameSegs_ne a b fun e => by simp [e] at h]; rfl
theorem okEqSegs : PureOK Try.prog 13 preEqSegs resEqSegs :=
  fn_pure_at (c := bodyOf Try.f13) Try.func13 (by kernel_rfl) (by kernel_rfl) fun xs hp => match xs, hp with
  | [a, b], hp => by
    simp only [preEqSegs, Bool.and_eq_true] at hp
    exact ⟨[segsF (unSegs a), segsF (unSegs b)], _, ⟨(segs_eqv hp.1.1).1, (segs_eqv hp.1.2).1, trivial⟩, t13 _ _ _ _ (eqSegs_law _ _ hp.2), .refl _⟩
def envZ3 : Env := ((envZ2.add 7 (.pure preSzSegs resSzSegs)).add 9 (.own preToSegs (fun _ => true) resToSegs resToSegs)).add 13 (.pure preEqSegs resEqSegs)
theorem envZ3_ok : EnvOK Try.prog envZ3 := Env.add_ok (Env.add_ok (Env.add_ok envZ2_ok okSzSegs.sp) okToSegs) okEqSegs.sp
end
end Go.Proofs.Ytmambbfnjbdfgaa.R

namespace Go.Proofs.Ytmambbfnjbdfgaa.R
open Go Go.ChangeShapes Go.WideShapes Go.RowKit
set_option linter.unusedVariables false
set_option linter.unusedSimpArgs false

/-- The forms of cells. -/
inductive Sh where
  | bool
  | int (k : IntKind)
  | str
  | sl (ag : Bool) (cs : List Sh)

mutual
def fitC : Sh → F → Bool
  | .bool, .bool _ => true
  | .int k, .int k' n => decide (k' = k) && (Lit.int k n).wf
  | .str, .str s => decide (s.size ≤ maxLen)
  | .sl ag cs, .sl n g => decide (n ≤ maxLen) && (List.range n).all fun i => (fitL cs (g i).cells && (isAggF (g i) == ag))
  | _, _ => false
def fitL : List Sh → List F → Bool
  | [], [] => true
  | s :: ss, x :: xs => fitC s x && fitL ss xs
  | _, _ => false
end

def aggT (P : Program) (t : TypeId) : Bool := match P.underlying t with
  | some (.struct _) => true
  | some (.array _ _) => true
  | _ => false
def shFs (P : Program) (S : TypeId → Option (List Sh)) : Nat → List Field → Option (List Sh)
  | _, [] => some []
  | off, f :: fs => if f.offset = off then match S f.type with
      | some l => if P.cellsOf f.type = l.length then match shFs P S (off + l.length) fs with
          | some ls => some (l ++ ls)
          | none => none
        else none
      | none => none
    else none
def shOf (P : Program) : Nat → TypeId → Option (List Sh)
  | 0, _ => none
  | n + 1, t => match P.underlying t with
    | some .bool => some [.bool]
    | some (.int k) => some [.int k]
    | some .string => some [.str]
    | some (.slice e) => match shOf P n e with
      | some l => if P.cellsOf e = l.length ∧ (aggT P e = true ∨ l.length = 1) ∧ l.length ≠ 0 then some [.sl (aggT P e) l] else none
      | none => none
    | some (.struct fs) => match shFs P (shOf P n) 0 fs.toList with
      | some l => if P.cellsOf t = l.length then some l else none
      | none => none
    | _ => none

theorem fit_int {x : F} (h : fitC (.int .i64) x = true) : ∃ n, x = .int .i64 n := by
  cases x <;> simp_all [fitC]
theorem fit_bool {x : F} (h : fitC .bool x = true) : ∃ b, x = .bool b := by
  cases x <;> simp_all [fitC]
theorem fit_nil {fs : List F} (h : fitL [] fs = true) : fs = [] := by
  cases fs <;> simp_all [fitL]
theorem fit_cons {s : Sh} {l : List Sh} {fs : List F} (h : fitL (s :: l) fs = true) : ∃ x gs, fs = x :: gs ∧ fitC s x = true ∧ fitL l gs = true := by
  cases fs with
  | nil => simp [fitL] at h
  | cons x gs => simp only [fitL, Bool.and_eq_true] at h; exact ⟨x, gs, rfl, h.1, h.2⟩
theorem fit_sl {ag : Bool} {cs : List Sh} {x : F} (h : fitC (.sl ag cs) x = true) : ∃ n g, x = .sl n g ∧ n ≤ maxLen ∧ ∀ i, i < n → fitL cs (g i).cells = true ∧ isAggF (g i) = ag := by
  cases x with
  | sl n g =>
    simp only [fitC, Bool.and_eq_true, decide_eq_true_eq, List.all_eq_true, List.mem_range, beq_iff_eq] at h
    exact ⟨n, g, rfl, h.1, h.2⟩
  | _ => simp [fitC] at h
theorem agg_cells {x : F} (h : isAggF x = true) : x = .agg x.cells := by cases x <;> simp_all [isAggF, F.cells]
theorem fitC_cell {s : Sh} {x : F} (h : fitC s x = true) : cellF x = true ∧ isAggF x = false := by
  cases s <;> cases x <;> simp_all [fitC, cellF, isAggF]
theorem fitL_len : ∀ (l : List Sh) (fs : List F), fitL l fs = true → fs.length = l.length
  | [], [], _ => rfl
  | [], _ :: _, h => by simp [fitL] at h
  | _ :: _, [], h => by simp [fitL] at h
  | s :: l, x :: fs, h => by
    simp only [fitL, Bool.and_eq_true] at h
    simp [fitL_len l fs h.2]
theorem fitL_get : ∀ (l : List Sh) (fs : List F), fitL l fs = true → ∀ (j : Nat) (u : F), fs[j]? = some u → ∃ s, l[j]? = some s ∧ fitC s u = true
  | [], [], _, j, u, hj => by simp at hj
  | [], _ :: _, h, _, _, _ => by simp [fitL] at h
  | _ :: _, [], h, _, _, _ => by simp [fitL] at h
  | s :: l, x :: fs, h, j, u, hj => by
    simp only [fitL, Bool.and_eq_true] at h
    cases j with
    | zero => simp at hj; subst hj; exact ⟨s, rfl, h.1⟩
    | succ j => simp at hj; simpa using fitL_get l fs h.2 j u hj
theorem fitL_append : ∀ (l l' : List Sh) (fs fs' : List F), fitL l fs = true → fitL l' fs' = true → fitL (l ++ l') (fs ++ fs') = true
  | [], l', [], fs', _, h' => h'
  | [], _, _ :: _, _, h, _ => by simp [fitL] at h
  | _ :: _, _, [], _, h, _ => by simp [fitL] at h
  | s :: l, l', x :: fs, fs', h, h' => by
    simp only [fitL, Bool.and_eq_true] at h
    simp only [List.cons_append, fitL, Bool.and_eq_true]
    exact ⟨h.1, fitL_append l l' fs fs' h.2 h'⟩

section
variable {H : Type} {enc : TypeId × Value → H} {P : Program} {W : World} {base : Nat}

theorem mk_cells {ag : Bool} {l : List Sh} {fs : List F} (h : fitL l fs = true) (hl : ag = true ∨ l.length = 1) : (mkF ag fs).cells = fs ∧ isAggF (mkF ag fs) = ag := by
  cases ag with
  | true => exact ⟨rfl, rfl⟩
  | false =>
    have hl : l.length = 1 := by simpa using hl
    have := fitL_len l fs h
    match fs, this with
    | [x], _ =>
      obtain ⟨s, _, hs⟩ := fitL_get l [x] h 0 x rfl
      obtain ⟨h1, h2⟩ := fitC_cell hs
      constructor
      · cases x <;> simp_all [mkF, F.cells, isAggF]
      · simpa [mkF] using h2
    | [], h0 => simp [hl] at h0
    | _ :: _ :: _, h0 => simp [hl] at h0

abbrev Low (W : World) : Nat → Prop := fun b => b < W.heap.size

theorem open_fields {n : Nat} (ih : ∀ (t : TypeId) (cs : List Value) (x : DataW H × List MemPlace) (k : Nat) (l : List Sh), DataW.trod enc P W 0 (fun _ => true) true n t cs = some x → shOf P k t = some l → ∃ fs, fitL l fs = true ∧ RepL W (Low W) fs cs) (k : Nat) (cs : List Value) :
    ∀ (fl : List Field) (off : Nat) (l : List Sh), (∀ (i : Nat) (f : Field), fl[i]? = some f → ∃ y, DataW.trod enc P W 0 (fun _ => true) true n f.type ((cs.drop f.offset).take (P.cellsOf f.type)) = some y) → shFs P (shOf P k) off fl = some l →
      ∃ fs, fitL l fs = true ∧ RepL W (Low W) fs ((cs.drop off).take l.length)
  | [], off, l, _, h => by
    simp only [shFs, Option.some.injEq] at h
    subst h
    exact ⟨[], rfl, by simp, fun j x v hx => by simp at hx⟩
  | f :: fl, off, l, hf, h => by
    simp only [shFs] at h
    split at h
    · rename_i hoff
      split at h
      · rename_i l1 h1
        split at h
        · rename_i hlen
          split at h
          · rename_i l2 h2
            cases h
            obtain ⟨y, hy⟩ := hf 0 f rfl
            obtain ⟨fs1, a1, b1⟩ := ih _ _ _ _ _ hy h1
            obtain ⟨fs2, a2, b2⟩ := open_fields ih k cs fl (off + l1.length) l2 (fun i f h => hf (i + 1) f (by simpa using h)) h2
            refine ⟨fs1 ++ fs2, fitL_append _ _ _ _ a1 a2, ?_⟩
            rw [hoff, hlen] at b1
            have e : (cs.drop off).take (l1 ++ l2).length = (cs.drop off).take l1.length ++ (cs.drop (off + l1.length)).take l2.length := by
              rw [List.length_append, List.take_add, List.drop_drop]
            rw [e]
            refine ⟨by rw [List.length_append, List.length_append, b1.1, b2.1], fun j x v hx hv => ?_⟩
            by_cases hj : j < fs1.length
            · rw [List.getElem?_append_left hj] at hx
              rw [List.getElem?_append_left (by rw [← b1.1]; exact hj)] at hv
              exact b1.2 j x v hx hv
            · rw [List.getElem?_append_right (by omega)] at hx
              rw [List.getElem?_append_right (by rw [← b1.1]; omega), ← b1.1] at hv
              exact b2.2 _ x v hx hv
          · cases h
        · cases h
      · cases h
    · cases h

theorem rep_one {x : F} {v : Value} (h : RepF W (Low W) x v) : RepL W (Low W) [x] [v] := by
  refine ⟨rfl, fun j y u hy hu => ?_⟩
  cases j with
  | zero => simp at hy hu; subst hy; subst hu; exact h
  | succ j => simp at hy

/-- Cells that come in, read. -/
theorem open_cells : ∀ (n : Nat) (t : TypeId) (cs : List Value) (x : DataW H × List MemPlace) (k : Nat) (l : List Sh), DataW.trod enc P W 0 (fun _ => true) true n t cs = some x → shOf P k t = some l →
    ∃ fs, fitL l fs = true ∧ RepL W (Low W) fs cs := by
  intro n
  induction n with
  | zero => intro t cs x k l h; simp [DataW.trod] at h
  | succ n ih =>
    intro t cs x k l h hs
    cases k with
    | zero => simp [shOf] at hs
    | succ k =>
      simp only [shOf] at hs
      split at hs
      · rename_i ht
        cases hs
        obtain ⟨b, rfl, _⟩ := DataW.trod_bool ht h
        exact ⟨[.bool b], by simp [fitL, fitC], rep_one (.bool b)⟩
      · rename_i kk ht
        cases hs
        obtain ⟨z, rfl, _, hw⟩ := DataW.trod_int ht h
        exact ⟨[.int kk z], by simp [fitL, fitC, hw], rep_one (.int kk z)⟩
      · rename_i ht
        cases hs
        obtain ⟨s, rfl, _, hw⟩ := DataW.trod_string ht h
        exact ⟨[.str s], by simp [fitL, fitC, hw], rep_one (.str s)⟩
      · rename_i e ht
        split at hs
        · rename_i le hle
          split at hs
          · rename_i hc
            cases hs
            rcases DataW.trod_slice ht h with ⟨rfl, _⟩ | ⟨a, len, cap, elems, rest, n', hn', rfl, _, _, hl, hm, hlen, hel, _, _⟩
            · exact ⟨[.sl 0 fun _ => .dflt], by simp [fitL, fitC], rep_one (.sl 0 _ none 0 1 ⟨0, 0, none⟩ (fun _ => undef) (Nat.le_refl _) (fun i hi => by omega) (fun i j u hi => by omega) (fun h => absurd rfl h) (fun i j u hi => by omega) (fun i j u hi => by omega))⟩
            · obtain rfl : n' = n := by omega
              have each : ∀ i, ∃ fs : List F, i < len → fitL le fs = true ∧ ∃ ci, W.cells? 0 (a.add (i * le.length)) le.length = some ci ∧ RepL W (Low W) fs ci := by
                intro i
                by_cases hi : i < len
                · have h1 := hel i hi
                  rw [List.getElem?_eq_getElem (by omega), hc.1] at h1
                  obtain ⟨ci, h2, h3⟩ := Option.bind_eq_some_iff.1 h1
                  obtain ⟨fs, h4, h5⟩ := ih _ _ _ _ _ h3 hle
                  exact ⟨fs, fun _ => ⟨h4, ci, h2, h5⟩⟩
                · exact ⟨[], fun h => absurd h hi⟩
              obtain ⟨G, hG⟩ := Classical.axiomOfChoice each
              have hfit : ∀ i, i < len → fitL le (mkF (aggT P e) (G i)).cells = true ∧ isAggF (mkF (aggT P e) (G i)) = aggT P e := fun i hi => by
                obtain ⟨h1, h2⟩ := mk_cells (hG i hi).1 hc.2.1
                rw [h1]; exact ⟨(hG i hi).1, h2⟩
              have hcells : ∀ i, i < len → (mkF (aggT P e) (G i)).cells = G i := fun i hi => (mk_cells (hG i hi).1 hc.2.1).1
              have hpos : le.length ≠ 0 := hc.2.2
              have hsz : ∀ i, i < len → (G i).length = le.length := fun i hi => fitL_len _ _ (hG i hi).1
              have hsp : len ≠ 0 → a.spot = none ∧ a.block < W.heap.size := fun h0 => by
                obtain ⟨_, ci, h1, _⟩ := hG 0 (by omega)
                obtain ⟨_, h3, h4⟩ := World.cells?_some h1
                have h5 := h4 0 (by omega)
                rw [List.getElem?_eq_getElem (by omega)] at h5
                have h6 := World.cell?_spot h5
                have h7 := cell_lt h5
                exact ⟨by simpa [Addr.add] using h6, by simpa [Addr.add] using h7⟩
              have key : ∀ (i j : Nat) (u : F), i < len → (G i)[j]? = some u → ∃ v, W.cell? ⟨a.block, a.off + (i * le.length + j), none⟩ = some v ∧ RepF W (Low W) u v := fun i j u hi hu => by
                obtain ⟨_, ci, h1, h2⟩ := hG i hi
                obtain ⟨_, h3, h4⟩ := World.cells?_some h1
                have hj := (List.getElem?_eq_some_iff.1 hu).1
                have hs := hsz i hi
                have h5 := h4 j (by omega)
                rw [List.getElem?_eq_getElem (by omega)] at h5
                refine ⟨_, ?_, h2.2 j u _ hu (List.getElem?_eq_getElem (by omega))⟩
                rw [← h5]
                have e := (hsp (by omega)).1
                obtain ⟨ab, ao, asp⟩ := a
                simp only at e
                subst e
                rw [add_zero_addr ⟨ab, ao, none⟩ rfl, add_zero_addr ⟨ab, ao + i * le.length, none⟩ rfl, Nat.add_assoc]
              refine ⟨[.sl len fun i => mkF (aggT P e) (G i)], ?_, rep_one ?_⟩
              · simp only [fitL, fitC, Bool.and_true, Bool.and_eq_true, decide_eq_true_eq, List.all_eq_true, List.mem_range, beq_iff_eq]
                exact ⟨by omega, hfit⟩
              · refine .sl len _ (some a) cap le.length a (fun k => (W.cell? ⟨a.block, a.off + k, none⟩).getD undef) hl (fun i hi => by rw [hcells i hi]; exact hsz i hi) (fun i j u hi hu => ?_) (fun h0 => ⟨rfl, (hsp h0).2, (hsp h0).1⟩) (fun i j u hi hu => ?_) (fun i j u hi hu => ?_)
                · rw [hcells i hi] at hu
                  obtain ⟨s, _, hs⟩ := fitL_get _ _ (hG i hi).1 j u hu
                  exact (fitC_cell hs).1
                · rw [hcells i hi] at hu
                  obtain ⟨v, h1, _⟩ := key i j u hi hu
                  rw [h1]; rfl
                · rw [hcells i hi] at hu
                  obtain ⟨v, h1, h2⟩ := key i j u hi hu
                  rw [h1]; exact h2
          · cases hs
        · cases hs
      · rename_i fs ht
        split at hs
        · rename_i l' hl'
          split at hs
          · rename_i hc
            cases hs
            obtain ⟨xs, n', hn', _, hcl, hxl, hx⟩ := DataW.trod_struct ht h
            obtain rfl : n' = n := by omega
            obtain ⟨gs, g1, g2⟩ := open_fields (fun t cs x k l => ih t cs x k l) k cs fs.toList 0 l (fun i f hf => by
              have hf' : fs[i]? = some f := by simpa using hf
              have hi := (Array.getElem?_eq_some_iff.1 hf').1
              exact ⟨_, (hx i f hf').trans (List.getElem?_eq_getElem (by omega))⟩) hl'
            refine ⟨gs, g1, ?_⟩
            rw [List.drop_zero, List.take_of_length_le (by omega)] at g2
            exact g2
          · cases hs
        · cases hs
      · cases hs

theorem open_structF {t : TypeId} {v : Value} {d : DataW H} {ps : List MemPlace} {fl : Array Field} {k : Nat} {l : List Sh} (ht : P.underlying t = some (.struct fl)) (hs : shOf P k t = some l) (hval : Value.okWide P W .any base t v) (h : DataW.Trod enc P W 0 (fun _ => true) true t v d ps) :
    ∃ fs, fitL l fs = true ∧ RepF W (fun b => b < W.heap.size) (.agg fs) v := by
  obtain ⟨cs, rfl, _⟩ := okWide_struct ht hval
  obtain ⟨n, hf⟩ := h
  obtain ⟨fs, h1, h2⟩ := open_cells n t _ _ k l hf hs
  refine ⟨fs, h1, ?_⟩
  have := RepF.agg (w := W) (Z := Low W) fs _ h2.1 h2.2
  simpa [Value.cells] using this
theorem open_sliceF {t e : TypeId} {v : Value} {d : DataW H} {ps : List MemPlace} {k : Nat} {s : Sh} (ht : P.underlying t = some (.slice e)) (hs : shOf P k t = some [s]) (hval : Value.okWide P W .any base t v) (h : DataW.Trod enc P W 0 (fun _ => true) true t v d ps) :
    ∃ x, fitC s x = true ∧ RepF W (fun b => b < W.heap.size) x v := by
  obtain ⟨a, len, cap, rfl⟩ := okWide_slice ht hval
  obtain ⟨n, hf⟩ := h
  obtain ⟨fs, h1, h2⟩ := open_cells n t _ _ k _ hf hs
  have hl := fitL_len _ _ h1
  match fs, hl with
  | [x], _ =>
    simp only [fitL, Bool.and_true] at h1
    exact ⟨x, h1, h2.2 0 x _ rfl (by simp [Value.cells])⟩
end
end Go.Proofs.Ytmambbfnjbdfgaa.R

namespace Go.Proofs.Ytmambbfnjbdfgaa.R
open Go Go.ChangeShapes Go.WideShapes Go.RowKit
noncomputable section
set_option linter.unusedVariables false
set_option linter.unusedSimpArgs false
set_option maxRecDepth 100000
set_option maxHeartbeats 1000000
/-! ### function 3 -/
def T3 {ρ : Type} (ret : (Bool) → Option ρ) (l : List Sg) (px : Int) (py : Int) : Option ρ :=
  (bsel (isSegs (segsF l))
   (bsel (decide (leftV (unSegs (segsF l)).length 1048576 < 0))
    (ret (true))
    (bsel (isSegs (segsF l) && shortSegsV (unSegs (segsF l)))
     (bsel (decide ((unSegs (segsF l)).length = (unSegs (segsF l)).length))
      (bsel (isSegs (F.sl (unSegs (segsF l)).length (offF 0 fun i ↦ sgF ((unSegs (segsF l)).getD i Sg.zero))))
       (bsel (isSegs (segsF l) && shortSegsV (unSegs (segsF l)))
        (bsel (decide ((unSegs (segsF l)).length = (unSegs (segsF l)).length))
         (bsel (isSegs (F.sl (unSegs (segsF l)).length (offF 0 fun i ↦ F.agg [F.int IntKind.i64 ((unSegs (segsF l)).getD i Sg.zero).x0, F.int IntKind.i64 ((unSegs (segsF l)).getD i Sg.zero).y0, F.int IntKind.i64 ((unSegs (segsF l)).getD i Sg.zero).x1, F.int IntKind.i64 ((unSegs (segsF l)).getD i Sg.zero).y1])))
          (bsel ((nsI (unSegs (F.sl (unSegs (segsF l)).length (offF 0 fun i ↦ F.agg [F.int IntKind.i64 ((unSegs (segsF l)).getD i Sg.zero).x0, F.int IntKind.i64 ((unSegs (segsF l)).getD i Sg.zero).y0, F.int IntKind.i64 ((unSegs (segsF l)).getD i Sg.zero).x1, F.int IntKind.i64 ((unSegs (segsF l)).getD i Sg.zero).y1]))) px py != nsI (unSegs (F.sl (unSegs (segsF l)).length (offF 0 fun i ↦ sgF ((unSegs (segsF l)).getD i Sg.zero)))) px py) == false)
           (bsel ((!(sameWV (bif okT (nsU (unSegs (F.sl (unSegs (segsF l)).length (offF 0 fun i ↦ F.agg [F.int IntKind.i64 ((unSegs (segsF l)).getD i Sg.zero).x0, F.int IntKind.i64 ((unSegs (segsF l)).getD i Sg.zero).y0, F.int IntKind.i64 ((unSegs (segsF l)).getD i Sg.zero).x1, F.int IntKind.i64 ((unSegs (segsF l)).getD i Sg.zero).y1]))) px py) (nsD (unSegs (F.sl (unSegs (segsF l)).length (offF 0 fun i ↦ F.agg [F.int IntKind.i64 ((unSegs (segsF l)).getD i Sg.zero).x0, F.int IntKind.i64 ((unSegs (segsF l)).getD i Sg.zero).y0, F.int IntKind.i64 ((unSegs (segsF l)).getD i Sg.zero).x1, F.int IntKind.i64 ((unSegs (segsF l)).getD i Sg.zero).y1]))) px py) then wd3 (nsU (unSegs (F.sl (unSegs (segsF l)).length (offF 0 fun i ↦ F.agg [F.int IntKind.i64 ((unSegs (segsF l)).getD i Sg.zero).x0, F.int IntKind.i64 ((unSegs (segsF l)).getD i Sg.zero).y0, F.int IntKind.i64 ((unSegs (segsF l)).getD i Sg.zero).x1, F.int IntKind.i64 ((unSegs (segsF l)).getD i Sg.zero).y1]))) px py) else 0) (bif okT (nsU (unSegs (F.sl (unSegs (segsF l)).length (offF 0 fun i ↦ F.agg [F.int IntKind.i64 ((unSegs (segsF l)).getD i Sg.zero).x0, F.int IntKind.i64 ((unSegs (segsF l)).getD i Sg.zero).y0, F.int IntKind.i64 ((unSegs (segsF l)).getD i Sg.zero).x1, F.int IntKind.i64 ((unSegs (segsF l)).getD i Sg.zero).y1]))) px py) (nsD (unSegs (F.sl (unSegs (segsF l)).length (offF 0 fun i ↦ F.agg [F.int IntKind.i64 ((unSegs (segsF l)).getD i Sg.zero).x0, F.int IntKind.i64 ((unSegs (segsF l)).getD i Sg.zero).y0, F.int IntKind.i64 ((unSegs (segsF l)).getD i Sg.zero).x1, F.int IntKind.i64 ((unSegs (segsF l)).getD i Sg.zero).y1]))) px py) then wd2 (nsU (unSegs (F.sl (unSegs (segsF l)).length (offF 0 fun i ↦ F.agg [F.int IntKind.i64 ((unSegs (segsF l)).getD i Sg.zero).x0, F.int IntKind.i64 ((unSegs (segsF l)).getD i Sg.zero).y0, F.int IntKind.i64 ((unSegs (segsF l)).getD i Sg.zero).x1, F.int IntKind.i64 ((unSegs (segsF l)).getD i Sg.zero).y1]))) px py) else 0) (bif okT (nsU (unSegs (F.sl (unSegs (segsF l)).length (offF 0 fun i ↦ F.agg [F.int IntKind.i64 ((unSegs (segsF l)).getD i Sg.zero).x0, F.int IntKind.i64 ((unSegs (segsF l)).getD i Sg.zero).y0, F.int IntKind.i64 ((unSegs (segsF l)).getD i Sg.zero).x1, F.int IntKind.i64 ((unSegs (segsF l)).getD i Sg.zero).y1]))) px py) (nsD (unSegs (F.sl (unSegs (segsF l)).length (offF 0 fun i ↦ F.agg [F.int IntKind.i64 ((unSegs (segsF l)).getD i Sg.zero).x0, F.int IntKind.i64 ((unSegs (segsF l)).getD i Sg.zero).y0, F.int IntKind.i64 ((unSegs (segsF l)).getD i Sg.zero).x1, F.int IntKind.i64 ((unSegs (segsF l)).getD i Sg.zero).y1]))) px py) then wd1 (nsU (unSegs (F.sl (unSegs (segsF l)).length (offF 0 fun i ↦ F.agg [F.int IntKind.i64 ((unSegs (segsF l)).getD i Sg.zero).x0, F.int IntKind.i64 ((unSegs (segsF l)).getD i Sg.zero).y0, F.int IntKind.i64 ((unSegs (segsF l)).getD i Sg.zero).x1, F.int IntKind.i64 ((unSegs (segsF l)).getD i Sg.zero).y1]))) px py) else 0) (bif okT (nsU (unSegs (F.sl (unSegs (segsF l)).length (offF 0 fun i ↦ F.agg [F.int IntKind.i64 ((unSegs (segsF l)).getD i Sg.zero).x0, F.int IntKind.i64 ((unSegs (segsF l)).getD i Sg.zero).y0, F.int IntKind.i64 ((unSegs (segsF l)).getD i Sg.zero).x1, F.int IntKind.i64 ((unSegs (segsF l)).getD i Sg.zero).y1]))) px py) (nsD (unSegs (F.sl (unSegs (segsF l)).length (offF 0 fun i ↦ F.agg [F.int IntKind.i64 ((unSegs (segsF l)).getD i Sg.zero).x0, F.int IntKind.i64 ((unSegs (segsF l)).getD i Sg.zero).y0, F.int IntKind.i64 ((unSegs (segsF l)).getD i Sg.zero).x1, F.int IntKind.i64 ((unSegs (segsF l)).getD i Sg.zero).y1]))) px py) then wd0 (nsU (unSegs (F.sl (unSegs (segsF l)).length (offF 0 fun i ↦ F.agg [F.int IntKind.i64 ((unSegs (segsF l)).getD i Sg.zero).x0, F.int IntKind.i64 ((unSegs (segsF l)).getD i Sg.zero).y0, F.int IntKind.i64 ((unSegs (segsF l)).getD i Sg.zero).x1, F.int IntKind.i64 ((unSegs (segsF l)).getD i Sg.zero).y1]))) px py) else 0) (bif okT (nsU (unSegs (F.sl (unSegs (segsF l)).length (offF 0 fun i ↦ sgF ((unSegs (segsF l)).getD i Sg.zero)))) px py) (nsD (unSegs (F.sl (unSegs (segsF l)).length (offF 0 fun i ↦ sgF ((unSegs (segsF l)).getD i Sg.zero)))) px py) then wd3 (nsU (unSegs (F.sl (unSegs (segsF l)).length (offF 0 fun i ↦ sgF ((unSegs (segsF l)).getD i Sg.zero)))) px py) else 0) (bif okT (nsU (unSegs (F.sl (unSegs (segsF l)).length (offF 0 fun i ↦ sgF ((unSegs (segsF l)).getD i Sg.zero)))) px py) (nsD (unSegs (F.sl (unSegs (segsF l)).length (offF 0 fun i ↦ sgF ((unSegs (segsF l)).getD i Sg.zero)))) px py) then wd2 (nsU (unSegs (F.sl (unSegs (segsF l)).length (offF 0 fun i ↦ sgF ((unSegs (segsF l)).getD i Sg.zero)))) px py) else 0) (bif okT (nsU (unSegs (F.sl (unSegs (segsF l)).length (offF 0 fun i ↦ sgF ((unSegs (segsF l)).getD i Sg.zero)))) px py) (nsD (unSegs (F.sl (unSegs (segsF l)).length (offF 0 fun i ↦ sgF ((unSegs (segsF l)).getD i Sg.zero)))) px py) then wd1 (nsU (unSegs (F.sl (unSegs (segsF l)).length (offF 0 fun i ↦ sgF ((unSegs (segsF l)).getD i Sg.zero)))) px py) else 0) (bif okT (nsU (unSegs (F.sl (unSegs (segsF l)).length (offF 0 fun i ↦ sgF ((unSegs (segsF l)).getD i Sg.zero)))) px py) (nsD (unSegs (F.sl (unSegs (segsF l)).length (offF 0 fun i ↦ sgF ((unSegs (segsF l)).getD i Sg.zero)))) px py) then wd0 (nsU (unSegs (F.sl (unSegs (segsF l)).length (offF 0 fun i ↦ sgF ((unSegs (segsF l)).getD i Sg.zero)))) px py) else 0) && sameWV (bif okT (nsU (unSegs (F.sl (unSegs (segsF l)).length (offF 0 fun i ↦ F.agg [F.int IntKind.i64 ((unSegs (segsF l)).getD i Sg.zero).x0, F.int IntKind.i64 ((unSegs (segsF l)).getD i Sg.zero).y0, F.int IntKind.i64 ((unSegs (segsF l)).getD i Sg.zero).x1, F.int IntKind.i64 ((unSegs (segsF l)).getD i Sg.zero).y1]))) px py) (nsD (unSegs (F.sl (unSegs (segsF l)).length (offF 0 fun i ↦ F.agg [F.int IntKind.i64 ((unSegs (segsF l)).getD i Sg.zero).x0, F.int IntKind.i64 ((unSegs (segsF l)).getD i Sg.zero).y0, F.int IntKind.i64 ((unSegs (segsF l)).getD i Sg.zero).x1, F.int IntKind.i64 ((unSegs (segsF l)).getD i Sg.zero).y1]))) px py) then wd3 (nsD (unSegs (F.sl (unSegs (segsF l)).length (offF 0 fun i ↦ F.agg [F.int IntKind.i64 ((unSegs (segsF l)).getD i Sg.zero).x0, F.int IntKind.i64 ((unSegs (segsF l)).getD i Sg.zero).y0, F.int IntKind.i64 ((unSegs (segsF l)).getD i Sg.zero).x1, F.int IntKind.i64 ((unSegs (segsF l)).getD i Sg.zero).y1]))) px py) else 0) (bif okT (nsU (unSegs (F.sl (unSegs (segsF l)).length (offF 0 fun i ↦ F.agg [F.int IntKind.i64 ((unSegs (segsF l)).getD i Sg.zero).x0, F.int IntKind.i64 ((unSegs (segsF l)).getD i Sg.zero).y0, F.int IntKind.i64 ((unSegs (segsF l)).getD i Sg.zero).x1, F.int IntKind.i64 ((unSegs (segsF l)).getD i Sg.zero).y1]))) px py) (nsD (unSegs (F.sl (unSegs (segsF l)).length (offF 0 fun i ↦ F.agg [F.int IntKind.i64 ((unSegs (segsF l)).getD i Sg.zero).x0, F.int IntKind.i64 ((unSegs (segsF l)).getD i Sg.zero).y0, F.int IntKind.i64 ((unSegs (segsF l)).getD i Sg.zero).x1, F.int IntKind.i64 ((unSegs (segsF l)).getD i Sg.zero).y1]))) px py) then wd2 (nsD (unSegs (F.sl (unSegs (segsF l)).length (offF 0 fun i ↦ F.agg [F.int IntKind.i64 ((unSegs (segsF l)).getD i Sg.zero).x0, F.int IntKind.i64 ((unSegs (segsF l)).getD i Sg.zero).y0, F.int IntKind.i64 ((unSegs (segsF l)).getD i Sg.zero).x1, F.int IntKind.i64 ((unSegs (segsF l)).getD i Sg.zero).y1]))) px py) else 0) (bif okT (nsU (unSegs (F.sl (unSegs (segsF l)).length (offF 0 fun i ↦ F.agg [F.int IntKind.i64 ((unSegs (segsF l)).getD i Sg.zero).x0, F.int IntKind.i64 ((unSegs (segsF l)).getD i Sg.zero).y0, F.int IntKind.i64 ((unSegs (segsF l)).getD i Sg.zero).x1, F.int IntKind.i64 ((unSegs (segsF l)).getD i Sg.zero).y1]))) px py) (nsD (unSegs (F.sl (unSegs (segsF l)).length (offF 0 fun i ↦ F.agg [F.int IntKind.i64 ((unSegs (segsF l)).getD i Sg.zero).x0, F.int IntKind.i64 ((unSegs (segsF l)).getD i Sg.zero).y0, F.int IntKind.i64 ((unSegs (segsF l)).getD i Sg.zero).x1, F.int IntKind.i64 ((unSegs (segsF l)).getD i Sg.zero).y1]))) px py) then wd1 (nsD (unSegs (F.sl (unSegs (segsF l)).length (offF 0 fun i ↦ F.agg [F.int IntKind.i64 ((unSegs (segsF l)).getD i Sg.zero).x0, F.int IntKind.i64 ((unSegs (segsF l)).getD i Sg.zero).y0, F.int IntKind.i64 ((unSegs (segsF l)).getD i Sg.zero).x1, F.int IntKind.i64 ((unSegs (segsF l)).getD i Sg.zero).y1]))) px py) else 0) (bif okT (nsU (unSegs (F.sl (unSegs (segsF l)).length (offF 0 fun i ↦ F.agg [F.int IntKind.i64 ((unSegs (segsF l)).getD i Sg.zero).x0, F.int IntKind.i64 ((unSegs (segsF l)).getD i Sg.zero).y0, F.int IntKind.i64 ((unSegs (segsF l)).getD i Sg.zero).x1, F.int IntKind.i64 ((unSegs (segsF l)).getD i Sg.zero).y1]))) px py) (nsD (unSegs (F.sl (unSegs (segsF l)).length (offF 0 fun i ↦ F.agg [F.int IntKind.i64 ((unSegs (segsF l)).getD i Sg.zero).x0, F.int IntKind.i64 ((unSegs (segsF l)).getD i Sg.zero).y0, F.int IntKind.i64 ((unSegs (segsF l)).getD i Sg.zero).x1, F.int IntKind.i64 ((unSegs (segsF l)).getD i Sg.zero).y1]))) px py) then wd0 (nsD (unSegs (F.sl (unSegs (segsF l)).length (offF 0 fun i ↦ F.agg [F.int IntKind.i64 ((unSegs (segsF l)).getD i Sg.zero).x0, F.int IntKind.i64 ((unSegs (segsF l)).getD i Sg.zero).y0, F.int IntKind.i64 ((unSegs (segsF l)).getD i Sg.zero).x1, F.int IntKind.i64 ((unSegs (segsF l)).getD i Sg.zero).y1]))) px py) else 0) (bif okT (nsU (unSegs (F.sl (unSegs (segsF l)).length (offF 0 fun i ↦ sgF ((unSegs (segsF l)).getD i Sg.zero)))) px py) (nsD (unSegs (F.sl (unSegs (segsF l)).length (offF 0 fun i ↦ sgF ((unSegs (segsF l)).getD i Sg.zero)))) px py) then wd3 (nsD (unSegs (F.sl (unSegs (segsF l)).length (offF 0 fun i ↦ sgF ((unSegs (segsF l)).getD i Sg.zero)))) px py) else 0) (bif okT (nsU (unSegs (F.sl (unSegs (segsF l)).length (offF 0 fun i ↦ sgF ((unSegs (segsF l)).getD i Sg.zero)))) px py) (nsD (unSegs (F.sl (unSegs (segsF l)).length (offF 0 fun i ↦ sgF ((unSegs (segsF l)).getD i Sg.zero)))) px py) then wd2 (nsD (unSegs (F.sl (unSegs (segsF l)).length (offF 0 fun i ↦ sgF ((unSegs (segsF l)).getD i Sg.zero)))) px py) else 0) (bif okT (nsU (unSegs (F.sl (unSegs (segsF l)).length (offF 0 fun i ↦ sgF ((unSegs (segsF l)).getD i Sg.zero)))) px py) (nsD (unSegs (F.sl (unSegs (segsF l)).length (offF 0 fun i ↦ sgF ((unSegs (segsF l)).getD i Sg.zero)))) px py) then wd1 (nsD (unSegs (F.sl (unSegs (segsF l)).length (offF 0 fun i ↦ sgF ((unSegs (segsF l)).getD i Sg.zero)))) px py) else 0) (bif okT (nsU (unSegs (F.sl (unSegs (segsF l)).length (offF 0 fun i ↦ sgF ((unSegs (segsF l)).getD i Sg.zero)))) px py) (nsD (unSegs (F.sl (unSegs (segsF l)).length (offF 0 fun i ↦ sgF ((unSegs (segsF l)).getD i Sg.zero)))) px py) then wd0 (nsD (unSegs (F.sl (unSegs (segsF l)).length (offF 0 fun i ↦ sgF ((unSegs (segsF l)).getD i Sg.zero)))) px py) else 0))) == false)
            (bsel (!okT (nsU (unSegs (F.sl (unSegs (segsF l)).length (offF 0 fun i ↦ F.agg [F.int IntKind.i64 ((unSegs (segsF l)).getD i Sg.zero).x0, F.int IntKind.i64 ((unSegs (segsF l)).getD i Sg.zero).y0, F.int IntKind.i64 ((unSegs (segsF l)).getD i Sg.zero).x1, F.int IntKind.i64 ((unSegs (segsF l)).getD i Sg.zero).y1]))) px py) (nsD (unSegs (F.sl (unSegs (segsF l)).length (offF 0 fun i ↦ F.agg [F.int IntKind.i64 ((unSegs (segsF l)).getD i Sg.zero).x0, F.int IntKind.i64 ((unSegs (segsF l)).getD i Sg.zero).y0, F.int IntKind.i64 ((unSegs (segsF l)).getD i Sg.zero).x1, F.int IntKind.i64 ((unSegs (segsF l)).getD i Sg.zero).y1]))) px py) == okT (nsU (unSegs (F.sl (unSegs (segsF l)).length (offF 0 fun i ↦ sgF ((unSegs (segsF l)).getD i Sg.zero)))) px py) (nsD (unSegs (F.sl (unSegs (segsF l)).length (offF 0 fun i ↦ sgF ((unSegs (segsF l)).getD i Sg.zero)))) px py))
             (ret (false))
             (bsel (isSegs (segsF l) && shortSegsV (unSegs (segsF l)))
              (bsel (decide ((unSegs (segsF l)).length = (unSegs (segsF l)).length))
               (bsel (decide ((unSegs (segsF l)).length = (unSegs (segsF l)).length))
                (bsel (isSegs (F.sl (unSegs (segsF l)).length (offF 0 fun i ↦ F.agg [F.int IntKind.i64 ((unSegs (segsF l)).getD i Sg.zero).x0, F.int IntKind.i64 ((unSegs (segsF l)).getD i Sg.zero).y0, F.int IntKind.i64 ((unSegs (segsF l)).getD i Sg.zero).x1, F.int IntKind.i64 ((unSegs (segsF l)).getD i Sg.zero).y1])) && isSegs (F.sl (unSegs (segsF l)).length (offF 0 fun i ↦ sgF ((unSegs (segsF l)).getD i Sg.zero))) && shortSegsV (unSegs (F.sl (unSegs (segsF l)).length (offF 0 fun i ↦ F.agg [F.int IntKind.i64 ((unSegs (segsF l)).getD i Sg.zero).x0, F.int IntKind.i64 ((unSegs (segsF l)).getD i Sg.zero).y0, F.int IntKind.i64 ((unSegs (segsF l)).getD i Sg.zero).x1, F.int IntKind.i64 ((unSegs (segsF l)).getD i Sg.zero).y1]))))
                 (bsel (!sameSegsV (unSegs (F.sl (unSegs (segsF l)).length (offF 0 fun i ↦ F.agg [F.int IntKind.i64 ((unSegs (segsF l)).getD i Sg.zero).x0, F.int IntKind.i64 ((unSegs (segsF l)).getD i Sg.zero).y0, F.int IntKind.i64 ((unSegs (segsF l)).getD i Sg.zero).x1, F.int IntKind.i64 ((unSegs (segsF l)).getD i Sg.zero).y1]))) (unSegs (F.sl (unSegs (segsF l)).length (offF 0 fun i ↦ sgF ((unSegs (segsF l)).getD i Sg.zero)))))
                  (ret (false))
                  (ret (true)))
                 none)
                none)
               none)
              none))
            (ret (false)))
           (ret (false)))
          none)
         none)
        none)
       none)
      none)
     none))
   none)
def G3 (l : List Sg) (px : Int) (py : Int) : Option (Bool) := T3 some l px py
theorem t3 (l : List Sg) (px : Int) (py : Int) (r : Bool) (h : G3 l px py = some r) : Ends Try.prog Try.f3.results.toList [.code (bodyOf Try.f3)] (start Try.f3.ntmps ([segsF l, F.agg [F.int .i64 px, F.int .i64 py]].map .f)) (F.bool r) := by
  refine Ends.of_run tyOK envZ3_ok (T := []) (n := 200) ?_
  have e : run Try.prog (tiOf Try.prog) envZ3 [] 0 Try.f3.results.toList some 200 [.code (bodyOf Try.f3)] (start Try.f3.ntmps ([segsF l, F.agg [F.int .i64 px, F.int .i64 py]].map .f)) = T3 (fun r => some (.ret (F.bool r))) l px py := by kernel_rfl
  rw [e]
  exact (good_sel h (fun _ h => (good_sel h (fun _ h => good_ret (by cases h; rfl)) (fun _ h => (good_sel h (fun _ h => (good_sel h (fun _ h => (good_sel h (fun _ h => (good_sel h (fun _ h => (good_sel h (fun _ h => (good_sel h (fun _ h => (good_sel h (fun _ h => (good_sel h (fun _ h => (good_sel h (fun _ h => good_ret (by cases h; rfl)) (fun _ h => (good_sel h (fun _ h => (good_sel h (fun _ h => (good_sel h (fun _ h => (good_sel h (fun _ h => (good_sel h (fun _ h => good_ret (by cases h; rfl)) (fun _ h => good_ret (by cases h; rfl)))) (fun _ h => nomatch h))) (fun _ h => nomatch h))) (fun _ h => nomatch h))) (fun _ h => nomatch h))))) (fun _ h => good_ret (by cases h; rfl)))) (fun _ h => good_ret (by cases h; rfl)))) (fun _ h => nomatch h))) (fun _ h => nomatch h))) (fun _ h => nomatch h))) (fun _ h => nomatch h))) (fun _ h => nomatch h))) (fun _ h => nomatch h))))) (fun _ h => nomatch h))
theorem leftS_val {n : Nat} {k : Int} (hk : 0 ≤ k ∧ k ≤ 1048576) (hn : n ≤ 9223372036854775807) (h : ¬ leftV n k < 0) : (n : Int) ≤ k := by
  unfold leftV at h
  rw [wrapi (x := k - n) (by omega) (by omega)] at h
  by_cases hc : k - (n : Int) < 0
  · rw [decide_eq_true hc] at h; simp at h
  · omega
theorem nearestSeg_law (l : List Sg) (px py : Int) (hb : l.length ≤ 9223372036854775807) : G3 l px py = some true := by
  unfold G3 T3
  have off : ∀ g : Nat → F, offF 0 g = g := fun _ => rfl
  have e1 : ∀ l : List Sg, (F.sl l.length fun i => sgF (l.getD i Sg.zero)) = segsF l := fun _ => rfl
  have e2 : ∀ l : List Sg, (F.sl l.length fun i => F.agg [F.int IntKind.i64 (l.getD i Sg.zero).x0, F.int IntKind.i64 (l.getD i Sg.zero).y0, F.int IntKind.i64 (l.getD i Sg.zero).x1, F.int IntKind.i64 (l.getD i Sg.zero).y1]) = segsF l := fun _ => rfl
  simp only [isSegs_segsF, unSegs_segsF, bsel_true, off]
  by_cases hs : leftV l.length 1048576 < 0
  · rw [decide_eq_true hs]; rfl
  · have hlen := leftS_val ⟨by omega, by omega⟩ hb hs
    rw [decide_eq_false hs]
    have c1 : shortSegsV l = true := decide_eq_true (by omega)
    simp only [e1, e2, c1, isSegs_segsF, unSegs_segsF, bsel_true, bsel_false, sameSegs_refl, sameWV_refl, decide_true, Bool.and_self, Bool.and_true, Bool.true_and, Bool.not_true, Bool.not_false, beq_self_eq_true, bne_self_eq_false]
    try rfl
def boundSg (l : List Sg) : Bool := decide (l.length ≤ maxLen)
def preLawN : List F → Bool | [x, .agg [.int .i64 _, .int .i64 _]] => isSegs x && boundSg (unSegs x) | _ => false
theorem okFnNearestSeg : PureOK Try.prog 3 preLawN (fun _ => .bool true) :=
  fn_pure_at (c := bodyOf Try.f3) Try.func3 (by kernel_rfl) (by kernel_rfl) fun xs hp => match xs, hp with
  | [x, .agg [.int .i64 a, .int .i64 b]], hp => by
    simp only [preLawN, Bool.and_eq_true] at hp
    have hm : maxLen = 9223372036854775807 := by decide
    have h2 : (unSegs x).length ≤ maxLen := of_decide_eq_true hp.2
    exact ⟨[segsF (unSegs x), _], _, ⟨(segs_eqv hp.1).1, .refl _, trivial⟩, t3 _ _ _ _ (nearestSeg_law _ a b (by omega)), .refl _⟩

/-! The law's arguments, read. -/
def isSpot : F → Bool | .agg [.int .i64 _, .int .i64 _] => true | _ => false
def preSegsArg (x : F) : Bool := isSegs x && boundSg (unSegs x)
theorem preLawN_of {x0 x1 : F} (h0 : preSegsArg x0 = true) (h1 : isSpot x1 = true) : preLawN [x0, x1] = true := by
  unfold isSpot at h1
  split at h1
  · exact h0
  · cases h1
def shSg : List Sh := [.int .i64, .int .i64, .int .i64, .int .i64]
theorem fit_segs {x : F} (h : fitC (.sl true shSg) x = true) : preSegsArg x = true := by
  obtain ⟨n, g, rfl, h1, h2⟩ := fit_sl h
  unfold preSegsArg
  rw [Bool.and_eq_true]
  refine ⟨?_, decide_eq_true (by rw [unSegs, unSl_len]; exact h1)⟩
  simp only [isSegs, isSl, List.all_eq_true, List.mem_range]
  intro i hi
  obtain ⟨h3, h4⟩ := h2 i hi
  rw [agg_cells h4]
  obtain ⟨x1, r1, e, h5, h3⟩ := fit_cons h3
  obtain ⟨x2, r2, rfl, h6, h3⟩ := fit_cons h3
  obtain ⟨x3, r3, rfl, h7, h3⟩ := fit_cons h3
  obtain ⟨x4, r4, rfl, h8, h3⟩ := fit_cons h3
  obtain rfl := fit_nil h3
  obtain ⟨_, rfl⟩ := fit_int h5
  obtain ⟨_, rfl⟩ := fit_int h6
  obtain ⟨_, rfl⟩ := fit_int h7
  obtain ⟨_, rfl⟩ := fit_int h8
  rw [e]; rfl
theorem fit_spot {fs : List F} (h : fitL [.int .i64, .int .i64] fs = true) : isSpot (.agg fs) = true := by
  obtain ⟨x1, r1, rfl, h5, h3⟩ := fit_cons h
  obtain ⟨x2, r2, rfl, h6, h3⟩ := fit_cons h3
  obtain rfl := fit_nil h3
  obtain ⟨_, rfl⟩ := fit_int h5
  obtain ⟨_, rfl⟩ := fit_int h6
  rfl
theorem open_segs {H : Type} {enc : TypeId × Value → H} {W : World} {base : Nat} {v : Value} {d : DataW H} {ps : List MemPlace} (hval : Value.okWide Try.prog W .any base 22 v) (h : DataW.Trod enc Try.prog W 0 (fun _ => true) true 22 v d ps) :
    ∃ x, preSegsArg x = true ∧ RepF W (fun b => b < W.heap.size) x v := by
  obtain ⟨x, h1, h2⟩ := open_sliceF (k := 6) (s := .sl true shSg) Try.underlying22 (by kernel_rfl) hval h
  exact ⟨x, fit_segs h1, h2⟩
theorem open_spot {H : Type} {enc : TypeId × Value → H} {W : World} {base : Nat} {v : Value} {d : DataW H} {ps : List MemPlace} (hval : Value.okWide Try.prog W .any base 24 v) (h : DataW.Trod enc Try.prog W 0 (fun _ => true) true 24 v d ps) :
    ∃ x, isSpot x = true ∧ RepF W (fun b => b < W.heap.size) x v := by
  obtain ⟨fs, h1, h2⟩ := open_structF (k := 6) (l := [.int .i64, .int .i64]) Try.underlying24 (by kernel_rfl) hval h
  exact ⟨_, fit_spot h1, h2⟩
end
end Go.Proofs.Ytmambbfnjbdfgaa.R
