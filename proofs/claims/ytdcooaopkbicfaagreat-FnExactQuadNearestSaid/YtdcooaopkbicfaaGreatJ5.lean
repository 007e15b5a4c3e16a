/-
  The own walk and what it shows, part 5 of 8.
-/
import Derived.WalkKit
import Derived.Lib.Walk
import Derived.Lib.SliceRun
import Derived.OwnWalk
import Derived.Test.YtdcooaopkbicfaaGreatJ1
import Derived.Test.YtdcooaopkbicfaaGreatJ2
import Derived.Test.YtdcooaopkbicfaaGreatJ3
import Derived.Test.YtdcooaopkbicfaaGreatJ4
set_option linter.unusedVariables false
set_option linter.unusedSimpArgs false
set_option maxRecDepth 100000
set_option exponentiation.threshold 30000
namespace Go.Proofs.YtdcooaopkbicfaaGreat.R
open Go
noncomputable section
theorem range_read {m : Nat} {f : Nat → Nat} {l : List Nat} (hl : l.length = m) (hg : ∀ j, j < m → f j = l.getD j 0) : (List.range m).map f = l := by
  refine List.ext_getElem (by simp [hl]) fun j h1 h2 => ?_
  simp only [List.getElem_map, List.getElem_range]
  rw [hg j (by omega)]
  simp [List.getD, List.getElem?_eq_getElem h2]
theorem unWords_read {m : Nat} {g : Nat → F} {l : List Nat} (hl : l.length = m) (hg : ∀ j, j < m → g j = u64F (l.getD j 0)) : unWords (.sl m g) = l :=
  range_read hl fun j hj => by rw [hg j hj, unW64_u64F]
theorem isWords_read {m : Nat} {g : Nat → F} {l : List Nat} (hl : l.length = m) (hg : ∀ j, j < m → g j = u64F (l.getD j 0)) (ho : okD 18446744073709551616 l) : isWords (.sl m g) = true := by
  simp only [isWords, isSl, List.all_eq_true, List.mem_range]
  intro j hj
  rw [hg j hj]
  have := getD_lt ho (show j < l.length by omega)
  simp only [isW64, u64F, Bool.and_eq_true, decide_eq_true_eq]
  omega
theorem okD_app {B : Nat} {a b : List Nat} (ha : okD B a) (hb : okD B b) : okD B (a ++ b) := by
  intro w hw
  rcases List.mem_append.1 hw with h | h
  · exact ha w h
  · exact hb w h
theorem drop_cons {a : List Nat} {x : Nat} {rest : List Nat} {i : Nat} (h : a.drop i = x :: rest) : a.getD i 0 = x ∧ a.drop (i + 1) = rest ∧ i < a.length := by
  have hi : i < a.length := by
    rcases Nat.lt_or_ge i a.length with h1 | h1
    · exact h1
    · rw [List.drop_eq_nil_of_le h1] at h; cases h
  rw [List.drop_eq_getElem_cons hi] at h
  injection h with h1 h2
  exact ⟨by simp [List.getD, List.getElem?_eq_getElem hi, h1], h2, hi⟩
theorem headD_drop (b : List Nat) (i : Nat) : (b.drop i).headD 0 = b.getD i 0 := by
  rw [List.headD_eq_head?_getD, List.head?_drop]
  rfl
theorem tail_drop (b : List Nat) (i : Nat) : (b.drop i).tail = b.drop (i + 1) := by simp
theorem getD_beyond {b : List Nat} {i : Nat} (h : b.length ≤ i) : b.getD i 0 = 0 := by simp [List.getD, List.getElem?_eq_none h]
theorem getD_lt' {B : Nat} (hB : 0 < B) {l : List Nat} (h : okD B l) (j : Nat) : l.getD j 0 < B := by
  rcases Nat.lt_or_ge j l.length with hj | hj
  · exact getD_lt h hj
  · rw [getD_beyond hj]; exact hB
theorem u64_cells (n : Nat) : (u64F n).cells.length = 1 := rfl
theorem isAgg_or (x : F) : ((isAggF x || true) && true) = true := by simp
theorem add_words_cast {x y c : Nat} : addLo x y c = (((x + y + c) % 18446744073709551616 : Nat) : Int) ∧ addHi x y c = (((x + y + c) / 18446744073709551616 : Nat) : Int) := by
  unfold addLo addHi
  omega
theorem sub_words_cast {x y c : Nat} (hx : x < 18446744073709551616) (hy : y < 18446744073709551616) (hc : c ≤ 1) : subLo x y c = (((x + 18446744073709551616 - y - c) % 18446744073709551616 : Nat) : Int) ∧ subHi x y c = (((if x < y + c then 1 else 0 : Nat)) : Int) := by
  unfold subLo subHi
  refine ⟨by omega, ?_⟩
  by_cases h : x < y + c
  · rw [if_pos h, if_pos (by omega)]; rfl
  · rw [if_neg h, if_neg (by omega)]; rfl
theorem words_step {m i v : Nat} {g : Nat → F} {o : List Nat} (hi : o.length = i) (hg : ∀ j, j < m → g j = u64F (o.getD j 0)) :
    ∀ j, j < m → (fun j => if j = 0 + i then F.int .u64 (v : Int) else g j) j = u64F ((o ++ [v]).getD j 0) := by
  intro j hj
  show (if j = 0 + i then F.int .u64 (v : Int) else g j) = _
  subst hi
  by_cases h : j = 0 + o.length
  · rw [if_pos h, h, Nat.zero_add]
    simp [List.getD, u64F]
  · rw [if_neg h, hg j hj]
    rcases Nat.lt_or_ge j o.length with h1 | h1
    · simp [List.getD, List.getElem?_append_left h1]
    · rw [getD_beyond h1, getD_beyond (by simp; omega)]
/-! ### function 92 -/
def S92_5 (a : List Nat) (b : List Nat) (m : Nat) (n : Int) (i : Int) (c : Int) (g : Nat → F) : St := ⟨[(U.f (wordsF a)), (U.f (wordsF b)), .bad, .bad, .bad, (U.hs 0 m 0 m), (U.f (F.int .u64 c)), .bad, .bad, .bad, .bad, .bad, .bad, .bad, .bad, .bad, .bad, .bad, .bad, .bad, .bad, (U.f (F.int .i64 n)), (U.f (F.int .i64 i)), .bad, .bad, .bad, .bad, .bad, .bad, .bad, .bad, .bad, .bad, .bad, .bad, .bad, .bad, .bad, .bad, .bad, .bad, .bad, .bad, .bad, .bad, .bad, .bad, .bad, .bad, .bad, .bad, .bad, .bad, .bad], [HO.arr 1 m g]⟩
def T92_5 {ρ : Type} (ret : (List Nat) → Option ρ) (c5 : (List Nat) → (List Nat) → (Nat) → (Int) → (Int) → (Int) → (Nat → F) → Option ρ) (a : List Nat) (b : List Nat) (m : Nat) (n : Int) (i : Int) (c : Int) (g : Nat → F) : Option ρ :=
 (bsel (decide (i < n))
 (bsel (decide (i < (↑b.length : Int)))
 (bsel (decide (0 ≤ i))
 (bsel (decide (i < (↑b.length : Int)))
 (bsel (decide (0 ≤ i))
 (bsel (decide (i < (↑a.length : Int)))
 (bsel (isCarry (↑(a.getD i.toNat 0) : Int) (↑(b.getD i.toNat 0) : Int) c)
 (bsel (decide (m = m))
 (bsel (decide (0 ≤ i))
 (bsel (decide (i < (↑m : Int)))
 (bsel (decide (m = m))
 (bsel (decide (0 + i.toNat < m))
 (bsel (decide ((g (0 + i.toNat)).cells.length = 1))
 (bsel ((isAggF (g (0 + i.toNat)) || true) && true)
 (c5 (a) (b) (m) (n) (IntKind.i64.wrap (i + 1)) (addHi (↑(a.getD i.toNat 0) : Int) (↑(b.getD i.toNat 0) : Int) c) (fun j ↦ if j = 0 + i.toNat then F.int .u64 (addLo (↑(a.getD i.toNat 0) : Int) (↑(b.getD i.toNat 0) : Int) c) else g j))
 none)
 none)
 none)
 none)
 none)
 none)
 none)
 none)
 none)
 none)
 none)
 none)
 (bsel (decide (0 ≤ i))
 (bsel (decide (i < (↑a.length : Int)))
 (bsel (isCarry (↑(a.getD i.toNat 0) : Int) 0 c)
 (bsel (decide (m = m))
 (bsel (decide (0 ≤ i))
 (bsel (decide (i < (↑m : Int)))
 (bsel (decide (m = m))
 (bsel (decide (0 + i.toNat < m))
 (bsel (decide ((g (0 + i.toNat)).cells.length = 1))
 (bsel ((isAggF (g (0 + i.toNat)) || true) && true)
 (c5 (a) (b) (m) (n) (IntKind.i64.wrap (i + 1)) (addHi (↑(a.getD i.toNat 0) : Int) 0 c) (fun j ↦ if j = 0 + i.toNat then F.int .u64 (addLo (↑(a.getD i.toNat 0) : Int) 0 c) else g j))
 none)
 none)
 none)
 none)
 none)
 none)
 none)
 none)
 none)
 none))
 (bsel (decide (m = m))
 (bsel (decide ((↑a.length : Int) < (↑m : Int)))
 (bsel (decide (m = m))
 (bsel (decide (0 + (↑a.length : Int).toNat < m))
 (bsel (decide ((g (0 + (↑a.length : Int).toNat)).cells.length = 1))
 (bsel ((isAggF (g (0 + (↑a.length : Int).toNat)) || true) && true)
 (bsel (decide (m = m))
 (bsel (isWords (F.sl m (offF 0 fun j ↦ if j = 0 + (↑a.length : Int).toNat then F.int .u64 c else g j)) && decide ((unWords (F.sl m (offF 0 fun j ↦ if j = 0 + (↑a.length : Int).toNat then F.int .u64 c else g j))).length ≤ 1000))
 (ret (trimL (unWords (F.sl m (offF 0 fun j ↦ if j = 0 + (↑a.length : Int).toNat then F.int .u64 c else g j)))))
 none)
 none)
 none)
 none)
 none)
 none)
 none)
 none))
def L92_5 : Nat → (List Nat) → (List Nat) → (Nat) → (Int) → (Int) → (Int) → (Nat → F) → Option (List Nat)
  | 0, _, _, _, _, _, _, _ => none
  | k + 1, a, b, m, n, i, c, g => T92_5 some (L92_5 k) a b m n i c g
def T92 {ρ : Type} (ret : (List Nat) → Option ρ) (c5 : (List Nat) → (List Nat) → (Nat) → (Int) → (Int) → (Int) → (Nat → F) → Option ρ) (a : List Nat) (b : List Nat) : Option ρ :=
 (bsel (decide ((↑a.length : Int) < (↑b.length : Int)))
 (bsel (decide (0 ≤ IntKind.i64.wrap ((↑b.length : Int) + 1)))
 (bsel (decide (IntKind.i64.wrap ((↑b.length : Int) + 1) ≤ IntKind.i64.wrap ((↑b.length : Int) + 1)))
 (bsel (decide (IntKind.i64.wrap ((↑b.length : Int) + 1) * (((8 : Nat) : Int) + 1) ≤ (↑limit : Int)))
 (c5 (b) (a) ((IntKind.i64.wrap ((↑b.length : Int) + 1)).toNat) ((↑b.length : Int)) (0) (0) (fun x ↦ F.int .u64 0))
 none)
 none)
 none)
 (bsel (decide (0 ≤ IntKind.i64.wrap ((↑a.length : Int) + 1)))
 (bsel (decide (IntKind.i64.wrap ((↑a.length : Int) + 1) ≤ IntKind.i64.wrap ((↑a.length : Int) + 1)))
 (bsel (decide (IntKind.i64.wrap ((↑a.length : Int) + 1) * (((8 : Nat) : Int) + 1) ≤ (↑limit : Int)))
 (c5 (a) (b) ((IntKind.i64.wrap ((↑a.length : Int) + 1)).toNat) ((↑a.length : Int)) (0) (0) (fun x ↦ F.int .u64 0))
 none)
 none)
 none))
def G92 (k : Nat) (a : List Nat) (b : List Nat) : Option (List Nat) := T92 some (L92_5 k) a b
theorem t92_5 : ∀ (k : Nat) (a : List Nat) (b : List Nat) (m : Nat) (n : Int) (i : Int) (c : Int) (g : Nat → F) (r : List Nat), L92_5 k a b m n i c g = some r → Ends Tryz.prog Tryz.f92.results.toList (at_ Tryz.f92 5) (S92_5 a b m n i c g) (wordsF r)
  | 0, _, _, _, _, _, _, _, _, h => nomatch h
  | k + 1, a, b, m, n, i, c, g, r, h => by
    refine Ends.of_cut tyOK envN5_ok (T := [(5, [0, 1, 5, 6, 21, 22], 1000)]) (n := 200) ?_
    have e : runCut Tryz.prog (tiOf Tryz.prog) envN5 [(5, [0, 1, 5, 6, 21, 22], 1000)] 0 Tryz.f92.results.toList some 200 (at_ Tryz.f92 5) (S92_5 a b m n i c g) = T92_5 (fun r => some (.ret (wordsF r))) (fun a b m n i c g => some (.cut (at_ Tryz.f92 5) (S92_5 a b m n i c g))) a b m n i c g := by kernel_rfl
    rw [e]
    exact (good_sel h (fun _ h => (good_sel h (fun _ h => (good_sel h (fun _ h => (good_sel h (fun _ h => (good_sel h (fun _ h => (good_sel h (fun _ h => (good_sel h (fun _ h => (good_sel h (fun _ h => (good_sel h (fun _ h => (good_sel h (fun _ h => (good_sel h (fun _ h => (good_sel h (fun _ h => (good_sel h (fun _ h => (good_sel h (fun _ h => good_cut (t92_5 k _ _ _ _ _ _ _ r h)) (fun _ h => nomatch h))) (fun _ h => nomatch h))) (fun _ h => nomatch h))) (fun _ h => nomatch h))) (fun _ h => nomatch h))) (fun _ h => nomatch h))) (fun _ h => nomatch h))) (fun _ h => nomatch h))) (fun _ h => nomatch h))) (fun _ h => nomatch h))) (fun _ h => nomatch h))) (fun _ h => nomatch h))) (fun _ h => (good_sel h (fun _ h => (good_sel h (fun _ h => (good_sel h (fun _ h => (good_sel h (fun _ h => (good_sel h (fun _ h => (good_sel h (fun _ h => (good_sel h (fun _ h => (good_sel h (fun _ h => (good_sel h (fun _ h => (good_sel h (fun _ h => good_cut (t92_5 k _ _ _ _ _ _ _ r h)) (fun _ h => nomatch h))) (fun _ h => nomatch h))) (fun _ h => nomatch h))) (fun _ h => nomatch h))) (fun _ h => nomatch h))) (fun _ h => nomatch h))) (fun _ h => nomatch h))) (fun _ h => nomatch h))) (fun _ h => nomatch h))) (fun _ h => nomatch h))))) (fun _ h => (good_sel h (fun _ h => (good_sel h (fun _ h => (good_sel h (fun _ h => (good_sel h (fun _ h => (good_sel h (fun _ h => (good_sel h (fun _ h => (good_sel h (fun _ h => (good_sel h (fun _ h => good_ret (by cases h; rfl)) (fun _ h => nomatch h))) (fun _ h => nomatch h))) (fun _ h => nomatch h))) (fun _ h => nomatch h))) (fun _ h => nomatch h))) (fun _ h => nomatch h))) (fun _ h => nomatch h))) (fun _ h => nomatch h))))
theorem t92 (k : Nat) (a : List Nat) (b : List Nat) (r : List Nat) (h : G92 k a b = some r) : Ends Tryz.prog Tryz.f92.results.toList [.code (bodyOf Tryz.f92)] (start Tryz.f92.ntmps ([wordsF a, wordsF b].map .f)) (wordsF r) := by
  refine Ends.of_run tyOK envN5_ok (T := [(5, [0, 1, 5, 6, 21, 22], 1000)]) (n := 200) ?_
  have e : run Tryz.prog (tiOf Tryz.prog) envN5 [(5, [0, 1, 5, 6, 21, 22], 1000)] 0 Tryz.f92.results.toList some 200 [.code (bodyOf Tryz.f92)] (start Tryz.f92.ntmps ([wordsF a, wordsF b].map .f)) = T92 (fun r => some (.ret (wordsF r))) (fun a b m n i c g => some (.cut (at_ Tryz.f92 5) (S92_5 a b m n i c g))) a b := by kernel_rfl
  rw [e]
  exact (good_sel h (fun _ h => (good_sel h (fun _ h => (good_sel h (fun _ h => (good_sel h (fun _ h => good_cut (t92_5 k _ _ _ _ _ _ _ r h)) (fun _ h => nomatch h))) (fun _ h => nomatch h))) (fun _ h => nomatch h))) (fun _ h => (good_sel h (fun _ h => (good_sel h (fun _ h => (good_sel h (fun _ h => good_cut (t92_5 k _ _ _ _ _ _ _ r h)) (fun _ h => nomatch h))) (fun _ h => nomatch h))) (fun _ h => nomatch h))))
theorem limit_ok {n : Nat} (h : n ≤ 1000) : (n : Int) * (((8 : Nat) : Int) + 1) ≤ ((limit : Nat) : Int) := by
  rw [limit_eq]
  omega
theorem add_loop {a b : List Nat} (oa : okD 18446744073709551616 a) (ob : okD 18446744073709551616 b) (hn : a.length ≤ 900) : ∀ (rest : List Nat) (i c k : Nat) (o : List Nat) (g : Nat → F), a.drop i = rest → o.length = i → i + rest.length = a.length → c ≤ 1 → okD 18446744073709551616 o →
    (∀ j, j < a.length + 1 → g j = u64F (o.getD j 0)) → rest.length < k → L92_5 k a b (a.length + 1) a.length i c g = some (trimL (o ++ addL 18446744073709551616 rest (b.drop i) c))
  | _, _, _, 0, _, _, _, _, _, _, _, _, h => by omega
  | [], i, c, k + 1, o, g, hr, ho, hi, hc, oo, hg, _ => by
    simp only [List.length_nil, Nat.add_zero] at hi
    subst hi
    have hw := words_step (m := a.length + 1) (v := c) ho hg
    have hlen : (o ++ [c]).length = a.length + 1 := by simp [ho]
    have hok : okD 18446744073709551616 (o ++ [c]) := okD_app oo (by intro w hw; simp at hw; omega)
    simp only [L92_5]
    unfold T92_5
    rw [decide_eq_false (show ¬ (a.length : Int) < a.length by omega), bsel_false, decide_eq_true (show (a.length : Int) < ((a.length + 1 : Nat) : Int) by omega), Int.toNat_natCast, decide_eq_true (show a.length + 1 = a.length + 1 from rfl), decide_eq_true (show 0 + a.length < a.length + 1 by omega), isAgg_or, hg (0 + a.length) (by omega)]
    rw [show offF 0 (fun j => if j = 0 + a.length then F.int .u64 (c : Int) else g j) = (fun j => if j = 0 + a.length then F.int .u64 (c : Int) else g j) from rfl]
    rw [unWords_read hlen hw, isWords_read hlen hw hok, decide_eq_true (show (o ++ [c]).length ≤ 1000 by omega), decide_eq_true (u64_cells _)]
    rfl
  | x :: rest, i, c, k + 1, o, g, hr, ho, hi, hc, oo, hg, hk => by
    obtain ⟨hx, hr', hia⟩ := drop_cons hr
    have hxb := getD_lt oa hia
    have hyb := getD_lt' (by omega) ob i
    have hok : okD 18446744073709551616 (o ++ [(x + b.getD i 0 + c) % 18446744073709551616]) := okD_app oo (by intro w hw; simp at hw; omega)
    have go := add_loop oa ob hn rest (i + 1) ((x + b.getD i 0 + c) / 18446744073709551616) k (o ++ [(x + b.getD i 0 + c) % 18446744073709551616]) _ hr' (by simp [ho]) (by simp only [List.length_cons] at hi; omega) (by omega) hok (words_step ho hg) (by simp at hk; omega)
    have ei : IntKind.i64.wrap ((i : Int) + 1) = ((i + 1 : Nat) : Int) := by rw [wrapI (by omega) (by omega)]; omega
    have goal : L92_5 k a b (a.length + 1) a.length ((i + 1 : Nat) : Int) (addHi (a.getD i 0 : Int) (b.getD i 0 : Int) c) (fun j => if j = 0 + i then F.int .u64 (addLo (a.getD i 0 : Int) (b.getD i 0 : Int) c) else g j) = some (trimL (o ++ addL 18446744073709551616 (x :: rest) (b.drop i) c)) := by
      rw [hx, (add_words_cast).1, (add_words_cast).2, go]
      simp only [addL, headD_drop, tail_drop, List.append_assoc, List.singleton_append]
    have cr : isCarry (a.getD i 0 : Int) (b.getD i 0 : Int) c = true := isCarry_iff.2 (by omega)
    simp only [L92_5]
    unfold T92_5
    rw [decide_eq_true (show (i : Int) < a.length by omega), decide_eq_true (show (0 : Int) ≤ i by omega), decide_eq_true (show (i : Int) < ((a.length + 1 : Nat) : Int) by omega), Int.toNat_natCast, decide_eq_true (show 0 + i < a.length + 1 by omega), isAgg_or, hg (0 + i) (by omega), decide_eq_true (u64_cells _), decide_eq_true (show a.length + 1 = a.length + 1 from rfl), ei]
    rcases Nat.lt_or_ge i b.length with hib | hib
    · rw [decide_eq_true (show (i : Int) < b.length by omega)]
      simp only [bsel_true]
      rw [cr]
      exact goal
    · rw [decide_eq_false (show ¬ (i : Int) < b.length by omega)]
      rw [getD_beyond hib] at cr goal
      simp only [bsel_true, bsel_false]
      have cr' : isCarry (a.getD i 0 : Int) 0 c = true := cr
      rw [cr']
      exact goal
theorem addWords_law {a b : List Nat} (oa : okD 18446744073709551616 a) (ob : okD 18446744073709551616 b) (ha : a.length ≤ 900) (hb : b.length ≤ 900) : G92 1000 a b = some (digs 18446744073709551616 (val 18446744073709551616 a + val 18446744073709551616 b)) := by
  have key : ∀ {a b : List Nat}, okD 18446744073709551616 a → okD 18446744073709551616 b → a.length ≤ 900 → b.length ≤ a.length → L92_5 1000 a b (a.length + 1) a.length 0 0 (fun _ => F.int .u64 0) = some (digs 18446744073709551616 (val 18446744073709551616 a + val 18446744073709551616 b)) := fun {a b} oa ob ha hb => by
    refine (add_loop oa ob ha a 0 0 1000 [] (fun _ => F.int .u64 0) rfl rfl (by simp) (by omega) (by intro w hw; simp at hw) (fun j hj => rfl) (by omega)).trans ?_
    simp only [List.nil_append, List.drop_zero]
    rw [digs_trimL (B := 18446744073709551616) (by omega) (okD_addL (by omega) _ _ _ oa ob (by omega)), val_addL 18446744073709551616 a b 0 hb, Nat.add_zero]
  unfold G92 T92
  have e : ∀ l : List Nat, l.length ≤ 900 → IntKind.i64.wrap ((l.length : Int) + 1) = ((l.length + 1 : Nat) : Int) := fun l hl => by rw [wrapI (by omega) (by omega)]; omega
  rw [e a ha, e b hb, decide_eq_true (limit_ok (show a.length + 1 ≤ 1000 by omega)), decide_eq_true (limit_ok (show b.length + 1 ≤ 1000 by omega))]
  rw [decide_eq_true (show (0 : Int) ≤ ((a.length + 1 : Nat) : Int) by omega), decide_eq_true (show (0 : Int) ≤ ((b.length + 1 : Nat) : Int) by omega), decide_eq_true (Int.le_refl _), decide_eq_true (Int.le_refl _), Int.toNat_natCast, Int.toNat_natCast]
  simp only [bsel_true]
  by_cases h : a.length < b.length
  · rw [decide_eq_true (show (a.length : Int) < b.length by omega), bsel_true, key ob oa hb (by omega), Nat.add_comm]
  · rw [decide_eq_false (show ¬ (a.length : Int) < b.length by omega), bsel_false, key oa ob ha (by omega)]
/-! ### function 94 -/
def S94_3 (a : List Nat) (b : List Nat) (m : Nat) (n : Int) (i : Int) (c : Int) (g : Nat → F) : St := ⟨[(U.f (wordsF a)), (U.f (wordsF b)), .bad, .bad, .bad, (U.hs 0 m 0 m), (U.f (F.int .u64 c)), .bad, .bad, .bad, .bad, .bad, .bad, (U.f (F.int .i64 n)), (U.f (F.int .i64 i)), .bad, .bad, .bad, .bad, .bad, .bad, .bad, .bad, .bad, .bad, .bad, .bad, .bad, .bad, .bad, .bad, .bad, .bad, .bad, .bad, .bad, .bad, .bad, .bad, .bad, .bad], [HO.arr 1 m g]⟩
def T94_3 {ρ : Type} (ret : (List Nat) → Option ρ) (c3 : (List Nat) → (List Nat) → (Nat) → (Int) → (Int) → (Int) → (Nat → F) → Option ρ) (a : List Nat) (b : List Nat) (m : Nat) (n : Int) (i : Int) (c : Int) (g : Nat → F) : Option ρ :=
 (bsel (decide (i < n))
 (bsel (decide (i < (↑b.length : Int)))
 (bsel (decide (0 ≤ i))
 (bsel (decide (i < (↑b.length : Int)))
 (bsel (decide (0 ≤ i))
 (bsel (decide (i < (↑a.length : Int)))
 (bsel (isCarry (↑(a.getD i.toNat 0) : Int) (↑(b.getD i.toNat 0) : Int) c)
 (bsel (decide (m = m))
 (bsel (decide (0 ≤ i))
 (bsel (decide (i < (↑m : Int)))
 (bsel (decide (m = m))
 (bsel (decide (0 + i.toNat < m))
 (bsel (decide ((g (0 + i.toNat)).cells.length = 1))
 (bsel ((isAggF (g (0 + i.toNat)) || true) && true)
 (c3 (a) (b) (m) (n) (IntKind.i64.wrap (i + 1)) (subHi (↑(a.getD i.toNat 0) : Int) (↑(b.getD i.toNat 0) : Int) c) (fun j ↦ if j = 0 + i.toNat then F.int .u64 (subLo (↑(a.getD i.toNat 0) : Int) (↑(b.getD i.toNat 0) : Int) c) else g j))
 none)
 none)
 none)
 none)
 none)
 none)
 none)
 none)
 none)
 none)
 none)
 none)
 (bsel (decide (0 ≤ i))
 (bsel (decide (i < (↑a.length : Int)))
 (bsel (isCarry (↑(a.getD i.toNat 0) : Int) 0 c)
 (bsel (decide (m = m))
 (bsel (decide (0 ≤ i))
 (bsel (decide (i < (↑m : Int)))
 (bsel (decide (m = m))
 (bsel (decide (0 + i.toNat < m))
 (bsel (decide ((g (0 + i.toNat)).cells.length = 1))
 (bsel ((isAggF (g (0 + i.toNat)) || true) && true)
 (c3 (a) (b) (m) (n) (IntKind.i64.wrap (i + 1)) (subHi (↑(a.getD i.toNat 0) : Int) 0 c) (fun j ↦ if j = 0 + i.toNat then F.int .u64 (subLo (↑(a.getD i.toNat 0) : Int) 0 c) else g j))
 none)
 none)
 none)
 none)
 none)
 none)
 none)
 none)
 none)
 none))
 (bsel (decide (m = m))
 (bsel (isWords (F.sl m (offF 0 g)) && decide ((unWords (F.sl m (offF 0 g))).length ≤ 1000))
 (ret (trimL (unWords (F.sl m (offF 0 g)))))
 none)
 none))
def L94_3 : Nat → (List Nat) → (List Nat) → (Nat) → (Int) → (Int) → (Int) → (Nat → F) → Option (List Nat)
  | 0, _, _, _, _, _, _, _ => none
  | k + 1, a, b, m, n, i, c, g => T94_3 some (L94_3 k) a b m n i c g
def T94 {ρ : Type} (ret : (List Nat) → Option ρ) (c3 : (List Nat) → (List Nat) → (Nat) → (Int) → (Int) → (Int) → (Nat → F) → Option ρ) (a : List Nat) (b : List Nat) : Option ρ :=
 (bsel (decide ((↑a.length : Int) ≤ (↑a.length : Int)))
 (bsel (decide ((↑a.length : Int) * (((8 : Nat) : Int) + 1) ≤ (↑limit : Int)))
 (c3 (a) (b) ((↑a.length : Int).toNat) ((↑a.length : Int)) (0) (0) (fun x ↦ F.int .u64 0))
 none)
 none)
def G94 (k : Nat) (a : List Nat) (b : List Nat) : Option (List Nat) := T94 some (L94_3 k) a b
theorem t94_3 : ∀ (k : Nat) (a : List Nat) (b : List Nat) (m : Nat) (n : Int) (i : Int) (c : Int) (g : Nat → F) (r : List Nat), L94_3 k a b m n i c g = some r → Ends Tryz.prog Tryz.f94.results.toList (at_ Tryz.f94 3) (S94_3 a b m n i c g) (wordsF r)
  | 0, _, _, _, _, _, _, _, _, h => nomatch h
  | k + 1, a, b, m, n, i, c, g, r, h => by
    refine Ends.of_cut tyOK envN5_ok (T := [(3, [0, 1, 5, 6, 13, 14], 1000)]) (n := 200) ?_
    have e : runCut Tryz.prog (tiOf Tryz.prog) envN5 [(3, [0, 1, 5, 6, 13, 14], 1000)] 0 Tryz.f94.results.toList some 200 (at_ Tryz.f94 3) (S94_3 a b m n i c g) = T94_3 (fun r => some (.ret (wordsF r))) (fun a b m n i c g => some (.cut (at_ Tryz.f94 3) (S94_3 a b m n i c g))) a b m n i c g := by kernel_rfl
    rw [e]
    exact (good_sel h (fun _ h => (good_sel h (fun _ h => (good_sel h (fun _ h => (good_sel h (fun _ h => (good_sel h (fun _ h => (good_sel h (fun _ h => (good_sel h (fun _ h => (good_sel h (fun _ h => (good_sel h (fun _ h => (good_sel h (fun _ h => (good_sel h (fun _ h => (good_sel h (fun _ h => (good_sel h (fun _ h => (good_sel h (fun _ h => good_cut (t94_3 k _ _ _ _ _ _ _ r h)) (fun _ h => nomatch h))) (fun _ h => nomatch h))) (fun _ h => nomatch h))) (fun _ h => nomatch h))) (fun _ h => nomatch h))) (fun _ h => nomatch h))) (fun _ h => nomatch h))) (fun _ h => nomatch h))) (fun _ h => nomatch h))) (fun _ h => nomatch h))) (fun _ h => nomatch h))) (fun _ h => nomatch h))) (fun _ h => (good_sel h (fun _ h => (good_sel h (fun _ h => (good_sel h (fun _ h => (good_sel h (fun _ h => (good_sel h (fun _ h => (good_sel h (fun _ h => (good_sel h (fun _ h => (good_sel h (fun _ h => (good_sel h (fun _ h => (good_sel h (fun _ h => good_cut (t94_3 k _ _ _ _ _ _ _ r h)) (fun _ h => nomatch h))) (fun _ h => nomatch h))) (fun _ h => nomatch h))) (fun _ h => nomatch h))) (fun _ h => nomatch h))) (fun _ h => nomatch h))) (fun _ h => nomatch h))) (fun _ h => nomatch h))) (fun _ h => nomatch h))) (fun _ h => nomatch h))))) (fun _ h => (good_sel h (fun _ h => (good_sel h (fun _ h => good_ret (by cases h; rfl)) (fun _ h => nomatch h))) (fun _ h => nomatch h))))
theorem t94 (k : Nat) (a : List Nat) (b : List Nat) (r : List Nat) (h : G94 k a b = some r) : Ends Tryz.prog Tryz.f94.results.toList [.code (bodyOf Tryz.f94)] (start Tryz.f94.ntmps ([wordsF a, wordsF b].map .f)) (wordsF r) := by
  refine Ends.of_run tyOK envN5_ok (T := [(3, [0, 1, 5, 6, 13, 14], 1000)]) (n := 200) ?_
  have e : run Tryz.prog (tiOf Tryz.prog) envN5 [(3, [0, 1, 5, 6, 13, 14], 1000)] 0 Tryz.f94.results.toList some 200 [.code (bodyOf Tryz.f94)] (start Tryz.f94.ntmps ([wordsF a, wordsF b].map .f)) = T94 (fun r => some (.ret (wordsF r))) (fun a b m n i c g => some (.cut (at_ Tryz.f94 3) (S94_3 a b m n i c g))) a b := by kernel_rfl
  rw [e]
  exact (good_sel h (fun _ h => (good_sel h (fun _ h => good_cut (t94_3 k _ _ _ _ _ _ _ r h)) (fun _ h => nomatch h))) (fun _ h => nomatch h))
theorem sub_loop {a b : List Nat} (oa : okD 18446744073709551616 a) (ob : okD 18446744073709551616 b) (hn : a.length ≤ 1000) : ∀ (rest : List Nat) (i c k : Nat) (o : List Nat) (g : Nat → F), a.drop i = rest → o.length = i → i + rest.length = a.length → c ≤ 1 → okD 18446744073709551616 o →
    (∀ j, j < a.length → g j = u64F (o.getD j 0)) → rest.length < k → L94_3 k a b a.length a.length i c g = some (trimL (o ++ subL 18446744073709551616 rest (b.drop i) c))
  | _, _, _, 0, _, _, _, _, _, _, _, _, h => by omega
  | [], i, c, k + 1, o, g, hr, ho, hi, hc, oo, hg, _ => by
    simp only [List.length_nil, Nat.add_zero] at hi
    subst hi
    simp only [L94_3]
    unfold T94_3
    rw [decide_eq_false (show ¬ (a.length : Int) < a.length by omega), bsel_false, decide_eq_true (show a.length = a.length from rfl)]
    rw [show offF 0 g = g from rfl, unWords_read ho hg, isWords_read ho hg oo, decide_eq_true (show o.length ≤ 1000 by omega)]
    simp only [subL, List.append_nil]
    rfl
  | x :: rest, i, c, k + 1, o, g, hr, ho, hi, hc, oo, hg, hk => by
    obtain ⟨hx, hr', hia⟩ := drop_cons hr
    have hxb := getD_lt oa hia
    have hyb := getD_lt' (by omega) ob i
    have hok : okD 18446744073709551616 (o ++ [(x + 18446744073709551616 - b.getD i 0 - c) % 18446744073709551616]) := okD_app oo (by intro w hw; simp at hw; omega)
    have go := sub_loop oa ob hn rest (i + 1) (if x < b.getD i 0 + c then 1 else 0) k (o ++ [(x + 18446744073709551616 - b.getD i 0 - c) % 18446744073709551616]) _ hr' (by simp [ho]) (by simp only [List.length_cons] at hi; omega) (by split <;> omega) hok (words_step ho hg) (by simp at hk; omega)
    have ei : IntKind.i64.wrap ((i : Int) + 1) = ((i + 1 : Nat) : Int) := by rw [wrapI (by omega) (by omega)]; omega
    have goal : L94_3 k a b a.length a.length ((i + 1 : Nat) : Int) (subHi (a.getD i 0 : Int) (b.getD i 0 : Int) c) (fun j => if j = 0 + i then F.int .u64 (subLo (a.getD i 0 : Int) (b.getD i 0 : Int) c) else g j) = some (trimL (o ++ subL 18446744073709551616 (x :: rest) (b.drop i) c)) := by
      rw [hx] at hxb ⊢
      rw [(sub_words_cast hxb hyb hc).1, (sub_words_cast hxb hyb hc).2, go]
      simp only [subL, headD_drop, tail_drop, List.append_assoc, List.singleton_append]
    have cr : isCarry (a.getD i 0 : Int) (b.getD i 0 : Int) c = true := isCarry_iff.2 (by omega)
    simp only [L94_3]
    unfold T94_3
    rw [decide_eq_true (show (i : Int) < a.length by omega), decide_eq_true (show (0 : Int) ≤ i by omega), Int.toNat_natCast, decide_eq_true (show 0 + i < a.length by omega), isAgg_or, hg (0 + i) (by omega), decide_eq_true (u64_cells _), decide_eq_true (show a.length = a.length from rfl), ei]
    rcases Nat.lt_or_ge i b.length with hib | hib
    · rw [decide_eq_true (show (i : Int) < b.length by omega)]
      simp only [bsel_true]
      rw [cr]
      exact goal
    · rw [decide_eq_false (show ¬ (i : Int) < b.length by omega)]
      rw [getD_beyond hib] at cr goal
      simp only [bsel_true, bsel_false]
      have cr' : isCarry (a.getD i 0 : Int) 0 c = true := cr
      rw [cr']
      exact goal
theorem subWords_law {a b : List Nat} (oa : okD 18446744073709551616 a) (ob : okD 18446744073709551616 b) (ha : a.length ≤ 1000) (hb : b.length ≤ a.length) (hv : val 18446744073709551616 b ≤ val 18446744073709551616 a) : G94 2000 a b = some (digs 18446744073709551616 (val 18446744073709551616 a - val 18446744073709551616 b)) := by
  unfold G94 T94
  rw [decide_eq_true (Int.le_refl _), decide_eq_true (limit_ok ha), Int.toNat_natCast]
  simp only [bsel_true]
  refine (sub_loop oa ob ha a 0 0 2000 [] (fun _ => F.int .u64 0) rfl rfl (by simp) (by omega) (by intro w hw; simp at hw) (fun j hj => rfl) (by omega)).trans ?_
  simp only [List.nil_append, List.drop_zero]
  have := val_subL (B := 18446744073709551616) (by omega) a b 0 oa ob (by omega) hb (by omega)
  rw [digs_trimL (B := 18446744073709551616) (by omega) (okD_subL (by omega) _ _ _), show val 18446744073709551616 (subL 18446744073709551616 a b 0) = val 18446744073709551616 a - val 18446744073709551616 b by omega]
def lenOk (n : Nat) : F → Bool | .sl m _ => Nat.ble m n | _ => false
theorem lenOk_iff {n : Nat} {x : F} (hx : isWords x = true) (h : lenOk n x = true) : (unWords x).length ≤ n := by
  cases x with
  | sl m g => simpa [unWords, unSl, lenOk] using h
  | _ => simp [isWords, isSl] at hx
theorem lenOk_wordsF {n : Nat} {l : List Nat} : lenOk n (wordsF l) = Nat.ble l.length n := rfl
def preAddW : List F → Bool | [x, y] => isWords x && lenOk 900 x && (isWords y && lenOk 900 y) | _ => false
def resAddW : List F → F | [x, y] => wordsF (digs 18446744073709551616 (val 18446744073709551616 (unWords x) + val 18446744073709551616 (unWords y))) | _ => .dflt
def subOk (a b : List Nat) : Bool := Nat.ble b.length a.length && Nat.ble (val 18446744073709551616 b) (val 18446744073709551616 a)
def preSubW : List F → Bool | [x, y] => isWords x && lenOk 900 x && (isWords y && subOk (unWords x) (unWords y)) | _ => false
def resSubW : List F → F | [x, y] => wordsF (digs 18446744073709551616 (val 18446744073709551616 (unWords x) - val 18446744073709551616 (unWords y))) | _ => .dflt
theorem okAddW : PureOK Tryz.prog 92 preAddW resAddW :=
  fn_pure_at (c := bodyOf Tryz.f92) Tryz.func92 (by kernel_rfl) (by kernel_rfl) fun xs hp => match xs, hp with
  | [x, y], hp => by
    simp only [preAddW, Bool.and_eq_true] at hp
    obtain ⟨⟨hx, hxl⟩, hy, hyl⟩ := hp
    exact ⟨[wordsF (unWords x), wordsF (unWords y)], _, ⟨(words_eqv hx).1, (words_eqv hy).1, trivial⟩, t92 1000 _ _ _ (addWords_law (okD_unWords hx) (okD_unWords hy) (lenOk_iff hx hxl) (lenOk_iff hy hyl)), .refl _⟩
theorem okSubW : PureOK Tryz.prog 94 preSubW resSubW :=
  fn_pure_at (c := bodyOf Tryz.f94) Tryz.func94 (by kernel_rfl) (by kernel_rfl) fun xs hp => match xs, hp with
  | [x, y], hp => by
    simp only [preSubW, subOk, Bool.and_eq_true, Nat.ble_eq] at hp
    obtain ⟨⟨hx, hxl⟩, hy, h1, h2⟩ := hp
    exact ⟨[wordsF (unWords x), wordsF (unWords y)], _, ⟨(words_eqv hx).1, (words_eqv hy).1, trivial⟩, t94 2000 _ _ _ (subWords_law (okD_unWords hx) (okD_unWords hy) (Nat.le_trans (lenOk_iff hx hxl) (by omega)) h1 h2), .refl _⟩
/-! ### function 46 -/
def T46 {ρ : Type} (ret : (Int) → Option ρ) (z : Int) : Option ρ :=
 (bsel (decide (z < 0))
 (ret (-1))
 (bsel (decide ((↑(digs 18446744073709551616 z.natAbs).length : Int) > 0))
 (ret (1))
 (ret (0))))
def G46 (z : Int) : Option (Int) := T46 some z
theorem t46 (z : Int) (r : Int) (h : G46 z = some r) : Ends Tryz.prog Tryz.f46.results.toList [.code (bodyOf Tryz.f46)] (start Tryz.f46.ntmps ([numF z].map .f)) (F.int .i64 r) := by
  refine Ends.of_run tyOK envN5_ok (T := []) (n := 200) ?_
  have e : run Tryz.prog (tiOf Tryz.prog) envN5 [] 0 Tryz.f46.results.toList some 200 [.code (bodyOf Tryz.f46)] (start Tryz.f46.ntmps ([numF z].map .f)) = T46 (fun r => some (.ret (F.int .i64 r))) z := by kernel_rfl
  rw [e]
  exact (good_sel h (fun _ h => good_ret (by cases h; rfl)) (fun _ h => (good_sel h (fun _ h => good_ret (by cases h; rfl)) (fun _ h => good_ret (by cases h; rfl)))))
theorem digs_nil {n : Nat} : digs 18446744073709551616 n = [] ↔ n = 0 := by
  constructor
  · intro h
    have := val_digs (B := 18446744073709551616) (by omega) n
    rw [h] at this
    exact this.symm
  · rintro rfl; exact digs_zero _
theorem digs_len_pos {n : Nat} : ((digs 18446744073709551616 n).length : Int) > 0 ↔ n ≠ 0 := by
  rw [ne_eq, ← digs_nil, ← List.length_eq_zero_iff]
  omega
theorem sign_law (z : Int) : G46 z = some z.sign := by
  unfold G46 T46
  rcases Int.lt_trichotomy z 0 with h | h | h
  · rw [decide_eq_true h, Int.sign_eq_neg_one_of_neg h]; rfl
  · subst h
    rw [decide_eq_false (by omega), bsel_false, decide_eq_false (by rw [digs_len_pos]; simp)]
    rfl
  · rw [decide_eq_false (by omega), bsel_false, decide_eq_true (by rw [digs_len_pos]; omega), Int.sign_eq_one_of_pos h]; rfl
def envN6 : Env := (envN5.add 92 (.pure preAddW resAddW)).add 94 (.pure preSubW resSubW)
theorem envN6_ok : EnvOK Tryz.prog envN6 := (Env.add_ok (Env.add_ok envN5_ok okAddW.sp) okSubW.sp)
end
end Go.Proofs.YtdcooaopkbicfaaGreat.R
namespace Go.Proofs.YtdcooaopkbicfaaGreat.R
open Go
noncomputable section
def trimOk (l : List Nat) : Bool := match l.getLast? with | some 0 => false | _ => true
theorem trimOk_iff {l : List Nat} : trimOk l = true ↔ trimD l := by
  unfold trimOk trimD
  split
  · rename_i h; simp [h]
  · rename_i h; simp; exact fun e => h e
def isNum (n : Nat) : F → Bool | .agg [.bool s, x] => isWords x && lenOk n x && (trimOk (unWords x) && (!s || !lenOk 0 x)) | _ => false
def sgn (s : Bool) (n : Nat) : Int := if s then -(n : Int) else n
def unNum : F → Int | .agg [.bool s, x] => sgn s (val 18446744073709551616 (unWords x)) | _ => 0
theorem digs_words {x : F} (hx : isWords x = true) (ht : trimD (unWords x)) : digs 18446744073709551616 (val 18446744073709551616 (unWords x)) = unWords x := digs_val (by omega) (okD_unWords hx) ht
theorem digs_len {n k : Nat} (h : n < 18446744073709551616 ^ k) : (digs 18446744073709551616 n).length ≤ k := by
  rcases Nat.lt_or_ge k (digs 18446744073709551616 n).length with hk | hk
  · exfalso
    have h1 := val_longer (B := 18446744073709551616) (a := List.replicate k (18446744073709551616 - 1)) (b := digs 18446744073709551616 n) (by omega) (fun w hw => by have := (List.mem_replicate.1 hw).2; omega) (trimD_digs (by omega) n) (by simpa using hk)
    have h2 : ∀ k : Nat, val 18446744073709551616 (List.replicate k (18446744073709551616 - 1)) + 1 = 18446744073709551616 ^ k := by
      intro k
      induction k with
      | zero => rfl
      | succ k ih =>
        simp only [List.replicate_succ, val, Nat.pow_succ, ← ih]
        omega
    rw [val_digs (by omega)] at h1
    have := h2 k
    omega
  · exact hk
theorem sgn_natAbs (s : Bool) (n : Nat) : (sgn s n).natAbs = n := by cases s <;> simp [sgn]
theorem sgn_neg (s : Bool) (n : Nat) : decide (sgn s n < 0) = (s && decide (n ≠ 0)) := by
  cases s
  · simp only [sgn, Bool.false_eq_true, if_false, Bool.false_and]
    exact decide_eq_false (by omega)
  · simp only [sgn, if_true, Bool.true_and]
    by_cases h : n = 0
    · rw [decide_eq_false (by omega), decide_eq_false (by omega)]
    · rw [decide_eq_true (by omega), decide_eq_true h]
theorem sgn_sign (z : Int) : sgn (decide (z < 0)) z.natAbs = z := by
  unfold sgn
  split <;> simp at * <;> omega
theorem sgn_zero (s : Bool) : sgn s 0 = 0 := by cases s <;> rfl
theorem lenOk_zero {x : F} (hx : isWords x = true) : lenOk 0 x = true ↔ unWords x = [] := by
  cases x with
  | sl m g => simp [lenOk, unWords, unSl]
  | _ => simp [isWords, isSl] at hx
theorem num_form {n : Nat} {x : F} (h : isNum n x = true) : ∃ s y, x = .agg [.bool s, y] ∧ isWords y = true ∧ numF (unNum x) = .agg [.bool s, wordsF (unWords y)] := by
  unfold isNum at h
  split at h
  · rename_i s y
    simp only [Bool.and_eq_true, trimOk_iff] at h
    obtain ⟨⟨hy, hl⟩, ht, hs⟩ := h
    have e : numF (unNum (.agg [.bool s, y])) = .agg [.bool s, wordsF (unWords y)] := by
      rw [show unNum (.agg [.bool s, y]) = sgn s (val 18446744073709551616 (unWords y)) from rfl]
      unfold numF
      rw [sgn_natAbs, sgn_neg, digs_words hy ht]
      congr 2
      cases s with
      | false => rfl
      | true =>
        simp only [Bool.not_true, Bool.false_or, Bool.not_eq_true'] at hs
        have : unWords y ≠ [] := fun e => by rw [(lenOk_zero hy).2 e] at hs; cases hs
        have := val_pos (B := 18446744073709551616) (by omega) _ ht this
        rw [Bool.true_and]
        congr 1
        exact decide_eq_true (by omega)
    exact ⟨s, y, rfl, hy, e⟩
  · cases h
theorem num_eqv {n : Nat} {x : F} (h : isNum n x = true) : FLe x (numF (unNum x)) ∧ FLe (numF (unNum x)) x := by
  obtain ⟨s, y, hx, hy, e⟩ := num_form h
  rw [e, hx]
  exact ⟨FLe.agg ⟨.refl _, (words_eqv hy).1, trivial⟩, FLe.agg ⟨.refl _, (words_eqv hy).2, trivial⟩⟩
theorem num_el {n : Nat} {x : F} (h : isNum n x = true) : ElLe x (numF (unNum x)) ∧ ElLe (numF (unNum x)) x := by
  obtain ⟨s, y, hx, hy, e⟩ := num_form h
  have hc : cellF y = true := by
    cases y with
    | sl n g => rfl
    | _ => simp [isWords, isSl] at hy
  rw [e, hx]
  exact ⟨ElLe.agg ⟨.refl _, (words_eqv hy).1, trivial⟩ fun _ u hu => by
      simp only [List.mem_cons, List.not_mem_nil, or_false] at hu
      rcases hu with rfl | rfl <;> rfl,
    ElLe.agg ⟨.refl _, (words_eqv hy).2, trivial⟩ fun _ u hu => by
      simp only [List.mem_cons, List.not_mem_nil, or_false] at hu
      rcases hu with rfl | rfl
      · rfl
      · exact hc⟩
theorem unNum_numF (z : Int) : unNum (numF z) = z := by
  simp only [unNum, numF, unWords_wordsF, val_digs (show 1 < 18446744073709551616 by omega), sgn_sign]
theorem isNum_numF {n : Nat} {z : Int} (h : z.natAbs < 18446744073709551616 ^ n) : isNum n (numF z) = true := by
  simp only [isNum, numF, lenOk_wordsF, isWords_wordsF (okD_digs (B := 18446744073709551616) (by omega) _), unWords_wordsF, Bool.and_eq_true, trimOk_iff]
  refine ⟨⟨trivial, ?_⟩, trimD_digs (by omega) _, ?_⟩
  · rw [Nat.ble_eq]; exact digs_len h
  · by_cases h0 : z < 0
    · have : (digs 18446744073709551616 z.natAbs).length ≠ 0 := fun e => by
        have := digs_nil.1 (List.length_eq_zero_iff.1 e)
        omega
      cases hb : Nat.ble (digs 18446744073709551616 z.natAbs).length 0 with
      | false => simp
      | true => rw [Nat.ble_eq] at hb; omega
    · simp [h0]
theorem natAbs_of_isNum {n : Nat} {x : F} (h : isNum n x = true) : (unNum x).natAbs < 18446744073709551616 ^ n := by
  unfold isNum at h
  split at h
  · rename_i s y
    simp only [Bool.and_eq_true] at h
    obtain ⟨⟨hy, hl⟩, _⟩ := h
    simp only [unNum, sgn_natAbs]
    exact Nat.lt_of_lt_of_le (val_lt _ (okD_unWords hy)) (Nat.pow_le_pow_right (by omega) (lenOk_iff hy hl))
  · cases h
/-! ### function 86 -/
def T86 {ρ : Type} (ret : (Bool) → (List Nat) → Option ρ) (s : Bool) (w : List Nat) : Option ρ :=
 (bsel (isWords (wordsF w) && decide ((unWords (wordsF w)).length ≤ 1000))
 (bsel (s == true)
 (ret (decide ((↑(trimL (unWords (wordsF w))).length : Int) > 0)) (trimL (unWords (wordsF w))))
 (ret (false) (trimL (unWords (wordsF w)))))
 none)
def G86 (s : Bool) (w : List Nat) : Option ((Bool) × (List Nat)) := T86 (fun rb rw => some (rb, rw)) s w
theorem t86 (s : Bool) (w : List Nat) (rb : Bool) (rw : List Nat) (h : G86 s w = some (rb, rw)) : Ends Tryz.prog Tryz.f86.results.toList [.code (bodyOf Tryz.f86)] (start Tryz.f86.ntmps ([F.bool s, wordsF w].map .f)) (F.agg [F.bool rb, wordsF rw]) := by
  refine Ends.of_run tyOK envN6_ok (T := []) (n := 200) ?_
  have e : run Tryz.prog (tiOf Tryz.prog) envN6 [] 0 Tryz.f86.results.toList some 200 [.code (bodyOf Tryz.f86)] (start Tryz.f86.ntmps ([F.bool s, wordsF w].map .f)) = T86 (fun rb rw => some (.ret (F.agg [F.bool rb, wordsF rw]))) s w := by kernel_rfl
  rw [e]
  exact (good_sel h (fun _ h => (good_sel h (fun _ h => good_ret (by cases h; rfl)) (fun _ h => good_ret (by cases h; rfl)))) (fun _ h => nomatch h))
theorem made_law {s : Bool} {w : List Nat} (ow : okD 18446744073709551616 w) (hl : w.length ≤ 1000) : G86 s w = some (s && decide (val 18446744073709551616 w ≠ 0), digs 18446744073709551616 (val 18446744073709551616 w)) := by
  unfold G86 T86
  rw [isWords_wordsF ow, unWords_wordsF, decide_eq_true hl, digs_trimL (by omega) ow]
  cases s
  · rfl
  · simp only [Bool.and_self, bsel_true, beq_self_eq_true, Bool.true_and]
    congr 2
    by_cases h : val 18446744073709551616 w = 0
    · rw [decide_eq_false (by rw [digs_len_pos]; simpa using h), decide_eq_false (by simpa using h)]
    · rw [decide_eq_true (by rw [digs_len_pos]; exact h), decide_eq_true h]
def preMade : List F → Bool | [.bool _, x] => isWords x && lenOk 1000 x | _ => false
def resMade : List F → F | [.bool s, x] => numF (sgn s (val 18446744073709551616 (unWords x))) | _ => .dflt
theorem okMade : PureOK Tryz.prog 86 preMade resMade :=
  fn_pure_at (c := bodyOf Tryz.f86) Tryz.func86 (by kernel_rfl) (by kernel_rfl) fun xs hp => match xs, hp with
  | [.bool s, x], hp => by
    simp only [preMade, Bool.and_eq_true] at hp
    obtain ⟨hx, hl⟩ := hp
    refine ⟨[.bool s, wordsF (unWords x)], _, ⟨.refl _, (words_eqv hx).1, trivial⟩, t86 s _ _ _ (made_law (okD_unWords hx) (lenOk_iff hx hl)), ?_⟩
    show FLe _ (numF (sgn s (val 18446744073709551616 (unWords x))))
    unfold numF
    rw [sgn_natAbs, sgn_neg]
    exact .refl _
/-! ### function 91 -/
def T91 {ρ : Type} (ret : (F) → Option ρ) (z : Int) : Option ρ :=
 (ret (F.agg [F.bool false, wordsF (digs 18446744073709551616 z.natAbs)]))
def G91 (z : Int) : Option (F) := T91 some z
theorem t91 (z : Int) (r : F) (h : G91 z = some r) : Ends Tryz.prog Tryz.f91.results.toList [.code (bodyOf Tryz.f91)] (start Tryz.f91.ntmps ([numF z].map .f)) (r) := by
  refine Ends.of_run tyOK envN6_ok (T := []) (n := 200) ?_
  have e : run Tryz.prog (tiOf Tryz.prog) envN6 [] 0 Tryz.f91.results.toList some 200 [.code (bodyOf Tryz.f91)] (start Tryz.f91.ntmps ([numF z].map .f)) = T91 (fun r => some (.ret (r))) z := by kernel_rfl
  rw [e]
  exact good_ret (by cases h; rfl)
def preN1 (n : Nat) : List F → Bool | [x] => isNum n x | _ => false
def preN2 (n : Nat) : List F → Bool | [x, y] => isNum n x && isNum n y | _ => false
def resAbs : List F → F | [x] => numF ((unNum x).natAbs : Int) | _ => .dflt
theorem okAbs : PureOK Tryz.prog 91 (preN1 400) resAbs :=
  fn_pure_at (c := bodyOf Tryz.f91) Tryz.func91 (by kernel_rfl) (by kernel_rfl) fun xs hp => match xs, hp with
  | [x], hp => by
    refine ⟨[numF (unNum x)], _, ⟨(num_eqv hp).1, trivial⟩, t91 (unNum x) _ rfl, ?_⟩
    show FLe _ (numF ((unNum x).natAbs : Int))
    unfold numF
    rw [Int.natAbs_natCast, decide_eq_false (by omega)]
    exact .refl _
def resSg : List F → F | [x] => .int .i64 (unNum x).sign | _ => .dflt
theorem okSg : PureOK Tryz.prog 46 (preN1 400) resSg :=
  fn_pure_at (c := bodyOf Tryz.f46) Tryz.func46 (by kernel_rfl) (by kernel_rfl) fun xs hp => match xs, hp with
  | [x], hp => ⟨[numF (unNum x)], _, ⟨(num_eqv hp).1, trivial⟩, t46 (unNum x) _ (sign_law _), .refl _⟩
def envN7 : Env := ((envN6.add 86 (.pure preMade resMade)).add 91 (.pure (preN1 400) resAbs)).add 46 (.pure (preN1 400) resSg)
theorem envN7_ok : EnvOK Tryz.prog envN7 := (Env.add_ok (Env.add_ok (Env.add_ok envN6_ok okMade.sp) okAbs.sp) okSg.sp)
end
end Go.Proofs.YtdcooaopkbicfaaGreat.R
namespace Go.Proofs.YtdcooaopkbicfaaGreat.R
open Go
noncomputable section
theorem isWords_digs (n : Nat) : isWords (wordsF (digs 18446744073709551616 n)) = true := isWords_wordsF (okD_digs (by omega) n)
theorem unWords_digs (n : Nat) : unWords (wordsF (digs 18446744073709551616 n)) = digs 18446744073709551616 n := unWords_wordsF _
theorem val_digsB (n : Nat) : val 18446744073709551616 (digs 18446744073709551616 n) = n := val_digs (by omega) n
theorem lenOk_digs {n k j : Nat} (h : n < 18446744073709551616 ^ j) (hk : j ≤ k) : lenOk k (wordsF (digs 18446744073709551616 n)) = true := by
  rw [lenOk_wordsF, Nat.ble_eq]; exact Nat.le_trans (digs_len h) hk
theorem len_digs {n k j : Nat} (h : n < 18446744073709551616 ^ j) (hk : j ≤ k) : decide ((digs 18446744073709551616 n).length ≤ k) = true := decide_eq_true (Nat.le_trans (digs_len h) hk)
/-! ### function 70 -/
def T70 {ρ : Type} (ret : (F) → Option ρ) (n : Int) : Option ρ :=
 (bsel (decide (n < 0))
 (bsel (isWords (F.sl 1 (lget [F.int .u64 (IntKind.u64.wrap (0 - IntKind.u64.wrap n))])) && true)
 (ret (numF (sgn true (val 18446744073709551616 (unWords (F.sl 1 (lget [F.int .u64 (IntKind.u64.wrap (0 - IntKind.u64.wrap n))])))))))
 none)
 (bsel (isWords (F.sl 1 (lget [F.int .u64 (IntKind.u64.wrap n)])) && true)
 (ret (numF (sgn false (val 18446744073709551616 (unWords (F.sl 1 (lget [F.int .u64 (IntKind.u64.wrap n)])))))))
 none))
def G70 (n : Int) : Option (F) := T70 some n
theorem t70 (n : Int) (r : F) (h : G70 n = some r) : Ends Tryz.prog Tryz.f70.results.toList [.code (bodyOf Tryz.f70)] (start Tryz.f70.ntmps ([F.int .i64 n].map .f)) (r) := by
  refine Ends.of_run tyOK envN7_ok (T := []) (n := 200) ?_
  have e : run Tryz.prog (tiOf Tryz.prog) envN7 [] 0 Tryz.f70.results.toList some 200 [.code (bodyOf Tryz.f70)] (start Tryz.f70.ntmps ([F.int .i64 n].map .f)) = T70 (fun r => some (.ret (r))) n := by kernel_rfl
  rw [e]
  exact (good_sel h (fun _ h => (good_sel h (fun _ h => good_ret (by cases h; rfl)) (fun _ h => nomatch h))) (fun _ h => (good_sel h (fun _ h => good_ret (by cases h; rfl)) (fun _ h => nomatch h))))
def isI64 (x : Int) : Bool := match x with | .ofNat n => Nat.ble n 9223372036854775807 | .negSucc n => Nat.ble n 9223372036854775807
theorem isI64_iff {x : Int} : isI64 x = true ↔ -9223372036854775808 ≤ x ∧ x ≤ 9223372036854775807 := by
  cases x with
  | ofNat n => simp only [isI64, Nat.ble_eq]; constructor <;> intro h <;> simp at * <;> omega
  | negSucc n => simp only [isI64, Nat.ble_eq]; constructor <;> intro h <;> omega
theorem wrapN {x : Int} : IntKind.u64.wrap x = x % 18446744073709551616 := by rw [IntKind.wrap_u64]
theorem whole_law {n : Int} (h : -9223372036854775808 ≤ n ∧ n ≤ 9223372036854775807) : G70 n = some (numF n) := by
  have key : ∀ (v : Nat) (g : Nat → F) (s : Bool), g 0 = F.int .u64 (v : Int) → v < 18446744073709551616 → sgn s v = n → bsel (isWords (.sl 1 g) && true) (some (F.agg [F.bool (decide (sgn s (val 18446744073709551616 (unWords (.sl 1 g))) < 0)), wordsF (digs 18446744073709551616 (sgn s (val 18446744073709551616 (unWords (.sl 1 g)))).natAbs)])) none = some (numF n) := by
    intro v g s hg hv hn
    have hr : ∀ j, j < 1 → g j = u64F ([v].getD j 0) := fun j hj => by
      obtain rfl : j = 0 := by omega
      rw [hg]; rfl
    have ho : okD 18446744073709551616 [v] := by intro w hw; simp at hw; omega
    rw [isWords_read (m := 1) (l := [v]) rfl hr ho, unWords_read (m := 1) (l := [v]) rfl hr]
    show some (numF (sgn s (val 18446744073709551616 [v]))) = _
    rw [show val 18446744073709551616 [v] = v by simp [val], hn]
  unfold G70 T70
  by_cases h0 : n < 0
  · rw [decide_eq_true h0, bsel_true]
    refine key (-n).toNat _ true ?_ (by omega) (by simp only [sgn, if_true]; omega)
    show F.int .u64 (IntKind.u64.wrap (0 - IntKind.u64.wrap n)) = _
    rw [wrapN, wrapN]
    congr 1
    omega
  · rw [decide_eq_false h0, bsel_false]
    refine key n.toNat _ false ?_ (by omega) (by simp only [sgn, Bool.false_eq_true, if_false]; omega)
    show F.int .u64 (IntKind.u64.wrap n) = _
    rw [wrapN]
    congr 1
    omega
def preI64 : List F → Bool | [.int .i64 n] => isI64 n | _ => false
def resWhole : List F → F | [.int .i64 n] => numF n | _ => .dflt
theorem okWhole : PureOK Tryz.prog 70 preI64 resWhole :=
  fn_pure (c := bodyOf Tryz.f70) Tryz.func70 (by kernel_rfl) (by kernel_rfl) fun xs hp => match xs, hp with
  | [.int .i64 n], hp => t70 n _ (whole_law (isI64_iff.1 hp))
/-! ### function 76 -/
def T76 {ρ : Type} (ret : (Bool) → (List Nat) → Option ρ) (z : Int) : Option ρ :=
 (bsel (isWords (wordsF (digs 18446744073709551616 z.natAbs)) && lenOk 1000 (wordsF (digs 18446744073709551616 z.natAbs)))
 (ret (decide (sgn (!decide (z < 0)) (val 18446744073709551616 (unWords (wordsF (digs 18446744073709551616 z.natAbs)))) < 0)) (digs 18446744073709551616 (sgn (!decide (z < 0)) (val 18446744073709551616 (unWords (wordsF (digs 18446744073709551616 z.natAbs))))).natAbs))
 none)
def G76 (z : Int) : Option ((Bool) × (List Nat)) := T76 (fun rb rl => some (rb, rl)) z
theorem t76 (z : Int) (rb : Bool) (rl : List Nat) (h : G76 z = some (rb, rl)) : Ends Tryz.prog Tryz.f76.results.toList [.code (bodyOf Tryz.f76)] (start Tryz.f76.ntmps ([numF z].map .f)) (F.agg [F.bool rb, wordsF rl]) := by
  refine Ends.of_run tyOK envN7_ok (T := []) (n := 200) ?_
  have e : run Tryz.prog (tiOf Tryz.prog) envN7 [] 0 Tryz.f76.results.toList some 200 [.code (bodyOf Tryz.f76)] (start Tryz.f76.ntmps ([numF z].map .f)) = T76 (fun rb rl => some (.ret (F.agg [F.bool rb, wordsF rl]))) z := by kernel_rfl
  rw [e]
  exact (good_sel h (fun _ h => good_ret (by cases h; rfl)) (fun _ h => nomatch h))
theorem minus_law {z : Int} (h : z.natAbs < 18446744073709551616 ^ 400) : ∃ s l, G76 z = some (s, l) ∧ F.agg [.bool s, wordsF l] = numF (-z) := by
  unfold G76 T76
  rw [isWords_digs, lenOk_digs h (by omega), unWords_digs, val_digsB]
  refine ⟨_, _, rfl, ?_⟩
  have e : sgn (!decide (z < 0)) z.natAbs = -z := by
    unfold sgn
    by_cases h : z < 0
    · rw [decide_eq_true h]; simp; omega
    · rw [decide_eq_false h]; simp; omega
  rw [e]
  rfl
def resMinus : List F → F | [x] => numF (-(unNum x)) | _ => .dflt
theorem okMinus : PureOK Tryz.prog 76 (preN1 400) resMinus :=
  fn_pure_at (c := bodyOf Tryz.f76) Tryz.func76 (by kernel_rfl) (by kernel_rfl) fun xs hp => match xs, hp with
  | [x], hp => by
    obtain ⟨s, l, h1, h2⟩ := minus_law (natAbs_of_isNum hp)
    exact ⟨[numF (unNum x)], _, ⟨(num_eqv hp).1, trivial⟩, t76 (unNum x) _ _ h1, by rw [h2]; exact .refl _⟩
/-! ### function 77 -/
def T77 {ρ : Type} (ret : (Bool) → (List Nat) → Option ρ) (x : Int) (y : Int) : Option ρ :=
 (bsel (decide (x < 0) == decide (y < 0))
 (bsel (isWords (wordsF (digs 18446744073709551616 x.natAbs)) && lenOk 900 (wordsF (digs 18446744073709551616 x.natAbs)) && (isWords (wordsF (digs 18446744073709551616 y.natAbs)) && lenOk 900 (wordsF (digs 18446744073709551616 y.natAbs))))
 (bsel (isWords (resAddW [wordsF (digs 18446744073709551616 x.natAbs), wordsF (digs 18446744073709551616 y.natAbs)]) && lenOk 1000 (resAddW [wordsF (digs 18446744073709551616 x.natAbs), wordsF (digs 18446744073709551616 y.natAbs)]))
 (ret (decide (sgn (decide (x < 0)) (val 18446744073709551616 (unWords (resAddW [wordsF (digs 18446744073709551616 x.natAbs), wordsF (digs 18446744073709551616 y.natAbs)]))) < 0)) (digs 18446744073709551616 (sgn (decide (x < 0)) (val 18446744073709551616 (unWords (resAddW [wordsF (digs 18446744073709551616 x.natAbs), wordsF (digs 18446744073709551616 y.natAbs)])))).natAbs))
 none)
 none)
 (bsel (isWords (wordsF (digs 18446744073709551616 x.natAbs)) && decide ((unWords (wordsF (digs 18446744073709551616 x.natAbs))).length ≤ 1000) && (isWords (wordsF (digs 18446744073709551616 y.natAbs)) && decide ((unWords (wordsF (digs 18446744073709551616 y.natAbs))).length ≤ 1000)))
 (bsel (decide (cmpWV (unWords (wordsF (digs 18446744073709551616 x.natAbs))) (unWords (wordsF (digs 18446744073709551616 y.natAbs))) ≥ 0))
 (bsel (isWords (wordsF (digs 18446744073709551616 x.natAbs)) && lenOk 900 (wordsF (digs 18446744073709551616 x.natAbs)) && (isWords (wordsF (digs 18446744073709551616 y.natAbs)) && subOk (unWords (wordsF (digs 18446744073709551616 x.natAbs))) (unWords (wordsF (digs 18446744073709551616 y.natAbs)))))
 (bsel (isWords (resSubW [wordsF (digs 18446744073709551616 x.natAbs), wordsF (digs 18446744073709551616 y.natAbs)]) && lenOk 1000 (resSubW [wordsF (digs 18446744073709551616 x.natAbs), wordsF (digs 18446744073709551616 y.natAbs)]))
 (ret (decide (sgn (decide (x < 0)) (val 18446744073709551616 (unWords (resSubW [wordsF (digs 18446744073709551616 x.natAbs), wordsF (digs 18446744073709551616 y.natAbs)]))) < 0)) (digs 18446744073709551616 (sgn (decide (x < 0)) (val 18446744073709551616 (unWords (resSubW [wordsF (digs 18446744073709551616 x.natAbs), wordsF (digs 18446744073709551616 y.natAbs)])))).natAbs))
 none)
 none)
 (bsel (isWords (wordsF (digs 18446744073709551616 y.natAbs)) && lenOk 900 (wordsF (digs 18446744073709551616 y.natAbs)) && (isWords (wordsF (digs 18446744073709551616 x.natAbs)) && subOk (unWords (wordsF (digs 18446744073709551616 y.natAbs))) (unWords (wordsF (digs 18446744073709551616 x.natAbs)))))
 (bsel (isWords (resSubW [wordsF (digs 18446744073709551616 y.natAbs), wordsF (digs 18446744073709551616 x.natAbs)]) && lenOk 1000 (resSubW [wordsF (digs 18446744073709551616 y.natAbs), wordsF (digs 18446744073709551616 x.natAbs)]))
 (ret (decide (sgn (decide (y < 0)) (val 18446744073709551616 (unWords (resSubW [wordsF (digs 18446744073709551616 y.natAbs), wordsF (digs 18446744073709551616 x.natAbs)]))) < 0)) (digs 18446744073709551616 (sgn (decide (y < 0)) (val 18446744073709551616 (unWords (resSubW [wordsF (digs 18446744073709551616 y.natAbs), wordsF (digs 18446744073709551616 x.natAbs)])))).natAbs))
 none)
 none))
 none))
def G77 (x : Int) (y : Int) : Option ((Bool) × (List Nat)) := T77 (fun rb rl => some (rb, rl)) x y
theorem t77 (x : Int) (y : Int) (rb : Bool) (rl : List Nat) (h : G77 x y = some (rb, rl)) : Ends Tryz.prog Tryz.f77.results.toList [.code (bodyOf Tryz.f77)] (start Tryz.f77.ntmps ([numF x, numF y].map .f)) (F.agg [F.bool rb, wordsF rl]) := by
  refine Ends.of_run tyOK envN7_ok (T := []) (n := 200) ?_
  have e : run Tryz.prog (tiOf Tryz.prog) envN7 [] 0 Tryz.f77.results.toList some 200 [.code (bodyOf Tryz.f77)] (start Tryz.f77.ntmps ([numF x, numF y].map .f)) = T77 (fun rb rl => some (.ret (F.agg [F.bool rb, wordsF rl]))) x y := by kernel_rfl
  rw [e]
  exact (good_sel h (fun _ h => (good_sel h (fun _ h => (good_sel h (fun _ h => good_ret (by cases h; rfl)) (fun _ h => nomatch h))) (fun _ h => nomatch h))) (fun _ h => (good_sel h (fun _ h => (good_sel h (fun _ h => (good_sel h (fun _ h => (good_sel h (fun _ h => good_ret (by cases h; rfl)) (fun _ h => nomatch h))) (fun _ h => nomatch h))) (fun _ h => (good_sel h (fun _ h => (good_sel h (fun _ h => good_ret (by cases h; rfl)) (fun _ h => nomatch h))) (fun _ h => nomatch h))))) (fun _ h => nomatch h))))
theorem resAddW_words (a b : List Nat) : resAddW [wordsF a, wordsF b] = wordsF (digs 18446744073709551616 (val 18446744073709551616 a + val 18446744073709551616 b)) := by simp only [resAddW, unWords_wordsF]
theorem resSubW_words (a b : List Nat) : resSubW [wordsF a, wordsF b] = wordsF (digs 18446744073709551616 (val 18446744073709551616 a - val 18446744073709551616 b)) := by simp only [resSubW, unWords_wordsF]
theorem subOk_digs {m n : Nat} (h : n ≤ m) : subOk (digs 18446744073709551616 m) (digs 18446744073709551616 n) = true := by
  simp only [subOk, Bool.and_eq_true, Nat.ble_eq, val_digsB]
  refine ⟨?_, h⟩
  rcases Nat.lt_or_ge (digs 18446744073709551616 m).length (digs 18446744073709551616 n).length with h1 | h1
  · have := val_longer (B := 18446744073709551616) (by omega) (okD_digs (by omega) m) (trimD_digs (by omega) n) h1
    simp only [val_digsB] at this
    omega
  · exact h1
theorem pow_room {n m : Nat} (hn : n < 18446744073709551616 ^ 400) (hm : m < 18446744073709551616 ^ 400) : n + m < 18446744073709551616 ^ 401 := by
  have : 18446744073709551616 ^ 401 = 18446744073709551616 ^ 400 * 18446744073709551616 := Nat.pow_succ 18446744073709551616 400
  generalize 18446744073709551616 ^ 400 = t at *
  omega
theorem plus_law {x y : Int} (hx : x.natAbs < 18446744073709551616 ^ 400) (hy : y.natAbs < 18446744073709551616 ^ 400) : ∃ s l, G77 x y = some (s, l) ∧ F.agg [.bool s, wordsF l] = numF (x + y) := by
  have h1 := pow_room hx hy
  have h2 : x.natAbs - y.natAbs < 18446744073709551616 ^ 400 := by omega
  have h3 : y.natAbs - x.natAbs < 18446744073709551616 ^ 400 := by omega
  unfold G77 T77
  simp only [resAddW_words, resSubW_words, isWords_digs, unWords_digs, val_digsB, lenOk_digs hx (show 400 ≤ 900 by omega), lenOk_digs hy (show 400 ≤ 900 by omega), len_digs hx (show 400 ≤ 1000 by omega), len_digs hy (show 400 ≤ 1000 by omega), lenOk_digs h1 (show 401 ≤ 1000 by omega), lenOk_digs h2 (show 400 ≤ 1000 by omega), lenOk_digs h3 (show 400 ≤ 1000 by omega), Bool.true_and, Bool.and_true, bsel_true]
  by_cases hs : decide (x < 0) = decide (y < 0)
  · rw [hs, beq_self_eq_true, bsel_true]
    refine ⟨_, _, rfl, ?_⟩
    have e : sgn (decide (y < 0)) (x.natAbs + y.natAbs) = x + y := by
      unfold sgn
      by_cases h : y < 0
      · rw [decide_eq_true h] at hs ⊢; have := of_decide_eq_true hs; simp; omega
      · rw [decide_eq_false h] at hs ⊢; have := of_decide_eq_false hs; simp; omega
    rw [e]
    rfl
  · have hb : (decide (x < 0) == decide (y < 0)) = false := by simpa using hs
    rw [hb, bsel_false]
    by_cases hc : y.natAbs ≤ x.natAbs
    · rw [decide_eq_true ((cmpWV_digs _ _).1.2 hc), subOk_digs hc]
      refine ⟨_, _, rfl, ?_⟩
      have e : sgn (decide (x < 0)) (x.natAbs - y.natAbs) = x + y := by
        unfold sgn
        by_cases h : x < 0
        · rw [decide_eq_true h] at hs ⊢; have : ¬ y < 0 := fun h' => hs (by rw [decide_eq_true h']); simp; omega
        · rw [decide_eq_false h] at hs ⊢; have : y < 0 := Classical.byContradiction fun h' => hs (by rw [decide_eq_false h']); simp; omega
      rw [e]
      rfl
    · rw [decide_eq_false (fun h => hc ((cmpWV_digs _ _).1.1 h)), bsel_false, subOk_digs (by omega)]
      refine ⟨_, _, rfl, ?_⟩
      have e : sgn (decide (y < 0)) (y.natAbs - x.natAbs) = x + y := by
        unfold sgn
        by_cases h : y < 0
        · rw [decide_eq_true h] at hs ⊢; have : ¬ x < 0 := fun h' => hs (by rw [decide_eq_true h']); simp; omega
        · rw [decide_eq_false h] at hs ⊢; have : x < 0 := Classical.byContradiction fun h' => hs (by rw [decide_eq_false h']); simp; omega
      rw [e]
      rfl
def resPlus : List F → F | [x, y] => numF (unNum x + unNum y) | _ => .dflt
theorem preN2_iff {n : Nat} {x y : F} (h : preN2 n [x, y] = true) : isNum n x = true ∧ isNum n y = true := by simpa [preN2] using h
theorem okPlus : PureOK Tryz.prog 77 (preN2 400) resPlus :=
  fn_pure_at (c := bodyOf Tryz.f77) Tryz.func77 (by kernel_rfl) (by kernel_rfl) fun xs hp => match xs, hp with
  | [x, y], hp => by
    obtain ⟨hx, hy⟩ := preN2_iff hp
    obtain ⟨s, l, h1, h2⟩ := plus_law (natAbs_of_isNum hx) (natAbs_of_isNum hy)
    exact ⟨[numF (unNum x), numF (unNum y)], _, ⟨(num_eqv hx).1, (num_eqv hy).1, trivial⟩, t77 _ _ _ _ h1, by rw [h2]; exact .refl _⟩
def envN8 : Env := ((envN7.add 70 (.pure preI64 resWhole)).add 76 (.pure (preN1 400) resMinus)).add 77 (.pure (preN2 400) resPlus)
theorem envN8_ok : EnvOK Tryz.prog envN8 := (Env.add_ok (Env.add_ok (Env.add_ok envN7_ok okWhole.sp) okMinus.sp) okPlus.sp)
end
end Go.Proofs.YtdcooaopkbicfaaGreat.R
namespace Go.Proofs.YtdcooaopkbicfaaGreat.R
open Go
noncomputable section
/-! ### function 89 -/
def T89 {ρ : Type} (ret : (Int) → Option ρ) (x : Int) (y : Int) : Option ρ :=
 (bsel (isNum 400 (numF y))
 (bsel (isNum 400 (numF x) && isNum 400 (resMinus [numF y]))
 (ret (unNum (numF x) + unNum (resMinus [numF y])))
 none)
 none)
def G89 (x : Int) (y : Int) : Option (Int) := T89 some x y
theorem t89 (x : Int) (y : Int) (r : Int) (h : G89 x y = some r) : Ends Tryz.prog Tryz.f89.results.toList [.code (bodyOf Tryz.f89)] (start Tryz.f89.ntmps ([numF x, numF y].map .f)) (numF r) := by
  refine Ends.of_run tyOK envN8_ok (T := []) (n := 200) ?_
  have e : run Tryz.prog (tiOf Tryz.prog) envN8 [] 0 Tryz.f89.results.toList some 200 [.code (bodyOf Tryz.f89)] (start Tryz.f89.ntmps ([numF x, numF y].map .f)) = T89 (fun r => some (.ret (numF r))) x y := by kernel_rfl
  rw [e]
  exact (good_sel h (fun _ h => (good_sel h (fun _ h => good_ret (by cases h; rfl)) (fun _ h => nomatch h))) (fun _ h => nomatch h))
/-! ### function 72 -/
def S72_5 (s : Bool) (t : Bool) (a : List Nat) (b : List Nat) (m : Nat) (n : Int) (i : Int) (g : Nat → F) : St := ⟨[.bad, .bad, (U.hp 0 0), (U.hp 1 0), (U.hp 2 0), (U.hs 3 m 0 m), .bad, .bad, .bad, .bad, .bad, .bad, .bad, .bad, .bad, .bad, .bad, .bad, .bad, .bad, .bad, .bad, .bad, .bad, .bad, .bad, .bad, .bad, .bad, .bad, .bad, .bad, .bad, .bad, (U.f (wordsF a)), (U.f (F.int .i64 n)), (U.f (F.int .i64 i)), .bad, .bad, .bad, .bad, .bad, .bad, .bad, .bad, .bad, .bad, .bad, .bad, .bad, .bad, .bad, .bad, .bad, .bad, .bad, .bad, .bad, .bad, .bad, .bad, .bad, .bad, .bad, .bad, .bad, .bad, .bad, .bad, .bad, .bad, .bad, .bad, .bad, .bad, .bad, .bad, .bad, .bad, .bad, .bad, .bad, .bad, .bad, .bad, .bad, .bad, .bad, .bad, .bad, .bad, .bad, .bad, .bad, .bad, .bad, .bad, .bad, .bad, .bad], [HO.box [(U.f (F.bool s)), (U.f (wordsF a))], HO.box [(U.f (F.bool t)), (U.f (wordsF b))], HO.box [(U.f (F.bool false)), U.nils], HO.arr 1 m g]⟩
def S72_9 (s : Bool) (t : Bool) (a : List Nat) (b : List Nat) (m : Nat) (n : Int) (i : Int) (g : Nat → F) (x : Int) (c : Int) (nb : Int) (j : Int) : St := ⟨[.bad, .bad, (U.hp 0 0), (U.hp 1 0), (U.hp 2 0), (U.hs 3 m 0 m), (U.f (F.int .i64 i)), (U.f (F.int .u64 x)), (U.f (F.int .u64 c)), .bad, .bad, .bad, .bad, .bad, .bad, .bad, .bad, .bad, .bad, .bad, .bad, .bad, .bad, .bad, .bad, .bad, .bad, .bad, .bad, .bad, .bad, .bad, .bad, .bad, (U.f (wordsF a)), (U.f (F.int .i64 n)), (U.f (F.int .i64 i)), .bad, .bad, .bad, .bad, .bad, (U.f (wordsF b)), (U.f (F.int .i64 nb)), (U.f (F.int .i64 j)), .bad, .bad, .bad, .bad, .bad, .bad, .bad, .bad, .bad, .bad, .bad, .bad, .bad, .bad, .bad, .bad, .bad, .bad, .bad, .bad, .bad, .bad, .bad, .bad, .bad, .bad, .bad, .bad, .bad, .bad, .bad, .bad, .bad, .bad, .bad, .bad, .bad, .bad, .bad, .bad, .bad, .bad, .bad, .bad, .bad, .bad, .bad, .bad, .bad, .bad, .bad, .bad, .bad, .bad, .bad], [HO.box [(U.f (F.bool s)), (U.f (wordsF a))], HO.box [(U.f (F.bool t)), (U.f (wordsF b))], HO.box [(U.f (F.bool false)), U.nils], HO.arr 1 m g]⟩
def T72_5 {ρ : Type} (ret : (Bool) → (Nat) → (Nat → F) → Option ρ) (c5 : (Bool) → (Bool) → (List Nat) → (List Nat) → (Nat) → (Int) → (Int) → (Nat → F) → Option ρ) (c9 : (Bool) → (Bool) → (List Nat) → (List Nat) → (Nat) → (Int) → (Int) → (Nat → F) → (Int) → (Int) → (Int) → (Int) → Option ρ) (s : Bool) (t : Bool) (a : List Nat) (b : List Nat) (m : Nat) (n : Int) (i : Int) (g : Nat → F) : Option ρ :=
 (bsel (decide (i < n))
 (bsel (decide (0 ≤ i))
 (bsel (decide (i < (↑a.length : Int)))
 (c9 (s) (t) (a) (b) (m) (n) (i) (g) ((↑(a.getD i.toNat 0) : Int)) (0) ((↑b.length : Int)) (0))
 none)
 none)
 (bsel (decide (m = m))
 (bsel (isWords (F.sl m (offF 0 g)) && lenOk 1000 (F.sl m (offF 0 g)))
 (ret (decide (sgn (!s == t) (val 18446744073709551616 (unWords (F.sl m (offF 0 g)))) < 0)) ((digs 18446744073709551616 (sgn (!s == t) (val 18446744073709551616 (unWords (F.sl m (offF 0 g))))).natAbs).length) (fun i ↦ u64F ((digs 18446744073709551616 (sgn (!s == t) (val 18446744073709551616 (unWords (F.sl m (offF 0 g))))).natAbs).getD i 0)))
 none)
 none))
def T72_9 {ρ : Type} (ret : (Bool) → (Nat) → (Nat → F) → Option ρ) (c5 : (Bool) → (Bool) → (List Nat) → (List Nat) → (Nat) → (Int) → (Int) → (Nat → F) → Option ρ) (c9 : (Bool) → (Bool) → (List Nat) → (List Nat) → (Nat) → (Int) → (Int) → (Nat → F) → (Int) → (Int) → (Int) → (Int) → Option ρ) (s : Bool) (t : Bool) (a : List Nat) (b : List Nat) (m : Nat) (n : Int) (i : Int) (g : Nat → F) (x : Int) (c : Int) (nb : Int) (j : Int) : Option ρ :=
 (bsel (decide (j < nb))
 (bsel (decide (0 ≤ j))
 (bsel (decide (j < (↑b.length : Int)))
 (bsel (isWd2 x (↑(b.getD j.toNat 0) : Int))
 (bsel (isCarry (mulLo x (↑(b.getD j.toNat 0) : Int)) c 0)
 (bsel (decide (m = m))
 (bsel (decide (0 ≤ IntKind.i64.wrap (i + j)))
 (bsel (decide (IntKind.i64.wrap (i + j) < (↑m : Int)))
 (bsel (decide (m = m))
 (bsel (decide (0 + (IntKind.i64.wrap (i + j)).toNat < m))
 (bsel (decide ((g (0 + (IntKind.i64.wrap (i + j)).toNat)).cells.length = 1))
 (bsel (okV (Value.int IntKind.u64 0) ((List.drop 0 (g (0 + (IntKind.i64.wrap (i + j)).toNat)).cells).headD F.dflt) && true)
 (bsel (isCarry (intOf ((List.drop 0 (g (0 + (IntKind.i64.wrap (i + j)).toNat)).cells).headD F.dflt)) (addLo (mulLo x (↑(b.getD j.toNat 0) : Int)) c 0) 0)
 (bsel (decide (m = m))
 (bsel (decide (0 ≤ IntKind.i64.wrap (i + j)))
 (bsel (decide (IntKind.i64.wrap (i + j) < (↑m : Int)))
 (bsel (decide (m = m))
 (bsel (decide (0 + (IntKind.i64.wrap (i + j)).toNat < m))
 (bsel (decide ((g (0 + (IntKind.i64.wrap (i + j)).toNat)).cells.length = 1))
 (bsel ((isAggF (g (0 + (IntKind.i64.wrap (i + j)).toNat)) || true) && true)
 (c9 (s) (t) (a) (b) (m) (n) (i) (fun j_1 ↦ if j_1 = 0 + (IntKind.i64.wrap (i + j)).toNat then F.int .u64 (addLo (intOf ((List.drop 0 (g (0 + (IntKind.i64.wrap (i + j)).toNat)).cells).headD F.dflt)) (addLo (mulLo x (↑(b.getD j.toNat 0) : Int)) c 0) 0) else g j_1) (x) (IntKind.u64.wrap (IntKind.u64.wrap (mulHi x (↑(b.getD j.toNat 0) : Int) + addHi (mulLo x (↑(b.getD j.toNat 0) : Int)) c 0) + addHi (intOf ((List.drop 0 (g (0 + (IntKind.i64.wrap (i + j)).toNat)).cells).headD F.dflt)) (addLo (mulLo x (↑(b.getD j.toNat 0) : Int)) c 0) 0)) (nb) (IntKind.i64.wrap (j + 1)))
 none)
 none)
 none)
 none)
 none)
 none)
 none)
 none)
 none)
 none)
 none)
 none)
 none)
 none)
 none)
 none)
 none)
 none)
 none)
 (bsel (decide (m = m))
 (bsel (decide (0 ≤ IntKind.i64.wrap (i + (↑b.length : Int))))
 (bsel (decide (IntKind.i64.wrap (i + (↑b.length : Int)) < (↑m : Int)))
 (bsel (decide (m = m))
 (bsel (decide (0 + (IntKind.i64.wrap (i + (↑b.length : Int))).toNat < m))
 (bsel (decide ((g (0 + (IntKind.i64.wrap (i + (↑b.length : Int))).toNat)).cells.length = 1))
 (bsel ((isAggF (g (0 + (IntKind.i64.wrap (i + (↑b.length : Int))).toNat)) || true) && true)
 (c5 (s) (t) (a) (b) (m) (n) (IntKind.i64.wrap (i + 1)) (fun j ↦ if j = 0 + (IntKind.i64.wrap (i + (↑b.length : Int))).toNat then F.int .u64 c else g j))
 none)
 none)
 none)
 none)
 none)
 none)
 none))
mutual
def L72_5 : Nat → (Bool) → (Bool) → (List Nat) → (List Nat) → (Nat) → (Int) → (Int) → (Nat → F) → Option ((Bool) × (Nat) × (Nat → F))
  | 0, _, _, _, _, _, _, _, _ => none
  | k + 1, s, t, a, b, m, n, i, g => T72_5 (fun rb rn rg => some (rb, rn, rg)) (L72_5 k) (L72_9 k) s t a b m n i g
def L72_9 : Nat → (Bool) → (Bool) → (List Nat) → (List Nat) → (Nat) → (Int) → (Int) → (Nat → F) → (Int) → (Int) → (Int) → (Int) → Option ((Bool) × (Nat) × (Nat → F))
  | 0, _, _, _, _, _, _, _, _, _, _, _, _ => none
  | k + 1, s, t, a, b, m, n, i, g, x, c, nb, j => T72_9 (fun rb rn rg => some (rb, rn, rg)) (L72_5 k) (L72_9 k) s t a b m n i g x c nb j
end
def T72 {ρ : Type} (ret : (Bool) → (Nat) → (Nat → F) → Option ρ) (c5 : (Bool) → (Bool) → (List Nat) → (List Nat) → (Nat) → (Int) → (Int) → (Nat → F) → Option ρ) (c9 : (Bool) → (Bool) → (List Nat) → (List Nat) → (Nat) → (Int) → (Int) → (Nat → F) → (Int) → (Int) → (Int) → (Int) → Option ρ) (x : Int) (y : Int) : Option ρ :=
 (bsel (((↑(digs 18446744073709551616 x.natAbs).length : Int) == 0) == false)
 (bsel ((↑(digs 18446744073709551616 y.natAbs).length : Int) == 0)
 (ret (false) (0) (fun x ↦ F.bool false))
 (bsel (decide (0 ≤ IntKind.i64.wrap ((↑(digs 18446744073709551616 x.natAbs).length : Int) + (↑(digs 18446744073709551616 y.natAbs).length : Int))))
 (bsel (decide (IntKind.i64.wrap ((↑(digs 18446744073709551616 x.natAbs).length : Int) + (↑(digs 18446744073709551616 y.natAbs).length : Int)) ≤ IntKind.i64.wrap ((↑(digs 18446744073709551616 x.natAbs).length : Int) + (↑(digs 18446744073709551616 y.natAbs).length : Int))))
 (bsel (decide (IntKind.i64.wrap ((↑(digs 18446744073709551616 x.natAbs).length : Int) + (↑(digs 18446744073709551616 y.natAbs).length : Int)) * (((8 : Nat) : Int) + 1) ≤ (↑limit : Int)))
 (c5 (decide (x < 0)) (decide (y < 0)) (digs 18446744073709551616 x.natAbs) (digs 18446744073709551616 y.natAbs) ((IntKind.i64.wrap ((↑(digs 18446744073709551616 x.natAbs).length : Int) + (↑(digs 18446744073709551616 y.natAbs).length : Int))).toNat) ((↑(digs 18446744073709551616 x.natAbs).length : Int)) (0) (fun x ↦ F.int .u64 0))
 none)
 none)
 none))
 (ret (false) (0) (fun x ↦ F.bool false)))
def G72 (k : Nat) (x : Int) (y : Int) : Option ((Bool) × (Nat) × (Nat → F)) := T72 (fun rb rn rg => some (rb, rn, rg)) (L72_5 k) (L72_9 k) x y
mutual
theorem t72_5 : ∀ (k : Nat) (s : Bool) (t : Bool) (a : List Nat) (b : List Nat) (m : Nat) (n : Int) (i : Int) (g : Nat → F) (rb : Bool) (rn : Nat) (rg : Nat → F), L72_5 k s t a b m n i g = some (rb, rn, rg) → Ends Tryz.prog Tryz.f72.results.toList (at_ Tryz.f72 5) (S72_5 s t a b m n i g) (F.agg [F.bool rb, F.sl rn rg])
  | 0, _, _, _, _, _, _, _, _, _, _, _, h => nomatch h
  | k + 1, s, t, a, b, m, n, i, g, rb, rn, rg, h => by
    refine Ends.of_cut tyOK envN8_ok (T := [(5, [2, 3, 4, 5, 34, 35, 36], 1000), (9, [2, 3, 4, 5, 6, 7, 8, 34, 35, 36, 42, 43, 44], 1000)]) (n := 200) ?_
    have e : runCut Tryz.prog (tiOf Tryz.prog) envN8 [(5, [2, 3, 4, 5, 34, 35, 36], 1000), (9, [2, 3, 4, 5, 6, 7, 8, 34, 35, 36, 42, 43, 44], 1000)] 0 Tryz.f72.results.toList some 200 (at_ Tryz.f72 5) (S72_5 s t a b m n i g) = T72_5 (fun rb rn rg => some (.ret (F.agg [F.bool rb, F.sl rn rg]))) (fun s t a b m n i g => some (.cut (at_ Tryz.f72 5) (S72_5 s t a b m n i g))) (fun s t a b m n i g x c nb j => some (.cut (at_ Tryz.f72 9) (S72_9 s t a b m n i g x c nb j))) s t a b m n i g := by kernel_rfl
    rw [e]
    exact (good_sel h (fun _ h => (good_sel h (fun _ h => (good_sel h (fun _ h => good_cut (t72_9 k _ _ _ _ _ _ _ _ _ _ _ _ rb rn rg h)) (fun _ h => nomatch h))) (fun _ h => nomatch h))) (fun _ h => (good_sel h (fun _ h => (good_sel h (fun _ h => good_ret (by cases h; rfl)) (fun _ h => nomatch h))) (fun _ h => nomatch h))))
theorem t72_9 : ∀ (k : Nat) (s : Bool) (t : Bool) (a : List Nat) (b : List Nat) (m : Nat) (n : Int) (i : Int) (g : Nat → F) (x : Int) (c : Int) (nb : Int) (j : Int) (rb : Bool) (rn : Nat) (rg : Nat → F), L72_9 k s t a b m n i g x c nb j = some (rb, rn, rg) → Ends Tryz.prog Tryz.f72.results.toList (at_ Tryz.f72 9) (S72_9 s t a b m n i g x c nb j) (F.agg [F.bool rb, F.sl rn rg])
  | 0, _, _, _, _, _, _, _, _, _, _, _, _, _, _, _, h => nomatch h
  | k + 1, s, t, a, b, m, n, i, g, x, c, nb, j, rb, rn, rg, h => by
    refine Ends.of_cut tyOK envN8_ok (T := [(5, [2, 3, 4, 5, 34, 35, 36], 1000), (9, [2, 3, 4, 5, 6, 7, 8, 34, 35, 36, 42, 43, 44], 1000)]) (n := 200) ?_
    have e : runCut Tryz.prog (tiOf Tryz.prog) envN8 [(5, [2, 3, 4, 5, 34, 35, 36], 1000), (9, [2, 3, 4, 5, 6, 7, 8, 34, 35, 36, 42, 43, 44], 1000)] 0 Tryz.f72.results.toList some 200 (at_ Tryz.f72 9) (S72_9 s t a b m n i g x c nb j) = T72_9 (fun rb rn rg => some (.ret (F.agg [F.bool rb, F.sl rn rg]))) (fun s t a b m n i g => some (.cut (at_ Tryz.f72 5) (S72_5 s t a b m n i g))) (fun s t a b m n i g x c nb j => some (.cut (at_ Tryz.f72 9) (S72_9 s t a b m n i g x c nb j))) s t a b m n i g x c nb j := by kernel_rfl
    rw [e]
    exact (good_sel h (fun _ h => (good_sel h (fun _ h => (good_sel h (fun _ h => (good_sel h (fun _ h => (good_sel h (fun _ h => (good_sel h (fun _ h => (good_sel h (fun _ h => (good_sel h (fun _ h => (good_sel h (fun _ h => (good_sel h (fun _ h => (good_sel h (fun _ h => (good_sel h (fun _ h => (good_sel h (fun _ h => (good_sel h (fun _ h => (good_sel h (fun _ h => (good_sel h (fun _ h => (good_sel h (fun _ h => (good_sel h (fun _ h => (good_sel h (fun _ h => (good_sel h (fun _ h => good_cut (t72_9 k _ _ _ _ _ _ _ _ _ _ _ _ rb rn rg h)) (fun _ h => nomatch h))) (fun _ h => nomatch h))) (fun _ h => nomatch h))) (fun _ h => nomatch h))) (fun _ h => nomatch h))) (fun _ h => nomatch h))) (fun _ h => nomatch h))) (fun _ h => nomatch h))) (fun _ h => nomatch h))) (fun _ h => nomatch h))) (fun _ h => nomatch h))) (fun _ h => nomatch h))) (fun _ h => nomatch h))) (fun _ h => nomatch h))) (fun _ h => nomatch h))) (fun _ h => nomatch h))) (fun _ h => nomatch h))) (fun _ h => nomatch h))) (fun _ h => nomatch h))) (fun _ h => (good_sel h (fun _ h => (good_sel h (fun _ h => (good_sel h (fun _ h => (good_sel h (fun _ h => (good_sel h (fun _ h => (good_sel h (fun _ h => (good_sel h (fun _ h => good_cut (t72_5 k _ _ _ _ _ _ _ _ rb rn rg h)) (fun _ h => nomatch h))) (fun _ h => nomatch h))) (fun _ h => nomatch h))) (fun _ h => nomatch h))) (fun _ h => nomatch h))) (fun _ h => nomatch h))) (fun _ h => nomatch h))))
end
theorem t72 (k : Nat) (x : Int) (y : Int) (rb : Bool) (rn : Nat) (rg : Nat → F) (h : G72 k x y = some (rb, rn, rg)) : Ends Tryz.prog Tryz.f72.results.toList [.code (bodyOf Tryz.f72)] (start Tryz.f72.ntmps ([numF x, numF y].map .f)) (F.agg [F.bool rb, F.sl rn rg]) := by
  refine Ends.of_run tyOK envN8_ok (T := [(5, [2, 3, 4, 5, 34, 35, 36], 1000), (9, [2, 3, 4, 5, 6, 7, 8, 34, 35, 36, 42, 43, 44], 1000)]) (n := 200) ?_
  have e : run Tryz.prog (tiOf Tryz.prog) envN8 [(5, [2, 3, 4, 5, 34, 35, 36], 1000), (9, [2, 3, 4, 5, 6, 7, 8, 34, 35, 36, 42, 43, 44], 1000)] 0 Tryz.f72.results.toList some 200 [.code (bodyOf Tryz.f72)] (start Tryz.f72.ntmps ([numF x, numF y].map .f)) = T72 (fun rb rn rg => some (.ret (F.agg [F.bool rb, F.sl rn rg]))) (fun s t a b m n i g => some (.cut (at_ Tryz.f72 5) (S72_5 s t a b m n i g))) (fun s t a b m n i g x c nb j => some (.cut (at_ Tryz.f72 9) (S72_9 s t a b m n i g x c nb j))) x y := by kernel_rfl
  rw [e]
  exact (good_sel h (fun _ h => (good_sel h (fun _ h => good_ret (by cases h; rfl)) (fun _ h => (good_sel h (fun _ h => (good_sel h (fun _ h => (good_sel h (fun _ h => good_cut (t72_5 k _ _ _ _ _ _ _ _ rb rn rg h)) (fun _ h => nomatch h))) (fun _ h => nomatch h))) (fun _ h => nomatch h))))) (fun _ h => good_ret (by cases h; rfl)))
theorem words_set {m p v : Nat} {g : Nat → F} {o : List Nat} (ho : o.length = m) (hp : p < m) (hg : ∀ j, j < m → g j = u64F (o.getD j 0)) :
    ∀ j, j < m → (fun j => if j = 0 + p then F.int .u64 (v : Int) else g j) j = u64F ((o.set p v).getD j 0) := by
  intro j hj
  show (if j = 0 + p then F.int .u64 (v : Int) else g j) = _
  by_cases h : j = 0 + p
  · rw [if_pos h, h, Nat.zero_add]
    simp [List.getD, u64F, show p < o.length by omega]
  · rw [if_neg h, hg j hj]
    simp [List.getD, List.getElem?_set, show p ≠ j by omega]
theorem getD_set {o : List Nat} {p v j : Nat} (h : j ≠ p) : (o.set p v).getD j 0 = o.getD j 0 := by
  simp [List.getD, List.getElem?_set, Ne.symm h]
theorem mul_words_cast {x y : Nat} : mulLo x y = ((x * y % 18446744073709551616 : Nat) : Int) ∧ mulHi x y = ((x * y / 18446744073709551616 : Nat) : Int) := by
  unfold mulLo mulHi
  rw [← Int.natCast_mul]
  omega
theorem mul_carry {x y o c : Nat} (hx : x < 18446744073709551616) (hy : y < 18446744073709551616) (ho : o < 18446744073709551616) (hc : c < 18446744073709551616) :
    addLo (o : Int) (addLo (mulLo x y) c 0) 0 = (((x * y + o + c) % 18446744073709551616 : Nat) : Int) ∧
    IntKind.u64.wrap (IntKind.u64.wrap (mulHi x y + addHi (mulLo x y) c 0) + addHi (o : Int) (addLo (mulLo x y) c 0) 0) = (((x * y + o + c) / 18446744073709551616 : Nat) : Int) ∧
    isCarry (mulLo x y) c 0 = true ∧ isCarry (o : Int) (addLo (mulLo x y) c 0) 0 = true ∧ isWd2 x y = true ∧ (x * y + o + c) / 18446744073709551616 < 18446744073709551616 := by
  have h := mul_step (B := 18446744073709551616) (by omega) hx hy ho hc
  rw [mul_words_cast.1, mul_words_cast.2]
  simp only [isCarry_iff, isWd2_iff, wrapN]
  unfold addLo addHi
  generalize x * y = p at *
  refine ⟨by omega, by omega, by omega, by omega, by omega, h⟩
theorem cell_of (v : Nat) : (List.drop 0 (u64F v).cells).headD F.dflt = u64F v := rfl
theorem okV_u64 (v : Nat) : (okV (Value.int IntKind.u64 0) (u64F v) && true) = true := rfl
theorem intOf_u64 (v : Nat) : intOf (u64F v) = (v : Int) := rfl
theorem val_step {B : Nat} {o : List Nat} {p c x y : Nat} (hp : p < o.length) :
    val B (o.set p ((x * y + o.getD p 0 + c) % B)) + B ^ (p + 1) * ((x * y + o.getD p 0 + c) / B) = val B o + B ^ p * c + B ^ p * (x * y) := by
  have h1 := val_set B o p ((x * y + o.getD p 0 + c) % B) hp
  have h2 := Nat.mod_add_div (x * y + o.getD p 0 + c) B
  have h3 : B ^ p * (x * y + o.getD p 0 + c) = B ^ p * ((x * y + o.getD p 0 + c) % B) + B ^ (p + 1) * ((x * y + o.getD p 0 + c) / B) := by
    rw [Nat.pow_succ, Nat.mul_assoc, ← Nat.mul_add, h2]
  rw [Nat.mul_add, Nat.mul_add] at h3
  omega
theorem val_take_succ {B : Nat} {l : List Nat} {j : Nat} (h : j < l.length) : val B (l.take (j + 1)) = val B (l.take j) + B ^ j * l.getD j 0 := by
  rw [List.take_add_one, val_append]
  simp [List.getD, List.getElem?_eq_getElem h, val, Nat.min_eq_left (Nat.le_of_lt h)]
theorem by_inner {s t : Bool} {a b : List Nat} {m i x : Nat} {n : Int} (ob : okD 18446744073709551616 b) (hx : x < 18446744073709551616) (hm : m = a.length + b.length) (hi : i < a.length) (hl : m ≤ 900) :
    ∀ (r j c k : Nat) (o : List Nat) (g : Nat → F), r + j = b.length → o.length = m → okD 18446744073709551616 o → c < 18446744073709551616 → (∀ q, i + j ≤ q → (j = 0 ∨ i + b.length ≤ q) → (i + b.length ≤ q → o.getD q 0 = 0)) →
      (∀ q, q < m → g q = u64F (o.getD q 0)) → r < k →
      ∃ o' g', L72_9 (k + 1) s t a b m n i g x c b.length j = L72_5 (k - r) s t a b m n ((i + 1 : Nat) : Int) g' ∧ o'.length = m ∧ okD 18446744073709551616 o' ∧ (∀ q, i + 1 + b.length ≤ q → o'.getD q 0 = 0) ∧
        (∀ q, q < m → g' q = u64F (o'.getD q 0)) ∧ val 18446744073709551616 o' + 18446744073709551616 ^ i * x * val 18446744073709551616 (b.take j) = val 18446744073709551616 o + 18446744073709551616 ^ (i + j) * c + 18446744073709551616 ^ i * x * val 18446744073709551616 b
  | r, j, c, 0, o, g, _, _, _, _, _, _, hk => by omega
  | 0, j, c, k + 1, o, g, hr, ho, oo, hc, hz, hg, hk => by
    obtain rfl : j = b.length := by omega
    have hp : i + b.length < m := by omega
    have ei : IntKind.i64.wrap ((i : Int) + (b.length : Int)) = ((i + b.length : Nat) : Int) := by rw [wrapI (by omega) (by omega)]; omega
    have e1 : IntKind.i64.wrap ((i : Int) + 1) = ((i + 1 : Nat) : Int) := by rw [wrapI (by omega) (by omega)]; omega
    refine ⟨o.set (i + b.length) c, _, ?_, by simp [ho], okD_set oo hc, ?_, words_set ho hp hg, ?_⟩
    · rw [L72_9]
      unfold T72_9
      rw [decide_eq_false (show ¬ (b.length : Int) < b.length by omega), bsel_false, ei, e1, Int.toNat_natCast, decide_eq_true (show (0 : Int) ≤ ((i + b.length : Nat) : Int) by omega), decide_eq_true (show ((i + b.length : Nat) : Int) < (m : Int) by omega), decide_eq_true (show m = m from rfl), decide_eq_true (show 0 + (i + b.length) < m by omega), hg (0 + (i + b.length)) (by omega), decide_eq_true (u64_cells _), isAgg_or]
      rfl
    · intro q hq
      rw [getD_set (by omega)]
      exact hz q (by omega) (.inr (by omega)) (by omega)
    · have h1 := val_set 18446744073709551616 o (i + b.length) c (by omega)
      rw [hz (i + b.length) (by omega) (.inr (by omega)) (by omega), Nat.mul_zero, Nat.add_zero] at h1
      rw [h1, List.take_length]
  | r + 1, j, c, k + 1, o, g, hr, ho, oo, hc, hz, hg, hk => by
    have hj : j < b.length := by omega
    have hp : i + j < m := by omega
    have hy := getD_lt ob hj
    have hov := getD_lt oo (show i + j < o.length by omega)
    obtain ⟨c1, c2, c3, c4, c5, c6⟩ := mul_carry hx hy hov hc
    have ei : IntKind.i64.wrap ((i : Int) + (j : Int)) = ((i + j : Nat) : Int) := by rw [wrapI (by omega) (by omega)]; omega
    have e1 : IntKind.i64.wrap ((j : Int) + 1) = ((j + 1 : Nat) : Int) := by rw [wrapI (by omega) (by omega)]; omega
    obtain ⟨o', g', h1, h2, h3, h4, h5, h6⟩ := by_inner (s := s) (t := t) (n := n) ob hx hm hi hl r (j + 1) ((x * b.getD j 0 + o.getD (i + j) 0 + c) / 18446744073709551616) k (o.set (i + j) ((x * b.getD j 0 + o.getD (i + j) 0 + c) % 18446744073709551616)) _ (by omega) (by simp [ho]) (okD_set oo (Nat.mod_lt _ (by omega))) c6
      (fun q hq _ hq2 => by rw [getD_set (by omega)]; exact hz q (by omega) (.inr hq2) hq2) (words_set ho hp hg) (by omega)
    refine ⟨o', g', ?_, h2, h3, h4, h5, ?_⟩
    · rw [show k + 1 - (r + 1) = k - r by omega, ← h1]
      conv => lhs; rw [L72_9]
      unfold T72_9
      rw [decide_eq_true (show (j : Int) < b.length by omega), decide_eq_true (show (0 : Int) ≤ (j : Int) by omega), ei, e1, Int.toNat_natCast, Int.toNat_natCast, decide_eq_true (show (0 : Int) ≤ ((i + j : Nat) : Int) by omega), decide_eq_true (show ((i + j : Nat) : Int) < (m : Int) by omega), decide_eq_true (show m = m from rfl), decide_eq_true (show 0 + (i + j) < m by omega), hg (0 + (i + j)) (by omega), decide_eq_true (u64_cells _), cell_of, okV_u64, intOf_u64, isAgg_or, Nat.zero_add, c1, c2, c3, c4, c5]
      rfl
    · have hs := val_step (B := 18446744073709551616) (o := o) (p := i + j) (c := c) (x := x) (y := b.getD j 0) (by omega)
      have ht := val_take_succ (B := 18446744073709551616) (l := b) hj
      rw [ht, Nat.mul_add] at h6
      have e2 : 18446744073709551616 ^ (i + j) * (x * b.getD j 0) = 18446744073709551616 ^ i * x * (18446744073709551616 ^ j * b.getD j 0) := by
        rw [Nat.pow_add, Nat.mul_assoc, Nat.mul_assoc]
        congr 1
        rw [Nat.mul_left_comm]
      rw [show i + (j + 1) = i + j + 1 by omega] at h6
      omega
theorem by_outer {s t : Bool} {a b : List Nat} {m : Nat} (oa : okD 18446744073709551616 a) (ob : okD 18446744073709551616 b) (hm : m = a.length + b.length) (hl : m ≤ 900) :
    ∀ (r i k : Nat) (o : List Nat) (g : Nat → F), r + i = a.length → o.length = m → okD 18446744073709551616 o → (∀ q, i + b.length ≤ q → o.getD q 0 = 0) → (∀ q, q < m → g q = u64F (o.getD q 0)) → val 18446744073709551616 o = val 18446744073709551616 (a.take i) * val 18446744073709551616 b →
      r * (b.length + 3) < k → ∃ sb rn rg, L72_5 k s t a b m a.length i g = some (sb, rn, rg) ∧ F.agg [.bool sb, .sl rn rg] = numF (sgn (!(s == t)) (val 18446744073709551616 a * val 18446744073709551616 b))
  | r, i, 0, o, g, _, _, _, _, _, _, hk => by omega
  | 0, i, k + 1, o, g, hr, ho, oo, hz, hg, hv, hk => by
    obtain rfl : i = a.length := by omega
    rw [List.take_length] at hv
    rw [L72_5]
    unfold T72_5
    rw [decide_eq_false (show ¬ (a.length : Int) < a.length by omega), bsel_false, show offF 0 g = g from rfl, unWords_read ho hg, isWords_read ho hg oo, show lenOk 1000 (.sl m g) = true from Nat.ble_eq_true_of_le (by omega), hv, decide_eq_true (show m = m from rfl)]
    exact ⟨_, _, _, rfl, rfl⟩
  | r + 1, i, k + 1, o, g, hr, ho, oo, hz, hg, hv, hk => by
    have hi : i < a.length := by omega
    have hx := getD_lt oa hi
    rw [Nat.add_mul, Nat.one_mul] at hk
    obtain ⟨k', rfl⟩ : ∃ k', k = k' + 1 := ⟨k - 1, by omega⟩
    obtain ⟨o', g', h1, h2, h3, h4, h5, h6⟩ := by_inner (s := s) (t := t) (n := (a.length : Int)) ob hx hm hi hl b.length 0 0 k' o g (by omega) ho oo (by omega) (fun q _ _ hq => hz q hq) hg (by omega)
    have hv' : val 18446744073709551616 o' = val 18446744073709551616 (a.take (i + 1)) * val 18446744073709551616 b := by
      rw [val_take_succ hi, Nat.add_mul, ← hv]
      simp only [List.take_zero, val, Nat.mul_zero, Nat.add_zero] at h6
      exact h6
    obtain ⟨sb, rn, rg, g1, g2⟩ := by_outer (s := s) (t := t) oa ob hm hl r (i + 1) (k' - b.length) o' g' (by omega) h2 h3 (fun q hq => h4 q hq) h5 hv' (by omega)
    refine ⟨sb, rn, rg, ?_, g2⟩
    rw [← g1, L72_5]
    unfold T72_5
    rw [decide_eq_true (show (i : Int) < a.length by omega), decide_eq_true (show (0 : Int) ≤ (i : Int) by omega), Int.toNat_natCast]
    exact h1
theorem sgn_mul (x y : Int) : sgn (!(decide (x < 0) == decide (y < 0))) (x.natAbs * y.natAbs) = x * y := by
  have e : ((x.natAbs * y.natAbs : Nat) : Int) = (x * y).natAbs := by rw [Int.natAbs_mul]
  unfold sgn
  rw [e]
  by_cases hx : x < 0 <;> by_cases hy : y < 0
  · rw [decide_eq_true hx, decide_eq_true hy]
    have := Int.mul_pos_of_neg_of_neg hx hy
    simp; omega
  · rw [decide_eq_true hx, decide_eq_false hy]
    have := Int.mul_nonpos_of_nonpos_of_nonneg (Int.le_of_lt hx) (Int.not_lt.1 hy)
    simp; omega
  · rw [decide_eq_false hx, decide_eq_true hy]
    have := Int.mul_nonpos_of_nonneg_of_nonpos (Int.not_lt.1 hx) (Int.le_of_lt hy)
    simp; omega
  · rw [decide_eq_false hx, decide_eq_false hy]
    have := Int.mul_nonneg (Int.not_lt.1 hx) (Int.not_lt.1 hy)
    simp; omega
theorem by_law {x y : Int} (hx : x.natAbs < 18446744073709551616 ^ 400) (hy : y.natAbs < 18446744073709551616 ^ 400) : ∃ sb rn rg, G72 200000 x y = some (sb, rn, rg) ∧ FLe (F.agg [.bool sb, .sl rn rg]) (numF (x * y)) := by
  have lx := digs_len hx
  have ly := digs_len hy
  have z : FLe (F.agg [.bool false, .sl 0 fun _ => F.bool false]) (numF 0) := by
    unfold numF
    rw [show digs 18446744073709551616 (Int.natAbs 0) = [] from digs_zero _]
    exact FLe.agg ⟨.refl _, FLe.sl fun j hj => by omega, trivial⟩
  unfold G72 T72
  by_cases hx0 : x = 0
  · subst hx0
    rw [show digs 18446744073709551616 (Int.natAbs 0) = [] from digs_zero _, Int.zero_mul]
    exact ⟨_, _, _, rfl, z⟩
  by_cases hy0 : y = 0
  · subst hy0
    rw [show digs 18446744073709551616 (Int.natAbs 0) = [] from digs_zero _, Int.mul_zero]
    have : (((digs 18446744073709551616 x.natAbs).length : Int) == 0) = false := by
      have := digs_len_pos (n := x.natAbs).2 (by omega)
      simp only [beq_eq_false_iff_ne, ne_eq]; omega
    rw [this]
    exact ⟨_, _, _, rfl, z⟩
  have px := digs_len_pos (n := x.natAbs).2 (by omega)
  have py := digs_len_pos (n := y.natAbs).2 (by omega)
  have ew : IntKind.i64.wrap (((digs 18446744073709551616 x.natAbs).length : Int) + ((digs 18446744073709551616 y.natAbs).length : Int)) = (((digs 18446744073709551616 x.natAbs).length + (digs 18446744073709551616 y.natAbs).length : Nat) : Int) := by
    rw [wrapI (by omega) (by omega)]; omega
  rw [ew, show (((digs 18446744073709551616 x.natAbs).length : Int) == 0) = false by simp only [beq_eq_false_iff_ne, ne_eq]; omega, show (((digs 18446744073709551616 y.natAbs).length : Int) == 0) = false by simp only [beq_eq_false_iff_ne, ne_eq]; omega]
  rw [decide_eq_true (show (0 : Int) ≤ (((digs 18446744073709551616 x.natAbs).length + (digs 18446744073709551616 y.natAbs).length : Nat) : Int) by omega), decide_eq_true (Int.le_refl _), decide_eq_true (limit_ok (show (digs 18446744073709551616 x.natAbs).length + (digs 18446744073709551616 y.natAbs).length ≤ 1000 by omega)), Int.toNat_natCast]
  have fuel : (digs 18446744073709551616 x.natAbs).length * ((digs 18446744073709551616 y.natAbs).length + 3) < 200000 := Nat.lt_of_le_of_lt (Nat.mul_le_mul lx (show (digs 18446744073709551616 y.natAbs).length + 3 ≤ 403 by omega)) (by decide)
  obtain ⟨sb, rn, rg, h1, h2⟩ := by_outer (s := decide (x < 0)) (t := decide (y < 0)) (a := digs 18446744073709551616 x.natAbs) (b := digs 18446744073709551616 y.natAbs) (okD_digs (by omega) _) (okD_digs (by omega) _) rfl (by omega) (digs 18446744073709551616 x.natAbs).length 0 200000 (List.replicate ((digs 18446744073709551616 x.natAbs).length + (digs 18446744073709551616 y.natAbs).length) 0) (fun _ => F.int .u64 0) rfl (by simp)
    (fun w hw => by have := (List.mem_replicate.1 hw).2; omega) (fun q hq => by simp [List.getD, List.getElem?_replicate]; split <;> rfl) (fun q hq => by simp [List.getD, List.getElem?_replicate, u64F, hq]) (by rw [val_zeros]; simp [val]) fuel
  rw [val_digsB, val_digsB, sgn_mul] at h2
  exact ⟨sb, rn, rg, h1, by rw [h2]; exact .refl _⟩
def resBy : List F → F | [x, y] => numF (unNum x * unNum y) | _ => .dflt
theorem okBy : PureOK Tryz.prog 72 (preN2 400) resBy :=
  fn_pure_at (c := bodyOf Tryz.f72) Tryz.func72 (by kernel_rfl) (by kernel_rfl) fun xs hp => match xs, hp with
  | [x, y], hp => by
    obtain ⟨hx, hy⟩ := preN2_iff hp
    obtain ⟨sb, rn, rg, h1, h2⟩ := by_law (natAbs_of_isNum hx) (natAbs_of_isNum hy)
    exact ⟨[numF (unNum x), numF (unNum y)], _, ⟨(num_eqv hx).1, (num_eqv hy).1, trivial⟩, t72 200000 _ _ _ _ _ h1, h2⟩
theorem less_law {x y : Int} (hx : x.natAbs < 18446744073709551616 ^ 400) (hy : y.natAbs < 18446744073709551616 ^ 400) : G89 x y = some (x - y) := by
  unfold G89 T89
  have h1 : (-y).natAbs < 18446744073709551616 ^ 400 := by rw [Int.natAbs_neg]; exact hy
  simp only [resMinus, unNum_numF, isNum_numF hx, isNum_numF hy, isNum_numF h1, Bool.and_self, bsel_true]
  congr 1
def resLess2 : List F → F | [x, y] => numF (unNum x - unNum y) | _ => .dflt
theorem okLess2 : PureOK Tryz.prog 89 (preN2 400) resLess2 :=
  fn_pure_at (c := bodyOf Tryz.f89) Tryz.func89 (by kernel_rfl) (by kernel_rfl) fun xs hp => match xs, hp with
  | [x, y], hp => by
    obtain ⟨hx, hy⟩ := preN2_iff hp
    exact ⟨[numF (unNum x), numF (unNum y)], _, ⟨(num_eqv hx).1, (num_eqv hy).1, trivial⟩, t89 _ _ _ (less_law (natAbs_of_isNum hx) (natAbs_of_isNum hy)), .refl _⟩
def envN9 : Env := (envN8.add 72 (.pure (preN2 400) resBy)).add 89 (.pure (preN2 400) resLess2)
theorem envN9_ok : EnvOK Tryz.prog envN9 := (Env.add_ok (Env.add_ok envN8_ok okBy.sp) okLess2.sp)
end
end Go.Proofs.YtdcooaopkbicfaaGreat.R
namespace Go.Proofs.YtdcooaopkbicfaaGreat.R
open Go
noncomputable section
def bitLen (n : Nat) : Nat := if n = 0 then 0 else n.log2 + 1
theorem bitLen_le {n j : Nat} : bitLen n ≤ j ↔ n < 2 ^ j := by
  unfold bitLen
  by_cases h : n = 0
  · rw [if_pos h]; subst h; simp [Nat.pow_pos]
  · rw [if_neg h, Nat.add_one_le_iff, Nat.log2_lt h]
theorem bitLen_shift {n k : Nat} (h : 2 ^ k ≤ n) : bitLen n = k + bitLen (n / 2 ^ k) := by
  have key : ∀ j, bitLen n ≤ j ↔ k + bitLen (n / 2 ^ k) ≤ j := by
    intro j
    rcases Nat.lt_or_ge j k with hj | hj
    · have h1 : ¬ bitLen n ≤ j := by
        rw [bitLen_le]
        have := Nat.pow_le_pow_right (show 0 < 2 by omega) (Nat.le_of_lt hj)
        omega
      exact ⟨fun x => absurd x h1, fun x => by omega⟩
    · have : bitLen (n / 2 ^ k) ≤ j - k ↔ n / 2 ^ k < 2 ^ (j - k) := bitLen_le
      rw [Nat.div_lt_iff_lt_mul (Nat.pow_pos (by omega)), ← Nat.pow_add, Nat.sub_add_cancel hj, ← bitLen_le] at this
      omega
  have h1 := (key (bitLen n)).1 (Nat.le_refl _)
  have h2 := (key (k + bitLen (n / 2 ^ k))).2 (Nat.le_refl _)
  omega
def len8tab : ByteArray := ByteArray.mk (([0, 1, 2, 2, 3, 3, 3, 3, 4, 4, 4, 4, 4, 4, 4, 4] ++ List.replicate 16 5 ++ List.replicate 32 6 ++ List.replicate 64 7 ++ List.replicate 128 8 : List UInt8).toArray)
/-! ### function 104 -/
def T104 {ρ : Type} (ret : (Int) → Option ρ) (x : Nat) : Option ρ :=
 (bsel (decide ((↑x : Int) ≥ 4294967296))
 (bsel (decide ((↑x : Int).fdiv (2 ^ 32) ≥ 65536))
 (bsel (decide (((↑x : Int).fdiv (2 ^ 32)).fdiv (2 ^ 16) ≥ 256))
 (bsel (decide (0 ≤ IntKind.u8.wrap ((((↑x : Int).fdiv (2 ^ 32)).fdiv (2 ^ 16)).fdiv (2 ^ 8))))
 (bsel (decide (IntKind.u8.wrap ((((↑x : Int).fdiv (2 ^ 32)).fdiv (2 ^ 16)).fdiv (2 ^ 8)) < ((256 : Nat) : Int)))
 (ret (IntKind.i64.wrap (IntKind.i64.wrap (IntKind.i64.wrap (32 + 16) + 8) + IntKind.i64.wrap (byteAt len8tab (IntKind.u8.wrap ((((↑x : Int).fdiv (2 ^ min (Int.toNat 32) IntKind.u64.bits)).fdiv (2 ^ min (Int.toNat 16) IntKind.u64.bits)).fdiv (2 ^ min (Int.toNat 8) IntKind.u64.bits)))))))
 none)
 none)
 (bsel (decide (0 ≤ IntKind.u8.wrap (((↑x : Int).fdiv (2 ^ 32)).fdiv (2 ^ 16))))
 (bsel (decide (IntKind.u8.wrap (((↑x : Int).fdiv (2 ^ 32)).fdiv (2 ^ 16)) < ((256 : Nat) : Int)))
 (ret (IntKind.i64.wrap (IntKind.i64.wrap (32 + 16) + IntKind.i64.wrap (byteAt len8tab (IntKind.u8.wrap (((↑x : Int).fdiv (2 ^ min (Int.toNat 32) IntKind.u64.bits)).fdiv (2 ^ min (Int.toNat 16) IntKind.u64.bits)))))))
 none)
 none))
 (bsel (decide ((↑x : Int).fdiv (2 ^ 32) ≥ 256))
 (bsel (decide (0 ≤ IntKind.u8.wrap (((↑x : Int).fdiv (2 ^ 32)).fdiv (2 ^ 8))))
 (bsel (decide (IntKind.u8.wrap (((↑x : Int).fdiv (2 ^ 32)).fdiv (2 ^ 8)) < ((256 : Nat) : Int)))
 (ret (IntKind.i64.wrap (IntKind.i64.wrap (32 + 8) + IntKind.i64.wrap (byteAt len8tab (IntKind.u8.wrap (((↑x : Int).fdiv (2 ^ min (Int.toNat 32) IntKind.u64.bits)).fdiv (2 ^ min (Int.toNat 8) IntKind.u64.bits)))))))
 none)
 none)
 (bsel (decide (0 ≤ IntKind.u8.wrap ((↑x : Int).fdiv (2 ^ 32))))
 (bsel (decide (IntKind.u8.wrap ((↑x : Int).fdiv (2 ^ 32)) < ((256 : Nat) : Int)))
 (ret (IntKind.i64.wrap (32 + IntKind.i64.wrap (byteAt len8tab (IntKind.u8.wrap ((↑x : Int).fdiv (2 ^ min (Int.toNat 32) IntKind.u64.bits)))))))
 none)
 none)))
 (bsel (decide ((↑x : Int) ≥ 65536))
 (bsel (decide ((↑x : Int).fdiv (2 ^ 16) ≥ 256))
 (bsel (decide (0 ≤ IntKind.u8.wrap (((↑x : Int).fdiv (2 ^ 16)).fdiv (2 ^ 8))))
 (bsel (decide (IntKind.u8.wrap (((↑x : Int).fdiv (2 ^ 16)).fdiv (2 ^ 8)) < ((256 : Nat) : Int)))
 (ret (IntKind.i64.wrap (IntKind.i64.wrap (IntKind.i64.wrap (0 + 16) + 8) + IntKind.i64.wrap (byteAt len8tab (IntKind.u8.wrap (((↑x : Int).fdiv (2 ^ min (Int.toNat 16) IntKind.u64.bits)).fdiv (2 ^ min (Int.toNat 8) IntKind.u64.bits)))))))
 none)
 none)
 (bsel (decide (0 ≤ IntKind.u8.wrap ((↑x : Int).fdiv (2 ^ 16))))
 (bsel (decide (IntKind.u8.wrap ((↑x : Int).fdiv (2 ^ 16)) < ((256 : Nat) : Int)))
 (ret (IntKind.i64.wrap (IntKind.i64.wrap (0 + 16) + IntKind.i64.wrap (byteAt len8tab (IntKind.u8.wrap ((↑x : Int).fdiv (2 ^ min (Int.toNat 16) IntKind.u64.bits)))))))
 none)
 none))
 (bsel (decide ((↑x : Int) ≥ 256))
 (bsel (decide (0 ≤ IntKind.u8.wrap ((↑x : Int).fdiv (2 ^ 8))))
 (bsel (decide (IntKind.u8.wrap ((↑x : Int).fdiv (2 ^ 8)) < ((256 : Nat) : Int)))
 (ret (IntKind.i64.wrap (IntKind.i64.wrap (0 + 8) + IntKind.i64.wrap (byteAt len8tab (IntKind.u8.wrap ((↑x : Int).fdiv (2 ^ min (Int.toNat 8) IntKind.u64.bits)))))))
 none)
 none)
 (bsel (decide (0 ≤ IntKind.u8.wrap (↑x : Int)))
 (bsel (decide (IntKind.u8.wrap (↑x : Int) < ((256 : Nat) : Int)))
 (ret (IntKind.i64.wrap (0 + IntKind.i64.wrap (byteAt len8tab (IntKind.u8.wrap (↑x : Int))))))
 none)
 none))))
def G104 (x : Nat) : Option (Int) := T104 some x
theorem t104 (x : Nat) (r : Int) (h : G104 x = some r) : Ends Tryz.prog Tryz.f104.results.toList [.code (bodyOf Tryz.f104)] (start Tryz.f104.ntmps ([u64F x].map .f)) (F.int .i64 r) := by
  refine Ends.of_run tyOK envN9_ok (T := []) (n := 200) ?_
  have e : run Tryz.prog (tiOf Tryz.prog) envN9 [] 0 Tryz.f104.results.toList some 200 [.code (bodyOf Tryz.f104)] (start Tryz.f104.ntmps ([u64F x].map .f)) = T104 (fun r => some (.ret (F.int .i64 r))) x := by kernel_rfl
  rw [e]
  exact (good_sel h (fun _ h => (good_sel h (fun _ h => (good_sel h (fun _ h => (good_sel h (fun _ h => (good_sel h (fun _ h => good_ret (by cases h; rfl)) (fun _ h => nomatch h))) (fun _ h => nomatch h))) (fun _ h => (good_sel h (fun _ h => (good_sel h (fun _ h => good_ret (by cases h; rfl)) (fun _ h => nomatch h))) (fun _ h => nomatch h))))) (fun _ h => (good_sel h (fun _ h => (good_sel h (fun _ h => (good_sel h (fun _ h => good_ret (by cases h; rfl)) (fun _ h => nomatch h))) (fun _ h => nomatch h))) (fun _ h => (good_sel h (fun _ h => (good_sel h (fun _ h => good_ret (by cases h; rfl)) (fun _ h => nomatch h))) (fun _ h => nomatch h))))))) (fun _ h => (good_sel h (fun _ h => (good_sel h (fun _ h => (good_sel h (fun _ h => (good_sel h (fun _ h => good_ret (by cases h; rfl)) (fun _ h => nomatch h))) (fun _ h => nomatch h))) (fun _ h => (good_sel h (fun _ h => (good_sel h (fun _ h => good_ret (by cases h; rfl)) (fun _ h => nomatch h))) (fun _ h => nomatch h))))) (fun _ h => (good_sel h (fun _ h => (good_sel h (fun _ h => (good_sel h (fun _ h => good_ret (by cases h; rfl)) (fun _ h => nomatch h))) (fun _ h => nomatch h))) (fun _ h => (good_sel h (fun _ h => (good_sel h (fun _ h => good_ret (by cases h; rfl)) (fun _ h => nomatch h))) (fun _ h => nomatch h))))))))
theorem tab_at : ∀ v : Nat, v < 256 → byteAt len8tab (v : Int) = (bitLen v : Nat) := by
  have h : ∀ v ∈ List.range 256, byteAt len8tab (v : Int) = (bitLen v : Nat) := by decide +kernel
  intro v hv
  exact h v (List.mem_range.2 hv)
theorem fdiv_nat (n k : Nat) : Int.fdiv (n : Int) (2 ^ k) = ((n / 2 ^ k : Nat) : Int) := by
  rw [Int.fdiv_eq_ediv_of_nonneg _ (Int.pow_nonneg (by omega))]
  norm_cast
theorem wrapB {n : Nat} (h : n < 256) : IntKind.u8.wrap (n : Int) = n := by
  unfold IntKind.wrap
  simp [IntKind.bits, IntKind.signed]
  omega
theorem len_law {x : Nat} (hx : x < 18446744073709551616) : G104 x = some (bitLen x : Nat) := by
  unfold G104 T104
  have e32 : min (Int.toNat 32) IntKind.u64.bits = 32 := rfl
  have e16 : min (Int.toNat 16) IntKind.u64.bits = 16 := rfl
  have e8 : min (Int.toNat 8) IntKind.u64.bits = 8 := rfl
  rw [e32, e16, e8]
  simp only [fdiv_nat]
  have leaf : ∀ (v s : Nat) (t : Int), v < 256 → t = (s : Int) → s ≤ 64 → bitLen x = s + bitLen v →
      bsel (decide (0 ≤ IntKind.u8.wrap (v : Int))) (bsel (decide (IntKind.u8.wrap (v : Int) < ((256 : Nat) : Int))) (some (IntKind.i64.wrap (t + IntKind.i64.wrap (byteAt len8tab (IntKind.u8.wrap (v : Int)))))) none) none = some ((bitLen x : Nat) : Int) := by
    intro v s t hv ht hs hb
    have hl : bitLen v ≤ 8 := bitLen_le.2 (by simpa using hv)
    rw [wrapB hv, decide_eq_true (show (0 : Int) ≤ (v : Int) by omega), decide_eq_true (show (v : Int) < ((256 : Nat) : Int) by omega), tab_at v hv, ht]
    simp only [bsel_true]
    rw [wrapI (x := ((bitLen v : Nat) : Int)) (by omega) (by omega), wrapI (by omega) (by omega), hb]
    congr 1
  have sh : ∀ {n : Nat} (k : Nat), 2 ^ k ≤ n → bitLen n = k + bitLen (n / 2 ^ k) := fun k h => bitLen_shift h
  by_cases h1 : x ≥ 4294967296
  · rw [decide_eq_true (show (x : Int) ≥ 4294967296 by omega), bsel_true]
    have s1 := sh 32 (show 2 ^ 32 ≤ x by omega)
    by_cases h2 : x / 2 ^ 32 ≥ 65536
    · rw [decide_eq_true (show ((x / 2 ^ 32 : Nat) : Int) ≥ 65536 by omega), bsel_true]
      have s2 := sh 16 (show 2 ^ 16 ≤ x / 2 ^ 32 by omega)
      by_cases h3 : x / 2 ^ 32 / 2 ^ 16 ≥ 256
      · rw [decide_eq_true (show ((x / 2 ^ 32 / 2 ^ 16 : Nat) : Int) ≥ 256 by omega), bsel_true]
        have s3 := sh 8 (show 2 ^ 8 ≤ x / 2 ^ 32 / 2 ^ 16 by omega)
        exact leaf (x / 2 ^ 32 / 2 ^ 16 / 2 ^ 8) 56 _ (by omega) rfl (by omega) (by omega)
      · rw [decide_eq_false (show ¬ ((x / 2 ^ 32 / 2 ^ 16 : Nat) : Int) ≥ 256 by omega), bsel_false]
        exact leaf (x / 2 ^ 32 / 2 ^ 16) 48 _ (by omega) rfl (by omega) (by omega)
    · rw [decide_eq_false (show ¬ ((x / 2 ^ 32 : Nat) : Int) ≥ 65536 by omega), bsel_false]
      by_cases h3 : x / 2 ^ 32 ≥ 256
      · rw [decide_eq_true (show ((x / 2 ^ 32 : Nat) : Int) ≥ 256 by omega), bsel_true]
        have s3 := sh 8 (show 2 ^ 8 ≤ x / 2 ^ 32 by omega)
        exact leaf (x / 2 ^ 32 / 2 ^ 8) 40 _ (by omega) rfl (by omega) (by omega)
      · rw [decide_eq_false (show ¬ ((x / 2 ^ 32 : Nat) : Int) ≥ 256 by omega), bsel_false]
        exact leaf (x / 2 ^ 32) 32 _ (by omega) rfl (by omega) (by omega)
  · rw [decide_eq_false (show ¬ (x : Int) ≥ 4294967296 by omega), bsel_false]
    by_cases h2 : x ≥ 65536
    · rw [decide_eq_true (show (x : Int) ≥ 65536 by omega), bsel_true]
      have s2 := sh 16 (show 2 ^ 16 ≤ x by omega)
      by_cases h3 : x / 2 ^ 16 ≥ 256
      · rw [decide_eq_true (show ((x / 2 ^ 16 : Nat) : Int) ≥ 256 by omega), bsel_true]
        have s3 := sh 8 (show 2 ^ 8 ≤ x / 2 ^ 16 by omega)
        exact leaf (x / 2 ^ 16 / 2 ^ 8) 24 _ (by omega) rfl (by omega) (by omega)
      · rw [decide_eq_false (show ¬ ((x / 2 ^ 16 : Nat) : Int) ≥ 256 by omega), bsel_false]
        exact leaf (x / 2 ^ 16) 16 _ (by omega) rfl (by omega) (by omega)
    · rw [decide_eq_false (show ¬ (x : Int) ≥ 65536 by omega), bsel_false]
      by_cases h3 : x ≥ 256
      · rw [decide_eq_true (show (x : Int) ≥ 256 by omega), bsel_true]
        have s3 := sh 8 (show 2 ^ 8 ≤ x by omega)
        exact leaf (x / 2 ^ 8) 8 _ (by omega) rfl (by omega) (by omega)
      · rw [decide_eq_false (show ¬ (x : Int) ≥ 256 by omega), bsel_false]
        exact leaf x 0 _ (by omega) rfl (by omega) (by omega)
def preW1 : List F → Bool | [.int .u64 x] => isWd x | _ => false
def resLen : List F → F | [.int .u64 x] => .int .i64 (bitLen x.toNat : Nat) | _ => .dflt
theorem okLen64 : PureOK Tryz.prog 104 preW1 resLen :=
  fn_pure (c := bodyOf Tryz.f104) Tryz.func104 (by kernel_rfl) (by kernel_rfl) fun xs hp => match xs, hp with
  | [.int .u64 x], hp => by
    obtain ⟨h0, h1⟩ := isWd_iff.1 hp
    obtain ⟨x, rfl⟩ := Int.eq_ofNat_of_zero_le h0
    exact t104 x _ (len_law (by omega))
def envN10 : Env := envN9.add 104 (.pure preW1 resLen)
theorem envN10_ok : EnvOK Tryz.prog envN10 := (Env.add_ok envN9_ok okLen64.sp)
end
end Go.Proofs.YtdcooaopkbicfaaGreat.R
namespace Go.Proofs.YtdcooaopkbicfaaGreat.R
open Go
noncomputable section
/-! ### function 95 -/
def T95 {ρ : Type} (ret : (Int) → Option ρ) (x : Nat) : Option ρ :=
 (bsel (isWd (↑x : Int))
 (ret (IntKind.i64.wrap (64 - (↑(bitLen (↑x : Int).toNat) : Int))))
 none)
def G95 (x : Nat) : Option (Int) := T95 some x
theorem t95 (x : Nat) (r : Int) (h : G95 x = some r) : Ends Tryz.prog Tryz.f95.results.toList [.code (bodyOf Tryz.f95)] (start Tryz.f95.ntmps ([u64F x].map .f)) (F.int .i64 r) := by
  refine Ends.of_run tyOK envN10_ok (T := []) (n := 200) ?_
  have e : run Tryz.prog (tiOf Tryz.prog) envN10 [] 0 Tryz.f95.results.toList some 200 [.code (bodyOf Tryz.f95)] (start Tryz.f95.ntmps ([u64F x].map .f)) = T95 (fun r => some (.ret (F.int .i64 r))) x := by kernel_rfl
  rw [e]
  exact (good_sel h (fun _ h => good_ret (by cases h; rfl)) (fun _ h => nomatch h))
def lzV (x : Nat) : Int := 64 - (bitLen x : Nat)
theorem bitLen_le64 {x : Nat} (hx : x < 18446744073709551616) : bitLen x ≤ 64 := bitLen_le.2 (by simpa using hx)
theorem lz_law {x : Nat} (hx : x < 18446744073709551616) : G95 x = some (lzV x) := by
  have h := bitLen_le64 hx
  unfold G95 T95 lzV
  rw [show isWd (x : Int) = true from isWd_iff.2 (by omega), bsel_true]
  simp only [Int.toNat_natCast]
  rw [wrapI (by omega) (by omega)]
def resLz : List F → F | [.int .u64 x] => .int .i64 (lzV x.toNat) | _ => .dflt
theorem okLz : PureOK Tryz.prog 95 preW1 resLz :=
  fn_pure (c := bodyOf Tryz.f95) Tryz.func95 (by kernel_rfl) (by kernel_rfl) fun xs hp => match xs, hp with
  | [.int .u64 x], hp => by
    obtain ⟨h0, h1⟩ := isWd_iff.1 hp
    obtain ⟨x, rfl⟩ := Int.eq_ofNat_of_zero_le h0
    exact t95 x _ (lz_law (by omega))
def envN11 : Env := envN10.add 95 (.pure preW1 resLz)
theorem envN11_ok : EnvOK Tryz.prog envN11 := (Env.add_ok envN10_ok okLz.sp)
end
end Go.Proofs.YtdcooaopkbicfaaGreat.R
namespace Go.Proofs.YtdcooaopkbicfaaGreat.R
open Go
noncomputable section
/-! ### function 101 -/
def S101_17 (y : Int) (s : Int) (y1 : Int) (y0 : Int) (u : Int) (u1 : Int) (u0 : Int) (q : Int) (r : Int) : St := ⟨[.bad, .bad, (U.f (F.int .u64 y)), .bad, .bad, .bad, .bad, .bad, (U.f (F.int .u64 s)), (U.f (F.int .u64 y1)), (U.f (F.int .u64 y0)), (U.f (F.int .u64 u)), .bad, (U.f (F.int .u64 u1)), (U.f (F.int .u64 u0)), (U.f (F.int .u64 q)), (U.f (F.int .u64 r)), .bad, .bad, .bad, .bad, .bad, .bad, .bad, .bad, .bad, .bad, .bad, .bad, .bad, .bad, .bad, .bad, .bad, .bad, .bad, .bad, .bad, .bad, .bad, .bad, .bad, .bad, .bad, .bad, .bad, .bad, .bad, .bad, .bad, .bad, .bad, .bad, .bad, .bad, .bad, .bad, .bad, .bad, .bad, .bad, .bad, .bad, .bad, .bad, .bad, .bad, .bad, .bad, .bad, .bad, .bad, .bad, .bad, .bad, .bad, .bad, .bad, .bad, .bad, .bad, .bad, .bad, .bad, .bad, .bad, .bad, .bad, .bad, .bad, .bad, .bad, .bad, .bad, .bad, .bad, .bad, .bad, .bad, .bad, .bad, .bad, .bad, .bad, .bad, .bad, .bad, .bad, .bad, .bad, .bad, .bad, .bad, .bad, .bad, .bad, .bad, .bad, .bad, .bad, .bad, .bad, .bad, .bad, .bad, .bad, .bad, .bad, .bad, .bad, .bad, .bad, .bad, .bad, .bad], []⟩
def S101_24 (y : Int) (s : Int) (y1 : Int) (y0 : Int) (u0 : Int) (q : Int) (v : Int) (p : Int) (r : Int) : St := ⟨[.bad, .bad, (U.f (F.int .u64 y)), .bad, .bad, .bad, .bad, .bad, (U.f (F.int .u64 s)), (U.f (F.int .u64 y1)), (U.f (F.int .u64 y0)), .bad, .bad, .bad, (U.f (F.int .u64 u0)), (U.f (F.int .u64 q)), (U.f (F.int .u64 v)), (U.f (F.int .u64 p)), (U.f (F.int .u64 r)), .bad, .bad, .bad, .bad, .bad, .bad, .bad, .bad, .bad, .bad, .bad, .bad, .bad, .bad, .bad, .bad, .bad, .bad, .bad, .bad, .bad, .bad, .bad, .bad, .bad, .bad, .bad, .bad, .bad, .bad, .bad, .bad, .bad, .bad, .bad, .bad, .bad, .bad, .bad, .bad, .bad, .bad, .bad, .bad, .bad, .bad, .bad, .bad, .bad, .bad, .bad, .bad, .bad, .bad, .bad, .bad, .bad, .bad, .bad, .bad, .bad, .bad, .bad, .bad, .bad, .bad, .bad, .bad, .bad, .bad, .bad, .bad, .bad, .bad, .bad, .bad, .bad, .bad, .bad, .bad, .bad, .bad, .bad, .bad, .bad, .bad, .bad, .bad, .bad, .bad, .bad, .bad, .bad, .bad, .bad, .bad, .bad, .bad, .bad, .bad, .bad, .bad, .bad, .bad, .bad, .bad, .bad, .bad, .bad, .bad, .bad, .bad, .bad, .bad, .bad, .bad], []⟩
def T101_17 {ρ : Type} (ret : (Int) → (Int) → Option ρ) (c17 : (Int) → (Int) → (Int) → (Int) → (Int) → (Int) → (Int) → (Int) → (Int) → Option ρ) (c24 : (Int) → (Int) → (Int) → (Int) → (Int) → (Int) → (Int) → (Int) → (Int) → Option ρ) (y : Int) (s : Int) (y1 : Int) (y0 : Int) (u : Int) (u1 : Int) (u0 : Int) (q : Int) (r : Int) : Option ρ :=
 (bsel (decide (q ≥ 4294967296) == false)
 (bsel (decide (IntKind.u64.wrap (q * y0) > IntKind.u64.wrap (IntKind.u64.wrap (4294967296 * r) + u1)))
 (bsel (decide (IntKind.u64.wrap (r + y1) ≥ 4294967296))
 (bsel (y1 != 0)
 (c24 (y) (s) (y1) (y0) (u0) (IntKind.u64.wrap (q - 1)) (IntKind.u64.wrap (IntKind.u64.wrap (IntKind.u64.wrap (IntKind.u64.wrap (u * 4294967296) + u1) - IntKind.u64.wrap (IntKind.u64.wrap (q - 1) * y)) - IntKind.u64.wrap (IntKind.u64.wrap ((IntKind.u64.wrap (IntKind.u64.wrap (IntKind.u64.wrap (u * 4294967296) + u1) - IntKind.u64.wrap (IntKind.u64.wrap (q - 1) * y))).tdiv y1) * y1))) (IntKind.u64.wrap (IntKind.u64.wrap (IntKind.u64.wrap (u * 4294967296) + u1) - IntKind.u64.wrap (IntKind.u64.wrap (q - 1) * y))) (IntKind.u64.wrap ((IntKind.u64.wrap (IntKind.u64.wrap (IntKind.u64.wrap (u * 4294967296) + u1) - IntKind.u64.wrap (IntKind.u64.wrap (q - 1) * y))).tdiv y1)))
 none)
 (c17 (y) (s) (y1) (y0) (u) (u1) (u0) (IntKind.u64.wrap (q - 1)) (IntKind.u64.wrap (r + y1))))
 (bsel (y1 != 0)
 (c24 (y) (s) (y1) (y0) (u0) (q) (IntKind.u64.wrap (IntKind.u64.wrap (IntKind.u64.wrap (IntKind.u64.wrap (u * 4294967296) + u1) - IntKind.u64.wrap (q * y)) - IntKind.u64.wrap (IntKind.u64.wrap ((IntKind.u64.wrap (IntKind.u64.wrap (IntKind.u64.wrap (u * 4294967296) + u1) - IntKind.u64.wrap (q * y))).tdiv y1) * y1))) (IntKind.u64.wrap (IntKind.u64.wrap (IntKind.u64.wrap (u * 4294967296) + u1) - IntKind.u64.wrap (q * y))) (IntKind.u64.wrap ((IntKind.u64.wrap (IntKind.u64.wrap (IntKind.u64.wrap (u * 4294967296) + u1) - IntKind.u64.wrap (q * y))).tdiv y1)))
 none))
 (bsel (decide (IntKind.u64.wrap (r + y1) ≥ 4294967296))
 (bsel (y1 != 0)
 (c24 (y) (s) (y1) (y0) (u0) (IntKind.u64.wrap (q - 1)) (IntKind.u64.wrap (IntKind.u64.wrap (IntKind.u64.wrap (IntKind.u64.wrap (u * 4294967296) + u1) - IntKind.u64.wrap (IntKind.u64.wrap (q - 1) * y)) - IntKind.u64.wrap (IntKind.u64.wrap ((IntKind.u64.wrap (IntKind.u64.wrap (IntKind.u64.wrap (u * 4294967296) + u1) - IntKind.u64.wrap (IntKind.u64.wrap (q - 1) * y))).tdiv y1) * y1))) (IntKind.u64.wrap (IntKind.u64.wrap (IntKind.u64.wrap (u * 4294967296) + u1) - IntKind.u64.wrap (IntKind.u64.wrap (q - 1) * y))) (IntKind.u64.wrap ((IntKind.u64.wrap (IntKind.u64.wrap (IntKind.u64.wrap (u * 4294967296) + u1) - IntKind.u64.wrap (IntKind.u64.wrap (q - 1) * y))).tdiv y1)))
 none)
 (c17 (y) (s) (y1) (y0) (u) (u1) (u0) (IntKind.u64.wrap (q - 1)) (IntKind.u64.wrap (r + y1)))))
def T101_24 {ρ : Type} (ret : (Int) → (Int) → Option ρ) (c17 : (Int) → (Int) → (Int) → (Int) → (Int) → (Int) → (Int) → (Int) → (Int) → Option ρ) (c24 : (Int) → (Int) → (Int) → (Int) → (Int) → (Int) → (Int) → (Int) → (Int) → Option ρ) (y : Int) (s : Int) (y1 : Int) (y0 : Int) (u0 : Int) (q : Int) (v : Int) (p : Int) (r : Int) : Option ρ :=
 (bsel (decide (r ≥ 4294967296) == false)
 (bsel (decide (IntKind.u64.wrap (r * y0) > IntKind.u64.wrap (IntKind.u64.wrap (4294967296 * v) + u0)))
 (bsel (decide (IntKind.u64.wrap (v + y1) ≥ 4294967296))
 (bsel (decide (0 ≤ s))
 (ret (IntKind.u64.wrap (IntKind.u64.wrap (q * 4294967296) + IntKind.u64.wrap (r - 1))) ((IntKind.u64.wrap (IntKind.u64.wrap (IntKind.u64.wrap (p * 4294967296) + u0) - IntKind.u64.wrap (IntKind.u64.wrap (r - 1) * y))).fdiv (2 ^ min s.toNat IntKind.u64.bits)))
 none)
 (c24 (y) (s) (y1) (y0) (u0) (q) (IntKind.u64.wrap (v + y1)) (p) (IntKind.u64.wrap (r - 1))))
 (bsel (decide (0 ≤ s))
 (ret (IntKind.u64.wrap (IntKind.u64.wrap (q * 4294967296) + r)) ((IntKind.u64.wrap (IntKind.u64.wrap (IntKind.u64.wrap (p * 4294967296) + u0) - IntKind.u64.wrap (r * y))).fdiv (2 ^ min s.toNat IntKind.u64.bits)))
 none))
 (bsel (decide (IntKind.u64.wrap (v + y1) ≥ 4294967296))
 (bsel (decide (0 ≤ s))
 (ret (IntKind.u64.wrap (IntKind.u64.wrap (q * 4294967296) + IntKind.u64.wrap (r - 1))) ((IntKind.u64.wrap (IntKind.u64.wrap (IntKind.u64.wrap (p * 4294967296) + u0) - IntKind.u64.wrap (IntKind.u64.wrap (r - 1) * y))).fdiv (2 ^ min s.toNat IntKind.u64.bits)))
 none)
 (c24 (y) (s) (y1) (y0) (u0) (q) (IntKind.u64.wrap (v + y1)) (p) (IntKind.u64.wrap (r - 1)))))
mutual
def L101_17 : Nat → (Int) → (Int) → (Int) → (Int) → (Int) → (Int) → (Int) → (Int) → (Int) → Option ((Int) × (Int))
  | 0, _, _, _, _, _, _, _, _, _ => none
  | k + 1, y, s, y1, y0, u, u1, u0, q, r => T101_17 (fun rq rr => some (rq, rr)) (L101_17 k) (L101_24 k) y s y1 y0 u u1 u0 q r
def L101_24 : Nat → (Int) → (Int) → (Int) → (Int) → (Int) → (Int) → (Int) → (Int) → (Int) → Option ((Int) × (Int))
  | 0, _, _, _, _, _, _, _, _, _ => none
  | k + 1, y, s, y1, y0, u0, q, v, p, r => T101_24 (fun rq rr => some (rq, rr)) (L101_17 k) (L101_24 k) y s y1 y0 u0 q v p r
end
def T101 {ρ : Type} (ret : (Int) → (Int) → Option ρ) (c17 : (Int) → (Int) → (Int) → (Int) → (Int) → (Int) → (Int) → (Int) → (Int) → Option ρ) (c24 : (Int) → (Int) → (Int) → (Int) → (Int) → (Int) → (Int) → (Int) → (Int) → Option ρ) (hi : Nat) (lo : Nat) (y : Nat) : Option ρ :=
 (bsel ((↑y : Int) == 0)
 none
 (bsel (decide ((↑y : Int) ≤ (↑hi : Int)))
 none
 (bsel ((↑hi : Int) == 0)
 (bsel ((↑y : Int) != 0)
 (bsel ((↑y : Int) != 0)
 (ret (IntKind.u64.wrap ((↑lo : Int).tdiv (↑y : Int))) ((↑lo : Int).tmod (↑y : Int)))
 none)
 none)
 (bsel (isWd (↑y : Int))
 (bsel (decide (0 ≤ IntKind.u64.wrap (lzV (↑y : Int).toNat)))
 (bsel (decide (0 ≤ IntKind.u64.wrap (lzV (↑y : Int).toNat)))
 (bsel (decide (0 ≤ IntKind.u64.wrap (64 - IntKind.u64.wrap (lzV (↑y : Int).toNat))))
 (bsel (decide (0 ≤ IntKind.u64.wrap (lzV (↑y : Int).toNat)))
 (bsel ((IntKind.u64.wrap ((↑y : Int) * 2 ^ min (IntKind.u64.wrap (lzV (↑y : Int).toNat)).toNat IntKind.u64.bits)).fdiv (2 ^ min (Int.toNat 32) IntKind.u64.bits) != 0)
 (c17 (IntKind.u64.wrap ((↑y : Int) * 2 ^ min (IntKind.u64.wrap (lzV (↑y : Int).toNat)).toNat IntKind.u64.bits)) (IntKind.u64.wrap (lzV (↑y : Int).toNat)) ((IntKind.u64.wrap ((↑y : Int) * 2 ^ min (IntKind.u64.wrap (lzV (↑y : Int).toNat)).toNat IntKind.u64.bits)).fdiv (2 ^ min (Int.toNat 32) IntKind.u64.bits)) (bitsOp BinOp.and IntKind.u64 (IntKind.u64.wrap ((↑y : Int) * 2 ^ min (IntKind.u64.wrap (lzV (↑y : Int).toNat)).toNat IntKind.u64.bits)) 4294967295) (bitsOp BinOp.or IntKind.u64 (IntKind.u64.wrap ((↑hi : Int) * 2 ^ min (IntKind.u64.wrap (lzV (↑y : Int).toNat)).toNat IntKind.u64.bits)) ((↑lo : Int).fdiv (2 ^ min (IntKind.u64.wrap (64 - IntKind.u64.wrap (lzV (↑y : Int).toNat))).toNat IntKind.u64.bits))) ((IntKind.u64.wrap ((↑lo : Int) * 2 ^ min (IntKind.u64.wrap (lzV (↑y : Int).toNat)).toNat IntKind.u64.bits)).fdiv (2 ^ min (Int.toNat 32) IntKind.u64.bits)) (bitsOp BinOp.and IntKind.u64 (IntKind.u64.wrap ((↑lo : Int) * 2 ^ min (IntKind.u64.wrap (lzV (↑y : Int).toNat)).toNat IntKind.u64.bits)) 4294967295) (IntKind.u64.wrap ((bitsOp BinOp.or IntKind.u64 (IntKind.u64.wrap ((↑hi : Int) * 2 ^ min (IntKind.u64.wrap (lzV (↑y : Int).toNat)).toNat IntKind.u64.bits)) ((↑lo : Int).fdiv (2 ^ min (IntKind.u64.wrap (64 - IntKind.u64.wrap (lzV (↑y : Int).toNat))).toNat IntKind.u64.bits))).tdiv ((IntKind.u64.wrap ((↑y : Int) * 2 ^ min (IntKind.u64.wrap (lzV (↑y : Int).toNat)).toNat IntKind.u64.bits)).fdiv (2 ^ min (Int.toNat 32) IntKind.u64.bits)))) (IntKind.u64.wrap (bitsOp BinOp.or IntKind.u64 (IntKind.u64.wrap ((↑hi : Int) * 2 ^ min (IntKind.u64.wrap (lzV (↑y : Int).toNat)).toNat IntKind.u64.bits)) ((↑lo : Int).fdiv (2 ^ min (IntKind.u64.wrap (64 - IntKind.u64.wrap (lzV (↑y : Int).toNat))).toNat IntKind.u64.bits)) - IntKind.u64.wrap (IntKind.u64.wrap ((bitsOp BinOp.or IntKind.u64 (IntKind.u64.wrap ((↑hi : Int) * 2 ^ min (IntKind.u64.wrap (lzV (↑y : Int).toNat)).toNat IntKind.u64.bits)) ((↑lo : Int).fdiv (2 ^ min (IntKind.u64.wrap (64 - IntKind.u64.wrap (lzV (↑y : Int).toNat))).toNat IntKind.u64.bits))).tdiv ((IntKind.u64.wrap ((↑y : Int) * 2 ^ min (IntKind.u64.wrap (lzV (↑y : Int).toNat)).toNat IntKind.u64.bits)).fdiv (2 ^ min (Int.toNat 32) IntKind.u64.bits))) * (IntKind.u64.wrap ((↑y : Int) * 2 ^ min (IntKind.u64.wrap (lzV (↑y : Int).toNat)).toNat IntKind.u64.bits)).fdiv (2 ^ min (Int.toNat 32) IntKind.u64.bits)))))
 none)
 none)
 none)
 none)
 none)
 none))))
def G101 (k : Nat) (hi : Nat) (lo : Nat) (y : Nat) : Option ((Int) × (Int)) := T101 (fun rq rr => some (rq, rr)) (L101_17 k) (L101_24 k) hi lo y
mutual
theorem t101_17 : ∀ (k : Nat) (y : Int) (s : Int) (y1 : Int) (y0 : Int) (u : Int) (u1 : Int) (u0 : Int) (q : Int) (r : Int) (rq : Int) (rr : Int), L101_17 k y s y1 y0 u u1 u0 q r = some (rq, rr) → Ends Tryz.prog Tryz.f101.results.toList (at_ Tryz.f101 17) (S101_17 y s y1 y0 u u1 u0 q r) (F.tup [F.int .u64 rq, F.int .u64 rr])
  | 0, _, _, _, _, _, _, _, _, _, _, _, h => nomatch h
  | k + 1, y, s, y1, y0, u, u1, u0, q, r, rq, rr, h => by
    refine Ends.of_cut tyOK envN11_ok (T := [(17, [2, 8, 9, 10, 11, 13, 14, 15, 16], 1000), (24, [2, 8, 9, 10, 14, 15, 16, 17, 18], 1000)]) (n := 200) ?_
    have e : runCut Tryz.prog (tiOf Tryz.prog) envN11 [(17, [2, 8, 9, 10, 11, 13, 14, 15, 16], 1000), (24, [2, 8, 9, 10, 14, 15, 16, 17, 18], 1000)] 0 Tryz.f101.results.toList some 200 (at_ Tryz.f101 17) (S101_17 y s y1 y0 u u1 u0 q r) = T101_17 (fun rq rr => some (.ret (F.tup [F.int .u64 rq, F.int .u64 rr]))) (fun y s y1 y0 u u1 u0 q r => some (.cut (at_ Tryz.f101 17) (S101_17 y s y1 y0 u u1 u0 q r))) (fun y s y1 y0 u0 q v p r => some (.cut (at_ Tryz.f101 24) (S101_24 y s y1 y0 u0 q v p r))) y s y1 y0 u u1 u0 q r := by kernel_rfl
    rw [e]
    exact (good_sel h (fun _ h => (good_sel h (fun _ h => (good_sel h (fun _ h => (good_sel h (fun _ h => good_cut (t101_24 k _ _ _ _ _ _ _ _ _ rq rr h)) (fun _ h => nomatch h))) (fun _ h => good_cut (t101_17 k _ _ _ _ _ _ _ _ _ rq rr h)))) (fun _ h => (good_sel h (fun _ h => good_cut (t101_24 k _ _ _ _ _ _ _ _ _ rq rr h)) (fun _ h => nomatch h))))) (fun _ h => (good_sel h (fun _ h => (good_sel h (fun _ h => good_cut (t101_24 k _ _ _ _ _ _ _ _ _ rq rr h)) (fun _ h => nomatch h))) (fun _ h => good_cut (t101_17 k _ _ _ _ _ _ _ _ _ rq rr h)))))
theorem t101_24 : ∀ (k : Nat) (y : Int) (s : Int) (y1 : Int) (y0 : Int) (u0 : Int) (q : Int) (v : Int) (p : Int) (r : Int) (rq : Int) (rr : Int), L101_24 k y s y1 y0 u0 q v p r = some (rq, rr) → Ends Tryz.prog Tryz.f101.results.toList (at_ Tryz.f101 24) (S101_24 y s y1 y0 u0 q v p r) (F.tup [F.int .u64 rq, F.int .u64 rr])
  | 0, _, _, _, _, _, _, _, _, _, _, _, h => nomatch h
  | k + 1, y, s, y1, y0, u0, q, v, p, r, rq, rr, h => by
    refine Ends.of_cut tyOK envN11_ok (T := [(17, [2, 8, 9, 10, 11, 13, 14, 15, 16], 1000), (24, [2, 8, 9, 10, 14, 15, 16, 17, 18], 1000)]) (n := 200) ?_
    have e : runCut Tryz.prog (tiOf Tryz.prog) envN11 [(17, [2, 8, 9, 10, 11, 13, 14, 15, 16], 1000), (24, [2, 8, 9, 10, 14, 15, 16, 17, 18], 1000)] 0 Tryz.f101.results.toList some 200 (at_ Tryz.f101 24) (S101_24 y s y1 y0 u0 q v p r) = T101_24 (fun rq rr => some (.ret (F.tup [F.int .u64 rq, F.int .u64 rr]))) (fun y s y1 y0 u u1 u0 q r => some (.cut (at_ Tryz.f101 17) (S101_17 y s y1 y0 u u1 u0 q r))) (fun y s y1 y0 u0 q v p r => some (.cut (at_ Tryz.f101 24) (S101_24 y s y1 y0 u0 q v p r))) y s y1 y0 u0 q v p r := by kernel_rfl
    rw [e]
    exact (good_sel h (fun _ h => (good_sel h (fun _ h => (good_sel h (fun _ h => (good_sel h (fun _ h => good_ret (by cases h; rfl)) (fun _ h => nomatch h))) (fun _ h => good_cut (t101_24 k _ _ _ _ _ _ _ _ _ rq rr h)))) (fun _ h => (good_sel h (fun _ h => good_ret (by cases h; rfl)) (fun _ h => nomatch h))))) (fun _ h => (good_sel h (fun _ h => (good_sel h (fun _ h => good_ret (by cases h; rfl)) (fun _ h => nomatch h))) (fun _ h => good_cut (t101_24 k _ _ _ _ _ _ _ _ _ rq rr h)))))
end
theorem t101 (k : Nat) (hi : Nat) (lo : Nat) (y : Nat) (rq : Int) (rr : Int) (h : G101 k hi lo y = some (rq, rr)) : Ends Tryz.prog Tryz.f101.results.toList [.code (bodyOf Tryz.f101)] (start Tryz.f101.ntmps ([u64F hi, u64F lo, u64F y].map .f)) (F.tup [F.int .u64 rq, F.int .u64 rr]) := by
  refine Ends.of_run tyOK envN11_ok (T := [(17, [2, 8, 9, 10, 11, 13, 14, 15, 16], 1000), (24, [2, 8, 9, 10, 14, 15, 16, 17, 18], 1000)]) (n := 200) ?_
  have e : run Tryz.prog (tiOf Tryz.prog) envN11 [(17, [2, 8, 9, 10, 11, 13, 14, 15, 16], 1000), (24, [2, 8, 9, 10, 14, 15, 16, 17, 18], 1000)] 0 Tryz.f101.results.toList some 200 [.code (bodyOf Tryz.f101)] (start Tryz.f101.ntmps ([u64F hi, u64F lo, u64F y].map .f)) = T101 (fun rq rr => some (.ret (F.tup [F.int .u64 rq, F.int .u64 rr]))) (fun y s y1 y0 u u1 u0 q r => some (.cut (at_ Tryz.f101 17) (S101_17 y s y1 y0 u u1 u0 q r))) (fun y s y1 y0 u0 q v p r => some (.cut (at_ Tryz.f101 24) (S101_24 y s y1 y0 u0 q v p r))) hi lo y := by kernel_rfl
  rw [e]
  exact (good_sel h (fun _ h => nomatch h) (fun _ h => (good_sel h (fun _ h => nomatch h) (fun _ h => (good_sel h (fun _ h => (good_sel h (fun _ h => (good_sel h (fun _ h => good_ret (by cases h; rfl)) (fun _ h => nomatch h))) (fun _ h => nomatch h))) (fun _ h => (good_sel h (fun _ h => (good_sel h (fun _ h => (good_sel h (fun _ h => (good_sel h (fun _ h => (good_sel h (fun _ h => (good_sel h (fun _ h => good_cut (t101_17 k _ _ _ _ _ _ _ _ _ rq rr h)) (fun _ h => nomatch h))) (fun _ h => nomatch h))) (fun _ h => nomatch h))) (fun _ h => nomatch h))) (fun _ h => nomatch h))) (fun _ h => nomatch h))))))))
theorem est_mul (q y1 y0 : Nat) : q * (y1 * 4294967296 + y0) = q * y1 * 4294967296 + q * y0 := by rw [Nat.mul_add, Nat.mul_assoc]
theorem est_gt {q r u u1 y y1 y0 : Nat} (hy : y = y1 * 4294967296 + y0) (hq : q * y1 + r = u) (hu : u < y) (hu1 : u1 < 4294967296) (h : 4294967296 ≤ q ∨ 4294967296 * r + u1 < q * y0) : (u * 4294967296 + u1) / y < q := by
  rw [Nat.div_lt_iff_lt_mul (by omega)]
  rcases h with h | h
  · have := Nat.mul_le_mul_right y h
    omega
  · subst hy
    rw [est_mul, ← hq]
    generalize q * y1 = a at *
    generalize q * y0 = b at *
    omega
theorem est_le {q r u u1 y y1 y0 : Nat} (hy : y = y1 * 4294967296 + y0) (hy0 : 0 < y) (hq : q * y1 + r = u) (h : q * y0 ≤ 4294967296 * r + u1) : q ≤ (u * 4294967296 + u1) / y := by
  rw [Nat.le_div_iff_mul_le hy0]
  subst hy
  rw [est_mul, ← hq]
  generalize q * y1 = a at *
  generalize q * y0 = b at *
  omega
theorem est_break {q r u u1 y y1 y0 : Nat} (hy : y = y1 * 4294967296 + y0) (h0 : y0 < 4294967296) (hq : q * y1 + r = u) (hu : u < y) (hr : 4294967296 ≤ r) : q * y0 ≤ 4294967296 * r + u1 := by
  have hlt : q < 4294967296 := by
    rcases Nat.lt_or_ge q 4294967296 with h | h
    · exact h
    · exfalso
      have := Nat.mul_le_mul_right y1 h
      omega
  have h1 : q * y0 ≤ 4294967296 * 4294967296 := Nat.mul_le_mul (Nat.le_of_lt hlt) (Nat.le_of_lt h0)
  have h2 : 4294967296 * 4294967296 ≤ 4294967296 * r := Nat.mul_le_mul_left _ hr
  omega
theorem wmul (a b : Nat) : IntKind.u64.wrap ((a : Int) * (b : Int)) = ((a * b % 18446744073709551616 : Nat) : Int) := by
  rw [wrapN, ← Int.natCast_mul]
  omega
theorem p_exact {u u1 y : Nat} (hy : 0 < y) (hyb : y < 18446744073709551616) : IntKind.u64.wrap (IntKind.u64.wrap (IntKind.u64.wrap ((u : Int) * 4294967296) + u1) - IntKind.u64.wrap ((((u * 4294967296 + u1) / y : Nat) : Int) * y)) = (((u * 4294967296 + u1) % y : Nat) : Int) := by
  have h1 := Nat.div_add_mod' (u * 4294967296 + u1) y
  have h2 := Nat.mod_lt (u * 4294967296 + u1) hy
  rw [wmul]
  generalize (u * 4294967296 + u1) % y = p at *
  generalize (u * 4294967296 + u1) / y * y = P at *
  simp only [wrapN]
  omega
theorem wdiv {p y1 : Nat} (hp : p < 18446744073709551616) : IntKind.u64.wrap ((p : Int).tdiv (y1 : Int)) = ((p / y1 : Nat) : Int) := by
  rw [show (p : Int).tdiv (y1 : Int) = ((p / y1 : Nat) : Int) from rfl, wrapN]
  have h1 := Nat.div_le_self p y1
  generalize p / y1 = t at *
  omega
theorem vv {p y1 : Nat} (hp : p < 18446744073709551616) : IntKind.u64.wrap ((p : Int) - IntKind.u64.wrap (((p / y1 : Nat) : Int) * (y1 : Int))) = ((p % y1 : Nat) : Int) := by
  have h1 := Nat.div_add_mod' p y1
  rw [wmul, wrapN]
  generalize p / y1 * y1 = P at *
  generalize p % y1 = t at *
  omega
theorem est_loop1 {y s y1 y0 u u1 u0 : Nat} (hy : y = y1 * 4294967296 + y0) (h0 : y0 < 4294967296) (hy1 : 2147483648 ≤ y1) (hy1' : y1 < 4294967296) (hu : u < y) (hu1 : u1 < 4294967296) :
    ∀ (j k q r : Nat), q * y1 + r = u → (u * 4294967296 + u1) / y ≤ q → r < 4294967296 → 4294967296 ≤ r + j * 2147483648 → j + 10 ≤ k →
      ∃ k', 10 ≤ k' ∧ L101_17 k y s y1 y0 u u1 u0 q r = L101_24 k' y s y1 y0 u0 (((u * 4294967296 + u1) / y : Nat) : Int) (((u * 4294967296 + u1) % y % y1 : Nat) : Int) (((u * 4294967296 + u1) % y : Nat) : Int) (((u * 4294967296 + u1) % y / y1 : Nat) : Int)
  | 0, k, q, r, _, _, h1, h2, _ => by omega
  | j + 1, 0, q, r, _, _, _, _, hk => by omega
  | j + 1, k + 1, q, r, hq, hQ, hr, hj, hk => by
    have hy0 : 0 < y := by omega
    have hyb : y < 18446744073709551616 := by omega
    have hne : ((y1 : Int) != 0) = true := by simp only [bne_iff_ne, ne_eq]; omega
    have hp : (u * 4294967296 + u1) % y < 18446744073709551616 := Nat.lt_trans (Nat.mod_lt _ hy0) hyb
    have fin : ∀ (qI : Int), qI = (((u * 4294967296 + u1) / y : Nat) : Int) → ∃ k', 10 ≤ k' ∧ L101_24 k y s y1 y0 u0 qI (IntKind.u64.wrap (IntKind.u64.wrap (IntKind.u64.wrap (IntKind.u64.wrap ((u : Int) * 4294967296) + u1) - IntKind.u64.wrap (qI * y)) - IntKind.u64.wrap (IntKind.u64.wrap ((IntKind.u64.wrap (IntKind.u64.wrap (IntKind.u64.wrap ((u : Int) * 4294967296) + u1) - IntKind.u64.wrap (qI * y))).tdiv y1) * y1))) (IntKind.u64.wrap (IntKind.u64.wrap (IntKind.u64.wrap ((u : Int) * 4294967296) + u1) - IntKind.u64.wrap (qI * y))) (IntKind.u64.wrap ((IntKind.u64.wrap (IntKind.u64.wrap (IntKind.u64.wrap ((u : Int) * 4294967296) + u1) - IntKind.u64.wrap (qI * y))).tdiv y1)) = L101_24 k' y s y1 y0 u0 (((u * 4294967296 + u1) / y : Nat) : Int) (((u * 4294967296 + u1) % y % y1 : Nat) : Int) (((u * 4294967296 + u1) % y : Nat) : Int) (((u * 4294967296 + u1) % y / y1 : Nat) : Int) := by
      rintro qI rfl
      exact ⟨k, by omega, by rw [p_exact hy0 hyb, wdiv hp, vv hp]⟩
    have f3 : IntKind.u64.wrap ((r : Int) + y1) = ((r + y1 : Nat) : Int) := by clear hQ hq; rw [wrapN]; omega
    have dec : (u * 4294967296 + u1) / y < q → ∃ k', 10 ≤ k' ∧ bsel (decide (IntKind.u64.wrap ((r : Int) + y1) ≥ 4294967296)) (bsel ((y1 : Int) != 0) (L101_24 k y s y1 y0 u0 (IntKind.u64.wrap ((q : Int) - 1)) (IntKind.u64.wrap (IntKind.u64.wrap (IntKind.u64.wrap (IntKind.u64.wrap ((u : Int) * 4294967296) + u1) - IntKind.u64.wrap (IntKind.u64.wrap ((q : Int) - 1) * y)) - IntKind.u64.wrap (IntKind.u64.wrap ((IntKind.u64.wrap (IntKind.u64.wrap (IntKind.u64.wrap ((u : Int) * 4294967296) + u1) - IntKind.u64.wrap (IntKind.u64.wrap ((q : Int) - 1) * y))).tdiv y1) * y1))) (IntKind.u64.wrap (IntKind.u64.wrap (IntKind.u64.wrap ((u : Int) * 4294967296) + u1) - IntKind.u64.wrap (IntKind.u64.wrap ((q : Int) - 1) * y))) (IntKind.u64.wrap ((IntKind.u64.wrap (IntKind.u64.wrap (IntKind.u64.wrap ((u : Int) * 4294967296) + u1) - IntKind.u64.wrap (IntKind.u64.wrap ((q : Int) - 1) * y))).tdiv y1))) none)
        (L101_17 k y s y1 y0 u u1 u0 (IntKind.u64.wrap ((q : Int) - 1)) (IntKind.u64.wrap ((r : Int) + y1))) = L101_24 k' y s y1 y0 u0 (((u * 4294967296 + u1) / y : Nat) : Int) (((u * 4294967296 + u1) % y % y1 : Nat) : Int) (((u * 4294967296 + u1) % y : Nat) : Int) (((u * 4294967296 + u1) % y / y1 : Nat) : Int) := by
      intro hgt
      have hqp : 0 < q := Nat.lt_of_le_of_lt (Nat.zero_le _) hgt
      have hq1 : (q - 1) * y1 + (r + y1) = u := by
        have : q * y1 = (q - 1) * y1 + y1 := by rw [← Nat.succ_mul]; congr 1; omega
        omega
      have hqb : q < 18446744073709551616 * 18446744073709551616 := by
        have : q * 1 ≤ q * y1 := Nat.mul_le_mul_left _ (by omega)
        omega
      have f4 : IntKind.u64.wrap ((q : Int) - 1) = ((q - 1 : Nat) : Int) := by
        rw [wrapN]
        have : q * 1 ≤ q * y1 := Nat.mul_le_mul_left _ (by omega)
        omega
      rw [hne, f3]
      by_cases hb : 4294967296 ≤ r + y1
      · rw [decide_eq_true (show ((r + y1 : Nat) : Int) ≥ 4294967296 by omega), bsel_true, bsel_true]
        refine fin _ ?_
        rw [f4]
        have := est_le (u1 := u1) hy hy0 hq1 (est_break hy h0 hq1 hu hb)
        congr 1
        omega
      · rw [decide_eq_false (show ¬ ((r + y1 : Nat) : Int) ≥ 4294967296 by omega), bsel_false, f4]
        exact est_loop1 hy h0 hy1 hy1' hu hu1 j k (q - 1) (r + y1) hq1 (by omega) (by omega) (by omega) (by omega)
    rw [L101_17]
    unfold T101_17
    by_cases hc : 4294967296 ≤ q
    · rw [decide_eq_true (show (q : Int) ≥ 4294967296 by omega), show (true == false) = false from rfl, bsel_false]
      exact dec (est_gt hy hq hu hu1 (.inl hc))
    · rw [decide_eq_false (show ¬ (q : Int) ≥ 4294967296 by omega), show (false == false) = true from rfl, bsel_true]
      have hqy : q * y0 ≤ 4294967296 * 4294967296 := Nat.mul_le_mul (by omega) (by omega)
      have hqy' : q * y0 < 18446744073709551616 := by
        rcases Nat.eq_zero_or_pos y0 with h | h
        · rw [h]; omega
        · have := Nat.mul_lt_mul_of_lt_of_le (show q < 4294967296 by omega) (Nat.le_of_lt h0) (by omega)
          omega
      rw [wmul, Nat.mod_eq_of_lt hqy', show IntKind.u64.wrap (IntKind.u64.wrap (4294967296 * (r : Int)) + u1) = ((4294967296 * r + u1 : Nat) : Int) by simp only [wrapN]; omega]
      by_cases hd : 4294967296 * r + u1 < q * y0
      · rw [decide_eq_true (show ((q * y0 : Nat) : Int) > ((4294967296 * r + u1 : Nat) : Int) by omega), bsel_true]
        exact dec (est_gt hy hq hu hu1 (.inr hd))
      · rw [decide_eq_false (show ¬ ((q * y0 : Nat) : Int) > ((4294967296 * r + u1 : Nat) : Int) by omega), bsel_false, hne, bsel_true]
        refine fin _ ?_
        have := est_le (u1 := u1) hy hy0 hq (by omega)
        congr 1
        omega
theorem est_loop2 {y s y1 y0 p u0 : Nat} {q : Nat} (hy : y = y1 * 4294967296 + y0) (h0 : y0 < 4294967296) (hy1 : 2147483648 ≤ y1) (hy1' : y1 < 4294967296) (hu : p < y) (hu1 : u0 < 4294967296) (hs : s ≤ 64) (hq0 : q < 4294967296) :
    ∀ (j k r v : Nat), r * y1 + v = p → (p * 4294967296 + u0) / y ≤ r → v < 4294967296 → 4294967296 ≤ v + j * 2147483648 → j ≤ k →
      L101_24 k y s y1 y0 u0 q v p r = some (((q * 4294967296 + (p * 4294967296 + u0) / y : Nat) : Int), (((p * 4294967296 + u0) % y / 2 ^ s : Nat) : Int))
  | 0, k, r, v, _, _, h1, h2, _ => by omega
  | j + 1, 0, r, v, _, _, _, _, hk => by omega
  | j + 1, k + 1, r, v, hq, hQ, hr, hj, hk => by
    have hy0 : 0 < y := by omega
    have hyb : y < 18446744073709551616 := by omega
    have hQC : (p * 4294967296 + u0) / y < 4294967296 := by rw [Nat.div_lt_iff_lt_mul hy0]; omega
    have es : min s IntKind.u64.bits = s := Nat.min_eq_left hs
    have hss : decide ((0 : Int) ≤ (s : Int)) = true := decide_eq_true (by omega)
    have fin : ∀ (rI : Int), rI = (((p * 4294967296 + u0) / y : Nat) : Int) → some (IntKind.u64.wrap (IntKind.u64.wrap ((q : Int) * 4294967296) + rI), (IntKind.u64.wrap (IntKind.u64.wrap (IntKind.u64.wrap ((p : Int) * 4294967296) + u0) - IntKind.u64.wrap (rI * y))).fdiv (2 ^ min (s : Int).toNat IntKind.u64.bits)) = some (((q * 4294967296 + (p * 4294967296 + u0) / y : Nat) : Int), (((p * 4294967296 + u0) % y / 2 ^ s : Nat) : Int)) := by
      rintro rI rfl
      rw [p_exact hy0 hyb, Int.toNat_natCast, es, fdiv_nat]
      congr 2
      simp only [wrapN]
      clear hQ
      generalize (p * 4294967296 + u0) / y = Q at *
      omega
    have f3 : IntKind.u64.wrap ((v : Int) + y1) = ((v + y1 : Nat) : Int) := by rw [wrapN]; omega
    have dec : (p * 4294967296 + u0) / y < r → bsel (decide (IntKind.u64.wrap ((v : Int) + y1) ≥ 4294967296)) (bsel (decide ((0 : Int) ≤ (s : Int))) (some (IntKind.u64.wrap (IntKind.u64.wrap ((q : Int) * 4294967296) + IntKind.u64.wrap ((r : Int) - 1)), (IntKind.u64.wrap (IntKind.u64.wrap (IntKind.u64.wrap ((p : Int) * 4294967296) + u0) - IntKind.u64.wrap (IntKind.u64.wrap ((r : Int) - 1) * y))).fdiv (2 ^ min (s : Int).toNat IntKind.u64.bits))) none)
        (L101_24 k y s y1 y0 u0 q (IntKind.u64.wrap ((v : Int) + y1)) p (IntKind.u64.wrap ((r : Int) - 1))) = some (((q * 4294967296 + (p * 4294967296 + u0) / y : Nat) : Int), (((p * 4294967296 + u0) % y / 2 ^ s : Nat) : Int)) := by
      intro hgt
      have hqp : 0 < r := Nat.lt_of_le_of_lt (Nat.zero_le _) hgt
      have hq1 : (r - 1) * y1 + (v + y1) = p := by
        have : r * y1 = (r - 1) * y1 + y1 := by rw [← Nat.succ_mul]; congr 1; omega
        omega
      have f4 : IntKind.u64.wrap ((r : Int) - 1) = ((r - 1 : Nat) : Int) := by
        rw [wrapN]
        have : r * 1 ≤ r * y1 := Nat.mul_le_mul_left _ (by omega)
        omega
      rw [hss, f3, f4]
      by_cases hb : 4294967296 ≤ v + y1
      · rw [decide_eq_true (show ((v + y1 : Nat) : Int) ≥ 4294967296 by omega), bsel_true, bsel_true]
        refine fin _ ?_
        have := est_le (u1 := u0) hy hy0 hq1 (est_break hy h0 hq1 hu hb)
        congr 1
        omega
      · rw [decide_eq_false (show ¬ ((v + y1 : Nat) : Int) ≥ 4294967296 by omega), bsel_false]
        exact est_loop2 hy h0 hy1 hy1' hu hu1 hs hq0 j k (r - 1) (v + y1) hq1 (by omega) (by omega) (by omega) (by omega)
    rw [L101_24]
    unfold T101_24
    by_cases hc : 4294967296 ≤ r
    · rw [decide_eq_true (show (r : Int) ≥ 4294967296 by omega), show (true == false) = false from rfl, bsel_false]
      exact dec (est_gt hy hq hu hu1 (.inl hc))
    · rw [decide_eq_false (show ¬ (r : Int) ≥ 4294967296 by omega), show (false == false) = true from rfl, bsel_true]
      have hqy' : r * y0 < 18446744073709551616 := by
        rcases Nat.eq_zero_or_pos y0 with h | h
        · rw [h]; omega
        · have := Nat.mul_lt_mul_of_lt_of_le (show r < 4294967296 by omega) (Nat.le_of_lt h0) (by omega)
          omega
      rw [wmul, Nat.mod_eq_of_lt hqy', show IntKind.u64.wrap (IntKind.u64.wrap (4294967296 * (v : Int)) + u0) = ((4294967296 * v + u0 : Nat) : Int) by simp only [wrapN]; omega]
      by_cases hd : 4294967296 * v + u0 < r * y0
      · rw [decide_eq_true (show ((r * y0 : Nat) : Int) > ((4294967296 * v + u0 : Nat) : Int) by omega), bsel_true]
        exact dec (est_gt hy hq hu hu1 (.inr hd))
      · rw [decide_eq_false (show ¬ ((r * y0 : Nat) : Int) > ((4294967296 * v + u0 : Nat) : Int) by omega), bsel_false, hss, bsel_true]
        refine fin _ ?_
        have := est_le (u1 := u0) hy hy0 hq (by omega)
        congr 1
        omega
theorem or_disj {a b i : Nat} (hi : i ≤ 64) (hb : b < 2 ^ i) (hab : 2 ^ i * a < 18446744073709551616) : bitsOp .or .u64 ((2 ^ i * a : Nat) : Int) (b : Int) = ((2 ^ i * a + b : Nat) : Int) := by
  have e64 : 2 ^ i * 2 ^ (64 - i) = 18446744073709551616 := by rw [← Nat.pow_add, show i + (64 - i) = 64 by omega]
  have hi0 : 0 < 2 ^ i := Nat.two_pow_pos i
  have ha : a < 2 ^ (64 - i) := by
    rw [← e64] at hab
    exact Nat.lt_of_mul_lt_mul_left hab
  have hs : 2 ^ i * a + b < 18446744073709551616 := by
    have := Nat.mul_le_mul_left (2 ^ i) (show a + 1 ≤ 2 ^ (64 - i) from ha)
    rw [e64, Nat.mul_add] at this
    omega
  rw [bOr, ofInt_nat, ofInt_nat, wrapu, BitVec.toNat_or, BitVec.toNat_ofNat, BitVec.toNat_ofNat, Nat.mod_eq_of_lt (show 2 ^ i * a < 2 ^ 64 from hab), Nat.mod_eq_of_lt (show b < 2 ^ 64 by omega), ← Nat.two_pow_add_eq_or_of_lt hb, Nat.mod_eq_of_lt hs]
theorem div_two {C M Y u u1 u0 : Nat} (hY : 0 < Y) (hM : M = (u * C + u1) * C + u0) :
    M / Y = (u * C + u1) / Y * C + ((u * C + u1) % Y * C + u0) / Y ∧ M % Y = ((u * C + u1) % Y * C + u0) % Y := by
  have h := Nat.div_add_mod (u * C + u1) Y
  generalize (u * C + u1) / Y = q at *
  generalize (u * C + u1) % Y = p at *
  have e : M = (p * C + u0) + Y * (q * C) := by
    rw [hM, ← h, Nat.add_mul, Nat.mul_assoc]
    omega
  rw [e, Nat.add_mul_div_left _ _ hY, Nat.add_mul_mod_self_left]
  exact ⟨by omega, rfl⟩
theorem quo_le {C u w Y Y1 Y0 : Nat} (hY : Y = Y1 * C + Y0) (h1 : 0 < Y1) (hw : w < C) : (u * C + w) / Y ≤ u / Y1 := by
  have hY0 : 0 < Y := by
    have := Nat.mul_pos h1 (show 0 < C by omega)
    omega
  rcases Nat.lt_or_ge (u / Y1) ((u * C + w) / Y) with h | h
  · exfalso
    have h2 : u / Y1 + 1 ≤ (u * C + w) / Y := h
    rw [Nat.le_div_iff_mul_le hY0] at h2
    have h3 : (u / Y1 + 1) * (Y1 * C) ≤ (u / Y1 + 1) * Y := Nat.mul_le_mul_left _ (by omega)
    have h4 : u + 1 ≤ (u / Y1 + 1) * Y1 := by
      have e := Nat.div_add_mod' u Y1
      have e2 := Nat.mod_lt u h1
      rw [Nat.add_mul]
      omega
    have h5 := Nat.mul_le_mul_right C h4
    rw [Nat.mul_assoc, Nat.add_mul] at h5
    omega
  · exact h
theorem pow_cast (s : Nat) : ((2 : Int) ^ s) = ((2 ^ s : Nat) : Int) := by simp
theorem wshl {x s : Nat} : IntKind.u64.wrap ((x : Int) * 2 ^ s) = ((x * 2 ^ s % 18446744073709551616 : Nat) : Int) := by
  rw [pow_cast, ← Int.natCast_mul, wrapN]
  omega
theorem div64_law {h l y : Nat} (hh : h < y) (hy : y < 18446744073709551616) (hl : l < 18446744073709551616) : G101 20 h l y = some ((((h * 18446744073709551616 + l) / y : Nat) : Int), (((h * 18446744073709551616 + l) % y : Nat) : Int)) := by
  have hne : ((y : Int) != 0) = true := by simp only [bne_iff_ne, ne_eq]; omega
  have heq : ((y : Int) == 0) = false := by simp only [beq_eq_false_iff_ne, ne_eq]; omega
  unfold G101 T101
  rw [heq, bsel_false, decide_eq_false (show ¬ (y : Int) ≤ h by omega), bsel_false]
  by_cases h0 : h = 0
  · subst h0
    rw [show (((0 : Nat) : Int) == 0) = true from rfl, bsel_true, hne, bsel_true, bsel_true, wdiv hl, show (l : Int).tmod y = ((l % y : Nat) : Int) from rfl]
    simp only [Nat.zero_mul, Nat.zero_add]
  · have hh0 : ((h : Int) == 0) = false := by simp only [beq_eq_false_iff_ne, ne_eq]; omega
    have b1 := bitLen_le64 hy
    have b2 : 2 ≤ bitLen y := by
      rcases Nat.lt_or_ge (bitLen y) 2 with hb | hb
      · have := (bitLen_le (n := y) (j := 1)).1 (by omega)
        omega
      · exact hb
    obtain ⟨s, hs⟩ : ∃ s : Nat, s + bitLen y = 64 := ⟨64 - bitLen y, by omega⟩
    have u1 : y < 2 ^ bitLen y := bitLen_le.1 (Nat.le_refl _)
    have u2 : 2 ^ (bitLen y - 1) ≤ y := by
      rcases Nat.lt_or_ge y (2 ^ (bitLen y - 1)) with hb | hb
      · have := bitLen_le.2 hb
        omega
      · exact hb
    have hs0 : 0 < 2 ^ s := Nat.two_pow_pos s
    have e1 : 2 ^ bitLen y * 2 ^ s = 18446744073709551616 := by rw [← Nat.pow_add, show bitLen y + s = 64 by omega]
    have e2 : 2 ^ (bitLen y - 1) * 2 ^ s = 9223372036854775808 := by rw [← Nat.pow_add, show bitLen y - 1 + s = 63 by omega]
    have Y1 : y * 2 ^ s < 18446744073709551616 := by rw [← e1]; exact Nat.mul_lt_mul_of_pos_right u1 hs0
    have Y2 : 9223372036854775808 ≤ y * 2 ^ s := by rw [← e2]; exact Nat.mul_le_mul_right _ u2
    have H1 : h * 2 ^ s < y * 2 ^ s := Nat.mul_lt_mul_of_pos_right hh hs0
    have es : IntKind.u64.wrap (lzV (y : Int).toNat) = (s : Int) := by
      unfold lzV
      rw [Int.toNat_natCast, wrapN]
      omega
    have et : IntKind.u64.wrap (64 - (s : Int)) = ((64 - s : Nat) : Int) := by rw [wrapN]; omega
    have m1 : min (s : Int).toNat IntKind.u64.bits = s := by rw [Int.toNat_natCast]; exact Nat.min_eq_left (by show s ≤ 64; omega)
    have m2 : min ((64 - s : Nat) : Int).toNat IntKind.u64.bits = 64 - s := by rw [Int.toNat_natCast]; exact Nat.min_eq_left (by show 64 - s ≤ 64; omega)
    have e3 : 2 ^ s * 2 ^ (64 - s) = 18446744073709551616 := by rw [← Nat.pow_add, show s + (64 - s) = 64 by omega]
    have hl1 : l / 2 ^ (64 - s) < 2 ^ s := by
      rw [Nat.div_lt_iff_lt_mul (Nat.two_pow_pos _), e3]
      exact hl
    have un : bitsOp .or .u64 ((h * 2 ^ s : Nat) : Int) ((l / 2 ^ (64 - s) : Nat) : Int) = ((h * 2 ^ s + l / 2 ^ (64 - s) : Nat) : Int) := by
      rw [Nat.mul_comm h]
      exact or_disj (by omega) hl1 (by rw [Nat.mul_comm]; omega)
    rw [hh0, bsel_false, show isWd (y : Int) = true from isWd_iff.2 (by omega), bsel_true, es, et, m1, m2, decide_eq_true (show (0 : Int) ≤ (s : Int) by omega), decide_eq_true (show (0 : Int) ≤ ((64 - s : Nat) : Int) by omega), fdiv_nat]
    simp only [bsel_true]
    rw [wshl, wshl, wshl, Nat.mod_eq_of_lt Y1, Nat.mod_eq_of_lt (show h * 2 ^ s < 18446744073709551616 by omega), un]
    rw [shr32, shr32, and32 Y1, and32 (Nat.mod_lt _ (by omega))]
    have hun : h * 2 ^ s + l / 2 ^ (64 - s) < y * 2 ^ s := by
      have := Nat.mul_le_mul_right (2 ^ s) (show h + 1 ≤ y from hh)
      rw [Nat.add_mul] at this
      omega
    have hN : (h * 18446744073709551616 + l) * 2 ^ s = (h * 2 ^ s + l / 2 ^ (64 - s)) * 18446744073709551616 + l * 2 ^ s % 18446744073709551616 := by
      have d1 := Nat.div_add_mod (l * 2 ^ s) 18446744073709551616
      have d2 : l * 2 ^ s / 18446744073709551616 = l / 2 ^ (64 - s) := by
        rw [← e3, Nat.mul_comm l, Nat.mul_div_mul_left _ _ hs0]
      rw [d2] at d1
      rw [Nat.add_mul, Nat.add_mul, Nat.mul_right_comm h 18446744073709551616]
      omega
    have hl' : l * 2 ^ s % 18446744073709551616 < 18446744073709551616 := Nat.mod_lt _ (by omega)
    have q1 : (h * 18446744073709551616 + l) * 2 ^ s / (y * 2 ^ s) = (h * 18446744073709551616 + l) / y := Nat.mul_div_mul_right _ _ hs0
    have q2 : (h * 18446744073709551616 + l) * 2 ^ s % (y * 2 ^ s) = (h * 18446744073709551616 + l) % y * 2 ^ s := Nat.mul_mod_mul_right _ _ _
    have q3 : (h * 18446744073709551616 + l) % y * 2 ^ s / 2 ^ s = (h * 18446744073709551616 + l) % y := Nat.mul_div_cancel _ hs0
    generalize h * 2 ^ s + l / 2 ^ (64 - s) = u at *
    generalize l * 2 ^ s % 18446744073709551616 = w at *
    generalize y * 2 ^ s = Y at *
    have hy1 : ((((Y / 4294967296 : Nat)) : Int) != 0) = true := by simp only [bne_iff_ne, ne_eq]; omega
    rw [hy1, bsel_true, wdiv (by omega), vv (by omega)]
    have hMw : (h * 18446744073709551616 + l) * 2 ^ s = (u * 4294967296 + w / 4294967296) * 4294967296 + w % 4294967296 := by
      rw [hN]
      omega
    obtain ⟨dv, md⟩ := div_two (C := 4294967296) (Y := Y) (u := u) (u1 := w / 4294967296) (u0 := w % 4294967296) (by omega) hMw
    have hq := Nat.div_add_mod' u (Y / 4294967296)
    have hr : u % (Y / 4294967296) < Y / 4294967296 := Nat.mod_lt _ (by omega)
    obtain ⟨k', hk', e⟩ := est_loop1 (y := Y) (s := s) (y1 := Y / 4294967296) (y0 := Y % 4294967296) (u := u) (u1 := w / 4294967296) (u0 := w % 4294967296) (by omega) (Nat.mod_lt _ (by omega)) (by omega) (by omega) hun (by omega) 2 20 (u / (Y / 4294967296)) (u % (Y / 4294967296)) hq (quo_le (Y0 := Y % 4294967296) (by omega) (by omega) (by omega)) (by omega) (by omega) (by omega)
    rw [e]
    have hp : (u * 4294967296 + w / 4294967296) % Y < Y := Nat.mod_lt _ (by omega)
    have hQ : (u * 4294967296 + w / 4294967296) / Y < 4294967296 := by rw [Nat.div_lt_iff_lt_mul (by omega)]; omega
    rw [est_loop2 (y := Y) (s := s) (y1 := Y / 4294967296) (y0 := Y % 4294967296) (p := (u * 4294967296 + w / 4294967296) % Y) (u0 := w % 4294967296) (by omega) (Nat.mod_lt _ (by omega)) (by omega) (by omega) hp (Nat.mod_lt _ (by omega)) (by omega) hQ 2 k' ((u * 4294967296 + w / 4294967296) % Y / (Y / 4294967296)) ((u * 4294967296 + w / 4294967296) % Y % (Y / 4294967296)) (Nat.div_add_mod' _ _) (quo_le (Y0 := Y % 4294967296) (by omega) (by omega) (Nat.mod_lt _ (by omega))) (Nat.lt_of_lt_of_le (Nat.mod_lt _ (by omega)) (by omega)) (by omega) (by omega)]
    rw [← dv, ← md, q1, q2, q3]
def isDiv (h l y : Int) : Bool := isWd h && isWd l && isWd y && decide (h < y)
theorem isDiv_iff {h l y : Int} : isDiv h l y = true ↔ (0 ≤ h ∧ h < 18446744073709551616) ∧ (0 ≤ l ∧ l < 18446744073709551616) ∧ (0 ≤ y ∧ y < 18446744073709551616) ∧ h < y := by
  simp only [isDiv, Bool.and_eq_true, isWd_iff, decide_eq_true_eq, and_assoc]
def preDiv64 : List F → Bool | [.int .u64 h, .int .u64 l, .int .u64 y] => isDiv h l y | _ => false
def divQ (h l y : Int) : Int := (h * 18446744073709551616 + l) / y
def divR (h l y : Int) : Int := (h * 18446744073709551616 + l) % y
def resDiv64 : List F → F | [.int .u64 h, .int .u64 l, .int .u64 y] => .tup [.int .u64 (divQ h l y), .int .u64 (divR h l y)] | _ => .dflt
theorem divQ_nat (h l y : Nat) : divQ h l y = (((h * 18446744073709551616 + l) / y : Nat) : Int) := by rw [Int.natCast_ediv, Int.natCast_add, Int.natCast_mul]; rfl
theorem divR_nat (h l y : Nat) : divR h l y = (((h * 18446744073709551616 + l) % y : Nat) : Int) := by rw [Int.natCast_emod, Int.natCast_add, Int.natCast_mul]; rfl
theorem okDiv64 : PureOK Tryz.prog 101 preDiv64 resDiv64 :=
  fn_pure (c := bodyOf Tryz.f101) Tryz.func101 (by kernel_rfl) (by kernel_rfl) fun xs hp => match xs, hp with
  | [.int .u64 h, .int .u64 l, .int .u64 y], hp => by
    obtain ⟨⟨h0, h1⟩, ⟨l0, l1⟩, ⟨y0, y1⟩, hy⟩ := isDiv_iff.1 hp
    obtain ⟨h, rfl⟩ := Int.eq_ofNat_of_zero_le h0
    obtain ⟨l, rfl⟩ := Int.eq_ofNat_of_zero_le l0
    obtain ⟨y, rfl⟩ := Int.eq_ofNat_of_zero_le y0
    have e := div64_law (h := h) (l := l) (y := y) (by omega) (by omega) (by omega)
    rw [← divQ_nat, ← divR_nat] at e
    exact t101 20 h l y _ _ e
def envN12 : Env := envN11.add 101 (.pure preDiv64 resDiv64)
theorem envN12_ok : EnvOK Tryz.prog envN12 := (Env.add_ok envN11_ok okDiv64.sp)
end
end Go.Proofs.YtdcooaopkbicfaaGreat.R
namespace Go.Proofs.YtdcooaopkbicfaaGreat.R
open Go
noncomputable section
def u32F (n : Nat) : F := .int .u32 (n : Int)
def isW32 : F → Bool | .int .u32 n => decide (0 ≤ n) && decide (n < 4294967296) | _ => false
def unW32 : F → Nat | .int .u32 n => n.toNat | _ => 0
theorem w32_eq {x : F} (h : isW32 x = true) : u32F (unW32 x) = x := by
  unfold isW32 at h
  split at h
  · simp only [Bool.and_eq_true, decide_eq_true_eq] at h
    simp only [u32F, unW32]
    rw [Int.toNat_of_nonneg h.1]
  · cases h
def halvesF (l : List Nat) : F := slF u32F 0 l
def isHalves (x : F) : Bool := isSl isW32 x
def unHalves (x : F) : List Nat := unSl unW32 x
theorem unHalves_halvesF (l : List Nat) : unHalves (halvesF l) = l := unSl_slF (fun n => by simp [unW32, u32F]) l
theorem isHalves_halvesF {l : List Nat} (h : okD 4294967296 l) : isHalves (halvesF l) = true := isSl_slF l fun n hn => by
  have := h n hn
  simp only [isW32, u32F, Bool.and_eq_true, decide_eq_true_eq]
  omega
theorem halves_eqv {x : F} (hx : isHalves x = true) : FLe x (halvesF (unHalves x)) ∧ FLe (halvesF (unHalves x)) x := slF_eqv (fun _ h => w32_eq h) hx
theorem okD_unHalves {x : F} (hx : isHalves x = true) : okD 4294967296 (unHalves x) := by
  cases x with
  | sl n g =>
    simp only [isHalves, isSl, List.all_eq_true, List.mem_range] at hx
    intro w hw
    simp only [unHalves, unSl, List.mem_map, List.mem_range] at hw
    obtain ⟨i, hi, rfl⟩ := hw
    have h := hx i hi
    unfold isW32 at h
    split at h
    · rename_i n' he
      simp only [Bool.and_eq_true, decide_eq_true_eq] at h
      rw [he]
      simp only [unW32]
      omega
    · cases h
  | _ => simp [isHalves, isSl] at hx
def l1nF (z : Int) : F := .agg [.bool (decide (z < 0)), halvesF (digs 4294967296 z.natAbs)]
theorem unW32_u32F (n : Nat) : unW32 (u32F n) = n := by simp [unW32, u32F]
theorem unHalves_read {m : Nat} {g : Nat → F} {l : List Nat} (hl : l.length = m) (hg : ∀ j, j < m → g j = u32F (l.getD j 0)) : unHalves (.sl m g) = l :=
  range_read hl fun j hj => by rw [hg j hj, unW32_u32F]
theorem isHalves_read {m : Nat} {g : Nat → F} {l : List Nat} (hl : l.length = m) (hg : ∀ j, j < m → g j = u32F (l.getD j 0)) (ho : okD 4294967296 l) : isHalves (.sl m g) = true := by
  simp only [isHalves, isSl, List.all_eq_true, List.mem_range]
  intro j hj
  rw [hg j hj]
  have := getD_lt ho (show j < l.length by omega)
  simp only [isW32, u32F, Bool.and_eq_true, decide_eq_true_eq]
  omega
theorem u32_cells (n : Nat) : (u32F n).cells.length = 1 := rfl
theorem lenOkH_iff {n : Nat} {x : F} (hx : isHalves x = true) (h : lenOk n x = true) : (unHalves x).length ≤ n := by
  cases x with
  | sl m g => simpa [unHalves, unSl, lenOk] using h
  | _ => simp [isHalves, isSl] at hx
theorem lenOk_halvesF {n : Nat} {l : List Nat} : lenOk n (halvesF l) = Nat.ble l.length n := rfl
theorem digsH_nil {n : Nat} : digs 4294967296 n = [] ↔ n = 0 := by
  constructor
  · intro h
    have := val_digs (B := 4294967296) (by omega) n
    rw [h] at this
    exact this.symm
  · rintro rfl; exact digs_zero _
theorem digsH_len_pos {n : Nat} : ((digs 4294967296 n).length : Int) > 0 ↔ n ≠ 0 := by
  rw [ne_eq, ← digsH_nil, ← List.length_eq_zero_iff]
  omega
def isL1n (n : Nat) : F → Bool | .agg [.bool s, x] => isHalves x && lenOk n x && (trimOk (unHalves x) && (!s || !lenOk 0 x)) | _ => false
def unL1n : F → Int | .agg [.bool s, x] => sgn s (val 4294967296 (unHalves x)) | _ => 0
theorem digs_halves {x : F} (hx : isHalves x = true) (ht : trimD (unHalves x)) : digs 4294967296 (val 4294967296 (unHalves x)) = unHalves x := digs_val (by omega) (okD_unHalves hx) ht
theorem digsH_len {n k : Nat} (h : n < 4294967296 ^ k) : (digs 4294967296 n).length ≤ k := by
  rcases Nat.lt_or_ge k (digs 4294967296 n).length with hk | hk
  · exfalso
    have h1 := val_longer (B := 4294967296) (a := List.replicate k (4294967296 - 1)) (b := digs 4294967296 n) (by omega) (fun w hw => by have := (List.mem_replicate.1 hw).2; omega) (trimD_digs (by omega) n) (by simpa using hk)
    have h2 : ∀ k : Nat, val 4294967296 (List.replicate k (4294967296 - 1)) + 1 = 4294967296 ^ k := by
      intro k
      induction k with
      | zero => rfl
      | succ k ih =>
        simp only [List.replicate_succ, val, Nat.pow_succ, ← ih]
        omega
    rw [val_digs (by omega)] at h1
    have := h2 k
    omega
  · exact hk
theorem lenOkH_zero {x : F} (hx : isHalves x = true) : lenOk 0 x = true ↔ unHalves x = [] := by
  cases x with
  | sl m g => simp [lenOk, unHalves, unSl]
  | _ => simp [isHalves, isSl] at hx
theorem l1n_form {n : Nat} {x : F} (h : isL1n n x = true) : ∃ s y, x = .agg [.bool s, y] ∧ isHalves y = true ∧ l1nF (unL1n x) = .agg [.bool s, halvesF (unHalves y)] := by
  unfold isL1n at h
  split at h
  · rename_i s y
    simp only [Bool.and_eq_true, trimOk_iff] at h
    obtain ⟨⟨hy, hl⟩, ht, hs⟩ := h
    have e : l1nF (unL1n (.agg [.bool s, y])) = .agg [.bool s, halvesF (unHalves y)] := by
      rw [show unL1n (.agg [.bool s, y]) = sgn s (val 4294967296 (unHalves y)) from rfl]
      unfold l1nF
      rw [sgn_natAbs, sgn_neg, digs_halves hy ht]
      congr 2
      cases s with
      | false => rfl
      | true =>
        simp only [Bool.not_true, Bool.false_or, Bool.not_eq_true'] at hs
        have : unHalves y ≠ [] := fun e => by rw [(lenOkH_zero hy).2 e] at hs; cases hs
        have := val_pos (B := 4294967296) (by omega) _ ht this
        rw [Bool.true_and]
        congr 1
        exact decide_eq_true (by omega)
    exact ⟨s, y, rfl, hy, e⟩
  · cases h
theorem l1n_eqv {n : Nat} {x : F} (h : isL1n n x = true) : FLe x (l1nF (unL1n x)) ∧ FLe (l1nF (unL1n x)) x := by
  obtain ⟨s, y, hx, hy, e⟩ := l1n_form h
  rw [e, hx]
  exact ⟨FLe.agg ⟨.refl _, (halves_eqv hy).1, trivial⟩, FLe.agg ⟨.refl _, (halves_eqv hy).2, trivial⟩⟩
theorem unL1n_l1nF (z : Int) : unL1n (l1nF z) = z := by
  simp only [unL1n, l1nF, unHalves_halvesF, val_digs (show 1 < 4294967296 by omega), sgn_sign]
theorem isL1n_l1nF {n : Nat} {z : Int} (h : z.natAbs < 4294967296 ^ n) : isL1n n (l1nF z) = true := by
  simp only [isL1n, l1nF, lenOk_halvesF, isHalves_halvesF (okD_digs (B := 4294967296) (by omega) _), unHalves_halvesF, Bool.and_eq_true, trimOk_iff]
  refine ⟨⟨trivial, ?_⟩, trimD_digs (by omega) _, ?_⟩
  · rw [Nat.ble_eq]; exact digsH_len h
  · by_cases h0 : z < 0
    · have : (digs 4294967296 z.natAbs).length ≠ 0 := fun e => by
        have := digsH_nil.1 (List.length_eq_zero_iff.1 e)
        omega
      cases hb : Nat.ble (digs 4294967296 z.natAbs).length 0 with
      | false => simp
      | true => rw [Nat.ble_eq] at hb; omega
    · simp [h0]
theorem natAbs_of_isL1n {n : Nat} {x : F} (h : isL1n n x = true) : (unL1n x).natAbs < 4294967296 ^ n := by
  unfold isL1n at h
  split at h
  · rename_i s y
    simp only [Bool.and_eq_true] at h
    obtain ⟨⟨hy, hl⟩, _⟩ := h
    simp only [unL1n, sgn_natAbs]
    exact Nat.lt_of_lt_of_le (val_lt _ (okD_unHalves hy)) (Nat.pow_le_pow_right (by omega) (lenOkH_iff hy hl))
  · cases h
def preL1 (n : Nat) : List F → Bool | [x] => isL1n n x | _ => false
def preL2 (n : Nat) : List F → Bool | [x, y] => isL1n n x && isL1n n y | _ => false
theorem isHalves_digs (n : Nat) : isHalves (halvesF (digs 4294967296 n)) = true := isHalves_halvesF (okD_digs (by omega) n)
theorem unHalves_digs (n : Nat) : unHalves (halvesF (digs 4294967296 n)) = digs 4294967296 n := unHalves_halvesF _
theorem val_digsH (n : Nat) : val 4294967296 (digs 4294967296 n) = n := val_digs (by omega) n
theorem lenOkH_digs {n k j : Nat} (h : n < 4294967296 ^ j) (hk : j ≤ k) : lenOk k (halvesF (digs 4294967296 n)) = true := by
  rw [lenOk_halvesF, Nat.ble_eq]; exact Nat.le_trans (digsH_len h) hk
theorem l1nF_sgn (s : Bool) (n : Nat) : l1nF (sgn s n) = .agg [.bool (s && decide (n ≠ 0)), halvesF (digs 4294967296 n)] := by
  unfold l1nF
  rw [sgn_natAbs, sgn_neg]
theorem preL2_iff {n : Nat} {x y : F} (h : preL2 n [x, y] = true) : isL1n n x = true ∧ isL1n n y = true := by simpa [preL2] using h
theorem halves_set {m p v : Nat} {g : Nat → F} {o : List Nat} (ho : o.length = m) (hp : p < m) (hg : ∀ j, j < m → g j = u32F (o.getD j 0)) :
    ∀ j, j < m → (fun j => if j = 0 + p then F.int .u32 (v : Int) else g j) j = u32F ((o.set p v).getD j 0) := by
  intro j hj
  show (if j = 0 + p then F.int .u32 (v : Int) else g j) = _
  by_cases h : j = 0 + p
  · rw [if_pos h, h, Nat.zero_add]
    simp [List.getD, u32F, show p < o.length by omega]
  · rw [if_neg h, hg j hj]
    simp [List.getD, List.getElem?_set, show p ≠ j by omega]
theorem cell_ofH (v : Nat) : (List.drop 0 (u32F v).cells).headD F.dflt = u32F v := rfl
theorem okV_u32 (v : Nat) : (okV (Value.int IntKind.u32 0) (u32F v) && true) = true := rfl
theorem intOf_u32 (v : Nat) : intOf (u32F v) = (v : Int) := rfl
def addR (B : Nat) : List Nat → List Nat → Nat → List Nat
  | [], _, c => if c = 0 then [] else [c]
  | x :: a, b, c => ((x + b.headD 0 + c) % B) :: addR B a b.tail ((x + b.headD 0 + c) / B)
theorem val_addR (B : Nat) : ∀ (a b : List Nat) (c : Nat), b.length ≤ a.length → val B (addR B a b c) = val B a + val B b + c
  | [], b, c, h => by
    have : b = [] := List.eq_nil_of_length_eq_zero (by simpa using h)
    subst this
    by_cases hc : c = 0 <;> simp [addR, val, hc]
  | x :: a, b, c, h => by
    have ih := val_addR B a b.tail ((x + b.headD 0 + c) / B) (by simp at h ⊢; omega)
    simp only [addR, val, ih]
    have h1 := Nat.mod_add_div (x + b.headD 0 + c) B
    have h2 := val_tail B b
    simp only [Nat.mul_add]
    omega
theorem okD_addR {B : Nat} (hB : 1 < B) : ∀ (a b : List Nat) (c : Nat), okD B a → okD B b → c ≤ 1 → okD B (addR B a b c)
  | [], b, c, _, _, hc => by
    intro w hw
    by_cases h0 : c = 0
    · simp [addR, h0] at hw
    · simp [addR, h0] at hw; omega
  | x :: a, b, c, ha, hb, hc => by
    have hx := ha x (by simp)
    have hy : b.headD 0 < B := by
      cases b with
      | nil => simp; omega
      | cons y b => exact hb y (by simp)
    have ih := okD_addR hB a b.tail ((x + b.headD 0 + c) / B) (fun w hw => ha w (by simp [hw])) (fun w hw => hb w (List.mem_of_mem_tail hw)) (by
      have : x + b.headD 0 + c < B * 2 := by omega
      have := Nat.div_lt_of_lt_mul this
      omega)
    intro w hw
    simp only [addR, List.mem_cons] at hw
    rcases hw with rfl | hw
    · exact Nat.mod_lt _ (by omega)
    · exact ih w hw
theorem len_addR (B : Nat) : ∀ (a b : List Nat) (c : Nat), (addR B a b c).length ≤ a.length + 1
  | [], b, c => by by_cases hc : c = 0 <;> simp [addR, hc]
  | x :: a, b, c => by
    have := len_addR B a b.tail ((x + b.headD 0 + c) / B)
    simp only [addR, List.length_cons]
    omega
theorem len_subL (B : Nat) : ∀ (a b : List Nat) (c : Nat), (subL B a b c).length = a.length
  | [], b, c => rfl
  | x :: a, b, c => by simp [subL, len_subL B a b.tail]
def sumL (a b : List Nat) : List Nat := if a.length < b.length then addR 4294967296 b a 0 else addR 4294967296 a b 0
theorem val_sumL (a b : List Nat) : val 4294967296 (sumL a b) = val 4294967296 a + val 4294967296 b := by
  unfold sumL
  by_cases h : a.length < b.length
  · rw [if_pos h, val_addR _ _ _ _ (by omega)]; omega
  · rw [if_neg h, val_addR _ _ _ _ (by omega)]; omega
theorem okD_sumL {a b : List Nat} (oa : okD 4294967296 a) (ob : okD 4294967296 b) : okD 4294967296 (sumL a b) := by
  unfold sumL
  by_cases h : a.length < b.length
  · rw [if_pos h]; exact okD_addR (by omega) _ _ _ ob oa (by omega)
  · rw [if_neg h]; exact okD_addR (by omega) _ _ _ oa ob (by omega)
theorem len_sumL (a b : List Nat) : (sumL a b).length ≤ max a.length b.length + 1 := by
  unfold sumL
  by_cases h : a.length < b.length
  · rw [if_pos h]; have := len_addR 4294967296 b a 0; omega
  · rw [if_neg h]; have := len_addR 4294967296 a b 0; omega
end
end Go.Proofs.YtdcooaopkbicfaaGreat.R
namespace Go.Proofs.YtdcooaopkbicfaaGreat.R
open Go
noncomputable section
theorem digit_at {B : Nat} (hB : 1 < B) : ∀ (l : List Nat) (p : Nat), okD B l → l.getD p 0 = val B l / B ^ p % B
  | [], p, _ => by simp [val]
  | x :: l, 0, h => by
    have hx := h x (by simp)
    simp only [List.getD_cons_zero, val, Nat.pow_zero, Nat.div_one, Nat.add_mul_mod_self_left]
    exact (Nat.mod_eq_of_lt hx).symm
  | x :: l, p + 1, h => by
    have hx := h x (by simp)
    have ih := digit_at hB l p fun w hw => h w (by simp [hw])
    rw [List.getD_cons_succ, ih, val, Nat.pow_succ, Nat.mul_comm (B ^ p) B, ← Nat.div_div_eq_div_mul, Nat.add_mul_div_left _ _ (by omega), Nat.div_eq_of_lt hx, Nat.zero_add]
theorem two_pow_split (i : Nat) : 2 ^ i = 4294967296 ^ (i / 32) * 2 ^ (i % 32) := by
  rw [show 4294967296 = 2 ^ 32 from rfl, ← Nat.pow_mul, ← Nat.pow_add, Nat.div_add_mod]
theorem bit_free {l : List Nat} {i : Nat} (ol : okD 4294967296 l) (h : val 4294967296 l % 2 ^ (i + 1) = 0) : ∃ u, l.getD (i / 32) 0 = 2 ^ (i % 32 + 1) * u ∧ 2 ^ (i % 32 + 1) * u + 2 ^ (i % 32) < 4294967296 := by
  have hr : i % 32 < 32 := Nat.mod_lt _ (by omega)
  have e32 : 2 ^ (i % 32 + 1) * 2 ^ (31 - i % 32) = 4294967296 := by
    rw [← Nat.pow_add, show i % 32 + 1 + (31 - i % 32) = 32 by omega]
  have h1 : 2 ^ (i + 1) = 4294967296 ^ (i / 32) * 2 ^ (i % 32 + 1) := by
    rw [Nat.pow_succ, two_pow_split i, Nat.mul_assoc, ← Nat.pow_succ]
  obtain ⟨t, ht⟩ := Nat.dvd_of_mod_eq_zero h
  have hC : 0 < 4294967296 ^ (i / 32) := Nat.pow_pos (by omega)
  have hd : l.getD (i / 32) 0 = 2 ^ (i % 32 + 1) * (t % 2 ^ (31 - i % 32)) := by
    rw [digit_at (by omega) l _ ol, ht, h1, Nat.mul_assoc, Nat.mul_div_cancel_left _ hC]
    conv => lhs; rw [← e32]
    rw [Nat.mul_mod_mul_left]
  refine ⟨t % 2 ^ (31 - i % 32), hd, ?_⟩
  have hu : t % 2 ^ (31 - i % 32) < 2 ^ (31 - i % 32) := Nat.mod_lt _ (Nat.two_pow_pos _)
  have h2 := Nat.mul_le_mul_left (2 ^ (i % 32 + 1)) (show t % 2 ^ (31 - i % 32) + 1 ≤ 2 ^ (31 - i % 32) from hu)
  rw [e32, Nat.mul_add] at h2
  have h3 : 2 ^ (i % 32) < 2 ^ (i % 32 + 1) := by
    rw [Nat.pow_succ]
    have := Nat.two_pow_pos (i % 32)
    omega
  omega
theorem bit_set {l : List Nat} {i : Nat} (ol : okD 4294967296 l) (hi : i / 32 < l.length) (h : val 4294967296 l % 2 ^ (i + 1) = 0) :
    (l.getD (i / 32) 0 ||| 2 ^ (i % 32)) < 4294967296 ∧ val 4294967296 (l.set (i / 32) (l.getD (i / 32) 0 ||| 2 ^ (i % 32))) = val 4294967296 l + 2 ^ i := by
  obtain ⟨u, hu, hlt⟩ := bit_free ol h
  have h3 : 2 ^ (i % 32) < 2 ^ (i % 32 + 1) := by
    rw [Nat.pow_succ]
    have := Nat.two_pow_pos (i % 32)
    omega
  have he : (l.getD (i / 32) 0 ||| 2 ^ (i % 32)) = l.getD (i / 32) 0 + 2 ^ (i % 32) := by
    rw [hu, ← Nat.two_pow_add_eq_or_of_lt h3]
  rw [he]
  refine ⟨by rw [hu]; exact hlt, ?_⟩
  have hs := val_set 4294967296 l (i / 32) (l.getD (i / 32) 0 + 2 ^ (i % 32)) hi
  rw [Nat.mul_add, ← two_pow_split i] at hs
  omega
structure DivInv (a b i rest Q : Nat) : Prop where
  eq : a = rest + b * Q
  lt : rest < b * 2 ^ i
  dvd : Q % 2 ^ i = 0
theorem DivInv.take {a b i rest Q : Nat} (h : DivInv a b (i + 1) rest Q) (hs : b * 2 ^ i ≤ rest) : DivInv a b i (rest - b * 2 ^ i) (Q + 2 ^ i) := by
  obtain ⟨h1, h2⟩ := bit_take h.eq h.lt hs
  refine ⟨h1, h2, ?_⟩
  have h3 := h.dvd
  obtain ⟨t, ht⟩ := Nat.dvd_of_mod_eq_zero h3
  rw [ht, Nat.pow_succ, Nat.mul_assoc, ← Nat.mul_add_one, Nat.mul_mod_right]
theorem DivInv.skip {a b i rest Q : Nat} (h : DivInv a b (i + 1) rest Q) (hs : rest < b * 2 ^ i) : DivInv a b i rest Q := by
  refine ⟨h.eq, hs, ?_⟩
  obtain ⟨t, ht⟩ := Nat.dvd_of_mod_eq_zero h.dvd
  rw [ht, Nat.pow_succ, Nat.mul_assoc, Nat.mul_mod_right]
theorem DivInv.done {a b rest Q : Nat} (h : DivInv a b 0 rest Q) : Q = a / b ∧ rest = a % b := by
  have h1 := h.eq
  have h2 := h.lt
  rw [Nat.pow_zero, Nat.mul_one] at h2
  refine div_unique ?_ h2
  rw [h1, Nat.mul_comm]; omega
theorem DivInv.start {a b i : Nat} (h : a < b * 2 ^ i) : DivInv a b i a 0 := ⟨by simp, h, Nat.zero_mod _⟩
end
end Go.Proofs.YtdcooaopkbicfaaGreat.R
namespace Go.Proofs.YtdcooaopkbicfaaGreat.R
open Go
section
variable {P : Program} {w : World} {Z : Nat → Prop} {m : Nat → Nat} {H : List HO}
inductive OwnLe : F → F → Prop
  | nil : OwnLe (.tup []) (.tup [])
  | obj (k : IntKind) (sz : Int) (n : Nat) (g g' : Nat → F) (h : ∀ j, j < n → g j = g' j) : OwnLe (.tup [.int k sz, .sl n g]) (.tup [.int k sz, .sl n g'])
  | dat (x : F) (h : cellF x = true) : OwnLe x x
def OwnsLe : List F → List F → Prop
  | [], [] => True
  | x :: xs, y :: ys => OwnLe x y ∧ OwnsLe xs ys
  | _, _ => False
theorem isScal_get {n : Nat} {g : Nat → F} (h : isScal n g = true) {i : Nat} (hi : i < n) : scal0 (g i) = true := by
  unfold isScal at h
  exact List.all_eq_true.1 h i (List.mem_range.2 hi)
theorem scal0s_get : ∀ (cs : List F), scal0s cs = true → ∀ (j : Nat) (u : F), cs[j]? = some u → scal0 u = true
  | [], _, j, u, hu => by simp at hu
  | c :: cs, h, j, u, hu => by
    simp only [scal0s, Bool.and_eq_true] at h
    cases j with
    | zero => simp at hu; exact hu ▸ h.1
    | succ j => simp at hu; exact scal0s_get cs h.2 j u hu
theorem scal0_cells {x : F} (h : scal0 x = true) {j : Nat} {u : F} (hu : x.cells[j]? = some u) : scal0 u = true := by
  cases x with
  | agg cs => exact scal0s_get cs (by simpa [scal0] using h) j u hu
  | _ =>
    cases j with
    | zero => simp [F.cells] at hu; rw [← hu]; exact h
    | succ j => simp [F.cells] at hu
theorem RepF.scal0_any {w w' : World} {Z Z' : Nat → Prop} {x : F} {v : Value} (h : RepF w Z x v) : scal0 x = true → RepF w' Z' x v := by
  induction h with
  | bool b => intro _; exact .bool b
  | int k n => intro _; exact .int k n
  | str s => intro _; exact .str s
  | sl n g A c sz a V hc hs hk hA hV hr ih =>
    intro h
    have h0 : n = 0 := Nat.eq_of_beq_eq_true (by simpa [scal0] using h)
    subst h0
    exact .sl 0 g A c sz a V hc hs hk (fun h => absurd rfl h) (fun i j u hi => by omega) (fun i j u hi => by omega)
  | agg cs vs hl hr ih => intro h; exact .agg cs vs hl fun j u v hu hv => ih j u v hu hv (scal0s_get cs (by simpa [scal0] using h) j u hu)
  | tup cs vs hl hr ih => intro h; simp [scal0] at h
theorem ownL_get : ∀ (us : List U) (es : List F), ownL H us = some es → us.length = es.length ∧ ∀ (j : Nat) (u : U), us[j]? = some u → ∃ e, es[j]? = some e ∧ own1 H u = some e
  | [], es, h => by simp only [ownL, Option.some.injEq] at h; subst h; exact ⟨rfl, fun j u hu => by simp at hu⟩
  | u :: us, es, h => by
    simp only [ownL] at h
    split at h
    · rename_i x xs hx hxs
      cases h
      obtain ⟨h1, h2⟩ := ownL_get us xs hxs
      refine ⟨by simp [h1], fun j v hv => ?_⟩
      cases j with
      | zero => simp at hv; subst hv; exact ⟨x, rfl, hx⟩
      | succ j => simp at hv; obtain ⟨e, h3, h4⟩ := h2 j v hv; exact ⟨e, by simpa using h3, h4⟩
    · cases h
theorem ownsLe_get : ∀ {es fs : List F}, OwnsLe es fs → es.length = fs.length ∧ ∀ (j : Nat) (e : F), es[j]? = some e → ∃ f, fs[j]? = some f ∧ OwnLe e f
  | [], [], _ => ⟨rfl, fun j e h => by simp at h⟩
  | x :: xs, y :: ys, h => by
    obtain ⟨h1, h2⟩ := ownsLe_get h.2
    refine ⟨by simp [h1], fun j e he => ?_⟩
    cases j with
    | zero => simp at he; subst he; exact ⟨y, rfl, h.1⟩
    | succ j => simp at he; obtain ⟨f, h3, h4⟩ := h2 j e he; exact ⟨f, by simpa using h3, h4⟩
  | [], _ :: _, h => h.elim
  | _ :: _, [], h => h.elim
theorem obsOf_dat {x : F} (h : cellF x = true) (es : List F) : obsOf (x :: es) = obsOf es := by
  cases x <;> first | rfl | simp [cellF] at h
theorem own_none : ∀ (us : List U) (es fs : List F), ownL H us = some es → OwnsLe es fs → (∀ u ∈ us, ∀ o g f l, u ≠ .hs o g f l) → obsOf fs = []
  | [], es, fs, h, hle, _ => by
    simp only [ownL, Option.some.injEq] at h
    subst h
    cases fs with
    | nil => rfl
    | cons => exact hle.elim
  | u :: us, es, fs, h, hle, hn => by
    simp only [ownL] at h
    split at h
    case h_2 => cases h
    rename_i x xs hx hxs
    cases h
    cases fs with
    | nil => exact hle.elim
    | cons y ys =>
      have ih := own_none us xs ys hxs hle.2 (fun u hu => hn u (by simp [hu]))
      have h1 := hle.1
      cases u with
      | f x' =>
        simp only [own1] at hx
        split at hx
        · rename_i hc
          cases hx
          simp only [Bool.and_eq_true] at hc
          cases h1 with
          | nil => simp [cellF] at hc
          | obj => simp [cellF] at hc
          | dat _ h => rw [obsOf_dat h]; exact ih
        · cases hx
      | nils =>
        simp only [own1, Option.some.injEq] at hx
        subst hx
        cases h1 with
        | nil => exact ih
        | dat _ h => simp [cellF] at h
      | hs o g f l => exact absurd rfl (hn _ (by simp) o g f l)
      | _ => simp [own1] at hx
theorem own_form : ∀ (us : List U) (es fs : List F), (objsAll us).length ≤ 1 → ownL H us = some es → OwnsLe es fs →
    (obsOf fs = [] ∧ ∀ u ∈ us, ∀ o g f l, u ≠ .hs o g f l) ∨
    ∃ o sz n g g', H[o]? = some (.arr sz n g) ∧ isScal n g = true ∧ (∀ j, j < n → g j = g' j) ∧ obsOf fs = [.arr sz n g'] ∧ ∀ u ∈ us, ∀ o1 g1 f1 l1, u = .hs o1 g1 f1 l1 → o1 = o ∧ g1 = n ∧ f1 = 0 ∧ l1 = n
  | [], es, fs, _, h, hle => by
    simp only [ownL, Option.some.injEq] at h
    subst h
    cases fs with
    | nil => exact .inl ⟨rfl, by simp⟩
    | cons => exact hle.elim
  | u :: us, es, fs, hl, h, hle => by
    have h' := h
    simp only [ownL] at h
    split at h
    case h_2 => cases h
    rename_i x xs hx hxs
    cases h
    cases fs with
    | nil => exact hle.elim
    | cons y ys =>
      obtain ⟨h1, h2⟩ := hle
      simp only [objsAll, List.length_append] at hl
      have ih := own_form us xs ys (by omega) hxs h2
      have rest : (∀ o g f l, u ≠ .hs o g f l) → obsOf (y :: ys) = obsOf ys → (obsOf (y :: ys) = [] ∧ ∀ u' ∈ u :: us, ∀ o g f l, u' ≠ .hs o g f l) ∨
          ∃ o sz n g g', H[o]? = some (.arr sz n g) ∧ isScal n g = true ∧ (∀ j, j < n → g j = g' j) ∧ obsOf (y :: ys) = [.arr sz n g'] ∧ ∀ u' ∈ u :: us, ∀ o1 g1 f1 l1, u' = .hs o1 g1 f1 l1 → o1 = o ∧ g1 = n ∧ f1 = 0 ∧ l1 = n := by
        intro hu ho
        rw [ho]
        rcases ih with ⟨a1, a2⟩ | ⟨o, sz, n, g, g', a1, a2, a3, a4, a5⟩
        · refine .inl ⟨a1, fun u' hu' => ?_⟩
          rcases List.mem_cons.1 hu' with rfl | hu'
          · exact hu
          · exact a2 u' hu'
        · refine .inr ⟨o, sz, n, g, g', a1, a2, a3, a4, fun u' hu' => ?_⟩
          rcases List.mem_cons.1 hu' with rfl | hu'
          · exact fun o1 g1 f1 l1 e => absurd e (hu o1 g1 f1 l1)
          · exact a5 u' hu'
      cases u with
      | f x' =>
        simp only [own1] at hx
        split at hx
        · rename_i hc
          cases hx
          simp only [Bool.and_eq_true] at hc
          refine rest (fun o g f l e => by cases e) ?_
          cases h1 with
          | nil => simp [cellF] at hc
          | obj => simp [cellF] at hc
          | dat _ h => exact obsOf_dat h ys
        · cases hx
      | nils =>
        simp only [own1, Option.some.injEq] at hx
        subst hx
        refine rest (fun o g f l e => by cases e) ?_
        cases h1 with
        | nil => rfl
        | dat _ h => simp [cellF] at h
      | hs o gen off len =>
        simp only [own1] at hx
        split at hx
        · rename_i sz n g ho
          split at hx
          · rename_i hc
            obtain ⟨rfl, rfl, rfl, hs⟩ := hc
            cases hx
            have hno : ∀ u ∈ us, ∀ o g f l, u ≠ .hs o g f l := by
              simp only [objs, List.length_singleton] at hl
              have h0 : objsAll us = [] := List.eq_nil_of_length_eq_zero (by omega)
              intro u hu o g f l e
              subst e
              have : o ∈ objsAll us := objsAll_mem us _ o hu (by simp [objs])
              rw [h0] at this; cases this
            have hob := own_none us xs ys hxs h2 hno
            cases h1 with
            | obj _ _ _ _ g' h3 =>
              refine .inr ⟨o, sz, _, g, g', ho, hs, h3, ?_, ?_⟩
              · simp [obsOf, hob]
              · intro u hu o1 g1 f1 l1 e
                rcases List.mem_cons.1 hu with rfl | hu
                · cases e; exact ⟨rfl, rfl, rfl, rfl⟩
                · exact absurd e (hno u hu o1 g1 f1 l1)
            | dat _ h => simp [cellF] at h
          · cases hx
        · cases hx
      | _ => simp [own1] at hx
theorem oneA_rep {w' : World} {Z' : Nat → Prop} {m' m2 : Nat → Nat} {H2 : List HO} {u : U} {e e' : F} {v : Value} {b : Nat} (hu : RepU w' Z' m' H u v) (he : own1 H u = some e) (hle : OwnLe e e')
    (hobj : ∀ o gen off len, u = .hs o gen off len → ∃ sz g', off = 0 ∧ len = gen ∧ H2[b]? = some (.arr sz gen g') ∧ m2 b = m' o ∧ ∃ g, H[o]? = some (.arr sz gen g)) : RepU w' Z m2 H2 (oneA b e') v := by
  cases u with
  | f x =>
    simp only [own1] at he
    split at he
    · rename_i hc
      have hxe : x = e := Option.some.inj he
      subst hxe
      simp only [Bool.and_eq_true] at hc
      cases hle with
      | nil => simp [cellF] at hc
      | obj => simp [cellF] at hc
      | dat _ h =>
        have key : ∀ y : F, cellF y = true → oneA b y = .f y := fun y h => by cases y <;> first | rfl | simp [cellF] at h
        rw [key _ hc.2]
        cases hu with | f _ _ hr => exact .f _ _ (hr.scal0_any hc.1)
    · cases he
  | nils =>
    simp only [own1, Option.some.injEq] at he
    subst he
    cases hle with
    | nil => cases hu with | nils A => exact .nils A
    | dat _ h => simp [cellF] at h
  | hs o gen off len =>
    obtain ⟨sz, g', rfl, rfl, hb, hm, g, ho⟩ := hobj o gen off len rfl
    simp only [own1, ho] at he
    split at he
    · cases he
      cases hle with
      | obj _ _ _ _ g1 h3 =>
        show RepU w' Z m2 H2 (.hs b len 0 len) v
        cases hu with
        | hs _ _ _ _ _ h1 hk hg hv =>
          obtain ⟨q1, A, c, q2, q3, q4, q5⟩ := hv sz len g ho rfl
          refine .hs b len 0 len v h1 ⟨_, hb, by simp⟩ (fun sz' n' g'' e => ?_) (fun sz' n' g'' e eg => ?_)
          · rw [hb] at e; cases e; exact Nat.le_refl _
          · rw [hb] at e; cases e
            rw [hm]
            exact ⟨q1, A, c, q2, q3, q4, q5⟩
      | dat _ h => simp [cellF] at h
    · cases he
  | _ => simp [own1] at he
/-! Answers with one layer of fields. -/
def Own2 (e f : F) : Prop := isAggF e = isAggF f ∧ OwnsLe e.cells f.cells
def Owns2 : List F → List F → Prop
  | [], [] => True
  | x :: xs, y :: ys => Own2 x y ∧ Owns2 xs ys
  | _, _ => False
theorem Own2.of {e f : F} (h : OwnLe e f) : Own2 e f := by
  cases h with
  | nil => exact ⟨rfl, .nil, trivial⟩
  | obj k sz n g g' h => exact ⟨rfl, .obj k sz n g g' h, trivial⟩
  | dat x h =>
    refine ⟨rfl, ?_⟩
    have : e.cells = [e] := by cases e <;> first | rfl | simp [cellF] at h
    rw [this]
    exact ⟨.dat e h, trivial⟩
theorem Own2.agg {es fs : List F} (h : OwnsLe es fs) : Own2 (.agg es) (.agg fs) := ⟨rfl, h⟩
theorem owns2_get : ∀ {es fs : List F}, Owns2 es fs → es.length = fs.length ∧ ∀ (j : Nat) (e : F), es[j]? = some e → ∃ f, fs[j]? = some f ∧ Own2 e f
  | [], [], _ => ⟨rfl, fun j e h => by simp at h⟩
  | x :: xs, y :: ys, h => by
    obtain ⟨h1, h2⟩ := owns2_get h.2
    refine ⟨by simp [h1], fun j e he => ?_⟩
    cases j with
    | zero => simp at he; subst he; exact ⟨y, rfl, h.1⟩
    | succ j => simp at he; obtain ⟨f, h3, h4⟩ := h2 j e he; exact ⟨f, by simpa using h3, h4⟩
  | [], _ :: _, h => h.elim
  | _ :: _, [], h => h.elim
theorem flatF_cons (e : F) (es : List F) : flatF (e :: es) = e.cells ++ flatF es := by cases e <;> rfl
theorem ownsLe_append : ∀ {a b c d : List F}, OwnsLe a b → OwnsLe c d → OwnsLe (a ++ c) (b ++ d)
  | [], [], _, _, _, h => h
  | _ :: _, _ :: _, _, _, h, h' => ⟨h.1, ownsLe_append h.2 h'⟩
  | [], _ :: _, _, _, h, _ => h.elim
  | _ :: _, [], _, _, h, _ => h.elim
theorem owns2_flat : ∀ {es fs : List F}, Owns2 es fs → OwnsLe (flatF es) (flatF fs)
  | [], [], _ => trivial
  | x :: xs, y :: ys, h => by
    rw [flatF_cons, flatF_cons]
    exact ownsLe_append h.1.2 (owns2_flat h.2)
  | [], _ :: _, h => h.elim
  | _ :: _, [], h => h.elim
theorem ownL_append : ∀ (us vs : List U) (a b : List F), ownL H us = some a → ownL H vs = some b → ownL H (us ++ vs) = some (a ++ b)
  | [], vs, a, b, h, h' => by simp only [ownL, Option.some.injEq] at h; subst h; exact h'
  | u :: us, vs, a, b, h, h' => by
    simp only [ownL] at h
    split at h
    · rename_i x xs hx hxs
      cases h
      simp only [List.cons_append, ownL, hx, ownL_append us vs xs b hxs h']
    · cases h
theorem own1_cells {u : U} {e : F} (h : own1 H u = some e) : isAggF e = false ∧ e.cells = [e] := by
  cases u with
  | f x =>
    simp only [own1] at h
    split at h
    · rename_i hc
      cases h
      simp only [Bool.and_eq_true] at hc
      obtain ⟨_, hc⟩ := hc
      cases e <;> first | exact ⟨rfl, rfl⟩ | simp [cellF] at hc
    · cases h
  | nils => simp only [own1, Option.some.injEq] at h; subst h; exact ⟨rfl, rfl⟩
  | hs o gen off len =>
    simp only [own1] at h
    split at h
    · split at h
      · cases h; exact ⟨rfl, rfl⟩
      · cases h
    · cases h
  | _ => simp [own1] at h
theorem cells_one {u : U} (h : isAggU u = false) : u.cells = [u] := by
  cases u with
  | f x => cases x <;> first | rfl | simp [isAggU] at h
  | agg => simp [isAggU] at h
  | _ => rfl
theorem mk2_cells {u : U} {a : List F} (h : ownL H u.cells = some a) : (mkF (isAggU u) a).cells = a ∧ isAggF (mkF (isAggU u) a) = isAggU u := by
  cases hu : isAggU u with
  | true => exact ⟨rfl, rfl⟩
  | false =>
    rw [cells_one hu] at h
    simp only [ownL] at h
    split at h
    · rename_i x xs hx hxs
      cases h
      simp only [Option.some.injEq] at hxs
      subst hxs
      obtain ⟨h1, h2⟩ := own1_cells hx
      exact ⟨h2, h1⟩
    · cases h
def flatU (us : List U) : List U := (us.map U.cells).flatten
theorem ownG_flat : ∀ (us : List U) (es : List F), ownG H us = some es → ownL H (flatU us) = some (flatF es) ∧ us.length = es.length ∧ ∀ (j : Nat) (u : U), us[j]? = some u → ∃ a, ownL H u.cells = some a ∧ es[j]? = some (mkF (isAggU u) a)
  | [], es, h => by simp only [ownG, Option.some.injEq] at h; subst h; exact ⟨rfl, rfl, fun j u hu => by simp at hu⟩
  | u :: us, es, h => by
    simp only [ownG] at h
    split at h
    · rename_i a r ha hr
      cases h
      obtain ⟨h1, h2, h3⟩ := ownG_flat us r hr
      refine ⟨?_, by simp [h2], fun j v hv => ?_⟩
      · rw [flatF_cons, (mk2_cells ha).1]
        exact ownL_append _ _ _ _ ha h1
      · cases j with
        | zero => simp at hv; subst hv; exact ⟨a, ha, rfl⟩
        | succ j => simp at hv; obtain ⟨b, h4, h5⟩ := h3 j v hv; exact ⟨b, h4, by simpa using h5⟩
    · cases h
theorem objsAll_append : ∀ (us vs : List U), objsAll (us ++ vs) = objsAll us ++ objsAll vs
  | [], vs => rfl
  | u :: us, vs => by simp [objsAll, objsAll_append us vs]
theorem objsAll_f : ∀ cs : List F, objsAll (cs.map U.f) = []
  | [] => rfl
  | c :: cs => by simp [objsAll, objs, objsAll_f cs]
theorem objs_cells (u : U) : objsAll u.cells = objs u ∨ ∃ l, u = .tup l := by
  cases u with
  | f x => cases x <;> first | (left; rfl) | (left; simp [U.cells, objsAll_f, objs])
  | agg l => left; rfl
  | tup l => exact .inr ⟨l, rfl⟩
  | _ => left; simp [U.cells, objsAll, objs]
theorem objsAll_flat : ∀ (us : List U), (objsAll (flatU us)).length ≤ (objsAll us).length
  | [] => Nat.le_refl _
  | u :: us => by
    have ih := objsAll_flat us
    have : flatU (u :: us) = u.cells ++ flatU us := rfl
    rw [this, objsAll_append]
    simp only [objsAll, List.length_append]
    rcases objs_cells u with h | ⟨l, rfl⟩
    · rw [h]; omega
    · have : objsAll (U.tup l).cells = objs (.tup l) := by simp [U.cells, objsAll]
      rw [this]; omega
theorem flatU_mem {us : List U} {u x : U} (hu : u ∈ us) (hx : x ∈ u.cells) : x ∈ flatU us := by
  unfold flatU
  rw [List.mem_flatten]
  exact ⟨u.cells, List.mem_map_of_mem hu, hx⟩
theorem oneU_rep {w' : World} {Z' : Nat → Prop} {m' m2 : Nat → Nat} {H2 : List HO} {u : U} {a : List F} {e' : F} {v : Value} {b : Nat} (hu : RepU w' Z' m' H u v) (ha : ownL H u.cells = some a) (hle : Own2 (mkF (isAggU u) a) e')
    (hobj : ∀ x ∈ u.cells, ∀ o gen off len, x = .hs o gen off len → ∃ sz g', off = 0 ∧ len = gen ∧ H2[b]? = some (.arr sz gen g') ∧ m2 b = m' o ∧ ∃ g, H[o]? = some (.arr sz gen g)) : RepU w' Z m2 H2 (oneU b e') v := by
  obtain ⟨hc, hag⟩ := mk2_cells ha
  obtain ⟨h1, h2⟩ := hle
  rw [hag] at h1
  rw [hc] at h2
  obtain ⟨al, ag⟩ := ownL_get _ _ ha
  obtain ⟨bl, bg⟩ := ownsLe_get h2
  cases hagu : isAggU u with
  | true =>
    rw [hagu] at h1
    cases e' with
    | agg bs =>
      obtain ⟨vs, rfl, hl, hg⟩ : ∃ vs : List Value, v = .agg vs.toArray ∧ u.cells.length = vs.length ∧ ∀ (j : Nat) (x : U) (y : Value), u.cells[j]? = some x → vs[j]? = some y → RepU w' Z' m' H x y := by
        cases hu with
        | f x _ hr =>
          cases hr with
          | agg cs vs hl hr =>
            refine ⟨vs, rfl, by simpa [U.cells] using hl, fun j x y hx hy => ?_⟩
            simp only [U.cells, List.getElem?_map] at hx
            cases hcj : cs[j]? with
            | none => rw [hcj] at hx; cases hx
            | some c => rw [hcj] at hx; cases hx; exact .f _ _ (hr j c y hcj hy)
          | _ => simp [isAggU] at hagu
        | agg cs vs hl hr => exact ⟨vs, rfl, hl, hr⟩
        | _ => simp [isAggU] at hagu
      have hb : bs.length = vs.length := by rw [← hl, al, bl]; rfl
      refine .agg _ vs (by simpa using hb) fun j x y hx hy => ?_
      rw [List.getElem?_map] at hx
      cases he : bs[j]? with
      | none => rw [he] at hx; cases hx
      | some e =>
        rw [he] at hx; cases hx
        have hj := (List.getElem?_eq_some_iff.1 he).1
        have hbl : a.length = bs.length := bl
        have huj : u.cells[j]? = some u.cells[j] := List.getElem?_eq_getElem (by omega)
        obtain ⟨e0, g1, g2⟩ := ag j _ huj
        obtain ⟨e1, g3, g4⟩ := bg j e0 g1
        have : bs[j]? = some e1 := g3
        rw [he] at this; cases this
        exact oneA_rep (hg j _ y huj hy) g2 g4 (hobj _ (List.getElem_mem _))
    | _ => simp [isAggF] at h1
  | false =>
    rw [hagu] at h1
    have hcu := cells_one hagu
    rw [hcu] at ag al hobj
    obtain ⟨e0, g1, g2⟩ := ag 0 u rfl
    obtain ⟨e1, g3, g4⟩ := bg 0 e0 g1
    have he' : e'.cells = [e'] := by cases e' <;> first | rfl | simp [isAggF] at h1
    rw [he'] at g3
    simp at g3
    subst g3
    have : oneU b e' = oneA b e' := by cases e' <;> first | rfl | simp [isAggF] at h1
    rw [this]
    exact oneA_rep hu g2 g4 (hobj u (by simp))
theorem fn_own {f : FuncId} {fn : Func} {c : Code} (hf : P.funcs[f]? = some fn) (hb : fn.body = some c) (hname : (fn.name == "runtime.NumGoroutine") = false) {pre cnd : List F → Bool} {r1 r2 : List F → F}
    (h : ∀ xs, pre xs = true → ∃ ys es fs, FsLe xs ys ∧ Ends P (.tmp 1000000 :: fn.results.toList) [.code c] (start fn.ntmps (ys.map .f)) (.tup es) ∧ Owns2 es fs ∧ (if cnd xs then r1 xs else r2 xs) = .tup fs) : SpOK P f (.own pre cnd r1 r2) := by
  intro us H slot hslot hp w Z m args hH hL
  simp only [ownPre, ownRes] at hp ⊢
  cases hxs : toFs H us with
  | none => rw [hxs] at hp; cases hp
  | some xs =>
  rw [hxs] at hp
  simp only at hp
  simp only []
  obtain ⟨hl2, hg2⟩ := toFs_get us xs hxs
  obtain ⟨ys, es, fs, hle, h, hes, hfs⟩ := h xs hp
  rw [hfs]
  obtain ⟨hyl, hyg⟩ := hle.get
  let Z1 : Nat → Prop := fun b => Z b ∨ ∃ o, liveAt H o ∧ m o = b
  have hZ1 : ∀ b, Z1 b → b < w.heap.size := by
    rintro b (hb | ⟨o, hlv, rfl⟩)
    · exact hH.zlt b hb
    · exact hH.blk_lt hlv
  refine .inl ⟨by
    have hp : (program).run P w = .ok P w := rfl
    unfold callFunc
    simp only [Sem.run_bind, hp, Result.andThen, hf, hname, hb, Option.isNone_some, Bool.false_eq_true, if_false, Sem.run_pure], fun cs => ?_⟩
  have hlenx : xs.length = args.size := by rw [← hl2]; simpa using hL.1
  have hlen : ys.length = args.size := by rw [← hyl]; exact hlenx
  have hA : AOK w Z1 m (start fn.ntmps (ys.map .f)) { tmps := args ++ Array.replicate (fn.ntmps - args.size) undef, defers := [] } := by
    refine ⟨by simp [start, hlen], fun i u v hu hv => ?_, ?_⟩
    · simp only [start, List.length_map] at hu
      rw [List.getElem?_append] at hu
      rw [Array.getElem?_append] at hv
      simp only [List.length_map] at hu
      split at hu
      · rename_i hi
        rw [if_pos (by omega)] at hv
        rw [List.getElem?_map] at hu
        cases hy : ys[i]? with
        | none => rw [hy] at hu; cases hu
        | some y =>
          rw [hy] at hu; cases hu
          obtain ⟨x, hx, hxy⟩ := hyg i y hy
          have huj : us[i]? = some us[i] := List.getElem?_eq_getElem (by have := (List.getElem?_eq_some_iff.1 hx).1; omega)
          refine .f _ _ (hxy _ _ _ ((toF_rep hH (fun _ _ h => h) (hL.2 i _ v huj (by simpa using hv)) (hg2 i _ x huj hx)).mono ?_ (fun _ _ => rfl)))
          rintro b (hb | ⟨o, _, hlv, rfl⟩)
          · exact .inl hb
          · exact .inr ⟨o, hlv, rfl⟩
      · rename_i hi
        rw [if_neg (by omega)] at hv
        rw [List.getElem?_replicate] at hu
        rw [Array.getElem?_replicate] at hv
        split at hu
        · split at hv
          · cases hu; cases hv; exact .undef
          · cases hv
        · cases hu
    · exact ⟨hZ1, fun o ⟨ob, ho, _⟩ => by simp [start] at ho, fun o o' ⟨ob, ho, _⟩ => by simp [start] at ho, fun o ob ho => by simp [start] at ho⟩
  let b : Frame := { (default : Frame) with fn := f, kind := .normal }
  have henter : Frame.enter P f args .normal = b.at { tmps := args ++ Array.replicate (fn.ntmps - args.size) undef, defers := [] } [.code c] := by
    simp [Frame.enter, Frame.at, hf, hb, b]
  obtain ⟨st', a', w', todo, hk, ⟨hd, Z', m', hA', hE'⟩, hs⟩ := h w Z1 m [] [] _ w Z1 m rfl hA rfl (Ext.refl _ _ _ _) b cs
  have hlive0 : ∀ o, ¬ liveAt ([] : List HO) o := fun o ⟨ob, ho, _⟩ => by simp at ho
  unfold retF at hk
  rw [if_pos (by rfl)] at hk
  simp only [List.tail_cons, retOwn] at hk
  split at hk
  case h_2 => cases hk
  rename_i us' hus
  split at hk
  case isFalse => cases hk
  rename_i hl1
  cases hes' : ownG st'.heap us' with
  | none => rw [hes'] at hk; cases hk
  | some es' =>
  rw [hes'] at hk
  simp only [Option.map_some, Option.some.injEq, F.tup.injEq] at hk
  subst hk
  obtain ⟨vs, hvs, hR⟩ := resU_run (P := P) hA' _ _ hus
  have hres : (results fn a'.tmps).run P w' = .ok (if h : vs.toArray.size = 1 then vs.toArray[0] else .tuple vs.toArray) w' := by
    unfold results
    rw [← Array.toArray_toList (xs := fn.results), List.mapM_toArray]
    simp only [Sem.run_bind, Sem.run_map]
    refine (congrArg (fun q => Result.andThen (Result.andThen q fun x w => Result.ok x.toArray w) fun vs w => (pure (if h : vs.size = 1 then vs[0] else .tuple vs) : Sem Value).run P w) hvs).trans ?_
    simp [Result.andThen]
  have hold : ∀ b, b < w.heap.size → w'.heap[b]? = w.heap[b]? := fun b hb => hE'.rest b hb fun o ho => absurd ho (hlive0 o)
  -- the caller's new heap
  have main : ∃ m2, Ext w Z m H w' Z m2 (newObs H slot (obsOf (flatF fs))) ∧ HOK w' Z m2 (newObs H slot (obsOf (flatF fs))) ∧ ∀ (j : Nat) (e : F) (v : Value), fs[j]? = some e → vs[j]? = some v → RepU w' Z m2 (newObs H slot (obsOf (flatF fs))) (oneU (newAt H slot) e) v := by
    obtain ⟨hflat, hol, hog⟩ := ownG_flat us' es' hes'
    obtain ⟨hfl, hfg⟩ := owns2_get hes
    have each : ∀ (j : Nat) (e : F), fs[j]? = some e → ∃ u a, us'[j]? = some u ∧ ownL st'.heap u.cells = some a ∧ Own2 (mkF (isAggU u) a) e := fun j e he => by
      have hj := (List.getElem?_eq_some_iff.1 he).1
      have huj : us'[j]? = some us'[j] := List.getElem?_eq_getElem (by omega)
      obtain ⟨a, h1, h2⟩ := hog j _ huj
      obtain ⟨e1, h3, h4⟩ := hfg j _ h2
      rw [he] at h3; cases h3
      exact ⟨_, a, huj, h1, h4⟩
    rcases own_form (flatU us') (flatF es') (flatF fs) (Nat.le_trans (objsAll_flat us') hl1) hflat (owns2_flat hes) with ⟨h0, hno⟩ | ⟨o, sz, n, g, g', ho, hsc, hgg, hob, hone⟩
    · rw [h0]
      have e0 : newObs H slot [] = H := rfl
      rw [e0]
      have hEE : Ext w Z m H w' Z m H := by
        refine ⟨hE'.os, hE'.tape, hE'.output, hE'.size, fun b hb => hb, fun b hb => .inl hb, fun b hb => hold b (hH.zlt b hb), fun b hb _ => hold b hb, Nat.le_refl _, fun k ob ob' h1 h2 => ?_, fun k hk => .inl ⟨hk, rfl⟩⟩
        rw [h1] at h2; cases h2
        cases ob with
        | arr sz n g => exact ⟨rfl, Nat.le_refl _, fun _ => ⟨rfl, by simp only [blockCells, hold _ (hH.blk_lt ⟨_, h1, rfl⟩)]⟩⟩
        | _ => simp [Evol]
      refine ⟨m, hEE, ⟨fun b hb => Nat.lt_of_lt_of_le (hH.zlt b hb) hE'.size, hH.apart, hH.inj, fun k ob hk => ?_⟩, fun j e v he hv => ?_⟩
      · by_cases hd : ob.live = true
        · exact (hH.ob k ob hk).mono hEE (hold _ (hH.blk_lt ⟨_, hk, hd⟩))
        · cases ob <;> simp_all [ObOK, HO.live]
      · obtain ⟨u, e0, h1, h2, h3⟩ := each j e he
        exact oneU_rep (hR.2 j u v h1 hv) h2 h3 fun x hx o gen off len e => absurd e (hno x (flatU_mem (List.mem_of_getElem? h1) hx) o gen off len)
    · rw [hob]
      have eN : newObs H slot [.arr sz n g'] = putNew H slot (.arr sz n g') := by cases slot <;> rfl
      have eA : newAt H slot = placeNew H slot := by cases slot <;> rfl
      rw [eN, eA]
      have hlo : liveAt st'.heap o := ⟨_, ho, rfl⟩
      let m2 : Nat → Nat := fun k => if k = placeNew H slot then m' o else m k
      have hfresh : w.heap.size ≤ m' o := by
        rcases hE'.new o hlo with ⟨h, _⟩ | h
        · exact absurd h (hlive0 o)
        · exact h
      have hmn : m2 (placeNew H slot) = m' o := by simp [m2]
      have hmk : ∀ k, k ≠ placeNew H slot → m2 k = m k := fun k hk => by simp only [m2]; rw [if_neg hk]
      have hsplit : ∀ k, liveAt (putNew H slot (.arr sz n g')) k → k = placeNew H slot ∨ (k ≠ placeNew H slot ∧ liveAt H k) := by
        rintro k ⟨ob, hk, hl⟩
        by_cases hp : k = placeNew H slot
        · exact .inl hp
        · rw [putNew_other _ _ _ hp] at hk; exact .inr ⟨hp, ob, hk, hl⟩
      have hEE : Ext w Z m H w' Z m2 (putNew H slot (.arr sz n g')) := by
        refine ⟨hE'.os, hE'.tape, hE'.output, hE'.size, fun b hb => hb, fun b hb => .inl hb, fun b hb => hold b (hH.zlt b hb), fun b hb _ => hold b hb, putNew_len _ _ _, ?_, ?_⟩
        · intro k ob ob' hk hk'
          by_cases hp : k = placeNew H slot
          · cases hsl : slot with
            | none => rw [hsl] at hp; subst hp; simp [placeNew] at hk
            | some k' =>
              rw [hsl] at hp
              obtain rfl : k = k' := hp
              rw [hslot k hsl] at hk
              cases hk
              cases ob' <;> simp [Evol]
          · rw [putNew_other _ _ _ hp, hk] at hk'
            cases hk'
            rw [hmk k hp]
            cases ob with
            | arr sz n g => exact ⟨rfl, Nat.le_refl _, fun _ => ⟨rfl, by simp only [blockCells, hold _ (hH.blk_lt ⟨_, hk, rfl⟩)]⟩⟩
            | _ => simp [Evol]
        · intro k hk
          rcases hsplit k hk with h1 | ⟨h1, h2⟩
          · subst h1; right; rw [hmn]; exact hfresh
          · exact .inl ⟨h2, hmk k h1⟩
      refine ⟨m2, hEE, ⟨fun b hb => Nat.lt_of_lt_of_le (hH.zlt b hb) hE'.size, ?_, ?_, ?_⟩, fun j e v he hv => ?_⟩
      · intro k hk hz
        rcases hsplit k hk with h1 | ⟨h1, h2⟩
        · subst h1
          rw [hmn] at hz
          have := hH.zlt _ hz
          omega
        · rw [hmk k h1] at hz; exact hH.apart k h2 hz
      · intro k k' hk hk' e
        rcases hsplit k hk with h1 | ⟨h1, g1⟩ <;> rcases hsplit k' hk' with h2 | ⟨h2, g2⟩
        · rw [h1, h2]
        · subst h1; rw [hmk k' h2, hmn] at e; have := hH.blk_lt g2; omega
        · subst h2; rw [hmk k h1, hmn] at e; have := hH.blk_lt g1; omega
        · rw [hmk k h1, hmk k' h2] at e; exact hH.inj k k' g1 g2 e
      · intro k ob hk
        by_cases hp : k = placeNew H slot
        · subst hp
          rw [putNew_get _ _ _ hslot] at hk
          cases hk
          rw [hmn]
          obtain ⟨q0, c1, el, fr, q1, q2, q3, q4, q5⟩ := hA'.hok.ob o _ ho
          refine ⟨q0, c1, el, fr, q1, q2, q3, fun i hi => by rw [← hgg i hi]; exact q4 i hi, fun i j u hi hu => ?_⟩
          rw [← hgg i hi] at hu
          obtain ⟨p1, v, p2, p3⟩ := q5 i j u hi hu
          exact ⟨p1, v, p2, p3.scal0_any (scal0_cells (isScal_get hsc hi) hu)⟩
        · rw [putNew_other _ _ _ hp] at hk
          by_cases hd : ob.live = true
          · rw [hmk k hp]
            exact (hH.ob k ob hk).mono hEE (hold _ (hH.blk_lt ⟨_, hk, hd⟩))
          · cases ob <;> simp_all [ObOK, HO.live]
      · obtain ⟨u, e0, h1, h2, h3⟩ := each j e he
        refine oneU_rep (hR.2 j u v h1 hv) h2 h3 fun x hx o1 gen off len e => ?_
        obtain ⟨rfl, rfl, rfl, rfl⟩ := hone x (flatU_mem (List.mem_of_getElem? h1) hx) o1 gen off len e
        exact ⟨sz, g', rfl, rfl, putNew_get _ _ _ hslot, hmn, g, ho⟩
  obtain ⟨m2, hEE, hHH, hrep⟩ := main
  have hfl : fs.length = vs.length := by
    rw [← (owns2_get hes).1, ← (ownG_flat us' es' hes').2.1]; exact hR.1
  refine ⟨.returned _, w', { b.at a' todo with mode := .returning }, ⟨Z, m2, ?_⟩, ?_, rfl, rfl, hd, rfl, fn, hf, hres⟩
  · match fs, vs, hfl, hrep, hEE, hHH with
    | [e], [v], _, hrep, hEE, hHH => exact ⟨hEE, hHH, hrep 0 e v rfl rfl⟩
    | [], [], _, hrep, hEE, hHH => exact ⟨hEE, hHH, .tup [] [] rfl fun j u v hu => by simp at hu⟩
    | e1 :: e2 :: fs, v1 :: v2 :: vs, hfl, hrep, hEE, hHH =>
      refine ⟨hEE, hHH, ?_⟩
      have : RepU w' Z m2 (newObs H slot (obsOf (flatF (e1 :: e2 :: fs)))) (.tup ((e1 :: e2 :: fs).map (oneU (newAt H slot)))) (.tuple (v1 :: v2 :: vs).toArray) := .tup _ _ (by simpa using hfl) fun j u v hu hv => by
        rw [List.getElem?_map] at hu
        cases he : (e1 :: e2 :: fs)[j]? with
        | none => rw [he] at hu; cases hu
        | some e => rw [he] at hu; cases hu; exact hrep j e v he hv
      simpa [place] using this
    | [_], [], hl, _, _, _ => simp at hl
    | [_], _ :: _ :: _, hl, _, _, _ => simp at hl
    | [], _ :: _, hl, _, _, _ => simp at hl
    | _ :: _ :: _, [], hl, _, _, _ => simp at hl
    | _ :: _ :: _, [_], hl, _, _, _ => simp at hl
  · rw [henter]; exact hs
end
end Go.Proofs.YtdcooaopkbicfaaGreat.R
namespace Go.Proofs.YtdcooaopkbicfaaGreat.R
open Go Go.Lib Go.RowKit
section
variable {P : Program} {w : World} {Z : Nat → Prop} {m : Nat → Nat} {H : List HO}
theorem enter_fn {f : FuncId} {fn : Func} {c : Code} (hf : P.funcs[f]? = some fn) (hb : fn.body = some c) (hname : (fn.name == "runtime.NumGoroutine") = false) (args : Array Value) (w : World) :
    (callFunc f args).run P w = .ok (.enter f args) w := by
  have hp : (program).run P w = .ok P w := rfl
  unfold callFunc
  simp only [Sem.run_bind, hp, Result.andThen, hf, hname, hb, Option.isNone_some, Bool.false_eq_true, if_false, Sem.run_pure]
theorem Ext.grows {w' : World} (hH : HOK w Z m H) (g : Grows w w') : Ext w Z m H w' Z m H ∧ HOK w' Z m H := by
  have hE : Ext w Z m H w' Z m H := by
    refine ⟨g.os, g.tape, g.output, g.size, fun _ h => h, fun _ h => .inl h, fun b hb => g.old b (hH.zlt b hb), fun b hb _ => g.old b hb, Nat.le_refl _, fun o ob ob' h1 h2 => ?_, fun o h => .inl ⟨h, rfl⟩⟩
    rw [h1] at h2; cases h2
    by_cases hd : ob.live = true
    case neg => cases ob <;> simp_all [Evol, HO.live]
    · have hlt := hH.blk_lt (live_of h1 hd)
      have : blockCells w' (m o) = blockCells w (m o) := by simp only [blockCells, g.old _ hlt]
      cases ob <;> simp_all [Evol]
  refine ⟨hE, fun b hb => Nat.lt_of_lt_of_le (hH.zlt b hb) g.size, hH.apart, hH.inj, fun o ob ho => ?_⟩
  by_cases hd : ob.live = true
  case neg => cases ob <;> simp_all [ObOK, HO.live]
  · exact (hH.ob o ob ho).mono hE (g.old _ (hH.blk_lt (live_of ho hd)))
theorem below_alloc_grown {w w1 : World} {ob : Obj} (h : (w.alloc ob).grownBy w1 (some w.heap.size)) : Below w.heap.size w w1 :=
  ((Below.refl _ w).alloc (Nat.le_refl _) _).grown h (by simp) (by intro k hk; simp at hk; omega)
def posSl : List F → Bool
  | [.sl n _] => decide (0 < n)
  | _ => false
def CloneZero (P : Program) (f : FuncId) : Prop :=
  (∀ (c : Nat) (w : World), Calls P f #[.slice none 0 c] w fun e w' => e = .returned (.slice none 0 0) ∧ w' = w) ∧
  (∀ (a : Addr) (c : Nat) (w : World), Calls P f #[.slice (some a) 0 c] w fun e w' => ∃ b, e = .returned (.slice (some b) 0 0) ∧ Below w.heap.size w w')
theorem clone_zero_does {f : FuncId} {fn : Func} {c : Code} (hf : P.funcs[f]? = some fn) (hb : fn.body = some c) (hname : (fn.name == "runtime.NumGoroutine") = false) (h : CloneZero P f) {g : Nat → F} {v : Value} {args : Array Value} (ha : args.toList = [v]) (hv : RepF w Z (.sl 0 g) v) :
    CallDoes P f args w fun v w' => Grows w w' ∧ ∃ A, v = .slice A 0 0 := by
  have e : args = #[v] := by rw [← Array.toArray_toList (xs := args), ha]
  subst e
  cases hv with
  | sl _ _ A c sz a V hc hs hk hA hV hr =>
    refine .inl ⟨enter_fn hf hb hname _ _, ?_⟩
    cases A with
    | none =>
      intro cs
      obtain ⟨e, w', fr, he, hcs⟩ := h.1 c w cs
      obtain ⟨rfl, rfl⟩ := he
      refine ⟨.returned (.slice none 0 0), _, fr, ?_, hcs⟩
      exact ⟨⟨rfl, rfl, rfl, Nat.le_refl _, fun _ _ => rfl⟩, none, rfl⟩
    | some a0 =>
      intro cs
      obtain ⟨e, w', fr, he, hcs⟩ := h.2 a0 c w cs
      obtain ⟨b, rfl, hB⟩ := he
      refine ⟨.returned (.slice (some b) 0 0), _, fr, ?_, hcs⟩
      exact ⟨⟨hB.os, hB.tape, hB.output, hB.size, hB.block⟩, some b, rfl⟩
theorem clone_pure {f : FuncId} {fn : Func} {c : Code} (hf : P.funcs[f]? = some fn) (hb : fn.body = some c) (hname : (fn.name == "runtime.NumGoroutine") = false) (h : CloneZero P f) {pre : List F → Bool} {res : List F → F}
    (hpre : ∀ xs, pre xs = true → ∃ n g, xs = [.sl n g]) (hres : ∀ g, pre [.sl 0 g] = true → ∃ g', res [.sl 0 g] = .sl 0 g')
    (hn : PureOK P f (fun xs => posSl xs && pre xs) res) : PureOK P f pre res := by
  intro xs hp w Z args hZ hL
  obtain ⟨n, g, rfl⟩ := hpre xs hp
  by_cases h0 : n = 0
  · subst h0
    obtain ⟨v, hv⟩ : ∃ v, args.toList = [v] := by
      have := hL.1
      match h : args.toList, this with
      | [v], _ => exact ⟨v, rfl⟩
    obtain ⟨g', hg'⟩ := hres g hp
    rw [hg']
    refine (clone_zero_does hf hb hname h hv (hL.2 0 _ v rfl (by rw [hv]; rfl))).mono fun v w' ⟨hg, A, hA⟩ => ?_
    subst hA
    refine ⟨hg, Z, fun b hb => .inl hb, .sl 0 g' A 0 0 ⟨0, 0, none⟩ (fun _ => .nilFunc) (Nat.le_refl _) (fun i hi => by omega) (fun i j u hi => by omega) (fun h => absurd rfl h) (fun i j u hi => by omega) (fun i j u hi => by omega)⟩
  · exact hn _ (by simp only [posSl, hp, Bool.and_true]; exact decide_eq_true (by omega)) w Z args hZ hL
theorem clone_own {f : FuncId} {fn : Func} {c : Code} (hf : P.funcs[f]? = some fn) (hb : fn.body = some c) (hname : (fn.name == "runtime.NumGoroutine") = false) (h : CloneZero P f) {pre : List F → Bool} {r1 : List F → F}
    (hpre : ∀ xs, pre xs = true → ∃ n g, xs = [.sl n g]) (hn : SpOK P f (.own (fun xs => posSl xs && pre xs) (fun _ => true) r1 r1)) : SpOK P f (.own pre posSl r1 (fun _ => .tup [.tup []])) := by
  intro us H slot hs hp w Z m args hH hu
  simp only [ownPre] at hp
  cases hx : toFs H us with
  | none => rw [hx] at hp; cases hp
  | some xs =>
  rw [hx] at hp
  obtain ⟨n, g, rfl⟩ := hpre xs hp
  by_cases h0 : n = 0
  · subst h0
    have e : ownRes slot posSl r1 (fun _ => .tup [.tup []]) us H = (.nils, H) := by
      simp only [ownRes, hx, posSl, Nat.lt_irrefl, decide_false, Bool.false_eq_true, if_false]
      rfl
    rw [e]
    obtain ⟨hl, hg⟩ := toFs_get us _ hx
    obtain ⟨v, hv⟩ : ∃ v, args.toList = [v] := by
      have h1 := hu.1
      rw [hl] at h1
      match h : args.toList, h1 with
      | [v], _ => exact ⟨v, rfl⟩
    have hu0 : us[0]? = some (us[0]'(by rw [hl]; simp)) := List.getElem?_eq_getElem _
    have hr := toF_rep hH (fun _ _ h => h) (hu.2 0 _ v hu0 (by rw [hv]; rfl)) (hg 0 _ _ hu0 rfl)
    refine (clone_zero_does hf hb hname h hv hr).mono fun v w' ⟨hg, A, hA⟩ => ?_
    subst hA
    exact ⟨Z, m, (Ext.grows hH hg).1, (Ext.grows hH hg).2, .nils A⟩
  · have hps : posSl [.sl n g] = true := decide_eq_true (by omega)
    have := hn us H slot hs (by simp only [ownPre, hx, hp, hps, Bool.and_true]) w Z m args hH hu
    have e : ownRes slot (fun _ => true) r1 r1 us H = ownRes slot posSl r1 (fun _ => .tup [.tup []]) us H := by
      simp only [ownRes, hx, hps, if_true]
    rw [e] at this
    exact this
end
end Go.Proofs.YtdcooaopkbicfaaGreat.R
