/-
  The walk of trees: QuadCount, by both.
-/
import Derived.Test.YtjbilidfnfnpfaaQ9a
namespace Go.Proofs.Ytjbilidfnfnpfaa.R
open Go
noncomputable section
set_option linter.unusedVariables false
set_option linter.unusedSimpArgs false
set_option maxRecDepth 100000
/-! ### function 39 -/
def S39_5 (l : List Bk) (n : Int) (m : Int) (i : Int) : St := ⟨[.bad, .bad, .bad, .bad, (U.f (F.int .i64 n)), (U.f (F.int .i64 m)), .bad, .bad, .bad, .bad, .bad, .bad, .bad, .bad, (U.f (blocksF l)), (U.f (F.int .i64 l.length)), (U.f (F.int .i64 i)), .bad, .bad, .bad, .bad, .bad, .bad, .bad, .bad, .bad, .bad, .bad, .bad, .bad, .bad, .bad, .bad, .bad, .bad, .bad, .bad, .bad, .bad], []⟩
def S39_11 (l : List Bk) (n : Int) (m : Int) (dp : Int) (sz : Int) (i : Int) : St := ⟨[.bad, .bad, .bad, .bad, (U.f (F.int .i64 n)), (U.f (F.int .i64 m)), .bad, .bad, (U.f (F.int .i64 dp)), (U.f (F.int .i64 sz)), .bad, .bad, .bad, .bad, (U.f (blocksF l)), (U.f (F.int .i64 l.length)), (U.f (F.int .i64 i)), .bad, .bad, .bad, .bad, .bad, .bad, .bad, .bad, .bad, .bad, .bad, .bad, .bad, .bad, .bad, .bad, .bad, .bad, .bad, .bad, .bad, .bad], []⟩
def T39_5 {ρ : Type} (ret : (Int) → (Int) → Option ρ) (c5 : (List Bk) → (Int) → (Int) → (Int) → Option ρ) (c11 : (List Bk) → (Int) → (Int) → (Int) → (Int) → (Int) → Option ρ) (l : List Bk) (n : Int) (m : Int) (i : Int) : Option ρ :=
  (bsel (decide (i < (↑l.length : Int)))
   (bsel (decide (0 ≤ i))
    (bsel (decide (i < (↑l.length : Int)))
     (bsel (!(l.getD i.toNat Bk.zero).split)
      (c11 (l) (IntKind.i64.wrap (n + 1)) (m) (0) ((l.getD i.toNat Bk.zero).size) (i))
      (c11 (l) (n) (m) (0) ((l.getD i.toNat Bk.zero).size) (i)))
     none)
    none)
   (ret (n) (m)))
def T39_11 {ρ : Type} (ret : (Int) → (Int) → Option ρ) (c5 : (List Bk) → (Int) → (Int) → (Int) → Option ρ) (c11 : (List Bk) → (Int) → (Int) → (Int) → (Int) → (Int) → Option ρ) (l : List Bk) (n : Int) (m : Int) (dp : Int) (sz : Int) (i : Int) : Option ρ :=
  (bsel (decide (sz < 2097152))
   (c11 (l) (n) (m) (IntKind.i64.wrap (dp + 1)) (IntKind.i64.wrap (sz * 2)) (i))
   (c5 (l) (n) (if true = true then if dp > m then dp else m else if dp < m then dp else m) (IntKind.i64.wrap (i + 1))))
mutual
def L39_5 : Nat → (List Bk) → (Int) → (Int) → (Int) → Option ((Int) × (Int))
  | 0, _, _, _, _ => none
  | k + 1, l, n, m, i => T39_5 (fun r r2 => some (r, r2)) (L39_5 k) (L39_11 k) l n m i
def L39_11 : Nat → (List Bk) → (Int) → (Int) → (Int) → (Int) → (Int) → Option ((Int) × (Int))
  | 0, _, _, _, _, _, _ => none
  | k + 1, l, n, m, dp, sz, i => T39_11 (fun r r2 => some (r, r2)) (L39_5 k) (L39_11 k) l n m dp sz i
end
def T39 {ρ : Type} (ret : (Int) → (Int) → Option ρ) (c5 : (List Bk) → (Int) → (Int) → (Int) → Option ρ) (c11 : (List Bk) → (Int) → (Int) → (Int) → (Int) → (Int) → Option ρ) (q : Qd) : Option ρ :=
  (bsel (isQd (qdF q) && allShortV (unQd (qdF q)).blocks)
   (bsel (!(treeV (unQd (qdF q))).snd)
    (ret (0) (0))
    (c5 (q.blocks) (0) (0) (0)))
   none)
def G39 (k : Nat) (q : Qd) : Option ((Int) × (Int)) := T39 (fun r r2 => some (r, r2)) (L39_5 k) (L39_11 k) q
mutual
theorem t39_5 : ∀ (k : Nat) (l : List Bk) (n : Int) (m : Int) (i : Int) (r : Int) (r2 : Int), L39_5 k l n m i = some (r, r2) → Ends Try.prog Try.f39.results.toList (at_ Try.f39 5) (S39_5 l n m i) (F.tup [F.int .i64 r, F.int .i64 r2])
  | 0, _, _, _, _, _, _, h => nomatch h
  | k + 1, l, n, m, i, r, r2, h => by
    refine Ends.of_cut tyOK envQ8_ok (T := [(5, [4, 5, 14, 15, 16], 1000), (11, [4, 5, 8, 9, 14, 15, 16], 1000)]) (n := 200) ?_
    have e : runCut Try.prog (tiOf Try.prog) envQ8 [(5, [4, 5, 14, 15, 16], 1000), (11, [4, 5, 8, 9, 14, 15, 16], 1000)] 0 Try.f39.results.toList some 200 (at_ Try.f39 5) (S39_5 l n m i) = T39_5 (fun r r2 => some (.ret (F.tup [F.int .i64 r, F.int .i64 r2]))) (fun l n m i => some (.cut (at_ Try.f39 5) (S39_5 l n m i))) (fun l n m dp sz i => some (.cut (at_ Try.f39 11) (S39_11 l n m dp sz i))) l n m i := by kernel_rfl
    rw [e]
    exact (good_sel h (fun _ h => (good_sel h (fun _ h => (good_sel h (fun _ h => (good_sel h (fun _ h => good_cut (t39_11 k _ _ _ _ _ _ r r2 h)) (fun _ h => good_cut (t39_11 k _ _ _ _ _ _ r r2 h)))) (fun _ h => nomatch h))) (fun _ h => nomatch h))) (fun _ h => good_ret (by cases h; rfl)))
theorem t39_11 : ∀ (k : Nat) (l : List Bk) (n : Int) (m : Int) (dp : Int) (sz : Int) (i : Int) (r : Int) (r2 : Int), L39_11 k l n m dp sz i = some (r, r2) → Ends Try.prog Try.f39.results.toList (at_ Try.f39 11) (S39_11 l n m dp sz i) (F.tup [F.int .i64 r, F.int .i64 r2])
  | 0, _, _, _, _, _, _, _, _, h => nomatch h
  | k + 1, l, n, m, dp, sz, i, r, r2, h => by
    refine Ends.of_cut tyOK envQ8_ok (T := [(5, [4, 5, 14, 15, 16], 1000), (11, [4, 5, 8, 9, 14, 15, 16], 1000)]) (n := 200) ?_
    have e : runCut Try.prog (tiOf Try.prog) envQ8 [(5, [4, 5, 14, 15, 16], 1000), (11, [4, 5, 8, 9, 14, 15, 16], 1000)] 0 Try.f39.results.toList some 200 (at_ Try.f39 11) (S39_11 l n m dp sz i) = T39_11 (fun r r2 => some (.ret (F.tup [F.int .i64 r, F.int .i64 r2]))) (fun l n m i => some (.cut (at_ Try.f39 5) (S39_5 l n m i))) (fun l n m dp sz i => some (.cut (at_ Try.f39 11) (S39_11 l n m dp sz i))) l n m dp sz i := by kernel_rfl
    rw [e]
    exact (good_sel h (fun _ h => good_cut (t39_11 k _ _ _ _ _ _ r r2 h)) (fun _ h => good_cut (t39_5 k _ _ _ _ r r2 h)))
end
theorem t39 (k : Nat) (q : Qd) (r : Int) (r2 : Int) (h : G39 k q = some (r, r2)) : Ends Try.prog Try.f39.results.toList [.code (bodyOf Try.f39)] (start Try.f39.ntmps ([qdF q].map .f)) (F.tup [F.int .i64 r, F.int .i64 r2]) := by
  refine Ends.of_run tyOK envQ8_ok (T := [(5, [4, 5, 14, 15, 16], 1000), (11, [4, 5, 8, 9, 14, 15, 16], 1000)]) (n := 200) ?_
  have e : run Try.prog (tiOf Try.prog) envQ8 [(5, [4, 5, 14, 15, 16], 1000), (11, [4, 5, 8, 9, 14, 15, 16], 1000)] 0 Try.f39.results.toList some 200 [.code (bodyOf Try.f39)] (start Try.f39.ntmps ([qdF q].map .f)) = T39 (fun r r2 => some (.ret (F.tup [F.int .i64 r, F.int .i64 r2]))) (fun l n m i => some (.cut (at_ Try.f39 5) (S39_5 l n m i))) (fun l n m dp sz i => some (.cut (at_ Try.f39 11) (S39_11 l n m dp sz i))) q := by kernel_rfl
  rw [e]
  exact (good_sel h (fun _ h => (good_sel h (fun _ h => good_ret (by cases h; rfl)) (fun _ h => good_cut (t39_5 k _ _ _ _ r r2 h)))) (fun _ h => nomatch h))
/-! ### function 38 -/
def T38 {ρ : Type} (ret : (Int) → (Int) → Option ρ) (q : Qd) : Option ρ :=
  (bsel (isQd (qdF q) && allShortV (unQd (qdF q)).blocks)
   (bsel (!(treeV (unQd (qdF q))).snd)
    (ret (0) (0))
    (bsel (isTr (trF (treeV (unQd (qdF q))).fst) && cntOk 9 (unTr (trF (treeV (unQd (qdF q))).fst)))
     (ret (lvsV (unTr (trF (treeV (unQd (qdF q))).fst))) (dptV (unTr (trF (treeV (unQd (qdF q))).fst))))
     none))
   none)
def G38 (q : Qd) : Option ((Int) × (Int)) := T38 (fun r r2 => some (r, r2)) q
theorem t38 (q : Qd) (r : Int) (r2 : Int) (h : G38 q = some (r, r2)) : Ends Try.prog Try.f38.results.toList [.code (bodyOf Try.f38)] (start Try.f38.ntmps ([qdF q].map .f)) (F.tup [F.int .i64 r, F.int .i64 r2]) := by
  refine Ends.of_run tyOK envQ8_ok (T := []) (n := 200) ?_
  have e : run Try.prog (tiOf Try.prog) envQ8 [] 0 Try.f38.results.toList some 200 [.code (bodyOf Try.f38)] (start Try.f38.ntmps ([qdF q].map .f)) = T38 (fun r r2 => some (.ret (F.tup [F.int .i64 r, F.int .i64 r2]))) q := by kernel_rfl
  rw [e]
  exact (good_sel h (fun _ h => (good_sel h (fun _ h => good_ret (by cases h; rfl)) (fun _ h => (good_sel h (fun _ h => good_ret (by cases h; rfl)) (fun _ h => nomatch h))))) (fun _ h => nomatch h))
theorem size_loop (l : List Bk) (n mx i : Int) : ∀ (e m k dp : Nat), m + e = 21 → dp + e ≤ 21 → e + 1 ≤ k → L39_11 k l n mx dp ((2 ^ m : Nat) : Int) i = L39_5 (k - e - 1) l n (if ((dp + e : Nat) : Int) > mx then ((dp + e : Nat) : Int) else mx) (IntKind.i64.wrap (i + 1))
  | 0, m, k, dp, h, hd, hk => by
    obtain ⟨k, rfl⟩ : ∃ k', k = k' + 1 := ⟨k - 1, by omega⟩
    obtain rfl : m = 21 := by omega
    have c1 : decide (((2 ^ 21 : Nat) : Int) < 2097152) = false := by decide
    rw [L39_11]
    simp only [T39_11, c1, bsel_false, if_true, Nat.add_zero, Nat.sub_zero, Nat.add_sub_cancel]
  | e + 1, m, k, dp, h, hd, hk => by
    obtain ⟨k, rfl⟩ : ∃ k', k = k' + 1 := ⟨k - 1, by omega⟩
    have hp : 2 ^ (m + 1) ≤ 2 ^ 21 := Nat.pow_le_pow_right (by omega) (by omega)
    have hs : 2 ^ (m + 1) = 2 * 2 ^ m := by rw [Nat.pow_succ, Nat.mul_comm]
    have ih := size_loop l n mx i e (m + 1) k (dp + 1) (by omega) (by omega) (by omega)
    have hw : IntKind.i64.wrap ((dp : Int) + 1) = ((dp + 1 : Nat) : Int) := by rw [wrapi (by omega) (by omega)]; omega
    have hw2 : IntKind.i64.wrap (((2 ^ m : Nat) : Int) * 2) = ((2 ^ (m + 1) : Nat) : Int) := by
      rw [hs]; rw [hs] at hp
      generalize 2 ^ m = p at hp ⊢
      rw [wrapi (by omega) (by omega)]; omega
    have c1 : decide (((2 ^ m : Nat) : Int) < 2097152) = true := by
      rw [hs] at hp
      have : 0 < 2 ^ m := Nat.pow_pos (by omega)
      have h21 : (2 : Nat) ^ 21 = 2097152 := by decide
      generalize 2 ^ m = p at hp this ⊢
      exact decide_eq_true (by omega)
    rw [L39_11]
    simp only [T39_11, c1, bsel_true, hw, hw2, ih]
    rw [show dp + 1 + e = dp + (e + 1) by omega, show k + 1 - (e + 1) - 1 = k - e - 1 by omega]
theorem count_loop (l : List Bk) (hn : l.length ≤ 2000) (hs : ∀ b ∈ l, ∃ m, m ≤ 21 ∧ b.size = ((2 ^ m : Nat) : Int)) : ∀ (d i n mx k : Nat), i + d = l.length → n ≤ i → mx ≤ 21 → 24 * d + 1 ≤ k →
    L39_5 k l n mx i = some (((n + leavesN ((l.drop i).map keyB) : Nat) : Int), ((max mx (deepN ((l.drop i).map keyB)) : Nat) : Int))
  | 0, i, n, mx, k, h, h1, h2, hk => by
    obtain ⟨k, rfl⟩ : ∃ k', k = k' + 1 := ⟨k - 1, by omega⟩
    have c1 : decide ((i : Int) < (l.length : Int)) = false := decide_eq_false (by omega)
    rw [L39_5, List.drop_eq_nil_of_le (by omega)]
    simp only [T39_5, c1, bsel_false, List.map_nil, leavesN, List.countP_nil, deepN, Nat.add_zero, Nat.max_zero]
  | d + 1, i, n, mx, k, h, h1, h2, hk => by
    obtain ⟨k, rfl⟩ : ∃ k', k = k' + 1 := ⟨k - 1, by omega⟩
    have hi : i < l.length := by omega
    have c1 : decide ((i : Int) < (l.length : Int)) = true := decide_eq_true (by omega)
    have c2 : decide (0 ≤ (i : Int)) = true := decide_eq_true (by omega)
    have hw : IntKind.i64.wrap ((i : Int) + 1) = ((i + 1 : Nat) : Int) := by rw [wrapi (by omega) (by omega)]; omega
    have hw2 : IntKind.i64.wrap ((n : Int) + 1) = ((n + 1 : Nat) : Int) := by rw [wrapi (by omega) (by omega)]; omega
    have hg : l.getD i .zero = l[i] := by simp [List.getD, List.getElem?_eq_getElem hi]
    obtain ⟨m, hm, hsz⟩ := hs l[i] (List.getElem_mem hi)
    have hb : bdN l[i].size = 21 - m := by rw [hsz, bd_pow]
    have z : (0 : Int) = ((0 : Nat) : Int) := rfl
    have hx : (if ((0 + (21 - m) : Nat) : Int) > (mx : Int) then ((0 + (21 - m) : Nat) : Int) else (mx : Int)) = ((max mx (21 - m) : Nat) : Int) := by
      rw [Nat.zero_add]; exact max_nat
    have hmx : max mx (21 - m) ≤ 21 := Nat.max_le.2 ⟨h2, by omega⟩
    rw [L39_5]
    simp only [T39_5, c1, c2, bsel_true, Int.toNat_natCast, hg, hsz]
    rw [List.drop_eq_getElem_cons hi]
    simp only [List.map_cons, leavesN, List.countP_cons, deepN, keyB, hb]
    rw [z]
    cases hsp : l[i].split with
    | false =>
      simp only [Bool.not_false, bsel_true, if_true, hw2]
      rw [size_loop l _ _ _ (21 - m) m k 0 (by omega) (by omega) (by omega), hx, hw, count_loop l hn hs d (i + 1) (n + 1) _ _ (by omega) (by omega) hmx (by omega)]
      simp only [leavesN, Nat.max_assoc]
      congr 2
      congr 1
      omega
    | true =>
      simp only [Bool.not_true, bsel_false, Bool.false_eq_true, if_false]
      rw [size_loop l _ _ _ (21 - m) m k 0 (by omega) (by omega) (by omega), hx, hw, count_loop l hn hs d (i + 1) n _ _ (by omega) (by omega) hmx (by omega)]
      simp only [leavesN, Nat.max_assoc, Nat.add_zero]
def countV (q : Qd) : Int × Int := bif (treeV q).2 then (lvsV (treeV q).1, dptV (treeV q).1) else (0, 0)
theorem count_impl (q : Qd) (hs : allShortV q.blocks = true) : G39 60000 q = some (countV q) := by
  unfold G39 T39 countV
  simp only [isQd_qdF, unQd_qdF, hs, Bool.and_true, bsel_true]
  cases ht : (treeV q).2 with
  | false => rfl
  | true =>
    obtain ⟨h1, h2, h3, h4, h5⟩ := tree_flat ht
    have hsz : ∀ b ∈ q.blocks, ∃ m, m ≤ 21 ∧ b.size = ((2 ^ m : Nat) : Int) := fun b hb => by
      have : keyB b ∈ flat (treeV q).1 := by rw [← h1]; exact List.mem_map_of_mem hb
      obtain ⟨k, hk, e⟩ := flat_sizes _ _ h2 _ this
      exact ⟨k, hk, e⟩
    have := count_loop q.blocks h5 hsz q.blocks.length 0 0 0 60000 (by omega) (by omega) (by omega) (by omega)
    rw [List.drop_zero, h1, flat_leaves, flat_deep _ 21 h2 (by omega)] at this
    simp only [Bool.not_true, bsel_false, cond_true, lvsV, dptV]
    simpa using this
theorem count_spec (q : Qd) (hs : allShortV q.blocks = true) : G38 q = some (countV q) := by
  unfold G38 T38 countV
  simp only [isQd_qdF, unQd_qdF, hs, Bool.and_true, bsel_true]
  cases ht : (treeV q).2 with
  | false => rfl
  | true =>
    obtain ⟨h1, h2, h3, h4, h5⟩ := tree_flat ht
    have hc : cntOk 9 (treeV q).1 = true := by
      simp only [cntOk, Bool.and_eq_true, decide_eq_true_eq]
      omega
    simp only [isTr_trF, unTr_trF, hc, Bool.and_true, bsel_true, Bool.not_true, bsel_false, cond_true]
def resQCount : List F → F | [q] => .tup [.int .i64 (countV (unQd q)).1, .int .i64 (countV (unQd q)).2] | _ => .dflt
theorem okQCountI : PureOK Try.prog 39 preTree resQCount :=
  fn_pure_at (c := bodyOf Try.f39) Try.func39 (by kernel_rfl) (by kernel_rfl) fun xs hp => match xs, hp with
  | [q], hp => by
    simp only [preTree, Bool.and_eq_true] at hp
    exact ⟨[qdF (unQd q)], _, ⟨(qd_eqv hp.1).1, trivial⟩, t39 60000 _ _ _ (count_impl (unQd q) hp.2), .refl _⟩
theorem okQCountS : PureOK Try.prog 38 preTree resQCount :=
  fn_pure_at (c := bodyOf Try.f38) Try.func38 (by kernel_rfl) (by kernel_rfl) fun xs hp => match xs, hp with
  | [q], hp => by
    simp only [preTree, Bool.and_eq_true] at hp
    exact ⟨[qdF (unQd q)], _, ⟨(qd_eqv hp.1).1, trivial⟩, t38 _ _ _ (count_spec (unQd q) hp.2), .refl _⟩
def envQ9 : Env := (envQ8.add 39 (.pure preTree resQCount)).add 38 (.pure preTree resQCount)
theorem envQ9_ok : EnvOK Try.prog envQ9 := Env.add_ok (Env.add_ok envQ8_ok okQCountI.sp) okQCountS.sp
end
end Go.Proofs.Ytjbilidfnfnpfaa.R
