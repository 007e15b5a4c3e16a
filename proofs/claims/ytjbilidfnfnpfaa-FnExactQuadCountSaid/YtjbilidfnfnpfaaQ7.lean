/-
  The law FnExactQuadOk, walked.
-/
import Derived.Test.YtjbilidfnfnpfaaQ6
import Derived.Test.YtjbilidfnfnpfaaR26
namespace Go.Proofs.Ytjbilidfnfnpfaa.R
open Go Go.ChangeShapes Go.WideShapes Go.RowKit
noncomputable section
set_option linter.unusedVariables false
set_option linter.unusedSimpArgs false
set_option maxRecDepth 100000
/-! ### function 6 -/
def T6 {ρ : Type} (ret : (Bool) → Option ρ) (q : Qd) : Option ρ :=
  (bsel (isQd (qdF q) && longV (unQd (qdF q)).blocks.length)
   (bsel (decide (szQdV (unQd (qdF q)) 1048576 < 0))
    (ret (true))
    (bsel (isQd (qdF q) && shortQdOk (unQd (qdF q)))
     (bsel (isQd (resToQd [qdF q]) && allShortV (unQd (resToQd [qdF q])).blocks)
      (bsel (isQd (qdF q) && shortQdOk (unQd (qdF q)))
       (bsel (isQd (qdF (unQd (qdF q))) && allShortV (unQd (qdF (unQd (qdF q)))).blocks)
        (bsel (!(treeV (unQd (qdF (unQd (qdF q))))).snd == (treeV (unQd (resToQd [qdF q]))).snd)
         (ret (false))
         (bsel (isQd (qdF q) && shortQdOk (unQd (qdF q)))
          (bsel (isQd (qdF (unQd (qdF q))) && isQd (resToQd [qdF q]) && shortQdOk (unQd (qdF (unQd (qdF q)))))
           (bsel (!sameQdV (unQd (qdF (unQd (qdF q)))) (unQd (resToQd [qdF q])))
            (ret (false))
            (ret (true)))
           none)
          none))
        none)
       none)
      none)
     none))
   none)
def G6 (q : Qd) : Option (Bool) := T6 some q
theorem t6 (q : Qd) (r : Bool) (h : G6 q = some r) : Ends Try.prog Try.f6.results.toList [.code (bodyOf Try.f6)] (start Try.f6.ntmps ([qdF q].map .f)) (F.bool r) := by
  refine Ends.of_run tyOK envQ6_ok (T := []) (n := 200) ?_
  have e : run Try.prog (tiOf Try.prog) envQ6 [] 0 Try.f6.results.toList some 200 [.code (bodyOf Try.f6)] (start Try.f6.ntmps ([qdF q].map .f)) = T6 (fun r => some (.ret (F.bool r))) q := by kernel_rfl
  rw [e]
  exact (good_sel h (fun _ h => (good_sel h (fun _ h => good_ret (by cases h; rfl)) (fun _ h => (good_sel h (fun _ h => (good_sel h (fun _ h => (good_sel h (fun _ h => (good_sel h (fun _ h => (good_sel h (fun _ h => good_ret (by cases h; rfl)) (fun _ h => (good_sel h (fun _ h => (good_sel h (fun _ h => (good_sel h (fun _ h => good_ret (by cases h; rfl)) (fun _ h => good_ret (by cases h; rfl)))) (fun _ h => nomatch h))) (fun _ h => nomatch h))))) (fun _ h => nomatch h))) (fun _ h => nomatch h))) (fun _ h => nomatch h))) (fun _ h => nomatch h))))) (fun _ h => nomatch h))
def boundQd (q : Qd) : Bool := decide (q.items.length ≤ maxLen) && decide (q.blocks.length ≤ maxLen) && q.blocks.all fun b => decide (b.ids.length ≤ maxLen)
theorem maxLen_val : maxLen = 9223372036854775807 := by decide
theorem bound_iff {q : Qd} : boundQd q = true ↔ q.items.length ≤ 9223372036854775807 ∧ q.blocks.length ≤ 9223372036854775807 ∧ ∀ b ∈ q.blocks, b.ids.length ≤ 9223372036854775807 := by
  simp only [boundQd, Bool.and_eq_true, decide_eq_true_eq, List.all_eq_true, maxLen_val, and_assoc]
theorem quadOk_law (q : Qd) (h : boundQd q = true) : G6 q = some true := by
  obtain ⟨h1, h2, h3⟩ := bound_iff.1 h
  have c1 : longV q.blocks.length = true := decide_eq_true h2
  have e : resToQd [qdF q] = qdF (unQd (qdF q)) := rfl
  unfold G6 T6
  simp only [e, isQd_qdF, unQd_qdF, c1, Bool.and_true, bsel_true, Bool.true_and]
  by_cases hs : szQdV q 1048576 < 0
  · rw [decide_eq_true hs]; rfl
  · have h4 := szQd_short q h1 h2 h3 (by omega)
    have h5 : shortQdOk q = true := h4
    have h6 : allShortV q.blocks = true := by
      simp only [shortQd, Bool.and_eq_true] at h4
      exact h4.2
    rw [decide_eq_false hs]
    simp only [h5, h6, bsel_true, bsel_false, sameQd_refl, Bool.not_true]
    cases (treeV q).2 <;> rfl
def preLawQd : List F → Bool | [q] => isQd q && boundQd (unQd q) | _ => false
theorem okFnQuadOk : PureOK Try.prog 6 preLawQd (fun _ => .bool true) :=
  fn_pure_at (c := bodyOf Try.f6) Try.func6 (by kernel_rfl) (by kernel_rfl) fun xs hp => match xs, hp with
  | [q], hp => by
    simp only [preLawQd, Bool.and_eq_true] at hp
    exact ⟨[qdF (unQd q)], _, ⟨(qd_eqv hp.1).1, trivial⟩, t6 _ _ (quadOk_law _ hp.2), .refl _⟩

/-! The law's argument, read. -/
theorem fit_int {x : F} (h : fitC (.int .i64) x = true) : ∃ n, x = .int .i64 n := by
  cases x <;> simp_all [fitC]
theorem fit_bool {x : F} (h : fitC .bool x = true) : ∃ b, x = .bool b := by
  cases x <;> simp_all [fitC]
theorem fit_nil {fs : List F} (h : fitL [] fs = true) : fs = [] := by
  cases fs <;> simp_all [fitL]
theorem fit_cons {s : Sh} {l : List Sh} {fs : List F} (h : fitL (s :: l) fs = true) : ∃ x gs, fs = x :: gs ∧ fitC s x = true ∧ fitL l gs = true := by
  cases fs with
  | nil => simp [fitL] at h
  | cons x gs => simp only [fitL, Bool.and_eq_true] at h; exact ⟨x, gs, rfl, h.1, h.2⟩
theorem fit_sl {ag : Bool} {cs : List Sh} {x : F} (h : fitC (.sl ag cs) x = true) : ∃ n g, x = .sl n g ∧ n ≤ maxLen ∧ ∀ i, i < n → fitL cs (g i).cells = true ∧ isAggF (g i) = ag := by
  cases x with
  | sl n g =>
    simp only [fitC, Bool.and_eq_true, decide_eq_true_eq, List.all_eq_true, List.mem_range, beq_iff_eq] at h
    exact ⟨n, g, rfl, h.1, h.2⟩
  | _ => simp [fitC] at h
theorem agg_cells {x : F} (h : isAggF x = true) : x = .agg x.cells := by cases x <;> simp_all [isAggF, F.cells]
theorem fit_ints {x : F} (h : fitC (.sl false [.int .i64]) x = true) : isInts x = true ∧ (unInts x).length ≤ maxLen := by
  obtain ⟨n, g, rfl, h1, h2⟩ := fit_sl h
  refine ⟨?_, by rw [unInts, unSl_len]; exact h1⟩
  simp only [isInts, isSl, List.all_eq_true, List.mem_range]
  intro i hi
  obtain ⟨h3, h4⟩ := h2 i hi
  obtain ⟨y, gs, e, h5, _⟩ := fit_cons h3
  obtain ⟨m, rfl⟩ := fit_int h5
  cases hg : g i <;> rw [hg] at e h4 <;> simp_all [F.cells, isAggF, isI64]
def shIt : List Sh := [.int .i64, .int .i64, .int .i64, .int .i64, .int .i64]
theorem fit_its {x : F} (h : fitC (.sl true shIt) x = true) : isItems x = true ∧ (unItems x).length ≤ maxLen := by
  obtain ⟨n, g, rfl, h1, h2⟩ := fit_sl h
  refine ⟨?_, by rw [unItems, unSl_len]; exact h1⟩
  simp only [isItems, isSl, List.all_eq_true, List.mem_range]
  intro i hi
  obtain ⟨h3, h4⟩ := h2 i hi
  rw [agg_cells h4]
  obtain ⟨x1, r1, e, h5, h3⟩ := fit_cons h3
  obtain ⟨x2, r2, rfl, h6, h3⟩ := fit_cons h3
  obtain ⟨x3, r3, rfl, h7, h3⟩ := fit_cons h3
  obtain ⟨x4, r4, rfl, h8, h3⟩ := fit_cons h3
  obtain ⟨x5, r5, rfl, h9, h3⟩ := fit_cons h3
  obtain rfl := fit_nil h3
  obtain ⟨_, rfl⟩ := fit_int h5
  obtain ⟨_, rfl⟩ := fit_int h6
  obtain ⟨_, rfl⟩ := fit_int h7
  obtain ⟨_, rfl⟩ := fit_int h8
  obtain ⟨_, rfl⟩ := fit_int h9
  rw [e]; rfl
def shBk : List Sh := [.int .i64, .int .i64, .int .i64, .bool, .sl false [.int .i64]]
theorem fit_bks {x : F} (h : fitC (.sl true shBk) x = true) : isBlocks x = true ∧ (unBlocks x).length ≤ maxLen ∧ ∀ b ∈ unBlocks x, b.ids.length ≤ maxLen := by
  obtain ⟨n, g, rfl, h1, h2⟩ := fit_sl h
  have key : ∀ i, i < n → isBk (g i) = true ∧ (unBk (g i)).ids.length ≤ maxLen := by
    intro i hi
    obtain ⟨h3, h4⟩ := h2 i hi
    rw [agg_cells h4]
    obtain ⟨x1, r1, e, h5, h3⟩ := fit_cons h3
    obtain ⟨x2, r2, rfl, h6, h3⟩ := fit_cons h3
    obtain ⟨x3, r3, rfl, h7, h3⟩ := fit_cons h3
    obtain ⟨x4, r4, rfl, h8, h3⟩ := fit_cons h3
    obtain ⟨x5, r5, rfl, h9, h3⟩ := fit_cons h3
    obtain rfl := fit_nil h3
    obtain ⟨_, rfl⟩ := fit_int h5
    obtain ⟨_, rfl⟩ := fit_int h6
    obtain ⟨_, rfl⟩ := fit_int h7
    obtain ⟨_, rfl⟩ := fit_bool h8
    rw [e]
    exact fit_ints h9
  refine ⟨?_, by rw [unBlocks, unSl_len]; exact h1, ?_⟩
  · simp only [isBlocks, isSl, List.all_eq_true, List.mem_range]
    exact fun i hi => (key i hi).1
  · intro b hb
    simp only [unBlocks, unSl, List.mem_map, List.mem_range] at hb
    obtain ⟨i, hi, rfl⟩ := hb
    exact (key i hi).2
def shQd : List Sh := [.int .i64, .int .i64, .sl true shIt, .sl true shBk]
theorem fit_qd {fs : List F} (h : fitL shQd fs = true) : preLawQd [.agg fs] = true := by
  obtain ⟨x1, r1, rfl, h5, h3⟩ := fit_cons h
  obtain ⟨x2, r2, rfl, h6, h3⟩ := fit_cons h3
  obtain ⟨x3, r3, rfl, h7, h3⟩ := fit_cons h3
  obtain ⟨x4, r4, rfl, h8, h3⟩ := fit_cons h3
  obtain rfl := fit_nil h3
  obtain ⟨m1, rfl⟩ := fit_int h5
  obtain ⟨m2, rfl⟩ := fit_int h6
  obtain ⟨a1, a2⟩ := fit_its h7
  obtain ⟨b1, b2, b3⟩ := fit_bks h8
  have hb : boundQd ⟨m1, m2, unItems x3, unBlocks x4⟩ = true := by
    unfold boundQd
    rw [Bool.and_eq_true, Bool.and_eq_true]
    exact ⟨⟨decide_eq_true a2, decide_eq_true b2⟩, List.all_eq_true.2 fun b hb => decide_eq_true (b3 b hb)⟩
  simp only [preLawQd, isQd, unQd, a1, b1, Bool.and_self, Bool.true_and]
  exact hb
theorem open_qd {H : Type} {enc : TypeId × Value → H} {W : World} {base : Nat} {v : Value} {d : DataW H} {ps : List MemPlace} (hval : Value.okWide Try.prog W .any base 58 v) (h : DataW.Trod enc Try.prog W 0 (fun _ => true) true 58 v d ps) :
    ∃ x, preLawQd [x] = true ∧ RepF W (fun b => b < W.heap.size) x v := by
  obtain ⟨fs, h1, h2⟩ := open_structF (k := 6) (l := shQd) Try.underlying58 (by kernel_rfl) hval h
  exact ⟨_, fit_qd h1, h2⟩
end
end Go.Proofs.Ytjbilidfnfnpfaa.R
