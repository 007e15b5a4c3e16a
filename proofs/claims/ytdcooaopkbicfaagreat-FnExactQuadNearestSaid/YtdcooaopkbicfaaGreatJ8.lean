/-
  The own walk and what it shows, part 8 of 8.
-/
import Derived.Test.YtdcooaopkbicfaaGreatJ1
import Derived.Test.YtdcooaopkbicfaaGreatJ2
import Derived.Test.YtdcooaopkbicfaaGreatJ3
import Derived.Test.YtdcooaopkbicfaaGreatJ4
import Derived.Test.YtdcooaopkbicfaaGreatJ5
import Derived.Test.YtdcooaopkbicfaaGreatJ6
import Derived.Test.YtdcooaopkbicfaaGreatJ7
set_option linter.unusedVariables false
set_option linter.unusedSimpArgs false
set_option maxRecDepth 100000
set_option exponentiation.threshold 30000
namespace Go.Proofs.YtdcooaopkbicfaaGreat.R
open Go Go.ChangeShapes Go.WideShapes Go.RowKit
noncomputable section
def boundQd (q : Qd) : Bool := decide (q.items.length ≤ maxLen) && decide (q.blocks.length ≤ maxLen) && q.blocks.all fun b => decide (b.ids.length ≤ maxLen)
theorem maxLen_val : maxLen = 9223372036854775807 := by decide
theorem bound_iff {q : Qd} : boundQd q = true ↔ q.items.length ≤ 9223372036854775807 ∧ q.blocks.length ≤ 9223372036854775807 ∧ ∀ b ∈ q.blocks, b.ids.length ≤ 9223372036854775807 := by
  simp only [boundQd, Bool.and_eq_true, decide_eq_true_eq, List.all_eq_true, maxLen_val, and_assoc]
def preLawQd : List F → Bool | [q] => isQd q && boundQd (unQd q) | _ => false
/-! The law's argument, read. -/
theorem fit_ints {x : F} (h : fitC (.sl false [.int .i64]) x = true) : isInts x = true ∧ (unInts x).length ≤ maxLen := by
  obtain ⟨n, g, rfl, h1, h2⟩ := fit_sl h
  refine ⟨?_, by rw [unInts, unSl_len]; exact h1⟩
  simp only [isInts, isSl, List.all_eq_true, List.mem_range]
  intro i hi
  obtain ⟨h3, h4⟩ := h2 i hi
  obtain ⟨y, gs, e, h5, _⟩ := fit_cons h3
  obtain ⟨m, rfl⟩ := fit_int h5
  cases hg : g i <;> rw [hg] at e h4 <;> simp_all [F.cells, isAggF, isI64F]
def shIt : List Sh := [.int .i64, .int .i64, .int .i64, .int .i64, .int .i64]
theorem fit_its {x : F} (h : fitC (.sl true shIt) x = true) : isItems x = true ∧ (unItems x).length ≤ maxLen := by
  obtain ⟨n, g, rfl, h1, h2⟩ := fit_sl h
  refine ⟨?_, by rw [unItems, unSl_len]; exact h1⟩
  simp only [isItems, isSl, List.all_eq_true, List.mem_range]
  intro i hi
  obtain ⟨h3, h4⟩ := h2 i hi
  rw [agg_cells h4]
  obtain ⟨x1, r1, e, h5, h3⟩ := fit_cons h3
  obtain ⟨x2, r2, rfl, h6, h3⟩ := fit_cons h3
  obtain ⟨x3, r3, rfl, h7, h3⟩ := fit_cons h3
  obtain ⟨x4, r4, rfl, h8, h3⟩ := fit_cons h3
  obtain ⟨x5, r5, rfl, h9, h3⟩ := fit_cons h3
  obtain rfl := fit_nil h3
  obtain ⟨_, rfl⟩ := fit_int h5
  obtain ⟨_, rfl⟩ := fit_int h6
  obtain ⟨_, rfl⟩ := fit_int h7
  obtain ⟨_, rfl⟩ := fit_int h8
  obtain ⟨_, rfl⟩ := fit_int h9
  rw [e]; rfl
def shBk : List Sh := [.int .i64, .int .i64, .int .i64, .bool, .sl false [.int .i64]]
theorem fit_bks {x : F} (h : fitC (.sl true shBk) x = true) : isBlocks x = true ∧ (unBlocks x).length ≤ maxLen ∧ ∀ b ∈ unBlocks x, b.ids.length ≤ maxLen := by
  obtain ⟨n, g, rfl, h1, h2⟩ := fit_sl h
  have key : ∀ i, i < n → isBk (g i) = true ∧ (unBk (g i)).ids.length ≤ maxLen := by
    intro i hi
    obtain ⟨h3, h4⟩ := h2 i hi
    rw [agg_cells h4]
    obtain ⟨x1, r1, e, h5, h3⟩ := fit_cons h3
    obtain ⟨x2, r2, rfl, h6, h3⟩ := fit_cons h3
    obtain ⟨x3, r3, rfl, h7, h3⟩ := fit_cons h3
    obtain ⟨x4, r4, rfl, h8, h3⟩ := fit_cons h3
    obtain ⟨x5, r5, rfl, h9, h3⟩ := fit_cons h3
    obtain rfl := fit_nil h3
    obtain ⟨_, rfl⟩ := fit_int h5
    obtain ⟨_, rfl⟩ := fit_int h6
    obtain ⟨_, rfl⟩ := fit_int h7
    obtain ⟨_, rfl⟩ := fit_bool h8
    rw [e]
    exact fit_ints h9
  refine ⟨?_, by rw [unBlocks, unSl_len]; exact h1, ?_⟩
  · simp only [isBlocks, isSl, List.all_eq_true, List.mem_range]
    exact fun i hi => (key i hi).1
  · intro b hb
    simp only [unBlocks, unSl, List.mem_map, List.mem_range] at hb
    obtain ⟨i, hi, rfl⟩ := hb
    exact (key i hi).2
def shQd : List Sh := [.int .i64, .int .i64, .sl true shIt, .sl true shBk]
theorem fit_qd {fs : List F} (h : fitL shQd fs = true) : preLawQd [.agg fs] = true := by
  obtain ⟨x1, r1, rfl, h5, h3⟩ := fit_cons h
  obtain ⟨x2, r2, rfl, h6, h3⟩ := fit_cons h3
  obtain ⟨x3, r3, rfl, h7, h3⟩ := fit_cons h3
  obtain ⟨x4, r4, rfl, h8, h3⟩ := fit_cons h3
  obtain rfl := fit_nil h3
  obtain ⟨m1, rfl⟩ := fit_int h5
  obtain ⟨m2, rfl⟩ := fit_int h6
  obtain ⟨a1, a2⟩ := fit_its h7
  obtain ⟨b1, b2, b3⟩ := fit_bks h8
  have hb : boundQd ⟨m1, m2, unItems x3, unBlocks x4⟩ = true := by
    unfold boundQd
    rw [Bool.and_eq_true, Bool.and_eq_true]
    exact ⟨⟨decide_eq_true a2, decide_eq_true b2⟩, List.all_eq_true.2 fun b hb => decide_eq_true (b3 b hb)⟩
  simp only [preLawQd, isQd, unQd, a1, b1, Bool.and_self, Bool.true_and]
  exact hb
theorem open_qd {H : Type} {enc : TypeId × Value → H} {W : World} {base : Nat} {v : Value} {d : DataW H} {ps : List MemPlace} (hval : Value.okWide Tryz.prog W .any base 25 v) (h : DataW.Trod enc Tryz.prog W 0 (fun _ => true) true 25 v d ps) :
    ∃ x, preLawQd [x] = true ∧ RepF W (fun b => b < W.heap.size) x v := by
  obtain ⟨fs, h1, h2⟩ := open_structF (k := 6) (l := shQd) Tryz.underlying25 (by kernel_rfl) hval h
  exact ⟨_, fit_qd h1, h2⟩
end
end Go.Proofs.YtdcooaopkbicfaaGreat.R
namespace Go.Proofs.YtdcooaopkbicfaaGreat.R
open Go Go.ChangeShapes Go.WideShapes Go.RowKit
noncomputable section
/-! ### function 3 -/
def T3 {ρ : Type} (ret : (Bool) → Option ρ) (q : Qd) (px : Int) (py : Int) : Option ρ :=
 (bsel (isQd (qdF q) && longV (unQd (qdF q)).blocks.length)
 (bsel (decide (szQdV (unQd (qdF q)) 1048576 < 0))
 (ret (true))
 (bsel (isQd (qdF q) && shortQdOk (unQd (qdF q)))
 (bsel (isQd (resToQd [qdF q]) && allShortV (unQd (resToQd [qdF q])).blocks)
 (bsel (isQd (qdF q) && shortQdOk (unQd (qdF q)))
 (bsel (isQd (qdF (unQd (qdF q))) && allShortV (unQd (qdF (unQd (qdF q)))).blocks)
 (bsel ((qnI (unQd (qdF (unQd (qdF q)))) px py != qnI (unQd (resToQd [qdF q])) px py) == false)
 (bsel ((!(sameWV (bif okT (qnU (unQd (qdF (unQd (qdF q)))) px py) (qnD (unQd (qdF (unQd (qdF q)))) px py) then wd3 (qnU (unQd (qdF (unQd (qdF q)))) px py) else 0) (bif okT (qnU (unQd (qdF (unQd (qdF q)))) px py) (qnD (unQd (qdF (unQd (qdF q)))) px py) then wd2 (qnU (unQd (qdF (unQd (qdF q)))) px py) else 0) (bif okT (qnU (unQd (qdF (unQd (qdF q)))) px py) (qnD (unQd (qdF (unQd (qdF q)))) px py) then wd1 (qnU (unQd (qdF (unQd (qdF q)))) px py) else 0) (bif okT (qnU (unQd (qdF (unQd (qdF q)))) px py) (qnD (unQd (qdF (unQd (qdF q)))) px py) then wd0 (qnU (unQd (qdF (unQd (qdF q)))) px py) else 0) (bif okT (qnU (unQd (resToQd [qdF q])) px py) (qnD (unQd (resToQd [qdF q])) px py) then wd3 (qnU (unQd (resToQd [qdF q])) px py) else 0) (bif okT (qnU (unQd (resToQd [qdF q])) px py) (qnD (unQd (resToQd [qdF q])) px py) then wd2 (qnU (unQd (resToQd [qdF q])) px py) else 0) (bif okT (qnU (unQd (resToQd [qdF q])) px py) (qnD (unQd (resToQd [qdF q])) px py) then wd1 (qnU (unQd (resToQd [qdF q])) px py) else 0) (bif okT (qnU (unQd (resToQd [qdF q])) px py) (qnD (unQd (resToQd [qdF q])) px py) then wd0 (qnU (unQd (resToQd [qdF q])) px py) else 0) && sameWV (bif okT (qnU (unQd (qdF (unQd (qdF q)))) px py) (qnD (unQd (qdF (unQd (qdF q)))) px py) then wd3 (qnD (unQd (qdF (unQd (qdF q)))) px py) else 0) (bif okT (qnU (unQd (qdF (unQd (qdF q)))) px py) (qnD (unQd (qdF (unQd (qdF q)))) px py) then wd2 (qnD (unQd (qdF (unQd (qdF q)))) px py) else 0) (bif okT (qnU (unQd (qdF (unQd (qdF q)))) px py) (qnD (unQd (qdF (unQd (qdF q)))) px py) then wd1 (qnD (unQd (qdF (unQd (qdF q)))) px py) else 0) (bif okT (qnU (unQd (qdF (unQd (qdF q)))) px py) (qnD (unQd (qdF (unQd (qdF q)))) px py) then wd0 (qnD (unQd (qdF (unQd (qdF q)))) px py) else 0) (bif okT (qnU (unQd (resToQd [qdF q])) px py) (qnD (unQd (resToQd [qdF q])) px py) then wd3 (qnD (unQd (resToQd [qdF q])) px py) else 0) (bif okT (qnU (unQd (resToQd [qdF q])) px py) (qnD (unQd (resToQd [qdF q])) px py) then wd2 (qnD (unQd (resToQd [qdF q])) px py) else 0) (bif okT (qnU (unQd (resToQd [qdF q])) px py) (qnD (unQd (resToQd [qdF q])) px py) then wd1 (qnD (unQd (resToQd [qdF q])) px py) else 0) (bif okT (qnU (unQd (resToQd [qdF q])) px py) (qnD (unQd (resToQd [qdF q])) px py) then wd0 (qnD (unQd (resToQd [qdF q])) px py) else 0))) == false)
 (bsel (!qnOk (unQd (qdF (unQd (qdF q)))) px py == qnOk (unQd (resToQd [qdF q])) px py)
 (ret (false))
 (bsel (isQd (qdF q) && shortQdOk (unQd (qdF q)))
 (bsel (isQd (qdF (unQd (qdF q))) && isQd (resToQd [qdF q]) && shortQdOk (unQd (qdF (unQd (qdF q)))))
 (bsel (!sameQdV (unQd (qdF (unQd (qdF q)))) (unQd (resToQd [qdF q])))
 (ret (false))
 (ret (true)))
 none)
 none))
 (ret (false)))
 (ret (false)))
 none)
 none)
 none)
 none))
 none)
def G3 (q : Qd) (px : Int) (py : Int) : Option (Bool) := T3 some q px py
theorem t3 (q : Qd) (px : Int) (py : Int) (r : Bool) (h : G3 q px py = some r) : Ends Tryz.prog Tryz.f3.results.toList [.code (bodyOf Tryz.f3)] (start Tryz.f3.ntmps ([qdF q, F.agg [F.int .i64 px, F.int .i64 py]].map .f)) (F.bool r) := by
  refine Ends.of_run tyOK envP2_ok (T := []) (n := 200) ?_
  have e : run Tryz.prog (tiOf Tryz.prog) envP2 [] 0 Tryz.f3.results.toList some 200 [.code (bodyOf Tryz.f3)] (start Tryz.f3.ntmps ([qdF q, F.agg [F.int .i64 px, F.int .i64 py]].map .f)) = T3 (fun r => some (.ret (F.bool r))) q px py := by kernel_rfl
  rw [e]
  exact (good_sel h (fun _ h => (good_sel h (fun _ h => good_ret (by cases h; rfl)) (fun _ h => (good_sel h (fun _ h => (good_sel h (fun _ h => (good_sel h (fun _ h => (good_sel h (fun _ h => (good_sel h (fun _ h => (good_sel h (fun _ h => (good_sel h (fun _ h => good_ret (by cases h; rfl)) (fun _ h => (good_sel h (fun _ h => (good_sel h (fun _ h => (good_sel h (fun _ h => good_ret (by cases h; rfl)) (fun _ h => good_ret (by cases h; rfl)))) (fun _ h => nomatch h))) (fun _ h => nomatch h))))) (fun _ h => good_ret (by cases h; rfl)))) (fun _ h => good_ret (by cases h; rfl)))) (fun _ h => nomatch h))) (fun _ h => nomatch h))) (fun _ h => nomatch h))) (fun _ h => nomatch h))))) (fun _ h => nomatch h))
theorem quadNearest_law (q : Qd) (px py : Int) (h : boundQd q = true) : G3 q px py = some true := by
  obtain ⟨h1, h2, h3⟩ := bound_iff.1 h
  have c1 : longV q.blocks.length = true := decide_eq_true h2
  have e : resToQd [qdF q] = qdF (unQd (qdF q)) := rfl
  unfold G3 T3
  simp only [e, isQd_qdF, unQd_qdF, c1, Bool.and_true, bsel_true, Bool.true_and]
  by_cases hs : szQdV q 1048576 < 0
  · rw [decide_eq_true hs]; rfl
  · have h4 := szQd_short q h1 h2 h3 (by omega)
    have h5 : shortQdOk q = true := h4
    have h6 : allShortV q.blocks = true := by
      simp only [shortQd, Bool.and_eq_true] at h4
      exact h4.2
    rw [decide_eq_false hs]
    simp only [h5, h6, bsel_true, bsel_false, sameQd_refl, sameWV_refl, Bool.and_self, Bool.not_true, bne_self_eq_false, beq_self_eq_true]
    try rfl
def preLawQN : List F → Bool | [q, .agg [.int .i64 _, .int .i64 _]] => isQd q && boundQd (unQd q) | _ => false
theorem okFnQuadNearest : PureOK Tryz.prog 3 preLawQN (fun _ => .bool true) :=
  fn_pure_at (c := bodyOf Tryz.f3) Tryz.func3 (by kernel_rfl) (by kernel_rfl) fun xs hp => match xs, hp with
  | [q, .agg [.int .i64 a, .int .i64 b]], hp => by
    simp only [preLawQN, Bool.and_eq_true] at hp
    exact ⟨[qdF (unQd q), _], _, ⟨(qd_eqv hp.1).1, .refl _, trivial⟩, t3 _ _ _ _ (quadNearest_law _ a b hp.2), .refl _⟩
def isSpot : F → Bool | .agg [.int .i64 _, .int .i64 _] => true | _ => false
theorem preLawQN_of {x0 x1 : F} (h0 : preLawQd [x0] = true) (h1 : isSpot x1 = true) : preLawQN [x0, x1] = true := by
  unfold isSpot at h1
  split at h1
  · exact h0
  · cases h1
theorem fit_spot {fs : List F} (h : fitL [.int .i64, .int .i64] fs = true) : isSpot (.agg fs) = true := by
  obtain ⟨x1, r1, rfl, h5, h3⟩ := fit_cons h
  obtain ⟨x2, r2, rfl, h6, h3⟩ := fit_cons h3
  obtain rfl := fit_nil h3
  obtain ⟨_, rfl⟩ := fit_int h5
  obtain ⟨_, rfl⟩ := fit_int h6
  rfl
theorem open_spot {H : Type} {enc : TypeId × Value → H} {W : World} {base : Nat} {v : Value} {d : DataW H} {ps : List MemPlace} (hval : Value.okWide Tryz.prog W .any base 27 v) (h : DataW.Trod enc Tryz.prog W 0 (fun _ => true) true 27 v d ps) :
    ∃ x, isSpot x = true ∧ RepF W (fun b => b < W.heap.size) x v := by
  obtain ⟨fs, h1, h2⟩ := open_structF (k := 6) (l := [.int .i64, .int .i64]) Tryz.underlying27 (by kernel_rfl) hval h
  exact ⟨_, fit_spot h1, h2⟩
end
end Go.Proofs.YtdcooaopkbicfaaGreat.R
