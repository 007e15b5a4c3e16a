/-
  The walk of trees: copied, compared, counted, and the reference's QuadOk.
-/
import Derived.Test.YtjbilidfnfnpfaaQ5
namespace Go.Proofs.Ytjbilidfnfnpfaa.R
open Go
noncomputable section
set_option linter.unusedVariables false
set_option linter.unusedSimpArgs false
set_option maxRecDepth 100000
/-! ### function 26 -/
def T26 {ρ : Type} (ret : (Bool) → Option ρ) (a : Qd) (b : Qd) : Option ρ :=
  (bsel (a.most != b.most)
   (ret (false))
   (bsel (a.deep != b.deep)
    (ret (false))
    (bsel (isItems (itemsF a.items) && isItems (itemsF b.items) && shortItsV (unItems (itemsF a.items)))
     (bsel (!sameItsV (unItems (itemsF a.items)) (unItems (itemsF b.items)))
      (ret (false))
      (bsel (isBlocks (blocksF a.blocks) && isBlocks (blocksF b.blocks) && allShortV (unBlocks (blocksF a.blocks)))
       (bsel (!sameBksV (unBlocks (blocksF a.blocks)) (unBlocks (blocksF b.blocks)))
        (ret (false))
        (ret (true)))
       none))
     none)))
def G26 (a : Qd) (b : Qd) : Option (Bool) := T26 some a b
theorem t26 (a : Qd) (b : Qd) (r : Bool) (h : G26 a b = some r) : Ends Try.prog Try.f26.results.toList [.code (bodyOf Try.f26)] (start Try.f26.ntmps ([qdF a, qdF b].map .f)) (F.bool r) := by
  refine Ends.of_run tyOK envQ5_ok (T := []) (n := 200) ?_
  have e : run Try.prog (tiOf Try.prog) envQ5 [] 0 Try.f26.results.toList some 200 [.code (bodyOf Try.f26)] (start Try.f26.ntmps ([qdF a, qdF b].map .f)) = T26 (fun r => some (.ret (F.bool r))) a b := by kernel_rfl
  rw [e]
  exact (good_sel h (fun _ h => good_ret (by cases h; rfl)) (fun _ h => (good_sel h (fun _ h => good_ret (by cases h; rfl)) (fun _ h => (good_sel h (fun _ h => (good_sel h (fun _ h => good_ret (by cases h; rfl)) (fun _ h => (good_sel h (fun _ h => (good_sel h (fun _ h => good_ret (by cases h; rfl)) (fun _ h => good_ret (by cases h; rfl)))) (fun _ h => nomatch h))))) (fun _ h => nomatch h))))))
/-! ### function 34 -/
def T34 {ρ : Type} (ret : (Int) → Option ρ) (a : Qd) (lf : Int) : Option ρ :=
  (bsel (isItems (itemsF a.items))
   (bsel (decide (leftV (unItems (itemsF a.items)).length lf < 0))
    (ret (-1))
    (bsel (isBlocks (blocksF a.blocks) && longV (unBlocks (blocksF a.blocks)).length)
     (bsel (decide (szBksV (unBlocks (blocksF a.blocks)) (leftV (unItems (itemsF a.items)).length lf) < 0))
      (ret (-1))
      (ret (szBksV (unBlocks (blocksF a.blocks)) (leftV (unItems (itemsF a.items)).length lf))))
     none))
   none)
def G34 (a : Qd) (lf : Int) : Option (Int) := T34 some a lf
theorem t34 (a : Qd) (lf : Int) (r : Int) (h : G34 a lf = some r) : Ends Try.prog Try.f34.results.toList [.code (bodyOf Try.f34)] (start Try.f34.ntmps ([qdF a, F.int .i64 lf].map .f)) (F.int .i64 r) := by
  refine Ends.of_run tyOK envQ5_ok (T := []) (n := 200) ?_
  have e : run Try.prog (tiOf Try.prog) envQ5 [] 0 Try.f34.results.toList some 200 [.code (bodyOf Try.f34)] (start Try.f34.ntmps ([qdF a, F.int .i64 lf].map .f)) = T34 (fun r => some (.ret (F.int .i64 r))) a lf := by kernel_rfl
  rw [e]
  exact (good_sel h (fun _ h => (good_sel h (fun _ h => good_ret (by cases h; rfl)) (fun _ h => (good_sel h (fun _ h => (good_sel h (fun _ h => good_ret (by cases h; rfl)) (fun _ h => good_ret (by cases h; rfl)))) (fun _ h => nomatch h))))) (fun _ h => nomatch h))
/-! ### function 36 -/
def T36 {ρ : Type} (ret : (F) → Option ρ) (a : Qd) : Option ρ :=
  (bsel (isItems (itemsF a.items) && shortItsV (unItems (itemsF a.items)))
   (bsel (isBlocks (blocksF a.blocks) && allShortV (unBlocks (blocksF a.blocks)))
    (ret (F.agg [F.int IntKind.i64 a.most, F.int IntKind.i64 a.deep, itemsF (unItems (itemsF a.items)), blocksF (unBlocks (blocksF a.blocks))]))
    none)
   none)
def G36 (a : Qd) : Option (F) := T36 some a
theorem t36 (a : Qd) (r : F) (h : G36 a = some r) : Ends Try.prog Try.f36.results.toList [.code (bodyOf Try.f36)] (start Try.f36.ntmps ([qdF a].map .f)) (r) := by
  refine Ends.of_run tyOK envQ5_ok (T := []) (n := 200) ?_
  have e : run Try.prog (tiOf Try.prog) envQ5 [] 0 Try.f36.results.toList some 200 [.code (bodyOf Try.f36)] (start Try.f36.ntmps ([qdF a].map .f)) = T36 (fun r => some (.ret (r))) a := by kernel_rfl
  rw [e]
  exact (good_sel h (fun _ h => (good_sel h (fun _ h => good_ret (by cases h; rfl)) (fun _ h => nomatch h))) (fun _ h => nomatch h))
/-! ### function 35 -/
def T35 {ρ : Type} (ret : (Bool) → Option ρ) (q : Qd) : Option ρ :=
  (bsel (isQd (qdF q) && allShortV (unQd (qdF q)).blocks)
   (ret ((treeV (unQd (qdF q))).snd))
   none)
def G35 (q : Qd) : Option (Bool) := T35 some q
theorem t35 (q : Qd) (r : Bool) (h : G35 q = some r) : Ends Try.prog Try.f35.results.toList [.code (bodyOf Try.f35)] (start Try.f35.ntmps ([qdF q].map .f)) (F.bool r) := by
  refine Ends.of_run tyOK envQ5_ok (T := []) (n := 200) ?_
  have e : run Try.prog (tiOf Try.prog) envQ5 [] 0 Try.f35.results.toList some 200 [.code (bodyOf Try.f35)] (start Try.f35.ntmps ([qdF q].map .f)) = T35 (fun r => some (.ret (F.bool r))) q := by kernel_rfl
  rw [e]
  exact (good_sel h (fun _ h => good_ret (by cases h; rfl)) (fun _ h => nomatch h))
def sameQdV (a b : Qd) : Bool := a.most == b.most && a.deep == b.deep && sameItsV a.items b.items && sameBksV a.blocks b.blocks
def shortQd (q : Qd) : Bool := shortItsV q.items && allShortV q.blocks
def shortQdOk (q : Qd) : Bool := shortQd q
def preEqQd : List F → Bool | [a, b] => isQd a && isQd b && shortQdOk (unQd a) | _ => false
def resEqQd : List F → F | [a, b] => .bool (sameQdV (unQd a) (unQd b)) | _ => .dflt
theorem eqQd_law (a b : Qd) (h : shortQd a = true) : G26 a b = some (sameQdV a b) := by
  simp only [shortQd, Bool.and_eq_true] at h
  unfold G26 T26 sameQdV
  simp only [isItems_itemsF, unItems_itemsF, isBlocks_blocksF, unBlocks_blocksF, h.1, h.2, bne, Bool.and_true, bsel_true]
  cases (a.most == b.most) <;> cases (a.deep == b.deep) <;> cases sameItsV a.items b.items <;> cases sameBksV a.blocks b.blocks <;> rfl
theorem okEqQd : PureOK Try.prog 26 preEqQd resEqQd :=
  fn_pure_at (c := bodyOf Try.f26) Try.func26 (by kernel_rfl) (by kernel_rfl) fun xs hp => match xs, hp with
  | [a, b], hp => by
    simp only [preEqQd, Bool.and_eq_true] at hp
    exact ⟨[qdF (unQd a), qdF (unQd b)], _, ⟨(qd_eqv hp.1.1).1, (qd_eqv hp.1.2).1, trivial⟩, t26 _ _ _ (eqQd_law _ _ hp.2), .refl _⟩
def szQdV (q : Qd) (lf : Int) : Int := bif decide (leftV q.items.length lf < 0) then -1 else bif decide (szBksV q.blocks (leftV q.items.length lf) < 0) then -1 else szBksV q.blocks (leftV q.items.length lf)
def preSzQd : List F → Bool | [a, .int .i64 _] => isQd a && longV (unQd a).blocks.length | _ => false
def resSzQd : List F → F | [a, .int .i64 k] => .int .i64 (szQdV (unQd a) k) | _ => .dflt
theorem szQd_law (a : Qd) (lf : Int) (h : longV a.blocks.length = true) : G34 a lf = some (szQdV a lf) := by
  unfold G34 T34 szQdV
  simp only [isItems_itemsF, unItems_itemsF, isBlocks_blocksF, unBlocks_blocksF, h, Bool.and_true, bsel_true]
  cases decide (leftV a.items.length lf < 0) with
  | true => rfl
  | false => cases decide (szBksV a.blocks (leftV a.items.length lf) < 0) <;> rfl
theorem okSzQd : PureOK Try.prog 34 preSzQd resSzQd :=
  fn_pure_at (c := bodyOf Try.f34) Try.func34 (by kernel_rfl) (by kernel_rfl) fun xs hp => match xs, hp with
  | [a, .int .i64 k], hp => by
    simp only [preSzQd, Bool.and_eq_true] at hp
    exact ⟨[qdF (unQd a), .int .i64 k], _, ⟨(qd_eqv hp.1).1, .refl _, trivial⟩, t34 _ _ _ (szQd_law _ _ hp.2), .refl _⟩
def preToQd : List F → Bool | [a] => isQd a && shortQdOk (unQd a) | _ => false
def resToQd : List F → F | [a] => qdF (unQd a) | _ => .dflt
theorem okToQd : PureOK Try.prog 36 preToQd resToQd :=
  fn_pure_at (c := bodyOf Try.f36) Try.func36 (by kernel_rfl) (by kernel_rfl) fun xs hp => match xs, hp with
  | [a], hp => by
    simp only [preToQd, Bool.and_eq_true] at hp
    have h := hp.2
    simp only [shortQdOk, shortQd, Bool.and_eq_true] at h
    exact ⟨[qdF (unQd a)], _, ⟨(qd_eqv hp.1).1, trivial⟩, t36 _ (qdF (unQd a)) (by
      unfold G36 T36
      simp only [isItems_itemsF, unItems_itemsF, isBlocks_blocksF, unBlocks_blocksF, h.1, h.2, Bool.and_true, bsel_true]
      rfl), .refl _⟩
theorem okQuadOkS : PureOK Try.prog 35 preTree resOk :=
  fn_pure_at (c := bodyOf Try.f35) Try.func35 (by kernel_rfl) (by kernel_rfl) fun xs hp => match xs, hp with
  | [q], hp => by
    simp only [preTree, Bool.and_eq_true] at hp
    have h : allShortV (unQd q).blocks = true := hp.2
    exact ⟨[qdF (unQd q)], _, ⟨(qd_eqv hp.1).1, trivial⟩, t35 _ (treeV (unQd q)).2 (by
      unfold G35 T35
      simp only [isQd_qdF, unQd_qdF, h, Bool.and_true, bsel_true]), .refl _⟩

/-! What the law's own count of sizes tells. -/
theorem left_val {n : Nat} {k : Int} (hk : 0 ≤ k ∧ k ≤ 1048576) (hn : n ≤ 9223372036854775807) : leftV n k = if (n : Int) ≤ k then k - n else -1 := by
  unfold leftV
  rw [wrapi (x := k - n) (by omega) (by omega)]
  by_cases h : (n : Int) ≤ k
  · rw [if_pos h, decide_eq_false (by omega)]; rfl
  · rw [if_neg h, decide_eq_true (by omega)]; rfl
theorem szIds_short : ∀ (l : List Bk) (k : Int), 0 ≤ k → k ≤ 1048576 → (∀ b ∈ l, b.ids.length ≤ 9223372036854775807) → 0 ≤ szIdsV l k → ∀ b ∈ l, b.ids.length ≤ 1048576
  | [], k, h0, h1, hl, h, b, hb => by cases hb
  | a :: l, k, h0, h1, hl, h, b, hb => by
    rw [szIdsV, left_val ⟨h0, h1⟩ (hl a (by simp))] at h
    by_cases hc : (a.ids.length : Int) ≤ k
    · rw [if_pos hc, decide_eq_false (by omega), cond_false] at h
      rcases List.mem_cons.1 hb with rfl | hb
      · omega
      · exact szIds_short l _ (by omega) (by omega) (fun b hb => hl b (by simp [hb])) h b hb
    · rw [if_neg hc] at h
      simp at h
theorem szQd_short (q : Qd) (h1 : q.items.length ≤ 9223372036854775807) (h2 : q.blocks.length ≤ 9223372036854775807) (h3 : ∀ b ∈ q.blocks, b.ids.length ≤ 9223372036854775807) (h : 0 ≤ szQdV q 1048576) : shortQd q = true := by
  unfold szQdV szBksV at h
  rw [left_val ⟨by omega, by omega⟩ h1] at h
  by_cases c1 : (q.items.length : Int) ≤ 1048576
  · rw [if_pos c1, decide_eq_false (by omega), cond_false, left_val ⟨by omega, by omega⟩ h2] at h
    by_cases c2 : (q.blocks.length : Int) ≤ 1048576 - q.items.length
    · rw [if_pos c2, decide_eq_false (show ¬ 1048576 - (q.items.length : Int) - (q.blocks.length : Int) < 0 by omega), cond_false] at h
      have h4 : 0 ≤ szIdsV q.blocks (1048576 - q.items.length - q.blocks.length) := by
        by_cases h5 : szIdsV q.blocks (1048576 - q.items.length - q.blocks.length) < 0
        · rw [decide_eq_true h5] at h; simp at h
        · omega
      have h6 := szIds_short q.blocks _ (by omega) (by omega) h3 h4
      simp only [shortQd, shortItsV, Bool.and_eq_true, decide_eq_true_eq]
      exact ⟨by omega, allShort_iff.2 ⟨by omega, fun b hb => decide_eq_true (h6 b hb)⟩⟩
    · rw [if_neg c2] at h; simp at h
  · rw [if_neg c1] at h; simp at h
theorem sameInts_refl (a : List Int) : sameV a a = true := by simp [sameV]
theorem sameIts_refl : ∀ a : List It, sameItsV a a = true
  | [] => rfl
  | t :: a => by simp [sameItsV, sameItV, sameSegV, sameSpotV, sameIts_refl a]
theorem sameBks_refl : ∀ a : List Bk, sameBksV a a = true
  | [] => rfl
  | t :: a => by simp [sameBksV, sameBkV, sameV, sameBks_refl a]
theorem sameQd_refl (q : Qd) : sameQdV q q = true := by simp [sameQdV, sameIts_refl, sameBks_refl]
def envQ6 : Env := (((envQ5.add 26 (.pure preEqQd resEqQd)).add 34 (.pure preSzQd resSzQd)).add 36 (.pure preToQd resToQd)).add 35 (.pure preTree resOk)
theorem envQ6_ok : EnvOK Try.prog envQ6 := Env.add_ok (Env.add_ok (Env.add_ok (Env.add_ok envQ5_ok okEqQd.sp) okSzQd.sp) okToQd.sp) okQuadOkS.sp
end
end Go.Proofs.Ytjbilidfnfnpfaa.R
