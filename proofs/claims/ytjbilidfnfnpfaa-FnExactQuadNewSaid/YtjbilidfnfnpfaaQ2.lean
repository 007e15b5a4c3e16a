/-
  The walk of trees: blocks, segments and kids.
-/
import Derived.Test.YtjbilidfnfnpfaaQ1
namespace Go.Proofs.Ytjbilidfnfnpfaa.R
open Go
noncomputable section
set_option linter.unusedVariables false
set_option linter.unusedSimpArgs false
set_option maxRecDepth 100000
/-! ### function 57 -/
def T57 {ρ : Type} (ret : (Bool) → Option ρ) (a : Sg) (b : Sg) : Option ρ :=
  (bsel (!sameSpotV a.x0 a.y0 b.x0 b.y0)
   (ret (false))
   (bsel (!sameSpotV a.x1 a.y1 b.x1 b.y1)
    (ret (false))
    (ret (true))))
def G57 (a : Sg) (b : Sg) : Option (Bool) := T57 some a b
theorem t57 (a : Sg) (b : Sg) (r : Bool) (h : G57 a b = some r) : Ends Try.prog Try.f57.results.toList [.code (bodyOf Try.f57)] (start Try.f57.ntmps ([sgF a, sgF b].map .f)) (F.bool r) := by
  refine Ends.of_run tyOK envQ1_ok (T := []) (n := 200) ?_
  have e : run Try.prog (tiOf Try.prog) envQ1 [] 0 Try.f57.results.toList some 200 [.code (bodyOf Try.f57)] (start Try.f57.ntmps ([sgF a, sgF b].map .f)) = T57 (fun r => some (.ret (F.bool r))) a b := by kernel_rfl
  rw [e]
  exact (good_sel h (fun _ h => good_ret (by cases h; rfl)) (fun _ h => (good_sel h (fun _ h => good_ret (by cases h; rfl)) (fun _ h => good_ret (by cases h; rfl)))))
/-! ### function 108 -/
def T108 {ρ : Type} (ret : (Bool) → Option ρ) (a : Bk) (b : Bk) : Option ρ :=
  (bsel (a.x != b.x)
   (ret (false))
   (bsel (a.y != b.y)
    (ret (false))
    (bsel (a.size != b.size)
     (ret (false))
     (bsel (!a.split == b.split)
      (ret (false))
      (bsel (isInts (intsF a.ids) && isInts (intsF b.ids) && shortV (unInts (intsF a.ids)))
       (bsel (!sameV (unInts (intsF a.ids)) (unInts (intsF b.ids)))
        (ret (false))
        (ret (true)))
       none)))))
def G108 (a : Bk) (b : Bk) : Option (Bool) := T108 some a b
theorem t108 (a : Bk) (b : Bk) (r : Bool) (h : G108 a b = some r) : Ends Try.prog Try.f108.results.toList [.code (bodyOf Try.f108)] (start Try.f108.ntmps ([bkF a, bkF b].map .f)) (F.bool r) := by
  refine Ends.of_run tyOK envQ1_ok (T := []) (n := 200) ?_
  have e : run Try.prog (tiOf Try.prog) envQ1 [] 0 Try.f108.results.toList some 200 [.code (bodyOf Try.f108)] (start Try.f108.ntmps ([bkF a, bkF b].map .f)) = T108 (fun r => some (.ret (F.bool r))) a b := by kernel_rfl
  rw [e]
  exact (good_sel h (fun _ h => good_ret (by cases h; rfl)) (fun _ h => (good_sel h (fun _ h => good_ret (by cases h; rfl)) (fun _ h => (good_sel h (fun _ h => good_ret (by cases h; rfl)) (fun _ h => (good_sel h (fun _ h => good_ret (by cases h; rfl)) (fun _ h => (good_sel h (fun _ h => (good_sel h (fun _ h => good_ret (by cases h; rfl)) (fun _ h => good_ret (by cases h; rfl)))) (fun _ h => nomatch h))))))))))
/-! ### function 113 -/
def T113 {ρ : Type} (ret : (Int) → Option ρ) (a : Bk) (k : Int) : Option ρ :=
  (bsel (isInts (intsF a.ids))
   (bsel (decide (leftV (unInts (intsF a.ids)).length k < 0))
    (ret (-1))
    (ret (leftV (unInts (intsF a.ids)).length k)))
   none)
def G113 (a : Bk) (k : Int) : Option (Int) := T113 some a k
theorem t113 (a : Bk) (k : Int) (r : Int) (h : G113 a k = some r) : Ends Try.prog Try.f113.results.toList [.code (bodyOf Try.f113)] (start Try.f113.ntmps ([bkF a, F.int .i64 k].map .f)) (F.int .i64 r) := by
  refine Ends.of_run tyOK envQ1_ok (T := []) (n := 200) ?_
  have e : run Try.prog (tiOf Try.prog) envQ1 [] 0 Try.f113.results.toList some 200 [.code (bodyOf Try.f113)] (start Try.f113.ntmps ([bkF a, F.int .i64 k].map .f)) = T113 (fun r => some (.ret (F.int .i64 r))) a k := by kernel_rfl
  rw [e]
  exact (good_sel h (fun _ h => (good_sel h (fun _ h => good_ret (by cases h; rfl)) (fun _ h => good_ret (by cases h; rfl)))) (fun _ h => nomatch h))
/-! ### function 50 -/
def T50 {ρ : Type} (ret : (F) → Option ρ) (a : Sg) : Option ρ :=
  (ret (F.agg [F.int IntKind.i64 a.x0, F.int IntKind.i64 a.y0, F.int IntKind.i64 a.x1, F.int IntKind.i64 a.y1]))
def G50 (a : Sg) : Option (F) := T50 some a
theorem t50 (a : Sg) (r : F) (h : G50 a = some r) : Ends Try.prog Try.f50.results.toList [.code (bodyOf Try.f50)] (start Try.f50.ntmps ([sgF a].map .f)) (r) := by
  refine Ends.of_run tyOK envQ1_ok (T := []) (n := 200) ?_
  have e : run Try.prog (tiOf Try.prog) envQ1 [] 0 Try.f50.results.toList some 200 [.code (bodyOf Try.f50)] (start Try.f50.ntmps ([sgF a].map .f)) = T50 (fun r => some (.ret (r))) a := by kernel_rfl
  rw [e]
  exact good_ret (by cases h; rfl)
/-! ### function 117 -/
def T117 {ρ : Type} (ret : (F) → Option ρ) (a : Bk) : Option ρ :=
  (bsel (isInts (intsF a.ids) && shortV (unInts (intsF a.ids)))
   (ret (F.agg [F.int IntKind.i64 a.x, F.int IntKind.i64 a.y, F.int IntKind.i64 a.size, F.bool a.split, intsF (unInts (intsF a.ids))]))
   none)
def G117 (a : Bk) : Option (F) := T117 some a
theorem t117 (a : Bk) (r : F) (h : G117 a = some r) : Ends Try.prog Try.f117.results.toList [.code (bodyOf Try.f117)] (start Try.f117.ntmps ([bkF a].map .f)) (r) := by
  refine Ends.of_run tyOK envQ1_ok (T := []) (n := 200) ?_
  have e : run Try.prog (tiOf Try.prog) envQ1 [] 0 Try.f117.results.toList some 200 [.code (bodyOf Try.f117)] (start Try.f117.ntmps ([bkF a].map .f)) = T117 (fun r => some (.ret (r))) a := by kernel_rfl
  rw [e]
  exact (good_sel h (fun _ h => good_ret (by cases h; rfl)) (fun _ h => nomatch h))
/-! ### function 60 -/
def T60 {ρ : Type} (ret : (F) → Option ρ) (q : Qd) : Option ρ :=
  (bsel (isQd (qdF q) && fewV (unQd (qdF q)))
   (ret (bkF (squareV (unQd (qdF q)) (-1048576) (-1048576) 2097152)))
   none)
def G60 (q : Qd) : Option (F) := T60 some q
theorem t60 (q : Qd) (r : F) (h : G60 q = some r) : Ends Try.prog Try.f60.results.toList [.code (bodyOf Try.f60)] (start Try.f60.ntmps ([qdF q].map .f)) (r) := by
  refine Ends.of_run tyOK envQ1_ok (T := []) (n := 200) ?_
  have e : run Try.prog (tiOf Try.prog) envQ1 [] 0 Try.f60.results.toList some 200 [.code (bodyOf Try.f60)] (start Try.f60.ntmps ([qdF q].map .f)) = T60 (fun r => some (.ret (r))) q := by kernel_rfl
  rw [e]
  exact (good_sel h (fun _ h => good_ret (by cases h; rfl)) (fun _ h => nomatch h))
/-! ### function 93 -/
def T93 {ρ : Type} (ret : (F) → Option ρ) (q : Qd) (b : Bk) : Option ρ :=
  (bsel (isQd (qdF q) && fewV (unQd (qdF q)))
   (bsel (isQd (qdF q) && fewV (unQd (qdF q)))
    (bsel (isQd (qdF q) && fewV (unQd (qdF q)))
     (bsel (isQd (qdF q) && fewV (unQd (qdF q)))
      (ret (F.sl 4 (lget [bkF (squareV (unQd (qdF q)) b.x b.y (IntKind.i64.wrap (b.size.tdiv 2))), bkF (squareV (unQd (qdF q)) (IntKind.i64.wrap (b.x + IntKind.i64.wrap (b.size.tdiv 2))) b.y (IntKind.i64.wrap (b.size.tdiv 2))), bkF (squareV (unQd (qdF q)) b.x (IntKind.i64.wrap (b.y + IntKind.i64.wrap (b.size.tdiv 2))) (IntKind.i64.wrap (b.size.tdiv 2))), bkF (squareV (unQd (qdF q)) (IntKind.i64.wrap (b.x + IntKind.i64.wrap (b.size.tdiv 2))) (IntKind.i64.wrap (b.y + IntKind.i64.wrap (b.size.tdiv 2))) (IntKind.i64.wrap (b.size.tdiv 2)))])))
      none)
     none)
    none)
   none)
def G93 (q : Qd) (b : Bk) : Option (F) := T93 some q b
theorem t93 (q : Qd) (b : Bk) (r : F) (h : G93 q b = some r) : Ends Try.prog Try.f93.results.toList [.code (bodyOf Try.f93)] (start Try.f93.ntmps ([qdF q, bkF b].map .f)) (r) := by
  refine Ends.of_run tyOK envQ1_ok (T := []) (n := 200) ?_
  have e : run Try.prog (tiOf Try.prog) envQ1 [] 0 Try.f93.results.toList some 200 [.code (bodyOf Try.f93)] (start Try.f93.ntmps ([qdF q, bkF b].map .f)) = T93 (fun r => some (.ret (r))) q b := by kernel_rfl
  rw [e]
  exact (good_sel h (fun _ h => (good_sel h (fun _ h => (good_sel h (fun _ h => (good_sel h (fun _ h => good_ret (by cases h; rfl)) (fun _ h => nomatch h))) (fun _ h => nomatch h))) (fun _ h => nomatch h))) (fun _ h => nomatch h))
def sameSegV (a b : Sg) : Bool := sameSpotV a.x0 a.y0 b.x0 b.y0 && sameSpotV a.x1 a.y1 b.x1 b.y1
def pre2s : List F → Bool | [.agg [.int .i64 _, .int .i64 _, .int .i64 _, .int .i64 _], .agg [.int .i64 _, .int .i64 _, .int .i64 _, .int .i64 _]] => true | _ => false
def resSameSeg : List F → F | [.agg [.int .i64 a, .int .i64 b, .int .i64 c, .int .i64 d], .agg [.int .i64 e, .int .i64 f, .int .i64 g, .int .i64 h]] => .bool (sameSegV ⟨a, b, c, d⟩ ⟨e, f, g, h⟩) | _ => .dflt
theorem okEqSeg : PureOK Try.prog 57 pre2s resSameSeg :=
  fn_pure (c := bodyOf Try.f57) Try.func57 (by kernel_rfl) (by kernel_rfl) fun xs hp => match xs, hp with
  | [.agg [.int .i64 a, .int .i64 b, .int .i64 c, .int .i64 d], .agg [.int .i64 e, .int .i64 f, .int .i64 g, .int .i64 h]], hp => t57 ⟨a, b, c, d⟩ ⟨e, f, g, h⟩ (sameSegV ⟨a, b, c, d⟩ ⟨e, f, g, h⟩) (by
      unfold G57 T57 sameSegV
      cases sameSpotV a b e f <;> cases sameSpotV c d g h <;> rfl)
def resSeg : List F → F | [.agg [.int .i64 a, .int .i64 b, .int .i64 c, .int .i64 d]] => .agg [.int .i64 a, .int .i64 b, .int .i64 c, .int .i64 d] | _ => .dflt
theorem okToSeg : PureOK Try.prog 50 pre1s resSeg :=
  fn_pure (c := bodyOf Try.f50) Try.func50 (by kernel_rfl) (by kernel_rfl) fun xs hp => match xs, hp with
  | [.agg [.int .i64 a, .int .i64 b, .int .i64 c, .int .i64 d]], hp => t50 ⟨a, b, c, d⟩ _ rfl
def sameBkV (a b : Bk) : Bool := a.x == b.x && a.y == b.y && a.size == b.size && a.split == b.split && sameV a.ids b.ids
def preEqBk : List F → Bool | [a, b] => isBk a && isBk b && shortV (unBk a).ids | _ => false
def resEqBk : List F → F | [a, b] => .bool (sameBkV (unBk a) (unBk b)) | _ => .dflt
theorem eqBk_law (a b : Bk) (h : shortV a.ids = true) : G108 a b = some (sameBkV a b) := by
  unfold G108 T108 sameBkV
  simp only [isInts_intsF, unInts_intsF, h, bne, Bool.and_true, bsel_true]
  cases (a.x == b.x) <;> cases (a.y == b.y) <;> cases (a.size == b.size) <;> cases a.split <;> cases b.split <;> cases sameV a.ids b.ids <;> rfl
theorem okEqBk : PureOK Try.prog 108 preEqBk resEqBk :=
  fn_pure_at (c := bodyOf Try.f108) Try.func108 (by kernel_rfl) (by kernel_rfl) fun xs hp => match xs, hp with
  | [a, b], hp => by
    simp only [preEqBk, Bool.and_eq_true] at hp
    exact ⟨[bkF (unBk a), bkF (unBk b)], _, ⟨FLe.bk hp.1.1, FLe.bk hp.1.2, trivial⟩, t108 _ _ _ (eqBk_law _ _ hp.2), .refl _⟩
def preSzBk : List F → Bool | [a, .int .i64 _] => isBk a | _ => false
def resSzBk : List F → F | [a, .int .i64 k] => .int .i64 (leftV (unBk a).ids.length k) | _ => .dflt
theorem left_min {n : Nat} {k : Int} : (bif decide (leftV n k < 0) then -1 else leftV n k) = leftV n k := by
  unfold leftV
  by_cases h : IntKind.i64.wrap (k - (n : Int)) < 0
  · rw [decide_eq_true h]; rfl
  · rw [decide_eq_false h]
    simp only [cond_false]
    rw [decide_eq_false h]; rfl
theorem okSzBk : PureOK Try.prog 113 preSzBk resSzBk :=
  fn_pure_at (c := bodyOf Try.f113) Try.func113 (by kernel_rfl) (by kernel_rfl) fun xs hp => match xs, hp with
  | [a, .int .i64 k], hp => ⟨[bkF (unBk a), .int .i64 k], _, ⟨FLe.bk hp, .refl _, trivial⟩, t113 _ _ (leftV (unBk a).ids.length k) (by
      unfold G113 T113
      simp only [isInts_intsF, unInts_intsF, bsel_true]
      conv => rhs; rw [← left_min]
      cases decide (leftV (unBk a).ids.length k < 0) <;> rfl), .refl _⟩
def preBk : List F → Bool | [a] => isBk a && shortV (unBk a).ids | _ => false
def resBk : List F → F | [a] => bkF (unBk a) | _ => .dflt
theorem okToBk : PureOK Try.prog 117 preBk resBk :=
  fn_pure_at (c := bodyOf Try.f117) Try.func117 (by kernel_rfl) (by kernel_rfl) fun xs hp => match xs, hp with
  | [a], hp => by
    simp only [preBk, Bool.and_eq_true] at hp
    exact ⟨[bkF (unBk a)], _, ⟨FLe.bk hp.1, trivial⟩, t117 _ (bkF (unBk a)) (by
      unfold G117 T117
      simp only [isInts_intsF, unInts_intsF, hp.2, Bool.and_true, bsel_true]; rfl), .refl _⟩
def preQd : List F → Bool | [q] => isQd q && fewV (unQd q) | _ => false
def rootV (q : Qd) : Bk := squareV q (-1048576) (-1048576) 2097152
def resRoot : List F → F | [q] => bkF (rootV (unQd q)) | _ => .dflt
theorem okRoot : PureOK Try.prog 60 preQd resRoot :=
  fn_pure_at (c := bodyOf Try.f60) Try.func60 (by kernel_rfl) (by kernel_rfl) fun xs hp => match xs, hp with
  | [q], hp => by
    simp only [preQd, Bool.and_eq_true] at hp
    exact ⟨[qdF (unQd q)], _, ⟨(qd_eqv hp.1).1, trivial⟩, t60 _ (bkF (rootV (unQd q))) (by
      unfold G60 T60 rootV
      simp only [isQd_qdF, unQd_qdF, hp.2, Bool.and_true, bsel_true]), .refl _⟩
def halfV (n : Int) : Int := IntKind.i64.wrap (n.tdiv 2)
def kidsV (q : Qd) (b : Bk) : List Bk := [squareV q b.x b.y (halfV b.size), squareV q (IntKind.i64.wrap (b.x + halfV b.size)) b.y (halfV b.size), squareV q b.x (IntKind.i64.wrap (b.y + halfV b.size)) (halfV b.size),
  squareV q (IntKind.i64.wrap (b.x + halfV b.size)) (IntKind.i64.wrap (b.y + halfV b.size)) (halfV b.size)]
def preKids : List F → Bool | [q, b] => isQd q && fewV (unQd q) && isBk b | _ => false
def resKids : List F → F | [q, b] => blocksF (kidsV (unQd q) (unBk b)) | _ => .dflt
theorem okKids : PureOK Try.prog 93 preKids resKids :=
  fn_pure_at (c := bodyOf Try.f93) Try.func93 (by kernel_rfl) (by kernel_rfl) fun xs hp => match xs, hp with
  | [q, b], hp => by
    simp only [preKids, Bool.and_eq_true] at hp
    obtain ⟨⟨h1, h2⟩, h3⟩ := hp
    refine ⟨[qdF (unQd q), bkF (unBk b)], _, ⟨(qd_eqv h1).1, FLe.bk h3, trivial⟩, t93 _ _ _ (by
      unfold G93 T93
      simp only [isQd_qdF, unQd_qdF, h2, Bool.and_true, bsel_true]
      rfl), FLe.sl fun j hj => ?_⟩
    have hj : j < 4 := hj
    have : j = 0 ∨ j = 1 ∨ j = 2 ∨ j = 3 := by omega
    rcases this with rfl | rfl | rfl | rfl <;> rfl
def envQ2 : Env := ((((((envQ1.add 57 (.pure pre2s resSameSeg)).add 50 (.pure pre1s resSeg)).add 108 (.pure preEqBk resEqBk)).add 113 (.pure preSzBk resSzBk)).add 117 (.pure preBk resBk)).add 60 (.pure preQd resRoot)).add 93 (.pure preKids resKids)
theorem envQ2_ok : EnvOK Try.prog envQ2 := Env.add_ok (Env.add_ok (Env.add_ok (Env.add_ok (Env.add_ok (Env.add_ok (Env.add_ok envQ1_ok okEqSeg.sp) okToSeg.sp) okEqBk.sp) okSzBk.sp) okToBk.sp) okRoot.sp) okKids.sp
end
end Go.Proofs.Ytjbilidfnfnpfaa.R
