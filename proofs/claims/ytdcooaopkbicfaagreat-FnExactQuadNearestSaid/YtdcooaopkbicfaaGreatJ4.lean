/-
  The own walk and what it shows, part 4 of 8.
-/
import Derived.Lib.Mul64
import Derived.Laws.Bits64
import Derived.Laws.Externs
import Derived.Test.YtdcooaopkbicfaaGreatJ1
import Derived.Test.YtdcooaopkbicfaaGreatJ2
import Derived.Test.YtdcooaopkbicfaaGreatJ3
set_option linter.unusedVariables false
set_option linter.unusedSimpArgs false
set_option maxRecDepth 100000
set_option exponentiation.threshold 30000
namespace Go.Proofs.YtdcooaopkbicfaaGreat.R
open Go
noncomputable section
/-! ### function 49 -/
def T49 {ρ : Type} (ret : (Bool) → Option ρ) (a : It) (b : It) : Option ρ :=
 (bsel (a.id != b.id)
 (ret (false))
 (bsel (!sameSegV { x0 := a.x0, y0 := a.y0, x1 := a.x1, y1 := a.y1 } { x0 := b.x0, y0 := b.y0, x1 := b.x1, y1 := b.y1 })
 (ret (false))
 (ret (true))))
def G49 (a : It) (b : It) : Option (Bool) := T49 some a b
theorem t49 (a : It) (b : It) (r : Bool) (h : G49 a b = some r) : Ends Tryz.prog Tryz.f49.results.toList [.code (bodyOf Tryz.f49)] (start Tryz.f49.ntmps ([itF a, itF b].map .f)) (F.bool r) := by
  refine Ends.of_run tyOK envQ2_ok (T := []) (n := 200) ?_
  have e : run Tryz.prog (tiOf Tryz.prog) envQ2 [] 0 Tryz.f49.results.toList some 200 [.code (bodyOf Tryz.f49)] (start Tryz.f49.ntmps ([itF a, itF b].map .f)) = T49 (fun r => some (.ret (F.bool r))) a b := by kernel_rfl
  rw [e]
  exact (good_sel h (fun _ h => good_ret (by cases h; rfl)) (fun _ h => (good_sel h (fun _ h => good_ret (by cases h; rfl)) (fun _ h => good_ret (by cases h; rfl)))))
/-! ### function 38 -/
def T38 {ρ : Type} (ret : (F) → Option ρ) (a : It) : Option ρ :=
 (ret (itF a))
def G38 (a : It) : Option (F) := T38 some a
theorem t38 (a : It) (r : F) (h : G38 a = some r) : Ends Tryz.prog Tryz.f38.results.toList [.code (bodyOf Tryz.f38)] (start Tryz.f38.ntmps ([itF a].map .f)) (r) := by
  refine Ends.of_run tyOK envQ2_ok (T := []) (n := 200) ?_
  have e : run Tryz.prog (tiOf Tryz.prog) envQ2 [] 0 Tryz.f38.results.toList some 200 [.code (bodyOf Tryz.f38)] (start Tryz.f38.ntmps ([itF a].map .f)) = T38 (fun r => some (.ret (r))) a := by kernel_rfl
  rw [e]
  exact good_ret (by cases h; rfl)
/-! ### function 26 -/
def S26_4 (a : List Bk) (b : List Bk) (i : Int) : St := ⟨[(U.f (blocksF a)), (U.f (blocksF b)), .bad, .bad, .bad, (U.f (F.int .i64 i)), .bad, .bad, .bad, .bad, .bad, .bad, .bad, .bad, .bad, .bad, .bad, .bad, .bad, .bad, .bad, .bad, .bad, .bad, .bad, .bad, .bad], []⟩
def T26_4 {ρ : Type} (ret : (Bool) → Option ρ) (c4 : (List Bk) → (List Bk) → (Int) → Option ρ) (a : List Bk) (b : List Bk) (i : Int) : Option ρ :=
 (bsel (decide (i < (↑a.length : Int)))
 (bsel (decide (0 ≤ i))
 (bsel (decide (i < (↑a.length : Int)))
 (bsel (decide (0 ≤ i))
 (bsel (decide (i < (↑b.length : Int)))
 (bsel (isBk (bkF (a.getD i.toNat Bk.zero)) && isBk (bkF (b.getD i.toNat Bk.zero)) && shortV (unBk (bkF (a.getD i.toNat Bk.zero))).ids)
 (bsel (!sameBkV (unBk (bkF (a.getD i.toNat Bk.zero))) (unBk (bkF (b.getD i.toNat Bk.zero))))
 (ret (false))
 (c4 (a) (b) (IntKind.i64.wrap (i + 1))))
 none)
 none)
 none)
 none)
 none)
 (ret (true)))
def L26_4 : Nat → (List Bk) → (List Bk) → (Int) → Option (Bool)
  | 0, _, _, _ => none
  | k + 1, a, b, i => T26_4 some (L26_4 k) a b i
def T26 {ρ : Type} (ret : (Bool) → Option ρ) (c4 : (List Bk) → (List Bk) → (Int) → Option ρ) (a : List Bk) (b : List Bk) : Option ρ :=
 (bsel ((↑a.length : Int) != (↑b.length : Int))
 (ret (false))
 (c4 (a) (b) (0)))
def G26 (k : Nat) (a : List Bk) (b : List Bk) : Option (Bool) := T26 some (L26_4 k) a b
theorem t26_4 : ∀ (k : Nat) (a : List Bk) (b : List Bk) (i : Int) (r : Bool), L26_4 k a b i = some r → Ends Tryz.prog Tryz.f26.results.toList (at_ Tryz.f26 4) (S26_4 a b i) (F.bool r)
  | 0, _, _, _, _, h => nomatch h
  | k + 1, a, b, i, r, h => by
    refine Ends.of_cut tyOK envQ2_ok (T := [(4, [0, 1, 5], 1000)]) (n := 200) ?_
    have e : runCut Tryz.prog (tiOf Tryz.prog) envQ2 [(4, [0, 1, 5], 1000)] 0 Tryz.f26.results.toList some 200 (at_ Tryz.f26 4) (S26_4 a b i) = T26_4 (fun r => some (.ret (F.bool r))) (fun a b i => some (.cut (at_ Tryz.f26 4) (S26_4 a b i))) a b i := by kernel_rfl
    rw [e]
    exact (good_sel h (fun _ h => (good_sel h (fun _ h => (good_sel h (fun _ h => (good_sel h (fun _ h => (good_sel h (fun _ h => (good_sel h (fun _ h => (good_sel h (fun _ h => good_ret (by cases h; rfl)) (fun _ h => good_cut (t26_4 k _ _ _ r h)))) (fun _ h => nomatch h))) (fun _ h => nomatch h))) (fun _ h => nomatch h))) (fun _ h => nomatch h))) (fun _ h => nomatch h))) (fun _ h => good_ret (by cases h; rfl)))
theorem t26 (k : Nat) (a : List Bk) (b : List Bk) (r : Bool) (h : G26 k a b = some r) : Ends Tryz.prog Tryz.f26.results.toList [.code (bodyOf Tryz.f26)] (start Tryz.f26.ntmps ([blocksF a, blocksF b].map .f)) (F.bool r) := by
  refine Ends.of_run tyOK envQ2_ok (T := [(4, [0, 1, 5], 1000)]) (n := 200) ?_
  have e : run Tryz.prog (tiOf Tryz.prog) envQ2 [(4, [0, 1, 5], 1000)] 0 Tryz.f26.results.toList some 200 [.code (bodyOf Tryz.f26)] (start Tryz.f26.ntmps ([blocksF a, blocksF b].map .f)) = T26 (fun r => some (.ret (F.bool r))) (fun a b i => some (.cut (at_ Tryz.f26 4) (S26_4 a b i))) a b := by kernel_rfl
  rw [e]
  exact (good_sel h (fun _ h => good_ret (by cases h; rfl)) (fun _ h => good_cut (t26_4 k _ _ _ r h)))
/-! ### function 12 -/
def S12_5 (a : List Bk) (lf : Int) (i : Int) : St := ⟨[(U.f (blocksF a)), (U.f (F.int .i64 lf)), .bad, .bad, .bad, (U.f (F.int .i64 i)), .bad, .bad, .bad, .bad, .bad, .bad, .bad, .bad, .bad, .bad, .bad, .bad, .bad, .bad, .bad, .bad, .bad, .bad, .bad, .bad, .bad], []⟩
def T12_5 {ρ : Type} (ret : (Int) → Option ρ) (c5 : (List Bk) → (Int) → (Int) → Option ρ) (a : List Bk) (lf : Int) (i : Int) : Option ρ :=
 (bsel (decide (i < (↑a.length : Int)))
 (bsel (decide (0 ≤ i))
 (bsel (decide (i < (↑a.length : Int)))
 (bsel (isBk (bkF (a.getD i.toNat Bk.zero)))
 (bsel (decide (leftV (unBk (bkF (a.getD i.toNat Bk.zero))).ids.length lf < 0))
 (ret (-1))
 (c5 (a) (leftV (unBk (bkF (a.getD i.toNat Bk.zero))).ids.length lf) (IntKind.i64.wrap (i + 1))))
 none)
 none)
 none)
 (ret (lf)))
def L12_5 : Nat → (List Bk) → (Int) → (Int) → Option (Int)
  | 0, _, _, _ => none
  | k + 1, a, lf, i => T12_5 some (L12_5 k) a lf i
def T12 {ρ : Type} (ret : (Int) → Option ρ) (c5 : (List Bk) → (Int) → (Int) → Option ρ) (a : List Bk) (lf : Int) : Option ρ :=
 (bsel (decide (IntKind.i64.wrap (lf - (↑a.length : Int)) < 0))
 (ret (-1))
 (c5 (a) (IntKind.i64.wrap (lf - (↑a.length : Int))) (0)))
def G12 (k : Nat) (a : List Bk) (lf : Int) : Option (Int) := T12 some (L12_5 k) a lf
theorem t12_5 : ∀ (k : Nat) (a : List Bk) (lf : Int) (i : Int) (r : Int), L12_5 k a lf i = some r → Ends Tryz.prog Tryz.f12.results.toList (at_ Tryz.f12 5) (S12_5 a lf i) (F.int .i64 r)
  | 0, _, _, _, _, h => nomatch h
  | k + 1, a, lf, i, r, h => by
    refine Ends.of_cut tyOK envQ2_ok (T := [(5, [0, 1, 5], 1000)]) (n := 200) ?_
    have e : runCut Tryz.prog (tiOf Tryz.prog) envQ2 [(5, [0, 1, 5], 1000)] 0 Tryz.f12.results.toList some 200 (at_ Tryz.f12 5) (S12_5 a lf i) = T12_5 (fun r => some (.ret (F.int .i64 r))) (fun a lf i => some (.cut (at_ Tryz.f12 5) (S12_5 a lf i))) a lf i := by kernel_rfl
    rw [e]
    exact (good_sel h (fun _ h => (good_sel h (fun _ h => (good_sel h (fun _ h => (good_sel h (fun _ h => (good_sel h (fun _ h => good_ret (by cases h; rfl)) (fun _ h => good_cut (t12_5 k _ _ _ r h)))) (fun _ h => nomatch h))) (fun _ h => nomatch h))) (fun _ h => nomatch h))) (fun _ h => good_ret (by cases h; rfl)))
theorem t12 (k : Nat) (a : List Bk) (lf : Int) (r : Int) (h : G12 k a lf = some r) : Ends Tryz.prog Tryz.f12.results.toList [.code (bodyOf Tryz.f12)] (start Tryz.f12.ntmps ([blocksF a, F.int .i64 lf].map .f)) (F.int .i64 r) := by
  refine Ends.of_run tyOK envQ2_ok (T := [(5, [0, 1, 5], 1000)]) (n := 200) ?_
  have e : run Tryz.prog (tiOf Tryz.prog) envQ2 [(5, [0, 1, 5], 1000)] 0 Tryz.f12.results.toList some 200 [.code (bodyOf Tryz.f12)] (start Tryz.f12.ntmps ([blocksF a, F.int .i64 lf].map .f)) = T12 (fun r => some (.ret (F.int .i64 r))) (fun a lf i => some (.cut (at_ Tryz.f12 5) (S12_5 a lf i))) a lf := by kernel_rfl
  rw [e]
  exact (good_sel h (fun _ h => good_ret (by cases h; rfl)) (fun _ h => good_cut (t12_5 k _ _ _ r h)))
/-! ### function 19 -/
def S19_3 (a : List Bk) (n : Nat) (g : Nat → F) (i : Int) : St := ⟨[(U.f (blocksF a)), .bad, .bad, (U.hs 0 n 0 n), (U.f (F.int .i64 i)), .bad, .bad, .bad, .bad, .bad, .bad, .bad, .bad, .bad, .bad, .bad, .bad, .bad, .bad, .bad, .bad, .bad, .bad], [HO.arr 5 n g]⟩
def T19_3 {ρ : Type} (ret : (Nat) → (Nat → F) → Option ρ) (c3 : (List Bk) → (Nat) → (Nat → F) → (Int) → Option ρ) (a : List Bk) (n : Nat) (g : Nat → F) (i : Int) : Option ρ :=
 (bsel (decide (i < (↑a.length : Int)))
 (bsel (decide (0 ≤ i))
 (bsel (decide (i < (↑a.length : Int)))
 (bsel (isBk (bkF (a.getD i.toNat Bk.zero)) && shortV (unBk (bkF (a.getD i.toNat Bk.zero))).ids)
 (bsel (decide (n = n))
 (bsel (decide (0 ≤ i))
 (bsel (decide (i < (↑n : Int)))
 (bsel (decide (n = n))
 (bsel (decide (0 + i.toNat < n))
 (bsel (decide ((g (0 + i.toNat)).cells.length = 5))
 (bsel ((isAggF (g (0 + i.toNat)) || false) && true)
 (c3 (a) (n) (fun j ↦ if j = 0 + i.toNat then bkF (unBk (bkF (a.getD i.toNat Bk.zero))) else g j) (IntKind.i64.wrap (i + 1)))
 none)
 none)
 none)
 none)
 none)
 none)
 none)
 none)
 none)
 none)
 (bsel (decide (n = n))
 (ret (n) (g))
 none))
def L19_3 : Nat → (List Bk) → (Nat) → (Nat → F) → (Int) → Option ((Nat) × (Nat → F))
  | 0, _, _, _, _ => none
  | k + 1, a, n, g, i => T19_3 (fun rn rg => some (rn, rg)) (L19_3 k) a n g i
def T19 {ρ : Type} (ret : (Nat) → (Nat → F) → Option ρ) (c3 : (List Bk) → (Nat) → (Nat → F) → (Int) → Option ρ) (a : List Bk) : Option ρ :=
 (bsel (decide ((↑a.length : Int) ≤ (↑a.length : Int)))
 (bsel (decide ((↑a.length : Int) * (((56 : Nat) : Int) + 1) ≤ (↑limit : Int)))
 (c3 (a) ((↑a.length : Int).toNat) (fun x ↦ F.agg [F.int .i64 0, F.int .i64 0, F.int .i64 0, F.bool false, F.sl 0 fun x ↦ F.bool false]) (0))
 none)
 none)
def G19 (k : Nat) (a : List Bk) : Option ((Nat) × (Nat → F)) := T19 (fun rn rg => some (rn, rg)) (L19_3 k) a
theorem t19_3 : ∀ (k : Nat) (a : List Bk) (n : Nat) (g : Nat → F) (i : Int) (rn : Nat) (rg : Nat → F), L19_3 k a n g i = some (rn, rg) → Ends Tryz.prog Tryz.f19.results.toList (at_ Tryz.f19 3) (S19_3 a n g i) (F.sl rn rg)
  | 0, _, _, _, _, _, _, h => nomatch h
  | k + 1, a, n, g, i, rn, rg, h => by
    refine Ends.of_cut tyOK envQ2_ok (T := [(3, [0, 3, 4], 1000)]) (n := 200) ?_
    have e : runCut Tryz.prog (tiOf Tryz.prog) envQ2 [(3, [0, 3, 4], 1000)] 0 Tryz.f19.results.toList some 200 (at_ Tryz.f19 3) (S19_3 a n g i) = T19_3 (fun rn rg => some (.ret (F.sl rn rg))) (fun a n g i => some (.cut (at_ Tryz.f19 3) (S19_3 a n g i))) a n g i := by kernel_rfl
    rw [e]
    exact (good_sel h (fun _ h => (good_sel h (fun _ h => (good_sel h (fun _ h => (good_sel h (fun _ h => (good_sel h (fun _ h => (good_sel h (fun _ h => (good_sel h (fun _ h => (good_sel h (fun _ h => (good_sel h (fun _ h => (good_sel h (fun _ h => (good_sel h (fun _ h => good_cut (t19_3 k _ _ _ _ rn rg h)) (fun _ h => nomatch h))) (fun _ h => nomatch h))) (fun _ h => nomatch h))) (fun _ h => nomatch h))) (fun _ h => nomatch h))) (fun _ h => nomatch h))) (fun _ h => nomatch h))) (fun _ h => nomatch h))) (fun _ h => nomatch h))) (fun _ h => nomatch h))) (fun _ h => (good_sel h (fun _ h => good_ret (by cases h; rfl)) (fun _ h => nomatch h))))
theorem t19 (k : Nat) (a : List Bk) (rn : Nat) (rg : Nat → F) (h : G19 k a = some (rn, rg)) : Ends Tryz.prog Tryz.f19.results.toList [.code (bodyOf Tryz.f19)] (start Tryz.f19.ntmps ([blocksF a].map .f)) (F.sl rn rg) := by
  refine Ends.of_run tyOK envQ2_ok (T := [(3, [0, 3, 4], 1000)]) (n := 200) ?_
  have e : run Tryz.prog (tiOf Tryz.prog) envQ2 [(3, [0, 3, 4], 1000)] 0 Tryz.f19.results.toList some 200 [.code (bodyOf Tryz.f19)] (start Tryz.f19.ntmps ([blocksF a].map .f)) = T19 (fun rn rg => some (.ret (F.sl rn rg))) (fun a n g i => some (.cut (at_ Tryz.f19 3) (S19_3 a n g i))) a := by kernel_rfl
  rw [e]
  exact (good_sel h (fun _ h => (good_sel h (fun _ h => good_cut (t19_3 k _ _ _ _ rn rg h)) (fun _ h => nomatch h))) (fun _ h => nomatch h))
def sameItV (a b : It) : Bool := a.id == b.id && sameSegV a.sg b.sg
def preEqIt : List F → Bool | [a, b] => isIt a && isIt b | _ => false
def resEqIt : List F → F | [a, b] => .bool (sameItV (unIt a) (unIt b)) | _ => .dflt
theorem okEqIt : PureOK Tryz.prog 49 preEqIt resEqIt :=
  fn_pure_at (c := bodyOf Tryz.f49) Tryz.func49 (by kernel_rfl) (by kernel_rfl) fun xs hp => match xs, hp with
  | [a, b], hp => by
    simp only [preEqIt, Bool.and_eq_true] at hp
    refine ⟨[itF (unIt a), itF (unIt b)], _, ⟨by rw [it_eq hp.1]; exact .refl _, by rw [it_eq hp.2]; exact .refl _, trivial⟩, t49 _ _ (sameItV (unIt a) (unIt b)) (by
      unfold G49 T49 sameItV It.sg
      rw [bne]
      cases ((unIt a).id == (unIt b).id) <;> cases sameSegV ⟨(unIt a).x0, (unIt a).y0, (unIt a).x1, (unIt a).y1⟩ ⟨(unIt b).x0, (unIt b).y0, (unIt b).x1, (unIt b).y1⟩ <;> rfl), .refl _⟩
def preIt : List F → Bool | [a] => isIt a | _ => false
def resIt : List F → F | [a] => itF (unIt a) | _ => .dflt
theorem okToIt : PureOK Tryz.prog 38 preIt resIt :=
  fn_pure_at (c := bodyOf Tryz.f38) Tryz.func38 (by kernel_rfl) (by kernel_rfl) fun xs hp => match xs, hp with
  | [a], hp => ⟨[itF (unIt a)], _, ⟨by rw [it_eq hp]; exact .refl _, trivial⟩, t38 _ _ rfl, .refl _⟩
def sameBksV : List Bk → List Bk → Bool
  | [], [] => true
  | a :: a', b :: b' => sameBkV a b && sameBksV a' b'
  | _, _ => false
theorem sameBks_ne : ∀ (a b : List Bk), a.length ≠ b.length → sameBksV a b = false
  | [], [], h => absurd rfl h
  | [], _ :: _, _ => rfl
  | _ :: _, [], _ => rfl
  | a :: a', b :: b', h => by rw [sameBksV, sameBks_ne a' b' (by simpa using h), Bool.and_false]
def allShortV (l : List Bk) : Bool := decide (l.length ≤ 1048576) && l.all fun b => shortV b.ids
theorem allShort_iff {l : List Bk} : allShortV l = true ↔ l.length ≤ 1048576 ∧ ∀ b ∈ l, shortV b.ids = true := by
  simp only [allShortV, Bool.and_eq_true, decide_eq_true_eq, List.all_eq_true]
theorem short_at {l : List Bk} (h : allShortV l = true) {i : Nat} (hi : i < l.length) : shortV (l.getD i .zero).ids = true := by
  have : l.getD i Bk.zero = l[i] := by simp [List.getD, List.getElem?_eq_getElem hi]
  rw [this]
  exact (allShort_iff.1 h).2 _ (List.getElem_mem hi)
theorem eqBks_loop (a b : List Bk) (hl : a.length = b.length) (hs : allShortV a = true) : ∀ (d i : Nat), i + d = a.length → L26_4 (d + 1) a b i = some (sameBksV (a.drop i) (b.drop i))
  | 0, i, h => by
    have c1 : decide ((i : Int) < (a.length : Int)) = false := decide_eq_false (by omega)
    simp only [L26_4, T26_4, c1, bsel_false]
    rw [List.drop_eq_nil_of_le (by omega), List.drop_eq_nil_of_le (by omega)]
    rfl
  | d + 1, i, h => by
    have hi : i < a.length := by omega
    have hn := (allShort_iff.1 hs).1
    have c1 : decide ((i : Int) < (a.length : Int)) = true := decide_eq_true (by omega)
    have c3 : decide ((i : Int) < (b.length : Int)) = true := decide_eq_true (by omega)
    have c2 : decide (0 ≤ (i : Int)) = true := decide_eq_true (by omega)
    have hw : IntKind.i64.wrap ((i : Int) + 1) = ((i + 1 : Nat) : Int) := by rw [wrapi (by omega) (by omega)]; omega
    have h1 : a.getD i .zero = a[i] := by simp [List.getD, List.getElem?_eq_getElem hi]
    have h2 : b.getD i .zero = b[i]'(by omega) := by simp [List.getD, List.getElem?_eq_getElem (show i < b.length by omega)]
    have c4 := short_at hs hi
    rw [L26_4]
    simp only [T26_4, c1, c2, c3, hw, eqBks_loop a b hl hs d (i + 1) (by omega), bsel_true, Int.toNat_natCast, isBk_bkF, unBk_bkF, c4, Bool.and_true]
    rw [List.drop_eq_getElem_cons hi, List.drop_eq_getElem_cons (show i < b.length by omega), sameBksV, h1, h2]
    cases sameBkV a[i] (b[i]'(by omega)) <;> rfl
def preEqBks : List F → Bool | [a, b] => isBlocks a && isBlocks b && allShortV (unBlocks a) | _ => false
def resEqBks : List F → F | [a, b] => .bool (sameBksV (unBlocks a) (unBlocks b)) | _ => .dflt
theorem eqBks_law (a b : List Bk) (hs : allShortV a = true) : G26 (a.length + 1) a b = some (sameBksV a b) := by
  unfold G26 T26
  rw [bne]
  cases h : ((a.length : Int) == (b.length : Int)) with
  | true => exact eqBks_loop a b (by have := eq_of_beq h; omega) hs a.length 0 (by omega)
  | false => rw [sameBks_ne a b fun e => by simp [e] at h]; rfl
theorem okEqBks : PureOK Tryz.prog 26 preEqBks resEqBks :=
  fn_pure_at (c := bodyOf Tryz.f26) Tryz.func26 (by kernel_rfl) (by kernel_rfl) fun xs hp => match xs, hp with
  | [a, b], hp => by
    simp only [preEqBks, Bool.and_eq_true] at hp
    exact ⟨[blocksF (unBlocks a), blocksF (unBlocks b)], _, ⟨(blocks_eqv hp.1.1).1, (blocks_eqv hp.1.2).1, trivial⟩, t26 _ _ _ _ (eqBks_law _ _ hp.2), .refl _⟩
def szIdsV : List Bk → Int → Int
  | [], k => k
  | b :: bs, k => bif decide (leftV b.ids.length k < 0) then -1 else szIdsV bs (leftV b.ids.length k)
def szBksV (l : List Bk) (k : Int) : Int := bif decide (leftV l.length k < 0) then -1 else szIdsV l (leftV l.length k)
theorem szIds_loop (a : List Bk) (hs : a.length ≤ 9223372036854775807) : ∀ (d i : Nat) (k : Int), i + d = a.length → L12_5 (d + 1) a k i = some (szIdsV (a.drop i) k)
  | 0, i, k, h => by
    have c1 : decide ((i : Int) < (a.length : Int)) = false := decide_eq_false (by omega)
    simp only [L12_5, T12_5, c1, bsel_false]
    rw [List.drop_eq_nil_of_le (by omega)]
    rfl
  | d + 1, i, k, h => by
    have hi : i < a.length := by omega
    have c1 : decide ((i : Int) < (a.length : Int)) = true := decide_eq_true (by omega)
    have c2 : decide (0 ≤ (i : Int)) = true := decide_eq_true (by omega)
    have hw : IntKind.i64.wrap ((i : Int) + 1) = ((i + 1 : Nat) : Int) := by rw [wrapi (by omega) (by omega)]; omega
    have h1 : a.getD i .zero = a[i] := by simp [List.getD, List.getElem?_eq_getElem hi]
    rw [L12_5]
    simp only [T12_5, c1, c2, hw, szIds_loop a hs d (i + 1) _ (by omega), bsel_true, Int.toNat_natCast, isBk_bkF, unBk_bkF]
    rw [List.drop_eq_getElem_cons hi, szIdsV, h1]
    cases decide (leftV a[i].ids.length k < 0) <;> rfl
def longV (n : Nat) : Bool := decide (n ≤ 9223372036854775807)
def preSzBks : List F → Bool | [a, .int .i64 _] => isBlocks a && longV (unBlocks a).length | _ => false
def resSzBks : List F → F | [a, .int .i64 k] => .int .i64 (szBksV (unBlocks a) k) | _ => .dflt
theorem szBks_law (a : List Bk) (k : Int) (hs : a.length ≤ 9223372036854775807) : G12 (a.length + 1) a k = some (szBksV a k) := by
  unfold G12 T12 szBksV leftV
  cases h : decide (IntKind.i64.wrap (k - (a.length : Int)) < 0) with
  | true => rfl
  | false =>
    simp only [cond_false, h]
    exact szIds_loop a hs a.length 0 _ (by omega)
theorem okSzBks : PureOK Tryz.prog 12 preSzBks resSzBks :=
  fn_pure_at (c := bodyOf Tryz.f12) Tryz.func12 (by kernel_rfl) (by kernel_rfl) fun xs hp => match xs, hp with
  | [a, .int .i64 k], hp => by
    simp only [preSzBks, Bool.and_eq_true] at hp
    exact ⟨[blocksF (unBlocks a), .int .i64 k], _, ⟨(blocks_eqv hp.1).1, .refl _, trivial⟩, t12 _ _ _ _ (szBks_law _ _ (of_decide_eq_true hp.2)), .refl _⟩
def bkZ : F := F.agg [F.int .i64 0, F.int .i64 0, F.int .i64 0, F.bool false, F.sl 0 fun x => F.bool false]
theorem toBks_loop (a : List Bk) (hs : allShortV a = true) : ∀ (d i : Nat) (g : Nat → F), i + d = a.length → Fills bkF .zero bkZ a i g → ∃ g1, L19_3 (d + 1) a a.length g i = some (a.length, g1) ∧ Lists bkF .zero a.length g1 a
  | 0, i, g, h, hg => by
    have c1 : decide ((i : Int) < (a.length : Int)) = false := decide_eq_false (by omega)
    obtain rfl : i = a.length := by omega
    exact ⟨g, by simp only [L19_3, T19_3, c1, bsel_false, decide_true, bsel_true], hg.lists⟩
  | d + 1, i, g, h, hg => by
    have hi : i < a.length := by omega
    have hn := (allShort_iff.1 hs).1
    have c1 : decide ((i : Int) < (a.length : Int)) = true := decide_eq_true (by omega)
    have c2 : decide (0 ≤ (i : Int)) = true := decide_eq_true (by omega)
    have c3 : decide (i < a.length) = true := decide_eq_true hi
    have hw : IntKind.i64.wrap ((i : Int) + 1) = ((i + 1 : Nat) : Int) := by rw [wrapi (by omega) (by omega)]; omega
    have c4 : g i = bkZ := (hg i).2 (Nat.le_refl _)
    have c5 := short_at hs hi
    obtain ⟨g1, e1, e2⟩ := toBks_loop a hs d (i + 1) _ (by omega) hg.set
    refine ⟨g1, ?_, e2⟩
    rw [← e1, L19_3]
    simp only [T19_3, c1, c2, c3, hw, bsel_true, decide_true, Int.toNat_natCast, Nat.zero_add, c4, isBk_bkF, unBk_bkF, c5, Bool.and_true]
    rfl
def preBks : List F → Bool | [a] => isBlocks a && allShortV (unBlocks a) | _ => false
def resBks : List F → F | [a] => blocksF (unBlocks a) | _ => .dflt
theorem toBks_law (a : List Bk) (hs : allShortV a = true) : ∃ g1, G19 (a.length + 1) a = some (a.length, g1) ∧ Lists bkF .zero a.length g1 a := by
  have hn := (allShort_iff.1 hs).1
  obtain ⟨g1, e1, e2⟩ := toBks_loop a hs a.length 0 _ (by omega) Fills.zero
  refine ⟨g1, ?_, e2⟩
  have c3 : decide (((a.length : Nat) : Int) * (((56 : Nat) : Int) + 1) ≤ (limit : Int)) = true := by rw [limit_eq]; exact decide_eq_true (by omega)
  unfold G19 T19
  simp only [c3, Int.le_refl, decide_true, bsel_true, Int.toNat_natCast]
  exact e1
theorem okToBks : PureOK Tryz.prog 19 preBks resBks :=
  fn_pure_at (c := bodyOf Tryz.f19) Tryz.func19 (by kernel_rfl) (by kernel_rfl) fun xs hp => match xs, hp with
  | [a], hp => by
    simp only [preBks, Bool.and_eq_true] at hp
    obtain ⟨g1, e1, e2⟩ := toBks_law (unBlocks a) hp.2
    exact ⟨[blocksF (unBlocks a)], _, ⟨(blocks_eqv hp.1).1, trivial⟩, t19 _ _ _ _ e1, e2.le⟩
def envQ3 : Env := ((((envQ2.add 49 (.pure preEqIt resEqIt)).add 38 (.pure preIt resIt)).add 26 (.pure preEqBks resEqBks)).add 12 (.pure preSzBks resSzBks)).add 19 (.pure preBks resBks)
theorem envQ3_ok : EnvOK Tryz.prog envQ3 := (Env.add_ok (Env.add_ok (Env.add_ok (Env.add_ok (Env.add_ok envQ2_ok okEqIt.sp) okToIt.sp) okEqBks.sp) okSzBks.sp) okToBks.sp)
end
end Go.Proofs.YtdcooaopkbicfaaGreat.R
namespace Go.Proofs.YtdcooaopkbicfaaGreat.R
open Go
noncomputable section
def ckKids (f : Int → Bk → Int) : List Bk → Int → Int
  | [], at' => at'
  | b :: bs, at' => bif decide (f at' b < 0) then -1 else ckKids f bs (f at' b)
def checkV : Nat → Qd → Int → Bk → Int → Int
  | 0, _, _, _, _ => -1
  | D + 1, q, at', due, deep =>
    bif decide (at' ≥ (q.blocks.length : Int)) then -1 else
    bif (q.blocks.getD at'.toNat .zero).x != due.x || (q.blocks.getD at'.toNat .zero).y != due.y || (q.blocks.getD at'.toNat .zero).size != due.size then -1 else
    bif !(q.blocks.getD at'.toNat .zero).split then (bif sameV (q.blocks.getD at'.toNat .zero).ids due.ids then at' + 1 else -1) else
    bif decide (((q.blocks.getD at'.toNat .zero).ids.length : Int) > 0) || deep == q.deep then -1 else
    ckKids (fun a b => checkV D q a b (deep + 1)) (kidsV q due) (at' + 1)
def checkOk (D : Nat) (q : Qd) (at' : Int) (deep : Int) : Bool := allShortV q.blocks && decide (0 ≤ at') && decide (0 ≤ deep) && decide (deep ≤ q.deep) && decide (q.deep ≤ 8) && decide (q.deep < deep + D)
def preCk (D : Nat) : List F → Bool | [q, .int .i64 a, due, .int .i64 deep] => isQd q && fewV (unQd q) && isBk due && checkOk D (unQd q) a deep | _ => false
def resCk (D : Nat) : List F → F | [q, .int .i64 a, due, .int .i64 deep] => .int .i64 (checkV D (unQd q) a (unBk due) deep) | _ => .dflt
def envCk (D : Nat) : Env := envQ3.add 42 (.pure (preCk D) (resCk D))
def rdKids (f : Int → Int → Tr × Int × Bool) : List Int → Int → Option (List Tr × Int)
  | [], at' => some ([], at')
  | k :: ks, at' => bif (f at' k).2.2 then (match rdKids f ks (f at' k).2.1 with | some (ts, p) => some ((f at' k).1 :: ts, p) | none => none) else none
def readV : Nat → List Bk → Int → Int → Int → Int → Int → Tr × Int × Bool
  | 0, _, _, _, _, _, _ => (.zero, 0, false)
  | D + 1, l, at', x, y, sz, deep =>
    bif decide (at' ≥ (l.length : Int)) then (.zero, 0, false) else
    bif (l.getD at'.toNat .zero).x != x || (l.getD at'.toNat .zero).y != y || (l.getD at'.toNat .zero).size != sz || ((l.getD at'.toNat .zero).split && (decide (deep < 1) || decide (((l.getD at'.toNat .zero).ids.length : Int) > 0))) then (.zero, 0, false) else
    bif !(l.getD at'.toNat .zero).split then (.leaf x y sz (l.getD at'.toNat .zero).ids, at' + 1, true) else
    match rdKids (fun a k => readV D l a (IntKind.i64.wrap (x + IntKind.i64.wrap ((k.tmod 2) * halfV sz))) (IntKind.i64.wrap (y + IntKind.i64.wrap (IntKind.i64.wrap (k.tdiv 2) * halfV sz))) (halfV sz) (deep - 1)) [0, 1, 2, 3] (at' + 1) with
    | some ([a, b, c, d], p) => (.node x y sz a b c d, p, true)
    | _ => (.zero, 0, false)
def readOk (D : Nat) (l : List Bk) (at' deep : Int) : Bool := allShortV l && decide (0 ≤ at') && decide (0 ≤ deep) && decide (deep < D) && decide (deep ≤ 8)
def preRd (D : Nat) : List F → Bool | [l, .int .i64 a, .int .i64 _, .int .i64 _, .int .i64 _, .int .i64 deep] => isBlocks l && readOk D (unBlocks l) a deep | _ => false
def resRd (D : Nat) : List F → F | [l, .int .i64 a, .int .i64 x, .int .i64 y, .int .i64 sz, .int .i64 deep] => .tup [trF (readV D (unBlocks l) a x y sz deep).1, .int .i64 (readV D (unBlocks l) a x y sz deep).2.1, .bool (readV D (unBlocks l) a x y sz deep).2.2] | _ => .dflt
def envRd (D : Nat) : Env := envQ3.add 31 (.pure (preRd D) (resRd D))
def trDepth : Tr → Nat
  | .leaf _ _ _ _ => 0
  | .node _ _ _ a b c d => max (max (trDepth a) (trDepth b)) (max (trDepth c) (trDepth d)) + 1
def rightV (l : List It) : Tr → Bool
  | .leaf x y s ids => ids == metFrom l x y s 0
  | .node _ _ _ a b c d => rightV l a && rightV l b && rightV l c && rightV l d
def rightOk (D : Nat) (t : Tr) (l : List It) : Bool := decide (l.length ≤ 40) && decide (trDepth t < D)
def preRt (D : Nat) : List F → Bool | [t, l] => isTr t && isItems l && rightOk D (unTr t) (unItems l) | _ => false
def resRt : List F → F | [t, l] => .bool (rightV (unItems l) (unTr t)) | _ => .dflt
def envRt (D : Nat) : Env := envQ3.add 32 (.pure (preRt D) resRt)
end
end Go.Proofs.YtdcooaopkbicfaaGreat.R
namespace Go.Proofs.YtdcooaopkbicfaaGreat.R
open Go
noncomputable section
/-! ### function 42 -/
def S42_14 (q : Qd) (at1 : Int) (deep : Int) (ks : List Bk) (i : Int) : St := ⟨[.bad, (U.f (F.int .i64 at1)), .bad, (U.f (F.int .i64 deep)), (U.hp 0 0), .bad, .bad, .bad, .bad, .bad, .bad, .bad, .bad, .bad, .bad, .bad, .bad, .bad, .bad, .bad, .bad, .bad, .bad, .bad, .bad, .bad, .bad, .bad, .bad, .bad, .bad, .bad, .bad, .bad, .bad, .bad, .bad, .bad, .bad, .bad, .bad, .bad, .bad, .bad, .bad, .bad, .bad, .bad, .bad, .bad, .bad, .bad, .bad, .bad, .bad, .bad, .bad, .bad, .bad, .bad, .bad, .bad, .bad, .bad, .bad, (U.f (blocksF ks)), (U.f (F.int .i64 ks.length)), (U.f (F.int .i64 i)), .bad, .bad, .bad, .bad, .bad, .bad, .bad, .bad, .bad, .bad, .bad, .bad, .bad], [HO.box [(U.f (F.int .i64 q.most)), (U.f (F.int .i64 q.deep)), (U.f (itemsF q.items)), (U.f (blocksF q.blocks))]]⟩
def T42_14 {ρ : Type} (D : Nat) (ret : (Int) → Option ρ) (c14 : (Qd) → (Int) → (Int) → (List Bk) → (Int) → Option ρ) (q : Qd) (at1 : Int) (deep : Int) (ks : List Bk) (i : Int) : Option ρ :=
 (bsel (decide (i < (↑ks.length : Int)))
 (bsel (decide (0 ≤ i))
 (bsel (decide (i < (↑ks.length : Int)))
 (bsel (isQd (qdF q) && fewV (unQd (qdF q)) && isBk (bkF (ks.getD i.toNat Bk.zero)) && checkOk D (unQd (qdF q)) at1 (IntKind.i64.wrap (deep + 1)))
 (bsel (decide (checkV D (unQd (qdF q)) at1 (unBk (bkF (ks.getD i.toNat Bk.zero))) (IntKind.i64.wrap (deep + 1)) < 0))
 (ret (-1))
 (c14 (q) (checkV D (unQd (qdF q)) at1 (unBk (bkF (ks.getD i.toNat Bk.zero))) (IntKind.i64.wrap (deep + 1))) (deep) (ks) (IntKind.i64.wrap (i + 1))))
 none)
 none)
 none)
 (ret (at1)))
def L42_14 (D : Nat) : Nat → (Qd) → (Int) → (Int) → (List Bk) → (Int) → Option (Int)
  | 0, _, _, _, _, _ => none
  | k + 1, q, at1, deep, ks, i => T42_14 D some (L42_14 D k) q at1 deep ks i
def T42 {ρ : Type} (D : Nat) (ret : (Int) → Option ρ) (c14 : (Qd) → (Int) → (Int) → (List Bk) → (Int) → Option ρ) (q : Qd) (at1 : Int) (due : Bk) (deep : Int) : Option ρ :=
 (bsel (decide (at1 ≥ (↑q.blocks.length : Int)))
 (ret (-1))
 (bsel (decide (0 ≤ at1))
 (bsel (decide (at1 < (↑q.blocks.length : Int)))
 (bsel (((q.blocks.getD at1.toNat Bk.zero).x != due.x) == false)
 (bsel (((q.blocks.getD at1.toNat Bk.zero).y != due.y) == false)
 (bsel ((q.blocks.getD at1.toNat Bk.zero).size != due.size)
 (ret (-1))
 (bsel (!(q.blocks.getD at1.toNat Bk.zero).split)
 (bsel (isInts (intsF (q.blocks.getD at1.toNat Bk.zero).ids) && isInts (intsF due.ids) && shortV (unInts (intsF (q.blocks.getD at1.toNat Bk.zero).ids)))
 (bsel (!sameV (unInts (intsF (q.blocks.getD at1.toNat Bk.zero).ids)) (unInts (intsF due.ids)))
 (ret (-1))
 (ret (IntKind.i64.wrap (at1 + 1))))
 none)
 (bsel (decide ((↑(q.blocks.getD at1.toNat Bk.zero).ids.length : Int) > 0) == false)
 (bsel (deep == q.deep)
 (ret (-1))
 (bsel (isQd (qdF q) && fewV (unQd (qdF q)) && isBk (bkF due))
 (c14 (q) (IntKind.i64.wrap (at1 + 1)) (deep) (kidsV (unQd (qdF q)) (unBk (bkF due))) (0))
 none))
 (ret (-1)))))
 (ret (-1)))
 (ret (-1)))
 none)
 none))
def G42 (D : Nat) (k : Nat) (q : Qd) (at1 : Int) (due : Bk) (deep : Int) : Option (Int) := T42 D some (L42_14 D k) q at1 due deep
theorem t42_14 (D : Nat) (hE : EnvOK Tryz.prog (envCk D)) : ∀ (k : Nat) (q : Qd) (at1 : Int) (deep : Int) (ks : List Bk) (i : Int) (r : Int), L42_14 D k q at1 deep ks i = some r → Ends Tryz.prog Tryz.f42.results.toList (at_ Tryz.f42 14) (S42_14 q at1 deep ks i) (F.int .i64 r)
  | 0, _, _, _, _, _, _, h => nomatch h
  | k + 1, q, at1, deep, ks, i, r, h => by
    refine Ends.of_cut tyOK hE (T := [(14, [1, 3, 4, 65, 66, 67], 1000)]) (n := 200) ?_
    have e : runCut Tryz.prog (tiOf Tryz.prog) (envCk D) [(14, [1, 3, 4, 65, 66, 67], 1000)] 0 Tryz.f42.results.toList some 200 (at_ Tryz.f42 14) (S42_14 q at1 deep ks i) = T42_14 D (fun r => some (.ret (F.int .i64 r))) (fun q at1 deep ks i => some (.cut (at_ Tryz.f42 14) (S42_14 q at1 deep ks i))) q at1 deep ks i := by kernel_rfl
    rw [e]
    exact (good_sel h (fun _ h => (good_sel h (fun _ h => (good_sel h (fun _ h => (good_sel h (fun _ h => (good_sel h (fun _ h => good_ret (by cases h; rfl)) (fun _ h => good_cut (t42_14 D hE k _ _ _ _ _ r h)))) (fun _ h => nomatch h))) (fun _ h => nomatch h))) (fun _ h => nomatch h))) (fun _ h => good_ret (by cases h; rfl)))
theorem t42 (D : Nat) (hE : EnvOK Tryz.prog (envCk D)) (k : Nat) (q : Qd) (at1 : Int) (due : Bk) (deep : Int) (r : Int) (h : G42 D k q at1 due deep = some r) : Ends Tryz.prog Tryz.f42.results.toList [.code (bodyOf Tryz.f42)] (start Tryz.f42.ntmps ([qdF q, F.int .i64 at1, bkF due, F.int .i64 deep].map .f)) (F.int .i64 r) := by
  refine Ends.of_run tyOK hE (T := [(14, [1, 3, 4, 65, 66, 67], 1000)]) (n := 200) ?_
  have e : run Tryz.prog (tiOf Tryz.prog) (envCk D) [(14, [1, 3, 4, 65, 66, 67], 1000)] 0 Tryz.f42.results.toList some 200 [.code (bodyOf Tryz.f42)] (start Tryz.f42.ntmps ([qdF q, F.int .i64 at1, bkF due, F.int .i64 deep].map .f)) = T42 D (fun r => some (.ret (F.int .i64 r))) (fun q at1 deep ks i => some (.cut (at_ Tryz.f42 14) (S42_14 q at1 deep ks i))) q at1 due deep := by kernel_rfl
  rw [e]
  exact (good_sel h (fun _ h => good_ret (by cases h; rfl)) (fun _ h => (good_sel h (fun _ h => (good_sel h (fun _ h => (good_sel h (fun _ h => (good_sel h (fun _ h => (good_sel h (fun _ h => good_ret (by cases h; rfl)) (fun _ h => (good_sel h (fun _ h => (good_sel h (fun _ h => (good_sel h (fun _ h => good_ret (by cases h; rfl)) (fun _ h => good_ret (by cases h; rfl)))) (fun _ h => nomatch h))) (fun _ h => (good_sel h (fun _ h => (good_sel h (fun _ h => good_ret (by cases h; rfl)) (fun _ h => (good_sel h (fun _ h => good_cut (t42_14 D hE k _ _ _ _ _ r h)) (fun _ h => nomatch h))))) (fun _ h => good_ret (by cases h; rfl)))))))) (fun _ h => good_ret (by cases h; rfl)))) (fun _ h => good_ret (by cases h; rfl)))) (fun _ h => nomatch h))) (fun _ h => nomatch h))))
/-! ### function 31 -/
def S31_11a (l : List Bk) (at1 : Int) (x : Int) (y : Int) (sz : Int) (deep : Int) (j : Int) (dn : Nat) (dg : Nat → F) : St := ⟨[(U.f (blocksF l)), (U.f (F.int .i64 at1)), (U.f (F.int .i64 x)), (U.f (F.int .i64 y)), (U.f (F.int .i64 sz)), (U.f (F.int .i64 deep)), .bad, .bad, .bad, .bad, .bad, .bad, (U.hp 0 0), .bad, .bad, .bad, (U.hp 2 0), (U.f (F.int .i64 j)), .bad, .bad, .bad, .bad, .bad, .bad, .bad, .bad, .bad, .bad, .bad, .bad, .bad, .bad, .bad, .bad, .bad, .bad, .bad, .bad, .bad, .bad, .bad, .bad, .bad, .bad, .bad, .bad, .bad, .bad, .bad, .bad, .bad, .bad, .bad, .bad, .bad, .bad, .bad, .bad, .bad, .bad, .bad, .bad, .bad, .bad, .bad, .bad, .bad, .bad, .bad, .bad, .bad, .bad, .bad, .bad, .bad, .bad, .bad, .bad, .bad, .bad, .bad, .bad, .bad, .bad, .bad, .bad, .bad, .bad, .bad, .bad, .bad, .bad, .bad, .bad, .bad, .bad, .bad, .bad, .bad, .bad, .bad, .bad, .bad, .bad, .bad, .bad, .bad, .bad, .bad, .bad, .bad, .bad, .bad, .bad, .bad, .bad, .bad], [HO.box [(U.f (F.int .i64 0)), (U.f (F.int .i64 0)), (U.f (F.int .i64 0)), U.nils, U.nils], HO.arr 1 dn dg, HO.box [(U.f (F.int .i64 x)), (U.f (F.int .i64 y)), (U.f (F.int .i64 sz)), U.nils, (U.hs 1 dn 0 dn)]]⟩
def S31_11b (l : List Bk) (at1 : Int) (x : Int) (y : Int) (sz : Int) (deep : Int) (j : Int) (dn : Nat) (dg : Nat → F) (n : Nat) (g : Nat → F) : St := ⟨[(U.f (blocksF l)), (U.f (F.int .i64 at1)), (U.f (F.int .i64 x)), (U.f (F.int .i64 y)), (U.f (F.int .i64 sz)), (U.f (F.int .i64 deep)), .bad, .bad, .bad, .bad, .bad, .bad, (U.hp 0 0), .bad, .bad, .bad, (U.hp 2 0), (U.f (F.int .i64 j)), .bad, .bad, .bad, .bad, .bad, .bad, .bad, .bad, .bad, .bad, .bad, .bad, .bad, .bad, .bad, .bad, .bad, .bad, .bad, .bad, .bad, .bad, .bad, .bad, .bad, .bad, .bad, .bad, .bad, .bad, .bad, .bad, .bad, .bad, .bad, .bad, .bad, .bad, .bad, .bad, .bad, .bad, .bad, .bad, .bad, .bad, .bad, .bad, .bad, .bad, .bad, .bad, .bad, .bad, .bad, .bad, .bad, .bad, .bad, .bad, .bad, .bad, .bad, .bad, .bad, .bad, .bad, .bad, .bad, .bad, .bad, .bad, .bad, .bad, .bad, .bad, .bad, .bad, .bad, .bad, .bad, .bad, .bad, .bad, .bad, .bad, .bad, .bad, .bad, .bad, .bad, .bad, .bad, .bad, .bad, .bad, .bad, .bad, .bad], [HO.box [(U.f (F.int .i64 0)), (U.f (F.int .i64 0)), (U.f (F.int .i64 0)), U.nils, U.nils], HO.arr 1 dn dg, HO.box [(U.f (F.int .i64 x)), (U.f (F.int .i64 y)), (U.f (F.int .i64 sz)), (U.hs 3 n 0 n), (U.hs 1 dn 0 dn)], HO.arr 5 n g]⟩
def T31_11a {ρ : Type} (D : Nat) (ret : (Int) → (Int) → (Int) → (Nat) → (Nat → F) → (Nat) → (Nat → F) → (Int) → (Bool) → Option ρ) (c11a : (List Bk) → (Int) → (Int) → (Int) → (Int) → (Int) → (Int) → (Nat) → (Nat → F) → Option ρ) (c11b : (List Bk) → (Int) → (Int) → (Int) → (Int) → (Int) → (Int) → (Nat) → (Nat → F) → (Nat) → (Nat → F) → Option ρ) (l : List Bk) (at1 : Int) (x : Int) (y : Int) (sz : Int) (deep : Int) (j : Int) (dn : Nat) (dg : Nat → F) : Option ρ :=
 (bsel (decide (j < 4))
 (bsel (isBlocks (blocksF l) && readOk D (unBlocks (blocksF l)) at1 (IntKind.i64.wrap (deep - 1)))
 (bsel (!(readV D (unBlocks (blocksF l)) at1 (IntKind.i64.wrap (x + IntKind.i64.wrap (j.tmod 2 * IntKind.i64.wrap (sz.tdiv 2)))) (IntKind.i64.wrap (y + IntKind.i64.wrap (IntKind.i64.wrap (j.tdiv 2) * IntKind.i64.wrap (sz.tdiv 2)))) (IntKind.i64.wrap (sz.tdiv 2)) (IntKind.i64.wrap (deep - 1))).snd.snd)
 (ret (0) (0) (0) (0) (fun x ↦ F.bool false) (0) (fun x ↦ F.bool false) (0) (false))
 (bsel (decide (((1 : Nat) : Int) * (((72 : Nat) : Int) + 1) ≤ (↑limit : Int)))
 (c11b (l) ((readV D (unBlocks (blocksF l)) at1 (IntKind.i64.wrap (x + IntKind.i64.wrap (j.tmod 2 * IntKind.i64.wrap (sz.tdiv 2)))) (IntKind.i64.wrap (y + IntKind.i64.wrap (IntKind.i64.wrap (j.tdiv 2) * IntKind.i64.wrap (sz.tdiv 2)))) (IntKind.i64.wrap (sz.tdiv 2)) (IntKind.i64.wrap (deep - 1))).snd.fst) (x) (y) (sz) (deep) (IntKind.i64.wrap (j + 1)) (dn) (dg) (1) (fun x_1 ↦ trF (readV D (unBlocks (blocksF l)) at1 (IntKind.i64.wrap (x + IntKind.i64.wrap (j.tmod 2 * IntKind.i64.wrap (sz.tdiv 2)))) (IntKind.i64.wrap (y + IntKind.i64.wrap (IntKind.i64.wrap (j.tdiv 2) * IntKind.i64.wrap (sz.tdiv 2)))) (IntKind.i64.wrap (sz.tdiv 2)) (IntKind.i64.wrap (deep - 1))).fst))
 none))
 none)
 (bsel (decide (dn = dn))
 (ret (x) (y) (sz) (0) (fun x ↦ F.bool false) (dn) (dg) (at1) (true))
 none))
def T31_11b {ρ : Type} (D : Nat) (ret : (Int) → (Int) → (Int) → (Nat) → (Nat → F) → (Nat) → (Nat → F) → (Int) → (Bool) → Option ρ) (c11a : (List Bk) → (Int) → (Int) → (Int) → (Int) → (Int) → (Int) → (Nat) → (Nat → F) → Option ρ) (c11b : (List Bk) → (Int) → (Int) → (Int) → (Int) → (Int) → (Int) → (Nat) → (Nat → F) → (Nat) → (Nat → F) → Option ρ) (l : List Bk) (at1 : Int) (x : Int) (y : Int) (sz : Int) (deep : Int) (j : Int) (dn : Nat) (dg : Nat → F) (n : Nat) (g : Nat → F) : Option ρ :=
 (bsel (decide (j < 4))
 (bsel (isBlocks (blocksF l) && readOk D (unBlocks (blocksF l)) at1 (IntKind.i64.wrap (deep - 1)))
 (bsel (!(readV D (unBlocks (blocksF l)) at1 (IntKind.i64.wrap (x + IntKind.i64.wrap (j.tmod 2 * IntKind.i64.wrap (sz.tdiv 2)))) (IntKind.i64.wrap (y + IntKind.i64.wrap (IntKind.i64.wrap (j.tdiv 2) * IntKind.i64.wrap (sz.tdiv 2)))) (IntKind.i64.wrap (sz.tdiv 2)) (IntKind.i64.wrap (deep - 1))).snd.snd)
 (ret (0) (0) (0) (0) (fun x ↦ F.bool false) (0) (fun x ↦ F.bool false) (0) (false))
 (bsel (decide (n = n))
 (bsel (decide (n = n))
 (bsel (decide ((↑(n + 1) : Int) * (((72 : Nat) : Int) + 1) ≤ (↑limit : Int)))
 (c11b (l) ((readV D (unBlocks (blocksF l)) at1 (IntKind.i64.wrap (x + IntKind.i64.wrap (j.tmod 2 * IntKind.i64.wrap (sz.tdiv 2)))) (IntKind.i64.wrap (y + IntKind.i64.wrap (IntKind.i64.wrap (j.tdiv 2) * IntKind.i64.wrap (sz.tdiv 2)))) (IntKind.i64.wrap (sz.tdiv 2)) (IntKind.i64.wrap (deep - 1))).snd.fst) (x) (y) (sz) (deep) (IntKind.i64.wrap (j + 1)) (dn) (dg) (n + 1) (fun j_1 ↦ if j_1 < n then g j_1 else trF (readV D (unBlocks (blocksF l)) at1 (IntKind.i64.wrap (x + IntKind.i64.wrap (j.tmod 2 * IntKind.i64.wrap (sz.tdiv 2)))) (IntKind.i64.wrap (y + IntKind.i64.wrap (IntKind.i64.wrap (j.tdiv 2) * IntKind.i64.wrap (sz.tdiv 2)))) (IntKind.i64.wrap (sz.tdiv 2)) (IntKind.i64.wrap (deep - 1))).fst))
 none)
 none)
 none))
 none)
 (bsel (decide (n = n))
 (bsel (decide (dn = dn))
 (ret (x) (y) (sz) (n) (g) (dn) (dg) (at1) (true))
 none)
 none))
mutual
def L31_11a (D : Nat) : Nat → (List Bk) → (Int) → (Int) → (Int) → (Int) → (Int) → (Int) → (Nat) → (Nat → F) → Option ((Int) × (Int) × (Int) × (Nat) × (Nat → F) × (Nat) × (Nat → F) × (Int) × (Bool))
  | 0, _, _, _, _, _, _, _, _, _ => none
  | k + 1, l, at1, x, y, sz, deep, j, dn, dg => T31_11a D (fun rx ry rs kn kg en eg rp rb => some (rx, ry, rs, kn, kg, en, eg, rp, rb)) (L31_11a D k) (L31_11b D k) l at1 x y sz deep j dn dg
def L31_11b (D : Nat) : Nat → (List Bk) → (Int) → (Int) → (Int) → (Int) → (Int) → (Int) → (Nat) → (Nat → F) → (Nat) → (Nat → F) → Option ((Int) × (Int) × (Int) × (Nat) × (Nat → F) × (Nat) × (Nat → F) × (Int) × (Bool))
  | 0, _, _, _, _, _, _, _, _, _, _, _ => none
  | k + 1, l, at1, x, y, sz, deep, j, dn, dg, n, g => T31_11b D (fun rx ry rs kn kg en eg rp rb => some (rx, ry, rs, kn, kg, en, eg, rp, rb)) (L31_11a D k) (L31_11b D k) l at1 x y sz deep j dn dg n g
end
def T31 {ρ : Type} (D : Nat) (ret : (Int) → (Int) → (Int) → (Nat) → (Nat → F) → (Nat) → (Nat → F) → (Int) → (Bool) → Option ρ) (c11a : (List Bk) → (Int) → (Int) → (Int) → (Int) → (Int) → (Int) → (Nat) → (Nat → F) → Option ρ) (c11b : (List Bk) → (Int) → (Int) → (Int) → (Int) → (Int) → (Int) → (Nat) → (Nat → F) → (Nat) → (Nat → F) → Option ρ) (l : List Bk) (at1 : Int) (x : Int) (y : Int) (sz : Int) (deep : Int) : Option ρ :=
 (bsel (decide (at1 ≥ (↑l.length : Int)))
 (ret (0) (0) (0) (0) (fun x ↦ F.bool false) (0) (fun x ↦ F.bool false) (0) (false))
 (bsel (decide (0 ≤ at1))
 (bsel (decide (at1 < (↑l.length : Int)))
 (bsel (((l.getD at1.toNat Bk.zero).x != x) == false)
 (bsel (((l.getD at1.toNat Bk.zero).y != y) == false)
 (bsel (((l.getD at1.toNat Bk.zero).size != sz) == false)
 (bsel ((l.getD at1.toNat Bk.zero).split == true)
 (bsel (decide (deep < 1) == false)
 (bsel (decide ((↑(l.getD at1.toNat Bk.zero).ids.length : Int) > 0))
 (ret (0) (0) (0) (0) (fun x ↦ F.bool false) (0) (fun x ↦ F.bool false) (0) (false))
 (bsel (decide ((↑(0 + (l.getD at1.toNat Bk.zero).ids.length) : Int) * (((8 : Nat) : Int) + 1) ≤ (↑limit : Int)))
 (bsel (!(l.getD at1.toNat Bk.zero).split)
 (bsel (decide (0 + (l.getD at1.toNat Bk.zero).ids.length = 0 + (l.getD at1.toNat Bk.zero).ids.length))
 (ret (x) (y) (sz) (0) (fun x ↦ F.bool false) (0 + (l.getD at1.toNat Bk.zero).ids.length) (fun j ↦ if j < 0 then lget [] j else one (l.getD at1.toNat Bk.zero).ids.length (fun i ↦ i64F ((l.getD at1.toNat Bk.zero).ids.getD i 0)) (j - 0)) (IntKind.i64.wrap (at1 + 1)) (true))
 none)
 (c11a (l) (IntKind.i64.wrap (at1 + 1)) (x) (y) (sz) (deep) (0) (0 + (l.getD at1.toNat Bk.zero).ids.length) (fun j ↦ if j < 0 then lget [] j else one (l.getD at1.toNat Bk.zero).ids.length (fun i ↦ i64F ((l.getD at1.toNat Bk.zero).ids.getD i 0)) (j - 0))))
 none))
 (ret (0) (0) (0) (0) (fun x ↦ F.bool false) (0) (fun x ↦ F.bool false) (0) (false)))
 (bsel (decide ((↑(0 + (l.getD at1.toNat Bk.zero).ids.length) : Int) * (((8 : Nat) : Int) + 1) ≤ (↑limit : Int)))
 (bsel (!(l.getD at1.toNat Bk.zero).split)
 (bsel (decide (0 + (l.getD at1.toNat Bk.zero).ids.length = 0 + (l.getD at1.toNat Bk.zero).ids.length))
 (ret (x) (y) (sz) (0) (fun x ↦ F.bool false) (0 + (l.getD at1.toNat Bk.zero).ids.length) (fun j ↦ if j < 0 then lget [] j else one (l.getD at1.toNat Bk.zero).ids.length (fun i ↦ i64F ((l.getD at1.toNat Bk.zero).ids.getD i 0)) (j - 0)) (IntKind.i64.wrap (at1 + 1)) (true))
 none)
 (c11a (l) (IntKind.i64.wrap (at1 + 1)) (x) (y) (sz) (deep) (0) (0 + (l.getD at1.toNat Bk.zero).ids.length) (fun j ↦ if j < 0 then lget [] j else one (l.getD at1.toNat Bk.zero).ids.length (fun i ↦ i64F ((l.getD at1.toNat Bk.zero).ids.getD i 0)) (j - 0))))
 none))
 (ret (0) (0) (0) (0) (fun x ↦ F.bool false) (0) (fun x ↦ F.bool false) (0) (false)))
 (ret (0) (0) (0) (0) (fun x ↦ F.bool false) (0) (fun x ↦ F.bool false) (0) (false)))
 (ret (0) (0) (0) (0) (fun x ↦ F.bool false) (0) (fun x ↦ F.bool false) (0) (false)))
 none)
 none))
def G31 (D : Nat) (k : Nat) (l : List Bk) (at1 : Int) (x : Int) (y : Int) (sz : Int) (deep : Int) : Option ((Int) × (Int) × (Int) × (Nat) × (Nat → F) × (Nat) × (Nat → F) × (Int) × (Bool)) := T31 D (fun rx ry rs kn kg en eg rp rb => some (rx, ry, rs, kn, kg, en, eg, rp, rb)) (L31_11a D k) (L31_11b D k) l at1 x y sz deep
mutual
theorem t31_11a (D : Nat) (hE : EnvOK Tryz.prog (envRd D)) : ∀ (k : Nat) (l : List Bk) (at1 : Int) (x : Int) (y : Int) (sz : Int) (deep : Int) (j : Int) (dn : Nat) (dg : Nat → F) (rx : Int) (ry : Int) (rs : Int) (kn : Nat) (kg : Nat → F) (en : Nat) (eg : Nat → F) (rp : Int) (rb : Bool), L31_11a D k l at1 x y sz deep j dn dg = some (rx, ry, rs, kn, kg, en, eg, rp, rb) → Ends Tryz.prog Tryz.f31.results.toList (at_ Tryz.f31 11) (S31_11a l at1 x y sz deep j dn dg) (F.tup [F.agg [F.int .i64 rx, F.int .i64 ry, F.int .i64 rs, F.sl kn kg, F.sl en eg], F.int .i64 rp, F.bool rb])
  | 0, _, _, _, _, _, _, _, _, _, _, _, _, _, _, _, _, _, _, h => nomatch h
  | k + 1, l, at1, x, y, sz, deep, j, dn, dg, rx, ry, rs, kn, kg, en, eg, rp, rb, h => by
    refine Ends.of_cut tyOK hE (T := [(11, [0, 1, 2, 3, 4, 5, 12, 16, 17], 1000)]) (n := 200) ?_
    have e : runCut Tryz.prog (tiOf Tryz.prog) (envRd D) [(11, [0, 1, 2, 3, 4, 5, 12, 16, 17], 1000)] 0 Tryz.f31.results.toList some 200 (at_ Tryz.f31 11) (S31_11a l at1 x y sz deep j dn dg) = T31_11a D (fun rx ry rs kn kg en eg rp rb => some (.ret (F.tup [F.agg [F.int .i64 rx, F.int .i64 ry, F.int .i64 rs, F.sl kn kg, F.sl en eg], F.int .i64 rp, F.bool rb]))) (fun l at1 x y sz deep j dn dg => some (.cut (at_ Tryz.f31 11) (S31_11a l at1 x y sz deep j dn dg))) (fun l at1 x y sz deep j dn dg n g => some (.cut (at_ Tryz.f31 11) (S31_11b l at1 x y sz deep j dn dg n g))) l at1 x y sz deep j dn dg := by kernel_rfl
    rw [e]
    exact (good_sel h (fun _ h => (good_sel h (fun _ h => (good_sel h (fun _ h => good_ret (by cases h; rfl)) (fun _ h => (good_sel h (fun _ h => good_cut (t31_11b D hE k _ _ _ _ _ _ _ _ _ _ _ rx ry rs kn kg en eg rp rb h)) (fun _ h => nomatch h))))) (fun _ h => nomatch h))) (fun _ h => (good_sel h (fun _ h => good_ret (by cases h; rfl)) (fun _ h => nomatch h))))
theorem t31_11b (D : Nat) (hE : EnvOK Tryz.prog (envRd D)) : ∀ (k : Nat) (l : List Bk) (at1 : Int) (x : Int) (y : Int) (sz : Int) (deep : Int) (j : Int) (dn : Nat) (dg : Nat → F) (n : Nat) (g : Nat → F) (rx : Int) (ry : Int) (rs : Int) (kn : Nat) (kg : Nat → F) (en : Nat) (eg : Nat → F) (rp : Int) (rb : Bool), L31_11b D k l at1 x y sz deep j dn dg n g = some (rx, ry, rs, kn, kg, en, eg, rp, rb) → Ends Tryz.prog Tryz.f31.results.toList (at_ Tryz.f31 11) (S31_11b l at1 x y sz deep j dn dg n g) (F.tup [F.agg [F.int .i64 rx, F.int .i64 ry, F.int .i64 rs, F.sl kn kg, F.sl en eg], F.int .i64 rp, F.bool rb])
  | 0, _, _, _, _, _, _, _, _, _, _, _, _, _, _, _, _, _, _, _, _, h => nomatch h
  | k + 1, l, at1, x, y, sz, deep, j, dn, dg, n, g, rx, ry, rs, kn, kg, en, eg, rp, rb, h => by
    refine Ends.of_cut tyOK hE (T := [(11, [0, 1, 2, 3, 4, 5, 12, 16, 17], 1000)]) (n := 200) ?_
    have e : runCut Tryz.prog (tiOf Tryz.prog) (envRd D) [(11, [0, 1, 2, 3, 4, 5, 12, 16, 17], 1000)] 0 Tryz.f31.results.toList some 200 (at_ Tryz.f31 11) (S31_11b l at1 x y sz deep j dn dg n g) = T31_11b D (fun rx ry rs kn kg en eg rp rb => some (.ret (F.tup [F.agg [F.int .i64 rx, F.int .i64 ry, F.int .i64 rs, F.sl kn kg, F.sl en eg], F.int .i64 rp, F.bool rb]))) (fun l at1 x y sz deep j dn dg => some (.cut (at_ Tryz.f31 11) (S31_11a l at1 x y sz deep j dn dg))) (fun l at1 x y sz deep j dn dg n g => some (.cut (at_ Tryz.f31 11) (S31_11b l at1 x y sz deep j dn dg n g))) l at1 x y sz deep j dn dg n g := by kernel_rfl
    rw [e]
    exact (good_sel h (fun _ h => (good_sel h (fun _ h => (good_sel h (fun _ h => good_ret (by cases h; rfl)) (fun _ h => (good_sel h (fun _ h => (good_sel h (fun _ h => (good_sel h (fun _ h => good_cut (t31_11b D hE k _ _ _ _ _ _ _ _ _ _ _ rx ry rs kn kg en eg rp rb h)) (fun _ h => nomatch h))) (fun _ h => nomatch h))) (fun _ h => nomatch h))))) (fun _ h => nomatch h))) (fun _ h => (good_sel h (fun _ h => (good_sel h (fun _ h => good_ret (by cases h; rfl)) (fun _ h => nomatch h))) (fun _ h => nomatch h))))
end
theorem t31 (D : Nat) (hE : EnvOK Tryz.prog (envRd D)) (k : Nat) (l : List Bk) (at1 : Int) (x : Int) (y : Int) (sz : Int) (deep : Int) (rx : Int) (ry : Int) (rs : Int) (kn : Nat) (kg : Nat → F) (en : Nat) (eg : Nat → F) (rp : Int) (rb : Bool) (h : G31 D k l at1 x y sz deep = some (rx, ry, rs, kn, kg, en, eg, rp, rb)) : Ends Tryz.prog Tryz.f31.results.toList [.code (bodyOf Tryz.f31)] (start Tryz.f31.ntmps ([blocksF l, F.int .i64 at1, F.int .i64 x, F.int .i64 y, F.int .i64 sz, F.int .i64 deep].map .f)) (F.tup [F.agg [F.int .i64 rx, F.int .i64 ry, F.int .i64 rs, F.sl kn kg, F.sl en eg], F.int .i64 rp, F.bool rb]) := by
  refine Ends.of_run tyOK hE (T := [(11, [0, 1, 2, 3, 4, 5, 12, 16, 17], 1000)]) (n := 200) ?_
  have e : run Tryz.prog (tiOf Tryz.prog) (envRd D) [(11, [0, 1, 2, 3, 4, 5, 12, 16, 17], 1000)] 0 Tryz.f31.results.toList some 200 [.code (bodyOf Tryz.f31)] (start Tryz.f31.ntmps ([blocksF l, F.int .i64 at1, F.int .i64 x, F.int .i64 y, F.int .i64 sz, F.int .i64 deep].map .f)) = T31 D (fun rx ry rs kn kg en eg rp rb => some (.ret (F.tup [F.agg [F.int .i64 rx, F.int .i64 ry, F.int .i64 rs, F.sl kn kg, F.sl en eg], F.int .i64 rp, F.bool rb]))) (fun l at1 x y sz deep j dn dg => some (.cut (at_ Tryz.f31 11) (S31_11a l at1 x y sz deep j dn dg))) (fun l at1 x y sz deep j dn dg n g => some (.cut (at_ Tryz.f31 11) (S31_11b l at1 x y sz deep j dn dg n g))) l at1 x y sz deep := by kernel_rfl
  rw [e]
  exact (good_sel h (fun _ h => good_ret (by cases h; rfl)) (fun _ h => (good_sel h (fun _ h => (good_sel h (fun _ h => (good_sel h (fun _ h => (good_sel h (fun _ h => (good_sel h (fun _ h => (good_sel h (fun _ h => (good_sel h (fun _ h => (good_sel h (fun _ h => good_ret (by cases h; rfl)) (fun _ h => (good_sel h (fun _ h => (good_sel h (fun _ h => (good_sel h (fun _ h => good_ret (by cases h; rfl)) (fun _ h => nomatch h))) (fun _ h => good_cut (t31_11a D hE k _ _ _ _ _ _ _ _ _ rx ry rs kn kg en eg rp rb h)))) (fun _ h => nomatch h))))) (fun _ h => good_ret (by cases h; rfl)))) (fun _ h => (good_sel h (fun _ h => (good_sel h (fun _ h => (good_sel h (fun _ h => good_ret (by cases h; rfl)) (fun _ h => nomatch h))) (fun _ h => good_cut (t31_11a D hE k _ _ _ _ _ _ _ _ _ rx ry rs kn kg en eg rp rb h)))) (fun _ h => nomatch h))))) (fun _ h => good_ret (by cases h; rfl)))) (fun _ h => good_ret (by cases h; rfl)))) (fun _ h => good_ret (by cases h; rfl)))) (fun _ h => nomatch h))) (fun _ h => nomatch h))))
/-! ### function 32 -/
def S32n_3n0 (x : Int) (y : Int) (s : Int) (a : Tr) (b : Tr) (c : Tr) (d : Tr) (l : List It) : St := ⟨[.bad, (U.f (itemsF l)), (U.hp 0 0), .bad, .bad, (U.f (F.int .i64 0)), .bad, .bad, .bad, .bad, .bad, .bad, .bad, .bad, .bad, .bad, .bad, .bad, .bad, .bad, .bad, .bad, .bad, .bad, .bad, .bad, .bad, .bad, .bad, .bad, .bad, .bad, .bad, .bad, .bad, .bad, .bad, .bad, .bad, .bad, .bad, .bad, .bad, .bad, .bad, .bad, .bad, .bad, .bad, .bad, .bad, .bad, .bad, .bad, .bad, .bad, .bad, .bad, .bad, .bad, .bad, .bad, .bad], [HO.box [(U.f (F.int .i64 x)), (U.f (F.int .i64 y)), (U.f (F.int .i64 s)), (U.f (F.sl 4 (kidG (Tr.node x y s a b c d)))), (U.f (intsF []))]]⟩
def S32n_3n1 (x : Int) (y : Int) (s : Int) (a : Tr) (b : Tr) (c : Tr) (d : Tr) (l : List It) : St := ⟨[.bad, (U.f (itemsF l)), (U.hp 0 0), .bad, .bad, (U.f (F.int .i64 1)), .bad, .bad, .bad, .bad, .bad, .bad, .bad, .bad, .bad, .bad, .bad, .bad, .bad, .bad, .bad, .bad, .bad, .bad, .bad, .bad, .bad, .bad, .bad, .bad, .bad, .bad, .bad, .bad, .bad, .bad, .bad, .bad, .bad, .bad, .bad, .bad, .bad, .bad, .bad, .bad, .bad, .bad, .bad, .bad, .bad, .bad, .bad, .bad, .bad, .bad, .bad, .bad, .bad, .bad, .bad, .bad, .bad], [HO.box [(U.f (F.int .i64 x)), (U.f (F.int .i64 y)), (U.f (F.int .i64 s)), (U.f (F.sl 4 (kidG (Tr.node x y s a b c d)))), (U.f (intsF []))]]⟩
def S32n_3n2 (x : Int) (y : Int) (s : Int) (a : Tr) (b : Tr) (c : Tr) (d : Tr) (l : List It) : St := ⟨[.bad, (U.f (itemsF l)), (U.hp 0 0), .bad, .bad, (U.f (F.int .i64 2)), .bad, .bad, .bad, .bad, .bad, .bad, .bad, .bad, .bad, .bad, .bad, .bad, .bad, .bad, .bad, .bad, .bad, .bad, .bad, .bad, .bad, .bad, .bad, .bad, .bad, .bad, .bad, .bad, .bad, .bad, .bad, .bad, .bad, .bad, .bad, .bad, .bad, .bad, .bad, .bad, .bad, .bad, .bad, .bad, .bad, .bad, .bad, .bad, .bad, .bad, .bad, .bad, .bad, .bad, .bad, .bad, .bad], [HO.box [(U.f (F.int .i64 x)), (U.f (F.int .i64 y)), (U.f (F.int .i64 s)), (U.f (F.sl 4 (kidG (Tr.node x y s a b c d)))), (U.f (intsF []))]]⟩
def S32n_3n3 (x : Int) (y : Int) (s : Int) (a : Tr) (b : Tr) (c : Tr) (d : Tr) (l : List It) : St := ⟨[.bad, (U.f (itemsF l)), (U.hp 0 0), .bad, .bad, (U.f (F.int .i64 3)), .bad, .bad, .bad, .bad, .bad, .bad, .bad, .bad, .bad, .bad, .bad, .bad, .bad, .bad, .bad, .bad, .bad, .bad, .bad, .bad, .bad, .bad, .bad, .bad, .bad, .bad, .bad, .bad, .bad, .bad, .bad, .bad, .bad, .bad, .bad, .bad, .bad, .bad, .bad, .bad, .bad, .bad, .bad, .bad, .bad, .bad, .bad, .bad, .bad, .bad, .bad, .bad, .bad, .bad, .bad, .bad, .bad], [HO.box [(U.f (F.int .i64 x)), (U.f (F.int .i64 y)), (U.f (F.int .i64 s)), (U.f (F.sl 4 (kidG (Tr.node x y s a b c d)))), (U.f (intsF []))]]⟩
def S32n_3n4 (x : Int) (y : Int) (s : Int) (a : Tr) (b : Tr) (c : Tr) (d : Tr) (l : List It) : St := ⟨[.bad, (U.f (itemsF l)), (U.hp 0 0), .bad, .bad, (U.f (F.int .i64 4)), .bad, .bad, .bad, .bad, .bad, .bad, .bad, .bad, .bad, .bad, .bad, .bad, .bad, .bad, .bad, .bad, .bad, .bad, .bad, .bad, .bad, .bad, .bad, .bad, .bad, .bad, .bad, .bad, .bad, .bad, .bad, .bad, .bad, .bad, .bad, .bad, .bad, .bad, .bad, .bad, .bad, .bad, .bad, .bad, .bad, .bad, .bad, .bad, .bad, .bad, .bad, .bad, .bad, .bad, .bad, .bad, .bad], [HO.box [(U.f (F.int .i64 x)), (U.f (F.int .i64 y)), (U.f (F.int .i64 s)), (U.f (F.sl 4 (kidG (Tr.node x y s a b c d)))), (U.f (intsF []))]]⟩
def S32n_10  : St := ⟨[.bad, .bad, .bad, .bad, .bad, .bad, .bad, .bad, .bad, .bad, .bad, .bad, .bad, .bad, .bad, .bad, .bad, .bad, .bad, .bad, .bad, .bad, .bad, .bad, .bad, .bad, .bad, .bad, .bad, .bad, .bad, .bad, .bad, .bad, .bad, .bad, .bad, .bad, .bad, .bad, .bad, .bad, .bad, .bad, .bad, .bad, .bad, .bad, .bad, .bad, .bad, .bad, .bad, .bad, .bad, .bad, .bad, .bad, .bad, .bad, .bad, .bad, .bad], []⟩
def T32n_3n0 {ρ : Type} (D : Nat) (ret : (Bool) → Option ρ) (c3n0 : (Int) → (Int) → (Int) → (Tr) → (Tr) → (Tr) → (Tr) → (List It) → Option ρ) (c3n1 : (Int) → (Int) → (Int) → (Tr) → (Tr) → (Tr) → (Tr) → (List It) → Option ρ) (c3n2 : (Int) → (Int) → (Int) → (Tr) → (Tr) → (Tr) → (Tr) → (List It) → Option ρ) (c3n3 : (Int) → (Int) → (Int) → (Tr) → (Tr) → (Tr) → (Tr) → (List It) → Option ρ) (c3n4 : (Int) → (Int) → (Int) → (Tr) → (Tr) → (Tr) → (Tr) → (List It) → Option ρ) (c10 : Option ρ) (x : Int) (y : Int) (s : Int) (a : Tr) (b : Tr) (c : Tr) (d : Tr) (l : List It) : Option ρ :=
 (bsel (isTr (trF a) && isItems (itemsF l) && rightOk D (unTr (trF a)) (unItems (itemsF l)))
 (bsel (!rightV (unItems (itemsF l)) (unTr (trF a)))
 (ret (false))
 (c3n1 (x) (y) (s) (a) (b) (c) (d) (l)))
 none)
def T32n_3n1 {ρ : Type} (D : Nat) (ret : (Bool) → Option ρ) (c3n0 : (Int) → (Int) → (Int) → (Tr) → (Tr) → (Tr) → (Tr) → (List It) → Option ρ) (c3n1 : (Int) → (Int) → (Int) → (Tr) → (Tr) → (Tr) → (Tr) → (List It) → Option ρ) (c3n2 : (Int) → (Int) → (Int) → (Tr) → (Tr) → (Tr) → (Tr) → (List It) → Option ρ) (c3n3 : (Int) → (Int) → (Int) → (Tr) → (Tr) → (Tr) → (Tr) → (List It) → Option ρ) (c3n4 : (Int) → (Int) → (Int) → (Tr) → (Tr) → (Tr) → (Tr) → (List It) → Option ρ) (c10 : Option ρ) (x : Int) (y : Int) (s : Int) (a : Tr) (b : Tr) (c : Tr) (d : Tr) (l : List It) : Option ρ :=
 (bsel (isTr (trF b) && isItems (itemsF l) && rightOk D (unTr (trF b)) (unItems (itemsF l)))
 (bsel (!rightV (unItems (itemsF l)) (unTr (trF b)))
 (ret (false))
 (c3n2 (x) (y) (s) (a) (b) (c) (d) (l)))
 none)
def T32n_3n2 {ρ : Type} (D : Nat) (ret : (Bool) → Option ρ) (c3n0 : (Int) → (Int) → (Int) → (Tr) → (Tr) → (Tr) → (Tr) → (List It) → Option ρ) (c3n1 : (Int) → (Int) → (Int) → (Tr) → (Tr) → (Tr) → (Tr) → (List It) → Option ρ) (c3n2 : (Int) → (Int) → (Int) → (Tr) → (Tr) → (Tr) → (Tr) → (List It) → Option ρ) (c3n3 : (Int) → (Int) → (Int) → (Tr) → (Tr) → (Tr) → (Tr) → (List It) → Option ρ) (c3n4 : (Int) → (Int) → (Int) → (Tr) → (Tr) → (Tr) → (Tr) → (List It) → Option ρ) (c10 : Option ρ) (x : Int) (y : Int) (s : Int) (a : Tr) (b : Tr) (c : Tr) (d : Tr) (l : List It) : Option ρ :=
 (bsel (isTr (trF c) && isItems (itemsF l) && rightOk D (unTr (trF c)) (unItems (itemsF l)))
 (bsel (!rightV (unItems (itemsF l)) (unTr (trF c)))
 (ret (false))
 (c3n3 (x) (y) (s) (a) (b) (c) (d) (l)))
 none)
def T32n_3n3 {ρ : Type} (D : Nat) (ret : (Bool) → Option ρ) (c3n0 : (Int) → (Int) → (Int) → (Tr) → (Tr) → (Tr) → (Tr) → (List It) → Option ρ) (c3n1 : (Int) → (Int) → (Int) → (Tr) → (Tr) → (Tr) → (Tr) → (List It) → Option ρ) (c3n2 : (Int) → (Int) → (Int) → (Tr) → (Tr) → (Tr) → (Tr) → (List It) → Option ρ) (c3n3 : (Int) → (Int) → (Int) → (Tr) → (Tr) → (Tr) → (Tr) → (List It) → Option ρ) (c3n4 : (Int) → (Int) → (Int) → (Tr) → (Tr) → (Tr) → (Tr) → (List It) → Option ρ) (c10 : Option ρ) (x : Int) (y : Int) (s : Int) (a : Tr) (b : Tr) (c : Tr) (d : Tr) (l : List It) : Option ρ :=
 (bsel (isTr (trF d) && isItems (itemsF l) && rightOk D (unTr (trF d)) (unItems (itemsF l)))
 (bsel (!rightV (unItems (itemsF l)) (unTr (trF d)))
 (ret (false))
 (c3n4 (x) (y) (s) (a) (b) (c) (d) (l)))
 none)
def T32n_3n4 {ρ : Type} (D : Nat) (ret : (Bool) → Option ρ) (c3n0 : (Int) → (Int) → (Int) → (Tr) → (Tr) → (Tr) → (Tr) → (List It) → Option ρ) (c3n1 : (Int) → (Int) → (Int) → (Tr) → (Tr) → (Tr) → (Tr) → (List It) → Option ρ) (c3n2 : (Int) → (Int) → (Int) → (Tr) → (Tr) → (Tr) → (Tr) → (List It) → Option ρ) (c3n3 : (Int) → (Int) → (Int) → (Tr) → (Tr) → (Tr) → (Tr) → (List It) → Option ρ) (c3n4 : (Int) → (Int) → (Int) → (Tr) → (Tr) → (Tr) → (Tr) → (List It) → Option ρ) (c10 : Option ρ) (x : Int) (y : Int) (s : Int) (a : Tr) (b : Tr) (c : Tr) (d : Tr) (l : List It) : Option ρ :=
 (ret (true))
def T32n_10 {ρ : Type} (D : Nat) (ret : (Bool) → Option ρ) (c3n0 : (Int) → (Int) → (Int) → (Tr) → (Tr) → (Tr) → (Tr) → (List It) → Option ρ) (c3n1 : (Int) → (Int) → (Int) → (Tr) → (Tr) → (Tr) → (Tr) → (List It) → Option ρ) (c3n2 : (Int) → (Int) → (Int) → (Tr) → (Tr) → (Tr) → (Tr) → (List It) → Option ρ) (c3n3 : (Int) → (Int) → (Int) → (Tr) → (Tr) → (Tr) → (Tr) → (List It) → Option ρ) (c3n4 : (Int) → (Int) → (Int) → (Tr) → (Tr) → (Tr) → (Tr) → (List It) → Option ρ) (c10 : Option ρ)  : Option ρ :=
 none
mutual
def L32n_3n0 (D : Nat) : Nat → (Int) → (Int) → (Int) → (Tr) → (Tr) → (Tr) → (Tr) → (List It) → Option (Bool)
  | 0, _, _, _, _, _, _, _, _ => none
  | k + 1, x, y, s, a, b, c, d, l => T32n_3n0 D some (L32n_3n0 D k) (L32n_3n1 D k) (L32n_3n2 D k) (L32n_3n3 D k) (L32n_3n4 D k) (L32n_10 D k) x y s a b c d l
def L32n_3n1 (D : Nat) : Nat → (Int) → (Int) → (Int) → (Tr) → (Tr) → (Tr) → (Tr) → (List It) → Option (Bool)
  | 0, _, _, _, _, _, _, _, _ => none
  | k + 1, x, y, s, a, b, c, d, l => T32n_3n1 D some (L32n_3n0 D k) (L32n_3n1 D k) (L32n_3n2 D k) (L32n_3n3 D k) (L32n_3n4 D k) (L32n_10 D k) x y s a b c d l
def L32n_3n2 (D : Nat) : Nat → (Int) → (Int) → (Int) → (Tr) → (Tr) → (Tr) → (Tr) → (List It) → Option (Bool)
  | 0, _, _, _, _, _, _, _, _ => none
  | k + 1, x, y, s, a, b, c, d, l => T32n_3n2 D some (L32n_3n0 D k) (L32n_3n1 D k) (L32n_3n2 D k) (L32n_3n3 D k) (L32n_3n4 D k) (L32n_10 D k) x y s a b c d l
def L32n_3n3 (D : Nat) : Nat → (Int) → (Int) → (Int) → (Tr) → (Tr) → (Tr) → (Tr) → (List It) → Option (Bool)
  | 0, _, _, _, _, _, _, _, _ => none
  | k + 1, x, y, s, a, b, c, d, l => T32n_3n3 D some (L32n_3n0 D k) (L32n_3n1 D k) (L32n_3n2 D k) (L32n_3n3 D k) (L32n_3n4 D k) (L32n_10 D k) x y s a b c d l
def L32n_3n4 (D : Nat) : Nat → (Int) → (Int) → (Int) → (Tr) → (Tr) → (Tr) → (Tr) → (List It) → Option (Bool)
  | 0, _, _, _, _, _, _, _, _ => none
  | k + 1, x, y, s, a, b, c, d, l => T32n_3n4 D some (L32n_3n0 D k) (L32n_3n1 D k) (L32n_3n2 D k) (L32n_3n3 D k) (L32n_3n4 D k) (L32n_10 D k) x y s a b c d l
def L32n_10 (D : Nat) : Nat → Option (Bool)
  | 0 => none
  | k + 1 => T32n_10 D some (L32n_3n0 D k) (L32n_3n1 D k) (L32n_3n2 D k) (L32n_3n3 D k) (L32n_3n4 D k) (L32n_10 D k) 
end
def T32n {ρ : Type} (D : Nat) (ret : (Bool) → Option ρ) (c3n0 : (Int) → (Int) → (Int) → (Tr) → (Tr) → (Tr) → (Tr) → (List It) → Option ρ) (c3n1 : (Int) → (Int) → (Int) → (Tr) → (Tr) → (Tr) → (Tr) → (List It) → Option ρ) (c3n2 : (Int) → (Int) → (Int) → (Tr) → (Tr) → (Tr) → (Tr) → (List It) → Option ρ) (c3n3 : (Int) → (Int) → (Int) → (Tr) → (Tr) → (Tr) → (Tr) → (List It) → Option ρ) (c3n4 : (Int) → (Int) → (Int) → (Tr) → (Tr) → (Tr) → (Tr) → (List It) → Option ρ) (c10 : Option ρ) (x : Int) (y : Int) (s : Int) (a : Tr) (b : Tr) (c : Tr) (d : Tr) (l : List It) : Option ρ :=
 (c3n0 ((Tr.node x y s a b c d).x) ((Tr.node x y s a b c d).y) ((Tr.node x y s a b c d).size) (a) (b) (c) (d) (l))
def G32n (D : Nat) (k : Nat) (x : Int) (y : Int) (s : Int) (a : Tr) (b : Tr) (c : Tr) (d : Tr) (l : List It) : Option (Bool) := T32n D some (L32n_3n0 D k) (L32n_3n1 D k) (L32n_3n2 D k) (L32n_3n3 D k) (L32n_3n4 D k) (L32n_10 D k) x y s a b c d l
mutual
theorem t32n_3n0 (D : Nat) (hE : EnvOK Tryz.prog (envRt D)) : ∀ (k : Nat) (x : Int) (y : Int) (s : Int) (a : Tr) (b : Tr) (c : Tr) (d : Tr) (l : List It) (r : Bool), L32n_3n0 D k x y s a b c d l = some r → Ends Tryz.prog Tryz.f32.results.toList (at_ Tryz.f32 3) (S32n_3n0 x y s a b c d l) (F.bool r)
  | 0, _, _, _, _, _, _, _, _, _, h => nomatch h
  | k + 1, x, y, s, a, b, c, d, l, r, h => by
    refine Ends.of_cut tyOK hE (T := [(3, [1, 2, 5], 1000), (10, [1, 2, 6, 7], 1000)]) (n := 200) ?_
    have e : runCut Tryz.prog (tiOf Tryz.prog) (envRt D) [(3, [1, 2, 5], 1000), (10, [1, 2, 6, 7], 1000)] 0 Tryz.f32.results.toList some 200 (at_ Tryz.f32 3) (S32n_3n0 x y s a b c d l) = T32n_3n0 D (fun r => some (.ret (F.bool r))) (fun x y s a b c d l => some (.cut (at_ Tryz.f32 3) (S32n_3n0 x y s a b c d l))) (fun x y s a b c d l => some (.cut (at_ Tryz.f32 3) (S32n_3n1 x y s a b c d l))) (fun x y s a b c d l => some (.cut (at_ Tryz.f32 3) (S32n_3n2 x y s a b c d l))) (fun x y s a b c d l => some (.cut (at_ Tryz.f32 3) (S32n_3n3 x y s a b c d l))) (fun x y s a b c d l => some (.cut (at_ Tryz.f32 3) (S32n_3n4 x y s a b c d l))) (some (.cut (at_ Tryz.f32 10) (S32n_10 ))) x y s a b c d l := by kernel_rfl
    rw [e]
    exact (good_sel h (fun _ h => (good_sel h (fun _ h => good_ret (by cases h; rfl)) (fun _ h => good_cut (t32n_3n1 D hE k _ _ _ _ _ _ _ _ r h)))) (fun _ h => nomatch h))
theorem t32n_3n1 (D : Nat) (hE : EnvOK Tryz.prog (envRt D)) : ∀ (k : Nat) (x : Int) (y : Int) (s : Int) (a : Tr) (b : Tr) (c : Tr) (d : Tr) (l : List It) (r : Bool), L32n_3n1 D k x y s a b c d l = some r → Ends Tryz.prog Tryz.f32.results.toList (at_ Tryz.f32 3) (S32n_3n1 x y s a b c d l) (F.bool r)
  | 0, _, _, _, _, _, _, _, _, _, h => nomatch h
  | k + 1, x, y, s, a, b, c, d, l, r, h => by
    refine Ends.of_cut tyOK hE (T := [(3, [1, 2, 5], 1000), (10, [1, 2, 6, 7], 1000)]) (n := 200) ?_
    have e : runCut Tryz.prog (tiOf Tryz.prog) (envRt D) [(3, [1, 2, 5], 1000), (10, [1, 2, 6, 7], 1000)] 0 Tryz.f32.results.toList some 200 (at_ Tryz.f32 3) (S32n_3n1 x y s a b c d l) = T32n_3n1 D (fun r => some (.ret (F.bool r))) (fun x y s a b c d l => some (.cut (at_ Tryz.f32 3) (S32n_3n0 x y s a b c d l))) (fun x y s a b c d l => some (.cut (at_ Tryz.f32 3) (S32n_3n1 x y s a b c d l))) (fun x y s a b c d l => some (.cut (at_ Tryz.f32 3) (S32n_3n2 x y s a b c d l))) (fun x y s a b c d l => some (.cut (at_ Tryz.f32 3) (S32n_3n3 x y s a b c d l))) (fun x y s a b c d l => some (.cut (at_ Tryz.f32 3) (S32n_3n4 x y s a b c d l))) (some (.cut (at_ Tryz.f32 10) (S32n_10 ))) x y s a b c d l := by kernel_rfl
    rw [e]
    exact (good_sel h (fun _ h => (good_sel h (fun _ h => good_ret (by cases h; rfl)) (fun _ h => good_cut (t32n_3n2 D hE k _ _ _ _ _ _ _ _ r h)))) (fun _ h => nomatch h))
theorem t32n_3n2 (D : Nat) (hE : EnvOK Tryz.prog (envRt D)) : ∀ (k : Nat) (x : Int) (y : Int) (s : Int) (a : Tr) (b : Tr) (c : Tr) (d : Tr) (l : List It) (r : Bool), L32n_3n2 D k x y s a b c d l = some r → Ends Tryz.prog Tryz.f32.results.toList (at_ Tryz.f32 3) (S32n_3n2 x y s a b c d l) (F.bool r)
  | 0, _, _, _, _, _, _, _, _, _, h => nomatch h
  | k + 1, x, y, s, a, b, c, d, l, r, h => by
    refine Ends.of_cut tyOK hE (T := [(3, [1, 2, 5], 1000), (10, [1, 2, 6, 7], 1000)]) (n := 200) ?_
    have e : runCut Tryz.prog (tiOf Tryz.prog) (envRt D) [(3, [1, 2, 5], 1000), (10, [1, 2, 6, 7], 1000)] 0 Tryz.f32.results.toList some 200 (at_ Tryz.f32 3) (S32n_3n2 x y s a b c d l) = T32n_3n2 D (fun r => some (.ret (F.bool r))) (fun x y s a b c d l => some (.cut (at_ Tryz.f32 3) (S32n_3n0 x y s a b c d l))) (fun x y s a b c d l => some (.cut (at_ Tryz.f32 3) (S32n_3n1 x y s a b c d l))) (fun x y s a b c d l => some (.cut (at_ Tryz.f32 3) (S32n_3n2 x y s a b c d l))) (fun x y s a b c d l => some (.cut (at_ Tryz.f32 3) (S32n_3n3 x y s a b c d l))) (fun x y s a b c d l => some (.cut (at_ Tryz.f32 3) (S32n_3n4 x y s a b c d l))) (some (.cut (at_ Tryz.f32 10) (S32n_10 ))) x y s a b c d l := by kernel_rfl
    rw [e]
    exact (good_sel h (fun _ h => (good_sel h (fun _ h => good_ret (by cases h; rfl)) (fun _ h => good_cut (t32n_3n3 D hE k _ _ _ _ _ _ _ _ r h)))) (fun _ h => nomatch h))
theorem t32n_3n3 (D : Nat) (hE : EnvOK Tryz.prog (envRt D)) : ∀ (k : Nat) (x : Int) (y : Int) (s : Int) (a : Tr) (b : Tr) (c : Tr) (d : Tr) (l : List It) (r : Bool), L32n_3n3 D k x y s a b c d l = some r → Ends Tryz.prog Tryz.f32.results.toList (at_ Tryz.f32 3) (S32n_3n3 x y s a b c d l) (F.bool r)
  | 0, _, _, _, _, _, _, _, _, _, h => nomatch h
  | k + 1, x, y, s, a, b, c, d, l, r, h => by
    refine Ends.of_cut tyOK hE (T := [(3, [1, 2, 5], 1000), (10, [1, 2, 6, 7], 1000)]) (n := 200) ?_
    have e : runCut Tryz.prog (tiOf Tryz.prog) (envRt D) [(3, [1, 2, 5], 1000), (10, [1, 2, 6, 7], 1000)] 0 Tryz.f32.results.toList some 200 (at_ Tryz.f32 3) (S32n_3n3 x y s a b c d l) = T32n_3n3 D (fun r => some (.ret (F.bool r))) (fun x y s a b c d l => some (.cut (at_ Tryz.f32 3) (S32n_3n0 x y s a b c d l))) (fun x y s a b c d l => some (.cut (at_ Tryz.f32 3) (S32n_3n1 x y s a b c d l))) (fun x y s a b c d l => some (.cut (at_ Tryz.f32 3) (S32n_3n2 x y s a b c d l))) (fun x y s a b c d l => some (.cut (at_ Tryz.f32 3) (S32n_3n3 x y s a b c d l))) (fun x y s a b c d l => some (.cut (at_ Tryz.f32 3) (S32n_3n4 x y s a b c d l))) (some (.cut (at_ Tryz.f32 10) (S32n_10 ))) x y s a b c d l := by kernel_rfl
    rw [e]
    exact (good_sel h (fun _ h => (good_sel h (fun _ h => good_ret (by cases h; rfl)) (fun _ h => good_cut (t32n_3n4 D hE k _ _ _ _ _ _ _ _ r h)))) (fun _ h => nomatch h))
theorem t32n_3n4 (D : Nat) (hE : EnvOK Tryz.prog (envRt D)) : ∀ (k : Nat) (x : Int) (y : Int) (s : Int) (a : Tr) (b : Tr) (c : Tr) (d : Tr) (l : List It) (r : Bool), L32n_3n4 D k x y s a b c d l = some r → Ends Tryz.prog Tryz.f32.results.toList (at_ Tryz.f32 3) (S32n_3n4 x y s a b c d l) (F.bool r)
  | 0, _, _, _, _, _, _, _, _, _, h => nomatch h
  | k + 1, x, y, s, a, b, c, d, l, r, h => by
    refine Ends.of_cut tyOK hE (T := [(3, [1, 2, 5], 1000), (10, [1, 2, 6, 7], 1000)]) (n := 200) ?_
    have e : runCut Tryz.prog (tiOf Tryz.prog) (envRt D) [(3, [1, 2, 5], 1000), (10, [1, 2, 6, 7], 1000)] 0 Tryz.f32.results.toList some 200 (at_ Tryz.f32 3) (S32n_3n4 x y s a b c d l) = T32n_3n4 D (fun r => some (.ret (F.bool r))) (fun x y s a b c d l => some (.cut (at_ Tryz.f32 3) (S32n_3n0 x y s a b c d l))) (fun x y s a b c d l => some (.cut (at_ Tryz.f32 3) (S32n_3n1 x y s a b c d l))) (fun x y s a b c d l => some (.cut (at_ Tryz.f32 3) (S32n_3n2 x y s a b c d l))) (fun x y s a b c d l => some (.cut (at_ Tryz.f32 3) (S32n_3n3 x y s a b c d l))) (fun x y s a b c d l => some (.cut (at_ Tryz.f32 3) (S32n_3n4 x y s a b c d l))) (some (.cut (at_ Tryz.f32 10) (S32n_10 ))) x y s a b c d l := by kernel_rfl
    rw [e]
    exact good_ret (by cases h; rfl)
theorem t32n_10 (D : Nat) (hE : EnvOK Tryz.prog (envRt D)) : ∀ (k : Nat)  (r : Bool), L32n_10 D k  = some r → Ends Tryz.prog Tryz.f32.results.toList (at_ Tryz.f32 10) (S32n_10 ) (F.bool r)
  | 0, _, h => nomatch h
  | k + 1, r, h => by
    refine Ends.of_cut tyOK hE (T := [(3, [1, 2, 5], 1000), (10, [1, 2, 6, 7], 1000)]) (n := 200) ?_
    have e : runCut Tryz.prog (tiOf Tryz.prog) (envRt D) [(3, [1, 2, 5], 1000), (10, [1, 2, 6, 7], 1000)] 0 Tryz.f32.results.toList some 200 (at_ Tryz.f32 10) (S32n_10 ) = T32n_10 D (fun r => some (.ret (F.bool r))) (fun x y s a b c d l => some (.cut (at_ Tryz.f32 3) (S32n_3n0 x y s a b c d l))) (fun x y s a b c d l => some (.cut (at_ Tryz.f32 3) (S32n_3n1 x y s a b c d l))) (fun x y s a b c d l => some (.cut (at_ Tryz.f32 3) (S32n_3n2 x y s a b c d l))) (fun x y s a b c d l => some (.cut (at_ Tryz.f32 3) (S32n_3n3 x y s a b c d l))) (fun x y s a b c d l => some (.cut (at_ Tryz.f32 3) (S32n_3n4 x y s a b c d l))) (some (.cut (at_ Tryz.f32 10) (S32n_10 )))  := by kernel_rfl
    rw [e]
    exact nomatch h
end
theorem t32n (D : Nat) (hE : EnvOK Tryz.prog (envRt D)) (k : Nat) (x : Int) (y : Int) (s : Int) (a : Tr) (b : Tr) (c : Tr) (d : Tr) (l : List It) (r : Bool) (h : G32n D k x y s a b c d l = some r) : Ends Tryz.prog Tryz.f32.results.toList [.code (bodyOf Tryz.f32)] (start Tryz.f32.ntmps ([trF (Tr.node x y s a b c d), itemsF l].map .f)) (F.bool r) := by
  refine Ends.of_run tyOK hE (T := [(3, [1, 2, 5], 1000), (10, [1, 2, 6, 7], 1000)]) (n := 200) ?_
  have e : run Tryz.prog (tiOf Tryz.prog) (envRt D) [(3, [1, 2, 5], 1000), (10, [1, 2, 6, 7], 1000)] 0 Tryz.f32.results.toList some 200 [.code (bodyOf Tryz.f32)] (start Tryz.f32.ntmps ([trF (Tr.node x y s a b c d), itemsF l].map .f)) = T32n D (fun r => some (.ret (F.bool r))) (fun x y s a b c d l => some (.cut (at_ Tryz.f32 3) (S32n_3n0 x y s a b c d l))) (fun x y s a b c d l => some (.cut (at_ Tryz.f32 3) (S32n_3n1 x y s a b c d l))) (fun x y s a b c d l => some (.cut (at_ Tryz.f32 3) (S32n_3n2 x y s a b c d l))) (fun x y s a b c d l => some (.cut (at_ Tryz.f32 3) (S32n_3n3 x y s a b c d l))) (fun x y s a b c d l => some (.cut (at_ Tryz.f32 3) (S32n_3n4 x y s a b c d l))) (some (.cut (at_ Tryz.f32 10) (S32n_10 ))) x y s a b c d l := by kernel_rfl
  rw [e]
  exact good_cut (t32n_3n0 D hE k _ _ _ _ _ _ _ _ r h)
/-! ### function 32 -/
def S32l_10 (x : Int) (y : Int) (s : Int) (ids : List Int) (l : List It) (n : Int) (i : Int) : St := ⟨[.bad, (U.f (itemsF l)), (U.hp 0 0), .bad, .bad, .bad, (U.f (F.int .i64 n)), (U.f (F.int .i64 i)), .bad, .bad, .bad, .bad, .bad, .bad, .bad, .bad, .bad, .bad, .bad, .bad, .bad, .bad, .bad, .bad, .bad, .bad, .bad, .bad, .bad, .bad, .bad, .bad, .bad, .bad, .bad, .bad, .bad, .bad, .bad, .bad, .bad, .bad, .bad, .bad, .bad, .bad, .bad, .bad, .bad, .bad, .bad, .bad, .bad, .bad, .bad, .bad, .bad, .bad, .bad, .bad, .bad, .bad, .bad], [HO.box [(U.f (F.int .i64 x)), (U.f (F.int .i64 y)), (U.f (F.int .i64 s)), (U.f (F.sl 0 (kidG (Tr.leaf x y s ids)))), (U.f (intsF ids))]]⟩
def S32l_3  : St := ⟨[.bad, .bad, .bad, .bad, .bad, .bad, .bad, .bad, .bad, .bad, .bad, .bad, .bad, .bad, .bad, .bad, .bad, .bad, .bad, .bad, .bad, .bad, .bad, .bad, .bad, .bad, .bad, .bad, .bad, .bad, .bad, .bad, .bad, .bad, .bad, .bad, .bad, .bad, .bad, .bad, .bad, .bad, .bad, .bad, .bad, .bad, .bad, .bad, .bad, .bad, .bad, .bad, .bad, .bad, .bad, .bad, .bad, .bad, .bad, .bad, .bad, .bad, .bad], []⟩
def T32l_10 {ρ : Type} (D : Nat) (ret : (Bool) → Option ρ) (c10 : (Int) → (Int) → (Int) → (List Int) → (List It) → (Int) → (Int) → Option ρ) (c3 : Option ρ) (x : Int) (y : Int) (s : Int) (ids : List Int) (l : List It) (n : Int) (i : Int) : Option ρ :=
 (bsel (decide (i < (↑l.length : Int)))
 (bsel (decide (0 ≤ i))
 (bsel (decide (i < (↑l.length : Int)))
 (bsel (isTr (F.agg [F.int .i64 x, F.int .i64 y, F.int .i64 s, F.sl 0 fun x ↦ F.bool false, intsF ids]))
 (bsel (!trMeetsV (unTr (F.agg [F.int .i64 x, F.int .i64 y, F.int .i64 s, F.sl 0 fun x ↦ F.bool false, intsF ids])) (l.getD i.toNat It.zero).x0 (l.getD i.toNat It.zero).y0 (l.getD i.toNat It.zero).x1 (l.getD i.toNat It.zero).y1)
 (c10 (x) (y) (s) (ids) (l) (n) (IntKind.i64.wrap (i + 1)))
 (bsel (decide (n ≥ (↑ids.length : Int)) == false)
 (bsel (decide (0 ≤ n))
 (bsel (decide (n < (↑ids.length : Int)))
 (bsel (decide (0 ≤ i))
 (bsel (decide (i < (↑l.length : Int)))
 (bsel (ids.getD n.toNat 0 != (l.getD i.toNat It.zero).id)
 (ret (false))
 (c10 (x) (y) (s) (ids) (l) (IntKind.i64.wrap (n + 1)) (IntKind.i64.wrap (i + 1))))
 none)
 none)
 none)
 none)
 (ret (false))))
 none)
 none)
 none)
 (ret (n == (↑ids.length : Int))))
def T32l_3 {ρ : Type} (D : Nat) (ret : (Bool) → Option ρ) (c10 : (Int) → (Int) → (Int) → (List Int) → (List It) → (Int) → (Int) → Option ρ) (c3 : Option ρ)  : Option ρ :=
 none
mutual
def L32l_10 (D : Nat) : Nat → (Int) → (Int) → (Int) → (List Int) → (List It) → (Int) → (Int) → Option (Bool)
  | 0, _, _, _, _, _, _, _ => none
  | k + 1, x, y, s, ids, l, n, i => T32l_10 D some (L32l_10 D k) (L32l_3 D k) x y s ids l n i
def L32l_3 (D : Nat) : Nat → Option (Bool)
  | 0 => none
  | k + 1 => T32l_3 D some (L32l_10 D k) (L32l_3 D k) 
end
def T32l {ρ : Type} (D : Nat) (ret : (Bool) → Option ρ) (c10 : (Int) → (Int) → (Int) → (List Int) → (List It) → (Int) → (Int) → Option ρ) (c3 : Option ρ) (x : Int) (y : Int) (s : Int) (ids : List Int) (l : List It) : Option ρ :=
 (c10 ((Tr.leaf x y s ids).x) ((Tr.leaf x y s ids).y) ((Tr.leaf x y s ids).size) ((Tr.leaf x y s ids).ids) (l) (0) (0))
def G32l (D : Nat) (k : Nat) (x : Int) (y : Int) (s : Int) (ids : List Int) (l : List It) : Option (Bool) := T32l D some (L32l_10 D k) (L32l_3 D k) x y s ids l
mutual
theorem t32l_10 (D : Nat) (hE : EnvOK Tryz.prog (envRt D)) : ∀ (k : Nat) (x : Int) (y : Int) (s : Int) (ids : List Int) (l : List It) (n : Int) (i : Int) (r : Bool), L32l_10 D k x y s ids l n i = some r → Ends Tryz.prog Tryz.f32.results.toList (at_ Tryz.f32 10) (S32l_10 x y s ids l n i) (F.bool r)
  | 0, _, _, _, _, _, _, _, _, h => nomatch h
  | k + 1, x, y, s, ids, l, n, i, r, h => by
    refine Ends.of_cut tyOK hE (T := [(10, [1, 2, 6, 7], 1000), (3, [1, 2, 5], 1000)]) (n := 200) ?_
    have e : runCut Tryz.prog (tiOf Tryz.prog) (envRt D) [(10, [1, 2, 6, 7], 1000), (3, [1, 2, 5], 1000)] 0 Tryz.f32.results.toList some 200 (at_ Tryz.f32 10) (S32l_10 x y s ids l n i) = T32l_10 D (fun r => some (.ret (F.bool r))) (fun x y s ids l n i => some (.cut (at_ Tryz.f32 10) (S32l_10 x y s ids l n i))) (some (.cut (at_ Tryz.f32 3) (S32l_3 ))) x y s ids l n i := by kernel_rfl
    rw [e]
    exact (good_sel h (fun _ h => (good_sel h (fun _ h => (good_sel h (fun _ h => (good_sel h (fun _ h => (good_sel h (fun _ h => good_cut (t32l_10 D hE k _ _ _ _ _ _ _ r h)) (fun _ h => (good_sel h (fun _ h => (good_sel h (fun _ h => (good_sel h (fun _ h => (good_sel h (fun _ h => (good_sel h (fun _ h => (good_sel h (fun _ h => good_ret (by cases h; rfl)) (fun _ h => good_cut (t32l_10 D hE k _ _ _ _ _ _ _ r h)))) (fun _ h => nomatch h))) (fun _ h => nomatch h))) (fun _ h => nomatch h))) (fun _ h => nomatch h))) (fun _ h => good_ret (by cases h; rfl)))))) (fun _ h => nomatch h))) (fun _ h => nomatch h))) (fun _ h => nomatch h))) (fun _ h => good_ret (by cases h; rfl)))
theorem t32l_3 (D : Nat) (hE : EnvOK Tryz.prog (envRt D)) : ∀ (k : Nat)  (r : Bool), L32l_3 D k  = some r → Ends Tryz.prog Tryz.f32.results.toList (at_ Tryz.f32 3) (S32l_3 ) (F.bool r)
  | 0, _, h => nomatch h
  | k + 1, r, h => by
    refine Ends.of_cut tyOK hE (T := [(10, [1, 2, 6, 7], 1000), (3, [1, 2, 5], 1000)]) (n := 200) ?_
    have e : runCut Tryz.prog (tiOf Tryz.prog) (envRt D) [(10, [1, 2, 6, 7], 1000), (3, [1, 2, 5], 1000)] 0 Tryz.f32.results.toList some 200 (at_ Tryz.f32 3) (S32l_3 ) = T32l_3 D (fun r => some (.ret (F.bool r))) (fun x y s ids l n i => some (.cut (at_ Tryz.f32 10) (S32l_10 x y s ids l n i))) (some (.cut (at_ Tryz.f32 3) (S32l_3 )))  := by kernel_rfl
    rw [e]
    exact nomatch h
end
theorem t32l (D : Nat) (hE : EnvOK Tryz.prog (envRt D)) (k : Nat) (x : Int) (y : Int) (s : Int) (ids : List Int) (l : List It) (r : Bool) (h : G32l D k x y s ids l = some r) : Ends Tryz.prog Tryz.f32.results.toList [.code (bodyOf Tryz.f32)] (start Tryz.f32.ntmps ([trF (Tr.leaf x y s ids), itemsF l].map .f)) (F.bool r) := by
  refine Ends.of_run tyOK hE (T := [(10, [1, 2, 6, 7], 1000), (3, [1, 2, 5], 1000)]) (n := 200) ?_
  have e : run Tryz.prog (tiOf Tryz.prog) (envRt D) [(10, [1, 2, 6, 7], 1000), (3, [1, 2, 5], 1000)] 0 Tryz.f32.results.toList some 200 [.code (bodyOf Tryz.f32)] (start Tryz.f32.ntmps ([trF (Tr.leaf x y s ids), itemsF l].map .f)) = T32l D (fun r => some (.ret (F.bool r))) (fun x y s ids l n i => some (.cut (at_ Tryz.f32 10) (S32l_10 x y s ids l n i))) (some (.cut (at_ Tryz.f32 3) (S32l_3 ))) x y s ids l := by kernel_rfl
  rw [e]
  exact good_cut (t32l_10 D hE k _ _ _ _ _ _ _ r h)
theorem ck_loop (D : Nat) (q : Qd) (deep : Int) (hf : fewV q = true) (hd : 0 ≤ deep ∧ deep ≤ 8) (hok : ∀ a, 0 ≤ a → checkOk D q a (deep + 1) = true) (ks : List Bk) (hk : ks.length ≤ 4) : ∀ (m i : Nat) (at1 : Int), i + m = ks.length → 0 ≤ at1 →
    L42_14 D (m + 1) q at1 deep ks i = some (ckKids (fun a b => checkV D q a b (deep + 1)) (ks.drop i) at1)
  | 0, i, at1, h, ha => by
    have c1 : decide ((i : Int) < (ks.length : Int)) = false := decide_eq_false (by omega)
    simp only [L42_14, T42_14, c1, bsel_false]
    rw [List.drop_eq_nil_of_le (by omega)]
    rfl
  | m + 1, i, at1, h, ha => by
    have hi : i < ks.length := by omega
    have c1 : decide ((i : Int) < (ks.length : Int)) = true := decide_eq_true (by omega)
    have c2 : decide (0 ≤ (i : Int)) = true := decide_eq_true (by omega)
    have hw : IntKind.i64.wrap ((i : Int) + 1) = ((i + 1 : Nat) : Int) := by rw [wrapi (by omega) (by omega)]; omega
    have hw2 : IntKind.i64.wrap (deep + 1) = deep + 1 := wrapi (by omega) (by omega)
    have h1 : ks.getD i .zero = ks[i] := by simp [List.getD, List.getElem?_eq_getElem hi]
    have c3 := hok at1 ha
    rw [L42_14]
    simp only [T42_14, c1, c2, hw, hw2, bsel_true, Int.toNat_natCast, isQd_qdF, unQd_qdF, isBk_bkF, unBk_bkF, hf, c3, Bool.and_true]
    rw [List.drop_eq_getElem_cons hi, ckKids, h1]
    cases hc : decide (checkV D q at1 ks[i] (deep + 1) < 0) with
    | true => rfl
    | false =>
      have h2 : 0 ≤ checkV D q at1 ks[i] (deep + 1) := by have := of_decide_eq_false hc; omega
      exact ck_loop D q deep hf hd hok ks hk m (i + 1) _ (by omega) h2
theorem check_step (D : Nat) (q : Qd) (at1 : Int) (due : Bk) (deep : Int) (hf : fewV q = true) (ho : checkOk (D + 1) q at1 deep = true) : G42 D 5 q at1 due deep = some (checkV (D + 1) q at1 due deep) := by
  simp only [checkOk, Bool.and_eq_true, decide_eq_true_eq] at ho
  obtain ⟨⟨⟨⟨⟨o1, o2⟩, o3⟩, o4⟩, o5⟩, o6⟩ := ho
  have hlen := (allShort_iff.1 o1).1
  unfold G42 T42
  rw [checkV]
  cases h1 : decide (at1 ≥ (q.blocks.length : Int)) with
  | true => rfl
  | false =>
    have h1' := of_decide_eq_false h1
    have c2 : decide (0 ≤ at1) = true := decide_eq_true o2
    have c3 : decide (at1 < (q.blocks.length : Int)) = true := decide_eq_true (by omega)
    have c4 := short_at o1 (i := at1.toNat) (by omega)
    have hw : IntKind.i64.wrap (at1 + 1) = at1 + 1 := wrapi (by omega) (by omega)
    generalize q.blocks.getD at1.toNat Bk.zero = b at c4 ⊢
    simp only [c2, c3, bsel_true, bsel_false, cond_false, isInts_intsF, unInts_intsF, c4, Bool.and_true, isQd_qdF, unQd_qdF, hf, isBk_bkF, unBk_bkF, hw]
    cases hx : (b.x != due.x) with
    | true => rfl
    | false => cases hy : (b.y != due.y) with
      | true => rfl
      | false => cases hz : (b.size != due.size) with
        | true => rfl
        | false => cases hs : b.split with
          | false => cases hv : sameV b.ids due.ids <;> rfl
          | true => cases hl : decide ((b.ids.length : Int) > 0) with
            | true => rfl
            | false => cases hd : (deep == q.deep) with
              | true => rfl
              | false =>
                have hd' : deep ≠ q.deep := by simpa using hd
                refine ck_loop D q deep hf (by omega) (fun a ha => ?_) (kidsV q due) (by exact Nat.le_refl 4) 4 0 (at1 + 1) rfl (by omega)
                simp only [checkOk, Bool.and_eq_true, decide_eq_true_eq]
                exact ⟨⟨⟨⟨⟨o1, ha⟩, by omega⟩, by omega⟩, o5⟩, by omega⟩
theorem okCheck : ∀ D, PureOK Tryz.prog 42 (preCk D) (resCk D)
  | 0 => by
    intro xs hp
    exfalso
    unfold preCk at hp
    split at hp
    · simp only [checkOk, Bool.and_eq_true, decide_eq_true_eq] at hp
      omega
    · cases hp
  | D + 1 => fn_pure_at (c := bodyOf Tryz.f42) Tryz.func42 (by kernel_rfl) (by kernel_rfl) fun xs hp => match xs, hp with
    | [q, .int .i64 a, due, .int .i64 deep], hp => by
      simp only [preCk, Bool.and_eq_true] at hp
      obtain ⟨⟨⟨h1, h2⟩, h3⟩, h4⟩ := hp
      exact ⟨[qdF (unQd q), .int .i64 a, bkF (unBk due), .int .i64 deep], _, ⟨(qd_eqv h1).1, .refl _, FLe.bk h3, .refl _, trivial⟩, t42 D (Env.add_ok envQ3_ok (okCheck D).sp) 5 _ _ _ _ _ (check_step D _ _ _ _ h2 h4), .refl _⟩
/-! The reader of trees. -/
def klist : Nat → Int → List Int
  | 0, _ => []
  | m + 1, j => j :: klist m (j + 1)
def rdF (D : Nat) (l : List Bk) (x y sz deep : Int) : Int → Int → Tr × Int × Bool := fun a k => readV D l a (IntKind.i64.wrap (x + IntKind.i64.wrap ((k.tmod 2) * halfV sz))) (IntKind.i64.wrap (y + IntKind.i64.wrap (IntKind.i64.wrap (k.tdiv 2) * halfV sz))) (halfV sz) (deep - 1)
theorem rdKids_pos {f : Int → Int → Tr × Int × Bool} (hf : ∀ a k, 0 ≤ a → (f a k).2.2 = true → 0 ≤ (f a k).2.1) : ∀ (ks : List Int) (a : Int) (ts : List Tr) (p : Int), 0 ≤ a → rdKids f ks a = some (ts, p) → 0 ≤ p
  | [], a, ts, p, ha, h => by simp only [rdKids, Option.some.injEq, Prod.mk.injEq] at h; omega
  | k :: ks, a, ts, p, ha, h => by
    rw [rdKids] at h
    cases hc : (f a k).2.2 with
    | false => rw [hc] at h; cases h
    | true =>
      rw [hc, cond_true] at h
      cases hr : rdKids f ks (f a k).2.1 with
      | none => rw [hr] at h; cases h
      | some r =>
        obtain ⟨ts', p'⟩ := r
        rw [hr] at h
        simp only [Option.some.injEq, Prod.mk.injEq] at h
        rw [← h.2]
        exact rdKids_pos hf ks _ _ _ (hf a k ha hc) hr
theorem read_pos : ∀ (D : Nat) (l : List Bk) (a x y sz deep : Int), 0 ≤ a → (readV D l a x y sz deep).2.2 = true → 0 ≤ (readV D l a x y sz deep).2.1
  | 0, l, a, x, y, sz, deep, ha, h => Int.le_refl 0
  | D + 1, l, a, x, y, sz, deep, ha, h => by
    have ih := read_pos D l
    rw [readV] at h ⊢
    generalize decide (a ≥ (l.length : Int)) = c1 at h ⊢
    generalize l.getD a.toNat .zero = b at h ⊢
    cases c1 with
    | true => exact Int.le_refl 0
    | false =>
      simp only [cond_false] at h ⊢
      generalize (b.x != x || b.y != y || b.size != sz || (b.split && (decide (deep < 1) || decide ((b.ids.length : Int) > 0)))) = c2 at h ⊢
      cases c2 with
      | true => exact Int.le_refl 0
      | false =>
        simp only [cond_false] at h ⊢
        cases b.split with
        | false => simp only [Bool.not_false, cond_true]; omega
        | true =>
          simp only [Bool.not_true, cond_false]
          split
          · rename_i p hr
            exact rdKids_pos (fun a' k ha' hb => ih a' _ _ _ _ ha' hb) _ _ _ _ (by omega) hr
          · exact Int.le_refl 0
abbrev RdRet := Int × Int × Int × Nat × (Nat → F) × Nat × (Nat → F) × Int × Bool
def rdFail : RdRet := (0, 0, 0, 0, fun _ => F.bool false, 0, fun _ => F.bool false, 0, false)
section
variable (D : Nat) (l : List Bk) (x y sz deep : Int) (dn : Nat) (dg : Nat → F) (hd : 0 ≤ deep ∧ deep ≤ 8) (hok : ∀ a, 0 ≤ a → readOk D l a (deep - 1) = true)
include hd hok
theorem rd_b : ∀ (m : Nat) (j at1 : Int) (n : Nat) (g : Nat → F) (o : List Tr), 0 ≤ j → j + m = 4 → n ≤ 4 - m → 0 ≤ at1 → Lists trF .zero n g o →
    match rdKids (rdF D l x y sz deep) (klist m j) at1 with
    | none => L31_11b D (m + 1) l at1 x y sz deep j dn dg n g = some rdFail
    | some (ts, p) => ts.length = m ∧ ∃ g1, L31_11b D (m + 1) l at1 x y sz deep j dn dg n g = some (x, y, sz, n + m, g1, dn, dg, p, true) ∧ Lists trF .zero (n + m) g1 (o ++ ts)
  | 0, j, at1, n, g, o, hj, h, hn, ha, hg => by
    have c1 : decide (j < 4) = false := decide_eq_false (by omega)
    simp only [klist, rdKids]
    refine ⟨rfl, g, ?_, by simpa using hg⟩
    simp only [L31_11b, T31_11b, c1, bsel_false, decide_true, bsel_true, Nat.add_zero]
  | m + 1, j, at1, n, g, o, hj, h, hn, ha, hg => by
    have c1 : decide (j < 4) = true := decide_eq_true (by omega)
    have hw : IntKind.i64.wrap (j + 1) = j + 1 := wrapi (by omega) (by omega)
    have hw2 : IntKind.i64.wrap (deep - 1) = deep - 1 := wrapi (by omega) (by omega)
    have c3 : decide (((n + 1 : Nat) : Int) * (((72 : Nat) : Int) + 1) ≤ (limit : Int)) = true := by rw [limit_eq]; exact decide_eq_true (by omega)
    have c4 := hok at1 ha
    have hrd : readV D l at1 (IntKind.i64.wrap (x + IntKind.i64.wrap (j.tmod 2 * IntKind.i64.wrap (sz.tdiv 2)))) (IntKind.i64.wrap (y + IntKind.i64.wrap (IntKind.i64.wrap (j.tdiv 2) * IntKind.i64.wrap (sz.tdiv 2)))) (IntKind.i64.wrap (sz.tdiv 2)) (deep - 1) = rdF D l x y sz deep at1 j := rfl
    rw [L31_11b]
    simp only [T31_11b, c1, c3, hw, hw2, bsel_true, isBlocks_blocksF, unBlocks_blocksF, c4, Bool.and_true, decide_true, hrd, klist, rdKids]
    cases hc : (rdF D l x y sz deep at1 j).2.2 with
    | false => rfl
    | true =>
      have hp : 0 ≤ (rdF D l x y sz deep at1 j).2.1 := read_pos D l _ _ _ _ _ ha hc
      have ih := rd_b m (j + 1) (rdF D l x y sz deep at1 j).2.1 (n + 1) _ (o ++ [(rdF D l x y sz deep at1 j).1]) (by omega) (by omega) (by omega) hp (hg.push (rdF D l x y sz deep at1 j).1)
      simp only [cond_true, Bool.not_true, bsel_false]
      cases hr : rdKids (rdF D l x y sz deep) (klist m (j + 1)) (rdF D l x y sz deep at1 j).2.1 with
      | none => rw [hr] at ih; exact ih
      | some r =>
        obtain ⟨ts, p⟩ := r
        rw [hr] at ih
        obtain ⟨h1, g1, e1, e2⟩ := ih
        refine ⟨by simp [h1], g1, ?_, ?_⟩
        · rw [show n + (m + 1) = n + 1 + m by omega]; exact e1
        · rw [show n + (m + 1) = n + 1 + m by omega]; simpa using e2
theorem rd_a (at1 : Int) (ha : 0 ≤ at1) :
    match rdKids (rdF D l x y sz deep) [0, 1, 2, 3] at1 with
    | none => L31_11a D 5 l at1 x y sz deep 0 dn dg = some rdFail
    | some (ts, p) => ts.length = 4 ∧ ∃ g1, L31_11a D 5 l at1 x y sz deep 0 dn dg = some (x, y, sz, 4, g1, dn, dg, p, true) ∧ Lists trF .zero 4 g1 ts := by
  have c1 : decide ((0 : Int) < 4) = true := rfl
  have hw : IntKind.i64.wrap ((0 : Int) + 1) = 1 := wrapi (by omega) (by omega)
  have hw2 : IntKind.i64.wrap (deep - 1) = deep - 1 := wrapi (by omega) (by omega)
  have c3 : decide (((1 : Nat) : Int) * (((72 : Nat) : Int) + 1) ≤ (limit : Int)) = true := by rw [limit_eq]; exact decide_eq_true (by omega)
  have c4 := hok at1 ha
  have hrd : readV D l at1 (IntKind.i64.wrap (x + IntKind.i64.wrap ((0 : Int).tmod 2 * IntKind.i64.wrap (sz.tdiv 2)))) (IntKind.i64.wrap (y + IntKind.i64.wrap (IntKind.i64.wrap ((0 : Int).tdiv 2) * IntKind.i64.wrap (sz.tdiv 2)))) (IntKind.i64.wrap (sz.tdiv 2)) (deep - 1) = rdF D l x y sz deep at1 0 := rfl
  rw [L31_11a]
  simp only [T31_11a, c1, c3, hw, hw2, bsel_true, isBlocks_blocksF, unBlocks_blocksF, c4, Bool.and_true, decide_true, hrd]
  rw [rdKids]
  cases hc : (rdF D l x y sz deep at1 0).2.2 with
  | false => rfl
  | true =>
    have hp : 0 ≤ (rdF D l x y sz deep at1 0).2.1 := read_pos D l _ _ _ _ _ ha hc
    have ih := rd_b D l x y sz deep dn dg hd hok 3 1 (rdF D l x y sz deep at1 0).2.1 1 _ [(rdF D l x y sz deep at1 0).1] (by omega) (by omega) (by omega) hp (Lists.one (enc := trF) (d := .zero) (rdF D l x y sz deep at1 0).1)
    simp only [cond_true, Bool.not_true, bsel_false]
    have hk : klist 3 1 = [1, 2, 3] := rfl
    rw [hk] at ih
    cases hr : rdKids (rdF D l x y sz deep) [1, 2, 3] (rdF D l x y sz deep at1 0).2.1 with
    | none => rw [hr] at ih; exact ih
    | some r =>
      obtain ⟨ts, p⟩ := r
      rw [hr] at ih
      obtain ⟨h1, g1, e1, e2⟩ := ih
      exact ⟨by simp [h1], g1, e1, e2⟩
end
def rdVal (r : RdRet) : F := F.tup [F.agg [F.int .i64 r.1, F.int .i64 r.2.1, F.int .i64 r.2.2.1, F.sl r.2.2.2.1 r.2.2.2.2.1, F.sl r.2.2.2.2.2.1 r.2.2.2.2.2.2.1], F.int .i64 r.2.2.2.2.2.2.2.1, F.bool r.2.2.2.2.2.2.2.2]
def rdOut (v : Tr × Int × Bool) : F := .tup [trF v.1, .int .i64 v.2.1, .bool v.2.2]
theorem fail_le : FLe (rdVal rdFail) (rdOut (.zero, 0, false)) :=
  FLe.tup ⟨FLe.agg ⟨.refl _, .refl _, .refl _, FLe.sl fun j hj => absurd hj (Nat.not_lt_zero _), FLe.sl fun j hj => absurd hj (Nat.not_lt_zero _), trivial⟩, .refl _, .refl _, trivial⟩
theorem one_app {n j : Nat} {g : Nat → F} (h : j < n) : one n g j = g j := by
  match n, h with
  | 1, h =>
    have : j = 0 := by omega
    rw [this]; rfl
  | n + 2, h => rfl
theorem ids_lists (l : List Int) : Lists i64F 0 (0 + l.length) (fun j => if j < 0 then lget [] j else one l.length (fun i => i64F (l.getD i 0)) (j - 0)) l := by
  refine ⟨by omega, fun j hj => ?_⟩
  simp only [Nat.not_lt_zero, if_false, Nat.sub_zero]
  exact one_app (by omega)
theorem leaf_le {x y sz p : Int} {n dn : Nat} {g dg : Nat → F} {ids : List Int} (hn : n = 0) (hd : Lists i64F 0 dn dg ids) : FLe (rdVal (x, y, sz, n, g, dn, dg, p, true)) (rdOut (.leaf x y sz ids, p, true)) := by
  subst hn
  exact FLe.tup ⟨FLe.agg ⟨.refl _, .refl _, .refl _, FLe.sl fun j hj => absurd hj (Nat.not_lt_zero _), hd.le, trivial⟩, .refl _, .refl _, trivial⟩
theorem node_le {x y sz p : Int} {dn : Nat} {g dg : Nat → F} {a b c d : Tr} (hg : Lists trF .zero 4 g [a, b, c, d]) (hd : Lists i64F 0 dn dg []) : FLe (rdVal (x, y, sz, 4, g, dn, dg, p, true)) (rdOut (.node x y sz a b c d, p, true)) := by
  refine FLe.tup ⟨FLe.agg ⟨.refl _, .refl _, .refl _, FLe.sl fun j hj => ?_, hd.le, trivial⟩, .refl _, .refl _, trivial⟩
  have e : g j = trF ([a, b, c, d].getD j .zero) := hg.2 j hj
  show g j = kidG (.node x y sz a b c d) j
  rw [e]
  have hj : j < 4 := hj
  have : j = 0 ∨ j = 1 ∨ j = 2 ∨ j = 3 := by omega
  rcases this with rfl | rfl | rfl | rfl <;> rfl
theorem read_step (D : Nat) (l : List Bk) (at1 x y sz deep : Int) (ho : readOk (D + 1) l at1 deep = true) : ∃ r, G31 D 5 l at1 x y sz deep = some r ∧ FLe (rdVal r) (rdOut (readV (D + 1) l at1 x y sz deep)) := by
  simp only [readOk, Bool.and_eq_true, decide_eq_true_eq] at ho
  obtain ⟨⟨⟨⟨o1, o2⟩, o3⟩, o4⟩, o5⟩ := ho
  have hlen := (allShort_iff.1 o1).1
  unfold G31 T31
  rw [readV]
  cases h1 : decide (at1 ≥ (l.length : Int)) with
  | true => exact ⟨rdFail, rfl, fail_le⟩
  | false =>
    have h1' := of_decide_eq_false h1
    have c2 : decide (0 ≤ at1) = true := decide_eq_true o2
    have c3 : decide (at1 < (l.length : Int)) = true := decide_eq_true (by omega)
    have c4 := of_decide_eq_true (short_at o1 (i := at1.toNat) (by omega))
    have hw : IntKind.i64.wrap (at1 + 1) = at1 + 1 := wrapi (by omega) (by omega)
    generalize l.getD at1.toNat Bk.zero = b at c4 ⊢
    have c5 : decide (((0 + b.ids.length : Nat) : Int) * (((8 : Nat) : Int) + 1) ≤ (limit : Int)) = true := by rw [limit_eq]; exact decide_eq_true (by omega)
    simp only [c2, c3, c5, bsel_true, bsel_false, cond_false, hw, decide_true]
    cases hx : (b.x != x) with
    | true => exact ⟨rdFail, rfl, fail_le⟩
    | false => cases hy : (b.y != y) with
      | true => exact ⟨rdFail, rfl, fail_le⟩
      | false => cases hz : (b.size != sz) with
        | true => exact ⟨rdFail, rfl, fail_le⟩
        | false => cases hs : b.split with
          | false => exact ⟨_, rfl, leaf_le rfl (ids_lists b.ids)⟩
          | true => cases hdp : decide (deep < 1) with
            | true => exact ⟨rdFail, rfl, fail_le⟩
            | false => cases hl : decide ((b.ids.length : Int) > 0) with
              | true => exact ⟨rdFail, rfl, fail_le⟩
              | false =>
                have hdp' := of_decide_eq_false hdp
                have hl' := of_decide_eq_false hl
                have hids : b.ids = [] := List.eq_nil_of_length_eq_zero (by omega)
                have h := rd_a D l x y sz deep (0 + b.ids.length) (fun j => if j < 0 then lget [] j else one b.ids.length (fun i => i64F (b.ids.getD i 0)) (j - 0)) ⟨by omega, o5⟩ (fun a ha => by
                  simp only [readOk, Bool.and_eq_true, decide_eq_true_eq]
                  exact ⟨⟨⟨⟨o1, ha⟩, by omega⟩, by omega⟩, by omega⟩) (at1 + 1) (by omega)
                have hf : (fun a k => readV D l a (IntKind.i64.wrap (x + IntKind.i64.wrap ((k.tmod 2) * halfV sz))) (IntKind.i64.wrap (y + IntKind.i64.wrap (IntKind.i64.wrap (k.tdiv 2) * halfV sz))) (halfV sz) (deep - 1)) = rdF D l x y sz deep := rfl
                simp only [hf, Bool.false_or, Bool.true_and, Bool.or_self, cond_false, Bool.not_true, bsel_false, beq_self_eq_true, bsel_true, Bool.true_beq, Bool.false_beq, Bool.not_false]
                cases hr : rdKids (rdF D l x y sz deep) [0, 1, 2, 3] (at1 + 1) with
                | none => rw [hr] at h; exact ⟨rdFail, h, fail_le⟩
                | some r =>
                  obtain ⟨ts, p⟩ := r
                  rw [hr] at h
                  obtain ⟨h4, g1, e1, e2⟩ := h
                  match ts, h4 with
                  | [a, b', c, d], _ => exact ⟨_, e1, node_le e2 (by have := ids_lists b.ids; rw [hids] at this ⊢; exact this)⟩
theorem okRead : ∀ D, PureOK Tryz.prog 31 (preRd D) (resRd D)
  | 0 => by
    intro xs hp
    exfalso
    unfold preRd at hp
    split at hp
    · simp only [readOk, Bool.and_eq_true, decide_eq_true_eq] at hp
      omega
    · cases hp
  | D + 1 => fn_pure_at (c := bodyOf Tryz.f31) Tryz.func31 (by kernel_rfl) (by kernel_rfl) fun xs hp => match xs, hp with
    | [l, .int .i64 a, .int .i64 x, .int .i64 y, .int .i64 sz, .int .i64 deep], hp => by
      simp only [preRd, Bool.and_eq_true] at hp
      obtain ⟨h1, h2⟩ := hp
      obtain ⟨⟨r1, r2, r3, r4, r5, r6, r7, r8, r9⟩, e1, e2⟩ := read_step D (unBlocks l) a x y sz deep h2
      exact ⟨[blocksF (unBlocks l), .int .i64 a, .int .i64 x, .int .i64 y, .int .i64 sz, .int .i64 deep], _, ⟨(blocks_eqv h1).1, .refl _, .refl _, .refl _, .refl _, .refl _, trivial⟩, t31 D (Env.add_ok envQ3_ok (okRead D).sp) 5 _ _ _ _ _ _ _ _ _ _ _ _ _ _ _ e1, e2⟩
/-! Right ones. -/
theorem right_leaf (D : Nat) (x y s : Int) (ids : List Int) (l : List It) (hl : l.length ≤ 40) : ∀ (m i n : Nat), i + m = l.length → n ≤ i → n ≤ ids.length → L32l_10 D (m + 1) x y s ids l n i = some (ids.drop n == metFrom l x y s i)
  | 0, i, n, h, hn, hi => by
    have c1 : decide ((i : Int) < (l.length : Int)) = false := decide_eq_false (by omega)
    obtain rfl : i = l.length := by omega
    simp only [L32l_10, T32l_10, c1, bsel_false]
    rw [met_end]
    congr 1
    rw [Bool.eq_iff_iff]
    simp only [beq_iff_eq, List.drop_eq_nil_iff]
    omega
  | m + 1, i, n, h, hn, hi => by
    have hlt : i < l.length := by omega
    have c1 : decide ((i : Int) < (l.length : Int)) = true := decide_eq_true (by omega)
    have c2 : decide (0 ≤ (i : Int)) = true := decide_eq_true (by omega)
    have c3 : decide (0 ≤ (n : Int)) = true := decide_eq_true (by omega)
    have hw : IntKind.i64.wrap ((i : Int) + 1) = ((i + 1 : Nat) : Int) := by rw [wrapi (by omega) (by omega)]; omega
    have hw2 : IntKind.i64.wrap ((n : Int) + 1) = ((n + 1 : Nat) : Int) := by rw [wrapi (by omega) (by omega)]; omega
    have ht : (F.agg [F.int .i64 x, F.int .i64 y, F.int .i64 s, F.sl 0 fun x => F.bool false, intsF ids]) = trF (.leaf x y s ids) := rfl
    rw [L32l_10]
    simp only [T32l_10, c1, c2, c3, hw, hw2, bsel_true, Int.toNat_natCast, ht, isTr_trF, unTr_trF]
    rw [met_step l x y s hlt]
    have hm : trMeetsV (.leaf x y s ids) (l.getD i It.zero).x0 (l.getD i It.zero).y0 (l.getD i It.zero).x1 (l.getD i It.zero).y1 = meetsV (l.getD i .zero).x0 (l.getD i .zero).y0 (l.getD i .zero).x1 (l.getD i .zero).y1 x y (IntKind.i64.wrap (x + s)) (IntKind.i64.wrap (y + s)) := rfl
    rw [hm]
    cases meetsV (l.getD i .zero).x0 (l.getD i .zero).y0 (l.getD i .zero).x1 (l.getD i .zero).y1 x y (IntKind.i64.wrap (x + s)) (IntKind.i64.wrap (y + s)) with
    | false =>
      simp only [Bool.not_false, bsel_true, Bool.false_eq_true, if_false]
      exact right_leaf D x y s ids l hl m (i + 1) n (by omega) (by omega) hi
    | true =>
      simp only [Bool.not_true, bsel_false, if_true]
      by_cases hc : (n : Int) ≥ (ids.length : Int)
      · rw [decide_eq_true hc, List.drop_eq_nil_of_le (by omega)]
        rfl
      · have c4 : decide ((n : Int) < (ids.length : Int)) = true := decide_eq_true (by omega)
        have hlt2 : n < ids.length := by omega
        rw [decide_eq_false hc]
        simp only [c4, bsel_true, beq_self_eq_true]
        rw [List.drop_eq_getElem_cons hlt2]
        have h1 : ids.getD n 0 = ids[n] := by simp [List.getD, List.getElem?_eq_getElem hlt2]
        rw [h1, List.cons_beq_cons, bne]
        cases (ids[n] == (l.getD i .zero).id) with
        | false => rfl
        | true =>
          simp only [Bool.not_true, bsel_false, Bool.true_and]
          exact right_leaf D x y s ids l hl m (i + 1) (n + 1) (by omega) (by omega) (by omega)
theorem right_node (D : Nat) (x y s : Int) (a b c d : Tr) (l : List It) (ho : rightOk (D + 1) (.node x y s a b c d) l = true) : G32n D 5 x y s a b c d l = some (rightV l (.node x y s a b c d)) := by
  simp only [rightOk, Bool.and_eq_true, decide_eq_true_eq, trDepth] at ho
  have ok : ∀ t, trDepth t < D → rightOk D t l = true := fun t ht => by simp only [rightOk, Bool.and_eq_true, decide_eq_true_eq]; exact ⟨ho.1, ht⟩
  have hm := Nat.max_lt.1 (Nat.lt_of_succ_lt_succ (of_decide_eq_true ho.2))
  have hm1 := Nat.max_lt.1 hm.1
  have hm2 := Nat.max_lt.1 hm.2
  have oa := ok a hm1.1
  have ob := ok b hm1.2
  have oc := ok c hm2.1
  have od := ok d hm2.2
  unfold G32n T32n
  simp only [L32n_3n0, T32n_3n0, L32n_3n1, T32n_3n1, L32n_3n2, T32n_3n2, L32n_3n3, T32n_3n3, L32n_3n4, T32n_3n4, isTr_trF, unTr_trF, isItems_itemsF, unItems_itemsF, oa, ob, oc, od, Bool.and_true, bsel_true]
  rw [rightV]
  cases rightV l a <;> cases rightV l b <;> cases rightV l c <;> cases rightV l d <;> rfl
theorem okRight : ∀ D, PureOK Tryz.prog 32 (preRt D) resRt
  | 0 => by
    intro xs hp
    exfalso
    unfold preRt at hp
    split at hp
    · simp only [rightOk, Bool.and_eq_true, decide_eq_true_eq] at hp
      omega
    · cases hp
  | D + 1 => fn_pure_at (c := bodyOf Tryz.f32) Tryz.func32 (by kernel_rfl) (by kernel_rfl) fun xs hp => match xs, hp with
    | [t, l], hp => by
      simp only [preRt, Bool.and_eq_true] at hp
      obtain ⟨⟨h1, h2⟩, h3⟩ := hp
      have ht := tr_eq h1
      have hr : resRt [t, l] = .bool (rightV (unItems l) (unTr t)) := rfl
      rw [hr]
      generalize unTr t = t' at ht h3 ⊢
      subst ht
      refine ⟨[trF t', itemsF (unItems l)], .bool (rightV (unItems l) t'), ⟨.refl _, (items_eqv h2).1, trivial⟩, ?_, .refl _⟩
      cases t' with
      | leaf x y s ids =>
        simp only [rightOk, Bool.and_eq_true, decide_eq_true_eq] at h3
        exact t32l D (Env.add_ok envQ3_ok (okRight D).sp) ((unItems l).length + 1) x y s ids (unItems l) _ (right_leaf D x y s ids _ h3.1 _ 0 0 (by omega) (by omega) (by omega))
      | node x y s a b c d => exact t32n D (Env.add_ok envQ3_ok (okRight D).sp) 5 x y s a b c d (unItems l) _ (right_node D x y s a b c d _ h3)
def envQ4 : Env := ((envQ3.add 42 (.pure (preCk 9) (resCk 9))).add 31 (.pure (preRd 9) (resRd 9))).add 32 (.pure (preRt 9) resRt)
theorem envQ4_ok : EnvOK Tryz.prog envQ4 := (Env.add_ok (Env.add_ok (Env.add_ok envQ3_ok (okCheck 9).sp) (okRead 9).sp) (okRight 9).sp)
end
end Go.Proofs.YtdcooaopkbicfaaGreat.R
namespace Go.Proofs.YtdcooaopkbicfaaGreat.R
open Go
noncomputable section
/-! ### function 25 -/
def S25_4 (a : List It) (b : List It) (i : Int) : St := ⟨[(U.f (itemsF a)), (U.f (itemsF b)), .bad, .bad, .bad, (U.f (F.int .i64 i)), .bad, .bad, .bad, .bad, .bad, .bad, .bad, .bad, .bad, .bad, .bad, .bad, .bad, .bad, .bad, .bad, .bad, .bad, .bad, .bad, .bad], []⟩
def T25_4 {ρ : Type} (ret : (Bool) → Option ρ) (c4 : (List It) → (List It) → (Int) → Option ρ) (a : List It) (b : List It) (i : Int) : Option ρ :=
 (bsel (decide (i < (↑a.length : Int)))
 (bsel (decide (0 ≤ i))
 (bsel (decide (i < (↑a.length : Int)))
 (bsel (decide (0 ≤ i))
 (bsel (decide (i < (↑b.length : Int)))
 (bsel (!sameItV (unIt (itF (a.getD i.toNat It.zero))) (unIt (itF (b.getD i.toNat It.zero))))
 (ret (false))
 (c4 (a) (b) (IntKind.i64.wrap (i + 1))))
 none)
 none)
 none)
 none)
 (ret (true)))
def L25_4 : Nat → (List It) → (List It) → (Int) → Option (Bool)
  | 0, _, _, _ => none
  | k + 1, a, b, i => T25_4 some (L25_4 k) a b i
def T25 {ρ : Type} (ret : (Bool) → Option ρ) (c4 : (List It) → (List It) → (Int) → Option ρ) (a : List It) (b : List It) : Option ρ :=
 (bsel ((↑a.length : Int) != (↑b.length : Int))
 (ret (false))
 (c4 (a) (b) (0)))
def G25 (k : Nat) (a : List It) (b : List It) : Option (Bool) := T25 some (L25_4 k) a b
theorem t25_4 : ∀ (k : Nat) (a : List It) (b : List It) (i : Int) (r : Bool), L25_4 k a b i = some r → Ends Tryz.prog Tryz.f25.results.toList (at_ Tryz.f25 4) (S25_4 a b i) (F.bool r)
  | 0, _, _, _, _, h => nomatch h
  | k + 1, a, b, i, r, h => by
    refine Ends.of_cut tyOK envQ4_ok (T := [(4, [0, 1, 5], 1000)]) (n := 200) ?_
    have e : runCut Tryz.prog (tiOf Tryz.prog) envQ4 [(4, [0, 1, 5], 1000)] 0 Tryz.f25.results.toList some 200 (at_ Tryz.f25 4) (S25_4 a b i) = T25_4 (fun r => some (.ret (F.bool r))) (fun a b i => some (.cut (at_ Tryz.f25 4) (S25_4 a b i))) a b i := by kernel_rfl
    rw [e]
    exact (good_sel h (fun _ h => (good_sel h (fun _ h => (good_sel h (fun _ h => (good_sel h (fun _ h => (good_sel h (fun _ h => (good_sel h (fun _ h => good_ret (by cases h; rfl)) (fun _ h => good_cut (t25_4 k _ _ _ r h)))) (fun _ h => nomatch h))) (fun _ h => nomatch h))) (fun _ h => nomatch h))) (fun _ h => nomatch h))) (fun _ h => good_ret (by cases h; rfl)))
theorem t25 (k : Nat) (a : List It) (b : List It) (r : Bool) (h : G25 k a b = some r) : Ends Tryz.prog Tryz.f25.results.toList [.code (bodyOf Tryz.f25)] (start Tryz.f25.ntmps ([itemsF a, itemsF b].map .f)) (F.bool r) := by
  refine Ends.of_run tyOK envQ4_ok (T := [(4, [0, 1, 5], 1000)]) (n := 200) ?_
  have e : run Tryz.prog (tiOf Tryz.prog) envQ4 [(4, [0, 1, 5], 1000)] 0 Tryz.f25.results.toList some 200 [.code (bodyOf Tryz.f25)] (start Tryz.f25.ntmps ([itemsF a, itemsF b].map .f)) = T25 (fun r => some (.ret (F.bool r))) (fun a b i => some (.cut (at_ Tryz.f25 4) (S25_4 a b i))) a b := by kernel_rfl
  rw [e]
  exact (good_sel h (fun _ h => good_ret (by cases h; rfl)) (fun _ h => good_cut (t25_4 k _ _ _ r h)))
/-! ### function 18 -/
def S18_3 (a : List It) (n : Nat) (g : Nat → F) (i : Int) : St := ⟨[(U.f (itemsF a)), .bad, .bad, (U.hs 0 n 0 n), (U.f (F.int .i64 i)), .bad, .bad, .bad, .bad, .bad, .bad, .bad, .bad, .bad, .bad, .bad, .bad, .bad, .bad, .bad, .bad, .bad, .bad], [HO.arr 5 n g]⟩
def T18_3 {ρ : Type} (ret : (Nat) → (Nat → F) → Option ρ) (c3 : (List It) → (Nat) → (Nat → F) → (Int) → Option ρ) (a : List It) (n : Nat) (g : Nat → F) (i : Int) : Option ρ :=
 (bsel (decide (i < (↑a.length : Int)))
 (bsel (decide (0 ≤ i))
 (bsel (decide (i < (↑a.length : Int)))
 (bsel (decide (n = n))
 (bsel (decide (0 ≤ i))
 (bsel (decide (i < (↑n : Int)))
 (bsel (decide (n = n))
 (bsel (decide (0 + i.toNat < n))
 (bsel (decide ((g (0 + i.toNat)).cells.length = 5))
 (bsel ((isAggF (g (0 + i.toNat)) || false) && true)
 (c3 (a) (n) (fun j ↦ if j = 0 + i.toNat then itF (unIt (itF (a.getD i.toNat It.zero))) else g j) (IntKind.i64.wrap (i + 1)))
 none)
 none)
 none)
 none)
 none)
 none)
 none)
 none)
 none)
 (bsel (decide (n = n))
 (ret (n) (g))
 none))
def L18_3 : Nat → (List It) → (Nat) → (Nat → F) → (Int) → Option ((Nat) × (Nat → F))
  | 0, _, _, _, _ => none
  | k + 1, a, n, g, i => T18_3 (fun rn rg => some (rn, rg)) (L18_3 k) a n g i
def T18 {ρ : Type} (ret : (Nat) → (Nat → F) → Option ρ) (c3 : (List It) → (Nat) → (Nat → F) → (Int) → Option ρ) (a : List It) : Option ρ :=
 (bsel (decide ((↑a.length : Int) ≤ (↑a.length : Int)))
 (bsel (decide ((↑a.length : Int) * (((40 : Nat) : Int) + 1) ≤ (↑limit : Int)))
 (c3 (a) ((↑a.length : Int).toNat) (fun x ↦ F.agg [F.int .i64 0, F.int .i64 0, F.int .i64 0, F.int .i64 0, F.int .i64 0]) (0))
 none)
 none)
def G18 (k : Nat) (a : List It) : Option ((Nat) × (Nat → F)) := T18 (fun rn rg => some (rn, rg)) (L18_3 k) a
theorem t18_3 : ∀ (k : Nat) (a : List It) (n : Nat) (g : Nat → F) (i : Int) (rn : Nat) (rg : Nat → F), L18_3 k a n g i = some (rn, rg) → Ends Tryz.prog Tryz.f18.results.toList (at_ Tryz.f18 3) (S18_3 a n g i) (F.sl rn rg)
  | 0, _, _, _, _, _, _, h => nomatch h
  | k + 1, a, n, g, i, rn, rg, h => by
    refine Ends.of_cut tyOK envQ4_ok (T := [(3, [0, 3, 4], 1000)]) (n := 200) ?_
    have e : runCut Tryz.prog (tiOf Tryz.prog) envQ4 [(3, [0, 3, 4], 1000)] 0 Tryz.f18.results.toList some 200 (at_ Tryz.f18 3) (S18_3 a n g i) = T18_3 (fun rn rg => some (.ret (F.sl rn rg))) (fun a n g i => some (.cut (at_ Tryz.f18 3) (S18_3 a n g i))) a n g i := by kernel_rfl
    rw [e]
    exact (good_sel h (fun _ h => (good_sel h (fun _ h => (good_sel h (fun _ h => (good_sel h (fun _ h => (good_sel h (fun _ h => (good_sel h (fun _ h => (good_sel h (fun _ h => (good_sel h (fun _ h => (good_sel h (fun _ h => (good_sel h (fun _ h => good_cut (t18_3 k _ _ _ _ rn rg h)) (fun _ h => nomatch h))) (fun _ h => nomatch h))) (fun _ h => nomatch h))) (fun _ h => nomatch h))) (fun _ h => nomatch h))) (fun _ h => nomatch h))) (fun _ h => nomatch h))) (fun _ h => nomatch h))) (fun _ h => nomatch h))) (fun _ h => (good_sel h (fun _ h => good_ret (by cases h; rfl)) (fun _ h => nomatch h))))
theorem t18 (k : Nat) (a : List It) (rn : Nat) (rg : Nat → F) (h : G18 k a = some (rn, rg)) : Ends Tryz.prog Tryz.f18.results.toList [.code (bodyOf Tryz.f18)] (start Tryz.f18.ntmps ([itemsF a].map .f)) (F.sl rn rg) := by
  refine Ends.of_run tyOK envQ4_ok (T := [(3, [0, 3, 4], 1000)]) (n := 200) ?_
  have e : run Tryz.prog (tiOf Tryz.prog) envQ4 [(3, [0, 3, 4], 1000)] 0 Tryz.f18.results.toList some 200 [.code (bodyOf Tryz.f18)] (start Tryz.f18.ntmps ([itemsF a].map .f)) = T18 (fun rn rg => some (.ret (F.sl rn rg))) (fun a n g i => some (.cut (at_ Tryz.f18 3) (S18_3 a n g i))) a := by kernel_rfl
  rw [e]
  exact (good_sel h (fun _ h => (good_sel h (fun _ h => good_cut (t18_3 k _ _ _ _ rn rg h)) (fun _ h => nomatch h))) (fun _ h => nomatch h))
/-! ### function 13 -/
def S13_4 (q : Qd) (i : Int) : St := ⟨[.bad, (U.hp 0 0), (U.hp 1 0), .bad, (U.f (F.int .i64 i)), .bad, .bad, .bad, .bad, .bad, .bad, .bad, .bad, .bad, .bad, .bad, .bad, .bad, .bad, .bad, .bad, .bad, .bad, .bad, .bad, .bad, .bad, .bad, .bad, .bad, .bad, .bad, .bad, .bad, .bad, .bad, .bad, .bad, .bad, .bad, .bad, .bad, .bad, .bad, .bad, .bad, .bad, .bad, .bad, .bad, .bad, .bad, .bad, .bad, .bad, .bad, .bad, .bad, .bad, .bad, .bad, .bad, .bad, .bad, .bad, .bad, .bad, .bad, .bad, .bad, .bad, .bad, .bad, .bad, .bad, .bad, .bad, .bad, .bad, .bad, .bad, .bad, .bad, .bad, .bad, .bad, .bad, .bad, .bad, .bad, .bad, .bad, .bad, .bad, .bad, .bad, .bad, .bad, .bad, .bad], [HO.box [(U.f (F.int .i64 q.most)), (U.f (F.int .i64 q.deep)), (U.f (itemsF q.items)), (U.f (blocksF q.blocks))], HO.box [(U.f (F.int .i64 0)), (U.f (F.int .i64 0)), (U.f (F.int .i64 0)), U.nils, U.nils]]⟩
def T13_4 {ρ : Type} (ret : (F) → (Bool) → Option ρ) (c4 : (Qd) → (Int) → Option ρ) (q : Qd) (i : Int) : Option ρ :=
 (bsel (decide (i < (↑q.items.length : Int)))
 (bsel (decide (0 ≤ i))
 (bsel (decide (i < (↑q.items.length : Int)))
 (bsel ((!inV (q.items.getD i.toNat It.zero).id 1 1000) == false)
 (bsel (decide (0 ≤ i))
 (bsel (decide (i < (↑q.items.length : Int)))
 (bsel ((!segOkV (q.items.getD i.toNat It.zero).x0 (q.items.getD i.toNat It.zero).y0 (q.items.getD i.toNat It.zero).x1 (q.items.getD i.toNat It.zero).y1) == false)
 (bsel (decide (i > 0) == true)
 (bsel (decide (0 ≤ IntKind.i64.wrap (i - 1)))
 (bsel (decide (IntKind.i64.wrap (i - 1) < (↑q.items.length : Int)))
 (bsel (decide (0 ≤ i))
 (bsel (decide (i < (↑q.items.length : Int)))
 (bsel (decide ((q.items.getD (IntKind.i64.wrap (i - 1)).toNat It.zero).id ≥ (q.items.getD i.toNat It.zero).id))
 (ret (F.agg [F.int .i64 0, F.int .i64 0, F.int .i64 0, F.sl 0 fun x ↦ F.bool false, F.sl 0 fun x ↦ F.bool false]) (false))
 (c4 (q) (IntKind.i64.wrap (i + 1))))
 none)
 none)
 none)
 none)
 (c4 (q) (IntKind.i64.wrap (i + 1))))
 (ret (F.agg [F.int .i64 0, F.int .i64 0, F.int .i64 0, F.sl 0 fun x ↦ F.bool false, F.sl 0 fun x ↦ F.bool false]) (false)))
 none)
 none)
 (ret (F.agg [F.int .i64 0, F.int .i64 0, F.int .i64 0, F.sl 0 fun x ↦ F.bool false, F.sl 0 fun x ↦ F.bool false]) (false)))
 none)
 none)
 (bsel (isBlocks (blocksF q.blocks) && readOk 9 (unBlocks (blocksF q.blocks)) 0 q.deep)
 (bsel ((!(readV 9 (unBlocks (blocksF q.blocks)) 0 (-1048576) (-1048576) 2097152 q.deep).snd.snd) == false)
 (bsel (((readV 9 (unBlocks (blocksF q.blocks)) 0 (-1048576) (-1048576) 2097152 q.deep).snd.fst != (↑q.blocks.length : Int)) == false)
 (bsel (isTr (trF (readV 9 (unBlocks (blocksF q.blocks)) 0 (-1048576) (-1048576) 2097152 q.deep).fst) && isItems (itemsF q.items) && rightOk 9 (unTr (trF (readV 9 (unBlocks (blocksF q.blocks)) 0 (-1048576) (-1048576) 2097152 q.deep).fst)) (unItems (itemsF q.items)))
 (bsel (!rightV (unItems (itemsF q.items)) (unTr (trF (readV 9 (unBlocks (blocksF q.blocks)) 0 (-1048576) (-1048576) 2097152 q.deep).fst)))
 (ret (F.agg [F.int .i64 0, F.int .i64 0, F.int .i64 0, F.sl 0 fun x ↦ F.bool false, F.sl 0 fun x ↦ F.bool false]) (false))
 (ret (trF (readV 9 (unBlocks (blocksF q.blocks)) 0 (-1048576) (-1048576) 2097152 q.deep).fst) (true)))
 none)
 (ret (F.agg [F.int .i64 0, F.int .i64 0, F.int .i64 0, F.sl 0 fun x ↦ F.bool false, F.sl 0 fun x ↦ F.bool false]) (false)))
 (ret (F.agg [F.int .i64 0, F.int .i64 0, F.int .i64 0, F.sl 0 fun x ↦ F.bool false, F.sl 0 fun x ↦ F.bool false]) (false)))
 none))
def L13_4 : Nat → (Qd) → (Int) → Option ((F) × (Bool))
  | 0, _, _ => none
  | k + 1, q, i => T13_4 (fun rt rb => some (rt, rb)) (L13_4 k) q i
def T13 {ρ : Type} (ret : (F) → (Bool) → Option ρ) (c4 : (Qd) → (Int) → Option ρ) (q : Qd) : Option ρ :=
 (bsel ((!limitsV q.most q.deep) == false)
 (bsel (decide ((↑q.items.length : Int) > 40) == false)
 (bsel (decide ((↑q.blocks.length : Int) > 2000))
 (ret (F.agg [F.int .i64 0, F.int .i64 0, F.int .i64 0, F.sl 0 fun x ↦ F.bool false, F.sl 0 fun x ↦ F.bool false]) (false))
 (c4 (q) (0)))
 (ret (F.agg [F.int .i64 0, F.int .i64 0, F.int .i64 0, F.sl 0 fun x ↦ F.bool false, F.sl 0 fun x ↦ F.bool false]) (false)))
 (ret (F.agg [F.int .i64 0, F.int .i64 0, F.int .i64 0, F.sl 0 fun x ↦ F.bool false, F.sl 0 fun x ↦ F.bool false]) (false)))
def G13 (k : Nat) (q : Qd) : Option ((F) × (Bool)) := T13 (fun rt rb => some (rt, rb)) (L13_4 k) q
theorem t13_4 : ∀ (k : Nat) (q : Qd) (i : Int) (rt : F) (rb : Bool), L13_4 k q i = some (rt, rb) → Ends Tryz.prog Tryz.f13.results.toList (at_ Tryz.f13 4) (S13_4 q i) (F.tup [rt, F.bool rb])
  | 0, _, _, _, _, h => nomatch h
  | k + 1, q, i, rt, rb, h => by
    refine Ends.of_cut tyOK envQ4_ok (T := [(4, [1, 2, 4], 1000)]) (n := 200) ?_
    have e : runCut Tryz.prog (tiOf Tryz.prog) envQ4 [(4, [1, 2, 4], 1000)] 0 Tryz.f13.results.toList some 200 (at_ Tryz.f13 4) (S13_4 q i) = T13_4 (fun rt rb => some (.ret (F.tup [rt, F.bool rb]))) (fun q i => some (.cut (at_ Tryz.f13 4) (S13_4 q i))) q i := by kernel_rfl
    rw [e]
    exact (good_sel h (fun _ h => (good_sel h (fun _ h => (good_sel h (fun _ h => (good_sel h (fun _ h => (good_sel h (fun _ h => (good_sel h (fun _ h => (good_sel h (fun _ h => (good_sel h (fun _ h => (good_sel h (fun _ h => (good_sel h (fun _ h => (good_sel h (fun _ h => (good_sel h (fun _ h => (good_sel h (fun _ h => good_ret (by cases h; rfl)) (fun _ h => good_cut (t13_4 k _ _ rt rb h)))) (fun _ h => nomatch h))) (fun _ h => nomatch h))) (fun _ h => nomatch h))) (fun _ h => nomatch h))) (fun _ h => good_cut (t13_4 k _ _ rt rb h)))) (fun _ h => good_ret (by cases h; rfl)))) (fun _ h => nomatch h))) (fun _ h => nomatch h))) (fun _ h => good_ret (by cases h; rfl)))) (fun _ h => nomatch h))) (fun _ h => nomatch h))) (fun _ h => (good_sel h (fun _ h => (good_sel h (fun _ h => (good_sel h (fun _ h => (good_sel h (fun _ h => (good_sel h (fun _ h => good_ret (by cases h; rfl)) (fun _ h => good_ret (by cases h; rfl)))) (fun _ h => nomatch h))) (fun _ h => good_ret (by cases h; rfl)))) (fun _ h => good_ret (by cases h; rfl)))) (fun _ h => nomatch h))))
theorem t13 (k : Nat) (q : Qd) (rt : F) (rb : Bool) (h : G13 k q = some (rt, rb)) : Ends Tryz.prog Tryz.f13.results.toList [.code (bodyOf Tryz.f13)] (start Tryz.f13.ntmps ([qdF q].map .f)) (F.tup [rt, F.bool rb]) := by
  refine Ends.of_run tyOK envQ4_ok (T := [(4, [1, 2, 4], 1000)]) (n := 200) ?_
  have e : run Tryz.prog (tiOf Tryz.prog) envQ4 [(4, [1, 2, 4], 1000)] 0 Tryz.f13.results.toList some 200 [.code (bodyOf Tryz.f13)] (start Tryz.f13.ntmps ([qdF q].map .f)) = T13 (fun rt rb => some (.ret (F.tup [rt, F.bool rb]))) (fun q i => some (.cut (at_ Tryz.f13 4) (S13_4 q i))) q := by kernel_rfl
  rw [e]
  exact (good_sel h (fun _ h => (good_sel h (fun _ h => (good_sel h (fun _ h => good_ret (by cases h; rfl)) (fun _ h => good_cut (t13_4 k _ _ rt rb h)))) (fun _ h => good_ret (by cases h; rfl)))) (fun _ h => good_ret (by cases h; rfl)))
/-! ### function 20 -/
def S20_4 (q : Qd) (i : Int) : St := ⟨[.bad, (U.hp 0 0), .bad, .bad, .bad, .bad, .bad, .bad, .bad, .bad, .bad, .bad, .bad, .bad, .bad, .bad, .bad, .bad, .bad, .bad, .bad, .bad, .bad, .bad, .bad, .bad, .bad, .bad, (U.f (itemsF q.items)), (U.f (F.int .i64 q.items.length)), (U.f (F.int .i64 i)), .bad, .bad, .bad, .bad, .bad, .bad, .bad, .bad, .bad, .bad, .bad, .bad, .bad, .bad, .bad, .bad, .bad, .bad, .bad, .bad, .bad, .bad, .bad, .bad, .bad, .bad, .bad, .bad, .bad, .bad, .bad, .bad, .bad, .bad, .bad, .bad, .bad, .bad, .bad], [HO.box [(U.f (F.int .i64 q.most)), (U.f (F.int .i64 q.deep)), (U.f (itemsF q.items)), (U.f (blocksF q.blocks))]]⟩
def T20_4 {ρ : Type} (ret : (Bool) → Option ρ) (c4 : (Qd) → (Int) → Option ρ) (q : Qd) (i : Int) : Option ρ :=
 (bsel (decide (i < (↑q.items.length : Int)))
 (bsel (decide (0 ≤ i))
 (bsel (decide (i < (↑q.items.length : Int)))
 (bsel ((!inV (q.items.getD i.toNat It.zero).id 1 1000) == false)
 (bsel ((!segOkV (q.items.getD i.toNat It.zero).x0 (q.items.getD i.toNat It.zero).y0 (q.items.getD i.toNat It.zero).x1 (q.items.getD i.toNat It.zero).y1) == false)
 (bsel (decide (i > 0) == true)
 (bsel (decide (0 ≤ IntKind.i64.wrap (i - 1)))
 (bsel (decide (IntKind.i64.wrap (i - 1) < (↑q.items.length : Int)))
 (bsel (decide ((q.items.getD i.toNat It.zero).id ≤ (q.items.getD (IntKind.i64.wrap (i - 1)).toNat It.zero).id))
 (ret (false))
 (c4 (q) (IntKind.i64.wrap (i + 1))))
 none)
 none)
 (c4 (q) (IntKind.i64.wrap (i + 1))))
 (ret (false)))
 (ret (false)))
 none)
 none)
 (bsel (isQd (qdF q) && fewV (unQd (qdF q)))
 (bsel (isQd (qdF q) && fewV (unQd (qdF q)) && isBk (resRoot [qdF q]) && checkOk 9 (unQd (qdF q)) 0 0)
 (ret (checkV 9 (unQd (qdF q)) 0 (unBk (resRoot [qdF q])) 0 == (↑q.blocks.length : Int)))
 none)
 none))
def L20_4 : Nat → (Qd) → (Int) → Option (Bool)
  | 0, _, _ => none
  | k + 1, q, i => T20_4 some (L20_4 k) q i
def T20 {ρ : Type} (ret : (Bool) → Option ρ) (c4 : (Qd) → (Int) → Option ρ) (q : Qd) : Option ρ :=
 (bsel ((!inV q.most 1 8) == false)
 (bsel ((!inV q.deep 0 8) == false)
 (bsel (decide ((↑q.items.length : Int) > 40) == false)
 (bsel (decide ((↑q.blocks.length : Int) > 2000))
 (ret (false))
 (c4 (q) (0)))
 (ret (false)))
 (ret (false)))
 (ret (false)))
def G20 (k : Nat) (q : Qd) : Option (Bool) := T20 some (L20_4 k) q
theorem t20_4 : ∀ (k : Nat) (q : Qd) (i : Int) (r : Bool), L20_4 k q i = some r → Ends Tryz.prog Tryz.f20.results.toList (at_ Tryz.f20 4) (S20_4 q i) (F.bool r)
  | 0, _, _, _, h => nomatch h
  | k + 1, q, i, r, h => by
    refine Ends.of_cut tyOK envQ4_ok (T := [(4, [1, 28, 29, 30], 1000)]) (n := 200) ?_
    have e : runCut Tryz.prog (tiOf Tryz.prog) envQ4 [(4, [1, 28, 29, 30], 1000)] 0 Tryz.f20.results.toList some 200 (at_ Tryz.f20 4) (S20_4 q i) = T20_4 (fun r => some (.ret (F.bool r))) (fun q i => some (.cut (at_ Tryz.f20 4) (S20_4 q i))) q i := by kernel_rfl
    rw [e]
    exact (good_sel h (fun _ h => (good_sel h (fun _ h => (good_sel h (fun _ h => (good_sel h (fun _ h => (good_sel h (fun _ h => (good_sel h (fun _ h => (good_sel h (fun _ h => (good_sel h (fun _ h => (good_sel h (fun _ h => good_ret (by cases h; rfl)) (fun _ h => good_cut (t20_4 k _ _ r h)))) (fun _ h => nomatch h))) (fun _ h => nomatch h))) (fun _ h => good_cut (t20_4 k _ _ r h)))) (fun _ h => good_ret (by cases h; rfl)))) (fun _ h => good_ret (by cases h; rfl)))) (fun _ h => nomatch h))) (fun _ h => nomatch h))) (fun _ h => (good_sel h (fun _ h => (good_sel h (fun _ h => good_ret (by cases h; rfl)) (fun _ h => nomatch h))) (fun _ h => nomatch h))))
theorem t20 (k : Nat) (q : Qd) (r : Bool) (h : G20 k q = some r) : Ends Tryz.prog Tryz.f20.results.toList [.code (bodyOf Tryz.f20)] (start Tryz.f20.ntmps ([qdF q].map .f)) (F.bool r) := by
  refine Ends.of_run tyOK envQ4_ok (T := [(4, [1, 28, 29, 30], 1000)]) (n := 200) ?_
  have e : run Tryz.prog (tiOf Tryz.prog) envQ4 [(4, [1, 28, 29, 30], 1000)] 0 Tryz.f20.results.toList some 200 [.code (bodyOf Tryz.f20)] (start Tryz.f20.ntmps ([qdF q].map .f)) = T20 (fun r => some (.ret (F.bool r))) (fun q i => some (.cut (at_ Tryz.f20 4) (S20_4 q i))) q := by kernel_rfl
  rw [e]
  exact (good_sel h (fun _ h => (good_sel h (fun _ h => (good_sel h (fun _ h => (good_sel h (fun _ h => good_ret (by cases h; rfl)) (fun _ h => good_cut (t20_4 k _ _ r h)))) (fun _ h => good_ret (by cases h; rfl)))) (fun _ h => good_ret (by cases h; rfl)))) (fun _ h => good_ret (by cases h; rfl)))
/-! Rows of items. -/
def sameItsV : List It → List It → Bool
  | [], [] => true
  | a :: a', b :: b' => sameItV a b && sameItsV a' b'
  | _, _ => false
theorem sameIts_ne : ∀ (a b : List It), a.length ≠ b.length → sameItsV a b = false
  | [], [], h => absurd rfl h
  | [], _ :: _, _ => rfl
  | _ :: _, [], _ => rfl
  | a :: a', b :: b', h => by rw [sameItsV, sameIts_ne a' b' (by simpa using h), Bool.and_false]
theorem unIt_itF (t : It) : unIt (itF t) = t := rfl
theorem eqIts_loop (a b : List It) (hl : a.length = b.length) (hs : a.length ≤ 1048576) : ∀ (d i : Nat), i + d = a.length → L25_4 (d + 1) a b i = some (sameItsV (a.drop i) (b.drop i))
  | 0, i, h => by
    have c1 : decide ((i : Int) < (a.length : Int)) = false := decide_eq_false (by omega)
    simp only [L25_4, T25_4, c1, bsel_false]
    rw [List.drop_eq_nil_of_le (by omega), List.drop_eq_nil_of_le (by omega)]
    rfl
  | d + 1, i, h => by
    have hi : i < a.length := by omega
    have c1 : decide ((i : Int) < (a.length : Int)) = true := decide_eq_true (by omega)
    have c3 : decide ((i : Int) < (b.length : Int)) = true := decide_eq_true (by omega)
    have c2 : decide (0 ≤ (i : Int)) = true := decide_eq_true (by omega)
    have hw : IntKind.i64.wrap ((i : Int) + 1) = ((i + 1 : Nat) : Int) := by rw [wrapi (by omega) (by omega)]; omega
    have h1 : a.getD i .zero = a[i] := by simp [List.getD, List.getElem?_eq_getElem hi]
    have h2 : b.getD i .zero = b[i]'(by omega) := by simp [List.getD, List.getElem?_eq_getElem (show i < b.length by omega)]
    rw [L25_4]
    simp only [T25_4, c1, c2, c3, hw, eqIts_loop a b hl hs d (i + 1) (by omega), bsel_true, Int.toNat_natCast, unIt_itF]
    rw [List.drop_eq_getElem_cons hi, List.drop_eq_getElem_cons (show i < b.length by omega), sameItsV, h1, h2]
    cases sameItV a[i] (b[i]'(by omega)) <;> rfl
def shortItsV (l : List It) : Bool := decide (l.length ≤ 1048576)
def preEqIts : List F → Bool | [a, b] => isItems a && isItems b && shortItsV (unItems a) | _ => false
def resEqIts : List F → F | [a, b] => .bool (sameItsV (unItems a) (unItems b)) | _ => .dflt
theorem eqIts_law (a b : List It) (hs : shortItsV a = true) : G25 (a.length + 1) a b = some (sameItsV a b) := by
  unfold G25 T25
  rw [bne]
  cases h : ((a.length : Int) == (b.length : Int)) with
  | true => exact eqIts_loop a b (by have := eq_of_beq h; omega) (of_decide_eq_true hs) a.length 0 (by omega)
  | false => rw [sameIts_ne a b fun e => by simp [e] at h]; rfl
theorem okEqIts : PureOK Tryz.prog 25 preEqIts resEqIts :=
  fn_pure_at (c := bodyOf Tryz.f25) Tryz.func25 (by kernel_rfl) (by kernel_rfl) fun xs hp => match xs, hp with
  | [a, b], hp => by
    simp only [preEqIts, Bool.and_eq_true] at hp
    exact ⟨[itemsF (unItems a), itemsF (unItems b)], _, ⟨(items_eqv hp.1.1).1, (items_eqv hp.1.2).1, trivial⟩, t25 _ _ _ _ (eqIts_law _ _ hp.2), .refl _⟩
def itZ : F := F.agg [F.int .i64 0, F.int .i64 0, F.int .i64 0, F.int .i64 0, F.int .i64 0]
theorem toIts_loop (a : List It) (hs : a.length ≤ 1048576) : ∀ (d i : Nat) (g : Nat → F), i + d = a.length → Fills itF .zero itZ a i g → ∃ g1, L18_3 (d + 1) a a.length g i = some (a.length, g1) ∧ Lists itF .zero a.length g1 a
  | 0, i, g, h, hg => by
    have c1 : decide ((i : Int) < (a.length : Int)) = false := decide_eq_false (by omega)
    obtain rfl : i = a.length := by omega
    exact ⟨g, by simp only [L18_3, T18_3, c1, bsel_false, decide_true, bsel_true], hg.lists⟩
  | d + 1, i, g, h, hg => by
    have hi : i < a.length := by omega
    have c1 : decide ((i : Int) < (a.length : Int)) = true := decide_eq_true (by omega)
    have c2 : decide (0 ≤ (i : Int)) = true := decide_eq_true (by omega)
    have c3 : decide (i < a.length) = true := decide_eq_true hi
    have hw : IntKind.i64.wrap ((i : Int) + 1) = ((i + 1 : Nat) : Int) := by rw [wrapi (by omega) (by omega)]; omega
    have c4 : g i = itZ := (hg i).2 (Nat.le_refl _)
    obtain ⟨g1, e1, e2⟩ := toIts_loop a hs d (i + 1) _ (by omega) hg.set
    refine ⟨g1, ?_, e2⟩
    rw [← e1, L18_3]
    simp only [T18_3, c1, c2, c3, hw, bsel_true, decide_true, Int.toNat_natCast, Nat.zero_add, c4, unIt_itF]
    rfl
def preIts : List F → Bool | [a] => isItems a && shortItsV (unItems a) | _ => false
def resIts : List F → F | [a] => itemsF (unItems a) | _ => .dflt
theorem toIts_law (a : List It) (hs : a.length ≤ 1048576) : ∃ g1, G18 (a.length + 1) a = some (a.length, g1) ∧ Lists itF .zero a.length g1 a := by
  obtain ⟨g1, e1, e2⟩ := toIts_loop a hs a.length 0 _ (by omega) Fills.zero
  refine ⟨g1, ?_, e2⟩
  have c3 : decide (((a.length : Nat) : Int) * (((40 : Nat) : Int) + 1) ≤ (limit : Int)) = true := by rw [limit_eq]; exact decide_eq_true (by omega)
  unfold G18 T18
  simp only [c3, Int.le_refl, decide_true, bsel_true, Int.toNat_natCast]
  exact e1
theorem okToIts : PureOK Tryz.prog 18 preIts resIts :=
  fn_pure_at (c := bodyOf Tryz.f18) Tryz.func18 (by kernel_rfl) (by kernel_rfl) fun xs hp => match xs, hp with
  | [a], hp => by
    simp only [preIts, Bool.and_eq_true] at hp
    obtain ⟨g1, e1, e2⟩ := toIts_law (unItems a) (of_decide_eq_true hp.2)
    exact ⟨[itemsF (unItems a)], _, ⟨(items_eqv hp.1).1, trivial⟩, t18 _ _ _ _ e1, e2.le⟩
/-! Right items: in bounds, and rising. -/
def risesV (p : Option Int) (n : Int) : Bool := match p with | none => true | some p => !decide (n ≤ p)
def itsOk : List It → Option Int → Bool
  | [], _ => true
  | t :: ts, p => inV t.id 1 1000 && segOkV t.x0 t.y0 t.x1 t.y1 && risesV p t.id && itsOk ts (some t.id)
def prevOf (l : List It) : Nat → Option Int
  | 0 => none
  | i + 1 => some (l.getD i .zero).id
def treeV (q : Qd) : Tr × Bool :=
  bif limitsV q.most q.deep && !decide ((q.items.length : Int) > 40) && !decide ((q.blocks.length : Int) > 2000) && itsOk q.items none && (readV 9 q.blocks 0 (-1048576) (-1048576) 2097152 q.deep).2.2 &&
    (readV 9 q.blocks 0 (-1048576) (-1048576) 2097152 q.deep).2.1 == (q.blocks.length : Int) && rightV q.items (readV 9 q.blocks 0 (-1048576) (-1048576) 2097152 q.deep).1 then ((readV 9 q.blocks 0 (-1048576) (-1048576) 2097152 q.deep).1, true) else (.zero, false)
def okI (q : Qd) : Bool := limitsV q.most q.deep && !decide ((q.items.length : Int) > 40) && !decide ((q.blocks.length : Int) > 2000) && itsOk q.items none && checkV 9 q 0 (rootV q) 0 == (q.blocks.length : Int)
theorem rdKids_all {f : Int → Int → Tr × Int × Bool} {P : Tr → Prop} (hf : ∀ a k, (f a k).2.2 = true → P (f a k).1) : ∀ (ks : List Int) (a : Int) (ts : List Tr) (p : Int), rdKids f ks a = some (ts, p) → ∀ t ∈ ts, P t
  | [], a, ts, p, h => by simp only [rdKids, Option.some.injEq, Prod.mk.injEq] at h; rw [← h.1]; simp
  | k :: ks, a, ts, p, h => by
    rw [rdKids] at h
    cases hc : (f a k).2.2 with
    | false => rw [hc] at h; cases h
    | true =>
      rw [hc, cond_true] at h
      cases hr : rdKids f ks (f a k).2.1 with
      | none => rw [hr] at h; cases h
      | some r =>
        obtain ⟨ts', p'⟩ := r
        rw [hr] at h
        simp only [Option.some.injEq, Prod.mk.injEq] at h
        rw [← h.1]
        intro t ht
        rcases List.mem_cons.1 ht with rfl | ht
        · exact hf a k hc
        · exact rdKids_all hf ks _ _ _ hr t ht
theorem read_depth : ∀ (D : Nat) (l : List Bk) (a x y sz deep : Int), 0 ≤ deep → (readV D l a x y sz deep).2.2 = true → (trDepth (readV D l a x y sz deep).1 : Int) ≤ deep
  | 0, l, a, x, y, sz, deep, hd, h => by cases h
  | D + 1, l, a, x, y, sz, deep, hd, h => by
    have ih := read_depth D l
    rw [readV] at h ⊢
    generalize decide (a ≥ (l.length : Int)) = c1 at h ⊢
    generalize l.getD a.toNat .zero = b at h ⊢
    cases c1 with
    | true => cases h
    | false =>
      simp only [cond_false] at h ⊢
      cases hc : (b.x != x || b.y != y || b.size != sz || (b.split && (decide (deep < 1) || decide ((b.ids.length : Int) > 0)))) with
      | true => rw [hc] at h; cases h
      | false =>
        rw [hc] at h
        simp only [cond_false] at h ⊢
        cases hs : b.split with
        | false => simp only [Bool.not_false, cond_true, trDepth]; exact hd
        | true =>
          rw [hs] at hc h
          simp only [Bool.or_eq_false_iff, Bool.true_and, decide_eq_false_iff_not] at hc
          have hd1 : 1 ≤ deep := by omega
          simp only [Bool.not_true, cond_false] at h ⊢
          split
          · rename_i t0 t1 t2 t3 p hr
            have all := rdKids_all (P := fun t => (trDepth t : Int) ≤ deep - 1) (fun a k hk => ih a _ _ _ _ (by omega) hk) _ _ _ _ hr
            have h0 := all t0 (by simp)
            have h1 := all t1 (by simp)
            have h2 := all t2 (by simp)
            have h3 := all t3 (by simp)
            simp only [trDepth]
            have : max (max (trDepth t0) (trDepth t1)) (max (trDepth t2) (trDepth t3)) < deep.toNat := Nat.max_lt.2 ⟨Nat.max_lt.2 ⟨by omega, by omega⟩, Nat.max_lt.2 ⟨by omega, by omega⟩⟩
            omega
          · rename_i hne
            split at h
            · rename_i t0 t1 t2 t3 p hr; exact absurd hr (hne _ _ _ _ _)
            · cases h
/-! The two ways through a tree come to the same. -/
theorem kids_same (f : Int → Bk → Int) (g : Int → Int → Tr × Int × Bool) (R : Tr → Bool) (hp : ∀ a j, 0 ≤ a → (g a j).2.2 = true → 0 ≤ (g a j).2.1) : ∀ (zs : List (Bk × Int)), (∀ z ∈ zs, ∀ a, 0 ≤ a → f a z.1 = bif (g a z.2).2.2 && R (g a z.2).1 then (g a z.2).2.1 else -1) → ∀ a, 0 ≤ a →
    ckKids f (zs.map (·.1)) a = match rdKids g (zs.map (·.2)) a with | some (ts, p) => bif ts.all R then p else -1 | none => -1
  | [], _, a, ha => by simp [ckKids, rdKids]
  | z :: zs, hz, a, ha => by
    have h1 := hz z (by simp) a ha
    simp only [List.map_cons]
    rw [ckKids, rdKids, h1]
    cases hc : (g a z.2).2.2 with
    | false => rfl
    | true =>
      have hpos := hp a z.2 ha hc
      have ih := kids_same f g R hp zs (fun z' hz' => hz z' (by simp [hz'])) (g a z.2).2.1 hpos
      cases hR : R (g a z.2).1 with
      | false =>
        cases hr : rdKids g (zs.map (·.2)) (g a z.2).2.1 with
        | none => simp
        | some r => simp [hr, hR]
      | true =>
        have hneg : decide ((g a z.2).2.1 < 0) = false := decide_eq_false (by omega)
        simp only [Bool.and_self, cond_true, hneg, cond_false]
        rw [ih]
        cases hr : rdKids g (zs.map (·.2)) (g a z.2).2.1 with
        | none => rfl
        | some r => obtain ⟨ts, p⟩ := r; simp [hR]
theorem half_rng {s : Int} (h : 0 ≤ s ∧ s ≤ 2097152) : halfV s = s.tdiv 2 ∧ 0 ≤ s.tdiv 2 ∧ 2 * s.tdiv 2 ≤ s := by
  have e : s.tdiv 2 = s / 2 := Int.tdiv_eq_ediv_of_nonneg h.1
  unfold halfV
  rw [e]
  exact ⟨wrapi (by omega) (by omega), by omega, by omega⟩
theorem kids_len4 {f : Int → Int → Tr × Int × Bool} : ∀ (ks : List Int) (a : Int) (ts : List Tr) (p : Int), rdKids f ks a = some (ts, p) → ts.length = ks.length
  | [], a, ts, p, h => by simp only [rdKids, Option.some.injEq, Prod.mk.injEq] at h; rw [← h.1]; rfl
  | k :: ks, a, ts, p, h => by
    rw [rdKids] at h
    cases hc : (f a k).2.2 with
    | false => rw [hc] at h; cases h
    | true =>
      rw [hc, cond_true] at h
      cases hr : rdKids f ks (f a k).2.1 with
      | none => rw [hr] at h; cases h
      | some r =>
        obtain ⟨ts', p'⟩ := r
        rw [hr] at h
        simp only [Option.some.injEq, Prod.mk.injEq] at h
        rw [← h.1, List.length_cons, kids_len4 ks _ _ _ hr, List.length_cons]
theorem check_read : ∀ (D : Nat) (q : Qd) (a x y s deep : Int), 0 ≤ a → 0 ≤ deep → deep ≤ q.deep → q.deep < deep + D → 0 ≤ s ∧ s ≤ 2097152 → -1048576 ≤ x ∧ x + s ≤ 1048576 → -1048576 ≤ y ∧ y + s ≤ 1048576 →
    checkV D q a (squareV q x y s) deep = bif (readV D q.blocks a x y s (q.deep - deep)).2.2 && rightV q.items (readV D q.blocks a x y s (q.deep - deep)).1 then (readV D q.blocks a x y s (q.deep - deep)).2.1 else -1
  | 0, q, a, x, y, s, deep, ha, h0, h1, h2, hs, hx, hy => by omega
  | D + 1, q, a, x, y, s, deep, ha, h0, h1, h2, hs, hx, hy => by
    have ih := check_read D q
    rw [checkV, readV]
    cases hc : decide (a ≥ (q.blocks.length : Int)) with
    | true => rfl
    | false =>
      generalize q.blocks.getD a.toNat .zero = b
      simp only [cond_false, squareV]
      cases hX : (b.x != x) with
      | true => rfl
      | false => cases hY : (b.y != y) with
        | true => rfl
        | false => cases hZ : (b.size != s) with
          | true => rfl
          | false => cases hS : b.split with
            | false =>
              simp only [Bool.false_and, Bool.or_self, cond_false, Bool.not_false, cond_true, rightV, Bool.true_and, sameV]
            | true => cases hL : decide ((b.ids.length : Int) > 0) with
              | true => simp
              | false =>
                simp only [Bool.or_self, Bool.or_false, Bool.true_and, Bool.false_or, cond_false, Bool.not_true]
                cases hd : (deep == q.deep) with
                | true =>
                  have : decide (q.deep - deep < 1) = true := decide_eq_true (by have := eq_of_beq hd; omega)
                  rw [this]
                  rfl
                | false =>
                  have hd' : deep ≠ q.deep := by simpa using hd
                  have hdd : decide (q.deep - deep < 1) = false := decide_eq_false (by omega)
                  rw [hdd]
                  simp only [cond_false]
                  obtain ⟨e1, e2, e3⟩ := half_rng hs
                  have w0 : IntKind.i64.wrap ((0 : Int).tmod 2 * halfV s) = 0 := by rw [Int.zero_tmod, Int.zero_mul]; exact wrapi (by omega) (by omega)
                  have w1 : IntKind.i64.wrap ((1 : Int).tmod 2 * halfV s) = halfV s := by rw [show (1 : Int).tmod 2 = 1 by decide, Int.one_mul, e1]; exact wrapi (by omega) (by omega)
                  have w2 : IntKind.i64.wrap ((2 : Int).tmod 2 * halfV s) = 0 := by rw [show (2 : Int).tmod 2 = 0 by decide, Int.zero_mul]; exact wrapi (by omega) (by omega)
                  have w3 : IntKind.i64.wrap ((3 : Int).tmod 2 * halfV s) = halfV s := by rw [show (3 : Int).tmod 2 = 1 by decide, Int.one_mul, e1]; exact wrapi (by omega) (by omega)
                  have v0 : IntKind.i64.wrap (IntKind.i64.wrap ((0 : Int).tdiv 2) * halfV s) = 0 := by rw [show IntKind.i64.wrap ((0 : Int).tdiv 2) = 0 by decide, Int.zero_mul]; exact wrapi (by omega) (by omega)
                  have v1 : IntKind.i64.wrap (IntKind.i64.wrap ((1 : Int).tdiv 2) * halfV s) = 0 := by rw [show IntKind.i64.wrap ((1 : Int).tdiv 2) = 0 by decide, Int.zero_mul]; exact wrapi (by omega) (by omega)
                  have v2 : IntKind.i64.wrap (IntKind.i64.wrap ((2 : Int).tdiv 2) * halfV s) = halfV s := by rw [show IntKind.i64.wrap ((2 : Int).tdiv 2) = 1 by decide, Int.one_mul, e1]; exact wrapi (by omega) (by omega)
                  have v3 : IntKind.i64.wrap (IntKind.i64.wrap ((3 : Int).tdiv 2) * halfV s) = halfV s := by rw [show IntKind.i64.wrap ((3 : Int).tdiv 2) = 1 by decide, Int.one_mul, e1]; exact wrapi (by omega) (by omega)
                  have x0 : IntKind.i64.wrap (x + 0) = x := wrapi (by omega) (by omega) |>.trans (by omega)
                  have y0 : IntKind.i64.wrap (y + 0) = y := wrapi (by omega) (by omega) |>.trans (by omega)
                  have x1 : IntKind.i64.wrap (x + halfV s) = x + s.tdiv 2 := by rw [e1]; exact wrapi (by omega) (by omega)
                  have y1 : IntKind.i64.wrap (y + halfV s) = y + s.tdiv 2 := by rw [e1]; exact wrapi (by omega) (by omega)
                  have hk : kidsV q ⟨x, y, s, false, metFrom q.items x y s 0⟩ = [(squareV q x y (s.tdiv 2), (0 : Int)), (squareV q (x + s.tdiv 2) y (s.tdiv 2), 1), (squareV q x (y + s.tdiv 2) (s.tdiv 2), 2), (squareV q (x + s.tdiv 2) (y + s.tdiv 2) (s.tdiv 2), 3)].map (·.1) := by
                    rw [e1] at x1 y1
                    simp only [kidsV, e1, x1, y1, List.map_cons, List.map_nil]
                  have hf : q.deep - deep - 1 = q.deep - (deep + 1) := by omega
                  have hgd : (fun a k => readV D q.blocks a (IntKind.i64.wrap (x + IntKind.i64.wrap ((k.tmod 2) * halfV s))) (IntKind.i64.wrap (y + IntKind.i64.wrap (IntKind.i64.wrap (k.tdiv 2) * halfV s))) (halfV s) (q.deep - deep - 1)) = rdF D q.blocks x y s (q.deep - deep) := rfl
                  rw [hgd, hk]
                  have key := kids_same (fun a b => checkV D q a b (deep + 1)) (rdF D q.blocks x y s (q.deep - deep)) (rightV q.items) (fun a j ha hb => read_pos D _ _ _ _ _ _ ha hb)
                    [(squareV q x y (s.tdiv 2), (0 : Int)), (squareV q (x + s.tdiv 2) y (s.tdiv 2), 1), (squareV q x (y + s.tdiv 2) (s.tdiv 2), 2), (squareV q (x + s.tdiv 2) (y + s.tdiv 2) (s.tdiv 2), 3)] (fun z hz a ha => by
                      simp only [List.mem_cons, List.not_mem_nil, or_false] at hz
                      rcases hz with rfl | rfl | rfl | rfl
                      · have hr : rdF D q.blocks x y s (q.deep - deep) a 0 = readV D q.blocks a x y (s.tdiv 2) (q.deep - (deep + 1)) := by unfold rdF; rw [w0, v0, x0, y0, e1, hf]
                        simp only [hr]
                        exact ih a x y _ (deep + 1) ha (by omega) (by omega) (by omega) (by omega) (by omega) (by omega)
                      · have hr : rdF D q.blocks x y s (q.deep - deep) a 1 = readV D q.blocks a (x + s.tdiv 2) y (s.tdiv 2) (q.deep - (deep + 1)) := by unfold rdF; rw [w1, v1, x1, y0, e1, hf]
                        simp only [hr]
                        exact ih a _ y _ (deep + 1) ha (by omega) (by omega) (by omega) (by omega) (by omega) (by omega)
                      · have hr : rdF D q.blocks x y s (q.deep - deep) a 2 = readV D q.blocks a x (y + s.tdiv 2) (s.tdiv 2) (q.deep - (deep + 1)) := by unfold rdF; rw [w2, v2, x0, y1, e1, hf]
                        simp only [hr]
                        exact ih a x _ _ (deep + 1) ha (by omega) (by omega) (by omega) (by omega) (by omega) (by omega)
                      · have hr : rdF D q.blocks x y s (q.deep - deep) a 3 = readV D q.blocks a (x + s.tdiv 2) (y + s.tdiv 2) (s.tdiv 2) (q.deep - (deep + 1)) := by unfold rdF; rw [w3, v3, x1, y1, e1, hf]
                        simp only [hr]
                        exact ih a _ _ _ (deep + 1) ha (by omega) (by omega) (by omega) (by omega) (by omega) (by omega)) (a + 1) (by omega)
                  rw [key]
                  have hm : ([(squareV q x y (s.tdiv 2), (0 : Int)), (squareV q (x + s.tdiv 2) y (s.tdiv 2), 1), (squareV q x (y + s.tdiv 2) (s.tdiv 2), 2), (squareV q (x + s.tdiv 2) (y + s.tdiv 2) (s.tdiv 2), 3)].map (·.2)) = [0, 1, 2, 3] := rfl
                  rw [hm]
                  cases hr : rdKids (rdF D q.blocks x y s (q.deep - deep)) [0, 1, 2, 3] (a + 1) with
                  | none => rfl
                  | some r =>
                    obtain ⟨ts, p⟩ := r
                    have hlen := kids_len4 _ _ _ _ hr
                    match ts, hlen with
                    | [t0, t1, t2, t3], _ =>
                      simp only [List.all_cons, List.all_nil, Bool.and_true, rightV, Bool.true_and]
                      cases rightV q.items t0 <;> cases rightV q.items t1 <;> cases rightV q.items t2 <;> cases rightV q.items t3 <;> rfl
theorem okI_tree (q : Qd) : okI q = (treeV q).2 := by
  unfold okI treeV
  cases h1 : limitsV q.most q.deep with
  | false => rfl
  | true =>
    have hd : 0 ≤ q.deep ∧ q.deep ≤ 8 := by
      simp only [limitsV, inV, Bool.and_eq_true, decide_eq_true_eq] at h1
      exact h1.2
    have := check_read 9 q 0 (-1048576) (-1048576) 2097152 0 (by omega) (by omega) (by omega) (by omega) (by omega) (by omega) (by omega)
    have hr : rootV q = squareV q (-1048576) (-1048576) 2097152 := rfl
    rw [hr, this, Int.sub_zero]
    generalize (!decide ((q.items.length : Int) > 40)) = c1
    generalize (!decide ((q.blocks.length : Int) > 2000)) = c2
    generalize itsOk q.items none = c3
    have hpos : (readV 9 q.blocks 0 (-1048576) (-1048576) 2097152 q.deep).2.2 = true → 0 ≤ (readV 9 q.blocks 0 (-1048576) (-1048576) 2097152 q.deep).2.1 := read_pos 9 _ _ _ _ _ _ (by omega)
    generalize readV 9 q.blocks 0 (-1048576) (-1048576) 2097152 q.deep = r at hpos ⊢
    have hneg : ((-1 : Int) == (q.blocks.length : Int)) = false := by
      rw [beq_eq_false_iff_ne]; omega
    cases c1 <;> cases c2 <;> cases c3 <;> simp only [Bool.and_false, Bool.false_and, Bool.and_true, Bool.true_and, cond_false]
    cases hb : r.2.2 with
    | false => simp [hneg]
    | true =>
      cases hR : rightV q.items r.1 with
      | false => simp [hneg]
      | true =>
        simp only [Bool.and_true, Bool.true_and, cond_true]
        cases (r.2.1 == (q.blocks.length : Int)) <;> rfl
theorem prev_at (l : List It) {i : Nat} (h : 0 < i) : prevOf l i = some (l.getD (i - 1) .zero).id := by
  match i, h with
  | i + 1, _ => rfl
def treeEnd (q : Qd) : Tr × Bool := bif (readV 9 q.blocks 0 (-1048576) (-1048576) 2097152 q.deep).2.2 && (readV 9 q.blocks 0 (-1048576) (-1048576) 2097152 q.deep).2.1 == (q.blocks.length : Int) && rightV q.items (readV 9 q.blocks 0 (-1048576) (-1048576) 2097152 q.deep).1 then ((readV 9 q.blocks 0 (-1048576) (-1048576) 2097152 q.deep).1, true) else (.zero, false)
def nilTr : F := F.agg [F.int .i64 0, F.int .i64 0, F.int .i64 0, F.sl 0 fun x => F.bool false, F.sl 0 fun x => F.bool false]
theorem nilTr_le : FLe nilTr (trF .zero) := FLe.agg ⟨.refl _, .refl _, .refl _, FLe.sl fun j hj => absurd hj (Nat.not_lt_zero _), FLe.sl fun j hj => absurd hj (Nat.not_lt_zero _), trivial⟩
theorem root_loop (q : Qd) (hs : allShortV q.blocks = true) (hn : q.items.length ≤ 40) (hd : 0 ≤ q.deep ∧ q.deep ≤ 8) : ∀ (m i : Nat), i + m = q.items.length →
    ∃ rt, L13_4 (m + 1) q i = some (rt, (bif itsOk (q.items.drop i) (prevOf q.items i) then treeEnd q else (.zero, false)).2) ∧ FLe rt (trF (bif itsOk (q.items.drop i) (prevOf q.items i) then treeEnd q else (.zero, false)).1)
  | 0, i, h => by
    have c1 : decide ((i : Int) < (q.items.length : Int)) = false := decide_eq_false (by omega)
    have c2 : readOk 9 q.blocks 0 q.deep = true := by
      simp only [readOk, hs, Bool.true_and, Bool.and_eq_true, decide_eq_true_eq]
      omega
    rw [List.drop_eq_nil_of_le (by omega)]
    simp only [L13_4, T13_4, c1, bsel_false, isBlocks_blocksF, unBlocks_blocksF, c2, Bool.and_true, bsel_true, isTr_trF, unTr_trF, isItems_itemsF, unItems_itemsF, itsOk, cond_true, treeEnd]
    have hdep := read_depth 9 q.blocks 0 (-1048576) (-1048576) 2097152 q.deep hd.1
    generalize readV 9 q.blocks 0 (-1048576) (-1048576) 2097152 q.deep = r at hdep ⊢
    cases hb : r.2.2 with
    | false => exact ⟨nilTr, rfl, nilTr_le⟩
    | true =>
      rw [bne]
      cases hc : (r.2.1 == (q.blocks.length : Int)) with
      | false => exact ⟨nilTr, rfl, nilTr_le⟩
      | true =>
        have hr : rightOk 9 r.1 q.items = true := by
          simp only [rightOk, Bool.and_eq_true, decide_eq_true_eq]
          have := hdep hb
          omega
        simp only [hr, Bool.and_true, Bool.true_and]
        cases hR : rightV q.items r.1 with
        | false => exact ⟨nilTr, rfl, nilTr_le⟩
        | true => exact ⟨trF r.1, rfl, .refl _⟩
  | m + 1, i, h => by
    have hi : i < q.items.length := by omega
    have c1 : decide ((i : Int) < (q.items.length : Int)) = true := decide_eq_true (by omega)
    have c2 : decide (0 ≤ (i : Int)) = true := decide_eq_true (by omega)
    have hw : IntKind.i64.wrap ((i : Int) + 1) = ((i + 1 : Nat) : Int) := by rw [wrapi (by omega) (by omega)]; omega
    have h1 : q.items.getD i .zero = q.items[i] := by simp [List.getD, List.getElem?_eq_getElem hi]
    have hp1 : prevOf q.items (i + 1) = some q.items[i].id := by rw [← h1]; rfl
    obtain ⟨rt, e1, e2⟩ := root_loop q hs hn hd m (i + 1) (by omega)
    rw [hp1] at e1 e2
    rw [List.drop_eq_getElem_cons hi, itsOk, L13_4]
    simp only [T13_4, c1, c2, hw, bsel_true, Int.toNat_natCast, h1]
    cases inV q.items[i].id 1 1000 with
    | false => exact ⟨nilTr, rfl, nilTr_le⟩
    | true => cases segOkV q.items[i].x0 q.items[i].y0 q.items[i].x1 q.items[i].y1 with
      | false => exact ⟨nilTr, rfl, nilTr_le⟩
      | true =>
        simp only [Bool.not_true, beq_self_eq_true, bsel_true, Bool.and_self, Bool.true_and]
        by_cases h0 : i = 0
        · subst h0
          exact ⟨rt, e1, e2⟩
        · have c3 : decide ((i : Int) > 0) = true := decide_eq_true (by omega)
          have hw2 : IntKind.i64.wrap ((i : Int) - 1) = ((i - 1 : Nat) : Int) := by rw [wrapi (by omega) (by omega)]; omega
          have c4 : decide (0 ≤ ((i - 1 : Nat) : Int)) = true := decide_eq_true (by omega)
          have c5 : decide (((i - 1 : Nat) : Int) < (q.items.length : Int)) = true := decide_eq_true (by omega)
          rw [prev_at _ (by omega)]
          simp only [risesV, c3, hw2, c4, c5, bsel_true, beq_self_eq_true, Int.toNat_natCast]
          have hge : decide ((q.items.getD (i - 1) It.zero).id ≥ q.items[i].id) = decide (q.items[i].id ≤ (q.items.getD (i - 1) It.zero).id) := rfl
          rw [hge]
          cases decide (q.items[i].id ≤ (q.items.getD (i - 1) It.zero).id) with
          | true => exact ⟨nilTr, rfl, nilTr_le⟩
          | false => exact ⟨rt, e1, e2⟩
def okQd (q : Qd) : Bool := allShortV q.blocks
def preTree : List F → Bool | [q] => isQd q && okQd (unQd q) | _ => false
def resTree : List F → F | [q] => .tup [trF (treeV (unQd q)).1, .bool (treeV (unQd q)).2] | _ => .dflt
theorem root_spec (q : Qd) (hs : allShortV q.blocks = true) : ∃ rt, G13 (q.items.length + 1) q = some (rt, (treeV q).2) ∧ FLe rt (trF (treeV q).1) := by
  unfold G13 T13 treeV
  cases h1 : limitsV q.most q.deep with
  | false => exact ⟨nilTr, rfl, nilTr_le⟩
  | true => cases h2 : decide ((q.items.length : Int) > 40) with
    | true => exact ⟨nilTr, rfl, nilTr_le⟩
    | false => cases h3 : decide ((q.blocks.length : Int) > 2000) with
      | true => exact ⟨nilTr, rfl, nilTr_le⟩
      | false =>
        have hd : 0 ≤ q.deep ∧ q.deep ≤ 8 := by
          simp only [limitsV, inV, Bool.and_eq_true, decide_eq_true_eq] at h1
          exact h1.2
        have h2' := of_decide_eq_false h2
        obtain ⟨rt, e1, e2⟩ := root_loop q hs (by omega) hd q.items.length 0 (by omega)
        rw [List.drop_zero] at e1 e2
        have e : (bif itsOk q.items (prevOf q.items 0) then treeEnd q else (Tr.zero, false)) = (bif limitsV q.most q.deep && !decide ((q.items.length : Int) > 40) && !decide ((q.blocks.length : Int) > 2000) && itsOk q.items none && (readV 9 q.blocks 0 (-1048576) (-1048576) 2097152 q.deep).2.2 &&
            (readV 9 q.blocks 0 (-1048576) (-1048576) 2097152 q.deep).2.1 == (q.blocks.length : Int) && rightV q.items (readV 9 q.blocks 0 (-1048576) (-1048576) 2097152 q.deep).1 then ((readV 9 q.blocks 0 (-1048576) (-1048576) 2097152 q.deep).1, true) else (.zero, false)) := by
          rw [h1, h2, h3]
          have hp : prevOf q.items 0 = none := rfl
          rw [hp]
          unfold treeEnd
          cases itsOk q.items none with
          | false => rfl
          | true => simp only [cond_true, Bool.true_and, Bool.not_false]
        rw [h1, h2, h3] at e
        rw [e] at e1 e2
        exact ⟨rt, e1, e2⟩
theorem okTree : PureOK Tryz.prog 13 preTree resTree :=
  fn_pure_at (c := bodyOf Tryz.f13) Tryz.func13 (by kernel_rfl) (by kernel_rfl) fun xs hp => match xs, hp with
  | [q], hp => by
    simp only [preTree, Bool.and_eq_true] at hp
    obtain ⟨rt, e1, e2⟩ := root_spec (unQd q) hp.2
    exact ⟨[qdF (unQd q)], _, ⟨(qd_eqv hp.1).1, trivial⟩, t13 _ _ _ _ e1, FLe.tup ⟨e2, .refl _, trivial⟩⟩
theorem okI_loop (q : Qd) (hs : allShortV q.blocks = true) (hn : q.items.length ≤ 40) (hd : 0 ≤ q.deep ∧ q.deep ≤ 8) : ∀ (m i : Nat), i + m = q.items.length →
    L20_4 (m + 1) q i = some (itsOk (q.items.drop i) (prevOf q.items i) && checkV 9 q 0 (rootV q) 0 == (q.blocks.length : Int))
  | 0, i, h => by
    have c1 : decide ((i : Int) < (q.items.length : Int)) = false := decide_eq_false (by omega)
    have c2 : checkOk 9 q 0 0 = true := by
      simp only [checkOk, hs, Bool.true_and, Bool.and_eq_true, decide_eq_true_eq]
      omega
    have c3 : fewV q = true := decide_eq_true hn
    have hr : resRoot [qdF q] = bkF (rootV (unQd (qdF q))) := rfl
    rw [List.drop_eq_nil_of_le (by omega)]
    simp only [L20_4, T20_4, c1, bsel_false, isQd_qdF, c3, hr, unQd_qdF, isBk_bkF, unBk_bkF, c2, Bool.and_true, bsel_true, itsOk, Bool.true_and]
  | m + 1, i, h => by
    have hi : i < q.items.length := by omega
    have c1 : decide ((i : Int) < (q.items.length : Int)) = true := decide_eq_true (by omega)
    have c2 : decide (0 ≤ (i : Int)) = true := decide_eq_true (by omega)
    have hw : IntKind.i64.wrap ((i : Int) + 1) = ((i + 1 : Nat) : Int) := by rw [wrapi (by omega) (by omega)]; omega
    have h1 : q.items.getD i .zero = q.items[i] := by simp [List.getD, List.getElem?_eq_getElem hi]
    have hp1 : prevOf q.items (i + 1) = some q.items[i].id := by rw [← h1]; rfl
    have ih := okI_loop q hs hn hd m (i + 1) (by omega)
    rw [hp1] at ih
    rw [List.drop_eq_getElem_cons hi, itsOk, L20_4]
    simp only [T20_4, c1, c2, hw, bsel_true, Int.toNat_natCast, h1]
    cases inV q.items[i].id 1 1000 with
    | false => rfl
    | true => cases segOkV q.items[i].x0 q.items[i].y0 q.items[i].x1 q.items[i].y1 with
      | false => rfl
      | true =>
        simp only [Bool.not_true, beq_self_eq_true, bsel_true, Bool.and_self, Bool.true_and]
        by_cases h0 : i = 0
        · subst h0
          exact ih
        · have c3 : decide ((i : Int) > 0) = true := decide_eq_true (by omega)
          have hw2 : IntKind.i64.wrap ((i : Int) - 1) = ((i - 1 : Nat) : Int) := by rw [wrapi (by omega) (by omega)]; omega
          have c4 : decide (0 ≤ ((i - 1 : Nat) : Int)) = true := decide_eq_true (by omega)
          have c5 : decide (((i - 1 : Nat) : Int) < (q.items.length : Int)) = true := decide_eq_true (by omega)
          rw [prev_at _ (by omega)]
          simp only [risesV, c3, hw2, c4, c5, bsel_true, beq_self_eq_true, Int.toNat_natCast]
          cases decide (q.items[i].id ≤ (q.items.getD (i - 1) It.zero).id) with
          | true => rfl
          | false => exact ih
theorem okI_impl (q : Qd) (hs : allShortV q.blocks = true) : G20 (q.items.length + 1) q = some (okI q) := by
  unfold G20 T20 okI limitsV
  cases h1 : inV q.most 1 8 with
  | false => rfl
  | true => cases h4 : inV q.deep 0 8 with
    | false => rfl
    | true => cases h2 : decide ((q.items.length : Int) > 40) with
      | true => rfl
      | false => cases h3 : decide ((q.blocks.length : Int) > 2000) with
        | true => rfl
        | false =>
          have hd : 0 ≤ q.deep ∧ q.deep ≤ 8 := by
            simp only [inV, Bool.and_eq_true, decide_eq_true_eq] at h4
            exact h4
          have h2' := of_decide_eq_false h2
          have := okI_loop q hs (by omega) hd q.items.length 0 (by omega)
          simp only [Bool.not_true, Bool.not_false, Bool.true_and, beq_self_eq_true, bsel_true, bsel_false]
          exact this
def resOk : List F → F | [q] => .bool (treeV (unQd q)).2 | _ => .dflt
theorem okQuadOkI : PureOK Tryz.prog 20 preTree resOk :=
  fn_pure_at (c := bodyOf Tryz.f20) Tryz.func20 (by kernel_rfl) (by kernel_rfl) fun xs hp => match xs, hp with
  | [q], hp => by
    simp only [preTree, Bool.and_eq_true] at hp
    have h := okI_impl (unQd q) hp.2
    rw [okI_tree] at h
    exact ⟨[qdF (unQd q)], _, ⟨(qd_eqv hp.1).1, trivial⟩, t20 _ _ _ h, .refl _⟩
def envQ5 : Env := (((envQ4.add 25 (.pure preEqIts resEqIts)).add 18 (.pure preIts resIts)).add 13 (.pure preTree resTree)).add 20 (.pure preTree resOk)
theorem envQ5_ok : EnvOK Tryz.prog envQ5 := (Env.add_ok (Env.add_ok (Env.add_ok (Env.add_ok envQ4_ok okEqIts.sp) okToIts.sp) okTree.sp) okQuadOkI.sp)
end
end Go.Proofs.YtdcooaopkbicfaaGreat.R
namespace Go.Proofs.YtdcooaopkbicfaaGreat.R
open Go
noncomputable section
/-! ### function 10 -/
def T10 {ρ : Type} (ret : (Bool) → Option ρ) (a : Qd) (b : Qd) : Option ρ :=
 (bsel (a.most != b.most)
 (ret (false))
 (bsel (a.deep != b.deep)
 (ret (false))
 (bsel (isItems (itemsF a.items) && isItems (itemsF b.items) && shortItsV (unItems (itemsF a.items)))
 (bsel (!sameItsV (unItems (itemsF a.items)) (unItems (itemsF b.items)))
 (ret (false))
 (bsel (isBlocks (blocksF a.blocks) && isBlocks (blocksF b.blocks) && allShortV (unBlocks (blocksF a.blocks)))
 (bsel (!sameBksV (unBlocks (blocksF a.blocks)) (unBlocks (blocksF b.blocks)))
 (ret (false))
 (ret (true)))
 none))
 none)))
def G10 (a : Qd) (b : Qd) : Option (Bool) := T10 some a b
theorem t10 (a : Qd) (b : Qd) (r : Bool) (h : G10 a b = some r) : Ends Tryz.prog Tryz.f10.results.toList [.code (bodyOf Tryz.f10)] (start Tryz.f10.ntmps ([qdF a, qdF b].map .f)) (F.bool r) := by
  refine Ends.of_run tyOK envQ5_ok (T := []) (n := 200) ?_
  have e : run Tryz.prog (tiOf Tryz.prog) envQ5 [] 0 Tryz.f10.results.toList some 200 [.code (bodyOf Tryz.f10)] (start Tryz.f10.ntmps ([qdF a, qdF b].map .f)) = T10 (fun r => some (.ret (F.bool r))) a b := by kernel_rfl
  rw [e]
  exact (good_sel h (fun _ h => good_ret (by cases h; rfl)) (fun _ h => (good_sel h (fun _ h => good_ret (by cases h; rfl)) (fun _ h => (good_sel h (fun _ h => (good_sel h (fun _ h => good_ret (by cases h; rfl)) (fun _ h => (good_sel h (fun _ h => (good_sel h (fun _ h => good_ret (by cases h; rfl)) (fun _ h => good_ret (by cases h; rfl)))) (fun _ h => nomatch h))))) (fun _ h => nomatch h))))))
/-! ### function 4 -/
def T4 {ρ : Type} (ret : (Int) → Option ρ) (a : Qd) (lf : Int) : Option ρ :=
 (bsel (isItems (itemsF a.items))
 (bsel (decide (leftV (unItems (itemsF a.items)).length lf < 0))
 (ret (-1))
 (bsel (isBlocks (blocksF a.blocks) && longV (unBlocks (blocksF a.blocks)).length)
 (bsel (decide (szBksV (unBlocks (blocksF a.blocks)) (leftV (unItems (itemsF a.items)).length lf) < 0))
 (ret (-1))
 (ret (szBksV (unBlocks (blocksF a.blocks)) (leftV (unItems (itemsF a.items)).length lf))))
 none))
 none)
def G4 (a : Qd) (lf : Int) : Option (Int) := T4 some a lf
theorem t4 (a : Qd) (lf : Int) (r : Int) (h : G4 a lf = some r) : Ends Tryz.prog Tryz.f4.results.toList [.code (bodyOf Tryz.f4)] (start Tryz.f4.ntmps ([qdF a, F.int .i64 lf].map .f)) (F.int .i64 r) := by
  refine Ends.of_run tyOK envQ5_ok (T := []) (n := 200) ?_
  have e : run Tryz.prog (tiOf Tryz.prog) envQ5 [] 0 Tryz.f4.results.toList some 200 [.code (bodyOf Tryz.f4)] (start Tryz.f4.ntmps ([qdF a, F.int .i64 lf].map .f)) = T4 (fun r => some (.ret (F.int .i64 r))) a lf := by kernel_rfl
  rw [e]
  exact (good_sel h (fun _ h => (good_sel h (fun _ h => good_ret (by cases h; rfl)) (fun _ h => (good_sel h (fun _ h => (good_sel h (fun _ h => good_ret (by cases h; rfl)) (fun _ h => good_ret (by cases h; rfl)))) (fun _ h => nomatch h))))) (fun _ h => nomatch h))
/-! ### function 6 -/
def T6 {ρ : Type} (ret : (F) → Option ρ) (a : Qd) : Option ρ :=
 (bsel (isItems (itemsF a.items) && shortItsV (unItems (itemsF a.items)))
 (bsel (isBlocks (blocksF a.blocks) && allShortV (unBlocks (blocksF a.blocks)))
 (ret (F.agg [F.int .i64 a.most, F.int .i64 a.deep, itemsF (unItems (itemsF a.items)), blocksF (unBlocks (blocksF a.blocks))]))
 none)
 none)
def G6 (a : Qd) : Option (F) := T6 some a
theorem t6 (a : Qd) (r : F) (h : G6 a = some r) : Ends Tryz.prog Tryz.f6.results.toList [.code (bodyOf Tryz.f6)] (start Tryz.f6.ntmps ([qdF a].map .f)) (r) := by
  refine Ends.of_run tyOK envQ5_ok (T := []) (n := 200) ?_
  have e : run Tryz.prog (tiOf Tryz.prog) envQ5 [] 0 Tryz.f6.results.toList some 200 [.code (bodyOf Tryz.f6)] (start Tryz.f6.ntmps ([qdF a].map .f)) = T6 (fun r => some (.ret (r))) a := by kernel_rfl
  rw [e]
  exact (good_sel h (fun _ h => (good_sel h (fun _ h => good_ret (by cases h; rfl)) (fun _ h => nomatch h))) (fun _ h => nomatch h))
def sameQdV (a b : Qd) : Bool := a.most == b.most && a.deep == b.deep && sameItsV a.items b.items && sameBksV a.blocks b.blocks
def shortQd (q : Qd) : Bool := shortItsV q.items && allShortV q.blocks
def shortQdOk (q : Qd) : Bool := shortQd q
def preEqQd : List F → Bool | [a, b] => isQd a && isQd b && shortQdOk (unQd a) | _ => false
def resEqQd : List F → F | [a, b] => .bool (sameQdV (unQd a) (unQd b)) | _ => .dflt
theorem eqQd_law (a b : Qd) (h : shortQd a = true) : G10 a b = some (sameQdV a b) := by
  simp only [shortQd, Bool.and_eq_true] at h
  unfold G10 T10 sameQdV
  simp only [isItems_itemsF, unItems_itemsF, isBlocks_blocksF, unBlocks_blocksF, h.1, h.2, bne, Bool.and_true, bsel_true]
  cases (a.most == b.most) <;> cases (a.deep == b.deep) <;> cases sameItsV a.items b.items <;> cases sameBksV a.blocks b.blocks <;> rfl
theorem okEqQd : PureOK Tryz.prog 10 preEqQd resEqQd :=
  fn_pure_at (c := bodyOf Tryz.f10) Tryz.func10 (by kernel_rfl) (by kernel_rfl) fun xs hp => match xs, hp with
  | [a, b], hp => by
    simp only [preEqQd, Bool.and_eq_true] at hp
    exact ⟨[qdF (unQd a), qdF (unQd b)], _, ⟨(qd_eqv hp.1.1).1, (qd_eqv hp.1.2).1, trivial⟩, t10 _ _ _ (eqQd_law _ _ hp.2), .refl _⟩
def szQdV (q : Qd) (lf : Int) : Int := bif decide (leftV q.items.length lf < 0) then -1 else bif decide (szBksV q.blocks (leftV q.items.length lf) < 0) then -1 else szBksV q.blocks (leftV q.items.length lf)
def preSzQd : List F → Bool | [a, .int .i64 _] => isQd a && longV (unQd a).blocks.length | _ => false
def resSzQd : List F → F | [a, .int .i64 k] => .int .i64 (szQdV (unQd a) k) | _ => .dflt
theorem szQd_law (a : Qd) (lf : Int) (h : longV a.blocks.length = true) : G4 a lf = some (szQdV a lf) := by
  unfold G4 T4 szQdV
  simp only [isItems_itemsF, unItems_itemsF, isBlocks_blocksF, unBlocks_blocksF, h, Bool.and_true, bsel_true]
  cases decide (leftV a.items.length lf < 0) with
  | true => rfl
  | false => cases decide (szBksV a.blocks (leftV a.items.length lf) < 0) <;> rfl
theorem okSzQd : PureOK Tryz.prog 4 preSzQd resSzQd :=
  fn_pure_at (c := bodyOf Tryz.f4) Tryz.func4 (by kernel_rfl) (by kernel_rfl) fun xs hp => match xs, hp with
  | [a, .int .i64 k], hp => by
    simp only [preSzQd, Bool.and_eq_true] at hp
    exact ⟨[qdF (unQd a), .int .i64 k], _, ⟨(qd_eqv hp.1).1, .refl _, trivial⟩, t4 _ _ _ (szQd_law _ _ hp.2), .refl _⟩
def preToQd : List F → Bool | [a] => isQd a && shortQdOk (unQd a) | _ => false
def resToQd : List F → F | [a] => qdF (unQd a) | _ => .dflt
theorem okToQd : PureOK Tryz.prog 6 preToQd resToQd :=
  fn_pure_at (c := bodyOf Tryz.f6) Tryz.func6 (by kernel_rfl) (by kernel_rfl) fun xs hp => match xs, hp with
  | [a], hp => by
    simp only [preToQd, Bool.and_eq_true] at hp
    have h := hp.2
    simp only [shortQdOk, shortQd, Bool.and_eq_true] at h
    exact ⟨[qdF (unQd a)], _, ⟨(qd_eqv hp.1).1, trivial⟩, t6 _ (qdF (unQd a)) (by
      unfold G6 T6
      simp only [isItems_itemsF, unItems_itemsF, isBlocks_blocksF, unBlocks_blocksF, h.1, h.2, Bool.and_true, bsel_true]
      rfl), .refl _⟩
/-! What the law's own count of sizes tells. -/
theorem left_val {n : Nat} {k : Int} (hk : 0 ≤ k ∧ k ≤ 1048576) (hn : n ≤ 9223372036854775807) : leftV n k = if (n : Int) ≤ k then k - n else -1 := by
  unfold leftV
  rw [wrapi (x := k - n) (by omega) (by omega)]
  by_cases h : (n : Int) ≤ k
  · rw [if_pos h, decide_eq_false (by omega)]; rfl
  · rw [if_neg h, decide_eq_true (by omega)]; rfl
theorem szIds_short : ∀ (l : List Bk) (k : Int), 0 ≤ k → k ≤ 1048576 → (∀ b ∈ l, b.ids.length ≤ 9223372036854775807) → 0 ≤ szIdsV l k → ∀ b ∈ l, b.ids.length ≤ 1048576
  | [], k, h0, h1, hl, h, b, hb => by cases hb
  | a :: l, k, h0, h1, hl, h, b, hb => by
    rw [szIdsV, left_val ⟨h0, h1⟩ (hl a (by simp))] at h
    by_cases hc : (a.ids.length : Int) ≤ k
    · rw [if_pos hc, decide_eq_false (by omega), cond_false] at h
      rcases List.mem_cons.1 hb with rfl | hb
      · omega
      · exact szIds_short l _ (by omega) (by omega) (fun b hb => hl b (by simp [hb])) h b hb
    · rw [if_neg hc] at h
      simp at h
theorem szQd_short (q : Qd) (h1 : q.items.length ≤ 9223372036854775807) (h2 : q.blocks.length ≤ 9223372036854775807) (h3 : ∀ b ∈ q.blocks, b.ids.length ≤ 9223372036854775807) (h : 0 ≤ szQdV q 1048576) : shortQd q = true := by
  unfold szQdV szBksV at h
  rw [left_val ⟨by omega, by omega⟩ h1] at h
  by_cases c1 : (q.items.length : Int) ≤ 1048576
  · rw [if_pos c1, decide_eq_false (by omega), cond_false, left_val ⟨by omega, by omega⟩ h2] at h
    by_cases c2 : (q.blocks.length : Int) ≤ 1048576 - q.items.length
    · rw [if_pos c2, decide_eq_false (show ¬ 1048576 - (q.items.length : Int) - (q.blocks.length : Int) < 0 by omega), cond_false] at h
      have h4 : 0 ≤ szIdsV q.blocks (1048576 - q.items.length - q.blocks.length) := by
        by_cases h5 : szIdsV q.blocks (1048576 - q.items.length - q.blocks.length) < 0
        · rw [decide_eq_true h5] at h; simp at h
        · omega
      have h6 := szIds_short q.blocks _ (by omega) (by omega) h3 h4
      simp only [shortQd, shortItsV, Bool.and_eq_true, decide_eq_true_eq]
      exact ⟨by omega, allShort_iff.2 ⟨by omega, fun b hb => decide_eq_true (h6 b hb)⟩⟩
    · rw [if_neg c2] at h; simp at h
  · rw [if_neg c1] at h; simp at h
theorem sameIts_refl : ∀ a : List It, sameItsV a a = true
  | [] => rfl
  | t :: a => by simp [sameItsV, sameItV, sameSegV, sameSpotV, sameIts_refl a]
theorem sameBks_refl : ∀ a : List Bk, sameBksV a a = true
  | [] => rfl
  | t :: a => by simp [sameBksV, sameBkV, sameV, sameBks_refl a]
theorem sameQd_refl (q : Qd) : sameQdV q q = true := by simp [sameQdV, sameIts_refl, sameBks_refl]
def envQ6 : Env := ((envQ5.add 10 (.pure preEqQd resEqQd)).add 4 (.pure preSzQd resSzQd)).add 6 (.pure preToQd resToQd)
theorem envQ6_ok : EnvOK Tryz.prog envQ6 := (Env.add_ok (Env.add_ok (Env.add_ok envQ5_ok okEqQd.sp) okSzQd.sp) okToQd.sp)
end
end Go.Proofs.YtdcooaopkbicfaaGreat.R
namespace Go.Proofs.YtdcooaopkbicfaaGreat.R
open Go
def val (B : Nat) : List Nat → Nat
  | [] => 0
  | w :: ws => w + B * val B ws
def okD (B : Nat) (l : List Nat) : Prop := ∀ w ∈ l, w < B
def trimD (l : List Nat) : Prop := l.getLast? ≠ some 0
theorem val_append (B : Nat) : ∀ a b : List Nat, val B (a ++ b) = val B a + B ^ a.length * val B b
  | [], b => by simp [val]
  | x :: a, b => by
    simp only [List.cons_append, val, List.length_cons, val_append B a b, Nat.pow_succ, Nat.mul_add]
    rw [Nat.mul_comm (B ^ a.length) B, Nat.mul_assoc]
    omega
theorem val_lt {B : Nat} : ∀ (l : List Nat), okD B l → val B l < B ^ l.length
  | [], _ => by simp [val]
  | x :: l, h => by
    have h1 := h x (by simp)
    have h2 := val_lt l fun w hw => h w (by simp [hw])
    simp only [val, List.length_cons, Nat.pow_succ]
    have h3 : B * (val B l + 1) ≤ B * B ^ l.length := Nat.mul_le_mul_left B h2
    rw [Nat.mul_comm (B ^ l.length) B]
    rw [Nat.mul_add] at h3
    omega
theorem val_pos {B : Nat} (hB : 0 < B) : ∀ (l : List Nat), trimD l → l ≠ [] → 0 < val B l
  | [], _, h => absurd rfl h
  | [x], ht, _ => by
    simp only [trimD, List.getLast?_singleton, ne_eq, Option.some.injEq] at ht
    simp only [val]; omega
  | x :: y :: l, ht, _ => by
    have h1 : trimD (y :: l) := by
      simp only [trimD, List.getLast?_cons_cons] at ht ⊢
      exact ht
    have := val_pos hB (y :: l) h1 (by simp)
    simp only [val] at this ⊢
    have h2 : 0 < B * (y + B * val B l) := Nat.mul_pos hB this
    omega
theorem trim_tail {x : Nat} {l : List Nat} (h : trimD (x :: l)) : trimD l := by
  cases l with
  | nil => simp [trimD]
  | cons y l => simpa [trimD, List.getLast?_cons_cons] using h
theorem val_inj {B : Nat} (hB : 1 < B) : ∀ (a b : List Nat), okD B a → okD B b → trimD a → trimD b → val B a = val B b → a = b
  | [], [], _, _, _, _, _ => rfl
  | [], y :: b, _, _, _, hb, h => by
    have := val_pos (B := B) (by omega) (y :: b) hb (by simp)
    rw [← h] at this; simp [val] at this
  | x :: a, [], _, _, ha, _, h => by
    have := val_pos (B := B) (by omega) (x :: a) ha (by simp)
    rw [h] at this; simp [val] at this
  | x :: a, y :: b, oa, ob, ha, hb, h => by
    have hx := oa x (by simp)
    have hy := ob y (by simp)
    simp only [val] at h
    have e1 : x = y := by
      have := congrArg (· % B) h
      simp only [Nat.add_mul_mod_self_left, Nat.mod_eq_of_lt hx, Nat.mod_eq_of_lt hy] at this
      exact this
    subst e1
    have e2 : val B a = val B b := by
      have h3 : B * val B a = B * val B b := by omega
      exact Nat.eq_of_mul_eq_mul_left (by omega) h3
    rw [val_inj hB a b (fun w hw => oa w (by simp [hw])) (fun w hw => ob w (by simp [hw])) (trim_tail ha) (trim_tail hb) e2]
def digs (B n : Nat) : List Nat := if h : 1 < B ∧ n ≠ 0 then (n % B) :: digs B (n / B) else []
termination_by n
decreasing_by exact Nat.div_lt_self (by omega) h.1
theorem digs_zero (B : Nat) : digs B 0 = [] := by rw [digs]; simp
theorem digs_pos {B n : Nat} (hB : 1 < B) (hn : n ≠ 0) : digs B n = (n % B) :: digs B (n / B) := by rw [digs, dif_pos ⟨hB, hn⟩]
theorem val_digs {B : Nat} (hB : 1 < B) (n : Nat) : val B (digs B n) = n := by
  induction n using Nat.strongRecOn with
  | _ n ih =>
    by_cases hn : n = 0
    · subst hn; rw [digs_zero]; rfl
    · rw [digs_pos hB hn, val, ih _ (Nat.div_lt_self (by omega) hB)]
      exact Nat.mod_add_div n B
theorem okD_digs {B : Nat} (hB : 1 < B) (n : Nat) : okD B (digs B n) := by
  induction n using Nat.strongRecOn with
  | _ n ih =>
    by_cases hn : n = 0
    · subst hn; rw [digs_zero]; intro w hw; cases hw
    · rw [digs_pos hB hn]
      intro w hw
      rcases List.mem_cons.1 hw with rfl | hw
      · exact Nat.mod_lt _ (by omega)
      · exact ih _ (Nat.div_lt_self (by omega) hB) w hw
theorem trimD_digs {B : Nat} (hB : 1 < B) (n : Nat) : trimD (digs B n) := by
  induction n using Nat.strongRecOn with
  | _ n ih =>
    by_cases hn : n = 0
    · subst hn; rw [digs_zero]; simp [trimD]
    · rw [digs_pos hB hn]
      have h1 := ih _ (Nat.div_lt_self (by omega) hB)
      by_cases h0 : n / B = 0
      · rw [h0, digs_zero]
        have : n < B := by
          rcases Nat.lt_or_ge n B with h | h
          · exact h
          · have := Nat.div_pos h (by omega); omega
        simp only [trimD, List.getLast?_singleton, ne_eq, Option.some.injEq, Nat.mod_eq_of_lt this]
        exact hn
      · rw [digs_pos hB h0] at h1 ⊢
        simp only [trimD, List.getLast?_cons_cons] at h1 ⊢
        exact h1
theorem digs_val {B : Nat} (hB : 1 < B) {l : List Nat} (h1 : okD B l) (h2 : trimD l) : digs B (val B l) = l :=
  val_inj hB _ _ (okD_digs hB _) h1 (trimD_digs hB _) h2 (val_digs hB _)
def trimL : List Nat → List Nat
  | [] => []
  | x :: l => match trimL l with
    | [] => if x = 0 then [] else [x]
    | y :: m => x :: y :: m
theorem val_trimL (B : Nat) : ∀ l : List Nat, val B (trimL l) = val B l
  | [] => rfl
  | x :: l => by
    have ih := val_trimL B l
    simp only [trimL]
    cases h : trimL l with
    | nil =>
      rw [h] at ih
      have h0 : val B l = 0 := ih.symm
      by_cases hx : x = 0
      · simp [hx, val, h0]
      · simp [hx, val, h0]
    | cons y m => rw [h] at ih; simp only [val] at ih ⊢; rw [ih]
theorem okD_trimL {B : Nat} : ∀ l : List Nat, okD B l → okD B (trimL l)
  | [], h => h
  | x :: l, h => by
    have ih := okD_trimL l fun w hw => h w (by simp [hw])
    simp only [trimL]
    cases h2 : trimL l with
    | nil =>
      by_cases hx : x = 0
      · simp [hx, okD]
      · simp only [if_neg hx]; intro w hw; simp at hw; subst hw; exact h w (by simp)
    | cons y m =>
      rw [h2] at ih
      intro w hw
      rcases List.mem_cons.1 hw with rfl | hw
      · exact h w (by simp)
      · exact ih w hw
theorem trimD_trimL : ∀ l : List Nat, trimD (trimL l)
  | [] => by simp [trimL, trimD]
  | x :: l => by
    have ih := trimD_trimL l
    simp only [trimL]
    cases h2 : trimL l with
    | nil =>
      by_cases hx : x = 0
      · simp [hx, trimD]
      · simp [hx, trimD]
    | cons y m =>
      rw [h2] at ih
      simp only [trimD, List.getLast?_cons_cons] at ih ⊢
      exact ih
theorem digs_trimL {B : Nat} (hB : 1 < B) {l : List Nat} (h : okD B l) : trimL l = digs B (val B l) := by
  rw [← val_trimL B l, digs_val hB (okD_trimL l h) (trimD_trimL l)]
def addL (B : Nat) : List Nat → List Nat → Nat → List Nat
  | [], _, c => [c]
  | x :: a, b, c => ((x + b.headD 0 + c) % B) :: addL B a b.tail ((x + b.headD 0 + c) / B)
theorem val_tail (B : Nat) (b : List Nat) : b.headD 0 + B * val B b.tail = val B b := by cases b <;> simp [val]
theorem val_addL (B : Nat) : ∀ (a b : List Nat) (c : Nat), b.length ≤ a.length → val B (addL B a b c) = val B a + val B b + c
  | [], b, c, h => by
    have : b = [] := List.eq_nil_of_length_eq_zero (by simpa using h)
    subst this
    simp [addL, val]
  | x :: a, b, c, h => by
    have ih := val_addL B a b.tail ((x + b.headD 0 + c) / B) (by simp at h ⊢; omega)
    simp only [addL, val, ih]
    have h1 := Nat.mod_add_div (x + b.headD 0 + c) B
    have h2 := val_tail B b
    simp only [Nat.mul_add]
    omega
theorem okD_addL {B : Nat} (hB : 1 < B) : ∀ (a b : List Nat) (c : Nat), okD B a → okD B b → c ≤ 1 → okD B (addL B a b c)
  | [], b, c, _, _, hc => by intro w hw; simp [addL] at hw; omega
  | x :: a, b, c, ha, hb, hc => by
    have hx := ha x (by simp)
    have hy : b.headD 0 < B := by
      cases b with
      | nil => simp; omega
      | cons y b => exact hb y (by simp)
    have ih := okD_addL hB a b.tail ((x + b.headD 0 + c) / B) (fun w hw => ha w (by simp [hw])) (fun w hw => hb w (List.mem_of_mem_tail hw)) (by
      have : x + b.headD 0 + c < B * 2 := by omega
      have := Nat.div_lt_of_lt_mul this
      omega)
    intro w hw
    simp only [addL, List.mem_cons] at hw
    rcases hw with rfl | hw
    · exact Nat.mod_lt _ (by omega)
    · exact ih w hw
def subL (B : Nat) : List Nat → List Nat → Nat → List Nat
  | [], _, _ => []
  | x :: a, b, c => ((x + B - b.headD 0 - c) % B) :: subL B a b.tail (if x < b.headD 0 + c then 1 else 0)
theorem val_subL {B : Nat} (hB : 1 < B) : ∀ (a b : List Nat) (c : Nat), okD B a → okD B b → c ≤ 1 → b.length ≤ a.length → val B b + c ≤ val B a → val B (subL B a b c) + val B b + c = val B a
  | [], b, c, _, _, _, h, hl => by
    have : b = [] := List.eq_nil_of_length_eq_zero (by simpa using h)
    subst this
    simp [subL, val] at hl ⊢
    exact hl
  | x :: a, b, c, ha, hb, hc, h, hl => by
    have hx := ha x (by simp)
    have hy : b.headD 0 < B := by
      cases b with
      | nil => simp; omega
      | cons y b => exact hb y (by simp)
    have h2 := val_tail B b
    simp only [val] at hl ⊢
    have oa : okD B a := fun w hw => ha w (by simp [hw])
    have ob : okD B b.tail := fun w hw => hb w (List.mem_of_mem_tail hw)
    have hlen : b.tail.length ≤ a.length := by simp at h ⊢; omega
    simp only [subL, val]
    by_cases hlt : x < b.headD 0 + c
    · rw [if_pos hlt]
      have hle : val B b.tail + 1 ≤ val B a := by
        rcases Nat.lt_or_ge (val B b.tail) (val B a) with h3 | h3
        · omega
        · exfalso
          have := Nat.mul_le_mul_left B h3
          omega
      have ih := val_subL hB a b.tail 1 oa ob (by omega) hlen hle
      have e : (x + B - b.headD 0 - c) % B = x + B - b.headD 0 - c := Nat.mod_eq_of_lt (by omega)
      rw [e, ← ih]
      simp only [Nat.mul_add]
      omega
    · rw [if_neg hlt]
      have hle : val B b.tail + 0 ≤ val B a := by
        rcases Nat.lt_or_ge (val B a) (val B b.tail) with h3 | h3
        · exfalso
          have := Nat.mul_le_mul_left B (show val B a + 1 ≤ val B b.tail by omega)
          rw [Nat.mul_add] at this
          omega
        · omega
      have ih := val_subL hB a b.tail 0 oa ob (by omega) hlen hle
      have e : (x + B - b.headD 0 - c) % B = x - b.headD 0 - c := by
        have : x + B - b.headD 0 - c = (x - b.headD 0 - c) + B := by omega
        rw [this, Nat.add_mod_right, Nat.mod_eq_of_lt (by omega)]
      rw [e, ← ih]
      simp only [Nat.mul_add]
      omega
theorem okD_subL {B : Nat} (hB : 1 < B) : ∀ (a b : List Nat) (c : Nat), okD B (subL B a b c)
  | [], b, c => by intro w hw; simp [subL] at hw
  | x :: a, b, c => by
    intro w hw
    simp only [subL, List.mem_cons] at hw
    rcases hw with rfl | hw
    · exact Nat.mod_lt _ (by omega)
    · exact okD_subL hB _ _ _ w hw
theorem val_cmp {B : Nat} (hB : 1 < B) : ∀ (k : Nat) (a b : List Nat), okD B a → okD B b → a.length = b.length → k < a.length → (∀ j, k < j → j < a.length → a.getD j 0 = b.getD j 0) → a.getD k 0 < b.getD k 0 → val B a < val B b
  | 0, x :: a, y :: b, oa, ob, hl, hk, he, h => by
    have e : a = b := by
      apply List.ext_getElem (by simpa using hl)
      intro i h1 h2
      have := he (i + 1) (by omega) (by simp; omega)
      simpa [List.getD, List.getElem?_eq_getElem h1, List.getElem?_eq_getElem h2] using this
    subst e
    simp only [List.getD_cons_zero] at h
    simp only [val]
    omega
  | k + 1, x :: a, y :: b, oa, ob, hl, hk, he, h => by
    have ih := val_cmp hB k a b (fun w hw => oa w (by simp [hw])) (fun w hw => ob w (by simp [hw])) (by simpa using hl) (by simpa using hk) (fun j h1 h2 => by
      have := he (j + 1) (by omega) (by simp; omega)
      simpa using this) (by simpa using h)
    have hx := oa x (by simp)
    simp only [val]
    have := Nat.mul_le_mul_left B (show val B a + 1 ≤ val B b from ih)
    rw [Nat.mul_add] at this
    omega
  | 0, [], b, _, _, _, hk, _, _ => by simp at hk
  | k + 1, [], b, _, _, _, hk, _, _ => by simp at hk
  | 0, _ :: _, [], _, _, hl, _, _, _ => by simp at hl
  | k + 1, _ :: _, [], _, _, hl, _, _, _ => by simp at hl
theorem val_longer {B : Nat} (hB : 1 < B) {a b : List Nat} (oa : okD B a) (hb : trimD b) (h : a.length < b.length) : val B a < val B b := by
  have h1 := val_lt a oa
  have hne : b ≠ [] := by rintro rfl; simp at h
  have h2 : B ^ (b.length - 1) ≤ val B b := by
    clear h h1 oa
    induction b with
    | nil => exact absurd rfl hne
    | cons y b ih =>
      cases b with
      | nil =>
        have := val_pos (B := B) (by omega) [y] hb (by simp)
        show B ^ 0 ≤ _
        rw [Nat.pow_zero]
        exact this
      | cons z b =>
        have := ih (trim_tail hb) (by simp)
        simp only [List.length_cons, Nat.add_sub_cancel] at this ⊢
        rw [Nat.pow_succ, val]
        have := Nat.mul_le_mul_left B this
        rw [Nat.mul_comm (B ^ b.length) B]
        omega
  have h3 : B ^ a.length ≤ B ^ (b.length - 1) := Nat.pow_le_pow_right (by omega) (by omega)
  omega
theorem val_set (B : Nat) : ∀ (l : List Nat) (i v : Nat), i < l.length → val B (l.set i v) + B ^ i * l.getD i 0 = val B l + B ^ i * v
  | [], i, v, h => by simp at h
  | x :: l, 0, v, h => by simp [val]; omega
  | x :: l, i + 1, v, h => by
    have ih := val_set B l i v (by simpa using h)
    simp only [List.set_cons_succ, val, List.getD_cons_succ, Nat.pow_succ]
    have h2 := congrArg (B * ·) ih
    simp only [Nat.mul_add] at h2
    rw [Nat.mul_comm (B ^ i) B, Nat.mul_assoc, Nat.mul_assoc]
    omega
theorem okD_set {B : Nat} {l : List Nat} {i v : Nat} (h : okD B l) (hv : v < B) : okD B (l.set i v) := by
  intro w hw
  rcases List.mem_or_eq_of_mem_set hw with h1 | rfl
  · exact h w h1
  · exact hv
theorem val_zeros (B n : Nat) : val B (List.replicate n 0) = 0 := by
  induction n with
  | zero => rfl
  | succ n ih => simp [List.replicate_succ, val, ih]
theorem mul_step {B x y o c : Nat} (hB : 1 < B) (hx : x < B) (hy : y < B) (ho : o < B) (hc : c < B) : (x * y + o + c) / B < B := by
  have h1 : x * y ≤ (B - 1) * (B - 1) := Nat.mul_le_mul (by omega) (by omega)
  have h2 : (B - 1) * (B - 1) + (B - 1) + (B - 1) < B * B := by
    obtain ⟨k, rfl⟩ : ∃ k, B = k + 1 := ⟨B - 1, by omega⟩
    simp only [Nat.add_sub_cancel]
    rw [Nat.add_mul, Nat.mul_add]
    omega
  exact Nat.div_lt_of_lt_mul (by omega)
end Go.Proofs.YtdcooaopkbicfaaGreat.R
namespace Go.Proofs.YtdcooaopkbicfaaGreat.R
open Go
def divL (B b : Nat) : List Nat → List Nat × Nat
  | [] => ([], 0)
  | x :: a => (((divL B b a).2 * B + x) / b :: (divL B b a).1, ((divL B b a).2 * B + x) % b)
theorem divL_val (B : Nat) {b : Nat} (hb : 0 < b) : ∀ a : List Nat, val B (divL B b a).1 * b + (divL B b a).2 = val B a ∧ (divL B b a).2 < b
  | [] => by simp [divL, val, hb]
  | x :: a => by
    obtain ⟨h1, h2⟩ := divL_val B hb a
    refine ⟨?_, Nat.mod_lt _ hb⟩
    simp only [divL, val]
    have h3 := Nat.div_add_mod ((divL B b a).2 * B + x) b
    rw [← h1]
    generalize (divL B b a).2 = r at *
    generalize val B (divL B b a).1 = q at *
    rw [Nat.add_mul, Nat.mul_add, Nat.mul_comm ((r * B + x) / b) b, Nat.mul_assoc, Nat.mul_comm B r]
    omega
theorem divL_ok {B b : Nat} (hb : 0 < b) : ∀ a : List Nat, okD B a → okD B (divL B b a).1
  | [], _ => by intro w hw; simp [divL] at hw
  | x :: a, h => by
    obtain ⟨_, h2⟩ := divL_val B hb a
    have hx := h x (by simp)
    intro w hw
    simp only [divL, List.mem_cons] at hw
    rcases hw with rfl | hw
    · refine Nat.div_lt_of_lt_mul ?_
      have := Nat.mul_le_mul_right B (show (divL B b a).2 + 1 ≤ b from h2)
      rw [Nat.add_mul] at this
      omega
    · exact divL_ok hb a (fun w hw => h w (by simp [hw])) w hw
theorem divL_len (B b : Nat) : ∀ a : List Nat, (divL B b a).1.length = a.length
  | [] => rfl
  | x :: a => by simp [divL, divL_len B b a]
theorem div_unique {a b q r : Nat} (h : q * b + r = a) (hr : r < b) : q = a / b ∧ r = a % b := by
  have e : a = r + q * b := by omega
  refine ⟨?_, ?_⟩
  · rw [e, Nat.add_mul_div_right _ _ (by omega), Nat.div_eq_of_lt hr]; omega
  · rw [e, Nat.add_mul_mod_self_right, Nat.mod_eq_of_lt hr]
theorem bit_take {a b rest q i : Nat} (h : a = rest + b * q) (hr : rest < b * 2 ^ (i + 1)) (hs : b * 2 ^ i ≤ rest) : a = (rest - b * 2 ^ i) + b * (q + 2 ^ i) ∧ rest - b * 2 ^ i < b * 2 ^ i := by
  rw [Nat.pow_succ, ← Nat.mul_assoc] at hr
  rw [Nat.mul_add]
  omega
theorem gcd_step (x y : Nat) : Nat.gcd x y = Nat.gcd y (x % y) := by rw [Nat.gcd_comm x y, Nat.gcd_rec y x, Nat.gcd_comm]
end Go.Proofs.YtdcooaopkbicfaaGreat.R
namespace Go.Proofs.YtdcooaopkbicfaaGreat.R
open Go
theorem wrapu (n : Nat) : IntKind.u64.wrap (n : Int) = ((n % 18446744073709551616 : Nat) : Int) := by rw [IntKind.wrap_u64]; omega
theorem wrapu_lt {n : Nat} (h : n < 18446744073709551616) : IntKind.u64.wrap (n : Int) = (n : Int) := by rw [wrapu, Nat.mod_eq_of_lt h]
theorem ofInt_nat (n : Nat) : BitVec.ofInt 64 (n : Int) = BitVec.ofNat 64 n := by
  apply BitVec.eq_of_toNat_eq
  rw [BitVec.toNat_ofInt, BitVec.toNat_ofNat]
  omega
theorem bOr (a b : Int) : bitsOp .or .u64 a b = IntKind.u64.wrap ((BitVec.ofInt 64 a ||| BitVec.ofInt 64 b).toNat : Int) := rfl
theorem bAnd (a b : Int) : bitsOp .and .u64 a b = IntKind.u64.wrap ((BitVec.ofInt 64 a &&& BitVec.ofInt 64 b).toNat : Int) := rfl
theorem bXor (a b : Int) : bitsOp .xor .u64 a b = IntKind.u64.wrap ((BitVec.ofInt 64 a ^^^ BitVec.ofInt 64 b).toNat : Int) := rfl
end Go.Proofs.YtdcooaopkbicfaaGreat.R
namespace Go.Proofs.YtdcooaopkbicfaaGreat.R
open Go
def u64F (n : Nat) : F := .int .u64 (n : Int)
def isW64 : F → Bool | .int .u64 n => decide (0 ≤ n) && decide (n < 18446744073709551616) | _ => false
def unW64 : F → Nat | .int .u64 n => n.toNat | _ => 0
theorem w64_eq {x : F} (h : isW64 x = true) : u64F (unW64 x) = x := by
  unfold isW64 at h
  split at h
  · simp only [Bool.and_eq_true, decide_eq_true_eq] at h
    simp only [u64F, unW64]
    rw [Int.toNat_of_nonneg h.1]
  · cases h
def wordsF (l : List Nat) : F := slF u64F 0 l
def isWords (x : F) : Bool := isSl isW64 x
def unWords (x : F) : List Nat := unSl unW64 x
theorem unWords_wordsF (l : List Nat) : unWords (wordsF l) = l := unSl_slF (fun n => by simp [unW64, u64F]) l
theorem isWords_wordsF {l : List Nat} (h : okD 18446744073709551616 l) : isWords (wordsF l) = true := isSl_slF l fun n hn => by
  have := h n hn
  simp only [isW64, u64F, Bool.and_eq_true, decide_eq_true_eq]
  omega
theorem words_eqv {x : F} (hx : isWords x = true) : FLe x (wordsF (unWords x)) ∧ FLe (wordsF (unWords x)) x := slF_eqv (fun _ h => w64_eq h) hx
theorem okD_unWords {x : F} (hx : isWords x = true) : okD 18446744073709551616 (unWords x) := by
  cases x with
  | sl n g =>
    simp only [isWords, isSl, List.all_eq_true, List.mem_range] at hx
    intro w hw
    simp only [unWords, unSl, List.mem_map, List.mem_range] at hw
    obtain ⟨i, hi, rfl⟩ := hw
    have h := hx i hi
    unfold isW64 at h
    split at h
    · rename_i n' he
      simp only [Bool.and_eq_true, decide_eq_true_eq] at h
      rw [he]
      simp only [unW64]
      omega
    · cases h
  | _ => simp [isWords, isSl] at hx
theorem trimL_snoc_zero (l : List Nat) : trimL (l ++ [0]) = trimL l := by
  induction l with
  | nil => rfl
  | cons x l ih => simp only [List.cons_append, trimL, ih]
theorem trimL_snoc {x : Nat} (hx : x ≠ 0) (l : List Nat) : trimL (l ++ [x]) = l ++ [x] := by
  induction l with
  | nil => simp [trimL, hx]
  | cons y l ih =>
    simp only [List.cons_append, trimL, ih]
    cases h : l ++ [x] with
    | nil => simp at h
    | cons z m => rfl
theorem wrapI {x : Int} (h0 : -9223372036854775808 ≤ x) (h1 : x ≤ 9223372036854775807) : IntKind.i64.wrap x = x := by
  unfold IntKind.wrap
  simp [IntKind.bits, IntKind.signed]
  omega
def numF (z : Int) : F := .agg [.bool (decide (z < 0)), wordsF (digs 18446744073709551616 z.natAbs)]
end Go.Proofs.YtdcooaopkbicfaaGreat.R
namespace Go.Proofs.YtdcooaopkbicfaaGreat.R
open Go
def isWd (x : Int) : Bool := match x with | .ofNat n => Nat.ble n 18446744073709551615 | .negSucc _ => false
def isBit (x : Int) : Bool := match x with | .ofNat n => Nat.ble n 1 | .negSucc _ => false
def isCarry (x y c : Int) : Bool := isWd x && isWd y && isBit c
def addLo (x y c : Int) : Int := (x + y + c) % 18446744073709551616
def addHi (x y c : Int) : Int := (x + y + c) / 18446744073709551616
def subLo (x y c : Int) : Int := (x - y - c) % 18446744073709551616
def subHi (x y c : Int) : Int := if x < y + c then 1 else 0
theorem isWd_iff {x : Int} : isWd x = true ↔ 0 ≤ x ∧ x < 18446744073709551616 := by
  cases x with
  | ofNat n => simp only [isWd, Nat.ble_eq]; constructor <;> intro h <;> simp at * <;> omega
  | negSucc n => simp only [isWd, Bool.false_eq_true, false_iff]; omega
theorem isBit_iff {x : Int} : isBit x = true ↔ 0 ≤ x ∧ x ≤ 1 := by
  cases x with
  | ofNat n => simp only [isBit, Nat.ble_eq]; constructor <;> intro h <;> simp at * <;> omega
  | negSucc n => simp only [isBit, Bool.false_eq_true, false_iff]; omega
theorem isCarry_iff {x y c : Int} : isCarry x y c = true ↔ (0 ≤ x ∧ x < 18446744073709551616) ∧ (0 ≤ y ∧ y < 18446744073709551616) ∧ 0 ≤ c ∧ c ≤ 1 := by
  simp only [isCarry, Bool.and_eq_true, isWd_iff, isBit_iff, and_assoc]
def pre3w : List F → Bool | [.int .u64 x, .int .u64 y, .int .u64 c] => isCarry x y c | _ => false
def resAdd64 : List F → F | [.int .u64 x, .int .u64 y, .int .u64 c] => .tup [.int .u64 (addLo x y c), .int .u64 (addHi x y c)] | _ => .dflt
def resSub64 : List F → F | [.int .u64 x, .int .u64 y, .int .u64 c] => .tup [.int .u64 (subLo x y c), .int .u64 (subHi x y c)] | _ => .dflt
theorem rep_pair (w : World) (Z : Nat → Prop) (a b : Nat) {x y : Int} (ha : x = (a : Int)) (hb : y = (b : Int)) : RepF w Z (.tup [.int .u64 x, .int .u64 y]) (Extern.MathBitsCarry.pair a b) := by
  subst ha hb
  exact .tup [.int .u64 (a : Int), .int .u64 (b : Int)] [.int .u64 (a : Int), .int .u64 (b : Int)] rfl fun j u v hu hv => by
    match j with
    | 0 => cases hu; cases hv; exact .int _ _
    | 1 => cases hu; cases hv; exact .int _ _
    | j + 2 => cases hu
theorem three_run {P : Program} {w : World} {name : String} {x y c : Nat} (hc : c ≤ 1) :
    (Extern.MathBitsCarry.three name #[.int .u64 (x : Int), .int .u64 (y : Int), .int .u64 (c : Int)]).run P w = .ok (x, y, c) w := by
  match c, hc with
  | 0, _ => rfl
  | 1, _ => rfl
theorem rep_intv {w : World} {Z : Nat → Prop} {k : IntKind} {n : Int} {v : Value} (h : RepF w Z (.int k n) v) : v = .int k n := by cases h; rfl
theorem okAdd64 : PureOK Tryz.prog 88 pre3w resAdd64 := by
  intro xs hp w Z args hZ ha
  match xs, hp with
  | [.int .u64 x, .int .u64 y, .int .u64 c], hp =>
  obtain ⟨⟨hx0, hx⟩, ⟨hy0, hy⟩, hc0, hc⟩ := isCarry_iff.1 hp
  obtain ⟨x, rfl⟩ := Int.eq_ofNat_of_zero_le hx0
  obtain ⟨y, rfl⟩ := Int.eq_ofNat_of_zero_le hy0
  obtain ⟨c, rfl⟩ := Int.eq_ofNat_of_zero_le hc0
  obtain ⟨hl, hr⟩ := ha
  obtain ⟨v1, v2, v3, he⟩ : ∃ v1 v2 v3, args.toList = [v1, v2, v3] := by
    match h : args.toList, hl with
    | [v1, v2, v3], _ => exact ⟨v1, v2, v3, rfl⟩
  have e : args = #[v1, v2, v3] := by rw [← Array.toArray_toList (xs := args), he]
  have e1 := rep_intv (hr 0 _ v1 rfl (by rw [he]; rfl))
  have e2 := rep_intv (hr 1 _ v2 rfl (by rw [he]; rfl))
  have e3 := rep_intv (hr 2 _ v3 rfl (by rw [he]; rfl))
  subst e e1 e2 e3
  refine .inr ⟨_, w, ?_, ⟨rfl, rfl, rfl, Nat.le_refl _, fun _ _ => rfl⟩, Z, fun b h => .inl h, rep_pair w Z ((x + y + c) % 18446744073709551616) ((x + y + c) / 18446744073709551616) ?_ ?_⟩
  · rw [run_callFunc_extern (e := fun args => do
      let (x, y, c) ← Extern.MathBitsCarry.three "Add64" args
      pure (Extern.MathBitsCarry.pair ((x + y + c) % Extern.MathBitsCarry.m64) ((x + y + c) / Extern.MathBitsCarry.m64))) Tryz.func88 (by kernel_rfl) (by kernel_rfl) (by kernel_rfl) (by kernel_rfl)]
    simp only [Sem.run_bind, three_run (show c ≤ 1 by omega), Result.andThen]
    rfl
  · unfold addLo; omega
  · unfold addHi; omega
theorem okSub64 : PureOK Tryz.prog 103 pre3w resSub64 := by
  intro xs hp w Z args hZ ha
  match xs, hp with
  | [.int .u64 x, .int .u64 y, .int .u64 c], hp =>
  obtain ⟨⟨hx0, hx⟩, ⟨hy0, hy⟩, hc0, hc⟩ := isCarry_iff.1 hp
  obtain ⟨x, rfl⟩ := Int.eq_ofNat_of_zero_le hx0
  obtain ⟨y, rfl⟩ := Int.eq_ofNat_of_zero_le hy0
  obtain ⟨c, rfl⟩ := Int.eq_ofNat_of_zero_le hc0
  obtain ⟨hl, hr⟩ := ha
  obtain ⟨v1, v2, v3, he⟩ : ∃ v1 v2 v3, args.toList = [v1, v2, v3] := by
    match h : args.toList, hl with
    | [v1, v2, v3], _ => exact ⟨v1, v2, v3, rfl⟩
  have e : args = #[v1, v2, v3] := by rw [← Array.toArray_toList (xs := args), he]
  have e1 := rep_intv (hr 0 _ v1 rfl (by rw [he]; rfl))
  have e2 := rep_intv (hr 1 _ v2 rfl (by rw [he]; rfl))
  have e3 := rep_intv (hr 2 _ v3 rfl (by rw [he]; rfl))
  subst e e1 e2 e3
  refine .inr ⟨_, w, ?_, ⟨rfl, rfl, rfl, Nat.le_refl _, fun _ _ => rfl⟩, Z, fun b h => .inl h, rep_pair w Z ((x + 18446744073709551616 - y - c) % 18446744073709551616) (if x < y + c then 1 else 0) ?_ ?_⟩
  · rw [run_callFunc_extern (e := fun args => do
      let (x, y, c) ← Extern.MathBitsCarry.three "Sub64" args
      pure (Extern.MathBitsCarry.pair ((x + Extern.MathBitsCarry.m64 - y - c) % Extern.MathBitsCarry.m64) (if x < y + c then 1 else 0))) Tryz.func103 (by kernel_rfl) (by kernel_rfl) (by kernel_rfl) (by kernel_rfl)]
    simp only [Sem.run_bind, three_run (show c ≤ 1 by omega), Result.andThen]
    rfl
  · unfold subLo; omega
  · unfold subHi; by_cases h : x < y + c <;> simp [h] <;> omega
theorem unW64_u64F (n : Nat) : unW64 (u64F n) = n := by simp [unW64, u64F]
def envN3 : Env := (env0.add 88 (.pure pre3w resAdd64)).add 103 (.pure pre3w resSub64)
theorem envN3_ok : EnvOK Tryz.prog envN3 := (Env.add_ok (Env.add_ok env0_ok okAdd64.sp) okSub64.sp)
end Go.Proofs.YtdcooaopkbicfaaGreat.R
namespace Go.Proofs.YtdcooaopkbicfaaGreat.R
open Go
theorem and32 {n : Nat} (h : n < 18446744073709551616) : bitsOp .and .u64 (n : Int) 4294967295 = ((n % 4294967296 : Nat) : Int) := by
  rw [bAnd, ofInt_nat, show BitVec.ofInt 64 4294967295 = BitVec.ofNat 64 (2 ^ 32 - 1) from rfl, wrapu]
  rw [BitVec.toNat_and, BitVec.toNat_ofNat, BitVec.toNat_ofNat, Nat.mod_eq_of_lt h]
  have e : (2 ^ 32 - 1) % 2 ^ 64 = 2 ^ 32 - 1 := rfl
  rw [e, Nat.and_two_pow_sub_one_eq_mod]
  omega
theorem shr32 (n : Nat) : Int.fdiv (n : Int) (2 ^ min (Int.toNat 32) IntKind.u64.bits) = ((n / 4294967296 : Nat) : Int) := by
  rw [show (2 ^ min (Int.toNat 32) IntKind.u64.bits : Int) = ((4294967296 : Nat) : Int) from rfl, Int.fdiv_eq_ediv_of_nonneg _ (by omega)]
  omega
theorem mul_halves {x1 x0 y1 y0 : Nat} (hx1 : x1 < 4294967296) (hx0 : x0 < 4294967296) (hy1 : y1 < 4294967296) (hy0 : y0 < 4294967296) :
    x1 * y1 ≤ 18446744065119617025 ∧ x1 * y0 ≤ 18446744065119617025 ∧ x0 * y1 ≤ 18446744065119617025 ∧ x0 * y0 ≤ 18446744065119617025 ∧
    (x1 * 4294967296 + x0) * (y1 * 4294967296 + y0) = (x1 * y1) * 18446744073709551616 + (x1 * y0 + x0 * y1) * 4294967296 + x0 * y0 := by
  have h : ∀ {a b : Nat}, a < 4294967296 → b < 4294967296 → a * b ≤ 18446744065119617025 := fun {a b} ha hb =>
    Nat.le_trans (Nat.mul_le_mul (Nat.le_of_lt_succ ha) (Nat.le_of_lt_succ hb)) (by decide)
  refine ⟨h hx1 hy1, h hx1 hy0, h hx0 hy1, h hx0 hy0, ?_⟩
  simp only [Nat.add_mul, Nat.mul_add]
  have e1 : x1 * 4294967296 * (y1 * 4294967296) = x1 * y1 * 18446744073709551616 := by rw [Nat.mul_mul_mul_comm]
  have e2 : x1 * 4294967296 * y0 = x1 * y0 * 4294967296 := by rw [Nat.mul_right_comm]
  have e3 : x0 * (y1 * 4294967296) = x0 * y1 * 4294967296 := by rw [Nat.mul_assoc]
  rw [e1, e2, e3]
  omega
/-! ### function 87 -/
def T87 {ρ : Type} (ret : (F) → Option ρ) (x : Nat) (y : Nat) : Option ρ :=
 (ret (F.tup [F.int .u64 (IntKind.u64.wrap (IntKind.u64.wrap (IntKind.u64.wrap ((↑x : Int).fdiv (2 ^ min (Int.toNat 32) IntKind.u64.bits) * (↑y : Int).fdiv (2 ^ min (Int.toNat 32) IntKind.u64.bits)) + (IntKind.u64.wrap (IntKind.u64.wrap ((↑x : Int).fdiv (2 ^ min (Int.toNat 32) IntKind.u64.bits) * bitsOp BinOp.and IntKind.u64 (↑y : Int) 4294967295) + (IntKind.u64.wrap (bitsOp BinOp.and IntKind.u64 (↑x : Int) 4294967295 * bitsOp BinOp.and IntKind.u64 (↑y : Int) 4294967295)).fdiv (2 ^ min (Int.toNat 32) IntKind.u64.bits))).fdiv (2 ^ min (Int.toNat 32) IntKind.u64.bits)) + (IntKind.u64.wrap (bitsOp BinOp.and IntKind.u64 (IntKind.u64.wrap (IntKind.u64.wrap ((↑x : Int).fdiv (2 ^ min (Int.toNat 32) IntKind.u64.bits) * bitsOp BinOp.and IntKind.u64 (↑y : Int) 4294967295) + (IntKind.u64.wrap (bitsOp BinOp.and IntKind.u64 (↑x : Int) 4294967295 * bitsOp BinOp.and IntKind.u64 (↑y : Int) 4294967295)).fdiv (2 ^ min (Int.toNat 32) IntKind.u64.bits))) 4294967295 + IntKind.u64.wrap (bitsOp BinOp.and IntKind.u64 (↑x : Int) 4294967295 * (↑y : Int).fdiv (2 ^ min (Int.toNat 32) IntKind.u64.bits)))).fdiv (2 ^ min (Int.toNat 32) IntKind.u64.bits))), F.int .u64 (IntKind.u64.wrap ((↑x : Int) * (↑y : Int)))]))
def G87 (x : Nat) (y : Nat) : Option (F) := T87 some x y
theorem t87 (x : Nat) (y : Nat) (r : F) (h : G87 x y = some r) : Ends Tryz.prog Tryz.f87.results.toList [.code (bodyOf Tryz.f87)] (start Tryz.f87.ntmps ([u64F x, u64F y].map .f)) (r) := by
  refine Ends.of_run tyOK envN3_ok (T := []) (n := 200) ?_
  have e : run Tryz.prog (tiOf Tryz.prog) envN3 [] 0 Tryz.f87.results.toList some 200 [.code (bodyOf Tryz.f87)] (start Tryz.f87.ntmps ([u64F x, u64F y].map .f)) = T87 (fun r => some (.ret (r))) x y := by kernel_rfl
  rw [e]
  exact good_ret (by cases h; rfl)
def mulLo (x y : Int) : Int := (x * y) % 18446744073709551616
def mulHi (x y : Int) : Int := (x * y) / 18446744073709551616
theorem mul64_law {x y : Nat} (hx : x < 18446744073709551616) (hy : y < 18446744073709551616) : G87 x y = some (.tup [.int .u64 (mulHi x y), .int .u64 (mulLo x y)]) := by
  have h1 : mulHi x y = ((x * y / 18446744073709551616 : Nat) : Int) := by
    unfold mulHi
    rw [← Int.natCast_mul]
    omega
  have h2 : mulLo x y = ((x * y % 18446744073709551616 : Nat) : Int) := by
    unfold mulLo
    rw [← Int.natCast_mul]
    omega
  rw [h1, h2]
  unfold G87 T87
  rw [and32 hx, and32 hy, shr32, shr32]
  have hx1 : x / 4294967296 < 4294967296 := by omega
  have hx0 : x % 4294967296 < 4294967296 := by omega
  have hy1 : y / 4294967296 < 4294967296 := by omega
  have hy0 : y % 4294967296 < 4294967296 := by omega
  obtain ⟨b1, b2, b3, b4, e⟩ := mul_halves hx1 hx0 hy1 hy0
  rw [show x / 4294967296 * 4294967296 + x % 4294967296 = x by omega, show y / 4294967296 * 4294967296 + y % 4294967296 = y by omega] at e
  generalize x / 4294967296 = x1 at *
  generalize x % 4294967296 = x0 at *
  generalize y / 4294967296 = y1 at *
  generalize y % 4294967296 = y0 at *
  simp only [← Int.natCast_mul]
  generalize x1 * y1 = p at *
  generalize x1 * y0 = q at *
  generalize x0 * y1 = r at *
  generalize x0 * y0 = s at *
  generalize x * y = t at *
  subst e
  rw [wrapu_lt (n := s) (by omega), shr32, wrapu_lt (n := q) (by omega), wrapu_lt (n := p) (by omega), wrapu_lt (n := r) (by omega)]
  try simp only [← Int.natCast_add]
  rw [wrapu_lt (n := q + s / 4294967296) (by omega), shr32, and32 (by omega)]
  try simp only [← Int.natCast_add]
  rw [wrapu_lt (n := _ + r) (by omega), shr32]
  try simp only [← Int.natCast_add]
  rw [wrapu_lt (n := p + _) (by omega)]
  try simp only [← Int.natCast_add]
  rw [wrapu_lt (n := p + _ + _) (by omega), wrapu]
  congr 5
  all_goals omega
def isWd2 (x y : Int) : Bool := isWd x && isWd y
def pre2w : List F → Bool | [.int .u64 x, .int .u64 y] => isWd2 x y | _ => false
def resMul64 : List F → F | [.int .u64 x, .int .u64 y] => .tup [.int .u64 (mulHi x y), .int .u64 (mulLo x y)] | _ => .dflt
theorem isWd2_iff {x y : Int} : isWd2 x y = true ↔ (0 ≤ x ∧ x < 18446744073709551616) ∧ (0 ≤ y ∧ y < 18446744073709551616) := by
  simp only [isWd2, Bool.and_eq_true, isWd_iff]
theorem okMul64 : PureOK Tryz.prog 87 pre2w resMul64 :=
  fn_pure (c := bodyOf Tryz.f87) Tryz.func87 (by kernel_rfl) (by kernel_rfl) fun xs hp => match xs, hp with
  | [.int .u64 x, .int .u64 y], hp => by
    obtain ⟨⟨hx0, hx⟩, hy0, hy⟩ := isWd2_iff.1 hp
    obtain ⟨x, rfl⟩ := Int.eq_ofNat_of_zero_le hx0
    obtain ⟨y, rfl⟩ := Int.eq_ofNat_of_zero_le hy0
    exact t87 x y _ (mul64_law (by omega) (by omega))
def envN4 : Env := envN3.add 87 (.pure pre2w resMul64)
theorem envN4_ok : EnvOK Tryz.prog envN4 := (Env.add_ok envN3_ok okMul64.sp)
end Go.Proofs.YtdcooaopkbicfaaGreat.R
namespace Go.Proofs.YtdcooaopkbicfaaGreat.R
open Go
noncomputable section
/-! ### function 100 -/
def S100_1 (n : Nat) (g : Nat → Nat) : St := ⟨[(U.f (F.sl n (fun j => u64F (g j)))), .bad, .bad, .bad, .bad, .bad, .bad, .bad, .bad, .bad, .bad, .bad, .bad, .bad, .bad, .bad, .bad, .bad, .bad, .bad, .bad], []⟩
def T100_1 {ρ : Type} (ret : (Nat) → (Nat → F) → Option ρ) (c1 : (Nat) → (Nat → Nat) → Option ρ) (n : Nat) (g : Nat → Nat) : Option ρ :=
 (bsel (decide ((↑n : Int) > 0) == true)
 (bsel (decide (0 ≤ IntKind.i64.wrap ((↑n : Int) - 1)))
 (bsel (decide (IntKind.i64.wrap ((↑n : Int) - 1) < (↑n : Int)))
 (bsel ((↑(g (IntKind.i64.wrap ((↑n : Int) - 1)).toNat) : Int) == 0)
 (bsel (decide (0 ≤ IntKind.i64.wrap ((↑n : Int) - 1)))
 (bsel (decide (IntKind.i64.wrap ((↑n : Int) - 1) ≤ (↑n : Int)))
 (c1 ((IntKind.i64.wrap ((↑n : Int) - 1)).toNat - 0) (fun j ↦ g (Int.toNat 0 + j)))
 none)
 none)
 (ret (n) (fun j ↦ F.int .u64 (↑(g j) : Int))))
 none)
 none)
 (ret (n) (fun j ↦ F.int .u64 (↑(g j) : Int))))
def L100_1 : Nat → (Nat) → (Nat → Nat) → Option ((Nat) × (Nat → F))
  | 0, _, _ => none
  | k + 1, n, g => T100_1 (fun rn rg => some (rn, rg)) (L100_1 k) n g
def T100 {ρ : Type} (ret : (Nat) → (Nat → F) → Option ρ) (c1 : (Nat) → (Nat → Nat) → Option ρ) (n : Nat) (g : Nat → Nat) : Option ρ :=
 (c1 (n) (g))
def G100 (k : Nat) (n : Nat) (g : Nat → Nat) : Option ((Nat) × (Nat → F)) := T100 (fun rn rg => some (rn, rg)) (L100_1 k) n g
theorem t100_1 : ∀ (k : Nat) (n : Nat) (g : Nat → Nat) (rn : Nat) (rg : Nat → F), L100_1 k n g = some (rn, rg) → Ends Tryz.prog Tryz.f100.results.toList (at_ Tryz.f100 1) (S100_1 n g) (F.sl rn rg)
  | 0, _, _, _, _, h => nomatch h
  | k + 1, n, g, rn, rg, h => by
    refine Ends.of_cut tyOK envN4_ok (T := [(1, [0], 1000)]) (n := 200) ?_
    have e : runCut Tryz.prog (tiOf Tryz.prog) envN4 [(1, [0], 1000)] 0 Tryz.f100.results.toList some 200 (at_ Tryz.f100 1) (S100_1 n g) = T100_1 (fun rn rg => some (.ret (F.sl rn rg))) (fun n g => some (.cut (at_ Tryz.f100 1) (S100_1 n g))) n g := by kernel_rfl
    rw [e]
    exact (good_sel h (fun _ h => (good_sel h (fun _ h => (good_sel h (fun _ h => (good_sel h (fun _ h => (good_sel h (fun _ h => (good_sel h (fun _ h => good_cut (t100_1 k _ _ rn rg h)) (fun _ h => nomatch h))) (fun _ h => nomatch h))) (fun _ h => good_ret (by cases h; rfl)))) (fun _ h => nomatch h))) (fun _ h => nomatch h))) (fun _ h => good_ret (by cases h; rfl)))
theorem t100 (k : Nat) (n : Nat) (g : Nat → Nat) (rn : Nat) (rg : Nat → F) (h : G100 k n g = some (rn, rg)) : Ends Tryz.prog Tryz.f100.results.toList [.code (bodyOf Tryz.f100)] (start Tryz.f100.ntmps ([F.sl n (fun j => u64F (g j))].map .f)) (F.sl rn rg) := by
  refine Ends.of_run tyOK envN4_ok (T := [(1, [0], 1000)]) (n := 200) ?_
  have e : run Tryz.prog (tiOf Tryz.prog) envN4 [(1, [0], 1000)] 0 Tryz.f100.results.toList some 200 [.code (bodyOf Tryz.f100)] (start Tryz.f100.ntmps ([F.sl n (fun j => u64F (g j))].map .f)) = T100 (fun rn rg => some (.ret (F.sl rn rg))) (fun n g => some (.cut (at_ Tryz.f100 1) (S100_1 n g))) n g := by kernel_rfl
  rw [e]
  exact good_cut (t100_1 k _ _ rn rg h)
theorem wpred {n : Nat} (h : n ≤ 100000) : IntKind.i64.wrap (((n + 1 : Nat) : Int) - 1) = (n : Int) := by rw [wrapI (by omega) (by omega)]; omega
theorem trim_loop : ∀ (n k : Nat) (g : Nat → Nat) (l : List Nat), n = l.length → (∀ j, j < n → g j = l.getD j 0) → n ≤ 1000 → n < k → ∃ rn rg, L100_1 k n g = some (rn, rg) ∧ Lists u64F 0 rn rg (trimL l)
  | 0, 0, _, _, _, _, _, hk => by omega
  | 0, k + 1, g, [], _, _, _, _ => ⟨_, _, rfl, .nil⟩
  | 0, k + 1, g, x :: l, h, _, _, _ => by simp at h
  | n + 1, 0, _, _, _, _, _, hk => by omega
  | n + 1, k + 1, g, l, h, hg, hn, hk => by
    obtain ⟨l', x, rfl⟩ : ∃ l' x, l = l' ++ [x] := by
      rcases List.eq_nil_or_concat l with rfl | ⟨l', x, rfl⟩
      · simp at h
      · exact ⟨l', x, by simp⟩
    have hl : n = l'.length := by simp at h; exact h
    have hx : g n = x := by
      rw [hg n (by omega), hl]
      simp [List.getD]
    have e0 : IntKind.i64.wrap (((n + 1 : Nat) : Int) - 1) = (n : Int) := wpred (by omega)
    simp only [L100_1]
    unfold T100_1
    rw [e0, decide_eq_true (show ((n + 1 : Nat) : Int) > 0 by omega), decide_eq_true (show (0 : Int) ≤ n by omega), decide_eq_true (show (n : Int) < (n + 1 : Nat) by omega), decide_eq_true (show (n : Int) ≤ (n + 1 : Nat) by omega), Int.toNat_natCast, hx]
    simp only [bsel_true, beq_self_eq_true]
    by_cases h0 : x = 0
    · subst h0
      simp only [Int.cast_ofNat_Int, beq_self_eq_true, bsel_true, Nat.sub_zero]
      rw [trimL_snoc_zero]
      refine trim_loop n k _ l' hl (fun j hj => ?_) (by omega) (by omega)
      have := hg j (by omega)
      simp only [List.getD] at this ⊢
      rw [List.getElem?_append_left (by omega)] at this
      rw [show Int.toNat 0 + j = j by omega]
      exact this
    · have hb : ((x : Int) == 0) = false := by simpa using h0
      rw [hb, bsel_false, trimL_snoc h0]
      exact ⟨_, _, rfl, h.symm ▸ rfl, fun j hj => by rw [← hg j hj]; rfl⟩
def preW : List F → Bool | [x] => isWords x && decide ((unWords x).length ≤ 1000) | _ => false
def resTrim : List F → F | [x] => wordsF (trimL (unWords x)) | _ => .dflt
theorem okTrim : PureOK Tryz.prog 100 preW resTrim :=
  fn_pure_at (c := bodyOf Tryz.f100) Tryz.func100 (by kernel_rfl) (by kernel_rfl) fun xs hp => match xs, hp with
  | [x], hp => by
    simp only [preW, Bool.and_eq_true, decide_eq_true_eq] at hp
    obtain ⟨h1, h2⟩ := hp
    obtain ⟨rn, rg, he, hl⟩ := trim_loop _ 2000 (fun j => (unWords x).getD j 0) (unWords x) rfl (fun j _ => rfl) h2 (by omega)
    exact ⟨[.sl (unWords x).length fun j => u64F ((unWords x).getD j 0)], _, ⟨(words_eqv h1).1, trivial⟩, t100 2000 _ _ _ _ he, hl.le⟩
/-! ### function 93 -/
def S93_4 (a : List Nat) (b : List Nat) (i : Int) : St := ⟨[(U.f (wordsF a)), (U.f (wordsF b)), .bad, .bad, .bad, (U.f (F.int .i64 i)), .bad, .bad, .bad, .bad, .bad, .bad, .bad, .bad, .bad, .bad, .bad, .bad, .bad, .bad, .bad, .bad, .bad, .bad, .bad, .bad, .bad, .bad, .bad, .bad, .bad, .bad, .bad, .bad, .bad, .bad, .bad, .bad, .bad, .bad, .bad], []⟩
def T93_4 {ρ : Type} (ret : (Int) → Option ρ) (c4 : (List Nat) → (List Nat) → (Int) → Option ρ) (a : List Nat) (b : List Nat) (i : Int) : Option ρ :=
 (bsel (decide (i ≥ 0))
 (bsel (decide (0 ≤ i))
 (bsel (decide (i < (↑a.length : Int)))
 (bsel (decide (0 ≤ i))
 (bsel (decide (i < (↑b.length : Int)))
 (bsel ((↑(a.getD i.toNat 0) : Int) != (↑(b.getD i.toNat 0) : Int))
 (bsel (decide (0 ≤ i))
 (bsel (decide (i < (↑a.length : Int)))
 (bsel (decide (0 ≤ i))
 (bsel (decide (i < (↑b.length : Int)))
 (bsel (decide ((↑(a.getD i.toNat 0) : Int) < (↑(b.getD i.toNat 0) : Int)))
 (ret (-1))
 (ret (1)))
 none)
 none)
 none)
 none)
 (c4 (a) (b) (IntKind.i64.wrap (i - 1))))
 none)
 none)
 none)
 none)
 (ret (0)))
def L93_4 : Nat → (List Nat) → (List Nat) → (Int) → Option (Int)
  | 0, _, _, _ => none
  | k + 1, a, b, i => T93_4 some (L93_4 k) a b i
def T93 {ρ : Type} (ret : (Int) → Option ρ) (c4 : (List Nat) → (List Nat) → (Int) → Option ρ) (a : List Nat) (b : List Nat) : Option ρ :=
 (bsel ((↑a.length : Int) != (↑b.length : Int))
 (ret (IntKind.i64.wrap ((↑a.length : Int) - (↑b.length : Int))))
 (c4 (a) (b) (IntKind.i64.wrap ((↑a.length : Int) - 1))))
def G93 (k : Nat) (a : List Nat) (b : List Nat) : Option (Int) := T93 some (L93_4 k) a b
theorem t93_4 : ∀ (k : Nat) (a : List Nat) (b : List Nat) (i : Int) (r : Int), L93_4 k a b i = some r → Ends Tryz.prog Tryz.f93.results.toList (at_ Tryz.f93 4) (S93_4 a b i) (F.int .i64 r)
  | 0, _, _, _, _, h => nomatch h
  | k + 1, a, b, i, r, h => by
    refine Ends.of_cut tyOK envN4_ok (T := [(4, [0, 1, 5], 1000)]) (n := 200) ?_
    have e : runCut Tryz.prog (tiOf Tryz.prog) envN4 [(4, [0, 1, 5], 1000)] 0 Tryz.f93.results.toList some 200 (at_ Tryz.f93 4) (S93_4 a b i) = T93_4 (fun r => some (.ret (F.int .i64 r))) (fun a b i => some (.cut (at_ Tryz.f93 4) (S93_4 a b i))) a b i := by kernel_rfl
    rw [e]
    exact (good_sel h (fun _ h => (good_sel h (fun _ h => (good_sel h (fun _ h => (good_sel h (fun _ h => (good_sel h (fun _ h => (good_sel h (fun _ h => (good_sel h (fun _ h => (good_sel h (fun _ h => (good_sel h (fun _ h => (good_sel h (fun _ h => (good_sel h (fun _ h => good_ret (by cases h; rfl)) (fun _ h => good_ret (by cases h; rfl)))) (fun _ h => nomatch h))) (fun _ h => nomatch h))) (fun _ h => nomatch h))) (fun _ h => nomatch h))) (fun _ h => good_cut (t93_4 k _ _ _ r h)))) (fun _ h => nomatch h))) (fun _ h => nomatch h))) (fun _ h => nomatch h))) (fun _ h => nomatch h))) (fun _ h => good_ret (by cases h; rfl)))
theorem t93 (k : Nat) (a : List Nat) (b : List Nat) (r : Int) (h : G93 k a b = some r) : Ends Tryz.prog Tryz.f93.results.toList [.code (bodyOf Tryz.f93)] (start Tryz.f93.ntmps ([wordsF a, wordsF b].map .f)) (F.int .i64 r) := by
  refine Ends.of_run tyOK envN4_ok (T := [(4, [0, 1, 5], 1000)]) (n := 200) ?_
  have e : run Tryz.prog (tiOf Tryz.prog) envN4 [(4, [0, 1, 5], 1000)] 0 Tryz.f93.results.toList some 200 [.code (bodyOf Tryz.f93)] (start Tryz.f93.ntmps ([wordsF a, wordsF b].map .f)) = T93 (fun r => some (.ret (F.int .i64 r))) (fun a b i => some (.cut (at_ Tryz.f93 4) (S93_4 a b i))) a b := by kernel_rfl
  rw [e]
  exact (good_sel h (fun _ h => good_ret (by cases h; rfl)) (fun _ h => good_cut (t93_4 k _ _ _ r h)))
def cmpWV (a b : List Nat) : Int := if a.length ≠ b.length then (a.length : Int) - b.length else if val 18446744073709551616 a < val 18446744073709551616 b then -1 else if val 18446744073709551616 b < val 18446744073709551616 a then 1 else 0
theorem getD_lt {B : Nat} {l : List Nat} (h : okD B l) {j : Nat} (hj : j < l.length) : l.getD j 0 < B := by
  simp only [List.getD, List.getElem?_eq_getElem hj, Option.getD_some]
  exact h _ (List.getElem_mem hj)
theorem cmp_loop {a b : List Nat} (oa : okD 18446744073709551616 a) (ob : okD 18446744073709551616 b) (hl : a.length = b.length) (hn : a.length ≤ 1000) :
    ∀ (n k : Nat) (i : Int), i = (n : Int) - 1 → n ≤ a.length → (∀ j, n ≤ j → j < a.length → a.getD j 0 = b.getD j 0) → n < k → L93_4 k a b i = some (cmpWV a b)
  | 0, 0, _, _, _, _, hk => by omega
  | n + 1, 0, _, _, _, _, hk => by omega
  | 0, k + 1, i, hi, _, he, _ => by
    subst hi
    have hab : a = b := List.ext_getElem hl fun j h1 h2 => by
      have := he j (Nat.zero_le _) h1
      simpa [List.getD, List.getElem?_eq_getElem h1, List.getElem?_eq_getElem h2] using this
    subst hab
    simp only [L93_4]
    unfold T93_4 cmpWV
    simp [bsel_false]
  | n + 1, k + 1, i, hi, hna, he, hk => by
    obtain rfl : i = (n : Int) := by omega
    simp only [L93_4]
    unfold T93_4
    rw [decide_eq_true (show (n : Int) ≥ 0 by omega), decide_eq_true (show (n : Int) < a.length by omega), decide_eq_true (show (n : Int) < b.length by omega)]
    rw [Int.toNat_natCast]
    simp only [bsel_true]
    by_cases hx : a.getD n 0 = b.getD n 0
    · have hb : ((a.getD n 0 : Int) != (b.getD n 0 : Int)) = false := by rw [hx, bne_self_eq_false]
      rw [hb, bsel_false]
      refine cmp_loop oa ob hl hn n k _ (by rw [wrapI (by omega) (by omega)]) (by omega) (fun j h1 h2 => ?_) (by omega)
      rcases Nat.eq_or_lt_of_le h1 with rfl | h
      · exact hx
      · exact he j h h2
    · have hb : ((a.getD n 0 : Int) != (b.getD n 0 : Int)) = true := by simp only [bne_iff_ne, ne_eq]; omega
      rw [hb, bsel_true]
      unfold cmpWV
      rw [if_neg (by omega)]
      by_cases hlt : a.getD n 0 < b.getD n 0
      · rw [decide_eq_true (show (a.getD n 0 : Int) < b.getD n 0 by omega), bsel_true, if_pos (val_cmp (by omega) n a b oa ob hl (by omega) (fun j h1 h2 => he j h1 h2) hlt)]
      · have hgt : b.getD n 0 < a.getD n 0 := by omega
        have hv := val_cmp (B := 18446744073709551616) (by omega) n b a ob oa hl.symm (by omega) (fun j h1 h2 => (he j h1 (by omega)).symm) hgt
        rw [decide_eq_false (show ¬ (a.getD n 0 : Int) < b.getD n 0 by omega), bsel_false, if_neg (by omega), if_pos hv]
theorem cmpWords_law {a b : List Nat} (oa : okD 18446744073709551616 a) (ob : okD 18446744073709551616 b) (ha : a.length ≤ 1000) (hb : b.length ≤ 1000) : G93 2000 a b = some (cmpWV a b) := by
  unfold G93 T93
  by_cases hl : a.length = b.length
  · have h : ((a.length : Int) != (b.length : Int)) = false := by simp [hl]
    rw [h, bsel_false]
    exact cmp_loop oa ob hl ha _ _ _ (by rw [wrapI (by omega) (by omega)]) (Nat.le_refl _) (fun j h1 h2 => by omega) (by omega)
  · have h : ((a.length : Int) != (b.length : Int)) = true := by simp only [bne_iff_ne, ne_eq]; omega
    rw [h, bsel_true, wrapI (by omega) (by omega)]
    unfold cmpWV
    rw [if_pos hl]
def preWW : List F → Bool | [x, y] => preW [x] && preW [y] | _ => false
def resCmpW : List F → F | [x, y] => .int .i64 (cmpWV (unWords x) (unWords y)) | _ => .dflt
theorem preW_iff {x : F} (h : preW [x] = true) : isWords x = true ∧ (unWords x).length ≤ 1000 := by
  simpa [preW] using h
theorem okCmpW : PureOK Tryz.prog 93 preWW resCmpW :=
  fn_pure_at (c := bodyOf Tryz.f93) Tryz.func93 (by kernel_rfl) (by kernel_rfl) fun xs hp => match xs, hp with
  | [x, y], hp => by
    simp only [preWW, Bool.and_eq_true] at hp
    obtain ⟨hx, hxl⟩ := preW_iff hp.1
    obtain ⟨hy, hyl⟩ := preW_iff hp.2
    exact ⟨[wordsF (unWords x), wordsF (unWords y)], _, ⟨(words_eqv hx).1, (words_eqv hy).1, trivial⟩, t93 2000 _ _ _ (cmpWords_law (okD_unWords hx) (okD_unWords hy) hxl hyl), .refl _⟩
theorem cmpWV_digs (m n : Nat) : (cmpWV (digs 18446744073709551616 m) (digs 18446744073709551616 n) ≥ 0 ↔ n ≤ m) ∧ (cmpWV (digs 18446744073709551616 m) (digs 18446744073709551616 n) < 0 ↔ m < n) := by
  have hm := val_digs (B := 18446744073709551616) (by omega) m
  have hn := val_digs (B := 18446744073709551616) (by omega) n
  have key : cmpWV (digs 18446744073709551616 m) (digs 18446744073709551616 n) < 0 ↔ m < n := by
    unfold cmpWV
    rw [hm, hn]
    split
    · rename_i h
      rcases Nat.lt_or_gt_of_ne h with h | h
      · have := val_longer (by omega) (okD_digs (B := 18446744073709551616) (by omega) m) (trimD_digs (B := 18446744073709551616) (by omega) n) h
        omega
      · have := val_longer (by omega) (okD_digs (B := 18446744073709551616) (by omega) n) (trimD_digs (B := 18446744073709551616) (by omega) m) h
        omega
    · split
      · omega
      · split <;> omega
  exact ⟨by omega, key⟩
def envN5 : Env := (envN4.add 100 (.pure preW resTrim)).add 93 (.pure preWW resCmpW)
theorem envN5_ok : EnvOK Tryz.prog envN5 := (Env.add_ok (Env.add_ok envN4_ok okTrim.sp) okCmpW.sp)
end
end Go.Proofs.YtdcooaopkbicfaaGreat.R
