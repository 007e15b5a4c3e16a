/-
  The walk of trees: items, and rows of blocks.
-/
import Derived.Test.YtjbilidfnfnpfaaQ2
namespace Go.Proofs.Ytjbilidfnfnpfaa.R
open Go
noncomputable section
set_option linter.unusedVariables false
set_option linter.unusedSimpArgs false
set_option maxRecDepth 100000
/-! ### function 107 -/
def T107 {ρ : Type} (ret : (Bool) → Option ρ) (a : It) (b : It) : Option ρ :=
  (bsel (a.id != b.id)
   (ret (false))
   (bsel (!sameSegV { x0 := a.x0, y0 := a.y0, x1 := a.x1, y1 := a.y1 } { x0 := b.x0, y0 := b.y0, x1 := b.x1, y1 := b.y1 })
    (ret (false))
    (ret (true))))
def G107 (a : It) (b : It) : Option (Bool) := T107 some a b
theorem t107 (a : It) (b : It) (r : Bool) (h : G107 a b = some r) : Ends Try.prog Try.f107.results.toList [.code (bodyOf Try.f107)] (start Try.f107.ntmps ([itF a, itF b].map .f)) (F.bool r) := by
  refine Ends.of_run tyOK envQ2_ok (T := []) (n := 200) ?_
  have e : run Try.prog (tiOf Try.prog) envQ2 [] 0 Try.f107.results.toList some 200 [.code (bodyOf Try.f107)] (start Try.f107.ntmps ([itF a, itF b].map .f)) = T107 (fun r => some (.ret (F.bool r))) a b := by kernel_rfl
  rw [e]
  exact (good_sel h (fun _ h => good_ret (by cases h; rfl)) (fun _ h => (good_sel h (fun _ h => good_ret (by cases h; rfl)) (fun _ h => good_ret (by cases h; rfl)))))
/-! ### function 116 -/
def T116 {ρ : Type} (ret : (F) → Option ρ) (a : It) : Option ρ :=
  (ret (itF a))
def G116 (a : It) : Option (F) := T116 some a
theorem t116 (a : It) (r : F) (h : G116 a = some r) : Ends Try.prog Try.f116.results.toList [.code (bodyOf Try.f116)] (start Try.f116.ntmps ([itF a].map .f)) (r) := by
  refine Ends.of_run tyOK envQ2_ok (T := []) (n := 200) ?_
  have e : run Try.prog (tiOf Try.prog) envQ2 [] 0 Try.f116.results.toList some 200 [.code (bodyOf Try.f116)] (start Try.f116.ntmps ([itF a].map .f)) = T116 (fun r => some (.ret (r))) a := by kernel_rfl
  rw [e]
  exact good_ret (by cases h; rfl)
/-! ### function 62 -/
def S62_4 (a : List Bk) (b : List Bk) (i : Int) : St := ⟨[(U.f (blocksF a)), (U.f (blocksF b)), .bad, .bad, .bad, (U.f (F.int .i64 i)), .bad, .bad, .bad, .bad, .bad, .bad, .bad, .bad, .bad, .bad, .bad, .bad, .bad, .bad, .bad, .bad, .bad, .bad, .bad, .bad, .bad], []⟩
def T62_4 {ρ : Type} (ret : (Bool) → Option ρ) (c4 : (List Bk) → (List Bk) → (Int) → Option ρ) (a : List Bk) (b : List Bk) (i : Int) : Option ρ :=
  (bsel (decide (i < (↑a.length : Int)))
   (bsel (decide (0 ≤ i))
    (bsel (decide (i < (↑a.length : Int)))
     (bsel (decide (0 ≤ i))
      (bsel (decide (i < (↑b.length : Int)))
       (bsel (isBk (bkF (a.getD i.toNat Bk.zero)) && isBk (bkF (b.getD i.toNat Bk.zero)) && shortV (unBk (bkF (a.getD i.toNat Bk.zero))).ids)
        (bsel (!sameBkV (unBk (bkF (a.getD i.toNat Bk.zero))) (unBk (bkF (b.getD i.toNat Bk.zero))))
         (ret (false))
         (c4 (a) (b) (IntKind.i64.wrap (i + 1))))
        none)
       none)
      none)
     none)
    none)
   (ret (true)))
def L62_4 : Nat → (List Bk) → (List Bk) → (Int) → Option (Bool)
  | 0, _, _, _ => none
  | k + 1, a, b, i => T62_4 some (L62_4 k) a b i
def T62 {ρ : Type} (ret : (Bool) → Option ρ) (c4 : (List Bk) → (List Bk) → (Int) → Option ρ) (a : List Bk) (b : List Bk) : Option ρ :=
  (bsel ((↑a.length : Int) != (↑b.length : Int))
   (ret (false))
   (c4 (a) (b) (0)))
def G62 (k : Nat) (a : List Bk) (b : List Bk) : Option (Bool) := T62 some (L62_4 k) a b
theorem t62_4 : ∀ (k : Nat) (a : List Bk) (b : List Bk) (i : Int) (r : Bool), L62_4 k a b i = some r → Ends Try.prog Try.f62.results.toList (at_ Try.f62 4) (S62_4 a b i) (F.bool r)
  | 0, _, _, _, _, h => nomatch h
  | k + 1, a, b, i, r, h => by
    refine Ends.of_cut tyOK envQ2_ok (T := [(4, [0, 1, 5], 1000)]) (n := 200) ?_
    have e : runCut Try.prog (tiOf Try.prog) envQ2 [(4, [0, 1, 5], 1000)] 0 Try.f62.results.toList some 200 (at_ Try.f62 4) (S62_4 a b i) = T62_4 (fun r => some (.ret (F.bool r))) (fun a b i => some (.cut (at_ Try.f62 4) (S62_4 a b i))) a b i := by kernel_rfl
    rw [e]
    exact (good_sel h (fun _ h => (good_sel h (fun _ h => (good_sel h (fun _ h => (good_sel h (fun _ h => (good_sel h (fun _ h => (good_sel h (fun _ h => (good_sel h (fun _ h => good_ret (by cases h; rfl)) (fun _ h => good_cut (t62_4 k _ _ _ r h)))) (fun _ h => nomatch h))) (fun _ h => nomatch h))) (fun _ h => nomatch h))) (fun _ h => nomatch h))) (fun _ h => nomatch h))) (fun _ h => good_ret (by cases h; rfl)))
theorem t62 (k : Nat) (a : List Bk) (b : List Bk) (r : Bool) (h : G62 k a b = some r) : Ends Try.prog Try.f62.results.toList [.code (bodyOf Try.f62)] (start Try.f62.ntmps ([blocksF a, blocksF b].map .f)) (F.bool r) := by
  refine Ends.of_run tyOK envQ2_ok (T := [(4, [0, 1, 5], 1000)]) (n := 200) ?_
  have e : run Try.prog (tiOf Try.prog) envQ2 [(4, [0, 1, 5], 1000)] 0 Try.f62.results.toList some 200 [.code (bodyOf Try.f62)] (start Try.f62.ntmps ([blocksF a, blocksF b].map .f)) = T62 (fun r => some (.ret (F.bool r))) (fun a b i => some (.cut (at_ Try.f62 4) (S62_4 a b i))) a b := by kernel_rfl
  rw [e]
  exact (good_sel h (fun _ h => good_ret (by cases h; rfl)) (fun _ h => good_cut (t62_4 k _ _ _ r h)))
/-! ### function 72 -/
def S72_5 (a : List Bk) (lf : Int) (i : Int) : St := ⟨[(U.f (blocksF a)), (U.f (F.int .i64 lf)), .bad, .bad, .bad, (U.f (F.int .i64 i)), .bad, .bad, .bad, .bad, .bad, .bad, .bad, .bad, .bad, .bad, .bad, .bad, .bad, .bad, .bad, .bad, .bad, .bad, .bad, .bad, .bad], []⟩
def T72_5 {ρ : Type} (ret : (Int) → Option ρ) (c5 : (List Bk) → (Int) → (Int) → Option ρ) (a : List Bk) (lf : Int) (i : Int) : Option ρ :=
  (bsel (decide (i < (↑a.length : Int)))
   (bsel (decide (0 ≤ i))
    (bsel (decide (i < (↑a.length : Int)))
     (bsel (isBk (bkF (a.getD i.toNat Bk.zero)))
      (bsel (decide (leftV (unBk (bkF (a.getD i.toNat Bk.zero))).ids.length lf < 0))
       (ret (-1))
       (c5 (a) (leftV (unBk (bkF (a.getD i.toNat Bk.zero))).ids.length lf) (IntKind.i64.wrap (i + 1))))
      none)
     none)
    none)
   (ret (lf)))
def L72_5 : Nat → (List Bk) → (Int) → (Int) → Option (Int)
  | 0, _, _, _ => none
  | k + 1, a, lf, i => T72_5 some (L72_5 k) a lf i
def T72 {ρ : Type} (ret : (Int) → Option ρ) (c5 : (List Bk) → (Int) → (Int) → Option ρ) (a : List Bk) (lf : Int) : Option ρ :=
  (bsel (decide (IntKind.i64.wrap (lf - (↑a.length : Int)) < 0))
   (ret (-1))
   (c5 (a) (IntKind.i64.wrap (lf - (↑a.length : Int))) (0)))
def G72 (k : Nat) (a : List Bk) (lf : Int) : Option (Int) := T72 some (L72_5 k) a lf
theorem t72_5 : ∀ (k : Nat) (a : List Bk) (lf : Int) (i : Int) (r : Int), L72_5 k a lf i = some r → Ends Try.prog Try.f72.results.toList (at_ Try.f72 5) (S72_5 a lf i) (F.int .i64 r)
  | 0, _, _, _, _, h => nomatch h
  | k + 1, a, lf, i, r, h => by
    refine Ends.of_cut tyOK envQ2_ok (T := [(5, [0, 1, 5], 1000)]) (n := 200) ?_
    have e : runCut Try.prog (tiOf Try.prog) envQ2 [(5, [0, 1, 5], 1000)] 0 Try.f72.results.toList some 200 (at_ Try.f72 5) (S72_5 a lf i) = T72_5 (fun r => some (.ret (F.int .i64 r))) (fun a lf i => some (.cut (at_ Try.f72 5) (S72_5 a lf i))) a lf i := by kernel_rfl
    rw [e]
    exact (good_sel h (fun _ h => (good_sel h (fun _ h => (good_sel h (fun _ h => (good_sel h (fun _ h => (good_sel h (fun _ h => good_ret (by cases h; rfl)) (fun _ h => good_cut (t72_5 k _ _ _ r h)))) (fun _ h => nomatch h))) (fun _ h => nomatch h))) (fun _ h => nomatch h))) (fun _ h => good_ret (by cases h; rfl)))
theorem t72 (k : Nat) (a : List Bk) (lf : Int) (r : Int) (h : G72 k a lf = some r) : Ends Try.prog Try.f72.results.toList [.code (bodyOf Try.f72)] (start Try.f72.ntmps ([blocksF a, F.int .i64 lf].map .f)) (F.int .i64 r) := by
  refine Ends.of_run tyOK envQ2_ok (T := [(5, [0, 1, 5], 1000)]) (n := 200) ?_
  have e : run Try.prog (tiOf Try.prog) envQ2 [(5, [0, 1, 5], 1000)] 0 Try.f72.results.toList some 200 [.code (bodyOf Try.f72)] (start Try.f72.ntmps ([blocksF a, F.int .i64 lf].map .f)) = T72 (fun r => some (.ret (F.int .i64 r))) (fun a lf i => some (.cut (at_ Try.f72 5) (S72_5 a lf i))) a lf := by kernel_rfl
  rw [e]
  exact (good_sel h (fun _ h => good_ret (by cases h; rfl)) (fun _ h => good_cut (t72_5 k _ _ _ r h)))
/-! ### function 75 -/
def S75_3 (a : List Bk) (n : Nat) (g : Nat → F) (i : Int) : St := ⟨[(U.f (blocksF a)), .bad, .bad, (U.hs 0 n 0 n), (U.f (F.int .i64 i)), .bad, .bad, .bad, .bad, .bad, .bad, .bad, .bad, .bad, .bad, .bad, .bad, .bad, .bad, .bad, .bad, .bad, .bad], [HO.arr 5 n g]⟩
def T75_3 {ρ : Type} (ret : (Nat) → (Nat → F) → Option ρ) (c3 : (List Bk) → (Nat) → (Nat → F) → (Int) → Option ρ) (a : List Bk) (n : Nat) (g : Nat → F) (i : Int) : Option ρ :=
  (bsel (decide (i < (↑a.length : Int)))
   (bsel (decide (0 ≤ i))
    (bsel (decide (i < (↑a.length : Int)))
     (bsel (isBk (bkF (a.getD i.toNat Bk.zero)) && shortV (unBk (bkF (a.getD i.toNat Bk.zero))).ids)
      (bsel (decide (n = n))
       (bsel (decide (0 ≤ i))
        (bsel (decide (i < (↑n : Int)))
         (bsel (decide (n = n))
          (bsel (decide (0 + i.toNat < n))
           (bsel (decide ((g (0 + i.toNat)).cells.length = 5))
            (bsel ((isAggF (g (0 + i.toNat)) || false) && true)
             (c3 (a) (n) (fun j ↦ if j = 0 + i.toNat then bkF (unBk (bkF (a.getD i.toNat Bk.zero))) else g j) (IntKind.i64.wrap (i + 1)))
             none)
            none)
           none)
          none)
         none)
        none)
       none)
      none)
     none)
    none)
   (bsel (decide (n = n))
    (ret (n) (g))
    none))
def L75_3 : Nat → (List Bk) → (Nat) → (Nat → F) → (Int) → Option ((Nat) × (Nat → F))
  | 0, _, _, _, _ => none
  | k + 1, a, n, g, i => T75_3 (fun rn rg => some (rn, rg)) (L75_3 k) a n g i
def T75 {ρ : Type} (ret : (Nat) → (Nat → F) → Option ρ) (c3 : (List Bk) → (Nat) → (Nat → F) → (Int) → Option ρ) (a : List Bk) : Option ρ :=
  (bsel (decide ((↑a.length : Int) ≤ (↑a.length : Int)))
   (bsel (decide ((↑a.length : Int) * (((56 : Nat) : Int) + 1) ≤ (↑limit : Int)))
    (c3 (a) ((↑a.length : Int).toNat) (fun x ↦ F.agg [F.int IntKind.i64 0, F.int IntKind.i64 0, F.int IntKind.i64 0, F.bool false, F.sl 0 fun x ↦ F.bool false]) (0))
    none)
   none)
def G75 (k : Nat) (a : List Bk) : Option ((Nat) × (Nat → F)) := T75 (fun rn rg => some (rn, rg)) (L75_3 k) a
theorem t75_3 : ∀ (k : Nat) (a : List Bk) (n : Nat) (g : Nat → F) (i : Int) (rn : Nat) (rg : Nat → F), L75_3 k a n g i = some (rn, rg) → Ends Try.prog Try.f75.results.toList (at_ Try.f75 3) (S75_3 a n g i) (F.sl rn rg)
  | 0, _, _, _, _, _, _, h => nomatch h
  | k + 1, a, n, g, i, rn, rg, h => by
    refine Ends.of_cut tyOK envQ2_ok (T := [(3, [0, 3, 4], 1000)]) (n := 200) ?_
    have e : runCut Try.prog (tiOf Try.prog) envQ2 [(3, [0, 3, 4], 1000)] 0 Try.f75.results.toList some 200 (at_ Try.f75 3) (S75_3 a n g i) = T75_3 (fun rn rg => some (.ret (F.sl rn rg))) (fun a n g i => some (.cut (at_ Try.f75 3) (S75_3 a n g i))) a n g i := by kernel_rfl
    rw [e]
    exact (good_sel h (fun _ h => (good_sel h (fun _ h => (good_sel h (fun _ h => (good_sel h (fun _ h => (good_sel h (fun _ h => (good_sel h (fun _ h => (good_sel h (fun _ h => (good_sel h (fun _ h => (good_sel h (fun _ h => (good_sel h (fun _ h => (good_sel h (fun _ h => good_cut (t75_3 k _ _ _ _ rn rg h)) (fun _ h => nomatch h))) (fun _ h => nomatch h))) (fun _ h => nomatch h))) (fun _ h => nomatch h))) (fun _ h => nomatch h))) (fun _ h => nomatch h))) (fun _ h => nomatch h))) (fun _ h => nomatch h))) (fun _ h => nomatch h))) (fun _ h => nomatch h))) (fun _ h => (good_sel h (fun _ h => good_ret (by cases h; rfl)) (fun _ h => nomatch h))))
theorem t75 (k : Nat) (a : List Bk) (rn : Nat) (rg : Nat → F) (h : G75 k a = some (rn, rg)) : Ends Try.prog Try.f75.results.toList [.code (bodyOf Try.f75)] (start Try.f75.ntmps ([blocksF a].map .f)) (F.sl rn rg) := by
  refine Ends.of_run tyOK envQ2_ok (T := [(3, [0, 3, 4], 1000)]) (n := 200) ?_
  have e : run Try.prog (tiOf Try.prog) envQ2 [(3, [0, 3, 4], 1000)] 0 Try.f75.results.toList some 200 [.code (bodyOf Try.f75)] (start Try.f75.ntmps ([blocksF a].map .f)) = T75 (fun rn rg => some (.ret (F.sl rn rg))) (fun a n g i => some (.cut (at_ Try.f75 3) (S75_3 a n g i))) a := by kernel_rfl
  rw [e]
  exact (good_sel h (fun _ h => (good_sel h (fun _ h => good_cut (t75_3 k _ _ _ _ rn rg h)) (fun _ h => nomatch h))) (fun _ h => nomatch h))
def sameItV (a b : It) : Bool := a.id == b.id && sameSegV a.sg b.sg
def preEqIt : List F → Bool | [a, b] => isIt a && isIt b | _ => false
def resEqIt : List F → F | [a, b] => .bool (sameItV (unIt a) (unIt b)) | _ => .dflt
theorem okEqIt : PureOK Try.prog 107 preEqIt resEqIt :=
  fn_pure_at (c := bodyOf Try.f107) Try.func107 (by kernel_rfl) (by kernel_rfl) fun xs hp => match xs, hp with
  | [a, b], hp => by
    simp only [preEqIt, Bool.and_eq_true] at hp
    refine ⟨[itF (unIt a), itF (unIt b)], _, ⟨by rw [it_eq hp.1]; exact .refl _, by rw [it_eq hp.2]; exact .refl _, trivial⟩, t107 _ _ (sameItV (unIt a) (unIt b)) (by
      unfold G107 T107 sameItV It.sg
      rw [bne]
      cases ((unIt a).id == (unIt b).id) <;> cases sameSegV ⟨(unIt a).x0, (unIt a).y0, (unIt a).x1, (unIt a).y1⟩ ⟨(unIt b).x0, (unIt b).y0, (unIt b).x1, (unIt b).y1⟩ <;> rfl), .refl _⟩
def preIt : List F → Bool | [a] => isIt a | _ => false
def resIt : List F → F | [a] => itF (unIt a) | _ => .dflt
theorem okToIt : PureOK Try.prog 116 preIt resIt :=
  fn_pure_at (c := bodyOf Try.f116) Try.func116 (by kernel_rfl) (by kernel_rfl) fun xs hp => match xs, hp with
  | [a], hp => ⟨[itF (unIt a)], _, ⟨by rw [it_eq hp]; exact .refl _, trivial⟩, t116 _ _ rfl, .refl _⟩

def sameBksV : List Bk → List Bk → Bool
  | [], [] => true
  | a :: a', b :: b' => sameBkV a b && sameBksV a' b'
  | _, _ => false
theorem sameBks_ne : ∀ (a b : List Bk), a.length ≠ b.length → sameBksV a b = false
  | [], [], h => absurd rfl h
  | [], _ :: _, _ => rfl
  | _ :: _, [], _ => rfl
  | a :: a', b :: b', h => by rw [sameBksV, sameBks_ne a' b' (by simpa using h), Bool.and_false]
def allShortV (l : List Bk) : Bool := decide (l.length ≤ 1048576) && l.all fun b => shortV b.ids
theorem allShort_iff {l : List Bk} : allShortV l = true ↔ l.length ≤ 1048576 ∧ ∀ b ∈ l, shortV b.ids = true := by
  simp only [allShortV, Bool.and_eq_true, decide_eq_true_eq, List.all_eq_true]
theorem short_at {l : List Bk} (h : allShortV l = true) {i : Nat} (hi : i < l.length) : shortV (l.getD i .zero).ids = true := by
  have : l.getD i Bk.zero = l[i] := by simp [List.getD, List.getElem?_eq_getElem hi]
  rw [this]
  exact (allShort_iff.1 h).2 _ (List.getElem_mem hi)
theorem eqBks_loop (a b : List Bk) (hl : a.length = b.length) (hs : allShortV a = true) : ∀ (d i : Nat), i + d = a.length → L62_4 (d + 1) a b i = some (sameBksV (a.drop i) (b.drop i))
  | 0, i, h => by
    have c1 : decide ((i : Int) < (a.length : Int)) = false := decide_eq_false (by omega)
    simp only [L62_4, T62_4, c1, bsel_false]
    rw [List.drop_eq_nil_of_le (by omega), List.drop_eq_nil_of_le (by omega)]
    rfl
  | d + 1, i, h => by
    have hi : i < a.length := by omega
    have hn := (allShort_iff.1 hs).1
    have c1 : decide ((i : Int) < (a.length : Int)) = true := decide_eq_true (by omega)
    have c3 : decide ((i : Int) < (b.length : Int)) = true := decide_eq_true (by omega)
    have c2 : decide (0 ≤ (i : Int)) = true := decide_eq_true (by omega)
    have hw : IntKind.i64.wrap ((i : Int) + 1) = ((i + 1 : Nat) : Int) := by rw [wrapi (by omega) (by omega)]; omega
    have h1 : a.getD i .zero = a[i] := by simp [List.getD, List.getElem?_eq_getElem hi]
    have h2 : b.getD i .zero = b[i]'(by omega) := by simp [List.getD, List.getElem?_eq_getElem (show i < b.length by omega)]
    have c4 := short_at hs hi
    rw [L62_4]
    simp only [T62_4, c1, c2, c3, hw, eqBks_loop a b hl hs d (i + 1) (by omega), bsel_true, Int.toNat_natCast, isBk_bkF, unBk_bkF, c4, Bool.and_true]
    rw [List.drop_eq_getElem_cons hi, List.drop_eq_getElem_cons (show i < b.length by omega), sameBksV, h1, h2]
    cases sameBkV a[i] (b[i]'(by omega)) <;> rfl
def preEqBks : List F → Bool | [a, b] => isBlocks a && isBlocks b && allShortV (unBlocks a) | _ => false
def resEqBks : List F → F | [a, b] => .bool (sameBksV (unBlocks a) (unBlocks b)) | _ => .dflt
theorem eqBks_law (a b : List Bk) (hs : allShortV a = true) : G62 (a.length + 1) a b = some (sameBksV a b) := by
  unfold G62 T62
  rw [bne]
  cases h : ((a.length : Int) == (b.length : Int)) with
  | true => exact eqBks_loop a b (by have := eq_of_beq h; omega) hs a.length 0 (by omega)
  | false => rw [sameBks_ne a b fun e => by simp [e] at h]; rfl
theorem okEqBks : PureOK Try.prog 62 preEqBks resEqBks :=
  fn_pure_at (c := bodyOf Try.f62) Try.func62 (by kernel_rfl) (by kernel_rfl) fun xs hp => match xs, hp with
  | [a, b], hp => by
    simp only [preEqBks, Bool.and_eq_true] at hp
    exact ⟨[blocksF (unBlocks a), blocksF (unBlocks b)], _, ⟨(blocks_eqv hp.1.1).1, (blocks_eqv hp.1.2).1, trivial⟩, t62 _ _ _ _ (eqBks_law _ _ hp.2), .refl _⟩

def szIdsV : List Bk → Int → Int
  | [], k => k
  | b :: bs, k => bif decide (leftV b.ids.length k < 0) then -1 else szIdsV bs (leftV b.ids.length k)
def szBksV (l : List Bk) (k : Int) : Int := bif decide (leftV l.length k < 0) then -1 else szIdsV l (leftV l.length k)
theorem szIds_loop (a : List Bk) (hs : a.length ≤ 9223372036854775807) : ∀ (d i : Nat) (k : Int), i + d = a.length → L72_5 (d + 1) a k i = some (szIdsV (a.drop i) k)
  | 0, i, k, h => by
    have c1 : decide ((i : Int) < (a.length : Int)) = false := decide_eq_false (by omega)
    simp only [L72_5, T72_5, c1, bsel_false]
    rw [List.drop_eq_nil_of_le (by omega)]
    rfl
  | d + 1, i, k, h => by
    have hi : i < a.length := by omega
    have c1 : decide ((i : Int) < (a.length : Int)) = true := decide_eq_true (by omega)
    have c2 : decide (0 ≤ (i : Int)) = true := decide_eq_true (by omega)
    have hw : IntKind.i64.wrap ((i : Int) + 1) = ((i + 1 : Nat) : Int) := by rw [wrapi (by omega) (by omega)]; omega
    have h1 : a.getD i .zero = a[i] := by simp [List.getD, List.getElem?_eq_getElem hi]
    rw [L72_5]
    simp only [T72_5, c1, c2, hw, szIds_loop a hs d (i + 1) _ (by omega), bsel_true, Int.toNat_natCast, isBk_bkF, unBk_bkF]
    rw [List.drop_eq_getElem_cons hi, szIdsV, h1]
    cases decide (leftV a[i].ids.length k < 0) <;> rfl
def longV (n : Nat) : Bool := decide (n ≤ 9223372036854775807)
def preSzBks : List F → Bool | [a, .int .i64 _] => isBlocks a && longV (unBlocks a).length | _ => false
def resSzBks : List F → F | [a, .int .i64 k] => .int .i64 (szBksV (unBlocks a) k) | _ => .dflt
theorem szBks_law (a : List Bk) (k : Int) (hs : a.length ≤ 9223372036854775807) : G72 (a.length + 1) a k = some (szBksV a k) := by
  unfold G72 T72 szBksV leftV
  cases h : decide (IntKind.i64.wrap (k - (a.length : Int)) < 0) with
  | true => rfl
  | false =>
    simp only [cond_false, h]
    exact szIds_loop a hs a.length 0 _ (by omega)
theorem okSzBks : PureOK Try.prog 72 preSzBks resSzBks :=
  fn_pure_at (c := bodyOf Try.f72) Try.func72 (by kernel_rfl) (by kernel_rfl) fun xs hp => match xs, hp with
  | [a, .int .i64 k], hp => by
    simp only [preSzBks, Bool.and_eq_true] at hp
    exact ⟨[blocksF (unBlocks a), .int .i64 k], _, ⟨(blocks_eqv hp.1).1, .refl _, trivial⟩, t72 _ _ _ _ (szBks_law _ _ (of_decide_eq_true hp.2)), .refl _⟩

def bkZ : F := F.agg [F.int IntKind.i64 0, F.int IntKind.i64 0, F.int IntKind.i64 0, F.bool false, F.sl 0 fun x => F.bool false]
theorem toBks_loop (a : List Bk) (hs : allShortV a = true) : ∀ (d i : Nat) (g : Nat → F), i + d = a.length → Fills bkF .zero bkZ a i g → ∃ g1, L75_3 (d + 1) a a.length g i = some (a.length, g1) ∧ Lists bkF .zero a.length g1 a
  | 0, i, g, h, hg => by
    have c1 : decide ((i : Int) < (a.length : Int)) = false := decide_eq_false (by omega)
    obtain rfl : i = a.length := by omega
    exact ⟨g, by simp only [L75_3, T75_3, c1, bsel_false, decide_true, bsel_true], hg.lists⟩
  | d + 1, i, g, h, hg => by
    have hi : i < a.length := by omega
    have hn := (allShort_iff.1 hs).1
    have c1 : decide ((i : Int) < (a.length : Int)) = true := decide_eq_true (by omega)
    have c2 : decide (0 ≤ (i : Int)) = true := decide_eq_true (by omega)
    have c3 : decide (i < a.length) = true := decide_eq_true hi
    have hw : IntKind.i64.wrap ((i : Int) + 1) = ((i + 1 : Nat) : Int) := by rw [wrapi (by omega) (by omega)]; omega
    have c4 : g i = bkZ := (hg i).2 (Nat.le_refl _)
    have c5 := short_at hs hi
    obtain ⟨g1, e1, e2⟩ := toBks_loop a hs d (i + 1) _ (by omega) hg.set
    refine ⟨g1, ?_, e2⟩
    rw [← e1, L75_3]
    simp only [T75_3, c1, c2, c3, hw, bsel_true, decide_true, Int.toNat_natCast, Nat.zero_add, c4, isBk_bkF, unBk_bkF, c5, Bool.and_true]
    rfl
def preBks : List F → Bool | [a] => isBlocks a && allShortV (unBlocks a) | _ => false
def resBks : List F → F | [a] => blocksF (unBlocks a) | _ => .dflt
theorem toBks_law (a : List Bk) (hs : allShortV a = true) : ∃ g1, G75 (a.length + 1) a = some (a.length, g1) ∧ Lists bkF .zero a.length g1 a := by
  have hn := (allShort_iff.1 hs).1
  obtain ⟨g1, e1, e2⟩ := toBks_loop a hs a.length 0 _ (by omega) Fills.zero
  refine ⟨g1, ?_, e2⟩
  have c3 : decide (((a.length : Nat) : Int) * (((56 : Nat) : Int) + 1) ≤ (limit : Int)) = true := by rw [limit_eq]; exact decide_eq_true (by omega)
  unfold G75 T75
  simp only [c3, Int.le_refl, decide_true, bsel_true, Int.toNat_natCast]
  exact e1
theorem okToBks : PureOK Try.prog 75 preBks resBks :=
  fn_pure_at (c := bodyOf Try.f75) Try.func75 (by kernel_rfl) (by kernel_rfl) fun xs hp => match xs, hp with
  | [a], hp => by
    simp only [preBks, Bool.and_eq_true] at hp
    obtain ⟨g1, e1, e2⟩ := toBks_law (unBlocks a) hp.2
    exact ⟨[blocksF (unBlocks a)], _, ⟨(blocks_eqv hp.1).1, trivial⟩, t75 _ _ _ _ e1, e2.le⟩
def envQ3 : Env := ((((envQ2.add 107 (.pure preEqIt resEqIt)).add 116 (.pure preIt resIt)).add 62 (.pure preEqBks resEqBks)).add 72 (.pure preSzBks resSzBks)).add 75 (.pure preBks resBks)
theorem envQ3_ok : EnvOK Try.prog envQ3 := Env.add_ok (Env.add_ok (Env.add_ok (Env.add_ok (Env.add_ok envQ2_ok okEqIt.sp) okToIt.sp) okEqBks.sp) okSzBks.sp) okToBks.sp
end
end Go.Proofs.Ytjbilidfnfnpfaa.R
