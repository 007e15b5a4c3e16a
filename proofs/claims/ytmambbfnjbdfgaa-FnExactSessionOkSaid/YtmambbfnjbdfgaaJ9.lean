/-
  The own walk and what it shows, part 9 of 9.
-/
import Derived.Test.YtmambbfnjbdfgaaJ1
import Derived.Test.YtmambbfnjbdfgaaJ2
import Derived.Test.YtmambbfnjbdfgaaJ3
import Derived.Test.YtmambbfnjbdfgaaJ4
import Derived.Test.YtmambbfnjbdfgaaJ5
import Derived.Test.YtmambbfnjbdfgaaJ6
import Derived.Test.YtmambbfnjbdfgaaJ7
import Derived.Test.YtmambbfnjbdfgaaJ8
set_option exponentiation.threshold 30000
namespace Go.Proofs.Ytmambbfnjbdfgaa.R
open Go
noncomputable section
set_option linter.unusedVariables false
set_option linter.unusedSimpArgs false
set_option maxRecDepth 100000
/-! ### function 24 -/
def T24 {ρ : Type} (ret : (Bool) → Option ρ) (l : List (List Pt)) (m : List (List Pt)) : Option ρ :=
 (bsel (isRings (ringsF l))
 (bsel (layerV (unRings (ringsF l)) == true)
 (bsel (isRings (ringsF m))
 (ret (layerV (unRings (ringsF m))))
 none)
 (ret (false)))
 none)
def G24 (l : List (List Pt)) (m : List (List Pt)) : Option (Bool) := T24 some l m
theorem t24 (l : List (List Pt)) (m : List (List Pt)) (b : Bool) (h : G24 l m = some b) : Ends Try.prog Try.f24.results.toList [.code (bodyOf Try.f24)] (start Try.f24.ntmps ([F.agg [ringsF l, ringsF m]].map .f)) (F.bool b) := by
  refine Ends.of_run tyOK envK10_ok (T := []) (n := 200) ?_
  have e : run Try.prog (tiOf Try.prog) envK10 [] 0 Try.f24.results.toList some 200 [.code (bodyOf Try.f24)] (start Try.f24.ntmps ([F.agg [ringsF l, ringsF m]].map .f)) = T24 (fun b => some (.ret (F.bool b))) l m := by kernel_rfl
  rw [e]
  exact (good_sel h (fun _ h => (good_sel h (fun _ h => (good_sel h (fun _ h => good_ret (by cases h; rfl)) (fun _ h => nomatch h))) (fun _ h => good_ret (by cases h; rfl)))) (fun _ h => nomatch h))
/-! ### function 26 -/
def T26 {ρ : Type} (ret : (Bool) → Option ρ) (l : List (List Pt)) (m : List (List Pt)) : Option ρ :=
 (bsel (isRings (ringsF l))
 (bsel (layerV (unRings (ringsF l)) == true)
 (bsel (isRings (ringsF m))
 (ret (layerV (unRings (ringsF m))))
 none)
 (ret (false)))
 none)
def G26 (l : List (List Pt)) (m : List (List Pt)) : Option (Bool) := T26 some l m
theorem t26 (l : List (List Pt)) (m : List (List Pt)) (b : Bool) (h : G26 l m = some b) : Ends Try.prog Try.f26.results.toList [.code (bodyOf Try.f26)] (start Try.f26.ntmps ([F.agg [ringsF l, ringsF m]].map .f)) (F.bool b) := by
  refine Ends.of_run tyOK envK10_ok (T := []) (n := 200) ?_
  have e : run Try.prog (tiOf Try.prog) envK10 [] 0 Try.f26.results.toList some 200 [.code (bodyOf Try.f26)] (start Try.f26.ntmps ([F.agg [ringsF l, ringsF m]].map .f)) = T26 (fun b => some (.ret (F.bool b))) l m := by kernel_rfl
  rw [e]
  exact (good_sel h (fun _ h => (good_sel h (fun _ h => (good_sel h (fun _ h => good_ret (by cases h; rfl)) (fun _ h => nomatch h))) (fun _ h => good_ret (by cases h; rfl)))) (fun _ h => nomatch h))
def sessV (l m : List (List Pt)) : Bool := layerV l && layerV m
def preSess : List F → Bool | [x] => isSess x | _ => false
def resSess : List F → F | [x] => .bool (sessV (unSessA x) (unSessB x)) | _ => .dflt
theorem okSess3 : PureOK Try.prog 24 preSess resSess :=
  fn_pure_at (c := bodyOf Try.f24) Try.func24 (by kernel_rfl) (by kernel_rfl) fun xs hp => match xs, hp with
  | [x], hp => ⟨[.agg [ringsF (unSessA x), ringsF (unSessB x)]], _, ⟨(sess_eqv hp).1, trivial⟩, t24 (unSessA x) (unSessB x) (sessV (unSessA x) (unSessB x)) (by
      unfold G24 T24 sessV
      rw [isRings_ringsF, unRings_ringsF, isRings_ringsF, unRings_ringsF]
      cases layerV (unSessA x) <;> rfl), .refl _⟩
theorem okSessI : PureOK Try.prog 26 preSess resSess :=
  fn_pure_at (c := bodyOf Try.f26) Try.func26 (by kernel_rfl) (by kernel_rfl) fun xs hp => match xs, hp with
  | [x], hp => ⟨[.agg [ringsF (unSessA x), ringsF (unSessB x)]], _, ⟨(sess_eqv hp).1, trivial⟩, t26 (unSessA x) (unSessB x) (sessV (unSessA x) (unSessB x)) (by
      unfold G26 T26 sessV
      rw [isRings_ringsF, unRings_ringsF, isRings_ringsF, unRings_ringsF]
      cases layerV (unSessA x) <;> rfl), .refl _⟩
/-! ### function 100 -/
def T100 {ρ : Type} (ret : (Int) → Option ρ) (q : List Pt) (lf : Int) : Option ρ :=
 (bsel (isPts (ptsF q))
 (bsel (decide (leftV (unPts (ptsF q)).length lf < 0))
 (ret (-1))
 (ret (leftV (unPts (ptsF q)).length lf)))
 none)
def G100 (q : List Pt) (lf : Int) : Option (Int) := T100 some q lf
theorem t100 (q : List Pt) (lf : Int) (r : Int) (h : G100 q lf = some r) : Ends Try.prog Try.f100.results.toList [.code (bodyOf Try.f100)] (start Try.f100.ntmps ([F.agg [ptsF q], F.int .i64 lf].map .f)) (F.int .i64 r) := by
  refine Ends.of_run tyOK envK10_ok (T := []) (n := 200) ?_
  have e : run Try.prog (tiOf Try.prog) envK10 [] 0 Try.f100.results.toList some 200 [.code (bodyOf Try.f100)] (start Try.f100.ntmps ([F.agg [ptsF q], F.int .i64 lf].map .f)) = T100 (fun r => some (.ret (F.int .i64 r))) q lf := by kernel_rfl
  rw [e]
  exact (good_sel h (fun _ h => (good_sel h (fun _ h => good_ret (by cases h; rfl)) (fun _ h => good_ret (by cases h; rfl)))) (fun _ h => nomatch h))
/-! ### function 102 -/
def T102 {ρ : Type} (ret : (F) → Option ρ) (q : List Pt) : Option ρ :=
 (bsel (isPts (ptsF q) && shortPtsV (unPts (ptsF q)))
 (bsel (decide ((unPts (ptsF q)).length = (unPts (ptsF q)).length))
 (ret (F.agg [ptsF (unPts (ptsF q))]))
 none)
 none)
def G102 (q : List Pt) : Option (F) := T102 some q
theorem t102 (q : List Pt) (r : F) (h : G102 q = some r) : Ends Try.prog Try.f102.results.toList [.code (bodyOf Try.f102)] (start Try.f102.ntmps ([F.agg [ptsF q]].map .f)) (r) := by
  refine Ends.of_run tyOK envK10_ok (T := []) (n := 200) ?_
  have e : run Try.prog (tiOf Try.prog) envK10 [] 0 Try.f102.results.toList some 200 [.code (bodyOf Try.f102)] (start Try.f102.ntmps ([F.agg [ptsF q]].map .f)) = T102 (fun r => some (.ret (r))) q := by kernel_rfl
  rw [e]
  exact (good_sel h (fun _ h => (good_sel h (fun _ h => good_ret (by cases h; rfl)) (fun _ h => nomatch h))) (fun _ h => nomatch h))
/-! ### function 104 -/
def T104 {ρ : Type} (ret : (Bool) → Option ρ) (q : List Pt) (p : List Pt) : Option ρ :=
 (bsel (isPts (ptsF q) && isPts (ptsF p) && shortPtsV (unPts (ptsF q)))
 (bsel (!samePtsV (unPts (ptsF q)) (unPts (ptsF p)))
 (ret (false))
 (ret (true)))
 none)
def G104 (q : List Pt) (p : List Pt) : Option (Bool) := T104 some q p
theorem t104 (q : List Pt) (p : List Pt) (b : Bool) (h : G104 q p = some b) : Ends Try.prog Try.f104.results.toList [.code (bodyOf Try.f104)] (start Try.f104.ntmps ([F.agg [ptsF q], F.agg [ptsF p]].map .f)) (F.bool b) := by
  refine Ends.of_run tyOK envK10_ok (T := []) (n := 200) ?_
  have e : run Try.prog (tiOf Try.prog) envK10 [] 0 Try.f104.results.toList some 200 [.code (bodyOf Try.f104)] (start Try.f104.ntmps ([F.agg [ptsF q], F.agg [ptsF p]].map .f)) = T104 (fun b => some (.ret (F.bool b))) q p := by kernel_rfl
  rw [e]
  exact (good_sel h (fun _ h => (good_sel h (fun _ h => good_ret (by cases h; rfl)) (fun _ h => good_ret (by cases h; rfl)))) (fun _ h => nomatch h))
theorem left_again (n : Nat) (k : Int) : (bsel (decide (leftV n k < 0)) (some (-1)) (some (leftV n k))) = some (leftV n k) := by
  unfold leftV
  cases h : decide (IntKind.i64.wrap (k - (n : Int)) < 0) with
  | true => rfl
  | false => rw [cond_false, h]; rfl
def preSzRing : List F → Bool | [x, .int .i64 _] => isRing x | _ => false
def resSzRing : List F → F | [x, .int .i64 k] => .int .i64 (leftV (unRing x).length k) | _ => .dflt
theorem okSzRing : PureOK Try.prog 100 preSzRing resSzRing :=
  fn_pure_at (c := bodyOf Try.f100) Try.func100 (by kernel_rfl) (by kernel_rfl) fun xs hp => match xs, hp with
  | [x, .int .i64 k], hp => ⟨[ringF (unRing x), .int .i64 k], _, ⟨(ring_eqv hp).1, .refl _, trivial⟩, t100 (unRing x) k _ (by
      unfold G100 T100
      rw [isPts_ptsF, unPts_ptsF, bsel_true]
      exact left_again _ _), .refl _⟩
def preToRing : List F → Bool | [x] => isRing x && shortPtsV (unRing x) | _ => false
def resToRing : List F → F | [x] => ringF (unRing x) | _ => .dflt
theorem okToRing : PureOK Try.prog 102 preToRing resToRing :=
  fn_pure_at (c := bodyOf Try.f102) Try.func102 (by kernel_rfl) (by kernel_rfl) fun xs hp => match xs, hp with
  | [x], hp => by
    simp only [preToRing, Bool.and_eq_true] at hp
    exact ⟨[ringF (unRing x)], _, ⟨(ring_eqv hp.1).1, trivial⟩, t102 (unRing x) (ringF (unRing x)) (by
      unfold G102 T102
      rw [isPts_ptsF, unPts_ptsF, hp.2, decide_eq_true (show (unRing x).length = (unRing x).length from rfl)]
      rfl), .refl _⟩
def preEqRing : List F → Bool | [x, y] => isRing x && isRing y && shortPtsV (unRing x) | _ => false
def resEqRing : List F → F | [x, y] => .bool (samePtsV (unRing x) (unRing y)) | _ => .dflt
theorem okEqRing : PureOK Try.prog 104 preEqRing resEqRing :=
  fn_pure_at (c := bodyOf Try.f104) Try.func104 (by kernel_rfl) (by kernel_rfl) fun xs hp => match xs, hp with
  | [x, y], hp => by
    simp only [preEqRing, Bool.and_eq_true] at hp
    exact ⟨[ringF (unRing x), ringF (unRing y)], _, ⟨(ring_eqv hp.1.1).1, (ring_eqv hp.1.2).1, trivial⟩, t104 (unRing x) (unRing y) (samePtsV (unRing x) (unRing y)) (by
      unfold G104 T104
      rw [isPts_ptsF, unPts_ptsF, isPts_ptsF, unPts_ptsF, hp.2]
      cases samePtsV (unRing x) (unRing y) <;> rfl), .refl _⟩
def envK11 : Env := ((((envK10.add 24 (.pure preSess resSess)).add 26 (.pure preSess resSess)).add 100 (.pure preSzRing resSzRing)).add 102 (.pure preToRing resToRing)).add 104 (.pure preEqRing resEqRing)
theorem envK11_ok : EnvOK Try.prog envK11 := (Env.add_ok (Env.add_ok (Env.add_ok (Env.add_ok (Env.add_ok envK10_ok okSess3.sp) okSessI.sp) okSzRing.sp) okToRing.sp) okEqRing.sp)
end
end Go.Proofs.Ytmambbfnjbdfgaa.R

namespace Go.Proofs.Ytmambbfnjbdfgaa.R
open Go
noncomputable section
set_option linter.unusedVariables false
set_option linter.unusedSimpArgs false
set_option maxRecDepth 100000
/-! ### function 60 -/
def S60_5 (l : List (List Pt)) (s : Int) (i : Int) : St := ⟨[(U.f (ringsF l)), (U.f (F.int .i64 s)), .bad, .bad, .bad, (U.f (F.int .i64 i)), .bad, .bad, .bad, .bad, .bad, .bad, .bad, .bad, .bad, .bad, .bad, .bad, .bad, .bad, .bad, .bad, .bad, .bad, .bad, .bad, .bad], []⟩
def T60_5 {ρ : Type} (ret : (Int) → Option ρ) (c5 : (List (List Pt)) → (Int) → (Int) → Option ρ) (l : List (List Pt)) (s : Int) (i : Int) : Option ρ :=
 (bsel (decide (i < (↑l.length : Int)))
 (bsel (decide (0 ≤ i))
 (bsel (decide (i < (↑l.length : Int)))
 (bsel (isRing (F.agg [ptsF (l.getD i.toNat [])]))
 (bsel (decide (leftV (unRing (F.agg [ptsF (l.getD i.toNat [])])).length s < 0))
 (ret (-1))
 (c5 (l) (leftV (unRing (F.agg [ptsF (l.getD i.toNat [])])).length s) (IntKind.i64.wrap (i + 1))))
 none)
 none)
 none)
 (ret (s)))
def L60_5 : Nat → (List (List Pt)) → (Int) → (Int) → Option (Int)
  | 0, _, _, _ => none
  | k + 1, l, s, i => T60_5 some (L60_5 k) l s i
def T60 {ρ : Type} (ret : (Int) → Option ρ) (c5 : (List (List Pt)) → (Int) → (Int) → Option ρ) (l : List (List Pt)) (lf : Int) : Option ρ :=
 (bsel (decide (IntKind.i64.wrap (lf - (↑l.length : Int)) < 0))
 (ret (-1))
 (c5 (l) (IntKind.i64.wrap (lf - (↑l.length : Int))) (0)))
def G60 (k : Nat) (l : List (List Pt)) (lf : Int) : Option (Int) := T60 some (L60_5 k) l lf
theorem t60_5 : ∀ (k : Nat) (l : List (List Pt)) (s : Int) (i : Int) (r : Int), L60_5 k l s i = some r → Ends Try.prog Try.f60.results.toList (at_ Try.f60 5) (S60_5 l s i) (F.int .i64 r)
  | 0, _, _, _, _, h => nomatch h
  | k + 1, l, s, i, r, h => by
    refine Ends.of_cut tyOK envK11_ok (T := [(5, [0, 1, 5], 1000)]) (n := 200) ?_
    have e : runCut Try.prog (tiOf Try.prog) envK11 [(5, [0, 1, 5], 1000)] 0 Try.f60.results.toList some 200 (at_ Try.f60 5) (S60_5 l s i) = T60_5 (fun r => some (.ret (F.int .i64 r))) (fun l s i => some (.cut (at_ Try.f60 5) (S60_5 l s i))) l s i := by kernel_rfl
    rw [e]
    exact (good_sel h (fun _ h => (good_sel h (fun _ h => (good_sel h (fun _ h => (good_sel h (fun _ h => (good_sel h (fun _ h => good_ret (by cases h; rfl)) (fun _ h => good_cut (t60_5 k _ _ _ r h)))) (fun _ h => nomatch h))) (fun _ h => nomatch h))) (fun _ h => nomatch h))) (fun _ h => good_ret (by cases h; rfl)))
theorem t60 (k : Nat) (l : List (List Pt)) (lf : Int) (r : Int) (h : G60 k l lf = some r) : Ends Try.prog Try.f60.results.toList [.code (bodyOf Try.f60)] (start Try.f60.ntmps ([ringsF l, F.int .i64 lf].map .f)) (F.int .i64 r) := by
  refine Ends.of_run tyOK envK11_ok (T := [(5, [0, 1, 5], 1000)]) (n := 200) ?_
  have e : run Try.prog (tiOf Try.prog) envK11 [(5, [0, 1, 5], 1000)] 0 Try.f60.results.toList some 200 [.code (bodyOf Try.f60)] (start Try.f60.ntmps ([ringsF l, F.int .i64 lf].map .f)) = T60 (fun r => some (.ret (F.int .i64 r))) (fun l s i => some (.cut (at_ Try.f60 5) (S60_5 l s i))) l lf := by kernel_rfl
  rw [e]
  exact (good_sel h (fun _ h => good_ret (by cases h; rfl)) (fun _ h => good_cut (t60_5 k _ _ _ r h)))
def szGo : List (List Pt) → Int → Int
  | [], s => s
  | r :: l, s => bif decide (leftV r.length s < 0) then -1 else szGo l (leftV r.length s)
def szRingsV (l : List (List Pt)) (k : Int) : Int := bif decide (leftV l.length k < 0) then -1 else szGo l (leftV l.length k)
theorem sz_loop {l : List (List Pt)} (hn : l.length ≤ 9223372036854775807) : ∀ (d i k : Nat) (s : Int), i + d = l.length → d + 1 ≤ k → L60_5 k l s i = some (szGo (l.drop i) s)
  | d, i, 0, _, _, hk => by omega
  | 0, i, k + 1, s, hi, hk => by
    rw [L60_5]
    unfold T60_5
    rw [decide_eq_false (show ¬ (i : Int) < l.length by omega), List.drop_eq_nil_of_le (by omega)]
    rfl
  | d + 1, i, k + 1, s, hi, hk => by
    have hlt : i < l.length := by omega
    have hg : l.getD i [] = l[i] := by simp [List.getD, List.getElem?_eq_getElem hlt]
    have wi : IntKind.i64.wrap ((i : Int) + 1) = ((i + 1 : Nat) : Int) := by rw [wrapi (by omega) (by omega)]; omega
    rw [L60_5]
    unfold T60_5
    simp only [decide_eq_true (show (i : Int) < l.length by omega), decide_eq_true (show (0 : Int) ≤ i by omega), Int.toNat_natCast, hg, wi, unRing_agg, isRing_agg, bsel_true, sz_loop hn d (i + 1) k _ (show i + 1 + d = l.length by omega) (show d + 1 ≤ k by omega)]
    rw [List.drop_eq_getElem_cons hlt, szGo]
    cases decide (leftV l[i].length s < 0) <;> rfl
theorem sz_law (l : List (List Pt)) (k : Int) (hn : l.length ≤ 9223372036854775807) : G60 (l.length + 1) l k = some (szRingsV l k) := by
  unfold G60 T60 szRingsV
  have h := sz_loop hn l.length 0 (l.length + 1) (IntKind.i64.wrap (k - (l.length : Int))) (by omega) (by omega)
  unfold leftV
  cases hd : decide (IntKind.i64.wrap (k - (l.length : Int)) < 0) with
  | true => rfl
  | false => rw [cond_false, hd, bsel_false, cond_false]; exact h
def isFewer (l : List (List Pt)) : Bool := decide (l.length ≤ 9223372036854775807)
def preSzRings : List F → Bool | [x, .int .i64 _] => isRings x && isFewer (unRings x) | _ => false
def resSzRings : List F → F | [x, .int .i64 k] => .int .i64 (szRingsV (unRings x) k) | _ => .dflt
theorem okSzRings : PureOK Try.prog 60 preSzRings resSzRings :=
  fn_pure_at (c := bodyOf Try.f60) Try.func60 (by kernel_rfl) (by kernel_rfl) fun xs hp => match xs, hp with
  | [x, .int .i64 k], hp => by
    simp only [preSzRings, Bool.and_eq_true] at hp
    exact ⟨[ringsF (unRings x), .int .i64 k], _, ⟨(rings_eqv hp.1).1, .refl _, trivial⟩, t60 _ _ _ _ (sz_law _ _ (of_decide_eq_true hp.2)), .refl _⟩
/-! ### function 62 -/
def S62_3 (l : List (List Pt)) (n : Nat) (g : Nat → F) (i : Int) : St := ⟨[(U.f (ringsF l)), .bad, .bad, (U.hs 0 n 0 n), (U.f (F.int .i64 i)), .bad, .bad, .bad, .bad, .bad, .bad, .bad, .bad, .bad, .bad, .bad, .bad, .bad, .bad, .bad, .bad, .bad, .bad], [HO.arr 1 n g]⟩
def T62_3 {ρ : Type} (ret : (F) → Option ρ) (c3 : (List (List Pt)) → (Nat) → (Nat → F) → (Int) → Option ρ) (l : List (List Pt)) (n : Nat) (g : Nat → F) (i : Int) : Option ρ :=
 (bsel (decide (i < (↑l.length : Int)))
 (bsel (decide (0 ≤ i))
 (bsel (decide (i < (↑l.length : Int)))
 (bsel (isRing (F.agg [ptsF (l.getD i.toNat [])]) && shortPtsV (unRing (F.agg [ptsF (l.getD i.toNat [])])))
 (bsel (decide (n = n))
 (bsel (decide (0 ≤ i))
 (bsel (decide (i < (↑n : Int)))
 (bsel (decide (n = n))
 (bsel (decide (0 + i.toNat < n))
 (bsel (decide ((g (0 + i.toNat)).cells.length = 1))
 (bsel ((isAggF (g (0 + i.toNat)) || true) && true)
 (c3 (l) (n) (fun j ↦ if j = 0 + i.toNat then F.agg [ptsF (unRing (F.agg [ptsF (l.getD i.toNat [])]))] else g j) (IntKind.i64.wrap (i + 1)))
 none)
 none)
 none)
 none)
 none)
 none)
 none)
 none)
 none)
 none)
 (bsel (decide (n = n))
 (ret (F.sl n g))
 none))
def L62_3 : Nat → (List (List Pt)) → (Nat) → (Nat → F) → (Int) → Option (F)
  | 0, _, _, _, _ => none
  | k + 1, l, n, g, i => T62_3 some (L62_3 k) l n g i
def T62 {ρ : Type} (ret : (F) → Option ρ) (c3 : (List (List Pt)) → (Nat) → (Nat → F) → (Int) → Option ρ) (l : List (List Pt)) : Option ρ :=
 (bsel (decide ((↑l.length : Int) ≤ (↑l.length : Int)))
 (bsel (decide ((↑l.length : Int) * (((24 : Nat) : Int) + 1) ≤ (↑limit : Int)))
 (c3 (l) ((↑l.length : Int).toNat) (fun x ↦ F.agg [F.sl 0 fun x ↦ F.bool false]) (0))
 none)
 none)
def G62 (k : Nat) (l : List (List Pt)) : Option (F) := T62 some (L62_3 k) l
theorem t62_3 : ∀ (k : Nat) (l : List (List Pt)) (n : Nat) (g : Nat → F) (i : Int) (r : F), L62_3 k l n g i = some r → Ends Try.prog Try.f62.results.toList (at_ Try.f62 3) (S62_3 l n g i) (r)
  | 0, _, _, _, _, _, h => nomatch h
  | k + 1, l, n, g, i, r, h => by
    refine Ends.of_cut tyOK envK11_ok (T := [(3, [0, 3, 4], 1000)]) (n := 200) ?_
    have e : runCut Try.prog (tiOf Try.prog) envK11 [(3, [0, 3, 4], 1000)] 0 Try.f62.results.toList some 200 (at_ Try.f62 3) (S62_3 l n g i) = T62_3 (fun r => some (.ret (r))) (fun l n g i => some (.cut (at_ Try.f62 3) (S62_3 l n g i))) l n g i := by kernel_rfl
    rw [e]
    exact (good_sel h (fun _ h => (good_sel h (fun _ h => (good_sel h (fun _ h => (good_sel h (fun _ h => (good_sel h (fun _ h => (good_sel h (fun _ h => (good_sel h (fun _ h => (good_sel h (fun _ h => (good_sel h (fun _ h => (good_sel h (fun _ h => (good_sel h (fun _ h => good_cut (t62_3 k _ _ _ _ r h)) (fun _ h => nomatch h))) (fun _ h => nomatch h))) (fun _ h => nomatch h))) (fun _ h => nomatch h))) (fun _ h => nomatch h))) (fun _ h => nomatch h))) (fun _ h => nomatch h))) (fun _ h => nomatch h))) (fun _ h => nomatch h))) (fun _ h => nomatch h))) (fun _ h => (good_sel h (fun _ h => good_ret (by cases h; rfl)) (fun _ h => nomatch h))))
theorem t62 (k : Nat) (l : List (List Pt)) (r : F) (h : G62 k l = some r) : Ends Try.prog Try.f62.results.toList [.code (bodyOf Try.f62)] (start Try.f62.ntmps ([ringsF l].map .f)) (r) := by
  refine Ends.of_run tyOK envK11_ok (T := [(3, [0, 3, 4], 1000)]) (n := 200) ?_
  have e : run Try.prog (tiOf Try.prog) envK11 [(3, [0, 3, 4], 1000)] 0 Try.f62.results.toList some 200 [.code (bodyOf Try.f62)] (start Try.f62.ntmps ([ringsF l].map .f)) = T62 (fun r => some (.ret (r))) (fun l n g i => some (.cut (at_ Try.f62 3) (S62_3 l n g i))) l := by kernel_rfl
  rw [e]
  exact (good_sel h (fun _ h => (good_sel h (fun _ h => good_cut (t62_3 k _ _ _ _ r h)) (fun _ h => nomatch h))) (fun _ h => nomatch h))
def shortRsV (l : List (List Pt)) : Bool := decide (l.length ≤ 1048576) && l.all shortPtsV
theorem toRs_loop {l : List (List Pt)} (hs : l.length ≤ 1048576) (ha : ∀ r ∈ l, shortPtsV r = true) : ∀ (d i k : Nat) (g : Nat → F), i + d = l.length → d + 1 ≤ k → (∀ j, j < i → g j = ringF (l.getD j [])) → (∀ j, i ≤ j → g j = F.agg [F.sl 0 fun x ↦ F.bool false]) →
    ∃ g', L62_3 k l l.length g i = some (.sl l.length g') ∧ ∀ j, j < l.length → g' j = ringF (l.getD j [])
  | d, i, 0, _, _, hk, _, _ => by omega
  | 0, i, k + 1, g, hi, hk, hg, hz => by
    refine ⟨g, ?_, fun j hj => hg j (by omega)⟩
    rw [L62_3]
    unfold T62_3
    rw [decide_eq_false (show ¬ (i : Int) < l.length by omega), bsel_false, decide_eq_true (show l.length = l.length from rfl)]
    rfl
  | d + 1, i, k + 1, g, hi, hk, hg, hz => by
    have hlt : i < l.length := by omega
    have wi : IntKind.i64.wrap ((i : Int) + 1) = ((i + 1 : Nat) : Int) := by rw [wrapi (by omega) (by omega)]; omega
    have hr := ha _ (getD_in (d := []) hlt)
    have hc : (F.agg [F.sl 0 fun x ↦ F.bool false]).cells.length = 1 := rfl
    rw [L62_3]
    unfold T62_3
    simp only [decide_eq_true (show (i : Int) < l.length by omega), decide_eq_true (show (0 : Int) ≤ i by omega), decide_eq_true hlt, Int.toNat_natCast, Nat.zero_add, hz i (Nat.le_refl _), hc, decide_true, unRing_agg, isRing_agg, hr, wi, Bool.or_true, Bool.and_self, bsel_true]
    refine toRs_loop hs ha d (i + 1) k _ (by omega) (by omega) (fun j hj => ?_) (fun j hj => ?_)
    · by_cases h : j = i
      · subst h; rw [if_pos rfl]; rfl
      · rw [if_neg h, hg j (by omega)]
    · rw [if_neg (by omega), hz j (by omega)]
def preToRings : List F → Bool | [x] => isRings x && shortRsV (unRings x) | _ => false
def resToRings : List F → F | [x] => ringsF (unRings x) | _ => .dflt
theorem okToRings : PureOK Try.prog 62 preToRings resToRings :=
  fn_pure_at (c := bodyOf Try.f62) Try.func62 (by kernel_rfl) (by kernel_rfl) fun xs hp => match xs, hp with
  | [x], hp => by
    simp only [preToRings, shortRsV, Bool.and_eq_true, decide_eq_true_eq, List.all_eq_true] at hp
    obtain ⟨h1, h2, h3⟩ := hp
    obtain ⟨g, e, hg⟩ := toRs_loop h2 h3 (unRings x).length 0 ((unRings x).length + 1) (fun x ↦ F.agg [F.sl 0 fun x ↦ F.bool false]) (by omega) (by omega) (fun j hj => by omega) (fun j hj => rfl)
    refine ⟨[ringsF (unRings x)], _, ⟨(rings_eqv h1).1, trivial⟩, t62 ((unRings x).length + 1) _ (.sl (unRings x).length g) (by
      have c3 : decide ((((unRings x).length : Nat) : Int) * (((24 : Nat) : Int) + 1) ≤ (limit : Int)) = true := by rw [limit_eq]; exact decide_eq_true (by omega)
      unfold G62 T62
      simp only [c3, Int.le_refl, decide_true, bsel_true, Int.toNat_natCast]
      exact e), ?_⟩
    show FLe _ (ringsF (unRings x))
    unfold ringsF slF
    exact FLe.sl fun j hj => hg j hj
/-! ### function 64 -/
def S64_4 (l : List (List Pt)) (m : List (List Pt)) (i : Int) : St := ⟨[(U.f (ringsF l)), (U.f (ringsF m)), .bad, .bad, .bad, (U.f (F.int .i64 i)), .bad, .bad, .bad, .bad, .bad, .bad, .bad, .bad, .bad, .bad, .bad, .bad, .bad, .bad, .bad, .bad, .bad, .bad, .bad, .bad, .bad], []⟩
def T64_4 {ρ : Type} (ret : (Bool) → Option ρ) (c4 : (List (List Pt)) → (List (List Pt)) → (Int) → Option ρ) (l : List (List Pt)) (m : List (List Pt)) (i : Int) : Option ρ :=
 (bsel (decide (i < (↑l.length : Int)))
 (bsel (decide (0 ≤ i))
 (bsel (decide (i < (↑l.length : Int)))
 (bsel (decide (0 ≤ i))
 (bsel (decide (i < (↑m.length : Int)))
 (bsel (isRing (F.agg [ptsF (l.getD i.toNat [])]) && isRing (F.agg [ptsF (m.getD i.toNat [])]) && shortPtsV (unRing (F.agg [ptsF (l.getD i.toNat [])])))
 (bsel (!samePtsV (unRing (F.agg [ptsF (l.getD i.toNat [])])) (unRing (F.agg [ptsF (m.getD i.toNat [])])))
 (ret (false))
 (c4 (l) (m) (IntKind.i64.wrap (i + 1))))
 none)
 none)
 none)
 none)
 none)
 (ret (true)))
def L64_4 : Nat → (List (List Pt)) → (List (List Pt)) → (Int) → Option (Bool)
  | 0, _, _, _ => none
  | k + 1, l, m, i => T64_4 some (L64_4 k) l m i
def T64 {ρ : Type} (ret : (Bool) → Option ρ) (c4 : (List (List Pt)) → (List (List Pt)) → (Int) → Option ρ) (l : List (List Pt)) (m : List (List Pt)) : Option ρ :=
 (bsel ((↑l.length : Int) != (↑m.length : Int))
 (ret (false))
 (c4 (l) (m) (0)))
def G64 (k : Nat) (l : List (List Pt)) (m : List (List Pt)) : Option (Bool) := T64 some (L64_4 k) l m
theorem t64_4 : ∀ (k : Nat) (l : List (List Pt)) (m : List (List Pt)) (i : Int) (b : Bool), L64_4 k l m i = some b → Ends Try.prog Try.f64.results.toList (at_ Try.f64 4) (S64_4 l m i) (F.bool b)
  | 0, _, _, _, _, h => nomatch h
  | k + 1, l, m, i, b, h => by
    refine Ends.of_cut tyOK envK11_ok (T := [(4, [0, 1, 5], 1000)]) (n := 200) ?_
    have e : runCut Try.prog (tiOf Try.prog) envK11 [(4, [0, 1, 5], 1000)] 0 Try.f64.results.toList some 200 (at_ Try.f64 4) (S64_4 l m i) = T64_4 (fun b => some (.ret (F.bool b))) (fun l m i => some (.cut (at_ Try.f64 4) (S64_4 l m i))) l m i := by kernel_rfl
    rw [e]
    exact (good_sel h (fun _ h => (good_sel h (fun _ h => (good_sel h (fun _ h => (good_sel h (fun _ h => (good_sel h (fun _ h => (good_sel h (fun _ h => (good_sel h (fun _ h => good_ret (by cases h; rfl)) (fun _ h => good_cut (t64_4 k _ _ _ b h)))) (fun _ h => nomatch h))) (fun _ h => nomatch h))) (fun _ h => nomatch h))) (fun _ h => nomatch h))) (fun _ h => nomatch h))) (fun _ h => good_ret (by cases h; rfl)))
theorem t64 (k : Nat) (l : List (List Pt)) (m : List (List Pt)) (b : Bool) (h : G64 k l m = some b) : Ends Try.prog Try.f64.results.toList [.code (bodyOf Try.f64)] (start Try.f64.ntmps ([ringsF l, ringsF m].map .f)) (F.bool b) := by
  refine Ends.of_run tyOK envK11_ok (T := [(4, [0, 1, 5], 1000)]) (n := 200) ?_
  have e : run Try.prog (tiOf Try.prog) envK11 [(4, [0, 1, 5], 1000)] 0 Try.f64.results.toList some 200 [.code (bodyOf Try.f64)] (start Try.f64.ntmps ([ringsF l, ringsF m].map .f)) = T64 (fun b => some (.ret (F.bool b))) (fun l m i => some (.cut (at_ Try.f64 4) (S64_4 l m i))) l m := by kernel_rfl
  rw [e]
  exact (good_sel h (fun _ h => good_ret (by cases h; rfl)) (fun _ h => good_cut (t64_4 k _ _ _ b h)))
def sameRsV : List (List Pt) → List (List Pt) → Bool
  | [], [] => true
  | a :: a', b :: b' => samePtsV a b && sameRsV a' b'
  | _, _ => false
theorem sameRs_ne : ∀ (a b : List (List Pt)), a.length ≠ b.length → sameRsV a b = false
  | [], [], h => absurd rfl h
  | [], _ :: _, _ => rfl
  | _ :: _, [], _ => rfl
  | a :: a', b :: b', h => by rw [sameRsV, sameRs_ne a' b' (by simpa using h), Bool.and_false]
theorem sameRs_refl : ∀ a : List (List Pt), sameRsV a a = true
  | [] => rfl
  | t :: a => by rw [sameRsV, samePts_refl, sameRs_refl a]; rfl
theorem eqRs_loop {a b : List (List Pt)} (hl : a.length = b.length) (hs : a.length ≤ 1048576) (ha : ∀ r ∈ a, shortPtsV r = true) : ∀ (d i k : Nat), i + d = a.length → d + 1 ≤ k → L64_4 k a b i = some (sameRsV (a.drop i) (b.drop i))
  | d, i, 0, _, hk => by omega
  | 0, i, k + 1, hi, hk => by
    rw [L64_4]
    unfold T64_4
    rw [decide_eq_false (show ¬ (i : Int) < a.length by omega), List.drop_eq_nil_of_le (by omega), List.drop_eq_nil_of_le (by omega)]
    rfl
  | d + 1, i, k + 1, hi, hk => by
    have hlt : i < a.length := by omega
    have hlb : i < b.length := by omega
    have wi : IntKind.i64.wrap ((i : Int) + 1) = ((i + 1 : Nat) : Int) := by rw [wrapi (by omega) (by omega)]; omega
    have h1 : a.getD i [] = a[i] := by simp [List.getD, List.getElem?_eq_getElem hlt]
    have h2 : b.getD i [] = b[i] := by simp [List.getD, List.getElem?_eq_getElem hlb]
    rw [L64_4]
    unfold T64_4
    simp only [decide_eq_true (show (i : Int) < a.length by omega), decide_eq_true (show (0 : Int) ≤ i by omega), decide_eq_true (show (i : Int) < b.length by omega), Int.toNat_natCast, unRing_agg, isRing_agg, h1, h2, ha _ (List.getElem_mem hlt), wi, Bool.and_self, bsel_true, eqRs_loop hl hs ha d (i + 1) k (show i + 1 + d = a.length by omega) (show d + 1 ≤ k by omega)]
    rw [List.drop_eq_getElem_cons hlt, List.drop_eq_getElem_cons hlb, sameRsV]
    cases samePtsV a[i] b[i] <;> rfl
def preEqRings : List F → Bool | [x, y] => isRings x && isRings y && shortRsV (unRings x) | _ => false
def resEqRings : List F → F | [x, y] => .bool (sameRsV (unRings x) (unRings y)) | _ => .dflt
theorem okEqRings : PureOK Try.prog 64 preEqRings resEqRings :=
  fn_pure_at (c := bodyOf Try.f64) Try.func64 (by kernel_rfl) (by kernel_rfl) fun xs hp => match xs, hp with
  | [x, y], hp => by
    simp only [preEqRings, shortRsV, Bool.and_eq_true, decide_eq_true_eq, List.all_eq_true] at hp
    obtain ⟨⟨h1, h2⟩, h3, h4⟩ := hp
    exact ⟨[ringsF (unRings x), ringsF (unRings y)], _, ⟨(rings_eqv h1).1, (rings_eqv h2).1, trivial⟩, t64 ((unRings x).length + 1) _ _ (sameRsV (unRings x) (unRings y)) (by
      unfold G64 T64
      rw [bne]
      cases h : (((unRings x).length : Int) == ((unRings y).length : Int)) with
      | true => exact eqRs_loop (by have := eq_of_beq h; omega) h3 h4 (unRings x).length 0 _ (by omega) (by omega)
      | false => rw [sameRs_ne _ _ fun e => by simp [e] at h]; rfl), .refl _⟩
def envK12 : Env := ((envK11.add 60 (.pure preSzRings resSzRings)).add 62 (.pure preToRings resToRings)).add 64 (.pure preEqRings resEqRings)
theorem envK12_ok : EnvOK Try.prog envK12 := (Env.add_ok (Env.add_ok (Env.add_ok envK11_ok okSzRings.sp) okToRings.sp) okEqRings.sp)
end
end Go.Proofs.Ytmambbfnjbdfgaa.R

namespace Go.Proofs.Ytmambbfnjbdfgaa.R
open Go
noncomputable section
set_option linter.unusedVariables false
set_option linter.unusedSimpArgs false
set_option maxRecDepth 100000
theorem isSess_agg (l m : List (List Pt)) : isSess (F.agg [ringsF l, ringsF m]) = true := by
  show (isRings (ringsF l) && isRings (ringsF m)) = true
  rw [isRings_ringsF, isRings_ringsF]
  rfl
theorem unSessA_agg (l m : List (List Pt)) : unSessA (F.agg [ringsF l, ringsF m]) = l := unRings_ringsF l
theorem unSessB_agg (l m : List (List Pt)) : unSessB (F.agg [ringsF l, ringsF m]) = m := unRings_ringsF m
/-! ### function 23 -/
def T23 {ρ : Type} (ret : (Int) → Option ρ) (l : List (List Pt)) (m : List (List Pt)) (lf : Int) : Option ρ :=
 (bsel (isRings (ringsF l) && isFewer (unRings (ringsF l)))
 (bsel (decide (szRingsV (unRings (ringsF l)) lf < 0))
 (ret (-1))
 (bsel (isRings (ringsF m) && isFewer (unRings (ringsF m)))
 (bsel (decide (szRingsV (unRings (ringsF m)) (szRingsV (unRings (ringsF l)) lf) < 0))
 (ret (-1))
 (ret (szRingsV (unRings (ringsF m)) (szRingsV (unRings (ringsF l)) lf))))
 none))
 none)
def G23 (l : List (List Pt)) (m : List (List Pt)) (lf : Int) : Option (Int) := T23 some l m lf
theorem t23 (l : List (List Pt)) (m : List (List Pt)) (lf : Int) (r : Int) (h : G23 l m lf = some r) : Ends Try.prog Try.f23.results.toList [.code (bodyOf Try.f23)] (start Try.f23.ntmps ([F.agg [ringsF l, ringsF m], F.int .i64 lf].map .f)) (F.int .i64 r) := by
  refine Ends.of_run tyOK envK12_ok (T := []) (n := 200) ?_
  have e : run Try.prog (tiOf Try.prog) envK12 [] 0 Try.f23.results.toList some 200 [.code (bodyOf Try.f23)] (start Try.f23.ntmps ([F.agg [ringsF l, ringsF m], F.int .i64 lf].map .f)) = T23 (fun r => some (.ret (F.int .i64 r))) l m lf := by kernel_rfl
  rw [e]
  exact (good_sel h (fun _ h => (good_sel h (fun _ h => good_ret (by cases h; rfl)) (fun _ h => (good_sel h (fun _ h => (good_sel h (fun _ h => good_ret (by cases h; rfl)) (fun _ h => good_ret (by cases h; rfl)))) (fun _ h => nomatch h))))) (fun _ h => nomatch h))
/-! ### function 25 -/
def T25 {ρ : Type} (ret : (F) → Option ρ) (l : List (List Pt)) (m : List (List Pt)) : Option ρ :=
 (bsel (isRings (ringsF l) && shortRsV (unRings (ringsF l)))
 (bsel (isRings (ringsF m) && shortRsV (unRings (ringsF m)))
 (ret (F.agg [ringsF (unRings (ringsF l)), ringsF (unRings (ringsF m))]))
 none)
 none)
def G25 (l : List (List Pt)) (m : List (List Pt)) : Option (F) := T25 some l m
theorem t25 (l : List (List Pt)) (m : List (List Pt)) (r : F) (h : G25 l m = some r) : Ends Try.prog Try.f25.results.toList [.code (bodyOf Try.f25)] (start Try.f25.ntmps ([F.agg [ringsF l, ringsF m]].map .f)) (r) := by
  refine Ends.of_run tyOK envK12_ok (T := []) (n := 200) ?_
  have e : run Try.prog (tiOf Try.prog) envK12 [] 0 Try.f25.results.toList some 200 [.code (bodyOf Try.f25)] (start Try.f25.ntmps ([F.agg [ringsF l, ringsF m]].map .f)) = T25 (fun r => some (.ret (r))) l m := by kernel_rfl
  rw [e]
  exact (good_sel h (fun _ h => (good_sel h (fun _ h => good_ret (by cases h; rfl)) (fun _ h => nomatch h))) (fun _ h => nomatch h))
/-! ### function 27 -/
def T27 {ρ : Type} (ret : (Bool) → Option ρ) (l : List (List Pt)) (m : List (List Pt)) (p : List (List Pt)) (q : List (List Pt)) : Option ρ :=
 (bsel (isRings (ringsF l) && isRings (ringsF p) && shortRsV (unRings (ringsF l)))
 (bsel (!sameRsV (unRings (ringsF l)) (unRings (ringsF p)))
 (ret (false))
 (bsel (isRings (ringsF m) && isRings (ringsF q) && shortRsV (unRings (ringsF m)))
 (bsel (!sameRsV (unRings (ringsF m)) (unRings (ringsF q)))
 (ret (false))
 (ret (true)))
 none))
 none)
def G27 (l : List (List Pt)) (m : List (List Pt)) (p : List (List Pt)) (q : List (List Pt)) : Option (Bool) := T27 some l m p q
theorem t27 (l : List (List Pt)) (m : List (List Pt)) (p : List (List Pt)) (q : List (List Pt)) (b : Bool) (h : G27 l m p q = some b) : Ends Try.prog Try.f27.results.toList [.code (bodyOf Try.f27)] (start Try.f27.ntmps ([F.agg [ringsF l, ringsF m], F.agg [ringsF p, ringsF q]].map .f)) (F.bool b) := by
  refine Ends.of_run tyOK envK12_ok (T := []) (n := 200) ?_
  have e : run Try.prog (tiOf Try.prog) envK12 [] 0 Try.f27.results.toList some 200 [.code (bodyOf Try.f27)] (start Try.f27.ntmps ([F.agg [ringsF l, ringsF m], F.agg [ringsF p, ringsF q]].map .f)) = T27 (fun b => some (.ret (F.bool b))) l m p q := by kernel_rfl
  rw [e]
  exact (good_sel h (fun _ h => (good_sel h (fun _ h => good_ret (by cases h; rfl)) (fun _ h => (good_sel h (fun _ h => (good_sel h (fun _ h => good_ret (by cases h; rfl)) (fun _ h => good_ret (by cases h; rfl)))) (fun _ h => nomatch h))))) (fun _ h => nomatch h))
def szSessV (l m : List (List Pt)) (k : Int) : Int := bif decide (szRingsV l k < 0) then -1 else bif decide (szRingsV m (szRingsV l k) < 0) then -1 else szRingsV m (szRingsV l k)
def preSzSess : List F → Bool | [x, .int .i64 _] => isSess x && (isFewer (unSessA x) && isFewer (unSessB x)) | _ => false
def resSzSess : List F → F | [x, .int .i64 k] => .int .i64 (szSessV (unSessA x) (unSessB x) k) | _ => .dflt
theorem okSzSess : PureOK Try.prog 23 preSzSess resSzSess :=
  fn_pure_at (c := bodyOf Try.f23) Try.func23 (by kernel_rfl) (by kernel_rfl) fun xs hp => match xs, hp with
  | [x, .int .i64 k], hp => by
    simp only [preSzSess, Bool.and_eq_true] at hp
    exact ⟨[.agg [ringsF (unSessA x), ringsF (unSessB x)], .int .i64 k], _, ⟨(sess_eqv hp.1).1, .refl _, trivial⟩, t23 (unSessA x) (unSessB x) k (szSessV (unSessA x) (unSessB x) k) (by
      unfold G23 T23 szSessV
      rw [isRings_ringsF, unRings_ringsF, isRings_ringsF, unRings_ringsF, hp.2.1, hp.2.2]
      cases decide (szRingsV (unSessA x) k < 0) <;> cases decide (szRingsV (unSessB x) (szRingsV (unSessA x) k) < 0) <;> rfl), .refl _⟩
def preToSess : List F → Bool | [x] => isSess x && (shortRsV (unSessA x) && shortRsV (unSessB x)) | _ => false
def resToSess : List F → F | [x] => .agg [ringsF (unSessA x), ringsF (unSessB x)] | _ => .dflt
theorem okToSess : PureOK Try.prog 25 preToSess resToSess :=
  fn_pure_at (c := bodyOf Try.f25) Try.func25 (by kernel_rfl) (by kernel_rfl) fun xs hp => match xs, hp with
  | [x], hp => by
    simp only [preToSess, Bool.and_eq_true] at hp
    exact ⟨[.agg [ringsF (unSessA x), ringsF (unSessB x)]], _, ⟨(sess_eqv hp.1).1, trivial⟩, t25 (unSessA x) (unSessB x) (.agg [ringsF (unSessA x), ringsF (unSessB x)]) (by
      unfold G25 T25
      rw [isRings_ringsF, unRings_ringsF, isRings_ringsF, unRings_ringsF, hp.2.1, hp.2.2]
      rfl), .refl _⟩
def preEqSess : List F → Bool | [x, y] => isSess x && isSess y && (shortRsV (unSessA x) && shortRsV (unSessB x)) | _ => false
def sameSV (l m p q : List (List Pt)) : Bool := sameRsV l p && sameRsV m q
def resEqSess : List F → F | [x, y] => .bool (sameSV (unSessA x) (unSessB x) (unSessA y) (unSessB y)) | _ => .dflt
theorem okEqSess : PureOK Try.prog 27 preEqSess resEqSess :=
  fn_pure_at (c := bodyOf Try.f27) Try.func27 (by kernel_rfl) (by kernel_rfl) fun xs hp => match xs, hp with
  | [x, y], hp => by
    simp only [preEqSess, Bool.and_eq_true] at hp
    exact ⟨[.agg [ringsF (unSessA x), ringsF (unSessB x)], .agg [ringsF (unSessA y), ringsF (unSessB y)]], _, ⟨(sess_eqv hp.1.1).1, (sess_eqv hp.1.2).1, trivial⟩, t27 (unSessA x) (unSessB x) (unSessA y) (unSessB y) (sameSV (unSessA x) (unSessB x) (unSessA y) (unSessB y)) (by
      unfold G27 T27 sameSV
      simp only [isRings_ringsF, unRings_ringsF, hp.2.1, hp.2.2, Bool.and_self, bsel_true]
      cases sameRsV (unSessA x) (unSessA y) <;> cases sameRsV (unSessB x) (unSessB y) <;> rfl), .refl _⟩
/-! What is sized is short. -/
theorem left_val {n : Nat} {k : Int} (hk : 0 ≤ k ∧ k ≤ 1048576) (hn : n ≤ 9223372036854775807) (h : ¬ leftV n k < 0) : (n : Int) ≤ k ∧ leftV n k = k - (n : Int) := by
  unfold leftV at h ⊢
  rw [wrapi (x := k - n) (by omega) (by omega)] at h ⊢
  by_cases hc : k - (n : Int) < 0
  · rw [decide_eq_true hc] at h; simp at h
  · rw [decide_eq_false hc, cond_false]; omega
theorem szGo_short : ∀ (l : List (List Pt)) (s : Int), (0 ≤ s ∧ s ≤ 1048576) → (∀ r ∈ l, r.length ≤ 9223372036854775807) → ¬ szGo l s < 0 → (∀ r ∈ l, shortPtsV r = true) ∧ 0 ≤ szGo l s ∧ szGo l s ≤ s
  | [], s, hs, _, h => ⟨fun r hr => absurd hr (by simp), hs.1, Int.le_refl _⟩
  | r :: l, s, hs, hb, h => by
    unfold szGo at h ⊢
    by_cases hc : leftV r.length s < 0
    · rw [decide_eq_true hc] at h; simp at h
    · rw [decide_eq_false hc, cond_false] at h ⊢
      obtain ⟨h1, h2⟩ := left_val hs (hb r (by simp)) hc
      obtain ⟨h3, h4, h5⟩ := szGo_short l (leftV r.length s) (by omega) (fun r hr => hb r (by simp [hr])) h
      refine ⟨fun p hp => ?_, h4, by omega⟩
      rcases List.mem_cons.1 hp with rfl | hp
      · exact decide_eq_true (by omega)
      · exact h3 p hp
theorem szRings_short {l : List (List Pt)} {k : Int} (hk : 0 ≤ k ∧ k ≤ 1048576) (hn : l.length ≤ 9223372036854775807) (hb : ∀ r ∈ l, r.length ≤ 9223372036854775807) (h : ¬ szRingsV l k < 0) : shortRsV l = true ∧ 0 ≤ szRingsV l k ∧ szRingsV l k ≤ k := by
  unfold szRingsV at h ⊢
  by_cases hc : leftV l.length k < 0
  · rw [decide_eq_true hc] at h; simp at h
  · rw [decide_eq_false hc, cond_false] at h ⊢
    obtain ⟨h1, h2⟩ := left_val hk hn hc
    obtain ⟨h3, h4, h5⟩ := szGo_short l (leftV l.length k) (by omega) hb h
    refine ⟨?_, h4, by omega⟩
    unfold shortRsV
    rw [Bool.and_eq_true, List.all_eq_true]
    exact ⟨decide_eq_true (by omega), h3⟩
theorem szSess_short {l m : List (List Pt)} (hl : l.length ≤ 9223372036854775807) (hm : m.length ≤ 9223372036854775807) (hbl : ∀ r ∈ l, r.length ≤ 9223372036854775807) (hbm : ∀ r ∈ m, r.length ≤ 9223372036854775807) (h : ¬ szSessV l m 1048576 < 0) : shortRsV l = true ∧ shortRsV m = true := by
  unfold szSessV at h
  by_cases hc : szRingsV l 1048576 < 0
  · rw [decide_eq_true hc] at h; simp at h
  · rw [decide_eq_false hc, cond_false] at h
    obtain ⟨h1, h2, h3⟩ := szRings_short (by omega) hl hbl hc
    by_cases hd : szRingsV m (szRingsV l 1048576) < 0
    · rw [decide_eq_true hd] at h; simp at h
    · exact ⟨h1, (szRings_short (by omega) hm hbm hd).1⟩
def envK13 : Env := ((envK12.add 23 (.pure preSzSess resSzSess)).add 25 (.pure preToSess resToSess)).add 27 (.pure preEqSess resEqSess)
theorem envK13_ok : EnvOK Try.prog envK13 := (Env.add_ok (Env.add_ok (Env.add_ok envK12_ok okSzSess.sp) okToSess.sp) okEqSess.sp)
end
end Go.Proofs.Ytmambbfnjbdfgaa.R

namespace Go.Proofs.Ytmambbfnjbdfgaa.R
open Go Go.ChangeShapes Go.WideShapes Go.RowKit
set_option linter.unusedVariables false
set_option linter.unusedSimpArgs false

inductive Sh where
  | bool
  | int (k : IntKind)
  | str
  | sl (ag : Bool) (cs : List Sh)

mutual
def fitC : Sh → F → Bool
  | .bool, .bool _ => true
  | .int k, .int k' n => decide (k' = k) && (Lit.int k n).wf
  | .str, .str s => decide (s.size ≤ maxLen)
  | .sl ag cs, .sl n g => decide (n ≤ maxLen) && (List.range n).all fun i => (fitL cs (g i).cells && (isAggF (g i) == ag))
  | _, _ => false
def fitL : List Sh → List F → Bool
  | [], [] => true
  | s :: ss, x :: xs => fitC s x && fitL ss xs
  | _, _ => false
end

def aggT (P : Program) (t : TypeId) : Bool := match P.underlying t with
  | some (.struct _) => true
  | some (.array _ _) => true
  | _ => false
def shFs (P : Program) (S : TypeId → Option (List Sh)) : Nat → List Field → Option (List Sh)
  | _, [] => some []
  | off, f :: fs => if f.offset = off then match S f.type with
      | some l => if P.cellsOf f.type = l.length then match shFs P S (off + l.length) fs with
          | some ls => some (l ++ ls)
          | none => none
        else none
      | none => none
    else none
def shOf (P : Program) : Nat → TypeId → Option (List Sh)
  | 0, _ => none
  | n + 1, t => match P.underlying t with
    | some .bool => some [.bool]
    | some (.int k) => some [.int k]
    | some .string => some [.str]
    | some (.slice e) => match shOf P n e with
      | some l => if P.cellsOf e = l.length ∧ (aggT P e = true ∨ l.length = 1) ∧ l.length ≠ 0 then some [.sl (aggT P e) l] else none
      | none => none
    | some (.struct fs) => match shFs P (shOf P n) 0 fs.toList with
      | some l => if P.cellsOf t = l.length then some l else none
      | none => none
    | _ => none

theorem fit_int {x : F} (h : fitC (.int .i64) x = true) : ∃ n, x = .int .i64 n := by
  cases x <;> simp_all [fitC]
theorem fit_nil {fs : List F} (h : fitL [] fs = true) : fs = [] := by
  cases fs <;> simp_all [fitL]
theorem fit_cons {s : Sh} {l : List Sh} {fs : List F} (h : fitL (s :: l) fs = true) : ∃ x gs, fs = x :: gs ∧ fitC s x = true ∧ fitL l gs = true := by
  cases fs with
  | nil => simp [fitL] at h
  | cons x gs => simp only [fitL, Bool.and_eq_true] at h; exact ⟨x, gs, rfl, h.1, h.2⟩
theorem fit_sl {ag : Bool} {cs : List Sh} {x : F} (h : fitC (.sl ag cs) x = true) : ∃ n g, x = .sl n g ∧ n ≤ maxLen ∧ ∀ i, i < n → fitL cs (g i).cells = true ∧ isAggF (g i) = ag := by
  cases x with
  | sl n g =>
    simp only [fitC, Bool.and_eq_true, decide_eq_true_eq, List.all_eq_true, List.mem_range, beq_iff_eq] at h
    exact ⟨n, g, rfl, h.1, h.2⟩
  | _ => simp [fitC] at h
theorem agg_cells {x : F} (h : isAggF x = true) : x = .agg x.cells := by cases x <;> simp_all [isAggF, F.cells]
theorem fitC_cell {s : Sh} {x : F} (h : fitC s x = true) : cellF x = true ∧ isAggF x = false := by
  cases s <;> cases x <;> simp_all [fitC, cellF, isAggF]
theorem fitL_len : ∀ (l : List Sh) (fs : List F), fitL l fs = true → fs.length = l.length
  | [], [], _ => rfl
  | [], _ :: _, h => by simp [fitL] at h
  | _ :: _, [], h => by simp [fitL] at h
  | s :: l, x :: fs, h => by
    simp only [fitL, Bool.and_eq_true] at h
    simp [fitL_len l fs h.2]
theorem fitL_get : ∀ (l : List Sh) (fs : List F), fitL l fs = true → ∀ (j : Nat) (u : F), fs[j]? = some u → ∃ s, l[j]? = some s ∧ fitC s u = true
  | [], [], _, j, u, hj => by simp at hj
  | [], _ :: _, h, _, _, _ => by simp [fitL] at h
  | _ :: _, [], h, _, _, _ => by simp [fitL] at h
  | s :: l, x :: fs, h, j, u, hj => by
    simp only [fitL, Bool.and_eq_true] at h
    cases j with
    | zero => simp at hj; subst hj; exact ⟨s, rfl, h.1⟩
    | succ j => simp at hj; simpa using fitL_get l fs h.2 j u hj
theorem fitL_append : ∀ (l l' : List Sh) (fs fs' : List F), fitL l fs = true → fitL l' fs' = true → fitL (l ++ l') (fs ++ fs') = true
  | [], l', [], fs', _, h' => h'
  | [], _, _ :: _, _, h, _ => by simp [fitL] at h
  | _ :: _, _, [], _, h, _ => by simp [fitL] at h
  | s :: l, l', x :: fs, fs', h, h' => by
    simp only [fitL, Bool.and_eq_true] at h
    simp only [List.cons_append, fitL, Bool.and_eq_true]
    exact ⟨h.1, fitL_append l l' fs fs' h.2 h'⟩

section
variable {H : Type} {enc : TypeId × Value → H} {P : Program} {W : World} {base : Nat}

theorem mk_cells {ag : Bool} {l : List Sh} {fs : List F} (h : fitL l fs = true) (hl : ag = true ∨ l.length = 1) : (mkF ag fs).cells = fs ∧ isAggF (mkF ag fs) = ag := by
  cases ag with
  | true => exact ⟨rfl, rfl⟩
  | false =>
    have hl : l.length = 1 := by simpa using hl
    have := fitL_len l fs h
    match fs, this with
    | [x], _ =>
      obtain ⟨s, _, hs⟩ := fitL_get l [x] h 0 x rfl
      obtain ⟨h1, h2⟩ := fitC_cell hs
      constructor
      · cases x <;> simp_all [mkF, F.cells, isAggF]
      · simpa [mkF] using h2
    | [], h0 => simp [hl] at h0
    | _ :: _ :: _, h0 => simp [hl] at h0

abbrev Low (W : World) : Nat → Prop := fun b => b < W.heap.size

theorem open_fields {n : Nat} (ih : ∀ (t : TypeId) (cs : List Value) (x : DataW H × List MemPlace) (k : Nat) (l : List Sh), DataW.trod enc P W 0 (fun _ => true) true n t cs = some x → shOf P k t = some l → ∃ fs, fitL l fs = true ∧ RepL W (Low W) fs cs) (k : Nat) (cs : List Value) :
    ∀ (fl : List Field) (off : Nat) (l : List Sh), (∀ (i : Nat) (f : Field), fl[i]? = some f → ∃ y, DataW.trod enc P W 0 (fun _ => true) true n f.type ((cs.drop f.offset).take (P.cellsOf f.type)) = some y) → shFs P (shOf P k) off fl = some l →
      ∃ fs, fitL l fs = true ∧ RepL W (Low W) fs ((cs.drop off).take l.length)
  | [], off, l, _, h => by
    simp only [shFs, Option.some.injEq] at h
    subst h
    exact ⟨[], rfl, by simp, fun j x v hx => by simp at hx⟩
  | f :: fl, off, l, hf, h => by
    simp only [shFs] at h
    split at h
    · rename_i hoff
      split at h
      · rename_i l1 h1
        split at h
        · rename_i hlen
          split at h
          · rename_i l2 h2
            cases h
            obtain ⟨y, hy⟩ := hf 0 f rfl
            obtain ⟨fs1, a1, b1⟩ := ih _ _ _ _ _ hy h1
            obtain ⟨fs2, a2, b2⟩ := open_fields ih k cs fl (off + l1.length) l2 (fun i f h => hf (i + 1) f (by simpa using h)) h2
            refine ⟨fs1 ++ fs2, fitL_append _ _ _ _ a1 a2, ?_⟩
            rw [hoff, hlen] at b1
            have e : (cs.drop off).take (l1 ++ l2).length = (cs.drop off).take l1.length ++ (cs.drop (off + l1.length)).take l2.length := by
              rw [List.length_append, List.take_add, List.drop_drop]
            rw [e]
            refine ⟨by rw [List.length_append, List.length_append, b1.1, b2.1], fun j x v hx hv => ?_⟩
            by_cases hj : j < fs1.length
            · rw [List.getElem?_append_left hj] at hx
              rw [List.getElem?_append_left (by rw [← b1.1]; exact hj)] at hv
              exact b1.2 j x v hx hv
            · rw [List.getElem?_append_right (by omega)] at hx
              rw [List.getElem?_append_right (by rw [← b1.1]; omega), ← b1.1] at hv
              exact b2.2 _ x v hx hv
          · cases h
        · cases h
      · cases h
    · cases h

theorem rep_one {x : F} {v : Value} (h : RepF W (Low W) x v) : RepL W (Low W) [x] [v] := by
  refine ⟨rfl, fun j y u hy hu => ?_⟩
  cases j with
  | zero => simp at hy hu; subst hy; subst hu; exact h
  | succ j => simp at hy

theorem open_cells : ∀ (n : Nat) (t : TypeId) (cs : List Value) (x : DataW H × List MemPlace) (k : Nat) (l : List Sh), DataW.trod enc P W 0 (fun _ => true) true n t cs = some x → shOf P k t = some l →
    ∃ fs, fitL l fs = true ∧ RepL W (Low W) fs cs := by
  intro n
  induction n with
  | zero => intro t cs x k l h; simp [DataW.trod] at h
  | succ n ih =>
    intro t cs x k l h hs
    cases k with
    | zero => simp [shOf] at hs
    | succ k =>
      simp only [shOf] at hs
      split at hs
      · rename_i ht
        cases hs
        obtain ⟨b, rfl, _⟩ := DataW.trod_bool ht h
        exact ⟨[.bool b], by simp [fitL, fitC], rep_one (.bool b)⟩
      · rename_i kk ht
        cases hs
        obtain ⟨z, rfl, _, hw⟩ := DataW.trod_int ht h
        exact ⟨[.int kk z], by simp [fitL, fitC, hw], rep_one (.int kk z)⟩
      · rename_i ht
        cases hs
        obtain ⟨s, rfl, _, hw⟩ := DataW.trod_string ht h
        exact ⟨[.str s], by simp [fitL, fitC, hw], rep_one (.str s)⟩
      · rename_i e ht
        split at hs
        · rename_i le hle
          split at hs
          · rename_i hc
            cases hs
            rcases DataW.trod_slice ht h with ⟨rfl, _⟩ | ⟨a, len, cap, elems, rest, n', hn', rfl, _, _, hl, hm, hlen, hel, _, _⟩
            · exact ⟨[.sl 0 fun _ => .dflt], by simp [fitL, fitC], rep_one (.sl 0 _ none 0 1 ⟨0, 0, none⟩ (fun _ => undef) (Nat.le_refl _) (fun i hi => by omega) (fun i j u hi => by omega) (fun h => absurd rfl h) (fun i j u hi => by omega) (fun i j u hi => by omega))⟩
            · obtain rfl : n' = n := by omega
              have each : ∀ i, ∃ fs : List F, i < len → fitL le fs = true ∧ ∃ ci, W.cells? 0 (a.add (i * le.length)) le.length = some ci ∧ RepL W (Low W) fs ci := by
                intro i
                by_cases hi : i < len
                · have h1 := hel i hi
                  rw [List.getElem?_eq_getElem (by omega), hc.1] at h1
                  obtain ⟨ci, h2, h3⟩ := Option.bind_eq_some_iff.1 h1
                  obtain ⟨fs, h4, h5⟩ := ih _ _ _ _ _ h3 hle
                  exact ⟨fs, fun _ => ⟨h4, ci, h2, h5⟩⟩
                · exact ⟨[], fun h => absurd h hi⟩
              obtain ⟨G, hG⟩ := Classical.axiomOfChoice each
              have hfit : ∀ i, i < len → fitL le (mkF (aggT P e) (G i)).cells = true ∧ isAggF (mkF (aggT P e) (G i)) = aggT P e := fun i hi => by
                obtain ⟨h1, h2⟩ := mk_cells (hG i hi).1 hc.2.1
                rw [h1]; exact ⟨(hG i hi).1, h2⟩
              have hcells : ∀ i, i < len → (mkF (aggT P e) (G i)).cells = G i := fun i hi => (mk_cells (hG i hi).1 hc.2.1).1
              have hpos : le.length ≠ 0 := hc.2.2
              have hsz : ∀ i, i < len → (G i).length = le.length := fun i hi => fitL_len _ _ (hG i hi).1
              have hsp : len ≠ 0 → a.spot = none ∧ a.block < W.heap.size := fun h0 => by
                obtain ⟨_, ci, h1, _⟩ := hG 0 (by omega)
                obtain ⟨_, h3, h4⟩ := World.cells?_some h1
                have h5 := h4 0 (by omega)
                rw [List.getElem?_eq_getElem (by omega)] at h5
                have h6 := World.cell?_spot h5
                have h7 := cell_lt h5
                exact ⟨by simpa [Addr.add] using h6, by simpa [Addr.add] using h7⟩
              have key : ∀ (i j : Nat) (u : F), i < len → (G i)[j]? = some u → ∃ v, W.cell? ⟨a.block, a.off + (i * le.length + j), none⟩ = some v ∧ RepF W (Low W) u v := fun i j u hi hu => by
                obtain ⟨_, ci, h1, h2⟩ := hG i hi
                obtain ⟨_, h3, h4⟩ := World.cells?_some h1
                have hj := (List.getElem?_eq_some_iff.1 hu).1
                have hs := hsz i hi
                have h5 := h4 j (by omega)
                rw [List.getElem?_eq_getElem (by omega)] at h5
                refine ⟨_, ?_, h2.2 j u _ hu (List.getElem?_eq_getElem (by omega))⟩
                rw [← h5]
                have e := (hsp (by omega)).1
                obtain ⟨ab, ao, asp⟩ := a
                simp only at e
                subst e
                rw [add_zero_addr ⟨ab, ao, none⟩ rfl, add_zero_addr ⟨ab, ao + i * le.length, none⟩ rfl, Nat.add_assoc]
              refine ⟨[.sl len fun i => mkF (aggT P e) (G i)], ?_, rep_one ?_⟩
              · simp only [fitL, fitC, Bool.and_true, Bool.and_eq_true, decide_eq_true_eq, List.all_eq_true, List.mem_range, beq_iff_eq]
                exact ⟨by omega, hfit⟩
              · refine .sl len _ (some a) cap le.length a (fun k => (W.cell? ⟨a.block, a.off + k, none⟩).getD undef) hl (fun i hi => by rw [hcells i hi]; exact hsz i hi) (fun i j u hi hu => ?_) (fun h0 => ⟨rfl, (hsp h0).2, (hsp h0).1⟩) (fun i j u hi hu => ?_) (fun i j u hi hu => ?_)
                · rw [hcells i hi] at hu
                  obtain ⟨s, _, hs⟩ := fitL_get _ _ (hG i hi).1 j u hu
                  exact (fitC_cell hs).1
                · rw [hcells i hi] at hu
                  obtain ⟨v, h1, _⟩ := key i j u hi hu
                  rw [h1]; rfl
                · rw [hcells i hi] at hu
                  obtain ⟨v, h1, h2⟩ := key i j u hi hu
                  rw [h1]; exact h2
          · cases hs
        · cases hs
      · rename_i fs ht
        split at hs
        · rename_i l' hl'
          split at hs
          · rename_i hc
            cases hs
            obtain ⟨xs, n', hn', _, hcl, hxl, hx⟩ := DataW.trod_struct ht h
            obtain rfl : n' = n := by omega
            obtain ⟨gs, g1, g2⟩ := open_fields (fun t cs x k l => ih t cs x k l) k cs fs.toList 0 l (fun i f hf => by
              have hf' : fs[i]? = some f := by simpa using hf
              have hi := (Array.getElem?_eq_some_iff.1 hf').1
              exact ⟨_, (hx i f hf').trans (List.getElem?_eq_getElem (by omega))⟩) hl'
            refine ⟨gs, g1, ?_⟩
            rw [List.drop_zero, List.take_of_length_le (by omega)] at g2
            exact g2
          · cases hs
        · cases hs
      · cases hs

theorem open_structF {t : TypeId} {v : Value} {d : DataW H} {ps : List MemPlace} {fl : Array Field} {k : Nat} {l : List Sh} (ht : P.underlying t = some (.struct fl)) (hs : shOf P k t = some l) (hval : Value.okWide P W .any base t v) (h : DataW.Trod enc P W 0 (fun _ => true) true t v d ps) :
    ∃ fs, fitL l fs = true ∧ RepF W (fun b => b < W.heap.size) (.agg fs) v := by
  obtain ⟨cs, rfl, _⟩ := okWide_struct ht hval
  obtain ⟨n, hf⟩ := h
  obtain ⟨fs, h1, h2⟩ := open_cells n t _ _ k l hf hs
  refine ⟨fs, h1, ?_⟩
  have := RepF.agg (w := W) (Z := Low W) fs _ h2.1 h2.2
  simpa [Value.cells] using this
end
end Go.Proofs.Ytmambbfnjbdfgaa.R

namespace Go.Proofs.Ytmambbfnjbdfgaa.R
open Go Go.ChangeShapes Go.WideShapes Go.RowKit
noncomputable section
set_option linter.unusedVariables false
set_option linter.unusedSimpArgs false
set_option maxRecDepth 100000
set_option maxHeartbeats 1000000
/-! ### function 6 -/
def T6 {ρ : Type} (ret : (Bool) → Option ρ) (l : List (List Pt)) (m : List (List Pt)) : Option ρ :=
 (bsel (isSess (F.agg [ringsF l, ringsF m]) && (isFewer (unSessA (F.agg [ringsF l, ringsF m])) && isFewer (unSessB (F.agg [ringsF l, ringsF m]))))
 (bsel (decide (szSessV (unSessA (F.agg [ringsF l, ringsF m])) (unSessB (F.agg [ringsF l, ringsF m])) 1048576 < 0))
 (ret (true))
 (bsel (isSess (F.agg [ringsF l, ringsF m]) && (shortRsV (unSessA (F.agg [ringsF l, ringsF m])) && shortRsV (unSessB (F.agg [ringsF l, ringsF m]))))
 (bsel (isSess (resToSess [F.agg [ringsF l, ringsF m]]))
 (bsel (isSess (F.agg [ringsF l, ringsF m]) && (shortRsV (unSessA (F.agg [ringsF l, ringsF m])) && shortRsV (unSessB (F.agg [ringsF l, ringsF m]))))
 (bsel (isSess (F.agg [ringsF (unSessA (F.agg [ringsF l, ringsF m])), ringsF (unSessB (F.agg [ringsF l, ringsF m]))]))
 (bsel (!sessV (unSessA (F.agg [ringsF (unSessA (F.agg [ringsF l, ringsF m])), ringsF (unSessB (F.agg [ringsF l, ringsF m]))])) (unSessB (F.agg [ringsF (unSessA (F.agg [ringsF l, ringsF m])), ringsF (unSessB (F.agg [ringsF l, ringsF m]))])) == sessV (unSessA (resToSess [F.agg [ringsF l, ringsF m]])) (unSessB (resToSess [F.agg [ringsF l, ringsF m]])))
 (ret (false))
 (bsel (isSess (F.agg [ringsF l, ringsF m]) && (shortRsV (unSessA (F.agg [ringsF l, ringsF m])) && shortRsV (unSessB (F.agg [ringsF l, ringsF m]))))
 (bsel (isSess (F.agg [ringsF (unSessA (F.agg [ringsF l, ringsF m])), ringsF (unSessB (F.agg [ringsF l, ringsF m]))]) && isSess (resToSess [F.agg [ringsF l, ringsF m]]) && (shortRsV (unSessA (F.agg [ringsF (unSessA (F.agg [ringsF l, ringsF m])), ringsF (unSessB (F.agg [ringsF l, ringsF m]))])) && shortRsV (unSessB (F.agg [ringsF (unSessA (F.agg [ringsF l, ringsF m])), ringsF (unSessB (F.agg [ringsF l, ringsF m]))]))))
 (bsel (!sameSV (unSessA (F.agg [ringsF (unSessA (F.agg [ringsF l, ringsF m])), ringsF (unSessB (F.agg [ringsF l, ringsF m]))])) (unSessB (F.agg [ringsF (unSessA (F.agg [ringsF l, ringsF m])), ringsF (unSessB (F.agg [ringsF l, ringsF m]))])) (unSessA (resToSess [F.agg [ringsF l, ringsF m]])) (unSessB (resToSess [F.agg [ringsF l, ringsF m]])))
 (ret (false))
 (ret (true)))
 none)
 none))
 none)
 none)
 none)
 none))
 none)
def G6 (l : List (List Pt)) (m : List (List Pt)) : Option (Bool) := T6 some l m
theorem t6 (l : List (List Pt)) (m : List (List Pt)) (b : Bool) (h : G6 l m = some b) : Ends Try.prog Try.f6.results.toList [.code (bodyOf Try.f6)] (start Try.f6.ntmps ([F.agg [ringsF l, ringsF m]].map .f)) (F.bool b) := by
  refine Ends.of_run tyOK envK13_ok (T := []) (n := 200) ?_
  have e : run Try.prog (tiOf Try.prog) envK13 [] 0 Try.f6.results.toList some 200 [.code (bodyOf Try.f6)] (start Try.f6.ntmps ([F.agg [ringsF l, ringsF m]].map .f)) = T6 (fun b => some (.ret (F.bool b))) l m := by kernel_rfl
  rw [e]
  exact (good_sel h (fun _ h => (good_sel h (fun _ h => good_ret (by cases h; rfl)) (fun _ h => (good_sel h (fun _ h => (good_sel h (fun _ h => (good_sel h (fun _ h => (good_sel h (fun _ h => (good_sel h (fun _ h => good_ret (by cases h; rfl)) (fun _ h => (good_sel h (fun _ h => (good_sel h (fun _ h => (good_sel h (fun _ h => good_ret (by cases h; rfl)) (fun _ h => good_ret (by cases h; rfl)))) (fun _ h => nomatch h))) (fun _ h => nomatch h))))) (fun _ h => nomatch h))) (fun _ h => nomatch h))) (fun _ h => nomatch h))) (fun _ h => nomatch h))))) (fun _ h => nomatch h))
theorem sameSV_refl (l m : List (List Pt)) : sameSV l m l m = true := by
  unfold sameSV
  rw [sameRs_refl, sameRs_refl]
  rfl
theorem sessOk_law (l m : List (List Pt)) (hl : l.length ≤ 9223372036854775807) (hm : m.length ≤ 9223372036854775807) (hbl : ∀ r ∈ l, r.length ≤ 9223372036854775807) (hbm : ∀ r ∈ m, r.length ≤ 9223372036854775807) : G6 l m = some true := by
  unfold G6 T6
  have e : resToSess [F.agg [ringsF l, ringsF m]] = F.agg [ringsF l, ringsF m] := by
    show F.agg [ringsF (unSessA (F.agg [ringsF l, ringsF m])), ringsF (unSessB (F.agg [ringsF l, ringsF m]))] = _
    rw [unSessA_agg, unSessB_agg]
  have f1 : isFewer l = true := decide_eq_true hl
  have f2 : isFewer m = true := decide_eq_true hm
  by_cases hs : szSessV l m 1048576 < 0
  · simp only [isSess_agg, unSessA_agg, unSessB_agg, f1, f2, decide_eq_true hs, Bool.and_self, bsel_true]
  · obtain ⟨s1, s2⟩ := szSess_short hl hm hbl hbm hs
    simp only [e, isSess_agg, unSessA_agg, unSessB_agg, f1, f2, s1, s2, decide_eq_false hs, sameSV_refl, beq_self_eq_true, Bool.not_true, Bool.and_self, bsel_true, bsel_false]
def boundRs (l : List (List Pt)) : Bool := decide (l.length ≤ maxLen) && l.all fun r => decide (r.length ≤ maxLen)
def preSessArg (x : F) : Bool := isSess x && (boundRs (unSessA x) && boundRs (unSessB x))
theorem boundRs_iff {l : List (List Pt)} (h : boundRs l = true) : l.length ≤ 9223372036854775807 ∧ ∀ r ∈ l, r.length ≤ 9223372036854775807 := by
  have hmx : maxLen = 9223372036854775807 := by decide
  unfold boundRs at h
  rw [Bool.and_eq_true, decide_eq_true_eq, List.all_eq_true] at h
  refine ⟨by omega, fun r hr => ?_⟩
  have := of_decide_eq_true (h.2 r hr)
  omega
def preLawS : List F → Bool | [x] => preSessArg x | _ => false
theorem okFnSessOk : PureOK Try.prog 6 preLawS (fun _ => .bool true) :=
  fn_pure_at (c := bodyOf Try.f6) Try.func6 (by kernel_rfl) (by kernel_rfl) fun xs hp => match xs, hp with
  | [x], hp => by
    simp only [preLawS, preSessArg, Bool.and_eq_true] at hp
    obtain ⟨h1, h2⟩ := boundRs_iff hp.2.1
    obtain ⟨h3, h4⟩ := boundRs_iff hp.2.2
    exact ⟨[.agg [ringsF (unSessA x), ringsF (unSessB x)]], _, ⟨(sess_eqv hp.1).1, trivial⟩, t6 _ _ _ (sessOk_law _ _ h1 h3 h2 h4), .refl _⟩
/-! The law's argument, read. -/
def shPt2 : List Sh := [.int .i64, .int .i64]
def shRing : List Sh := [.sl true shPt2]
theorem fit_pts2 {x : F} (h : fitC (.sl true shPt2) x = true) : isPts x = true ∧ (unPts x).length ≤ maxLen := by
  obtain ⟨n, g, rfl, h1, h2⟩ := fit_sl h
  refine ⟨?_, by rw [unPts, unSl_len]; exact h1⟩
  simp only [isPts, isSl, List.all_eq_true, List.mem_range]
  intro i hi
  obtain ⟨h3, h4⟩ := h2 i hi
  rw [agg_cells h4]
  obtain ⟨x1, r1, e, h5, h3⟩ := fit_cons h3
  obtain ⟨x2, r2, rfl, h6, h3⟩ := fit_cons h3
  obtain rfl := fit_nil h3
  obtain ⟨_, rfl⟩ := fit_int h5
  obtain ⟨_, rfl⟩ := fit_int h6
  rw [e]; rfl
theorem fit_rings {x : F} (h : fitC (.sl true shRing) x = true) : isRings x = true ∧ boundRs (unRings x) = true := by
  obtain ⟨n, g, rfl, h1, h2⟩ := fit_sl h
  have el : ∀ i, i < n → isRing (g i) = true ∧ (unRing (g i)).length ≤ maxLen := by
    intro i hi
    obtain ⟨h3, h4⟩ := h2 i hi
    obtain ⟨x1, r1, e, h5, h3⟩ := fit_cons h3
    obtain rfl := fit_nil h3
    rw [agg_cells h4, e]
    exact fit_pts2 h5
  refine ⟨?_, ?_⟩
  · simp only [isRings, isSl, List.all_eq_true, List.mem_range]
    exact fun i hi => (el i hi).1
  · unfold boundRs
    rw [Bool.and_eq_true, List.all_eq_true]
    refine ⟨decide_eq_true (by rw [unRings, unSl_len]; exact h1), fun r hr => ?_⟩
    have hr' : r ∈ (List.range n).map (fun i => unRing (g i)) := hr
    obtain ⟨i, hi, rfl⟩ := List.mem_map.1 hr'
    exact decide_eq_true (el i (List.mem_range.1 hi)).2
theorem fit_sess {fs : List F} (h : fitL [.sl true shRing, .sl true shRing] fs = true) : preSessArg (.agg fs) = true := by
  obtain ⟨x1, r1, rfl, h5, h3⟩ := fit_cons h
  obtain ⟨x2, r2, rfl, h6, h3⟩ := fit_cons h3
  obtain rfl := fit_nil h3
  obtain ⟨a1, a2⟩ := fit_rings h5
  obtain ⟨b1, b2⟩ := fit_rings h6
  show ((isRings x1 && isRings x2) && (boundRs (unRings x1) && boundRs (unRings x2))) = true
  rw [a1, b1, a2, b2]
  rfl
theorem open_sess {H : Type} {enc : TypeId × Value → H} {W : World} {base : Nat} {v : Value} {d : DataW H} {ps : List MemPlace} (hval : Value.okWide Try.prog W .any base 59 v) (h : DataW.Trod enc Try.prog W 0 (fun _ => true) true 59 v d ps) :
    ∃ x, preSessArg x = true ∧ RepF W (fun b => b < W.heap.size) x v := by
  obtain ⟨fs, h1, h2⟩ := open_structF (k := 9) (l := [.sl true shRing, .sl true shRing]) Try.underlying59 (by kernel_rfl) hval h
  exact ⟨_, fit_sess h1, h2⟩
end
end Go.Proofs.Ytmambbfnjbdfgaa.R
