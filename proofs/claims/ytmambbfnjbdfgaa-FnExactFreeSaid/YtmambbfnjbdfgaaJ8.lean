/-
  The own walk and what it shows, part 8 of 8.
-/
import Derived.Test.YtmambbfnjbdfgaaJ1
import Derived.Test.YtmambbfnjbdfgaaJ2
import Derived.Test.YtmambbfnjbdfgaaJ3
import Derived.Test.YtmambbfnjbdfgaaJ4
import Derived.Test.YtmambbfnjbdfgaaJ5
import Derived.Test.YtmambbfnjbdfgaaJ6
import Derived.Test.YtmambbfnjbdfgaaJ7
set_option exponentiation.threshold 30000
namespace Go.Proofs.Ytmambbfnjbdfgaa.R
open Go
noncomputable section
set_option linter.unusedVariables false
set_option linter.unusedSimpArgs false
set_option maxRecDepth 100000
set_option maxHeartbeats 1000000
/-! ### function 19 -/
def S19_4 (l : List Sg) (q : List Pt) (i : Int) : St := ⟨[(U.f (segsF l)), (U.f (ptsF q)), .bad, .bad, .bad, (U.f (F.int .i64 i)), .bad, .bad, .bad, .bad, .bad, .bad, .bad, .bad, .bad, .bad, .bad, .bad, .bad, .bad, .bad, .bad, .bad, .bad, .bad, .bad, .bad, .bad, .bad, .bad, .bad, .bad, .bad, .bad, .bad, .bad, .bad, .bad, .bad, .bad, .bad, .bad, .bad, .bad, .bad, .bad, .bad, .bad, .bad, .bad, .bad, .bad, .bad, .bad, .bad, .bad, .bad, .bad, .bad, .bad, .bad, .bad, .bad, .bad, .bad, .bad, .bad, .bad, .bad, .bad, .bad, .bad, .bad, .bad, .bad, .bad, .bad, .bad, .bad], []⟩
def S19_7 (l : List Sg) (q : List Pt) (i : Int) (j : Int) : St := ⟨[(U.f (segsF l)), (U.f (ptsF q)), .bad, .bad, .bad, (U.f (F.int .i64 i)), (U.f (F.int .i64 j)), .bad, .bad, .bad, .bad, .bad, .bad, .bad, .bad, .bad, .bad, .bad, .bad, .bad, .bad, .bad, .bad, .bad, .bad, .bad, .bad, .bad, .bad, .bad, .bad, .bad, .bad, .bad, .bad, .bad, .bad, .bad, .bad, .bad, .bad, .bad, .bad, .bad, .bad, .bad, .bad, .bad, .bad, .bad, .bad, .bad, .bad, .bad, .bad, .bad, .bad, .bad, .bad, .bad, .bad, .bad, .bad, .bad, .bad, .bad, .bad, .bad, .bad, .bad, .bad, .bad, .bad, .bad, .bad, .bad, .bad, .bad, .bad], []⟩
def T19_4 {ρ : Type} (ret : (Bool) → Option ρ) (c4 : (List Sg) → (List Pt) → (Int) → Option ρ) (c7 : (List Sg) → (List Pt) → (Int) → (Int) → Option ρ) (l : List Sg) (q : List Pt) (i : Int) : Option ρ :=
 (bsel (decide (i < (↑q.length : Int)))
 (c7 (l) (q) (i) (0))
 (ret (true)))
def T19_7 {ρ : Type} (ret : (Bool) → Option ρ) (c4 : (List Sg) → (List Pt) → (Int) → Option ρ) (c7 : (List Sg) → (List Pt) → (Int) → (Int) → Option ρ) (l : List Sg) (q : List Pt) (i : Int) (j : Int) : Option ρ :=
 (bsel (decide (j < (↑l.length : Int)))
 (bsel (decide (0 ≤ j))
 (bsel (decide (j < (↑l.length : Int)))
 (bsel (decide (0 ≤ i))
 (bsel (decide (i < (↑q.length : Int)))
 (bsel (isI64 (q.getD i.toNat Pt.zero).x && isI64 (q.getD i.toNat Pt.zero).y)
 (bsel (isI64 (l.getD j.toNat Sg.zero).x0 && isI64 (l.getD j.toNat Sg.zero).y0 && (isI64 (l.getD j.toNat Sg.zero).x1 && isI64 (l.getD j.toNat Sg.zero).y1) && isL3p 100 (resSpot3 [F.agg [F.int .i64 (q.getD i.toNat Pt.zero).x, F.int .i64 (q.getD i.toNat Pt.zero).y]]))
 (bsel (btwV (l.getD j.toNat Sg.zero).x0 (l.getD j.toNat Sg.zero).y0 1 (l.getD j.toNat Sg.zero).x1 (l.getD j.toNat Sg.zero).y1 1 (unX3 (resSpot3 [F.agg [F.int .i64 (q.getD i.toNat Pt.zero).x, F.int .i64 (q.getD i.toNat Pt.zero).y]])) (unY3 (resSpot3 [F.agg [F.int .i64 (q.getD i.toNat Pt.zero).x, F.int .i64 (q.getD i.toNat Pt.zero).y]])) (unW3 (resSpot3 [F.agg [F.int .i64 (q.getD i.toNat Pt.zero).x, F.int .i64 (q.getD i.toNat Pt.zero).y]])))
 (ret (false))
 (bsel (decide (0 ≤ i))
 (bsel (decide (i < (↑q.length : Int)))
 (bsel ((↑q.length : Int) != 0)
 (bsel (decide (0 ≤ (IntKind.i64.wrap (i + 1)).tmod (↑q.length : Int)))
 (bsel (decide ((IntKind.i64.wrap (i + 1)).tmod (↑q.length : Int) < (↑q.length : Int)))
 (bsel ((IntKind.i64.wrap (i + 1) == (↑q.length : Int)) == false)
 (bsel (!legKV (q.getD i.toNat Pt.zero).x (q.getD i.toNat Pt.zero).y (q.getD ((IntKind.i64.wrap (i + 1)).tmod (↑q.length : Int)).toNat Pt.zero).x (q.getD ((IntKind.i64.wrap (i + 1)).tmod (↑q.length : Int)).toNat Pt.zero).y)
 (c7 (l) (q) (i) (IntKind.i64.wrap (j + 1)))
 (bsel (decide (0 ≤ j))
 (bsel (decide (j < (↑l.length : Int)))
 (bsel (segOkV (legGV (q.getD i.toNat Pt.zero).x (q.getD i.toNat Pt.zero).y (q.getD ((IntKind.i64.wrap (i + 1)).tmod (↑q.length : Int)).toNat Pt.zero).x (q.getD ((IntKind.i64.wrap (i + 1)).tmod (↑q.length : Int)).toNat Pt.zero).y).x0 (legGV (q.getD i.toNat Pt.zero).x (q.getD i.toNat Pt.zero).y (q.getD ((IntKind.i64.wrap (i + 1)).tmod (↑q.length : Int)).toNat Pt.zero).x (q.getD ((IntKind.i64.wrap (i + 1)).tmod (↑q.length : Int)).toNat Pt.zero).y).y0 (legGV (q.getD i.toNat Pt.zero).x (q.getD i.toNat Pt.zero).y (q.getD ((IntKind.i64.wrap (i + 1)).tmod (↑q.length : Int)).toNat Pt.zero).x (q.getD ((IntKind.i64.wrap (i + 1)).tmod (↑q.length : Int)).toNat Pt.zero).y).x1 (legGV (q.getD i.toNat Pt.zero).x (q.getD i.toNat Pt.zero).y (q.getD ((IntKind.i64.wrap (i + 1)).tmod (↑q.length : Int)).toNat Pt.zero).x (q.getD ((IntKind.i64.wrap (i + 1)).tmod (↑q.length : Int)).toNat Pt.zero).y).y1 && segOkV (l.getD j.toNat Sg.zero).x0 (l.getD j.toNat Sg.zero).y0 (l.getD j.toNat Sg.zero).x1 (l.getD j.toNat Sg.zero).y1)
 (bsel (kind3V (legGV (q.getD i.toNat Pt.zero).x (q.getD i.toNat Pt.zero).y (q.getD ((IntKind.i64.wrap (i + 1)).tmod (↑q.length : Int)).toNat Pt.zero).x (q.getD ((IntKind.i64.wrap (i + 1)).tmod (↑q.length : Int)).toNat Pt.zero).y).x0 (legGV (q.getD i.toNat Pt.zero).x (q.getD i.toNat Pt.zero).y (q.getD ((IntKind.i64.wrap (i + 1)).tmod (↑q.length : Int)).toNat Pt.zero).x (q.getD ((IntKind.i64.wrap (i + 1)).tmod (↑q.length : Int)).toNat Pt.zero).y).y0 (legGV (q.getD i.toNat Pt.zero).x (q.getD i.toNat Pt.zero).y (q.getD ((IntKind.i64.wrap (i + 1)).tmod (↑q.length : Int)).toNat Pt.zero).x (q.getD ((IntKind.i64.wrap (i + 1)).tmod (↑q.length : Int)).toNat Pt.zero).y).x1 (legGV (q.getD i.toNat Pt.zero).x (q.getD i.toNat Pt.zero).y (q.getD ((IntKind.i64.wrap (i + 1)).tmod (↑q.length : Int)).toNat Pt.zero).x (q.getD ((IntKind.i64.wrap (i + 1)).tmod (↑q.length : Int)).toNat Pt.zero).y).y1 (l.getD j.toNat Sg.zero).x0 (l.getD j.toNat Sg.zero).y0 (l.getD j.toNat Sg.zero).x1 (l.getD j.toNat Sg.zero).y1 != 0)
 (ret (false))
 (c7 (l) (q) (i) (IntKind.i64.wrap (j + 1))))
 none)
 none)
 none))
 (c7 (l) (q) (i) (IntKind.i64.wrap (j + 1))))
 none)
 none)
 none)
 none)
 none))
 none)
 none)
 none)
 none)
 none)
 none)
 (c4 (l) (q) (IntKind.i64.wrap (i + 1))))
mutual
def L19_4 : Nat → (List Sg) → (List Pt) → (Int) → Option (Bool)
  | 0, _, _, _ => none
  | k + 1, l, q, i => T19_4 some (L19_4 k) (L19_7 k) l q i
def L19_7 : Nat → (List Sg) → (List Pt) → (Int) → (Int) → Option (Bool)
  | 0, _, _, _, _ => none
  | k + 1, l, q, i, j => T19_7 some (L19_4 k) (L19_7 k) l q i j
end
def T19 {ρ : Type} (ret : (Bool) → Option ρ) (c4 : (List Sg) → (List Pt) → (Int) → Option ρ) (c7 : (List Sg) → (List Pt) → (Int) → (Int) → Option ρ) (l : List Sg) (q : List Pt) : Option ρ :=
 (bsel (isSegs (segsF l))
 (bsel ((!segsOkV (unSegs (segsF l))) == false)
 (bsel (isPts (ptsF q))
 (bsel (!wayOkV (unPts (ptsF q)))
 (ret (false))
 (c4 (l) (q) (0)))
 none)
 (ret (false)))
 none)
def G19 (k : Nat) (l : List Sg) (q : List Pt) : Option (Bool) := T19 some (L19_4 k) (L19_7 k) l q
mutual
theorem t19_4 : ∀ (k : Nat) (l : List Sg) (q : List Pt) (i : Int) (ok : Bool), L19_4 k l q i = some ok → Ends Try.prog Try.f19.results.toList (at_ Try.f19 4) (S19_4 l q i) (F.bool ok)
  | 0, _, _, _, _, h => nomatch h
  | k + 1, l, q, i, ok, h => by
    refine Ends.of_cut tyOK envH10_ok (T := [(4, [0, 1, 5], 1000), (7, [0, 1, 5, 6], 1000)]) (n := 200) ?_
    have e : runCut Try.prog (tiOf Try.prog) envH10 [(4, [0, 1, 5], 1000), (7, [0, 1, 5, 6], 1000)] 0 Try.f19.results.toList some 200 (at_ Try.f19 4) (S19_4 l q i) = T19_4 (fun ok => some (.ret (F.bool ok))) (fun l q i => some (.cut (at_ Try.f19 4) (S19_4 l q i))) (fun l q i j => some (.cut (at_ Try.f19 7) (S19_7 l q i j))) l q i := by kernel_rfl
    rw [e]
    exact (good_sel h (fun _ h => good_cut (t19_7 k _ _ _ _ ok h)) (fun _ h => good_ret (by cases h; rfl)))
theorem t19_7 : ∀ (k : Nat) (l : List Sg) (q : List Pt) (i : Int) (j : Int) (ok : Bool), L19_7 k l q i j = some ok → Ends Try.prog Try.f19.results.toList (at_ Try.f19 7) (S19_7 l q i j) (F.bool ok)
  | 0, _, _, _, _, _, h => nomatch h
  | k + 1, l, q, i, j, ok, h => by
    refine Ends.of_cut tyOK envH10_ok (T := [(4, [0, 1, 5], 1000), (7, [0, 1, 5, 6], 1000)]) (n := 200) ?_
    have e : runCut Try.prog (tiOf Try.prog) envH10 [(4, [0, 1, 5], 1000), (7, [0, 1, 5, 6], 1000)] 0 Try.f19.results.toList some 200 (at_ Try.f19 7) (S19_7 l q i j) = T19_7 (fun ok => some (.ret (F.bool ok))) (fun l q i => some (.cut (at_ Try.f19 4) (S19_4 l q i))) (fun l q i j => some (.cut (at_ Try.f19 7) (S19_7 l q i j))) l q i j := by kernel_rfl
    rw [e]
    exact (good_sel h (fun _ h => (good_sel h (fun _ h => (good_sel h (fun _ h => (good_sel h (fun _ h => (good_sel h (fun _ h => (good_sel h (fun _ h => (good_sel h (fun _ h => (good_sel h (fun _ h => good_ret (by cases h; rfl)) (fun _ h => (good_sel h (fun _ h => (good_sel h (fun _ h => (good_sel h (fun _ h => (good_sel h (fun _ h => (good_sel h (fun _ h => (good_sel h (fun _ h => (good_sel h (fun _ h => good_cut (t19_7 k _ _ _ _ ok h)) (fun _ h => (good_sel h (fun _ h => (good_sel h (fun _ h => (good_sel h (fun _ h => (good_sel h (fun _ h => good_ret (by cases h; rfl)) (fun _ h => good_cut (t19_7 k _ _ _ _ ok h)))) (fun _ h => nomatch h))) (fun _ h => nomatch h))) (fun _ h => nomatch h))))) (fun _ h => good_cut (t19_7 k _ _ _ _ ok h)))) (fun _ h => nomatch h))) (fun _ h => nomatch h))) (fun _ h => nomatch h))) (fun _ h => nomatch h))) (fun _ h => nomatch h))))) (fun _ h => nomatch h))) (fun _ h => nomatch h))) (fun _ h => nomatch h))) (fun _ h => nomatch h))) (fun _ h => nomatch h))) (fun _ h => nomatch h))) (fun _ h => good_cut (t19_4 k _ _ _ ok h)))
end
theorem t19 (k : Nat) (l : List Sg) (q : List Pt) (ok : Bool) (h : G19 k l q = some ok) : Ends Try.prog Try.f19.results.toList [.code (bodyOf Try.f19)] (start Try.f19.ntmps ([segsF l, ptsF q].map .f)) (F.bool ok) := by
  refine Ends.of_run tyOK envH10_ok (T := [(4, [0, 1, 5], 1000), (7, [0, 1, 5, 6], 1000)]) (n := 200) ?_
  have e : run Try.prog (tiOf Try.prog) envH10 [(4, [0, 1, 5], 1000), (7, [0, 1, 5, 6], 1000)] 0 Try.f19.results.toList some 200 [.code (bodyOf Try.f19)] (start Try.f19.ntmps ([segsF l, ptsF q].map .f)) = T19 (fun ok => some (.ret (F.bool ok))) (fun l q i => some (.cut (at_ Try.f19 4) (S19_4 l q i))) (fun l q i j => some (.cut (at_ Try.f19 7) (S19_7 l q i j))) l q := by kernel_rfl
  rw [e]
  exact (good_sel h (fun _ h => (good_sel h (fun _ h => (good_sel h (fun _ h => (good_sel h (fun _ h => good_ret (by cases h; rfl)) (fun _ h => good_cut (t19_4 k _ _ _ ok h)))) (fun _ h => nomatch h))) (fun _ h => good_ret (by cases h; rfl)))) (fun _ h => nomatch h))
def hit3V (l : List Sg) (q : List Pt) (i j : Nat) : Bool :=
  btwV (l.getD j .zero).x0 (l.getD j .zero).y0 1 (l.getD j .zero).x1 (l.getD j .zero).y1 1 (q.getD i .zero).x (q.getD i .zero).y 1 ||
  (decide (i + 1 < q.length) && (legKV (q.getD i .zero).x (q.getD i .zero).y (q.getD (i + 1) .zero).x (q.getD (i + 1) .zero).y &&
    kind3V (legGV (q.getD i .zero).x (q.getD i .zero).y (q.getD (i + 1) .zero).x (q.getD (i + 1) .zero).y).x0 (legGV (q.getD i .zero).x (q.getD i .zero).y (q.getD (i + 1) .zero).x (q.getD (i + 1) .zero).y).y0 (legGV (q.getD i .zero).x (q.getD i .zero).y (q.getD (i + 1) .zero).x (q.getD (i + 1) .zero).y).x1 (legGV (q.getD i .zero).x (q.getD i .zero).y (q.getD (i + 1) .zero).x (q.getD (i + 1) .zero).y).y1 (l.getD j .zero).x0 (l.getD j .zero).y0 (l.getD j .zero).x1 (l.getD j .zero).y1 != 0))
def rowFree (h : Nat → Nat → Bool) (m n : Nat) : Bool := allUp (fun i => allUp (fun j => !h i j) 0 m) 0 n
def free3V (l : List Sg) (q : List Pt) : Bool := segsOkV l && (wayOkV q && rowFree (hit3V l q) l.length q.length)
theorem spot_i64 {x y : Int} (h : spotIn x y) : isI64 x = true ∧ isI64 y = true := by
  unfold spotIn at h
  exact ⟨isI64_iff.2 (by omega), isI64_iff.2 (by omega)⟩
theorem getD_in {α : Type} {l : List α} {d : α} {i : Nat} (h : i < l.length) : l.getD i d ∈ l := by
  rw [List.getD_eq_getElem?_getD, List.getElem?_eq_getElem h]
  exact List.getElem_mem h
theorem free3_in {l : List Sg} {q : List Pt} (hl : l.length ≤ 40) (hn : q.length ≤ 12) (hs : ∀ s ∈ l, sgIn s) (hso : ∀ s ∈ l, sgOk s = true) (hq : ∀ p ∈ q, spotIn p.x p.y) {i : Nat} (hi : i < q.length) {R : Bool} {K : Nat}
    (hout : ∀ k, K ≤ k → L19_4 k l q ((i + 1 : Nat) : Int) = some R) : ∀ (d j k : Nat), j + d = l.length → d + 1 + K ≤ k → L19_7 k l q i j = some (allUp (fun j => !hit3V l q i j) j d && R)
  | d, j, 0, _, hk => by omega
  | 0, j, k + 1, hj, hk => by
    rw [L19_7]
    unfold T19_7
    rw [decide_eq_false (show ¬ (j : Int) < l.length by omega), bsel_false, wrapI (by omega) (by omega), show (i : Int) + 1 = ((i + 1 : Nat) : Int) by omega, hout k (by omega)]
    rfl
  | d + 1, j, k + 1, hj, hk => by
    have ih := free3_in hl hn hs hso hq hi hout d (j + 1) k (by omega) (by omega)
    have hsj := hs _ (getD_in (d := Sg.zero) (show j < l.length by omega))
    have hoj := hso _ (getD_in (d := Sg.zero) (show j < l.length by omega))
    unfold sgOk at hoj
    have hpi := spot_i64 (hq _ (getD_in (d := Pt.zero) hi))
    have s0 := spot_i64 hsj.1
    have s1 := spot_i64 hsj.2
    have r : ∀ a b : Int, resSpot3 [F.agg [F.int .i64 a, F.int .i64 b]] = l3pF a b 1 := fun _ _ => rfl
    have one : isI64 1 = true := by decide
    have wi : IntKind.i64.wrap ((i : Int) + 1) = ((i + 1 : Nat) : Int) := by rw [wrapI (by omega) (by omega)]; omega
    have wj : IntKind.i64.wrap ((j : Int) + 1) = ((j + 1 : Nat) : Int) := by rw [wrapI (by omega) (by omega)]; omega
    have c1 : decide ((j : Int) < l.length) = true := decide_eq_true (by omega)
    have c2 : decide ((0 : Int) ≤ j) = true := decide_eq_true (by omega)
    have c3 : decide ((0 : Int) ≤ i) = true := decide_eq_true (by omega)
    have c4 : decide ((i : Int) < q.length) = true := decide_eq_true (by omega)
    have c5 : ((q.length : Int) != 0) = true := by rw [bne_iff_ne]; omega
    rw [L19_7]
    unfold T19_7
    simp only [c1, c2, c3, c4, c5, wi, wj, r, unX3_l3pF, unY3_l3pF, unW3_l3pF, Int.toNat_natCast, hpi, s0, s1, l3p_small hpi.1 hpi.2 one, Bool.and_self, bsel_true]
    rw [allUp_cut]
    cases hb : btwV (l.getD j .zero).x0 (l.getD j .zero).y0 1 (l.getD j .zero).x1 (l.getD j .zero).y1 1 (q.getD i .zero).x (q.getD i .zero).y 1 with
    | true =>
      rw [bsel_true]
      have : hit3V l q i j = true := by unfold hit3V; rw [hb]; rfl
      rw [this]
      rfl
    | false =>
      rw [bsel_false]
      by_cases hlast : i + 1 = q.length
      · have hh : hit3V l q i j = false := by unfold hit3V; rw [hb, decide_eq_false (show ¬ i + 1 < q.length by omega)]; rfl
        have e : ((i + 1 : Nat) : Int).tmod (q.length : Int) = 0 := by rw [hlast]; exact Int.tmod_self
        have c6 : ((((i + 1 : Nat) : Int) == (q.length : Int)) == false) = false := by rw [hlast, beq_self_eq_true]; rfl
        rw [e, decide_eq_true (show (0 : Int) ≤ 0 by omega), decide_eq_true (show (0 : Int) < q.length by omega), c6]
        simp only [bsel_true, bsel_false]
        rw [ih, hh]
        rfl
      · have hlt : i + 1 < q.length := by omega
        have e : ((i + 1 : Nat) : Int).tmod (q.length : Int) = ((i + 1 : Nat) : Int) := Int.tmod_eq_of_lt (by omega) (by omega)
        have c6 : ((((i + 1 : Nat) : Int) == (q.length : Int)) == false) = true := by
          rw [show (((i + 1 : Nat) : Int) == (q.length : Int)) = false by rw [beq_eq_false_iff_ne]; omega]
          rfl
        rw [e, decide_eq_true (show (0 : Int) ≤ ((i + 1 : Nat) : Int) by omega), decide_eq_true (show ((i + 1 : Nat) : Int) < q.length by omega), c6]
        simp only [bsel_true, Int.toNat_natCast]
        have hh : hit3V l q i j = (legKV (q.getD i .zero).x (q.getD i .zero).y (q.getD (i + 1) .zero).x (q.getD (i + 1) .zero).y && kind3V (legGV (q.getD i .zero).x (q.getD i .zero).y (q.getD (i + 1) .zero).x (q.getD (i + 1) .zero).y).x0 (legGV (q.getD i .zero).x (q.getD i .zero).y (q.getD (i + 1) .zero).x (q.getD (i + 1) .zero).y).y0 (legGV (q.getD i .zero).x (q.getD i .zero).y (q.getD (i + 1) .zero).x (q.getD (i + 1) .zero).y).x1 (legGV (q.getD i .zero).x (q.getD i .zero).y (q.getD (i + 1) .zero).x (q.getD (i + 1) .zero).y).y1 (l.getD j .zero).x0 (l.getD j .zero).y0 (l.getD j .zero).x1 (l.getD j .zero).y1 != 0) := by
          unfold hit3V
          rw [hb, decide_eq_true hlt, Bool.false_or, Bool.true_and]
        rw [hh]
        cases hleg : legKV (q.getD i .zero).x (q.getD i .zero).y (q.getD (i + 1) .zero).x (q.getD (i + 1) .zero).y with
        | false =>
          rw [Bool.false_and]
          simp only [Bool.not_false, bsel_true]
          rw [ih]
          rfl
        | true =>
          have hok : segOkV (legGV (q.getD i .zero).x (q.getD i .zero).y (q.getD (i + 1) .zero).x (q.getD (i + 1) .zero).y).x0 (legGV (q.getD i .zero).x (q.getD i .zero).y (q.getD (i + 1) .zero).x (q.getD (i + 1) .zero).y).y0 (legGV (q.getD i .zero).x (q.getD i .zero).y (q.getD (i + 1) .zero).x (q.getD (i + 1) .zero).y).x1 (legGV (q.getD i .zero).x (q.getD i .zero).y (q.getD (i + 1) .zero).x (q.getD (i + 1) .zero).y).y1 = true := by
            unfold legGV
            rw [hleg, cond_true]
            exact hleg
          rw [Bool.true_and, hok, hoj]
          simp only [Bool.not_true, bsel_true, bsel_false, Bool.and_self]
          cases kind3V (legGV (q.getD i .zero).x (q.getD i .zero).y (q.getD (i + 1) .zero).x (q.getD (i + 1) .zero).y).x0 (legGV (q.getD i .zero).x (q.getD i .zero).y (q.getD (i + 1) .zero).x (q.getD (i + 1) .zero).y).y0 (legGV (q.getD i .zero).x (q.getD i .zero).y (q.getD (i + 1) .zero).x (q.getD (i + 1) .zero).y).x1 (legGV (q.getD i .zero).x (q.getD i .zero).y (q.getD (i + 1) .zero).x (q.getD (i + 1) .zero).y).y1 (l.getD j .zero).x0 (l.getD j .zero).y0 (l.getD j .zero).x1 (l.getD j .zero).y1 != 0 with
          | true => rfl
          | false =>
            rw [bsel_false, ih]
            rfl
theorem free3_out {l : List Sg} {q : List Pt} (hl : l.length ≤ 40) (hn : q.length ≤ 12) (hs : ∀ s ∈ l, sgIn s) (hso : ∀ s ∈ l, sgOk s = true) (hq : ∀ p ∈ q, spotIn p.x p.y) : ∀ (d i k : Nat), i + d = q.length → 43 * d + 1 ≤ k →
    L19_4 k l q i = some (allUp (fun i => allUp (fun j => !hit3V l q i j) 0 l.length) i d)
  | d, i, 0, _, hk => by omega
  | 0, i, k + 1, hi, hk => by
    rw [L19_4]
    unfold T19_4
    rw [decide_eq_false (show ¬ (i : Int) < q.length by omega)]
    rfl
  | d + 1, i, k + 1, hi, hk => by
    have ih := free3_in hl hn hs hso hq (i := i) (by omega) (K := 43 * d + 1) (fun k hk => free3_out hl hn hs hso hq d (i + 1) k (by omega) hk) l.length 0 k (by omega) (by omega)
    rw [L19_4]
    unfold T19_4
    rw [decide_eq_true (show (i : Int) < q.length by omega), bsel_true, allUp_cut]
    exact ih
theorem wayOk_iff {q : List Pt} : wayOkV q = true ↔ (1 ≤ q.length ∧ q.length ≤ 12) ∧ ∀ p ∈ q, spotIn p.x p.y := by
  unfold wayOkV
  rw [Bool.and_eq_true, decide_eq_true_eq, List.all_eq_true]
  exact and_congr Iff.rfl ⟨fun h p hp => spotOk_iff.1 (h p hp), fun h p hp => spotOk_iff.2 (h p hp)⟩
theorem free3_law (l : List Sg) (q : List Pt) : G19 600 l q = some (free3V l q) := by
  unfold G19 T19 free3V
  rw [isSegs_segsF, unSegs_segsF, isPts_ptsF, unPts_ptsF, bsel_true]
  cases h1 : segsOkV l with
  | false => rfl
  | true =>
    cases h2 : wayOkV q with
    | false => rfl
    | true =>
      obtain ⟨k1, k2⟩ := segsOk_iff.1 h1
      obtain ⟨k3, k4⟩ := wayOk_iff.1 h2
      simp only [Bool.not_true, bsel_true, bsel_false, Bool.true_and]
      exact free3_out k1 k3.2 (fun s hs => sgOk_in (k2 s hs)) k2 k4 q.length 0 600 (by omega) (by omega)
def preFree : List F → Bool | [x, y] => isSegs x && isPts y | _ => false
def resFree3 : List F → F | [x, y] => .bool (free3V (unSegs x) (unPts y)) | _ => .dflt
theorem okFree3 : PureOK Try.prog 19 preFree resFree3 :=
  fn_pure_at (c := bodyOf Try.f19) Try.func19 (by kernel_rfl) (by kernel_rfl) fun xs hp => match xs, hp with
  | [x, y], hp => by
    simp only [preFree, Bool.and_eq_true] at hp
    exact ⟨[segsF (unSegs x), ptsF (unPts y)], _, ⟨(segs_eqv hp.1).1, (pts_eqv hp.2).1, trivial⟩, t19 _ _ _ _ (free3_law _ _), .refl _⟩
def envH11 : Env := envH10.add 19 (.pure preFree resFree3)
theorem envH11_ok : EnvOK Try.prog envH11 := (Env.add_ok envH10_ok okFree3.sp)
end
end Go.Proofs.Ytmambbfnjbdfgaa.R

namespace Go.Proofs.Ytmambbfnjbdfgaa.R
open Go
noncomputable section
def envH12 : Env := envH11.or envH9
theorem envH12_ok : EnvOK Try.prog envH12 := Env.or_ok envH11_ok envH9_ok
end
end Go.Proofs.Ytmambbfnjbdfgaa.R

namespace Go.Proofs.Ytmambbfnjbdfgaa.R
open Go
noncomputable section
set_option linter.unusedVariables false
set_option linter.unusedSimpArgs false
set_option maxRecDepth 100000
set_option maxHeartbeats 1000000
/-! ### function 21 -/
def S21_4 (l : List Sg) (q : List Pt) (n : Int) (i : Int) : St := ⟨[(U.f (segsF l)), (U.f (ptsF q)), .bad, .bad, .bad, .bad, .bad, .bad, .bad, .bad, .bad, .bad, .bad, .bad, .bad, .bad, .bad, .bad, .bad, .bad, .bad, .bad, .bad, .bad, .bad, .bad, .bad, .bad, (U.f (ptsF q)), (U.f (F.int .i64 n)), (U.f (F.int .i64 i)), .bad, .bad, .bad, .bad, .bad, .bad, .bad, .bad, .bad, .bad, .bad, .bad, .bad, .bad, .bad, .bad, .bad, .bad, .bad, .bad, .bad, .bad, .bad, .bad, .bad, .bad, .bad, .bad, .bad, .bad, .bad, .bad, .bad, .bad, .bad, .bad, .bad, .bad, .bad, .bad, .bad, .bad, .bad, .bad, .bad, .bad], []⟩
def S21_10 (l : List Sg) (q : List Pt) (n : Int) (i : Int) : St := ⟨[(U.f (segsF l)), (U.f (ptsF q)), .bad, .bad, .bad, .bad, .bad, .bad, .bad, .bad, .bad, .bad, .bad, .bad, .bad, .bad, .bad, .bad, .bad, .bad, .bad, .bad, .bad, .bad, .bad, .bad, .bad, .bad, .bad, .bad, .bad, .bad, .bad, .bad, .bad, .bad, .bad, .bad, (U.f (ptsF q)), (U.f (F.int .i64 n)), (U.f (F.int .i64 i)), .bad, .bad, .bad, .bad, .bad, .bad, .bad, .bad, .bad, .bad, .bad, .bad, .bad, .bad, .bad, .bad, .bad, .bad, .bad, .bad, .bad, .bad, .bad, .bad, .bad, .bad, .bad, .bad, .bad, .bad, .bad, .bad, .bad, .bad, .bad, .bad], []⟩
def S21_14 (l : List Sg) (q : List Pt) (n : Int) (i : Int) (ax : Int) (ay : Int) (bx : Int) (by1 : Int) (m : Int) (j : Int) : St := ⟨[(U.f (segsF l)), (U.f (ptsF q)), .bad, .bad, .bad, .bad, .bad, .bad, (U.hp 0 0), (U.hp 1 0), .bad, .bad, .bad, .bad, .bad, .bad, .bad, .bad, .bad, .bad, .bad, .bad, .bad, .bad, .bad, .bad, .bad, .bad, .bad, .bad, .bad, .bad, .bad, .bad, .bad, .bad, .bad, .bad, (U.f (ptsF q)), (U.f (F.int .i64 n)), (U.f (F.int .i64 i)), .bad, .bad, .bad, .bad, .bad, .bad, .bad, .bad, .bad, .bad, (U.f (segsF l)), (U.f (F.int .i64 m)), (U.f (F.int .i64 j)), .bad, .bad, .bad, .bad, .bad, .bad, .bad, .bad, .bad, .bad, .bad, .bad, .bad, .bad, .bad, .bad, .bad, .bad, .bad, .bad, .bad, .bad, .bad], [HO.box [(U.f (F.int .i64 ax)), (U.f (F.int .i64 ay))], HO.box [(U.f (F.int .i64 bx)), (U.f (F.int .i64 by1))]]⟩
def T21_4 {ρ : Type} (ret : (Bool) → Option ρ) (c4 : (List Sg) → (List Pt) → (Int) → (Int) → Option ρ) (c10 : (List Sg) → (List Pt) → (Int) → (Int) → Option ρ) (c14 : (List Sg) → (List Pt) → (Int) → (Int) → (Int) → (Int) → (Int) → (Int) → (Int) → (Int) → Option ρ) (l : List Sg) (q : List Pt) (n : Int) (i : Int) : Option ρ :=
 (bsel (decide (i < n))
 (bsel (decide (0 ≤ i))
 (bsel (decide (i < (↑q.length : Int)))
 (bsel (!spotOkV (q.getD i.toNat Pt.zero).x (q.getD i.toNat Pt.zero).y)
 (ret (false))
 (c4 (l) (q) (n) (IntKind.i64.wrap (i + 1))))
 none)
 none)
 (c10 (l) (q) ((↑q.length : Int)) (0)))
def T21_10 {ρ : Type} (ret : (Bool) → Option ρ) (c4 : (List Sg) → (List Pt) → (Int) → (Int) → Option ρ) (c10 : (List Sg) → (List Pt) → (Int) → (Int) → Option ρ) (c14 : (List Sg) → (List Pt) → (Int) → (Int) → (Int) → (Int) → (Int) → (Int) → (Int) → (Int) → Option ρ) (l : List Sg) (q : List Pt) (n : Int) (i : Int) : Option ρ :=
 (bsel (decide (i < n))
 (bsel (decide (0 ≤ i))
 (bsel (decide (i < (↑q.length : Int)))
 (bsel (decide (0 ≤ if true = true then if IntKind.i64.wrap (i - 1) > 0 then IntKind.i64.wrap (i - 1) else 0 else if IntKind.i64.wrap (i - 1) < 0 then IntKind.i64.wrap (i - 1) else 0))
 (bsel (decide ((if true = true then if IntKind.i64.wrap (i - 1) > 0 then IntKind.i64.wrap (i - 1) else 0 else if IntKind.i64.wrap (i - 1) < 0 then IntKind.i64.wrap (i - 1) else 0) < (↑q.length : Int)))
 (c14 (l) (q) (n) (i) ((q.getD i.toNat Pt.zero).x) ((q.getD i.toNat Pt.zero).y) ((q.getD (if true = true then if IntKind.i64.wrap (i - 1) > 0 then IntKind.i64.wrap (i - 1) else 0 else if IntKind.i64.wrap (i - 1) < 0 then IntKind.i64.wrap (i - 1) else 0).toNat Pt.zero).x) ((q.getD (if true = true then if IntKind.i64.wrap (i - 1) > 0 then IntKind.i64.wrap (i - 1) else 0 else if IntKind.i64.wrap (i - 1) < 0 then IntKind.i64.wrap (i - 1) else 0).toNat Pt.zero).y) ((↑l.length : Int)) (0))
 none)
 none)
 none)
 none)
 (ret (true)))
def T21_14 {ρ : Type} (ret : (Bool) → Option ρ) (c4 : (List Sg) → (List Pt) → (Int) → (Int) → Option ρ) (c10 : (List Sg) → (List Pt) → (Int) → (Int) → Option ρ) (c14 : (List Sg) → (List Pt) → (Int) → (Int) → (Int) → (Int) → (Int) → (Int) → (Int) → (Int) → Option ρ) (l : List Sg) (q : List Pt) (n : Int) (i : Int) (ax : Int) (ay : Int) (bx : Int) (by1 : Int) (m : Int) (j : Int) : Option ρ :=
 (bsel (decide (j < m))
 (bsel (decide (0 ≤ j))
 (bsel (decide (j < (↑l.length : Int)))
 (bsel (ax == bx && (ay == by1 && true))
 (bsel (isI64 ax && isI64 ay)
 (bsel (isSide (l.getD j.toNat Sg.zero).x0 (l.getD j.toNat Sg.zero).y0 (l.getD j.toNat Sg.zero).x1 (l.getD j.toNat Sg.zero).y1 && isPw (wd3 ax) (wd2 ax) (wd1 ax) (wd0 ax) (wd3 ay) (wd2 ay) (wd1 ay) (wd0 ay) (wd3 1) (wd2 1) (wd1 1) (wd0 1))
 (bsel (decide (cmp3V (l.getD j.toNat Sg.zero).x0 (l.getD j.toNat Sg.zero).y0 1 (wdsS (wd3 ax) (wd2 ax) (wd1 ax) (wd0 ax)) (wdsS (wd3 ay) (wd2 ay) (wd1 ay) (wd0 ay)) (wdsS (wd3 1) (wd2 1) (wd1 1) (wd0 1)) ≤ 0) && (decide (cmp3V (wdsS (wd3 ax) (wd2 ax) (wd1 ax) (wd0 ax)) (wdsS (wd3 ay) (wd2 ay) (wd1 ay) (wd0 ay)) (wdsS (wd3 1) (wd2 1) (wd1 1) (wd0 1)) (l.getD j.toNat Sg.zero).x1 (l.getD j.toNat Sg.zero).y1 1 ≤ 0) && (sideZ (l.getD j.toNat Sg.zero).x0 (l.getD j.toNat Sg.zero).y0 (l.getD j.toNat Sg.zero).x1 (l.getD j.toNat Sg.zero).y1 (wdsS (wd3 ax) (wd2 ax) (wd1 ax) (wd0 ax)) (wdsS (wd3 ay) (wd2 ay) (wd1 ay) (wd0 ay)) (wdsS (wd3 1) (wd2 1) (wd1 1) (wd0 1))).sign == 0))
 (ret (false))
 (c14 (l) (q) (n) (i) (ax) (ay) (bx) (by1) (m) (IntKind.i64.wrap (j + 1))))
 none)
 none)
 (bsel (segOkV (l.getD j.toNat Sg.zero).x0 (l.getD j.toNat Sg.zero).y0 (l.getD j.toNat Sg.zero).x1 (l.getD j.toNat Sg.zero).y1 && segOkV (legOf { x := ax, y := ay } { x := bx, y := by1 }).x0 (legOf { x := ax, y := ay } { x := bx, y := by1 }).y0 (legOf { x := ax, y := ay } { x := bx, y := by1 }).x1 (legOf { x := ax, y := ay } { x := bx, y := by1 }).y1)
 (bsel (kindIV (l.getD j.toNat Sg.zero).x0 (l.getD j.toNat Sg.zero).y0 (l.getD j.toNat Sg.zero).x1 (l.getD j.toNat Sg.zero).y1 (legOf { x := ax, y := ay } { x := bx, y := by1 }).x0 (legOf { x := ax, y := ay } { x := bx, y := by1 }).y0 (legOf { x := ax, y := ay } { x := bx, y := by1 }).x1 (legOf { x := ax, y := ay } { x := bx, y := by1 }).y1 != 0)
 (ret (false))
 (c14 (l) (q) (n) (i) (ax) (ay) (bx) (by1) (m) (IntKind.i64.wrap (j + 1))))
 none))
 none)
 none)
 (c10 (l) (q) (n) (IntKind.i64.wrap (i + 1))))
mutual
def L21_4 : Nat → (List Sg) → (List Pt) → (Int) → (Int) → Option (Bool)
  | 0, _, _, _, _ => none
  | k + 1, l, q, n, i => T21_4 some (L21_4 k) (L21_10 k) (L21_14 k) l q n i
def L21_10 : Nat → (List Sg) → (List Pt) → (Int) → (Int) → Option (Bool)
  | 0, _, _, _, _ => none
  | k + 1, l, q, n, i => T21_10 some (L21_4 k) (L21_10 k) (L21_14 k) l q n i
def L21_14 : Nat → (List Sg) → (List Pt) → (Int) → (Int) → (Int) → (Int) → (Int) → (Int) → (Int) → (Int) → Option (Bool)
  | 0, _, _, _, _, _, _, _, _, _, _ => none
  | k + 1, l, q, n, i, ax, ay, bx, by1, m, j => T21_14 some (L21_4 k) (L21_10 k) (L21_14 k) l q n i ax ay bx by1 m j
end
def T21 {ρ : Type} (ret : (Bool) → Option ρ) (c4 : (List Sg) → (List Pt) → (Int) → (Int) → Option ρ) (c10 : (List Sg) → (List Pt) → (Int) → (Int) → Option ρ) (c14 : (List Sg) → (List Pt) → (Int) → (Int) → (Int) → (Int) → (Int) → (Int) → (Int) → (Int) → Option ρ) (l : List Sg) (q : List Pt) : Option ρ :=
 (bsel (isSegs (segsF l))
 (bsel ((!segsOkV (unSegs (segsF l))) == false)
 (bsel (decide ((↑q.length : Int) < 1) == false)
 (bsel (decide ((↑q.length : Int) > 12))
 (ret (false))
 (c4 (l) (q) ((↑q.length : Int)) (0)))
 (ret (false)))
 (ret (false)))
 none)
def G21 (k : Nat) (l : List Sg) (q : List Pt) : Option (Bool) := T21 some (L21_4 k) (L21_10 k) (L21_14 k) l q
mutual
theorem t21_4 : ∀ (k : Nat) (l : List Sg) (q : List Pt) (n : Int) (i : Int) (ok : Bool), L21_4 k l q n i = some ok → Ends Try.prog Try.f21.results.toList (at_ Try.f21 4) (S21_4 l q n i) (F.bool ok)
  | 0, _, _, _, _, _, h => nomatch h
  | k + 1, l, q, n, i, ok, h => by
    refine Ends.of_cut tyOK envH12_ok (T := [(4, [0, 1, 28, 29, 30], 1000), (10, [0, 1, 38, 39, 40], 1000), (14, [0, 1, 8, 9, 38, 39, 40, 51, 52, 53], 1000)]) (n := 200) ?_
    have e : runCut Try.prog (tiOf Try.prog) envH12 [(4, [0, 1, 28, 29, 30], 1000), (10, [0, 1, 38, 39, 40], 1000), (14, [0, 1, 8, 9, 38, 39, 40, 51, 52, 53], 1000)] 0 Try.f21.results.toList some 200 (at_ Try.f21 4) (S21_4 l q n i) = T21_4 (fun ok => some (.ret (F.bool ok))) (fun l q n i => some (.cut (at_ Try.f21 4) (S21_4 l q n i))) (fun l q n i => some (.cut (at_ Try.f21 10) (S21_10 l q n i))) (fun l q n i ax ay bx by1 m j => some (.cut (at_ Try.f21 14) (S21_14 l q n i ax ay bx by1 m j))) l q n i := by kernel_rfl
    rw [e]
    exact (good_sel h (fun _ h => (good_sel h (fun _ h => (good_sel h (fun _ h => (good_sel h (fun _ h => good_ret (by cases h; rfl)) (fun _ h => good_cut (t21_4 k _ _ _ _ ok h)))) (fun _ h => nomatch h))) (fun _ h => nomatch h))) (fun _ h => good_cut (t21_10 k _ _ _ _ ok h)))
theorem t21_10 : ∀ (k : Nat) (l : List Sg) (q : List Pt) (n : Int) (i : Int) (ok : Bool), L21_10 k l q n i = some ok → Ends Try.prog Try.f21.results.toList (at_ Try.f21 10) (S21_10 l q n i) (F.bool ok)
  | 0, _, _, _, _, _, h => nomatch h
  | k + 1, l, q, n, i, ok, h => by
    refine Ends.of_cut tyOK envH12_ok (T := [(4, [0, 1, 28, 29, 30], 1000), (10, [0, 1, 38, 39, 40], 1000), (14, [0, 1, 8, 9, 38, 39, 40, 51, 52, 53], 1000)]) (n := 200) ?_
    have e : runCut Try.prog (tiOf Try.prog) envH12 [(4, [0, 1, 28, 29, 30], 1000), (10, [0, 1, 38, 39, 40], 1000), (14, [0, 1, 8, 9, 38, 39, 40, 51, 52, 53], 1000)] 0 Try.f21.results.toList some 200 (at_ Try.f21 10) (S21_10 l q n i) = T21_10 (fun ok => some (.ret (F.bool ok))) (fun l q n i => some (.cut (at_ Try.f21 4) (S21_4 l q n i))) (fun l q n i => some (.cut (at_ Try.f21 10) (S21_10 l q n i))) (fun l q n i ax ay bx by1 m j => some (.cut (at_ Try.f21 14) (S21_14 l q n i ax ay bx by1 m j))) l q n i := by kernel_rfl
    rw [e]
    exact (good_sel h (fun _ h => (good_sel h (fun _ h => (good_sel h (fun _ h => (good_sel h (fun _ h => (good_sel h (fun _ h => good_cut (t21_14 k _ _ _ _ _ _ _ _ _ _ ok h)) (fun _ h => nomatch h))) (fun _ h => nomatch h))) (fun _ h => nomatch h))) (fun _ h => nomatch h))) (fun _ h => good_ret (by cases h; rfl)))
theorem t21_14 : ∀ (k : Nat) (l : List Sg) (q : List Pt) (n : Int) (i : Int) (ax : Int) (ay : Int) (bx : Int) (by1 : Int) (m : Int) (j : Int) (ok : Bool), L21_14 k l q n i ax ay bx by1 m j = some ok → Ends Try.prog Try.f21.results.toList (at_ Try.f21 14) (S21_14 l q n i ax ay bx by1 m j) (F.bool ok)
  | 0, _, _, _, _, _, _, _, _, _, _, _, h => nomatch h
  | k + 1, l, q, n, i, ax, ay, bx, by1, m, j, ok, h => by
    refine Ends.of_cut tyOK envH12_ok (T := [(4, [0, 1, 28, 29, 30], 1000), (10, [0, 1, 38, 39, 40], 1000), (14, [0, 1, 8, 9, 38, 39, 40, 51, 52, 53], 1000)]) (n := 200) ?_
    have e : runCut Try.prog (tiOf Try.prog) envH12 [(4, [0, 1, 28, 29, 30], 1000), (10, [0, 1, 38, 39, 40], 1000), (14, [0, 1, 8, 9, 38, 39, 40, 51, 52, 53], 1000)] 0 Try.f21.results.toList some 200 (at_ Try.f21 14) (S21_14 l q n i ax ay bx by1 m j) = T21_14 (fun ok => some (.ret (F.bool ok))) (fun l q n i => some (.cut (at_ Try.f21 4) (S21_4 l q n i))) (fun l q n i => some (.cut (at_ Try.f21 10) (S21_10 l q n i))) (fun l q n i ax ay bx by1 m j => some (.cut (at_ Try.f21 14) (S21_14 l q n i ax ay bx by1 m j))) l q n i ax ay bx by1 m j := by kernel_rfl
    rw [e]
    exact (good_sel h (fun _ h => (good_sel h (fun _ h => (good_sel h (fun _ h => (good_sel h (fun _ h => (good_sel h (fun _ h => (good_sel h (fun _ h => (good_sel h (fun _ h => good_ret (by cases h; rfl)) (fun _ h => good_cut (t21_14 k _ _ _ _ _ _ _ _ _ _ ok h)))) (fun _ h => nomatch h))) (fun _ h => nomatch h))) (fun _ h => (good_sel h (fun _ h => (good_sel h (fun _ h => good_ret (by cases h; rfl)) (fun _ h => good_cut (t21_14 k _ _ _ _ _ _ _ _ _ _ ok h)))) (fun _ h => nomatch h))))) (fun _ h => nomatch h))) (fun _ h => nomatch h))) (fun _ h => good_cut (t21_10 k _ _ _ _ ok h)))
end
theorem t21 (k : Nat) (l : List Sg) (q : List Pt) (ok : Bool) (h : G21 k l q = some ok) : Ends Try.prog Try.f21.results.toList [.code (bodyOf Try.f21)] (start Try.f21.ntmps ([segsF l, ptsF q].map .f)) (F.bool ok) := by
  refine Ends.of_run tyOK envH12_ok (T := [(4, [0, 1, 28, 29, 30], 1000), (10, [0, 1, 38, 39, 40], 1000), (14, [0, 1, 8, 9, 38, 39, 40, 51, 52, 53], 1000)]) (n := 200) ?_
  have e : run Try.prog (tiOf Try.prog) envH12 [(4, [0, 1, 28, 29, 30], 1000), (10, [0, 1, 38, 39, 40], 1000), (14, [0, 1, 8, 9, 38, 39, 40, 51, 52, 53], 1000)] 0 Try.f21.results.toList some 200 [.code (bodyOf Try.f21)] (start Try.f21.ntmps ([segsF l, ptsF q].map .f)) = T21 (fun ok => some (.ret (F.bool ok))) (fun l q n i => some (.cut (at_ Try.f21 4) (S21_4 l q n i))) (fun l q n i => some (.cut (at_ Try.f21 10) (S21_10 l q n i))) (fun l q n i ax ay bx by1 m j => some (.cut (at_ Try.f21 14) (S21_14 l q n i ax ay bx by1 m j))) l q := by kernel_rfl
  rw [e]
  exact (good_sel h (fun _ h => (good_sel h (fun _ h => (good_sel h (fun _ h => (good_sel h (fun _ h => good_ret (by cases h; rfl)) (fun _ h => good_cut (t21_4 k _ _ _ _ ok h)))) (fun _ h => good_ret (by cases h; rfl)))) (fun _ h => good_ret (by cases h; rfl)))) (fun _ h => nomatch h))
def hitIV (l : List Sg) (q : List Pt) (i j : Nat) : Bool :=
  bif (q.getD i .zero).x == (backP q i).x && (q.getD i .zero).y == (backP q i).y then onP (l.getD j .zero).x0 (l.getD j .zero).y0 (l.getD j .zero).x1 (l.getD j .zero).y1 (q.getD i .zero).x (q.getD i .zero).y 1
  else kindIV (l.getD j .zero).x0 (l.getD j .zero).y0 (l.getD j .zero).x1 (l.getD j .zero).y1 (legOf (q.getD i .zero) (backP q i)).x0 (legOf (q.getD i .zero) (backP q i)).y0 (legOf (q.getD i .zero) (backP q i)).x1 (legOf (q.getD i .zero) (backP q i)).y1 != 0
def freeIV (l : List Sg) (q : List Pt) : Bool := segsOkV l && (wayOkV q && rowFree (hitIV l q) l.length q.length)
theorem leg_ok {a b : Pt} (ha : spotIn a.x a.y) (hb : spotIn b.x b.y) (h : a ≠ b) : segOkV (legOf a b).x0 (legOf a b).y0 (legOf a b).x1 (legOf a b).y1 = true := by
  have oa := spotOk_iff.2 ha
  have ob := spotOk_iff.2 hb
  unfold segOkV
  rcases leg_cases a b h with ⟨h1, h2⟩ | ⟨h1, h2⟩ <;> rw [h2] <;> simp only [oa, ob, lessV_lt.2 h1, Bool.and_self]
theorem back_idx (i : Nat) (hi : i ≤ 100) : (if true = true then if IntKind.i64.wrap ((i : Int) - 1) > 0 then IntKind.i64.wrap ((i : Int) - 1) else 0 else if IntKind.i64.wrap ((i : Int) - 1) < 0 then IntKind.i64.wrap ((i : Int) - 1) else 0) = ((i - 1 : Nat) : Int) := by
  rw [wrapI (by omega) (by omega), if_pos rfl]
  split <;> omega
theorem freeI_in {l : List Sg} {q : List Pt} (hl : l.length ≤ 40) (hn : q.length ≤ 12) (hs : ∀ s ∈ l, sgIn s) (hso : ∀ s ∈ l, sgOk s = true) (hq : ∀ p ∈ q, spotIn p.x p.y) {i : Nat} (hi : i < q.length) {R : Bool} {K : Nat}
    (hout : ∀ k, K ≤ k → L21_10 k l q q.length ((i + 1 : Nat) : Int) = some R) : ∀ (d j k : Nat), j + d = l.length → d + 1 + K ≤ k →
    L21_14 k l q q.length i (q.getD i .zero).x (q.getD i .zero).y (backP q i).x (backP q i).y l.length j = some (allUp (fun j => !hitIV l q i j) j d && R)
  | d, j, 0, _, hk => by omega
  | 0, j, k + 1, hj, hk => by
    rw [L21_14]
    unfold T21_14
    rw [decide_eq_false (show ¬ (j : Int) < l.length by omega), bsel_false, wrapI (by omega) (by omega), show (i : Int) + 1 = ((i + 1 : Nat) : Int) by omega, hout k (by omega)]
    rfl
  | d + 1, j, k + 1, hj, hk => by
    have ih := freeI_in hl hn hs hso hq hi hout d (j + 1) k (by omega) (by omega)
    have hsj := hs _ (getD_in (d := Sg.zero) (show j < l.length by omega))
    have hoj := hso _ (getD_in (d := Sg.zero) (show j < l.length by omega))
    unfold sgOk at hoj
    have hpi := hq _ (getD_in (d := Pt.zero) hi)
    have hbi := hq _ (getD_in (d := Pt.zero) (show i - 1 < q.length by omega))
    change spotIn (backP q i).x (backP q i).y at hbi
    have ip := spot_i64 hpi
    have wj : IntKind.i64.wrap ((j : Int) + 1) = ((j + 1 : Nat) : Int) := by rw [wrapI (by omega) (by omega)]; omega
    have c1 : decide ((j : Int) < l.length) = true := decide_eq_true (by omega)
    have c2 : decide ((0 : Int) ≤ j) = true := decide_eq_true (by omega)
    rw [L21_14]
    unfold T21_14
    simp only [c1, c2, wj, Int.toNat_natCast, Bool.and_true, bsel_true, pt_eta]
    rw [allUp_cut]
    cases hb : ((q.getD i .zero).x == (backP q i).x && (q.getD i .zero).y == (backP q i).y) with
    | true =>
      have hh : hitIV l q i j = onP (l.getD j .zero).x0 (l.getD j .zero).y0 (l.getD j .zero).x1 (l.getD j .zero).y1 (q.getD i .zero).x (q.getD i .zero).y 1 := by unfold hitIV; rw [hb, cond_true]
      simp only [ip.1, ip.2, pw_of ip.1 ip.2, isSide_iff.2 ⟨hsj.1, hsj.2⟩, (wdsS_wd (wide_i64 ip.1)).1, (wdsS_wd (wide_i64 ip.2)).1, (wdsS_wd (wide_i64 one_i64)).1, Bool.and_self, bsel_true]
      change bsel (onP (l.getD j .zero).x0 (l.getD j .zero).y0 (l.getD j .zero).x1 (l.getD j .zero).y1 (q.getD i .zero).x (q.getD i .zero).y 1) _ _ = _
      rw [hh]
      cases onP (l.getD j .zero).x0 (l.getD j .zero).y0 (l.getD j .zero).x1 (l.getD j .zero).y1 (q.getD i .zero).x (q.getD i .zero).y 1 with
      | true => rfl
      | false => rw [bsel_false, ih]; rfl
    | false =>
      have hne : q.getD i .zero ≠ backP q i := fun e => by rw [e, beq_self_eq_true, beq_self_eq_true] at hb; cases hb
      have hh : hitIV l q i j = (kindIV (l.getD j .zero).x0 (l.getD j .zero).y0 (l.getD j .zero).x1 (l.getD j .zero).y1 (legOf (q.getD i .zero) (backP q i)).x0 (legOf (q.getD i .zero) (backP q i)).y0 (legOf (q.getD i .zero) (backP q i)).x1 (legOf (q.getD i .zero) (backP q i)).y1 != 0) := by unfold hitIV; rw [hb, cond_false]
      simp only [bsel_false, hoj, leg_ok hpi hbi hne, Bool.and_self, bsel_true]
      rw [hh]
      cases kindIV (l.getD j .zero).x0 (l.getD j .zero).y0 (l.getD j .zero).x1 (l.getD j .zero).y1 (legOf (q.getD i .zero) (backP q i)).x0 (legOf (q.getD i .zero) (backP q i)).y0 (legOf (q.getD i .zero) (backP q i)).x1 (legOf (q.getD i .zero) (backP q i)).y1 != 0 with
      | true => rfl
      | false => rw [bsel_false, ih]; rfl
theorem freeI_out {l : List Sg} {q : List Pt} (hl : l.length ≤ 40) (hn : q.length ≤ 12) (hs : ∀ s ∈ l, sgIn s) (hso : ∀ s ∈ l, sgOk s = true) (hq : ∀ p ∈ q, spotIn p.x p.y) : ∀ (d i k : Nat), i + d = q.length → 43 * d + 1 ≤ k →
    L21_10 k l q q.length i = some (allUp (fun i => allUp (fun j => !hitIV l q i j) 0 l.length) i d)
  | d, i, 0, _, hk => by omega
  | 0, i, k + 1, hi, hk => by
    rw [L21_10]
    unfold T21_10
    rw [decide_eq_false (show ¬ (i : Int) < q.length by omega)]
    rfl
  | d + 1, i, k + 1, hi, hk => by
    have ih := freeI_in hl hn hs hso hq (i := i) (by omega) (K := 43 * d + 1) (fun k hk => freeI_out hl hn hs hso hq d (i + 1) k (by omega) hk) l.length 0 k (by omega) (by omega)
    rw [L21_10]
    unfold T21_10
    rw [back_idx i (by omega), decide_eq_true (show (i : Int) < q.length by omega), decide_eq_true (show (0 : Int) ≤ i by omega), decide_eq_true (show (0 : Int) ≤ ((i - 1 : Nat) : Int) by omega), decide_eq_true (show ((i - 1 : Nat) : Int) < q.length by omega), allUp_cut]
    simp only [bsel_true, Int.toNat_natCast]
    exact ih
theorem spots_loop {l : List Sg} {q : List Pt} (hn : q.length ≤ 12) {R : Bool} {K : Nat} (hout : (∀ p ∈ q, spotOkV p.x p.y = true) → ∀ k, K ≤ k → L21_10 k l q q.length 0 = some R) : ∀ (d i k : Nat), i + d = q.length → d + 1 + K ≤ k → (∀ p ∈ q.take i, spotOkV p.x p.y = true) →
    L21_4 k l q q.length i = some (((q.drop i).all fun p => spotOkV p.x p.y) && R)
  | d, i, 0, _, hk, _ => by omega
  | 0, i, k + 1, hi, hk, ht => by
    have e : q.take i = q := List.take_of_length_le (by omega)
    rw [e] at ht
    rw [L21_4]
    unfold T21_4
    rw [decide_eq_false (show ¬ (i : Int) < q.length by omega), bsel_false, hout ht k (by omega), List.drop_eq_nil_of_le (by omega)]
    rfl
  | d + 1, i, k + 1, hi, hk, ht => by
    have hlt : i < q.length := by omega
    have hg : q.getD i Pt.zero = q[i] := by simp [List.getD, List.getElem?_eq_getElem hlt]
    rw [L21_4]
    unfold T21_4
    rw [decide_eq_true (show (i : Int) < q.length by omega), decide_eq_true (show (0 : Int) ≤ i by omega), Int.toNat_natCast, hg, wrapI (by omega) (by omega), show (i : Int) + 1 = ((i + 1 : Nat) : Int) by omega, List.drop_eq_getElem_cons hlt, List.all_cons]
    simp only [bsel_true]
    cases ho : spotOkV q[i].x q[i].y with
    | false => rfl
    | true =>
      rw [Bool.not_true, bsel_false, spots_loop hn hout d (i + 1) k (by omega) (by omega) fun p hp => by
        rw [List.take_succ_eq_append_getElem hlt, List.mem_append] at hp
        rcases hp with hp | hp
        · exact ht p hp
        · simp at hp; subst hp; exact ho]
      rfl
theorem freeI_law (l : List Sg) (q : List Pt) : G21 700 l q = some (freeIV l q) := by
  unfold G21 T21 freeIV
  rw [isSegs_segsF, unSegs_segsF, bsel_true]
  cases h1 : segsOkV l with
  | false => rfl
  | true =>
    obtain ⟨k1, k2⟩ := segsOk_iff.1 h1
    unfold wayOkV
    simp only [Bool.not_true, bsel_true, Bool.true_and, show (false == false) = true from rfl]
    by_cases h3 : q.length < 1
    · rw [decide_eq_true (show (q.length : Int) < 1 by omega), decide_eq_false (show ¬ (1 ≤ q.length ∧ q.length ≤ 12) by omega)]; rfl
    · by_cases h2 : q.length > 12
      · rw [decide_eq_false (show ¬ (q.length : Int) < 1 by omega), decide_eq_true (show (q.length : Int) > 12 by omega), decide_eq_false (show ¬ (1 ≤ q.length ∧ q.length ≤ 12) by omega)]; rfl
      · rw [decide_eq_false (show ¬ (q.length : Int) < 1 by omega), decide_eq_false (show ¬ (q.length : Int) > 12 by omega), decide_eq_true (show 1 ≤ q.length ∧ q.length ≤ 12 by omega)]
        exact spots_loop (by omega) (fun ho k hk => freeI_out k1 (by omega) (fun s hs => sgOk_in (k2 s hs)) k2 (fun p hp => spotOk_iff.1 (ho p hp)) q.length 0 k (by omega) hk) q.length 0 700 (by omega) (by omega) (by simp)
def resFreeI : List F → F | [x, y] => .bool (freeIV (unSegs x) (unPts y)) | _ => .dflt
theorem okFreeI : PureOK Try.prog 21 preFree resFreeI :=
  fn_pure_at (c := bodyOf Try.f21) Try.func21 (by kernel_rfl) (by kernel_rfl) fun xs hp => match xs, hp with
  | [x, y], hp => by
    simp only [preFree, Bool.and_eq_true] at hp
    exact ⟨[segsF (unSegs x), ptsF (unPts y)], _, ⟨(segs_eqv hp.1).1, (pts_eqv hp.2).1, trivial⟩, t21 _ _ _ _ (freeI_law _ _), .refl _⟩

/-! Both tell the same. -/
theorem rowFree_iff {h : Nat → Nat → Bool} {m n : Nat} : rowFree h m n = true ↔ ∀ j, j < m → ¬ ∃ i, i < n ∧ h i j = true := by
  unfold rowFree
  rw [allUp_iff]
  constructor
  · rintro g j hj ⟨i, hi, e⟩
    have := (allUp_iff _ _ _).1 (g i (by omega) (by omega)) j (by omega) (by omega)
    rw [e] at this
    cases this
  · intro g i _ hi
    rw [allUp_iff]
    intro j _ hj
    cases e : h i j with
    | false => rfl
    | true => exact absurd ⟨i, by omega, e⟩ (g j (by omega))
theorem legK_iff {a b : Pt} (ha : spotIn a.x a.y) (hb : spotIn b.x b.y) : legKV a.x a.y b.x b.y = true ↔ a ≠ b := by
  constructor
  · intro h e
    subst e
    unfold legKV at h
    have hs := (sgOk_parts h).2.2
    unfold legOf at hs
    cases hl : lessV a.x a.y a.x a.y with
    | true => have := lessV_lt.1 hl; unfold lexLt at this; omega
    | false => rw [hl] at hs; simp only [cond_false] at hs; unfold lexLt at hs; omega
  · exact fun h => leg_ok ha hb h
theorem hit3_iff {l : List Sg} {q : List Pt} (hso : ∀ s ∈ l, sgOk s = true) (hq : ∀ p ∈ q, spotIn p.x p.y) {i j : Nat} (hi : i < q.length) (hj : j < l.length) : hit3V l q i j = true ↔ hitAhead q (l.getD j .zero) i := by
  have hoj := hso _ (getD_in (d := Sg.zero) hj)
  unfold sgOk at hoj
  have rj := (sgOk_parts hoj).2.2
  have hpi := hq _ (getD_in (d := Pt.zero) hi)
  unfold hit3V hitAhead
  rw [Bool.or_eq_true, btw_on rj, Bool.and_eq_true, Bool.and_eq_true, decide_eq_true_eq]
  refine or_congr Iff.rfl ?_
  constructor
  · rintro ⟨h1, h2, h3⟩
    have hpn := hq _ (getD_in (d := Pt.zero) h1)
    have e : legGV (q.getD i .zero).x (q.getD i .zero).y (q.getD (i + 1) .zero).x (q.getD (i + 1) .zero).y = legOf (q.getD i .zero) (q.getD (i + 1) .zero) := by unfold legGV; rw [h2]; rfl
    rw [e, bne_iff_ne] at h3
    exact ⟨h1, (legK_iff hpi hpn).1 h2, (kind3_iff h2 hoj).1 h3⟩
  · rintro ⟨h1, h2, h3⟩
    have hpn := hq _ (getD_in (d := Pt.zero) h1)
    have h2' := (legK_iff hpi hpn).2 h2
    have e : legGV (q.getD i .zero).x (q.getD i .zero).y (q.getD (i + 1) .zero).x (q.getD (i + 1) .zero).y = legOf (q.getD i .zero) (q.getD (i + 1) .zero) := by unfold legGV; rw [h2']; rfl
    rw [e, bne_iff_ne]
    exact ⟨h1, h2', (kind3_iff h2' hoj).2 h3⟩
theorem hitI_iff {l : List Sg} {q : List Pt} (hso : ∀ s ∈ l, sgOk s = true) (hq : ∀ p ∈ q, spotIn p.x p.y) {i j : Nat} (hi : i < q.length) (hj : j < l.length) : hitIV l q i j = true ↔ hitBack q (l.getD j .zero) i := by
  have hoj := hso _ (getD_in (d := Sg.zero) hj)
  unfold sgOk at hoj
  have hpi := hq _ (getD_in (d := Pt.zero) hi)
  have hbi := hq _ (getD_in (d := Pt.zero) (show i - 1 < q.length by omega))
  change spotIn (backP q i).x (backP q i).y at hbi
  unfold hitIV hitBack
  cases hb : ((q.getD i .zero).x == (backP q i).x && (q.getD i .zero).y == (backP q i).y) with
  | true =>
    simp only [Bool.and_eq_true, beq_iff_eq] at hb
    have e := pt_ext hb.1 hb.2
    rw [cond_true, onP_on]
    exact ⟨fun h => .inl ⟨e, h⟩, fun h => by
      rcases h with ⟨_, h⟩ | ⟨h, _⟩
      · exact h
      · exact absurd e h⟩
  | false =>
    have hne : q.getD i .zero ≠ backP q i := fun e => by rw [e, beq_self_eq_true, beq_self_eq_true] at hb; cases hb
    rw [cond_false, bne_iff_ne]
    have hk := (kindI_ok hoj (leg_ok hpi hbi hne)).2.1
    exact ⟨fun h => .inr ⟨hne, hk.1 h⟩, fun h => by
      rcases h with ⟨h, _⟩ | ⟨_, h⟩
      · exact absurd h hne
      · exact hk.2 h⟩
theorem free_same (l : List Sg) (q : List Pt) : freeIV l q = free3V l q := by
  unfold freeIV free3V
  cases h1 : segsOkV l with
  | false => rfl
  | true =>
    cases h2 : wayOkV q with
    | false => rfl
    | true =>
      obtain ⟨k1, k2⟩ := segsOk_iff.1 h1
      obtain ⟨k3, k4⟩ := wayOk_iff.1 h2
      rw [Bool.true_and, Bool.true_and, Bool.true_and, Bool.true_and]
      apply Bool.eq_iff_iff.2
      rw [rowFree_iff, rowFree_iff]
      refine forall_congr' fun j => forall_congr' fun hj => not_congr ?_
      have hoj := k2 _ (getD_in (d := Sg.zero) hj)
      have rj : riseS (l.getD j .zero) := (sgOk_parts hoj).2.2
      have hh := hits_iff q rj
      constructor
      · rintro ⟨i, hi, h⟩
        obtain ⟨i', hi', h'⟩ := hh.2 ⟨i, hi, (hitI_iff k2 k4 hi hj).1 h⟩
        exact ⟨i', hi', (hit3_iff k2 k4 hi' hj).2 h'⟩
      · rintro ⟨i, hi, h⟩
        obtain ⟨i', hi', h'⟩ := hh.1 ⟨i, hi, (hit3_iff k2 k4 hi hj).1 h⟩
        exact ⟨i', hi', (hitI_iff k2 k4 hi' hj).2 h'⟩
def envH13 : Env := envH12.add 21 (.pure preFree resFreeI)
theorem envH13_ok : EnvOK Try.prog envH13 := (Env.add_ok envH12_ok okFreeI.sp)
end
end Go.Proofs.Ytmambbfnjbdfgaa.R

namespace Go.Proofs.Ytmambbfnjbdfgaa.R
open Go
noncomputable section
def envZ5a : Env := envZ3.or envH13
theorem envZ5a_ok : EnvOK Try.prog envZ5a := Env.or_ok envZ3_ok envH13_ok
end
end Go.Proofs.Ytmambbfnjbdfgaa.R

namespace Go.Proofs.Ytmambbfnjbdfgaa.R
open Go
noncomputable section
set_option linter.unusedVariables false
set_option linter.unusedSimpArgs false
set_option maxRecDepth 100000
/-! ### function 18 -/
def T18 {ρ : Type} (ret : (Int) → Option ρ) (a : List Pt) (lf : Int) : Option ρ :=
 (bsel (decide (IntKind.i64.wrap (lf - (↑a.length : Int)) < 0))
 (ret (-1))
 (ret (IntKind.i64.wrap (lf - (↑a.length : Int)))))
def G18 (a : List Pt) (lf : Int) : Option (Int) := T18 some a lf
theorem t18 (a : List Pt) (lf : Int) (r : Int) (h : G18 a lf = some r) : Ends Try.prog Try.f18.results.toList [.code (bodyOf Try.f18)] (start Try.f18.ntmps ([ptsF a, F.int .i64 lf].map .f)) (F.int .i64 r) := by
  refine Ends.of_run tyOK envZ5a_ok (T := []) (n := 200) ?_
  have e : run Try.prog (tiOf Try.prog) envZ5a [] 0 Try.f18.results.toList some 200 [.code (bodyOf Try.f18)] (start Try.f18.ntmps ([ptsF a, F.int .i64 lf].map .f)) = T18 (fun r => some (.ret (F.int .i64 r))) a lf := by kernel_rfl
  rw [e]
  exact (good_sel h (fun _ h => good_ret (by cases h; rfl)) (fun _ h => good_ret (by cases h; rfl)))
/-! ### function 20 -/
def S20_3 (a : List Pt) (n : Nat) (g : Nat → F) (i : Int) : St := ⟨[(U.f (ptsF a)), .bad, .bad, (U.hs 0 n 0 n), (U.f (F.int .i64 i)), .bad, .bad, .bad, .bad, .bad, .bad, .bad, .bad, .bad, .bad, .bad, .bad, .bad, .bad, .bad, .bad, .bad, .bad], [HO.arr 2 n g]⟩
def T20_3 {ρ : Type} (ret : (F) → Option ρ) (c3 : (List Pt) → (Nat) → (Nat → F) → (Int) → Option ρ) (a : List Pt) (n : Nat) (g : Nat → F) (i : Int) : Option ρ :=
 (bsel (decide (i < (↑a.length : Int)))
 (bsel (decide (0 ≤ i))
 (bsel (decide (i < (↑a.length : Int)))
 (bsel (decide (n = n))
 (bsel (decide (0 ≤ i))
 (bsel (decide (i < (↑n : Int)))
 (bsel (decide (n = n))
 (bsel (decide (0 + i.toNat < n))
 (bsel (decide ((g (0 + i.toNat)).cells.length = 2))
 (bsel ((isAggF (g (0 + i.toNat)) || false) && true)
 (c3 (a) (n) (fun j ↦ if j = 0 + i.toNat then F.agg [F.int .i64 (a.getD i.toNat Pt.zero).x, F.int .i64 (a.getD i.toNat Pt.zero).y] else g j) (IntKind.i64.wrap (i + 1)))
 none)
 none)
 none)
 none)
 none)
 none)
 none)
 none)
 none)
 (bsel (decide (n = n) && true && decide (n = n))
 (bsel (isScal n g)
 (ret (F.tup [F.tup [F.int .i64 ((2 : Nat) : Int), F.sl n g]]))
 none)
 none))
def L20_3 : Nat → (List Pt) → (Nat) → (Nat → F) → (Int) → Option (F)
  | 0, _, _, _, _ => none
  | k + 1, a, n, g, i => T20_3 some (L20_3 k) a n g i
def T20 {ρ : Type} (ret : (F) → Option ρ) (c3 : (List Pt) → (Nat) → (Nat → F) → (Int) → Option ρ) (a : List Pt) : Option ρ :=
 (bsel (decide ((↑a.length : Int) ≤ (↑a.length : Int)))
 (bsel (decide ((↑a.length : Int) * (((16 : Nat) : Int) + 1) ≤ (↑limit : Int)))
 (c3 (a) ((↑a.length : Int).toNat) (fun x ↦ F.agg [F.int .i64 0, F.int .i64 0]) (0))
 none)
 none)
def G20 (k : Nat) (a : List Pt) : Option (F) := T20 some (L20_3 k) a
theorem t20_3 : ∀ (k : Nat) (a : List Pt) (n : Nat) (g : Nat → F) (i : Int) (r : F), L20_3 k a n g i = some r → Ends Try.prog (ResultVar.tmp 1000000 :: Go.Proofs.Try.f20.results.toList) (at_ Try.f20 3) (S20_3 a n g i) (r)
  | 0, _, _, _, _, _, h => nomatch h
  | k + 1, a, n, g, i, r, h => by
    refine Ends.of_cut tyOK envZ5a_ok (T := [(3, [0, 3, 4], 1000)]) (n := 200) ?_
    have e : runCut Try.prog (tiOf Try.prog) envZ5a [(3, [0, 3, 4], 1000)] 0 (ResultVar.tmp 1000000 :: Go.Proofs.Try.f20.results.toList) some 200 (at_ Try.f20 3) (S20_3 a n g i) = T20_3 (fun r => some (.ret (r))) (fun a n g i => some (.cut (at_ Try.f20 3) (S20_3 a n g i))) a n g i := by kernel_rfl
    rw [e]
    exact (good_sel h (fun _ h => (good_sel h (fun _ h => (good_sel h (fun _ h => (good_sel h (fun _ h => (good_sel h (fun _ h => (good_sel h (fun _ h => (good_sel h (fun _ h => (good_sel h (fun _ h => (good_sel h (fun _ h => (good_sel h (fun _ h => good_cut (t20_3 k _ _ _ _ r h)) (fun _ h => nomatch h))) (fun _ h => nomatch h))) (fun _ h => nomatch h))) (fun _ h => nomatch h))) (fun _ h => nomatch h))) (fun _ h => nomatch h))) (fun _ h => nomatch h))) (fun _ h => nomatch h))) (fun _ h => nomatch h))) (fun _ h => (good_sel h (fun _ h => (good_sel h (fun _ h => good_ret (by cases h; rfl)) (fun _ h => nomatch h))) (fun _ h => nomatch h))))
theorem t20 (k : Nat) (a : List Pt) (r : F) (h : G20 k a = some r) : Ends Try.prog (ResultVar.tmp 1000000 :: Go.Proofs.Try.f20.results.toList) [.code (bodyOf Try.f20)] (start Try.f20.ntmps ([ptsF a].map .f)) (r) := by
  refine Ends.of_run tyOK envZ5a_ok (T := [(3, [0, 3, 4], 1000)]) (n := 200) ?_
  have e : run Try.prog (tiOf Try.prog) envZ5a [(3, [0, 3, 4], 1000)] 0 (ResultVar.tmp 1000000 :: Go.Proofs.Try.f20.results.toList) some 200 [.code (bodyOf Try.f20)] (start Try.f20.ntmps ([ptsF a].map .f)) = T20 (fun r => some (.ret (r))) (fun a n g i => some (.cut (at_ Try.f20 3) (S20_3 a n g i))) a := by kernel_rfl
  rw [e]
  exact (good_sel h (fun _ h => (good_sel h (fun _ h => good_cut (t20_3 k _ _ _ _ r h)) (fun _ h => nomatch h))) (fun _ h => nomatch h))
/-! ### function 22 -/
def S22_4 (a : List Pt) (b : List Pt) (i : Int) : St := ⟨[(U.f (ptsF a)), (U.f (ptsF b)), .bad, .bad, .bad, (U.f (F.int .i64 i)), .bad, .bad, .bad, .bad, .bad, .bad, .bad, .bad, .bad, .bad, .bad, .bad, .bad, .bad, .bad, .bad, .bad, .bad, .bad, .bad, .bad], []⟩
def T22_4 {ρ : Type} (ret : (Bool) → Option ρ) (c4 : (List Pt) → (List Pt) → (Int) → Option ρ) (a : List Pt) (b : List Pt) (i : Int) : Option ρ :=
 (bsel (decide (i < (↑a.length : Int)))
 (bsel (decide (0 ≤ i))
 (bsel (decide (i < (↑a.length : Int)))
 (bsel (decide (0 ≤ i))
 (bsel (decide (i < (↑b.length : Int)))
 (bsel (!sameSpotV (a.getD i.toNat Pt.zero).x (a.getD i.toNat Pt.zero).y (b.getD i.toNat Pt.zero).x (b.getD i.toNat Pt.zero).y)
 (ret (false))
 (c4 (a) (b) (IntKind.i64.wrap (i + 1))))
 none)
 none)
 none)
 none)
 (ret (true)))
def L22_4 : Nat → (List Pt) → (List Pt) → (Int) → Option (Bool)
  | 0, _, _, _ => none
  | k + 1, a, b, i => T22_4 some (L22_4 k) a b i
def T22 {ρ : Type} (ret : (Bool) → Option ρ) (c4 : (List Pt) → (List Pt) → (Int) → Option ρ) (a : List Pt) (b : List Pt) : Option ρ :=
 (bsel ((↑a.length : Int) != (↑b.length : Int))
 (ret (false))
 (c4 (a) (b) (0)))
def G22 (k : Nat) (a : List Pt) (b : List Pt) : Option (Bool) := T22 some (L22_4 k) a b
theorem t22_4 : ∀ (k : Nat) (a : List Pt) (b : List Pt) (i : Int) (r : Bool), L22_4 k a b i = some r → Ends Try.prog Try.f22.results.toList (at_ Try.f22 4) (S22_4 a b i) (F.bool r)
  | 0, _, _, _, _, h => nomatch h
  | k + 1, a, b, i, r, h => by
    refine Ends.of_cut tyOK envZ5a_ok (T := [(4, [0, 1, 5], 1000)]) (n := 200) ?_
    have e : runCut Try.prog (tiOf Try.prog) envZ5a [(4, [0, 1, 5], 1000)] 0 Try.f22.results.toList some 200 (at_ Try.f22 4) (S22_4 a b i) = T22_4 (fun r => some (.ret (F.bool r))) (fun a b i => some (.cut (at_ Try.f22 4) (S22_4 a b i))) a b i := by kernel_rfl
    rw [e]
    exact (good_sel h (fun _ h => (good_sel h (fun _ h => (good_sel h (fun _ h => (good_sel h (fun _ h => (good_sel h (fun _ h => (good_sel h (fun _ h => good_ret (by cases h; rfl)) (fun _ h => good_cut (t22_4 k _ _ _ r h)))) (fun _ h => nomatch h))) (fun _ h => nomatch h))) (fun _ h => nomatch h))) (fun _ h => nomatch h))) (fun _ h => good_ret (by cases h; rfl)))
theorem t22 (k : Nat) (a : List Pt) (b : List Pt) (r : Bool) (h : G22 k a b = some r) : Ends Try.prog Try.f22.results.toList [.code (bodyOf Try.f22)] (start Try.f22.ntmps ([ptsF a, ptsF b].map .f)) (F.bool r) := by
  refine Ends.of_run tyOK envZ5a_ok (T := [(4, [0, 1, 5], 1000)]) (n := 200) ?_
  have e : run Try.prog (tiOf Try.prog) envZ5a [(4, [0, 1, 5], 1000)] 0 Try.f22.results.toList some 200 [.code (bodyOf Try.f22)] (start Try.f22.ntmps ([ptsF a, ptsF b].map .f)) = T22 (fun r => some (.ret (F.bool r))) (fun a b i => some (.cut (at_ Try.f22 4) (S22_4 a b i))) a b := by kernel_rfl
  rw [e]
  exact (good_sel h (fun _ h => good_ret (by cases h; rfl)) (fun _ h => good_cut (t22_4 k _ _ _ r h)))
def resSzPts : List F → F | [a, .int .i64 k] => .int .i64 (leftV (unPts a).length k) | _ => .dflt
def preSzPts : List F → Bool | [a, .int .i64 _] => isPts a | _ => false
theorem okSzPts : PureOK Try.prog 18 preSzPts resSzPts :=
  fn_pure_at (c := bodyOf Try.f18) Try.func18 (by kernel_rfl) (by kernel_rfl) fun xs hp => match xs, hp with
  | [a, .int .i64 k], hp => ⟨[ptsF (unPts a), .int .i64 k], _, ⟨(pts_eqv hp).1, .refl _, trivial⟩, t18 _ _ (leftV (unPts a).length k) (by
      unfold G18 T18 leftV
      cases decide (IntKind.i64.wrap (k - ((unPts a).length : Int)) < 0) <;> rfl), .refl _⟩
def ptZ : F := F.agg [F.int .i64 0, F.int .i64 0]
theorem toPts_loop (a : List Pt) (hs : a.length ≤ 1048576) : ∀ (d i : Nat) (g : Nat → F), i + d = a.length → Fills ptF .zero ptZ a i g → ∃ g1, L20_3 (d + 1) a a.length g i = some (F.tup [F.tup [.int .i64 ((2 : Nat) : Int), .sl a.length g1]]) ∧ Lists ptF .zero a.length g1 a
  | 0, i, g, h, hg => by
    have c1 : decide ((i : Int) < (a.length : Int)) = false := decide_eq_false (by omega)
    obtain rfl : i = a.length := by omega
    have c2 : isScal a.length g = true := scal_of fun j hj => by rw [(hg j).1 hj]; rfl
    exact ⟨g, by simp only [L20_3, T20_3, c1, c2, bsel_false, decide_true, bsel_true, Bool.and_self], hg.lists⟩
  | d + 1, i, g, h, hg => by
    have hi : i < a.length := by omega
    have c1 : decide ((i : Int) < (a.length : Int)) = true := decide_eq_true (by omega)
    have c2 : decide (0 ≤ (i : Int)) = true := decide_eq_true (by omega)
    have c3 : decide (i < a.length) = true := decide_eq_true hi
    have hw : IntKind.i64.wrap ((i : Int) + 1) = ((i + 1 : Nat) : Int) := by rw [wrapi (by omega) (by omega)]; omega
    have c4 : g i = ptZ := (hg i).2 (Nat.le_refl _)
    obtain ⟨g1, e1, e2⟩ := toPts_loop a hs d (i + 1) _ (by omega) hg.set
    refine ⟨g1, ?_, e2⟩
    rw [← e1, L20_3]
    simp only [T20_3, c1, c2, c3, hw, bsel_true, decide_true, Int.toNat_natCast, Nat.zero_add, c4]
    rfl
def shortPtsV (l : List Pt) : Bool := decide (l.length ≤ 1048576)
def preToPts : List F → Bool | [a] => isPts a && shortPtsV (unPts a) | _ => false
def resToPts : List F → F | [a] => .tup [.tup [.int .i64 2, .sl (unPts a).length fun i => ptF ((unPts a).getD i .zero)]] | _ => .dflt
theorem okToPts : SpOK Try.prog 20 (.own preToPts (fun _ => true) resToPts resToPts) :=
  fn_own (c := bodyOf Try.f20) Try.func20 (by kernel_rfl) (by kernel_rfl) fun xs hp => match xs, hp with
  | [a], hp => by
    simp only [preToPts, Bool.and_eq_true] at hp
    have hs := of_decide_eq_true hp.2
    have hx := (pts_eqv hp.1).1
    have h1 : resToPts [a] = .tup [.tup [.int .i64 2, .sl (unPts a).length fun i => ptF ((unPts a).getD i .zero)]] := rfl
    simp only [if_true]
    rw [h1]
    generalize unPts a = l at hx hs ⊢
    obtain ⟨g1, e1, e2⟩ := toPts_loop l hs l.length 0 _ (by omega) Fills.zero
    have c3 : decide (((l.length : Nat) : Int) * (((16 : Nat) : Int) + 1) ≤ (limit : Int)) = true := by rw [limit_eq]; exact decide_eq_true (by omega)
    have hg : G20 (l.length + 1) l = some (F.tup [F.tup [.int .i64 ((2 : Nat) : Int), .sl l.length g1]]) := by
      unfold G20 T20
      simp only [c3, Int.le_refl, decide_true, bsel_true, Int.toNat_natCast]
      exact e1
    exact ⟨[ptsF l], _, [.tup [.int .i64 2, .sl l.length fun i => ptF (l.getD i .zero)]], ⟨hx, trivial⟩, t20 _ _ _ hg, ⟨.of (.obj _ _ _ _ _ e2.2), trivial⟩, rfl⟩
def samePtsV : List Pt → List Pt → Bool
  | [], [] => true
  | a :: a', b :: b' => sameSpotV a.x a.y b.x b.y && samePtsV a' b'
  | _, _ => false
theorem samePts_ne : ∀ (a b : List Pt), a.length ≠ b.length → samePtsV a b = false
  | [], [], h => absurd rfl h
  | [], _ :: _, _ => rfl
  | _ :: _, [], _ => rfl
  | a :: a', b :: b', h => by rw [samePtsV, samePts_ne a' b' (by simpa using h), Bool.and_false]
theorem samePts_refl : ∀ a : List Pt, samePtsV a a = true
  | [] => rfl
  | t :: a => by simp [samePtsV, sameSpotV, samePts_refl a]
theorem eqPts_loop (a b : List Pt) (hl : a.length = b.length) (hs : a.length ≤ 1048576) : ∀ (d i : Nat), i + d = a.length → L22_4 (d + 1) a b i = some (samePtsV (a.drop i) (b.drop i))
  | 0, i, h => by
    have c1 : decide ((i : Int) < (a.length : Int)) = false := decide_eq_false (by omega)
    simp only [L22_4, T22_4, c1, bsel_false]
    rw [List.drop_eq_nil_of_le (by omega), List.drop_eq_nil_of_le (by omega)]
    rfl
  | d + 1, i, h => by
    have hi : i < a.length := by omega
    have c1 : decide ((i : Int) < (a.length : Int)) = true := decide_eq_true (by omega)
    have c3 : decide ((i : Int) < (b.length : Int)) = true := decide_eq_true (by omega)
    have c2 : decide (0 ≤ (i : Int)) = true := decide_eq_true (by omega)
    have hw : IntKind.i64.wrap ((i : Int) + 1) = ((i + 1 : Nat) : Int) := by rw [wrapi (by omega) (by omega)]; omega
    have h1 : a.getD i .zero = a[i] := by simp [List.getD, List.getElem?_eq_getElem hi]
    have h2 : b.getD i .zero = b[i]'(by omega) := by simp [List.getD, List.getElem?_eq_getElem (show i < b.length by omega)]
    rw [L22_4]
    simp only [T22_4, c1, c2, c3, hw, eqPts_loop a b hl hs d (i + 1) (by omega), bsel_true, Int.toNat_natCast]
    rw [List.drop_eq_getElem_cons hi, List.drop_eq_getElem_cons (show i < b.length by omega), samePtsV, h1, h2]
    cases sameSpotV a[i].x a[i].y (b[i]'(by omega)).x (b[i]'(by omega)).y <;> rfl
def preEqPts : List F → Bool | [a, b] => isPts a && isPts b && shortPtsV (unPts a) | _ => false
def resEqPts : List F → F | [a, b] => .bool (samePtsV (unPts a) (unPts b)) | _ => .dflt
theorem eqPts_law (a b : List Pt) (hs : shortPtsV a = true) : G22 (a.length + 1) a b = some (samePtsV a b) := by
  unfold G22 T22
  rw [bne]
  cases h : ((a.length : Int) == (b.length : Int)) with
  | true => exact eqPts_loop a b (by have := eq_of_beq h; omega) (of_decide_eq_true hs) a.length 0 (by omega)
  | false => rw [samePts_ne a b fun e => by simp [e] at h]; rfl
theorem okEqPts : PureOK Try.prog 22 preEqPts resEqPts :=
  fn_pure_at (c := bodyOf Try.f22) Try.func22 (by kernel_rfl) (by kernel_rfl) fun xs hp => match xs, hp with
  | [a, b], hp => by
    simp only [preEqPts, Bool.and_eq_true] at hp
    exact ⟨[ptsF (unPts a), ptsF (unPts b)], _, ⟨(pts_eqv hp.1.1).1, (pts_eqv hp.1.2).1, trivial⟩, t22 _ _ _ _ (eqPts_law _ _ hp.2), .refl _⟩
def envZ5 : Env := ((envZ5a.add 18 (.pure preSzPts resSzPts)).add 20 (.own preToPts (fun _ => true) resToPts resToPts)).add 22 (.pure preEqPts resEqPts)
theorem envZ5_ok : EnvOK Try.prog envZ5 := (Env.add_ok (Env.add_ok (Env.add_ok envZ5a_ok okSzPts.sp) okToPts) okEqPts.sp)
end
end Go.Proofs.Ytmambbfnjbdfgaa.R

namespace Go.Proofs.Ytmambbfnjbdfgaa.R
open Go Go.ChangeShapes Go.WideShapes Go.RowKit
set_option linter.unusedVariables false
set_option linter.unusedSimpArgs false

inductive Sh where
  | bool
  | int (k : IntKind)
  | str
  | sl (ag : Bool) (cs : List Sh)

mutual
def fitC : Sh → F → Bool
  | .bool, .bool _ => true
  | .int k, .int k' n => decide (k' = k) && (Lit.int k n).wf
  | .str, .str s => decide (s.size ≤ maxLen)
  | .sl ag cs, .sl n g => decide (n ≤ maxLen) && (List.range n).all fun i => (fitL cs (g i).cells && (isAggF (g i) == ag))
  | _, _ => false
def fitL : List Sh → List F → Bool
  | [], [] => true
  | s :: ss, x :: xs => fitC s x && fitL ss xs
  | _, _ => false
end

def aggT (P : Program) (t : TypeId) : Bool := match P.underlying t with
  | some (.struct _) => true
  | some (.array _ _) => true
  | _ => false
def shFs (P : Program) (S : TypeId → Option (List Sh)) : Nat → List Field → Option (List Sh)
  | _, [] => some []
  | off, f :: fs => if f.offset = off then match S f.type with
      | some l => if P.cellsOf f.type = l.length then match shFs P S (off + l.length) fs with
          | some ls => some (l ++ ls)
          | none => none
        else none
      | none => none
    else none
def shOf (P : Program) : Nat → TypeId → Option (List Sh)
  | 0, _ => none
  | n + 1, t => match P.underlying t with
    | some .bool => some [.bool]
    | some (.int k) => some [.int k]
    | some .string => some [.str]
    | some (.slice e) => match shOf P n e with
      | some l => if P.cellsOf e = l.length ∧ (aggT P e = true ∨ l.length = 1) ∧ l.length ≠ 0 then some [.sl (aggT P e) l] else none
      | none => none
    | some (.struct fs) => match shFs P (shOf P n) 0 fs.toList with
      | some l => if P.cellsOf t = l.length then some l else none
      | none => none
    | _ => none

theorem fit_int {x : F} (h : fitC (.int .i64) x = true) : ∃ n, x = .int .i64 n := by
  cases x <;> simp_all [fitC]
theorem fit_nil {fs : List F} (h : fitL [] fs = true) : fs = [] := by
  cases fs <;> simp_all [fitL]
theorem fit_cons {s : Sh} {l : List Sh} {fs : List F} (h : fitL (s :: l) fs = true) : ∃ x gs, fs = x :: gs ∧ fitC s x = true ∧ fitL l gs = true := by
  cases fs with
  | nil => simp [fitL] at h
  | cons x gs => simp only [fitL, Bool.and_eq_true] at h; exact ⟨x, gs, rfl, h.1, h.2⟩
theorem fit_sl {ag : Bool} {cs : List Sh} {x : F} (h : fitC (.sl ag cs) x = true) : ∃ n g, x = .sl n g ∧ n ≤ maxLen ∧ ∀ i, i < n → fitL cs (g i).cells = true ∧ isAggF (g i) = ag := by
  cases x with
  | sl n g =>
    simp only [fitC, Bool.and_eq_true, decide_eq_true_eq, List.all_eq_true, List.mem_range, beq_iff_eq] at h
    exact ⟨n, g, rfl, h.1, h.2⟩
  | _ => simp [fitC] at h
theorem agg_cells {x : F} (h : isAggF x = true) : x = .agg x.cells := by cases x <;> simp_all [isAggF, F.cells]
theorem fitC_cell {s : Sh} {x : F} (h : fitC s x = true) : cellF x = true ∧ isAggF x = false := by
  cases s <;> cases x <;> simp_all [fitC, cellF, isAggF]
theorem fitL_len : ∀ (l : List Sh) (fs : List F), fitL l fs = true → fs.length = l.length
  | [], [], _ => rfl
  | [], _ :: _, h => by simp [fitL] at h
  | _ :: _, [], h => by simp [fitL] at h
  | s :: l, x :: fs, h => by
    simp only [fitL, Bool.and_eq_true] at h
    simp [fitL_len l fs h.2]
theorem fitL_get : ∀ (l : List Sh) (fs : List F), fitL l fs = true → ∀ (j : Nat) (u : F), fs[j]? = some u → ∃ s, l[j]? = some s ∧ fitC s u = true
  | [], [], _, j, u, hj => by simp at hj
  | [], _ :: _, h, _, _, _ => by simp [fitL] at h
  | _ :: _, [], h, _, _, _ => by simp [fitL] at h
  | s :: l, x :: fs, h, j, u, hj => by
    simp only [fitL, Bool.and_eq_true] at h
    cases j with
    | zero => simp at hj; subst hj; exact ⟨s, rfl, h.1⟩
    | succ j => simp at hj; simpa using fitL_get l fs h.2 j u hj
theorem fitL_append : ∀ (l l' : List Sh) (fs fs' : List F), fitL l fs = true → fitL l' fs' = true → fitL (l ++ l') (fs ++ fs') = true
  | [], l', [], fs', _, h' => h'
  | [], _, _ :: _, _, h, _ => by simp [fitL] at h
  | _ :: _, _, [], _, h, _ => by simp [fitL] at h
  | s :: l, l', x :: fs, fs', h, h' => by
    simp only [fitL, Bool.and_eq_true] at h
    simp only [List.cons_append, fitL, Bool.and_eq_true]
    exact ⟨h.1, fitL_append l l' fs fs' h.2 h'⟩

section
variable {H : Type} {enc : TypeId × Value → H} {P : Program} {W : World} {base : Nat}

theorem mk_cells {ag : Bool} {l : List Sh} {fs : List F} (h : fitL l fs = true) (hl : ag = true ∨ l.length = 1) : (mkF ag fs).cells = fs ∧ isAggF (mkF ag fs) = ag := by
  cases ag with
  | true => exact ⟨rfl, rfl⟩
  | false =>
    have hl : l.length = 1 := by simpa using hl
    have := fitL_len l fs h
    match fs, this with
    | [x], _ =>
      obtain ⟨s, _, hs⟩ := fitL_get l [x] h 0 x rfl
      obtain ⟨h1, h2⟩ := fitC_cell hs
      constructor
      · cases x <;> simp_all [mkF, F.cells, isAggF]
      · simpa [mkF] using h2
    | [], h0 => simp [hl] at h0
    | _ :: _ :: _, h0 => simp [hl] at h0

abbrev Low (W : World) : Nat → Prop := fun b => b < W.heap.size

theorem open_fields {n : Nat} (ih : ∀ (t : TypeId) (cs : List Value) (x : DataW H × List MemPlace) (k : Nat) (l : List Sh), DataW.trod enc P W 0 (fun _ => true) true n t cs = some x → shOf P k t = some l → ∃ fs, fitL l fs = true ∧ RepL W (Low W) fs cs) (k : Nat) (cs : List Value) :
    ∀ (fl : List Field) (off : Nat) (l : List Sh), (∀ (i : Nat) (f : Field), fl[i]? = some f → ∃ y, DataW.trod enc P W 0 (fun _ => true) true n f.type ((cs.drop f.offset).take (P.cellsOf f.type)) = some y) → shFs P (shOf P k) off fl = some l →
      ∃ fs, fitL l fs = true ∧ RepL W (Low W) fs ((cs.drop off).take l.length)
  | [], off, l, _, h => by
    simp only [shFs, Option.some.injEq] at h
    subst h
    exact ⟨[], rfl, by simp, fun j x v hx => by simp at hx⟩
  | f :: fl, off, l, hf, h => by
    simp only [shFs] at h
    split at h
    · rename_i hoff
      split at h
      · rename_i l1 h1
        split at h
        · rename_i hlen
          split at h
          · rename_i l2 h2
            cases h
            obtain ⟨y, hy⟩ := hf 0 f rfl
            obtain ⟨fs1, a1, b1⟩ := ih _ _ _ _ _ hy h1
            obtain ⟨fs2, a2, b2⟩ := open_fields ih k cs fl (off + l1.length) l2 (fun i f h => hf (i + 1) f (by simpa using h)) h2
            refine ⟨fs1 ++ fs2, fitL_append _ _ _ _ a1 a2, ?_⟩
            rw [hoff, hlen] at b1
            have e : (cs.drop off).take (l1 ++ l2).length = (cs.drop off).take l1.length ++ (cs.drop (off + l1.length)).take l2.length := by
              rw [List.length_append, List.take_add, List.drop_drop]
            rw [e]
            refine ⟨by rw [List.length_append, List.length_append, b1.1, b2.1], fun j x v hx hv => ?_⟩
            by_cases hj : j < fs1.length
            · rw [List.getElem?_append_left hj] at hx
              rw [List.getElem?_append_left (by rw [← b1.1]; exact hj)] at hv
              exact b1.2 j x v hx hv
            · rw [List.getElem?_append_right (by omega)] at hx
              rw [List.getElem?_append_right (by rw [← b1.1]; omega), ← b1.1] at hv
              exact b2.2 _ x v hx hv
          · cases h
        · cases h
      · cases h
    · cases h

theorem rep_one {x : F} {v : Value} (h : RepF W (Low W) x v) : RepL W (Low W) [x] [v] := by
  refine ⟨rfl, fun j y u hy hu => ?_⟩
  cases j with
  | zero => simp at hy hu; subst hy; subst hu; exact h
  | succ j => simp at hy

theorem open_cells : ∀ (n : Nat) (t : TypeId) (cs : List Value) (x : DataW H × List MemPlace) (k : Nat) (l : List Sh), DataW.trod enc P W 0 (fun _ => true) true n t cs = some x → shOf P k t = some l →
    ∃ fs, fitL l fs = true ∧ RepL W (Low W) fs cs := by
  intro n
  induction n with
  | zero => intro t cs x k l h; simp [DataW.trod] at h
  | succ n ih =>
    intro t cs x k l h hs
    cases k with
    | zero => simp [shOf] at hs
    | succ k =>
      simp only [shOf] at hs
      split at hs
      · rename_i ht
        cases hs
        obtain ⟨b, rfl, _⟩ := DataW.trod_bool ht h
        exact ⟨[.bool b], by simp [fitL, fitC], rep_one (.bool b)⟩
      · rename_i kk ht
        cases hs
        obtain ⟨z, rfl, _, hw⟩ := DataW.trod_int ht h
        exact ⟨[.int kk z], by simp [fitL, fitC, hw], rep_one (.int kk z)⟩
      · rename_i ht
        cases hs
        obtain ⟨s, rfl, _, hw⟩ := DataW.trod_string ht h
        exact ⟨[.str s], by simp [fitL, fitC, hw], rep_one (.str s)⟩
      · rename_i e ht
        split at hs
        · rename_i le hle
          split at hs
          · rename_i hc
            cases hs
            rcases DataW.trod_slice ht h with ⟨rfl, _⟩ | ⟨a, len, cap, elems, rest, n', hn', rfl, _, _, hl, hm, hlen, hel, _, _⟩
            · exact ⟨[.sl 0 fun _ => .dflt], by simp [fitL, fitC], rep_one (.sl 0 _ none 0 1 ⟨0, 0, none⟩ (fun _ => undef) (Nat.le_refl _) (fun i hi => by omega) (fun i j u hi => by omega) (fun h => absurd rfl h) (fun i j u hi => by omega) (fun i j u hi => by omega))⟩
            · obtain rfl : n' = n := by omega
              have each : ∀ i, ∃ fs : List F, i < len → fitL le fs = true ∧ ∃ ci, W.cells? 0 (a.add (i * le.length)) le.length = some ci ∧ RepL W (Low W) fs ci := by
                intro i
                by_cases hi : i < len
                · have h1 := hel i hi
                  rw [List.getElem?_eq_getElem (by omega), hc.1] at h1
                  obtain ⟨ci, h2, h3⟩ := Option.bind_eq_some_iff.1 h1
                  obtain ⟨fs, h4, h5⟩ := ih _ _ _ _ _ h3 hle
                  exact ⟨fs, fun _ => ⟨h4, ci, h2, h5⟩⟩
                · exact ⟨[], fun h => absurd h hi⟩
              obtain ⟨G, hG⟩ := Classical.axiomOfChoice each
              have hfit : ∀ i, i < len → fitL le (mkF (aggT P e) (G i)).cells = true ∧ isAggF (mkF (aggT P e) (G i)) = aggT P e := fun i hi => by
                obtain ⟨h1, h2⟩ := mk_cells (hG i hi).1 hc.2.1
                rw [h1]; exact ⟨(hG i hi).1, h2⟩
              have hcells : ∀ i, i < len → (mkF (aggT P e) (G i)).cells = G i := fun i hi => (mk_cells (hG i hi).1 hc.2.1).1
              have hpos : le.length ≠ 0 := hc.2.2
              have hsz : ∀ i, i < len → (G i).length = le.length := fun i hi => fitL_len _ _ (hG i hi).1
              have hsp : len ≠ 0 → a.spot = none ∧ a.block < W.heap.size := fun h0 => by
                obtain ⟨_, ci, h1, _⟩ := hG 0 (by omega)
                obtain ⟨_, h3, h4⟩ := World.cells?_some h1
                have h5 := h4 0 (by omega)
                rw [List.getElem?_eq_getElem (by omega)] at h5
                have h6 := World.cell?_spot h5
                have h7 := cell_lt h5
                exact ⟨by simpa [Addr.add] using h6, by simpa [Addr.add] using h7⟩
              have key : ∀ (i j : Nat) (u : F), i < len → (G i)[j]? = some u → ∃ v, W.cell? ⟨a.block, a.off + (i * le.length + j), none⟩ = some v ∧ RepF W (Low W) u v := fun i j u hi hu => by
                obtain ⟨_, ci, h1, h2⟩ := hG i hi
                obtain ⟨_, h3, h4⟩ := World.cells?_some h1
                have hj := (List.getElem?_eq_some_iff.1 hu).1
                have hs := hsz i hi
                have h5 := h4 j (by omega)
                rw [List.getElem?_eq_getElem (by omega)] at h5
                refine ⟨_, ?_, h2.2 j u _ hu (List.getElem?_eq_getElem (by omega))⟩
                rw [← h5]
                have e := (hsp (by omega)).1
                obtain ⟨ab, ao, asp⟩ := a
                simp only at e
                subst e
                rw [add_zero_addr ⟨ab, ao, none⟩ rfl, add_zero_addr ⟨ab, ao + i * le.length, none⟩ rfl, Nat.add_assoc]
              refine ⟨[.sl len fun i => mkF (aggT P e) (G i)], ?_, rep_one ?_⟩
              · simp only [fitL, fitC, Bool.and_true, Bool.and_eq_true, decide_eq_true_eq, List.all_eq_true, List.mem_range, beq_iff_eq]
                exact ⟨by omega, hfit⟩
              · refine .sl len _ (some a) cap le.length a (fun k => (W.cell? ⟨a.block, a.off + k, none⟩).getD undef) hl (fun i hi => by rw [hcells i hi]; exact hsz i hi) (fun i j u hi hu => ?_) (fun h0 => ⟨rfl, (hsp h0).2, (hsp h0).1⟩) (fun i j u hi hu => ?_) (fun i j u hi hu => ?_)
                · rw [hcells i hi] at hu
                  obtain ⟨s, _, hs⟩ := fitL_get _ _ (hG i hi).1 j u hu
                  exact (fitC_cell hs).1
                · rw [hcells i hi] at hu
                  obtain ⟨v, h1, _⟩ := key i j u hi hu
                  rw [h1]; rfl
                · rw [hcells i hi] at hu
                  obtain ⟨v, h1, h2⟩ := key i j u hi hu
                  rw [h1]; exact h2
          · cases hs
        · cases hs
      · rename_i fs ht
        split at hs
        · rename_i l' hl'
          split at hs
          · rename_i hc
            cases hs
            obtain ⟨xs, n', hn', _, hcl, hxl, hx⟩ := DataW.trod_struct ht h
            obtain rfl : n' = n := by omega
            obtain ⟨gs, g1, g2⟩ := open_fields (fun t cs x k l => ih t cs x k l) k cs fs.toList 0 l (fun i f hf => by
              have hf' : fs[i]? = some f := by simpa using hf
              have hi := (Array.getElem?_eq_some_iff.1 hf').1
              exact ⟨_, (hx i f hf').trans (List.getElem?_eq_getElem (by omega))⟩) hl'
            refine ⟨gs, g1, ?_⟩
            rw [List.drop_zero, List.take_of_length_le (by omega)] at g2
            exact g2
          · cases hs
        · cases hs
      · cases hs

theorem open_sliceF {t e : TypeId} {v : Value} {d : DataW H} {ps : List MemPlace} {k : Nat} {s : Sh} (ht : P.underlying t = some (.slice e)) (hs : shOf P k t = some [s]) (hval : Value.okWide P W .any base t v) (h : DataW.Trod enc P W 0 (fun _ => true) true t v d ps) :
    ∃ x, fitC s x = true ∧ RepF W (fun b => b < W.heap.size) x v := by
  obtain ⟨a, len, cap, rfl⟩ := okWide_slice ht hval
  obtain ⟨n, hf⟩ := h
  obtain ⟨fs, h1, h2⟩ := open_cells n t _ _ k _ hf hs
  have hl := fitL_len _ _ h1
  match fs, hl with
  | [x], _ =>
    simp only [fitL, Bool.and_true] at h1
    exact ⟨x, h1, h2.2 0 x _ rfl (by simp [Value.cells])⟩
end
end Go.Proofs.Ytmambbfnjbdfgaa.R

namespace Go.Proofs.Ytmambbfnjbdfgaa.R
open Go Go.ChangeShapes Go.WideShapes Go.RowKit
noncomputable section
set_option linter.unusedVariables false
set_option linter.unusedSimpArgs false
set_option maxRecDepth 100000
set_option maxHeartbeats 1000000
/-! ### function 5 -/
def T5 {ρ : Type} (ret : (Bool) → Option ρ) (l : List Sg) (q : List Pt) : Option ρ :=
 (bsel (isSegs (segsF l))
 (bsel (decide (leftV (unSegs (segsF l)).length 1048576 < 0))
 (ret (true))
 (bsel (isPts (ptsF q))
 (bsel (decide (leftV (unPts (ptsF q)).length (leftV (unSegs (segsF l)).length 1048576) < 0))
 (ret (true))
 (bsel (isSegs (segsF l) && shortSegsV (unSegs (segsF l)))
 (bsel (isPts (ptsF q) && shortPtsV (unPts (ptsF q)))
 (bsel (decide ((unSegs (segsF l)).length = (unSegs (segsF l)).length))
 (bsel (decide ((unPts (ptsF q)).length = (unPts (ptsF q)).length))
 (bsel (isSegs (F.sl (unSegs (segsF l)).length (offF 0 fun i ↦ sgF ((unSegs (segsF l)).getD i Sg.zero))) && isPts (F.sl (unPts (ptsF q)).length (offF 0 fun i ↦ ptF ((unPts (ptsF q)).getD i Pt.zero))))
 (bsel (isSegs (segsF l) && shortSegsV (unSegs (segsF l)))
 (bsel (isPts (ptsF q) && shortPtsV (unPts (ptsF q)))
 (bsel (decide ((unSegs (segsF l)).length = (unSegs (segsF l)).length))
 (bsel (decide ((unPts (ptsF q)).length = (unPts (ptsF q)).length))
 (bsel (isSegs (F.sl (unSegs (segsF l)).length (offF 0 fun i ↦ F.agg [F.int .i64 ((unSegs (segsF l)).getD i Sg.zero).x0, F.int .i64 ((unSegs (segsF l)).getD i Sg.zero).y0, F.int .i64 ((unSegs (segsF l)).getD i Sg.zero).x1, F.int .i64 ((unSegs (segsF l)).getD i Sg.zero).y1])) && isPts (F.sl (unPts (ptsF q)).length (offF 0 fun i ↦ F.agg [F.int .i64 ((unPts (ptsF q)).getD i Pt.zero).x, F.int .i64 ((unPts (ptsF q)).getD i Pt.zero).y])))
 (bsel (!freeIV (unSegs (F.sl (unSegs (segsF l)).length (offF 0 fun i ↦ F.agg [F.int .i64 ((unSegs (segsF l)).getD i Sg.zero).x0, F.int .i64 ((unSegs (segsF l)).getD i Sg.zero).y0, F.int .i64 ((unSegs (segsF l)).getD i Sg.zero).x1, F.int .i64 ((unSegs (segsF l)).getD i Sg.zero).y1]))) (unPts (F.sl (unPts (ptsF q)).length (offF 0 fun i ↦ F.agg [F.int .i64 ((unPts (ptsF q)).getD i Pt.zero).x, F.int .i64 ((unPts (ptsF q)).getD i Pt.zero).y]))) == free3V (unSegs (F.sl (unSegs (segsF l)).length (offF 0 fun i ↦ sgF ((unSegs (segsF l)).getD i Sg.zero)))) (unPts (F.sl (unPts (ptsF q)).length (offF 0 fun i ↦ ptF ((unPts (ptsF q)).getD i Pt.zero)))))
 (ret (false))
 (bsel (isSegs (segsF l) && shortSegsV (unSegs (segsF l)))
 (bsel (decide ((unSegs (segsF l)).length = (unSegs (segsF l)).length))
 (bsel (decide ((unSegs (segsF l)).length = (unSegs (segsF l)).length))
 (bsel (isSegs (F.sl (unSegs (segsF l)).length (offF 0 fun i ↦ F.agg [F.int .i64 ((unSegs (segsF l)).getD i Sg.zero).x0, F.int .i64 ((unSegs (segsF l)).getD i Sg.zero).y0, F.int .i64 ((unSegs (segsF l)).getD i Sg.zero).x1, F.int .i64 ((unSegs (segsF l)).getD i Sg.zero).y1])) && isSegs (F.sl (unSegs (segsF l)).length (offF 0 fun i ↦ sgF ((unSegs (segsF l)).getD i Sg.zero))) && shortSegsV (unSegs (F.sl (unSegs (segsF l)).length (offF 0 fun i ↦ F.agg [F.int .i64 ((unSegs (segsF l)).getD i Sg.zero).x0, F.int .i64 ((unSegs (segsF l)).getD i Sg.zero).y0, F.int .i64 ((unSegs (segsF l)).getD i Sg.zero).x1, F.int .i64 ((unSegs (segsF l)).getD i Sg.zero).y1]))))
 (bsel (!sameSegsV (unSegs (F.sl (unSegs (segsF l)).length (offF 0 fun i ↦ F.agg [F.int .i64 ((unSegs (segsF l)).getD i Sg.zero).x0, F.int .i64 ((unSegs (segsF l)).getD i Sg.zero).y0, F.int .i64 ((unSegs (segsF l)).getD i Sg.zero).x1, F.int .i64 ((unSegs (segsF l)).getD i Sg.zero).y1]))) (unSegs (F.sl (unSegs (segsF l)).length (offF 0 fun i ↦ sgF ((unSegs (segsF l)).getD i Sg.zero)))))
 (ret (false))
 (bsel (isPts (ptsF q) && shortPtsV (unPts (ptsF q)))
 (bsel (decide ((unPts (ptsF q)).length = (unPts (ptsF q)).length))
 (bsel (decide ((unPts (ptsF q)).length = (unPts (ptsF q)).length))
 (bsel (isPts (F.sl (unPts (ptsF q)).length (offF 0 fun i ↦ F.agg [F.int .i64 ((unPts (ptsF q)).getD i Pt.zero).x, F.int .i64 ((unPts (ptsF q)).getD i Pt.zero).y])) && isPts (F.sl (unPts (ptsF q)).length (offF 0 fun i ↦ ptF ((unPts (ptsF q)).getD i Pt.zero))) && shortPtsV (unPts (F.sl (unPts (ptsF q)).length (offF 0 fun i ↦ F.agg [F.int .i64 ((unPts (ptsF q)).getD i Pt.zero).x, F.int .i64 ((unPts (ptsF q)).getD i Pt.zero).y]))))
 (bsel (!samePtsV (unPts (F.sl (unPts (ptsF q)).length (offF 0 fun i ↦ F.agg [F.int .i64 ((unPts (ptsF q)).getD i Pt.zero).x, F.int .i64 ((unPts (ptsF q)).getD i Pt.zero).y]))) (unPts (F.sl (unPts (ptsF q)).length (offF 0 fun i ↦ ptF ((unPts (ptsF q)).getD i Pt.zero)))))
 (ret (false))
 (ret (true)))
 none)
 none)
 none)
 none))
 none)
 none)
 none)
 none))
 none)
 none)
 none)
 none)
 none)
 none)
 none)
 none)
 none)
 none))
 none))
 none)
def G5 (l : List Sg) (q : List Pt) : Option (Bool) := T5 some l q
theorem t5 (l : List Sg) (q : List Pt) (r : Bool) (h : G5 l q = some r) : Ends Try.prog Try.f5.results.toList [.code (bodyOf Try.f5)] (start Try.f5.ntmps ([segsF l, ptsF q].map .f)) (F.bool r) := by
  refine Ends.of_run tyOK envZ5_ok (T := []) (n := 200) ?_
  have e : run Try.prog (tiOf Try.prog) envZ5 [] 0 Try.f5.results.toList some 200 [.code (bodyOf Try.f5)] (start Try.f5.ntmps ([segsF l, ptsF q].map .f)) = T5 (fun r => some (.ret (F.bool r))) l q := by kernel_rfl
  rw [e]
  exact (good_sel h (fun _ h => (good_sel h (fun _ h => good_ret (by cases h; rfl)) (fun _ h => (good_sel h (fun _ h => (good_sel h (fun _ h => good_ret (by cases h; rfl)) (fun _ h => (good_sel h (fun _ h => (good_sel h (fun _ h => (good_sel h (fun _ h => (good_sel h (fun _ h => (good_sel h (fun _ h => (good_sel h (fun _ h => (good_sel h (fun _ h => (good_sel h (fun _ h => (good_sel h (fun _ h => (good_sel h (fun _ h => (good_sel h (fun _ h => good_ret (by cases h; rfl)) (fun _ h => (good_sel h (fun _ h => (good_sel h (fun _ h => (good_sel h (fun _ h => (good_sel h (fun _ h => (good_sel h (fun _ h => good_ret (by cases h; rfl)) (fun _ h => (good_sel h (fun _ h => (good_sel h (fun _ h => (good_sel h (fun _ h => (good_sel h (fun _ h => (good_sel h (fun _ h => good_ret (by cases h; rfl)) (fun _ h => good_ret (by cases h; rfl)))) (fun _ h => nomatch h))) (fun _ h => nomatch h))) (fun _ h => nomatch h))) (fun _ h => nomatch h))))) (fun _ h => nomatch h))) (fun _ h => nomatch h))) (fun _ h => nomatch h))) (fun _ h => nomatch h))))) (fun _ h => nomatch h))) (fun _ h => nomatch h))) (fun _ h => nomatch h))) (fun _ h => nomatch h))) (fun _ h => nomatch h))) (fun _ h => nomatch h))) (fun _ h => nomatch h))) (fun _ h => nomatch h))) (fun _ h => nomatch h))) (fun _ h => nomatch h))))) (fun _ h => nomatch h))))) (fun _ h => nomatch h))
theorem leftS_val {n : Nat} {k : Int} (hk : 0 ≤ k ∧ k ≤ 1048576) (hn : n ≤ 9223372036854775807) (h : ¬ leftV n k < 0) : (n : Int) ≤ k := by
  unfold leftV at h
  rw [wrapi (x := k - n) (by omega) (by omega)] at h
  by_cases hc : k - (n : Int) < 0
  · rw [decide_eq_true hc] at h; simp at h
  · omega
theorem free_law (l : List Sg) (q : List Pt) (hb : l.length ≤ 9223372036854775807) (hq : q.length ≤ 9223372036854775807) : G5 l q = some true := by
  unfold G5 T5
  have off : ∀ g : Nat → F, offF 0 g = g := fun _ => rfl
  have e1 : ∀ l : List Sg, (F.sl l.length fun i => sgF (l.getD i Sg.zero)) = segsF l := fun _ => rfl
  have e2 : ∀ l : List Sg, (F.sl l.length fun i => F.agg [F.int .i64 (l.getD i Sg.zero).x0, F.int .i64 (l.getD i Sg.zero).y0, F.int .i64 (l.getD i Sg.zero).x1, F.int .i64 (l.getD i Sg.zero).y1]) = segsF l := fun _ => rfl
  have e3 : ∀ l : List Pt, (F.sl l.length fun i => ptF (l.getD i Pt.zero)) = ptsF l := fun _ => rfl
  have e4 : ∀ l : List Pt, (F.sl l.length fun i => F.agg [F.int .i64 (l.getD i Pt.zero).x, F.int .i64 (l.getD i Pt.zero).y]) = ptsF l := fun _ => rfl
  simp only [isSegs_segsF, unSegs_segsF, isPts_ptsF, unPts_ptsF, bsel_true, off]
  by_cases hs : leftV l.length 1048576 < 0
  · rw [decide_eq_true hs]; rfl
  · have hlen := leftS_val ⟨by omega, by omega⟩ hb hs
    have hv : leftV l.length 1048576 = 1048576 - (l.length : Int) := by
      unfold leftV at hs ⊢
      rw [wrapi (by omega) (by omega)] at hs ⊢
      rw [decide_eq_false (by omega), cond_false]
    rw [decide_eq_false hs, bsel_false]
    by_cases hs2 : leftV q.length (leftV l.length 1048576) < 0
    · rw [decide_eq_true hs2]; rfl
    · have hlen2 := leftS_val ⟨by omega, by omega⟩ hq hs2
      rw [decide_eq_false hs2, bsel_false]
      have c1 : shortSegsV l = true := decide_eq_true (by omega)
      have c2 : shortPtsV q = true := decide_eq_true (by omega)
      simp only [e1, e2, e3, e4, c1, c2, isSegs_segsF, unSegs_segsF, isPts_ptsF, unPts_ptsF, bsel_true, bsel_false, sameSegs_refl, samePts_refl, free_same, decide_true, Bool.and_self, Bool.and_true, Bool.true_and, Bool.not_true, Bool.not_false, beq_self_eq_true, bne_self_eq_false]
def boundSg (l : List Sg) : Bool := decide (l.length ≤ maxLen)
def preSegsArg (x : F) : Bool := isSegs x && boundSg (unSegs x)
def shSg : List Sh := [.int .i64, .int .i64, .int .i64, .int .i64]
theorem fit_segs {x : F} (h : fitC (.sl true shSg) x = true) : preSegsArg x = true := by
  obtain ⟨n, g, rfl, h1, h2⟩ := fit_sl h
  unfold preSegsArg
  rw [Bool.and_eq_true]
  refine ⟨?_, decide_eq_true (by rw [unSegs, unSl_len]; exact h1)⟩
  simp only [isSegs, isSl, List.all_eq_true, List.mem_range]
  intro i hi
  obtain ⟨h3, h4⟩ := h2 i hi
  rw [agg_cells h4]
  obtain ⟨x1, r1, e, h5, h3⟩ := fit_cons h3
  obtain ⟨x2, r2, rfl, h6, h3⟩ := fit_cons h3
  obtain ⟨x3, r3, rfl, h7, h3⟩ := fit_cons h3
  obtain ⟨x4, r4, rfl, h8, h3⟩ := fit_cons h3
  obtain rfl := fit_nil h3
  obtain ⟨_, rfl⟩ := fit_int h5
  obtain ⟨_, rfl⟩ := fit_int h6
  obtain ⟨_, rfl⟩ := fit_int h7
  obtain ⟨_, rfl⟩ := fit_int h8
  rw [e]; rfl
def boundPt (l : List Pt) : Bool := decide (l.length ≤ maxLen)
def prePtsArg (x : F) : Bool := isPts x && boundPt (unPts x)
def shPt : List Sh := [.int .i64, .int .i64]
theorem fit_pts {x : F} (h : fitC (.sl true shPt) x = true) : prePtsArg x = true := by
  obtain ⟨n, g, rfl, h1, h2⟩ := fit_sl h
  unfold prePtsArg
  rw [Bool.and_eq_true]
  refine ⟨?_, decide_eq_true (by rw [unPts, unSl_len]; exact h1)⟩
  simp only [isPts, isSl, List.all_eq_true, List.mem_range]
  intro i hi
  obtain ⟨h3, h4⟩ := h2 i hi
  rw [agg_cells h4]
  obtain ⟨x1, r1, e, h5, h3⟩ := fit_cons h3
  obtain ⟨x2, r2, rfl, h6, h3⟩ := fit_cons h3
  obtain rfl := fit_nil h3
  obtain ⟨_, rfl⟩ := fit_int h5
  obtain ⟨_, rfl⟩ := fit_int h6
  rw [e]; rfl
def preLawF : List F → Bool | [x, y] => preSegsArg x && prePtsArg y | _ => false
theorem okFnFree : PureOK Try.prog 5 preLawF (fun _ => .bool true) :=
  fn_pure_at (c := bodyOf Try.f5) Try.func5 (by kernel_rfl) (by kernel_rfl) fun xs hp => match xs, hp with
  | [x, y], hp => by
    simp only [preLawF, preSegsArg, prePtsArg, Bool.and_eq_true] at hp
    have hm : maxLen = 9223372036854775807 := by decide
    have h2 : (unSegs x).length ≤ maxLen := of_decide_eq_true hp.1.2
    have h3 : (unPts y).length ≤ maxLen := of_decide_eq_true hp.2.2
    exact ⟨[segsF (unSegs x), ptsF (unPts y)], _, ⟨(segs_eqv hp.1.1).1, (pts_eqv hp.2.1).1, trivial⟩, t5 _ _ _ (free_law _ _ (by omega) (by omega)), .refl _⟩
theorem preLawF_of {x0 x1 : F} (h0 : preSegsArg x0 = true) (h1 : prePtsArg x1 = true) : preLawF [x0, x1] = true := by
  simp only [preLawF, h0, h1, Bool.and_self]
theorem open_segs {H : Type} {enc : TypeId × Value → H} {W : World} {base : Nat} {v : Value} {d : DataW H} {ps : List MemPlace} (hval : Value.okWide Try.prog W .any base 22 v) (h : DataW.Trod enc Try.prog W 0 (fun _ => true) true 22 v d ps) :
    ∃ x, preSegsArg x = true ∧ RepF W (fun b => b < W.heap.size) x v := by
  obtain ⟨x, h1, h2⟩ := open_sliceF (k := 6) (s := .sl true shSg) Try.underlying22 (by kernel_rfl) hval h
  exact ⟨x, fit_segs h1, h2⟩
theorem open_pts {H : Type} {enc : TypeId × Value → H} {W : World} {base : Nat} {v : Value} {d : DataW H} {ps : List MemPlace} (hval : Value.okWide Try.prog W .any base 50 v) (h : DataW.Trod enc Try.prog W 0 (fun _ => true) true 50 v d ps) :
    ∃ x, prePtsArg x = true ∧ RepF W (fun b => b < W.heap.size) x v := by
  obtain ⟨x, h1, h2⟩ := open_sliceF (k := 6) (s := .sl true shPt) Try.underlying50 (by kernel_rfl) hval h
  exact ⟨x, fit_pts h1, h2⟩
end
end Go.Proofs.Ytmambbfnjbdfgaa.R
