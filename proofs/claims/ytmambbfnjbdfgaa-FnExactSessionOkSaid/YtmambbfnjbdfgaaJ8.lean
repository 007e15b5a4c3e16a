/-
  The own walk and what it shows, part 8 of 9.
-/
import Derived.Test.YtmambbfnjbdfgaaJ1
import Derived.Test.YtmambbfnjbdfgaaJ2
import Derived.Test.YtmambbfnjbdfgaaJ3
import Derived.Test.YtmambbfnjbdfgaaJ4
import Derived.Test.YtmambbfnjbdfgaaJ5
import Derived.Test.YtmambbfnjbdfgaaJ6
import Derived.Test.YtmambbfnjbdfgaaJ7
set_option exponentiation.threshold 30000
namespace Go.Proofs.Ytmambbfnjbdfgaa.R
open Go
noncomputable section
set_option linter.unusedVariables false
set_option linter.unusedSimpArgs false
set_option maxRecDepth 100000
set_option maxHeartbeats 1000000
/-! ### function 19 -/
def rowFree (h : Nat → Nat → Bool) (m n : Nat) : Bool := allUp (fun i => allUp (fun j => !h i j) 0 m) 0 n
theorem getD_in {α : Type} {l : List α} {d : α} {i : Nat} (h : i < l.length) : l.getD i d ∈ l := by
  rw [List.getD_eq_getElem?_getD, List.getElem?_eq_getElem h]
  exact List.getElem_mem h
def envH11 : Env := envH10
theorem envH11_ok : EnvOK Try.prog envH11 := envH10_ok
end
end Go.Proofs.Ytmambbfnjbdfgaa.R

namespace Go.Proofs.Ytmambbfnjbdfgaa.R
open Go
noncomputable section
def envH12 : Env := envH11.or envH9
theorem envH12_ok : EnvOK Try.prog envH12 := Env.or_ok envH11_ok envH9_ok
end
end Go.Proofs.Ytmambbfnjbdfgaa.R

namespace Go.Proofs.Ytmambbfnjbdfgaa.R
open Go
noncomputable section
set_option linter.unusedVariables false
set_option linter.unusedSimpArgs false
set_option maxRecDepth 100000
set_option maxHeartbeats 1000000
/-! ### function 21 -/
theorem leg_ok {a b : Pt} (ha : spotIn a.x a.y) (hb : spotIn b.x b.y) (h : a ≠ b) : segOkV (legOf a b).x0 (legOf a b).y0 (legOf a b).x1 (legOf a b).y1 = true := by
  have oa := spotOk_iff.2 ha
  have ob := spotOk_iff.2 hb
  unfold segOkV
  rcases leg_cases a b h with ⟨h1, h2⟩ | ⟨h1, h2⟩ <;> rw [h2] <;> simp only [oa, ob, lessV_lt.2 h1, Bool.and_self]
/-! Both tell the same. -/
def envH13 : Env := envH12
theorem envH13_ok : EnvOK Try.prog envH13 := envH12_ok
end
end Go.Proofs.Ytmambbfnjbdfgaa.R

namespace Go.Proofs.Ytmambbfnjbdfgaa.R
open Go
noncomputable section
def envZ5a : Env := envZ3.or envH13
theorem envZ5a_ok : EnvOK Try.prog envZ5a := Env.or_ok envZ3_ok envH13_ok
end
end Go.Proofs.Ytmambbfnjbdfgaa.R

namespace Go.Proofs.Ytmambbfnjbdfgaa.R
open Go
noncomputable section
set_option linter.unusedVariables false
set_option linter.unusedSimpArgs false
set_option maxRecDepth 100000
/-! ### function 18 -/
def T18 {ρ : Type} (ret : (Int) → Option ρ) (a : List Pt) (lf : Int) : Option ρ :=
 (bsel (decide (IntKind.i64.wrap (lf - (↑a.length : Int)) < 0))
 (ret (-1))
 (ret (IntKind.i64.wrap (lf - (↑a.length : Int)))))
def G18 (a : List Pt) (lf : Int) : Option (Int) := T18 some a lf
theorem t18 (a : List Pt) (lf : Int) (r : Int) (h : G18 a lf = some r) : Ends Try.prog Try.f18.results.toList [.code (bodyOf Try.f18)] (start Try.f18.ntmps ([ptsF a, F.int .i64 lf].map .f)) (F.int .i64 r) := by
  refine Ends.of_run tyOK envZ5a_ok (T := []) (n := 200) ?_
  have e : run Try.prog (tiOf Try.prog) envZ5a [] 0 Try.f18.results.toList some 200 [.code (bodyOf Try.f18)] (start Try.f18.ntmps ([ptsF a, F.int .i64 lf].map .f)) = T18 (fun r => some (.ret (F.int .i64 r))) a lf := by kernel_rfl
  rw [e]
  exact (good_sel h (fun _ h => good_ret (by cases h; rfl)) (fun _ h => good_ret (by cases h; rfl)))
/-! ### function 20 -/
def S20_3 (a : List Pt) (n : Nat) (g : Nat → F) (i : Int) : St := ⟨[(U.f (ptsF a)), .bad, .bad, (U.hs 0 n 0 n), (U.f (F.int .i64 i)), .bad, .bad, .bad, .bad, .bad, .bad, .bad, .bad, .bad, .bad, .bad, .bad, .bad, .bad, .bad, .bad, .bad, .bad], [HO.arr 2 n g]⟩
def T20_3 {ρ : Type} (ret : (F) → Option ρ) (c3 : (List Pt) → (Nat) → (Nat → F) → (Int) → Option ρ) (a : List Pt) (n : Nat) (g : Nat → F) (i : Int) : Option ρ :=
 (bsel (decide (i < (↑a.length : Int)))
 (bsel (decide (0 ≤ i))
 (bsel (decide (i < (↑a.length : Int)))
 (bsel (decide (n = n))
 (bsel (decide (0 ≤ i))
 (bsel (decide (i < (↑n : Int)))
 (bsel (decide (n = n))
 (bsel (decide (0 + i.toNat < n))
 (bsel (decide ((g (0 + i.toNat)).cells.length = 2))
 (bsel ((isAggF (g (0 + i.toNat)) || false) && true)
 (c3 (a) (n) (fun j ↦ if j = 0 + i.toNat then F.agg [F.int .i64 (a.getD i.toNat Pt.zero).x, F.int .i64 (a.getD i.toNat Pt.zero).y] else g j) (IntKind.i64.wrap (i + 1)))
 none)
 none)
 none)
 none)
 none)
 none)
 none)
 none)
 none)
 (bsel (decide (n = n) && true && decide (n = n))
 (bsel (isScal n g)
 (ret (F.tup [F.tup [F.int .i64 ((2 : Nat) : Int), F.sl n g]]))
 none)
 none))
def L20_3 : Nat → (List Pt) → (Nat) → (Nat → F) → (Int) → Option (F)
  | 0, _, _, _, _ => none
  | k + 1, a, n, g, i => T20_3 some (L20_3 k) a n g i
def T20 {ρ : Type} (ret : (F) → Option ρ) (c3 : (List Pt) → (Nat) → (Nat → F) → (Int) → Option ρ) (a : List Pt) : Option ρ :=
 (bsel (decide ((↑a.length : Int) ≤ (↑a.length : Int)))
 (bsel (decide ((↑a.length : Int) * (((16 : Nat) : Int) + 1) ≤ (↑limit : Int)))
 (c3 (a) ((↑a.length : Int).toNat) (fun x ↦ F.agg [F.int .i64 0, F.int .i64 0]) (0))
 none)
 none)
def G20 (k : Nat) (a : List Pt) : Option (F) := T20 some (L20_3 k) a
theorem t20_3 : ∀ (k : Nat) (a : List Pt) (n : Nat) (g : Nat → F) (i : Int) (r : F), L20_3 k a n g i = some r → Ends Try.prog (ResultVar.tmp 1000000 :: Go.Proofs.Try.f20.results.toList) (at_ Try.f20 3) (S20_3 a n g i) (r)
  | 0, _, _, _, _, _, h => nomatch h
  | k + 1, a, n, g, i, r, h => by
    refine Ends.of_cut tyOK envZ5a_ok (T := [(3, [0, 3, 4], 1000)]) (n := 200) ?_
    have e : runCut Try.prog (tiOf Try.prog) envZ5a [(3, [0, 3, 4], 1000)] 0 (ResultVar.tmp 1000000 :: Go.Proofs.Try.f20.results.toList) some 200 (at_ Try.f20 3) (S20_3 a n g i) = T20_3 (fun r => some (.ret (r))) (fun a n g i => some (.cut (at_ Try.f20 3) (S20_3 a n g i))) a n g i := by kernel_rfl
    rw [e]
    exact (good_sel h (fun _ h => (good_sel h (fun _ h => (good_sel h (fun _ h => (good_sel h (fun _ h => (good_sel h (fun _ h => (good_sel h (fun _ h => (good_sel h (fun _ h => (good_sel h (fun _ h => (good_sel h (fun _ h => (good_sel h (fun _ h => good_cut (t20_3 k _ _ _ _ r h)) (fun _ h => nomatch h))) (fun _ h => nomatch h))) (fun _ h => nomatch h))) (fun _ h => nomatch h))) (fun _ h => nomatch h))) (fun _ h => nomatch h))) (fun _ h => nomatch h))) (fun _ h => nomatch h))) (fun _ h => nomatch h))) (fun _ h => (good_sel h (fun _ h => (good_sel h (fun _ h => good_ret (by cases h; rfl)) (fun _ h => nomatch h))) (fun _ h => nomatch h))))
theorem t20 (k : Nat) (a : List Pt) (r : F) (h : G20 k a = some r) : Ends Try.prog (ResultVar.tmp 1000000 :: Go.Proofs.Try.f20.results.toList) [.code (bodyOf Try.f20)] (start Try.f20.ntmps ([ptsF a].map .f)) (r) := by
  refine Ends.of_run tyOK envZ5a_ok (T := [(3, [0, 3, 4], 1000)]) (n := 200) ?_
  have e : run Try.prog (tiOf Try.prog) envZ5a [(3, [0, 3, 4], 1000)] 0 (ResultVar.tmp 1000000 :: Go.Proofs.Try.f20.results.toList) some 200 [.code (bodyOf Try.f20)] (start Try.f20.ntmps ([ptsF a].map .f)) = T20 (fun r => some (.ret (r))) (fun a n g i => some (.cut (at_ Try.f20 3) (S20_3 a n g i))) a := by kernel_rfl
  rw [e]
  exact (good_sel h (fun _ h => (good_sel h (fun _ h => good_cut (t20_3 k _ _ _ _ r h)) (fun _ h => nomatch h))) (fun _ h => nomatch h))
/-! ### function 22 -/
def S22_4 (a : List Pt) (b : List Pt) (i : Int) : St := ⟨[(U.f (ptsF a)), (U.f (ptsF b)), .bad, .bad, .bad, (U.f (F.int .i64 i)), .bad, .bad, .bad, .bad, .bad, .bad, .bad, .bad, .bad, .bad, .bad, .bad, .bad, .bad, .bad, .bad, .bad, .bad, .bad, .bad, .bad], []⟩
def T22_4 {ρ : Type} (ret : (Bool) → Option ρ) (c4 : (List Pt) → (List Pt) → (Int) → Option ρ) (a : List Pt) (b : List Pt) (i : Int) : Option ρ :=
 (bsel (decide (i < (↑a.length : Int)))
 (bsel (decide (0 ≤ i))
 (bsel (decide (i < (↑a.length : Int)))
 (bsel (decide (0 ≤ i))
 (bsel (decide (i < (↑b.length : Int)))
 (bsel (!sameSpotV (a.getD i.toNat Pt.zero).x (a.getD i.toNat Pt.zero).y (b.getD i.toNat Pt.zero).x (b.getD i.toNat Pt.zero).y)
 (ret (false))
 (c4 (a) (b) (IntKind.i64.wrap (i + 1))))
 none)
 none)
 none)
 none)
 (ret (true)))
def L22_4 : Nat → (List Pt) → (List Pt) → (Int) → Option (Bool)
  | 0, _, _, _ => none
  | k + 1, a, b, i => T22_4 some (L22_4 k) a b i
def T22 {ρ : Type} (ret : (Bool) → Option ρ) (c4 : (List Pt) → (List Pt) → (Int) → Option ρ) (a : List Pt) (b : List Pt) : Option ρ :=
 (bsel ((↑a.length : Int) != (↑b.length : Int))
 (ret (false))
 (c4 (a) (b) (0)))
def G22 (k : Nat) (a : List Pt) (b : List Pt) : Option (Bool) := T22 some (L22_4 k) a b
theorem t22_4 : ∀ (k : Nat) (a : List Pt) (b : List Pt) (i : Int) (r : Bool), L22_4 k a b i = some r → Ends Try.prog Try.f22.results.toList (at_ Try.f22 4) (S22_4 a b i) (F.bool r)
  | 0, _, _, _, _, h => nomatch h
  | k + 1, a, b, i, r, h => by
    refine Ends.of_cut tyOK envZ5a_ok (T := [(4, [0, 1, 5], 1000)]) (n := 200) ?_
    have e : runCut Try.prog (tiOf Try.prog) envZ5a [(4, [0, 1, 5], 1000)] 0 Try.f22.results.toList some 200 (at_ Try.f22 4) (S22_4 a b i) = T22_4 (fun r => some (.ret (F.bool r))) (fun a b i => some (.cut (at_ Try.f22 4) (S22_4 a b i))) a b i := by kernel_rfl
    rw [e]
    exact (good_sel h (fun _ h => (good_sel h (fun _ h => (good_sel h (fun _ h => (good_sel h (fun _ h => (good_sel h (fun _ h => (good_sel h (fun _ h => good_ret (by cases h; rfl)) (fun _ h => good_cut (t22_4 k _ _ _ r h)))) (fun _ h => nomatch h))) (fun _ h => nomatch h))) (fun _ h => nomatch h))) (fun _ h => nomatch h))) (fun _ h => good_ret (by cases h; rfl)))
theorem t22 (k : Nat) (a : List Pt) (b : List Pt) (r : Bool) (h : G22 k a b = some r) : Ends Try.prog Try.f22.results.toList [.code (bodyOf Try.f22)] (start Try.f22.ntmps ([ptsF a, ptsF b].map .f)) (F.bool r) := by
  refine Ends.of_run tyOK envZ5a_ok (T := [(4, [0, 1, 5], 1000)]) (n := 200) ?_
  have e : run Try.prog (tiOf Try.prog) envZ5a [(4, [0, 1, 5], 1000)] 0 Try.f22.results.toList some 200 [.code (bodyOf Try.f22)] (start Try.f22.ntmps ([ptsF a, ptsF b].map .f)) = T22 (fun r => some (.ret (F.bool r))) (fun a b i => some (.cut (at_ Try.f22 4) (S22_4 a b i))) a b := by kernel_rfl
  rw [e]
  exact (good_sel h (fun _ h => good_ret (by cases h; rfl)) (fun _ h => good_cut (t22_4 k _ _ _ r h)))
def resSzPts : List F → F | [a, .int .i64 k] => .int .i64 (leftV (unPts a).length k) | _ => .dflt
def preSzPts : List F → Bool | [a, .int .i64 _] => isPts a | _ => false
theorem okSzPts : PureOK Try.prog 18 preSzPts resSzPts :=
  fn_pure_at (c := bodyOf Try.f18) Try.func18 (by kernel_rfl) (by kernel_rfl) fun xs hp => match xs, hp with
  | [a, .int .i64 k], hp => ⟨[ptsF (unPts a), .int .i64 k], _, ⟨(pts_eqv hp).1, .refl _, trivial⟩, t18 _ _ (leftV (unPts a).length k) (by
      unfold G18 T18 leftV
      cases decide (IntKind.i64.wrap (k - ((unPts a).length : Int)) < 0) <;> rfl), .refl _⟩
def ptZ : F := F.agg [F.int .i64 0, F.int .i64 0]
theorem toPts_loop (a : List Pt) (hs : a.length ≤ 1048576) : ∀ (d i : Nat) (g : Nat → F), i + d = a.length → Fills ptF .zero ptZ a i g → ∃ g1, L20_3 (d + 1) a a.length g i = some (F.tup [F.tup [.int .i64 ((2 : Nat) : Int), .sl a.length g1]]) ∧ Lists ptF .zero a.length g1 a
  | 0, i, g, h, hg => by
    have c1 : decide ((i : Int) < (a.length : Int)) = false := decide_eq_false (by omega)
    obtain rfl : i = a.length := by omega
    have c2 : isScal a.length g = true := scal_of fun j hj => by rw [(hg j).1 hj]; rfl
    exact ⟨g, by simp only [L20_3, T20_3, c1, c2, bsel_false, decide_true, bsel_true, Bool.and_self], hg.lists⟩
  | d + 1, i, g, h, hg => by
    have hi : i < a.length := by omega
    have c1 : decide ((i : Int) < (a.length : Int)) = true := decide_eq_true (by omega)
    have c2 : decide (0 ≤ (i : Int)) = true := decide_eq_true (by omega)
    have c3 : decide (i < a.length) = true := decide_eq_true hi
    have hw : IntKind.i64.wrap ((i : Int) + 1) = ((i + 1 : Nat) : Int) := by rw [wrapi (by omega) (by omega)]; omega
    have c4 : g i = ptZ := (hg i).2 (Nat.le_refl _)
    obtain ⟨g1, e1, e2⟩ := toPts_loop a hs d (i + 1) _ (by omega) hg.set
    refine ⟨g1, ?_, e2⟩
    rw [← e1, L20_3]
    simp only [T20_3, c1, c2, c3, hw, bsel_true, decide_true, Int.toNat_natCast, Nat.zero_add, c4]
    rfl
def shortPtsV (l : List Pt) : Bool := decide (l.length ≤ 1048576)
def preToPts : List F → Bool | [a] => isPts a && shortPtsV (unPts a) | _ => false
def resToPts : List F → F | [a] => .tup [.tup [.int .i64 2, .sl (unPts a).length fun i => ptF ((unPts a).getD i .zero)]] | _ => .dflt
theorem okToPts : SpOK Try.prog 20 (.own preToPts (fun _ => true) resToPts resToPts) :=
  fn_own (c := bodyOf Try.f20) Try.func20 (by kernel_rfl) (by kernel_rfl) fun xs hp => match xs, hp with
  | [a], hp => by
    simp only [preToPts, Bool.and_eq_true] at hp
    have hs := of_decide_eq_true hp.2
    have hx := (pts_eqv hp.1).1
    have h1 : resToPts [a] = .tup [.tup [.int .i64 2, .sl (unPts a).length fun i => ptF ((unPts a).getD i .zero)]] := rfl
    simp only [if_true]
    rw [h1]
    generalize unPts a = l at hx hs ⊢
    obtain ⟨g1, e1, e2⟩ := toPts_loop l hs l.length 0 _ (by omega) Fills.zero
    have c3 : decide (((l.length : Nat) : Int) * (((16 : Nat) : Int) + 1) ≤ (limit : Int)) = true := by rw [limit_eq]; exact decide_eq_true (by omega)
    have hg : G20 (l.length + 1) l = some (F.tup [F.tup [.int .i64 ((2 : Nat) : Int), .sl l.length g1]]) := by
      unfold G20 T20
      simp only [c3, Int.le_refl, decide_true, bsel_true, Int.toNat_natCast]
      exact e1
    exact ⟨[ptsF l], _, [.tup [.int .i64 2, .sl l.length fun i => ptF (l.getD i .zero)]], ⟨hx, trivial⟩, t20 _ _ _ hg, ⟨.of (.obj _ _ _ _ _ e2.2), trivial⟩, rfl⟩
def samePtsV : List Pt → List Pt → Bool
  | [], [] => true
  | a :: a', b :: b' => sameSpotV a.x a.y b.x b.y && samePtsV a' b'
  | _, _ => false
theorem samePts_ne : ∀ (a b : List Pt), a.length ≠ b.length → samePtsV a b = false
  | [], [], h => absurd rfl h
  | [], _ :: _, _ => rfl
  | _ :: _, [], _ => rfl
  | a :: a', b :: b', h => by rw [samePtsV, samePts_ne a' b' (by simpa using h), Bool.and_false]
theorem samePts_refl : ∀ a : List Pt, samePtsV a a = true
  | [] => rfl
  | t :: a => by simp [samePtsV, sameSpotV, samePts_refl a]
theorem eqPts_loop (a b : List Pt) (hl : a.length = b.length) (hs : a.length ≤ 1048576) : ∀ (d i : Nat), i + d = a.length → L22_4 (d + 1) a b i = some (samePtsV (a.drop i) (b.drop i))
  | 0, i, h => by
    have c1 : decide ((i : Int) < (a.length : Int)) = false := decide_eq_false (by omega)
    simp only [L22_4, T22_4, c1, bsel_false]
    rw [List.drop_eq_nil_of_le (by omega), List.drop_eq_nil_of_le (by omega)]
    rfl
  | d + 1, i, h => by
    have hi : i < a.length := by omega
    have c1 : decide ((i : Int) < (a.length : Int)) = true := decide_eq_true (by omega)
    have c3 : decide ((i : Int) < (b.length : Int)) = true := decide_eq_true (by omega)
    have c2 : decide (0 ≤ (i : Int)) = true := decide_eq_true (by omega)
    have hw : IntKind.i64.wrap ((i : Int) + 1) = ((i + 1 : Nat) : Int) := by rw [wrapi (by omega) (by omega)]; omega
    have h1 : a.getD i .zero = a[i] := by simp [List.getD, List.getElem?_eq_getElem hi]
    have h2 : b.getD i .zero = b[i]'(by omega) := by simp [List.getD, List.getElem?_eq_getElem (show i < b.length by omega)]
    rw [L22_4]
    simp only [T22_4, c1, c2, c3, hw, eqPts_loop a b hl hs d (i + 1) (by omega), bsel_true, Int.toNat_natCast]
    rw [List.drop_eq_getElem_cons hi, List.drop_eq_getElem_cons (show i < b.length by omega), samePtsV, h1, h2]
    cases sameSpotV a[i].x a[i].y (b[i]'(by omega)).x (b[i]'(by omega)).y <;> rfl
def preEqPts : List F → Bool | [a, b] => isPts a && isPts b && shortPtsV (unPts a) | _ => false
def resEqPts : List F → F | [a, b] => .bool (samePtsV (unPts a) (unPts b)) | _ => .dflt
theorem eqPts_law (a b : List Pt) (hs : shortPtsV a = true) : G22 (a.length + 1) a b = some (samePtsV a b) := by
  unfold G22 T22
  rw [bne]
  cases h : ((a.length : Int) == (b.length : Int)) with
  | true => exact eqPts_loop a b (by have := eq_of_beq h; omega) (of_decide_eq_true hs) a.length 0 (by omega)
  | false => rw [samePts_ne a b fun e => by simp [e] at h]; rfl
theorem okEqPts : PureOK Try.prog 22 preEqPts resEqPts :=
  fn_pure_at (c := bodyOf Try.f22) Try.func22 (by kernel_rfl) (by kernel_rfl) fun xs hp => match xs, hp with
  | [a, b], hp => by
    simp only [preEqPts, Bool.and_eq_true] at hp
    exact ⟨[ptsF (unPts a), ptsF (unPts b)], _, ⟨(pts_eqv hp.1.1).1, (pts_eqv hp.1.2).1, trivial⟩, t22 _ _ _ _ (eqPts_law _ _ hp.2), .refl _⟩
def envZ5 : Env := ((envZ5a.add 18 (.pure preSzPts resSzPts)).add 20 (.own preToPts (fun _ => true) resToPts resToPts)).add 22 (.pure preEqPts resEqPts)
theorem envZ5_ok : EnvOK Try.prog envZ5 := (Env.add_ok (Env.add_ok (Env.add_ok envZ5a_ok okSzPts.sp) okToPts) okEqPts.sp)
end
end Go.Proofs.Ytmambbfnjbdfgaa.R

namespace Go.Proofs.Ytmambbfnjbdfgaa.R
open Go
noncomputable section
variable {P : Program}
def bxPre (dec : List U → Option (Nat × F)) (pre : List F → F → Bool) (us : List U) (H : List HO) : Bool := match dec us with
  | some (o, x) => (match H[o]? with
    | some (.box cu) => (match toFs [] cu with
      | some cs => pre cs x
      | none => false)
    | _ => false)
  | none => false
def bxRes (dec : List U → Option (Nat × F)) (res : List F → F → F × List F) (us : List U) (H : List HO) : U × List HO := match dec us with
  | some (o, x) => (match H[o]? with
    | some (.box cu) => (match toFs [] cu with
      | some cs => (.f (res cs x).1, H.set o (boxF (res cs x).2))
      | none => (.bad, H))
    | _ => (.bad, H))
  | none => (.bad, H)
theorem box_shared {f : FuncId} {dec : List U → Option (Nat × F)} {mk : F → List U} {pre : List F → F → Bool} {res : List F → F → F × List F}
    (hdec : ∀ us o x, dec us = some (o, x) → ∀ (w : World) (Z : Nat → Prop) (m : Nat → Nat) (H : List HO) (cu : List U) (cs : List F) (args : List Value), H[o]? = some (.box cu) → RepUs w Z m H us args → RepUs w Z (fun _ => m o) [boxF cs] (mk x) args)
    (h : ∀ cs x, pre cs x = true → SubOK P f (mk x) [boxF cs] (res cs x).1 [(res cs x).2]) : SpOK P f (.shared (bxPre dec pre) (bxRes dec res)) := by
  intro us H hp w Z m args hH hL
  unfold bxPre at hp
  split at hp
  · rename_i o x hd
    split at hp
    · rename_i cu ho
      split at hp
      · rename_i cs hcs
        have hres : bxRes dec res us H = (.f (res cs x).1, H.set o (boxF (res cs x).2)) := by simp only [bxRes, hd, ho, hcs]
        rw [hres]
        obtain ⟨hl1, hg1⟩ := toFs_get cu cs hcs
        have hlo : liveAt H o := ⟨_, ho, rfl⟩
        have hobk := hH.ob o _ ho
        have hHsub : HOK w Z (fun _ => m o) [boxF cs] := by
          refine ⟨hH.zlt, fun _ _ => hH.apart o hlo, fun a b ha hb _ => ?_, fun k ob hk => ?_⟩
          · obtain ⟨_, ha, _⟩ := ha
            obtain ⟨_, hb, _⟩ := hb
            have := (List.getElem?_eq_some_iff.1 ha).1
            have := (List.getElem?_eq_some_iff.1 hb).1
            simp at *
            omega
          · have hk0 := (List.getElem?_eq_some_iff.1 hk).1
            obtain rfl : k = 0 := by simp at hk0; exact hk0
            simp at hk; subst hk
            obtain ⟨c, el, fr, q1, q2, q3, q4⟩ := hobk
            refine ⟨c, el, fr, q1, q2, by rw [List.length_map, ← hl1]; exact q3, fun j u hu => ?_⟩
            rw [List.getElem?_map] at hu
            cases hxj : cs[j]? with
            | none => rw [hxj] at hu; cases hu
            | some y =>
              rw [hxj] at hu; cases hu
              have hj := (List.getElem?_eq_some_iff.1 hxj).1
              have huj : cu[j]? = some cu[j] := List.getElem?_eq_getElem (by omega)
              obtain ⟨v, hv, hr⟩ := q4 j _ huj
              exact ⟨v, hv, .f _ _ (toF_rep_nil hH hr (hg1 j _ y huj hxj))⟩
        have hLsub := hdec us o x hd w Z m H cu cs args.toList ho hL
        refine (h cs x hp w Z (fun _ => m o) args hHsub hLsub).mono fun v w' ⟨Z', m', hE, hH', hr⟩ => ?_
        have hm0 : m' 0 = m o := by
          have := hE.evol 0 (boxF cs) (boxF (res cs x).2) rfl rfl
          simp only [boxF, Evol] at this
          exact this.2
        have hlen : (res cs x).2.length = cs.length := by
          have := hE.evol 0 (boxF cs) (boxF (res cs x).2) rfl rfl
          simp only [boxF, Evol, List.length_map] at this
          exact this.1
        have hlt : o < H.length := (List.getElem?_eq_some_iff.1 ho).1
        have hlive : ∀ k, liveAt (H.set o (boxF (res cs x).2)) k → liveAt H k := by
          intro k ⟨ob1, h1, hd⟩
          by_cases hk : o = k
          · subst hk; exact hlo
          · rw [List.getElem?_set_ne hk] at h1; exact ⟨ob1, h1, hd⟩
        have hkeep : ∀ k, liveAt H k → k ≠ o → w'.heap[m k]? = w.heap[m k]? := by
          intro k hk hne
          refine hE.rest _ (hH.blk_lt hk) fun o' ho' e => hne (hH.inj k o hk hlo e.symm)
        have hEE : Ext w Z m H w' Z' m (H.set o (boxF (res cs x).2)) := by
          refine ⟨hE.os, hE.tape, hE.output, hE.size, hE.sub, ?_, hE.kept, ?_, by simp, ?_, fun k hk => .inl ⟨hlive k hk, rfl⟩⟩
          · intro b hb
            rcases hE.back b hb with h1 | h1 | ⟨o', ho', e⟩
            · exact .inl h1
            · exact .inr (.inl h1)
            · exact .inr (.inr ⟨o, hlo, e⟩)
          · intro b hb hn
            exact hE.rest b hb fun o' ho' e => hn o hlo e
          · intro k ob ob' hk hk'
            by_cases hko : o = k
            · subst hko
              rw [List.getElem?_set_self hlt] at hk'
              rw [ho] at hk
              cases hk; cases hk'
              simp only [boxF, Evol, List.length_map]
              exact ⟨by rw [hlen, hl1], trivial⟩
            · rw [List.getElem?_set_ne hko, hk] at hk'
              cases hk'
              cases ob with
              | arr sz n g =>
                refine ⟨rfl, Nat.le_refl _, fun _ => ⟨rfl, ?_⟩⟩
                simp only [blockCells, hkeep k ⟨_, hk, rfl⟩ (fun e => hko e.symm)]
              | _ => simp [Evol]
        refine ⟨Z', m, hEE, ⟨hH'.zlt, ?_, fun a b ha hb e => hH.inj a b (hlive a ha) (hlive b hb) e, ?_⟩, .f _ _ hr⟩
        · intro k hk hz
          have hk' := hlive k hk
          by_cases hko : k = o
          · subst hko
            exact hH'.apart 0 ⟨_, rfl, rfl⟩ (by rw [hm0]; exact hz)
          · rcases hE.back _ hz with h1 | h1 | ⟨o', ho', e⟩
            · exact hH.apart k hk' h1
            · have := hH.blk_lt hk'; omega
            · exact hko (hH.inj k o hk' hlo e.symm)
        · intro k ob hk
          by_cases hko : o = k
          · subst hko
            rw [List.getElem?_set_self hlt] at hk
            cases hk
            obtain ⟨c, el, fr, q1, q2, q3, q4⟩ := hH'.ob 0 _ rfl
            rw [hm0] at q1 q2
            refine ⟨c, el, fr, q1, q2, q3, fun j u hu => ?_⟩
            obtain ⟨v, hv, hr⟩ := q4 j u hu
            refine ⟨v, hv, ?_⟩
            rw [List.getElem?_map] at hu
            cases hxj : (res cs x).2[j]? with
            | none => rw [hxj] at hu; cases hu
            | some y => rw [hxj] at hu; cases hu; cases hr with | f _ _ hr => exact .f _ _ hr
          · rw [List.getElem?_set_ne hko] at hk
            by_cases hd : ob.live = true
            · exact (hH.ob k ob hk).mono hEE (hkeep k ⟨_, hk, hd⟩ (fun e => hko e.symm))
            · cases ob <;> simp_all [ObOK, HO.live]
      · cases hp
    · cases hp
  · cases hp
theorem rep_hp0 {w : World} {Z : Nat → Prop} {m : Nat → Nat} {H : List HO} {o : Nat} {v : Value} {cu : List U} {cs : List F} (ho : H[o]? = some (.box cu)) (h : RepU w Z m H (.hp o 0) v) : RepU w Z (fun _ => m o) [boxF cs] (.hp 0 0) v := by
  cases h with
  | hp _ _ _ h1 hk hvv => exact .hp 0 0 v h1 ⟨_, rfl, by simp [boxF]⟩ fun cs' _ => hvv _ ho
theorem rep_fU {w : World} {Z : Nat → Prop} {m m' : Nat → Nat} {H H' : List HO} {x : F} {v : Value} (h : RepU w Z m H (.f x) v) : RepU w Z m' H' (.f x) v := by
  cases h with
  | f _ _ h => exact .f _ _ h
def decArg : List U → Option (Nat × F)
  | [.f x, .hp o 0] => some (o, x)
  | _ => none
theorem decArg_ok : ∀ us o x, decArg us = some (o, x) → ∀ (w : World) (Z : Nat → Prop) (m : Nat → Nat) (H : List HO) (cu : List U) (cs : List F) (args : List Value), H[o]? = some (.box cu) → RepUs w Z m H us args → RepUs w Z (fun _ => m o) [boxF cs] [.f x, .hp 0 0] args := by
  intro us o x hd w Z m H cu cs args ho hL
  unfold decArg at hd
  split at hd
  · rename_i y q
    cases hd
    refine ⟨hL.1, fun j u v hu hv => ?_⟩
    match j, hu with
    | 0, hu => cases hu; exact rep_fU (hL.2 0 _ v rfl hv)
    | 1, hu => cases hu; exact rep_hp0 ho (hL.2 1 _ v rfl hv)
    | j + 2, hu => simp at hu
  · cases hd
def decFn (g : FuncId) : List U → Option (Nat × F)
  | [.f x, .fn g' [.hp o 0]] => if g' = g then some (o, x) else none
  | _ => none
theorem decFn_ok (g : FuncId) : ∀ us o x, decFn g us = some (o, x) → ∀ (w : World) (Z : Nat → Prop) (m : Nat → Nat) (H : List HO) (cu : List U) (cs : List F) (args : List Value), H[o]? = some (.box cu) → RepUs w Z m H us args → RepUs w Z (fun _ => m o) [boxF cs] [.f x, .fn g [.hp 0 0]] args := by
  intro us o x hd w Z m H cu cs args ho hL
  unfold decFn at hd
  split at hd
  · rename_i y g' q
    split at hd
    · rename_i hg
      subst hg
      cases hd
      refine ⟨hL.1, fun j u v hu hv => ?_⟩
      match j, hu with
      | 0, hu => cases hu; exact rep_fU (hL.2 0 _ v rfl hv)
      | 1, hu =>
        cases hu
        have := hL.2 1 _ v rfl hv
        cases this with
        | fn _ _ vs hl hr =>
          refine .fn _ _ vs hl fun j u v hu hv => ?_
          match j, hu with
          | 0, hu => cases hu; exact rep_hp0 ho (hr 0 _ v rfl hv)
          | j + 1, hu => simp at hu
      | j + 2, hu => simp at hu
    · cases hd
  · cases hd
theorem rep_hp00 {w : World} {Z : Nat → Prop} {m : Nat → Nat} {v : Value} {cs ds : List F} (h : RepU w Z m [boxF cs] (.hp 0 0) v) : RepU w Z m [boxF ds] (.hp 0 0) v := by
  cases h with
  | hp _ _ _ h1 hk hvv => exact .hp 0 0 v h1 ⟨_, rfl, by simp [boxF]⟩ fun cs' _ => hvv _ rfl
theorem rep_fle {w : World} {Z : Nat → Prop} {m m' : Nat → Nat} {H H' : List HO} {x y : F} {v : Value} (hle : FLe x y) (h : RepU w Z m H (.f x) v) : RepU w Z m' H' (.f y) v := by
  cases h with
  | f _ _ h => exact .f _ _ (hle _ _ _ h)
def argMk (x : F) : List U := [.f x, .hp 0 0]
def fnMk (g : FuncId) (x : F) : List U := [.f x, .fn g [.hp 0 0]]
theorem argMk_le {x y : F} (hle : FLe x y) (w : World) (Z : Nat → Prop) (m : Nat → Nat) (cs ds : List F) (args : List Value) (h : RepUs w Z m [boxF cs] (argMk x) args) : RepUs w Z m [boxF ds] (argMk y) args := by
  refine ⟨h.1, fun j u v hu hv => ?_⟩
  match j, hu with
  | 0, hu => cases hu; exact rep_fle hle (h.2 0 _ v rfl hv)
  | 1, hu => cases hu; exact rep_hp00 (h.2 1 _ v rfl hv)
  | j + 2, hu => simp [argMk] at hu
theorem fnMk_le {g : FuncId} {x y : F} (hle : FLe x y) (w : World) (Z : Nat → Prop) (m : Nat → Nat) (cs ds : List F) (args : List Value) (h : RepUs w Z m [boxF cs] (fnMk g x) args) : RepUs w Z m [boxF ds] (fnMk g y) args := by
  refine ⟨h.1, fun j u v hu hv => ?_⟩
  match j, hu with
  | 0, hu => cases hu; exact rep_fle hle (h.2 0 _ v rfl hv)
  | 1, hu =>
    cases hu
    have := h.2 1 _ v rfl hv
    cases this with
    | fn _ _ vs hl hr =>
      refine .fn _ _ vs hl fun j u v hu hv => ?_
      match j, hu with
      | 0, hu => cases hu; exact rep_hp00 (hr 0 _ v rfl hv)
      | j + 1, hu => simp at hu
  | j + 2, hu => simp [fnMk] at hu
theorem fn_box_at {f : FuncId} {fn : Func} {c : Code} (hf : P.funcs[f]? = some fn) (hb : fn.body = some c) (hname : (fn.name == "runtime.NumGoroutine") = false) {dec : List U → Option (Nat × F)} {mk : F → List U} {pre : List F → F → Bool} {res : List F → F → F × List F}
    (hdec : ∀ us o x, dec us = some (o, x) → ∀ (w : World) (Z : Nat → Prop) (m : Nat → Nat) (H : List HO) (cu : List U) (cs : List F) (args : List Value), H[o]? = some (.box cu) → RepUs w Z m H us args → RepUs w Z (fun _ => m o) [boxF cs] (mk x) args)
    (hmk : ∀ {x y : F}, FLe x y → ∀ (w : World) (Z : Nat → Prop) (m : Nat → Nat) (cs ds : List F) (args : List Value), RepUs w Z m [boxF cs] (mk x) args → RepUs w Z m [boxF ds] (mk y) args)
    (h : ∀ cs x, pre cs x = true → ∃ ds y r os, FsLe cs ds ∧ FLe x y ∧ EndsN P 1 fn.results.toList [.code c] (startN fn.ntmps (mk y) [boxF ds]) (.tup [r, .agg os]) ∧ FLe r (res cs x).1 ∧ FsLe os (res cs x).2) : SpOK P f (.shared (bxPre dec pre) (bxRes dec res)) :=
  box_shared hdec fun cs x hp w Z m args hH hL => by
    obtain ⟨ds, y, r, os, h1, h2, h3, h4, h5⟩ := h cs x hp
    exact (fn_sub hf hb hname (H := [boxF ds]) (os := [os]) rfl (by simp) h3 w Z m args (hH.box_le h1) (hmk h2 w Z m cs ds _ hL)).mono fun v w' ⟨Z', m', hE, hH', hr⟩ => ⟨Z', m', hE.box_le h1 h5, hH'.box_le h5, h4 _ _ _ hr⟩
end
end Go.Proofs.Ytmambbfnjbdfgaa.R

namespace Go.Proofs.Ytmambbfnjbdfgaa.R
open Go
noncomputable section
set_option linter.unusedVariables false
def ringF (r : List Pt) : F := .agg [ptsF r]
def isRing : F → Bool
  | .agg [x] => isPts x
  | _ => false
def unRing : F → List Pt
  | .agg [x] => unPts x
  | _ => []
theorem unRing_ringF (r : List Pt) : unRing (ringF r) = r := unPts_ptsF r
theorem isRing_ringF (r : List Pt) : isRing (ringF r) = true := isPts_ptsF r
theorem ring_form {x : F} (h : isRing x = true) : ∃ y, x = .agg [y] ∧ isPts y = true := by
  unfold isRing at h
  split at h
  · exact ⟨_, rfl, h⟩
  · cases h
theorem ring_eqv {x : F} (h : isRing x = true) : FLe x (ringF (unRing x)) ∧ FLe (ringF (unRing x)) x := by
  obtain ⟨y, rfl, hy⟩ := ring_form h
  exact ⟨FLe.agg ⟨(pts_eqv hy).1, trivial⟩, FLe.agg ⟨(pts_eqv hy).2, trivial⟩⟩
theorem ring_el {x : F} (h : isRing x = true) : ElLe x (ringF (unRing x)) ∧ ElLe (ringF (unRing x)) x := by
  obtain ⟨y, rfl, hy⟩ := ring_form h
  have hc : cellF y = true := by
    cases y with
    | sl n g => rfl
    | _ => simp [isPts, isSl] at hy
  exact ⟨ElLe.agg ⟨(pts_eqv hy).1, trivial⟩ fun _ u hu => by
      simp only [List.mem_cons, List.not_mem_nil, or_false] at hu
      subst hu
      rfl,
    ElLe.agg ⟨(pts_eqv hy).2, trivial⟩ fun _ u hu => by
      simp only [List.mem_cons, List.not_mem_nil, or_false] at hu
      subst hu
      exact hc⟩
def ringsF (l : List (List Pt)) : F := slF ringF [] l
def isRings (x : F) : Bool := isSl isRing x
def unRings (x : F) : List (List Pt) := unSl unRing x
theorem unRings_ringsF (l : List (List Pt)) : unRings (ringsF l) = l := unSl_slF (fun r => unRing_ringF r) l
theorem isRings_ringsF (l : List (List Pt)) : isRings (ringsF l) = true := isSl_slF l fun r _ => isRing_ringF r
theorem rings_eqv {x : F} (h : isRings x = true) : FLe x (ringsF (unRings x)) ∧ FLe (ringsF (unRings x)) x := slF_eqv' (fun _ h => ring_el h) h
theorem unPts_take (q : List Pt) (i : Nat) (h : i ≤ q.length) : unPts (F.sl i fun j => ptF (q.getD j .zero)) = q.take i ∧ isPts (F.sl i fun j => ptF (q.getD j .zero)) = true := by
  constructor
  · show (List.range i).map (fun j => unPt (ptF (q.getD j .zero))) = _
    apply List.ext_getElem
    · simp; omega
    · intro j h1 h2
      simp at h1
      simp [List.getD, List.getElem?_eq_getElem (show j < q.length by omega)]
      rfl
  · simp only [isPts, isSl, List.all_eq_true, List.mem_range]
    exact fun _ _ => rfl
theorem unRings_take (l : List (List Pt)) (i : Nat) (h : i ≤ l.length) : unRings (F.sl i fun j => ringF (l.getD j [])) = l.take i ∧ isRings (F.sl i fun j => ringF (l.getD j [])) = true := by
  constructor
  · show (List.range i).map (fun j => unRing (ringF (l.getD j []))) = _
    apply List.ext_getElem
    · simp; omega
    · intro j h1 h2
      simp at h1
      simp [List.getD, List.getElem?_eq_getElem (show j < l.length by omega), unRing_ringF]
  · simp only [isRings, isSl, List.all_eq_true, List.mem_range]
    exact fun _ _ => isRing_ringF _
def sideAt (q : List Pt) (i : Nat) : Sg := legOf (q.getD i .zero) (q.getD ((i + 1) % q.length) .zero)
def sidesOf (q : List Pt) : List Sg := (List.range q.length).map (sideAt q)
theorem sidesOf_len (q : List Pt) : (sidesOf q).length = q.length := by simp [sidesOf]
theorem sidesOf_get (q : List Pt) {i : Nat} (h : i < q.length) : (sidesOf q).getD i .zero = sideAt q i := by
  simp [sidesOf, List.getD, h]
end
end Go.Proofs.Ytmambbfnjbdfgaa.R

namespace Go.Proofs.Ytmambbfnjbdfgaa.R
open Go
noncomputable section
set_option linter.unusedVariables false
set_option linter.unusedSimpArgs false
set_option maxRecDepth 100000
/-! ### function 149 -/
def T149 {ρ : Type} (ret : (Int) → (Int) → (Int) → (Int) → Option ρ) (q : List Pt) (i : Int) : Option ρ :=
 (bsel (decide (0 ≤ i))
 (bsel (decide (i < (↑q.length : Int)))
 (bsel ((↑q.length : Int) != 0)
 (bsel (decide (0 ≤ (IntKind.i64.wrap (i + 1)).tmod (↑q.length : Int)))
 (bsel (decide ((IntKind.i64.wrap (i + 1)).tmod (↑q.length : Int) < (↑q.length : Int)))
 (bsel (lessV (q.getD ((IntKind.i64.wrap (i + 1)).tmod (↑q.length : Int)).toNat Pt.zero).x (q.getD ((IntKind.i64.wrap (i + 1)).tmod (↑q.length : Int)).toNat Pt.zero).y (q.getD i.toNat Pt.zero).x (q.getD i.toNat Pt.zero).y)
 (ret ((q.getD ((IntKind.i64.wrap (i + 1)).tmod (↑q.length : Int)).toNat Pt.zero).x) ((q.getD ((IntKind.i64.wrap (i + 1)).tmod (↑q.length : Int)).toNat Pt.zero).y) ((q.getD i.toNat Pt.zero).x) ((q.getD i.toNat Pt.zero).y))
 (ret ((q.getD i.toNat Pt.zero).x) ((q.getD i.toNat Pt.zero).y) ((q.getD ((IntKind.i64.wrap (i + 1)).tmod (↑q.length : Int)).toNat Pt.zero).x) ((q.getD ((IntKind.i64.wrap (i + 1)).tmod (↑q.length : Int)).toNat Pt.zero).y)))
 none)
 none)
 none)
 none)
 none)
def G149 (q : List Pt) (i : Int) : Option ((Int) × (Int) × (Int) × (Int)) := T149 (fun a b c d => some (a, b, c, d)) q i
theorem t149 (q : List Pt) (i : Int) (a : Int) (b : Int) (c : Int) (d : Int) (h : G149 q i = some (a, b, c, d)) : Ends Try.prog Try.f149.results.toList [.code (bodyOf Try.f149)] (start Try.f149.ntmps ([F.agg [ptsF q], F.int .i64 i].map .f)) (F.agg [F.int .i64 a, F.int .i64 b, F.int .i64 c, F.int .i64 d]) := by
  refine Ends.of_run tyOK envZ5_ok (T := []) (n := 200) ?_
  have e : run Try.prog (tiOf Try.prog) envZ5 [] 0 Try.f149.results.toList some 200 [.code (bodyOf Try.f149)] (start Try.f149.ntmps ([F.agg [ptsF q], F.int .i64 i].map .f)) = T149 (fun a b c d => some (.ret (F.agg [F.int .i64 a, F.int .i64 b, F.int .i64 c, F.int .i64 d]))) q i := by kernel_rfl
  rw [e]
  exact (good_sel h (fun _ h => (good_sel h (fun _ h => (good_sel h (fun _ h => (good_sel h (fun _ h => (good_sel h (fun _ h => (good_sel h (fun _ h => good_ret (by cases h; rfl)) (fun _ h => good_ret (by cases h; rfl)))) (fun _ h => nomatch h))) (fun _ h => nomatch h))) (fun _ h => nomatch h))) (fun _ h => nomatch h))) (fun _ h => nomatch h))
theorem tmod_nat (m n : Nat) : ((m : Nat) : Int).tmod (n : Int) = ((m % n : Nat) : Int) := rfl
theorem next_conds {n i : Nat} (hi : i < n) (hn : n ≤ 1000) : IntKind.i64.wrap ((i : Int) + 1) = ((i + 1 : Nat) : Int) ∧ decide ((0 : Int) ≤ i) = true ∧ decide ((i : Int) < (n : Int)) = true ∧ ((n : Int) != 0) = true ∧ decide ((0 : Int) ≤ (((i + 1) % n : Nat) : Int)) = true ∧ decide ((((i + 1) % n : Nat) : Int) < (n : Int)) = true := by
  have h := Nat.mod_lt (i + 1) (show 0 < n by omega)
  refine ⟨by rw [wrapI (by omega) (by omega)]; omega, decide_eq_true (by omega), decide_eq_true (by omega), by rw [bne_iff_ne]; omega, decide_eq_true (by omega), decide_eq_true (by omega)⟩
theorem side_law {q : List Pt} {i : Nat} (hi : i < q.length) (hn : q.length ≤ 1000) : G149 q i = some ((sideAt q i).x0, (sideAt q i).y0, (sideAt q i).x1, (sideAt q i).y1) := by
  obtain ⟨c1, c2, c3, c4, c5, c6⟩ := next_conds hi hn
  unfold G149 T149
  simp only [c1, tmod_nat, c2, c3, c4, c5, c6, Int.toNat_natCast, bsel_true]
  unfold sideAt legOf
  cases lessV (q.getD ((i + 1) % q.length) .zero).x (q.getD ((i + 1) % q.length) .zero).y (q.getD i .zero).x (q.getD i .zero).y <;> rfl
def isAt (q : List Pt) (i : Int) : Bool := decide (0 ≤ i) && decide (i < (q.length : Int)) && decide (q.length ≤ 1000)
theorem isAt_iff {q : List Pt} {i : Int} : isAt q i = true ↔ (0 ≤ i ∧ i < (q.length : Int)) ∧ q.length ≤ 1000 := by simp only [isAt, Bool.and_eq_true, decide_eq_true_eq]
def preSideAt : List F → Bool | [x, .int .i64 i] => isRing x && isAt (unRing x) i | _ => false
def resSideAt : List F → F | [x, .int .i64 i] => sgF (sideAt (unRing x) i.toNat) | _ => .dflt
theorem okSideAt : PureOK Try.prog 149 preSideAt resSideAt :=
  fn_pure_at (c := bodyOf Try.f149) Try.func149 (by kernel_rfl) (by kernel_rfl) fun xs hp => match xs, hp with
  | [x, .int .i64 i], hp => by
    simp only [preSideAt, Bool.and_eq_true] at hp
    obtain ⟨⟨h1, h2⟩, h3⟩ := isAt_iff.1 hp.2
    have h := side_law (q := unRing x) (i := i.toNat) (by omega) h3
    rw [Int.toNat_of_nonneg h1] at h
    exact ⟨[ringF (unRing x), .int .i64 i], _, ⟨(ring_eqv hp.1).1, .refl _, trivial⟩, t149 _ _ _ _ _ _ h, .refl _⟩
/-! ### function 154 -/
def S154_2 (q : List Pt) (x : Int) (y : Int) (n : Int) (i : Int) : St := ⟨[(U.f (ptsF q)), .bad, .bad, (U.hp 0 0), .bad, .bad, .bad, (U.f (F.int .i64 n)), (U.f (F.int .i64 i)), .bad, .bad, .bad, .bad, .bad, .bad, .bad, .bad, .bad, .bad], [HO.box [(U.f (F.int .i64 x)), (U.f (F.int .i64 y))]]⟩
def T154_2 {ρ : Type} (ret : (Int) → Option ρ) (c2 : (List Pt) → (Int) → (Int) → (Int) → (Int) → Option ρ) (q : List Pt) (x : Int) (y : Int) (n : Int) (i : Int) : Option ρ :=
 (bsel (decide (i < n))
 (bsel (decide (0 ≤ i))
 (bsel (decide (i < (↑q.length : Int)))
 (bsel (x == (q.getD i.toNat Pt.zero).x && (y == (q.getD i.toNat Pt.zero).y && true))
 (ret (i))
 (c2 (q) (x) (y) (n) (IntKind.i64.wrap (i + 1))))
 none)
 none)
 (ret (-1)))
def L154_2 : Nat → (List Pt) → (Int) → (Int) → (Int) → (Int) → Option (Int)
  | 0, _, _, _, _, _ => none
  | k + 1, q, x, y, n, i => T154_2 some (L154_2 k) q x y n i
def T154 {ρ : Type} (ret : (Int) → Option ρ) (c2 : (List Pt) → (Int) → (Int) → (Int) → (Int) → Option ρ) (q : List Pt) (x : Int) (y : Int) : Option ρ :=
 (c2 (q) (x) (y) ((↑q.length : Int)) (0))
def G154 (k : Nat) (q : List Pt) (x : Int) (y : Int) : Option (Int) := T154 some (L154_2 k) q x y
theorem t154_2 : ∀ (k : Nat) (q : List Pt) (x : Int) (y : Int) (n : Int) (i : Int) (r : Int), L154_2 k q x y n i = some r → Ends Try.prog Try.f154.results.toList (at_ Try.f154 2) (S154_2 q x y n i) (F.int .i64 r)
  | 0, _, _, _, _, _, _, h => nomatch h
  | k + 1, q, x, y, n, i, r, h => by
    refine Ends.of_cut tyOK envZ5_ok (T := [(2, [0, 3, 7, 8], 1000)]) (n := 200) ?_
    have e : runCut Try.prog (tiOf Try.prog) envZ5 [(2, [0, 3, 7, 8], 1000)] 0 Try.f154.results.toList some 200 (at_ Try.f154 2) (S154_2 q x y n i) = T154_2 (fun r => some (.ret (F.int .i64 r))) (fun q x y n i => some (.cut (at_ Try.f154 2) (S154_2 q x y n i))) q x y n i := by kernel_rfl
    rw [e]
    exact (good_sel h (fun _ h => (good_sel h (fun _ h => (good_sel h (fun _ h => (good_sel h (fun _ h => good_ret (by cases h; rfl)) (fun _ h => good_cut (t154_2 k _ _ _ _ _ r h)))) (fun _ h => nomatch h))) (fun _ h => nomatch h))) (fun _ h => good_ret (by cases h; rfl)))
theorem t154 (k : Nat) (q : List Pt) (x : Int) (y : Int) (r : Int) (h : G154 k q x y = some r) : Ends Try.prog Try.f154.results.toList [.code (bodyOf Try.f154)] (start Try.f154.ntmps ([ptsF q, F.agg [F.int .i64 x, F.int .i64 y]].map .f)) (F.int .i64 r) := by
  refine Ends.of_run tyOK envZ5_ok (T := [(2, [0, 3, 7, 8], 1000)]) (n := 200) ?_
  have e : run Try.prog (tiOf Try.prog) envZ5 [(2, [0, 3, 7, 8], 1000)] 0 Try.f154.results.toList some 200 [.code (bodyOf Try.f154)] (start Try.f154.ntmps ([ptsF q, F.agg [F.int .i64 x, F.int .i64 y]].map .f)) = T154 (fun r => some (.ret (F.int .i64 r))) (fun q x y n i => some (.cut (at_ Try.f154 2) (S154_2 q x y n i))) q x y := by kernel_rfl
  rw [e]
  exact good_cut (t154_2 k _ _ _ _ _ r h)
def idxGo (x y : Int) : List Pt → Nat → Int
  | [], _ => -1
  | p :: r, i => bif x == p.x && y == p.y then (i : Int) else idxGo x y r (i + 1)
def hasV (q : List Pt) (x y : Int) : Bool := q.any fun p => x == p.x && y == p.y
theorem idx_has (x y : Int) : ∀ (r : List Pt) (i : Nat), decide (idxGo x y r i ≥ 0) = hasV r x y
  | [], i => rfl
  | p :: r, i => by
    unfold hasV idxGo
    rw [List.any_cons]
    cases x == p.x && y == p.y with
    | true => rw [cond_true, decide_eq_true (by omega)]; rfl
    | false => rw [cond_false, idx_has x y r (i + 1)]; rfl
theorem idx_loop {q : List Pt} (hn : q.length ≤ 1000) (x y : Int) : ∀ (d i k : Nat), i + d = q.length → d + 1 ≤ k → L154_2 k q x y q.length i = some (idxGo x y (q.drop i) i)
  | d, i, 0, _, hk => by omega
  | 0, i, k + 1, hi, hk => by
    rw [L154_2]
    unfold T154_2
    rw [decide_eq_false (show ¬ (i : Int) < q.length by omega), List.drop_eq_nil_of_le (by omega)]
    rfl
  | d + 1, i, k + 1, hi, hk => by
    have hlt : i < q.length := by omega
    have hg : q.getD i Pt.zero = q[i] := by simp [List.getD, List.getElem?_eq_getElem hlt]
    have wi : IntKind.i64.wrap ((i : Int) + 1) = ((i + 1 : Nat) : Int) := by rw [wrapI (by omega) (by omega)]; omega
    rw [L154_2]
    unfold T154_2
    rw [decide_eq_true (show (i : Int) < q.length by omega), decide_eq_true (show (0 : Int) ≤ i by omega), Int.toNat_natCast, hg, wi, idx_loop hn x y d (i + 1) k (by omega) (by omega), List.drop_eq_getElem_cons hlt, idxGo]
    simp only [bsel_true, Bool.and_true]
    cases x == q[i].x && y == q[i].y <;> rfl
def isShort (q : List Pt) : Bool := decide (q.length ≤ 1000)
def preIdx : List F → Bool | [x, .agg [.int .i64 _, .int .i64 _]] => isPts x && isShort (unPts x) | _ => false
def resIdx : List F → F | [x, .agg [.int .i64 a, .int .i64 b]] => .int .i64 (idxGo a b (unPts x) 0) | _ => .dflt
theorem okIdx : PureOK Try.prog 154 preIdx resIdx :=
  fn_pure_at (c := bodyOf Try.f154) Try.func154 (by kernel_rfl) (by kernel_rfl) fun xs hp => match xs, hp with
  | [x, .agg [.int .i64 a, .int .i64 b]], hp => by
    simp only [preIdx, Bool.and_eq_true] at hp
    exact ⟨[ptsF (unPts x), _], _, ⟨(pts_eqv hp.1).1, .refl _, trivial⟩, t154 2000 _ _ _ _ (by
      unfold G154 T154
      have h2 : (unPts x).length ≤ 1000 := of_decide_eq_true hp.2
      exact idx_loop h2 a b (unPts x).length 0 2000 (by omega) (by omega)), .refl _⟩
/-! ### function 151 -/
def S151_3 (q : List Pt) (n : Nat) (g : Nat → F) (m : Int) (i : Int) : St := ⟨[.bad, (U.hp 0 0), .bad, (U.hs 1 n 0 n), .bad, .bad, .bad, .bad, (U.f (ptsF q)), (U.f (F.int .i64 m)), (U.f (F.int .i64 i)), .bad, .bad, .bad, .bad, .bad, .bad, .bad, .bad, .bad, .bad, .bad, .bad, .bad, .bad, .bad, .bad, .bad, .bad, .bad, .bad, .bad], [HO.box [(U.f (ptsF q))], HO.arr 4 n g]⟩
def T151_3 {ρ : Type} (ret : (F) → Option ρ) (c3 : (List Pt) → (Nat) → (Nat → F) → (Int) → (Int) → Option ρ) (q : List Pt) (n : Nat) (g : Nat → F) (m : Int) (i : Int) : Option ρ :=
 (bsel (decide (i < m))
 (bsel (decide (0 ≤ i))
 (bsel (decide (i < (↑q.length : Int)))
 (bsel ((↑q.length : Int) != 0)
 (bsel (decide (0 ≤ (IntKind.i64.wrap (i + 1)).tmod (↑q.length : Int)))
 (bsel (decide ((IntKind.i64.wrap (i + 1)).tmod (↑q.length : Int) < (↑q.length : Int)))
 (bsel (decide (n = n))
 (bsel (decide (n = n))
 (bsel (decide ((↑(n + 1) : Int) * (((32 : Nat) : Int) + 1) ≤ (↑limit : Int)))
 (c3 (q) (n + 1) (fun j ↦ if j < n then g j else F.agg [F.int .i64 (legOf { x := (q.getD i.toNat Pt.zero).x, y := (q.getD i.toNat Pt.zero).y } { x := (q.getD ((IntKind.i64.wrap (i + 1)).tmod (↑q.length : Int)).toNat Pt.zero).x, y := (q.getD ((IntKind.i64.wrap (i + 1)).tmod (↑q.length : Int)).toNat Pt.zero).y }).x0, F.int .i64 (legOf { x := (q.getD i.toNat Pt.zero).x, y := (q.getD i.toNat Pt.zero).y } { x := (q.getD ((IntKind.i64.wrap (i + 1)).tmod (↑q.length : Int)).toNat Pt.zero).x, y := (q.getD ((IntKind.i64.wrap (i + 1)).tmod (↑q.length : Int)).toNat Pt.zero).y }).y0, F.int .i64 (legOf { x := (q.getD i.toNat Pt.zero).x, y := (q.getD i.toNat Pt.zero).y } { x := (q.getD ((IntKind.i64.wrap (i + 1)).tmod (↑q.length : Int)).toNat Pt.zero).x, y := (q.getD ((IntKind.i64.wrap (i + 1)).tmod (↑q.length : Int)).toNat Pt.zero).y }).x1, F.int .i64 (legOf { x := (q.getD i.toNat Pt.zero).x, y := (q.getD i.toNat Pt.zero).y } { x := (q.getD ((IntKind.i64.wrap (i + 1)).tmod (↑q.length : Int)).toNat Pt.zero).x, y := (q.getD ((IntKind.i64.wrap (i + 1)).tmod (↑q.length : Int)).toNat Pt.zero).y }).y1]) (m) (IntKind.i64.wrap (i + 1)))
 none)
 none)
 none)
 none)
 none)
 none)
 none)
 none)
 (bsel (decide (n = n))
 (ret (F.sl n g))
 none))
def L151_3 : Nat → (List Pt) → (Nat) → (Nat → F) → (Int) → (Int) → Option (F)
  | 0, _, _, _, _, _ => none
  | k + 1, q, n, g, m, i => T151_3 some (L151_3 k) q n g m i
def T151 {ρ : Type} (ret : (F) → Option ρ) (c3 : (List Pt) → (Nat) → (Nat → F) → (Int) → (Int) → Option ρ) (q : List Pt) : Option ρ :=
 (c3 (q) (0) (lget []) ((↑q.length : Int)) (0))
def G151 (k : Nat) (q : List Pt) : Option (F) := T151 some (L151_3 k) q
theorem t151_3 : ∀ (k : Nat) (q : List Pt) (n : Nat) (g : Nat → F) (m : Int) (i : Int) (r : F), L151_3 k q n g m i = some r → Ends Try.prog Try.f151.results.toList (at_ Try.f151 3) (S151_3 q n g m i) (r)
  | 0, _, _, _, _, _, _, h => nomatch h
  | k + 1, q, n, g, m, i, r, h => by
    refine Ends.of_cut tyOK envZ5_ok (T := [(3, [1, 3, 8, 9, 10], 1000)]) (n := 200) ?_
    have e : runCut Try.prog (tiOf Try.prog) envZ5 [(3, [1, 3, 8, 9, 10], 1000)] 0 Try.f151.results.toList some 200 (at_ Try.f151 3) (S151_3 q n g m i) = T151_3 (fun r => some (.ret (r))) (fun q n g m i => some (.cut (at_ Try.f151 3) (S151_3 q n g m i))) q n g m i := by kernel_rfl
    rw [e]
    exact (good_sel h (fun _ h => (good_sel h (fun _ h => (good_sel h (fun _ h => (good_sel h (fun _ h => (good_sel h (fun _ h => (good_sel h (fun _ h => (good_sel h (fun _ h => (good_sel h (fun _ h => (good_sel h (fun _ h => good_cut (t151_3 k _ _ _ _ _ r h)) (fun _ h => nomatch h))) (fun _ h => nomatch h))) (fun _ h => nomatch h))) (fun _ h => nomatch h))) (fun _ h => nomatch h))) (fun _ h => nomatch h))) (fun _ h => nomatch h))) (fun _ h => nomatch h))) (fun _ h => (good_sel h (fun _ h => good_ret (by cases h; rfl)) (fun _ h => nomatch h))))
theorem t151 (k : Nat) (q : List Pt) (r : F) (h : G151 k q = some r) : Ends Try.prog Try.f151.results.toList [.code (bodyOf Try.f151)] (start Try.f151.ntmps ([F.agg [ptsF q]].map .f)) (r) := by
  refine Ends.of_run tyOK envZ5_ok (T := [(3, [1, 3, 8, 9, 10], 1000)]) (n := 200) ?_
  have e : run Try.prog (tiOf Try.prog) envZ5 [(3, [1, 3, 8, 9, 10], 1000)] 0 Try.f151.results.toList some 200 [.code (bodyOf Try.f151)] (start Try.f151.ntmps ([F.agg [ptsF q]].map .f)) = T151 (fun r => some (.ret (r))) (fun q n g m i => some (.cut (at_ Try.f151 3) (S151_3 q n g m i))) q := by kernel_rfl
  rw [e]
  exact good_cut (t151_3 k _ _ _ _ _ r h)
theorem sides_loop {q : List Pt} (hn : q.length ≤ 1000) : ∀ (d i k : Nat) (g : Nat → F), i + d = q.length → d + 1 ≤ k → (∀ j, j < i → g j = sgF (sideAt q j)) → ∃ g', L151_3 k q i g q.length i = some (.sl q.length g') ∧ ∀ j, j < q.length → g' j = sgF (sideAt q j)
  | d, i, 0, _, _, hk, _ => by omega
  | 0, i, k + 1, g, hi, hk, hg => by
    obtain rfl : i = q.length := by omega
    refine ⟨g, ?_, hg⟩
    rw [L151_3]
    unfold T151_3
    rw [decide_eq_false (by omega), decide_eq_true (show q.length = q.length from rfl)]
    rfl
  | d + 1, i, k + 1, g, hi, hk, hg => by
    obtain ⟨c1, c2, c3, c4, c5, c6⟩ := next_conds (n := q.length) (i := i) (by omega) hn
    have c7 : decide (((i + 1 : Nat) : Int) * (((32 : Nat) : Int) + 1) ≤ (limit : Int)) = true := by rw [limit_eq]; exact decide_eq_true (by omega)
    rw [L151_3]
    unfold T151_3
    simp only [c1, tmod_nat, c2, c3, c4, c5, c6, c7, Int.toNat_natCast, decide_true, bsel_true, pt_eta]
    refine sides_loop hn d (i + 1) k _ (by omega) (by omega) fun j hj => ?_
    by_cases h : j < i
    · rw [if_pos h, hg j h]
    · obtain rfl : j = i := by omega
      rw [if_neg h]
      rfl
def preSides : List F → Bool | [x] => isRing x && isShort (unRing x) | _ => false
def resSides : List F → F | [x] => segsF (sidesOf (unRing x)) | _ => .dflt
theorem okSides : PureOK Try.prog 151 preSides resSides :=
  fn_pure_at (c := bodyOf Try.f151) Try.func151 (by kernel_rfl) (by kernel_rfl) fun xs hp => match xs, hp with
  | [x], hp => by
    simp only [preSides, Bool.and_eq_true] at hp
    have h2 : (unRing x).length ≤ 1000 := of_decide_eq_true hp.2
    obtain ⟨g, e, hg⟩ := sides_loop h2 (unRing x).length 0 2000 (lget []) (by omega) (by omega) fun j hj => by omega
    refine ⟨[ringF (unRing x)], _, ⟨(ring_eqv hp.1).1, trivial⟩, t151 2000 _ _ e, ?_⟩
    show FLe _ (segsF (sidesOf (unRing x)))
    unfold segsF slF
    rw [sidesOf_len]
    exact FLe.sl fun j hj => by rw [hg j hj, sidesOf_get _ hj]
def envK1 : Env := ((envZ5.add 149 (.pure preSideAt resSideAt)).add 154 (.pure preIdx resIdx)).add 151 (.pure preSides resSides)
theorem envK1_ok : EnvOK Try.prog envK1 := (Env.add_ok (Env.add_ok (Env.add_ok envZ5_ok okSideAt.sp) okIdx.sp) okSides.sp)
end
end Go.Proofs.Ytmambbfnjbdfgaa.R

namespace Go.Proofs.Ytmambbfnjbdfgaa.R
open Go
noncomputable section
set_option linter.unusedVariables false
set_option linter.unusedSimpArgs false
set_option maxRecDepth 100000
/-! ### function 150 -/
def T150 {ρ : Type} (ret : (Bool) → Option ρ) (q : List Pt) (x : Int) (y : Int) : Option ρ :=
 (bsel (isPts (ptsF q) && isShort (unPts (ptsF q)))
 (ret (decide (idxGo x y (unPts (ptsF q)) 0 ≥ 0)))
 none)
def G150 (q : List Pt) (x : Int) (y : Int) : Option (Bool) := T150 some q x y
theorem t150 (q : List Pt) (x : Int) (y : Int) (b : Bool) (h : G150 q x y = some b) : Ends Try.prog Try.f150.results.toList [.code (bodyOf Try.f150)] (start Try.f150.ntmps ([ptsF q, F.agg [F.int .i64 x, F.int .i64 y]].map .f)) (F.bool b) := by
  refine Ends.of_run tyOK envK1_ok (T := []) (n := 200) ?_
  have e : run Try.prog (tiOf Try.prog) envK1 [] 0 Try.f150.results.toList some 200 [.code (bodyOf Try.f150)] (start Try.f150.ntmps ([ptsF q, F.agg [F.int .i64 x, F.int .i64 y]].map .f)) = T150 (fun b => some (.ret (F.bool b))) q x y := by kernel_rfl
  rw [e]
  exact (good_sel h (fun _ h => good_ret (by cases h; rfl)) (fun _ h => nomatch h))
def resHas : List F → F | [x, .agg [.int .i64 a, .int .i64 b]] => .bool (hasV (unPts x) a b) | _ => .dflt
theorem okHas : PureOK Try.prog 150 preIdx resHas :=
  fn_pure_at (c := bodyOf Try.f150) Try.func150 (by kernel_rfl) (by kernel_rfl) fun xs hp => match xs, hp with
  | [x, .agg [.int .i64 a, .int .i64 b]], hp => by
    simp only [preIdx, Bool.and_eq_true] at hp
    exact ⟨[ptsF (unPts x), _], _, ⟨(pts_eqv hp.1).1, .refl _, trivial⟩, t150 _ _ _ _ (by
      unfold G150 T150
      rw [isPts_ptsF, unPts_ptsF, hp.2, idx_has]
      rfl), .refl _⟩
def envK2a : Env := envK1.add 150 (.pure preIdx resHas)
theorem envK2a_ok : EnvOK Try.prog envK2a := (Env.add_ok envK1_ok okHas.sp)
end
end Go.Proofs.Ytmambbfnjbdfgaa.R

namespace Go.Proofs.Ytmambbfnjbdfgaa.R
open Go
noncomputable section
set_option linter.unusedVariables false
set_option linter.unusedSimpArgs false
set_option maxRecDepth 100000
set_option maxHeartbeats 1000000
theorem unRing_agg (q : List Pt) : unRing (F.agg [ptsF q]) = q := unPts_ptsF q
theorem isRing_agg (q : List Pt) : isRing (F.agg [ptsF q]) = true := isPts_ptsF q
def k3 (s t : Sg) : Int := kind3V s.x0 s.y0 s.x1 s.y1 t.x0 t.y0 t.x1 t.y1
def kI (s t : Sg) : Int := kindIV s.x0 s.y0 s.x1 s.y1 t.x0 t.y0 t.x1 t.y1
def okS (s : Sg) : Bool := segOkV s.x0 s.y0 s.x1 s.y1
theorem kI_3 {s t : Sg} (hs : okS s = true) (ht : okS t = true) : kI s t = k3 s t := kindI_3 hs ht
theorem k3_range {s t : Sg} (hs : okS s = true) (ht : okS t = true) : k3 s t = 0 ∨ k3 s t = 1 ∨ k3 s t = 2 := (kind3_ok hs ht).1
def sideNx (n i j : Nat) : Bool := decide (j + 1 = i) || (decide (j = 0) && decide (i + 1 = n))
def bad3 (m : Int) (nx : Bool) : Bool := bif nx then m != 1 else m != 0
def badI (m : Int) (nx : Bool) : Bool := m == 2 || (m == 1 && !nx)
def samePt (q : List Pt) (i j : Nat) : Bool := (q.getD i .zero).x == (q.getD j .zero).x && (q.getD i .zero).y == (q.getD j .zero).y
def cross3 (q : List Pt) (i j : Nat) : Bool := bad3 (k3 (sideAt q i) (sideAt q j)) (sideNx q.length i j)
def crossI (q : List Pt) (i j : Nat) : Bool := badI (kI (sideAt q i) (sideAt q j)) (sideNx q.length i j)
def triFree (h : Nat → Nat → Bool) (i d : Nat) : Bool := allUp (fun i => allUp (fun j => !h i j) 0 i) i d
def faultBy (h : List Pt → Nat → Nat → Bool) (q : List Pt) : Int :=
  bif decide (q.length < 3) then 1 else bif decide (q.length > 12) then 2 else bif !(q.all fun p => spotOkV p.x p.y) then 3 else bif !triFree (samePt q) 0 q.length then 4 else bif !triFree (h q) 0 q.length then 5 else 0
def fault3V (q : List Pt) : Int := faultBy cross3 q
def faultIV (q : List Pt) : Int := faultBy crossI q
theorem tri_iff {h : Nat → Nat → Bool} {n : Nat} : triFree h 0 n = true ↔ ∀ i, i < n → ∀ j, j < i → h i j = false := by
  unfold triFree
  rw [allUp_iff]
  constructor
  · intro g i hi j hj
    have := (allUp_iff _ _ _).1 (g i (by omega) (by omega)) j (by omega) (by omega)
    simpa using this
  · intro g i _ hi
    rw [allUp_iff]
    intro j _ hj
    rw [g i (by omega) j (by omega)]
    rfl
structure RingIn (q : List Pt) : Prop where
  low : 3 ≤ q.length
  high : q.length ≤ 12
  spots : ∀ p ∈ q, spotIn p.x p.y
  unlike : ∀ i, i < q.length → ∀ j, j < i → q.getD i .zero ≠ q.getD j .zero
theorem unlike_ne {q : List Pt} (h : RingIn q) {i j : Nat} (hi : i < q.length) (hj : j < q.length) (hij : i ≠ j) : q.getD i .zero ≠ q.getD j .zero := by
  rcases Nat.lt_or_ge j i with h1 | h1
  · exact h.unlike i hi j h1
  · exact fun e => h.unlike j hj i (by omega) e.symm
theorem next_ne {n i : Nat} (hi : i < n) (hn : 3 ≤ n) : (i + 1) % n ≠ i ∧ (i + 1) % n < n := by
  refine ⟨?_, Nat.mod_lt _ (by omega)⟩
  by_cases h : i + 1 = n
  · rw [h, Nat.mod_self]; omega
  · rw [Nat.mod_eq_of_lt (by omega)]; omega
theorem side_ok {q : List Pt} (h : RingIn q) {i : Nat} (hi : i < q.length) : okS (sideAt q i) = true := by
  obtain ⟨h1, h2⟩ := next_ne hi h.low
  exact leg_ok (h.spots _ (getD_in hi)) (h.spots _ (getD_in h2)) (unlike_ne h hi h2 (fun e => h1 e.symm))
theorem same_ne {q : List Pt} {i j : Nat} (h : samePt q i j = false) : q.getD i .zero ≠ q.getD j .zero := fun e => by
  unfold samePt at h
  rw [e, beq_self_eq_true, beq_self_eq_true] at h
  cases h
theorem ringIn_of {q : List Pt} (h1 : ¬ q.length < 3) (h2 : ¬ q.length > 12) (h3 : (q.all fun p => spotOkV p.x p.y) = true) (h4 : triFree (samePt q) 0 q.length = true) : RingIn q :=
  ⟨by omega, by omega, fun p hp => spotOk_iff.1 (List.all_eq_true.1 h3 p hp), fun i hi j hj => same_ne (tri_iff.1 h4 i hi j hj)⟩
/-! The reference. -/
/-! ### function 134 -/
def S134_7 (q : List Pt) (n : Int) (i : Int) : St := ⟨[.bad, (U.hp 0 0), .bad, (U.f (F.int .i64 n)), (U.f (F.int .i64 i)), .bad, .bad, .bad, .bad, .bad, .bad, .bad, .bad, .bad, .bad, .bad, .bad, .bad, .bad, .bad, .bad, .bad, .bad, .bad, .bad, .bad, .bad, .bad, .bad, .bad, .bad, .bad, .bad, .bad, .bad, .bad, .bad, .bad, .bad, .bad, .bad, .bad, .bad, .bad, .bad, .bad, .bad, .bad, .bad, .bad, .bad, .bad, .bad, .bad, .bad, .bad, .bad, .bad, .bad, .bad, .bad, .bad, .bad, .bad, .bad, .bad, .bad, .bad, .bad, .bad, .bad, .bad, .bad, .bad, .bad, .bad, .bad, .bad, .bad, .bad, .bad, .bad, .bad, .bad, .bad, .bad, .bad, .bad, .bad, .bad, .bad, .bad, .bad, .bad, .bad, .bad, .bad, .bad, .bad, .bad, .bad], [HO.box [(U.f (ptsF q))]]⟩
def S134_12 (q : List Pt) (n : Int) (i : Int) : St := ⟨[.bad, (U.hp 0 0), .bad, (U.f (F.int .i64 n)), .bad, (U.f (F.int .i64 i)), .bad, .bad, .bad, .bad, .bad, .bad, .bad, .bad, .bad, .bad, .bad, .bad, .bad, .bad, .bad, .bad, .bad, .bad, .bad, .bad, .bad, .bad, .bad, .bad, .bad, .bad, .bad, .bad, .bad, .bad, .bad, .bad, .bad, .bad, .bad, .bad, .bad, .bad, .bad, .bad, .bad, .bad, .bad, .bad, .bad, .bad, .bad, .bad, .bad, .bad, .bad, .bad, .bad, .bad, .bad, .bad, .bad, .bad, .bad, .bad, .bad, .bad, .bad, .bad, .bad, .bad, .bad, .bad, .bad, .bad, .bad, .bad, .bad, .bad, .bad, .bad, .bad, .bad, .bad, .bad, .bad, .bad, .bad, .bad, .bad, .bad, .bad, .bad, .bad, .bad, .bad, .bad, .bad, .bad, .bad], [HO.box [(U.f (ptsF q))]]⟩
def S134_15 (q : List Pt) (n : Int) (i : Int) (j : Int) : St := ⟨[.bad, (U.hp 0 0), .bad, (U.f (F.int .i64 n)), .bad, (U.f (F.int .i64 i)), (U.f (F.int .i64 j)), .bad, .bad, .bad, .bad, .bad, .bad, .bad, .bad, .bad, .bad, .bad, .bad, .bad, .bad, .bad, .bad, .bad, .bad, .bad, .bad, .bad, .bad, .bad, .bad, .bad, .bad, .bad, .bad, .bad, .bad, .bad, .bad, .bad, .bad, .bad, .bad, .bad, .bad, .bad, .bad, .bad, .bad, .bad, .bad, .bad, .bad, .bad, .bad, .bad, .bad, .bad, .bad, .bad, .bad, .bad, .bad, .bad, .bad, .bad, .bad, .bad, .bad, .bad, .bad, .bad, .bad, .bad, .bad, .bad, .bad, .bad, .bad, .bad, .bad, .bad, .bad, .bad, .bad, .bad, .bad, .bad, .bad, .bad, .bad, .bad, .bad, .bad, .bad, .bad, .bad, .bad, .bad, .bad, .bad], [HO.box [(U.f (ptsF q))]]⟩
def S134_20 (q : List Pt) (n : Int) (i : Int) : St := ⟨[.bad, (U.hp 0 0), .bad, (U.f (F.int .i64 n)), .bad, .bad, .bad, (U.f (F.int .i64 i)), .bad, .bad, .bad, .bad, .bad, .bad, .bad, .bad, .bad, .bad, .bad, .bad, .bad, .bad, .bad, .bad, .bad, .bad, .bad, .bad, .bad, .bad, .bad, .bad, .bad, .bad, .bad, .bad, .bad, .bad, .bad, .bad, .bad, .bad, .bad, .bad, .bad, .bad, .bad, .bad, .bad, .bad, .bad, .bad, .bad, .bad, .bad, .bad, .bad, .bad, .bad, .bad, .bad, .bad, .bad, .bad, .bad, .bad, .bad, .bad, .bad, .bad, .bad, .bad, .bad, .bad, .bad, .bad, .bad, .bad, .bad, .bad, .bad, .bad, .bad, .bad, .bad, .bad, .bad, .bad, .bad, .bad, .bad, .bad, .bad, .bad, .bad, .bad, .bad, .bad, .bad, .bad, .bad], [HO.box [(U.f (ptsF q))]]⟩
def S134_23 (q : List Pt) (n : Int) (i : Int) (j : Int) : St := ⟨[.bad, (U.hp 0 0), .bad, (U.f (F.int .i64 n)), .bad, .bad, .bad, (U.f (F.int .i64 i)), (U.f (F.int .i64 j)), .bad, .bad, .bad, .bad, .bad, .bad, .bad, .bad, .bad, .bad, .bad, .bad, .bad, .bad, .bad, .bad, .bad, .bad, .bad, .bad, .bad, .bad, .bad, .bad, .bad, .bad, .bad, .bad, .bad, .bad, .bad, .bad, .bad, .bad, .bad, .bad, .bad, .bad, .bad, .bad, .bad, .bad, .bad, .bad, .bad, .bad, .bad, .bad, .bad, .bad, .bad, .bad, .bad, .bad, .bad, .bad, .bad, .bad, .bad, .bad, .bad, .bad, .bad, .bad, .bad, .bad, .bad, .bad, .bad, .bad, .bad, .bad, .bad, .bad, .bad, .bad, .bad, .bad, .bad, .bad, .bad, .bad, .bad, .bad, .bad, .bad, .bad, .bad, .bad, .bad, .bad, .bad], [HO.box [(U.f (ptsF q))]]⟩
def T134_7 {ρ : Type} (ret : (Int) → Option ρ) (c7 : (List Pt) → (Int) → (Int) → Option ρ) (c12 : (List Pt) → (Int) → (Int) → Option ρ) (c15 : (List Pt) → (Int) → (Int) → (Int) → Option ρ) (c20 : (List Pt) → (Int) → (Int) → Option ρ) (c23 : (List Pt) → (Int) → (Int) → (Int) → Option ρ) (q : List Pt) (n : Int) (i : Int) : Option ρ :=
 (bsel (decide (i < n))
 (bsel (decide (0 ≤ i))
 (bsel (decide (i < (↑q.length : Int)))
 (bsel (!spotOkV (q.getD i.toNat Pt.zero).x (q.getD i.toNat Pt.zero).y)
 (ret (3))
 (c7 (q) (n) (IntKind.i64.wrap (i + 1))))
 none)
 none)
 (c12 (q) (n) (0)))
def T134_12 {ρ : Type} (ret : (Int) → Option ρ) (c7 : (List Pt) → (Int) → (Int) → Option ρ) (c12 : (List Pt) → (Int) → (Int) → Option ρ) (c15 : (List Pt) → (Int) → (Int) → (Int) → Option ρ) (c20 : (List Pt) → (Int) → (Int) → Option ρ) (c23 : (List Pt) → (Int) → (Int) → (Int) → Option ρ) (q : List Pt) (n : Int) (i : Int) : Option ρ :=
 (bsel (decide (i < n))
 (c15 (q) (n) (i) (0))
 (c20 (q) (n) (0)))
def T134_15 {ρ : Type} (ret : (Int) → Option ρ) (c7 : (List Pt) → (Int) → (Int) → Option ρ) (c12 : (List Pt) → (Int) → (Int) → Option ρ) (c15 : (List Pt) → (Int) → (Int) → (Int) → Option ρ) (c20 : (List Pt) → (Int) → (Int) → Option ρ) (c23 : (List Pt) → (Int) → (Int) → (Int) → Option ρ) (q : List Pt) (n : Int) (i : Int) (j : Int) : Option ρ :=
 (bsel (decide (j < i))
 (bsel (decide (0 ≤ i))
 (bsel (decide (i < (↑q.length : Int)))
 (bsel (decide (0 ≤ j))
 (bsel (decide (j < (↑q.length : Int)))
 (bsel ((q.getD i.toNat Pt.zero).x == (q.getD j.toNat Pt.zero).x && ((q.getD i.toNat Pt.zero).y == (q.getD j.toNat Pt.zero).y && true))
 (ret (4))
 (c15 (q) (n) (i) (IntKind.i64.wrap (j + 1))))
 none)
 none)
 none)
 none)
 (c12 (q) (n) (IntKind.i64.wrap (i + 1))))
def T134_20 {ρ : Type} (ret : (Int) → Option ρ) (c7 : (List Pt) → (Int) → (Int) → Option ρ) (c12 : (List Pt) → (Int) → (Int) → Option ρ) (c15 : (List Pt) → (Int) → (Int) → (Int) → Option ρ) (c20 : (List Pt) → (Int) → (Int) → Option ρ) (c23 : (List Pt) → (Int) → (Int) → (Int) → Option ρ) (q : List Pt) (n : Int) (i : Int) : Option ρ :=
 (bsel (decide (i < n))
 (c23 (q) (n) (i) (0))
 (ret (0)))
def T134_23 {ρ : Type} (ret : (Int) → Option ρ) (c7 : (List Pt) → (Int) → (Int) → Option ρ) (c12 : (List Pt) → (Int) → (Int) → Option ρ) (c15 : (List Pt) → (Int) → (Int) → (Int) → Option ρ) (c20 : (List Pt) → (Int) → (Int) → Option ρ) (c23 : (List Pt) → (Int) → (Int) → (Int) → Option ρ) (q : List Pt) (n : Int) (i : Int) (j : Int) : Option ρ :=
 (bsel (decide (j < i))
 (bsel (isRing (F.agg [ptsF q]) && isAt (unRing (F.agg [ptsF q])) i)
 (bsel (isRing (F.agg [ptsF q]) && isAt (unRing (F.agg [ptsF q])) j)
 (bsel (segOkV (sideAt (unRing (F.agg [ptsF q])) i.toNat).x0 (sideAt (unRing (F.agg [ptsF q])) i.toNat).y0 (sideAt (unRing (F.agg [ptsF q])) i.toNat).x1 (sideAt (unRing (F.agg [ptsF q])) i.toNat).y1 && segOkV (sideAt (unRing (F.agg [ptsF q])) j.toNat).x0 (sideAt (unRing (F.agg [ptsF q])) j.toNat).y0 (sideAt (unRing (F.agg [ptsF q])) j.toNat).x1 (sideAt (unRing (F.agg [ptsF q])) j.toNat).y1)
 (bsel ((j == IntKind.i64.wrap (i - 1)) == false)
 (bsel ((j == 0) == true)
 (bsel ((i == IntKind.i64.wrap (n - 1)) == true)
 (bsel ((kind3V (sideAt (unRing (F.agg [ptsF q])) i.toNat).x0 (sideAt (unRing (F.agg [ptsF q])) i.toNat).y0 (sideAt (unRing (F.agg [ptsF q])) i.toNat).x1 (sideAt (unRing (F.agg [ptsF q])) i.toNat).y1 (sideAt (unRing (F.agg [ptsF q])) j.toNat).x0 (sideAt (unRing (F.agg [ptsF q])) j.toNat).y0 (sideAt (unRing (F.agg [ptsF q])) j.toNat).x1 (sideAt (unRing (F.agg [ptsF q])) j.toNat).y1 != 1) == false)
 (bsel ((!i == IntKind.i64.wrap (n - 1)) == true)
 (bsel (kind3V (sideAt (unRing (F.agg [ptsF q])) i.toNat).x0 (sideAt (unRing (F.agg [ptsF q])) i.toNat).y0 (sideAt (unRing (F.agg [ptsF q])) i.toNat).x1 (sideAt (unRing (F.agg [ptsF q])) i.toNat).y1 (sideAt (unRing (F.agg [ptsF q])) j.toNat).x0 (sideAt (unRing (F.agg [ptsF q])) j.toNat).y0 (sideAt (unRing (F.agg [ptsF q])) j.toNat).x1 (sideAt (unRing (F.agg [ptsF q])) j.toNat).y1 != 0)
 (ret (5))
 (c23 (q) (n) (i) (IntKind.i64.wrap (j + 1))))
 (c23 (q) (n) (i) (IntKind.i64.wrap (j + 1))))
 (ret (5)))
 (bsel ((!i == IntKind.i64.wrap (n - 1)) == true)
 (bsel (kind3V (sideAt (unRing (F.agg [ptsF q])) i.toNat).x0 (sideAt (unRing (F.agg [ptsF q])) i.toNat).y0 (sideAt (unRing (F.agg [ptsF q])) i.toNat).x1 (sideAt (unRing (F.agg [ptsF q])) i.toNat).y1 (sideAt (unRing (F.agg [ptsF q])) j.toNat).x0 (sideAt (unRing (F.agg [ptsF q])) j.toNat).y0 (sideAt (unRing (F.agg [ptsF q])) j.toNat).x1 (sideAt (unRing (F.agg [ptsF q])) j.toNat).y1 != 0)
 (ret (5))
 (c23 (q) (n) (i) (IntKind.i64.wrap (j + 1))))
 (c23 (q) (n) (i) (IntKind.i64.wrap (j + 1)))))
 (bsel (kind3V (sideAt (unRing (F.agg [ptsF q])) i.toNat).x0 (sideAt (unRing (F.agg [ptsF q])) i.toNat).y0 (sideAt (unRing (F.agg [ptsF q])) i.toNat).x1 (sideAt (unRing (F.agg [ptsF q])) i.toNat).y1 (sideAt (unRing (F.agg [ptsF q])) j.toNat).x0 (sideAt (unRing (F.agg [ptsF q])) j.toNat).y0 (sideAt (unRing (F.agg [ptsF q])) j.toNat).x1 (sideAt (unRing (F.agg [ptsF q])) j.toNat).y1 != 0)
 (ret (5))
 (c23 (q) (n) (i) (IntKind.i64.wrap (j + 1)))))
 (bsel ((kind3V (sideAt (unRing (F.agg [ptsF q])) i.toNat).x0 (sideAt (unRing (F.agg [ptsF q])) i.toNat).y0 (sideAt (unRing (F.agg [ptsF q])) i.toNat).x1 (sideAt (unRing (F.agg [ptsF q])) i.toNat).y1 (sideAt (unRing (F.agg [ptsF q])) j.toNat).x0 (sideAt (unRing (F.agg [ptsF q])) j.toNat).y0 (sideAt (unRing (F.agg [ptsF q])) j.toNat).x1 (sideAt (unRing (F.agg [ptsF q])) j.toNat).y1 != 1) == false)
 (c23 (q) (n) (i) (IntKind.i64.wrap (j + 1)))
 (ret (5))))
 none)
 none)
 none)
 (c20 (q) (n) (IntKind.i64.wrap (i + 1))))
mutual
def L134_7 : Nat → (List Pt) → (Int) → (Int) → Option (Int)
  | 0, _, _, _ => none
  | k + 1, q, n, i => T134_7 some (L134_7 k) (L134_12 k) (L134_15 k) (L134_20 k) (L134_23 k) q n i
def L134_12 : Nat → (List Pt) → (Int) → (Int) → Option (Int)
  | 0, _, _, _ => none
  | k + 1, q, n, i => T134_12 some (L134_7 k) (L134_12 k) (L134_15 k) (L134_20 k) (L134_23 k) q n i
def L134_15 : Nat → (List Pt) → (Int) → (Int) → (Int) → Option (Int)
  | 0, _, _, _, _ => none
  | k + 1, q, n, i, j => T134_15 some (L134_7 k) (L134_12 k) (L134_15 k) (L134_20 k) (L134_23 k) q n i j
def L134_20 : Nat → (List Pt) → (Int) → (Int) → Option (Int)
  | 0, _, _, _ => none
  | k + 1, q, n, i => T134_20 some (L134_7 k) (L134_12 k) (L134_15 k) (L134_20 k) (L134_23 k) q n i
def L134_23 : Nat → (List Pt) → (Int) → (Int) → (Int) → Option (Int)
  | 0, _, _, _, _ => none
  | k + 1, q, n, i, j => T134_23 some (L134_7 k) (L134_12 k) (L134_15 k) (L134_20 k) (L134_23 k) q n i j
end
def T134 {ρ : Type} (ret : (Int) → Option ρ) (c7 : (List Pt) → (Int) → (Int) → Option ρ) (c12 : (List Pt) → (Int) → (Int) → Option ρ) (c15 : (List Pt) → (Int) → (Int) → (Int) → Option ρ) (c20 : (List Pt) → (Int) → (Int) → Option ρ) (c23 : (List Pt) → (Int) → (Int) → (Int) → Option ρ) (q : List Pt) : Option ρ :=
 (bsel (decide ((↑q.length : Int) < 3))
 (ret (1))
 (bsel (decide ((↑q.length : Int) > 12))
 (ret (2))
 (c7 (q) ((↑q.length : Int)) (0))))
def G134 (k : Nat) (q : List Pt) : Option (Int) := T134 some (L134_7 k) (L134_12 k) (L134_15 k) (L134_20 k) (L134_23 k) q
mutual
theorem t134_7 : ∀ (k : Nat) (q : List Pt) (n : Int) (i : Int) (r : Int), L134_7 k q n i = some r → Ends Try.prog Try.f134.results.toList (at_ Try.f134 7) (S134_7 q n i) (F.int .i64 r)
  | 0, _, _, _, _, h => nomatch h
  | k + 1, q, n, i, r, h => by
    refine Ends.of_cut tyOK envK2a_ok (T := [(7, [1, 3, 4], 1000), (12, [1, 3, 5], 1000), (15, [1, 3, 5, 6], 1000), (20, [1, 3, 7], 1000), (23, [1, 3, 7, 8], 1000)]) (n := 200) ?_
    have e : runCut Try.prog (tiOf Try.prog) envK2a [(7, [1, 3, 4], 1000), (12, [1, 3, 5], 1000), (15, [1, 3, 5, 6], 1000), (20, [1, 3, 7], 1000), (23, [1, 3, 7, 8], 1000)] 0 Try.f134.results.toList some 200 (at_ Try.f134 7) (S134_7 q n i) = T134_7 (fun r => some (.ret (F.int .i64 r))) (fun q n i => some (.cut (at_ Try.f134 7) (S134_7 q n i))) (fun q n i => some (.cut (at_ Try.f134 12) (S134_12 q n i))) (fun q n i j => some (.cut (at_ Try.f134 15) (S134_15 q n i j))) (fun q n i => some (.cut (at_ Try.f134 20) (S134_20 q n i))) (fun q n i j => some (.cut (at_ Try.f134 23) (S134_23 q n i j))) q n i := by kernel_rfl
    rw [e]
    exact (good_sel h (fun _ h => (good_sel h (fun _ h => (good_sel h (fun _ h => (good_sel h (fun _ h => good_ret (by cases h; rfl)) (fun _ h => good_cut (t134_7 k _ _ _ r h)))) (fun _ h => nomatch h))) (fun _ h => nomatch h))) (fun _ h => good_cut (t134_12 k _ _ _ r h)))
theorem t134_12 : ∀ (k : Nat) (q : List Pt) (n : Int) (i : Int) (r : Int), L134_12 k q n i = some r → Ends Try.prog Try.f134.results.toList (at_ Try.f134 12) (S134_12 q n i) (F.int .i64 r)
  | 0, _, _, _, _, h => nomatch h
  | k + 1, q, n, i, r, h => by
    refine Ends.of_cut tyOK envK2a_ok (T := [(7, [1, 3, 4], 1000), (12, [1, 3, 5], 1000), (15, [1, 3, 5, 6], 1000), (20, [1, 3, 7], 1000), (23, [1, 3, 7, 8], 1000)]) (n := 200) ?_
    have e : runCut Try.prog (tiOf Try.prog) envK2a [(7, [1, 3, 4], 1000), (12, [1, 3, 5], 1000), (15, [1, 3, 5, 6], 1000), (20, [1, 3, 7], 1000), (23, [1, 3, 7, 8], 1000)] 0 Try.f134.results.toList some 200 (at_ Try.f134 12) (S134_12 q n i) = T134_12 (fun r => some (.ret (F.int .i64 r))) (fun q n i => some (.cut (at_ Try.f134 7) (S134_7 q n i))) (fun q n i => some (.cut (at_ Try.f134 12) (S134_12 q n i))) (fun q n i j => some (.cut (at_ Try.f134 15) (S134_15 q n i j))) (fun q n i => some (.cut (at_ Try.f134 20) (S134_20 q n i))) (fun q n i j => some (.cut (at_ Try.f134 23) (S134_23 q n i j))) q n i := by kernel_rfl
    rw [e]
    exact (good_sel h (fun _ h => good_cut (t134_15 k _ _ _ _ r h)) (fun _ h => good_cut (t134_20 k _ _ _ r h)))
theorem t134_15 : ∀ (k : Nat) (q : List Pt) (n : Int) (i : Int) (j : Int) (r : Int), L134_15 k q n i j = some r → Ends Try.prog Try.f134.results.toList (at_ Try.f134 15) (S134_15 q n i j) (F.int .i64 r)
  | 0, _, _, _, _, _, h => nomatch h
  | k + 1, q, n, i, j, r, h => by
    refine Ends.of_cut tyOK envK2a_ok (T := [(7, [1, 3, 4], 1000), (12, [1, 3, 5], 1000), (15, [1, 3, 5, 6], 1000), (20, [1, 3, 7], 1000), (23, [1, 3, 7, 8], 1000)]) (n := 200) ?_
    have e : runCut Try.prog (tiOf Try.prog) envK2a [(7, [1, 3, 4], 1000), (12, [1, 3, 5], 1000), (15, [1, 3, 5, 6], 1000), (20, [1, 3, 7], 1000), (23, [1, 3, 7, 8], 1000)] 0 Try.f134.results.toList some 200 (at_ Try.f134 15) (S134_15 q n i j) = T134_15 (fun r => some (.ret (F.int .i64 r))) (fun q n i => some (.cut (at_ Try.f134 7) (S134_7 q n i))) (fun q n i => some (.cut (at_ Try.f134 12) (S134_12 q n i))) (fun q n i j => some (.cut (at_ Try.f134 15) (S134_15 q n i j))) (fun q n i => some (.cut (at_ Try.f134 20) (S134_20 q n i))) (fun q n i j => some (.cut (at_ Try.f134 23) (S134_23 q n i j))) q n i j := by kernel_rfl
    rw [e]
    exact (good_sel h (fun _ h => (good_sel h (fun _ h => (good_sel h (fun _ h => (good_sel h (fun _ h => (good_sel h (fun _ h => (good_sel h (fun _ h => good_ret (by cases h; rfl)) (fun _ h => good_cut (t134_15 k _ _ _ _ r h)))) (fun _ h => nomatch h))) (fun _ h => nomatch h))) (fun _ h => nomatch h))) (fun _ h => nomatch h))) (fun _ h => good_cut (t134_12 k _ _ _ r h)))
theorem t134_20 : ∀ (k : Nat) (q : List Pt) (n : Int) (i : Int) (r : Int), L134_20 k q n i = some r → Ends Try.prog Try.f134.results.toList (at_ Try.f134 20) (S134_20 q n i) (F.int .i64 r)
  | 0, _, _, _, _, h => nomatch h
  | k + 1, q, n, i, r, h => by
    refine Ends.of_cut tyOK envK2a_ok (T := [(7, [1, 3, 4], 1000), (12, [1, 3, 5], 1000), (15, [1, 3, 5, 6], 1000), (20, [1, 3, 7], 1000), (23, [1, 3, 7, 8], 1000)]) (n := 200) ?_
    have e : runCut Try.prog (tiOf Try.prog) envK2a [(7, [1, 3, 4], 1000), (12, [1, 3, 5], 1000), (15, [1, 3, 5, 6], 1000), (20, [1, 3, 7], 1000), (23, [1, 3, 7, 8], 1000)] 0 Try.f134.results.toList some 200 (at_ Try.f134 20) (S134_20 q n i) = T134_20 (fun r => some (.ret (F.int .i64 r))) (fun q n i => some (.cut (at_ Try.f134 7) (S134_7 q n i))) (fun q n i => some (.cut (at_ Try.f134 12) (S134_12 q n i))) (fun q n i j => some (.cut (at_ Try.f134 15) (S134_15 q n i j))) (fun q n i => some (.cut (at_ Try.f134 20) (S134_20 q n i))) (fun q n i j => some (.cut (at_ Try.f134 23) (S134_23 q n i j))) q n i := by kernel_rfl
    rw [e]
    exact (good_sel h (fun _ h => good_cut (t134_23 k _ _ _ _ r h)) (fun _ h => good_ret (by cases h; rfl)))
theorem t134_23 : ∀ (k : Nat) (q : List Pt) (n : Int) (i : Int) (j : Int) (r : Int), L134_23 k q n i j = some r → Ends Try.prog Try.f134.results.toList (at_ Try.f134 23) (S134_23 q n i j) (F.int .i64 r)
  | 0, _, _, _, _, _, h => nomatch h
  | k + 1, q, n, i, j, r, h => by
    refine Ends.of_cut tyOK envK2a_ok (T := [(7, [1, 3, 4], 1000), (12, [1, 3, 5], 1000), (15, [1, 3, 5, 6], 1000), (20, [1, 3, 7], 1000), (23, [1, 3, 7, 8], 1000)]) (n := 200) ?_
    have e : runCut Try.prog (tiOf Try.prog) envK2a [(7, [1, 3, 4], 1000), (12, [1, 3, 5], 1000), (15, [1, 3, 5, 6], 1000), (20, [1, 3, 7], 1000), (23, [1, 3, 7, 8], 1000)] 0 Try.f134.results.toList some 200 (at_ Try.f134 23) (S134_23 q n i j) = T134_23 (fun r => some (.ret (F.int .i64 r))) (fun q n i => some (.cut (at_ Try.f134 7) (S134_7 q n i))) (fun q n i => some (.cut (at_ Try.f134 12) (S134_12 q n i))) (fun q n i j => some (.cut (at_ Try.f134 15) (S134_15 q n i j))) (fun q n i => some (.cut (at_ Try.f134 20) (S134_20 q n i))) (fun q n i j => some (.cut (at_ Try.f134 23) (S134_23 q n i j))) q n i j := by kernel_rfl
    rw [e]
    exact (good_sel h (fun _ h => (good_sel h (fun _ h => (good_sel h (fun _ h => (good_sel h (fun _ h => (good_sel h (fun _ h => (good_sel h (fun _ h => (good_sel h (fun _ h => (good_sel h (fun _ h => (good_sel h (fun _ h => (good_sel h (fun _ h => good_ret (by cases h; rfl)) (fun _ h => good_cut (t134_23 k _ _ _ _ r h)))) (fun _ h => good_cut (t134_23 k _ _ _ _ r h)))) (fun _ h => good_ret (by cases h; rfl)))) (fun _ h => (good_sel h (fun _ h => (good_sel h (fun _ h => good_ret (by cases h; rfl)) (fun _ h => good_cut (t134_23 k _ _ _ _ r h)))) (fun _ h => good_cut (t134_23 k _ _ _ _ r h)))))) (fun _ h => (good_sel h (fun _ h => good_ret (by cases h; rfl)) (fun _ h => good_cut (t134_23 k _ _ _ _ r h)))))) (fun _ h => (good_sel h (fun _ h => good_cut (t134_23 k _ _ _ _ r h)) (fun _ h => good_ret (by cases h; rfl)))))) (fun _ h => nomatch h))) (fun _ h => nomatch h))) (fun _ h => nomatch h))) (fun _ h => good_cut (t134_20 k _ _ _ r h)))
end
theorem t134 (k : Nat) (q : List Pt) (r : Int) (h : G134 k q = some r) : Ends Try.prog Try.f134.results.toList [.code (bodyOf Try.f134)] (start Try.f134.ntmps ([F.agg [ptsF q]].map .f)) (F.int .i64 r) := by
  refine Ends.of_run tyOK envK2a_ok (T := [(7, [1, 3, 4], 1000), (12, [1, 3, 5], 1000), (15, [1, 3, 5, 6], 1000), (20, [1, 3, 7], 1000), (23, [1, 3, 7, 8], 1000)]) (n := 200) ?_
  have e : run Try.prog (tiOf Try.prog) envK2a [(7, [1, 3, 4], 1000), (12, [1, 3, 5], 1000), (15, [1, 3, 5, 6], 1000), (20, [1, 3, 7], 1000), (23, [1, 3, 7, 8], 1000)] 0 Try.f134.results.toList some 200 [.code (bodyOf Try.f134)] (start Try.f134.ntmps ([F.agg [ptsF q]].map .f)) = T134 (fun r => some (.ret (F.int .i64 r))) (fun q n i => some (.cut (at_ Try.f134 7) (S134_7 q n i))) (fun q n i => some (.cut (at_ Try.f134 12) (S134_12 q n i))) (fun q n i j => some (.cut (at_ Try.f134 15) (S134_15 q n i j))) (fun q n i => some (.cut (at_ Try.f134 20) (S134_20 q n i))) (fun q n i j => some (.cut (at_ Try.f134 23) (S134_23 q n i j))) q := by kernel_rfl
  rw [e]
  exact (good_sel h (fun _ h => good_ret (by cases h; rfl)) (fun _ h => (good_sel h (fun _ h => good_ret (by cases h; rfl)) (fun _ h => good_cut (t134_7 k _ _ _ r h)))))
theorem next_eq {n i j : Nat} (hn : n ≤ 12) (hi : i < n) (hj : j < i) : (((j : Int) == IntKind.i64.wrap ((i : Int) - 1)) = decide (j + 1 = i)) ∧ (((j : Int) == 0) = decide (j = 0)) ∧ (((i : Int) == IntKind.i64.wrap ((n : Int) - 1)) = decide (i + 1 = n)) := by
  rw [wrapI (by omega) (by omega), wrapI (by omega) (by omega)]
  refine ⟨?_, ?_, ?_⟩ <;> (rw [Bool.eq_iff_iff, beq_iff_eq, decide_eq_true_eq]; omega)
theorem rf23_loop {q : List Pt} (h : RingIn q) {i : Nat} (hi : i < q.length) {R : Int} {K : Nat} (hout : ∀ k, K ≤ k → L134_20 k q q.length ((i + 1 : Nat) : Int) = some R) :
    ∀ (d j k : Nat), j + d = i → d + 1 + K ≤ k → L134_23 k q q.length i j = some (bif allUp (fun j => !cross3 q i j) j d then R else 5)
  | d, j, 0, _, hk => by omega
  | 0, j, k + 1, hj, hk => by
    have := h.high
    rw [L134_23]
    unfold T134_23
    rw [decide_eq_false (show ¬ (j : Int) < i by omega), bsel_false, wrapI (by omega) (by omega), show (i : Int) + 1 = ((i + 1 : Nat) : Int) by omega, hout k (by omega)]
    rfl
  | d + 1, j, k + 1, hj, hk => by
    have hh := h.high
    have ih := rf23_loop h hi hout d (j + 1) k (by omega) (by omega)
    have wj : IntKind.i64.wrap ((j : Int) + 1) = ((j + 1 : Nat) : Int) := by rw [wrapI (by omega) (by omega)]; omega
    have si := side_ok h hi
    have sj := side_ok h (show j < q.length by omega)
    unfold okS at si sj
    obtain ⟨n1, n2, n3⟩ := next_eq h.high hi (show j < i by omega)
    have hc : cross3 q i j = bad3 (kind3V (sideAt q i).x0 (sideAt q i).y0 (sideAt q i).x1 (sideAt q i).y1 (sideAt q j).x0 (sideAt q j).y0 (sideAt q j).x1 (sideAt q j).y1) (decide (j + 1 = i) || (decide (j = 0) && decide (i + 1 = q.length))) := rfl
    rw [L134_23]
    unfold T134_23
    simp only [decide_eq_true (show (j : Int) < i by omega), unRing_agg, isRing_agg, isAt_iff.2 ⟨⟨show (0 : Int) ≤ i by omega, show (i : Int) < q.length by omega⟩, show q.length ≤ 1000 by omega⟩, isAt_iff.2 ⟨⟨show (0 : Int) ≤ j by omega, show (j : Int) < q.length by omega⟩, show q.length ≤ 1000 by omega⟩, Int.toNat_natCast, si, sj, n1, n2, n3, wj, ih, Bool.and_self, bsel_true]
    rw [allUp_cut, hc]
    unfold bad3
    cases decide (j + 1 = i) <;> cases decide (j = 0) <;> cases decide (i + 1 = q.length) <;> cases (kind3V (sideAt q i).x0 (sideAt q i).y0 (sideAt q i).x1 (sideAt q i).y1 (sideAt q j).x0 (sideAt q j).y0 (sideAt q j).x1 (sideAt q j).y1 != 1) <;> cases (kind3V (sideAt q i).x0 (sideAt q i).y0 (sideAt q i).x1 (sideAt q i).y1 (sideAt q j).x0 (sideAt q j).y0 (sideAt q j).x1 (sideAt q j).y1 != 0) <;> rfl
theorem rf20_loop {q : List Pt} (h : RingIn q) : ∀ (d i k : Nat), i + d = q.length → 15 * d + 1 ≤ k → L134_20 k q q.length i = some (bif triFree (cross3 q) i d then 0 else 5)
  | d, i, 0, _, hk => by omega
  | 0, i, k + 1, hi, hk => by
    rw [L134_20]
    unfold T134_20
    rw [decide_eq_false (show ¬ (i : Int) < q.length by omega)]
    rfl
  | d + 1, i, k + 1, hi, hk => by
    have := h.high
    have ih := rf23_loop h (i := i) (by omega) (K := 15 * d + 1) (fun k hk => rf20_loop h d (i + 1) k (by omega) hk) i 0 k (by omega) (by omega)
    rw [L134_20]
    unfold T134_20
    rw [decide_eq_true (show (i : Int) < q.length by omega), bsel_true]
    refine ih.trans ?_
    unfold triFree
    rw [allUp_cut]
    cases allUp (fun j => !cross3 q i j) 0 i <;> rfl
theorem rf15_loop {q : List Pt} (hn : q.length ≤ 12) {i : Nat} (hi : i < q.length) {R : Int} {K : Nat} (hout : allUp (fun j => !samePt q i j) 0 i = true → ∀ k, K ≤ k → L134_12 k q q.length ((i + 1 : Nat) : Int) = some R) :
    ∀ (d j k : Nat), j + d = i → d + 1 + K ≤ k → allUp (fun j => !samePt q i j) 0 i = allUp (fun j => !samePt q i j) j d → L134_15 k q q.length i j = some (bif allUp (fun j => !samePt q i j) j d then R else 4)
  | d, j, 0, _, hk, _ => by omega
  | 0, j, k + 1, hj, hk, he => by
    rw [L134_15]
    unfold T134_15
    rw [decide_eq_false (show ¬ (j : Int) < i by omega), bsel_false, wrapI (by omega) (by omega), show (i : Int) + 1 = ((i + 1 : Nat) : Int) by omega, hout he k (by omega)]
    rfl
  | d + 1, j, k + 1, hj, hk, he => by
    have wj : IntKind.i64.wrap ((j : Int) + 1) = ((j + 1 : Nat) : Int) := by rw [wrapI (by omega) (by omega)]; omega
    have hs : samePt q i j = ((q.getD i .zero).x == (q.getD j .zero).x && (q.getD i .zero).y == (q.getD j .zero).y) := rfl
    rw [L134_15]
    unfold T134_15
    simp only [decide_eq_true (show (j : Int) < i by omega), decide_eq_true (show (0 : Int) ≤ i by omega), decide_eq_true (show (i : Int) < q.length by omega), decide_eq_true (show (0 : Int) ≤ j by omega), decide_eq_true (show (j : Int) < q.length by omega), Int.toNat_natCast, wj, Bool.and_true, bsel_true]
    rw [← hs]
    rw [allUp_cut] at he ⊢
    cases hc : samePt q i j with
    | true => rfl
    | false =>
      rw [hc] at he
      rw [bsel_false, rf15_loop hn hi hout d (j + 1) k (by omega) (by omega) he]
      rfl
theorem rf12_loop {q : List Pt} (hn : q.length ≤ 12) {R : Int} {K : Nat} (hout : triFree (samePt q) 0 q.length = true → ∀ k, K ≤ k → L134_20 k q q.length 0 = some R) :
    ∀ (d i k : Nat), i + d = q.length → 15 * d + 1 + K ≤ k → (triFree (samePt q) i d = true → triFree (samePt q) 0 q.length = true) → L134_12 k q q.length i = some (bif triFree (samePt q) i d then R else 4)
  | d, i, 0, _, hk, _ => by omega
  | 0, i, k + 1, hi, hk, he => by
    rw [L134_12]
    unfold T134_12
    rw [decide_eq_false (show ¬ (i : Int) < q.length by omega), bsel_false, hout (he rfl) k (by omega)]
    rfl
  | d + 1, i, k + 1, hi, hk, he => by
    have cut : triFree (samePt q) i (d + 1) = (allUp (fun j => !samePt q i j) 0 i && triFree (samePt q) (i + 1) d) := rfl
    have ih := rf15_loop hn (i := i) (by omega) (R := bif triFree (samePt q) (i + 1) d then R else 4) (K := 15 * d + 1 + K) (fun hc k hk => rf12_loop hn hout d (i + 1) k (by omega) hk fun ht => he (by rw [cut, hc, ht]; rfl)) i 0 k (by omega) (by omega) rfl
    rw [L134_12]
    unfold T134_12
    rw [decide_eq_true (show (i : Int) < q.length by omega), bsel_true, cut]
    refine ih.trans ?_
    cases allUp (fun j => !samePt q i j) 0 i <;> rfl
theorem rf7_loop {q : List Pt} (hn : q.length ≤ 12) {R : Int} {K : Nat} (hout : (q.all fun p => spotOkV p.x p.y) = true → ∀ k, K ≤ k → L134_12 k q q.length 0 = some R) :
    ∀ (d i k : Nat), i + d = q.length → d + 1 + K ≤ k → ((q.drop i).all (fun p => spotOkV p.x p.y) = true → (q.all fun p => spotOkV p.x p.y) = true) → L134_7 k q q.length i = some (bif (q.drop i).all fun p => spotOkV p.x p.y then R else 3)
  | d, i, 0, _, hk, _ => by omega
  | 0, i, k + 1, hi, hk, he => by
    rw [List.drop_eq_nil_of_le (by omega)] at he ⊢
    rw [L134_7]
    unfold T134_7
    rw [decide_eq_false (show ¬ (i : Int) < q.length by omega), bsel_false, hout (he rfl) k (by omega)]
    rfl
  | d + 1, i, k + 1, hi, hk, he => by
    have hlt : i < q.length := by omega
    have hg : q.getD i Pt.zero = q[i] := by simp [List.getD, List.getElem?_eq_getElem hlt]
    rw [List.drop_eq_getElem_cons hlt, List.all_cons] at he ⊢
    rw [L134_7]
    unfold T134_7
    rw [decide_eq_true (show (i : Int) < q.length by omega), decide_eq_true (show (0 : Int) ≤ i by omega), Int.toNat_natCast, hg, wrapI (by omega) (by omega), show (i : Int) + 1 = ((i + 1 : Nat) : Int) by omega]
    simp only [bsel_true]
    cases ho : spotOkV q[i].x q[i].y with
    | false => rfl
    | true =>
      rw [Bool.not_true, bsel_false, rf7_loop hn hout d (i + 1) k (by omega) (by omega) fun ht => he (by rw [ho, ht]; rfl)]
      rfl
theorem fault3_law (q : List Pt) : G134 600 q = some (fault3V q) := by
  unfold G134 T134 fault3V faultBy
  by_cases h1 : q.length < 3
  · rw [decide_eq_true (show (q.length : Int) < 3 by omega), decide_eq_true h1]; rfl
  · by_cases h2 : q.length > 12
    · rw [decide_eq_false (show ¬ (q.length : Int) < 3 by omega), decide_eq_false h1, decide_eq_true (show (q.length : Int) > 12 by omega), decide_eq_true h2]; rfl
    · rw [decide_eq_false (show ¬ (q.length : Int) < 3 by omega), decide_eq_false h1, decide_eq_false (show ¬ (q.length : Int) > 12 by omega), decide_eq_false h2]
      have := rf7_loop (q := q) (by omega) (R := bif triFree (samePt q) 0 q.length then (bif triFree (cross3 q) 0 q.length then 0 else 5) else 4) (K := 400) (fun h3 k hk => rf12_loop (by omega) (R := bif triFree (cross3 q) 0 q.length then 0 else 5) (K := 190) (fun h4 k hk => rf20_loop (ringIn_of h1 h2 h3 h4) q.length 0 k (by omega) (by omega)) q.length 0 k (by omega) (by omega) id) q.length 0 600 (by omega) (by omega) id
      refine this.trans ?_
      rw [List.drop_zero]
      cases (q.all fun p => spotOkV p.x p.y) <;> cases triFree (samePt q) 0 q.length <;> cases triFree (cross3 q) 0 q.length <;> rfl
def preRg : List F → Bool | [x] => isRing x | _ => false
def resFault3 : List F → F | [x] => .int .i64 (fault3V (unRing x)) | _ => .dflt
theorem okFault3 : PureOK Try.prog 134 preRg resFault3 :=
  fn_pure_at (c := bodyOf Try.f134) Try.func134 (by kernel_rfl) (by kernel_rfl) fun xs hp => match xs, hp with
  | [x], hp => ⟨[ringF (unRing x)], _, ⟨(ring_eqv hp).1, trivial⟩, t134 600 _ _ (fault3_law _), .refl _⟩
def envK2 : Env := envK2a.add 134 (.pure preRg resFault3)
theorem envK2_ok : EnvOK Try.prog envK2 := (Env.add_ok envK2a_ok okFault3.sp)
end
end Go.Proofs.Ytmambbfnjbdfgaa.R

namespace Go.Proofs.Ytmambbfnjbdfgaa.R
open Go
noncomputable section
set_option linter.unusedVariables false
set_option linter.unusedSimpArgs false
set_option maxRecDepth 100000
set_option maxHeartbeats 1000000
/-! ### function 137 -/
def S137_7 (q : List Pt) (n : Int) (i : Int) (m : Int) : St := ⟨[.bad, (U.hp 0 0), .bad, (U.f (F.int .i64 n)), .bad, .bad, .bad, .bad, .bad, .bad, .bad, .bad, .bad, .bad, .bad, .bad, .bad, .bad, .bad, .bad, .bad, .bad, .bad, .bad, .bad, .bad, .bad, (U.f (ptsF q)), (U.f (F.int .i64 m)), (U.f (F.int .i64 i)), .bad, .bad, .bad, .bad, .bad, .bad, .bad, .bad, .bad, .bad, .bad, .bad, .bad, .bad, .bad, .bad, .bad, .bad, .bad, .bad, .bad, .bad, .bad, .bad, .bad, .bad, .bad, .bad, .bad, .bad, .bad, .bad, .bad, .bad, .bad, .bad, .bad, .bad, .bad, .bad, .bad, .bad, .bad, .bad, .bad, .bad, .bad, .bad, .bad, .bad, .bad, .bad, .bad, .bad, .bad, .bad, .bad, .bad, .bad, .bad, .bad, .bad, .bad, .bad, .bad, .bad, .bad, .bad, .bad, .bad, .bad, .bad, .bad], [HO.box [(U.f (ptsF q))]]⟩
def S137_13 (q : List Pt) (n : Int) (i : Int) (m : Int) : St := ⟨[.bad, (U.hp 0 0), .bad, (U.f (F.int .i64 n)), .bad, .bad, .bad, .bad, .bad, .bad, .bad, .bad, .bad, .bad, .bad, .bad, .bad, .bad, .bad, .bad, .bad, .bad, .bad, .bad, .bad, .bad, .bad, .bad, .bad, .bad, .bad, .bad, .bad, .bad, .bad, .bad, .bad, .bad, (U.f (ptsF q)), (U.f (F.int .i64 m)), (U.f (F.int .i64 i)), .bad, .bad, .bad, .bad, .bad, .bad, .bad, .bad, .bad, .bad, .bad, .bad, .bad, .bad, .bad, .bad, .bad, .bad, .bad, .bad, .bad, .bad, .bad, .bad, .bad, .bad, .bad, .bad, .bad, .bad, .bad, .bad, .bad, .bad, .bad, .bad, .bad, .bad, .bad, .bad, .bad, .bad, .bad, .bad, .bad, .bad, .bad, .bad, .bad, .bad, .bad, .bad, .bad, .bad, .bad, .bad, .bad, .bad, .bad, .bad, .bad, .bad], [HO.box [(U.f (ptsF q))]]⟩
def S137_20 (l : List Sg) (n : Int) (m : Int) (i : Int) : St := ⟨[.bad, .bad, .bad, (U.f (F.int .i64 n)), .bad, .bad, .bad, .bad, (U.f (segsF l)), .bad, .bad, .bad, .bad, .bad, .bad, .bad, .bad, .bad, .bad, .bad, .bad, .bad, .bad, .bad, .bad, .bad, .bad, .bad, .bad, .bad, .bad, .bad, .bad, .bad, .bad, .bad, .bad, .bad, .bad, .bad, .bad, .bad, .bad, .bad, .bad, .bad, .bad, .bad, .bad, .bad, .bad, .bad, .bad, .bad, (U.f (segsF l)), (U.f (F.int .i64 m)), (U.f (F.int .i64 i)), .bad, .bad, .bad, .bad, .bad, .bad, .bad, .bad, .bad, .bad, .bad, .bad, .bad, .bad, .bad, .bad, .bad, .bad, .bad, .bad, .bad, .bad, .bad, .bad, .bad, .bad, .bad, .bad, .bad, .bad, .bad, .bad, .bad, .bad, .bad, .bad, .bad, .bad, .bad, .bad, .bad, .bad, .bad, .bad, .bad, .bad], []⟩
def S137_23 (l : List Sg) (n : Int) (m : Int) (i : Int) (a : Int) (b : Int) (c : Int) (d : Int) (w : Nat) (u : Int) (j : Int) : St := ⟨[.bad, .bad, .bad, (U.f (F.int .i64 n)), .bad, .bad, .bad, .bad, (U.f (segsF l)), (U.f (F.int .i64 i)), (U.hp 0 0), .bad, .bad, .bad, .bad, .bad, .bad, .bad, .bad, .bad, .bad, .bad, .bad, .bad, .bad, .bad, .bad, .bad, .bad, .bad, .bad, .bad, .bad, .bad, .bad, .bad, .bad, .bad, .bad, .bad, .bad, .bad, .bad, .bad, .bad, .bad, .bad, .bad, .bad, .bad, .bad, .bad, .bad, .bad, (U.f (segsF l)), (U.f (F.int .i64 m)), (U.f (F.int .i64 i)), .bad, .bad, .bad, .bad, .bad, .bad, (U.f (F.sl w fun o => F.agg [F.int .i64 (l.getD (0 + o) Sg.zero).x0, F.int .i64 (l.getD (0 + o) Sg.zero).y0, F.int .i64 (l.getD (0 + o) Sg.zero).x1, F.int .i64 (l.getD (0 + o) Sg.zero).y1])), (U.f (F.int .i64 u)), (U.f (F.int .i64 j)), .bad, .bad, .bad, .bad, .bad, .bad, .bad, .bad, .bad, .bad, .bad, .bad, .bad, .bad, .bad, .bad, .bad, .bad, .bad, .bad, .bad, .bad, .bad, .bad, .bad, .bad, .bad, .bad, .bad, .bad, .bad, .bad, .bad, .bad, .bad, .bad, .bad], [HO.box [(U.f (F.int .i64 a)), (U.f (F.int .i64 b)), (U.f (F.int .i64 c)), (U.f (F.int .i64 d))]]⟩
def T137_7 {ρ : Type} (ret : (Int) → Option ρ) (c7 : (List Pt) → (Int) → (Int) → (Int) → Option ρ) (c13 : (List Pt) → (Int) → (Int) → (Int) → Option ρ) (c20 : (List Sg) → (Int) → (Int) → (Int) → Option ρ) (c23 : (List Sg) → (Int) → (Int) → (Int) → (Int) → (Int) → (Int) → (Int) → (Nat) → (Int) → (Int) → Option ρ) (q : List Pt) (n : Int) (i : Int) (m : Int) : Option ρ :=
 (bsel (decide (i < m))
 (bsel (decide (0 ≤ i))
 (bsel (decide (i < (↑q.length : Int)))
 (bsel (!spotOkV (q.getD i.toNat Pt.zero).x (q.getD i.toNat Pt.zero).y)
 (ret (3))
 (c7 (q) (n) (IntKind.i64.wrap (i + 1)) (m)))
 none)
 none)
 (c13 (q) (n) (0) ((↑q.length : Int))))
def T137_13 {ρ : Type} (ret : (Int) → Option ρ) (c7 : (List Pt) → (Int) → (Int) → (Int) → Option ρ) (c13 : (List Pt) → (Int) → (Int) → (Int) → Option ρ) (c20 : (List Sg) → (Int) → (Int) → (Int) → Option ρ) (c23 : (List Sg) → (Int) → (Int) → (Int) → (Int) → (Int) → (Int) → (Int) → (Nat) → (Int) → (Int) → Option ρ) (q : List Pt) (n : Int) (i : Int) (m : Int) : Option ρ :=
 (bsel (decide (i < m))
 (bsel (decide (0 ≤ i))
 (bsel (decide (i < (↑q.length : Int)))
 (bsel (decide (0 ≤ i))
 (bsel (decide (i ≤ (↑q.length : Int)))
 (bsel (isPts (F.sl (i.toNat - Int.toNat 0) fun j ↦ ptF (q.getD (Int.toNat 0 + j) Pt.zero)) && isShort (unPts (F.sl (i.toNat - Int.toNat 0) fun j ↦ ptF (q.getD (Int.toNat 0 + j) Pt.zero))))
 (bsel (hasV (unPts (F.sl (i.toNat - Int.toNat 0) fun j ↦ ptF (q.getD (Int.toNat 0 + j) Pt.zero))) (q.getD i.toNat Pt.zero).x (q.getD i.toNat Pt.zero).y)
 (ret (4))
 (c13 (q) (n) (IntKind.i64.wrap (i + 1)) (m)))
 none)
 none)
 none)
 none)
 none)
 (bsel (isRing (F.agg [ptsF q]) && isShort (unRing (F.agg [ptsF q])))
 (c20 (sidesOf (unRing (F.agg [ptsF q]))) (n) ((↑(sidesOf (unRing (F.agg [ptsF q]))).length : Int)) (0))
 none))
def T137_20 {ρ : Type} (ret : (Int) → Option ρ) (c7 : (List Pt) → (Int) → (Int) → (Int) → Option ρ) (c13 : (List Pt) → (Int) → (Int) → (Int) → Option ρ) (c20 : (List Sg) → (Int) → (Int) → (Int) → Option ρ) (c23 : (List Sg) → (Int) → (Int) → (Int) → (Int) → (Int) → (Int) → (Int) → (Nat) → (Int) → (Int) → Option ρ) (l : List Sg) (n : Int) (m : Int) (i : Int) : Option ρ :=
 (bsel (decide (i < m))
 (bsel (decide (0 ≤ i))
 (bsel (decide (i < (↑l.length : Int)))
 (bsel (decide (0 ≤ i))
 (bsel (decide (i ≤ (↑l.length : Int)))
 (c23 (l) (n) (m) (i) ((l.getD i.toNat Sg.zero).x0) ((l.getD i.toNat Sg.zero).y0) ((l.getD i.toNat Sg.zero).x1) ((l.getD i.toNat Sg.zero).y1) (i.toNat - 0) ((↑(i.toNat - Int.toNat 0) : Int)) (0))
 none)
 none)
 none)
 none)
 (ret (0)))
def T137_23 {ρ : Type} (ret : (Int) → Option ρ) (c7 : (List Pt) → (Int) → (Int) → (Int) → Option ρ) (c13 : (List Pt) → (Int) → (Int) → (Int) → Option ρ) (c20 : (List Sg) → (Int) → (Int) → (Int) → Option ρ) (c23 : (List Sg) → (Int) → (Int) → (Int) → (Int) → (Int) → (Int) → (Int) → (Nat) → (Int) → (Int) → Option ρ) (l : List Sg) (n : Int) (m : Int) (i : Int) (a : Int) (b : Int) (c : Int) (d : Int) (w : Nat) (u : Int) (j : Int) : Option ρ :=
 (bsel (decide (j < u))
 (bsel (decide (0 ≤ j))
 (bsel (decide (j < (↑w : Int)))
 (bsel (segOkV a b c d && segOkV (l.getD (0 + j.toNat) Sg.zero).x0 (l.getD (0 + j.toNat) Sg.zero).y0 (l.getD (0 + j.toNat) Sg.zero).x1 (l.getD (0 + j.toNat) Sg.zero).y1)
 (bsel ((j == IntKind.i64.wrap (i - 1)) == false)
 (bsel ((j == 0) == true)
 (bsel ((kindIV a b c d (l.getD (0 + j.toNat) Sg.zero).x0 (l.getD (0 + j.toNat) Sg.zero).y0 (l.getD (0 + j.toNat) Sg.zero).x1 (l.getD (0 + j.toNat) Sg.zero).y1 == 2) == false)
 (bsel ((kindIV a b c d (l.getD (0 + j.toNat) Sg.zero).x0 (l.getD (0 + j.toNat) Sg.zero).y0 (l.getD (0 + j.toNat) Sg.zero).x1 (l.getD (0 + j.toNat) Sg.zero).y1 == 1) == true)
 (bsel (!i == IntKind.i64.wrap (n - 1))
 (ret (5))
 (c23 (l) (n) (m) (i) (a) (b) (c) (d) (w) (u) (IntKind.i64.wrap (j + 1))))
 (c23 (l) (n) (m) (i) (a) (b) (c) (d) (w) (u) (IntKind.i64.wrap (j + 1))))
 (ret (5)))
 (bsel ((kindIV a b c d (l.getD (0 + j.toNat) Sg.zero).x0 (l.getD (0 + j.toNat) Sg.zero).y0 (l.getD (0 + j.toNat) Sg.zero).x1 (l.getD (0 + j.toNat) Sg.zero).y1 == 2) == false)
 (bsel ((kindIV a b c d (l.getD (0 + j.toNat) Sg.zero).x0 (l.getD (0 + j.toNat) Sg.zero).y0 (l.getD (0 + j.toNat) Sg.zero).x1 (l.getD (0 + j.toNat) Sg.zero).y1 == 1) == true)
 (ret (5))
 (c23 (l) (n) (m) (i) (a) (b) (c) (d) (w) (u) (IntKind.i64.wrap (j + 1))))
 (ret (5))))
 (bsel ((kindIV a b c d (l.getD (0 + j.toNat) Sg.zero).x0 (l.getD (0 + j.toNat) Sg.zero).y0 (l.getD (0 + j.toNat) Sg.zero).x1 (l.getD (0 + j.toNat) Sg.zero).y1 == 2) == false)
 (bsel ((kindIV a b c d (l.getD (0 + j.toNat) Sg.zero).x0 (l.getD (0 + j.toNat) Sg.zero).y0 (l.getD (0 + j.toNat) Sg.zero).x1 (l.getD (0 + j.toNat) Sg.zero).y1 == 1) == true)
 (c23 (l) (n) (m) (i) (a) (b) (c) (d) (w) (u) (IntKind.i64.wrap (j + 1)))
 (c23 (l) (n) (m) (i) (a) (b) (c) (d) (w) (u) (IntKind.i64.wrap (j + 1))))
 (ret (5))))
 none)
 none)
 none)
 (c20 (l) (n) (m) (IntKind.i64.wrap (i + 1))))
mutual
def L137_7 : Nat → (List Pt) → (Int) → (Int) → (Int) → Option (Int)
  | 0, _, _, _, _ => none
  | k + 1, q, n, i, m => T137_7 some (L137_7 k) (L137_13 k) (L137_20 k) (L137_23 k) q n i m
def L137_13 : Nat → (List Pt) → (Int) → (Int) → (Int) → Option (Int)
  | 0, _, _, _, _ => none
  | k + 1, q, n, i, m => T137_13 some (L137_7 k) (L137_13 k) (L137_20 k) (L137_23 k) q n i m
def L137_20 : Nat → (List Sg) → (Int) → (Int) → (Int) → Option (Int)
  | 0, _, _, _, _ => none
  | k + 1, l, n, m, i => T137_20 some (L137_7 k) (L137_13 k) (L137_20 k) (L137_23 k) l n m i
def L137_23 : Nat → (List Sg) → (Int) → (Int) → (Int) → (Int) → (Int) → (Int) → (Int) → (Nat) → (Int) → (Int) → Option (Int)
  | 0, _, _, _, _, _, _, _, _, _, _, _ => none
  | k + 1, l, n, m, i, a, b, c, d, w, u, j => T137_23 some (L137_7 k) (L137_13 k) (L137_20 k) (L137_23 k) l n m i a b c d w u j
end
def T137 {ρ : Type} (ret : (Int) → Option ρ) (c7 : (List Pt) → (Int) → (Int) → (Int) → Option ρ) (c13 : (List Pt) → (Int) → (Int) → (Int) → Option ρ) (c20 : (List Sg) → (Int) → (Int) → (Int) → Option ρ) (c23 : (List Sg) → (Int) → (Int) → (Int) → (Int) → (Int) → (Int) → (Int) → (Nat) → (Int) → (Int) → Option ρ) (q : List Pt) : Option ρ :=
 (bsel (decide ((↑q.length : Int) < 3))
 (ret (1))
 (bsel (decide ((↑q.length : Int) > 12))
 (ret (2))
 (c7 (q) ((↑q.length : Int)) (0) ((↑q.length : Int)))))
def G137 (k : Nat) (q : List Pt) : Option (Int) := T137 some (L137_7 k) (L137_13 k) (L137_20 k) (L137_23 k) q
mutual
theorem t137_7 : ∀ (k : Nat) (q : List Pt) (n : Int) (i : Int) (m : Int) (r : Int), L137_7 k q n i m = some r → Ends Try.prog Try.f137.results.toList (at_ Try.f137 7) (S137_7 q n i m) (F.int .i64 r)
  | 0, _, _, _, _, _, h => nomatch h
  | k + 1, q, n, i, m, r, h => by
    refine Ends.of_cut tyOK envK2_ok (T := [(7, [1, 3, 27, 28, 29], 1000), (13, [1, 3, 38, 39, 40], 1000), (20, [3, 8, 54, 55, 56], 1000), (23, [3, 8, 9, 10, 54, 55, 56, 63, 64, 65], 1000)]) (n := 200) ?_
    have e : runCut Try.prog (tiOf Try.prog) envK2 [(7, [1, 3, 27, 28, 29], 1000), (13, [1, 3, 38, 39, 40], 1000), (20, [3, 8, 54, 55, 56], 1000), (23, [3, 8, 9, 10, 54, 55, 56, 63, 64, 65], 1000)] 0 Try.f137.results.toList some 200 (at_ Try.f137 7) (S137_7 q n i m) = T137_7 (fun r => some (.ret (F.int .i64 r))) (fun q n i m => some (.cut (at_ Try.f137 7) (S137_7 q n i m))) (fun q n i m => some (.cut (at_ Try.f137 13) (S137_13 q n i m))) (fun l n m i => some (.cut (at_ Try.f137 20) (S137_20 l n m i))) (fun l n m i a b c d w u j => some (.cut (at_ Try.f137 23) (S137_23 l n m i a b c d w u j))) q n i m := by kernel_rfl
    rw [e]
    exact (good_sel h (fun _ h => (good_sel h (fun _ h => (good_sel h (fun _ h => (good_sel h (fun _ h => good_ret (by cases h; rfl)) (fun _ h => good_cut (t137_7 k _ _ _ _ r h)))) (fun _ h => nomatch h))) (fun _ h => nomatch h))) (fun _ h => good_cut (t137_13 k _ _ _ _ r h)))
theorem t137_13 : ∀ (k : Nat) (q : List Pt) (n : Int) (i : Int) (m : Int) (r : Int), L137_13 k q n i m = some r → Ends Try.prog Try.f137.results.toList (at_ Try.f137 13) (S137_13 q n i m) (F.int .i64 r)
  | 0, _, _, _, _, _, h => nomatch h
  | k + 1, q, n, i, m, r, h => by
    refine Ends.of_cut tyOK envK2_ok (T := [(7, [1, 3, 27, 28, 29], 1000), (13, [1, 3, 38, 39, 40], 1000), (20, [3, 8, 54, 55, 56], 1000), (23, [3, 8, 9, 10, 54, 55, 56, 63, 64, 65], 1000)]) (n := 200) ?_
    have e : runCut Try.prog (tiOf Try.prog) envK2 [(7, [1, 3, 27, 28, 29], 1000), (13, [1, 3, 38, 39, 40], 1000), (20, [3, 8, 54, 55, 56], 1000), (23, [3, 8, 9, 10, 54, 55, 56, 63, 64, 65], 1000)] 0 Try.f137.results.toList some 200 (at_ Try.f137 13) (S137_13 q n i m) = T137_13 (fun r => some (.ret (F.int .i64 r))) (fun q n i m => some (.cut (at_ Try.f137 7) (S137_7 q n i m))) (fun q n i m => some (.cut (at_ Try.f137 13) (S137_13 q n i m))) (fun l n m i => some (.cut (at_ Try.f137 20) (S137_20 l n m i))) (fun l n m i a b c d w u j => some (.cut (at_ Try.f137 23) (S137_23 l n m i a b c d w u j))) q n i m := by kernel_rfl
    rw [e]
    exact (good_sel h (fun _ h => (good_sel h (fun _ h => (good_sel h (fun _ h => (good_sel h (fun _ h => (good_sel h (fun _ h => (good_sel h (fun _ h => (good_sel h (fun _ h => good_ret (by cases h; rfl)) (fun _ h => good_cut (t137_13 k _ _ _ _ r h)))) (fun _ h => nomatch h))) (fun _ h => nomatch h))) (fun _ h => nomatch h))) (fun _ h => nomatch h))) (fun _ h => nomatch h))) (fun _ h => (good_sel h (fun _ h => good_cut (t137_20 k _ _ _ _ r h)) (fun _ h => nomatch h))))
theorem t137_20 : ∀ (k : Nat) (l : List Sg) (n : Int) (m : Int) (i : Int) (r : Int), L137_20 k l n m i = some r → Ends Try.prog Try.f137.results.toList (at_ Try.f137 20) (S137_20 l n m i) (F.int .i64 r)
  | 0, _, _, _, _, _, h => nomatch h
  | k + 1, l, n, m, i, r, h => by
    refine Ends.of_cut tyOK envK2_ok (T := [(7, [1, 3, 27, 28, 29], 1000), (13, [1, 3, 38, 39, 40], 1000), (20, [3, 8, 54, 55, 56], 1000), (23, [3, 8, 9, 10, 54, 55, 56, 63, 64, 65], 1000)]) (n := 200) ?_
    have e : runCut Try.prog (tiOf Try.prog) envK2 [(7, [1, 3, 27, 28, 29], 1000), (13, [1, 3, 38, 39, 40], 1000), (20, [3, 8, 54, 55, 56], 1000), (23, [3, 8, 9, 10, 54, 55, 56, 63, 64, 65], 1000)] 0 Try.f137.results.toList some 200 (at_ Try.f137 20) (S137_20 l n m i) = T137_20 (fun r => some (.ret (F.int .i64 r))) (fun q n i m => some (.cut (at_ Try.f137 7) (S137_7 q n i m))) (fun q n i m => some (.cut (at_ Try.f137 13) (S137_13 q n i m))) (fun l n m i => some (.cut (at_ Try.f137 20) (S137_20 l n m i))) (fun l n m i a b c d w u j => some (.cut (at_ Try.f137 23) (S137_23 l n m i a b c d w u j))) l n m i := by kernel_rfl
    rw [e]
    exact (good_sel h (fun _ h => (good_sel h (fun _ h => (good_sel h (fun _ h => (good_sel h (fun _ h => (good_sel h (fun _ h => good_cut (t137_23 k _ _ _ _ _ _ _ _ _ _ _ r h)) (fun _ h => nomatch h))) (fun _ h => nomatch h))) (fun _ h => nomatch h))) (fun _ h => nomatch h))) (fun _ h => good_ret (by cases h; rfl)))
theorem t137_23 : ∀ (k : Nat) (l : List Sg) (n : Int) (m : Int) (i : Int) (a : Int) (b : Int) (c : Int) (d : Int) (w : Nat) (u : Int) (j : Int) (r : Int), L137_23 k l n m i a b c d w u j = some r → Ends Try.prog Try.f137.results.toList (at_ Try.f137 23) (S137_23 l n m i a b c d w u j) (F.int .i64 r)
  | 0, _, _, _, _, _, _, _, _, _, _, _, _, h => nomatch h
  | k + 1, l, n, m, i, a, b, c, d, w, u, j, r, h => by
    refine Ends.of_cut tyOK envK2_ok (T := [(7, [1, 3, 27, 28, 29], 1000), (13, [1, 3, 38, 39, 40], 1000), (20, [3, 8, 54, 55, 56], 1000), (23, [3, 8, 9, 10, 54, 55, 56, 63, 64, 65], 1000)]) (n := 200) ?_
    have e : runCut Try.prog (tiOf Try.prog) envK2 [(7, [1, 3, 27, 28, 29], 1000), (13, [1, 3, 38, 39, 40], 1000), (20, [3, 8, 54, 55, 56], 1000), (23, [3, 8, 9, 10, 54, 55, 56, 63, 64, 65], 1000)] 0 Try.f137.results.toList some 200 (at_ Try.f137 23) (S137_23 l n m i a b c d w u j) = T137_23 (fun r => some (.ret (F.int .i64 r))) (fun q n i m => some (.cut (at_ Try.f137 7) (S137_7 q n i m))) (fun q n i m => some (.cut (at_ Try.f137 13) (S137_13 q n i m))) (fun l n m i => some (.cut (at_ Try.f137 20) (S137_20 l n m i))) (fun l n m i a b c d w u j => some (.cut (at_ Try.f137 23) (S137_23 l n m i a b c d w u j))) l n m i a b c d w u j := by kernel_rfl
    rw [e]
    exact (good_sel h (fun _ h => (good_sel h (fun _ h => (good_sel h (fun _ h => (good_sel h (fun _ h => (good_sel h (fun _ h => (good_sel h (fun _ h => (good_sel h (fun _ h => (good_sel h (fun _ h => (good_sel h (fun _ h => good_ret (by cases h; rfl)) (fun _ h => good_cut (t137_23 k _ _ _ _ _ _ _ _ _ _ _ r h)))) (fun _ h => good_cut (t137_23 k _ _ _ _ _ _ _ _ _ _ _ r h)))) (fun _ h => good_ret (by cases h; rfl)))) (fun _ h => (good_sel h (fun _ h => (good_sel h (fun _ h => good_ret (by cases h; rfl)) (fun _ h => good_cut (t137_23 k _ _ _ _ _ _ _ _ _ _ _ r h)))) (fun _ h => good_ret (by cases h; rfl)))))) (fun _ h => (good_sel h (fun _ h => (good_sel h (fun _ h => good_cut (t137_23 k _ _ _ _ _ _ _ _ _ _ _ r h)) (fun _ h => good_cut (t137_23 k _ _ _ _ _ _ _ _ _ _ _ r h)))) (fun _ h => good_ret (by cases h; rfl)))))) (fun _ h => nomatch h))) (fun _ h => nomatch h))) (fun _ h => nomatch h))) (fun _ h => good_cut (t137_20 k _ _ _ _ r h)))
end
theorem t137 (k : Nat) (q : List Pt) (r : Int) (h : G137 k q = some r) : Ends Try.prog Try.f137.results.toList [.code (bodyOf Try.f137)] (start Try.f137.ntmps ([F.agg [ptsF q]].map .f)) (F.int .i64 r) := by
  refine Ends.of_run tyOK envK2_ok (T := [(7, [1, 3, 27, 28, 29], 1000), (13, [1, 3, 38, 39, 40], 1000), (20, [3, 8, 54, 55, 56], 1000), (23, [3, 8, 9, 10, 54, 55, 56, 63, 64, 65], 1000)]) (n := 200) ?_
  have e : run Try.prog (tiOf Try.prog) envK2 [(7, [1, 3, 27, 28, 29], 1000), (13, [1, 3, 38, 39, 40], 1000), (20, [3, 8, 54, 55, 56], 1000), (23, [3, 8, 9, 10, 54, 55, 56, 63, 64, 65], 1000)] 0 Try.f137.results.toList some 200 [.code (bodyOf Try.f137)] (start Try.f137.ntmps ([F.agg [ptsF q]].map .f)) = T137 (fun r => some (.ret (F.int .i64 r))) (fun q n i m => some (.cut (at_ Try.f137 7) (S137_7 q n i m))) (fun q n i m => some (.cut (at_ Try.f137 13) (S137_13 q n i m))) (fun l n m i => some (.cut (at_ Try.f137 20) (S137_20 l n m i))) (fun l n m i a b c d w u j => some (.cut (at_ Try.f137 23) (S137_23 l n m i a b c d w u j))) q := by kernel_rfl
  rw [e]
  exact (good_sel h (fun _ h => good_ret (by cases h; rfl)) (fun _ h => (good_sel h (fun _ h => good_ret (by cases h; rfl)) (fun _ h => good_cut (t137_7 k _ _ _ _ r h)))))
theorem has_take {q : List Pt} {i : Nat} (hi : i ≤ q.length) : hasV (q.take i) (q.getD i .zero).x (q.getD i .zero).y = !allUp (fun j => !samePt q i j) 0 i := by
  have hg : ∀ {j : Nat} (h : j < q.length), q.getD j .zero = q[j] := fun h => by simp [List.getD, List.getElem?_eq_getElem h]
  cases h : allUp (fun j => !samePt q i j) 0 i with
  | true =>
    rw [Bool.not_true, ← Bool.not_eq_true]
    intro hh
    unfold hasV at hh
    obtain ⟨p, hp, e⟩ := List.any_eq_true.1 hh
    obtain ⟨j, hj, rfl⟩ := List.mem_take_iff_getElem.1 hp
    have := (allUp_iff _ _ _).1 h j (by omega) (by omega)
    have e2 : samePt q i j = true := by
      unfold samePt
      rw [hg (show j < q.length by omega)]
      exact e
    simp only [e2] at this
    cases this
  | false =>
    rw [Bool.not_false]
    refine Classical.byContradiction fun hn => absurd h ?_
    rw [Bool.not_eq_false, allUp_iff]
    intro j _ hj
    cases hs : samePt q i j with
    | false => rfl
    | true =>
      refine absurd ?_ hn
      unfold hasV
      rw [List.any_eq_true]
      refine ⟨q[j], List.mem_take_iff_getElem.2 ⟨j, by omega, rfl⟩, ?_⟩
      unfold samePt at hs
      rw [hg (show j < q.length by omega)] at hs
      exact hs
theorem if23_loop {q : List Pt} (h : RingIn q) {i : Nat} (hi : i < q.length) {R : Int} {K : Nat} (hout : ∀ k, K ≤ k → L137_20 k (sidesOf q) q.length q.length ((i + 1 : Nat) : Int) = some R) :
    ∀ (d j k : Nat), j + d = i → d + 1 + K ≤ k → L137_23 k (sidesOf q) q.length q.length i (sideAt q i).x0 (sideAt q i).y0 (sideAt q i).x1 (sideAt q i).y1 i ((i : Nat) : Int) j = some (bif allUp (fun j => !crossI q i j) j d then R else 5)
  | d, j, 0, _, hk => by omega
  | 0, j, k + 1, hj, hk => by
    have := h.high
    rw [L137_23]
    unfold T137_23
    rw [decide_eq_false (show ¬ (j : Int) < i by omega), bsel_false, wrapI (by omega) (by omega), show (i : Int) + 1 = ((i + 1 : Nat) : Int) by omega, hout k (by omega)]
    rfl
  | d + 1, j, k + 1, hj, hk => by
    have hh := h.high
    have ih := if23_loop h hi hout d (j + 1) k (by omega) (by omega)
    have wj : IntKind.i64.wrap ((j : Int) + 1) = ((j + 1 : Nat) : Int) := by rw [wrapI (by omega) (by omega)]; omega
    have si := side_ok h hi
    have sj := side_ok h (show j < q.length by omega)
    unfold okS at si sj
    obtain ⟨n1, n2, n3⟩ := next_eq h.high hi (show j < i by omega)
    have hc : crossI q i j = badI (kindIV (sideAt q i).x0 (sideAt q i).y0 (sideAt q i).x1 (sideAt q i).y1 (sideAt q j).x0 (sideAt q j).y0 (sideAt q j).x1 (sideAt q j).y1) (decide (j + 1 = i) || (decide (j = 0) && decide (i + 1 = q.length))) := rfl
    rw [L137_23]
    unfold T137_23
    simp only [decide_eq_true (show (j : Int) < i by omega), decide_eq_true (show (0 : Int) ≤ j by omega), Int.toNat_natCast, Nat.zero_add, sidesOf_get q (show j < q.length by omega), si, sj, n1, n2, n3, wj, ih, Bool.and_self, bsel_true]
    rw [allUp_cut, hc]
    unfold badI
    cases decide (j + 1 = i) <;> cases decide (j = 0) <;> cases decide (i + 1 = q.length) <;> cases (kindIV (sideAt q i).x0 (sideAt q i).y0 (sideAt q i).x1 (sideAt q i).y1 (sideAt q j).x0 (sideAt q j).y0 (sideAt q j).x1 (sideAt q j).y1 == 1) <;> cases (kindIV (sideAt q i).x0 (sideAt q i).y0 (sideAt q i).x1 (sideAt q i).y1 (sideAt q j).x0 (sideAt q j).y0 (sideAt q j).x1 (sideAt q j).y1 == 2) <;> rfl
theorem if20_loop {q : List Pt} (h : RingIn q) : ∀ (d i k : Nat), i + d = q.length → 15 * d + 1 ≤ k → L137_20 k (sidesOf q) q.length q.length i = some (bif triFree (crossI q) i d then 0 else 5)
  | d, i, 0, _, hk => by omega
  | 0, i, k + 1, hi, hk => by
    rw [L137_20]
    unfold T137_20
    rw [decide_eq_false (show ¬ (i : Int) < q.length by omega)]
    rfl
  | d + 1, i, k + 1, hi, hk => by
    have := h.high
    have ih := if23_loop h (i := i) (by omega) (K := 15 * d + 1) (fun k hk => if20_loop h d (i + 1) k (by omega) hk) i 0 k (by omega) (by omega)
    rw [L137_20]
    unfold T137_20
    simp only [sidesOf_len, decide_eq_true (show (i : Int) < q.length by omega), decide_eq_true (show (0 : Int) ≤ i by omega), decide_eq_true (show (i : Int) ≤ q.length by omega), Int.toNat_natCast, Int.toNat_zero, Nat.sub_zero, sidesOf_get q (show i < q.length by omega), bsel_true]
    refine ih.trans ?_
    unfold triFree
    rw [allUp_cut]
    cases allUp (fun j => !crossI q i j) 0 i <;> rfl
theorem if13_loop {q : List Pt} (hn : q.length ≤ 12) {R : Int} {K : Nat} (hout : triFree (samePt q) 0 q.length = true → ∀ k, K ≤ k → L137_20 k (sidesOf q) q.length q.length 0 = some R) :
    ∀ (d i k : Nat), i + d = q.length → d + 1 + K ≤ k → (triFree (samePt q) i d = true → triFree (samePt q) 0 q.length = true) → L137_13 k q q.length i q.length = some (bif triFree (samePt q) i d then R else 4)
  | d, i, 0, _, hk, _ => by omega
  | 0, i, k + 1, hi, hk, he => by
    rw [L137_13]
    unfold T137_13
    simp only [decide_eq_false (show ¬ (i : Int) < q.length by omega), bsel_false, unRing_agg, isRing_agg, isShort, decide_eq_true (show q.length ≤ 1000 by omega), Bool.and_self, bsel_true, sidesOf_len]
    rw [hout (he rfl) k (by omega)]
    rfl
  | d + 1, i, k + 1, hi, hk, he => by
    have cut : triFree (samePt q) i (d + 1) = (allUp (fun j => !samePt q i j) 0 i && triFree (samePt q) (i + 1) d) := rfl
    have wi : IntKind.i64.wrap ((i : Int) + 1) = ((i + 1 : Nat) : Int) := by rw [wrapI (by omega) (by omega)]; omega
    obtain ⟨u1, u2⟩ := unPts_take q i (by omega)
    have hlen : isShort (q.take i) = true := decide_eq_true (by rw [List.length_take]; omega)
    rw [L137_13]
    unfold T137_13
    simp only [decide_eq_true (show (i : Int) < q.length by omega), decide_eq_true (show (0 : Int) ≤ i by omega), decide_eq_true (show (i : Int) ≤ q.length by omega), Int.toNat_natCast, Int.toNat_zero, Nat.sub_zero, Nat.zero_add, u1, u2, hlen, wi, has_take (show i ≤ q.length by omega), Bool.and_self, bsel_true]
    rw [cut] at he ⊢
    cases hc : allUp (fun j => !samePt q i j) 0 i with
    | false => rfl
    | true =>
      rw [Bool.not_true, bsel_false, if13_loop hn hout d (i + 1) k (by omega) (by omega) fun ht => he (by rw [hc, ht]; rfl)]
      rfl
theorem if7_loop {q : List Pt} (hn : q.length ≤ 12) {R : Int} {K : Nat} (hout : (q.all fun p => spotOkV p.x p.y) = true → ∀ k, K ≤ k → L137_13 k q q.length 0 q.length = some R) :
    ∀ (d i k : Nat), i + d = q.length → d + 1 + K ≤ k → ((q.drop i).all (fun p => spotOkV p.x p.y) = true → (q.all fun p => spotOkV p.x p.y) = true) → L137_7 k q q.length i q.length = some (bif (q.drop i).all fun p => spotOkV p.x p.y then R else 3)
  | d, i, 0, _, hk, _ => by omega
  | 0, i, k + 1, hi, hk, he => by
    rw [List.drop_eq_nil_of_le (by omega)] at he ⊢
    rw [L137_7]
    unfold T137_7
    rw [decide_eq_false (show ¬ (i : Int) < q.length by omega), bsel_false, hout (he rfl) k (by omega)]
    rfl
  | d + 1, i, k + 1, hi, hk, he => by
    have hlt : i < q.length := by omega
    have hg : q.getD i Pt.zero = q[i] := by simp [List.getD, List.getElem?_eq_getElem hlt]
    rw [List.drop_eq_getElem_cons hlt, List.all_cons] at he ⊢
    rw [L137_7]
    unfold T137_7
    rw [decide_eq_true (show (i : Int) < q.length by omega), decide_eq_true (show (0 : Int) ≤ i by omega), Int.toNat_natCast, hg, wrapI (by omega) (by omega), show (i : Int) + 1 = ((i + 1 : Nat) : Int) by omega]
    simp only [bsel_true]
    cases ho : spotOkV q[i].x q[i].y with
    | false => rfl
    | true =>
      rw [Bool.not_true, bsel_false, if7_loop hn hout d (i + 1) k (by omega) (by omega) fun ht => he (by rw [ho, ht]; rfl)]
      rfl
theorem faultI_law (q : List Pt) : G137 600 q = some (faultIV q) := by
  unfold G137 T137 faultIV faultBy
  by_cases h1 : q.length < 3
  · rw [decide_eq_true (show (q.length : Int) < 3 by omega), decide_eq_true h1]; rfl
  · by_cases h2 : q.length > 12
    · rw [decide_eq_false (show ¬ (q.length : Int) < 3 by omega), decide_eq_false h1, decide_eq_true (show (q.length : Int) > 12 by omega), decide_eq_true h2]; rfl
    · rw [decide_eq_false (show ¬ (q.length : Int) < 3 by omega), decide_eq_false h1, decide_eq_false (show ¬ (q.length : Int) > 12 by omega), decide_eq_false h2]
      have := if7_loop (q := q) (by omega) (R := bif triFree (samePt q) 0 q.length then (bif triFree (crossI q) 0 q.length then 0 else 5) else 4) (K := 400) (fun h3 k hk => if13_loop (by omega) (R := bif triFree (crossI q) 0 q.length then 0 else 5) (K := 190) (fun h4 k hk => if20_loop (ringIn_of h1 h2 h3 h4) q.length 0 k (by omega) (by omega)) q.length 0 k (by omega) (by omega) id) q.length 0 600 (by omega) (by omega) id
      refine this.trans ?_
      rw [List.drop_zero]
      cases (q.all fun p => spotOkV p.x p.y) <;> cases triFree (samePt q) 0 q.length <;> cases triFree (crossI q) 0 q.length <;> rfl
/-! Both tell the same. -/
theorem on_ends {s : Sg} (h : riseS s) : onS s ⟨s.x0, s.y0⟩ ∧ onS s ⟨s.x1, s.y1⟩ := by
  unfold riseS lexLt at h
  unfold onS onSg crossZ lexLe
  dsimp only
  refine ⟨⟨by simp, by omega, by omega⟩, ⟨?_, by omega, by omega⟩⟩
  show (s.x1 - s.x0) * (s.y1 - s.y0) - (s.y1 - s.y0) * (s.x1 - s.x0) = 0
  rw [Int.mul_comm]
  omega
theorem leg_onR {a b : Pt} (h : a ≠ b) : onS (legOf a b) b ∧ onS (legOf a b) a := by
  have := on_ends (leg_rise h)
  rcases leg_cases a b h with ⟨h1, h2⟩ | ⟨h1, h2⟩ <;> rw [h2] at this ⊢
  · exact ⟨this.2, this.1⟩
  · exact ⟨this.1, this.2⟩
theorem next_meet {q : List Pt} (h : RingIn q) {i j : Nat} (hi : i < q.length) (hj : j < i) (hn : sideNx q.length i j = true) : meetS (sideAt q i) (sideAt q j) := by
  have hl := h.low
  obtain ⟨e1, e2⟩ := next_ne hi hl
  obtain ⟨f1, f2⟩ := next_ne (show j < q.length by omega) hl
  have ni := unlike_ne h hi e2 (fun e => e1 e.symm)
  have nj := unlike_ne h (show j < q.length by omega) f2 (fun e => f1 e.symm)
  unfold sideNx at hn
  simp only [Bool.or_eq_true, Bool.and_eq_true, decide_eq_true_eq] at hn
  rcases hn with hn | ⟨hn, hm⟩
  · -- the end of j is the beginning of i
    have ej : (j + 1) % q.length = i := by rw [hn, Nat.mod_eq_of_lt hi]
    refine (meetS_comm (leg_rise nj) (leg_rise ni)).1 (leg_on ni (leg_rise nj) ?_)
    rw [ej]
    rw [ej] at nj
    exact (leg_onR nj).1
  · -- the end of i is the beginning of j
    have ei : (i + 1) % q.length = j := by rw [hm, Nat.mod_self, hn]
    refine leg_on nj (leg_rise ni) ?_
    unfold sideAt
    rw [ei]
    rw [ei] at ni
    exact (leg_onR ni).1
theorem cross_same {q : List Pt} (h : RingIn q) {i j : Nat} (hi : i < q.length) (hj : j < i) : crossI q i j = cross3 q i j := by
  have si := side_ok h hi
  have sj := side_ok h (show j < q.length by omega)
  have hr := k3_range si sj
  unfold crossI cross3
  rw [kI_3 si sj]
  unfold badI bad3
  cases hn : sideNx q.length i j with
  | false =>
    rcases hr with e | e | e <;> rw [e] <;> rfl
  | true =>
    have hm : k3 (sideAt q i) (sideAt q j) ≠ 0 := (kind3_ok si sj).2.1.2 (next_meet h hi hj hn)
    rcases hr with e | e | e
    · exact absurd e hm
    · rw [e]; rfl
    · rw [e]; rfl
theorem fault_same (q : List Pt) : faultIV q = fault3V q := by
  unfold faultIV fault3V faultBy
  by_cases h1 : q.length < 3
  · rw [decide_eq_true h1]; rfl
  · by_cases h2 : q.length > 12
    · rw [decide_eq_false h1, decide_eq_true h2]; rfl
    · rw [decide_eq_false h1, decide_eq_false h2]
      cases h3 : (q.all fun p => spotOkV p.x p.y) with
      | false => rfl
      | true =>
        cases h4 : triFree (samePt q) 0 q.length with
        | false => rfl
        | true =>
          have h := ringIn_of h1 h2 h3 h4
          have e : triFree (crossI q) 0 q.length = triFree (cross3 q) 0 q.length := by
            rw [Bool.eq_iff_iff, tri_iff, tri_iff]
            exact forall_congr' fun i => forall_congr' fun hi => forall_congr' fun j => forall_congr' fun hj => by rw [cross_same h hi hj]
          rw [e]
def resFaultI : List F → F | [x] => .int .i64 (fault3V (unRing x)) | _ => .dflt
theorem okFaultI : PureOK Try.prog 137 preRg resFaultI :=
  fn_pure_at (c := bodyOf Try.f137) Try.func137 (by kernel_rfl) (by kernel_rfl) fun xs hp => match xs, hp with
  | [x], hp => ⟨[ringF (unRing x)], _, ⟨(ring_eqv hp).1, trivial⟩, t137 600 _ _ (faultI_law _), by
      show FLe (.int .i64 (faultIV (unRing x))) (.int .i64 (fault3V (unRing x)))
      rw [fault_same]
      exact .refl _⟩
def envK3 : Env := envK2.add 137 (.pure preRg resFaultI)
theorem envK3_ok : EnvOK Try.prog envK3 := (Env.add_ok envK2_ok okFaultI.sp)
end
end Go.Proofs.Ytmambbfnjbdfgaa.R

namespace Go.Proofs.Ytmambbfnjbdfgaa.R
open Go
noncomputable section
set_option linter.unusedVariables false
set_option linter.unusedSimpArgs false
set_option maxRecDepth 100000
set_option maxHeartbeats 1000000
def rightV (q : List Pt) : Bool := fault3V q == 0
theorem right_in {q : List Pt} (h : rightV q = true) : RingIn q := by
  unfold rightV fault3V faultBy at h
  by_cases h1 : q.length < 3
  · rw [decide_eq_true h1] at h; cases h
  · by_cases h2 : q.length > 12
    · rw [decide_eq_false h1, decide_eq_true h2] at h; cases h
    · rw [decide_eq_false h1, decide_eq_false h2] at h
      cases h3 : (q.all fun p => spotOkV p.x p.y) with
      | false => rw [h3] at h; cases h
      | true =>
        cases h4 : triFree (samePt q) 0 q.length with
        | false => rw [h3, h4] at h; cases h
        | true => exact ringIn_of h1 h2 h3 h4
def ringHit (q p : List Pt) (i j : Nat) : Bool := k3 (sideAt q i) (sideAt p j) != 0
def ringsV (q p : List Pt) : Bool := !rowFree (ringHit q p) p.length q.length
/-! ### function 135 -/
def S135_2 (q : List Pt) (p : List Pt) (i : Int) : St := ⟨[.bad, .bad, (U.hp 0 0), (U.hp 1 0), .bad, (U.f (F.int .i64 i)), .bad, .bad, .bad, .bad, .bad, .bad, .bad, .bad, .bad, .bad, .bad, .bad, .bad, .bad, .bad, .bad, .bad, .bad, .bad, .bad, .bad, .bad, .bad, .bad, .bad, .bad, .bad, .bad, .bad, .bad, .bad], [HO.box [(U.f (ptsF q))], HO.box [(U.f (ptsF p))]]⟩
def S135_5 (q : List Pt) (p : List Pt) (i : Int) (j : Int) : St := ⟨[.bad, .bad, (U.hp 0 0), (U.hp 1 0), .bad, (U.f (F.int .i64 i)), (U.f (F.int .i64 j)), .bad, .bad, .bad, .bad, .bad, .bad, .bad, .bad, .bad, .bad, .bad, .bad, .bad, .bad, .bad, .bad, .bad, .bad, .bad, .bad, .bad, .bad, .bad, .bad, .bad, .bad, .bad, .bad, .bad, .bad], [HO.box [(U.f (ptsF q))], HO.box [(U.f (ptsF p))]]⟩
def T135_2 {ρ : Type} (ret : (Bool) → Option ρ) (c2 : (List Pt) → (List Pt) → (Int) → Option ρ) (c5 : (List Pt) → (List Pt) → (Int) → (Int) → Option ρ) (q : List Pt) (p : List Pt) (i : Int) : Option ρ :=
 (bsel (decide (i < (↑q.length : Int)))
 (c5 (q) (p) (i) (0))
 (ret (false)))
def T135_5 {ρ : Type} (ret : (Bool) → Option ρ) (c2 : (List Pt) → (List Pt) → (Int) → Option ρ) (c5 : (List Pt) → (List Pt) → (Int) → (Int) → Option ρ) (q : List Pt) (p : List Pt) (i : Int) (j : Int) : Option ρ :=
 (bsel (decide (j < (↑p.length : Int)))
 (bsel (isRing (F.agg [ptsF q]) && isAt (unRing (F.agg [ptsF q])) i)
 (bsel (isRing (F.agg [ptsF p]) && isAt (unRing (F.agg [ptsF p])) j)
 (bsel (segOkV (sideAt (unRing (F.agg [ptsF q])) i.toNat).x0 (sideAt (unRing (F.agg [ptsF q])) i.toNat).y0 (sideAt (unRing (F.agg [ptsF q])) i.toNat).x1 (sideAt (unRing (F.agg [ptsF q])) i.toNat).y1 && segOkV (sideAt (unRing (F.agg [ptsF p])) j.toNat).x0 (sideAt (unRing (F.agg [ptsF p])) j.toNat).y0 (sideAt (unRing (F.agg [ptsF p])) j.toNat).x1 (sideAt (unRing (F.agg [ptsF p])) j.toNat).y1)
 (bsel (kind3V (sideAt (unRing (F.agg [ptsF q])) i.toNat).x0 (sideAt (unRing (F.agg [ptsF q])) i.toNat).y0 (sideAt (unRing (F.agg [ptsF q])) i.toNat).x1 (sideAt (unRing (F.agg [ptsF q])) i.toNat).y1 (sideAt (unRing (F.agg [ptsF p])) j.toNat).x0 (sideAt (unRing (F.agg [ptsF p])) j.toNat).y0 (sideAt (unRing (F.agg [ptsF p])) j.toNat).x1 (sideAt (unRing (F.agg [ptsF p])) j.toNat).y1 != 0)
 (ret (true))
 (c5 (q) (p) (i) (IntKind.i64.wrap (j + 1))))
 none)
 none)
 none)
 (c2 (q) (p) (IntKind.i64.wrap (i + 1))))
mutual
def L135_2 : Nat → (List Pt) → (List Pt) → (Int) → Option (Bool)
  | 0, _, _, _ => none
  | k + 1, q, p, i => T135_2 some (L135_2 k) (L135_5 k) q p i
def L135_5 : Nat → (List Pt) → (List Pt) → (Int) → (Int) → Option (Bool)
  | 0, _, _, _, _ => none
  | k + 1, q, p, i, j => T135_5 some (L135_2 k) (L135_5 k) q p i j
end
def T135 {ρ : Type} (ret : (Bool) → Option ρ) (c2 : (List Pt) → (List Pt) → (Int) → Option ρ) (c5 : (List Pt) → (List Pt) → (Int) → (Int) → Option ρ) (q : List Pt) (p : List Pt) : Option ρ :=
 (c2 (q) (p) (0))
def G135 (k : Nat) (q : List Pt) (p : List Pt) : Option (Bool) := T135 some (L135_2 k) (L135_5 k) q p
mutual
theorem t135_2 : ∀ (k : Nat) (q : List Pt) (p : List Pt) (i : Int) (res : Bool), L135_2 k q p i = some res → Ends Try.prog Try.f135.results.toList (at_ Try.f135 2) (S135_2 q p i) (F.bool res)
  | 0, _, _, _, _, h => nomatch h
  | k + 1, q, p, i, res, h => by
    refine Ends.of_cut tyOK envK3_ok (T := [(2, [2, 3, 5], 1000), (5, [2, 3, 5, 6], 1000)]) (n := 200) ?_
    have e : runCut Try.prog (tiOf Try.prog) envK3 [(2, [2, 3, 5], 1000), (5, [2, 3, 5, 6], 1000)] 0 Try.f135.results.toList some 200 (at_ Try.f135 2) (S135_2 q p i) = T135_2 (fun res => some (.ret (F.bool res))) (fun q p i => some (.cut (at_ Try.f135 2) (S135_2 q p i))) (fun q p i j => some (.cut (at_ Try.f135 5) (S135_5 q p i j))) q p i := by kernel_rfl
    rw [e]
    exact (good_sel h (fun _ h => good_cut (t135_5 k _ _ _ _ res h)) (fun _ h => good_ret (by cases h; rfl)))
theorem t135_5 : ∀ (k : Nat) (q : List Pt) (p : List Pt) (i : Int) (j : Int) (res : Bool), L135_5 k q p i j = some res → Ends Try.prog Try.f135.results.toList (at_ Try.f135 5) (S135_5 q p i j) (F.bool res)
  | 0, _, _, _, _, _, h => nomatch h
  | k + 1, q, p, i, j, res, h => by
    refine Ends.of_cut tyOK envK3_ok (T := [(2, [2, 3, 5], 1000), (5, [2, 3, 5, 6], 1000)]) (n := 200) ?_
    have e : runCut Try.prog (tiOf Try.prog) envK3 [(2, [2, 3, 5], 1000), (5, [2, 3, 5, 6], 1000)] 0 Try.f135.results.toList some 200 (at_ Try.f135 5) (S135_5 q p i j) = T135_5 (fun res => some (.ret (F.bool res))) (fun q p i => some (.cut (at_ Try.f135 2) (S135_2 q p i))) (fun q p i j => some (.cut (at_ Try.f135 5) (S135_5 q p i j))) q p i j := by kernel_rfl
    rw [e]
    exact (good_sel h (fun _ h => (good_sel h (fun _ h => (good_sel h (fun _ h => (good_sel h (fun _ h => (good_sel h (fun _ h => good_ret (by cases h; rfl)) (fun _ h => good_cut (t135_5 k _ _ _ _ res h)))) (fun _ h => nomatch h))) (fun _ h => nomatch h))) (fun _ h => nomatch h))) (fun _ h => good_cut (t135_2 k _ _ _ res h)))
end
theorem t135 (k : Nat) (q : List Pt) (p : List Pt) (res : Bool) (h : G135 k q p = some res) : Ends Try.prog Try.f135.results.toList [.code (bodyOf Try.f135)] (start Try.f135.ntmps ([F.agg [ptsF q], F.agg [ptsF p]].map .f)) (F.bool res) := by
  refine Ends.of_run tyOK envK3_ok (T := [(2, [2, 3, 5], 1000), (5, [2, 3, 5, 6], 1000)]) (n := 200) ?_
  have e : run Try.prog (tiOf Try.prog) envK3 [(2, [2, 3, 5], 1000), (5, [2, 3, 5, 6], 1000)] 0 Try.f135.results.toList some 200 [.code (bodyOf Try.f135)] (start Try.f135.ntmps ([F.agg [ptsF q], F.agg [ptsF p]].map .f)) = T135 (fun res => some (.ret (F.bool res))) (fun q p i => some (.cut (at_ Try.f135 2) (S135_2 q p i))) (fun q p i j => some (.cut (at_ Try.f135 5) (S135_5 q p i j))) q p := by kernel_rfl
  rw [e]
  exact good_cut (t135_2 k _ _ _ res h)
theorem rm5_loop {q p : List Pt} (hq : RingIn q) (hp : RingIn p) {i : Nat} (hi : i < q.length) {R : Bool} {K : Nat} (hout : ∀ k, K ≤ k → L135_2 k q p ((i + 1 : Nat) : Int) = some R) :
    ∀ (d j k : Nat), j + d = p.length → d + 1 + K ≤ k → L135_5 k q p i j = some (bif allUp (fun j => !ringHit q p i j) j d then R else true)
  | d, j, 0, _, hk => by omega
  | 0, j, k + 1, hj, hk => by
    have := hq.high
    rw [L135_5]
    unfold T135_5
    rw [decide_eq_false (show ¬ (j : Int) < p.length by omega), bsel_false, wrapI (by omega) (by omega), show (i : Int) + 1 = ((i + 1 : Nat) : Int) by omega, hout k (by omega)]
    rfl
  | d + 1, j, k + 1, hj, hk => by
    have h1 := hq.high
    have h2 := hp.high
    have ih := rm5_loop hq hp hi hout d (j + 1) k (by omega) (by omega)
    have wj : IntKind.i64.wrap ((j : Int) + 1) = ((j + 1 : Nat) : Int) := by rw [wrapI (by omega) (by omega)]; omega
    have si := side_ok hq hi
    have sj := side_ok hp (show j < p.length by omega)
    unfold okS at si sj
    have hc : ringHit q p i j = (kind3V (sideAt q i).x0 (sideAt q i).y0 (sideAt q i).x1 (sideAt q i).y1 (sideAt p j).x0 (sideAt p j).y0 (sideAt p j).x1 (sideAt p j).y1 != 0) := rfl
    rw [L135_5]
    unfold T135_5
    simp only [decide_eq_true (show (j : Int) < p.length by omega), unRing_agg, isRing_agg, isAt_iff.2 ⟨⟨show (0 : Int) ≤ i by omega, show (i : Int) < q.length by omega⟩, show q.length ≤ 1000 by omega⟩, isAt_iff.2 ⟨⟨show (0 : Int) ≤ j by omega, show (j : Int) < p.length by omega⟩, show p.length ≤ 1000 by omega⟩, Int.toNat_natCast, si, sj, wj, ih, Bool.and_self, bsel_true]
    rw [allUp_cut, hc]
    cases (kind3V (sideAt q i).x0 (sideAt q i).y0 (sideAt q i).x1 (sideAt q i).y1 (sideAt p j).x0 (sideAt p j).y0 (sideAt p j).x1 (sideAt p j).y1 != 0) <;> rfl
theorem rm2_loop {q p : List Pt} (hq : RingIn q) (hp : RingIn p) : ∀ (d i k : Nat), i + d = q.length → 15 * d + 1 ≤ k → L135_2 k q p i = some (!allUp (fun i => allUp (fun j => !ringHit q p i j) 0 p.length) i d)
  | d, i, 0, _, hk => by omega
  | 0, i, k + 1, hi, hk => by
    rw [L135_2]
    unfold T135_2
    rw [decide_eq_false (show ¬ (i : Int) < q.length by omega)]
    rfl
  | d + 1, i, k + 1, hi, hk => by
    have := hp.high
    have ih := rm5_loop hq hp (i := i) (by omega) (K := 15 * d + 1) (fun k hk => rm2_loop hq hp d (i + 1) k (by omega) hk) p.length 0 k (by omega) (by omega)
    rw [L135_2]
    unfold T135_2
    rw [decide_eq_true (show (i : Int) < q.length by omega), bsel_true]
    refine ih.trans ?_
    rw [allUp_cut]
    cases allUp (fun j => !ringHit q p i j) 0 p.length <;> rfl
def preRings : List F → Bool | [x, y] => isRing x && isRing y && (rightV (unRing x) && rightV (unRing y)) | _ => false
def resRings : List F → F | [x, y] => .bool (ringsV (unRing x) (unRing y)) | _ => .dflt
theorem okRings3 : PureOK Try.prog 135 preRings resRings :=
  fn_pure_at (c := bodyOf Try.f135) Try.func135 (by kernel_rfl) (by kernel_rfl) fun xs hp => match xs, hp with
  | [x, y], hp => by
    simp only [preRings, Bool.and_eq_true] at hp
    have hx := right_in hp.2.1
    have := hx.high
    exact ⟨[ringF (unRing x), ringF (unRing y)], _, ⟨(ring_eqv hp.1.1).1, (ring_eqv hp.1.2).1, trivial⟩, t135 400 _ _ _ (rm2_loop hx (right_in hp.2.2) (unRing x).length 0 400 (by omega) (by omega)), .refl _⟩
/-! ### function 140 -/
def S140_2 (p : List Pt) (l : List Sg) (n : Int) (i : Int) : St := ⟨[.bad, .bad, .bad, (U.hp 0 0), .bad, .bad, .bad, .bad, .bad, .bad, .bad, .bad, .bad, (U.f (segsF l)), (U.f (F.int .i64 n)), (U.f (F.int .i64 i)), .bad, .bad, .bad, .bad, .bad, .bad, .bad, .bad, .bad, .bad, .bad, .bad, .bad, .bad, .bad, .bad, .bad, .bad, .bad, .bad, .bad], [HO.box [(U.f (ptsF p))]]⟩
def S140_5 (p : List Pt) (l : List Sg) (n : Int) (i : Int) (a : Int) (b : Int) (c : Int) (d : Int) (m : List Sg) (u : Int) (j : Int) : St := ⟨[.bad, .bad, .bad, (U.hp 0 0), .bad, .bad, (U.hp 1 0), .bad, .bad, .bad, .bad, .bad, .bad, (U.f (segsF l)), (U.f (F.int .i64 n)), (U.f (F.int .i64 i)), .bad, .bad, .bad, .bad, (U.f (segsF m)), (U.f (F.int .i64 u)), (U.f (F.int .i64 j)), .bad, .bad, .bad, .bad, .bad, .bad, .bad, .bad, .bad, .bad, .bad, .bad, .bad, .bad], [HO.box [(U.f (ptsF p))], HO.box [(U.f (F.int .i64 a)), (U.f (F.int .i64 b)), (U.f (F.int .i64 c)), (U.f (F.int .i64 d))]]⟩
def T140_2 {ρ : Type} (ret : (Bool) → Option ρ) (c2 : (List Pt) → (List Sg) → (Int) → (Int) → Option ρ) (c5 : (List Pt) → (List Sg) → (Int) → (Int) → (Int) → (Int) → (Int) → (Int) → (List Sg) → (Int) → (Int) → Option ρ) (p : List Pt) (l : List Sg) (n : Int) (i : Int) : Option ρ :=
 (bsel (decide (i < n))
 (bsel (decide (0 ≤ i))
 (bsel (decide (i < (↑l.length : Int)))
 (bsel (isRing (F.agg [ptsF p]) && isShort (unRing (F.agg [ptsF p])))
 (c5 (p) (l) (n) (i) ((l.getD i.toNat Sg.zero).x0) ((l.getD i.toNat Sg.zero).y0) ((l.getD i.toNat Sg.zero).x1) ((l.getD i.toNat Sg.zero).y1) (sidesOf (unRing (F.agg [ptsF p]))) ((↑(sidesOf (unRing (F.agg [ptsF p]))).length : Int)) (0))
 none)
 none)
 none)
 (ret (false)))
def T140_5 {ρ : Type} (ret : (Bool) → Option ρ) (c2 : (List Pt) → (List Sg) → (Int) → (Int) → Option ρ) (c5 : (List Pt) → (List Sg) → (Int) → (Int) → (Int) → (Int) → (Int) → (Int) → (List Sg) → (Int) → (Int) → Option ρ) (p : List Pt) (l : List Sg) (n : Int) (i : Int) (a : Int) (b : Int) (c : Int) (d : Int) (m : List Sg) (u : Int) (j : Int) : Option ρ :=
 (bsel (decide (j < u))
 (bsel (decide (0 ≤ j))
 (bsel (decide (j < (↑m.length : Int)))
 (bsel (segOkV a b c d && segOkV (m.getD j.toNat Sg.zero).x0 (m.getD j.toNat Sg.zero).y0 (m.getD j.toNat Sg.zero).x1 (m.getD j.toNat Sg.zero).y1)
 (bsel (kindIV a b c d (m.getD j.toNat Sg.zero).x0 (m.getD j.toNat Sg.zero).y0 (m.getD j.toNat Sg.zero).x1 (m.getD j.toNat Sg.zero).y1 != 0)
 (ret (true))
 (c5 (p) (l) (n) (i) (a) (b) (c) (d) (m) (u) (IntKind.i64.wrap (j + 1))))
 none)
 none)
 none)
 (c2 (p) (l) (n) (IntKind.i64.wrap (i + 1))))
mutual
def L140_2 : Nat → (List Pt) → (List Sg) → (Int) → (Int) → Option (Bool)
  | 0, _, _, _, _ => none
  | k + 1, p, l, n, i => T140_2 some (L140_2 k) (L140_5 k) p l n i
def L140_5 : Nat → (List Pt) → (List Sg) → (Int) → (Int) → (Int) → (Int) → (Int) → (Int) → (List Sg) → (Int) → (Int) → Option (Bool)
  | 0, _, _, _, _, _, _, _, _, _, _, _ => none
  | k + 1, p, l, n, i, a, b, c, d, m, u, j => T140_5 some (L140_2 k) (L140_5 k) p l n i a b c d m u j
end
def T140 {ρ : Type} (ret : (Bool) → Option ρ) (c2 : (List Pt) → (List Sg) → (Int) → (Int) → Option ρ) (c5 : (List Pt) → (List Sg) → (Int) → (Int) → (Int) → (Int) → (Int) → (Int) → (List Sg) → (Int) → (Int) → Option ρ) (q : List Pt) (p : List Pt) : Option ρ :=
 (bsel (isRing (F.agg [ptsF q]) && isShort (unRing (F.agg [ptsF q])))
 (c2 (p) (sidesOf (unRing (F.agg [ptsF q]))) ((↑(sidesOf (unRing (F.agg [ptsF q]))).length : Int)) (0))
 none)
def G140 (k : Nat) (q : List Pt) (p : List Pt) : Option (Bool) := T140 some (L140_2 k) (L140_5 k) q p
mutual
theorem t140_2 : ∀ (k : Nat) (p : List Pt) (l : List Sg) (n : Int) (i : Int) (res : Bool), L140_2 k p l n i = some res → Ends Try.prog Try.f140.results.toList (at_ Try.f140 2) (S140_2 p l n i) (F.bool res)
  | 0, _, _, _, _, _, h => nomatch h
  | k + 1, p, l, n, i, res, h => by
    refine Ends.of_cut tyOK envK3_ok (T := [(2, [3, 13, 14, 15], 1000), (5, [3, 6, 13, 14, 15, 20, 21, 22], 1000)]) (n := 200) ?_
    have e : runCut Try.prog (tiOf Try.prog) envK3 [(2, [3, 13, 14, 15], 1000), (5, [3, 6, 13, 14, 15, 20, 21, 22], 1000)] 0 Try.f140.results.toList some 200 (at_ Try.f140 2) (S140_2 p l n i) = T140_2 (fun res => some (.ret (F.bool res))) (fun p l n i => some (.cut (at_ Try.f140 2) (S140_2 p l n i))) (fun p l n i a b c d m u j => some (.cut (at_ Try.f140 5) (S140_5 p l n i a b c d m u j))) p l n i := by kernel_rfl
    rw [e]
    exact (good_sel h (fun _ h => (good_sel h (fun _ h => (good_sel h (fun _ h => (good_sel h (fun _ h => good_cut (t140_5 k _ _ _ _ _ _ _ _ _ _ _ res h)) (fun _ h => nomatch h))) (fun _ h => nomatch h))) (fun _ h => nomatch h))) (fun _ h => good_ret (by cases h; rfl)))
theorem t140_5 : ∀ (k : Nat) (p : List Pt) (l : List Sg) (n : Int) (i : Int) (a : Int) (b : Int) (c : Int) (d : Int) (m : List Sg) (u : Int) (j : Int) (res : Bool), L140_5 k p l n i a b c d m u j = some res → Ends Try.prog Try.f140.results.toList (at_ Try.f140 5) (S140_5 p l n i a b c d m u j) (F.bool res)
  | 0, _, _, _, _, _, _, _, _, _, _, _, _, h => nomatch h
  | k + 1, p, l, n, i, a, b, c, d, m, u, j, res, h => by
    refine Ends.of_cut tyOK envK3_ok (T := [(2, [3, 13, 14, 15], 1000), (5, [3, 6, 13, 14, 15, 20, 21, 22], 1000)]) (n := 200) ?_
    have e : runCut Try.prog (tiOf Try.prog) envK3 [(2, [3, 13, 14, 15], 1000), (5, [3, 6, 13, 14, 15, 20, 21, 22], 1000)] 0 Try.f140.results.toList some 200 (at_ Try.f140 5) (S140_5 p l n i a b c d m u j) = T140_5 (fun res => some (.ret (F.bool res))) (fun p l n i => some (.cut (at_ Try.f140 2) (S140_2 p l n i))) (fun p l n i a b c d m u j => some (.cut (at_ Try.f140 5) (S140_5 p l n i a b c d m u j))) p l n i a b c d m u j := by kernel_rfl
    rw [e]
    exact (good_sel h (fun _ h => (good_sel h (fun _ h => (good_sel h (fun _ h => (good_sel h (fun _ h => (good_sel h (fun _ h => good_ret (by cases h; rfl)) (fun _ h => good_cut (t140_5 k _ _ _ _ _ _ _ _ _ _ _ res h)))) (fun _ h => nomatch h))) (fun _ h => nomatch h))) (fun _ h => nomatch h))) (fun _ h => good_cut (t140_2 k _ _ _ _ res h)))
end
theorem t140 (k : Nat) (q : List Pt) (p : List Pt) (res : Bool) (h : G140 k q p = some res) : Ends Try.prog Try.f140.results.toList [.code (bodyOf Try.f140)] (start Try.f140.ntmps ([F.agg [ptsF q], F.agg [ptsF p]].map .f)) (F.bool res) := by
  refine Ends.of_run tyOK envK3_ok (T := [(2, [3, 13, 14, 15], 1000), (5, [3, 6, 13, 14, 15, 20, 21, 22], 1000)]) (n := 200) ?_
  have e : run Try.prog (tiOf Try.prog) envK3 [(2, [3, 13, 14, 15], 1000), (5, [3, 6, 13, 14, 15, 20, 21, 22], 1000)] 0 Try.f140.results.toList some 200 [.code (bodyOf Try.f140)] (start Try.f140.ntmps ([F.agg [ptsF q], F.agg [ptsF p]].map .f)) = T140 (fun res => some (.ret (F.bool res))) (fun p l n i => some (.cut (at_ Try.f140 2) (S140_2 p l n i))) (fun p l n i a b c d m u j => some (.cut (at_ Try.f140 5) (S140_5 p l n i a b c d m u j))) q p := by kernel_rfl
  rw [e]
  exact (good_sel h (fun _ h => good_cut (t140_2 k _ _ _ _ res h)) (fun _ h => nomatch h))
theorem im5_loop {q p : List Pt} (hq : RingIn q) (hp : RingIn p) {i : Nat} (hi : i < q.length) {R : Bool} {K : Nat} (hout : ∀ k, K ≤ k → L140_2 k p (sidesOf q) q.length ((i + 1 : Nat) : Int) = some R) :
    ∀ (d j k : Nat), j + d = p.length → d + 1 + K ≤ k → L140_5 k p (sidesOf q) q.length i (sideAt q i).x0 (sideAt q i).y0 (sideAt q i).x1 (sideAt q i).y1 (sidesOf p) p.length j = some (bif allUp (fun j => !ringHit q p i j) j d then R else true)
  | d, j, 0, _, hk => by omega
  | 0, j, k + 1, hj, hk => by
    have := hq.high
    rw [L140_5]
    unfold T140_5
    rw [decide_eq_false (show ¬ (j : Int) < p.length by omega), bsel_false, wrapI (by omega) (by omega), show (i : Int) + 1 = ((i + 1 : Nat) : Int) by omega, hout k (by omega)]
    rfl
  | d + 1, j, k + 1, hj, hk => by
    have h1 := hq.high
    have h2 := hp.high
    have ih := im5_loop hq hp hi hout d (j + 1) k (by omega) (by omega)
    have wj : IntKind.i64.wrap ((j : Int) + 1) = ((j + 1 : Nat) : Int) := by rw [wrapI (by omega) (by omega)]; omega
    have hj' : j < p.length := by omega
    have si := side_ok hq hi
    have sj := side_ok hp hj'
    have hc : ringHit q p i j = (kindIV (sideAt q i).x0 (sideAt q i).y0 (sideAt q i).x1 (sideAt q i).y1 (sideAt p j).x0 (sideAt p j).y0 (sideAt p j).x1 (sideAt p j).y1 != 0) := by
      unfold ringHit
      rw [← kI_3 si sj]
      rfl
    unfold okS at si sj
    rw [L140_5]
    unfold T140_5
    simp only [decide_eq_true (show (j : Int) < p.length by omega), decide_eq_true (show (0 : Int) ≤ j by omega), sidesOf_len, Int.toNat_natCast, sidesOf_get p hj', si, sj, wj, ih, Bool.and_self, bsel_true]
    rw [allUp_cut, hc]
    cases (kindIV (sideAt q i).x0 (sideAt q i).y0 (sideAt q i).x1 (sideAt q i).y1 (sideAt p j).x0 (sideAt p j).y0 (sideAt p j).x1 (sideAt p j).y1 != 0) <;> rfl
theorem im2_loop {q p : List Pt} (hq : RingIn q) (hp : RingIn p) : ∀ (d i k : Nat), i + d = q.length → 15 * d + 1 ≤ k → L140_2 k p (sidesOf q) q.length i = some (!allUp (fun i => allUp (fun j => !ringHit q p i j) 0 p.length) i d)
  | d, i, 0, _, hk => by omega
  | 0, i, k + 1, hi, hk => by
    rw [L140_2]
    unfold T140_2
    rw [decide_eq_false (show ¬ (i : Int) < q.length by omega)]
    rfl
  | d + 1, i, k + 1, hi, hk => by
    have h1 := hp.high
    have h2 := hq.high
    have ih := im5_loop hq hp (i := i) (by omega) (K := 15 * d + 1) (fun k hk => im2_loop hq hp d (i + 1) k (by omega) hk) p.length 0 k (by omega) (by omega)
    rw [L140_2]
    unfold T140_2
    simp only [decide_eq_true (show (i : Int) < q.length by omega), decide_eq_true (show (0 : Int) ≤ i by omega), sidesOf_len, unRing_agg, isRing_agg, isShort, decide_eq_true (show p.length ≤ 1000 by omega), Int.toNat_natCast, sidesOf_get q (show i < q.length by omega), Bool.and_self, bsel_true]
    refine ih.trans ?_
    rw [allUp_cut]
    cases allUp (fun j => !ringHit q p i j) 0 p.length <;> rfl
theorem okRingsI : PureOK Try.prog 140 preRings resRings :=
  fn_pure_at (c := bodyOf Try.f140) Try.func140 (by kernel_rfl) (by kernel_rfl) fun xs hp => match xs, hp with
  | [x, y], hp => by
    simp only [preRings, Bool.and_eq_true] at hp
    have hx := right_in hp.2.1
    have hh := hx.high
    exact ⟨[ringF (unRing x), ringF (unRing y)], _, ⟨(ring_eqv hp.1.1).1, (ring_eqv hp.1.2).1, trivial⟩, t140 400 _ _ _ (by
      unfold G140 T140
      simp only [unRing_agg, isRing_agg, isShort, decide_eq_true (show (unRing x).length ≤ 1000 by omega), Bool.and_self, bsel_true, sidesOf_len]
      exact im2_loop hx (right_in hp.2.2) (unRing x).length 0 400 (by omega) (by omega)), .refl _⟩
def envK4 : Env := (envK3.add 135 (.pure preRings resRings)).add 140 (.pure preRings resRings)
theorem envK4_ok : EnvOK Try.prog envK4 := (Env.add_ok (Env.add_ok envK3_ok okRings3.sp) okRingsI.sp)
end
end Go.Proofs.Ytmambbfnjbdfgaa.R

namespace Go.Proofs.Ytmambbfnjbdfgaa.R
open Go
noncomputable section
set_option linter.unusedVariables false
set_option linter.unusedSimpArgs false
set_option maxRecDepth 100000
/-! ### function 139 -/
def T139 {ρ : Type} (ret : (Bool) → Option ρ) (q : List Pt) (p : List Pt) : Option ρ :=
 (bsel (isRing (F.agg [ptsF q]) && isRing (F.agg [ptsF p]) && (rightV (unRing (F.agg [ptsF q])) && rightV (unRing (F.agg [ptsF p]))))
 (ret (ringsV (unRing (F.agg [ptsF q])) (unRing (F.agg [ptsF p]))))
 none)
def G139 (q : List Pt) (p : List Pt) : Option (Bool) := T139 some q p
theorem t139 (q : List Pt) (p : List Pt) (res : Bool) (h : G139 q p = some res) : EndsN Try.prog 1 Try.f139.results.toList [.code (bodyOf Try.f139)] (startN Try.f139.ntmps [U.f (F.agg [ptsF p]), U.hp 0 0] [HO.box [(U.f (ptsF q))]]) (F.tup [F.bool res, F.agg [ptsF q]]) := by
  refine Ends.of_run tyOK envK4_ok (T := []) (n := 200) ?_
  have e : run Try.prog (tiOf Try.prog) envK4 [] 1 Try.f139.results.toList some 200 [.code (bodyOf Try.f139)] (startN Try.f139.ntmps [U.f (F.agg [ptsF p]), U.hp 0 0] [HO.box [(U.f (ptsF q))]]) = T139 (fun res => some (.ret (F.tup [F.bool res, F.agg [ptsF q]]))) q p := by kernel_rfl
  rw [e]
  exact (good_sel h (fun _ h => good_ret (by cases h; rfl)) (fun _ h => nomatch h))
def preCl : List F → F → Bool | [y], x => isPts y && isRing x && (rightV (unPts y) && rightV (unRing x)) | _, _ => false
def resCl : List F → F → F × List F | [y], x => (.bool (ringsV (unPts y) (unRing x)), [y]) | cs, _ => (.dflt, cs)
theorem okCl : SpOK Try.prog 139 (.shared (bxPre decArg preCl) (bxRes decArg resCl)) :=
  fn_box_at (mk := argMk) (c := bodyOf Try.f139) Try.func139 (by kernel_rfl) (by kernel_rfl) decArg_ok (fun h => argMk_le h) fun cs x hp => match cs, hp with
  | [y], hp => by
    simp only [preCl, Bool.and_eq_true] at hp
    obtain ⟨⟨h1, h2⟩, h3, h4⟩ := hp
    refine ⟨[ptsF (unPts y)], ringF (unRing x), _, _, ⟨(pts_eqv h1).1, trivial⟩, (ring_eqv h2).1, t139 (unPts y) (unRing x) _ (by
      unfold G139 T139
      rw [unRing_agg, unRing_agg, isRing_agg, isRing_agg, h3, h4]
      rfl), .refl _, ⟨(pts_eqv h1).2, trivial⟩⟩
def envK5 : Env := envK4.add 139 (.shared (bxPre decArg preCl) (bxRes decArg resCl))
theorem envK5_ok : EnvOK Try.prog envK5 := (Env.add_ok envK4_ok okCl)
end
end Go.Proofs.Ytmambbfnjbdfgaa.R

namespace Go.Proofs.Ytmambbfnjbdfgaa.R
open Go
noncomputable section
set_option linter.unusedVariables false
set_option linter.unusedSimpArgs false
set_option maxRecDepth 100000
/-! ### function 152 -/
def S152_2 (q : List Pt) (l : List (List Pt)) (n : Int) (i : Int) : St := ⟨[(U.f (ringsF l)), (U.fn 139 [U.hp 0 0]), .bad, .bad, .bad, .bad, .bad, (U.f (F.int .i64 n)), (U.f (F.int .i64 i)), .bad, .bad, .bad, .bad, .bad, .bad, .bad, .bad, .bad, .bad], [HO.box [(U.f (ptsF q))]]⟩
def T152_2 {ρ : Type} (ret : (Int) → Option ρ) (c2 : (List Pt) → (List (List Pt)) → (Int) → (Int) → Option ρ) (q : List Pt) (l : List (List Pt)) (n : Int) (i : Int) : Option ρ :=
 (bsel (decide (i < n))
 (bsel (decide (0 ≤ i))
 (bsel (decide (i < (↑l.length : Int)))
 (bsel (isPts (ptsF q) && isRing (F.agg [ptsF (l.getD i.toNat [])]) && (rightV (unPts (ptsF q)) && rightV (unRing (F.agg [ptsF (l.getD i.toNat [])]))))
 (bsel (ringsV (unPts (ptsF q)) (unRing (F.agg [ptsF (l.getD i.toNat [])])))
 (ret (i))
 (c2 (q) (l) (n) (IntKind.i64.wrap (i + 1))))
 none)
 none)
 none)
 (ret (-1)))
def L152_2 : Nat → (List Pt) → (List (List Pt)) → (Int) → (Int) → Option (Int)
  | 0, _, _, _, _ => none
  | k + 1, q, l, n, i => T152_2 some (L152_2 k) q l n i
def T152 {ρ : Type} (ret : (Int) → Option ρ) (c2 : (List Pt) → (List (List Pt)) → (Int) → (Int) → Option ρ) (q : List Pt) (l : List (List Pt)) : Option ρ :=
 (c2 (q) (l) ((↑l.length : Int)) (0))
def G152 (k : Nat) (q : List Pt) (l : List (List Pt)) : Option (Int) := T152 some (L152_2 k) q l
theorem t152_2 : ∀ (k : Nat) (q : List Pt) (l : List (List Pt)) (n : Int) (i : Int) (res : Int), L152_2 k q l n i = some res → EndsN Try.prog 1 Try.f152.results.toList (at_ Try.f152 2) (S152_2 q l n i) (F.tup [F.int .i64 res, F.agg [ptsF q]])
  | 0, _, _, _, _, _, h => nomatch h
  | k + 1, q, l, n, i, res, h => by
    refine Ends.of_cut tyOK envK5_ok (T := [(2, [0, 1, 7, 8], 1000)]) (n := 200) ?_
    have e : runCut Try.prog (tiOf Try.prog) envK5 [(2, [0, 1, 7, 8], 1000)] 1 Try.f152.results.toList some 200 (at_ Try.f152 2) (S152_2 q l n i) = T152_2 (fun res => some (.ret (F.tup [F.int .i64 res, F.agg [ptsF q]]))) (fun q l n i => some (.cut (at_ Try.f152 2) (S152_2 q l n i))) q l n i := by kernel_rfl
    rw [e]
    exact (good_sel h (fun _ h => (good_sel h (fun _ h => (good_sel h (fun _ h => (good_sel h (fun _ h => (good_sel h (fun _ h => good_ret (by cases h; rfl)) (fun _ h => good_cut (t152_2 k _ _ _ _ res h)))) (fun _ h => nomatch h))) (fun _ h => nomatch h))) (fun _ h => nomatch h))) (fun _ h => good_ret (by cases h; rfl)))
theorem t152 (k : Nat) (q : List Pt) (l : List (List Pt)) (res : Int) (h : G152 k q l = some res) : EndsN Try.prog 1 Try.f152.results.toList [.code (bodyOf Try.f152)] (startN Try.f152.ntmps [U.f (ringsF l), (U.fn 139 [U.hp 0 0])] [HO.box [(U.f (ptsF q))]]) (F.tup [F.int .i64 res, F.agg [ptsF q]]) := by
  refine Ends.of_run tyOK envK5_ok (T := [(2, [0, 1, 7, 8], 1000)]) (n := 200) ?_
  have e : run Try.prog (tiOf Try.prog) envK5 [(2, [0, 1, 7, 8], 1000)] 1 Try.f152.results.toList some 200 [.code (bodyOf Try.f152)] (startN Try.f152.ntmps [U.f (ringsF l), (U.fn 139 [U.hp 0 0])] [HO.box [(U.f (ptsF q))]]) = T152 (fun res => some (.ret (F.tup [F.int .i64 res, F.agg [ptsF q]]))) (fun q l n i => some (.cut (at_ Try.f152 2) (S152_2 q l n i))) q l := by kernel_rfl
  rw [e]
  exact good_cut (t152_2 k _ _ _ _ res h)
def hitGo (q : List Pt) : List (List Pt) → Nat → Int
  | [], _ => -1
  | p :: r, i => bif ringsV q p then (i : Int) else hitGo q r (i + 1)
def anyHit (q : List Pt) (l : List (List Pt)) : Bool := l.any (ringsV q)
theorem hit_any (q : List Pt) : ∀ (l : List (List Pt)) (i : Nat), decide (hitGo q l i ≥ 0) = anyHit q l
  | [], i => rfl
  | p :: r, i => by
    unfold anyHit hitGo
    rw [List.any_cons]
    cases ringsV q p with
    | true => rw [cond_true, decide_eq_true (by omega)]; rfl
    | false => rw [cond_false, hit_any q r (i + 1)]; rfl
theorem hit_loop {q : List Pt} {l : List (List Pt)} (hn : l.length ≤ 1000) (hq : rightV q = true) (hl : ∀ p ∈ l, rightV p = true) : ∀ (d i k : Nat), i + d = l.length → d + 1 ≤ k → L152_2 k q l l.length i = some (hitGo q (l.drop i) i)
  | d, i, 0, _, hk => by omega
  | 0, i, k + 1, hi, hk => by
    rw [L152_2]
    unfold T152_2
    rw [decide_eq_false (show ¬ (i : Int) < l.length by omega), List.drop_eq_nil_of_le (by omega)]
    rfl
  | d + 1, i, k + 1, hi, hk => by
    have hlt : i < l.length := by omega
    have hg : l.getD i [] = l[i] := by simp [List.getD, List.getElem?_eq_getElem hlt]
    have wi : IntKind.i64.wrap ((i : Int) + 1) = ((i + 1 : Nat) : Int) := by rw [wrapI (by omega) (by omega)]; omega
    rw [L152_2]
    unfold T152_2
    rw [decide_eq_true (show (i : Int) < l.length by omega), decide_eq_true (show (0 : Int) ≤ i by omega), Int.toNat_natCast, hg, wi, hit_loop hn hq hl d (i + 1) k (by omega) (by omega), List.drop_eq_getElem_cons hlt, hitGo, unRing_agg, isRing_agg, isPts_ptsF, unPts_ptsF, hq, hl _ (List.getElem_mem hlt)]
    simp only [bsel_true, Bool.and_self]
    cases ringsV q l[i] <;> rfl
def isRights (l : List (List Pt)) : Bool := l.all rightV && decide (l.length ≤ 1000)
theorem isRights_iff {l : List (List Pt)} : isRights l = true ↔ (∀ p ∈ l, rightV p = true) ∧ l.length ≤ 1000 := by
  unfold isRights
  rw [Bool.and_eq_true, List.all_eq_true, decide_eq_true_eq]
def preIdxF : List F → F → Bool | [y], x => isPts y && isRings x && (rightV (unPts y) && isRights (unRings x)) | _, _ => false
def resIdxF : List F → F → F × List F | [y], x => (.int .i64 (hitGo (unPts y) (unRings x) 0), [y]) | cs, _ => (.dflt, cs)
theorem okIdxF : SpOK Try.prog 152 (.shared (bxPre (decFn 139) preIdxF) (bxRes (decFn 139) resIdxF)) :=
  fn_box_at (mk := fnMk 139) (c := bodyOf Try.f152) Try.func152 (by kernel_rfl) (by kernel_rfl) (decFn_ok _) (fun h => fnMk_le h) fun cs x hp => match cs, hp with
  | [y], hp => by
    simp only [preIdxF, Bool.and_eq_true] at hp
    obtain ⟨⟨h1, h2⟩, h3, h4⟩ := hp
    obtain ⟨h5, h6⟩ := isRights_iff.1 h4
    exact ⟨[ptsF (unPts y)], ringsF (unRings x), _, _, ⟨(pts_eqv h1).1, trivial⟩, (rings_eqv h2).1, t152 2000 (unPts y) (unRings x) _ (hit_loop h6 h3 h5 (unRings x).length 0 2000 (by omega) (by omega)), .refl _, ⟨(pts_eqv h1).2, trivial⟩⟩
def envK6 : Env := envK5.add 152 (.shared (bxPre (decFn 139) preIdxF) (bxRes (decFn 139) resIdxF))
theorem envK6_ok : EnvOK Try.prog envK6 := (Env.add_ok envK5_ok okIdxF)
end
end Go.Proofs.Ytmambbfnjbdfgaa.R

namespace Go.Proofs.Ytmambbfnjbdfgaa.R
open Go
noncomputable section
set_option linter.unusedVariables false
set_option linter.unusedSimpArgs false
set_option maxRecDepth 100000
/-! ### function 138 -/
def T138 {ρ : Type} (ret : (Bool) → Option ρ) (q : List Pt) (l : List (List Pt)) : Option ρ :=
 (bsel (isPts (ptsF q) && isRings (ringsF l) && (rightV (unPts (ptsF q)) && isRights (unRings (ringsF l))))
 (ret (decide (hitGo (unPts (ptsF q)) (unRings (ringsF l)) 0 ≥ 0)))
 none)
def G138 (q : List Pt) (l : List (List Pt)) : Option (Bool) := T138 some q l
theorem t138 (q : List Pt) (l : List (List Pt)) (res : Bool) (h : G138 q l = some res) : EndsN Try.prog 1 Try.f138.results.toList [.code (bodyOf Try.f138)] (startN Try.f138.ntmps [U.f (ringsF l), (U.fn 139 [U.hp 0 0])] [HO.box [(U.f (ptsF q))]]) (F.tup [F.bool res, F.agg [ptsF q]]) := by
  refine Ends.of_run tyOK envK6_ok (T := []) (n := 200) ?_
  have e : run Try.prog (tiOf Try.prog) envK6 [] 1 Try.f138.results.toList some 200 [.code (bodyOf Try.f138)] (startN Try.f138.ntmps [U.f (ringsF l), (U.fn 139 [U.hp 0 0])] [HO.box [(U.f (ptsF q))]]) = T138 (fun res => some (.ret (F.tup [F.bool res, F.agg [ptsF q]]))) q l := by kernel_rfl
  rw [e]
  exact (good_sel h (fun _ h => good_ret (by cases h; rfl)) (fun _ h => nomatch h))
def resHasF : List F → F → F × List F | [y], x => (.bool (anyHit (unPts y) (unRings x)), [y]) | cs, _ => (.dflt, cs)
theorem okHasF : SpOK Try.prog 138 (.shared (bxPre (decFn 139) preIdxF) (bxRes (decFn 139) resHasF)) :=
  fn_box_at (mk := fnMk 139) (c := bodyOf Try.f138) Try.func138 (by kernel_rfl) (by kernel_rfl) (decFn_ok _) (fun h => fnMk_le h) fun cs x hp => match cs, hp with
  | [y], hp => by
    simp only [preIdxF, Bool.and_eq_true] at hp
    obtain ⟨⟨h1, h2⟩, h3, h4⟩ := hp
    exact ⟨[ptsF (unPts y)], ringsF (unRings x), _, _, ⟨(pts_eqv h1).1, trivial⟩, (rings_eqv h2).1, t138 (unPts y) (unRings x) (anyHit (unPts y) (unRings x)) (by
      unfold G138 T138
      rw [isPts_ptsF, unPts_ptsF, isRings_ringsF, unRings_ringsF, h3, h4, hit_any]
      rfl), .refl _, ⟨(pts_eqv h1).2, trivial⟩⟩
def envK7 : Env := envK6.add 138 (.shared (bxPre (decFn 139) preIdxF) (bxRes (decFn 139) resHasF))
theorem envK7_ok : EnvOK Try.prog envK7 := (Env.add_ok envK6_ok okHasF)
end
end Go.Proofs.Ytmambbfnjbdfgaa.R

namespace Go.Proofs.Ytmambbfnjbdfgaa.R
open Go
noncomputable section
set_option linter.unusedVariables false
set_option linter.unusedSimpArgs false
set_option maxRecDepth 100000
set_option maxHeartbeats 1000000
def sumGo : List (List Pt) → Int → Int
  | [], s => s
  | r :: l, s => sumGo l (IntKind.i64.wrap (s + (r.length : Int)))
def spotsV (l : List (List Pt)) : Int := sumGo l 0
/-! ### function 136 -/
def S136_3 (l : List (List Pt)) (s : Int) (n : Int) (i : Int) : St := ⟨[.bad, .bad, .bad, (U.f (F.int .i64 s)), .bad, .bad, (U.f (ringsF l)), (U.f (F.int .i64 n)), (U.f (F.int .i64 i)), .bad, .bad, .bad, .bad, .bad, .bad, .bad, .bad, .bad, .bad], []⟩
def T136_3 {ρ : Type} (ret : (Int) → Option ρ) (c3 : (List (List Pt)) → (Int) → (Int) → (Int) → Option ρ) (l : List (List Pt)) (s : Int) (n : Int) (i : Int) : Option ρ :=
 (bsel (decide (i < n))
 (bsel (decide (0 ≤ i))
 (bsel (decide (i < (↑l.length : Int)))
 (c3 (l) (IntKind.i64.wrap (s + (↑(l.getD i.toNat []).length : Int))) (n) (IntKind.i64.wrap (i + 1)))
 none)
 none)
 (ret (s)))
def L136_3 : Nat → (List (List Pt)) → (Int) → (Int) → (Int) → Option (Int)
  | 0, _, _, _, _ => none
  | k + 1, l, s, n, i => T136_3 some (L136_3 k) l s n i
def T136 {ρ : Type} (ret : (Int) → Option ρ) (c3 : (List (List Pt)) → (Int) → (Int) → (Int) → Option ρ) (l : List (List Pt)) : Option ρ :=
 (c3 (l) (0) ((↑l.length : Int)) (0))
def G136 (k : Nat) (l : List (List Pt)) : Option (Int) := T136 some (L136_3 k) l
theorem t136_3 : ∀ (k : Nat) (l : List (List Pt)) (s : Int) (n : Int) (i : Int) (r : Int), L136_3 k l s n i = some r → Ends Try.prog Try.f136.results.toList (at_ Try.f136 3) (S136_3 l s n i) (F.int .i64 r)
  | 0, _, _, _, _, _, h => nomatch h
  | k + 1, l, s, n, i, r, h => by
    refine Ends.of_cut tyOK envK7_ok (T := [(3, [3, 6, 7, 8], 1000)]) (n := 200) ?_
    have e : runCut Try.prog (tiOf Try.prog) envK7 [(3, [3, 6, 7, 8], 1000)] 0 Try.f136.results.toList some 200 (at_ Try.f136 3) (S136_3 l s n i) = T136_3 (fun r => some (.ret (F.int .i64 r))) (fun l s n i => some (.cut (at_ Try.f136 3) (S136_3 l s n i))) l s n i := by kernel_rfl
    rw [e]
    exact (good_sel h (fun _ h => (good_sel h (fun _ h => (good_sel h (fun _ h => good_cut (t136_3 k _ _ _ _ r h)) (fun _ h => nomatch h))) (fun _ h => nomatch h))) (fun _ h => good_ret (by cases h; rfl)))
theorem t136 (k : Nat) (l : List (List Pt)) (r : Int) (h : G136 k l = some r) : Ends Try.prog Try.f136.results.toList [.code (bodyOf Try.f136)] (start Try.f136.ntmps ([ringsF l].map .f)) (F.int .i64 r) := by
  refine Ends.of_run tyOK envK7_ok (T := [(3, [3, 6, 7, 8], 1000)]) (n := 200) ?_
  have e : run Try.prog (tiOf Try.prog) envK7 [(3, [3, 6, 7, 8], 1000)] 0 Try.f136.results.toList some 200 [.code (bodyOf Try.f136)] (start Try.f136.ntmps ([ringsF l].map .f)) = T136 (fun r => some (.ret (F.int .i64 r))) (fun l s n i => some (.cut (at_ Try.f136 3) (S136_3 l s n i))) l := by kernel_rfl
  rw [e]
  exact good_cut (t136_3 k _ _ _ _ r h)
theorem spots_in_loop {l : List (List Pt)} (hn : l.length ≤ 1000) : ∀ (d i k : Nat) (s : Int), i + d = l.length → d + 1 ≤ k → L136_3 k l s l.length i = some (sumGo (l.drop i) s)
  | d, i, 0, _, _, hk => by omega
  | 0, i, k + 1, s, hi, hk => by
    rw [L136_3]
    unfold T136_3
    rw [decide_eq_false (show ¬ (i : Int) < l.length by omega), List.drop_eq_nil_of_le (by omega)]
    rfl
  | d + 1, i, k + 1, s, hi, hk => by
    have hlt : i < l.length := by omega
    have hg : l.getD i [] = l[i] := by simp [List.getD, List.getElem?_eq_getElem hlt]
    have wi : IntKind.i64.wrap ((i : Int) + 1) = ((i + 1 : Nat) : Int) := by rw [wrapI (by omega) (by omega)]; omega
    rw [L136_3]
    unfold T136_3
    rw [decide_eq_true (show (i : Int) < l.length by omega), decide_eq_true (show (0 : Int) ≤ i by omega), Int.toNat_natCast, hg, wi, spots_in_loop hn d (i + 1) k _ (by omega) (by omega), List.drop_eq_getElem_cons hlt, sumGo]
    rfl
def isFew (l : List (List Pt)) : Bool := decide (l.length ≤ 1000)
def preSpotsIn : List F → Bool | [x] => isRings x && isFew (unRings x) | _ => false
def resSpotsIn : List F → F | [x] => .int .i64 (spotsV (unRings x)) | _ => .dflt
theorem okSpotsIn : PureOK Try.prog 136 preSpotsIn resSpotsIn :=
  fn_pure_at (c := bodyOf Try.f136) Try.func136 (by kernel_rfl) (by kernel_rfl) fun xs hp => match xs, hp with
  | [x], hp => by
    simp only [preSpotsIn, Bool.and_eq_true] at hp
    have h : (unRings x).length ≤ 1000 := of_decide_eq_true hp.2
    exact ⟨[ringsF (unRings x)], _, ⟨(rings_eqv hp.1).1, trivial⟩, t136 2000 _ _ (spots_in_loop h (unRings x).length 0 2000 0 (by omega) (by omega)), .refl _⟩
def badGo : List (List Pt) → Nat → Int × Int → Int × Int
  | [], _, R => R
  | r :: l, i, R => bif fault3V r != 0 then (IntKind.i64.wrap (10 + fault3V r), (i : Int)) else badGo l (i + 1) R
def meetGo (l : List (List Pt)) : Nat → Nat → Int × Int
  | 0, _ => (0, 0)
  | d + 1, i => bif anyHit (l.getD i []) (l.take i) then (3, (i : Int)) else meetGo l d (i + 1)
def layerP (l : List (List Pt)) : Int × Int := bif decide (l.length > 6) then (1, 0) else bif decide (spotsV l > 20) then (2, 0) else badGo l 0 (meetGo l l.length 0)
/-! ### function 101 -/
def S101_5 (l : List (List Pt)) (s : Int) (i : Int) : St := ⟨[(U.f (ringsF l)), .bad, .bad, .bad, (U.f (F.int .i64 s)), (U.f (F.int .i64 i)), .bad, .bad, .bad, .bad, .bad, .bad, .bad, .bad, .bad, .bad, .bad, .bad, .bad, .bad, .bad, .bad, .bad, .bad, .bad, .bad, .bad, .bad, .bad, .bad, .bad, .bad, .bad, .bad, .bad, .bad, .bad, .bad, .bad, .bad, .bad, .bad, .bad, .bad, .bad, .bad, .bad, .bad, .bad, .bad, .bad, .bad, .bad, .bad, .bad, .bad, .bad, .bad, .bad, .bad, .bad, .bad, .bad, .bad, .bad, .bad], []⟩
def S101_11 (l : List (List Pt)) (i : Int) : St := ⟨[(U.f (ringsF l)), .bad, .bad, .bad, .bad, .bad, (U.f (F.int .i64 i)), .bad, .bad, .bad, .bad, .bad, .bad, .bad, .bad, .bad, .bad, .bad, .bad, .bad, .bad, .bad, .bad, .bad, .bad, .bad, .bad, .bad, .bad, .bad, .bad, .bad, .bad, .bad, .bad, .bad, .bad, .bad, .bad, .bad, .bad, .bad, .bad, .bad, .bad, .bad, .bad, .bad, .bad, .bad, .bad, .bad, .bad, .bad, .bad, .bad, .bad, .bad, .bad, .bad, .bad, .bad, .bad, .bad, .bad, .bad], []⟩
def S101_17 (l : List (List Pt)) (i : Int) : St := ⟨[(U.f (ringsF l)), .bad, .bad, .bad, .bad, .bad, .bad, .bad, (U.f (F.int .i64 i)), .bad, .bad, .bad, .bad, .bad, .bad, .bad, .bad, .bad, .bad, .bad, .bad, .bad, .bad, .bad, .bad, .bad, .bad, .bad, .bad, .bad, .bad, .bad, .bad, .bad, .bad, .bad, .bad, .bad, .bad, .bad, .bad, .bad, .bad, .bad, .bad, .bad, .bad, .bad, .bad, .bad, .bad, .bad, .bad, .bad, .bad, .bad, .bad, .bad, .bad, .bad, .bad, .bad, .bad, .bad, .bad, .bad], []⟩
def S101_20 (l : List (List Pt)) (i : Int) (j : Int) : St := ⟨[(U.f (ringsF l)), .bad, .bad, .bad, .bad, .bad, .bad, .bad, (U.f (F.int .i64 i)), (U.f (F.int .i64 j)), .bad, .bad, .bad, .bad, .bad, .bad, .bad, .bad, .bad, .bad, .bad, .bad, .bad, .bad, .bad, .bad, .bad, .bad, .bad, .bad, .bad, .bad, .bad, .bad, .bad, .bad, .bad, .bad, .bad, .bad, .bad, .bad, .bad, .bad, .bad, .bad, .bad, .bad, .bad, .bad, .bad, .bad, .bad, .bad, .bad, .bad, .bad, .bad, .bad, .bad, .bad, .bad, .bad, .bad, .bad, .bad], []⟩
def T101_5 {ρ : Type} (ret : (Int) → (Int) → Option ρ) (c5 : (List (List Pt)) → (Int) → (Int) → Option ρ) (c11 : (List (List Pt)) → (Int) → Option ρ) (c17 : (List (List Pt)) → (Int) → Option ρ) (c20 : (List (List Pt)) → (Int) → (Int) → Option ρ) (l : List (List Pt)) (s : Int) (i : Int) : Option ρ :=
 (bsel (decide (i < (↑l.length : Int)))
 (bsel (decide (0 ≤ i))
 (bsel (decide (i < (↑l.length : Int)))
 (c5 (l) (IntKind.i64.wrap (s + (↑(lenOf ((List.drop 0 (ringF (l.getD i.toNat [])).cells).headD F.dflt)) : Int))) (IntKind.i64.wrap (i + 1)))
 none)
 none)
 (bsel (decide (s > 20))
 (ret (2) (0))
 (c11 (l) (0))))
def T101_11 {ρ : Type} (ret : (Int) → (Int) → Option ρ) (c5 : (List (List Pt)) → (Int) → (Int) → Option ρ) (c11 : (List (List Pt)) → (Int) → Option ρ) (c17 : (List (List Pt)) → (Int) → Option ρ) (c20 : (List (List Pt)) → (Int) → (Int) → Option ρ) (l : List (List Pt)) (i : Int) : Option ρ :=
 (bsel (decide (i < (↑l.length : Int)))
 (bsel (decide (0 ≤ i))
 (bsel (decide (i < (↑l.length : Int)))
 (bsel (isRing (F.agg [ptsF (l.getD i.toNat [])]))
 (bsel (fault3V (unRing (F.agg [ptsF (l.getD i.toNat [])])) != 0)
 (ret (IntKind.i64.wrap (10 + fault3V (unRing (F.agg [ptsF (l.getD i.toNat [])])))) (i))
 (c11 (l) (IntKind.i64.wrap (i + 1))))
 none)
 none)
 none)
 (c17 (l) (0)))
def T101_17 {ρ : Type} (ret : (Int) → (Int) → Option ρ) (c5 : (List (List Pt)) → (Int) → (Int) → Option ρ) (c11 : (List (List Pt)) → (Int) → Option ρ) (c17 : (List (List Pt)) → (Int) → Option ρ) (c20 : (List (List Pt)) → (Int) → (Int) → Option ρ) (l : List (List Pt)) (i : Int) : Option ρ :=
 (bsel (decide (i < (↑l.length : Int)))
 (c20 (l) (i) (0))
 (ret (0) (0)))
def T101_20 {ρ : Type} (ret : (Int) → (Int) → Option ρ) (c5 : (List (List Pt)) → (Int) → (Int) → Option ρ) (c11 : (List (List Pt)) → (Int) → Option ρ) (c17 : (List (List Pt)) → (Int) → Option ρ) (c20 : (List (List Pt)) → (Int) → (Int) → Option ρ) (l : List (List Pt)) (i : Int) (j : Int) : Option ρ :=
 (bsel (decide (j < i))
 (bsel (decide (0 ≤ i))
 (bsel (decide (i < (↑l.length : Int)))
 (bsel (decide (0 ≤ j))
 (bsel (decide (j < (↑l.length : Int)))
 (bsel (isRing (F.agg [ptsF (l.getD i.toNat [])]) && isRing (F.agg [ptsF (l.getD j.toNat [])]) && (rightV (unRing (F.agg [ptsF (l.getD i.toNat [])])) && rightV (unRing (F.agg [ptsF (l.getD j.toNat [])]))))
 (bsel (ringsV (unRing (F.agg [ptsF (l.getD i.toNat [])])) (unRing (F.agg [ptsF (l.getD j.toNat [])])))
 (ret (3) (i))
 (c20 (l) (i) (IntKind.i64.wrap (j + 1))))
 none)
 none)
 none)
 none)
 none)
 (c17 (l) (IntKind.i64.wrap (i + 1))))
mutual
def L101_5 : Nat → (List (List Pt)) → (Int) → (Int) → Option ((Int) × (Int))
  | 0, _, _, _ => none
  | k + 1, l, s, i => T101_5 (fun a b => some (a, b)) (L101_5 k) (L101_11 k) (L101_17 k) (L101_20 k) l s i
def L101_11 : Nat → (List (List Pt)) → (Int) → Option ((Int) × (Int))
  | 0, _, _ => none
  | k + 1, l, i => T101_11 (fun a b => some (a, b)) (L101_5 k) (L101_11 k) (L101_17 k) (L101_20 k) l i
def L101_17 : Nat → (List (List Pt)) → (Int) → Option ((Int) × (Int))
  | 0, _, _ => none
  | k + 1, l, i => T101_17 (fun a b => some (a, b)) (L101_5 k) (L101_11 k) (L101_17 k) (L101_20 k) l i
def L101_20 : Nat → (List (List Pt)) → (Int) → (Int) → Option ((Int) × (Int))
  | 0, _, _, _ => none
  | k + 1, l, i, j => T101_20 (fun a b => some (a, b)) (L101_5 k) (L101_11 k) (L101_17 k) (L101_20 k) l i j
end
def T101 {ρ : Type} (ret : (Int) → (Int) → Option ρ) (c5 : (List (List Pt)) → (Int) → (Int) → Option ρ) (c11 : (List (List Pt)) → (Int) → Option ρ) (c17 : (List (List Pt)) → (Int) → Option ρ) (c20 : (List (List Pt)) → (Int) → (Int) → Option ρ) (l : List (List Pt)) : Option ρ :=
 (bsel (decide ((↑l.length : Int) > 6))
 (ret (1) (0))
 (c5 (l) (0) (0)))
def G101 (k : Nat) (l : List (List Pt)) : Option ((Int) × (Int)) := T101 (fun a b => some (a, b)) (L101_5 k) (L101_11 k) (L101_17 k) (L101_20 k) l
mutual
theorem t101_5 : ∀ (k : Nat) (l : List (List Pt)) (s : Int) (i : Int) (a : Int) (b : Int), L101_5 k l s i = some (a, b) → Ends Try.prog Try.f101.results.toList (at_ Try.f101 5) (S101_5 l s i) (F.tup [F.int .i64 a, F.int .i64 b])
  | 0, _, _, _, _, _, h => nomatch h
  | k + 1, l, s, i, a, b, h => by
    refine Ends.of_cut tyOK envK7_ok (T := [(5, [0, 4, 5], 1000), (11, [0, 6], 1000), (17, [0, 8], 1000), (20, [0, 8, 9], 1000)]) (n := 200) ?_
    have e : runCut Try.prog (tiOf Try.prog) envK7 [(5, [0, 4, 5], 1000), (11, [0, 6], 1000), (17, [0, 8], 1000), (20, [0, 8, 9], 1000)] 0 Try.f101.results.toList some 200 (at_ Try.f101 5) (S101_5 l s i) = T101_5 (fun a b => some (.ret (F.tup [F.int .i64 a, F.int .i64 b]))) (fun l s i => some (.cut (at_ Try.f101 5) (S101_5 l s i))) (fun l i => some (.cut (at_ Try.f101 11) (S101_11 l i))) (fun l i => some (.cut (at_ Try.f101 17) (S101_17 l i))) (fun l i j => some (.cut (at_ Try.f101 20) (S101_20 l i j))) l s i := by kernel_rfl
    rw [e]
    exact (good_sel h (fun _ h => (good_sel h (fun _ h => (good_sel h (fun _ h => good_cut (t101_5 k _ _ _ a b h)) (fun _ h => nomatch h))) (fun _ h => nomatch h))) (fun _ h => (good_sel h (fun _ h => good_ret (by cases h; rfl)) (fun _ h => good_cut (t101_11 k _ _ a b h)))))
theorem t101_11 : ∀ (k : Nat) (l : List (List Pt)) (i : Int) (a : Int) (b : Int), L101_11 k l i = some (a, b) → Ends Try.prog Try.f101.results.toList (at_ Try.f101 11) (S101_11 l i) (F.tup [F.int .i64 a, F.int .i64 b])
  | 0, _, _, _, _, h => nomatch h
  | k + 1, l, i, a, b, h => by
    refine Ends.of_cut tyOK envK7_ok (T := [(5, [0, 4, 5], 1000), (11, [0, 6], 1000), (17, [0, 8], 1000), (20, [0, 8, 9], 1000)]) (n := 200) ?_
    have e : runCut Try.prog (tiOf Try.prog) envK7 [(5, [0, 4, 5], 1000), (11, [0, 6], 1000), (17, [0, 8], 1000), (20, [0, 8, 9], 1000)] 0 Try.f101.results.toList some 200 (at_ Try.f101 11) (S101_11 l i) = T101_11 (fun a b => some (.ret (F.tup [F.int .i64 a, F.int .i64 b]))) (fun l s i => some (.cut (at_ Try.f101 5) (S101_5 l s i))) (fun l i => some (.cut (at_ Try.f101 11) (S101_11 l i))) (fun l i => some (.cut (at_ Try.f101 17) (S101_17 l i))) (fun l i j => some (.cut (at_ Try.f101 20) (S101_20 l i j))) l i := by kernel_rfl
    rw [e]
    exact (good_sel h (fun _ h => (good_sel h (fun _ h => (good_sel h (fun _ h => (good_sel h (fun _ h => (good_sel h (fun _ h => good_ret (by cases h; rfl)) (fun _ h => good_cut (t101_11 k _ _ a b h)))) (fun _ h => nomatch h))) (fun _ h => nomatch h))) (fun _ h => nomatch h))) (fun _ h => good_cut (t101_17 k _ _ a b h)))
theorem t101_17 : ∀ (k : Nat) (l : List (List Pt)) (i : Int) (a : Int) (b : Int), L101_17 k l i = some (a, b) → Ends Try.prog Try.f101.results.toList (at_ Try.f101 17) (S101_17 l i) (F.tup [F.int .i64 a, F.int .i64 b])
  | 0, _, _, _, _, h => nomatch h
  | k + 1, l, i, a, b, h => by
    refine Ends.of_cut tyOK envK7_ok (T := [(5, [0, 4, 5], 1000), (11, [0, 6], 1000), (17, [0, 8], 1000), (20, [0, 8, 9], 1000)]) (n := 200) ?_
    have e : runCut Try.prog (tiOf Try.prog) envK7 [(5, [0, 4, 5], 1000), (11, [0, 6], 1000), (17, [0, 8], 1000), (20, [0, 8, 9], 1000)] 0 Try.f101.results.toList some 200 (at_ Try.f101 17) (S101_17 l i) = T101_17 (fun a b => some (.ret (F.tup [F.int .i64 a, F.int .i64 b]))) (fun l s i => some (.cut (at_ Try.f101 5) (S101_5 l s i))) (fun l i => some (.cut (at_ Try.f101 11) (S101_11 l i))) (fun l i => some (.cut (at_ Try.f101 17) (S101_17 l i))) (fun l i j => some (.cut (at_ Try.f101 20) (S101_20 l i j))) l i := by kernel_rfl
    rw [e]
    exact (good_sel h (fun _ h => good_cut (t101_20 k _ _ _ a b h)) (fun _ h => good_ret (by cases h; rfl)))
theorem t101_20 : ∀ (k : Nat) (l : List (List Pt)) (i : Int) (j : Int) (a : Int) (b : Int), L101_20 k l i j = some (a, b) → Ends Try.prog Try.f101.results.toList (at_ Try.f101 20) (S101_20 l i j) (F.tup [F.int .i64 a, F.int .i64 b])
  | 0, _, _, _, _, _, h => nomatch h
  | k + 1, l, i, j, a, b, h => by
    refine Ends.of_cut tyOK envK7_ok (T := [(5, [0, 4, 5], 1000), (11, [0, 6], 1000), (17, [0, 8], 1000), (20, [0, 8, 9], 1000)]) (n := 200) ?_
    have e : runCut Try.prog (tiOf Try.prog) envK7 [(5, [0, 4, 5], 1000), (11, [0, 6], 1000), (17, [0, 8], 1000), (20, [0, 8, 9], 1000)] 0 Try.f101.results.toList some 200 (at_ Try.f101 20) (S101_20 l i j) = T101_20 (fun a b => some (.ret (F.tup [F.int .i64 a, F.int .i64 b]))) (fun l s i => some (.cut (at_ Try.f101 5) (S101_5 l s i))) (fun l i => some (.cut (at_ Try.f101 11) (S101_11 l i))) (fun l i => some (.cut (at_ Try.f101 17) (S101_17 l i))) (fun l i j => some (.cut (at_ Try.f101 20) (S101_20 l i j))) l i j := by kernel_rfl
    rw [e]
    exact (good_sel h (fun _ h => (good_sel h (fun _ h => (good_sel h (fun _ h => (good_sel h (fun _ h => (good_sel h (fun _ h => (good_sel h (fun _ h => (good_sel h (fun _ h => good_ret (by cases h; rfl)) (fun _ h => good_cut (t101_20 k _ _ _ a b h)))) (fun _ h => nomatch h))) (fun _ h => nomatch h))) (fun _ h => nomatch h))) (fun _ h => nomatch h))) (fun _ h => nomatch h))) (fun _ h => good_cut (t101_17 k _ _ a b h)))
end
theorem t101 (k : Nat) (l : List (List Pt)) (a : Int) (b : Int) (h : G101 k l = some (a, b)) : Ends Try.prog Try.f101.results.toList [.code (bodyOf Try.f101)] (start Try.f101.ntmps ([ringsF l].map .f)) (F.tup [F.int .i64 a, F.int .i64 b]) := by
  refine Ends.of_run tyOK envK7_ok (T := [(5, [0, 4, 5], 1000), (11, [0, 6], 1000), (17, [0, 8], 1000), (20, [0, 8, 9], 1000)]) (n := 200) ?_
  have e : run Try.prog (tiOf Try.prog) envK7 [(5, [0, 4, 5], 1000), (11, [0, 6], 1000), (17, [0, 8], 1000), (20, [0, 8, 9], 1000)] 0 Try.f101.results.toList some 200 [.code (bodyOf Try.f101)] (start Try.f101.ntmps ([ringsF l].map .f)) = T101 (fun a b => some (.ret (F.tup [F.int .i64 a, F.int .i64 b]))) (fun l s i => some (.cut (at_ Try.f101 5) (S101_5 l s i))) (fun l i => some (.cut (at_ Try.f101 11) (S101_11 l i))) (fun l i => some (.cut (at_ Try.f101 17) (S101_17 l i))) (fun l i j => some (.cut (at_ Try.f101 20) (S101_20 l i j))) l := by kernel_rfl
  rw [e]
  exact (good_sel h (fun _ h => good_ret (by cases h; rfl)) (fun _ h => good_cut (t101_5 k _ _ _ a b h)))
theorem lf20_loop {l : List (List Pt)} (hn : l.length ≤ 6) (hr : ∀ r ∈ l, rightV r = true) {i : Nat} (hi : i < l.length) {R : Int × Int} {K : Nat} (hout : ∀ k, K ≤ k → L101_17 k l ((i + 1 : Nat) : Int) = some R) :
    ∀ (d j k : Nat), j + d = i → d + 1 + K ≤ k → L101_20 k l i j = some (bif anyHit (l.getD i []) ((l.take i).drop j) then (3, (i : Int)) else R)
  | d, j, 0, _, hk => by omega
  | 0, j, k + 1, hj, hk => by
    rw [L101_20]
    unfold T101_20
    rw [decide_eq_false (show ¬ (j : Int) < i by omega), bsel_false, wrapI (by omega) (by omega), show (i : Int) + 1 = ((i + 1 : Nat) : Int) by omega, hout k (by omega), List.drop_eq_nil_of_le (by rw [List.length_take]; omega)]
    rfl
  | d + 1, j, k + 1, hj, hk => by
    have ih := lf20_loop hn hr hi hout d (j + 1) k (by omega) (by omega)
    have wj : IntKind.i64.wrap ((j : Int) + 1) = ((j + 1 : Nat) : Int) := by rw [wrapI (by omega) (by omega)]; omega
    have hjt : j < (l.take i).length := by rw [List.length_take]; omega
    have hgj : (l.take i)[j] = l.getD j [] := by simp [List.getD, List.getElem?_eq_getElem (show j < l.length by omega)]
    have ri := hr _ (getD_in (d := []) hi)
    have rj := hr _ (getD_in (d := []) (show j < l.length by omega))
    rw [L101_20]
    unfold T101_20
    simp only [decide_eq_true (show (j : Int) < i by omega), decide_eq_true (show (0 : Int) ≤ i by omega), decide_eq_true (show (i : Int) < l.length by omega), decide_eq_true (show (0 : Int) ≤ j by omega), decide_eq_true (show (j : Int) < l.length by omega), Int.toNat_natCast, unRing_agg, isRing_agg, ri, rj, wj, ih, Bool.and_self, bsel_true]
    rw [List.drop_eq_getElem_cons hjt, hgj]
    unfold anyHit
    rw [List.any_cons]
    cases ringsV (l.getD i []) (l.getD j []) <;> rfl
theorem lf17_loop {l : List (List Pt)} (hn : l.length ≤ 6) (hr : ∀ r ∈ l, rightV r = true) : ∀ (d i k : Nat), i + d = l.length → 10 * d + 1 ≤ k → L101_17 k l i = some (meetGo l d i)
  | d, i, 0, _, hk => by omega
  | 0, i, k + 1, hi, hk => by
    rw [L101_17]
    unfold T101_17
    rw [decide_eq_false (show ¬ (i : Int) < l.length by omega)]
    rfl
  | d + 1, i, k + 1, hi, hk => by
    have ih := lf20_loop hn hr (i := i) (by omega) (K := 10 * d + 1) (fun k hk => lf17_loop hn hr d (i + 1) k (by omega) hk) i 0 k (by omega) (by omega)
    rw [L101_17]
    unfold T101_17
    rw [decide_eq_true (show (i : Int) < l.length by omega), bsel_true]
    exact ih
theorem lf11_loop {l : List (List Pt)} (hn : l.length ≤ 6) {R : Int × Int} {K : Nat} (hout : (∀ r ∈ l, rightV r = true) → ∀ k, K ≤ k → L101_17 k l 0 = some R) :
    ∀ (d i k : Nat), i + d = l.length → d + 1 + K ≤ k → (∀ r ∈ l.take i, rightV r = true) → L101_11 k l i = some (badGo (l.drop i) i R)
  | d, i, 0, _, hk, _ => by omega
  | 0, i, k + 1, hi, hk, ht => by
    rw [List.take_of_length_le (by omega)] at ht
    rw [L101_11]
    unfold T101_11
    rw [decide_eq_false (show ¬ (i : Int) < l.length by omega), bsel_false, hout ht k (by omega), List.drop_eq_nil_of_le (by omega)]
    rfl
  | d + 1, i, k + 1, hi, hk, ht => by
    have hlt : i < l.length := by omega
    have hg : l.getD i [] = l[i] := by simp [List.getD, List.getElem?_eq_getElem hlt]
    have wi : IntKind.i64.wrap ((i : Int) + 1) = ((i + 1 : Nat) : Int) := by rw [wrapI (by omega) (by omega)]; omega
    rw [L101_11]
    unfold T101_11
    rw [decide_eq_true (show (i : Int) < l.length by omega), decide_eq_true (show (0 : Int) ≤ i by omega), Int.toNat_natCast, hg, wi, unRing_agg, isRing_agg, List.drop_eq_getElem_cons hlt, badGo]
    simp only [bsel_true]
    cases hf : (fault3V l[i] != 0) with
    | true => rfl
    | false =>
      have hrr : rightV l[i] = true := by
        unfold rightV
        rw [bne, Bool.not_eq_false'] at hf
        exact hf
      rw [bsel_false, cond_false, lf11_loop hn hout d (i + 1) k (by omega) (by omega) fun p hp => by
        rw [List.take_succ_eq_append_getElem hlt, List.mem_append] at hp
        rcases hp with hp | hp
        · exact ht p hp
        · simp at hp; subst hp; exact hrr]
theorem lf5_loop {l : List (List Pt)} (hn : l.length ≤ 6) {R : Int × Int} {K : Nat} (hout : ∀ k, K ≤ k → L101_11 k l 0 = some R) : ∀ (d i k : Nat) (s : Int), i + d = l.length → d + 1 + K ≤ k → L101_5 k l s i = some (bif decide (sumGo (l.drop i) s > 20) then (2, 0) else R)
  | d, i, 0, _, _, hk => by omega
  | 0, i, k + 1, s, hi, hk => by
    rw [L101_5]
    unfold T101_5
    rw [decide_eq_false (show ¬ (i : Int) < l.length by omega), bsel_false, hout k (by omega), List.drop_eq_nil_of_le (by omega), sumGo]
    cases decide (s > 20) <;> rfl
  | d + 1, i, k + 1, s, hi, hk => by
    have hlt : i < l.length := by omega
    have hg : l.getD i [] = l[i] := by simp [List.getD, List.getElem?_eq_getElem hlt]
    have wi : IntKind.i64.wrap ((i : Int) + 1) = ((i + 1 : Nat) : Int) := by rw [wrapI (by omega) (by omega)]; omega
    have e : ∀ r : List Pt, lenOf ((List.drop 0 (ringF r).cells).headD F.dflt) = r.length := fun _ => rfl
    rw [L101_5]
    unfold T101_5
    rw [decide_eq_true (show (i : Int) < l.length by omega), decide_eq_true (show (0 : Int) ≤ i by omega), Int.toNat_natCast, wi]
    simp only [e, hg, bsel_true]
    rw [lf5_loop hn hout d (i + 1) k _ (by omega) (by omega), List.drop_eq_getElem_cons hlt, sumGo]
theorem layer3_law (l : List (List Pt)) : G101 200 l = some (layerP l) := by
  unfold G101 T101 layerP
  by_cases h : l.length > 6
  · rw [decide_eq_true (show (l.length : Int) > 6 by omega), decide_eq_true h]; rfl
  · rw [decide_eq_false (show ¬ (l.length : Int) > 6 by omega), decide_eq_false h]
    exact lf5_loop (by omega) (R := badGo l 0 (meetGo l l.length 0)) (K := 100) (fun k hk => lf11_loop (by omega) (R := meetGo l l.length 0) (K := 80) (fun hr k hk => lf17_loop (by omega) hr l.length 0 k (by omega) (by omega)) l.length 0 k (by omega) (by omega) (by simp)) l.length 0 200 0 (by omega) (by omega)
def preLayer : List F → Bool | [x] => isRings x | _ => false
def resLayer : List F → F | [x] => .tup [.int .i64 (layerP (unRings x)).1, .int .i64 (layerP (unRings x)).2] | _ => .dflt
theorem okLayer3 : PureOK Try.prog 101 preLayer resLayer :=
  fn_pure_at (c := bodyOf Try.f101) Try.func101 (by kernel_rfl) (by kernel_rfl) fun xs hp => match xs, hp with
  | [x], hp => ⟨[ringsF (unRings x)], _, ⟨(rings_eqv hp).1, trivial⟩, t101 200 _ _ _ (layer3_law _), .refl _⟩
def envK8 : Env := (envK7.add 136 (.pure preSpotsIn resSpotsIn)).add 101 (.pure preLayer resLayer)
theorem envK8_ok : EnvOK Try.prog envK8 := (Env.add_ok (Env.add_ok envK7_ok okSpotsIn.sp) okLayer3.sp)
end
end Go.Proofs.Ytmambbfnjbdfgaa.R

namespace Go.Proofs.Ytmambbfnjbdfgaa.R
open Go
noncomputable section
set_option linter.unusedVariables false
set_option linter.unusedSimpArgs false
set_option maxRecDepth 100000
set_option maxHeartbeats 1000000
/-! ### function 103 -/
def S103_6 (l : List (List Pt)) (n : Int) (i : Int) : St := ⟨[(U.f (ringsF l)), .bad, .bad, .bad, .bad, .bad, .bad, .bad, .bad, .bad, .bad, .bad, .bad, .bad, .bad, .bad, .bad, (U.f (ringsF l)), (U.f (F.int .i64 n)), (U.f (F.int .i64 i)), .bad, .bad, .bad, .bad, .bad, .bad, .bad, .bad, .bad, .bad, .bad, .bad, .bad, .bad, .bad, .bad, .bad, .bad, .bad, .bad, .bad, .bad, .bad, .bad, .bad, .bad], []⟩
def S103_13 (l : List (List Pt)) (n : Int) (i : Int) : St := ⟨[(U.f (ringsF l)), .bad, .bad, .bad, .bad, .bad, .bad, .bad, .bad, .bad, .bad, .bad, .bad, .bad, .bad, .bad, .bad, .bad, .bad, .bad, .bad, .bad, .bad, .bad, .bad, .bad, .bad, .bad, .bad, .bad, .bad, .bad, (U.f (ringsF l)), (U.f (F.int .i64 n)), (U.f (F.int .i64 i)), .bad, .bad, .bad, .bad, .bad, .bad, .bad, .bad, .bad, .bad, .bad], []⟩
def T103_6 {ρ : Type} (ret : (Int) → (Int) → Option ρ) (c6 : (List (List Pt)) → (Int) → (Int) → Option ρ) (c13 : (List (List Pt)) → (Int) → (Int) → Option ρ) (l : List (List Pt)) (n : Int) (i : Int) : Option ρ :=
 (bsel (decide (i < n))
 (bsel (decide (0 ≤ i))
 (bsel (decide (i < (↑l.length : Int)))
 (bsel (isRing (F.agg [ptsF (l.getD i.toNat [])]))
 (bsel (fault3V (unRing (F.agg [ptsF (l.getD i.toNat [])])) != 0)
 (ret (IntKind.i64.wrap (10 + fault3V (unRing (F.agg [ptsF (l.getD i.toNat [])])))) (i))
 (c6 (l) (n) (IntKind.i64.wrap (i + 1))))
 none)
 none)
 none)
 (c13 (l) ((↑l.length : Int)) (0)))
def T103_13 {ρ : Type} (ret : (Int) → (Int) → Option ρ) (c6 : (List (List Pt)) → (Int) → (Int) → Option ρ) (c13 : (List (List Pt)) → (Int) → (Int) → Option ρ) (l : List (List Pt)) (n : Int) (i : Int) : Option ρ :=
 (bsel (decide (i < n))
 (bsel (decide (0 ≤ i))
 (bsel (decide (i < (↑l.length : Int)))
 (bsel (decide (0 ≤ i))
 (bsel (decide (i ≤ (↑l.length : Int)))
 (bsel (isPts (ptsF (l.getD i.toNat [])) && isRings (F.sl (i.toNat - Int.toNat 0) fun j ↦ ringF (l.getD (Int.toNat 0 + j) [])) && (rightV (unPts (ptsF (l.getD i.toNat []))) && isRights (unRings (F.sl (i.toNat - Int.toNat 0) fun j ↦ ringF (l.getD (Int.toNat 0 + j) [])))))
 (bsel ((unRings (F.sl (i.toNat - Int.toNat 0) fun j ↦ ringF (l.getD (Int.toNat 0 + j) []))).any (ringsV (unPts (ptsF (l.getD i.toNat [])))))
 (ret (3) (i))
 (c13 (l) (n) (IntKind.i64.wrap (i + 1))))
 none)
 none)
 none)
 none)
 none)
 (ret (0) (0)))
mutual
def L103_6 : Nat → (List (List Pt)) → (Int) → (Int) → Option ((Int) × (Int))
  | 0, _, _, _ => none
  | k + 1, l, n, i => T103_6 (fun a b => some (a, b)) (L103_6 k) (L103_13 k) l n i
def L103_13 : Nat → (List (List Pt)) → (Int) → (Int) → Option ((Int) × (Int))
  | 0, _, _, _ => none
  | k + 1, l, n, i => T103_13 (fun a b => some (a, b)) (L103_6 k) (L103_13 k) l n i
end
def T103 {ρ : Type} (ret : (Int) → (Int) → Option ρ) (c6 : (List (List Pt)) → (Int) → (Int) → Option ρ) (c13 : (List (List Pt)) → (Int) → (Int) → Option ρ) (l : List (List Pt)) : Option ρ :=
 (bsel (decide ((↑l.length : Int) > 6))
 (ret (1) (0))
 (bsel (isRings (ringsF l) && isFew (unRings (ringsF l)))
 (bsel (decide (spotsV (unRings (ringsF l)) > 20))
 (ret (2) (0))
 (c6 (l) ((↑l.length : Int)) (0)))
 none))
def G103 (k : Nat) (l : List (List Pt)) : Option ((Int) × (Int)) := T103 (fun a b => some (a, b)) (L103_6 k) (L103_13 k) l
mutual
theorem t103_6 : ∀ (k : Nat) (l : List (List Pt)) (n : Int) (i : Int) (a : Int) (b : Int), L103_6 k l n i = some (a, b) → Ends Try.prog Try.f103.results.toList (at_ Try.f103 6) (S103_6 l n i) (F.tup [F.int .i64 a, F.int .i64 b])
  | 0, _, _, _, _, _, h => nomatch h
  | k + 1, l, n, i, a, b, h => by
    refine Ends.of_cut tyOK envK8_ok (T := [(6, [0, 17, 18, 19], 1000), (13, [0, 32, 33, 34], 1000)]) (n := 200) ?_
    have e : runCut Try.prog (tiOf Try.prog) envK8 [(6, [0, 17, 18, 19], 1000), (13, [0, 32, 33, 34], 1000)] 0 Try.f103.results.toList some 200 (at_ Try.f103 6) (S103_6 l n i) = T103_6 (fun a b => some (.ret (F.tup [F.int .i64 a, F.int .i64 b]))) (fun l n i => some (.cut (at_ Try.f103 6) (S103_6 l n i))) (fun l n i => some (.cut (at_ Try.f103 13) (S103_13 l n i))) l n i := by kernel_rfl
    rw [e]
    exact (good_sel h (fun _ h => (good_sel h (fun _ h => (good_sel h (fun _ h => (good_sel h (fun _ h => (good_sel h (fun _ h => good_ret (by cases h; rfl)) (fun _ h => good_cut (t103_6 k _ _ _ a b h)))) (fun _ h => nomatch h))) (fun _ h => nomatch h))) (fun _ h => nomatch h))) (fun _ h => good_cut (t103_13 k _ _ _ a b h)))
theorem t103_13 : ∀ (k : Nat) (l : List (List Pt)) (n : Int) (i : Int) (a : Int) (b : Int), L103_13 k l n i = some (a, b) → Ends Try.prog Try.f103.results.toList (at_ Try.f103 13) (S103_13 l n i) (F.tup [F.int .i64 a, F.int .i64 b])
  | 0, _, _, _, _, _, h => nomatch h
  | k + 1, l, n, i, a, b, h => by
    refine Ends.of_cut tyOK envK8_ok (T := [(6, [0, 17, 18, 19], 1000), (13, [0, 32, 33, 34], 1000)]) (n := 200) ?_
    have e : runCut Try.prog (tiOf Try.prog) envK8 [(6, [0, 17, 18, 19], 1000), (13, [0, 32, 33, 34], 1000)] 0 Try.f103.results.toList some 200 (at_ Try.f103 13) (S103_13 l n i) = T103_13 (fun a b => some (.ret (F.tup [F.int .i64 a, F.int .i64 b]))) (fun l n i => some (.cut (at_ Try.f103 6) (S103_6 l n i))) (fun l n i => some (.cut (at_ Try.f103 13) (S103_13 l n i))) l n i := by kernel_rfl
    rw [e]
    exact (good_sel h (fun _ h => (good_sel h (fun _ h => (good_sel h (fun _ h => (good_sel h (fun _ h => (good_sel h (fun _ h => (good_sel h (fun _ h => (good_sel h (fun _ h => good_ret (by cases h; rfl)) (fun _ h => good_cut (t103_13 k _ _ _ a b h)))) (fun _ h => nomatch h))) (fun _ h => nomatch h))) (fun _ h => nomatch h))) (fun _ h => nomatch h))) (fun _ h => nomatch h))) (fun _ h => good_ret (by cases h; rfl)))
end
theorem t103 (k : Nat) (l : List (List Pt)) (a : Int) (b : Int) (h : G103 k l = some (a, b)) : Ends Try.prog Try.f103.results.toList [.code (bodyOf Try.f103)] (start Try.f103.ntmps ([ringsF l].map .f)) (F.tup [F.int .i64 a, F.int .i64 b]) := by
  refine Ends.of_run tyOK envK8_ok (T := [(6, [0, 17, 18, 19], 1000), (13, [0, 32, 33, 34], 1000)]) (n := 200) ?_
  have e : run Try.prog (tiOf Try.prog) envK8 [(6, [0, 17, 18, 19], 1000), (13, [0, 32, 33, 34], 1000)] 0 Try.f103.results.toList some 200 [.code (bodyOf Try.f103)] (start Try.f103.ntmps ([ringsF l].map .f)) = T103 (fun a b => some (.ret (F.tup [F.int .i64 a, F.int .i64 b]))) (fun l n i => some (.cut (at_ Try.f103 6) (S103_6 l n i))) (fun l n i => some (.cut (at_ Try.f103 13) (S103_13 l n i))) l := by kernel_rfl
  rw [e]
  exact (good_sel h (fun _ h => good_ret (by cases h; rfl)) (fun _ h => (good_sel h (fun _ h => (good_sel h (fun _ h => good_ret (by cases h; rfl)) (fun _ h => good_cut (t103_6 k _ _ _ a b h)))) (fun _ h => nomatch h))))
theorem il13_loop {l : List (List Pt)} (hn : l.length ≤ 6) (hr : ∀ r ∈ l, rightV r = true) : ∀ (d i k : Nat), i + d = l.length → d + 1 ≤ k → L103_13 k l l.length i = some (meetGo l d i)
  | d, i, 0, _, hk => by omega
  | 0, i, k + 1, hi, hk => by
    rw [L103_13]
    unfold T103_13
    rw [decide_eq_false (show ¬ (i : Int) < l.length by omega)]
    rfl
  | d + 1, i, k + 1, hi, hk => by
    have ih := il13_loop hn hr d (i + 1) k (by omega) (by omega)
    have wi : IntKind.i64.wrap ((i : Int) + 1) = ((i + 1 : Nat) : Int) := by rw [wrapI (by omega) (by omega)]; omega
    obtain ⟨u1, u2⟩ := unRings_take l i (by omega)
    have ri := hr _ (getD_in (d := []) (show i < l.length by omega))
    have hrs : isRights (l.take i) = true := isRights_iff.2 ⟨fun p hp => hr p (List.mem_of_mem_take hp), by rw [List.length_take]; omega⟩
    have hh : (l.take i).any (ringsV (l.getD i [])) = anyHit (l.getD i []) (l.take i) := rfl
    rw [L103_13]
    unfold T103_13
    simp only [decide_eq_true (show (i : Int) < l.length by omega), decide_eq_true (show (0 : Int) ≤ i by omega), decide_eq_true (show (i : Int) ≤ l.length by omega), Int.toNat_natCast, Int.toNat_zero, Nat.sub_zero, Nat.zero_add, isPts_ptsF, unPts_ptsF, u1, u2, ri, hrs, hh, wi, ih, Bool.and_self, bsel_true, meetGo]
    cases anyHit (l.getD i []) (l.take i) <;> rfl
theorem il6_loop {l : List (List Pt)} (hn : l.length ≤ 6) {R : Int × Int} {K : Nat} (hout : (∀ r ∈ l, rightV r = true) → ∀ k, K ≤ k → L103_13 k l l.length 0 = some R) :
    ∀ (d i k : Nat), i + d = l.length → d + 1 + K ≤ k → (∀ r ∈ l.take i, rightV r = true) → L103_6 k l l.length i = some (badGo (l.drop i) i R)
  | d, i, 0, _, hk, _ => by omega
  | 0, i, k + 1, hi, hk, ht => by
    rw [List.take_of_length_le (by omega)] at ht
    rw [L103_6]
    unfold T103_6
    rw [decide_eq_false (show ¬ (i : Int) < l.length by omega), bsel_false, hout ht k (by omega), List.drop_eq_nil_of_le (by omega)]
    rfl
  | d + 1, i, k + 1, hi, hk, ht => by
    have hlt : i < l.length := by omega
    have hg : l.getD i [] = l[i] := by simp [List.getD, List.getElem?_eq_getElem hlt]
    have wi : IntKind.i64.wrap ((i : Int) + 1) = ((i + 1 : Nat) : Int) := by rw [wrapI (by omega) (by omega)]; omega
    rw [L103_6]
    unfold T103_6
    rw [decide_eq_true (show (i : Int) < l.length by omega), decide_eq_true (show (0 : Int) ≤ i by omega), Int.toNat_natCast, hg, wi, unRing_agg, isRing_agg, List.drop_eq_getElem_cons hlt, badGo]
    simp only [bsel_true]
    cases hf : (fault3V l[i] != 0) with
    | true => rfl
    | false =>
      have hrr : rightV l[i] = true := by
        unfold rightV
        rw [bne, Bool.not_eq_false'] at hf
        exact hf
      rw [bsel_false, cond_false, il6_loop hn hout d (i + 1) k (by omega) (by omega) fun p hp => by
        rw [List.take_succ_eq_append_getElem hlt, List.mem_append] at hp
        rcases hp with hp | hp
        · exact ht p hp
        · simp at hp; subst hp; exact hrr]
theorem layerI_law (l : List (List Pt)) : G103 200 l = some (layerP l) := by
  unfold G103 T103 layerP
  by_cases h : l.length > 6
  · rw [decide_eq_true (show (l.length : Int) > 6 by omega), decide_eq_true h]; rfl
  · rw [decide_eq_false (show ¬ (l.length : Int) > 6 by omega), decide_eq_false h, isRings_ringsF, unRings_ringsF, show isFew l = true from decide_eq_true (by omega)]
    simp only [Bool.and_self, bsel_true, bsel_false, cond_false]
    cases decide (spotsV l > 20) with
    | true => rfl
    | false => exact il6_loop (by omega) (R := meetGo l l.length 0) (K := 80) (fun hr k hk => il13_loop (by omega) hr l.length 0 k (by omega) (by omega)) l.length 0 200 (by omega) (by omega) (by simp)
theorem okLayerI : PureOK Try.prog 103 preLayer resLayer :=
  fn_pure_at (c := bodyOf Try.f103) Try.func103 (by kernel_rfl) (by kernel_rfl) fun xs hp => match xs, hp with
  | [x], hp => ⟨[ringsF (unRings x)], _, ⟨(rings_eqv hp).1, trivial⟩, t103 200 _ _ _ (layerI_law _), .refl _⟩
def envK9 : Env := envK8.add 103 (.pure preLayer resLayer)
theorem envK9_ok : EnvOK Try.prog envK9 := (Env.add_ok envK8_ok okLayerI.sp)
end
end Go.Proofs.Ytmambbfnjbdfgaa.R

namespace Go.Proofs.Ytmambbfnjbdfgaa.R
open Go
noncomputable section
set_option linter.unusedVariables false
set_option linter.unusedSimpArgs false
set_option maxRecDepth 100000
def layerV (l : List (List Pt)) : Bool := (layerP l).1 == 0
def resLayerOk : List F → F | [x] => .bool (layerV (unRings x)) | _ => .dflt
/-! ### function 61 -/
def T61 {ρ : Type} (ret : (Bool) → Option ρ) (l : List (List Pt)) : Option ρ :=
 (bsel (isRings (ringsF l))
 (ret ((layerP (unRings (ringsF l))).fst == 0))
 none)
def G61 (l : List (List Pt)) : Option (Bool) := T61 some l
theorem t61 (l : List (List Pt)) (b : Bool) (h : G61 l = some b) : Ends Try.prog Try.f61.results.toList [.code (bodyOf Try.f61)] (start Try.f61.ntmps ([ringsF l].map .f)) (F.bool b) := by
  refine Ends.of_run tyOK envK9_ok (T := []) (n := 200) ?_
  have e : run Try.prog (tiOf Try.prog) envK9 [] 0 Try.f61.results.toList some 200 [.code (bodyOf Try.f61)] (start Try.f61.ntmps ([ringsF l].map .f)) = T61 (fun b => some (.ret (F.bool b))) l := by kernel_rfl
  rw [e]
  exact (good_sel h (fun _ h => good_ret (by cases h; rfl)) (fun _ h => nomatch h))
/-! ### function 63 -/
def T63 {ρ : Type} (ret : (Bool) → Option ρ) (l : List (List Pt)) : Option ρ :=
 (bsel (isRings (ringsF l))
 (ret ((layerP (unRings (ringsF l))).fst == 0))
 none)
def G63 (l : List (List Pt)) : Option (Bool) := T63 some l
theorem t63 (l : List (List Pt)) (b : Bool) (h : G63 l = some b) : Ends Try.prog Try.f63.results.toList [.code (bodyOf Try.f63)] (start Try.f63.ntmps ([ringsF l].map .f)) (F.bool b) := by
  refine Ends.of_run tyOK envK9_ok (T := []) (n := 200) ?_
  have e : run Try.prog (tiOf Try.prog) envK9 [] 0 Try.f63.results.toList some 200 [.code (bodyOf Try.f63)] (start Try.f63.ntmps ([ringsF l].map .f)) = T63 (fun b => some (.ret (F.bool b))) l := by kernel_rfl
  rw [e]
  exact (good_sel h (fun _ h => good_ret (by cases h; rfl)) (fun _ h => nomatch h))
theorem okLayerOk3 : PureOK Try.prog 61 preLayer resLayerOk :=
  fn_pure_at (c := bodyOf Try.f61) Try.func61 (by kernel_rfl) (by kernel_rfl) fun xs hp => match xs, hp with
  | [x], hp => ⟨[ringsF (unRings x)], _, ⟨(rings_eqv hp).1, trivial⟩, t61 (unRings x) (layerV (unRings x)) (by unfold G61 T61; rw [isRings_ringsF, unRings_ringsF]; rfl), .refl _⟩
theorem okLayerOkI : PureOK Try.prog 63 preLayer resLayerOk :=
  fn_pure_at (c := bodyOf Try.f63) Try.func63 (by kernel_rfl) (by kernel_rfl) fun xs hp => match xs, hp with
  | [x], hp => ⟨[ringsF (unRings x)], _, ⟨(rings_eqv hp).1, trivial⟩, t63 (unRings x) (layerV (unRings x)) (by unfold G63 T63; rw [isRings_ringsF, unRings_ringsF]; rfl), .refl _⟩
def isSess : F → Bool
  | .agg [x, y] => isRings x && isRings y
  | _ => false
def unSessA : F → List (List Pt)
  | .agg [x, _] => unRings x
  | _ => []
def unSessB : F → List (List Pt)
  | .agg [_, y] => unRings y
  | _ => []
theorem sess_eqv {x : F} (h : isSess x = true) : FLe x (.agg [ringsF (unSessA x), ringsF (unSessB x)]) ∧ FLe (.agg [ringsF (unSessA x), ringsF (unSessB x)]) x := by
  unfold isSess at h
  split at h
  · rw [Bool.and_eq_true] at h
    exact ⟨FLe.agg ⟨(rings_eqv h.1).1, (rings_eqv h.2).1, trivial⟩, FLe.agg ⟨(rings_eqv h.1).2, (rings_eqv h.2).2, trivial⟩⟩
  · cases h
def envK10 : Env := (envK9.add 61 (.pure preLayer resLayerOk)).add 63 (.pure preLayer resLayerOk)
theorem envK10_ok : EnvOK Try.prog envK10 := (Env.add_ok (Env.add_ok envK9_ok okLayerOk3.sp) okLayerOkI.sp)
end
end Go.Proofs.Ytmambbfnjbdfgaa.R
