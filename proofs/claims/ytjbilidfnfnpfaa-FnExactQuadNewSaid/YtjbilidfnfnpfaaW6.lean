/-
  The walk of segments: those that meet a box.
-/
import Derived.Test.YtjbilidfnfnpfaaW5
namespace Go.Proofs.Ytjbilidfnfnpfaa.R
open Go
noncomputable section
set_option linter.unusedVariables false
set_option linter.unusedSimpArgs false
set_option maxRecDepth 100000
/-! ### function 15 -/
def S15_5 (l : List Sg) (lx : Int) (ly : Int) (hx : Int) (hy : Int) (n : Nat) (g : Nat → F) (x9 : Int) : St := ⟨[(U.f (segsF l)), .bad, .bad, .bad, (U.hp 0 0), (U.hp 1 0), .bad, .bad, (U.hs 2 n 0 n), (U.f (F.int .i64 x9)), .bad, .bad, .bad, .bad, .bad, .bad, .bad, .bad, .bad, .bad, .bad, .bad, .bad, .bad, .bad, .bad, .bad, .bad, .bad, .bad, .bad, .bad, .bad, .bad, .bad, .bad, .bad, .bad], [HO.box [U.f (F.int .i64 lx), U.f (F.int .i64 ly)], HO.box [U.f (F.int .i64 hx), U.f (F.int .i64 hy)], HO.arr 1 n g]⟩
def T15_5 {ρ : Type} (ret : (Nat) → (Nat → F) → (Bool) → Option ρ) (c5 : (List Sg) → (Int) → (Int) → (Int) → (Int) → (Nat) → (Nat → F) → (Int) → Option ρ) (l : List Sg) (lx : Int) (ly : Int) (hx : Int) (hy : Int) (n : Nat) (g : Nat → F) (x9 : Int) : Option ρ :=
  (bsel (decide (x9 < (↑l.length : Int)))
   (bsel (decide (0 ≤ x9))
    (bsel (decide (x9 < (↑l.length : Int)))
     (bsel (meetsV (l.getD x9.toNat Sg.zero).x0 (l.getD x9.toNat Sg.zero).y0 (l.getD x9.toNat Sg.zero).x1 (l.getD x9.toNat Sg.zero).y1 lx ly hx hy)
      (bsel (decide (n = n))
       (bsel (decide (n = n))
        (bsel (decide ((↑(n + 1) : Int) * (((8 : Nat) : Int) + 1) ≤ (↑limit : Int)))
         (c5 (l) (lx) (ly) (hx) (hy) (n + 1) (fun j ↦ if j < n then g j else F.int IntKind.i64 x9) (IntKind.i64.wrap (x9 + 1)))
         none)
        none)
       none)
      (c5 (l) (lx) (ly) (hx) (hy) (n) (g) (IntKind.i64.wrap (x9 + 1))))
     none)
    none)
   (bsel (decide (n = n))
    (ret (n) (g) (true))
    none))
def L15_5 : Nat → (List Sg) → (Int) → (Int) → (Int) → (Int) → (Nat) → (Nat → F) → (Int) → Option ((Nat) × (Nat → F) × (Bool))
  | 0, _, _, _, _, _, _, _, _ => none
  | k + 1, l, lx, ly, hx, hy, n, g, x9 => T15_5 (fun rn rg rb => some (rn, rg, rb)) (L15_5 k) l lx ly hx hy n g x9
def T15 {ρ : Type} (ret : (Nat) → (Nat → F) → (Bool) → Option ρ) (c5 : (List Sg) → (Int) → (Int) → (Int) → (Int) → (Nat) → (Nat → F) → (Int) → Option ρ) (l : List Sg) (lx : Int) (ly : Int) (hx : Int) (hy : Int) : Option ρ :=
  (bsel (isSegs (segsF l))
   (bsel ((!segsOkV (unSegs (segsF l))) == false)
    (bsel (!boxOkV lx ly hx hy)
     (ret (0) (fun x ↦ F.bool false) (false))
     (c5 (l) (lx) (ly) (hx) (hy) (0) (lget []) (0)))
    (ret (0) (fun x ↦ F.bool false) (false)))
   none)
def G15 (k : Nat) (l : List Sg) (lx : Int) (ly : Int) (hx : Int) (hy : Int) : Option ((Nat) × (Nat → F) × (Bool)) := T15 (fun rn rg rb => some (rn, rg, rb)) (L15_5 k) l lx ly hx hy
theorem t15_5 : ∀ (k : Nat) (l : List Sg) (lx : Int) (ly : Int) (hx : Int) (hy : Int) (n : Nat) (g : Nat → F) (x9 : Int) (rn : Nat) (rg : Nat → F) (rb : Bool), L15_5 k l lx ly hx hy n g x9 = some (rn, rg, rb) → Ends Try.prog Try.f15.results.toList (at_ Try.f15 5) (S15_5 l lx ly hx hy n g x9) (F.tup [F.sl rn rg, F.bool rb])
  | 0, _, _, _, _, _, _, _, _, _, _, _, h => nomatch h
  | k + 1, l, lx, ly, hx, hy, n, g, x9, rn, rg, rb, h => by
    refine Ends.of_cut tyOK envW5_ok (T := [(5, [0, 4, 5, 8, 9], 3)]) (n := 200) ?_
    have e : runCut Try.prog (tiOf Try.prog) envW5 [(5, [0, 4, 5, 8, 9], 3)] 0 Try.f15.results.toList some 200 (at_ Try.f15 5) (S15_5 l lx ly hx hy n g x9) = T15_5 (fun rn rg rb => some (.ret (F.tup [F.sl rn rg, F.bool rb]))) (fun l lx ly hx hy n g x9 => some (.cut (at_ Try.f15 5) (S15_5 l lx ly hx hy n g x9))) l lx ly hx hy n g x9 := by kernel_rfl
    rw [e]
    exact (good_sel h (fun _ h => (good_sel h (fun _ h => (good_sel h (fun _ h => (good_sel h (fun _ h => (good_sel h (fun _ h => (good_sel h (fun _ h => (good_sel h (fun _ h => good_cut (t15_5 k _ _ _ _ _ _ _ _ rn rg rb h)) (fun _ h => nomatch h))) (fun _ h => nomatch h))) (fun _ h => nomatch h))) (fun _ h => good_cut (t15_5 k _ _ _ _ _ _ _ _ rn rg rb h)))) (fun _ h => nomatch h))) (fun _ h => nomatch h))) (fun _ h => (good_sel h (fun _ h => good_ret (by cases h; rfl)) (fun _ h => nomatch h))))
theorem t15 (k : Nat) (l : List Sg) (lx : Int) (ly : Int) (hx : Int) (hy : Int) (rn : Nat) (rg : Nat → F) (rb : Bool) (h : G15 k l lx ly hx hy = some (rn, rg, rb)) : Ends Try.prog Try.f15.results.toList [.code (bodyOf Try.f15)] (start Try.f15.ntmps ([segsF l, F.agg [F.int .i64 lx, F.int .i64 ly], F.agg [F.int .i64 hx, F.int .i64 hy]].map .f)) (F.tup [F.sl rn rg, F.bool rb]) := by
  refine Ends.of_run tyOK envW5_ok (T := [(5, [0, 4, 5, 8, 9], 3)]) (n := 200) ?_
  have e : run Try.prog (tiOf Try.prog) envW5 [(5, [0, 4, 5, 8, 9], 3)] 0 Try.f15.results.toList some 200 [.code (bodyOf Try.f15)] (start Try.f15.ntmps ([segsF l, F.agg [F.int .i64 lx, F.int .i64 ly], F.agg [F.int .i64 hx, F.int .i64 hy]].map .f)) = T15 (fun rn rg rb => some (.ret (F.tup [F.sl rn rg, F.bool rb]))) (fun l lx ly hx hy n g x9 => some (.cut (at_ Try.f15 5) (S15_5 l lx ly hx hy n g x9))) l lx ly hx hy := by kernel_rfl
  rw [e]
  exact (good_sel h (fun _ h => (good_sel h (fun _ h => (good_sel h (fun _ h => good_ret (by cases h; rfl)) (fun _ h => good_cut (t15_5 k _ _ _ _ _ _ _ _ rn rg rb h)))) (fun _ h => good_ret (by cases h; rfl)))) (fun _ h => nomatch h))
/-! ### function 18 -/
def S18_5 (l : List Sg) (lx : Int) (ly : Int) (hx : Int) (hy : Int) (n : Nat) (g : Nat → F) (x23 : Int) : St := ⟨[.bad, .bad, .bad, .bad, (U.hp 0 0), (U.hp 1 0), .bad, .bad, (U.hs 2 n 0 n), .bad, .bad, .bad, .bad, .bad, .bad, .bad, .bad, .bad, .bad, .bad, .bad, (U.f (segsF l)), (U.f (F.int .i64 l.length)), (U.f (F.int .i64 x23)), .bad, .bad, .bad, .bad, .bad, .bad, .bad, .bad, .bad, .bad, .bad, .bad, .bad, .bad], [HO.box [U.f (F.int .i64 lx), U.f (F.int .i64 ly)], HO.box [U.f (F.int .i64 hx), U.f (F.int .i64 hy)], HO.arr 1 n g]⟩
def T18_5 {ρ : Type} (ret : (Nat) → (Nat → F) → (Bool) → Option ρ) (c5 : (List Sg) → (Int) → (Int) → (Int) → (Int) → (Nat) → (Nat → F) → (Int) → Option ρ) (l : List Sg) (lx : Int) (ly : Int) (hx : Int) (hy : Int) (n : Nat) (g : Nat → F) (x23 : Int) : Option ρ :=
  (bsel (decide (x23 < (↑l.length : Int)))
   (bsel (decide (0 ≤ x23))
    (bsel (decide (x23 < (↑l.length : Int)))
     (bsel (meetsV (l.getD x23.toNat Sg.zero).x0 (l.getD x23.toNat Sg.zero).y0 (l.getD x23.toNat Sg.zero).x1 (l.getD x23.toNat Sg.zero).y1 lx ly hx hy)
      (bsel (decide (n = n))
       (bsel (decide (n = n))
        (bsel (decide ((↑(n + 1) : Int) * (((8 : Nat) : Int) + 1) ≤ (↑limit : Int)))
         (c5 (l) (lx) (ly) (hx) (hy) (n + 1) (fun j ↦ if j < n then g j else F.int IntKind.i64 x23) (IntKind.i64.wrap (x23 + 1)))
         none)
        none)
       none)
      (c5 (l) (lx) (ly) (hx) (hy) (n) (g) (IntKind.i64.wrap (x23 + 1))))
     none)
    none)
   (bsel (decide (n = n))
    (ret (n) (g) (true))
    none))
def L18_5 : Nat → (List Sg) → (Int) → (Int) → (Int) → (Int) → (Nat) → (Nat → F) → (Int) → Option ((Nat) × (Nat → F) × (Bool))
  | 0, _, _, _, _, _, _, _, _ => none
  | k + 1, l, lx, ly, hx, hy, n, g, x23 => T18_5 (fun rn rg rb => some (rn, rg, rb)) (L18_5 k) l lx ly hx hy n g x23
def T18 {ρ : Type} (ret : (Nat) → (Nat → F) → (Bool) → Option ρ) (c5 : (List Sg) → (Int) → (Int) → (Int) → (Int) → (Nat) → (Nat → F) → (Int) → Option ρ) (l : List Sg) (lx : Int) (ly : Int) (hx : Int) (hy : Int) : Option ρ :=
  (bsel (isSegs (segsF l))
   (bsel ((!segsOkV (unSegs (segsF l))) == false)
    (bsel (!boxOkV lx ly hx hy)
     (ret (0) (fun x ↦ F.bool false) (false))
     (c5 (l) (lx) (ly) (hx) (hy) (0) (lget []) (0)))
    (ret (0) (fun x ↦ F.bool false) (false)))
   none)
def G18 (k : Nat) (l : List Sg) (lx : Int) (ly : Int) (hx : Int) (hy : Int) : Option ((Nat) × (Nat → F) × (Bool)) := T18 (fun rn rg rb => some (rn, rg, rb)) (L18_5 k) l lx ly hx hy
theorem t18_5 : ∀ (k : Nat) (l : List Sg) (lx : Int) (ly : Int) (hx : Int) (hy : Int) (n : Nat) (g : Nat → F) (x23 : Int) (rn : Nat) (rg : Nat → F) (rb : Bool), L18_5 k l lx ly hx hy n g x23 = some (rn, rg, rb) → Ends Try.prog Try.f18.results.toList (at_ Try.f18 5) (S18_5 l lx ly hx hy n g x23) (F.tup [F.sl rn rg, F.bool rb])
  | 0, _, _, _, _, _, _, _, _, _, _, _, h => nomatch h
  | k + 1, l, lx, ly, hx, hy, n, g, x23, rn, rg, rb, h => by
    refine Ends.of_cut tyOK envW5_ok (T := [(5, [4, 5, 8, 21, 22, 23], 3)]) (n := 200) ?_
    have e : runCut Try.prog (tiOf Try.prog) envW5 [(5, [4, 5, 8, 21, 22, 23], 3)] 0 Try.f18.results.toList some 200 (at_ Try.f18 5) (S18_5 l lx ly hx hy n g x23) = T18_5 (fun rn rg rb => some (.ret (F.tup [F.sl rn rg, F.bool rb]))) (fun l lx ly hx hy n g x23 => some (.cut (at_ Try.f18 5) (S18_5 l lx ly hx hy n g x23))) l lx ly hx hy n g x23 := by kernel_rfl
    rw [e]
    exact (good_sel h (fun _ h => (good_sel h (fun _ h => (good_sel h (fun _ h => (good_sel h (fun _ h => (good_sel h (fun _ h => (good_sel h (fun _ h => (good_sel h (fun _ h => good_cut (t18_5 k _ _ _ _ _ _ _ _ rn rg rb h)) (fun _ h => nomatch h))) (fun _ h => nomatch h))) (fun _ h => nomatch h))) (fun _ h => good_cut (t18_5 k _ _ _ _ _ _ _ _ rn rg rb h)))) (fun _ h => nomatch h))) (fun _ h => nomatch h))) (fun _ h => (good_sel h (fun _ h => good_ret (by cases h; rfl)) (fun _ h => nomatch h))))
theorem t18 (k : Nat) (l : List Sg) (lx : Int) (ly : Int) (hx : Int) (hy : Int) (rn : Nat) (rg : Nat → F) (rb : Bool) (h : G18 k l lx ly hx hy = some (rn, rg, rb)) : Ends Try.prog Try.f18.results.toList [.code (bodyOf Try.f18)] (start Try.f18.ntmps ([segsF l, F.agg [F.int .i64 lx, F.int .i64 ly], F.agg [F.int .i64 hx, F.int .i64 hy]].map .f)) (F.tup [F.sl rn rg, F.bool rb]) := by
  refine Ends.of_run tyOK envW5_ok (T := [(5, [4, 5, 8, 21, 22, 23], 3)]) (n := 200) ?_
  have e : run Try.prog (tiOf Try.prog) envW5 [(5, [4, 5, 8, 21, 22, 23], 3)] 0 Try.f18.results.toList some 200 [.code (bodyOf Try.f18)] (start Try.f18.ntmps ([segsF l, F.agg [F.int .i64 lx, F.int .i64 ly], F.agg [F.int .i64 hx, F.int .i64 hy]].map .f)) = T18 (fun rn rg rb => some (.ret (F.tup [F.sl rn rg, F.bool rb]))) (fun l lx ly hx hy n g x23 => some (.cut (at_ Try.f18 5) (S18_5 l lx ly hx hy n g x23))) l lx ly hx hy := by kernel_rfl
  rw [e]
  exact (good_sel h (fun _ h => (good_sel h (fun _ h => (good_sel h (fun _ h => good_ret (by cases h; rfl)) (fun _ h => good_cut (t18_5 k _ _ _ _ _ _ _ _ rn rg rb h)))) (fun _ h => good_ret (by cases h; rfl)))) (fun _ h => nomatch h))
def hitV (lx ly hx hy : Int) (s : Sg) : Bool := meetsV s.x0 s.y0 s.x1 s.y1 lx ly hx hy
/-- The numbers from i on of those that meet the box. -/
def hitsFrom (l : List Sg) (lx ly hx hy : Int) (i : Nat) : List Int := (((List.range l.length).drop i).filter fun j => hitV lx ly hx hy (l.getD j .zero)).map fun j : Nat => (j : Int)
theorem hits_end (l : List Sg) (lx ly hx hy : Int) : hitsFrom l lx ly hx hy l.length = [] := by
  unfold hitsFrom
  rw [List.drop_eq_nil_of_le (by simp)]
  rfl
theorem hits_step (l : List Sg) (lx ly hx hy : Int) {i : Nat} (h : i < l.length) : hitsFrom l lx ly hx hy i = if hitV lx ly hx hy (l.getD i .zero) then (i : Int) :: hitsFrom l lx ly hx hy (i + 1) else hitsFrom l lx ly hx hy (i + 1) := by
  unfold hitsFrom
  rw [List.drop_eq_getElem_cons (by simpa using h), List.getElem_range, List.filter_cons]
  split <;> rfl
theorem window_loop (l : List Sg) (lx ly hx hy : Int) (hl : l.length ≤ 40) : ∀ (d i n : Nat) (g : Nat → F) (o : List Int), i + d = l.length → n ≤ i → Lists i64F 0 n g o →
    ∃ n1 g1, L15_5 (d + 1) l lx ly hx hy n g i = some (n1, g1, true) ∧ Lists i64F 0 n1 g1 (o ++ hitsFrom l lx ly hx hy i)
  | 0, i, n, g, o, h, hn, hg => by
    have c1 : decide ((i : Int) < (l.length : Int)) = false := decide_eq_false (by omega)
    refine ⟨n, g, ?_, ?_⟩
    · simp only [L15_5, T15_5, c1, bsel_false, decide_true, bsel_true]
    · obtain rfl : i = l.length := by omega
      rw [hits_end, List.append_nil]
      exact hg
  | d + 1, i, n, g, o, h, hn, hg => by
    have hi : i < l.length := by omega
    have c1 : decide ((i : Int) < (l.length : Int)) = true := decide_eq_true (by omega)
    have c2 : decide (0 ≤ (i : Int)) = true := decide_eq_true (by omega)
    have hw : IntKind.i64.wrap ((i : Int) + 1) = ((i + 1 : Nat) : Int) := by rw [wrapi (by omega) (by omega)]; omega
    have c3 : decide (((n + 1 : Nat) : Int) * (((8 : Nat) : Int) + 1) ≤ (limit : Int)) = true := by rw [limit_eq]; exact decide_eq_true (by omega)
    rw [L15_5]
    simp only [T15_5, c1, c2, c3, hw, bsel_true, decide_true, Int.toNat_natCast]
    rw [hits_step l lx ly hx hy hi]
    have hv : meetsV (l.getD i Sg.zero).x0 (l.getD i Sg.zero).y0 (l.getD i Sg.zero).x1 (l.getD i Sg.zero).y1 lx ly hx hy = hitV lx ly hx hy (l.getD i .zero) := rfl
    rw [hv]
    cases hitV lx ly hx hy (l.getD i .zero) with
    | true =>
      obtain ⟨n1, g1, e1, e2⟩ := window_loop l lx ly hx hy hl d (i + 1) (n + 1) _ (o ++ [(i : Int)]) (by omega) (by omega) (hg.push (i : Int))
      refine ⟨n1, g1, e1, ?_⟩
      rw [if_pos rfl]
      rw [List.append_assoc] at e2
      exact e2
    | false =>
      obtain ⟨n1, g1, e1, e2⟩ := window_loop l lx ly hx hy hl d (i + 1) n g o (by omega) (by omega) hg
      exact ⟨n1, g1, e1, by simpa using e2⟩
theorem window_same (l : List Sg) (lx ly hx hy : Int) : ∀ (k n : Nat) (g : Nat → F) (x : Int), L18_5 k l lx ly hx hy n g x = L15_5 k l lx ly hx hy n g x
  | 0, _, _, _ => rfl
  | k + 1, n, g, x => by
    rw [L18_5, L15_5]
    simp only [T18_5, T15_5, window_same l lx ly hx hy k]
def windowV (l : List Sg) (lx ly hx hy : Int) : List Int := bif segsOkV l && boxOkV lx ly hx hy then hitsFrom l lx ly hx hy 0 else []
def windowOkV (l : List Sg) (lx ly hx hy : Int) : Bool := segsOkV l && boxOkV lx ly hx hy
theorem window_spec (l : List Sg) (lx ly hx hy : Int) : ∃ n g, G15 (l.length + 1) l lx ly hx hy = some (n, g, windowOkV l lx ly hx hy) ∧ Lists i64F 0 n g (windowV l lx ly hx hy) := by
  unfold G15 T15 windowV windowOkV
  simp only [isSegs_segsF, unSegs_segsF, bsel_true]
  cases h : segsOkV l with
  | false => exact ⟨_, _, rfl, Lists.nil⟩
  | true => cases hb : boxOkV lx ly hx hy with
    | false => exact ⟨_, _, rfl, Lists.nil⟩
    | true =>
      obtain ⟨n1, g1, e1, e2⟩ := window_loop l lx ly hx hy (segsOk_iff.1 h).1 l.length 0 0 (lget []) [] (by omega) (by omega) Lists.nil
      exact ⟨n1, g1, e1, by simpa using e2⟩
theorem window_impl (l : List Sg) (lx ly hx hy : Int) : ∃ n g, G18 (l.length + 1) l lx ly hx hy = some (n, g, windowOkV l lx ly hx hy) ∧ Lists i64F 0 n g (windowV l lx ly hx hy) := by
  obtain ⟨n, g, e1, e2⟩ := window_spec l lx ly hx hy
  refine ⟨n, g, ?_, e2⟩
  rw [← e1]
  unfold G15 T15 G18 T18
  rw [window_same]
def preWindow : List F → Bool | [x, .agg [.int .i64 _, .int .i64 _], .agg [.int .i64 _, .int .i64 _]] => isSegs x | _ => false
def resWindow : List F → F | [x, .agg [.int .i64 a, .int .i64 b], .agg [.int .i64 c, .int .i64 d]] => .tup [intsF (windowV (unSegs x) a b c d), .bool (windowOkV (unSegs x) a b c d)] | _ => .dflt
theorem okWindowS : PureOK Try.prog 15 preWindow resWindow :=
  fn_pure_at (c := bodyOf Try.f15) Try.func15 (by kernel_rfl) (by kernel_rfl) fun xs hp => match xs, hp with
  | [x, .agg [.int .i64 a, .int .i64 b], .agg [.int .i64 c, .int .i64 d]], hp => by
    obtain ⟨n, g, e1, e2⟩ := window_spec (unSegs x) a b c d
    exact ⟨[segsF (unSegs x), .agg [.int .i64 a, .int .i64 b], .agg [.int .i64 c, .int .i64 d]], _, ⟨(segs_eqv hp).1, .refl _, .refl _, trivial⟩, t15 _ _ _ _ _ _ _ _ _ e1, FLe.tup ⟨e2.le, .refl _, trivial⟩⟩
theorem okWindowI : PureOK Try.prog 18 preWindow resWindow :=
  fn_pure_at (c := bodyOf Try.f18) Try.func18 (by kernel_rfl) (by kernel_rfl) fun xs hp => match xs, hp with
  | [x, .agg [.int .i64 a, .int .i64 b], .agg [.int .i64 c, .int .i64 d]], hp => by
    obtain ⟨n, g, e1, e2⟩ := window_impl (unSegs x) a b c d
    exact ⟨[segsF (unSegs x), .agg [.int .i64 a, .int .i64 b], .agg [.int .i64 c, .int .i64 d]], _, ⟨(segs_eqv hp).1, .refl _, .refl _, trivial⟩, t18 _ _ _ _ _ _ _ _ _ e1, FLe.tup ⟨e2.le, .refl _, trivial⟩⟩
end
end Go.Proofs.Ytjbilidfnfnpfaa.R
