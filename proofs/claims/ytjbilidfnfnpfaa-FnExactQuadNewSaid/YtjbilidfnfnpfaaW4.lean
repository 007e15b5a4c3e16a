/-
  The walk of segments: right ones.
-/
import Derived.Test.YtjbilidfnfnpfaaW4a
namespace Go.Proofs.Ytjbilidfnfnpfaa.R
open Go
set_option linter.unusedVariables false
set_option linter.unusedSimpArgs false
set_option maxRecDepth 100000
/-! ### function 99 -/
def S99_4 (l : List Sg) (x3 : Int) : St := ⟨[(U.f (segsF l)), .bad, .bad, (U.f (F.int .i64 x3)), .bad, .bad, .bad, .bad, .bad, .bad, .bad, .bad, .bad, .bad, .bad, .bad, .bad, .bad, .bad], []⟩
def T99_4 {ρ : Type} (ret : (Int) → Option ρ) (c4 : (List Sg) → (Int) → Option ρ) (l : List Sg) (x3 : Int) : Option ρ :=
  (bsel (decide (x3 < (↑l.length : Int)))
   (bsel (decide (0 ≤ x3))
    (bsel (decide (x3 < (↑l.length : Int)))
     (bsel (!segOkV (l.getD x3.toNat Sg.zero).x0 (l.getD x3.toNat Sg.zero).y0 (l.getD x3.toNat Sg.zero).x1 (l.getD x3.toNat Sg.zero).y1)
      (ret (2))
      (c4 (l) (IntKind.i64.wrap (x3 + 1))))
     none)
    none)
   (ret (0)))
def L99_4 : Nat → (List Sg) → (Int) → Option (Int)
  | 0, _, _ => none
  | k + 1, l, x3 => T99_4 some (L99_4 k) l x3
def T99 {ρ : Type} (ret : (Int) → Option ρ) (c4 : (List Sg) → (Int) → Option ρ) (l : List Sg) : Option ρ :=
  (bsel (decide ((↑l.length : Int) > 40))
   (ret (1))
   (c4 (l) (0)))
def G99 (k : Nat) (l : List Sg) : Option (Int) := T99 some (L99_4 k) l
theorem t99_4 : ∀ (k : Nat) (l : List Sg) (x3 : Int) (r : Int), L99_4 k l x3 = some r → Ends Try.prog Try.f99.results.toList (at_ Try.f99 4) (S99_4 l x3) (F.int .i64 r)
  | 0, _, _, _, h => nomatch h
  | k + 1, l, x3, r, h => by
    refine Ends.of_cut tyOK envW3_ok (T := [(4, [0, 3], 0)]) (n := 200) ?_
    have e : runCut Try.prog (tiOf Try.prog) envW3 [(4, [0, 3], 0)] 0 Try.f99.results.toList some 200 (at_ Try.f99 4) (S99_4 l x3) = T99_4 (fun r => some (.ret (F.int .i64 r))) (fun l x3 => some (.cut (at_ Try.f99 4) (S99_4 l x3))) l x3 := by kernel_rfl
    rw [e]
    exact (good_sel h (fun _ h => (good_sel h (fun _ h => (good_sel h (fun _ h => (good_sel h (fun _ h => good_ret (by cases h; rfl)) (fun _ h => good_cut (t99_4 k _ _ r h)))) (fun _ h => nomatch h))) (fun _ h => nomatch h))) (fun _ h => good_ret (by cases h; rfl)))
theorem t99 (k : Nat) (l : List Sg) (r : Int) (h : G99 k l = some r) : Ends Try.prog Try.f99.results.toList [.code (bodyOf Try.f99)] (start Try.f99.ntmps ([segsF l].map .f)) (F.int .i64 r) := by
  refine Ends.of_run tyOK envW3_ok (T := [(4, [0, 3], 0)]) (n := 200) ?_
  have e : run Try.prog (tiOf Try.prog) envW3 [(4, [0, 3], 0)] 0 Try.f99.results.toList some 200 [.code (bodyOf Try.f99)] (start Try.f99.ntmps ([segsF l].map .f)) = T99 (fun r => some (.ret (F.int .i64 r))) (fun l x3 => some (.cut (at_ Try.f99 4) (S99_4 l x3))) l := by kernel_rfl
  rw [e]
  exact (good_sel h (fun _ h => good_ret (by cases h; rfl)) (fun _ h => good_cut (t99_4 k _ _ r h)))
/-! ### function 102 -/
def S102_4 (l : List Sg) (x10 : Int) : St := ⟨[.bad, .bad, .bad, .bad, .bad, .bad, .bad, .bad, (U.f (segsF l)), (U.f (F.int .i64 l.length)), (U.f (F.int .i64 x10)), .bad, .bad, .bad, .bad, .bad, .bad, .bad], []⟩
def T102_4 {ρ : Type} (ret : (Int) → Option ρ) (c4 : (List Sg) → (Int) → Option ρ) (l : List Sg) (x10 : Int) : Option ρ :=
  (bsel (decide (x10 < (↑l.length : Int)))
   (bsel (decide (0 ≤ x10))
    (bsel (decide (x10 < (↑l.length : Int)))
     (bsel (!segOkV (l.getD x10.toNat Sg.zero).x0 (l.getD x10.toNat Sg.zero).y0 (l.getD x10.toNat Sg.zero).x1 (l.getD x10.toNat Sg.zero).y1)
      (ret (2))
      (c4 (l) (IntKind.i64.wrap (x10 + 1))))
     none)
    none)
   (ret (0)))
def L102_4 : Nat → (List Sg) → (Int) → Option (Int)
  | 0, _, _ => none
  | k + 1, l, x10 => T102_4 some (L102_4 k) l x10
def T102 {ρ : Type} (ret : (Int) → Option ρ) (c4 : (List Sg) → (Int) → Option ρ) (l : List Sg) : Option ρ :=
  (bsel (decide ((↑l.length : Int) > 40))
   (ret (1))
   (c4 (l) (0)))
def G102 (k : Nat) (l : List Sg) : Option (Int) := T102 some (L102_4 k) l
theorem t102_4 : ∀ (k : Nat) (l : List Sg) (x10 : Int) (r : Int), L102_4 k l x10 = some r → Ends Try.prog Try.f102.results.toList (at_ Try.f102 4) (S102_4 l x10) (F.int .i64 r)
  | 0, _, _, _, h => nomatch h
  | k + 1, l, x10, r, h => by
    refine Ends.of_cut tyOK envW3_ok (T := [(4, [8, 9, 10], 0)]) (n := 200) ?_
    have e : runCut Try.prog (tiOf Try.prog) envW3 [(4, [8, 9, 10], 0)] 0 Try.f102.results.toList some 200 (at_ Try.f102 4) (S102_4 l x10) = T102_4 (fun r => some (.ret (F.int .i64 r))) (fun l x10 => some (.cut (at_ Try.f102 4) (S102_4 l x10))) l x10 := by kernel_rfl
    rw [e]
    exact (good_sel h (fun _ h => (good_sel h (fun _ h => (good_sel h (fun _ h => (good_sel h (fun _ h => good_ret (by cases h; rfl)) (fun _ h => good_cut (t102_4 k _ _ r h)))) (fun _ h => nomatch h))) (fun _ h => nomatch h))) (fun _ h => good_ret (by cases h; rfl)))
theorem t102 (k : Nat) (l : List Sg) (r : Int) (h : G102 k l = some r) : Ends Try.prog Try.f102.results.toList [.code (bodyOf Try.f102)] (start Try.f102.ntmps ([segsF l].map .f)) (F.int .i64 r) := by
  refine Ends.of_run tyOK envW3_ok (T := [(4, [8, 9, 10], 0)]) (n := 200) ?_
  have e : run Try.prog (tiOf Try.prog) envW3 [(4, [8, 9, 10], 0)] 0 Try.f102.results.toList some 200 [.code (bodyOf Try.f102)] (start Try.f102.ntmps ([segsF l].map .f)) = T102 (fun r => some (.ret (F.int .i64 r))) (fun l x10 => some (.cut (at_ Try.f102 4) (S102_4 l x10))) l := by kernel_rfl
  rw [e]
  exact (good_sel h (fun _ h => good_ret (by cases h; rfl)) (fun _ h => good_cut (t102_4 k _ _ r h)))
def sgOk (s : Sg) : Bool := segOkV s.x0 s.y0 s.x1 s.y1
def segsFaultV (l : List Sg) : Int := bif decide ((l.length : Int) > 40) then 1 else bif l.all sgOk then 0 else 2
theorem segs_loop (l : List Sg) (hl : l.length ≤ 40) : ∀ (d i : Nat), i + d = l.length → L99_4 (d + 1) l i = some (bif (l.drop i).all sgOk then 0 else 2)
  | 0, i, h => by
    have c1 : decide ((i : Int) < (l.length : Int)) = false := decide_eq_false (by omega)
    simp only [L99_4, T99_4, c1, bsel_false]
    rw [List.drop_eq_nil_of_le (by omega)]
    rfl
  | d + 1, i, h => by
    have hi : i < l.length := by omega
    have c1 : decide ((i : Int) < (l.length : Int)) = true := decide_eq_true (by omega)
    have c2 : decide (0 ≤ (i : Int)) = true := decide_eq_true (by omega)
    have hw : IntKind.i64.wrap ((i : Int) + 1) = ((i + 1 : Nat) : Int) := by rw [wrapi (by omega) (by omega)]; omega
    have hg : l.getD i Sg.zero = l[i] := by simp [List.getD, List.getElem?_eq_getElem hi]
    rw [L99_4]
    simp only [T99_4, c1, c2, hw, segs_loop l hl d (i + 1) (by omega), bsel_true, Int.toNat_natCast, hg]
    rw [List.drop_eq_getElem_cons hi, List.all_cons]
    unfold sgOk
    cases segOkV l[i].x0 l[i].y0 l[i].x1 l[i].y1 <;> rfl
theorem segs_same (l : List Sg) : ∀ (k : Nat) (x : Int), L102_4 k l x = L99_4 k l x
  | 0, _ => rfl
  | k + 1, x => by
    rw [L102_4, L99_4]
    simp only [T102_4, T99_4, segs_same l k]
theorem segsFault_spec (l : List Sg) : G99 (l.length + 1) l = some (segsFaultV l) := by
  unfold G99 T99 segsFaultV
  by_cases h : (l.length : Int) > 40
  · rw [decide_eq_true h]; rfl
  · rw [decide_eq_false h]
    exact segs_loop l (by omega) l.length 0 (by omega)
theorem segsFault_impl (l : List Sg) : G102 (l.length + 1) l = some (segsFaultV l) := by
  rw [← segsFault_spec]
  unfold G99 T99 G102 T102
  rw [segs_same]
def preSegs : List F → Bool | [x] => isSegs x | _ => false
def resSegsFault : List F → F | [x] => .int .i64 (segsFaultV (unSegs x)) | _ => .dflt
theorem okSegsFaultS : PureOK Try.prog 99 preSegs resSegsFault :=
  fn_pure_at (c := bodyOf Try.f99) Try.func99 (by kernel_rfl) (by kernel_rfl) fun xs hp => match xs, hp with
  | [x], hp => ⟨[segsF (unSegs x)], _, ⟨(segs_eqv hp).1, trivial⟩, t99 _ _ _ (segsFault_spec _), .refl _⟩
theorem okSegsFaultI : PureOK Try.prog 102 preSegs resSegsFault :=
  fn_pure_at (c := bodyOf Try.f102) Try.func102 (by kernel_rfl) (by kernel_rfl) fun xs hp => match xs, hp with
  | [x], hp => ⟨[segsF (unSegs x)], _, ⟨(segs_eqv hp).1, trivial⟩, t102 _ _ _ (segsFault_impl _), .refl _⟩
def envW4 : Env := (envW3.add 99 (.pure preSegs resSegsFault)).add 102 (.pure preSegs resSegsFault)
theorem envW4_ok : EnvOK Try.prog envW4 := Env.add_ok (Env.add_ok envW3_ok okSegsFaultS.sp) okSegsFaultI.sp
end Go.Proofs.Ytjbilidfnfnpfaa.R
