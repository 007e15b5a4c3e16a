/-
  The walk of the functions about masks: which matrices meet a name.
-/
import Derived.Test.YthldemeodnlhbaaM9b
namespace Go.Proofs.Ythldemeodnlhbaa.R
open Go
set_option linter.unusedVariables false
set_option linter.unusedSimpArgs false
set_option maxRecDepth 100000
/-! ### function 15 -/
def S15_5 (a0 : ByteArray) (l : List ByteArray) (x7 : Int) : St := ⟨[(U.f (F.str a0)), .bad, .bad, .bad, .bad, .bad, (U.f (strsF l)), (U.f (F.int .i64 x7)), .bad, .bad, .bad, .bad, .bad, .bad, .bad, .bad, .bad, .bad, .bad, .bad, .bad, .bad, .bad, .bad, .bad, .bad, .bad, .bad, .bad, .bad], []⟩
def T15_5 {ρ : Type} (ret : (Bool) → (Bool) → Option ρ) (c5 : (ByteArray) → (List ByteArray) → (Int) → Option ρ) (a0 : ByteArray) (l : List ByteArray) (x7 : Int) : Option ρ :=
  (bsel (decide (x7 < (↑l.length : Int)))
   (bsel (decide (0 ≤ x7))
    (bsel (decide (x7 < (↑l.length : Int)))
     (bsel (decide (1 ≤ 1))
      (bsel (meetV a0 (l.getD x7.toNat (ByteArray.mk #[])))
       (ret (true) (true))
       (c5 (a0) (l) (IntKind.i64.wrap (x7 + 1))))
      none)
     none)
    none)
   (ret (false) (true)))
def L15_5 : Nat → (ByteArray) → (List ByteArray) → (Int) → Option ((Bool) × (Bool))
  | 0, _, _, _ => none
  | k + 1, a0, l, x7 => T15_5 (fun r q => some (r, q)) (L15_5 k) a0 l x7
def T15 {ρ : Type} (ret : (Bool) → (Bool) → Option ρ) (c5 : (ByteArray) → (List ByteArray) → (Int) → Option ρ) (a0 : ByteArray) (a1 : ByteArray) : Option ρ :=
  (bsel ((!matV a0) == false)
   (bsel ((↑(l32 a1).length : Int) == 0)
    (ret (false) (false))
    (c5 (a0) (l32 a1) (0)))
   (ret (false) (false)))
def G15 (k : Nat) (a0 : ByteArray) (a1 : ByteArray) : Option ((Bool) × (Bool)) := T15 (fun r q => some (r, q)) (L15_5 k) a0 a1
theorem t15_5 : ∀ (k : Nat) (a0 : ByteArray) (l : List ByteArray) (x7 : Int) (r : Bool) (q : Bool), L15_5 k a0 l x7 = some (r, q) → Ends Try.prog Try.f15.results.toList (at_ Try.f15 5) (S15_5 a0 l x7) (F.tup [F.bool r, F.bool q])
  | 0, _, _, _, _, _, h => nomatch h
  | k + 1, a0, l, x7, r, q, h => by
    refine Ends.of_cut tyOK env10_ok (T := [(5, [0, 6, 7], 0)]) (n := 200) ?_
    have e : runCut Try.prog (tiOf Try.prog) env10 [(5, [0, 6, 7], 0)] 0 Try.f15.results.toList some 200 (at_ Try.f15 5) (S15_5 a0 l x7) = T15_5 (fun r q => some (.ret (F.tup [F.bool r, F.bool q]))) (fun a0 l x7 => some (.cut (at_ Try.f15 5) (S15_5 a0 l x7))) a0 l x7 := by kernel_rfl
    rw [e]
    exact (good_sel h (fun _ h => (good_sel h (fun _ h => (good_sel h (fun _ h => (good_sel h (fun _ h => (good_sel h (fun _ h => good_ret (by cases h; rfl)) (fun _ h => good_cut (t15_5 k _ _ _ r q h)))) (fun _ h => nomatch h))) (fun _ h => nomatch h))) (fun _ h => nomatch h))) (fun _ h => good_ret (by cases h; rfl)))
theorem t15 (k : Nat) (a0 : ByteArray) (a1 : ByteArray) (r : Bool) (q : Bool) (h : G15 k a0 a1 = some (r, q)) : Ends Try.prog Try.f15.results.toList [.code (bodyOf Try.f15)] (start Try.f15.ntmps ([F.str a0, F.str a1].map .f)) (F.tup [F.bool r, F.bool q]) := by
  refine Ends.of_run tyOK env10_ok (T := [(5, [0, 6, 7], 0)]) (n := 200) ?_
  have e : run Try.prog (tiOf Try.prog) env10 [(5, [0, 6, 7], 0)] 0 Try.f15.results.toList some 200 [.code (bodyOf Try.f15)] (start Try.f15.ntmps ([F.str a0, F.str a1].map .f)) = T15 (fun r q => some (.ret (F.tup [F.bool r, F.bool q]))) (fun a0 l x7 => some (.cut (at_ Try.f15 5) (S15_5 a0 l x7))) a0 a1 := by kernel_rfl
  rw [e]
  exact (good_sel h (fun _ h => (good_sel h (fun _ h => good_ret (by cases h; rfl)) (fun _ h => good_cut (t15_5 k _ _ _ r q h)))) (fun _ h => good_ret (by cases h; rfl)))
/-! ### function 16 -/
def T16 {ρ : Type} (ret : (Bool) → (Bool) → Option ρ) (a0 : ByteArray) (a1 : ByteArray) : Option ρ :=
  (bsel (!matV a0)
   (ret (false) (false))
   (bsel (!(ByteArray.mk #[101, 113, 117, 97, 108, 115]).toList == a1.toList)
    (bsel (!(ByteArray.mk #[100, 105, 115, 106, 111, 105, 110, 116]).toList == a1.toList)
     (bsel (!(ByteArray.mk #[116, 111, 117, 99, 104, 101, 115]).toList == a1.toList)
      (bsel (!(ByteArray.mk #[119, 105, 116, 104, 105, 110]).toList == a1.toList)
       (bsel (!(ByteArray.mk #[99, 111, 110, 116, 97, 105, 110, 115]).toList == a1.toList)
        (bsel (!(ByteArray.mk #[111, 118, 101, 114, 108, 97, 112, 115]).toList == a1.toList)
         (bsel (!(ByteArray.mk #[105, 110, 116, 101, 114, 115, 101, 99, 116, 115]).toList == a1.toList)
          (ret (false) (false))
          (bsel (meetV a0 (ByteArray.mk #[84, 42, 42, 42, 42, 42, 42, 42, 42]))
           (ret (true) (true))
           (bsel (meetV a0 (ByteArray.mk #[42, 84, 42, 42, 42, 42, 42, 42, 42]))
            (ret (true) (true))
            (bsel (meetV a0 (ByteArray.mk #[42, 42, 42, 84, 42, 42, 42, 42, 42]))
             (ret (true) (true))
             (bsel (meetV a0 (ByteArray.mk #[42, 42, 42, 42, 84, 42, 42, 42, 42]))
              (ret (true) (true))
              (ret (false) (true)))))))
         (bsel (meetV a0 (ByteArray.mk #[84, 42, 84, 42, 42, 42, 84, 42, 42]))
          (ret (true) (true))
          (ret (false) (true))))
        (bsel (meetV a0 (ByteArray.mk #[84, 42, 42, 42, 42, 42, 70, 70, 42]))
         (ret (true) (true))
         (ret (false) (true))))
       (bsel (meetV a0 (ByteArray.mk #[84, 42, 70, 42, 42, 70, 42, 42, 42]))
        (ret (true) (true))
        (ret (false) (true))))
      (bsel (meetV a0 (ByteArray.mk #[70, 84, 42, 42, 42, 42, 42, 42, 42]))
       (ret (true) (true))
       (bsel (meetV a0 (ByteArray.mk #[70, 42, 42, 84, 42, 42, 42, 42, 42]))
        (ret (true) (true))
        (bsel (meetV a0 (ByteArray.mk #[70, 42, 42, 42, 84, 42, 42, 42, 42]))
         (ret (true) (true))
         (ret (false) (true))))))
     (bsel (meetV a0 (ByteArray.mk #[70, 70, 42, 70, 70, 42, 42, 42, 42]))
      (ret (true) (true))
      (ret (false) (true))))
    (bsel (meetV a0 (ByteArray.mk #[84, 42, 70, 42, 42, 70, 70, 70, 42]))
     (ret (true) (true))
     (ret (false) (true)))))
def G16 (a0 : ByteArray) (a1 : ByteArray) : Option ((Bool) × (Bool)) := T16 (fun r q => some (r, q)) a0 a1
theorem t16 (a0 : ByteArray) (a1 : ByteArray) (r : Bool) (q : Bool) (h : G16 a0 a1 = some (r, q)) : Ends Try.prog Try.f16.results.toList [.code (bodyOf Try.f16)] (start Try.f16.ntmps ([F.str a0, F.str a1].map .f)) (F.tup [F.bool r, F.bool q]) := by
  refine Ends.of_run tyOK env10_ok (T := []) (n := 1500) ?_
  have e : run Try.prog (tiOf Try.prog) env10 [] 0 Try.f16.results.toList some 1500 [.code (bodyOf Try.f16)] (start Try.f16.ntmps ([F.str a0, F.str a1].map .f)) = T16 (fun r q => some (.ret (F.tup [F.bool r, F.bool q]))) a0 a1 := by kernel_rfl
  rw [e]
  exact (good_sel h (fun _ h => good_ret (by cases h; rfl)) (fun _ h => (good_sel h (fun _ h => (good_sel h (fun _ h => (good_sel h (fun _ h => (good_sel h (fun _ h => (good_sel h (fun _ h => (good_sel h (fun _ h => (good_sel h (fun _ h => good_ret (by cases h; rfl)) (fun _ h => (good_sel h (fun _ h => good_ret (by cases h; rfl)) (fun _ h => (good_sel h (fun _ h => good_ret (by cases h; rfl)) (fun _ h => (good_sel h (fun _ h => good_ret (by cases h; rfl)) (fun _ h => (good_sel h (fun _ h => good_ret (by cases h; rfl)) (fun _ h => good_ret (by cases h; rfl)))))))))))) (fun _ h => (good_sel h (fun _ h => good_ret (by cases h; rfl)) (fun _ h => good_ret (by cases h; rfl)))))) (fun _ h => (good_sel h (fun _ h => good_ret (by cases h; rfl)) (fun _ h => good_ret (by cases h; rfl)))))) (fun _ h => (good_sel h (fun _ h => good_ret (by cases h; rfl)) (fun _ h => good_ret (by cases h; rfl)))))) (fun _ h => (good_sel h (fun _ h => good_ret (by cases h; rfl)) (fun _ h => (good_sel h (fun _ h => good_ret (by cases h; rfl)) (fun _ h => (good_sel h (fun _ h => good_ret (by cases h; rfl)) (fun _ h => good_ret (by cases h; rfl)))))))))) (fun _ h => (good_sel h (fun _ h => good_ret (by cases h; rfl)) (fun _ h => good_ret (by cases h; rfl)))))) (fun _ h => (good_sel h (fun _ h => good_ret (by cases h; rfl)) (fun _ h => good_ret (by cases h; rfl)))))))
def namedV (m s : ByteArray) : Bool × Bool := bif matV m && !(l32 s).isEmpty then ((l32 s).any (meetV m), true) else (false, false)
theorem l32_len (s : ByteArray) : (l32 s).length ≤ 4 := by
  unfold l32 T32
  repeat' first
    | (generalize (s.toList == ByteArray.toList _) = c; cases c <;> simp only [bsel_true, bsel_false, Option.getD_some])
    | decide
theorem L15_all (m : ByteArray) (l : List ByteArray) (hl : l.length ≤ 4) : ∀ (d i : Nat), i + d = l.length → L15_5 (d + 1) m l i = some ((l.drop i).any (meetV m), true)
  | 0, i, h => by
    have c1 : decide ((i : Int) < (l.length : Int)) = false := by simp; omega
    simp only [L15_5, T15_5, c1, bsel_false]
    rw [List.drop_eq_nil_of_le (by omega)]
    rfl
  | d + 1, i, h => by
    have hi : i < l.length := by omega
    have c1 : decide ((i : Int) < (l.length : Int)) = true := by simp; omega
    have c2 : decide (0 ≤ (i : Int)) = true := by simp
    have hw : IntKind.i64.wrap ((i : Int) + 1) = ((i + 1 : Nat) : Int) := by rw [wrap_i64 (by omega) (by omega)]; omega
    rw [L15_5]
    simp only [T15_5, c1, c2, hw, L15_all m l hl d (i + 1) (by omega), bsel_true, Int.toNat_natCast]
    rw [List.drop_eq_getElem_cons hi, List.any_cons]
    have : l.getD i (ByteArray.mk #[]) = l[i] := by simp [List.getD, List.getElem?_eq_getElem hi]
    rw [this]
    cases meetV m l[i] <;> rfl
theorem G15_eq (m s : ByteArray) : G15 ((l32 s).length + 1) m s = some (namedV m s) := by
  unfold G15 T15 namedV
  cases hm : matV m with
  | false => rfl
  | true =>
    have hl := l32_len s
    generalize l32 s = l at *
    cases l with
    | nil => rfl
    | cons x l =>
      have c : (((x :: l).length : Int) == 0) = false := by simp; omega
      rw [c]
      exact L15_all m (x :: l) hl (x :: l).length 0 (by omega)
theorem l32_key {ρ : Type} (K : List ByteArray → ρ) (s : ByteArray) : K (l32 s) = (T32 (fun r => some (K (unstr r))) s).getD (K []) := by
  unfold l32 T32
  repeat' first
    | (generalize (s.toList == ByteArray.toList _) = c; cases c <;> simp only [bsel_true, bsel_false, Option.getD_some])
    | rfl
theorem G16_eq (m s : ByteArray) : G16 m s = some (namedV m s) := by
  unfold G16 T16 namedV
  cases hm : matV m with
  | false => rfl
  | true =>
    have e : ∀ x : ByteArray, (x.toList == s.toList) = (s.toList == x.toList) := fun x => BEq.comm
    simp only [e]
    rw [l32_key (fun l => bif true && !l.isEmpty then (l.any (meetV m), true) else (false, false))]
    unfold T32
    clear e hm
    simp only [bsel_true, bsel_false, Bool.not_true]
    generalize meetV m = f
    have u1 : ∀ x, unstr (.sl 1 (lget [.str x])) = [x] := fun x => rfl
    have u3 : ∀ x y z, unstr (.sl 3 (lget [.str x, .str y, .str z])) = [x, y, z] := fun x y z => rfl
    have u4 : ∀ x y z t, unstr (.sl 4 (lget [.str x, .str y, .str z, .str t])) = [x, y, z, t] := fun x y z t => rfl
    have u0 : ∀ g, unstr (.sl 0 g) = [] := fun g => rfl
    simp only [u0, u1, u3, u4]
    clear u0 u1 u3 u4
    repeat' first
      | (generalize (s.toList == ByteArray.toList _) = c; cases c <;> simp only [bsel_true, bsel_false, Option.getD_some, Bool.not_true, Bool.not_false])
      | (simp [bsel]; done)
      | (simp only [List.any_cons, List.any_nil, List.isEmpty_cons, List.isEmpty_nil]; repeat' (first | rfl | (generalize f _ = d; cases d <;> simp only [bsel_true, bsel_false])))
def res15 : List F → F | [.str m, .str s] => .tup [.bool (namedV m s).1, .bool (namedV m s).2] | _ => .bool false
theorem ok15 : PureOK Try.prog 15 pre13 res15 :=
  fn_pure (c := bodyOf Try.f15) Try.func15 (by kernel_rfl) (by kernel_rfl) fun xs hp => match xs, hp with
  | [.str s, .str b], hp => t15 _ s b _ _ (G15_eq s b)
theorem ok16 : PureOK Try.prog 16 pre13 res15 :=
  fn_pure (c := bodyOf Try.f16) Try.func16 (by kernel_rfl) (by kernel_rfl) fun xs hp => match xs, hp with
  | [.str s, .str b], hp => t16 s b _ _ (G16_eq s b)
def env11 : Env := fun f => match f with | 15 => .pure pre13 res15 | 16 => .pure pre13 res15 | _ => .none
theorem env11_ok : EnvOK Try.prog env11 := by
  intro f
  unfold env11
  split
  · exact ok15
  · exact ok16
  · trivial
end Go.Proofs.Ythldemeodnlhbaa.R
