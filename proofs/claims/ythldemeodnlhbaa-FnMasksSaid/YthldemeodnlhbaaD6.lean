/-
  The walk of the functions about masks: the law of masks.
-/
import Derived.Test.YthldemeodnlhbaaD6b
namespace Go.Proofs.Ythldemeodnlhbaa.R
open Go
noncomputable section
set_option linter.unusedVariables false
set_option linter.unusedSimpArgs false
set_option maxRecDepth 100000
/-! ### function 7 -/
def S7_16 (x4 : ByteArray) (x5 : Bool) (x6 : ByteArray) (x7 : ByteArray) (x8 : Int) : St := ⟨[.bad, .bad, .bad, .bad, (U.f (F.str x4)), (U.f (F.bool x5)), (U.f (F.str x6)), (U.f (F.str x7)), (U.f (F.int .i64 x8)), .bad, .bad, .bad, .bad, .bad, .bad, .bad, .bad, .bad, .bad, .bad, .bad, .bad, .bad, .bad, .bad, .bad, .bad, .bad, .bad, .bad, .bad, .bad, .bad, .bad, .bad, .bad, .bad, .bad, .bad, .bad, .bad, .bad, .bad, .bad, .bad, .bad, .bad, .bad, .bad, .bad, .bad, .bad, .bad, .bad, .bad, .bad, .bad, .bad, .bad, .bad, .bad, .bad, .bad, .bad, .bad, .bad, .bad, .bad, .bad, .bad, .bad, .bad, .bad, .bad, .bad, .bad, .bad, .bad, .bad, .bad, .bad, .bad, .bad], []⟩
def T7_16 {ρ : Type} (ret : (Bool) → Option ρ) (c16 : (ByteArray) → (Bool) → (ByteArray) → (ByteArray) → (Int) → Option ρ) (x4 : ByteArray) (x5 : Bool) (x6 : ByteArray) (x7 : ByteArray) (x8 : Int) : Option ρ :=
  (bsel (decide (x8 < 9))
   (bsel (decide (0 ≤ IntKind.i64.wrap (IntKind.i64.wrap (3 * x8.tmod 3) + IntKind.i64.wrap (x8.tdiv 3))))
    (bsel (decide (IntKind.i64.wrap (IntKind.i64.wrap (3 * x8.tmod 3) + IntKind.i64.wrap (x8.tdiv 3)) ≤ IntKind.i64.wrap (IntKind.i64.wrap (IntKind.i64.wrap (3 * x8.tmod 3) + IntKind.i64.wrap (x8.tdiv 3)) + 1)))
     (bsel (decide (IntKind.i64.wrap (IntKind.i64.wrap (IntKind.i64.wrap (3 * x8.tmod 3) + IntKind.i64.wrap (x8.tdiv 3)) + 1) ≤ (↑x4.size : Int)))
      (bsel (decide ((↑(x7.size + (x4.extract (IntKind.i64.wrap (IntKind.i64.wrap (3 * x8.tmod 3) + IntKind.i64.wrap (x8.tdiv 3))).toNat (IntKind.i64.wrap (IntKind.i64.wrap (IntKind.i64.wrap (3 * x8.tmod 3) + IntKind.i64.wrap (x8.tdiv 3)) + 1)).toNat).size) : Int) ≤ (↑limit : Int)))
       (c16 (x4) (x5) (x6) (x7 ++ x4.extract (IntKind.i64.wrap (IntKind.i64.wrap (3 * x8.tmod 3) + IntKind.i64.wrap (x8.tdiv 3))).toNat (IntKind.i64.wrap (IntKind.i64.wrap (IntKind.i64.wrap (3 * x8.tmod 3) + IntKind.i64.wrap (x8.tdiv 3)) + 1)).toNat) (IntKind.i64.wrap (x8 + 1)))
       none)
      none)
     none)
    none)
   (ret (meetV x6 x7 == x5)))
def L7_16 : Nat → (ByteArray) → (Bool) → (ByteArray) → (ByteArray) → (Int) → Option (Bool)
  | 0, _, _, _, _, _ => none
  | k + 1, x4, x5, x6, x7, x8 => T7_16 some (L7_16 k) x4 x5 x6 x7 x8
def T7 {ρ : Type} (ret : (Bool) → Option ρ) (c16 : (ByteArray) → (Bool) → (ByteArray) → (ByteArray) → (Int) → Option ρ) (a0 : ByteArray) : Option ρ :=
  (bsel (isBytes (bytesF a0))
   (bsel (decide ((↑(unBytes (bytesF a0)).size : Int) > 1048576))
    (ret (true))
    (bsel (isBytes (bytesF a0) && decide ((unBytes (bytesF a0)).size ≤ 1048576))
     (bsel (!meetV (drawMatchesV (unBytes (bytesF a0))).fst (drawMatchesV (unBytes (bytesF a0))).snd == meetV (drawMatchesV (unBytes (bytesF a0))).fst (drawMatchesV (unBytes (bytesF a0))).snd)
      (ret (false))
      (bsel ((transV (drawMatchesV (unBytes (bytesF a0))).fst).toList == (ByteArray.mk #[]).toList)
       (bsel ((!meetV (drawMatchesV (unBytes (bytesF a0))).fst (drawMatchesV (unBytes (bytesF a0))).snd) == true)
        (ret ((transV (drawMatchesV (unBytes (bytesF a0))).fst).toList == (ByteArray.mk #[]).toList))
        (ret (false)))
       (bsel ((!meetV (drawMatchesV (unBytes (bytesF a0))).fst (drawMatchesV (unBytes (bytesF a0))).fst) == false)
        (bsel ((!maskV (drawMatchesV (unBytes (bytesF a0))).fst) == false)
         (bsel ((!meetV (drawMatchesV (unBytes (bytesF a0))).fst (ByteArray.mk #[42, 42, 42, 42, 42, 42, 42, 42, 42])) == false)
          (bsel (!(transV (transV (drawMatchesV (unBytes (bytesF a0))).fst)).toList == (drawMatchesV (unBytes (bytesF a0))).fst.toList)
           (ret (false))
           (bsel (!maskV (drawMatchesV (unBytes (bytesF a0))).snd)
            (ret (!meetV (drawMatchesV (unBytes (bytesF a0))).fst (drawMatchesV (unBytes (bytesF a0))).snd))
            (c16 ((drawMatchesV (unBytes (bytesF a0))).snd) (meetV (drawMatchesV (unBytes (bytesF a0))).fst (drawMatchesV (unBytes (bytesF a0))).snd) (transV (drawMatchesV (unBytes (bytesF a0))).fst) ((ByteArray.mk #[])) (0))))
          (ret (false)))
         (ret (false)))
        (ret (false)))))
     none))
   none)
def G7 (k : Nat) (a0 : ByteArray) : Option (Bool) := T7 some (L7_16 k) a0
theorem t7_16 : ∀ (k : Nat) (x4 : ByteArray) (x5 : Bool) (x6 : ByteArray) (x7 : ByteArray) (x8 : Int) (r : Bool), L7_16 k x4 x5 x6 x7 x8 = some r → Ends Try.prog Try.f7.results.toList (at_ Try.f7 16) (S7_16 x4 x5 x6 x7 x8) (F.bool r)
  | 0, _, _, _, _, _, _, h => nomatch h
  | k + 1, x4, x5, x6, x7, x8, r, h => by
    refine Ends.of_cut tyOK envD5_ok (T := [(16, [4, 5, 6, 7, 8], 0)]) (n := 200) ?_
    have e : runCut Try.prog (tiOf Try.prog) envD5 [(16, [4, 5, 6, 7, 8], 0)] 0 Try.f7.results.toList some 200 (at_ Try.f7 16) (S7_16 x4 x5 x6 x7 x8) = T7_16 (fun r => some (.ret (F.bool r))) (fun x4 x5 x6 x7 x8 => some (.cut (at_ Try.f7 16) (S7_16 x4 x5 x6 x7 x8))) x4 x5 x6 x7 x8 := by kernel_rfl
    rw [e]
    exact (good_sel h (fun _ h => (good_sel h (fun _ h => (good_sel h (fun _ h => (good_sel h (fun _ h => (good_sel h (fun _ h => good_cut (t7_16 k _ _ _ _ _ r h)) (fun _ h => nomatch h))) (fun _ h => nomatch h))) (fun _ h => nomatch h))) (fun _ h => nomatch h))) (fun _ h => good_ret (by cases h; rfl)))
theorem t7 (k : Nat) (a0 : ByteArray) (r : Bool) (h : G7 k a0 = some r) : Ends Try.prog Try.f7.results.toList [.code (bodyOf Try.f7)] (start Try.f7.ntmps ([bytesF a0].map .f)) (F.bool r) := by
  refine Ends.of_run tyOK envD5_ok (T := [(16, [4, 5, 6, 7, 8], 0)]) (n := 200) ?_
  have e : run Try.prog (tiOf Try.prog) envD5 [(16, [4, 5, 6, 7, 8], 0)] 0 Try.f7.results.toList some 200 [.code (bodyOf Try.f7)] (start Try.f7.ntmps ([bytesF a0].map .f)) = T7 (fun r => some (.ret (F.bool r))) (fun x4 x5 x6 x7 x8 => some (.cut (at_ Try.f7 16) (S7_16 x4 x5 x6 x7 x8))) a0 := by kernel_rfl
  rw [e]
  exact (good_sel h (fun _ h => (good_sel h (fun _ h => good_ret (by cases h; rfl)) (fun _ h => (good_sel h (fun _ h => (good_sel h (fun _ h => good_ret (by cases h; rfl)) (fun _ h => (good_sel h (fun _ h => (good_sel h (fun _ h => good_ret (by cases h; rfl)) (fun _ h => good_ret (by cases h; rfl)))) (fun _ h => (good_sel h (fun _ h => (good_sel h (fun _ h => (good_sel h (fun _ h => (good_sel h (fun _ h => good_ret (by cases h; rfl)) (fun _ h => (good_sel h (fun _ h => good_ret (by cases h; rfl)) (fun _ h => good_cut (t7_16 k _ _ _ _ _ r h)))))) (fun _ h => good_ret (by cases h; rfl)))) (fun _ h => good_ret (by cases h; rfl)))) (fun _ h => good_ret (by cases h; rfl)))))))) (fun _ h => nomatch h))))) (fun _ h => nomatch h))
theorem masks_loop {k t : ByteArray} {is : Bool} (hk : k.size = 9) : ∀ (d i : Nat) (x7 : ByteArray), i + d = 9 → x7.size = i → (∀ j : Nat, j < i → byteAt x7 j = byteAt k (turn9 j : Nat)) →
    ∃ T : ByteArray, T.size = 9 ∧ (∀ j : Nat, j < 9 → byteAt T j = byteAt k (turn9 j : Nat)) ∧ L7_16 (d + 1) k is t x7 i = some (meetV t T == is)
  | 0, i, x7, h, hx, hb => by
    obtain rfl : i = 9 := by omega
    have c1 : decide (((9 : Nat) : Int) < 9) = false := by decide
    exact ⟨x7, hx, hb, by simp only [L7_16, T7_16, c1, bsel_false]⟩
  | d + 1, i, x7, h, hx, hb => by
    have hi : i < 9 := by omega
    have hp := place11 i hi
    have hlt := turn9_lt hi
    have e0 : 3 * (i % 3) + i / 3 = turn9 i := rfl
    rw [e0] at hp
    have e1 : IntKind.i64.wrap (((turn9 i : Nat) : Int) + 1) = ((turn9 i + 1 : Nat) : Int) := by rw [wrapi (by omega) (by omega)]; omega
    have e2 : IntKind.i64.wrap ((i : Int) + 1) = ((i + 1 : Nat) : Int) := by rw [wrapi (by omega) (by omega)]; omega
    have c1 : decide ((i : Int) < 9) = true := decide_eq_true (by omega)
    have c2 : decide (0 ≤ ((turn9 i : Nat) : Int)) = true := decide_eq_true (by omega)
    have c3 : decide (((turn9 i : Nat) : Int) ≤ ((turn9 i + 1 : Nat) : Int)) = true := decide_eq_true (by omega)
    have c4 : decide (((turn9 i + 1 : Nat) : Int) ≤ (k.size : Int)) = true := decide_eq_true (by omega)
    have hs : (k.extract (turn9 i) (turn9 i + 1)).size = 1 := by rw [ByteArray.size_extract]; omega
    have c5 : decide (((x7.size + (k.extract (turn9 i) (turn9 i + 1)).size : Nat) : Int) ≤ (limit : Int)) = true := le_limit (by omega)
    have ih := masks_loop (t := t) (is := is) hk d (i + 1) (x7 ++ k.extract (turn9 i) (turn9 i + 1)) (by omega) (by rw [ByteArray.size_append, hs, hx]) fun j hj => by
      by_cases hji : j < i
      · rw [byteAt_left (by omega)]; exact hb j hji
      · obtain rfl : j = i := by omega
        rw [byteAt_right (by omega), hx, Nat.sub_self, byteAt_extract (by omega) (by omega)]
        rfl
    rw [L7_16]
    simp only [T7_16, hp, e1, e2, Int.toNat_natCast, c1, c2, c3, c4, c5, bsel_true]
    exact ih
theorem masks_true (s : ByteArray) : G7 10 s = some true := by
  unfold G7 T7
  simp only [unBytes_bytesF, isBytes_bytesF, bsel_true, Bool.true_and, trans_empty]
  by_cases hs : (s.size : Int) > 1048576
  · rw [decide_eq_true hs]; rfl
  · have c : decide (s.size ≤ 1048576) = true := decide_eq_true (by omega)
    rw [decide_eq_false hs, c]
    generalize drawMatchesV s = D
    obtain ⟨m, k⟩ := D
    simp only [bsel_true, bsel_false]
    have b1 : ∀ b : Bool, (!b == b) = false := by decide
    rw [b1]
    cases hm : matV m with
    | false =>
      simp only [bsel_false, Bool.not_false, bsel_true]
      rw [meet_nomat hm]
      rfl
    | true =>
      simp only [bsel_false, Bool.not_true]
      rw [meet_self hm, mat_mask hm]
      have hst : meetV m (ByteArray.mk #[42, 42, 42, 42, 42, 42, 42, 42, 42]) = true := meet_stars hm
      rw [hst, trans_trans hm]
      have hq : (m.toList == m.toList) = true := toList_eq.2 rfl
      rw [hq]
      simp only [Bool.not_true, beq_self_eq_true, bsel_true, bsel_false]
      cases hk : maskV k with
      | false => rw [meet_nomask hk]; rfl
      | true =>
        simp only [Bool.not_true, bsel_false]
        obtain ⟨T, h1, h2, h3⟩ := masks_loop (t := transV m) (is := meetV m k) ((mask_iff k).1 hk).1 9 0 ⟨#[]⟩ (by omega) rfl (fun j hj => by omega)
        rw [meet_turned hm ((mask_iff k).1 hk).1 h1 h2] at h3
        refine Eq.trans h3 ?_
        simp
theorem okMasks : PureOK Try.prog 7 preB (fun _ => .bool true) :=
  fn_pure_at (c := bodyOf Try.f7) Try.func7 (by kernel_rfl) (by kernel_rfl) fun xs hp => match xs, hp with
  | [b], hp => ⟨[bytesF (unBytes b)], _, ⟨(bytes_eqv hp).1, trivial⟩, t7 10 _ _ (masks_true _), .refl _⟩
end
end Go.Proofs.Ythldemeodnlhbaa.R
