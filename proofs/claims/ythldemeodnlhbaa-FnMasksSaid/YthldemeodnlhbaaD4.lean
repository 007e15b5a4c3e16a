/-
  The walk of the reader of drawn bytes: texts of letters.
-/
import Derived.Test.YthldemeodnlhbaaD3
namespace Go.Proofs.Ythldemeodnlhbaa.R
open Go
noncomputable section
set_option linter.unusedVariables false
set_option linter.unusedSimpArgs false
set_option maxRecDepth 100000
/-! ### function 35 -/
def S35_3 (s : ByteArray) (p : Int) (a1 : ByteArray) (x5 : ByteArray) (x6 : Int) : St := ⟨[(U.hp 0 0), (U.f (F.str a1)), .bad, .bad, .bad, (U.f (F.str x5)), (U.f (F.int .i64 x6)), .bad, .bad, .bad, .bad, .bad, .bad, .bad, .bad, .bad, .bad, .bad, .bad, .bad, .bad, .bad, .bad, .bad, .bad, .bad, .bad, .bad, .bad, .bad, .bad, .bad, .bad, .bad, .bad], [HO.box [U.f (bytesF s), U.f (F.int .i64 p)]]⟩
def T35_3 {ρ : Type} (ret : (ByteArray) → (Int) → Option ρ) (c3 : (ByteArray) → (Int) → (ByteArray) → (ByteArray) → (Int) → Option ρ) (s : ByteArray) (p : Int) (a1 : ByteArray) (x5 : ByteArray) (x6 : Int) : Option ρ :=
  (bsel (decide (x6 < 9))
   (bsel (isBytes (bytesF s) && rdOk (unBytes (bytesF s)) p)
    (bsel (decide (0 ≤ (belowV (unBytes (bytesF s)) p (↑a1.size : Int)).fst))
     (bsel (decide ((belowV (unBytes (bytesF s)) p (↑a1.size : Int)).fst ≤ IntKind.i64.wrap ((belowV (unBytes (bytesF s)) p (↑a1.size : Int)).fst + 1)))
      (bsel (decide (IntKind.i64.wrap ((belowV (unBytes (bytesF s)) p (↑a1.size : Int)).fst + 1) ≤ (↑a1.size : Int)))
       (bsel (decide ((↑(x5.size + (a1.extract (belowV (unBytes (bytesF s)) p (↑a1.size : Int)).fst.toNat (IntKind.i64.wrap ((belowV (unBytes (bytesF s)) p (↑a1.size : Int)).fst + 1)).toNat).size) : Int) ≤ (↑limit : Int)))
        (c3 (s) ((belowV (unBytes (bytesF s)) p (↑a1.size : Int)).snd) (a1) (x5 ++ a1.extract (belowV (unBytes (bytesF s)) p (↑a1.size : Int)).fst.toNat (IntKind.i64.wrap ((belowV (unBytes (bytesF s)) p (↑a1.size : Int)).fst + 1)).toNat) (IntKind.i64.wrap (x6 + 1)))
        none)
       none)
      none)
     none)
    none)
   (bsel (isBytes (bytesF s) && rdOk (unBytes (bytesF s)) p)
    (bsel ((onceV (unBytes (bytesF s)) p 16).fst)
     (bsel (isBytes (bytesF s) && rdOk (unBytes (bytesF s)) (onceV (unBytes (bytesF s)) p 16).snd)
      (bsel (decide (0 ≤ (belowV (unBytes (bytesF s)) (onceV (unBytes (bytesF s)) p 16).snd 9).fst))
       (bsel (decide ((belowV (unBytes (bytesF s)) (onceV (unBytes (bytesF s)) p 16).snd 9).fst ≤ (↑x5.size : Int)))
        (ret (x5.extract (Int.toNat 0) (belowV (unBytes (bytesF s)) (onceV (unBytes (bytesF s)) p 16).snd 9).fst.toNat) ((belowV (unBytes (bytesF s)) (onceV (unBytes (bytesF s)) p 16).snd 9).snd))
        none)
       none)
      none)
     (bsel (isBytes (bytesF s) && rdOk (unBytes (bytesF s)) (onceV (unBytes (bytesF s)) p 16).snd)
      (bsel ((onceV (unBytes (bytesF s)) (onceV (unBytes (bytesF s)) p 16).snd 20).fst)
       (bsel (decide (1 ≤ (↑x5.size : Int)))
        (bsel (decide ((↑x5.size : Int) ≤ (↑x5.size : Int)))
         (bsel (decide ((↑(1 + (x5.extract (Int.toNat 1) (↑x5.size : Int).toNat).size) : Int) ≤ (↑limit : Int)))
          (ret ((ByteArray.mk #[120]) ++ x5.extract (Int.toNat 1) (↑x5.size : Int).toNat) ((onceV (unBytes (bytesF s)) (onceV (unBytes (bytesF s)) p 16).snd 20).snd))
          none)
         none)
        none)
       (ret (x5) ((onceV (unBytes (bytesF s)) (onceV (unBytes (bytesF s)) p 16).snd 20).snd)))
      none))
    none))
def L35_3 : Nat → (ByteArray) → (Int) → (ByteArray) → (ByteArray) → (Int) → Option ((ByteArray) × (Int))
  | 0, _, _, _, _, _ => none
  | k + 1, s, p, a1, x5, x6 => T35_3 (fun r q => some (r, q)) (L35_3 k) s p a1 x5 x6
def T35 {ρ : Type} (ret : (ByteArray) → (Int) → Option ρ) (c3 : (ByteArray) → (Int) → (ByteArray) → (ByteArray) → (Int) → Option ρ) (s : ByteArray) (p : Int) (a1 : ByteArray) : Option ρ :=
  (c3 (s) (p) (a1) ((ByteArray.mk #[])) (0))
def G35 (k : Nat) (s : ByteArray) (p : Int) (a1 : ByteArray) : Option ((ByteArray) × (Int)) := T35 (fun r q => some (r, q)) (L35_3 k) s p a1
theorem t35_3 : ∀ (k : Nat) (s : ByteArray) (p : Int) (a1 : ByteArray) (x5 : ByteArray) (x6 : Int) (r : ByteArray) (q : Int), L35_3 k s p a1 x5 x6 = some (r, q) → EndsN Try.prog 1 Try.f35.results.toList (at_ Try.f35 3) (S35_3 s p a1 x5 x6) (F.tup [F.str r, F.agg [bytesF s, F.int .i64 q]])
  | 0, _, _, _, _, _, _, _, h => nomatch h
  | k + 1, s, p, a1, x5, x6, r, q, h => by
    refine Ends.of_cut tyOK envD3_ok (T := [(3, [0, 1, 5, 6], 1)]) (n := 200) ?_
    have e : runCut Try.prog (tiOf Try.prog) envD3 [(3, [0, 1, 5, 6], 1)] 1 Try.f35.results.toList some 200 (at_ Try.f35 3) (S35_3 s p a1 x5 x6) = T35_3 (fun r q => some (.ret (F.tup [F.str r, F.agg [bytesF s, F.int .i64 q]]))) (fun s p a1 x5 x6 => some (.cut (at_ Try.f35 3) (S35_3 s p a1 x5 x6))) s p a1 x5 x6 := by kernel_rfl
    rw [e]
    exact (good_sel h (fun _ h => (good_sel h (fun _ h => (good_sel h (fun _ h => (good_sel h (fun _ h => (good_sel h (fun _ h => (good_sel h (fun _ h => good_cut (t35_3 k _ _ _ _ _ r q h)) (fun _ h => nomatch h))) (fun _ h => nomatch h))) (fun _ h => nomatch h))) (fun _ h => nomatch h))) (fun _ h => nomatch h))) (fun _ h => (good_sel h (fun _ h => (good_sel h (fun _ h => (good_sel h (fun _ h => (good_sel h (fun _ h => (good_sel h (fun _ h => good_ret (by cases h; rfl)) (fun _ h => nomatch h))) (fun _ h => nomatch h))) (fun _ h => nomatch h))) (fun _ h => (good_sel h (fun _ h => (good_sel h (fun _ h => (good_sel h (fun _ h => (good_sel h (fun _ h => (good_sel h (fun _ h => good_ret (by cases h; rfl)) (fun _ h => nomatch h))) (fun _ h => nomatch h))) (fun _ h => nomatch h))) (fun _ h => good_ret (by cases h; rfl)))) (fun _ h => nomatch h))))) (fun _ h => nomatch h))))
theorem t35 (k : Nat) (s : ByteArray) (p : Int) (a1 : ByteArray) (r : ByteArray) (q : Int) (h : G35 k s p a1 = some (r, q)) : EndsN Try.prog 1 Try.f35.results.toList [.code (bodyOf Try.f35)] (startN Try.f35.ntmps [U.hp 0 0, U.f (F.str a1)] [HO.box [U.f (bytesF s), U.f (F.int .i64 p)]]) (F.tup [F.str r, F.agg [bytesF s, F.int .i64 q]]) := by
  refine Ends.of_run tyOK envD3_ok (T := [(3, [0, 1, 5, 6], 1)]) (n := 200) ?_
  have e : run Try.prog (tiOf Try.prog) envD3 [(3, [0, 1, 5, 6], 1)] 1 Try.f35.results.toList some 200 [.code (bodyOf Try.f35)] (startN Try.f35.ntmps [U.hp 0 0, U.f (F.str a1)] [HO.box [U.f (bytesF s), U.f (F.int .i64 p)]]) = T35 (fun r q => some (.ret (F.tup [F.str r, F.agg [bytesF s, F.int .i64 q]]))) (fun s p a1 x5 x6 => some (.cut (at_ Try.f35 3) (S35_3 s p a1 x5 x6))) s p a1 := by kernel_rfl
  rw [e]
  exact good_cut (t35_3 k _ _ _ _ _ r q h)
theorem le_limit {x : Int} (h : x ≤ 17592186044416) : decide (x ≤ (limit : Int)) = true := by rw [limit_eq]; exact decide_eq_true h
theorem letters_loop {s a1 : ByteArray} (h1 : 1 ≤ a1.size) (h2 : a1.size ≤ 100) : ∀ (d i : Nat) (p : Int) (x5 : ByteArray), i + d = 9 → rdOk s p = true → x5.size = i →
    ∃ r q, L35_3 (d + 1) s p a1 x5 i = some (r, q) ∧ r.size ≤ 9 ∧ rdOk s q = true
  | 0, i, p, x5, h, hr, hx => by
    obtain rfl : i = 9 := by omega
    obtain ⟨o1, o2⟩ := once_ok hr 16
    obtain ⟨b1, b2, b3, b4⟩ := below_ok o2 9
    obtain ⟨p1, p2⟩ := once_ok o2 20
    have c1 : decide (((9 : Nat) : Int) < 9) = false := by decide
    have c2 : decide (1 ≤ (x5.size : Int)) = true := by rw [hx]; decide
    have c3 : decide (0 ≤ (belowV s (onceV s p 16).2 9).1) = true := decide_eq_true b2
    have c4 : decide ((belowV s (onceV s p 16).2 9).1 ≤ (x5.size : Int)) = true := decide_eq_true (by omega)
    have c5 : decide ((x5.size : Int) ≤ (x5.size : Int)) = true := decide_eq_true (Int.le_refl _)
    simp only [L35_3, T35_3, unBytes_bytesF, isBytes_bytesF, hr, o2, c1, c2, c3, c4, c5, Bool.and_self, bsel_true, bsel_false]
    cases (onceV s p 16).1 with
    | true => exact ⟨_, _, rfl, by rw [ByteArray.size_extract]; omega, b4⟩
    | false =>
      simp only [bsel_false]
      cases (onceV s (onceV s p 16).2 20).1 with
      | false => exact ⟨_, _, rfl, by omega, p2⟩
      | true =>
        have hs : (x5.extract (Int.toNat 1) (x5.size : Int).toNat).size = 8 := by rw [ByteArray.size_extract]; simp; omega
        have c6 : decide (((1 + (x5.extract (Int.toNat 1) (x5.size : Int).toNat).size : Nat) : Int) ≤ (limit : Int)) = true := le_limit (by omega)
        simp only [c6, bsel_true]
        refine ⟨_, _, rfl, ?_, p2⟩
        rw [ByteArray.size_append, hs]
        decide
  | d + 1, i, p, x5, h, hr, hx => by
    obtain ⟨b1, b2, b3, b4⟩ := below_ok hr (a1.size : Int)
    have e1 : IntKind.i64.wrap ((belowV s p (a1.size : Int)).1 + 1) = (belowV s p (a1.size : Int)).1 + 1 := wrapi (by omega) (by omega)
    have e2 : IntKind.i64.wrap ((i : Int) + 1) = ((i + 1 : Nat) : Int) := by rw [wrapi (by omega) (by omega)]; omega
    have c1 : decide ((i : Int) < 9) = true := decide_eq_true (by omega)
    have c3 : decide (0 ≤ (belowV s p (a1.size : Int)).1) = true := decide_eq_true b2
    have c4 : decide ((belowV s p (a1.size : Int)).1 ≤ (belowV s p (a1.size : Int)).1 + 1) = true := decide_eq_true (by omega)
    have c5 : decide ((belowV s p (a1.size : Int)).1 + 1 ≤ (a1.size : Int)) = true := decide_eq_true (by omega)
    have hs : (a1.extract (belowV s p (a1.size : Int)).1.toNat ((belowV s p (a1.size : Int)).1 + 1).toNat).size = 1 := by rw [ByteArray.size_extract]; omega
    have c6 : decide (((x5.size + (a1.extract (belowV s p (a1.size : Int)).1.toNat ((belowV s p (a1.size : Int)).1 + 1).toNat).size : Nat) : Int) ≤ (limit : Int)) = true := le_limit (by omega)
    have ih := letters_loop h1 h2 d (i + 1) (belowV s p (a1.size : Int)).2 (x5 ++ a1.extract (belowV s p (a1.size : Int)).1.toNat ((belowV s p (a1.size : Int)).1 + 1).toNat) (by omega) b4 (by rw [ByteArray.size_append, hs, hx])
    rw [L35_3]
    simp only [T35_3, unBytes_bytesF, isBytes_bytesF, hr, e1, e2, c1, c3, c4, c5, c6, Bool.and_self, bsel_true, bsel_false]
    exact ih
def lettersV (s : ByteArray) (p : Int) (a1 : ByteArray) : ByteArray × Int := (G35 10 s p a1).getD (⟨#[]⟩, 0)
theorem letters_ok {s a1 : ByteArray} {p : Int} (h : rdOk s p = true) (h1 : 1 ≤ a1.size) (h2 : a1.size ≤ 100) :
    G35 10 s p a1 = some (lettersV s p a1) ∧ (lettersV s p a1).1.size ≤ 9 ∧ rdOk s (lettersV s p a1).2 = true := by
  obtain ⟨r, q, e, k1, k2⟩ := letters_loop h1 h2 9 0 p ⟨#[]⟩ (by omega) h rfl
  have : G35 10 s p a1 = some (r, q) := e
  unfold lettersV
  rw [this]
  exact ⟨rfl, k1, k2⟩
theorem okLetters : SpOK Try.prog 35 (ptrSp (fun cs xs => match xs with | [.str a] => preR cs && decide (1 ≤ a.size ∧ a.size ≤ 100) | _ => false) (fun cs xs => match xs with | [.str a] => rd (fun s p => (.str (lettersV s p a).1, (lettersV s p a).2)) cs | _ => (.dflt, cs))) :=
  fn_ptr_at (c := bodyOf Try.f35) Try.func35 (by kernel_rfl) (by kernel_rfl) fun cs xs hp => by
    split at hp
    · rename_i a
      simp only [Bool.and_eq_true, decide_eq_true_eq] at hp
      obtain ⟨b, p, rfl, hb, hr⟩ := preR_open hp.1
      obtain ⟨h1, _⟩ := letters_ok hr hp.2.1 hp.2.2
      exact ⟨[bytesF (unBytes b), .int .i64 p], [.str a], _, _, ⟨(bytes_eqv hb).1, .refl _, trivial⟩, ⟨.refl _, trivial⟩, t35 _ _ _ _ _ _ h1, .refl _, ⟨(bytes_eqv hb).2, .refl _, trivial⟩⟩
    · cases hp
def envD4 : Env := envD3.add 35 (ptrSp (fun cs xs => match xs with | [.str a] => preR cs && decide (1 ≤ a.size ∧ a.size ≤ 100) | _ => false) (fun cs xs => match xs with | [.str a] => rd (fun s p => (.str (lettersV s p a).1, (lettersV s p a).2)) cs | _ => (.dflt, cs)))
theorem envD4_ok : EnvOK Try.prog envD4 := Env.add_ok envD3_ok okLetters
end
end Go.Proofs.Ythldemeodnlhbaa.R
