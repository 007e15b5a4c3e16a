/-
  The walk of the reader of drawn bytes: a number below another.
-/
import Derived.Test.YtjbilidfnfnpfaaD1
namespace Go.Proofs.Ytjbilidfnfnpfaa.R
open Go
set_option linter.unusedVariables false
set_option linter.unusedSimpArgs false
set_option maxRecDepth 100000
/-! ### function 98 -/
def T98 {ρ : Type} (ret : (Int) → (Int) → Option ρ) (s : ByteArray) (p : Int) (n : Int) : Option ρ :=
  (bsel (decide (n ≤ 1))
   (ret (0) (p))
   (bsel (decide (n ≤ 256))
    (bsel (isBytes (bytesF s) && rdOk (unBytes (bytesF s)) p)
     (bsel (n != 0)
      (ret ((nextV (unBytes (bytesF s)) p).fst.tmod n) ((nextV (unBytes (bytesF s)) p).snd))
      none)
     none)
    (bsel (isBytes (bytesF s) && rdOk (unBytes (bytesF s)) p)
     (bsel (isBytes (bytesF s) && rdOk (unBytes (bytesF s)) (nextV (unBytes (bytesF s)) p).snd)
      (bsel (n != 0)
       (ret ((IntKind.i64.wrap (IntKind.i64.wrap ((nextV (unBytes (bytesF s)) p).fst * 256) + (nextV (unBytes (bytesF s)) (nextV (unBytes (bytesF s)) p).snd).fst)).tmod n) ((nextV (unBytes (bytesF s)) (nextV (unBytes (bytesF s)) p).snd).snd))
       none)
      none)
     none)))
def G98 (s : ByteArray) (p : Int) (n : Int) : Option ((Int) × (Int)) := T98 (fun r q => some (r, q)) s p n
theorem t98 (s : ByteArray) (p : Int) (n : Int) (r : Int) (q : Int) (h : G98 s p n = some (r, q)) : EndsN Try.prog 1 Try.f98.results.toList [.code (bodyOf Try.f98)] (startN Try.f98.ntmps [U.hp 0 0, U.f (F.int .i64 n)] [HO.box [U.f (bytesF s), U.f (F.int .i64 p)]]) (F.tup [F.int .i64 r, F.agg [bytesF s, F.int .i64 q]]) := by
  refine Ends.of_run tyOK envD1_ok (T := []) (n := 200) ?_
  have e : run Try.prog (tiOf Try.prog) envD1 [] 1 Try.f98.results.toList some 200 [.code (bodyOf Try.f98)] (startN Try.f98.ntmps [U.hp 0 0, U.f (F.int .i64 n)] [HO.box [U.f (bytesF s), U.f (F.int .i64 p)]]) = T98 (fun r q => some (.ret (F.tup [F.int .i64 r, F.agg [bytesF s, F.int .i64 q]]))) s p n := by kernel_rfl
  rw [e]
  exact (good_sel h (fun _ h => good_ret (by cases h; rfl)) (fun _ h => (good_sel h (fun _ h => (good_sel h (fun _ h => (good_sel h (fun _ h => good_ret (by cases h; rfl)) (fun _ h => nomatch h))) (fun _ h => nomatch h))) (fun _ h => (good_sel h (fun _ h => (good_sel h (fun _ h => (good_sel h (fun _ h => good_ret (by cases h; rfl)) (fun _ h => nomatch h))) (fun _ h => nomatch h))) (fun _ h => nomatch h))))))
def belowV (s : ByteArray) (p n : Int) : Int × Int := (G98 s p n).getD (0, 0)
theorem below_ok {s : ByteArray} {p : Int} (h : rdOk s p = true) (n : Int) :
    G98 s p n = some (belowV s p n) ∧ 0 ≤ (belowV s p n).1 ∧ ((belowV s p n).1 < n ∨ (belowV s p n).1 = 0) ∧ rdOk s (belowV s p n).2 = true := by
  obtain ⟨h1, h2, h3, h4⟩ := next_ok h
  obtain ⟨k1, k2, k3, k4⟩ := next_ok h4
  unfold belowV G98 T98
  simp only [unBytes_bytesF, isBytes_bytesF, h, h4, Bool.and_self, bsel_true]
  by_cases c1 : n ≤ 1
  · simp only [decide_eq_true c1, bsel_true, Option.getD_some]
    exact ⟨trivial, by omega, .inr trivial, h⟩
  · have hn : (n != 0) = true := by simp; omega
    simp only [decide_eq_false c1, bsel_false, hn, bsel_true]
    by_cases c2 : n ≤ 256
    · simp only [decide_eq_true c2, bsel_true, Option.getD_some]
      exact ⟨trivial, Int.tmod_nonneg _ h2, .inl (Int.tmod_lt_of_pos _ (by omega)), h4⟩
    · simp only [decide_eq_false c2, bsel_false, Option.getD_some]
      refine ⟨trivial, Int.tmod_nonneg _ ?_, .inl (Int.tmod_lt_of_pos _ (by omega)), k4⟩
      rw [wrapi (x := (nextV s p).1 * 256) (by omega) (by omega), wrapi (by omega) (by omega)]
      omega
theorem okBelow : SpOK Try.prog 98 (ptrSp (fun cs xs => match xs with | [.int .i64 n] => preR cs | _ => false) (fun cs xs => match xs with | [.int .i64 n] => rd (fun s p => (.int .i64 (belowV s p n).1, (belowV s p n).2)) cs | _ => (.dflt, cs))) :=
  fn_ptr_at (c := bodyOf Try.f98) Try.func98 (by kernel_rfl) (by kernel_rfl) fun cs xs hp => by
    split at hp
    · rename_i n
      obtain ⟨b, p, rfl, hb, hr⟩ := preR_open hp
      obtain ⟨h1, _⟩ := below_ok hr n
      exact ⟨[bytesF (unBytes b), .int .i64 p], [.int .i64 n], _, _, ⟨(bytes_eqv hb).1, .refl _, trivial⟩, ⟨.refl _, trivial⟩, t98 _ _ _ _ _ h1, .refl _, ⟨(bytes_eqv hb).2, .refl _, trivial⟩⟩
    · cases hp
def envD2 : Env := envD1.add 98 (ptrSp (fun cs xs => match xs with | [.int .i64 n] => preR cs | _ => false) (fun cs xs => match xs with | [.int .i64 n] => rd (fun s p => (.int .i64 (belowV s p n).1, (belowV s p n).2)) cs | _ => (.dflt, cs)))
theorem envD2_ok : EnvOK Try.prog envD2 := Env.add_ok envD1_ok okBelow
end Go.Proofs.Ytjbilidfnfnpfaa.R
