/-
  The walk of the reader of drawn bytes: once in so many times.
-/
import Derived.Test.YtjbilidfnfnpfaaD2
namespace Go.Proofs.Ytjbilidfnfnpfaa.R
open Go
set_option linter.unusedVariables false
set_option linter.unusedSimpArgs false
set_option maxRecDepth 100000
/-! ### function 97 -/
def T97 {ρ : Type} (ret : (Bool) → (Int) → Option ρ) (s : ByteArray) (p : Int) (n : Int) : Option ρ :=
  (bsel (isBytes (bytesF s) && rdOk (unBytes (bytesF s)) p)
   (ret ((belowV (unBytes (bytesF s)) p n).fst == IntKind.i64.wrap (n - 1)) ((belowV (unBytes (bytesF s)) p n).snd))
   none)
def G97 (s : ByteArray) (p : Int) (n : Int) : Option ((Bool) × (Int)) := T97 (fun r q => some (r, q)) s p n
theorem t97 (s : ByteArray) (p : Int) (n : Int) (r : Bool) (q : Int) (h : G97 s p n = some (r, q)) : EndsN Try.prog 1 Try.f97.results.toList [.code (bodyOf Try.f97)] (startN Try.f97.ntmps [U.hp 0 0, U.f (F.int .i64 n)] [HO.box [U.f (bytesF s), U.f (F.int .i64 p)]]) (F.tup [F.bool r, F.agg [bytesF s, F.int .i64 q]]) := by
  refine Ends.of_run tyOK envD2_ok (T := []) (n := 200) ?_
  have e : run Try.prog (tiOf Try.prog) envD2 [] 1 Try.f97.results.toList some 200 [.code (bodyOf Try.f97)] (startN Try.f97.ntmps [U.hp 0 0, U.f (F.int .i64 n)] [HO.box [U.f (bytesF s), U.f (F.int .i64 p)]]) = T97 (fun r q => some (.ret (F.tup [F.bool r, F.agg [bytesF s, F.int .i64 q]]))) s p n := by kernel_rfl
  rw [e]
  exact (good_sel h (fun _ h => good_ret (by cases h; rfl)) (fun _ h => nomatch h))
def onceV (s : ByteArray) (p n : Int) : Bool × Int := (G97 s p n).getD (false, 0)
theorem once_ok {s : ByteArray} {p : Int} (h : rdOk s p = true) (n : Int) : G97 s p n = some (onceV s p n) ∧ rdOk s (onceV s p n).2 = true := by
  obtain ⟨h1, h2, h3, h4⟩ := below_ok h n
  unfold onceV G97 T97
  simp only [unBytes_bytesF, isBytes_bytesF, h, h4, Bool.and_self, bsel_true, Option.getD_some]
  exact ⟨trivial, trivial⟩
theorem okOnce : SpOK Try.prog 97 (ptrSp (fun cs xs => match xs with | [.int .i64 n] => preR cs | _ => false) (fun cs xs => match xs with | [.int .i64 n] => rd (fun s p => (.bool (onceV s p n).1, (onceV s p n).2)) cs | _ => (.dflt, cs))) :=
  fn_ptr_at (c := bodyOf Try.f97) Try.func97 (by kernel_rfl) (by kernel_rfl) fun cs xs hp => by
    split at hp
    · rename_i n
      obtain ⟨b, p, rfl, hb, hr⟩ := preR_open hp
      obtain ⟨h1, _⟩ := once_ok hr n
      exact ⟨[bytesF (unBytes b), .int .i64 p], [.int .i64 n], _, _, ⟨(bytes_eqv hb).1, .refl _, trivial⟩, ⟨.refl _, trivial⟩, t97 _ _ _ _ _ h1, .refl _, ⟨(bytes_eqv hb).2, .refl _, trivial⟩⟩
    · cases hp
def envD3 : Env := envD2.add 97 (ptrSp (fun cs xs => match xs with | [.int .i64 n] => preR cs | _ => false) (fun cs xs => match xs with | [.int .i64 n] => rd (fun s p => (.bool (onceV s p n).1, (onceV s p n).2)) cs | _ => (.dflt, cs)))
theorem envD3_ok : EnvOK Try.prog envD3 := Env.add_ok envD2_ok okOnce
end Go.Proofs.Ytjbilidfnfnpfaa.R
