/-
  The walk of the reader of drawn bytes: a word.
-/
import Derived.Test.YtjbilidfnfnpfaaD3
namespace Go.Proofs.Ytjbilidfnfnpfaa.R
open Go
set_option linter.unusedVariables false
set_option linter.unusedSimpArgs false
set_option maxRecDepth 100000
/-- A reader's method, by its arguments, the bytes and the place. -/
abbrev rdSp (pre : List F → Bool) (V : List F → ByteArray → Int → F × Int) : Sp := ptrSp (fun cs xs => preR cs && pre xs) (fun cs xs => rd (V xs) cs)
theorem ok_rd {f : FuncId} {fn : Func} {c : Code} (hf : Try.prog.funcs[f]? = some fn) (hb : fn.body = some c) (hname : (fn.name == "runtime.NumGoroutine") = false) {pre : List F → Bool} {V : List F → ByteArray → Int → F × Int}
    (h : ∀ xs s p, pre xs = true → rdOk s p = true → ∃ r, FLe r (V xs s p).1 ∧ EndsN Try.prog 1 fn.results.toList [.code c] (startN fn.ntmps (U.hp 0 0 :: xs.map U.f) [HO.box [U.f (bytesF s), U.f (F.int .i64 p)]]) (.tup [r, .agg [bytesF s, .int .i64 (V xs s p).2]])) :
    SpOK Try.prog f (rdSp pre V) :=
  fn_ptr_at hf hb hname fun cs xs hp => by
    simp only [Bool.and_eq_true] at hp
    obtain ⟨b, p, rfl, hb, hr⟩ := preR_open hp.1
    obtain ⟨r, h1, h2⟩ := h xs (unBytes b) p hp.2 hr
    exact ⟨[bytesF (unBytes b), .int .i64 p], xs, r, _, ⟨(bytes_eqv hb).1, .refl _, trivial⟩, FsLe.refl _, h2, h1, ⟨(bytes_eqv hb).2, .refl _, trivial⟩⟩
def isNone : List F → Bool | [] => true | _ => false
/-! ### function 134 -/
def S134_3 (s : ByteArray) (p : Int) (x3 : Int) (x4 : Int) : St := ⟨[(U.hp 0 0), .bad, .bad, (U.f (F.int .u64 x3)), (U.f (F.int .i64 x4)), .bad, .bad, .bad, .bad, .bad, .bad, .bad, .bad, .bad, .bad, .bad], [HO.box [U.f (bytesF s), U.f (F.int .i64 p)]]⟩
def T134_3 {ρ : Type} (ret : (Int) → (Int) → Option ρ) (c3 : (ByteArray) → (Int) → (Int) → (Int) → Option ρ) (s : ByteArray) (p : Int) (x3 : Int) (x4 : Int) : Option ρ :=
  (bsel (decide (x4 < 8))
   (bsel (isBytes (bytesF s) && rdOk (unBytes (bytesF s)) p)
    (c3 (s) ((nextV (unBytes (bytesF s)) p).snd) (bitsOp BinOp.or IntKind.u64 (IntKind.u64.wrap (x3 * 2 ^ min (Int.toNat 8) IntKind.u64.bits)) (IntKind.u64.wrap (nextV (unBytes (bytesF s)) p).fst)) (IntKind.i64.wrap (x4 + 1)))
    none)
   (ret (x3) (p)))
def L134_3 : Nat → (ByteArray) → (Int) → (Int) → (Int) → Option ((Int) × (Int))
  | 0, _, _, _, _ => none
  | k + 1, s, p, x3, x4 => T134_3 (fun r q => some (r, q)) (L134_3 k) s p x3 x4
def T134 {ρ : Type} (ret : (Int) → (Int) → Option ρ) (c3 : (ByteArray) → (Int) → (Int) → (Int) → Option ρ) (s : ByteArray) (p : Int) : Option ρ :=
  (c3 (s) (p) (0) (0))
def G134 (k : Nat) (s : ByteArray) (p : Int) : Option ((Int) × (Int)) := T134 (fun r q => some (r, q)) (L134_3 k) s p
theorem t134_3 : ∀ (k : Nat) (s : ByteArray) (p : Int) (x3 : Int) (x4 : Int) (r : Int) (q : Int), L134_3 k s p x3 x4 = some (r, q) → EndsN Try.prog 1 Try.f134.results.toList (at_ Try.f134 3) (S134_3 s p x3 x4) (F.tup [F.int .u64 r, F.agg [bytesF s, F.int .i64 q]])
  | 0, _, _, _, _, _, _, h => nomatch h
  | k + 1, s, p, x3, x4, r, q, h => by
    refine Ends.of_cut tyOK envD3_ok (T := [(3, [0, 3, 4], 1)]) (n := 200) ?_
    have e : runCut Try.prog (tiOf Try.prog) envD3 [(3, [0, 3, 4], 1)] 1 Try.f134.results.toList some 200 (at_ Try.f134 3) (S134_3 s p x3 x4) = T134_3 (fun r q => some (.ret (F.tup [F.int .u64 r, F.agg [bytesF s, F.int .i64 q]]))) (fun s p x3 x4 => some (.cut (at_ Try.f134 3) (S134_3 s p x3 x4))) s p x3 x4 := by kernel_rfl
    rw [e]
    exact (good_sel h (fun _ h => (good_sel h (fun _ h => good_cut (t134_3 k _ _ _ _ r q h)) (fun _ h => nomatch h))) (fun _ h => good_ret (by cases h; rfl)))
theorem t134 (k : Nat) (s : ByteArray) (p : Int) (r : Int) (q : Int) (h : G134 k s p = some (r, q)) : EndsN Try.prog 1 Try.f134.results.toList [.code (bodyOf Try.f134)] (startN Try.f134.ntmps [U.hp 0 0] [HO.box [U.f (bytesF s), U.f (F.int .i64 p)]]) (F.tup [F.int .u64 r, F.agg [bytesF s, F.int .i64 q]]) := by
  refine Ends.of_run tyOK envD3_ok (T := [(3, [0, 3, 4], 1)]) (n := 200) ?_
  have e : run Try.prog (tiOf Try.prog) envD3 [(3, [0, 3, 4], 1)] 1 Try.f134.results.toList some 200 [.code (bodyOf Try.f134)] (startN Try.f134.ntmps [U.hp 0 0] [HO.box [U.f (bytesF s), U.f (F.int .i64 p)]]) = T134 (fun r q => some (.ret (F.tup [F.int .u64 r, F.agg [bytesF s, F.int .i64 q]]))) (fun s p x3 x4 => some (.cut (at_ Try.f134 3) (S134_3 s p x3 x4))) s p := by kernel_rfl
  rw [e]
  exact good_cut (t134_3 k _ _ _ _ r q h)
theorem word_loop {s : ByteArray} : ∀ (d i : Nat) (p x : Int), i + d = 8 → rdOk s p = true → ∃ r q, L134_3 (d + 1) s p x i = some (r, q) ∧ rdOk s q = true
  | 0, i, p, x, h, hr => by
    obtain rfl : i = 8 := by omega
    have c1 : decide (((8 : Nat) : Int) < 8) = false := by decide
    exact ⟨x, p, by simp only [L134_3, T134_3, c1, bsel_false], hr⟩
  | d + 1, i, p, x, h, hr => by
    obtain ⟨h1, h2, h3, h4⟩ := next_ok hr
    have c1 : decide ((i : Int) < 8) = true := decide_eq_true (by omega)
    have e2 : IntKind.i64.wrap ((i : Int) + 1) = ((i + 1 : Nat) : Int) := by rw [wrapi (by omega) (by omega)]; omega
    rw [L134_3]
    simp only [T134_3, unBytes_bytesF, isBytes_bytesF, hr, c1, e2, Bool.and_self, bsel_true]
    exact word_loop d (i + 1) _ _ (by omega) h4
def wordV (s : ByteArray) (p : Int) : Int × Int := (G134 9 s p).getD (0, 0)
theorem word_ok {s : ByteArray} {p : Int} (h : rdOk s p = true) : G134 9 s p = some (wordV s p) ∧ rdOk s (wordV s p).2 = true := by
  obtain ⟨r, q, e, k⟩ := word_loop 8 0 p 0 (by omega) h
  have : G134 9 s p = some (r, q) := e
  unfold wordV
  rw [this]
  exact ⟨rfl, k⟩
theorem okWord : SpOK Try.prog 134 (rdSp isNone fun _ s p => (.int .u64 (wordV s p).1, (wordV s p).2)) :=
  ok_rd (c := bodyOf Try.f134) Try.func134 (by kernel_rfl) (by kernel_rfl) fun xs s p hx hr => match xs, hx with
  | [], _ => ⟨_, .refl _, t134 9 s p _ _ (word_ok hr).1⟩
def envD7 : Env := envD3.add 134 (rdSp isNone fun _ s p => (.int .u64 (wordV s p).1, (wordV s p).2))
theorem envD7_ok : EnvOK Try.prog envD7 := Env.add_ok envD3_ok okWord
end Go.Proofs.Ytjbilidfnfnpfaa.R
