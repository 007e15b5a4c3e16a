/-
  The walk of the reader of drawn bytes: one byte.
-/
import Derived.Test.YtjbilidfnfnpfaaD0
namespace Go.Proofs.Ytjbilidfnfnpfaa.R
open Go
set_option linter.unusedVariables false
set_option linter.unusedSimpArgs false
set_option maxRecDepth 100000
/-! ### function 29 -/
def T29 {ρ : Type} (ret : (Bool) → Option ρ) (a0 : ByteArray) : Option ρ :=
  (ret (decide ((↑a0.size : Int) > 1048576)))
def G29 (a0 : ByteArray) : Option (Bool) := T29 some a0
theorem t29 (a0 : ByteArray) (r : Bool) (h : G29 a0 = some r) : Ends Try.prog Try.f29.results.toList [.code (bodyOf Try.f29)] (start Try.f29.ntmps ([bytesF a0].map .f)) (F.bool r) := by
  refine Ends.of_run tyOK env0_ok (T := []) (n := 200) ?_
  have e : run Try.prog (tiOf Try.prog) env0 [] 0 Try.f29.results.toList some 200 [.code (bodyOf Try.f29)] (start Try.f29.ntmps ([bytesF a0].map .f)) = T29 (fun r => some (.ret (F.bool r))) a0 := by kernel_rfl
  rw [e]
  exact good_ret (by cases h; rfl)
/-! ### function 130 -/
def T130 {ρ : Type} (ret : (Int) → (Int) → Option ρ) (s : ByteArray) (p : Int) : Option ρ :=
  (bsel (decide (p ≥ (↑s.size : Int)))
   (ret (0) (p))
   (bsel (decide (0 ≤ IntKind.i64.wrap (IntKind.i64.wrap (p + 1) - 1)))
    (bsel (decide (IntKind.i64.wrap (IntKind.i64.wrap (p + 1) - 1) < (↑s.size : Int)))
     (ret (IntKind.i64.wrap (byteAt s (↑(IntKind.i64.wrap (IntKind.i64.wrap (p + 1) - 1)).toNat : Int))) (IntKind.i64.wrap (p + 1)))
     none)
    none))
def G130 (s : ByteArray) (p : Int) : Option ((Int) × (Int)) := T130 (fun r q => some (r, q)) s p
theorem t130 (s : ByteArray) (p : Int) (r : Int) (q : Int) (h : G130 s p = some (r, q)) : EndsN Try.prog 1 Try.f130.results.toList [.code (bodyOf Try.f130)] (startN Try.f130.ntmps [U.hp 0 0] [HO.box [U.f (bytesF s), U.f (F.int .i64 p)]]) (F.tup [F.int .i64 r, F.agg [bytesF s, F.int .i64 q]]) := by
  refine Ends.of_run tyOK env0_ok (T := []) (n := 200) ?_
  have e : run Try.prog (tiOf Try.prog) env0 [] 1 Try.f130.results.toList some 200 [.code (bodyOf Try.f130)] (startN Try.f130.ntmps [U.hp 0 0] [HO.box [U.f (bytesF s), U.f (F.int .i64 p)]]) = T130 (fun r q => some (.ret (F.tup [F.int .i64 r, F.agg [bytesF s, F.int .i64 q]]))) s p := by kernel_rfl
  rw [e]
  exact (good_sel h (fun _ h => good_ret (by cases h; rfl)) (fun _ h => (good_sel h (fun _ h => (good_sel h (fun _ h => good_ret (by cases h; rfl)) (fun _ h => nomatch h))) (fun _ h => nomatch h))))
/-! ### function 67 -/
def T67 {ρ : Type} (ret : (Int) → Option ρ) (a0 : ByteArray) : Option ρ :=
  (ret (0))
def G67 (a0 : ByteArray) : Option (Int) := T67 some a0
theorem t67 (a0 : ByteArray) (r : Int) (h : G67 a0 = some r) : Ends Try.prog [ResultVar.cell 2 142] [.code (bodyOf Try.f67)] (start Try.f67.ntmps ([bytesF a0].map .f)) (F.agg [bytesF a0, F.int .i64 r]) := by
  refine Ends.of_run tyOK env0_ok (T := []) (n := 200) ?_
  have e : run Try.prog (tiOf Try.prog) env0 [] 0 [ResultVar.cell 2 142] some 200 [.code (bodyOf Try.f67)] (start Try.f67.ntmps ([bytesF a0].map .f)) = T67 (fun r => some (.ret (F.agg [bytesF a0, F.int .i64 r]))) a0 := by kernel_rfl
  rw [e]
  exact good_ret (by cases h; rfl)
theorem wrapi {x : Int} (h0 : -9223372036854775808 ≤ x) (h1 : x ≤ 9223372036854775807) : IntKind.i64.wrap x = x := by
  unfold IntKind.wrap
  simp [IntKind.bits, IntKind.signed]
  omega
def preB : List F → Bool | [b] => isBytes b | _ => false
theorem okBig : SpOK Try.prog 29 (.pure preB (fun xs => match xs with | [b] => .bool (decide (((unBytes b).size : Int) > 1048576)) | _ => .bool false)) :=
  fn_pure_at (c := bodyOf Try.f29) Try.func29 (by kernel_rfl) (by kernel_rfl) fun xs hp => match xs, hp with
  | [b], hp => ⟨[bytesF (unBytes b)], _, ⟨(bytes_eqv hp).1, trivial⟩, t29 (unBytes b) _ rfl, .refl _⟩
/-- A reader stands inside its bytes. -/
def rdOk (s : ByteArray) (p : Int) : Bool := decide (0 ≤ p ∧ p ≤ s.size ∧ s.size ≤ 1048576)
theorem rdOk_iff {s : ByteArray} {p : Int} : rdOk s p = true ↔ 0 ≤ p ∧ p ≤ s.size ∧ s.size ≤ 1048576 := by simp [rdOk]
def nextV (s : ByteArray) (p : Int) : Int × Int := (G130 s p).getD (0, 0)
theorem next_ok {s : ByteArray} {p : Int} (h : rdOk s p = true) : G130 s p = some (nextV s p) ∧ 0 ≤ (nextV s p).1 ∧ (nextV s p).1 < 256 ∧ rdOk s (nextV s p).2 = true := by
  obtain ⟨h1, h2, h3⟩ := rdOk_iff.1 h
  unfold nextV G130 T130
  by_cases hp : p ≥ s.size
  · have c1 : decide (p ≥ (s.size : Int)) = true := decide_eq_true hp
    simp only [c1, bsel_true, Option.getD_some]
    exact ⟨trivial, by omega, by omega, h⟩
  · have c1 : decide (p ≥ (s.size : Int)) = false := decide_eq_false hp
    have e : IntKind.i64.wrap (IntKind.i64.wrap (p + 1) - 1) = p := by rw [wrapi (x := p + 1) (by omega) (by omega), wrapi (by omega) (by omega)]; omega
    have c2 : decide (0 ≤ p) = true := decide_eq_true h1
    have c3 : decide (p < (s.size : Int)) = true := decide_eq_true (by omega)
    simp only [c1, e, c2, c3, bsel_true, bsel_false, Option.getD_some]
    obtain ⟨b1, b2⟩ := byteAt_rng s (p.toNat : Int)
    refine ⟨trivial, ?_, ?_, ?_⟩
    · rw [wrapi (by omega) (by omega)]; exact b1
    · rw [wrapi (by omega) (by omega)]; exact b2
    · rw [wrapi (by omega) (by omega)]; exact rdOk_iff.2 (by omega)
/-- What a reader's method asks of the reader. -/
def preR : List F → Bool
  | [b, .int .i64 p] => isBytes b && rdOk (unBytes b) p
  | _ => false
def rd (V : ByteArray → Int → F × Int) : List F → F × List F
  | [b, .int .i64 p] => ((V (unBytes b) p).1, [b, .int .i64 (V (unBytes b) p).2])
  | cs => (.dflt, cs)
theorem preR_open {cs : List F} (h : preR cs = true) : ∃ b p, cs = [b, .int .i64 p] ∧ isBytes b = true ∧ rdOk (unBytes b) p = true := by
  unfold preR at h
  split at h
  · simp only [Bool.and_eq_true] at h
    exact ⟨_, _, rfl, h.1, h.2⟩
  · cases h
theorem okNext : SpOK Try.prog 130 (ptrSp (fun cs xs => match xs with | [] => preR cs | _ => false) (fun cs xs => rd (fun s p => (.int .i64 (nextV s p).1, (nextV s p).2)) cs)) :=
  fn_ptr_at (c := bodyOf Try.f130) Try.func130 (by kernel_rfl) (by kernel_rfl) fun cs xs hp => by
    cases xs with
    | cons _ _ => cases hp
    | nil =>
      obtain ⟨b, p, rfl, hb, hr⟩ := preR_open hp
      obtain ⟨h1, _⟩ := next_ok hr
      exact ⟨[bytesF (unBytes b), .int .i64 p], [], _, _, ⟨(bytes_eqv hb).1, .refl _, trivial⟩, trivial, t130 _ _ _ _ h1, .refl _, ⟨(bytes_eqv hb).2, .refl _, trivial⟩⟩
/-- A new reader. -/
theorem okOpen : SpOK Try.prog 67 (newSp preB (fun xs => match xs with | [b] => [b, .int .i64 0] | _ => [])) :=
  fn_new (c := bodyOf Try.f67) (t := 2) (ty := 142) Try.func67 (by kernel_rfl) (by kernel_rfl) (by kernel_rfl) (fun ti h => by
    have e : (tiOf Try.prog 142).map TI.isAgg = some true := by kernel_rfl
    rw [h] at e
    exact Option.some.inj e) fun xs hp => match xs, hp with
  | [b], hp => ⟨[bytesF (unBytes b)], [bytesF (unBytes b), .int .i64 0], ⟨(bytes_eqv hp).1, trivial⟩, t67 (unBytes b) 0 rfl, ⟨(bytes_eqv hp).2, .refl _, trivial⟩⟩
def envD1 : Env := (((env0.add 130 (ptrSp (fun cs xs => match xs with | [] => preR cs | _ => false) (fun cs xs => rd (fun s p => (.int .i64 (nextV s p).1, (nextV s p).2)) cs))).add 67 (newSp preB (fun xs => match xs with | [b] => [b, .int .i64 0] | _ => []))).add 29 (.pure preB (fun xs => match xs with | [b] => .bool (decide (((unBytes b).size : Int) > 1048576)) | _ => .bool false)))
theorem envD1_ok : EnvOK Try.prog envD1 := Env.add_ok (Env.add_ok (Env.add_ok env0_ok okNext) okOpen) okBig
end Go.Proofs.Ytjbilidfnfnpfaa.R
