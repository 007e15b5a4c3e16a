/-
  The walk of windows: what is drawn for them, and one segment and a box.
-/
import Derived.Test.YtjbilidfnfnpfaaD13
import Derived.Test.YtjbilidfnfnpfaaW7
namespace Go.Proofs.Ytjbilidfnfnpfaa.R
open Go
noncomputable section
set_option linter.unusedVariables false
set_option linter.unusedSimpArgs false
set_option maxRecDepth 100000
/-! ### function 30 -/
def T30 {ρ : Type} (ret : (List Sg) → (Int) → (Int) → (Int) → (Int) → Option ρ) (a0 : ByteArray) : Option ρ :=
  (bsel (isBytes (bytesF a0))
   (bsel (isBytes (bytesF a0) && rdOk (unBytes (bytesF a0)) 0 && true)
    (bsel (isBytes (bytesF a0) && rdOk (unBytes (bytesF a0)) (resSegs [F.int IntKind.i64 6] (unBytes (bytesF a0)) 0).snd && true)
     (ret ((segsV (unBytes (bytesF a0)) 0 6).fst) ((boxV (unBytes (bytesF a0)) (resSegs [F.int IntKind.i64 6] (unBytes (bytesF a0)) 0).snd).fst) ((boxV (unBytes (bytesF a0)) (resSegs [F.int IntKind.i64 6] (unBytes (bytesF a0)) 0).snd).snd.fst) ((boxV (unBytes (bytesF a0)) (resSegs [F.int IntKind.i64 6] (unBytes (bytesF a0)) 0).snd).snd.snd.fst) ((boxV (unBytes (bytesF a0)) (resSegs [F.int IntKind.i64 6] (unBytes (bytesF a0)) 0).snd).snd.snd.snd.fst))
     none)
    none)
   none)
def G30 (a0 : ByteArray) : Option ((List Sg) × (Int) × (Int) × (Int) × (Int)) := T30 (fun r rx0 ry0 rx1 ry1 => some (r, rx0, ry0, rx1, ry1)) a0
theorem t30 (a0 : ByteArray) (r : List Sg) (rx0 : Int) (ry0 : Int) (rx1 : Int) (ry1 : Int) (h : G30 a0 = some (r, rx0, ry0, rx1, ry1)) : Ends Try.prog Try.f30.results.toList [.code (bodyOf Try.f30)] (start Try.f30.ntmps ([bytesF a0].map .f)) (F.tup [segsF r, F.agg [F.int .i64 rx0, F.int .i64 ry0], F.agg [F.int .i64 rx1, F.int .i64 ry1]]) := by
  refine Ends.of_run tyOK envD13_ok (T := []) (n := 200) ?_
  have e : run Try.prog (tiOf Try.prog) envD13 [] 0 Try.f30.results.toList some 200 [.code (bodyOf Try.f30)] (start Try.f30.ntmps ([bytesF a0].map .f)) = T30 (fun r rx0 ry0 rx1 ry1 => some (.ret (F.tup [segsF r, F.agg [F.int .i64 rx0, F.int .i64 ry0], F.agg [F.int .i64 rx1, F.int .i64 ry1]]))) a0 := by kernel_rfl
  rw [e]
  exact (good_sel h (fun _ h => (good_sel h (fun _ h => (good_sel h (fun _ h => good_ret (by cases h; rfl)) (fun _ h => nomatch h))) (fun _ h => nomatch h))) (fun _ h => nomatch h))
/-! ### function 33 -/
def T33 {ρ : Type} (ret : (Bool) → Option ρ) (x0 : Int) (y0 : Int) (x1 : Int) (y1 : Int) (lx : Int) (ly : Int) (hx : Int) (hy : Int) : Option ρ :=
  (bsel (segOkV x0 y0 x1 y1 == true)
   (bsel (boxOkV lx ly hx hy == true)
    (ret (meetsV x0 y0 x1 y1 lx ly hx hy))
    (ret (false)))
   (ret (false)))
def G33 (x0 : Int) (y0 : Int) (x1 : Int) (y1 : Int) (lx : Int) (ly : Int) (hx : Int) (hy : Int) : Option (Bool) := T33 some x0 y0 x1 y1 lx ly hx hy
theorem t33 (x0 : Int) (y0 : Int) (x1 : Int) (y1 : Int) (lx : Int) (ly : Int) (hx : Int) (hy : Int) (r : Bool) (h : G33 x0 y0 x1 y1 lx ly hx hy = some r) : Ends Try.prog Try.f33.results.toList [.code (bodyOf Try.f33)] (start Try.f33.ntmps ([F.agg [F.int .i64 x0, F.int .i64 y0, F.int .i64 x1, F.int .i64 y1], F.agg [F.int .i64 lx, F.int .i64 ly], F.agg [F.int .i64 hx, F.int .i64 hy]].map .f)) (F.bool r) := by
  refine Ends.of_run tyOK envW3_ok (T := []) (n := 200) ?_
  have e : run Try.prog (tiOf Try.prog) envW3 [] 0 Try.f33.results.toList some 200 [.code (bodyOf Try.f33)] (start Try.f33.ntmps ([F.agg [F.int .i64 x0, F.int .i64 y0, F.int .i64 x1, F.int .i64 y1], F.agg [F.int .i64 lx, F.int .i64 ly], F.agg [F.int .i64 hx, F.int .i64 hy]].map .f)) = T33 (fun r => some (.ret (F.bool r))) x0 y0 x1 y1 lx ly hx hy := by kernel_rfl
  rw [e]
  exact (good_sel h (fun _ h => (good_sel h (fun _ h => good_ret (by cases h; rfl)) (fun _ h => good_ret (by cases h; rfl)))) (fun _ h => good_ret (by cases h; rfl)))
def drawWindowV (s : ByteArray) : List Sg × Int × Int × Int × Int := (G30 s).getD ([], 0, 0, 0, 0)
theorem drawWindow_ok {s : ByteArray} (h : s.size ≤ 1048576) : G30 s = some (drawWindowV s) := by
  have h0 : rdOk s 0 = true := rdOk_iff.2 (by omega)
  obtain ⟨_, _, _, _, a2, _⟩ := segs_ok h0 (mx := 6) (by omega)
  unfold drawWindowV G30 T30
  simp only [resSegs, unBytes_bytesF, isBytes_bytesF, h0, a2, Bool.and_self, Bool.and_true, bsel_true, Option.getD_some]
def preD : List F → Bool | [b] => isBytes b && decide ((unBytes b).size ≤ 1048576) | _ => false
def resDrawWindow : List F → F | [b] => .tup [segsF (drawWindowV (unBytes b)).1, .agg [.int .i64 (drawWindowV (unBytes b)).2.1, .int .i64 (drawWindowV (unBytes b)).2.2.1], .agg [.int .i64 (drawWindowV (unBytes b)).2.2.2.1, .int .i64 (drawWindowV (unBytes b)).2.2.2.2]] | _ => .dflt
theorem okDrawWindow : PureOK Try.prog 30 preD resDrawWindow :=
  fn_pure_at (c := bodyOf Try.f30) Try.func30 (by kernel_rfl) (by kernel_rfl) fun xs hp => match xs, hp with
  | [b], hp => by
    simp only [preD, Bool.and_eq_true, decide_eq_true_eq] at hp
    exact ⟨[bytesF (unBytes b)], _, ⟨(bytes_eqv hp.1).1, trivial⟩, t30 _ _ _ _ _ _ (drawWindow_ok hp.2), .refl _⟩
def meetsBoxV (x0 y0 x1 y1 lx ly hx hy : Int) : Bool := segOkV x0 y0 x1 y1 && (boxOkV lx ly hx hy && meetsV x0 y0 x1 y1 lx ly hx hy)
theorem meetsBox_eq (x0 y0 x1 y1 lx ly hx hy : Int) : G33 x0 y0 x1 y1 lx ly hx hy = some (meetsBoxV x0 y0 x1 y1 lx ly hx hy) := by
  unfold G33 T33 meetsBoxV
  cases segOkV x0 y0 x1 y1 <;> cases boxOkV lx ly hx hy <;> rfl
def resMeetsBox : List F → F | [.agg [.int .i64 a, .int .i64 b, .int .i64 c, .int .i64 d], .agg [.int .i64 e, .int .i64 f], .agg [.int .i64 g, .int .i64 h]] => .bool (meetsBoxV a b c d e f g h) | _ => .dflt
theorem okMeetsBox : PureOK Try.prog 33 preMeets resMeetsBox :=
  fn_pure (c := bodyOf Try.f33) Try.func33 (by kernel_rfl) (by kernel_rfl) fun xs hp => match xs, hp with
  | [.agg [.int .i64 a, .int .i64 b, .int .i64 c, .int .i64 d], .agg [.int .i64 e, .int .i64 f], .agg [.int .i64 g, .int .i64 h]], hp => t33 a b c d e f g h _ (meetsBox_eq a b c d e f g h)
end
end Go.Proofs.Ytjbilidfnfnpfaa.R
