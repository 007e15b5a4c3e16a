/-
  The walk of the reader of drawn bytes: the segment of two spots, and boxes.
-/
import Derived.Test.YtjbilidfnfnpfaaD10a
namespace Go.Proofs.Ytjbilidfnfnpfaa.R
open Go
set_option linter.unusedVariables false
set_option linter.unusedSimpArgs false
set_option maxRecDepth 100000
/-! ### function 110 -/
def T110 {ρ : Type} (ret : (Int) → (Int) → (Int) → (Int) → (Bool) → Option ρ) (x0 : Int) (y0 : Int) (x1 : Int) (y1 : Int) : Option ρ :=
  (bsel (lessV x1 y1 x0 y0)
   (bsel (!segOkV x1 y1 x0 y0)
    (ret (0) (0) (0) (0) (false))
    (ret (x1) (y1) (x0) (y0) (true)))
   (bsel (!segOkV x0 y0 x1 y1)
    (ret (0) (0) (0) (0) (false))
    (ret (x0) (y0) (x1) (y1) (true))))
def G110 (x0 : Int) (y0 : Int) (x1 : Int) (y1 : Int) : Option ((Int) × (Int) × (Int) × (Int) × (Bool)) := T110 (fun rx0 ry0 rx1 ry1 rb => some (rx0, ry0, rx1, ry1, rb)) x0 y0 x1 y1
theorem t110 (x0 : Int) (y0 : Int) (x1 : Int) (y1 : Int) (rx0 : Int) (ry0 : Int) (rx1 : Int) (ry1 : Int) (rb : Bool) (h : G110 x0 y0 x1 y1 = some (rx0, ry0, rx1, ry1, rb)) : Ends Try.prog Try.f110.results.toList [.code (bodyOf Try.f110)] (start Try.f110.ntmps ([F.agg [F.int .i64 x0, F.int .i64 y0], F.agg [F.int .i64 x1, F.int .i64 y1]].map .f)) (F.tup [F.agg [F.int .i64 rx0, F.int .i64 ry0, F.int .i64 rx1, F.int .i64 ry1], F.bool rb]) := by
  refine Ends.of_run tyOK envD10a_ok (T := []) (n := 200) ?_
  have e : run Try.prog (tiOf Try.prog) envD10a [] 0 Try.f110.results.toList some 200 [.code (bodyOf Try.f110)] (start Try.f110.ntmps ([F.agg [F.int .i64 x0, F.int .i64 y0], F.agg [F.int .i64 x1, F.int .i64 y1]].map .f)) = T110 (fun rx0 ry0 rx1 ry1 rb => some (.ret (F.tup [F.agg [F.int .i64 rx0, F.int .i64 ry0, F.int .i64 rx1, F.int .i64 ry1], F.bool rb]))) x0 y0 x1 y1 := by kernel_rfl
  rw [e]
  exact (good_sel h (fun _ h => (good_sel h (fun _ h => good_ret (by cases h; rfl)) (fun _ h => good_ret (by cases h; rfl)))) (fun _ h => (good_sel h (fun _ h => good_ret (by cases h; rfl)) (fun _ h => good_ret (by cases h; rfl)))))
/-! ### function 69 -/
def T69 {ρ : Type} (ret : (Int) → (Int) → (Int) → (Int) → (Int) → Option ρ) (s : ByteArray) (p : Int) : Option ρ :=
  (bsel (isBytes (bytesF s) && rdOk (unBytes (bytesF s)) p && true)
   (bsel (isBytes (bytesF s) && rdOk (unBytes (bytesF s)) (resSpot [] (unBytes (bytesF s)) p).snd && true)
    (bsel (isBytes (bytesF s) && rdOk (unBytes (bytesF s)) (resSpot [] (unBytes (bytesF s)) (resSpot [] (unBytes (bytesF s)) p).snd).snd)
     (bsel ((onceV (unBytes (bytesF s)) (resSpot [] (unBytes (bytesF s)) (resSpot [] (unBytes (bytesF s)) p).snd).snd 16).fst)
      (ret ((spotV (unBytes (bytesF s)) p).fst) ((spotV (unBytes (bytesF s)) p).snd.fst) ((spotV (unBytes (bytesF s)) (resSpot [] (unBytes (bytesF s)) p).snd).fst) ((spotV (unBytes (bytesF s)) (resSpot [] (unBytes (bytesF s)) p).snd).snd.fst) ((onceV (unBytes (bytesF s)) (resSpot [] (unBytes (bytesF s)) (resSpot [] (unBytes (bytesF s)) p).snd).snd 16).snd))
      (ret (if false = true then if (spotV (unBytes (bytesF s)) (resSpot [] (unBytes (bytesF s)) p).snd).fst > (spotV (unBytes (bytesF s)) p).fst then (spotV (unBytes (bytesF s)) (resSpot [] (unBytes (bytesF s)) p).snd).fst else (spotV (unBytes (bytesF s)) p).fst else if (spotV (unBytes (bytesF s)) (resSpot [] (unBytes (bytesF s)) p).snd).fst < (spotV (unBytes (bytesF s)) p).fst then (spotV (unBytes (bytesF s)) (resSpot [] (unBytes (bytesF s)) p).snd).fst else (spotV (unBytes (bytesF s)) p).fst) (if false = true then if (spotV (unBytes (bytesF s)) (resSpot [] (unBytes (bytesF s)) p).snd).snd.fst > (spotV (unBytes (bytesF s)) p).snd.fst then (spotV (unBytes (bytesF s)) (resSpot [] (unBytes (bytesF s)) p).snd).snd.fst else (spotV (unBytes (bytesF s)) p).snd.fst else if (spotV (unBytes (bytesF s)) (resSpot [] (unBytes (bytesF s)) p).snd).snd.fst < (spotV (unBytes (bytesF s)) p).snd.fst then (spotV (unBytes (bytesF s)) (resSpot [] (unBytes (bytesF s)) p).snd).snd.fst else (spotV (unBytes (bytesF s)) p).snd.fst) (if true = true then if (spotV (unBytes (bytesF s)) (resSpot [] (unBytes (bytesF s)) p).snd).fst > (spotV (unBytes (bytesF s)) p).fst then (spotV (unBytes (bytesF s)) (resSpot [] (unBytes (bytesF s)) p).snd).fst else (spotV (unBytes (bytesF s)) p).fst else if (spotV (unBytes (bytesF s)) (resSpot [] (unBytes (bytesF s)) p).snd).fst < (spotV (unBytes (bytesF s)) p).fst then (spotV (unBytes (bytesF s)) (resSpot [] (unBytes (bytesF s)) p).snd).fst else (spotV (unBytes (bytesF s)) p).fst) (if true = true then if (spotV (unBytes (bytesF s)) (resSpot [] (unBytes (bytesF s)) p).snd).snd.fst > (spotV (unBytes (bytesF s)) p).snd.fst then (spotV (unBytes (bytesF s)) (resSpot [] (unBytes (bytesF s)) p).snd).snd.fst else (spotV (unBytes (bytesF s)) p).snd.fst else if (spotV (unBytes (bytesF s)) (resSpot [] (unBytes (bytesF s)) p).snd).snd.fst < (spotV (unBytes (bytesF s)) p).snd.fst then (spotV (unBytes (bytesF s)) (resSpot [] (unBytes (bytesF s)) p).snd).snd.fst else (spotV (unBytes (bytesF s)) p).snd.fst) ((onceV (unBytes (bytesF s)) (resSpot [] (unBytes (bytesF s)) (resSpot [] (unBytes (bytesF s)) p).snd).snd 16).snd)))
     none)
    none)
   none)
def G69 (s : ByteArray) (p : Int) : Option ((Int) × (Int) × (Int) × (Int) × (Int)) := T69 (fun rx0 ry0 rx1 ry1 q => some (rx0, ry0, rx1, ry1, q)) s p
theorem t69 (s : ByteArray) (p : Int) (rx0 : Int) (ry0 : Int) (rx1 : Int) (ry1 : Int) (q : Int) (h : G69 s p = some (rx0, ry0, rx1, ry1, q)) : EndsN Try.prog 1 Try.f69.results.toList [.code (bodyOf Try.f69)] (startN Try.f69.ntmps [U.hp 0 0] [HO.box [U.f (bytesF s), U.f (F.int .i64 p)]]) (F.tup [F.tup [F.agg [F.int .i64 rx0, F.int .i64 ry0], F.agg [F.int .i64 rx1, F.int .i64 ry1]], F.agg [bytesF s, F.int .i64 q]]) := by
  refine Ends.of_run tyOK envD10a_ok (T := []) (n := 200) ?_
  have e : run Try.prog (tiOf Try.prog) envD10a [] 1 Try.f69.results.toList some 200 [.code (bodyOf Try.f69)] (startN Try.f69.ntmps [U.hp 0 0] [HO.box [U.f (bytesF s), U.f (F.int .i64 p)]]) = T69 (fun rx0 ry0 rx1 ry1 q => some (.ret (F.tup [F.tup [F.agg [F.int .i64 rx0, F.int .i64 ry0], F.agg [F.int .i64 rx1, F.int .i64 ry1]], F.agg [bytesF s, F.int .i64 q]]))) s p := by kernel_rfl
  rw [e]
  exact (good_sel h (fun _ h => (good_sel h (fun _ h => (good_sel h (fun _ h => (good_sel h (fun _ h => good_ret (by cases h; rfl)) (fun _ h => good_ret (by cases h; rfl)))) (fun _ h => nomatch h))) (fun _ h => nomatch h))) (fun _ h => nomatch h))
def segOfV (x0 y0 x1 y1 : Int) : Sg × Bool := match G110 x0 y0 x1 y1 with
  | some (a, b, c, d, e) => (⟨a, b, c, d⟩, e)
  | none => (.zero, false)
theorem segOf_ok (x0 y0 x1 y1 : Int) : G110 x0 y0 x1 y1 = some ((segOfV x0 y0 x1 y1).1.x0, (segOfV x0 y0 x1 y1).1.y0, (segOfV x0 y0 x1 y1).1.x1, (segOfV x0 y0 x1 y1).1.y1, (segOfV x0 y0 x1 y1).2) := by
  unfold segOfV G110 T110
  cases lessV x1 y1 x0 y0 <;> cases segOkV x1 y1 x0 y0 <;> cases segOkV x0 y0 x1 y1 <;> rfl
def resSegOf : List F → F | [.agg [.int .i64 a, .int .i64 b], .agg [.int .i64 c, .int .i64 d]] => .tup [.agg [.int .i64 (segOfV a b c d).1.x0, .int .i64 (segOfV a b c d).1.y0, .int .i64 (segOfV a b c d).1.x1, .int .i64 (segOfV a b c d).1.y1], .bool (segOfV a b c d).2] | _ => .dflt
theorem okSegOf : PureOK Try.prog 110 pre2p resSegOf :=
  fn_pure (c := bodyOf Try.f110) Try.func110 (by kernel_rfl) (by kernel_rfl) fun xs hp => match xs, hp with
  | [.agg [.int .i64 a, .int .i64 b], .agg [.int .i64 c, .int .i64 d]], hp => t110 a b c d _ _ _ _ _ (segOf_ok a b c d)
def boxV (s : ByteArray) (p : Int) : Int × Int × Int × Int × Int := (G69 s p).getD (0, 0, 0, 0, 0)
theorem box_ok {s : ByteArray} {p : Int} (h : rdOk s p = true) : G69 s p = some (boxV s p) ∧ rdOk s (boxV s p).2.2.2.2 = true := by
  obtain ⟨a1, a2⟩ := spot_ok h
  obtain ⟨b1, b2⟩ := spot_ok a2
  obtain ⟨o1, o2⟩ := once_ok b2 16
  unfold boxV G69 T69
  simp only [resSpot, unBytes_bytesF, isBytes_bytesF, h, a2, b2, Bool.and_self, Bool.and_true, bsel_true]
  cases (onceV s (spotV s (spotV s p).2.2).2.2 16).1
  · simp only [bsel_false, Option.getD_some]; exact ⟨trivial, o2⟩
  · simp only [bsel_true, Option.getD_some]; exact ⟨trivial, o2⟩
def resBoxR : List F → ByteArray → Int → F × Int := fun _ s p => (.tup [.agg [.int .i64 (boxV s p).1, .int .i64 (boxV s p).2.1], .agg [.int .i64 (boxV s p).2.2.1, .int .i64 (boxV s p).2.2.2.1]], (boxV s p).2.2.2.2)
theorem okBoxR : SpOK Try.prog 69 (rdSp isNone resBoxR) :=
  ok_rd (c := bodyOf Try.f69) Try.func69 (by kernel_rfl) (by kernel_rfl) fun xs s p hx hr => match xs, hx with
  | [], hx => ⟨_, .refl _, t69 s p _ _ _ _ _ (box_ok hr).1⟩
def envD10 : Env := (envD10a.add 110 (.pure pre2p resSegOf)).add 69 (rdSp isNone resBoxR)
theorem envD10_ok : EnvOK Try.prog envD10 := Env.add_ok (Env.add_ok envD10a_ok okSegOf.sp) okBoxR
end Go.Proofs.Ytjbilidfnfnpfaa.R
