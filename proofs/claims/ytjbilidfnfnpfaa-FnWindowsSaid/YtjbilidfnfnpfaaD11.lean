/-
  The walk of the reader of drawn bytes: a segment.
-/
import Derived.Test.YtjbilidfnfnpfaaD10
namespace Go.Proofs.Ytjbilidfnfnpfaa.R
open Go
set_option linter.unusedVariables false
set_option linter.unusedSimpArgs false
set_option maxRecDepth 100000
/-! ### function 111 -/
def T111 {ρ : Type} (ret : (Int) → (Int) → (Int) → (Int) → (Int) → Option ρ) (s : ByteArray) (p : Int) : Option ρ :=
  (bsel (isBytes (bytesF s) && rdOk (unBytes (bytesF s)) p)
   (bsel ((belowV (unBytes (bytesF s)) p 20).fst == 0)
    (bsel (isBytes (bytesF s) && rdOk (unBytes (bytesF s)) (belowV (unBytes (bytesF s)) p 20).snd && true)
     (bsel (isBytes (bytesF s) && rdOk (unBytes (bytesF s)) (resOff [F.int IntKind.i64 (-1000000), F.int IntKind.i64 1000000] (unBytes (bytesF s)) (belowV (unBytes (bytesF s)) p 20).snd).snd && true)
      (bsel (isBytes (bytesF s) && rdOk (unBytes (bytesF s)) (resOff [F.int IntKind.i64 (-1000000), F.int IntKind.i64 1000000] (unBytes (bytesF s)) (resOff [F.int IntKind.i64 (-1000000), F.int IntKind.i64 1000000] (unBytes (bytesF s)) (belowV (unBytes (bytesF s)) p 20).snd).snd).snd && true)
       (bsel (isBytes (bytesF s) && rdOk (unBytes (bytesF s)) (resOff [F.int IntKind.i64 (-1000000), F.int IntKind.i64 1000000] (unBytes (bytesF s)) (resOff [F.int IntKind.i64 (-1000000), F.int IntKind.i64 1000000] (unBytes (bytesF s)) (resOff [F.int IntKind.i64 (-1000000), F.int IntKind.i64 1000000] (unBytes (bytesF s)) (belowV (unBytes (bytesF s)) p 20).snd).snd).snd).snd && true)
        (ret ((offV (-1000000) 1000000 (unBytes (bytesF s)) (belowV (unBytes (bytesF s)) p 20).snd).fst) ((offV (-1000000) 1000000 (unBytes (bytesF s)) (resOff [F.int IntKind.i64 (-1000000), F.int IntKind.i64 1000000] (unBytes (bytesF s)) (belowV (unBytes (bytesF s)) p 20).snd).snd).fst) ((offV (-1000000) 1000000 (unBytes (bytesF s)) (resOff [F.int IntKind.i64 (-1000000), F.int IntKind.i64 1000000] (unBytes (bytesF s)) (resOff [F.int IntKind.i64 (-1000000), F.int IntKind.i64 1000000] (unBytes (bytesF s)) (belowV (unBytes (bytesF s)) p 20).snd).snd).snd).fst) ((offV (-1000000) 1000000 (unBytes (bytesF s)) (resOff [F.int IntKind.i64 (-1000000), F.int IntKind.i64 1000000] (unBytes (bytesF s)) (resOff [F.int IntKind.i64 (-1000000), F.int IntKind.i64 1000000] (unBytes (bytesF s)) (resOff [F.int IntKind.i64 (-1000000), F.int IntKind.i64 1000000] (unBytes (bytesF s)) (belowV (unBytes (bytesF s)) p 20).snd).snd).snd).snd).fst) ((resOff [F.int IntKind.i64 (-1000000), F.int IntKind.i64 1000000] (unBytes (bytesF s)) (resOff [F.int IntKind.i64 (-1000000), F.int IntKind.i64 1000000] (unBytes (bytesF s)) (resOff [F.int IntKind.i64 (-1000000), F.int IntKind.i64 1000000] (unBytes (bytesF s)) (resOff [F.int IntKind.i64 (-1000000), F.int IntKind.i64 1000000] (unBytes (bytesF s)) (belowV (unBytes (bytesF s)) p 20).snd).snd).snd).snd).snd))
        none)
       none)
      none)
     none)
    (bsel ((belowV (unBytes (bytesF s)) p 20).fst == 1)
     (bsel (isBytes (bytesF s) && rdOk (unBytes (bytesF s)) (belowV (unBytes (bytesF s)) p 20).snd && true)
      (bsel (isBytes (bytesF s) && rdOk (unBytes (bytesF s)) (resNear [F.int IntKind.i64 (-1000000), F.int IntKind.i64 1000000] (unBytes (bytesF s)) (belowV (unBytes (bytesF s)) p 20).snd).snd && true)
       (bsel (isBytes (bytesF s) && rdOk (unBytes (bytesF s)) (resNear [F.int IntKind.i64 (-1000000), F.int IntKind.i64 1000000] (unBytes (bytesF s)) (resNear [F.int IntKind.i64 (-1000000), F.int IntKind.i64 1000000] (unBytes (bytesF s)) (belowV (unBytes (bytesF s)) p 20).snd).snd).snd && true)
        (bsel (isBytes (bytesF s) && rdOk (unBytes (bytesF s)) (resNear [F.int IntKind.i64 (-1000000), F.int IntKind.i64 1000000] (unBytes (bytesF s)) (resNear [F.int IntKind.i64 (-1000000), F.int IntKind.i64 1000000] (unBytes (bytesF s)) (resNear [F.int IntKind.i64 (-1000000), F.int IntKind.i64 1000000] (unBytes (bytesF s)) (belowV (unBytes (bytesF s)) p 20).snd).snd).snd).snd && true)
         (ret ((segOfV (nearV (-1000000) 1000000 (unBytes (bytesF s)) (belowV (unBytes (bytesF s)) p 20).snd).fst (nearV (-1000000) 1000000 (unBytes (bytesF s)) (resNear [F.int IntKind.i64 (-1000000), F.int IntKind.i64 1000000] (unBytes (bytesF s)) (belowV (unBytes (bytesF s)) p 20).snd).snd).fst (nearV (-1000000) 1000000 (unBytes (bytesF s)) (resNear [F.int IntKind.i64 (-1000000), F.int IntKind.i64 1000000] (unBytes (bytesF s)) (resNear [F.int IntKind.i64 (-1000000), F.int IntKind.i64 1000000] (unBytes (bytesF s)) (belowV (unBytes (bytesF s)) p 20).snd).snd).snd).fst (nearV (-1000000) 1000000 (unBytes (bytesF s)) (resNear [F.int IntKind.i64 (-1000000), F.int IntKind.i64 1000000] (unBytes (bytesF s)) (resNear [F.int IntKind.i64 (-1000000), F.int IntKind.i64 1000000] (unBytes (bytesF s)) (resNear [F.int IntKind.i64 (-1000000), F.int IntKind.i64 1000000] (unBytes (bytesF s)) (belowV (unBytes (bytesF s)) p 20).snd).snd).snd).snd).fst).fst.x0) ((segOfV (nearV (-1000000) 1000000 (unBytes (bytesF s)) (belowV (unBytes (bytesF s)) p 20).snd).fst (nearV (-1000000) 1000000 (unBytes (bytesF s)) (resNear [F.int IntKind.i64 (-1000000), F.int IntKind.i64 1000000] (unBytes (bytesF s)) (belowV (unBytes (bytesF s)) p 20).snd).snd).fst (nearV (-1000000) 1000000 (unBytes (bytesF s)) (resNear [F.int IntKind.i64 (-1000000), F.int IntKind.i64 1000000] (unBytes (bytesF s)) (resNear [F.int IntKind.i64 (-1000000), F.int IntKind.i64 1000000] (unBytes (bytesF s)) (belowV (unBytes (bytesF s)) p 20).snd).snd).snd).fst (nearV (-1000000) 1000000 (unBytes (bytesF s)) (resNear [F.int IntKind.i64 (-1000000), F.int IntKind.i64 1000000] (unBytes (bytesF s)) (resNear [F.int IntKind.i64 (-1000000), F.int IntKind.i64 1000000] (unBytes (bytesF s)) (resNear [F.int IntKind.i64 (-1000000), F.int IntKind.i64 1000000] (unBytes (bytesF s)) (belowV (unBytes (bytesF s)) p 20).snd).snd).snd).snd).fst).fst.y0) ((segOfV (nearV (-1000000) 1000000 (unBytes (bytesF s)) (belowV (unBytes (bytesF s)) p 20).snd).fst (nearV (-1000000) 1000000 (unBytes (bytesF s)) (resNear [F.int IntKind.i64 (-1000000), F.int IntKind.i64 1000000] (unBytes (bytesF s)) (belowV (unBytes (bytesF s)) p 20).snd).snd).fst (nearV (-1000000) 1000000 (unBytes (bytesF s)) (resNear [F.int IntKind.i64 (-1000000), F.int IntKind.i64 1000000] (unBytes (bytesF s)) (resNear [F.int IntKind.i64 (-1000000), F.int IntKind.i64 1000000] (unBytes (bytesF s)) (belowV (unBytes (bytesF s)) p 20).snd).snd).snd).fst (nearV (-1000000) 1000000 (unBytes (bytesF s)) (resNear [F.int IntKind.i64 (-1000000), F.int IntKind.i64 1000000] (unBytes (bytesF s)) (resNear [F.int IntKind.i64 (-1000000), F.int IntKind.i64 1000000] (unBytes (bytesF s)) (resNear [F.int IntKind.i64 (-1000000), F.int IntKind.i64 1000000] (unBytes (bytesF s)) (belowV (unBytes (bytesF s)) p 20).snd).snd).snd).snd).fst).fst.x1) ((segOfV (nearV (-1000000) 1000000 (unBytes (bytesF s)) (belowV (unBytes (bytesF s)) p 20).snd).fst (nearV (-1000000) 1000000 (unBytes (bytesF s)) (resNear [F.int IntKind.i64 (-1000000), F.int IntKind.i64 1000000] (unBytes (bytesF s)) (belowV (unBytes (bytesF s)) p 20).snd).snd).fst (nearV (-1000000) 1000000 (unBytes (bytesF s)) (resNear [F.int IntKind.i64 (-1000000), F.int IntKind.i64 1000000] (unBytes (bytesF s)) (resNear [F.int IntKind.i64 (-1000000), F.int IntKind.i64 1000000] (unBytes (bytesF s)) (belowV (unBytes (bytesF s)) p 20).snd).snd).snd).fst (nearV (-1000000) 1000000 (unBytes (bytesF s)) (resNear [F.int IntKind.i64 (-1000000), F.int IntKind.i64 1000000] (unBytes (bytesF s)) (resNear [F.int IntKind.i64 (-1000000), F.int IntKind.i64 1000000] (unBytes (bytesF s)) (resNear [F.int IntKind.i64 (-1000000), F.int IntKind.i64 1000000] (unBytes (bytesF s)) (belowV (unBytes (bytesF s)) p 20).snd).snd).snd).snd).fst).fst.y1) ((resNear [F.int IntKind.i64 (-1000000), F.int IntKind.i64 1000000] (unBytes (bytesF s)) (resNear [F.int IntKind.i64 (-1000000), F.int IntKind.i64 1000000] (unBytes (bytesF s)) (resNear [F.int IntKind.i64 (-1000000), F.int IntKind.i64 1000000] (unBytes (bytesF s)) (resNear [F.int IntKind.i64 (-1000000), F.int IntKind.i64 1000000] (unBytes (bytesF s)) (belowV (unBytes (bytesF s)) p 20).snd).snd).snd).snd).snd))
         none)
        none)
       none)
      none)
     (bsel ((belowV (unBytes (bytesF s)) p 20).fst == 2)
      (bsel (isBytes (bytesF s) && rdOk (unBytes (bytesF s)) (belowV (unBytes (bytesF s)) p 20).snd && true)
       (bsel (isBytes (bytesF s) && rdOk (unBytes (bytesF s)) (resSpot [] (unBytes (bytesF s)) (belowV (unBytes (bytesF s)) p 20).snd).snd && true)
        (ret ((spotV (unBytes (bytesF s)) (belowV (unBytes (bytesF s)) p 20).snd).fst) ((spotV (unBytes (bytesF s)) (belowV (unBytes (bytesF s)) p 20).snd).snd.fst) ((spotV (unBytes (bytesF s)) (resSpot [] (unBytes (bytesF s)) (belowV (unBytes (bytesF s)) p 20).snd).snd).fst) ((spotV (unBytes (bytesF s)) (resSpot [] (unBytes (bytesF s)) (belowV (unBytes (bytesF s)) p 20).snd).snd).snd.fst) ((resSpot [] (unBytes (bytesF s)) (resSpot [] (unBytes (bytesF s)) (belowV (unBytes (bytesF s)) p 20).snd).snd).snd))
        none)
       none)
      (bsel (isBytes (bytesF s) && rdOk (unBytes (bytesF s)) (belowV (unBytes (bytesF s)) p 20).snd && true)
       (bsel (isBytes (bytesF s) && rdOk (unBytes (bytesF s)) (resSpot [] (unBytes (bytesF s)) (belowV (unBytes (bytesF s)) p 20).snd).snd && true)
        (bsel ((spotV (unBytes (bytesF s)) (belowV (unBytes (bytesF s)) p 20).snd).fst == (spotV (unBytes (bytesF s)) (resSpot [] (unBytes (bytesF s)) (belowV (unBytes (bytesF s)) p 20).snd).snd).fst && ((spotV (unBytes (bytesF s)) (belowV (unBytes (bytesF s)) p 20).snd).snd.fst == (spotV (unBytes (bytesF s)) (resSpot [] (unBytes (bytesF s)) (belowV (unBytes (bytesF s)) p 20).snd).snd).snd.fst && true))
         (ret ((segOfV (spotV (unBytes (bytesF s)) (belowV (unBytes (bytesF s)) p 20).snd).fst (spotV (unBytes (bytesF s)) (belowV (unBytes (bytesF s)) p 20).snd).snd.fst (IntKind.i64.wrap ((spotV (unBytes (bytesF s)) (resSpot [] (unBytes (bytesF s)) (belowV (unBytes (bytesF s)) p 20).snd).snd).fst + 1)) (spotV (unBytes (bytesF s)) (resSpot [] (unBytes (bytesF s)) (belowV (unBytes (bytesF s)) p 20).snd).snd).snd.fst).fst.x0) ((segOfV (spotV (unBytes (bytesF s)) (belowV (unBytes (bytesF s)) p 20).snd).fst (spotV (unBytes (bytesF s)) (belowV (unBytes (bytesF s)) p 20).snd).snd.fst (IntKind.i64.wrap ((spotV (unBytes (bytesF s)) (resSpot [] (unBytes (bytesF s)) (belowV (unBytes (bytesF s)) p 20).snd).snd).fst + 1)) (spotV (unBytes (bytesF s)) (resSpot [] (unBytes (bytesF s)) (belowV (unBytes (bytesF s)) p 20).snd).snd).snd.fst).fst.y0) ((segOfV (spotV (unBytes (bytesF s)) (belowV (unBytes (bytesF s)) p 20).snd).fst (spotV (unBytes (bytesF s)) (belowV (unBytes (bytesF s)) p 20).snd).snd.fst (IntKind.i64.wrap ((spotV (unBytes (bytesF s)) (resSpot [] (unBytes (bytesF s)) (belowV (unBytes (bytesF s)) p 20).snd).snd).fst + 1)) (spotV (unBytes (bytesF s)) (resSpot [] (unBytes (bytesF s)) (belowV (unBytes (bytesF s)) p 20).snd).snd).snd.fst).fst.x1) ((segOfV (spotV (unBytes (bytesF s)) (belowV (unBytes (bytesF s)) p 20).snd).fst (spotV (unBytes (bytesF s)) (belowV (unBytes (bytesF s)) p 20).snd).snd.fst (IntKind.i64.wrap ((spotV (unBytes (bytesF s)) (resSpot [] (unBytes (bytesF s)) (belowV (unBytes (bytesF s)) p 20).snd).snd).fst + 1)) (spotV (unBytes (bytesF s)) (resSpot [] (unBytes (bytesF s)) (belowV (unBytes (bytesF s)) p 20).snd).snd).snd.fst).fst.y1) ((resSpot [] (unBytes (bytesF s)) (resSpot [] (unBytes (bytesF s)) (belowV (unBytes (bytesF s)) p 20).snd).snd).snd))
         (ret ((segOfV (spotV (unBytes (bytesF s)) (belowV (unBytes (bytesF s)) p 20).snd).fst (spotV (unBytes (bytesF s)) (belowV (unBytes (bytesF s)) p 20).snd).snd.fst (spotV (unBytes (bytesF s)) (resSpot [] (unBytes (bytesF s)) (belowV (unBytes (bytesF s)) p 20).snd).snd).fst (spotV (unBytes (bytesF s)) (resSpot [] (unBytes (bytesF s)) (belowV (unBytes (bytesF s)) p 20).snd).snd).snd.fst).fst.x0) ((segOfV (spotV (unBytes (bytesF s)) (belowV (unBytes (bytesF s)) p 20).snd).fst (spotV (unBytes (bytesF s)) (belowV (unBytes (bytesF s)) p 20).snd).snd.fst (spotV (unBytes (bytesF s)) (resSpot [] (unBytes (bytesF s)) (belowV (unBytes (bytesF s)) p 20).snd).snd).fst (spotV (unBytes (bytesF s)) (resSpot [] (unBytes (bytesF s)) (belowV (unBytes (bytesF s)) p 20).snd).snd).snd.fst).fst.y0) ((segOfV (spotV (unBytes (bytesF s)) (belowV (unBytes (bytesF s)) p 20).snd).fst (spotV (unBytes (bytesF s)) (belowV (unBytes (bytesF s)) p 20).snd).snd.fst (spotV (unBytes (bytesF s)) (resSpot [] (unBytes (bytesF s)) (belowV (unBytes (bytesF s)) p 20).snd).snd).fst (spotV (unBytes (bytesF s)) (resSpot [] (unBytes (bytesF s)) (belowV (unBytes (bytesF s)) p 20).snd).snd).snd.fst).fst.x1) ((segOfV (spotV (unBytes (bytesF s)) (belowV (unBytes (bytesF s)) p 20).snd).fst (spotV (unBytes (bytesF s)) (belowV (unBytes (bytesF s)) p 20).snd).snd.fst (spotV (unBytes (bytesF s)) (resSpot [] (unBytes (bytesF s)) (belowV (unBytes (bytesF s)) p 20).snd).snd).fst (spotV (unBytes (bytesF s)) (resSpot [] (unBytes (bytesF s)) (belowV (unBytes (bytesF s)) p 20).snd).snd).snd.fst).fst.y1) ((resSpot [] (unBytes (bytesF s)) (resSpot [] (unBytes (bytesF s)) (belowV (unBytes (bytesF s)) p 20).snd).snd).snd)))
        none)
       none))))
   none)
def G111 (s : ByteArray) (p : Int) : Option ((Int) × (Int) × (Int) × (Int) × (Int)) := T111 (fun rx0 ry0 rx1 ry1 q => some (rx0, ry0, rx1, ry1, q)) s p
theorem t111 (s : ByteArray) (p : Int) (rx0 : Int) (ry0 : Int) (rx1 : Int) (ry1 : Int) (q : Int) (h : G111 s p = some (rx0, ry0, rx1, ry1, q)) : EndsN Try.prog 1 Try.f111.results.toList [.code (bodyOf Try.f111)] (startN Try.f111.ntmps [U.hp 0 0] [HO.box [U.f (bytesF s), U.f (F.int .i64 p)]]) (F.tup [F.agg [F.int .i64 rx0, F.int .i64 ry0, F.int .i64 rx1, F.int .i64 ry1], F.agg [bytesF s, F.int .i64 q]]) := by
  refine Ends.of_run tyOK envD10_ok (T := []) (n := 200) ?_
  have e : run Try.prog (tiOf Try.prog) envD10 [] 1 Try.f111.results.toList some 200 [.code (bodyOf Try.f111)] (startN Try.f111.ntmps [U.hp 0 0] [HO.box [U.f (bytesF s), U.f (F.int .i64 p)]]) = T111 (fun rx0 ry0 rx1 ry1 q => some (.ret (F.tup [F.agg [F.int .i64 rx0, F.int .i64 ry0, F.int .i64 rx1, F.int .i64 ry1], F.agg [bytesF s, F.int .i64 q]]))) s p := by kernel_rfl
  rw [e]
  exact (good_sel h (fun _ h => (good_sel h (fun _ h => (good_sel h (fun _ h => (good_sel h (fun _ h => (good_sel h (fun _ h => (good_sel h (fun _ h => good_ret (by cases h; rfl)) (fun _ h => nomatch h))) (fun _ h => nomatch h))) (fun _ h => nomatch h))) (fun _ h => nomatch h))) (fun _ h => (good_sel h (fun _ h => (good_sel h (fun _ h => (good_sel h (fun _ h => (good_sel h (fun _ h => (good_sel h (fun _ h => good_ret (by cases h; rfl)) (fun _ h => nomatch h))) (fun _ h => nomatch h))) (fun _ h => nomatch h))) (fun _ h => nomatch h))) (fun _ h => (good_sel h (fun _ h => (good_sel h (fun _ h => (good_sel h (fun _ h => good_ret (by cases h; rfl)) (fun _ h => nomatch h))) (fun _ h => nomatch h))) (fun _ h => (good_sel h (fun _ h => (good_sel h (fun _ h => (good_sel h (fun _ h => good_ret (by cases h; rfl)) (fun _ h => good_ret (by cases h; rfl)))) (fun _ h => nomatch h))) (fun _ h => nomatch h))))))))) (fun _ h => nomatch h))
def segV (s : ByteArray) (p : Int) : Int × Int × Int × Int × Int := (G111 s p).getD (0, 0, 0, 0, 0)
theorem seg_ok {s : ByteArray} {p : Int} (h : rdOk s p = true) : G111 s p = some (segV s p) ∧ rdOk s (segV s p).2.2.2.2 = true := by
  obtain ⟨b1, b2, b3, b4⟩ := below_ok h 20
  have hab : -1099511627776 ≤ (-1000000 : Int) ∧ (-1000000 : Int) ≤ 1000000 ∧ (1000000 : Int) ≤ 1099511627776 := by omega
  obtain ⟨_, o1⟩ := off_ok b4 hab
  obtain ⟨_, o2⟩ := off_ok o1 hab
  obtain ⟨_, o3⟩ := off_ok o2 hab
  obtain ⟨_, o4⟩ := off_ok o3 hab
  obtain ⟨_, n1⟩ := near_ok b4 hab
  obtain ⟨_, n2⟩ := near_ok n1 hab
  obtain ⟨_, n3⟩ := near_ok n2 hab
  obtain ⟨_, n4⟩ := near_ok n3 hab
  obtain ⟨_, s1⟩ := spot_ok b4
  obtain ⟨_, s2⟩ := spot_ok s1
  unfold segV G111 T111
  simp only [resSpot, resOff, resNear, unBytes_bytesF, isBytes_bytesF, h, b4, o1, o2, o3, n1, n2, n3, s1, Bool.and_self, Bool.and_true, bsel_true]
  generalize ((belowV s p 20).1 == 0) = c1
  cases c1 with
  | true => simp only [bsel_true, Option.getD_some]; exact ⟨trivial, o4⟩
  | false =>
    simp only [bsel_false]
    generalize ((belowV s p 20).1 == 1) = c2
    cases c2 with
    | true => simp only [bsel_true, Option.getD_some]; exact ⟨trivial, n4⟩
    | false =>
      simp only [bsel_false]
      generalize ((belowV s p 20).1 == 2) = c3
      cases c3 with
      | true => simp only [bsel_true, Option.getD_some]; exact ⟨trivial, s2⟩
      | false =>
        simp only [bsel_false]
        cases (spotV s (belowV s p 20).2).1 == (spotV s (spotV s (belowV s p 20).2).2.2).1 <;> cases (spotV s (belowV s p 20).2).2.1 == (spotV s (spotV s (belowV s p 20).2).2.2).2.1 <;>
          (simp only [Bool.and_self, Bool.and_true, Bool.and_false, Bool.false_and, Bool.true_and, bsel_true, bsel_false, Option.getD_some]; exact ⟨trivial, s2⟩)
def resSeg : List F → ByteArray → Int → F × Int := fun _ s p => (.agg [.int .i64 (segV s p).1, .int .i64 (segV s p).2.1, .int .i64 (segV s p).2.2.1, .int .i64 (segV s p).2.2.2.1], (segV s p).2.2.2.2)
theorem okSeg : SpOK Try.prog 111 (rdSp isNone resSeg) :=
  ok_rd (c := bodyOf Try.f111) Try.func111 (by kernel_rfl) (by kernel_rfl) fun xs s p hx hr => match xs, hx with
  | [], hx => ⟨_, .refl _, t111 s p _ _ _ _ _ (seg_ok hr).1⟩
def envD11 : Env := envD10.add 111 (rdSp isNone resSeg)
theorem envD11_ok : EnvOK Try.prog envD11 := Env.add_ok envD10_ok okSeg
end Go.Proofs.Ytjbilidfnfnpfaa.R
