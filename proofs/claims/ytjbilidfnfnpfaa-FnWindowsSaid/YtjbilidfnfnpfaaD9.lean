/-
  The walk of the reader of drawn bytes: spots, and numbers just outside.
-/
import Derived.Test.YtjbilidfnfnpfaaD8
namespace Go.Proofs.Ytjbilidfnfnpfaa.R
open Go
set_option linter.unusedVariables false
set_option linter.unusedSimpArgs false
set_option maxRecDepth 100000
/-! ### function 109 -/
def T109 {ρ : Type} (ret : (Int) → (Int) → (Int) → Option ρ) (s : ByteArray) (p : Int) : Option ρ :=
  (bsel (isBytes (bytesF s) && rdOk (unBytes (bytesF s)) p && true)
   (bsel (isBytes (bytesF s) && rdOk (unBytes (bytesF s)) (resNear [F.int IntKind.i64 (-6), F.int IntKind.i64 6] (unBytes (bytesF s)) p).snd && true)
    (ret ((nearV (-6) 6 (unBytes (bytesF s)) p).fst) ((nearV (-6) 6 (unBytes (bytesF s)) (resNear [F.int IntKind.i64 (-6), F.int IntKind.i64 6] (unBytes (bytesF s)) p).snd).fst) ((resNear [F.int IntKind.i64 (-6), F.int IntKind.i64 6] (unBytes (bytesF s)) (resNear [F.int IntKind.i64 (-6), F.int IntKind.i64 6] (unBytes (bytesF s)) p).snd).snd))
    none)
   none)
def G109 (s : ByteArray) (p : Int) : Option ((Int) × (Int) × (Int)) := T109 (fun r r2 q => some (r, r2, q)) s p
theorem t109 (s : ByteArray) (p : Int) (r : Int) (r2 : Int) (q : Int) (h : G109 s p = some (r, r2, q)) : EndsN Try.prog 1 Try.f109.results.toList [.code (bodyOf Try.f109)] (startN Try.f109.ntmps [U.hp 0 0] [HO.box [U.f (bytesF s), U.f (F.int .i64 p)]]) (F.tup [F.agg [F.int .i64 r, F.int .i64 r2], F.agg [bytesF s, F.int .i64 q]]) := by
  refine Ends.of_run tyOK envD8_ok (T := []) (n := 200) ?_
  have e : run Try.prog (tiOf Try.prog) envD8 [] 1 Try.f109.results.toList some 200 [.code (bodyOf Try.f109)] (startN Try.f109.ntmps [U.hp 0 0] [HO.box [U.f (bytesF s), U.f (F.int .i64 p)]]) = T109 (fun r r2 q => some (.ret (F.tup [F.agg [F.int .i64 r, F.int .i64 r2], F.agg [bytesF s, F.int .i64 q]]))) s p := by kernel_rfl
  rw [e]
  exact (good_sel h (fun _ h => (good_sel h (fun _ h => good_ret (by cases h; rfl)) (fun _ h => nomatch h))) (fun _ h => nomatch h))
/-! ### function 88 -/
def T88 {ρ : Type} (ret : (Int) → (Int) → Option ρ) (s : ByteArray) (p : Int) (a : Int) (b : Int) : Option ρ :=
  (bsel (isBytes (bytesF s) && rdOk (unBytes (bytesF s)) p)
   (bsel ((onceV (unBytes (bytesF s)) p 24).fst)
    (bsel (isBytes (bytesF s) && rdOk (unBytes (bytesF s)) (onceV (unBytes (bytesF s)) p 24).snd)
     (bsel (decide (0 ≤ (belowV (unBytes (bytesF s)) (onceV (unBytes (bytesF s)) p 24).snd 4).fst))
      (bsel (decide ((belowV (unBytes (bytesF s)) (onceV (unBytes (bytesF s)) p 24).snd 4).fst < ((4 : Nat) : Int)))
       (bsel (decide (0 + (belowV (unBytes (bytesF s)) (onceV (unBytes (bytesF s)) p 24).snd 4).fst.toNat < 4))
        (bsel (decide ((lget [F.int IntKind.i64 (IntKind.i64.wrap (a - 1)), F.int IntKind.i64 (IntKind.i64.wrap (b + 1)), F.int IntKind.i64 (-9223372036854775808), F.int IntKind.i64 9223372036854775807] (0 + (belowV (unBytes (bytesF s)) (onceV (unBytes (bytesF s)) p 24).snd 4).fst.toNat)).cells.length = 1))
         (bsel (okV (Value.int IntKind.i64 0) ((List.drop 0 (lget [F.int IntKind.i64 (IntKind.i64.wrap (a - 1)), F.int IntKind.i64 (IntKind.i64.wrap (b + 1)), F.int IntKind.i64 (-9223372036854775808), F.int IntKind.i64 9223372036854775807] (0 + (belowV (unBytes (bytesF s)) (onceV (unBytes (bytesF s)) p 24).snd 4).fst.toNat)).cells).headD F.dflt) && true)
          (ret (intOf ((List.drop 0 (lget [F.int IntKind.i64 (IntKind.i64.wrap (a - 1)), F.int IntKind.i64 (IntKind.i64.wrap (b + 1)), F.int IntKind.i64 (-9223372036854775808), F.int IntKind.i64 9223372036854775807] (0 + (belowV (unBytes (bytesF s)) (onceV (unBytes (bytesF s)) p 24).snd 4).fst.toNat)).cells).headD F.dflt)) ((belowV (unBytes (bytesF s)) (onceV (unBytes (bytesF s)) p 24).snd 4).snd))
          none)
         none)
        none)
       none)
      none)
     none)
    (bsel (isBytes (bytesF s) && rdOk (unBytes (bytesF s)) (onceV (unBytes (bytesF s)) p 24).snd && isNear [F.int IntKind.i64 a, F.int IntKind.i64 b])
     (ret ((nearV a b (unBytes (bytesF s)) (onceV (unBytes (bytesF s)) p 24).snd).fst) ((resNear [F.int IntKind.i64 a, F.int IntKind.i64 b] (unBytes (bytesF s)) (onceV (unBytes (bytesF s)) p 24).snd).snd))
     none))
   none)
def G88 (s : ByteArray) (p : Int) (a : Int) (b : Int) : Option ((Int) × (Int)) := T88 (fun r q => some (r, q)) s p a b
theorem t88 (s : ByteArray) (p : Int) (a : Int) (b : Int) (r : Int) (q : Int) (h : G88 s p a b = some (r, q)) : EndsN Try.prog 1 Try.f88.results.toList [.code (bodyOf Try.f88)] (startN Try.f88.ntmps [U.hp 0 0, U.f (F.int .i64 a), U.f (F.int .i64 b)] [HO.box [U.f (bytesF s), U.f (F.int .i64 p)]]) (F.tup [F.int .i64 r, F.agg [bytesF s, F.int .i64 q]]) := by
  refine Ends.of_run tyOK envD8_ok (T := []) (n := 200) ?_
  have e : run Try.prog (tiOf Try.prog) envD8 [] 1 Try.f88.results.toList some 200 [.code (bodyOf Try.f88)] (startN Try.f88.ntmps [U.hp 0 0, U.f (F.int .i64 a), U.f (F.int .i64 b)] [HO.box [U.f (bytesF s), U.f (F.int .i64 p)]]) = T88 (fun r q => some (.ret (F.tup [F.int .i64 r, F.agg [bytesF s, F.int .i64 q]]))) s p a b := by kernel_rfl
  rw [e]
  exact (good_sel h (fun _ h => (good_sel h (fun _ h => (good_sel h (fun _ h => (good_sel h (fun _ h => (good_sel h (fun _ h => (good_sel h (fun _ h => (good_sel h (fun _ h => (good_sel h (fun _ h => good_ret (by cases h; rfl)) (fun _ h => nomatch h))) (fun _ h => nomatch h))) (fun _ h => nomatch h))) (fun _ h => nomatch h))) (fun _ h => nomatch h))) (fun _ h => nomatch h))) (fun _ h => (good_sel h (fun _ h => good_ret (by cases h; rfl)) (fun _ h => nomatch h))))) (fun _ h => nomatch h))
def spotV (s : ByteArray) (p : Int) : Int × Int × Int := (G109 s p).getD (0, 0, 0)
theorem spot_ok {s : ByteArray} {p : Int} (h : rdOk s p = true) : G109 s p = some (spotV s p) ∧ rdOk s (spotV s p).2.2 = true := by
  obtain ⟨a1, a2⟩ := near_ok h (a := -6) (b := 6) (by omega)
  obtain ⟨b1, b2⟩ := near_ok a2 (a := -6) (b := 6) (by omega)
  unfold spotV G109 T109
  simp only [resNear, unBytes_bytesF, isBytes_bytesF, h, a2, Bool.and_self, Bool.and_true, bsel_true, Option.getD_some]
  exact ⟨trivial, b2⟩
def resSpot : List F → ByteArray → Int → F × Int := fun _ s p => (.agg [.int .i64 (spotV s p).1, .int .i64 (spotV s p).2.1], (spotV s p).2.2)
theorem okSpot : SpOK Try.prog 109 (rdSp isNone resSpot) :=
  ok_rd (c := bodyOf Try.f109) Try.func109 (by kernel_rfl) (by kernel_rfl) fun xs s p hx hr => match xs, hx with
  | [], hx => ⟨_, .refl _, t109 s p _ _ _ (spot_ok hr).1⟩
def offV (a b : Int) (s : ByteArray) (p : Int) : Int × Int := (G88 s p a b).getD (0, 0)
theorem off_ok {s : ByteArray} {p a b : Int} (h : rdOk s p = true) (hab : -1099511627776 ≤ a ∧ a ≤ b ∧ b ≤ 1099511627776) : G88 s p a b = some (offV a b s p) ∧ rdOk s (offV a b s p).2 = true := by
  obtain ⟨o1, o2⟩ := once_ok h 24
  obtain ⟨b1, b2, b3, b4⟩ := below_ok o2 4
  obtain ⟨n1, n2⟩ := near_ok o2 hab
  have hn : isNear [F.int .i64 a, F.int .i64 b] = true := decide_eq_true hab
  unfold offV G88 T88
  simp only [resNear, unBytes_bytesF, isBytes_bytesF, h, o2, hn, Bool.and_self, Bool.and_true, bsel_true]
  cases (onceV s p 24).1 with
  | false => simp only [bsel_false, Option.getD_some]; exact ⟨trivial, n2⟩
  | true =>
    simp only [bsel_true]
    have hk : (belowV s (onceV s p 24).2 4).1 = 0 ∨ (belowV s (onceV s p 24).2 4).1 = 1 ∨ (belowV s (onceV s p 24).2 4).1 = 2 ∨ (belowV s (onceV s p 24).2 4).1 = 3 := by omega
    generalize (belowV s (onceV s p 24).2 4).1 = k at hk b2
    rcases hk with rfl | rfl | rfl | rfl <;> exact ⟨rfl, b4⟩
def resOff : List F → ByteArray → Int → F × Int
  | [.int .i64 a, .int .i64 b], s, p => (.int .i64 (offV a b s p).1, (offV a b s p).2)
  | _, _, p => (.dflt, p)
theorem okOff : SpOK Try.prog 88 (rdSp isNear resOff) :=
  ok_rd (c := bodyOf Try.f88) Try.func88 (by kernel_rfl) (by kernel_rfl) fun xs s p hx hr => match xs, hx with
  | [.int .i64 a, .int .i64 b], hx => ⟨_, .refl _, t88 s p a b _ _ (off_ok hr (of_decide_eq_true hx)).1⟩
def envD9 : Env := (envD8.add 109 (rdSp isNone resSpot)).add 88 (rdSp isNear resOff)
theorem envD9_ok : EnvOK Try.prog envD9 := Env.add_ok (Env.add_ok envD8_ok okSpot) okOff
end Go.Proofs.Ytjbilidfnfnpfaa.R
