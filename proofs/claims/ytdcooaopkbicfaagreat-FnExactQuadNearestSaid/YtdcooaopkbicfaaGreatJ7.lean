/-
  The own walk and what it shows, part 7 of 8.
-/
import Derived.Test.YtdcooaopkbicfaaGreatJ1
import Derived.Test.YtdcooaopkbicfaaGreatJ2
import Derived.Test.YtdcooaopkbicfaaGreatJ3
import Derived.Test.YtdcooaopkbicfaaGreatJ4
import Derived.Test.YtdcooaopkbicfaaGreatJ5
import Derived.Test.YtdcooaopkbicfaaGreatJ6
set_option linter.unusedVariables false
set_option linter.unusedSimpArgs false
set_option maxRecDepth 100000
set_option exponentiation.threshold 30000
namespace Go.Proofs.YtdcooaopkbicfaaGreat.R
open Go
noncomputable section
/-! ### function 59 -/
def T59 {ρ : Type} (ret : (F) → Option ρ) (x : Int) (y : Int) : Option ρ :=
 (bsel (isL1n 800 (l1nF y))
 (bsel (isL1n 800 (l1nF x) && isL1n 800 (resNeg3 [l1nF y]))
 (ret (l1nF (unL1n (l1nF x) + unL1n (resNeg3 [l1nF y]))))
 none)
 none)
def G59 (x : Int) (y : Int) : Option (F) := T59 some x y
theorem t59 (x : Int) (y : Int) (r : F) (h : G59 x y = some r) : Ends Tryz.prog Tryz.f59.results.toList [.code (bodyOf Tryz.f59)] (start Tryz.f59.ntmps ([l1nF x, l1nF y].map .f)) (r) := by
  refine Ends.of_run tyOK envS3_ok (T := []) (n := 200) ?_
  have e : run Tryz.prog (tiOf Tryz.prog) envS3 [] 0 Tryz.f59.results.toList some 200 [.code (bodyOf Tryz.f59)] (start Tryz.f59.ntmps ([l1nF x, l1nF y].map .f)) = T59 (fun r => some (.ret (r))) x y := by kernel_rfl
  rw [e]
  exact (good_sel h (fun _ h => (good_sel h (fun _ h => good_ret (by cases h; rfl)) (fun _ h => nomatch h))) (fun _ h => nomatch h))
theorem subZ_law {x y : Int} (hx : x.natAbs < 4294967296 ^ 800) (hy : y.natAbs < 4294967296 ^ 800) : G59 x y = some (l1nF (x - y)) := by
  unfold G59 T59
  have h1 : (-y).natAbs < 4294967296 ^ 800 := by rw [Int.natAbs_neg]; exact hy
  simp only [resNeg3, unL1n_l1nF, isL1n_l1nF hx, isL1n_l1nF hy, isL1n_l1nF h1, Bool.and_self, bsel_true]
  rfl
def resSubZ : List F → F | [x, y] => l1nF (unL1n x - unL1n y) | _ => .dflt
theorem okSubZ : PureOK Tryz.prog 59 (preL2 800) resSubZ :=
  fn_pure_at (c := bodyOf Tryz.f59) Tryz.func59 (by kernel_rfl) (by kernel_rfl) fun xs hp => match xs, hp with
  | [x, y], hp => by
    obtain ⟨hx, hy⟩ := preL2_iff hp
    exact ⟨[l1nF (unL1n x), l1nF (unL1n y)], _, ⟨(l1n_eqv hx).1, (l1n_eqv hy).1, trivial⟩, t59 _ _ _ (subZ_law (natAbs_of_isL1n hx) (natAbs_of_isL1n hy)), .refl _⟩
/-! ### function 35 -/
def S35_5 (s : Bool) (a : List Nat) (t : Bool) (b : List Nat) (m : Nat) (g : Nat → F) (i : Int) : St := ⟨[.bad, .bad, (U.hp 0 0), (U.hp 1 0), (U.hp 2 0), (U.hs 3 m 0 m), (U.f (F.int .i64 i)), .bad, .bad, .bad, .bad, .bad, .bad, .bad, .bad, .bad, .bad, .bad, .bad, .bad, .bad, .bad, .bad, .bad, .bad, .bad, .bad, .bad, .bad, .bad, .bad, .bad, .bad, .bad, .bad, .bad, .bad, .bad, .bad, .bad, .bad, .bad, .bad, .bad, .bad, .bad, .bad, .bad, .bad, .bad, .bad, .bad, .bad, .bad, .bad, .bad, .bad, .bad, .bad, .bad, .bad, .bad, .bad, .bad, .bad, .bad, .bad, .bad, .bad, .bad, .bad, .bad, .bad, .bad, .bad, .bad, .bad, .bad, .bad, .bad, .bad, .bad, .bad, .bad, .bad, .bad, .bad, .bad, .bad, .bad], [HO.box [(U.f (F.bool s)), (U.f (halvesF a))], HO.box [(U.f (F.bool t)), (U.f (halvesF b))], HO.box [(U.f (F.bool false)), U.nils], HO.arr 1 m g]⟩
def S35_9 (s : Bool) (a : List Nat) (t : Bool) (b : List Nat) (m : Nat) (g : Nat → F) (i : Int) (c : Int) (j : Int) : St := ⟨[.bad, .bad, (U.hp 0 0), (U.hp 1 0), (U.hp 2 0), (U.hs 3 m 0 m), (U.f (F.int .i64 i)), (U.f (F.int .u64 c)), (U.f (F.int .i64 j)), .bad, .bad, .bad, .bad, .bad, .bad, .bad, .bad, .bad, .bad, .bad, .bad, .bad, .bad, .bad, .bad, .bad, .bad, .bad, .bad, .bad, .bad, .bad, .bad, .bad, .bad, .bad, .bad, .bad, .bad, .bad, .bad, .bad, .bad, .bad, .bad, .bad, .bad, .bad, .bad, .bad, .bad, .bad, .bad, .bad, .bad, .bad, .bad, .bad, .bad, .bad, .bad, .bad, .bad, .bad, .bad, .bad, .bad, .bad, .bad, .bad, .bad, .bad, .bad, .bad, .bad, .bad, .bad, .bad, .bad, .bad, .bad, .bad, .bad, .bad, .bad, .bad, .bad, .bad, .bad, .bad], [HO.box [(U.f (F.bool s)), (U.f (halvesF a))], HO.box [(U.f (F.bool t)), (U.f (halvesF b))], HO.box [(U.f (F.bool false)), U.nils], HO.arr 1 m g]⟩
def T35_5 {ρ : Type} (ret : (F) → Option ρ) (c5 : (Bool) → (List Nat) → (Bool) → (List Nat) → (Nat) → (Nat → F) → (Int) → Option ρ) (c9 : (Bool) → (List Nat) → (Bool) → (List Nat) → (Nat) → (Nat → F) → (Int) → (Int) → (Int) → Option ρ) (s : Bool) (a : List Nat) (t : Bool) (b : List Nat) (m : Nat) (g : Nat → F) (i : Int) : Option ρ :=
 (bsel (decide (i < (↑a.length : Int)))
 (c9 (s) (a) (t) (b) (m) (g) (i) (0) (0))
 (bsel (decide (m = m))
 (bsel (isHalves (F.sl m (offF 0 g)) && lenOk 2000 (F.sl m (offF 0 g)))
 (ret (l1nF (sgn (!s == t) (val 4294967296 (unHalves (F.sl m (offF 0 g)))))))
 none)
 none))
def T35_9 {ρ : Type} (ret : (F) → Option ρ) (c5 : (Bool) → (List Nat) → (Bool) → (List Nat) → (Nat) → (Nat → F) → (Int) → Option ρ) (c9 : (Bool) → (List Nat) → (Bool) → (List Nat) → (Nat) → (Nat → F) → (Int) → (Int) → (Int) → Option ρ) (s : Bool) (a : List Nat) (t : Bool) (b : List Nat) (m : Nat) (g : Nat → F) (i : Int) (c : Int) (j : Int) : Option ρ :=
 (bsel (decide (j < (↑b.length : Int)))
 (bsel (decide (0 ≤ i))
 (bsel (decide (i < (↑a.length : Int)))
 (bsel (decide (0 ≤ j))
 (bsel (decide (j < (↑b.length : Int)))
 (bsel (decide (m = m))
 (bsel (decide (0 ≤ IntKind.i64.wrap (i + j)))
 (bsel (decide (IntKind.i64.wrap (i + j) < (↑m : Int)))
 (bsel (decide (m = m))
 (bsel (decide (0 + (IntKind.i64.wrap (i + j)).toNat < m))
 (bsel (decide ((g (0 + (IntKind.i64.wrap (i + j)).toNat)).cells.length = 1))
 (bsel (okV (Value.int IntKind.u32 0) ((List.drop 0 (g (0 + (IntKind.i64.wrap (i + j)).toNat)).cells).headD F.dflt) && true)
 (bsel (decide (m = m))
 (bsel (decide (0 ≤ IntKind.i64.wrap (i + j)))
 (bsel (decide (IntKind.i64.wrap (i + j) < (↑m : Int)))
 (bsel (decide (m = m))
 (bsel (decide (0 + (IntKind.i64.wrap (i + j)).toNat < m))
 (bsel (decide ((g (0 + (IntKind.i64.wrap (i + j)).toNat)).cells.length = 1))
 (bsel ((isAggF (g (0 + (IntKind.i64.wrap (i + j)).toNat)) || true) && true)
 (c9 (s) (a) (t) (b) (m) (fun j_1 ↦ if j_1 = 0 + (IntKind.i64.wrap (i + j)).toNat then F.int .u32 (IntKind.u32.wrap (IntKind.u64.wrap (IntKind.u64.wrap (c + IntKind.u64.wrap (IntKind.u64.wrap (↑(a.getD i.toNat 0) : Int) * IntKind.u64.wrap (↑(b.getD j.toNat 0) : Int))) + IntKind.u64.wrap (intOf ((List.drop 0 (g (0 + (IntKind.i64.wrap (i + j)).toNat)).cells).headD F.dflt))))) else g j_1) (i) ((IntKind.u64.wrap (IntKind.u64.wrap (c + IntKind.u64.wrap (IntKind.u64.wrap (↑(a.getD i.toNat 0) : Int) * IntKind.u64.wrap (↑(b.getD j.toNat 0) : Int))) + IntKind.u64.wrap (intOf ((List.drop 0 (g (0 + (IntKind.i64.wrap (i + j)).toNat)).cells).headD F.dflt)))).fdiv (2 ^ min (Int.toNat 32) IntKind.u64.bits)) (IntKind.i64.wrap (j + 1)))
 none)
 none)
 none)
 none)
 none)
 none)
 none)
 none)
 none)
 none)
 none)
 none)
 none)
 none)
 none)
 none)
 none)
 none)
 (bsel (decide (m = m))
 (bsel (decide (0 ≤ IntKind.i64.wrap (i + (↑b.length : Int))))
 (bsel (decide (IntKind.i64.wrap (i + (↑b.length : Int)) < (↑m : Int)))
 (bsel (decide (m = m))
 (bsel (decide (0 + (IntKind.i64.wrap (i + (↑b.length : Int))).toNat < m))
 (bsel (decide ((g (0 + (IntKind.i64.wrap (i + (↑b.length : Int))).toNat)).cells.length = 1))
 (bsel ((isAggF (g (0 + (IntKind.i64.wrap (i + (↑b.length : Int))).toNat)) || true) && true)
 (c5 (s) (a) (t) (b) (m) (fun j ↦ if j = 0 + (IntKind.i64.wrap (i + (↑b.length : Int))).toNat then F.int .u32 (IntKind.u32.wrap c) else g j) (IntKind.i64.wrap (i + 1)))
 none)
 none)
 none)
 none)
 none)
 none)
 none))
mutual
def L35_5 : Nat → (Bool) → (List Nat) → (Bool) → (List Nat) → (Nat) → (Nat → F) → (Int) → Option (F)
  | 0, _, _, _, _, _, _, _ => none
  | k + 1, s, a, t, b, m, g, i => T35_5 some (L35_5 k) (L35_9 k) s a t b m g i
def L35_9 : Nat → (Bool) → (List Nat) → (Bool) → (List Nat) → (Nat) → (Nat → F) → (Int) → (Int) → (Int) → Option (F)
  | 0, _, _, _, _, _, _, _, _, _ => none
  | k + 1, s, a, t, b, m, g, i, c, j => T35_9 some (L35_5 k) (L35_9 k) s a t b m g i c j
end
def T35 {ρ : Type} (ret : (F) → Option ρ) (c5 : (Bool) → (List Nat) → (Bool) → (List Nat) → (Nat) → (Nat → F) → (Int) → Option ρ) (c9 : (Bool) → (List Nat) → (Bool) → (List Nat) → (Nat) → (Nat → F) → (Int) → (Int) → (Int) → Option ρ) (x : Int) (y : Int) : Option ρ :=
 (bsel (((↑(digs 4294967296 x.natAbs).length : Int) == 0) == false)
 (bsel ((↑(digs 4294967296 y.natAbs).length : Int) == 0)
 (ret (F.agg [F.bool false, F.sl 0 fun x ↦ F.bool false]))
 (bsel (decide (0 ≤ IntKind.i64.wrap ((↑(digs 4294967296 x.natAbs).length : Int) + (↑(digs 4294967296 y.natAbs).length : Int))))
 (bsel (decide (IntKind.i64.wrap ((↑(digs 4294967296 x.natAbs).length : Int) + (↑(digs 4294967296 y.natAbs).length : Int)) ≤ IntKind.i64.wrap ((↑(digs 4294967296 x.natAbs).length : Int) + (↑(digs 4294967296 y.natAbs).length : Int))))
 (bsel (decide (IntKind.i64.wrap ((↑(digs 4294967296 x.natAbs).length : Int) + (↑(digs 4294967296 y.natAbs).length : Int)) * (((4 : Nat) : Int) + 1) ≤ (↑limit : Int)))
 (c5 (decide (x < 0)) (digs 4294967296 x.natAbs) (decide (y < 0)) (digs 4294967296 y.natAbs) ((IntKind.i64.wrap ((↑(digs 4294967296 x.natAbs).length : Int) + (↑(digs 4294967296 y.natAbs).length : Int))).toNat) (fun x ↦ F.int .u32 0) (0))
 none)
 none)
 none))
 (ret (F.agg [F.bool false, F.sl 0 fun x ↦ F.bool false])))
def G35 (k : Nat) (x : Int) (y : Int) : Option (F) := T35 some (L35_5 k) (L35_9 k) x y
mutual
theorem t35_5 : ∀ (k : Nat) (s : Bool) (a : List Nat) (t : Bool) (b : List Nat) (m : Nat) (g : Nat → F) (i : Int) (r : F), L35_5 k s a t b m g i = some r → Ends Tryz.prog Tryz.f35.results.toList (at_ Tryz.f35 5) (S35_5 s a t b m g i) (r)
  | 0, _, _, _, _, _, _, _, _, h => nomatch h
  | k + 1, s, a, t, b, m, g, i, r, h => by
    refine Ends.of_cut tyOK envS3_ok (T := [(5, [2, 3, 4, 5, 6], 1000), (9, [2, 3, 4, 5, 6, 7, 8], 1000)]) (n := 200) ?_
    have e : runCut Tryz.prog (tiOf Tryz.prog) envS3 [(5, [2, 3, 4, 5, 6], 1000), (9, [2, 3, 4, 5, 6, 7, 8], 1000)] 0 Tryz.f35.results.toList some 200 (at_ Tryz.f35 5) (S35_5 s a t b m g i) = T35_5 (fun r => some (.ret (r))) (fun s a t b m g i => some (.cut (at_ Tryz.f35 5) (S35_5 s a t b m g i))) (fun s a t b m g i c j => some (.cut (at_ Tryz.f35 9) (S35_9 s a t b m g i c j))) s a t b m g i := by kernel_rfl
    rw [e]
    exact (good_sel h (fun _ h => good_cut (t35_9 k _ _ _ _ _ _ _ _ _ r h)) (fun _ h => (good_sel h (fun _ h => (good_sel h (fun _ h => good_ret (by cases h; rfl)) (fun _ h => nomatch h))) (fun _ h => nomatch h))))
theorem t35_9 : ∀ (k : Nat) (s : Bool) (a : List Nat) (t : Bool) (b : List Nat) (m : Nat) (g : Nat → F) (i : Int) (c : Int) (j : Int) (r : F), L35_9 k s a t b m g i c j = some r → Ends Tryz.prog Tryz.f35.results.toList (at_ Tryz.f35 9) (S35_9 s a t b m g i c j) (r)
  | 0, _, _, _, _, _, _, _, _, _, _, h => nomatch h
  | k + 1, s, a, t, b, m, g, i, c, j, r, h => by
    refine Ends.of_cut tyOK envS3_ok (T := [(5, [2, 3, 4, 5, 6], 1000), (9, [2, 3, 4, 5, 6, 7, 8], 1000)]) (n := 200) ?_
    have e : runCut Tryz.prog (tiOf Tryz.prog) envS3 [(5, [2, 3, 4, 5, 6], 1000), (9, [2, 3, 4, 5, 6, 7, 8], 1000)] 0 Tryz.f35.results.toList some 200 (at_ Tryz.f35 9) (S35_9 s a t b m g i c j) = T35_9 (fun r => some (.ret (r))) (fun s a t b m g i => some (.cut (at_ Tryz.f35 5) (S35_5 s a t b m g i))) (fun s a t b m g i c j => some (.cut (at_ Tryz.f35 9) (S35_9 s a t b m g i c j))) s a t b m g i c j := by kernel_rfl
    rw [e]
    exact (good_sel h (fun _ h => (good_sel h (fun _ h => (good_sel h (fun _ h => (good_sel h (fun _ h => (good_sel h (fun _ h => (good_sel h (fun _ h => (good_sel h (fun _ h => (good_sel h (fun _ h => (good_sel h (fun _ h => (good_sel h (fun _ h => (good_sel h (fun _ h => (good_sel h (fun _ h => (good_sel h (fun _ h => (good_sel h (fun _ h => (good_sel h (fun _ h => (good_sel h (fun _ h => (good_sel h (fun _ h => (good_sel h (fun _ h => (good_sel h (fun _ h => good_cut (t35_9 k _ _ _ _ _ _ _ _ _ r h)) (fun _ h => nomatch h))) (fun _ h => nomatch h))) (fun _ h => nomatch h))) (fun _ h => nomatch h))) (fun _ h => nomatch h))) (fun _ h => nomatch h))) (fun _ h => nomatch h))) (fun _ h => nomatch h))) (fun _ h => nomatch h))) (fun _ h => nomatch h))) (fun _ h => nomatch h))) (fun _ h => nomatch h))) (fun _ h => nomatch h))) (fun _ h => nomatch h))) (fun _ h => nomatch h))) (fun _ h => nomatch h))) (fun _ h => nomatch h))) (fun _ h => nomatch h))) (fun _ h => (good_sel h (fun _ h => (good_sel h (fun _ h => (good_sel h (fun _ h => (good_sel h (fun _ h => (good_sel h (fun _ h => (good_sel h (fun _ h => (good_sel h (fun _ h => good_cut (t35_5 k _ _ _ _ _ _ _ r h)) (fun _ h => nomatch h))) (fun _ h => nomatch h))) (fun _ h => nomatch h))) (fun _ h => nomatch h))) (fun _ h => nomatch h))) (fun _ h => nomatch h))) (fun _ h => nomatch h))))
end
theorem t35 (k : Nat) (x : Int) (y : Int) (r : F) (h : G35 k x y = some r) : Ends Tryz.prog Tryz.f35.results.toList [.code (bodyOf Tryz.f35)] (start Tryz.f35.ntmps ([l1nF x, l1nF y].map .f)) (r) := by
  refine Ends.of_run tyOK envS3_ok (T := [(5, [2, 3, 4, 5, 6], 1000), (9, [2, 3, 4, 5, 6, 7, 8], 1000)]) (n := 200) ?_
  have e : run Tryz.prog (tiOf Tryz.prog) envS3 [(5, [2, 3, 4, 5, 6], 1000), (9, [2, 3, 4, 5, 6, 7, 8], 1000)] 0 Tryz.f35.results.toList some 200 [.code (bodyOf Tryz.f35)] (start Tryz.f35.ntmps ([l1nF x, l1nF y].map .f)) = T35 (fun r => some (.ret (r))) (fun s a t b m g i => some (.cut (at_ Tryz.f35 5) (S35_5 s a t b m g i))) (fun s a t b m g i c j => some (.cut (at_ Tryz.f35 9) (S35_9 s a t b m g i c j))) x y := by kernel_rfl
  rw [e]
  exact (good_sel h (fun _ h => (good_sel h (fun _ h => good_ret (by cases h; rfl)) (fun _ h => (good_sel h (fun _ h => (good_sel h (fun _ h => (good_sel h (fun _ h => good_cut (t35_5 k _ _ _ _ _ _ _ r h)) (fun _ h => nomatch h))) (fun _ h => nomatch h))) (fun _ h => nomatch h))))) (fun _ h => good_ret (by cases h; rfl)))
theorem mul3_carry {x y o c : Nat} (hx : x < 4294967296) (hy : y < 4294967296) (ho : o < 4294967296) (hc : c < 4294967296) :
    F.int .u32 (IntKind.u32.wrap (IntKind.u64.wrap (IntKind.u64.wrap ((c : Int) + IntKind.u64.wrap (IntKind.u64.wrap (x : Int) * IntKind.u64.wrap (y : Int))) + IntKind.u64.wrap (o : Int)))) = u32F ((x * y + o + c) % 4294967296) ∧
    (IntKind.u64.wrap (IntKind.u64.wrap ((c : Int) + IntKind.u64.wrap (IntKind.u64.wrap (x : Int) * IntKind.u64.wrap (y : Int))) + IntKind.u64.wrap (o : Int))).fdiv (2 ^ min (Int.toNat 32) IntKind.u64.bits) = (((x * y + o + c) / 4294967296 : Nat) : Int) ∧ (x * y + o + c) / 4294967296 < 4294967296 := by
  have h := mul_step (B := 4294967296) (by omega) hx hy ho hc
  have hb : x * y + o + c < 18446744073709551616 := by
    rw [Nat.div_lt_iff_lt_mul (by omega)] at h
    exact h
  have e : IntKind.u64.wrap (IntKind.u64.wrap ((c : Int) + IntKind.u64.wrap (IntKind.u64.wrap (x : Int) * IntKind.u64.wrap (y : Int))) + IntKind.u64.wrap (o : Int)) = ((x * y + o + c : Nat) : Int) := by
    rw [wrapu_lt (show x < 18446744073709551616 by omega), wrapu_lt (show y < 18446744073709551616 by omega), wrapu_lt (show o < 18446744073709551616 by omega), ← Int.natCast_mul]
    clear h
    generalize x * y = p at *
    simp only [wrapN]
    omega
  rw [e, shr32]
  refine ⟨congrArg (F.int .u32) ?_, rfl, h⟩
  rw [wrap32]
  omega
theorem by3_inner {s t : Bool} {a b : List Nat} {m i : Nat} (oa : okD 4294967296 a) (ob : okD 4294967296 b) (hm : m = a.length + b.length) (hi : i < a.length) (hl : m ≤ 1900) :
    ∀ (r j c k : Nat) (o : List Nat) (g : Nat → F), r + j = b.length → o.length = m → okD 4294967296 o → c < 4294967296 → (∀ q, i + j ≤ q → (j = 0 ∨ i + b.length ≤ q) → (i + b.length ≤ q → o.getD q 0 = 0)) →
      (∀ q, q < m → g q = u32F (o.getD q 0)) → r < k →
      ∃ o' g', L35_9 (k + 1) s a t b m g i c j = L35_5 (k - r) s a t b m g' ((i + 1 : Nat) : Int) ∧ o'.length = m ∧ okD 4294967296 o' ∧ (∀ q, i + 1 + b.length ≤ q → o'.getD q 0 = 0) ∧
        (∀ q, q < m → g' q = u32F (o'.getD q 0)) ∧ val 4294967296 o' + 4294967296 ^ i * a.getD i 0 * val 4294967296 (b.take j) = val 4294967296 o + 4294967296 ^ (i + j) * c + 4294967296 ^ i * a.getD i 0 * val 4294967296 b
  | r, j, c, 0, o, g, _, _, _, _, _, _, hk => by omega
  | 0, j, c, k + 1, o, g, hr, ho, oo, hc, hz, hg, hk => by
    obtain rfl : j = b.length := by omega
    have hp : i + b.length < m := by omega
    have ei : IntKind.i64.wrap ((i : Int) + (b.length : Int)) = ((i + b.length : Nat) : Int) := by rw [wrapI (by omega) (by omega)]; omega
    have e1 : IntKind.i64.wrap ((i : Int) + 1) = ((i + 1 : Nat) : Int) := by rw [wrapI (by omega) (by omega)]; omega
    have e2 : F.int .u32 (IntKind.u32.wrap (c : Int)) = u32F c := congrArg (F.int .u32) (by rw [wrap32]; omega)
    refine ⟨o.set (i + b.length) c, _, ?_, by simp [ho], okD_set oo hc, ?_, halves_set ho hp hg, ?_⟩
    · rw [L35_9]
      unfold T35_9
      rw [decide_eq_false (show ¬ (b.length : Int) < b.length by omega), bsel_false, ei, e1, Int.toNat_natCast, decide_eq_true (show (0 : Int) ≤ ((i + b.length : Nat) : Int) by omega), decide_eq_true (show ((i + b.length : Nat) : Int) < (m : Int) by omega), dec_rfl, decide_eq_true (show 0 + (i + b.length) < m by omega), hg (0 + (i + b.length)) (by omega), decide_eq_true (u32_cells _), isAgg_or, e2]
      rfl
    · intro q hq
      rw [getD_set (by omega)]
      exact hz q (by omega) (.inr (by omega)) (by omega)
    · have h1 := val_set 4294967296 o (i + b.length) c (by omega)
      rw [hz (i + b.length) (by omega) (.inr (by omega)) (by omega), Nat.mul_zero, Nat.add_zero] at h1
      rw [h1, List.take_length]
  | r + 1, j, c, k + 1, o, g, hr, ho, oo, hc, hz, hg, hk => by
    have hj : j < b.length := by omega
    have hp : i + j < m := by omega
    have hx := getD_lt oa hi
    have hy := getD_lt ob hj
    have hov := getD_lt oo (show i + j < o.length by omega)
    obtain ⟨c1, c2, c6⟩ := mul3_carry hx hy hov hc
    have ei : IntKind.i64.wrap ((i : Int) + (j : Int)) = ((i + j : Nat) : Int) := by rw [wrapI (by omega) (by omega)]; omega
    have e1 : IntKind.i64.wrap ((j : Int) + 1) = ((j + 1 : Nat) : Int) := by rw [wrapI (by omega) (by omega)]; omega
    obtain ⟨o', g', h1, h2, h3, h4, h5, h6⟩ := by3_inner (s := s) (t := t) oa ob hm hi hl r (j + 1) ((a.getD i 0 * b.getD j 0 + o.getD (i + j) 0 + c) / 4294967296) k (o.set (i + j) ((a.getD i 0 * b.getD j 0 + o.getD (i + j) 0 + c) % 4294967296)) _ (by omega) (by simp [ho]) (okD_set oo (Nat.mod_lt _ (by omega))) c6
      (fun q hq _ hq2 => by rw [getD_set (by omega)]; exact hz q (by omega) (.inr hq2) hq2) (halves_set ho hp hg) (by omega)
    refine ⟨o', g', ?_, h2, h3, h4, h5, ?_⟩
    · rw [show k + 1 - (r + 1) = k - r by omega, ← h1]
      conv => lhs; rw [L35_9]
      unfold T35_9
      rw [decide_eq_true (show (j : Int) < b.length by omega), decide_eq_true (show (0 : Int) ≤ (j : Int) by omega), decide_eq_true (show (0 : Int) ≤ (i : Int) by omega), decide_eq_true (show (i : Int) < a.length by omega), ei, e1, Int.toNat_natCast, Int.toNat_natCast, Int.toNat_natCast, decide_eq_true (show (0 : Int) ≤ ((i + j : Nat) : Int) by omega), decide_eq_true (show ((i + j : Nat) : Int) < (m : Int) by omega), dec_rfl, decide_eq_true (show 0 + (i + j) < m by omega), hg (0 + (i + j)) (by omega), decide_eq_true (u32_cells _), cell_ofH, okV_u32, intOf_u32, isAgg_or, Nat.zero_add, c1, c2]
      rfl
    · have hs := val_step (B := 4294967296) (o := o) (p := i + j) (c := c) (x := a.getD i 0) (y := b.getD j 0) (by omega)
      have ht := val_take_succ (B := 4294967296) (l := b) hj
      rw [ht, Nat.mul_add] at h6
      have e2 : 4294967296 ^ (i + j) * (a.getD i 0 * b.getD j 0) = 4294967296 ^ i * a.getD i 0 * (4294967296 ^ j * b.getD j 0) := by
        rw [Nat.pow_add, Nat.mul_assoc, Nat.mul_assoc]
        congr 1
        rw [Nat.mul_left_comm]
      rw [show i + (j + 1) = i + j + 1 by omega] at h6
      omega
theorem by3_outer {s t : Bool} {a b : List Nat} {m : Nat} (oa : okD 4294967296 a) (ob : okD 4294967296 b) (hm : m = a.length + b.length) (hl : m ≤ 1900) :
    ∀ (r i k : Nat) (o : List Nat) (g : Nat → F), r + i = a.length → o.length = m → okD 4294967296 o → (∀ q, i + b.length ≤ q → o.getD q 0 = 0) → (∀ q, q < m → g q = u32F (o.getD q 0)) → val 4294967296 o = val 4294967296 (a.take i) * val 4294967296 b →
      r * (b.length + 3) < k → L35_5 k s a t b m g i = some (l1nF (sgn (!(s == t)) (val 4294967296 a * val 4294967296 b)))
  | r, i, 0, o, g, _, _, _, _, _, _, hk => by omega
  | 0, i, k + 1, o, g, hr, ho, oo, hz, hg, hv, hk => by
    obtain rfl : i = a.length := by omega
    rw [List.take_length] at hv
    rw [L35_5]
    unfold T35_5
    rw [decide_eq_false (show ¬ (a.length : Int) < a.length by omega), bsel_false, show offF 0 g = g from rfl, unHalves_read ho hg, isHalves_read ho hg oo, show lenOk 2000 (.sl m g) = true from Nat.ble_eq_true_of_le (by omega), hv, dec_rfl]
    rfl
  | r + 1, i, k + 1, o, g, hr, ho, oo, hz, hg, hv, hk => by
    have hi : i < a.length := by omega
    rw [Nat.add_mul, Nat.one_mul] at hk
    obtain ⟨k', rfl⟩ : ∃ k', k = k' + 1 := ⟨k - 1, by omega⟩
    obtain ⟨o', g', h1, h2, h3, h4, h5, h6⟩ := by3_inner (s := s) (t := t) oa ob hm hi hl b.length 0 0 k' o g (by omega) ho oo (by omega) (fun q _ _ hq => hz q hq) hg (by omega)
    have hv' : val 4294967296 o' = val 4294967296 (a.take (i + 1)) * val 4294967296 b := by
      rw [val_take_succ hi, Nat.add_mul, ← hv]
      simp only [List.take_zero, val, Nat.mul_zero, Nat.add_zero] at h6
      exact h6
    rw [L35_5]
    unfold T35_5
    rw [decide_eq_true (show (i : Int) < a.length by omega), bsel_true]
    exact h1.trans (by3_outer (s := s) (t := t) oa ob hm hl r (i + 1) (k' - b.length) o' g' (by omega) h2 h3 (fun q hq => h4 q hq) h5 hv' (by omega))
theorem mulZ_law {x y : Int} (hx : x.natAbs < 4294967296 ^ 900) (hy : y.natAbs < 4294967296 ^ 900) : ∃ r, G35 2000000 x y = some r ∧ FLe r (l1nF (x * y)) := by
  have lx := digsH_len hx
  have ly := digsH_len hy
  clear hx hy
  have z : FLe (F.agg [.bool false, .sl 0 fun _ => F.bool false]) (l1nF 0) := by
    unfold l1nF
    rw [show digs 4294967296 (Int.natAbs 0) = [] from digs_zero _]
    exact FLe.agg ⟨.refl _, FLe.sl fun j hj => by omega, trivial⟩
  unfold G35 T35
  by_cases hx0 : x = 0
  · subst hx0
    rw [show digs 4294967296 (Int.natAbs 0) = [] from digs_zero _, Int.zero_mul]
    exact ⟨_, rfl, z⟩
  have px := digsH_len_pos (n := x.natAbs).2 (by omega)
  rw [show (((digs 4294967296 x.natAbs).length : Int) == 0) = false by simp only [beq_eq_false_iff_ne, ne_eq]; omega, show (false == false) = true from rfl, bsel_true]
  by_cases hy0 : y = 0
  · subst hy0
    rw [show digs 4294967296 (Int.natAbs 0) = [] from digs_zero _, Int.mul_zero]
    exact ⟨_, rfl, z⟩
  have py := digsH_len_pos (n := y.natAbs).2 (by omega)
  have ew : IntKind.i64.wrap (((digs 4294967296 x.natAbs).length : Int) + ((digs 4294967296 y.natAbs).length : Int)) = (((digs 4294967296 x.natAbs).length + (digs 4294967296 y.natAbs).length : Nat) : Int) := by
    rw [wrapI (by omega) (by omega)]; omega
  rw [ew, show (((digs 4294967296 y.natAbs).length : Int) == 0) = false by simp only [beq_eq_false_iff_ne, ne_eq]; omega, bsel_false]
  rw [decide_eq_true (show (0 : Int) ≤ (((digs 4294967296 x.natAbs).length + (digs 4294967296 y.natAbs).length : Nat) : Int) by omega), decide_eq_true (Int.le_refl _), decide_eq_true (limit_ok4 (show (digs 4294967296 x.natAbs).length + (digs 4294967296 y.natAbs).length ≤ 3000 by omega)), Int.toNat_natCast]
  simp only [bsel_true]
  have fuel : (digs 4294967296 x.natAbs).length * ((digs 4294967296 y.natAbs).length + 3) < 2000000 := Nat.lt_of_le_of_lt (Nat.mul_le_mul lx (show (digs 4294967296 y.natAbs).length + 3 ≤ 903 by omega)) (by decide)
  have h := by3_outer (s := decide (x < 0)) (t := decide (y < 0)) (a := digs 4294967296 x.natAbs) (b := digs 4294967296 y.natAbs) (okD_digs (by omega) _) (okD_digs (by omega) _) rfl (by omega) (digs 4294967296 x.natAbs).length 0 2000000 (List.replicate ((digs 4294967296 x.natAbs).length + (digs 4294967296 y.natAbs).length) 0) (fun _ => F.int .u32 0) rfl (by simp)
    (fun w hw => by have := (List.mem_replicate.1 hw).2; omega) (fun q hq => by simp [List.getD, List.getElem?_replicate]; split <;> rfl) (fun q hq => by simp [List.getD, List.getElem?_replicate, u32F, hq]) (by rw [val_zeros]; simp [val]) fuel
  rw [val_digsH, val_digsH, sgn_mul] at h
  exact ⟨_, h, .refl _⟩
def resMulZ : List F → F | [x, y] => l1nF (unL1n x * unL1n y) | _ => .dflt
theorem okMulZ : PureOK Tryz.prog 35 (preL2 900) resMulZ :=
  fn_pure_at (c := bodyOf Tryz.f35) Tryz.func35 (by kernel_rfl) (by kernel_rfl) fun xs hp => match xs, hp with
  | [x, y], hp => by
    obtain ⟨hx, hy⟩ := preL2_iff hp
    obtain ⟨r, e, hr⟩ := mulZ_law (natAbs_of_isL1n hx) (natAbs_of_isL1n hy)
    exact ⟨[l1nF (unL1n x), l1nF (unL1n y)], _, ⟨(l1n_eqv hx).1, (l1n_eqv hy).1, trivial⟩, t35 2000000 _ _ _ e, hr⟩
/-! ### function 83 -/
def S83_7 (b : List Nat) (m : Nat) (g : Nat → F) (e : List Nat) (i : Int) : St := ⟨[.bad, (U.f (halvesF b)), .bad, .bad, .bad, .bad, .bad, (U.hs 0 m 0 m), (U.f (halvesF e)), (U.f (F.int .i64 i)), .bad, .bad, .bad, .bad, .bad, .bad, .bad, .bad, .bad, .bad, .bad, .bad, .bad, .bad, .bad, .bad, .bad, .bad, .bad, .bad, .bad, .bad, .bad, .bad, .bad, .bad, .bad, .bad, .bad, .bad, .bad, .bad, .bad, .bad, .bad, .bad, .bad, .bad, .bad, .bad, .bad, .bad, .bad, .bad, .bad, .bad, .bad, .bad, .bad], [HO.arr 1 m g]⟩
def T83_7 {ρ : Type} (ret : (F) → Option ρ) (c7 : (List Nat) → (Nat) → (Nat → F) → (List Nat) → (Int) → Option ρ) (b : List Nat) (m : Nat) (g : Nat → F) (e : List Nat) (i : Int) : Option ρ :=
 (bsel (decide (i ≥ 0))
 (bsel (isHalves (halvesF b) && isLeft (unHalves (halvesF b)).length i)
 (bsel (isTrimH 800 (halvesF e) && isTrimH 800 (halvesF (digs 4294967296 (val 4294967296 (unHalves (halvesF b)) * 2 ^ i.toNat))))
 (bsel (decide (((↑(val 4294967296 (unHalves (halvesF e))) : Int) - (↑(val 4294967296 (unHalves (halvesF (digs 4294967296 (val 4294967296 (unHalves (halvesF b)) * 2 ^ i.toNat))))) : Int)).sign ≥ 0))
 (bsel (isHalves (halvesF e) && lenOk 1900 (halvesF e) && (isHalves (halvesF (digs 4294967296 (val 4294967296 (unHalves (halvesF b)) * 2 ^ i.toNat))) && lenOk 1900 (halvesF (digs 4294967296 (val 4294967296 (unHalves (halvesF b)) * 2 ^ i.toNat)))))
 (bsel (isHalves (resSub3 [halvesF e, halvesF (digs 4294967296 (val 4294967296 (unHalves (halvesF b)) * 2 ^ i.toNat))]) && lenOk 2000 (resSub3 [halvesF e, halvesF (digs 4294967296 (val 4294967296 (unHalves (halvesF b)) * 2 ^ i.toNat))]))
 (bsel (decide (m = m))
 (bsel (decide (0 ≤ IntKind.i64.wrap (i.tdiv 32)))
 (bsel (decide (IntKind.i64.wrap (i.tdiv 32) < (↑m : Int)))
 (bsel (decide (m = m))
 (bsel (decide (0 + (IntKind.i64.wrap (i.tdiv 32)).toNat < m))
 (bsel (decide ((g (0 + (IntKind.i64.wrap (i.tdiv 32)).toNat)).cells.length = 1))
 (bsel (okV (Value.int IntKind.u32 0) ((List.drop 0 (g (0 + (IntKind.i64.wrap (i.tdiv 32)).toNat)).cells).headD F.dflt) && true)
 (bsel (decide (0 ≤ IntKind.u64.wrap (i.tmod 32)))
 (bsel (decide (m = m))
 (bsel (decide (0 ≤ IntKind.i64.wrap (i.tdiv 32)))
 (bsel (decide (IntKind.i64.wrap (i.tdiv 32) < (↑m : Int)))
 (bsel (decide (m = m))
 (bsel (decide (0 + (IntKind.i64.wrap (i.tdiv 32)).toNat < m))
 (bsel (decide ((g (0 + (IntKind.i64.wrap (i.tdiv 32)).toNat)).cells.length = 1))
 (bsel ((isAggF (g (0 + (IntKind.i64.wrap (i.tdiv 32)).toNat)) || true) && true)
 (c7 (b) (m) (fun j ↦ if j = 0 + (IntKind.i64.wrap (i.tdiv 32)).toNat then F.int .u32 (bitsOp BinOp.or IntKind.u32 (intOf ((List.drop 0 (g (0 + (IntKind.i64.wrap (i.tdiv 32)).toNat)).cells).headD F.dflt)) (IntKind.u32.wrap (1 * 2 ^ min (IntKind.u64.wrap (i.tmod 32)).toNat IntKind.u32.bits))) else g j) (digs 4294967296 (sgn false (val 4294967296 (unHalves (resSub3 [halvesF e, halvesF (digs 4294967296 (val 4294967296 (unHalves (halvesF b)) * 2 ^ i.toNat))])))).natAbs) (IntKind.i64.wrap (i - 1)))
 none)
 none)
 none)
 none)
 none)
 none)
 none)
 none)
 none)
 none)
 none)
 none)
 none)
 none)
 none)
 none)
 none)
 (c7 (b) (m) (g) (e) (IntKind.i64.wrap (i - 1))))
 none)
 none)
 (bsel (decide (m = m))
 (bsel (isHalves (F.sl m (offF 0 g)) && lenOk 2000 (F.sl m (offF 0 g)))
 (ret (F.tup [halvesF (digs 4294967296 (sgn false (val 4294967296 (unHalves (F.sl m (offF 0 g))))).natAbs), halvesF e]))
 none)
 none))
def L83_7 : Nat → (List Nat) → (Nat) → (Nat → F) → (List Nat) → (Int) → Option (F)
  | 0, _, _, _, _, _ => none
  | k + 1, b, m, g, e, i => T83_7 some (L83_7 k) b m g e i
def T83 {ρ : Type} (ret : (F) → Option ρ) (c7 : (List Nat) → (Nat) → (Nat → F) → (List Nat) → (Int) → Option ρ) (a : List Nat) (b : List Nat) : Option ρ :=
 (bsel (isTrimH 800 (halvesF a))
 (bsel (isTrimH 800 (halvesF b))
 (bsel (decide (IntKind.i64.wrap ((↑(Go.Proofs.YtdcooaopkbicfaaGreat.R.bitLen (val 4294967296 (unHalves (halvesF a)))) : Int) - (↑(Go.Proofs.YtdcooaopkbicfaaGreat.R.bitLen (val 4294967296 (unHalves (halvesF b)))) : Int)) < 0))
 (ret (F.tup [F.sl 0 fun x ↦ F.bool false, halvesF a]))
 (bsel (decide (0 ≤ IntKind.i64.wrap (IntKind.i64.wrap ((IntKind.i64.wrap ((↑(Go.Proofs.YtdcooaopkbicfaaGreat.R.bitLen (val 4294967296 (unHalves (halvesF a)))) : Int) - (↑(Go.Proofs.YtdcooaopkbicfaaGreat.R.bitLen (val 4294967296 (unHalves (halvesF b)))) : Int))).tdiv 32) + 1)))
 (bsel (decide (IntKind.i64.wrap (IntKind.i64.wrap ((IntKind.i64.wrap ((↑(Go.Proofs.YtdcooaopkbicfaaGreat.R.bitLen (val 4294967296 (unHalves (halvesF a)))) : Int) - (↑(Go.Proofs.YtdcooaopkbicfaaGreat.R.bitLen (val 4294967296 (unHalves (halvesF b)))) : Int))).tdiv 32) + 1) ≤ IntKind.i64.wrap (IntKind.i64.wrap ((IntKind.i64.wrap ((↑(Go.Proofs.YtdcooaopkbicfaaGreat.R.bitLen (val 4294967296 (unHalves (halvesF a)))) : Int) - (↑(Go.Proofs.YtdcooaopkbicfaaGreat.R.bitLen (val 4294967296 (unHalves (halvesF b)))) : Int))).tdiv 32) + 1)))
 (bsel (decide (IntKind.i64.wrap (IntKind.i64.wrap ((IntKind.i64.wrap ((↑(Go.Proofs.YtdcooaopkbicfaaGreat.R.bitLen (val 4294967296 (unHalves (halvesF a)))) : Int) - (↑(Go.Proofs.YtdcooaopkbicfaaGreat.R.bitLen (val 4294967296 (unHalves (halvesF b)))) : Int))).tdiv 32) + 1) * (((4 : Nat) : Int) + 1) ≤ (↑limit : Int)))
 (c7 (b) ((IntKind.i64.wrap (IntKind.i64.wrap ((IntKind.i64.wrap ((↑(Go.Proofs.YtdcooaopkbicfaaGreat.R.bitLen (val 4294967296 (unHalves (halvesF a)))) : Int) - (↑(Go.Proofs.YtdcooaopkbicfaaGreat.R.bitLen (val 4294967296 (unHalves (halvesF b)))) : Int))).tdiv 32) + 1)).toNat) (fun x ↦ F.int .u32 0) (a) (IntKind.i64.wrap ((↑(Go.Proofs.YtdcooaopkbicfaaGreat.R.bitLen (val 4294967296 (unHalves (halvesF a)))) : Int) - (↑(Go.Proofs.YtdcooaopkbicfaaGreat.R.bitLen (val 4294967296 (unHalves (halvesF b)))) : Int))))
 none)
 none)
 none))
 none)
 none)
def G83 (k : Nat) (a : List Nat) (b : List Nat) : Option (F) := T83 some (L83_7 k) a b
theorem t83_7 : ∀ (k : Nat) (b : List Nat) (m : Nat) (g : Nat → F) (e : List Nat) (i : Int) (r : F), L83_7 k b m g e i = some r → Ends Tryz.prog Tryz.f83.results.toList (at_ Tryz.f83 7) (S83_7 b m g e i) (r)
  | 0, _, _, _, _, _, _, h => nomatch h
  | k + 1, b, m, g, e, i, r, h => by
    refine Ends.of_cut tyOK envS3_ok (T := [(7, [1, 7, 8, 9], 1000)]) (n := 200) ?_
    have e : runCut Tryz.prog (tiOf Tryz.prog) envS3 [(7, [1, 7, 8, 9], 1000)] 0 Tryz.f83.results.toList some 200 (at_ Tryz.f83 7) (S83_7 b m g e i) = T83_7 (fun r => some (.ret (r))) (fun b m g e i => some (.cut (at_ Tryz.f83 7) (S83_7 b m g e i))) b m g e i := by kernel_rfl
    rw [e]
    exact (good_sel h (fun _ h => (good_sel h (fun _ h => (good_sel h (fun _ h => (good_sel h (fun _ h => (good_sel h (fun _ h => (good_sel h (fun _ h => (good_sel h (fun _ h => (good_sel h (fun _ h => (good_sel h (fun _ h => (good_sel h (fun _ h => (good_sel h (fun _ h => (good_sel h (fun _ h => (good_sel h (fun _ h => (good_sel h (fun _ h => (good_sel h (fun _ h => (good_sel h (fun _ h => (good_sel h (fun _ h => (good_sel h (fun _ h => (good_sel h (fun _ h => (good_sel h (fun _ h => (good_sel h (fun _ h => good_cut (t83_7 k _ _ _ _ _ r h)) (fun _ h => nomatch h))) (fun _ h => nomatch h))) (fun _ h => nomatch h))) (fun _ h => nomatch h))) (fun _ h => nomatch h))) (fun _ h => nomatch h))) (fun _ h => nomatch h))) (fun _ h => nomatch h))) (fun _ h => nomatch h))) (fun _ h => nomatch h))) (fun _ h => nomatch h))) (fun _ h => nomatch h))) (fun _ h => nomatch h))) (fun _ h => nomatch h))) (fun _ h => nomatch h))) (fun _ h => nomatch h))) (fun _ h => nomatch h))) (fun _ h => good_cut (t83_7 k _ _ _ _ _ r h)))) (fun _ h => nomatch h))) (fun _ h => nomatch h))) (fun _ h => (good_sel h (fun _ h => (good_sel h (fun _ h => good_ret (by cases h; rfl)) (fun _ h => nomatch h))) (fun _ h => nomatch h))))
theorem t83 (k : Nat) (a : List Nat) (b : List Nat) (r : F) (h : G83 k a b = some r) : Ends Tryz.prog Tryz.f83.results.toList [.code (bodyOf Tryz.f83)] (start Tryz.f83.ntmps ([halvesF a, halvesF b].map .f)) (r) := by
  refine Ends.of_run tyOK envS3_ok (T := [(7, [1, 7, 8, 9], 1000)]) (n := 200) ?_
  have e : run Tryz.prog (tiOf Tryz.prog) envS3 [(7, [1, 7, 8, 9], 1000)] 0 Tryz.f83.results.toList some 200 [.code (bodyOf Tryz.f83)] (start Tryz.f83.ntmps ([halvesF a, halvesF b].map .f)) = T83 (fun r => some (.ret (r))) (fun b m g e i => some (.cut (at_ Tryz.f83 7) (S83_7 b m g e i))) a b := by kernel_rfl
  rw [e]
  exact (good_sel h (fun _ h => (good_sel h (fun _ h => (good_sel h (fun _ h => good_ret (by cases h; rfl)) (fun _ h => (good_sel h (fun _ h => (good_sel h (fun _ h => (good_sel h (fun _ h => good_cut (t83_7 k _ _ _ _ _ r h)) (fun _ h => nomatch h))) (fun _ h => nomatch h))) (fun _ h => nomatch h))))) (fun _ h => nomatch h))) (fun _ h => nomatch h))
theorem or32 {a b : Nat} (ha : a < 4294967296) (hb : b < 4294967296) (h : a ||| b < 4294967296) : bitsOp .or .u32 (a : Int) (b : Int) = ((a ||| b : Nat) : Int) := by
  have e : ∀ n : Nat, BitVec.ofInt 32 (n : Int) = BitVec.ofNat 32 n := fun n => by
    apply BitVec.eq_of_toNat_eq
    rw [BitVec.toNat_ofInt, BitVec.toNat_ofNat]
    omega
  rw [show bitsOp .or .u32 (a : Int) (b : Int) = IntKind.u32.wrap ((BitVec.ofInt 32 (a : Int) ||| BitVec.ofInt 32 (b : Int)).toNat : Int) from rfl, e, e, BitVec.toNat_or, BitVec.toNat_ofNat, BitVec.toNat_ofNat, Nat.mod_eq_of_lt (show a < 2 ^ 32 from ha), Nat.mod_eq_of_lt (show b < 2 ^ 32 from hb), wrap32]
  omega
theorem bound_upC {x n m : Nat} (h : x < 4294967296 ^ n) (hn : n ≤ m) : x < 4294967296 ^ m := Nat.lt_of_lt_of_le h (Nat.pow_le_pow_right (by omega) hn)
theorem div3_loop {a b N : Nat} (hb : 0 < b) (ha : a < 4294967296 ^ 700) (hbN : b * 2 ^ N < 4294967296 ^ 700) (hN : N ≤ 30000) (hlb : (digs 4294967296 b).length ≤ 700) :
    ∀ (n k rest : Nat) (o : List Nat) (g : Nat → F), n ≤ N + 1 → n < k → DivInv a b n rest (val 4294967296 o) → o.length = N / 32 + 1 → okD 4294967296 o → (∀ j, j < N / 32 + 1 → g j = u32F (o.getD j 0)) →
      L83_7 k (digs 4294967296 b) (N / 32 + 1) g (digs 4294967296 rest) ((n : Int) - 1) = some (.tup [halvesF (digs 4294967296 (a / b)), halvesF (digs 4294967296 (a % b))])
  | _, 0, _, _, _, _, hk, _, _, _, _ => by omega
  | 0, k + 1, rest, o, g, hn, hk, hI, ho, oo, hg => by
    obtain ⟨q1, q2⟩ := hI.done
    have sg : ∀ n : Nat, (sgn false n).natAbs = n := sgn_natAbs false
    rw [L83_7]
    unfold T83_7
    rw [decide_eq_false (show ¬ ((0 : Nat) : Int) - 1 ≥ 0 by omega), bsel_false, dec_rfl, bsel_true, show offF 0 g = g from rfl, isHalves_read ho hg oo, unHalves_read ho hg, show lenOk 2000 (F.sl (N / 32 + 1) g) = true by simp only [lenOk, Nat.ble_eq]; omega, sg, q1, q2]
    rfl
  | n + 1, k + 1, rest, o, g, hn, hk, hI, ho, oo, hg => by
    have hra : rest ≤ a := by have := hI.eq; omega
    have hrest : rest < 4294967296 ^ 700 := by omega
    have hs : b * 2 ^ n < 4294967296 ^ 700 := Nat.lt_of_le_of_lt (Nat.mul_le_mul_left _ (Nat.pow_le_pow_right (by omega) (by omega))) hbN
    have t1 := isTrimH_digs (bound_upC hrest (show 700 ≤ 800 by omega))
    have t2 := isTrimH_digs (bound_upC hs (show 700 ≤ 800 by omega))
    have l1 : lenOk 1900 (halvesF (digs 4294967296 rest)) = true := lenOkH_digs hrest (by omega)
    have l2 : lenOk 1900 (halvesF (digs 4294967296 (b * 2 ^ n))) = true := lenOkH_digs hs (by omega)
    have lr := digsH_len hrest
    have hl : isLeft (digs 4294967296 b).length (n : Int) = true := by
      simp only [isLeft, Bool.and_eq_true, decide_eq_true_eq, Nat.ble_eq, Int.toNat_natCast]
      omega
    have d1 := isHalves_halvesF (okD_subL (B := 4294967296) (by omega) (digs 4294967296 rest) (digs 4294967296 (b * 2 ^ n)) 0)
    have d2 : lenOk 2000 (halvesF (subL 4294967296 (digs 4294967296 rest) (digs 4294967296 (b * 2 ^ n)) 0)) = true := by rw [lenOk_halvesF, Nat.ble_eq, len_subL]; omega
    have sg : ∀ n : Nat, (sgn false n).natAbs = n := sgn_natAbs false
    have ei : ((n + 1 : Nat) : Int) - 1 = (n : Int) := by omega
    have ew : IntKind.i64.wrap ((n : Int) - 1) = (n : Int) - 1 := by rw [wrapI (by omega) (by omega)]
    have e1 : IntKind.i64.wrap ((n : Int).tdiv 32) = ((n / 32 : Nat) : Int) := by
      rw [show (n : Int).tdiv 32 = ((n / 32 : Nat) : Int) from rfl, wrapI (by omega) (by omega)]
    have e2 : IntKind.u64.wrap ((n : Int).tmod 32) = ((n % 32 : Nat) : Int) := by
      rw [show (n : Int).tmod 32 = ((n % 32 : Nat) : Int) from rfl, wrapu_lt (by omega)]
    have hm32 : n % 32 < 32 := Nat.mod_lt _ (by omega)
    have e3 : min ((n % 32 : Nat) : Int).toNat IntKind.u32.bits = n % 32 := by rw [Int.toNat_natCast]; exact Nat.min_eq_left (by show n % 32 ≤ 32; omega)
    have p32 : 2 ^ (n % 32) ≤ 2 ^ 31 := Nat.pow_le_pow_right (by omega) (by omega)
    have e4 : IntKind.u32.wrap (1 * 2 ^ (n % 32)) = ((2 ^ (n % 32) : Nat) : Int) := by
      have p33 : 2 ^ (n % 32) < 4294967296 := Nat.lt_of_le_of_lt p32 (by decide)
      rw [Int.one_mul, pow_cast, wrap32, show (4294967296 : Int) = ((4294967296 : Nat) : Int) from rfl, ← Int.natCast_emod, Nat.mod_eq_of_lt p33]
    clear hrest hs
    rw [L83_7]
    unfold T83_7
    rw [ei]
    simp only [resSub3, unHalves_digs, unHalves_halvesF, val_digsH, Int.toNat_natCast (n := n), isHalves_digs, t1, t2, l1, l2, hl, d1, d2, Bool.and_self, bsel_true, decide_eq_true (show (n : Int) ≥ 0 by omega)]
    by_cases hc : b * 2 ^ n ≤ rest
    · have hI' := hI.take hc
      obtain ⟨b1, b2⟩ := bit_set oo (show n / 32 < o.length by omega) hI.dvd
      have hq := getD_lt oo (show n / 32 < o.length by omega)
      have hlong : (digs 4294967296 (b * 2 ^ n)).length ≤ (digs 4294967296 rest).length := by
        rcases Nat.lt_or_ge (digs 4294967296 rest).length (digs 4294967296 (b * 2 ^ n)).length with h1 | h1
        · have := val_longer (B := 4294967296) (by omega) (okD_digs (by omega) rest) (trimD_digs (by omega) (b * 2 ^ n)) h1
          rw [val_digsH, val_digsH] at this
          omega
        · exact h1
      have hv : val 4294967296 (subL 4294967296 (digs 4294967296 rest) (digs 4294967296 (b * 2 ^ n)) 0) = rest - b * 2 ^ n := by
        have := val_subL (B := 4294967296) (by omega) (digs 4294967296 rest) (digs 4294967296 (b * 2 ^ n)) 0 (okD_digs (by omega) _) (okD_digs (by omega) _) (by omega) hlong (by rw [val_digsH, val_digsH]; omega)
        rw [val_digsH, val_digsH] at this
        omega
      rw [← b2] at hI'
      have ih := div3_loop (a := a) hb (by assumption) (by assumption) hN hlb n k (rest - b * 2 ^ n) (o.set (n / 32) (o.getD (n / 32) 0 ||| 2 ^ (n % 32))) (fun j => if j = 0 + n / 32 then F.int .u32 ((o.getD (n / 32) 0 ||| 2 ^ (n % 32) : Nat) : Int) else g j) (by omega) (by omega) hI' (by rw [List.length_set]; exact ho) (okD_set oo b1) (halves_set ho (by omega) hg)
      rw [decide_eq_true (show ((rest : Int) - ((b * 2 ^ n : Nat) : Int)).sign ≥ 0 from Int.sign_nonneg_iff.2 (by omega)), bsel_true, hv, sg, e1, e2, e3, e4, ew, Int.toNat_natCast, Nat.zero_add, hg (n / 32) (by omega), cell_ofH, okV_u32, intOf_u32, or32 hq (by omega) b1, isAgg_or, decide_eq_true (u32_cells _)]
      rw [decide_eq_true (show (0 : Int) ≤ ((n / 32 : Nat) : Int) by omega), decide_eq_true (show ((n / 32 : Nat) : Int) < ((N / 32 + 1 : Nat) : Int) by omega), decide_eq_true (show n / 32 < N / 32 + 1 by omega), decide_eq_true (show (0 : Int) ≤ ((n % 32 : Nat) : Int) by omega)]
      simp only [bsel_true, decide_true]
      rw [Nat.zero_add] at ih
      exact ih
    · have hI' := hI.skip (by omega)
      rw [decide_eq_false (show ¬ ((rest : Int) - ((b * 2 ^ n : Nat) : Int)).sign ≥ 0 from fun h => by have := Int.sign_nonneg_iff.1 h; omega), bsel_false, ew]
      exact div3_loop (a := a) hb (by assumption) (by assumption) hN hlb n k rest o g (by omega) (by omega) hI' ho oo hg
theorem bitLen_low {n : Nat} (h : 0 < n) : 2 ^ (bitLen n - 1) ≤ n ∧ 0 < bitLen n := by
  have h0 : 0 < bitLen n := by
    rcases Nat.eq_zero_or_pos (bitLen n) with h1 | h1
    · have := (bitLen_le (n := n) (j := 0)).1 (by omega)
      simp at this
      omega
    · exact h1
  refine ⟨?_, h0⟩
  rcases Nat.lt_or_ge n (2 ^ (bitLen n - 1)) with h1 | h1
  · have := bitLen_le.2 h1
    omega
  · exact h1
theorem div3_law {a b : Nat} (hb : 0 < b) (ha : a < 4294967296 ^ 699) (hbb : b < 4294967296 ^ 699) : ∃ r1 r2, G83 40000 (digs 4294967296 a) (digs 4294967296 b) = some (.tup [r1, r2]) ∧ FLe r1 (halvesF (digs 4294967296 (a / b))) ∧ FLe r2 (halvesF (digs 4294967296 (a % b))) := by
  have lb := digsH_len hbb
  have t1 := isTrimH_digs (bound_upC ha (show 699 ≤ 800 by omega))
  have t2 := isTrimH_digs (bound_upC hbb (show 699 ≤ 800 by omega))
  have ba : bitLen a ≤ 32 * 699 := bitLen_le.2 (by rw [← CC_pow]; exact ha)
  have bbl : bitLen b ≤ 32 * 699 := bitLen_le.2 (by rw [← CC_pow]; exact hbb)
  have ha7 := bound_upC ha (show 699 ≤ 700 by omega)
  have hb7 : 4294967296 ^ 699 * 2 ^ 32 ≤ 4294967296 ^ 700 := by rw [show 4294967296 ^ 700 = 4294967296 ^ 699 * 4294967296 from Nat.pow_succ ..]; exact Nat.mul_le_mul_left _ (by decide)
  obtain ⟨g1, g2⟩ := bitLen_low hb
  have ua : a < 2 ^ bitLen a := bitLen_le.1 (Nat.le_refl _)
  have ub : b < 2 ^ bitLen b := bitLen_le.1 (Nat.le_refl _)
  have p22 : (2 : Nat) ^ (32 * 699) < 4294967296 ^ 700 := by rw [← CC_pow]; exact Nat.pow_lt_pow_right (by omega) (by omega)
  unfold G83 T83
  simp only [t1, t2, unHalves_digs, val_digsH, bsel_true]
  clear t1 t2 ha hbb hb7
  have ew : IntKind.i64.wrap ((bitLen a : Int) - bitLen b) = (bitLen a : Int) - bitLen b := wrapI (by omega) (by omega)
  rw [ew]
  by_cases hlt : bitLen a < bitLen b
  · rw [decide_eq_true (show (bitLen a : Int) - bitLen b < 0 by omega), bsel_true]
    have hab : a < b := Nat.lt_of_lt_of_le ua (Nat.le_trans (Nat.pow_le_pow_right (by omega) (by omega)) g1)
    refine ⟨_, _, rfl, ?_, ?_⟩
    · rw [Nat.div_eq_of_lt hab, digs_zero]
      exact FLe.sl fun j hj => by omega
    · rw [Nat.mod_eq_of_lt hab]; exact .refl _
  · obtain ⟨N, hN⟩ : ∃ N, bitLen a = bitLen b + N := ⟨bitLen a - bitLen b, by omega⟩
    have eN : (bitLen a : Int) - bitLen b = (N : Int) := by omega
    have e1 : IntKind.i64.wrap ((N : Int).tdiv 32) = ((N / 32 : Nat) : Int) := by
      rw [show (N : Int).tdiv 32 = ((N / 32 : Nat) : Int) from rfl, wrapI (by omega) (by omega)]
    have e2 : IntKind.i64.wrap (((N / 32 : Nat) : Int) + 1) = ((N / 32 + 1 : Nat) : Int) := by rw [wrapI (by omega) (by omega)]; omega
    rw [decide_eq_false (show ¬ (bitLen a : Int) - bitLen b < 0 by omega), bsel_false, eN, e1, e2, decide_eq_true (show (0 : Int) ≤ ((N / 32 + 1 : Nat) : Int) by omega), decide_eq_true (Int.le_refl _), decide_eq_true (limit_ok4 (show N / 32 + 1 ≤ 3000 by omega)), Int.toNat_natCast]
    simp only [bsel_true]
    have hstart : a < b * 2 ^ (N + 1) := by
      refine Nat.lt_of_lt_of_le ua ?_
      rw [show bitLen a = bitLen b - 1 + (N + 1) by omega, Nat.pow_add]
      exact Nat.mul_le_mul_right _ g1
    have hbN : b * 2 ^ N < 4294967296 ^ 700 := by
      refine Nat.lt_of_lt_of_le (Nat.mul_lt_mul_of_pos_right ub (Nat.two_pow_pos N)) ?_
      rw [← Nat.pow_add, ← hN]
      exact Nat.le_of_lt (Nat.lt_of_le_of_lt (Nat.pow_le_pow_right (by omega) ba) p22)
    have hv0 : val 4294967296 (List.replicate (N / 32 + 1) 0) = 0 := val_zeros _ _
    have h := div3_loop hb ha7 hbN (by omega) (by omega) (N + 1) 40000 a (List.replicate (N / 32 + 1) 0) (fun _ => F.int .u32 0) (Nat.le_refl _) (by omega) (by rw [hv0]; exact DivInv.start hstart) (by simp) (fun w hw => by have := (List.mem_replicate.1 hw).2; omega) (fun j hj => by simp only [List.getD, List.getElem?_replicate, if_pos hj]; rfl)
    rw [show ((N + 1 : Nat) : Int) - 1 = (N : Int) by omega] at h
    exact ⟨_, _, h, .refl _, .refl _⟩
def isDivA (b : Nat) : Bool := !(Nat.beq b 0)
theorem isDivA_iff {b : Nat} : isDivA b = true ↔ 0 < b := by
  unfold isDivA
  cases hb : Nat.beq b 0 with
  | true => have := Nat.eq_of_beq_eq_true hb; simp; omega
  | false => simp; exact Nat.pos_of_ne_zero fun e => by subst e; cases hb
def preDivA : List F → Bool | [x, y] => isTrimH 699 x && isTrimH 699 y && isDivA (val 4294967296 (unHalves y)) | _ => false
def resDivA : List F → F | [x, y] => .tup [halvesF (digs 4294967296 (val 4294967296 (unHalves x) / val 4294967296 (unHalves y))), halvesF (digs 4294967296 (val 4294967296 (unHalves x) % val 4294967296 (unHalves y)))] | _ => .dflt
theorem okDivA : PureOK Tryz.prog 83 preDivA resDivA :=
  fn_pure_at (c := bodyOf Tryz.f83) Tryz.func83 (by kernel_rfl) (by kernel_rfl) fun xs hp => match xs, hp with
  | [x, y], hp => by
    simp only [preDivA, Bool.and_eq_true] at hp
    obtain ⟨⟨hx, hy⟩, hd⟩ := hp
    obtain ⟨x1, x2, x3⟩ := isTrimH_iff hx
    obtain ⟨y1, y2, y3⟩ := isTrimH_iff hy
    obtain ⟨r1, r2, e, f1, f2⟩ := div3_law (isDivA_iff.1 hd) x2 y2
    rw [x3, y3] at e
    exact ⟨[halvesF (unHalves x), halvesF (unHalves y)], _, ⟨(halves_eqv x1).1, (halves_eqv y1).1, trivial⟩, t83 40000 _ _ _ e, FLe.tup ⟨f1, f2, trivial⟩⟩
def envS4 : Env := ((envS3.add 59 (.pure (preL2 800) resSubZ)).add 35 (.pure (preL2 900) resMulZ)).add 83 (.pure preDivA resDivA)
theorem envS4_ok : EnvOK Tryz.prog envS4 := (Env.add_ok (Env.add_ok (Env.add_ok envS3_ok okSubZ.sp) okMulZ.sp) okDivA.sp)
end
end Go.Proofs.YtdcooaopkbicfaaGreat.R
namespace Go.Proofs.YtdcooaopkbicfaaGreat.R
open Go
noncomputable section
/-! ### function 73 -/
def T73 {ρ : Type} (ret : (Int) → Option ρ) (x : Int) (y : Int) : Option ρ :=
 (bsel (isNum 400 (numF x) && isNum 400 (numF y))
 (bsel (isNum 400 (resLess2 [numF x, numF y]))
 (ret ((unNum (resLess2 [numF x, numF y])).sign))
 none)
 none)
def G73 (x : Int) (y : Int) : Option (Int) := T73 some x y
theorem t73 (x : Int) (y : Int) (r : Int) (h : G73 x y = some r) : Ends Tryz.prog Tryz.f73.results.toList [.code (bodyOf Tryz.f73)] (start Tryz.f73.ntmps ([numF x, numF y].map .f)) (F.int .i64 r) := by
  refine Ends.of_run tyOK envN17a_ok (T := []) (n := 200) ?_
  have e : run Tryz.prog (tiOf Tryz.prog) envN17a [] 0 Tryz.f73.results.toList some 200 [.code (bodyOf Tryz.f73)] (start Tryz.f73.ntmps ([numF x, numF y].map .f)) = T73 (fun r => some (.ret (F.int .i64 r))) x y := by kernel_rfl
  rw [e]
  exact (good_sel h (fun _ h => (good_sel h (fun _ h => good_ret (by cases h; rfl)) (fun _ h => nomatch h))) (fun _ h => nomatch h))
theorem sub_bound {x y : Int} {n : Nat} (hx : x.natAbs < 18446744073709551616 ^ n) (hy : y.natAbs < 18446744073709551616 ^ n) : (x - y).natAbs < 18446744073709551616 ^ (n + 1) := by
  rw [Nat.pow_succ]
  generalize 18446744073709551616 ^ n = t at *
  omega
theorem cmp_law {x y : Int} (hx : x.natAbs < 18446744073709551616 ^ 399) (hy : y.natAbs < 18446744073709551616 ^ 399) : G73 x y = some (x - y).sign := by
  have p : 18446744073709551616 ^ 399 ≤ 18446744073709551616 ^ 400 := Nat.pow_le_pow_right (by omega) (by omega)
  have hs : (x - y).natAbs < 18446744073709551616 ^ 400 := sub_bound hx hy
  unfold G73 T73
  simp only [isNum_numF (Nat.lt_of_lt_of_le hx p), isNum_numF (Nat.lt_of_lt_of_le hy p), isNum_numF hs, unNum_numF, resLess2, Bool.and_self, bsel_true]
def resCmpN : List F → F | [x, y] => .int .i64 (unNum x - unNum y).sign | _ => .dflt
theorem okCmpN : PureOK Tryz.prog 73 (preN2 399) resCmpN :=
  fn_pure_at (c := bodyOf Tryz.f73) Tryz.func73 (by kernel_rfl) (by kernel_rfl) fun xs hp => match xs, hp with
  | [x, y], hp => by
    obtain ⟨hx, hy⟩ := preN2_iff hp
    exact ⟨[numF (unNum x), numF (unNum y)], _, ⟨(num_eqv hx).1, (num_eqv hy).1, trivial⟩, t73 _ _ _ (cmp_law (natAbs_of_isNum hx) (natAbs_of_isNum hy)), .refl _⟩
def envN17c : Env := envN17a.add 73 (.pure (preN2 399) resCmpN)
theorem envN17c_ok : EnvOK Tryz.prog envN17c := (Env.add_ok envN17a_ok okCmpN.sp)
end
end Go.Proofs.YtdcooaopkbicfaaGreat.R
namespace Go.Proofs.YtdcooaopkbicfaaGreat.R
open Go
noncomputable section
theorem mul_bound {x y : Int} {n m : Nat} (hx : x.natAbs < 18446744073709551616 ^ n) (hy : y.natAbs < 18446744073709551616 ^ m) : (x * y).natAbs < 18446744073709551616 ^ (n + m) := by
  rw [Int.natAbs_mul, Nat.pow_add]
  exact Nat.mul_lt_mul_of_lt_of_le hx (Nat.le_of_lt hy) (Nat.pow_pos (by omega))
theorem bound_up {x : Int} {n m : Nat} (h : x.natAbs < 18446744073709551616 ^ n) (hn : n ≤ m) : x.natAbs < 18446744073709551616 ^ m := Nat.lt_of_lt_of_le h (Nat.pow_le_pow_right (by omega) hn)
/-! ### function 45 -/
def T45 {ρ : Type} (ret : (Int) → Option ρ) (u : Int) (d : Int) (v : Int) (e : Int) : Option ρ :=
 (bsel (isNum 400 (numF u) && isNum 400 (numF e))
 (bsel (isNum 400 (numF v) && isNum 400 (numF d))
 (bsel (isNum 399 (resBy [numF u, numF e]) && isNum 399 (resBy [numF v, numF d]))
 (ret ((unNum (resBy [numF u, numF e]) - unNum (resBy [numF v, numF d])).sign))
 none)
 none)
 none)
def G45 (u : Int) (d : Int) (v : Int) (e : Int) : Option (Int) := T45 some u d v e
theorem t45 (u : Int) (d : Int) (v : Int) (e : Int) (r : Int) (h : G45 u d v e = some r) : Ends Tryz.prog Tryz.f45.results.toList [.code (bodyOf Tryz.f45)] (start Tryz.f45.ntmps ([ratF u d, ratF v e].map .f)) (F.int .i64 r) := by
  refine Ends.of_run tyOK envN17c_ok (T := []) (n := 200) ?_
  have e : run Tryz.prog (tiOf Tryz.prog) envN17c [] 0 Tryz.f45.results.toList some 200 [.code (bodyOf Tryz.f45)] (start Tryz.f45.ntmps ([ratF u d, ratF v e].map .f)) = T45 (fun r => some (.ret (F.int .i64 r))) u d v e := by kernel_rfl
  rw [e]
  exact (good_sel h (fun _ h => (good_sel h (fun _ h => (good_sel h (fun _ h => good_ret (by cases h; rfl)) (fun _ h => nomatch h))) (fun _ h => nomatch h))) (fun _ h => nomatch h))
def preRat2 : List F → Bool | [x, y] => isRat 180 x && isRat 180 y | _ => false
def resRCmp : List F → F | [x, y] => .int .i64 (unUp x * unDown y - unUp y * unDown x).sign | _ => .dflt
theorem rcmp_law {u d v e : Int} (hu : u.natAbs < 18446744073709551616 ^ 180) (hd : d.natAbs < 18446744073709551616 ^ 180) (hv : v.natAbs < 18446744073709551616 ^ 180) (he : e.natAbs < 18446744073709551616 ^ 180) : G45 u d v e = some (u * e - v * d).sign := by
  unfold G45 T45
  have up : ∀ {x : Int}, x.natAbs < 18446744073709551616 ^ 180 → isNum 400 (numF x) = true := fun h => isNum_numF (bound_up h (by omega))
  have h1 : isNum 399 (numF (u * e)) = true := isNum_numF (bound_up (mul_bound hu he) (by omega))
  have h2 : isNum 399 (numF (v * d)) = true := isNum_numF (bound_up (mul_bound hv hd) (by omega))
  simp only [up hu, up hd, up hv, up he, resBy, unNum_numF, h1, h2, Bool.and_self, bsel_true]
theorem okRCmp : PureOK Tryz.prog 45 preRat2 resRCmp :=
  fn_pure_at (c := bodyOf Tryz.f45) Tryz.func45 (by kernel_rfl) (by kernel_rfl) fun xs hp => match xs, hp with
  | [x, y], hp => by
    simp only [preRat2, Bool.and_eq_true] at hp
    obtain ⟨h1, h2⟩ := rat_bound hp.1
    obtain ⟨h3, h4⟩ := rat_bound hp.2
    exact ⟨[ratF (unUp x) (unDown x), ratF (unUp y) (unDown y)], _, ⟨(rat_eqv hp.1).1, (rat_eqv hp.2).1, trivial⟩, t45 _ _ _ _ _ (rcmp_law h1 h2 h3 h4), .refl _⟩
/-! ### function 47 -/
def T47 {ρ : Type} (ret : (F) → Option ρ) (u : Int) (d : Int) : Option ρ :=
 (bsel (isNums 400 (F.sl 2 (lget [numF u, numF d])) && gcdOk (unNums (F.sl 2 (lget [numF u, numF d]))))
 (bsel (isNum 399 (numF u) && isNum 399 (numF (↑(gcdFrom 0 (unNums (F.sl 2 (lget [numF u, numF d])))) : Int)) && overOk (unNum (numF u)) (unNum (numF (↑(gcdFrom 0 (unNums (F.sl 2 (lget [numF u, numF d])))) : Int))))
 (bsel (isNum 399 (numF d) && isNum 399 (numF (↑(gcdFrom 0 (unNums (F.sl 2 (lget [numF u, numF d])))) : Int)) && overOk (unNum (numF d)) (unNum (numF (↑(gcdFrom 0 (unNums (F.sl 2 (lget [numF u, numF d])))) : Int))))
 (bsel (decide (unNum (numF d) / unNum (numF (↑(gcdFrom 0 (unNums (F.sl 2 (lget [numF u, numF d])))) : Int)) < 0))
 (bsel (isNum 400 (numF (unNum (numF u) / unNum (numF (↑(gcdFrom 0 (unNums (F.sl 2 (lget [numF u, numF d])))) : Int)))))
 (bsel (isNum 400 (numF (unNum (numF d) / unNum (numF (↑(gcdFrom 0 (unNums (F.sl 2 (lget [numF u, numF d])))) : Int)))))
 (ret (ratF (-unNum (numF (unNum (numF u) / unNum (numF (↑(gcdFrom 0 (unNums (F.sl 2 (lget [numF u, numF d])))) : Int))))) (-unNum (numF (unNum (numF d) / unNum (numF (↑(gcdFrom 0 (unNums (F.sl 2 (lget [numF u, numF d])))) : Int)))))))
 none)
 none)
 (ret (ratF (unNum (numF u) / unNum (numF (↑(gcdFrom 0 (unNums (F.sl 2 (lget [numF u, numF d])))) : Int))) (unNum (numF d) / unNum (numF (↑(gcdFrom 0 (unNums (F.sl 2 (lget [numF u, numF d])))) : Int))))))
 none)
 none)
 none)
def G47 (u : Int) (d : Int) : Option (F) := T47 some u d
theorem t47 (u : Int) (d : Int) (r : F) (h : G47 u d = some r) : Ends Tryz.prog Tryz.f47.results.toList [.code (bodyOf Tryz.f47)] (start Tryz.f47.ntmps ([ratF u d].map .f)) (r) := by
  refine Ends.of_run tyOK envN17c_ok (T := []) (n := 200) ?_
  have e : run Tryz.prog (tiOf Tryz.prog) envN17c [] 0 Tryz.f47.results.toList some 200 [.code (bodyOf Tryz.f47)] (start Tryz.f47.ntmps ([ratF u d].map .f)) = T47 (fun r => some (.ret (r))) u d := by kernel_rfl
  rw [e]
  exact (good_sel h (fun _ h => (good_sel h (fun _ h => (good_sel h (fun _ h => (good_sel h (fun _ h => (good_sel h (fun _ h => (good_sel h (fun _ h => good_ret (by cases h; rfl)) (fun _ h => nomatch h))) (fun _ h => nomatch h))) (fun _ h => good_ret (by cases h; rfl)))) (fun _ h => nomatch h))) (fun _ h => nomatch h))) (fun _ h => nomatch h))
def isLow (u d : Int) : Bool := decide (0 < d) && Nat.ble (d.natAbs + 1) 18446744073709551616
theorem isLow_iff {u d : Int} : isLow u d = true ↔ 0 < d ∧ d < 18446744073709551616 := by
  simp only [isLow, Bool.and_eq_true, decide_eq_true_eq, Nat.ble_eq]
  omega
def gcdI (u d : Int) : Int := (Nat.gcd u.natAbs d.natAbs : Nat)
theorem gcdFrom_two (u d : Int) : (gcdFrom 0 [u, d] : Nat) = Nat.gcd u.natAbs d.natAbs := by
  show Nat.gcd (Nat.gcd 0 u.natAbs) d.natAbs = _
  rw [Nat.gcd_zero_left]
theorem gcdI_pos {u d : Int} (h : 0 < d) : 0 < gcdI u d ∧ gcdI u d ≤ d := by
  have h1 := Nat.gcd_pos_of_pos_right u.natAbs (show 0 < d.natAbs by omega)
  have h2 := Nat.gcd_le_right u.natAbs (show 0 < d.natAbs by omega)
  unfold gcdI
  omega
theorem lowest_law {u d : Int} (hu : u.natAbs < 18446744073709551616 ^ 180) (hd : 0 < d) (hd2 : d < 18446744073709551616) : G47 u d = some (ratF (u / gcdI u d) (d / gcdI u d)) := by
  have hdB : d.natAbs < 18446744073709551616 ^ 1 := by rw [Nat.pow_one]; omega
  obtain ⟨g1, g2⟩ := gcdI_pos (u := u) hd
  have hgB : (gcdI u d).natAbs < 18446744073709551616 ^ 1 := by rw [Nat.pow_one]; omega
  have e0 : isNums 400 (F.sl 2 (lget [numF u, numF d])) = true := by
    simp only [isNums, isSl, List.all_eq_true, List.mem_range]
    intro i hi
    match i, hi with
    | 0, _ => exact isNum_numF (bound_up hu (by omega))
    | 1, _ => exact isNum_numF (bound_up hdB (by omega))
  have e1 : unNums (F.sl 2 (lget [numF u, numF d])) = [u, d] := by
    show [unNum (numF u), unNum (numF d)] = _
    rw [unNum_numF, unNum_numF]
  have e2 : gcdOk [u, d] = true := gcdOk_iff.2 ⟨by simp, fun z hz => by simp at hz; subst hz; rwa [Nat.pow_one] at hdB⟩
  have e3 : ((gcdFrom 0 [u, d] : Nat) : Int) = gcdI u d := by rw [gcdFrom_two]; rfl
  have o1 : overOk u (gcdI u d) = true := divOk_iff.2 ⟨by omega, .inl (by rwa [Nat.pow_one] at hgB)⟩
  have o2 : overOk d (gcdI u d) = true := divOk_iff.2 ⟨by omega, .inl (by rwa [Nat.pow_one] at hgB)⟩
  have hnn : ¬ d / gcdI u d < 0 := by
    have := Int.ediv_nonneg (show 0 ≤ d by omega) (show 0 ≤ gcdI u d by omega)
    omega
  unfold G47 T47
  simp only [e0, e1, e2, e3, unNum_numF, o1, o2, isNum_numF (bound_up hu (show 180 ≤ 399 by omega)), isNum_numF (bound_up hdB (show 1 ≤ 399 by omega)), isNum_numF (bound_up hgB (show 1 ≤ 399 by omega)), Bool.and_self, bsel_true, decide_eq_false hnn, bsel_false]
  all_goals (unfold ratF; rw [decide_eq_false hnn])
def preLow : List F → Bool | [x] => isRat 180 x && isLow (unUp x) (unDown x) | _ => false
def resLow : List F → F | [x] => ratF (unUp x / gcdI (unUp x) (unDown x)) (unDown x / gcdI (unUp x) (unDown x)) | _ => .dflt
theorem okLow : PureOK Tryz.prog 47 preLow resLow :=
  fn_pure_at (c := bodyOf Tryz.f47) Tryz.func47 (by kernel_rfl) (by kernel_rfl) fun xs hp => match xs, hp with
  | [x], hp => by
    simp only [preLow, Bool.and_eq_true] at hp
    obtain ⟨h1, h2⟩ := isLow_iff.1 hp.2
    exact ⟨[ratF (unUp x) (unDown x)], _, ⟨(rat_eqv hp.1).1, trivial⟩, t47 _ _ _ (lowest_law (rat_bound hp.1).1 h1 h2), .refl _⟩
/-! ### function 44 -/
def T44 {ρ : Type} (ret : (F) → Option ρ) (x0 : Int) (y0 : Int) (x1 : Int) (y1 : Int) (px : Int) (py : Int) : Option ρ :=
 (bsel (decide (IntKind.i64.wrap (IntKind.i64.wrap (IntKind.i64.wrap (px - x0) * IntKind.i64.wrap (x1 - x0)) + IntKind.i64.wrap (IntKind.i64.wrap (py - y0) * IntKind.i64.wrap (y1 - y0))) > 0) == true)
 (bsel (decide (IntKind.i64.wrap (IntKind.i64.wrap (IntKind.i64.wrap (px - x0) * IntKind.i64.wrap (x1 - x0)) + IntKind.i64.wrap (IntKind.i64.wrap (py - y0) * IntKind.i64.wrap (y1 - y0))) < IntKind.i64.wrap (IntKind.i64.wrap (IntKind.i64.wrap (x1 - x0) * IntKind.i64.wrap (x1 - x0)) + IntKind.i64.wrap (IntKind.i64.wrap (y1 - y0) * IntKind.i64.wrap (y1 - y0)))))
 (bsel (isI64 (crossW x0 y0 x1 y1 px py))
 (bsel (isNum 400 (numF (crossW x0 y0 x1 y1 px py)) && isNum 400 (numF (crossW x0 y0 x1 y1 px py)))
 (bsel (isI64 (IntKind.i64.wrap (IntKind.i64.wrap (IntKind.i64.wrap (x1 - x0) * IntKind.i64.wrap (x1 - x0)) + IntKind.i64.wrap (IntKind.i64.wrap (y1 - y0) * IntKind.i64.wrap (y1 - y0)))))
 (ret (ratF (unNum (numF (crossW x0 y0 x1 y1 px py)) * unNum (numF (crossW x0 y0 x1 y1 px py))) (IntKind.i64.wrap (IntKind.i64.wrap (IntKind.i64.wrap (x1 - x0) * IntKind.i64.wrap (x1 - x0)) + IntKind.i64.wrap (IntKind.i64.wrap (y1 - y0) * IntKind.i64.wrap (y1 - y0))))))
 none)
 none)
 none)
 (bsel (decide (IntKind.i64.wrap (IntKind.i64.wrap (IntKind.i64.wrap (px - x0) * IntKind.i64.wrap (x1 - x0)) + IntKind.i64.wrap (IntKind.i64.wrap (py - y0) * IntKind.i64.wrap (y1 - y0))) ≥ IntKind.i64.wrap (IntKind.i64.wrap (IntKind.i64.wrap (x1 - x0) * IntKind.i64.wrap (x1 - x0)) + IntKind.i64.wrap (IntKind.i64.wrap (y1 - y0) * IntKind.i64.wrap (y1 - y0)))))
 (bsel (isI64 (IntKind.i64.wrap (IntKind.i64.wrap (IntKind.i64.wrap (px - x1) * IntKind.i64.wrap (px - x1)) + IntKind.i64.wrap (IntKind.i64.wrap (py - y1) * IntKind.i64.wrap (py - y1)))))
 (ret (ratF (IntKind.i64.wrap (IntKind.i64.wrap (IntKind.i64.wrap (px - x1) * IntKind.i64.wrap (px - x1)) + IntKind.i64.wrap (IntKind.i64.wrap (py - y1) * IntKind.i64.wrap (py - y1)))) 1))
 none)
 (bsel (isI64 (IntKind.i64.wrap (IntKind.i64.wrap (IntKind.i64.wrap (px - x0) * IntKind.i64.wrap (px - x0)) + IntKind.i64.wrap (IntKind.i64.wrap (py - y0) * IntKind.i64.wrap (py - y0)))))
 (ret (ratF (IntKind.i64.wrap (IntKind.i64.wrap (IntKind.i64.wrap (px - x0) * IntKind.i64.wrap (px - x0)) + IntKind.i64.wrap (IntKind.i64.wrap (py - y0) * IntKind.i64.wrap (py - y0)))) 1))
 none)))
 (bsel (decide (IntKind.i64.wrap (IntKind.i64.wrap (IntKind.i64.wrap (px - x0) * IntKind.i64.wrap (x1 - x0)) + IntKind.i64.wrap (IntKind.i64.wrap (py - y0) * IntKind.i64.wrap (y1 - y0))) ≥ IntKind.i64.wrap (IntKind.i64.wrap (IntKind.i64.wrap (x1 - x0) * IntKind.i64.wrap (x1 - x0)) + IntKind.i64.wrap (IntKind.i64.wrap (y1 - y0) * IntKind.i64.wrap (y1 - y0)))))
 (bsel (isI64 (IntKind.i64.wrap (IntKind.i64.wrap (IntKind.i64.wrap (px - x1) * IntKind.i64.wrap (px - x1)) + IntKind.i64.wrap (IntKind.i64.wrap (py - y1) * IntKind.i64.wrap (py - y1)))))
 (ret (ratF (IntKind.i64.wrap (IntKind.i64.wrap (IntKind.i64.wrap (px - x1) * IntKind.i64.wrap (px - x1)) + IntKind.i64.wrap (IntKind.i64.wrap (py - y1) * IntKind.i64.wrap (py - y1)))) 1))
 none)
 (bsel (isI64 (IntKind.i64.wrap (IntKind.i64.wrap (IntKind.i64.wrap (px - x0) * IntKind.i64.wrap (px - x0)) + IntKind.i64.wrap (IntKind.i64.wrap (py - y0) * IntKind.i64.wrap (py - y0)))))
 (ret (ratF (IntKind.i64.wrap (IntKind.i64.wrap (IntKind.i64.wrap (px - x0) * IntKind.i64.wrap (px - x0)) + IntKind.i64.wrap (IntKind.i64.wrap (py - y0) * IntKind.i64.wrap (py - y0)))) 1))
 none)))
def G44 (x0 : Int) (y0 : Int) (x1 : Int) (y1 : Int) (px : Int) (py : Int) : Option (F) := T44 some x0 y0 x1 y1 px py
theorem t44 (x0 : Int) (y0 : Int) (x1 : Int) (y1 : Int) (px : Int) (py : Int) (r : F) (h : G44 x0 y0 x1 y1 px py = some r) : Ends Tryz.prog Tryz.f44.results.toList [.code (bodyOf Tryz.f44)] (start Tryz.f44.ntmps ([F.agg [F.int .i64 x0, F.int .i64 y0, F.int .i64 x1, F.int .i64 y1], F.agg [F.int .i64 px, F.int .i64 py]].map .f)) (r) := by
  refine Ends.of_run tyOK envN17c_ok (T := []) (n := 200) ?_
  have e : run Tryz.prog (tiOf Tryz.prog) envN17c [] 0 Tryz.f44.results.toList some 200 [.code (bodyOf Tryz.f44)] (start Tryz.f44.ntmps ([F.agg [F.int .i64 x0, F.int .i64 y0, F.int .i64 x1, F.int .i64 y1], F.agg [F.int .i64 px, F.int .i64 py]].map .f)) = T44 (fun r => some (.ret (r))) x0 y0 x1 y1 px py := by kernel_rfl
  rw [e]
  exact (good_sel h (fun _ h => (good_sel h (fun _ h => (good_sel h (fun _ h => (good_sel h (fun _ h => (good_sel h (fun _ h => good_ret (by cases h; rfl)) (fun _ h => nomatch h))) (fun _ h => nomatch h))) (fun _ h => nomatch h))) (fun _ h => (good_sel h (fun _ h => (good_sel h (fun _ h => good_ret (by cases h; rfl)) (fun _ h => nomatch h))) (fun _ h => (good_sel h (fun _ h => good_ret (by cases h; rfl)) (fun _ h => nomatch h))))))) (fun _ h => (good_sel h (fun _ h => (good_sel h (fun _ h => good_ret (by cases h; rfl)) (fun _ h => nomatch h))) (fun _ h => (good_sel h (fun _ h => good_ret (by cases h; rfl)) (fun _ h => nomatch h))))))
theorem mulb {a b : Int} (ha : -2000000 ≤ a ∧ a ≤ 2000000) (hb : -2000000 ≤ b ∧ b ≤ 2000000) : -4000000000000 ≤ a * b ∧ a * b ≤ 4000000000000 := by
  have h : (a * b).natAbs ≤ 2000000 * 2000000 := by rw [Int.natAbs_mul]; exact Nat.mul_le_mul (by omega) (by omega)
  omega
theorem dotW {a b c d : Int} (ha : -2000000 ≤ a ∧ a ≤ 2000000) (hb : -2000000 ≤ b ∧ b ≤ 2000000) (hc : -2000000 ≤ c ∧ c ≤ 2000000) (hd : -2000000 ≤ d ∧ d ≤ 2000000) :
    IntKind.i64.wrap (IntKind.i64.wrap (a * b) + IntKind.i64.wrap (c * d)) = a * b + c * d ∧ -8000000000000 ≤ a * b + c * d ∧ a * b + c * d ≤ 8000000000000 := by
  obtain ⟨h1, h2⟩ := mulb ha hb
  obtain ⟨h3, h4⟩ := mulb hc hd
  rw [wrapI (x := a * b) (by omega) (by omega), wrapI (x := c * d) (by omega) (by omega), wrapI (by omega) (by omega)]
  omega
def spotIn (x y : Int) : Prop := -1000000 ≤ x ∧ x ≤ 1000000 ∧ -1000000 ≤ y ∧ y ≤ 1000000
def crossZ (x0 y0 x1 y1 x2 y2 : Int) : Int := (x1 - x0) * (y2 - y0) - (y1 - y0) * (x2 - x0)
theorem crossW_eq {x0 y0 x1 y1 x2 y2 : Int} (h0 : spotIn x0 y0) (h1 : spotIn x1 y1) (h2 : spotIn x2 y2) :
    crossW x0 y0 x1 y1 x2 y2 = crossZ x0 y0 x1 y1 x2 y2 ∧ -8000000000000 ≤ crossZ x0 y0 x1 y1 x2 y2 ∧ crossZ x0 y0 x1 y1 x2 y2 ≤ 8000000000000 := by
  unfold spotIn at h0 h1 h2
  unfold crossW crossZ
  rw [wrapI (x := x1 - x0) (by omega) (by omega), wrapI (x := y2 - y0) (by omega) (by omega), wrapI (x := y1 - y0) (by omega) (by omega), wrapI (x := x2 - x0) (by omega) (by omega)]
  obtain ⟨h1, h2⟩ := mulb (a := x1 - x0) (b := y2 - y0) (by omega) (by omega)
  obtain ⟨h3, h4⟩ := mulb (a := y1 - y0) (b := x2 - x0) (by omega) (by omega)
  rw [wrapI (x := (x1 - x0) * (y2 - y0)) (by omega) (by omega), wrapI (x := (y1 - y0) * (x2 - x0)) (by omega) (by omega), wrapI (by omega) (by omega)]
  omega
def longZ (x0 y0 x1 y1 : Int) : Int := (x1 - x0) * (x1 - x0) + (y1 - y0) * (y1 - y0)
def alongZ (x0 y0 x1 y1 px py : Int) : Int := (px - x0) * (x1 - x0) + (py - y0) * (y1 - y0)
def nearU (x0 y0 x1 y1 px py : Int) : Int :=
  if 0 < alongZ x0 y0 x1 y1 px py ∧ alongZ x0 y0 x1 y1 px py < longZ x0 y0 x1 y1 then crossZ x0 y0 x1 y1 px py * crossZ x0 y0 x1 y1 px py
  else if longZ x0 y0 x1 y1 ≤ alongZ x0 y0 x1 y1 px py then longZ x1 y1 px py else longZ x0 y0 px py
def nearD (x0 y0 x1 y1 px py : Int) : Int :=
  if 0 < alongZ x0 y0 x1 y1 px py ∧ alongZ x0 y0 x1 y1 px py < longZ x0 y0 x1 y1 then longZ x0 y0 x1 y1 else 1
theorem near_law {x0 y0 x1 y1 px py : Int} (h0 : spotIn x0 y0) (h1 : spotIn x1 y1) (h2 : spotIn px py) : G44 x0 y0 x1 y1 px py = some (ratF (nearU x0 y0 x1 y1 px py) (nearD x0 y0 x1 y1 px py)) := by
  obtain ⟨c1, c2, c3⟩ := crossW_eq h0 h1 h2
  unfold spotIn at h0 h1 h2
  unfold G44 T44
  rw [c1]
  rw [wrapI (x := px - x0) (by omega) (by omega), wrapI (x := x1 - x0) (by omega) (by omega), wrapI (x := py - y0) (by omega) (by omega), wrapI (x := y1 - y0) (by omega) (by omega), wrapI (x := px - x1) (by omega) (by omega), wrapI (x := py - y1) (by omega) (by omega)]
  obtain ⟨a1, a2, a3⟩ := dotW (a := px - x0) (b := x1 - x0) (c := py - y0) (d := y1 - y0) (by omega) (by omega) (by omega) (by omega)
  obtain ⟨l1, l2, l3⟩ := dotW (a := x1 - x0) (b := x1 - x0) (c := y1 - y0) (d := y1 - y0) (by omega) (by omega) (by omega) (by omega)
  obtain ⟨p1, p2, p3⟩ := dotW (a := px - x1) (b := px - x1) (c := py - y1) (d := py - y1) (by omega) (by omega) (by omega) (by omega)
  obtain ⟨q1, q2, q3⟩ := dotW (a := px - x0) (b := px - x0) (c := py - y0) (d := py - y0) (by omega) (by omega) (by omega) (by omega)
  rw [a1, l1, p1, q1]
  change _ = some (ratF (nearU x0 y0 x1 y1 px py) (nearD x0 y0 x1 y1 px py))
  have ea : (px - x0) * (x1 - x0) + (py - y0) * (y1 - y0) = alongZ x0 y0 x1 y1 px py := rfl
  have el : (x1 - x0) * (x1 - x0) + (y1 - y0) * (y1 - y0) = longZ x0 y0 x1 y1 := rfl
  have ep : (px - x1) * (px - x1) + (py - y1) * (py - y1) = longZ x1 y1 px py := rfl
  have eq : (px - x0) * (px - x0) + (py - y0) * (py - y0) = longZ x0 y0 px py := rfl
  rw [ea, el, ep, eq]
  have b1 : -8000000000000 ≤ longZ x0 y0 x1 y1 ∧ longZ x0 y0 x1 y1 ≤ 8000000000000 := ⟨l2, l3⟩
  have b2 : -8000000000000 ≤ longZ x1 y1 px py ∧ longZ x1 y1 px py ≤ 8000000000000 := ⟨p2, p3⟩
  have b3 : -8000000000000 ≤ longZ x0 y0 px py ∧ longZ x0 y0 px py ≤ 8000000000000 := ⟨q2, q3⟩
  clear a1 a2 a3 l1 l2 l3 p1 p2 p3 q1 q2 q3 ea el ep eq
  have hc : isNum 400 (numF (crossZ x0 y0 x1 y1 px py)) = true := isNum_numF (bound_up (n := 1) (by rw [Nat.pow_one]; omega) (by omega))
  simp only [isI64_iff.2 (show -9223372036854775808 ≤ crossZ x0 y0 x1 y1 px py ∧ _ by omega), isI64_iff.2 (show -9223372036854775808 ≤ longZ x0 y0 x1 y1 ∧ _ by omega), isI64_iff.2 (show -9223372036854775808 ≤ longZ x1 y1 px py ∧ _ by omega), isI64_iff.2 (show -9223372036854775808 ≤ longZ x0 y0 px py ∧ _ by omega), hc, unNum_numF, Bool.and_self, bsel_true]
  unfold nearU nearD
  generalize alongZ x0 y0 x1 y1 px py = al at *
  generalize longZ x0 y0 x1 y1 = lo at *
  by_cases k1 : 0 < al
  · rw [decide_eq_true (show al > 0 by omega), show (true == true) = true from rfl, bsel_true]
    by_cases k2 : al < lo
    · rw [decide_eq_true k2, bsel_true, if_pos ⟨k1, k2⟩, if_pos ⟨k1, k2⟩]
      all_goals rfl
    · rw [decide_eq_false k2, bsel_false, if_neg (show ¬ (0 < al ∧ al < lo) from fun h => k2 h.2), if_neg (show ¬ (0 < al ∧ al < lo) from fun h => k2 h.2), if_pos (by omega), decide_eq_true (show al ≥ lo by omega), bsel_true]
      all_goals rfl
  · rw [decide_eq_false (show ¬ al > 0 by omega), show (false == true) = false from rfl, bsel_false, if_neg (show ¬ (0 < al ∧ al < lo) from fun h => k1 h.1), if_neg (show ¬ (0 < al ∧ al < lo) from fun h => k1 h.1)]
    by_cases k2 : lo ≤ al
    · rw [decide_eq_true (show al ≥ lo by omega), bsel_true, if_pos k2]
      all_goals rfl
    · rw [decide_eq_false (show ¬ al ≥ lo by omega), bsel_false, if_neg k2]
      all_goals rfl
def isCoord (x : Int) : Bool := decide (-1000000 ≤ x) && decide (x ≤ 1000000)
def isNearArg (x0 y0 x1 y1 px py : Int) : Bool := isCoord x0 && isCoord y0 && (isCoord x1 && isCoord y1) && (isCoord px && isCoord py)
theorem isNearArg_iff {x0 y0 x1 y1 px py : Int} : isNearArg x0 y0 x1 y1 px py = true ↔ spotIn x0 y0 ∧ spotIn x1 y1 ∧ spotIn px py := by
  simp only [isNearArg, isCoord, spotIn, Bool.and_eq_true, decide_eq_true_eq, and_assoc]
def preNear : List F → Bool | [.agg [.int .i64 a, .int .i64 b, .int .i64 c, .int .i64 d], .agg [.int .i64 e, .int .i64 f]] => isNearArg a b c d e f | _ => false
def resNear2 : List F → F | [.agg [.int .i64 a, .int .i64 b, .int .i64 c, .int .i64 d], .agg [.int .i64 e, .int .i64 f]] => ratF (nearU a b c d e f) (nearD a b c d e f) | _ => .dflt
theorem okNear2 : PureOK Tryz.prog 44 preNear resNear2 :=
  fn_pure (c := bodyOf Tryz.f44) Tryz.func44 (by kernel_rfl) (by kernel_rfl) fun xs hp => match xs, hp with
  | [.agg [.int .i64 a, .int .i64 b, .int .i64 c, .int .i64 d], .agg [.int .i64 e, .int .i64 f]], hp => by
    obtain ⟨h0, h1, h2⟩ := isNearArg_iff.1 hp
    exact t44 a b c d e f _ (near_law h0 h1 h2)
def envN18 : Env := ((envN17c.add 45 (.pure preRat2 resRCmp)).add 47 (.pure preLow resLow)).add 44 (.pure preNear resNear2)
theorem envN18_ok : EnvOK Tryz.prog envN18 := (Env.add_ok (Env.add_ok (Env.add_ok envN17c_ok okRCmp.sp) okLow.sp) okNear2.sp)
end
end Go.Proofs.YtdcooaopkbicfaaGreat.R
namespace Go.Proofs.YtdcooaopkbicfaaGreat.R
open Go
noncomputable section
theorem boundC_up {x : Int} {n m : Nat} (h : x.natAbs < 4294967296 ^ n) (hn : n ≤ m) : x.natAbs < 4294967296 ^ m := Nat.lt_of_lt_of_le h (Nat.pow_le_pow_right (by omega) hn)
theorem boundC_sub {x y : Int} {n : Nat} (hx : x.natAbs < 4294967296 ^ n) (hy : y.natAbs < 4294967296 ^ n) : (x - y).natAbs < 4294967296 ^ (n + 1) := by
  rw [Nat.pow_succ]
  generalize 4294967296 ^ n = t at *
  omega
theorem boundC_mul {x y : Int} {n m : Nat} (hx : x.natAbs < 4294967296 ^ n) (hy : y.natAbs < 4294967296 ^ m) : (x * y).natAbs < 4294967296 ^ (n + m) := by
  rw [Int.natAbs_mul, Nat.pow_add]
  exact Nat.mul_lt_mul_of_lt_of_le hx (Nat.le_of_lt hy) (Nat.pow_pos (by omega))
/-! ### function 36 -/
def T36 {ρ : Type} (ret : (Int) → Option ρ) (x : Int) (y : Int) : Option ρ :=
 (bsel (isL1n 800 (l1nF x) && isL1n 800 (l1nF y))
 (bsel (isL1n 900 (resSubZ [l1nF x, l1nF y]))
 (ret ((unL1n (resSubZ [l1nF x, l1nF y])).sign))
 none)
 none)
def G36 (x : Int) (y : Int) : Option (Int) := T36 some x y
theorem t36 (x : Int) (y : Int) (r : Int) (h : G36 x y = some r) : Ends Tryz.prog Tryz.f36.results.toList [.code (bodyOf Tryz.f36)] (start Tryz.f36.ntmps ([l1nF x, l1nF y].map .f)) (F.int .i64 r) := by
  refine Ends.of_run tyOK envS4_ok (T := []) (n := 200) ?_
  have e : run Tryz.prog (tiOf Tryz.prog) envS4 [] 0 Tryz.f36.results.toList some 200 [.code (bodyOf Tryz.f36)] (start Tryz.f36.ntmps ([l1nF x, l1nF y].map .f)) = T36 (fun r => some (.ret (F.int .i64 r))) x y := by kernel_rfl
  rw [e]
  exact (good_sel h (fun _ h => (good_sel h (fun _ h => good_ret (by cases h; rfl)) (fun _ h => nomatch h))) (fun _ h => nomatch h))
theorem cmpZ_law {x y : Int} (hx : x.natAbs < 4294967296 ^ 800) (hy : y.natAbs < 4294967296 ^ 800) : G36 x y = some (x - y).sign := by
  have hs : (x - y).natAbs < 4294967296 ^ 900 := boundC_up (boundC_sub hx hy) (by omega)
  unfold G36 T36
  simp only [resSubZ, unL1n_l1nF, isL1n_l1nF hx, isL1n_l1nF hy, isL1n_l1nF hs, Bool.and_self, bsel_true]
def resCmpZ : List F → F | [x, y] => .int .i64 (unL1n x - unL1n y).sign | _ => .dflt
theorem okCmpZ : PureOK Tryz.prog 36 (preL2 800) resCmpZ :=
  fn_pure_at (c := bodyOf Tryz.f36) Tryz.func36 (by kernel_rfl) (by kernel_rfl) fun xs hp => match xs, hp with
  | [x, y], hp => by
    obtain ⟨hx, hy⟩ := preL2_iff hp
    exact ⟨[l1nF (unL1n x), l1nF (unL1n y)], _, ⟨(l1n_eqv hx).1, (l1n_eqv hy).1, trivial⟩, t36 _ _ _ (cmpZ_law (natAbs_of_isL1n hx) (natAbs_of_isL1n hy)), .refl _⟩
/-! ### function 57 -/
def T57 {ρ : Type} (ret : (F) → Option ρ) (x : Int) (y : Int) : Option ρ :=
 (bsel (isTrimH 699 (halvesF (digs 4294967296 x.natAbs)) && isTrimH 699 (halvesF (digs 4294967296 y.natAbs)) && isDivA (val 4294967296 (unHalves (halvesF (digs 4294967296 y.natAbs)))))
 (bsel (isHalves (halvesF (digs 4294967296 (val 4294967296 (unHalves (halvesF (digs 4294967296 x.natAbs))) / val 4294967296 (unHalves (halvesF (digs 4294967296 y.natAbs)))))) && lenOk 2000 (halvesF (digs 4294967296 (val 4294967296 (unHalves (halvesF (digs 4294967296 x.natAbs))) / val 4294967296 (unHalves (halvesF (digs 4294967296 y.natAbs)))))))
 (bsel (isHalves (halvesF (digs 4294967296 (val 4294967296 (unHalves (halvesF (digs 4294967296 x.natAbs))) % val 4294967296 (unHalves (halvesF (digs 4294967296 y.natAbs)))))) && lenOk 2000 (halvesF (digs 4294967296 (val 4294967296 (unHalves (halvesF (digs 4294967296 x.natAbs))) % val 4294967296 (unHalves (halvesF (digs 4294967296 y.natAbs)))))))
 (bsel (decide (sgn (decide (x < 0)) (val 4294967296 (unHalves (halvesF (digs 4294967296 (val 4294967296 (unHalves (halvesF (digs 4294967296 x.natAbs))) % val 4294967296 (unHalves (halvesF (digs 4294967296 y.natAbs)))))))) < 0))
 (bsel (decide (y < 0))
 (bsel (isL1n 800 (l1nF (sgn (!decide (x < 0) == decide (y < 0)) (val 4294967296 (unHalves (halvesF (digs 4294967296 (val 4294967296 (unHalves (halvesF (digs 4294967296 x.natAbs))) / val 4294967296 (unHalves (halvesF (digs 4294967296 y.natAbs)))))))))) && true)
 (bsel (isL1n 800 (l1nF (sgn (decide (x < 0)) (val 4294967296 (unHalves (halvesF (digs 4294967296 (val 4294967296 (unHalves (halvesF (digs 4294967296 x.natAbs))) % val 4294967296 (unHalves (halvesF (digs 4294967296 y.natAbs)))))))))) && isL1n 800 (l1nF y))
 (ret (F.tup [l1nF (unL1n (l1nF (sgn (!decide (x < 0) == decide (y < 0)) (val 4294967296 (unHalves (halvesF (digs 4294967296 (val 4294967296 (unHalves (halvesF (digs 4294967296 x.natAbs))) / val 4294967296 (unHalves (halvesF (digs 4294967296 y.natAbs)))))))))) + unL1n (resInt3 [F.int .i64 1])), l1nF (unL1n (l1nF (sgn (decide (x < 0)) (val 4294967296 (unHalves (halvesF (digs 4294967296 (val 4294967296 (unHalves (halvesF (digs 4294967296 x.natAbs))) % val 4294967296 (unHalves (halvesF (digs 4294967296 y.natAbs)))))))))) - unL1n (l1nF y))]))
 none)
 none)
 (bsel (isL1n 800 (l1nF (sgn (!decide (x < 0) == decide (y < 0)) (val 4294967296 (unHalves (halvesF (digs 4294967296 (val 4294967296 (unHalves (halvesF (digs 4294967296 x.natAbs))) / val 4294967296 (unHalves (halvesF (digs 4294967296 y.natAbs)))))))))) && true)
 (bsel (isL1n 800 (l1nF (sgn (decide (x < 0)) (val 4294967296 (unHalves (halvesF (digs 4294967296 (val 4294967296 (unHalves (halvesF (digs 4294967296 x.natAbs))) % val 4294967296 (unHalves (halvesF (digs 4294967296 y.natAbs)))))))))) && isL1n 800 (l1nF y))
 (ret (F.tup [l1nF (unL1n (l1nF (sgn (!decide (x < 0) == decide (y < 0)) (val 4294967296 (unHalves (halvesF (digs 4294967296 (val 4294967296 (unHalves (halvesF (digs 4294967296 x.natAbs))) / val 4294967296 (unHalves (halvesF (digs 4294967296 y.natAbs)))))))))) - unL1n (resInt3 [F.int .i64 1])), l1nF (unL1n (l1nF (sgn (decide (x < 0)) (val 4294967296 (unHalves (halvesF (digs 4294967296 (val 4294967296 (unHalves (halvesF (digs 4294967296 x.natAbs))) % val 4294967296 (unHalves (halvesF (digs 4294967296 y.natAbs)))))))))) + unL1n (l1nF y))]))
 none)
 none))
 (ret (F.tup [l1nF (sgn (!decide (x < 0) == decide (y < 0)) (val 4294967296 (unHalves (halvesF (digs 4294967296 (val 4294967296 (unHalves (halvesF (digs 4294967296 x.natAbs))) / val 4294967296 (unHalves (halvesF (digs 4294967296 y.natAbs))))))))), l1nF (sgn (decide (x < 0)) (val 4294967296 (unHalves (halvesF (digs 4294967296 (val 4294967296 (unHalves (halvesF (digs 4294967296 x.natAbs))) % val 4294967296 (unHalves (halvesF (digs 4294967296 y.natAbs)))))))))])))
 none)
 none)
 none)
def G57 (x : Int) (y : Int) : Option (F) := T57 some x y
theorem t57 (x : Int) (y : Int) (r : F) (h : G57 x y = some r) : Ends Tryz.prog Tryz.f57.results.toList [.code (bodyOf Tryz.f57)] (start Tryz.f57.ntmps ([l1nF x, l1nF y].map .f)) (r) := by
  refine Ends.of_run tyOK envS4_ok (T := []) (n := 200) ?_
  have e : run Tryz.prog (tiOf Tryz.prog) envS4 [] 0 Tryz.f57.results.toList some 200 [.code (bodyOf Tryz.f57)] (start Tryz.f57.ntmps ([l1nF x, l1nF y].map .f)) = T57 (fun r => some (.ret (r))) x y := by kernel_rfl
  rw [e]
  exact (good_sel h (fun _ h => (good_sel h (fun _ h => (good_sel h (fun _ h => (good_sel h (fun _ h => (good_sel h (fun _ h => (good_sel h (fun _ h => (good_sel h (fun _ h => good_ret (by cases h; rfl)) (fun _ h => nomatch h))) (fun _ h => nomatch h))) (fun _ h => (good_sel h (fun _ h => (good_sel h (fun _ h => good_ret (by cases h; rfl)) (fun _ h => nomatch h))) (fun _ h => nomatch h))))) (fun _ h => good_ret (by cases h; rfl)))) (fun _ h => nomatch h))) (fun _ h => nomatch h))) (fun _ h => nomatch h))
theorem divZ_law {x y : Int} (hy : y ≠ 0) (hx : x.natAbs < 4294967296 ^ 699) (hyb : y.natAbs < 4294967296 ^ 699) : ∃ a b, G57 x y = some (.tup [l1nF a, l1nF b]) ∧ a = x / y ∧ b = x % y := by
  have q1 : x.natAbs / y.natAbs < 4294967296 ^ 699 := Nat.lt_of_le_of_lt (Nat.div_le_self _ _) hx
  have q2 : x.natAbs % y.natAbs < 4294967296 ^ 699 := Nat.lt_of_le_of_lt (Nat.mod_le _ _) hx
  have q1' : (x.tdiv y).natAbs < 4294967296 ^ 800 := by rw [Int.natAbs_tdiv]; exact bound_upC q1 (by omega)
  have q2' : (x.tmod y).natAbs < 4294967296 ^ 800 := by rw [Int.natAbs_tmod]; exact bound_upC q2 (by omega)
  have d : isDivA y.natAbs = true := isDivA_iff.2 (by omega)
  unfold G57 T57
  simp only [unHalves_digs, val_digsH, isTrimH_digs hx, isTrimH_digs hyb, d, isHalves_digs, lenOkH_digs q1 (show 699 ≤ 2000 by omega), lenOkH_digs q2 (show 699 ≤ 2000 by omega), Bool.and_self, Bool.and_true, bsel_true, sgn_div x y hy, sgn_mod, isL1n_l1nF (boundC_up hyb (show 699 ≤ 800 by omega)), isL1n_l1nF q1', isL1n_l1nF q2', resInt3, unL1n_l1nF]
  obtain ⟨f1, f2, f3⟩ := over_fix (x := x) hy
  by_cases hr : x.tmod y < 0
  · rw [decide_eq_true hr, bsel_true]
    by_cases hn : y < 0
    · obtain ⟨g1, g2⟩ := f1 hr hn
      rw [decide_eq_true hn, bsel_true]
      exact ⟨_, _, rfl, g1, by rw [← g2]; omega⟩
    · obtain ⟨g1, g2⟩ := f2 hr hn
      rw [decide_eq_false hn, bsel_false]
      exact ⟨_, _, rfl, g1, by rw [← g2]; omega⟩
  · obtain ⟨g1, g2⟩ := f3 hr
    rw [decide_eq_false hr, bsel_false]
    exact ⟨_, _, rfl, g1, g2⟩
def isDivZ (y : Int) : Bool := isDivA y.natAbs
def preDivZ : List F → Bool | [x, y] => isL1n 699 x && isL1n 699 y && isDivZ (unL1n y) | _ => false
def resDivZ : List F → F | [x, y] => .tup [l1nF (unL1n x / unL1n y), l1nF (unL1n x % unL1n y)] | _ => .dflt
theorem okDivZ : PureOK Tryz.prog 57 preDivZ resDivZ :=
  fn_pure_at (c := bodyOf Tryz.f57) Tryz.func57 (by kernel_rfl) (by kernel_rfl) fun xs hp => match xs, hp with
  | [x, y], hp => by
    simp only [preDivZ, Bool.and_eq_true] at hp
    obtain ⟨⟨hx, hy⟩, hd⟩ := hp
    have h0 := isDivA_iff.1 hd
    obtain ⟨a, b, e, rfl, rfl⟩ := divZ_law (x := unL1n x) (y := unL1n y) (by omega) (natAbs_of_isL1n hx) (natAbs_of_isL1n hy)
    exact ⟨[l1nF (unL1n x), l1nF (unL1n y)], _, ⟨(l1n_eqv hx).1, (l1n_eqv hy).1, trivial⟩, t57 _ _ _ e, .refl _⟩
/-! ### function 56 -/
def S56_3 (x : List Nat) (y : List Nat) : St := ⟨[.bad, .bad, .bad, .bad, (U.hp 0 0), (U.f (halvesF x)), (U.f (halvesF y)), .bad, .bad, .bad, .bad, .bad, .bad, .bad, .bad, .bad, .bad, .bad, .bad, .bad, .bad, .bad, .bad, .bad, .bad, .bad], [HO.box [(U.f (F.bool false)), U.nils]]⟩
def T56_3 {ρ : Type} (ret : (F) → Option ρ) (c3 : (List Nat) → (List Nat) → Option ρ) (x : List Nat) (y : List Nat) : Option ρ :=
 (bsel (decide ((↑y.length : Int) > 0))
 (bsel (isTrimH 699 (halvesF x) && isTrimH 699 (halvesF y) && isDivA (val 4294967296 (unHalves (halvesF y))))
 (c3 (y) (digs 4294967296 (val 4294967296 (unHalves (halvesF x)) % val 4294967296 (unHalves (halvesF y)))))
 none)
 (bsel (isHalves (halvesF x) && lenOk 2000 (halvesF x))
 (ret (l1nF (sgn false (val 4294967296 (unHalves (halvesF x))))))
 none))
def L56_3 : Nat → (List Nat) → (List Nat) → Option (F)
  | 0, _, _ => none
  | k + 1, x, y => T56_3 some (L56_3 k) x y
def T56 {ρ : Type} (ret : (F) → Option ρ) (c3 : (List Nat) → (List Nat) → Option ρ) (x : Int) (y : Int) : Option ρ :=
 (c3 (digs 4294967296 x.natAbs) (digs 4294967296 y.natAbs))
def G56 (k : Nat) (x : Int) (y : Int) : Option (F) := T56 some (L56_3 k) x y
theorem t56_3 : ∀ (k : Nat) (x : List Nat) (y : List Nat) (r : F), L56_3 k x y = some r → Ends Tryz.prog Tryz.f56.results.toList (at_ Tryz.f56 3) (S56_3 x y) (r)
  | 0, _, _, _, h => nomatch h
  | k + 1, x, y, r, h => by
    refine Ends.of_cut tyOK envS4_ok (T := [(3, [4, 5, 6], 1000)]) (n := 200) ?_
    have e : runCut Tryz.prog (tiOf Tryz.prog) envS4 [(3, [4, 5, 6], 1000)] 0 Tryz.f56.results.toList some 200 (at_ Tryz.f56 3) (S56_3 x y) = T56_3 (fun r => some (.ret (r))) (fun x y => some (.cut (at_ Tryz.f56 3) (S56_3 x y))) x y := by kernel_rfl
    rw [e]
    exact (good_sel h (fun _ h => (good_sel h (fun _ h => good_cut (t56_3 k _ _ r h)) (fun _ h => nomatch h))) (fun _ h => (good_sel h (fun _ h => good_ret (by cases h; rfl)) (fun _ h => nomatch h))))
theorem t56 (k : Nat) (x : Int) (y : Int) (r : F) (h : G56 k x y = some r) : Ends Tryz.prog Tryz.f56.results.toList [.code (bodyOf Tryz.f56)] (start Tryz.f56.ntmps ([l1nF x, l1nF y].map .f)) (r) := by
  refine Ends.of_run tyOK envS4_ok (T := [(3, [4, 5, 6], 1000)]) (n := 200) ?_
  have e : run Tryz.prog (tiOf Tryz.prog) envS4 [(3, [4, 5, 6], 1000)] 0 Tryz.f56.results.toList some 200 [.code (bodyOf Tryz.f56)] (start Tryz.f56.ntmps ([l1nF x, l1nF y].map .f)) = T56 (fun r => some (.ret (r))) (fun x y => some (.cut (at_ Tryz.f56 3) (S56_3 x y))) x y := by kernel_rfl
  rw [e]
  exact good_cut (t56_3 k _ _ r h)
theorem gcd3_loop : ∀ (y x k : Nat), y < 4294967296 ^ 699 → x < 4294967296 ^ 699 → y + 1 ≤ k → L56_3 k (digs 4294967296 x) (digs 4294967296 y) = some (l1nF ((Nat.gcd x y : Nat) : Int)) := by
  intro y
  induction y using Nat.strongRecOn with
  | _ y ih =>
    intro x k hy hx hk
    obtain ⟨k, rfl⟩ : ∃ j, k = j + 1 := ⟨k - 1, by omega⟩
    rw [L56_3]
    unfold T56_3
    by_cases h0 : y = 0
    · subst h0
      rw [digs_zero, show decide (((([] : List Nat).length : Nat) : Int) > 0) = false from rfl, bsel_false, isHalves_digs, lenOkH_digs hx (show 699 ≤ 2000 by omega), unHalves_digs, val_digsH, Nat.gcd_zero_right]
      rfl
    · have hm : x % y < y := Nat.mod_lt _ (by omega)
      rw [decide_eq_true (digsH_len_pos.2 h0), bsel_true, isTrimH_digs hx, isTrimH_digs hy]
      simp only [unHalves_digs, val_digsH, isDivA_iff.2 (show 0 < y by omega), Bool.and_self, bsel_true]
      rw [ih (x % y) hm y k (Nat.lt_trans hm hy) hy (by omega), ← gcd_step]
def resGcdZ : List F → F | [x, y] => l1nF (gcdI (unL1n x) (unL1n y)) | _ => .dflt
theorem okGcdZ : PureOK Tryz.prog 56 (preL2 699) resGcdZ :=
  fn_pure_at (c := bodyOf Tryz.f56) Tryz.func56 (by kernel_rfl) (by kernel_rfl) fun xs hp => match xs, hp with
  | [x, y], hp => by
    obtain ⟨hx, hy⟩ := preL2_iff hp
    exact ⟨[l1nF (unL1n x), l1nF (unL1n y)], _, ⟨(l1n_eqv hx).1, (l1n_eqv hy).1, trivial⟩, t56 ((unL1n y).natAbs + 1) _ _ _ (gcd3_loop _ _ _ (natAbs_of_isL1n hy) (natAbs_of_isL1n hx) (Nat.le_refl _)), .refl _⟩
def envS5 : Env := ((envS4.add 36 (.pure (preL2 800) resCmpZ)).add 57 (.pure preDivZ resDivZ)).add 56 (.pure (preL2 699) resGcdZ)
theorem envS5_ok : EnvOK Tryz.prog envS5 := (Env.add_ok (Env.add_ok (Env.add_ok envS4_ok okCmpZ.sp) okDivZ.sp) okGcdZ.sp)
end
end Go.Proofs.YtdcooaopkbicfaaGreat.R
namespace Go.Proofs.YtdcooaopkbicfaaGreat.R
open Go
noncomputable section
/-! ### function 37 -/
def S37_10 (d : List Nat) (m : Nat) (g : Nat → F) (i : Int) : St := ⟨[.bad, .bad, (U.hp 0 0), .bad, (U.f (halvesF d)), (U.hs 1 m 0 m), (U.f (F.int .i64 i)), .bad, .bad, .bad, .bad, .bad, .bad, .bad, .bad, .bad, .bad, .bad, .bad, .bad, .bad, .bad, .bad, .bad, .bad, .bad, .bad, .bad, .bad, .bad, .bad, .bad, .bad, .bad, .bad, .bad, .bad, .bad, .bad, .bad, .bad, .bad, .bad, .bad, .bad, .bad, .bad, .bad, .bad, .bad, .bad, .bad, .bad, .bad, .bad, .bad, .bad, .bad, .bad, .bad, .bad, .bad, .bad, .bad, .bad, .bad, .bad, .bad, .bad, .bad, .bad, .bad, .bad, .bad, .bad, .bad, .bad], [HO.box [(U.f (F.int .u64 0)), (U.f (F.int .u64 0)), (U.f (F.int .u64 0)), (U.f (F.int .u64 0))], HO.arr 1 m g]⟩
def S37_8 (d : List Nat) : St := ⟨[.bad, .bad, (U.hp 0 0), .bad, (U.f (halvesF d)), .bad, .bad, .bad, .bad, .bad, .bad, .bad, .bad, .bad, .bad, .bad, .bad, .bad, .bad, .bad, .bad, .bad, .bad, .bad, .bad, .bad, .bad, .bad, .bad, .bad, .bad, .bad, .bad, .bad, .bad, .bad, .bad, .bad, .bad, .bad, .bad, .bad, .bad, .bad, .bad, .bad, .bad, .bad, .bad, .bad, .bad, .bad, .bad, .bad, .bad, .bad, .bad, .bad, .bad, .bad, .bad, .bad, .bad, .bad, .bad, .bad, .bad, .bad, .bad, .bad, .bad, .bad, .bad, .bad, .bad, .bad, .bad], [HO.box [(U.f (F.int .u64 0)), (U.f (F.int .u64 0)), (U.f (F.int .u64 0)), (U.f (F.int .u64 0))]]⟩
def S37_13 (m : Nat) (g : Nat → F) : St := ⟨[.bad, .bad, (U.hp 0 0), .bad, .bad, (U.hs 1 m 0 m), .bad, .bad, .bad, .bad, .bad, .bad, .bad, .bad, .bad, .bad, .bad, .bad, .bad, .bad, .bad, .bad, .bad, .bad, .bad, .bad, .bad, .bad, .bad, .bad, .bad, .bad, .bad, .bad, .bad, .bad, .bad, .bad, .bad, .bad, .bad, .bad, .bad, .bad, .bad, .bad, .bad, .bad, .bad, .bad, .bad, .bad, .bad, .bad, .bad, .bad, .bad, .bad, .bad, .bad, .bad, .bad, .bad, .bad, .bad, .bad, .bad, .bad, .bad, .bad, .bad, .bad, .bad, .bad, .bad, .bad, .bad], [HO.box [(U.f (F.int .u64 0)), (U.f (F.int .u64 0)), (U.f (F.int .u64 0)), (U.f (F.int .u64 0))], HO.arr 1 m g]⟩
def T37_10 {ρ : Type} (ret : (F) → Option ρ) (c10 : (List Nat) → (Nat) → (Nat → F) → (Int) → Option ρ) (c8 : (List Nat) → Option ρ) (c13 : (Nat) → (Nat → F) → Option ρ) (d : List Nat) (m : Nat) (g : Nat → F) (i : Int) : Option ρ :=
 (bsel (decide (i < 8) == true)
 (bsel (decide (i < (↑d.length : Int)))
 (bsel (decide (0 ≤ i))
 (bsel (decide (i < (↑d.length : Int)))
 (bsel (decide (m = m))
 (bsel (decide (0 ≤ i))
 (bsel (decide (i < (↑m : Int)))
 (bsel (decide (m = m))
 (bsel (decide (0 + i.toNat < m))
 (bsel (decide ((g (0 + i.toNat)).cells.length = 1))
 (bsel ((isAggF (g (0 + i.toNat)) || true) && true)
 (c10 (d) (m) (fun j ↦ if j = 0 + i.toNat then F.int .u64 (IntKind.u64.wrap (↑(d.getD i.toNat 0) : Int)) else g j) (IntKind.i64.wrap (i + 1)))
 none)
 none)
 none)
 none)
 none)
 none)
 none)
 none)
 none)
 (c13 (m) (g)))
 (c13 (m) (g)))
def T37_8 {ρ : Type} (ret : (F) → Option ρ) (c10 : (List Nat) → (Nat) → (Nat → F) → (Int) → Option ρ) (c8 : (List Nat) → Option ρ) (c13 : (Nat) → (Nat → F) → Option ρ) (d : List Nat) : Option ρ :=
 (bsel (decide (8 * (((8 : Nat) : Int) + 1) ≤ (↑limit : Int)))
 (c10 (d) (8) (fun x ↦ F.int .u64 0) (0))
 none)
def T37_13 {ρ : Type} (ret : (F) → Option ρ) (c10 : (List Nat) → (Nat) → (Nat → F) → (Int) → Option ρ) (c8 : (List Nat) → Option ρ) (c13 : (Nat) → (Nat → F) → Option ρ) (m : Nat) (g : Nat → F) : Option ρ :=
 (bsel (decide (m = m))
 (bsel (decide (7 < (↑m : Int)))
 (bsel (decide (m = m))
 (bsel (decide (0 + 7 < m))
 (bsel (decide ((g (0 + 7)).cells.length = 1))
 (bsel (okV (Value.int IntKind.u64 0) ((List.drop 0 (g (0 + Int.toNat 7)).cells).headD F.dflt) && true)
 (bsel (decide (m = m))
 (bsel (decide (6 < (↑m : Int)))
 (bsel (decide (m = m))
 (bsel (decide (0 + 6 < m))
 (bsel (decide ((g (0 + 6)).cells.length = 1))
 (bsel (okV (Value.int IntKind.u64 0) ((List.drop 0 (g (0 + Int.toNat 6)).cells).headD F.dflt) && true)
 (bsel (decide (m = m))
 (bsel (decide (5 < (↑m : Int)))
 (bsel (decide (m = m))
 (bsel (decide (0 + 5 < m))
 (bsel (decide ((g (0 + 5)).cells.length = 1))
 (bsel (okV (Value.int IntKind.u64 0) ((List.drop 0 (g (0 + Int.toNat 5)).cells).headD F.dflt) && true)
 (bsel (decide (m = m))
 (bsel (decide (4 < (↑m : Int)))
 (bsel (decide (m = m))
 (bsel (decide (0 + 4 < m))
 (bsel (decide ((g (0 + 4)).cells.length = 1))
 (bsel (okV (Value.int IntKind.u64 0) ((List.drop 0 (g (0 + Int.toNat 4)).cells).headD F.dflt) && true)
 (bsel (decide (m = m))
 (bsel (decide (3 < (↑m : Int)))
 (bsel (decide (m = m))
 (bsel (decide (0 + 3 < m))
 (bsel (decide ((g (0 + 3)).cells.length = 1))
 (bsel (okV (Value.int IntKind.u64 0) ((List.drop 0 (g (0 + Int.toNat 3)).cells).headD F.dflt) && true)
 (bsel (decide (m = m))
 (bsel (decide (2 < (↑m : Int)))
 (bsel (decide (m = m))
 (bsel (decide (0 + 2 < m))
 (bsel (decide ((g (0 + 2)).cells.length = 1))
 (bsel (okV (Value.int IntKind.u64 0) ((List.drop 0 (g (0 + Int.toNat 2)).cells).headD F.dflt) && true)
 (bsel (decide (m = m))
 (bsel (decide (1 < (↑m : Int)))
 (bsel (decide (m = m))
 (bsel (decide (0 + 1 < m))
 (bsel (decide ((g (0 + 1)).cells.length = 1))
 (bsel (okV (Value.int IntKind.u64 0) ((List.drop 0 (g (0 + Int.toNat 1)).cells).headD F.dflt) && true)
 (bsel (decide (m = m))
 (bsel (decide (0 < (↑m : Int)))
 (bsel (decide (m = m))
 (bsel (decide (0 + 0 < m))
 (bsel (decide ((g (0 + 0)).cells.length = 1))
 (bsel (okV (Value.int IntKind.u64 0) ((List.drop 0 (g (0 + Int.toNat 0)).cells).headD F.dflt) && true)
 (ret (F.tup [F.agg [F.int .u64 (bitsOp BinOp.or IntKind.u64 (IntKind.u64.wrap (intOf ((List.drop 0 (g (0 + Int.toNat 7)).cells).headD F.dflt) * 2 ^ min (Int.toNat 32) IntKind.u64.bits)) (intOf ((List.drop 0 (g (0 + Int.toNat 6)).cells).headD F.dflt))), F.int .u64 (bitsOp BinOp.or IntKind.u64 (IntKind.u64.wrap (intOf ((List.drop 0 (g (0 + Int.toNat 5)).cells).headD F.dflt) * 2 ^ min (Int.toNat 32) IntKind.u64.bits)) (intOf ((List.drop 0 (g (0 + Int.toNat 4)).cells).headD F.dflt))), F.int .u64 (bitsOp BinOp.or IntKind.u64 (IntKind.u64.wrap (intOf ((List.drop 0 (g (0 + Int.toNat 3)).cells).headD F.dflt) * 2 ^ min (Int.toNat 32) IntKind.u64.bits)) (intOf ((List.drop 0 (g (0 + Int.toNat 2)).cells).headD F.dflt))), F.int .u64 (bitsOp BinOp.or IntKind.u64 (IntKind.u64.wrap (intOf ((List.drop 0 (g (0 + Int.toNat 1)).cells).headD F.dflt) * 2 ^ min (Int.toNat 32) IntKind.u64.bits)) (intOf ((List.drop 0 (g (0 + Int.toNat 0)).cells).headD F.dflt)))], F.bool true]))
 none)
 none)
 none)
 none)
 none)
 none)
 none)
 none)
 none)
 none)
 none)
 none)
 none)
 none)
 none)
 none)
 none)
 none)
 none)
 none)
 none)
 none)
 none)
 none)
 none)
 none)
 none)
 none)
 none)
 none)
 none)
 none)
 none)
 none)
 none)
 none)
 none)
 none)
 none)
 none)
 none)
 none)
 none)
 none)
 none)
 none)
 none)
 none)
mutual
def L37_10 : Nat → (List Nat) → (Nat) → (Nat → F) → (Int) → Option (F)
  | 0, _, _, _, _ => none
  | k + 1, d, m, g, i => T37_10 some (L37_10 k) (L37_8 k) (L37_13 k) d m g i
def L37_8 : Nat → (List Nat) → Option (F)
  | 0, _ => none
  | k + 1, d => T37_8 some (L37_10 k) (L37_8 k) (L37_13 k) d
def L37_13 : Nat → (Nat) → (Nat → F) → Option (F)
  | 0, _, _ => none
  | k + 1, m, g => T37_13 some (L37_10 k) (L37_8 k) (L37_13 k) m g
end
def T37 {ρ : Type} (ret : (F) → Option ρ) (c10 : (List Nat) → (Nat) → (Nat → F) → (Int) → Option ρ) (c8 : (List Nat) → Option ρ) (c13 : (Nat) → (Nat → F) → Option ρ) (z : Int) : Option ρ :=
 (bsel (decide (z < 0))
 (bsel (isTrimH 800 (halvesF (digs 4294967296 z.natAbs)) && true)
 (bsel (decide (((↑(val 4294967296 (unHalves (halvesF (digs 4294967296 z.natAbs)))) : Int) - ((57896044618658097711785492504343953926634992332820282019728792003956564819968 : Nat) : Int)).sign > 0))
 (ret (F.tup [F.agg [F.int .u64 0, F.int .u64 0, F.int .u64 0, F.int .u64 0], F.bool false]))
 (bsel (isHalves (halvesF (digs 4294967296 z.natAbs)) && lenOk 1900 (halvesF (digs 4294967296 z.natAbs)))
 (c8 (subL 4294967296 (unHalves (resLeft [F.sl 1 (lget [F.int .u32 1]), F.int .i64 256])) (unHalves (halvesF (digs 4294967296 z.natAbs))) 0))
 none))
 none)
 (bsel (isTrimH 800 (halvesF (digs 4294967296 z.natAbs)))
 (bsel (decide ((↑(Go.Proofs.YtdcooaopkbicfaaGreat.R.bitLen (val 4294967296 (unHalves (halvesF (digs 4294967296 z.natAbs))))) : Int) > 255))
 (ret (F.tup [F.agg [F.int .u64 0, F.int .u64 0, F.int .u64 0, F.int .u64 0], F.bool false]))
 (c8 (digs 4294967296 z.natAbs)))
 none))
def G37 (k : Nat) (z : Int) : Option (F) := T37 some (L37_10 k) (L37_8 k) (L37_13 k) z
mutual
theorem t37_10 : ∀ (k : Nat) (d : List Nat) (m : Nat) (g : Nat → F) (i : Int) (r : F), L37_10 k d m g i = some r → Ends Tryz.prog Tryz.f37.results.toList (at_ Tryz.f37 10) (S37_10 d m g i) (r)
  | 0, _, _, _, _, _, h => nomatch h
  | k + 1, d, m, g, i, r, h => by
    refine Ends.of_cut tyOK envS5_ok (T := [(10, [2, 4, 5, 6], 1000), (8, [2, 4], 1000), (13, [2, 5], 1000)]) (n := 200) ?_
    have e : runCut Tryz.prog (tiOf Tryz.prog) envS5 [(10, [2, 4, 5, 6], 1000), (8, [2, 4], 1000), (13, [2, 5], 1000)] 0 Tryz.f37.results.toList some 200 (at_ Tryz.f37 10) (S37_10 d m g i) = T37_10 (fun r => some (.ret (r))) (fun d m g i => some (.cut (at_ Tryz.f37 10) (S37_10 d m g i))) (fun d => some (.cut (at_ Tryz.f37 8) (S37_8 d))) (fun m g => some (.cut (at_ Tryz.f37 13) (S37_13 m g))) d m g i := by kernel_rfl
    rw [e]
    exact (good_sel h (fun _ h => (good_sel h (fun _ h => (good_sel h (fun _ h => (good_sel h (fun _ h => (good_sel h (fun _ h => (good_sel h (fun _ h => (good_sel h (fun _ h => (good_sel h (fun _ h => (good_sel h (fun _ h => (good_sel h (fun _ h => (good_sel h (fun _ h => good_cut (t37_10 k _ _ _ _ r h)) (fun _ h => nomatch h))) (fun _ h => nomatch h))) (fun _ h => nomatch h))) (fun _ h => nomatch h))) (fun _ h => nomatch h))) (fun _ h => nomatch h))) (fun _ h => nomatch h))) (fun _ h => nomatch h))) (fun _ h => nomatch h))) (fun _ h => good_cut (t37_13 k _ _ r h)))) (fun _ h => good_cut (t37_13 k _ _ r h)))
theorem t37_8 : ∀ (k : Nat) (d : List Nat) (r : F), L37_8 k d = some r → Ends Tryz.prog Tryz.f37.results.toList (at_ Tryz.f37 8) (S37_8 d) (r)
  | 0, _, _, h => nomatch h
  | k + 1, d, r, h => by
    refine Ends.of_cut tyOK envS5_ok (T := [(10, [2, 4, 5, 6], 1000), (8, [2, 4], 1000), (13, [2, 5], 1000)]) (n := 200) ?_
    have e : runCut Tryz.prog (tiOf Tryz.prog) envS5 [(10, [2, 4, 5, 6], 1000), (8, [2, 4], 1000), (13, [2, 5], 1000)] 0 Tryz.f37.results.toList some 200 (at_ Tryz.f37 8) (S37_8 d) = T37_8 (fun r => some (.ret (r))) (fun d m g i => some (.cut (at_ Tryz.f37 10) (S37_10 d m g i))) (fun d => some (.cut (at_ Tryz.f37 8) (S37_8 d))) (fun m g => some (.cut (at_ Tryz.f37 13) (S37_13 m g))) d := by kernel_rfl
    rw [e]
    exact (good_sel h (fun _ h => good_cut (t37_10 k _ _ _ _ r h)) (fun _ h => nomatch h))
theorem t37_13 : ∀ (k : Nat) (m : Nat) (g : Nat → F) (r : F), L37_13 k m g = some r → Ends Tryz.prog Tryz.f37.results.toList (at_ Tryz.f37 13) (S37_13 m g) (r)
  | 0, _, _, _, h => nomatch h
  | k + 1, m, g, r, h => by
    refine Ends.of_cut tyOK envS5_ok (T := [(10, [2, 4, 5, 6], 1000), (8, [2, 4], 1000), (13, [2, 5], 1000)]) (n := 200) ?_
    have e : runCut Tryz.prog (tiOf Tryz.prog) envS5 [(10, [2, 4, 5, 6], 1000), (8, [2, 4], 1000), (13, [2, 5], 1000)] 0 Tryz.f37.results.toList some 200 (at_ Tryz.f37 13) (S37_13 m g) = T37_13 (fun r => some (.ret (r))) (fun d m g i => some (.cut (at_ Tryz.f37 10) (S37_10 d m g i))) (fun d => some (.cut (at_ Tryz.f37 8) (S37_8 d))) (fun m g => some (.cut (at_ Tryz.f37 13) (S37_13 m g))) m g := by kernel_rfl
    rw [e]
    exact (good_sel h (fun _ h => (good_sel h (fun _ h => (good_sel h (fun _ h => (good_sel h (fun _ h => (good_sel h (fun _ h => (good_sel h (fun _ h => (good_sel h (fun _ h => (good_sel h (fun _ h => (good_sel h (fun _ h => (good_sel h (fun _ h => (good_sel h (fun _ h => (good_sel h (fun _ h => (good_sel h (fun _ h => (good_sel h (fun _ h => (good_sel h (fun _ h => (good_sel h (fun _ h => (good_sel h (fun _ h => (good_sel h (fun _ h => (good_sel h (fun _ h => (good_sel h (fun _ h => (good_sel h (fun _ h => (good_sel h (fun _ h => (good_sel h (fun _ h => (good_sel h (fun _ h => (good_sel h (fun _ h => (good_sel h (fun _ h => (good_sel h (fun _ h => (good_sel h (fun _ h => (good_sel h (fun _ h => (good_sel h (fun _ h => (good_sel h (fun _ h => (good_sel h (fun _ h => (good_sel h (fun _ h => (good_sel h (fun _ h => (good_sel h (fun _ h => (good_sel h (fun _ h => (good_sel h (fun _ h => (good_sel h (fun _ h => (good_sel h (fun _ h => (good_sel h (fun _ h => (good_sel h (fun _ h => (good_sel h (fun _ h => (good_sel h (fun _ h => (good_sel h (fun _ h => (good_sel h (fun _ h => (good_sel h (fun _ h => (good_sel h (fun _ h => (good_sel h (fun _ h => good_ret (by cases h; rfl)) (fun _ h => nomatch h))) (fun _ h => nomatch h))) (fun _ h => nomatch h))) (fun _ h => nomatch h))) (fun _ h => nomatch h))) (fun _ h => nomatch h))) (fun _ h => nomatch h))) (fun _ h => nomatch h))) (fun _ h => nomatch h))) (fun _ h => nomatch h))) (fun _ h => nomatch h))) (fun _ h => nomatch h))) (fun _ h => nomatch h))) (fun _ h => nomatch h))) (fun _ h => nomatch h))) (fun _ h => nomatch h))) (fun _ h => nomatch h))) (fun _ h => nomatch h))) (fun _ h => nomatch h))) (fun _ h => nomatch h))) (fun _ h => nomatch h))) (fun _ h => nomatch h))) (fun _ h => nomatch h))) (fun _ h => nomatch h))) (fun _ h => nomatch h))) (fun _ h => nomatch h))) (fun _ h => nomatch h))) (fun _ h => nomatch h))) (fun _ h => nomatch h))) (fun _ h => nomatch h))) (fun _ h => nomatch h))) (fun _ h => nomatch h))) (fun _ h => nomatch h))) (fun _ h => nomatch h))) (fun _ h => nomatch h))) (fun _ h => nomatch h))) (fun _ h => nomatch h))) (fun _ h => nomatch h))) (fun _ h => nomatch h))) (fun _ h => nomatch h))) (fun _ h => nomatch h))) (fun _ h => nomatch h))) (fun _ h => nomatch h))) (fun _ h => nomatch h))) (fun _ h => nomatch h))) (fun _ h => nomatch h))) (fun _ h => nomatch h))) (fun _ h => nomatch h))
end
theorem t37 (k : Nat) (z : Int) (r : F) (h : G37 k z = some r) : Ends Tryz.prog Tryz.f37.results.toList [.code (bodyOf Tryz.f37)] (start Tryz.f37.ntmps ([l1nF z].map .f)) (r) := by
  refine Ends.of_run tyOK envS5_ok (T := [(10, [2, 4, 5, 6], 1000), (8, [2, 4], 1000), (13, [2, 5], 1000)]) (n := 200) ?_
  have e : run Tryz.prog (tiOf Tryz.prog) envS5 [(10, [2, 4, 5, 6], 1000), (8, [2, 4], 1000), (13, [2, 5], 1000)] 0 Tryz.f37.results.toList some 200 [.code (bodyOf Tryz.f37)] (start Tryz.f37.ntmps ([l1nF z].map .f)) = T37 (fun r => some (.ret (r))) (fun d m g i => some (.cut (at_ Tryz.f37 10) (S37_10 d m g i))) (fun d => some (.cut (at_ Tryz.f37 8) (S37_8 d))) (fun m g => some (.cut (at_ Tryz.f37 13) (S37_13 m g))) z := by kernel_rfl
  rw [e]
  exact (good_sel h (fun _ h => (good_sel h (fun _ h => (good_sel h (fun _ h => good_ret (by cases h; rfl)) (fun _ h => (good_sel h (fun _ h => good_cut (t37_8 k _ r h)) (fun _ h => nomatch h))))) (fun _ h => nomatch h))) (fun _ h => (good_sel h (fun _ h => (good_sel h (fun _ h => good_ret (by cases h; rfl)) (fun _ h => good_cut (t37_8 k _ r h)))) (fun _ h => nomatch h))))
theorem pair64 {a b : Nat} (ha : a < 4294967296) (hb : b < 4294967296) : F.int .u64 (bitsOp BinOp.or IntKind.u64 (IntKind.u64.wrap ((a : Int) * 2 ^ min (Int.toNat 32) IntKind.u64.bits)) (b : Int)) = u64F (a * 4294967296 + b) := by
  refine congrArg (F.int .u64) ?_
  rw [show min (Int.toNat 32) IntKind.u64.bits = 32 from rfl, wshl, show (2 : Nat) ^ 32 = 4294967296 from rfl, Nat.mod_eq_of_lt (show a * 4294967296 < 18446744073709551616 by omega)]
  have h := or_disj (i := 32) (a := a) (b := b) (by omega) hb (by show 4294967296 * a < 18446744073709551616; omega)
  rw [show (2 : Nat) ^ 32 = 4294967296 from rfl, Nat.mul_comm 4294967296 a] at h
  exact h
theorem wide3_end {m k : Nat} {g : Nat → F} {v : Nat → Nat} (hm : m = 8) (hv : ∀ j, v j < 4294967296) (hg : ∀ j, j < m → g j = u64F (v j)) :
    L37_13 (k + 1) m g = some (.tup [.agg [u64F (v 7 * 4294967296 + v 6), u64F (v 5 * 4294967296 + v 4), u64F (v 3 * 4294967296 + v 2), u64F (v 1 * 4294967296 + v 0)], .bool true]) := by
  subst hm
  rw [L37_13]
  unfold T37_13
  simp only [show Int.toNat 7 = 7 from rfl, show Int.toNat 6 = 6 from rfl, show Int.toNat 5 = 5 from rfl, show Int.toNat 4 = 4 from rfl, show Int.toNat 3 = 3 from rfl, show Int.toNat 2 = 2 from rfl, show Int.toNat 1 = 1 from rfl, Int.toNat_zero, Nat.zero_add, hg 0 (by omega), hg 1 (by omega), hg 2 (by omega), hg 3 (by omega), hg 4 (by omega), hg 5 (by omega), hg 6 (by omega), hg 7 (by omega), cell_of, intOf_u64, pair64 (hv 7) (hv 6), pair64 (hv 5) (hv 4), pair64 (hv 3) (hv 2), pair64 (hv 1) (hv 0)]
  rfl
theorem wide3_loop {d : List Nat} (od : okD 4294967296 d) : ∀ (c i k : Nat) (g : Nat → F), i + c = 8 → c + 2 < k → (∀ j, j < 8 → g j = u64F (if j < i then d.getD j 0 else 0)) →
    L37_10 k d 8 g i = some (.tup [.agg [u64F (d.getD 7 0 * 4294967296 + d.getD 6 0), u64F (d.getD 5 0 * 4294967296 + d.getD 4 0), u64F (d.getD 3 0 * 4294967296 + d.getD 2 0), u64F (d.getD 1 0 * 4294967296 + d.getD 0 0)], .bool true])
  | 0, i, k, g, hi, hk, hg => by
    obtain ⟨k, rfl⟩ : ∃ j, k = j + 2 := ⟨k - 2, by omega⟩
    rw [L37_10]
    unfold T37_10
    rw [decide_eq_false (show ¬ (i : Int) < 8 by omega), show (false == true) = false from rfl, bsel_false]
    exact wide3_end (v := fun j => d.getD j 0) rfl (fun j => getD_lt' (by omega) od j) fun j hj => by rw [hg j hj, if_pos (by omega)]
  | c + 1, i, k, g, hi, hk, hg => by
    obtain ⟨k, rfl⟩ : ∃ j, k = j + 2 := ⟨k - 2, by omega⟩
    rw [L37_10]
    unfold T37_10
    rw [decide_eq_true (show (i : Int) < 8 by omega), show (true == true) = true from rfl, bsel_true]
    by_cases hd : i < d.length
    · have hb := getD_lt od hd
      rw [decide_eq_true (show (i : Int) < d.length by omega), bsel_true, Int.toNat_natCast, Nat.zero_add, hg i (by omega), decide_eq_true (show (0 : Int) ≤ i by omega), decide_eq_true (show (i : Int) < ((8 : Nat) : Int) by omega), decide_eq_true (show i < 8 by omega), decide_eq_true (u64_cells _), isAgg_or, wrapu_lt (show d.getD i 0 < 18446744073709551616 by omega), wrapI (by omega) (by omega), show (i : Int) + 1 = ((i + 1 : Nat) : Int) by omega]
      simp only [bsel_true, decide_true]
      refine wide3_loop od c (i + 1) (k + 1) _ (by omega) (by omega) fun j hj => ?_
      by_cases hji : j = i
      · subst hji
        rw [if_pos rfl, if_pos (by omega)]
        rfl
      · rw [if_neg hji, hg j hj]
        by_cases hlt : j < i
        · rw [if_pos hlt, if_pos (by omega)]
        · rw [if_neg hlt, if_neg (by omega)]
    · rw [decide_eq_false (show ¬ (i : Int) < d.length by omega), bsel_false]
      exact wide3_end (v := fun j => d.getD j 0) rfl (fun j => getD_lt' (by omega) od j) fun j hj => by
        rw [hg j hj]
        by_cases hlt : j < i
        · rw [if_pos hlt]
        · rw [if_neg hlt, getD_beyond (by omega)]
theorem eight_words {f : Nat → Nat} {V : Nat} (h : ∀ p, f p = V / 4294967296 ^ p % 4294967296) : f 1 * 4294967296 + f 0 = V % 18446744073709551616 ∧ f 3 * 4294967296 + f 2 = V / 18446744073709551616 % 18446744073709551616 ∧ f 5 * 4294967296 + f 4 = V / 340282366920938463463374607431768211456 % 18446744073709551616 ∧ f 7 * 4294967296 + f 6 = V / 6277101735386680763835789423207666416102355444464034512896 % 18446744073709551616 := by
  have two : ∀ W : Nat, W / 4294967296 % 4294967296 * 4294967296 + W % 4294967296 = W % 18446744073709551616 := fun W => by omega
  have step : ∀ p, f (p + 1) * 4294967296 + f p = V / 4294967296 ^ p % 18446744073709551616 := fun p => by
    rw [h, h, Nat.pow_succ, ← Nat.div_div_eq_div_mul]
    exact two _
  have s0 := step 0
  rw [Nat.pow_zero, Nat.div_one] at s0
  exact ⟨s0, step 2, step 4, step 6⟩
theorem wide3_eight {d : List Nat} (od : okD 4294967296 d) {k : Nat} (hk : 20 ≤ k) :
    L37_8 k d = some (.tup [.agg [u64F (val 4294967296 d / 6277101735386680763835789423207666416102355444464034512896 % 18446744073709551616), u64F (val 4294967296 d / 340282366920938463463374607431768211456 % 18446744073709551616), u64F (val 4294967296 d / 18446744073709551616 % 18446744073709551616), u64F (val 4294967296 d % 18446744073709551616)], .bool true]) := by
  obtain ⟨k, rfl⟩ : ∃ j, k = j + 1 := ⟨k - 1, by omega⟩
  rw [L37_8]
  unfold T37_8
  have hlim : (8 : Int) * (((8 : Nat) : Int) + 1) ≤ ((limit : Nat) : Int) := by rw [limit_eq]; omega
  rw [decide_eq_true hlim, bsel_true]
  refine (wide3_loop od 8 0 k (fun _ => F.int .u64 0) (by omega) (by omega) fun j hj => rfl).trans ?_
  have h := fun p => digit_at (B := 4294967296) (by omega) d p od
  obtain ⟨w0, w1, w2, w3⟩ := eight_words h
  rw [w0, w1, w2, w3]
theorem wideZ_law {z : Int} (hz : z.natAbs < 4294967296 ^ 800) : G37 100 z = some (.tup [wideF z, .bool (isWide z)]) := by
  have t := isTrimH_digs hz
  have l1 : isHalves (halvesF (digs 4294967296 z.natAbs)) = true := isHalves_digs _
  have l2 : lenOk 1900 (halvesF (digs 4294967296 z.natAbs)) = true := lenOkH_digs hz (by omega)
  have ll := digsH_len hz
  clear hz
  have e256 : unHalves (resLeft [F.sl 1 (lget [F.int .u32 1]), F.int .i64 256]) = digs 4294967296 115792089237316195423570985008687907853269984665640564039457584007913129639936 := by
    have : val 4294967296 (unHalves (F.sl 1 (lget [F.int .u32 1]))) = 1 := rfl
    simp only [resLeft, this, Nat.one_mul, unHalves_digs]
    rfl
  have e255 : (2 : Nat) ^ 255 = 57896044618658097711785492504343953926634992332820282019728792003956564819968 := rfl
  unfold G37 T37
  simp only [t, l1, l2, e256, unHalves_digs, val_digsH, Bool.and_self, Bool.and_true, bsel_true]
  by_cases hn : z < 0
  · rw [decide_eq_true hn, bsel_true]
    by_cases hw : -57896044618658097711785492504343953926634992332820282019728792003956564819968 ≤ z
    · have ht : isWide z = true := isWide_iff.2 (by omega)
      rw [decide_eq_false (show ¬ ((z.natAbs : Int) - ((57896044618658097711785492504343953926634992332820282019728792003956564819968 : Nat) : Int)).sign > 0 from fun h => by have := Int.sign_pos_iff.1 h; omega), bsel_false]
      have hlong : (digs 4294967296 z.natAbs).length ≤ (digs 4294967296 115792089237316195423570985008687907853269984665640564039457584007913129639936).length := by
        rcases Nat.lt_or_ge (digs 4294967296 115792089237316195423570985008687907853269984665640564039457584007913129639936).length (digs 4294967296 z.natAbs).length with h1 | h1
        · have := val_longer (B := 4294967296) (by omega) (okD_digs (by omega) 115792089237316195423570985008687907853269984665640564039457584007913129639936) (trimD_digs (by omega) z.natAbs) h1
          rw [val_digsH, val_digsH] at this
          omega
        · exact h1
      have hv : val 4294967296 (subL 4294967296 (digs 4294967296 115792089237316195423570985008687907853269984665640564039457584007913129639936) (digs 4294967296 z.natAbs) 0) = 115792089237316195423570985008687907853269984665640564039457584007913129639936 - z.natAbs := by
        have := val_subL (B := 4294967296) (by omega) (digs 4294967296 115792089237316195423570985008687907853269984665640564039457584007913129639936) (digs 4294967296 z.natAbs) 0 (okD_digs (by omega) _) (okD_digs (by omega) _) (by omega) hlong (by rw [val_digsH, val_digsH]; omega)
        rw [val_digsH, val_digsH] at this
        omega
      rw [wide3_eight (okD_subL (by omega) _ _ _) (by omega), hv, ht]
      have e3 : u64F ((115792089237316195423570985008687907853269984665640564039457584007913129639936 - z.natAbs) / 6277101735386680763835789423207666416102355444464034512896 % 18446744073709551616) = .int .u64 (z / 6277101735386680763835789423207666416102355444464034512896 % 18446744073709551616) := congrArg (F.int .u64) (by omega)
      have e2 : u64F ((115792089237316195423570985008687907853269984665640564039457584007913129639936 - z.natAbs) / 340282366920938463463374607431768211456 % 18446744073709551616) = .int .u64 (z / 340282366920938463463374607431768211456 % 18446744073709551616) := congrArg (F.int .u64) (by omega)
      have e1 : u64F ((115792089237316195423570985008687907853269984665640564039457584007913129639936 - z.natAbs) / 18446744073709551616 % 18446744073709551616) = .int .u64 (z / 18446744073709551616 % 18446744073709551616) := congrArg (F.int .u64) (by omega)
      have e0 : u64F ((115792089237316195423570985008687907853269984665640564039457584007913129639936 - z.natAbs) % 18446744073709551616) = .int .u64 (z % 18446744073709551616) := congrArg (F.int .u64) (by omega)
      rw [e0, e1, e2, e3]
      simp only [wideF, wd3, wd2, wd1, wd0, ht, cond_true]
    · have hf : isWide z = false := by
        cases h : isWide z with
        | false => rfl
        | true => have := isWide_iff.1 h; exfalso; omega
      rw [decide_eq_true (show ((z.natAbs : Int) - ((57896044618658097711785492504343953926634992332820282019728792003956564819968 : Nat) : Int)).sign > 0 from Int.sign_pos_iff.2 (by omega)), bsel_true, hf, wide_none hf]
  · rw [decide_eq_false hn, bsel_false]
    have b0 := bitLen_le (n := z.natAbs) (j := 255)
    rw [e255] at b0
    by_cases hw : 255 < bitLen z.natAbs
    · have hf : isWide z = false := by
        cases h : isWide z with
        | false => rfl
        | true => have := isWide_iff.1 h; exfalso; omega
      rw [decide_eq_true (show ((bitLen z.natAbs : Nat) : Int) > 255 by omega), bsel_true, hf, wide_none hf]
    · have ht : isWide z = true := isWide_iff.2 (by omega)
      rw [decide_eq_false (show ¬ ((bitLen z.natAbs : Nat) : Int) > 255 by omega), bsel_false, wide3_eight (okD_digs (by omega) _) (by omega), val_digsH, ht]
      have e3 : u64F (z.natAbs / 6277101735386680763835789423207666416102355444464034512896 % 18446744073709551616) = .int .u64 (z / 6277101735386680763835789423207666416102355444464034512896 % 18446744073709551616) := congrArg (F.int .u64) (by omega)
      have e2 : u64F (z.natAbs / 340282366920938463463374607431768211456 % 18446744073709551616) = .int .u64 (z / 340282366920938463463374607431768211456 % 18446744073709551616) := congrArg (F.int .u64) (by omega)
      have e1 : u64F (z.natAbs / 18446744073709551616 % 18446744073709551616) = .int .u64 (z / 18446744073709551616 % 18446744073709551616) := congrArg (F.int .u64) (by omega)
      have e0 : u64F (z.natAbs % 18446744073709551616) = .int .u64 (z % 18446744073709551616) := congrArg (F.int .u64) (by omega)
      rw [e0, e1, e2, e3]
      simp only [wideF, wd3, wd2, wd1, wd0, ht, cond_true]
def resWideZ : List F → F | [x] => .tup [wideF (unL1n x), .bool (isWide (unL1n x))] | _ => .dflt
theorem okWideZ : PureOK Tryz.prog 37 (preL1 800) resWideZ :=
  fn_pure_at (c := bodyOf Tryz.f37) Tryz.func37 (by kernel_rfl) (by kernel_rfl) fun xs hp => match xs, hp with
  | [x], hp => ⟨[l1nF (unL1n x)], _, ⟨(l1n_eqv hp).1, trivial⟩, t37 100 _ _ (wideZ_law (natAbs_of_isL1n hp)), .refl _⟩
def envS6 : Env := envS5.add 37 (.pure (preL1 800) resWideZ)
theorem envS6_ok : EnvOK Tryz.prog envS6 := (Env.add_ok envS5_ok okWideZ.sp)
end
end Go.Proofs.YtdcooaopkbicfaaGreat.R
namespace Go.Proofs.YtdcooaopkbicfaaGreat.R
open Go
noncomputable section
def nU (px py : Int) (s : Sg) : Int := nearU s.x0 s.y0 s.x1 s.y1 px py
def nD (px py : Int) (s : Sg) : Int := nearD s.x0 s.y0 s.x1 s.y1 px py
theorem sq_nonneg (a : Int) : 0 ≤ a * a := by
  rcases Int.le_total 0 a with h | h
  · exact Int.mul_nonneg h h
  · exact Int.mul_nonneg_of_nonpos_of_nonpos h h
theorem long_nonneg (a b c d : Int) : 0 ≤ longZ a b c d := by
  unfold longZ
  have h1 := sq_nonneg (c - a)
  have h2 := sq_nonneg (d - b)
  omega
theorem long_bound {a b c d : Int} (h1 : spotIn a b) (h2 : spotIn c d) : longZ a b c d ≤ 8000000000000 := by
  unfold spotIn at h1 h2
  exact (dotW (a := c - a) (b := c - a) (c := d - b) (d := d - b) (by omega) (by omega) (by omega) (by omega)).2.2
theorem near_bounds {x0 y0 x1 y1 px py : Int} (h0 : spotIn x0 y0) (h1 : spotIn x1 y1) (h2 : spotIn px py) :
    0 ≤ nearU x0 y0 x1 y1 px py ∧ (nearU x0 y0 x1 y1 px py).natAbs < 18446744073709551616 ^ 2 ∧ 0 < nearD x0 y0 x1 y1 px py ∧ nearD x0 y0 x1 y1 px py ≤ 8000000000000 := by
  obtain ⟨_, c2, c3⟩ := crossW_eq h0 h1 h2
  have b1 := long_bound h0 h1
  have b2 := long_bound h1 h2
  have b3 := long_bound h0 h2
  have n2 := long_nonneg x1 y1 px py
  have n3 := long_nonneg x0 y0 px py
  unfold nearU nearD
  by_cases hc : 0 < alongZ x0 y0 x1 y1 px py ∧ alongZ x0 y0 x1 y1 px py < longZ x0 y0 x1 y1
  · rw [if_pos hc, if_pos hc]
    refine ⟨sq_nonneg _, ?_, by omega, by omega⟩
    have hb : (crossZ x0 y0 x1 y1 px py).natAbs < 18446744073709551616 ^ 1 := by rw [Nat.pow_one]; omega
    exact mul_bound hb hb
  · rw [if_neg hc, if_neg hc]
    split
    · exact ⟨n2, by omega, by omega, by omega⟩
    · exact ⟨n3, by omega, by omega, by omega⟩
def nearGo (px py : Int) : List Sg → Int → Int × Int × Int → Int × Int × Int
  | [], _, s => s
  | g :: r, i, (b, u, d) => nearGo px py r (i + 1) (if nU px py g * d - u * nD px py g < 0 then (i, nU px py g, nD px py g) else (b, u, d))
def nearAll (px py : Int) : List Sg → Int × Int × Int
  | [] => (0, 0, 1)
  | g :: r => nearGo px py r 1 (0, nU px py g, nD px py g)
def sgIn (s : Sg) : Prop := spotIn s.x0 s.y0 ∧ spotIn s.x1 s.y1
theorem sgOk_in {s : Sg} (h : sgOk s = true) : sgIn s := by
  unfold sgOk segOkV at h
  simp only [Bool.and_eq_true] at h
  exact ⟨spotOk_iff.1 h.1, spotOk_iff.1 h.2.1⟩
/-! ### function 22 -/
def S22_3z (l : List Sg) (px : Int) (py : Int) (n : Int) (i : Int) : St := ⟨[.bad, .bad, .bad, (U.hp 0 0), .bad, (U.hp 1 0), (U.f (F.int .i64 (-1))), (U.hp 2 0), .bad, .bad, .bad, .bad, (U.f (segsF l)), (U.f (F.int .i64 n)), (U.f (F.int .i64 i)), .bad, .bad, .bad, .bad, .bad, .bad, .bad, .bad, .bad, .bad, .bad, .bad, .bad, .bad, .bad, .bad, .bad, .bad, .bad, .bad], [HO.box [(U.f (F.int .i64 px)), (U.f (F.int .i64 py))], HO.box [(U.f (F.bool false)), U.nils, (U.f (F.bool false)), U.nils], HO.box [(U.f (F.bool false)), U.nils, (U.f (F.bool false)), U.nils]]⟩
def S22_3 (l : List Sg) (px : Int) (py : Int) (b : Int) (u : Int) (d : Int) (n : Int) (i : Int) : St := ⟨[.bad, .bad, .bad, (U.hp 0 0), .bad, (U.hp 1 0), (U.f (F.int .i64 b)), (U.hp 2 0), .bad, .bad, .bad, .bad, (U.f (segsF l)), (U.f (F.int .i64 n)), (U.f (F.int .i64 i)), .bad, .bad, .bad, .bad, .bad, .bad, .bad, .bad, .bad, .bad, .bad, .bad, .bad, .bad, .bad, .bad, .bad, .bad, .bad, .bad], [HO.box [(U.f (F.int .i64 px)), (U.f (F.int .i64 py))], HO.box [(U.f (F.bool false)), U.nils, (U.f (F.bool false)), U.nils], HO.box [(U.f (F.bool (decide (u < 0)))), (U.f (wordsF (digs 18446744073709551616 u.natAbs))), (U.f (F.bool (decide (d < 0)))), (U.f (wordsF (digs 18446744073709551616 d.natAbs)))]]⟩
def T22_3z {ρ : Type} (ret : (Int) → (F) → Option ρ) (c3z : (List Sg) → (Int) → (Int) → (Int) → (Int) → Option ρ) (c3 : (List Sg) → (Int) → (Int) → (Int) → (Int) → (Int) → (Int) → (Int) → Option ρ) (l : List Sg) (px : Int) (py : Int) (n : Int) (i : Int) : Option ρ :=
 (bsel (decide (i < n))
 (bsel (decide (0 ≤ i))
 (bsel (decide (i < (↑l.length : Int)))
 (bsel (isNearArg (l.getD i.toNat Sg.zero).x0 (l.getD i.toNat Sg.zero).y0 (l.getD i.toNat Sg.zero).x1 (l.getD i.toNat Sg.zero).y1 px py)
 (c3 (l) (px) (py) (i) (nearU (l.getD i.toNat Sg.zero).x0 (l.getD i.toNat Sg.zero).y0 (l.getD i.toNat Sg.zero).x1 (l.getD i.toNat Sg.zero).y1 px py) (nearD (l.getD i.toNat Sg.zero).x0 (l.getD i.toNat Sg.zero).y0 (l.getD i.toNat Sg.zero).x1 (l.getD i.toNat Sg.zero).y1 px py) (n) (IntKind.i64.wrap (i + 1)))
 none)
 none)
 none)
 (ret (-1) (F.agg [F.bool false, F.sl 0 fun x ↦ F.bool false, F.bool false, F.sl 0 fun x ↦ F.bool false])))
def T22_3 {ρ : Type} (ret : (Int) → (F) → Option ρ) (c3z : (List Sg) → (Int) → (Int) → (Int) → (Int) → Option ρ) (c3 : (List Sg) → (Int) → (Int) → (Int) → (Int) → (Int) → (Int) → (Int) → Option ρ) (l : List Sg) (px : Int) (py : Int) (b : Int) (u : Int) (d : Int) (n : Int) (i : Int) : Option ρ :=
 (bsel (decide (i < n))
 (bsel (decide (0 ≤ i))
 (bsel (decide (i < (↑l.length : Int)))
 (bsel (isNearArg (l.getD i.toNat Sg.zero).x0 (l.getD i.toNat Sg.zero).y0 (l.getD i.toNat Sg.zero).x1 (l.getD i.toNat Sg.zero).y1 px py)
 (bsel (decide (b < 0) == false)
 (bsel (isRat 180 (ratF (nearU (l.getD i.toNat Sg.zero).x0 (l.getD i.toNat Sg.zero).y0 (l.getD i.toNat Sg.zero).x1 (l.getD i.toNat Sg.zero).y1 px py) (nearD (l.getD i.toNat Sg.zero).x0 (l.getD i.toNat Sg.zero).y0 (l.getD i.toNat Sg.zero).x1 (l.getD i.toNat Sg.zero).y1 px py)) && isRat 180 (ratF u d))
 (bsel (decide ((unUp (ratF (nearU (l.getD i.toNat Sg.zero).x0 (l.getD i.toNat Sg.zero).y0 (l.getD i.toNat Sg.zero).x1 (l.getD i.toNat Sg.zero).y1 px py) (nearD (l.getD i.toNat Sg.zero).x0 (l.getD i.toNat Sg.zero).y0 (l.getD i.toNat Sg.zero).x1 (l.getD i.toNat Sg.zero).y1 px py)) * unDown (ratF u d) - unUp (ratF u d) * unDown (ratF (nearU (l.getD i.toNat Sg.zero).x0 (l.getD i.toNat Sg.zero).y0 (l.getD i.toNat Sg.zero).x1 (l.getD i.toNat Sg.zero).y1 px py) (nearD (l.getD i.toNat Sg.zero).x0 (l.getD i.toNat Sg.zero).y0 (l.getD i.toNat Sg.zero).x1 (l.getD i.toNat Sg.zero).y1 px py))).sign < 0))
 (c3 (l) (px) (py) (i) (nearU (l.getD i.toNat Sg.zero).x0 (l.getD i.toNat Sg.zero).y0 (l.getD i.toNat Sg.zero).x1 (l.getD i.toNat Sg.zero).y1 px py) (nearD (l.getD i.toNat Sg.zero).x0 (l.getD i.toNat Sg.zero).y0 (l.getD i.toNat Sg.zero).x1 (l.getD i.toNat Sg.zero).y1 px py) (n) (IntKind.i64.wrap (i + 1)))
 (c3 (l) (px) (py) (b) (u) (d) (n) (IntKind.i64.wrap (i + 1))))
 none)
 (c3 (l) (px) (py) (i) (nearU (l.getD i.toNat Sg.zero).x0 (l.getD i.toNat Sg.zero).y0 (l.getD i.toNat Sg.zero).x1 (l.getD i.toNat Sg.zero).y1 px py) (nearD (l.getD i.toNat Sg.zero).x0 (l.getD i.toNat Sg.zero).y0 (l.getD i.toNat Sg.zero).x1 (l.getD i.toNat Sg.zero).y1 px py) (n) (IntKind.i64.wrap (i + 1))))
 none)
 none)
 none)
 (ret (b) (ratF u d)))
mutual
def L22_3z : Nat → (List Sg) → (Int) → (Int) → (Int) → (Int) → Option ((Int) × (F))
  | 0, _, _, _, _, _ => none
  | k + 1, l, px, py, n, i => T22_3z (fun bi r => some (bi, r)) (L22_3z k) (L22_3 k) l px py n i
def L22_3 : Nat → (List Sg) → (Int) → (Int) → (Int) → (Int) → (Int) → (Int) → (Int) → Option ((Int) × (F))
  | 0, _, _, _, _, _, _, _, _ => none
  | k + 1, l, px, py, b, u, d, n, i => T22_3 (fun bi r => some (bi, r)) (L22_3z k) (L22_3 k) l px py b u d n i
end
def T22 {ρ : Type} (ret : (Int) → (F) → Option ρ) (c3z : (List Sg) → (Int) → (Int) → (Int) → (Int) → Option ρ) (c3 : (List Sg) → (Int) → (Int) → (Int) → (Int) → (Int) → (Int) → (Int) → Option ρ) (l : List Sg) (px : Int) (py : Int) : Option ρ :=
 (c3z (l) (px) (py) ((↑l.length : Int)) (0))
def G22 (k : Nat) (l : List Sg) (px : Int) (py : Int) : Option ((Int) × (F)) := T22 (fun bi r => some (bi, r)) (L22_3z k) (L22_3 k) l px py
mutual
theorem t22_3z : ∀ (k : Nat) (l : List Sg) (px : Int) (py : Int) (n : Int) (i : Int) (bi : Int) (r : F), L22_3z k l px py n i = some (bi, r) → Ends Tryz.prog Tryz.f22.results.toList (at_ Tryz.f22 3) (S22_3z l px py n i) (F.tup [F.int .i64 bi, r])
  | 0, _, _, _, _, _, _, _, h => nomatch h
  | k + 1, l, px, py, n, i, bi, r, h => by
    refine Ends.of_cut tyOK envN18_ok (T := [(3, [3, 5, 6, 7, 12, 13, 14], 1000)]) (n := 200) ?_
    have e : runCut Tryz.prog (tiOf Tryz.prog) envN18 [(3, [3, 5, 6, 7, 12, 13, 14], 1000)] 0 Tryz.f22.results.toList some 200 (at_ Tryz.f22 3) (S22_3z l px py n i) = T22_3z (fun bi r => some (.ret (F.tup [F.int .i64 bi, r]))) (fun l px py n i => some (.cut (at_ Tryz.f22 3) (S22_3z l px py n i))) (fun l px py b u d n i => some (.cut (at_ Tryz.f22 3) (S22_3 l px py b u d n i))) l px py n i := by kernel_rfl
    rw [e]
    exact (good_sel h (fun _ h => (good_sel h (fun _ h => (good_sel h (fun _ h => (good_sel h (fun _ h => good_cut (t22_3 k _ _ _ _ _ _ _ _ bi r h)) (fun _ h => nomatch h))) (fun _ h => nomatch h))) (fun _ h => nomatch h))) (fun _ h => good_ret (by cases h; rfl)))
theorem t22_3 : ∀ (k : Nat) (l : List Sg) (px : Int) (py : Int) (b : Int) (u : Int) (d : Int) (n : Int) (i : Int) (bi : Int) (r : F), L22_3 k l px py b u d n i = some (bi, r) → Ends Tryz.prog Tryz.f22.results.toList (at_ Tryz.f22 3) (S22_3 l px py b u d n i) (F.tup [F.int .i64 bi, r])
  | 0, _, _, _, _, _, _, _, _, _, _, h => nomatch h
  | k + 1, l, px, py, b, u, d, n, i, bi, r, h => by
    refine Ends.of_cut tyOK envN18_ok (T := [(3, [3, 5, 6, 7, 12, 13, 14], 1000)]) (n := 200) ?_
    have e : runCut Tryz.prog (tiOf Tryz.prog) envN18 [(3, [3, 5, 6, 7, 12, 13, 14], 1000)] 0 Tryz.f22.results.toList some 200 (at_ Tryz.f22 3) (S22_3 l px py b u d n i) = T22_3 (fun bi r => some (.ret (F.tup [F.int .i64 bi, r]))) (fun l px py n i => some (.cut (at_ Tryz.f22 3) (S22_3z l px py n i))) (fun l px py b u d n i => some (.cut (at_ Tryz.f22 3) (S22_3 l px py b u d n i))) l px py b u d n i := by kernel_rfl
    rw [e]
    exact (good_sel h (fun _ h => (good_sel h (fun _ h => (good_sel h (fun _ h => (good_sel h (fun _ h => (good_sel h (fun _ h => (good_sel h (fun _ h => (good_sel h (fun _ h => good_cut (t22_3 k _ _ _ _ _ _ _ _ bi r h)) (fun _ h => good_cut (t22_3 k _ _ _ _ _ _ _ _ bi r h)))) (fun _ h => nomatch h))) (fun _ h => good_cut (t22_3 k _ _ _ _ _ _ _ _ bi r h)))) (fun _ h => nomatch h))) (fun _ h => nomatch h))) (fun _ h => nomatch h))) (fun _ h => good_ret (by cases h; rfl)))
end
theorem t22 (k : Nat) (l : List Sg) (px : Int) (py : Int) (bi : Int) (r : F) (h : G22 k l px py = some (bi, r)) : Ends Tryz.prog Tryz.f22.results.toList [.code (bodyOf Tryz.f22)] (start Tryz.f22.ntmps ([segsF l, F.agg [F.int .i64 px, F.int .i64 py]].map .f)) (F.tup [F.int .i64 bi, r]) := by
  refine Ends.of_run tyOK envN18_ok (T := [(3, [3, 5, 6, 7, 12, 13, 14], 1000)]) (n := 200) ?_
  have e : run Tryz.prog (tiOf Tryz.prog) envN18 [(3, [3, 5, 6, 7, 12, 13, 14], 1000)] 0 Tryz.f22.results.toList some 200 [.code (bodyOf Tryz.f22)] (start Tryz.f22.ntmps ([segsF l, F.agg [F.int .i64 px, F.int .i64 py]].map .f)) = T22 (fun bi r => some (.ret (F.tup [F.int .i64 bi, r]))) (fun l px py n i => some (.cut (at_ Tryz.f22 3) (S22_3z l px py n i))) (fun l px py b u d n i => some (.cut (at_ Tryz.f22 3) (S22_3 l px py b u d n i))) l px py := by kernel_rfl
  rw [e]
  exact good_cut (t22_3z k _ _ _ _ _ bi r h)
theorem drop_consS {a : List Sg} {x : Sg} {rest : List Sg} {i : Nat} (h : a.drop i = x :: rest) : a.getD i Sg.zero = x ∧ a.drop (i + 1) = rest ∧ i < a.length := by
  have hi : i < a.length := by
    rcases Nat.lt_or_ge i a.length with h1 | h1
    · exact h1
    · rw [List.drop_eq_nil_of_le h1] at h; cases h
  rw [List.drop_eq_getElem_cons hi] at h
  injection h with h1 h2
  exact ⟨by simp [List.getD, List.getElem?_eq_getElem hi, h1], h2, hi⟩
structure NearOk (s : Int × Int × Int) : Prop where
  idx : 0 ≤ s.1
  up0 : 0 ≤ s.2.1
  up : s.2.1.natAbs < 18446744073709551616 ^ 2
  down : 0 < s.2.2 ∧ s.2.2 ≤ 8000000000000
theorem nearOk_of {px py : Int} {g : Sg} (hg : sgIn g) (hp : spotIn px py) {i : Int} (hi : 0 ≤ i) : NearOk (i, nU px py g, nD px py g) := by
  obtain ⟨h1, h2, h3, h4⟩ := near_bounds hg.1 hg.2 hp
  exact ⟨hi, h1, h2, h3, h4⟩
theorem isRat_near {u d : Int} (hu : u.natAbs < 18446744073709551616 ^ 2) (hd : 0 < d ∧ d ≤ 8000000000000) : isRat 180 (ratF u d) = true :=
  isRat_ratF (bound_up hu (by omega)) (bound_up (n := 1) (by rw [Nat.pow_one]; omega) (by omega))
theorem nearest_loop {l : List Sg} {px py : Int} (hl : l.length ≤ 1000) (hin : ∀ s ∈ l, sgIn s) (hp : spotIn px py) : ∀ (rest : List Sg) (i k : Nat) (s : Int × Int × Int), l.drop i = rest → i + rest.length = l.length → NearOk s → rest.length < k →
    L22_3 k l px py s.1 s.2.1 s.2.2 l.length i = some ((nearGo px py rest i s).1, ratF (nearGo px py rest i s).2.1 (nearGo px py rest i s).2.2)
  | _, _, 0, _, _, _, _, h => by omega
  | [], i, k + 1, (b, u, d), hr, hi, hs, hk => by
    simp only [List.length_nil, Nat.add_zero] at hi
    subst hi
    rw [L22_3]
    unfold T22_3
    rw [decide_eq_false (by omega), bsel_false]
    rfl
  | g :: rest, i, k + 1, (b, u, d), hr, hi, hs, hk => by
    obtain ⟨hx, hr', hlt⟩ := drop_consS hr
    have hg : sgIn g := hin g (by rw [← hx]; simp [List.getD, List.getElem?_eq_getElem hlt])
    have hn := nearOk_of hg hp (show (0 : Int) ≤ (i : Int) by omega)
    have hk' : rest.length < k := by simp at hk; omega
    have hi' : i + 1 + rest.length = l.length := by simp only [List.length_cons] at hi; omega
    rw [L22_3]
    unfold T22_3
    rw [Int.toNat_natCast, hx]
    rw [show nearU g.x0 g.y0 g.x1 g.y1 px py = nU px py g from rfl, show nearD g.x0 g.y0 g.x1 g.y1 px py = nD px py g from rfl]
    rw [isNearArg_iff.2 ⟨hg.1, hg.2, hp⟩, isRat_near hn.up hn.down, isRat_near hs.up hs.down, unUp_ratF, unUp_ratF, unDown_ratF, unDown_ratF]
    rw [decide_eq_true (show (i : Int) < l.length by omega), decide_eq_true (show (0 : Int) ≤ i by omega), decide_eq_false (show ¬ b < 0 by have := hs.idx; simp at this; omega), show (false == false) = true from rfl, Bool.and_self, wrapI (by omega) (by omega), show (i : Int) + 1 = ((i + 1 : Nat) : Int) by omega]
    simp only [bsel_true, nearGo]
    by_cases hc : nU px py g * d - u * nD px py g < 0
    · rw [decide_eq_true (show (nU px py g * d - u * nD px py g).sign < 0 by rw [Int.sign_eq_neg_one_of_neg hc]; omega), bsel_true, if_pos hc]
      exact nearest_loop hl hin hp rest (i + 1) k (i, nU px py g, nD px py g) hr' hi' hn hk'
    · have : ¬ (nU px py g * d - u * nD px py g).sign < 0 := by
        rw [Int.sign_neg_iff]; exact hc
      rw [decide_eq_false this, bsel_false, if_neg hc]
      exact nearest_loop hl hin hp rest (i + 1) k (b, u, d) hr' hi' hs hk'
theorem nearest_law {l : List Sg} {px py : Int} (h0 : l ≠ []) (hl : l.length ≤ 1000) (hin : ∀ s ∈ l, sgIn s) (hp : spotIn px py) :
    G22 2000 l px py = some ((nearAll px py l).1, ratF (nearAll px py l).2.1 (nearAll px py l).2.2) := by
  cases l with
  | nil => exact absurd rfl h0
  | cons g rest =>
    have hg : sgIn g := hin g (by simp)
    have hn := nearOk_of (px := px) (py := py) hg hp (show (0 : Int) ≤ 0 by omega)
    unfold G22 T22
    rw [L22_3z]
    unfold T22_3z
    rw [show (0 : Int).toNat = 0 from rfl, List.getD_cons_zero]
    rw [isNearArg_iff.2 ⟨hg.1, hg.2, hp⟩, decide_eq_true (show (0 : Int) < (g :: rest).length by simp), decide_eq_true (show (0 : Int) ≤ 0 by omega), wrapI (by omega) (by omega)]
    simp only [bsel_true]
    exact nearest_loop hl hin hp rest 1 1999 (0, nU px py g, nD px py g) rfl (by simp; omega) hn (by simp at hl; omega)
def isNearest (l : List Sg) (px py : Int) : Bool := segsOkV l && (spotOkV px py && !(Nat.beq l.length 0))
theorem isNearest_iff {l : List Sg} {px py : Int} (h : isNearest l px py = true) : l ≠ [] ∧ l.length ≤ 40 ∧ (∀ s ∈ l, sgIn s) ∧ spotIn px py := by
  simp only [isNearest, Bool.and_eq_true, Bool.not_eq_true'] at h
  obtain ⟨h1, h2, h3⟩ := h
  obtain ⟨k1, k2⟩ := segsOk_iff.1 h1
  exact ⟨fun e => (by subst e; cases h3), k1, fun s hs => sgOk_in (k2 s hs), spotOk_iff.1 h2⟩
def preNearest : List F → Bool | [x, .agg [.int .i64 a, .int .i64 b]] => isSegs x && isNearest (unSegs x) a b | _ => false
def resNearest : List F → F | [x, .agg [.int .i64 a, .int .i64 b]] => .tup [.int .i64 (nearAll a b (unSegs x)).1, ratF (nearAll a b (unSegs x)).2.1 (nearAll a b (unSegs x)).2.2] | _ => .dflt
theorem okNearest : PureOK Tryz.prog 22 preNearest resNearest :=
  fn_pure_at (c := bodyOf Tryz.f22) Tryz.func22 (by kernel_rfl) (by kernel_rfl) fun xs hp => match xs, hp with
  | [x, .agg [.int .i64 a, .int .i64 b]], hp => by
    simp only [preNearest, Bool.and_eq_true] at hp
    obtain ⟨h1, h2, h3, h4⟩ := isNearest_iff hp.2
    exact ⟨[segsF (unSegs x), _], _, ⟨(segs_eqv hp.1).1, .refl _, trivial⟩, t22 2000 _ _ _ _ _ (nearest_law h1 (by omega) h3 h4), .refl _⟩
theorem nearGo_ok {px py : Int} (hp : spotIn px py) : ∀ (l : List Sg) (i : Int) (s : Int × Int × Int), (∀ g ∈ l, sgIn g) → 0 ≤ i → NearOk s → NearOk (nearGo px py l i s)
  | [], _, _, _, _, hs => hs
  | g :: l, i, (b, u, d), hin, hi, hs => by
    simp only [nearGo]
    refine nearGo_ok hp l (i + 1) _ (fun g hg => hin g (by simp [hg])) (by omega) ?_
    split
    · exact nearOk_of (hin g (by simp)) hp hi
    · exact hs
theorem nearAll_ok {px py : Int} (hp : spotIn px py) {l : List Sg} (h0 : l ≠ []) (hin : ∀ g ∈ l, sgIn g) : NearOk (nearAll px py l) := by
  cases l with
  | nil => exact absurd rfl h0
  | cons g r => exact nearGo_ok hp r 1 _ (fun g hg => hin g (by simp [hg])) (by omega) (nearOk_of (hin g (by simp)) hp (by omega))
/-! ### function 23 -/
def T23 {ρ : Type} (ret : (F) → Option ρ) (u : Int) (d : Int) : Option ρ :=
 (bsel (isNum 400 (numF d))
 (bsel ((unNum (numF d)).sign == 0)
 (ret (F.tup [F.agg [F.int .u64 0, F.int .u64 0, F.int .u64 0, F.int .u64 0, F.int .u64 0, F.int .u64 0, F.int .u64 0, F.int .u64 0], F.bool false]))
 (bsel (isRat 180 (ratF u d) && isLow (unUp (ratF u d)) (unDown (ratF u d)))
 (bsel (isNum 399 (numF (unUp (ratF u d) / gcdI (unUp (ratF u d)) (unDown (ratF u d)))))
 (bsel (isNum 399 (numF (unDown (ratF u d) / gcdI (unUp (ratF u d)) (unDown (ratF u d)))))
 (bsel ((!isWide (unNum (numF (unUp (ratF u d) / gcdI (unUp (ratF u d)) (unDown (ratF u d)))))) == false)
 (bsel (!isWide (unNum (numF (unDown (ratF u d) / gcdI (unUp (ratF u d)) (unDown (ratF u d))))))
 (ret (F.tup [F.agg [F.int .u64 0, F.int .u64 0, F.int .u64 0, F.int .u64 0, F.int .u64 0, F.int .u64 0, F.int .u64 0, F.int .u64 0], F.bool false]))
 (ret (F.tup [F.agg [F.int .u64 (wd3 (unNum (numF (unUp (ratF u d) / gcdI (unUp (ratF u d)) (unDown (ratF u d)))))), F.int .u64 (wd2 (unNum (numF (unUp (ratF u d) / gcdI (unUp (ratF u d)) (unDown (ratF u d)))))), F.int .u64 (wd1 (unNum (numF (unUp (ratF u d) / gcdI (unUp (ratF u d)) (unDown (ratF u d)))))), F.int .u64 (wd0 (unNum (numF (unUp (ratF u d) / gcdI (unUp (ratF u d)) (unDown (ratF u d)))))), F.int .u64 (wd3 (unNum (numF (unDown (ratF u d) / gcdI (unUp (ratF u d)) (unDown (ratF u d)))))), F.int .u64 (wd2 (unNum (numF (unDown (ratF u d) / gcdI (unUp (ratF u d)) (unDown (ratF u d)))))), F.int .u64 (wd1 (unNum (numF (unDown (ratF u d) / gcdI (unUp (ratF u d)) (unDown (ratF u d)))))), F.int .u64 (wd0 (unNum (numF (unDown (ratF u d) / gcdI (unUp (ratF u d)) (unDown (ratF u d))))))], F.bool true])))
 (ret (F.tup [F.agg [F.int .u64 0, F.int .u64 0, F.int .u64 0, F.int .u64 0, F.int .u64 0, F.int .u64 0, F.int .u64 0, F.int .u64 0], F.bool false])))
 none)
 none)
 none))
 none)
def G23 (u : Int) (d : Int) : Option (F) := T23 some u d
theorem t23 (u : Int) (d : Int) (r : F) (h : G23 u d = some r) : Ends Tryz.prog Tryz.f23.results.toList [.code (bodyOf Tryz.f23)] (start Tryz.f23.ntmps ([ratF u d].map .f)) (r) := by
  refine Ends.of_run tyOK envN18_ok (T := []) (n := 200) ?_
  have e : run Tryz.prog (tiOf Tryz.prog) envN18 [] 0 Tryz.f23.results.toList some 200 [.code (bodyOf Tryz.f23)] (start Tryz.f23.ntmps ([ratF u d].map .f)) = T23 (fun r => some (.ret (r))) u d := by kernel_rfl
  rw [e]
  exact (good_sel h (fun _ h => (good_sel h (fun _ h => good_ret (by cases h; rfl)) (fun _ h => (good_sel h (fun _ h => (good_sel h (fun _ h => (good_sel h (fun _ h => (good_sel h (fun _ h => (good_sel h (fun _ h => good_ret (by cases h; rfl)) (fun _ h => good_ret (by cases h; rfl)))) (fun _ h => good_ret (by cases h; rfl)))) (fun _ h => nomatch h))) (fun _ h => nomatch h))) (fun _ h => nomatch h))))) (fun _ h => nomatch h))
def okT (u d : Int) : Bool := isWide u && isWide d
def toldF (u d : Int) : F := .agg [.int .u64 (bif okT u d then wd3 u else 0), .int .u64 (bif okT u d then wd2 u else 0), .int .u64 (bif okT u d then wd1 u else 0), .int .u64 (bif okT u d then wd0 u else 0),
  .int .u64 (bif okT u d then wd3 d else 0), .int .u64 (bif okT u d then wd2 d else 0), .int .u64 (bif okT u d then wd1 d else 0), .int .u64 (bif okT u d then wd0 d else 0)]
theorem told_law {u d : Int} (hu : u.natAbs < 18446744073709551616 ^ 180) (hd : 0 < d) (hd2 : d < 18446744073709551616) : G23 u d = some (.tup [toldF (u / gcdI u d) (d / gcdI u d), .bool (okT (u / gcdI u d) (d / gcdI u d))]) := by
  have hdB : d.natAbs < 18446744073709551616 ^ 1 := by rw [Nat.pow_one]; omega
  obtain ⟨g1, g2⟩ := gcdI_pos (u := u) hd
  have q : ∀ x : Int, (x / gcdI u d).natAbs ≤ x.natAbs := fun x => by
    rcases Int.le_total 0 x with hx | hx
    · have h1 := Int.ediv_nonneg hx (show 0 ≤ gcdI u d by omega)
      have h2 := Int.ediv_le_self (gcdI u d) hx
      omega
    · exact Int.natAbs_ediv_le_natAbs x (gcdI u d)
  have e1 : isNum 400 (numF d) = true := isNum_numF (bound_up hdB (by omega))
  have e2 : isRat 180 (ratF u d) = true := isRat_ratF hu (bound_up hdB (by omega))
  have e3 : isLow u d = true := isLow_iff.2 ⟨hd, hd2⟩
  have e4 : isNum 399 (numF (u / gcdI u d)) = true := isNum_numF (bound_up (n := 180) (Nat.lt_of_le_of_lt (q u) hu) (by omega))
  have e5 : isNum 399 (numF (d / gcdI u d)) = true := isNum_numF (bound_up (n := 1) (Nat.lt_of_le_of_lt (q d) hdB) (by omega))
  have e6 : (d.sign == 0) = false := by rw [Int.sign_eq_one_of_pos hd]; rfl
  unfold G23 T23
  simp only [e1, e2, e3, e4, e5, e6, unUp_ratF, unDown_ratF, unNum_numF, Bool.and_self, bsel_true, bsel_false]
  unfold toldF okT
  cases h1 : isWide (u / gcdI u d) <;> cases h2 : isWide (d / gcdI u d) <;> rfl
def resTold : List F → F | [x] => .tup [toldF (unUp x / gcdI (unUp x) (unDown x)) (unDown x / gcdI (unUp x) (unDown x)), .bool (okT (unUp x / gcdI (unUp x) (unDown x)) (unDown x / gcdI (unUp x) (unDown x)))] | _ => .dflt
theorem okTold : PureOK Tryz.prog 23 preLow resTold :=
  fn_pure_at (c := bodyOf Tryz.f23) Tryz.func23 (by kernel_rfl) (by kernel_rfl) fun xs hp => match xs, hp with
  | [x], hp => by
    simp only [preLow, Bool.and_eq_true] at hp
    obtain ⟨h1, h2⟩ := isLow_iff.1 hp.2
    exact ⟨[ratF (unUp x) (unDown x)], _, ⟨(rat_eqv hp.1).1, trivial⟩, t23 _ _ _ (told_law (rat_bound hp.1).1 h1 h2), .refl _⟩
def envN19 : Env := (envN18.add 22 (.pure preNearest resNearest)).add 23 (.pure preLow resTold)
theorem envN19_ok : EnvOK Tryz.prog envN19 := (Env.add_ok (Env.add_ok envN18_ok okNearest.sp) okTold.sp)
end
end Go.Proofs.YtdcooaopkbicfaaGreat.R
namespace Go.Proofs.YtdcooaopkbicfaaGreat.R
open Go
noncomputable section
def isL2r (n : Nat) : F → Bool | .agg [a, b, c, d] => isL1n n (.agg [a, b]) && isL1n n (.agg [c, d]) | _ => false
def unUp3 : F → Int | .agg [a, b, _, _] => unL1n (.agg [a, b]) | _ => 0
def unDown3 : F → Int | .agg [_, _, c, d] => unL1n (.agg [c, d]) | _ => 0
theorem unUp3_l2rF (u d : Int) : unUp3 (l2rF u d) = u := unL1n_l1nF u
theorem unDown3_l2rF (u d : Int) : unDown3 (l2rF u d) = d := unL1n_l1nF d
theorem isL2r_l2rF {n : Nat} {u d : Int} (hu : u.natAbs < 4294967296 ^ n) (hd : d.natAbs < 4294967296 ^ n) : isL2r n (l2rF u d) = true := by
  have h1 := isL1n_l1nF hu
  have h2 := isL1n_l1nF hd
  unfold l1nF at h1 h2
  simp only [isL2r, l2rF, h1, h2, Bool.and_self]
theorem l2r_eqv {n : Nat} {x : F} (h : isL2r n x = true) : FLe x (l2rF (unUp3 x) (unDown3 x)) ∧ FLe (l2rF (unUp3 x) (unDown3 x)) x := by
  unfold isL2r at h
  split at h
  · rename_i a b c d
    rw [Bool.and_eq_true] at h
    obtain ⟨s, y, e1, hy, f1⟩ := l1n_form h.1
    obtain ⟨t, z, e2, hz, f2⟩ := l1n_form h.2
    cases e1; cases e2
    have g : l2rF (unUp3 (.agg [.bool s, b, .bool t, d])) (unDown3 (.agg [.bool s, b, .bool t, d])) = .agg [.bool s, halvesF (unHalves b), .bool t, halvesF (unHalves d)] := by
      unfold l1nF at f1 f2
      injection f1 with f1
      injection f2 with f2
      simp only [List.cons.injEq, and_true] at f1 f2
      show F.agg [_, _, _, _] = _
      rw [show unUp3 (.agg [.bool s, b, .bool t, d]) = unL1n (.agg [.bool s, b]) from rfl, show unDown3 (.agg [.bool s, b, .bool t, d]) = unL1n (.agg [.bool t, d]) from rfl, f1.1, f1.2, f2.1, f2.2]
    rw [g]
    exact ⟨FLe.agg ⟨.refl _, (halves_eqv hy).1, .refl _, (halves_eqv hz).1, trivial⟩, FLe.agg ⟨.refl _, (halves_eqv hy).2, .refl _, (halves_eqv hz).2, trivial⟩⟩
  · cases h
theorem l2r_bound {n : Nat} {x : F} (h : isL2r n x = true) : (unUp3 x).natAbs < 4294967296 ^ n ∧ (unDown3 x).natAbs < 4294967296 ^ n := by
  unfold isL2r at h
  split at h
  · rw [Bool.and_eq_true] at h
    exact ⟨natAbs_of_isL1n h.1, natAbs_of_isL1n h.2⟩
  · cases h
/-! ### function 34 -/
def T34 {ρ : Type} (ret : (F) → Option ρ) (u : Int) (d : Int) : Option ρ :=
 (bsel (decide (d < 0))
 (bsel (isL1n 800 (l1nF u))
 (bsel (isL1n 800 (l1nF d))
 (bsel (isL1n 699 (l1nF (-unL1n (l1nF u))) && isL1n 699 (l1nF (-unL1n (l1nF d))))
 (bsel (isL1n 800 (l1nF (gcdI (unL1n (l1nF (-unL1n (l1nF u)))) (unL1n (l1nF (-unL1n (l1nF d)))))) && true)
 (bsel ((unL1n (l1nF (gcdI (unL1n (l1nF (-unL1n (l1nF u)))) (unL1n (l1nF (-unL1n (l1nF d)))))) - unL1n (resInt3 [F.int .i64 1])).sign != 0)
 (bsel (isL1n 699 (l1nF (-unL1n (l1nF u))) && isL1n 699 (l1nF (gcdI (unL1n (l1nF (-unL1n (l1nF u)))) (unL1n (l1nF (-unL1n (l1nF d)))))) && isDivZ (unL1n (l1nF (gcdI (unL1n (l1nF (-unL1n (l1nF u)))) (unL1n (l1nF (-unL1n (l1nF d))))))))
 (bsel (isL1n 699 (l1nF (-unL1n (l1nF d))) && isL1n 699 (l1nF (gcdI (unL1n (l1nF (-unL1n (l1nF u)))) (unL1n (l1nF (-unL1n (l1nF d)))))) && isDivZ (unL1n (l1nF (gcdI (unL1n (l1nF (-unL1n (l1nF u)))) (unL1n (l1nF (-unL1n (l1nF d))))))))
 (ret (l2rF (unL1n (l1nF (-unL1n (l1nF u))) / unL1n (l1nF (gcdI (unL1n (l1nF (-unL1n (l1nF u)))) (unL1n (l1nF (-unL1n (l1nF d))))))) (unL1n (l1nF (-unL1n (l1nF d))) / unL1n (l1nF (gcdI (unL1n (l1nF (-unL1n (l1nF u)))) (unL1n (l1nF (-unL1n (l1nF d)))))))))
 none)
 none)
 (ret (l2rF (-unL1n (l1nF u)) (-unL1n (l1nF d)))))
 none)
 none)
 none)
 none)
 (bsel (isL1n 699 (l1nF u) && isL1n 699 (l1nF d))
 (bsel (isL1n 800 (l1nF (gcdI (unL1n (l1nF u)) (unL1n (l1nF d)))) && true)
 (bsel ((unL1n (l1nF (gcdI (unL1n (l1nF u)) (unL1n (l1nF d)))) - unL1n (resInt3 [F.int .i64 1])).sign != 0)
 (bsel (isL1n 699 (l1nF u) && isL1n 699 (l1nF (gcdI (unL1n (l1nF u)) (unL1n (l1nF d)))) && isDivZ (unL1n (l1nF (gcdI (unL1n (l1nF u)) (unL1n (l1nF d))))))
 (bsel (isL1n 699 (l1nF d) && isL1n 699 (l1nF (gcdI (unL1n (l1nF u)) (unL1n (l1nF d)))) && isDivZ (unL1n (l1nF (gcdI (unL1n (l1nF u)) (unL1n (l1nF d))))))
 (ret (l2rF (unL1n (l1nF u) / unL1n (l1nF (gcdI (unL1n (l1nF u)) (unL1n (l1nF d))))) (unL1n (l1nF d) / unL1n (l1nF (gcdI (unL1n (l1nF u)) (unL1n (l1nF d)))))))
 none)
 none)
 (ret (l2rF u d)))
 none)
 none))
def G34 (u : Int) (d : Int) : Option (F) := T34 some u d
theorem t34 (u : Int) (d : Int) (r : F) (h : G34 u d = some r) : Ends Tryz.prog Tryz.f34.results.toList [.code (bodyOf Tryz.f34)] (start Tryz.f34.ntmps ([l1nF u, l1nF d].map .f)) (r) := by
  refine Ends.of_run tyOK envS6_ok (T := []) (n := 200) ?_
  have e : run Tryz.prog (tiOf Tryz.prog) envS6 [] 0 Tryz.f34.results.toList some 200 [.code (bodyOf Tryz.f34)] (start Tryz.f34.ntmps ([l1nF u, l1nF d].map .f)) = T34 (fun r => some (.ret (r))) u d := by kernel_rfl
  rw [e]
  exact (good_sel h (fun _ h => (good_sel h (fun _ h => (good_sel h (fun _ h => (good_sel h (fun _ h => (good_sel h (fun _ h => (good_sel h (fun _ h => (good_sel h (fun _ h => (good_sel h (fun _ h => good_ret (by cases h; rfl)) (fun _ h => nomatch h))) (fun _ h => nomatch h))) (fun _ h => good_ret (by cases h; rfl)))) (fun _ h => nomatch h))) (fun _ h => nomatch h))) (fun _ h => nomatch h))) (fun _ h => nomatch h))) (fun _ h => (good_sel h (fun _ h => (good_sel h (fun _ h => (good_sel h (fun _ h => (good_sel h (fun _ h => (good_sel h (fun _ h => good_ret (by cases h; rfl)) (fun _ h => nomatch h))) (fun _ h => nomatch h))) (fun _ h => good_ret (by cases h; rfl)))) (fun _ h => nomatch h))) (fun _ h => nomatch h))))
theorem gcd_one_div {u d : Int} (h : ¬ (gcdI u d - 1).sign ≠ 0) : u / gcdI u d = u ∧ d / gcdI u d = d := by
  have h1 : gcdI u d = 1 := by
    have := Int.sign_eq_zero_iff_zero.1 (Classical.byContradiction h)
    omega
  rw [h1]
  exact ⟨Int.ediv_one u, Int.ediv_one d⟩
theorem make3_law {u d : Int} (hu : u.natAbs < 4294967296 ^ 699) (hd : 0 < d) (hdb : d.natAbs < 4294967296 ^ 699) : G34 u d = some (l2rF (u / gcdI u d) (d / gcdI u d)) := by
  obtain ⟨g1, g2⟩ := gcdI_pos (u := u) hd
  have hg : (gcdI u d).natAbs < 4294967296 ^ 699 := Nat.lt_of_le_of_lt (by omega) hdb
  have dz : isDivZ (gcdI u d) = true := isDivA_iff.2 (by omega)
  unfold G34 T34
  rw [decide_eq_false (show ¬ d < 0 by omega), bsel_false]
  simp only [unL1n_l1nF, isL1n_l1nF hu, isL1n_l1nF hdb, isL1n_l1nF hg, isL1n_l1nF (boundC_up hg (show 699 ≤ 800 by omega)), dz, resInt3, Bool.and_self, bsel_true]
  by_cases h : (gcdI u d - 1).sign ≠ 0
  · rw [show ((gcdI u d - 1).sign != 0) = true by simpa using h, bsel_true]
  · obtain ⟨e1, e2⟩ := gcd_one_div h
    rw [show ((gcdI u d - 1).sign != 0) = false by simpa using h, bsel_false, e1, e2]
def isMake (d : Int) : Bool := decide (0 < d)
def preMake : List F → Bool | [x, y] => isL1n 699 x && isL1n 699 y && isMake (unL1n y) | _ => false
def resMake : List F → F | [x, y] => l2rF (unL1n x / gcdI (unL1n x) (unL1n y)) (unL1n y / gcdI (unL1n x) (unL1n y)) | _ => .dflt
theorem okMake : PureOK Tryz.prog 34 preMake resMake :=
  fn_pure_at (c := bodyOf Tryz.f34) Tryz.func34 (by kernel_rfl) (by kernel_rfl) fun xs hp => match xs, hp with
  | [x, y], hp => by
    simp only [preMake, Bool.and_eq_true] at hp
    obtain ⟨⟨hx, hy⟩, hd⟩ := hp
    exact ⟨[l1nF (unL1n x), l1nF (unL1n y)], _, ⟨(l1n_eqv hx).1, (l1n_eqv hy).1, trivial⟩, t34 _ _ _ (make3_law (natAbs_of_isL1n hx) (of_decide_eq_true hd) (natAbs_of_isL1n hy)), .refl _⟩
/-! ### function 16 -/
def T16 {ρ : Type} (ret : (Int) → Option ρ) (u : Int) (d : Int) (v : Int) (e : Int) : Option ρ :=
 (bsel (isL1n 900 (l1nF u) && isL1n 900 (l1nF e))
 (bsel (isL1n 900 (l1nF v) && isL1n 900 (l1nF d))
 (bsel (isL1n 800 (resMulZ [l1nF u, l1nF e]) && isL1n 800 (resMulZ [l1nF v, l1nF d]))
 (ret ((unL1n (resMulZ [l1nF u, l1nF e]) - unL1n (resMulZ [l1nF v, l1nF d])).sign))
 none)
 none)
 none)
def G16 (u : Int) (d : Int) (v : Int) (e : Int) : Option (Int) := T16 some u d v e
theorem t16 (u : Int) (d : Int) (v : Int) (e : Int) (r : Int) (h : G16 u d v e = some r) : Ends Tryz.prog Tryz.f16.results.toList [.code (bodyOf Tryz.f16)] (start Tryz.f16.ntmps ([l2rF u d, l2rF v e].map .f)) (F.int .i64 r) := by
  refine Ends.of_run tyOK envS6_ok (T := []) (n := 200) ?_
  have e : run Tryz.prog (tiOf Tryz.prog) envS6 [] 0 Tryz.f16.results.toList some 200 [.code (bodyOf Tryz.f16)] (start Tryz.f16.ntmps ([l2rF u d, l2rF v e].map .f)) = T16 (fun r => some (.ret (F.int .i64 r))) u d v e := by kernel_rfl
  rw [e]
  exact (good_sel h (fun _ h => (good_sel h (fun _ h => (good_sel h (fun _ h => good_ret (by cases h; rfl)) (fun _ h => nomatch h))) (fun _ h => nomatch h))) (fun _ h => nomatch h))
def preL2r2 : List F → Bool | [x, y] => isL2r 390 x && isL2r 390 y | _ => false
def resL2Cmp : List F → F | [x, y] => .int .i64 (unUp3 x * unDown3 y - unUp3 y * unDown3 x).sign | _ => .dflt
theorem l2cmp_law {u d v e : Int} (hu : u.natAbs < 4294967296 ^ 390) (hd : d.natAbs < 4294967296 ^ 390) (hv : v.natAbs < 4294967296 ^ 390) (he : e.natAbs < 4294967296 ^ 390) : G16 u d v e = some (u * e - v * d).sign := by
  unfold G16 T16
  have up : ∀ {x : Int}, x.natAbs < 4294967296 ^ 390 → isL1n 900 (l1nF x) = true := fun h => isL1n_l1nF (boundC_up h (by omega))
  have h1 : isL1n 800 (l1nF (u * e)) = true := isL1n_l1nF (boundC_up (boundC_mul hu he) (by omega))
  have h2 : isL1n 800 (l1nF (v * d)) = true := isL1n_l1nF (boundC_up (boundC_mul hv hd) (by omega))
  simp only [up hu, up hd, up hv, up he, resMulZ, unL1n_l1nF, h1, h2, Bool.and_self, bsel_true]
theorem okL2Cmp : PureOK Tryz.prog 16 preL2r2 resL2Cmp :=
  fn_pure_at (c := bodyOf Tryz.f16) Tryz.func16 (by kernel_rfl) (by kernel_rfl) fun xs hp => match xs, hp with
  | [x, y], hp => by
    simp only [preL2r2, Bool.and_eq_true] at hp
    obtain ⟨h1, h2⟩ := l2r_bound hp.1
    obtain ⟨h3, h4⟩ := l2r_bound hp.2
    exact ⟨[l2rF (unUp3 x) (unDown3 x), l2rF (unUp3 y) (unDown3 y)], _, ⟨(l2r_eqv hp.1).1, (l2r_eqv hp.2).1, trivial⟩, t16 _ _ _ _ _ (l2cmp_law h1 h2 h3 h4), .refl _⟩
/-! ### function 17 -/
def T17 {ρ : Type} (ret : (F) → Option ρ) (u : Int) (d : Int) : Option ρ :=
 (bsel (isL1n 800 (l1nF u))
 (bsel (isL1n 800 (l1nF d))
 (bsel ((!isWide (unL1n (l1nF u))) == false)
 (bsel (!isWide (unL1n (l1nF d)))
 (ret (F.tup [F.agg [F.int .u64 0, F.int .u64 0, F.int .u64 0, F.int .u64 0, F.int .u64 0, F.int .u64 0, F.int .u64 0, F.int .u64 0], F.bool false]))
 (ret (F.tup [F.agg [F.int .u64 (wd3 (unL1n (l1nF u))), F.int .u64 (wd2 (unL1n (l1nF u))), F.int .u64 (wd1 (unL1n (l1nF u))), F.int .u64 (wd0 (unL1n (l1nF u))), F.int .u64 (wd3 (unL1n (l1nF d))), F.int .u64 (wd2 (unL1n (l1nF d))), F.int .u64 (wd1 (unL1n (l1nF d))), F.int .u64 (wd0 (unL1n (l1nF d)))], F.bool true])))
 (ret (F.tup [F.agg [F.int .u64 0, F.int .u64 0, F.int .u64 0, F.int .u64 0, F.int .u64 0, F.int .u64 0, F.int .u64 0, F.int .u64 0], F.bool false])))
 none)
 none)
def G17 (u : Int) (d : Int) : Option (F) := T17 some u d
theorem t17 (u : Int) (d : Int) (r : F) (h : G17 u d = some r) : Ends Tryz.prog Tryz.f17.results.toList [.code (bodyOf Tryz.f17)] (start Tryz.f17.ntmps ([l2rF u d].map .f)) (r) := by
  refine Ends.of_run tyOK envS6_ok (T := []) (n := 200) ?_
  have e : run Tryz.prog (tiOf Tryz.prog) envS6 [] 0 Tryz.f17.results.toList some 200 [.code (bodyOf Tryz.f17)] (start Tryz.f17.ntmps ([l2rF u d].map .f)) = T17 (fun r => some (.ret (r))) u d := by kernel_rfl
  rw [e]
  exact (good_sel h (fun _ h => (good_sel h (fun _ h => (good_sel h (fun _ h => (good_sel h (fun _ h => good_ret (by cases h; rfl)) (fun _ h => good_ret (by cases h; rfl)))) (fun _ h => good_ret (by cases h; rfl)))) (fun _ h => nomatch h))) (fun _ h => nomatch h))
theorem l2ratio_law {u d : Int} (hu : u.natAbs < 4294967296 ^ 800) (hd : d.natAbs < 4294967296 ^ 800) : G17 u d = some (.tup [toldF u d, .bool (okT u d)]) := by
  unfold G17 T17
  simp only [isL1n_l1nF hu, isL1n_l1nF hd, unL1n_l1nF, bsel_true]
  unfold toldF okT
  cases h1 : isWide u <;> cases h2 : isWide d <;> rfl
def preL2r : List F → Bool | [x] => isL2r 800 x | _ => false
def resL2Ratio : List F → F | [x] => .tup [toldF (unUp3 x) (unDown3 x), .bool (okT (unUp3 x) (unDown3 x))] | _ => .dflt
theorem okL2Ratio : PureOK Tryz.prog 17 preL2r resL2Ratio :=
  fn_pure_at (c := bodyOf Tryz.f17) Tryz.func17 (by kernel_rfl) (by kernel_rfl) fun xs hp => match xs, hp with
  | [x], hp => by
    obtain ⟨h1, h2⟩ := l2r_bound hp
    exact ⟨[l2rF (unUp3 x) (unDown3 x)], _, ⟨(l2r_eqv hp).1, trivial⟩, t17 _ _ _ (l2ratio_law h1 h2), .refl _⟩
def envS7 : Env := ((envS6.add 34 (.pure preMake resMake)).add 16 (.pure preL2r2 resL2Cmp)).add 17 (.pure preL2r resL2Ratio)
theorem envS7_ok : EnvOK Tryz.prog envS7 := (Env.add_ok (Env.add_ok (Env.add_ok envS6_ok okMake.sp) okL2Cmp.sp) okL2Ratio.sp)
end
end Go.Proofs.YtdcooaopkbicfaaGreat.R
namespace Go.Proofs.YtdcooaopkbicfaaGreat.R
open Go
noncomputable section
/-! ### function 15 -/
def T15 {ρ : Type} (ret : (F) → Option ρ) (x0 : Int) (y0 : Int) (x1 : Int) (y1 : Int) (px : Int) (py : Int) : Option ρ :=
 (bsel (decide (IntKind.i64.wrap (IntKind.i64.wrap (IntKind.i64.wrap (px - x0) * IntKind.i64.wrap (x1 - x0)) + IntKind.i64.wrap (IntKind.i64.wrap (py - y0) * IntKind.i64.wrap (y1 - y0))) ≤ 0))
 (bsel (isI64 (IntKind.i64.wrap (IntKind.i64.wrap (IntKind.i64.wrap (px - x0) * IntKind.i64.wrap (px - x0)) + IntKind.i64.wrap (IntKind.i64.wrap (py - y0) * IntKind.i64.wrap (py - y0)))))
 (ret (l2rF (IntKind.i64.wrap (IntKind.i64.wrap (IntKind.i64.wrap (px - x0) * IntKind.i64.wrap (px - x0)) + IntKind.i64.wrap (IntKind.i64.wrap (py - y0) * IntKind.i64.wrap (py - y0)))) 1))
 none)
 (bsel (decide (IntKind.i64.wrap (IntKind.i64.wrap (IntKind.i64.wrap (px - x0) * IntKind.i64.wrap (x1 - x0)) + IntKind.i64.wrap (IntKind.i64.wrap (py - y0) * IntKind.i64.wrap (y1 - y0))) ≥ IntKind.i64.wrap (IntKind.i64.wrap (IntKind.i64.wrap (x1 - x0) * IntKind.i64.wrap (x1 - x0)) + IntKind.i64.wrap (IntKind.i64.wrap (y1 - y0) * IntKind.i64.wrap (y1 - y0)))))
 (bsel (isI64 (IntKind.i64.wrap (IntKind.i64.wrap (IntKind.i64.wrap (px - x1) * IntKind.i64.wrap (px - x1)) + IntKind.i64.wrap (IntKind.i64.wrap (py - y1) * IntKind.i64.wrap (py - y1)))))
 (ret (l2rF (IntKind.i64.wrap (IntKind.i64.wrap (IntKind.i64.wrap (px - x1) * IntKind.i64.wrap (px - x1)) + IntKind.i64.wrap (IntKind.i64.wrap (py - y1) * IntKind.i64.wrap (py - y1)))) 1))
 none)
 (bsel (isI64 (IntKind.i64.wrap (IntKind.i64.wrap (IntKind.i64.wrap (x1 - x0) * IntKind.i64.wrap (py - y0)) - IntKind.i64.wrap (IntKind.i64.wrap (y1 - y0) * IntKind.i64.wrap (px - x0)))))
 (bsel (isL1n 900 (l1nF (IntKind.i64.wrap (IntKind.i64.wrap (IntKind.i64.wrap (x1 - x0) * IntKind.i64.wrap (py - y0)) - IntKind.i64.wrap (IntKind.i64.wrap (y1 - y0) * IntKind.i64.wrap (px - x0))))) && isL1n 900 (l1nF (IntKind.i64.wrap (IntKind.i64.wrap (IntKind.i64.wrap (x1 - x0) * IntKind.i64.wrap (py - y0)) - IntKind.i64.wrap (IntKind.i64.wrap (y1 - y0) * IntKind.i64.wrap (px - x0))))))
 (bsel (isI64 (IntKind.i64.wrap (IntKind.i64.wrap (IntKind.i64.wrap (x1 - x0) * IntKind.i64.wrap (x1 - x0)) + IntKind.i64.wrap (IntKind.i64.wrap (y1 - y0) * IntKind.i64.wrap (y1 - y0)))))
 (bsel (isL1n 699 (resMulZ [l1nF (IntKind.i64.wrap (IntKind.i64.wrap (IntKind.i64.wrap (x1 - x0) * IntKind.i64.wrap (py - y0)) - IntKind.i64.wrap (IntKind.i64.wrap (y1 - y0) * IntKind.i64.wrap (px - x0)))), l1nF (IntKind.i64.wrap (IntKind.i64.wrap (IntKind.i64.wrap (x1 - x0) * IntKind.i64.wrap (py - y0)) - IntKind.i64.wrap (IntKind.i64.wrap (y1 - y0) * IntKind.i64.wrap (px - x0))))]) && isL1n 699 (resInt3 [F.int .i64 (IntKind.i64.wrap (IntKind.i64.wrap (IntKind.i64.wrap (x1 - x0) * IntKind.i64.wrap (x1 - x0)) + IntKind.i64.wrap (IntKind.i64.wrap (y1 - y0) * IntKind.i64.wrap (y1 - y0))))]) && isMake (unL1n (resInt3 [F.int .i64 (IntKind.i64.wrap (IntKind.i64.wrap (IntKind.i64.wrap (x1 - x0) * IntKind.i64.wrap (x1 - x0)) + IntKind.i64.wrap (IntKind.i64.wrap (y1 - y0) * IntKind.i64.wrap (y1 - y0))))])))
 (ret (l2rF (unL1n (resMulZ [l1nF (IntKind.i64.wrap (IntKind.i64.wrap (IntKind.i64.wrap (x1 - x0) * IntKind.i64.wrap (py - y0)) - IntKind.i64.wrap (IntKind.i64.wrap (y1 - y0) * IntKind.i64.wrap (px - x0)))), l1nF (IntKind.i64.wrap (IntKind.i64.wrap (IntKind.i64.wrap (x1 - x0) * IntKind.i64.wrap (py - y0)) - IntKind.i64.wrap (IntKind.i64.wrap (y1 - y0) * IntKind.i64.wrap (px - x0))))]) / gcdI (unL1n (resMulZ [l1nF (IntKind.i64.wrap (IntKind.i64.wrap (IntKind.i64.wrap (x1 - x0) * IntKind.i64.wrap (py - y0)) - IntKind.i64.wrap (IntKind.i64.wrap (y1 - y0) * IntKind.i64.wrap (px - x0)))), l1nF (IntKind.i64.wrap (IntKind.i64.wrap (IntKind.i64.wrap (x1 - x0) * IntKind.i64.wrap (py - y0)) - IntKind.i64.wrap (IntKind.i64.wrap (y1 - y0) * IntKind.i64.wrap (px - x0))))])) (unL1n (resInt3 [F.int .i64 (IntKind.i64.wrap (IntKind.i64.wrap (IntKind.i64.wrap (x1 - x0) * IntKind.i64.wrap (x1 - x0)) + IntKind.i64.wrap (IntKind.i64.wrap (y1 - y0) * IntKind.i64.wrap (y1 - y0))))]))) (unL1n (resInt3 [F.int .i64 (IntKind.i64.wrap (IntKind.i64.wrap (IntKind.i64.wrap (x1 - x0) * IntKind.i64.wrap (x1 - x0)) + IntKind.i64.wrap (IntKind.i64.wrap (y1 - y0) * IntKind.i64.wrap (y1 - y0))))]) / gcdI (unL1n (resMulZ [l1nF (IntKind.i64.wrap (IntKind.i64.wrap (IntKind.i64.wrap (x1 - x0) * IntKind.i64.wrap (py - y0)) - IntKind.i64.wrap (IntKind.i64.wrap (y1 - y0) * IntKind.i64.wrap (px - x0)))), l1nF (IntKind.i64.wrap (IntKind.i64.wrap (IntKind.i64.wrap (x1 - x0) * IntKind.i64.wrap (py - y0)) - IntKind.i64.wrap (IntKind.i64.wrap (y1 - y0) * IntKind.i64.wrap (px - x0))))])) (unL1n (resInt3 [F.int .i64 (IntKind.i64.wrap (IntKind.i64.wrap (IntKind.i64.wrap (x1 - x0) * IntKind.i64.wrap (x1 - x0)) + IntKind.i64.wrap (IntKind.i64.wrap (y1 - y0) * IntKind.i64.wrap (y1 - y0))))])))))
 none)
 none)
 none)
 none)))
def G15 (x0 : Int) (y0 : Int) (x1 : Int) (y1 : Int) (px : Int) (py : Int) : Option (F) := T15 some x0 y0 x1 y1 px py
theorem t15 (x0 : Int) (y0 : Int) (x1 : Int) (y1 : Int) (px : Int) (py : Int) (r : F) (h : G15 x0 y0 x1 y1 px py = some r) : Ends Tryz.prog Tryz.f15.results.toList [.code (bodyOf Tryz.f15)] (start Tryz.f15.ntmps ([F.agg [F.int .i64 x0, F.int .i64 y0, F.int .i64 x1, F.int .i64 y1], F.agg [F.int .i64 px, F.int .i64 py]].map .f)) (r) := by
  refine Ends.of_run tyOK envS7_ok (T := []) (n := 200) ?_
  have e : run Tryz.prog (tiOf Tryz.prog) envS7 [] 0 Tryz.f15.results.toList some 200 [.code (bodyOf Tryz.f15)] (start Tryz.f15.ntmps ([F.agg [F.int .i64 x0, F.int .i64 y0, F.int .i64 x1, F.int .i64 y1], F.agg [F.int .i64 px, F.int .i64 py]].map .f)) = T15 (fun r => some (.ret (r))) x0 y0 x1 y1 px py := by kernel_rfl
  rw [e]
  exact (good_sel h (fun _ h => (good_sel h (fun _ h => good_ret (by cases h; rfl)) (fun _ h => nomatch h))) (fun _ h => (good_sel h (fun _ h => (good_sel h (fun _ h => good_ret (by cases h; rfl)) (fun _ h => nomatch h))) (fun _ h => (good_sel h (fun _ h => (good_sel h (fun _ h => (good_sel h (fun _ h => (good_sel h (fun _ h => good_ret (by cases h; rfl)) (fun _ h => nomatch h))) (fun _ h => nomatch h))) (fun _ h => nomatch h))) (fun _ h => nomatch h))))))
def lowU (u d : Int) : Int := u / gcdI u d
def lowD (u d : Int) : Int := d / gcdI u d
theorem low_one (u : Int) : lowU u 1 = u ∧ lowD u 1 = 1 := by
  obtain ⟨g1, g2⟩ := gcdI_pos (u := u) (d := 1) (by omega)
  have : gcdI u 1 = 1 := by omega
  unfold lowU lowD
  rw [this]
  exact ⟨Int.ediv_one u, rfl⟩
theorem sq_zero {a b : Int} (h : a * a + b * b ≤ 0) : a = 0 ∧ b = 0 := by
  have h1 := sq_nonneg a
  have h2 := sq_nonneg b
  have h3 : a * a = 0 := by omega
  have h4 : b * b = 0 := by omega
  refine ⟨?_, ?_⟩
  · rcases Int.mul_eq_zero.1 h3 with h | h <;> exact h
  · rcases Int.mul_eq_zero.1 h4 with h | h <;> exact h
theorem smallC {x : Int} {n : Nat} (h0 : -8000000000000 ≤ x) (h1 : x ≤ 8000000000000) (hn : 2 ≤ n) : x.natAbs < 4294967296 ^ n :=
  boundC_up (n := 2) (show x.natAbs < 4294967296 ^ 2 by omega) hn
theorem near3_law {x0 y0 x1 y1 px py : Int} (h0 : spotIn x0 y0) (h1 : spotIn x1 y1) (h2 : spotIn px py) :
    G15 x0 y0 x1 y1 px py = some (l2rF (lowU (nearU x0 y0 x1 y1 px py) (nearD x0 y0 x1 y1 px py)) (lowD (nearU x0 y0 x1 y1 px py) (nearD x0 y0 x1 y1 px py))) := by
  obtain ⟨c1, c2, c3⟩ := crossW_eq h0 h1 h2
  have n1 := long_nonneg x0 y0 x1 y1
  unfold spotIn at h0 h1 h2
  unfold crossW at c1
  unfold G15 T15
  rw [c1]
  rw [wrapI (x := px - x0) (by omega) (by omega), wrapI (x := x1 - x0) (by omega) (by omega), wrapI (x := py - y0) (by omega) (by omega), wrapI (x := y1 - y0) (by omega) (by omega), wrapI (x := px - x1) (by omega) (by omega), wrapI (x := py - y1) (by omega) (by omega)]
  obtain ⟨a1, a2, a3⟩ := dotW (a := px - x0) (b := x1 - x0) (c := py - y0) (d := y1 - y0) (by omega) (by omega) (by omega) (by omega)
  obtain ⟨l1, l2, l3⟩ := dotW (a := x1 - x0) (b := x1 - x0) (c := y1 - y0) (d := y1 - y0) (by omega) (by omega) (by omega) (by omega)
  obtain ⟨p1, p2, p3⟩ := dotW (a := px - x1) (b := px - x1) (c := py - y1) (d := py - y1) (by omega) (by omega) (by omega) (by omega)
  obtain ⟨q1, q2, q3⟩ := dotW (a := px - x0) (b := px - x0) (c := py - y0) (d := py - y0) (by omega) (by omega) (by omega) (by omega)
  have ea : (px - x0) * (x1 - x0) + (py - y0) * (y1 - y0) = alongZ x0 y0 x1 y1 px py := rfl
  have el : (x1 - x0) * (x1 - x0) + (y1 - y0) * (y1 - y0) = longZ x0 y0 x1 y1 := rfl
  have ep : (px - x1) * (px - x1) + (py - y1) * (py - y1) = longZ x1 y1 px py := rfl
  have eq : (px - x0) * (px - x0) + (py - y0) * (py - y0) = longZ x0 y0 px py := rfl
  rw [a1, l1, p1, q1, ea, el, ep, eq]
  have b1 : -8000000000000 ≤ longZ x0 y0 x1 y1 ∧ longZ x0 y0 x1 y1 ≤ 8000000000000 := ⟨l2, l3⟩
  have b2 : -8000000000000 ≤ longZ x1 y1 px py ∧ longZ x1 y1 px py ≤ 8000000000000 := ⟨p2, p3⟩
  have b3 : -8000000000000 ≤ longZ x0 y0 px py ∧ longZ x0 y0 px py ≤ 8000000000000 := ⟨q2, q3⟩
  have same : longZ x0 y0 x1 y1 ≤ 0 → longZ x1 y1 px py = longZ x0 y0 px py := fun h => by
    obtain ⟨e1, e2⟩ := sq_zero (show (x1 - x0) * (x1 - x0) + (y1 - y0) * (y1 - y0) ≤ 0 from h)
    rw [show x1 = x0 by omega, show y1 = y0 by omega]
  clear a1 a2 a3 l1 l2 l3 p1 p2 p3 q1 q2 q3 ea el ep eq c1
  simp only [isI64_iff.2 (show -9223372036854775808 ≤ crossZ x0 y0 x1 y1 px py ∧ _ by omega), isI64_iff.2 (show -9223372036854775808 ≤ longZ x0 y0 x1 y1 ∧ _ by omega), isI64_iff.2 (show -9223372036854775808 ≤ longZ x1 y1 px py ∧ _ by omega), isI64_iff.2 (show -9223372036854775808 ≤ longZ x0 y0 px py ∧ _ by omega), isL1n_l1nF (smallC c2 c3 (show 2 ≤ 900 by omega)), unL1n_l1nF, resMulZ, resInt3, isL1n_l1nF (boundC_up (boundC_mul (smallC c2 c3 (Nat.le_refl 2)) (smallC c2 c3 (Nat.le_refl 2))) (show 2 + 2 ≤ 699 by omega)), isL1n_l1nF (smallC b1.1 b1.2 (show 2 ≤ 699 by omega)), Bool.and_self, Bool.true_and, bsel_true]
  unfold nearU nearD
  generalize alongZ x0 y0 x1 y1 px py = al at *
  generalize longZ x0 y0 x1 y1 = lo at *
  by_cases k1 : 0 < al
  · rw [decide_eq_false (show ¬ al ≤ 0 by omega), bsel_false]
    by_cases k2 : al < lo
    · rw [decide_eq_false (show ¬ al ≥ lo by omega), bsel_false, if_pos ⟨k1, k2⟩, if_pos ⟨k1, k2⟩]
      have : isMake lo = true := decide_eq_true (by omega)
      rw [this]
      rfl
    · rw [decide_eq_true (show al ≥ lo by omega), bsel_true, if_neg (show ¬ (0 < al ∧ al < lo) from fun h => k2 h.2), if_neg (show ¬ (0 < al ∧ al < lo) from fun h => k2 h.2), if_pos (by omega), (low_one _).1, (low_one _).2]
  · rw [decide_eq_true (show al ≤ 0 by omega), bsel_true, if_neg (show ¬ (0 < al ∧ al < lo) from fun h => k1 h.1), if_neg (show ¬ (0 < al ∧ al < lo) from fun h => k1 h.1)]
    by_cases k2 : lo ≤ al
    · rw [if_pos k2, same (by omega), (low_one _).1, (low_one _).2]
    · rw [if_neg k2, (low_one _).1, (low_one _).2]
def resNear3 : List F → F | [.agg [.int .i64 a, .int .i64 b, .int .i64 c, .int .i64 d], .agg [.int .i64 e, .int .i64 f]] => l2rF (lowU (nearU a b c d e f) (nearD a b c d e f)) (lowD (nearU a b c d e f) (nearD a b c d e f)) | _ => .dflt
theorem okNear3 : PureOK Tryz.prog 15 preNear resNear3 :=
  fn_pure (c := bodyOf Tryz.f15) Tryz.func15 (by kernel_rfl) (by kernel_rfl) fun xs hp => match xs, hp with
  | [.agg [.int .i64 a, .int .i64 b, .int .i64 c, .int .i64 d], .agg [.int .i64 e, .int .i64 f]], hp => by
    obtain ⟨h0, h1, h2⟩ := isNearArg_iff.1 hp
    exact t15 a b c d e f _ (near3_law h0 h1 h2)
def envS8 : Env := envS7.add 15 (.pure preNear resNear3)
theorem envS8_ok : EnvOK Tryz.prog envS8 := (Env.add_ok envS7_ok okNear3.sp)
end
end Go.Proofs.YtdcooaopkbicfaaGreat.R
namespace Go.Proofs.YtdcooaopkbicfaaGreat.R
open Go
noncomputable section
def nsU (l : List Sg) (px py : Int) : Int := bif isNearest l px py then (nearAll px py l).2.1 / gcdI (nearAll px py l).2.1 (nearAll px py l).2.2 else 57896044618658097711785492504343953926634992332820282019728792003956564819968
def nsD (l : List Sg) (px py : Int) : Int := bif isNearest l px py then (nearAll px py l).2.2 / gcdI (nearAll px py l).2.1 (nearAll px py l).2.2 else 57896044618658097711785492504343953926634992332820282019728792003956564819968
theorem okT_none : okT 57896044618658097711785492504343953926634992332820282019728792003956564819968 57896044618658097711785492504343953926634992332820282019728792003956564819968 = false := by
  have : isWide 57896044618658097711785492504343953926634992332820282019728792003956564819968 = false := by
    cases h : isWide 57896044618658097711785492504343953926634992332820282019728792003956564819968 with
    | false => rfl
    | true => have := isWide_iff.1 h; omega
  unfold okT
  rw [this]
  rfl
theorem toldF_none {u d : Int} (h : okT u d = false) : toldF u d = .agg [.int .u64 0, .int .u64 0, .int .u64 0, .int .u64 0, .int .u64 0, .int .u64 0, .int .u64 0, .int .u64 0] := by
  simp only [toldF, h, cond_false]
def envN20 : Env := envN19
theorem envN20_ok : EnvOK Tryz.prog envN20 := envN19_ok
end
end Go.Proofs.YtdcooaopkbicfaaGreat.R
namespace Go.Proofs.YtdcooaopkbicfaaGreat.R
open Go
noncomputable section
theorem low_mul {u d : Int} : lowU u d * gcdI u d = u ∧ lowD u d * gcdI u d = d := by
  have h1 : gcdI u d ∣ u := Int.gcd_dvd_left ..
  have h2 : gcdI u d ∣ d := Int.gcd_dvd_right ..
  exact ⟨Int.ediv_mul_cancel h1, Int.ediv_mul_cancel h2⟩
theorem low_bounds {u d : Int} (hu : 0 ≤ u) (hd : 0 < d) : 0 ≤ lowU u d ∧ lowU u d ≤ u ∧ 0 < lowD u d ∧ lowD u d ≤ d := by
  obtain ⟨g1, g2⟩ := gcdI_pos (u := u) hd
  obtain ⟨m1, m2⟩ := low_mul (u := u) (d := d)
  have a1 : 0 ≤ lowU u d := Int.ediv_nonneg hu (by omega)
  have a2 : 0 ≤ lowD u d := Int.ediv_nonneg (by omega) (by omega)
  have a3 : lowU u d ≤ u := Int.ediv_le_self _ hu
  have a4 : lowD u d ≤ d := Int.ediv_le_self _ (by omega)
  refine ⟨a1, a3, ?_, a4⟩
  rcases Int.lt_or_eq_of_le a2 with h | h
  · exact h
  · rw [← h, Int.zero_mul] at m2
    omega
theorem low_key {u d v e a b c f g h : Int} (m1 : a * g = u) (m2 : b * g = d) (m3 : c * h = v) (m4 : f * h = e) : u * e - v * d = (g * h) * (a * f - c * b) := by
  subst m1 m2 m3 m4
  grind
theorem low_cmp {u d v e : Int} (hd : 0 < d) (he : 0 < e) : lowU u d * lowD v e - lowU v e * lowD u d < 0 ↔ u * e - v * d < 0 := by
  obtain ⟨g1, _⟩ := gcdI_pos (u := u) hd
  obtain ⟨g2, _⟩ := gcdI_pos (u := v) he
  obtain ⟨m1, m2⟩ := low_mul (u := u) (d := d)
  obtain ⟨m3, m4⟩ := low_mul (u := v) (d := e)
  have hG := Int.mul_pos g1 g2
  have key := low_key m1 m2 m3 m4
  rw [key]
  generalize lowU u d * lowD v e - lowU v e * lowD u d = t at *
  constructor
  · intro h
    exact Int.mul_neg_of_pos_of_neg hG h
  · intro h
    rcases Int.lt_or_le t 0 with h1 | h1
    · exact h1
    · have := Int.mul_nonneg (Int.le_of_lt hG) h1
      omega
theorem low_ok {s : Int × Int × Int} (h : NearOk s) : isL2r 390 (l2rF (lowU s.2.1 s.2.2) (lowD s.2.1 s.2.2)) = true := by
  obtain ⟨h1, h2, h3, h4⟩ := low_bounds h.up0 h.down.1
  have hu := h.up
  have hd := h.down
  refine isL2r_l2rF (boundC_up (n := 4) ?_ (by omega)) (boundC_up (n := 4) ?_ (by omega))
  · show _ < 4294967296 ^ 4
    have : (4294967296 : Nat) ^ 4 = 18446744073709551616 ^ 2 := by decide
    rw [this]
    omega
  · show _ < 4294967296 ^ 4
    omega
theorem low_okT {s : Int × Int × Int} (h : NearOk s) : okT (lowU s.2.1 s.2.2) (lowD s.2.1 s.2.2) = true := by
  obtain ⟨h1, h2, h3, h4⟩ := low_bounds h.up0 h.down.1
  have hu := h.up
  have hd := h.down
  unfold okT
  rw [Bool.and_eq_true]
  exact ⟨isWide_iff.2 (by omega), isWide_iff.2 (by omega)⟩
def envS9 : Env := envS8.or envN20
theorem envS9_ok : EnvOK Tryz.prog envS9 := (Env.or_ok envS8_ok envN20_ok)
end
end Go.Proofs.YtdcooaopkbicfaaGreat.R
namespace Go.Proofs.YtdcooaopkbicfaaGreat.R
open Go
noncomputable section
def envP0 : Env := envS9.or envQ6
theorem envP0_ok : EnvOK Tryz.prog envP0 := Env.or_ok envS9_ok envQ6_ok
end
end Go.Proofs.YtdcooaopkbicfaaGreat.R
namespace Go.Proofs.YtdcooaopkbicfaaGreat.R
open Go
noncomputable section
/-! ### function 8 -/
def S8_5 (q : Qd) (px : Int) (py : Int) (n : Nat) (g : Nat → F) (m : Int) (i : Int) : St := ⟨[.bad, .bad, (U.hp 0 0), (U.hp 1 0), .bad, (U.hp 2 0), .bad, (U.hs 3 n 0 n), .bad, .bad, .bad, .bad, .bad, .bad, .bad, .bad, .bad, .bad, .bad, .bad, .bad, .bad, .bad, .bad, .bad, .bad, .bad, .bad, .bad, .bad, .bad, (U.f (itemsF q.items)), (U.f (F.int .i64 m)), (U.f (F.int .i64 i)), .bad, .bad, .bad, .bad, .bad, .bad, .bad, .bad, .bad, .bad, .bad, .bad, .bad, .bad, .bad, .bad, .bad, .bad, .bad, .bad, .bad, .bad, .bad, .bad, .bad, .bad, .bad, .bad], [HO.box [(U.f (F.int .i64 q.most)), (U.f (F.int .i64 q.deep)), (U.f (itemsF q.items)), (U.f (blocksF q.blocks))], HO.box [(U.f (F.int .i64 px)), (U.f (F.int .i64 py))], HO.box [(U.f (F.int .u64 0)), (U.f (F.int .u64 0)), (U.f (F.int .u64 0)), (U.f (F.int .u64 0)), (U.f (F.int .u64 0)), (U.f (F.int .u64 0)), (U.f (F.int .u64 0)), (U.f (F.int .u64 0))], HO.arr 4 n g]⟩
def T8_5 {ρ : Type} (ret : (F) → Option ρ) (c5 : (Qd) → (Int) → (Int) → (Nat) → (Nat → F) → (Int) → (Int) → Option ρ) (q : Qd) (px : Int) (py : Int) (n : Nat) (g : Nat → F) (m : Int) (i : Int) : Option ρ :=
 (bsel (decide (i < m))
 (bsel (decide (0 ≤ i))
 (bsel (decide (i < (↑q.items.length : Int)))
 (bsel (decide (n = n))
 (bsel (decide (n = n))
 (bsel (decide ((↑(n + 1) : Int) * (((32 : Nat) : Int) + 1) ≤ (↑limit : Int)))
 (c5 (q) (px) (py) (n + 1) (fun j ↦ if j < n then g j else F.agg [F.int .i64 (q.items.getD i.toNat It.zero).x0, F.int .i64 (q.items.getD i.toNat It.zero).y0, F.int .i64 (q.items.getD i.toNat It.zero).x1, F.int .i64 (q.items.getD i.toNat It.zero).y1]) (m) (IntKind.i64.wrap (i + 1)))
 none)
 none)
 none)
 none)
 none)
 (bsel (decide (n = n))
 (bsel (isSegs (F.sl n (offF 0 g)) && isNearest (unSegs (F.sl n (offF 0 g))) px py)
 (bsel (isRat 180 (ratF (nearAll px py (unSegs (F.sl n (offF 0 g)))).snd.fst (nearAll px py (unSegs (F.sl n (offF 0 g)))).snd.snd) && isLow (unUp (ratF (nearAll px py (unSegs (F.sl n (offF 0 g)))).snd.fst (nearAll px py (unSegs (F.sl n (offF 0 g)))).snd.snd)) (unDown (ratF (nearAll px py (unSegs (F.sl n (offF 0 g)))).snd.fst (nearAll px py (unSegs (F.sl n (offF 0 g)))).snd.snd)))
 (bsel (decide (0 ≤ (nearAll px py (unSegs (F.sl n (offF 0 g)))).fst))
 (bsel (decide ((nearAll px py (unSegs (F.sl n (offF 0 g)))).fst < (↑q.items.length : Int)))
 (ret (F.tup [F.int .i64 (q.items.getD (nearAll px py (unSegs (F.sl n (offF 0 g)))).fst.toNat It.zero).id, F.agg [F.int .u64 (bif okT (unUp (ratF (nearAll px py (unSegs (F.sl n (offF 0 g)))).snd.fst (nearAll px py (unSegs (F.sl n (offF 0 g)))).snd.snd) / gcdI (unUp (ratF (nearAll px py (unSegs (F.sl n (offF 0 g)))).snd.fst (nearAll px py (unSegs (F.sl n (offF 0 g)))).snd.snd)) (unDown (ratF (nearAll px py (unSegs (F.sl n (offF 0 g)))).snd.fst (nearAll px py (unSegs (F.sl n (offF 0 g)))).snd.snd))) (unDown (ratF (nearAll px py (unSegs (F.sl n (offF 0 g)))).snd.fst (nearAll px py (unSegs (F.sl n (offF 0 g)))).snd.snd) / gcdI (unUp (ratF (nearAll px py (unSegs (F.sl n (offF 0 g)))).snd.fst (nearAll px py (unSegs (F.sl n (offF 0 g)))).snd.snd)) (unDown (ratF (nearAll px py (unSegs (F.sl n (offF 0 g)))).snd.fst (nearAll px py (unSegs (F.sl n (offF 0 g)))).snd.snd))) then wd3 (unUp (ratF (nearAll px py (unSegs (F.sl n (offF 0 g)))).snd.fst (nearAll px py (unSegs (F.sl n (offF 0 g)))).snd.snd) / gcdI (unUp (ratF (nearAll px py (unSegs (F.sl n (offF 0 g)))).snd.fst (nearAll px py (unSegs (F.sl n (offF 0 g)))).snd.snd)) (unDown (ratF (nearAll px py (unSegs (F.sl n (offF 0 g)))).snd.fst (nearAll px py (unSegs (F.sl n (offF 0 g)))).snd.snd))) else 0), F.int .u64 (bif okT (unUp (ratF (nearAll px py (unSegs (F.sl n (offF 0 g)))).snd.fst (nearAll px py (unSegs (F.sl n (offF 0 g)))).snd.snd) / gcdI (unUp (ratF (nearAll px py (unSegs (F.sl n (offF 0 g)))).snd.fst (nearAll px py (unSegs (F.sl n (offF 0 g)))).snd.snd)) (unDown (ratF (nearAll px py (unSegs (F.sl n (offF 0 g)))).snd.fst (nearAll px py (unSegs (F.sl n (offF 0 g)))).snd.snd))) (unDown (ratF (nearAll px py (unSegs (F.sl n (offF 0 g)))).snd.fst (nearAll px py (unSegs (F.sl n (offF 0 g)))).snd.snd) / gcdI (unUp (ratF (nearAll px py (unSegs (F.sl n (offF 0 g)))).snd.fst (nearAll px py (unSegs (F.sl n (offF 0 g)))).snd.snd)) (unDown (ratF (nearAll px py (unSegs (F.sl n (offF 0 g)))).snd.fst (nearAll px py (unSegs (F.sl n (offF 0 g)))).snd.snd))) then wd2 (unUp (ratF (nearAll px py (unSegs (F.sl n (offF 0 g)))).snd.fst (nearAll px py (unSegs (F.sl n (offF 0 g)))).snd.snd) / gcdI (unUp (ratF (nearAll px py (unSegs (F.sl n (offF 0 g)))).snd.fst (nearAll px py (unSegs (F.sl n (offF 0 g)))).snd.snd)) (unDown (ratF (nearAll px py (unSegs (F.sl n (offF 0 g)))).snd.fst (nearAll px py (unSegs (F.sl n (offF 0 g)))).snd.snd))) else 0), F.int .u64 (bif okT (unUp (ratF (nearAll px py (unSegs (F.sl n (offF 0 g)))).snd.fst (nearAll px py (unSegs (F.sl n (offF 0 g)))).snd.snd) / gcdI (unUp (ratF (nearAll px py (unSegs (F.sl n (offF 0 g)))).snd.fst (nearAll px py (unSegs (F.sl n (offF 0 g)))).snd.snd)) (unDown (ratF (nearAll px py (unSegs (F.sl n (offF 0 g)))).snd.fst (nearAll px py (unSegs (F.sl n (offF 0 g)))).snd.snd))) (unDown (ratF (nearAll px py (unSegs (F.sl n (offF 0 g)))).snd.fst (nearAll px py (unSegs (F.sl n (offF 0 g)))).snd.snd) / gcdI (unUp (ratF (nearAll px py (unSegs (F.sl n (offF 0 g)))).snd.fst (nearAll px py (unSegs (F.sl n (offF 0 g)))).snd.snd)) (unDown (ratF (nearAll px py (unSegs (F.sl n (offF 0 g)))).snd.fst (nearAll px py (unSegs (F.sl n (offF 0 g)))).snd.snd))) then wd1 (unUp (ratF (nearAll px py (unSegs (F.sl n (offF 0 g)))).snd.fst (nearAll px py (unSegs (F.sl n (offF 0 g)))).snd.snd) / gcdI (unUp (ratF (nearAll px py (unSegs (F.sl n (offF 0 g)))).snd.fst (nearAll px py (unSegs (F.sl n (offF 0 g)))).snd.snd)) (unDown (ratF (nearAll px py (unSegs (F.sl n (offF 0 g)))).snd.fst (nearAll px py (unSegs (F.sl n (offF 0 g)))).snd.snd))) else 0), F.int .u64 (bif okT (unUp (ratF (nearAll px py (unSegs (F.sl n (offF 0 g)))).snd.fst (nearAll px py (unSegs (F.sl n (offF 0 g)))).snd.snd) / gcdI (unUp (ratF (nearAll px py (unSegs (F.sl n (offF 0 g)))).snd.fst (nearAll px py (unSegs (F.sl n (offF 0 g)))).snd.snd)) (unDown (ratF (nearAll px py (unSegs (F.sl n (offF 0 g)))).snd.fst (nearAll px py (unSegs (F.sl n (offF 0 g)))).snd.snd))) (unDown (ratF (nearAll px py (unSegs (F.sl n (offF 0 g)))).snd.fst (nearAll px py (unSegs (F.sl n (offF 0 g)))).snd.snd) / gcdI (unUp (ratF (nearAll px py (unSegs (F.sl n (offF 0 g)))).snd.fst (nearAll px py (unSegs (F.sl n (offF 0 g)))).snd.snd)) (unDown (ratF (nearAll px py (unSegs (F.sl n (offF 0 g)))).snd.fst (nearAll px py (unSegs (F.sl n (offF 0 g)))).snd.snd))) then wd0 (unUp (ratF (nearAll px py (unSegs (F.sl n (offF 0 g)))).snd.fst (nearAll px py (unSegs (F.sl n (offF 0 g)))).snd.snd) / gcdI (unUp (ratF (nearAll px py (unSegs (F.sl n (offF 0 g)))).snd.fst (nearAll px py (unSegs (F.sl n (offF 0 g)))).snd.snd)) (unDown (ratF (nearAll px py (unSegs (F.sl n (offF 0 g)))).snd.fst (nearAll px py (unSegs (F.sl n (offF 0 g)))).snd.snd))) else 0), F.int .u64 (bif okT (unUp (ratF (nearAll px py (unSegs (F.sl n (offF 0 g)))).snd.fst (nearAll px py (unSegs (F.sl n (offF 0 g)))).snd.snd) / gcdI (unUp (ratF (nearAll px py (unSegs (F.sl n (offF 0 g)))).snd.fst (nearAll px py (unSegs (F.sl n (offF 0 g)))).snd.snd)) (unDown (ratF (nearAll px py (unSegs (F.sl n (offF 0 g)))).snd.fst (nearAll px py (unSegs (F.sl n (offF 0 g)))).snd.snd))) (unDown (ratF (nearAll px py (unSegs (F.sl n (offF 0 g)))).snd.fst (nearAll px py (unSegs (F.sl n (offF 0 g)))).snd.snd) / gcdI (unUp (ratF (nearAll px py (unSegs (F.sl n (offF 0 g)))).snd.fst (nearAll px py (unSegs (F.sl n (offF 0 g)))).snd.snd)) (unDown (ratF (nearAll px py (unSegs (F.sl n (offF 0 g)))).snd.fst (nearAll px py (unSegs (F.sl n (offF 0 g)))).snd.snd))) then wd3 (unDown (ratF (nearAll px py (unSegs (F.sl n (offF 0 g)))).snd.fst (nearAll px py (unSegs (F.sl n (offF 0 g)))).snd.snd) / gcdI (unUp (ratF (nearAll px py (unSegs (F.sl n (offF 0 g)))).snd.fst (nearAll px py (unSegs (F.sl n (offF 0 g)))).snd.snd)) (unDown (ratF (nearAll px py (unSegs (F.sl n (offF 0 g)))).snd.fst (nearAll px py (unSegs (F.sl n (offF 0 g)))).snd.snd))) else 0), F.int .u64 (bif okT (unUp (ratF (nearAll px py (unSegs (F.sl n (offF 0 g)))).snd.fst (nearAll px py (unSegs (F.sl n (offF 0 g)))).snd.snd) / gcdI (unUp (ratF (nearAll px py (unSegs (F.sl n (offF 0 g)))).snd.fst (nearAll px py (unSegs (F.sl n (offF 0 g)))).snd.snd)) (unDown (ratF (nearAll px py (unSegs (F.sl n (offF 0 g)))).snd.fst (nearAll px py (unSegs (F.sl n (offF 0 g)))).snd.snd))) (unDown (ratF (nearAll px py (unSegs (F.sl n (offF 0 g)))).snd.fst (nearAll px py (unSegs (F.sl n (offF 0 g)))).snd.snd) / gcdI (unUp (ratF (nearAll px py (unSegs (F.sl n (offF 0 g)))).snd.fst (nearAll px py (unSegs (F.sl n (offF 0 g)))).snd.snd)) (unDown (ratF (nearAll px py (unSegs (F.sl n (offF 0 g)))).snd.fst (nearAll px py (unSegs (F.sl n (offF 0 g)))).snd.snd))) then wd2 (unDown (ratF (nearAll px py (unSegs (F.sl n (offF 0 g)))).snd.fst (nearAll px py (unSegs (F.sl n (offF 0 g)))).snd.snd) / gcdI (unUp (ratF (nearAll px py (unSegs (F.sl n (offF 0 g)))).snd.fst (nearAll px py (unSegs (F.sl n (offF 0 g)))).snd.snd)) (unDown (ratF (nearAll px py (unSegs (F.sl n (offF 0 g)))).snd.fst (nearAll px py (unSegs (F.sl n (offF 0 g)))).snd.snd))) else 0), F.int .u64 (bif okT (unUp (ratF (nearAll px py (unSegs (F.sl n (offF 0 g)))).snd.fst (nearAll px py (unSegs (F.sl n (offF 0 g)))).snd.snd) / gcdI (unUp (ratF (nearAll px py (unSegs (F.sl n (offF 0 g)))).snd.fst (nearAll px py (unSegs (F.sl n (offF 0 g)))).snd.snd)) (unDown (ratF (nearAll px py (unSegs (F.sl n (offF 0 g)))).snd.fst (nearAll px py (unSegs (F.sl n (offF 0 g)))).snd.snd))) (unDown (ratF (nearAll px py (unSegs (F.sl n (offF 0 g)))).snd.fst (nearAll px py (unSegs (F.sl n (offF 0 g)))).snd.snd) / gcdI (unUp (ratF (nearAll px py (unSegs (F.sl n (offF 0 g)))).snd.fst (nearAll px py (unSegs (F.sl n (offF 0 g)))).snd.snd)) (unDown (ratF (nearAll px py (unSegs (F.sl n (offF 0 g)))).snd.fst (nearAll px py (unSegs (F.sl n (offF 0 g)))).snd.snd))) then wd1 (unDown (ratF (nearAll px py (unSegs (F.sl n (offF 0 g)))).snd.fst (nearAll px py (unSegs (F.sl n (offF 0 g)))).snd.snd) / gcdI (unUp (ratF (nearAll px py (unSegs (F.sl n (offF 0 g)))).snd.fst (nearAll px py (unSegs (F.sl n (offF 0 g)))).snd.snd)) (unDown (ratF (nearAll px py (unSegs (F.sl n (offF 0 g)))).snd.fst (nearAll px py (unSegs (F.sl n (offF 0 g)))).snd.snd))) else 0), F.int .u64 (bif okT (unUp (ratF (nearAll px py (unSegs (F.sl n (offF 0 g)))).snd.fst (nearAll px py (unSegs (F.sl n (offF 0 g)))).snd.snd) / gcdI (unUp (ratF (nearAll px py (unSegs (F.sl n (offF 0 g)))).snd.fst (nearAll px py (unSegs (F.sl n (offF 0 g)))).snd.snd)) (unDown (ratF (nearAll px py (unSegs (F.sl n (offF 0 g)))).snd.fst (nearAll px py (unSegs (F.sl n (offF 0 g)))).snd.snd))) (unDown (ratF (nearAll px py (unSegs (F.sl n (offF 0 g)))).snd.fst (nearAll px py (unSegs (F.sl n (offF 0 g)))).snd.snd) / gcdI (unUp (ratF (nearAll px py (unSegs (F.sl n (offF 0 g)))).snd.fst (nearAll px py (unSegs (F.sl n (offF 0 g)))).snd.snd)) (unDown (ratF (nearAll px py (unSegs (F.sl n (offF 0 g)))).snd.fst (nearAll px py (unSegs (F.sl n (offF 0 g)))).snd.snd))) then wd0 (unDown (ratF (nearAll px py (unSegs (F.sl n (offF 0 g)))).snd.fst (nearAll px py (unSegs (F.sl n (offF 0 g)))).snd.snd) / gcdI (unUp (ratF (nearAll px py (unSegs (F.sl n (offF 0 g)))).snd.fst (nearAll px py (unSegs (F.sl n (offF 0 g)))).snd.snd)) (unDown (ratF (nearAll px py (unSegs (F.sl n (offF 0 g)))).snd.fst (nearAll px py (unSegs (F.sl n (offF 0 g)))).snd.snd))) else 0)], F.bool (okT (unUp (ratF (nearAll px py (unSegs (F.sl n (offF 0 g)))).snd.fst (nearAll px py (unSegs (F.sl n (offF 0 g)))).snd.snd) / gcdI (unUp (ratF (nearAll px py (unSegs (F.sl n (offF 0 g)))).snd.fst (nearAll px py (unSegs (F.sl n (offF 0 g)))).snd.snd)) (unDown (ratF (nearAll px py (unSegs (F.sl n (offF 0 g)))).snd.fst (nearAll px py (unSegs (F.sl n (offF 0 g)))).snd.snd))) (unDown (ratF (nearAll px py (unSegs (F.sl n (offF 0 g)))).snd.fst (nearAll px py (unSegs (F.sl n (offF 0 g)))).snd.snd) / gcdI (unUp (ratF (nearAll px py (unSegs (F.sl n (offF 0 g)))).snd.fst (nearAll px py (unSegs (F.sl n (offF 0 g)))).snd.snd)) (unDown (ratF (nearAll px py (unSegs (F.sl n (offF 0 g)))).snd.fst (nearAll px py (unSegs (F.sl n (offF 0 g)))).snd.snd))))]))
 none)
 none)
 none)
 none)
 none))
def L8_5 : Nat → (Qd) → (Int) → (Int) → (Nat) → (Nat → F) → (Int) → (Int) → Option (F)
  | 0, _, _, _, _, _, _, _ => none
  | k + 1, q, px, py, n, g, m, i => T8_5 some (L8_5 k) q px py n g m i
def T8 {ρ : Type} (ret : (F) → Option ρ) (c5 : (Qd) → (Int) → (Int) → (Nat) → (Nat → F) → (Int) → (Int) → Option ρ) (q : Qd) (px : Int) (py : Int) : Option ρ :=
 (bsel (isQd (qdF q) && allShortV (unQd (qdF q)).blocks)
 (bsel ((!(treeV (unQd (qdF q))).snd) == false)
 (bsel ((!spotOkV px py) == false)
 (bsel ((↑q.items.length : Int) == 0)
 (ret (F.tup [F.int .i64 0, F.agg [F.int .u64 0, F.int .u64 0, F.int .u64 0, F.int .u64 0, F.int .u64 0, F.int .u64 0, F.int .u64 0, F.int .u64 0], F.bool false]))
 (c5 (q) (px) (py) (0) (lget []) ((↑q.items.length : Int)) (0)))
 (ret (F.tup [F.int .i64 0, F.agg [F.int .u64 0, F.int .u64 0, F.int .u64 0, F.int .u64 0, F.int .u64 0, F.int .u64 0, F.int .u64 0, F.int .u64 0], F.bool false])))
 (ret (F.tup [F.int .i64 0, F.agg [F.int .u64 0, F.int .u64 0, F.int .u64 0, F.int .u64 0, F.int .u64 0, F.int .u64 0, F.int .u64 0, F.int .u64 0], F.bool false])))
 none)
def G8 (k : Nat) (q : Qd) (px : Int) (py : Int) : Option (F) := T8 some (L8_5 k) q px py
theorem t8_5 : ∀ (k : Nat) (q : Qd) (px : Int) (py : Int) (n : Nat) (g : Nat → F) (m : Int) (i : Int) (r : F), L8_5 k q px py n g m i = some r → Ends Tryz.prog Tryz.f8.results.toList (at_ Tryz.f8 5) (S8_5 q px py n g m i) (r)
  | 0, _, _, _, _, _, _, _, _, h => nomatch h
  | k + 1, q, px, py, n, g, m, i, r, h => by
    refine Ends.of_cut tyOK envP0_ok (T := [(5, [2, 3, 5, 7, 31, 32, 33], 1000)]) (n := 200) ?_
    have e : runCut Tryz.prog (tiOf Tryz.prog) envP0 [(5, [2, 3, 5, 7, 31, 32, 33], 1000)] 0 Tryz.f8.results.toList some 200 (at_ Tryz.f8 5) (S8_5 q px py n g m i) = T8_5 (fun r => some (.ret (r))) (fun q px py n g m i => some (.cut (at_ Tryz.f8 5) (S8_5 q px py n g m i))) q px py n g m i := by kernel_rfl
    rw [e]
    exact (good_sel h (fun _ h => (good_sel h (fun _ h => (good_sel h (fun _ h => (good_sel h (fun _ h => (good_sel h (fun _ h => (good_sel h (fun _ h => good_cut (t8_5 k _ _ _ _ _ _ _ r h)) (fun _ h => nomatch h))) (fun _ h => nomatch h))) (fun _ h => nomatch h))) (fun _ h => nomatch h))) (fun _ h => nomatch h))) (fun _ h => (good_sel h (fun _ h => (good_sel h (fun _ h => (good_sel h (fun _ h => (good_sel h (fun _ h => (good_sel h (fun _ h => good_ret (by cases h; rfl)) (fun _ h => nomatch h))) (fun _ h => nomatch h))) (fun _ h => nomatch h))) (fun _ h => nomatch h))) (fun _ h => nomatch h))))
theorem t8 (k : Nat) (q : Qd) (px : Int) (py : Int) (r : F) (h : G8 k q px py = some r) : Ends Tryz.prog Tryz.f8.results.toList [.code (bodyOf Tryz.f8)] (start Tryz.f8.ntmps ([qdF q, F.agg [F.int .i64 px, F.int .i64 py]].map .f)) (r) := by
  refine Ends.of_run tyOK envP0_ok (T := [(5, [2, 3, 5, 7, 31, 32, 33], 1000)]) (n := 200) ?_
  have e : run Tryz.prog (tiOf Tryz.prog) envP0 [(5, [2, 3, 5, 7, 31, 32, 33], 1000)] 0 Tryz.f8.results.toList some 200 [.code (bodyOf Tryz.f8)] (start Tryz.f8.ntmps ([qdF q, F.agg [F.int .i64 px, F.int .i64 py]].map .f)) = T8 (fun r => some (.ret (r))) (fun q px py n g m i => some (.cut (at_ Tryz.f8 5) (S8_5 q px py n g m i))) q px py := by kernel_rfl
  rw [e]
  exact (good_sel h (fun _ h => (good_sel h (fun _ h => (good_sel h (fun _ h => (good_sel h (fun _ h => good_ret (by cases h; rfl)) (fun _ h => good_cut (t8_5 k _ _ _ _ _ _ _ r h)))) (fun _ h => good_ret (by cases h; rfl)))) (fun _ h => good_ret (by cases h; rfl)))) (fun _ h => nomatch h))
/-! ### function 5 -/
def S5_7 (q : Qd) (px : Int) (py : Int) (best : Int) (u : Int) (d : Int) (i : Int) : St := ⟨[.bad, .bad, (U.hp 0 0), (U.hp 1 0), .bad, (U.hp 2 0), .bad, .bad, .bad, (U.f (F.int .i64 best)), (U.hp 3 0), (U.f (F.int .i64 i)), .bad, .bad, .bad, .bad, .bad, .bad, .bad, .bad, .bad, .bad, .bad, .bad, .bad, .bad, .bad, .bad, .bad, .bad, .bad, .bad, .bad, .bad, .bad, .bad, .bad, .bad, .bad, .bad, .bad, .bad, .bad, .bad, .bad, .bad, .bad, .bad, .bad, .bad, .bad, .bad, .bad, .bad, .bad, .bad, .bad, .bad, .bad, .bad, .bad, .bad, .bad, .bad, .bad, .bad, .bad, .bad, .bad, .bad, .bad, .bad, .bad, .bad], [HO.box [(U.f (F.int .i64 q.most)), (U.f (F.int .i64 q.deep)), (U.f (itemsF q.items)), (U.f (blocksF q.blocks))], HO.box [(U.f (F.int .i64 px)), (U.f (F.int .i64 py))], HO.box [(U.f (F.int .u64 0)), (U.f (F.int .u64 0)), (U.f (F.int .u64 0)), (U.f (F.int .u64 0)), (U.f (F.int .u64 0)), (U.f (F.int .u64 0)), (U.f (F.int .u64 0)), (U.f (F.int .u64 0))], HO.box [(U.f (F.bool (decide (u < 0)))), (U.f (halvesF (digs 4294967296 u.natAbs))), (U.f (F.bool (decide (d < 0)))), (U.f (halvesF (digs 4294967296 d.natAbs)))]]⟩
def T5_7 {ρ : Type} (ret : (F) → Option ρ) (c7 : (Qd) → (Int) → (Int) → (Int) → (Int) → (Int) → (Int) → Option ρ) (q : Qd) (px : Int) (py : Int) (best : Int) (u : Int) (d : Int) (i : Int) : Option ρ :=
 (bsel (decide (i < (↑q.items.length : Int)))
 (bsel (decide (0 ≤ i))
 (bsel (decide (i < (↑q.items.length : Int)))
 (bsel (isNearArg (q.items.getD i.toNat It.zero).x0 (q.items.getD i.toNat It.zero).y0 (q.items.getD i.toNat It.zero).x1 (q.items.getD i.toNat It.zero).y1 px py)
 (bsel (isL2r 390 (l2rF (lowU (nearU (q.items.getD i.toNat It.zero).x0 (q.items.getD i.toNat It.zero).y0 (q.items.getD i.toNat It.zero).x1 (q.items.getD i.toNat It.zero).y1 px py) (nearD (q.items.getD i.toNat It.zero).x0 (q.items.getD i.toNat It.zero).y0 (q.items.getD i.toNat It.zero).x1 (q.items.getD i.toNat It.zero).y1 px py)) (lowD (nearU (q.items.getD i.toNat It.zero).x0 (q.items.getD i.toNat It.zero).y0 (q.items.getD i.toNat It.zero).x1 (q.items.getD i.toNat It.zero).y1 px py) (nearD (q.items.getD i.toNat It.zero).x0 (q.items.getD i.toNat It.zero).y0 (q.items.getD i.toNat It.zero).x1 (q.items.getD i.toNat It.zero).y1 px py))) && isL2r 390 (l2rF u d))
 (bsel (decide ((unUp3 (l2rF (lowU (nearU (q.items.getD i.toNat It.zero).x0 (q.items.getD i.toNat It.zero).y0 (q.items.getD i.toNat It.zero).x1 (q.items.getD i.toNat It.zero).y1 px py) (nearD (q.items.getD i.toNat It.zero).x0 (q.items.getD i.toNat It.zero).y0 (q.items.getD i.toNat It.zero).x1 (q.items.getD i.toNat It.zero).y1 px py)) (lowD (nearU (q.items.getD i.toNat It.zero).x0 (q.items.getD i.toNat It.zero).y0 (q.items.getD i.toNat It.zero).x1 (q.items.getD i.toNat It.zero).y1 px py) (nearD (q.items.getD i.toNat It.zero).x0 (q.items.getD i.toNat It.zero).y0 (q.items.getD i.toNat It.zero).x1 (q.items.getD i.toNat It.zero).y1 px py))) * unDown3 (l2rF u d) - unUp3 (l2rF u d) * unDown3 (l2rF (lowU (nearU (q.items.getD i.toNat It.zero).x0 (q.items.getD i.toNat It.zero).y0 (q.items.getD i.toNat It.zero).x1 (q.items.getD i.toNat It.zero).y1 px py) (nearD (q.items.getD i.toNat It.zero).x0 (q.items.getD i.toNat It.zero).y0 (q.items.getD i.toNat It.zero).x1 (q.items.getD i.toNat It.zero).y1 px py)) (lowD (nearU (q.items.getD i.toNat It.zero).x0 (q.items.getD i.toNat It.zero).y0 (q.items.getD i.toNat It.zero).x1 (q.items.getD i.toNat It.zero).y1 px py) (nearD (q.items.getD i.toNat It.zero).x0 (q.items.getD i.toNat It.zero).y0 (q.items.getD i.toNat It.zero).x1 (q.items.getD i.toNat It.zero).y1 px py)))).sign < 0))
 (c7 (q) (px) (py) (i) (lowU (nearU (q.items.getD i.toNat It.zero).x0 (q.items.getD i.toNat It.zero).y0 (q.items.getD i.toNat It.zero).x1 (q.items.getD i.toNat It.zero).y1 px py) (nearD (q.items.getD i.toNat It.zero).x0 (q.items.getD i.toNat It.zero).y0 (q.items.getD i.toNat It.zero).x1 (q.items.getD i.toNat It.zero).y1 px py)) (lowD (nearU (q.items.getD i.toNat It.zero).x0 (q.items.getD i.toNat It.zero).y0 (q.items.getD i.toNat It.zero).x1 (q.items.getD i.toNat It.zero).y1 px py) (nearD (q.items.getD i.toNat It.zero).x0 (q.items.getD i.toNat It.zero).y0 (q.items.getD i.toNat It.zero).x1 (q.items.getD i.toNat It.zero).y1 px py)) (IntKind.i64.wrap (i + 1)))
 (c7 (q) (px) (py) (best) (u) (d) (IntKind.i64.wrap (i + 1))))
 none)
 none)
 none)
 none)
 (bsel (isL2r 800 (l2rF u d))
 (bsel (decide (0 ≤ best))
 (bsel (decide (best < (↑q.items.length : Int)))
 (ret (F.tup [F.int .i64 (q.items.getD best.toNat It.zero).id, F.agg [F.int .u64 (bif okT (unUp3 (l2rF u d)) (unDown3 (l2rF u d)) then wd3 (unUp3 (l2rF u d)) else 0), F.int .u64 (bif okT (unUp3 (l2rF u d)) (unDown3 (l2rF u d)) then wd2 (unUp3 (l2rF u d)) else 0), F.int .u64 (bif okT (unUp3 (l2rF u d)) (unDown3 (l2rF u d)) then wd1 (unUp3 (l2rF u d)) else 0), F.int .u64 (bif okT (unUp3 (l2rF u d)) (unDown3 (l2rF u d)) then wd0 (unUp3 (l2rF u d)) else 0), F.int .u64 (bif okT (unUp3 (l2rF u d)) (unDown3 (l2rF u d)) then wd3 (unDown3 (l2rF u d)) else 0), F.int .u64 (bif okT (unUp3 (l2rF u d)) (unDown3 (l2rF u d)) then wd2 (unDown3 (l2rF u d)) else 0), F.int .u64 (bif okT (unUp3 (l2rF u d)) (unDown3 (l2rF u d)) then wd1 (unDown3 (l2rF u d)) else 0), F.int .u64 (bif okT (unUp3 (l2rF u d)) (unDown3 (l2rF u d)) then wd0 (unDown3 (l2rF u d)) else 0)], F.bool true]))
 none)
 none)
 none))
def L5_7 : Nat → (Qd) → (Int) → (Int) → (Int) → (Int) → (Int) → (Int) → Option (F)
  | 0, _, _, _, _, _, _, _ => none
  | k + 1, q, px, py, best, u, d, i => T5_7 some (L5_7 k) q px py best u d i
def T5 {ρ : Type} (ret : (F) → Option ρ) (c7 : (Qd) → (Int) → (Int) → (Int) → (Int) → (Int) → (Int) → Option ρ) (q : Qd) (px : Int) (py : Int) : Option ρ :=
 (bsel (isQd (qdF q) && allShortV (unQd (qdF q)).blocks)
 (bsel ((!(treeV (unQd (qdF q))).snd) == false)
 (bsel ((!spotOkV px py) == false)
 (bsel ((↑q.items.length : Int) == 0)
 (ret (F.tup [F.int .i64 0, F.agg [F.int .u64 0, F.int .u64 0, F.int .u64 0, F.int .u64 0, F.int .u64 0, F.int .u64 0, F.int .u64 0, F.int .u64 0], F.bool false]))
 (bsel (decide (0 < (↑q.items.length : Int)))
 (bsel (isNearArg (q.items.getD (Int.toNat 0) It.zero).x0 (q.items.getD (Int.toNat 0) It.zero).y0 (q.items.getD (Int.toNat 0) It.zero).x1 (q.items.getD (Int.toNat 0) It.zero).y1 px py)
 (c7 (q) (px) (py) (0) (lowU (nearU (q.items.getD (Int.toNat 0) It.zero).x0 (q.items.getD (Int.toNat 0) It.zero).y0 (q.items.getD (Int.toNat 0) It.zero).x1 (q.items.getD (Int.toNat 0) It.zero).y1 px py) (nearD (q.items.getD (Int.toNat 0) It.zero).x0 (q.items.getD (Int.toNat 0) It.zero).y0 (q.items.getD (Int.toNat 0) It.zero).x1 (q.items.getD (Int.toNat 0) It.zero).y1 px py)) (lowD (nearU (q.items.getD (Int.toNat 0) It.zero).x0 (q.items.getD (Int.toNat 0) It.zero).y0 (q.items.getD (Int.toNat 0) It.zero).x1 (q.items.getD (Int.toNat 0) It.zero).y1 px py) (nearD (q.items.getD (Int.toNat 0) It.zero).x0 (q.items.getD (Int.toNat 0) It.zero).y0 (q.items.getD (Int.toNat 0) It.zero).x1 (q.items.getD (Int.toNat 0) It.zero).y1 px py)) (1))
 none)
 none))
 (ret (F.tup [F.int .i64 0, F.agg [F.int .u64 0, F.int .u64 0, F.int .u64 0, F.int .u64 0, F.int .u64 0, F.int .u64 0, F.int .u64 0, F.int .u64 0], F.bool false])))
 (ret (F.tup [F.int .i64 0, F.agg [F.int .u64 0, F.int .u64 0, F.int .u64 0, F.int .u64 0, F.int .u64 0, F.int .u64 0, F.int .u64 0, F.int .u64 0], F.bool false])))
 none)
def G5 (k : Nat) (q : Qd) (px : Int) (py : Int) : Option (F) := T5 some (L5_7 k) q px py
theorem t5_7 : ∀ (k : Nat) (q : Qd) (px : Int) (py : Int) (best : Int) (u : Int) (d : Int) (i : Int) (r : F), L5_7 k q px py best u d i = some r → Ends Tryz.prog Tryz.f5.results.toList (at_ Tryz.f5 7) (S5_7 q px py best u d i) (r)
  | 0, _, _, _, _, _, _, _, _, h => nomatch h
  | k + 1, q, px, py, best, u, d, i, r, h => by
    refine Ends.of_cut tyOK envP0_ok (T := [(7, [2, 3, 5, 9, 10, 11], 1000)]) (n := 200) ?_
    have e : runCut Tryz.prog (tiOf Tryz.prog) envP0 [(7, [2, 3, 5, 9, 10, 11], 1000)] 0 Tryz.f5.results.toList some 200 (at_ Tryz.f5 7) (S5_7 q px py best u d i) = T5_7 (fun r => some (.ret (r))) (fun q px py best u d i => some (.cut (at_ Tryz.f5 7) (S5_7 q px py best u d i))) q px py best u d i := by kernel_rfl
    rw [e]
    exact (good_sel h (fun _ h => (good_sel h (fun _ h => (good_sel h (fun _ h => (good_sel h (fun _ h => (good_sel h (fun _ h => (good_sel h (fun _ h => good_cut (t5_7 k _ _ _ _ _ _ _ r h)) (fun _ h => good_cut (t5_7 k _ _ _ _ _ _ _ r h)))) (fun _ h => nomatch h))) (fun _ h => nomatch h))) (fun _ h => nomatch h))) (fun _ h => nomatch h))) (fun _ h => (good_sel h (fun _ h => (good_sel h (fun _ h => (good_sel h (fun _ h => good_ret (by cases h; rfl)) (fun _ h => nomatch h))) (fun _ h => nomatch h))) (fun _ h => nomatch h))))
theorem t5 (k : Nat) (q : Qd) (px : Int) (py : Int) (r : F) (h : G5 k q px py = some r) : Ends Tryz.prog Tryz.f5.results.toList [.code (bodyOf Tryz.f5)] (start Tryz.f5.ntmps ([qdF q, F.agg [F.int .i64 px, F.int .i64 py]].map .f)) (r) := by
  refine Ends.of_run tyOK envP0_ok (T := [(7, [2, 3, 5, 9, 10, 11], 1000)]) (n := 200) ?_
  have e : run Tryz.prog (tiOf Tryz.prog) envP0 [(7, [2, 3, 5, 9, 10, 11], 1000)] 0 Tryz.f5.results.toList some 200 [.code (bodyOf Tryz.f5)] (start Tryz.f5.ntmps ([qdF q, F.agg [F.int .i64 px, F.int .i64 py]].map .f)) = T5 (fun r => some (.ret (r))) (fun q px py best u d i => some (.cut (at_ Tryz.f5 7) (S5_7 q px py best u d i))) q px py := by kernel_rfl
  rw [e]
  exact (good_sel h (fun _ h => (good_sel h (fun _ h => (good_sel h (fun _ h => (good_sel h (fun _ h => good_ret (by cases h; rfl)) (fun _ h => (good_sel h (fun _ h => (good_sel h (fun _ h => good_cut (t5_7 k _ _ _ _ _ _ _ r h)) (fun _ h => nomatch h))) (fun _ h => nomatch h))))) (fun _ h => good_ret (by cases h; rfl)))) (fun _ h => good_ret (by cases h; rfl)))) (fun _ h => nomatch h))
/-! What a right tree holds. -/
def segsOf (q : Qd) : List Sg := q.items.map It.sg
theorem itsOk_all : ∀ (l : List It) (p : Option Int), itsOk l p = true → ∀ t ∈ l, sgOk t.sg = true
  | [], _, _, t, ht => by cases ht
  | a :: l, p, h, t, ht => by
    simp only [itsOk, Bool.and_eq_true] at h
    rcases List.mem_cons.1 ht with rfl | ht
    · exact h.1.1.2
    · exact itsOk_all l _ h.2 t ht
theorem tree_items {q : Qd} (h : (treeV q).2 = true) : q.items.length ≤ 40 ∧ ∀ t ∈ q.items, sgOk t.sg = true := by
  rw [← okI_tree] at h
  simp only [okI, Bool.and_eq_true, Bool.not_eq_true', decide_eq_false_iff_not] at h
  exact ⟨by omega, itsOk_all _ _ h.1.2⟩
def qnOk (q : Qd) (px py : Int) : Bool := (treeV q).2 && (spotOkV px py && !(Nat.beq q.items.length 0))
theorem qnOk_near {q : Qd} {px py : Int} (h : qnOk q px py = true) : isNearest (segsOf q) px py = true := by
  simp only [qnOk, Bool.and_eq_true] at h
  obtain ⟨h1, h2⟩ := tree_items h.1
  have hl : (segsOf q).length = q.items.length := by simp [segsOf]
  simp only [isNearest, Bool.and_eq_true, hl]
  refine ⟨segsOk_iff.2 ⟨by omega, fun s hs => ?_⟩, h.2⟩
  simp only [segsOf, List.mem_map] at hs
  obtain ⟨t, ht, rfl⟩ := hs
  exact h2 t ht
theorem segsOf_getD (q : Qd) (i : Nat) : (segsOf q).getD i Sg.zero = (q.items.getD i It.zero).sg := by
  simp only [segsOf, List.getD, List.getElem?_map]
  cases q.items[i]? <;> rfl
theorem nearGo_lt {px py : Int} : ∀ (l : List Sg) (i : Int) (s : Int × Int × Int), s.1 < i → (nearGo px py l i s).1 < i + l.length
  | [], i, s, h => by simpa [nearGo] using h
  | g :: l, i, (b, u, d), h => by
    have h' : b < i := h
    simp only [nearGo, List.length_cons]
    have := nearGo_lt (px := px) (py := py) l (i + 1) (if nU px py g * d - u * nD px py g < 0 then (i, nU px py g, nD px py g) else (b, u, d)) (by split <;> simp only <;> omega)
    omega
theorem nearAll_lt {px py : Int} {l : List Sg} (h : l ≠ []) : (nearAll px py l).1 < l.length := by
  cases l with
  | nil => exact absurd rfl h
  | cons g r =>
    have := nearGo_lt (px := px) (py := py) r 1 (0, nU px py g, nD px py g) (show (0 : Int) < 1 by omega)
    simp only [nearAll, List.length_cons]
    omega
def qnI (q : Qd) (px py : Int) : Int := bif qnOk q px py then (q.items.getD (nearAll px py (segsOf q)).1.toNat It.zero).id else 0
def qnU (q : Qd) (px py : Int) : Int := bif qnOk q px py then nsU (segsOf q) px py else 57896044618658097711785492504343953926634992332820282019728792003956564819968
def qnD (q : Qd) (px py : Int) : Int := bif qnOk q px py then nsD (segsOf q) px py else 57896044618658097711785492504343953926634992332820282019728792003956564819968
def qnF (q : Qd) (px py : Int) : F := .tup [.int .i64 (qnI q px py), toldF (qnU q px py) (qnD q px py), .bool (qnOk q px py)]
theorem qn_no {q : Qd} {px py : Int} (h : qnOk q px py = false) : F.tup [F.int .i64 0, F.agg [F.int .u64 0, F.int .u64 0, F.int .u64 0, F.int .u64 0, F.int .u64 0, F.int .u64 0, F.int .u64 0, F.int .u64 0], F.bool false] = qnF q px py := by
  simp only [qnF, qnI, qnU, qnD, h, cond_false]
  rw [toldF_none okT_none]
theorem qn_yes {q : Qd} {px py : Int} (h : qnOk q px py = true) : qnF q px py = .tup [.int .i64 (q.items.getD (nearAll px py (segsOf q)).1.toNat It.zero).id, toldF (lowU (nearAll px py (segsOf q)).2.1 (nearAll px py (segsOf q)).2.2) (lowD (nearAll px py (segsOf q)).2.1 (nearAll px py (segsOf q)).2.2), .bool true] := by
  simp only [qnF, qnI, qnU, qnD, nsU, nsD, h, qnOk_near h, cond_true]
  rfl
theorem qnI_loop {q : Qd} {px py : Int} (h : qnOk q px py = true) : ∀ (m i : Nat) (g : Nat → F), i + m = q.items.length → Lists sgF Sg.zero i g ((segsOf q).take i) →
    L8_5 (m + 1) q px py i g q.items.length i = some (qnF q px py)
  | 0, i, g, hi, hg => by
    obtain rfl : i = q.items.length := by omega
    have hn := qnOk_near h
    obtain ⟨k1, k2, k3, k4⟩ := isNearest_iff hn
    have hlen : (segsOf q).length = q.items.length := by simp [segsOf]
    rw [show (segsOf q).take q.items.length = segsOf q by rw [← hlen]; exact List.take_length ..] at hg
    have hS : F.sl q.items.length (offF 0 g) = F.sl q.items.length g := rfl
    have e1 : isSegs (F.sl q.items.length (offF 0 g)) = true := by
      rw [hS]
      simp only [isSegs, isSl, List.all_eq_true, List.mem_range]
      intro j hj
      rw [hg.2 j hj]
      rfl
    have e2 : unSegs (F.sl q.items.length (offF 0 g)) = segsOf q := by
      rw [hS]
      refine List.ext_getElem (by rw [unSegs, unSl_len, hlen]) fun j h1 h2 => ?_
      have hj : j < q.items.length := by omega
      have := atSegs (n := q.items.length) (g := g) (by rw [← hS]; exact e1) hj
      rw [hg.2 j hj] at this
      simp only [List.getD, List.getElem?_eq_getElem h1, List.getElem?_eq_getElem h2, Option.getD_some] at this
      have inj : ∀ a b : Sg, sgF a = sgF b → a = b := fun a b e => by
        cases a; cases b
        simp only [sgF, F.agg.injEq, List.cons.injEq, F.int.injEq, true_and, and_true] at e
        simp_all
      exact (inj _ _ this).symm
    have ho := nearAll_ok k4 k1 k3
    have e3 := isRat_near ho.up ho.down
    have e4 : isLow (nearAll px py (segsOf q)).2.1 (nearAll px py (segsOf q)).2.2 = true := isLow_iff.2 (by have := ho.down; omega)
    have e5 := nearAll_lt (px := px) (py := py) k1
    rw [L8_5]
    unfold T8_5
    rw [decide_eq_false (by omega), bsel_false, e1, e2, hn, unUp_ratF, unDown_ratF, e3, e4, decide_eq_true (show 0 ≤ (nearAll px py (segsOf q)).1 from ho.idx), decide_eq_true (show (nearAll px py (segsOf q)).1 < (q.items.length : Int) by omega), qn_yes h]
    have e6 := low_okT ho
    simp only [decide_true, Bool.and_self, bsel_true]
    unfold toldF lowU lowD
    unfold lowU lowD at e6
    rw [e6]
  | m + 1, i, g, hi, hg => by
    have hn := qnOk_near h
    obtain ⟨k1, k2, k3, k4⟩ := isNearest_iff hn
    have hlen : (segsOf q).length = q.items.length := by simp [segsOf]
    have hlt : i < (segsOf q).length := by omega
    have hp := hg.push (segsOf q)[i]
    have e7 : (segsOf q).take i ++ [(segsOf q)[i]] = (segsOf q).take (i + 1) := List.take_append_getElem hlt
    rw [e7] at hp
    have e8 : (segsOf q)[i] = (q.items.getD i It.zero).sg := by
      rw [← segsOf_getD]
      simp [List.getD, List.getElem?_eq_getElem hlt]
    have ih := qnI_loop h m (i + 1) _ (by omega) hp
    rw [e8] at ih
    have c3 : decide ((((i + 1 : Nat)) : Int) * (((32 : Nat) : Int) + 1) ≤ (limit : Int)) = true := by rw [limit_eq]; exact decide_eq_true (by omega)
    rw [L8_5]
    unfold T8_5
    rw [c3, decide_eq_true (show (i : Int) < q.items.length by omega), decide_eq_true (show (0 : Int) ≤ i by omega), wrapI (by omega) (by omega), show (i : Int) + 1 = ((i + 1 : Nat) : Int) by omega]
    simp only [decide_true, bsel_true, Int.toNat_natCast]
    exact ih
theorem qnI_law (q : Qd) (px py : Int) (hs : allShortV q.blocks = true) : G8 (q.items.length + 1) q px py = some (qnF q px py) := by
  unfold G8 T8
  simp only [isQd_qdF, unQd_qdF, hs, Bool.and_true, bsel_true]
  cases h1 : (treeV q).2 with
  | false => rw [← qn_no (by simp [qnOk, h1])]; rfl
  | true =>
    cases h2 : spotOkV px py with
    | false => rw [← qn_no (by simp [qnOk, h1, h2])]; rfl
    | true =>
      cases h3 : Nat.beq q.items.length 0 with
      | true =>
        have := Nat.eq_of_beq_eq_true h3
        rw [← qn_no (by simp [qnOk, h1, h2, h3])]
        rw [show ((q.items.length : Int) == 0) = true by rw [this]; rfl]
        rfl
      | false =>
        have hok : qnOk q px py = true := by simp [qnOk, h1, h2, h3]
        have hne : q.items.length ≠ 0 := Nat.ne_of_beq_eq_false h3
        rw [show ((q.items.length : Int) == 0) = false by simp only [beq_eq_false_iff_ne, ne_eq]; omega]
        have := qnI_loop hok q.items.length 0 (lget []) (by omega) (by simpa using Lists.nil)
        exact this
theorem qnS_loop {q : Qd} {px py : Int} (h : qnOk q px py = true) : ∀ (rest : List Sg) (i k : Nat) (s : Int × Int × Int), (segsOf q).drop i = rest → i + rest.length = q.items.length → NearOk s → s.1 < i → rest.length < k →
    L5_7 k q px py s.1 (lowU s.2.1 s.2.2) (lowD s.2.1 s.2.2) i =
      some (.tup [.int .i64 (q.items.getD (nearGo px py rest i s).1.toNat It.zero).id, toldF (lowU (nearGo px py rest i s).2.1 (nearGo px py rest i s).2.2) (lowD (nearGo px py rest i s).2.1 (nearGo px py rest i s).2.2), .bool true])
  | _, _, 0, _, _, _, _, _, hk => by omega
  | [], i, k + 1, (b, u, d), hr, hi, hs, hb, hk => by
    simp only [List.length_nil, Nat.add_zero] at hi
    subst hi
    have h8 : isL2r 800 (l2rF (lowU u d) (lowD u d)) = true := by
      obtain ⟨h1, h2⟩ := l2r_bound (low_ok hs)
      rw [unUp3_l2rF, unDown3_l2rF] at *
      exact isL2r_l2rF (boundC_up h1 (by omega)) (boundC_up h2 (by omega))
    have hb' : b < q.items.length := hb
    have hb0 : 0 ≤ b := hs.idx
    rw [L5_7]
    unfold T5_7
    rw [decide_eq_false (by omega), bsel_false, h8, bsel_true, unUp3_l2rF, unDown3_l2rF, decide_eq_true hb', decide_eq_true hb0]
    rfl
  | g :: rest, i, k + 1, (b, u, d), hr, hi, hs, hb, hk => by
    obtain ⟨k1, k2, k3, k4⟩ := isNearest_iff (qnOk_near h)
    have hlen : (segsOf q).length = q.items.length := by simp [segsOf]
    obtain ⟨hx, hr', hlt⟩ := drop_consS hr
    have hg : sgIn g := k3 g (by rw [← hx]; simp [List.getD, List.getElem?_eq_getElem hlt])
    have hn := nearOk_of hg k4 (show (0 : Int) ≤ (i : Int) by omega)
    have hk' : rest.length < k := by simp at hk; omega
    have hi' : i + 1 + rest.length = q.items.length := by simp only [List.length_cons] at hi; omega
    have o1 := low_ok hn
    have o2 := low_ok hs
    simp only at o1 o2
    rw [segsOf_getD] at hx
    have x0 : (q.items.getD i It.zero).x0 = g.x0 := by rw [← hx]; rfl
    have y0 : (q.items.getD i It.zero).y0 = g.y0 := by rw [← hx]; rfl
    have x1 : (q.items.getD i It.zero).x1 = g.x1 := by rw [← hx]; rfl
    have y1 : (q.items.getD i It.zero).y1 = g.y1 := by rw [← hx]; rfl
    rw [L5_7]
    unfold T5_7
    rw [Int.toNat_natCast, x0, y0, x1, y1]
    rw [show nearU g.x0 g.y0 g.x1 g.y1 px py = nU px py g from rfl, show nearD g.x0 g.y0 g.x1 g.y1 px py = nD px py g from rfl]
    rw [isNearArg_iff.2 ⟨hg.1, hg.2, k4⟩, o1, o2, unUp3_l2rF, unUp3_l2rF, unDown3_l2rF, unDown3_l2rF]
    rw [decide_eq_true (show (i : Int) < q.items.length by omega), decide_eq_true (show (0 : Int) ≤ i by omega), Bool.and_self, wrapI (by omega) (by omega), show (i : Int) + 1 = ((i + 1 : Nat) : Int) by omega]
    simp only [bsel_true, nearGo]
    have hb' : b < i := hb
    have hcmp := low_cmp (u := nU px py g) (d := nD px py g) (v := u) (e := d) hn.down.1 hs.down.1
    by_cases hc : nU px py g * d - u * nD px py g < 0
    · rw [decide_eq_true (show (lowU (nU px py g) (nD px py g) * lowD u d - lowU u d * lowD (nU px py g) (nD px py g)).sign < 0 from Int.sign_neg_iff.2 (hcmp.2 hc)), bsel_true, if_pos hc]
      exact qnS_loop h rest (i + 1) k (i, nU px py g, nD px py g) hr' hi' hn (by simp only; omega) hk'
    · rw [decide_eq_false (show ¬ (lowU (nU px py g) (nD px py g) * lowD u d - lowU u d * lowD (nU px py g) (nD px py g)).sign < 0 from fun h => hc (hcmp.1 (Int.sign_neg_iff.1 h))), bsel_false, if_neg hc]
      exact qnS_loop h rest (i + 1) k (b, u, d) hr' hi' hs (by simp only; omega) hk'
theorem qnS_law (q : Qd) (px py : Int) (hs : allShortV q.blocks = true) : G5 (q.items.length + 1) q px py = some (qnF q px py) := by
  unfold G5 T5
  simp only [isQd_qdF, unQd_qdF, hs, Bool.and_true, bsel_true]
  cases h1 : (treeV q).2 with
  | false => rw [← qn_no (by simp [qnOk, h1])]; rfl
  | true =>
    cases h2 : spotOkV px py with
    | false => rw [← qn_no (by simp [qnOk, h1, h2])]; rfl
    | true =>
      cases h3 : Nat.beq q.items.length 0 with
      | true =>
        have := Nat.eq_of_beq_eq_true h3
        rw [← qn_no (by simp [qnOk, h1, h2, h3])]
        rw [show ((q.items.length : Int) == 0) = true by rw [this]; rfl]
        rfl
      | false =>
        have hok : qnOk q px py = true := by simp [qnOk, h1, h2, h3]
        have hne : q.items.length ≠ 0 := Nat.ne_of_beq_eq_false h3
        obtain ⟨k1, k2, k3, k4⟩ := isNearest_iff (qnOk_near hok)
        have hlen : (segsOf q).length = q.items.length := by simp [segsOf]
        cases hl : segsOf q with
        | nil => rw [hl] at hlen; simp at hlen; omega
        | cons g rest =>
          have hg : sgIn g := k3 g (by rw [hl]; simp)
          have hx : (q.items.getD 0 It.zero).sg = g := by rw [← segsOf_getD, hl]; rfl
          have x0 : (q.items.getD 0 It.zero).x0 = g.x0 := by rw [← hx]; rfl
          have y0 : (q.items.getD 0 It.zero).y0 = g.y0 := by rw [← hx]; rfl
          have x1 : (q.items.getD 0 It.zero).x1 = g.x1 := by rw [← hx]; rfl
          have y1 : (q.items.getD 0 It.zero).y1 = g.y1 := by rw [← hx]; rfl
          have hlr : rest.length + 1 = q.items.length := by rw [← hlen, hl]; rfl
          have hno := nearOk_of (px := px) (py := py) hg k4 (show (0 : Int) ≤ 0 by omega)
          have hloop := qnS_loop hok rest 1 (q.items.length + 1) (0, nU px py g, nD px py g) (by rw [hl]; rfl) (by omega) hno (show (0 : Int) < ((1 : Nat) : Int) by omega) (by omega)
          rw [show ((q.items.length : Int) == 0) = false by simp only [beq_eq_false_iff_ne, ne_eq]; omega, decide_eq_true (show (0 : Int) < (q.items.length : Int) by omega), show Int.toNat 0 = 0 from rfl, x0, y0, x1, y1, isNearArg_iff.2 ⟨hg.1, hg.2, k4⟩, qn_yes hok, hl]
          exact hloop
def preQN : List F → Bool | [q, .agg [.int .i64 _, .int .i64 _]] => isQd q && okQd (unQd q) | _ => false
def qnT (u d : Int) (b : Bool) (i : Int) : F := .tup [.int .i64 i, .agg [.int .u64 (bif okT u d then wd3 u else 0), .int .u64 (bif okT u d then wd2 u else 0), .int .u64 (bif okT u d then wd1 u else 0), .int .u64 (bif okT u d then wd0 u else 0),
  .int .u64 (bif okT u d then wd3 d else 0), .int .u64 (bif okT u d then wd2 d else 0), .int .u64 (bif okT u d then wd1 d else 0), .int .u64 (bif okT u d then wd0 d else 0)], .bool b]
def resQN : List F → F | [q, .agg [.int .i64 a, .int .i64 b]] => qnT (qnU (unQd q) a b) (qnD (unQd q) a b) (qnOk (unQd q) a b) (qnI (unQd q) a b) | _ => .dflt
theorem okQNI : PureOK Tryz.prog 8 preQN resQN :=
  fn_pure_at (c := bodyOf Tryz.f8) Tryz.func8 (by kernel_rfl) (by kernel_rfl) fun xs hp => match xs, hp with
  | [q, .agg [.int .i64 a, .int .i64 b]], hp => by
    simp only [preQN, Bool.and_eq_true] at hp
    exact ⟨[qdF (unQd q), _], _, ⟨(qd_eqv hp.1).1, .refl _, trivial⟩, t8 _ _ _ _ _ (qnI_law _ a b hp.2), .refl _⟩
theorem okQNS : PureOK Tryz.prog 5 preQN resQN :=
  fn_pure_at (c := bodyOf Tryz.f5) Tryz.func5 (by kernel_rfl) (by kernel_rfl) fun xs hp => match xs, hp with
  | [q, .agg [.int .i64 a, .int .i64 b]], hp => by
    simp only [preQN, Bool.and_eq_true] at hp
    exact ⟨[qdF (unQd q), _], _, ⟨(qd_eqv hp.1).1, .refl _, trivial⟩, t5 _ _ _ _ _ (qnS_law _ a b hp.2), .refl _⟩
def envP1 : Env := (envP0.add 8 (.pure preQN resQN)).add 5 (.pure preQN resQN)
theorem envP1_ok : EnvOK Tryz.prog envP1 := (Env.add_ok (Env.add_ok envP0_ok okQNI.sp) okQNS.sp)
end
end Go.Proofs.YtdcooaopkbicfaaGreat.R
namespace Go.Proofs.YtdcooaopkbicfaaGreat.R
open Go
noncomputable section
/-! ### function 24 -/
def T24 {ρ : Type} (ret : (Bool) → Option ρ) (a : Int) (b : Int) (c : Int) (d : Int) (u : Int) (v : Int) (w : Int) (x : Int) : Option ρ :=
 (bsel (a != u)
 (ret (false))
 (bsel (b != v)
 (ret (false))
 (bsel (c != w)
 (ret (false))
 (bsel (d != x)
 (ret (false))
 (ret (true))))))
def G24 (a : Int) (b : Int) (c : Int) (d : Int) (u : Int) (v : Int) (w : Int) (x : Int) : Option (Bool) := T24 some a b c d u v w x
theorem t24 (a : Int) (b : Int) (c : Int) (d : Int) (u : Int) (v : Int) (w : Int) (x : Int) (r : Bool) (h : G24 a b c d u v w x = some r) : Ends Tryz.prog Tryz.f24.results.toList [.code (bodyOf Tryz.f24)] (start Tryz.f24.ntmps ([F.agg [F.int .u64 a, F.int .u64 b, F.int .u64 c, F.int .u64 d], F.agg [F.int .u64 u, F.int .u64 v, F.int .u64 w, F.int .u64 x]].map .f)) (F.bool r) := by
  refine Ends.of_run tyOK envP1_ok (T := []) (n := 200) ?_
  have e : run Tryz.prog (tiOf Tryz.prog) envP1 [] 0 Tryz.f24.results.toList some 200 [.code (bodyOf Tryz.f24)] (start Tryz.f24.ntmps ([F.agg [F.int .u64 a, F.int .u64 b, F.int .u64 c, F.int .u64 d], F.agg [F.int .u64 u, F.int .u64 v, F.int .u64 w, F.int .u64 x]].map .f)) = T24 (fun r => some (.ret (F.bool r))) a b c d u v w x := by kernel_rfl
  rw [e]
  exact (good_sel h (fun _ h => good_ret (by cases h; rfl)) (fun _ h => (good_sel h (fun _ h => good_ret (by cases h; rfl)) (fun _ h => (good_sel h (fun _ h => good_ret (by cases h; rfl)) (fun _ h => (good_sel h (fun _ h => good_ret (by cases h; rfl)) (fun _ h => good_ret (by cases h; rfl)))))))))
def sameWV (a b c d e f g h : Int) : Bool := a == e && (b == f && (c == g && d == h))
def pre2wd : List F → Bool | [.agg [.int .u64 _, .int .u64 _, .int .u64 _, .int .u64 _], .agg [.int .u64 _, .int .u64 _, .int .u64 _, .int .u64 _]] => true | _ => false
def resSameWd : List F → F | [.agg [.int .u64 a, .int .u64 b, .int .u64 c, .int .u64 d], .agg [.int .u64 e, .int .u64 f, .int .u64 g, .int .u64 h]] => .bool (sameWV a b c d e f g h) | _ => .dflt
theorem okEqWide : PureOK Tryz.prog 24 pre2wd resSameWd :=
  fn_pure (c := bodyOf Tryz.f24) Tryz.func24 (by kernel_rfl) (by kernel_rfl) fun xs hp => match xs, hp with
  | [.agg [.int .u64 a, .int .u64 b, .int .u64 c, .int .u64 d], .agg [.int .u64 e, .int .u64 f, .int .u64 g, .int .u64 h]], hp => t24 a b c d e f g h (sameWV a b c d e f g h) (by
      unfold G24 T24 sameWV
      simp only [bne]
      cases (a == e) <;> cases (b == f) <;> cases (c == g) <;> cases (d == h) <;> rfl)
theorem sameWV_refl (a b c d : Int) : sameWV a b c d a b c d = true := by simp [sameWV]
def envP2a : Env := envP1.add 24 (.pure pre2wd resSameWd)
theorem envP2a_ok : EnvOK Tryz.prog envP2a := (Env.add_ok envP1_ok okEqWide.sp)
end
end Go.Proofs.YtdcooaopkbicfaaGreat.R
namespace Go.Proofs.YtdcooaopkbicfaaGreat.R
open Go
noncomputable section
/-! ### function 9 -/
def T9 {ρ : Type} (ret : (Bool) → Option ρ) (a : Int) (b : Int) (c : Int) (d : Int) (a' : Int) (b' : Int) (c' : Int) (d' : Int) (u : Int) (v : Int) (w : Int) (x : Int) (u' : Int) (v' : Int) (w' : Int) (x' : Int) : Option ρ :=
 (bsel (!sameWV a b c d u v w x)
 (ret (false))
 (bsel (!sameWV a' b' c' d' u' v' w' x')
 (ret (false))
 (ret (true))))
def G9 (a : Int) (b : Int) (c : Int) (d : Int) (a' : Int) (b' : Int) (c' : Int) (d' : Int) (u : Int) (v : Int) (w : Int) (x : Int) (u' : Int) (v' : Int) (w' : Int) (x' : Int) : Option (Bool) := T9 some a b c d a' b' c' d' u v w x u' v' w' x'
theorem t9 (a : Int) (b : Int) (c : Int) (d : Int) (a' : Int) (b' : Int) (c' : Int) (d' : Int) (u : Int) (v : Int) (w : Int) (x : Int) (u' : Int) (v' : Int) (w' : Int) (x' : Int) (r : Bool) (h : G9 a b c d a' b' c' d' u v w x u' v' w' x' = some r) : Ends Tryz.prog Tryz.f9.results.toList [.code (bodyOf Tryz.f9)] (start Tryz.f9.ntmps ([F.agg [F.int .u64 a, F.int .u64 b, F.int .u64 c, F.int .u64 d, F.int .u64 a', F.int .u64 b', F.int .u64 c', F.int .u64 d'], F.agg [F.int .u64 u, F.int .u64 v, F.int .u64 w, F.int .u64 x, F.int .u64 u', F.int .u64 v', F.int .u64 w', F.int .u64 x']].map .f)) (F.bool r) := by
  refine Ends.of_run tyOK envP2a_ok (T := []) (n := 200) ?_
  have e : run Tryz.prog (tiOf Tryz.prog) envP2a [] 0 Tryz.f9.results.toList some 200 [.code (bodyOf Tryz.f9)] (start Tryz.f9.ntmps ([F.agg [F.int .u64 a, F.int .u64 b, F.int .u64 c, F.int .u64 d, F.int .u64 a', F.int .u64 b', F.int .u64 c', F.int .u64 d'], F.agg [F.int .u64 u, F.int .u64 v, F.int .u64 w, F.int .u64 x, F.int .u64 u', F.int .u64 v', F.int .u64 w', F.int .u64 x']].map .f)) = T9 (fun r => some (.ret (F.bool r))) a b c d a' b' c' d' u v w x u' v' w' x' := by kernel_rfl
  rw [e]
  exact (good_sel h (fun _ h => good_ret (by cases h; rfl)) (fun _ h => (good_sel h (fun _ h => good_ret (by cases h; rfl)) (fun _ h => good_ret (by cases h; rfl)))))
def pre2rt : List F → Bool | [.agg [.int .u64 _, .int .u64 _, .int .u64 _, .int .u64 _, .int .u64 _, .int .u64 _, .int .u64 _, .int .u64 _], .agg [.int .u64 _, .int .u64 _, .int .u64 _, .int .u64 _, .int .u64 _, .int .u64 _, .int .u64 _, .int .u64 _]] => true | _ => false
def resSameRt : List F → F | [.agg [.int .u64 a, .int .u64 b, .int .u64 c, .int .u64 d, .int .u64 a', .int .u64 b', .int .u64 c', .int .u64 d'], .agg [.int .u64 e, .int .u64 f, .int .u64 g, .int .u64 h, .int .u64 e', .int .u64 f', .int .u64 g', .int .u64 h']] => .bool (sameWV a b c d e f g h && sameWV a' b' c' d' e' f' g' h') | _ => .dflt
theorem okEqRatio : PureOK Tryz.prog 9 pre2rt resSameRt :=
  fn_pure (c := bodyOf Tryz.f9) Tryz.func9 (by kernel_rfl) (by kernel_rfl) fun xs hp => match xs, hp with
  | [.agg [.int .u64 a, .int .u64 b, .int .u64 c, .int .u64 d, .int .u64 a', .int .u64 b', .int .u64 c', .int .u64 d'], .agg [.int .u64 e, .int .u64 f, .int .u64 g, .int .u64 h, .int .u64 e', .int .u64 f', .int .u64 g', .int .u64 h']], hp => t9 a b c d a' b' c' d' e f g h e' f' g' h' _ (by
      unfold G9 T9
      cases sameWV a b c d e f g h <;> cases sameWV a' b' c' d' e' f' g' h' <;> rfl)
def envP2 : Env := envP2a.add 9 (.pure pre2rt resSameRt)
theorem envP2_ok : EnvOK Tryz.prog envP2 := (Env.add_ok envP2a_ok okEqRatio.sp)
end
end Go.Proofs.YtdcooaopkbicfaaGreat.R
namespace Go.Proofs.YtdcooaopkbicfaaGreat.R
open Go Go.ChangeShapes Go.WideShapes Go.RowKit
inductive Sh where
  | bool
  | int (k : IntKind)
  | str
  | sl (ag : Bool) (cs : List Sh)
mutual
def fitC : Sh → F → Bool
  | .bool, .bool _ => true
  | .int k, .int k' n => decide (k' = k) && (Lit.int k n).wf
  | .str, .str s => decide (s.size ≤ maxLen)
  | .sl ag cs, .sl n g => decide (n ≤ maxLen) && (List.range n).all fun i => (fitL cs (g i).cells && (isAggF (g i) == ag))
  | _, _ => false
def fitL : List Sh → List F → Bool
  | [], [] => true
  | s :: ss, x :: xs => fitC s x && fitL ss xs
  | _, _ => false
end
def aggT (P : Program) (t : TypeId) : Bool := match P.underlying t with
  | some (.struct _) => true
  | some (.array _ _) => true
  | _ => false
def shFs (P : Program) (S : TypeId → Option (List Sh)) : Nat → List Field → Option (List Sh)
  | _, [] => some []
  | off, f :: fs => if f.offset = off then match S f.type with
      | some l => if P.cellsOf f.type = l.length then match shFs P S (off + l.length) fs with
          | some ls => some (l ++ ls)
          | none => none
        else none
      | none => none
    else none
def shOf (P : Program) : Nat → TypeId → Option (List Sh)
  | 0, _ => none
  | n + 1, t => match P.underlying t with
    | some .bool => some [.bool]
    | some (.int k) => some [.int k]
    | some .string => some [.str]
    | some (.slice e) => match shOf P n e with
      | some l => if P.cellsOf e = l.length ∧ (aggT P e = true ∨ l.length = 1) ∧ l.length ≠ 0 then some [.sl (aggT P e) l] else none
      | none => none
    | some (.struct fs) => match shFs P (shOf P n) 0 fs.toList with
      | some l => if P.cellsOf t = l.length then some l else none
      | none => none
    | _ => none
theorem fit_int {x : F} (h : fitC (.int .i64) x = true) : ∃ n, x = .int .i64 n := by
  cases x <;> simp_all [fitC]
theorem fit_bool {x : F} (h : fitC .bool x = true) : ∃ b, x = .bool b := by
  cases x <;> simp_all [fitC]
theorem fit_nil {fs : List F} (h : fitL [] fs = true) : fs = [] := by
  cases fs <;> simp_all [fitL]
theorem fit_cons {s : Sh} {l : List Sh} {fs : List F} (h : fitL (s :: l) fs = true) : ∃ x gs, fs = x :: gs ∧ fitC s x = true ∧ fitL l gs = true := by
  cases fs with
  | nil => simp [fitL] at h
  | cons x gs => simp only [fitL, Bool.and_eq_true] at h; exact ⟨x, gs, rfl, h.1, h.2⟩
theorem fit_sl {ag : Bool} {cs : List Sh} {x : F} (h : fitC (.sl ag cs) x = true) : ∃ n g, x = .sl n g ∧ n ≤ maxLen ∧ ∀ i, i < n → fitL cs (g i).cells = true ∧ isAggF (g i) = ag := by
  cases x with
  | sl n g =>
    simp only [fitC, Bool.and_eq_true, decide_eq_true_eq, List.all_eq_true, List.mem_range, beq_iff_eq] at h
    exact ⟨n, g, rfl, h.1, h.2⟩
  | _ => simp [fitC] at h
theorem agg_cells {x : F} (h : isAggF x = true) : x = .agg x.cells := by cases x <;> simp_all [isAggF, F.cells]
theorem fitC_cell {s : Sh} {x : F} (h : fitC s x = true) : cellF x = true ∧ isAggF x = false := by
  cases s <;> cases x <;> simp_all [fitC, cellF, isAggF]
theorem fitL_len : ∀ (l : List Sh) (fs : List F), fitL l fs = true → fs.length = l.length
  | [], [], _ => rfl
  | [], _ :: _, h => by simp [fitL] at h
  | _ :: _, [], h => by simp [fitL] at h
  | s :: l, x :: fs, h => by
    simp only [fitL, Bool.and_eq_true] at h
    simp [fitL_len l fs h.2]
theorem fitL_get : ∀ (l : List Sh) (fs : List F), fitL l fs = true → ∀ (j : Nat) (u : F), fs[j]? = some u → ∃ s, l[j]? = some s ∧ fitC s u = true
  | [], [], _, j, u, hj => by simp at hj
  | [], _ :: _, h, _, _, _ => by simp [fitL] at h
  | _ :: _, [], h, _, _, _ => by simp [fitL] at h
  | s :: l, x :: fs, h, j, u, hj => by
    simp only [fitL, Bool.and_eq_true] at h
    cases j with
    | zero => simp at hj; subst hj; exact ⟨s, rfl, h.1⟩
    | succ j => simp at hj; simpa using fitL_get l fs h.2 j u hj
theorem fitL_append : ∀ (l l' : List Sh) (fs fs' : List F), fitL l fs = true → fitL l' fs' = true → fitL (l ++ l') (fs ++ fs') = true
  | [], l', [], fs', _, h' => h'
  | [], _, _ :: _, _, h, _ => by simp [fitL] at h
  | _ :: _, _, [], _, h, _ => by simp [fitL] at h
  | s :: l, l', x :: fs, fs', h, h' => by
    simp only [fitL, Bool.and_eq_true] at h
    simp only [List.cons_append, fitL, Bool.and_eq_true]
    exact ⟨h.1, fitL_append l l' fs fs' h.2 h'⟩
section
variable {H : Type} {enc : TypeId × Value → H} {P : Program} {W : World} {base : Nat}
theorem mk_cells {ag : Bool} {l : List Sh} {fs : List F} (h : fitL l fs = true) (hl : ag = true ∨ l.length = 1) : (mkF ag fs).cells = fs ∧ isAggF (mkF ag fs) = ag := by
  cases ag with
  | true => exact ⟨rfl, rfl⟩
  | false =>
    have hl : l.length = 1 := by simpa using hl
    have := fitL_len l fs h
    match fs, this with
    | [x], _ =>
      obtain ⟨s, _, hs⟩ := fitL_get l [x] h 0 x rfl
      obtain ⟨h1, h2⟩ := fitC_cell hs
      constructor
      · cases x <;> simp_all [mkF, F.cells, isAggF]
      · simpa [mkF] using h2
    | [], h0 => simp [hl] at h0
    | _ :: _ :: _, h0 => simp [hl] at h0
abbrev Low (W : World) : Nat → Prop := fun b => b < W.heap.size
theorem open_fields {n : Nat} (ih : ∀ (t : TypeId) (cs : List Value) (x : DataW H × List MemPlace) (k : Nat) (l : List Sh), DataW.trod enc P W 0 (fun _ => true) true n t cs = some x → shOf P k t = some l → ∃ fs, fitL l fs = true ∧ RepL W (Low W) fs cs) (k : Nat) (cs : List Value) :
    ∀ (fl : List Field) (off : Nat) (l : List Sh), (∀ (i : Nat) (f : Field), fl[i]? = some f → ∃ y, DataW.trod enc P W 0 (fun _ => true) true n f.type ((cs.drop f.offset).take (P.cellsOf f.type)) = some y) → shFs P (shOf P k) off fl = some l →
      ∃ fs, fitL l fs = true ∧ RepL W (Low W) fs ((cs.drop off).take l.length)
  | [], off, l, _, h => by
    simp only [shFs, Option.some.injEq] at h
    subst h
    exact ⟨[], rfl, by simp, fun j x v hx => by simp at hx⟩
  | f :: fl, off, l, hf, h => by
    simp only [shFs] at h
    split at h
    · rename_i hoff
      split at h
      · rename_i l1 h1
        split at h
        · rename_i hlen
          split at h
          · rename_i l2 h2
            cases h
            obtain ⟨y, hy⟩ := hf 0 f rfl
            obtain ⟨fs1, a1, b1⟩ := ih _ _ _ _ _ hy h1
            obtain ⟨fs2, a2, b2⟩ := open_fields ih k cs fl (off + l1.length) l2 (fun i f h => hf (i + 1) f (by simpa using h)) h2
            refine ⟨fs1 ++ fs2, fitL_append _ _ _ _ a1 a2, ?_⟩
            rw [hoff, hlen] at b1
            have e : (cs.drop off).take (l1 ++ l2).length = (cs.drop off).take l1.length ++ (cs.drop (off + l1.length)).take l2.length := by
              rw [List.length_append, List.take_add, List.drop_drop]
            rw [e]
            refine ⟨by rw [List.length_append, List.length_append, b1.1, b2.1], fun j x v hx hv => ?_⟩
            by_cases hj : j < fs1.length
            · rw [List.getElem?_append_left hj] at hx
              rw [List.getElem?_append_left (by rw [← b1.1]; exact hj)] at hv
              exact b1.2 j x v hx hv
            · rw [List.getElem?_append_right (by omega)] at hx
              rw [List.getElem?_append_right (by rw [← b1.1]; omega), ← b1.1] at hv
              exact b2.2 _ x v hx hv
          · cases h
        · cases h
      · cases h
    · cases h
theorem rep_one {x : F} {v : Value} (h : RepF W (Low W) x v) : RepL W (Low W) [x] [v] := by
  refine ⟨rfl, fun j y u hy hu => ?_⟩
  cases j with
  | zero => simp at hy hu; subst hy; subst hu; exact h
  | succ j => simp at hy
theorem open_cells : ∀ (n : Nat) (t : TypeId) (cs : List Value) (x : DataW H × List MemPlace) (k : Nat) (l : List Sh), DataW.trod enc P W 0 (fun _ => true) true n t cs = some x → shOf P k t = some l →
    ∃ fs, fitL l fs = true ∧ RepL W (Low W) fs cs := by
  intro n
  induction n with
  | zero => intro t cs x k l h; simp [DataW.trod] at h
  | succ n ih =>
    intro t cs x k l h hs
    cases k with
    | zero => simp [shOf] at hs
    | succ k =>
      simp only [shOf] at hs
      split at hs
      · rename_i ht
        cases hs
        obtain ⟨b, rfl, _⟩ := DataW.trod_bool ht h
        exact ⟨[.bool b], by simp [fitL, fitC], rep_one (.bool b)⟩
      · rename_i kk ht
        cases hs
        obtain ⟨z, rfl, _, hw⟩ := DataW.trod_int ht h
        exact ⟨[.int kk z], by simp [fitL, fitC, hw], rep_one (.int kk z)⟩
      · rename_i ht
        cases hs
        obtain ⟨s, rfl, _, hw⟩ := DataW.trod_string ht h
        exact ⟨[.str s], by simp [fitL, fitC, hw], rep_one (.str s)⟩
      · rename_i e ht
        split at hs
        · rename_i le hle
          split at hs
          · rename_i hc
            cases hs
            rcases DataW.trod_slice ht h with ⟨rfl, _⟩ | ⟨a, len, cap, elems, rest, n', hn', rfl, _, _, hl, hm, hlen, hel, _, _⟩
            · exact ⟨[.sl 0 fun _ => .dflt], by simp [fitL, fitC], rep_one (.sl 0 _ none 0 1 ⟨0, 0, none⟩ (fun _ => undef) (Nat.le_refl _) (fun i hi => by omega) (fun i j u hi => by omega) (fun h => absurd rfl h) (fun i j u hi => by omega) (fun i j u hi => by omega))⟩
            · obtain rfl : n' = n := by omega
              have each : ∀ i, ∃ fs : List F, i < len → fitL le fs = true ∧ ∃ ci, W.cells? 0 (a.add (i * le.length)) le.length = some ci ∧ RepL W (Low W) fs ci := by
                intro i
                by_cases hi : i < len
                · have h1 := hel i hi
                  rw [List.getElem?_eq_getElem (by omega), hc.1] at h1
                  obtain ⟨ci, h2, h3⟩ := Option.bind_eq_some_iff.1 h1
                  obtain ⟨fs, h4, h5⟩ := ih _ _ _ _ _ h3 hle
                  exact ⟨fs, fun _ => ⟨h4, ci, h2, h5⟩⟩
                · exact ⟨[], fun h => absurd h hi⟩
              obtain ⟨G, hG⟩ := Classical.axiomOfChoice each
              have hfit : ∀ i, i < len → fitL le (mkF (aggT P e) (G i)).cells = true ∧ isAggF (mkF (aggT P e) (G i)) = aggT P e := fun i hi => by
                obtain ⟨h1, h2⟩ := mk_cells (hG i hi).1 hc.2.1
                rw [h1]; exact ⟨(hG i hi).1, h2⟩
              have hcells : ∀ i, i < len → (mkF (aggT P e) (G i)).cells = G i := fun i hi => (mk_cells (hG i hi).1 hc.2.1).1
              have hpos : le.length ≠ 0 := hc.2.2
              have hsz : ∀ i, i < len → (G i).length = le.length := fun i hi => fitL_len _ _ (hG i hi).1
              have hsp : len ≠ 0 → a.spot = none ∧ a.block < W.heap.size := fun h0 => by
                obtain ⟨_, ci, h1, _⟩ := hG 0 (by omega)
                obtain ⟨_, h3, h4⟩ := World.cells?_some h1
                have h5 := h4 0 (by omega)
                rw [List.getElem?_eq_getElem (by omega)] at h5
                have h6 := World.cell?_spot h5
                have h7 := cell_lt h5
                exact ⟨by simpa [Addr.add] using h6, by simpa [Addr.add] using h7⟩
              have key : ∀ (i j : Nat) (u : F), i < len → (G i)[j]? = some u → ∃ v, W.cell? ⟨a.block, a.off + (i * le.length + j), none⟩ = some v ∧ RepF W (Low W) u v := fun i j u hi hu => by
                obtain ⟨_, ci, h1, h2⟩ := hG i hi
                obtain ⟨_, h3, h4⟩ := World.cells?_some h1
                have hj := (List.getElem?_eq_some_iff.1 hu).1
                have hs := hsz i hi
                have h5 := h4 j (by omega)
                rw [List.getElem?_eq_getElem (by omega)] at h5
                refine ⟨_, ?_, h2.2 j u _ hu (List.getElem?_eq_getElem (by omega))⟩
                rw [← h5]
                have e := (hsp (by omega)).1
                obtain ⟨ab, ao, asp⟩ := a
                simp only at e
                subst e
                rw [add_zero_addr ⟨ab, ao, none⟩ rfl, add_zero_addr ⟨ab, ao + i * le.length, none⟩ rfl, Nat.add_assoc]
              refine ⟨[.sl len fun i => mkF (aggT P e) (G i)], ?_, rep_one ?_⟩
              · simp only [fitL, fitC, Bool.and_true, Bool.and_eq_true, decide_eq_true_eq, List.all_eq_true, List.mem_range, beq_iff_eq]
                exact ⟨by omega, hfit⟩
              · refine .sl len _ (some a) cap le.length a (fun k => (W.cell? ⟨a.block, a.off + k, none⟩).getD undef) hl (fun i hi => by rw [hcells i hi]; exact hsz i hi) (fun i j u hi hu => ?_) (fun h0 => ⟨rfl, (hsp h0).2, (hsp h0).1⟩) (fun i j u hi hu => ?_) (fun i j u hi hu => ?_)
                · rw [hcells i hi] at hu
                  obtain ⟨s, _, hs⟩ := fitL_get _ _ (hG i hi).1 j u hu
                  exact (fitC_cell hs).1
                · rw [hcells i hi] at hu
                  obtain ⟨v, h1, _⟩ := key i j u hi hu
                  rw [h1]; rfl
                · rw [hcells i hi] at hu
                  obtain ⟨v, h1, h2⟩ := key i j u hi hu
                  rw [h1]; exact h2
          · cases hs
        · cases hs
      · rename_i fs ht
        split at hs
        · rename_i l' hl'
          split at hs
          · rename_i hc
            cases hs
            obtain ⟨xs, n', hn', _, hcl, hxl, hx⟩ := DataW.trod_struct ht h
            obtain rfl : n' = n := by omega
            obtain ⟨gs, g1, g2⟩ := open_fields (fun t cs x k l => ih t cs x k l) k cs fs.toList 0 l (fun i f hf => by
              have hf' : fs[i]? = some f := by simpa using hf
              have hi := (Array.getElem?_eq_some_iff.1 hf').1
              exact ⟨_, (hx i f hf').trans (List.getElem?_eq_getElem (by omega))⟩) hl'
            refine ⟨gs, g1, ?_⟩
            rw [List.drop_zero, List.take_of_length_le (by omega)] at g2
            exact g2
          · cases hs
        · cases hs
      · cases hs
theorem open_structF {t : TypeId} {v : Value} {d : DataW H} {ps : List MemPlace} {fl : Array Field} {k : Nat} {l : List Sh} (ht : P.underlying t = some (.struct fl)) (hs : shOf P k t = some l) (hval : Value.okWide P W .any base t v) (h : DataW.Trod enc P W 0 (fun _ => true) true t v d ps) :
    ∃ fs, fitL l fs = true ∧ RepF W (fun b => b < W.heap.size) (.agg fs) v := by
  obtain ⟨cs, rfl, _⟩ := okWide_struct ht hval
  obtain ⟨n, hf⟩ := h
  obtain ⟨fs, h1, h2⟩ := open_cells n t _ _ k l hf hs
  refine ⟨fs, h1, ?_⟩
  have := RepF.agg (w := W) (Z := Low W) fs _ h2.1 h2.2
  simpa [Value.cells] using this
end
end Go.Proofs.YtdcooaopkbicfaaGreat.R
