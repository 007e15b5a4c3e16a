/-
  The own walk and what it shows, part 4 of 8.
-/
import Derived.Test.YtbnainbjcaekjaaJ1
import Derived.Test.YtbnainbjcaekjaaJ2
import Derived.Test.YtbnainbjcaekjaaJ3
set_option linter.unusedVariables false
set_option linter.unusedSimpArgs false
set_option maxRecDepth 100000
set_option exponentiation.threshold 30000
namespace Go.Proofs.Ytbnainbjcaekjaa.R
open Go
noncomputable section
/-! ### function 34 -/
def S34_3a (l : List It) (x : Int) (y : Int) (sz : Int) (i : Int) : St := ⟨[.bad, (U.f (F.int .i64 x)), (U.f (F.int .i64 y)), (U.f (F.int .i64 sz)), .bad, .bad, .bad, .bad, (U.hp 0 0), (U.hp 1 0), .bad, .bad, .bad, .bad, .bad, .bad, .bad, (U.f (itemsF l)), (U.f (F.int .i64 l.length)), (U.f (F.int .i64 i)), .bad, .bad, .bad, .bad, .bad, .bad, .bad, .bad, .bad, .bad, .bad, .bad, .bad, .bad, .bad, .bad, .bad, .bad, .bad, .bad, .bad, .bad, .bad, .bad, .bad], [HO.box [(U.f (F.int .i64 0)), (U.f (F.int .i64 0)), (U.f (F.int .i64 0)), (U.f (F.bool false)), U.nils], HO.box [(U.f (F.int .i64 x)), (U.f (F.int .i64 y)), (U.f (F.int .i64 sz)), (U.f (F.bool false)), U.nils]]⟩
def S34_3b (l : List It) (x : Int) (y : Int) (sz : Int) (i : Int) (n : Nat) (g : Nat → F) : St := ⟨[.bad, (U.f (F.int .i64 x)), (U.f (F.int .i64 y)), (U.f (F.int .i64 sz)), .bad, .bad, .bad, .bad, (U.hp 0 0), (U.hp 1 0), .bad, .bad, .bad, .bad, .bad, .bad, .bad, (U.f (itemsF l)), (U.f (F.int .i64 l.length)), (U.f (F.int .i64 i)), .bad, .bad, .bad, .bad, .bad, .bad, .bad, .bad, .bad, .bad, .bad, .bad, .bad, .bad, .bad, .bad, .bad, .bad, .bad, .bad, .bad, .bad, .bad, .bad, .bad], [HO.box [(U.f (F.int .i64 0)), (U.f (F.int .i64 0)), (U.f (F.int .i64 0)), (U.f (F.bool false)), U.nils], HO.box [(U.f (F.int .i64 x)), (U.f (F.int .i64 y)), (U.f (F.int .i64 sz)), (U.f (F.bool false)), (U.hs 2 n 0 n)], HO.arr 1 n g]⟩
abbrev KJ46 (ρ : Type) := (List It) → (Int) → (Int) → (Int) → (Int) → (Nat) → (Nat → F) → Option ρ
abbrev KJ47 (ρ : Type) := (List It) → (Int) → (Int) → (Int) → (Int) → Option ρ
def T34_3a {ρ : Type} (ret : (Nat) → (Nat → F) → Option ρ) (c3a : KJ47 ρ) (c3b : KJ46 ρ) (l : List It) (x : Int) (y : Int) (sz : Int) (i : Int) : Option ρ :=
 (bsel (decide (i < (↑l.length : Int)))
 (bsel (decide (0 ≤ i))
 (bsel (decide (i < (↑l.length : Int)))
 (bsel (meetsV (l.getD i.toNat It.zero).x0 (l.getD i.toNat It.zero).y0 (l.getD i.toNat It.zero).x1 (l.getD i.toNat It.zero).y1 x y (IntKind.i64.wrap (x + sz)) (IntKind.i64.wrap (y + sz)))
 (bsel (decide (((1 : Nat) : Int) * (((8 : Nat) : Int) + 1) ≤ (↑limit : Int)))
 (c3b (l) (x) (y) (sz) (IntKind.i64.wrap (i + 1)) (1) (fun x ↦ F.int .i64 (l.getD i.toNat It.zero).id))
 none)
 (c3a (l) (x) (y) (sz) (IntKind.i64.wrap (i + 1))))
 none)
 none)
 (ret (0) (fun x ↦ F.bool false)))
def T34_3b {ρ : Type} (ret : (Nat) → (Nat → F) → Option ρ) (c3a : KJ47 ρ) (c3b : KJ46 ρ) (l : List It) (x : Int) (y : Int) (sz : Int) (i : Int) (n : Nat) (g : Nat → F) : Option ρ :=
 (bsel (decide (i < (↑l.length : Int)))
 (bsel (decide (0 ≤ i))
 (bsel (decide (i < (↑l.length : Int)))
 (bsel (meetsV (l.getD i.toNat It.zero).x0 (l.getD i.toNat It.zero).y0 (l.getD i.toNat It.zero).x1 (l.getD i.toNat It.zero).y1 x y (IntKind.i64.wrap (x + sz)) (IntKind.i64.wrap (y + sz)))
 (bsel (decide (n = n))
 (bsel (decide (n = n))
 (bsel (decide ((↑(n + 1) : Int) * (((8 : Nat) : Int) + 1) ≤ (↑limit : Int)))
 (c3b (l) (x) (y) (sz) (IntKind.i64.wrap (i + 1)) (n + 1) (fun j ↦ if j < n then g j else F.int .i64 (l.getD i.toNat It.zero).id))
 none)
 none)
 none)
 (c3b (l) (x) (y) (sz) (IntKind.i64.wrap (i + 1)) (n) (g)))
 none)
 none)
 (bsel (decide (n = n))
 (ret (n) (g))
 none))
mutual
def L34_3a : Nat → (List It) → (Int) → (Int) → (Int) → (Int) → Option ((Nat) × (Nat → F))
  | 0, _, _, _, _, _ => none
  | k + 1, l, x, y, sz, i => T34_3a (fun rn rg => some (rn, rg)) (L34_3a k) (L34_3b k) l x y sz i
def L34_3b : Nat → (List It) → (Int) → (Int) → (Int) → (Int) → (Nat) → (Nat → F) → Option ((Nat) × (Nat → F))
  | 0, _, _, _, _, _, _, _ => none
  | k + 1, l, x, y, sz, i, n, g => T34_3b (fun rn rg => some (rn, rg)) (L34_3a k) (L34_3b k) l x y sz i n g
end
def T34 {ρ : Type} (ret : (Nat) → (Nat → F) → Option ρ) (c3a : KJ47 ρ) (c3b : KJ46 ρ) (q : Qd) (x : Int) (y : Int) (sz : Int) : Option ρ :=
 (c3a (q.items) (x) (y) (sz) (0))
def G34 (k : Nat) (q : Qd) (x : Int) (y : Int) (sz : Int) : Option ((Nat) × (Nat → F)) := T34 (fun rn rg => some (rn, rg)) (L34_3a k) (L34_3b k) q x y sz
mutual
theorem t34_3a : ∀ (k : Nat) (l : List It) (x : Int) (y : Int) (sz : Int) (i : Int) (rn : Nat) (rg : Nat → F), L34_3a k l x y sz i = some (rn, rg) → Ends Try.prog Try.f34.results.toList (at_ Try.f34 3) (S34_3a l x y sz i) (F.agg [F.int .i64 x, F.int .i64 y, F.int .i64 sz, F.bool false, F.sl rn rg])
  | 0, _, _, _, _, _, _, _, h => nomatch h
  | k + 1, l, x, y, sz, i, rn, rg, h => by
    refine Ends.of_cut tyOK envW5_ok (T := [(3, [1, 2, 3, 8, 9, 17, 18, 19], 1000)]) (n := 200) ?_
    have e : runCut Try.prog (tiOf Try.prog) envW5 [(3, [1, 2, 3, 8, 9, 17, 18, 19], 1000)] 0 Try.f34.results.toList some 200 (at_ Try.f34 3) (S34_3a l x y sz i) = T34_3a (fun rn rg => some (.ret (F.agg [F.int .i64 x, F.int .i64 y, F.int .i64 sz, F.bool false, F.sl rn rg]))) (fun l x y sz i => some (.cut (at_ Try.f34 3) (S34_3a l x y sz i))) (fun l x y sz i n g => some (.cut (at_ Try.f34 3) (S34_3b l x y sz i n g))) l x y sz i := by kernel_rfl
    rw [e]
    exact (good_sel h (fun _ h => (good_sel h (fun _ h => (good_sel h (fun _ h => (good_sel h (fun _ h => (good_sel h (fun _ h => good_cut (t34_3b k _ _ _ _ _ _ _ rn rg h)) (fun _ h => nomatch h))) (fun _ h => good_cut (t34_3a k _ _ _ _ _ rn rg h)))) (fun _ h => nomatch h))) (fun _ h => nomatch h))) (fun _ h => good_ret (by cases h; rfl)))
theorem t34_3b : ∀ (k : Nat) (l : List It) (x : Int) (y : Int) (sz : Int) (i : Int) (n : Nat) (g : Nat → F) (rn : Nat) (rg : Nat → F), L34_3b k l x y sz i n g = some (rn, rg) → Ends Try.prog Try.f34.results.toList (at_ Try.f34 3) (S34_3b l x y sz i n g) (F.agg [F.int .i64 x, F.int .i64 y, F.int .i64 sz, F.bool false, F.sl rn rg])
  | 0, _, _, _, _, _, _, _, _, _, h => nomatch h
  | k + 1, l, x, y, sz, i, n, g, rn, rg, h => by
    refine Ends.of_cut tyOK envW5_ok (T := [(3, [1, 2, 3, 8, 9, 17, 18, 19], 1000)]) (n := 200) ?_
    have e : runCut Try.prog (tiOf Try.prog) envW5 [(3, [1, 2, 3, 8, 9, 17, 18, 19], 1000)] 0 Try.f34.results.toList some 200 (at_ Try.f34 3) (S34_3b l x y sz i n g) = T34_3b (fun rn rg => some (.ret (F.agg [F.int .i64 x, F.int .i64 y, F.int .i64 sz, F.bool false, F.sl rn rg]))) (fun l x y sz i => some (.cut (at_ Try.f34 3) (S34_3a l x y sz i))) (fun l x y sz i n g => some (.cut (at_ Try.f34 3) (S34_3b l x y sz i n g))) l x y sz i n g := by kernel_rfl
    rw [e]
    exact (good_sel h (fun _ h => (good_sel h (fun _ h => (good_sel h (fun _ h => (good_sel h (fun _ h => (good_sel h (fun _ h => (good_sel h (fun _ h => (good_sel h (fun _ h => good_cut (t34_3b k _ _ _ _ _ _ _ rn rg h)) (fun _ h => nomatch h))) (fun _ h => nomatch h))) (fun _ h => nomatch h))) (fun _ h => good_cut (t34_3b k _ _ _ _ _ _ _ rn rg h)))) (fun _ h => nomatch h))) (fun _ h => nomatch h))) (fun _ h => (good_sel h (fun _ h => good_ret (by cases h; rfl)) (fun _ h => nomatch h))))
end
theorem t34 (k : Nat) (q : Qd) (x : Int) (y : Int) (sz : Int) (rn : Nat) (rg : Nat → F) (h : G34 k q x y sz = some (rn, rg)) : Ends Try.prog Try.f34.results.toList [.code (bodyOf Try.f34)] (start Try.f34.ntmps ([qdF q, F.int .i64 x, F.int .i64 y, F.int .i64 sz].map .f)) (F.agg [F.int .i64 x, F.int .i64 y, F.int .i64 sz, F.bool false, F.sl rn rg]) := by
  refine Ends.of_run tyOK envW5_ok (T := [(3, [1, 2, 3, 8, 9, 17, 18, 19], 1000)]) (n := 200) ?_
  have e : run Try.prog (tiOf Try.prog) envW5 [(3, [1, 2, 3, 8, 9, 17, 18, 19], 1000)] 0 Try.f34.results.toList some 200 [.code (bodyOf Try.f34)] (start Try.f34.ntmps ([qdF q, F.int .i64 x, F.int .i64 y, F.int .i64 sz].map .f)) = T34 (fun rn rg => some (.ret (F.agg [F.int .i64 x, F.int .i64 y, F.int .i64 sz, F.bool false, F.sl rn rg]))) (fun l x y sz i => some (.cut (at_ Try.f34 3) (S34_3a l x y sz i))) (fun l x y sz i n g => some (.cut (at_ Try.f34 3) (S34_3b l x y sz i n g))) q x y sz := by kernel_rfl
  rw [e]
  exact good_cut (t34_3a k _ _ _ _ _ rn rg h)
/-! ### function 32 -/
def S32_4 (a : List Int) (b : List Int) (i : Int) : St := ⟨[(U.f (intsF a)), (U.f (intsF b)), .bad, .bad, .bad, .bad, .bad, .bad, .bad, .bad, .bad, .bad, (U.f (F.int .i64 a.length)), (U.f (F.int .i64 i)), .bad, .bad, .bad, .bad, .bad, .bad, .bad, .bad, .bad, .bad, .bad, .bad], []⟩
abbrev KJ44 (ρ : Type) := (Bool) → Option ρ
def T32_4 {ρ : Type} (ret : KJ44 ρ) (c4 : (List Int) → (List Int) → (Int) → Option ρ) (a : List Int) (b : List Int) (i : Int) : Option ρ :=
 (bsel (decide (i < (↑a.length : Int)))
 (bsel (decide (0 ≤ i))
 (bsel (decide (i < (↑a.length : Int)))
 (bsel (decide (0 ≤ i))
 (bsel (decide (i < (↑b.length : Int)))
 (bsel (a.getD i.toNat 0 != b.getD i.toNat 0)
 (ret (false))
 (c4 (a) (b) (IntKind.i64.wrap (i + 1))))
 none)
 none)
 none)
 none)
 (ret (true)))
def L32_4 : Nat → (List Int) → (List Int) → (Int) → Option (Bool)
  | 0, _, _, _ => none
  | k + 1, a, b, i => T32_4 some (L32_4 k) a b i
def T32 {ρ : Type} (ret : KJ44 ρ) (c4 : (List Int) → (List Int) → (Int) → Option ρ) (a : List Int) (b : List Int) : Option ρ :=
 (bsel ((↑a.length : Int) != (↑b.length : Int))
 (ret (false))
 (c4 (a) (b) (0)))
def G32 (k : Nat) (a : List Int) (b : List Int) : Option (Bool) := T32 some (L32_4 k) a b
theorem t32_4 : ∀ (k : Nat) (a : List Int) (b : List Int) (i : Int) (r : Bool), L32_4 k a b i = some r → Ends Try.prog Try.f32.results.toList (at_ Try.f32 4) (S32_4 a b i) (F.bool r)
  | 0, _, _, _, _, h => nomatch h
  | k + 1, a, b, i, r, h => by
    refine Ends.of_cut tyOK envW5_ok (T := [(4, [0, 1, 12, 13], 1000)]) (n := 200) ?_
    have e : runCut Try.prog (tiOf Try.prog) envW5 [(4, [0, 1, 12, 13], 1000)] 0 Try.f32.results.toList some 200 (at_ Try.f32 4) (S32_4 a b i) = T32_4 (fun r => some (.ret (F.bool r))) (fun a b i => some (.cut (at_ Try.f32 4) (S32_4 a b i))) a b i := by kernel_rfl
    rw [e]
    exact (good_sel h (fun _ h => (good_sel h (fun _ h => (good_sel h (fun _ h => (good_sel h (fun _ h => (good_sel h (fun _ h => (good_sel h (fun _ h => good_ret (by cases h; rfl)) (fun _ h => good_cut (t32_4 k _ _ _ r h)))) (fun _ h => nomatch h))) (fun _ h => nomatch h))) (fun _ h => nomatch h))) (fun _ h => nomatch h))) (fun _ h => good_ret (by cases h; rfl)))
theorem t32 (k : Nat) (a : List Int) (b : List Int) (r : Bool) (h : G32 k a b = some r) : Ends Try.prog Try.f32.results.toList [.code (bodyOf Try.f32)] (start Try.f32.ntmps ([intsF a, intsF b].map .f)) (F.bool r) := by
  refine Ends.of_run tyOK envW5_ok (T := [(4, [0, 1, 12, 13], 1000)]) (n := 200) ?_
  have e : run Try.prog (tiOf Try.prog) envW5 [(4, [0, 1, 12, 13], 1000)] 0 Try.f32.results.toList some 200 [.code (bodyOf Try.f32)] (start Try.f32.ntmps ([intsF a, intsF b].map .f)) = T32 (fun r => some (.ret (F.bool r))) (fun a b i => some (.cut (at_ Try.f32 4) (S32_4 a b i))) a b := by kernel_rfl
  rw [e]
  exact (good_sel h (fun _ h => good_ret (by cases h; rfl)) (fun _ h => good_cut (t32_4 k _ _ _ r h)))
/-! ### function 45 -/
def T45 {ρ : Type} (ret : KJ44 ρ) (t : Tr) (s : Sg) : Option ρ :=
 (ret (meetsV s.x0 s.y0 s.x1 s.y1 t.x t.y (IntKind.i64.wrap (t.x + t.size)) (IntKind.i64.wrap (t.y + t.size))))
def G45 (t : Tr) (s : Sg) : Option (Bool) := T45 some t s
theorem t45 (t : Tr) (s : Sg) (r : Bool) (h : G45 t s = some r) : Ends Try.prog Try.f45.results.toList [.code (bodyOf Try.f45)] (start Try.f45.ntmps ([trF t, sgF s].map .f)) (F.bool r) := by
  refine Ends.of_run tyOK envW5_ok (T := []) (n := 200) ?_
  have e : run Try.prog (tiOf Try.prog) envW5 [] 0 Try.f45.results.toList some 200 [.code (bodyOf Try.f45)] (start Try.f45.ntmps ([trF t, sgF s].map .f)) = T45 (fun r => some (.ret (F.bool r))) t s := by kernel_rfl
  rw [e]
  exact good_ret (by cases h; rfl)
/-! ### function 25 -/
def T25 {ρ : Type} (ret : KJ44 ρ) (a : Int) (b : Int) : Option ρ :=
 (bsel (inV a 1 8 == true)
 (ret (inV b 0 8))
 (ret (false)))
def G25 (a : Int) (b : Int) : Option (Bool) := T25 some a b
theorem t25 (a : Int) (b : Int) (r : Bool) (h : G25 a b = some r) : Ends Try.prog Try.f25.results.toList [.code (bodyOf Try.f25)] (start Try.f25.ntmps ([F.int .i64 a, F.int .i64 b].map .f)) (F.bool r) := by
  refine Ends.of_run tyOK envW5_ok (T := []) (n := 200) ?_
  have e : run Try.prog (tiOf Try.prog) envW5 [] 0 Try.f25.results.toList some 200 [.code (bodyOf Try.f25)] (start Try.f25.ntmps ([F.int .i64 a, F.int .i64 b].map .f)) = T25 (fun r => some (.ret (F.bool r))) a b := by kernel_rfl
  rw [e]
  exact (good_sel h (fun _ h => good_ret (by cases h; rfl)) (fun _ h => good_ret (by cases h; rfl)))
def Fills {α : Type} (enc : α → F) (d : α) (z : F) (l : List α) (i : Nat) (g : Nat → F) : Prop := ∀ j, (j < i → g j = enc (l.getD j d)) ∧ (i ≤ j → g j = z)
theorem Fills.zero {α : Type} {enc : α → F} {d : α} {z : F} {l : List α} : Fills enc d z l 0 (fun _ => z) := fun j => ⟨fun h => by omega, fun _ => rfl⟩
theorem Fills.set {α : Type} {enc : α → F} {d : α} {z : F} {l : List α} {i : Nat} {g : Nat → F} (h : Fills enc d z l i g) : Fills enc d z l (i + 1) (fun j => if j = i then enc (l.getD i d) else g j) := fun j => by
  by_cases e : j = i
  · subst e; exact ⟨fun _ => by simp, fun h => by omega⟩
  · simp only [if_neg e]; exact ⟨fun hj => (h j).1 (by omega), fun hj => (h j).2 (by omega)⟩
theorem Lists.one {α : Type} {enc : α → F} {d : α} (x : α) : Lists enc d 1 (fun _ => enc x) [x] := ⟨rfl, fun j hj => by
  have : j = 0 := by omega
  subst this
  rfl⟩
def metFrom (l : List It) (x y sz : Int) (i : Nat) : List Int := ((l.drop i).filter fun t => meetsV t.x0 t.y0 t.x1 t.y1 x y (IntKind.i64.wrap (x + sz)) (IntKind.i64.wrap (y + sz))).map (·.id)
theorem met_end (l : List It) (x y sz : Int) : metFrom l x y sz l.length = [] := by
  unfold metFrom
  rw [List.drop_eq_nil_of_le (by simp)]
  rfl
theorem met_step (l : List It) (x y sz : Int) {i : Nat} (h : i < l.length) : metFrom l x y sz i = if meetsV (l.getD i .zero).x0 (l.getD i .zero).y0 (l.getD i .zero).x1 (l.getD i .zero).y1 x y (IntKind.i64.wrap (x + sz)) (IntKind.i64.wrap (y + sz)) then (l.getD i .zero).id :: metFrom l x y sz (i + 1) else metFrom l x y sz (i + 1) := by
  have hg : l.getD i It.zero = l[i] := by simp [List.getD, List.getElem?_eq_getElem h]
  rw [hg]
  unfold metFrom
  rw [List.drop_eq_getElem_cons h, List.filter_cons]
  split <;> rfl
theorem square_b (l : List It) (x y sz : Int) (hl : l.length ≤ 40) : ∀ (d i n : Nat) (g : Nat → F) (o : List Int), i + d = l.length → n ≤ i → Lists i64F 0 n g o →
    ∃ n1 g1, L34_3b (d + 1) l x y sz i n g = some (n1, g1) ∧ Lists i64F 0 n1 g1 (o ++ metFrom l x y sz i)
  | 0, i, n, g, o, h, hn, hg => by
    have c1 : decide ((i : Int) < (l.length : Int)) = false := decide_eq_false (by omega)
    refine ⟨n, g, ?_, ?_⟩
    · simp only [L34_3b, T34_3b, c1, bsel_false, decide_true, bsel_true]
    · obtain rfl : i = l.length := by omega
      rw [met_end, List.append_nil]
      exact hg
  | d + 1, i, n, g, o, h, hn, hg => by
    have hi : i < l.length := by omega
    have c1 : decide ((i : Int) < (l.length : Int)) = true := decide_eq_true (by omega)
    have c2 : decide (0 ≤ (i : Int)) = true := decide_eq_true (by omega)
    have hw : IntKind.i64.wrap ((i : Int) + 1) = ((i + 1 : Nat) : Int) := by rw [wrapi (by omega) (by omega)]; omega
    have c3 : decide (((n + 1 : Nat) : Int) * (((8 : Nat) : Int) + 1) ≤ (limit : Int)) = true := by rw [limit_eq]; exact decide_eq_true (by omega)
    rw [L34_3b]
    simp only [T34_3b, c1, c2, c3, hw, bsel_true, decide_true, Int.toNat_natCast]
    rw [met_step l x y sz hi]
    cases meetsV (l.getD i .zero).x0 (l.getD i .zero).y0 (l.getD i .zero).x1 (l.getD i .zero).y1 x y (IntKind.i64.wrap (x + sz)) (IntKind.i64.wrap (y + sz)) with
    | true =>
      obtain ⟨n1, g1, e1, e2⟩ := square_b l x y sz hl d (i + 1) (n + 1) _ (o ++ [(l.getD i .zero).id]) (by omega) (by omega) (hg.push (l.getD i .zero).id)
      refine ⟨n1, g1, e1, ?_⟩
      rw [if_pos rfl]
      rw [List.append_assoc] at e2
      exact e2
    | false =>
      obtain ⟨n1, g1, e1, e2⟩ := square_b l x y sz hl d (i + 1) n g o (by omega) (by omega) hg
      exact ⟨n1, g1, e1, by simpa using e2⟩
theorem square_a (l : List It) (x y sz : Int) (hl : l.length ≤ 40) : ∀ (d i : Nat), i + d = l.length →
    ∃ n1 g1, L34_3a (d + 1) l x y sz i = some (n1, g1) ∧ Lists i64F 0 n1 g1 (metFrom l x y sz i)
  | 0, i, h => by
    have c1 : decide ((i : Int) < (l.length : Int)) = false := decide_eq_false (by omega)
    refine ⟨0, fun _ => F.bool false, ?_, ?_⟩
    · simp only [L34_3a, T34_3a, c1, bsel_false]
    · obtain rfl : i = l.length := by omega
      rw [met_end]; exact Lists.nil
  | d + 1, i, h => by
    have hi : i < l.length := by omega
    have c1 : decide ((i : Int) < (l.length : Int)) = true := decide_eq_true (by omega)
    have c2 : decide (0 ≤ (i : Int)) = true := decide_eq_true (by omega)
    have hw : IntKind.i64.wrap ((i : Int) + 1) = ((i + 1 : Nat) : Int) := by rw [wrapi (by omega) (by omega)]; omega
    have c3 : decide (((1 : Nat) : Int) * (((8 : Nat) : Int) + 1) ≤ (limit : Int)) = true := by rw [limit_eq]; exact decide_eq_true (by omega)
    rw [L34_3a]
    simp only [T34_3a, c1, c2, c3, hw, bsel_true, decide_true, Int.toNat_natCast]
    rw [met_step l x y sz hi]
    cases meetsV (l.getD i .zero).x0 (l.getD i .zero).y0 (l.getD i .zero).x1 (l.getD i .zero).y1 x y (IntKind.i64.wrap (x + sz)) (IntKind.i64.wrap (y + sz)) with
    | true =>
      obtain ⟨n1, g1, e1, e2⟩ := square_b l x y sz hl d (i + 1) 1 _ _ (by omega) (by omega) (Lists.one (enc := i64F) (d := 0) (l.getD i .zero).id)
      exact ⟨n1, g1, e1, e2⟩
    | false => exact square_a l x y sz hl d (i + 1) (by omega)
def squareV (q : Qd) (x y sz : Int) : Bk := ⟨x, y, sz, false, metFrom q.items x y sz 0⟩
def fewV (q : Qd) : Bool := decide (q.items.length ≤ 40)
def preSquare : List F → Bool | [q, .int .i64 _, .int .i64 _, .int .i64 _] => isQd q && fewV (unQd q) | _ => false
def resSquare : List F → F | [q, .int .i64 x, .int .i64 y, .int .i64 sz] => bkF (squareV (unQd q) x y sz) | _ => .dflt
theorem okSquare : PureOK Try.prog 34 preSquare resSquare :=
  fn_pure_at (c := bodyOf Try.f34) Try.func34 (by kernel_rfl) (by kernel_rfl) fun xs hp => match xs, hp with
  | [q, .int .i64 x, .int .i64 y, .int .i64 sz], hp => by
    simp only [preSquare, Bool.and_eq_true] at hp
    have h2 := of_decide_eq_true hp.2
    obtain ⟨n, g, e1, e2⟩ := square_a (unQd q).items x y sz h2 (unQd q).items.length 0 (by omega)
    exact ⟨[qdF (unQd q), .int .i64 x, .int .i64 y, .int .i64 sz], _, ⟨(qd_eqv hp.1).1, .refl _, .refl _, .refl _, trivial⟩, t34 ((unQd q).items.length + 1) _ _ _ _ _ _ e1, FLe.agg ⟨.refl _, .refl _, .refl _, .refl _, e2.le, trivial⟩⟩
/-! Whole numbers, compared and copied. -/
def sameV (a b : List Int) : Bool := a == b
theorem same_drop {a b : List Int} (h : a.length = b.length) {i : Nat} (hi : i < a.length) : (a.drop i == b.drop i) = (a.getD i 0 == b.getD i 0 && (a.drop (i + 1) == b.drop (i + 1))) := by
  have h1 : a.getD i 0 = a[i] := by simp [List.getD, List.getElem?_eq_getElem hi]
  have h2 : b.getD i 0 = b[i]'(by omega) := by simp [List.getD, List.getElem?_eq_getElem (show i < b.length by omega)]
  rw [h1, h2, List.drop_eq_getElem_cons hi, List.drop_eq_getElem_cons (show i < b.length by omega)]
  rfl
theorem equal_loop (a b : List Int) (hl : a.length = b.length) (hs : a.length ≤ 17592186044416) : ∀ (d i : Nat), i + d = a.length → L32_4 (d + 1) a b i = some (a.drop i == b.drop i)
  | 0, i, h => by
    have c1 : decide ((i : Int) < (a.length : Int)) = false := decide_eq_false (by omega)
    simp only [L32_4, T32_4, c1, bsel_false]
    rw [List.drop_eq_nil_of_le (by omega), List.drop_eq_nil_of_le (by omega)]
    rfl
  | d + 1, i, h => by
    have hi : i < a.length := by omega
    have c1 : decide ((i : Int) < (a.length : Int)) = true := decide_eq_true (by omega)
    have c3 : decide ((i : Int) < (b.length : Int)) = true := decide_eq_true (by omega)
    have c2 : decide (0 ≤ (i : Int)) = true := decide_eq_true (by omega)
    have hw : IntKind.i64.wrap ((i : Int) + 1) = ((i + 1 : Nat) : Int) := by rw [wrapi (by omega) (by omega)]; omega
    rw [L32_4]
    simp only [T32_4, c1, c2, c3, hw, equal_loop a b hl hs d (i + 1) (by omega), bsel_true, Int.toNat_natCast]
    rw [same_drop hl hi, bne]
    cases (a.getD i 0 == b.getD i 0) <;> rfl
theorem equal_impl (a b : List Int) (hs : a.length ≤ 17592186044416) : G32 (a.length + 1) a b = some (sameV a b) := by
  unfold G32 T32 sameV
  rw [bne]
  cases h : ((a.length : Int) == (b.length : Int)) with
  | true => exact equal_loop a b (by have := eq_of_beq h; omega) hs a.length 0 (by omega)
  | false =>
    have : (a == b) = false := by
      rw [beq_eq_false_iff_ne]
      rintro rfl
      simp at h
    rw [this]; rfl
def shortV (a : List Int) : Bool := decide (a.length ≤ 1048576)
def preEqInts : List F → Bool | [a, b] => isInts a && isInts b && shortV (unInts a) | _ => false
def resEqInts : List F → F | [a, b] => .bool (sameV (unInts a) (unInts b)) | _ => .dflt
theorem okEqual : PureOK Try.prog 32 preEqInts resEqInts :=
  fn_pure_at (c := bodyOf Try.f32) Try.func32 (by kernel_rfl) (by kernel_rfl) fun xs hp => match xs, hp with
  | [a, b], hp => by
    simp only [preEqInts, Bool.and_eq_true] at hp
    have h2 := of_decide_eq_true hp.2
    exact ⟨[intsF (unInts a), intsF (unInts b)], _, ⟨(ints_eqv hp.1.1).1, (ints_eqv hp.1.2).1, trivial⟩, t32 _ _ _ _ (equal_impl _ _ (by omega)), .refl _⟩
/-! Sizes. -/
/-! Spots, limits. -/
def limitsV (a b : Int) : Bool := inV a 1 8 && inV b 0 8
def pre2i : List F → Bool | [.int .i64 _, .int .i64 _] => true | _ => false
def resLimits : List F → F | [.int .i64 a, .int .i64 b] => .bool (limitsV a b) | _ => .dflt
theorem okLimits : PureOK Try.prog 25 pre2i resLimits :=
  fn_pure (c := bodyOf Try.f25) Try.func25 (by kernel_rfl) (by kernel_rfl) fun xs hp => match xs, hp with
  | [.int .i64 a, .int .i64 b], hp => t25 a b (limitsV a b) (by
      unfold G25 T25 limitsV
      cases inV a 1 8 <;> rfl)
def preTrSeg : List F → Bool | [t, .agg [.int .i64 _, .int .i64 _, .int .i64 _, .int .i64 _]] => isTr t | _ => false
def trMeetsV (t : Tr) (a b c d : Int) : Bool := meetsV a b c d t.x t.y (IntKind.i64.wrap (t.x + t.size)) (IntKind.i64.wrap (t.y + t.size))
def resTrMeets : List F → F | [t, .agg [.int .i64 a, .int .i64 b, .int .i64 c, .int .i64 d]] => .bool (trMeetsV (unTr t) a b c d) | _ => .dflt
theorem okTrMeets : PureOK Try.prog 45 preTrSeg resTrMeets :=
  fn_pure (c := bodyOf Try.f45) Try.func45 (by kernel_rfl) (by kernel_rfl) fun xs hp => match xs, hp with
  | [t, .agg [.int .i64 a, .int .i64 b, .int .i64 c, .int .i64 d]], hp => by
    have h := tr_eq hp
    generalize unTr t = t' at h
    subst h
    have := t45 t' ⟨a, b, c, d⟩ (trMeetsV t' a b c d) rfl
    simp only [resTrMeets, unTr_trF]
    exact this
def envQ1 : Env := (((envW5.add 34 (.pure preSquare resSquare)).add 32 (.pure preEqInts resEqInts)).add 25 (.pure pre2i resLimits)).add 45 (.pure preTrSeg resTrMeets)
theorem envQ1_ok : EnvOK Try.prog envQ1 := (Env.add_ok (Env.add_ok (Env.add_ok (Env.add_ok envW5_ok okSquare.sp) okEqual.sp) okLimits.sp) okTrMeets.sp)
end
end Go.Proofs.Ytbnainbjcaekjaa.R
namespace Go.Proofs.Ytbnainbjcaekjaa.R
open Go
noncomputable section
/-! ### function 17 -/
def T17 {ρ : Type} (ret : (F) → Option ρ) (q : Qd) : Option ρ :=
 (bsel (isQd (qdF q) && fewV (unQd (qdF q)))
 (ret (bkF (squareV (unQd (qdF q)) (-1048576) (-1048576) 2097152)))
 none)
def G17 (q : Qd) : Option (F) := T17 some q
theorem t17 (q : Qd) (r : F) (h : G17 q = some r) : Ends Try.prog Try.f17.results.toList [.code (bodyOf Try.f17)] (start Try.f17.ntmps ([qdF q].map .f)) (r) := by
  refine Ends.of_run tyOK envQ1_ok (T := []) (n := 200) ?_
  have e : run Try.prog (tiOf Try.prog) envQ1 [] 0 Try.f17.results.toList some 200 [.code (bodyOf Try.f17)] (start Try.f17.ntmps ([qdF q].map .f)) = T17 (fun r => some (.ret (r))) q := by kernel_rfl
  rw [e]
  exact (good_sel h (fun _ h => good_ret (by cases h; rfl)) (fun _ h => nomatch h))
/-! ### function 33 -/
def T33 {ρ : Type} (ret : (F) → Option ρ) (q : Qd) (b : Bk) : Option ρ :=
 (bsel (isQd (qdF q) && fewV (unQd (qdF q)))
 (bsel (isQd (qdF q) && fewV (unQd (qdF q)))
 (bsel (isQd (qdF q) && fewV (unQd (qdF q)))
 (bsel (isQd (qdF q) && fewV (unQd (qdF q)))
 (ret (F.sl 4 (lget [bkF (squareV (unQd (qdF q)) b.x b.y (IntKind.i64.wrap (b.size.tdiv 2))), bkF (squareV (unQd (qdF q)) (IntKind.i64.wrap (b.x + IntKind.i64.wrap (b.size.tdiv 2))) b.y (IntKind.i64.wrap (b.size.tdiv 2))), bkF (squareV (unQd (qdF q)) b.x (IntKind.i64.wrap (b.y + IntKind.i64.wrap (b.size.tdiv 2))) (IntKind.i64.wrap (b.size.tdiv 2))), bkF (squareV (unQd (qdF q)) (IntKind.i64.wrap (b.x + IntKind.i64.wrap (b.size.tdiv 2))) (IntKind.i64.wrap (b.y + IntKind.i64.wrap (b.size.tdiv 2))) (IntKind.i64.wrap (b.size.tdiv 2)))])))
 none)
 none)
 none)
 none)
def G33 (q : Qd) (b : Bk) : Option (F) := T33 some q b
theorem t33 (q : Qd) (b : Bk) (r : F) (h : G33 q b = some r) : Ends Try.prog Try.f33.results.toList [.code (bodyOf Try.f33)] (start Try.f33.ntmps ([qdF q, bkF b].map .f)) (r) := by
  refine Ends.of_run tyOK envQ1_ok (T := []) (n := 200) ?_
  have e : run Try.prog (tiOf Try.prog) envQ1 [] 0 Try.f33.results.toList some 200 [.code (bodyOf Try.f33)] (start Try.f33.ntmps ([qdF q, bkF b].map .f)) = T33 (fun r => some (.ret (r))) q b := by kernel_rfl
  rw [e]
  exact (good_sel h (fun _ h => (good_sel h (fun _ h => (good_sel h (fun _ h => (good_sel h (fun _ h => good_ret (by cases h; rfl)) (fun _ h => nomatch h))) (fun _ h => nomatch h))) (fun _ h => nomatch h))) (fun _ h => nomatch h))
def preQd : List F → Bool | [q] => isQd q && fewV (unQd q) | _ => false
def rootV (q : Qd) : Bk := squareV q (-1048576) (-1048576) 2097152
def resRoot : List F → F | [q] => bkF (rootV (unQd q)) | _ => .dflt
theorem okRoot : PureOK Try.prog 17 preQd resRoot :=
  fn_pure_at (c := bodyOf Try.f17) Try.func17 (by kernel_rfl) (by kernel_rfl) fun xs hp => match xs, hp with
  | [q], hp => by
    simp only [preQd, Bool.and_eq_true] at hp
    exact ⟨[qdF (unQd q)], _, ⟨(qd_eqv hp.1).1, trivial⟩, t17 _ (bkF (rootV (unQd q))) (by
      unfold G17 T17 rootV
      simp only [isQd_qdF, unQd_qdF, hp.2, Bool.and_true, bsel_true]), .refl _⟩
def halfV (n : Int) : Int := IntKind.i64.wrap (n.tdiv 2)
def kidsV (q : Qd) (b : Bk) : List Bk := [squareV q b.x b.y (halfV b.size), squareV q (IntKind.i64.wrap (b.x + halfV b.size)) b.y (halfV b.size), squareV q b.x (IntKind.i64.wrap (b.y + halfV b.size)) (halfV b.size),
  squareV q (IntKind.i64.wrap (b.x + halfV b.size)) (IntKind.i64.wrap (b.y + halfV b.size)) (halfV b.size)]
def preKids : List F → Bool | [q, b] => isQd q && fewV (unQd q) && isBk b | _ => false
def resKids : List F → F | [q, b] => blocksF (kidsV (unQd q) (unBk b)) | _ => .dflt
theorem okKids : PureOK Try.prog 33 preKids resKids :=
  fn_pure_at (c := bodyOf Try.f33) Try.func33 (by kernel_rfl) (by kernel_rfl) fun xs hp => match xs, hp with
  | [q, b], hp => by
    simp only [preKids, Bool.and_eq_true] at hp
    obtain ⟨⟨h1, h2⟩, h3⟩ := hp
    refine ⟨[qdF (unQd q), bkF (unBk b)], _, ⟨(qd_eqv h1).1, FLe.bk h3, trivial⟩, t33 _ _ _ (by
      unfold G33 T33
      simp only [isQd_qdF, unQd_qdF, h2, Bool.and_true, bsel_true]
      rfl), FLe.sl fun j hj => ?_⟩
    have hj : j < 4 := hj
    have : j = 0 ∨ j = 1 ∨ j = 2 ∨ j = 3 := by omega
    rcases this with rfl | rfl | rfl | rfl <;> rfl
def envQ2 : Env := (envQ1.add 17 (.pure preQd resRoot)).add 33 (.pure preKids resKids)
theorem envQ2_ok : EnvOK Try.prog envQ2 := (Env.add_ok (Env.add_ok envQ1_ok okRoot.sp) okKids.sp)
end
end Go.Proofs.Ytbnainbjcaekjaa.R
namespace Go.Proofs.Ytbnainbjcaekjaa.R
open Go
noncomputable section
def allShortV (l : List Bk) : Bool := decide (l.length ≤ 1048576) && l.all fun b => shortV b.ids
theorem allShort_iff {l : List Bk} : allShortV l = true ↔ l.length ≤ 1048576 ∧ ∀ b ∈ l, shortV b.ids = true := by
  simp only [allShortV, Bool.and_eq_true, decide_eq_true_eq, List.all_eq_true]
theorem short_at {l : List Bk} (h : allShortV l = true) {i : Nat} (hi : i < l.length) : shortV (l.getD i .zero).ids = true := by
  have : l.getD i Bk.zero = l[i] := by simp [List.getD, List.getElem?_eq_getElem hi]
  rw [this]
  exact (allShort_iff.1 h).2 _ (List.getElem_mem hi)
def envQ3 : Env := envQ2
theorem envQ3_ok : EnvOK Try.prog envQ3 := envQ2_ok
end
end Go.Proofs.Ytbnainbjcaekjaa.R
namespace Go.Proofs.Ytbnainbjcaekjaa.R
open Go
noncomputable section
def ckKids (f : Int → Bk → Int) : List Bk → Int → Int
  | [], at' => at'
  | b :: bs, at' => bif decide (f at' b < 0) then -1 else ckKids f bs (f at' b)
def checkV : Nat → Qd → Int → Bk → Int → Int
  | 0, _, _, _, _ => -1
  | D + 1, q, at', due, deep =>
    bif decide (at' ≥ (q.blocks.length : Int)) then -1 else
    bif (q.blocks.getD at'.toNat .zero).x != due.x || (q.blocks.getD at'.toNat .zero).y != due.y || (q.blocks.getD at'.toNat .zero).size != due.size then -1 else
    bif !(q.blocks.getD at'.toNat .zero).split then (bif sameV (q.blocks.getD at'.toNat .zero).ids due.ids then at' + 1 else -1) else
    bif decide (((q.blocks.getD at'.toNat .zero).ids.length : Int) > 0) || deep == q.deep then -1 else
    ckKids (fun a b => checkV D q a b (deep + 1)) (kidsV q due) (at' + 1)
def checkOk (D : Nat) (q : Qd) (at' : Int) (deep : Int) : Bool := allShortV q.blocks && decide (0 ≤ at') && decide (0 ≤ deep) && decide (deep ≤ q.deep) && decide (q.deep ≤ 8) && decide (q.deep < deep + D)
def preCk (D : Nat) : List F → Bool | [q, .int .i64 a, due, .int .i64 deep] => isQd q && fewV (unQd q) && isBk due && checkOk D (unQd q) a deep | _ => false
def resCk (D : Nat) : List F → F | [q, .int .i64 a, due, .int .i64 deep] => .int .i64 (checkV D (unQd q) a (unBk due) deep) | _ => .dflt
def envCk (D : Nat) : Env := envQ3.add 16 (.pure (preCk D) (resCk D))
def rdKids (f : Int → Int → Tr × Int × Bool) : List Int → Int → Option (List Tr × Int)
  | [], at' => some ([], at')
  | k :: ks, at' => bif (f at' k).2.2 then (match rdKids f ks (f at' k).2.1 with | some (ts, p) => some ((f at' k).1 :: ts, p) | none => none) else none
def readV : Nat → List Bk → Int → Int → Int → Int → Int → Tr × Int × Bool
  | 0, _, _, _, _, _, _ => (.zero, 0, false)
  | D + 1, l, at', x, y, sz, deep =>
    bif decide (at' ≥ (l.length : Int)) then (.zero, 0, false) else
    bif (l.getD at'.toNat .zero).x != x || (l.getD at'.toNat .zero).y != y || (l.getD at'.toNat .zero).size != sz || ((l.getD at'.toNat .zero).split && (decide (deep < 1) || decide (((l.getD at'.toNat .zero).ids.length : Int) > 0))) then (.zero, 0, false) else
    bif !(l.getD at'.toNat .zero).split then (.leaf x y sz (l.getD at'.toNat .zero).ids, at' + 1, true) else
    match rdKids (fun a k => readV D l a (IntKind.i64.wrap (x + IntKind.i64.wrap ((k.tmod 2) * halfV sz))) (IntKind.i64.wrap (y + IntKind.i64.wrap (IntKind.i64.wrap (k.tdiv 2) * halfV sz))) (halfV sz) (deep - 1)) [0, 1, 2, 3] (at' + 1) with
    | some ([a, b, c, d], p) => (.node x y sz a b c d, p, true)
    | _ => (.zero, 0, false)
def readOk (D : Nat) (l : List Bk) (at' deep : Int) : Bool := allShortV l && decide (0 ≤ at') && decide (0 ≤ deep) && decide (deep < D) && decide (deep ≤ 8)
def preRd (D : Nat) : List F → Bool | [l, .int .i64 a, .int .i64 _, .int .i64 _, .int .i64 _, .int .i64 deep] => isBlocks l && readOk D (unBlocks l) a deep | _ => false
def resRd (D : Nat) : List F → F | [l, .int .i64 a, .int .i64 x, .int .i64 y, .int .i64 sz, .int .i64 deep] => .tup [trF (readV D (unBlocks l) a x y sz deep).1, .int .i64 (readV D (unBlocks l) a x y sz deep).2.1, .bool (readV D (unBlocks l) a x y sz deep).2.2] | _ => .dflt
def envRd (D : Nat) : Env := envQ3.add 28 (.pure (preRd D) (resRd D))
def trDepth : Tr → Nat
  | .leaf _ _ _ _ => 0
  | .node _ _ _ a b c d => max (max (trDepth a) (trDepth b)) (max (trDepth c) (trDepth d)) + 1
def rightV (l : List It) : Tr → Bool
  | .leaf x y s ids => ids == metFrom l x y s 0
  | .node _ _ _ a b c d => rightV l a && rightV l b && rightV l c && rightV l d
def rightOk (D : Nat) (t : Tr) (l : List It) : Bool := decide (l.length ≤ 40) && decide (trDepth t < D)
def preRt (D : Nat) : List F → Bool | [t, l] => isTr t && isItems l && rightOk D (unTr t) (unItems l) | _ => false
def resRt : List F → F | [t, l] => .bool (rightV (unItems l) (unTr t)) | _ => .dflt
def envRt (D : Nat) : Env := envQ3.add 29 (.pure (preRt D) resRt)
end
end Go.Proofs.Ytbnainbjcaekjaa.R
namespace Go.Proofs.Ytbnainbjcaekjaa.R
open Go
section
variable {P : Program} {w : World} {Z : Nat → Prop} {m : Nat → Nat} {H : List HO} {d : Bool}
inductive OwnLe : F → F → Prop
  | nil : OwnLe (.tup []) (.tup [])
  | obj (k : IntKind) (sz : Int) (n : Nat) (g g' : Nat → F) (h : ∀ j, j < n → g j = g' j) : OwnLe (.tup [.int k sz, .sl n g]) (.tup [.int k sz, .sl n g'])
  | dat (x : F) (h : cellF x = true) : OwnLe x x
def OwnsLe : List F → List F → Prop
  | [], [] => True
  | x :: xs, y :: ys => OwnLe x y ∧ OwnsLe xs ys
  | _, _ => False
theorem isScal_get {n : Nat} {g : Nat → F} (h : isScal n g = true) {i : Nat} (hi : i < n) : scal0 (g i) = true := by
  unfold isScal at h
  exact List.all_eq_true.1 h i (List.mem_range.2 hi)
theorem scal0s_get : ∀ (cs : List F), scal0s cs = true → ∀ (j : Nat) (u : F), cs[j]? = some u → scal0 u = true
  | [], _, j, u, hu => by simp at hu
  | c :: cs, h, j, u, hu => by
    simp only [scal0s, Bool.and_eq_true] at h
    cases j with
    | zero => simp at hu; exact hu ▸ h.1
    | succ j => simp at hu; exact scal0s_get cs h.2 j u hu
theorem scal0_cells {x : F} (h : scal0 x = true) {j : Nat} {u : F} (hu : x.cells[j]? = some u) : scal0 u = true := by
  cases x with
  | agg cs => exact scal0s_get cs (by simpa [scal0] using h) j u hu
  | _ =>
    cases j with
    | zero => simp [F.cells] at hu; rw [← hu]; exact h
    | succ j => simp [F.cells] at hu
theorem RepF.scal0_any {w w' : World} {Z Z' : Nat → Prop} {x : F} {v : Value} (h : RepF w Z x v) : scal0 x = true → RepF w' Z' x v := by
  induction h with
  | bool b => intro _; exact .bool b
  | int k n => intro _; exact .int k n
  | str s => intro _; exact .str s
  | sl n g A c sz a V hc hs hk hA hV hr ih =>
    intro h
    have h0 : n = 0 := Nat.eq_of_beq_eq_true (by simpa [scal0] using h)
    subst h0
    exact .sl 0 g A c sz a V hc hs hk (fun h => absurd rfl h) (fun i j u hi => by omega) (fun i j u hi => by omega)
  | cl n g v h h0 ih => intro h'; exact .cl n g v (ih (by simpa [scal0] using h')) h0
  | agg cs vs hl hr ih => intro h; exact .agg cs vs hl fun j u v hu hv => ih j u v hu hv (scal0s_get cs (by simpa [scal0] using h) j u hu)
  | tup cs vs hl hr ih => intro h; simp [scal0] at h
theorem ownL_get : ∀ (us : List U) (es : List F), ownL d H us = some es → us.length = es.length ∧ ∀ (j : Nat) (u : U), us[j]? = some u → ∃ e, es[j]? = some e ∧ own1 d H u = some e
  | [], es, h => by simp only [ownL, Option.some.injEq] at h; subst h; exact ⟨rfl, fun j u hu => by simp at hu⟩
  | u :: us, es, h => by
    simp only [ownL] at h
    split at h
    · rename_i x xs hx hxs
      cases h
      obtain ⟨h1, h2⟩ := ownL_get us xs hxs
      refine ⟨by simp [h1], fun j v hv => ?_⟩
      cases j with
      | zero => simp at hv; subst hv; exact ⟨x, rfl, hx⟩
      | succ j => simp at hv; obtain ⟨e, h3, h4⟩ := h2 j v hv; exact ⟨e, by simpa using h3, h4⟩
    · cases h
theorem ownsLe_get : ∀ {es fs : List F}, OwnsLe es fs → es.length = fs.length ∧ ∀ (j : Nat) (e : F), es[j]? = some e → ∃ f, fs[j]? = some f ∧ OwnLe e f
  | [], [], _ => ⟨rfl, fun j e h => by simp at h⟩
  | x :: xs, y :: ys, h => by
    obtain ⟨h1, h2⟩ := ownsLe_get h.2
    refine ⟨by simp [h1], fun j e he => ?_⟩
    cases j with
    | zero => simp at he; subst he; exact ⟨y, rfl, h.1⟩
    | succ j => simp at he; obtain ⟨f, h3, h4⟩ := h2 j e he; exact ⟨f, by simpa using h3, h4⟩
  | [], _ :: _, h => h.elim
  | _ :: _, [], h => h.elim
theorem obsOf_dat {x : F} (h : cellF x = true) (es : List F) : obsOf (x :: es) = obsOf es := by
  cases x <;> first | rfl | simp [cellF] at h
theorem own_none : ∀ (us : List U) (es fs : List F), ownL d H us = some es → OwnsLe es fs → (∀ u ∈ us, ∀ o g f l, u ≠ .hs o g f l) → obsOf fs = []
  | [], es, fs, h, hle, _ => by
    simp only [ownL, Option.some.injEq] at h
    subst h
    cases fs with
    | nil => rfl
    | cons => exact hle.elim
  | u :: us, es, fs, h, hle, hn => by
    simp only [ownL] at h
    split at h
    case h_2 => cases h
    rename_i x xs hx hxs
    cases h
    cases fs with
    | nil => exact hle.elim
    | cons y ys =>
      have ih := own_none us xs ys hxs hle.2 (fun u hu => hn u (by simp [hu]))
      have h1 := hle.1
      cases u with
      | f x' =>
        simp only [own1] at hx
        split at hx
        · rename_i hc
          cases hx
          simp only [Bool.and_eq_true] at hc
          cases h1 with
          | nil => simp [cellF] at hc
          | obj => simp [cellF] at hc
          | dat _ h => rw [obsOf_dat h]; exact ih
        · cases hx
      | nils =>
        simp only [own1, Option.some.injEq] at hx
        subst hx
        cases h1 with
        | nil => exact ih
        | dat _ h => simp [cellF] at h
      | hs o g f l => exact absurd rfl (hn _ (by simp) o g f l)
      | _ => simp [own1] at hx
theorem own_form : ∀ (us : List U) (es fs : List F), (objsAll us).length ≤ 1 → ownL d H us = some es → OwnsLe es fs →
    (obsOf fs = [] ∧ ∀ u ∈ us, ∀ o g f l, u ≠ .hs o g f l) ∨
    ∃ o sz n g g', H[o]? = some (.arr sz n g) ∧ (d || isScal n g) = true ∧ (∀ j, j < n → g j = g' j) ∧ obsOf fs = [.arr sz n g'] ∧ ∀ u ∈ us, ∀ o1 g1 f1 l1, u = .hs o1 g1 f1 l1 → o1 = o ∧ g1 = n ∧ f1 = 0 ∧ l1 = n
  | [], es, fs, _, h, hle => by
    simp only [ownL, Option.some.injEq] at h
    subst h
    cases fs with
    | nil => exact .inl ⟨rfl, by simp⟩
    | cons => exact hle.elim
  | u :: us, es, fs, hl, h, hle => by
    have h' := h
    simp only [ownL] at h
    split at h
    case h_2 => cases h
    rename_i x xs hx hxs
    cases h
    cases fs with
    | nil => exact hle.elim
    | cons y ys =>
      obtain ⟨h1, h2⟩ := hle
      simp only [objsAll, List.length_append] at hl
      have ih := own_form us xs ys (by omega) hxs h2
      have rest : (∀ o g f l, u ≠ .hs o g f l) → obsOf (y :: ys) = obsOf ys → (obsOf (y :: ys) = [] ∧ ∀ u' ∈ u :: us, ∀ o g f l, u' ≠ .hs o g f l) ∨
          ∃ o sz n g g', H[o]? = some (.arr sz n g) ∧ (d || isScal n g) = true ∧ (∀ j, j < n → g j = g' j) ∧ obsOf (y :: ys) = [.arr sz n g'] ∧ ∀ u' ∈ u :: us, ∀ o1 g1 f1 l1, u' = .hs o1 g1 f1 l1 → o1 = o ∧ g1 = n ∧ f1 = 0 ∧ l1 = n := by
        intro hu ho
        rw [ho]
        rcases ih with ⟨a1, a2⟩ | ⟨o, sz, n, g, g', a1, a2, a3, a4, a5⟩
        · refine .inl ⟨a1, fun u' hu' => ?_⟩
          rcases List.mem_cons.1 hu' with rfl | hu'
          · exact hu
          · exact a2 u' hu'
        · refine .inr ⟨o, sz, n, g, g', a1, a2, a3, a4, fun u' hu' => ?_⟩
          rcases List.mem_cons.1 hu' with rfl | hu'
          · exact fun o1 g1 f1 l1 e => absurd e (hu o1 g1 f1 l1)
          · exact a5 u' hu'
      cases u with
      | f x' =>
        simp only [own1] at hx
        split at hx
        · rename_i hc
          cases hx
          simp only [Bool.and_eq_true] at hc
          refine rest (fun o g f l e => by cases e) ?_
          cases h1 with
          | nil => simp [cellF] at hc
          | obj => simp [cellF] at hc
          | dat _ h => exact obsOf_dat h ys
        · cases hx
      | nils =>
        simp only [own1, Option.some.injEq] at hx
        subst hx
        refine rest (fun o g f l e => by cases e) ?_
        cases h1 with
        | nil => rfl
        | dat _ h => simp [cellF] at h
      | hs o gen off len =>
        simp only [own1] at hx
        split at hx
        · rename_i sz n g ho
          split at hx
          · rename_i hc
            obtain ⟨rfl, rfl, rfl, hs⟩ := hc
            cases hx
            have hno : ∀ u ∈ us, ∀ o g f l, u ≠ .hs o g f l := by
              simp only [objs, List.length_singleton] at hl
              have h0 : objsAll us = [] := List.eq_nil_of_length_eq_zero (by omega)
              intro u hu o g f l e
              subst e
              have : o ∈ objsAll us := objsAll_mem us _ o hu (by simp [objs])
              rw [h0] at this; cases this
            have hob := own_none us xs ys hxs h2 hno
            cases h1 with
            | obj _ _ _ _ g' h3 =>
              refine .inr ⟨o, sz, _, g, g', ho, hs, h3, ?_, ?_⟩
              · simp [obsOf, hob]
              · intro u hu o1 g1 f1 l1 e
                rcases List.mem_cons.1 hu with rfl | hu
                · cases e; exact ⟨rfl, rfl, rfl, rfl⟩
                · exact absurd e (hno u hu o1 g1 f1 l1)
            | dat _ h => simp [cellF] at h
          · cases hx
        · cases hx
      | _ => simp [own1] at hx
theorem RepU.zone {Z' : Nat → Prop} (hZ : ∀ b, Z b → Z' b) {u : U} {v : Value} (h : RepU w Z m H u v) : RepU w Z' m H u v := by
  induction h with
  | f x v h => exact .f x v (h.mono hZ fun _ _ => rfl)
  | agg cs vs hl hr ih => exact .agg cs vs hl ih
  | tup cs vs hl hr ih => exact .tup cs vs hl ih
  | hs o gen off len v h1 ho hg hv => exact .hs o gen off len v h1 ho hg hv
  | hp o off v h1 ho hv => exact .hp o off v h1 ho hv
  | ep o gen i off v h1 ho hg hv => exact .ep o gen i off v h1 ho hg hv
  | va cs a hz V hV hr => exact .va cs a (fun hne => ⟨hZ _ (hz hne).1, (hz hne).2⟩) V hV fun j u hu => (hr j u hu).mono hZ fun _ _ => rfl
  | nilp => exact .nilp
  | nils A => exact .nils A
  | fn f us vs hl hr ih => exact .fn f us vs hl ih
  | nilfn => exact .nilfn
  | undef => exact .undef
  | bad v => exact .bad v
theorem oneA_rep {w' : World} {Z' : Nat → Prop} {m' m2 : Nat → Nat} {H2 : List HO} {u : U} {e e' : F} {v : Value} {b : Nat} (hu : RepU w' Z' m' H u v) (he : own1 d H u = some e) (hle : OwnLe e e')
    (hfx : ∀ x v, (d || scal0 x) = true → RepF w' Z' x v → RepF w' Z x v)
    (hobj : ∀ o gen off len, u = .hs o gen off len → ∃ sz g', off = 0 ∧ len = gen ∧ H2[b]? = some (.arr sz gen g') ∧ m2 b = m' o ∧ ∃ g, H[o]? = some (.arr sz gen g)) : RepU w' Z m2 H2 (oneA b e') v := by
  cases u with
  | f x =>
    simp only [own1] at he
    split at he
    · rename_i hc
      have hxe : x = e := Option.some.inj he
      subst hxe
      simp only [Bool.and_eq_true] at hc
      cases hle with
      | nil => simp [cellF] at hc
      | obj => simp [cellF] at hc
      | dat _ h =>
        have key : ∀ y : F, cellF y = true → oneA b y = .f y := fun y h => by cases y <;> first | rfl | simp [cellF] at h
        rw [key _ hc.2]
        cases hu with | f _ _ hr => exact .f _ _ (hfx _ _ hc.1 hr)
    · cases he
  | nils =>
    simp only [own1, Option.some.injEq] at he
    subst he
    cases hle with
    | nil => cases hu with | nils A => exact .nils A
    | dat _ h => simp [cellF] at h
  | hs o gen off len =>
    obtain ⟨sz, g', rfl, rfl, hb, hm, g, ho⟩ := hobj o gen off len rfl
    simp only [own1, ho] at he
    split at he
    · cases he
      cases hle with
      | obj _ _ _ _ g1 h3 =>
        show RepU w' Z m2 H2 (.hs b len 0 len) v
        cases hu with
        | hs _ _ _ _ _ h1 hk hg hv =>
          obtain ⟨q1, A, c, q2, q3, q4, q5⟩ := hv sz len g ho rfl
          refine .hs b len 0 len v h1 ⟨_, hb, by simp⟩ (fun sz' n' g'' e => ?_) (fun sz' n' g'' e eg => ?_)
          · rw [hb] at e; cases e; exact Nat.le_refl _
          · rw [hb] at e; cases e
            rw [hm]
            exact ⟨q1, A, c, q2, q3, q4, q5⟩
      | dat _ h => simp [cellF] at h
    · cases he
  | _ => simp [own1] at he
/-! Answers with one layer of fields. -/
def Own2 (e f : F) : Prop := isAggF e = isAggF f ∧ OwnsLe e.cells f.cells
def Owns2 : List F → List F → Prop
  | [], [] => True
  | x :: xs, y :: ys => Own2 x y ∧ Owns2 xs ys
  | _, _ => False
theorem Own2.of {e f : F} (h : OwnLe e f) : Own2 e f := by
  cases h with
  | nil => exact ⟨rfl, .nil, trivial⟩
  | obj k sz n g g' h => exact ⟨rfl, .obj k sz n g g' h, trivial⟩
  | dat x h =>
    refine ⟨rfl, ?_⟩
    have : e.cells = [e] := by cases e <;> first | rfl | simp [cellF] at h
    rw [this]
    exact ⟨.dat e h, trivial⟩
theorem Own2.agg {es fs : List F} (h : OwnsLe es fs) : Own2 (.agg es) (.agg fs) := ⟨rfl, h⟩
theorem owns2_get : ∀ {es fs : List F}, Owns2 es fs → es.length = fs.length ∧ ∀ (j : Nat) (e : F), es[j]? = some e → ∃ f, fs[j]? = some f ∧ Own2 e f
  | [], [], _ => ⟨rfl, fun j e h => by simp at h⟩
  | x :: xs, y :: ys, h => by
    obtain ⟨h1, h2⟩ := owns2_get h.2
    refine ⟨by simp [h1], fun j e he => ?_⟩
    cases j with
    | zero => simp at he; subst he; exact ⟨y, rfl, h.1⟩
    | succ j => simp at he; obtain ⟨f, h3, h4⟩ := h2 j e he; exact ⟨f, by simpa using h3, h4⟩
  | [], _ :: _, h => h.elim
  | _ :: _, [], h => h.elim
theorem flatF_cons (e : F) (es : List F) : flatF (e :: es) = e.cells ++ flatF es := by cases e <;> rfl
theorem ownsLe_append : ∀ {a b c d : List F}, OwnsLe a b → OwnsLe c d → OwnsLe (a ++ c) (b ++ d)
  | [], [], _, _, _, h => h
  | _ :: _, _ :: _, _, _, h, h' => ⟨h.1, ownsLe_append h.2 h'⟩
  | [], _ :: _, _, _, h, _ => h.elim
  | _ :: _, [], _, _, h, _ => h.elim
theorem owns2_flat : ∀ {es fs : List F}, Owns2 es fs → OwnsLe (flatF es) (flatF fs)
  | [], [], _ => trivial
  | x :: xs, y :: ys, h => by
    rw [flatF_cons, flatF_cons]
    exact ownsLe_append h.1.2 (owns2_flat h.2)
  | [], _ :: _, h => h.elim
  | _ :: _, [], h => h.elim
theorem ownL_append : ∀ (us vs : List U) (a b : List F), ownL d H us = some a → ownL d H vs = some b → ownL d H (us ++ vs) = some (a ++ b)
  | [], vs, a, b, h, h' => by simp only [ownL, Option.some.injEq] at h; subst h; exact h'
  | u :: us, vs, a, b, h, h' => by
    simp only [ownL] at h
    split at h
    · rename_i x xs hx hxs
      cases h
      simp only [List.cons_append, ownL, hx, ownL_append us vs xs b hxs h']
    · cases h
theorem own1_cells {u : U} {e : F} (h : own1 d H u = some e) : isAggF e = false ∧ e.cells = [e] := by
  cases u with
  | f x =>
    simp only [own1] at h
    split at h
    · rename_i hc
      cases h
      simp only [Bool.and_eq_true] at hc
      obtain ⟨_, hc⟩ := hc
      cases e <;> first | exact ⟨rfl, rfl⟩ | simp [cellF] at hc
    · cases h
  | nils => simp only [own1, Option.some.injEq] at h; subst h; exact ⟨rfl, rfl⟩
  | hs o gen off len =>
    simp only [own1] at h
    split at h
    · split at h
      · cases h; exact ⟨rfl, rfl⟩
      · cases h
    · cases h
  | _ => simp [own1] at h
theorem cells_one {u : U} (h : isAggU u = false) : u.cells = [u] := by
  cases u with
  | f x => cases x <;> first | rfl | simp [isAggU] at h
  | agg => simp [isAggU] at h
  | _ => rfl
theorem mk2_cells {u : U} {a : List F} (h : ownL d H u.cells = some a) : (mkF (isAggU u) a).cells = a ∧ isAggF (mkF (isAggU u) a) = isAggU u := by
  cases hu : isAggU u with
  | true => exact ⟨rfl, rfl⟩
  | false =>
    rw [cells_one hu] at h
    simp only [ownL] at h
    split at h
    · rename_i x xs hx hxs
      cases h
      simp only [Option.some.injEq] at hxs
      subst hxs
      obtain ⟨h1, h2⟩ := own1_cells hx
      exact ⟨h2, h1⟩
    · cases h
def flatU (us : List U) : List U := (us.map U.cells).flatten
theorem ownG_flat : ∀ (us : List U) (es : List F), ownG d H us = some es → ownL d H (flatU us) = some (flatF es) ∧ us.length = es.length ∧ ∀ (j : Nat) (u : U), us[j]? = some u → ∃ a, ownL d H u.cells = some a ∧ es[j]? = some (mkF (isAggU u) a)
  | [], es, h => by simp only [ownG, Option.some.injEq] at h; subst h; exact ⟨rfl, rfl, fun j u hu => by simp at hu⟩
  | u :: us, es, h => by
    simp only [ownG] at h
    split at h
    · rename_i a r ha hr
      cases h
      obtain ⟨h1, h2, h3⟩ := ownG_flat us r hr
      refine ⟨?_, by simp [h2], fun j v hv => ?_⟩
      · rw [flatF_cons, (mk2_cells ha).1]
        exact ownL_append _ _ _ _ ha h1
      · cases j with
        | zero => simp at hv; subst hv; exact ⟨a, ha, rfl⟩
        | succ j => simp at hv; obtain ⟨b, h4, h5⟩ := h3 j v hv; exact ⟨b, h4, by simpa using h5⟩
    · cases h
theorem objsAll_append : ∀ (us vs : List U), objsAll (us ++ vs) = objsAll us ++ objsAll vs
  | [], vs => rfl
  | u :: us, vs => by simp [objsAll, objsAll_append us vs]
theorem objsAll_f : ∀ cs : List F, objsAll (cs.map U.f) = []
  | [] => rfl
  | c :: cs => by simp [objsAll, objs, objsAll_f cs]
theorem objs_cells (u : U) : objsAll u.cells = objs u ∨ ∃ l, u = .tup l := by
  cases u with
  | f x => cases x <;> first | (left; rfl) | (left; simp [U.cells, objsAll_f, objs])
  | agg l => left; rfl
  | tup l => exact .inr ⟨l, rfl⟩
  | _ => left; simp [U.cells, objsAll, objs]
theorem objsAll_flat : ∀ (us : List U), (objsAll (flatU us)).length ≤ (objsAll us).length
  | [] => Nat.le_refl _
  | u :: us => by
    have ih := objsAll_flat us
    have : flatU (u :: us) = u.cells ++ flatU us := rfl
    rw [this, objsAll_append]
    simp only [objsAll, List.length_append]
    rcases objs_cells u with h | ⟨l, rfl⟩
    · rw [h]; omega
    · have : objsAll (U.tup l).cells = objs (.tup l) := by simp [U.cells, objsAll]
      rw [this]; omega
theorem flatU_mem {us : List U} {u x : U} (hu : u ∈ us) (hx : x ∈ u.cells) : x ∈ flatU us := by
  unfold flatU
  rw [List.mem_flatten]
  exact ⟨u.cells, List.mem_map_of_mem hu, hx⟩
theorem oneU_rep {w' : World} {Z' : Nat → Prop} {m' m2 : Nat → Nat} {H2 : List HO} {u : U} {a : List F} {e' : F} {v : Value} {b : Nat} (hu : RepU w' Z' m' H u v) (ha : ownL d H u.cells = some a) (hle : Own2 (mkF (isAggU u) a) e')
    (hfx : ∀ x v, (d || scal0 x) = true → RepF w' Z' x v → RepF w' Z x v)
    (hobj : ∀ x ∈ u.cells, ∀ o gen off len, x = .hs o gen off len → ∃ sz g', off = 0 ∧ len = gen ∧ H2[b]? = some (.arr sz gen g') ∧ m2 b = m' o ∧ ∃ g, H[o]? = some (.arr sz gen g)) : RepU w' Z m2 H2 (oneU b e') v := by
  obtain ⟨hc, hag⟩ := mk2_cells ha
  obtain ⟨h1, h2⟩ := hle
  rw [hag] at h1
  rw [hc] at h2
  obtain ⟨al, ag⟩ := ownL_get _ _ ha
  obtain ⟨bl, bg⟩ := ownsLe_get h2
  cases hagu : isAggU u with
  | true =>
    rw [hagu] at h1
    cases e' with
    | agg bs =>
      obtain ⟨vs, rfl, hl, hg⟩ : ∃ vs : List Value, v = .agg vs.toArray ∧ u.cells.length = vs.length ∧ ∀ (j : Nat) (x : U) (y : Value), u.cells[j]? = some x → vs[j]? = some y → RepU w' Z' m' H x y := by
        cases hu with
        | f x _ hr =>
          cases hr with
          | agg cs vs hl hr =>
            refine ⟨vs, rfl, by simpa [U.cells] using hl, fun j x y hx hy => ?_⟩
            simp only [U.cells, List.getElem?_map] at hx
            cases hcj : cs[j]? with
            | none => rw [hcj] at hx; cases hx
            | some c => rw [hcj] at hx; cases hx; exact .f _ _ (hr j c y hcj hy)
          | _ => simp [isAggU] at hagu
        | agg cs vs hl hr => exact ⟨vs, rfl, hl, hr⟩
        | _ => simp [isAggU] at hagu
      have hb : bs.length = vs.length := by rw [← hl, al, bl]; rfl
      refine .agg _ vs (by simpa using hb) fun j x y hx hy => ?_
      rw [List.getElem?_map] at hx
      cases he : bs[j]? with
      | none => rw [he] at hx; cases hx
      | some e =>
        rw [he] at hx; cases hx
        have hj := (List.getElem?_eq_some_iff.1 he).1
        have hbl : a.length = bs.length := bl
        have huj : u.cells[j]? = some u.cells[j] := List.getElem?_eq_getElem (by omega)
        obtain ⟨e0, g1, g2⟩ := ag j _ huj
        obtain ⟨e1, g3, g4⟩ := bg j e0 g1
        have : bs[j]? = some e1 := g3
        rw [he] at this; cases this
        exact oneA_rep (hg j _ y huj hy) g2 g4 hfx (hobj _ (List.getElem_mem _))
    | _ => simp [isAggF] at h1
  | false =>
    rw [hagu] at h1
    have hcu := cells_one hagu
    rw [hcu] at ag al hobj
    obtain ⟨e0, g1, g2⟩ := ag 0 u rfl
    obtain ⟨e1, g3, g4⟩ := bg 0 e0 g1
    have he' : e'.cells = [e'] := by cases e' <;> first | rfl | simp [isAggF] at h1
    rw [he'] at g3
    simp at g3
    subst g3
    have : oneU b e' = oneA b e' := by cases e' <;> first | rfl | simp [isAggF] at h1
    rw [this]
    exact oneA_rep hu g2 g4 hfx (hobj u (by simp))
theorem fn_own {f : FuncId} {fn : Func} {c : Code} (hf : P.funcs[f]? = some fn) (hb : fn.body = some c) (hname : (fn.name == "runtime.NumGoroutine") = false) {pre cnd : List F → Bool} {r1 r2 : List F → F}
    (h : ∀ xs, pre xs = true → ∃ ys es fs, FsLe xs ys ∧ Ends P (.tmp 1000000 :: fn.results.toList) [.code c] (start fn.ntmps (ys.map .f)) (.tup es) ∧ Owns2 es fs ∧ (if cnd xs then r1 xs else r2 xs) = .tup fs) : SpOK P f (.own pre cnd r1 r2) := by
  intro us H slot hslot hp w Z m args hH hL
  simp only [ownPre, ownRes] at hp ⊢
  cases hxs : toFs H us with
  | none => rw [hxs] at hp; cases hp
  | some xs =>
  rw [hxs] at hp
  simp only at hp
  simp only []
  obtain ⟨hl2, hg2⟩ := toFs_get us xs hxs
  obtain ⟨ys, es, fs, hle, h, hes, hfs⟩ := h xs hp
  rw [hfs]
  obtain ⟨hyl, hyg⟩ := hle.get
  let Z1 : Nat → Prop := fun b => Z b ∨ ∃ o, liveAt H o ∧ m o = b
  have hZ1 : ∀ b, Z1 b → b < w.heap.size := by
    rintro b (hb | ⟨o, hlv, rfl⟩)
    · exact hH.zlt b hb
    · exact hH.blk_lt hlv
  refine .inl ⟨by
    have hp : (program).run P w = .ok P w := rfl
    unfold callFunc
    simp only [Sem.run_bind, hp, Result.andThen, hf, hname, hb, Option.isNone_some, Bool.false_eq_true, if_false, Sem.run_pure], fun cs => ?_⟩
  have hlenx : xs.length = args.size := by rw [← hl2]; simpa using hL.1
  have hlen : ys.length = args.size := by rw [← hyl]; exact hlenx
  have hA : AOK w Z1 m (start fn.ntmps (ys.map .f)) { tmps := args ++ Array.replicate (fn.ntmps - args.size) undef, defers := [] } := by
    refine ⟨by simp [start, hlen], fun i u v hu hv => ?_, ?_⟩
    · simp only [start, List.length_map] at hu
      rw [List.getElem?_append] at hu
      rw [Array.getElem?_append] at hv
      simp only [List.length_map] at hu
      split at hu
      · rename_i hi
        rw [if_pos (by omega)] at hv
        rw [List.getElem?_map] at hu
        cases hy : ys[i]? with
        | none => rw [hy] at hu; cases hu
        | some y =>
          rw [hy] at hu; cases hu
          obtain ⟨x, hx, hxy⟩ := hyg i y hy
          have huj : us[i]? = some us[i] := List.getElem?_eq_getElem (by have := (List.getElem?_eq_some_iff.1 hx).1; omega)
          refine .f _ _ (hxy _ _ _ ((toF_rep hH (fun _ _ h => h) (hL.2 i _ v huj (by simpa using hv)) (hg2 i _ x huj hx)).mono ?_ (fun _ _ => rfl)))
          rintro b (hb | ⟨o, _, hlv, rfl⟩)
          · exact .inl hb
          · exact .inr ⟨o, hlv, rfl⟩
      · rename_i hi
        rw [if_neg (by omega)] at hv
        rw [List.getElem?_replicate] at hu
        rw [Array.getElem?_replicate] at hv
        split at hu
        · split at hv
          · cases hu; cases hv; exact .undef
          · cases hv
        · cases hu
    · exact ⟨hZ1, fun o ⟨ob, ho, _⟩ => by simp [start] at ho, fun o o' ⟨ob, ho, _⟩ => by simp [start] at ho, fun o ob ho => by simp [start] at ho⟩
  let b : Frame := { (default : Frame) with fn := f, kind := .normal }
  have henter : Frame.enter P f args .normal = b.at { tmps := args ++ Array.replicate (fn.ntmps - args.size) undef, defers := [] } [.code c] := by
    simp [Frame.enter, Frame.at, hf, hb, b]
  obtain ⟨st', a', w', todo, hk, ⟨hd, Z', m', hA', hE'⟩, hs⟩ := h w Z1 m [] [] _ w Z1 m rfl hA rfl (Ext.refl _ _ _ _) b cs
  have hlive0 : ∀ o, ¬ liveAt ([] : List HO) o := fun o ⟨ob, ho, _⟩ => by simp at ho
  unfold retF at hk
  rw [if_pos (by rfl)] at hk
  have hdm : (ResultVar.tmp 1000000 :: fn.results.toList).head?.elim false datMark = false := rfl
  have htm : (ResultVar.tmp 1000000 :: fn.results.toList).head?.elim false tellMark = false := rfl
  rw [hdm, htm] at hk
  simp only [List.tail_cons, retOwn] at hk
  split at hk
  case h_2 => cases hk
  rename_i us' hus
  split at hk
  case isFalse => cases hk
  rename_i hl1
  replace hl1 : (objsAll us').length ≤ 1 := of_decide_eq_true (by simpa using hl1)
  cases hes' : ownG false st'.heap us' with
  | none => rw [hes'] at hk; cases hk
  | some es' =>
  rw [hes'] at hk
  simp only [Option.map_some, Option.some.injEq, F.tup.injEq] at hk
  subst hk
  obtain ⟨vs, hvs, hR⟩ := resU_run (P := P) hA' _ _ hus
  have hres : (results fn a'.tmps).run P w' = .ok (if h : vs.toArray.size = 1 then vs.toArray[0] else .tuple vs.toArray) w' := by
    unfold results
    rw [← Array.toArray_toList (xs := fn.results), List.mapM_toArray]
    simp only [Sem.run_bind, Sem.run_map]
    refine (congrArg (fun q => Result.andThen (Result.andThen q fun x w => Result.ok x.toArray w) fun vs w => (pure (if h : vs.size = 1 then vs[0] else .tuple vs) : Sem Value).run P w) hvs).trans ?_
    simp [Result.andThen]
  have hold : ∀ b, b < w.heap.size → w'.heap[b]? = w.heap[b]? := fun b hb => hE'.rest b hb fun o ho => absurd ho (hlive0 o)
  -- the caller's new heap
  have main : ∃ m2, Ext w Z m H w' Z m2 (newObs H slot (obsOf (flatF fs))) ∧ HOK w' Z m2 (newObs H slot (obsOf (flatF fs))) ∧ ∀ (j : Nat) (e : F) (v : Value), fs[j]? = some e → vs[j]? = some v → RepU w' Z m2 (newObs H slot (obsOf (flatF fs))) (oneU (newAt H slot) e) v := by
    obtain ⟨hflat, hol, hog⟩ := ownG_flat us' es' hes'
    obtain ⟨hfl, hfg⟩ := owns2_get hes
    have each : ∀ (j : Nat) (e : F), fs[j]? = some e → ∃ u a, us'[j]? = some u ∧ ownL false st'.heap u.cells = some a ∧ Own2 (mkF (isAggU u) a) e := fun j e he => by
      have hj := (List.getElem?_eq_some_iff.1 he).1
      have huj : us'[j]? = some us'[j] := List.getElem?_eq_getElem (by omega)
      obtain ⟨a, h1, h2⟩ := hog j _ huj
      obtain ⟨e1, h3, h4⟩ := hfg j _ h2
      rw [he] at h3; cases h3
      exact ⟨_, a, huj, h1, h4⟩
    rcases own_form (flatU us') (flatF es') (flatF fs) (Nat.le_trans (objsAll_flat us') hl1) hflat (owns2_flat hes) with ⟨h0, hno⟩ | ⟨o, sz, n, g, g', ho, hsc, hgg, hob, hone⟩
    · rw [h0]
      have e0 : newObs H slot [] = H := rfl
      rw [e0]
      have hEE : Ext w Z m H w' Z m H := by
        refine ⟨hE'.os, hE'.tape, hE'.output, hE'.size, fun b hb => hb, fun b hb => .inl hb, fun b hb => hold b (hH.zlt b hb), fun b hb _ => hold b hb, Nat.le_refl _, fun k ob ob' h1 h2 => ?_, fun k hk => .inl ⟨hk, rfl⟩⟩
        rw [h1] at h2; cases h2
        cases ob with
        | arr sz n g => exact ⟨rfl, Nat.le_refl _, fun _ => ⟨rfl, by simp only [blockCells, hold _ (hH.blk_lt ⟨_, h1, rfl⟩)]⟩⟩
        | _ => simp [Evol]
      refine ⟨m, hEE, ⟨fun b hb => Nat.lt_of_lt_of_le (hH.zlt b hb) hE'.size, hH.apart, hH.inj, fun k ob hk => ?_⟩, fun j e v he hv => ?_⟩
      · by_cases hd : ob.live = true
        · exact (hH.ob k ob hk).mono hEE (hold _ (hH.blk_lt ⟨_, hk, hd⟩))
        · cases ob <;> simp_all [ObOK, HO.live]
      · obtain ⟨u, e0, h1, h2, h3⟩ := each j e he
        exact oneU_rep (hR.2 j u v h1 hv) h2 h3 (fun x v h hr => hr.scal0_any (by simpa using h)) fun x hx o gen off len e => absurd e (hno x (flatU_mem (List.mem_of_getElem? h1) hx) o gen off len)
    · rw [hob]
      have eN : newObs H slot [.arr sz n g'] = putNew H slot (.arr sz n g') := by cases slot <;> rfl
      have eA : newAt H slot = placeNew H slot := by cases slot <;> rfl
      rw [eN, eA]
      have hlo : liveAt st'.heap o := ⟨_, ho, rfl⟩
      let m2 : Nat → Nat := fun k => if k = placeNew H slot then m' o else m k
      have hfresh : w.heap.size ≤ m' o := by
        rcases hE'.new o hlo with ⟨h, _⟩ | h
        · exact absurd h (hlive0 o)
        · exact h
      have hmn : m2 (placeNew H slot) = m' o := by simp [m2]
      have hmk : ∀ k, k ≠ placeNew H slot → m2 k = m k := fun k hk => by simp only [m2]; rw [if_neg hk]
      have hsplit : ∀ k, liveAt (putNew H slot (.arr sz n g')) k → k = placeNew H slot ∨ (k ≠ placeNew H slot ∧ liveAt H k) := by
        rintro k ⟨ob, hk, hl⟩
        by_cases hp : k = placeNew H slot
        · exact .inl hp
        · rw [putNew_other _ _ _ hp] at hk; exact .inr ⟨hp, ob, hk, hl⟩
      have hEE : Ext w Z m H w' Z m2 (putNew H slot (.arr sz n g')) := by
        refine ⟨hE'.os, hE'.tape, hE'.output, hE'.size, fun b hb => hb, fun b hb => .inl hb, fun b hb => hold b (hH.zlt b hb), fun b hb _ => hold b hb, putNew_len _ _ _, ?_, ?_⟩
        · intro k ob ob' hk hk'
          by_cases hp : k = placeNew H slot
          · cases hsl : slot with
            | none => rw [hsl] at hp; subst hp; simp [placeNew] at hk
            | some k' =>
              rw [hsl] at hp
              obtain rfl : k = k' := hp
              rw [hslot k hsl] at hk
              cases hk
              cases ob' <;> simp [Evol]
          · rw [putNew_other _ _ _ hp, hk] at hk'
            cases hk'
            rw [hmk k hp]
            cases ob with
            | arr sz n g => exact ⟨rfl, Nat.le_refl _, fun _ => ⟨rfl, by simp only [blockCells, hold _ (hH.blk_lt ⟨_, hk, rfl⟩)]⟩⟩
            | _ => simp [Evol]
        · intro k hk
          rcases hsplit k hk with h1 | ⟨h1, h2⟩
          · subst h1; right; rw [hmn]; exact hfresh
          · exact .inl ⟨h2, hmk k h1⟩
      refine ⟨m2, hEE, ⟨fun b hb => Nat.lt_of_lt_of_le (hH.zlt b hb) hE'.size, ?_, ?_, ?_⟩, fun j e v he hv => ?_⟩
      · intro k hk hz
        rcases hsplit k hk with h1 | ⟨h1, h2⟩
        · subst h1
          rw [hmn] at hz
          have := hH.zlt _ hz
          omega
        · rw [hmk k h1] at hz; exact hH.apart k h2 hz
      · intro k k' hk hk' e
        rcases hsplit k hk with h1 | ⟨h1, g1⟩ <;> rcases hsplit k' hk' with h2 | ⟨h2, g2⟩
        · rw [h1, h2]
        · subst h1; rw [hmk k' h2, hmn] at e; have := hH.blk_lt g2; omega
        · subst h2; rw [hmk k h1, hmn] at e; have := hH.blk_lt g1; omega
        · rw [hmk k h1, hmk k' h2] at e; exact hH.inj k k' g1 g2 e
      · intro k ob hk
        by_cases hp : k = placeNew H slot
        · subst hp
          rw [putNew_get _ _ _ hslot] at hk
          cases hk
          rw [hmn]
          obtain ⟨q0, c1, el, fr, q1, q2, q3, q4, q5⟩ := hA'.hok.ob o _ ho
          refine ⟨q0, c1, el, fr, q1, q2, q3, fun i hi => by rw [← hgg i hi]; exact q4 i hi, fun i j u hi hu => ?_⟩
          rw [← hgg i hi] at hu
          obtain ⟨p1, v, p2, p3⟩ := q5 i j u hi hu
          exact ⟨p1, v, p2, p3.scal0_any (scal0_cells (isScal_get hsc hi) hu)⟩
        · rw [putNew_other _ _ _ hp] at hk
          by_cases hd : ob.live = true
          · rw [hmk k hp]
            exact (hH.ob k ob hk).mono hEE (hold _ (hH.blk_lt ⟨_, hk, hd⟩))
          · cases ob <;> simp_all [ObOK, HO.live]
      · obtain ⟨u, e0, h1, h2, h3⟩ := each j e he
        refine oneU_rep (hR.2 j u v h1 hv) h2 h3 (fun x v h hr => hr.scal0_any (by simpa using h)) fun x hx o1 gen off len e => ?_
        obtain ⟨rfl, rfl, rfl, rfl⟩ := hone x (flatU_mem (List.mem_of_getElem? h1) hx) o1 gen off len e
        exact ⟨sz, g', rfl, rfl, putNew_get _ _ _ hslot, hmn, g, ho⟩
  obtain ⟨m2, hEE, hHH, hrep⟩ := main
  have hfl : fs.length = vs.length := by
    rw [← (owns2_get hes).1, ← (ownG_flat us' es' hes').2.1]; exact hR.1
  refine ⟨.returned _, w', { b.at a' todo with mode := .returning }, ⟨Z, m2, ?_⟩, ?_, rfl, rfl, hd, rfl, fn, hf, hres⟩
  · match fs, vs, hfl, hrep, hEE, hHH with
    | [e], [v], _, hrep, hEE, hHH => exact ⟨hEE, hHH, hrep 0 e v rfl rfl⟩
    | [], [], _, hrep, hEE, hHH => exact ⟨hEE, hHH, .tup [] [] rfl fun j u v hu => by simp at hu⟩
    | e1 :: e2 :: fs, v1 :: v2 :: vs, hfl, hrep, hEE, hHH =>
      refine ⟨hEE, hHH, ?_⟩
      have : RepU w' Z m2 (newObs H slot (obsOf (flatF (e1 :: e2 :: fs)))) (.tup ((e1 :: e2 :: fs).map (oneU (newAt H slot)))) (.tuple (v1 :: v2 :: vs).toArray) := .tup _ _ (by simpa using hfl) fun j u v hu hv => by
        rw [List.getElem?_map] at hu
        cases he : (e1 :: e2 :: fs)[j]? with
        | none => rw [he] at hu; cases hu
        | some e => rw [he] at hu; cases hu; exact hrep j e v he hv
      simpa [place] using this
    | [_], [], hl, _, _, _ => simp at hl
    | [_], _ :: _ :: _, hl, _, _, _ => simp at hl
    | [], _ :: _, hl, _, _, _ => simp at hl
    | _ :: _ :: _, [], hl, _, _, _ => simp at hl
    | _ :: _ :: _, [_], hl, _, _, _ => simp at hl
  · rw [henter]; exact hs
end
end Go.Proofs.Ytbnainbjcaekjaa.R
namespace Go.Proofs.Ytbnainbjcaekjaa.R
open Go
section
variable {P : Program} {w : World} {Z : Nat → Prop} {m : Nat → Nat} {H : List HO} {d : Bool}
theorem call_told {f : FuncId} {fn : Func} {c : Code} (hf : P.funcs[f]? = some fn) (hb : fn.body = some c) (hname : (fn.name == "runtime.NumGoroutine") = false) {t : Nat} (ht : ownMark (.tmp t) = true) {ys es : List F}
    (h : Ends P (.tmp t :: fn.results.toList) [.code c] (start fn.ntmps (ys.map .f)) (.tup es)) {args : Array Value} (m : Nat → Nat) (hZ : ∀ b, Z b → b < w.heap.size) (hL : RepL w Z ys args.toList) :
    CallDoes P f args w fun v w' => ∃ (st' : St) (Z' : Nat → Prop) (m' : Nat → Nat) (us : List U) (vs : List Value), ownG (datMark (.tmp t)) st'.heap us = some es ∧ (tellMark (.tmp t) = true ∨ (objsAll us).length ≤ 1) ∧
      HOK w' Z' m' st'.heap ∧ Ext w Z m [] w' Z' m' st'.heap ∧ RepUs w' Z' m' st'.heap us vs ∧ v = (if h : vs.toArray.size = 1 then vs.toArray[0] else .tuple vs.toArray) := by
  refine .inl ⟨by
    have hp : (program).run P w = .ok P w := rfl
    unfold callFunc
    simp only [Sem.run_bind, hp, Result.andThen, hf, hname, hb, Option.isNone_some, Bool.false_eq_true, if_false, Sem.run_pure], fun cs => ?_⟩
  have hlen : ys.length = args.size := by simpa using hL.1
  have hA : AOK w Z m (start fn.ntmps (ys.map .f)) { tmps := args ++ Array.replicate (fn.ntmps - args.size) undef, defers := [] } := by
    refine ⟨by simp [start, hlen], fun i u v hu hv => ?_, ?_⟩
    · simp only [start, List.length_map] at hu
      rw [List.getElem?_append] at hu
      rw [Array.getElem?_append] at hv
      simp only [List.length_map] at hu
      split at hu
      · rename_i hi
        rw [if_pos (by omega)] at hv
        rw [List.getElem?_map] at hu
        cases hx : ys[i]? with
        | none => rw [hx] at hu; cases hu
        | some x =>
          rw [hx] at hu; cases hu
          exact .f _ _ (hL.2 i x v hx (by simpa using hv))
      · rename_i hi
        rw [if_neg (by omega)] at hv
        rw [List.getElem?_replicate] at hu
        rw [Array.getElem?_replicate] at hv
        split at hu
        · split at hv
          · cases hu; cases hv; exact .undef
          · cases hv
        · cases hu
    · exact ⟨hZ, fun o ⟨ob, ho, _⟩ => by simp [start] at ho, fun o o' ⟨ob, ho, _⟩ => by simp [start] at ho, fun o ob ho => by simp [start] at ho⟩
  let b : Frame := { (default : Frame) with fn := f, kind := .normal }
  have henter : Frame.enter P f args .normal = b.at { tmps := args ++ Array.replicate (fn.ntmps - args.size) undef, defers := [] } [.code c] := by
    simp [Frame.enter, Frame.at, hf, hb, b]
  obtain ⟨st', a', w', todo, hk, ⟨hd, Z', m', hA', hE'⟩, hs⟩ := h w Z m [] [] _ w Z m rfl hA rfl (Ext.refl _ _ _ _) b cs
  unfold retF at hk
  have hm1 : (((ResultVar.tmp t :: fn.results.toList).head?.elim false ownMark) && Nat.beq 0 0) = true := by
    show (ownMark (.tmp t) && true) = true
    rw [ht]; rfl
  rw [if_pos hm1] at hk
  have hdm : (ResultVar.tmp t :: fn.results.toList).head?.elim false datMark = datMark (.tmp t) := rfl
  have htm : (ResultVar.tmp t :: fn.results.toList).head?.elim false tellMark = tellMark (.tmp t) := rfl
  rw [hdm, htm] at hk
  simp only [List.tail_cons, retOwn] at hk
  split at hk
  case h_2 => cases hk
  rename_i us' hus
  split at hk
  case isFalse => cases hk
  rename_i hl1
  cases hes' : ownG (datMark (.tmp t)) st'.heap us' with
  | none => rw [hes'] at hk; cases hk
  | some es' =>
  rw [hes'] at hk
  simp only [Option.map_some, Option.some.injEq, F.tup.injEq] at hk
  subst hk
  obtain ⟨vs, hvs, hR⟩ := resU_run (P := P) hA' _ _ hus
  have hres : (results fn a'.tmps).run P w' = .ok (if h : vs.toArray.size = 1 then vs.toArray[0] else .tuple vs.toArray) w' := by
    unfold results
    rw [← Array.toArray_toList (xs := fn.results), List.mapM_toArray]
    simp only [Sem.run_bind, Sem.run_map]
    refine (congrArg (fun q => Result.andThen (Result.andThen q fun x w => Result.ok x.toArray w) fun vs w => (pure (if h : vs.size = 1 then vs[0] else .tuple vs) : Sem Value).run P w) hvs).trans ?_
    simp [Result.andThen]
  refine ⟨.returned _, w', { b.at a' todo with mode := .returning }, ⟨st', Z', m', us', vs, hes', ?_, hA'.hok, hE', hR, rfl⟩, ?_, rfl, rfl, hd, rfl, fn, hf, hres⟩
  · cases hq : tellMark (.tmp t) with
    | true => exact .inl rfl
    | false => rw [hq] at hl1; exact .inr (of_decide_eq_true (by simpa using hl1))
  · rw [henter]; exact hs
/-! Pure functions. -/
def unt1 : F → F
  | .tup [] => .cl 0 fun _ => .bool false
  | .tup [.int _ _, .sl n g] => .sl n g
  | x => x
def unt2 : F → F
  | .agg cs => .agg (cs.map unt1)
  | x => unt1 x
theorem unt1_cell {x : F} (h : cellF x = true) : unt1 x = x := by cases x <;> first | rfl | simp [cellF] at h
theorem own1_rep (hH : HOK w Z m H) {u : U} {v : Value} {e : F} (hu : RepU w Z m H u v) (he : own1 d H u = some e) : RepF w (fun b => Z b ∨ ∃ o, liveAt H o ∧ m o = b) (unt1 e) v ∧ isAggF e = false := by
  cases u with
  | f x =>
    simp only [own1] at he
    split at he
    · rename_i hc
      cases he
      simp only [Bool.and_eq_true] at hc
      rw [unt1_cell hc.2]
      cases hu with | f _ _ hr => exact ⟨hr.mono (fun _ h => .inl h) (fun _ _ => rfl), by cases e <;> first | rfl | simp [cellF] at hc⟩
    · cases he
  | nils =>
    simp only [own1, Option.some.injEq] at he
    subst he
    cases hu with
    | nils A => exact ⟨.cl 0 _ _ (.sl 0 _ A 0 0 ⟨0, 0, none⟩ (fun _ => undef) (Nat.le_refl _) (fun i hi => by omega) (fun i j u hi => by omega) (fun h => absurd rfl h) (fun i j u hi => by omega) (fun i j u hi => by omega)) fun _ => ⟨A, rfl⟩, rfl⟩
  | hs o gen off len =>
    simp only [own1] at he
    split at he
    · rename_i sz n g ho
      split at he
      · rename_i hc
        obtain ⟨rfl, rfl, rfl, _⟩ := hc
        cases he
        refine ⟨?_, rfl⟩
        have hx : toF H (.hs o len 0 len) = some (.sl len g) := by simp only [toF, ho, if_true]; rfl
        refine (toF_rep hH (fun _ _ h => h) hu hx).mono ?_ (fun _ _ => rfl)
        rintro b (hb | ⟨o, _, hlv, rfl⟩)
        · exact .inl hb
        · exact .inr ⟨o, hlv, rfl⟩
      · cases he
    · cases he
  | _ => simp [own1] at he
theorem own2_rep (hH : HOK w Z m H) {u : U} {v : Value} {a : List F} (hu : RepU w Z m H u v) (ha : ownL d H u.cells = some a) : RepF w (fun b => Z b ∨ ∃ o, liveAt H o ∧ m o = b) (unt2 (mkF (isAggU u) a)) v := by
  obtain ⟨al, ag⟩ := ownL_get _ _ ha
  cases hagu : isAggU u with
  | true =>
    obtain ⟨vs, rfl, hl, hg⟩ : ∃ vs : List Value, v = .agg vs.toArray ∧ u.cells.length = vs.length ∧ ∀ (j : Nat) (x : U) (y : Value), u.cells[j]? = some x → vs[j]? = some y → RepU w Z m H x y := by
      cases hu with
      | f x _ hr =>
        cases hr with
        | agg cs vs hl hr =>
          refine ⟨vs, rfl, by simpa [U.cells] using hl, fun j x y hx hy => ?_⟩
          simp only [U.cells, List.getElem?_map] at hx
          cases hcj : cs[j]? with
          | none => rw [hcj] at hx; cases hx
          | some c => rw [hcj] at hx; cases hx; exact .f _ _ (hr j c y hcj hy)
        | _ => simp [isAggU] at hagu
      | agg cs vs hl hr => exact ⟨vs, rfl, hl, hr⟩
      | _ => simp [isAggU] at hagu
    show RepF w _ (.agg (a.map unt1)) _
    refine .agg _ vs (by rw [List.length_map, ← al, hl]) fun j x y hx hy => ?_
    rw [List.getElem?_map] at hx
    cases he : a[j]? with
    | none => rw [he] at hx; cases hx
    | some e =>
      rw [he] at hx; cases hx
      have hj := (List.getElem?_eq_some_iff.1 he).1
      have huj : u.cells[j]? = some u.cells[j] := List.getElem?_eq_getElem (by omega)
      obtain ⟨e0, g1, g2⟩ := ag j _ huj
      rw [he] at g1; cases g1
      exact (own1_rep hH (hg j _ y huj hy) g2).1
  | false =>
    have hcu := cells_one hagu
    rw [hcu] at ag al
    obtain ⟨e0, g1, g2⟩ := ag 0 u rfl
    obtain ⟨h1, h2⟩ := own1_rep hH hu g2
    match a, al, g1 with
    | [e], _, g1 =>
      simp at g1; subst g1
      show RepF w _ (unt2 e) v
      have : unt2 e = unt1 e := by cases e <;> first | rfl | simp [isAggF] at h2
      rw [this]
      exact h1
theorem fn_told {f : FuncId} {fn : Func} {c : Code} (hf : P.funcs[f]? = some fn) (hb : fn.body = some c) (hname : oddFn fn = false) {pre : List F → Bool} {res : List F → F}
    (h : ∀ xs, pre xs = true → ∃ ys es, FsLe xs ys ∧ Ends P (.tmp 1000002 :: fn.results.toList) [.code c] (start fn.ntmps (ys.map .f)) (.tup es) ∧ FLe (tupF (es.map unt2)) (res xs)) : PureOK P f pre res := by
  intro xs hp w Z args hZ hL
  obtain ⟨ys, es, h1, h2, h3⟩ := h xs hp
  refine (call_told hf hb (oddFn_name hname) (t := 1000002) rfl h2 (fun _ => 0) hZ (hL.le h1)).mono fun v w' ⟨st', Z', m', us, vs, q1, _, q3, q4, q5, q6⟩ => ?_
  have hlive0 : ∀ o, ¬ liveAt ([] : List HO) o := fun o ⟨ob, ho, _⟩ => by simp at ho
  refine ⟨⟨q4.os, q4.tape, q4.output, q4.size, fun b hb => q4.rest b hb fun o ho => absurd ho (hlive0 o)⟩, fun b => Z' b ∨ ∃ o, liveAt st'.heap o ∧ m' o = b, ?_, ?_⟩
  · rintro b (hb | ⟨o, hlv, rfl⟩)
    · have hlt := q3.zlt b hb
      rcases q4.back b hb with h | h | ⟨o, ho, _⟩
      · exact .inl h
      · exact .inr ⟨h, hlt⟩
      · exact absurd ho (hlive0 o)
    · rcases q4.new o hlv with ⟨h, _⟩ | h
      · exact absurd h (hlive0 o)
      · exact .inr ⟨h, q3.blk_lt hlv⟩
  · refine h3 _ _ _ ?_
    obtain ⟨_, hol, hog⟩ := ownG_flat us es q1
    have each : ∀ (j : Nat) (e : F) (y : Value), es[j]? = some e → vs[j]? = some y → RepF w' (fun b => Z' b ∨ ∃ o, liveAt st'.heap o ∧ m' o = b) (unt2 e) y := fun j e y he hy => by
      have hj := (List.getElem?_eq_some_iff.1 he).1
      have huj : us[j]? = some us[j] := List.getElem?_eq_getElem (by omega)
      obtain ⟨a, h1, h2⟩ := hog j _ huj
      rw [he] at h2; cases h2
      exact own2_rep q3 (q5.2 j _ y huj hy) h1
    have hlen : es.length = vs.length := by rw [← hol]; exact q5.1
    rw [q6]
    match es, vs, hlen, each with
    | [e], [v], _, each => exact each 0 e v rfl rfl
    | [], [], _, each => exact .tup [] [] rfl fun j u v hu => by simp at hu
    | e1 :: e2 :: es, v1 :: v2 :: vs, hlen, each =>
      have : RepF w' (fun b => Z' b ∨ ∃ o, liveAt st'.heap o ∧ m' o = b) (.tup ((e1 :: e2 :: es).map unt2)) (.tuple (v1 :: v2 :: vs).toArray) := .tup _ _ (by simpa using hlen) fun j u v hu hv => by
        rw [List.getElem?_map] at hu
        cases he : (e1 :: e2 :: es)[j]? with
        | none => rw [he] at hu; cases hu
        | some e => rw [he] at hu; cases hu; exact each j e v he hv
      simpa [tupF] using this
    | [_], [], hl, _ => simp at hl
    | [_], _ :: _ :: _, hl, _ => simp at hl
    | [], _ :: _, hl, _ => simp at hl
    | _ :: _ :: _, [], hl, _ => simp at hl
    | _ :: _ :: _, [_], hl, _ => simp at hl
/-! An answer with data beside a slice of the caller's own. -/
theorem ownd_end {w' : World} {Z' : Nat → Prop} {m' : Nat → Nat} {Hc : List HO} {us : List U} {es fs : List F} {vs : List Value} {slot : Option Nat} (hslot : SlotOK H slot) (hH : HOK w Z m H)
    (q1 : ownG true Hc us = some es) (q2 : (objsAll us).length ≤ 1) (q3 : HOK w' Z' m' Hc) (q4 : Ext w Z m [] w' Z' m' Hc) (q5 : RepUs w' Z' m' Hc us vs) (hes : Owns2 es fs) :
    ∃ m2, Ext w Z m H w' Z' m2 (newObs H slot (obsOf (flatF fs))) ∧ HOK w' Z' m2 (newObs H slot (obsOf (flatF fs))) ∧ ∀ (j : Nat) (e : F) (v : Value), fs[j]? = some e → vs[j]? = some v → RepU w' Z' m2 (newObs H slot (obsOf (flatF fs))) (oneU (newAt H slot) e) v := by
  have hlive0 : ∀ o, ¬ liveAt ([] : List HO) o := fun o ⟨ob, ho, _⟩ => by simp at ho
  have hold : ∀ b, b < w.heap.size → w'.heap[b]? = w.heap[b]? := fun b hb => q4.rest b hb fun o ho => absurd ho (hlive0 o)
  have hback : ∀ b, Z' b → Z b ∨ w.heap.size ≤ b := fun b hb => by
    rcases q4.back b hb with h | h | ⟨o, ho, _⟩
    · exact .inl h
    · exact .inr h
    · exact absurd ho (hlive0 o)
  have hap : ∀ k, liveAt H k → ¬ Z' (m k) := fun k hk hz => by
    rcases hback _ hz with h | h
    · exact hH.apart k hk h
    · have := hH.blk_lt hk; omega
  obtain ⟨hflat, hol, hog⟩ := ownG_flat us es q1
  obtain ⟨hfl, hfg⟩ := owns2_get hes
  have each : ∀ (j : Nat) (e : F), fs[j]? = some e → ∃ u a, us[j]? = some u ∧ ownL true Hc u.cells = some a ∧ Own2 (mkF (isAggU u) a) e := fun j e he => by
    have hj := (List.getElem?_eq_some_iff.1 he).1
    have huj : us[j]? = some us[j] := List.getElem?_eq_getElem (by omega)
    obtain ⟨a, h1, h2⟩ := hog j _ huj
    obtain ⟨e1, h3, h4⟩ := hfg j _ h2
    rw [he] at h3; cases h3
    exact ⟨_, a, huj, h1, h4⟩
  rcases own_form (flatU us) (flatF es) (flatF fs) (Nat.le_trans (objsAll_flat us) q2) hflat (owns2_flat hes) with ⟨h0, hno⟩ | ⟨o, sz, n, g, g', ho, hsc, hgg, hob, hone⟩
  · rw [h0]
    have e0 : newObs H slot [] = H := rfl
    rw [e0]
    have hEE : Ext w Z m H w' Z' m H := by
      refine ⟨q4.os, q4.tape, q4.output, q4.size, q4.sub, fun b hb => (hback b hb).elim .inl fun h => .inr (.inl h), fun b hb => hold b (hH.zlt b hb), fun b hb _ => hold b hb, Nat.le_refl _, fun k ob ob' h1 h2 => ?_, fun k hk => .inl ⟨hk, rfl⟩⟩
      rw [h1] at h2; cases h2
      cases ob with
      | arr sz n g => exact ⟨rfl, Nat.le_refl _, fun _ => ⟨rfl, by simp only [blockCells, hold _ (hH.blk_lt ⟨_, h1, rfl⟩)]⟩⟩
      | _ => simp [Evol]
    refine ⟨m, hEE, ⟨q3.zlt, hap, hH.inj, fun k ob hk => ?_⟩, fun j e v he hv => ?_⟩
    · by_cases hd : ob.live = true
      · exact (hH.ob k ob hk).mono hEE (hold _ (hH.blk_lt ⟨_, hk, hd⟩))
      · cases ob <;> simp_all [ObOK, HO.live]
    · obtain ⟨u, e0, h1, h2, h3⟩ := each j e he
      exact oneU_rep (q5.2 j u v h1 hv) h2 h3 (fun _ _ _ hr => hr) fun x hx o gen off len e => absurd e (hno x (flatU_mem (List.mem_of_getElem? h1) hx) o gen off len)
  · rw [hob]
    have eN : newObs H slot [.arr sz n g'] = putNew H slot (.arr sz n g') := by cases slot <;> rfl
    have eA : newAt H slot = placeNew H slot := by cases slot <;> rfl
    rw [eN, eA]
    have hlo : liveAt Hc o := ⟨_, ho, rfl⟩
    let m2 : Nat → Nat := fun k => if k = placeNew H slot then m' o else m k
    have hfresh : w.heap.size ≤ m' o := by
      rcases q4.new o hlo with ⟨h, _⟩ | h
      · exact absurd h (hlive0 o)
      · exact h
    have hmn : m2 (placeNew H slot) = m' o := by simp [m2]
    have hmk : ∀ k, k ≠ placeNew H slot → m2 k = m k := fun k hk => by simp only [m2]; rw [if_neg hk]
    have hsplit : ∀ k, liveAt (putNew H slot (.arr sz n g')) k → k = placeNew H slot ∨ (k ≠ placeNew H slot ∧ liveAt H k) := by
      rintro k ⟨ob, hk, hl⟩
      by_cases hp : k = placeNew H slot
      · exact .inl hp
      · rw [putNew_other _ _ _ hp] at hk; exact .inr ⟨hp, ob, hk, hl⟩
    have hEE : Ext w Z m H w' Z' m2 (putNew H slot (.arr sz n g')) := by
      refine ⟨q4.os, q4.tape, q4.output, q4.size, q4.sub, fun b hb => (hback b hb).elim .inl fun h => .inr (.inl h), fun b hb => hold b (hH.zlt b hb), fun b hb _ => hold b hb, putNew_len _ _ _, ?_, ?_⟩
      · intro k ob ob' hk hk'
        by_cases hp : k = placeNew H slot
        · cases hsl : slot with
          | none => rw [hsl] at hp; subst hp; simp [placeNew] at hk
          | some k' =>
            rw [hsl] at hp
            obtain rfl : k = k' := hp
            rw [hslot k hsl] at hk
            cases hk
            cases ob' <;> simp [Evol]
        · rw [putNew_other _ _ _ hp, hk] at hk'
          cases hk'
          rw [hmk k hp]
          cases ob with
          | arr sz n g => exact ⟨rfl, Nat.le_refl _, fun _ => ⟨rfl, by simp only [blockCells, hold _ (hH.blk_lt ⟨_, hk, rfl⟩)]⟩⟩
          | _ => simp [Evol]
      · intro k hk
        rcases hsplit k hk with h1 | ⟨h1, h2⟩
        · subst h1; right; rw [hmn]; exact hfresh
        · exact .inl ⟨h2, hmk k h1⟩
    refine ⟨m2, hEE, ⟨q3.zlt, ?_, ?_, ?_⟩, fun j e v he hv => ?_⟩
    · intro k hk hz
      rcases hsplit k hk with h1 | ⟨h1, h2⟩
      · subst h1
        rw [hmn] at hz
        exact q3.apart o hlo hz
      · rw [hmk k h1] at hz; exact hap k h2 hz
    · intro k k' hk hk' e
      rcases hsplit k hk with h1 | ⟨h1, g1⟩ <;> rcases hsplit k' hk' with h2 | ⟨h2, g2⟩
      · rw [h1, h2]
      · subst h1; rw [hmk k' h2, hmn] at e; have := hH.blk_lt g2; omega
      · subst h2; rw [hmk k h1, hmn] at e; have := hH.blk_lt g1; omega
      · rw [hmk k h1, hmk k' h2] at e; exact hH.inj k k' g1 g2 e
    · intro k ob hk
      by_cases hp : k = placeNew H slot
      · subst hp
        rw [putNew_get _ _ _ hslot] at hk
        cases hk
        rw [hmn]
        obtain ⟨q0, c1, el, fr, r1, r2, r3, r4, r5⟩ := q3.ob o _ ho
        exact ⟨q0, c1, el, fr, r1, r2, r3, fun i hi => by rw [← hgg i hi]; exact r4 i hi, fun i j u hi hu => r5 i j u hi (by rw [hgg i hi]; exact hu)⟩
      · rw [putNew_other _ _ _ hp] at hk
        by_cases hd : ob.live = true
        · rw [hmk k hp]
          exact (hH.ob k ob hk).mono hEE (hold _ (hH.blk_lt ⟨_, hk, hd⟩))
        · cases ob <;> simp_all [ObOK, HO.live]
    · obtain ⟨u, e0, h1, h2, h3⟩ := each j e he
      refine oneU_rep (q5.2 j u v h1 hv) h2 h3 (fun _ _ _ hr => hr) fun x hx o1 gen off len e => ?_
      obtain ⟨rfl, rfl, rfl, rfl⟩ := hone x (flatU_mem (List.mem_of_getElem? h1) hx) o1 gen off len e
      exact ⟨sz, g', rfl, rfl, putNew_get _ _ _ hslot, hmn, g, ho⟩
theorem place_tup {w' : World} {Z' : Nat → Prop} {m2 : Nat → Nat} {fs : List F} {vs : List Value} {slot : Option Nat} (hlen : fs.length = vs.length)
    (hrep : ∀ (j : Nat) (e : F) (v : Value), fs[j]? = some e → vs[j]? = some v → RepU w' Z' m2 (newObs H slot (obsOf (flatF fs))) (oneU (newAt H slot) e) v)
    (h2 : Ext w Z m H w' Z' m2 (newObs H slot (obsOf (flatF fs))) ∧ HOK w' Z' m2 (newObs H slot (obsOf (flatF fs)))) :
    Ext w Z m H w' Z' m2 (place H slot (.tup fs)).2 ∧ HOK w' Z' m2 (place H slot (.tup fs)).2 ∧ RepU w' Z' m2 (place H slot (.tup fs)).2 (place H slot (.tup fs)).1 (if h : vs.toArray.size = 1 then vs.toArray[0] else .tuple vs.toArray) := by
  match fs, vs, hlen, hrep, h2 with
  | [e], [v], _, hrep, h2 => exact ⟨h2.1, h2.2, hrep 0 e v rfl rfl⟩
  | [], [], _, hrep, h2 => exact ⟨h2.1, h2.2, .tup [] [] rfl fun j u v hu => by simp at hu⟩
  | e1 :: e2 :: fs, v1 :: v2 :: vs, hfl, hrep, h2 =>
    refine ⟨h2.1, h2.2, ?_⟩
    have : RepU w' Z' m2 (newObs H slot (obsOf (flatF (e1 :: e2 :: fs)))) (.tup ((e1 :: e2 :: fs).map (oneU (newAt H slot)))) (.tuple (v1 :: v2 :: vs).toArray) := .tup _ _ (by simpa using hfl) fun j u v hu hv => by
      rw [List.getElem?_map] at hu
      cases he : (e1 :: e2 :: fs)[j]? with
      | none => rw [he] at hu; cases hu
      | some e => rw [he] at hu; cases hu; exact hrep j e v he hv
    simpa [place] using this
  | [_], [], hl, _, _ => simp at hl
  | [_], _ :: _ :: _, hl, _, _ => simp at hl
  | [], _ :: _, hl, _, _ => simp at hl
  | _ :: _ :: _, [], hl, _, _ => simp at hl
  | _ :: _ :: _, [_], hl, _, _ => simp at hl
theorem fn_ownd1 {f : FuncId} {fn : Func} {c : Code} (hf : P.funcs[f]? = some fn) (hb : fn.body = some c) (hname : (fn.name == "runtime.NumGoroutine") = false) {pre : List F → Bool} {r1 : List F → F}
    (h : ∀ xs, pre xs = true → ∃ ys es fs, FsLe xs ys ∧ Ends P (.tmp 1000001 :: fn.results.toList) [.code c] (start fn.ntmps (ys.map .f)) (.tup es) ∧ Owns2 es fs ∧ r1 xs = .tup fs) : OwnDOK P f pre r1 := by
  intro xs hp H slot hslot w Z m args hH hL
  obtain ⟨ys, es, fs, h1, h2, h3, h4⟩ := h xs hp
  rw [h4]
  refine (call_told hf hb hname (t := 1000001) rfl h2 m hH.zlt (hL.le h1)).mono fun v w' ⟨st', Z', m', us, vs, q1, q2, q3, q4, q5, q6⟩ => ?_
  have q2' : (objsAll us).length ≤ 1 := by
    rcases q2 with h | h
    · cases h
    · exact h
  obtain ⟨m2, g1, g2, g3⟩ := ownd_end (us := us) hslot hH q1 q2' q3 q4 q5 h3
  have hlen : fs.length = vs.length := by
    rw [← (owns2_get h3).1, ← (ownG_flat us es q1).2.1]; exact q5.1
  rw [q6]
  exact ⟨Z', m2, place_tup hlen g3 ⟨g1, g2⟩⟩
theorem own1_scal {Hc : List HO} {u : U} {e : F} (h : own1 true Hc u = some e) (he : e = .tup [] ∨ scal0 e = true) : own1 false Hc u = some e := by
  cases u with
  | f x =>
    simp only [own1] at h
    split at h
    · rename_i hc
      cases h
      simp only [Bool.true_or, Bool.true_and] at hc
      rcases he with rfl | he
      · simp [cellF] at hc
      · simp only [own1, he, hc, Bool.or_true, Bool.and_self, if_true]
    · cases h
  | nils => exact h
  | hs o gen off len =>
    simp only [own1] at h
    split at h
    · split at h
      · cases h
        rcases he with he | he
        · cases he
        · simp [scal0] at he
      · cases h
    · cases h
  | _ => simp [own1] at h
theorem ownL_scal {Hc : List HO} : ∀ (us : List U) (es : List F), ownL true Hc us = some es → (∀ x ∈ es, x = .tup [] ∨ scal0 x = true) → ownL false Hc us = some es
  | [], es, h, _ => h
  | u :: us, es, h, hs => by
    simp only [ownL] at h
    split at h
    · rename_i x xs hx hxs
      cases h
      simp only [ownL, own1_scal hx (hs x (by simp)), ownL_scal us xs hxs fun y hy => hs y (by simp [hy])]
    · cases h
theorem flatF_mem : ∀ {es : List F} {e x : F}, e ∈ es → x ∈ e.cells → x ∈ flatF es
  | a :: es, e, x, he, hx => by
    rw [flatF_cons]
    rcases List.mem_cons.1 he with rfl | he
    · exact List.mem_append_left _ hx
    · exact List.mem_append_right _ (flatF_mem he hx)
theorem fn_ownd {f : FuncId} {fn : Func} {c : Code} (hf : P.funcs[f]? = some fn) (hb : fn.body = some c) (hname : (fn.name == "runtime.NumGoroutine") = false) {pre cnd : List F → Bool} {r1 r2 : List F → F}
    (h1 : ∀ xs, pre xs = true → cnd xs = true → ∃ ys es fs, FsLe xs ys ∧ Ends P (.tmp 1000001 :: fn.results.toList) [.code c] (start fn.ntmps (ys.map .f)) (.tup es) ∧ Owns2 es fs ∧ r1 xs = .tup fs)
    (h2 : ∀ xs, pre xs = true → cnd xs = false → ∃ ys es, FsLe xs ys ∧ Ends P (.tmp 1000001 :: fn.results.toList) [.code c] (start fn.ntmps (ys.map .f)) (.tup es) ∧ (∀ x ∈ flatF es, x = .tup [] ∨ (scal0 x = true ∧ cellF x = true)) ∧ r2 xs = .tup es) : SpOK P f (.ownd pre cnd r1 r2) := by
  refine ⟨fn_ownd1 hf hb hname fun xs hp => ?_, ?_⟩
  · simp only [Bool.and_eq_true] at hp
    exact h1 xs hp.1 hp.2
  intro us H slot hslot hp w Z m args hH hL
  simp only [ownPre, ownRes] at hp ⊢
  cases hxs : toFs H us with
  | none => rw [hxs] at hp; cases hp
  | some xs =>
  rw [hxs] at hp
  simp only [Bool.and_eq_true, Bool.not_eq_true'] at hp
  simp only [if_true]
  obtain ⟨hl2, hg2⟩ := toFs_get us xs hxs
  obtain ⟨ys, es, hle, h, hsc, hfs⟩ := h2 xs hp.1 hp.2
  rw [hfs]
  let Z1 : Nat → Prop := fun b => Z b ∨ ∃ o, liveAt H o ∧ m o = b
  have hZ1 : ∀ b, Z1 b → b < w.heap.size := by
    rintro b (hb | ⟨o, hlv, rfl⟩)
    · exact hH.zlt b hb
    · exact hH.blk_lt hlv
  have hargs : RepL w Z1 xs args.toList := by
    refine ⟨by rw [← hl2]; exact hL.1, fun j x v hx hv => ?_⟩
    have hj : j < us.length := by have := (List.getElem?_eq_some_iff.1 hx).1; omega
    have huj : us[j]? = some us[j] := List.getElem?_eq_getElem hj
    refine (toF_rep hH (fun _ _ h => h) (hL.2 j _ v huj hv) (hg2 j _ x huj hx)).mono ?_ (fun _ _ => rfl)
    rintro b (hb | ⟨o, _, hlv, rfl⟩)
    · exact .inl hb
    · exact .inr ⟨o, hlv, rfl⟩
  refine (call_told hf hb hname (t := 1000001) rfl h m hZ1 (hargs.le hle)).mono fun v w' ⟨st', Z', m', us', vs, q1, q2, q3, q4, q5, q6⟩ => ?_
  have hlive0 : ∀ o, ¬ liveAt ([] : List HO) o := fun o ⟨ob, ho, _⟩ => by simp at ho
  have hold : ∀ b, b < w.heap.size → w'.heap[b]? = w.heap[b]? := fun b hb => q4.rest b hb fun o ho => absurd ho (hlive0 o)
  have hEE : Ext w Z m H w' Z m H := by
    refine ⟨q4.os, q4.tape, q4.output, q4.size, fun b hb => hb, fun b hb => .inl hb, fun b hb => hold b (hH.zlt b hb), fun b hb _ => hold b hb, Nat.le_refl _, fun k ob ob' h1 h2 => ?_, fun k hk => .inl ⟨hk, rfl⟩⟩
    rw [h1] at h2; cases h2
    cases ob with
    | arr sz n g => exact ⟨rfl, Nat.le_refl _, fun _ => ⟨rfl, by simp only [blockCells, hold _ (hH.blk_lt ⟨_, h1, rfl⟩)]⟩⟩
    | _ => simp [Evol]
  have hHH : HOK w' Z m H := ⟨fun b hb => Nat.lt_of_lt_of_le (hH.zlt b hb) q4.size, hH.apart, hH.inj, fun k ob hk => by
    by_cases hd : ob.live = true
    · exact (hH.ob k ob hk).mono hEE (hold _ (hH.blk_lt ⟨_, hk, hd⟩))
    · cases ob <;> simp_all [ObOK, HO.live]⟩
  obtain ⟨hflat, hol, hog⟩ := ownG_flat us' es q1
  have nobs : ∀ l : List F, (∀ x ∈ l, x = .tup [] ∨ (scal0 x = true ∧ cellF x = true)) → obsOf l = [] := by
    intro l
    induction l with
    | nil => intro _; rfl
    | cons x l ih =>
      intro hl
      have := ih fun y hy => hl y (by simp [hy])
      rcases hl x (by simp) with rfl | ⟨_, hx⟩
      · exact this
      · rw [obsOf_dat hx]; exact this
  have hn : newObs H slot (obsOf (flatF es)) = H := by rw [nobs _ hsc]; rfl
  have hown : ∀ (j : Nat) (e : F) (y : Value), es[j]? = some e → vs[j]? = some y → RepU w' Z m (newObs H slot (obsOf (flatF es))) (oneU (newAt H slot) e) y := fun j e y he hy => by
    rw [hn]
    have hj := (List.getElem?_eq_some_iff.1 he).1
    have hj' : j < us'.length := by omega
    have huj : us'[j]? = some us'[j] := List.getElem?_eq_getElem hj'
    obtain ⟨a, h1, h2⟩ := hog j _ huj
    rw [he] at h2; cases h2
    obtain ⟨hc, hag⟩ := mk2_cells h1
    have hmem : ∀ x ∈ a, x = .tup [] ∨ (scal0 x = true ∧ cellF x = true) := fun x hx => hsc x (flatF_mem (List.mem_of_getElem? he) (by rw [hc]; exact hx))
    have h1' := ownL_scal _ _ h1 fun x hx => (hmem x hx).imp id fun h => h.1
    have hle : Own2 (mkF (isAggU us'[j]) a) (mkF (isAggU us'[j]) a) := by
      refine ⟨rfl, ?_⟩
      rw [hc]
      have : ∀ l : List F, (∀ x ∈ l, x = .tup [] ∨ (scal0 x = true ∧ cellF x = true)) → OwnsLe l l := by
        intro l
        induction l with
        | nil => intro _; trivial
        | cons x l ih =>
          intro hl
          refine ⟨?_, ih fun y hy => hl y (by simp [hy])⟩
          rcases hl x (by simp) with rfl | ⟨_, hx⟩
          · exact .nil
          · exact .dat x hx
      exact this a hmem
    refine oneU_rep (d := false) (q5.2 j _ y huj hy) h1' hle (fun x v h hr => hr.scal0_any (by simpa using h)) fun x hx o gen off len e => ?_
    exfalso
    subst e
    obtain ⟨k, hk, hkx⟩ := List.getElem_of_mem hx
    obtain ⟨_, ag⟩ := ownL_get _ _ h1'
    obtain ⟨e0, g1, g2⟩ := ag k (.hs o gen off len) (by rw [List.getElem?_eq_getElem hk, hkx])
    simp only [own1] at g2
    split at g2
    · split at g2
      · cases g2
        rcases hmem _ (List.mem_of_getElem? g1) with h | ⟨h, _⟩
        · cases h
        · simp [scal0] at h
      · cases g2
    · cases g2
  have hlen : es.length = vs.length := by rw [← hol]; exact q5.1
  rw [q6]
  exact ⟨Z, m, place_tup hlen hown (by rw [hn]; exact ⟨hEE, hHH⟩)⟩
theorem FLe.toCl {n : Nat} {g g' : Nat → F} (hn : n ≠ 0) (h : ∀ j, j < n → g j = g' j) : FLe (.sl n g) (.cl n g') := fun _ _ _ hv => .cl _ _ _ (FLe.sl h _ _ _ hv) fun e => absurd e hn
theorem FLe.cl {n : Nat} {g g' : Nat → F} (h : ∀ j, j < n → g j = g' j) : FLe (.cl n g) (.cl n g') := fun _ _ _ hv => by
  cases hv with | cl _ _ _ hv h0 => exact .cl _ _ _ (FLe.sl h _ _ _ hv) h0
theorem FLe.unCl {n : Nat} {g g' : Nat → F} (h : ∀ j, j < n → g j = g' j) : FLe (.cl n g) (.sl n g') := fun _ _ _ hv => by
  cases hv with | cl _ _ _ hv h0 => exact FLe.sl h _ _ _ hv
def lentdResS (res : List F → Nat → (Nat → F) → F) : List U → List HO → U × List HO
  | u0 :: .hs o _ _ _ :: us, H => match H[o]?, toFs [] (u0 :: us) with
    | some (.arr sz n g), some xs => (.f (res xs n g), H.set o (.arr sz n g))
    | _, _ => (.bad, H)
  | _, H => (.bad, H)
theorem lentdResS_eq (res : List F → Nat → (Nat → F) → F) (us : List U) (H : List HO) : lentdResS res us H = lentdRes res us H := by
  cases us with
  | nil => rfl
  | cons u0 us => cases us with
    | nil => rfl
    | cons u1 us => cases u1 with
      | hs o gen off len =>
        cases ho : H[o]? with
        | none => simp only [lentdResS, lentdRes, ho]
        | some ob => cases ob with
          | arr sz n g =>
            cases hxs : toFs [] (u0 :: us) with
            | none => simp only [lentdResS, lentdRes, ho, hxs]
            | some xs =>
              have hset : H.set o (.arr sz n g) = H := by
                apply List.ext_getElem?
                intro k
                by_cases hk : o = k
                · subst hk
                  rw [List.getElem?_set_self (List.getElem?_eq_some_iff.1 ho).1, ho]
                · rw [List.getElem?_set_ne hk]
              simp only [lentdResS, lentdRes, ho, hxs, hset]
          | _ => simp only [lentdResS, lentdRes, ho]
      | _ => rfl
theorem fn_lentdS {f : FuncId} {fn : Func} {c : Code} (hf : P.funcs[f]? = some fn) (hb : fn.body = some c) (hname : (fn.name == "runtime.NumGoroutine") = false) {sz : Nat} {pre : List F → Nat → (Nat → F) → Bool} {res : List F → Nat → (Nat → F) → F}
    (h : ∀ x0 xs n g, pre (x0 :: xs) n g = true → ∃ y g1, EndsN P 1 fn.results.toList [.code c] (startN fn.ntmps (.f x0 :: .hs 0 n 0 n :: xs.map .f) [.arr sz n g]) (.tup [y, .sl n g1]) ∧ FLe y (res (x0 :: xs) n g) ∧ ∀ j, j < n → g1 j = g j) : SharedOK P f (lentdPre sz pre) (lentdResS res) := by
  intro us H hp w Z m args hH hL
  unfold lentdPre at hp
  split at hp
  · rename_i u0 o gen off len us'
    split at hp
    case h_2 => cases hp
    rename_i sz' n g xs ho hxs
    simp only [Bool.and_eq_true, decide_eq_true_eq] at hp
    obtain ⟨⟨⟨⟨hsz, rfl⟩, rfl⟩, rfl⟩, hp⟩ := hp
    have := Nat.eq_of_beq_eq_true hsz
    subst this
    have hres : lentdResS res (u0 :: .hs o len 0 len :: us') H = (.f (res xs len g), H.set o (.arr sz' len g)) := by simp only [lentdResS, ho, hxs]
    rw [hres]
    obtain ⟨hl2, hg2⟩ := toFs_get (u0 :: us') xs hxs
    obtain ⟨x0, xs, rfl⟩ : ∃ a l, xs = a :: l := by
      cases xs with
      | nil => simp at hl2
      | cons a l => exact ⟨a, l, rfl⟩
    obtain ⟨yR, g1, hE, hyR, hg1⟩ := h x0 xs _ g hp
    simp only [List.length_cons] at hl2
    have hlo : liveAt H o := ⟨_, ho, rfl⟩
    have hobk := hH.ob o _ ho
    have hlt : o < H.length := (List.getElem?_eq_some_iff.1 ho).1
    let m1 : Nat → Nat := fun _ => m o
    have hH1 : HOK w Z m1 [.arr sz' len g] := by
      refine ⟨hH.zlt, fun _ _ => hH.apart o hlo, fun a b ha hb _ => ?_, fun k ob hk => ?_⟩
      · obtain ⟨_, ha, _⟩ := ha
        obtain ⟨_, hb, _⟩ := hb
        have h1 := (List.getElem?_eq_some_iff.1 ha).1
        have h2 := (List.getElem?_eq_some_iff.1 hb).1
        simp only [List.length_singleton] at h1 h2
        omega
      · have hk0 := (List.getElem?_eq_some_iff.1 hk).1
        obtain rfl : k = 0 := by simp at hk0; exact hk0
        simp at hk; subst hk
        exact hobk
    have hA : AOK w Z m1 (startN fn.ntmps (.f x0 :: .hs 0 len 0 len :: xs.map .f) [.arr sz' len g]) { tmps := args ++ Array.replicate (fn.ntmps - args.size) undef, defers := [] } := by
      have hlen : (U.f x0 :: U.hs 0 len 0 len :: xs.map U.f).length = args.size := by have := hL.1; simp at this ⊢; omega
      refine ⟨by simp only [startN, List.length_append, List.length_replicate, hlen]; simp, fun i u v hu hv => ?_, hH1⟩
      simp only [startN] at hu
      rw [List.getElem?_append] at hu
      rw [Array.getElem?_append] at hv
      split at hu
      · rename_i hi
        rw [if_pos (by omega)] at hv
        cases i with
        | zero =>
          simp at hu; subst hu
          exact .f _ _ (toF_rep_nil hH (hL.2 0 _ v rfl (by simpa using hv)) (hg2 0 u0 x0 rfl rfl))
        | succ i =>
        cases i with
        | zero =>
          simp at hu; subst hu
          have := hL.2 1 _ v rfl (by simpa using hv)
          cases this with
          | hs _ _ _ _ _ h1 hk hg hvv =>
            refine .hs 0 len 0 len v h1 ⟨_, rfl, by simp⟩ (fun sz2 n2 g2 e => ?_) (fun sz2 n2 g2 e eg => ?_)
            · cases e; exact Nat.le_refl _
            · cases e
              exact hvv _ _ _ ho rfl
        | succ i =>
          simp only [List.getElem?_cons_succ, List.getElem?_map] at hu
          cases hxj : xs[i]? with
          | none => rw [hxj] at hu; cases hu
          | some y =>
            rw [hxj] at hu; cases hu
            have hj := (List.getElem?_eq_some_iff.1 hxj).1
            have huj : us'[i]? = some us'[i] := List.getElem?_eq_getElem (by omega)
            exact .f _ _ (toF_rep_nil hH (hL.2 (i + 2) _ v (by rw [List.getElem?_cons_succ, List.getElem?_cons_succ]; exact huj) (by simpa using hv)) (hg2 (i + 1) _ y (by rw [List.getElem?_cons_succ]; exact huj) (by rw [List.getElem?_cons_succ]; exact hxj)))
      · rename_i hi
        rw [if_neg (by omega)] at hv
        rw [List.getElem?_replicate] at hu
        rw [Array.getElem?_replicate] at hv
        split at hu
        · split at hv
          · cases hu; cases hv; exact .undef
          · cases hv
        · cases hu
    refine .inl ⟨by
      have hp : (program).run P w = .ok P w := rfl
      unfold callFunc
      simp only [Sem.run_bind, hp, Result.andThen, hf, hname, hb, Option.isNone_some, Bool.false_eq_true, if_false, Sem.run_pure], fun cs => ?_⟩
    let b : Frame := { (default : Frame) with fn := f, kind := .normal }
    have henter : Frame.enter P f args .normal = b.at { tmps := args ++ Array.replicate (fn.ntmps - args.size) undef, defers := [] } [.code c] := by
      simp [Frame.enter, Frame.at, hf, hb, b]
    obtain ⟨st', a', w', todo, hk, ⟨hd, Z', m', hA', hE'⟩, hs⟩ := hE w Z m1 [.arr sz' len g] [] _ w Z m1 rfl hA rfl (Ext.refl _ _ _ _) b cs
    unfold retF at hk
    rw [if_neg (by rw [show Nat.beq 1 0 = false from rfl, Bool.and_false]; exact Bool.false_ne_true)] at hk
    split at hk
    case h_2 => cases hk
    rename_i us1 hus
    split at hk
    case h_2 => cases hk
    rename_i ys hys
    simp only at hk
    obtain ⟨hlow, hk⟩ := ite_some hk
    split at hk
    case h_2 => cases hk
    rename_i os' hos
    simp only [Option.some.injEq, F.tup.injEq, List.cons.injEq] at hk
    obtain ⟨hx, rfl⟩ := hk
    -- the slice that was lent, at the end
    have hlen' : 1 ≤ st'.heap.length := by have := hE'.len; simpa using this
    have hob0 : st'.heap[0]? = some st'.heap[0] := List.getElem?_eq_getElem (by omega)
    have htake : st'.heap.take 1 = [st'.heap[0]] := by
      apply List.ext_getElem
      · simp; omega
      · intro i h1 h2
        have h2 : i = 0 := by simp at h2; exact h2
        subst h2
        simp
    rw [htake] at hos
    have hev := hE'.evol 0 (.arr sz' len g) _ rfl hob0
    have hob1 : st'.heap[0] = .arr sz' len g1 ∧ m' 0 = m o ∧ blockCells w' (m o) = blockCells w (m o) := by
      cases hq : st'.heap[0] with
      | arr sz2 n2 g2 =>
        rw [hq] at hos hev
        simp only [outs, Option.some.injEq, List.cons.injEq, F.sl.injEq, and_true] at hos
        obtain ⟨rfl, rfl⟩ := hos
        simp only [Evol] at hev
        obtain ⟨e1, _, e2⟩ := hev
        subst e1
        exact ⟨rfl, e2 trivial⟩
      | box cs =>
        rw [hq] at hos
        simp only [outs] at hos
        split at hos
        · simp at hos
        · cases hos
      | dead => rw [hq] at hos; simp [outs] at hos
      | free => rw [hq] at hos; simp [outs] at hos
    obtain ⟨hq, hm0, hbc⟩ := hob1
    rw [hq] at hob0
    obtain ⟨vs, hvs, hR⟩ := resU_run (P := P) hA' _ _ hus
    have hres : (results fn a'.tmps).run P w' = .ok (if h : vs.toArray.size = 1 then vs.toArray[0] else .tuple vs.toArray) w' := by
      unfold results
      rw [← Array.toArray_toList (xs := fn.results), List.mapM_toArray]
      simp only [Sem.run_bind, Sem.run_map]
      refine (congrArg (fun q => Result.andThen (Result.andThen q fun x w => Result.ok x.toArray w) fun vs w => (pure (if h : vs.size = 1 then vs[0] else .tuple vs) : Sem Value).run P w) hvs).trans ?_
      simp [Result.andThen]
    have hL2 : RepL w' (fun b => Z' b ∨ ∃ o, o ≠ 0 ∧ liveAt st'.heap o ∧ m' o = b) ys vs := by
      obtain ⟨hl, hg⟩ := toFs_get us1 ys hys
      refine ⟨by rw [← hl]; exact hR.1, fun j y v hy' hv => ?_⟩
      have hj := (List.getElem?_eq_some_iff.1 hy').1
      have hu' : us1[j]? = some us1[j] := List.getElem?_eq_getElem (by omega)
      refine (toF_rep hA'.hok (fun _ _ h => h) (hR.2 j _ v hu' hv) (hg j _ y hu' hy')).mono ?_ (fun _ _ => rfl)
      rintro b (hb | ⟨o, hmo, hlv, rfl⟩)
      · exact .inl hb
      · refine .inr ⟨o, fun e => ?_, hlv, rfl⟩
        have h1 := List.all_eq_true.1 hlow o (objsAll_mem us1 _ o (List.getElem_mem _) hmo)
        rw [e] at h1
        exact absurd h1 (by decide)
    -- the caller's world
    have hkeep : ∀ k, liveAt H k → k ≠ o → w'.heap[m k]? = w.heap[m k]? := by
      intro k hk hne
      refine hE'.rest _ (hH.blk_lt hk) fun o' ho' e => hne (hH.inj k o hk hlo e.symm)
    have hlive : ∀ k, liveAt (H.set o (.arr sz' len g)) k → liveAt H k := by
      intro k ⟨ob1, h1, hd⟩
      by_cases hk : o = k
      · subst hk; exact hlo
      · rw [List.getElem?_set_ne hk] at h1; exact ⟨ob1, h1, hd⟩
    have hEE : Ext w Z m H w' Z m (H.set o (.arr sz' len g)) := by
      refine ⟨hE'.os, hE'.tape, hE'.output, hE'.size, fun _ h => h, fun b hb => .inl hb, fun b hb => hE'.kept b hb, fun b hb hn => hE'.rest b hb fun o' ho' e => ?_, by simp, ?_, fun k hk => .inl ⟨hlive k hk, rfl⟩⟩
      · exact hn o hlo e
      · intro k ob ob' hk hk'
        by_cases hko : o = k
        · subst hko
          rw [List.getElem?_set_self hlt] at hk'
          rw [ho] at hk; cases hk; cases hk'
          exact ⟨rfl, Nat.le_refl _, fun _ => ⟨rfl, hbc⟩⟩
        · rw [List.getElem?_set_ne hko, hk] at hk'
          cases hk'
          cases ob with
          | arr sz n g => exact ⟨rfl, Nat.le_refl _, fun _ => ⟨rfl, by simp only [blockCells, hkeep k ⟨_, hk, rfl⟩ (fun e => hko e.symm)]⟩⟩
          | _ => simp [Evol]
    have hscF : ∀ (i j : Nat) (u : F), i < len → (g1 i).cells[j]? = some u → RepF w' Z' u = RepF w' Z' u := fun _ _ _ _ _ => rfl
    obtain ⟨q0, c1, el, fr, q1, q2, q3, q4, q5⟩ := hA'.hok.ob 0 _ hob0
    -- the elements' data: of the lent slice's own making
    refine ⟨.returned _, w', { b.at a' todo with mode := .returning }, ⟨fun b => Z' b ∨ ∃ o, o ≠ 0 ∧ liveAt st'.heap o ∧ m' o = b, m, ?_, ?_, ?_⟩, ?_, rfl, rfl, hd, rfl, fn, hf, hres⟩
    · refine ⟨hEE.os, hEE.tape, hEE.output, hEE.size, fun b hb => .inl (hE'.sub b hb), ?_, hEE.kept, hEE.rest, hEE.len, hEE.evol, hEE.new⟩
      rintro b (hb | ⟨o', ho', hlv, rfl⟩)
      · rcases hE'.back b hb with h1 | h1 | ⟨o2, ho2, e⟩
        · exact .inl h1
        · exact .inr (.inl h1)
        · exact .inr (.inr ⟨o, hlo, e⟩)
      · rcases hE'.new o' hlv with ⟨⟨ob, h1, _⟩, _⟩ | h1
        · have := (List.getElem?_eq_some_iff.1 h1).1; simp at this; omega
        · exact .inr (.inl h1)
    · refine ⟨?_, ?_, fun k k' h h' e => hH.inj k k' (hlive k h) (hlive k' h') e, ?_⟩
      · rintro b (hb | ⟨o', ho', hlv, rfl⟩)
        · exact hA'.hok.zlt b hb
        · exact hA'.hok.blk_lt hlv
      · rintro k hk (hb | ⟨o', ho', hlv, e⟩)
        · rcases hE'.back _ hb with h1 | h1 | ⟨o2, ho2, e⟩
          · exact hH.apart k (hlive k hk) h1
          · have := hH.blk_lt (hlive k hk); omega
          · have hko : k = o := hH.inj k o (hlive k hk) hlo e.symm
            rw [hko] at hb
            rw [← hm0] at hb
            exact hA'.hok.apart 0 ⟨_, hob0, rfl⟩ hb
        · rcases hE'.new o' hlv with ⟨⟨ob, h1, _⟩, _⟩ | h1
          · have := (List.getElem?_eq_some_iff.1 h1).1; simp at this; omega
          · have := hH.blk_lt (hlive k hk); omega
      · intro k ob hk
        by_cases hko : o = k
        · subst hko
          rw [List.getElem?_set_self hlt] at hk
          cases hk
          rw [← hm0]
          refine ⟨q0, c1, el, fr, q1, q2, q3, fun i hi => by rw [← hg1 i hi]; exact q4 i hi, fun i j u hi hu => ?_⟩
          rw [← hg1 i hi] at hu
          obtain ⟨p1, v, p2, p3⟩ := q5 i j u hi hu
          exact ⟨p1, v, p2, p3.mono (fun b hb => .inl hb) (fun _ _ => rfl)⟩
        · rw [List.getElem?_set_ne hko] at hk
          by_cases hd : ob.live = true
          · have h1 := (hH.ob k ob hk).mono hEE (hkeep k ⟨_, hk, hd⟩ (fun e => hko e.symm))
            have hE2 : Ext w' Z m (H.set o (.arr sz' len g)) w' (fun b => Z' b ∨ ∃ o, o ≠ 0 ∧ liveAt st'.heap o ∧ m' o = b) m (H.set o (.arr sz' len g)) → True := fun _ => trivial
            cases ob with
            | dead => trivial
            | free => trivial
            | arr sz2 n2 g2 =>
              obtain ⟨p0, c2, el2, fr2, p1, p2, p3, p4, p5⟩ := h1
              refine ⟨p0, c2, el2, fr2, p1, p2, p3, p4, fun i j u hi hu => ?_⟩
              obtain ⟨t1, v, t2, t3⟩ := p5 i j u hi hu
              exact ⟨t1, v, t2, t3.mono (fun b hb => .inl (hE'.sub b hb)) (fun _ _ => rfl)⟩
            | box cs2 =>
              obtain ⟨c2, el2, fr2, p1, p2, p3, p4⟩ := h1
              refine ⟨c2, el2, fr2, p1, p2, p3, fun j u hu => ?_⟩
              obtain ⟨v, t2, t3⟩ := p4 j u hu
              exact ⟨v, t2, t3.zone (fun b hb => .inl (hE'.sub b hb))⟩
          · cases ob <;> simp_all [ObOK, HO.live]
    · refine .f _ _ (hyR _ _ _ ?_)
      rw [← hx]
      match ys, vs, hL2 with
      | [y], [v], hL2 => exact hL2.2 0 y v rfl rfl
      | [], [], hL2 => exact .tup [] [] rfl fun j u v hu => by simp at hu
      | y1 :: y2 :: ys, v1 :: v2 :: vs, hL2 =>
        have := RepF.tup (w := w') _ _ hL2.1 hL2.2
        simpa [tupF] using this
      | [_], [], hL2 => have := hL2.1; simp at this
      | [_], _ :: _ :: _, hL2 => have := hL2.1; simp at this
      | [], _ :: _, hL2 => have := hL2.1; simp at this
      | _ :: _ :: _, [], hL2 => have := hL2.1; simp at this
      | _ :: _ :: _, [_], hL2 => have := hL2.1; simp at this
    · rw [henter]; exact hs
  · cases hp
theorem fn_lentd {f : FuncId} {fn : Func} {c : Code} (hf : P.funcs[f]? = some fn) (hb : fn.body = some c) (hname : (fn.name == "runtime.NumGoroutine") = false) {sz : Nat} {pre : List F → Nat → (Nat → F) → Bool} {res : List F → Nat → (Nat → F) → F}
    (h : ∀ x0 xs n g, pre (x0 :: xs) n g = true → ∃ y g1, EndsN P 1 fn.results.toList [.code c] (startN fn.ntmps (.f x0 :: .hs 0 n 0 n :: xs.map .f) [.arr sz n g]) (.tup [y, .sl n g1]) ∧ FLe y (res (x0 :: xs) n g) ∧ ∀ j, j < n → g1 j = g j) : SpOK P f (.lentd sz pre res) := by
  intro us H hp w Z m args hH hL
  rw [← lentdResS_eq]
  exact fn_lentdS hf hb hname h us H hp w Z m args hH hL
end
end Go.Proofs.Ytbnainbjcaekjaa.R
namespace Go.Proofs.Ytbnainbjcaekjaa.R
open Go
noncomputable section
/-! ### function 16 -/
def S16_14 (q : Qd) (at1 : Int) (deep : Int) (ks : List Bk) (i : Int) : St := ⟨[.bad, (U.f (F.int .i64 at1)), .bad, (U.f (F.int .i64 deep)), (U.hp 0 0), .bad, .bad, .bad, .bad, .bad, .bad, .bad, .bad, .bad, .bad, .bad, .bad, .bad, .bad, .bad, .bad, .bad, .bad, .bad, .bad, .bad, .bad, .bad, .bad, .bad, .bad, .bad, .bad, .bad, .bad, .bad, .bad, .bad, .bad, .bad, .bad, .bad, .bad, .bad, .bad, .bad, .bad, .bad, .bad, .bad, .bad, .bad, .bad, .bad, .bad, .bad, .bad, .bad, .bad, .bad, .bad, .bad, .bad, .bad, .bad, (U.f (blocksF ks)), (U.f (F.int .i64 ks.length)), (U.f (F.int .i64 i)), .bad, .bad, .bad, .bad, .bad, .bad, .bad, .bad, .bad, .bad, .bad, .bad, .bad], [HO.box [(U.f (F.int .i64 q.most)), (U.f (F.int .i64 q.deep)), (U.f (itemsF q.items)), (U.f (blocksF q.blocks))]]⟩
def T16_14 {ρ : Type} (D : Nat) (ret : (Int) → Option ρ) (c14 : (Qd) → (Int) → (Int) → (List Bk) → (Int) → Option ρ) (q : Qd) (at1 : Int) (deep : Int) (ks : List Bk) (i : Int) : Option ρ :=
 (bsel (decide (i < (↑ks.length : Int)))
 (bsel (decide (0 ≤ i))
 (bsel (decide (i < (↑ks.length : Int)))
 (bsel (isQd (qdF q) && fewV (unQd (qdF q)) && isBk (bkF (ks.getD i.toNat Bk.zero)) && checkOk D (unQd (qdF q)) at1 (IntKind.i64.wrap (deep + 1)))
 (bsel (decide (checkV D (unQd (qdF q)) at1 (unBk (bkF (ks.getD i.toNat Bk.zero))) (IntKind.i64.wrap (deep + 1)) < 0))
 (ret (-1))
 (c14 (q) (checkV D (unQd (qdF q)) at1 (unBk (bkF (ks.getD i.toNat Bk.zero))) (IntKind.i64.wrap (deep + 1))) (deep) (ks) (IntKind.i64.wrap (i + 1))))
 none)
 none)
 none)
 (ret (at1)))
def L16_14 (D : Nat) : Nat → (Qd) → (Int) → (Int) → (List Bk) → (Int) → Option (Int)
  | 0, _, _, _, _, _ => none
  | k + 1, q, at1, deep, ks, i => T16_14 D some (L16_14 D k) q at1 deep ks i
def T16 {ρ : Type} (D : Nat) (ret : (Int) → Option ρ) (c14 : (Qd) → (Int) → (Int) → (List Bk) → (Int) → Option ρ) (q : Qd) (at1 : Int) (due : Bk) (deep : Int) : Option ρ :=
 (bsel (decide (at1 ≥ (↑q.blocks.length : Int)))
 (ret (-1))
 (bsel (decide (0 ≤ at1))
 (bsel (decide (at1 < (↑q.blocks.length : Int)))
 (bsel (((q.blocks.getD at1.toNat Bk.zero).x != due.x) == false)
 (bsel (((q.blocks.getD at1.toNat Bk.zero).y != due.y) == false)
 (bsel ((q.blocks.getD at1.toNat Bk.zero).size != due.size)
 (ret (-1))
 (bsel (!(q.blocks.getD at1.toNat Bk.zero).split)
 (bsel (isInts (intsF (q.blocks.getD at1.toNat Bk.zero).ids) && isInts (intsF due.ids) && shortV (unInts (intsF (q.blocks.getD at1.toNat Bk.zero).ids)))
 (bsel (!sameV (unInts (intsF (q.blocks.getD at1.toNat Bk.zero).ids)) (unInts (intsF due.ids)))
 (ret (-1))
 (ret (IntKind.i64.wrap (at1 + 1))))
 none)
 (bsel (decide ((↑(q.blocks.getD at1.toNat Bk.zero).ids.length : Int) > 0) == false)
 (bsel (deep == q.deep)
 (ret (-1))
 (bsel (isQd (qdF q) && fewV (unQd (qdF q)) && isBk (bkF due))
 (c14 (q) (IntKind.i64.wrap (at1 + 1)) (deep) (kidsV (unQd (qdF q)) (unBk (bkF due))) (0))
 none))
 (ret (-1)))))
 (ret (-1)))
 (ret (-1)))
 none)
 none))
def G16 (D : Nat) (k : Nat) (q : Qd) (at1 : Int) (due : Bk) (deep : Int) : Option (Int) := T16 D some (L16_14 D k) q at1 due deep
theorem t16_14 (D : Nat) (hE : EnvOK Try.prog (envCk D)) : ∀ (k : Nat) (q : Qd) (at1 : Int) (deep : Int) (ks : List Bk) (i : Int) (r : Int), L16_14 D k q at1 deep ks i = some r → Ends Try.prog Try.f16.results.toList (at_ Try.f16 14) (S16_14 q at1 deep ks i) (F.int .i64 r)
  | 0, _, _, _, _, _, _, h => nomatch h
  | k + 1, q, at1, deep, ks, i, r, h => by
    refine Ends.of_cut tyOK hE (T := [(14, [1, 3, 4, 65, 66, 67], 1000)]) (n := 200) ?_
    have e : runCut Try.prog (tiOf Try.prog) (envCk D) [(14, [1, 3, 4, 65, 66, 67], 1000)] 0 Try.f16.results.toList some 200 (at_ Try.f16 14) (S16_14 q at1 deep ks i) = T16_14 D (fun r => some (.ret (F.int .i64 r))) (fun q at1 deep ks i => some (.cut (at_ Try.f16 14) (S16_14 q at1 deep ks i))) q at1 deep ks i := by kernel_rfl
    rw [e]
    exact (good_sel h (fun _ h => (good_sel h (fun _ h => (good_sel h (fun _ h => (good_sel h (fun _ h => (good_sel h (fun _ h => good_ret (by cases h; rfl)) (fun _ h => good_cut (t16_14 D hE k _ _ _ _ _ r h)))) (fun _ h => nomatch h))) (fun _ h => nomatch h))) (fun _ h => nomatch h))) (fun _ h => good_ret (by cases h; rfl)))
theorem t16 (D : Nat) (hE : EnvOK Try.prog (envCk D)) (k : Nat) (q : Qd) (at1 : Int) (due : Bk) (deep : Int) (r : Int) (h : G16 D k q at1 due deep = some r) : Ends Try.prog Try.f16.results.toList [.code (bodyOf Try.f16)] (start Try.f16.ntmps ([qdF q, F.int .i64 at1, bkF due, F.int .i64 deep].map .f)) (F.int .i64 r) := by
  refine Ends.of_run tyOK hE (T := [(14, [1, 3, 4, 65, 66, 67], 1000)]) (n := 200) ?_
  have e : run Try.prog (tiOf Try.prog) (envCk D) [(14, [1, 3, 4, 65, 66, 67], 1000)] 0 Try.f16.results.toList some 200 [.code (bodyOf Try.f16)] (start Try.f16.ntmps ([qdF q, F.int .i64 at1, bkF due, F.int .i64 deep].map .f)) = T16 D (fun r => some (.ret (F.int .i64 r))) (fun q at1 deep ks i => some (.cut (at_ Try.f16 14) (S16_14 q at1 deep ks i))) q at1 due deep := by kernel_rfl
  rw [e]
  exact (good_sel h (fun _ h => good_ret (by cases h; rfl)) (fun _ h => (good_sel h (fun _ h => (good_sel h (fun _ h => (good_sel h (fun _ h => (good_sel h (fun _ h => (good_sel h (fun _ h => good_ret (by cases h; rfl)) (fun _ h => (good_sel h (fun _ h => (good_sel h (fun _ h => (good_sel h (fun _ h => good_ret (by cases h; rfl)) (fun _ h => good_ret (by cases h; rfl)))) (fun _ h => nomatch h))) (fun _ h => (good_sel h (fun _ h => (good_sel h (fun _ h => good_ret (by cases h; rfl)) (fun _ h => (good_sel h (fun _ h => good_cut (t16_14 D hE k _ _ _ _ _ r h)) (fun _ h => nomatch h))))) (fun _ h => good_ret (by cases h; rfl)))))))) (fun _ h => good_ret (by cases h; rfl)))) (fun _ h => good_ret (by cases h; rfl)))) (fun _ h => nomatch h))) (fun _ h => nomatch h))))
/-! ### function 28 -/
def S28_11a (l : List Bk) (at1 : Int) (x : Int) (y : Int) (sz : Int) (deep : Int) (j : Int) (dn : Nat) (dg : Nat → F) : St := ⟨[(U.f (blocksF l)), (U.f (F.int .i64 at1)), (U.f (F.int .i64 x)), (U.f (F.int .i64 y)), (U.f (F.int .i64 sz)), (U.f (F.int .i64 deep)), .bad, .bad, .bad, .bad, .bad, .bad, (U.hp 0 0), .bad, .bad, .bad, (U.hp 2 0), (U.f (F.int .i64 j)), .bad, .bad, .bad, .bad, .bad, .bad, .bad, .bad, .bad, .bad, .bad, .bad, .bad, .bad, .bad, .bad, .bad, .bad, .bad, .bad, .bad, .bad, .bad, .bad, .bad, .bad, .bad, .bad, .bad, .bad, .bad, .bad, .bad, .bad, .bad, .bad, .bad, .bad, .bad, .bad, .bad, .bad, .bad, .bad, .bad, .bad, .bad, .bad, .bad, .bad, .bad, .bad, .bad, .bad, .bad, .bad, .bad, .bad, .bad, .bad, .bad, .bad, .bad, .bad, .bad, .bad, .bad, .bad, .bad, .bad, .bad, .bad, .bad, .bad, .bad, .bad, .bad, .bad, .bad, .bad, .bad, .bad, .bad, .bad, .bad, .bad, .bad, .bad, .bad, .bad, .bad, .bad, .bad, .bad, .bad, .bad, .bad, .bad, .bad], [HO.box [(U.f (F.int .i64 0)), (U.f (F.int .i64 0)), (U.f (F.int .i64 0)), U.nils, U.nils], HO.arr 1 dn dg, HO.box [(U.f (F.int .i64 x)), (U.f (F.int .i64 y)), (U.f (F.int .i64 sz)), U.nils, (U.hs 1 dn 0 dn)]]⟩
def S28_11b (l : List Bk) (at1 : Int) (x : Int) (y : Int) (sz : Int) (deep : Int) (j : Int) (dn : Nat) (dg : Nat → F) (n : Nat) (g : Nat → F) : St := ⟨[(U.f (blocksF l)), (U.f (F.int .i64 at1)), (U.f (F.int .i64 x)), (U.f (F.int .i64 y)), (U.f (F.int .i64 sz)), (U.f (F.int .i64 deep)), .bad, .bad, .bad, .bad, .bad, .bad, (U.hp 0 0), .bad, .bad, .bad, (U.hp 2 0), (U.f (F.int .i64 j)), .bad, .bad, .bad, .bad, .bad, .bad, .bad, .bad, .bad, .bad, .bad, .bad, .bad, .bad, .bad, .bad, .bad, .bad, .bad, .bad, .bad, .bad, .bad, .bad, .bad, .bad, .bad, .bad, .bad, .bad, .bad, .bad, .bad, .bad, .bad, .bad, .bad, .bad, .bad, .bad, .bad, .bad, .bad, .bad, .bad, .bad, .bad, .bad, .bad, .bad, .bad, .bad, .bad, .bad, .bad, .bad, .bad, .bad, .bad, .bad, .bad, .bad, .bad, .bad, .bad, .bad, .bad, .bad, .bad, .bad, .bad, .bad, .bad, .bad, .bad, .bad, .bad, .bad, .bad, .bad, .bad, .bad, .bad, .bad, .bad, .bad, .bad, .bad, .bad, .bad, .bad, .bad, .bad, .bad, .bad, .bad, .bad, .bad, .bad], [HO.box [(U.f (F.int .i64 0)), (U.f (F.int .i64 0)), (U.f (F.int .i64 0)), U.nils, U.nils], HO.arr 1 dn dg, HO.box [(U.f (F.int .i64 x)), (U.f (F.int .i64 y)), (U.f (F.int .i64 sz)), (U.hs 3 n 0 n), (U.hs 1 dn 0 dn)], HO.arr 5 n g]⟩
abbrev KJ42 (ρ : Type) := (List Bk) → (Int) → (Int) → (Int) → (Int) → (Int) → (Int) → (Nat) → (Nat → F) → (Nat) → (Nat → F) → Option ρ
abbrev KJ43 (ρ : Type) := (List Bk) → (Int) → (Int) → (Int) → (Int) → (Int) → (Int) → (Nat) → (Nat → F) → Option ρ
def T28_11a {ρ : Type} (D : Nat) (ret : (F) → Option ρ) (c11a : KJ43 ρ) (c11b : KJ42 ρ) (l : List Bk) (at1 : Int) (x : Int) (y : Int) (sz : Int) (deep : Int) (j : Int) (dn : Nat) (dg : Nat → F) : Option ρ :=
 (bsel (decide (j < 4))
 (bsel (isBlocks (blocksF l) && readOk D (unBlocks (blocksF l)) at1 (IntKind.i64.wrap (deep - 1)))
 (bsel (!(readV D (unBlocks (blocksF l)) at1 (IntKind.i64.wrap (x + IntKind.i64.wrap (j.tmod 2 * IntKind.i64.wrap (sz.tdiv 2)))) (IntKind.i64.wrap (y + IntKind.i64.wrap (IntKind.i64.wrap (j.tdiv 2) * IntKind.i64.wrap (sz.tdiv 2)))) (IntKind.i64.wrap (sz.tdiv 2)) (IntKind.i64.wrap (deep - 1))).snd.snd)
 (ret (F.tup [F.agg [F.int .i64 0, F.int .i64 0, F.int .i64 0, F.tup [], F.tup []], F.int .i64 0, F.bool false]))
 (bsel (decide (((1 : Nat) : Int) * (((72 : Nat) : Int) + 1) ≤ (↑limit : Int)))
 (c11b (l) ((readV D (unBlocks (blocksF l)) at1 (IntKind.i64.wrap (x + IntKind.i64.wrap (j.tmod 2 * IntKind.i64.wrap (sz.tdiv 2)))) (IntKind.i64.wrap (y + IntKind.i64.wrap (IntKind.i64.wrap (j.tdiv 2) * IntKind.i64.wrap (sz.tdiv 2)))) (IntKind.i64.wrap (sz.tdiv 2)) (IntKind.i64.wrap (deep - 1))).snd.fst) (x) (y) (sz) (deep) (IntKind.i64.wrap (j + 1)) (dn) (dg) (1) (fun x_1 ↦ trF (readV D (unBlocks (blocksF l)) at1 (IntKind.i64.wrap (x + IntKind.i64.wrap (j.tmod 2 * IntKind.i64.wrap (sz.tdiv 2)))) (IntKind.i64.wrap (y + IntKind.i64.wrap (IntKind.i64.wrap (j.tdiv 2) * IntKind.i64.wrap (sz.tdiv 2)))) (IntKind.i64.wrap (sz.tdiv 2)) (IntKind.i64.wrap (deep - 1))).fst))
 none))
 none)
 (bsel (decide (dn = dn) && true && decide (dn = dn))
 (ret (F.tup [F.agg [F.int .i64 x, F.int .i64 y, F.int .i64 sz, F.tup [], F.tup [F.int .i64 ((1 : Nat) : Int), F.sl dn dg]], F.int .i64 at1, F.bool true]))
 none))
def T28_11b {ρ : Type} (D : Nat) (ret : (F) → Option ρ) (c11a : KJ43 ρ) (c11b : KJ42 ρ) (l : List Bk) (at1 : Int) (x : Int) (y : Int) (sz : Int) (deep : Int) (j : Int) (dn : Nat) (dg : Nat → F) (n : Nat) (g : Nat → F) : Option ρ :=
 (bsel (decide (j < 4))
 (bsel (isBlocks (blocksF l) && readOk D (unBlocks (blocksF l)) at1 (IntKind.i64.wrap (deep - 1)))
 (bsel (!(readV D (unBlocks (blocksF l)) at1 (IntKind.i64.wrap (x + IntKind.i64.wrap (j.tmod 2 * IntKind.i64.wrap (sz.tdiv 2)))) (IntKind.i64.wrap (y + IntKind.i64.wrap (IntKind.i64.wrap (j.tdiv 2) * IntKind.i64.wrap (sz.tdiv 2)))) (IntKind.i64.wrap (sz.tdiv 2)) (IntKind.i64.wrap (deep - 1))).snd.snd)
 (ret (F.tup [F.agg [F.int .i64 0, F.int .i64 0, F.int .i64 0, F.tup [], F.tup []], F.int .i64 0, F.bool false]))
 (bsel (decide (n = n))
 (bsel (decide (n = n))
 (bsel (decide ((↑(n + 1) : Int) * (((72 : Nat) : Int) + 1) ≤ (↑limit : Int)))
 (c11b (l) ((readV D (unBlocks (blocksF l)) at1 (IntKind.i64.wrap (x + IntKind.i64.wrap (j.tmod 2 * IntKind.i64.wrap (sz.tdiv 2)))) (IntKind.i64.wrap (y + IntKind.i64.wrap (IntKind.i64.wrap (j.tdiv 2) * IntKind.i64.wrap (sz.tdiv 2)))) (IntKind.i64.wrap (sz.tdiv 2)) (IntKind.i64.wrap (deep - 1))).snd.fst) (x) (y) (sz) (deep) (IntKind.i64.wrap (j + 1)) (dn) (dg) (n + 1) (fun j_1 ↦ if j_1 < n then g j_1 else trF (readV D (unBlocks (blocksF l)) at1 (IntKind.i64.wrap (x + IntKind.i64.wrap (j.tmod 2 * IntKind.i64.wrap (sz.tdiv 2)))) (IntKind.i64.wrap (y + IntKind.i64.wrap (IntKind.i64.wrap (j.tdiv 2) * IntKind.i64.wrap (sz.tdiv 2)))) (IntKind.i64.wrap (sz.tdiv 2)) (IntKind.i64.wrap (deep - 1))).fst))
 none)
 none)
 none))
 none)
 (bsel (decide (n = n) && true && decide (n = n))
 (bsel (decide (dn = dn) && true && decide (dn = dn))
 (ret (F.tup [F.agg [F.int .i64 x, F.int .i64 y, F.int .i64 sz, F.tup [F.int .i64 ((5 : Nat) : Int), F.sl n g], F.tup [F.int .i64 ((1 : Nat) : Int), F.sl dn dg]], F.int .i64 at1, F.bool true]))
 none)
 none))
mutual
def L28_11a (D : Nat) : Nat → (List Bk) → (Int) → (Int) → (Int) → (Int) → (Int) → (Int) → (Nat) → (Nat → F) → Option (F)
  | 0, _, _, _, _, _, _, _, _, _ => none
  | k + 1, l, at1, x, y, sz, deep, j, dn, dg => T28_11a D some (L28_11a D k) (L28_11b D k) l at1 x y sz deep j dn dg
def L28_11b (D : Nat) : Nat → (List Bk) → (Int) → (Int) → (Int) → (Int) → (Int) → (Int) → (Nat) → (Nat → F) → (Nat) → (Nat → F) → Option (F)
  | 0, _, _, _, _, _, _, _, _, _, _, _ => none
  | k + 1, l, at1, x, y, sz, deep, j, dn, dg, n, g => T28_11b D some (L28_11a D k) (L28_11b D k) l at1 x y sz deep j dn dg n g
end
def T28 {ρ : Type} (D : Nat) (ret : (F) → Option ρ) (c11a : KJ43 ρ) (c11b : KJ42 ρ) (l : List Bk) (at1 : Int) (x : Int) (y : Int) (sz : Int) (deep : Int) : Option ρ :=
 (bsel (decide (at1 ≥ (↑l.length : Int)))
 (ret (F.tup [F.agg [F.int .i64 0, F.int .i64 0, F.int .i64 0, F.tup [], F.tup []], F.int .i64 0, F.bool false]))
 (bsel (decide (0 ≤ at1))
 (bsel (decide (at1 < (↑l.length : Int)))
 (bsel (((l.getD at1.toNat Bk.zero).x != x) == false)
 (bsel (((l.getD at1.toNat Bk.zero).y != y) == false)
 (bsel (((l.getD at1.toNat Bk.zero).size != sz) == false)
 (bsel ((l.getD at1.toNat Bk.zero).split == true)
 (bsel (decide (deep < 1) == false)
 (bsel (decide ((↑(l.getD at1.toNat Bk.zero).ids.length : Int) > 0))
 (ret (F.tup [F.agg [F.int .i64 0, F.int .i64 0, F.int .i64 0, F.tup [], F.tup []], F.int .i64 0, F.bool false]))
 (bsel (decide ((↑(0 + (l.getD at1.toNat Bk.zero).ids.length) : Int) * (((8 : Nat) : Int) + 1) ≤ (↑limit : Int)))
 (bsel (!(l.getD at1.toNat Bk.zero).split)
 (bsel (decide (0 + (l.getD at1.toNat Bk.zero).ids.length = 0 + (l.getD at1.toNat Bk.zero).ids.length) && true && decide (0 + (l.getD at1.toNat Bk.zero).ids.length = 0 + (l.getD at1.toNat Bk.zero).ids.length))
 (ret (F.tup [F.agg [F.int .i64 x, F.int .i64 y, F.int .i64 sz, F.tup [], F.tup [F.int .i64 ((1 : Nat) : Int), F.sl (0 + (l.getD at1.toNat Bk.zero).ids.length) fun j ↦ if j < 0 then lget [] j else one (l.getD at1.toNat Bk.zero).ids.length (fun i ↦ i64F ((l.getD at1.toNat Bk.zero).ids.getD i 0)) (j - 0)]], F.int .i64 (IntKind.i64.wrap (at1 + 1)), F.bool true]))
 none)
 (c11a (l) (IntKind.i64.wrap (at1 + 1)) (x) (y) (sz) (deep) (0) (0 + (l.getD at1.toNat Bk.zero).ids.length) (fun j ↦ if j < 0 then lget [] j else one (l.getD at1.toNat Bk.zero).ids.length (fun i ↦ i64F ((l.getD at1.toNat Bk.zero).ids.getD i 0)) (j - 0))))
 none))
 (ret (F.tup [F.agg [F.int .i64 0, F.int .i64 0, F.int .i64 0, F.tup [], F.tup []], F.int .i64 0, F.bool false])))
 (bsel (decide ((↑(0 + (l.getD at1.toNat Bk.zero).ids.length) : Int) * (((8 : Nat) : Int) + 1) ≤ (↑limit : Int)))
 (bsel (!(l.getD at1.toNat Bk.zero).split)
 (bsel (decide (0 + (l.getD at1.toNat Bk.zero).ids.length = 0 + (l.getD at1.toNat Bk.zero).ids.length) && true && decide (0 + (l.getD at1.toNat Bk.zero).ids.length = 0 + (l.getD at1.toNat Bk.zero).ids.length))
 (ret (F.tup [F.agg [F.int .i64 x, F.int .i64 y, F.int .i64 sz, F.tup [], F.tup [F.int .i64 ((1 : Nat) : Int), F.sl (0 + (l.getD at1.toNat Bk.zero).ids.length) fun j ↦ if j < 0 then lget [] j else one (l.getD at1.toNat Bk.zero).ids.length (fun i ↦ i64F ((l.getD at1.toNat Bk.zero).ids.getD i 0)) (j - 0)]], F.int .i64 (IntKind.i64.wrap (at1 + 1)), F.bool true]))
 none)
 (c11a (l) (IntKind.i64.wrap (at1 + 1)) (x) (y) (sz) (deep) (0) (0 + (l.getD at1.toNat Bk.zero).ids.length) (fun j ↦ if j < 0 then lget [] j else one (l.getD at1.toNat Bk.zero).ids.length (fun i ↦ i64F ((l.getD at1.toNat Bk.zero).ids.getD i 0)) (j - 0))))
 none))
 (ret (F.tup [F.agg [F.int .i64 0, F.int .i64 0, F.int .i64 0, F.tup [], F.tup []], F.int .i64 0, F.bool false])))
 (ret (F.tup [F.agg [F.int .i64 0, F.int .i64 0, F.int .i64 0, F.tup [], F.tup []], F.int .i64 0, F.bool false])))
 (ret (F.tup [F.agg [F.int .i64 0, F.int .i64 0, F.int .i64 0, F.tup [], F.tup []], F.int .i64 0, F.bool false])))
 none)
 none))
def G28 (D : Nat) (k : Nat) (l : List Bk) (at1 : Int) (x : Int) (y : Int) (sz : Int) (deep : Int) : Option (F) := T28 D some (L28_11a D k) (L28_11b D k) l at1 x y sz deep
mutual
theorem t28_11a (D : Nat) (hE : EnvOK Try.prog (envRd D)) : ∀ (k : Nat) (l : List Bk) (at1 : Int) (x : Int) (y : Int) (sz : Int) (deep : Int) (j : Int) (dn : Nat) (dg : Nat → F) (rx : F), L28_11a D k l at1 x y sz deep j dn dg = some rx → Ends Try.prog (ResultVar.tmp 1000002 :: Go.Proofs.Try.f28.results.toList) (at_ Try.f28 11) (S28_11a l at1 x y sz deep j dn dg) (rx)
  | 0, _, _, _, _, _, _, _, _, _, _, h => nomatch h
  | k + 1, l, at1, x, y, sz, deep, j, dn, dg, rx, h => by
    refine Ends.of_cut tyOK hE (T := [(11, [0, 1, 2, 3, 4, 5, 12, 16, 17], 1000)]) (n := 200) ?_
    have e : runCut Try.prog (tiOf Try.prog) (envRd D) [(11, [0, 1, 2, 3, 4, 5, 12, 16, 17], 1000)] 0 (ResultVar.tmp 1000002 :: Go.Proofs.Try.f28.results.toList) some 200 (at_ Try.f28 11) (S28_11a l at1 x y sz deep j dn dg) = T28_11a D (fun rx => some (.ret (rx))) (fun l at1 x y sz deep j dn dg => some (.cut (at_ Try.f28 11) (S28_11a l at1 x y sz deep j dn dg))) (fun l at1 x y sz deep j dn dg n g => some (.cut (at_ Try.f28 11) (S28_11b l at1 x y sz deep j dn dg n g))) l at1 x y sz deep j dn dg := by kernel_rfl
    rw [e]
    exact (good_sel h (fun _ h => (good_sel h (fun _ h => (good_sel h (fun _ h => good_ret (by cases h; rfl)) (fun _ h => (good_sel h (fun _ h => good_cut (t28_11b D hE k _ _ _ _ _ _ _ _ _ _ _ rx h)) (fun _ h => nomatch h))))) (fun _ h => nomatch h))) (fun _ h => (good_sel h (fun _ h => good_ret (by cases h; rfl)) (fun _ h => nomatch h))))
theorem t28_11b (D : Nat) (hE : EnvOK Try.prog (envRd D)) : ∀ (k : Nat) (l : List Bk) (at1 : Int) (x : Int) (y : Int) (sz : Int) (deep : Int) (j : Int) (dn : Nat) (dg : Nat → F) (n : Nat) (g : Nat → F) (rx : F), L28_11b D k l at1 x y sz deep j dn dg n g = some rx → Ends Try.prog (ResultVar.tmp 1000002 :: Go.Proofs.Try.f28.results.toList) (at_ Try.f28 11) (S28_11b l at1 x y sz deep j dn dg n g) (rx)
  | 0, _, _, _, _, _, _, _, _, _, _, _, _, h => nomatch h
  | k + 1, l, at1, x, y, sz, deep, j, dn, dg, n, g, rx, h => by
    refine Ends.of_cut tyOK hE (T := [(11, [0, 1, 2, 3, 4, 5, 12, 16, 17], 1000)]) (n := 200) ?_
    have e : runCut Try.prog (tiOf Try.prog) (envRd D) [(11, [0, 1, 2, 3, 4, 5, 12, 16, 17], 1000)] 0 (ResultVar.tmp 1000002 :: Go.Proofs.Try.f28.results.toList) some 200 (at_ Try.f28 11) (S28_11b l at1 x y sz deep j dn dg n g) = T28_11b D (fun rx => some (.ret (rx))) (fun l at1 x y sz deep j dn dg => some (.cut (at_ Try.f28 11) (S28_11a l at1 x y sz deep j dn dg))) (fun l at1 x y sz deep j dn dg n g => some (.cut (at_ Try.f28 11) (S28_11b l at1 x y sz deep j dn dg n g))) l at1 x y sz deep j dn dg n g := by kernel_rfl
    rw [e]
    exact (good_sel h (fun _ h => (good_sel h (fun _ h => (good_sel h (fun _ h => good_ret (by cases h; rfl)) (fun _ h => (good_sel h (fun _ h => (good_sel h (fun _ h => (good_sel h (fun _ h => good_cut (t28_11b D hE k _ _ _ _ _ _ _ _ _ _ _ rx h)) (fun _ h => nomatch h))) (fun _ h => nomatch h))) (fun _ h => nomatch h))))) (fun _ h => nomatch h))) (fun _ h => (good_sel h (fun _ h => (good_sel h (fun _ h => good_ret (by cases h; rfl)) (fun _ h => nomatch h))) (fun _ h => nomatch h))))
end
theorem t28 (D : Nat) (hE : EnvOK Try.prog (envRd D)) (k : Nat) (l : List Bk) (at1 : Int) (x : Int) (y : Int) (sz : Int) (deep : Int) (rx : F) (h : G28 D k l at1 x y sz deep = some rx) : Ends Try.prog (ResultVar.tmp 1000002 :: Go.Proofs.Try.f28.results.toList) [.code (bodyOf Try.f28)] (start Try.f28.ntmps ([blocksF l, F.int .i64 at1, F.int .i64 x, F.int .i64 y, F.int .i64 sz, F.int .i64 deep].map .f)) (rx) := by
  refine Ends.of_run tyOK hE (T := [(11, [0, 1, 2, 3, 4, 5, 12, 16, 17], 1000)]) (n := 200) ?_
  have e : run Try.prog (tiOf Try.prog) (envRd D) [(11, [0, 1, 2, 3, 4, 5, 12, 16, 17], 1000)] 0 (ResultVar.tmp 1000002 :: Go.Proofs.Try.f28.results.toList) some 200 [.code (bodyOf Try.f28)] (start Try.f28.ntmps ([blocksF l, F.int .i64 at1, F.int .i64 x, F.int .i64 y, F.int .i64 sz, F.int .i64 deep].map .f)) = T28 D (fun rx => some (.ret (rx))) (fun l at1 x y sz deep j dn dg => some (.cut (at_ Try.f28 11) (S28_11a l at1 x y sz deep j dn dg))) (fun l at1 x y sz deep j dn dg n g => some (.cut (at_ Try.f28 11) (S28_11b l at1 x y sz deep j dn dg n g))) l at1 x y sz deep := by kernel_rfl
  rw [e]
  exact (good_sel h (fun _ h => good_ret (by cases h; rfl)) (fun _ h => (good_sel h (fun _ h => (good_sel h (fun _ h => (good_sel h (fun _ h => (good_sel h (fun _ h => (good_sel h (fun _ h => (good_sel h (fun _ h => (good_sel h (fun _ h => (good_sel h (fun _ h => good_ret (by cases h; rfl)) (fun _ h => (good_sel h (fun _ h => (good_sel h (fun _ h => (good_sel h (fun _ h => good_ret (by cases h; rfl)) (fun _ h => nomatch h))) (fun _ h => good_cut (t28_11a D hE k _ _ _ _ _ _ _ _ _ rx h)))) (fun _ h => nomatch h))))) (fun _ h => good_ret (by cases h; rfl)))) (fun _ h => (good_sel h (fun _ h => (good_sel h (fun _ h => (good_sel h (fun _ h => good_ret (by cases h; rfl)) (fun _ h => nomatch h))) (fun _ h => good_cut (t28_11a D hE k _ _ _ _ _ _ _ _ _ rx h)))) (fun _ h => nomatch h))))) (fun _ h => good_ret (by cases h; rfl)))) (fun _ h => good_ret (by cases h; rfl)))) (fun _ h => good_ret (by cases h; rfl)))) (fun _ h => nomatch h))) (fun _ h => nomatch h))))
/-! ### function 29 -/
def S29n_3n0 (x : Int) (y : Int) (s : Int) (a : Tr) (b : Tr) (c : Tr) (d : Tr) (l : List It) : St := ⟨[.bad, (U.f (itemsF l)), (U.hp 0 0), .bad, .bad, (U.f (F.int .i64 0)), .bad, .bad, .bad, .bad, .bad, .bad, .bad, .bad, .bad, .bad, .bad, .bad, .bad, .bad, .bad, .bad, .bad, .bad, .bad, .bad, .bad, .bad, .bad, .bad, .bad, .bad, .bad, .bad, .bad, .bad, .bad, .bad, .bad, .bad, .bad, .bad, .bad, .bad, .bad, .bad, .bad, .bad, .bad, .bad, .bad, .bad, .bad, .bad, .bad, .bad, .bad, .bad, .bad, .bad, .bad, .bad, .bad], [HO.box [(U.f (F.int .i64 x)), (U.f (F.int .i64 y)), (U.f (F.int .i64 s)), (U.f (F.cl 4 (kidG (Tr.node x y s a b c d)))), (U.f (intsF []))]]⟩
def S29n_3n1 (x : Int) (y : Int) (s : Int) (a : Tr) (b : Tr) (c : Tr) (d : Tr) (l : List It) : St := ⟨[.bad, (U.f (itemsF l)), (U.hp 0 0), .bad, .bad, (U.f (F.int .i64 1)), .bad, .bad, .bad, .bad, .bad, .bad, .bad, .bad, .bad, .bad, .bad, .bad, .bad, .bad, .bad, .bad, .bad, .bad, .bad, .bad, .bad, .bad, .bad, .bad, .bad, .bad, .bad, .bad, .bad, .bad, .bad, .bad, .bad, .bad, .bad, .bad, .bad, .bad, .bad, .bad, .bad, .bad, .bad, .bad, .bad, .bad, .bad, .bad, .bad, .bad, .bad, .bad, .bad, .bad, .bad, .bad, .bad], [HO.box [(U.f (F.int .i64 x)), (U.f (F.int .i64 y)), (U.f (F.int .i64 s)), (U.f (F.cl 4 (kidG (Tr.node x y s a b c d)))), (U.f (intsF []))]]⟩
def S29n_3n2 (x : Int) (y : Int) (s : Int) (a : Tr) (b : Tr) (c : Tr) (d : Tr) (l : List It) : St := ⟨[.bad, (U.f (itemsF l)), (U.hp 0 0), .bad, .bad, (U.f (F.int .i64 2)), .bad, .bad, .bad, .bad, .bad, .bad, .bad, .bad, .bad, .bad, .bad, .bad, .bad, .bad, .bad, .bad, .bad, .bad, .bad, .bad, .bad, .bad, .bad, .bad, .bad, .bad, .bad, .bad, .bad, .bad, .bad, .bad, .bad, .bad, .bad, .bad, .bad, .bad, .bad, .bad, .bad, .bad, .bad, .bad, .bad, .bad, .bad, .bad, .bad, .bad, .bad, .bad, .bad, .bad, .bad, .bad, .bad], [HO.box [(U.f (F.int .i64 x)), (U.f (F.int .i64 y)), (U.f (F.int .i64 s)), (U.f (F.cl 4 (kidG (Tr.node x y s a b c d)))), (U.f (intsF []))]]⟩
def S29n_3n3 (x : Int) (y : Int) (s : Int) (a : Tr) (b : Tr) (c : Tr) (d : Tr) (l : List It) : St := ⟨[.bad, (U.f (itemsF l)), (U.hp 0 0), .bad, .bad, (U.f (F.int .i64 3)), .bad, .bad, .bad, .bad, .bad, .bad, .bad, .bad, .bad, .bad, .bad, .bad, .bad, .bad, .bad, .bad, .bad, .bad, .bad, .bad, .bad, .bad, .bad, .bad, .bad, .bad, .bad, .bad, .bad, .bad, .bad, .bad, .bad, .bad, .bad, .bad, .bad, .bad, .bad, .bad, .bad, .bad, .bad, .bad, .bad, .bad, .bad, .bad, .bad, .bad, .bad, .bad, .bad, .bad, .bad, .bad, .bad], [HO.box [(U.f (F.int .i64 x)), (U.f (F.int .i64 y)), (U.f (F.int .i64 s)), (U.f (F.cl 4 (kidG (Tr.node x y s a b c d)))), (U.f (intsF []))]]⟩
def S29n_3n4 (x : Int) (y : Int) (s : Int) (a : Tr) (b : Tr) (c : Tr) (d : Tr) (l : List It) : St := ⟨[.bad, (U.f (itemsF l)), (U.hp 0 0), .bad, .bad, (U.f (F.int .i64 4)), .bad, .bad, .bad, .bad, .bad, .bad, .bad, .bad, .bad, .bad, .bad, .bad, .bad, .bad, .bad, .bad, .bad, .bad, .bad, .bad, .bad, .bad, .bad, .bad, .bad, .bad, .bad, .bad, .bad, .bad, .bad, .bad, .bad, .bad, .bad, .bad, .bad, .bad, .bad, .bad, .bad, .bad, .bad, .bad, .bad, .bad, .bad, .bad, .bad, .bad, .bad, .bad, .bad, .bad, .bad, .bad, .bad], [HO.box [(U.f (F.int .i64 x)), (U.f (F.int .i64 y)), (U.f (F.int .i64 s)), (U.f (F.cl 4 (kidG (Tr.node x y s a b c d)))), (U.f (intsF []))]]⟩
def S29n_10  : St := ⟨[.bad, .bad, .bad, .bad, .bad, .bad, .bad, .bad, .bad, .bad, .bad, .bad, .bad, .bad, .bad, .bad, .bad, .bad, .bad, .bad, .bad, .bad, .bad, .bad, .bad, .bad, .bad, .bad, .bad, .bad, .bad, .bad, .bad, .bad, .bad, .bad, .bad, .bad, .bad, .bad, .bad, .bad, .bad, .bad, .bad, .bad, .bad, .bad, .bad, .bad, .bad, .bad, .bad, .bad, .bad, .bad, .bad, .bad, .bad, .bad, .bad, .bad, .bad], []⟩
abbrev KJ41 (ρ : Type) := (Int) → (Int) → (Int) → (Tr) → (Tr) → (Tr) → (Tr) → (List It) → Option ρ
def T29n_3n0 {ρ : Type} (D : Nat) (ret : KJ44 ρ) (c3n0 : KJ41 ρ) (c3n1 : KJ41 ρ) (c3n2 : KJ41 ρ) (c3n3 : KJ41 ρ) (c3n4 : KJ41 ρ) (c10 : Option ρ) (x : Int) (y : Int) (s : Int) (a : Tr) (b : Tr) (c : Tr) (d : Tr) (l : List It) : Option ρ :=
 (bsel (isTr (trF a) && isItems (itemsF l) && rightOk D (unTr (trF a)) (unItems (itemsF l)))
 (bsel (!rightV (unItems (itemsF l)) (unTr (trF a)))
 (ret (false))
 (c3n1 (x) (y) (s) (a) (b) (c) (d) (l)))
 none)
def T29n_3n1 {ρ : Type} (D : Nat) (ret : KJ44 ρ) (c3n0 : KJ41 ρ) (c3n1 : KJ41 ρ) (c3n2 : KJ41 ρ) (c3n3 : KJ41 ρ) (c3n4 : KJ41 ρ) (c10 : Option ρ) (x : Int) (y : Int) (s : Int) (a : Tr) (b : Tr) (c : Tr) (d : Tr) (l : List It) : Option ρ :=
 (bsel (isTr (trF b) && isItems (itemsF l) && rightOk D (unTr (trF b)) (unItems (itemsF l)))
 (bsel (!rightV (unItems (itemsF l)) (unTr (trF b)))
 (ret (false))
 (c3n2 (x) (y) (s) (a) (b) (c) (d) (l)))
 none)
def T29n_3n2 {ρ : Type} (D : Nat) (ret : KJ44 ρ) (c3n0 : KJ41 ρ) (c3n1 : KJ41 ρ) (c3n2 : KJ41 ρ) (c3n3 : KJ41 ρ) (c3n4 : KJ41 ρ) (c10 : Option ρ) (x : Int) (y : Int) (s : Int) (a : Tr) (b : Tr) (c : Tr) (d : Tr) (l : List It) : Option ρ :=
 (bsel (isTr (trF c) && isItems (itemsF l) && rightOk D (unTr (trF c)) (unItems (itemsF l)))
 (bsel (!rightV (unItems (itemsF l)) (unTr (trF c)))
 (ret (false))
 (c3n3 (x) (y) (s) (a) (b) (c) (d) (l)))
 none)
def T29n_3n3 {ρ : Type} (D : Nat) (ret : KJ44 ρ) (c3n0 : KJ41 ρ) (c3n1 : KJ41 ρ) (c3n2 : KJ41 ρ) (c3n3 : KJ41 ρ) (c3n4 : KJ41 ρ) (c10 : Option ρ) (x : Int) (y : Int) (s : Int) (a : Tr) (b : Tr) (c : Tr) (d : Tr) (l : List It) : Option ρ :=
 (bsel (isTr (trF d) && isItems (itemsF l) && rightOk D (unTr (trF d)) (unItems (itemsF l)))
 (bsel (!rightV (unItems (itemsF l)) (unTr (trF d)))
 (ret (false))
 (c3n4 (x) (y) (s) (a) (b) (c) (d) (l)))
 none)
def T29n_3n4 {ρ : Type} (D : Nat) (ret : KJ44 ρ) (c3n0 : KJ41 ρ) (c3n1 : KJ41 ρ) (c3n2 : KJ41 ρ) (c3n3 : KJ41 ρ) (c3n4 : KJ41 ρ) (c10 : Option ρ) (x : Int) (y : Int) (s : Int) (a : Tr) (b : Tr) (c : Tr) (d : Tr) (l : List It) : Option ρ :=
 (ret (true))
def T29n_10 {ρ : Type} (D : Nat) (ret : KJ44 ρ) (c3n0 : KJ41 ρ) (c3n1 : KJ41 ρ) (c3n2 : KJ41 ρ) (c3n3 : KJ41 ρ) (c3n4 : KJ41 ρ) (c10 : Option ρ)  : Option ρ :=
 none
mutual
def L29n_3n0 (D : Nat) : Nat → (Int) → (Int) → (Int) → (Tr) → (Tr) → (Tr) → (Tr) → (List It) → Option (Bool)
  | 0, _, _, _, _, _, _, _, _ => none
  | k + 1, x, y, s, a, b, c, d, l => T29n_3n0 D some (L29n_3n0 D k) (L29n_3n1 D k) (L29n_3n2 D k) (L29n_3n3 D k) (L29n_3n4 D k) (L29n_10 D k) x y s a b c d l
def L29n_3n1 (D : Nat) : Nat → (Int) → (Int) → (Int) → (Tr) → (Tr) → (Tr) → (Tr) → (List It) → Option (Bool)
  | 0, _, _, _, _, _, _, _, _ => none
  | k + 1, x, y, s, a, b, c, d, l => T29n_3n1 D some (L29n_3n0 D k) (L29n_3n1 D k) (L29n_3n2 D k) (L29n_3n3 D k) (L29n_3n4 D k) (L29n_10 D k) x y s a b c d l
def L29n_3n2 (D : Nat) : Nat → (Int) → (Int) → (Int) → (Tr) → (Tr) → (Tr) → (Tr) → (List It) → Option (Bool)
  | 0, _, _, _, _, _, _, _, _ => none
  | k + 1, x, y, s, a, b, c, d, l => T29n_3n2 D some (L29n_3n0 D k) (L29n_3n1 D k) (L29n_3n2 D k) (L29n_3n3 D k) (L29n_3n4 D k) (L29n_10 D k) x y s a b c d l
def L29n_3n3 (D : Nat) : Nat → (Int) → (Int) → (Int) → (Tr) → (Tr) → (Tr) → (Tr) → (List It) → Option (Bool)
  | 0, _, _, _, _, _, _, _, _ => none
  | k + 1, x, y, s, a, b, c, d, l => T29n_3n3 D some (L29n_3n0 D k) (L29n_3n1 D k) (L29n_3n2 D k) (L29n_3n3 D k) (L29n_3n4 D k) (L29n_10 D k) x y s a b c d l
def L29n_3n4 (D : Nat) : Nat → (Int) → (Int) → (Int) → (Tr) → (Tr) → (Tr) → (Tr) → (List It) → Option (Bool)
  | 0, _, _, _, _, _, _, _, _ => none
  | k + 1, x, y, s, a, b, c, d, l => T29n_3n4 D some (L29n_3n0 D k) (L29n_3n1 D k) (L29n_3n2 D k) (L29n_3n3 D k) (L29n_3n4 D k) (L29n_10 D k) x y s a b c d l
def L29n_10 (D : Nat) : Nat → Option (Bool)
  | 0 => none
  | k + 1 => T29n_10 D some (L29n_3n0 D k) (L29n_3n1 D k) (L29n_3n2 D k) (L29n_3n3 D k) (L29n_3n4 D k) (L29n_10 D k) 
end
def T29n {ρ : Type} (D : Nat) (ret : KJ44 ρ) (c3n0 : KJ41 ρ) (c3n1 : KJ41 ρ) (c3n2 : KJ41 ρ) (c3n3 : KJ41 ρ) (c3n4 : KJ41 ρ) (c10 : Option ρ) (x : Int) (y : Int) (s : Int) (a : Tr) (b : Tr) (c : Tr) (d : Tr) (l : List It) : Option ρ :=
 (c3n0 ((Tr.node x y s a b c d).x) ((Tr.node x y s a b c d).y) ((Tr.node x y s a b c d).size) (a) (b) (c) (d) (l))
def G29n (D : Nat) (k : Nat) (x : Int) (y : Int) (s : Int) (a : Tr) (b : Tr) (c : Tr) (d : Tr) (l : List It) : Option (Bool) := T29n D some (L29n_3n0 D k) (L29n_3n1 D k) (L29n_3n2 D k) (L29n_3n3 D k) (L29n_3n4 D k) (L29n_10 D k) x y s a b c d l
mutual
theorem t29n_3n0 (D : Nat) (hE : EnvOK Try.prog (envRt D)) : ∀ (k : Nat) (x : Int) (y : Int) (s : Int) (a : Tr) (b : Tr) (c : Tr) (d : Tr) (l : List It) (r : Bool), L29n_3n0 D k x y s a b c d l = some r → Ends Try.prog Try.f29.results.toList (at_ Try.f29 3) (S29n_3n0 x y s a b c d l) (F.bool r)
  | 0, _, _, _, _, _, _, _, _, _, h => nomatch h
  | k + 1, x, y, s, a, b, c, d, l, r, h => by
    refine Ends.of_cut tyOK hE (T := [(3, [1, 2, 5], 1000), (10, [1, 2, 6, 7], 1000)]) (n := 200) ?_
    have e : runCut Try.prog (tiOf Try.prog) (envRt D) [(3, [1, 2, 5], 1000), (10, [1, 2, 6, 7], 1000)] 0 Try.f29.results.toList some 200 (at_ Try.f29 3) (S29n_3n0 x y s a b c d l) = T29n_3n0 D (fun r => some (.ret (F.bool r))) (fun x y s a b c d l => some (.cut (at_ Try.f29 3) (S29n_3n0 x y s a b c d l))) (fun x y s a b c d l => some (.cut (at_ Try.f29 3) (S29n_3n1 x y s a b c d l))) (fun x y s a b c d l => some (.cut (at_ Try.f29 3) (S29n_3n2 x y s a b c d l))) (fun x y s a b c d l => some (.cut (at_ Try.f29 3) (S29n_3n3 x y s a b c d l))) (fun x y s a b c d l => some (.cut (at_ Try.f29 3) (S29n_3n4 x y s a b c d l))) (some (.cut (at_ Try.f29 10) (S29n_10 ))) x y s a b c d l := by kernel_rfl
    rw [e]
    exact (good_sel h (fun _ h => (good_sel h (fun _ h => good_ret (by cases h; rfl)) (fun _ h => good_cut (t29n_3n1 D hE k _ _ _ _ _ _ _ _ r h)))) (fun _ h => nomatch h))
theorem t29n_3n1 (D : Nat) (hE : EnvOK Try.prog (envRt D)) : ∀ (k : Nat) (x : Int) (y : Int) (s : Int) (a : Tr) (b : Tr) (c : Tr) (d : Tr) (l : List It) (r : Bool), L29n_3n1 D k x y s a b c d l = some r → Ends Try.prog Try.f29.results.toList (at_ Try.f29 3) (S29n_3n1 x y s a b c d l) (F.bool r)
  | 0, _, _, _, _, _, _, _, _, _, h => nomatch h
  | k + 1, x, y, s, a, b, c, d, l, r, h => by
    refine Ends.of_cut tyOK hE (T := [(3, [1, 2, 5], 1000), (10, [1, 2, 6, 7], 1000)]) (n := 200) ?_
    have e : runCut Try.prog (tiOf Try.prog) (envRt D) [(3, [1, 2, 5], 1000), (10, [1, 2, 6, 7], 1000)] 0 Try.f29.results.toList some 200 (at_ Try.f29 3) (S29n_3n1 x y s a b c d l) = T29n_3n1 D (fun r => some (.ret (F.bool r))) (fun x y s a b c d l => some (.cut (at_ Try.f29 3) (S29n_3n0 x y s a b c d l))) (fun x y s a b c d l => some (.cut (at_ Try.f29 3) (S29n_3n1 x y s a b c d l))) (fun x y s a b c d l => some (.cut (at_ Try.f29 3) (S29n_3n2 x y s a b c d l))) (fun x y s a b c d l => some (.cut (at_ Try.f29 3) (S29n_3n3 x y s a b c d l))) (fun x y s a b c d l => some (.cut (at_ Try.f29 3) (S29n_3n4 x y s a b c d l))) (some (.cut (at_ Try.f29 10) (S29n_10 ))) x y s a b c d l := by kernel_rfl
    rw [e]
    exact (good_sel h (fun _ h => (good_sel h (fun _ h => good_ret (by cases h; rfl)) (fun _ h => good_cut (t29n_3n2 D hE k _ _ _ _ _ _ _ _ r h)))) (fun _ h => nomatch h))
theorem t29n_3n2 (D : Nat) (hE : EnvOK Try.prog (envRt D)) : ∀ (k : Nat) (x : Int) (y : Int) (s : Int) (a : Tr) (b : Tr) (c : Tr) (d : Tr) (l : List It) (r : Bool), L29n_3n2 D k x y s a b c d l = some r → Ends Try.prog Try.f29.results.toList (at_ Try.f29 3) (S29n_3n2 x y s a b c d l) (F.bool r)
  | 0, _, _, _, _, _, _, _, _, _, h => nomatch h
  | k + 1, x, y, s, a, b, c, d, l, r, h => by
    refine Ends.of_cut tyOK hE (T := [(3, [1, 2, 5], 1000), (10, [1, 2, 6, 7], 1000)]) (n := 200) ?_
    have e : runCut Try.prog (tiOf Try.prog) (envRt D) [(3, [1, 2, 5], 1000), (10, [1, 2, 6, 7], 1000)] 0 Try.f29.results.toList some 200 (at_ Try.f29 3) (S29n_3n2 x y s a b c d l) = T29n_3n2 D (fun r => some (.ret (F.bool r))) (fun x y s a b c d l => some (.cut (at_ Try.f29 3) (S29n_3n0 x y s a b c d l))) (fun x y s a b c d l => some (.cut (at_ Try.f29 3) (S29n_3n1 x y s a b c d l))) (fun x y s a b c d l => some (.cut (at_ Try.f29 3) (S29n_3n2 x y s a b c d l))) (fun x y s a b c d l => some (.cut (at_ Try.f29 3) (S29n_3n3 x y s a b c d l))) (fun x y s a b c d l => some (.cut (at_ Try.f29 3) (S29n_3n4 x y s a b c d l))) (some (.cut (at_ Try.f29 10) (S29n_10 ))) x y s a b c d l := by kernel_rfl
    rw [e]
    exact (good_sel h (fun _ h => (good_sel h (fun _ h => good_ret (by cases h; rfl)) (fun _ h => good_cut (t29n_3n3 D hE k _ _ _ _ _ _ _ _ r h)))) (fun _ h => nomatch h))
theorem t29n_3n3 (D : Nat) (hE : EnvOK Try.prog (envRt D)) : ∀ (k : Nat) (x : Int) (y : Int) (s : Int) (a : Tr) (b : Tr) (c : Tr) (d : Tr) (l : List It) (r : Bool), L29n_3n3 D k x y s a b c d l = some r → Ends Try.prog Try.f29.results.toList (at_ Try.f29 3) (S29n_3n3 x y s a b c d l) (F.bool r)
  | 0, _, _, _, _, _, _, _, _, _, h => nomatch h
  | k + 1, x, y, s, a, b, c, d, l, r, h => by
    refine Ends.of_cut tyOK hE (T := [(3, [1, 2, 5], 1000), (10, [1, 2, 6, 7], 1000)]) (n := 200) ?_
    have e : runCut Try.prog (tiOf Try.prog) (envRt D) [(3, [1, 2, 5], 1000), (10, [1, 2, 6, 7], 1000)] 0 Try.f29.results.toList some 200 (at_ Try.f29 3) (S29n_3n3 x y s a b c d l) = T29n_3n3 D (fun r => some (.ret (F.bool r))) (fun x y s a b c d l => some (.cut (at_ Try.f29 3) (S29n_3n0 x y s a b c d l))) (fun x y s a b c d l => some (.cut (at_ Try.f29 3) (S29n_3n1 x y s a b c d l))) (fun x y s a b c d l => some (.cut (at_ Try.f29 3) (S29n_3n2 x y s a b c d l))) (fun x y s a b c d l => some (.cut (at_ Try.f29 3) (S29n_3n3 x y s a b c d l))) (fun x y s a b c d l => some (.cut (at_ Try.f29 3) (S29n_3n4 x y s a b c d l))) (some (.cut (at_ Try.f29 10) (S29n_10 ))) x y s a b c d l := by kernel_rfl
    rw [e]
    exact (good_sel h (fun _ h => (good_sel h (fun _ h => good_ret (by cases h; rfl)) (fun _ h => good_cut (t29n_3n4 D hE k _ _ _ _ _ _ _ _ r h)))) (fun _ h => nomatch h))
theorem t29n_3n4 (D : Nat) (hE : EnvOK Try.prog (envRt D)) : ∀ (k : Nat) (x : Int) (y : Int) (s : Int) (a : Tr) (b : Tr) (c : Tr) (d : Tr) (l : List It) (r : Bool), L29n_3n4 D k x y s a b c d l = some r → Ends Try.prog Try.f29.results.toList (at_ Try.f29 3) (S29n_3n4 x y s a b c d l) (F.bool r)
  | 0, _, _, _, _, _, _, _, _, _, h => nomatch h
  | k + 1, x, y, s, a, b, c, d, l, r, h => by
    refine Ends.of_cut tyOK hE (T := [(3, [1, 2, 5], 1000), (10, [1, 2, 6, 7], 1000)]) (n := 200) ?_
    have e : runCut Try.prog (tiOf Try.prog) (envRt D) [(3, [1, 2, 5], 1000), (10, [1, 2, 6, 7], 1000)] 0 Try.f29.results.toList some 200 (at_ Try.f29 3) (S29n_3n4 x y s a b c d l) = T29n_3n4 D (fun r => some (.ret (F.bool r))) (fun x y s a b c d l => some (.cut (at_ Try.f29 3) (S29n_3n0 x y s a b c d l))) (fun x y s a b c d l => some (.cut (at_ Try.f29 3) (S29n_3n1 x y s a b c d l))) (fun x y s a b c d l => some (.cut (at_ Try.f29 3) (S29n_3n2 x y s a b c d l))) (fun x y s a b c d l => some (.cut (at_ Try.f29 3) (S29n_3n3 x y s a b c d l))) (fun x y s a b c d l => some (.cut (at_ Try.f29 3) (S29n_3n4 x y s a b c d l))) (some (.cut (at_ Try.f29 10) (S29n_10 ))) x y s a b c d l := by kernel_rfl
    rw [e]
    exact good_ret (by cases h; rfl)
theorem t29n_10 (D : Nat) (hE : EnvOK Try.prog (envRt D)) : ∀ (k : Nat)  (r : Bool), L29n_10 D k  = some r → Ends Try.prog Try.f29.results.toList (at_ Try.f29 10) (S29n_10 ) (F.bool r)
  | 0, _, h => nomatch h
  | k + 1, r, h => by
    refine Ends.of_cut tyOK hE (T := [(3, [1, 2, 5], 1000), (10, [1, 2, 6, 7], 1000)]) (n := 200) ?_
    have e : runCut Try.prog (tiOf Try.prog) (envRt D) [(3, [1, 2, 5], 1000), (10, [1, 2, 6, 7], 1000)] 0 Try.f29.results.toList some 200 (at_ Try.f29 10) (S29n_10 ) = T29n_10 D (fun r => some (.ret (F.bool r))) (fun x y s a b c d l => some (.cut (at_ Try.f29 3) (S29n_3n0 x y s a b c d l))) (fun x y s a b c d l => some (.cut (at_ Try.f29 3) (S29n_3n1 x y s a b c d l))) (fun x y s a b c d l => some (.cut (at_ Try.f29 3) (S29n_3n2 x y s a b c d l))) (fun x y s a b c d l => some (.cut (at_ Try.f29 3) (S29n_3n3 x y s a b c d l))) (fun x y s a b c d l => some (.cut (at_ Try.f29 3) (S29n_3n4 x y s a b c d l))) (some (.cut (at_ Try.f29 10) (S29n_10 )))  := by kernel_rfl
    rw [e]
    exact nomatch h
end
theorem t29n (D : Nat) (hE : EnvOK Try.prog (envRt D)) (k : Nat) (x : Int) (y : Int) (s : Int) (a : Tr) (b : Tr) (c : Tr) (d : Tr) (l : List It) (r : Bool) (h : G29n D k x y s a b c d l = some r) : Ends Try.prog Try.f29.results.toList [.code (bodyOf Try.f29)] (start Try.f29.ntmps ([trF (Tr.node x y s a b c d), itemsF l].map .f)) (F.bool r) := by
  refine Ends.of_run tyOK hE (T := [(3, [1, 2, 5], 1000), (10, [1, 2, 6, 7], 1000)]) (n := 200) ?_
  have e : run Try.prog (tiOf Try.prog) (envRt D) [(3, [1, 2, 5], 1000), (10, [1, 2, 6, 7], 1000)] 0 Try.f29.results.toList some 200 [.code (bodyOf Try.f29)] (start Try.f29.ntmps ([trF (Tr.node x y s a b c d), itemsF l].map .f)) = T29n D (fun r => some (.ret (F.bool r))) (fun x y s a b c d l => some (.cut (at_ Try.f29 3) (S29n_3n0 x y s a b c d l))) (fun x y s a b c d l => some (.cut (at_ Try.f29 3) (S29n_3n1 x y s a b c d l))) (fun x y s a b c d l => some (.cut (at_ Try.f29 3) (S29n_3n2 x y s a b c d l))) (fun x y s a b c d l => some (.cut (at_ Try.f29 3) (S29n_3n3 x y s a b c d l))) (fun x y s a b c d l => some (.cut (at_ Try.f29 3) (S29n_3n4 x y s a b c d l))) (some (.cut (at_ Try.f29 10) (S29n_10 ))) x y s a b c d l := by kernel_rfl
  rw [e]
  exact good_cut (t29n_3n0 D hE k _ _ _ _ _ _ _ _ r h)
/-! ### function 29 -/
def S29l_10 (x : Int) (y : Int) (s : Int) (ids : List Int) (l : List It) (n : Int) (i : Int) : St := ⟨[.bad, (U.f (itemsF l)), (U.hp 0 0), .bad, .bad, .bad, (U.f (F.int .i64 n)), (U.f (F.int .i64 i)), .bad, .bad, .bad, .bad, .bad, .bad, .bad, .bad, .bad, .bad, .bad, .bad, .bad, .bad, .bad, .bad, .bad, .bad, .bad, .bad, .bad, .bad, .bad, .bad, .bad, .bad, .bad, .bad, .bad, .bad, .bad, .bad, .bad, .bad, .bad, .bad, .bad, .bad, .bad, .bad, .bad, .bad, .bad, .bad, .bad, .bad, .bad, .bad, .bad, .bad, .bad, .bad, .bad, .bad, .bad], [HO.box [(U.f (F.int .i64 x)), (U.f (F.int .i64 y)), (U.f (F.int .i64 s)), (U.f (F.cl 0 (kidG (Tr.leaf x y s ids)))), (U.f (intsF ids))]]⟩
def S29l_3  : St := ⟨[.bad, .bad, .bad, .bad, .bad, .bad, .bad, .bad, .bad, .bad, .bad, .bad, .bad, .bad, .bad, .bad, .bad, .bad, .bad, .bad, .bad, .bad, .bad, .bad, .bad, .bad, .bad, .bad, .bad, .bad, .bad, .bad, .bad, .bad, .bad, .bad, .bad, .bad, .bad, .bad, .bad, .bad, .bad, .bad, .bad, .bad, .bad, .bad, .bad, .bad, .bad, .bad, .bad, .bad, .bad, .bad, .bad, .bad, .bad, .bad, .bad, .bad, .bad], []⟩
abbrev KJ45 (ρ : Type) := (Int) → (Int) → (Int) → (List Int) → (List It) → (Int) → (Int) → Option ρ
def T29l_10 {ρ : Type} (D : Nat) (ret : KJ44 ρ) (c10 : KJ45 ρ) (c3 : Option ρ) (x : Int) (y : Int) (s : Int) (ids : List Int) (l : List It) (n : Int) (i : Int) : Option ρ :=
 (bsel (decide (i < (↑l.length : Int)))
 (bsel (decide (0 ≤ i))
 (bsel (decide (i < (↑l.length : Int)))
 (bsel (isTr (F.agg [F.int .i64 x, F.int .i64 y, F.int .i64 s, F.cl 0 fun x ↦ F.bool false, intsF ids]))
 (bsel (!trMeetsV (unTr (F.agg [F.int .i64 x, F.int .i64 y, F.int .i64 s, F.cl 0 fun x ↦ F.bool false, intsF ids])) (l.getD i.toNat It.zero).x0 (l.getD i.toNat It.zero).y0 (l.getD i.toNat It.zero).x1 (l.getD i.toNat It.zero).y1)
 (c10 (x) (y) (s) (ids) (l) (n) (IntKind.i64.wrap (i + 1)))
 (bsel (decide (n ≥ (↑ids.length : Int)) == false)
 (bsel (decide (0 ≤ n))
 (bsel (decide (n < (↑ids.length : Int)))
 (bsel (decide (0 ≤ i))
 (bsel (decide (i < (↑l.length : Int)))
 (bsel (ids.getD n.toNat 0 != (l.getD i.toNat It.zero).id)
 (ret (false))
 (c10 (x) (y) (s) (ids) (l) (IntKind.i64.wrap (n + 1)) (IntKind.i64.wrap (i + 1))))
 none)
 none)
 none)
 none)
 (ret (false))))
 none)
 none)
 none)
 (ret (n == (↑ids.length : Int))))
def T29l_3 {ρ : Type} (D : Nat) (ret : KJ44 ρ) (c10 : KJ45 ρ) (c3 : Option ρ)  : Option ρ :=
 none
mutual
def L29l_10 (D : Nat) : Nat → (Int) → (Int) → (Int) → (List Int) → (List It) → (Int) → (Int) → Option (Bool)
  | 0, _, _, _, _, _, _, _ => none
  | k + 1, x, y, s, ids, l, n, i => T29l_10 D some (L29l_10 D k) (L29l_3 D k) x y s ids l n i
def L29l_3 (D : Nat) : Nat → Option (Bool)
  | 0 => none
  | k + 1 => T29l_3 D some (L29l_10 D k) (L29l_3 D k) 
end
def T29l {ρ : Type} (D : Nat) (ret : KJ44 ρ) (c10 : KJ45 ρ) (c3 : Option ρ) (x : Int) (y : Int) (s : Int) (ids : List Int) (l : List It) : Option ρ :=
 (c10 ((Tr.leaf x y s ids).x) ((Tr.leaf x y s ids).y) ((Tr.leaf x y s ids).size) ((Tr.leaf x y s ids).ids) (l) (0) (0))
def G29l (D : Nat) (k : Nat) (x : Int) (y : Int) (s : Int) (ids : List Int) (l : List It) : Option (Bool) := T29l D some (L29l_10 D k) (L29l_3 D k) x y s ids l
mutual
theorem t29l_10 (D : Nat) (hE : EnvOK Try.prog (envRt D)) : ∀ (k : Nat) (x : Int) (y : Int) (s : Int) (ids : List Int) (l : List It) (n : Int) (i : Int) (r : Bool), L29l_10 D k x y s ids l n i = some r → Ends Try.prog Try.f29.results.toList (at_ Try.f29 10) (S29l_10 x y s ids l n i) (F.bool r)
  | 0, _, _, _, _, _, _, _, _, h => nomatch h
  | k + 1, x, y, s, ids, l, n, i, r, h => by
    refine Ends.of_cut tyOK hE (T := [(10, [1, 2, 6, 7], 1000), (3, [1, 2, 5], 1000)]) (n := 200) ?_
    have e : runCut Try.prog (tiOf Try.prog) (envRt D) [(10, [1, 2, 6, 7], 1000), (3, [1, 2, 5], 1000)] 0 Try.f29.results.toList some 200 (at_ Try.f29 10) (S29l_10 x y s ids l n i) = T29l_10 D (fun r => some (.ret (F.bool r))) (fun x y s ids l n i => some (.cut (at_ Try.f29 10) (S29l_10 x y s ids l n i))) (some (.cut (at_ Try.f29 3) (S29l_3 ))) x y s ids l n i := by kernel_rfl
    rw [e]
    exact (good_sel h (fun _ h => (good_sel h (fun _ h => (good_sel h (fun _ h => (good_sel h (fun _ h => (good_sel h (fun _ h => good_cut (t29l_10 D hE k _ _ _ _ _ _ _ r h)) (fun _ h => (good_sel h (fun _ h => (good_sel h (fun _ h => (good_sel h (fun _ h => (good_sel h (fun _ h => (good_sel h (fun _ h => (good_sel h (fun _ h => good_ret (by cases h; rfl)) (fun _ h => good_cut (t29l_10 D hE k _ _ _ _ _ _ _ r h)))) (fun _ h => nomatch h))) (fun _ h => nomatch h))) (fun _ h => nomatch h))) (fun _ h => nomatch h))) (fun _ h => good_ret (by cases h; rfl)))))) (fun _ h => nomatch h))) (fun _ h => nomatch h))) (fun _ h => nomatch h))) (fun _ h => good_ret (by cases h; rfl)))
theorem t29l_3 (D : Nat) (hE : EnvOK Try.prog (envRt D)) : ∀ (k : Nat)  (r : Bool), L29l_3 D k  = some r → Ends Try.prog Try.f29.results.toList (at_ Try.f29 3) (S29l_3 ) (F.bool r)
  | 0, _, h => nomatch h
  | k + 1, r, h => by
    refine Ends.of_cut tyOK hE (T := [(10, [1, 2, 6, 7], 1000), (3, [1, 2, 5], 1000)]) (n := 200) ?_
    have e : runCut Try.prog (tiOf Try.prog) (envRt D) [(10, [1, 2, 6, 7], 1000), (3, [1, 2, 5], 1000)] 0 Try.f29.results.toList some 200 (at_ Try.f29 3) (S29l_3 ) = T29l_3 D (fun r => some (.ret (F.bool r))) (fun x y s ids l n i => some (.cut (at_ Try.f29 10) (S29l_10 x y s ids l n i))) (some (.cut (at_ Try.f29 3) (S29l_3 )))  := by kernel_rfl
    rw [e]
    exact nomatch h
end
theorem t29l (D : Nat) (hE : EnvOK Try.prog (envRt D)) (k : Nat) (x : Int) (y : Int) (s : Int) (ids : List Int) (l : List It) (r : Bool) (h : G29l D k x y s ids l = some r) : Ends Try.prog Try.f29.results.toList [.code (bodyOf Try.f29)] (start Try.f29.ntmps ([trF (Tr.leaf x y s ids), itemsF l].map .f)) (F.bool r) := by
  refine Ends.of_run tyOK hE (T := [(10, [1, 2, 6, 7], 1000), (3, [1, 2, 5], 1000)]) (n := 200) ?_
  have e : run Try.prog (tiOf Try.prog) (envRt D) [(10, [1, 2, 6, 7], 1000), (3, [1, 2, 5], 1000)] 0 Try.f29.results.toList some 200 [.code (bodyOf Try.f29)] (start Try.f29.ntmps ([trF (Tr.leaf x y s ids), itemsF l].map .f)) = T29l D (fun r => some (.ret (F.bool r))) (fun x y s ids l n i => some (.cut (at_ Try.f29 10) (S29l_10 x y s ids l n i))) (some (.cut (at_ Try.f29 3) (S29l_3 ))) x y s ids l := by kernel_rfl
  rw [e]
  exact good_cut (t29l_10 D hE k _ _ _ _ _ _ _ r h)
theorem ck_loop (D : Nat) (q : Qd) (deep : Int) (hf : fewV q = true) (hd : 0 ≤ deep ∧ deep ≤ 8) (hok : ∀ a, 0 ≤ a → checkOk D q a (deep + 1) = true) (ks : List Bk) (hk : ks.length ≤ 4) : ∀ (m i : Nat) (at1 : Int), i + m = ks.length → 0 ≤ at1 →
    L16_14 D (m + 1) q at1 deep ks i = some (ckKids (fun a b => checkV D q a b (deep + 1)) (ks.drop i) at1)
  | 0, i, at1, h, ha => by
    have c1 : decide ((i : Int) < (ks.length : Int)) = false := decide_eq_false (by omega)
    simp only [L16_14, T16_14, c1, bsel_false]
    rw [List.drop_eq_nil_of_le (by omega)]
    rfl
  | m + 1, i, at1, h, ha => by
    have hi : i < ks.length := by omega
    have c1 : decide ((i : Int) < (ks.length : Int)) = true := decide_eq_true (by omega)
    have c2 : decide (0 ≤ (i : Int)) = true := decide_eq_true (by omega)
    have hw : IntKind.i64.wrap ((i : Int) + 1) = ((i + 1 : Nat) : Int) := by rw [wrapi (by omega) (by omega)]; omega
    have hw2 : IntKind.i64.wrap (deep + 1) = deep + 1 := wrapi (by omega) (by omega)
    have h1 : ks.getD i .zero = ks[i] := by simp [List.getD, List.getElem?_eq_getElem hi]
    have c3 := hok at1 ha
    rw [L16_14]
    simp only [T16_14, c1, c2, hw, hw2, bsel_true, Int.toNat_natCast, isQd_qdF, unQd_qdF, isBk_bkF, unBk_bkF, hf, c3, Bool.and_true]
    rw [List.drop_eq_getElem_cons hi, ckKids, h1]
    cases hc : decide (checkV D q at1 ks[i] (deep + 1) < 0) with
    | true => rfl
    | false =>
      have h2 : 0 ≤ checkV D q at1 ks[i] (deep + 1) := by have := of_decide_eq_false hc; omega
      exact ck_loop D q deep hf hd hok ks hk m (i + 1) _ (by omega) h2
theorem check_step (D : Nat) (q : Qd) (at1 : Int) (due : Bk) (deep : Int) (hf : fewV q = true) (ho : checkOk (D + 1) q at1 deep = true) : G16 D 5 q at1 due deep = some (checkV (D + 1) q at1 due deep) := by
  simp only [checkOk, Bool.and_eq_true, decide_eq_true_eq] at ho
  obtain ⟨⟨⟨⟨⟨o1, o2⟩, o3⟩, o4⟩, o5⟩, o6⟩ := ho
  have hlen := (allShort_iff.1 o1).1
  unfold G16 T16
  rw [checkV]
  cases h1 : decide (at1 ≥ (q.blocks.length : Int)) with
  | true => rfl
  | false =>
    have h1' := of_decide_eq_false h1
    have c2 : decide (0 ≤ at1) = true := decide_eq_true o2
    have c3 : decide (at1 < (q.blocks.length : Int)) = true := decide_eq_true (by omega)
    have c4 := short_at o1 (i := at1.toNat) (by omega)
    have hw : IntKind.i64.wrap (at1 + 1) = at1 + 1 := wrapi (by omega) (by omega)
    generalize q.blocks.getD at1.toNat Bk.zero = b at c4 ⊢
    simp only [c2, c3, bsel_true, bsel_false, cond_false, isInts_intsF, unInts_intsF, c4, Bool.and_true, isQd_qdF, unQd_qdF, hf, isBk_bkF, unBk_bkF, hw]
    cases hx : (b.x != due.x) with
    | true => rfl
    | false => cases hy : (b.y != due.y) with
      | true => rfl
      | false => cases hz : (b.size != due.size) with
        | true => rfl
        | false => cases hs : b.split with
          | false => cases hv : sameV b.ids due.ids <;> rfl
          | true => cases hl : decide ((b.ids.length : Int) > 0) with
            | true => rfl
            | false => cases hd : (deep == q.deep) with
              | true => rfl
              | false =>
                have hd' : deep ≠ q.deep := by simpa using hd
                refine ck_loop D q deep hf (by omega) (fun a ha => ?_) (kidsV q due) (by exact Nat.le_refl 4) 4 0 (at1 + 1) rfl (by omega)
                simp only [checkOk, Bool.and_eq_true, decide_eq_true_eq]
                exact ⟨⟨⟨⟨⟨o1, ha⟩, by omega⟩, by omega⟩, o5⟩, by omega⟩
theorem okCheck : ∀ D, PureOK Try.prog 16 (preCk D) (resCk D)
  | 0 => by
    intro xs hp
    exfalso
    unfold preCk at hp
    split at hp
    · simp only [checkOk, Bool.and_eq_true, decide_eq_true_eq] at hp
      omega
    · cases hp
  | D + 1 => fn_pure_at (c := bodyOf Try.f16) Try.func16 (by kernel_rfl) (by kernel_rfl) fun xs hp => match xs, hp with
    | [q, .int .i64 a, due, .int .i64 deep], hp => by
      simp only [preCk, Bool.and_eq_true] at hp
      obtain ⟨⟨⟨h1, h2⟩, h3⟩, h4⟩ := hp
      exact ⟨[qdF (unQd q), .int .i64 a, bkF (unBk due), .int .i64 deep], _, ⟨(qd_eqv h1).1, .refl _, FLe.bk h3, .refl _, trivial⟩, t16 D (Env.add_ok envQ3_ok (okCheck D).sp) 5 _ _ _ _ _ (check_step D _ _ _ _ h2 h4), .refl _⟩
/-! The reader of trees. -/
def klist : Nat → Int → List Int
  | 0, _ => []
  | m + 1, j => j :: klist m (j + 1)
def rdF (D : Nat) (l : List Bk) (x y sz deep : Int) : Int → Int → Tr × Int × Bool := fun a k => readV D l a (IntKind.i64.wrap (x + IntKind.i64.wrap ((k.tmod 2) * halfV sz))) (IntKind.i64.wrap (y + IntKind.i64.wrap (IntKind.i64.wrap (k.tdiv 2) * halfV sz))) (halfV sz) (deep - 1)
theorem rdKids_pos {f : Int → Int → Tr × Int × Bool} (hf : ∀ a k, 0 ≤ a → (f a k).2.2 = true → 0 ≤ (f a k).2.1) : ∀ (ks : List Int) (a : Int) (ts : List Tr) (p : Int), 0 ≤ a → rdKids f ks a = some (ts, p) → 0 ≤ p
  | [], a, ts, p, ha, h => by simp only [rdKids, Option.some.injEq, Prod.mk.injEq] at h; omega
  | k :: ks, a, ts, p, ha, h => by
    rw [rdKids] at h
    cases hc : (f a k).2.2 with
    | false => rw [hc] at h; cases h
    | true =>
      rw [hc, cond_true] at h
      cases hr : rdKids f ks (f a k).2.1 with
      | none => rw [hr] at h; cases h
      | some r =>
        obtain ⟨ts', p'⟩ := r
        rw [hr] at h
        simp only [Option.some.injEq, Prod.mk.injEq] at h
        rw [← h.2]
        exact rdKids_pos hf ks _ _ _ (hf a k ha hc) hr
theorem read_pos : ∀ (D : Nat) (l : List Bk) (a x y sz deep : Int), 0 ≤ a → (readV D l a x y sz deep).2.2 = true → 0 ≤ (readV D l a x y sz deep).2.1
  | 0, l, a, x, y, sz, deep, ha, h => Int.le_refl 0
  | D + 1, l, a, x, y, sz, deep, ha, h => by
    have ih := read_pos D l
    rw [readV] at h ⊢
    generalize decide (a ≥ (l.length : Int)) = c1 at h ⊢
    generalize l.getD a.toNat .zero = b at h ⊢
    cases c1 with
    | true => exact Int.le_refl 0
    | false =>
      simp only [cond_false] at h ⊢
      generalize (b.x != x || b.y != y || b.size != sz || (b.split && (decide (deep < 1) || decide ((b.ids.length : Int) > 0)))) = c2 at h ⊢
      cases c2 with
      | true => exact Int.le_refl 0
      | false =>
        simp only [cond_false] at h ⊢
        cases b.split with
        | false => simp only [Bool.not_false, cond_true]; omega
        | true =>
          simp only [Bool.not_true, cond_false]
          split
          · rename_i p hr
            exact rdKids_pos (fun a' k ha' hb => ih a' _ _ _ _ ha' hb) _ _ _ _ (by omega) hr
          · exact Int.le_refl 0
def rdFail : List F := [.agg [.int .i64 0, .int .i64 0, .int .i64 0, .tup [], .tup []], .int .i64 0, .bool false]
def rdLeaf (x y sz : Int) (dn : Nat) (dg : Nat → F) (p : Int) : List F := [.agg [.int .i64 x, .int .i64 y, .int .i64 sz, .tup [], .tup [.int .i64 ((1 : Nat) : Int), .sl dn dg]], .int .i64 p, .bool true]
def rdNode (x y sz : Int) (n : Nat) (g : Nat → F) (dn : Nat) (dg : Nat → F) (p : Int) : List F := [.agg [.int .i64 x, .int .i64 y, .int .i64 sz, .tup [.int .i64 ((5 : Nat) : Int), .sl n g], .tup [.int .i64 ((1 : Nat) : Int), .sl dn dg]], .int .i64 p, .bool true]
section
variable (D : Nat) (l : List Bk) (x y sz deep : Int) (dn : Nat) (dg : Nat → F) (hd : 0 ≤ deep ∧ deep ≤ 8) (hok : ∀ a, 0 ≤ a → readOk D l a (deep - 1) = true)
include hd hok
theorem rd_b : ∀ (m : Nat) (j at1 : Int) (n : Nat) (g : Nat → F) (o : List Tr), 0 ≤ j → j + m = 4 → n ≤ 4 - m → 0 ≤ at1 → Lists trF .zero n g o →
    match rdKids (rdF D l x y sz deep) (klist m j) at1 with
    | none => L28_11b D (m + 1) l at1 x y sz deep j dn dg n g = some (.tup rdFail)
    | some (ts, p) => ts.length = m ∧ ∃ g1, L28_11b D (m + 1) l at1 x y sz deep j dn dg n g = some (.tup (rdNode x y sz (n + m) g1 dn dg p)) ∧ Lists trF .zero (n + m) g1 (o ++ ts)
  | 0, j, at1, n, g, o, hj, h, hn, ha, hg => by
    have c1 : decide (j < 4) = false := decide_eq_false (by omega)
    simp only [klist, rdKids]
    refine ⟨rfl, g, ?_, by simpa using hg⟩
    simp only [L28_11b, T28_11b, c1, bsel_false, decide_true, bsel_true, Nat.add_zero, Bool.and_self]
    rfl
  | m + 1, j, at1, n, g, o, hj, h, hn, ha, hg => by
    have c1 : decide (j < 4) = true := decide_eq_true (by omega)
    have hw : IntKind.i64.wrap (j + 1) = j + 1 := wrapi (by omega) (by omega)
    have hw2 : IntKind.i64.wrap (deep - 1) = deep - 1 := wrapi (by omega) (by omega)
    have c3 : decide (((n + 1 : Nat) : Int) * (((72 : Nat) : Int) + 1) ≤ (limit : Int)) = true := by rw [limit_eq]; exact decide_eq_true (by omega)
    have c4 := hok at1 ha
    have hrd : readV D l at1 (IntKind.i64.wrap (x + IntKind.i64.wrap (j.tmod 2 * IntKind.i64.wrap (sz.tdiv 2)))) (IntKind.i64.wrap (y + IntKind.i64.wrap (IntKind.i64.wrap (j.tdiv 2) * IntKind.i64.wrap (sz.tdiv 2)))) (IntKind.i64.wrap (sz.tdiv 2)) (deep - 1) = rdF D l x y sz deep at1 j := rfl
    rw [L28_11b]
    simp only [T28_11b, c1, c3, hw, hw2, bsel_true, isBlocks_blocksF, unBlocks_blocksF, c4, Bool.and_true, decide_true, hrd, klist, rdKids]
    cases hc : (rdF D l x y sz deep at1 j).2.2 with
    | false => rfl
    | true =>
      have hp : 0 ≤ (rdF D l x y sz deep at1 j).2.1 := read_pos D l _ _ _ _ _ ha hc
      have ih := rd_b m (j + 1) (rdF D l x y sz deep at1 j).2.1 (n + 1) _ (o ++ [(rdF D l x y sz deep at1 j).1]) (by omega) (by omega) (by omega) hp (hg.push (rdF D l x y sz deep at1 j).1)
      simp only [cond_true, Bool.not_true, bsel_false]
      cases hr : rdKids (rdF D l x y sz deep) (klist m (j + 1)) (rdF D l x y sz deep at1 j).2.1 with
      | none => rw [hr] at ih; exact ih
      | some r =>
        obtain ⟨ts, p⟩ := r
        rw [hr] at ih
        obtain ⟨h1, g1, e1, e2⟩ := ih
        refine ⟨by simp [h1], g1, ?_, ?_⟩
        · rw [show n + (m + 1) = n + 1 + m by omega]; exact e1
        · rw [show n + (m + 1) = n + 1 + m by omega]; simpa using e2
theorem rd_a (at1 : Int) (ha : 0 ≤ at1) :
    match rdKids (rdF D l x y sz deep) [0, 1, 2, 3] at1 with
    | none => L28_11a D 5 l at1 x y sz deep 0 dn dg = some (.tup rdFail)
    | some (ts, p) => ts.length = 4 ∧ ∃ g1, L28_11a D 5 l at1 x y sz deep 0 dn dg = some (.tup (rdNode x y sz 4 g1 dn dg p)) ∧ Lists trF .zero 4 g1 ts := by
  have c1 : decide ((0 : Int) < 4) = true := rfl
  have hw : IntKind.i64.wrap ((0 : Int) + 1) = 1 := wrapi (by omega) (by omega)
  have hw2 : IntKind.i64.wrap (deep - 1) = deep - 1 := wrapi (by omega) (by omega)
  have c3 : decide (((1 : Nat) : Int) * (((72 : Nat) : Int) + 1) ≤ (limit : Int)) = true := by rw [limit_eq]; exact decide_eq_true (by omega)
  have c4 := hok at1 ha
  have hrd : readV D l at1 (IntKind.i64.wrap (x + IntKind.i64.wrap ((0 : Int).tmod 2 * IntKind.i64.wrap (sz.tdiv 2)))) (IntKind.i64.wrap (y + IntKind.i64.wrap (IntKind.i64.wrap ((0 : Int).tdiv 2) * IntKind.i64.wrap (sz.tdiv 2)))) (IntKind.i64.wrap (sz.tdiv 2)) (deep - 1) = rdF D l x y sz deep at1 0 := rfl
  rw [L28_11a]
  simp only [T28_11a, c1, c3, hw, hw2, bsel_true, isBlocks_blocksF, unBlocks_blocksF, c4, Bool.and_true, decide_true, hrd]
  rw [rdKids]
  cases hc : (rdF D l x y sz deep at1 0).2.2 with
  | false => rfl
  | true =>
    have hp : 0 ≤ (rdF D l x y sz deep at1 0).2.1 := read_pos D l _ _ _ _ _ ha hc
    have ih := rd_b D l x y sz deep dn dg hd hok 3 1 (rdF D l x y sz deep at1 0).2.1 1 _ [(rdF D l x y sz deep at1 0).1] (by omega) (by omega) (by omega) hp (Lists.one (enc := trF) (d := .zero) (rdF D l x y sz deep at1 0).1)
    simp only [cond_true, Bool.not_true, bsel_false]
    have hk : klist 3 1 = [1, 2, 3] := rfl
    rw [hk] at ih
    cases hr : rdKids (rdF D l x y sz deep) [1, 2, 3] (rdF D l x y sz deep at1 0).2.1 with
    | none => rw [hr] at ih; exact ih
    | some r =>
      obtain ⟨ts, p⟩ := r
      rw [hr] at ih
      obtain ⟨h1, g1, e1, e2⟩ := ih
      exact ⟨by simp [h1], g1, e1, e2⟩
end
def rdVal (es : List F) : F := tupF (es.map unt2)
def rdOut (v : Tr × Int × Bool) : F := .tup [trF v.1, .int .i64 v.2.1, .bool v.2.2]
theorem fail_le : FLe (rdVal rdFail) (rdOut (.zero, 0, false)) :=
  FLe.tup ⟨FLe.agg ⟨.refl _, .refl _, .refl _, FLe.cl fun j hj => absurd hj (Nat.not_lt_zero _), FLe.unCl fun j hj => absurd hj (Nat.not_lt_zero _), trivial⟩, .refl _, .refl _, trivial⟩
theorem one_app {n j : Nat} {g : Nat → F} (h : j < n) : one n g j = g j := by
  match n, h with
  | 1, h =>
    have : j = 0 := by omega
    rw [this]; rfl
  | n + 2, h => rfl
theorem ids_lists (l : List Int) : Lists i64F 0 (0 + l.length) (fun j => if j < 0 then lget [] j else one l.length (fun i => i64F (l.getD i 0)) (j - 0)) l := by
  refine ⟨by omega, fun j hj => ?_⟩
  simp only [Nat.not_lt_zero, if_false, Nat.sub_zero]
  exact one_app (by omega)
theorem leaf_le {x y sz p : Int} {dn : Nat} {dg : Nat → F} {ids : List Int} (hd : Lists i64F 0 dn dg ids) : FLe (rdVal (rdLeaf x y sz dn dg p)) (rdOut (.leaf x y sz ids, p, true)) := by
  exact FLe.tup ⟨FLe.agg ⟨.refl _, .refl _, .refl _, FLe.cl fun j hj => absurd hj (Nat.not_lt_zero _), hd.le, trivial⟩, .refl _, .refl _, trivial⟩
theorem node_le {x y sz p : Int} {dn : Nat} {g dg : Nat → F} {a b c d : Tr} (hg : Lists trF .zero 4 g [a, b, c, d]) (hd : Lists i64F 0 dn dg []) : FLe (rdVal (rdNode x y sz 4 g dn dg p)) (rdOut (.node x y sz a b c d, p, true)) := by
  refine FLe.tup ⟨FLe.agg ⟨.refl _, .refl _, .refl _, FLe.toCl (by decide) fun j hj => ?_, hd.le, trivial⟩, .refl _, .refl _, trivial⟩
  have e : g j = trF ([a, b, c, d].getD j .zero) := hg.2 j hj
  show g j = kidG (.node x y sz a b c d) j
  rw [e]
  have hj : j < 4 := hj
  have : j = 0 ∨ j = 1 ∨ j = 2 ∨ j = 3 := by omega
  rcases this with rfl | rfl | rfl | rfl <;> rfl
theorem read_step (D : Nat) (l : List Bk) (at1 x y sz deep : Int) (ho : readOk (D + 1) l at1 deep = true) : ∃ r, G28 D 5 l at1 x y sz deep = some (.tup r) ∧ FLe (rdVal r) (rdOut (readV (D + 1) l at1 x y sz deep)) := by
  simp only [readOk, Bool.and_eq_true, decide_eq_true_eq] at ho
  obtain ⟨⟨⟨⟨o1, o2⟩, o3⟩, o4⟩, o5⟩ := ho
  have hlen := (allShort_iff.1 o1).1
  unfold G28 T28
  rw [readV]
  cases h1 : decide (at1 ≥ (l.length : Int)) with
  | true => exact ⟨rdFail, rfl, fail_le⟩
  | false =>
    have h1' := of_decide_eq_false h1
    have c2 : decide (0 ≤ at1) = true := decide_eq_true o2
    have c3 : decide (at1 < (l.length : Int)) = true := decide_eq_true (by omega)
    have c4 := of_decide_eq_true (short_at o1 (i := at1.toNat) (by omega))
    have hw : IntKind.i64.wrap (at1 + 1) = at1 + 1 := wrapi (by omega) (by omega)
    generalize l.getD at1.toNat Bk.zero = b at c4 ⊢
    have c5 : decide (((0 + b.ids.length : Nat) : Int) * (((8 : Nat) : Int) + 1) ≤ (limit : Int)) = true := by rw [limit_eq]; exact decide_eq_true (by omega)
    simp only [c2, c3, c5, bsel_true, bsel_false, cond_false, hw, decide_true]
    cases hx : (b.x != x) with
    | true => exact ⟨rdFail, rfl, fail_le⟩
    | false => cases hy : (b.y != y) with
      | true => exact ⟨rdFail, rfl, fail_le⟩
      | false => cases hz : (b.size != sz) with
        | true => exact ⟨rdFail, rfl, fail_le⟩
        | false => cases hs : b.split with
          | false => exact ⟨_, rfl, leaf_le (ids_lists b.ids)⟩
          | true => cases hdp : decide (deep < 1) with
            | true => exact ⟨rdFail, rfl, fail_le⟩
            | false => cases hl : decide ((b.ids.length : Int) > 0) with
              | true => exact ⟨rdFail, rfl, fail_le⟩
              | false =>
                have hdp' := of_decide_eq_false hdp
                have hl' := of_decide_eq_false hl
                have hids : b.ids = [] := List.eq_nil_of_length_eq_zero (by omega)
                have h := rd_a D l x y sz deep (0 + b.ids.length) (fun j => if j < 0 then lget [] j else one b.ids.length (fun i => i64F (b.ids.getD i 0)) (j - 0)) ⟨by omega, o5⟩ (fun a ha => by
                  simp only [readOk, Bool.and_eq_true, decide_eq_true_eq]
                  exact ⟨⟨⟨⟨o1, ha⟩, by omega⟩, by omega⟩, by omega⟩) (at1 + 1) (by omega)
                have hf : (fun a k => readV D l a (IntKind.i64.wrap (x + IntKind.i64.wrap ((k.tmod 2) * halfV sz))) (IntKind.i64.wrap (y + IntKind.i64.wrap (IntKind.i64.wrap (k.tdiv 2) * halfV sz))) (halfV sz) (deep - 1)) = rdF D l x y sz deep := rfl
                simp only [hf, Bool.false_or, Bool.true_and, Bool.or_self, cond_false, Bool.not_true, bsel_false, beq_self_eq_true, bsel_true, Bool.true_beq, Bool.false_beq, Bool.not_false]
                cases hr : rdKids (rdF D l x y sz deep) [0, 1, 2, 3] (at1 + 1) with
                | none => rw [hr] at h; exact ⟨rdFail, h, fail_le⟩
                | some r =>
                  obtain ⟨ts, p⟩ := r
                  rw [hr] at h
                  obtain ⟨h4, g1, e1, e2⟩ := h
                  match ts, h4 with
                  | [a, b', c, d], _ => exact ⟨_, e1, node_le e2 (by have := ids_lists b.ids; rw [hids] at this ⊢; exact this)⟩
theorem okRead : ∀ D, PureOK Try.prog 28 (preRd D) (resRd D)
  | 0 => by
    intro xs hp
    exfalso
    unfold preRd at hp
    split at hp
    · simp only [readOk, Bool.and_eq_true, decide_eq_true_eq] at hp
      omega
    · cases hp
  | D + 1 => fn_told (c := bodyOf Try.f28) Try.func28 (by kernel_rfl) (by kernel_rfl) fun xs hp => match xs, hp with
    | [l, .int .i64 a, .int .i64 x, .int .i64 y, .int .i64 sz, .int .i64 deep], hp => by
      simp only [preRd, Bool.and_eq_true] at hp
      obtain ⟨h1, h2⟩ := hp
      obtain ⟨r, e1, e2⟩ := read_step D (unBlocks l) a x y sz deep h2
      exact ⟨[blocksF (unBlocks l), .int .i64 a, .int .i64 x, .int .i64 y, .int .i64 sz, .int .i64 deep], _, ⟨(blocks_eqv h1).1, .refl _, .refl _, .refl _, .refl _, .refl _, trivial⟩, t28 D (Env.add_ok envQ3_ok (okRead D).sp) 5 _ _ _ _ _ _ _ e1, e2⟩
/-! Right ones. -/
theorem right_leaf (D : Nat) (x y s : Int) (ids : List Int) (l : List It) (hl : l.length ≤ 40) : ∀ (m i n : Nat), i + m = l.length → n ≤ i → n ≤ ids.length → L29l_10 D (m + 1) x y s ids l n i = some (ids.drop n == metFrom l x y s i)
  | 0, i, n, h, hn, hi => by
    have c1 : decide ((i : Int) < (l.length : Int)) = false := decide_eq_false (by omega)
    obtain rfl : i = l.length := by omega
    simp only [L29l_10, T29l_10, c1, bsel_false]
    rw [met_end]
    congr 1
    rw [Bool.eq_iff_iff]
    simp only [beq_iff_eq, List.drop_eq_nil_iff]
    omega
  | m + 1, i, n, h, hn, hi => by
    have hlt : i < l.length := by omega
    have c1 : decide ((i : Int) < (l.length : Int)) = true := decide_eq_true (by omega)
    have c2 : decide (0 ≤ (i : Int)) = true := decide_eq_true (by omega)
    have c3 : decide (0 ≤ (n : Int)) = true := decide_eq_true (by omega)
    have hw : IntKind.i64.wrap ((i : Int) + 1) = ((i + 1 : Nat) : Int) := by rw [wrapi (by omega) (by omega)]; omega
    have hw2 : IntKind.i64.wrap ((n : Int) + 1) = ((n + 1 : Nat) : Int) := by rw [wrapi (by omega) (by omega)]; omega
    have ht : (F.agg [F.int .i64 x, F.int .i64 y, F.int .i64 s, F.cl 0 fun x => F.bool false, intsF ids]) = trF (.leaf x y s ids) := rfl
    rw [L29l_10]
    simp only [T29l_10, c1, c2, c3, hw, hw2, bsel_true, Int.toNat_natCast, ht, isTr_trF, unTr_trF]
    rw [met_step l x y s hlt]
    have hm : trMeetsV (.leaf x y s ids) (l.getD i It.zero).x0 (l.getD i It.zero).y0 (l.getD i It.zero).x1 (l.getD i It.zero).y1 = meetsV (l.getD i .zero).x0 (l.getD i .zero).y0 (l.getD i .zero).x1 (l.getD i .zero).y1 x y (IntKind.i64.wrap (x + s)) (IntKind.i64.wrap (y + s)) := rfl
    rw [hm]
    cases meetsV (l.getD i .zero).x0 (l.getD i .zero).y0 (l.getD i .zero).x1 (l.getD i .zero).y1 x y (IntKind.i64.wrap (x + s)) (IntKind.i64.wrap (y + s)) with
    | false =>
      simp only [Bool.not_false, bsel_true, Bool.false_eq_true, if_false]
      exact right_leaf D x y s ids l hl m (i + 1) n (by omega) (by omega) hi
    | true =>
      simp only [Bool.not_true, bsel_false, if_true]
      by_cases hc : (n : Int) ≥ (ids.length : Int)
      · rw [decide_eq_true hc, List.drop_eq_nil_of_le (by omega)]
        rfl
      · have c4 : decide ((n : Int) < (ids.length : Int)) = true := decide_eq_true (by omega)
        have hlt2 : n < ids.length := by omega
        rw [decide_eq_false hc]
        simp only [c4, bsel_true, beq_self_eq_true]
        rw [List.drop_eq_getElem_cons hlt2]
        have h1 : ids.getD n 0 = ids[n] := by simp [List.getD, List.getElem?_eq_getElem hlt2]
        rw [h1, List.cons_beq_cons, bne]
        cases (ids[n] == (l.getD i .zero).id) with
        | false => rfl
        | true =>
          simp only [Bool.not_true, bsel_false, Bool.true_and]
          exact right_leaf D x y s ids l hl m (i + 1) (n + 1) (by omega) (by omega) (by omega)
theorem right_node (D : Nat) (x y s : Int) (a b c d : Tr) (l : List It) (ho : rightOk (D + 1) (.node x y s a b c d) l = true) : G29n D 5 x y s a b c d l = some (rightV l (.node x y s a b c d)) := by
  simp only [rightOk, Bool.and_eq_true, decide_eq_true_eq, trDepth] at ho
  have ok : ∀ t, trDepth t < D → rightOk D t l = true := fun t ht => by simp only [rightOk, Bool.and_eq_true, decide_eq_true_eq]; exact ⟨ho.1, ht⟩
  have hm := Nat.max_lt.1 (Nat.lt_of_succ_lt_succ (of_decide_eq_true ho.2))
  have hm1 := Nat.max_lt.1 hm.1
  have hm2 := Nat.max_lt.1 hm.2
  have oa := ok a hm1.1
  have ob := ok b hm1.2
  have oc := ok c hm2.1
  have od := ok d hm2.2
  unfold G29n T29n
  simp only [L29n_3n0, T29n_3n0, L29n_3n1, T29n_3n1, L29n_3n2, T29n_3n2, L29n_3n3, T29n_3n3, L29n_3n4, T29n_3n4, isTr_trF, unTr_trF, isItems_itemsF, unItems_itemsF, oa, ob, oc, od, Bool.and_true, bsel_true]
  rw [rightV]
  cases rightV l a <;> cases rightV l b <;> cases rightV l c <;> cases rightV l d <;> rfl
theorem okRight : ∀ D, PureOK Try.prog 29 (preRt D) resRt
  | 0 => by
    intro xs hp
    exfalso
    unfold preRt at hp
    split at hp
    · simp only [rightOk, Bool.and_eq_true, decide_eq_true_eq] at hp
      omega
    · cases hp
  | D + 1 => fn_pure_at (c := bodyOf Try.f29) Try.func29 (by kernel_rfl) (by kernel_rfl) fun xs hp => match xs, hp with
    | [t, l], hp => by
      simp only [preRt, Bool.and_eq_true] at hp
      obtain ⟨⟨h1, h2⟩, h3⟩ := hp
      have ht := tr_eq h1
      have hr : resRt [t, l] = .bool (rightV (unItems l) (unTr t)) := rfl
      rw [hr]
      generalize unTr t = t' at ht h3 ⊢
      subst ht
      refine ⟨[trF t', itemsF (unItems l)], .bool (rightV (unItems l) t'), ⟨.refl _, (items_eqv h2).1, trivial⟩, ?_, .refl _⟩
      cases t' with
      | leaf x y s ids =>
        simp only [rightOk, Bool.and_eq_true, decide_eq_true_eq] at h3
        exact t29l D (Env.add_ok envQ3_ok (okRight D).sp) ((unItems l).length + 1) x y s ids (unItems l) _ (right_leaf D x y s ids _ h3.1 _ 0 0 (by omega) (by omega) (by omega))
      | node x y s a b c d => exact t29n D (Env.add_ok envQ3_ok (okRight D).sp) 5 x y s a b c d (unItems l) _ (right_node D x y s a b c d _ h3)
def envQ4 : Env := ((envQ3.add 16 (.pure (preCk 9) (resCk 9))).add 28 (.pure (preRd 9) (resRd 9))).add 29 (.pure (preRt 9) resRt)
theorem envQ4_ok : EnvOK Try.prog envQ4 := (Env.add_ok (Env.add_ok (Env.add_ok envQ3_ok (okCheck 9).sp) (okRead 9).sp) (okRight 9).sp)
end
end Go.Proofs.Ytbnainbjcaekjaa.R
