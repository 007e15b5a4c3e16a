/-
  The walk of the functions about masks: transposed matrices.
-/
import Derived.Test.YthldemeodnlhbaaM4
namespace Go.Proofs.Ythldemeodnlhbaa.R
open Go
noncomputable section
set_option linter.unusedVariables false
set_option linter.unusedSimpArgs false
set_option maxRecDepth 100000
/-! ### function 11 -/
def S11_5 (a0 : ByteArray) (n : Nat) (g : Nat → F) (x4 : Int) : St := ⟨[(U.f (F.str a0)), .bad, .bad, (U.hs 0 n 0 n), (U.f (F.int .i64 x4)), .bad, .bad, .bad, .bad, .bad, .bad, .bad, .bad, .bad, .bad, .bad, .bad, .bad, .bad, .bad, .bad, .bad, .bad, .bad, .bad, .bad], [HO.arr 1 n g]⟩
def T11_5 {ρ : Type} (ret : (ByteArray) → Option ρ) (c5 : (ByteArray) → (Nat) → (Nat → F) → (Int) → Option ρ) (a0 : ByteArray) (n : Nat) (g : Nat → F) (x4 : Int) : Option ρ :=
  (bsel (decide (x4 < 9))
   (bsel (decide (0 ≤ IntKind.i64.wrap (IntKind.i64.wrap (3 * x4.tmod 3) + IntKind.i64.wrap (x4.tdiv 3))))
    (bsel (decide (IntKind.i64.wrap (IntKind.i64.wrap (3 * x4.tmod 3) + IntKind.i64.wrap (x4.tdiv 3)) < (↑a0.size : Int)))
     (bsel (decide (n = n))
      (bsel (decide (n = n))
       (bsel (decide ((↑(n + 1) : Int) * (((1 : Nat) : Int) + 1) ≤ (↑limit : Int)))
        (c5 (a0) (n + 1) (fun j ↦ if j < n then g j else F.int IntKind.u8 (byteAt a0 (IntKind.i64.wrap (IntKind.i64.wrap (3 * x4.tmod 3) + IntKind.i64.wrap (x4.tdiv 3))))) (IntKind.i64.wrap (x4 + 1)))
        none)
       none)
      none)
     none)
    none)
   (bsel (decide (n = n))
    (bsel ((List.range n).all fun i ↦ isU8 (offF 0 g i))
     (ret (bytesOfF n (offF 0 g)))
     none)
    none))
def L11_5 : Nat → (ByteArray) → (Nat) → (Nat → F) → (Int) → Option (ByteArray)
  | 0, _, _, _, _ => none
  | k + 1, a0, n, g, x4 => T11_5 some (L11_5 k) a0 n g x4
def T11 {ρ : Type} (ret : (ByteArray) → Option ρ) (c5 : (ByteArray) → (Nat) → (Nat → F) → (Int) → Option ρ) (a0 : ByteArray) : Option ρ :=
  (bsel (!matV a0)
   (ret ({ data := #[] }))
   (c5 (a0) (0) (lget []) (0)))
def G11 (k : Nat) (a0 : ByteArray) : Option (ByteArray) := T11 some (L11_5 k) a0
theorem t11_5 : ∀ (k : Nat) (a0 : ByteArray) (n : Nat) (g : Nat → F) (x4 : Int) (r : ByteArray), L11_5 k a0 n g x4 = some r → Ends Try.prog Try.f11.results.toList (at_ Try.f11 5) (S11_5 a0 n g x4) (F.str r)
  | 0, _, _, _, _, _, h => nomatch h
  | k + 1, a0, n, g, x4, r, h => by
    refine Ends.of_cut tyOK env6_ok (T := [(5, [0, 3, 4], 1)]) (n := 200) ?_
    have e : runCut Try.prog (tiOf Try.prog) env6 [(5, [0, 3, 4], 1)] 0 Try.f11.results.toList some 200 (at_ Try.f11 5) (S11_5 a0 n g x4) = T11_5 (fun r => some (.ret (F.str r))) (fun a0 n g x4 => some (.cut (at_ Try.f11 5) (S11_5 a0 n g x4))) a0 n g x4 := by kernel_rfl
    rw [e]
    exact (good_sel h (fun _ h => (good_sel h (fun _ h => (good_sel h (fun _ h => (good_sel h (fun _ h => (good_sel h (fun _ h => (good_sel h (fun _ h => good_cut (t11_5 k _ _ _ _ r h)) (fun _ h => nomatch h))) (fun _ h => nomatch h))) (fun _ h => nomatch h))) (fun _ h => nomatch h))) (fun _ h => nomatch h))) (fun _ h => (good_sel h (fun _ h => (good_sel h (fun _ h => good_ret (by cases h; rfl)) (fun _ h => nomatch h))) (fun _ h => nomatch h))))
theorem t11 (k : Nat) (a0 : ByteArray) (r : ByteArray) (h : G11 k a0 = some r) : Ends Try.prog Try.f11.results.toList [.code (bodyOf Try.f11)] (start Try.f11.ntmps ([F.str a0].map .f)) (F.str r) := by
  refine Ends.of_run tyOK env6_ok (T := [(5, [0, 3, 4], 1)]) (n := 200) ?_
  have e : run Try.prog (tiOf Try.prog) env6 [(5, [0, 3, 4], 1)] 0 Try.f11.results.toList some 200 [.code (bodyOf Try.f11)] (start Try.f11.ntmps ([F.str a0].map .f)) = T11 (fun r => some (.ret (F.str r))) (fun a0 n g x4 => some (.cut (at_ Try.f11 5) (S11_5 a0 n g x4))) a0 := by kernel_rfl
  rw [e]
  exact (good_sel h (fun _ h => good_ret (by cases h; rfl)) (fun _ h => good_cut (t11_5 k _ _ _ _ r h)))
/-! ### function 12 -/
def S12_5 (a0 : ByteArray) (n : Nat) (g : Nat → F) (x9 : Int) : St := ⟨[(U.f (F.str a0)), .bad, .bad, (U.hs 0 n 0 n), .bad, .bad, .bad, .bad, .bad, (U.f (F.int .i64 x9)), .bad, .bad, .bad, .bad, .bad, .bad, .bad, .bad, .bad, .bad, .bad, .bad, .bad, .bad, .bad, .bad], [HO.arr 1 n g]⟩
def T12_5 {ρ : Type} (ret : (ByteArray) → Option ρ) (c5 : (ByteArray) → (Nat) → (Nat → F) → (Int) → Option ρ) (a0 : ByteArray) (n : Nat) (g : Nat → F) (x9 : Int) : Option ρ :=
  (bsel (decide (x9 < 9))
   (bsel (decide (0 ≤ IntKind.i64.wrap (IntKind.i64.wrap (x9.tmod 3 * 3) + IntKind.i64.wrap (x9.tdiv 3))))
    (bsel (decide (IntKind.i64.wrap (IntKind.i64.wrap (x9.tmod 3 * 3) + IntKind.i64.wrap (x9.tdiv 3)) < (↑a0.size : Int)))
     (bsel (decide (n = n))
      (bsel (decide (n = n))
       (bsel (decide ((↑(n + 1) : Int) * (((1 : Nat) : Int) + 1) ≤ (↑limit : Int)))
        (c5 (a0) (n + 1) (fun j ↦ if j < n then g j else F.int IntKind.u8 (byteAt a0 (IntKind.i64.wrap (IntKind.i64.wrap (x9.tmod 3 * 3) + IntKind.i64.wrap (x9.tdiv 3))))) (IntKind.i64.wrap (x9 + 1)))
        none)
       none)
      none)
     none)
    none)
   (bsel (decide (n = n))
    (bsel ((List.range n).all fun i ↦ isU8 (offF 0 g i))
     (ret (bytesOfF n (offF 0 g)))
     none)
    none))
def L12_5 : Nat → (ByteArray) → (Nat) → (Nat → F) → (Int) → Option (ByteArray)
  | 0, _, _, _, _ => none
  | k + 1, a0, n, g, x9 => T12_5 some (L12_5 k) a0 n g x9
def T12 {ρ : Type} (ret : (ByteArray) → Option ρ) (c5 : (ByteArray) → (Nat) → (Nat → F) → (Int) → Option ρ) (a0 : ByteArray) : Option ρ :=
  (bsel (!matV a0)
   (ret ({ data := #[] }))
   (c5 (a0) (0) (lget []) (0)))
def G12 (k : Nat) (a0 : ByteArray) : Option (ByteArray) := T12 some (L12_5 k) a0
theorem t12_5 : ∀ (k : Nat) (a0 : ByteArray) (n : Nat) (g : Nat → F) (x9 : Int) (r : ByteArray), L12_5 k a0 n g x9 = some r → Ends Try.prog Try.f12.results.toList (at_ Try.f12 5) (S12_5 a0 n g x9) (F.str r)
  | 0, _, _, _, _, _, h => nomatch h
  | k + 1, a0, n, g, x9, r, h => by
    refine Ends.of_cut tyOK env6_ok (T := [(5, [0, 3, 9], 1)]) (n := 200) ?_
    have e : runCut Try.prog (tiOf Try.prog) env6 [(5, [0, 3, 9], 1)] 0 Try.f12.results.toList some 200 (at_ Try.f12 5) (S12_5 a0 n g x9) = T12_5 (fun r => some (.ret (F.str r))) (fun a0 n g x9 => some (.cut (at_ Try.f12 5) (S12_5 a0 n g x9))) a0 n g x9 := by kernel_rfl
    rw [e]
    exact (good_sel h (fun _ h => (good_sel h (fun _ h => (good_sel h (fun _ h => (good_sel h (fun _ h => (good_sel h (fun _ h => (good_sel h (fun _ h => good_cut (t12_5 k _ _ _ _ r h)) (fun _ h => nomatch h))) (fun _ h => nomatch h))) (fun _ h => nomatch h))) (fun _ h => nomatch h))) (fun _ h => nomatch h))) (fun _ h => (good_sel h (fun _ h => (good_sel h (fun _ h => good_ret (by cases h; rfl)) (fun _ h => nomatch h))) (fun _ h => nomatch h))))
theorem t12 (k : Nat) (a0 : ByteArray) (r : ByteArray) (h : G12 k a0 = some r) : Ends Try.prog Try.f12.results.toList [.code (bodyOf Try.f12)] (start Try.f12.ntmps ([F.str a0].map .f)) (F.str r) := by
  refine Ends.of_run tyOK env6_ok (T := [(5, [0, 3, 9], 1)]) (n := 200) ?_
  have e : run Try.prog (tiOf Try.prog) env6 [(5, [0, 3, 9], 1)] 0 Try.f12.results.toList some 200 [.code (bodyOf Try.f12)] (start Try.f12.ntmps ([F.str a0].map .f)) = T12 (fun r => some (.ret (F.str r))) (fun a0 n g x9 => some (.cut (at_ Try.f12 5) (S12_5 a0 n g x9))) a0 := by kernel_rfl
  rw [e]
  exact (good_sel h (fun _ h => good_ret (by cases h; rfl)) (fun _ h => good_cut (t12_5 k _ _ _ _ r h)))
theorem bytesOfF_congr {n : Nat} {g g' : Nat → F} (h : ∀ j, j < n → g j = g' j) : bytesOfF n g = bytesOfF n g' := by
  unfold bytesOfF
  congr 2
  refine List.map_congr_left fun i hi => ?_
  rw [h i (List.mem_range.1 hi)]
def tb (m : ByteArray) (j : Nat) : Int := byteAt m ((3 * (j % 3) + j / 3 : Nat) : Int)
def transV (m : ByteArray) : ByteArray := bif matV m then bytesOfF 9 (fun j => F.int .u8 (tb m j)) else { data := #[] }
theorem place11 : ∀ i : Nat, i < 9 → IntKind.i64.wrap (IntKind.i64.wrap (3 * (i : Int).tmod 3) + IntKind.i64.wrap ((i : Int).tdiv 3)) = ((3 * (i % 3) + i / 3 : Nat) : Int) := by decide +kernel
theorem place12 : ∀ i : Nat, i < 9 → IntKind.i64.wrap (IntKind.i64.wrap ((i : Int).tmod 3 * 3) + IntKind.i64.wrap ((i : Int).tdiv 3)) = ((3 * (i % 3) + i / 3 : Nat) : Int) := by decide +kernel
theorem limit_ge : ∀ n : Nat, n < 9 → decide ((↑(n + 1) : Int) * (1 + 1) ≤ (↑limit : Int)) = true := by
  intro n hn
  have : (limit : Int) = 17592186044416 := limit_eq
  rw [this]
  simp; omega
theorem L11_all (m : ByteArray) (hm : m.size = 9) : ∀ (d i : Nat) (g : Nat → F), i + d = 9 → (∀ j, j < i → g j = F.int .u8 (tb m j)) → L11_5 (d + 1) m i g i = some (bytesOfF 9 (fun j => F.int .u8 (tb m j)))
  | 0, i, g, h, hg => by
    obtain rfl : i = 9 := by omega
    have hall : ((List.range 9).all fun i => isU8 (offF 0 g i)) = true := List.all_eq_true.2 fun j hj => by
      rw [offF_app, Nat.zero_add, hg j (List.mem_range.1 hj)]; rfl
    have hb : bytesOfF 9 (offF 0 g) = bytesOfF 9 (fun j => F.int .u8 (tb m j)) := bytesOfF_congr fun j hj => by rw [offF_app, Nat.zero_add]; exact hg j hj
    simp only [L11_5, T11_5]
    have c1 : decide (((9 : Nat) : Int) < 9) = false := by decide
    rw [c1, hall, hb]
    rfl
  | d + 1, i, g, h, hg => by
    have hi : i < 9 := by omega
    have hp := place11 i hi
    have hlt : 3 * (i % 3) + i / 3 < 9 := by omega
    have hw : IntKind.i64.wrap ((i : Int) + 1) = ((i + 1 : Nat) : Int) := by rw [wrap_i64 (by omega) (by omega)]; omega
    have ih := L11_all m hm d (i + 1) (fun j => if j < i then g j else F.int .u8 (byteAt m ((3 * (i % 3) + i / 3 : Nat) : Int))) (by omega) (fun j hj => by
      by_cases hji : j < i
      · rw [if_pos hji]; exact hg j hji
      · obtain rfl : j = i := by omega
        rw [if_neg hji]; rfl)
    rw [L11_5]
    simp only [T11_5, hp, hw, ih]
    have c1 : decide ((i : Int) < 9) = true := by simp; omega
    have c2 : decide (0 ≤ ((3 * (i % 3) + i / 3 : Nat) : Int)) = true := decide_eq_true (by omega)
    have c3 : decide (((3 * (i % 3) + i / 3 : Nat) : Int) < (m.size : Int)) = true := by rw [hm]; exact decide_eq_true (by omega)
    have c5 := limit_ge i hi
    rw [c1, c2, c3]
    simp only [bsel_true, decide_true]
    exact (congrArg (fun c => bsel c _ _) c5).trans rfl
theorem L12_all (m : ByteArray) (hm : m.size = 9) : ∀ (d i : Nat) (g : Nat → F), i + d = 9 → (∀ j, j < i → g j = F.int .u8 (tb m j)) → L12_5 (d + 1) m i g i = some (bytesOfF 9 (fun j => F.int .u8 (tb m j)))
  | 0, i, g, h, hg => by
    obtain rfl : i = 9 := by omega
    have hall : ((List.range 9).all fun i => isU8 (offF 0 g i)) = true := List.all_eq_true.2 fun j hj => by
      rw [offF_app, Nat.zero_add, hg j (List.mem_range.1 hj)]; rfl
    have hb : bytesOfF 9 (offF 0 g) = bytesOfF 9 (fun j => F.int .u8 (tb m j)) := bytesOfF_congr fun j hj => by rw [offF_app, Nat.zero_add]; exact hg j hj
    simp only [L12_5, T12_5]
    have c1 : decide (((9 : Nat) : Int) < 9) = false := by decide
    rw [c1, hall, hb]
    rfl
  | d + 1, i, g, h, hg => by
    have hi : i < 9 := by omega
    have hp := place12 i hi
    have hlt : 3 * (i % 3) + i / 3 < 9 := by omega
    have hw : IntKind.i64.wrap ((i : Int) + 1) = ((i + 1 : Nat) : Int) := by rw [wrap_i64 (by omega) (by omega)]; omega
    have ih := L12_all m hm d (i + 1) (fun j => if j < i then g j else F.int .u8 (byteAt m ((3 * (i % 3) + i / 3 : Nat) : Int))) (by omega) (fun j hj => by
      by_cases hji : j < i
      · rw [if_pos hji]; exact hg j hji
      · obtain rfl : j = i := by omega
        rw [if_neg hji]; rfl)
    rw [L12_5]
    simp only [T12_5, hp, hw, ih]
    have c1 : decide ((i : Int) < 9) = true := by simp; omega
    have c2 : decide (0 ≤ ((3 * (i % 3) + i / 3 : Nat) : Int)) = true := decide_eq_true (by omega)
    have c3 : decide (((3 * (i % 3) + i / 3 : Nat) : Int) < (m.size : Int)) = true := by rw [hm]; exact decide_eq_true (by omega)
    have c5 := limit_ge i hi
    rw [c1, c2, c3]
    simp only [bsel_true, decide_true]
    exact (congrArg (fun c => bsel c _ _) c5).trans rfl
theorem G11_eq (m : ByteArray) : G11 10 m = some (transV m) := by
  unfold G11 T11 transV
  cases h : matV m with
  | false => rfl
  | true =>
    have hm : m.size = 9 := by
      unfold matV at h
      simp only [Bool.and_eq_true, decide_eq_true_eq] at h
      exact h.1
    have := L11_all m hm 9 0 (lget []) (by omega) (fun j hj => by omega)
    exact this
theorem G12_eq (m : ByteArray) : G12 10 m = some (transV m) := by
  unfold G12 T12 transV
  cases h : matV m with
  | false => rfl
  | true =>
    have hm : m.size = 9 := by
      unfold matV at h
      simp only [Bool.and_eq_true, decide_eq_true_eq] at h
      exact h.1
    have := L12_all m hm 9 0 (lget []) (by omega) (fun j hj => by omega)
    exact this
def res11 : List F → F | [.str s] => .str (transV s) | _ => .bool false
theorem ok11 : PureOK Try.prog 11 pre9 res11 :=
  fn_pure (c := bodyOf Try.f11) Try.func11 (by kernel_rfl) (by kernel_rfl) fun xs hp => match xs, hp with
  | [.str s], hp => t11 10 s _ (G11_eq s)
theorem ok12 : PureOK Try.prog 12 pre9 res11 :=
  fn_pure (c := bodyOf Try.f12) Try.func12 (by kernel_rfl) (by kernel_rfl) fun xs hp => match xs, hp with
  | [.str s], hp => t12 10 s _ (G12_eq s)
def env7 : Env := fun f => match f with | 11 => .pure pre9 res11 | 12 => .pure pre9 res11 | _ => .none
theorem env7_ok : EnvOK Try.prog env7 := by
  intro f
  unfold env7
  split
  · exact ok11
  · exact ok12
  · trivial
end
end Go.Proofs.Ythldemeodnlhbaa.R
