/-
  The walk of the reader of drawn bytes: segments, as many as drawn.
-/
import Derived.Test.YtjbilidfnfnpfaaD12
namespace Go.Proofs.Ytjbilidfnfnpfaa.R
open Go
noncomputable section
set_option linter.unusedVariables false
set_option linter.unusedSimpArgs false
theorem segs_loopR {s : ByteArray} {x6 : Int} (hx : x6 ≤ 1000) : ∀ (d n : Nat) (p : Int) (g : Nat → F), (0 ≤ x6 → (n : Int) + d = x6) → (x6 < 0 → n = 0 ∧ d = 0) → rdOk s p = true → isSegs (.sl n g) = true →
    ∃ (n1 : Nat) (g1 : Nat → F) (q : Int), L68_4 (d + 1) s p n g x6 n = some (n1, g1, q) ∧ rdOk s q = true ∧ isSegs (.sl n1 g1) = true
  | 0, n, p, g, h, h', hr, hg => by
    obtain ⟨g1, q, e, k1, k2⟩ := segs_end (x6 := x6) hr n (unSegs (.sl n g)) (by omega) (fun h6 => by omega) (L68_4 0)
    refine ⟨n, g1, q, ?_, k1, k2⟩
    rw [L68_4, hg, bsel_true]
    exact e
  | d + 1, n, p, g, h, h', hr, hg => by
    have h6 : 0 ≤ x6 := by omega
    obtain ⟨q, g1, ⟨k1, k2⟩, e⟩ := segs_step (x6 := x6) hr n (unSegs (.sl n g)) (by omega) hx (fun rn rg q => some (rn, rg, q)) (L68_4 (d + 1))
    obtain ⟨n2, g2, q2, e2, m1, m2⟩ := segs_loopR hx d (n + 1) q g1 (fun _ => by omega) (fun _ => by omega) k1 k2
    refine ⟨n2, g2, q2, ?_, m1, m2⟩
    rw [L68_4, hg, bsel_true]
    exact e.trans e2
def isSmall : List F → Bool
  | [.int .i64 mx] => decide (0 ≤ mx ∧ mx ≤ 100)
  | _ => false
theorem segs_okR {s : ByteArray} {p mx : Int} (h : rdOk s p = true) (hm : 0 ≤ mx ∧ mx ≤ 100) : ∃ (r : List Sg × Int) (n : Nat) (g : Nat → F) (k : Nat), G68 k s p mx = some (n, g, r.2) ∧ rdOk s r.2 = true ∧ FLe (.sl n g) (segsF r.1) := by
  obtain ⟨b1, b2, b3, b4⟩ := below_ok h (mx + 1)
  have e1 : IntKind.i64.wrap (mx + 1) = mx + 1 := wrapi (by omega) (by omega)
  obtain ⟨n, g, q, e, k1, k2⟩ := segs_loopR (s := s) (x6 := (belowV s p (mx + 1)).1) (by omega) (belowV s p (mx + 1)).1.toNat 0 (belowV s p (mx + 1)).2 (lget []) (fun _ => by omega) (fun _ => by omega) b4 rfl
  refine ⟨(unSegs (.sl n g), q), n, g, (belowV s p (mx + 1)).1.toNat + 1, ?_, k1, (segs_eqv k2).1⟩
  unfold G68 T68
  simp only [unBytes_bytesF, isBytes_bytesF, h, e1, Bool.and_self, bsel_true]
  exact e
def segsV (s : ByteArray) (p mx : Int) : List Sg × Int := @dite _ (rdOk s p = true ∧ (0 ≤ mx ∧ mx ≤ 100)) (Classical.propDecidable _) (fun h => Classical.choose (segs_okR h.1 h.2)) fun _ => ([], 0)
theorem segs_ok {s : ByteArray} {p mx : Int} (h : rdOk s p = true) (hm : 0 ≤ mx ∧ mx ≤ 100) : ∃ (n : Nat) (g : Nat → F) (k : Nat), G68 k s p mx = some (n, g, (segsV s p mx).2) ∧ rdOk s (segsV s p mx).2 = true ∧ FLe (.sl n g) (segsF (segsV s p mx).1) := by
  have e : segsV s p mx = Classical.choose (segs_okR h hm) := @dif_pos _ (Classical.propDecidable _) ⟨h, hm⟩ _ _ _
  rw [e]
  exact Classical.choose_spec (segs_okR h hm)
def resSegs : List F → ByteArray → Int → F × Int
  | [.int .i64 mx], s, p => (segsF (segsV s p mx).1, (segsV s p mx).2)
  | _, _, p => (.dflt, p)
theorem okSegs : SpOK Try.prog 68 (rdSp isSmall resSegs) :=
  ok_rd (c := bodyOf Try.f68) Try.func68 (by kernel_rfl) (by kernel_rfl) fun xs s p hx hr => match xs, hx with
  | [.int .i64 mx], hx => by
    obtain ⟨n, g, k, e, _, hle⟩ := segs_ok hr (of_decide_eq_true hx)
    exact ⟨_, hle, t68 k s p mx _ _ _ e⟩
def envD13 : Env := envD11.add 68 (rdSp isSmall resSegs)
theorem envD13_ok : EnvOK Try.prog envD13 := Env.add_ok envD11_ok okSegs
end
end Go.Proofs.Ytjbilidfnfnpfaa.R
