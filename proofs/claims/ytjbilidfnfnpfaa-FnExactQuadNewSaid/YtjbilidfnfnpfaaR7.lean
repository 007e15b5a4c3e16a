/-
  The own reflective walk, part 7: slice expressions, make, numbers, strings, comparisons.
-/
import Derived.Test.YtjbilidfnfnpfaaR6
namespace Go.Proofs.Ytjbilidfnfnpfaa.R
open Go
set_option linter.unusedVariables false
set_option linter.unusedSimpArgs false

section
variable {P : Program} {w : World} {Z : Nat → Prop} {m : Nat → Nat} {H : List HO} {ty : TypeId → Option TI} {ρ : Type} {r : ρ} {st : St} {K : U → St → Option ρ}

def OptRep (w : World) (Z : Nat → Prop) (m : Nat → Nat) (H : List HO) : Option U → Option Value → Prop
  | none, none => True
  | some u, some v => RepU w Z m H u v
  | _, _ => False

theorem bnd_run {lo : Option U} {vlo : Option Value} (hr : OptRep w Z m H lo vlo) {d l : Int} (hb : bnd lo d = some l) (y : Nat) (h0 : 0 ≤ l) (h1 : l ≤ y) :
    (vlo = none ∧ l = d) ∨ ∃ v, vlo = some v ∧ ∀ code, (Instr.sliceBound v y code).run P w = .ok l.toNat w := by
  cases lo with
  | none =>
    cases vlo with
    | none => simp only [bnd, Option.some.injEq] at hb; exact .inl ⟨rfl, hb.symm⟩
    | some v => exact hr.elim
  | some u =>
    cases vlo with
    | none => exact hr.elim
    | some v =>
      right
      refine ⟨v, rfl, ?_⟩
      unfold bnd at hb
      split at hb
      · rename_i heq; cases heq
      · rename_i k i heq
        cases heq
        cases hb
        cases hr with
        | f _ _ hr => cases hr with
          | int => simp [Instr.sliceBound, asIntOf, h0, h1]
      · cases hb

theorem run_bounds {lo hi : Option U} {vlo vhi : Option Value} (hlo : OptRep w Z m H lo vlo) (hhi : OptRep w Z m H hi vhi) {len cap : Nat} {l h : Int} (isSlice : Bool)
    (bl : bnd lo 0 = some l) (bh : bnd hi len = some h) (h0 : 0 ≤ l) (h1 : l ≤ h) (h2 : h ≤ len) (h3 : len ≤ cap) :
    (Instr.sliceBounds isSlice len cap vlo vhi none).run P w = .ok (l.toNat, h.toNat, cap) w := by
  unfold Instr.sliceBounds
  simp only [Sem.run_bind, Sem.run_pure, Result.andThen]
  have hh : 0 ≤ h := by omega
  rcases bnd_run (P := P) (w := w) hhi bh cap hh (by omega) with ⟨rfl, e⟩ | ⟨v, rfl, e⟩
  · subst e
    rcases bnd_run (P := P) (w := w) hlo bl len h0 (by omega) with ⟨rfl, e2⟩ | ⟨v2, rfl, e2⟩
    · subst e2; simp
    · simp [e2]
  · rcases bnd_run (P := P) (w := w) hlo bl h.toNat h0 (by omega) with ⟨rfl, e2⟩ | ⟨v2, rfl, e2⟩
    · subst e2; simp [e]
    · simp [e, e2]

theorem run_bounds0 {lo hi : Option U} {vlo vhi : Option Value} {vm : Value} (hlo : OptRep w Z m H lo vlo) (hhi : OptRep w Z m H hi vhi) {k : IntKind} (hm : RepU w Z m H (.f (.int k 0)) vm) {len cap : Nat} (isSlice : Bool)
    (bl : bnd lo 0 = some 0) (bh : bnd hi len = some 0) (hn : hi.isSome = true) :
    (Instr.sliceBounds isSlice len cap vlo vhi (some vm)).run P w = .ok (0, 0, 0) w := by
  unfold Instr.sliceBounds
  cases hm with
  | f _ _ hm => cases hm with
  | int =>
  have em : ∀ code, (Instr.sliceBound (.int k 0) cap code).run P w = .ok 0 w := fun code => by simp [Instr.sliceBound, asIntOf]
  simp only [Sem.run_bind, em, Result.andThen]
  rcases bnd_run (P := P) (w := w) hhi bh 0 (Int.le_refl _) (Int.le_refl _) with ⟨rfl, e⟩ | ⟨v, rfl, e⟩
  · cases hi with
    | none => cases hn
    | some u => exact hhi.elim
  · rcases bnd_run (P := P) (w := w) hlo bl 0 (Int.le_refl _) (Int.le_refl _) with ⟨rfl, e2⟩ | ⟨v2, rfl, e2⟩
    · simp [e]
    · simp [e, e2]

/-- A slice expression with all three bounds wants its upper one. -/
theorem slice_sound (hty : TyOK P ty) (hH : HOK w Z m st.heap) {t : TypeId} {x : U} {vx : Value} {lo hi mx : Option U} {vlo vhi vmx : Option Value} (hx : RepU w Z m st.heap x vx)
    (hlo : OptRep w Z m st.heap lo vlo) (hhi : OptRep w Z m st.heap hi vhi) (hmx : OptRep w Z m st.heap mx vmx) (h : evSlice ty t x lo hi mx st K = some r) :
    ∃ u, K u st = some r ∧ ∃ v, (Instr.sliceAt t vx vlo vhi vmx).run P w = .ok v w ∧ RepU w Z m st.heap u v := by
  unfold evSlice at h
  split at h
  · cases h
  · rename_i ti hti
    obtain ⟨d, hd, hu⟩ := under_of (hty.2 _ _ hti)
    split at h
    · -- strings
      rename_i s huk
      rw [huk] at hu
      obtain rfl := ukOf_str hu.symm
      split at h
      · rename_i l h' bl bh
        replace h := bsel_some h; obtain ⟨h1, h⟩ := h
        replace h := bsel_some h; obtain ⟨h2, h⟩ := h
        replace h := bsel_some h; obtain ⟨h3, h⟩ := h
        have h1 := of_decide_eq_true h1
        have h2 := of_decide_eq_true h2
        have h3 := of_decide_eq_true h3
        cases vmx with
        | some _ => exact hmx.elim
        | none =>
        cases hx with
        | f _ _ hx => cases hx with
        | str =>
        refine ⟨_, h, .string (s.extract l.toNat h'.toNat), ?_, .f _ _ (.str _)⟩
        simp only [Instr.sliceAt, Instr.slice, Sem.run_bind, run_under hd, Result.andThen, Option.isSome_none, Bool.false_eq_true, if_false, Sem.run_pure,
          run_bounds hlo hhi (cap := s.size) false bl bh h1 h2 h3 (Nat.le_refl _)]
      · cases h
    · -- frozen ones
      rename_i e n g huk
      rw [huk] at hu
      obtain rfl := ukOf_slice hu.symm
      split at h
      · rename_i te l h' hte bl bh
        replace h := bsel_some h; obtain ⟨h1, h⟩ := h
        replace h := bsel_some h; obtain ⟨h2, h⟩ := h
        replace h := bsel_some h; obtain ⟨h3, h⟩ := h
        replace h := bsel_some h; obtain ⟨h4, h⟩ := h
        have h1 := of_decide_eq_true h1
        have h2 := of_decide_eq_true h2
        have h3 := of_decide_eq_true h3
        simp only [Bool.or_eq_true, decide_eq_true_eq] at h4
        cases vmx with
        | some _ => exact hmx.elim
        | none =>
        cases hx with
        | f _ _ hx => cases hx with
        | sl _ _ A c sz a V hc hs hk hA hV hr =>
        refine ⟨_, h, .slice (if c = l.toNat then A else A.map (·.add (l.toNat * te.size))) (h'.toNat - l.toNat) (c - l.toNat), ?_, ?_⟩
        · simp only [Instr.sliceAt, Instr.slice, Sem.run_bind, run_under hd, Result.andThen, Sem.run_pure, run_bounds hlo hhi (cap := c) true bl bh h1 h2 h3 hc, run_size (hty.2 _ _ hte)]
        · refine .f _ _ (.sl _ _ _ _ sz ⟨a.block, a.off + l.toNat * sz, none⟩ (fun q => V (l.toNat * sz + q)) (by omega) (fun i hi => hs _ (by omega)) (fun i j u hi hu => hk _ _ _ (by omega) hu) (fun hne => ?_) (fun i j u hi hu => ?_) fun i j u hi hu => ?_)
          · obtain ⟨rfl, hz, hsp⟩ := hA (by omega)
            rw [if_neg (by omega)]
            refine ⟨?_, hz, rfl⟩
            simp only [Option.map_some]
            have : l.toNat * te.size = l.toNat * sz := by
              rcases h4 with (h4 | h4) | h4
              · rw [← h4, hs _ (by omega)]
              · omega
              · rw [h4]; simp
            rw [this, add_zero_addr a hsp]
          · have := hV (l.toNat + i) j u (by omega) hu
            rw [Nat.add_mul] at this
            simpa [Nat.add_assoc] using this
          · have := hr (l.toNat + i) j u (by omega) hu
            rw [Nat.add_mul] at this
            simpa [Nat.add_assoc] using this
      · rename_i te k l h' hte bl bh
        replace h := bsel_some h; obtain ⟨hn, h⟩ := h
        replace h := bsel_some h; obtain ⟨h1, h⟩ := h
        replace h := bsel_some h; obtain ⟨h2, h⟩ := h
        obtain rfl := of_decide_eq_true h1
        obtain rfl := of_decide_eq_true h2
        cases vmx with
        | none => exact hmx.elim
        | some vm =>
        cases hx with
        | f _ _ hx => cases hx with
        | sl _ _ A c sz a V hc hs hk hA hV hr =>
        refine ⟨_, h, .slice (if (0 : Nat) = 0 then A else A.map (·.add (0 * te.size))) (0 - 0) (0 - 0), ?_, .nils _⟩
        simp only [Instr.sliceAt, Instr.slice, Sem.run_bind, run_under hd, Result.andThen, Sem.run_pure, run_bounds0 hlo hhi hmx (cap := c) true bl bh hn, run_size (hty.2 _ _ hte)]
      · cases h
    · -- own ones
      rename_i e o gen off len huk
      rw [huk] at hu
      obtain rfl := ukOf_slice hu.symm
      split at h
      · rename_i sz n g te hob hte
        replace h := bsel_some h; obtain ⟨hgen, h⟩ := h
        replace h := bsel_some h; obtain ⟨hsz, h⟩ := h
        have hgen := of_decide_eq_true hgen
        have hsz := of_decide_eq_true hsz
        cases hx with
        | hs _ _ _ _ _ hone ho hg hv =>
        obtain ⟨hle, A, c, rfl, hc, hA, hcap⟩ := hv _ _ _ hob hgen
        split at h
        · rename_i l h' bl bh
          replace h := bsel_some h; obtain ⟨h1, h⟩ := h
          replace h := bsel_some h; obtain ⟨h2, h⟩ := h
          replace h := bsel_some h; obtain ⟨h3, h⟩ := h
          have h1 := of_decide_eq_true h1
          have h2 := of_decide_eq_true h2
          have h3 := of_decide_eq_true h3
          cases vmx with
          | some _ => exact hmx.elim
          | none =>
          refine ⟨_, h, .slice (if c = l.toNat then A else A.map (·.add (l.toNat * te.size))) (h'.toNat - l.toNat) (c - l.toNat), ?_, ?_⟩
          · simp only [Instr.sliceAt, Instr.slice, Sem.run_bind, run_under hd, Result.andThen, Sem.run_pure, run_bounds hlo hhi (cap := c) true bl bh h1 h2 h3 hc, run_size (hty.2 _ _ hte)]
          · refine .hs _ _ _ _ _ rfl ho hg fun sz' n' g' e1 e2 => ?_
            rw [hob] at e1; cases e1
            refine ⟨by omega, _, _, rfl, by omega, fun hne => ?_, ?_⟩
            · rw [if_neg (by omega), hA (by omega)]
              simp only [Option.map_some, add_of, ← hsz, Nat.add_mul]
            · have : off + l.toNat + (c - l.toNat) = off + c := by omega
              rw [this]; exact hcap
        · rename_i k l h' bl bh
          replace h := bsel_some h; obtain ⟨hn, h⟩ := h
          replace h := bsel_some h; obtain ⟨h1, h⟩ := h
          replace h := bsel_some h; obtain ⟨h2, h⟩ := h
          obtain rfl := of_decide_eq_true h1
          obtain rfl := of_decide_eq_true h2
          cases vmx with
          | none => exact hmx.elim
          | some vm =>
          refine ⟨_, h, .slice (if (0 : Nat) = 0 then A else A.map (·.add (0 * te.size))) (0 - 0) (0 - 0), ?_, .nils _⟩
          simp only [Instr.sliceAt, Instr.slice, Sem.run_bind, run_under hd, Result.andThen, Sem.run_pure, run_bounds0 hlo hhi hmx (cap := c) true bl bh hn, run_size (hty.2 _ _ hte)]
        · cases h
      · cases h
    · -- empty ones
      rename_i e huk
      rw [huk] at hu
      obtain rfl := ukOf_slice hu.symm
      cases hx with
      | nils A =>
      split at h
      · rename_i te l h' hte bl bh
        replace h := bsel_some h; obtain ⟨h1, h⟩ := h
        replace h := bsel_some h; obtain ⟨h2, h⟩ := h
        obtain rfl := of_decide_eq_true h1
        obtain rfl := of_decide_eq_true h2
        cases vmx with
        | some _ => exact hmx.elim
        | none =>
        refine ⟨_, h, .slice (if (0 : Nat) = 0 then A else A.map (·.add (0 * te.size))) (0 - 0) (0 - 0), ?_, .nils _⟩
        simp only [Instr.sliceAt, Instr.slice, Sem.run_bind, run_under hd, Result.andThen, Sem.run_pure, run_bounds hlo hhi (len := 0) (cap := 0) true bl bh (Int.le_refl _) (Int.le_refl _) (Int.le_refl _) (Nat.le_refl _), run_size (hty.2 _ _ hte)]
        simp
      · rename_i te k l h' hte bl bh
        replace h := bsel_some h; obtain ⟨hn, h⟩ := h
        replace h := bsel_some h; obtain ⟨h1, h⟩ := h
        replace h := bsel_some h; obtain ⟨h2, h⟩ := h
        obtain rfl := of_decide_eq_true h1
        obtain rfl := of_decide_eq_true h2
        cases vmx with
        | none => exact hmx.elim
        | some vm =>
        refine ⟨_, h, .slice (if (0 : Nat) = 0 then A else A.map (·.add (0 * te.size))) (0 - 0) (0 - 0), ?_, .nils _⟩
        simp only [Instr.sliceAt, Instr.slice, Sem.run_bind, run_under hd, Result.andThen, Sem.run_pure, run_bounds0 hlo hhi hmx (len := 0) (cap := 0) true bl bh hn, run_size (hty.2 _ _ hte)]
      · cases h
    · cases h
end
end Go.Proofs.Ytjbilidfnfnpfaa.R
