/-
  The own reflective walk, part 4: loads, stores, addresses, as the model runs them.
-/
import Derived.Test.YtjbilidfnfnpfaaR3
namespace Go.Proofs.Ytjbilidfnfnpfaa.R
open Go

section
variable {P : Program} {w : World} {Z : Nat → Prop} {m : Nat → Nat} {H : List HO}

theorem tiOf_parts {t : TypeId} {ti : TI} (h : tiOf P t = some ti) : ∃ d i z, P.underlying t = some d ∧ P.info? t = some i ∧ i.zero = some z ∧ ti = ⟨ukOf d, i.size, i.bytes, z.cells.toList⟩ := by
  unfold tiOf at h
  split at h
  · rename_i d i hd hi
    split at h
    · rename_i z hz; exact ⟨d, i, z, hd, hi, hz, (Option.some.inj h).symm⟩
    · cases h
  · cases h

theorem run_under {t : TypeId} {d : TypeDesc} (h : P.underlying t = some d) (w : World) : (underlying t).run P w = .ok d w := by
  unfold underlying; simp [h]
theorem run_size {t : TypeId} {ti : TI} (h : tiOf P t = some ti) (w : World) : (sizeOf t).run P w = .ok ti.size w := by
  obtain ⟨d, i, z, hd, hi, hz, rfl⟩ := tiOf_parts h
  unfold sizeOf typeInfo; simp [hi]
theorem run_info {t : TypeId} {ti : TI} (h : tiOf P t = some ti) (w : World) : ∃ i, (typeInfo t).run P w = .ok i w ∧ i.size = ti.size ∧ i.bytes = ti.bytes := by
  obtain ⟨d, i, z, hd, hi, hz, rfl⟩ := tiOf_parts h
  exact ⟨i, by unfold typeInfo; simp [hi], rfl, rfl⟩
theorem run_zero {t : TypeId} {ti : TI} (h : tiOf P t = some ti) (w : World) : ∃ z, (zeroValue t).run P w = .ok z w ∧ z.cells.toList = ti.zero := by
  obtain ⟨d, i, z, hd, hi, hz, rfl⟩ := tiOf_parts h
  exact ⟨z, by unfold zeroValue typeInfo; simp [hi, hz], rfl⟩
theorem run_agg {t : TypeId} {ti : TI} (h : tiOf P t = some ti) (w : World) : (isAgg t).run P w = .ok ti.isAgg w := by
  obtain ⟨d, i, z, hd, hi, hz, rfl⟩ := tiOf_parts h
  unfold isAgg
  simp only [Sem.run_bind, run_under hd, Result.andThen]
  cases d <;> simp [TI.isAgg, ukOf]

theorem cv_rep (v : Value) : RepU w Z m H (cv v) v := by
  unfold cv
  split
  · exact .f _ _ (.bool _)
  · exact .f _ _ (.int _ _)
  · exact .f _ _ (.str _)
  · exact .nils _
  · exact .nilp
  · exact .nilfn
  · exact .bad _

/-- Cells of a value of the walk are those of the value. -/
theorem cells_rep {u : U} {v : Value} (h : RepU w Z m H u v) (hu : ∀ o k, u = .hp o k → v.oneCell' = true) :
    u ≠ .bad → u ≠ .undef → (∀ us, u ≠ .tup us) → (∀ xs, u ≠ .f (.tup xs)) → u.cells.length = v.cells.size ∧ ∀ (j : Nat) (x : U), u.cells[j]? = some x → ∃ y, v.cells[j]? = some y ∧ RepU w Z m H x y := by
  intro h1 h2 h3 h4
  cases h with
  | f x v h =>
    cases h with
    | agg cs vs hl hr =>
      simp only [U.cells, Value.cells, List.length_map]
      refine ⟨by simpa using hl, fun j x hx => ?_⟩
      rw [List.getElem?_map] at hx
      cases hc : cs[j]? with
      | none => rw [hc] at hx; cases hx
      | some y =>
        rw [hc] at hx
        cases hx
        have hj := (List.getElem?_eq_some_iff.1 hc).1
        exact ⟨vs[j]'(by omega), by simp [show j < vs.length by omega], .f _ _ (hr j y _ hc (List.getElem?_eq_getElem (by omega)))⟩
    | tup cs vs hl hr => exact absurd rfl (h4 cs)
    | bool b => exact ⟨rfl, fun j x hx => by cases j with | zero => cases hx; exact ⟨_, rfl, .f _ _ (.bool b)⟩ | succ j => simp [U.cells] at hx⟩
    | int k n => exact ⟨rfl, fun j x hx => by cases j with | zero => cases hx; exact ⟨_, rfl, .f _ _ (.int k n)⟩ | succ j => simp [U.cells] at hx⟩
    | str s => exact ⟨rfl, fun j x hx => by cases j with | zero => cases hx; exact ⟨_, rfl, .f _ _ (.str s)⟩ | succ j => simp [U.cells] at hx⟩
    | sl n g A c sz a V hc hs hk hA hV hr => exact ⟨rfl, fun j x hx => by cases j with | zero => cases hx; exact ⟨_, rfl, .f _ _ (.sl n g A c sz a V hc hs hk hA hV hr)⟩ | succ j => simp [U.cells] at hx⟩
  | agg cs vs hl hr =>
    simp only [U.cells, Value.cells]
    refine ⟨by simpa using hl, fun j x hx => ?_⟩
    have hj := (List.getElem?_eq_some_iff.1 hx).1
    exact ⟨vs[j]'(by omega), by simp [show j < vs.length by omega], hr j x _ hx (List.getElem?_eq_getElem (by omega))⟩
  | tup cs vs hl hr => exact absurd rfl (h3 cs)
  | undef => exact absurd rfl h2
  | bad => exact absurd rfl h1
  | hs o gen off len v h1' ho hg hv =>
    have hc : v.cells = #[v] := by cases v <;> simp_all [Value.cells, Value.oneCell']
    rw [hc]
    exact ⟨rfl, fun j x hx => by cases j with | zero => cases hx; exact ⟨_, rfl, .hs o gen off len v h1' ho hg hv⟩ | succ j => simp [U.cells] at hx⟩
  | hp o off v h1' ho hv =>
    have hc : v.cells = #[v] := by cases v <;> simp_all [Value.cells, Value.oneCell']
    rw [hc]
    exact ⟨rfl, fun j x hx => by cases j with | zero => cases hx; exact ⟨_, rfl, .hp o off v h1' ho hv⟩ | succ j => simp [U.cells] at hx⟩
  | ep o gen i off v h1' ho hg hv =>
    have hc : v.cells = #[v] := by cases v <;> simp_all [Value.cells, Value.oneCell']
    rw [hc]
    exact ⟨rfl, fun j x hx => by cases j with | zero => cases hx; exact ⟨_, rfl, .ep o gen i off v h1' ho hg hv⟩ | succ j => simp [U.cells] at hx⟩
  | va cs a hZ V hV hr => exact ⟨rfl, fun j x hx => by cases j with | zero => cases hx; exact ⟨_, rfl, .va cs a hZ V hV hr⟩ | succ j => simp [U.cells] at hx⟩
  | nilp => exact ⟨rfl, fun j x hx => by cases j with | zero => cases hx; exact ⟨_, rfl, .nilp⟩ | succ j => simp [U.cells] at hx⟩
  | nils A => exact ⟨rfl, fun j x hx => by cases j with | zero => cases hx; exact ⟨_, rfl, .nils A⟩ | succ j => simp [U.cells] at hx⟩
  | fn f us vs hl hr => exact ⟨rfl, fun j x hx => by cases j with | zero => cases hx; exact ⟨_, rfl, .fn f us vs hl hr⟩ | succ j => simp [U.cells] at hx⟩
  | nilfn => exact ⟨rfl, fun j x hx => by cases j with | zero => cases hx; exact ⟨_, rfl, .nilfn⟩ | succ j => simp [U.cells] at hx⟩

theorem one_cells {v : Value} (h : v.oneCell' = true) : v.cells = #[v] := by cases v <;> simp_all [Value.cells, Value.oneCell']

/-- Reading a variable whose cells are known. -/
theorem run_loadVar_cells {t : TypeId} {ti : TI} (ht : tiOf P t = some ti) {a : Addr} (vs : List Value) (hl : vs.length = ti.size) (h : ∀ j v, vs[j]? = some v → w.cell? (a.add j) = some v)
    (h1 : (ti.isAgg || ti.size == 1) = true) : (loadVar t a).run P w = .ok (if ti.isAgg then .agg vs.toArray else vs.headD undef) w := by
  unfold loadVar
  simp only [Sem.run_bind, run_agg ht, Result.andThen]
  cases hag : ti.isAgg with
  | true =>
    simp only [if_true, Sem.run_bind, run_size ht, Result.andThen]
    rw [← hl, run_loadCells_list w a vs h]
    rfl
  | false =>
    rw [hag] at h1
    simp only [Bool.false_or, beq_iff_eq] at h1
    rw [h1] at hl
    match vs, hl with
    | [v], _ =>
      have := h 0 v rfl
      simp only [Addr.add, if_true] at this
      simp [this]

theorem add_zero_addr (a : Addr) (h : a.spot = none) (j : Nat) : a.add j = ⟨a.block, a.off + j, none⟩ := by
  cases a with
  | mk b o s => simp only at h; subst h; exact add_of b o j

theorem getD_drop_take {α : Type} (cs : List α) (off n j : Nat) : ((cs.drop off).take n)[j]? = if j < n then cs[off + j]? else none := by
  rw [List.getElem?_take]
  split
  · rw [List.getElem?_drop]
  · rfl

theorem load_sound {ρ : Type} {r : ρ} {t : TypeId} {ti : TI} (ht : tiOf P t = some ti) {st : St} (hH : HOK w Z m st.heap) {x : U} {vx : Value} (hx : RepU w Z m st.heap x vx) {K : U → St → Option ρ}
    (h : evLoad ti x st K = some r) : ∃ u, K u st = some r ∧ ∃ v, (Instr.loadAt t vx).run P w = .ok v w ∧ RepU w Z m st.heap u v := by
  unfold evLoad at h
  split at h
  · -- a box
    rename_i o off
    split at h
    · rename_i cs hob
      replace h := bsel_some h; obtain ⟨h1, h⟩ := h
      replace h := bsel_some h; obtain ⟨h2, h⟩ := h
      have h1 := of_decide_eq_true h1
      cases hx with
      | hp _ _ _ hone ho hv =>
        obtain rfl := hv cs hob
        obtain ⟨c, el, fr, hb, hf, hsz, hr⟩ := hH.ob o _ hob
        have hlen : ((c.toList.drop off).take ti.size).length = ti.size := by simp; omega
        have hrun := run_loadVar_cells (w := w) (a := ⟨m o, off, none⟩) ht _ hlen (fun j v hj => by
          rw [getD_drop_take] at hj
          split at hj
          · rw [add_of]
            simp only [World.cell?, hb]
            simpa using hj
          · cases hj) h2
        refine ⟨_, h, _, by simp only [Instr.loadAt, Instr.sureAddr, pure_bind]; exact hrun, ?_⟩
        have hreps : ∀ (j : Nat) (u : U) (v : Value), ((cs.drop off).take ti.size)[j]? = some u → ((c.toList.drop off).take ti.size)[j]? = some v → RepU w Z m st.heap u v := by
          intro j u v hu hv
          rw [getD_drop_take] at hu hv
          split at hu
          · rename_i hj
            rw [if_pos hj] at hv
            obtain ⟨v', hv', hr'⟩ := hr _ _ hu
            have : v' = v := by
              have e : c.toList[off + j]? = c[off + j]? := by simp
              rw [e, hv'] at hv
              exact Option.some.inj hv
            exact this ▸ hr'
          · cases hu
        have hlen2 : ((cs.drop off).take ti.size).length = ti.size := by simp; omega
        unfold mkU
        split
        · exact .agg _ _ (by rw [hlen, hlen2]) hreps
        · rename_i hag
          simp only [hag, Bool.false_or, beq_iff_eq] at h2
          generalize (cs.drop off).take ti.size = l1 at *
          generalize (c.toList.drop off).take ti.size = l2 at *
          rw [h2] at hlen hlen2
          match l1, l2, hlen, hlen2 with
          | [u], [v], _, _ => exact hreps 0 u v rfl rfl
    · cases h
  · -- an element that is frozen
    rename_i cs
    replace h := bsel_some h; obtain ⟨h1, h⟩ := h
    replace h := bsel_some h; obtain ⟨h2, h⟩ := h
    replace h := bsel_some h; obtain ⟨hz, h⟩ := h
    have h1 := of_decide_eq_true h1
    simp only [Bool.and_eq_true, beq_iff_eq] at hz
    rw [coCells_eq _ _ (by rw [hz.1]; exact h1) hz.2, hz.1] at h
    cases hx with
    | va _ a hZ V hV hr =>
      have hlen : ((List.range ti.size).map V).length = ti.size := by simp
      have hlen2 : (cs.take ti.size).length = ti.size := by simp; omega
      have hcell : ∀ (j : Nat) (v : Value), ((List.range ti.size).map V)[j]? = some v → w.cell? (a.add j) = some v := by
        intro j v hj
        rw [List.getElem?_map] at hj
        have hjl : j < ti.size := by
          rcases Nat.lt_or_ge j ti.size with hh | hh
          · exact hh
          · rw [List.getElem?_eq_none (by simpa using hh)] at hj; cases hj
        rw [List.getElem?_range hjl] at hj
        cases hj
        have hne : cs ≠ [] := by rintro rfl; simp at h1; omega
        rw [add_zero_addr a (hZ hne).2]
        exact hV j cs[j] (List.getElem?_eq_getElem (by omega))
      have hrun := run_loadVar_cells (w := w) (a := a) ht _ hlen hcell h2
      refine ⟨_, h, _, by simp only [Instr.loadAt, Instr.sureAddr, pure_bind]; exact hrun, ?_⟩
      have hreps : ∀ (j : Nat) (u : F) (v : Value), (cs.take ti.size)[j]? = some u → ((List.range ti.size).map V)[j]? = some v → RepF w Z u v := by
        intro j u v hu hv
        rw [List.getElem?_take] at hu
        split at hu
        · rename_i hj
          rw [List.getElem?_map, List.getElem?_range hj] at hv
          cases hv
          exact hr j u hu
        · cases hu
      unfold mkF
      split
      · exact .f _ _ (.agg _ _ (by rw [hlen, hlen2]) hreps)
      · rename_i hag
        simp only [hag, Bool.false_or, beq_iff_eq] at h2
        generalize cs.take ti.size = l1 at *
        generalize (List.range ti.size).map V = l2 at *
        rw [h2] at hlen hlen2
        match l1, l2, hlen, hlen2 with
        | [u], [v], _, _ => exact .f _ _ (hreps 0 u v rfl rfl)
  · -- an element of an own row
    rename_i o gen i off
    split at h
    · rename_i sz n g hob
      replace h := bsel_some h; obtain ⟨h1, h⟩ := h
      replace h := bsel_some h; obtain ⟨h2, h⟩ := h
      replace h := bsel_some h; obtain ⟨h3, h⟩ := h
      replace h := bsel_some h; obtain ⟨h4, h⟩ := h
      replace h := bsel_some h; obtain ⟨h5, h⟩ := h
      replace h := bsel_some h; obtain ⟨hz, h⟩ := h
      have h1 := of_decide_eq_true h1
      have h2 := of_decide_eq_true h2
      have h3 := of_decide_eq_true h3
      have h4 := of_decide_eq_true h4
      simp only [Bool.and_eq_true, beq_iff_eq] at hz
      rw [coCells_eq _ _ (by rw [hz.1, List.length_drop]; omega) hz.2, hz.1] at h
      cases hx with
      | ep _ _ _ _ _ hone ho hg hv =>
        obtain rfl := hv _ _ _ hob h1
        obtain ⟨h0, c, el, fr, hb, hf, hsz, hgl, hr⟩ := hH.ob o _ hob
        have hin : i * sz + off + ti.size ≤ c.toList.length := by
          have : (i + 1) * sz ≤ n * sz := Nat.mul_le_mul_right _ h2
          rw [Nat.add_mul] at this
          simp; omega
        have hlen : ((c.toList.drop (i * sz + off)).take ti.size).length = ti.size := by simp at hin ⊢; omega
        have hlen2 : (((g i).cells.drop off).take ti.size).length = ti.size := by simp; omega
        have hrun := run_loadVar_cells (w := w) (a := ⟨m o, i * sz + off, none⟩) ht _ hlen (fun j v hj => by
          rw [getD_drop_take] at hj
          split at hj
          · rw [add_of]
            simp only [World.cell?, hb]
            simpa using hj
          · cases hj) h5
        refine ⟨_, h, _, by simp only [Instr.loadAt, Instr.sureAddr, pure_bind]; exact hrun, ?_⟩
        have hreps : ∀ (j : Nat) (u : F) (v : Value), (((g i).cells.drop off).take ti.size)[j]? = some u → ((c.toList.drop (i * sz + off)).take ti.size)[j]? = some v → RepF w Z u v := by
          intro j u v hu hv
          rw [getD_drop_take] at hu hv
          split at hu
          · rename_i hj
            rw [if_pos hj] at hv
            obtain ⟨_, v', hv', hr'⟩ := hr i _ _ h2 hu
            have : v' = v := by
              have e : c.toList[i * sz + off + j]? = c[i * sz + (off + j)]? := by simp [Nat.add_assoc]
              rw [e, hv'] at hv
              exact Option.some.inj hv
            exact this ▸ hr'
          · cases hu
        unfold mkF
        split
        · exact .f _ _ (.agg _ _ (by rw [hlen, hlen2]) hreps)
        · rename_i hag
          simp only [hag, Bool.false_or, beq_iff_eq] at h5
          generalize ((g i).cells.drop off).take ti.size = l1 at *
          generalize (c.toList.drop (i * sz + off)).take ti.size = l2 at *
          rw [h5] at hlen hlen2
          match l1, l2, hlen, hlen2 with
          | [u], [v], _, _ => exact .f _ _ (hreps 0 u v rfl rfl)
    · cases h
  · cases h
end
end Go.Proofs.Ytjbilidfnfnpfaa.R
