/-
  The own reflective walk, part 27: slices as lists, of elements that are read up to what they tell.
-/
import Derived.Test.YtjbilidfnfnpfaaR24
namespace Go.Proofs.Ytjbilidfnfnpfaa.R
open Go
set_option linter.unusedVariables false
set_option linter.unusedSimpArgs false

/-- Both tell the same. -/
def FSame (x y : F) : Prop := FLe x y ∧ FLe y x
theorem FSame.refl (x : F) : FSame x x := ⟨.refl x, .refl x⟩
theorem FSame.symm {x y : F} (h : FSame x y) : FSame y x := ⟨h.2, h.1⟩
theorem FLe.trans {x y z : F} (h : FLe x y) (k : FLe y z) : FLe x z := fun w Z v hv => k w Z v (h w Z v hv)

/-- Elements that tell no more, cell by cell. -/
structure ElLe (x y : F) : Prop where
  cells : FsLe x.cells y.cells
  cell : (∀ u ∈ x.cells, cellF u = true) → ∀ u ∈ y.cells, cellF u = true
theorem ElLe.refl (x : F) : ElLe x x := ⟨.refl _, fun h => h⟩

theorem FLe.slEl {n : Nat} {g g' : Nat → F} (h : ∀ j, j < n → ElLe (g j) (g' j)) : FLe (.sl n g) (.sl n g') := by
  intro w Z v hv
  cases hv with
  | sl _ _ A c sz a V hc hs hk hA hV hr =>
    have hget : ∀ (i j : Nat) (u : F), i < n → (g' i).cells[j]? = some u → ∃ x, (g i).cells[j]? = some x ∧ FLe x u := fun i j u hi hu => (h i hi).cells.get.2 j u hu
    refine .sl n g' A c sz a V hc (fun i hi => by rw [← (h i hi).cells.get.1]; exact hs i hi) (fun i j u hi hu => ?_) hA (fun i j u hi hu => ?_) (fun i j u hi hu => ?_)
    · refine (h i hi).cell (fun u hu => ?_) u (List.mem_of_getElem? hu)
      obtain ⟨k, hk'⟩ := List.getElem?_of_mem hu
      exact hk i k u hi hk'
    · obtain ⟨x, hx, _⟩ := hget i j u hi hu
      exact hV i j x hi hx
    · obtain ⟨x, hx, hle⟩ := hget i j u hi hu
      exact hle _ _ _ (hr i j x hi hx)

/-- Slices of elements that are read up to what they tell. -/
theorem slF_eqv' {α : Type} {enc : α → F} {un : F → α} {is : F → Bool} {d : α} (h : ∀ x, is x = true → ElLe x (enc (un x)) ∧ ElLe (enc (un x)) x) {x : F} (hx : isSl is x = true) : FLe x (slF enc d (unSl un x)) ∧ FLe (slF enc d (unSl un x)) x := by
  cases x with
  | sl n g =>
    simp only [isSl, List.all_eq_true, List.mem_range] at hx
    have e : ∀ j, j < n → (unSl un (.sl n g)).getD j d = un (g j) := fun j hj => by simp [unSl, List.getD, hj]
    have hl := unSl_len un n g
    unfold slF
    rw [hl]
    exact ⟨FLe.slEl fun j hj => by rw [e j hj]; exact (h _ (hx j hj)).1, FLe.slEl fun j hj => by rw [e j hj]; exact (h _ (hx j hj)).2⟩
  | _ => simp [isSl] at hx
theorem FLe.agg {xs ys : List F} (h : FsLe xs ys) : FLe (.agg xs) (.agg ys) := by
  intro w Z v hv
  cases hv with
  | agg _ vs hl hr =>
    obtain ⟨h1, h2⟩ := h.get
    refine .agg ys vs (by rw [← h1]; exact hl) fun j y v hy hv => ?_
    obtain ⟨x, hx, hle⟩ := h2 j y hy
    exact hle _ _ _ (hr j x v hx hv)
theorem ElLe.agg {xs ys : List F} (h : FsLe xs ys) (hc : (∀ u ∈ xs, cellF u = true) → ∀ u ∈ ys, cellF u = true) : ElLe (.agg xs) (.agg ys) := ⟨h, hc⟩
end Go.Proofs.Ytjbilidfnfnpfaa.R
