/-
  The own reflective walk, part 11: composite literals, conversions, copy.
-/
import Derived.Test.YtjbilidfnfnpfaaR10
namespace Go.Proofs.Ytjbilidfnfnpfaa.R
open Go
set_option linter.unusedVariables false
set_option linter.unusedSimpArgs false

section
variable {P : Program} {w : World} {Z : Nat → Prop} {m : Nat → Nat} {H : List HO} {ty : TypeId → Option TI} {ρ : Type} {r : ρ} {st : St} {K : U → St → Option ρ}

theorem foldl_zipIdx (vs : List Value) : ∀ (k : Nat) (off : Nat) (cells : Array Value), ((vs.zipIdx k).foldl (fun cs (x : Value × Nat) => cs.setIfInBounds (off + x.2) x.1) cells).toList = wr cells.toList (off + k) vs := by
  induction vs with
  | nil => intro k off cells; rfl
  | cons v vs ih =>
    intro k off cells
    simp only [List.zipIdx_cons, List.foldl_cons, wr]
    rw [ih]
    rw [Array.toList_setIfInBounds, Nat.add_assoc]

theorem fill_cells (vs : Array Value) (off : Nat) (cells : Array Value) :
    (vs.zipIdx.foldl (fun cs (x : Value × Nat) => cs.setIfInBounds (off + x.2) x.1) cells).toList = wr cells.toList off vs.toList := by
  have := foldl_zipIdx vs.toList 0 off cells
  rw [← Array.foldl_toList]
  simpa using this

/-- Lists of cells, one of the walk and one of values. -/
def RepUs (w : World) (Z : Nat → Prop) (m : Nat → Nat) (H : List HO) (us : List U) (vs : List Value) : Prop := us.length = vs.length ∧ ∀ (j : Nat) (u : U) (v : Value), us[j]? = some u → vs[j]? = some v → RepU w Z m H u v
def RepParts (w : World) (Z : Nat → Prop) (m : Nat → Nat) (H : List HO) : List (Nat × U) → List (Nat × Value) → Prop
  | [], [] => True
  | (i, u) :: us, (j, v) :: vs => i = j ∧ RepU w Z m H u v ∧ RepParts w Z m H us vs
  | _, _ => False

theorem wr_reps {cs : List U} {vs : List Value} (h : RepUs w Z m H cs vs) {xs : List U} {ys : List Value} (hx : RepUs w Z m H xs ys) {off : Nat} (hin : off + xs.length ≤ cs.length) : RepUs w Z m H (setUs cs off xs) (wr vs off ys) := by
  refine ⟨by simp [setUs_length, wr_length, h.1], fun j u v hu hv => ?_⟩
  rw [setUs_get _ _ _ _ hin] at hu
  rw [wr_get _ _ _ _ (by rw [← hx.1, ← h.1]; exact hin)] at hv
  rw [← hx.1] at hv
  split at hu
  · rename_i hc; rw [if_pos hc] at hv; exact hx.2 _ _ _ hu hv
  · rename_i hc; rw [if_neg hc] at hv; exact h.2 _ _ _ hu hv

theorem reps_cells {u : U} {v : Value} (h : RepU w Z m H u v) (ha : u.cells.all cellU = true) : RepUs w Z m H u.cells v.cells.toList := by
  obtain ⟨a, b, c⟩ := cellsAll_rep h ha
  refine ⟨by simpa using a, fun j x y hx hy => ?_⟩
  obtain ⟨y', hy', hr⟩ := b j x hx
  have : y' = y := by
    have e : v.cells.toList[j]? = v.cells[j]? := by simp
    rw [e, hy'] at hy; exact Option.some.inj hy
  exact this ▸ hr

theorem fill_sound (place : Nat → Option (Nat × Nat)) : ∀ (ps : List (Nat × U)) (qs : List (Nat × Value)) (cs cs' : List U) (vs : Array Value), RepParts w Z m H ps qs → RepUs w Z m H cs vs.toList →
    fillU place cs ps = some cs' → ∃ vs', Instr.fill place vs qs = some vs' ∧ RepUs w Z m H cs' vs'.toList
  | [], [], cs, cs', vs, _, hc, h => by
    simp only [fillU, Option.some.injEq] at h
    subst h
    exact ⟨vs, rfl, hc⟩
  | (i, u) :: ps, (j, v) :: qs, cs, cs', vs, hp, hc, h => by
    obtain ⟨rfl, hu, hp⟩ := hp
    simp only [fillU] at h
    split at h
    · cases h
    · rename_i off size hpl
      split at h
      · rename_i hcond
        obtain ⟨h1, h2, h3⟩ := hcond
        have hcells := reps_cells hu h3
        have hvs : v.cells.size = size := by have := hcells.1; simp at this; omega
        have hlv : cs.length = vs.size := by simpa using hc.1
        have hrec := fill_sound place ps qs (setUs cs off u.cells) cs' (v.cells.zipIdx.foldl (fun cs (x : Value × Nat) => cs.setIfInBounds (off + x.2) x.1) vs) hp (by
          rw [fill_cells]; exact wr_reps hc hcells (by omega)) h
        obtain ⟨vs', e1, e2⟩ := hrec
        refine ⟨vs', ?_, e2⟩
        simp only [Instr.fill, hpl]
        rw [if_neg (by simp [hvs]; omega)]
        exact e1
      · cases h
  | [], _ :: _, _, _, _, hp, _, _ => hp.elim
  | _ :: _, [], _, _, _, hp, _, _ => hp.elim

theorem placesOf_run (hty : TyOK P ty) : ∀ (fs : List Field) (ps : List (Nat × Nat)), placesOf ty (fs.map fun f => (f.offset, f.type)) = some ps →
    (fs.mapM (m := Sem) fun f => do pure (f.offset, ← sizeOf f.type)).run P w = .ok ps w
  | [], ps, h => by simp only [List.map_nil, placesOf, Option.some.injEq] at h; subst h; simp
  | f :: fs, ps, h => by
    simp only [List.map_cons, placesOf] at h
    split at h
    · rename_i ti ps' hti hps
      cases h
      have ih := placesOf_run hty fs ps' hps
      rw [List.mapM_cons]
      simp only [Sem.run_bind, run_size (hty.2 _ _ hti), Result.andThen, Sem.run_pure, ih]
    · cases h

theorem cv_reps (zs : List Value) : RepUs w Z m H (zs.map cv) zs := ⟨by simp, fun j u v hu hv => by
  rw [List.getElem?_map, hv] at hu; cases hu; exact cv_rep _⟩

theorem build_sound (hty : TyOK P ty) {t : TypeId} {ps : List (Nat × U)} {qs : Array (Nat × Value)} (hp : RepParts w Z m st.heap ps qs.toList) (h : evBuild ty t ps st K = some r) :
    ∃ u, K u st = some r ∧ ∃ v, (Instr.build t qs).run P w = .ok v w ∧ RepU w Z m st.heap u v := by
  unfold evBuild at h
  split at h
  · rename_i ti hti
    obtain ⟨d, hd, hu⟩ := under_of (hty.2 _ _ hti)
    obtain ⟨z, hz, hzc⟩ := run_zero (hty.2 _ _ hti) w
    split at h
    · rename_i fs huk
      rw [huk] at hu
      obtain ⟨fa, rfl, rfl⟩ := ukOf_struct hu.symm
      split at h
      · rename_i pl hpl
        split at h
        · rename_i cs hcs
          obtain ⟨vs', e1, e2⟩ := fill_sound (pl[·]?) ps qs.toList (ti.zero.map cv) cs z.cells hp (by rw [hzc]; exact cv_reps _) hcs
          refine ⟨_, h, .agg vs', ?_, .agg _ _ e2.1 e2.2⟩
          have hpr := placesOf_run (w := w) hty _ _ hpl
          have hpr' : (fa.mapM (m := Sem) fun f => do pure (f.offset, ← sizeOf f.type)).run P w = .ok pl.toArray w := by
            rw [← Array.toArray_toList (xs := fa)]
            rw [List.mapM_toArray]
            simp only [Sem.run_map, hpr, Result.andThen]
          simp only [Instr.build, Sem.run_bind, hz, Result.andThen, run_under hd, Sem.run_pure]
          have hg : ∀ i : Nat, pl.toArray[i]? = pl[i]? := by intro i; simp
          simp only [Sem.run_bind, Sem.run_pure, hpr', Result.andThen, hg, e1]
        · cases h
      · cases h
    · rename_i n e huk
      rw [huk] at hu
      obtain rfl := ukOf_array hu.symm
      split at h
      · rename_i te hte
        split at h
        · rename_i cs hcs
          obtain ⟨vs', e1, e2⟩ := fill_sound _ ps qs.toList (ti.zero.map cv) cs z.cells hp (by rw [hzc]; exact cv_reps _) hcs
          refine ⟨_, h, .agg vs', ?_, .agg _ _ e2.1 e2.2⟩
          simp only [Instr.build, Sem.run_bind, hz, Result.andThen, run_under hd, Sem.run_pure, run_size (hty.2 _ _ hte), e1]
        · cases h
      · cases h
    · cases h
  · cases h
end
end Go.Proofs.Ytjbilidfnfnpfaa.R
