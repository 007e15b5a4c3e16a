/-
  The own reflective walk, part 28: answers whose slice is the caller's own; slices that are lent.
-/
import Derived.Test.YtjbilidfnfnpfaaR24
namespace Go.Proofs.Ytjbilidfnfnpfaa.R
open Go
set_option linter.unusedVariables false
set_option linter.unusedSimpArgs false

section
variable {P : Program} {w : World} {Z : Nat → Prop} {m : Nat → Nat} {H : List HO}

/-- What is handed back tells no less. -/
inductive OwnLe : F → F → Prop
  | nil : OwnLe (.tup []) (.tup [])
  | obj (k : IntKind) (sz : Int) (n : Nat) (g g' : Nat → F) (h : ∀ j, j < n → g j = g' j) : OwnLe (.tup [.int k sz, .sl n g]) (.tup [.int k sz, .sl n g'])
  | dat (x : F) (h : cellF x = true) : OwnLe x x
def OwnsLe : List F → List F → Prop
  | [], [] => True
  | x :: xs, y :: ys => OwnLe x y ∧ OwnsLe xs ys
  | _, _ => False

theorem isScal_get {n : Nat} {g : Nat → F} (h : isScal n g = true) {i : Nat} (hi : i < n) : scal0 (g i) = true := by
  unfold isScal at h
  exact List.all_eq_true.1 h i (List.mem_range.2 hi)
theorem scal0s_get : ∀ (cs : List F), scal0s cs = true → ∀ (j : Nat) (u : F), cs[j]? = some u → scal0 u = true
  | [], _, j, u, hu => by simp at hu
  | c :: cs, h, j, u, hu => by
    simp only [scal0s, Bool.and_eq_true] at h
    cases j with
    | zero => simp at hu; exact hu ▸ h.1
    | succ j => simp at hu; exact scal0s_get cs h.2 j u hu
theorem scal0_cells {x : F} (h : scal0 x = true) {j : Nat} {u : F} (hu : x.cells[j]? = some u) : scal0 u = true := by
  cases x with
  | agg cs => exact scal0s_get cs (by simpa [scal0] using h) j u hu
  | _ =>
    cases j with
    | zero => simp [F.cells] at hu; rw [← hu]; exact h
    | succ j => simp [F.cells] at hu
theorem RepF.scal0_any {w w' : World} {Z Z' : Nat → Prop} {x : F} {v : Value} (h : RepF w Z x v) : scal0 x = true → RepF w' Z' x v := by
  induction h with
  | bool b => intro _; exact .bool b
  | int k n => intro _; exact .int k n
  | str s => intro _; exact .str s
  | sl n g A c sz a V hc hs hk hA hV hr ih =>
    intro h
    have h0 : n = 0 := Nat.eq_of_beq_eq_true (by simpa [scal0] using h)
    subst h0
    exact .sl 0 g A c sz a V hc hs hk (fun h => absurd rfl h) (fun i j u hi => by omega) (fun i j u hi => by omega)
  | agg cs vs hl hr ih => intro h; exact .agg cs vs hl fun j u v hu hv => ih j u v hu hv (scal0s_get cs (by simpa [scal0] using h) j u hu)
  | tup cs vs hl hr ih => intro h; simp [scal0] at h

/-- The answers' objects: at most one, and which. -/
theorem ownL_get : ∀ (us : List U) (es : List F), ownL H us = some es → us.length = es.length ∧ ∀ (j : Nat) (u : U), us[j]? = some u → ∃ e, es[j]? = some e ∧ own1 H u = some e
  | [], es, h => by simp only [ownL, Option.some.injEq] at h; subst h; exact ⟨rfl, fun j u hu => by simp at hu⟩
  | u :: us, es, h => by
    simp only [ownL] at h
    split at h
    · rename_i x xs hx hxs
      cases h
      obtain ⟨h1, h2⟩ := ownL_get us xs hxs
      refine ⟨by simp [h1], fun j v hv => ?_⟩
      cases j with
      | zero => simp at hv; subst hv; exact ⟨x, rfl, hx⟩
      | succ j => simp at hv; obtain ⟨e, h3, h4⟩ := h2 j v hv; exact ⟨e, by simpa using h3, h4⟩
    · cases h
theorem ownsLe_get : ∀ {es fs : List F}, OwnsLe es fs → es.length = fs.length ∧ ∀ (j : Nat) (e : F), es[j]? = some e → ∃ f, fs[j]? = some f ∧ OwnLe e f
  | [], [], _ => ⟨rfl, fun j e h => by simp at h⟩
  | x :: xs, y :: ys, h => by
    obtain ⟨h1, h2⟩ := ownsLe_get h.2
    refine ⟨by simp [h1], fun j e he => ?_⟩
    cases j with
    | zero => simp at he; subst he; exact ⟨y, rfl, h.1⟩
    | succ j => simp at he; obtain ⟨f, h3, h4⟩ := h2 j e he; exact ⟨f, by simpa using h3, h4⟩
  | [], _ :: _, h => h.elim
  | _ :: _, [], h => h.elim

theorem obsOf_dat {x : F} (h : cellF x = true) (es : List F) : obsOf (x :: es) = obsOf es := by
  cases x <;> first | rfl | simp [cellF] at h
theorem own_none : ∀ (us : List U) (es fs : List F), ownL H us = some es → OwnsLe es fs → (∀ u ∈ us, ∀ o g f l, u ≠ .hs o g f l) → obsOf fs = []
  | [], es, fs, h, hle, _ => by
    simp only [ownL, Option.some.injEq] at h
    subst h
    cases fs with
    | nil => rfl
    | cons => exact hle.elim
  | u :: us, es, fs, h, hle, hn => by
    simp only [ownL] at h
    split at h
    case h_2 => cases h
    rename_i x xs hx hxs
    cases h
    cases fs with
    | nil => exact hle.elim
    | cons y ys =>
      have ih := own_none us xs ys hxs hle.2 (fun u hu => hn u (by simp [hu]))
      have h1 := hle.1
      cases u with
      | f x' =>
        simp only [own1] at hx
        split at hx
        · rename_i hc
          cases hx
          simp only [Bool.and_eq_true] at hc
          cases h1 with
          | nil => simp [cellF] at hc
          | obj => simp [cellF] at hc
          | dat _ h => rw [obsOf_dat h]; exact ih
        · cases hx
      | nils =>
        simp only [own1, Option.some.injEq] at hx
        subst hx
        cases h1 with
        | nil => exact ih
        | dat _ h => simp [cellF] at h
      | hs o g f l => exact absurd rfl (hn _ (by simp) o g f l)
      | _ => simp [own1] at hx
/-- Either there is no slice in it, or there is one. -/
theorem own_form : ∀ (us : List U) (es fs : List F), (objsAll us).length ≤ 1 → ownL H us = some es → OwnsLe es fs →
    (obsOf fs = [] ∧ ∀ u ∈ us, ∀ o g f l, u ≠ .hs o g f l) ∨
    ∃ o sz n g g', H[o]? = some (.arr sz n g) ∧ isScal n g = true ∧ (∀ j, j < n → g j = g' j) ∧ obsOf fs = [.arr sz n g'] ∧ ∀ u ∈ us, ∀ o1 g1 f1 l1, u = .hs o1 g1 f1 l1 → o1 = o ∧ g1 = n ∧ f1 = 0 ∧ l1 = n
  | [], es, fs, _, h, hle => by
    simp only [ownL, Option.some.injEq] at h
    subst h
    cases fs with
    | nil => exact .inl ⟨rfl, by simp⟩
    | cons => exact hle.elim
  | u :: us, es, fs, hl, h, hle => by
    have h' := h
    simp only [ownL] at h
    split at h
    case h_2 => cases h
    rename_i x xs hx hxs
    cases h
    cases fs with
    | nil => exact hle.elim
    | cons y ys =>
      obtain ⟨h1, h2⟩ := hle
      simp only [objsAll, List.length_append] at hl
      have ih := own_form us xs ys (by omega) hxs h2
      have rest : (∀ o g f l, u ≠ .hs o g f l) → obsOf (y :: ys) = obsOf ys → (obsOf (y :: ys) = [] ∧ ∀ u' ∈ u :: us, ∀ o g f l, u' ≠ .hs o g f l) ∨
          ∃ o sz n g g', H[o]? = some (.arr sz n g) ∧ isScal n g = true ∧ (∀ j, j < n → g j = g' j) ∧ obsOf (y :: ys) = [.arr sz n g'] ∧ ∀ u' ∈ u :: us, ∀ o1 g1 f1 l1, u' = .hs o1 g1 f1 l1 → o1 = o ∧ g1 = n ∧ f1 = 0 ∧ l1 = n := by
        intro hu ho
        rw [ho]
        rcases ih with ⟨a1, a2⟩ | ⟨o, sz, n, g, g', a1, a2, a3, a4, a5⟩
        · refine .inl ⟨a1, fun u' hu' => ?_⟩
          rcases List.mem_cons.1 hu' with rfl | hu'
          · exact hu
          · exact a2 u' hu'
        · refine .inr ⟨o, sz, n, g, g', a1, a2, a3, a4, fun u' hu' => ?_⟩
          rcases List.mem_cons.1 hu' with rfl | hu'
          · exact fun o1 g1 f1 l1 e => absurd e (hu o1 g1 f1 l1)
          · exact a5 u' hu'
      cases u with
      | f x' =>
        simp only [own1] at hx
        split at hx
        · rename_i hc
          cases hx
          simp only [Bool.and_eq_true] at hc
          refine rest (fun o g f l e => by cases e) ?_
          cases h1 with
          | nil => simp [cellF] at hc
          | obj => simp [cellF] at hc
          | dat _ h => exact obsOf_dat h ys
        · cases hx
      | nils =>
        simp only [own1, Option.some.injEq] at hx
        subst hx
        refine rest (fun o g f l e => by cases e) ?_
        cases h1 with
        | nil => rfl
        | dat _ h => simp [cellF] at h
      | hs o gen off len =>
        simp only [own1] at hx
        split at hx
        · rename_i sz n g ho
          split at hx
          · rename_i hc
            obtain ⟨rfl, rfl, rfl, hs⟩ := hc
            cases hx
            have hno : ∀ u ∈ us, ∀ o g f l, u ≠ .hs o g f l := by
              simp only [objs, List.length_singleton] at hl
              have h0 : objsAll us = [] := List.eq_nil_of_length_eq_zero (by omega)
              intro u hu o g f l e
              subst e
              have : o ∈ objsAll us := objsAll_mem us _ o hu (by simp [objs])
              rw [h0] at this; cases this
            have hob := own_none us xs ys hxs h2 hno
            cases h1 with
            | obj _ _ _ _ g' h3 =>
              refine .inr ⟨o, sz, _, g, g', ho, hs, h3, ?_, ?_⟩
              · simp [obsOf, hob]
              · intro u hu o1 g1 f1 l1 e
                rcases List.mem_cons.1 hu with rfl | hu
                · cases e; exact ⟨rfl, rfl, rfl, rfl⟩
                · exact absurd e (hno u hu o1 g1 f1 l1)
            | dat _ h => simp [cellF] at h
          · cases hx
        · cases hx
      | _ => simp [own1] at hx

theorem RepU.zone {Z' : Nat → Prop} (hZ : ∀ b, Z b → Z' b) {u : U} {v : Value} (h : RepU w Z m H u v) : RepU w Z' m H u v := by
  induction h with
  | f x v h => exact .f x v (h.mono hZ fun _ _ => rfl)
  | agg cs vs hl hr ih => exact .agg cs vs hl ih
  | tup cs vs hl hr ih => exact .tup cs vs hl ih
  | hs o gen off len v h1 ho hg hv => exact .hs o gen off len v h1 ho hg hv
  | hp o off v h1 ho hv => exact .hp o off v h1 ho hv
  | ep o gen i off v h1 ho hg hv => exact .ep o gen i off v h1 ho hg hv
  | va cs a hz V hV hr => exact .va cs a (fun hne => ⟨hZ _ (hz hne).1, (hz hne).2⟩) V hV fun j u hu => (hr j u hu).mono hZ fun _ _ => rfl
  | nilp => exact .nilp
  | nils A => exact .nils A
  | fn f us vs hl hr ih => exact .fn f us vs hl ih
  | nilfn => exact .nilfn
  | undef => exact .undef
  | bad v => exact .bad v

theorem oneA_rep {w' : World} {Z' : Nat → Prop} {m' m2 : Nat → Nat} {H2 : List HO} {u : U} {e e' : F} {v : Value} {b : Nat} (hu : RepU w' Z' m' H u v) (he : own1 H u = some e) (hle : OwnLe e e')
    (hobj : ∀ o gen off len, u = .hs o gen off len → ∃ sz g', off = 0 ∧ len = gen ∧ H2[b]? = some (.arr sz gen g') ∧ m2 b = m' o ∧ ∃ g, H[o]? = some (.arr sz gen g)) : RepU w' Z m2 H2 (oneA b e') v := by
  cases u with
  | f x =>
    simp only [own1] at he
    split at he
    · rename_i hc
      have hxe : x = e := Option.some.inj he
      subst hxe
      simp only [Bool.and_eq_true] at hc
      cases hle with
      | nil => simp [cellF] at hc
      | obj => simp [cellF] at hc
      | dat _ h =>
        have key : ∀ y : F, cellF y = true → oneA b y = .f y := fun y h => by cases y <;> first | rfl | simp [cellF] at h
        rw [key _ hc.2]
        cases hu with | f _ _ hr => exact .f _ _ (hr.scal0_any hc.1)
    · cases he
  | nils =>
    simp only [own1, Option.some.injEq] at he
    subst he
    cases hle with
    | nil => cases hu with | nils A => exact .nils A
    | dat _ h => simp [cellF] at h
  | hs o gen off len =>
    obtain ⟨sz, g', rfl, rfl, hb, hm, g, ho⟩ := hobj o gen off len rfl
    simp only [own1, ho] at he
    split at he
    · cases he
      cases hle with
      | obj _ _ _ _ g1 h3 =>
        show RepU w' Z m2 H2 (.hs b len 0 len) v
        cases hu with
        | hs _ _ _ _ _ h1 hk hg hv =>
          obtain ⟨q1, A, c, q2, q3, q4, q5⟩ := hv sz len g ho rfl
          refine .hs b len 0 len v h1 ⟨_, hb, by simp⟩ (fun sz' n' g'' e => ?_) (fun sz' n' g'' e eg => ?_)
          · rw [hb] at e; cases e; exact Nat.le_refl _
          · rw [hb] at e; cases e
            rw [hm]
            exact ⟨q1, A, c, q2, q3, q4, q5⟩
      | dat _ h => simp [cellF] at h
    · cases he
  | _ => simp [own1] at he

/-! Answers with one layer of fields. -/
def Own2 (e f : F) : Prop := isAggF e = isAggF f ∧ OwnsLe e.cells f.cells
def Owns2 : List F → List F → Prop
  | [], [] => True
  | x :: xs, y :: ys => Own2 x y ∧ Owns2 xs ys
  | _, _ => False
theorem Own2.of {e f : F} (h : OwnLe e f) : Own2 e f := by
  cases h with
  | nil => exact ⟨rfl, .nil, trivial⟩
  | obj k sz n g g' h => exact ⟨rfl, .obj k sz n g g' h, trivial⟩
  | dat x h =>
    refine ⟨rfl, ?_⟩
    have : e.cells = [e] := by cases e <;> first | rfl | simp [cellF] at h
    rw [this]
    exact ⟨.dat e h, trivial⟩
theorem Own2.agg {es fs : List F} (h : OwnsLe es fs) : Own2 (.agg es) (.agg fs) := ⟨rfl, h⟩
theorem owns2_get : ∀ {es fs : List F}, Owns2 es fs → es.length = fs.length ∧ ∀ (j : Nat) (e : F), es[j]? = some e → ∃ f, fs[j]? = some f ∧ Own2 e f
  | [], [], _ => ⟨rfl, fun j e h => by simp at h⟩
  | x :: xs, y :: ys, h => by
    obtain ⟨h1, h2⟩ := owns2_get h.2
    refine ⟨by simp [h1], fun j e he => ?_⟩
    cases j with
    | zero => simp at he; subst he; exact ⟨y, rfl, h.1⟩
    | succ j => simp at he; obtain ⟨f, h3, h4⟩ := h2 j e he; exact ⟨f, by simpa using h3, h4⟩
  | [], _ :: _, h => h.elim
  | _ :: _, [], h => h.elim
theorem flatF_cons (e : F) (es : List F) : flatF (e :: es) = e.cells ++ flatF es := by cases e <;> rfl
theorem ownsLe_append : ∀ {a b c d : List F}, OwnsLe a b → OwnsLe c d → OwnsLe (a ++ c) (b ++ d)
  | [], [], _, _, _, h => h
  | _ :: _, _ :: _, _, _, h, h' => ⟨h.1, ownsLe_append h.2 h'⟩
  | [], _ :: _, _, _, h, _ => h.elim
  | _ :: _, [], _, _, h, _ => h.elim
theorem owns2_flat : ∀ {es fs : List F}, Owns2 es fs → OwnsLe (flatF es) (flatF fs)
  | [], [], _ => trivial
  | x :: xs, y :: ys, h => by
    rw [flatF_cons, flatF_cons]
    exact ownsLe_append h.1.2 (owns2_flat h.2)
  | [], _ :: _, h => h.elim
  | _ :: _, [], h => h.elim
theorem ownL_append : ∀ (us vs : List U) (a b : List F), ownL H us = some a → ownL H vs = some b → ownL H (us ++ vs) = some (a ++ b)
  | [], vs, a, b, h, h' => by simp only [ownL, Option.some.injEq] at h; subst h; exact h'
  | u :: us, vs, a, b, h, h' => by
    simp only [ownL] at h
    split at h
    · rename_i x xs hx hxs
      cases h
      simp only [List.cons_append, ownL, hx, ownL_append us vs xs b hxs h']
    · cases h
theorem own1_cells {u : U} {e : F} (h : own1 H u = some e) : isAggF e = false ∧ e.cells = [e] := by
  cases u with
  | f x =>
    simp only [own1] at h
    split at h
    · rename_i hc
      cases h
      simp only [Bool.and_eq_true] at hc
      obtain ⟨_, hc⟩ := hc
      cases e <;> first | exact ⟨rfl, rfl⟩ | simp [cellF] at hc
    · cases h
  | nils => simp only [own1, Option.some.injEq] at h; subst h; exact ⟨rfl, rfl⟩
  | hs o gen off len =>
    simp only [own1] at h
    split at h
    · split at h
      · cases h; exact ⟨rfl, rfl⟩
      · cases h
    · cases h
  | _ => simp [own1] at h
theorem cells_one {u : U} (h : isAggU u = false) : u.cells = [u] := by
  cases u with
  | f x => cases x <;> first | rfl | simp [isAggU] at h
  | agg => simp [isAggU] at h
  | _ => rfl
theorem mk2_cells {u : U} {a : List F} (h : ownL H u.cells = some a) : (mkF (isAggU u) a).cells = a ∧ isAggF (mkF (isAggU u) a) = isAggU u := by
  cases hu : isAggU u with
  | true => exact ⟨rfl, rfl⟩
  | false =>
    rw [cells_one hu] at h
    simp only [ownL] at h
    split at h
    · rename_i x xs hx hxs
      cases h
      simp only [Option.some.injEq] at hxs
      subst hxs
      obtain ⟨h1, h2⟩ := own1_cells hx
      exact ⟨h2, h1⟩
    · cases h
def flatU (us : List U) : List U := (us.map U.cells).flatten
theorem ownG_flat : ∀ (us : List U) (es : List F), ownG H us = some es → ownL H (flatU us) = some (flatF es) ∧ us.length = es.length ∧ ∀ (j : Nat) (u : U), us[j]? = some u → ∃ a, ownL H u.cells = some a ∧ es[j]? = some (mkF (isAggU u) a)
  | [], es, h => by simp only [ownG, Option.some.injEq] at h; subst h; exact ⟨rfl, rfl, fun j u hu => by simp at hu⟩
  | u :: us, es, h => by
    simp only [ownG] at h
    split at h
    · rename_i a r ha hr
      cases h
      obtain ⟨h1, h2, h3⟩ := ownG_flat us r hr
      refine ⟨?_, by simp [h2], fun j v hv => ?_⟩
      · rw [flatF_cons, (mk2_cells ha).1]
        exact ownL_append _ _ _ _ ha h1
      · cases j with
        | zero => simp at hv; subst hv; exact ⟨a, ha, rfl⟩
        | succ j => simp at hv; obtain ⟨b, h4, h5⟩ := h3 j v hv; exact ⟨b, h4, by simpa using h5⟩
    · cases h
theorem objsAll_append : ∀ (us vs : List U), objsAll (us ++ vs) = objsAll us ++ objsAll vs
  | [], vs => rfl
  | u :: us, vs => by simp [objsAll, objsAll_append us vs]
theorem objsAll_f : ∀ cs : List F, objsAll (cs.map U.f) = []
  | [] => rfl
  | c :: cs => by simp [objsAll, objs, objsAll_f cs]
theorem objs_cells (u : U) : objsAll u.cells = objs u ∨ ∃ l, u = .tup l := by
  cases u with
  | f x => cases x <;> first | (left; rfl) | (left; simp [U.cells, objsAll_f, objs])
  | agg l => left; rfl
  | tup l => exact .inr ⟨l, rfl⟩
  | _ => left; simp [U.cells, objsAll, objs]
theorem objsAll_flat : ∀ (us : List U), (objsAll (flatU us)).length ≤ (objsAll us).length
  | [] => Nat.le_refl _
  | u :: us => by
    have ih := objsAll_flat us
    have : flatU (u :: us) = u.cells ++ flatU us := rfl
    rw [this, objsAll_append]
    simp only [objsAll, List.length_append]
    rcases objs_cells u with h | ⟨l, rfl⟩
    · rw [h]; omega
    · have : objsAll (U.tup l).cells = objs (.tup l) := by simp [U.cells, objsAll]
      rw [this]; omega
theorem flatU_mem {us : List U} {u x : U} (hu : u ∈ us) (hx : x ∈ u.cells) : x ∈ flatU us := by
  unfold flatU
  rw [List.mem_flatten]
  exact ⟨u.cells, List.mem_map_of_mem hu, hx⟩
/-- An answer's part, placed. -/
theorem oneU_rep {w' : World} {Z' : Nat → Prop} {m' m2 : Nat → Nat} {H2 : List HO} {u : U} {a : List F} {e' : F} {v : Value} {b : Nat} (hu : RepU w' Z' m' H u v) (ha : ownL H u.cells = some a) (hle : Own2 (mkF (isAggU u) a) e')
    (hobj : ∀ x ∈ u.cells, ∀ o gen off len, x = .hs o gen off len → ∃ sz g', off = 0 ∧ len = gen ∧ H2[b]? = some (.arr sz gen g') ∧ m2 b = m' o ∧ ∃ g, H[o]? = some (.arr sz gen g)) : RepU w' Z m2 H2 (oneU b e') v := by
  obtain ⟨hc, hag⟩ := mk2_cells ha
  obtain ⟨h1, h2⟩ := hle
  rw [hag] at h1
  rw [hc] at h2
  obtain ⟨al, ag⟩ := ownL_get _ _ ha
  obtain ⟨bl, bg⟩ := ownsLe_get h2
  cases hagu : isAggU u with
  | true =>
    rw [hagu] at h1
    cases e' with
    | agg bs =>
      obtain ⟨vs, rfl, hl, hg⟩ : ∃ vs : List Value, v = .agg vs.toArray ∧ u.cells.length = vs.length ∧ ∀ (j : Nat) (x : U) (y : Value), u.cells[j]? = some x → vs[j]? = some y → RepU w' Z' m' H x y := by
        cases hu with
        | f x _ hr =>
          cases hr with
          | agg cs vs hl hr =>
            refine ⟨vs, rfl, by simpa [U.cells] using hl, fun j x y hx hy => ?_⟩
            simp only [U.cells, List.getElem?_map] at hx
            cases hcj : cs[j]? with
            | none => rw [hcj] at hx; cases hx
            | some c => rw [hcj] at hx; cases hx; exact .f _ _ (hr j c y hcj hy)
          | _ => simp [isAggU] at hagu
        | agg cs vs hl hr => exact ⟨vs, rfl, hl, hr⟩
        | _ => simp [isAggU] at hagu
      have hb : bs.length = vs.length := by rw [← hl, al, bl]; rfl
      refine .agg _ vs (by simpa using hb) fun j x y hx hy => ?_
      rw [List.getElem?_map] at hx
      cases he : bs[j]? with
      | none => rw [he] at hx; cases hx
      | some e =>
        rw [he] at hx; cases hx
        have hj := (List.getElem?_eq_some_iff.1 he).1
        have hbl : a.length = bs.length := bl
        have huj : u.cells[j]? = some u.cells[j] := List.getElem?_eq_getElem (by omega)
        obtain ⟨e0, g1, g2⟩ := ag j _ huj
        obtain ⟨e1, g3, g4⟩ := bg j e0 g1
        have : bs[j]? = some e1 := g3
        rw [he] at this; cases this
        exact oneA_rep (hg j _ y huj hy) g2 g4 (hobj _ (List.getElem_mem _))
    | _ => simp [isAggF] at h1
  | false =>
    rw [hagu] at h1
    have hcu := cells_one hagu
    rw [hcu] at ag al hobj
    obtain ⟨e0, g1, g2⟩ := ag 0 u rfl
    obtain ⟨e1, g3, g4⟩ := bg 0 e0 g1
    have he' : e'.cells = [e'] := by cases e' <;> first | rfl | simp [isAggF] at h1
    rw [he'] at g3
    simp at g3
    subst g3
    have : oneU b e' = oneA b e' := by cases e' <;> first | rfl | simp [isAggF] at h1
    rw [this]
    exact oneA_rep hu g2 g4 (hobj u (by simp))

/-- A function whose answer's slice is the caller's own. -/
theorem fn_own {f : FuncId} {fn : Func} {c : Code} (hf : P.funcs[f]? = some fn) (hb : fn.body = some c) (hname : (fn.name == "runtime.NumGoroutine") = false) {pre cnd : List F → Bool} {r1 r2 : List F → F}
    (h : ∀ xs, pre xs = true → ∃ ys es fs, FsLe xs ys ∧ Ends P (.tmp 1000000 :: fn.results.toList) [.code c] (start fn.ntmps (ys.map .f)) (.tup es) ∧ Owns2 es fs ∧ (if cnd xs then r1 xs else r2 xs) = .tup fs) : SpOK P f (.own pre cnd r1 r2) := by
  intro us H slot hslot hp w Z m args hH hL
  simp only [ownPre, ownRes] at hp ⊢
  cases hxs : toFs H us with
  | none => rw [hxs] at hp; cases hp
  | some xs =>
  rw [hxs] at hp
  simp only at hp
  simp only []
  obtain ⟨hl2, hg2⟩ := toFs_get us xs hxs
  obtain ⟨ys, es, fs, hle, h, hes, hfs⟩ := h xs hp
  rw [hfs]
  obtain ⟨hyl, hyg⟩ := hle.get
  let Z1 : Nat → Prop := fun b => Z b ∨ ∃ o, liveAt H o ∧ m o = b
  have hZ1 : ∀ b, Z1 b → b < w.heap.size := by
    rintro b (hb | ⟨o, hlv, rfl⟩)
    · exact hH.zlt b hb
    · exact hH.blk_lt hlv
  refine .inl ⟨by
    have hp : (program).run P w = .ok P w := rfl
    unfold callFunc
    simp only [Sem.run_bind, hp, Result.andThen, hf, hname, hb, Option.isNone_some, Bool.false_eq_true, if_false, Sem.run_pure], fun cs => ?_⟩
  have hlenx : xs.length = args.size := by rw [← hl2]; simpa using hL.1
  have hlen : ys.length = args.size := by rw [← hyl]; exact hlenx
  have hA : AOK w Z1 m (start fn.ntmps (ys.map .f)) { tmps := args ++ Array.replicate (fn.ntmps - args.size) undef, defers := [] } := by
    refine ⟨by simp [start, hlen], fun i u v hu hv => ?_, ?_⟩
    · simp only [start, List.length_map] at hu
      rw [List.getElem?_append] at hu
      rw [Array.getElem?_append] at hv
      simp only [List.length_map] at hu
      split at hu
      · rename_i hi
        rw [if_pos (by omega)] at hv
        rw [List.getElem?_map] at hu
        cases hy : ys[i]? with
        | none => rw [hy] at hu; cases hu
        | some y =>
          rw [hy] at hu; cases hu
          obtain ⟨x, hx, hxy⟩ := hyg i y hy
          have huj : us[i]? = some us[i] := List.getElem?_eq_getElem (by have := (List.getElem?_eq_some_iff.1 hx).1; omega)
          refine .f _ _ (hxy _ _ _ ((toF_rep hH (fun _ _ h => h) (hL.2 i _ v huj (by simpa using hv)) (hg2 i _ x huj hx)).mono ?_ (fun _ _ => rfl)))
          rintro b (hb | ⟨o, _, hlv, rfl⟩)
          · exact .inl hb
          · exact .inr ⟨o, hlv, rfl⟩
      · rename_i hi
        rw [if_neg (by omega)] at hv
        rw [List.getElem?_replicate] at hu
        rw [Array.getElem?_replicate] at hv
        split at hu
        · split at hv
          · cases hu; cases hv; exact .undef
          · cases hv
        · cases hu
    · exact ⟨hZ1, fun o ⟨ob, ho, _⟩ => by simp [start] at ho, fun o o' ⟨ob, ho, _⟩ => by simp [start] at ho, fun o ob ho => by simp [start] at ho⟩
  let b : Frame := { (default : Frame) with fn := f, kind := .normal }
  have henter : Frame.enter P f args .normal = b.at { tmps := args ++ Array.replicate (fn.ntmps - args.size) undef, defers := [] } [.code c] := by
    simp [Frame.enter, Frame.at, hf, hb, b]
  obtain ⟨st', a', w', todo, hk, ⟨hd, Z', m', hA', hE'⟩, hs⟩ := h w Z1 m [] [] _ w Z1 m rfl hA rfl (Ext.refl _ _ _ _) b cs
  have hlive0 : ∀ o, ¬ liveAt ([] : List HO) o := fun o ⟨ob, ho, _⟩ => by simp at ho
  unfold retF at hk
  rw [if_pos (by rfl)] at hk
  simp only [List.tail_cons, retOwn] at hk
  split at hk
  case h_2 => cases hk
  rename_i us' hus
  split at hk
  case isFalse => cases hk
  rename_i hl1
  cases hes' : ownG st'.heap us' with
  | none => rw [hes'] at hk; cases hk
  | some es' =>
  rw [hes'] at hk
  simp only [Option.map_some, Option.some.injEq, F.tup.injEq] at hk
  subst hk
  obtain ⟨vs, hvs, hR⟩ := resU_run (P := P) hA' _ _ hus
  have hres : (results fn a'.tmps).run P w' = .ok (if h : vs.toArray.size = 1 then vs.toArray[0] else .tuple vs.toArray) w' := by
    unfold results
    rw [← Array.toArray_toList (xs := fn.results), List.mapM_toArray]
    simp only [Sem.run_bind, Sem.run_map]
    refine (congrArg (fun q => Result.andThen (Result.andThen q fun x w => Result.ok x.toArray w) fun vs w => (pure (if h : vs.size = 1 then vs[0] else .tuple vs) : Sem Value).run P w) hvs).trans ?_
    simp [Result.andThen]
  have hold : ∀ b, b < w.heap.size → w'.heap[b]? = w.heap[b]? := fun b hb => hE'.rest b hb fun o ho => absurd ho (hlive0 o)
  -- the caller's new heap
  have main : ∃ m2, Ext w Z m H w' Z m2 (newObs H slot (obsOf (flatF fs))) ∧ HOK w' Z m2 (newObs H slot (obsOf (flatF fs))) ∧ ∀ (j : Nat) (e : F) (v : Value), fs[j]? = some e → vs[j]? = some v → RepU w' Z m2 (newObs H slot (obsOf (flatF fs))) (oneU (newAt H slot) e) v := by
    obtain ⟨hflat, hol, hog⟩ := ownG_flat us' es' hes'
    obtain ⟨hfl, hfg⟩ := owns2_get hes
    have each : ∀ (j : Nat) (e : F), fs[j]? = some e → ∃ u a, us'[j]? = some u ∧ ownL st'.heap u.cells = some a ∧ Own2 (mkF (isAggU u) a) e := fun j e he => by
      have hj := (List.getElem?_eq_some_iff.1 he).1
      have huj : us'[j]? = some us'[j] := List.getElem?_eq_getElem (by omega)
      obtain ⟨a, h1, h2⟩ := hog j _ huj
      obtain ⟨e1, h3, h4⟩ := hfg j _ h2
      rw [he] at h3; cases h3
      exact ⟨_, a, huj, h1, h4⟩
    rcases own_form (flatU us') (flatF es') (flatF fs) (Nat.le_trans (objsAll_flat us') hl1) hflat (owns2_flat hes) with ⟨h0, hno⟩ | ⟨o, sz, n, g, g', ho, hsc, hgg, hob, hone⟩
    · rw [h0]
      have e0 : newObs H slot [] = H := rfl
      rw [e0]
      have hEE : Ext w Z m H w' Z m H := by
        refine ⟨hE'.os, hE'.tape, hE'.output, hE'.size, fun b hb => hb, fun b hb => .inl hb, fun b hb => hold b (hH.zlt b hb), fun b hb _ => hold b hb, Nat.le_refl _, fun k ob ob' h1 h2 => ?_, fun k hk => .inl ⟨hk, rfl⟩⟩
        rw [h1] at h2; cases h2
        cases ob with
        | arr sz n g => exact ⟨rfl, Nat.le_refl _, fun _ => ⟨rfl, by simp only [blockCells, hold _ (hH.blk_lt ⟨_, h1, rfl⟩)]⟩⟩
        | _ => simp [Evol]
      refine ⟨m, hEE, ⟨fun b hb => Nat.lt_of_lt_of_le (hH.zlt b hb) hE'.size, hH.apart, hH.inj, fun k ob hk => ?_⟩, fun j e v he hv => ?_⟩
      · by_cases hd : ob.live = true
        · exact (hH.ob k ob hk).mono hEE (hold _ (hH.blk_lt ⟨_, hk, hd⟩))
        · cases ob <;> simp_all [ObOK, HO.live]
      · obtain ⟨u, e0, h1, h2, h3⟩ := each j e he
        exact oneU_rep (hR.2 j u v h1 hv) h2 h3 fun x hx o gen off len e => absurd e (hno x (flatU_mem (List.mem_of_getElem? h1) hx) o gen off len)
    · rw [hob]
      have eN : newObs H slot [.arr sz n g'] = putNew H slot (.arr sz n g') := by cases slot <;> rfl
      have eA : newAt H slot = placeNew H slot := by cases slot <;> rfl
      rw [eN, eA]
      have hlo : liveAt st'.heap o := ⟨_, ho, rfl⟩
      let m2 : Nat → Nat := fun k => if k = placeNew H slot then m' o else m k
      have hfresh : w.heap.size ≤ m' o := by
        rcases hE'.new o hlo with ⟨h, _⟩ | h
        · exact absurd h (hlive0 o)
        · exact h
      have hmn : m2 (placeNew H slot) = m' o := by simp [m2]
      have hmk : ∀ k, k ≠ placeNew H slot → m2 k = m k := fun k hk => by simp only [m2]; rw [if_neg hk]
      have hsplit : ∀ k, liveAt (putNew H slot (.arr sz n g')) k → k = placeNew H slot ∨ (k ≠ placeNew H slot ∧ liveAt H k) := by
        rintro k ⟨ob, hk, hl⟩
        by_cases hp : k = placeNew H slot
        · exact .inl hp
        · rw [putNew_other _ _ _ hp] at hk; exact .inr ⟨hp, ob, hk, hl⟩
      have hEE : Ext w Z m H w' Z m2 (putNew H slot (.arr sz n g')) := by
        refine ⟨hE'.os, hE'.tape, hE'.output, hE'.size, fun b hb => hb, fun b hb => .inl hb, fun b hb => hold b (hH.zlt b hb), fun b hb _ => hold b hb, putNew_len _ _ _, ?_, ?_⟩
        · intro k ob ob' hk hk'
          by_cases hp : k = placeNew H slot
          · cases hsl : slot with
            | none => rw [hsl] at hp; subst hp; simp [placeNew] at hk
            | some k' =>
              rw [hsl] at hp
              obtain rfl : k = k' := hp
              rw [hslot k hsl] at hk
              cases hk
              cases ob' <;> simp [Evol]
          · rw [putNew_other _ _ _ hp, hk] at hk'
            cases hk'
            rw [hmk k hp]
            cases ob with
            | arr sz n g => exact ⟨rfl, Nat.le_refl _, fun _ => ⟨rfl, by simp only [blockCells, hold _ (hH.blk_lt ⟨_, hk, rfl⟩)]⟩⟩
            | _ => simp [Evol]
        · intro k hk
          rcases hsplit k hk with h1 | ⟨h1, h2⟩
          · subst h1; right; rw [hmn]; exact hfresh
          · exact .inl ⟨h2, hmk k h1⟩
      refine ⟨m2, hEE, ⟨fun b hb => Nat.lt_of_lt_of_le (hH.zlt b hb) hE'.size, ?_, ?_, ?_⟩, fun j e v he hv => ?_⟩
      · intro k hk hz
        rcases hsplit k hk with h1 | ⟨h1, h2⟩
        · subst h1
          rw [hmn] at hz
          have := hH.zlt _ hz
          omega
        · rw [hmk k h1] at hz; exact hH.apart k h2 hz
      · intro k k' hk hk' e
        rcases hsplit k hk with h1 | ⟨h1, g1⟩ <;> rcases hsplit k' hk' with h2 | ⟨h2, g2⟩
        · rw [h1, h2]
        · subst h1; rw [hmk k' h2, hmn] at e; have := hH.blk_lt g2; omega
        · subst h2; rw [hmk k h1, hmn] at e; have := hH.blk_lt g1; omega
        · rw [hmk k h1, hmk k' h2] at e; exact hH.inj k k' g1 g2 e
      · intro k ob hk
        by_cases hp : k = placeNew H slot
        · subst hp
          rw [putNew_get _ _ _ hslot] at hk
          cases hk
          rw [hmn]
          obtain ⟨q0, c1, el, fr, q1, q2, q3, q4, q5⟩ := hA'.hok.ob o _ ho
          refine ⟨q0, c1, el, fr, q1, q2, q3, fun i hi => by rw [← hgg i hi]; exact q4 i hi, fun i j u hi hu => ?_⟩
          rw [← hgg i hi] at hu
          obtain ⟨p1, v, p2, p3⟩ := q5 i j u hi hu
          exact ⟨p1, v, p2, p3.scal0_any (scal0_cells (isScal_get hsc hi) hu)⟩
        · rw [putNew_other _ _ _ hp] at hk
          by_cases hd : ob.live = true
          · rw [hmk k hp]
            exact (hH.ob k ob hk).mono hEE (hold _ (hH.blk_lt ⟨_, hk, hd⟩))
          · cases ob <;> simp_all [ObOK, HO.live]
      · obtain ⟨u, e0, h1, h2, h3⟩ := each j e he
        refine oneU_rep (hR.2 j u v h1 hv) h2 h3 fun x hx o1 gen off len e => ?_
        obtain ⟨rfl, rfl, rfl, rfl⟩ := hone x (flatU_mem (List.mem_of_getElem? h1) hx) o1 gen off len e
        exact ⟨sz, g', rfl, rfl, putNew_get _ _ _ hslot, hmn, g, ho⟩
  obtain ⟨m2, hEE, hHH, hrep⟩ := main
  have hfl : fs.length = vs.length := by
    rw [← (owns2_get hes).1, ← (ownG_flat us' es' hes').2.1]; exact hR.1
  refine ⟨.returned _, w', { b.at a' todo with mode := .returning }, ⟨Z, m2, ?_⟩, ?_, rfl, rfl, hd, rfl, fn, hf, hres⟩
  · match fs, vs, hfl, hrep, hEE, hHH with
    | [e], [v], _, hrep, hEE, hHH => exact ⟨hEE, hHH, hrep 0 e v rfl rfl⟩
    | [], [], _, hrep, hEE, hHH => exact ⟨hEE, hHH, .tup [] [] rfl fun j u v hu => by simp at hu⟩
    | e1 :: e2 :: fs, v1 :: v2 :: vs, hfl, hrep, hEE, hHH =>
      refine ⟨hEE, hHH, ?_⟩
      have : RepU w' Z m2 (newObs H slot (obsOf (flatF (e1 :: e2 :: fs)))) (.tup ((e1 :: e2 :: fs).map (oneU (newAt H slot)))) (.tuple (v1 :: v2 :: vs).toArray) := .tup _ _ (by simpa using hfl) fun j u v hu hv => by
        rw [List.getElem?_map] at hu
        cases he : (e1 :: e2 :: fs)[j]? with
        | none => rw [he] at hu; cases hu
        | some e => rw [he] at hu; cases hu; exact hrep j e v he hv
      simpa [place] using this
    | [_], [], hl, _, _, _ => simp at hl
    | [_], _ :: _ :: _, hl, _, _, _ => simp at hl
    | [], _ :: _, hl, _, _, _ => simp at hl
    | _ :: _ :: _, [], hl, _, _, _ => simp at hl
    | _ :: _ :: _, [_], hl, _, _, _ => simp at hl
  · rw [henter]; exact hs

/-- A function that writes into a slice that is lent. -/
theorem fn_arrw {f : FuncId} {fn : Func} {c : Code} (hf : P.funcs[f]? = some fn) (hb : fn.body = some c) (hname : (fn.name == "runtime.NumGoroutine") = false) {sz : Nat} {pre : Nat → (Nat → F) → List F → Bool} {res : Nat → (Nat → F) → List F → F × (Nat → F)}
    (h : ∀ n g xs, pre n g xs = true → scalar (res n g xs).1 = true ∧ ∃ g1, EndsN P 1 fn.results.toList [.code c] (startN fn.ntmps (.hs 0 n 0 n :: xs.map .f) [.arr sz n g]) (.tup [(res n g xs).1, .sl n g1]) ∧ ∀ j, j < n → g1 j = (res n g xs).2 j)
    (h0 : PureOK P f (fun ys => match ys with | .sl 0 _ :: xs => pre 0 (fun _ => .dflt) xs | _ => false) (fun ys => (res 0 (fun _ => .dflt) ys.tail).1)) : SpOK P f (.arrw sz pre res) := by
  intro us H hp w Z m args hH hL
  unfold arrPre at hp
  split at hp
  · rename_i o gen off len us'
    split at hp
    case h_2 => cases hp
    rename_i sz' n g xs ho hxs
    simp only [Bool.and_eq_true, decide_eq_true_eq] at hp
    obtain ⟨⟨⟨⟨hsz, rfl⟩, rfl⟩, rfl⟩, hp⟩ := hp
    have := Nat.eq_of_beq_eq_true hsz
    subst this
    obtain ⟨hsc, g1, hE, hg1⟩ := h _ g xs hp
    have hres : arrRes res (.hs o len 0 len :: us') H = (.f (res len g xs).1, H.set o (.arr sz' len (res len g xs).2)) := by simp only [arrRes, ho, hxs]
    rw [hres]
    obtain ⟨hl2, hg2⟩ := toFs_get us' xs hxs
    have hlo : liveAt H o := ⟨_, ho, rfl⟩
    have hobk := hH.ob o _ ho
    have hlt : o < H.length := (List.getElem?_eq_some_iff.1 ho).1
    let m1 : Nat → Nat := fun _ => m o
    have hH1 : HOK w Z m1 [.arr sz' len g] := by
      refine ⟨hH.zlt, fun _ _ => hH.apart o hlo, fun a b ha hb _ => ?_, fun k ob hk => ?_⟩
      · obtain ⟨_, ha, _⟩ := ha
        obtain ⟨_, hb, _⟩ := hb
        have h1 := (List.getElem?_eq_some_iff.1 ha).1
        have h2 := (List.getElem?_eq_some_iff.1 hb).1
        simp only [List.length_singleton] at h1 h2
        omega
      · have hk0 := (List.getElem?_eq_some_iff.1 hk).1
        obtain rfl : k = 0 := by simp at hk0; exact hk0
        simp at hk; subst hk
        exact hobk
    have hA : AOK w Z m1 (startN fn.ntmps (.hs 0 len 0 len :: xs.map .f) [.arr sz' len g]) { tmps := args ++ Array.replicate (fn.ntmps - args.size) undef, defers := [] } := by
      have hlen : (U.hs 0 len 0 len :: xs.map U.f).length = args.size := by have := hL.1; simp at this ⊢; omega
      refine ⟨by simp only [startN, List.length_append, List.length_replicate, hlen]; simp, fun i u v hu hv => ?_, hH1⟩
      simp only [startN] at hu
      rw [List.getElem?_append] at hu
      rw [Array.getElem?_append] at hv
      split at hu
      · rename_i hi
        rw [if_pos (by omega)] at hv
        cases i with
        | zero =>
          simp at hu; subst hu
          have := hL.2 0 _ v rfl (by simpa using hv)
          cases this with
          | hs _ _ _ _ _ h1 hk hg hvv =>
            refine .hs 0 len 0 len v h1 ⟨_, rfl, by simp⟩ (fun sz2 n2 g2 e => ?_) (fun sz2 n2 g2 e eg => ?_)
            · cases e; exact Nat.le_refl _
            · cases e
              exact hvv _ _ _ ho rfl
        | succ i =>
          simp only [List.getElem?_cons_succ, List.getElem?_map] at hu
          cases hxj : xs[i]? with
          | none => rw [hxj] at hu; cases hu
          | some y =>
            rw [hxj] at hu; cases hu
            have hj := (List.getElem?_eq_some_iff.1 hxj).1
            have huj : us'[i]? = some us'[i] := List.getElem?_eq_getElem (by omega)
            exact .f _ _ (toF_rep_nil hH (hL.2 (i + 1) _ v (by rw [List.getElem?_cons_succ]; exact huj) (by simpa using hv)) (hg2 i _ y huj hxj))
      · rename_i hi
        rw [if_neg (by omega)] at hv
        rw [List.getElem?_replicate] at hu
        rw [Array.getElem?_replicate] at hv
        split at hu
        · split at hv
          · cases hu; cases hv; exact .undef
          · cases hv
        · cases hu
    refine .inl ⟨by
      have hp : (program).run P w = .ok P w := rfl
      unfold callFunc
      simp only [Sem.run_bind, hp, Result.andThen, hf, hname, hb, Option.isNone_some, Bool.false_eq_true, if_false, Sem.run_pure], fun cs => ?_⟩
    let b : Frame := { (default : Frame) with fn := f, kind := .normal }
    have henter : Frame.enter P f args .normal = b.at { tmps := args ++ Array.replicate (fn.ntmps - args.size) undef, defers := [] } [.code c] := by
      simp [Frame.enter, Frame.at, hf, hb, b]
    obtain ⟨st', a', w', todo, hk, ⟨hd, Z', m', hA', hE'⟩, hs⟩ := hE w Z m1 [.arr sz' len g] [] _ w Z m1 rfl hA rfl (Ext.refl _ _ _ _) b cs
    unfold retF at hk
    rw [if_neg (by rw [show Nat.beq 1 0 = false from rfl, Bool.and_false]; exact Bool.false_ne_true)] at hk
    split at hk
    case h_2 => cases hk
    rename_i us1 hus
    split at hk
    case h_2 => cases hk
    rename_i ys hys
    simp only at hk
    split at hk
    case h_2 => cases hk
    rename_i os' hos
    simp only [Option.some.injEq, F.tup.injEq, List.cons.injEq] at hk
    obtain ⟨hx, rfl⟩ := hk
    -- the slice that was lent, at the end
    have hlen' : 1 ≤ st'.heap.length := by have := hE'.len; simpa using this
    have hob0 : st'.heap[0]? = some st'.heap[0] := List.getElem?_eq_getElem (by omega)
    have htake : st'.heap.take 1 = [st'.heap[0]] := by
      apply List.ext_getElem
      · simp; omega
      · intro i h1 h2
        have h2 : i = 0 := by simp at h2; exact h2
        subst h2
        simp
    rw [htake] at hos
    have hev := hE'.evol 0 (.arr sz' len g) _ rfl hob0
    have hob1 : st'.heap[0] = .arr sz' len g1 ∧ m' 0 = m o ∧ blockCells w' (m o) = blockCells w (m o) := by
      cases hq : st'.heap[0] with
      | arr sz2 n2 g2 =>
        rw [hq] at hos hev
        simp only [outs, Option.some.injEq, List.cons.injEq, F.sl.injEq, and_true] at hos
        obtain ⟨rfl, rfl⟩ := hos
        simp only [Evol] at hev
        obtain ⟨e1, _, e2⟩ := hev
        subst e1
        exact ⟨rfl, e2 trivial⟩
      | box cs =>
        rw [hq] at hos
        simp only [outs] at hos
        split at hos
        · simp at hos
        · cases hos
      | dead => rw [hq] at hos; simp [outs] at hos
      | free => rw [hq] at hos; simp [outs] at hos
    obtain ⟨hq, hm0, hbc⟩ := hob1
    rw [hq] at hob0
    obtain ⟨vs, hvs, hR⟩ := resU_run (P := P) hA' _ _ hus
    have hres : (results fn a'.tmps).run P w' = .ok (if h : vs.toArray.size = 1 then vs.toArray[0] else .tuple vs.toArray) w' := by
      unfold results
      rw [← Array.toArray_toList (xs := fn.results), List.mapM_toArray]
      simp only [Sem.run_bind, Sem.run_map]
      refine (congrArg (fun q => Result.andThen (Result.andThen q fun x w => Result.ok x.toArray w) fun vs w => (pure (if h : vs.size = 1 then vs[0] else .tuple vs) : Sem Value).run P w) hvs).trans ?_
      simp [Result.andThen]
    have hL2 : RepL w' (fun b => Z' b ∨ ∃ o, liveAt st'.heap o ∧ m' o = b) ys vs := by
      obtain ⟨hl, hg⟩ := toFs_get us1 ys hys
      refine ⟨by rw [← hl]; exact hR.1, fun j y v hy' hv => ?_⟩
      have hj := (List.getElem?_eq_some_iff.1 hy').1
      have hu' : us1[j]? = some us1[j] := List.getElem?_eq_getElem (by omega)
      refine (toF_rep hA'.hok (fun _ _ h => h) (hR.2 j _ v hu' hv) (hg j _ y hu' hy')).mono ?_ (fun _ _ => rfl)
      rintro b (hb | ⟨o, _, hlv, rfl⟩)
      · exact .inl hb
      · exact .inr ⟨o, hlv, rfl⟩
    -- the caller's world
    have hkeep : ∀ k, liveAt H k → k ≠ o → w'.heap[m k]? = w.heap[m k]? := by
      intro k hk hne
      refine hE'.rest _ (hH.blk_lt hk) fun o' ho' e => hne (hH.inj k o hk hlo e.symm)
    have hlive : ∀ k, liveAt (H.set o (.arr sz' len (res len g xs).2)) k → liveAt H k := by
      intro k ⟨ob1, h1, hd⟩
      by_cases hk : o = k
      · subst hk; exact hlo
      · rw [List.getElem?_set_ne hk] at h1; exact ⟨ob1, h1, hd⟩
    have hEE : Ext w Z m H w' Z m (H.set o (.arr sz' len (res len g xs).2)) := by
      refine ⟨hE'.os, hE'.tape, hE'.output, hE'.size, fun _ h => h, fun b hb => .inl hb, fun b hb => hE'.kept b hb, fun b hb hn => hE'.rest b hb fun o' ho' e => ?_, by simp, ?_, fun k hk => .inl ⟨hlive k hk, rfl⟩⟩
      · exact hn o hlo e
      · intro k ob ob' hk hk'
        by_cases hko : o = k
        · subst hko
          rw [List.getElem?_set_self hlt] at hk'
          rw [ho] at hk; cases hk; cases hk'
          exact ⟨rfl, Nat.le_refl _, fun _ => ⟨rfl, hbc⟩⟩
        · rw [List.getElem?_set_ne hko, hk] at hk'
          cases hk'
          cases ob with
          | arr sz n g => exact ⟨rfl, Nat.le_refl _, fun _ => ⟨rfl, by simp only [blockCells, hkeep k ⟨_, hk, rfl⟩ (fun e => hko e.symm)]⟩⟩
          | _ => simp [Evol]
    have hscF : ∀ (i j : Nat) (u : F), i < len → (g1 i).cells[j]? = some u → RepF w' Z' u = RepF w' Z' u := fun _ _ _ _ _ => rfl
    obtain ⟨q0, c1, el, fr, q1, q2, q3, q4, q5⟩ := hA'.hok.ob 0 _ hob0
    -- the elements' data: of the lent slice's own making
    refine ⟨.returned _, w', { b.at a' todo with mode := .returning }, ⟨fun b => Z' b ∨ ∃ o, o ≠ 0 ∧ liveAt st'.heap o ∧ m' o = b, m, ?_, ?_, ?_⟩, ?_, rfl, rfl, hd, rfl, fn, hf, hres⟩
    · refine ⟨hEE.os, hEE.tape, hEE.output, hEE.size, fun b hb => .inl (hE'.sub b hb), ?_, hEE.kept, hEE.rest, hEE.len, hEE.evol, hEE.new⟩
      rintro b (hb | ⟨o', ho', hlv, rfl⟩)
      · rcases hE'.back b hb with h1 | h1 | ⟨o2, ho2, e⟩
        · exact .inl h1
        · exact .inr (.inl h1)
        · exact .inr (.inr ⟨o, hlo, e⟩)
      · rcases hE'.new o' hlv with ⟨⟨ob, h1, _⟩, _⟩ | h1
        · have := (List.getElem?_eq_some_iff.1 h1).1; simp at this; omega
        · exact .inr (.inl h1)
    · refine ⟨?_, ?_, fun k k' h h' e => hH.inj k k' (hlive k h) (hlive k' h') e, ?_⟩
      · rintro b (hb | ⟨o', ho', hlv, rfl⟩)
        · exact hA'.hok.zlt b hb
        · exact hA'.hok.blk_lt hlv
      · rintro k hk (hb | ⟨o', ho', hlv, e⟩)
        · rcases hE'.back _ hb with h1 | h1 | ⟨o2, ho2, e⟩
          · exact hH.apart k (hlive k hk) h1
          · have := hH.blk_lt (hlive k hk); omega
          · have hko : k = o := hH.inj k o (hlive k hk) hlo e.symm
            rw [hko] at hb
            rw [← hm0] at hb
            exact hA'.hok.apart 0 ⟨_, hob0, rfl⟩ hb
        · rcases hE'.new o' hlv with ⟨⟨ob, h1, _⟩, _⟩ | h1
          · have := (List.getElem?_eq_some_iff.1 h1).1; simp at this; omega
          · have := hH.blk_lt (hlive k hk); omega
      · intro k ob hk
        by_cases hko : o = k
        · subst hko
          rw [List.getElem?_set_self hlt] at hk
          cases hk
          rw [← hm0]
          refine ⟨q0, c1, el, fr, q1, q2, q3, fun i hi => by rw [← hg1 i hi]; exact q4 i hi, fun i j u hi hu => ?_⟩
          rw [← hg1 i hi] at hu
          obtain ⟨p1, v, p2, p3⟩ := q5 i j u hi hu
          exact ⟨p1, v, p2, p3.mono (fun b hb => .inl hb) (fun _ _ => rfl)⟩
        · rw [List.getElem?_set_ne hko] at hk
          by_cases hd : ob.live = true
          · have h1 := (hH.ob k ob hk).mono hEE (hkeep k ⟨_, hk, hd⟩ (fun e => hko e.symm))
            have hE2 : Ext w' Z m (H.set o (.arr sz' len (res len g xs).2)) w' (fun b => Z' b ∨ ∃ o, o ≠ 0 ∧ liveAt st'.heap o ∧ m' o = b) m (H.set o (.arr sz' len (res len g xs).2)) → True := fun _ => trivial
            cases ob with
            | dead => trivial
            | free => trivial
            | arr sz2 n2 g2 =>
              obtain ⟨p0, c2, el2, fr2, p1, p2, p3, p4, p5⟩ := h1
              refine ⟨p0, c2, el2, fr2, p1, p2, p3, p4, fun i j u hi hu => ?_⟩
              obtain ⟨t1, v, t2, t3⟩ := p5 i j u hi hu
              exact ⟨t1, v, t2, t3.mono (fun b hb => .inl (hE'.sub b hb)) (fun _ _ => rfl)⟩
            | box cs2 =>
              obtain ⟨c2, el2, fr2, p1, p2, p3, p4⟩ := h1
              refine ⟨c2, el2, fr2, p1, p2, p3, fun j u hu => ?_⟩
              obtain ⟨v, t2, t3⟩ := p4 j u hu
              exact ⟨v, t2, t3.zone (fun b hb => .inl (hE'.sub b hb))⟩
          · cases ob <;> simp_all [ObOK, HO.live]
    · rw [← hx] at hsc ⊢
      refine .f _ _ ?_
      match ys, vs, hL2, hsc with
      | [y], [v], hL2, hsc => exact (hL2.2 0 y v rfl rfl).scalar_any hsc
      | [], [], hL2, hsc => exact .tup [] [] rfl fun j u v hu => by simp at hu
      | y1 :: y2 :: ys, v1 :: v2 :: vs, hL2, hsc =>
        have := RepF.scalar_any (w' := w') (Z' := fun b => Z' b ∨ ∃ o, o ≠ 0 ∧ liveAt st'.heap o ∧ m' o = b) (RepF.tup (w := w') _ _ hL2.1 hL2.2) hsc
        simpa [tupF] using this
      | [_], [], hL2, _ => have := hL2.1; simp at this
      | [_], _ :: _ :: _, hL2, _ => have := hL2.1; simp at this
      | [], _ :: _, hL2, _ => have := hL2.1; simp at this
      | _ :: _ :: _, [], hL2, _ => have := hL2.1; simp at this
      | _ :: _ :: _, [_], hL2, _ => have := hL2.1; simp at this
    · rw [henter]; exact hs
  · rename_i us'
    split at hp
    case h_2 => cases hp
    rename_i xs hxs
    have hres : arrRes res (.nils :: us') H = (.f (res 0 (fun _ => .dflt) xs).1, H) := by simp only [arrRes, hxs]
    rw [hres]
    obtain ⟨hl2, hg2⟩ := toFs_get us' xs hxs
    have hL2 : RepL w Z (.sl 0 (fun _ => .dflt) :: xs) args.toList := by
      refine ⟨by rw [← hL.1]; simp [hl2], fun j u v hu hv => ?_⟩
      cases j with
      | zero =>
        simp at hu; subst hu
        have := hL.2 0 _ v rfl hv
        cases this with
        | nils A => exact .sl 0 _ A 0 1 ⟨0, 0, none⟩ (fun _ => undef) (Nat.le_refl _) (fun i hi => by omega) (fun i j u hi => by omega) (fun h => absurd rfl h) (fun i j u hi => by omega) (fun i j u hi => by omega)
      | succ j =>
        simp only [List.getElem?_cons_succ] at hu
        have hj := (List.getElem?_eq_some_iff.1 hu).1
        have huj : us'[j]? = some us'[j] := List.getElem?_eq_getElem (by omega)
        exact toF_rep_nil hH (hL.2 (j + 1) _ v (by rw [List.getElem?_cons_succ]; exact huj) hv) (hg2 j _ u huj hu)
    refine (h0 (.sl 0 (fun _ => .dflt) :: xs) (by simpa using hp) w Z args hH.zlt hL2).mono fun v w' ⟨g, Z', hZ', hr⟩ => ?_
    have hE : Ext w Z m H w' Z m H := by
      refine ⟨g.os, g.tape, g.output, g.size, fun _ h => h, fun _ h => .inl h, fun b hb => g.old b (hH.zlt b hb), fun b hb _ => g.old b hb, Nat.le_refl _, fun o ob ob' h1 h2 => ?_, fun o h => .inl ⟨h, rfl⟩⟩
      rw [h1] at h2; cases h2
      cases ob with
      | arr sz n g' => exact ⟨rfl, Nat.le_refl _, fun _ => ⟨rfl, by simp only [blockCells, g.old _ (hH.blk_lt ⟨_, h1, rfl⟩)]⟩⟩
      | _ => simp [Evol]
    obtain ⟨hsc, _⟩ := h 0 (fun _ => .dflt) xs hp
    refine ⟨Z, m, hE, ⟨fun b hb => Nat.lt_of_lt_of_le (hH.zlt b hb) g.size, hH.apart, hH.inj, fun o ob ho => ?_⟩, .f _ _ (hr.scalar_any hsc)⟩
    by_cases hd : ob.live = true
    · exact (hH.ob o ob ho).mono hE (g.old _ (hH.blk_lt ⟨_, ho, hd⟩))
    · cases ob <;> simp_all [ObOK, HO.live]
  · rename_i n0 g0 us'
    split at hp
    case h_2 => cases hp
    rename_i xs hxs
    rw [Bool.and_eq_true] at hp
    obtain ⟨hn0, hp⟩ := hp
    have hn0 := Nat.eq_of_beq_eq_true hn0
    subst hn0
    have hres : arrRes res (.f (.sl 0 g0) :: us') H = (.f (res 0 (fun _ => .dflt) xs).1, H) := by simp only [arrRes, hxs]
    rw [hres]
    obtain ⟨hl2, hg2⟩ := toFs_get us' xs hxs
    have hL2 : RepL w Z (.sl 0 (fun _ => .dflt) :: xs) args.toList := by
      refine ⟨by rw [← hL.1]; simp [hl2], fun j u v hu hv => ?_⟩
      cases j with
      | zero =>
        simp at hu; subst hu
        have := hL.2 0 _ v rfl hv
        cases this with
        | f _ _ hr => exact FLe.sl (fun j hj => by omega) _ _ _ hr
      | succ j =>
        simp only [List.getElem?_cons_succ] at hu
        have hj := (List.getElem?_eq_some_iff.1 hu).1
        have huj : us'[j]? = some us'[j] := List.getElem?_eq_getElem (by omega)
        exact toF_rep_nil hH (hL.2 (j + 1) _ v (by rw [List.getElem?_cons_succ]; exact huj) hv) (hg2 j _ u huj hu)
    refine (h0 (.sl 0 (fun _ => .dflt) :: xs) (by simpa using hp) w Z args hH.zlt hL2).mono fun v w' ⟨g, Z', hZ', hr⟩ => ?_
    have hE : Ext w Z m H w' Z m H := by
      refine ⟨g.os, g.tape, g.output, g.size, fun _ h => h, fun _ h => .inl h, fun b hb => g.old b (hH.zlt b hb), fun b hb _ => g.old b hb, Nat.le_refl _, fun o ob ob' h1 h2 => ?_, fun o h => .inl ⟨h, rfl⟩⟩
      rw [h1] at h2; cases h2
      cases ob with
      | arr sz n g' => exact ⟨rfl, Nat.le_refl _, fun _ => ⟨rfl, by simp only [blockCells, g.old _ (hH.blk_lt ⟨_, h1, rfl⟩)]⟩⟩
      | _ => simp [Evol]
    obtain ⟨hsc, _⟩ := h 0 (fun _ => .dflt) xs hp
    refine ⟨Z, m, hE, ⟨fun b hb => Nat.lt_of_lt_of_le (hH.zlt b hb) g.size, hH.apart, hH.inj, fun o ob ho => ?_⟩, .f _ _ (hr.scalar_any hsc)⟩
    by_cases hd : ob.live = true
    · exact (hH.ob o ob ho).mono hE (g.old _ (hH.blk_lt ⟨_, ho, hd⟩))
    · cases ob <;> simp_all [ObOK, HO.live]
  · cases hp
/-- A function that writes into a slice that is lent, wherever it stands among the arguments. -/
theorem fn_lent {f : FuncId} {fn : Func} {c : Code} (hf : P.funcs[f]? = some fn) (hb : fn.body = some c) (hname : (fn.name == "runtime.NumGoroutine") = false) {sz : Nat} {pre : List U → Nat → (Nat → F) → Bool} {res : List U → Nat → (Nat → F) → F × (Nat → F)} {pre0 : List F → Bool} {res0 : List F → F}
    (h : ∀ us n g, pre us n g = true → scalar (res us n g).1 = true ∧ ∃ g1, EndsN P 1 fn.results.toList [.code c] (startN fn.ntmps us [.arr sz n g]) (.tup [(res us n g).1, .sl n g1]) ∧ ∀ j, j < n → g1 j = (res us n g).2 j)
    (h0 : PureOK P f pre0 res0) (hs0 : ∀ xs, pre0 xs = true → scalar (res0 xs) = true) : SpOK P f (.lent sz pre res pre0 res0) := by
  intro us H hp w Z m args hH hL
  unfold lentPre at hp
  split at hp
  · rename_i o hrf
    split at hp
    case h_2 => cases hp
    rename_i sz' len g ho
    simp only [Bool.and_eq_true] at hp
    obtain ⟨hsz, hp⟩ := hp
    have := Nat.eq_of_beq_eq_true hsz
    subst this
    obtain ⟨hsc, g1, hE, hg1⟩ := h _ _ g hp
    have hres : lentRes res res0 us H = (.f (res (renUs [o] us) len g).1, H.set o (.arr sz' len (res (renUs [o] us) len g).2)) := by simp only [lentRes, hrf, ho]
    rw [hres]
    have hlo : liveAt H o := ⟨_, ho, rfl⟩
    have hobk := hH.ob o _ ho
    have hlt : o < H.length := (List.getElem?_eq_some_iff.1 ho).1
    let m1 : Nat → Nat := fun _ => m o
    have hH1 : HOK w Z m1 [.arr sz' len g] := by
      refine ⟨hH.zlt, fun _ _ => hH.apart o hlo, fun a b ha hb _ => ?_, fun k ob hk => ?_⟩
      · obtain ⟨_, ha, _⟩ := ha
        obtain ⟨_, hb, _⟩ := hb
        have h1 := (List.getElem?_eq_some_iff.1 ha).1
        have h2 := (List.getElem?_eq_some_iff.1 hb).1
        simp only [List.length_singleton] at h1 h2
        omega
      · have hk0 := (List.getElem?_eq_some_iff.1 hk).1
        obtain rfl : k = 0 := by simp at hk0; exact hk0
        simp at hk; subst hk
        exact hobk
    have hren : ∀ (u : U) (v : Value), (refs u).all (hasN [o]) = true → RepU w Z m H u v → RepU w Z m1 [.arr sz' len g] (renU [o] u) v := fun u v hr hu =>
      hu.ren (ks := [o]) (H' := [.arr sz' len g]) (by simp [List.getD, ho, renOb]) (fun o' ho' => by
        have : o' = o := by
          simp only [hasN, Bool.or_false] at ho'
          exact (Nat.eq_of_beq_eq_true ho').symm
        simp only [m1, this]) hr
    have hall : (refsAll us).all (hasN [o]) = true := by
      rw [hrf]; simp [hasN]
    have hA : AOK w Z m1 (startN fn.ntmps (renUs [o] us) [.arr sz' len g]) { tmps := args ++ Array.replicate (fn.ntmps - args.size) undef, defers := [] } := by
      have hlen : (renUs [o] us).length = args.size := by rw [renUs_len]; have := hL.1; simpa using this
      refine ⟨by simp only [startN, List.length_append, List.length_replicate, hlen]; simp, fun i u v hu hv => ?_, hH1⟩
      simp only [startN] at hu
      rw [List.getElem?_append] at hu
      rw [Array.getElem?_append] at hv
      split at hu
      · rename_i hi
        rw [if_pos (by omega)] at hv
        obtain ⟨x, hx, rfl⟩ := renUs_get us i u hu
        exact hren x v (refsAll_get us hall i x hx) (hL.2 i x v hx (by simpa using hv))
      · rename_i hi
        rw [if_neg (by omega)] at hv
        rw [List.getElem?_replicate] at hu
        rw [Array.getElem?_replicate] at hv
        split at hu
        · split at hv
          · cases hu; cases hv; exact .undef
          · cases hv
        · cases hu
    refine .inl ⟨by
      have hp : (program).run P w = .ok P w := rfl
      unfold callFunc
      simp only [Sem.run_bind, hp, Result.andThen, hf, hname, hb, Option.isNone_some, Bool.false_eq_true, if_false, Sem.run_pure], fun cs => ?_⟩
    let b : Frame := { (default : Frame) with fn := f, kind := .normal }
    have henter : Frame.enter P f args .normal = b.at { tmps := args ++ Array.replicate (fn.ntmps - args.size) undef, defers := [] } [.code c] := by
      simp [Frame.enter, Frame.at, hf, hb, b]
    obtain ⟨st', a', w', todo, hk, ⟨hd, Z', m', hA', hE'⟩, hs⟩ := hE w Z m1 [.arr sz' len g] [] _ w Z m1 rfl hA rfl (Ext.refl _ _ _ _) b cs
    unfold retF at hk
    rw [if_neg (by rw [show Nat.beq 1 0 = false from rfl, Bool.and_false]; exact Bool.false_ne_true)] at hk
    split at hk
    case h_2 => cases hk
    rename_i us1 hus
    split at hk
    case h_2 => cases hk
    rename_i ys hys
    simp only at hk
    split at hk
    case h_2 => cases hk
    rename_i os' hos
    simp only [Option.some.injEq, F.tup.injEq, List.cons.injEq] at hk
    obtain ⟨hx, rfl⟩ := hk
    -- the slice that was lent, at the end
    have hlen' : 1 ≤ st'.heap.length := by have := hE'.len; simpa using this
    have hob0 : st'.heap[0]? = some st'.heap[0] := List.getElem?_eq_getElem (by omega)
    have htake : st'.heap.take 1 = [st'.heap[0]] := by
      apply List.ext_getElem
      · simp; omega
      · intro i h1 h2
        have h2 : i = 0 := by simp at h2; exact h2
        subst h2
        simp
    rw [htake] at hos
    have hev := hE'.evol 0 (.arr sz' len g) _ rfl hob0
    have hob1 : st'.heap[0] = .arr sz' len g1 ∧ m' 0 = m o ∧ blockCells w' (m o) = blockCells w (m o) := by
      cases hq : st'.heap[0] with
      | arr sz2 n2 g2 =>
        rw [hq] at hos hev
        simp only [outs, Option.some.injEq, List.cons.injEq, F.sl.injEq, and_true] at hos
        obtain ⟨rfl, rfl⟩ := hos
        simp only [Evol] at hev
        obtain ⟨e1, _, e2⟩ := hev
        subst e1
        exact ⟨rfl, e2 trivial⟩
      | box cs =>
        rw [hq] at hos
        simp only [outs] at hos
        split at hos
        · simp at hos
        · cases hos
      | dead => rw [hq] at hos; simp [outs] at hos
      | free => rw [hq] at hos; simp [outs] at hos
    obtain ⟨hq, hm0, hbc⟩ := hob1
    rw [hq] at hob0
    obtain ⟨vs, hvs, hR⟩ := resU_run (P := P) hA' _ _ hus
    have hres : (results fn a'.tmps).run P w' = .ok (if h : vs.toArray.size = 1 then vs.toArray[0] else .tuple vs.toArray) w' := by
      unfold results
      rw [← Array.toArray_toList (xs := fn.results), List.mapM_toArray]
      simp only [Sem.run_bind, Sem.run_map]
      refine (congrArg (fun q => Result.andThen (Result.andThen q fun x w => Result.ok x.toArray w) fun vs w => (pure (if h : vs.size = 1 then vs[0] else .tuple vs) : Sem Value).run P w) hvs).trans ?_
      simp [Result.andThen]
    have hL2 : RepL w' (fun b => Z' b ∨ ∃ o, liveAt st'.heap o ∧ m' o = b) ys vs := by
      obtain ⟨hl, hg⟩ := toFs_get us1 ys hys
      refine ⟨by rw [← hl]; exact hR.1, fun j y v hy' hv => ?_⟩
      have hj := (List.getElem?_eq_some_iff.1 hy').1
      have hu' : us1[j]? = some us1[j] := List.getElem?_eq_getElem (by omega)
      refine (toF_rep hA'.hok (fun _ _ h => h) (hR.2 j _ v hu' hv) (hg j _ y hu' hy')).mono ?_ (fun _ _ => rfl)
      rintro b (hb | ⟨o, _, hlv, rfl⟩)
      · exact .inl hb
      · exact .inr ⟨o, hlv, rfl⟩
    -- the caller's world
    have hkeep : ∀ k, liveAt H k → k ≠ o → w'.heap[m k]? = w.heap[m k]? := by
      intro k hk hne
      refine hE'.rest _ (hH.blk_lt hk) fun o' ho' e => hne (hH.inj k o hk hlo e.symm)
    have hlive : ∀ k, liveAt (H.set o (.arr sz' len (res (renUs [o] us) len g).2)) k → liveAt H k := by
      intro k ⟨ob1, h1, hd⟩
      by_cases hk : o = k
      · subst hk; exact hlo
      · rw [List.getElem?_set_ne hk] at h1; exact ⟨ob1, h1, hd⟩
    have hEE : Ext w Z m H w' Z m (H.set o (.arr sz' len (res (renUs [o] us) len g).2)) := by
      refine ⟨hE'.os, hE'.tape, hE'.output, hE'.size, fun _ h => h, fun b hb => .inl hb, fun b hb => hE'.kept b hb, fun b hb hn => hE'.rest b hb fun o' ho' e => ?_, by simp, ?_, fun k hk => .inl ⟨hlive k hk, rfl⟩⟩
      · exact hn o hlo e
      · intro k ob ob' hk hk'
        by_cases hko : o = k
        · subst hko
          rw [List.getElem?_set_self hlt] at hk'
          rw [ho] at hk; cases hk; cases hk'
          exact ⟨rfl, Nat.le_refl _, fun _ => ⟨rfl, hbc⟩⟩
        · rw [List.getElem?_set_ne hko, hk] at hk'
          cases hk'
          cases ob with
          | arr sz n g => exact ⟨rfl, Nat.le_refl _, fun _ => ⟨rfl, by simp only [blockCells, hkeep k ⟨_, hk, rfl⟩ (fun e => hko e.symm)]⟩⟩
          | _ => simp [Evol]
    have hscF : ∀ (i j : Nat) (u : F), i < len → (g1 i).cells[j]? = some u → RepF w' Z' u = RepF w' Z' u := fun _ _ _ _ _ => rfl
    obtain ⟨q0, c1, el, fr, q1, q2, q3, q4, q5⟩ := hA'.hok.ob 0 _ hob0
    -- the elements' data: of the lent slice's own making
    refine ⟨.returned _, w', { b.at a' todo with mode := .returning }, ⟨fun b => Z' b ∨ ∃ o, o ≠ 0 ∧ liveAt st'.heap o ∧ m' o = b, m, ?_, ?_, ?_⟩, ?_, rfl, rfl, hd, rfl, fn, hf, hres⟩
    · refine ⟨hEE.os, hEE.tape, hEE.output, hEE.size, fun b hb => .inl (hE'.sub b hb), ?_, hEE.kept, hEE.rest, hEE.len, hEE.evol, hEE.new⟩
      rintro b (hb | ⟨o', ho', hlv, rfl⟩)
      · rcases hE'.back b hb with h1 | h1 | ⟨o2, ho2, e⟩
        · exact .inl h1
        · exact .inr (.inl h1)
        · exact .inr (.inr ⟨o, hlo, e⟩)
      · rcases hE'.new o' hlv with ⟨⟨ob, h1, _⟩, _⟩ | h1
        · have := (List.getElem?_eq_some_iff.1 h1).1; simp at this; omega
        · exact .inr (.inl h1)
    · refine ⟨?_, ?_, fun k k' h h' e => hH.inj k k' (hlive k h) (hlive k' h') e, ?_⟩
      · rintro b (hb | ⟨o', ho', hlv, rfl⟩)
        · exact hA'.hok.zlt b hb
        · exact hA'.hok.blk_lt hlv
      · rintro k hk (hb | ⟨o', ho', hlv, e⟩)
        · rcases hE'.back _ hb with h1 | h1 | ⟨o2, ho2, e⟩
          · exact hH.apart k (hlive k hk) h1
          · have := hH.blk_lt (hlive k hk); omega
          · have hko : k = o := hH.inj k o (hlive k hk) hlo e.symm
            rw [hko] at hb
            rw [← hm0] at hb
            exact hA'.hok.apart 0 ⟨_, hob0, rfl⟩ hb
        · rcases hE'.new o' hlv with ⟨⟨ob, h1, _⟩, _⟩ | h1
          · have := (List.getElem?_eq_some_iff.1 h1).1; simp at this; omega
          · have := hH.blk_lt (hlive k hk); omega
      · intro k ob hk
        by_cases hko : o = k
        · subst hko
          rw [List.getElem?_set_self hlt] at hk
          cases hk
          rw [← hm0]
          refine ⟨q0, c1, el, fr, q1, q2, q3, fun i hi => by rw [← hg1 i hi]; exact q4 i hi, fun i j u hi hu => ?_⟩
          rw [← hg1 i hi] at hu
          obtain ⟨p1, v, p2, p3⟩ := q5 i j u hi hu
          exact ⟨p1, v, p2, p3.mono (fun b hb => .inl hb) (fun _ _ => rfl)⟩
        · rw [List.getElem?_set_ne hko] at hk
          by_cases hd : ob.live = true
          · have h1 := (hH.ob k ob hk).mono hEE (hkeep k ⟨_, hk, hd⟩ (fun e => hko e.symm))
            have hE2 : Ext w' Z m (H.set o (.arr sz' len (res (renUs [o] us) len g).2)) w' (fun b => Z' b ∨ ∃ o, o ≠ 0 ∧ liveAt st'.heap o ∧ m' o = b) m (H.set o (.arr sz' len (res (renUs [o] us) len g).2)) → True := fun _ => trivial
            cases ob with
            | dead => trivial
            | free => trivial
            | arr sz2 n2 g2 =>
              obtain ⟨p0, c2, el2, fr2, p1, p2, p3, p4, p5⟩ := h1
              refine ⟨p0, c2, el2, fr2, p1, p2, p3, p4, fun i j u hi hu => ?_⟩
              obtain ⟨t1, v, t2, t3⟩ := p5 i j u hi hu
              exact ⟨t1, v, t2, t3.mono (fun b hb => .inl (hE'.sub b hb)) (fun _ _ => rfl)⟩
            | box cs2 =>
              obtain ⟨c2, el2, fr2, p1, p2, p3, p4⟩ := h1
              refine ⟨c2, el2, fr2, p1, p2, p3, fun j u hu => ?_⟩
              obtain ⟨v, t2, t3⟩ := p4 j u hu
              exact ⟨v, t2, t3.zone (fun b hb => .inl (hE'.sub b hb))⟩
          · cases ob <;> simp_all [ObOK, HO.live]
    · rw [← hx] at hsc ⊢
      refine .f _ _ ?_
      match ys, vs, hL2, hsc with
      | [y], [v], hL2, hsc => exact (hL2.2 0 y v rfl rfl).scalar_any hsc
      | [], [], hL2, hsc => exact .tup [] [] rfl fun j u v hu => by simp at hu
      | y1 :: y2 :: ys, v1 :: v2 :: vs, hL2, hsc =>
        have := RepF.scalar_any (w' := w') (Z' := fun b => Z' b ∨ ∃ o, o ≠ 0 ∧ liveAt st'.heap o ∧ m' o = b) (RepF.tup (w := w') _ _ hL2.1 hL2.2) hsc
        simpa [tupF] using this
      | [_], [], hL2, _ => have := hL2.1; simp at this
      | [_], _ :: _ :: _, hL2, _ => have := hL2.1; simp at this
      | [], _ :: _, hL2, _ => have := hL2.1; simp at this
      | _ :: _ :: _, [], hL2, _ => have := hL2.1; simp at this
      | _ :: _ :: _, [_], hL2, _ => have := hL2.1; simp at this
    · rw [henter]; exact hs
  · rename_i hrf
    split at hp
    case h_2 => cases hp
    rename_i xs hxs
    have hres : lentRes res res0 us H = (.f (res0 xs), H) := by simp only [lentRes, hrf, hxs]
    rw [hres]
    obtain ⟨hl2, hg2⟩ := toFs_get us xs hxs
    have hL2 : RepL w Z xs args.toList := by
      refine ⟨by rw [← hL.1]; exact hl2.symm, fun j u v hu hv => ?_⟩
      have hj := (List.getElem?_eq_some_iff.1 hu).1
      have huj : us[j]? = some us[j] := List.getElem?_eq_getElem (by omega)
      exact toF_rep_nil hH (hL.2 j _ v huj hv) (hg2 j _ u huj hu)
    refine (h0 xs hp w Z args hH.zlt hL2).mono fun v w' ⟨g, Z', hZ', hr⟩ => ?_
    have hE : Ext w Z m H w' Z m H := by
      refine ⟨g.os, g.tape, g.output, g.size, fun _ h => h, fun _ h => .inl h, fun b hb => g.old b (hH.zlt b hb), fun b hb _ => g.old b hb, Nat.le_refl _, fun o ob ob' h1 h2 => ?_, fun o h => .inl ⟨h, rfl⟩⟩
      rw [h1] at h2; cases h2
      cases ob with
      | arr sz n g' => exact ⟨rfl, Nat.le_refl _, fun _ => ⟨rfl, by simp only [blockCells, g.old _ (hH.blk_lt ⟨_, h1, rfl⟩)]⟩⟩
      | _ => simp [Evol]
    refine ⟨Z, m, hE, ⟨fun b hb => Nat.lt_of_lt_of_le (hH.zlt b hb) g.size, hH.apart, hH.inj, fun o ob ho => ?_⟩, .f _ _ (hr.scalar_any (hs0 xs hp))⟩
    by_cases hd : ob.live = true
    · exact (hH.ob o ob ho).mono hE (g.old _ (hH.blk_lt ⟨_, ho, hd⟩))
    · cases ob <;> simp_all [ObOK, HO.live]
  · cases hp
end
end Go.Proofs.Ytjbilidfnfnpfaa.R
