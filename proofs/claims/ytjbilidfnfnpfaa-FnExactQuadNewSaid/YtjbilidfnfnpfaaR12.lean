/-
  The own reflective walk, part 12: slice literals, conversions.
-/
import Derived.Test.YtjbilidfnfnpfaaR11
namespace Go.Proofs.Ytjbilidfnfnpfaa.R
open Go
set_option linter.unusedVariables false
set_option linter.unusedSimpArgs false

section
variable {P : Program} {w : World} {Z : Nat → Prop} {m : Nat → Nat} {H : List HO} {ty : TypeId → Option TI} {ρ : Type} {r : ρ} {st : St} {K : U → St → Option ρ}

mutual
theorem objs_live : ∀ (u : U) (x : F), toF H u = some x → ∀ o ∈ objs u, liveAt H o
  | .agg us, x, h, o, ho => by
    simp only [toF] at h
    cases hx : toFs H us with
    | none => rw [hx] at h; cases h
    | some xs => exact objsAll_live us xs hx o (by simpa [objs] using ho)
  | .tup us, x, h, o, ho => by
    simp only [toF] at h
    cases hx : toFs H us with
    | none => rw [hx] at h; cases h
    | some xs => exact objsAll_live us xs hx o (by simpa [objs] using ho)
  | .hs o' gen off len, x, h, o, ho => by
    simp only [objs, List.mem_singleton] at ho
    subst ho
    simp only [toF] at h
    split at h
    · rename_i sz n g he; exact ⟨_, he, rfl⟩
    · cases h
  | .f _, _, _, _, ho => by simp [objs] at ho
  | .hp _ _, _, _, _, ho => by simp [objs] at ho
  | .ep _ _ _ _, _, _, _, ho => by simp [objs] at ho
  | .va _, _, _, _, ho => by simp [objs] at ho
  | .nilp, _, _, _, ho => by simp [objs] at ho
  | .nils, _, _, _, ho => by simp [objs] at ho
  | .fn _ _, _, _, _, ho => by simp [objs] at ho
  | .nilfn, _, _, _, ho => by simp [objs] at ho
  | .undef, _, _, _, ho => by simp [objs] at ho
  | .bad, _, _, _, ho => by simp [objs] at ho
theorem objsAll_live : ∀ (us : List U) (xs : List F), toFs H us = some xs → ∀ o ∈ objsAll us, liveAt H o
  | [], _, _, o, ho => by simp [objsAll] at ho
  | u :: us, xs, h, o, ho => by
    simp only [toFs] at h
    split at h
    · rename_i x xs' hx hxs
      simp only [objsAll, List.mem_append] at ho
      rcases ho with ho | ho
      · exact objs_live u x hx o ho
      · exact objsAll_live us xs' hxs o ho
    · cases h
end

/-- Objects fall away. -/
theorem killAll_sound : ∀ (os : List Nat) (H : List HO) (Z : Nat → Prop), HOK w Z m H → (∀ o ∈ os, ∃ ob, H[o]? = some ob ∧ (ob.live = true ∨ ob = .dead)) →
    ∃ Z', Ext w Z m H w Z' m (killAll H os) ∧ HOK w Z' m (killAll H os) ∧ (∀ o ∈ os, liveAt H o → Z' (m o)) ∧ ∀ k : Nat, H[k]? = some HO.free → (killAll H os)[k]? = some HO.free
  | [], H, Z, hH, _ => ⟨Z, Ext.refl _ _ _ _, hH, fun o ho => by simp at ho, fun k h => h⟩
  | o :: os, H, Z, hH, hos => by
    obtain ⟨ob, ho, hob⟩ := hos o (List.mem_cons_self ..)
    rcases hob with hlive | hdead
    · have hl : liveAt H o := ⟨ob, ho, hlive⟩
      obtain ⟨hE, hH'⟩ := ext_kill hH hl
      have hlt := (List.getElem?_eq_some_iff.1 ho).1
      obtain ⟨Z', hE', hH'', hz, hfr⟩ := killAll_sound os (H.set o .dead) _ hH' (fun k hk => by
        obtain ⟨ob', h', hob'⟩ := hos k (List.mem_cons_of_mem _ hk)
        by_cases hko : o = k
        · subst hko; exact ⟨.dead, by simp [hlt], .inr rfl⟩
        · exact ⟨ob', by rw [List.getElem?_set_ne hko]; exact h', hob'⟩)
      refine ⟨Z', hE.trans hE', hH'', fun k hk hkl => ?_, fun k hk => hfr k ?_⟩
      · by_cases hko : k = o
        · subst hko; exact hE'.sub _ (.inr rfl)
        · rcases List.mem_cons.1 hk with h | h
          · exact absurd h hko
          · obtain ⟨ob', h', hob'⟩ := hkl
            exact hz k h ⟨ob', by rw [List.getElem?_set_ne (Ne.symm hko)]; exact h', hob'⟩
      · have : o ≠ k := by rintro rfl; rw [ho] at hk; cases hk; cases hlive
        rw [List.getElem?_set_ne this]; exact hk
    · subst hdead
      have hlt := (List.getElem?_eq_some_iff.1 ho).1
      have e : H.set o .dead = H := by
        apply List.ext_getElem?
        intro k
        by_cases hk : o = k
        · subst hk; rw [ho]; simp [hlt]
        · rw [List.getElem?_set_ne hk]
      obtain ⟨Z', hE', hH'', hz, hfr⟩ := killAll_sound os H Z hH (fun k hk => hos k (List.mem_cons_of_mem _ hk))
      simp only [killAll, e]
      refine ⟨Z', hE', hH'', fun k hk hkl => ?_, hfr⟩
      rcases List.mem_cons.1 hk with h | h
      · subst h; obtain ⟨ob', h', hob'⟩ := hkl; rw [ho] at h'; cases h'; cases hob'
      · exact hz k h hkl

/-- Values that are data, after their objects have fallen away. -/
theorem freeze_sound (hH : HOK w Z m H) {us : List U} {vs : List Value} (hr : RepUs w Z m H us vs) {xs : List F} (hx : toFs H us = some xs) :
    ∃ Z', Ext w Z m H w Z' m (killAll H (objsAll us)) ∧ HOK w Z' m (killAll H (objsAll us)) ∧ RepL w Z' xs vs ∧ ∀ k : Nat, H[k]? = some HO.free → (killAll H (objsAll us))[k]? = some HO.free := by
  obtain ⟨Z', hE, hH', hz, hfr⟩ := killAll_sound (objsAll us) H Z hH (fun o ho => by
    obtain ⟨ob, h, hl⟩ := objsAll_live us xs hx o ho
    exact ⟨ob, h, .inl hl⟩)
  refine ⟨Z', hE, hH', ?_, hfr⟩
  obtain ⟨hl, hg⟩ := toFs_get us xs hx
  refine ⟨by rw [← hl]; exact hr.1, fun j x v hx' hv => ?_⟩
  have hj := (List.getElem?_eq_some_iff.1 hx').1
  have hu : us[j]? = some us[j] := List.getElem?_eq_getElem (by omega)
  refine (toF_rep hH (fun _ _ h => h) (hr.2 j _ v hu hv) (hg j _ x hu hx')).mono ?_ (fun _ _ => rfl)
  rintro b (hb | ⟨o, ho, hlv, rfl⟩)
  · exact hE.sub b hb
  · exact hz o (objsAll_mem us _ o (List.getElem_mem _) ho) hlv

theorem flat_get {α : Type} (l : List α) (n i j : Nat) (hi : i < n) (hj : j < l.length) : ((List.replicate n l).flatten)[i * l.length + j]? = l[j]? := by
  induction n generalizing i with
  | zero => omega
  | succ n ih =>
    rw [List.replicate_succ, List.flatten_cons]
    cases i with
    | zero => rw [List.getElem?_append_left (by omega)]; simp
    | succ i =>
      rw [List.getElem?_append_right (by rw [Nat.add_mul]; omega)]
      have : (i + 1) * l.length + j - l.length = i * l.length + j := by rw [Nat.add_mul]; omega
      rw [this]; exact ih i (by omega)

theorem buildSlice_sound (hty : TyOK P ty) (hH : HOK w Z m st.heap) {slot : Option Nat} (hs : SlotOK st.heap slot) {t : TypeId} {len : Nat} {ps : List (Nat × U)} {qs : Array (Nat × Value)} (hp : RepParts w Z m st.heap ps qs.toList)
    (h : evBuildSlice ty slot t len ps st K = some r) :
    ∃ u st', K u st' = some r ∧ st'.tmps = st.tmps ∧ ∃ v w' Z' m', (Instr.buildSlice t len qs).run P w = .ok v w' ∧ Ext w Z m st.heap w' Z' m' st'.heap ∧ HOK w' Z' m' st'.heap ∧ RepU w' Z' m' st'.heap u v := by
  unfold evBuildSlice at h
  split at h
  · rename_i ti hti
    obtain ⟨d, hd, hu⟩ := under_of (hty.2 _ _ hti)
    split at h
    · rename_i e huk
      rw [huk] at hu
      obtain rfl := ukOf_slice hu.symm
      split at h
      · rename_i te hte
        split at h
        · rename_i us hus
          split at h
          · rename_i xs hxs
            replace h := bsel_some h; obtain ⟨h1, h⟩ := h
            simp only [Bool.and_eq_true, bne_iff_ne, ne_eq, beq_iff_eq, decide_eq_true_eq] at h1
            obtain ⟨⟨⟨⟨⟨h0, hzl⟩, hlim⟩, hone⟩, hcell⟩, _⟩ := h1
            obtain ⟨z, hz, hzc⟩ := run_zero (hty.2 _ _ hte) w
            have hzs : z.cells.size = te.size := by have := congrArg List.length hzc; simp at this; omega
            let cells0 : Array Value := (Array.range (len * te.size)).map fun i => (if len * te.size = 0 then #[] else z.cells)[i % (if len * te.size = 0 then #[] else z.cells).size]!
            have hc0 : RepUs w Z m st.heap ((List.replicate len (te.zero.map cv)).flatten) cells0.toList := by
              refine ⟨by simp [cells0, hzl], fun j u v hu hv => ?_⟩
              have hjl := (List.getElem?_eq_some_iff.1 hu).1
              have hlf : ((List.replicate len (te.zero.map cv)).flatten).length = len * te.size := by simp [hzl]
              rw [hlf] at hjl
              have hne : ¬ len * te.size = 0 := by omega
              have hi : j / te.size < len := Nat.div_lt_of_lt_mul (by rw [Nat.mul_comm]; exact hjl)
              have hj : j % te.size < te.size := Nat.mod_lt _ (by omega)
              have hjj : j / te.size * te.size + j % te.size = j := by rw [Nat.mul_comm]; exact Nat.div_add_mod j te.size
              rw [← hjj] at hu hv
              have e1 := flat_get (te.zero.map cv) len (j / te.size) (j % te.size) hi (by simp [hzl]; omega)
              rw [List.length_map, hzl] at e1
              rw [e1] at hu
              simp only [cells0, if_neg hne] at hv
              rw [range_zero_get z.cells te.size len hzs h0 _ _ hi hj] at hv
              have e2 : te.zero[j % te.size]? = some (z.cells[j % te.size]'(by omega)) := by
                rw [← hzc]; simp [show j % te.size < z.cells.size by omega]
              rw [List.getElem?_map, e2] at hu
              cases hu; cases hv; exact cv_rep _
            obtain ⟨vs', e1, e2⟩ := fill_sound _ ps qs.toList _ us cells0 hp hc0 hus
            obtain ⟨Z', hE, hH', hL, hfr⟩ := freeze_sound hH e2 hxs
            have hs' : SlotOK ({ st with heap := killAll st.heap (objsAll us) } : St).heap slot := fun k hk => hfr k (hs k hk)
            have hulen : us.length = len * te.size := by
              have h1 := e2.1
              have hsz : vs'.size = cells0.size := by
                have : ∀ (place : Nat → Option (Nat × Nat)) (l : List (Nat × Value)) (c c' : Array Value), Instr.fill place c l = some c' → c'.size = c.size := by
                  intro place l
                  induction l with
                  | nil => intro c c' h; simp only [Instr.fill, Option.some.injEq] at h; rw [h]
                  | cons p l ih =>
                    intro c c' h
                    obtain ⟨i, v⟩ := p
                    simp only [Instr.fill] at h
                    split at h
                    · cases h
                    · split at h
                      · cases h
                      · have := ih _ _ h
                        rw [this]
                        have hfl : ∀ off : Nat, (v.cells.zipIdx.foldl (fun cs (x : Value × Nat) => cs.setIfInBounds (off + x.2) x.1) c).size = c.size := fun off => by
                          rw [← Array.length_toList, fill_cells, wr_length]; simp
                        exact hfl _
                exact this _ _ _ _ e1
              rw [h1]; simp [hsz, cells0]
            have hxl : xs.length = len * te.size := by rw [← toFs_length hxs]; exact hulen
            have hrow : ∀ i, i < len → (lget (chunks te.isAgg te.size len xs) i).cells = (xs.drop (i * te.size)).take te.size := by
              intro i hi
              rw [chunks_get _ _ _ _ _ hi]
              have hin : (i + 1) * te.size ≤ len * te.size := Nat.mul_le_mul_right _ hi
              rw [Nat.add_mul] at hin
              unfold mkF
              cases hag : te.isAgg with
              | true => rfl
              | false =>
                rw [hag] at hone
                simp only [Bool.false_or, beq_iff_eq] at hone
                have hl1 : ((xs.drop (i * te.size)).take te.size).length = 1 := by simp; omega
                match hq : (xs.drop (i * te.size)).take te.size, hl1 with
                | [x], _ =>
                  have hmem : x ∈ xs := List.mem_of_mem_drop (List.mem_of_mem_take (by rw [hq]; exact List.mem_singleton.2 rfl))
                  have := List.all_eq_true.1 hcell x hmem
                  simp only [Bool.false_eq_true, if_false, List.headD_cons]
                  cases x <;> first | rfl | simp [cellF] at this
            obtain ⟨m', p1, p2, p3⟩ := row_sound (st := { st with heap := killAll st.heap (objsAll us) }) hH' hs' e te.size len len (lget (chunks te.isAgg te.size len xs)) vs'.toList h0 (Nat.le_refl _)
              (by rw [← hL.1]; exact hxl)
              (fun i hi => by
                rw [hrow i hi]
                have hin : (i + 1) * te.size ≤ len * te.size := Nat.mul_le_mul_right _ hi
                rw [Nat.add_mul] at hin
                simp; omega)
              (fun i j u hi hu => by
                rw [hrow i hi, getD_drop_take] at hu
                split at hu
                · have hlt := (List.getElem?_eq_some_iff.1 hu).1
                  refine ⟨List.all_eq_true.1 hcell u (List.mem_of_getElem? hu), vs'.toList[i * te.size + j]'(by rw [← hL.1]; exact hlt), List.getElem?_eq_getElem _, hL.2 _ _ _ hu (List.getElem?_eq_getElem _)⟩
                · cases hu)
            refine ⟨_, _, h, new_tmps _ _ _, .slice (some ⟨w.heap.size, 0, none⟩) len len, _, Z', m', ?_, hE.trans p1, p2, ?_⟩
            · unfold Instr.buildSlice
              simp only [Sem.run_bind, run_under hd, Result.andThen, run_size (hty.2 _ _ hte)]
              rw [if_neg (by omega)]
              by_cases hn : len * te.size = 0
              · have e1' := e1
                simp only [cells0, if_pos hn] at e1'
                simp only [if_pos hn, Sem.run_pure, e1', newRow, Sem.run_bind, run_newObj, Result.andThen, Array.toArray_toList]
                rfl
              · have e1' := e1
                simp only [cells0, if_neg hn] at e1'
                simp only [if_neg hn, hz, Result.andThen, Sem.run_bind, Sem.run_pure, e1', newRow, run_newObj, Array.toArray_toList]
                rfl
            · have : (({ st with heap := killAll st.heap (objsAll us) } : St).new slot .dead).1 = (st.new slot .dead).1 := by
                cases slot with
                | some k => rfl
                | none =>
                  simp only [St.new]
                  have := hE.len
                  have : ∀ (os : List Nat) (H : List HO), (killAll H os).length = H.length := by
                    intro os
                    induction os with
                    | nil => intro H; rfl
                    | cons o os ih => intro H; simp only [killAll, ih, List.length_set]
                  exact this _ _
              rw [this] at p3
              exact p3
          · cases h
        · cases h
      · cases h
    · cases h
  · cases h
end
end Go.Proofs.Ytjbilidfnfnpfaa.R
