/-
  The own reflective walk, part 16: the machine on one frame; functions of data.
-/
import Derived.Test.YtjbilidfnfnpfaaR22
namespace Go.Proofs.Ytjbilidfnfnpfaa.R
open Go
set_option linter.unusedVariables false
set_option linter.unusedSimpArgs false

section
variable {P : Program} {w : World} {Z : Nat → Prop} {m : Nat → Nat} {H : List HO} {ty : TypeId → Option TI} {C : Env} {ρ : Type} {r : ρ} {st : St} {a : Act}

theorem belows_get {k : Nat} : ∀ (us : List U), usBelow k us = true → ∀ (j : Nat) (u : U), us[j]? = some u → uBelow k u = true
  | [], _, j, u, h => by simp at h
  | x :: us, hb, j, u, h => by
    simp only [usBelow, Bool.and_eq_true] at hb
    cases j with
    | zero => simp at h; exact h ▸ hb.1
    | succ j => simp at h; exact belows_get us hb.2 j u h

theorem take_get {k o : Nat} (h : o < k) : (H.take k)[o]? = H[o]? := by
  rw [List.getElem?_take, if_pos h]

theorem RepU.take {k : Nat} {u : U} {v : Value} (h : RepU w Z m H u v) : uBelow k u = true → RepU w Z m (H.take k) u v := by
  induction h with
  | f x v h => intro _; exact .f x v h
  | agg cs vs hl hr ih => intro hb; exact .agg cs vs hl fun j u v hu hv => ih j u v hu hv (belows_get cs (by simpa [uBelow] using hb) j u hu)
  | tup cs vs hl hr ih => intro hb; exact .tup cs vs hl fun j u v hu hv => ih j u v hu hv (belows_get cs (by simpa [uBelow] using hb) j u hu)
  | fn f us vs hl hr ih => intro hb; exact .fn f us vs hl fun j u v hu hv => ih j u v hu hv (belows_get us (by simpa [uBelow] using hb) j u hu)
  | hs o gen off len v h1 ho hg hv =>
    intro hb
    simp only [uBelow, decide_eq_true_eq] at hb
    obtain ⟨ob, hob, hnf⟩ := ho
    refine .hs o gen off len v h1 ⟨ob, by rw [take_get hb]; exact hob, hnf⟩ (fun sz n g e => ?_) (fun sz n g e eg => ?_)
    · rw [take_get hb] at e; exact hg _ _ _ e
    · rw [take_get hb] at e; exact hv _ _ _ e eg
  | hp o off v h1 ho hv =>
    intro hb
    simp only [uBelow, decide_eq_true_eq] at hb
    obtain ⟨ob, hob, hnf⟩ := ho
    refine .hp o off v h1 ⟨ob, by rw [take_get hb]; exact hob, hnf⟩ (fun cs e => ?_)
    rw [take_get hb] at e; exact hv _ e
  | ep o gen i off v h1 ho hg hv =>
    intro hb
    simp only [uBelow, decide_eq_true_eq] at hb
    obtain ⟨ob, hob, hnf⟩ := ho
    refine .ep o gen i off v h1 ⟨ob, by rw [take_get hb]; exact hob, hnf⟩ (fun sz n g e => ?_) (fun sz n g e eg => ?_)
    · rw [take_get hb] at e; exact hg _ _ _ e
    · rw [take_get hb] at e; exact hv _ _ _ e eg
  | va cs ad hZ V hV hr => intro _; exact .va cs ad hZ V hV hr
  | nilp => intro _; exact .nilp
  | nils A => intro _; exact .nils A
  | nilfn => intro _; exact .nilfn
  | undef => intro _; exact .undef
  | bad v => intro _; exact .bad v

theorem live_take {k o : Nat} (h : liveAt (H.take k) o) : liveAt H o := by
  obtain ⟨ob, h, hl⟩ := h
  rw [List.getElem?_take] at h
  split at h
  · exact ⟨ob, h, hl⟩
  · cases h

theorem HOK.take {k : Nat} (hH : HOK w Z m H) (hb : (H.take k).all (obBelow k) = true) : HOK w Z m (H.take k) := by
  refine ⟨hH.zlt, fun o ho => hH.apart o (live_take ho), fun o o' h h' => hH.inj o o' (live_take h) (live_take h'), fun o ob ho => ?_⟩
  have hbb := List.all_eq_true.1 hb ob (List.mem_of_getElem? ho)
  rw [List.getElem?_take] at ho
  split at ho
  · have := hH.ob o ob ho
    cases ob with
    | dead => trivial
    | free => trivial
    | arr sz n g => exact this
    | box cs =>
      obtain ⟨c, el, fr, h1, h2, h3, h4⟩ := this
      refine ⟨c, el, fr, h1, h2, h3, fun j u hu => ?_⟩
      obtain ⟨v, hv, hr⟩ := h4 j u hu
      exact ⟨v, hv, hr.take (belows_get cs (by simpa [obBelow] using hbb) j u hu)⟩
  · cases ho

theorem Ext.take {w0 : World} {Z0 : Nat → Prop} {m0 : Nat → Nat} {H0 : List HO} {k : Nat} (hE : Ext w0 Z0 m0 H0 w Z m H) (hk : H0.length ≤ k) : Ext w0 Z0 m0 H0 w Z m (H.take k) := by
  refine ⟨hE.os, hE.tape, hE.output, hE.size, hE.sub, hE.back, hE.kept, hE.rest, ?_, fun o ob ob' h h' => ?_, fun o ho => hE.new o (live_take ho)⟩
  · have := hE.len
    rw [List.length_take]; omega
  · have hlt := (List.getElem?_eq_some_iff.1 h).1
    rw [take_get (by omega)] at h'
    exact hE.evol o ob ob' h h'

theorem clear_get (lv : List Nat) : ∀ (us : List U) (i j : Nat) (u : U), (clearFrom lv i us)[j]? = some u → u = .bad ∨ us[j]? = some u
  | [], i, j, u, h => by simp [clearFrom] at h
  | x :: us, i, j, u, h => by
    simp only [clearFrom] at h
    cases j with
    | zero =>
      simp only [List.getElem?_cons_zero, Option.some.injEq] at h
      split at h
      · right; simp [h]
      · left; exact h.symm
    | succ j => simp at h; simpa using clear_get lv us (i + 1) j u h
theorem clear_len (lv : List Nat) : ∀ (us : List U) (i : Nat), (clearFrom lv i us).length = us.length
  | [], _ => rfl
  | _ :: us, i => by simp [clearFrom, clear_len lv us]

/-! Objects numbered anew. -/
theorem hasN_mem : ∀ (ks : List Nat) (o : Nat), hasN ks o = true → ks[idx ks o]? = some o
  | [], o, h => by simp [hasN] at h
  | x :: xs, o, h => by
    unfold hasN at h
    unfold idx
    by_cases e : Nat.beq x o = true
    · rw [if_pos e]; simp [Nat.eq_of_beq_eq_true e]
    · rw [if_neg e]
      have e' : Nat.beq x o = false := Bool.eq_false_iff.2 e
      rw [e', Bool.false_or] at h
      simpa using hasN_mem xs o h
theorem refsAll_get {ks : List Nat} : ∀ (us : List U), (refsAll us).all (hasN ks) = true → ∀ (j : Nat) (u : U), us[j]? = some u → (refs u).all (hasN ks) = true
  | [], _, j, u, h => by simp at h
  | x :: us, hb, j, u, h => by
    simp only [refsAll, List.all_append, Bool.and_eq_true] at hb
    cases j with
    | zero => simp at h; exact h ▸ hb.1
    | succ j => simp at h; exact refsAll_get us hb.2 j u h
theorem renUs_get {ks : List Nat} : ∀ (us : List U) (j : Nat) (u : U), (renUs ks us)[j]? = some u → ∃ x, us[j]? = some x ∧ u = renU ks x
  | [], j, u, h => by simp [renUs] at h
  | x :: us, j, u, h => by
    cases j with
    | zero => simp [renUs] at h; exact ⟨x, rfl, h.symm⟩
    | succ j => simp [renUs] at h; simpa using renUs_get us j u h
theorem renUs_len (ks : List Nat) : ∀ us : List U, (renUs ks us).length = us.length
  | [] => rfl
  | _ :: us => by simp [renUs, renUs_len ks us]

section
variable {ks : List Nat} {H' : List HO} {m' : Nat → Nat}

theorem ren_get (hH' : H' = ks.map fun o => renOb ks (H.getD o .dead)) {o : Nat} {ob : HO} (hk : hasN ks o = true) (ho : H[o]? = some ob) : H'[idx ks o]? = some (renOb ks ob) := by
  subst hH'
  simp [hasN_mem ks o hk, ho]
theorem renOb_arr {ob : HO} {sz n : Nat} {g : Nat → F} (h : renOb ks ob = .arr sz n g) : ob = .arr sz n g := by cases ob <;> simp_all [renOb]
theorem renOb_box {ob : HO} {cs : List U} (h : renOb ks ob = .box cs) : ∃ us, ob = .box us ∧ cs = renUs ks us := by cases ob <;> simp_all [renOb]
theorem renOb_free {ob : HO} (h : ob ≠ .free) : renOb ks ob ≠ .free := by cases ob <;> simp_all [renOb]
theorem renOb_live {ob : HO} : (renOb ks ob).live = ob.live := by cases ob <;> rfl

theorem RepU.ren (hH' : H' = ks.map fun o => renOb ks (H.getD o .dead)) (hm : ∀ o, hasN ks o = true → m' (idx ks o) = m o) {u : U} {v : Value} (h : RepU w Z m H u v) : (refs u).all (hasN ks) = true → RepU w Z m' H' (renU ks u) v := by
  have map : ∀ (cs : List U) (vs : List Value), (∀ (j : Nat) (u : U) (v : Value), cs[j]? = some u → vs[j]? = some v → (refs u).all (hasN ks) = true → RepU w Z m' H' (renU ks u) v) → (refsAll cs).all (hasN ks) = true → ∀ (j : Nat) (u : U) (v : Value), (renUs ks cs)[j]? = some u → vs[j]? = some v → RepU w Z m' H' u v := by
    intro cs vs ih hb j u v hu hv
    obtain ⟨x, hx, rfl⟩ := renUs_get cs j u hu
    exact ih j x v hx hv (refsAll_get cs hb j x hx)
  induction h with
  | f x v h => intro _; exact .f x v h
  | agg cs vs hl hr ih => intro hb; exact .agg _ vs (by rw [renUs_len]; exact hl) (map cs vs ih (by simpa [refs] using hb))
  | tup cs vs hl hr ih => intro hb; exact .tup _ vs (by rw [renUs_len]; exact hl) (map cs vs ih (by simpa [refs] using hb))
  | fn f us vs hl hr ih => intro hb; exact .fn f _ vs (by rw [renUs_len]; exact hl) (map us vs ih (by simpa [refs] using hb))
  | hs o gen off len v h1 ho hg hv =>
    intro hb
    have hb : hasN ks o = true := by simpa [refs] using hb
    obtain ⟨ob, hob, hnf⟩ := ho
    have hget := ren_get hH' hb hob
    refine .hs _ gen off len v h1 ⟨_, hget, renOb_free hnf⟩ (fun sz n g e => ?_) (fun sz n g e eg => ?_)
    · rw [hget] at e; exact hg sz n g (by rw [hob, renOb_arr (Option.some.inj e)])
    · rw [hget] at e; rw [hm o hb]; exact hv sz n g (by rw [hob, renOb_arr (Option.some.inj e)]) eg
  | hp o off v h1 ho hv =>
    intro hb
    have hb : hasN ks o = true := by simpa [refs] using hb
    obtain ⟨ob, hob, hnf⟩ := ho
    have hget := ren_get hH' hb hob
    refine .hp _ off v h1 ⟨_, hget, renOb_free hnf⟩ (fun cs e => ?_)
    rw [hget] at e
    obtain ⟨us, rfl, _⟩ := renOb_box (Option.some.inj e)
    rw [hm o hb]; exact hv _ hob
  | ep o gen i off v h1 ho hg hv =>
    intro hb
    have hb : hasN ks o = true := by simpa [refs] using hb
    obtain ⟨ob, hob, hnf⟩ := ho
    have hget := ren_get hH' hb hob
    refine .ep _ gen i off v h1 ⟨_, hget, renOb_free hnf⟩ (fun sz n g e => ?_) (fun sz n g e eg => ?_)
    · rw [hget] at e; exact hg sz n g (by rw [hob, renOb_arr (Option.some.inj e)])
    · rw [hget] at e; rw [hm o hb]; exact hv sz n g (by rw [hob, renOb_arr (Option.some.inj e)]) eg
  | va cs ad hZ V hV hr => intro _; exact .va cs ad hZ V hV hr
  | nilp => intro _; exact .nilp
  | nils A => intro _; exact .nils A
  | nilfn => intro _; exact .nilfn
  | undef => intro _; exact .undef
  | bad v => intro _; exact .bad v
end

theorem keep_nodup (hn : Nat) (q : Nat → Bool) (n : Nat) : (List.range hn ++ (List.range n).filter fun o => (!Nat.blt o hn) && q o).Nodup := by
  rw [List.nodup_append]
  refine ⟨List.nodup_range, List.nodup_range.filter _, ?_⟩
  intro a ha b hb e
  subst e
  rw [List.mem_range] at ha
  simp only [List.mem_filter, Bool.and_eq_true, Bool.not_eq_true'] at hb
  have := hb.2.1
  unfold Nat.blt at this
  have h2 : Nat.ble (a + 1) hn = true := Nat.ble_eq_true_of_le ha
  rw [Nat.succ_eq_add_one, h2] at this
  cases this
theorem idx_get : ∀ (ks : List Nat), ks.Nodup → ∀ (j o : Nat), ks[j]? = some o → idx ks o = j
  | [], _, j, o, h => by simp at h
  | x :: xs, hn, j, o, h => by
    rw [List.nodup_cons] at hn
    unfold idx
    cases j with
    | zero =>
      simp at h; subst h
      rw [if_pos (Nat.beq_refl x)]
    | succ j =>
      simp at h
      have hne : ¬ Nat.beq x o = true := fun e => hn.1 (Nat.eq_of_beq_eq_true e ▸ List.mem_of_getElem? h)
      rw [if_neg hne, idx_get xs hn.2 j o h]

theorem gc_sound {hn : Nat} {us : List U} {K : St → Option ρ} {w0 : World} {Z0 : Nat → Prop} {m0 : Nat → Nat} {H0 : List HO} (hl : us.length = a.tmps.size) (hus : ∀ (i : Nat) (u : U) (v : Value), us[i]? = some u → a.tmps[i]? = some v → RepU w Z m H u v) (hok : HOK w Z m H)
    (hE : Ext w0 Z0 m0 H0 w Z m H) (hhn : hn = H0.length) {vs : List U} (h : evGc hn us H (keepOf hn H vs) K = some r) : ∃ st' m', K st' = some r ∧ AOK w Z m' st' a ∧ Ext w0 Z0 m0 H0 w Z m' st'.heap := by
  unfold evGc at h
  replace h := bsel_some h; obtain ⟨h1, h⟩ := h
  simp only [Bool.and_eq_true, decide_eq_true_eq] at h1
  obtain ⟨⟨h1, h2⟩, h3⟩ := h1
  have hnd : (keepOf hn H vs).Nodup := keep_nodup hn _ _
  have hpre : ∀ o, o < hn → (keepOf hn H vs)[o]? = some o := fun o ho => by
    unfold keepOf
    rw [List.getElem?_append_left (by simpa using ho), List.getElem?_range ho]
  generalize hks : keepOf hn H vs = ks at *
  have hidx : ∀ o, o < hn → idx ks o = o := fun o ho => idx_get ks hnd o o (hpre o ho)
  let m' : Nat → Nat := fun j => m (ks.getD j 0)
  have hm : ∀ o, hasN ks o = true → m' (idx ks o) = m o := fun o ho => by
    have := hasN_mem ks o ho
    simp only [m', List.getD, this, Option.getD_some]
  have hget : ∀ (j : Nat) (ob : HO), (ks.map fun o => renOb ks (H.getD o .dead))[j]? = some ob → ∃ o, ks[j]? = some o ∧ m' j = m o ∧ ob = renOb ks (H.getD o .dead) := fun j ob hj => by
    rw [List.getElem?_map] at hj
    cases hk : ks[j]? with
    | none => rw [hk] at hj; cases hj
    | some o => rw [hk] at hj; cases hj; exact ⟨o, rfl, by simp [m', List.getD, hk], rfl⟩
  have hlive : ∀ j, liveAt (ks.map fun o => renOb ks (H.getD o .dead)) j → ∃ o, ks[j]? = some o ∧ m' j = m o ∧ liveAt H o := fun j ⟨ob, hj, hl⟩ => by
    obtain ⟨o, h1, h2, rfl⟩ := hget j ob hj
    rw [renOb_live] at hl
    refine ⟨o, h1, h2, ?_⟩
    cases ho : H[o]? with
    | none => simp [List.getD, ho, HO.live] at hl
    | some ob => exact ⟨ob, ho, by simpa [List.getD, ho] using hl⟩
  have hH' : (ks.map fun o => renOb ks (H.getD o .dead)) = ks.map fun o => renOb ks (H.getD o .dead) := rfl
  refine ⟨_, m', h, ⟨by simp [renUs_len, hl], fun i u v hu hv => ?_, ⟨hok.zlt, ?_, ?_, ?_⟩⟩, ?_⟩
  · obtain ⟨x, hx, rfl⟩ := renUs_get us i u hu
    exact (hus i x v hx hv).ren rfl hm (refsAll_get us h2 i x hx)
  · intro j hj
    obtain ⟨o, _, e, ho⟩ := hlive j hj
    rw [e]; exact hok.apart o ho
  · intro j j' hj hj' e
    obtain ⟨o, h1, e1, ho⟩ := hlive j hj
    obtain ⟨o', h1', e1', ho'⟩ := hlive j' hj'
    rw [e1, e1'] at e
    have := hok.inj o o' ho ho' e
    subst this
    rw [← idx_get ks hnd j o h1, ← idx_get ks hnd j' o h1']
  · intro j ob hj
    obtain ⟨o, h1, e, rfl⟩ := hget j ob hj
    cases ho : H[o]? with
    | none => simp [List.getD, ho, renOb, ObOK]
    | some ob0 =>
      have hob := hok.ob o ob0 ho
      simp only [List.getD, ho, Option.getD_some, e]
      cases ob0 with
      | dead => trivial
      | free => trivial
      | arr sz n g => exact hob
      | box cs =>
        obtain ⟨c, el, fr, q1, q2, q3, q4⟩ := hob
        refine ⟨c, el, fr, q1, q2, by rw [renUs_len]; exact q3, fun j u hu => ?_⟩
        obtain ⟨x, hx, rfl⟩ := renUs_get cs j u hu
        obtain ⟨v, hv, hr⟩ := q4 j x hx
        refine ⟨v, hv, hr.ren rfl hm ?_⟩
        have hmem := List.mem_of_getElem? h1
        have := List.all_eq_true.1 h3 o hmem
        simp only [List.getD, ho, Option.getD_some, obRefs] at this
        exact refsAll_get cs this j x hx
  · refine ⟨hE.os, hE.tape, hE.output, hE.size, hE.sub, hE.back, hE.kept, hE.rest, ?_, ?_, ?_⟩
    · rw [← hhn]
      simp only [List.length_map]
      rw [← hks]
      unfold keepOf
      rw [List.length_append, List.length_range]
      omega
    · intro o ob ob' ho ho'
      have hlt : o < hn := by rw [hhn]; exact (List.getElem?_eq_some_iff.1 ho).1
      obtain ⟨o1, k1, e, rfl⟩ := hget o ob' ho'
      rw [hpre o hlt] at k1; cases k1
      have hlt2 : o < H.length := Nat.lt_of_lt_of_le hlt h1
      have := hE.evol o ob H[o] ho (List.getElem?_eq_getElem hlt2)
      simp only [List.getD, List.getElem?_eq_getElem hlt2, Option.getD_some, e]
      generalize H[o] = ob1 at this
      cases ob <;> cases ob1 <;> simp_all [Evol, renOb, renUs_len]
    · intro j hj
      obtain ⟨o, h1, e, ho⟩ := hlive j hj
      rcases hE.new o ho with ⟨h2, h3⟩ | h2
      · obtain ⟨ob, hob, _⟩ := id h2
        have hlt : o < hn := by rw [hhn]; exact (List.getElem?_eq_some_iff.1 hob).1
        have : j = o := by rw [← idx_get ks hnd j o h1, hidx o hlt]
        subst this
        exact .inl ⟨h2, by rw [e, h3]⟩
      · exact .inr (by rw [e]; exact h2)

theorem norm_sound {hn k : Nat} {lv : List Nat} {K : St → Option ρ} {w0 : World} {Z0 : Nat → Prop} {m0 : Nat → Nat} {H0 : List HO} (hA : AOK w Z m st a) (hE : Ext w0 Z0 m0 H0 w Z m st.heap) (hhn : hn = H0.length)
    (h : evNorm hn lv k st K = some r) : ∃ st' m', K st' = some r ∧ AOK w Z m' st' a ∧ Ext w0 Z0 m0 H0 w Z m' st'.heap := by
  have hclear : ∀ (i : Nat) (u : U) (v : Value), (clearFrom lv 0 st.tmps)[i]? = some u → a.tmps[i]? = some v → RepU w Z m st.heap u v := fun i u v hu hv => by
    rcases clear_get lv _ _ _ _ hu with rfl | hu'
    · exact .bad v
    · exact hA.rep i u v hu' hv
  unfold evNorm at h
  cases hc : Nat.ble 1000 k with
  | true =>
    rw [hc, bsel_true] at h
    exact gc_sound (by simp [clear_len, hA.len]) hclear hA.hok hE hhn h
  | false =>
    rw [hc, bsel_false] at h
    replace h := bsel_some h; obtain ⟨h1, h⟩ := h
    simp only [Bool.and_eq_true, decide_eq_true_eq] at h1
    obtain ⟨⟨h1, h2⟩, h3⟩ := h1
    exact ⟨_, m, h, ⟨by simp [clear_len, hA.len], fun i u v hu hv => (hclear i u v hu hv).take (belows_get _ h2 i u hu), hA.hok.take h3⟩, hE.take (hhn ▸ h1)⟩

/-- Where a stretch of the walk has come to, in memory. -/
def Reach (P : Program) (hn : Nat) (rs : List ResultVar) (w0 : World) (Z0 : Nat → Prop) (m0 : Nat → Nat) (H0 : List HO) (ds : List Deferred) (b : Frame) (cs : List Frame) (M : Machine) : End → Prop
  | .ret x => ∃ st' a' w' todo, retF P hn rs st' = some x ∧ Goes w0 Z0 m0 H0 ds st' a' w' ∧ Steps P M (lone { b.at a' todo with mode := .returning } cs w')
  | .cut items st' => ∃ a' w', Goes w0 Z0 m0 H0 ds st' a' w' ∧ Steps P M (lone (b.at a' items) cs w')

theorem Reach.head {hn : Nat} {rs : List ResultVar} {w0 : World} {Z0 : Nat → Prop} {m0 : Nat → Nat} {H0 : List HO} {ds : List Deferred} {b : Frame} {cs : List Frame} {M M' : Machine} {e : End} (hs : Steps P M M') (h : Reach P hn rs w0 Z0 m0 H0 ds b cs M' e) : Reach P hn rs w0 Z0 m0 H0 ds b cs M e := by
  cases e with
  | ret x => obtain ⟨st', a', w', todo, h1, h2, h3⟩ := h; exact ⟨st', a', w', todo, h1, h2, hs.trans h3⟩
  | cut items st' => obtain ⟨a', w', h1, h2⟩ := h; exact ⟨a', w', h1, hs.trans h2⟩

/-- A region. -/
theorem reg_sound (hty : TyOK P ty) (hC : EnvOK P C) {w0 : World} {Z0 : Nat → Prop} {m0 : Nat → Nat} {H0 : List HO} {ds : List Deferred} {id : Nat} {ops : Array Oper} {draw : Bool} {K : St → Option ρ}
    (hA : AOK w Z m st a) (hd : a.defers = ds) (hE : Ext w0 Z0 m0 H0 w Z m st.heap) (h : evReg P ty C ops draw st K = some r) :
    (Code.region id ops draw).wp P (fun e a' w' => e = .normal ∧ ∃ st', K st' = some r ∧ Goes w0 Z0 m0 H0 ds st' a' w') a w := by
  cases draw with
  | true => exact draw_sound hty hC hA hd hE h
  | false =>
    have hw := ops_sound hty hC (List.range ops.size) st a w Z m hA hd hE h
    intro b k cs
    obtain ⟨e, a1, w1, hq, harr⟩ := wp_ops _ a w hw b k cs
    exact ⟨e, a1, w1, hq, .of_steps (.one step_region) harr⟩

theorem run_sound (hty : TyOK P ty) (hC : EnvOK P C) {T : Tab} {hn : Nat} {rs : List ResultVar} {K : End → Option ρ} {w0 : World} {Z0 : Nat → Prop} {m0 : Nat → Nat} {H0 : List HO} {ds : List Deferred} (hhn : hn = H0.length) :
    ∀ (n : Nat) (items : List Item) (st : St) (a : Act) (w : World) (Z : Nat → Prop) (m : Nat → Nat), AOK w Z m st a → a.defers = ds → Ext w0 Z0 m0 H0 w Z m st.heap → run P ty C T hn rs K n items st = some r →
      ∀ (b : Frame) (cs : List Frame), ∃ e, K e = some r ∧ Reach P hn rs w0 Z0 m0 H0 ds b cs (lone (b.at a items) cs w) e := by
  intro n
  induction n with
  | zero => intro items st a w Z m hA hd hE h; cases h
  | succ n ih =>
    intro items st a w Z m hA hd hE h b cs
    have one : ∀ {items' : List Item}, step P (lone (b.at a items) cs w) = .next (lone (b.at a items') cs w) → run P ty C T hn rs K n items' st = some r →
        ∃ e, K e = some r ∧ Reach P hn rs w0 Z0 m0 H0 ds b cs (lone (b.at a items) cs w) e := by
      intro items' hs hr
      obtain ⟨e, h1, h2⟩ := ih items' st a w Z m hA hd hE hr b cs
      exact ⟨e, h1, h2.head (.one hs)⟩
    have back : ∀ {todo : List Item}, step P (lone (b.at a items) cs w) = .next (lone { b.at a todo with mode := .returning } cs w) → retK P hn rs K st = some r →
        ∃ e, K e = some r ∧ Reach P hn rs w0 Z0 m0 H0 ds b cs (lone (b.at a items) cs w) e := by
      intro todo hs hr
      obtain ⟨x, hx, hr⟩ := retK_some hr
      exact ⟨_, hr, st, a, w, todo, hx, ⟨hd, Z, m, hA, hE⟩, .one hs⟩
    cases items with
    | nil => exact back step_end (by simpa only [run] using h)
    | cons it k =>
      cases it with
      | code c =>
        cases c with
        | skip => exact one step_skip (by simpa only [run] using h)
        | label l => exact one step_label (by simpa only [run] using h)
        | region id ops draw =>
          simp only [run] at h
          split at h
          · obtain ⟨e, a1, w1, ⟨rfl, st1, hk, hd1, Z1, m1, hA1, hE1⟩, harr⟩ := reg_sound (id := id) hty hC hA hd hE h b k cs
            obtain ⟨e, h1, h2⟩ := ih k st1 a1 w1 Z1 m1 hA1 hd1 hE1 hk b cs
            exact ⟨e, h1, h2.head harr⟩
          · rename_i lv hh _
            obtain ⟨st1, m1, hk, hA1, hE1⟩ := norm_sound hA hE hhn h
            exact ⟨_, hk, a, w, ⟨hd, Z, m1, hA1, hE1⟩, .refl _ _⟩
        | seq x y => exact one step_seq (by simpa only [run] using h)
        | cond c x y =>
          simp only [run] at h
          split at h
          · rename_i bb hb
            have hc := ev_rep hA c
            rw [hb] at hc
            have hc := bool_rep hc
            cases bb with
            | true => exact one (step_cond hc) h
            | false => exact one (step_cond hc) h
          · cases h
        | block id c => exact one step_block (by simpa only [run] using h)
        | loop c => exact one step_loop (by simpa only [run] using h)
        | exit id =>
          simp only [run] at h
          split at h
          · rename_i k' hk
            exact one (step_exit hk) h
          · cases h
        | goto l =>
          simp only [run] at h
          split at h
          · rename_i k' hk
            exact one (step_goto hk) h
          · cases h
        | ret => exact back step_ret (by simpa only [run] using h)
        | _ => simp only [run] at h; cases h
      | inBlock id => exact one step_inBlock (by simpa only [run] using h)
      | inLoop c => exact one step_inLoop (by simpa only [run] using h)
      | _ => simp only [run] at h; cases h

theorem runCut_sound (hty : TyOK P ty) (hC : EnvOK P C) {T : Tab} {hn : Nat} {rs : List ResultVar} {K : End → Option ρ} {w0 : World} {Z0 : Nat → Prop} {m0 : Nat → Nat} {H0 : List HO} {ds : List Deferred} (hhn : hn = H0.length)
    (n : Nat) (items : List Item) (st : St) (a : Act) (w : World) (Z : Nat → Prop) (m : Nat → Nat) (hA : AOK w Z m st a) (hd : a.defers = ds) (hE : Ext w0 Z0 m0 H0 w Z m st.heap) (h : runCut P ty C T hn rs K n items st = some r)
    (b : Frame) (cs : List Frame) : ∃ e, K e = some r ∧ Reach P hn rs w0 Z0 m0 H0 ds b cs (lone (b.at a items) cs w) e := by
  unfold runCut at h
  split at h
  · rename_i id ops draw k
    obtain ⟨e, a1, w1, ⟨rfl, st1, hk, hd1, Z1, m1, hA1, hE1⟩, harr⟩ := reg_sound (id := id) hty hC hA hd hE h b k cs
    obtain ⟨e, h1, h2⟩ := run_sound hty hC hhn n k st1 a1 w1 Z1 m1 hA1 hd1 hE1 hk b cs
    exact ⟨e, h1, h2.head harr⟩
  · cases h
end
end Go.Proofs.Ytjbilidfnfnpfaa.R
