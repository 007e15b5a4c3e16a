/-
  The own walk and what it shows, part 3 of 8.
-/
import Derived.KernelRfl
import Derived.Lib.Bytealg
import Derived.ChangeSlices
import Derived.Carry
import Derived.OpenShut
import Derived.WideShapes
import Derived.Test.YtbnainbjcaekjaaProg
import Derived.Test.YtbnainbjcaekjaaJ1
import Derived.Test.YtbnainbjcaekjaaJ2
set_option linter.unusedVariables false
set_option linter.unusedSimpArgs false
set_option maxRecDepth 100000
set_option exponentiation.threshold 30000
namespace Go.Proofs.Ytbnainbjcaekjaa.R
open Go
section
variable {P : Program} {w : World} {Z : Nat → Prop} {m : Nat → Nat} {H : List HO} {ty : TypeId → Option TI} {C : Env} {ρ : Type} {r : ρ} {st : St} {a : Act}
theorem belows_get {k : Nat} : ∀ (us : List U), usBelow k us = true → ∀ (j : Nat) (u : U), us[j]? = some u → uBelow k u = true
  | [], _, j, u, h => by simp at h
  | x :: us, hb, j, u, h => by
    simp only [usBelow, Bool.and_eq_true] at hb
    cases j with
    | zero => simp at h; exact h ▸ hb.1
    | succ j => simp at h; exact belows_get us hb.2 j u h
theorem take_get {k o : Nat} (h : o < k) : (H.take k)[o]? = H[o]? := by
  rw [List.getElem?_take, if_pos h]
theorem RepU.take {k : Nat} {u : U} {v : Value} (h : RepU w Z m H u v) : uBelow k u = true → RepU w Z m (H.take k) u v := by
  induction h with
  | f x v h => intro _; exact .f x v h
  | agg cs vs hl hr ih => intro hb; exact .agg cs vs hl fun j u v hu hv => ih j u v hu hv (belows_get cs (by simpa [uBelow] using hb) j u hu)
  | tup cs vs hl hr ih => intro hb; exact .tup cs vs hl fun j u v hu hv => ih j u v hu hv (belows_get cs (by simpa [uBelow] using hb) j u hu)
  | fn f us vs hl hr ih => intro hb; exact .fn f us vs hl fun j u v hu hv => ih j u v hu hv (belows_get us (by simpa [uBelow] using hb) j u hu)
  | hs o gen off len v h1 ho hg hv =>
    intro hb
    simp only [uBelow, decide_eq_true_eq] at hb
    obtain ⟨ob, hob, hnf⟩ := ho
    refine .hs o gen off len v h1 ⟨ob, by rw [take_get hb]; exact hob, hnf⟩ (fun sz n g e => ?_) (fun sz n g e eg => ?_)
    · rw [take_get hb] at e; exact hg _ _ _ e
    · rw [take_get hb] at e; exact hv _ _ _ e eg
  | hp o off v h1 ho hv =>
    intro hb
    simp only [uBelow, decide_eq_true_eq] at hb
    obtain ⟨ob, hob, hnf⟩ := ho
    refine .hp o off v h1 ⟨ob, by rw [take_get hb]; exact hob, hnf⟩ (fun cs e => ?_)
    rw [take_get hb] at e; exact hv _ e
  | ep o gen i off v h1 ho hg hv =>
    intro hb
    simp only [uBelow, decide_eq_true_eq] at hb
    obtain ⟨ob, hob, hnf⟩ := ho
    refine .ep o gen i off v h1 ⟨ob, by rw [take_get hb]; exact hob, hnf⟩ (fun sz n g e => ?_) (fun sz n g e eg => ?_)
    · rw [take_get hb] at e; exact hg _ _ _ e
    · rw [take_get hb] at e; exact hv _ _ _ e eg
  | va cs ad hZ V hV hr => intro _; exact .va cs ad hZ V hV hr
  | nilp => intro _; exact .nilp
  | nils A => intro _; exact .nils A
  | nilfn => intro _; exact .nilfn
  | undef => intro _; exact .undef
  | bad v => intro _; exact .bad v
theorem live_take {k o : Nat} (h : liveAt (H.take k) o) : liveAt H o := by
  obtain ⟨ob, h, hl⟩ := h
  rw [List.getElem?_take] at h
  split at h
  · exact ⟨ob, h, hl⟩
  · cases h
theorem HOK.take {k : Nat} (hH : HOK w Z m H) (hb : (H.take k).all (obBelow k) = true) : HOK w Z m (H.take k) := by
  refine ⟨hH.zlt, fun o ho => hH.apart o (live_take ho), fun o o' h h' => hH.inj o o' (live_take h) (live_take h'), fun o ob ho => ?_⟩
  have hbb := List.all_eq_true.1 hb ob (List.mem_of_getElem? ho)
  rw [List.getElem?_take] at ho
  split at ho
  · have := hH.ob o ob ho
    cases ob with
    | dead => trivial
    | free => trivial
    | arr sz n g => exact this
    | box cs =>
      obtain ⟨c, el, fr, h1, h2, h3, h4⟩ := this
      refine ⟨c, el, fr, h1, h2, h3, fun j u hu => ?_⟩
      obtain ⟨v, hv, hr⟩ := h4 j u hu
      exact ⟨v, hv, hr.take (belows_get cs (by simpa [obBelow] using hbb) j u hu)⟩
  · cases ho
theorem Ext.take {w0 : World} {Z0 : Nat → Prop} {m0 : Nat → Nat} {H0 : List HO} {k : Nat} (hE : Ext w0 Z0 m0 H0 w Z m H) (hk : H0.length ≤ k) : Ext w0 Z0 m0 H0 w Z m (H.take k) := by
  refine ⟨hE.os, hE.tape, hE.output, hE.size, hE.sub, hE.back, hE.kept, hE.rest, ?_, fun o ob ob' h h' => ?_, fun o ho => hE.new o (live_take ho)⟩
  · have := hE.len
    rw [List.length_take]; omega
  · have hlt := (List.getElem?_eq_some_iff.1 h).1
    rw [take_get (by omega)] at h'
    exact hE.evol o ob ob' h h'
theorem clear_get (lv : List Nat) : ∀ (us : List U) (i j : Nat) (u : U), (clearFrom lv i us)[j]? = some u → u = .bad ∨ us[j]? = some u
  | [], i, j, u, h => by simp [clearFrom] at h
  | x :: us, i, j, u, h => by
    simp only [clearFrom] at h
    cases j with
    | zero =>
      simp only [List.getElem?_cons_zero, Option.some.injEq] at h
      split at h
      · right; simp [h]
      · left; exact h.symm
    | succ j => simp at h; simpa using clear_get lv us (i + 1) j u h
theorem clear_len (lv : List Nat) : ∀ (us : List U) (i : Nat), (clearFrom lv i us).length = us.length
  | [], _ => rfl
  | _ :: us, i => by simp [clearFrom, clear_len lv us]
/-! Objects numbered anew. -/
theorem hasN_mem : ∀ (ks : List Nat) (o : Nat), hasN ks o = true → ks[idx ks o]? = some o
  | [], o, h => by simp [hasN] at h
  | x :: xs, o, h => by
    unfold hasN at h
    unfold idx
    by_cases e : Nat.beq x o = true
    · rw [if_pos e]; simp [Nat.eq_of_beq_eq_true e]
    · rw [if_neg e]
      have e' : Nat.beq x o = false := Bool.eq_false_iff.2 e
      rw [e', Bool.false_or] at h
      simpa using hasN_mem xs o h
theorem refsAll_get {ks : List Nat} : ∀ (us : List U), (refsAll us).all (hasN ks) = true → ∀ (j : Nat) (u : U), us[j]? = some u → (refs u).all (hasN ks) = true
  | [], _, j, u, h => by simp at h
  | x :: us, hb, j, u, h => by
    simp only [refsAll, List.all_append, Bool.and_eq_true] at hb
    cases j with
    | zero => simp at h; exact h ▸ hb.1
    | succ j => simp at h; exact refsAll_get us hb.2 j u h
theorem renUs_get {ks : List Nat} : ∀ (us : List U) (j : Nat) (u : U), (renUs ks us)[j]? = some u → ∃ x, us[j]? = some x ∧ u = renU ks x
  | [], j, u, h => by simp [renUs] at h
  | x :: us, j, u, h => by
    cases j with
    | zero => simp [renUs] at h; exact ⟨x, rfl, h.symm⟩
    | succ j => simp [renUs] at h; simpa using renUs_get us j u h
theorem renUs_len (ks : List Nat) : ∀ us : List U, (renUs ks us).length = us.length
  | [] => rfl
  | _ :: us => by simp [renUs, renUs_len ks us]
section
variable {ks : List Nat} {H' : List HO} {m' : Nat → Nat}
theorem ren_get (hH' : H' = ks.map fun o => renOb ks (H.getD o .dead)) {o : Nat} {ob : HO} (hk : hasN ks o = true) (ho : H[o]? = some ob) : H'[idx ks o]? = some (renOb ks ob) := by
  subst hH'
  simp [hasN_mem ks o hk, ho]
theorem renOb_arr {ob : HO} {sz n : Nat} {g : Nat → F} (h : renOb ks ob = .arr sz n g) : ob = .arr sz n g := by cases ob <;> simp_all [renOb]
theorem renOb_box {ob : HO} {cs : List U} (h : renOb ks ob = .box cs) : ∃ us, ob = .box us ∧ cs = renUs ks us := by cases ob <;> simp_all [renOb]
theorem renOb_free {ob : HO} (h : ob ≠ .free) : renOb ks ob ≠ .free := by cases ob <;> simp_all [renOb]
theorem renOb_live {ob : HO} : (renOb ks ob).live = ob.live := by cases ob <;> rfl
theorem RepU.ren (hH' : H' = ks.map fun o => renOb ks (H.getD o .dead)) (hm : ∀ o, hasN ks o = true → m' (idx ks o) = m o) {u : U} {v : Value} (h : RepU w Z m H u v) : (refs u).all (hasN ks) = true → RepU w Z m' H' (renU ks u) v := by
  have map : ∀ (cs : List U) (vs : List Value), (∀ (j : Nat) (u : U) (v : Value), cs[j]? = some u → vs[j]? = some v → (refs u).all (hasN ks) = true → RepU w Z m' H' (renU ks u) v) → (refsAll cs).all (hasN ks) = true → ∀ (j : Nat) (u : U) (v : Value), (renUs ks cs)[j]? = some u → vs[j]? = some v → RepU w Z m' H' u v := by
    intro cs vs ih hb j u v hu hv
    obtain ⟨x, hx, rfl⟩ := renUs_get cs j u hu
    exact ih j x v hx hv (refsAll_get cs hb j x hx)
  induction h with
  | f x v h => intro _; exact .f x v h
  | agg cs vs hl hr ih => intro hb; exact .agg _ vs (by rw [renUs_len]; exact hl) (map cs vs ih (by simpa [refs] using hb))
  | tup cs vs hl hr ih => intro hb; exact .tup _ vs (by rw [renUs_len]; exact hl) (map cs vs ih (by simpa [refs] using hb))
  | fn f us vs hl hr ih => intro hb; exact .fn f _ vs (by rw [renUs_len]; exact hl) (map us vs ih (by simpa [refs] using hb))
  | hs o gen off len v h1 ho hg hv =>
    intro hb
    have hb : hasN ks o = true := by simpa [refs] using hb
    obtain ⟨ob, hob, hnf⟩ := ho
    have hget := ren_get hH' hb hob
    refine .hs _ gen off len v h1 ⟨_, hget, renOb_free hnf⟩ (fun sz n g e => ?_) (fun sz n g e eg => ?_)
    · rw [hget] at e; exact hg sz n g (by rw [hob, renOb_arr (Option.some.inj e)])
    · rw [hget] at e; rw [hm o hb]; exact hv sz n g (by rw [hob, renOb_arr (Option.some.inj e)]) eg
  | hp o off v h1 ho hv =>
    intro hb
    have hb : hasN ks o = true := by simpa [refs] using hb
    obtain ⟨ob, hob, hnf⟩ := ho
    have hget := ren_get hH' hb hob
    refine .hp _ off v h1 ⟨_, hget, renOb_free hnf⟩ (fun cs e => ?_)
    rw [hget] at e
    obtain ⟨us, rfl, _⟩ := renOb_box (Option.some.inj e)
    rw [hm o hb]; exact hv _ hob
  | ep o gen i off v h1 ho hg hv =>
    intro hb
    have hb : hasN ks o = true := by simpa [refs] using hb
    obtain ⟨ob, hob, hnf⟩ := ho
    have hget := ren_get hH' hb hob
    refine .ep _ gen i off v h1 ⟨_, hget, renOb_free hnf⟩ (fun sz n g e => ?_) (fun sz n g e eg => ?_)
    · rw [hget] at e; exact hg sz n g (by rw [hob, renOb_arr (Option.some.inj e)])
    · rw [hget] at e; rw [hm o hb]; exact hv sz n g (by rw [hob, renOb_arr (Option.some.inj e)]) eg
  | va cs ad hZ V hV hr => intro _; exact .va cs ad hZ V hV hr
  | nilp => intro _; exact .nilp
  | nils A => intro _; exact .nils A
  | nilfn => intro _; exact .nilfn
  | undef => intro _; exact .undef
  | bad v => intro _; exact .bad v
end
theorem keep_nodup (hn : Nat) (q : Nat → Bool) (n : Nat) : (List.range hn ++ (List.range n).filter fun o => (!Nat.blt o hn) && q o).Nodup := by
  rw [List.nodup_append]
  refine ⟨List.nodup_range, List.nodup_range.filter _, ?_⟩
  intro a ha b hb e
  subst e
  rw [List.mem_range] at ha
  simp only [List.mem_filter, Bool.and_eq_true, Bool.not_eq_true'] at hb
  have := hb.2.1
  unfold Nat.blt at this
  have h2 : Nat.ble (a + 1) hn = true := Nat.ble_eq_true_of_le ha
  rw [Nat.succ_eq_add_one, h2] at this
  cases this
theorem idx_get : ∀ (ks : List Nat), ks.Nodup → ∀ (j o : Nat), ks[j]? = some o → idx ks o = j
  | [], _, j, o, h => by simp at h
  | x :: xs, hn, j, o, h => by
    rw [List.nodup_cons] at hn
    unfold idx
    cases j with
    | zero =>
      simp at h; subst h
      rw [if_pos (Nat.beq_refl x)]
    | succ j =>
      simp at h
      have hne : ¬ Nat.beq x o = true := fun e => hn.1 (Nat.eq_of_beq_eq_true e ▸ List.mem_of_getElem? h)
      rw [if_neg hne, idx_get xs hn.2 j o h]
theorem gc_sound {hn : Nat} {us : List U} {K : St → Option ρ} {w0 : World} {Z0 : Nat → Prop} {m0 : Nat → Nat} {H0 : List HO} (hl : us.length = a.tmps.size) (hus : ∀ (i : Nat) (u : U) (v : Value), us[i]? = some u → a.tmps[i]? = some v → RepU w Z m H u v) (hok : HOK w Z m H)
    (hE : Ext w0 Z0 m0 H0 w Z m H) (hhn : hn = H0.length) {vs : List U} (h : evGc hn us H (keepOf hn H vs) K = some r) : ∃ st' m', K st' = some r ∧ AOK w Z m' st' a ∧ Ext w0 Z0 m0 H0 w Z m' st'.heap := by
  unfold evGc at h
  replace h := bsel_some h; obtain ⟨h1, h⟩ := h
  simp only [Bool.and_eq_true, decide_eq_true_eq] at h1
  obtain ⟨⟨h1, h2⟩, h3⟩ := h1
  have hnd : (keepOf hn H vs).Nodup := keep_nodup hn _ _
  have hpre : ∀ o, o < hn → (keepOf hn H vs)[o]? = some o := fun o ho => by
    unfold keepOf
    rw [List.getElem?_append_left (by simpa using ho), List.getElem?_range ho]
  generalize hks : keepOf hn H vs = ks at *
  have hidx : ∀ o, o < hn → idx ks o = o := fun o ho => idx_get ks hnd o o (hpre o ho)
  let m' : Nat → Nat := fun j => m (ks.getD j 0)
  have hm : ∀ o, hasN ks o = true → m' (idx ks o) = m o := fun o ho => by
    have := hasN_mem ks o ho
    simp only [m', List.getD, this, Option.getD_some]
  have hget : ∀ (j : Nat) (ob : HO), (ks.map fun o => renOb ks (H.getD o .dead))[j]? = some ob → ∃ o, ks[j]? = some o ∧ m' j = m o ∧ ob = renOb ks (H.getD o .dead) := fun j ob hj => by
    rw [List.getElem?_map] at hj
    cases hk : ks[j]? with
    | none => rw [hk] at hj; cases hj
    | some o => rw [hk] at hj; cases hj; exact ⟨o, rfl, by simp [m', List.getD, hk], rfl⟩
  have hlive : ∀ j, liveAt (ks.map fun o => renOb ks (H.getD o .dead)) j → ∃ o, ks[j]? = some o ∧ m' j = m o ∧ liveAt H o := fun j ⟨ob, hj, hl⟩ => by
    obtain ⟨o, h1, h2, rfl⟩ := hget j ob hj
    rw [renOb_live] at hl
    refine ⟨o, h1, h2, ?_⟩
    cases ho : H[o]? with
    | none => simp [List.getD, ho, HO.live] at hl
    | some ob => exact ⟨ob, ho, by simpa [List.getD, ho] using hl⟩
  have hH' : (ks.map fun o => renOb ks (H.getD o .dead)) = ks.map fun o => renOb ks (H.getD o .dead) := rfl
  refine ⟨_, m', h, ⟨by simp [renUs_len, hl], fun i u v hu hv => ?_, ⟨hok.zlt, ?_, ?_, ?_⟩⟩, ?_⟩
  · obtain ⟨x, hx, rfl⟩ := renUs_get us i u hu
    exact (hus i x v hx hv).ren rfl hm (refsAll_get us h2 i x hx)
  · intro j hj
    obtain ⟨o, _, e, ho⟩ := hlive j hj
    rw [e]; exact hok.apart o ho
  · intro j j' hj hj' e
    obtain ⟨o, h1, e1, ho⟩ := hlive j hj
    obtain ⟨o', h1', e1', ho'⟩ := hlive j' hj'
    rw [e1, e1'] at e
    have := hok.inj o o' ho ho' e
    subst this
    rw [← idx_get ks hnd j o h1, ← idx_get ks hnd j' o h1']
  · intro j ob hj
    obtain ⟨o, h1, e, rfl⟩ := hget j ob hj
    cases ho : H[o]? with
    | none => simp [List.getD, ho, renOb, ObOK]
    | some ob0 =>
      have hob := hok.ob o ob0 ho
      simp only [List.getD, ho, Option.getD_some, e]
      cases ob0 with
      | dead => trivial
      | free => trivial
      | arr sz n g => exact hob
      | box cs =>
        obtain ⟨c, el, fr, q1, q2, q3, q4⟩ := hob
        refine ⟨c, el, fr, q1, q2, by rw [renUs_len]; exact q3, fun j u hu => ?_⟩
        obtain ⟨x, hx, rfl⟩ := renUs_get cs j u hu
        obtain ⟨v, hv, hr⟩ := q4 j x hx
        refine ⟨v, hv, hr.ren rfl hm ?_⟩
        have hmem := List.mem_of_getElem? h1
        have := List.all_eq_true.1 h3 o hmem
        simp only [List.getD, ho, Option.getD_some, obRefs] at this
        exact refsAll_get cs this j x hx
  · refine ⟨hE.os, hE.tape, hE.output, hE.size, hE.sub, hE.back, hE.kept, hE.rest, ?_, ?_, ?_⟩
    · rw [← hhn]
      simp only [List.length_map]
      rw [← hks]
      unfold keepOf
      rw [List.length_append, List.length_range]
      omega
    · intro o ob ob' ho ho'
      have hlt : o < hn := by rw [hhn]; exact (List.getElem?_eq_some_iff.1 ho).1
      obtain ⟨o1, k1, e, rfl⟩ := hget o ob' ho'
      rw [hpre o hlt] at k1; cases k1
      have hlt2 : o < H.length := Nat.lt_of_lt_of_le hlt h1
      have := hE.evol o ob H[o] ho (List.getElem?_eq_getElem hlt2)
      simp only [List.getD, List.getElem?_eq_getElem hlt2, Option.getD_some, e]
      generalize H[o] = ob1 at this
      cases ob <;> cases ob1 <;> simp_all [Evol, renOb, renUs_len]
    · intro j hj
      obtain ⟨o, h1, e, ho⟩ := hlive j hj
      rcases hE.new o ho with ⟨h2, h3⟩ | h2
      · obtain ⟨ob, hob, _⟩ := id h2
        have hlt : o < hn := by rw [hhn]; exact (List.getElem?_eq_some_iff.1 hob).1
        have : j = o := by rw [← idx_get ks hnd j o h1, hidx o hlt]
        subst this
        exact .inl ⟨h2, by rw [e, h3]⟩
      · exact .inr (by rw [e]; exact h2)
theorem norm_sound {hn k : Nat} {lv : List Nat} {K : St → Option ρ} {w0 : World} {Z0 : Nat → Prop} {m0 : Nat → Nat} {H0 : List HO} (hA : AOK w Z m st a) (hE : Ext w0 Z0 m0 H0 w Z m st.heap) (hhn : hn = H0.length)
    (h : evNorm hn lv k st K = some r) : ∃ st' m', K st' = some r ∧ AOK w Z m' st' a ∧ Ext w0 Z0 m0 H0 w Z m' st'.heap := by
  have hclear : ∀ (i : Nat) (u : U) (v : Value), (clearFrom lv 0 st.tmps)[i]? = some u → a.tmps[i]? = some v → RepU w Z m st.heap u v := fun i u v hu hv => by
    rcases clear_get lv _ _ _ _ hu with rfl | hu'
    · exact .bad v
    · exact hA.rep i u v hu' hv
  unfold evNorm at h
  cases hc : Nat.ble 1000 k with
  | true =>
    rw [hc, bsel_true] at h
    exact gc_sound (by simp [clear_len, hA.len]) hclear hA.hok hE hhn h
  | false =>
    rw [hc, bsel_false] at h
    replace h := bsel_some h; obtain ⟨h1, h⟩ := h
    simp only [Bool.and_eq_true, decide_eq_true_eq] at h1
    obtain ⟨⟨h1, h2⟩, h3⟩ := h1
    exact ⟨_, m, h, ⟨by simp [clear_len, hA.len], fun i u v hu hv => (hclear i u v hu hv).take (belows_get _ h2 i u hu), hA.hok.take h3⟩, hE.take (hhn ▸ h1)⟩
def Reach (P : Program) (hn : Nat) (rs : List ResultVar) (w0 : World) (Z0 : Nat → Prop) (m0 : Nat → Nat) (H0 : List HO) (ds : List Deferred) (b : Frame) (cs : List Frame) (M : Machine) : End → Prop
  | .ret x => ∃ st' a' w' todo, retF P hn rs st' = some x ∧ Goes w0 Z0 m0 H0 ds st' a' w' ∧ Steps P M (lone { b.at a' todo with mode := .returning } cs w')
  | .cut items st' => ∃ a' w', Goes w0 Z0 m0 H0 ds st' a' w' ∧ Steps P M (lone (b.at a' items) cs w')
theorem Reach.head {hn : Nat} {rs : List ResultVar} {w0 : World} {Z0 : Nat → Prop} {m0 : Nat → Nat} {H0 : List HO} {ds : List Deferred} {b : Frame} {cs : List Frame} {M M' : Machine} {e : End} (hs : Steps P M M') (h : Reach P hn rs w0 Z0 m0 H0 ds b cs M' e) : Reach P hn rs w0 Z0 m0 H0 ds b cs M e := by
  cases e with
  | ret x => obtain ⟨st', a', w', todo, h1, h2, h3⟩ := h; exact ⟨st', a', w', todo, h1, h2, hs.trans h3⟩
  | cut items st' => obtain ⟨a', w', h1, h2⟩ := h; exact ⟨a', w', h1, hs.trans h2⟩
theorem reg_sound (hty : TyOK P ty) (hC : EnvOK P C) {w0 : World} {Z0 : Nat → Prop} {m0 : Nat → Nat} {H0 : List HO} {ds : List Deferred} {id : Nat} {ops : Array Oper} {draw : Bool} {K : St → Option ρ}
    (hA : AOK w Z m st a) (hd : a.defers = ds) (hE : Ext w0 Z0 m0 H0 w Z m st.heap) (h : evReg P ty C ops draw st K = some r) :
    (Code.region id ops draw).wp P (fun e a' w' => e = .normal ∧ ∃ st', K st' = some r ∧ Goes w0 Z0 m0 H0 ds st' a' w') a w := by
  cases draw with
  | true => exact draw_sound hty hC hA hd hE h
  | false =>
    have hw := ops_sound hty hC (List.range ops.size) st a w Z m hA hd hE h
    intro b k cs
    obtain ⟨e, a1, w1, hq, harr⟩ := wp_ops _ a w hw b k cs
    exact ⟨e, a1, w1, hq, .of_steps (.one step_region) harr⟩
theorem run_sound (hty : TyOK P ty) (hC : EnvOK P C) {T : Tab} {hn : Nat} {rs : List ResultVar} {K : End → Option ρ} {w0 : World} {Z0 : Nat → Prop} {m0 : Nat → Nat} {H0 : List HO} {ds : List Deferred} (hhn : hn = H0.length) :
    ∀ (n : Nat) (items : List Item) (st : St) (a : Act) (w : World) (Z : Nat → Prop) (m : Nat → Nat), AOK w Z m st a → a.defers = ds → Ext w0 Z0 m0 H0 w Z m st.heap → run P ty C T hn rs K n items st = some r →
      ∀ (b : Frame) (cs : List Frame), ∃ e, K e = some r ∧ Reach P hn rs w0 Z0 m0 H0 ds b cs (lone (b.at a items) cs w) e := by
  intro n
  induction n with
  | zero => intro items st a w Z m hA hd hE h; cases h
  | succ n ih =>
    intro items st a w Z m hA hd hE h b cs
    have one : ∀ {items' : List Item}, step P (lone (b.at a items) cs w) = .next (lone (b.at a items') cs w) → run P ty C T hn rs K n items' st = some r →
        ∃ e, K e = some r ∧ Reach P hn rs w0 Z0 m0 H0 ds b cs (lone (b.at a items) cs w) e := by
      intro items' hs hr
      obtain ⟨e, h1, h2⟩ := ih items' st a w Z m hA hd hE hr b cs
      exact ⟨e, h1, h2.head (.one hs)⟩
    have back : ∀ {todo : List Item}, step P (lone (b.at a items) cs w) = .next (lone { b.at a todo with mode := .returning } cs w) → retK P hn rs K st = some r →
        ∃ e, K e = some r ∧ Reach P hn rs w0 Z0 m0 H0 ds b cs (lone (b.at a items) cs w) e := by
      intro todo hs hr
      obtain ⟨x, hx, hr⟩ := retK_some hr
      exact ⟨_, hr, st, a, w, todo, hx, ⟨hd, Z, m, hA, hE⟩, .one hs⟩
    cases items with
    | nil => exact back step_end (by simpa only [run] using h)
    | cons it k =>
      cases it with
      | code c =>
        cases c with
        | skip => exact one step_skip (by simpa only [run] using h)
        | label l => exact one step_label (by simpa only [run] using h)
        | region id ops draw =>
          simp only [run] at h
          split at h
          · obtain ⟨e, a1, w1, ⟨rfl, st1, hk, hd1, Z1, m1, hA1, hE1⟩, harr⟩ := reg_sound (id := id) hty hC hA hd hE h b k cs
            obtain ⟨e, h1, h2⟩ := ih k st1 a1 w1 Z1 m1 hA1 hd1 hE1 hk b cs
            exact ⟨e, h1, h2.head harr⟩
          · rename_i lv hh _
            obtain ⟨st1, m1, hk, hA1, hE1⟩ := norm_sound hA hE hhn h
            exact ⟨_, hk, a, w, ⟨hd, Z, m1, hA1, hE1⟩, .refl _ _⟩
        | seq x y => exact one step_seq (by simpa only [run] using h)
        | cond c x y =>
          simp only [run] at h
          split at h
          · rename_i bb hb
            have hc := ev_rep hA c
            rw [hb] at hc
            have hc := bool_rep hc
            cases bb with
            | true => exact one (step_cond hc) h
            | false => exact one (step_cond hc) h
          · cases h
        | block id c => exact one step_block (by simpa only [run] using h)
        | loop c => exact one step_loop (by simpa only [run] using h)
        | exit id =>
          simp only [run] at h
          split at h
          · rename_i k' hk
            exact one (step_exit hk) h
          · cases h
        | goto l =>
          simp only [run] at h
          split at h
          · rename_i k' hk
            exact one (step_goto hk) h
          · cases h
        | ret => exact back step_ret (by simpa only [run] using h)
        | _ => simp only [run] at h; cases h
      | inBlock id => exact one step_inBlock (by simpa only [run] using h)
      | inLoop c => exact one step_inLoop (by simpa only [run] using h)
      | _ => simp only [run] at h; cases h
theorem runCut_sound (hty : TyOK P ty) (hC : EnvOK P C) {T : Tab} {hn : Nat} {rs : List ResultVar} {K : End → Option ρ} {w0 : World} {Z0 : Nat → Prop} {m0 : Nat → Nat} {H0 : List HO} {ds : List Deferred} (hhn : hn = H0.length)
    (n : Nat) (items : List Item) (st : St) (a : Act) (w : World) (Z : Nat → Prop) (m : Nat → Nat) (hA : AOK w Z m st a) (hd : a.defers = ds) (hE : Ext w0 Z0 m0 H0 w Z m st.heap) (h : runCut P ty C T hn rs K n items st = some r)
    (b : Frame) (cs : List Frame) : ∃ e, K e = some r ∧ Reach P hn rs w0 Z0 m0 H0 ds b cs (lone (b.at a items) cs w) e := by
  unfold runCut at h
  split at h
  · rename_i id ops draw k
    obtain ⟨e, a1, w1, ⟨rfl, st1, hk, hd1, Z1, m1, hA1, hE1⟩, harr⟩ := reg_sound (id := id) hty hC hA hd hE h b k cs
    obtain ⟨e, h1, h2⟩ := run_sound hty hC hhn n k st1 a1 w1 Z1 m1 hA1 hd1 hE1 hk b cs
    exact ⟨e, h1, h2.head harr⟩
  · cases h
end
end Go.Proofs.Ytbnainbjcaekjaa.R
namespace Go.Proofs.Ytbnainbjcaekjaa.R
open Go
def startN (ntmps : Nat) (us : List U) (H : List HO) : St := ⟨us ++ List.replicate (ntmps - us.length) .undef, H⟩
def start (ntmps : Nat) (us : List U) : St := ⟨us ++ List.replicate (ntmps - us.length) .undef, []⟩
section
variable {P : Program} {w : World} {Z : Nat → Prop} {m : Nat → Nat} {H : List HO} {ty : TypeId → Option TI} {C : Env} {ρ : Type} {r : ρ} {st : St} {a : Act}
theorem resU_run (hA : AOK w Z m st a) : ∀ (rs : List ResultVar) (us : List U), resU P st rs = some us →
    ∃ vs, (rs.mapM (m := Sem) fun | .tmp t => pure (a.tmps.getD t undef) | .cell x t => do loadVar t (← asAddr (a.tmps.getD x undef))).run P w = .ok vs w ∧ RepUs w Z m st.heap us vs
  | [], us, h => by
    simp only [resU, Option.some.injEq] at h
    subst h
    exact ⟨[], by simp, rfl, fun j u v hu => by simp at hu⟩
  | .cell x t :: rs, us, h => by
    simp only [resU] at h
    split at h
    · rename_i o ti us' hx hti h'
      split at h
      case isFalse => cases h
      have hr := ev_rep hA (.tmp x)
      simp only [St.ev, Act.eval] at hr
      rw [hx] at hr
      obtain ⟨u, hk, v, hv, hu⟩ := load_sound (P := P) hti hA.hok hr h
      cases hk
      obtain ⟨vs, h1, h2⟩ := resU_run hA rs us' h'
      obtain ⟨ad, had⟩ : ∃ ad, a.tmps.getD x undef = .pointer (some ad) := by
        simp only [evLoad] at h
        split at h
        · rename_i cs ho
          cases hr with | hp _ _ _ _ _ hvv => exact ⟨_, hvv _ ho⟩
        · cases h
      refine ⟨v :: vs, ?_, by simp [h2.1], fun j u' v' hu' hv' => ?_⟩
      · rw [List.mapM_cons]
        rw [had] at hv
        simp only []
        rw [had]
        have hv : (loadVar t ad).run P w = .ok v w := by simpa [Instr.loadAt, Instr.sureAddr, pure_bind] using hv
        have ha : (asAddr (.pointer (some ad))).run P w = .ok ad w := rfl
        simp only [Sem.run_bind, ha, Sem.run_pure, Result.andThen, h1, hv]
      · cases j with
        | zero => simp at hu' hv'; subst hu'; subst hv'; exact hu
        | succ j => simp at hu' hv'; exact h2.2 j u' v' hu' hv'
    · cases h
  | .tmp t :: rs, us, h => by
    simp only [resU] at h
    split at h
    · rename_i us' h'
      cases h
      obtain ⟨vs, h1, h2⟩ := resU_run hA rs us' h'
      refine ⟨a.tmps.getD t undef :: vs, ?_, by simp [h2.1], fun j u v hu hv => ?_⟩
      · rw [List.mapM_cons]
        simp only [Sem.run_bind, Sem.run_pure, Result.andThen, h1]
      · cases j with
        | zero =>
          simp only [List.getElem?_cons_zero, Option.some.injEq] at hu hv
          subst hu; subst hv
          exact ev_rep hA (.tmp t)
        | succ j => simp only [List.getElem?_cons_succ] at hu hv; exact h2.2 j u v hu hv
    · cases h
def EndsN (P : Program) (hn : Nat) (rs : List ResultVar) (items : List Item) (st : St) (x : F) : Prop :=
  ∀ (w0 : World) (Z0 : Nat → Prop) (m0 : Nat → Nat) (H0 : List HO) (ds : List Deferred) (a : Act) (w : World) (Z : Nat → Prop) (m : Nat → Nat), hn = H0.length → AOK w Z m st a → a.defers = ds → Ext w0 Z0 m0 H0 w Z m st.heap →
    ∀ (b : Frame) (cs : List Frame), Reach P hn rs w0 Z0 m0 H0 ds b cs (lone (b.at a items) cs w) (.ret x)
abbrev Ends (P : Program) (rs : List ResultVar) (items : List Item) (st : St) (x : F) : Prop := EndsN P 0 rs items st x
def EndsE (P : Program) (hn : Nat) (rs : List ResultVar) (x : F) : End → Prop
  | .ret y => y = x
  | .cut items st => EndsN P hn rs items st x
def Good (P : Program) (hn : Nat) (rs : List ResultVar) (x : F) (o : Option End) : Prop := ∃ e, o = some e ∧ EndsE P hn rs x e
theorem Ends.of_run (hty : TyOK P ty) (hC : EnvOK P C) {T : Tab} {hn : Nat} {rs : List ResultVar} {n : Nat} {items : List Item} {x : F} (h : Good P hn rs x (run P ty C T hn rs some n items st)) : EndsN P hn rs items st x := by
  obtain ⟨e, he, hs⟩ := h
  intro w0 Z0 m0 H0 ds a w Z m hhn hA hd hE b cs
  obtain ⟨e', h1, h2⟩ := run_sound hty hC hhn n items st a w Z m hA hd hE he b cs
  cases h1
  cases e with
  | ret y => cases hs; exact h2
  | cut items' st' =>
    obtain ⟨a', w', ⟨hd', Z', m', hA', hE'⟩, hst⟩ := h2
    exact (hs w0 Z0 m0 H0 ds a' w' Z' m' hhn hA' hd' hE' b cs).head hst
theorem Ends.of_cut (hty : TyOK P ty) (hC : EnvOK P C) {T : Tab} {hn : Nat} {rs : List ResultVar} {n : Nat} {items : List Item} {x : F} (h : Good P hn rs x (runCut P ty C T hn rs some n items st)) : EndsN P hn rs items st x := by
  obtain ⟨e, he, hs⟩ := h
  intro w0 Z0 m0 H0 ds a w Z m hhn hA hd hE b cs
  obtain ⟨e', h1, h2⟩ := runCut_sound hty hC hhn n items st a w Z m hA hd hE he b cs
  cases h1
  cases e with
  | ret y => cases hs; exact h2
  | cut items' st' =>
    obtain ⟨a', w', ⟨hd', Z', m', hA', hE'⟩, hst⟩ := h2
    exact (hs w0 Z0 m0 H0 ds a' w' Z' m' hhn hA' hd' hE' b cs).head hst
theorem fn_pure {f : FuncId} {fn : Func} {c : Code} (hf : P.funcs[f]? = some fn) (hb : fn.body = some c) (hodd : oddFn fn = false) {pre : List F → Bool} {res : List F → F}
    (h : ∀ xs, pre xs = true → Ends P fn.results.toList [.code c] (start fn.ntmps (xs.map .f)) (res xs)) : PureOK P f pre res := by
  have hname := oddFn_name hodd
  have hmark := oddFn_mark hodd
  intro xs hp w Z args hZ hL
  refine .inl ⟨by
    have hp : (program).run P w = .ok P w := rfl
    unfold callFunc
    simp only [Sem.run_bind, hp, Result.andThen, hf, hname, hb, Option.isNone_some, Bool.false_eq_true, if_false, Sem.run_pure], fun cs => ?_⟩
  have hlen : xs.length = args.size := by simpa using hL.1
  have hA : AOK w Z (fun _ => 0) (start fn.ntmps (xs.map .f)) { tmps := args ++ Array.replicate (fn.ntmps - args.size) undef, defers := [] } := by
    refine ⟨by simp [start, hlen], fun i u v hu hv => ?_, ?_⟩
    · simp only [start, List.length_map] at hu
      rw [List.getElem?_append] at hu
      rw [Array.getElem?_append] at hv
      simp only [List.length_map] at hu
      split at hu
      · rename_i hi
        rw [if_pos (by omega)] at hv
        rw [List.getElem?_map] at hu
        cases hx : xs[i]? with
        | none => rw [hx] at hu; cases hu
        | some x =>
          rw [hx] at hu; cases hu
          exact .f _ _ (hL.2 i x v hx (by simpa using hv))
      · rename_i hi
        rw [if_neg (by omega)] at hv
        rw [List.getElem?_replicate] at hu
        rw [Array.getElem?_replicate] at hv
        split at hu
        · split at hv
          · cases hu; cases hv; exact .undef
          · cases hv
        · cases hu
    · exact ⟨hZ, fun o ⟨ob, ho, _⟩ => by simp [start] at ho, fun o o' ⟨ob, ho, _⟩ => by simp [start] at ho, fun o ob ho => by simp [start] at ho⟩
  let b : Frame := { (default : Frame) with fn := f, kind := .normal }
  have henter : Frame.enter P f args .normal = b.at { tmps := args ++ Array.replicate (fn.ntmps - args.size) undef, defers := [] } [.code c] := by
    simp [Frame.enter, Frame.at, hf, hb, b]
  obtain ⟨st', a', w', todo, hk, ⟨hd, Z', m', hA', hE'⟩, hs⟩ := h xs hp w Z (fun _ => 0) [] [] _ w Z (fun _ => 0) rfl hA rfl (Ext.refl _ _ _ _) b cs
  unfold retF at hk
  rw [hmark] at hk
  simp only [Bool.false_and, Bool.false_eq_true, if_false] at hk
  split at hk
  · rename_i us hus
    split at hk
    · rename_i ys hys
      obtain ⟨vs, hvs, hR⟩ := resU_run (P := P) hA' _ _ hus
      have hlive0 : ∀ o, ¬ liveAt ([] : List HO) o := fun o ⟨ob, ho, _⟩ => by simp at ho
      let Z2 : Nat → Prop := fun b => Z' b ∨ ∃ o, liveAt st'.heap o ∧ m' o = b
      have hL2 : RepL w' Z2 ys vs := by
        obtain ⟨hl, hg⟩ := toFs_get us ys hys
        refine ⟨by rw [← hl]; exact hR.1, fun j x v hx' hv => ?_⟩
        have hj := (List.getElem?_eq_some_iff.1 hx').1
        have hu' : us[j]? = some us[j] := List.getElem?_eq_getElem (by omega)
        refine (toF_rep hA'.hok (fun _ _ h => h) (hR.2 j _ v hu' hv) (hg j _ x hu' hx')).mono ?_ (fun _ _ => rfl)
        rintro b (hb | ⟨o, ho, hlv, rfl⟩)
        · exact .inl hb
        · exact .inr ⟨o, hlv, rfl⟩
      have hres : (results fn a'.tmps).run P w' = .ok (if h : vs.toArray.size = 1 then vs.toArray[0] else .tuple vs.toArray) w' := by
        unfold results
        rw [← Array.toArray_toList (xs := fn.results), List.mapM_toArray]
        simp only [Sem.run_bind, Sem.run_map]
        refine (congrArg (fun q => Result.andThen (Result.andThen q fun x w => Result.ok x.toArray w) fun vs w => (pure (if h : vs.size = 1 then vs[0] else .tuple vs) : Sem Value).run P w) hvs).trans ?_
        simp [Result.andThen]
      refine ⟨.returned _, w', { b.at a' todo with mode := .returning }, ?_, ?_, rfl, rfl, hd, rfl, fn, hf, hres⟩
      · refine ⟨⟨hE'.os, hE'.tape, hE'.output, hE'.size, fun b hb => hE'.rest b hb fun o ho => absurd ho (hlive0 o)⟩, Z2, ?_, ?_⟩
        · rintro b (hb | ⟨o, hlv, rfl⟩)
          · have hlt := hA'.hok.zlt b hb
            rcases hE'.back b hb with h | h | ⟨o, ho, _⟩
            · exact .inl h
            · exact .inr ⟨h, hlt⟩
            · exact absurd ho (hlive0 o)
          · rcases hE'.new o hlv with ⟨h, _⟩ | h
            · exact absurd h (hlive0 o)
            · exact .inr ⟨h, hA'.hok.blk_lt hlv⟩
        · have hrs : res xs = tupF ys := (Option.some.inj hk).symm
          rw [hrs]
          match ys, vs, hL2 with
          | [y], [v], hL2 => exact hL2.2 0 y v rfl rfl
          | [], [], hL2 => exact .tup [] [] rfl hL2.2
          | y1 :: y2 :: ys, v1 :: v2 :: vs, hL2 =>
            have : RepF w' Z2 (.tup (y1 :: y2 :: ys)) (.tuple (v1 :: v2 :: vs).toArray) := .tup _ _ hL2.1 hL2.2
            simpa [tupF] using this
          | [_], [], hL2 => have := hL2.1; simp at this
          | [_], _ :: _ :: _, hL2 => have := hL2.1; simp at this
          | [], _ :: _, hL2 => have := hL2.1; simp at this
          | _ :: _ :: _, [], hL2 => have := hL2.1; simp at this
          | _ :: _ :: _, [_], hL2 => have := hL2.1; simp at this
      · rw [henter]; exact hs
    · cases hk
  · cases hk
end
end Go.Proofs.Ytbnainbjcaekjaa.R
namespace Go.Proofs.Ytbnainbjcaekjaa.R
open Go Go.RowKit
section
variable {P : Program} {w : World} {Z : Nat → Prop} {m : Nat → Nat} {H H' : List HO} {hn : Nat} {rs : List ResultVar} {x : F}
theorem good_sel {R : Type} {c : Bool} {X Y : Option End} {A B : Option R} {r : R} (h : bsel c A B = some r) (h1 : c = true → A = some r → Good P hn rs x X) (h2 : c = false → B = some r → Good P hn rs x Y) : Good P hn rs x (bsel c X Y) := by
  cases c with
  | true => exact h1 rfl h
  | false => exact h2 rfl h
theorem good_ret {y : F} (h : y = x) : Good P hn rs x (some (.ret y)) := ⟨_, rfl, h⟩
theorem good_cut {items : List Item} {st : St} (h : EndsN P hn rs items st x) : Good P hn rs x (some (.cut items st)) := ⟨_, rfl, h⟩
def ObLe (ob ob' : HO) : Prop := ob' = ob ∨ ∃ sz n g g', ob = .arr sz n g ∧ ob' = .arr sz n g' ∧ ∀ j, j < n → g j = g' j
def HLe (H H' : List HO) : Prop := H.length = H'.length ∧ ∀ (o : Nat) (ob ob' : HO), H[o]? = some ob → H'[o]? = some ob' → ObLe ob ob'
theorem HLe.get (h : HLe H H') {o : Nat} {ob' : HO} (ho : H'[o]? = some ob') : ∃ ob, H[o]? = some ob ∧ ObLe ob ob' := by
  have hlt := (List.getElem?_eq_some_iff.1 ho).1
  have : o < H.length := by rw [h.1]; exact hlt
  exact ⟨_, List.getElem?_eq_getElem this, h.2 _ _ _ (List.getElem?_eq_getElem this) ho⟩
theorem RepU.hle (h : HLe H H') {u : U} {v : Value} (hu : RepU w Z m H u v) : RepU w Z m H' u v := by
  have hk : ∀ {o : Nat}, known H o → known H' o := by
    rintro o ⟨ob, ho, hn⟩
    have hlt := (List.getElem?_eq_some_iff.1 ho).1
    have hlt' : o < H'.length := by rw [← h.1]; exact hlt
    have ho' : H'[o]? = some H'[o] := List.getElem?_eq_getElem hlt'
    refine ⟨_, ho', ?_⟩
    rcases h.2 o _ _ ho ho' with e | ⟨sz, n, g, g', e1, e2, _⟩
    · rw [e]; exact hn
    · rw [e2]; simp
  have harr : ∀ {o sz n : Nat} {g' : Nat → F}, H'[o]? = some (.arr sz n g') → ∃ g, H[o]? = some (.arr sz n g) := by
    intro o sz n g' ho
    obtain ⟨ob, hob, e | ⟨sz', n', g1, g2, e1, e2, _⟩⟩ := h.get ho
    · exact ⟨_, by rw [hob, ← e]⟩
    · cases e2; exact ⟨_, by rw [hob, e1]⟩
  have hbox : ∀ {o : Nat} {cs : List U}, H'[o]? = some (.box cs) → H[o]? = some (.box cs) := by
    intro o cs ho
    obtain ⟨ob, hob, e | ⟨sz', n', g1, g2, e1, e2, _⟩⟩ := h.get ho
    · rw [hob, ← e]
    · cases e2
  induction hu with
  | f x v h => exact .f x v h
  | agg cs vs hl hr ih => exact .agg cs vs hl ih
  | tup cs vs hl hr ih => exact .tup cs vs hl ih
  | hs o gen off len v h1 ho hg hv =>
    exact .hs o gen off len v h1 (hk ho) (fun sz n g e => by obtain ⟨g0, e0⟩ := harr e; exact hg _ _ _ e0) (fun sz n g e eg => by obtain ⟨g0, e0⟩ := harr e; exact hv _ _ _ e0 eg)
  | hp o off v h1 ho hv => exact .hp o off v h1 (hk ho) (fun cs e => hv _ (hbox e))
  | ep o gen i off v h1 ho hg hv =>
    exact .ep o gen i off v h1 (hk ho) (fun sz n g e => by obtain ⟨g0, e0⟩ := harr e; exact hg _ _ _ e0) (fun sz n g e eg => by obtain ⟨g0, e0⟩ := harr e; exact hv _ _ _ e0 eg)
  | va cs a hZ V hV hr => exact .va cs a hZ V hV hr
  | nilp => exact .nilp
  | nils A => exact .nils A
  | fn f us vs hl hr ih => exact .fn f us vs hl ih
  | nilfn => exact .nilfn
  | undef => exact .undef
  | bad v => exact .bad v
def FLe (x y : F) : Prop := ∀ (w : World) (Z : Nat → Prop) (v : Value), RepF w Z x v → RepF w Z y v
theorem FLe.refl (x : F) : FLe x x := fun _ _ _ h => h
theorem FLe.sl {n : Nat} {g g' : Nat → F} (h : ∀ j, j < n → g j = g' j) : FLe (.sl n g) (.sl n g') := by
  intro w Z v hv
  cases hv with
  | sl _ _ A c sz a V hc hs hk hA hV hr =>
    exact .sl n g' A c sz a V hc (fun i hi => by rw [← h i hi]; exact hs i hi) (fun i j u hi hu => hk i j u hi (by rw [h i hi]; exact hu)) hA (fun i j u hi hu => hV i j u hi (by rw [h i hi]; exact hu))
      (fun i j u hi hu => hr i j u hi (by rw [h i hi]; exact hu))
def ULe (u u' : U) : Prop := u' = .bad ∨ ∀ (w : World) (Z : Nat → Prop) (m : Nat → Nat) (H : List HO) (v : Value), RepU w Z m H u v → RepU w Z m H u' v
theorem ULe.refl (u : U) : ULe u u := .inr fun _ _ _ _ _ h => h
theorem ULe.f {x y : F} (h : FLe x y) : ULe (.f x) (.f y) := .inr fun w Z m H v hv => by cases hv with | f _ _ hv => exact .f _ _ (h _ _ _ hv)
def UsLe : List U → List U → Prop
  | [], [] => True
  | u :: us, u' :: us' => ULe u u' ∧ UsLe us us'
  | _, _ => False
theorem UsLe.refl : ∀ us : List U, UsLe us us
  | [] => trivial
  | u :: us => ⟨.refl u, .refl us⟩
theorem UsLe.get : ∀ {us us' : List U}, UsLe us us' → us.length = us'.length ∧ ∀ (i : Nat) (u' : U), us'[i]? = some u' → ∃ u, us[i]? = some u ∧ ULe u u'
  | [], [], _ => ⟨rfl, fun i u' h => by simp at h⟩
  | u :: us, u1 :: us', h => by
    obtain ⟨h1, h2⟩ := UsLe.get h.2
    refine ⟨by simp [h1], fun i u' hi => ?_⟩
    cases i with
    | zero => simp at hi; subst hi; exact ⟨u, rfl, h.1⟩
    | succ i => simp at hi; obtain ⟨u2, h3, h4⟩ := h2 i u' hi; exact ⟨u2, by simpa using h3, h4⟩
  | [], _ :: _, h => h.elim
  | _ :: _, [], h => h.elim
theorem Ends.weak {items : List Item} {st st' : St} (ht : UsLe st.tmps st'.tmps) (hh : HLe st.heap st'.heap) (h : EndsN P hn rs items st' x) : EndsN P hn rs items st x := by
  intro w0 Z0 m0 H0 ds a w Z m hhn hA hd hE b cs
  have hlive : ∀ o, liveAt st'.heap o → liveAt st.heap o := by
    rintro o ⟨ob', ho', hl⟩
    obtain ⟨ob, hob, e | ⟨sz, n, g, g', e1, e2, _⟩⟩ := hh.get ho'
    · exact ⟨ob, hob, by rw [← e]; exact hl⟩
    · exact ⟨ob, hob, by rw [e1]; rfl⟩
  obtain ⟨hl, hg⟩ := ht.get
  refine h w0 Z0 m0 H0 ds a w Z m hhn ⟨by rw [← hl]; exact hA.len, fun i u v hu hv => ?_, ?_⟩ hd ?_ b cs
  · obtain ⟨u0, h0, e | hle⟩ := hg i u hu
    · rw [e]; exact .bad v
    · exact hle _ _ _ _ _ ((hA.rep i u0 v h0 hv).hle hh)
  · refine ⟨hA.hok.zlt, fun o ho => hA.hok.apart o (hlive o ho), fun o o' h h' => hA.hok.inj o o' (hlive o h) (hlive o' h'), fun o ob' ho' => ?_⟩
    obtain ⟨ob, hob, e | ⟨sz, n, g, g', rfl, rfl, hgg⟩⟩ := hh.get ho'
    · subst e
      have := hA.hok.ob o _ hob
      cases ob' with
      | dead => trivial
      | free => trivial
      | arr sz n g => exact this
      | box cs =>
        obtain ⟨c, el, fr, h1, h2, h3, h4⟩ := this
        exact ⟨c, el, fr, h1, h2, h3, fun j u hu => by obtain ⟨v, hv, hr⟩ := h4 j u hu; exact ⟨v, hv, hr.hle hh⟩⟩
    · obtain ⟨h0, c, el, fr, h1, h2, h3, h4, h5⟩ := hA.hok.ob o _ hob
      exact ⟨h0, c, el, fr, h1, h2, h3, fun i hi => by rw [← hgg i hi]; exact h4 i hi, fun i j u hi hu => h5 i j u hi (by rw [hgg i hi]; exact hu)⟩
  · refine ⟨hE.os, hE.tape, hE.output, hE.size, hE.sub, hE.back, hE.kept, hE.rest, by rw [← hh.1]; exact hE.len, fun o ob ob' h h' => ?_, fun o ho => hE.new o (hlive o ho)⟩
    obtain ⟨ob1, h1, e | ⟨sz, n, g, g', rfl, rfl, _⟩⟩ := hh.get h'
    · subst e; exact hE.evol o _ _ h h1
    · have := hE.evol o _ _ h h1
      cases ob <;> simp_all [Evol]
theorem Ends.same {items : List Item} {st st' : St} (e : st = st') (h : EndsN P hn rs items st' x) : EndsN P hn rs items st x := e ▸ h
theorem PureOK.sub {f : FuncId} {pre pre' : List F → Bool} {res res' : List F → F} (h : PureOK P f pre res) (hp : ∀ xs, pre' xs = true → pre xs = true ∧ res xs = res' xs) : PureOK P f pre' res' := by
  intro xs hx w Z args hZ hL
  obtain ⟨h1, h2⟩ := hp xs hx
  rw [← h2]
  exact h xs h1 w Z args hZ hL
theorem PureOK.le {f : FuncId} {pre pre' : List F → Bool} {res res' : List F → F} (h : PureOK P f pre res) (hp : ∀ xs, pre' xs = true → pre xs = true ∧ FLe (res xs) (res' xs)) : PureOK P f pre' res' := by
  intro xs hx w Z args hZ hL
  obtain ⟨h1, h2⟩ := hp xs hx
  exact (h xs h1 w Z args hZ hL).mono fun v w' ⟨hg, Z', hz, hr⟩ => ⟨hg, Z', hz, h2 _ _ _ hr⟩
theorem below_of_grows {w w' : World} (h : Grows w w') : Below w.heap.size w w' := ⟨h.os, h.tape, h.output, h.size, h.old⟩
theorem law_calls {f : FuncId} {fn : Func} {c : Code} (hf : P.funcs[f]? = some fn) (hb : fn.body = some c) (hname : (fn.name == "runtime.NumGoroutine") = false) {pre : List F → Bool} {res : List F → F} (h : PureOK P f pre res)
    {xs : List F} {args : Array Value} {b : Bool} (hp : pre xs = true) (hr : res xs = .bool b) (w : World) (Z : Nat → Prop) (hZ : ∀ b, Z b → b < w.heap.size) (hL : RepL w Z xs args.toList) :
    Calls P f args w fun e w' => e = .returned (.bool b) ∧ Below w.heap.size w w' := by
  rcases h xs hp w Z args hZ hL with ⟨_, h2⟩ | ⟨v, w', h1, _⟩
  · refine h2.mono fun e w' he => ?_
    cases e with
    | returned v =>
      obtain ⟨g, Z', _, hr'⟩ := he
      rw [hr] at hr'
      cases hr'
      exact ⟨rfl, below_of_grows g⟩
    | _ => exact he.elim
  · have hp' : (program).run P w = .ok P w := rfl
    unfold callFunc at h1
    simp only [Sem.run_bind, hp', Result.andThen, hf, hname, hb, Option.isNone_some, Bool.false_eq_true, if_false, Sem.run_pure] at h1
    cases h1
end
end Go.Proofs.Ytbnainbjcaekjaa.R
namespace Go.Proofs.Ytbnainbjcaekjaa.R
open Go
section
variable {P : Program} {w : World} {Z : Nat → Prop} {m : Nat → Nat} {H : List HO}
mutual
theorem toF_arr : ∀ (u : U) (x : F), toF H u = some x → ∀ o, o ∈ objs u → ∃ sz n g, H[o]? = some (.arr sz n g)
  | .f x, _, _, o, ho => by simp [objs] at ho
  | .agg us, x, h, o, ho => by
    simp only [toF] at h
    cases hx : toFs H us with
    | none => rw [hx] at h; cases h
    | some xs => exact toFs_arr us xs hx o (by simpa [objs] using ho)
  | .tup us, x, h, o, ho => by
    simp only [toF] at h
    cases hx : toFs H us with
    | none => rw [hx] at h; cases h
    | some xs => exact toFs_arr us xs hx o (by simpa [objs] using ho)
  | .nils, _, _, o, ho => by simp [objs] at ho
  | .hs o1 gen off len, x, h, o, ho => by
    simp only [objs, List.mem_singleton] at ho
    subst ho
    simp only [toF] at h
    split at h
    · exact ⟨_, _, _, by assumption⟩
    · cases h
  | .hp _ _, _, h, _, _ => by simp [toF] at h
  | .ep _ _ _ _, _, h, _, _ => by simp [toF] at h
  | .va _, _, h, _, _ => by simp [toF] at h
  | .nilp, _, h, _, _ => by simp [toF] at h
  | .fn _ _, _, h, _, _ => by simp [toF] at h
  | .nilfn, _, h, _, _ => by simp [toF] at h
  | .undef, _, h, _, _ => by simp [toF] at h
  | .bad, _, h, _, _ => by simp [toF] at h
theorem toFs_arr : ∀ (us : List U) (xs : List F), toFs H us = some xs → ∀ o, o ∈ objsAll us → ∃ sz n g, H[o]? = some (.arr sz n g)
  | [], _, _, o, ho => by simp [objsAll] at ho
  | u :: us, xs, h, o, ho => by
    simp only [toFs] at h
    cases h1 : toF H u with
    | none => rw [h1] at h; simp at h
    | some x =>
      cases h2 : toFs H us with
      | none => rw [h1, h2] at h; simp at h
      | some ys =>
        simp only [objsAll, List.mem_append] at ho
        rcases ho with ho | ho
        · exact toF_arr u x h1 o ho
        · exact toFs_arr us ys h2 o ho
end
def SubOK (P : Program) (f : FuncId) (us : List U) (H : List HO) (x : F) (os : List (List F)) : Prop :=
  ∀ (w : World) (Z : Nat → Prop) (m : Nat → Nat) (args : Array Value), HOK w Z m H → RepUs w Z m H us args.toList →
    CallDoes P f args w fun v w' => ∃ Z' m', Ext w Z m H w' Z' m' (os.map boxF) ∧ HOK w' Z' m' (os.map boxF) ∧ RepF w' Z' x v
theorem outs_get {H : List HO} : ∀ (obs : List HO) (os : List (List F)), outs H obs = some (os.map .agg) → obs.length = os.length ∧ ∀ (o : Nat) (ob : HO) (xs : List F), obs[o]? = some ob → os[o]? = some xs → ∃ us, ob = .box us ∧ toFs H us = some xs
  | [], os, h => by
    simp only [outs, Option.some.injEq] at h
    have : os = [] := by cases os <;> simp_all
    subst this
    exact ⟨rfl, fun o ob xs ho => by simp at ho⟩
  | .box us :: obs, os, h => by
    simp only [outs] at h
    split at h
    · rename_i xs ys h1 h2
      cases os with
      | nil => simp at h
      | cons y os =>
        simp only [List.map_cons, Option.some.injEq, List.cons.injEq, F.agg.injEq] at h
        obtain ⟨rfl, rfl⟩ := h
        obtain ⟨hl, hg⟩ := outs_get obs os h2
        refine ⟨by simp [hl], fun o ob zs ho hz => ?_⟩
        cases o with
        | zero => simp at ho hz; subst ho; subst hz; exact ⟨us, rfl, h1⟩
        | succ o => simp at ho hz; exact hg o ob zs ho hz
    · cases h
  | .dead :: _, os, h => by simp [outs] at h
  | .free :: _, os, h => by simp [outs] at h
  | .arr _ _ _ :: _, os, h => by
    simp only [outs] at h
    split at h
    · cases os <;> simp at h
    · cases h
theorem fn_sub {f : FuncId} {fn : Func} {c : Code} (hf : P.funcs[f]? = some fn) (hb : fn.body = some c) (hname : (fn.name == "runtime.NumGoroutine") = false) {us : List U} {x : F} {os : List (List F)} (hn : H.length = os.length) (h0 : os ≠ [])
    (h : EndsN P H.length fn.results.toList [.code c] (startN fn.ntmps us H) (.tup (x :: os.map .agg))) : SubOK P f us H x os := by
  intro w Z m args hH hL
  refine .inl ⟨by
    have hp : (program).run P w = .ok P w := rfl
    unfold callFunc
    simp only [Sem.run_bind, hp, Result.andThen, hf, hname, hb, Option.isNone_some, Bool.false_eq_true, if_false, Sem.run_pure], fun cs => ?_⟩
  have hlen : us.length = args.size := by simpa using hL.1
  have hA : AOK w Z m (startN fn.ntmps us H) { tmps := args ++ Array.replicate (fn.ntmps - args.size) undef, defers := [] } := by
    refine ⟨by simp [startN, hlen], fun i u v hu hv => ?_, hH⟩
    simp only [startN] at hu
    rw [List.getElem?_append] at hu
    rw [Array.getElem?_append] at hv
    split at hu
    · rename_i hi
      rw [if_pos (by omega)] at hv
      exact hL.2 i u v hu (by simpa using hv)
    · rename_i hi
      rw [if_neg (by omega)] at hv
      rw [List.getElem?_replicate] at hu
      rw [Array.getElem?_replicate] at hv
      split at hu
      · split at hv
        · cases hu; cases hv; exact .undef
        · cases hv
      · cases hu
  let b : Frame := { (default : Frame) with fn := f, kind := .normal }
  have henter : Frame.enter P f args .normal = b.at { tmps := args ++ Array.replicate (fn.ntmps - args.size) undef, defers := [] } [.code c] := by
    simp [Frame.enter, Frame.at, hf, hb, b]
  obtain ⟨st', a', w', todo, hk, ⟨hd, Z', m', hA', hE'⟩, hs⟩ := h w Z m H [] _ w Z m rfl hA rfl (Ext.refl _ _ _ _) b cs
  obtain ⟨n, hn1⟩ : ∃ n, H.length = n + 1 := by
    cases os with
    | nil => exact absurd rfl h0
    | cons _ l => exact ⟨l.length, by rw [hn]; rfl⟩
  unfold retF at hk
  rw [hn1] at hk
  rw [if_neg (by rw [show Nat.beq (n + 1) 0 = false from rfl, Bool.and_false]; exact Bool.false_ne_true)] at hk
  split at hk
  · rename_i us' hus
    split at hk
    · rename_i ys hys
      simp only at hk
      obtain ⟨_, hk⟩ := ite_some hk
      split at hk
      · rename_i os' hos
        simp only [Option.some.injEq, F.tup.injEq, List.cons.injEq] at hk
        obtain ⟨hx, rfl⟩ := hk
        obtain ⟨hol, hog⟩ := outs_get _ _ hos
        obtain ⟨vs, hvs, hR⟩ := resU_run (P := P) hA' _ _ hus
        let Z2 : Nat → Prop := fun b => Z' b ∨ ∃ o, n + 1 ≤ o ∧ liveAt st'.heap o ∧ m' o = b
        have hlen' : n + 1 ≤ st'.heap.length := by have := hE'.len; omega
        -- a box that was lent, at the end
        have box : ∀ o, o < n + 1 → ∃ us xs, st'.heap[o]? = some (.box us) ∧ os[o]? = some xs ∧ toFs st'.heap us = some xs := by
          intro o ho
          have h1 : (st'.heap.take (n + 1))[o]? = some st'.heap[o] := by rw [List.getElem?_take, if_pos ho]; exact List.getElem?_eq_getElem (by omega)
          have h2 : o < os.length := by omega
          obtain ⟨us, e, ht⟩ := hog o _ _ h1 (List.getElem?_eq_getElem h2)
          exact ⟨us, os[o], by rw [List.getElem?_eq_getElem (by omega), e], List.getElem?_eq_getElem h2, ht⟩
        have data : ∀ (u : U) (v : Value) (y : F), RepU w' Z' m' st'.heap u v → toF st'.heap u = some y → RepF w' Z2 y v := by
          intro u v y hr hy
          refine (toF_rep hA'.hok (fun _ _ h => h) hr hy).mono ?_ (fun _ _ => rfl)
          rintro b (hb | ⟨o, ho, hlv, rfl⟩)
          · exact .inl hb
          · refine .inr ⟨o, ?_, hlv, rfl⟩
            rcases Nat.lt_or_ge o (n + 1) with hlt | hge
            · obtain ⟨us, xs, h1, _, _⟩ := box o hlt
              obtain ⟨sz, k, g, h2⟩ := toF_arr u y hy o ho
              rw [h1] at h2; cases h2
            · exact hge
        have getB : ∀ (o : Nat) (ob : HO), (os.map boxF)[o]? = some ob → o < n + 1 ∧ ∃ xs, os[o]? = some xs ∧ ob = boxF xs := by
          intro o ob ho
          rw [List.getElem?_map] at ho
          cases hx : os[o]? with
          | none => rw [hx] at ho; cases ho
          | some xs =>
            rw [hx] at ho; cases ho
            have := (List.getElem?_eq_some_iff.1 hx).1
            exact ⟨by omega, xs, rfl, rfl⟩
        have liveB : ∀ o, liveAt (os.map boxF) o → o < n + 1 ∧ liveAt st'.heap o := by
          rintro o ⟨ob, ho, hl⟩
          obtain ⟨h1, xs, h2, h3⟩ := getB o ob ho
          obtain ⟨us, _, h4, _, _⟩ := box o h1
          exact ⟨h1, _, h4, rfl⟩
        have hres : (results fn a'.tmps).run P w' = .ok (if h : vs.toArray.size = 1 then vs.toArray[0] else .tuple vs.toArray) w' := by
          unfold results
          rw [← Array.toArray_toList (xs := fn.results), List.mapM_toArray]
          simp only [Sem.run_bind, Sem.run_map]
          refine (congrArg (fun q => Result.andThen (Result.andThen q fun x w => Result.ok x.toArray w) fun vs w => (pure (if h : vs.size = 1 then vs[0] else .tuple vs) : Sem Value).run P w) hvs).trans ?_
          simp [Result.andThen]
        have hL2 : RepL w' Z2 ys vs := by
          obtain ⟨hl, hg⟩ := toFs_get us' ys hys
          refine ⟨by rw [← hl]; exact hR.1, fun j y v hy' hv => ?_⟩
          have hj := (List.getElem?_eq_some_iff.1 hy').1
          have hu' : us'[j]? = some us'[j] := List.getElem?_eq_getElem (by omega)
          exact data _ _ _ (hR.2 j _ v hu' hv) (hg j _ y hu' hy')
        refine ⟨.returned _, w', { b.at a' todo with mode := .returning }, ?_, ?_, rfl, rfl, hd, rfl, fn, hf, hres⟩
        · refine ⟨Z2, m', ?_, ?_, ?_⟩
          · refine ⟨hE'.os, hE'.tape, hE'.output, hE'.size, fun b hb => .inl (hE'.sub b hb), ?_, hE'.kept, hE'.rest, by rw [List.length_map]; omega, ?_, ?_⟩
            · rintro b (hb | ⟨o, ho, hlv, rfl⟩)
              · exact hE'.back b hb
              · rcases hE'.new o hlv with ⟨⟨ob, h1, _⟩, _⟩ | h1
                · have := (List.getElem?_eq_some_iff.1 h1).1; omega
                · exact .inr (.inl h1)
            · intro o ob ob' ho ho'
              obtain ⟨h1, xs, h2, rfl⟩ := getB o ob' ho'
              obtain ⟨us1, xs1, h4, h5, h6⟩ := box o h1
              rw [h2] at h5; cases h5
              have hev := hE'.evol o ob _ ho h4
              have hl := toFs_length h6
              cases ob <;> simp_all [Evol, boxF]
            · intro o ho
              exact hE'.new o (liveB o ho).2
          · refine ⟨?_, ?_, fun o o' h h' e => hA'.hok.inj o o' (liveB o h).2 (liveB o' h').2 e, ?_⟩
            · rintro b (hb | ⟨o, ho, hlv, rfl⟩)
              · exact hA'.hok.zlt b hb
              · exact hA'.hok.blk_lt hlv
            · rintro o ho (hb | ⟨o', ho', hlv, e⟩)
              · exact hA'.hok.apart o (liveB o ho).2 hb
              · have := hA'.hok.inj o' o hlv (liveB o ho).2 e
                have := (liveB o ho).1
                omega
            · intro o ob ho
              obtain ⟨h1, xs, h2, rfl⟩ := getB o ob ho
              obtain ⟨us1, xs1, h4, h5, h6⟩ := box o h1
              rw [h2] at h5; cases h5
              obtain ⟨c, el, fr, q1, q2, q3, q4⟩ := hA'.hok.ob o _ h4
              obtain ⟨hl, hg⟩ := toFs_get us1 xs h6
              refine ⟨c, el, fr, q1, q2, by rw [List.length_map, ← hl]; exact q3, fun j u hu => ?_⟩
              rw [List.getElem?_map] at hu
              cases hxj : xs[j]? with
              | none => rw [hxj] at hu; cases hu
              | some y =>
                rw [hxj] at hu; cases hu
                have hj := (List.getElem?_eq_some_iff.1 hxj).1
                have huj : us1[j]? = some us1[j] := List.getElem?_eq_getElem (by omega)
                obtain ⟨v, hv, hr⟩ := q4 j _ huj
                exact ⟨v, hv, .f _ _ (data _ _ _ hr (hg j _ y huj hxj))⟩
          · rw [← hx]
            match ys, vs, hL2 with
            | [y], [v], hL2 => exact hL2.2 0 y v rfl rfl
            | [], [], hL2 => exact .tup [] [] rfl hL2.2
            | y1 :: y2 :: ys, v1 :: v2 :: vs, hL2 =>
              have : RepF w' Z2 (.tup (y1 :: y2 :: ys)) (.tuple (v1 :: v2 :: vs).toArray) := .tup _ _ hL2.1 hL2.2
              simpa [tupF] using this
            | [_], [], hL2 => have := hL2.1; simp at this
            | [_], _ :: _ :: _, hL2 => have := hL2.1; simp at this
            | [], _ :: _, hL2 => have := hL2.1; simp at this
            | _ :: _ :: _, [], hL2 => have := hL2.1; simp at this
            | _ :: _ :: _, [_], hL2 => have := hL2.1; simp at this
        · rw [henter]; exact hs
      · cases hk
    · cases hk
  · cases hk
abbrev ptrSp (pre : List F → List F → Bool) (res : List F → List F → F × List F) : Sp := .ptr pre res
theorem ptr_shared {f : FuncId} {pre : List F → List F → Bool} {res : List F → List F → F × List F}
    (h : ∀ cs xs, pre cs xs = true → SubOK P f (.hp 0 0 :: xs.map .f) [boxF cs] (res cs xs).1 [(res cs xs).2]) : SpOK P f (ptrSp pre res) := by
  intro us H hp w Z m args hH hL
  unfold ptrPre at hp
  split at hp
  · rename_i o us' 
    split at hp
    · rename_i cu ho
      split at hp
      · rename_i cs xs hcs hxs
        have hres : ptrRes res (.hp o 0 :: us') H = (.f (res cs xs).1, H.set o (boxF (res cs xs).2)) := by simp only [ptrRes, ho, hcs, hxs]
        rw [hres]
        obtain ⟨hl1, hg1⟩ := toFs_get cu cs hcs
        obtain ⟨hl2, hg2⟩ := toFs_get us' xs hxs
        have hlo : liveAt H o := ⟨_, ho, rfl⟩
        have hobk := hH.ob o _ ho
        have hHsub : HOK w Z (fun _ => m o) [boxF cs] := by
          refine ⟨hH.zlt, fun _ _ => hH.apart o hlo, fun a b ha hb _ => ?_, fun k ob hk => ?_⟩
          · obtain ⟨_, ha, _⟩ := ha
            obtain ⟨_, hb, _⟩ := hb
            have := (List.getElem?_eq_some_iff.1 ha).1
            have := (List.getElem?_eq_some_iff.1 hb).1
            simp at *
            omega
          · have hk0 := (List.getElem?_eq_some_iff.1 hk).1
            obtain rfl : k = 0 := by simp at hk0; exact hk0
            simp at hk; subst hk
            obtain ⟨c, el, fr, q1, q2, q3, q4⟩ := hobk
            refine ⟨c, el, fr, q1, q2, by rw [List.length_map, ← hl1]; exact q3, fun j u hu => ?_⟩
            rw [List.getElem?_map] at hu
            cases hxj : cs[j]? with
            | none => rw [hxj] at hu; cases hu
            | some y =>
              rw [hxj] at hu; cases hu
              have hj := (List.getElem?_eq_some_iff.1 hxj).1
              have huj : cu[j]? = some cu[j] := List.getElem?_eq_getElem (by omega)
              obtain ⟨v, hv, hr⟩ := q4 j _ huj
              exact ⟨v, hv, .f _ _ (toF_rep_nil hH hr (hg1 j _ y huj hxj))⟩
        have hLsub : RepUs w Z (fun _ => m o) [boxF cs] (.hp 0 0 :: xs.map .f) args.toList := by
          refine ⟨by rw [← hL.1]; simp [hl2], fun j u v hu hv => ?_⟩
          cases j with
          | zero =>
            simp at hu; subst hu
            have := hL.2 0 _ v rfl hv
            cases this with
            | hp _ _ _ h1 hk hvv => exact .hp 0 0 v h1 ⟨_, rfl, by simp [boxF]⟩ fun cs' _ => hvv _ ho
          | succ j =>
            simp only [List.getElem?_cons_succ, List.getElem?_map] at hu
            cases hxj : xs[j]? with
            | none => rw [hxj] at hu; cases hu
            | some y =>
              rw [hxj] at hu; cases hu
              have hj := (List.getElem?_eq_some_iff.1 hxj).1
              have huj : us'[j]? = some us'[j] := List.getElem?_eq_getElem (by omega)
              exact .f _ _ (toF_rep_nil hH (hL.2 (j + 1) _ v (by rw [List.getElem?_cons_succ]; exact huj) hv) (hg2 j _ y huj hxj))
        refine (h cs xs hp w Z (fun _ => m o) args hHsub hLsub).mono fun v w' ⟨Z', m', hE, hH', hr⟩ => ?_
        have hm0 : m' 0 = m o := by
          have := hE.evol 0 (boxF cs) (boxF (res cs xs).2) rfl rfl
          simp only [boxF, Evol] at this
          exact this.2
        have hlen : (res cs xs).2.length = cs.length := by
          have := hE.evol 0 (boxF cs) (boxF (res cs xs).2) rfl rfl
          simp only [boxF, Evol, List.length_map] at this
          exact this.1
        have hlt : o < H.length := (List.getElem?_eq_some_iff.1 ho).1
        have hlive : ∀ k, liveAt (H.set o (boxF (res cs xs).2)) k → liveAt H k := by
          intro k ⟨ob1, h1, hd⟩
          by_cases hk : o = k
          · subst hk; exact hlo
          · rw [List.getElem?_set_ne hk] at h1; exact ⟨ob1, h1, hd⟩
        have hkeep : ∀ k, liveAt H k → k ≠ o → w'.heap[m k]? = w.heap[m k]? := by
          intro k hk hne
          refine hE.rest _ (hH.blk_lt hk) fun o' ho' e => hne (hH.inj k o hk hlo e.symm)
        have hEE : Ext w Z m H w' Z' m (H.set o (boxF (res cs xs).2)) := by
          refine ⟨hE.os, hE.tape, hE.output, hE.size, hE.sub, ?_, hE.kept, ?_, by simp, ?_, fun k hk => .inl ⟨hlive k hk, rfl⟩⟩
          · intro b hb
            rcases hE.back b hb with h1 | h1 | ⟨o', ho', e⟩
            · exact .inl h1
            · exact .inr (.inl h1)
            · exact .inr (.inr ⟨o, hlo, e⟩)
          · intro b hb hn
            exact hE.rest b hb fun o' ho' e => hn o hlo e
          · intro k ob ob' hk hk'
            by_cases hko : o = k
            · subst hko
              rw [List.getElem?_set_self hlt] at hk'
              rw [ho] at hk
              cases hk; cases hk'
              simp only [boxF, Evol, List.length_map]
              exact ⟨by rw [hlen, hl1], trivial⟩
            · rw [List.getElem?_set_ne hko, hk] at hk'
              cases hk'
              cases ob with
              | arr sz n g =>
                refine ⟨rfl, Nat.le_refl _, fun _ => ⟨rfl, ?_⟩⟩
                simp only [blockCells, hkeep k ⟨_, hk, rfl⟩ (fun e => hko e.symm)]
              | _ => simp [Evol]
        refine ⟨Z', m, hEE, ⟨hH'.zlt, ?_, fun a b ha hb e => hH.inj a b (hlive a ha) (hlive b hb) e, ?_⟩, .f _ _ hr⟩
        · intro k hk hz
          have hk' := hlive k hk
          by_cases hko : k = o
          · subst hko
            exact hH'.apart 0 ⟨_, rfl, rfl⟩ (by rw [hm0]; exact hz)
          · rcases hE.back _ hz with h1 | h1 | ⟨o', ho', e⟩
            · exact hH.apart k hk' h1
            · have := hH.blk_lt hk'; omega
            · exact hko (hH.inj k o hk' hlo e.symm)
        · intro k ob hk
          by_cases hko : o = k
          · subst hko
            rw [List.getElem?_set_self hlt] at hk
            cases hk
            obtain ⟨c, el, fr, q1, q2, q3, q4⟩ := hH'.ob 0 _ rfl
            rw [hm0] at q1 q2
            refine ⟨c, el, fr, q1, q2, q3, fun j u hu => ?_⟩
            obtain ⟨v, hv, hr⟩ := q4 j u hu
            refine ⟨v, hv, ?_⟩
            rw [List.getElem?_map] at hu
            cases hxj : (res cs xs).2[j]? with
            | none => rw [hxj] at hu; cases hu
            | some y => rw [hxj] at hu; cases hu; cases hr with | f _ _ hr => exact .f _ _ hr
          · rw [List.getElem?_set_ne hko] at hk
            by_cases hd : ob.live = true
            · exact (hH.ob k ob hk).mono hEE (hkeep k ⟨_, hk, hd⟩ (fun e => hko e.symm))
            · cases ob <;> simp_all [ObOK, HO.live]
      · cases hp
    · cases hp
  · cases hp
abbrev newSp (pre : List F → Bool) (res : List F → List F) : Sp := .new pre res
end
end Go.Proofs.Ytbnainbjcaekjaa.R
namespace Go.Proofs.Ytbnainbjcaekjaa.R
open Go
section
variable {P : Program} {w : World} {Z : Nat → Prop} {m : Nat → Nat} {H : List HO}
def FsLe : List F → List F → Prop
  | [], [] => True
  | x :: xs, y :: ys => FLe x y ∧ FsLe xs ys
  | _, _ => False
theorem FsLe.refl : ∀ xs : List F, FsLe xs xs
  | [] => trivial
  | x :: xs => ⟨.refl x, .refl xs⟩
theorem FsLe.get : ∀ {xs ys : List F}, FsLe xs ys → xs.length = ys.length ∧ ∀ (i : Nat) (y : F), ys[i]? = some y → ∃ x, xs[i]? = some x ∧ FLe x y
  | [], [], _ => ⟨rfl, fun i y h => by simp at h⟩
  | x :: xs, y :: ys, h => by
    obtain ⟨h1, h2⟩ := FsLe.get h.2
    refine ⟨by simp [h1], fun i z hi => ?_⟩
    cases i with
    | zero => simp at hi; subst hi; exact ⟨x, rfl, h.1⟩
    | succ i => simp at hi; obtain ⟨u2, h3, h4⟩ := h2 i z hi; exact ⟨u2, by simpa using h3, h4⟩
  | [], _ :: _, h => h.elim
  | _ :: _, [], h => h.elim
theorem RepL.le {xs ys : List F} {vs : List Value} (h : FsLe xs ys) (hL : RepL w Z xs vs) : RepL w Z ys vs := by
  obtain ⟨h1, h2⟩ := h.get
  refine ⟨by rw [← h1]; exact hL.1, fun j y v hy hv => ?_⟩
  obtain ⟨x, hx, hle⟩ := h2 j y hy
  exact hle _ _ _ (hL.2 j x v hx hv)
theorem fn_pure_at {f : FuncId} {fn : Func} {c : Code} (hf : P.funcs[f]? = some fn) (hb : fn.body = some c) (hname : oddFn fn = false) {pre : List F → Bool} {res : List F → F}
    (h : ∀ xs, pre xs = true → ∃ ys y, FsLe xs ys ∧ Ends P fn.results.toList [.code c] (start fn.ntmps (ys.map .f)) y ∧ FLe y (res xs)) : PureOK P f pre res := by
  intro xs hp w Z args hZ hL
  obtain ⟨ys, y, h1, h2, h3⟩ := h xs hp
  have := fn_pure hf hb hname (pre := fun _ => true) (res := fun zs => y) (P := P) (f := f)
  have key : PureOK P f (fun zs => @decide (zs = ys) (Classical.propDecidable _)) (fun _ => y) := fn_pure hf hb hname fun zs hz => by
    obtain rfl := @of_decide_eq_true _ (Classical.propDecidable _) hz
    exact h2
  exact (key ys (@decide_eq_true _ (Classical.propDecidable _) rfl) w Z args hZ (hL.le h1)).mono fun v w' ⟨hg, Z', hz, hr⟩ => ⟨hg, Z', hz, h3 _ _ _ hr⟩
theorem HOK.box_le {xs ys : List F} (h : FsLe xs ys) (hH : HOK w Z m [boxF xs]) : HOK w Z m [boxF ys] := by
  have hl : ∀ k, liveAt [boxF ys] k → liveAt [boxF xs] k := by
    rintro k ⟨ob, hk, _⟩
    have hk0 := (List.getElem?_eq_some_iff.1 hk).1
    obtain rfl : k = 0 := by simp at hk0; exact hk0
    exact ⟨_, rfl, rfl⟩
  refine ⟨hH.zlt, fun o ho => hH.apart o (hl o ho), fun o o' h h' => hH.inj o o' (hl o h) (hl o' h'), fun k ob hk => ?_⟩
  have hk0 := (List.getElem?_eq_some_iff.1 hk).1
  obtain rfl : k = 0 := by simp at hk0; exact hk0
  simp at hk; subst hk
  obtain ⟨c, el, fr, q1, q2, q3, q4⟩ := hH.ob 0 _ rfl
  obtain ⟨h1, h2⟩ := h.get
  refine ⟨c, el, fr, q1, q2, by rw [List.length_map, ← h1]; simpa using q3, fun j u hu => ?_⟩
  rw [List.getElem?_map] at hu
  cases hy : ys[j]? with
  | none => rw [hy] at hu; cases hu
  | some y =>
    rw [hy] at hu; cases hu
    obtain ⟨x, hx, hle⟩ := h2 j y hy
    obtain ⟨v, hv, hr⟩ := q4 j (.f x) (by rw [List.getElem?_map, hx]; rfl)
    exact ⟨v, hv, by cases hr with | f _ _ hr => exact .f _ _ (hle _ _ _ hr)⟩
theorem Ext.box_le {w' : World} {Z' : Nat → Prop} {m' : Nat → Nat} {xs ys os ps : List F} (h : FsLe xs ys) (h' : FsLe ps os) (hE : Ext w Z m [boxF ys] w' Z' m' [boxF ps]) : Ext w Z m [boxF xs] w' Z' m' [boxF os] := by
  have hl : ∀ (al bs : List F) k, liveAt [boxF al] k → liveAt [boxF bs] k := by
    rintro al bs k ⟨ob, hk, _⟩
    have hk0 := (List.getElem?_eq_some_iff.1 hk).1
    obtain rfl : k = 0 := by simp at hk0; exact hk0
    exact ⟨_, rfl, rfl⟩
  refine ⟨hE.os, hE.tape, hE.output, hE.size, hE.sub, fun b hb => ?_, hE.kept, fun b hb hn => hE.rest b hb fun o ho => hn o (hl _ _ o ho), by simp, fun o ob ob' ho ho' => ?_, fun o ho => ?_⟩
  · rcases hE.back b hb with h1 | h1 | ⟨o, ho, e⟩
    · exact .inl h1
    · exact .inr (.inl h1)
    · exact .inr (.inr ⟨o, hl _ _ o ho, e⟩)
  · have hk0 := (List.getElem?_eq_some_iff.1 ho).1
    obtain rfl : o = 0 := by simp at hk0; exact hk0
    simp at ho ho'; subst ho; subst ho'
    have := hE.evol 0 _ _ rfl rfl
    simp only [boxF, Evol, List.length_map] at this ⊢
    exact ⟨by rw [← h'.get.1, h.get.1]; exact this.1, this.2⟩
  · rcases hE.new o (hl _ _ o ho) with ⟨h1, h2⟩ | h1
    · exact .inl ⟨hl _ _ o h1, h2⟩
    · exact .inr h1
theorem fn_ptr_at {f : FuncId} {fn : Func} {c : Code} (hf : P.funcs[f]? = some fn) (hb : fn.body = some c) (hname : (fn.name == "runtime.NumGoroutine") = false) {pre : List F → List F → Bool} {res : List F → List F → F × List F}
    (h : ∀ cs xs, pre cs xs = true → ∃ ds ys r os, FsLe cs ds ∧ FsLe xs ys ∧ EndsN P 1 fn.results.toList [.code c] (startN fn.ntmps (.hp 0 0 :: ys.map .f) [.box (ds.map .f)]) (.tup [r, .agg os]) ∧ FLe r (res cs xs).1 ∧ FsLe os (res cs xs).2) : SpOK P f (ptrSp pre res) :=
  ptr_shared fun cs xs hp w Z m args hH hL => by
    obtain ⟨ds, ys, r, os, h1, h2, h3, h4, h5⟩ := h cs xs hp
    refine (fn_sub hf hb hname (H := [boxF ds]) (os := [os]) rfl (by simp) h3 w Z m args (hH.box_le h1) ?_).mono fun v w' ⟨Z', m', hE, hH', hr⟩ => ⟨Z', m', hE.box_le h1 h5, hH'.box_le h5, h4 _ _ _ hr⟩
    obtain ⟨hl, hg⟩ := h2.get
    refine ⟨by rw [← hL.1]; simp [hl], fun j u v hu hv => ?_⟩
    cases j with
    | zero =>
      simp at hu; subst hu
      have := hL.2 0 _ v rfl hv
      cases this with
      | hp _ _ _ h1 hk hvv => exact .hp 0 0 v h1 ⟨_, rfl, by simp [boxF]⟩ fun cs' _ => hvv _ rfl
    | succ j =>
      simp only [List.getElem?_cons_succ, List.getElem?_map] at hu
      cases hy : ys[j]? with
      | none => rw [hy] at hu; cases hu
      | some y =>
        rw [hy] at hu; cases hu
        obtain ⟨x, hx, hle⟩ := hg j y hy
        have hr := hL.2 (j + 1) (.f x) v (by simp [hx]) hv
        cases hr with | f _ _ hr => exact .f _ _ (hle _ _ _ hr)
theorem fn_new {f : FuncId} {fn : Func} {c : Code} {t : Tmp} {ty : TypeId} (hf : P.funcs[f]? = some fn) (hb : fn.body = some c) (hname : (fn.name == "runtime.NumGoroutine") = false) (hrs : fn.results = #[.tmp t]) (hag : ∀ ti, tiOf P ty = some ti → ti.isAgg = true)
    {pre : List F → Bool} {res : List F → List F}
    (h : ∀ xs, pre xs = true → ∃ ys os, FsLe xs ys ∧ Ends P [.cell t ty] [.code c] (start fn.ntmps (ys.map .f)) (.agg os) ∧ FsLe os (res xs)) : SpOK P f (newSp pre res) := by
  intro us H hp w Z m args hH hL
  simp only [newPre, newRes] at hp ⊢
  cases hxs : toFs [] us with
  | none => rw [hxs] at hp; cases hp
  | some xs =>
  rw [hxs] at hp
  simp only at hp
  simp only []
  obtain ⟨hl2, hg2⟩ := toFs_get us xs hxs
  obtain ⟨ys, os, hle, h, hlo2⟩ := h xs hp
  obtain ⟨hyl, hyg⟩ := hle.get
  obtain ⟨hol, hog⟩ := hlo2.get
  refine .inl ⟨by
    have hp : (program).run P w = .ok P w := rfl
    unfold callFunc
    simp only [Sem.run_bind, hp, Result.andThen, hf, hname, hb, Option.isNone_some, Bool.false_eq_true, if_false, Sem.run_pure], fun cs => ?_⟩
  have hlenx : xs.length = args.size := by rw [← hl2]; simpa using hL.1
  have hlen : ys.length = args.size := by rw [← hyl]; exact hlenx
  have hA : AOK w Z m (start fn.ntmps (ys.map .f)) { tmps := args ++ Array.replicate (fn.ntmps - args.size) undef, defers := [] } := by
    refine ⟨by simp [start, hlen], fun i u v hu hv => ?_, ?_⟩
    · simp only [start, List.length_map] at hu
      rw [List.getElem?_append] at hu
      rw [Array.getElem?_append] at hv
      simp only [List.length_map] at hu
      split at hu
      · rename_i hi
        rw [if_pos (by omega)] at hv
        rw [List.getElem?_map] at hu
        cases hy : ys[i]? with
        | none => rw [hy] at hu; cases hu
        | some y =>
          rw [hy] at hu; cases hu
          obtain ⟨x, hx, hxy⟩ := hyg i y hy
          have huj : us[i]? = some us[i] := List.getElem?_eq_getElem (by omega)
          exact .f _ _ (hxy _ _ _ (toF_rep_nil hH (hL.2 i _ v huj (by simpa using hv)) (hg2 i _ x huj hx)))
      · rename_i hi
        rw [if_neg (by omega)] at hv
        rw [List.getElem?_replicate] at hu
        rw [Array.getElem?_replicate] at hv
        split at hu
        · split at hv
          · cases hu; cases hv; exact .undef
          · cases hv
        · cases hu
    · exact ⟨hH.zlt, fun o ⟨ob, ho, _⟩ => by simp [start] at ho, fun o o' ⟨ob, ho, _⟩ => by simp [start] at ho, fun o ob ho => by simp [start] at ho⟩
  let b : Frame := { (default : Frame) with fn := f, kind := .normal }
  have henter : Frame.enter P f args .normal = b.at { tmps := args ++ Array.replicate (fn.ntmps - args.size) undef, defers := [] } [.code c] := by
    simp [Frame.enter, Frame.at, hf, hb, b]
  obtain ⟨st', a', w', todo, hk, ⟨hd, Z', m', hA', hE'⟩, hs⟩ := h w Z m [] [] _ w Z m rfl hA rfl (Ext.refl _ _ _ _) b cs
  unfold retF at hk
  have hmk : (([ResultVar.cell t ty]).head?.elim false ownMark && Nat.beq ([] : List HO).length 0) = false := rfl
  simp only [List.head?_cons, Option.elim_some, ownMark, Bool.false_and, Bool.false_eq_true, if_false] at hk
  split at hk
  case h_2 => cases hk
  rename_i us' hus
  split at hk
  case h_2 => cases hk
  rename_i ys hys
  simp only [Option.some.injEq] at hk
  simp only [resU] at hus
  split at hus
  case h_2 => cases hus
  rename_i o ti us2 htx hti hus2
  cases hus2
  split at hus
  case isFalse => cases hus
  rename_i hwb
  unfold wholeBox at hwb
  split at hwb
  case h_2 => cases hwb
  rename_i cu ho
  simp only [beq_iff_eq] at hwb
  have hag := hag ti hti
  simp only [evLoad, ho, hag, Nat.zero_add, hwb, Nat.le_refl, decide_true, bsel_true, Bool.true_or, List.drop_zero, Option.some.injEq] at hus
  subst hus
  rw [List.take_of_length_le (by omega)] at hys
  simp only [mkU, if_true, toFs, toF] at hys
  cases hcu : toFs st'.heap cu with
  | none => rw [hcu] at hys; simp at hys
  | some zs =>
  rw [hcu] at hys
  simp only [Option.map_some, Option.some.injEq] at hys
  subst hys
  simp only [tupF, F.agg.injEq] at hk
  subst hk
  have hlive0 : ∀ o, ¬ liveAt ([] : List HO) o := fun o ⟨ob, ho, _⟩ => by simp at ho
  have hlo : liveAt st'.heap o := ⟨_, ho, rfl⟩
  let Z2 : Nat → Prop := fun b => Z' b ∨ ∃ o', o' ≠ o ∧ liveAt st'.heap o' ∧ m' o' = b
  let m2 : Nat → Nat := fun k => if k = H.length then m' o else m k
  have hfresh : w.heap.size ≤ m' o := by
    rcases hE'.new o hlo with ⟨h, _⟩ | h
    · exact absurd h (hlive0 o)
    · exact h
  have data : ∀ (u : U) (v : Value) (y : F), RepU w' Z' m' st'.heap u v → toF st'.heap u = some y → RepF w' Z2 y v := by
    intro u v y hr hy
    refine (toF_rep hA'.hok (fun _ _ h => h) hr hy).mono ?_ (fun _ _ => rfl)
    rintro b (hb | ⟨o', ho', hlv, rfl⟩)
    · exact .inl hb
    · refine .inr ⟨o', ?_, hlv, rfl⟩
      rintro rfl
      obtain ⟨sz, k, g, h2⟩ := toF_arr u y hy o' ho'
      rw [ho] at h2; cases h2
  have hZ2 : ∀ b, Z2 b → Z b ∨ (w.heap.size ≤ b ∧ b < w'.heap.size) := by
    rintro b (hb | ⟨o', ho', hlv, rfl⟩)
    · have hlt := hA'.hok.zlt b hb
      rcases hE'.back b hb with h | h | ⟨o, ho, _⟩
      · exact .inl h
      · exact .inr ⟨h, hlt⟩
      · exact absurd ho (hlive0 o)
    · rcases hE'.new o' hlv with ⟨h, _⟩ | h
      · exact absurd h (hlive0 o')
      · exact .inr ⟨h, hA'.hok.blk_lt hlv⟩
  have hold : ∀ b, b < w.heap.size → w'.heap[b]? = w.heap[b]? := fun b hb => hE'.rest b hb fun o ho => absurd ho (hlive0 o)
  have hmk : ∀ k, liveAt H k → m2 k = m k := by
    rintro k ⟨ob, hk, _⟩
    have := (List.getElem?_eq_some_iff.1 hk).1
    simp only [m2]
    rw [if_neg (by omega)]
  have hmn : m2 H.length = m' o := by simp [m2]
  have hsplit : ∀ k, liveAt (H ++ [boxF (res xs)]) k → liveAt H k ∨ k = H.length := by
    rintro k ⟨ob, hk, hl⟩
    rcases Nat.lt_trichotomy k H.length with h1 | h1 | h1
    · rw [List.getElem?_append_left h1] at hk; exact .inl ⟨ob, hk, hl⟩
    · exact .inr h1
    · rw [List.getElem?_append_right (by omega), List.getElem?_eq_none (by simp; omega)] at hk; cases hk
  have hEE : Ext w Z m H w' Z2 m2 (H ++ [boxF (res xs)]) := by
    refine ⟨hE'.os, hE'.tape, hE'.output, hE'.size, fun b hb => .inl (hE'.sub b hb), ?_, hE'.kept, fun b hb _ => hold b hb, by simp, ?_, ?_⟩
    · intro b hb
      rcases hZ2 b hb with h | h
      · exact .inl h
      · exact .inr (.inl h.1)
    · intro k ob ob' hk hk'
      have hlt := (List.getElem?_eq_some_iff.1 hk).1
      rw [List.getElem?_append_left hlt, hk] at hk'
      cases hk'
      have : m2 k = m k := by simp only [m2]; rw [if_neg (by omega)]
      rw [this]
      cases ob with
      | arr sz n g => exact ⟨rfl, Nat.le_refl _, fun _ => ⟨rfl, by simp only [blockCells, hold _ (hH.blk_lt ⟨_, hk, rfl⟩)]⟩⟩
      | _ => simp [Evol]
    · intro k hk
      rcases hsplit k hk with h1 | h1
      · exact .inl ⟨h1, hmk k h1⟩
      · subst h1; right; rw [hmn]; exact hfresh
  have hHH : HOK w' Z2 m2 (H ++ [boxF (res xs)]) := by
    refine ⟨?_, ?_, ?_, ?_⟩
    · intro b hb
      rcases hZ2 b hb with h | h
      · exact Nat.lt_of_lt_of_le (hH.zlt b h) hE'.size
      · exact h.2
    · intro k hk hz
      rcases hsplit k hk with h1 | h1
      · rw [hmk k h1] at hz
        have := hH.blk_lt h1
        rcases hZ2 _ hz with h | h
        · exact hH.apart k h1 h
        · omega
      · subst h1
        rw [hmn] at hz
        rcases hz with hz | ⟨o', hne, hlv, e⟩
        · exact hA'.hok.apart o hlo hz
        · exact hne (hA'.hok.inj o' o hlv hlo e)
    · intro k k' hk hk' e
      rcases hsplit k hk with h1 | h1 <;> rcases hsplit k' hk' with h2 | h2
      · rw [hmk k h1, hmk k' h2] at e; exact hH.inj k k' h1 h2 e
      · subst h2; rw [hmk k h1, hmn] at e; have := hH.blk_lt h1; omega
      · subst h1; rw [hmk k' h2, hmn] at e; have := hH.blk_lt h2; omega
      · rw [h1, h2]
    · intro k ob hk
      by_cases hlt : k < H.length
      · rw [List.getElem?_append_left hlt] at hk
        by_cases hd : ob.live = true
        · rw [hmk k ⟨_, hk, hd⟩]
          have := (hH.ob k ob hk).mono hEE (hold _ (hH.blk_lt ⟨_, hk, hd⟩))
          exact this
        · cases ob <;> simp_all [ObOK, HO.live]
      · rw [List.getElem?_append_right (by omega)] at hk
        have hk0 := (List.getElem?_eq_some_iff.1 hk).1
        obtain rfl : k = H.length := by simp at hk0; omega
        simp at hk; subst hk
        rw [hmn]
        obtain ⟨c1, el, fr, q1, q2, q3, q4⟩ := hA'.hok.ob o _ ho
        obtain ⟨hl, hg⟩ := toFs_get cu _ hcu
        refine ⟨c1, el, fr, q1, q2, by rw [List.length_map, ← hol, ← hl]; exact q3, fun j u hu => ?_⟩
        rw [List.getElem?_map] at hu
        cases hzj : (res xs)[j]? with
        | none => rw [hzj] at hu; cases hu
        | some z =>
          rw [hzj] at hu; cases hu
          obtain ⟨y, hxj, hyz⟩ := hog j z hzj
          have hj := (List.getElem?_eq_some_iff.1 hxj).1
          have huj : cu[j]? = some cu[j] := List.getElem?_eq_getElem (by omega)
          obtain ⟨v, hv, hr⟩ := q4 j _ huj
          exact ⟨v, hv, .f _ _ (hyz _ _ _ (data _ _ _ hr (hg j _ y huj hxj)))⟩
  have hval : a'.tmps.getD t undef = .pointer (some ⟨m' o, 0, none⟩) := by
    have hr := ev_rep hA' (.tmp t)
    simp only [St.ev, Act.eval] at hr
    rw [htx] at hr
    cases hr with | hp _ _ _ _ _ hvv => exact hvv _ ho
  have hres : (results fn a'.tmps).run P w' = .ok (.pointer (some ⟨m' o, 0, none⟩)) w' := by
    unfold results
    rw [hrs]
    simp [Result.andThen, ← hval]
  refine ⟨.returned _, w', { b.at a' todo with mode := .returning }, ⟨Z2, m2, hEE, hHH, ?_⟩, ?_, rfl, rfl, hd, rfl, fn, hf, hres⟩
  · refine .hp _ _ _ rfl ⟨boxF (res xs), by simp, by simp [boxF]⟩ fun cs' _ => by rw [hmn]
  · rw [henter]; exact hs
def slF {α : Type} (enc : α → F) (d : α) (l : List α) : F := .sl l.length fun i => enc (l.getD i d)
def isSl (is : F → Bool) : F → Bool
  | .sl n g => (List.range n).all fun i => is (g i)
  | _ => false
def unSl {α : Type} (un : F → α) : F → List α
  | .sl n g => (List.range n).map fun i => un (g i)
  | _ => []
theorem unSl_slF {α : Type} {enc : α → F} {un : F → α} {d : α} (h : ∀ a, un (enc a) = a) (l : List α) : unSl un (slF enc d l) = l := by
  simp only [unSl, slF, h]
  apply List.ext_getElem
  · simp
  · intro i h1 h2
    simp [List.getD, List.getElem?_eq_getElem h2]
theorem isSl_slF {α : Type} {enc : α → F} {is : F → Bool} {d : α} (l : List α) (h : ∀ a ∈ l, is (enc a) = true) : isSl is (slF enc d l) = true := by
  simp only [isSl, slF, List.all_eq_true, List.mem_range]
  intro i hi
  rw [show l.getD i d = l[i] by simp [List.getD, List.getElem?_eq_getElem hi]]
  exact h _ (List.getElem_mem hi)
theorem unSl_len {α : Type} (un : F → α) (n : Nat) (g : Nat → F) : (unSl un (.sl n g)).length = n := by simp [unSl]
theorem slF_eqv {α : Type} {enc : α → F} {un : F → α} {is : F → Bool} {d : α} (h : ∀ x, is x = true → enc (un x) = x) {x : F} (hx : isSl is x = true) : FLe x (slF enc d (unSl un x)) ∧ FLe (slF enc d (unSl un x)) x := by
  cases x with
  | sl n g =>
    simp only [isSl, List.all_eq_true, List.mem_range] at hx
    have e : ∀ j, j < n → enc ((unSl un (.sl n g)).getD j d) = g j := fun j hj => by
      have : (unSl un (.sl n g)).getD j d = un (g j) := by simp [unSl, List.getD, hj]
      rw [this, h _ (hx j hj)]
    have hl := unSl_len un n g
    unfold slF
    rw [hl]
    exact ⟨FLe.sl fun j hj => (e j hj).symm, FLe.sl fun j hj => e j hj⟩
  | _ => simp [isSl] at hx
theorem sl_at {α : Type} {enc : α → F} {un : F → α} {is : F → Bool} (d : α) (h : ∀ x, is x = true → enc (un x) = x) {n : Nat} {g : Nat → F} (hx : isSl is (.sl n g) = true) {j : Nat} (hj : j < n) : g j = enc ((unSl un (.sl n g)).getD j d) := by
  simp only [isSl, List.all_eq_true, List.mem_range] at hx
  have : (unSl un (.sl n g)).getD j d = un (g j) := by simp [unSl, List.getD, hj]
  rw [this, h _ (hx j hj)]
theorem HLe.nil : HLe [] [] := ⟨rfl, fun o ob ob' h => by simp at h⟩
theorem HLe.cons {a b : HO} {H H' : List HO} (h : ObLe a b) (t : HLe H H') : HLe (a :: H) (b :: H') := by
  refine ⟨by simp [t.1], fun o ob ob' ho ho' => ?_⟩
  cases o with
  | zero => simp at ho ho'; subst ho; subst ho'; exact h
  | succ o => exact t.2 o ob ob' (by simpa using ho) (by simpa using ho')
theorem ObLe.refl (a : HO) : ObLe a a := .inl rfl
theorem ObLe.arr {sz n : Nat} {g g' : Nat → F} (h : ∀ j, j < n → g j = g' j) : ObLe (.arr sz n g) (.arr sz n g') := .inr ⟨sz, n, g, g', rfl, rfl, h⟩
def bytesF (s : ByteArray) : F := .sl s.size fun i => .int .u8 (byteAt s i)
def isByte : F → Bool
  | .int .u8 b => decide (0 ≤ b) && decide (b < 256)
  | _ => false
def isBytes (x : F) : Bool := isSl isByte x
def unBytes : F → ByteArray
  | .sl n g => bytesOfF n g
  | _ => ⟨#[]⟩
theorem byteAt_rng (s : ByteArray) (i : Int) : 0 ≤ byteAt s i ∧ byteAt s i < 256 := by
  unfold byteAt
  have := UInt8.toNat_lt (s.data.toList.getD i.toNat 0)
  omega
theorem isBytes_bytesF (s : ByteArray) : isBytes (bytesF s) = true := by
  simp only [isBytes, isSl, bytesF, List.all_eq_true, List.mem_range]
  intro i _
  obtain ⟨h1, h2⟩ := byteAt_rng s i
  simp [isByte, h1, h2]
theorem bytesOfF_data (n : Nat) (g : Nat → F) : (bytesOfF n g).data.toList = (List.range n).map fun i => match g i with | .int .u8 b => UInt8.ofNat b.toNat | _ => 0 := rfl
theorem bytesOfF_size (n : Nat) (g : Nat → F) : (bytesOfF n g).size = n := by
  have := congrArg List.length (bytesOfF_data n g)
  rw [List.length_map, List.length_range] at this
  exact this
theorem unBytes_bytesF (s : ByteArray) : unBytes (bytesF s) = s := by
  have : (bytesOfF s.size fun i => .int .u8 (byteAt s i)).data = s.data := by
    apply Array.toList_inj.1
    rw [bytesOfF_data]
    apply List.ext_getElem
    · rw [List.length_map, List.length_range]; rfl
    · intro i h1 h2
      simp only [List.getElem_map, List.getElem_range, byteAt]
      have : s.data.toList.getD (i : Int).toNat 0 = s.data.toList[i] := by simp [List.getD, List.getElem?_eq_getElem h2]
      rw [this]
      simp
  exact congrArg ByteArray.mk this
theorem bytes_eqv {x : F} (hx : isBytes x = true) : FLe x (bytesF (unBytes x)) ∧ FLe (bytesF (unBytes x)) x := by
  cases x with
  | sl n g =>
    simp only [isBytes, isSl, List.all_eq_true, List.mem_range] at hx
    have e : ∀ j : Nat, j < n → F.int .u8 (byteAt (bytesOfF n g) j) = g j := fun j hj => by
      have h1 := hx j hj
      unfold byteAt
      have hlen : j < ((List.range n).map fun i => match g i with | .int .u8 b => UInt8.ofNat b.toNat | _ => 0).length := by simpa using hj
      rw [bytesOfF_data]
      simp only [Int.toNat_natCast, List.getD, List.getElem?_eq_getElem hlen, List.getElem_map, List.getElem_range, Option.getD_some]
      cases hg : g j with
      | int k b =>
        rw [hg] at h1
        cases k <;> simp [isByte] at h1
        simp only [F.int.injEq, true_and]
        obtain ⟨h2, h3⟩ := h1
        rw [UInt8.toNat_ofNat']
        omega
      | _ => rw [hg] at h1; simp [isByte] at h1
    unfold bytesF unBytes
    rw [bytesOfF_size]
    exact ⟨FLe.sl fun j hj => (e j hj).symm, FLe.sl fun j hj => e j hj⟩
  | _ => simp [isBytes, isSl] at hx
end
end Go.Proofs.Ytbnainbjcaekjaa.R
namespace Go.Proofs.Ytbnainbjcaekjaa.R
open Go Go.ChangeShapes Go.WideShapes Go.RowKit
section
variable {H : Type} {enc : TypeId × Value → H} {P : Program} {W : World} {base : Nat} {t e : TypeId} {v : Value} {d : DataW H} {ps : List MemPlace}
theorem cell_lt {a : Addr} {x : Value} (h : W.cell? a = some x) : a.block < W.heap.size := by
  unfold World.cell? at h
  cases hb : W.heap[a.block]? with
  | none => rw [hb] at h; simp at h
  | some o => exact (Array.getElem?_eq_some_iff.1 hb).1
theorem open_intsF {k : IntKind} (ht : P.underlying t = some (.slice e)) (he : P.underlying e = some (.int k)) (hc : P.cellsOf e = 1) (hval : Value.okWide P W .any base t v) (h : DataW.Trod enc P W 0 (fun _ => true) true t v d ps) :
    ∃ zs : List Int, (∀ n ∈ zs, (Lit.int k n).wf = true) ∧ zs.length ≤ maxLen ∧ RepF W (fun b => b < W.heap.size) (.sl zs.length fun i => .int k (zs.getD i 0)) v := by
  obtain ⟨a1, len, cap, rfl⟩ := okWide_slice ht hval
  obtain ⟨fuel, hf⟩ := h
  rcases open_ints ht he hc hf with ⟨hcs, hx⟩ | ⟨a, len', cap', zs, hcs, _, hl, hm, hz, hx, hcell, hwz⟩
  · simp [Value.cells] at hcs
    obtain ⟨rfl, rfl, rfl⟩ := hcs
    exact ⟨[], by simp, Nat.zero_le _, .sl 0 _ none 0 1 ⟨0, 0, none⟩ (fun _ => undef) (Nat.le_refl _) (fun i hi => by omega) (fun i j u hi => by omega) (fun h => absurd rfl h) (fun i j u hi => by omega) (fun i j u hi => by omega)⟩
  · simp [Value.cells] at hcs
    obtain ⟨rfl, rfl, rfl⟩ := hcs
    simp only [if_true] at hz
    have hlen : (zs.take len).length = len := by simp; omega
    refine ⟨zs.take len, fun n hn => hwz n (List.mem_of_mem_take hn), by rw [hlen]; omega, ?_⟩
    rw [hlen]
    refine .sl len _ (some a) cap 1 a (fun j => .int k (zs.getD j 0)) hl (fun i hi => rfl) (fun i j u hi hu => ?_) (fun h0 => ?_) (fun i j u hi hu => ?_) (fun i j u hi hu => ?_)
    · cases j with
      | zero => simp [F.cells] at hu; subst hu; rfl
      | succ j => simp [F.cells] at hu
    · have h1 := hcell 0 (by omega)
      have hsp : a.spot = none := by
        have := World.cell?_spot h1
        simpa [Addr.add] using this
      refine ⟨rfl, ?_, hsp⟩
      have := cell_lt h1
      simpa [Addr.add] using this
    · cases j with
      | zero =>
        have h1 := hcell i (by omega)
        have hsp : a.spot = none := by
          have := World.cell?_spot (hcell 0 (by omega))
          simpa [Addr.add] using this
        have e1 : a.add i = ⟨a.block, a.off + (i * 1 + 0), none⟩ := by
          rw [add_zero_addr a hsp]; simp
        rw [← e1, h1]
        simp
      | succ j => simp [F.cells] at hu
    · cases j with
      | zero =>
        simp [F.cells] at hu; subst hu
        have e2 : (zs.take len).getD i 0 = zs.getD (i * 1 + 0) 0 := by
          simp only [Nat.mul_one, Nat.add_zero, List.getD]
          rw [List.getElem?_take, if_pos hi]
        rw [← List.getD_eq_getElem?_getD, e2]
        exact .int k _
      | succ j => simp [F.cells] at hu
theorem open_bytesF (ht : P.underlying t = some (.slice e)) (he : P.underlying e = some (.int .u8)) (hc : P.cellsOf e = 1) (hval : Value.okWide P W .any base t v) (h : DataW.Trod enc P W 0 (fun _ => true) true t v d ps) :
    ∃ x, isBytes x = true ∧ RepF W (fun b => b < W.heap.size) x v := by
  obtain ⟨zs, h1, _, h2⟩ := open_intsF ht he hc hval h
  refine ⟨_, ?_, h2⟩
  simp only [isBytes, isSl, List.all_eq_true, List.mem_range]
  intro i hi
  have hmem : zs.getD i 0 ∈ zs := by
    rw [show zs.getD i 0 = zs[i] by simp [List.getD, List.getElem?_eq_getElem hi]]
    exact List.getElem_mem hi
  have hb := h1 _ hmem
  have : 0 ≤ zs.getD i 0 ∧ zs.getD i 0 < 256 := by
    have := range_u8 h1 i
    rw [← List.getD_eq_getElem?_getD] at this
    omega
  simp only [isByte, Bool.and_eq_true, decide_eq_true_eq]
  exact this
end
end Go.Proofs.Ytbnainbjcaekjaa.R
namespace Go.Proofs.Ytbnainbjcaekjaa.R
open Go
def bodyOf (fn : Func) : Code := match fn.body with | some c => c | none => .skip
def at_ (fn : Func) (id : Nat) : List Item := (itemsAt id (bodyOf fn) []).getD []
theorem tyOK : TyOK Try.prog (tiOf Try.prog) := ⟨by kernel_rfl, fun _ _ h => h⟩
def env0 : Env := fun _ => .none
theorem env0_ok : EnvOK Try.prog env0 := fun _ => trivial
def Lists {α : Type} (enc : α → F) (d : α) (n : Nat) (g : Nat → F) (o : List α) : Prop := n = o.length ∧ ∀ j, j < n → g j = enc (o.getD j d)
theorem Lists.nil {α : Type} {enc : α → F} {d : α} {g : Nat → F} : Lists enc d 0 g [] := ⟨rfl, fun j h => by omega⟩
theorem Lists.push {α : Type} {enc : α → F} {d : α} {n : Nat} {g : Nat → F} {o : List α} (h : Lists enc d n g o) (x : α) : Lists enc d (n + 1) (fun j => if j < n then g j else enc x) (o ++ [x]) := by
  obtain ⟨h1, h2⟩ := h
  refine ⟨by simp [h1], fun j hj => ?_⟩
  by_cases hjn : j < n
  · simp only [if_pos hjn, h2 j hjn, List.getD]
    rw [List.getElem?_append_left (by omega)]
  · obtain rfl : j = n := by omega
    simp only [if_neg hjn, List.getD]
    rw [List.getElem?_append_right (by omega), h1]
    simp
theorem Lists.le {α : Type} {enc : α → F} {d : α} {n : Nat} {g : Nat → F} {o : List α} (h : Lists enc d n g o) : FLe (.sl n g) (slF enc d o) := by
  obtain ⟨rfl, h2⟩ := h
  exact FLe.sl h2
theorem FLe.tup {xs ys : List F} (h : FsLe xs ys) : FLe (.tup xs) (.tup ys) := by
  intro w Z v hv
  cases hv with
  | tup _ vs hl hr =>
    obtain ⟨h1, h2⟩ := h.get
    refine .tup ys vs (by rw [← h1]; exact hl) fun j y v hy hv => ?_
    obtain ⟨x, hx, hle⟩ := h2 j y hy
    exact hle _ _ _ (hr j x v hx hv)
def i64F (n : Int) : F := .int .i64 n
def intsF (l : List Int) : F := slF i64F 0 l
theorem PureOK.sp {P : Program} {f : FuncId} {pre : List F → Bool} {res : List F → F} (h : PureOK P f pre res) : SpOK P f (.pure pre res) := h
def Env.add (C : Env) (f : FuncId) (s : Sp) : Env := fun g => match Nat.beq g f with
  | true => s
  | false => C g
theorem Env.add_ok {C : Env} (hC : EnvOK Try.prog C) {f : FuncId} {s : Sp} (h : SpOK Try.prog f s) : EnvOK Try.prog (C.add f s) := by
  intro g
  unfold Env.add
  split
  · rename_i e
    have := Nat.eq_of_beq_eq_true e
    subst this
    exact h
  · exact hC g
end Go.Proofs.Ytbnainbjcaekjaa.R
namespace Go.Proofs.Ytbnainbjcaekjaa.R
open Go
def FSame (x y : F) : Prop := FLe x y ∧ FLe y x
theorem FSame.refl (x : F) : FSame x x := ⟨.refl x, .refl x⟩
theorem FSame.symm {x y : F} (h : FSame x y) : FSame y x := ⟨h.2, h.1⟩
theorem FLe.trans {x y z : F} (h : FLe x y) (k : FLe y z) : FLe x z := fun w Z v hv => k w Z v (h w Z v hv)
structure ElLe (x y : F) : Prop where
  cells : FsLe x.cells y.cells
  cell : (∀ u ∈ x.cells, cellF u = true) → ∀ u ∈ y.cells, cellF u = true
theorem ElLe.refl (x : F) : ElLe x x := ⟨.refl _, fun h => h⟩
theorem FLe.slEl {n : Nat} {g g' : Nat → F} (h : ∀ j, j < n → ElLe (g j) (g' j)) : FLe (.sl n g) (.sl n g') := by
  intro w Z v hv
  cases hv with
  | sl _ _ A c sz a V hc hs hk hA hV hr =>
    have hget : ∀ (i j : Nat) (u : F), i < n → (g' i).cells[j]? = some u → ∃ x, (g i).cells[j]? = some x ∧ FLe x u := fun i j u hi hu => (h i hi).cells.get.2 j u hu
    refine .sl n g' A c sz a V hc (fun i hi => by rw [← (h i hi).cells.get.1]; exact hs i hi) (fun i j u hi hu => ?_) hA (fun i j u hi hu => ?_) (fun i j u hi hu => ?_)
    · refine (h i hi).cell (fun u hu => ?_) u (List.mem_of_getElem? hu)
      obtain ⟨k, hk'⟩ := List.getElem?_of_mem hu
      exact hk i k u hi hk'
    · obtain ⟨x, hx, _⟩ := hget i j u hi hu
      exact hV i j x hi hx
    · obtain ⟨x, hx, hle⟩ := hget i j u hi hu
      exact hle _ _ _ (hr i j x hi hx)
theorem slF_eqv' {α : Type} {enc : α → F} {un : F → α} {is : F → Bool} {d : α} (h : ∀ x, is x = true → ElLe x (enc (un x)) ∧ ElLe (enc (un x)) x) {x : F} (hx : isSl is x = true) : FLe x (slF enc d (unSl un x)) ∧ FLe (slF enc d (unSl un x)) x := by
  cases x with
  | sl n g =>
    simp only [isSl, List.all_eq_true, List.mem_range] at hx
    have e : ∀ j, j < n → (unSl un (.sl n g)).getD j d = un (g j) := fun j hj => by simp [unSl, List.getD, hj]
    have hl := unSl_len un n g
    unfold slF
    rw [hl]
    exact ⟨FLe.slEl fun j hj => by rw [e j hj]; exact (h _ (hx j hj)).1, FLe.slEl fun j hj => by rw [e j hj]; exact (h _ (hx j hj)).2⟩
  | _ => simp [isSl] at hx
theorem FLe.agg {xs ys : List F} (h : FsLe xs ys) : FLe (.agg xs) (.agg ys) := by
  intro w Z v hv
  cases hv with
  | agg _ vs hl hr =>
    obtain ⟨h1, h2⟩ := h.get
    refine .agg ys vs (by rw [← h1]; exact hl) fun j y v hy hv => ?_
    obtain ⟨x, hx, hle⟩ := h2 j y hy
    exact hle _ _ _ (hr j x v hx hv)
theorem ElLe.agg {xs ys : List F} (h : FsLe xs ys) (hc : (∀ u ∈ xs, cellF u = true) → ∀ u ∈ ys, cellF u = true) : ElLe (.agg xs) (.agg ys) := ⟨h, hc⟩
end Go.Proofs.Ytbnainbjcaekjaa.R
namespace Go.Proofs.Ytbnainbjcaekjaa.R
open Go
/-! ### function 26 -/
abbrev KJ32 (ρ : Type) := (Bool) → Option ρ
def T26 {ρ : Type} (ret : KJ32 ρ) (a0 : Int) (a1 : Int) (a2 : Int) : Option ρ :=
 (bsel (decide (a0 ≥ a1) == true)
 (ret (decide (a0 ≤ a2)))
 (ret (false)))
def G26 (a0 : Int) (a1 : Int) (a2 : Int) : Option (Bool) := T26 some a0 a1 a2
theorem t26 (a0 : Int) (a1 : Int) (a2 : Int) (r : Bool) (h : G26 a0 a1 a2 = some r) : Ends Try.prog Try.f26.results.toList [.code (bodyOf Try.f26)] (start Try.f26.ntmps ([F.int .i64 a0, F.int .i64 a1, F.int .i64 a2].map .f)) (F.bool r) := by
  refine Ends.of_run tyOK env0_ok (T := []) (n := 200) ?_
  have e : run Try.prog (tiOf Try.prog) env0 [] 0 Try.f26.results.toList some 200 [.code (bodyOf Try.f26)] (start Try.f26.ntmps ([F.int .i64 a0, F.int .i64 a1, F.int .i64 a2].map .f)) = T26 (fun r => some (.ret (F.bool r))) a0 a1 a2 := by kernel_rfl
  rw [e]
  exact (good_sel h (fun _ h => good_ret (by cases h; rfl)) (fun _ h => good_ret (by cases h; rfl)))
/-! ### function 14 -/
def T14 {ρ : Type} (ret : KJ32 ρ) (a0 : Int) (a1 : Int) (a2 : Int) : Option ρ :=
 (bsel (decide (a1 ≤ a0) == true)
 (ret (decide (a0 ≤ a2)))
 (ret (false)))
def G14 (a0 : Int) (a1 : Int) (a2 : Int) : Option (Bool) := T14 some a0 a1 a2
theorem t14 (a0 : Int) (a1 : Int) (a2 : Int) (r : Bool) (h : G14 a0 a1 a2 = some r) : Ends Try.prog Try.f14.results.toList [.code (bodyOf Try.f14)] (start Try.f14.ntmps ([F.int .i64 a0, F.int .i64 a1, F.int .i64 a2].map .f)) (F.bool r) := by
  refine Ends.of_run tyOK env0_ok (T := []) (n := 200) ?_
  have e : run Try.prog (tiOf Try.prog) env0 [] 0 Try.f14.results.toList some 200 [.code (bodyOf Try.f14)] (start Try.f14.ntmps ([F.int .i64 a0, F.int .i64 a1, F.int .i64 a2].map .f)) = T14 (fun r => some (.ret (F.bool r))) a0 a1 a2 := by kernel_rfl
  rw [e]
  exact (good_sel h (fun _ h => good_ret (by cases h; rfl)) (fun _ h => good_ret (by cases h; rfl)))
/-! ### function 44 -/
def T44 {ρ : Type} (ret : KJ32 ρ) (x0 : Int) (y0 : Int) (x1 : Int) (y1 : Int) : Option ρ :=
 (bsel (decide (x0 < x1) == false)
 (bsel ((x0 == x1) == true)
 (ret (decide (y0 < y1)))
 (ret (false)))
 (ret (true)))
def G44 (x0 : Int) (y0 : Int) (x1 : Int) (y1 : Int) : Option (Bool) := T44 some x0 y0 x1 y1
theorem t44 (x0 : Int) (y0 : Int) (x1 : Int) (y1 : Int) (r : Bool) (h : G44 x0 y0 x1 y1 = some r) : Ends Try.prog Try.f44.results.toList [.code (bodyOf Try.f44)] (start Try.f44.ntmps ([F.agg [F.int .i64 x0, F.int .i64 y0], F.agg [F.int .i64 x1, F.int .i64 y1]].map .f)) (F.bool r) := by
  refine Ends.of_run tyOK env0_ok (T := []) (n := 200) ?_
  have e : run Try.prog (tiOf Try.prog) env0 [] 0 Try.f44.results.toList some 200 [.code (bodyOf Try.f44)] (start Try.f44.ntmps ([F.agg [F.int .i64 x0, F.int .i64 y0], F.agg [F.int .i64 x1, F.int .i64 y1]].map .f)) = T44 (fun r => some (.ret (F.bool r))) x0 y0 x1 y1 := by kernel_rfl
  rw [e]
  exact (good_sel h (fun _ h => (good_sel h (fun _ h => good_ret (by cases h; rfl)) (fun _ h => good_ret (by cases h; rfl)))) (fun _ h => good_ret (by cases h; rfl)))
/-! ### function 31 -/
def T31 {ρ : Type} (ret : (Int) → Option ρ) (x0 : Int) (y0 : Int) (x1 : Int) (y1 : Int) : Option ρ :=
 (bsel (x0 == x1 && (y0 == y1 && true))
 (ret (0))
 (bsel (decide (x0 < x1) == false)
 (bsel ((x0 == x1) == true)
 (bsel (decide (y0 < y1))
 (ret (-1))
 (ret (1)))
 (ret (1)))
 (ret (-1))))
def G31 (x0 : Int) (y0 : Int) (x1 : Int) (y1 : Int) : Option (Int) := T31 some x0 y0 x1 y1
theorem t31 (x0 : Int) (y0 : Int) (x1 : Int) (y1 : Int) (r : Int) (h : G31 x0 y0 x1 y1 = some r) : Ends Try.prog Try.f31.results.toList [.code (bodyOf Try.f31)] (start Try.f31.ntmps ([F.agg [F.int .i64 x0, F.int .i64 y0], F.agg [F.int .i64 x1, F.int .i64 y1]].map .f)) (F.int .i64 r) := by
  refine Ends.of_run tyOK env0_ok (T := []) (n := 200) ?_
  have e : run Try.prog (tiOf Try.prog) env0 [] 0 Try.f31.results.toList some 200 [.code (bodyOf Try.f31)] (start Try.f31.ntmps ([F.agg [F.int .i64 x0, F.int .i64 y0], F.agg [F.int .i64 x1, F.int .i64 y1]].map .f)) = T31 (fun r => some (.ret (F.int .i64 r))) x0 y0 x1 y1 := by kernel_rfl
  rw [e]
  exact (good_sel h (fun _ h => good_ret (by cases h; rfl)) (fun _ h => (good_sel h (fun _ h => (good_sel h (fun _ h => (good_sel h (fun _ h => good_ret (by cases h; rfl)) (fun _ h => good_ret (by cases h; rfl)))) (fun _ h => good_ret (by cases h; rfl)))) (fun _ h => good_ret (by cases h; rfl)))))
/-! ### function 51 -/
def T51 {ρ : Type} (ret : (Int) → Option ρ) (a0 : Int) : Option ρ :=
 (bsel (decide (a0 < 0))
 (ret (-1))
 (bsel (decide (a0 > 0))
 (ret (1))
 (ret (0))))
def G51 (a0 : Int) : Option (Int) := T51 some a0
theorem t51 (a0 : Int) (r : Int) (h : G51 a0 = some r) : Ends Try.prog Try.f51.results.toList [.code (bodyOf Try.f51)] (start Try.f51.ntmps ([F.int .i64 a0].map .f)) (F.int .i64 r) := by
  refine Ends.of_run tyOK env0_ok (T := []) (n := 200) ?_
  have e : run Try.prog (tiOf Try.prog) env0 [] 0 Try.f51.results.toList some 200 [.code (bodyOf Try.f51)] (start Try.f51.ntmps ([F.int .i64 a0].map .f)) = T51 (fun r => some (.ret (F.int .i64 r))) a0 := by kernel_rfl
  rw [e]
  exact (good_sel h (fun _ h => good_ret (by cases h; rfl)) (fun _ h => (good_sel h (fun _ h => good_ret (by cases h; rfl)) (fun _ h => good_ret (by cases h; rfl)))))
/-! ### function 52 -/
def T52 {ρ : Type} (ret : (Int) → Option ρ) (x0 : Int) (y0 : Int) (x1 : Int) (y1 : Int) (x2 : Int) (y2 : Int) : Option ρ :=
 (ret (IntKind.i64.wrap (IntKind.i64.wrap (IntKind.i64.wrap (x1 - x0) * IntKind.i64.wrap (y2 - y0)) - IntKind.i64.wrap (IntKind.i64.wrap (y1 - y0) * IntKind.i64.wrap (x2 - x0)))))
def G52 (x0 : Int) (y0 : Int) (x1 : Int) (y1 : Int) (x2 : Int) (y2 : Int) : Option (Int) := T52 some x0 y0 x1 y1 x2 y2
theorem t52 (x0 : Int) (y0 : Int) (x1 : Int) (y1 : Int) (x2 : Int) (y2 : Int) (r : Int) (h : G52 x0 y0 x1 y1 x2 y2 = some r) : Ends Try.prog Try.f52.results.toList [.code (bodyOf Try.f52)] (start Try.f52.ntmps ([F.agg [F.int .i64 x0, F.int .i64 y0], F.agg [F.int .i64 x1, F.int .i64 y1], F.agg [F.int .i64 x2, F.int .i64 y2]].map .f)) (F.int .i64 r) := by
  refine Ends.of_run tyOK env0_ok (T := []) (n := 200) ?_
  have e : run Try.prog (tiOf Try.prog) env0 [] 0 Try.f52.results.toList some 200 [.code (bodyOf Try.f52)] (start Try.f52.ntmps ([F.agg [F.int .i64 x0, F.int .i64 y0], F.agg [F.int .i64 x1, F.int .i64 y1], F.agg [F.int .i64 x2, F.int .i64 y2]].map .f)) = T52 (fun r => some (.ret (F.int .i64 r))) x0 y0 x1 y1 x2 y2 := by kernel_rfl
  rw [e]
  exact good_ret (by cases h; rfl)
/-! ### function 53 -/
def T53 {ρ : Type} (ret : (Int) → Option ρ) (x0 : Int) (y0 : Int) (x1 : Int) (y1 : Int) (x2 : Int) (y2 : Int) : Option ρ :=
 (bsel (decide (IntKind.i64.wrap (IntKind.i64.wrap (IntKind.i64.wrap (x1 - x0) * IntKind.i64.wrap (y2 - y0)) - IntKind.i64.wrap (IntKind.i64.wrap (y1 - y0) * IntKind.i64.wrap (x2 - x0))) < 0))
 (ret (-1))
 (bsel (decide (IntKind.i64.wrap (IntKind.i64.wrap (IntKind.i64.wrap (x1 - x0) * IntKind.i64.wrap (y2 - y0)) - IntKind.i64.wrap (IntKind.i64.wrap (y1 - y0) * IntKind.i64.wrap (x2 - x0))) > 0))
 (ret (1))
 (ret (0))))
def G53 (x0 : Int) (y0 : Int) (x1 : Int) (y1 : Int) (x2 : Int) (y2 : Int) : Option (Int) := T53 some x0 y0 x1 y1 x2 y2
theorem t53 (x0 : Int) (y0 : Int) (x1 : Int) (y1 : Int) (x2 : Int) (y2 : Int) (r : Int) (h : G53 x0 y0 x1 y1 x2 y2 = some r) : Ends Try.prog Try.f53.results.toList [.code (bodyOf Try.f53)] (start Try.f53.ntmps ([F.agg [F.int .i64 x0, F.int .i64 y0], F.agg [F.int .i64 x1, F.int .i64 y1], F.agg [F.int .i64 x2, F.int .i64 y2]].map .f)) (F.int .i64 r) := by
  refine Ends.of_run tyOK env0_ok (T := []) (n := 200) ?_
  have e : run Try.prog (tiOf Try.prog) env0 [] 0 Try.f53.results.toList some 200 [.code (bodyOf Try.f53)] (start Try.f53.ntmps ([F.agg [F.int .i64 x0, F.int .i64 y0], F.agg [F.int .i64 x1, F.int .i64 y1], F.agg [F.int .i64 x2, F.int .i64 y2]].map .f)) = T53 (fun r => some (.ret (F.int .i64 r))) x0 y0 x1 y1 x2 y2 := by kernel_rfl
  rw [e]
  exact (good_sel h (fun _ h => good_ret (by cases h; rfl)) (fun _ h => (good_sel h (fun _ h => good_ret (by cases h; rfl)) (fun _ h => good_ret (by cases h; rfl)))))
def pre3i : List F → Bool | [.int .i64 _, .int .i64 _, .int .i64 _] => true | _ => false
def pre1i : List F → Bool | [.int .i64 _] => true | _ => false
def pre1p : List F → Bool | [.agg [.int .i64 _, .int .i64 _]] => true | _ => false
def pre2p : List F → Bool | [.agg [.int .i64 _, .int .i64 _], .agg [.int .i64 _, .int .i64 _]] => true | _ => false
def pre3p : List F → Bool | [.agg [.int .i64 _, .int .i64 _], .agg [.int .i64 _, .int .i64 _], .agg [.int .i64 _, .int .i64 _]] => true | _ => false
def inV (a lo hi : Int) : Bool := decide (lo ≤ a) && decide (a ≤ hi)
def resIn : List F → F | [.int .i64 a, .int .i64 b, .int .i64 c] => .bool (inV a b c) | _ => .dflt
theorem inV_spec (a b c : Int) : G26 a b c = some (inV a b c) := by
  unfold G26 T26 inV
  have e : decide (a ≥ b) = decide (b ≤ a) := rfl
  rw [e]
  cases decide (b ≤ a) <;> rfl
theorem inV_impl (a b c : Int) : G14 a b c = some (inV a b c) := by
  unfold G14 T14 inV
  cases decide (b ≤ a) <;> rfl
theorem okIn : PureOK Try.prog 26 pre3i resIn :=
  fn_pure (c := bodyOf Try.f26) Try.func26 (by kernel_rfl) (by kernel_rfl) fun xs hp => match xs, hp with
  | [.int .i64 a, .int .i64 b, .int .i64 c], hp => t26 a b c _ (inV_spec a b c)
theorem okWithin : PureOK Try.prog 14 pre3i resIn :=
  fn_pure (c := bodyOf Try.f14) Try.func14 (by kernel_rfl) (by kernel_rfl) fun xs hp => match xs, hp with
  | [.int .i64 a, .int .i64 b, .int .i64 c], hp => t14 a b c _ (inV_impl a b c)
def lessV (x0 y0 x1 y1 : Int) : Bool := decide (x0 < x1) || (x0 == x1 && decide (y0 < y1))
theorem lessV_spec (x0 y0 x1 y1 : Int) : G44 x0 y0 x1 y1 = some (lessV x0 y0 x1 y1) := by
  unfold G44 T44 lessV
  cases decide (x0 < x1) <;> cases (x0 == x1) <;> rfl
def resLess : List F → F | [.agg [.int .i64 a, .int .i64 b], .agg [.int .i64 c, .int .i64 d]] => .bool (lessV a b c d) | _ => .dflt
theorem okLess : PureOK Try.prog 44 pre2p resLess :=
  fn_pure (c := bodyOf Try.f44) Try.func44 (by kernel_rfl) (by kernel_rfl) fun xs hp => match xs, hp with
  | [.agg [.int .i64 a, .int .i64 b], .agg [.int .i64 c, .int .i64 d]], hp => t44 a b c d _ (lessV_spec a b c d)
def cmpV (x0 y0 x1 y1 : Int) : Int := bif x0 == x1 && y0 == y1 then 0 else bif lessV x0 y0 x1 y1 then -1 else 1
theorem cmpV_impl (x0 y0 x1 y1 : Int) : G31 x0 y0 x1 y1 = some (cmpV x0 y0 x1 y1) := by
  unfold G31 T31 cmpV lessV
  rw [Bool.and_true]
  cases (x0 == x1) <;> cases (y0 == y1) <;> cases decide (x0 < x1) <;> cases decide (y0 < y1) <;> rfl
def resCmp : List F → F | [.agg [.int .i64 a, .int .i64 b], .agg [.int .i64 c, .int .i64 d]] => .int .i64 (cmpV a b c d) | _ => .dflt
theorem okCmp : PureOK Try.prog 31 pre2p resCmp :=
  fn_pure (c := bodyOf Try.f31) Try.func31 (by kernel_rfl) (by kernel_rfl) fun xs hp => match xs, hp with
  | [.agg [.int .i64 a, .int .i64 b], .agg [.int .i64 c, .int .i64 d]], hp => t31 a b c d _ (cmpV_impl a b c d)
def signV (n : Int) : Int := bif decide (n < 0) then -1 else bif decide (n > 0) then 1 else 0
theorem signV_impl (n : Int) : G51 n = some (signV n) := by
  unfold G51 T51 signV
  cases decide (n < 0) <;> cases decide (n > 0) <;> rfl
def resSign : List F → F | [.int .i64 n] => .int .i64 (signV n) | _ => .dflt
theorem okSign : PureOK Try.prog 51 pre1i resSign :=
  fn_pure (c := bodyOf Try.f51) Try.func51 (by kernel_rfl) (by kernel_rfl) fun xs hp => match xs, hp with
  | [.int .i64 n], hp => t51 n _ (signV_impl n)
def crossW (x0 y0 x1 y1 x2 y2 : Int) : Int := IntKind.i64.wrap (IntKind.i64.wrap (IntKind.i64.wrap (x1 - x0) * IntKind.i64.wrap (y2 - y0)) - IntKind.i64.wrap (IntKind.i64.wrap (y1 - y0) * IntKind.i64.wrap (x2 - x0)))
def resCross : List F → F | [.agg [.int .i64 a, .int .i64 b], .agg [.int .i64 c, .int .i64 d], .agg [.int .i64 e, .int .i64 f]] => .int .i64 (crossW a b c d e f) | _ => .dflt
theorem okCross : PureOK Try.prog 52 pre3p resCross :=
  fn_pure (c := bodyOf Try.f52) Try.func52 (by kernel_rfl) (by kernel_rfl) fun xs hp => match xs, hp with
  | [.agg [.int .i64 a, .int .i64 b], .agg [.int .i64 c, .int .i64 d], .agg [.int .i64 e, .int .i64 f]], hp => t52 a b c d e f _ rfl
def turnV (x0 y0 x1 y1 x2 y2 : Int) : Int := signV (crossW x0 y0 x1 y1 x2 y2)
theorem turnV_spec (x0 y0 x1 y1 x2 y2 : Int) : G53 x0 y0 x1 y1 x2 y2 = some (turnV x0 y0 x1 y1 x2 y2) := by
  unfold G53 T53 turnV signV crossW
  generalize IntKind.i64.wrap (IntKind.i64.wrap (IntKind.i64.wrap (x1 - x0) * IntKind.i64.wrap (y2 - y0)) - IntKind.i64.wrap (IntKind.i64.wrap (y1 - y0) * IntKind.i64.wrap (x2 - x0))) = n
  cases decide (n < 0) <;> cases decide (n > 0) <;> rfl
def resTurn : List F → F | [.agg [.int .i64 a, .int .i64 b], .agg [.int .i64 c, .int .i64 d], .agg [.int .i64 e, .int .i64 f]] => .int .i64 (turnV a b c d e f) | _ => .dflt
theorem okTurn : PureOK Try.prog 53 pre3p resTurn :=
  fn_pure (c := bodyOf Try.f53) Try.func53 (by kernel_rfl) (by kernel_rfl) fun xs hp => match xs, hp with
  | [.agg [.int .i64 a, .int .i64 b], .agg [.int .i64 c, .int .i64 d], .agg [.int .i64 e, .int .i64 f]], hp => t53 a b c d e f _ (turnV_spec a b c d e f)
def envW1 : Env := ((((((env0.add 26 (.pure pre3i resIn)).add 14 (.pure pre3i resIn)).add 44 (.pure pre2p resLess)).add 31 (.pure pre2p resCmp)).add 51 (.pure pre1i resSign)).add 52 (.pure pre3p resCross)).add 53 (.pure pre3p resTurn)
theorem envW1_ok : EnvOK Try.prog envW1 := (Env.add_ok (Env.add_ok (Env.add_ok (Env.add_ok (Env.add_ok (Env.add_ok (Env.add_ok env0_ok okIn.sp) okWithin.sp) okLess.sp) okCmp.sp) okSign.sp) okCross.sp) okTurn.sp)
end Go.Proofs.Ytbnainbjcaekjaa.R
namespace Go.Proofs.Ytbnainbjcaekjaa.R
open Go
/-! ### function 43 -/
def T43 {ρ : Type} (ret : KJ32 ρ) (x0 : Int) (y0 : Int) : Option ρ :=
 (bsel (inV x0 (-1000000) 1000000 == true)
 (ret (inV y0 (-1000000) 1000000))
 (ret (false)))
def G43 (x0 : Int) (y0 : Int) : Option (Bool) := T43 some x0 y0
theorem t43 (x0 : Int) (y0 : Int) (r : Bool) (h : G43 x0 y0 = some r) : Ends Try.prog Try.f43.results.toList [.code (bodyOf Try.f43)] (start Try.f43.ntmps ([F.agg [F.int .i64 x0, F.int .i64 y0]].map .f)) (F.bool r) := by
  refine Ends.of_run tyOK envW1_ok (T := []) (n := 200) ?_
  have e : run Try.prog (tiOf Try.prog) envW1 [] 0 Try.f43.results.toList some 200 [.code (bodyOf Try.f43)] (start Try.f43.ntmps ([F.agg [F.int .i64 x0, F.int .i64 y0]].map .f)) = T43 (fun r => some (.ret (F.bool r))) x0 y0 := by kernel_rfl
  rw [e]
  exact (good_sel h (fun _ h => good_ret (by cases h; rfl)) (fun _ h => good_ret (by cases h; rfl)))
/-! ### function 30 -/
def T30 {ρ : Type} (ret : KJ32 ρ) (x0 : Int) (y0 : Int) : Option ρ :=
 (bsel (inV x0 (-1000000) 1000000 == true)
 (ret (inV y0 (-1000000) 1000000))
 (ret (false)))
def G30 (x0 : Int) (y0 : Int) : Option (Bool) := T30 some x0 y0
theorem t30 (x0 : Int) (y0 : Int) (r : Bool) (h : G30 x0 y0 = some r) : Ends Try.prog Try.f30.results.toList [.code (bodyOf Try.f30)] (start Try.f30.ntmps ([F.agg [F.int .i64 x0, F.int .i64 y0]].map .f)) (F.bool r) := by
  refine Ends.of_run tyOK envW1_ok (T := []) (n := 200) ?_
  have e : run Try.prog (tiOf Try.prog) envW1 [] 0 Try.f30.results.toList some 200 [.code (bodyOf Try.f30)] (start Try.f30.ntmps ([F.agg [F.int .i64 x0, F.int .i64 y0]].map .f)) = T30 (fun r => some (.ret (F.bool r))) x0 y0 := by kernel_rfl
  rw [e]
  exact (good_sel h (fun _ h => good_ret (by cases h; rfl)) (fun _ h => good_ret (by cases h; rfl)))
def spotOkV (x y : Int) : Bool := inV x (-1000000) 1000000 && inV y (-1000000) 1000000
theorem spotOk_spec (x y : Int) : G43 x y = some (spotOkV x y) := by
  unfold G43 T43 spotOkV
  cases inV x (-1000000) 1000000 <;> rfl
theorem spotOk_impl (x y : Int) : G30 x y = some (spotOkV x y) := by
  unfold G30 T30 spotOkV
  cases inV x (-1000000) 1000000 <;> rfl
def resSpotOk : List F → F | [.agg [.int .i64 x, .int .i64 y]] => .bool (spotOkV x y) | _ => .dflt
theorem okSpotOkS : PureOK Try.prog 43 pre1p resSpotOk :=
  fn_pure (c := bodyOf Try.f43) Try.func43 (by kernel_rfl) (by kernel_rfl) fun xs hp => match xs, hp with
  | [.agg [.int .i64 x, .int .i64 y]], hp => t43 x y _ (spotOk_spec x y)
theorem okSpotOkI : PureOK Try.prog 30 pre1p resSpotOk :=
  fn_pure (c := bodyOf Try.f30) Try.func30 (by kernel_rfl) (by kernel_rfl) fun xs hp => match xs, hp with
  | [.agg [.int .i64 x, .int .i64 y]], hp => t30 x y _ (spotOk_impl x y)
def envW2 : Env := (envW1.add 43 (.pure pre1p resSpotOk)).add 30 (.pure pre1p resSpotOk)
theorem envW2_ok : EnvOK Try.prog envW2 := (Env.add_ok (Env.add_ok envW1_ok okSpotOkS.sp) okSpotOkI.sp)
end Go.Proofs.Ytbnainbjcaekjaa.R
namespace Go.Proofs.Ytbnainbjcaekjaa.R
open Go
/-! ### function 4 -/
def T4 {ρ : Type} (ret : KJ32 ρ) (a0 : ByteArray) : Option ρ :=
 (ret (decide ((↑a0.size : Int) > 1048576)))
def G4 (a0 : ByteArray) : Option (Bool) := T4 some a0
theorem t4 (a0 : ByteArray) (r : Bool) (h : G4 a0 = some r) : Ends Try.prog Try.f4.results.toList [.code (bodyOf Try.f4)] (start Try.f4.ntmps ([bytesF a0].map .f)) (F.bool r) := by
  refine Ends.of_run tyOK env0_ok (T := []) (n := 200) ?_
  have e : run Try.prog (tiOf Try.prog) env0 [] 0 Try.f4.results.toList some 200 [.code (bodyOf Try.f4)] (start Try.f4.ntmps ([bytesF a0].map .f)) = T4 (fun r => some (.ret (F.bool r))) a0 := by kernel_rfl
  rw [e]
  exact good_ret (by cases h; rfl)
/-! ### function 35 -/
def T35 {ρ : Type} (ret : (Int) → (Int) → Option ρ) (s : ByteArray) (p : Int) : Option ρ :=
 (bsel (decide (p ≥ (↑s.size : Int)))
 (ret (0) (p))
 (bsel (decide (0 ≤ IntKind.i64.wrap (IntKind.i64.wrap (p + 1) - 1)))
 (bsel (decide (IntKind.i64.wrap (IntKind.i64.wrap (p + 1) - 1) < (↑s.size : Int)))
 (ret (IntKind.i64.wrap (byteAt s (↑(IntKind.i64.wrap (IntKind.i64.wrap (p + 1) - 1)).toNat : Int))) (IntKind.i64.wrap (p + 1)))
 none)
 none))
def G35 (s : ByteArray) (p : Int) : Option ((Int) × (Int)) := T35 (fun r q => some (r, q)) s p
theorem t35 (s : ByteArray) (p : Int) (r : Int) (q : Int) (h : G35 s p = some (r, q)) : EndsN Try.prog 1 Try.f35.results.toList [.code (bodyOf Try.f35)] (startN Try.f35.ntmps [U.hp 0 0] [HO.box [U.f (bytesF s), U.f (F.int .i64 p)]]) (F.tup [F.int .i64 r, F.agg [bytesF s, F.int .i64 q]]) := by
  refine Ends.of_run tyOK env0_ok (T := []) (n := 200) ?_
  have e : run Try.prog (tiOf Try.prog) env0 [] 1 Try.f35.results.toList some 200 [.code (bodyOf Try.f35)] (startN Try.f35.ntmps [U.hp 0 0] [HO.box [U.f (bytesF s), U.f (F.int .i64 p)]]) = T35 (fun r q => some (.ret (F.tup [F.int .i64 r, F.agg [bytesF s, F.int .i64 q]]))) s p := by kernel_rfl
  rw [e]
  exact (good_sel h (fun _ h => good_ret (by cases h; rfl)) (fun _ h => (good_sel h (fun _ h => (good_sel h (fun _ h => good_ret (by cases h; rfl)) (fun _ h => nomatch h))) (fun _ h => nomatch h))))
/-! ### function 10 -/
def T10 {ρ : Type} (ret : (Int) → Option ρ) (a0 : ByteArray) : Option ρ :=
 (ret (0))
def G10 (a0 : ByteArray) : Option (Int) := T10 some a0
theorem t10 (a0 : ByteArray) (r : Int) (h : G10 a0 = some r) : Ends Try.prog [ResultVar.cell 2 55] [.code (bodyOf Try.f10)] (start Try.f10.ntmps ([bytesF a0].map .f)) (F.agg [bytesF a0, F.int .i64 r]) := by
  refine Ends.of_run tyOK env0_ok (T := []) (n := 200) ?_
  have e : run Try.prog (tiOf Try.prog) env0 [] 0 [ResultVar.cell 2 55] some 200 [.code (bodyOf Try.f10)] (start Try.f10.ntmps ([bytesF a0].map .f)) = T10 (fun r => some (.ret (F.agg [bytesF a0, F.int .i64 r]))) a0 := by kernel_rfl
  rw [e]
  exact good_ret (by cases h; rfl)
theorem wrapi {x : Int} (h0 : -9223372036854775808 ≤ x) (h1 : x ≤ 9223372036854775807) : IntKind.i64.wrap x = x := by
  unfold IntKind.wrap
  simp [IntKind.bits, IntKind.signed]
  omega
def preB : List F → Bool | [b] => isBytes b | _ => false
theorem okBig : SpOK Try.prog 4 (.pure preB (fun xs => match xs with | [b] => .bool (decide (((unBytes b).size : Int) > 1048576)) | _ => .bool false)) :=
  fn_pure_at (c := bodyOf Try.f4) Try.func4 (by kernel_rfl) (by kernel_rfl) fun xs hp => match xs, hp with
  | [b], hp => ⟨[bytesF (unBytes b)], _, ⟨(bytes_eqv hp).1, trivial⟩, t4 (unBytes b) _ rfl, .refl _⟩
def rdOk (s : ByteArray) (p : Int) : Bool := decide (0 ≤ p ∧ p ≤ s.size ∧ s.size ≤ 1048576)
theorem rdOk_iff {s : ByteArray} {p : Int} : rdOk s p = true ↔ 0 ≤ p ∧ p ≤ s.size ∧ s.size ≤ 1048576 := by simp [rdOk]
def nextV (s : ByteArray) (p : Int) : Int × Int := (G35 s p).getD (0, 0)
theorem next_ok {s : ByteArray} {p : Int} (h : rdOk s p = true) : G35 s p = some (nextV s p) ∧ 0 ≤ (nextV s p).1 ∧ (nextV s p).1 < 256 ∧ rdOk s (nextV s p).2 = true := by
  obtain ⟨h1, h2, h3⟩ := rdOk_iff.1 h
  unfold nextV G35 T35
  by_cases hp : p ≥ s.size
  · have c1 : decide (p ≥ (s.size : Int)) = true := decide_eq_true hp
    simp only [c1, bsel_true, Option.getD_some]
    exact ⟨trivial, by omega, by omega, h⟩
  · have c1 : decide (p ≥ (s.size : Int)) = false := decide_eq_false hp
    have e : IntKind.i64.wrap (IntKind.i64.wrap (p + 1) - 1) = p := by rw [wrapi (x := p + 1) (by omega) (by omega), wrapi (by omega) (by omega)]; omega
    have c2 : decide (0 ≤ p) = true := decide_eq_true h1
    have c3 : decide (p < (s.size : Int)) = true := decide_eq_true (by omega)
    simp only [c1, e, c2, c3, bsel_true, bsel_false, Option.getD_some]
    obtain ⟨b1, b2⟩ := byteAt_rng s (p.toNat : Int)
    refine ⟨trivial, ?_, ?_, ?_⟩
    · rw [wrapi (by omega) (by omega)]; exact b1
    · rw [wrapi (by omega) (by omega)]; exact b2
    · rw [wrapi (by omega) (by omega)]; exact rdOk_iff.2 (by omega)
def preR : List F → Bool
  | [b, .int .i64 p] => isBytes b && rdOk (unBytes b) p
  | _ => false
def rd (V : ByteArray → Int → F × Int) : List F → F × List F
  | [b, .int .i64 p] => ((V (unBytes b) p).1, [b, .int .i64 (V (unBytes b) p).2])
  | cs => (.dflt, cs)
theorem preR_open {cs : List F} (h : preR cs = true) : ∃ b p, cs = [b, .int .i64 p] ∧ isBytes b = true ∧ rdOk (unBytes b) p = true := by
  unfold preR at h
  split at h
  · simp only [Bool.and_eq_true] at h
    exact ⟨_, _, rfl, h.1, h.2⟩
  · cases h
theorem okNext : SpOK Try.prog 35 (ptrSp (fun cs xs => match xs with | [] => preR cs | _ => false) (fun cs xs => rd (fun s p => (.int .i64 (nextV s p).1, (nextV s p).2)) cs)) :=
  fn_ptr_at (c := bodyOf Try.f35) Try.func35 (by kernel_rfl) (by kernel_rfl) fun cs xs hp => by
    cases xs with
    | cons _ _ => cases hp
    | nil =>
      obtain ⟨b, p, rfl, hb, hr⟩ := preR_open hp
      obtain ⟨h1, _⟩ := next_ok hr
      exact ⟨[bytesF (unBytes b), .int .i64 p], [], _, _, ⟨(bytes_eqv hb).1, .refl _, trivial⟩, trivial, t35 _ _ _ _ h1, .refl _, ⟨(bytes_eqv hb).2, .refl _, trivial⟩⟩
theorem okOpen : SpOK Try.prog 10 (newSp preB (fun xs => match xs with | [b] => [b, .int .i64 0] | _ => [])) :=
  fn_new (c := bodyOf Try.f10) (t := 2) (ty := 55) Try.func10 (by kernel_rfl) (by kernel_rfl) (by kernel_rfl) (fun ti h => by
    have e : (tiOf Try.prog 55).map TI.isAgg = some true := by kernel_rfl
    rw [h] at e
    exact Option.some.inj e) fun xs hp => match xs, hp with
  | [b], hp => ⟨[bytesF (unBytes b)], [bytesF (unBytes b), .int .i64 0], ⟨(bytes_eqv hp).1, trivial⟩, t10 (unBytes b) 0 rfl, ⟨(bytes_eqv hp).2, .refl _, trivial⟩⟩
def envD1 : Env := ((env0.add 35 (ptrSp (fun cs xs => match xs with | [] => preR cs | _ => false) (fun cs xs => rd (fun s p => (.int .i64 (nextV s p).1, (nextV s p).2)) cs))).add 10 (newSp preB (fun xs => match xs with | [b] => [b, .int .i64 0] | _ => []))).add 4 (.pure preB (fun xs => match xs with | [b] => .bool (decide (((unBytes b).size : Int) > 1048576)) | _ => .bool false))
theorem envD1_ok : EnvOK Try.prog envD1 := (Env.add_ok (Env.add_ok (Env.add_ok env0_ok okNext) okOpen) okBig)
end Go.Proofs.Ytbnainbjcaekjaa.R
namespace Go.Proofs.Ytbnainbjcaekjaa.R
open Go
/-! ### function 27 -/
def T27 {ρ : Type} (ret : KJ32 ρ) (x0 : Int) (y0 : Int) (x1 : Int) (y1 : Int) : Option ρ :=
 (bsel (spotOkV x0 y0 == true)
 (bsel (spotOkV x1 y1 == true)
 (ret (lessV x0 y0 x1 y1))
 (ret (false)))
 (ret (false)))
def G27 (x0 : Int) (y0 : Int) (x1 : Int) (y1 : Int) : Option (Bool) := T27 some x0 y0 x1 y1
theorem t27 (x0 : Int) (y0 : Int) (x1 : Int) (y1 : Int) (r : Bool) (h : G27 x0 y0 x1 y1 = some r) : Ends Try.prog Try.f27.results.toList [.code (bodyOf Try.f27)] (start Try.f27.ntmps ([F.agg [F.int .i64 x0, F.int .i64 y0, F.int .i64 x1, F.int .i64 y1]].map .f)) (F.bool r) := by
  refine Ends.of_run tyOK envW2_ok (T := []) (n := 200) ?_
  have e : run Try.prog (tiOf Try.prog) envW2 [] 0 Try.f27.results.toList some 200 [.code (bodyOf Try.f27)] (start Try.f27.ntmps ([F.agg [F.int .i64 x0, F.int .i64 y0, F.int .i64 x1, F.int .i64 y1]].map .f)) = T27 (fun r => some (.ret (F.bool r))) x0 y0 x1 y1 := by kernel_rfl
  rw [e]
  exact (good_sel h (fun _ h => (good_sel h (fun _ h => good_ret (by cases h; rfl)) (fun _ h => good_ret (by cases h; rfl)))) (fun _ h => good_ret (by cases h; rfl)))
/-! ### function 15 -/
def T15 {ρ : Type} (ret : KJ32 ρ) (x0 : Int) (y0 : Int) (x1 : Int) (y1 : Int) : Option ρ :=
 (bsel (spotOkV x0 y0 == true)
 (bsel (spotOkV x1 y1 == true)
 (ret (decide (cmpV x0 y0 x1 y1 < 0)))
 (ret (false)))
 (ret (false)))
def G15 (x0 : Int) (y0 : Int) (x1 : Int) (y1 : Int) : Option (Bool) := T15 some x0 y0 x1 y1
theorem t15 (x0 : Int) (y0 : Int) (x1 : Int) (y1 : Int) (r : Bool) (h : G15 x0 y0 x1 y1 = some r) : Ends Try.prog Try.f15.results.toList [.code (bodyOf Try.f15)] (start Try.f15.ntmps ([F.agg [F.int .i64 x0, F.int .i64 y0, F.int .i64 x1, F.int .i64 y1]].map .f)) (F.bool r) := by
  refine Ends.of_run tyOK envW2_ok (T := []) (n := 200) ?_
  have e : run Try.prog (tiOf Try.prog) envW2 [] 0 Try.f15.results.toList some 200 [.code (bodyOf Try.f15)] (start Try.f15.ntmps ([F.agg [F.int .i64 x0, F.int .i64 y0, F.int .i64 x1, F.int .i64 y1]].map .f)) = T15 (fun r => some (.ret (F.bool r))) x0 y0 x1 y1 := by kernel_rfl
  rw [e]
  exact (good_sel h (fun _ h => (good_sel h (fun _ h => good_ret (by cases h; rfl)) (fun _ h => good_ret (by cases h; rfl)))) (fun _ h => good_ret (by cases h; rfl)))
/-! ### function 50 -/
def S50_6n0 (x0 : Int) (y0 : Int) (x1 : Int) (y1 : Int) (lx : Int) (ly : Int) (hx : Int) (hy : Int) (x7 : Int) (x8 : Int) : St := ⟨[.bad, .bad, .bad, (U.hp 0 0), .bad, .bad, .bad, (U.f (F.int .i64 x7)), (U.f (F.int .i64 x8)), .bad, .bad, .bad, .bad, .bad, .bad, .bad, .bad, .bad, .bad, .bad, .bad, .bad, .bad, .bad, .bad, .bad, .bad, .bad, .bad, .bad, .bad, .bad, .bad, .bad, .bad, .bad, .bad, .bad, .bad, .bad, .bad, .bad, .bad, .bad, .bad, .bad, .bad, .bad, .bad, .bad, .bad, .bad, .bad, .bad, .bad, .bad, .bad, .bad, .bad, .bad, .bad, .bad, .bad, .bad, .bad, .bad, .bad, .bad, .bad, (U.hs 3 4 0 4), (U.f (F.int .i64 4)), (U.f (F.int .i64 0)), .bad, .bad, .bad, .bad, .bad, .bad, .bad, .bad, .bad, .bad, .bad, .bad, .bad, .bad, .bad, .bad, .bad, .bad, .bad, .bad, .bad, .bad, .bad, .bad], [HO.box [U.f (F.int .i64 x0), U.f (F.int .i64 y0), U.f (F.int .i64 x1), U.f (F.int .i64 y1)], HO.box [U.f (F.int .i64 lx), U.f (F.int .i64 ly)], HO.box [U.f (F.int .i64 hx), U.f (F.int .i64 hy)], HO.arr 2 4 (lget [F.agg [F.int .i64 lx, F.int .i64 ly], F.agg [F.int .i64 hx, F.int .i64 hy], F.agg [F.int .i64 lx, F.int .i64 hy], F.agg [F.int .i64 hx, F.int .i64 ly]])]⟩
def S50_6n1 (x0 : Int) (y0 : Int) (x1 : Int) (y1 : Int) (lx : Int) (ly : Int) (hx : Int) (hy : Int) (x7 : Int) (x8 : Int) : St := ⟨[.bad, .bad, .bad, (U.hp 0 0), .bad, .bad, .bad, (U.f (F.int .i64 x7)), (U.f (F.int .i64 x8)), .bad, .bad, .bad, .bad, .bad, .bad, .bad, .bad, .bad, .bad, .bad, .bad, .bad, .bad, .bad, .bad, .bad, .bad, .bad, .bad, .bad, .bad, .bad, .bad, .bad, .bad, .bad, .bad, .bad, .bad, .bad, .bad, .bad, .bad, .bad, .bad, .bad, .bad, .bad, .bad, .bad, .bad, .bad, .bad, .bad, .bad, .bad, .bad, .bad, .bad, .bad, .bad, .bad, .bad, .bad, .bad, .bad, .bad, .bad, .bad, (U.hs 3 4 0 4), (U.f (F.int .i64 4)), (U.f (F.int .i64 1)), .bad, .bad, .bad, .bad, .bad, .bad, .bad, .bad, .bad, .bad, .bad, .bad, .bad, .bad, .bad, .bad, .bad, .bad, .bad, .bad, .bad, .bad, .bad, .bad], [HO.box [U.f (F.int .i64 x0), U.f (F.int .i64 y0), U.f (F.int .i64 x1), U.f (F.int .i64 y1)], HO.box [U.f (F.int .i64 lx), U.f (F.int .i64 ly)], HO.box [U.f (F.int .i64 hx), U.f (F.int .i64 hy)], HO.arr 2 4 (lget [F.agg [F.int .i64 lx, F.int .i64 ly], F.agg [F.int .i64 hx, F.int .i64 hy], F.agg [F.int .i64 lx, F.int .i64 hy], F.agg [F.int .i64 hx, F.int .i64 ly]])]⟩
def S50_6n2 (x0 : Int) (y0 : Int) (x1 : Int) (y1 : Int) (lx : Int) (ly : Int) (hx : Int) (hy : Int) (x7 : Int) (x8 : Int) : St := ⟨[.bad, .bad, .bad, (U.hp 0 0), .bad, .bad, .bad, (U.f (F.int .i64 x7)), (U.f (F.int .i64 x8)), .bad, .bad, .bad, .bad, .bad, .bad, .bad, .bad, .bad, .bad, .bad, .bad, .bad, .bad, .bad, .bad, .bad, .bad, .bad, .bad, .bad, .bad, .bad, .bad, .bad, .bad, .bad, .bad, .bad, .bad, .bad, .bad, .bad, .bad, .bad, .bad, .bad, .bad, .bad, .bad, .bad, .bad, .bad, .bad, .bad, .bad, .bad, .bad, .bad, .bad, .bad, .bad, .bad, .bad, .bad, .bad, .bad, .bad, .bad, .bad, (U.hs 3 4 0 4), (U.f (F.int .i64 4)), (U.f (F.int .i64 2)), .bad, .bad, .bad, .bad, .bad, .bad, .bad, .bad, .bad, .bad, .bad, .bad, .bad, .bad, .bad, .bad, .bad, .bad, .bad, .bad, .bad, .bad, .bad, .bad], [HO.box [U.f (F.int .i64 x0), U.f (F.int .i64 y0), U.f (F.int .i64 x1), U.f (F.int .i64 y1)], HO.box [U.f (F.int .i64 lx), U.f (F.int .i64 ly)], HO.box [U.f (F.int .i64 hx), U.f (F.int .i64 hy)], HO.arr 2 4 (lget [F.agg [F.int .i64 lx, F.int .i64 ly], F.agg [F.int .i64 hx, F.int .i64 hy], F.agg [F.int .i64 lx, F.int .i64 hy], F.agg [F.int .i64 hx, F.int .i64 ly]])]⟩
def S50_6n3 (x0 : Int) (y0 : Int) (x1 : Int) (y1 : Int) (lx : Int) (ly : Int) (hx : Int) (hy : Int) (x7 : Int) (x8 : Int) : St := ⟨[.bad, .bad, .bad, (U.hp 0 0), .bad, .bad, .bad, (U.f (F.int .i64 x7)), (U.f (F.int .i64 x8)), .bad, .bad, .bad, .bad, .bad, .bad, .bad, .bad, .bad, .bad, .bad, .bad, .bad, .bad, .bad, .bad, .bad, .bad, .bad, .bad, .bad, .bad, .bad, .bad, .bad, .bad, .bad, .bad, .bad, .bad, .bad, .bad, .bad, .bad, .bad, .bad, .bad, .bad, .bad, .bad, .bad, .bad, .bad, .bad, .bad, .bad, .bad, .bad, .bad, .bad, .bad, .bad, .bad, .bad, .bad, .bad, .bad, .bad, .bad, .bad, (U.hs 3 4 0 4), (U.f (F.int .i64 4)), (U.f (F.int .i64 3)), .bad, .bad, .bad, .bad, .bad, .bad, .bad, .bad, .bad, .bad, .bad, .bad, .bad, .bad, .bad, .bad, .bad, .bad, .bad, .bad, .bad, .bad, .bad, .bad], [HO.box [U.f (F.int .i64 x0), U.f (F.int .i64 y0), U.f (F.int .i64 x1), U.f (F.int .i64 y1)], HO.box [U.f (F.int .i64 lx), U.f (F.int .i64 ly)], HO.box [U.f (F.int .i64 hx), U.f (F.int .i64 hy)], HO.arr 2 4 (lget [F.agg [F.int .i64 lx, F.int .i64 ly], F.agg [F.int .i64 hx, F.int .i64 hy], F.agg [F.int .i64 lx, F.int .i64 hy], F.agg [F.int .i64 hx, F.int .i64 ly]])]⟩
def S50_6n4 (x0 : Int) (y0 : Int) (x1 : Int) (y1 : Int) (lx : Int) (ly : Int) (hx : Int) (hy : Int) (x7 : Int) (x8 : Int) : St := ⟨[.bad, .bad, .bad, (U.hp 0 0), .bad, .bad, .bad, (U.f (F.int .i64 x7)), (U.f (F.int .i64 x8)), .bad, .bad, .bad, .bad, .bad, .bad, .bad, .bad, .bad, .bad, .bad, .bad, .bad, .bad, .bad, .bad, .bad, .bad, .bad, .bad, .bad, .bad, .bad, .bad, .bad, .bad, .bad, .bad, .bad, .bad, .bad, .bad, .bad, .bad, .bad, .bad, .bad, .bad, .bad, .bad, .bad, .bad, .bad, .bad, .bad, .bad, .bad, .bad, .bad, .bad, .bad, .bad, .bad, .bad, .bad, .bad, .bad, .bad, .bad, .bad, (U.hs 3 4 0 4), (U.f (F.int .i64 4)), (U.f (F.int .i64 4)), .bad, .bad, .bad, .bad, .bad, .bad, .bad, .bad, .bad, .bad, .bad, .bad, .bad, .bad, .bad, .bad, .bad, .bad, .bad, .bad, .bad, .bad, .bad, .bad], [HO.box [U.f (F.int .i64 x0), U.f (F.int .i64 y0), U.f (F.int .i64 x1), U.f (F.int .i64 y1)], HO.box [U.f (F.int .i64 lx), U.f (F.int .i64 ly)], HO.box [U.f (F.int .i64 hx), U.f (F.int .i64 hy)], HO.arr 2 4 (lget [F.agg [F.int .i64 lx, F.int .i64 ly], F.agg [F.int .i64 hx, F.int .i64 hy], F.agg [F.int .i64 lx, F.int .i64 hy], F.agg [F.int .i64 hx, F.int .i64 ly]])]⟩
abbrev KJ31 (ρ : Type) := (Int) → (Int) → (Int) → (Int) → (Int) → (Int) → (Int) → (Int) → (Int) → (Int) → Option ρ
def T50_6n0 {ρ : Type} (ret : KJ32 ρ) (c6n0 : KJ31 ρ) (c6n1 : KJ31 ρ) (c6n2 : KJ31 ρ) (c6n3 : KJ31 ρ) (c6n4 : KJ31 ρ) (x0 : Int) (y0 : Int) (x1 : Int) (y1 : Int) (lx : Int) (ly : Int) (hx : Int) (hy : Int) (x7 : Int) (x8 : Int) : Option ρ :=
 (bsel (turnV x0 y0 x1 y1 lx ly == 1)
 (c6n1 (x0) (y0) (x1) (y1) (lx) (ly) (hx) (hy) (IntKind.i64.wrap (x7 + 1)) (x8))
 (bsel (turnV x0 y0 x1 y1 lx ly == -1)
 (c6n1 (x0) (y0) (x1) (y1) (lx) (ly) (hx) (hy) (x7) (IntKind.i64.wrap (x8 + 1)))
 (c6n1 (x0) (y0) (x1) (y1) (lx) (ly) (hx) (hy) (x7) (x8))))
def T50_6n1 {ρ : Type} (ret : KJ32 ρ) (c6n0 : KJ31 ρ) (c6n1 : KJ31 ρ) (c6n2 : KJ31 ρ) (c6n3 : KJ31 ρ) (c6n4 : KJ31 ρ) (x0 : Int) (y0 : Int) (x1 : Int) (y1 : Int) (lx : Int) (ly : Int) (hx : Int) (hy : Int) (x7 : Int) (x8 : Int) : Option ρ :=
 (bsel (turnV x0 y0 x1 y1 hx hy == 1)
 (c6n2 (x0) (y0) (x1) (y1) (lx) (ly) (hx) (hy) (IntKind.i64.wrap (x7 + 1)) (x8))
 (bsel (turnV x0 y0 x1 y1 hx hy == -1)
 (c6n2 (x0) (y0) (x1) (y1) (lx) (ly) (hx) (hy) (x7) (IntKind.i64.wrap (x8 + 1)))
 (c6n2 (x0) (y0) (x1) (y1) (lx) (ly) (hx) (hy) (x7) (x8))))
def T50_6n2 {ρ : Type} (ret : KJ32 ρ) (c6n0 : KJ31 ρ) (c6n1 : KJ31 ρ) (c6n2 : KJ31 ρ) (c6n3 : KJ31 ρ) (c6n4 : KJ31 ρ) (x0 : Int) (y0 : Int) (x1 : Int) (y1 : Int) (lx : Int) (ly : Int) (hx : Int) (hy : Int) (x7 : Int) (x8 : Int) : Option ρ :=
 (bsel (turnV x0 y0 x1 y1 lx hy == 1)
 (c6n3 (x0) (y0) (x1) (y1) (lx) (ly) (hx) (hy) (IntKind.i64.wrap (x7 + 1)) (x8))
 (bsel (turnV x0 y0 x1 y1 lx hy == -1)
 (c6n3 (x0) (y0) (x1) (y1) (lx) (ly) (hx) (hy) (x7) (IntKind.i64.wrap (x8 + 1)))
 (c6n3 (x0) (y0) (x1) (y1) (lx) (ly) (hx) (hy) (x7) (x8))))
def T50_6n3 {ρ : Type} (ret : KJ32 ρ) (c6n0 : KJ31 ρ) (c6n1 : KJ31 ρ) (c6n2 : KJ31 ρ) (c6n3 : KJ31 ρ) (c6n4 : KJ31 ρ) (x0 : Int) (y0 : Int) (x1 : Int) (y1 : Int) (lx : Int) (ly : Int) (hx : Int) (hy : Int) (x7 : Int) (x8 : Int) : Option ρ :=
 (bsel (turnV x0 y0 x1 y1 hx ly == 1)
 (c6n4 (x0) (y0) (x1) (y1) (lx) (ly) (hx) (hy) (IntKind.i64.wrap (x7 + 1)) (x8))
 (bsel (turnV x0 y0 x1 y1 hx ly == -1)
 (c6n4 (x0) (y0) (x1) (y1) (lx) (ly) (hx) (hy) (x7) (IntKind.i64.wrap (x8 + 1)))
 (c6n4 (x0) (y0) (x1) (y1) (lx) (ly) (hx) (hy) (x7) (x8))))
def T50_6n4 {ρ : Type} (ret : KJ32 ρ) (c6n0 : KJ31 ρ) (c6n1 : KJ31 ρ) (c6n2 : KJ31 ρ) (c6n3 : KJ31 ρ) (c6n4 : KJ31 ρ) (x0 : Int) (y0 : Int) (x1 : Int) (y1 : Int) (lx : Int) (ly : Int) (hx : Int) (hy : Int) (x7 : Int) (x8 : Int) : Option ρ :=
 (bsel (decide (x7 < 4) == true)
 (ret (decide (x8 < 4)))
 (ret (false)))
mutual
def L50_6n0 : Nat → (Int) → (Int) → (Int) → (Int) → (Int) → (Int) → (Int) → (Int) → (Int) → (Int) → Option (Bool)
  | 0, _, _, _, _, _, _, _, _, _, _ => none
  | k + 1, x0, y0, x1, y1, lx, ly, hx, hy, x7, x8 => T50_6n0 some (L50_6n0 k) (L50_6n1 k) (L50_6n2 k) (L50_6n3 k) (L50_6n4 k) x0 y0 x1 y1 lx ly hx hy x7 x8
def L50_6n1 : Nat → (Int) → (Int) → (Int) → (Int) → (Int) → (Int) → (Int) → (Int) → (Int) → (Int) → Option (Bool)
  | 0, _, _, _, _, _, _, _, _, _, _ => none
  | k + 1, x0, y0, x1, y1, lx, ly, hx, hy, x7, x8 => T50_6n1 some (L50_6n0 k) (L50_6n1 k) (L50_6n2 k) (L50_6n3 k) (L50_6n4 k) x0 y0 x1 y1 lx ly hx hy x7 x8
def L50_6n2 : Nat → (Int) → (Int) → (Int) → (Int) → (Int) → (Int) → (Int) → (Int) → (Int) → (Int) → Option (Bool)
  | 0, _, _, _, _, _, _, _, _, _, _ => none
  | k + 1, x0, y0, x1, y1, lx, ly, hx, hy, x7, x8 => T50_6n2 some (L50_6n0 k) (L50_6n1 k) (L50_6n2 k) (L50_6n3 k) (L50_6n4 k) x0 y0 x1 y1 lx ly hx hy x7 x8
def L50_6n3 : Nat → (Int) → (Int) → (Int) → (Int) → (Int) → (Int) → (Int) → (Int) → (Int) → (Int) → Option (Bool)
  | 0, _, _, _, _, _, _, _, _, _, _ => none
  | k + 1, x0, y0, x1, y1, lx, ly, hx, hy, x7, x8 => T50_6n3 some (L50_6n0 k) (L50_6n1 k) (L50_6n2 k) (L50_6n3 k) (L50_6n4 k) x0 y0 x1 y1 lx ly hx hy x7 x8
def L50_6n4 : Nat → (Int) → (Int) → (Int) → (Int) → (Int) → (Int) → (Int) → (Int) → (Int) → (Int) → Option (Bool)
  | 0, _, _, _, _, _, _, _, _, _, _ => none
  | k + 1, x0, y0, x1, y1, lx, ly, hx, hy, x7, x8 => T50_6n4 some (L50_6n0 k) (L50_6n1 k) (L50_6n2 k) (L50_6n3 k) (L50_6n4 k) x0 y0 x1 y1 lx ly hx hy x7 x8
end
def T50 {ρ : Type} (ret : KJ32 ρ) (c6n0 : KJ31 ρ) (c6n1 : KJ31 ρ) (c6n2 : KJ31 ρ) (c6n3 : KJ31 ρ) (c6n4 : KJ31 ρ) (x0 : Int) (y0 : Int) (x1 : Int) (y1 : Int) (lx : Int) (ly : Int) (hx : Int) (hy : Int) : Option ρ :=
 (bsel (decide (x1 < lx) == false)
 (bsel (decide (x0 > hx) == false)
 (bsel (decide (y0 < ly) == true)
 (bsel (decide (y1 < ly) == false)
 (bsel (decide (y0 > hy) == true)
 (bsel (decide (y1 > hy))
 (ret (false))
 (c6n0 (x0) (y0) (x1) (y1) (lx) (ly) (hx) (hy) (0) (0)))
 (c6n0 (x0) (y0) (x1) (y1) (lx) (ly) (hx) (hy) (0) (0)))
 (ret (false)))
 (bsel (decide (y0 > hy) == true)
 (bsel (decide (y1 > hy))
 (ret (false))
 (c6n0 (x0) (y0) (x1) (y1) (lx) (ly) (hx) (hy) (0) (0)))
 (c6n0 (x0) (y0) (x1) (y1) (lx) (ly) (hx) (hy) (0) (0))))
 (ret (false)))
 (ret (false)))
def G50 (k : Nat) (x0 : Int) (y0 : Int) (x1 : Int) (y1 : Int) (lx : Int) (ly : Int) (hx : Int) (hy : Int) : Option (Bool) := T50 some (L50_6n0 k) (L50_6n1 k) (L50_6n2 k) (L50_6n3 k) (L50_6n4 k) x0 y0 x1 y1 lx ly hx hy
mutual
theorem t50_6n0 : ∀ (k : Nat) (x0 : Int) (y0 : Int) (x1 : Int) (y1 : Int) (lx : Int) (ly : Int) (hx : Int) (hy : Int) (x7 : Int) (x8 : Int) (r : Bool), L50_6n0 k x0 y0 x1 y1 lx ly hx hy x7 x8 = some r → Ends Try.prog Try.f50.results.toList (at_ Try.f50 6) (S50_6n0 x0 y0 x1 y1 lx ly hx hy x7 x8) (F.bool r)
  | 0, _, _, _, _, _, _, _, _, _, _, _, h => nomatch h
  | k + 1, x0, y0, x1, y1, lx, ly, hx, hy, x7, x8, r, h => by
    refine Ends.of_cut tyOK envW2_ok (T := [(6, [3, 7, 8, 69, 70, 71], 4)]) (n := 600) ?_
    have e : runCut Try.prog (tiOf Try.prog) envW2 [(6, [3, 7, 8, 69, 70, 71], 4)] 0 Try.f50.results.toList some 600 (at_ Try.f50 6) (S50_6n0 x0 y0 x1 y1 lx ly hx hy x7 x8) = T50_6n0 (fun r => some (.ret (F.bool r))) (fun x0 y0 x1 y1 lx ly hx hy x7 x8 => some (.cut (at_ Try.f50 6) (S50_6n0 x0 y0 x1 y1 lx ly hx hy x7 x8))) (fun x0 y0 x1 y1 lx ly hx hy x7 x8 => some (.cut (at_ Try.f50 6) (S50_6n1 x0 y0 x1 y1 lx ly hx hy x7 x8))) (fun x0 y0 x1 y1 lx ly hx hy x7 x8 => some (.cut (at_ Try.f50 6) (S50_6n2 x0 y0 x1 y1 lx ly hx hy x7 x8))) (fun x0 y0 x1 y1 lx ly hx hy x7 x8 => some (.cut (at_ Try.f50 6) (S50_6n3 x0 y0 x1 y1 lx ly hx hy x7 x8))) (fun x0 y0 x1 y1 lx ly hx hy x7 x8 => some (.cut (at_ Try.f50 6) (S50_6n4 x0 y0 x1 y1 lx ly hx hy x7 x8))) x0 y0 x1 y1 lx ly hx hy x7 x8 := by kernel_rfl
    rw [e]
    exact (good_sel h (fun _ h => good_cut (t50_6n1 k _ _ _ _ _ _ _ _ _ _ r h)) (fun _ h => (good_sel h (fun _ h => good_cut (t50_6n1 k _ _ _ _ _ _ _ _ _ _ r h)) (fun _ h => good_cut (t50_6n1 k _ _ _ _ _ _ _ _ _ _ r h)))))
theorem t50_6n1 : ∀ (k : Nat) (x0 : Int) (y0 : Int) (x1 : Int) (y1 : Int) (lx : Int) (ly : Int) (hx : Int) (hy : Int) (x7 : Int) (x8 : Int) (r : Bool), L50_6n1 k x0 y0 x1 y1 lx ly hx hy x7 x8 = some r → Ends Try.prog Try.f50.results.toList (at_ Try.f50 6) (S50_6n1 x0 y0 x1 y1 lx ly hx hy x7 x8) (F.bool r)
  | 0, _, _, _, _, _, _, _, _, _, _, _, h => nomatch h
  | k + 1, x0, y0, x1, y1, lx, ly, hx, hy, x7, x8, r, h => by
    refine Ends.of_cut tyOK envW2_ok (T := [(6, [3, 7, 8, 69, 70, 71], 4)]) (n := 600) ?_
    have e : runCut Try.prog (tiOf Try.prog) envW2 [(6, [3, 7, 8, 69, 70, 71], 4)] 0 Try.f50.results.toList some 600 (at_ Try.f50 6) (S50_6n1 x0 y0 x1 y1 lx ly hx hy x7 x8) = T50_6n1 (fun r => some (.ret (F.bool r))) (fun x0 y0 x1 y1 lx ly hx hy x7 x8 => some (.cut (at_ Try.f50 6) (S50_6n0 x0 y0 x1 y1 lx ly hx hy x7 x8))) (fun x0 y0 x1 y1 lx ly hx hy x7 x8 => some (.cut (at_ Try.f50 6) (S50_6n1 x0 y0 x1 y1 lx ly hx hy x7 x8))) (fun x0 y0 x1 y1 lx ly hx hy x7 x8 => some (.cut (at_ Try.f50 6) (S50_6n2 x0 y0 x1 y1 lx ly hx hy x7 x8))) (fun x0 y0 x1 y1 lx ly hx hy x7 x8 => some (.cut (at_ Try.f50 6) (S50_6n3 x0 y0 x1 y1 lx ly hx hy x7 x8))) (fun x0 y0 x1 y1 lx ly hx hy x7 x8 => some (.cut (at_ Try.f50 6) (S50_6n4 x0 y0 x1 y1 lx ly hx hy x7 x8))) x0 y0 x1 y1 lx ly hx hy x7 x8 := by kernel_rfl
    rw [e]
    exact (good_sel h (fun _ h => good_cut (t50_6n2 k _ _ _ _ _ _ _ _ _ _ r h)) (fun _ h => (good_sel h (fun _ h => good_cut (t50_6n2 k _ _ _ _ _ _ _ _ _ _ r h)) (fun _ h => good_cut (t50_6n2 k _ _ _ _ _ _ _ _ _ _ r h)))))
theorem t50_6n2 : ∀ (k : Nat) (x0 : Int) (y0 : Int) (x1 : Int) (y1 : Int) (lx : Int) (ly : Int) (hx : Int) (hy : Int) (x7 : Int) (x8 : Int) (r : Bool), L50_6n2 k x0 y0 x1 y1 lx ly hx hy x7 x8 = some r → Ends Try.prog Try.f50.results.toList (at_ Try.f50 6) (S50_6n2 x0 y0 x1 y1 lx ly hx hy x7 x8) (F.bool r)
  | 0, _, _, _, _, _, _, _, _, _, _, _, h => nomatch h
  | k + 1, x0, y0, x1, y1, lx, ly, hx, hy, x7, x8, r, h => by
    refine Ends.of_cut tyOK envW2_ok (T := [(6, [3, 7, 8, 69, 70, 71], 4)]) (n := 600) ?_
    have e : runCut Try.prog (tiOf Try.prog) envW2 [(6, [3, 7, 8, 69, 70, 71], 4)] 0 Try.f50.results.toList some 600 (at_ Try.f50 6) (S50_6n2 x0 y0 x1 y1 lx ly hx hy x7 x8) = T50_6n2 (fun r => some (.ret (F.bool r))) (fun x0 y0 x1 y1 lx ly hx hy x7 x8 => some (.cut (at_ Try.f50 6) (S50_6n0 x0 y0 x1 y1 lx ly hx hy x7 x8))) (fun x0 y0 x1 y1 lx ly hx hy x7 x8 => some (.cut (at_ Try.f50 6) (S50_6n1 x0 y0 x1 y1 lx ly hx hy x7 x8))) (fun x0 y0 x1 y1 lx ly hx hy x7 x8 => some (.cut (at_ Try.f50 6) (S50_6n2 x0 y0 x1 y1 lx ly hx hy x7 x8))) (fun x0 y0 x1 y1 lx ly hx hy x7 x8 => some (.cut (at_ Try.f50 6) (S50_6n3 x0 y0 x1 y1 lx ly hx hy x7 x8))) (fun x0 y0 x1 y1 lx ly hx hy x7 x8 => some (.cut (at_ Try.f50 6) (S50_6n4 x0 y0 x1 y1 lx ly hx hy x7 x8))) x0 y0 x1 y1 lx ly hx hy x7 x8 := by kernel_rfl
    rw [e]
    exact (good_sel h (fun _ h => good_cut (t50_6n3 k _ _ _ _ _ _ _ _ _ _ r h)) (fun _ h => (good_sel h (fun _ h => good_cut (t50_6n3 k _ _ _ _ _ _ _ _ _ _ r h)) (fun _ h => good_cut (t50_6n3 k _ _ _ _ _ _ _ _ _ _ r h)))))
theorem t50_6n3 : ∀ (k : Nat) (x0 : Int) (y0 : Int) (x1 : Int) (y1 : Int) (lx : Int) (ly : Int) (hx : Int) (hy : Int) (x7 : Int) (x8 : Int) (r : Bool), L50_6n3 k x0 y0 x1 y1 lx ly hx hy x7 x8 = some r → Ends Try.prog Try.f50.results.toList (at_ Try.f50 6) (S50_6n3 x0 y0 x1 y1 lx ly hx hy x7 x8) (F.bool r)
  | 0, _, _, _, _, _, _, _, _, _, _, _, h => nomatch h
  | k + 1, x0, y0, x1, y1, lx, ly, hx, hy, x7, x8, r, h => by
    refine Ends.of_cut tyOK envW2_ok (T := [(6, [3, 7, 8, 69, 70, 71], 4)]) (n := 600) ?_
    have e : runCut Try.prog (tiOf Try.prog) envW2 [(6, [3, 7, 8, 69, 70, 71], 4)] 0 Try.f50.results.toList some 600 (at_ Try.f50 6) (S50_6n3 x0 y0 x1 y1 lx ly hx hy x7 x8) = T50_6n3 (fun r => some (.ret (F.bool r))) (fun x0 y0 x1 y1 lx ly hx hy x7 x8 => some (.cut (at_ Try.f50 6) (S50_6n0 x0 y0 x1 y1 lx ly hx hy x7 x8))) (fun x0 y0 x1 y1 lx ly hx hy x7 x8 => some (.cut (at_ Try.f50 6) (S50_6n1 x0 y0 x1 y1 lx ly hx hy x7 x8))) (fun x0 y0 x1 y1 lx ly hx hy x7 x8 => some (.cut (at_ Try.f50 6) (S50_6n2 x0 y0 x1 y1 lx ly hx hy x7 x8))) (fun x0 y0 x1 y1 lx ly hx hy x7 x8 => some (.cut (at_ Try.f50 6) (S50_6n3 x0 y0 x1 y1 lx ly hx hy x7 x8))) (fun x0 y0 x1 y1 lx ly hx hy x7 x8 => some (.cut (at_ Try.f50 6) (S50_6n4 x0 y0 x1 y1 lx ly hx hy x7 x8))) x0 y0 x1 y1 lx ly hx hy x7 x8 := by kernel_rfl
    rw [e]
    exact (good_sel h (fun _ h => good_cut (t50_6n4 k _ _ _ _ _ _ _ _ _ _ r h)) (fun _ h => (good_sel h (fun _ h => good_cut (t50_6n4 k _ _ _ _ _ _ _ _ _ _ r h)) (fun _ h => good_cut (t50_6n4 k _ _ _ _ _ _ _ _ _ _ r h)))))
theorem t50_6n4 : ∀ (k : Nat) (x0 : Int) (y0 : Int) (x1 : Int) (y1 : Int) (lx : Int) (ly : Int) (hx : Int) (hy : Int) (x7 : Int) (x8 : Int) (r : Bool), L50_6n4 k x0 y0 x1 y1 lx ly hx hy x7 x8 = some r → Ends Try.prog Try.f50.results.toList (at_ Try.f50 6) (S50_6n4 x0 y0 x1 y1 lx ly hx hy x7 x8) (F.bool r)
  | 0, _, _, _, _, _, _, _, _, _, _, _, h => nomatch h
  | k + 1, x0, y0, x1, y1, lx, ly, hx, hy, x7, x8, r, h => by
    refine Ends.of_cut tyOK envW2_ok (T := [(6, [3, 7, 8, 69, 70, 71], 4)]) (n := 600) ?_
    have e : runCut Try.prog (tiOf Try.prog) envW2 [(6, [3, 7, 8, 69, 70, 71], 4)] 0 Try.f50.results.toList some 600 (at_ Try.f50 6) (S50_6n4 x0 y0 x1 y1 lx ly hx hy x7 x8) = T50_6n4 (fun r => some (.ret (F.bool r))) (fun x0 y0 x1 y1 lx ly hx hy x7 x8 => some (.cut (at_ Try.f50 6) (S50_6n0 x0 y0 x1 y1 lx ly hx hy x7 x8))) (fun x0 y0 x1 y1 lx ly hx hy x7 x8 => some (.cut (at_ Try.f50 6) (S50_6n1 x0 y0 x1 y1 lx ly hx hy x7 x8))) (fun x0 y0 x1 y1 lx ly hx hy x7 x8 => some (.cut (at_ Try.f50 6) (S50_6n2 x0 y0 x1 y1 lx ly hx hy x7 x8))) (fun x0 y0 x1 y1 lx ly hx hy x7 x8 => some (.cut (at_ Try.f50 6) (S50_6n3 x0 y0 x1 y1 lx ly hx hy x7 x8))) (fun x0 y0 x1 y1 lx ly hx hy x7 x8 => some (.cut (at_ Try.f50 6) (S50_6n4 x0 y0 x1 y1 lx ly hx hy x7 x8))) x0 y0 x1 y1 lx ly hx hy x7 x8 := by kernel_rfl
    rw [e]
    exact (good_sel h (fun _ h => good_ret (by cases h; rfl)) (fun _ h => good_ret (by cases h; rfl)))
end
theorem t50 (k : Nat) (x0 : Int) (y0 : Int) (x1 : Int) (y1 : Int) (lx : Int) (ly : Int) (hx : Int) (hy : Int) (r : Bool) (h : G50 k x0 y0 x1 y1 lx ly hx hy = some r) : Ends Try.prog Try.f50.results.toList [.code (bodyOf Try.f50)] (start Try.f50.ntmps ([F.agg [F.int .i64 x0, F.int .i64 y0, F.int .i64 x1, F.int .i64 y1], F.agg [F.int .i64 lx, F.int .i64 ly], F.agg [F.int .i64 hx, F.int .i64 hy]].map .f)) (F.bool r) := by
  refine Ends.of_run tyOK envW2_ok (T := [(6, [3, 7, 8, 69, 70, 71], 4)]) (n := 600) ?_
  have e : run Try.prog (tiOf Try.prog) envW2 [(6, [3, 7, 8, 69, 70, 71], 4)] 0 Try.f50.results.toList some 600 [.code (bodyOf Try.f50)] (start Try.f50.ntmps ([F.agg [F.int .i64 x0, F.int .i64 y0, F.int .i64 x1, F.int .i64 y1], F.agg [F.int .i64 lx, F.int .i64 ly], F.agg [F.int .i64 hx, F.int .i64 hy]].map .f)) = T50 (fun r => some (.ret (F.bool r))) (fun x0 y0 x1 y1 lx ly hx hy x7 x8 => some (.cut (at_ Try.f50 6) (S50_6n0 x0 y0 x1 y1 lx ly hx hy x7 x8))) (fun x0 y0 x1 y1 lx ly hx hy x7 x8 => some (.cut (at_ Try.f50 6) (S50_6n1 x0 y0 x1 y1 lx ly hx hy x7 x8))) (fun x0 y0 x1 y1 lx ly hx hy x7 x8 => some (.cut (at_ Try.f50 6) (S50_6n2 x0 y0 x1 y1 lx ly hx hy x7 x8))) (fun x0 y0 x1 y1 lx ly hx hy x7 x8 => some (.cut (at_ Try.f50 6) (S50_6n3 x0 y0 x1 y1 lx ly hx hy x7 x8))) (fun x0 y0 x1 y1 lx ly hx hy x7 x8 => some (.cut (at_ Try.f50 6) (S50_6n4 x0 y0 x1 y1 lx ly hx hy x7 x8))) x0 y0 x1 y1 lx ly hx hy := by kernel_rfl
  rw [e]
  exact (good_sel h (fun _ h => (good_sel h (fun _ h => (good_sel h (fun _ h => (good_sel h (fun _ h => (good_sel h (fun _ h => (good_sel h (fun _ h => good_ret (by cases h; rfl)) (fun _ h => good_cut (t50_6n0 k _ _ _ _ _ _ _ _ _ _ r h)))) (fun _ h => good_cut (t50_6n0 k _ _ _ _ _ _ _ _ _ _ r h)))) (fun _ h => good_ret (by cases h; rfl)))) (fun _ h => (good_sel h (fun _ h => (good_sel h (fun _ h => good_ret (by cases h; rfl)) (fun _ h => good_cut (t50_6n0 k _ _ _ _ _ _ _ _ _ _ r h)))) (fun _ h => good_cut (t50_6n0 k _ _ _ _ _ _ _ _ _ _ r h)))))) (fun _ h => good_ret (by cases h; rfl)))) (fun _ h => good_ret (by cases h; rfl)))
/-! ### function 46 -/
def S46_5o0 (x0 : Int) (y0 : Int) (x1 : Int) (y1 : Int) (lx : Int) (ly : Int) (hx : Int) (hy : Int) (x7 : Int) (x8 : Int) : St := ⟨[.bad, .bad, .bad, (U.hp 0 0), (U.hp 1 0), (U.hp 2 0), .bad, (U.f (F.int .i64 x7)), (U.f (F.int .i64 x8)), .bad, .bad, .bad, .bad, .bad, .bad, .bad, .bad, .bad, .bad, .bad, .bad, .bad, .bad, .bad, .bad, .bad, .bad, .bad, .bad, .bad, .bad, .bad, .bad, .bad, .bad, .bad, .bad, .bad, .bad, .bad, .bad, .bad, .bad, .bad, .bad, .bad, .bad, .bad, .bad, .bad, .bad, .bad, .bad, .bad, .bad, .bad, (U.hs 3 2 0 2), (U.f (F.int .i64 2)), (U.f (F.int .i64 0)), .bad, .bad, .bad, .bad, .bad, .bad, .bad, .bad, .bad, .bad, .bad, .bad, .bad, .bad, .bad, .bad, .bad, .bad, .bad, .bad, .bad, .bad, .bad, .bad, .bad, .bad, .bad, .bad, .bad, .bad, .bad, .bad, .bad, .bad, .bad, .bad], [HO.box [U.f (F.int .i64 x0), U.f (F.int .i64 y0), U.f (F.int .i64 x1), U.f (F.int .i64 y1)], HO.box [U.f (F.int .i64 lx), U.f (F.int .i64 ly)], HO.box [U.f (F.int .i64 hx), U.f (F.int .i64 hy)], HO.arr 1 2 (lget [F.int .i64 lx, F.int .i64 hx])]⟩
def S46_5o1 (x0 : Int) (y0 : Int) (x1 : Int) (y1 : Int) (lx : Int) (ly : Int) (hx : Int) (hy : Int) (x7 : Int) (x8 : Int) : St := ⟨[.bad, .bad, .bad, (U.hp 0 0), (U.hp 1 0), (U.hp 2 0), .bad, (U.f (F.int .i64 x7)), (U.f (F.int .i64 x8)), .bad, .bad, .bad, .bad, .bad, .bad, .bad, .bad, .bad, .bad, .bad, .bad, .bad, .bad, .bad, .bad, .bad, .bad, .bad, .bad, .bad, .bad, .bad, .bad, .bad, .bad, .bad, .bad, .bad, .bad, .bad, .bad, .bad, .bad, .bad, .bad, .bad, .bad, .bad, .bad, .bad, .bad, .bad, .bad, .bad, .bad, .bad, (U.hs 3 2 0 2), (U.f (F.int .i64 2)), (U.f (F.int .i64 1)), .bad, .bad, .bad, .bad, .bad, .bad, .bad, .bad, .bad, .bad, .bad, .bad, .bad, .bad, .bad, .bad, .bad, .bad, .bad, .bad, .bad, .bad, .bad, .bad, .bad, .bad, .bad, .bad, .bad, .bad, .bad, .bad, .bad, .bad, .bad, .bad], [HO.box [U.f (F.int .i64 x0), U.f (F.int .i64 y0), U.f (F.int .i64 x1), U.f (F.int .i64 y1)], HO.box [U.f (F.int .i64 lx), U.f (F.int .i64 ly)], HO.box [U.f (F.int .i64 hx), U.f (F.int .i64 hy)], HO.arr 1 2 (lget [F.int .i64 lx, F.int .i64 hx])]⟩
def S46_5o2 (x0 : Int) (y0 : Int) (x1 : Int) (y1 : Int) (lx : Int) (ly : Int) (hx : Int) (hy : Int) (x7 : Int) (x8 : Int) : St := ⟨[.bad, .bad, .bad, (U.hp 0 0), (U.hp 1 0), (U.hp 2 0), .bad, (U.f (F.int .i64 x7)), (U.f (F.int .i64 x8)), .bad, .bad, .bad, .bad, .bad, .bad, .bad, .bad, .bad, .bad, .bad, .bad, .bad, .bad, .bad, .bad, .bad, .bad, .bad, .bad, .bad, .bad, .bad, .bad, .bad, .bad, .bad, .bad, .bad, .bad, .bad, .bad, .bad, .bad, .bad, .bad, .bad, .bad, .bad, .bad, .bad, .bad, .bad, .bad, .bad, .bad, .bad, (U.hs 3 2 0 2), (U.f (F.int .i64 2)), (U.f (F.int .i64 2)), .bad, .bad, .bad, .bad, .bad, .bad, .bad, .bad, .bad, .bad, .bad, .bad, .bad, .bad, .bad, .bad, .bad, .bad, .bad, .bad, .bad, .bad, .bad, .bad, .bad, .bad, .bad, .bad, .bad, .bad, .bad, .bad, .bad, .bad, .bad, .bad], [HO.box [U.f (F.int .i64 x0), U.f (F.int .i64 y0), U.f (F.int .i64 x1), U.f (F.int .i64 y1)], HO.box [U.f (F.int .i64 lx), U.f (F.int .i64 ly)], HO.box [U.f (F.int .i64 hx), U.f (F.int .i64 hy)], HO.arr 1 2 (lget [F.int .i64 lx, F.int .i64 hx])]⟩
def S46_8n00 (x0 : Int) (y0 : Int) (x1 : Int) (y1 : Int) (lx : Int) (ly : Int) (hx : Int) (hy : Int) (x7 : Int) (x8 : Int) : St := ⟨[.bad, .bad, .bad, (U.hp 0 0), (U.hp 1 0), (U.hp 2 0), .bad, (U.f (F.int .i64 x7)), (U.f (F.int .i64 x8)), .bad, (U.f (F.int .i64 lx)), .bad, .bad, .bad, .bad, .bad, .bad, .bad, .bad, .bad, .bad, .bad, .bad, .bad, .bad, .bad, .bad, .bad, .bad, .bad, .bad, .bad, .bad, .bad, .bad, .bad, .bad, .bad, .bad, .bad, .bad, .bad, .bad, .bad, .bad, .bad, .bad, .bad, .bad, .bad, .bad, .bad, .bad, .bad, .bad, .bad, (U.hs 3 2 0 2), (U.f (F.int .i64 2)), (U.f (F.int .i64 0)), .bad, .bad, .bad, .bad, .bad, .bad, .bad, (U.hs 4 2 0 2), (U.f (F.int .i64 2)), (U.f (F.int .i64 0)), .bad, .bad, .bad, .bad, .bad, .bad, .bad, .bad, .bad, .bad, .bad, .bad, .bad, .bad, .bad, .bad, .bad, .bad, .bad, .bad, .bad, .bad, .bad, .bad, .bad, .bad], [HO.box [U.f (F.int .i64 x0), U.f (F.int .i64 y0), U.f (F.int .i64 x1), U.f (F.int .i64 y1)], HO.box [U.f (F.int .i64 lx), U.f (F.int .i64 ly)], HO.box [U.f (F.int .i64 hx), U.f (F.int .i64 hy)], HO.arr 1 2 (lget [F.int .i64 lx, F.int .i64 hx]), HO.arr 1 2 (lget [F.int .i64 ly, F.int .i64 hy])]⟩
def S46_8n01 (x0 : Int) (y0 : Int) (x1 : Int) (y1 : Int) (lx : Int) (ly : Int) (hx : Int) (hy : Int) (x7 : Int) (x8 : Int) : St := ⟨[.bad, .bad, .bad, (U.hp 0 0), (U.hp 1 0), (U.hp 2 0), .bad, (U.f (F.int .i64 x7)), (U.f (F.int .i64 x8)), .bad, (U.f (F.int .i64 lx)), .bad, .bad, .bad, .bad, .bad, .bad, .bad, .bad, .bad, .bad, .bad, .bad, .bad, .bad, .bad, .bad, .bad, .bad, .bad, .bad, .bad, .bad, .bad, .bad, .bad, .bad, .bad, .bad, .bad, .bad, .bad, .bad, .bad, .bad, .bad, .bad, .bad, .bad, .bad, .bad, .bad, .bad, .bad, .bad, .bad, (U.hs 3 2 0 2), (U.f (F.int .i64 2)), (U.f (F.int .i64 0)), .bad, .bad, .bad, .bad, .bad, .bad, .bad, (U.hs 4 2 0 2), (U.f (F.int .i64 2)), (U.f (F.int .i64 1)), .bad, .bad, .bad, .bad, .bad, .bad, .bad, .bad, .bad, .bad, .bad, .bad, .bad, .bad, .bad, .bad, .bad, .bad, .bad, .bad, .bad, .bad, .bad, .bad, .bad, .bad], [HO.box [U.f (F.int .i64 x0), U.f (F.int .i64 y0), U.f (F.int .i64 x1), U.f (F.int .i64 y1)], HO.box [U.f (F.int .i64 lx), U.f (F.int .i64 ly)], HO.box [U.f (F.int .i64 hx), U.f (F.int .i64 hy)], HO.arr 1 2 (lget [F.int .i64 lx, F.int .i64 hx]), HO.arr 1 2 (lget [F.int .i64 ly, F.int .i64 hy])]⟩
def S46_8n02 (x0 : Int) (y0 : Int) (x1 : Int) (y1 : Int) (lx : Int) (ly : Int) (hx : Int) (hy : Int) (x7 : Int) (x8 : Int) : St := ⟨[.bad, .bad, .bad, (U.hp 0 0), (U.hp 1 0), (U.hp 2 0), .bad, (U.f (F.int .i64 x7)), (U.f (F.int .i64 x8)), .bad, (U.f (F.int .i64 lx)), .bad, .bad, .bad, .bad, .bad, .bad, .bad, .bad, .bad, .bad, .bad, .bad, .bad, .bad, .bad, .bad, .bad, .bad, .bad, .bad, .bad, .bad, .bad, .bad, .bad, .bad, .bad, .bad, .bad, .bad, .bad, .bad, .bad, .bad, .bad, .bad, .bad, .bad, .bad, .bad, .bad, .bad, .bad, .bad, .bad, (U.hs 3 2 0 2), (U.f (F.int .i64 2)), (U.f (F.int .i64 0)), .bad, .bad, .bad, .bad, .bad, .bad, .bad, (U.hs 4 2 0 2), (U.f (F.int .i64 2)), (U.f (F.int .i64 2)), .bad, .bad, .bad, .bad, .bad, .bad, .bad, .bad, .bad, .bad, .bad, .bad, .bad, .bad, .bad, .bad, .bad, .bad, .bad, .bad, .bad, .bad, .bad, .bad, .bad, .bad], [HO.box [U.f (F.int .i64 x0), U.f (F.int .i64 y0), U.f (F.int .i64 x1), U.f (F.int .i64 y1)], HO.box [U.f (F.int .i64 lx), U.f (F.int .i64 ly)], HO.box [U.f (F.int .i64 hx), U.f (F.int .i64 hy)], HO.arr 1 2 (lget [F.int .i64 lx, F.int .i64 hx]), HO.arr 1 2 (lget [F.int .i64 ly, F.int .i64 hy])]⟩
def S46_8n10 (x0 : Int) (y0 : Int) (x1 : Int) (y1 : Int) (lx : Int) (ly : Int) (hx : Int) (hy : Int) (x7 : Int) (x8 : Int) : St := ⟨[.bad, .bad, .bad, (U.hp 0 0), (U.hp 1 0), (U.hp 2 0), .bad, (U.f (F.int .i64 x7)), (U.f (F.int .i64 x8)), .bad, (U.f (F.int .i64 hx)), .bad, .bad, .bad, .bad, .bad, .bad, .bad, .bad, .bad, .bad, .bad, .bad, .bad, .bad, .bad, .bad, .bad, .bad, .bad, .bad, .bad, .bad, .bad, .bad, .bad, .bad, .bad, .bad, .bad, .bad, .bad, .bad, .bad, .bad, .bad, .bad, .bad, .bad, .bad, .bad, .bad, .bad, .bad, .bad, .bad, (U.hs 3 2 0 2), (U.f (F.int .i64 2)), (U.f (F.int .i64 1)), .bad, .bad, .bad, .bad, .bad, .bad, .bad, (U.hs 4 2 0 2), (U.f (F.int .i64 2)), (U.f (F.int .i64 0)), .bad, .bad, .bad, .bad, .bad, .bad, .bad, .bad, .bad, .bad, .bad, .bad, .bad, .bad, .bad, .bad, .bad, .bad, .bad, .bad, .bad, .bad, .bad, .bad, .bad, .bad], [HO.box [U.f (F.int .i64 x0), U.f (F.int .i64 y0), U.f (F.int .i64 x1), U.f (F.int .i64 y1)], HO.box [U.f (F.int .i64 lx), U.f (F.int .i64 ly)], HO.box [U.f (F.int .i64 hx), U.f (F.int .i64 hy)], HO.arr 1 2 (lget [F.int .i64 lx, F.int .i64 hx]), HO.arr 1 2 (lget [F.int .i64 ly, F.int .i64 hy])]⟩
def S46_8n11 (x0 : Int) (y0 : Int) (x1 : Int) (y1 : Int) (lx : Int) (ly : Int) (hx : Int) (hy : Int) (x7 : Int) (x8 : Int) : St := ⟨[.bad, .bad, .bad, (U.hp 0 0), (U.hp 1 0), (U.hp 2 0), .bad, (U.f (F.int .i64 x7)), (U.f (F.int .i64 x8)), .bad, (U.f (F.int .i64 hx)), .bad, .bad, .bad, .bad, .bad, .bad, .bad, .bad, .bad, .bad, .bad, .bad, .bad, .bad, .bad, .bad, .bad, .bad, .bad, .bad, .bad, .bad, .bad, .bad, .bad, .bad, .bad, .bad, .bad, .bad, .bad, .bad, .bad, .bad, .bad, .bad, .bad, .bad, .bad, .bad, .bad, .bad, .bad, .bad, .bad, (U.hs 3 2 0 2), (U.f (F.int .i64 2)), (U.f (F.int .i64 1)), .bad, .bad, .bad, .bad, .bad, .bad, .bad, (U.hs 4 2 0 2), (U.f (F.int .i64 2)), (U.f (F.int .i64 1)), .bad, .bad, .bad, .bad, .bad, .bad, .bad, .bad, .bad, .bad, .bad, .bad, .bad, .bad, .bad, .bad, .bad, .bad, .bad, .bad, .bad, .bad, .bad, .bad, .bad, .bad], [HO.box [U.f (F.int .i64 x0), U.f (F.int .i64 y0), U.f (F.int .i64 x1), U.f (F.int .i64 y1)], HO.box [U.f (F.int .i64 lx), U.f (F.int .i64 ly)], HO.box [U.f (F.int .i64 hx), U.f (F.int .i64 hy)], HO.arr 1 2 (lget [F.int .i64 lx, F.int .i64 hx]), HO.arr 1 2 (lget [F.int .i64 ly, F.int .i64 hy])]⟩
def S46_8n12 (x0 : Int) (y0 : Int) (x1 : Int) (y1 : Int) (lx : Int) (ly : Int) (hx : Int) (hy : Int) (x7 : Int) (x8 : Int) : St := ⟨[.bad, .bad, .bad, (U.hp 0 0), (U.hp 1 0), (U.hp 2 0), .bad, (U.f (F.int .i64 x7)), (U.f (F.int .i64 x8)), .bad, (U.f (F.int .i64 hx)), .bad, .bad, .bad, .bad, .bad, .bad, .bad, .bad, .bad, .bad, .bad, .bad, .bad, .bad, .bad, .bad, .bad, .bad, .bad, .bad, .bad, .bad, .bad, .bad, .bad, .bad, .bad, .bad, .bad, .bad, .bad, .bad, .bad, .bad, .bad, .bad, .bad, .bad, .bad, .bad, .bad, .bad, .bad, .bad, .bad, (U.hs 3 2 0 2), (U.f (F.int .i64 2)), (U.f (F.int .i64 1)), .bad, .bad, .bad, .bad, .bad, .bad, .bad, (U.hs 4 2 0 2), (U.f (F.int .i64 2)), (U.f (F.int .i64 2)), .bad, .bad, .bad, .bad, .bad, .bad, .bad, .bad, .bad, .bad, .bad, .bad, .bad, .bad, .bad, .bad, .bad, .bad, .bad, .bad, .bad, .bad, .bad, .bad, .bad, .bad], [HO.box [U.f (F.int .i64 x0), U.f (F.int .i64 y0), U.f (F.int .i64 x1), U.f (F.int .i64 y1)], HO.box [U.f (F.int .i64 lx), U.f (F.int .i64 ly)], HO.box [U.f (F.int .i64 hx), U.f (F.int .i64 hy)], HO.arr 1 2 (lget [F.int .i64 lx, F.int .i64 hx]), HO.arr 1 2 (lget [F.int .i64 ly, F.int .i64 hy])]⟩
def T46_5o0 {ρ : Type} (ret : KJ32 ρ) (c5o0 : KJ31 ρ) (c5o1 : KJ31 ρ) (c5o2 : KJ31 ρ) (c8n00 : KJ31 ρ) (c8n01 : KJ31 ρ) (c8n02 : KJ31 ρ) (c8n10 : KJ31 ρ) (c8n11 : KJ31 ρ) (c8n12 : KJ31 ρ) (x0 : Int) (y0 : Int) (x1 : Int) (y1 : Int) (lx : Int) (ly : Int) (hx : Int) (hy : Int) (x7 : Int) (x8 : Int) : Option ρ :=
 (c8n00 (x0) (y0) (x1) (y1) (lx) (ly) (hx) (hy) (x7) (x8))
def T46_5o1 {ρ : Type} (ret : KJ32 ρ) (c5o0 : KJ31 ρ) (c5o1 : KJ31 ρ) (c5o2 : KJ31 ρ) (c8n00 : KJ31 ρ) (c8n01 : KJ31 ρ) (c8n02 : KJ31 ρ) (c8n10 : KJ31 ρ) (c8n11 : KJ31 ρ) (c8n12 : KJ31 ρ) (x0 : Int) (y0 : Int) (x1 : Int) (y1 : Int) (lx : Int) (ly : Int) (hx : Int) (hy : Int) (x7 : Int) (x8 : Int) : Option ρ :=
 (c8n10 (x0) (y0) (x1) (y1) (lx) (ly) (hx) (hy) (x7) (x8))
def T46_5o2 {ρ : Type} (ret : KJ32 ρ) (c5o0 : KJ31 ρ) (c5o1 : KJ31 ρ) (c5o2 : KJ31 ρ) (c8n00 : KJ31 ρ) (c8n01 : KJ31 ρ) (c8n02 : KJ31 ρ) (c8n10 : KJ31 ρ) (c8n11 : KJ31 ρ) (c8n12 : KJ31 ρ) (x0 : Int) (y0 : Int) (x1 : Int) (y1 : Int) (lx : Int) (ly : Int) (hx : Int) (hy : Int) (x7 : Int) (x8 : Int) : Option ρ :=
 (bsel (decide (x7 ≤ 0) == true)
 (ret (decide (x8 ≥ 0)))
 (ret (false)))
def T46_8n00 {ρ : Type} (ret : KJ32 ρ) (c5o0 : KJ31 ρ) (c5o1 : KJ31 ρ) (c5o2 : KJ31 ρ) (c8n00 : KJ31 ρ) (c8n01 : KJ31 ρ) (c8n02 : KJ31 ρ) (c8n10 : KJ31 ρ) (c8n11 : KJ31 ρ) (c8n12 : KJ31 ρ) (x0 : Int) (y0 : Int) (x1 : Int) (y1 : Int) (lx : Int) (ly : Int) (hx : Int) (hy : Int) (x7 : Int) (x8 : Int) : Option ρ :=
 (c8n01 (x0) (y0) (x1) (y1) (lx) (ly) (hx) (hy) (if false = true then if signV (crossW x0 y0 x1 y1 lx ly) > x7 then signV (crossW x0 y0 x1 y1 lx ly) else x7 else if signV (crossW x0 y0 x1 y1 lx ly) < x7 then signV (crossW x0 y0 x1 y1 lx ly) else x7) (if true = true then if signV (crossW x0 y0 x1 y1 lx ly) > x8 then signV (crossW x0 y0 x1 y1 lx ly) else x8 else if signV (crossW x0 y0 x1 y1 lx ly) < x8 then signV (crossW x0 y0 x1 y1 lx ly) else x8))
def T46_8n01 {ρ : Type} (ret : KJ32 ρ) (c5o0 : KJ31 ρ) (c5o1 : KJ31 ρ) (c5o2 : KJ31 ρ) (c8n00 : KJ31 ρ) (c8n01 : KJ31 ρ) (c8n02 : KJ31 ρ) (c8n10 : KJ31 ρ) (c8n11 : KJ31 ρ) (c8n12 : KJ31 ρ) (x0 : Int) (y0 : Int) (x1 : Int) (y1 : Int) (lx : Int) (ly : Int) (hx : Int) (hy : Int) (x7 : Int) (x8 : Int) : Option ρ :=
 (c8n02 (x0) (y0) (x1) (y1) (lx) (ly) (hx) (hy) (if false = true then if signV (crossW x0 y0 x1 y1 lx hy) > x7 then signV (crossW x0 y0 x1 y1 lx hy) else x7 else if signV (crossW x0 y0 x1 y1 lx hy) < x7 then signV (crossW x0 y0 x1 y1 lx hy) else x7) (if true = true then if signV (crossW x0 y0 x1 y1 lx hy) > x8 then signV (crossW x0 y0 x1 y1 lx hy) else x8 else if signV (crossW x0 y0 x1 y1 lx hy) < x8 then signV (crossW x0 y0 x1 y1 lx hy) else x8))
def T46_8n02 {ρ : Type} (ret : KJ32 ρ) (c5o0 : KJ31 ρ) (c5o1 : KJ31 ρ) (c5o2 : KJ31 ρ) (c8n00 : KJ31 ρ) (c8n01 : KJ31 ρ) (c8n02 : KJ31 ρ) (c8n10 : KJ31 ρ) (c8n11 : KJ31 ρ) (c8n12 : KJ31 ρ) (x0 : Int) (y0 : Int) (x1 : Int) (y1 : Int) (lx : Int) (ly : Int) (hx : Int) (hy : Int) (x7 : Int) (x8 : Int) : Option ρ :=
 (c5o1 (x0) (y0) (x1) (y1) (lx) (ly) (hx) (hy) (x7) (x8))
def T46_8n10 {ρ : Type} (ret : KJ32 ρ) (c5o0 : KJ31 ρ) (c5o1 : KJ31 ρ) (c5o2 : KJ31 ρ) (c8n00 : KJ31 ρ) (c8n01 : KJ31 ρ) (c8n02 : KJ31 ρ) (c8n10 : KJ31 ρ) (c8n11 : KJ31 ρ) (c8n12 : KJ31 ρ) (x0 : Int) (y0 : Int) (x1 : Int) (y1 : Int) (lx : Int) (ly : Int) (hx : Int) (hy : Int) (x7 : Int) (x8 : Int) : Option ρ :=
 (c8n11 (x0) (y0) (x1) (y1) (lx) (ly) (hx) (hy) (if false = true then if signV (crossW x0 y0 x1 y1 hx ly) > x7 then signV (crossW x0 y0 x1 y1 hx ly) else x7 else if signV (crossW x0 y0 x1 y1 hx ly) < x7 then signV (crossW x0 y0 x1 y1 hx ly) else x7) (if true = true then if signV (crossW x0 y0 x1 y1 hx ly) > x8 then signV (crossW x0 y0 x1 y1 hx ly) else x8 else if signV (crossW x0 y0 x1 y1 hx ly) < x8 then signV (crossW x0 y0 x1 y1 hx ly) else x8))
def T46_8n11 {ρ : Type} (ret : KJ32 ρ) (c5o0 : KJ31 ρ) (c5o1 : KJ31 ρ) (c5o2 : KJ31 ρ) (c8n00 : KJ31 ρ) (c8n01 : KJ31 ρ) (c8n02 : KJ31 ρ) (c8n10 : KJ31 ρ) (c8n11 : KJ31 ρ) (c8n12 : KJ31 ρ) (x0 : Int) (y0 : Int) (x1 : Int) (y1 : Int) (lx : Int) (ly : Int) (hx : Int) (hy : Int) (x7 : Int) (x8 : Int) : Option ρ :=
 (c8n12 (x0) (y0) (x1) (y1) (lx) (ly) (hx) (hy) (if false = true then if signV (crossW x0 y0 x1 y1 hx hy) > x7 then signV (crossW x0 y0 x1 y1 hx hy) else x7 else if signV (crossW x0 y0 x1 y1 hx hy) < x7 then signV (crossW x0 y0 x1 y1 hx hy) else x7) (if true = true then if signV (crossW x0 y0 x1 y1 hx hy) > x8 then signV (crossW x0 y0 x1 y1 hx hy) else x8 else if signV (crossW x0 y0 x1 y1 hx hy) < x8 then signV (crossW x0 y0 x1 y1 hx hy) else x8))
def T46_8n12 {ρ : Type} (ret : KJ32 ρ) (c5o0 : KJ31 ρ) (c5o1 : KJ31 ρ) (c5o2 : KJ31 ρ) (c8n00 : KJ31 ρ) (c8n01 : KJ31 ρ) (c8n02 : KJ31 ρ) (c8n10 : KJ31 ρ) (c8n11 : KJ31 ρ) (c8n12 : KJ31 ρ) (x0 : Int) (y0 : Int) (x1 : Int) (y1 : Int) (lx : Int) (ly : Int) (hx : Int) (hy : Int) (x7 : Int) (x8 : Int) : Option ρ :=
 (c5o2 (x0) (y0) (x1) (y1) (lx) (ly) (hx) (hy) (x7) (x8))
mutual
def L46_5o0 : Nat → (Int) → (Int) → (Int) → (Int) → (Int) → (Int) → (Int) → (Int) → (Int) → (Int) → Option (Bool)
  | 0, _, _, _, _, _, _, _, _, _, _ => none
  | k + 1, x0, y0, x1, y1, lx, ly, hx, hy, x7, x8 => T46_5o0 some (L46_5o0 k) (L46_5o1 k) (L46_5o2 k) (L46_8n00 k) (L46_8n01 k) (L46_8n02 k) (L46_8n10 k) (L46_8n11 k) (L46_8n12 k) x0 y0 x1 y1 lx ly hx hy x7 x8
def L46_5o1 : Nat → (Int) → (Int) → (Int) → (Int) → (Int) → (Int) → (Int) → (Int) → (Int) → (Int) → Option (Bool)
  | 0, _, _, _, _, _, _, _, _, _, _ => none
  | k + 1, x0, y0, x1, y1, lx, ly, hx, hy, x7, x8 => T46_5o1 some (L46_5o0 k) (L46_5o1 k) (L46_5o2 k) (L46_8n00 k) (L46_8n01 k) (L46_8n02 k) (L46_8n10 k) (L46_8n11 k) (L46_8n12 k) x0 y0 x1 y1 lx ly hx hy x7 x8
def L46_5o2 : Nat → (Int) → (Int) → (Int) → (Int) → (Int) → (Int) → (Int) → (Int) → (Int) → (Int) → Option (Bool)
  | 0, _, _, _, _, _, _, _, _, _, _ => none
  | k + 1, x0, y0, x1, y1, lx, ly, hx, hy, x7, x8 => T46_5o2 some (L46_5o0 k) (L46_5o1 k) (L46_5o2 k) (L46_8n00 k) (L46_8n01 k) (L46_8n02 k) (L46_8n10 k) (L46_8n11 k) (L46_8n12 k) x0 y0 x1 y1 lx ly hx hy x7 x8
def L46_8n00 : Nat → (Int) → (Int) → (Int) → (Int) → (Int) → (Int) → (Int) → (Int) → (Int) → (Int) → Option (Bool)
  | 0, _, _, _, _, _, _, _, _, _, _ => none
  | k + 1, x0, y0, x1, y1, lx, ly, hx, hy, x7, x8 => T46_8n00 some (L46_5o0 k) (L46_5o1 k) (L46_5o2 k) (L46_8n00 k) (L46_8n01 k) (L46_8n02 k) (L46_8n10 k) (L46_8n11 k) (L46_8n12 k) x0 y0 x1 y1 lx ly hx hy x7 x8
def L46_8n01 : Nat → (Int) → (Int) → (Int) → (Int) → (Int) → (Int) → (Int) → (Int) → (Int) → (Int) → Option (Bool)
  | 0, _, _, _, _, _, _, _, _, _, _ => none
  | k + 1, x0, y0, x1, y1, lx, ly, hx, hy, x7, x8 => T46_8n01 some (L46_5o0 k) (L46_5o1 k) (L46_5o2 k) (L46_8n00 k) (L46_8n01 k) (L46_8n02 k) (L46_8n10 k) (L46_8n11 k) (L46_8n12 k) x0 y0 x1 y1 lx ly hx hy x7 x8
def L46_8n02 : Nat → (Int) → (Int) → (Int) → (Int) → (Int) → (Int) → (Int) → (Int) → (Int) → (Int) → Option (Bool)
  | 0, _, _, _, _, _, _, _, _, _, _ => none
  | k + 1, x0, y0, x1, y1, lx, ly, hx, hy, x7, x8 => T46_8n02 some (L46_5o0 k) (L46_5o1 k) (L46_5o2 k) (L46_8n00 k) (L46_8n01 k) (L46_8n02 k) (L46_8n10 k) (L46_8n11 k) (L46_8n12 k) x0 y0 x1 y1 lx ly hx hy x7 x8
def L46_8n10 : Nat → (Int) → (Int) → (Int) → (Int) → (Int) → (Int) → (Int) → (Int) → (Int) → (Int) → Option (Bool)
  | 0, _, _, _, _, _, _, _, _, _, _ => none
  | k + 1, x0, y0, x1, y1, lx, ly, hx, hy, x7, x8 => T46_8n10 some (L46_5o0 k) (L46_5o1 k) (L46_5o2 k) (L46_8n00 k) (L46_8n01 k) (L46_8n02 k) (L46_8n10 k) (L46_8n11 k) (L46_8n12 k) x0 y0 x1 y1 lx ly hx hy x7 x8
def L46_8n11 : Nat → (Int) → (Int) → (Int) → (Int) → (Int) → (Int) → (Int) → (Int) → (Int) → (Int) → Option (Bool)
  | 0, _, _, _, _, _, _, _, _, _, _ => none
  | k + 1, x0, y0, x1, y1, lx, ly, hx, hy, x7, x8 => T46_8n11 some (L46_5o0 k) (L46_5o1 k) (L46_5o2 k) (L46_8n00 k) (L46_8n01 k) (L46_8n02 k) (L46_8n10 k) (L46_8n11 k) (L46_8n12 k) x0 y0 x1 y1 lx ly hx hy x7 x8
def L46_8n12 : Nat → (Int) → (Int) → (Int) → (Int) → (Int) → (Int) → (Int) → (Int) → (Int) → (Int) → Option (Bool)
  | 0, _, _, _, _, _, _, _, _, _, _ => none
  | k + 1, x0, y0, x1, y1, lx, ly, hx, hy, x7, x8 => T46_8n12 some (L46_5o0 k) (L46_5o1 k) (L46_5o2 k) (L46_8n00 k) (L46_8n01 k) (L46_8n02 k) (L46_8n10 k) (L46_8n11 k) (L46_8n12 k) x0 y0 x1 y1 lx ly hx hy x7 x8
end
def T46 {ρ : Type} (ret : KJ32 ρ) (c5o0 : KJ31 ρ) (c5o1 : KJ31 ρ) (c5o2 : KJ31 ρ) (c8n00 : KJ31 ρ) (c8n01 : KJ31 ρ) (c8n02 : KJ31 ρ) (c8n10 : KJ31 ρ) (c8n11 : KJ31 ρ) (c8n12 : KJ31 ρ) (x0 : Int) (y0 : Int) (x1 : Int) (y1 : Int) (lx : Int) (ly : Int) (hx : Int) (hy : Int) : Option ρ :=
 (bsel (decide (x1 < lx) == false)
 (bsel (decide (x0 > hx) == false)
 (bsel (decide ((if true = true then if y1 > y0 then y1 else y0 else if y1 < y0 then y1 else y0) < ly) == false)
 (bsel (decide ((if false = true then if y1 > y0 then y1 else y0 else if y1 < y0 then y1 else y0) > hy))
 (ret (false))
 (c5o0 (x0) (y0) (x1) (y1) (lx) (ly) (hx) (hy) (1) (-1)))
 (ret (false)))
 (ret (false)))
 (ret (false)))
def G46 (k : Nat) (x0 : Int) (y0 : Int) (x1 : Int) (y1 : Int) (lx : Int) (ly : Int) (hx : Int) (hy : Int) : Option (Bool) := T46 some (L46_5o0 k) (L46_5o1 k) (L46_5o2 k) (L46_8n00 k) (L46_8n01 k) (L46_8n02 k) (L46_8n10 k) (L46_8n11 k) (L46_8n12 k) x0 y0 x1 y1 lx ly hx hy
mutual
theorem t46_5o0 : ∀ (k : Nat) (x0 : Int) (y0 : Int) (x1 : Int) (y1 : Int) (lx : Int) (ly : Int) (hx : Int) (hy : Int) (x7 : Int) (x8 : Int) (r : Bool), L46_5o0 k x0 y0 x1 y1 lx ly hx hy x7 x8 = some r → Ends Try.prog Try.f46.results.toList (at_ Try.f46 5) (S46_5o0 x0 y0 x1 y1 lx ly hx hy x7 x8) (F.bool r)
  | 0, _, _, _, _, _, _, _, _, _, _, _, h => nomatch h
  | k + 1, x0, y0, x1, y1, lx, ly, hx, hy, x7, x8, r, h => by
    refine Ends.of_cut tyOK envW2_ok (T := [(5, [3, 4, 5, 7, 8, 56, 57, 58], 4), (8, [3, 4, 5, 7, 8, 10, 56, 57, 58, 66, 67, 68], 5)]) (n := 600) ?_
    have e : runCut Try.prog (tiOf Try.prog) envW2 [(5, [3, 4, 5, 7, 8, 56, 57, 58], 4), (8, [3, 4, 5, 7, 8, 10, 56, 57, 58, 66, 67, 68], 5)] 0 Try.f46.results.toList some 600 (at_ Try.f46 5) (S46_5o0 x0 y0 x1 y1 lx ly hx hy x7 x8) = T46_5o0 (fun r => some (.ret (F.bool r))) (fun x0 y0 x1 y1 lx ly hx hy x7 x8 => some (.cut (at_ Try.f46 5) (S46_5o0 x0 y0 x1 y1 lx ly hx hy x7 x8))) (fun x0 y0 x1 y1 lx ly hx hy x7 x8 => some (.cut (at_ Try.f46 5) (S46_5o1 x0 y0 x1 y1 lx ly hx hy x7 x8))) (fun x0 y0 x1 y1 lx ly hx hy x7 x8 => some (.cut (at_ Try.f46 5) (S46_5o2 x0 y0 x1 y1 lx ly hx hy x7 x8))) (fun x0 y0 x1 y1 lx ly hx hy x7 x8 => some (.cut (at_ Try.f46 8) (S46_8n00 x0 y0 x1 y1 lx ly hx hy x7 x8))) (fun x0 y0 x1 y1 lx ly hx hy x7 x8 => some (.cut (at_ Try.f46 8) (S46_8n01 x0 y0 x1 y1 lx ly hx hy x7 x8))) (fun x0 y0 x1 y1 lx ly hx hy x7 x8 => some (.cut (at_ Try.f46 8) (S46_8n02 x0 y0 x1 y1 lx ly hx hy x7 x8))) (fun x0 y0 x1 y1 lx ly hx hy x7 x8 => some (.cut (at_ Try.f46 8) (S46_8n10 x0 y0 x1 y1 lx ly hx hy x7 x8))) (fun x0 y0 x1 y1 lx ly hx hy x7 x8 => some (.cut (at_ Try.f46 8) (S46_8n11 x0 y0 x1 y1 lx ly hx hy x7 x8))) (fun x0 y0 x1 y1 lx ly hx hy x7 x8 => some (.cut (at_ Try.f46 8) (S46_8n12 x0 y0 x1 y1 lx ly hx hy x7 x8))) x0 y0 x1 y1 lx ly hx hy x7 x8 := by kernel_rfl
    rw [e]
    exact good_cut (t46_8n00 k _ _ _ _ _ _ _ _ _ _ r h)
theorem t46_5o1 : ∀ (k : Nat) (x0 : Int) (y0 : Int) (x1 : Int) (y1 : Int) (lx : Int) (ly : Int) (hx : Int) (hy : Int) (x7 : Int) (x8 : Int) (r : Bool), L46_5o1 k x0 y0 x1 y1 lx ly hx hy x7 x8 = some r → Ends Try.prog Try.f46.results.toList (at_ Try.f46 5) (S46_5o1 x0 y0 x1 y1 lx ly hx hy x7 x8) (F.bool r)
  | 0, _, _, _, _, _, _, _, _, _, _, _, h => nomatch h
  | k + 1, x0, y0, x1, y1, lx, ly, hx, hy, x7, x8, r, h => by
    refine Ends.of_cut tyOK envW2_ok (T := [(5, [3, 4, 5, 7, 8, 56, 57, 58], 4), (8, [3, 4, 5, 7, 8, 10, 56, 57, 58, 66, 67, 68], 5)]) (n := 600) ?_
    have e : runCut Try.prog (tiOf Try.prog) envW2 [(5, [3, 4, 5, 7, 8, 56, 57, 58], 4), (8, [3, 4, 5, 7, 8, 10, 56, 57, 58, 66, 67, 68], 5)] 0 Try.f46.results.toList some 600 (at_ Try.f46 5) (S46_5o1 x0 y0 x1 y1 lx ly hx hy x7 x8) = T46_5o1 (fun r => some (.ret (F.bool r))) (fun x0 y0 x1 y1 lx ly hx hy x7 x8 => some (.cut (at_ Try.f46 5) (S46_5o0 x0 y0 x1 y1 lx ly hx hy x7 x8))) (fun x0 y0 x1 y1 lx ly hx hy x7 x8 => some (.cut (at_ Try.f46 5) (S46_5o1 x0 y0 x1 y1 lx ly hx hy x7 x8))) (fun x0 y0 x1 y1 lx ly hx hy x7 x8 => some (.cut (at_ Try.f46 5) (S46_5o2 x0 y0 x1 y1 lx ly hx hy x7 x8))) (fun x0 y0 x1 y1 lx ly hx hy x7 x8 => some (.cut (at_ Try.f46 8) (S46_8n00 x0 y0 x1 y1 lx ly hx hy x7 x8))) (fun x0 y0 x1 y1 lx ly hx hy x7 x8 => some (.cut (at_ Try.f46 8) (S46_8n01 x0 y0 x1 y1 lx ly hx hy x7 x8))) (fun x0 y0 x1 y1 lx ly hx hy x7 x8 => some (.cut (at_ Try.f46 8) (S46_8n02 x0 y0 x1 y1 lx ly hx hy x7 x8))) (fun x0 y0 x1 y1 lx ly hx hy x7 x8 => some (.cut (at_ Try.f46 8) (S46_8n10 x0 y0 x1 y1 lx ly hx hy x7 x8))) (fun x0 y0 x1 y1 lx ly hx hy x7 x8 => some (.cut (at_ Try.f46 8) (S46_8n11 x0 y0 x1 y1 lx ly hx hy x7 x8))) (fun x0 y0 x1 y1 lx ly hx hy x7 x8 => some (.cut (at_ Try.f46 8) (S46_8n12 x0 y0 x1 y1 lx ly hx hy x7 x8))) x0 y0 x1 y1 lx ly hx hy x7 x8 := by kernel_rfl
    rw [e]
    exact good_cut (t46_8n10 k _ _ _ _ _ _ _ _ _ _ r h)
theorem t46_5o2 : ∀ (k : Nat) (x0 : Int) (y0 : Int) (x1 : Int) (y1 : Int) (lx : Int) (ly : Int) (hx : Int) (hy : Int) (x7 : Int) (x8 : Int) (r : Bool), L46_5o2 k x0 y0 x1 y1 lx ly hx hy x7 x8 = some r → Ends Try.prog Try.f46.results.toList (at_ Try.f46 5) (S46_5o2 x0 y0 x1 y1 lx ly hx hy x7 x8) (F.bool r)
  | 0, _, _, _, _, _, _, _, _, _, _, _, h => nomatch h
  | k + 1, x0, y0, x1, y1, lx, ly, hx, hy, x7, x8, r, h => by
    refine Ends.of_cut tyOK envW2_ok (T := [(5, [3, 4, 5, 7, 8, 56, 57, 58], 4), (8, [3, 4, 5, 7, 8, 10, 56, 57, 58, 66, 67, 68], 5)]) (n := 600) ?_
    have e : runCut Try.prog (tiOf Try.prog) envW2 [(5, [3, 4, 5, 7, 8, 56, 57, 58], 4), (8, [3, 4, 5, 7, 8, 10, 56, 57, 58, 66, 67, 68], 5)] 0 Try.f46.results.toList some 600 (at_ Try.f46 5) (S46_5o2 x0 y0 x1 y1 lx ly hx hy x7 x8) = T46_5o2 (fun r => some (.ret (F.bool r))) (fun x0 y0 x1 y1 lx ly hx hy x7 x8 => some (.cut (at_ Try.f46 5) (S46_5o0 x0 y0 x1 y1 lx ly hx hy x7 x8))) (fun x0 y0 x1 y1 lx ly hx hy x7 x8 => some (.cut (at_ Try.f46 5) (S46_5o1 x0 y0 x1 y1 lx ly hx hy x7 x8))) (fun x0 y0 x1 y1 lx ly hx hy x7 x8 => some (.cut (at_ Try.f46 5) (S46_5o2 x0 y0 x1 y1 lx ly hx hy x7 x8))) (fun x0 y0 x1 y1 lx ly hx hy x7 x8 => some (.cut (at_ Try.f46 8) (S46_8n00 x0 y0 x1 y1 lx ly hx hy x7 x8))) (fun x0 y0 x1 y1 lx ly hx hy x7 x8 => some (.cut (at_ Try.f46 8) (S46_8n01 x0 y0 x1 y1 lx ly hx hy x7 x8))) (fun x0 y0 x1 y1 lx ly hx hy x7 x8 => some (.cut (at_ Try.f46 8) (S46_8n02 x0 y0 x1 y1 lx ly hx hy x7 x8))) (fun x0 y0 x1 y1 lx ly hx hy x7 x8 => some (.cut (at_ Try.f46 8) (S46_8n10 x0 y0 x1 y1 lx ly hx hy x7 x8))) (fun x0 y0 x1 y1 lx ly hx hy x7 x8 => some (.cut (at_ Try.f46 8) (S46_8n11 x0 y0 x1 y1 lx ly hx hy x7 x8))) (fun x0 y0 x1 y1 lx ly hx hy x7 x8 => some (.cut (at_ Try.f46 8) (S46_8n12 x0 y0 x1 y1 lx ly hx hy x7 x8))) x0 y0 x1 y1 lx ly hx hy x7 x8 := by kernel_rfl
    rw [e]
    exact (good_sel h (fun _ h => good_ret (by cases h; rfl)) (fun _ h => good_ret (by cases h; rfl)))
theorem t46_8n00 : ∀ (k : Nat) (x0 : Int) (y0 : Int) (x1 : Int) (y1 : Int) (lx : Int) (ly : Int) (hx : Int) (hy : Int) (x7 : Int) (x8 : Int) (r : Bool), L46_8n00 k x0 y0 x1 y1 lx ly hx hy x7 x8 = some r → Ends Try.prog Try.f46.results.toList (at_ Try.f46 8) (S46_8n00 x0 y0 x1 y1 lx ly hx hy x7 x8) (F.bool r)
  | 0, _, _, _, _, _, _, _, _, _, _, _, h => nomatch h
  | k + 1, x0, y0, x1, y1, lx, ly, hx, hy, x7, x8, r, h => by
    refine Ends.of_cut tyOK envW2_ok (T := [(5, [3, 4, 5, 7, 8, 56, 57, 58], 4), (8, [3, 4, 5, 7, 8, 10, 56, 57, 58, 66, 67, 68], 5)]) (n := 600) ?_
    have e : runCut Try.prog (tiOf Try.prog) envW2 [(5, [3, 4, 5, 7, 8, 56, 57, 58], 4), (8, [3, 4, 5, 7, 8, 10, 56, 57, 58, 66, 67, 68], 5)] 0 Try.f46.results.toList some 600 (at_ Try.f46 8) (S46_8n00 x0 y0 x1 y1 lx ly hx hy x7 x8) = T46_8n00 (fun r => some (.ret (F.bool r))) (fun x0 y0 x1 y1 lx ly hx hy x7 x8 => some (.cut (at_ Try.f46 5) (S46_5o0 x0 y0 x1 y1 lx ly hx hy x7 x8))) (fun x0 y0 x1 y1 lx ly hx hy x7 x8 => some (.cut (at_ Try.f46 5) (S46_5o1 x0 y0 x1 y1 lx ly hx hy x7 x8))) (fun x0 y0 x1 y1 lx ly hx hy x7 x8 => some (.cut (at_ Try.f46 5) (S46_5o2 x0 y0 x1 y1 lx ly hx hy x7 x8))) (fun x0 y0 x1 y1 lx ly hx hy x7 x8 => some (.cut (at_ Try.f46 8) (S46_8n00 x0 y0 x1 y1 lx ly hx hy x7 x8))) (fun x0 y0 x1 y1 lx ly hx hy x7 x8 => some (.cut (at_ Try.f46 8) (S46_8n01 x0 y0 x1 y1 lx ly hx hy x7 x8))) (fun x0 y0 x1 y1 lx ly hx hy x7 x8 => some (.cut (at_ Try.f46 8) (S46_8n02 x0 y0 x1 y1 lx ly hx hy x7 x8))) (fun x0 y0 x1 y1 lx ly hx hy x7 x8 => some (.cut (at_ Try.f46 8) (S46_8n10 x0 y0 x1 y1 lx ly hx hy x7 x8))) (fun x0 y0 x1 y1 lx ly hx hy x7 x8 => some (.cut (at_ Try.f46 8) (S46_8n11 x0 y0 x1 y1 lx ly hx hy x7 x8))) (fun x0 y0 x1 y1 lx ly hx hy x7 x8 => some (.cut (at_ Try.f46 8) (S46_8n12 x0 y0 x1 y1 lx ly hx hy x7 x8))) x0 y0 x1 y1 lx ly hx hy x7 x8 := by kernel_rfl
    rw [e]
    exact good_cut (t46_8n01 k _ _ _ _ _ _ _ _ _ _ r h)
theorem t46_8n01 : ∀ (k : Nat) (x0 : Int) (y0 : Int) (x1 : Int) (y1 : Int) (lx : Int) (ly : Int) (hx : Int) (hy : Int) (x7 : Int) (x8 : Int) (r : Bool), L46_8n01 k x0 y0 x1 y1 lx ly hx hy x7 x8 = some r → Ends Try.prog Try.f46.results.toList (at_ Try.f46 8) (S46_8n01 x0 y0 x1 y1 lx ly hx hy x7 x8) (F.bool r)
  | 0, _, _, _, _, _, _, _, _, _, _, _, h => nomatch h
  | k + 1, x0, y0, x1, y1, lx, ly, hx, hy, x7, x8, r, h => by
    refine Ends.of_cut tyOK envW2_ok (T := [(5, [3, 4, 5, 7, 8, 56, 57, 58], 4), (8, [3, 4, 5, 7, 8, 10, 56, 57, 58, 66, 67, 68], 5)]) (n := 600) ?_
    have e : runCut Try.prog (tiOf Try.prog) envW2 [(5, [3, 4, 5, 7, 8, 56, 57, 58], 4), (8, [3, 4, 5, 7, 8, 10, 56, 57, 58, 66, 67, 68], 5)] 0 Try.f46.results.toList some 600 (at_ Try.f46 8) (S46_8n01 x0 y0 x1 y1 lx ly hx hy x7 x8) = T46_8n01 (fun r => some (.ret (F.bool r))) (fun x0 y0 x1 y1 lx ly hx hy x7 x8 => some (.cut (at_ Try.f46 5) (S46_5o0 x0 y0 x1 y1 lx ly hx hy x7 x8))) (fun x0 y0 x1 y1 lx ly hx hy x7 x8 => some (.cut (at_ Try.f46 5) (S46_5o1 x0 y0 x1 y1 lx ly hx hy x7 x8))) (fun x0 y0 x1 y1 lx ly hx hy x7 x8 => some (.cut (at_ Try.f46 5) (S46_5o2 x0 y0 x1 y1 lx ly hx hy x7 x8))) (fun x0 y0 x1 y1 lx ly hx hy x7 x8 => some (.cut (at_ Try.f46 8) (S46_8n00 x0 y0 x1 y1 lx ly hx hy x7 x8))) (fun x0 y0 x1 y1 lx ly hx hy x7 x8 => some (.cut (at_ Try.f46 8) (S46_8n01 x0 y0 x1 y1 lx ly hx hy x7 x8))) (fun x0 y0 x1 y1 lx ly hx hy x7 x8 => some (.cut (at_ Try.f46 8) (S46_8n02 x0 y0 x1 y1 lx ly hx hy x7 x8))) (fun x0 y0 x1 y1 lx ly hx hy x7 x8 => some (.cut (at_ Try.f46 8) (S46_8n10 x0 y0 x1 y1 lx ly hx hy x7 x8))) (fun x0 y0 x1 y1 lx ly hx hy x7 x8 => some (.cut (at_ Try.f46 8) (S46_8n11 x0 y0 x1 y1 lx ly hx hy x7 x8))) (fun x0 y0 x1 y1 lx ly hx hy x7 x8 => some (.cut (at_ Try.f46 8) (S46_8n12 x0 y0 x1 y1 lx ly hx hy x7 x8))) x0 y0 x1 y1 lx ly hx hy x7 x8 := by kernel_rfl
    rw [e]
    exact good_cut (t46_8n02 k _ _ _ _ _ _ _ _ _ _ r h)
theorem t46_8n02 : ∀ (k : Nat) (x0 : Int) (y0 : Int) (x1 : Int) (y1 : Int) (lx : Int) (ly : Int) (hx : Int) (hy : Int) (x7 : Int) (x8 : Int) (r : Bool), L46_8n02 k x0 y0 x1 y1 lx ly hx hy x7 x8 = some r → Ends Try.prog Try.f46.results.toList (at_ Try.f46 8) (S46_8n02 x0 y0 x1 y1 lx ly hx hy x7 x8) (F.bool r)
  | 0, _, _, _, _, _, _, _, _, _, _, _, h => nomatch h
  | k + 1, x0, y0, x1, y1, lx, ly, hx, hy, x7, x8, r, h => by
    refine Ends.of_cut tyOK envW2_ok (T := [(5, [3, 4, 5, 7, 8, 56, 57, 58], 4), (8, [3, 4, 5, 7, 8, 10, 56, 57, 58, 66, 67, 68], 5)]) (n := 600) ?_
    have e : runCut Try.prog (tiOf Try.prog) envW2 [(5, [3, 4, 5, 7, 8, 56, 57, 58], 4), (8, [3, 4, 5, 7, 8, 10, 56, 57, 58, 66, 67, 68], 5)] 0 Try.f46.results.toList some 600 (at_ Try.f46 8) (S46_8n02 x0 y0 x1 y1 lx ly hx hy x7 x8) = T46_8n02 (fun r => some (.ret (F.bool r))) (fun x0 y0 x1 y1 lx ly hx hy x7 x8 => some (.cut (at_ Try.f46 5) (S46_5o0 x0 y0 x1 y1 lx ly hx hy x7 x8))) (fun x0 y0 x1 y1 lx ly hx hy x7 x8 => some (.cut (at_ Try.f46 5) (S46_5o1 x0 y0 x1 y1 lx ly hx hy x7 x8))) (fun x0 y0 x1 y1 lx ly hx hy x7 x8 => some (.cut (at_ Try.f46 5) (S46_5o2 x0 y0 x1 y1 lx ly hx hy x7 x8))) (fun x0 y0 x1 y1 lx ly hx hy x7 x8 => some (.cut (at_ Try.f46 8) (S46_8n00 x0 y0 x1 y1 lx ly hx hy x7 x8))) (fun x0 y0 x1 y1 lx ly hx hy x7 x8 => some (.cut (at_ Try.f46 8) (S46_8n01 x0 y0 x1 y1 lx ly hx hy x7 x8))) (fun x0 y0 x1 y1 lx ly hx hy x7 x8 => some (.cut (at_ Try.f46 8) (S46_8n02 x0 y0 x1 y1 lx ly hx hy x7 x8))) (fun x0 y0 x1 y1 lx ly hx hy x7 x8 => some (.cut (at_ Try.f46 8) (S46_8n10 x0 y0 x1 y1 lx ly hx hy x7 x8))) (fun x0 y0 x1 y1 lx ly hx hy x7 x8 => some (.cut (at_ Try.f46 8) (S46_8n11 x0 y0 x1 y1 lx ly hx hy x7 x8))) (fun x0 y0 x1 y1 lx ly hx hy x7 x8 => some (.cut (at_ Try.f46 8) (S46_8n12 x0 y0 x1 y1 lx ly hx hy x7 x8))) x0 y0 x1 y1 lx ly hx hy x7 x8 := by kernel_rfl
    rw [e]
    exact good_cut (t46_5o1 k _ _ _ _ _ _ _ _ _ _ r h)
theorem t46_8n10 : ∀ (k : Nat) (x0 : Int) (y0 : Int) (x1 : Int) (y1 : Int) (lx : Int) (ly : Int) (hx : Int) (hy : Int) (x7 : Int) (x8 : Int) (r : Bool), L46_8n10 k x0 y0 x1 y1 lx ly hx hy x7 x8 = some r → Ends Try.prog Try.f46.results.toList (at_ Try.f46 8) (S46_8n10 x0 y0 x1 y1 lx ly hx hy x7 x8) (F.bool r)
  | 0, _, _, _, _, _, _, _, _, _, _, _, h => nomatch h
  | k + 1, x0, y0, x1, y1, lx, ly, hx, hy, x7, x8, r, h => by
    refine Ends.of_cut tyOK envW2_ok (T := [(5, [3, 4, 5, 7, 8, 56, 57, 58], 4), (8, [3, 4, 5, 7, 8, 10, 56, 57, 58, 66, 67, 68], 5)]) (n := 600) ?_
    have e : runCut Try.prog (tiOf Try.prog) envW2 [(5, [3, 4, 5, 7, 8, 56, 57, 58], 4), (8, [3, 4, 5, 7, 8, 10, 56, 57, 58, 66, 67, 68], 5)] 0 Try.f46.results.toList some 600 (at_ Try.f46 8) (S46_8n10 x0 y0 x1 y1 lx ly hx hy x7 x8) = T46_8n10 (fun r => some (.ret (F.bool r))) (fun x0 y0 x1 y1 lx ly hx hy x7 x8 => some (.cut (at_ Try.f46 5) (S46_5o0 x0 y0 x1 y1 lx ly hx hy x7 x8))) (fun x0 y0 x1 y1 lx ly hx hy x7 x8 => some (.cut (at_ Try.f46 5) (S46_5o1 x0 y0 x1 y1 lx ly hx hy x7 x8))) (fun x0 y0 x1 y1 lx ly hx hy x7 x8 => some (.cut (at_ Try.f46 5) (S46_5o2 x0 y0 x1 y1 lx ly hx hy x7 x8))) (fun x0 y0 x1 y1 lx ly hx hy x7 x8 => some (.cut (at_ Try.f46 8) (S46_8n00 x0 y0 x1 y1 lx ly hx hy x7 x8))) (fun x0 y0 x1 y1 lx ly hx hy x7 x8 => some (.cut (at_ Try.f46 8) (S46_8n01 x0 y0 x1 y1 lx ly hx hy x7 x8))) (fun x0 y0 x1 y1 lx ly hx hy x7 x8 => some (.cut (at_ Try.f46 8) (S46_8n02 x0 y0 x1 y1 lx ly hx hy x7 x8))) (fun x0 y0 x1 y1 lx ly hx hy x7 x8 => some (.cut (at_ Try.f46 8) (S46_8n10 x0 y0 x1 y1 lx ly hx hy x7 x8))) (fun x0 y0 x1 y1 lx ly hx hy x7 x8 => some (.cut (at_ Try.f46 8) (S46_8n11 x0 y0 x1 y1 lx ly hx hy x7 x8))) (fun x0 y0 x1 y1 lx ly hx hy x7 x8 => some (.cut (at_ Try.f46 8) (S46_8n12 x0 y0 x1 y1 lx ly hx hy x7 x8))) x0 y0 x1 y1 lx ly hx hy x7 x8 := by kernel_rfl
    rw [e]
    exact good_cut (t46_8n11 k _ _ _ _ _ _ _ _ _ _ r h)
theorem t46_8n11 : ∀ (k : Nat) (x0 : Int) (y0 : Int) (x1 : Int) (y1 : Int) (lx : Int) (ly : Int) (hx : Int) (hy : Int) (x7 : Int) (x8 : Int) (r : Bool), L46_8n11 k x0 y0 x1 y1 lx ly hx hy x7 x8 = some r → Ends Try.prog Try.f46.results.toList (at_ Try.f46 8) (S46_8n11 x0 y0 x1 y1 lx ly hx hy x7 x8) (F.bool r)
  | 0, _, _, _, _, _, _, _, _, _, _, _, h => nomatch h
  | k + 1, x0, y0, x1, y1, lx, ly, hx, hy, x7, x8, r, h => by
    refine Ends.of_cut tyOK envW2_ok (T := [(5, [3, 4, 5, 7, 8, 56, 57, 58], 4), (8, [3, 4, 5, 7, 8, 10, 56, 57, 58, 66, 67, 68], 5)]) (n := 600) ?_
    have e : runCut Try.prog (tiOf Try.prog) envW2 [(5, [3, 4, 5, 7, 8, 56, 57, 58], 4), (8, [3, 4, 5, 7, 8, 10, 56, 57, 58, 66, 67, 68], 5)] 0 Try.f46.results.toList some 600 (at_ Try.f46 8) (S46_8n11 x0 y0 x1 y1 lx ly hx hy x7 x8) = T46_8n11 (fun r => some (.ret (F.bool r))) (fun x0 y0 x1 y1 lx ly hx hy x7 x8 => some (.cut (at_ Try.f46 5) (S46_5o0 x0 y0 x1 y1 lx ly hx hy x7 x8))) (fun x0 y0 x1 y1 lx ly hx hy x7 x8 => some (.cut (at_ Try.f46 5) (S46_5o1 x0 y0 x1 y1 lx ly hx hy x7 x8))) (fun x0 y0 x1 y1 lx ly hx hy x7 x8 => some (.cut (at_ Try.f46 5) (S46_5o2 x0 y0 x1 y1 lx ly hx hy x7 x8))) (fun x0 y0 x1 y1 lx ly hx hy x7 x8 => some (.cut (at_ Try.f46 8) (S46_8n00 x0 y0 x1 y1 lx ly hx hy x7 x8))) (fun x0 y0 x1 y1 lx ly hx hy x7 x8 => some (.cut (at_ Try.f46 8) (S46_8n01 x0 y0 x1 y1 lx ly hx hy x7 x8))) (fun x0 y0 x1 y1 lx ly hx hy x7 x8 => some (.cut (at_ Try.f46 8) (S46_8n02 x0 y0 x1 y1 lx ly hx hy x7 x8))) (fun x0 y0 x1 y1 lx ly hx hy x7 x8 => some (.cut (at_ Try.f46 8) (S46_8n10 x0 y0 x1 y1 lx ly hx hy x7 x8))) (fun x0 y0 x1 y1 lx ly hx hy x7 x8 => some (.cut (at_ Try.f46 8) (S46_8n11 x0 y0 x1 y1 lx ly hx hy x7 x8))) (fun x0 y0 x1 y1 lx ly hx hy x7 x8 => some (.cut (at_ Try.f46 8) (S46_8n12 x0 y0 x1 y1 lx ly hx hy x7 x8))) x0 y0 x1 y1 lx ly hx hy x7 x8 := by kernel_rfl
    rw [e]
    exact good_cut (t46_8n12 k _ _ _ _ _ _ _ _ _ _ r h)
theorem t46_8n12 : ∀ (k : Nat) (x0 : Int) (y0 : Int) (x1 : Int) (y1 : Int) (lx : Int) (ly : Int) (hx : Int) (hy : Int) (x7 : Int) (x8 : Int) (r : Bool), L46_8n12 k x0 y0 x1 y1 lx ly hx hy x7 x8 = some r → Ends Try.prog Try.f46.results.toList (at_ Try.f46 8) (S46_8n12 x0 y0 x1 y1 lx ly hx hy x7 x8) (F.bool r)
  | 0, _, _, _, _, _, _, _, _, _, _, _, h => nomatch h
  | k + 1, x0, y0, x1, y1, lx, ly, hx, hy, x7, x8, r, h => by
    refine Ends.of_cut tyOK envW2_ok (T := [(5, [3, 4, 5, 7, 8, 56, 57, 58], 4), (8, [3, 4, 5, 7, 8, 10, 56, 57, 58, 66, 67, 68], 5)]) (n := 600) ?_
    have e : runCut Try.prog (tiOf Try.prog) envW2 [(5, [3, 4, 5, 7, 8, 56, 57, 58], 4), (8, [3, 4, 5, 7, 8, 10, 56, 57, 58, 66, 67, 68], 5)] 0 Try.f46.results.toList some 600 (at_ Try.f46 8) (S46_8n12 x0 y0 x1 y1 lx ly hx hy x7 x8) = T46_8n12 (fun r => some (.ret (F.bool r))) (fun x0 y0 x1 y1 lx ly hx hy x7 x8 => some (.cut (at_ Try.f46 5) (S46_5o0 x0 y0 x1 y1 lx ly hx hy x7 x8))) (fun x0 y0 x1 y1 lx ly hx hy x7 x8 => some (.cut (at_ Try.f46 5) (S46_5o1 x0 y0 x1 y1 lx ly hx hy x7 x8))) (fun x0 y0 x1 y1 lx ly hx hy x7 x8 => some (.cut (at_ Try.f46 5) (S46_5o2 x0 y0 x1 y1 lx ly hx hy x7 x8))) (fun x0 y0 x1 y1 lx ly hx hy x7 x8 => some (.cut (at_ Try.f46 8) (S46_8n00 x0 y0 x1 y1 lx ly hx hy x7 x8))) (fun x0 y0 x1 y1 lx ly hx hy x7 x8 => some (.cut (at_ Try.f46 8) (S46_8n01 x0 y0 x1 y1 lx ly hx hy x7 x8))) (fun x0 y0 x1 y1 lx ly hx hy x7 x8 => some (.cut (at_ Try.f46 8) (S46_8n02 x0 y0 x1 y1 lx ly hx hy x7 x8))) (fun x0 y0 x1 y1 lx ly hx hy x7 x8 => some (.cut (at_ Try.f46 8) (S46_8n10 x0 y0 x1 y1 lx ly hx hy x7 x8))) (fun x0 y0 x1 y1 lx ly hx hy x7 x8 => some (.cut (at_ Try.f46 8) (S46_8n11 x0 y0 x1 y1 lx ly hx hy x7 x8))) (fun x0 y0 x1 y1 lx ly hx hy x7 x8 => some (.cut (at_ Try.f46 8) (S46_8n12 x0 y0 x1 y1 lx ly hx hy x7 x8))) x0 y0 x1 y1 lx ly hx hy x7 x8 := by kernel_rfl
    rw [e]
    exact good_cut (t46_5o2 k _ _ _ _ _ _ _ _ _ _ r h)
end
theorem t46 (k : Nat) (x0 : Int) (y0 : Int) (x1 : Int) (y1 : Int) (lx : Int) (ly : Int) (hx : Int) (hy : Int) (r : Bool) (h : G46 k x0 y0 x1 y1 lx ly hx hy = some r) : Ends Try.prog Try.f46.results.toList [.code (bodyOf Try.f46)] (start Try.f46.ntmps ([F.agg [F.int .i64 x0, F.int .i64 y0, F.int .i64 x1, F.int .i64 y1], F.agg [F.int .i64 lx, F.int .i64 ly], F.agg [F.int .i64 hx, F.int .i64 hy]].map .f)) (F.bool r) := by
  refine Ends.of_run tyOK envW2_ok (T := [(5, [3, 4, 5, 7, 8, 56, 57, 58], 4), (8, [3, 4, 5, 7, 8, 10, 56, 57, 58, 66, 67, 68], 5)]) (n := 600) ?_
  have e : run Try.prog (tiOf Try.prog) envW2 [(5, [3, 4, 5, 7, 8, 56, 57, 58], 4), (8, [3, 4, 5, 7, 8, 10, 56, 57, 58, 66, 67, 68], 5)] 0 Try.f46.results.toList some 600 [.code (bodyOf Try.f46)] (start Try.f46.ntmps ([F.agg [F.int .i64 x0, F.int .i64 y0, F.int .i64 x1, F.int .i64 y1], F.agg [F.int .i64 lx, F.int .i64 ly], F.agg [F.int .i64 hx, F.int .i64 hy]].map .f)) = T46 (fun r => some (.ret (F.bool r))) (fun x0 y0 x1 y1 lx ly hx hy x7 x8 => some (.cut (at_ Try.f46 5) (S46_5o0 x0 y0 x1 y1 lx ly hx hy x7 x8))) (fun x0 y0 x1 y1 lx ly hx hy x7 x8 => some (.cut (at_ Try.f46 5) (S46_5o1 x0 y0 x1 y1 lx ly hx hy x7 x8))) (fun x0 y0 x1 y1 lx ly hx hy x7 x8 => some (.cut (at_ Try.f46 5) (S46_5o2 x0 y0 x1 y1 lx ly hx hy x7 x8))) (fun x0 y0 x1 y1 lx ly hx hy x7 x8 => some (.cut (at_ Try.f46 8) (S46_8n00 x0 y0 x1 y1 lx ly hx hy x7 x8))) (fun x0 y0 x1 y1 lx ly hx hy x7 x8 => some (.cut (at_ Try.f46 8) (S46_8n01 x0 y0 x1 y1 lx ly hx hy x7 x8))) (fun x0 y0 x1 y1 lx ly hx hy x7 x8 => some (.cut (at_ Try.f46 8) (S46_8n02 x0 y0 x1 y1 lx ly hx hy x7 x8))) (fun x0 y0 x1 y1 lx ly hx hy x7 x8 => some (.cut (at_ Try.f46 8) (S46_8n10 x0 y0 x1 y1 lx ly hx hy x7 x8))) (fun x0 y0 x1 y1 lx ly hx hy x7 x8 => some (.cut (at_ Try.f46 8) (S46_8n11 x0 y0 x1 y1 lx ly hx hy x7 x8))) (fun x0 y0 x1 y1 lx ly hx hy x7 x8 => some (.cut (at_ Try.f46 8) (S46_8n12 x0 y0 x1 y1 lx ly hx hy x7 x8))) x0 y0 x1 y1 lx ly hx hy := by kernel_rfl
  rw [e]
  exact (good_sel h (fun _ h => (good_sel h (fun _ h => (good_sel h (fun _ h => (good_sel h (fun _ h => good_ret (by cases h; rfl)) (fun _ h => good_cut (t46_5o0 k _ _ _ _ _ _ _ _ _ _ r h)))) (fun _ h => good_ret (by cases h; rfl)))) (fun _ h => good_ret (by cases h; rfl)))) (fun _ h => good_ret (by cases h; rfl)))
def segOkV (x0 y0 x1 y1 : Int) : Bool := spotOkV x0 y0 && (spotOkV x1 y1 && lessV x0 y0 x1 y1)
theorem cmp_less (x0 y0 x1 y1 : Int) : decide (cmpV x0 y0 x1 y1 < 0) = lessV x0 y0 x1 y1 := by
  unfold cmpV
  cases h : x0 == x1 && y0 == y1 with
  | true =>
    simp only [Bool.and_eq_true, beq_iff_eq] at h
    have : lessV x0 y0 x1 y1 = false := by
      simp only [lessV, Bool.or_eq_false_iff, Bool.and_eq_false_iff, decide_eq_false_iff_not]
      omega
    rw [this]; rfl
  | false => cases lessV x0 y0 x1 y1 <;> rfl
theorem segOk_spec (x0 y0 x1 y1 : Int) : G27 x0 y0 x1 y1 = some (segOkV x0 y0 x1 y1) := by
  unfold G27 T27 segOkV
  cases spotOkV x0 y0 <;> cases spotOkV x1 y1 <;> rfl
theorem segOk_impl (x0 y0 x1 y1 : Int) : G15 x0 y0 x1 y1 = some (segOkV x0 y0 x1 y1) := by
  unfold G15 T15 segOkV
  rw [cmp_less]
  cases spotOkV x0 y0 <;> cases spotOkV x1 y1 <;> rfl
def pre1s : List F → Bool | [.agg [.int .i64 _, .int .i64 _, .int .i64 _, .int .i64 _]] => true | _ => false
def resSegOk : List F → F | [.agg [.int .i64 a, .int .i64 b, .int .i64 c, .int .i64 d]] => .bool (segOkV a b c d) | _ => .dflt
theorem okSegOkS : PureOK Try.prog 27 pre1s resSegOk :=
  fn_pure (c := bodyOf Try.f27) Try.func27 (by kernel_rfl) (by kernel_rfl) fun xs hp => match xs, hp with
  | [.agg [.int .i64 a, .int .i64 b, .int .i64 c, .int .i64 d]], hp => t27 a b c d _ (segOk_spec a b c d)
theorem okSegOkI : PureOK Try.prog 15 pre1s resSegOk :=
  fn_pure (c := bodyOf Try.f15) Try.func15 (by kernel_rfl) (by kernel_rfl) fun xs hp => match xs, hp with
  | [.agg [.int .i64 a, .int .i64 b, .int .i64 c, .int .i64 d]], hp => t15 a b c d _ (segOk_impl a b c d)
def apartV (x0 y0 x1 y1 lx ly hx hy : Int) : Bool := decide (x1 < lx) || (decide (x0 > hx) || (decide (y0 < ly) && decide (y1 < ly) || decide (y0 > hy) && decide (y1 > hy)))
def meetsV (x0 y0 x1 y1 lx ly hx hy : Int) : Bool := !apartV x0 y0 x1 y1 lx ly hx hy &&
  (!(turnV x0 y0 x1 y1 lx ly == 1 && turnV x0 y0 x1 y1 hx hy == 1 && turnV x0 y0 x1 y1 lx hy == 1 && turnV x0 y0 x1 y1 hx ly == 1) &&
   !(turnV x0 y0 x1 y1 lx ly == -1 && turnV x0 y0 x1 y1 hx hy == -1 && turnV x0 y0 x1 y1 lx hy == -1 && turnV x0 y0 x1 y1 hx ly == -1))
theorem turn3 (a b c d e f : Int) : turnV a b c d e f = -1 ∨ turnV a b c d e f = 0 ∨ turnV a b c d e f = 1 := by
  unfold turnV signV
  cases decide (crossW a b c d e f < 0) <;> cases decide (crossW a b c d e f > 0) <;> simp
section
variable (x0 y0 x1 y1 lx ly hx hy : Int)
def bumpU (c u : Int) : Int := bif c == 1 then u + 1 else u
def bumpD (c u : Int) : Int := bif c == 1 then u else bif c == -1 then u + 1 else u
theorem box4 (k : Nat) (u d : Int) : L50_6n4 (k + 1) x0 y0 x1 y1 lx ly hx hy u d = some (decide (u < 4) && decide (d < 4)) := by
  rw [L50_6n4, T50_6n4]
  cases decide (u < 4) <;> rfl
theorem box3 (k : Nat) (u d : Int) (h : 0 ≤ u ∧ u ≤ 9 ∧ 0 ≤ d ∧ d ≤ 9) : L50_6n3 (k + 2) x0 y0 x1 y1 lx ly hx hy u d = some (decide (bumpU (turnV x0 y0 x1 y1 hx ly) u < 4) && decide (bumpD (turnV x0 y0 x1 y1 hx ly) d < 4)) := by
  rw [L50_6n3, T50_6n3]
  simp only [box4]
  rw [wrapi (x := u + 1) (by omega) (by omega), wrapi (x := d + 1) (by omega) (by omega)]
  unfold bumpU bumpD
  cases turnV x0 y0 x1 y1 hx ly == 1 <;> cases turnV x0 y0 x1 y1 hx ly == -1 <;> rfl
theorem bump_le {c u d : Int} {n : Int} (h : 0 ≤ u ∧ u ≤ n ∧ 0 ≤ d ∧ d ≤ n) : 0 ≤ bumpU c u ∧ bumpU c u ≤ n + 1 ∧ 0 ≤ bumpD c d ∧ bumpD c d ≤ n + 1 := by
  unfold bumpU bumpD
  cases c == 1 <;> cases c == -1 <;> simp only [cond_true, cond_false] <;> omega
theorem box2 (k : Nat) (u d : Int) (h : 0 ≤ u ∧ u ≤ 8 ∧ 0 ≤ d ∧ d ≤ 8) : L50_6n2 (k + 3) x0 y0 x1 y1 lx ly hx hy u d =
    L50_6n3 (k + 2) x0 y0 x1 y1 lx ly hx hy (bumpU (turnV x0 y0 x1 y1 lx hy) u) (bumpD (turnV x0 y0 x1 y1 lx hy) d) := by
  rw [L50_6n2, T50_6n2]
  rw [wrapi (x := u + 1) (by omega) (by omega), wrapi (x := d + 1) (by omega) (by omega)]
  unfold bumpU bumpD
  cases turnV x0 y0 x1 y1 lx hy == 1 <;> cases turnV x0 y0 x1 y1 lx hy == -1 <;> rfl
theorem box1 (k : Nat) (u d : Int) (h : 0 ≤ u ∧ u ≤ 7 ∧ 0 ≤ d ∧ d ≤ 7) : L50_6n1 (k + 4) x0 y0 x1 y1 lx ly hx hy u d =
    L50_6n2 (k + 3) x0 y0 x1 y1 lx ly hx hy (bumpU (turnV x0 y0 x1 y1 hx hy) u) (bumpD (turnV x0 y0 x1 y1 hx hy) d) := by
  rw [L50_6n1, T50_6n1]
  rw [wrapi (x := u + 1) (by omega) (by omega), wrapi (x := d + 1) (by omega) (by omega)]
  unfold bumpU bumpD
  cases turnV x0 y0 x1 y1 hx hy == 1 <;> cases turnV x0 y0 x1 y1 hx hy == -1 <;> rfl
theorem box0 (k : Nat) : L50_6n0 (k + 5) x0 y0 x1 y1 lx ly hx hy 0 0 =
    L50_6n1 (k + 4) x0 y0 x1 y1 lx ly hx hy (bumpU (turnV x0 y0 x1 y1 lx ly) 0) (bumpD (turnV x0 y0 x1 y1 lx ly) 0) := by
  rw [L50_6n0, T50_6n0]
  rw [wrapi (x := 0 + 1) (by omega) (by omega)]
  unfold bumpU bumpD
  cases turnV x0 y0 x1 y1 lx ly == 1 <;> cases turnV x0 y0 x1 y1 lx ly == -1 <;> rfl
def cornersV : Bool := (!(turnV x0 y0 x1 y1 lx ly == 1 && turnV x0 y0 x1 y1 hx hy == 1 && turnV x0 y0 x1 y1 lx hy == 1 && turnV x0 y0 x1 y1 hx ly == 1) &&
   !(turnV x0 y0 x1 y1 lx ly == -1 && turnV x0 y0 x1 y1 hx hy == -1 && turnV x0 y0 x1 y1 lx hy == -1 && turnV x0 y0 x1 y1 hx ly == -1))
theorem corners_spec (k : Nat) : L50_6n0 (k + 5) x0 y0 x1 y1 lx ly hx hy 0 0 = some (cornersV x0 y0 x1 y1 lx ly hx hy) := by
  have h1 := bump_le (c := turnV x0 y0 x1 y1 lx ly) (u := 0) (d := 0) (n := 0) (by omega)
  have h2 := bump_le (c := turnV x0 y0 x1 y1 hx hy) h1
  have h3 := bump_le (c := turnV x0 y0 x1 y1 lx hy) h2
  rw [box0, box1 _ _ _ _ _ _ _ _ _ _ _ (by omega), box2 _ _ _ _ _ _ _ _ _ _ _ (by omega), box3 _ _ _ _ _ _ _ _ _ _ _ (by omega)]
  unfold cornersV
  rcases turn3 x0 y0 x1 y1 lx ly with e | e | e <;> rcases turn3 x0 y0 x1 y1 hx hy with f | f | f <;> rcases turn3 x0 y0 x1 y1 lx hy with g | g | g <;> rcases turn3 x0 y0 x1 y1 hx ly with h | h | h <;> rw [e, f, g, h] <;> rfl
theorem meets_spec : G50 5 x0 y0 x1 y1 lx ly hx hy = some (meetsV x0 y0 x1 y1 lx ly hx hy) := by
  unfold G50 T50
  simp only [corners_spec x0 y0 x1 y1 lx ly hx hy 0]
  have : meetsV x0 y0 x1 y1 lx ly hx hy = (!apartV x0 y0 x1 y1 lx ly hx hy && cornersV x0 y0 x1 y1 lx ly hx hy) := rfl
  rw [this]
  unfold apartV
  generalize cornersV x0 y0 x1 y1 lx ly hx hy = c
  cases decide (x1 < lx) <;> cases decide (x0 > hx) <;> cases decide (y0 < ly) <;> cases decide (y1 < ly) <;> cases decide (y0 > hy) <;> cases decide (y1 > hy) <;> rfl
theorem corners_impl (k : Nat) : L46_5o0 (k + 9) x0 y0 x1 y1 lx ly hx hy 1 (-1) = some (cornersV x0 y0 x1 y1 lx ly hx hy) := by
  simp only [L46_5o0, T46_5o0, L46_8n00, T46_8n00, L46_8n01, T46_8n01, L46_8n02, T46_8n02,
    L46_5o1, T46_5o1, L46_8n10, T46_8n10, L46_8n11, T46_8n11, L46_8n12, T46_8n12, L46_5o2, T46_5o2, if_true, Bool.false_eq_true, if_false]
  have t1 : signV (crossW x0 y0 x1 y1 lx ly) = turnV x0 y0 x1 y1 lx ly := rfl
  have t2 : signV (crossW x0 y0 x1 y1 lx hy) = turnV x0 y0 x1 y1 lx hy := rfl
  have t3 : signV (crossW x0 y0 x1 y1 hx ly) = turnV x0 y0 x1 y1 hx ly := rfl
  have t4 : signV (crossW x0 y0 x1 y1 hx hy) = turnV x0 y0 x1 y1 hx hy := rfl
  rw [t1, t2, t3, t4]
  unfold cornersV
  rcases turn3 x0 y0 x1 y1 lx ly with e | e | e <;> rcases turn3 x0 y0 x1 y1 hx hy with f | f | f <;> rcases turn3 x0 y0 x1 y1 lx hy with g | g | g <;> rcases turn3 x0 y0 x1 y1 hx ly with h | h | h <;> rw [e, f, g, h] <;> rfl
theorem meets_impl : G46 9 x0 y0 x1 y1 lx ly hx hy = some (meetsV x0 y0 x1 y1 lx ly hx hy) := by
  unfold G46 T46
  simp only [corners_impl x0 y0 x1 y1 lx ly hx hy 0, if_true, Bool.false_eq_true, if_false]
  have : meetsV x0 y0 x1 y1 lx ly hx hy = (!apartV x0 y0 x1 y1 lx ly hx hy && cornersV x0 y0 x1 y1 lx ly hx hy) := rfl
  rw [this]
  unfold apartV
  have e1 : decide ((if y1 > y0 then y1 else y0) < ly) = (decide (y0 < ly) && decide (y1 < ly)) := by
    rw [Bool.eq_iff_iff]; simp only [Bool.and_eq_true, decide_eq_true_eq]; split <;> omega
  have e2 : decide ((if y1 < y0 then y1 else y0) > hy) = (decide (y0 > hy) && decide (y1 > hy)) := by
    rw [Bool.eq_iff_iff]; simp only [Bool.and_eq_true, decide_eq_true_eq]; split <;> omega
  rw [e1, e2]
  generalize cornersV x0 y0 x1 y1 lx ly hx hy = c
  cases decide (x1 < lx) <;> cases decide (x0 > hx) <;> cases decide (y0 < ly) <;> cases decide (y1 < ly) <;> cases decide (y0 > hy) <;> cases decide (y1 > hy) <;> rfl
end
def preMeets : List F → Bool | [.agg [.int .i64 _, .int .i64 _, .int .i64 _, .int .i64 _], .agg [.int .i64 _, .int .i64 _], .agg [.int .i64 _, .int .i64 _]] => true | _ => false
def resMeets : List F → F | [.agg [.int .i64 a, .int .i64 b, .int .i64 c, .int .i64 d], .agg [.int .i64 e, .int .i64 f], .agg [.int .i64 g, .int .i64 h]] => .bool (meetsV a b c d e f g h) | _ => .dflt
theorem okMeetsS : PureOK Try.prog 50 preMeets resMeets :=
  fn_pure (c := bodyOf Try.f50) Try.func50 (by kernel_rfl) (by kernel_rfl) fun xs hp => match xs, hp with
  | [.agg [.int .i64 a, .int .i64 b, .int .i64 c, .int .i64 d], .agg [.int .i64 e, .int .i64 f], .agg [.int .i64 g, .int .i64 h]], hp => t50 5 a b c d e f g h _ (meets_spec a b c d e f g h)
theorem okMeetsI : PureOK Try.prog 46 preMeets resMeets :=
  fn_pure (c := bodyOf Try.f46) Try.func46 (by kernel_rfl) (by kernel_rfl) fun xs hp => match xs, hp with
  | [.agg [.int .i64 a, .int .i64 b, .int .i64 c, .int .i64 d], .agg [.int .i64 e, .int .i64 f], .agg [.int .i64 g, .int .i64 h]], hp => t46 9 a b c d e f g h _ (meets_impl a b c d e f g h)
def envW3 : Env := (((envW2.add 27 (.pure pre1s resSegOk)).add 15 (.pure pre1s resSegOk)).add 50 (.pure preMeets resMeets)).add 46 (.pure preMeets resMeets)
theorem envW3_ok : EnvOK Try.prog envW3 := (Env.add_ok (Env.add_ok (Env.add_ok (Env.add_ok envW2_ok okSegOkS.sp) okSegOkI.sp) okMeetsS.sp) okMeetsI.sp)
end Go.Proofs.Ytbnainbjcaekjaa.R
namespace Go.Proofs.Ytbnainbjcaekjaa.R
open Go
structure Sg where
  x0 : Int
  y0 : Int
  x1 : Int
  y1 : Int
def Sg.zero : Sg := ⟨0, 0, 0, 0⟩
def sgF (s : Sg) : F := .agg [.int .i64 s.x0, .int .i64 s.y0, .int .i64 s.x1, .int .i64 s.y1]
end Go.Proofs.Ytbnainbjcaekjaa.R
namespace Go.Proofs.Ytbnainbjcaekjaa.R
open Go
def envW4 : Env := envW3
theorem envW4_ok : EnvOK Try.prog envW4 := envW3_ok
end Go.Proofs.Ytbnainbjcaekjaa.R
namespace Go.Proofs.Ytbnainbjcaekjaa.R
open Go
def envW5 : Env := envW4
theorem envW5_ok : EnvOK Try.prog envW5 := envW4_ok
end Go.Proofs.Ytbnainbjcaekjaa.R
namespace Go.Proofs.Ytbnainbjcaekjaa.R
open Go
noncomputable section
end
end Go.Proofs.Ytbnainbjcaekjaa.R
namespace Go.Proofs.Ytbnainbjcaekjaa.R
open Go
def isI64F : F → Bool | .int .i64 _ => true | _ => false
def unI64 : F → Int | .int .i64 n => n | _ => 0
theorem i64_eq {x : F} (h : isI64F x = true) : i64F (unI64 x) = x := by
  unfold isI64F at h
  split at h
  · rfl
  · cases h
def isInts (x : F) : Bool := isSl isI64F x
def unInts (x : F) : List Int := unSl unI64 x
theorem unInts_intsF (l : List Int) : unInts (intsF l) = l := unSl_slF (fun _ => rfl) l
theorem isInts_intsF (l : List Int) : isInts (intsF l) = true := isSl_slF l fun _ _ => rfl
theorem ints_eqv {x : F} (hx : isInts x = true) : FLe x (intsF (unInts x)) ∧ FLe (intsF (unInts x)) x := slF_eqv (fun _ h => i64_eq h) hx
theorem intsF_inj {l l' : List Int} (h : intsF l = intsF l') : l = l' := by rw [← unInts_intsF l, h, unInts_intsF]
structure It where
  id : Int
  x0 : Int
  y0 : Int
  x1 : Int
  y1 : Int
def It.sg (t : It) : Sg := ⟨t.x0, t.y0, t.x1, t.y1⟩
def It.zero : It := ⟨0, 0, 0, 0, 0⟩
def itF (t : It) : F := .agg [.int .i64 t.id, .int .i64 t.x0, .int .i64 t.y0, .int .i64 t.x1, .int .i64 t.y1]
def isIt : F → Bool
  | .agg [.int .i64 _, .int .i64 _, .int .i64 _, .int .i64 _, .int .i64 _] => true
  | _ => false
def unIt : F → It
  | .agg [.int .i64 e, .int .i64 a, .int .i64 b, .int .i64 c, .int .i64 d] => ⟨e, a, b, c, d⟩
  | _ => .zero
def itemsF (l : List It) : F := slF itF .zero l
def isItems (x : F) : Bool := isSl isIt x
def unItems (x : F) : List It := unSl unIt x
theorem unItems_itemsF (l : List It) : unItems (itemsF l) = l := unSl_slF (fun _ => rfl) l
theorem isItems_itemsF (l : List It) : isItems (itemsF l) = true := isSl_slF l fun _ _ => rfl
theorem it_eq {x : F} (h : isIt x = true) : itF (unIt x) = x := by
  unfold isIt at h
  split at h
  · rfl
  · cases h
theorem items_eqv {x : F} (hx : isItems x = true) : FLe x (itemsF (unItems x)) ∧ FLe (itemsF (unItems x)) x := slF_eqv (fun _ h => it_eq h) hx
theorem atItems {n : Nat} {g : Nat → F} (h : isItems (.sl n g) = true) {j : Nat} (hj : j < n) : g j = itF ((unItems (.sl n g)).getD j It.zero) := sl_at It.zero (fun _ h => it_eq h) h hj
structure Bk where
  x : Int
  y : Int
  size : Int
  split : Bool
  ids : List Int
def Bk.zero : Bk := ⟨0, 0, 0, false, []⟩
def bkF (b : Bk) : F := .agg [.int .i64 b.x, .int .i64 b.y, .int .i64 b.size, .bool b.split, intsF b.ids]
def isBk : F → Bool
  | .agg [.int .i64 _, .int .i64 _, .int .i64 _, .bool _, l] => isInts l
  | _ => false
def unBk : F → Bk
  | .agg [.int .i64 a, .int .i64 b, .int .i64 c, .bool s, l] => ⟨a, b, c, s, unInts l⟩
  | _ => .zero
theorem unBk_bkF (b : Bk) : unBk (bkF b) = b := by
  show Bk.mk b.x b.y b.size b.split (unInts (intsF b.ids)) = b
  rw [unInts_intsF]
theorem isBk_bkF (b : Bk) : isBk (bkF b) = true := isInts_intsF b.ids
theorem bk_eqv {x : F} (h : isBk x = true) : FsLe x.cells (bkF (unBk x)).cells ∧ FsLe (bkF (unBk x)).cells x.cells := by
  unfold isBk at h
  split at h
  · exact ⟨⟨.refl _, .refl _, .refl _, .refl _, (ints_eqv h).1, trivial⟩, ⟨.refl _, .refl _, .refl _, .refl _, (ints_eqv h).2, trivial⟩⟩
  · cases h
theorem FLe.bk {x : F} (h : isBk x = true) : FLe x (bkF (unBk x)) := by
  have h1 := (bk_eqv h).1
  unfold isBk at h
  split at h
  · exact FLe.agg h1
  · cases h
theorem bk_el {x : F} (h : isBk x = true) : ElLe x (bkF (unBk x)) ∧ ElLe (bkF (unBk x)) x := by
  obtain ⟨h1, h2⟩ := bk_eqv h
  refine ⟨⟨h1, fun _ u hu => ?_⟩, ⟨h2, fun _ u hu => ?_⟩⟩
  · simp only [bkF, F.cells, List.mem_cons, List.not_mem_nil, or_false] at hu
    rcases hu with rfl | rfl | rfl | rfl | rfl <;> rfl
  · unfold isBk at h
    split at h
    · rename_i l
      simp only [F.cells, List.mem_cons, List.not_mem_nil, or_false] at hu
      rcases hu with rfl | rfl | rfl | rfl | rfl
      · rfl
      · rfl
      · rfl
      · rfl
      · cases u <;> simp_all [isInts, isSl, cellF]
    · cases h
def blocksF (l : List Bk) : F := slF bkF .zero l
def isBlocks (x : F) : Bool := isSl isBk x
def unBlocks (x : F) : List Bk := unSl unBk x
theorem unBlocks_blocksF (l : List Bk) : unBlocks (blocksF l) = l := unSl_slF unBk_bkF l
theorem isBlocks_blocksF (l : List Bk) : isBlocks (blocksF l) = true := isSl_slF l fun b _ => isBk_bkF b
theorem blocks_eqv {x : F} (hx : isBlocks x = true) : FLe x (blocksF (unBlocks x)) ∧ FLe (blocksF (unBlocks x)) x := slF_eqv' (fun _ h => bk_el h) hx
structure Qd where
  most : Int
  deep : Int
  items : List It
  blocks : List Bk
def Qd.zero : Qd := ⟨0, 0, [], []⟩
def qdF (q : Qd) : F := .agg [.int .i64 q.most, .int .i64 q.deep, itemsF q.items, blocksF q.blocks]
def isQd : F → Bool
  | .agg [.int .i64 _, .int .i64 _, i, b] => isItems i && isBlocks b
  | _ => false
def unQd : F → Qd
  | .agg [.int .i64 m, .int .i64 d, i, b] => ⟨m, d, unItems i, unBlocks b⟩
  | _ => .zero
theorem unQd_qdF (q : Qd) : unQd (qdF q) = q := by
  show Qd.mk q.most q.deep (unItems (itemsF q.items)) (unBlocks (blocksF q.blocks)) = q
  rw [unItems_itemsF, unBlocks_blocksF]
theorem isQd_qdF (q : Qd) : isQd (qdF q) = true := by
  show (isItems (itemsF q.items) && isBlocks (blocksF q.blocks)) = true
  rw [isItems_itemsF, isBlocks_blocksF]; rfl
theorem qd_eqv {x : F} (h : isQd x = true) : FLe x (qdF (unQd x)) ∧ FLe (qdF (unQd x)) x := by
  unfold isQd at h
  split at h
  · rw [Bool.and_eq_true] at h
    exact ⟨FLe.agg ⟨.refl _, .refl _, (items_eqv h.1).1, (blocks_eqv h.2).1, trivial⟩, FLe.agg ⟨.refl _, .refl _, (items_eqv h.1).2, (blocks_eqv h.2).2, trivial⟩⟩
  · cases h
inductive Tr where
  | leaf (x y size : Int) (ids : List Int)
  | node (x y size : Int) (a b c d : Tr)
def Tr.x : Tr → Int | .leaf x _ _ _ => x | .node x _ _ _ _ _ _ => x
def Tr.y : Tr → Int | .leaf _ y _ _ => y | .node _ y _ _ _ _ _ => y
def Tr.size : Tr → Int | .leaf _ _ s _ => s | .node _ _ s _ _ _ _ => s
def Tr.ids : Tr → List Int | .leaf _ _ _ l => l | .node _ _ _ _ _ _ _ => []
def Tr.kn : Tr → Nat | .leaf _ _ _ _ => 0 | .node _ _ _ _ _ _ _ => 4
def kidG : Tr → Nat → F
  | .leaf _ _ _ _ => fun _ => .dflt
  | .node _ _ _ a b c d => lget [.agg [.int .i64 a.x, .int .i64 a.y, .int .i64 a.size, .cl a.kn (kidG a), intsF a.ids], .agg [.int .i64 b.x, .int .i64 b.y, .int .i64 b.size, .cl b.kn (kidG b), intsF b.ids],
      .agg [.int .i64 c.x, .int .i64 c.y, .int .i64 c.size, .cl c.kn (kidG c), intsF c.ids], .agg [.int .i64 d.x, .int .i64 d.y, .int .i64 d.size, .cl d.kn (kidG d), intsF d.ids]]
def trF (t : Tr) : F := .agg [.int .i64 t.x, .int .i64 t.y, .int .i64 t.size, .cl t.kn (kidG t), intsF t.ids]
def Tr.zero : Tr := .leaf 0 0 0 []
theorem trF_inj : ∀ (t t' : Tr), trF t = trF t' → t = t'
  | .leaf _ _ _ _, .leaf _ _ _ _, h => by
    simp only [trF, F.agg.injEq, List.cons.injEq, F.int.injEq, true_and, and_true, Tr.x, Tr.y, Tr.size, Tr.ids] at h
    obtain ⟨rfl, rfl, rfl, _, h⟩ := h
    rw [intsF_inj h]
  | .leaf _ _ _ _, .node _ _ _ _ _ _ _, h => by
    simp only [trF, F.agg.injEq, List.cons.injEq, F.cl.injEq, Tr.kn] at h
    omega
  | .node _ _ _ _ _ _ _, .leaf _ _ _ _, h => by
    simp only [trF, F.agg.injEq, List.cons.injEq, F.cl.injEq, Tr.kn] at h
    omega
  | .node _ _ _ a b c d, .node _ _ _ a' b' c' d', h => by
    simp only [trF, F.agg.injEq, List.cons.injEq, F.cl.injEq, F.int.injEq, true_and, and_true, Tr.x, Tr.y, Tr.size] at h
    obtain ⟨rfl, rfl, rfl, ⟨_, h⟩, _⟩ := h
    rw [trF_inj a a' (congrFun h 0), trF_inj b b' (congrFun h 1), trF_inj c c' (congrFun h 2), trF_inj d d' (congrFun h 3)]
noncomputable def isTr (x : F) : Bool := @decide (∃ t, x = trF t) (Classical.propDecidable _)
theorem unTr_ex (x : F) : ∃ t : Tr, isTr x = true → x = trF t := by
  by_cases h : isTr x = true
  · obtain ⟨t, ht⟩ := @of_decide_eq_true _ (Classical.propDecidable _) h
    exact ⟨t, fun _ => ht⟩
  · exact ⟨.zero, fun h' => absurd h' h⟩
noncomputable def unTr (x : F) : Tr := Classical.choose (unTr_ex x)
theorem isTr_trF (t : Tr) : isTr (trF t) = true := @decide_eq_true _ (Classical.propDecidable _) ⟨t, rfl⟩
theorem tr_eq {x : F} (h : isTr x = true) : x = trF (unTr x) := Classical.choose_spec (unTr_ex x) h
theorem unTr_trF (t : Tr) : unTr (trF t) = t := (trF_inj _ _ (tr_eq (isTr_trF t))).symm
end Go.Proofs.Ytbnainbjcaekjaa.R
