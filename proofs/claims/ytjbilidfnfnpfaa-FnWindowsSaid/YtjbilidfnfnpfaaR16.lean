/-
  The own reflective walk, part 16: the machine on one frame; functions of data.
-/
import Derived.Test.YtjbilidfnfnpfaaR22
namespace Go.Proofs.Ytjbilidfnfnpfaa.R
open Go
set_option linter.unusedVariables false
set_option linter.unusedSimpArgs false

section
variable {P : Program} {w : World} {Z : Nat → Prop} {m : Nat → Nat} {H : List HO} {ty : TypeId → Option TI} {C : Env} {ρ : Type} {r : ρ} {st : St} {a : Act}

theorem belows_get {k : Nat} : ∀ (us : List U), usBelow k us = true → ∀ (j : Nat) (u : U), us[j]? = some u → uBelow k u = true
  | [], _, j, u, h => by simp at h
  | x :: us, hb, j, u, h => by
    simp only [usBelow, Bool.and_eq_true] at hb
    cases j with
    | zero => simp at h; exact h ▸ hb.1
    | succ j => simp at h; exact belows_get us hb.2 j u h

theorem take_get {k o : Nat} (h : o < k) : (H.take k)[o]? = H[o]? := by
  rw [List.getElem?_take, if_pos h]

theorem RepU.take {k : Nat} {u : U} {v : Value} (h : RepU w Z m H u v) : uBelow k u = true → RepU w Z m (H.take k) u v := by
  induction h with
  | f x v h => intro _; exact .f x v h
  | agg cs vs hl hr ih => intro hb; exact .agg cs vs hl fun j u v hu hv => ih j u v hu hv (belows_get cs (by simpa [uBelow] using hb) j u hu)
  | tup cs vs hl hr ih => intro hb; exact .tup cs vs hl fun j u v hu hv => ih j u v hu hv (belows_get cs (by simpa [uBelow] using hb) j u hu)
  | fn f us vs hl hr ih => intro hb; exact .fn f us vs hl fun j u v hu hv => ih j u v hu hv (belows_get us (by simpa [uBelow] using hb) j u hu)
  | hs o gen off len v h1 ho hg hv =>
    intro hb
    simp only [uBelow, decide_eq_true_eq] at hb
    obtain ⟨ob, hob, hnf⟩ := ho
    refine .hs o gen off len v h1 ⟨ob, by rw [take_get hb]; exact hob, hnf⟩ (fun sz n g e => ?_) (fun sz n g e eg => ?_)
    · rw [take_get hb] at e; exact hg _ _ _ e
    · rw [take_get hb] at e; exact hv _ _ _ e eg
  | hp o off v h1 ho hv =>
    intro hb
    simp only [uBelow, decide_eq_true_eq] at hb
    obtain ⟨ob, hob, hnf⟩ := ho
    refine .hp o off v h1 ⟨ob, by rw [take_get hb]; exact hob, hnf⟩ (fun cs e => ?_)
    rw [take_get hb] at e; exact hv _ e
  | ep o gen i off v h1 ho hg hv =>
    intro hb
    simp only [uBelow, decide_eq_true_eq] at hb
    obtain ⟨ob, hob, hnf⟩ := ho
    refine .ep o gen i off v h1 ⟨ob, by rw [take_get hb]; exact hob, hnf⟩ (fun sz n g e => ?_) (fun sz n g e eg => ?_)
    · rw [take_get hb] at e; exact hg _ _ _ e
    · rw [take_get hb] at e; exact hv _ _ _ e eg
  | va cs ad hZ V hV hr => intro _; exact .va cs ad hZ V hV hr
  | nilp => intro _; exact .nilp
  | nils A => intro _; exact .nils A
  | nilfn => intro _; exact .nilfn
  | undef => intro _; exact .undef
  | bad v => intro _; exact .bad v

theorem live_take {k o : Nat} (h : liveAt (H.take k) o) : liveAt H o := by
  obtain ⟨ob, h, hl⟩ := h
  rw [List.getElem?_take] at h
  split at h
  · exact ⟨ob, h, hl⟩
  · cases h

theorem HOK.take {k : Nat} (hH : HOK w Z m H) (hb : (H.take k).all (obBelow k) = true) : HOK w Z m (H.take k) := by
  refine ⟨hH.zlt, fun o ho => hH.apart o (live_take ho), fun o o' h h' => hH.inj o o' (live_take h) (live_take h'), fun o ob ho => ?_⟩
  have hbb := List.all_eq_true.1 hb ob (List.mem_of_getElem? ho)
  rw [List.getElem?_take] at ho
  split at ho
  · have := hH.ob o ob ho
    cases ob with
    | dead => trivial
    | free => trivial
    | arr sz n g => exact this
    | box cs =>
      obtain ⟨c, el, fr, h1, h2, h3, h4⟩ := this
      refine ⟨c, el, fr, h1, h2, h3, fun j u hu => ?_⟩
      obtain ⟨v, hv, hr⟩ := h4 j u hu
      exact ⟨v, hv, hr.take (belows_get cs (by simpa [obBelow] using hbb) j u hu)⟩
  · cases ho

theorem Ext.take {w0 : World} {Z0 : Nat → Prop} {m0 : Nat → Nat} {H0 : List HO} {k : Nat} (hE : Ext w0 Z0 m0 H0 w Z m H) (hk : H0.length ≤ k) : Ext w0 Z0 m0 H0 w Z m (H.take k) := by
  refine ⟨hE.os, hE.tape, hE.output, hE.size, hE.sub, hE.back, hE.kept, hE.rest, ?_, fun o ob ob' h h' => ?_, fun o ho => hE.new o (live_take ho)⟩
  · have := hE.len
    rw [List.length_take]; omega
  · have hlt := (List.getElem?_eq_some_iff.1 h).1
    rw [take_get (by omega)] at h'
    exact hE.evol o ob ob' h h'

theorem clear_get (lv : List Nat) : ∀ (us : List U) (i j : Nat) (u : U), (clearFrom lv i us)[j]? = some u → u = .bad ∨ us[j]? = some u
  | [], i, j, u, h => by simp [clearFrom] at h
  | x :: us, i, j, u, h => by
    simp only [clearFrom] at h
    cases j with
    | zero =>
      simp only [List.getElem?_cons_zero, Option.some.injEq] at h
      split at h
      · right; simp [h]
      · left; exact h.symm
    | succ j => simp at h; simpa using clear_get lv us (i + 1) j u h
theorem clear_len (lv : List Nat) : ∀ (us : List U) (i : Nat), (clearFrom lv i us).length = us.length
  | [], _ => rfl
  | _ :: us, i => by simp [clearFrom, clear_len lv us]

theorem norm_sound {hn k : Nat} {lv : List Nat} {K : St → Option ρ} {w0 : World} {Z0 : Nat → Prop} {m0 : Nat → Nat} {H0 : List HO} (hA : AOK w Z m st a) (hE : Ext w0 Z0 m0 H0 w Z m st.heap) (hhn : hn = H0.length)
    (h : evNorm hn lv k st K = some r) : ∃ st', K st' = some r ∧ AOK w Z m st' a ∧ Ext w0 Z0 m0 H0 w Z m st'.heap := by
  unfold evNorm at h
  replace h := bsel_some h; obtain ⟨h1, h⟩ := h
  simp only [Bool.and_eq_true, decide_eq_true_eq] at h1
  obtain ⟨⟨h1, h2⟩, h3⟩ := h1
  refine ⟨_, h, ⟨by simp [clear_len, hA.len], fun i u v hu hv => ?_, hA.hok.take h3⟩, hE.take (hhn ▸ h1)⟩
  have hb := belows_get _ h2 i u hu
  rcases clear_get lv _ _ _ _ hu with rfl | hu'
  · exact .bad v
  · exact (hA.rep i u v hu' hv).take hb

/-- Where a stretch of the walk has come to, in memory. -/
def Reach (P : Program) (hn : Nat) (rs : List ResultVar) (w0 : World) (Z0 : Nat → Prop) (m0 : Nat → Nat) (H0 : List HO) (ds : List Deferred) (b : Frame) (cs : List Frame) (M : Machine) : End → Prop
  | .ret x => ∃ st' a' w' todo, retF P hn rs st' = some x ∧ Goes w0 Z0 m0 H0 ds st' a' w' ∧ Steps P M (lone { b.at a' todo with mode := .returning } cs w')
  | .cut items st' => ∃ a' w', Goes w0 Z0 m0 H0 ds st' a' w' ∧ Steps P M (lone (b.at a' items) cs w')

theorem Reach.head {hn : Nat} {rs : List ResultVar} {w0 : World} {Z0 : Nat → Prop} {m0 : Nat → Nat} {H0 : List HO} {ds : List Deferred} {b : Frame} {cs : List Frame} {M M' : Machine} {e : End} (hs : Steps P M M') (h : Reach P hn rs w0 Z0 m0 H0 ds b cs M' e) : Reach P hn rs w0 Z0 m0 H0 ds b cs M e := by
  cases e with
  | ret x => obtain ⟨st', a', w', todo, h1, h2, h3⟩ := h; exact ⟨st', a', w', todo, h1, h2, hs.trans h3⟩
  | cut items st' => obtain ⟨a', w', h1, h2⟩ := h; exact ⟨a', w', h1, hs.trans h2⟩

/-- A region. -/
theorem reg_sound (hty : TyOK P ty) (hC : EnvOK P C) {w0 : World} {Z0 : Nat → Prop} {m0 : Nat → Nat} {H0 : List HO} {ds : List Deferred} {id : Nat} {ops : Array Oper} {draw : Bool} {K : St → Option ρ}
    (hA : AOK w Z m st a) (hd : a.defers = ds) (hE : Ext w0 Z0 m0 H0 w Z m st.heap) (h : evReg P ty C ops draw st K = some r) :
    (Code.region id ops draw).wp P (fun e a' w' => e = .normal ∧ ∃ st', K st' = some r ∧ Goes w0 Z0 m0 H0 ds st' a' w') a w := by
  cases draw with
  | true => exact draw_sound hty hC hA hd hE h
  | false =>
    have hw := ops_sound hty hC (List.range ops.size) st a w Z m hA hd hE h
    intro b k cs
    obtain ⟨e, a1, w1, hq, harr⟩ := wp_ops _ a w hw b k cs
    exact ⟨e, a1, w1, hq, .of_steps (.one step_region) harr⟩

theorem run_sound (hty : TyOK P ty) (hC : EnvOK P C) {T : Tab} {hn : Nat} {rs : List ResultVar} {K : End → Option ρ} {w0 : World} {Z0 : Nat → Prop} {m0 : Nat → Nat} {H0 : List HO} {ds : List Deferred} (hhn : hn = H0.length) :
    ∀ (n : Nat) (items : List Item) (st : St) (a : Act) (w : World) (Z : Nat → Prop) (m : Nat → Nat), AOK w Z m st a → a.defers = ds → Ext w0 Z0 m0 H0 w Z m st.heap → run P ty C T hn rs K n items st = some r →
      ∀ (b : Frame) (cs : List Frame), ∃ e, K e = some r ∧ Reach P hn rs w0 Z0 m0 H0 ds b cs (lone (b.at a items) cs w) e := by
  intro n
  induction n with
  | zero => intro items st a w Z m hA hd hE h; cases h
  | succ n ih =>
    intro items st a w Z m hA hd hE h b cs
    have one : ∀ {items' : List Item}, step P (lone (b.at a items) cs w) = .next (lone (b.at a items') cs w) → run P ty C T hn rs K n items' st = some r →
        ∃ e, K e = some r ∧ Reach P hn rs w0 Z0 m0 H0 ds b cs (lone (b.at a items) cs w) e := by
      intro items' hs hr
      obtain ⟨e, h1, h2⟩ := ih items' st a w Z m hA hd hE hr b cs
      exact ⟨e, h1, h2.head (.one hs)⟩
    have back : ∀ {todo : List Item}, step P (lone (b.at a items) cs w) = .next (lone { b.at a todo with mode := .returning } cs w) → retK P hn rs K st = some r →
        ∃ e, K e = some r ∧ Reach P hn rs w0 Z0 m0 H0 ds b cs (lone (b.at a items) cs w) e := by
      intro todo hs hr
      obtain ⟨x, hx, hr⟩ := retK_some hr
      exact ⟨_, hr, st, a, w, todo, hx, ⟨hd, Z, m, hA, hE⟩, .one hs⟩
    cases items with
    | nil => exact back step_end (by simpa only [run] using h)
    | cons it k =>
      cases it with
      | code c =>
        cases c with
        | skip => exact one step_skip (by simpa only [run] using h)
        | label l => exact one step_label (by simpa only [run] using h)
        | region id ops draw =>
          simp only [run] at h
          split at h
          · obtain ⟨e, a1, w1, ⟨rfl, st1, hk, hd1, Z1, m1, hA1, hE1⟩, harr⟩ := reg_sound (id := id) hty hC hA hd hE h b k cs
            obtain ⟨e, h1, h2⟩ := ih k st1 a1 w1 Z1 m1 hA1 hd1 hE1 hk b cs
            exact ⟨e, h1, h2.head harr⟩
          · rename_i lv hh _
            obtain ⟨st1, hk, hA1, hE1⟩ := norm_sound hA hE hhn h
            exact ⟨_, hk, a, w, ⟨hd, Z, m, hA1, hE1⟩, .refl _ _⟩
        | seq x y => exact one step_seq (by simpa only [run] using h)
        | cond c x y =>
          simp only [run] at h
          split at h
          · rename_i bb hb
            have hc := ev_rep hA c
            rw [hb] at hc
            have hc := bool_rep hc
            cases bb with
            | true => exact one (step_cond hc) h
            | false => exact one (step_cond hc) h
          · cases h
        | block id c => exact one step_block (by simpa only [run] using h)
        | loop c => exact one step_loop (by simpa only [run] using h)
        | exit id =>
          simp only [run] at h
          split at h
          · rename_i k' hk
            exact one (step_exit hk) h
          · cases h
        | goto l =>
          simp only [run] at h
          split at h
          · rename_i k' hk
            exact one (step_goto hk) h
          · cases h
        | ret => exact back step_ret (by simpa only [run] using h)
        | _ => simp only [run] at h; cases h
      | inBlock id => exact one step_inBlock (by simpa only [run] using h)
      | inLoop c => exact one step_inLoop (by simpa only [run] using h)
      | _ => simp only [run] at h; cases h

theorem runCut_sound (hty : TyOK P ty) (hC : EnvOK P C) {T : Tab} {hn : Nat} {rs : List ResultVar} {K : End → Option ρ} {w0 : World} {Z0 : Nat → Prop} {m0 : Nat → Nat} {H0 : List HO} {ds : List Deferred} (hhn : hn = H0.length)
    (n : Nat) (items : List Item) (st : St) (a : Act) (w : World) (Z : Nat → Prop) (m : Nat → Nat) (hA : AOK w Z m st a) (hd : a.defers = ds) (hE : Ext w0 Z0 m0 H0 w Z m st.heap) (h : runCut P ty C T hn rs K n items st = some r)
    (b : Frame) (cs : List Frame) : ∃ e, K e = some r ∧ Reach P hn rs w0 Z0 m0 H0 ds b cs (lone (b.at a items) cs w) e := by
  unfold runCut at h
  split at h
  · rename_i id ops draw k
    obtain ⟨e, a1, w1, ⟨rfl, st1, hk, hd1, Z1, m1, hA1, hE1⟩, harr⟩ := reg_sound (id := id) hty hC hA hd hE h b k cs
    obtain ⟨e, h1, h2⟩ := run_sound hty hC hhn n k st1 a1 w1 Z1 m1 hA1 hd1 hE1 hk b cs
    exact ⟨e, h1, h2.head harr⟩
  · cases h
end
end Go.Proofs.Ytjbilidfnfnpfaa.R
