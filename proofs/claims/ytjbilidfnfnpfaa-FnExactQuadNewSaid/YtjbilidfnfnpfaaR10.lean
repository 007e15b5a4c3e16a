/-
  The own reflective walk, part 10: append and copy.
-/
import Derived.Test.YtjbilidfnfnpfaaR9
namespace Go.Proofs.Ytjbilidfnfnpfaa.R
open Go
set_option linter.unusedVariables false
set_option linter.unusedSimpArgs false

section
variable {P : Program} {w : World} {Z : Nat → Prop} {m : Nat → Nat} {H : List HO} {ty : TypeId → Option TI} {ρ : Type} {r : ρ} {st : St} {K : U → St → Option ρ}

theorem growBy_le (newLen : Nat) : ∀ (rounds c : Nat), c ≤ 2 * newLen + 1000 → Builtin.growBy newLen rounds c ≤ 2 * newLen + 1000
  | 0, c, h => h
  | rounds + 1, c, h => by
    simp only [Builtin.growBy]
    split
    · exact h
    · exact growBy_le newLen rounds _ (by omega)
theorem nextcap_le {need cap : Nat} (h : cap < need) : Builtin.nextslicecap need cap ≤ 2 * need + 1000 := by
  unfold Builtin.nextslicecap
  split
  · omega
  · split
    · omega
    · exact growBy_le need 4 cap (by omega)

theorem setBlk_self {b : Nat} {o : Obj} (h : w.heap[b]? = some o) : setBlk w b o = w := by
  cases w
  simp only [setBlk]
  congr 1
  simp only at h
  apply Array.ext_getElem?
  intro k
  rw [Array.getElem?_setIfInBounds]
  split
  · rename_i e
    subst e
    have := (Array.getElem?_eq_some_iff.1 h).1
    simp [this, h]
    rw [Array.getElem?_eq_getElem this] at h
    exact (Option.some.inj h).symm
  · rfl

def isIntD : TypeDesc → Bool | .int _ => true | _ => false
/-- What is appended: how many elements, which cells; a slice's, a string's, or zeros. -/
structure App (P : Program) (w : World) (elem t1 : TypeId) (size : Nat) (vx : Value) (n : Nat) (c : List Value) : Prop where
  run : ∃ d1, P.underlying t1 = some d1 ∧ (
    (isIntD d1 = false ∧ (Builtin.lenOf vx).run P w = .ok n w ∧ ∀ d, (Builtin.firstCells size n vx).run P (drewn w d) = .ok c.toArray (drewn w d)) ∨
    (isIntD d1 = true ∧ ∃ k, vx = .int k n ∧ (n : Int) ≤ 17592186044416 ∧
      ∃ i z, (∀ w, (typeInfo elem).run P w = .ok i w) ∧ (n : Int) * i.bytes ≤ 17592186044416 ∧ (∀ w, (zeroValue elem).run P w = .ok z w) ∧ c = if n * size = 0 then [] else (Builtin.zeroCells z.cells n).toList))

theorem append_room {t0 t1 elem : TypeId} {te : TI} (h0 : P.underlying t0 = some (.slice elem)) (hte : tiOf P elem = some te) {base : Option Addr} {sLen sCap n : Nat} {x : Value} {c : List Value} {ty0 : TypeId}
    (ha : App P w elem t1 te.size x n c) (hroom : sLen + n ≤ sCap) {w' : World}
    (hs : (match base with | some a => (storeCells (a.add (sLen * te.size)) c).run P w | none => .ok () w) = .ok () w') :
    (Builtin.append_ #[t0, t1] ty0 #[.slice base sLen sCap, x]).run P w = .ok (.slice base (sLen + n) sCap) w' := by
  obtain ⟨d1, h1, hA | hB⟩ := ha.run
  · obtain ⟨hz, hn, hc⟩ := hA
    have hc := hc w.drawn
    rw [show drewn w w.drawn = w from rfl] at hc
    unfold Builtin.append_
    simp only [List.getElem?_toArray, List.getElem?_cons_zero, List.getElem?_cons_succ, Sem.run_bind, run_under h0, run_size hte, Result.andThen, run_under h1, Sem.run_pure]
    cases d1
    case int => simp [isIntD] at hz
    all_goals
      simp only [Sem.run_bind, Result.andThen, Sem.run_pure, Bool.false_eq_true, if_false, hn, if_pos hroom, Bool.not_false, if_true, hc]
      cases base with
      | none => simp only at hs ⊢; cases hs; rfl
      | some a => simp only at hs ⊢; simp only [Sem.run_bind, hs, Result.andThen, Sem.run_pure]
  · obtain ⟨hz, k, rfl, hlim, i, z, hi, hib, hzv, hc⟩ := hB
    have hw : IntKind.i64.wrap (n : Int) = n := wrap_small (by omega) hlim
    unfold Builtin.append_
    simp only [List.getElem?_toArray, List.getElem?_cons_zero, List.getElem?_cons_succ, Sem.run_bind, run_under h0, run_size hte, Result.andThen, run_under h1, Sem.run_pure]
    cases d1 <;> simp [isIntD] at hz
    simp only [Sem.run_bind, Result.andThen, Sem.run_pure, if_true, asInt, asIntOf, hw,
      if_neg (show ¬ ((n : Int) < 0) by omega), hi, if_neg (show ¬ ((n : Int) * (i.bytes : Int) > 2 ^ 48) by omega), Int.toNat_natCast, if_pos hroom, Bool.not_true, Bool.false_eq_true, if_false]
    by_cases hz0 : n * te.size = 0
    · rw [if_pos hz0] at hc
      subst hc
      simp only [if_pos hz0, Sem.run_pure]
      cases base with
      | none => simp only at hs ⊢; cases hs; rfl
      | some a => simp only at hs ⊢; simp only [Sem.run_bind, hs, Result.andThen, Sem.run_pure]
    · rw [if_neg hz0] at hc
      subst hc
      simp only [if_neg hz0, Sem.run_bind, hzv, Result.andThen, Sem.run_pure]
      cases base with
      | none => simp only at hs ⊢; cases hs; rfl
      | some a => simp only at hs ⊢; simp only [Sem.run_bind, hs, Result.andThen, Sem.run_pure]

theorem append_grow {t0 t1 elem : TypeId} {te : TI} (h0 : P.underlying t0 = some (.slice elem)) (hte : tiOf P elem = some te) (hzs : te.zero.length = te.size) {base : Option Addr} {sLen sCap n : Nat} {x : Value} {c old : List Value} {ty0 : TypeId}
    (ha : App P w elem t1 te.size x n c) (hroom : ¬ sLen + n ≤ sCap) (hold : ∀ d, (Builtin.firstCells te.size sLen (.slice base sLen sCap)).run P (drewn w d) = .ok old.toArray (drewn w d))
    (hlim : ((sLen + n : Nat) : Int) * (te.bytes + 1) ≤ 17592186044416) (hby : te.bytes ≤ 65536) :
    ∃ newCap rest d, sLen + n ≤ newCap ∧ rest.length = (newCap - (sLen + n)) * te.size ∧
      (Builtin.append_ #[t0, t1] ty0 #[.slice base sLen sCap, x]).run P w = .ok (.slice (some ⟨w.heap.size, 0, none⟩) (sLen + n) newCap) (addBlk (drewn w d) (.cells (old ++ c ++ rest).toArray elem)) := by
  obtain ⟨i, z, hi, hisz, hib, hzv, hzc⟩ : ∃ i z, (∀ w, (typeInfo elem).run P w = .ok i w) ∧ i.size = te.size ∧ i.bytes = te.bytes ∧ (∀ w, (zeroValue elem).run P w = .ok z w) ∧ z.cells.toList = te.zero := by
    obtain ⟨d, i, z, hd, hi, hz, rfl⟩ := tiOf_parts hte
    exact ⟨i, z, fun w => by unfold typeInfo; simp [hi], rfl, rfl, fun w => by unfold zeroValue typeInfo; simp [hi, hz], rfl⟩
  have hzsz : z.cells.size = te.size := by have := congrArg List.length hzc; simp at this; omega
  have hmul : ((sLen + n : Nat) : Int) * (te.bytes + 1) = ((sLen + n : Nat) : Int) * te.bytes + ((sLen + n : Nat) : Int) := by rw [Int.mul_add, Int.mul_one]
  have hpos : 0 ≤ ((sLen + n : Nat) : Int) * te.bytes := Int.mul_nonneg (by omega) (by omega)
  have hneed : sLen + n ≤ 17592186044416 := by omega
  have hcapb : ¬ (Builtin.nextslicecap (sLen + n) sCap * te.bytes > 2 ^ 48) := by
    have h1 := nextcap_le (need := sLen + n) (cap := sCap) (by omega)
    have h2 : Builtin.nextslicecap (sLen + n) sCap * te.bytes ≤ (2 * (sLen + n) + 1000) * te.bytes := Nat.mul_le_mul_right _ h1
    have h3 : (2 * (sLen + n) + 1000) * te.bytes = 2 * ((sLen + n) * te.bytes) + 1000 * te.bytes := by rw [Nat.add_mul, Nat.mul_assoc]
    have h4 : (((sLen + n) * te.bytes : Nat) : Int) ≤ 17592186044416 := by rw [Int.natCast_mul]; omega
    omega
  have himax : ¬ (((sLen + n : Nat) : Int) > IntKind.i64.max ∧ True) := by
    have e : (17592186044416 : Int) ≤ IntKind.i64.max := by decide
    omega
  have himax' : ∀ p : Prop, ¬ (((sLen + n : Nat) : Int) > IntKind.i64.max ∧ p) := fun p h => himax ⟨h.1, trivial⟩
  let q : Question := .appendCap (sLen + n) sCap elem
  let newCap := q.cut (w.tape w.drawn q)
  have hnew : sLen + n ≤ newCap := Nat.le_add_right _ _
  let rest := (Builtin.zeroCells z.cells (newCap - (sLen + n))).toList
  have hrest : rest.length = (newCap - (sLen + n)) * te.size := by simp [rest, Builtin.zeroCells, hzsz]
  have hdr : ({ heap := w.heap, tape := w.tape, drawn := w.drawn + 1, os := w.os, output := w.output } : World) = drewn w (w.drawn + 1) := rfl
  have harr : (old ++ c ++ rest).toArray = old.toArray ++ c.toArray ++ Builtin.zeroCells z.cells (newCap - (sLen + n)) := by
    apply Array.ext'
    simp [rest]
  refine ⟨newCap, rest, w.drawn + 1, hnew, hrest, ?_⟩
  obtain ⟨d1, h1, hA | hB⟩ := ha.run
  · obtain ⟨hz, hn, hc⟩ := hA
    have hc := hc (w.drawn + 1)
    unfold Builtin.append_
    simp only [List.getElem?_toArray, List.getElem?_cons_zero, List.getElem?_cons_succ, Sem.run_bind, run_under h0, run_size hte, Result.andThen, run_under h1, Sem.run_pure]
    cases d1
    case int => simp [isIntD] at hz
    all_goals
      simp only [Sem.run_bind, Result.andThen, Sem.run_pure, Bool.false_eq_true, if_false, hn, if_neg hroom, Bool.not_false, if_true, hi, hib, himax', hcapb, run_choose, Question.forced, hdr, run_askRoom, hold, hc, hzv, newRow, run_newObj]
      rw [harr]
      rfl
  · obtain ⟨hz, k, rfl, hlim', i', z', hi', hib', hzv', hc⟩ := hB
    have hzz : z' = z := by have := (hzv' w).symm.trans (hzv w); cases this; rfl
    have hii : i' = i := by have := (hi' w).symm.trans (hi w); cases this; rfl
    subst hzz; subst hii
    have hw : IntKind.i64.wrap (n : Int) = n := wrap_small (by omega) hlim'
    unfold Builtin.append_
    simp only [List.getElem?_toArray, List.getElem?_cons_zero, List.getElem?_cons_succ, Sem.run_bind, run_under h0, run_size hte, Result.andThen, run_under h1, Sem.run_pure]
    cases d1 <;> simp [isIntD] at hz
    simp only [Sem.run_bind, Result.andThen, Sem.run_pure, if_true, asInt, asIntOf, hw,
      if_neg (show ¬ ((n : Int) < 0) by omega), hi, if_neg (show ¬ ((n : Int) * (te.bytes : Int) > 2 ^ 48) by rw [hib] at hib'; omega), Int.toNat_natCast, if_neg hroom, Bool.not_true, Bool.false_eq_true, if_false,
      hib, himax', hcapb, run_choose, Question.forced, hdr, run_askRoom, hold, hzv, newRow, run_newObj]
    by_cases hz0 : n * te.size = 0
    · rw [if_pos hz0] at hc
      subst hc
      simp only [if_pos hz0, Sem.run_pure, Sem.run_bind, hzv, Result.andThen, run_newObj]
      rw [harr]
      rfl
    · rw [if_neg hz0] at hc
      subst hc
      simp only [if_neg hz0, Sem.run_bind, hzv, Result.andThen, Sem.run_pure, run_newObj]
      rw [harr]
      simp only [Array.toArray_toList]
      rfl

theorem zeroCells_get (z : Array Value) (sz n i j : Nat) (hz : z.size = sz) (hi : i < n) (hj : j < sz) : (Builtin.zeroCells z n).toList[i * sz + j]? = some (z[j]'(by omega)) := by
  subst hz
  exact range_zero_get z z.size n rfl (by omega) i j hi hj

/-- What the walk appends is what the model appends. -/
theorem app_of (hty : TyOK P ty) (hH : HOK w Z m H) {elem t1 : TypeId} {te tj : TI} (hte : ty elem = some te) (htj : ty t1 = some tj) (h0 : te.size ≠ 0) (hzl : te.zero.length = te.size) (hone : (te.isAgg || te.size == 1) = true)
    {x : U} {vx : Value} (hx : RepU w Z m H x vx) {n : Nat} {g : Nat → F}
    (hxs : appElems te tj H x = some (n, g)) (hg0 : (g 0).cells.length = te.size ∨ n = 0) (hlim : (n : Int) * (te.bytes + 1) ≤ 17592186044416) :
    ∃ c, App P w elem t1 te.size vx n c ∧ c.length = n * te.size ∧ (∀ i, i < n → (g i).cells.length = te.size) ∧
      ∀ (i j : Nat) (u : F), i < n → (g i).cells[j]? = some u → cellF u = true ∧ ∃ v, c[i * te.size + j]? = some v ∧ RepF w Z u v := by
  obtain ⟨d1, hd1, hu1⟩ := under_of (hty.2 _ _ htj)
  have hmul : (n : Int) * (te.bytes + 1) = (n : Int) * te.bytes + n := by rw [Int.mul_add, Int.mul_one]
  have hpos : 0 ≤ (n : Int) * te.bytes := Int.mul_nonneg (by omega) (by omega)
  unfold appElems at hxs
  split at hxs
  · rename_i k k' q huk
    rw [huk] at hu1
    obtain rfl := ukOf_int hu1.symm
    split at hxs
    · rename_i hq
      cases hzf : zeroF te with
      | none => rw [hzf] at hxs; cases hxs
      | some z =>
        rw [hzf] at hxs
        simp only [Option.bind_some] at hxs
        split at hxs
        · rename_i hgood
          cases hxs
          obtain rfl := int_rep hx
          obtain ⟨hcl, hzr⟩ := zeroF_rep hH hzf hzl hone hgood
          obtain ⟨i, zv, hi, hisz, hib, hzv, hzc⟩ : ∃ i z, (∀ w, (typeInfo elem).run P w = .ok i w) ∧ i.size = te.size ∧ i.bytes = te.bytes ∧ (∀ w, (zeroValue elem).run P w = .ok z w) ∧ z.cells.toList = te.zero := by
            obtain ⟨d, i, z, hd, hi, hz, e⟩ := tiOf_parts (hty.2 _ _ hte)
            rw [e]
            exact ⟨i, z, fun w => by unfold typeInfo; simp [hi], rfl, rfl, fun w => by unfold zeroValue typeInfo; simp [hi, hz], rfl⟩
          have hzsz : zv.cells.size = te.size := by have := congrArg List.length hzc; simp at this; omega
          have hqn : ((q.toNat : Nat) : Int) = q := Int.toNat_of_nonneg hq
          refine ⟨if q.toNat * te.size = 0 then [] else (Builtin.zeroCells zv.cells q.toNat).toList, ⟨_, hd1, .inr ⟨rfl, k', by rw [hqn], by omega, i, zv, hi, by rw [hib]; omega, hzv, rfl⟩⟩, ?_, fun _ _ => hcl, ?_⟩
          · split
            · rename_i h; simp [h]
            · simp [Builtin.zeroCells, hzsz]
          · intro i' j u hi' hu
            replace hu : z.cells[j]? = some u := hu
            have hj : j < te.size := by have := (List.getElem?_eq_some_iff.1 hu).1; omega
            have hne : ¬ q.toNat * te.size = 0 := by
              intro h
              rcases Nat.mul_eq_zero.1 h with h | h <;> omega
            obtain ⟨hk, v, hv, hr⟩ := hzr j u hu
            rw [if_neg hne]
            refine ⟨hk, _, zeroCells_get zv.cells te.size _ i' j hzsz hi' hj, ?_⟩
            have : zv.cells[j]'(by omega) = v := by
              rw [← hzc] at hv
              have e : zv.cells.toList[j]? = some (zv.cells[j]'(by omega)) := by simp [show j < zv.cells.size by omega]
              rw [e] at hv; exact Option.some.inj hv
            rw [this]; exact hr
        · cases hxs
    · cases hxs
  · cases hxs
  · rename_i hni1 hni2
    obtain ⟨c, hc⟩ := elems_ok (P := P) hH rfl hx hxs h0 hg0
    refine ⟨c, ⟨d1, hd1, .inl ⟨?_, hc.lenOf, fun d => ?_⟩⟩, hc.len, hc.gl, hc.rep⟩
    · cases hd : d1 with
      | int k => rw [hd] at hu1; first | exact absurd hu1 (hni2 k) | exact absurd hu1 (hni1 k) | exact (hni1 k hu1).elim | exact (hni2 k hu1).elim
      | _ => rfl
    · have := hc.first d n (Nat.le_refl _)
      rw [← hc.len, List.take_length] at this
      exact this

theorem one_eq {m i : Nat} (g : Nat → F) (h : i < m) : one m g i = g i := by
  unfold one
  split
  · obtain rfl : i = 0 := by omega
    rfl
  · rfl

theorem append_sound (hty : TyOK P ty) (hH : HOK w Z m st.heap) {slot : Option Nat} (hs : SlotOK st.heap slot) {t0 t1 ty0 : TypeId} {s x : U} {vs vx : Value} (hs' : RepU w Z m st.heap s vs) (hx : RepU w Z m st.heap x vx)
    (h : evAppend ty slot t0 t1 s x st K = some r) :
    ∃ u st', K u st' = some r ∧ st'.tmps = st.tmps ∧ ∃ v w' m', (Builtin.append_ #[t0, t1] ty0 #[vs, vx]).run P w = .ok v w' ∧ Ext w Z m st.heap w' Z m' st'.heap ∧ HOK w' Z m' st'.heap ∧ RepU w' Z m' st'.heap u v := by
  unfold evAppend at h
  split at h
  · rename_i ti tj hti htj
    obtain ⟨d, hd, hu⟩ := under_of (hty.2 _ _ hti)
    split at h
    · rename_i e huk
      rw [huk] at hu
      obtain rfl := ukOf_slice hu.symm
      split at h
      · rename_i te hte
        split at h
        · cases h
        · rename_i n g hxs
          replace h := bsel_some h; obtain ⟨h1, h⟩ := h
          replace h := bsel_some h; obtain ⟨h2, h⟩ := h
          simp only [Bool.and_eq_true, bne_iff_ne, ne_eq, beq_iff_eq, decide_eq_true_eq] at h1
          obtain ⟨⟨⟨h0, hzl⟩, hone⟩, hby⟩ := h1
          simp only [Bool.or_eq_true, decide_eq_true_eq] at h2
          have hlimit : (limit : Int) = 17592186044416 := limit_eq
          split at h
          · -- onto an empty one
            cases hs' with
            | nils A =>
            by_cases hn : n = 0
            · subst hn
              simp only [decide_true, bsel_true] at h
              obtain ⟨c, happ, hcl, hgl, hgr⟩ := app_of hty hH hte htj h0 hzl hone hx hxs h2 (by simp)
              have hc0 : c = [] := List.length_eq_zero_iff.1 (by simpa using hcl)
              subst hc0
              refine ⟨_, _, h, rfl, _, w, m, append_room hd (hty.2 _ _ hte) happ (Nat.le_refl _) ?_, Ext.refl _ _ _ _, hH, .nils _⟩
              cases A <;> simp [storeCells]
            · rw [show decide (n = 0) = false by simpa using hn, bsel_false] at h
              replace h := bsel_some h; obtain ⟨h3, h⟩ := h
              have h3 := of_decide_eq_true h3
              rw [hlimit] at h3
              obtain ⟨c, happ, hcl, hgl, hgr⟩ := app_of hty hH hte htj h0 hzl hone hx hxs h2 h3
              replace hgl : ∀ i, i < n → (one n g i).cells.length = te.size := fun i hi => by rw [one_eq g hi]; exact hgl i hi
              replace hgr : ∀ (i j : Nat) (u : F), i < n → (one n g i).cells[j]? = some u → cellF u = true ∧ ∃ v, c[i * te.size + j]? = some v ∧ RepF w Z u v := fun i j u hi hu => hgr i j u hi (by rw [← one_eq g hi]; exact hu)
              obtain ⟨newCap, rest, dr, hcap, hrl, hrun⟩ := append_grow (ty0 := ty0) (base := A) (sLen := 0) (sCap := 0) (old := []) hd (hty.2 _ _ hte) hzl happ (by omega)
                (fun d => by cases A <;> simp [Builtin.firstCells, loadCells, loadCellsFrom]) (by simpa using h3) hby
              simp only [Nat.zero_add, List.nil_append] at hrun hcap hrl
              have hE1 := ext_drew (w := w) (Z := Z) (m := m) (H := st.heap) dr
              have hH1 := hok_drew dr hH
              obtain ⟨m', p1, p2, p3⟩ := row_sound hH1 hs e te.size n newCap (one n g) (c ++ rest) h0 hcap (by
                  rw [List.length_append, hcl, hrl, ← Nat.add_mul]; congr 1; omega)
                hgl (fun i j u hi hu => by
                  obtain ⟨hk, v, hv, hr⟩ := hgr i j u hi hu
                  refine ⟨hk, v, ?_, RepF.mono (w := w) (w' := drewn w dr) (fun _ h => h) (fun _ _ => rfl) hr⟩
                  rw [List.getElem?_append_left (List.getElem?_eq_some_iff.1 hv).1]; exact hv)
              exact ⟨_, _, h, new_tmps _ _ _, _, _, m', hrun, hE1.trans p1, p2, p3⟩
          · -- onto an own one
            rename_i o gen off len
            split at h
            · rename_i sz nn gg hob
              replace h := bsel_some h; obtain ⟨_, h⟩ := h
              replace h := bsel_some h; obtain ⟨h3, h⟩ := h
              replace h := bsel_some h; obtain ⟨h4, h⟩ := h
              replace h := bsel_some h; obtain ⟨h5, h⟩ := h
              replace h := bsel_some h; obtain ⟨h6, h⟩ := h
              replace h := bsel_some h; obtain ⟨h7, h⟩ := h
              obtain rfl := of_decide_eq_true h3
              obtain rfl := of_decide_eq_true h4
              obtain rfl := of_decide_eq_true h5
              obtain rfl := of_decide_eq_true h6
              have h7 := of_decide_eq_true h7
              rw [hlimit] at h7
              cases hs' with
              | hs _ _ _ _ _ hone' ho hg hv =>
              obtain ⟨hle, A, c0, rfl, hc, hA, hcap⟩ := hv _ _ _ hob rfl
              have hb := hH.ob o _ hob
              obtain ⟨_, cc, el, fr, hblk, hf, hsz, hgl0, hr0⟩ := hb
              have hnlim : (n : Int) * (te.bytes + 1) ≤ 17592186044416 := by
                have e1 : ((len + n : Nat) : Int) * (te.bytes + 1) = (len : Int) * (te.bytes + 1) + (n : Int) * (te.bytes + 1) := by rw [Int.natCast_add, Int.add_mul]
                have : 0 ≤ (len : Int) * (te.bytes + 1) := Int.mul_nonneg (by omega) (by omega)
                omega
              obtain ⟨c, happ, hcl, hgl, hgr⟩ := app_of hty hH hte htj h0 hzl hone hx hxs h2 hnlim
              replace hgl : ∀ i, i < n → (one n g i).cells.length = te.size := fun i hi => by rw [one_eq g hi]; exact hgl i hi
              replace hgr : ∀ (i j : Nat) (u : F), i < n → (one n g i).cells[j]? = some u → cellF u = true ∧ ∃ v, c[i * te.size + j]? = some v ∧ RepF w Z u v := fun i j u hi hu => hgr i j u hi (by rw [← one_eq g hi]; exact hu)
              have hlive : (HO.arr te.size len gg).live = true := rfl
              by_cases hroom : len + n ≤ c0
              · -- there is room
                have hin : len * te.size + n * te.size ≤ cc.size := by
                  rw [blockCells_of hblk] at hcap
                  have : (len + n) * te.size ≤ (0 + c0) * te.size := Nat.mul_le_mul_right _ (by omega)
                  rw [Nat.add_mul] at this
                  omega
                have hone2 : ∀ v ∈ c, v.oneCell' = true := by
                  intro v hv
                  obtain ⟨q, hq, rfl⟩ := List.getElem_of_mem hv
                  rw [hcl] at hq
                  have hi : q / te.size < n := Nat.div_lt_of_lt_mul (by rw [Nat.mul_comm]; exact hq)
                  have hj : q % te.size < te.size := Nat.mod_lt _ (by omega)
                  have hq' : q / te.size * te.size + q % te.size = q := by rw [Nat.mul_comm]; exact Nat.div_add_mod q te.size
                  have hu : (one n g (q / te.size)).cells[q % te.size]? = some ((one n g (q / te.size)).cells[q % te.size]'(by rw [hgl _ hi]; exact hj)) := List.getElem?_eq_getElem _
                  obtain ⟨hk, v, hv', hr⟩ := hgr _ _ _ hi hu
                  rw [hq'] at hv'
                  have : c[q] = v := by rw [List.getElem?_eq_getElem (by omega)] at hv'; exact Option.some.inj hv'
                  rw [this]; exact hr.one hk
                have hst : (match A with | some a => (storeCells (a.add (len * te.size)) c).run P w | none => .ok () w) = .ok () (setBlk w (m o) (.cells (wr cc.toList (len * te.size) c).toArray el fr)) := by
                  by_cases hc0 : c0 = 0
                  · have hn0 : n = 0 := by omega
                    have hl0 : len = 0 := by omega
                    subst hn0
                    have hce : c = [] := List.length_eq_zero_iff.1 (by simpa using hcl)
                    subst hce
                    have : setBlk w (m o) (.cells (wr cc.toList (len * te.size) []).toArray el fr) = w := setBlk_self (by simpa [wr] using hblk)
                    rw [this]
                    cases A <;> simp [storeCells]
                  · rw [hA hc0]
                    simp only [Nat.zero_mul, add_of, Nat.zero_add]
                    have := store_cells (P := P) (b := m o) (off := len * te.size) (el := el) (fr := fr) c 0 w cc.toList (by simpa using hblk) (by simp; omega) (fun j hj => hf j (by simpa using hj)) hone2
                    simpa using this
                have hsz2 : (wr cc.toList (len * te.size) c).length = cc.size := by simp [wr_length]
                have hE : Ext w Z m st.heap (setBlk w (m o) (.cells (wr cc.toList (len * te.size) c).toArray el fr)) Z m (st.heap.set o (.arr te.size (len + n) fun j => if j < len then gg j else one n g (j - len))) := by
                  refine ext_set hH hob rfl ?_
                  simp only [Evol, true_and]
                  refine ⟨by omega, fun _ => ?_⟩
                  simp only [blockCells, setBlk_get, hblk]
                  simp [blk_lt hblk, hsz2]
                have hgget : (setBlk w (m o) (.cells (wr cc.toList (len * te.size) c).toArray el fr)).heap[m o]? = some (.cells (wr cc.toList (len * te.size) c).toArray el fr) := by
                  rw [setBlk_get]; simp [blk_lt hblk]
                have hlt := (List.getElem?_eq_some_iff.1 hob).1
                refine ⟨_, _, h, rfl, _, _, m, append_room hd (hty.2 _ _ hte) happ hroom hst, hE, hok_set hH hob rfl hE ?_, ?_⟩
                · refine ⟨h0, _, el, fr, hgget, fun j hj => ?_, by simp only [List.size_toArray, hsz2, Nat.add_mul]; omega, fun i hi => ?_, fun i j u hi hu => ?_⟩
                  · rw [frozen_blk hblk hgget]; exact hf j (by simpa [hsz2] using hj)
                  · simp only
                    split
                    · rename_i h; exact hgl0 _ h
                    · exact hgl _ (by omega)
                  · have e : ∀ q : Nat, (wr cc.toList (len * te.size) c).toArray[q]? = (wr cc.toList (len * te.size) c)[q]? := by simp
                    rw [e, wr_get _ _ _ _ (by simp; omega), hcl]
                    simp only at hu
                    split at hu
                    · rename_i hil
                      have hj : j < te.size := by have := (List.getElem?_eq_some_iff.1 hu).1; rwa [hgl0 _ hil] at this
                      have : (i + 1) * te.size ≤ len * te.size := Nat.mul_le_mul_right _ hil
                      rw [Nat.add_mul] at this
                      rw [if_neg (by omega)]
                      obtain ⟨hk, v, hv', hr'⟩ := hr0 _ _ _ hil hu
                      exact ⟨hk, v, by simpa using hv', hr'.mono hE.sub hE.kept⟩
                    · rename_i hil
                      have hj : j < te.size := by have := (List.getElem?_eq_some_iff.1 hu).1; rwa [hgl _ (by omega)] at this
                      obtain ⟨hk, v, hv', hr'⟩ := hgr (i - len) j u (by omega) hu
                      have e1 : (i - len) * te.size + len * te.size = i * te.size := by rw [← Nat.add_mul]; congr 1; omega
                      have e2 : (i - len + 1) * te.size ≤ n * te.size := Nat.mul_le_mul_right _ (by omega)
                      rw [Nat.add_mul] at e2
                      rw [if_pos (by omega), show i * te.size + j - len * te.size = (i - len) * te.size + j by omega]
                      exact ⟨hk, v, hv', hr'.mono hE.sub hE.kept⟩
                · refine .hs _ _ _ _ _ rfl ⟨_, List.getElem?_set_self hlt, by simp⟩ (fun sz' n' g' e1 => ?_) fun sz' n' g' e1 _ => ?_
                  · rw [List.getElem?_set_self hlt] at e1; cases e1; exact Nat.le_refl _
                  · rw [List.getElem?_set_self hlt] at e1; cases e1
                    refine ⟨by omega, _, _, rfl, hroom, hA, ?_⟩
                    simp only [blockCells, hgget, List.size_toArray, hsz2]
                    rw [blockCells_of hblk] at hcap
                    exact hcap
              · -- a new block
                have hnpos : 0 < n := by omega
                have hold : ∀ d, (Builtin.firstCells te.size len (.slice A len c0)).run P (drewn w d) = .ok (cc.toList.take (len * te.size)).toArray (drewn w d) := by
                  intro d
                  by_cases hl0 : len = 0
                  · subst hl0
                    cases A <;> simp [Builtin.firstCells, loadCells, loadCellsFrom]
                  · rw [hA (by omega)]
                    have := firstCells_slice (P := P) (w := drewn w d) (a := ⟨m o, 0, none⟩) (n := len) (c := c0) (sz := te.size) (cs := cc.toList.take (len * te.size)) (by simp; omega) (fun j v hj => by
                      rw [List.getElem?_take] at hj
                      split at hj
                      · rw [add_of]
                        simp only [World.cell?, drewn, hblk, Nat.zero_add]
                        simpa using hj
                      · cases hj) len len (Nat.le_refl _)
                    simp only [Nat.zero_mul]
                    rw [List.take_take, Nat.min_self] at this
                    exact this
                obtain ⟨newCap, rest, dr, hcap', hrl, hrun⟩ := append_grow (ty0 := ty0) (base := A) (sLen := len) (sCap := c0) hd (hty.2 _ _ hte) hzl happ hroom hold h7 hby
                have hE1 := ext_drew (w := w) (Z := Z) (m := m) (H := st.heap) dr
                have hH1 := hok_drew dr hH
                have hlt := (List.getElem?_eq_some_iff.1 hob).1
                have hE2 := ext_move (g' := fun j => if j < len then gg j else one n g (j - len)) (c := .cells (cc.toList.take (len * te.size) ++ c ++ rest).toArray e) hH1 hob (show len < len + n by omega)
                have hlen1 : (cc.toList.take (len * te.size)).length = len * te.size := by simp; omega
                have hlenall : (cc.toList.take (len * te.size) ++ c ++ rest).length = newCap * te.size := by
                  rw [List.length_append, List.length_append, hlen1, hcl, hrl, ← Nat.add_mul, ← Nat.add_mul]; congr 1; omega
                refine ⟨_, _, h, rfl, _, _, _, hrun, hE1.trans hE2, hok_move hH1 hob (by omega) ?_, ?_⟩
                · refine ⟨h0, _, e, (0, 0), addBlk_new _ _, fun j _ => frozen_fresh _ _ _ _, ?_, fun i hi => ?_, fun i j u hi hu => ?_⟩
                  · simp only [List.size_toArray, hlenall]; exact Nat.mul_le_mul_right _ hcap'
                  · simp only
                    split
                    · rename_i h; exact hgl0 _ h
                    · exact hgl _ (by omega)
                  · simp only at hu
                    have e3 : ∀ q : Nat, (cc.toList.take (len * te.size) ++ c ++ rest).toArray[q]? = (cc.toList.take (len * te.size) ++ (c ++ rest))[q]? := by simp [List.append_assoc]
                    rw [e3]
                    split at hu
                    · rename_i hil
                      have hj : j < te.size := by have := (List.getElem?_eq_some_iff.1 hu).1; rwa [hgl0 _ hil] at this
                      have : (i + 1) * te.size ≤ len * te.size := Nat.mul_le_mul_right _ hil
                      rw [Nat.add_mul] at this
                      obtain ⟨hk, v, hv', hr'⟩ := hr0 _ _ _ hil hu
                      refine ⟨hk, v, ?_, (RepF.mono (w := w) (w' := drewn w dr) (Z := Z) (Z' := Z) (fun _ h => h) (fun _ _ => rfl) hr').mono hE2.sub hE2.kept⟩
                      rw [List.getElem?_append_left (by omega), List.getElem?_take, if_pos (by omega)]
                      simpa using hv'
                    · rename_i hil
                      have hj : j < te.size := by have := (List.getElem?_eq_some_iff.1 hu).1; rwa [hgl _ (by omega)] at this
                      obtain ⟨hk, v, hv', hr'⟩ := hgr (i - len) j u (by omega) hu
                      have e1 : (i - len) * te.size + len * te.size = i * te.size := by rw [← Nat.add_mul]; congr 1; omega
                      refine ⟨hk, v, ?_, (RepF.mono (w := w) (w' := drewn w dr) (Z := Z) (Z' := Z) (fun _ h => h) (fun _ _ => rfl) hr').mono hE2.sub hE2.kept⟩
                      rw [List.getElem?_append_right (by omega), hlen1, show i * te.size + j - len * te.size = (i - len) * te.size + j by omega, List.getElem?_append_left (List.getElem?_eq_some_iff.1 hv').1]
                      exact hv'
                · refine .hs _ _ _ _ _ rfl ⟨_, List.getElem?_set_self hlt, by simp⟩ (fun sz' n' g' e1 => ?_) fun sz' n' g' e1 _ => ?_
                  · rw [List.getElem?_set_self hlt] at e1; cases e1; exact Nat.le_refl _
                  · rw [List.getElem?_set_self hlt] at e1; cases e1
                    refine ⟨by omega, _, _, rfl, hcap', fun _ => by simp [drewn], ?_⟩
                    simp only [if_true, blockCells]
                    rw [addBlk_new]
                    simp only [List.size_toArray, hlenall, Nat.zero_add]
                    exact Nat.le_refl _
            · cases h
          · cases h
      · cases h
    · cases h
  · cases h
end
end Go.Proofs.Ytjbilidfnfnpfaa.R
