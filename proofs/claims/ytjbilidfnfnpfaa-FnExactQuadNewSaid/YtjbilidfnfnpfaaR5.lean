/-
  The own reflective walk, part 5: freezing, stores, new objects.
-/
import Derived.Test.YtjbilidfnfnpfaaR4
namespace Go.Proofs.Ytjbilidfnfnpfaa.R
open Go

section
variable {P : Program} {w : World} {Z : Nat → Prop} {m : Nat → Nat} {H : List HO}

theorem toFs_get {G : List HO} : ∀ (us : List U) (xs : List F), toFs G us = some xs → us.length = xs.length ∧ ∀ (j : Nat) (u : U) (x : F), us[j]? = some u → xs[j]? = some x → toF G u = some x
  | [], xs, h => by
    simp only [toFs, Option.some.injEq] at h
    subst h
    exact ⟨rfl, fun j u x hu => by simp at hu⟩
  | u :: us, xs, h => by
    simp only [toFs] at h
    split at h
    · rename_i x xs' h1 h2
      cases h
      obtain ⟨hl, hg⟩ := toFs_get us xs' h2
      refine ⟨by simp [hl], fun j u' x' hu hx => ?_⟩
      cases j with
      | zero => simp at hu hx; subst hu; subst hx; exact h1
      | succ j => simp at hu hx; exact hg j u' x' hu hx
    · cases h

theorem objsAll_mem : ∀ (us : List U) (u : U) (o : Nat), u ∈ us → o ∈ objs u → o ∈ objsAll us
  | u' :: us, u, o, hu, ho => by
    simp only [objsAll, List.mem_append]
    rcases List.mem_cons.1 hu with rfl | hu
    · exact .inl ho
    · exact .inr (objsAll_mem us u o hu ho)

theorem toF_rep {G : List HO} (hH : HOK w Z m H) (hG : ∀ (o : Nat) (ob : HO), G[o]? = some ob → H[o]? = some ob) {u : U} {v : Value} (h : RepU w Z m H u v) :
    ∀ {x : F}, toF G u = some x → RepF w (fun b => Z b ∨ ∃ o, o ∈ objs u ∧ liveAt G o ∧ m o = b) x v := by
  induction h with
  | f y v h => intro x hx; simp only [toF, Option.some.injEq] at hx; subst hx; exact h.mono (fun _ h => .inl h) (fun _ _ => rfl)
  | agg us vs hl hr ih =>
    intro x hx
    simp only [toF] at hx
    cases hx' : toFs G us with
    | none => rw [hx'] at hx; cases hx
    | some xs =>
      rw [hx'] at hx; cases hx
      obtain ⟨hl2, hg⟩ := toFs_get us xs hx'
      refine .agg _ _ (by omega) fun j y v hy hv => ?_
      have hj := (List.getElem?_eq_some_iff.1 hy).1
      have hu : us[j]? = some us[j] := List.getElem?_eq_getElem (by omega)
      refine (ih j us[j] v hu hv (hg j us[j] y hu hy)).mono ?_ (fun _ _ => rfl)
      rintro b (hb | ⟨o, ho, hlv, e⟩)
      · exact .inl hb
      · exact .inr ⟨o, by simp only [objs]; exact objsAll_mem us _ o (List.getElem_mem _) ho, hlv, e⟩
  | tup us vs hl hr ih =>
    intro x hx
    simp only [toF] at hx
    cases hx' : toFs G us with
    | none => rw [hx'] at hx; cases hx
    | some xs =>
      rw [hx'] at hx; cases hx
      obtain ⟨hl2, hg⟩ := toFs_get us xs hx'
      refine .tup _ _ (by omega) fun j y v hy hv => ?_
      have hj := (List.getElem?_eq_some_iff.1 hy).1
      have hu : us[j]? = some us[j] := List.getElem?_eq_getElem (by omega)
      refine (ih j us[j] v hu hv (hg j us[j] y hu hy)).mono ?_ (fun _ _ => rfl)
      rintro b (hb | ⟨o, ho, hlv, e⟩)
      · exact .inl hb
      · exact .inr ⟨o, by simp only [objs]; exact objsAll_mem us _ o (List.getElem_mem _) ho, hlv, e⟩
  | hs o gen off len v h1 ho hg hv =>
    intro x hx
    simp only [toF] at hx
    split at hx
    · rename_i sz n g hob
      split at hx
      · rename_i hgen
        cases hx
        obtain ⟨hle, A, c, rfl, hc, hA, hcap⟩ := hv sz n g (hG _ _ hob) hgen
        obtain ⟨h0, cc, el, fr, hb, hf, hsz, hgl, hr⟩ := hH.ob o _ (hG _ _ hob)
        rw [show offF off g = fun j => g (off + j) from funext fun j => offF_app off g j]
        refine .sl len _ A c sz ⟨m o, off * sz, none⟩ (fun k => cc.getD (off * sz + k) undef) hc (fun i hi => hgl _ (by omega)) (fun i j u hi hu => (hr _ j u (by omega) hu).1) ?_ ?_ ?_
        · intro hne
          exact ⟨hA (by omega), .inr ⟨o, by simp [objs], ⟨_, hob, rfl⟩, rfl⟩, rfl⟩
        · intro i j u hi hu
          obtain ⟨_, v', hv', _⟩ := hr _ j u (by omega) hu
          have hjn := (Array.getElem?_eq_some_iff.1 hv').1
          simp only [World.cell?, hb]
          rw [show off * sz + (i * sz + j) = (off + i) * sz + j by rw [Nat.add_mul]; omega]
          simp [hjn]
        · intro i j u hi hu
          obtain ⟨_, v', hv', hr'⟩ := hr _ j u (by omega) hu
          rw [show off * sz + (i * sz + j) = (off + i) * sz + j by rw [Nat.add_mul]; omega]
          have : cc.getD ((off + i) * sz + j) undef = v' := by
            obtain ⟨hjn, e⟩ := Array.getElem?_eq_some_iff.1 hv'
            simp [Array.getD, hjn, e]
          rw [this]
          exact hr'.mono (fun _ h => .inl h) (fun _ _ => rfl)
      · cases hx
    · cases hx
  | hp => intro x hx; simp [toF] at hx
  | ep => intro x hx; simp [toF] at hx
  | va => intro x hx; simp [toF] at hx
  | nilp => intro x hx; simp [toF] at hx
  | nils A =>
    intro x hx
    simp only [toF, Option.some.injEq] at hx
    subst hx
    exact .sl 0 _ A 0 0 default (fun _ => undef) (Nat.le_refl _) (fun i hi => by omega) (fun i j u hi => by omega) (fun h => absurd rfl h) (fun i j u hi => by omega) (fun i j u hi => by omega)
  | fn => intro x hx; simp [toF] at hx
  | nilfn => intro x hx; simp [toF] at hx
  | undef => intro x hx; simp [toF] at hx
  | bad => intro x hx; simp [toF] at hx

theorem toF_rep_nil (hH : HOK w Z m H) {u : U} {v : Value} (h : RepU w Z m H u v) {x : F} (hx : toF [] u = some x) : RepF w Z x v :=
  (toF_rep (G := []) hH (fun o ob h => by simp at h) h hx).mono (fun b hb => by
    rcases hb with hb | ⟨o, _, ⟨ob, h, _⟩, _⟩
    · exact hb
    · simp at h) (fun _ _ => rfl)

theorem setUs_length (us : List U) : ∀ (cs : List U) (off : Nat), (setUs cs off us).length = cs.length := by
  induction us with
  | nil => intro c off; rfl
  | cons v vs ih => intro c off; simp [setUs, ih]
theorem setUs_get (us : List U) : ∀ (cs : List U) (off j : Nat), off + us.length ≤ cs.length →
    (setUs cs off us)[j]? = if off ≤ j ∧ j < off + us.length then us[j - off]? else cs[j]? := by
  induction us with
  | nil => intro c off j _; simp [setUs]; omega
  | cons v vs ih =>
    intro c off j h
    simp only [List.length_cons] at h
    simp only [setUs]
    rw [ih _ _ _ (by simp; omega)]
    simp only [List.length_cons]
    by_cases h1 : off + 1 ≤ j ∧ j < off + 1 + vs.length
    · rw [if_pos h1, if_pos (by omega)]
      rw [show j - off = (j - (off + 1)) + 1 by omega]
      simp
    · rw [if_neg h1]
      by_cases h2 : j = off
      · subst h2
        rw [if_pos (by omega)]
        simp [show j < c.length by omega]
      · rw [if_neg (by omega), List.getElem?_set_ne (by omega)]
theorem setFs_length (us : List F) : ∀ (cs : List F) (off : Nat), (setFs cs off us).length = cs.length := by
  induction us with
  | nil => intro c off; rfl
  | cons v vs ih => intro c off; simp [setFs, ih]
theorem setFs_get (us : List F) : ∀ (cs : List F) (off j : Nat), off + us.length ≤ cs.length →
    (setFs cs off us)[j]? = if off ≤ j ∧ j < off + us.length then us[j - off]? else cs[j]? := by
  induction us with
  | nil => intro c off j _; simp [setFs]; omega
  | cons v vs ih =>
    intro c off j h
    simp only [List.length_cons] at h
    simp only [setFs]
    rw [ih _ _ _ (by simp; omega)]
    simp only [List.length_cons]
    by_cases h1 : off + 1 ≤ j ∧ j < off + 1 + vs.length
    · rw [if_pos h1, if_pos (by omega)]
      rw [show j - off = (j - (off + 1)) + 1 by omega]
      simp
    · rw [if_neg h1]
      by_cases h2 : j = off
      · subst h2
        rw [if_pos (by omega)]
        simp [show j < c.length by omega]
      · rw [if_neg (by omega), List.getElem?_set_ne (by omega)]

theorem put_cells {x : F} {off : Nat} {xs : List F} (h : isAggF x = true ∨ (x.cells.length = 1 ∧ off = 0 ∧ xs.length = 1)) (hc : xs.all cellF = true) : (putCells x off xs).cells = setFs x.cells off xs := by
  rcases h with h | ⟨h1, rfl, h3⟩
  · cases x <;> first | (simp [isAggF] at h; done) | rfl
  · match xs, h3 with
    | [y], _ =>
      have hy : cellF y = true := by simpa using hc
      have hyc : y.cells = [y] := by cases y <;> first | rfl | simp [cellF] at hy
      cases x with
      | agg cs => rfl
      | _ => simp [putCells, setFs, F.cells] at hyc ⊢; exact hyc

theorem putEl_cells {ag : Bool} {sz n off : Nat} {x : F} {xs : List F} (h : isAggF x = true ∨ (x.cells.length = 1 ∧ off = 0 ∧ xs.length = 1)) (hc : xs.all cellF = true) (hx : x.cells.length = sz) (hin : off + n ≤ sz) (hl : xs.length = n) :
    (putEl ag (Nat.beq n sz && (ag || Nat.beq sz 1)) x off xs).cells = setFs x.cells off xs := by
  cases hw : (Nat.beq n sz && (ag || Nat.beq sz 1)) with
  | false => exact put_cells h hc
  | true =>
    simp only [Bool.and_eq_true, Bool.or_eq_true] at hw
    have h1 := Nat.eq_of_beq_eq_true hw.1
    have h0 : off = 0 := by omega
    subst h0
    have e : setFs x.cells 0 xs = xs := by
      apply List.ext_getElem?
      intro j
      rw [setFs_get _ _ _ _ (by omega)]
      split
      · simp
      · rw [List.getElem?_eq_none (by omega), List.getElem?_eq_none (by omega)]
    rw [e]
    simp only [putEl]
    cases ag with
    | true => rfl
    | false =>
      have h2 : sz = 1 := by
        rcases hw.2 with h2 | h2
        · cases h2
        · exact Nat.eq_of_beq_eq_true h2
      have h3 : xs.length = 1 := by omega
      match xs, h3 with
      | [y], _ =>
        have hy : cellF y = true := by simpa using hc
        cases y <;> first | rfl | simp [cellF] at hy

theorem cellsAll_rep {u : U} {v : Value} (h : RepU w Z m H u v) (ha : u.cells.all cellU = true) :
    u.cells.length = v.cells.size ∧ (∀ (j : Nat) (x : U), u.cells[j]? = some x → ∃ y, v.cells[j]? = some y ∧ RepU w Z m H x y) ∧ ∀ y ∈ v.cells.toList, y.oneCell' = true := by
  have h1 : u ≠ .bad := by rintro rfl; simp [U.cells, cellU] at ha
  have h2 : u ≠ .undef := by rintro rfl; simp [U.cells, cellU] at ha
  have h3 : ∀ us, u ≠ .tup us := by rintro us rfl; simp [U.cells, cellU] at ha
  have h4 : ∀ xs, u ≠ .f (.tup xs) := by rintro xs rfl; simp [U.cells, cellU, cellF] at ha
  have h5 : ∀ o k, u = .hp o k → v.oneCell' = true := by rintro o k rfl; cases h with | hp _ _ _ h1 => exact h1
  obtain ⟨a, b⟩ := cells_rep h h5 h1 h2 h3 h4
  refine ⟨a, b, fun y hy => ?_⟩
  obtain ⟨j, hj, rfl⟩ := List.getElem_of_mem hy
  have hjs : j < v.cells.size := by simpa using hj
  have hu : u.cells[j]? = some (u.cells[j]'(by omega)) := List.getElem?_eq_getElem (by omega)
  obtain ⟨y, hy', hr⟩ := b j _ hu
  have : v.cells.toList[j] = y := by
    rw [Array.getElem?_eq_getElem hjs] at hy'
    simpa using hy'
  rw [this]
  exact hr.one (List.all_eq_true.1 ha _ (List.getElem_mem _))

/-- What is asked of a row that is written. -/
theorem run_storeVar {t : TypeId} {ti : TI} (ht : tiOf P t = some ti) {b off : Nat} {c : Array Value} {el : TypeId} {fr : Nat × Nat} (hb : w.heap[b]? = some (.cells c el fr))
    (hf : ∀ j, j < c.size → w.frozen? ⟨b, j, none⟩ = false) {v : Value} (hl : v.cells.size = ti.size) (hin : off + ti.size ≤ c.size) (h1 : ∀ y ∈ v.cells.toList, y.oneCell' = true) :
    (Instr.storeAt t (.pointer (some ⟨b, off, none⟩)) v).run P w = .ok () (setBlk w b (.cells (wr c.toList off v.cells.toList).toArray el fr)) := by
  unfold Instr.storeAt Instr.sureAddr storeVar
  simp only [pure_bind, Sem.run_bind, run_size ht, Result.andThen, hl, ne_eq, not_true, if_false]
  have := store_cells (P := P) (b := b) (off := off) (el := el) (fr := fr) v.cells.toList 0 w c.toList (by simpa using hb) (by simp; omega) (fun j hj => hf j (by simpa using hj)) h1
  simpa using this

theorem toFs_length {G : List HO} {us : List U} {xs : List F} (h : toFs G us = some xs) : us.length = xs.length := (toFs_get us xs h).1

theorem store_sound {ρ : Type} {r : ρ} {t : TypeId} {ti : TI} (ht : tiOf P t = some ti) {st : St} (hH : HOK w Z m st.heap) {u x : U} {vu vx : Value} (hu : RepU w Z m st.heap u vu)
    (hx : RepU w Z m st.heap x vx) {K : U → St → Option ρ} (h : evStore ti u x st K = some r) :
    ∃ st', K .undef st' = some r ∧ st'.tmps = st.tmps ∧ ∃ w', (Instr.storeAt t vu vx).run P w = .ok () w' ∧ Ext w Z m st.heap w' Z m st'.heap ∧ HOK w' Z m st'.heap := by
  unfold evStore at h
  split at h
  · rename_i o off
    split at h
    · rename_i cs hob
      replace h := bsel_some h; obtain ⟨h1, h⟩ := h
      replace h := bsel_some h; obtain ⟨h2, h⟩ := h
      replace h := bsel_some h; obtain ⟨h3, h⟩ := h
      have h1 := of_decide_eq_true h1
      have h2 := of_decide_eq_true h2
      cases hu with
      | hp _ _ _ hone ho hv =>
        obtain rfl := hv cs hob
        obtain ⟨c, el, fr, hb, hf, hsz, hr⟩ := hH.ob o _ hob
        obtain ⟨ha, hbb, hc⟩ := cellsAll_rep hx h3
        refine ⟨_, h, rfl, _, run_storeVar ht hb hf (by omega) (by omega) hc, ?_⟩
        have hsz2 : (wr c.toList off vx.cells.toList).length = c.size := by simp [wr_length]
        have hE : Ext w Z m st.heap (setBlk w (m o) (.cells (wr c.toList off vx.cells.toList).toArray el fr)) Z m (st.heap.set o (.box (setUs cs off x.cells))) := by
          refine ext_set hH hob rfl ?_
          simp [Evol, setUs_length]
        refine ⟨hE, hok_set hH hob rfl hE ?_⟩
        have hg : (setBlk w (m o) (.cells (wr c.toList off vx.cells.toList).toArray el fr)).heap[m o]? = some (.cells (wr c.toList off vx.cells.toList).toArray el fr) := by
          rw [setBlk_get]; simp [blk_lt hb]
        refine ⟨_, el, fr, hg, fun j hj => ?_, by simp [hsz2, setUs_length, hsz], fun j y hy => ?_⟩
        · rw [frozen_blk hb hg]; exact hf j (by simpa [hsz2] using hj)
        · rw [setUs_get _ _ _ _ (by omega)] at hy
          have e : (wr c.toList off vx.cells.toList).toArray[j]? = (wr c.toList off vx.cells.toList)[j]? := by simp
          rw [e, wr_get _ _ _ _ (by simp; omega)]
          have hlx : vx.cells.toList.length = x.cells.length := by simp [ha]
          rw [hlx]
          split at hy
          · rename_i hcd
            rw [if_pos hcd]
            obtain ⟨y', hy', hr'⟩ := hbb _ _ hy
            exact ⟨y', by simpa using hy', hr'.mono hE⟩
          · rename_i hcd
            rw [if_neg hcd]
            obtain ⟨y', hy', hr'⟩ := hr _ _ hy
            exact ⟨y', by simpa using hy', hr'.mono hE⟩
    · cases h
  · rename_i o gen i off
    split at h
    · rename_i sz n g xs hob hxs
      replace h := bsel_some h; obtain ⟨h1, h⟩ := h
      replace h := bsel_some h; obtain ⟨h2, h⟩ := h
      replace h := bsel_some h; obtain ⟨h3, h⟩ := h
      replace h := bsel_some h; obtain ⟨h4, h⟩ := h
      replace h := bsel_some h; obtain ⟨h5, h⟩ := h
      replace h := bsel_some h; obtain ⟨h6, h⟩ := h
      have h1 := of_decide_eq_true h1
      have h2 := of_decide_eq_true h2
      have h3 := of_decide_eq_true h3
      have h4 := of_decide_eq_true h4
      have h5 := of_decide_eq_true h5
      simp only [Bool.and_eq_true] at h6
      obtain ⟨h6, h7⟩ := h6
      cases hu with
      | ep _ _ _ _ _ hone ho hg hv =>
        obtain rfl := hv _ _ _ hob h1
        obtain ⟨h0, c, el, fr, hb, hf, hsz, hgl, hr⟩ := hH.ob o _ hob
        have hlx := toFs_length hxs
        have hall : x.cells.all cellU = true := by
          rw [List.all_eq_true]
          intro y hy
          obtain ⟨j, hj, rfl⟩ := List.getElem_of_mem hy
          have hx1 : xs[j]? = some (xs[j]'(by omega)) := List.getElem?_eq_getElem (by omega)
          have htf := (toFs_get _ _ hxs).2 j _ _ (List.getElem?_eq_getElem hj) hx1
          have hcf : cellF (xs[j]'(by omega)) = true := List.all_eq_true.1 h7 _ (List.getElem_mem _)
          generalize x.cells[j] = y at *
          cases y with
          | f z => simp only [toF, Option.some.injEq] at htf; rw [← htf] at hcf; exact hcf
          | agg us =>
            simp only [toF] at htf
            cases h' : toFs [] us with
            | none => rw [h'] at htf; cases htf
            | some q => rw [h'] at htf; simp only [Option.map_some, Option.some.injEq] at htf; rw [← htf] at hcf; cases hcf
          | tup us =>
            simp only [toF] at htf
            cases h' : toFs [] us with
            | none => rw [h'] at htf; cases htf
            | some q => rw [h'] at htf; simp only [Option.map_some, Option.some.injEq] at htf; rw [← htf] at hcf; cases hcf
          | undef => simp [toF] at htf
          | bad => simp [toF] at htf
          | _ => rfl
        obtain ⟨ha, hbb, hc⟩ := cellsAll_rep hx hall
        have hin : i * sz + off + ti.size ≤ c.size := by
          have : (i + 1) * sz ≤ n * sz := Nat.mul_le_mul_right _ h2
          rw [Nat.add_mul] at this
          omega
        refine ⟨_, h, rfl, _, run_storeVar ht hb hf (by omega) hin hc, ?_⟩
        have hsz2 : (wr c.toList (i * sz + off) vx.cells.toList).length = c.size := by simp [wr_length]
        have hE : Ext w Z m st.heap (setBlk w (m o) (.cells (wr c.toList (i * sz + off) vx.cells.toList).toArray el fr)) Z m (st.heap.set o (.arr sz n fun j => if j = i then putEl ti.isAgg (Nat.beq ti.size sz && (ti.isAgg || Nat.beq sz 1)) (g i) off xs else g j)) := by
          refine ext_set hH hob rfl ?_
          simp only [Evol, true_and, Nat.le_refl]
          intro _
          simp only [blockCells, setBlk_get, hb]
          simp [blk_lt hb, hsz2]
        refine ⟨hE, hok_set hH hob rfl hE ?_⟩
        have hg : (setBlk w (m o) (.cells (wr c.toList (i * sz + off) vx.cells.toList).toArray el fr)).heap[m o]? = some (.cells (wr c.toList (i * sz + off) vx.cells.toList).toArray el fr) := by
          rw [setBlk_get]; simp [blk_lt hb]
        have hput : (putEl ti.isAgg (Nat.beq ti.size sz && (ti.isAgg || Nat.beq sz 1)) (g i) off xs).cells = setFs (g i).cells off xs := by
          refine putEl_cells ?_ h7 h4 h3 h5
          cases hq : isAggF (g i) with
          | true => exact .inl rfl
          | false =>
            rw [hq] at h6
            simp only [Bool.false_or, Bool.and_eq_true, beq_iff_eq] at h6
            exact .inr ⟨by omega, by omega, by omega⟩
        refine ⟨h0, _, el, fr, hg, fun j hj => ?_, by simp only [List.size_toArray, hsz2]; exact hsz, fun k hk => ?_, fun k j y hk hy => ?_⟩
        · rw [frozen_blk hb hg]; exact hf j (by simpa [hsz2] using hj)
        · by_cases hki : k = i
          · subst hki; simp only [if_true]; rw [hput, setFs_length]; exact hgl _ hk
          · simp only [if_neg hki]; exact hgl k hk
        · have e : ∀ q : Nat, (wr c.toList (i * sz + off) vx.cells.toList).toArray[q]? = (wr c.toList (i * sz + off) vx.cells.toList)[q]? := by simp
          have hlv : vx.cells.toList.length = xs.length := by simp [← ha, hlx]
          rw [e, wr_get _ _ _ _ (by simp; omega), hlv]
          by_cases hki : k = i
          · subst hki
            simp only [if_true] at hy
            rw [hput, setFs_get _ _ _ _ (by omega)] at hy
            split at hy
            · rename_i hcd
              rw [if_pos (by omega), show k * sz + j - (k * sz + off) = j - off by omega]
              have hcf : cellF y = true := List.all_eq_true.1 h7 _ (List.mem_of_getElem? hy)
              have hj := (List.getElem?_eq_some_iff.1 hy).1
              have hux : x.cells[j - off]? = some (x.cells[j - off]'(by omega)) := List.getElem?_eq_getElem (by omega)
              obtain ⟨y', hy', hr'⟩ := hbb _ _ hux
              exact ⟨hcf, y', by simpa using hy', (toF_rep_nil hH hr' ((toFs_get _ _ hxs).2 _ _ _ hux hy)).mono hE.sub hE.kept⟩
            · rename_i hcd
              rw [if_neg (by omega)]
              obtain ⟨hcf, y', hy', hr'⟩ := hr _ _ _ hk hy
              exact ⟨hcf, y', by simpa using hy', hr'.mono hE.sub hE.kept⟩
          · simp only [if_neg hki] at hy
            have hjl : j < sz := by have := (List.getElem?_eq_some_iff.1 hy).1; rw [hgl k hk] at this; exact this
            have hne : ¬ (i * sz + off ≤ k * sz + j ∧ k * sz + j < i * sz + off + xs.length) := by
              intro ⟨p, q⟩
              rcases Nat.lt_or_gt_of_ne hki with hlt | hgt
              · have : (k + 1) * sz ≤ i * sz := Nat.mul_le_mul_right _ hlt
                rw [Nat.add_mul] at this; omega
              · have : (i + 1) * sz ≤ k * sz := Nat.mul_le_mul_right _ hgt
                rw [Nat.add_mul] at this; omega
            rw [if_neg hne]
            obtain ⟨hcf, y', hy', hr'⟩ := hr _ _ _ hk hy
            exact ⟨hcf, y', by simpa using hy', hr'.mono hE.sub hE.kept⟩
    · cases h
  · cases h
end
end Go.Proofs.Ytjbilidfnfnpfaa.R
