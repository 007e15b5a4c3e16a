/-
  The own reflective walk, part 3: what becomes of memory and of what lies in it.
-/
import Derived.Test.YtjbilidfnfnpfaaR2
import Derived.Laws.Sem
import Derived.Laws.Cells
namespace Go.Proofs.Ytjbilidfnfnpfaa.R
open Go

theorem RepF.one {w : World} {Z : Nat → Prop} {x : F} {v : Value} (h : RepF w Z x v) (hx : cellF x = true) : v.oneCell' = true := by
  cases h <;> simp_all [cellF, Value.oneCell']

theorem RepU.one {w : World} {Z : Nat → Prop} {m : Nat → Nat} {H : List HO} {u : U} {v : Value} (h : RepU w Z m H u v) (hu : cellU u = true) : v.oneCell' = true := by
  cases h with
  | f x v h => exact h.one hu
  | hs _ _ _ _ _ h1 => exact h1
  | hp _ _ _ h1 => exact h1
  | ep _ _ _ _ _ h1 => exact h1
  | _ => first | rfl | simp [cellU] at hu

/-- Values written one behind the other. -/
def wr (c : List Value) (off : Nat) : List Value → List Value
  | [] => c
  | v :: vs => wr (c.set off v) (off + 1) vs
theorem wr_length (vs : List Value) : ∀ (c : List Value) (off : Nat), (wr c off vs).length = c.length := by
  induction vs with
  | nil => intro c off; rfl
  | cons v vs ih => intro c off; simp [wr, ih]
theorem wr_get (vs : List Value) : ∀ (c : List Value) (off j : Nat), off + vs.length ≤ c.length →
    (wr c off vs)[j]? = if off ≤ j ∧ j < off + vs.length then vs[j - off]? else c[j]? := by
  induction vs with
  | nil => intro c off j _; simp [wr]; omega
  | cons v vs ih =>
    intro c off j h
    simp only [List.length_cons] at h
    simp only [wr]
    rw [ih _ _ _ (by simp; omega)]
    simp only [List.length_cons]
    by_cases h1 : off + 1 ≤ j ∧ j < off + 1 + vs.length
    · rw [if_pos h1, if_pos (by omega)]
      rw [show j - off = (j - (off + 1)) + 1 by omega]
      simp
    · rw [if_neg h1]
      by_cases h2 : j = off
      · subst h2
        rw [if_pos (by omega)]
        simp [show j < c.length by omega]
      · rw [if_neg (by omega), List.getElem?_set_ne (by omega)]

def setBlk (w : World) (b : Nat) (o : Obj) : World := { w with heap := w.heap.setIfInBounds b o }
theorem setBlk_get (w : World) (b : Nat) (o : Obj) (k : Nat) : (setBlk w b o).heap[k]? = if k = b ∧ b < w.heap.size then some o else w.heap[k]? := by
  simp only [setBlk, Array.getElem?_setIfInBounds]
  by_cases h : b = k
  · subst h
    by_cases h2 : b < w.heap.size
    · simp [h2]
    · simp [h2]
  · simp [h, Ne.symm h]
theorem setBlk_size (w : World) (b : Nat) (o : Obj) : (setBlk w b o).heap.size = w.heap.size := by simp [setBlk]
theorem setBlk_setBlk (w : World) (b : Nat) (o o' : Obj) : setBlk (setBlk w b o) b o' = setBlk w b o' := by
  simp only [setBlk]
  congr 1
  apply Array.ext'
  simp

theorem blk_lt {w : World} {b : Nat} {o : Obj} (h : w.heap[b]? = some o) : b < w.heap.size := (Array.getElem?_eq_some_iff.1 h).1

theorem setCell_eq {w : World} {b off : Nat} {c : Array Value} {el : TypeId} {fr : Nat × Nat} (h : w.heap[b]? = some (.cells c el fr)) (v : Value) :
    w.setCell ⟨b, off, none⟩ v = setBlk w b (.cells (c.setIfInBounds off v) el fr) := by
  simp only [World.setCell, setBlk]
  congr 1
  apply Array.ext'
  rw [Array.toList_modify, Array.toList_setIfInBounds]
  have hb := blk_lt h
  have hg : w.heap.toList[b]? = some (.cells c el fr) := by simpa using h
  apply List.ext_getElem?
  intro k
  rw [List.getElem?_modify, List.getElem?_set]
  by_cases hk : b = k
  · subst hk
    have hb2 : w.heap[b] = .cells c el fr := by rw [Array.getElem?_eq_getElem hb] at h; exact Option.some.inj h
    simp [hb, hb2]
  · simp [hk]

theorem frozen_blk {w w' : World} {b : Nat} {c c' : Array Value} {el : TypeId} {fr : Nat × Nat} (h : w.heap[b]? = some (.cells c el fr)) (h' : w'.heap[b]? = some (.cells c' el fr)) (j : Nat) :
    w'.frozen? ⟨b, j, none⟩ = w.frozen? ⟨b, j, none⟩ := by
  simp [World.frozen?, h, h']

theorem add_of (b off i : Nat) : (⟨b, off, none⟩ : Addr).add i = ⟨b, off + i, none⟩ := by unfold Addr.add; split <;> simp_all

theorem store_cells {P : Program} {b off : Nat} {el : TypeId} {fr : Nat × Nat} : ∀ (vs : List Value) (i : Nat) (w : World) (c : List Value), w.heap[b]? = some (.cells c.toArray el fr) →
    off + i + vs.length ≤ c.length → (∀ j, j < c.length → w.frozen? ⟨b, j, none⟩ = false) → (∀ v ∈ vs, v.oneCell' = true) →
    (storeCells ⟨b, off, none⟩ vs i).run P w = .ok () (setBlk w b (.cells (wr c (off + i) vs).toArray el fr))
  | [], i, w, c, hg, _, _, _ => by
    simp only [storeCells, wr, Sem.run_pure]
    congr 1
    cases w
    simp only [setBlk]
    congr 1
    apply Array.ext'
    rw [Array.toList_setIfInBounds]
    apply List.ext_getElem?
    intro k
    rw [List.getElem?_set]
    by_cases hk : b = k
    · subst hk
      have hg' := hg
      simp only at hg'
      have := blk_lt hg
      simp only at this
      simp [this]
      rw [Array.getElem?_eq_getElem this] at hg'
      simpa using hg'
    · simp [hk]
  | v :: vs, i, w, c, hg, hl, hf, h1 => by
    simp only [List.length_cons] at hl
    have hv := h1 v (by simp)
    have hlt : off + i < c.length := by omega
    have hc : w.cell? ⟨b, off + i, none⟩ = some c[off + i] := by simp [World.cell?, hg, hlt]
    have hst : (store ((⟨b, off, none⟩ : Addr).add i) v).run P w = .ok () (setBlk w b (.cells (c.set (off + i) v).toArray el fr)) := by
      rw [add_of, run_store P w _ v _ hv]
      simp only [hc, hf _ hlt, if_false, Bool.false_eq_true]
      rw [setCell_eq hg]
      simp
    have hg2 : (setBlk w b (.cells (c.set (off + i) v).toArray el fr)).heap[b]? = some (.cells (c.set (off + i) v).toArray el fr) := by
      rw [setBlk_get]; simp [blk_lt hg]
    have ih := store_cells (P := P) (off := off) vs (i + 1) (setBlk w b (.cells (c.set (off + i) v).toArray el fr)) (c.set (off + i) v) hg2 (by simp; omega)
      (fun j hj => (frozen_blk hg hg2 j).trans (hf j (by simpa using hj))) (fun u hu => h1 u (by simp [hu]))
    simp only [storeCells, Sem.run_bind, hst, Result.andThen]
    rw [ih]
    rw [setBlk_setBlk]
    simp only [wr]
    rfl

section
variable {w : World} {Z : Nat → Prop} {m : Nat → Nat} {H : List HO}

theorem blockCells_of {b : Nat} {c : Array Value} {el : TypeId} {fr : Nat × Nat} (h : w.heap[b]? = some (.cells c el fr)) : blockCells w b = c.size := by
  simp [blockCells, h]

theorem live_of {o : Nat} {ob : HO} (h : H[o]? = some ob) (hn : ob.live = true) : liveAt H o := ⟨ob, h, hn⟩

theorem HOK.blk_lt (hH : HOK w Z m H) {o : Nat} (hl : liveAt H o) : m o < w.heap.size := by
  obtain ⟨ob, ho, hn⟩ := hl
  have := hH.ob o ob ho
  cases ob with
  | dead => cases hn
  | free => cases hn
  | box cs => obtain ⟨c, el, fr, hb, _⟩ := this; exact R.blk_lt hb
  | arr sz n g => obtain ⟨_, c, el, fr, hb, _⟩ := this; exact R.blk_lt hb

/-- What becomes of the other objects when the memory goes on. -/
theorem ObOK.mono {w' : World} {Z' : Nat → Prop} {m' : Nat → Nat} {H' : List HO} (hE : Ext w Z m H w' Z' m' H') {ob : HO} {b : Nat}
    (h : ObOK w Z m H ob b) (hb : w'.heap[b]? = w.heap[b]?) : ObOK w' Z' m' H' ob b := by
  have hfz : ∀ j, w'.frozen? ⟨b, j, none⟩ = w.frozen? ⟨b, j, none⟩ := fun j => by simp [World.frozen?, hb]
  cases ob with
  | dead => trivial
  | free => trivial
  | box cs =>
    obtain ⟨c, el, fr, h1, h2, h3, h4⟩ := h
    refine ⟨c, el, fr, hb.trans h1, fun j hj => (hfz j).trans (h2 j hj), h3, fun j u hu => ?_⟩
    obtain ⟨v, hv, hr⟩ := h4 j u hu
    exact ⟨v, hv, hr.mono hE⟩
  | arr sz n g =>
    obtain ⟨h0, c, el, fr, h1, h2, h3, h4, h5⟩ := h
    refine ⟨h0, c, el, fr, hb.trans h1, fun j hj => (hfz j).trans (h2 j hj), h3, h4, fun i j u hi hu => ?_⟩
    obtain ⟨hk, v, hv, hr⟩ := h5 i j u hi hu
    exact ⟨hk, v, hv, hr.mono hE.sub hE.kept⟩

/-- A store into an object's own block. -/
theorem ext_set {o : Nat} {ob ob' : HO} {c' : Array Value} {el : TypeId} {fr : Nat × Nat} (hH : HOK w Z m H) (ho : H[o]? = some ob) (hn : ob.live = true)
    (hev : Evol w (setBlk w (m o) (.cells c' el fr)) ob (m o) ob' (m o)) :
    Ext w Z m H (setBlk w (m o) (.cells c' el fr)) Z m (H.set o ob') := by
  have hlt := (List.getElem?_eq_some_iff.1 ho).1
  have hother : ∀ k, k ≠ m o → (setBlk w (m o) (.cells c' el fr)).heap[k]? = w.heap[k]? := fun k hk => by rw [setBlk_get]; simp [hk]
  have hl : liveAt H o := live_of ho hn
  refine ⟨rfl, rfl, rfl, by simp [setBlk_size], fun _ h => h, fun _ h => .inl h, fun b hz => hother b ?_, fun b _ hm => hother b (fun e => hm o hl e.symm), by simp, ?_, ?_⟩
  · rintro rfl; exact hH.apart o hl hz
  · intro k ob1 ob2 h1 h2
    by_cases hk : o = k
    · subst hk
      rw [ho] at h1; cases h1
      simp [hlt] at h2; subst h2
      exact hev
    · rw [List.getElem?_set_ne hk, h1] at h2
      cases h2
      by_cases hd : ob1.live = true
      case neg => cases ob1 <;> simp_all [Evol, HO.live]
      · have hne : m k ≠ m o := fun e => hk (hH.inj o k hl (live_of h1 hd) e.symm)
        have : blockCells (setBlk w (m o) (.cells c' el fr)) (m k) = blockCells w (m k) := by simp only [blockCells, hother _ hne]
        cases ob1 <;> simp_all [Evol]
  · intro k ⟨ob1, h1, hd⟩
    left
    by_cases hk : o = k
    · subst hk; exact ⟨hl, rfl⟩
    · rw [List.getElem?_set_ne hk] at h1
      exact ⟨⟨ob1, h1, hd⟩, rfl⟩

theorem hok_set {o : Nat} {ob ob' : HO} {c' : Array Value} {el : TypeId} {fr : Nat × Nat} (hH : HOK w Z m H) (ho : H[o]? = some ob) (hn : ob.live = true)
    (hE : Ext w Z m H (setBlk w (m o) (.cells c' el fr)) Z m (H.set o ob'))
    (hob : ObOK (setBlk w (m o) (.cells c' el fr)) Z m (H.set o ob') ob' (m o)) :
    HOK (setBlk w (m o) (.cells c' el fr)) Z m (H.set o ob') := by
  have hl : liveAt H o := live_of ho hn
  have hlive : ∀ k, liveAt (H.set o ob') k → liveAt H k := by
    intro k ⟨ob1, h1, hd⟩
    by_cases hk : o = k
    · subst hk; exact hl
    · rw [List.getElem?_set_ne hk] at h1; exact ⟨ob1, h1, hd⟩
  refine ⟨fun b hz => by rw [setBlk_size]; exact hH.zlt b hz, fun k hk => hH.apart k (hlive k hk), fun k k' hk hk' => hH.inj k k' (hlive k hk) (hlive k' hk'), ?_⟩
  intro k ob1 h1
  by_cases hk : o = k
  · subst hk
    have hlt := (List.getElem?_eq_some_iff.1 ho).1
    simp [hlt] at h1; subst h1; exact hob
  · rw [List.getElem?_set_ne hk] at h1
    by_cases hd : ob1.live = true
    case neg => cases ob1 <;> simp_all [ObOK, HO.live]
    · have hne : m k ≠ m o := fun e => hk (hH.inj o k hl (live_of h1 hd) e.symm)
      exact (hH.ob k ob1 h1).mono hE (by rw [setBlk_get]; simp [hne])

def addBlk (w : World) (o : Obj) : World := { w with heap := w.heap.push o }
theorem addBlk_old (w : World) (o : Obj) (k : Nat) (h : k < w.heap.size) : (addBlk w o).heap[k]? = w.heap[k]? := by
  simp only [addBlk, Array.getElem?_push]; rw [if_neg (by omega)]
theorem addBlk_new (w : World) (o : Obj) : (addBlk w o).heap[w.heap.size]? = some o := by simp only [addBlk]; exact Array.getElem?_push_size
theorem addBlk_size (w : World) (o : Obj) : (addBlk w o).heap.size = w.heap.size + 1 := by simp [addBlk]

/-- The place of a new object. -/
def putNew (H : List HO) (slot : Option Nat) (ob : HO) : List HO := match slot with
  | some k => H.set k ob
  | none => H ++ [ob]
def placeNew (H : List HO) (slot : Option Nat) : Nat := slot.getD H.length
def SlotOK (H : List HO) (slot : Option Nat) : Prop := ∀ k, slot = some k → H[k]? = some .free

theorem putNew_get (H : List HO) (slot : Option Nat) (ob : HO) (hs : SlotOK H slot) : (putNew H slot ob)[placeNew H slot]? = some ob := by
  cases slot with
  | none => simp [putNew, placeNew]
  | some k => have := (List.getElem?_eq_some_iff.1 (hs k rfl)).1; simp [putNew, placeNew, this]
theorem putNew_other (H : List HO) (slot : Option Nat) (ob : HO) {k : Nat} (hk : k ≠ placeNew H slot) : (putNew H slot ob)[k]? = H[k]? := by
  cases slot with
  | none =>
    simp only [putNew, placeNew, Option.getD_none] at *
    rw [List.getElem?_append]
    split
    · rfl
    · rename_i h; rw [List.getElem?_eq_none (by simp; omega), List.getElem?_eq_none (by omega)]
  | some k' => simp only [putNew, placeNew, Option.getD_some] at *; rw [List.getElem?_set_ne (Ne.symm hk)]
theorem putNew_len (H : List HO) (slot : Option Nat) (ob : HO) : H.length ≤ (putNew H slot ob).length := by
  cases slot <;> simp [putNew]
theorem place_dead {slot : Option Nat} (hs : SlotOK H slot) : ¬ liveAt H (placeNew H slot) := by
  rintro ⟨ob, h, hd⟩
  cases slot with
  | none => simp [placeNew] at h
  | some k => simp only [placeNew, Option.getD_some] at h; rw [hs k rfl] at h; cases h; cases hd

/-- A new object in a new block. -/
theorem ext_new {slot : Option Nat} {ob : HO} {c : Obj} (hH : HOK w Z m H) (hs : SlotOK H slot) :
    Ext w Z m H (addBlk w c) Z (fun x => if x = placeNew H slot then w.heap.size else m x) (putNew H slot ob) := by
  refine ⟨rfl, rfl, rfl, by simp [addBlk_size], fun _ h => h, fun _ h => .inl h, fun b hz => addBlk_old _ _ _ (hH.zlt b hz), fun b hb _ => addBlk_old _ _ _ hb, putNew_len _ _ _, ?_, ?_⟩
  · intro k ob1 ob2 h1 h2
    by_cases hk : k = placeNew H slot
    · cases slot with
      | none => subst hk; simp [placeNew] at h1
      | some k' =>
        obtain rfl : k = k' := hk
        rw [hs k rfl] at h1
        cases h1
        cases ob2 <;> simp [Evol]
    · rw [putNew_other _ _ _ hk, h1] at h2
      cases h2
      rw [if_neg hk]
      by_cases hd : ob1.live = true
      case neg => cases ob1 <;> simp_all [Evol, HO.live]
      · have hlt := hH.blk_lt (live_of h1 hd)
        have : blockCells (addBlk w c) (m k) = blockCells w (m k) := by simp only [blockCells, addBlk_old _ _ _ hlt]
        cases ob1 <;> simp_all [Evol]
  · intro k ⟨ob1, h1, hd⟩
    by_cases hk : k = placeNew H slot
    · right; simp [hk]
    · left
      rw [putNew_other _ _ _ hk] at h1
      exact ⟨⟨ob1, h1, hd⟩, by simp [hk]⟩

theorem hok_new {slot : Option Nat} {ob : HO} {c : Obj} (hH : HOK w Z m H) (hs : SlotOK H slot)
    (hob : ObOK (addBlk w c) Z (fun x => if x = placeNew H slot then w.heap.size else m x) (putNew H slot ob) ob w.heap.size) :
    HOK (addBlk w c) Z (fun x => if x = placeNew H slot then w.heap.size else m x) (putNew H slot ob) := by
  have hE := ext_new (ob := ob) (c := c) hH hs
  have hold : ∀ k, k ≠ placeNew H slot → liveAt (putNew H slot ob) k → liveAt H k := by
    intro k hk ⟨ob1, h1, hd⟩
    rw [putNew_other _ _ _ hk] at h1
    exact ⟨ob1, h1, hd⟩
  refine ⟨fun b hz => by rw [addBlk_size]; have := hH.zlt b hz; omega, ?_, ?_, ?_⟩
  · intro k hk hz
    by_cases hp : k = placeNew H slot
    · simp only [hp, if_true] at hz; have := hH.zlt _ hz; omega
    · simp only [if_neg hp] at hz; exact hH.apart k (hold k hp hk) hz
  · intro k k' hk hk' e
    by_cases hp : k = placeNew H slot <;> by_cases hp' : k' = placeNew H slot
    · rw [hp, hp']
    · simp only [hp, hp', if_true, if_false] at e; have := hH.blk_lt (hold k' hp' hk'); omega
    · simp only [hp, hp', if_true, if_false] at e; have := hH.blk_lt (hold k hp hk); omega
    · simp only [hp, hp', if_false] at e; exact hH.inj k k' (hold k hp hk) (hold k' hp' hk') e
  · intro k ob1 h1
    by_cases hp : k = placeNew H slot
    · simp only [hp, if_true]
      rw [hp, putNew_get _ _ _ hs] at h1
      cases h1; exact hob
    · simp only [if_neg hp]
      rw [putNew_other _ _ _ hp] at h1
      by_cases hd : ob1.live = true
      case neg => cases ob1 <;> simp_all [ObOK, HO.live]
      · exact (hH.ob k ob1 h1).mono hE (addBlk_old _ _ _ (hH.blk_lt (live_of h1 hd)))

/-- An object falls away: its block is frozen from now on. -/
theorem ext_kill {o : Nat} (hH : HOK w Z m H) (hl : liveAt H o) :
    Ext w Z m H w (fun b => Z b ∨ b = m o) m (H.set o .dead) ∧ HOK w (fun b => Z b ∨ b = m o) m (H.set o .dead) := by
  obtain ⟨ob, ho, hn⟩ := hl
  have hlt := (List.getElem?_eq_some_iff.1 ho).1
  have hl : liveAt H o := ⟨ob, ho, hn⟩
  have hlive : ∀ k, liveAt (H.set o .dead) k → liveAt H k ∧ k ≠ o := by
    intro k ⟨ob1, h1, hd⟩
    by_cases hk : o = k
    · subst hk; simp [hlt] at h1; subst h1; cases hd
    · rw [List.getElem?_set_ne hk] at h1; exact ⟨⟨ob1, h1, hd⟩, Ne.symm hk⟩
  have hE : Ext w Z m H w (fun b => Z b ∨ b = m o) m (H.set o .dead) := by
    refine ⟨rfl, rfl, rfl, Nat.le_refl _, fun _ h => .inl h, ?_, fun _ _ => rfl, fun _ _ _ => rfl, by simp, ?_, ?_⟩
    · rintro b (h | rfl)
      · exact .inl h
      · exact .inr (.inr ⟨o, hl, rfl⟩)
    · intro k ob1 ob2 h1 h2
      by_cases hk : o = k
      · subst hk
        simp [hlt] at h2; subst h2
        rw [ho] at h1; cases h1
        cases ob <;> simp_all [Evol]
      · rw [List.getElem?_set_ne hk, h1] at h2
        cases h2; exact Evol.refl _ _ _
    · intro k hk; exact .inl ⟨(hlive k hk).1, rfl⟩
  refine ⟨hE, ?_, ?_, ?_, ?_⟩
  · rintro b (h | rfl)
    · exact hH.zlt b h
    · exact hH.blk_lt hl
  · rintro k hk (h | h)
    · exact hH.apart k (hlive k hk).1 h
    · exact (hlive k hk).2 (hH.inj k o (hlive k hk).1 hl h)
  · exact fun k k' hk hk' e => hH.inj k k' (hlive k hk).1 (hlive k' hk').1 e
  · intro k ob1 h1
    by_cases hk : o = k
    · subst hk; simp [hlt] at h1; subst h1; trivial
    · rw [List.getElem?_set_ne hk] at h1
      exact (hH.ob k ob1 h1).mono hE rfl

/-- An array goes on in a new block. -/
theorem ext_move {o sz n n' : Nat} {g g' : Nat → F} {c : Obj} (hH : HOK w Z m H) (ho : H[o]? = some (.arr sz n g)) (hn : n < n') :
    Ext w Z m H (addBlk w c) Z (fun x => if x = o then w.heap.size else m x) (H.set o (.arr sz n' g')) := by
  have hlt := (List.getElem?_eq_some_iff.1 ho).1
  refine ⟨rfl, rfl, rfl, by simp [addBlk_size], fun _ h => h, fun _ h => .inl h, fun b hz => addBlk_old _ _ _ (hH.zlt b hz), fun b hb _ => addBlk_old _ _ _ hb, by simp, ?_, ?_⟩
  · intro k ob1 ob2 h1 h2
    by_cases hk : o = k
    · subst hk
      rw [ho] at h1; cases h1
      simp [hlt] at h2; subst h2
      simp only [Evol, true_and]
      exact ⟨by omega, fun e => by omega⟩
    · rw [List.getElem?_set_ne hk, h1] at h2
      cases h2
      rw [if_neg (Ne.symm hk)]
      by_cases hd : ob1.live = true
      case neg => cases ob1 <;> simp_all [Evol, HO.live]
      · have hlt := hH.blk_lt (live_of h1 hd)
        have : blockCells (addBlk w c) (m k) = blockCells w (m k) := by simp only [blockCells, addBlk_old _ _ _ hlt]
        cases ob1 <;> simp_all [Evol]
  · intro k ⟨ob1, h1, hd⟩
    by_cases hk : o = k
    · right; simp [hk]
    · left
      rw [List.getElem?_set_ne hk] at h1
      exact ⟨⟨ob1, h1, hd⟩, by simp [Ne.symm hk]⟩

theorem hok_move {o sz n n' : Nat} {g g' : Nat → F} {c : Obj} (hH : HOK w Z m H) (ho : H[o]? = some (.arr sz n g)) (hn : n < n')
    (hob : ObOK (addBlk w c) Z (fun x => if x = o then w.heap.size else m x) (H.set o (.arr sz n' g')) (.arr sz n' g') w.heap.size) :
    HOK (addBlk w c) Z (fun x => if x = o then w.heap.size else m x) (H.set o (.arr sz n' g')) := by
  have hlt := (List.getElem?_eq_some_iff.1 ho).1
  have hE := ext_move (g' := g') (c := c) hH ho hn
  have hold : ∀ k, k ≠ o → liveAt (H.set o (.arr sz n' g')) k → liveAt H k := by
    intro k hk ⟨ob1, h1, hd⟩
    rw [List.getElem?_set_ne (Ne.symm hk)] at h1
    exact ⟨ob1, h1, hd⟩
  refine ⟨fun b hz => by rw [addBlk_size]; have := hH.zlt b hz; omega, ?_, ?_, ?_⟩
  · intro k hk hz
    by_cases hp : k = o
    · simp only [hp, if_true] at hz; have := hH.zlt _ hz; omega
    · simp only [if_neg hp] at hz; exact hH.apart k (hold k hp hk) hz
  · intro k k' hk hk' e
    by_cases hp : k = o <;> by_cases hp' : k' = o
    · rw [hp, hp']
    · simp only [hp, hp', if_true, if_false] at e; have := hH.blk_lt (hold k' hp' hk'); omega
    · simp only [hp, hp', if_true, if_false] at e; have := hH.blk_lt (hold k hp hk); omega
    · simp only [hp, hp', if_false] at e; exact hH.inj k k' (hold k hp hk) (hold k' hp' hk') e
  · intro k ob1 h1
    by_cases hp : k = o
    · subst hp
      simp [hlt] at h1; subst h1
      simp only [if_true]; exact hob
    · simp only [if_neg hp]
      rw [List.getElem?_set_ne (Ne.symm hp)] at h1
      by_cases hd : ob1.live = true
      case neg => cases ob1 <;> simp_all [ObOK, HO.live]
      · exact (hH.ob k ob1 h1).mono hE (addBlk_old _ _ _ (hH.blk_lt (live_of h1 hd)))

/-- A world that differs in what has been drawn alone. -/
def drewn (w : World) (n : Nat) : World := { w with drawn := n }
theorem ext_drew (n : Nat) : Ext w Z m H (drewn w n) Z m H :=
  ⟨rfl, rfl, rfl, Nat.le_refl _, fun _ h => h, fun _ h => .inl h, fun _ _ => rfl, fun _ _ _ => rfl, Nat.le_refl _,
   fun o ob ob' h h' => by rw [h] at h'; cases h'; cases ob <;> simp [Evol, drewn, blockCells], fun o h => .inl ⟨h, rfl⟩⟩
theorem hok_drew (n : Nat) (hH : HOK w Z m H) : HOK (drewn w n) Z m H :=
  ⟨hH.zlt, hH.apart, hH.inj, fun o ob h => (hH.ob o ob h).mono (ext_drew n) rfl⟩
end
end Go.Proofs.Ytjbilidfnfnpfaa.R
