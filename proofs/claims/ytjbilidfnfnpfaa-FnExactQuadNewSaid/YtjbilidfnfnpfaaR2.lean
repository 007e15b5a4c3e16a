/-
  The own reflective walk, part 2: what the walk's values and objects stand for in the model's memory.
-/
import Derived.Test.YtjbilidfnfnpfaaR1
namespace Go.Proofs.Ytjbilidfnfnpfaa.R
open Go

/-- Data read in memory, all of it in blocks of Z. -/
inductive RepF (w : World) (Z : Nat → Prop) : F → Value → Prop
  | bool (b : Bool) : RepF w Z (.bool b) (.bool b)
  | int (k : IntKind) (n : Int) : RepF w Z (.int k n) (.int k n)
  | str (s : ByteArray) : RepF w Z (.str s) (.string s)
  | sl (n : Nat) (g : Nat → F) (A : Option Addr) (c sz : Nat) (a : Addr) (V : Nat → Value) (hc : n ≤ c)
      (hs : ∀ i, i < n → (g i).cells.length = sz) (hk : ∀ (i j : Nat) (u : F), i < n → (g i).cells[j]? = some u → cellF u = true) (hA : n ≠ 0 → A = some a ∧ Z a.block ∧ a.spot = none)
      (hV : ∀ (i j : Nat) (u : F), i < n → (g i).cells[j]? = some u → w.cell? ⟨a.block, a.off + (i * sz + j), none⟩ = some (V (i * sz + j)))
      (hr : ∀ (i j : Nat) (u : F), i < n → (g i).cells[j]? = some u → RepF w Z u (V (i * sz + j))) :
      RepF w Z (.sl n g) (.slice A n c)
  | agg (cs : List F) (vs : List Value) (hl : cs.length = vs.length) (hr : ∀ (j : Nat) (u : F) (v : Value), cs[j]? = some u → vs[j]? = some v → RepF w Z u v) : RepF w Z (.agg cs) (.agg vs.toArray)
  | tup (cs : List F) (vs : List Value) (hl : cs.length = vs.length) (hr : ∀ (j : Nat) (u : F) (v : Value), cs[j]? = some u → vs[j]? = some v → RepF w Z u v) : RepF w Z (.tup cs) (.tuple vs.toArray)

theorem RepF.mono {w w' : World} {Z Z' : Nat → Prop} (hZ : ∀ b, Z b → Z' b) (hw : ∀ b, Z b → w'.heap[b]? = w.heap[b]?) {x : F} {v : Value}
    (h : RepF w Z x v) : RepF w' Z' x v := by
  induction h with
  | bool b => exact .bool b
  | int k n => exact .int k n
  | str s => exact .str s
  | sl n g A c sz a V hc hs hk hA hV hr ih =>
    refine .sl n g A c sz a V hc hs hk (fun h0 => ⟨(hA h0).1, hZ _ (hA h0).2.1, (hA h0).2.2⟩) (fun i j u hi hu => ?_) ih
    have hz := (hA (by omega)).2.1
    have := hV i j u hi hu
    unfold World.cell? at *
    rw [hw _ hz]
    exact this
  | agg cs vs hl hr ih => exact .agg cs vs hl ih
  | tup cs vs hl hr ih => exact .tup cs vs hl ih

theorem RepF.scalar_any {w w' : World} {Z Z' : Nat → Prop} {x : F} {v : Value} (h : RepF w Z x v) : scalar x = true → RepF w' Z' x v := by
  have key : ∀ cs : List F, scalars cs = true → ∀ (j : Nat) (u : F), cs[j]? = some u → scalar u = true := by
    intro cs
    induction cs with
    | nil => intro _ j u hu; simp at hu
    | cons c cs ih =>
      intro hs j u hu
      simp only [scalars, Bool.and_eq_true] at hs
      cases j with
      | zero => simp at hu; exact hu ▸ hs.1
      | succ j => simp at hu; exact ih hs.2 j u hu
  induction h with
  | bool b => intro _; exact .bool b
  | int k n => intro _; exact .int k n
  | str s => intro _; exact .str s
  | sl n g A c sz a V hc hs hk hA hV hr ih => intro h; simp [scalar] at h
  | agg cs vs hl hr ih => intro h; exact .agg cs vs hl fun j u v hu hv => ih j u v hu hv (key cs (by simpa [scalar] using h) j u hu)
  | tup cs vs hl hr ih => intro h; exact .tup cs vs hl fun j u v hu hv => ih j u v hu hv (key cs (by simpa [scalar] using h) j u hu)

def HO.live : HO → Bool
  | .dead | .free => false
  | _ => true
def liveAt (H : List HO) (o : Nat) : Prop := ∃ ob, H[o]? = some ob ∧ ob.live = true
/-- Is there, or was there, an object? -/
def known (H : List HO) (o : Nat) : Prop := ∃ ob, H[o]? = some ob ∧ ob ≠ .free
def blockCells (w : World) (b : Nat) : Nat := match w.heap[b]? with | some (.cells c _ _) => c.size | _ => 0

/-- Values of the walk. A slice or pointer into an object that has fallen away, or has grown since, stands for anything. -/
inductive RepU (w : World) (Z : Nat → Prop) (m : Nat → Nat) (H : List HO) : U → Value → Prop
  | f (x : F) (v : Value) (h : RepF w Z x v) : RepU w Z m H (.f x) v
  | agg (cs : List U) (vs : List Value) (hl : cs.length = vs.length) (hr : ∀ (j : Nat) (u : U) (v : Value), cs[j]? = some u → vs[j]? = some v → RepU w Z m H u v) : RepU w Z m H (.agg cs) (.agg vs.toArray)
  | tup (cs : List U) (vs : List Value) (hl : cs.length = vs.length) (hr : ∀ (j : Nat) (u : U) (v : Value), cs[j]? = some u → vs[j]? = some v → RepU w Z m H u v) : RepU w Z m H (.tup cs) (.tuple vs.toArray)
  | hs (o gen off len : Nat) (v : Value) (h1 : v.oneCell' = true) (ho : known H o) (hg : ∀ sz n g, H[o]? = some (.arr sz n g) → gen ≤ n)
      (hv : ∀ sz n g, H[o]? = some (.arr sz n g) → gen = n → off + len ≤ n ∧ ∃ A c, v = .slice A len c ∧ len ≤ c ∧ (c ≠ 0 → A = some ⟨m o, off * sz, none⟩) ∧ (off + c) * sz ≤ blockCells w (m o)) :
      RepU w Z m H (.hs o gen off len) v
  | hp (o off : Nat) (v : Value) (h1 : v.oneCell' = true) (ho : known H o) (hv : ∀ cs, H[o]? = some (.box cs) → v = .pointer (some ⟨m o, off, none⟩)) : RepU w Z m H (.hp o off) v
  | ep (o gen i off : Nat) (v : Value) (h1 : v.oneCell' = true) (ho : known H o) (hg : ∀ sz n g, H[o]? = some (.arr sz n g) → gen ≤ n)
      (hv : ∀ sz n g, H[o]? = some (.arr sz n g) → gen = n → v = .pointer (some ⟨m o, i * sz + off, none⟩)) : RepU w Z m H (.ep o gen i off) v
  | va (cs : List F) (a : Addr) (hZ : cs ≠ [] → Z a.block ∧ a.spot = none) (V : Nat → Value) (hV : ∀ (j : Nat) (u : F), cs[j]? = some u → w.cell? ⟨a.block, a.off + j, none⟩ = some (V j)) (hr : ∀ (j : Nat) (u : F), cs[j]? = some u → RepF w Z u (V j)) :
      RepU w Z m H (.va cs) (.pointer (some a))
  | nilp : RepU w Z m H .nilp (.pointer none)
  | nils (A : Option Addr) : RepU w Z m H .nils (.slice A 0 0)
  | fn (f : FuncId) (us : List U) (vs : List Value) (hl : us.length = vs.length) (hr : ∀ (j : Nat) (u : U) (v : Value), us[j]? = some u → vs[j]? = some v → RepU w Z m H u v) : RepU w Z m H (.fn f us) (.func (.func f) #[] vs.toArray)
  | nilfn : RepU w Z m H .nilfn .nilFunc
  | undef : RepU w Z m H .undef Go.undef
  | bad (v : Value) : RepU w Z m H .bad v

/-- How an object may come on. -/
def Evol (w w' : World) (ob : HO) (b : Nat) (ob' : HO) (b' : Nat) : Prop :=
  match ob, ob' with
  | .free, _ => True
  | _, .dead => True
  | .box cs, .box cs' => cs'.length = cs.length ∧ b' = b
  | .arr sz n _, .arr sz' n' _ => sz' = sz ∧ n ≤ n' ∧ (n' = n → b' = b ∧ blockCells w' b = blockCells w b)
  | _, _ => False

/-- From one memory to a later one. -/
structure Ext (w : World) (Z : Nat → Prop) (m : Nat → Nat) (H : List HO) (w' : World) (Z' : Nat → Prop) (m' : Nat → Nat) (H' : List HO) : Prop where
  os : w'.os = w.os
  tape : w'.tape = w.tape
  output : w'.output = w.output
  size : w.heap.size ≤ w'.heap.size
  sub : ∀ b, Z b → Z' b
  back : ∀ b, Z' b → Z b ∨ w.heap.size ≤ b ∨ ∃ o, liveAt H o ∧ m o = b
  kept : ∀ b, Z b → w'.heap[b]? = w.heap[b]?
  rest : ∀ b, b < w.heap.size → (∀ o, liveAt H o → m o ≠ b) → w'.heap[b]? = w.heap[b]?
  len : H.length ≤ H'.length
  evol : ∀ o ob ob', H[o]? = some ob → H'[o]? = some ob' → Evol w w' ob (m o) ob' (m' o)
  new : ∀ o, liveAt H' o → (liveAt H o ∧ m' o = m o) ∨ w.heap.size ≤ m' o

theorem Evol.refl (w : World) (ob : HO) (b : Nat) : Evol w w ob b ob b := by
  cases ob <;> simp [Evol]

theorem Ext.refl (w : World) (Z : Nat → Prop) (m : Nat → Nat) (H : List HO) : Ext w Z m H w Z m H :=
  ⟨rfl, rfl, rfl, Nat.le_refl _, fun _ h => h, fun _ h => .inl h, fun _ _ => rfl, fun _ _ _ => rfl, Nat.le_refl _,
   fun o ob ob' h h' => by rw [h] at h'; cases h'; exact Evol.refl _ _ _, fun o h => .inl ⟨h, rfl⟩⟩

theorem Evol.trans {w w1 w2 : World} {a b c : HO} {ba bb bc : Nat} (h : Evol w w1 a ba b bb) (k : Evol w1 w2 b bb c bc) : Evol w w2 a ba c bc := by
  cases a <;> cases b <;> cases c <;> simp_all [Evol]
  obtain ⟨_, h2, h3⟩ := h
  obtain ⟨_, k2, k3⟩ := k
  refine ⟨by omega, fun e => ?_⟩
  obtain ⟨p, q⟩ := h3 (by omega)
  obtain ⟨p', q'⟩ := k3 (by omega)
  exact ⟨by rw [p', p], by rw [← q, ← p]; exact q'⟩

theorem Evol.known {w w' : World} {Z Z' : Nat → Prop} {m m' : Nat → Nat} {H H' : List HO} (hE : Ext w Z m H w' Z' m' H') {o : Nat} (h : known H o) : known H' o := by
  obtain ⟨ob, ho, hn⟩ := h
  have hlt := (List.getElem?_eq_some_iff.1 ho).1
  have hlt' : o < H'.length := Nat.lt_of_lt_of_le hlt hE.len
  refine ⟨H'[o], List.getElem?_eq_getElem hlt', ?_⟩
  have := hE.evol o ob _ ho (List.getElem?_eq_getElem hlt')
  intro e
  rw [e] at this
  cases ob <;> simp_all [Evol]


theorem Ext.trans {w w1 w2 : World} {Z Z1 Z2 : Nat → Prop} {m m1 m2 : Nat → Nat} {H H1 H2 : List HO}
    (h : Ext w Z m H w1 Z1 m1 H1) (k : Ext w1 Z1 m1 H1 w2 Z2 m2 H2) : Ext w Z m H w2 Z2 m2 H2 := by
  have hback : ∀ o, liveAt H1 o → (liveAt H o ∧ m1 o = m o) ∨ w.heap.size ≤ m1 o := h.new
  refine ⟨k.os.trans h.os, k.tape.trans h.tape, k.output.trans h.output, Nat.le_trans h.size k.size, fun b hb => k.sub _ (h.sub _ hb), ?_, ?_, ?_, Nat.le_trans h.len k.len, ?_, ?_⟩
  · intro b hb
    rcases k.back b hb with hb | hb | ⟨o, ho, rfl⟩
    · exact h.back b hb
    · exact .inr (.inl (Nat.le_trans h.size hb))
    · rcases hback o ho with ⟨ho', e⟩ | e
      · exact .inr (.inr ⟨o, ho', e.symm⟩)
      · exact .inr (.inl e)
  · intro b hb
    exact (k.kept b (h.sub _ hb)).trans (h.kept b hb)
  · intro b hb hm
    refine (k.rest b (Nat.lt_of_lt_of_le hb h.size) fun o ho e => ?_).trans (h.rest b hb hm)
    rcases hback o ho with ⟨ho', e'⟩ | e'
    · exact hm o ho' (e'.symm.trans e)
    · omega
  · intro o ob ob2 ho ho2
    have hlt : o < H.length := (List.getElem?_eq_some_iff.1 ho).1
    have hlt1 : o < H1.length := Nat.lt_of_lt_of_le hlt h.len
    exact (h.evol o ob H1[o] ho (List.getElem?_eq_getElem hlt1)).trans (k.evol o _ ob2 (List.getElem?_eq_getElem hlt1) ho2)
  · intro o ho
    rcases k.new o ho with ⟨ho1, e⟩ | e
    · rcases hback o ho1 with ⟨ho', e'⟩ | e'
      · exact .inl ⟨ho', e.trans e'⟩
      · exact .inr (by omega)
    · exact .inr (Nat.le_trans h.size e)

theorem RepU.mono {w w' : World} {Z Z' : Nat → Prop} {m m' : Nat → Nat} {H H' : List HO} (hE : Ext w Z m H w' Z' m' H') {u : U} {v : Value}
    (h : RepU w Z m H u v) : RepU w' Z' m' H' u v := by
  induction h with
  | f x v h => exact .f x v (h.mono hE.sub hE.kept)
  | agg cs vs hl hr ih => exact .agg cs vs hl ih
  | tup cs vs hl hr ih => exact .tup cs vs hl ih
  | hs o gen off len v h1 ho hg hv =>
    have hk' := Evol.known hE ho
    obtain ⟨ob, hob, hnf⟩ := ho
    refine .hs o gen off len v h1 hk' (fun sz n g e => ?_) (fun sz n g e eg => ?_)
    · have hev := hE.evol o _ _ hob e
      cases ob with
      | dead => simp [Evol] at hev
      | free => exact absurd rfl hnf
      | box cs => simp [Evol] at hev
      | arr sz1 n1 g1 =>
        simp only [Evol] at hev
        have := hg _ _ _ hob
        omega
    · have hev := hE.evol o _ _ hob e
      cases ob with
      | dead => simp [Evol] at hev
      | free => exact absurd rfl hnf
      | box cs => simp [Evol] at hev
      | arr sz1 n1 g1 =>
        simp only [Evol] at hev
        have hle := hg _ _ _ hob
        have hn : n = n1 := by omega
        subst hn
        obtain ⟨p, q⟩ := hev.2.2 rfl
        obtain ⟨h1, A, c, h2, h3, h4, h5⟩ := hv _ _ _ hob (by omega)
        rw [← hev.1] at h4 h5
        refine ⟨h1, A, c, h2, h3, fun hc => ?_, ?_⟩
        · rw [p]; exact h4 hc
        · rw [p, q]; exact h5
  | hp o off v h1 ho hv =>
    have hk' := Evol.known hE ho
    obtain ⟨ob, hob, hnf⟩ := ho
    refine .hp o off v h1 hk' (fun cs e => ?_)
    have hev := hE.evol o _ _ hob e
    cases ob with
    | dead => simp [Evol] at hev
    | free => exact absurd rfl hnf
    | box cs => simp only [Evol] at hev; rw [hev.2]; exact hv _ hob
    | arr sz1 n1 g1 => simp [Evol] at hev
  | ep o gen i off v h1 ho hg hv =>
    have hk' := Evol.known hE ho
    obtain ⟨ob, hob, hnf⟩ := ho
    refine .ep o gen i off v h1 hk' (fun sz n g e => ?_) (fun sz n g e eg => ?_)
    · have hev := hE.evol o _ _ hob e
      cases ob with
      | dead => simp [Evol] at hev
      | free => exact absurd rfl hnf
      | box cs => simp [Evol] at hev
      | arr sz1 n1 g1 =>
        simp only [Evol] at hev
        have := hg _ _ _ hob
        omega
    · have hev := hE.evol o _ _ hob e
      cases ob with
      | dead => simp [Evol] at hev
      | free => exact absurd rfl hnf
      | box cs => simp [Evol] at hev
      | arr sz1 n1 g1 =>
        simp only [Evol] at hev
        have hle := hg _ _ _ hob
        have hn : n = n1 := by omega
        subst hn
        obtain ⟨p, q⟩ := hev.2.2 rfl
        have := hv _ _ _ hob (by omega)
        rw [p, hev.1]; exact this
  | va cs a hZ V hV hr =>
    refine .va cs a (fun hne => ⟨hE.sub _ (hZ hne).1, (hZ hne).2⟩) V (fun j u hu => ?_) fun j u hu => (hr j u hu).mono hE.sub hE.kept
    have hne : cs ≠ [] := by rintro rfl; simp at hu
    have := hV j u hu
    unfold World.cell? at *
    rw [hE.kept _ (hZ hne).1]; exact this
  | nilp => exact .nilp
  | nils A => exact .nils A
  | fn f us vs hl hr ih => exact .fn f us vs hl ih
  | nilfn => exact .nilfn
  | undef => exact .undef
  | bad v => exact .bad v

/-- An object in its block. -/
def ObOK (w : World) (Z : Nat → Prop) (m : Nat → Nat) (H : List HO) (ob : HO) (b : Nat) : Prop :=
  match ob with
  | .dead | .free => True
  | .box cs => ∃ c el fr, w.heap[b]? = some (.cells c el fr) ∧ (∀ j, j < c.size → w.frozen? ⟨b, j, none⟩ = false) ∧ c.size = cs.length ∧ ∀ (j : Nat) (u : U), cs[j]? = some u → ∃ v, c[j]? = some v ∧ RepU w Z m H u v
  | .arr sz n g => sz ≠ 0 ∧ ∃ c el fr, w.heap[b]? = some (.cells c el fr) ∧ (∀ j, j < c.size → w.frozen? ⟨b, j, none⟩ = false) ∧ n * sz ≤ c.size ∧
      (∀ i, i < n → (g i).cells.length = sz) ∧ ∀ (i j : Nat) (u : F), i < n → (g i).cells[j]? = some u → cellF u = true ∧ ∃ v, c[i * sz + j]? = some v ∧ RepF w Z u v

/-- The heap of the walk lies in memory. -/
structure HOK (w : World) (Z : Nat → Prop) (m : Nat → Nat) (H : List HO) : Prop where
  zlt : ∀ b, Z b → b < w.heap.size
  apart : ∀ o, liveAt H o → ¬ Z (m o)
  inj : ∀ o o', liveAt H o → liveAt H o' → m o = m o' → o = o'
  ob : ∀ o ob, H[o]? = some ob → ObOK w Z m H ob (m o)

end Go.Proofs.Ytjbilidfnfnpfaa.R
