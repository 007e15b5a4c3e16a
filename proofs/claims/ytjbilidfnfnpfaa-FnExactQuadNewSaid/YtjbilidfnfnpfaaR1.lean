/-
  The own reflective walk, part 1: data, abstract values, abstract heap, the evaluator.
  Generic: nothing here speaks of one program.
-/
import Derived.Calls
import Derived.Orders
import Derived.Below
namespace Go.Proofs.Ytjbilidfnfnpfaa.R
open Go
noncomputable section

/-- Data that can be read. A slice: its length and its elements. -/
inductive F where
  | bool (b : Bool)
  | int (k : IntKind) (n : Int)
  | str (s : ByteArray)
  | sl (n : Nat) (g : Nat → F)
  | agg (cs : List F)
  | tup (vs : List F)

def F.cells : F → List F
  | .agg cs => cs
  | x => [x]

/-- Values of the walk. -/
inductive U where
  | f (x : F)
  | agg (cs : List U)
  | tup (vs : List U)
  | hs (o gen off len : Nat)
  | hp (o off : Nat)
  | ep (o gen i off : Nat)
  | va (cs : List F)
  | nilp
  | nils
  | fn (f : FuncId) (cap : List U)
  | nilfn
  | undef
  | bad

def U.cells : U → List U
  | .agg cs => cs
  | .f (.agg cs) => cs.map .f
  | x => [x]

/-- Objects of the walk's heap. -/
inductive HO where
  | dead
  | free
  | box (cs : List U)
  | arr (sz n : Nat) (g : Nat → F)

structure St where
  tmps : List U
  heap : List HO

/-- What the walk knows of a type. -/
inductive UK where
  | bool | int (k : IntKind) | str
  | slice (e : TypeId) | struct (fs : List (Nat × TypeId)) | array (n : Nat) (e : TypeId) | ptr (e : TypeId)
  | other
structure TI where
  uk : UK
  size : Nat
  bytes : Nat
  zero : List Value

def ukOf : TypeDesc → UK
  | .bool => .bool
  | .int k => .int k
  | .string => .str
  | .slice e => .slice e
  | .struct fs => .struct (fs.toList.map fun f => (f.offset, f.type))
  | .array n e => .array n e
  | .pointer e => .ptr e
  | _ => .other

def tiOf (P : Program) (t : TypeId) : Option TI :=
  match P.underlying t, P.info? t with
  | some d, some i => match i.zero with
    | some z => some ⟨ukOf d, i.size, i.bytes, z.cells.toList⟩
    | none => none
  | _, _ => none

def TI.isAgg (ti : TI) : Bool := match ti.uk with | .struct _ | .array _ _ => true | _ => false

def cv : Value → U
  | .bool b => .f (.bool b)
  | .int k n => .f (.int k n)
  | .string s => .f (.str s)
  | .slice none 0 0 => .nils
  | .pointer none => .nilp
  | .nilFunc => .nilfn
  | _ => .bad

def St.ev (st : St) : Operand → U
  | .tmp t => st.tmps.getD t .bad
  | .const v => cv v
  | .func f => .fn f []
  | .global _ => .bad

def St.put (st : St) (d : Option Tmp) (u : U) : St :=
  match d with
  | some d => { st with tmps := st.tmps.set d u }
  | none => st

/-- A new object: in the place that was kept for it, or behind all others. -/
def St.new (st : St) (slot : Option Nat) (ob : HO) : Nat × St :=
  match slot with
  | some k => (k, { st with heap := st.heap.set k ob })
  | none => (st.heap.length, { st with heap := st.heap ++ [ob] })

def F.dflt : F := .bool false
/-- The elements of a list, as a slice tells them. -/
def lget (l : List F) (i : Nat) : F := l.getD i .dflt
/-- The same elements from another place on. -/
def offF (off : Nat) (g : Nat → F) : Nat → F := match off with
  | 0 => g
  | o + 1 => fun j => g (o + 1 + j)
theorem offF_app (off : Nat) (g : Nat → F) (j : Nat) : offF off g j = g (off + j) := by
  cases off with
  | zero => simp [offF]
  | succ o => rfl

mutual
def toF (H : List HO) : U → Option F
  | .f x => some x
  | .agg us => (toFs H us).map .agg
  | .tup us => (toFs H us).map .tup
  | .nils => some (.sl 0 fun _ => .bool false)
  | .hs o gen off len => match H[o]? with
    | some (.arr _ n g) => if gen = n then some (.sl len (offF off g)) else none
    | _ => none
  | _ => none
def toFs (H : List HO) : List U → Option (List F)
  | [] => some []
  | u :: us => match toF H u, toFs H us with
    | some x, some xs => some (x :: xs)
    | _, _ => none
end

def bsel {ρ : Type} (b : Bool) (x y : Option ρ) : Option ρ := cond b x y

mutual
/-- The same, told on. -/
def toFC {ρ : Type} (H : List HO) : U → (F → Option ρ) → Option ρ
  | .f x, K => K x
  | .agg us, K => toFsC H us fun xs => K (.agg xs)
  | .tup us, K => toFsC H us fun xs => K (.tup xs)
  | .nils, K => K (.sl 0 fun _ => .bool false)
  | .hs o gen off len, K => match H[o]? with
    | some (.arr _ n g) => bsel (decide (gen = n)) (K (.sl len (offF off g))) none
    | _ => none
  | _, _ => none
def toFsC {ρ : Type} (H : List HO) : List U → (List F → Option ρ) → Option ρ
  | [], K => K []
  | u :: us, K => toFC H u fun x => toFsC H us fun xs => K (x :: xs)
end

mutual
theorem toFC_some {ρ : Type} {H : List HO} {r : ρ} : ∀ (u : U) (K : F → Option ρ), toFC H u K = some r → ∃ x, toF H u = some x ∧ K x = some r
  | .f x, K, h => ⟨x, rfl, h⟩
  | .agg us, K, h => by
    obtain ⟨xs, h1, h2⟩ := toFsC_some us _ h
    exact ⟨.agg xs, by simp only [toF, h1, Option.map_some], h2⟩
  | .tup us, K, h => by
    obtain ⟨xs, h1, h2⟩ := toFsC_some us _ h
    exact ⟨.tup xs, by simp only [toF, h1, Option.map_some], h2⟩
  | .nils, K, h => ⟨_, rfl, h⟩
  | .hs o gen off len, K, h => by
    simp only [toFC] at h
    split at h
    · rename_i sz n g he
      by_cases hg : gen = n
      · rw [decide_eq_true hg] at h
        exact ⟨_, by simp only [toF, he, if_pos hg], h⟩
      · rw [decide_eq_false hg] at h; cases h
    · cases h
  | .hp _ _, K, h => by simp only [toFC] at h; cases h
  | .ep _ _ _ _, K, h => by simp only [toFC] at h; cases h
  | .va _, K, h => by simp only [toFC] at h; cases h
  | .nilp, K, h => by simp only [toFC] at h; cases h
  | .fn _ _, K, h => by simp only [toFC] at h; cases h
  | .nilfn, K, h => by simp only [toFC] at h; cases h
  | .undef, K, h => by simp only [toFC] at h; cases h
  | .bad, K, h => by simp only [toFC] at h; cases h
theorem toFsC_some {ρ : Type} {H : List HO} {r : ρ} : ∀ (us : List U) (K : List F → Option ρ), toFsC H us K = some r → ∃ xs, toFs H us = some xs ∧ K xs = some r
  | [], K, h => ⟨[], rfl, h⟩
  | u :: us, K, h => by
    obtain ⟨x, h1, h2⟩ := toFC_some u _ h
    obtain ⟨xs, h3, h4⟩ := toFsC_some us _ h2
    exact ⟨x :: xs, by simp only [toFs, h1, h3], h4⟩
end

mutual
/-- The objects whose slices a value holds. -/
def objs : U → List Nat
  | .agg us => objsAll us
  | .tup us => objsAll us
  | .hs o _ _ _ => [o]
  | _ => []
def objsAll : List U → List Nat
  | [] => []
  | u :: us => objs u ++ objsAll us
end

mutual
def scalar : F → Bool
  | .bool _ | .int _ _ | .str _ => true
  | .sl _ _ => false
  | .agg cs => scalars cs
  | .tup cs => scalars cs
def scalars : List F → Bool
  | [] => true
  | x :: xs => scalar x && scalars xs
end

/-- Is it what one cell holds? -/
def cellF : F → Bool
  | .bool _ | .int _ _ | .str _ | .sl _ _ => true
  | _ => false
def cellU : U → Bool
  | .f x => cellF x
  | .agg _ | .tup _ | .undef | .bad => false
  | _ => true

def killAll (H : List HO) : List Nat → List HO
  | [] => H
  | o :: os => killAll (H.set o .dead) os

/-- What is known of a function: of data, data (where the first answers true); or of values and the heap. -/
inductive Sp where
  | none
  | pure (pre : List F → Bool) (res : List F → F)
  | shared (pre : List U → List HO → Bool) (res : List U → List HO → U × List HO)
  /-- a method of a box that is lent: by the box's fields and the arguments, the answer and the fields -/
  | ptr (pre : List F → List F → Bool) (res : List F → List F → F × List F)
  /-- a new box: its fields -/
  | new (pre : List F → Bool) (res : List F → List F)
  /-- the answer holds at most one slice, and that is the caller's own: told by `place` -/
  | own (pre : List F → Bool) (c : List F → Bool) (r1 r2 : List F → F)
  /-- writes into a slice that is lent, anywhere among the arguments (its object is told as 0); or with no slice at all -/
  | lent (sz : Nat) (pre : List U → Nat → (Nat → F) → Bool) (res : List U → Nat → (Nat → F) → F × (Nat → F)) (pre0 : List F → Bool) (res0 : List F → F)
  /-- writes into a slice that is lent: by its length, elements and the other arguments, the answer and the elements -/
  | arrw (sz : Nat) (pre : Nat → (Nat → F) → List F → Bool) (res : Nat → (Nat → F) → List F → F × (Nat → F))
abbrev Env := FuncId → Sp

theorem bsel_true {ρ : Type} (x y : Option ρ) : bsel true x y = x := rfl
theorem bsel_false {ρ : Type} (x y : Option ρ) : bsel false x y = y := rfl
theorem bsel_some {ρ : Type} {b : Bool} {x : Option ρ} {r : ρ} (h : bsel b x Option.none = some r) : b = true ∧ x = some r := by
  cases b with
  | true => exact ⟨rfl, h⟩
  | false => cases h

def asB (u : U) : Option Bool := match u with | .f (.bool b) => some b | _ => none
def asI (u : U) : Option (IntKind × Int) := match u with | .f (.int k n) => some (k, n) | _ => none

def isU8 : F → Bool | .int .u8 _ => true | _ => false
def bytesOfF (n : Nat) (g : Nat → F) : ByteArray :=
  ⟨((List.range n).map fun i => match g i with | .int .u8 b => UInt8.ofNat b.toNat | _ => 0).toArray⟩

/-- Sizes end here; closed, so that nobody counts up to it. -/
theorem limit_ex : ∃ n : Nat, n = 2 ^ 44 := ⟨_, rfl⟩
def limit : Nat := Classical.choose limit_ex
theorem limit_eq : (limit : Int) = 17592186044416 := by
  have h := Classical.choose_spec limit_ex
  unfold limit
  rw [h]
  decide

/-- The element's cells, one cell more. -/
def setFs (cs : List F) (off : Nat) : List F → List F
  | [] => cs
  | v :: vs => setFs (cs.set off v) (off + 1) vs
def setUs (cs : List U) (off : Nat) : List U → List U
  | [] => cs
  | v :: vs => setUs (cs.set off v) (off + 1) vs
def mkF (agg : Bool) (cs : List F) : F := if agg then .agg cs else cs.headD (.bool false)
/-- The cells of elements, element by element. -/
def chunks (agg : Bool) (sz : Nat) : Nat → List F → List F
  | 0, _ => []
  | n + 1, xs => mkF agg (xs.take sz) :: chunks agg sz n (xs.drop sz)
theorem chunks_get (agg : Bool) (sz : Nat) : ∀ (n : Nat) (xs : List F) (i : Nat), i < n → lget (chunks agg sz n xs) i = mkF agg ((xs.drop (i * sz)).take sz)
  | 0, _, i, h => by omega
  | n + 1, xs, 0, _ => by simp [chunks, lget]
  | n + 1, xs, i + 1, h => by
    have := chunks_get agg sz n (xs.drop sz) i (by omega)
    simp only [chunks, lget, List.getD_cons_succ] at this ⊢
    rw [this, List.drop_drop]
    congr 3
    rw [Nat.add_mul]; omega
def mkU (agg : Bool) (cs : List U) : U := if agg then .agg cs else cs.headD .bad


def isAggF : F → Bool | .agg _ => true | _ => false
def isAggU : U → Bool | .agg _ => true | .f (.agg _) => true | _ => false
def byteAt (s : ByteArray) (i : Int) : Int := (s.data.toList.getD i.toNat 0).toNat
def bitsOp (op : BinOp) (k : IntKind) (x y : Int) : Int :=
  let a := BitVec.ofInt k.bits x
  let b := BitVec.ofInt k.bits y
  match op with
  | .and => k.wrap (a &&& b).toNat
  | .or => k.wrap (a ||| b).toNat
  | .xor => k.wrap (a ^^^ b).toNat
  | _ => k.wrap (a &&& ~~~b).toNat
def partF (P : Program) (t : TypeId) (xs : List F) (off : Nat) : List F := (xs.drop off).take (P.cellsOf t)
def eqVs (P : Program) (E : TypeId → List F → List F → Option Bool) : List Field → List F → List F → Option Bool
  | [], _, _ => some true
  | f :: fs, xs, ys =>
    if f.name == "_" || decide (xs.length < f.offset + P.cellsOf f.type) || decide (ys.length < f.offset + P.cellsOf f.type) then none else
    match E f.type (partF P f.type xs f.offset) (partF P f.type ys f.offset), eqVs P E fs xs ys with
    | some a, some b => some (a && b)
    | _, _ => none
/-- '==' of cells at a type of whole numbers, bools, strings, and structs of these. -/
def eqV (P : Program) : Nat → TypeId → List F → List F → Option Bool
  | 0, _, _, _ => none
  | d + 1, t, xs, ys => match P.underlying t, xs, ys with
    | some .bool, [.bool a], [.bool b] => some (a == b)
    | some (.int _), [.int k a], [.int k' b] => if k = k' then some (a == b) else none
    | some .string, [.str a], [.str b] => some (a == b)
    | some (.struct fs), xs, ys => if P.stoodInHeld t || xs.length != P.cellsOf t || ys.length != P.cellsOf t then none else eqVs P (eqV P d) fs.toList xs ys
    | _, _, _ => none

def intOf : F → Int | .int _ n => n | _ => 0
def boolOf : F → Bool | .bool b => b | _ => false
def strOf : F → ByteArray | .str s => s | _ => ⟨#[]⟩
def lenOf : F → Nat | .sl n _ => n | _ => 0
def elOf : F → Nat → F | .sl _ g => g | _ => fun _ => .dflt
/-- Is it what a cell of this zero value's kind holds? -/
def okV : Value → F → Bool
  | .int k _, .int k' _ => decide (k = k')
  | .bool _, .bool _ => true
  | .string _, .str _ => true
  | .slice _ _ _, .sl _ _ => true
  | _, _ => false
/-- The same, in that kind's form. -/
def coV : Value → F → F
  | .int k _, x => .int k (intOf x)
  | .bool _, x => .bool (boolOf x)
  | .string _, x => .str (strOf x)
  | .slice _ _ _, x => .sl (lenOf x) (elOf x)
  | _, x => x
theorem coV_eq {z : Value} {x : F} (h : okV z x = true) : coV z x = x := by
  unfold okV at h
  split at h
  · have := of_decide_eq_true h; subst this; rfl
  · rfl
  · rfl
  · rfl
  · cases h
def okCells : List Value → List F → Bool
  | [], _ => true
  | z :: zs, cs => okV z (cs.headD .dflt) && okCells zs cs.tail
def coCells : List Value → List F → List F
  | [], _ => []
  | z :: zs, cs => coV z (cs.headD .dflt) :: coCells zs cs.tail
theorem coCells_eq : ∀ (zs : List Value) (cs : List F), zs.length ≤ cs.length → okCells zs cs = true → coCells zs cs = cs.take zs.length
  | [], cs, _, _ => by simp [coCells]
  | z :: zs, [], h, _ => by simp at h
  | z :: zs, c :: cs, h, ho => by
    simp only [okCells, Bool.and_eq_true, List.headD_cons, List.tail_cons] at ho
    simp only [coCells, List.headD_cons, List.tail_cons, List.length_cons, List.take_succ_cons]
    rw [coV_eq ho.1, coCells_eq zs cs (by simpa using h) ho.2]

mutual
/-- The objects that a value names. -/
def refs : U → List Nat
  | .agg us => refsAll us
  | .tup us => refsAll us
  | .fn _ us => refsAll us
  | .hs o _ _ _ => [o]
  | .hp o _ => [o]
  | .ep o _ _ _ => [o]
  | _ => []
def refsAll : List U → List Nat
  | [] => []
  | u :: us => refs u ++ refsAll us
end
def idx : List Nat → Nat → Nat
  | [], _ => 0
  | x :: xs, o => if Nat.beq x o then 0 else idx xs o + 1
def hasN : List Nat → Nat → Bool
  | [], _ => false
  | x :: xs, o => Nat.beq x o || hasN xs o
mutual
/-- Values, their objects numbered anew. -/
def renU (ks : List Nat) : U → U
  | .agg us => .agg (renUs ks us)
  | .tup us => .tup (renUs ks us)
  | .fn f us => .fn f (renUs ks us)
  | .hs o g f l => .hs (idx ks o) g f l
  | .hp o f => .hp (idx ks o) f
  | .ep o g i f => .ep (idx ks o) g i f
  | .f x => .f x
  | .va cs => .va cs
  | .nilp => .nilp
  | .nils => .nils
  | .nilfn => .nilfn
  | .undef => .undef
  | .bad => .bad
def renUs (ks : List Nat) : List U → List U
  | [] => []
  | u :: us => renU ks u :: renUs ks us
end
mutual
/-- Data that hold no memory. -/
def scal0 : F → Bool
  | .bool _ | .int _ _ | .str _ => true
  | .sl n _ => Nat.beq n 0
  | .agg cs => scal0s cs
  | .tup _ => false
def scal0s : List F → Bool
  | [] => true
  | x :: xs => scal0 x && scal0s xs
end

section
variable {ρ : Type}

/-- An address's cells, read. -/
def evLoad (ti : TI) (u : U) (st : St) (K : U → St → Option ρ) : Option ρ :=
  match u with
  | .hp o off => match st.heap[o]? with
    | some (.box cs) => bsel (decide (off + ti.size ≤ cs.length)) (bsel (ti.isAgg || ti.size == 1) (K (mkU ti.isAgg ((cs.drop off).take ti.size)) st) none) none
    | _ => none
  | .va cs => bsel (decide (ti.size ≤ cs.length)) (bsel (ti.isAgg || ti.size == 1) (bsel (ti.zero.length == ti.size && okCells ti.zero cs) (K (.f (mkF ti.isAgg (coCells ti.zero cs))) st) none) none) none
  | .ep o gen i off => match st.heap[o]? with
    | some (.arr sz n g) =>
      bsel (decide (gen = n)) (bsel (decide (i < n)) (bsel (decide (off + ti.size ≤ sz)) (bsel (decide ((g i).cells.length = sz)) (bsel (ti.isAgg || ti.size == 1)
        (bsel (ti.zero.length == ti.size && okCells ti.zero ((g i).cells.drop off)) (K (.f (mkF ti.isAgg (coCells ti.zero ((g i).cells.drop off)))) st) none) none) none) none) none) none
    | _ => none
  | _ => none

def putCells (x : F) (off : Nat) (xs : List F) : F := match x with
  | .agg cs => .agg (setFs cs off xs)
  | _ => xs.headD .dflt

/-- The element with cells written; an element that is written whole. -/
def putEl (ag whole : Bool) (x : F) (off : Nat) (xs : List F) : F := match whole with
  | true => mkF ag xs
  | false => putCells x off xs

def evStore (ti : TI) (u x : U) (st : St) (K : U → St → Option ρ) : Option ρ :=
  match u with
  | .hp o off => match st.heap[o]? with
    | some (.box cs) => bsel (decide (off + ti.size ≤ cs.length)) (bsel (decide (x.cells.length = ti.size)) (bsel (x.cells.all cellU) (K .undef { st with heap := st.heap.set o (.box (setUs cs off x.cells)) }) none) none) none
    | _ => none
  | .ep o gen i off => match st.heap[o]?, toFs [] x.cells with
    | some (.arr sz n g), some xs =>
      bsel (decide (gen = n)) (bsel (decide (i < n)) (bsel (decide (off + ti.size ≤ sz)) (bsel (decide ((g i).cells.length = sz)) (bsel (decide (xs.length = ti.size)) (bsel ((isAggF (g i) || (sz == 1 && ti.size == 1)) && xs.all cellF)
        (K .undef { st with heap := st.heap.set o (.arr sz n fun j => if j = i then putEl ti.isAgg (Nat.beq ti.size sz && (ti.isAgg || Nat.beq sz 1)) (g i) off xs else g j) }) none) none) none) none) none) none
    | _, _ => none
  | _ => none

def evIndexAddr (ty : TypeId → Option TI) (t : TypeId) (x ix : U) (st : St) (K : U → St → Option ρ) : Option ρ :=
  match ty t, ix with
  | some ti, .f (.int _ i) =>
    match ti.uk with
    | .slice e => match ty e, x with
      | some te, .f (.sl n g) =>
        bsel (decide (0 ≤ i)) (bsel (decide (i < n)) (bsel (decide ((g i.toNat).cells.length = te.size)) (K (.va (g i.toNat).cells) st) none) none) none
      | some te, .hs o gen off len => match st.heap[o]? with
        | some (.arr sz n _) =>
          bsel (decide (gen = n)) (bsel (decide (0 ≤ i)) (bsel (decide (i < len)) (bsel (decide (sz = te.size)) (K (.ep o gen (off + i.toNat) 0) st) none) none) none) none
        | _ => none
      | _, _ => none
    | .array n e => match ty e, x with
      | some te, .hp o off => match st.heap[o]? with
        | some (.box _) => bsel (decide (0 ≤ i)) (bsel (decide (i < n)) (K (.hp o (off + i.toNat * te.size)) st) none) none
        | _ => none
      | some te, .va cs => bsel (decide (0 ≤ i)) (bsel (decide (i < n)) (bsel (decide (i.toNat * te.size < cs.length)) (K (.va (cs.drop (i.toNat * te.size))) st) none) none) none
      | _, _ => none
    | _ => none
  | _, _ => none

def evFieldAddr (ty : TypeId → Option TI) (s : TypeId) (x : U) (f : Nat) (st : St) (K : U → St → Option ρ) : Option ρ :=
  match ty s with
  | some ti => match ti.uk with
    | .struct fs => match fs[f]? with
      | some (off, ft) => match ty ft with
        | some tf => bsel (tf.size != 0) (match x with
          | .hp o k => match st.heap[o]? with
            | some (.box _) => K (.hp o (k + off)) st
            | _ => none
          | .va cs => bsel (decide (off < cs.length)) (K (.va (cs.drop off)) st) none
          | .ep o gen i k => match st.heap[o]? with
            | some (.arr _ n _) => bsel (decide (gen = n)) (K (.ep o gen i (k + off)) st) none
            | _ => none
          | _ => none) none
        | none => none
      | none => none
    | _ => none
  | none => none

/-- The bounds of a slice expression: given ones, else what stands for them. -/
def bnd : Option U → Int → Option Int
  | none, d => some d
  | some (.f (.int _ i)), _ => some i
  | _, _ => none

def evSlice (ty : TypeId → Option TI) (t : TypeId) (x : U) (lo hi mx : Option U) (st : St) (K : U → St → Option ρ) : Option ρ :=
  match ty t with
  | none => none
  | some ti =>
  match ti.uk, x with
  | .str, .f (.str s) => match mx, bnd lo 0, bnd hi s.size with
    | none, some l, some h => bsel (decide (0 ≤ l)) (bsel (decide (l ≤ h)) (bsel (decide (h ≤ s.size)) (K (.f (.str (s.extract l.toNat h.toNat))) st) none) none) none
    | _, _, _ => none
  | .slice e, .f (.sl n g) => match ty e, mx, bnd lo 0, bnd hi n with
    | some te, none, some l, some h => bsel (decide (0 ≤ l)) (bsel (decide (l ≤ h)) (bsel (decide (h ≤ n)) (bsel (decide ((g l.toNat).cells.length = te.size) || decide (l = h) || decide (l = 0))
        (K (.f (.sl (h.toNat - l.toNat) fun j => g (l.toNat + j))) st) none) none) none) none
    | some _, some (.f (.int _ 0)), some l, some h => bsel hi.isSome (bsel (decide (l = 0)) (bsel (decide (h = 0)) (K .nils st) none) none) none
    | _, _, _, _ => none
  | .slice e, .hs o gen off len => match st.heap[o]?, ty e with
    | some (.arr sz n _), some te => bsel (decide (gen = n)) (bsel (decide (sz = te.size)) (match mx, bnd lo 0, bnd hi len with
      | none, some l, some h => bsel (decide (0 ≤ l)) (bsel (decide (l ≤ h)) (bsel (decide (h ≤ len)) (K (.hs o gen (off + l.toNat) (h.toNat - l.toNat)) st) none) none) none
      | some (.f (.int _ 0)), some l, some h => bsel hi.isSome (bsel (decide (l = 0)) (bsel (decide (h = 0)) (K .nils st) none) none) none
      | _, _, _ => none) none) none
    | _, _ => none
  | .slice e, .nils => match ty e, mx, bnd lo 0, bnd hi 0 with
    | some _, none, some l, some h => bsel (decide (l = 0)) (bsel (decide (h = 0)) (K .nils st) none) none
    | some _, some (.f (.int _ 0)), some l, some h => bsel hi.isSome (bsel (decide (l = 0)) (bsel (decide (h = 0)) (K .nils st) none) none) none
    | _, _, _, _ => none
  | _, _ => none

def goodF (ag : Bool) (z : F) : Bool := z.cells.all cellF && (ag || cellF z)
def zeroF (te : TI) : Option F := (toFs [] (te.zero.map cv)).map (mkF te.isAgg)

def evMake (ty : TypeId → Option TI) (slot : Option Nat) (t : TypeId) (l c : U) (st : St) (K : U → St → Option ρ) : Option ρ :=
  match ty t, l, c with
  | some ti, .f (.int _ l), .f (.int _ c) => match ti.uk with
    | .slice e => match ty e with
      | some te => match zeroF te with
        | some z =>
          bsel (te.size != 0 && te.zero.length == te.size && (te.isAgg || te.size == 1) && goodF te.isAgg z) (bsel (decide (0 ≤ l)) (bsel (decide (l ≤ c)) (bsel (decide (c * (te.bytes + 1) ≤ limit))
            (K (.hs (st.new slot .dead).1 l.toNat 0 l.toNat) (st.new slot (.arr te.size l.toNat fun _ => z)).2) none) none) none) none
        | none => none
      | none => none
    | _ => none
  | _, _, _ => none

/-- A slice's (or a string's) elements. -/
def elems (H : List HO) : U → Option (Nat × (Nat → F))
  | .f (.sl n g) => some (n, g)
  | .f (.str s) => some (s.size, fun i => .int .u8 (byteAt s i))
  | .hs o gen off len => match H[o]? with
    | some (.arr _ n g) => if gen = n then some (len, offF off g) else none
    | _ => none
  | .nils => some (0, fun _ => .dflt)
  | _ => none

def elemsC (H : List HO) (x : U) (K : Nat → (Nat → F) → Option ρ) : Option ρ := match x with
  | .f (.sl n g) => K n g
  | .hs o gen off len => match H[o]? with
    | some (.arr _ n g) => bsel (decide (gen = n)) (K len (offF off g)) none
    | _ => none
  | .nils => K 0 fun _ => .dflt
  | _ => none
theorem elemsC_some {H : List HO} {x : U} {K : Nat → (Nat → F) → Option ρ} {r : ρ} (h : elemsC H x K = some r) : ∃ n g, elems H x = some (n, g) ∧ (∀ s, x = .f (.str s) → False) ∧ K n g = some r := by
  unfold elemsC at h
  split at h
  · exact ⟨_, _, rfl, fun s e => (by cases e), h⟩
  · split at h
    · rename_i he
      replace h := bsel_some h; obtain ⟨h1, h⟩ := h
      exact ⟨_, _, by simp only [elems, he, if_pos (of_decide_eq_true h1)], fun s e => (by cases e), h⟩
    · cases h
  · exact ⟨_, _, rfl, fun s e => (by cases e), h⟩
  · cases h

/-- What is appended: zeros, or a slice's or a string's elements. -/
def appElems (te tj : TI) (H : List HO) (x : U) : Option (Nat × (Nat → F)) :=
  match tj.uk, x with
  | .int _, .f (.int _ m) => if 0 ≤ m then (zeroF te).bind fun z => if goodF te.isAgg z then some (m.toNat, fun _ => z) else none else none
  | .int _, _ => none
  | _, _ => elems H x

/-- One element alone is told without its place. -/
def one (m : Nat) (g : Nat → F) : Nat → F := match m with
  | 1 => fun _ => g 0
  | _ => g

def evAppend (ty : TypeId → Option TI) (slot : Option Nat) (ts tx : TypeId) (s x : U) (st : St) (K : U → St → Option ρ) : Option ρ :=
  match ty ts, ty tx with
  | some ti, some tj => match ti.uk with
    | .slice e => match ty e with
      | some te =>
        match appElems te tj st.heap x with
        | none => none
        | some (m, g') =>
          bsel (te.size != 0 && te.zero.length == te.size && (te.isAgg || te.size == 1) && decide (te.bytes ≤ 65536)) (bsel (decide ((g' 0).cells.length = te.size) || decide (m = 0)) (match s with
          | .nils => bsel (decide (m = 0)) (K .nils st) (bsel (decide (((m : Nat) : Int) * (te.bytes + 1) ≤ limit))
              (K (.hs (st.new slot .dead).1 m 0 m) (st.new slot (.arr te.size m (one m g'))).2) none)
          | .hs o gen off len => match st.heap[o]? with
            | some (.arr sz n g) => bsel slot.isNone (bsel (decide (gen = n)) (bsel (decide (off = 0)) (bsel (decide (len = n)) (bsel (decide (sz = te.size)) (bsel (decide (((n + m : Nat) : Int) * (te.bytes + 1) ≤ limit))
                (K (.hs o (n + m) 0 (n + m)) { st with heap := st.heap.set o (.arr sz (n + m) fun j => if j < n then g j else one m g' (j - n)) }) none) none) none) none) none) none
            | _ => none
          | _ => none) none) none
      | none => none
    | _ => none
  | _, _ => none

def evCopy (ty : TypeId → Option TI) (ts : TypeId) (s x : U) (st : St) (K : U → St → Option ρ) : Option ρ :=
  match ty ts, elems st.heap x with
  | some ti, some (m, g') => match ti.uk with
    | .slice e => match ty e, s with
      | some te, .hs o gen off len => match st.heap[o]? with
        | some (.arr sz n g) => bsel (decide (gen = n)) (bsel (decide (sz = te.size)) (bsel (decide ((g' 0).cells.length = te.size) || decide (m = 0)) (bsel (decide (off + len ≤ n))
            (K (.f (.int .i64 (Nat.min m len : Nat))) { st with heap := st.heap.set o (.arr sz n fun j => if off ≤ j ∧ j < off + Nat.min m len then g' (j - off) else g j) }) none) none) none) none
        | _ => none
      | _, _ => none
    | _ => none
  | _, _ => none

def evConvert (ty : TypeId → Option TI) (slot : Option Nat) (src dst : TypeId) (x : U) (st : St) (K : U → St → Option ρ) : Option ρ :=
  match ty src, ty dst with
  | some ts, some td => match ts.uk, td.uk, x with
    | .int _, .int k, .f (.int _ n) => K (.f (.int k (k.wrap n))) st
    | .str, .str, .f (.str s) => K (.f (.str s)) st
    | .str, .slice e, .f (.str s) => match ty e with
      | some te => match te.uk with
        | .int .u8 => bsel (te.size == 1) (bsel (decide ((s.size : Int) ≤ limit)) (K (.hs (st.new slot .dead).1 s.size 0 s.size) (st.new slot (.arr 1 s.size fun i => .int .u8 (byteAt s i))).2) none) none
        | _ => none
      | none => none
    | .slice e, .str, x => match ty e with
      | some te => match te.uk with
        | .int .u8 => elemsC st.heap x fun n g => bsel (te.size == 1) (bsel ((List.range n).all fun i => isU8 (g i)) (K (.f (.str (bytesOfF n g))) st) none) none
        | _ => none
      | none => none
    | _, _, _ => none
  | _, _ => none

def evBin (P : Program) (op : BinOp) (t : TypeId) (x y : U) (st : St) (K : U → St → Option ρ) : Option ρ :=
  match x, y with
  | .f (.int k a), .f (.int k' b) =>
    match op with
    | .shl => bsel (decide (0 ≤ b)) (K (.f (.int k (k.wrap (a * 2 ^ (min b.toNat k.bits))))) st) none
    | .shr => bsel (decide (0 ≤ b)) (K (.f (.int k (a.fdiv (2 ^ (min b.toNat k.bits))))) st) none
    | _ => bsel (decide (k = k')) (match op with
      | .add => K (.f (.int k (k.wrap (a + b)))) st
      | .sub => K (.f (.int k (k.wrap (a - b)))) st
      | .mul => K (.f (.int k (k.wrap (a * b)))) st
      | .quo => bsel (b != 0) (K (.f (.int k (k.wrap (a.tdiv b)))) st) none
      | .rem => bsel (b != 0) (K (.f (.int k (a.tmod b))) st) none
      | .eql => K (.f (.bool (a == b))) st
      | .neq => K (.f (.bool (a != b))) st
      | .lss => K (.f (.bool (decide (a < b)))) st
      | .leq => K (.f (.bool (decide (a ≤ b)))) st
      | .gtr => K (.f (.bool (decide (a > b)))) st
      | .geq => K (.f (.bool (decide (a ≥ b)))) st
      | .and | .or | .xor | .andNot => K (.f (.int k (bitsOp op k a b))) st
      | _ => none) none
  | .f (.str a), .f (.str b) =>
    match op with
    | .add => bsel (decide (((a.size + b.size : Nat) : Int) ≤ limit)) (K (.f (.str (a ++ b))) st) none
    | .eql => K (.f (.bool (a.toList == b.toList))) st
    | .neq => K (.f (.bool (!(a.toList == b.toList)))) st
    | .lss => K (.f (.bool (Op.bytesLess a.toList b.toList))) st
    | .leq => K (.f (.bool (Op.bytesLess a.toList b.toList || a.toList == b.toList))) st
    | .gtr => K (.f (.bool (!(Op.bytesLess a.toList b.toList || a.toList == b.toList)))) st
    | .geq => K (.f (.bool (!Op.bytesLess a.toList b.toList))) st
    | _ => none
  | .f (.bool a), .f (.bool b) => bsel (match P.underlying t with | some .bool => true | _ => false) (match op with
    | .eql => K (.f (.bool (a == b))) st
    | .neq => K (.f (.bool (!(a == b)))) st
    | _ => none) none
  | .nilp, .nilp => bsel (match P.underlying t with | some (.pointer _) => true | _ => false) (match op with
    | .eql => K (.f (.bool true)) st
    | .neq => K (.f (.bool false)) st
    | _ => none) none
  | .nilp, .hp o _ => match st.heap[o]? with
    | some (.box _) => bsel (match P.underlying t with | some (.pointer _) => true | _ => false) (match op with
      | .eql => K (.f (.bool false)) st
      | .neq => K (.f (.bool true)) st
      | _ => none) none
    | _ => none
  | .hp o _, .nilp => match st.heap[o]? with
    | some (.box _) => bsel (match P.underlying t with | some (.pointer _) => true | _ => false) (match op with
      | .eql => K (.f (.bool false)) st
      | .neq => K (.f (.bool true)) st
      | _ => none) none
    | _ => none
  | x, y => bsel (isAggU x && isAggU y && !P.eqGuardType P.depth t) (match toFs [] x.cells, toFs [] y.cells with
    | some xs, some ys => match P.underlying t, eqV P 20 t xs ys with
      | some (.struct _), some b => (match op with
        | .eql => K (.f (.bool b)) st
        | .neq => K (.f (.bool (!b))) st
        | _ => none)
      | _, _ => none
    | _, _ => none) none

def evUn (op : UnOp) (x : U) (st : St) (K : U → St → Option ρ) : Option ρ :=
  match op, x with
  | .neg, .f (.int k n) => K (.f (.int k (k.wrap (0 - n)))) st
  | .xor, .f (.int k n) => K (.f (.int k (bitsOp .xor k (if k.signed then -1 else k.max) n))) st
  | .not, .f (.bool b) => K (.f (.bool !b)) st
  | _, _ => none

def fillU (place : Nat → Option (Nat × Nat)) (cells : List U) : List (Nat × U) → Option (List U)
  | [] => some cells
  | (i, v) :: rest => match place i with
    | none => none
    | some (off, size) => if v.cells.length = size ∧ off + size ≤ cells.length ∧ v.cells.all cellU = true then fillU place (setUs cells off v.cells) rest else none

def placesOf (ty : TypeId → Option TI) : List (Nat × TypeId) → Option (List (Nat × Nat))
  | [] => some []
  | (off, t) :: fs => match ty t, placesOf ty fs with
    | some ti, some ps => some ((off, ti.size) :: ps)
    | _, _ => none

def evBuild (ty : TypeId → Option TI) (t : TypeId) (parts : List (Nat × U)) (st : St) (K : U → St → Option ρ) : Option ρ :=
  match ty t with
  | some ti => match ti.uk with
    | .struct fs => match placesOf ty fs with
      | some ps => match fillU (ps[·]?) (ti.zero.map cv) parts with
        | some cs => K (.agg cs) st
        | none => none
      | none => none
    | .array _ e => match ty e with
      | some te => match fillU (fun i => some (i * te.size, te.size)) (ti.zero.map cv) parts with
        | some cs => K (.agg cs) st
        | none => none
      | none => none
    | _ => none
  | none => none

def evBuildSlice (ty : TypeId → Option TI) (slot : Option Nat) (t : TypeId) (len : Nat) (parts : List (Nat × U)) (st : St) (K : U → St → Option ρ) : Option ρ :=
  match ty t with
  | some ti => match ti.uk with
    | .slice e => match ty e with
      | some te => match fillU (fun i => some (i * te.size, te.size)) ((List.replicate len (te.zero.map cv)).flatten) parts with
        | some us => match toFs st.heap us with
          | some xs => bsel (te.size != 0 && te.zero.length == te.size && decide (len * te.size ≤ 2 ^ 24) && (te.isAgg || te.size == 1) && xs.all cellF && (slot.isNone || (objsAll us).isEmpty))
              (K (.hs (st.new slot .dead).1 len 0 len) ({ st with heap := killAll st.heap (objsAll us) }.new slot (.arr te.size len (lget (chunks te.isAgg te.size len xs)))).2) none
          | none => none
        | none => none
      | none => none
    | _ => none
  | none => none

def evField (ty : TypeId → Option TI) (t : TypeId) (x : U) (f : Nat) (st : St) (K : U → St → Option ρ) : Option ρ :=
  match ty t with
  | some ti => match ti.uk with
    | .struct fs => match fs[f]? with
      | some (off, ft) => match ty ft with
        | some tf => bsel (isAggU x && (tf.isAgg || tf.size == 1) && decide (off + tf.size ≤ x.cells.length)) (K (mkU tf.isAgg ((x.cells.drop off).take tf.size)) st) none
        | none => none
      | none => none
    | _ => none
  | none => none

def evIndex (ty : TypeId → Option TI) (t : TypeId) (x ix : U) (st : St) (K : U → St → Option ρ) : Option ρ :=
  match ty t, x, ix with
  | some ti, .f (.str s), .f (.int _ i) => match ti.uk with
    | .str => bsel (decide (0 ≤ i)) (bsel (decide (i < s.size)) (K (.f (.int .u8 (byteAt s i))) st) none) none
    | _ => none
  | _, _, _ => none

def minMax (mx : Bool) : Int → List U → IntKind → Option Int
  | a, [], _ => some a
  | a, .f (.int k' b) :: us, k => if k = k' then minMax mx (if mx then (if b > a then b else a) else (if b < a then b else a)) us k else none
  | _, _, _ => none

def boxF (xs : List F) : HO := .box (xs.map .f)

/-! An answer whose slice is the caller's own: `.tup []` is no slice, `.tup [sz, slice]` a new one. -/
def oneA (b : Nat) : F → U
  | .tup [] => .nils
  | .tup [.int _ _, .sl n _] => .hs b n 0 n
  | x => .f x
def oneU (b : Nat) : F → U
  | .agg es => .agg (es.map (oneA b))
  | x => oneA b x
def obsOf : List F → List HO
  | [] => []
  | .tup [.int _ sz, .sl n g] :: es => .arr sz.toNat n g :: obsOf es
  | _ :: es => obsOf es
def flatF : List F → List F
  | [] => []
  | .agg cs :: es => cs ++ flatF es
  | e :: es => e :: flatF es
def newAt (H : List HO) (slot : Option Nat) : Nat := match slot with
  | some k => k
  | none => H.length
def newObs (H : List HO) (slot : Option Nat) : List HO → List HO
  | [ob] => match slot with
    | some k => H.set k ob
    | none => H ++ [ob]
  | _ => H
def place (H : List HO) (slot : Option Nat) : F → U × List HO
  | .tup [e] => (oneU (newAt H slot) e, newObs H slot (obsOf (flatF [e])))
  | .tup es => (.tup (es.map (oneU (newAt H slot))), newObs H slot (obsOf (flatF es)))
  | _ => (.bad, H)

def evCall (C : Env) (slot : Option Nat) (f : FuncId) (us : List U) (st : St) (K : U → St → Option ρ) : Option ρ :=
  match C f with
  | .none => none
  | .pure pre res => toFsC st.heap us fun xs => bsel (pre xs) (bsel (scalar (res xs)) (K (.f (res xs)) st) (bsel (slot.isNone || (objsAll us).isEmpty) (K (.f (res xs)) { st with heap := killAll st.heap (objsAll us) }) none)) none
  | .shared pre res => bsel (slot.isNone && pre us st.heap) (K (res us st.heap).1 { st with heap := (res us st.heap).2 }) none
  | .ptr pre res => match us with
    | .hp o 0 :: us' => match st.heap[o]? with
      | some (.box cu) => match toFs [] cu, toFs [] us' with
        | some cs, some xs => bsel (slot.isNone && pre cs xs) (K (.f (res cs xs).1) { st with heap := st.heap.set o (boxF (res cs xs).2) }) none
        | _, _ => none
      | _ => none
    | _ => none
  | .new pre res => match toFs [] us with
    | some xs => bsel (slot.isNone && pre xs) (K (.hp st.heap.length 0) { st with heap := st.heap ++ [boxF (res xs)] }) none
    | none => none
  | .own pre c r1 r2 => toFsC st.heap us fun xs => bsel (pre xs) (bsel (c xs) (K (place st.heap slot (r1 xs)).1 { st with heap := (place st.heap slot (r1 xs)).2 }) (K (place st.heap slot (r2 xs)).1 { st with heap := (place st.heap slot (r2 xs)).2 })) none
  | .lent sz0 pre res pre0 res0 => match refsAll us with
    | [o] => match st.heap[o]? with
      | some (.arr sz n g) => bsel (slot.isNone && Nat.beq sz sz0) (bsel (pre (renUs [o] us) n g) (K (.f (res (renUs [o] us) n g).1) { st with heap := st.heap.set o (.arr sz n (res (renUs [o] us) n g).2) }) none) none
      | _ => none
    | [] => match toFs [] us with
      | some xs => bsel (slot.isNone && pre0 xs) (K (.f (res0 xs)) st) none
      | none => none
    | _ => none
  | .arrw sz0 pre res => match us with
    | .hs o gen off len :: us' => match st.heap[o]?, toFs [] us' with
      | some (.arr sz n g), some xs => bsel (slot.isNone && (Nat.beq sz sz0 && decide (gen = n) && decide (off = 0) && decide (len = n))) (bsel (pre n g xs) (K (.f (res n g xs).1) { st with heap := st.heap.set o (.arr sz n (res n g xs).2) }) none) none
      | _, _ => none
    | .nils :: us' => match toFs [] us' with
      | some xs => bsel (slot.isNone && pre 0 (fun _ => .dflt) xs) (K (.f (res 0 (fun _ => .dflt) xs).1) st) none
      | none => none
    | .f (.sl n _) :: us' => match toFs [] us' with
      | some xs => bsel (slot.isNone && Nat.beq n 0) (bsel (pre 0 (fun _ => .dflt) xs) (K (.f (res 0 (fun _ => .dflt) xs).1) st) none) none
      | none => none
    | _ => none

/-- One operation. -/
def evOp (P : Program) (ty : TypeId → Option TI) (C : Env) (slot : Option Nat) (o : Oper) (st : St) (K : U → St → Option ρ) : Option ρ :=
  match o.op with
  | .move x | .assign x => K (st.ev x) st
  | .pick c a b => match st.ev c with
    | .f (.bool t) => bsel t (K (st.ev a) st) (K (st.ev b) st)
    | _ => none
  | .alloc e => match ty e with
    | some te => K (.hp (st.new slot .dead).1 0) (st.new slot (.box (te.zero.map cv))).2
    | none => none
  | .box _ x => match st.ev x with
    | .bad | .undef | .tup _ | .f (.tup _) => none
    | u => K (.hp (st.new slot .dead).1 0) (st.new slot (.box u.cells)).2
  | .build t parts => evBuild ty t (parts.toList.map fun p => (p.1, st.ev p.2)) st K
  | .buildSlice t len parts => evBuildSlice ty slot t len (parts.toList.map fun p => (p.1, st.ev p.2)) st K
  | .load t a => match ty t with
    | some ti => evLoad ti (st.ev a) st K
    | none => none
  | .store t a x => match ty t with
    | some ti => bsel slot.isNone (evStore ti (st.ev a) (st.ev x) st K) none
    | none => none
  | .nilCheck x => match st.ev x with
    | .hp o k => match st.heap[o]? with
      | some (.box _) => K (.hp o k) st
      | _ => none
    | .ep o gen i k => match st.heap[o]? with
      | some (.arr _ n _) => bsel (decide (gen = n)) (K (.ep o gen i k) st) none
      | _ => none
    | .va cs => K (.va cs) st
    | .fn f cap => K (.fn f cap) st
    | _ => none
  | .binOp op t x y _ => evBin P op t (st.ev x) (st.ev y) st K
  | .unOp op _ x => evUn op (st.ev x) st K
  | .convert s d x => evConvert ty slot s d (st.ev x) st K
  | .makeFunc (.func f) first captured => bsel (first.size == 0) (K (.fn f (captured.toList.map st.ev)) st) none
  | .makeSlice t l c => evMake ty slot t (st.ev l) (st.ev c) st K
  | .slice t x lo hi mx => evSlice ty t (st.ev x) (lo.map st.ev) (hi.map st.ev) (mx.map st.ev) st K
  | .fieldAddr s x f => evFieldAddr ty s (st.ev x) f st K
  | .field t x f => evField ty t (st.ev x) f st K
  | .indexAddr t x ix => evIndexAddr ty t (st.ev x) (st.ev ix) st K
  | .index t x ix => evIndex ty t (st.ev x) (st.ev ix) st K
  | .extract t i => match st.ev t with
    | .tup us => match us[i]? with
      | some u => K u st
      | none => none
    | .f (.tup xs) => match xs[i]? with
      | some x => K (.f x) st
      | none => none
    | _ => none
  | .call c => match c.callee, c.args.toList.map st.ev, c.argTypes.toList with
    | .builtin .len, [x], [t] => match ty t with
      | some ti => match ti.uk, x with
        | .str, .f (.str s) => K (.f (.int .i64 s.size)) st
        | .slice _, .f (.sl n _) => K (.f (.int .i64 n)) st
        | .slice _, .hs o gen _ len => match st.heap[o]? with
          | some (.arr _ n _) => bsel (decide (gen = n)) (K (.f (.int .i64 len)) st) none
          | _ => none
        | .slice _, .nils => K (.f (.int .i64 0)) st
        | _, _ => none
      | none => none
    | .builtin .append, [s, x], [ts, tx] => evAppend ty slot ts tx s x st K
    | .builtin .max, .f (.int k a) :: us, _ => match minMax true a us k with
      | some r => K (.f (.int k r)) st
      | none => none
    | .builtin .min, .f (.int k a) :: us, _ => match minMax false a us k with
      | some r => K (.f (.int k r)) st
      | none => none
    | .value f, us, _ => match st.ev f with
      | .fn f cap => evCall C slot f (us ++ cap) st K
      | _ => none
    | _, _, _ => none
  | _ => none
end
end
end Go.Proofs.Ytjbilidfnfnpfaa.R
