/-
  The own reflective walk, part 15: regions in the program's order, and the machine on one frame.
-/
import Derived.Test.YtjbilidfnfnpfaaR14
namespace Go.Proofs.Ytjbilidfnfnpfaa.R
open Go
noncomputable section
set_option linter.unusedVariables false
set_option linter.unusedSimpArgs false

/-- Operations that need a place for an object. -/
def allocs : Op → Bool
  | .alloc _ | .box .. | .buildSlice .. | .makeSlice .. | .convert .. => true
  | .call c => match c.callee with
    | .builtin .append => true
    | _ => false
  | _ => false
/-- Does a call hand back a slice of the caller's own? -/
def ownCall (C : Env) : Op → Bool
  | .call c => match c.callee with
    | .value (.func f) => match C f with
      | .own .. => true
      | _ => false
    | _ => false
  | _ => false
/-- The places of a drawn region's operations. -/
def slotsOf (C : Env) (ops : Array Oper) : List Nat := (List.range ops.size).filter fun i => match ops[i]? with
  | some o => allocs o.op || ownCall C o.op
  | none => false
/-- What must have been done before, as bits. -/
def ancMask (acc : List Nat) (o : Oper) : Nat := o.after.toList.foldl (fun m e => if Region.binds .any e then (m ||| (1 <<< e.on)) ||| acc.getD e.on 0 else m) 0
def ancsGo : List Oper → List Nat → List Nat
  | [], acc => acc
  | o :: os, acc => ancsGo os (acc ++ [ancMask acc o])
def ancs (ops : Array Oper) : List Nat := ancsGo ops.toList []
def drawOk1 (ops : Array Oper) (A : List Nat) (i : Nat) (o : Oper) : Bool :=
  (o.after.all fun e => !Region.binds .any e || decide (e.on < i)) &&
  ((List.range ops.size).all fun j => !(A.getD i 0).testBit j || (o.after.any fun e => Region.binds .any e && (e.on == j || (A.getD e.on 0).testBit j))) &&
  (o.op.operands.all fun x => match x with
    | .tmp t => (List.range ops.size).all fun j => match (ops[j]?).bind (·.dst) with
      | some d => !(d == t) || (A.getD i 0).testBit j
      | none => true
    | _ => true) &&
  (match o.guard with
    | none => true
    | some (g, _) => (A.getD i 0).testBit g && decide (g < ops.size)) &&
  (match o.dst with
    | none => true
    | some d => (List.range ops.size).all fun j => j == i || !((ops[j]?).bind (·.dst) == some d))
/-- A drawn region whose operations may be told one by one. -/
def drawOk (ops : Array Oper) (A : List Nat) : Bool := (List.range ops.size).all fun i => match ops[i]? with
  | some o => drawOk1 ops A i o
  | none => false
def isStore : Op → Bool
  | .store _ _ _ => true
  | _ => false
/-- Where an operation of a drawn region leaves what it makes or changes: a store in its object, another in its own place, or (junk) nowhere. -/
def plOf (T : List U) (hl : Nat) (ops : Array Oper) (sl : List Nat) (i : Nat) : Option Nat := match ops[i]? with
  | none => none
  | some o => match o.op with
    | .store _ (.tmp t) _ => if (List.range ops.size).all fun j => !((ops[j]?).bind (·.dst) == some t) then match T.getD t .bad with
        | .hp b _ => if b < hl then some b else none
        | .ep b _ _ _ => if b < hl then some b else none
        | _ => none
      else none
    | .store _ _ _ => none
    | _ => some (hl + sl.idxOf i)
def plsOf (T : List U) (hl : Nat) (ops : Array Oper) (sl : List Nat) : List Nat → Option (List Nat)
  | [] => some []
  | i :: l => match plOf T hl ops sl i, plsOf T hl ops sl l with
    | some x, some xs => some (x :: xs)
    | _, _ => none
/-- Two that write in one place come one after the other. -/
def placesOk (A pls : List Nat) (junk n : Nat) : Bool := (List.range n).all fun i => (List.range n).all fun j => i == j || !(pls.getD i 0 == pls.getD j 0) || pls.getD i 0 == junk || (A.getD i 0).testBit j || (A.getD j 0).testBit i
/-- The places in which others write of which nobody knows when. -/
def hiddenOf (A pls : List Nat) (n i : Nat) : List Nat := (List.range n).filterMap fun j => if j == i || (A.getD i 0).testBit j || (A.getD j 0).testBit i then none else some (pls.getD j 0)
def maskH (hid : List Nat) (junk : Nat) : Nat → List HO → List HO
  | _, [] => []
  | x, ob :: obs => (if hid.elem x && !(x == junk) then .free else ob) :: maskH hid junk (x + 1) obs
def putAt {ρ : Type} (x junk : Nat) (hp : List HO) (ob : Option HO) (K : List HO → Option ρ) : Option ρ := match ob with
  | some ob => if x = junk then (match ob with
      | .free => K hp
      | _ => none) else K (hp.set x ob)
  | none => none
def slotFor (o : Op) (x : Nat) : Option Nat := if isStore o then none else some x
def putT (t : List U) (d : Option Tmp) (u : U) : List U := match d with
  | some d => t.set d u
  | none => t

section
variable {ρ : Type}
def evOps (P : Program) (ty : TypeId → Option TI) (C : Env) (ops : Array Oper) : List Nat → St → (St → Option ρ) → Option ρ
  | [], st, K => K st
  | i :: rest, st, K => match ops[i]? with
    | none => evOps P ty C ops rest st K
    | some o => match o.guard with
      | none => evOp P ty C none o st fun u st' => evOps P ty C ops rest (st'.put o.dst u) K
      | some (g, b) => match (ops[g]?).bind (·.dst) with
        | none => none
        | some d => match st.tmps.getD d .bad with
          | .f (.bool c) => bsel (c == b)
              (evOp P ty C none o (st.put (some d) (.f (.bool b))) fun u st' => evOps P ty C ops rest (st'.put o.dst u) K)
              (evOps P ty C ops rest ((st.put (some d) (.f (.bool !b))).put o.dst .undef) K)
          | .undef => evOps P ty C ops rest (st.put o.dst .undef) K
          | _ => none

/-- A region in whatever order: each operation sees what must have been done before it, and nothing else of the region. -/
def evDrawGo (P : Program) (ty : TypeId → Option TI) (C : Env) (ops : Array Oper) (A pls : List Nat) (junk : Nat) : List Nat → List U → List HO → (St → Option ρ) → Option ρ
  | [], t, hp, K => K ⟨t, hp.take junk⟩
  | i :: rest, t, hp, K => match ops[i]? with
    | none => none
    | some o => match o.guard with
      | none => evOp P ty C (slotFor o.op (pls.getD i 0)) o ⟨t, maskH (hiddenOf A pls ops.size i) junk 0 hp⟩ fun u st' =>
          putAt (pls.getD i 0) junk hp (st'.heap[pls.getD i 0]?) fun hp => evDrawGo P ty C ops A pls junk rest (putT t o.dst u) hp K
      | some (g, b) => match (ops[g]?).bind (·.dst) with
        | none => none
        | some d => match t.getD d .bad with
          | .f (.bool c) => bsel (c == b)
              (evOp P ty C (slotFor o.op (pls.getD i 0)) o ⟨t.set d (.f (.bool b)), maskH (hiddenOf A pls ops.size i) junk 0 hp⟩ fun u st' =>
                putAt (pls.getD i 0) junk hp (st'.heap[pls.getD i 0]?) fun hp => evDrawGo P ty C ops A pls junk rest (putT (t.set d (.f (.bool b))) o.dst u) hp K)
              (evDrawGo P ty C ops A pls junk rest (putT (t.set d (.f (.bool !b))) o.dst .undef) hp K)
          | .undef => evDrawGo P ty C ops A pls junk rest (putT t o.dst .undef) hp K
          | _ => none

def evReg (P : Program) (ty : TypeId → Option TI) (C : Env) (ops : Array Oper) (draw : Bool) (st : St) (K : St → Option ρ) : Option ρ := match draw with
  | false => evOps P ty C ops (List.range ops.size) st K
  | true => match drawOk ops (ancs ops), plsOf st.tmps st.heap.length ops (slotsOf C ops) (List.range ops.size) with
    | true, some pls => match placesOk (ancs ops) pls (st.heap.length + (slotsOf C ops).length) ops.size with
      | true => evDrawGo P ty C ops (ancs ops) pls (st.heap.length + (slotsOf C ops).length) (List.range ops.size) st.tmps (st.heap ++ ((slotsOf C ops).map (fun _ => .free) ++ [.free])) K
      | false => none
    | _, _ => none

mutual
/-- Does a value name objects uBelow k alone? -/
def uBelow (k : Nat) : U → Bool
  | .agg us => usBelow k us
  | .tup us => usBelow k us
  | .fn _ us => usBelow k us
  | .hs o _ _ _ => decide (o < k)
  | .hp o _ => decide (o < k)
  | .ep o _ _ _ => decide (o < k)
  | _ => true
def usBelow (k : Nat) : List U → Bool
  | [] => true
  | u :: us => uBelow k u && usBelow k us
end
def obBelow (k : Nat) : HO → Bool
  | .box cs => usBelow k cs
  | _ => true

/-- At a region that the table lists: what is of no use any more falls away. -/
def clearFrom (lv : List Nat) : Nat → List U → List U
  | _, [] => []
  | i, u :: us => (if lv.elem i then u else .bad) :: clearFrom lv (i + 1) us

def obRefs : HO → List Nat
  | .box cs => refsAll cs
  | _ => []
/-- What is named, and what that names. -/
def marks (H : List HO) : Nat → List Nat → List Nat
  | 0, ks => ks
  | n + 1, ks => marks H n (ks ++ (ks.map fun o => obRefs (H.getD o .dead)).flatten)
def renOb (ks : List Nat) : HO → HO
  | .box cs => .box (renUs ks cs)
  | .arr sz n g => .arr sz n g
  | .dead => .dead
  | .free => .free
/-- The objects that stay: those that were lent, and those that are named. -/
def keepOf (hn : Nat) (H : List HO) (us : List U) : List Nat := List.range hn ++ (List.range H.length).filter fun o => (!Nat.blt o hn) && hasN (marks H 3 (refsAll us)) o
def evGc (hn : Nat) (us : List U) (H : List HO) (ks : List Nat) (K : St → Option ρ) : Option ρ :=
  bsel (decide (hn ≤ H.length) && ((refsAll us).all (hasN ks)) && (ks.all fun o => (obRefs (H.getD o .dead)).all (hasN ks))) (K ⟨renUs ks us, ks.map fun o => renOb ks (H.getD o .dead)⟩) none

def evNorm (hn : Nat) (lv : List Nat) (k : Nat) (st : St) (K : St → Option ρ) : Option ρ :=
  bsel (Nat.ble 1000 k) (evGc hn (clearFrom lv 0 st.tmps) st.heap (keepOf hn st.heap (clearFrom lv 0 st.tmps)) K)
  (bsel (decide (hn ≤ k) && usBelow k (clearFrom lv 0 st.tmps) && (st.heap.take k).all (obBelow k)) (K ⟨clearFrom lv 0 st.tmps, st.heap.take k⟩) none)

/-- The table of a function: at which regions what is kept. -/
abbrev Tab := List (Nat × List Nat × Nat)
def Tab.at (T : Tab) (id : Nat) : Option (List Nat × Nat) := (T.find? fun p => p.1 == id).map (·.2)

/-- What a function hands back: data. -/
def wholeBox (H : List HO) (o n : Nat) : Bool := match H[o]? with
  | some (.box cs) => cs.length == n
  | _ => false
def resU (P : Program) (st : St) : List ResultVar → Option (List U)
  | [] => some []
  | .tmp t :: rs => match resU P st rs with
    | some us => some (st.tmps.getD t .bad :: us)
    | none => none
  | .cell x t :: rs => match st.tmps.getD x .bad, tiOf P t, resU P st rs with
    | .hp o 0, some ti, some us => if wholeBox st.heap o ti.size then evLoad ti (.hp o 0) st fun u _ => some (u :: us) else none
    | _, _, _ => none
def tupF : List F → F
  | [x] => x
  | xs => .tup xs
/-- What the boxes hold that a caller lent. -/
def outs (H : List HO) : List HO → Option (List F)
  | [] => some []
  | .box cs :: obs => match toFs H cs, outs H obs with
    | some xs, some os => some (.agg xs :: os)
    | _, _ => none
  | .arr _ n g :: obs => match outs H obs with
    | some os => some (.sl n g :: os)
    | none => none
  | _ :: _ => none
def outsC {ρ : Type} (H : List HO) : List HO → (List F → Option ρ) → Option ρ
  | [], K => K []
  | .box cs :: obs, K => toFsC H cs fun xs => outsC H obs fun os => K (.agg xs :: os)
  | .arr _ n g :: obs, K => outsC H obs fun os => K (.sl n g :: os)
  | _ :: _, _ => none
/-- An answer whose slice is to be the caller's own. -/
def isScal (n : Nat) (g : Nat → F) : Bool := (List.range n).all fun i => scal0 (g i)
def notTup : F → Bool | .tup _ => false | _ => true
def own1 (H : List HO) : U → Option F
  | .f x => if scal0 x && cellF x then some x else none
  | .nils => some (.tup [])
  | .hs o gen off len => match H[o]? with
    | some (.arr sz n g) => if gen = n ∧ off = 0 ∧ len = n ∧ isScal n g = true then some (.tup [.int .i64 sz, .sl n g]) else none
    | _ => none
  | _ => none
def ownL (H : List HO) : List U → Option (List F)
  | [] => some []
  | u :: us => match own1 H u, ownL H us with
    | some x, some xs => some (x :: xs)
    | _, _ => none
def ownG (H : List HO) : List U → Option (List F)
  | [] => some []
  | u :: us => match ownL H u.cells, ownG H us with
    | some a, some r => some (mkF (isAggU u) a :: r)
    | _, _ => none
def ownsA {ρ : Type} (H : List HO) : List U → (List F → Option ρ) → Option ρ
  | [], K => K []
  | .f x :: us, K => bsel (scal0 x && cellF x) (ownsA H us fun es => K (x :: es)) none
  | .nils :: us, K => ownsA H us fun es => K (.tup [] :: es)
  | .hs o gen off len :: us, K => match H[o]? with
    | some (.arr sz n g) => bsel (decide (gen = n) && decide (off = 0) && decide (len = n)) (bsel (isScal n g) (ownsA H us fun es => K (.tup [.int .i64 sz, .sl n g] :: es)) none) none
    | _ => none
  | _ :: _, _ => none
def ownsC {ρ : Type} (H : List HO) : List U → (List F → Option ρ) → Option ρ
  | [], K => K []
  | u :: us, K => ownsA H u.cells fun a => ownsC H us fun r => K (mkF (isAggU u) a :: r)
theorem outsC_some {ρ : Type} {H : List HO} {r : ρ} : ∀ (obs : List HO) (K : List F → Option ρ), outsC H obs K = some r → ∃ os, outs H obs = some os ∧ K os = some r
  | [], K, h => ⟨[], rfl, h⟩
  | .box cs :: obs, K, h => by
    simp only [outsC] at h
    obtain ⟨xs, h1, h2⟩ := toFsC_some _ _ h
    obtain ⟨os, h3, h4⟩ := outsC_some obs _ h2
    exact ⟨.agg xs :: os, by simp only [outs, h1, h3], h4⟩
  | .dead :: _, K, h => by simp [outsC] at h
  | .free :: _, K, h => by simp [outsC] at h
  | .arr _ n g :: obs, K, h => by
    simp only [outsC] at h
    obtain ⟨os, h3, h4⟩ := outsC_some obs _ h
    exact ⟨.sl n g :: os, by simp only [outs, h3], h4⟩
theorem ownsA_some {ρ : Type} {H : List HO} {r : ρ} : ∀ (us : List U) (K : List F → Option ρ), ownsA H us K = some r → ∃ es, ownL H us = some es ∧ K es = some r
  | [], K, h => ⟨[], rfl, h⟩
  | .f x :: us, K, h => by
    simp only [ownsA] at h
    replace h := bsel_some h; obtain ⟨h1, h⟩ := h
    obtain ⟨es, h2, h3⟩ := ownsA_some us _ h
    exact ⟨x :: es, by simp only [ownL, own1, h1, if_true, h2], h3⟩
  | .nils :: us, K, h => by
    simp only [ownsA] at h
    obtain ⟨es, h2, h3⟩ := ownsA_some us _ h
    exact ⟨.tup [] :: es, by simp only [ownL, own1, h2], h3⟩
  | .hs o gen off len :: us, K, h => by
    simp only [ownsA] at h
    split at h
    · rename_i sz n g ho
      replace h := bsel_some h; obtain ⟨h1, h⟩ := h
      replace h := bsel_some h; obtain ⟨h4, h⟩ := h
      simp only [Bool.and_eq_true, decide_eq_true_eq] at h1
      obtain ⟨es, h2, h3⟩ := ownsA_some us _ h
      exact ⟨_ :: es, by simp only [ownL, own1, ho, if_pos (show gen = n ∧ off = 0 ∧ len = n ∧ isScal n g = true from ⟨h1.1.1, h1.1.2, h1.2, h4⟩), h2], h3⟩
    · cases h
  | .agg _ :: _, K, h => by simp [ownsA] at h
  | .tup _ :: _, K, h => by simp [ownsA] at h
  | .hp _ _ :: _, K, h => by simp [ownsA] at h
  | .ep _ _ _ _ :: _, K, h => by simp [ownsA] at h
  | .va _ :: _, K, h => by simp [ownsA] at h
  | .nilp :: _, K, h => by simp [ownsA] at h
  | .fn _ _ :: _, K, h => by simp [ownsA] at h
  | .nilfn :: _, K, h => by simp [ownsA] at h
  | .undef :: _, K, h => by simp [ownsA] at h
  | .bad :: _, K, h => by simp [ownsA] at h
theorem ownsC_some {ρ : Type} {H : List HO} {r : ρ} : ∀ (us : List U) (K : List F → Option ρ), ownsC H us K = some r → ∃ es, ownG H us = some es ∧ K es = some r
  | [], K, h => ⟨[], rfl, h⟩
  | u :: us, K, h => by
    simp only [ownsC] at h
    obtain ⟨a, h1, h⟩ := ownsA_some _ _ h
    obtain ⟨es, h2, h3⟩ := ownsC_some us _ h
    exact ⟨_ :: es, by simp only [ownG, h1, h2], h3⟩
/-- This list of results asks for an answer of the caller's own. -/
def ownMark : ResultVar → Bool
  | .tmp t => Nat.beq t 1000000
  | _ => false
/-- What the call's rule asks for, and that the results bear no mark. -/
def oddFn (fn : Func) : Bool := fn.name == "runtime.NumGoroutine" || fn.results.toList.head?.elim false ownMark
theorem oddFn_name {fn : Func} (h : oddFn fn = false) : (fn.name == "runtime.NumGoroutine") = false := by
  unfold oddFn at h; rw [Bool.or_eq_false_iff] at h; exact h.1
theorem oddFn_mark {fn : Func} (h : oddFn fn = false) : fn.results.toList.head?.elim false ownMark = false := by
  unfold oddFn at h; rw [Bool.or_eq_false_iff] at h; exact h.2
def retOwn (P : Program) (rs : List ResultVar) (st : St) : Option F := match resU P st rs with
  | some us => if (objsAll us).length ≤ 1 then (ownG st.heap us).map .tup else none
  | none => none
def retF (P : Program) (hn : Nat) (rs : List ResultVar) (st : St) : Option F := if (rs.head?.elim false ownMark) && Nat.beq hn 0 then retOwn P rs.tail st else match resU P st rs with
  | some us => match toFs st.heap us with
    | some xs => match hn with
      | 0 => some (tupF xs)
      | n + 1 => match outs st.heap (st.heap.take (n + 1)) with
        | some os => some (.tup (tupF xs :: os))
        | none => none
    | none => none
  | none => none

/-- Where a stretch of the walk ends: at the function's end, or at a region that the table lists. -/
inductive End where
  | ret (x : F)
  | cut (items : List Item) (st : St)

def retK (P : Program) (hn : Nat) (rs : List ResultVar) (K : End → Option ρ) (st : St) : Option ρ := bsel ((rs.head?.elim false ownMark) && Nat.beq hn 0) (match resU P st rs.tail with
  | some us => bsel (decide ((objsAll us).length ≤ 1)) (ownsC st.heap us fun es => K (.ret (.tup es))) none
  | none => none) <| match resU P st rs with
  | some us => toFsC st.heap us fun xs => match hn with
    | 0 => K (.ret (tupF xs))
    | n + 1 => outsC st.heap (st.heap.take (n + 1)) fun os => K (.ret (.tup (tupF xs :: os)))
  | none => none
theorem retK_some {P : Program} {hn : Nat} {rs : List ResultVar} {K : End → Option ρ} {st : St} {r : ρ} (h : retK P hn rs K st = some r) : ∃ x, retF P hn rs st = some x ∧ K (.ret x) = some r := by
  unfold retK at h
  unfold retF
  cases hm : ((rs.head?.elim false ownMark) && Nat.beq hn 0) with
  | true =>
    rw [hm, bsel_true] at h
    simp only [if_true, retOwn]
    split at h
    · rename_i us hus
      replace h := bsel_some h; obtain ⟨h1, h⟩ := h
      obtain ⟨es, h2, h3⟩ := ownsC_some _ _ h
      exact ⟨.tup es, by simp only [hus, if_pos (of_decide_eq_true h1), h2, Option.map_some], h3⟩
    · cases h
  | false =>
  rw [hm, bsel_false] at h
  simp only [Bool.false_eq_true, if_false]
  split at h
  · rename_i us hus
    obtain ⟨xs, h1, h2⟩ := toFsC_some _ _ h
    cases hn with
    | zero => exact ⟨_, by simp only [retF, hus, h1], h2⟩
    | succ n =>
      obtain ⟨os, h3, h4⟩ := outsC_some _ _ h2
      exact ⟨_, by simp only [retF, hus, h1, h3], h4⟩
  · cases h

def run (P : Program) (ty : TypeId → Option TI) (C : Env) (T : Tab) (hn : Nat) (rs : List ResultVar) (K : End → Option ρ) : Nat → List Item → St → Option ρ
  | 0, _, _ => none
  | _ + 1, [], st => retK P hn rs K st
  | n + 1, .code c :: k, st => match c with
    | .skip => run P ty C T hn rs K n k st
    | .label _ => run P ty C T hn rs K n k st
    | .region id ops draw => match T.at id with
      | none => evReg P ty C ops draw st fun st' => run P ty C T hn rs K n k st'
      | some (lv, h) => evNorm hn lv h st fun st => K (.cut (.code (.region id ops draw) :: k) st)
    | .seq x y => run P ty C T hn rs K n (.code x :: .code y :: k) st
    | .cond c x y => match st.ev c with
      | .f (.bool b) => bsel b (run P ty C T hn rs K n (.code x :: k) st) (run P ty C T hn rs K n (.code y :: k) st)
      | _ => none
    | .block id c => run P ty C T hn rs K n (.code c :: .inBlock id :: k) st
    | .loop c => run P ty C T hn rs K n (.code c :: .inLoop c :: k) st
    | .exit id => match exitTo id k with
      | some k' => run P ty C T hn rs K n k' st
      | none => none
    | .goto l => match gotoIn l k with
      | some k' => run P ty C T hn rs K n k' st
      | none => none
    | .ret => retK P hn rs K st
    | _ => none
  | n + 1, .inBlock _ :: k, st => run P ty C T hn rs K n k st
  | n + 1, .inLoop c :: k, st => run P ty C T hn rs K n (.code c :: .inLoop c :: k) st
  | _ + 1, _ :: _, _ => none

/-- From a listed region on. -/
def runCut (P : Program) (ty : TypeId → Option TI) (C : Env) (T : Tab) (hn : Nat) (rs : List ResultVar) (K : End → Option ρ) (n : Nat) (items : List Item) (st : St) : Option ρ :=
  match items with
  | .code (.region _ ops draw) :: k => evReg P ty C ops draw st fun st' => run P ty C T hn rs K n k st'
  | _ => none

/-- Where a region stands: what is still to be done there. -/
def itemsAt (id : Nat) : Code → List Item → Option (List Item)
  | .region id' ops d, k => if id' == id then some (.code (.region id' ops d) :: k) else none
  | .seq x y, k => match itemsAt id x (.code y :: k) with
    | some r => some r
    | none => itemsAt id y k
  | .cond _ x y, k => match itemsAt id x k with
    | some r => some r
    | none => itemsAt id y k
  | .block b c, k => itemsAt id c (.inBlock b :: k)
  | .loop c, k => itemsAt id c (.inLoop c :: k)
  | _, _ => none
end

section
variable {P : Program} {w : World} {Z : Nat → Prop} {m : Nat → Nat} {H : List HO} {ty : TypeId → Option TI} {C : Env} {ρ : Type} {r : ρ} {st : St} {a : Act}

theorem put_tmps (st : St) (d : Option Tmp) (u : U) : (st.put d u).tmps = (match d with | some d => st.tmps.set d u | none => st.tmps) := by cases d <;> rfl
theorem put_heap (st : St) (d : Option Tmp) (u : U) : (st.put d u).heap = st.heap := by cases d <;> rfl

/-- A temporary is written. -/
theorem AOK.put {st' : St} {w' : World} {Z' : Nat → Prop} {m' : Nat → Nat} (hA : AOK w Z m st a) (ht : st'.tmps = st.tmps) (hE : Ext w Z m st.heap w' Z' m' st'.heap) (hH : HOK w' Z' m' st'.heap)
    {u : U} {v : Value} (hr : RepU w' Z' m' st'.heap u v) (d : Option Tmp) : AOK w' Z' m' (st'.put d u) (a.put d v) := by
  refine ⟨?_, ?_, ?_⟩
  · cases d <;> simp [St.put, Act.put, ht, hA.len]
  · intro i x y hx hy
    rw [put_heap]
    cases d with
    | none =>
      simp only [St.put, Act.put] at hx hy
      rw [ht] at hx
      exact (hA.rep i x y hx hy).mono hE
    | some d =>
      simp only [St.put, Act.put] at hx hy
      rw [ht] at hx
      by_cases hd : d = i
      · subst hd
        have h1 := (List.getElem?_eq_some_iff.1 hx).1
        simp only [List.length_set] at h1
        rw [List.getElem?_set_self h1] at hx
        have h2 : d < a.tmps.size := by rw [← hA.len]; exact h1
        rw [Array.getElem?_setIfInBounds_self_of_lt h2] at hy
        cases hx; cases hy; exact hr
      · rw [List.getElem?_set_ne hd] at hx
        rw [Array.getElem?_setIfInBounds_ne hd] at hy
        exact (hA.rep i x y hx hy).mono hE
  · rw [put_heap]; exact hH

theorem AOK.known_bool (hA : AOK w Z m st a) {d : Tmp} {b : Bool} (h : st.tmps.getD d .bad = .f (.bool b)) : a.tmps[d]? = some (.bool b) ∧ d < st.tmps.length := by
  have hd : d < st.tmps.length := by
    rcases Nat.lt_or_ge d st.tmps.length with h' | h'
    · exact h'
    · rw [List.getD, List.getElem?_eq_none h'] at h; cases h
  have h1 : st.tmps[d]? = some (.f (.bool b)) := by
    rw [List.getElem?_eq_getElem hd]
    simp only [List.getD, List.getElem?_eq_getElem hd, Option.getD_some] at h
    rw [h]
  have hd' : d < a.tmps.size := by rw [← hA.len]; exact hd
  have h2 : a.tmps[d]? = some a.tmps[d] := Array.getElem?_eq_getElem hd'
  have := bool_rep (hA.rep d _ _ h1 h2)
  exact ⟨by rw [h2, this], hd⟩

/-- A bool known is written again as what it is. -/
theorem AOK.same (hA : AOK w Z m st a) {d : Tmp} {b : Bool} (h : st.tmps.getD d .bad = .f (.bool b)) : AOK w Z m (st.put (some d) (.f (.bool b))) a := by
  obtain ⟨h1, h2⟩ := hA.known_bool h
  have := hA.put (st' := st) rfl (Ext.refl _ _ _ _) hA.hok (rep_bool (w := w) (Z := Z) (m := m) (H := st.heap) b) (some d)
  have e : a.put (some d) (.bool b) = a := by
    simp only [Act.put]
    congr 1
    apply Array.ext_getElem?
    intro i
    rw [Array.getElem?_setIfInBounds]
    split
    · rename_i e; subst e
      split
      · exact h1.symm
      · rename_i hge; rw [Array.getElem?_eq_none (by omega)]
    · rfl
  rw [e] at this
  exact this

theorem put_defers' (a : Act) (d : Option Tmp) (v : Value) : (a.put d v).defers = a.defers := by cases d <;> rfl

/-- Where a walk goes. -/
def Goes (w : World) (Z : Nat → Prop) (m : Nat → Nat) (H : List HO) (ds : List Deferred) (st' : St) (a' : Act) (w' : World) : Prop :=
  a'.defers = ds ∧ ∃ Z' m', AOK w' Z' m' st' a' ∧ Ext w Z m H w' Z' m' st'.heap

theorem ops_sound (hty : TyOK P ty) (hC : EnvOK P C) {ops : Array Oper} {w0 : World} {Z0 : Nat → Prop} {m0 : Nat → Nat} {H0 : List HO} {ds : List Deferred} {K : St → Option ρ} :
    ∀ (l : List Nat) (st : St) (a : Act) (w : World) (Z : Nat → Prop) (m : Nat → Nat), AOK w Z m st a → a.defers = ds → Ext w0 Z0 m0 H0 w Z m st.heap → evOps P ty C ops l st K = some r →
      wpOps P ops (fun e a' w' => e = .normal ∧ ∃ st', K st' = some r ∧ Goes w0 Z0 m0 H0 ds st' a' w') l a w
  | [], st, a, w, Z, m, hA, hd, hE, h => ⟨rfl, st, h, hd, Z, m, hA, hE⟩
  | i :: rest, st, a, w, Z, m, hA, hd, hE, h => by
    simp only [wpOps]
    cases ho : ops[i]? with
    | none =>
      simp only [evOps, ho] at h
      exact ops_sound hty hC rest st a w Z m hA hd hE h
    | some o =>
      simp only [evOps, ho] at h
      have step : ∀ (st : St), AOK w Z m st a → Ext w0 Z0 m0 H0 w Z m st.heap → evOp P ty C none o st (fun u st' => evOps P ty C ops rest (st'.put o.dst u) K) = some r →
          o.wp P a w (wpOps P ops (fun e a' w' => e = .normal ∧ ∃ st', K st' = some r ∧ Goes w0 Z0 m0 H0 ds st' a' w') rest) (fun e a' w' => e = .normal ∧ ∃ st', K st' = some r ∧ Goes w0 Z0 m0 H0 ds st' a' w') := by
        intro st hA hE h
        obtain ⟨u, st1, hk, ht, hdo⟩ := op_sound hty hC hA (slot := none) (fun k hk => by cases hk) h
        refine hdo.wp fun v w' ⟨Z', m', hE', hH', hr⟩ => ?_
        exact ops_sound hty hC rest _ _ w' Z' m' (hA.put ht hE' hH' hr o.dst) (by rw [put_defers']; exact hd) (by rw [put_heap]; exact hE.trans hE') hk
      simp only []
      cases hg : o.guard with
      | none =>
        rw [hg] at h
        have hw : Region.wanted o (yielded ops a.tmps) = true := by simp [Region.wanted, hg]
        rw [if_pos hw]
        exact .inl (step st hA hE h)
      | some p =>
        obtain ⟨g, b⟩ := p
        rw [hg] at h
        simp only at h
        cases hdst : (ops[g]?).bind (·.dst) with
        | none => rw [hdst] at h; cases h
        | some d =>
          rw [hdst] at h
          simp only at h
          split at h
          · rename_i c hc
            obtain ⟨h1, h2⟩ := hA.known_bool hc
            have hy : yielded ops a.tmps g = some c := by simp [yielded, hdst, h1]
            have hw : Region.wanted o (yielded ops a.tmps) = (c == b) := by simp [Region.wanted, hg, hy]
            rw [hw]
            by_cases hcb : c = b
            · subst hcb
              simp only [beq_self_eq_true, bsel_true, if_true] at h ⊢
              exact .inl (step _ (hA.same hc) (by rw [put_heap]; exact hE) h)
            · have hf : (c == b) = false := by simp [hcb]
              have hcn : c = !b := by cases c <;> cases b <;> simp_all
              rw [hf] at h ⊢
              simp only [bsel_false, Bool.false_eq_true, if_false] at h ⊢
              rw [← hcn] at h
              refine ops_sound hty hC rest _ _ w Z m ((hA.same hc).put rfl (Ext.refl _ _ _ _) (by rw [put_heap]; exact hA.hok) .undef o.dst) (by rw [put_defers']; exact hd) (by rw [put_heap, put_heap]; exact hE) h
          · rename_i hc
            have hy : yielded ops a.tmps g = none := by
              simp only [yielded, hdst, Option.bind_some]
              have hr := ev_rep hA (.tmp d)
              simp only [St.ev, Act.eval] at hr
              rw [hc] at hr
              by_cases hlt : d < a.tmps.size
              · rw [Array.getElem?_eq_getElem hlt]
                simp only [Array.getD, dif_pos hlt] at hr
                generalize hq : a.tmps[d] = q at hr
                have hq' : a.tmps.getInternal d hlt = q := hq
                rw [hq'] at hr
                cases hr; rfl
              · rw [Array.getElem?_eq_none (Nat.le_of_not_lt hlt)]
            have hw : Region.wanted o (yielded ops a.tmps) = false := by simp [Region.wanted, hg, hy]
            rw [hw]
            simp only [Bool.false_eq_true, if_false]
            exact ops_sound hty hC rest _ _ w Z m (hA.put rfl (Ext.refl _ _ _ _) hA.hok .undef o.dst) (by rw [put_defers']; exact hd) (by rw [put_heap]; exact hE) h
          · cases h
end
end
end Go.Proofs.Ytjbilidfnfnpfaa.R
