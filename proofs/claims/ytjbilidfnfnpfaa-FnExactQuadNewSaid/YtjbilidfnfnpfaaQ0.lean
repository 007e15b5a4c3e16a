/-
  Items, blocks and trees, as data.
-/
import Derived.Test.YtjbilidfnfnpfaaD0
import Derived.Test.YtjbilidfnfnpfaaR27
import Derived.Test.YtjbilidfnfnpfaaW6
namespace Go.Proofs.Ytjbilidfnfnpfaa.R
open Go
set_option linter.unusedVariables false
set_option linter.unusedSimpArgs false
def isI64 : F → Bool | .int .i64 _ => true | _ => false
def unI64 : F → Int | .int .i64 n => n | _ => 0
theorem i64_eq {x : F} (h : isI64 x = true) : i64F (unI64 x) = x := by
  unfold isI64 at h
  split at h
  · rfl
  · cases h
def isInts (x : F) : Bool := isSl isI64 x
def unInts (x : F) : List Int := unSl unI64 x
theorem unInts_intsF (l : List Int) : unInts (intsF l) = l := unSl_slF (fun _ => rfl) l
theorem isInts_intsF (l : List Int) : isInts (intsF l) = true := isSl_slF l fun _ _ => rfl
theorem ints_eqv {x : F} (hx : isInts x = true) : FLe x (intsF (unInts x)) ∧ FLe (intsF (unInts x)) x := slF_eqv (fun _ h => i64_eq h) hx
theorem intsF_inj {l l' : List Int} (h : intsF l = intsF l') : l = l' := by rw [← unInts_intsF l, h, unInts_intsF]
theorem atInts {n : Nat} {g : Nat → F} (h : isInts (.sl n g) = true) {j : Nat} (hj : j < n) : g j = i64F ((unInts (.sl n g)).getD j 0) := sl_at 0 (fun _ h => i64_eq h) h hj

structure It where
  id : Int
  x0 : Int
  y0 : Int
  x1 : Int
  y1 : Int
def It.sg (t : It) : Sg := ⟨t.x0, t.y0, t.x1, t.y1⟩
def It.zero : It := ⟨0, 0, 0, 0, 0⟩
def itF (t : It) : F := .agg [.int .i64 t.id, .int .i64 t.x0, .int .i64 t.y0, .int .i64 t.x1, .int .i64 t.y1]
def isIt : F → Bool
  | .agg [.int .i64 _, .int .i64 _, .int .i64 _, .int .i64 _, .int .i64 _] => true
  | _ => false
def unIt : F → It
  | .agg [.int .i64 e, .int .i64 a, .int .i64 b, .int .i64 c, .int .i64 d] => ⟨e, a, b, c, d⟩
  | _ => .zero
def itemsF (l : List It) : F := slF itF .zero l
def isItems (x : F) : Bool := isSl isIt x
def unItems (x : F) : List It := unSl unIt x
theorem unItems_itemsF (l : List It) : unItems (itemsF l) = l := unSl_slF (fun _ => rfl) l
theorem isItems_itemsF (l : List It) : isItems (itemsF l) = true := isSl_slF l fun _ _ => rfl
theorem it_eq {x : F} (h : isIt x = true) : itF (unIt x) = x := by
  unfold isIt at h
  split at h
  · rfl
  · cases h
theorem items_eqv {x : F} (hx : isItems x = true) : FLe x (itemsF (unItems x)) ∧ FLe (itemsF (unItems x)) x := slF_eqv (fun _ h => it_eq h) hx
theorem atItems {n : Nat} {g : Nat → F} (h : isItems (.sl n g) = true) {j : Nat} (hj : j < n) : g j = itF ((unItems (.sl n g)).getD j It.zero) := sl_at It.zero (fun _ h => it_eq h) h hj

structure Bk where
  x : Int
  y : Int
  size : Int
  split : Bool
  ids : List Int
def Bk.zero : Bk := ⟨0, 0, 0, false, []⟩
def bkF (b : Bk) : F := .agg [.int .i64 b.x, .int .i64 b.y, .int .i64 b.size, .bool b.split, intsF b.ids]
def isBk : F → Bool
  | .agg [.int .i64 _, .int .i64 _, .int .i64 _, .bool _, l] => isInts l
  | _ => false
def unBk : F → Bk
  | .agg [.int .i64 a, .int .i64 b, .int .i64 c, .bool s, l] => ⟨a, b, c, s, unInts l⟩
  | _ => .zero
theorem unBk_bkF (b : Bk) : unBk (bkF b) = b := by
  show Bk.mk b.x b.y b.size b.split (unInts (intsF b.ids)) = b
  rw [unInts_intsF]
theorem isBk_bkF (b : Bk) : isBk (bkF b) = true := isInts_intsF b.ids
theorem bk_eqv {x : F} (h : isBk x = true) : FsLe x.cells (bkF (unBk x)).cells ∧ FsLe (bkF (unBk x)).cells x.cells := by
  unfold isBk at h
  split at h
  · exact ⟨⟨.refl _, .refl _, .refl _, .refl _, (ints_eqv h).1, trivial⟩, ⟨.refl _, .refl _, .refl _, .refl _, (ints_eqv h).2, trivial⟩⟩
  · cases h
theorem FLe.bk {x : F} (h : isBk x = true) : FLe x (bkF (unBk x)) := by
  have h1 := (bk_eqv h).1
  unfold isBk at h
  split at h
  · exact FLe.agg h1
  · cases h
theorem bk_el {x : F} (h : isBk x = true) : ElLe x (bkF (unBk x)) ∧ ElLe (bkF (unBk x)) x := by
  obtain ⟨h1, h2⟩ := bk_eqv h
  refine ⟨⟨h1, fun _ u hu => ?_⟩, ⟨h2, fun _ u hu => ?_⟩⟩
  · simp only [bkF, F.cells, List.mem_cons, List.not_mem_nil, or_false] at hu
    rcases hu with rfl | rfl | rfl | rfl | rfl <;> rfl
  · unfold isBk at h
    split at h
    · rename_i l
      simp only [F.cells, List.mem_cons, List.not_mem_nil, or_false] at hu
      rcases hu with rfl | rfl | rfl | rfl | rfl
      · rfl
      · rfl
      · rfl
      · rfl
      · cases u <;> simp_all [isInts, isSl, cellF]
    · cases h
def blocksF (l : List Bk) : F := slF bkF .zero l
def isBlocks (x : F) : Bool := isSl isBk x
def unBlocks (x : F) : List Bk := unSl unBk x
theorem unBlocks_blocksF (l : List Bk) : unBlocks (blocksF l) = l := unSl_slF unBk_bkF l
theorem isBlocks_blocksF (l : List Bk) : isBlocks (blocksF l) = true := isSl_slF l fun b _ => isBk_bkF b
theorem blocks_eqv {x : F} (hx : isBlocks x = true) : FLe x (blocksF (unBlocks x)) ∧ FLe (blocksF (unBlocks x)) x := slF_eqv' (fun _ h => bk_el h) hx

structure Qd where
  most : Int
  deep : Int
  items : List It
  blocks : List Bk
def Qd.zero : Qd := ⟨0, 0, [], []⟩
def qdF (q : Qd) : F := .agg [.int .i64 q.most, .int .i64 q.deep, itemsF q.items, blocksF q.blocks]
def isQd : F → Bool
  | .agg [.int .i64 _, .int .i64 _, i, b] => isItems i && isBlocks b
  | _ => false
def unQd : F → Qd
  | .agg [.int .i64 m, .int .i64 d, i, b] => ⟨m, d, unItems i, unBlocks b⟩
  | _ => .zero
theorem unQd_qdF (q : Qd) : unQd (qdF q) = q := by
  show Qd.mk q.most q.deep (unItems (itemsF q.items)) (unBlocks (blocksF q.blocks)) = q
  rw [unItems_itemsF, unBlocks_blocksF]
theorem isQd_qdF (q : Qd) : isQd (qdF q) = true := by
  show (isItems (itemsF q.items) && isBlocks (blocksF q.blocks)) = true
  rw [isItems_itemsF, isBlocks_blocksF]; rfl
theorem qd_eqv {x : F} (h : isQd x = true) : FLe x (qdF (unQd x)) ∧ FLe (qdF (unQd x)) x := by
  unfold isQd at h
  split at h
  · rw [Bool.and_eq_true] at h
    exact ⟨FLe.agg ⟨.refl _, .refl _, (items_eqv h.1).1, (blocks_eqv h.2).1, trivial⟩, FLe.agg ⟨.refl _, .refl _, (items_eqv h.1).2, (blocks_eqv h.2).2, trivial⟩⟩
  · cases h

/-- A block with its kids: none, or four. -/
inductive Tr where
  | leaf (x y size : Int) (ids : List Int)
  | node (x y size : Int) (a b c d : Tr)
def Tr.x : Tr → Int | .leaf x _ _ _ => x | .node x _ _ _ _ _ _ => x
def Tr.y : Tr → Int | .leaf _ y _ _ => y | .node _ y _ _ _ _ _ => y
def Tr.size : Tr → Int | .leaf _ _ s _ => s | .node _ _ s _ _ _ _ => s
def Tr.ids : Tr → List Int | .leaf _ _ _ l => l | .node _ _ _ _ _ _ _ => []
def Tr.kn : Tr → Nat | .leaf _ _ _ _ => 0 | .node _ _ _ _ _ _ _ => 4
def kidG : Tr → Nat → F
  | .leaf _ _ _ _ => fun _ => .dflt
  | .node _ _ _ a b c d => lget [.agg [.int .i64 a.x, .int .i64 a.y, .int .i64 a.size, .sl a.kn (kidG a), intsF a.ids], .agg [.int .i64 b.x, .int .i64 b.y, .int .i64 b.size, .sl b.kn (kidG b), intsF b.ids],
      .agg [.int .i64 c.x, .int .i64 c.y, .int .i64 c.size, .sl c.kn (kidG c), intsF c.ids], .agg [.int .i64 d.x, .int .i64 d.y, .int .i64 d.size, .sl d.kn (kidG d), intsF d.ids]]
def trF (t : Tr) : F := .agg [.int .i64 t.x, .int .i64 t.y, .int .i64 t.size, .sl t.kn (kidG t), intsF t.ids]
def Tr.zero : Tr := .leaf 0 0 0 []
theorem trF_inj : ∀ (t t' : Tr), trF t = trF t' → t = t'
  | .leaf _ _ _ _, .leaf _ _ _ _, h => by
    simp only [trF, F.agg.injEq, List.cons.injEq, F.int.injEq, true_and, and_true, Tr.x, Tr.y, Tr.size, Tr.ids] at h
    obtain ⟨rfl, rfl, rfl, _, h⟩ := h
    rw [intsF_inj h]
  | .leaf _ _ _ _, .node _ _ _ _ _ _ _, h => by
    simp only [trF, F.agg.injEq, List.cons.injEq, F.sl.injEq, Tr.kn] at h
    omega
  | .node _ _ _ _ _ _ _, .leaf _ _ _ _, h => by
    simp only [trF, F.agg.injEq, List.cons.injEq, F.sl.injEq, Tr.kn] at h
    omega
  | .node _ _ _ a b c d, .node _ _ _ a' b' c' d', h => by
    simp only [trF, F.agg.injEq, List.cons.injEq, F.sl.injEq, F.int.injEq, true_and, and_true, Tr.x, Tr.y, Tr.size] at h
    obtain ⟨rfl, rfl, rfl, ⟨_, h⟩, _⟩ := h
    rw [trF_inj a a' (congrFun h 0), trF_inj b b' (congrFun h 1), trF_inj c c' (congrFun h 2), trF_inj d d' (congrFun h 3)]
noncomputable def isTr (x : F) : Bool := @decide (∃ t, x = trF t) (Classical.propDecidable _)
theorem unTr_ex (x : F) : ∃ t : Tr, isTr x = true → x = trF t := by
  by_cases h : isTr x = true
  · obtain ⟨t, ht⟩ := @of_decide_eq_true _ (Classical.propDecidable _) h
    exact ⟨t, fun _ => ht⟩
  · exact ⟨.zero, fun h' => absurd h' h⟩
noncomputable def unTr (x : F) : Tr := Classical.choose (unTr_ex x)
theorem isTr_trF (t : Tr) : isTr (trF t) = true := @decide_eq_true _ (Classical.propDecidable _) ⟨t, rfl⟩
theorem tr_eq {x : F} (h : isTr x = true) : x = trF (unTr x) := Classical.choose_spec (unTr_ex x) h
theorem unTr_trF (t : Tr) : unTr (trF t) = t := (trF_inj _ _ (tr_eq (isTr_trF t))).symm
end Go.Proofs.Ytjbilidfnfnpfaa.R
