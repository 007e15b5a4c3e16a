/-
  The own reflective walk, part 26: a law's arguments of whatever nested form, read.
-/
import Derived.Test.YtjbilidfnfnpfaaR25
namespace Go.Proofs.Ytjbilidfnfnpfaa.R
open Go Go.ChangeShapes Go.WideShapes Go.RowKit
set_option linter.unusedVariables false
set_option linter.unusedSimpArgs false

/-- The forms of cells. -/
inductive Sh where
  | bool
  | int (k : IntKind)
  | str
  | sl (ag : Bool) (cs : List Sh)

mutual
def fitC : Sh → F → Bool
  | .bool, .bool _ => true
  | .int k, .int k' n => decide (k' = k) && (Lit.int k n).wf
  | .str, .str s => decide (s.size ≤ maxLen)
  | .sl ag cs, .sl n g => decide (n ≤ maxLen) && (List.range n).all fun i => (fitL cs (g i).cells && (isAggF (g i) == ag))
  | _, _ => false
def fitL : List Sh → List F → Bool
  | [], [] => true
  | s :: ss, x :: xs => fitC s x && fitL ss xs
  | _, _ => false
end

def aggT (P : Program) (t : TypeId) : Bool := match P.underlying t with
  | some (.struct _) => true
  | some (.array _ _) => true
  | _ => false
def shFs (P : Program) (S : TypeId → Option (List Sh)) : Nat → List Field → Option (List Sh)
  | _, [] => some []
  | off, f :: fs => if f.offset = off then match S f.type with
      | some l => if P.cellsOf f.type = l.length then match shFs P S (off + l.length) fs with
          | some ls => some (l ++ ls)
          | none => none
        else none
      | none => none
    else none
def shOf (P : Program) : Nat → TypeId → Option (List Sh)
  | 0, _ => none
  | n + 1, t => match P.underlying t with
    | some .bool => some [.bool]
    | some (.int k) => some [.int k]
    | some .string => some [.str]
    | some (.slice e) => match shOf P n e with
      | some l => if P.cellsOf e = l.length ∧ (aggT P e = true ∨ l.length = 1) ∧ l.length ≠ 0 then some [.sl (aggT P e) l] else none
      | none => none
    | some (.struct fs) => match shFs P (shOf P n) 0 fs.toList with
      | some l => if P.cellsOf t = l.length then some l else none
      | none => none
    | _ => none

theorem fit_int {x : F} (h : fitC (.int .i64) x = true) : ∃ n, x = .int .i64 n := by
  cases x <;> simp_all [fitC]
theorem fit_bool {x : F} (h : fitC .bool x = true) : ∃ b, x = .bool b := by
  cases x <;> simp_all [fitC]
theorem fit_nil {fs : List F} (h : fitL [] fs = true) : fs = [] := by
  cases fs <;> simp_all [fitL]
theorem fit_cons {s : Sh} {l : List Sh} {fs : List F} (h : fitL (s :: l) fs = true) : ∃ x gs, fs = x :: gs ∧ fitC s x = true ∧ fitL l gs = true := by
  cases fs with
  | nil => simp [fitL] at h
  | cons x gs => simp only [fitL, Bool.and_eq_true] at h; exact ⟨x, gs, rfl, h.1, h.2⟩
theorem fit_sl {ag : Bool} {cs : List Sh} {x : F} (h : fitC (.sl ag cs) x = true) : ∃ n g, x = .sl n g ∧ n ≤ maxLen ∧ ∀ i, i < n → fitL cs (g i).cells = true ∧ isAggF (g i) = ag := by
  cases x with
  | sl n g =>
    simp only [fitC, Bool.and_eq_true, decide_eq_true_eq, List.all_eq_true, List.mem_range, beq_iff_eq] at h
    exact ⟨n, g, rfl, h.1, h.2⟩
  | _ => simp [fitC] at h
theorem agg_cells {x : F} (h : isAggF x = true) : x = .agg x.cells := by cases x <;> simp_all [isAggF, F.cells]
theorem fitC_cell {s : Sh} {x : F} (h : fitC s x = true) : cellF x = true ∧ isAggF x = false := by
  cases s <;> cases x <;> simp_all [fitC, cellF, isAggF]
theorem fitL_len : ∀ (l : List Sh) (fs : List F), fitL l fs = true → fs.length = l.length
  | [], [], _ => rfl
  | [], _ :: _, h => by simp [fitL] at h
  | _ :: _, [], h => by simp [fitL] at h
  | s :: l, x :: fs, h => by
    simp only [fitL, Bool.and_eq_true] at h
    simp [fitL_len l fs h.2]
theorem fitL_get : ∀ (l : List Sh) (fs : List F), fitL l fs = true → ∀ (j : Nat) (u : F), fs[j]? = some u → ∃ s, l[j]? = some s ∧ fitC s u = true
  | [], [], _, j, u, hj => by simp at hj
  | [], _ :: _, h, _, _, _ => by simp [fitL] at h
  | _ :: _, [], h, _, _, _ => by simp [fitL] at h
  | s :: l, x :: fs, h, j, u, hj => by
    simp only [fitL, Bool.and_eq_true] at h
    cases j with
    | zero => simp at hj; subst hj; exact ⟨s, rfl, h.1⟩
    | succ j => simp at hj; simpa using fitL_get l fs h.2 j u hj
theorem fitL_append : ∀ (l l' : List Sh) (fs fs' : List F), fitL l fs = true → fitL l' fs' = true → fitL (l ++ l') (fs ++ fs') = true
  | [], l', [], fs', _, h' => h'
  | [], _, _ :: _, _, h, _ => by simp [fitL] at h
  | _ :: _, _, [], _, h, _ => by simp [fitL] at h
  | s :: l, l', x :: fs, fs', h, h' => by
    simp only [fitL, Bool.and_eq_true] at h
    simp only [List.cons_append, fitL, Bool.and_eq_true]
    exact ⟨h.1, fitL_append l l' fs fs' h.2 h'⟩

section
variable {H : Type} {enc : TypeId × Value → H} {P : Program} {W : World} {base : Nat}

theorem mk_cells {ag : Bool} {l : List Sh} {fs : List F} (h : fitL l fs = true) (hl : ag = true ∨ l.length = 1) : (mkF ag fs).cells = fs ∧ isAggF (mkF ag fs) = ag := by
  cases ag with
  | true => exact ⟨rfl, rfl⟩
  | false =>
    have hl : l.length = 1 := by simpa using hl
    have := fitL_len l fs h
    match fs, this with
    | [x], _ =>
      obtain ⟨s, _, hs⟩ := fitL_get l [x] h 0 x rfl
      obtain ⟨h1, h2⟩ := fitC_cell hs
      constructor
      · cases x <;> simp_all [mkF, F.cells, isAggF]
      · simpa [mkF] using h2
    | [], h0 => simp [hl] at h0
    | _ :: _ :: _, h0 => simp [hl] at h0

abbrev Low (W : World) : Nat → Prop := fun b => b < W.heap.size

theorem open_fields {n : Nat} (ih : ∀ (t : TypeId) (cs : List Value) (x : DataW H × List MemPlace) (k : Nat) (l : List Sh), DataW.trod enc P W 0 (fun _ => true) true n t cs = some x → shOf P k t = some l → ∃ fs, fitL l fs = true ∧ RepL W (Low W) fs cs) (k : Nat) (cs : List Value) :
    ∀ (fl : List Field) (off : Nat) (l : List Sh), (∀ (i : Nat) (f : Field), fl[i]? = some f → ∃ y, DataW.trod enc P W 0 (fun _ => true) true n f.type ((cs.drop f.offset).take (P.cellsOf f.type)) = some y) → shFs P (shOf P k) off fl = some l →
      ∃ fs, fitL l fs = true ∧ RepL W (Low W) fs ((cs.drop off).take l.length)
  | [], off, l, _, h => by
    simp only [shFs, Option.some.injEq] at h
    subst h
    exact ⟨[], rfl, by simp, fun j x v hx => by simp at hx⟩
  | f :: fl, off, l, hf, h => by
    simp only [shFs] at h
    split at h
    · rename_i hoff
      split at h
      · rename_i l1 h1
        split at h
        · rename_i hlen
          split at h
          · rename_i l2 h2
            cases h
            obtain ⟨y, hy⟩ := hf 0 f rfl
            obtain ⟨fs1, a1, b1⟩ := ih _ _ _ _ _ hy h1
            obtain ⟨fs2, a2, b2⟩ := open_fields ih k cs fl (off + l1.length) l2 (fun i f h => hf (i + 1) f (by simpa using h)) h2
            refine ⟨fs1 ++ fs2, fitL_append _ _ _ _ a1 a2, ?_⟩
            rw [hoff, hlen] at b1
            have e : (cs.drop off).take (l1 ++ l2).length = (cs.drop off).take l1.length ++ (cs.drop (off + l1.length)).take l2.length := by
              rw [List.length_append, List.take_add, List.drop_drop]
            rw [e]
            refine ⟨by rw [List.length_append, List.length_append, b1.1, b2.1], fun j x v hx hv => ?_⟩
            by_cases hj : j < fs1.length
            · rw [List.getElem?_append_left hj] at hx
              rw [List.getElem?_append_left (by rw [← b1.1]; exact hj)] at hv
              exact b1.2 j x v hx hv
            · rw [List.getElem?_append_right (by omega)] at hx
              rw [List.getElem?_append_right (by rw [← b1.1]; omega), ← b1.1] at hv
              exact b2.2 _ x v hx hv
          · cases h
        · cases h
      · cases h
    · cases h

theorem rep_one {x : F} {v : Value} (h : RepF W (Low W) x v) : RepL W (Low W) [x] [v] := by
  refine ⟨rfl, fun j y u hy hu => ?_⟩
  cases j with
  | zero => simp at hy hu; subst hy; subst hu; exact h
  | succ j => simp at hy

/-- Cells that come in, read. -/
theorem open_cells : ∀ (n : Nat) (t : TypeId) (cs : List Value) (x : DataW H × List MemPlace) (k : Nat) (l : List Sh), DataW.trod enc P W 0 (fun _ => true) true n t cs = some x → shOf P k t = some l →
    ∃ fs, fitL l fs = true ∧ RepL W (Low W) fs cs := by
  intro n
  induction n with
  | zero => intro t cs x k l h; simp [DataW.trod] at h
  | succ n ih =>
    intro t cs x k l h hs
    cases k with
    | zero => simp [shOf] at hs
    | succ k =>
      simp only [shOf] at hs
      split at hs
      · rename_i ht
        cases hs
        obtain ⟨b, rfl, _⟩ := DataW.trod_bool ht h
        exact ⟨[.bool b], by simp [fitL, fitC], rep_one (.bool b)⟩
      · rename_i kk ht
        cases hs
        obtain ⟨z, rfl, _, hw⟩ := DataW.trod_int ht h
        exact ⟨[.int kk z], by simp [fitL, fitC, hw], rep_one (.int kk z)⟩
      · rename_i ht
        cases hs
        obtain ⟨s, rfl, _, hw⟩ := DataW.trod_string ht h
        exact ⟨[.str s], by simp [fitL, fitC, hw], rep_one (.str s)⟩
      · rename_i e ht
        split at hs
        · rename_i le hle
          split at hs
          · rename_i hc
            cases hs
            rcases DataW.trod_slice ht h with ⟨rfl, _⟩ | ⟨a, len, cap, elems, rest, n', hn', rfl, _, _, hl, hm, hlen, hel, _, _⟩
            · exact ⟨[.sl 0 fun _ => .dflt], by simp [fitL, fitC], rep_one (.sl 0 _ none 0 1 ⟨0, 0, none⟩ (fun _ => undef) (Nat.le_refl _) (fun i hi => by omega) (fun i j u hi => by omega) (fun h => absurd rfl h) (fun i j u hi => by omega) (fun i j u hi => by omega))⟩
            · obtain rfl : n' = n := by omega
              have each : ∀ i, ∃ fs : List F, i < len → fitL le fs = true ∧ ∃ ci, W.cells? 0 (a.add (i * le.length)) le.length = some ci ∧ RepL W (Low W) fs ci := by
                intro i
                by_cases hi : i < len
                · have h1 := hel i hi
                  rw [List.getElem?_eq_getElem (by omega), hc.1] at h1
                  obtain ⟨ci, h2, h3⟩ := Option.bind_eq_some_iff.1 h1
                  obtain ⟨fs, h4, h5⟩ := ih _ _ _ _ _ h3 hle
                  exact ⟨fs, fun _ => ⟨h4, ci, h2, h5⟩⟩
                · exact ⟨[], fun h => absurd h hi⟩
              obtain ⟨G, hG⟩ := Classical.axiomOfChoice each
              have hfit : ∀ i, i < len → fitL le (mkF (aggT P e) (G i)).cells = true ∧ isAggF (mkF (aggT P e) (G i)) = aggT P e := fun i hi => by
                obtain ⟨h1, h2⟩ := mk_cells (hG i hi).1 hc.2.1
                rw [h1]; exact ⟨(hG i hi).1, h2⟩
              have hcells : ∀ i, i < len → (mkF (aggT P e) (G i)).cells = G i := fun i hi => (mk_cells (hG i hi).1 hc.2.1).1
              have hpos : le.length ≠ 0 := hc.2.2
              have hsz : ∀ i, i < len → (G i).length = le.length := fun i hi => fitL_len _ _ (hG i hi).1
              have hsp : len ≠ 0 → a.spot = none ∧ a.block < W.heap.size := fun h0 => by
                obtain ⟨_, ci, h1, _⟩ := hG 0 (by omega)
                obtain ⟨_, h3, h4⟩ := World.cells?_some h1
                have h5 := h4 0 (by omega)
                rw [List.getElem?_eq_getElem (by omega)] at h5
                have h6 := World.cell?_spot h5
                have h7 := cell_lt h5
                exact ⟨by simpa [Addr.add] using h6, by simpa [Addr.add] using h7⟩
              have key : ∀ (i j : Nat) (u : F), i < len → (G i)[j]? = some u → ∃ v, W.cell? ⟨a.block, a.off + (i * le.length + j), none⟩ = some v ∧ RepF W (Low W) u v := fun i j u hi hu => by
                obtain ⟨_, ci, h1, h2⟩ := hG i hi
                obtain ⟨_, h3, h4⟩ := World.cells?_some h1
                have hj := (List.getElem?_eq_some_iff.1 hu).1
                have hs := hsz i hi
                have h5 := h4 j (by omega)
                rw [List.getElem?_eq_getElem (by omega)] at h5
                refine ⟨_, ?_, h2.2 j u _ hu (List.getElem?_eq_getElem (by omega))⟩
                rw [← h5]
                have e := (hsp (by omega)).1
                obtain ⟨ab, ao, asp⟩ := a
                simp only at e
                subst e
                rw [add_zero_addr ⟨ab, ao, none⟩ rfl, add_zero_addr ⟨ab, ao + i * le.length, none⟩ rfl, Nat.add_assoc]
              refine ⟨[.sl len fun i => mkF (aggT P e) (G i)], ?_, rep_one ?_⟩
              · simp only [fitL, fitC, Bool.and_true, Bool.and_eq_true, decide_eq_true_eq, List.all_eq_true, List.mem_range, beq_iff_eq]
                exact ⟨by omega, hfit⟩
              · refine .sl len _ (some a) cap le.length a (fun k => (W.cell? ⟨a.block, a.off + k, none⟩).getD undef) hl (fun i hi => by rw [hcells i hi]; exact hsz i hi) (fun i j u hi hu => ?_) (fun h0 => ⟨rfl, (hsp h0).2, (hsp h0).1⟩) (fun i j u hi hu => ?_) (fun i j u hi hu => ?_)
                · rw [hcells i hi] at hu
                  obtain ⟨s, _, hs⟩ := fitL_get _ _ (hG i hi).1 j u hu
                  exact (fitC_cell hs).1
                · rw [hcells i hi] at hu
                  obtain ⟨v, h1, _⟩ := key i j u hi hu
                  rw [h1]; rfl
                · rw [hcells i hi] at hu
                  obtain ⟨v, h1, h2⟩ := key i j u hi hu
                  rw [h1]; exact h2
          · cases hs
        · cases hs
      · rename_i fs ht
        split at hs
        · rename_i l' hl'
          split at hs
          · rename_i hc
            cases hs
            obtain ⟨xs, n', hn', _, hcl, hxl, hx⟩ := DataW.trod_struct ht h
            obtain rfl : n' = n := by omega
            obtain ⟨gs, g1, g2⟩ := open_fields (fun t cs x k l => ih t cs x k l) k cs fs.toList 0 l (fun i f hf => by
              have hf' : fs[i]? = some f := by simpa using hf
              have hi := (Array.getElem?_eq_some_iff.1 hf').1
              exact ⟨_, (hx i f hf').trans (List.getElem?_eq_getElem (by omega))⟩) hl'
            refine ⟨gs, g1, ?_⟩
            rw [List.drop_zero, List.take_of_length_le (by omega)] at g2
            exact g2
          · cases hs
        · cases hs
      · cases hs

theorem open_structF {t : TypeId} {v : Value} {d : DataW H} {ps : List MemPlace} {fl : Array Field} {k : Nat} {l : List Sh} (ht : P.underlying t = some (.struct fl)) (hs : shOf P k t = some l) (hval : Value.okWide P W .any base t v) (h : DataW.Trod enc P W 0 (fun _ => true) true t v d ps) :
    ∃ fs, fitL l fs = true ∧ RepF W (fun b => b < W.heap.size) (.agg fs) v := by
  obtain ⟨cs, rfl, _⟩ := okWide_struct ht hval
  obtain ⟨n, hf⟩ := h
  obtain ⟨fs, h1, h2⟩ := open_cells n t _ _ k l hf hs
  refine ⟨fs, h1, ?_⟩
  have := RepF.agg (w := W) (Z := Low W) fs _ h2.1 h2.2
  simpa [Value.cells] using this
theorem open_sliceF {t e : TypeId} {v : Value} {d : DataW H} {ps : List MemPlace} {k : Nat} {s : Sh} (ht : P.underlying t = some (.slice e)) (hs : shOf P k t = some [s]) (hval : Value.okWide P W .any base t v) (h : DataW.Trod enc P W 0 (fun _ => true) true t v d ps) :
    ∃ x, fitC s x = true ∧ RepF W (fun b => b < W.heap.size) x v := by
  obtain ⟨a, len, cap, rfl⟩ := okWide_slice ht hval
  obtain ⟨n, hf⟩ := h
  obtain ⟨fs, h1, h2⟩ := open_cells n t _ _ k _ hf hs
  have hl := fitL_len _ _ h1
  match fs, hl with
  | [x], _ =>
    simp only [fitL, Bool.and_true] at h1
    exact ⟨x, h1, h2.2 0 x _ rfl (by simp [Value.cells])⟩
end
end Go.Proofs.Ytjbilidfnfnpfaa.R
