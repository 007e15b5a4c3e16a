/-
  The own reflective walk, part 6: addresses, parts, slices of slices.
-/
import Derived.Test.YtjbilidfnfnpfaaR5
namespace Go.Proofs.Ytjbilidfnfnpfaa.R
open Go
set_option linter.unusedVariables false
set_option linter.unusedSimpArgs false

section
variable {P : Program} {w : World} {Z : Nat → Prop} {m : Nat → Nat} {H : List HO} {ty : TypeId → Option TI} {ρ : Type} {r : ρ} {st : St} {K : U → St → Option ρ}

/-- The table tells what the program's types are. -/
def TyOK (P : Program) (ty : TypeId → Option TI) : Prop := P.follows .mixedOrders = true ∧ ∀ t ti, ty t = some ti → tiOf P t = some ti

theorem under_of {t : TypeId} {ti : TI} (h : tiOf P t = some ti) : ∃ d, P.underlying t = some d ∧ ti.uk = ukOf d := by
  obtain ⟨d, i, z, hd, hi, hz, rfl⟩ := tiOf_parts h
  exact ⟨d, hd, rfl⟩
theorem ukOf_struct {d : TypeDesc} {fs : List (Nat × TypeId)} (h : ukOf d = .struct fs) : ∃ f, d = .struct f ∧ fs = f.toList.map fun f => (f.offset, f.type) := by
  cases d <;> simp [ukOf] at h
  exact ⟨_, rfl, h.symm⟩
theorem ukOf_slice {d : TypeDesc} {e : TypeId} (h : ukOf d = .slice e) : d = .slice e := by
  cases d <;> simp [ukOf] at h
  subst h; rfl
theorem ukOf_array {d : TypeDesc} {n : Nat} {e : TypeId} (h : ukOf d = .array n e) : d = .array n e := by
  cases d <;> simp [ukOf] at h
  obtain ⟨rfl, rfl⟩ := h; rfl
theorem ukOf_int {d : TypeDesc} {k : IntKind} (h : ukOf d = .int k) : d = .int k := by
  cases d <;> simp [ukOf] at h
  subst h; rfl
theorem ukOf_str {d : TypeDesc} (h : ukOf d = .str) : d = .string := by
  cases d <;> simp [ukOf] at h
  rfl

theorem fieldAddr_sound (hty : TyOK P ty) {s : TypeId} {x : U} {vx : Value} {f : Nat} (hx : RepU w Z m st.heap x vx) (h : evFieldAddr ty s x f st K = some r) :
    ∃ u, K u st = some r ∧ ∃ v, (Instr.fieldAt s vx f).run P w = .ok v w ∧ RepU w Z m st.heap u v := by
  unfold evFieldAddr at h
  split at h
  · rename_i ti hti
    split at h
    · rename_i fs huk
      split at h
      · rename_i off ft hf
        split at h
        · rename_i tf htf
          replace h := bsel_some h; obtain ⟨h1, h⟩ := h
          obtain ⟨d, hd, hu⟩ := under_of (hty.2 _ _ hti)
          rw [huk] at hu
          obtain ⟨fa, rfl, rfl⟩ := ukOf_struct hu.symm
          rw [List.getElem?_map] at hf
          cases hfa : fa.toList[f]? with
          | none => rw [hfa] at hf; cases hf
          | some fld =>
            rw [hfa] at hf
            simp only [Option.map_some, Option.some.injEq, Prod.mk.injEq] at hf
            obtain ⟨rfl, rfl⟩ := hf
            have hfa' : fa[f]? = some fld := by simpa using hfa
            have hne : tf.size ≠ 0 := by simpa using h1
            have hrun : ∀ a : Addr, (Instr.fieldAt s (.pointer (some a)) f).run P w = .ok (.pointer (some (a.add fld.offset))) w := by
              intro a
              simp only [Instr.fieldAt, Sem.run_bind, run_under hd, Result.andThen, hfa', Instr.sureAddr, Sem.run_pure, fieldPlace, run_size (hty.2 _ _ htf), hne, if_false]
            split at h
            · rename_i o k
              split at h
              · rename_i cs hob
                cases hx with
                | hp _ _ _ hone ho hv =>
                  obtain rfl := hv cs hob
                  refine ⟨_, h, _, hrun _, ?_⟩
                  rw [add_of]
                  exact .hp _ _ _ rfl ho (fun _ _ => rfl)
              · cases h
            · rename_i cs
              replace h := bsel_some h; obtain ⟨h2, h⟩ := h
              have h2 := of_decide_eq_true h2
              cases hx with
              | va _ a hZ V hV hr =>
                have hne : cs ≠ [] := by rintro rfl; simp at h2
                refine ⟨_, h, _, hrun _, ?_⟩
                rw [add_zero_addr a (hZ hne).2]
                refine .va _ _ (fun _ => ⟨(hZ hne).1, rfl⟩) (fun j => V (fld.offset + j)) (fun j u hu => ?_) fun j u hu => ?_
                · rw [List.getElem?_drop] at hu
                  have := hV _ _ hu
                  simpa [Nat.add_assoc] using this
                · rw [List.getElem?_drop] at hu
                  exact hr _ _ hu
            · rename_i o gen i k
              split at h
              · rename_i sz n g hob
                replace h := bsel_some h; obtain ⟨h2, h⟩ := h
                have h2 := of_decide_eq_true h2
                cases hx with
                | ep _ _ _ _ _ hone ho hg hv =>
                  obtain rfl := hv _ _ _ hob h2
                  refine ⟨_, h, _, hrun _, ?_⟩
                  rw [add_of]
                  refine .ep _ _ _ _ _ rfl ho hg fun sz' n' g' e1 e2 => ?_
                  rw [hob] at e1; cases e1
                  simp [Nat.add_assoc]
              · cases h
            · cases h
        · cases h
      · cases h
    · cases h
  · cases h

theorem indexAddr_sound (hty : TyOK P ty) (hH : HOK w Z m st.heap) {t : TypeId} {x ix : U} {vx vi : Value} (hx : RepU w Z m st.heap x vx) (hi : RepU w Z m st.heap ix vi) (h : evIndexAddr ty t x ix st K = some r) :
    ∃ u, K u st = some r ∧ ∃ v, (Instr.indexAt t vx vi).run P w = .ok v w ∧ RepU w Z m st.heap u v := by
  unfold evIndexAddr at h
  split at h
  · rename_i ti ik i hti
    obtain ⟨d, hd, hu⟩ := under_of (hty.2 _ _ hti)
    cases hi with
    | f _ _ hi =>
    cases hi with
    | int _ _ =>
    split at h
    · rename_i e huk
      rw [huk] at hu
      obtain rfl := ukOf_slice hu.symm
      split at h
      · rename_i te n g hte
        replace h := bsel_some h; obtain ⟨h1, h⟩ := h
        replace h := bsel_some h; obtain ⟨h2, h⟩ := h
        replace h := bsel_some h; obtain ⟨h3, h⟩ := h
        have h1 := of_decide_eq_true h1
        have h2 := of_decide_eq_true h2
        have h3 := of_decide_eq_true h3
        cases hx with
        | f _ _ hx =>
        cases hx with
        | sl _ _ A c sz a V hc hs hk hA hV hr =>
          have hin : i.toNat < n := by omega
          obtain ⟨rfl, hZa, hspot⟩ := hA (by omega)
          have hsz : sz = te.size := by rw [← hs _ hin]; exact h3
          refine ⟨_, h, .pointer (some (a.add (i.toNat * te.size))), ?_, ?_⟩
          · simp only [Instr.indexAt, asIntOf, Sem.run_bind, Sem.run_pure, Result.andThen, run_under hd, Bool.and_false, run_size (hty.2 _ _ hte)]
            simp [h1, h2, run_size (hty.2 _ _ hte)]
          · rw [add_zero_addr a hspot]
            refine .va _ _ (fun _ => ⟨hZa, rfl⟩) (fun j => V (i.toNat * sz + j)) (fun j u hu => ?_) fun j u hu => hr _ _ _ hin hu
            have := hV _ _ _ hin hu
            rw [← hsz]
            simpa [Nat.add_assoc] using this
      · rename_i te o gen off len hte
        split at h
        · rename_i sz n g hob
          replace h := bsel_some h; obtain ⟨h1, h⟩ := h
          replace h := bsel_some h; obtain ⟨h2, h⟩ := h
          replace h := bsel_some h; obtain ⟨h3, h⟩ := h
          replace h := bsel_some h; obtain ⟨h4, h⟩ := h
          have h1 := of_decide_eq_true h1
          have h2 := of_decide_eq_true h2
          have h3 := of_decide_eq_true h3
          have h4 := of_decide_eq_true h4
          cases hx with
          | hs _ _ _ _ _ hone ho hg hv =>
            obtain ⟨hle, A, c, rfl, hc, hA, hcap⟩ := hv _ _ _ hob h1
            have hA := hA (by omega)
            subst hA
            refine ⟨_, h, .pointer (some ((⟨m o, off * sz, none⟩ : Addr).add (i.toNat * te.size))), ?_, ?_⟩
            · simp only [Instr.indexAt, asIntOf, Sem.run_bind, Sem.run_pure, Result.andThen, run_under hd, Bool.and_false, run_size (hty.2 _ _ hte)]
              simp [h2, h3, run_size (hty.2 _ _ hte)]
            · rw [add_of]
              refine .ep _ _ _ _ _ rfl ho hg fun sz' n' g' e1 e2 => ?_
              rw [hob] at e1; cases e1
              rw [← h4, Nat.add_mul]
              rfl
        · cases h
      · cases h
    · rename_i n e huk
      rw [huk] at hu
      obtain rfl := ukOf_array hu.symm
      split at h
      · rename_i te o off hte
        split at h
        · rename_i cs hob
          replace h := bsel_some h; obtain ⟨h1, h⟩ := h
          replace h := bsel_some h; obtain ⟨h2, h⟩ := h
          have h1 := of_decide_eq_true h1
          have h2 := of_decide_eq_true h2
          cases hx with
          | hp _ _ _ hone ho hv =>
            obtain rfl := hv _ hob
            refine ⟨_, h, .pointer (some ((⟨m o, off, none⟩ : Addr).add (i.toNat * te.size))), ?_, ?_⟩
            · simp only [Instr.indexAt, asIntOf, Instr.sureAddr, Sem.run_bind, Sem.run_pure, Result.andThen, run_under hd, run_size (hty.2 _ _ hte)]
              simp [h1, h2, run_size (hty.2 _ _ hte)]
            · rw [add_of]; exact .hp _ _ _ rfl ho fun _ _ => rfl
        · cases h
      · rename_i te cs hte
        replace h := bsel_some h; obtain ⟨h1, h⟩ := h
        replace h := bsel_some h; obtain ⟨h2, h⟩ := h
        replace h := bsel_some h; obtain ⟨h3, h⟩ := h
        have h1 := of_decide_eq_true h1
        have h2 := of_decide_eq_true h2
        have h3 := of_decide_eq_true h3
        cases hx with
        | va _ a hZ V hV hr =>
          have hne : cs ≠ [] := by rintro rfl; simp at h3
          refine ⟨_, h, .pointer (some (a.add (i.toNat * te.size))), ?_, ?_⟩
          · simp only [Instr.indexAt, asIntOf, Instr.sureAddr, Sem.run_bind, Sem.run_pure, Result.andThen, run_under hd, run_size (hty.2 _ _ hte)]
            simp [h1, h2, run_size (hty.2 _ _ hte)]
          · rw [add_zero_addr a (hZ hne).2]
            refine .va _ _ (fun _ => ⟨(hZ hne).1, rfl⟩) (fun j => V (i.toNat * te.size + j)) (fun j u hu => ?_) fun j u hu => ?_
            · rw [List.getElem?_drop] at hu
              have := hV _ _ hu
              simpa [Nat.add_assoc] using this
            · rw [List.getElem?_drop] at hu
              exact hr _ _ hu
      · cases h
    · cases h
  · cases h

theorem run_part {t : TypeId} {ti : TI} (ht : tiOf P t = some ti) {cs : Array Value} {off : Nat} (hin : off + ti.size ≤ cs.size) (h1 : (ti.isAgg || ti.size == 1) = true) :
    (part t cs off).run P w = .ok (if ti.isAgg then .agg (cs.extract off (off + ti.size)) else cs.getD off undef) w := by
  unfold part
  simp only [Sem.run_bind, run_agg ht, Result.andThen]
  cases hag : ti.isAgg with
  | true => simp [run_size ht]
  | false =>
    rw [hag] at h1
    simp only [Bool.false_or, beq_iff_eq] at h1
    have : off < cs.size := by omega
    simp [this]

theorem field_sound (hty : TyOK P ty) {t : TypeId} {x : U} {vx : Value} {f : Nat} (hx : RepU w Z m st.heap x vx) (h : evField ty t x f st K = some r) :
    ∃ u, K u st = some r ∧ ∃ v, (Instr.field t vx f).run P w = .ok v w ∧ RepU w Z m st.heap u v := by
  unfold evField at h
  split at h
  · rename_i ti hti
    split at h
    · rename_i fs huk
      split at h
      · rename_i off ft hf
        split at h
        · rename_i tf htf
          replace h := bsel_some h; obtain ⟨h1, h⟩ := h
          simp only [Bool.and_eq_true, decide_eq_true_eq] at h1
          obtain ⟨⟨hagg, h1⟩, hin⟩ := h1
          obtain ⟨d, hd, hu⟩ := under_of (hty.2 _ _ hti)
          rw [huk] at hu
          obtain ⟨fa, rfl, rfl⟩ := ukOf_struct hu.symm
          rw [List.getElem?_map] at hf
          cases hfa : fa.toList[f]? with
          | none => rw [hfa] at hf; cases hf
          | some fld =>
            rw [hfa] at hf
            simp only [Option.map_some, Option.some.injEq, Prod.mk.injEq] at hf
            obtain ⟨rfl, rfl⟩ := hf
            have hfa' : fa[f]? = some fld := by simpa using hfa
            -- the cells of x and of its value
            have key : ∃ vs : List Value, vx = .agg vs.toArray ∧ x.cells.length = vs.length ∧ ∀ (j : Nat) (u : U) (v : Value), x.cells[j]? = some u → vs[j]? = some v → RepU w Z m st.heap u v := by
              cases hx with
              | agg cs vs hl hr => exact ⟨vs, rfl, hl, hr⟩
              | f y v hy =>
                cases hy with
                | agg cs vs hl hr =>
                  refine ⟨vs, rfl, by simpa [U.cells] using hl, fun j u v hu hv => ?_⟩
                  simp only [U.cells, List.getElem?_map] at hu
                  cases hc : cs[j]? with
                  | none => rw [hc] at hu; cases hu
                  | some y => rw [hc] at hu; cases hu; exact .f _ _ (hr j y v hc hv)
                | _ => simp [isAggU] at hagg
              | _ => simp [isAggU] at hagg
            obtain ⟨vs, rfl, hl, hr⟩ := key
            refine ⟨_, h, (if tf.isAgg then .agg (vs.toArray.extract fld.offset (fld.offset + tf.size)) else vs.toArray.getD fld.offset undef), ?_, ?_⟩
            · simp only [Instr.field, Sem.run_bind, run_under hd, Result.andThen, hfa', asAgg, Sem.run_pure]
              exact run_part (hty.2 _ _ htf) (by simp; omega) h1
            · have hlen2 : ((x.cells.drop fld.offset).take tf.size).length = tf.size := by simp; omega
              unfold mkU
              split
              · have e : vs.toArray.extract fld.offset (fld.offset + tf.size) = ((vs.drop fld.offset).take tf.size).toArray := by
                  simp [List.extract_eq_take_drop]
                rw [e]
                refine .agg _ _ (by simp; omega) fun j u v hu hv => ?_
                rw [getD_drop_take] at hu hv
                split at hu
                · rename_i hj; rw [if_pos hj] at hv; exact hr _ _ _ hu hv
                · cases hu
              · rename_i hag
                simp only [hag, Bool.false_or, beq_iff_eq] at h1
                have hlt : fld.offset < vs.length := by omega
                have e : vs.toArray.getD fld.offset undef = vs[fld.offset] := by simp [hlt]
                rw [e]
                have hx0 : ((x.cells.drop fld.offset).take tf.size).headD .bad = x.cells[fld.offset]'(by omega) := by
                  rw [h1]
                  have : (x.cells.drop fld.offset) = x.cells[fld.offset]'(by omega) :: x.cells.drop (fld.offset + 1) := List.drop_eq_getElem_cons (by omega)
                  rw [this]; rfl
                rw [hx0]
                exact hr _ _ _ (List.getElem?_eq_getElem (by omega)) (List.getElem?_eq_getElem hlt)
        · cases h
      · cases h
    · cases h
  · cases h
end
end Go.Proofs.Ytjbilidfnfnpfaa.R
