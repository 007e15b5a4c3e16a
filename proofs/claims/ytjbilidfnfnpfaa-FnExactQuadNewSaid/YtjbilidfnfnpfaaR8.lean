/-
  The own reflective walk, part 8: numbers, strings, comparisons.
-/
import Derived.Test.YtjbilidfnfnpfaaR7
namespace Go.Proofs.Ytjbilidfnfnpfaa.R
open Go
set_option linter.unusedVariables false
set_option linter.unusedSimpArgs false

section
variable {P : Program} {w : World} {Z : Nat → Prop} {m : Nat → Nat} {H : List HO} {ty : TypeId → Option TI} {ρ : Type} {r : ρ} {st : St} {K : U → St → Option ρ}

/-- What an operation on plain numbers comes to. -/
def IntOp (P : Program) (w : World) (op : BinOp) (k : IntKind) (a : Int) (k' : IntKind) (b : Int) (v : Value) : Prop :=
  ∀ t x y, (do eqGuard op t x y (.int k a) (.int k' b); binOp op t (.int k a) (.int k' b)).run P w = .ok v w

theorem eqGuard_int (op : BinOp) (t : TypeId) (x y : Operand) (k k' : IntKind) (a b : Int) : (eqGuard op t x y (.int k a) (.int k' b)).run P w = .ok () w := by
  unfold eqGuard
  cases op <;> rfl
theorem eqGuard_str (op : BinOp) (t : TypeId) (x y : Operand) (a b : ByteArray) : (eqGuard op t x y (.string a) (.string b)).run P w = .ok () w := by
  unfold eqGuard
  cases op <;> rfl
theorem eqGuard_bool (op : BinOp) (t : TypeId) (x y : Operand) (a b : Bool) : (eqGuard op t x y (.bool a) (.bool b)).run P w = .ok () w := by
  unfold eqGuard
  cases op <;> rfl
theorem eqGuard_ptr (op : BinOp) (t : TypeId) (x y : Operand) (a b : Option Addr) : (eqGuard op t x y (.pointer a) (.pointer b)).run P w = .ok () w := by
  unfold eqGuard
  cases op <;> rfl

theorem int_rep {k : IntKind} {a : Int} {v : Value} (h : RepU w Z m H (.f (.int k a)) v) : v = .int k a := by
  cases h with | f _ _ h => cases h with | int => rfl
theorem str_rep {s : ByteArray} {v : Value} (h : RepU w Z m H (.f (.str s)) v) : v = .string s := by
  cases h with | f _ _ h => cases h with | str => rfl
theorem bool_rep {b : Bool} {v : Value} (h : RepU w Z m H (.f (.bool b)) v) : v = .bool b := by
  cases h with | f _ _ h => cases h with | bool => rfl
theorem rep_int (k : IntKind) (a : Int) : RepU w Z m H (.f (.int k a)) (.int k a) := .f _ _ (.int _ _)
theorem rep_bool (b : Bool) : RepU w Z m H (.f (.bool b)) (.bool b) := .f _ _ (.bool _)
theorem rep_str (s : ByteArray) : RepU w Z m H (.f (.str s)) (.string s) := .f _ _ (.str _)

theorem bits_eq (op : BinOp) (k : IntKind) (a b : Int) (h : op = .and ∨ op = .or ∨ op = .xor ∨ op = .andNot) : (Op.intBits op k a b).run P w = .ok (.int k (bitsOp op k a b)) w := by
  rcases h with rfl | rfl | rfl | rfl <;> rfl

theorem equal_bool (t : TypeId) (h : P.underlying t = some .bool) (a b : Bool) : (Op.equal t (.bool a) (.bool b)).run P w = .ok (a == b) w := by
  unfold Op.equal Op.maxDepth Op.equalIn
  simp only [Sem.run_bind, run_under h, Result.andThen, Sem.run_pure]

theorem equal_ptr (t e : TypeId) (h : P.underlying t = some (.pointer e)) (a b : Option Addr) (hn : a = none ∨ b = none) : (Op.equal t (.pointer a) (.pointer b)).run P w = .ok (a.isNone && b.isNone) w := by
  unfold Op.equal Op.maxDepth Op.equalIn
  simp only [Sem.run_bind, run_under h, Result.andThen]
  rcases hn with rfl | rfl
  · simp
  · cases a <;> simp

theorem bin_plain {op : BinOp} {t : TypeId} {x y : Operand} {vx vy v : Value} (hg : (eqGuard op t x y vx vy).run P w = .ok () w) (hb : (binOp op t vx vy).run P w = .ok v w) :
    (do eqGuard op t x y vx vy; binOp op t vx vy : Sem Value).run P w = .ok v w := by
  simp only [Sem.run_bind, hg, Result.andThen, hb]

/-! ### '==' of structs -/
def RepL (w : World) (Z : Nat → Prop) (xs : List F) (vs : List Value) : Prop := xs.length = vs.length ∧ ∀ (j : Nat) (x : F) (v : Value), xs[j]? = some x → vs[j]? = some v → RepF w Z x v

theorem RepL.part {xs : List F} {vs : List Value} (h : RepL w Z xs vs) (off n : Nat) : RepL w Z ((xs.drop off).take n) ((vs.drop off).take n) := by
  refine ⟨by simp [h.1], fun j x v hx hv => ?_⟩
  rw [getD_drop_take] at hx hv
  split at hx
  · rename_i hj; rw [if_pos hj] at hv; exact h.2 _ _ _ hx hv
  · cases hx

theorem RepL.one {x : F} {vs : List Value} (h : RepL w Z [x] vs) : ∃ v, vs = [v] ∧ RepF w Z x v := by
  match vs, h with
  | [v], h => exact ⟨v, rfl, h.2 0 x v rfl rfl⟩
  | [], h => exact absurd h.1 (by simp)
  | _ :: _ :: _, h => exact absurd h.1 (by simp)

/-- What a part comes to, of a type that is known. -/
theorem run_part' {t : TypeId} {d : TypeDesc} (hd : P.underlying t = some d) {i : TypeInfo} (hi : P.info? t = some i) {cs : List Value} {off : Nat} (hin : off + P.cellsOf t ≤ cs.length) :
    (part t cs.toArray off).run P w = (match d with
      | .struct _ | .array _ _ => .ok (.agg ((cs.drop off).take (P.cellsOf t)).toArray) w
      | _ => match cs[off]? with | some v => .ok v w | none => .halt (.stuck "part: no such cell") w) := by
  have hc : P.cellsOf t = i.size := by simp [Program.cellsOf, hi]
  have hsz : (sizeOf t).run P w = .ok i.size w := by unfold sizeOf typeInfo; simp [hi]
  have hag : (isAgg t).run P w = .ok (match d with | .struct _ | .array _ _ => true | _ => false) w := by
    unfold isAgg
    simp only [Sem.run_bind, run_under hd, Result.andThen]
    cases d <;> simp
  unfold part
  simp only [Sem.run_bind, hag, Result.andThen]
  cases d <;> simp [hsz, hc, List.extract_eq_take_drop]
  all_goals (cases cs[off]? <;> rfl)

theorem under_info {t : TypeId} {d : TypeDesc} (hd : P.underlying t = some d) : ∃ i, P.info? t = some i := by
  unfold Program.underlying at hd
  split at hd
  · rename_i h; exact ⟨_, h⟩
  · rename_i h; exact ⟨_, h⟩
  · cases hd

theorem eqV_sound : ∀ (d : Nat) (t : TypeId) (xs ys : List F) (b : Bool), eqV P d t xs ys = some b → ∀ (vs us : List Value) (w : World) (Z : Nat → Prop), RepL w Z xs vs → RepL w Z ys us → ∀ D,
    (match P.underlying t with
      | some (.struct _) => (Op.equalIn (D + d) t (.agg vs.toArray) (.agg us.toArray)).run P w = .ok b w
      | some _ => ∃ v u, vs = [v] ∧ us = [u] ∧ (Op.equalIn (D + d) t v u).run P w = .ok b w
      | none => False) := by
  intro d
  induction d with
  | zero => intro t xs ys b h; simp [eqV] at h
  | succ d ih =>
    intro t xs ys b h vs us w Z hx hy D
    simp only [eqV] at h
    split at h
    · rename_i hu
      cases h
      obtain ⟨v, rfl, hv⟩ := hx.one
      obtain ⟨u, rfl, hu'⟩ := hy.one
      cases hv; cases hu'
      rw [hu]
      refine ⟨_, _, rfl, rfl, ?_⟩
      rw [← Nat.add_assoc]
      unfold Op.equalIn
      simp only [Sem.run_bind, run_under hu, Result.andThen, Sem.run_pure]
    · rename_i k0 k a k' b' hu
      split at h
      · rename_i hk
        cases h
        obtain ⟨v, rfl, hv⟩ := hx.one
        obtain ⟨u, rfl, hu'⟩ := hy.one
        cases hv; cases hu'
        rw [hu]
        refine ⟨_, _, rfl, rfl, ?_⟩
        rw [← Nat.add_assoc]
        unfold Op.equalIn
        simp only [Sem.run_bind, run_under hu, Result.andThen, hk, if_true, Sem.run_pure]
      · cases h
    · rename_i hu
      cases h
      obtain ⟨v, rfl, hv⟩ := hx.one
      obtain ⟨u, rfl, hu'⟩ := hy.one
      cases hv; cases hu'
      rw [hu]
      refine ⟨_, _, rfl, rfl, ?_⟩
      rw [← Nat.add_assoc]
      unfold Op.equalIn
      simp only [Sem.run_bind, run_under hu, Result.andThen, Sem.run_pure]
    · rename_i xs ys _ _ _ fs hu
      split at h
      · cases h
      · rename_i hst
        simp only [Bool.or_eq_true, bne_iff_ne, ne_eq, not_or, Bool.not_eq_true, Decidable.not_not] at hst
        obtain ⟨⟨hst, hxl⟩, hyl⟩ := hst
        rw [hu]
        simp only
        rw [← Nat.add_assoc]
        have key : ∀ (l : List Field) (b : Bool), eqVs P (eqV P d) l xs ys = some b →
            (forIn (m := Sem) l ((none, ()) : Option Bool × Unit) fun f __s =>
              if f.name ≠ "_" then do
                let x ← part f.type vs.toArray f.offset
                let y ← part f.type us.toArray f.offset
                let z ← Op.equalIn (D + d) f.type x y
                if (!z) = true then pure (ForInStep.done (some false, ())) else pure (ForInStep.yield (none, ()))
              else pure (ForInStep.yield (none, ()))).run P w = .ok (if b then (none, ()) else (some false, ())) w := by
          intro l
          induction l with
          | nil => intro b h; simp only [eqVs, Option.some.injEq] at h; subst h; simp
          | cons f l ihl =>
            intro b h
            simp only [eqVs] at h
            split at h
            · cases h
            · rename_i hc
              simp only [Bool.or_eq_true, decide_eq_true_eq, beq_iff_eq, not_or, Nat.not_lt] at hc
              obtain ⟨⟨hn, hc1⟩, hc2⟩ := hc
              split at h
              · rename_i a b' ha hb'
                cases h
                have h1 := ih f.type _ _ a ha _ _ w Z (hx.part f.offset (P.cellsOf f.type)) (hy.part f.offset (P.cellsOf f.type)) D
                have hlv : xs.length = vs.length := hx.1
                have hlu : ys.length = us.length := hy.1
                cases hd : P.underlying f.type with
                | none => rw [hd] at h1; exact h1.elim
                | some d' =>
                  obtain ⟨i, hi⟩ := under_info hd
                  have p1 := run_part' (w := w) hd hi (cs := vs) (off := f.offset) (by omega)
                  have p2 := run_part' (w := w) hd hi (cs := us) (off := f.offset) (by omega)
                  have ihb := ihl b' hb'
                  rw [hd] at h1
                  have fin : ∀ x y, (part f.type vs.toArray f.offset).run P w = .ok x w → (part f.type us.toArray f.offset).run P w = .ok y w → (Op.equalIn (D + d) f.type x y).run P w = .ok a w →
                      (forIn (m := Sem) (f :: l) ((none, ()) : Option Bool × Unit) fun f __s =>
                        if f.name ≠ "_" then do
                          let x ← part f.type vs.toArray f.offset
                          let y ← part f.type us.toArray f.offset
                          let z ← Op.equalIn (D + d) f.type x y
                          if (!z) = true then pure (ForInStep.done (some false, ())) else pure (ForInStep.yield (none, ()))
                        else pure (ForInStep.yield (none, ()))).run P w = .ok (if (a && b') then (none, ()) else (some false, ())) w := by
                    intro x y q1 q2 q3
                    have hn' : f.name ≠ "_" := hn
                    rw [List.forIn_cons, Sem.run_bind, if_pos hn']
                    have hst : (part f.type vs.toArray f.offset >>= fun x => part f.type us.toArray f.offset >>= fun y => Op.equalIn (D + d) f.type x y >>= fun z =>
                        if (!z) = true then (pure (ForInStep.done (some false, ())) : Sem (ForInStep (Option Bool × Unit))) else pure (ForInStep.yield (none, ()))).run P w =
                      .ok (if a then ForInStep.yield (none, ()) else ForInStep.done (some false, ())) w := by
                      simp only [Sem.run_bind, q1, q2, q3, Result.andThen]
                      cases a <;> simp
                    rw [hst]
                    cases a with
                    | true => simpa using ihb
                    | false => simp
                  cases d' with
                  | struct fs' => exact fin _ _ p1 p2 h1
                  | array n e =>
                    obtain ⟨v, u, e1, e2, h1⟩ := h1
                    cases d <;> simp [eqV, hd] at ha
                  | _ =>
                    obtain ⟨v, u, e1, e2, h1⟩ := h1
                    have g1 : vs[f.offset]? = some v := by
                      have := congrArg (·[0]?) e1
                      simp only [getD_drop_take] at this
                      split at this
                      · simpa using this
                      · simp at this
                    have g2 : us[f.offset]? = some u := by
                      have := congrArg (·[0]?) e2
                      simp only [getD_drop_take] at this
                      split at this
                      · simpa using this
                      · simp at this
                    simp only [g1] at p1
                    simp only [g2] at p2
                    exact fin _ _ p1 p2 h1
              · cases h
        unfold Op.equalIn
        simp only [Sem.run_bind, run_under hu, Result.andThen, run_program, hst]
        simp only [Bool.false_eq_true, if_false, Sem.run_bind, Result.andThen, ← Array.forIn_toList]
        rw [key _ _ h]
        cases b <;> rfl
    · cases h

theorem bin_sound {op : BinOp} {t : TypeId} {ox oy : Operand} {x y : U} {vx vy : Value} (hH : HOK w Z m st.heap) (hx : RepU w Z m st.heap x vx) (hy : RepU w Z m st.heap y vy) (h : evBin P op t x y st K = some r) :
    ∃ u, K u st = some r ∧ ∃ v, (do eqGuard op t ox oy vx vy; binOp op t vx vy : Sem Value).run P w = .ok v w ∧ RepU w Z m st.heap u v := by
  unfold evBin at h
  split at h
  · -- whole numbers
    rename_i k a k' b
    obtain rfl := int_rep hx
    obtain rfl := int_rep hy
    have hg := fun o => eqGuard_int (P := P) (w := w) o t ox oy k k' a b
    split at h
    · replace h := bsel_some h; obtain ⟨h1, h⟩ := h
      have h1 := of_decide_eq_true h1
      exact ⟨_, h, _, bin_plain (hg _) (by simp [binOp, Op.shift, show ¬ b < 0 by omega]), rep_int _ _⟩
    · replace h := bsel_some h; obtain ⟨h1, h⟩ := h
      have h1 := of_decide_eq_true h1
      exact ⟨_, h, _, bin_plain (hg _) (by simp [binOp, Op.shift, show ¬ b < 0 by omega]), rep_int _ _⟩
    · rename_i hs1 hs2
      replace h := bsel_some h; obtain ⟨h1, h⟩ := h
      obtain rfl := of_decide_eq_true h1
      split at h
      · exact ⟨_, h, _, bin_plain (hg _) (by simp [binOp, Op.intArith]), rep_int _ _⟩
      · exact ⟨_, h, _, bin_plain (hg _) (by simp [binOp, Op.intArith]), rep_int _ _⟩
      · exact ⟨_, h, _, bin_plain (hg _) (by simp [binOp, Op.intArith]), rep_int _ _⟩
      · replace h := bsel_some h; obtain ⟨h2, h⟩ := h
        have h2 : b ≠ 0 := by simpa using h2
        exact ⟨_, h, _, bin_plain (hg _) (by simp [binOp, Op.intDiv, h2]), rep_int _ _⟩
      · replace h := bsel_some h; obtain ⟨h2, h⟩ := h
        have h2 : b ≠ 0 := by simpa using h2
        exact ⟨_, h, _, bin_plain (hg _) (by simp [binOp, Op.intDiv, h2]), rep_int _ _⟩
      · exact ⟨_, h, _, bin_plain (hg _) (by simp [binOp, Op.intCmp]), rep_bool _⟩
      · exact ⟨_, h, _, bin_plain (hg _) (by simp [binOp, Op.intCmp]), rep_bool _⟩
      · exact ⟨_, h, _, bin_plain (hg _) (by simp [binOp, Op.intCmp]), rep_bool _⟩
      · exact ⟨_, h, _, bin_plain (hg _) (by simp [binOp, Op.intCmp]), rep_bool _⟩
      · exact ⟨_, h, _, bin_plain (hg _) (by simp [binOp, Op.intCmp]), rep_bool _⟩
      · exact ⟨_, h, _, bin_plain (hg _) (by simp [binOp, Op.intCmp]), rep_bool _⟩
      · exact ⟨_, h, _, bin_plain (hg _) (by simp only [binOp, ne_eq, not_true, if_false]; exact bits_eq _ _ _ _ (by simp)), rep_int _ _⟩
      · exact ⟨_, h, _, bin_plain (hg _) (by simp only [binOp, ne_eq, not_true, if_false]; exact bits_eq _ _ _ _ (by simp)), rep_int _ _⟩
      · exact ⟨_, h, _, bin_plain (hg _) (by simp only [binOp, ne_eq, not_true, if_false]; exact bits_eq _ _ _ _ (by simp)), rep_int _ _⟩
      · exact ⟨_, h, _, bin_plain (hg _) (by simp only [binOp, ne_eq, not_true, if_false]; exact bits_eq _ _ _ _ (by simp)), rep_int _ _⟩
      · cases h
  · -- strings
    rename_i a b
    obtain rfl := str_rep hx
    obtain rfl := str_rep hy
    have hg := fun o => eqGuard_str (P := P) (w := w) o t ox oy a b
    split at h
    · replace h := bsel_some h; obtain ⟨h1, h⟩ := h
      have h1 := of_decide_eq_true h1
      have h2 : ¬ (((a.size + b.size : Nat) : Int) > IntKind.i64.max) := by
        have e : (limit : Int) ≤ IntKind.i64.max := by rw [limit_eq]; decide
        omega
      exact ⟨_, h, _, bin_plain (hg _) (by simp only [binOp, Op.stringOp, if_neg h2, Sem.run_pure]), rep_str _⟩
    · exact ⟨_, h, _, bin_plain (hg _) (by simp [binOp, Op.stringOp]), rep_bool _⟩
    · exact ⟨_, h, _, bin_plain (hg _) (by simp [binOp, Op.stringOp]), rep_bool _⟩
    · exact ⟨_, h, _, bin_plain (hg _) (by simp [binOp, Op.stringOp]), rep_bool _⟩
    · exact ⟨_, h, _, bin_plain (hg _) (by simp [binOp, Op.stringOp]), rep_bool _⟩
    · exact ⟨_, h, _, bin_plain (hg _) (by simp [binOp, Op.stringOp]), rep_bool _⟩
    · exact ⟨_, h, _, bin_plain (hg _) (by simp [binOp, Op.stringOp]), rep_bool _⟩
    · cases h
  · -- bools
    rename_i a b
    obtain rfl := bool_rep hx
    obtain rfl := bool_rep hy
    have hg := fun o => eqGuard_bool (P := P) (w := w) o t ox oy a b
    replace h := bsel_some h; obtain ⟨h1, h⟩ := h
    split at h1
    · rename_i hu
      split at h
      · exact ⟨_, h, _, bin_plain (hg _) (by simp [binOp, equal_bool t hu]), rep_bool _⟩
      · exact ⟨_, h, _, bin_plain (hg _) (by simp [binOp, equal_bool t hu]), rep_bool _⟩
      · cases h
    · cases h1
  · -- pointers, nil
    cases hx; cases hy
    have hg := fun o => eqGuard_ptr (P := P) (w := w) o t ox oy none none
    replace h := bsel_some h; obtain ⟨h1, h⟩ := h
    split at h1
    · rename_i e hu
      split at h
      · exact ⟨_, h, _, bin_plain (hg _) (by simp [binOp, equal_ptr t e hu]), rep_bool _⟩
      · exact ⟨_, h, _, bin_plain (hg _) (by simp [binOp, equal_ptr t e hu]), rep_bool _⟩
      · cases h
    · cases h1
  · rename_i o off
    cases hx
    split at h
    · rename_i cs hob
      cases hy with
      | hp _ _ _ hone ho hv =>
      obtain rfl := hv cs hob
      have hg := fun op => eqGuard_ptr (P := P) (w := w) op t ox oy none (some ⟨m o, off, none⟩)
      replace h := bsel_some h; obtain ⟨h1, h⟩ := h
      split at h1
      · rename_i e hu
        split at h
        · exact ⟨_, h, _, bin_plain (hg _) (by simp [binOp, equal_ptr t e hu]), rep_bool _⟩
        · exact ⟨_, h, _, bin_plain (hg _) (by simp [binOp, equal_ptr t e hu]), rep_bool _⟩
        · cases h
      · cases h1
    · cases h
  · rename_i o off
    cases hy
    split at h
    · rename_i cs hob
      cases hx with
      | hp _ _ _ hone ho hv =>
      obtain rfl := hv cs hob
      have hg := fun op => eqGuard_ptr (P := P) (w := w) op t ox oy (some ⟨m o, off, none⟩) none
      replace h := bsel_some h; obtain ⟨h1, h⟩ := h
      split at h1
      · rename_i e hu
        split at h
        · exact ⟨_, h, _, bin_plain (hg _) (by simp [binOp, equal_ptr t e hu]), rep_bool _⟩
        · exact ⟨_, h, _, bin_plain (hg _) (by simp [binOp, equal_ptr t e hu]), rep_bool _⟩
        · cases h
      · cases h1
    · cases h
  · -- structs
    replace h := bsel_some h; obtain ⟨h1, h⟩ := h
    simp only [Bool.and_eq_true, Bool.not_eq_true'] at h1
    obtain ⟨⟨hax, hay⟩, hgt⟩ := h1
    have key : ∀ {x : U} {v : Value} {xs : List F}, isAggU x = true → RepU w Z m st.heap x v → toFs [] x.cells = some xs → ∃ vs : List Value, v = .agg vs.toArray ∧ RepL w Z xs vs := by
      intro x v xs hax hx hxs
      have hl := (toFs_get _ _ hxs).1
      cases hx with
      | agg cs vs hl' hr =>
        refine ⟨vs, rfl, by rw [← hl']; exact hl.symm, fun j y v hy hv => ?_⟩
        have hj := (List.getElem?_eq_some_iff.1 hy).1
        have hu : cs[j]? = some (cs[j]'(by simp only [U.cells] at hl; omega)) := List.getElem?_eq_getElem _
        exact toF_rep_nil hH (hr _ _ _ hu hv) ((toFs_get _ _ hxs).2 _ _ _ hu hy)
      | f y v hy =>
        cases hy with
        | agg cs vs hl' hr =>
          have hlm : cs.length = xs.length := by simpa [U.cells] using hl
          refine ⟨vs, rfl, by omega, fun j z v hz hv => ?_⟩
          have hj := (List.getElem?_eq_some_iff.1 hz).1
          have hc : cs[j]? = some (cs[j]'(by omega)) := List.getElem?_eq_getElem _
          have hu : (U.cells (.f (.agg cs)))[j]? = some (.f (cs[j]'(by omega))) := by simp [U.cells, hc]
          have := (toFs_get _ _ hxs).2 _ _ _ hu hz
          simp only [toF, Option.some.injEq] at this
          rw [← this]
          exact hr _ _ _ hc hv
        | _ => simp [isAggU] at hax
      | _ => simp [isAggU] at hax
    split at h
    · rename_i xs ys hxs hys
      obtain ⟨vs, rfl, hvs⟩ := key hax hx hxs
      obtain ⟨us, rfl, hus⟩ := key hay hy hys
      split at h
      · rename_i fs b hu hb
        have hq := eqV_sound _ _ _ _ _ hb vs us w Z hvs hus (Op.maxDepth - 20)
        rw [hu] at hq
        have hq' : (Op.equal t (.agg vs.toArray) (.agg us.toArray)).run P w = .ok b w := hq
        have hg : ∀ op, (eqGuard op t ox oy (.agg vs.toArray) (.agg us.toArray)).run P w = .ok () w := by
          intro op
          unfold eqGuard
          cases op <;> simp [hgt]
        split at h
        · exact ⟨_, h, _, bin_plain (hg _) (by simp [binOp, hq']), rep_bool _⟩
        · exact ⟨_, h, _, bin_plain (hg _) (by simp [binOp, hq']), rep_bool _⟩
        · cases h
      · cases h
    · cases h

theorem un_sound {op : UnOp} {x : U} {vx : Value} (hx : RepU w Z m st.heap x vx) (h : evUn op x st K = some r) :
    ∃ u, K u st = some r ∧ ∃ v, (Op.unary op vx).run P w = .ok v w ∧ RepU w Z m st.heap u v := by
  unfold evUn at h
  split at h
  · obtain rfl := int_rep hx
    exact ⟨_, h, _, rfl, rep_int _ _⟩
  · obtain rfl := int_rep hx
    exact ⟨_, h, _, rfl, rep_int _ _⟩
  · obtain rfl := bool_rep hx
    exact ⟨_, h, _, rfl, rep_bool _⟩
  · cases h

theorem index_sound (hty : TyOK P ty) {t : TypeId} {x ix : U} {vx vi : Value} (hx : RepU w Z m st.heap x vx) (hi : RepU w Z m st.heap ix vi) (h : evIndex ty t x ix st K = some r) :
    ∃ u, K u st = some r ∧ ∃ v, (Instr.index t vx vi).run P w = .ok v w ∧ RepU w Z m st.heap u v := by
  unfold evIndex at h
  split at h
  · rename_i ti s k i hti
    obtain rfl := str_rep hx
    obtain rfl := int_rep hi
    obtain ⟨d, hd, hu⟩ := under_of (hty.2 _ _ hti)
    split at h
    · rename_i huk
      rw [huk] at hu
      obtain rfl := ukOf_str hu.symm
      replace h := bsel_some h; obtain ⟨h1, h⟩ := h
      replace h := bsel_some h; obtain ⟨h2, h⟩ := h
      have h1 := of_decide_eq_true h1
      have h2 := of_decide_eq_true h2
      have hlt : i.toNat < s.size := by omega
      refine ⟨_, h, .int .u8 (s[i.toNat]'hlt).toNat, ?_, ?_⟩
      · simp only [Instr.index, asIntOf, Sem.run_bind, Sem.run_pure, Result.andThen, run_under hd]
        simp [h1, hlt]
      · have : byteAt s i = (s[i.toNat]'hlt).toNat := by
          unfold byteAt
          have e : s.data.toList.getD i.toNat 0 = s[i.toNat]'hlt := by
            have hl : i.toNat < s.data.size := hlt
            simp only [List.getD, Array.getElem?_toList, Array.getElem?_eq_getElem hl, Option.getD_some]
            rfl
          rw [e]
        rw [this]
        exact rep_int _ _
    · cases h
  · cases h

theorem minMax_sound (mx : Bool) : ∀ (us : List U) (vs : List Value) (a : Int) (k : IntKind) (r : Int), us.length = vs.length → (∀ (j : Nat) (u : U) (v : Value), us[j]? = some u → vs[j]? = some v → RepU w Z m H u v) →
    minMax mx a us k = some r → (vs.foldlM (m := Sem) (if mx then Builtin.max2 else Builtin.min2) (.int k a)).run P w = .ok (.int k r) w
  | [], [], a, k, r, _, _, h => by simp only [minMax, Option.some.injEq] at h; subst h; simp
  | u :: us, v :: vs, a, k, r, hl, hr, h => by
    have hu := hr 0 u v rfl rfl
    cases u with
    | f x =>
      cases x with
      | int k' b =>
        obtain rfl := int_rep hu
        simp only [minMax] at h
        split at h
        · rename_i hk
          subst hk
          have ih := minMax_sound mx us vs _ k r (by simpa using hl) (fun j u v hu hv => hr (j + 1) u v (by simpa using hu) (by simpa using hv)) h
          simp only [List.foldlM_cons, Sem.run_bind]
          cases mx <;> simp [Builtin.max2, Builtin.min2] at ih ⊢ <;> exact ih
        · cases h
      | _ => simp [minMax] at h
    | _ => simp [minMax] at h
  | [], _ :: _, _, _, _, hl, _, _ => by simp at hl
  | _ :: _, [], _, _, _, hl, _, _ => by simp at hl
end
end Go.Proofs.Ytjbilidfnfnpfaa.R
