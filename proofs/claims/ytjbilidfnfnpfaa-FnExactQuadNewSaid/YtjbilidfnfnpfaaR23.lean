/-
  The own reflective walk, part 23: functions that are lent boxes.
-/
import Derived.Test.YtjbilidfnfnpfaaR19
namespace Go.Proofs.Ytjbilidfnfnpfaa.R
open Go
set_option linter.unusedVariables false
set_option linter.unusedSimpArgs false

section
variable {P : Program} {w : World} {Z : Nat → Prop} {m : Nat → Nat} {H : List HO}

mutual
theorem toF_arr : ∀ (u : U) (x : F), toF H u = some x → ∀ o, o ∈ objs u → ∃ sz n g, H[o]? = some (.arr sz n g)
  | .f x, _, _, o, ho => by simp [objs] at ho
  | .agg us, x, h, o, ho => by
    simp only [toF] at h
    cases hx : toFs H us with
    | none => rw [hx] at h; cases h
    | some xs => exact toFs_arr us xs hx o (by simpa [objs] using ho)
  | .tup us, x, h, o, ho => by
    simp only [toF] at h
    cases hx : toFs H us with
    | none => rw [hx] at h; cases h
    | some xs => exact toFs_arr us xs hx o (by simpa [objs] using ho)
  | .nils, _, _, o, ho => by simp [objs] at ho
  | .hs o1 gen off len, x, h, o, ho => by
    simp only [objs, List.mem_singleton] at ho
    subst ho
    simp only [toF] at h
    split at h
    · exact ⟨_, _, _, by assumption⟩
    · cases h
  | .hp _ _, _, h, _, _ => by simp [toF] at h
  | .ep _ _ _ _, _, h, _, _ => by simp [toF] at h
  | .va _, _, h, _, _ => by simp [toF] at h
  | .nilp, _, h, _, _ => by simp [toF] at h
  | .fn _ _, _, h, _, _ => by simp [toF] at h
  | .nilfn, _, h, _, _ => by simp [toF] at h
  | .undef, _, h, _, _ => by simp [toF] at h
  | .bad, _, h, _, _ => by simp [toF] at h
theorem toFs_arr : ∀ (us : List U) (xs : List F), toFs H us = some xs → ∀ o, o ∈ objsAll us → ∃ sz n g, H[o]? = some (.arr sz n g)
  | [], _, _, o, ho => by simp [objsAll] at ho
  | u :: us, xs, h, o, ho => by
    simp only [toFs] at h
    cases h1 : toF H u with
    | none => rw [h1] at h; simp at h
    | some x =>
      cases h2 : toFs H us with
      | none => rw [h1, h2] at h; simp at h
      | some ys =>
        simp only [objsAll, List.mem_append] at ho
        rcases ho with ho | ho
        · exact toF_arr u x h1 o ho
        · exact toFs_arr us ys h2 o ho
end

/-- What a function does that is lent boxes and nothing else of its caller's. -/
def SubOK (P : Program) (f : FuncId) (us : List U) (H : List HO) (x : F) (os : List (List F)) : Prop :=
  ∀ (w : World) (Z : Nat → Prop) (m : Nat → Nat) (args : Array Value), HOK w Z m H → RepUs w Z m H us args.toList →
    CallDoes P f args w fun v w' => ∃ Z' m', Ext w Z m H w' Z' m' (os.map boxF) ∧ HOK w' Z' m' (os.map boxF) ∧ RepF w' Z' x v

theorem outs_get {H : List HO} : ∀ (obs : List HO) (os : List (List F)), outs H obs = some (os.map .agg) → obs.length = os.length ∧ ∀ (o : Nat) (ob : HO) (xs : List F), obs[o]? = some ob → os[o]? = some xs → ∃ us, ob = .box us ∧ toFs H us = some xs
  | [], os, h => by
    simp only [outs, Option.some.injEq] at h
    have : os = [] := by cases os <;> simp_all
    subst this
    exact ⟨rfl, fun o ob xs ho => by simp at ho⟩
  | .box us :: obs, os, h => by
    simp only [outs] at h
    split at h
    · rename_i xs ys h1 h2
      cases os with
      | nil => simp at h
      | cons y os =>
        simp only [List.map_cons, Option.some.injEq, List.cons.injEq, F.agg.injEq] at h
        obtain ⟨rfl, rfl⟩ := h
        obtain ⟨hl, hg⟩ := outs_get obs os h2
        refine ⟨by simp [hl], fun o ob zs ho hz => ?_⟩
        cases o with
        | zero => simp at ho hz; subst ho; subst hz; exact ⟨us, rfl, h1⟩
        | succ o => simp at ho hz; exact hg o ob zs ho hz
    · cases h
  | .dead :: _, os, h => by simp [outs] at h
  | .free :: _, os, h => by simp [outs] at h
  | .arr _ _ _ :: _, os, h => by
    simp only [outs] at h
    split at h
    · cases os <;> simp at h
    · cases h

theorem fn_sub {f : FuncId} {fn : Func} {c : Code} (hf : P.funcs[f]? = some fn) (hb : fn.body = some c) (hname : (fn.name == "runtime.NumGoroutine") = false) {us : List U} {x : F} {os : List (List F)} (hn : H.length = os.length) (h0 : os ≠ [])
    (h : EndsN P H.length fn.results.toList [.code c] (startN fn.ntmps us H) (.tup (x :: os.map .agg))) : SubOK P f us H x os := by
  intro w Z m args hH hL
  refine .inl ⟨by
    have hp : (program).run P w = .ok P w := rfl
    unfold callFunc
    simp only [Sem.run_bind, hp, Result.andThen, hf, hname, hb, Option.isNone_some, Bool.false_eq_true, if_false, Sem.run_pure], fun cs => ?_⟩
  have hlen : us.length = args.size := by simpa using hL.1
  have hA : AOK w Z m (startN fn.ntmps us H) { tmps := args ++ Array.replicate (fn.ntmps - args.size) undef, defers := [] } := by
    refine ⟨by simp [startN, hlen], fun i u v hu hv => ?_, hH⟩
    simp only [startN] at hu
    rw [List.getElem?_append] at hu
    rw [Array.getElem?_append] at hv
    split at hu
    · rename_i hi
      rw [if_pos (by omega)] at hv
      exact hL.2 i u v hu (by simpa using hv)
    · rename_i hi
      rw [if_neg (by omega)] at hv
      rw [List.getElem?_replicate] at hu
      rw [Array.getElem?_replicate] at hv
      split at hu
      · split at hv
        · cases hu; cases hv; exact .undef
        · cases hv
      · cases hu
  let b : Frame := { (default : Frame) with fn := f, kind := .normal }
  have henter : Frame.enter P f args .normal = b.at { tmps := args ++ Array.replicate (fn.ntmps - args.size) undef, defers := [] } [.code c] := by
    simp [Frame.enter, Frame.at, hf, hb, b]
  obtain ⟨st', a', w', todo, hk, ⟨hd, Z', m', hA', hE'⟩, hs⟩ := h w Z m H [] _ w Z m rfl hA rfl (Ext.refl _ _ _ _) b cs
  obtain ⟨n, hn1⟩ : ∃ n, H.length = n + 1 := by
    cases os with
    | nil => exact absurd rfl h0
    | cons _ l => exact ⟨l.length, by rw [hn]; rfl⟩
  unfold retF at hk
  rw [hn1] at hk
  rw [if_neg (by rw [show Nat.beq (n + 1) 0 = false from rfl, Bool.and_false]; exact Bool.false_ne_true)] at hk
  split at hk
  · rename_i us' hus
    split at hk
    · rename_i ys hys
      simp only at hk
      split at hk
      · rename_i os' hos
        simp only [Option.some.injEq, F.tup.injEq, List.cons.injEq] at hk
        obtain ⟨hx, rfl⟩ := hk
        obtain ⟨hol, hog⟩ := outs_get _ _ hos
        obtain ⟨vs, hvs, hR⟩ := resU_run (P := P) hA' _ _ hus
        let Z2 : Nat → Prop := fun b => Z' b ∨ ∃ o, n + 1 ≤ o ∧ liveAt st'.heap o ∧ m' o = b
        have hlen' : n + 1 ≤ st'.heap.length := by have := hE'.len; omega
        -- a box that was lent, at the end
        have box : ∀ o, o < n + 1 → ∃ us xs, st'.heap[o]? = some (.box us) ∧ os[o]? = some xs ∧ toFs st'.heap us = some xs := by
          intro o ho
          have h1 : (st'.heap.take (n + 1))[o]? = some st'.heap[o] := by rw [List.getElem?_take, if_pos ho]; exact List.getElem?_eq_getElem (by omega)
          have h2 : o < os.length := by omega
          obtain ⟨us, e, ht⟩ := hog o _ _ h1 (List.getElem?_eq_getElem h2)
          exact ⟨us, os[o], by rw [List.getElem?_eq_getElem (by omega), e], List.getElem?_eq_getElem h2, ht⟩
        have data : ∀ (u : U) (v : Value) (y : F), RepU w' Z' m' st'.heap u v → toF st'.heap u = some y → RepF w' Z2 y v := by
          intro u v y hr hy
          refine (toF_rep hA'.hok (fun _ _ h => h) hr hy).mono ?_ (fun _ _ => rfl)
          rintro b (hb | ⟨o, ho, hlv, rfl⟩)
          · exact .inl hb
          · refine .inr ⟨o, ?_, hlv, rfl⟩
            rcases Nat.lt_or_ge o (n + 1) with hlt | hge
            · obtain ⟨us, xs, h1, _, _⟩ := box o hlt
              obtain ⟨sz, k, g, h2⟩ := toF_arr u y hy o ho
              rw [h1] at h2; cases h2
            · exact hge
        have getB : ∀ (o : Nat) (ob : HO), (os.map boxF)[o]? = some ob → o < n + 1 ∧ ∃ xs, os[o]? = some xs ∧ ob = boxF xs := by
          intro o ob ho
          rw [List.getElem?_map] at ho
          cases hx : os[o]? with
          | none => rw [hx] at ho; cases ho
          | some xs =>
            rw [hx] at ho; cases ho
            have := (List.getElem?_eq_some_iff.1 hx).1
            exact ⟨by omega, xs, rfl, rfl⟩
        have liveB : ∀ o, liveAt (os.map boxF) o → o < n + 1 ∧ liveAt st'.heap o := by
          rintro o ⟨ob, ho, hl⟩
          obtain ⟨h1, xs, h2, h3⟩ := getB o ob ho
          obtain ⟨us, _, h4, _, _⟩ := box o h1
          exact ⟨h1, _, h4, rfl⟩
        have hres : (results fn a'.tmps).run P w' = .ok (if h : vs.toArray.size = 1 then vs.toArray[0] else .tuple vs.toArray) w' := by
          unfold results
          rw [← Array.toArray_toList (xs := fn.results), List.mapM_toArray]
          simp only [Sem.run_bind, Sem.run_map]
          refine (congrArg (fun q => Result.andThen (Result.andThen q fun x w => Result.ok x.toArray w) fun vs w => (pure (if h : vs.size = 1 then vs[0] else .tuple vs) : Sem Value).run P w) hvs).trans ?_
          simp [Result.andThen]
        have hL2 : RepL w' Z2 ys vs := by
          obtain ⟨hl, hg⟩ := toFs_get us' ys hys
          refine ⟨by rw [← hl]; exact hR.1, fun j y v hy' hv => ?_⟩
          have hj := (List.getElem?_eq_some_iff.1 hy').1
          have hu' : us'[j]? = some us'[j] := List.getElem?_eq_getElem (by omega)
          exact data _ _ _ (hR.2 j _ v hu' hv) (hg j _ y hu' hy')
        refine ⟨.returned _, w', { b.at a' todo with mode := .returning }, ?_, ?_, rfl, rfl, hd, rfl, fn, hf, hres⟩
        · refine ⟨Z2, m', ?_, ?_, ?_⟩
          · refine ⟨hE'.os, hE'.tape, hE'.output, hE'.size, fun b hb => .inl (hE'.sub b hb), ?_, hE'.kept, hE'.rest, by rw [List.length_map]; omega, ?_, ?_⟩
            · rintro b (hb | ⟨o, ho, hlv, rfl⟩)
              · exact hE'.back b hb
              · rcases hE'.new o hlv with ⟨⟨ob, h1, _⟩, _⟩ | h1
                · have := (List.getElem?_eq_some_iff.1 h1).1; omega
                · exact .inr (.inl h1)
            · intro o ob ob' ho ho'
              obtain ⟨h1, xs, h2, rfl⟩ := getB o ob' ho'
              obtain ⟨us1, xs1, h4, h5, h6⟩ := box o h1
              rw [h2] at h5; cases h5
              have hev := hE'.evol o ob _ ho h4
              have hl := toFs_length h6
              cases ob <;> simp_all [Evol, boxF]
            · intro o ho
              exact hE'.new o (liveB o ho).2
          · refine ⟨?_, ?_, fun o o' h h' e => hA'.hok.inj o o' (liveB o h).2 (liveB o' h').2 e, ?_⟩
            · rintro b (hb | ⟨o, ho, hlv, rfl⟩)
              · exact hA'.hok.zlt b hb
              · exact hA'.hok.blk_lt hlv
            · rintro o ho (hb | ⟨o', ho', hlv, e⟩)
              · exact hA'.hok.apart o (liveB o ho).2 hb
              · have := hA'.hok.inj o' o hlv (liveB o ho).2 e
                have := (liveB o ho).1
                omega
            · intro o ob ho
              obtain ⟨h1, xs, h2, rfl⟩ := getB o ob ho
              obtain ⟨us1, xs1, h4, h5, h6⟩ := box o h1
              rw [h2] at h5; cases h5
              obtain ⟨c, el, fr, q1, q2, q3, q4⟩ := hA'.hok.ob o _ h4
              obtain ⟨hl, hg⟩ := toFs_get us1 xs h6
              refine ⟨c, el, fr, q1, q2, by rw [List.length_map, ← hl]; exact q3, fun j u hu => ?_⟩
              rw [List.getElem?_map] at hu
              cases hxj : xs[j]? with
              | none => rw [hxj] at hu; cases hu
              | some y =>
                rw [hxj] at hu; cases hu
                have hj := (List.getElem?_eq_some_iff.1 hxj).1
                have huj : us1[j]? = some us1[j] := List.getElem?_eq_getElem (by omega)
                obtain ⟨v, hv, hr⟩ := q4 j _ huj
                exact ⟨v, hv, .f _ _ (data _ _ _ hr (hg j _ y huj hxj))⟩
          · rw [← hx]
            match ys, vs, hL2 with
            | [y], [v], hL2 => exact hL2.2 0 y v rfl rfl
            | [], [], hL2 => exact .tup [] [] rfl hL2.2
            | y1 :: y2 :: ys, v1 :: v2 :: vs, hL2 =>
              have : RepF w' Z2 (.tup (y1 :: y2 :: ys)) (.tuple (v1 :: v2 :: vs).toArray) := .tup _ _ hL2.1 hL2.2
              simpa [tupF] using this
            | [_], [], hL2 => have := hL2.1; simp at this
            | [_], _ :: _ :: _, hL2 => have := hL2.1; simp at this
            | [], _ :: _, hL2 => have := hL2.1; simp at this
            | _ :: _ :: _, [], hL2 => have := hL2.1; simp at this
            | _ :: _ :: _, [_], hL2 => have := hL2.1; simp at this
        · rw [henter]; exact hs
      · cases hk
    · cases hk
  · cases hk

abbrev ptrSp (pre : List F → List F → Bool) (res : List F → List F → F × List F) : Sp := .ptr pre res

theorem ptr_shared {f : FuncId} {pre : List F → List F → Bool} {res : List F → List F → F × List F}
    (h : ∀ cs xs, pre cs xs = true → SubOK P f (.hp 0 0 :: xs.map .f) [boxF cs] (res cs xs).1 [(res cs xs).2]) : SpOK P f (ptrSp pre res) := by
  intro us H hp w Z m args hH hL
  unfold ptrPre at hp
  split at hp
  · rename_i o us' 
    split at hp
    · rename_i cu ho
      split at hp
      · rename_i cs xs hcs hxs
        have hres : ptrRes res (.hp o 0 :: us') H = (.f (res cs xs).1, H.set o (boxF (res cs xs).2)) := by simp only [ptrRes, ho, hcs, hxs]
        rw [hres]
        obtain ⟨hl1, hg1⟩ := toFs_get cu cs hcs
        obtain ⟨hl2, hg2⟩ := toFs_get us' xs hxs
        have hlo : liveAt H o := ⟨_, ho, rfl⟩
        have hobk := hH.ob o _ ho
        have hHsub : HOK w Z (fun _ => m o) [boxF cs] := by
          refine ⟨hH.zlt, fun _ _ => hH.apart o hlo, fun a b ha hb _ => ?_, fun k ob hk => ?_⟩
          · obtain ⟨_, ha, _⟩ := ha
            obtain ⟨_, hb, _⟩ := hb
            have := (List.getElem?_eq_some_iff.1 ha).1
            have := (List.getElem?_eq_some_iff.1 hb).1
            simp at *
            omega
          · have hk0 := (List.getElem?_eq_some_iff.1 hk).1
            obtain rfl : k = 0 := by simp at hk0; exact hk0
            simp at hk; subst hk
            obtain ⟨c, el, fr, q1, q2, q3, q4⟩ := hobk
            refine ⟨c, el, fr, q1, q2, by rw [List.length_map, ← hl1]; exact q3, fun j u hu => ?_⟩
            rw [List.getElem?_map] at hu
            cases hxj : cs[j]? with
            | none => rw [hxj] at hu; cases hu
            | some y =>
              rw [hxj] at hu; cases hu
              have hj := (List.getElem?_eq_some_iff.1 hxj).1
              have huj : cu[j]? = some cu[j] := List.getElem?_eq_getElem (by omega)
              obtain ⟨v, hv, hr⟩ := q4 j _ huj
              exact ⟨v, hv, .f _ _ (toF_rep_nil hH hr (hg1 j _ y huj hxj))⟩
        have hLsub : RepUs w Z (fun _ => m o) [boxF cs] (.hp 0 0 :: xs.map .f) args.toList := by
          refine ⟨by rw [← hL.1]; simp [hl2], fun j u v hu hv => ?_⟩
          cases j with
          | zero =>
            simp at hu; subst hu
            have := hL.2 0 _ v rfl hv
            cases this with
            | hp _ _ _ h1 hk hvv => exact .hp 0 0 v h1 ⟨_, rfl, by simp [boxF]⟩ fun cs' _ => hvv _ ho
          | succ j =>
            simp only [List.getElem?_cons_succ, List.getElem?_map] at hu
            cases hxj : xs[j]? with
            | none => rw [hxj] at hu; cases hu
            | some y =>
              rw [hxj] at hu; cases hu
              have hj := (List.getElem?_eq_some_iff.1 hxj).1
              have huj : us'[j]? = some us'[j] := List.getElem?_eq_getElem (by omega)
              exact .f _ _ (toF_rep_nil hH (hL.2 (j + 1) _ v (by rw [List.getElem?_cons_succ]; exact huj) hv) (hg2 j _ y huj hxj))
        refine (h cs xs hp w Z (fun _ => m o) args hHsub hLsub).mono fun v w' ⟨Z', m', hE, hH', hr⟩ => ?_
        have hm0 : m' 0 = m o := by
          have := hE.evol 0 (boxF cs) (boxF (res cs xs).2) rfl rfl
          simp only [boxF, Evol] at this
          exact this.2
        have hlen : (res cs xs).2.length = cs.length := by
          have := hE.evol 0 (boxF cs) (boxF (res cs xs).2) rfl rfl
          simp only [boxF, Evol, List.length_map] at this
          exact this.1
        have hlt : o < H.length := (List.getElem?_eq_some_iff.1 ho).1
        have hlive : ∀ k, liveAt (H.set o (boxF (res cs xs).2)) k → liveAt H k := by
          intro k ⟨ob1, h1, hd⟩
          by_cases hk : o = k
          · subst hk; exact hlo
          · rw [List.getElem?_set_ne hk] at h1; exact ⟨ob1, h1, hd⟩
        have hkeep : ∀ k, liveAt H k → k ≠ o → w'.heap[m k]? = w.heap[m k]? := by
          intro k hk hne
          refine hE.rest _ (hH.blk_lt hk) fun o' ho' e => hne (hH.inj k o hk hlo e.symm)
        have hEE : Ext w Z m H w' Z' m (H.set o (boxF (res cs xs).2)) := by
          refine ⟨hE.os, hE.tape, hE.output, hE.size, hE.sub, ?_, hE.kept, ?_, by simp, ?_, fun k hk => .inl ⟨hlive k hk, rfl⟩⟩
          · intro b hb
            rcases hE.back b hb with h1 | h1 | ⟨o', ho', e⟩
            · exact .inl h1
            · exact .inr (.inl h1)
            · exact .inr (.inr ⟨o, hlo, e⟩)
          · intro b hb hn
            exact hE.rest b hb fun o' ho' e => hn o hlo e
          · intro k ob ob' hk hk'
            by_cases hko : o = k
            · subst hko
              rw [List.getElem?_set_self hlt] at hk'
              rw [ho] at hk
              cases hk; cases hk'
              simp only [boxF, Evol, List.length_map]
              exact ⟨by rw [hlen, hl1], trivial⟩
            · rw [List.getElem?_set_ne hko, hk] at hk'
              cases hk'
              cases ob with
              | arr sz n g =>
                refine ⟨rfl, Nat.le_refl _, fun _ => ⟨rfl, ?_⟩⟩
                simp only [blockCells, hkeep k ⟨_, hk, rfl⟩ (fun e => hko e.symm)]
              | _ => simp [Evol]
        refine ⟨Z', m, hEE, ⟨hH'.zlt, ?_, fun a b ha hb e => hH.inj a b (hlive a ha) (hlive b hb) e, ?_⟩, .f _ _ hr⟩
        · intro k hk hz
          have hk' := hlive k hk
          by_cases hko : k = o
          · subst hko
            exact hH'.apart 0 ⟨_, rfl, rfl⟩ (by rw [hm0]; exact hz)
          · rcases hE.back _ hz with h1 | h1 | ⟨o', ho', e⟩
            · exact hH.apart k hk' h1
            · have := hH.blk_lt hk'; omega
            · exact hko (hH.inj k o hk' hlo e.symm)
        · intro k ob hk
          by_cases hko : o = k
          · subst hko
            rw [List.getElem?_set_self hlt] at hk
            cases hk
            obtain ⟨c, el, fr, q1, q2, q3, q4⟩ := hH'.ob 0 _ rfl
            rw [hm0] at q1 q2
            refine ⟨c, el, fr, q1, q2, q3, fun j u hu => ?_⟩
            obtain ⟨v, hv, hr⟩ := q4 j u hu
            refine ⟨v, hv, ?_⟩
            rw [List.getElem?_map] at hu
            cases hxj : (res cs xs).2[j]? with
            | none => rw [hxj] at hu; cases hu
            | some y => rw [hxj] at hu; cases hu; cases hr with | f _ _ hr => exact .f _ _ hr
          · rw [List.getElem?_set_ne hko] at hk
            by_cases hd : ob.live = true
            · exact (hH.ob k ob hk).mono hEE (hkeep k ⟨_, hk, hd⟩ (fun e => hko e.symm))
            · cases ob <;> simp_all [ObOK, HO.live]
      · cases hp
    · cases hp
  · cases hp

/-- A method, walked. -/
theorem fn_ptr {f : FuncId} {fn : Func} {c : Code} (hf : P.funcs[f]? = some fn) (hb : fn.body = some c) (hname : (fn.name == "runtime.NumGoroutine") = false) {pre : List F → List F → Bool} {res : List F → List F → F × List F}
    (h : ∀ cs xs, pre cs xs = true → EndsN P 1 fn.results.toList [.code c] (startN fn.ntmps (.hp 0 0 :: xs.map .f) [.box (cs.map .f)]) (.tup [(res cs xs).1, .agg (res cs xs).2])) : SpOK P f (ptrSp pre res) :=
  ptr_shared fun cs xs hp => fn_sub hf hb hname (H := [boxF cs]) (os := [(res cs xs).2]) rfl (by simp) (h cs xs hp)

abbrev newSp (pre : List F → Bool) (res : List F → List F) : Sp := .new pre res
end
end Go.Proofs.Ytjbilidfnfnpfaa.R
