/-
  The own reflective walk, part 9: what is made.
-/
import Derived.Test.YtjbilidfnfnpfaaR8
namespace Go.Proofs.Ytjbilidfnfnpfaa.R
open Go
set_option linter.unusedVariables false
set_option linter.unusedSimpArgs false

section
variable {P : Program} {w : World} {Z : Nat → Prop} {m : Nat → Nat} {H : List HO} {ty : TypeId → Option TI} {ρ : Type} {r : ρ} {st : St} {K : U → St → Option ρ}

theorem new_heap (st : St) (slot : Option Nat) (ob : HO) : (st.new slot ob).2.heap = putNew st.heap slot ob := by cases slot <;> rfl
theorem new_tmps (st : St) (slot : Option Nat) (ob : HO) : (st.new slot ob).2.tmps = st.tmps := by cases slot <;> rfl
theorem new_place (st : St) (slot : Option Nat) (ob : HO) : (st.new slot ob).1 = placeNew st.heap slot := by cases slot <;> rfl

theorem frozen_fresh (w : World) (c : Array Value) (el : TypeId) (j : Nat) : (addBlk w (.cells c el)).frozen? ⟨w.heap.size, j, none⟩ = false := by
  simp only [World.frozen?, addBlk_new]
  simp

theorem known_new {slot : Option Nat} {ob : HO} (hs : SlotOK H slot) (hn : ob ≠ .free) : known (putNew H slot ob) (placeNew H slot) := ⟨ob, putNew_get _ _ _ hs, hn⟩

/-- A new variable. -/
theorem box_sound (hH : HOK w Z m st.heap) {slot : Option Nat} (hs : SlotOK st.heap slot) (el : TypeId) (us : List U) (vs : List Value) (hl : us.length = vs.length)
    (hr : ∀ (j : Nat) (u : U) (v : Value), us[j]? = some u → vs[j]? = some v → RepU w Z m st.heap u v) :
    ∃ m', Ext w Z m st.heap (addBlk w (.cells vs.toArray el)) Z m' (st.new slot (.box us)).2.heap ∧ HOK (addBlk w (.cells vs.toArray el)) Z m' (st.new slot (.box us)).2.heap ∧
      RepU (addBlk w (.cells vs.toArray el)) Z m' (st.new slot (.box us)).2.heap (.hp (st.new slot .dead).1 0) (.pointer (some ⟨w.heap.size, 0, none⟩)) := by
  rw [new_heap, new_place]
  have hE := ext_new (ob := .box us) (c := .cells vs.toArray el) hH hs
  refine ⟨_, hE, hok_new hH hs ?_, ?_⟩
  · refine ⟨vs.toArray, el, (0, 0), addBlk_new _ _, fun j _ => frozen_fresh _ _ _ _, by simp [hl], fun j u hu => ?_⟩
    have hj := (List.getElem?_eq_some_iff.1 hu).1
    exact ⟨vs[j]'(by omega), by simp [show j < vs.length by omega], (hr j u _ hu (List.getElem?_eq_getElem (by omega))).mono hE⟩
  · exact .hp _ _ _ rfl (known_new hs (by simp)) fun cs _ => by simp

theorem alloc_sound (hty : TyOK P ty) (hH : HOK w Z m st.heap) {slot : Option Nat} (hs : SlotOK st.heap slot) {e : TypeId} {te : TI} (hte : ty e = some te) :
    ∃ v w' m', (Instr.alloc e true (.tuple #[])).run P w = .ok v w' ∧ Ext w Z m st.heap w' Z m' (st.new slot (.box (te.zero.map cv))).2.heap ∧ HOK w' Z m' (st.new slot (.box (te.zero.map cv))).2.heap ∧
      RepU w' Z m' (st.new slot (.box (te.zero.map cv))).2.heap (.hp (st.new slot .dead).1 0) v := by
  obtain ⟨z, hz, hzc⟩ := run_zero (hty.2 _ _ hte) w
  obtain ⟨m', h1, h2, h3⟩ := box_sound hH hs e (te.zero.map cv) te.zero (by simp) (fun j u v hu hv => by
    rw [List.getElem?_map, hv] at hu; cases hu; exact cv_rep _)
  refine ⟨_, _, m', ?_, h1, h2, h3⟩
  have : z.cells = te.zero.toArray := by rw [← hzc]
  simp only [Instr.alloc, Sem.run_bind, hz, Result.andThen, newVar, newRow, run_newObj, Sem.run_pure, this]
  rfl

theorem boxv_sound (hH : HOK w Z m st.heap) {slot : Option Nat} (hs : SlotOK st.heap slot) {e : TypeId} {x : U} {vx : Value} (hx : RepU w Z m st.heap x vx) (hne : x ≠ .bad) (hnu : x ≠ .undef) (hnt : (∀ us, x ≠ .tup us) ∧ ∀ xs, x ≠ .f (.tup xs)) :
    ∃ v w' m', (Instr.box e vx).run P w = .ok v w' ∧ Ext w Z m st.heap w' Z m' (st.new slot (.box x.cells)).2.heap ∧ HOK w' Z m' (st.new slot (.box x.cells)).2.heap ∧
      RepU w' Z m' (st.new slot (.box x.cells)).2.heap (.hp (st.new slot .dead).1 0) v := by
  have h5 : ∀ o k, x = .hp o k → vx.oneCell' = true := by rintro o k rfl; cases hx with | hp _ _ _ h1 => exact h1
  obtain ⟨hl, hc⟩ := cells_rep hx h5 hne hnu hnt.1 hnt.2
  obtain ⟨m', h1, h2, h3⟩ := box_sound hH hs e x.cells vx.cells.toList (by simpa using hl) (fun j u v hu hv => by
    obtain ⟨y, hy, hr⟩ := hc j u hu
    have : y = v := by
      have e1 : vx.cells.toList[j]? = vx.cells[j]? := by simp
      rw [e1, hy] at hv
      exact Option.some.inj hv
    exact this ▸ hr)
  refine ⟨_, _, m', ?_, h1, h2, h3⟩
  simp only [Instr.box, Sem.run_bind, Result.andThen, newVar, newRow, run_newObj, Sem.run_pure, Array.toArray_toList]
  rfl

theorem zeroF_rep {te : TI} {z : F} (hH : HOK w Z m H) (hz : zeroF te = some z) (hl : te.zero.length = te.size) (h1 : (te.isAgg || te.size == 1) = true) (hc : goodF te.isAgg z = true) :
    z.cells.length = te.size ∧ ∀ (j : Nat) (x : F), z.cells[j]? = some x → cellF x = true ∧ ∃ v, te.zero[j]? = some v ∧ RepF w Z x v := by
  unfold zeroF at hz
  cases hx : toFs [] (te.zero.map cv) with
  | none => rw [hx] at hz; cases hz
  | some xs =>
    rw [hx] at hz
    simp only [Option.map_some, Option.some.injEq] at hz
    obtain ⟨hl2, hg⟩ := toFs_get _ _ hx
    simp only [List.length_map] at hl2
    have hcells : z.cells = xs := by
      rw [← hz]
      unfold mkF
      cases hag : te.isAgg with
      | true => rfl
      | false =>
        rw [hag] at h1
        simp only [Bool.false_or, beq_iff_eq] at h1
        match xs, (show xs.length = 1 by omega) with
        | [x], _ =>
          have : cellF x = true := by
            rw [← hz] at hc
            simp only [goodF, mkF, hag, Bool.false_eq_true, if_false, List.headD_cons, Bool.false_or, Bool.and_eq_true] at hc
            exact hc.2
          simp only [Bool.false_eq_true, if_false, List.headD_cons]
          cases x <;> first | rfl | simp [cellF] at this
    have hc' : z.cells.all cellF = true := by simp only [goodF, Bool.and_eq_true] at hc; exact hc.1
    rw [hcells]
    refine ⟨by omega, fun j x hx' => ⟨List.all_eq_true.1 hc' x (by rw [hcells]; exact List.mem_of_getElem? hx'), ?_⟩⟩
    have hj := (List.getElem?_eq_some_iff.1 hx').1
    have hzj : te.zero[j]? = some (te.zero[j]'(by omega)) := List.getElem?_eq_getElem (by omega)
    exact ⟨_, hzj, toF_rep_nil hH (cv_rep _) (hg j _ _ (by rw [List.getElem?_map, hzj]; rfl) hx')⟩

/-- A new row of elements in a new block. -/
theorem row_sound (hH : HOK w Z m st.heap) {slot : Option Nat} (hs : SlotOK st.heap slot) (el : TypeId) (sz n cap : Nat) (g : Nat → F) (c : List Value) (h0 : sz ≠ 0) (hcap : n ≤ cap) (hc : c.length = cap * sz)
    (hgl : ∀ i, i < n → (g i).cells.length = sz) (hr : ∀ (i j : Nat) (u : F), i < n → (g i).cells[j]? = some u → cellF u = true ∧ ∃ v, c[i * sz + j]? = some v ∧ RepF w Z u v) :
    ∃ m', Ext w Z m st.heap (addBlk w (.cells c.toArray el)) Z m' (st.new slot (.arr sz n g)).2.heap ∧ HOK (addBlk w (.cells c.toArray el)) Z m' (st.new slot (.arr sz n g)).2.heap ∧
      RepU (addBlk w (.cells c.toArray el)) Z m' (st.new slot (.arr sz n g)).2.heap (.hs (st.new slot .dead).1 n 0 n) (.slice (some ⟨w.heap.size, 0, none⟩) n cap) := by
  rw [new_heap, new_place]
  have hE := ext_new (ob := .arr sz n g) (c := .cells c.toArray el) hH hs
  refine ⟨_, hE, hok_new hH hs ?_, ?_⟩
  · refine ⟨h0, c.toArray, el, (0, 0), addBlk_new _ _, fun j _ => frozen_fresh _ _ _ _, by simp [hc]; exact Nat.mul_le_mul_right _ hcap, hgl, fun i j u hi hu => ?_⟩
    obtain ⟨hk, v, hv, hr'⟩ := hr i j u hi hu
    exact ⟨hk, v, by simpa using hv, hr'.mono hE.sub hE.kept⟩
  · refine .hs _ _ _ _ _ rfl (known_new hs (by simp)) (fun sz' n' g' e => ?_) fun sz' n' g' e _ => ?_
    · rw [putNew_get _ _ _ hs] at e; cases e; exact Nat.le_refl _
    · rw [putNew_get _ _ _ hs] at e; cases e
      refine ⟨by omega, _, _, rfl, hcap, fun _ => by simp, ?_⟩
      simp only [if_true, blockCells, addBlk_new, List.size_toArray, hc]
      simp

theorem wrap_small {x : Int} (h0 : 0 ≤ x) (h1 : x ≤ 17592186044416) : IntKind.i64.wrap x = x := by
  unfold IntKind.wrap
  simp [IntKind.bits, IntKind.signed]
  omega

theorem range_zero_get (zero : Array Value) (sz n : Nat) (hz : zero.size = sz) (h0 : sz ≠ 0) (i j : Nat) (hi : i < n) (hj : j < sz) :
    ((Array.range (n * sz)).map (zero[· % zero.size]!)).toList[i * sz + j]? = some (zero[j]'(by omega)) := by
  have hlt : i * sz + j < n * sz := by
    have : (i + 1) * sz ≤ n * sz := Nat.mul_le_mul_right _ hi
    rw [Nat.add_mul] at this; omega
  have hmod : (i * sz + j) % zero.size = j := by
    rw [hz, Nat.mul_comm i sz, Nat.mul_add_mod, Nat.mod_eq_of_lt hj]
  have hjz : j < zero.size := by omega
  simp only [Array.getElem?_toList, Array.getElem?_map]
  have : (Array.range (n * sz))[i * sz + j]? = some (i * sz + j) := by simp [hlt]
  rw [this]
  simp only [Option.map_some, hmod]
  congr 1
  simp [hjz]

theorem make_sound (hty : TyOK P ty) (hH : HOK w Z m st.heap) {slot : Option Nat} (hs : SlotOK st.heap slot) {t : TypeId} {l c : U} {vl vc : Value} (hl : RepU w Z m st.heap l vl) (hc : RepU w Z m st.heap c vc)
    (h : evMake ty slot t l c st K = some r) :
    ∃ u st', K u st' = some r ∧ st'.tmps = st.tmps ∧ ∃ v w' m', (Instr.makeSlice t vl vc).run P w = .ok v w' ∧ Ext w Z m st.heap w' Z m' st'.heap ∧ HOK w' Z m' st'.heap ∧ RepU w' Z m' st'.heap u v := by
  unfold evMake at h
  split at h
  · rename_i ti kl l kc c hti
    obtain rfl := int_rep hl
    obtain rfl := int_rep hc
    obtain ⟨d, hd, hu⟩ := under_of (hty.2 _ _ hti)
    split at h
    · rename_i e huk
      rw [huk] at hu
      obtain rfl := ukOf_slice hu.symm
      split at h
      · rename_i te hte
        split at h
        · rename_i z hz
          replace h := bsel_some h; obtain ⟨h1, h⟩ := h
          replace h := bsel_some h; obtain ⟨h2, h⟩ := h
          replace h := bsel_some h; obtain ⟨h3, h⟩ := h
          replace h := bsel_some h; obtain ⟨h4, h⟩ := h
          simp only [Bool.and_eq_true, bne_iff_ne, ne_eq, beq_iff_eq] at h1
          obtain ⟨⟨⟨h0, hzl⟩, hone⟩, hgood⟩ := h1
          have h2 := of_decide_eq_true h2
          have h3 := of_decide_eq_true h3
          have h4 := of_decide_eq_true h4
          obtain ⟨hcl, hzr⟩ := zeroF_rep hH hz hzl hone hgood
          have hlim : (limit : Int) = 17592186044416 := limit_eq
          have hbc : (te.bytes : Int) * c + c ≤ 17592186044416 := by
            rw [hlim] at h4
            have : c * ((te.bytes : Int) + 1) = (te.bytes : Int) * c + c := by rw [Int.mul_add, Int.mul_one, Int.mul_comm]
            omega
          have hb0 : 0 ≤ (te.bytes : Int) * c := Int.mul_nonneg (by omega) (by omega)
          have hbl : (te.bytes : Int) * l ≤ (te.bytes : Int) * c := Int.mul_le_mul_of_nonneg_left h3 (by omega)
          have hwl : IntKind.i64.wrap l = l := wrap_small (by omega) (by omega)
          have hwc : IntKind.i64.wrap c = c := wrap_small (by omega) (by omega)
          obtain ⟨i, hi, hisz, hib⟩ := run_info (hty.2 _ _ hte) w
          obtain ⟨zv, hzv, hzc⟩ := run_zero (hty.2 _ _ hte) w
          have hzs : zv.cells.size = te.size := by
            have := congrArg List.length hzc
            simp at this; omega
          obtain ⟨m', p1, p2, p3⟩ := row_sound hH hs e te.size l.toNat c.toNat (fun _ => z) ((Array.range (c.toNat * te.size)).map (zv.cells[· % zv.cells.size]!)).toList h0 (by omega) (by simp)
            (fun _ _ => hcl) (fun i j u hi hu => by
              obtain ⟨hk, v, hv, hr⟩ := hzr j u hu
              have hj : j < te.size := by have := (List.getElem?_eq_some_iff.1 hu).1; omega
              refine ⟨hk, _, range_zero_get zv.cells te.size c.toNat hzs h0 i j (by omega) hj, ?_⟩
              have : zv.cells[j]'(by omega) = v := by
                rw [← hzc] at hv
                have e : zv.cells.toList[j]? = some (zv.cells[j]'(by omega)) := by simp [show j < zv.cells.size by omega]
                rw [e] at hv; exact Option.some.inj hv
              rw [this]; exact hr)
          refine ⟨_, _, h, new_tmps _ _ _, _, _, m', ?_, p1, p2, p3⟩
          have ht1 : (decide (c < 0) || decide (((i.bytes : Nat) : Int) * c > 2 ^ 48)) = false := by
            rw [hib]; simp; omega
          unfold Instr.makeSlice
          simp only [Sem.run_bind, run_under hd, Result.andThen, asInt, asIntOf, Sem.run_pure, hi, hwl, hwc, hib]
          rw [if_neg (by simp; omega)]
          simp only [Sem.run_bind, run_askRoom, Result.andThen, run_size (hty.2 _ _ hte)]
          by_cases hn : c.toNat * te.size = 0
          · simp only [hn, if_true, Sem.run_pure, newRow, Sem.run_bind, run_newObj, Result.andThen, Array.toArray_toList]
            have e0 : Array.range 0 = #[] := rfl
            simp only [e0, Array.map_empty]
            rfl
          · simp only [hn, if_false, Sem.run_bind, hzv, Result.andThen, Sem.run_pure, newRow, run_newObj, Array.toArray_toList]
            rfl
        · cases h
      · cases h
    · cases h
  · cases h

/-- The cells of n elements. -/
def flatC (V : Nat → Nat → Value) (n sz : Nat) : List Value := (List.range (n * sz)).map fun q => V (q / sz) (q % sz)
theorem flatC_get (V : Nat → Nat → Value) {n sz i j : Nat} (hi : i < n) (hj : j < sz) : (flatC V n sz)[i * sz + j]? = some (V i j) := by
  have hlt : i * sz + j < n * sz := by
    have : (i + 1) * sz ≤ n * sz := Nat.mul_le_mul_right _ hi
    rw [Nat.add_mul] at this; omega
  unfold flatC
  rw [List.getElem?_map, List.getElem?_range hlt]
  simp only [Option.map_some]
  have h1 : (i * sz + j) / sz = i := by
    rw [Nat.mul_comm, Nat.mul_add_div (by omega), Nat.div_eq_of_lt hj, Nat.add_zero]
  have h2 : (i * sz + j) % sz = j := by
    rw [Nat.mul_comm, Nat.mul_add_mod, Nat.mod_eq_of_lt hj]
  rw [h1, h2]
theorem flatC_length (V : Nat → Nat → Value) (n sz : Nat) : (flatC V n sz).length = n * sz := by simp [flatC]
theorem flatC_mem {V : Nat → Nat → Value} {n sz : Nat} {v : Value} (h0 : sz ≠ 0) (h : v ∈ flatC V n sz) : ∃ i j, i < n ∧ j < sz ∧ v = V i j := by
  unfold flatC at h
  obtain ⟨q, hq, rfl⟩ := List.mem_map.1 h
  have hq := List.mem_range.1 hq
  exact ⟨q / sz, q % sz, Nat.div_lt_of_lt_mul (by rw [Nat.mul_comm]; exact hq), Nat.mod_lt _ (by omega), rfl⟩

/-- Elements that an operand holds: what the model reads of them. -/
structure ElemsOK (P : Program) (w : World) (Z : Nat → Prop) (vx : Value) (sz n : Nat) (g : Nat → F) (c : List Value) : Prop where
  len : c.length = n * sz
  lenOf : (Builtin.lenOf vx).run P w = .ok n w
  first : ∀ d k, k ≤ n → (Builtin.firstCells sz k vx).run P (drewn w d) = .ok (c.take (k * sz)).toArray (drewn w d)
  gl : ∀ i, i < n → (g i).cells.length = sz
  rep : ∀ (i j : Nat) (u : F), i < n → (g i).cells[j]? = some u → cellF u = true ∧ ∃ v, c[i * sz + j]? = some v ∧ RepF w Z u v

theorem firstCells_slice {a : Addr} {n c sz : Nat} {cs : List Value} (hl : cs.length = n * sz) (h : ∀ j v, cs[j]? = some v → w.cell? (a.add j) = some v) (len : Nat) (k : Nat) (hk : k ≤ n) :
    (Builtin.firstCells sz k (.slice (some a) len c)).run P w = .ok (cs.take (k * sz)).toArray w := by
  have hle : k * sz ≤ n * sz := Nat.mul_le_mul_right _ hk
  have := run_loadCells_list (P := P) w a (cs.take (k * sz)) (fun j v hj => by
    rw [List.getElem?_take] at hj
    split at hj
    · exact h j v hj
    · cases hj)
  have e : (cs.take (k * sz)).length = k * sz := by simp; omega
  rw [e] at this
  exact this

theorem elems_ok {G : List HO} (hH : HOK w Z m H) (hG : G = H) {x : U} {vx : Value} (hx : RepU w Z m H x vx) {n : Nat} {g : Nat → F} (he : elems G x = some (n, g)) {te : TI} (hsz0 : te.size ≠ 0)
    (hz : (g 0).cells.length = te.size ∨ n = 0) :
    ∃ c, ElemsOK P w Z vx te.size n g c := by
  subst hG
  unfold elems at he
  split at he
  · cases he
    cases hx with
    | f _ _ hx => cases hx with
    | sl _ _ A c sz a V hc hs hk hA hV hr =>
      have hsz : ∀ i, i < n → (g i).cells.length = te.size := fun i hi => by
        rcases hz with hz | hz
        · rw [hs i hi, ← hs 0 (by omega)]; exact hz
        · omega
      refine ⟨flatC (fun i j => V (i * te.size + j)) n te.size, flatC_length _ _ _, rfl, ?_, hsz, ?_⟩
      · intro d k hkn
        by_cases hn : n = 0
        · subst hn
          obtain rfl : k = 0 := by omega
          simp only [Nat.zero_mul, List.take_zero]
          cases A with
          | none => rfl
          | some a' => simp only [Builtin.firstCells, Nat.zero_mul]; rfl
        · obtain ⟨rfl, hZ, hsp⟩ := hA hn
          refine firstCells_slice (flatC_length _ _ _) (fun q v hq => ?_) _ k hkn
          have hlt : q < n * te.size := by
            have := (List.getElem?_eq_some_iff.1 hq).1
            rwa [flatC_length] at this
          have hi : q / te.size < n := Nat.div_lt_of_lt_mul (by rw [Nat.mul_comm]; exact hlt)
          have hj : q % te.size < te.size := Nat.mod_lt _ (by omega)
          have hq' : q / te.size * te.size + q % te.size = q := by rw [Nat.mul_comm]; exact Nat.div_add_mod q te.size
          have hz : sz = te.size := by rw [← hs _ hi]; exact hsz _ hi
          rw [← hq', flatC_get _ hi hj] at hq
          cases hq
          have hu : (g (q / te.size)).cells[q % te.size]? = some ((g (q / te.size)).cells[q % te.size]'(by rw [hsz _ hi]; exact hj)) := List.getElem?_eq_getElem _
          have := hV _ _ _ hi hu
          rw [hz, hq'] at this
          rw [add_zero_addr a hsp, hq']
          exact this
      · intro i j u hi hu
        have hj : j < te.size := by have := (List.getElem?_eq_some_iff.1 hu).1; rwa [hsz _ hi] at this
        have hz : sz = te.size := by rw [← hs _ hi]; exact hsz _ hi
        refine ⟨hk _ _ _ hi hu, _, flatC_get _ hi hj, ?_⟩
        rw [← hz]
        exact hr _ _ _ hi hu
  · rename_i s
    cases he
    obtain rfl := str_rep hx
    rcases hz with h1 | h1
    case inr => exact ⟨[], by simp [h1], rfl, fun d k hk => by
      obtain rfl : k = 0 := by omega
      simp [Builtin.firstCells], fun i hi => by omega, fun i j u hi => by omega⟩
    have h1 : te.size = 1 := h1.symm
    rw [h1]
    refine ⟨s.data.toList.map fun b => .int .u8 b.toNat, by simp, rfl, ?_, fun i _ => rfl, ?_⟩
    · intro d k hk
      simp only [Builtin.firstCells, Sem.run_pure, Nat.mul_one]
      congr 1
      apply Array.ext'
      have hks : k ≤ s.data.size := hk
      have : (s.extract 0 k).data.toList = s.data.toList.take k := by
        rw [ByteArray.data_extract]; simp [List.extract_eq_take_drop]
      rw [Array.toList_map, this, List.map_take]
    · intro i j u hi hu
      cases j with
      | succ j => simp [F.cells] at hu
      | zero =>
        simp only [F.cells, List.getElem?_cons_zero, Option.some.injEq] at hu
        subst hu
        have hi' : i < s.data.size := hi
        refine ⟨rfl, .int .u8 (byteAt s i), ?_, .int _ _⟩
        simp only [Nat.mul_one, Nat.add_zero, List.getElem?_map, byteAt, Int.toNat_natCast]
        simp only [List.getD, Array.getElem?_toList, Array.getElem?_eq_getElem hi', Option.getD_some, Option.map_some]
  · rename_i o gen off len
    split at he
    · rename_i sz nn gg hob
      split at he
      · rename_i hgen
        cases he
        cases hx with
        | hs _ _ _ _ _ hone ho hg hv =>
        obtain ⟨hle, A, c, rfl, hc, hA, hcap⟩ := hv _ _ _ hob hgen
        obtain ⟨h0, cc, el, fr, hb, hf, hsz', hgl, hr⟩ := hH.ob o _ hob
        rw [show offF off gg = fun j => gg (off + j) from funext fun j => offF_app off gg j] at *
        by_cases hn : n = 0
        · subst hn
          refine ⟨[], by simp, rfl, fun d k hk => ?_, fun i hi => by omega, fun i j u hi => by omega⟩
          obtain rfl : k = 0 := by omega
          cases A with
          | none => simp [Builtin.firstCells]
          | some a' => simp only [Builtin.firstCells, Nat.zero_mul]; rfl
        · have hz : sz = te.size := by
            rcases hz with hz | hz
            · rw [← hz]; exact (hgl _ (by omega)).symm
            · omega
          subst hz
          have hsz : ∀ i, i < n → (gg (off + i)).cells.length = te.size := fun i hi => hgl _ (by omega)
          have hA := hA (by omega)
          subst hA
          have hin : (off + n) * te.size ≤ nn * te.size := Nat.mul_le_mul_right _ hle
          rw [Nat.add_mul] at hin
          refine ⟨(cc.toList.drop (off * te.size)).take (n * te.size), by simp; omega, rfl, ?_, hsz, ?_⟩
          · intro d k hk
            refine firstCells_slice (by simp; omega) (fun q v hq => ?_) _ k hk
            rw [getD_drop_take] at hq
            split at hq
            · rw [add_of]
              simp only [World.cell?, drewn, hb]
              simpa using hq
            · cases hq
          · intro i j u hi hu
            have hj : j < te.size := by have := (List.getElem?_eq_some_iff.1 hu).1; rwa [hsz _ hi] at this
            have hlt : i * te.size + j < n * te.size := by
              have : (i + 1) * te.size ≤ n * te.size := Nat.mul_le_mul_right _ hi
              rw [Nat.add_mul] at this; omega
            obtain ⟨hk, v, hv', hr'⟩ := hr (off + i) j u (by omega) hu
            refine ⟨hk, v, ?_, hr'⟩
            rw [getD_drop_take, if_pos hlt]
            rw [Nat.add_mul, Nat.add_assoc] at hv'
            simpa using hv'
      · cases he
    · cases he
  · cases he
    cases hx with
    | nils A =>
      refine ⟨[], by simp, rfl, fun d k hk => ?_, fun i hi => by omega, fun i j u hi => by omega⟩
      obtain rfl : k = 0 := by omega
      cases A with
      | none => simp [Builtin.firstCells]
      | some a' => simp only [Builtin.firstCells, Nat.zero_mul]; rfl
  · cases he
end
end Go.Proofs.Ytjbilidfnfnpfaa.R
