/-
  The own reflective walk, part 13: conversions; every operation.
-/
import Derived.Test.YtjbilidfnfnpfaaR12
namespace Go.Proofs.Ytjbilidfnfnpfaa.R
open Go
set_option linter.unusedVariables false
set_option linter.unusedSimpArgs false

section
variable {P : Program} {w : World} {Z : Nat → Prop} {m : Nat → Nat} {H : List HO} {ty : TypeId → Option TI} {ρ : Type} {r : ρ} {st : St} {K : U → St → Option ρ}

theorem freeze_block {w : World} {b : Nat} {c : Array Value} {el : TypeId} (h : w.heap[b]? = some (.cells c el)) :
    w.freeze { block := b, off := c.size } 1 = setBlk w b (.cells c el (c.size, c.size + 1)) := by
  unfold World.freeze setBlk
  simp only [Nat.one_ne_zero, if_false]
  congr 1
  apply Array.ext_getElem?
  intro k
  rw [Array.getElem?_modify, Array.getElem?_setIfInBounds]
  split
  · rename_i e
    subst e
    have := (Array.getElem?_eq_some_iff.1 h).1
    have hg : w.heap[b] = .cells c el := by rw [Array.getElem?_eq_getElem this] at h; exact Option.some.inj h
    simp [this, hg]
  · rfl

theorem setBlk_add (w : World) (o o' : Obj) : setBlk (addBlk w o) w.heap.size o' = addBlk w o' := by
  unfold setBlk addBlk
  congr 1
  apply Array.ext_getElem?
  intro k
  rw [Array.getElem?_setIfInBounds]
  simp only [Array.getElem?_push, Array.size_push]
  split
  · rename_i e; subst e; simp
  · rename_i e; simp [Ne.symm e]

theorem loop_bytes (f : Nat → Int) (body : Value → ByteArray → Sem (ForInStep ByteArray)) (hb : ∀ n s, body (.int .u8 n) s = pure (.yield (s.push (UInt8.ofNat n.toNat)))) : ∀ (l : List Nat) (s : ByteArray) (w : World),
    (forIn (m := Sem) (l.map fun i => Value.int .u8 (f i)) s body).run P w = .ok (l.foldl (fun s i => s.push (UInt8.ofNat (f i).toNat)) s) w
  | [], s, w => by simp
  | i :: l, s, w => by
    simp only [List.map_cons, List.forIn_cons, Sem.run_bind, hb, Sem.run_pure, Result.andThen, List.foldl_cons]
    exact loop_bytes f body hb l _ w

theorem byteArray_foldl (f : Nat → Int) (l : List Nat) : ∀ s : ByteArray, (l.foldl (fun s i => s.push (UInt8.ofNat (f i).toNat)) s).data.toList = s.data.toList ++ l.map fun i => UInt8.ofNat (f i).toNat := by
  induction l with
  | nil => intro s; simp
  | cons i l ih => intro s; rw [List.foldl_cons, ih]; simp [ByteArray.push]

/-- A row of bytes whose place behind the last is marked. -/
theorem row_sound_mark (hH : HOK w Z m st.heap) {slot : Option Nat} (hs : SlotOK st.heap slot) (el : TypeId) (n cap : Nat) (g : Nat → F) (c : List Value) (hcap : n ≤ cap) (hc : c.length = cap)
    (hgl : ∀ i, i < n → (g i).cells.length = 1) (hr : ∀ (i j : Nat) (u : F), i < n → (g i).cells[j]? = some u → cellF u = true ∧ ∃ v, c[i * 1 + j]? = some v ∧ RepF w Z u v) (fr : Nat × Nat) (hfr : cap ≤ fr.1) :
    ∃ m', Ext w Z m st.heap (addBlk w (.cells c.toArray el fr)) Z m' (st.new slot (.arr 1 n g)).2.heap ∧ HOK (addBlk w (.cells c.toArray el fr)) Z m' (st.new slot (.arr 1 n g)).2.heap ∧
      RepU (addBlk w (.cells c.toArray el fr)) Z m' (st.new slot (.arr 1 n g)).2.heap (.hs (st.new slot .dead).1 n 0 n) (.slice (some ⟨w.heap.size, 0, none⟩) n cap) := by
  rw [new_heap, new_place]
  have hE := ext_new (ob := .arr 1 n g) (c := .cells c.toArray el fr) hH hs
  refine ⟨_, hE, hok_new hH hs ?_, ?_⟩
  · refine ⟨by simp, c.toArray, el, fr, addBlk_new _ _, fun j hj => ?_, by simp [hc]; exact hcap, hgl, fun i j u hi hu => ?_⟩
    · simp only [World.frozen?, addBlk_new]
      simp at hj ⊢
      omega
    obtain ⟨hk, v, hv, hr'⟩ := hr i j u hi hu
    exact ⟨hk, v, by simpa using hv, hr'.mono hE.sub hE.kept⟩
  · refine .hs _ _ _ _ _ rfl (known_new hs (by simp)) (fun sz' n' g' e => ?_) fun sz' n' g' e _ => ?_
    · rw [putNew_get _ _ _ hs] at e; cases e; exact Nat.le_refl _
    · rw [putNew_get _ _ _ hs] at e; cases e
      refine ⟨by omega, _, _, rfl, hcap, fun _ => by simp, ?_⟩
      simp only [if_true, blockCells, addBlk_new, List.size_toArray, hc]
      simp

def bytesCells (s : ByteArray) (cap : Nat) : List Value := (s.data.map fun b => Value.int .u8 b.toNat).toList ++ (Array.replicate (cap - s.size) (Value.int .u8 0)).toList
theorem stringToBytes_run (e : TypeId) (s : ByteArray) : ∃ cap, s.size ≤ cap ∧
    (Conv.stringToBytes e s).run P w = .ok (.slice (some ⟨w.heap.size, 0, none⟩) s.size cap) (addBlk (drewn w (w.drawn + 1)) (.cells (bytesCells s cap).toArray e (cap, cap + 1))) := by
  obtain ⟨cap, hcap, hch⟩ : ∃ cap, s.size ≤ cap ∧ (choose (.appendCap s.size 0 e)).run P w = .ok cap (drewn w (w.drawn + 1)) :=
    ⟨_, Nat.le_add_right _ _, rfl⟩
  refine ⟨cap, hcap, ?_⟩
  have hcl : (bytesCells s cap).toArray.size = cap := by
    simp only [bytesCells, List.size_toArray, List.length_append, Array.length_toList, Array.size_map, Array.size_replicate]
    have : s.data.size = s.size := rfl
    omega
  have hb : (addBlk (drewn w (w.drawn + 1)) (.cells (bytesCells s cap).toArray e)).heap[w.heap.size]? = some (.cells (bytesCells s cap).toArray e) := addBlk_new (drewn w (w.drawn + 1)) _
  have hfz := freeze_block hb
  rw [hcl] at hfz
  have hadd : setBlk (addBlk (drewn w (w.drawn + 1)) (.cells (bytesCells s cap).toArray e)) w.heap.size (.cells (bytesCells s cap).toArray e (cap, cap + 1)) = addBlk (drewn w (w.drawn + 1)) (.cells (bytesCells s cap).toArray e (cap, cap + 1)) := setBlk_add (drewn w (w.drawn + 1)) _ _
  have hce : (s.data.map fun b => Value.int .u8 b.toNat) ++ Array.replicate (cap - s.size) (Value.int .u8 0) = (bytesCells s cap).toArray := by
    apply Array.ext'; simp [bytesCells]
  have hsh : (addBlk (drewn w (w.drawn + 1)) (.cells (bytesCells s cap).toArray e)).shape? w.heap.size = some (e, cap) := by simp only [World.shape?, hb, hcl]
  have hmark : (markStringish { block := w.heap.size, off := 0 }).run P (addBlk (drewn w (w.drawn + 1)) (.cells (bytesCells s cap).toArray e)) = .ok () (addBlk (drewn w (w.drawn + 1)) (.cells (bytesCells s cap).toArray e (cap, cap + 1))) := by
    rw [← hadd, ← hfz]
    unfold markStringish
    have : (shape w.heap.size).run P (addBlk (drewn w (w.drawn + 1)) (.cells (bytesCells s cap).toArray e)) = .ok (some (e, cap)) (addBlk (drewn w (w.drawn + 1)) (.cells (bytesCells s cap).toArray e)) := by
      rw [← hsh]; rfl
    simp only [Sem.run_bind, this, Result.andThen]
    rfl
  have hrow : (newRow e (bytesCells s cap).toArray).run P (drewn w (w.drawn + 1)) = .ok ⟨w.heap.size, 0, none⟩ (addBlk (drewn w (w.drawn + 1)) (.cells (bytesCells s cap).toArray e)) := rfl
  simp only [Conv.stringToBytes, Sem.run_bind, hch, Result.andThen, hce, hrow, hmark, Sem.run_pure]

theorem convert_sound (hty : TyOK P ty) (hH : HOK w Z m st.heap) {slot : Option Nat} (hs : SlotOK st.heap slot) {src dst : TypeId} {x : U} {vx : Value} (hx : RepU w Z m st.heap x vx)
    (h : evConvert ty slot src dst x st K = some r) :
    ∃ u st', K u st' = some r ∧ st'.tmps = st.tmps ∧ ∃ v w' m', (convert src dst vx).run P w = .ok v w' ∧ Ext w Z m st.heap w' Z m' st'.heap ∧ HOK w' Z m' st'.heap ∧ RepU w' Z m' st'.heap u v := by
  unfold evConvert at h
  split at h
  · rename_i ts td hts htd
    obtain ⟨d1, hd1, hu1⟩ := under_of (hty.2 _ _ hts)
    obtain ⟨d2, hd2, hu2⟩ := under_of (hty.2 _ _ htd)
    split at h
    · rename_i k1 k kn n e1 e2
      rw [e1] at hu1; rw [e2] at hu2
      obtain rfl := ukOf_int hu1.symm
      obtain rfl := ukOf_int hu2.symm
      obtain rfl := int_rep hx
      refine ⟨_, _, h, rfl, _, _, m, ?_, Ext.refl _ _ _ _, hH, rep_int _ _⟩
      simp [convert, run_under hd1, run_under hd2, Result.andThen, Conv.intToInt]
    · rename_i s e1 e2
      rw [e1] at hu1; rw [e2] at hu2
      obtain rfl := ukOf_str hu1.symm
      obtain rfl := ukOf_str hu2.symm
      obtain rfl := str_rep hx
      refine ⟨_, _, h, rfl, _, _, m, ?_, Ext.refl _ _ _ _, hH, rep_str _⟩
      simp [convert, run_under hd1, run_under hd2, Result.andThen]
    · rename_i e s e1 e2
      rw [e1] at hu1; rw [e2] at hu2
      obtain rfl := ukOf_str hu1.symm
      obtain rfl := ukOf_slice hu2.symm
      obtain rfl := str_rep hx
      split at h
      · rename_i te hte
        obtain ⟨d3, hd3, hu3⟩ := under_of (hty.2 _ _ hte)
        split at h
        · rename_i e3
          rw [e3] at hu3
          obtain rfl := ukOf_int hu3.symm
          replace h := bsel_some h; obtain ⟨h1, h⟩ := h
          replace h := bsel_some h; obtain ⟨h2, h⟩ := h
          obtain ⟨cap, hcap, hrun⟩ := stringToBytes_run (P := P) (w := w) e s
          have hcl : (bytesCells s cap).length = cap := by
            simp only [bytesCells, List.length_append, Array.length_toList, Array.size_map, Array.size_replicate]
            have : s.data.size = s.size := rfl
            omega
          have hH' := hok_drew (w.drawn + 1) hH
          obtain ⟨m', p1, p2, p3⟩ := row_sound_mark (w := drewn w (w.drawn + 1)) hH' hs e s.size cap (fun i => .int .u8 (byteAt s i)) (bytesCells s cap) hcap hcl (fun _ _ => rfl) (fun i j u hi hu => by
            cases j with
            | succ j => simp [F.cells] at hu
            | zero =>
              simp only [F.cells, List.getElem?_cons_zero, Option.some.injEq] at hu
              subst hu
              have hi' : i < s.data.size := hi
              refine ⟨rfl, .int .u8 (byteAt s i), ?_, .int _ _⟩
              simp only [bytesCells, Nat.mul_one, Nat.add_zero, byteAt, Int.toNat_natCast]
              rw [List.getElem?_append_left (by simp; exact hi')]
              simp only [Array.getElem?_toList, Array.getElem?_map, List.getD, Array.getElem?_eq_getElem hi', Option.getD_some, Option.map_some]) (cap, cap + 1) (Nat.le_refl _)
          refine ⟨_, _, h, new_tmps _ _ _, .slice (some ⟨w.heap.size, 0, none⟩) s.size cap, _, m', ?_, (ext_drew _).trans p1, p2, p3⟩
          simp only [convert, Sem.run_bind, run_under hd1, run_under hd2, run_under hd3, Result.andThen, hrun]
        · cases h
      · cases h
    · rename_i e e1 e2
      rw [e1] at hu1; rw [e2] at hu2
      obtain rfl := ukOf_slice hu1.symm
      obtain rfl := ukOf_str hu2.symm
      split at h
      · rename_i te hte
        obtain ⟨d3, hd3, hu3⟩ := under_of (hty.2 _ _ hte)
        split at h
        · rename_i e3
          rw [e3] at hu3
          obtain rfl := ukOf_int hu3.symm
          obtain ⟨n, g, hel, hns, h⟩ := elemsC_some h
          · replace h := bsel_some h; obtain ⟨h1, h⟩ := h
            replace h := bsel_some h; obtain ⟨h2, h⟩ := h
            simp only [beq_iff_eq] at h1
            have hall : ∀ i, i < n → isU8 (g i) = true := fun i hi => List.all_eq_true.1 h2 i (List.mem_range.2 hi)
            have hg0 : (g 0).cells.length = te.size ∨ n = 0 := by
              by_cases hn : n = 0
              · exact .inr hn
              · left
                have := hall 0 (by omega)
                rw [h1]
                cases hg : g 0 <;> simp [hg, isU8] at this
                rfl
            obtain ⟨c, hc⟩ := elems_ok (P := P) hH rfl hx hel (by omega) hg0
            rw [h1] at hc
            have hvx : ∃ A cp, vx = .slice A n cp := by
              unfold elems at hel
              split at hel
              · cases hel
                cases hx with
                | f _ _ hx => cases hx with
                | sl _ _ A c sz a V hc hs hk hA hV hr => exact ⟨_, _, rfl⟩
              · exact absurd rfl (hns _)
              · split at hel
                · split at hel
                  · rename_i hob hgen
                    cases hel
                    cases hx with
                    | hs _ _ _ _ _ hone ho hg hv =>
                    obtain ⟨hle, A, c, rfl, hc, hA, hcap⟩ := hv _ _ _ hob hgen
                    exact ⟨_, _, rfl⟩
                  · cases hel
                · cases hel
              · cases hel
                cases hx with
                | nils A => exact ⟨_, _, rfl⟩
              · cases hel
            obtain ⟨A, cp, rfl⟩ := hvx
            let f : Nat → Int := fun i => match g i with | .int .u8 b => b | _ => 0
            have hcf : c = (List.range n).map fun i => Value.int .u8 (f i) := by
              have hcl := hc.len
              rw [Nat.mul_one] at hcl
              apply List.ext_getElem? 
              intro i
              by_cases hi : i < n
              · have hgi := hall i hi
                obtain ⟨b, hb⟩ : ∃ b, g i = .int .u8 b := by
                  cases hg : g i with
                  | int k b => cases k <;> simp [hg, isU8] at hgi; exact ⟨b, rfl⟩
                  | _ => simp [hg, isU8] at hgi
                obtain ⟨_, v, hv, hr⟩ := hc.rep i 0 (.int .u8 b) hi (by rw [hb]; rfl)
                rw [Nat.mul_one, Nat.add_zero] at hv
                cases hr
                rw [hv, List.getElem?_map, List.getElem?_range hi]
                simp [f, hb]
              · rw [List.getElem?_eq_none (by omega), List.getElem?_eq_none (by simp; omega)]
            have hbs : bytesOfF n g = (List.range n).foldl (fun s i => s.push (UInt8.ofNat (f i).toNat)) ByteArray.empty := by
              have h1 := byteArray_foldl f (List.range n) ByteArray.empty
              have h2 : ∀ a b : ByteArray, a.data.toList = b.data.toList → a = b := by
                rintro ⟨a⟩ ⟨b⟩ h
                congr 1
                exact Array.ext' h
              apply h2
              rw [h1]
              have h3 : ByteArray.empty.data.toList = [] := rfl
              rw [h3, List.nil_append]
              simp only [bytesOfF]
              refine List.map_congr_left fun i hi => ?_
              have hgi := hall i (List.mem_range.1 hi)
              simp only [f]
              cases hg : g i with
              | int k b => cases k <;> simp [hg, isU8] at hgi; rfl
              | _ => simp [hg, isU8] at hgi
            refine ⟨_, _, h, rfl, _, _, m, ?_, Ext.refl _ _ _ _, hH, rep_str _⟩
            have hfst := hc.first w.drawn n (Nat.le_refl _)
            rw [show drewn w w.drawn = w from rfl, ← hc.len, List.take_length] at hfst
            simp only [convert, Sem.run_bind, run_under hd1, run_under hd2, run_under hd3, Result.andThen]
            cases A with
            | none =>
              have : n = 0 := by
                have h3 : (Builtin.firstCells 1 n (.slice none n cp)).run P w = .ok #[] w := rfl
                rw [h3] at hfst
                have h4 := hc.len
                cases hfst
                simpa using h4.symm
              subst this
              rw [hbs]
              simp only [Conv.bytesToString, Sem.run_pure]
              rfl
            | some a =>
              have h3 : Builtin.firstCells 1 n (.slice (some a) n cp) = loadCells a (n * 1) := rfl
              rw [h3, Nat.mul_one] at hfst
              simp only [Conv.bytesToString, Sem.run_bind, hfst, Result.andThen, hcf, Array.forIn_toList, List.forIn_toArray, hbs]
              rw [loop_bytes f _ (fun _ _ => rfl)]
              rfl
        · cases h
      · cases h
    · cases h
  · cases h
end
end Go.Proofs.Ytjbilidfnfnpfaa.R
