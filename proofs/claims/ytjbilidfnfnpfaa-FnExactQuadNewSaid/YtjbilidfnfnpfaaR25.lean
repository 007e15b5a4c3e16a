/-
  The own reflective walk, part 25: a law's arguments, read.
-/
import Derived.Test.YtjbilidfnfnpfaaR24
import Derived.ChangeSlices
import Derived.Carry
import Derived.OpenShut
import Derived.WideShapes
namespace Go.Proofs.Ytjbilidfnfnpfaa.R
open Go Go.ChangeShapes Go.WideShapes Go.RowKit
set_option linter.unusedVariables false
set_option linter.unusedSimpArgs false

section
variable {H : Type} {enc : TypeId × Value → H} {P : Program} {W : World} {base : Nat} {t e : TypeId} {v : Value} {d : DataW H} {ps : List MemPlace}

theorem cell_lt {a : Addr} {x : Value} (h : W.cell? a = some x) : a.block < W.heap.size := by
  unfold World.cell? at h
  cases hb : W.heap[a.block]? with
  | none => rw [hb] at h; simp at h
  | some o => exact (Array.getElem?_eq_some_iff.1 hb).1

theorem open_intsF {k : IntKind} (ht : P.underlying t = some (.slice e)) (he : P.underlying e = some (.int k)) (hc : P.cellsOf e = 1) (hval : Value.okWide P W .any base t v) (h : DataW.Trod enc P W 0 (fun _ => true) true t v d ps) :
    ∃ zs : List Int, (∀ n ∈ zs, (Lit.int k n).wf = true) ∧ zs.length ≤ maxLen ∧ RepF W (fun b => b < W.heap.size) (.sl zs.length fun i => .int k (zs.getD i 0)) v := by
  obtain ⟨a1, len, cap, rfl⟩ := okWide_slice ht hval
  obtain ⟨fuel, hf⟩ := h
  rcases open_ints ht he hc hf with ⟨hcs, hx⟩ | ⟨a, len', cap', zs, hcs, _, hl, hm, hz, hx, hcell, hwz⟩
  · simp [Value.cells] at hcs
    obtain ⟨rfl, rfl, rfl⟩ := hcs
    exact ⟨[], by simp, Nat.zero_le _, .sl 0 _ none 0 1 ⟨0, 0, none⟩ (fun _ => undef) (Nat.le_refl _) (fun i hi => by omega) (fun i j u hi => by omega) (fun h => absurd rfl h) (fun i j u hi => by omega) (fun i j u hi => by omega)⟩
  · simp [Value.cells] at hcs
    obtain ⟨rfl, rfl, rfl⟩ := hcs
    simp only [if_true] at hz
    have hlen : (zs.take len).length = len := by simp; omega
    refine ⟨zs.take len, fun n hn => hwz n (List.mem_of_mem_take hn), by rw [hlen]; omega, ?_⟩
    rw [hlen]
    refine .sl len _ (some a) cap 1 a (fun j => .int k (zs.getD j 0)) hl (fun i hi => rfl) (fun i j u hi hu => ?_) (fun h0 => ?_) (fun i j u hi hu => ?_) (fun i j u hi hu => ?_)
    · cases j with
      | zero => simp [F.cells] at hu; subst hu; rfl
      | succ j => simp [F.cells] at hu
    · have h1 := hcell 0 (by omega)
      have hsp : a.spot = none := by
        have := World.cell?_spot h1
        simpa [Addr.add] using this
      refine ⟨rfl, ?_, hsp⟩
      have := cell_lt h1
      simpa [Addr.add] using this
    · cases j with
      | zero =>
        have h1 := hcell i (by omega)
        have hsp : a.spot = none := by
          have := World.cell?_spot (hcell 0 (by omega))
          simpa [Addr.add] using this
        have e1 : a.add i = ⟨a.block, a.off + (i * 1 + 0), none⟩ := by
          rw [add_zero_addr a hsp]; simp
        rw [← e1, h1]
        simp
      | succ j => simp [F.cells] at hu
    · cases j with
      | zero =>
        simp [F.cells] at hu; subst hu
        have e2 : (zs.take len).getD i 0 = zs.getD (i * 1 + 0) 0 := by
          simp only [Nat.mul_one, Nat.add_zero, List.getD]
          rw [List.getElem?_take, if_pos hi]
        rw [← List.getD_eq_getElem?_getD, e2]
        exact .int k _
      | succ j => simp [F.cells] at hu

theorem open_bytesF (ht : P.underlying t = some (.slice e)) (he : P.underlying e = some (.int .u8)) (hc : P.cellsOf e = 1) (hval : Value.okWide P W .any base t v) (h : DataW.Trod enc P W 0 (fun _ => true) true t v d ps) :
    ∃ x, isBytes x = true ∧ RepF W (fun b => b < W.heap.size) x v := by
  obtain ⟨zs, h1, _, h2⟩ := open_intsF ht he hc hval h
  refine ⟨_, ?_, h2⟩
  simp only [isBytes, isSl, List.all_eq_true, List.mem_range]
  intro i hi
  have hmem : zs.getD i 0 ∈ zs := by
    rw [show zs.getD i 0 = zs[i] by simp [List.getD, List.getElem?_eq_getElem hi]]
    exact List.getElem_mem hi
  have hb := h1 _ hmem
  have : 0 ≤ zs.getD i 0 ∧ zs.getD i 0 < 256 := by
    have := range_u8 h1 i
    rw [← List.getD_eq_getElem?_getD] at this
    omega
  simp only [isByte, Bool.and_eq_true, decide_eq_true_eq]
  exact this
end
end Go.Proofs.Ytjbilidfnfnpfaa.R
