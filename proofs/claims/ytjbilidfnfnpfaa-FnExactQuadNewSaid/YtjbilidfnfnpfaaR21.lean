/-
  The own reflective walk, part 21: any operation on a heap that tells more.
-/
import Derived.Test.YtjbilidfnfnpfaaR20
namespace Go.Proofs.Ytjbilidfnfnpfaa.R
open Go
noncomputable section
set_option linter.unusedVariables false
set_option linter.unusedSimpArgs false
section
variable {P : Program} {ty : TypeId → Option TI} {C : Env} {st st' st1 : St} {u : U} {k : Nat}

theorem evOp_same (hH : HInf st.heap st'.heap) (hk : st.heap[k]? = some .free) (hk' : st'.heap[k]? = some .free) (o : Oper) (he : ∀ x ∈ o.op.operands, st.ev x = st'.ev x) : Same k st st' fun st => evOp P ty C (some k) o st pairK := by
  intro v st1 h
  obtain ⟨dst, op, type, pos, after, guard⟩ := o
  simp only at h he ⊢
  cases op with
  | move x =>
    have e := he x (by simp [Op.operands])
    simp only [evOp] at h ⊢
    rw [e] at h
    exact same_read hk hk' h
  | assign x =>
    have e := he x (by simp [Op.operands])
    simp only [evOp] at h ⊢
    rw [e] at h
    exact same_read hk hk' h
  | binOp op t x y n =>
    have e1 := he x (by simp [Op.operands])
    have e2 := he y (by simp [Op.operands])
    simp only [evOp] at h ⊢
    rw [e1, e2] at h
    exact evBin_same hH hk hk' _ _ _ _ _ _ h
  | unOp op t x =>
    have e := he x (by simp [Op.operands])
    simp only [evOp] at h ⊢
    rw [e] at h
    exact evUn_same hk hk' _ _ _ _ h
  | pick c x y =>
    have e1 := he c (by simp [Op.operands])
    have e2 := he x (by simp [Op.operands])
    have e3 := he y (by simp [Op.operands])
    simp only [evOp] at h ⊢
    rw [e1, e2, e3] at h
    split at h
    · rename_i t ht
      cases t with
      | true => exact same_read hk hk' h
      | false => exact same_read hk hk' h
    · cases h
  | alloc e =>
    simp only [evOp] at h ⊢
    split at h
    · cases h; exact ⟨_, rfl, rfl⟩
    · cases h
  | box t x =>
    have e := he x (by simp [Op.operands])
    simp only [evOp] at h ⊢
    rw [e] at h
    split at h
    · cases h
    · cases h
    · cases h
    · cases h
    · cases h; exact ⟨_, rfl, by rfl⟩
  | load t x =>
    have e := he x (by simp [Op.operands])
    simp only [evOp] at h ⊢
    rw [e] at h
    split at h
    · exact evLoad_same hH hk hk' _ _ _ _ h
    · cases h
  | store t x y =>
    simp only [evOp] at h
    split at h
    · cases h
    · cases h
  | convert a b x =>
    have e := he x (by simp [Op.operands])
    simp only [evOp] at h ⊢
    rw [e] at h
    exact evConvert_same hH hk hk' _ _ _ _ _ h
  | makeSlice t x y =>
    have e1 := he x (by simp [Op.operands])
    have e2 := he y (by simp [Op.operands])
    simp only [evOp] at h ⊢
    rw [e1, e2] at h
    exact evMake_same _ _ _ _ _ h
  | fieldAddr t x f =>
    have e := he x (by simp [Op.operands])
    simp only [evOp] at h ⊢
    rw [e] at h
    exact evFieldAddr_same hH hk hk' _ _ _ _ _ h
  | field t x f =>
    have e := he x (by simp [Op.operands])
    simp only [evOp] at h ⊢
    rw [e] at h
    exact evField_same hk hk' _ _ _ _ _ h
  | indexAddr t x y =>
    have e1 := he x (by simp [Op.operands])
    have e2 := he y (by simp [Op.operands])
    simp only [evOp] at h ⊢
    rw [e1, e2] at h
    exact evIndexAddr_same hH hk hk' _ _ _ _ _ h
  | index t x y =>
    have e1 := he x (by simp [Op.operands])
    have e2 := he y (by simp [Op.operands])
    simp only [evOp] at h ⊢
    rw [e1, e2] at h
    exact evIndex_same hk hk' _ _ _ _ _ h
  | build t ps =>
    have e : (ps.toList.map fun p => (p.1, st.ev p.2)) = ps.toList.map fun p => (p.1, st'.ev p.2) :=
      List.map_congr_left fun p hp => by rw [he p.2 (by simp only [Op.operands]; simpa using ⟨p.1, by simpa using hp⟩)]
    simp only [evOp] at h ⊢
    rw [e] at h
    exact evBuild_same hk hk' _ _ _ _ h
  | buildSlice t n ps =>
    have e : (ps.toList.map fun p => (p.1, st.ev p.2)) = ps.toList.map fun p => (p.1, st'.ev p.2) :=
      List.map_congr_left fun p hp => by rw [he p.2 (by simp only [Op.operands]; simpa using ⟨p.1, by simpa using hp⟩)]
    simp only [evOp] at h ⊢
    rw [e] at h
    exact evBuildSlice_same hH _ _ _ _ _ h
  | nilCheck x =>
    have e := he x (by simp [Op.operands])
    simp only [evOp] at h ⊢
    rw [e] at h
    split at h
    · split at h
      · rename_i ho
        simp only [hH.box ho]
        exact same_read hk hk' h
      · cases h
    · split at h
      · rename_i ho
        replace h := bsel_some h; obtain ⟨h1, h⟩ := h
        simp only [hH.arr ho, h1, bsel_true]
        exact same_read hk hk' h
      · cases h
    · exact same_read hk hk' h
    · exact same_read hk hk' h
    · cases h
  | makeFunc f first captured =>
    cases f with
    | func f =>
      have e : captured.toList.map st.ev = captured.toList.map st'.ev := List.map_congr_left fun x hx => he x (by simp only [Op.operands]; simp at hx ⊢; exact .inr hx)
      simp only [evOp] at h ⊢
      rw [e] at h
      replace h := bsel_some h; obtain ⟨h1, h⟩ := h
      simp only [h1, bsel_true]
      exact same_read hk hk' h
    | _ => simp only [evOp] at h; cases h
  | slice t x lo hi mx =>
    have e := he x (by simp [Op.operands])
    have e1 : lo.map st.ev = lo.map st'.ev := by cases lo with
      | none => rfl
      | some y => exact congrArg some (he y (by simp [Op.operands]))
    have e2 : hi.map st.ev = hi.map st'.ev := by cases hi with
      | none => rfl
      | some y => exact congrArg some (he y (by simp [Op.operands]))
    have e3 : mx.map st.ev = mx.map st'.ev := by cases mx with
      | none => rfl
      | some y => exact congrArg some (he y (by simp [Op.operands]))
    simp only [evOp] at h ⊢
    rw [e, e1, e2, e3] at h
    exact evSlice_same hH hk hk' _ _ _ _ _ _ _ h
  | extract x i =>
    have e := he x (by simp [Op.operands])
    simp only [evOp] at h ⊢
    rw [e] at h
    split at h
    · split at h
      · rename_i hu
        try simp only [hu]
        exact same_read hk hk' h
      · cases h
    · split at h
      · rename_i hu
        try simp only [hu]
        exact same_read hk hk' h
      · cases h
    · cases h
  | call c =>
    have e : c.args.toList.map st.ev = c.args.toList.map st'.ev := List.map_congr_left fun x hx => he x (by simp only [Op.operands, Call.operands]; simp at hx ⊢; exact .inr hx)
    simp only [evOp] at h ⊢
    rw [e] at h
    split at h
    · rename_i hc ha ht
      try simp only [hc, ha, ht]
      split at h
      · rename_i hti
        try simp only [hti]
        split at h
        · rename_i h1
          try simp only [h1]
          exact same_read hk hk' h
        · rename_i h1
          try simp only [h1]
          exact same_read hk hk' h
        · rename_i h1
          try simp only [h1]
          split at h
          · rename_i ho
            replace h := bsel_some h; obtain ⟨h2, h⟩ := h
            simp only [hH.arr ho, h2, bsel_true]
            exact same_read hk hk' h
          · cases h
        · rename_i h1
          try simp only [h1]
          exact same_read hk hk' h
        · cases h
      · cases h
    · rename_i hc ha ht
      try simp only [hc, ha, ht]
      exact evAppend_same hH hk hk' _ _ _ _ _ _ h
    · rename_i hc ha
      try simp only [hc, ha]
      split at h
      · rename_i hm
        try simp only [hm]
        exact same_read hk hk' h
      · cases h
    · rename_i hc ha
      try simp only [hc, ha]
      split at h
      · rename_i hm
        try simp only [hm]
        exact same_read hk hk' h
      · cases h
    · rename_i f hc
      have ef := he f (by simp only [Op.operands, Call.operands, hc]; simp)
      try simp only [hc]
      rw [ef] at h
      split at h
      · rename_i hf
        try simp only [hf]
        exact evCall_same hH hk hk' _ _ _ _ h
      · cases h
    · cases h
  | _ => simp only [evOp] at h; cases h
end
end
end Go.Proofs.Ytjbilidfnfnpfaa.R
