/-
  The walk of the functions about masks: the names and their masks.
-/
import Derived.Test.YthldemeodnlhbaaM7
namespace Go.Proofs.Ythldemeodnlhbaa.R
open Go
set_option linter.unusedVariables false
set_option linter.unusedSimpArgs false
set_option maxRecDepth 100000
/-! ### function 32 -/
def T32 {ρ : Type} (ret : (F) → Option ρ) (a0 : ByteArray) : Option ρ :=
  (bsel (a0.toList == (ByteArray.mk #[101, 113, 117, 97, 108, 115]).toList)
   (ret (F.sl 1 (lget [F.str (ByteArray.mk #[84, 42, 70, 42, 42, 70, 70, 70, 42])])))
   (bsel (a0.toList == (ByteArray.mk #[100, 105, 115, 106, 111, 105, 110, 116]).toList)
    (ret (F.sl 1 (lget [F.str (ByteArray.mk #[70, 70, 42, 70, 70, 42, 42, 42, 42])])))
    (bsel (a0.toList == (ByteArray.mk #[116, 111, 117, 99, 104, 101, 115]).toList)
     (ret (F.sl 3 (lget [F.str (ByteArray.mk #[70, 84, 42, 42, 42, 42, 42, 42, 42]), F.str (ByteArray.mk #[70, 42, 42, 84, 42, 42, 42, 42, 42]), F.str (ByteArray.mk #[70, 42, 42, 42, 84, 42, 42, 42, 42])])))
     (bsel (a0.toList == (ByteArray.mk #[119, 105, 116, 104, 105, 110]).toList)
      (ret (F.sl 1 (lget [F.str (ByteArray.mk #[84, 42, 70, 42, 42, 70, 42, 42, 42])])))
      (bsel (a0.toList == (ByteArray.mk #[99, 111, 110, 116, 97, 105, 110, 115]).toList)
       (ret (F.sl 1 (lget [F.str (ByteArray.mk #[84, 42, 42, 42, 42, 42, 70, 70, 42])])))
       (bsel (a0.toList == (ByteArray.mk #[111, 118, 101, 114, 108, 97, 112, 115]).toList)
        (ret (F.sl 1 (lget [F.str (ByteArray.mk #[84, 42, 84, 42, 42, 42, 84, 42, 42])])))
        (bsel (a0.toList == (ByteArray.mk #[105, 110, 116, 101, 114, 115, 101, 99, 116, 115]).toList)
         (ret (F.sl 4 (lget [F.str (ByteArray.mk #[84, 42, 42, 42, 42, 42, 42, 42, 42]), F.str (ByteArray.mk #[42, 84, 42, 42, 42, 42, 42, 42, 42]), F.str (ByteArray.mk #[42, 42, 42, 84, 42, 42, 42, 42, 42]), F.str (ByteArray.mk #[42, 42, 42, 42, 84, 42, 42, 42, 42])])))
         (ret (F.sl 0 fun x ↦ F.bool false)))))))))
def G32 (a0 : ByteArray) : Option (F) := T32 some a0
theorem t32 (a0 : ByteArray) (r : F) (h : G32 a0 = some r) : Ends Try.prog Try.f32.results.toList [.code (bodyOf Try.f32)] (start Try.f32.ntmps ([F.str a0].map .f)) (r) := by
  refine Ends.of_run tyOK env0_ok (T := []) (n := 200) ?_
  have e : run Try.prog (tiOf Try.prog) env0 [] 0 Try.f32.results.toList some 200 [.code (bodyOf Try.f32)] (start Try.f32.ntmps ([F.str a0].map .f)) = T32 (fun r => some (.ret (r))) a0 := by kernel_rfl
  rw [e]
  exact (good_sel h (fun _ h => good_ret (by cases h; rfl)) (fun _ h => (good_sel h (fun _ h => good_ret (by cases h; rfl)) (fun _ h => (good_sel h (fun _ h => good_ret (by cases h; rfl)) (fun _ h => (good_sel h (fun _ h => good_ret (by cases h; rfl)) (fun _ h => (good_sel h (fun _ h => good_ret (by cases h; rfl)) (fun _ h => (good_sel h (fun _ h => good_ret (by cases h; rfl)) (fun _ h => (good_sel h (fun _ h => good_ret (by cases h; rfl)) (fun _ h => good_ret (by cases h; rfl)))))))))))))))
/-! ### function 33 -/
def T33 {ρ : Type} (ret : (F) → Option ρ)  : Option ρ :=
  (ret (F.sl 7 (lget [F.sl 2 (lget [F.str (ByteArray.mk #[101, 113, 117, 97, 108, 115]), F.str (ByteArray.mk #[84, 42, 70, 42, 42, 70, 70, 70, 42])]), F.sl 2 (lget [F.str (ByteArray.mk #[100, 105, 115, 106, 111, 105, 110, 116]), F.str (ByteArray.mk #[70, 70, 42, 70, 70, 42, 42, 42, 42])]), F.sl 4 (lget [F.str (ByteArray.mk #[116, 111, 117, 99, 104, 101, 115]), F.str (ByteArray.mk #[70, 84, 42, 42, 42, 42, 42, 42, 42]), F.str (ByteArray.mk #[70, 42, 42, 84, 42, 42, 42, 42, 42]), F.str (ByteArray.mk #[70, 42, 42, 42, 84, 42, 42, 42, 42])]), F.sl 2 (lget [F.str (ByteArray.mk #[119, 105, 116, 104, 105, 110]), F.str (ByteArray.mk #[84, 42, 70, 42, 42, 70, 42, 42, 42])]), F.sl 2 (lget [F.str (ByteArray.mk #[99, 111, 110, 116, 97, 105, 110, 115]), F.str (ByteArray.mk #[84, 42, 42, 42, 42, 42, 70, 70, 42])]), F.sl 2 (lget [F.str (ByteArray.mk #[111, 118, 101, 114, 108, 97, 112, 115]), F.str (ByteArray.mk #[84, 42, 84, 42, 42, 42, 84, 42, 42])]), F.sl 5 (lget [F.str (ByteArray.mk #[105, 110, 116, 101, 114, 115, 101, 99, 116, 115]), F.str (ByteArray.mk #[84, 42, 42, 42, 42, 42, 42, 42, 42]), F.str (ByteArray.mk #[42, 84, 42, 42, 42, 42, 42, 42, 42]), F.str (ByteArray.mk #[42, 42, 42, 84, 42, 42, 42, 42, 42]), F.str (ByteArray.mk #[42, 42, 42, 42, 84, 42, 42, 42, 42])])])))
def G33  : Option (F) := T33 some 
theorem t33  (r : F) (h : G33  = some r) : Ends Try.prog Try.f33.results.toList [.code (bodyOf Try.f33)] (start Try.f33.ntmps ([].map .f)) (r) := by
  refine Ends.of_run tyOK env0_ok (T := []) (n := 200) ?_
  have e : run Try.prog (tiOf Try.prog) env0 [] 0 Try.f33.results.toList some 200 [.code (bodyOf Try.f33)] (start Try.f33.ntmps ([].map .f)) = T33 (fun r => some (.ret (r)))  := by kernel_rfl
  rw [e]
  exact good_ret (by cases h; rfl)
/-- A list of texts, as a slice. -/
def strsF (l : List ByteArray) : F := .sl l.length fun i => .str (l.getD i (ByteArray.mk #[]))
theorem strs_le (l : List ByteArray) : FLe (.sl l.length (lget (l.map .str))) (strsF l) := FLe.sl fun j hj => by
  simp [lget, List.getD, List.getElem?_eq_getElem hj]
/-- The texts of a slice. -/
def unstr : F → List ByteArray
  | .sl n g => (List.range n).filterMap fun i => match g i with
    | .str s => some s
    | _ => none
  | _ => []
def l32 (s : ByteArray) : List ByteArray := (T32 (fun r => some (unstr r)) s).getD []
def res32 : List F → F | [.str s] => strsF (l32 s) | _ => .bool false
theorem G32_eq (s : ByteArray) : ∃ r, G32 s = some r ∧ FLe r (strsF (l32 s)) := by
  unfold G32 l32 T32
  repeat' first
    | (generalize (s.toList == ByteArray.toList _) = c; cases c <;> simp only [bsel_true, bsel_false, Option.getD_some])
    | exact ⟨_, rfl, strs_le [_]⟩
    | exact ⟨_, rfl, strs_le [_, _, _]⟩
    | exact ⟨_, rfl, strs_le [_, _, _, _]⟩
    | exact ⟨_, rfl, FLe.sl fun j hj => by omega⟩
end Go.Proofs.Ythldemeodnlhbaa.R
