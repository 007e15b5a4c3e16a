/-
  The own reflective walk, part 24: slices read as lists; arguments that tell less.
-/
import Derived.Test.YtjbilidfnfnpfaaR23
namespace Go.Proofs.Ytjbilidfnfnpfaa.R
open Go
set_option linter.unusedVariables false
set_option linter.unusedSimpArgs false

section
variable {P : Program} {w : World} {Z : Nat → Prop} {m : Nat → Nat} {H : List HO}

def FsLe : List F → List F → Prop
  | [], [] => True
  | x :: xs, y :: ys => FLe x y ∧ FsLe xs ys
  | _, _ => False
theorem FsLe.refl : ∀ xs : List F, FsLe xs xs
  | [] => trivial
  | x :: xs => ⟨.refl x, .refl xs⟩
theorem FsLe.get : ∀ {xs ys : List F}, FsLe xs ys → xs.length = ys.length ∧ ∀ (i : Nat) (y : F), ys[i]? = some y → ∃ x, xs[i]? = some x ∧ FLe x y
  | [], [], _ => ⟨rfl, fun i y h => by simp at h⟩
  | x :: xs, y :: ys, h => by
    obtain ⟨h1, h2⟩ := FsLe.get h.2
    refine ⟨by simp [h1], fun i z hi => ?_⟩
    cases i with
    | zero => simp at hi; subst hi; exact ⟨x, rfl, h.1⟩
    | succ i => simp at hi; obtain ⟨u2, h3, h4⟩ := h2 i z hi; exact ⟨u2, by simpa using h3, h4⟩
  | [], _ :: _, h => h.elim
  | _ :: _, [], h => h.elim

theorem RepL.le {xs ys : List F} {vs : List Value} (h : FsLe xs ys) (hL : RepL w Z xs vs) : RepL w Z ys vs := by
  obtain ⟨h1, h2⟩ := h.get
  refine ⟨by rw [← h1]; exact hL.1, fun j y v hy hv => ?_⟩
  obtain ⟨x, hx, hle⟩ := h2 j y hy
  exact hle _ _ _ (hL.2 j x v hx hv)

/-- A function of data, walked at arguments that tell no more. -/
theorem fn_pure_at {f : FuncId} {fn : Func} {c : Code} (hf : P.funcs[f]? = some fn) (hb : fn.body = some c) (hname : oddFn fn = false) {pre : List F → Bool} {res : List F → F}
    (h : ∀ xs, pre xs = true → ∃ ys y, FsLe xs ys ∧ Ends P fn.results.toList [.code c] (start fn.ntmps (ys.map .f)) y ∧ FLe y (res xs)) : PureOK P f pre res := by
  intro xs hp w Z args hZ hL
  obtain ⟨ys, y, h1, h2, h3⟩ := h xs hp
  have := fn_pure hf hb hname (pre := fun _ => true) (res := fun zs => y) (P := P) (f := f)
  have key : PureOK P f (fun zs => @decide (zs = ys) (Classical.propDecidable _)) (fun _ => y) := fn_pure hf hb hname fun zs hz => by
    obtain rfl := @of_decide_eq_true _ (Classical.propDecidable _) hz
    exact h2
  exact (key ys (@decide_eq_true _ (Classical.propDecidable _) rfl) w Z args hZ (hL.le h1)).mono fun v w' ⟨hg, Z', hz, hr⟩ => ⟨hg, Z', hz, h3 _ _ _ hr⟩

theorem HOK.box_le {xs ys : List F} (h : FsLe xs ys) (hH : HOK w Z m [boxF xs]) : HOK w Z m [boxF ys] := by
  have hl : ∀ k, liveAt [boxF ys] k → liveAt [boxF xs] k := by
    rintro k ⟨ob, hk, _⟩
    have hk0 := (List.getElem?_eq_some_iff.1 hk).1
    obtain rfl : k = 0 := by simp at hk0; exact hk0
    exact ⟨_, rfl, rfl⟩
  refine ⟨hH.zlt, fun o ho => hH.apart o (hl o ho), fun o o' h h' => hH.inj o o' (hl o h) (hl o' h'), fun k ob hk => ?_⟩
  have hk0 := (List.getElem?_eq_some_iff.1 hk).1
  obtain rfl : k = 0 := by simp at hk0; exact hk0
  simp at hk; subst hk
  obtain ⟨c, el, fr, q1, q2, q3, q4⟩ := hH.ob 0 _ rfl
  obtain ⟨h1, h2⟩ := h.get
  refine ⟨c, el, fr, q1, q2, by rw [List.length_map, ← h1]; simpa using q3, fun j u hu => ?_⟩
  rw [List.getElem?_map] at hu
  cases hy : ys[j]? with
  | none => rw [hy] at hu; cases hu
  | some y =>
    rw [hy] at hu; cases hu
    obtain ⟨x, hx, hle⟩ := h2 j y hy
    obtain ⟨v, hv, hr⟩ := q4 j (.f x) (by rw [List.getElem?_map, hx]; rfl)
    exact ⟨v, hv, by cases hr with | f _ _ hr => exact .f _ _ (hle _ _ _ hr)⟩

theorem Ext.box_le {w' : World} {Z' : Nat → Prop} {m' : Nat → Nat} {xs ys os ps : List F} (h : FsLe xs ys) (h' : FsLe ps os) (hE : Ext w Z m [boxF ys] w' Z' m' [boxF ps]) : Ext w Z m [boxF xs] w' Z' m' [boxF os] := by
  have hl : ∀ (as bs : List F) k, liveAt [boxF as] k → liveAt [boxF bs] k := by
    rintro as bs k ⟨ob, hk, _⟩
    have hk0 := (List.getElem?_eq_some_iff.1 hk).1
    obtain rfl : k = 0 := by simp at hk0; exact hk0
    exact ⟨_, rfl, rfl⟩
  refine ⟨hE.os, hE.tape, hE.output, hE.size, hE.sub, fun b hb => ?_, hE.kept, fun b hb hn => hE.rest b hb fun o ho => hn o (hl _ _ o ho), by simp, fun o ob ob' ho ho' => ?_, fun o ho => ?_⟩
  · rcases hE.back b hb with h1 | h1 | ⟨o, ho, e⟩
    · exact .inl h1
    · exact .inr (.inl h1)
    · exact .inr (.inr ⟨o, hl _ _ o ho, e⟩)
  · have hk0 := (List.getElem?_eq_some_iff.1 ho).1
    obtain rfl : o = 0 := by simp at hk0; exact hk0
    simp at ho ho'; subst ho; subst ho'
    have := hE.evol 0 _ _ rfl rfl
    simp only [boxF, Evol, List.length_map] at this ⊢
    exact ⟨by rw [← h'.get.1, h.get.1]; exact this.1, this.2⟩
  · rcases hE.new o (hl _ _ o ho) with ⟨h1, h2⟩ | h1
    · exact .inl ⟨hl _ _ o h1, h2⟩
    · exact .inr h1

/-- A method, walked at arguments that tell no more. -/
theorem fn_ptr_at {f : FuncId} {fn : Func} {c : Code} (hf : P.funcs[f]? = some fn) (hb : fn.body = some c) (hname : (fn.name == "runtime.NumGoroutine") = false) {pre : List F → List F → Bool} {res : List F → List F → F × List F}
    (h : ∀ cs xs, pre cs xs = true → ∃ ds ys r os, FsLe cs ds ∧ FsLe xs ys ∧ EndsN P 1 fn.results.toList [.code c] (startN fn.ntmps (.hp 0 0 :: ys.map .f) [.box (ds.map .f)]) (.tup [r, .agg os]) ∧ FLe r (res cs xs).1 ∧ FsLe os (res cs xs).2) : SpOK P f (ptrSp pre res) :=
  ptr_shared fun cs xs hp w Z m args hH hL => by
    obtain ⟨ds, ys, r, os, h1, h2, h3, h4, h5⟩ := h cs xs hp
    refine (fn_sub hf hb hname (H := [boxF ds]) (os := [os]) rfl (by simp) h3 w Z m args (hH.box_le h1) ?_).mono fun v w' ⟨Z', m', hE, hH', hr⟩ => ⟨Z', m', hE.box_le h1 h5, hH'.box_le h5, h4 _ _ _ hr⟩
    obtain ⟨hl, hg⟩ := h2.get
    refine ⟨by rw [← hL.1]; simp [hl], fun j u v hu hv => ?_⟩
    cases j with
    | zero =>
      simp at hu; subst hu
      have := hL.2 0 _ v rfl hv
      cases this with
      | hp _ _ _ h1 hk hvv => exact .hp 0 0 v h1 ⟨_, rfl, by simp [boxF]⟩ fun cs' _ => hvv _ rfl
    | succ j =>
      simp only [List.getElem?_cons_succ, List.getElem?_map] at hu
      cases hy : ys[j]? with
      | none => rw [hy] at hu; cases hu
      | some y =>
        rw [hy] at hu; cases hu
        obtain ⟨x, hx, hle⟩ := hg j y hy
        have hr := hL.2 (j + 1) (.f x) v (by simp [hx]) hv
        cases hr with | f _ _ hr => exact .f _ _ (hle _ _ _ hr)

theorem fn_new {f : FuncId} {fn : Func} {c : Code} {t : Tmp} {ty : TypeId} (hf : P.funcs[f]? = some fn) (hb : fn.body = some c) (hname : (fn.name == "runtime.NumGoroutine") = false) (hrs : fn.results = #[.tmp t]) (hag : ∀ ti, tiOf P ty = some ti → ti.isAgg = true)
    {pre : List F → Bool} {res : List F → List F}
    (h : ∀ xs, pre xs = true → ∃ ys os, FsLe xs ys ∧ Ends P [.cell t ty] [.code c] (start fn.ntmps (ys.map .f)) (.agg os) ∧ FsLe os (res xs)) : SpOK P f (newSp pre res) := by
  intro us H hp w Z m args hH hL
  simp only [newPre, newRes] at hp ⊢
  cases hxs : toFs [] us with
  | none => rw [hxs] at hp; cases hp
  | some xs =>
  rw [hxs] at hp
  simp only at hp
  simp only []
  obtain ⟨hl2, hg2⟩ := toFs_get us xs hxs
  obtain ⟨ys, os, hle, h, hlo2⟩ := h xs hp
  obtain ⟨hyl, hyg⟩ := hle.get
  obtain ⟨hol, hog⟩ := hlo2.get
  refine .inl ⟨by
    have hp : (program).run P w = .ok P w := rfl
    unfold callFunc
    simp only [Sem.run_bind, hp, Result.andThen, hf, hname, hb, Option.isNone_some, Bool.false_eq_true, if_false, Sem.run_pure], fun cs => ?_⟩
  have hlenx : xs.length = args.size := by rw [← hl2]; simpa using hL.1
  have hlen : ys.length = args.size := by rw [← hyl]; exact hlenx
  have hA : AOK w Z m (start fn.ntmps (ys.map .f)) { tmps := args ++ Array.replicate (fn.ntmps - args.size) undef, defers := [] } := by
    refine ⟨by simp [start, hlen], fun i u v hu hv => ?_, ?_⟩
    · simp only [start, List.length_map] at hu
      rw [List.getElem?_append] at hu
      rw [Array.getElem?_append] at hv
      simp only [List.length_map] at hu
      split at hu
      · rename_i hi
        rw [if_pos (by omega)] at hv
        rw [List.getElem?_map] at hu
        cases hy : ys[i]? with
        | none => rw [hy] at hu; cases hu
        | some y =>
          rw [hy] at hu; cases hu
          obtain ⟨x, hx, hxy⟩ := hyg i y hy
          have huj : us[i]? = some us[i] := List.getElem?_eq_getElem (by omega)
          exact .f _ _ (hxy _ _ _ (toF_rep_nil hH (hL.2 i _ v huj (by simpa using hv)) (hg2 i _ x huj hx)))
      · rename_i hi
        rw [if_neg (by omega)] at hv
        rw [List.getElem?_replicate] at hu
        rw [Array.getElem?_replicate] at hv
        split at hu
        · split at hv
          · cases hu; cases hv; exact .undef
          · cases hv
        · cases hu
    · exact ⟨hH.zlt, fun o ⟨ob, ho, _⟩ => by simp [start] at ho, fun o o' ⟨ob, ho, _⟩ => by simp [start] at ho, fun o ob ho => by simp [start] at ho⟩
  let b : Frame := { (default : Frame) with fn := f, kind := .normal }
  have henter : Frame.enter P f args .normal = b.at { tmps := args ++ Array.replicate (fn.ntmps - args.size) undef, defers := [] } [.code c] := by
    simp [Frame.enter, Frame.at, hf, hb, b]
  obtain ⟨st', a', w', todo, hk, ⟨hd, Z', m', hA', hE'⟩, hs⟩ := h w Z m [] [] _ w Z m rfl hA rfl (Ext.refl _ _ _ _) b cs
  unfold retF at hk
  have hmk : (([ResultVar.cell t ty]).head?.elim false ownMark && Nat.beq ([] : List HO).length 0) = false := rfl
  simp only [List.head?_cons, Option.elim_some, ownMark, Bool.false_and, Bool.false_eq_true, if_false] at hk
  split at hk
  case h_2 => cases hk
  rename_i us' hus
  split at hk
  case h_2 => cases hk
  rename_i ys hys
  simp only [Option.some.injEq] at hk
  simp only [resU] at hus
  split at hus
  case h_2 => cases hus
  rename_i o ti us2 htx hti hus2
  cases hus2
  split at hus
  case isFalse => cases hus
  rename_i hwb
  unfold wholeBox at hwb
  split at hwb
  case h_2 => cases hwb
  rename_i cu ho
  simp only [beq_iff_eq] at hwb
  have hag := hag ti hti
  simp only [evLoad, ho, hag, Nat.zero_add, hwb, Nat.le_refl, decide_true, bsel_true, Bool.true_or, List.drop_zero, Option.some.injEq] at hus
  subst hus
  rw [List.take_of_length_le (by omega)] at hys
  simp only [mkU, if_true, toFs, toF] at hys
  cases hcu : toFs st'.heap cu with
  | none => rw [hcu] at hys; simp at hys
  | some zs =>
  rw [hcu] at hys
  simp only [Option.map_some, Option.some.injEq] at hys
  subst hys
  simp only [tupF, F.agg.injEq] at hk
  subst hk
  have hlive0 : ∀ o, ¬ liveAt ([] : List HO) o := fun o ⟨ob, ho, _⟩ => by simp at ho
  have hlo : liveAt st'.heap o := ⟨_, ho, rfl⟩
  let Z2 : Nat → Prop := fun b => Z' b ∨ ∃ o', o' ≠ o ∧ liveAt st'.heap o' ∧ m' o' = b
  let m2 : Nat → Nat := fun k => if k = H.length then m' o else m k
  have hfresh : w.heap.size ≤ m' o := by
    rcases hE'.new o hlo with ⟨h, _⟩ | h
    · exact absurd h (hlive0 o)
    · exact h
  have data : ∀ (u : U) (v : Value) (y : F), RepU w' Z' m' st'.heap u v → toF st'.heap u = some y → RepF w' Z2 y v := by
    intro u v y hr hy
    refine (toF_rep hA'.hok (fun _ _ h => h) hr hy).mono ?_ (fun _ _ => rfl)
    rintro b (hb | ⟨o', ho', hlv, rfl⟩)
    · exact .inl hb
    · refine .inr ⟨o', ?_, hlv, rfl⟩
      rintro rfl
      obtain ⟨sz, k, g, h2⟩ := toF_arr u y hy o' ho'
      rw [ho] at h2; cases h2
  have hZ2 : ∀ b, Z2 b → Z b ∨ (w.heap.size ≤ b ∧ b < w'.heap.size) := by
    rintro b (hb | ⟨o', ho', hlv, rfl⟩)
    · have hlt := hA'.hok.zlt b hb
      rcases hE'.back b hb with h | h | ⟨o, ho, _⟩
      · exact .inl h
      · exact .inr ⟨h, hlt⟩
      · exact absurd ho (hlive0 o)
    · rcases hE'.new o' hlv with ⟨h, _⟩ | h
      · exact absurd h (hlive0 o')
      · exact .inr ⟨h, hA'.hok.blk_lt hlv⟩
  have hold : ∀ b, b < w.heap.size → w'.heap[b]? = w.heap[b]? := fun b hb => hE'.rest b hb fun o ho => absurd ho (hlive0 o)
  have hmk : ∀ k, liveAt H k → m2 k = m k := by
    rintro k ⟨ob, hk, _⟩
    have := (List.getElem?_eq_some_iff.1 hk).1
    simp only [m2]
    rw [if_neg (by omega)]
  have hmn : m2 H.length = m' o := by simp [m2]
  have hsplit : ∀ k, liveAt (H ++ [boxF (res xs)]) k → liveAt H k ∨ k = H.length := by
    rintro k ⟨ob, hk, hl⟩
    rcases Nat.lt_trichotomy k H.length with h1 | h1 | h1
    · rw [List.getElem?_append_left h1] at hk; exact .inl ⟨ob, hk, hl⟩
    · exact .inr h1
    · rw [List.getElem?_append_right (by omega), List.getElem?_eq_none (by simp; omega)] at hk; cases hk
  have hEE : Ext w Z m H w' Z2 m2 (H ++ [boxF (res xs)]) := by
    refine ⟨hE'.os, hE'.tape, hE'.output, hE'.size, fun b hb => .inl (hE'.sub b hb), ?_, hE'.kept, fun b hb _ => hold b hb, by simp, ?_, ?_⟩
    · intro b hb
      rcases hZ2 b hb with h | h
      · exact .inl h
      · exact .inr (.inl h.1)
    · intro k ob ob' hk hk'
      have hlt := (List.getElem?_eq_some_iff.1 hk).1
      rw [List.getElem?_append_left hlt, hk] at hk'
      cases hk'
      have : m2 k = m k := by simp only [m2]; rw [if_neg (by omega)]
      rw [this]
      cases ob with
      | arr sz n g => exact ⟨rfl, Nat.le_refl _, fun _ => ⟨rfl, by simp only [blockCells, hold _ (hH.blk_lt ⟨_, hk, rfl⟩)]⟩⟩
      | _ => simp [Evol]
    · intro k hk
      rcases hsplit k hk with h1 | h1
      · exact .inl ⟨h1, hmk k h1⟩
      · subst h1; right; rw [hmn]; exact hfresh
  have hHH : HOK w' Z2 m2 (H ++ [boxF (res xs)]) := by
    refine ⟨?_, ?_, ?_, ?_⟩
    · intro b hb
      rcases hZ2 b hb with h | h
      · exact Nat.lt_of_lt_of_le (hH.zlt b h) hE'.size
      · exact h.2
    · intro k hk hz
      rcases hsplit k hk with h1 | h1
      · rw [hmk k h1] at hz
        have := hH.blk_lt h1
        rcases hZ2 _ hz with h | h
        · exact hH.apart k h1 h
        · omega
      · subst h1
        rw [hmn] at hz
        rcases hz with hz | ⟨o', hne, hlv, e⟩
        · exact hA'.hok.apart o hlo hz
        · exact hne (hA'.hok.inj o' o hlv hlo e)
    · intro k k' hk hk' e
      rcases hsplit k hk with h1 | h1 <;> rcases hsplit k' hk' with h2 | h2
      · rw [hmk k h1, hmk k' h2] at e; exact hH.inj k k' h1 h2 e
      · subst h2; rw [hmk k h1, hmn] at e; have := hH.blk_lt h1; omega
      · subst h1; rw [hmk k' h2, hmn] at e; have := hH.blk_lt h2; omega
      · rw [h1, h2]
    · intro k ob hk
      by_cases hlt : k < H.length
      · rw [List.getElem?_append_left hlt] at hk
        by_cases hd : ob.live = true
        · rw [hmk k ⟨_, hk, hd⟩]
          have := (hH.ob k ob hk).mono hEE (hold _ (hH.blk_lt ⟨_, hk, hd⟩))
          exact this
        · cases ob <;> simp_all [ObOK, HO.live]
      · rw [List.getElem?_append_right (by omega)] at hk
        have hk0 := (List.getElem?_eq_some_iff.1 hk).1
        obtain rfl : k = H.length := by simp at hk0; omega
        simp at hk; subst hk
        rw [hmn]
        obtain ⟨c1, el, fr, q1, q2, q3, q4⟩ := hA'.hok.ob o _ ho
        obtain ⟨hl, hg⟩ := toFs_get cu _ hcu
        refine ⟨c1, el, fr, q1, q2, by rw [List.length_map, ← hol, ← hl]; exact q3, fun j u hu => ?_⟩
        rw [List.getElem?_map] at hu
        cases hzj : (res xs)[j]? with
        | none => rw [hzj] at hu; cases hu
        | some z =>
          rw [hzj] at hu; cases hu
          obtain ⟨y, hxj, hyz⟩ := hog j z hzj
          have hj := (List.getElem?_eq_some_iff.1 hxj).1
          have huj : cu[j]? = some cu[j] := List.getElem?_eq_getElem (by omega)
          obtain ⟨v, hv, hr⟩ := q4 j _ huj
          exact ⟨v, hv, .f _ _ (hyz _ _ _ (data _ _ _ hr (hg j _ y huj hxj)))⟩
  have hval : a'.tmps.getD t undef = .pointer (some ⟨m' o, 0, none⟩) := by
    have hr := ev_rep hA' (.tmp t)
    simp only [St.ev, Act.eval] at hr
    rw [htx] at hr
    cases hr with | hp _ _ _ _ _ hvv => exact hvv _ ho
  have hres : (results fn a'.tmps).run P w' = .ok (.pointer (some ⟨m' o, 0, none⟩)) w' := by
    unfold results
    rw [hrs]
    simp [Result.andThen, ← hval]
  refine ⟨.returned _, w', { b.at a' todo with mode := .returning }, ⟨Z2, m2, hEE, hHH, ?_⟩, ?_, rfl, rfl, hd, rfl, fn, hf, hres⟩
  · refine .hp _ _ _ rfl ⟨boxF (res xs), by simp, by simp [boxF]⟩ fun cs' _ => by rw [hmn]
  · rw [henter]; exact hs

/-- Slices as lists. -/
def slF {α : Type} (enc : α → F) (d : α) (l : List α) : F := .sl l.length fun i => enc (l.getD i d)
def isSl (is : F → Bool) : F → Bool
  | .sl n g => (List.range n).all fun i => is (g i)
  | _ => false
def unSl {α : Type} (un : F → α) : F → List α
  | .sl n g => (List.range n).map fun i => un (g i)
  | _ => []
theorem unSl_slF {α : Type} {enc : α → F} {un : F → α} {d : α} (h : ∀ a, un (enc a) = a) (l : List α) : unSl un (slF enc d l) = l := by
  simp only [unSl, slF, h]
  apply List.ext_getElem
  · simp
  · intro i h1 h2
    simp [List.getD, List.getElem?_eq_getElem h2]
theorem isSl_slF {α : Type} {enc : α → F} {is : F → Bool} {d : α} (l : List α) (h : ∀ a ∈ l, is (enc a) = true) : isSl is (slF enc d l) = true := by
  simp only [isSl, slF, List.all_eq_true, List.mem_range]
  intro i hi
  rw [show l.getD i d = l[i] by simp [List.getD, List.getElem?_eq_getElem hi]]
  exact h _ (List.getElem_mem hi)
theorem unSl_len {α : Type} (un : F → α) (n : Nat) (g : Nat → F) : (unSl un (.sl n g)).length = n := by simp [unSl]
theorem slF_eqv {α : Type} {enc : α → F} {un : F → α} {is : F → Bool} {d : α} (h : ∀ x, is x = true → enc (un x) = x) {x : F} (hx : isSl is x = true) : FLe x (slF enc d (unSl un x)) ∧ FLe (slF enc d (unSl un x)) x := by
  cases x with
  | sl n g =>
    simp only [isSl, List.all_eq_true, List.mem_range] at hx
    have e : ∀ j, j < n → enc ((unSl un (.sl n g)).getD j d) = g j := fun j hj => by
      have : (unSl un (.sl n g)).getD j d = un (g j) := by simp [unSl, List.getD, hj]
      rw [this, h _ (hx j hj)]
    have hl := unSl_len un n g
    unfold slF
    rw [hl]
    exact ⟨FLe.sl fun j hj => (e j hj).symm, FLe.sl fun j hj => e j hj⟩
  | _ => simp [isSl] at hx

/-- An element of a slice that is read as a list. -/
theorem sl_at {α : Type} {enc : α → F} {un : F → α} {is : F → Bool} (d : α) (h : ∀ x, is x = true → enc (un x) = x) {n : Nat} {g : Nat → F} (hx : isSl is (.sl n g) = true) {j : Nat} (hj : j < n) : g j = enc ((unSl un (.sl n g)).getD j d) := by
  simp only [isSl, List.all_eq_true, List.mem_range] at hx
  have : (unSl un (.sl n g)).getD j d = un (g j) := by simp [unSl, List.getD, hj]
  rw [this, h _ (hx j hj)]
theorem HLe.nil : HLe [] [] := ⟨rfl, fun o ob ob' h => by simp at h⟩
theorem HLe.cons {a b : HO} {H H' : List HO} (h : ObLe a b) (t : HLe H H') : HLe (a :: H) (b :: H') := by
  refine ⟨by simp [t.1], fun o ob ob' ho ho' => ?_⟩
  cases o with
  | zero => simp at ho ho'; subst ho; subst ho'; exact h
  | succ o => exact t.2 o ob ob' (by simpa using ho) (by simpa using ho')
theorem ObLe.refl (a : HO) : ObLe a a := .inl rfl
theorem ObLe.arr {sz n : Nat} {g g' : Nat → F} (h : ∀ j, j < n → g j = g' j) : ObLe (.arr sz n g) (.arr sz n g') := .inr ⟨sz, n, g, g', rfl, rfl, h⟩

/-- Bytes. -/
def bytesF (s : ByteArray) : F := .sl s.size fun i => .int .u8 (byteAt s i)
def isByte : F → Bool
  | .int .u8 b => decide (0 ≤ b) && decide (b < 256)
  | _ => false
def isBytes (x : F) : Bool := isSl isByte x
def unBytes : F → ByteArray
  | .sl n g => bytesOfF n g
  | _ => ⟨#[]⟩
theorem byteAt_rng (s : ByteArray) (i : Int) : 0 ≤ byteAt s i ∧ byteAt s i < 256 := by
  unfold byteAt
  have := UInt8.toNat_lt (s.data.toList.getD i.toNat 0)
  omega
theorem isBytes_bytesF (s : ByteArray) : isBytes (bytesF s) = true := by
  simp only [isBytes, isSl, bytesF, List.all_eq_true, List.mem_range]
  intro i _
  obtain ⟨h1, h2⟩ := byteAt_rng s i
  simp [isByte, h1, h2]
theorem bytesOfF_data (n : Nat) (g : Nat → F) : (bytesOfF n g).data.toList = (List.range n).map fun i => match g i with | .int .u8 b => UInt8.ofNat b.toNat | _ => 0 := rfl
theorem bytesOfF_size (n : Nat) (g : Nat → F) : (bytesOfF n g).size = n := by
  have := congrArg List.length (bytesOfF_data n g)
  rw [List.length_map, List.length_range] at this
  exact this
theorem unBytes_bytesF (s : ByteArray) : unBytes (bytesF s) = s := by
  have : (bytesOfF s.size fun i => .int .u8 (byteAt s i)).data = s.data := by
    apply Array.toList_inj.1
    rw [bytesOfF_data]
    apply List.ext_getElem
    · rw [List.length_map, List.length_range]; rfl
    · intro i h1 h2
      simp only [List.getElem_map, List.getElem_range, byteAt]
      have : s.data.toList.getD (i : Int).toNat 0 = s.data.toList[i] := by simp [List.getD, List.getElem?_eq_getElem h2]
      rw [this]
      simp
  exact congrArg ByteArray.mk this
theorem bytes_eqv {x : F} (hx : isBytes x = true) : FLe x (bytesF (unBytes x)) ∧ FLe (bytesF (unBytes x)) x := by
  cases x with
  | sl n g =>
    simp only [isBytes, isSl, List.all_eq_true, List.mem_range] at hx
    have e : ∀ j : Nat, j < n → F.int .u8 (byteAt (bytesOfF n g) j) = g j := fun j hj => by
      have h1 := hx j hj
      unfold byteAt
      have hlen : j < ((List.range n).map fun i => match g i with | .int .u8 b => UInt8.ofNat b.toNat | _ => 0).length := by simpa using hj
      rw [bytesOfF_data]
      simp only [Int.toNat_natCast, List.getD, List.getElem?_eq_getElem hlen, List.getElem_map, List.getElem_range, Option.getD_some]
      cases hg : g j with
      | int k b =>
        rw [hg] at h1
        cases k <;> simp [isByte] at h1
        simp only [F.int.injEq, true_and]
        obtain ⟨h2, h3⟩ := h1
        rw [UInt8.toNat_ofNat']
        omega
      | _ => rw [hg] at h1; simp [isByte] at h1
    unfold bytesF unBytes
    rw [bytesOfF_size]
    exact ⟨FLe.sl fun j hj => (e j hj).symm, FLe.sl fun j hj => e j hj⟩
  | _ => simp [isBytes, isSl] at hx
end
end Go.Proofs.Ytjbilidfnfnpfaa.R
