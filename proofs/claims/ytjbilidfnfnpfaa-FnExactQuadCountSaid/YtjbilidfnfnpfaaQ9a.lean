/-
  What is read of a tree is its blocks, in order: a plain law with no program in sight.
-/
import Derived.Test.YtjbilidfnfnpfaaQ8
namespace Go.Proofs.Ytjbilidfnfnpfaa.R
open Go
noncomputable section
set_option linter.unusedVariables false
set_option linter.unusedSimpArgs false
def keyB (b : Bk) : Bool × Int := (b.split, b.size)
def flat : Tr → List (Bool × Int)
  | .leaf _ _ s _ => [(false, s)]
  | .node _ _ s a b c d => (true, s) :: (flat a ++ (flat b ++ (flat c ++ flat d)))
def SizedT : Nat → Tr → Prop
  | m, .leaf _ _ s _ => s = ((2 ^ m : Nat) : Int)
  | 0, .node _ _ _ _ _ _ _ => False
  | m + 1, .node _ _ s a b c d => s = ((2 ^ (m + 1) : Nat) : Int) ∧ SizedT m a ∧ SizedT m b ∧ SizedT m c ∧ SizedT m d
def seg (l : List Bk) (a p : Int) : List (Bool × Int) := ((l.drop a.toNat).take (p.toNat - a.toNat)).map keyB
theorem seg_none (l : List Bk) (a : Int) : seg l a a = [] := by simp [seg]
theorem seg_append (l : List Bk) {a b c : Int} (h0 : 0 ≤ a) (h1 : a ≤ b) (h2 : b ≤ c) : seg l a c = seg l a b ++ seg l b c := by
  unfold seg
  rw [← List.map_append]
  congr 1
  have e1 : c.toNat - a.toNat = (b.toNat - a.toNat) + (c.toNat - b.toNat) := by omega
  have e2 : l.drop b.toNat = (l.drop a.toNat).drop (b.toNat - a.toNat) := by rw [List.drop_drop]; congr 1; omega
  rw [e1, e2, List.take_add]
theorem seg_one (l : List Bk) {a : Int} (h0 : 0 ≤ a) (h1 : a < l.length) : seg l a (a + 1) = [keyB (l.getD a.toNat .zero)] := by
  unfold seg
  have hi : a.toNat < l.length := by omega
  have e1 : (a + 1).toNat - a.toNat = 1 := by omega
  have e2 : l.getD a.toNat Bk.zero = l[a.toNat] := by simp [List.getD, List.getElem?_eq_getElem hi]
  rw [e1, List.drop_eq_getElem_cons hi, e2]
  rfl
def Good3 (l : List Bk) (m : Nat) (a : Int) (r : Tr × Int × Bool) : Prop := a ≤ r.2.1 ∧ r.2.1 ≤ l.length ∧ seg l a r.2.1 = flat r.1 ∧ SizedT m r.1
theorem rdKids_flat {f : Int → Int → Tr × Int × Bool} {l : List Bk} {m : Nat} (hf : ∀ a k, 0 ≤ a → (f a k).2.2 = true → Good3 l m a (f a k)) : ∀ (ks : List Int) (a : Int) (ts : List Tr) (p : Int), 0 ≤ a → a ≤ l.length → rdKids f ks a = some (ts, p) → a ≤ p ∧ p ≤ l.length ∧ seg l a p = (ts.map flat).flatten ∧ ∀ t ∈ ts, SizedT m t
  | [], a, ts, p, ha, hl, h => by
    simp only [rdKids, Option.some.injEq, Prod.mk.injEq] at h
    obtain ⟨rfl, rfl⟩ := h
    exact ⟨Int.le_refl _, hl, by rw [seg_none]; rfl, by simp⟩
  | k :: ks, a, ts, p, ha, hl, h => by
    rw [rdKids] at h
    cases hc : (f a k).2.2 with
    | false => rw [hc] at h; cases h
    | true =>
      rw [hc, cond_true] at h
      obtain ⟨h1, h2, h3, h4⟩ := hf a k ha hc
      cases hr : rdKids f ks (f a k).2.1 with
      | none => rw [hr] at h; cases h
      | some r =>
        obtain ⟨ts', p'⟩ := r
        rw [hr] at h
        simp only [Option.some.injEq, Prod.mk.injEq] at h
        obtain ⟨rfl, rfl⟩ := h
        obtain ⟨i1, i2, i3, i4⟩ := rdKids_flat hf ks _ _ _ (by omega) h2 hr
        refine ⟨by omega, i2, ?_, ?_⟩
        · rw [seg_append l ha h1 i1, h3, i3]; rfl
        · intro t ht
          rcases List.mem_cons.1 ht with rfl | ht
          · exact h4
          · exact i4 t ht
theorem pow_half (m : Nat) (h : m ≤ 20) : halfV ((2 ^ (m + 1) : Nat) : Int) = ((2 ^ m : Nat) : Int) := by
  have h1 : 2 ^ m ≤ 2 ^ 20 := Nat.pow_le_pow_right (by omega) h
  have e : 2 ^ (m + 1) = 2 * 2 ^ m := by rw [Nat.pow_succ, Nat.mul_comm]
  rw [e]
  generalize 2 ^ m = p at h1 ⊢
  obtain ⟨e1, _, _⟩ := half_rng (s := ((2 * p : Nat) : Int)) (by omega)
  rw [e1, Int.tdiv_eq_ediv_of_nonneg (by omega)]
  omega
theorem read_flat : ∀ (D : Nat) (l : List Bk) (a x y deep : Int) (m : Nat), 0 ≤ a → deep ≤ m → m ≤ 21 → (readV D l a x y ((2 ^ m : Nat) : Int) deep).2.2 = true → Good3 l m a (readV D l a x y ((2 ^ m : Nat) : Int) deep)
  | 0, l, a, x, y, deep, m, ha, hd, hm, h => by cases h
  | D + 1, l, a, x, y, deep, m, ha, hd, hm, h => by
    have ih := read_flat D l
    rw [readV] at h ⊢
    cases hc1 : decide (a ≥ (l.length : Int)) with
    | true => rw [hc1] at h; cases h
    | false =>
      have hlt := of_decide_eq_false hc1
      have hone := seg_one l ha (by omega)
      rw [hc1] at h
      generalize l.getD a.toNat .zero = b at h hone ⊢
      simp only [cond_false] at h ⊢
      cases hc : (b.x != x || b.y != y || b.size != ((2 ^ m : Nat) : Int) || (b.split && (decide (deep < 1) || decide ((b.ids.length : Int) > 0)))) with
      | true => rw [hc] at h; cases h
      | false =>
        rw [hc] at h
        simp only [cond_false] at h ⊢
        simp only [Bool.or_eq_false_iff, bne_eq_false_iff_eq] at hc
        obtain ⟨⟨⟨_, _⟩, hsz⟩, hsp⟩ := hc
        cases hs : b.split with
        | false =>
          simp only [Bool.not_false, cond_true]
          refine ⟨by simp only []; omega, by simp only []; omega, ?_, by cases m <;> rfl⟩
          simp only [hone, flat, keyB, hs, hsz]
        | true =>
          rw [hs] at hsp h
          simp only [Bool.true_and, Bool.or_eq_false_iff, decide_eq_false_iff_not] at hsp
          simp only [Bool.not_true, cond_false] at h ⊢
          match m, hm, hd with
          | 0, hm, hd => exfalso; omega
          | m + 1, hm, hd =>
            rw [pow_half m (by omega)] at h ⊢
            cases hr : rdKids (fun a k => readV D l a (IntKind.i64.wrap (x + IntKind.i64.wrap ((k.tmod 2) * ((2 ^ m : Nat) : Int)))) (IntKind.i64.wrap (y + IntKind.i64.wrap (IntKind.i64.wrap (k.tdiv 2) * ((2 ^ m : Nat) : Int)))) ((2 ^ m : Nat) : Int) (deep - 1)) [0, 1, 2, 3] (a + 1) with
            | none => rw [hr] at h; cases h
            | some r =>
              obtain ⟨ts, p⟩ := r
              have hlen := kids_len4 _ _ _ _ hr
              obtain ⟨i1, i2, i3, i4⟩ := rdKids_flat (l := l) (m := m) (fun a k ha hk => ih a _ _ _ m ha (by omega) (by omega) hk) _ _ _ _ (by omega) (by omega) hr
              match ts, hlen with
              | [t0, t1, t2, t3], _ =>
                refine ⟨by simp only []; omega, i2, ?_, rfl, i4 t0 (by simp), i4 t1 (by simp), i4 t2 (by simp), i4 t3 (by simp)⟩
                simp only [flat]
                rw [seg_append l ha (show a ≤ a + 1 by omega) i1, hone, i3]
                simp [keyB, hs, hsz]
def leavesN (l : List (Bool × Int)) : Nat := l.countP fun x => !x.1
def splitsN (l : List (Bool × Int)) : Nat := l.countP fun x => x.1
def bdN (s : Int) : Nat := 21 - Nat.log2 s.toNat
def deepN : List (Bool × Int) → Nat
  | [] => 0
  | x :: l => max (bdN x.2) (deepN l)
theorem deep_append : ∀ (l l' : List (Bool × Int)), deepN (l ++ l') = max (deepN l) (deepN l')
  | [], l' => by simp [deepN]
  | x :: l, l' => by simp only [List.cons_append, deepN, deep_append l l', Nat.max_assoc]
theorem flat_leaves : ∀ t : Tr, leavesN (flat t) = lvs t
  | .leaf _ _ _ _ => rfl
  | .node _ _ _ a b c d => by
    have ha := flat_leaves a
    have hb := flat_leaves b
    have hc := flat_leaves c
    have hd := flat_leaves d
    simp only [leavesN, flat, lvs, List.countP_cons, List.countP_append] at *
    simp
    omega
theorem flat_splits : ∀ t : Tr, lvs t = 1 + 3 * splitsN (flat t)
  | .leaf _ _ _ _ => rfl
  | .node _ _ _ a b c d => by
    have ha := flat_splits a
    have hb := flat_splits b
    have hc := flat_splits c
    have hd := flat_splits d
    simp only [splitsN, flat, lvs, List.countP_cons, List.countP_append] at *
    simp
    omega
theorem leaves_splits : ∀ l : List (Bool × Int), leavesN l + splitsN l = l.length
  | [] => rfl
  | x :: l => by
    have := leaves_splits l
    simp only [leavesN, splitsN, List.countP_cons, List.length_cons] at *
    cases x.1 <;> simp <;> omega
theorem bd_pow {m : Nat} : bdN ((2 ^ m : Nat) : Int) = 21 - m := by
  unfold bdN
  rw [Int.toNat_natCast, Nat.log2_two_pow]
theorem flat_deep : ∀ (t : Tr) (m : Nat), SizedT m t → m ≤ 21 → deepN (flat t) = (21 - m) + trDepth t
  | .leaf _ _ s _, m, h, hm => by
    have h : s = ((2 ^ m : Nat) : Int) := by cases m <;> exact h
    subst h
    simp only [flat, deepN, trDepth, bd_pow]
    simp
  | .node _ _ s a b c d, 0, h, hm => h.elim
  | .node _ _ s a b c d, m + 1, h, hm => by
    obtain ⟨rfl, h1, h2, h3, h4⟩ := h
    have ha := flat_deep a m h1 (by omega)
    have hb := flat_deep b m h2 (by omega)
    have hc := flat_deep c m h3 (by omega)
    have hd := flat_deep d m h4 (by omega)
    simp only [flat, deepN, deep_append, ha, hb, hc, hd, trDepth, bd_pow]
    have e : 21 - m = 21 - (m + 1) + 1 := by omega
    rw [e]
    omega
theorem flat_sizes : ∀ (t : Tr) (m : Nat), SizedT m t → ∀ x ∈ flat t, ∃ k, k ≤ m ∧ x.2 = ((2 ^ k : Nat) : Int)
  | .leaf _ _ s _, m, h, x, hx => by
    have h : s = ((2 ^ m : Nat) : Int) := by cases m <;> exact h
    simp only [flat, List.mem_singleton] at hx
    subst hx
    exact ⟨m, Nat.le_refl _, h⟩
  | .node _ _ s a b c d, 0, h, x, hx => h.elim
  | .node _ _ s a b c d, m + 1, h, x, hx => by
    obtain ⟨rfl, h1, h2, h3, h4⟩ := h
    simp only [flat, List.mem_cons, List.mem_append] at hx
    rcases hx with rfl | hx | hx | hx | hx
    · exact ⟨m + 1, Nat.le_refl _, rfl⟩
    · obtain ⟨k, hk, e⟩ := flat_sizes a m h1 x hx; exact ⟨k, by omega, e⟩
    · obtain ⟨k, hk, e⟩ := flat_sizes b m h2 x hx; exact ⟨k, by omega, e⟩
    · obtain ⟨k, hk, e⟩ := flat_sizes c m h3 x hx; exact ⟨k, by omega, e⟩
    · obtain ⟨k, hk, e⟩ := flat_sizes d m h4 x hx; exact ⟨k, by omega, e⟩
/-- A right tree's blocks. -/
theorem tree_flat {q : Qd} (h : (treeV q).2 = true) : q.blocks.map keyB = flat (treeV q).1 ∧ SizedT 21 (treeV q).1 ∧ (trDepth (treeV q).1 : Int) ≤ q.deep ∧ q.deep ≤ 8 ∧ q.blocks.length ≤ 2000 := by
  unfold treeV at h ⊢
  cases hc : (limitsV q.most q.deep && !decide ((q.items.length : Int) > 40) && !decide ((q.blocks.length : Int) > 2000) && itsOk q.items none && (readV 9 q.blocks 0 (-1048576) (-1048576) 2097152 q.deep).2.2 &&
    (readV 9 q.blocks 0 (-1048576) (-1048576) 2097152 q.deep).2.1 == (q.blocks.length : Int) && rightV q.items (readV 9 q.blocks 0 (-1048576) (-1048576) 2097152 q.deep).1) with
  | false => rw [hc] at h; cases h
  | true =>
    simp only [cond_true]
    simp only [Bool.and_eq_true, beq_iff_eq] at hc
    obtain ⟨⟨⟨⟨⟨⟨h1, h2⟩, h3⟩, h4⟩, h5⟩, h6⟩, h7⟩ := hc
    have hd : 0 ≤ q.deep ∧ q.deep ≤ 8 := by
      simp only [limitsV, inV, Bool.and_eq_true, decide_eq_true_eq] at h1
      exact h1.2
    have h3' : q.blocks.length ≤ 2000 := by
      rw [Bool.not_eq_true', decide_eq_false_iff_not] at h3
      omega
    have hdp := read_depth 9 q.blocks 0 (-1048576) (-1048576) 2097152 q.deep hd.1 h5
    have e21 : (2097152 : Int) = ((2 ^ 21 : Nat) : Int) := by decide
    have hg := read_flat 9 q.blocks 0 (-1048576) (-1048576) q.deep 21 (by omega) (by omega) (by omega) (by rw [← e21]; exact h5)
    rw [← e21] at hg
    obtain ⟨_, _, g3, g4⟩ := hg
    rw [h6] at g3
    refine ⟨?_, g4, hdp, hd.2, h3'⟩
    rw [← g3]
    unfold seg
    simp
end
end Go.Proofs.Ytjbilidfnfnpfaa.R
