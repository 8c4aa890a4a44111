/-
  Regions that draw, where two operations that turn memory may come up in either order: a walk that forks.
-/
import Derived.Test.YthbahcjkncfpdaaEngR
namespace Go.Wk

inductive Tree where
  | done
  | one (i : Nat) (t : Tree)
  | two (i : Nat) (t : Tree) (j : Nat) (u : Tree)

/-- One after the other. -/
def Tree.seq : List Nat → Tree → Tree
  | [], t => t
  | i :: r, t => .one i (Tree.seq r t)

def wpF (P : Program) (ops : Array Oper) (C : World → Prop) (Q : Act → World → Prop) : Tree → Act → World → Prop
  | .done, a, w => Q a w
  | .one i t, a, w => tOp P ops C i (wpF P ops C Q t) a w
  | .two i t j u, a, w => tOp P ops C i (wpF P ops C Q t) a w ∧ tOp P ops C j (wpF P ops C Q u) a w

def freeOk (ops : Array Oper) (listed : Array Bool) (i : Nat) : Bool := match ops[i]? with
  | none => false
  | some oi => (List.range ops.size).all fun j => Nat.beq j i || listed.getD j true || pairOk ops i oi j

def okF (ops : Array Oper) : Tree → Nat → Array Bool → Bool
  | .done, _, listed => (Region.ready .any ops listed).isEmpty
  | .one _ _, 0, _ => false
  | .one i t, f + 1, listed => (Region.ready .any ops listed).contains i && freeOk ops listed i && okF ops t f (listed.setIfInBounds i true)
  | .two .., 0, _ => false
  | .two i t j u, f + 1, listed => (Region.ready .any ops listed == [i, j]) && okF ops t f (listed.setIfInBounds i true) && okF ops u f (listed.setIfInBounds j true)

def okR (ops : Array Oper) (t : Tree) : Bool := (List.range ops.size).all (fun i => match ops[i]? with | some o => kd o != 3 | none => true) && okF ops t ops.size (Array.replicate ops.size false)

section
variable {P : Program} {ops : Array Oper} {C : World → Prop}
theorem aT_of_F {Q : Act → World → Prop} (hk3 : ∀ (j : Nat) (oj : Oper), ops[j]? = some oj → kd oj ≠ 3) {w0 : World} (hw0 : C w0) : ∀ (t : Tree) (f : Nat) (listed : Array Bool) (a : Act) (w : World),
    okF ops t f listed = true → Closed ops listed → wpF P ops C Q t a w → aT P ops C Q f listed a w
  | .done, f, listed, a, w, h, _, hq => by
    have hr : Region.ready .any ops listed = [] := by simpa [okF] using h
    cases f with
    | zero => exact ⟨hr, hq⟩
    | succ f => exact ⟨fun _ => hq, fun i hi => by rw [hr] at hi; cases hi⟩
  | .one i t, 0, listed, a, w, h, _, _ => by simp [okF] at h
  | .one i t, f + 1, listed, a, w, h, hc, hq => by
    simp only [okF, Bool.and_eq_true, List.contains_iff_mem] at h
    obtain ⟨⟨hr, hf⟩, ht⟩ := h
    unfold freeOk at hf
    split at hf
    · cases hf
    · rename_i oi hi
      refine aT_first hi (hk3 i oi hi) hk3 hw0 f listed a w hc ?_ hr ?_
      · intro j oj hj hne hun
        have h1 := List.all_eq_true.1 hf j (List.mem_range.2 (Array.getElem?_eq_some_iff.1 hj).1)
        simp only [Bool.or_eq_true, hun, Bool.false_eq_true, or_false, pairOk, hj] at h1
        rcases h1 with h1 | h1
        · exact absurd (Nat.eq_of_beq_eq_true h1) hne
        · rcases h1 with h1 | h1
          · exact .inl h1
          · simp only [Bool.and_eq_true, Bool.not_eq_true'] at h1
            refine .inr ⟨h1.1, fun ⟨e1, e2⟩ => ?_⟩
            have h3 := h1.2
            rw [e1, e2] at h3
            simp at h3
      · exact tOp_mono (fun a' w' _ h' => aT_of_F hk3 hw0 t f _ a' w' ht (hc.set hr) h') hq
  | .two i t j u, 0, listed, a, w, h, _, _ => by simp [okF] at h
  | .two i t j u, f + 1, listed, a, w, h, hc, hq => by
    simp only [okF, Bool.and_eq_true, beq_iff_eq] at h
    obtain ⟨⟨hr, ht⟩, hu⟩ := h
    have hi : i ∈ Region.ready .any ops listed := by rw [hr]; simp
    have hj : j ∈ Region.ready .any ops listed := by rw [hr]; simp
    refine ⟨fun h0 => (by rw [h0] at hi; cases hi), fun k hk => ?_⟩
    rw [hr] at hk
    simp only [List.mem_cons, List.not_mem_nil, or_false] at hk
    rcases hk with rfl | rfl
    · exact tOp_mono (fun a' w' _ h' => aT_of_F hk3 hw0 t f _ a' w' ht (hc.set hi) h') hq.1
    · exact tOp_mono (fun a' w' _ h' => aT_of_F hk3 hw0 u f _ a' w' hu (hc.set hj) h') hq.2

theorem wp_region_F {id : Nat} {t : Tree} {Q : Act → World → Prop} {Q' : Exit → Act → World → Prop} {a : Act} {w : World} (hQ : ∀ a w, Q a w → Q' .normal a w) (hm : P.follows .mixedOrders = true) (hB : okR ops t = true) (hC : C w.drew)
    (h : wpF P ops C Q t a w.drew) : (Code.region id ops true).wp P Q' a w := by
  refine wp_region_any hm ?_
  simp only [okR, Bool.and_eq_true] at hB
  have hcl : Closed ops (Array.replicate ops.size false) := by
    intro j oj hj hl
    have hjlt := (Array.getElem?_eq_some_iff.1 hj).1
    simp [hjlt] at hl
  have := aT_of_F (P := P) (Q := Q) (fun j oj hj => by
    have h1 := List.all_eq_true.1 hB.1 j (List.mem_range.2 (Array.getElem?_eq_some_iff.1 hj).1)
    rw [hj] at h1
    simpa using h1) hC t ops.size _ a w.drew hB.2 hcl h
  exact wpAny_of_aT (C := C) hQ _ _ _ _ hcl (.inl hC) (by simpa using this)
end

section
variable {P : Program} {n : Nat} {Q : Exit → Fr → World → Prop} {F : Fr} {w w' : World} {o : Oper} {ops : Array Oper} {C : World → Prop} {i d : Nat} {t : Tree}
def TF (P : Program) (n : Nat) (ops : Array Oper) (C : World → Prop) (Q : Exit → Fr → World → Prop) (t : Tree) (F : Fr) (w : World) : Prop :=
  ∀ a, Rep n F a → wpF P ops C (fun a w => ∃ F, Rep n F a ∧ Q .normal F w) t a w
theorem W_drawF (C : World → Prop) (t : Tree) {id : Nat} {l : List Oper} (hm : P.follows .mixedOrders = true) (hB : okR l.toArray t = true) (hC : C w.drew) (h : TF P n l.toArray C Q t F w.drew) : W P n (.region id l.toArray true) Q F w :=
  fun a ha => wp_region_F (C := C) (Q := fun a w => ∃ F, Rep n F a ∧ Q .normal F w) (fun _ _ h => h) hm hB hC (h a ha)
theorem F_end {K : Fr → World → Prop} (keep : List Nat) {F' : Fr} (hF : prune keep F = F') (h : K F' w) : TF P n ops C (thenF K Q) .done F w := fun _ ha => ⟨F', hF ▸ ha.prune keep, h⟩
theorem F_endN (keep : List Nat) {F' : Fr} (hF : prune keep F = F') (h : Q .normal F' w) : TF P n ops C Q .done F w := fun _ ha => ⟨F', hF ▸ ha.prune keep, h⟩
theorem f_two {i j : Nat} {t u : Tree} (h1 : TF P n ops C Q (.one i t) F w) (h2 : TF P n ops C Q (.one j u) F w) : TF P n ops C Q (.two i t j u) F w := fun a ha => ⟨h1 a ha, h2 a ha⟩
theorem f_pure {v : Value} (hi : ops[i]? = some o) (hk : Nat.ble (kd o) 1 = true) (hw : Wd n F ops o) (hv : ∀ w, Vl P n F o w v w) (hd : o.dst = some d) (hn : Nat.blt d n = true) (h : TF P n ops C Q t ((d, v) :: F) w) : TF P n ops C Q (.one i t) F w := by
  intro a ha
  have hk' : kd o = 0 ∨ kd o = 1 := by have := Nat.le_of_ble_eq_true hk; omega
  rcases hk' with hk | hk
  · simp only [wpF, tOp, hi, hw a ha, if_true, tAt, hk]
    refine ⟨v, fun w' => hv w' a ha, ?_⟩
    rw [hd]
    exact h _ (ha.put hn v)
  · simp only [wpF, tOp, hi, hw a ha, if_true, tAt, hk]
    refine ⟨v, fun w' _ => hv w' a ha, ?_⟩
    rw [hd]
    exact h _ (ha.put hn v)
theorem f_read {v : Value} (hi : ops[i]? = some o) (hk : kd o = 1) (hw : Wd n F ops o) (hv : ∀ w, C w → Vl P n F o w v w) (hd : o.dst = some d) (hn : Nat.blt d n = true) (h : TF P n ops C Q t ((d, v) :: F) w) : TF P n ops C Q (.one i t) F w := by
  intro a ha
  simp only [wpF, tOp, hi, hw a ha, if_true, tAt, hk]
  refine ⟨v, fun w' hw' => hv w' hw' a ha, ?_⟩
  rw [hd]
  exact h _ (ha.put hn v)
theorem f_st (hi : ops[i]? = some o) (hk : kd o = 2) (hw : Wd n F ops o) (h : St P n F o w (fun F' w' => (C w' ∨ fin ops i = true) ∧ TF P n ops C Q t F' w')) : TF P n ops C Q (.one i t) F w := by
  intro a ha
  simp only [wpF, tOp, hi, hw a ha, if_true, tAt, hk]
  refine Oper.wp_mono ?_ (wp_shape (h a ha) fun a' w' ⟨F', _, hd, _⟩ => hd)
  rintro a' w' ⟨hs, F', hr, _, hc, hT⟩
  exact ⟨hc, hs, hT _ hr⟩
theorem f_no {j s : Nat} {b b' : Bool} (hi : ops[i]? = some o) (hg : o.guard = some (j, b)) (hd : o.dst = some d) (hn : Nat.blt d n = true) (ht : (ops[j]?).bind (·.dst) = some s) (hv : get F s = some (.bool b')) (hne : b' = !b)
    (h : TF P n ops C Q t ((d, undef) :: F) w) : TF P n ops C Q (.one i t) F w := by
  intro a ha
  have hw : Region.wanted o (yielded ops a.tmps) = false := by
    subst hne
    simp [Region.wanted, hg, yielded, ht, ha.get s _ hv]
  simp only [wpF, tOp, hi, hw, Bool.false_eq_true, if_false]
  rw [hd]
  exact h _ (ha.put hn undef)
end
end Go.Wk
