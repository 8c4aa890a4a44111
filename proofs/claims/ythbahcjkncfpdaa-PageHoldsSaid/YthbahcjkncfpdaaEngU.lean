/-
  Regions that draw, told of frames.
-/
import Derived.Test.YthbahcjkncfpdaaEngT
namespace Go.Wk

/-- The operation is carried out, in whatever frame of that make. -/
def Wd (n : Nat) (F : Fr) (ops : Array Oper) (o : Oper) : Prop := ∀ a, Rep n F a → Region.wanted o (yielded ops a.tmps) = true

section
variable {P : Program} {n : Nat} {Q : Exit → Fr → World → Prop} {F : Fr} {w w' : World} {o : Oper} {ops : Array Oper} {rest : List Oper} {C : World → Prop} {k d : Nat}

theorem gn (hg : o.guard = none) : Wd n F ops o := fun _ _ => by simp [Region.wanted, hg]
theorem gy {j t : Nat} {b : Bool} (hg : o.guard = some (j, b)) (ht : (ops[j]?).bind (·.dst) = some t) (hv : get F t = some (.bool b)) : Wd n F ops o := fun a ha => by
  simp [Region.wanted, hg, yielded, ht, ha.get t _ hv]

theorem O_go (hw : Wd n F ops o) (h : St P n F o w (fun F' w' => O P n ops Q rest F' w')) : O P n ops Q (o :: rest) F w := by
  intro a ha
  refine wpList_step fun K' hK => ?_
  rw [if_pos (hw a ha)]
  have h1 := h a ha
  unfold Oper.wp at *
  generalize (execOp a.eval o).run P w = r at *
  cases r with
  | ok x w1 =>
    cases x <;> simp only [Oper.upon] at h1 ⊢
    case enter f args =>
      refine Calls.mono h1 ?_
      intro e w2 he
      cases e with
      | returned v => obtain ⟨F', hr, _, hO⟩ := he; exact hK _ _ (hO _ hr)
      | panicked c => exact he.elim
      | outgrown => obtain ⟨_, _, hx⟩ := he; exact hx.elim
    case row row args =>
      refine Rows.mono h1 ?_
      rintro v w2 ⟨F', hr, _, hO⟩
      exact hK _ _ (hO _ hr)
    all_goals first
      | (obtain ⟨F', hr, _, hO⟩ := h1; exact hK _ _ (hO _ hr))
      | exact h1.elim
  | halt x w1 =>
    cases x <;> simp only [Oper.upon] at h1

/-- The walk of a region that draws. -/
def T (P : Program) (n : Nat) (ops : Array Oper) (C : World → Prop) (Q : Exit → Fr → World → Prop) (k : Nat) (l : List Oper) (F : Fr) (w : World) : Prop :=
  ∀ a, Rep n F a → wpT P ops C (fun a w => ∃ F, Rep n F a ∧ Q .normal F w) k l a w

theorem W_draw (C : World → Prop) {id : Nat} {l : List Oper} (hm : P.follows .mixedOrders = true) (hB : tOk l.toArray = true) (hC : C w.drew) (h : T P n l.toArray C Q 0 l F w.drew) : W P n (.region id l.toArray true) Q F w :=
  fun a ha => wp_region_T (C := C) (Q := fun a w => ∃ F, Rep n F a ∧ Q .normal F w) (fun _ _ h => h) hm hB hC (by simpa using h a ha)

theorem T_nil (h : Q .normal F w) : T P n ops C Q k [] F w := fun _ ha => ⟨F, ha, h⟩
theorem T_nil_prune (keep : List Nat) {F' : Fr} (hF : prune keep F = F') (h : Q .normal F' w) : T P n ops C Q k [] F w := fun _ ha => ⟨F', hF ▸ ha.prune keep, h⟩

theorem t_pure {v : Value} (hk : Nat.ble (kd o) 1 = true) (hw : Wd n F ops o) (hv : ∀ w, Vl P n F o w v w) (hd : o.dst = some d) (hn : Nat.blt d n = true) (h : T P n ops C Q (k + 1) rest ((d, v) :: F) w) : T P n ops C Q k (o :: rest) F w := by
  intro a ha
  have hk' : kd o = 0 ∨ kd o = 1 := by have := Nat.le_of_ble_eq_true hk; omega
  rcases hk' with hk | hk
  · simp only [wpT, hw a ha, if_true, tAt, hk]
    refine ⟨v, fun w' => hv w' a ha, ?_⟩
    rw [hd]
    exact h _ (ha.put hn v)
  · simp only [wpT, hw a ha, if_true, tAt, hk]
    refine ⟨v, fun w' _ => hv w' a ha, ?_⟩
    rw [hd]
    exact h _ (ha.put hn v)
theorem t_read {v : Value} (hk : kd o = 1) (hw : Wd n F ops o) (hv : ∀ w, C w → Vl P n F o w v w) (hd : o.dst = some d) (hn : Nat.blt d n = true) (h : T P n ops C Q (k + 1) rest ((d, v) :: F) w) : T P n ops C Q k (o :: rest) F w := by
  intro a ha
  simp only [wpT, hw a ha, if_true, tAt, hk]
  refine ⟨v, fun w' hw' => hv w' hw' a ha, ?_⟩
  rw [hd]
  exact h _ (ha.put hn v)

theorem wp_shape {a : Act} {K : Act → World → Prop} (h : o.wp P a w K No) (hK : ∀ a' w', K a' w' → a'.defers = a.defers) : o.wp P a w (fun a' w' => (∃ u, a' = a.put o.dst u) ∧ K a' w') No := by
  unfold Oper.wp at *
  generalize (execOp a.eval o).run P w = r at *
  cases r with
  | ok x w1 =>
    cases x <;> simp only [Oper.upon] at h ⊢
    case value v => exact ⟨⟨_, rfl⟩, h⟩
    case skip => exact ⟨⟨_, rfl⟩, h⟩
    case defer dd =>
      have := hK _ _ h
      simp [defers_put] at this
    case enter f args =>
      refine Calls.mono h ?_
      intro e w2 he
      cases e with
      | returned v => exact ⟨⟨_, rfl⟩, he⟩
      | panicked c => exact he
      | outgrown => obtain ⟨_, _, hx⟩ := he; exact hx.elim
    case row row args => exact Rows.mono h fun v w2 hv => ⟨⟨_, rfl⟩, hv⟩
    all_goals exact h
  | halt x w1 => cases x <;> simp only [Oper.upon] at h ⊢ <;> exact h

theorem t_st (hk : kd o = 2) (hw : Wd n F ops o) (h : St P n F o w (fun F' w' => (C w' ∨ fin ops k = true) ∧ T P n ops C Q (k + 1) rest F' w')) : T P n ops C Q k (o :: rest) F w := by
  intro a ha
  simp only [wpT, hw a ha, if_true, tAt, hk]
  refine Oper.wp_mono ?_ (wp_shape (h a ha) fun a' w' ⟨F', _, hd, _⟩ => hd)
  rintro a' w' ⟨hs, F', hr, _, hc, hT⟩
  exact ⟨hc, hs, hT _ hr⟩

theorem t_no {j t : Nat} {b b' : Bool} (hg : o.guard = some (j, b)) (hd : o.dst = some d) (hn : Nat.blt d n = true) (ht : (ops[j]?).bind (·.dst) = some t) (hv : get F t = some (.bool b')) (hne : b' = !b)
    (h : T P n ops C Q (k + 1) rest ((d, undef) :: F) w) : T P n ops C Q k (o :: rest) F w := by
  intro a ha
  have hw : Region.wanted o (yielded ops a.tmps) = false := by
    subst hne
    simp [Region.wanted, hg, yielded, ht, ha.get t _ hv]
  simp only [wpT, hw, Bool.false_eq_true, if_false]
  rw [hd]
  exact h _ (ha.put hn undef)
end
end Go.Wk
