/-
  Regions that draw their order: one walk in the text's order serves every order, if what looks at memory finds the same in every world of a class, and what turns memory stands in one chain.
-/
import Derived.Test.YthbahcjkncfpdaaEngC
namespace Go.Wk

/-- 0: looks at no memory. 1: reads. 2: all else. 3: not served. -/
def kd (o : Oper) : Nat :=
  match o.op with
  | .move _ | .assign _ | .pick .. | .build .. | .binOp .. | .unOp .. | .convert .. | .makeInterface .. | .makeFunc .. | .slice .. | .fieldAddr .. | .field .. | .indexAddr .. | .index .. | .extract .. | .nilCheck _ => 0
  | .call { callee := .builtin .cap, .. } | .call { callee := .builtin .max, .. } | .call { callee := .builtin .min, .. } => 0
  | .load .. | .lookup .. | .call { callee := .builtin .len, .. } => 1
  | .defer _ | .select .. | .go _ => 3
  | _ => 2

def reach (ops : Array Oper) : Nat → Nat → Nat → Bool
  | 0, _, _ => false
  | f + 1, j, i => match ops[j]? with
    | none => false
    | some oj => oj.after.any (fun e => Region.binds .any e && e.on == i) || oj.after.any (fun e => Region.binds .any e && reach ops f e.on i)

def fin (ops : Array Oper) (i : Nat) : Bool := (List.range ops.size).all fun j => match ops[j]? with | some oj => kd oj != 1 || reach ops ops.size i j | none => true

def pairOk (ops : Array Oper) (i : Nat) (oi : Oper) (j : Nat) : Bool :=
  match ops[j]? with
  | none => true
  | some oj => reach ops ops.size j i || (oi.apart ops oj && !(kd oi == 2 && kd oj == 2))

def tOk (ops : Array Oper) : Bool := (List.range ops.size).all fun i => match ops[i]? with
  | none => true
  | some oi => kd oi != 3 && oi.after.all (fun e => !Region.binds .any e || Nat.blt e.on i) && (List.range ops.size).all fun j => Nat.ble j i || pairOk ops i oi j

def Closed (ops : Array Oper) (listed : Array Bool) : Prop := ∀ j oj, ops[j]? = some oj → listed.getD j false = true → ∀ e ∈ oj.after, Region.binds .any e = true → listed.getD e.on false = true

section
variable {ops : Array Oper}

theorem reach_listed {listed : Array Bool} (hc : Closed ops listed) : ∀ (f j i : Nat) (oj : Oper), ops[j]? = some oj → (∀ e ∈ oj.after, Region.binds .any e = true → listed.getD e.on false = true) → reach ops f j i = true → listed.getD i false = true
  | 0, _, _, _, _, _, h => by simp [reach] at h
  | f + 1, j, i, oj, hj, hall, h => by
    simp only [reach, hj, Bool.or_eq_true] at h
    rcases h with h | h
    · obtain ⟨e, he, hb⟩ := Array.any_eq_true'.1 h
      simp only [Bool.and_eq_true, beq_iff_eq] at hb
      rw [← hb.2]
      exact hall e he hb.1
    · obtain ⟨e, he, hb⟩ := Array.any_eq_true'.1 h
      simp only [Bool.and_eq_true] at hb
      have hl := hall e he hb.1
      cases ho : ops[e.on]? with
      | none => cases f <;> simp [reach, ho] at hb
      | some oe => exact reach_listed hc f e.on i oe ho (hc e.on oe ho hl) hb.2

theorem Closed.set {listed : Array Bool} (hc : Closed ops listed) {i : Nat} (hi : i ∈ Region.ready .any ops listed) : Closed ops (listed.setIfInBounds i true) := by
  obtain ⟨_, oi, hoi, hall⟩ := mem_ready.1 hi
  intro j oj hj hl e he hb
  by_cases hij : i = j
  · subst hij
    have : oj = oi := Option.some.inj (hj.symm.trans hoi)
    subst this
    exact getD_set_true (hall e he hb)
  · rw [getD_set_ne false hij] at hl
    exact getD_set_true (hc j oj hj hl e he hb)

theorem not_reach {listed : Array Bool} (hc : Closed ops listed) {i j : Nat} (hi : i ∈ Region.ready .any ops listed) (hj : j ∈ Region.ready .any ops listed) (f : Nat) : reach ops f j i = false := by
  obtain ⟨_, oj, hoj, hall⟩ := mem_ready.1 hj
  cases h : reach ops f j i with
  | false => rfl
  | true =>
    have h1 := reach_listed hc f j i oj hoj hall h
    have h0 := (mem_ready.1 hi).1
    rcases Nat.lt_or_ge i listed.size with h' | h'
    · simp [h'] at h0 h1; rw [h0] at h1; cases h1
    · simp [Array.getElem?_eq_none h'] at h1
end

section
variable {P : Program} {ops : Array Oper} {C : World → Prop}

def No (_ : Exit) (_ : Act) (_ : World) : Prop := False

/-- In world w' operation o, at the frame a, yields v and leaves that world. -/
def Yv (P : Program) (o : Oper) (a : Act) (w : World) (v : Value) : Prop := (execOp a.eval o).run P w = .ok (.value v) w

/-- Operation i comes up; B: may the class be left behind it? -/
def tAt (P : Program) (C : World → Prop) (o : Oper) (B : Bool) (K : Act → World → Prop) (a : Act) (w : World) : Prop :=
  match kd o with
  | 0 => ∃ v, (∀ w', Yv P o a w' v) ∧ K (a.put o.dst v) w
  | 1 => ∃ v, (∀ w', C w' → Yv P o a w' v) ∧ K (a.put o.dst v) w
  | 2 => o.wp P a w (fun a' w' => (C w' ∨ B = true) ∧ (∃ u, a' = a.put o.dst u) ∧ K a' w') No
  | _ => False

def tOp (P : Program) (ops : Array Oper) (C : World → Prop) (i : Nat) (K : Act → World → Prop) (a : Act) (w : World) : Prop :=
  match ops[i]? with
  | none => K a w
  | some o => if Region.wanted o (yielded ops a.tmps) then tAt P C o (fin ops i) K a w else K (a.put o.dst undef) w

theorem tAt_mono {o : Oper} {B : Bool} {K K' : Act → World → Prop} {a : Act} {w : World} (h : ∀ a' w', (w' = w ∨ C w' ∨ B = true) → K a' w' → K' a' w') (hh : tAt P C o B K a w) : tAt P C o B K' a w := by
  unfold tAt at *
  split at hh
  · obtain ⟨v, h1, h2⟩ := hh; exact ⟨v, h1, h _ _ (.inl rfl) h2⟩
  · obtain ⟨v, h1, h2⟩ := hh; exact ⟨v, h1, h _ _ (.inl rfl) h2⟩
  · exact Oper.wp_mono (fun a' w' ⟨h1, h2, h3⟩ => ⟨h1, h2, h _ _ (.inr h1) h3⟩) hh
  · exact hh

theorem tOp_mono {i : Nat} {K K' : Act → World → Prop} {a : Act} {w : World} (h : ∀ a' w', (w' = w ∨ C w' ∨ fin ops i = true) → K a' w' → K' a' w') (hh : tOp P ops C i K a w) : tOp P ops C i K' a w := by
  unfold tOp at *
  split
  · simp only [*] at hh; exact h _ _ (.inl rfl) hh
  · rename_i o ho
    simp only [ho] at hh
    split
    · rename_i hw; simp only [hw, if_true] at hh; exact tAt_mono h hh
    · rename_i hw; simp only [hw] at hh; exact h _ _ (.inl rfl) hh

theorem wp_out {o : Oper} {K : Act → World → Prop} {a : Act} {w : World} (h : o.wp P a w K No) : ∃ a' w', K a' w' := by
  unfold Oper.wp at h
  generalize (execOp a.eval o).run P w = r at h
  cases r with
  | ok x w1 =>
    cases x <;> simp only [Oper.upon] at h
    case enter f args =>
      obtain ⟨e, w', fr, hR, _⟩ := h []
      cases e with
      | returned v => exact ⟨_, _, hR⟩
      | panicked c => exact hR.elim
      | outgrown => obtain ⟨_, _, hx⟩ := hR; exact hx.elim
    case row row args =>
      obtain ⟨v, w', hR, _⟩ := h default []
      exact ⟨_, _, hR⟩
    all_goals first
      | exact ⟨_, _, h⟩
      | exact h.elim
  | halt x w1 =>
    cases x <;> simp only [Oper.upon] at h
    all_goals exact h.elim

theorem tAt_out {o : Oper} {B : Bool} {K : Act → World → Prop} {a : Act} {w : World} (h : tAt P C o B K a w) : ∃ a' w', K a' w' := by
  unfold tAt at h
  split at h
  · obtain ⟨v, _, h2⟩ := h; exact ⟨_, _, h2⟩
  · obtain ⟨v, _, h2⟩ := h; exact ⟨_, _, h2⟩
  · obtain ⟨_, _, h1⟩ := wp_out h; exact ⟨_, _, h1.2.2⟩
  · exact h.elim

theorem tOp_out {i : Nat} {K : Act → World → Prop} {a : Act} {w : World} (h : tOp P ops C i K a w) : ∃ a' w', K a' w' := by
  unfold tOp at h
  split at h
  · exact ⟨_, _, h⟩
  · split at h
    · exact tAt_out h
    · exact ⟨_, _, h⟩

/-- What an operation yields when a slot that it does not look at holds something else. -/
theorem Yv.put {o : Oper} {a : Act} {w : World} {v : Value} (h : Yv P o a w v) (hs : ∀ cs b, o.op ≠ .select cs b) (x : Option Tmp) (u : Value) (hx : ∀ d, x = some d → d ∉ o.looksAt ops) : Yv P o (a.put x u) w v := by
  unfold Yv at *
  rw [execOp_put o hs a x u hx]
  exact h
theorem Yv.unput {o : Oper} {a : Act} {w : World} {v : Value} {x : Option Tmp} {u : Value} (h : Yv P o (a.put x u) w v) (hs : ∀ cs b, o.op ≠ .select cs b) (hx : ∀ d, x = some d → d ∉ o.looksAt ops) : Yv P o a w v := by
  unfold Yv at *
  rw [execOp_put o hs a x u hx] at h
  exact h

theorem defers_put (a : Act) (x : Option Tmp) (u : Value) : (a.put x u).defers = a.defers := by cases x <;> rfl

theorem wp_put {o : Oper} {a : Act} {w : World} {K : Act → World → Prop} {x : Option Tmp} {u : Value} (hs : ∀ cs b, o.op ≠ .select cs b) (hx : ∀ d, x = some d → d ∉ o.looksAt ops) (hne : ∀ d, x = some d → o.dst ≠ some d)
    (h : o.wp P a w (fun a' w' => (∃ y, a' = a.put o.dst y) ∧ K a' w') No) : o.wp P (a.put x u) w (fun a' w' => ∃ a0, a' = a0.put x u ∧ (∃ y, a0 = a.put o.dst y) ∧ K a0 w') No := by
  unfold Oper.wp at *
  rw [execOp_put o hs a x u hx]
  have hc : ∀ y, (a.put x u).put o.dst y = (a.put o.dst y).put x u := fun y => Act.put_comm a u y hne
  generalize (execOp a.eval o).run P w = r at *
  cases r with
  | ok n w1 =>
    cases n <;> simp only [Oper.upon] at h ⊢
    case value v => exact ⟨_, hc v, h.1, h.2⟩
    case skip => exact ⟨_, hc undef, h.1, h.2⟩
    case defer dd =>
      obtain ⟨⟨y, hy⟩, _⟩ := h
      have := congrArg Act.defers hy
      simp [defers_put] at this
    case enter f args =>
      refine Calls.mono h ?_
      intro e w2 he
      cases e with
      | returned v => exact ⟨_, hc v, he.1, he.2⟩
      | panicked c => exact he
      | outgrown => exact he
    case row row args => exact Rows.mono h fun v w2 hv => ⟨_, hc v, hv.1, hv.2⟩
    all_goals exact h
  | halt h0 w1 => cases h0 <;> simp only [Oper.upon] at h ⊢ <;> exact h

theorem wp_unput {o : Oper} {a : Act} {w : World} {K : Act → World → Prop} {x : Option Tmp} {u : Value} (hs : ∀ cs b, o.op ≠ .select cs b) (hx : ∀ d, x = some d → d ∉ o.looksAt ops) (hne : ∀ d, x = some d → o.dst ≠ some d)
    (h : o.wp P (a.put x u) w (fun a' w' => (∃ y, a' = (a.put x u).put o.dst y) ∧ K a' w') No) : o.wp P a w (fun a' w' => (∃ y, a' = a.put o.dst y) ∧ K (a'.put x u) w') No := by
  unfold Oper.wp at *
  rw [execOp_put o hs a x u hx] at h
  have hc : ∀ y, (a.put x u).put o.dst y = (a.put o.dst y).put x u := fun y => Act.put_comm a u y hne
  generalize (execOp a.eval o).run P w = r at *
  cases r with
  | ok n w1 =>
    cases n <;> simp only [Oper.upon] at h ⊢
    case value v => exact ⟨⟨_, rfl⟩, hc v ▸ h.2⟩
    case skip => exact ⟨⟨_, rfl⟩, hc undef ▸ h.2⟩
    case defer dd =>
      obtain ⟨⟨y, hy⟩, _⟩ := h
      have := congrArg Act.defers hy
      simp [defers_put] at this
    case enter f args =>
      refine Calls.mono h ?_
      intro e w2 he
      cases e with
      | returned v => exact ⟨⟨_, rfl⟩, hc v ▸ he.2⟩
      | panicked c => exact he
      | outgrown => exact he
    case row row args => exact Rows.mono h fun v w2 hv => ⟨⟨_, rfl⟩, hc v ▸ hv.2⟩
    all_goals exact h
  | halt h0 w1 => cases h0 <;> simp only [Oper.upon] at h ⊢ <;> exact h

theorem kd_select {o : Oper} (h : kd o ≠ 3) : ∀ cs b, o.op ≠ .select cs b := by
  intro cs b he
  apply h
  simp [kd, he]

/-- Two operations that do not hang on each other: in whatever order. w0: some world of the class. -/
theorem tOp_swap {i j : Nat} {oi oj : Oper} (hi : ops[i]? = some oi) (hj : ops[j]? = some oj) (hap : oi.apart ops oj = true) (hki : kd oi ≠ 3) (hkj : kd oj ≠ 3) (hl : ¬ (kd oi = 2 ∧ kd oj = 2)) {w0 : World} (hw0 : C w0)
    {K : Act → World → Prop} {a : Act} {w : World} (h : tOp P ops C i (fun a' w' => tOp P ops C j K a' w') a w) : tOp P ops C j (fun a' w' => tOp P ops C i K a' w') a w := by
  obtain ⟨h1, h2, h3⟩ := Oper.apart_spec hap
  have h2' : ∀ d, oj.dst = some d → oi.dst ≠ some d := fun d hd he => h2 d he hd
  have si := kd_select hki
  have sj := kd_select hkj
  have wj : ∀ (a : Act) u, Region.wanted oj (yielded ops (a.put oi.dst u).tmps) = Region.wanted oj (yielded ops a.tmps) := fun a u => wanted_put oj a oi.dst u h1
  have wi : ∀ (a : Act) u, Region.wanted oi (yielded ops (a.put oj.dst u).tmps) = Region.wanted oi (yielded ops a.tmps) := fun a u => wanted_put oi a oj.dst u h3
  have hcm : ∀ (a : Act) u y, (a.put oi.dst u).put oj.dst y = (a.put oj.dst y).put oi.dst u := fun a u y => Act.put_comm a u y h2
  unfold tOp at *
  simp only [hi, hj] at *
  by_cases hwi : Region.wanted oi (yielded ops a.tmps) = true
  · by_cases hwj : Region.wanted oj (yielded ops a.tmps) = true
    · simp only [hwi, hwj, if_true] at h ⊢
      unfold tAt at *
      have ki : kd oi = 0 ∨ kd oi = 1 ∨ kd oi = 2 := by
        revert hki; generalize oi = o; unfold kd; split <;> simp
      have kj : kd oj = 0 ∨ kd oj = 1 ∨ kd oj = 2 := by
        revert hkj; generalize oj = o; unfold kd; split <;> simp
      rcases ki with ki | ki | ki <;> rcases kj with kj | kj | kj <;> simp only [ki, kj] at h ⊢
      case inl.inl =>
        obtain ⟨v, hv, hk⟩ := h
        rw [wj, if_pos hwj] at hk
        obtain ⟨u, hu, hk⟩ := hk
        refine ⟨u, fun w' => (hu w').unput sj h1, ?_⟩
        rw [wi, if_pos hwi]
        exact ⟨v, fun w' => (hv w').put si _ _ h3, hcm a v u ▸ hk⟩
      case inl.inr.inl =>
        obtain ⟨v, hv, hk⟩ := h
        rw [wj, if_pos hwj] at hk
        obtain ⟨u, hu, hk⟩ := hk
        refine ⟨u, fun w' hw' => (hu w' hw').unput sj h1, ?_⟩
        rw [wi, if_pos hwi]
        exact ⟨v, fun w' => (hv w').put si _ _ h3, hcm a v u ▸ hk⟩
      case inr.inl.inl =>
        obtain ⟨v, hv, hk⟩ := h
        rw [wj, if_pos hwj] at hk
        obtain ⟨u, hu, hk⟩ := hk
        refine ⟨u, fun w' => (hu w').unput sj h1, ?_⟩
        rw [wi, if_pos hwi]
        exact ⟨v, fun w' hw' => (hv w' hw').put si _ _ h3, hcm a v u ▸ hk⟩
      case inr.inl.inr.inl =>
        obtain ⟨v, hv, hk⟩ := h
        rw [wj, if_pos hwj] at hk
        obtain ⟨u, hu, hk⟩ := hk
        refine ⟨u, fun w' hw' => (hu w' hw').unput sj h1, ?_⟩
        rw [wi, if_pos hwi]
        exact ⟨v, fun w' hw' => (hv w' hw').put si _ _ h3, hcm a v u ▸ hk⟩
      case inl.inr.inr =>
        obtain ⟨v, hv, hk⟩ := h
        rw [wj, if_pos hwj] at hk
        have hk' := wp_unput (ops := ops) (K := fun a' w' => (C w' ∨ fin ops j = true) ∧ K a' w') sj h1 h2 (Oper.wp_mono (fun a' w' ⟨q1, q2, q3⟩ => ⟨q2, q1, q3⟩) hk)
        refine Oper.wp_mono ?_ hk'
        rintro a' w' ⟨⟨y, rfl⟩, q1, q2⟩
        refine ⟨q1, ⟨y, rfl⟩, ?_⟩
        rw [wi, if_pos hwi]
        exact ⟨v, fun w' => (hv w').put si _ _ h3, q2⟩
      case inr.inl.inr.inr =>
        obtain ⟨v, hv, hk⟩ := h
        rw [wj, if_pos hwj] at hk
        have hk' := wp_unput (ops := ops) (K := fun a' w' => (C w' ∨ fin ops j = true) ∧ K a' w') sj h1 h2 (Oper.wp_mono (fun a' w' ⟨q1, q2, q3⟩ => ⟨q2, q1, q3⟩) hk)
        refine Oper.wp_mono ?_ hk'
        rintro a' w' ⟨⟨y, rfl⟩, q1, q2⟩
        refine ⟨q1, ⟨y, rfl⟩, ?_⟩
        rw [wi, if_pos hwi]
        exact ⟨v, fun w' hw' => (hv w' hw').put si _ _ h3, q2⟩
      case inr.inr.inl =>
        obtain ⟨a1, w1, _, ⟨y1, e1⟩, hk1⟩ := wp_out h
        subst e1
        rw [wj, if_pos hwj] at hk1
        obtain ⟨u, hu, _⟩ := hk1
        have hu0 : ∀ w', Yv P oj a w' u := fun w' => (hu w').unput sj h1
        refine ⟨u, hu0, ?_⟩
        rw [wi, if_pos hwi]
        have h' := wp_put (ops := ops) (x := oj.dst) (u := u) (K := fun a' w' => (C w' ∨ fin ops i = true) ∧ (if Region.wanted oj (yielded ops a'.tmps) = true then ∃ v, (∀ w', Yv P oj a' w' v) ∧ K (a'.put oj.dst v) w' else K (a'.put oj.dst undef) w')) si h3 h2' (Oper.wp_mono (fun a' w' ⟨q1, q2, q3⟩ => ⟨q2, q1, q3⟩) h)
        refine Oper.wp_mono ?_ h'
        rintro a' w' ⟨a0, rfl, ⟨y, rfl⟩, q1, q2⟩
        refine ⟨q1, ⟨y, hcm a y u⟩, ?_⟩
        rw [wj, if_pos hwj] at q2
        obtain ⟨v, hv, hk⟩ := q2
        have : v = u := by
          have e1 := (hv w0).unput sj h1
          have e2 := hu0 w0
          unfold Yv at e1 e2
          rw [e1] at e2
          simpa using e2
        rw [← this]
        exact hk
      case inr.inr.inr.inl =>
        obtain ⟨a1, w1, _, ⟨y1, e1⟩, hk1⟩ := wp_out h
        subst e1
        rw [wj, if_pos hwj] at hk1
        obtain ⟨u, hu, _⟩ := hk1
        have hu0 : ∀ w', C w' → Yv P oj a w' u := fun w' hw' => (hu w' hw').unput sj h1
        refine ⟨u, hu0, ?_⟩
        rw [wi, if_pos hwi]
        have h' := wp_put (ops := ops) (x := oj.dst) (u := u) (K := fun a' w' => (C w' ∨ fin ops i = true) ∧ (if Region.wanted oj (yielded ops a'.tmps) = true then ∃ v, (∀ w', C w' → Yv P oj a' w' v) ∧ K (a'.put oj.dst v) w' else K (a'.put oj.dst undef) w')) si h3 h2' (Oper.wp_mono (fun a' w' ⟨q1, q2, q3⟩ => ⟨q2, q1, q3⟩) h)
        refine Oper.wp_mono ?_ h'
        rintro a' w' ⟨a0, rfl, ⟨y, rfl⟩, q1, q2⟩
        refine ⟨q1, ⟨y, hcm a y u⟩, ?_⟩
        rw [wj, if_pos hwj] at q2
        obtain ⟨v, hv, hk⟩ := q2
        have : v = u := by
          have e1 := (hv w0 hw0).unput sj h1
          have e2 := hu0 w0 hw0
          unfold Yv at e1 e2
          rw [e1] at e2
          simpa using e2
        rw [← this]
        exact hk
      case inr.inr.inr.inr => exact absurd ⟨ki, kj⟩ hl
    · have hwj' : Region.wanted oj (yielded ops a.tmps) = false := by simpa using hwj
      simp only [hwi, hwj', if_true, Bool.false_eq_true, if_false] at h ⊢
      rw [wi, if_pos hwi]
      have ki : kd oi = 0 ∨ kd oi = 1 ∨ kd oi = 2 := by
        revert hki; generalize oi = o; unfold kd; split <;> simp
      unfold tAt at h ⊢
      rcases ki with ki | ki | ki <;> simp only [ki] at h ⊢
      · obtain ⟨v, hv, hk⟩ := h
        rw [wj, if_neg hwj] at hk
        exact ⟨v, fun w' => (hv w').put si _ _ h3, hcm a v undef ▸ hk⟩
      · obtain ⟨v, hv, hk⟩ := h
        rw [wj, if_neg hwj] at hk
        exact ⟨v, fun w' hw' => (hv w' hw').put si _ _ h3, hcm a v undef ▸ hk⟩
      · have h0 : oi.wp P a w (fun a' w' => (∃ y, a' = a.put oi.dst y) ∧ (C w' ∨ fin ops i = true) ∧ K (a'.put oj.dst undef) w') No := by
          refine Oper.wp_mono ?_ h
          rintro a' w' ⟨q1, ⟨y, rfl⟩, q3⟩
          rw [wj, if_neg hwj] at q3
          exact ⟨⟨y, rfl⟩, q1, q3⟩
        have h' := wp_put (ops := ops) (x := oj.dst) (u := undef) (K := fun a' w' => (C w' ∨ fin ops i = true) ∧ K (a'.put oj.dst undef) w') si h3 h2' h0
        refine Oper.wp_mono ?_ h'
        rintro a' w' ⟨a0, rfl, ⟨y, rfl⟩, q1, q2⟩
        exact ⟨q1, ⟨y, hcm a y undef⟩, q2⟩
  · have hwi' : Region.wanted oi (yielded ops a.tmps) = false := by simpa using hwi
    simp only [hwi', Bool.false_eq_true, if_false] at h
    rw [wj] at h
    by_cases hwj : Region.wanted oj (yielded ops a.tmps) = true
    · simp only [hwj, if_true] at h ⊢
      have kj : kd oj = 0 ∨ kd oj = 1 ∨ kd oj = 2 := by
        revert hkj; generalize oj = o; unfold kd; split <;> simp
      unfold tAt at h ⊢
      rcases kj with kj | kj | kj <;> simp only [kj] at h ⊢
      · obtain ⟨v, hv, hk⟩ := h
        refine ⟨v, fun w' => (hv w').unput sj h1, ?_⟩
        rw [wi, if_neg hwi]
        exact hcm a undef v ▸ hk
      · obtain ⟨v, hv, hk⟩ := h
        refine ⟨v, fun w' hw' => (hv w' hw').unput sj h1, ?_⟩
        rw [wi, if_neg hwi]
        exact hcm a undef v ▸ hk
      · have hk' := wp_unput (ops := ops) (K := fun a' w' => (C w' ∨ fin ops j = true) ∧ K a' w') sj h1 h2 (Oper.wp_mono (fun a' w' ⟨q1, q2, q3⟩ => ⟨q2, q1, q3⟩) h)
        refine Oper.wp_mono ?_ hk'
        rintro a' w' ⟨⟨y, rfl⟩, q1, q2⟩
        refine ⟨q1, ⟨y, rfl⟩, ?_⟩
        rw [wi, if_neg hwi]
        exact q2
    · simp only [hwj] at h ⊢
      rw [wi, if_neg hwi]
      exact hcm a undef undef ▸ h

/-- Whatever order is picked from here on. -/
def aT (P : Program) (ops : Array Oper) (C : World → Prop) (Q : Act → World → Prop) : Nat → Array Bool → Act → World → Prop
  | 0, listed, a, w => Region.ready .any ops listed = [] ∧ Q a w
  | f + 1, listed, a, w => (Region.ready .any ops listed = [] → Q a w) ∧ ∀ i ∈ Region.ready .any ops listed, tOp P ops C i (aT P ops C Q f (listed.setIfInBounds i true)) a w

theorem getD_set_true' {l : Array Bool} {j : Nat} (i : Nat) (h : l.getD j true = true) : (l.setIfInBounds i true).getD j true = true := by
  by_cases e : i = j
  · subst e
    rcases Nat.lt_or_ge i l.size with h' | h'
    · simp [h']
    · simp [Array.getElem?_eq_none h']
  · rw [getD_set_ne true e]; exact h

def rdone (ops : Array Oper) (listed : Array Bool) : Prop := ∀ j o, ops[j]? = some o → kd o = 1 → listed.getD j true = true

theorem rdone.set {listed : Array Bool} (h : rdone ops listed) (i : Nat) : rdone ops (listed.setIfInBounds i true) := fun j o hj hk => getD_set_true' i (h j o hj hk)

theorem fin_done {i : Nat} {listed : Array Bool} (hf : fin ops i = true) (hc : Closed ops listed) (hi : i ∈ Region.ready .any ops listed) : rdone ops (listed.setIfInBounds i true) := by
  intro j o hj hk
  have h1 := List.all_eq_true.1 hf j (List.mem_range.2 (Array.getElem?_eq_some_iff.1 hj).1)
  simp only [hj, hk, Bool.or_eq_true] at h1
  obtain ⟨_, oi, hoi, hall⟩ := mem_ready.1 hi
  rcases h1 with h1 | h1
  · simp at h1
  · have h2 := reach_listed hc _ i j oi hoi hall h1
    refine getD_set_true' i ?_
    rcases Nat.lt_or_ge j listed.size with h' | h'
    · simp [h'] at h2 ⊢; exact h2
    · simp [Array.getElem?_eq_none h'] at h2

theorem wpAny_of_aT {Q : Act → World → Prop} {Q' : Exit → Act → World → Prop} (hQ : ∀ a w, Q a w → Q' .normal a w) : ∀ (f : Nat) (listed : Array Bool) (a : Act) (w : World), Closed ops listed → (C w ∨ rdone ops listed) →
    aT P ops C Q f listed a w → wpAny P .any ops Q' f listed a w
  | 0, _, _, _, _, _, h => ⟨h.1, hQ _ _ h.2⟩
  | f + 1, listed, a, w, hc, hw, h => by
    refine ⟨fun h0 => hQ _ _ (h.1 h0), fun i hi => ?_⟩
    have h1 := h.2 i hi
    have ih := fun a' w' hw' => wpAny_of_aT (Q := Q) (Q' := Q') hQ f (listed.setIfInBounds i true) a' w' (hc.set hi) hw'
    have hw' : C w ∨ rdone ops (listed.setIfInBounds i true) := hw.imp id (fun h => h.set i)
    unfold tOp at h1
    unfold wpOp
    cases ho : ops[i]? with
    | none => simp only [ho] at h1 ⊢; exact ih _ _ hw' h1
    | some o =>
      simp only [ho] at h1 ⊢
      split at h1
      · rename_i hwd
        rw [if_pos hwd]
        refine .inl ?_
        unfold tAt at h1
        split at h1
        · obtain ⟨v, hv, hk⟩ := h1
          have e := hv w
          unfold Yv at e
          unfold Oper.wp
          rw [e]
          exact ih _ _ hw' hk
        · rename_i hk1
          obtain ⟨v, hv, hk⟩ := h1
          have hCw : C w := by
            rcases hw with hw | hw
            · exact hw
            · have := hw i o ho hk1
              have h0 := (mem_ready.1 hi).1
              rw [this] at h0
              cases h0
          have e := hv w hCw
          unfold Yv at e
          unfold Oper.wp
          rw [e]
          exact ih _ _ hw' hk
        · refine Oper.wp_mono (Q := Q') (K := fun a' w' => (C w' ∨ fin ops i = true) ∧ (∃ u, a' = a.put o.dst u) ∧ aT P ops C Q f (listed.setIfInBounds i true) a' w') ?_ ?_
          · rintro a' w' ⟨q1, _, q3⟩
            exact ih _ _ (q1.imp id fun hf => fin_done hf hc hi) q3
          · unfold Oper.wp at h1 ⊢
            generalize (execOp a.eval o).run P w = r at *
            cases r with
            | ok n w1 =>
              cases n <;> simp only [Oper.upon] at h1 ⊢
              case enter f args =>
                refine Calls.mono h1 ?_
                intro e w2 he
                cases e with
                | returned v => exact he
                | panicked c => exact he.elim
                | outgrown => obtain ⟨_, _, hx⟩ := he; exact hx.elim
              all_goals exact h1
            | halt h0 w1 => cases h0 <;> simp only [Oper.upon] at h1 ⊢ <;> exact h1.elim
        · exact h1.elim
      · rename_i hwd
        rw [if_neg hwd]
        exact ih _ _ hw' h1

/-- An operation that may come up now may be taken first. -/
theorem aT_first {Q : Act → World → Prop} {i : Nat} {oi : Oper} (hi : ops[i]? = some oi) (hki : kd oi ≠ 3) (hk3 : ∀ (j : Nat) (oj : Oper), ops[j]? = some oj → kd oj ≠ 3) {w0 : World} (hw0 : C w0) :
    ∀ (f : Nat) (listed : Array Bool) (a : Act) (w : World), Closed ops listed →
      (∀ (j : Nat) (oj : Oper), ops[j]? = some oj → j ≠ i → listed.getD j true = false → reach ops ops.size j i = true ∨ (oi.apart ops oj = true ∧ ¬ (kd oi = 2 ∧ kd oj = 2))) →
      i ∈ Region.ready .any ops listed → tOp P ops C i (aT P ops C Q f (listed.setIfInBounds i true)) a w → aT P ops C Q (f + 1) listed a w := by
  intro f
  induction f with
  | zero =>
    intro listed a w _ _ hr H
    refine ⟨fun h => (by rw [h] at hr; cases hr), fun j hj => ?_⟩
    by_cases hji : j = i
    · subst hji; exact H
    · have := ready_mono hj hji
      obtain ⟨a', w', h1, _⟩ := tOp_out H
      rw [h1] at this
      cases this
  | succ f ih =>
    intro listed a w hc hfree hr H
    refine ⟨fun h => (by rw [h] at hr; cases hr), fun j hj => ?_⟩
    by_cases hji : j = i
    · subst hji; exact H
    · obtain ⟨hjun, oj, hoj, hall⟩ := mem_ready.1 hj
      have hnr := not_reach hc hr hj ops.size
      obtain ⟨hap, hl⟩ := (hfree j oj hoj hji hjun).resolve_left (by simp [hnr])
      have H1 : tOp P ops C i (fun a' w' => tOp P ops C j (aT P ops C Q f ((listed.setIfInBounds i true).setIfInBounds j true)) a' w') a w :=
        tOp_mono (fun a' w' _ h => h.2 j (ready_mono hj hji)) H
      have H2 := tOp_swap hi hoj hap hki (hk3 j oj hoj) hl hw0 H1
      refine tOp_mono (fun a' w' _ h3 => ih (listed.setIfInBounds j true) a' w' (hc.set hj) ?_ (ready_mono hr (Ne.symm hji)) ?_) H2
      · intro k ok hk hki hun
        refine hfree k ok hk hki ?_
        by_cases hjk : j = k
        · subst hjk; exact hjun
        · rw [getD_set_ne true hjk] at hun; exact hun
      · rw [Array.setIfInBounds_comm _ _ hji]
        exact h3

/-- The walk in the text's order; k: how many operations stand ahead. -/
def wpT (P : Program) (ops : Array Oper) (C : World → Prop) (Q : Act → World → Prop) : Nat → List Oper → Act → World → Prop
  | _, [], a, w => Q a w
  | k, o :: rest, a, w => if Region.wanted o (yielded ops a.tmps) then tAt P C o (fin ops k) (wpT P ops C Q (k + 1) rest) a w else wpT P ops C Q (k + 1) rest (a.put o.dst undef) w

theorem tOk_spec (h : tOk ops = true) (i : Nat) (oi : Oper) (hi : ops[i]? = some oi) : kd oi ≠ 3 ∧ (∀ e ∈ oi.after, Region.binds .any e = true → e.on < i) ∧
    ∀ j oj, ops[j]? = some oj → i < j → reach ops ops.size j i = true ∨ (oi.apart ops oj = true ∧ ¬ (kd oi = 2 ∧ kd oj = 2)) := by
  have h1 := List.all_eq_true.1 h i (List.mem_range.2 (Array.getElem?_eq_some_iff.1 hi).1)
  simp only [hi, Bool.and_eq_true] at h1
  obtain ⟨⟨h1, h2⟩, h3⟩ := h1
  refine ⟨by simpa using h1, fun e he hb => ?_, fun j oj hj hij => ?_⟩
  · have := Array.all_eq_true_iff_forall_mem.1 h2 e he
    simp only [hb, Bool.not_true, Bool.false_or] at this
    exact Nat.lt_of_succ_le (Nat.le_of_ble_eq_true this)
  · have := List.all_eq_true.1 h3 j (List.mem_range.2 (Array.getElem?_eq_some_iff.1 hj).1)
    simp only [Bool.or_eq_true, pairOk, hj] at this
    rcases this with this | this
    · have := Nat.le_of_ble_eq_true this; omega
    · rcases this with this | this
      · exact .inl this
      · simp only [Bool.and_eq_true, Bool.not_eq_true'] at this
        refine .inr ⟨this.1, fun ⟨e1, e2⟩ => ?_⟩
        have h3 := this.2
        rw [e1, e2] at h3
        simp at h3

theorem aT_of_wpT {Q : Act → World → Prop} (hB : tOk ops = true) {w0 : World} (hw0 : C w0) : ∀ (l : List Oper) (k : Nat) (listed : Array Bool) (a : Act) (w : World), (∀ j, l[j]? = ops[k + j]?) → k + l.length = ops.size → listed.size = ops.size →
    (∀ j, j < ops.size → (listed.getD j true = true ↔ j < k)) → wpT P ops C Q k l a w → aT P ops C Q l.length listed a w
  | [], k, listed, a, w, _, hk, hs, hli, h => by
    refine ⟨?_, h⟩
    refine List.eq_nil_iff_forall_not_mem.2 fun j hj => ?_
    obtain ⟨h0, oj, hoj, _⟩ := mem_ready.1 hj
    have hlt := (Array.getElem?_eq_some_iff.1 hoj).1
    have := (hli j hlt).2 (by simp at hk; omega)
    rw [this] at h0
    cases h0
  | o :: l, k, listed, a, w, hl, hk, hs, hli, h => by
    have h0 : ops[k]? = some o := by simpa using (hl 0).symm
    have hklt := (Array.getElem?_eq_some_iff.1 h0).1
    obtain ⟨hk3, hed, hpair⟩ := tOk_spec hB k o h0
    have hget : ∀ j, j < ops.size → (listed.getD j false = true ↔ j < k) := fun j hj => by
      rw [← hli j hj]
      have : j < listed.size := by omega
      simp [this]
    have hclosed : Closed ops listed := by
      intro j oj hj hlj e he hb
      have hjlt := (Array.getElem?_eq_some_iff.1 hj).1
      have h1 := (hget j hjlt).1 hlj
      have h2 := (tOk_spec hB j oj hj).2.1 e he hb
      exact (hget e.on (by omega)).2 (by omega)
    have hready : k ∈ Region.ready .any ops listed := by
      refine mem_ready.2 ⟨?_, o, h0, fun e he hb => (hget e.on (by have := hed e he hb; omega)).2 (hed e he hb)⟩
      cases hx : listed.getD k true with
      | false => rfl
      | true => have := (hli k hklt).1 hx; omega
    refine aT_first h0 hk3 (fun j oj hj => (tOk_spec hB j oj hj).1) hw0 l.length listed a w hclosed ?_ hready ?_
    · intro j oj hj hne hun
      have hjlt := (Array.getElem?_eq_some_iff.1 hj).1
      have : ¬ j < k := fun hh => by have := (hli j hjlt).2 hh; rw [this] at hun; cases hun
      exact hpair j oj hj (by omega)
    · have hrest : ∀ a' w', wpT P ops C Q (k + 1) l a' w' → aT P ops C Q l.length (listed.setIfInBounds k true) a' w' := fun a' w' h' =>
        aT_of_wpT hB hw0 l (k + 1) _ a' w' (fun j => by have := hl (j + 1); simpa [Nat.add_assoc, Nat.add_comm 1 j] using this) (by simp at hk; omega) (by simpa using hs)
          (fun j hj => by
            by_cases e : k = j
            · subst e
              have : k < listed.size := by omega
              simp [this]
            · rw [getD_set_ne true e, hli j hj]; omega) h'
      unfold tOp
      simp only [h0]
      simp only [wpT] at h
      split at h
      · rename_i hw; rw [if_pos hw]; exact tAt_mono (fun a' w' _ => hrest a' w') h
      · rename_i hw; rw [if_neg hw]; exact hrest _ _ h

theorem wp_region_T {id : Nat} {Q : Act → World → Prop} {Q' : Exit → Act → World → Prop} {a : Act} {w : World} (hQ : ∀ a w, Q a w → Q' .normal a w) (hm : P.follows .mixedOrders = true) (hB : tOk ops = true) (hC : C w.drew)
    (h : wpT P ops C Q 0 ops.toList a w.drew) : (Code.region id ops true).wp P Q' a w := by
  refine wp_region_any hm ?_
  have := aT_of_wpT (P := P) (Q := Q) hB hC ops.toList 0 (Array.replicate ops.size false) a w.drew (by simp) (by simp) (by simp) (fun j hj => by simp [hj]) h
  refine wpAny_of_aT (C := C) hQ _ _ _ _ ?_ (.inl hC) (by simpa using this)
  intro j oj hj hl
  have hjlt := (Array.getElem?_eq_some_iff.1 hj).1
  simp [hjlt] at hl
end
end Go.Wk
