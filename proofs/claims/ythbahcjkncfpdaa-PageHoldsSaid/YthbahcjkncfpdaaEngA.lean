/-
  The walk's own layer: a frame is a list of slots and values, a statement of a walk speaks of that list. Nothing of a program is in here.
-/
import Derived.WalkKit
import Derived.Orders
import Derived.KernelRfl
namespace Go.Wk

/-- A frame: what is known of the slots; the newest first. -/
abbrev Fr := List (Nat × Value)

/-- Slots from here on are no slots: they tell what a range over a function has left to be carried out behind. -/
def get : Fr → Nat → Option Value
  | [], _ => none
  | (j, v) :: F, i => bif Nat.beq i j then (bif Nat.ble 1000000 j then none else some v) else get F i

theorem beq_ne {i d : Nat} (h : i ≠ d) : Nat.beq i d = false := by
  cases hb : Nat.beq i d with
  | false => rfl
  | true => exact absurd (Nat.eq_of_beq_eq_true hb) h
theorem ble_not {n d : Nat} (hd : d < n) (hn : n ≤ 1000000) : Nat.ble 1000000 d = false := by
  cases hb : Nat.ble 1000000 d with
  | false => rfl
  | true => have := Nat.le_of_ble_eq_true hb; omega
theorem get_cons_self (F : Fr) (d : Nat) (v : Value) (hd : Nat.ble 1000000 d = false) : get ((d, v) :: F) d = some v := by
  simp [get, hd]
theorem get_cons_ne (F : Fr) (d i : Nat) (v : Value) (h : i ≠ d) : get ((d, v) :: F) i = get F i := by
  simp [get, beq_ne h]

/-- The entries that are no slots. -/
def markF : Fr → Fr
  | [] => []
  | (j, v) :: F => bif Nat.ble 1000000 j then (j, v) :: markF F else markF F
def markN : Value → Nat
  | .int _ k => k.toNat
  | _ => 0
def marks (F : Fr) : List Nat := (markF F).map fun p => markN p.2
def mkD (b : Nat) : Deferred := { target := .collected b, args := #[] }
theorem get_markF : ∀ (F : Fr) (i : Nat), get (markF F) i = none
  | [], _ => rfl
  | (j, v) :: F, i => by
    simp only [markF]
    cases hj : Nat.ble 1000000 j with
    | false => exact get_markF F i
    | true =>
      simp only [cond_true, get, hj]
      rw [get_markF F i]
      cases Nat.beq i j <;> rfl
theorem markF_markF : ∀ F : Fr, markF (markF F) = markF F
  | [] => rfl
  | (j, v) :: F => by
    simp only [markF]
    cases hj : Nat.ble 1000000 j with
    | false => exact markF_markF F
    | true => simp only [cond_true, markF, hj, markF_markF F]

structure Rep (n : Nat) (F : Fr) (a : Act) : Prop where
  lt : n ≤ 1000000
  size : a.tmps.size = n
  defers : a.defers = (marks F).map mkD
  get : ∀ i v, get F i = some v → a.tmps[i]? = some v

theorem marks_put {F : Fr} {d : Nat} {v : Value} (hd : Nat.ble 1000000 d = false) : marks ((d, v) :: F) = marks F := by simp [marks, markF, hd]

theorem Rep.put {n : Nat} {F : Fr} {a : Act} (h : Rep n F a) {d : Nat} (hd : Nat.blt d n = true) (v : Value) : Rep n ((d, v) :: F) (a.put (some d) v) := by
  have hd' : d < n := Nat.lt_of_succ_le (Nat.le_of_ble_eq_true hd)
  have hb := ble_not hd' h.lt
  refine ⟨h.lt, by simp [Act.put, h.size], by rw [marks_put hb]; simp [Act.put, h.defers], fun i u hi => ?_⟩
  by_cases e : i = d
  · subst e
    rw [get_cons_self _ _ _ hb] at hi
    simp [Act.put, h.size, hd'] at *
    exact hi
  · rw [get_cons_ne _ _ _ _ e] at hi
    simp only [Act.put]
    rw [Array.getElem?_setIfInBounds_ne (fun x => e x.symm)]
    exact h.get i u hi

theorem Rep.putNone {n : Nat} {F : Fr} {a : Act} (h : Rep n F a) (v : Value) : Rep n F (a.put none v) := h

/-- What is kept of a frame: these slots, and what is no slot. -/
def prune (keep : List Nat) (F : Fr) : Fr :=
  match keep with
  | [] => markF F
  | i :: r => match get F i with
    | some v => (i, v) :: prune r F
    | none => prune r F

theorem get_small : ∀ (F : Fr) (i : Nat) (v : Value), get F i = some v → Nat.ble 1000000 i = false
  | [], i, v, h => by simp [get] at h
  | (j, u) :: F, i, v, h => by
    simp only [get] at h
    by_cases e : i = j
    · subst e
      cases hb : Nat.ble 1000000 i with
      | false => rfl
      | true => simp [hb] at h
    · rw [beq_ne e] at h
      exact get_small F i v h

theorem get_prune (F : Fr) : ∀ (keep : List Nat) (i : Nat) (v : Value), get (prune keep F) i = some v → get F i = some v
  | [], i, v, h => by rw [prune, get_markF] at h; cases h
  | k :: r, i, v, h => by
    simp only [prune] at h
    cases hk : get F k with
    | none => rw [hk] at h; exact get_prune F r i v h
    | some u =>
      rw [hk] at h
      by_cases e : i = k
      · subst e; rw [get_cons_self _ _ _ (get_small F i u hk)] at h; rw [hk]; exact h
      · rw [get_cons_ne _ _ _ _ e] at h; exact get_prune F r i v h

theorem marks_prune (F : Fr) : ∀ keep : List Nat, marks (prune keep F) = marks F
  | [] => by simp only [prune, marks, markF_markF]
  | k :: r => by
    simp only [prune]
    cases hk : get F k with
    | none => exact marks_prune F r
    | some u =>
      show marks ((k, u) :: prune r F) = _
      rw [marks_put (get_small F k u hk)]
      exact marks_prune F r

theorem Rep.prune {n : Nat} {F : Fr} {a : Act} (h : Rep n F a) (keep : List Nat) : Rep n (prune keep F) a :=
  ⟨h.lt, h.size, by rw [marks_prune]; exact h.defers, fun i v hi => h.get i v (get_prune F keep i v hi)⟩

/-- An operand's value in a frame. -/
def ev (F : Fr) : Operand → Option Value
  | .tmp t => get F t
  | .const v => some v
  | .global g => some (.pointer (some ⟨g, 0, none⟩))
  | .func f => some (.func (.func f) #[] #[])

theorem Rep.eval {n : Nat} {F : Fr} {a : Act} (h : Rep n F a) {x : Operand} {v : Value} (hx : ev F x = some v) : a.eval x = v := by
  cases x with
  | tmp t =>
    have := h.get t v hx
    simp [Act.eval, this]
  | const u => simpa [ev, Act.eval] using hx
  | global g => simpa [ev, Act.eval] using hx
  | func f => simpa [ev, Act.eval] using hx

def lift (n : Nat) (Q : Exit → Fr → World → Prop) (e : Exit) (a : Act) (w : World) : Prop := ∃ F, Rep n F a ∧ Q e F w

/-- A piece of code, from a frame and a world. -/
def W (P : Program) (n : Nat) (c : Code) (Q : Exit → Fr → World → Prop) (F : Fr) (w : World) : Prop :=
  ∀ a, Rep n F a → c.wp P (lift n Q) a w

/-- The rest of a region whose order is fixed. -/
def O (P : Program) (n : Nat) (ops : Array Oper) (Q : Exit → Fr → World → Prop) (l : List Oper) (F : Fr) (w : World) : Prop :=
  ∀ a, Rep n F a → wpList P ops (lift n Q) l a w

def thenF (K : Fr → World → Prop) (Q : Exit → Fr → World → Prop) : Exit → Fr → World → Prop
  | .normal, F, w => K F w
  | e, F, w => Q e F w

def blockF (id : Nat) (Q : Exit → Fr → World → Prop) : Exit → Fr → World → Prop
  | .exit id', F, w => if id' = id then Q .normal F w else Q (.exit id') F w
  | e, F, w => Q e F w

section
variable {P : Program} {n : Nat} {Q : Exit → Fr → World → Prop} {F : Fr} {w : World}

theorem W_mono {c : Code} {Q' : Exit → Fr → World → Prop} (h : W P n c Q F w) (hq : ∀ e F w, Q e F w → Q' e F w) : W P n c Q' F w :=
  fun a ha => wp_mono (h a ha) fun e a w ⟨F, hr, hQ⟩ => ⟨F, hr, hq e F w hQ⟩

/-- Of the slots go on with those alone. -/
theorem W_prune (keep : List Nat) {c : Code} {F' : Fr} (hF : prune keep F = F') (h : W P n c Q F' w) : W P n c Q F w :=
  fun a ha => h a (hF ▸ ha.prune keep)

theorem W_skip (h : Q .normal F w) : W P n .skip Q F w := fun _ ha => wp_skip ⟨F, ha, h⟩
theorem W_label {l : Nat} (h : Q .normal F w) : W P n (.label l) Q F w := fun _ ha => wp_label ⟨F, ha, h⟩
theorem W_exit {id : Nat} (h : Q (.exit id) F w) : W P n (.exit id) Q F w := fun _ ha => wp_exit ⟨F, ha, h⟩
theorem W_ret (h : Q .ret F w) : W P n .ret Q F w := fun _ ha => wp_ret ⟨F, ha, h⟩

theorem W_seq {x y : Code} (h : W P n x (thenF (fun F w => W P n y Q F w) Q) F w) : W P n (.seq x y) Q F w := by
  intro a ha
  refine wp_seq (wp_mono (h a ha) ?_)
  rintro e a' w' ⟨F', hr, hq⟩
  cases e with
  | normal => exact hq a' hr
  | _ => exact ⟨F', hr, hq⟩

/-- A sequence whose ways meet behind the first part. -/
theorem W_seq_cut {x y : Code} (M : Fr → World → Prop) (h : W P n x (thenF M Q) F w) (h2 : ∀ F' w', M F' w' → W P n y Q F' w') : W P n (.seq x y) Q F w :=
  W_seq (W_mono h fun e F w hq => by
    cases e with
    | normal => exact h2 F w hq
    | _ => exact hq)

theorem W_cond {c : Operand} {x y : Code} {b : Bool} (hc : ev F c = some (.bool b)) (ht : b = true → W P n x Q F w) (hf : b = false → W P n y Q F w) :
    W P n (.cond c x y) Q F w := by
  intro a ha
  refine wp_cond_split (t := b) (ha.eval hc) (fun e => ht e a ha) (fun e => hf e a ha)

theorem W_cond_true {c : Operand} {x y : Code} (hc : ev F c = some (.bool true)) (h : W P n x Q F w) : W P n (.cond c x y) Q F w :=
  fun a ha => wp_cond_true (ha.eval hc) (h a ha)
theorem W_cond_false {c : Operand} {x y : Code} (hc : ev F c = some (.bool false)) (h : W P n y Q F w) : W P n (.cond c x y) Q F w :=
  fun a ha => wp_cond_false (ha.eval hc) (h a ha)

theorem W_block {id : Nat} {c : Code} (h : W P n c (blockF id Q) F w) : W P n (.block id c) Q F w := by
  intro a ha
  refine wp_block (wp_mono (h a ha) ?_)
  rintro e a' w' ⟨F', hr, hq⟩
  cases e with
  | exit id' =>
    simp only [blockF] at hq
    simp only [Exit.inBlock]
    split
    · rename_i e; rw [if_pos e] at hq; exact ⟨F', hr, hq⟩
    · rename_i e; rw [if_neg e] at hq; exact ⟨F', hr, hq⟩
  | _ => exact ⟨F', hr, hq⟩

theorem blockF_exit (id : Nat) (h : Q .normal F w) : blockF id Q (.exit id) F w := by simp [blockF, h]
theorem blockF_other {id id' : Nat} (hne : Nat.beq id' id = false) (h : Q (.exit id') F w) : blockF id Q (.exit id') F w := by
  have : id' ≠ id := fun e => by subst e; simp at hne
  simp [blockF, this, h]

theorem W_region {id : Nat} {l : List Oper} (h : O P n l.toArray Q l F w) : W P n (.region id l.toArray false) Q F w :=
  fun a ha => wp_region_lit (h a ha)

theorem O_nil {ops : Array Oper} (h : Q .normal F w) : O P n ops Q [] F w := fun _ ha => wpList_nil ⟨F, ha, h⟩

/-- Of the slots go on with those alone, behind a region. -/
theorem O_nil_prune (keep : List Nat) {F' : Fr} {ops : Array Oper} (hF : prune keep F = F') (h : Q .normal F' w) : O P n ops Q [] F w :=
  fun _ ha => wpList_nil ⟨F', hF ▸ ha.prune keep, h⟩

theorem wp_loopI {c : Code} {Q : Exit → Act → World → Prop} {a : Act} {w : World} (I : Nat → Act → World → Prop) {m : Nat} (h0 : I m a w)
    (round : ∀ m a w, I m a w → c.wp P (Exit.then (fun a' w' => ∃ m', m' < m ∧ I m' a' w') Q) a w) : (Code.loop c).wp P Q a w := by
  intro b k cs
  have key : ∀ m a w, I m a w →
      ∃ e a' w', Q e a' w' ∧ Arrives P (lone (b.at a (.code c :: .inLoop c :: k)) cs w) b k cs e a' w' := by
    intro m
    induction m using Nat.strongRecOn with
    | _ m ih =>
      intro a w hI
      obtain ⟨e, a1, w1, hq, harr⟩ := round m a w hI b (.inLoop c :: k) cs
      cases e with
      | normal =>
        obtain ⟨m', hlt, hI1⟩ := hq
        obtain ⟨e2, a2, w2, hq2, harr2⟩ := ih m' hlt a1 w1 hI1
        exact ⟨e2, a2, w2, hq2, .of_steps (Steps.trans harr (.one step_inLoop)) harr2⟩
      | exit id => exact ⟨_, a1, w1, hq, .pass (x := .inLoop c) rfl (fun _ _ => .inl (by simp)) harr⟩
      | goto l => exact ⟨_, a1, w1, hq, .pass (x := .inLoop c) rfl (fun _ _ => .inl (by simp)) harr⟩
      | ret => exact ⟨_, a1, w1, hq, .pass (x := .inLoop c) rfl (fun _ _ => .inl (by simp)) harr⟩
      | panic ch => exact ⟨_, a1, w1, hq, .pass (x := .inLoop c) rfl (fun _ _ => .inl (by simp)) harr⟩
      | outgrown => exact ⟨_, a1, w1, hq, .pass (x := .inLoop c) rfl (fun _ _ => .inl (by simp)) harr⟩
  obtain ⟨e, a', w', hq, harr⟩ := key m a w h0
  exact ⟨e, a', w', hq, .of_steps (.one step_loop) harr⟩

/-- A loop: 'keep': the slots that are known at each round's head; 'I m F w': what holds there, m a measure that each round lowers. -/
theorem W_loop (keep : List Nat) (I : Nat → Fr → World → Prop) {m : Nat} {c : Code} (h0 : I m (prune keep F) w)
    (round : ∀ m F w, I m F w → W P n c (thenF (fun F' w' => ∃ m', m' < m ∧ I m' (prune keep F') w') Q) F w) : W P n (.loop c) Q F w := by
  intro a ha
  refine wp_loopI (fun m a w => ∃ F, Rep n F a ∧ I m F w) ⟨prune keep F, ha.prune keep, h0⟩ ?_
  rintro m a w ⟨F1, hr, hI⟩
  refine wp_mono (round m F1 w hI a hr) ?_
  rintro e a' w' ⟨F', hr', hq⟩
  cases e with
  | normal =>
    obtain ⟨m', hlt, hI'⟩ := hq
    exact ⟨m', hlt, prune keep F', hr'.prune keep, hI'⟩
  | _ => exact ⟨F', hr', hq⟩
end

/-! ### What one operation does -/
/-- In whatever frame of that make: it yields the value, and that world. -/
def Vl (P : Program) (n : Nat) (F : Fr) (o : Oper) (w : World) (v : Value) (w' : World) : Prop :=
  ∀ a, Rep n F a → (execOp a.eval o).run P w = .ok (.value v) w'
/-- It yields nothing, and that world. -/
def Sk (P : Program) (n : Nat) (F : Fr) (o : Oper) (w w' : World) : Prop :=
  ∀ a, Rep n F a → (execOp a.eval o).run P w = .ok .skip w'
/-- A step: whatever stands behind. -/
def St (P : Program) (n : Nat) (F : Fr) (o : Oper) (w : World) (K : Fr → World → Prop) : Prop :=
  ∀ a, Rep n F a → o.wp P a w (fun a' w' => ∃ F', Rep n F' a' ∧ a'.defers = a.defers ∧ K F' w') (fun _ _ _ => False)

section
variable {P : Program} {n : Nat} {Q : Exit → Fr → World → Prop} {F : Fr} {w w' : World} {o : Oper} {K : Fr → World → Prop}

theorem St.mono {K' : Fr → World → Prop} (h : St P n F o w K) (hk : ∀ F w, K F w → K' F w) : St P n F o w K' :=
  fun a ha => Oper.wp_mono (fun _ _ ⟨F', hr, hd, hK⟩ => ⟨F', hr, hd, hk _ _ hK⟩) (h a ha)

theorem St.vl {d : Nat} {v : Value} (hv : Vl P n F o w v w') (hd : o.dst = some d) (hn : Nat.blt d n = true) (h : K ((d, v) :: F) w') : St P n F o w K := by
  intro a ha
  unfold Oper.wp
  rw [hv a ha, Oper.upon_value P o a _ _ w' v, hd]
  exact ⟨_, ha.put hn v, rfl, h⟩
theorem St.vlNone {v : Value} (hv : Vl P n F o w v w') (hd : o.dst = none) (h : K F w') : St P n F o w K := by
  intro a ha
  unfold Oper.wp
  rw [hv a ha, Oper.upon_value P o a _ _ w' v, hd]
  exact ⟨_, ha, rfl, h⟩
theorem St.sk (hv : Sk P n F o w w') (hd : o.dst = none) (h : K F w') : St P n F o w K := by
  intro a ha
  unfold Oper.wp
  rw [hv a ha, Oper.upon_skip P o a _ _ w', hd]
  exact ⟨_, ha, rfl, h⟩

/-- A call that comes back. -/
def Ret (P : Program) (f : FuncId) (args : Array Value) (w : World) (R : Value → World → Prop) : Prop :=
  Calls P f args w fun e w' => ∃ v, e = .returned v ∧ R v w'

theorem Ret.mono {f : FuncId} {args : Array Value} {R R' : Value → World → Prop} (h : Ret P f args w R) (hr : ∀ v w', R v w' → R' v w') : Ret P f args w R' :=
  Calls.mono h fun _ _ ⟨v, he, hR⟩ => ⟨v, he, hr _ _ hR⟩

theorem St.enter {d : Nat} {f : FuncId} {args : Array Value} {R : Value → World → Prop}
    (hrun : ∀ a, Rep n F a → (execOp a.eval o).run P w = .ok (.enter f args) w) (hd : o.dst = some d) (hn : Nat.blt d n = true)
    (hc : Ret P f args w R) (h : ∀ v w', R v w' → K ((d, v) :: F) w') : St P n F o w K := by
  intro a ha
  unfold Oper.wp
  rw [hrun a ha, Oper.upon_enter P o a _ _ w f args]
  refine Calls.mono hc ?_
  rintro e w1 ⟨v, rfl, hR⟩
  rw [hd]
  exact ⟨_, ha.put hn v, rfl, h v w1 hR⟩

theorem O_st {ops : Array Oper} {rest : List Oper} (hg : o.guard = none) (h : St P n F o w (fun F' w' => O P n ops Q rest F' w')) : O P n ops Q (o :: rest) F w := by
  intro a ha
  refine wpList_plain hg fun K' hK => ?_
  have h1 := h a ha
  unfold Oper.wp at *
  generalize (execOp a.eval o).run P w = r at *
  cases r with
  | ok x w1 =>
    cases x <;> simp only [Oper.upon] at h1 ⊢
    case enter f args =>
      refine Calls.mono h1 ?_
      intro e w2 he
      cases e with
      | returned v => obtain ⟨F', hr, _, hO⟩ := he; exact hK _ _ (hO _ hr)
      | panicked c => exact he.elim
      | outgrown => obtain ⟨_, _, hx⟩ := he; exact hx.elim
    case row row args =>
      refine Rows.mono h1 ?_
      rintro v w2 ⟨F', hr, _, hO⟩
      exact hK _ _ (hO _ hr)
    all_goals first
      | (obtain ⟨F', hr, _, hO⟩ := h1; exact hK _ _ (hO _ hr))
      | exact h1.elim
  | halt x w1 =>
    cases x <;> simp only [Oper.upon] at h1

/-- A guarded operation that is carried out. -/
theorem O_guard_yes {ops : Array Oper} {rest : List Oper} {j t : Nat} {b : Bool} (hg : o.guard = some (j, b)) (ht : (ops[j]?).bind (·.dst) = some t) (hv : get F t = some (.bool b))
    (h : St P n F o w (fun F' w' => O P n ops Q rest F' w')) : O P n ops Q (o :: rest) F w := by
  intro a ha
  have hw : Region.wanted o (yielded ops a.tmps) = true := by
    simp [Region.wanted, hg, yielded, ht, ha.get t _ hv]
  refine wpList_step fun K' hK => ?_
  rw [if_pos hw]
  have h0 : O P n ops Q ({ o with guard := none } :: rest) F w := O_st rfl (o := { o with guard := none }) h
  have h1 := h a ha
  unfold Oper.wp at *
  generalize (execOp a.eval o).run P w = r at *
  cases r with
  | ok x w1 =>
    cases x <;> simp only [Oper.upon] at h1 ⊢
    case enter f args =>
      refine Calls.mono h1 ?_
      intro e w2 he
      cases e with
      | returned v => obtain ⟨F', hr, _, hO⟩ := he; exact hK _ _ (hO _ hr)
      | panicked c => exact he.elim
      | outgrown => obtain ⟨_, _, hx⟩ := he; exact hx.elim
    case row row args =>
      refine Rows.mono h1 ?_
      rintro v w2 ⟨F', hr, _, hO⟩
      exact hK _ _ (hO _ hr)
    all_goals first
      | (obtain ⟨F', hr, _, hO⟩ := h1; exact hK _ _ (hO _ hr))
      | exact h1.elim
  | halt x w1 =>
    cases x <;> simp only [Oper.upon] at h1

/-- A guarded operation that is passed by. -/
theorem O_guard_no {ops : Array Oper} {rest : List Oper} {j t d : Nat} {b b' : Bool} (hg : o.guard = some (j, b)) (hd : o.dst = some d) (hn : Nat.blt d n = true) (ht : (ops[j]?).bind (·.dst) = some t) (hv : get F t = some (.bool b'))
    (hne : b' = !b) (h : O P n ops Q rest ((d, undef) :: F) w) : O P n ops Q (o :: rest) F w := by
  intro a ha
  have hw : Region.wanted o (yielded ops a.tmps) = false := by
    subst hne
    simp [Region.wanted, hg, yielded, ht, ha.get t _ hv]
  refine wpList_step fun K' hK => ?_
  rw [if_neg (by simp [hw]), hd]
  exact hK _ _ (h _ (ha.put hn undef))
end

/-! ### A function -/
def frameOf : Nat → List Value → Fr
  | _, [] => []
  | i, v :: r => (i, v) :: frameOf (i + 1) r

theorem get_frameOf : ∀ (l : List Value) (i j : Nat) (v : Value), get (frameOf i l) j = some v → i ≤ j ∧ l[j - i]? = some v
  | [], i, j, v, h => by simp [frameOf, get] at h
  | u :: r, i, j, v, h => by
    simp only [frameOf] at h
    by_cases e : j = i
    · subst e; rw [get_cons_self _ _ _ (get_small _ _ _ h)] at h; simpa using h
    · rw [get_cons_ne _ _ _ _ e] at h
      obtain ⟨h1, h2⟩ := get_frameOf r (i + 1) j v h
      refine ⟨by omega, ?_⟩
      rw [show j - i = (j - (i + 1)) + 1 by omega]
      simpa using h2

/-- What a function hands back. -/
def resF (F : Fr) : ResultVar → World → Value → Prop
  | .tmp t, _, v => get F t = some v
  | .cell _ _, _, _ => False

def retF (P : Program) (fn : Func) (R : Value → World → Prop) (n : Nat) : Exit → Fr → World → Prop
  | .normal, F, w | .ret, F, w => ∃ v, (∀ a, Rep n F a → (results fn a.tmps).run P w = .ok v w) ∧ marks F = [] ∧ R v w
  | _, _, _ => False

theorem marks_frameOf : ∀ (l : List Value) (i : Nat), i + l.length ≤ 1000000 → marks (frameOf i l) = []
  | [], i, _ => rfl
  | v :: r, i, h => by
    simp only [List.length_cons] at h
    simp only [frameOf]
    rw [marks_put (ble_not (n := i + 1) (by omega) (by omega))]
    exact marks_frameOf r (i + 1) (by omega)

theorem Rep.frameOf {args : List Value} {n : Nat} (hl : Nat.ble args.length n = true) (hk : n ≤ 1000000) : Rep n (frameOf 0 args) { tmps := args.toArray ++ Array.replicate (n - args.toArray.size) undef, defers := [] } := by
  have hl' : args.length ≤ n := by simpa using hl
  refine ⟨hk, by simp; omega, by rw [marks_frameOf args 0 (by omega)]; rfl, fun i v hi => ?_⟩
  obtain ⟨_, h2⟩ := get_frameOf args 0 i v hi
  have hlt : i < args.length := by
    rcases Nat.lt_or_ge i args.length with h' | h'
    · exact h'
    · simp [List.getElem?_eq_none h'] at h2
  simp only [Nat.sub_zero] at h2
  simp [Array.getElem?_append, hlt] at h2 ⊢
  exact h2

theorem Ret.of_W {P : Program} {f : FuncId} {fn : Func} {c : Code} {args : List Value} {w : World} {R : Value → World → Prop} {n : Nat} {F : Fr}
    (hf : P.funcs[f]? = some fn) (hb : fn.body = some c) (hn : fn.ntmps = n) (hl : Nat.ble args.length n = true) (hF : frameOf 0 args = F)
    (h : W P n c (retF P fn R n) F w) (hk : Nat.ble n 1000000 = true := by rfl) : Ret P f args.toArray w R := by
  subst hF hn
  refine calls_of_wp hf hb ?_
  refine wp_mono (h _ (Rep.frameOf hl (Nat.le_of_ble_eq_true hk))) ?_
  rintro e a w' ⟨F', hr', hq⟩
  cases e <;> simp only [retF] at hq
  case normal => obtain ⟨v, hv, hm, hR⟩ := hq; exact ⟨by rw [hr'.defers, hm]; rfl, v, hv _ hr', v, rfl, hR⟩
  case ret => obtain ⟨v, hv, hm, hR⟩ := hq; exact ⟨by rw [hr'.defers, hm]; rfl, v, hv _ hr', v, rfl, hR⟩

section
variable {P : Program} {fn : Func} {R : Value → World → Prop} {n : Nat} {F : Fr} {w : World}
theorem ret0 (hr : fn.results = #[]) (h : R (.tuple #[]) w) (hm : marks F = [] := by rfl) : retF P fn R n .ret F w :=
  ⟨_, fun _ _ => results_none hr _ _ _, hm, h⟩
theorem end0 (hr : fn.results = #[]) (h : R (.tuple #[]) w) (hm : marks F = [] := by rfl) : retF P fn R n .normal F w :=
  ⟨_, fun _ _ => results_none hr _ _ _, hm, h⟩
theorem ret1 {t : Nat} {v : Value} (hr : fn.results = #[.tmp t]) (hv : get F t = some v) (h : R v w) (hm : marks F = [] := by rfl) : retF P fn R n .ret F w :=
  ⟨v, fun a ha => by rw [results_tmp hr]; simp [ha.get t v hv], hm, h⟩
theorem ret2 {t u : Nat} {v x : Value} (hr : fn.results = #[.tmp t, .tmp u]) (hv : get F t = some v) (hx : get F u = some x) (h : R (.tuple #[v, x]) w) (hm : marks F = [] := by rfl) : retF P fn R n .ret F w :=
  ⟨_, fun a ha => by rw [results_tmp2 hr]; simp [ha.get t v hv, ha.get u x hx], hm, h⟩
theorem ret3 {t u s : Nat} {v x y : Value} (hr : fn.results = #[.tmp t, .tmp u, .tmp s]) (hv : get F t = some v) (hx : get F u = some x) (hy : get F s = some y) (h : R (.tuple #[v, x, y]) w) (hm : marks F = [] := by rfl) : retF P fn R n .ret F w :=
  ⟨.tuple #[v, x, y], fun a ha => by simp [results, hr, ha.get t v hv, ha.get u x hx, ha.get s y hy], hm, h⟩
end
end Go.Wk
