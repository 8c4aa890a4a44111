/-
  The walk's own layer: a frame is a list of slots and values, a statement of a walk speaks of that list. Nothing of a program is in here.
  Memory, told in whole blocks; how a world may turn; what single operations do, each as one lemma.
  More of what single operations do: texts, pointers, addresses, loads, stores, new memory, calls.
  Regions that draw their order: one walk in the text's order serves every order, if what looks at memory finds the same in every world of a class, and what turns memory stands in one chain.
  Regions that draw, told of frames.
-/
import Derived.WalkKit
import Derived.Orders
import Derived.KernelRfl
set_option linter.all false
namespace Go.Wk

/-- A frame: what is known of the slots; the newest first. -/
abbrev Fr := List (Nat × Value)

/-- Slots from here on are no slots: they tell what a range over a function has left to be carried out behind. -/
def get : Fr → Nat → Option Value
  | [], _ => none
  | (j, v) :: F, i => bif Nat.beq i j then (bif Nat.ble 1000000 j then none else some v) else get F i

theorem beq_ne {i d : Nat} (h : i ≠ d) : Nat.beq i d = false := by
  cases hb : Nat.beq i d with
  | false => rfl
  | true => exact absurd (Nat.eq_of_beq_eq_true hb) h
theorem ble_not {n d : Nat} (hd : d < n) (hn : n ≤ 1000000) : Nat.ble 1000000 d = false := by
  cases hb : Nat.ble 1000000 d with
  | false => rfl
  | true => have := Nat.le_of_ble_eq_true hb; omega
theorem get_cons_self (F : Fr) (d : Nat) (v : Value) (hd : Nat.ble 1000000 d = false) : get ((d, v) :: F) d = some v := by
  simp [get, hd]
theorem get_cons_ne (F : Fr) (d i : Nat) (v : Value) (h : i ≠ d) : get ((d, v) :: F) i = get F i := by
  simp [get, beq_ne h]

/-- The entries that are no slots. -/
def markF : Fr → Fr
  | [] => []
  | (j, v) :: F => bif Nat.ble 1000000 j then (j, v) :: markF F else markF F
def markN : Value → Nat
  | .int _ k => k.toNat
  | _ => 0
def mkD (b : Nat) : Deferred := { target := .collected b, args := #[] }
/-- What an entry that is no slot stands for: a range's block, or a deferred call. -/
def dOf : Nat × Value → Deferred
  | (_, .func f first cap) => { target := .fn f cap, args := first }
  | (_, v) => mkD (markN v)
def marks (F : Fr) : List Deferred := (markF F).map dOf
theorem get_markF : ∀ (F : Fr) (i : Nat), get (markF F) i = none
  | [], _ => rfl
  | (j, v) :: F, i => by
    simp only [markF]
    cases hj : Nat.ble 1000000 j with
    | false => exact get_markF F i
    | true =>
      simp only [cond_true, get, hj]
      rw [get_markF F i]
      cases Nat.beq i j <;> rfl
theorem markF_markF : ∀ F : Fr, markF (markF F) = markF F
  | [] => rfl
  | (j, v) :: F => by
    simp only [markF]
    cases hj : Nat.ble 1000000 j with
    | false => exact markF_markF F
    | true => simp only [cond_true, markF, hj, markF_markF F]

structure Rep (n : Nat) (F : Fr) (a : Act) : Prop where
  lt : n ≤ 1000000
  size : a.tmps.size = n
  defers : a.defers = marks F
  get : ∀ i v, get F i = some v → a.tmps[i]? = some v

theorem marks_put {F : Fr} {d : Nat} {v : Value} (hd : Nat.ble 1000000 d = false) : marks ((d, v) :: F) = marks F := by simp [marks, markF, hd]

theorem Rep.put {n : Nat} {F : Fr} {a : Act} (h : Rep n F a) {d : Nat} (hd : Nat.blt d n = true) (v : Value) : Rep n ((d, v) :: F) (a.put (some d) v) := by
  have hd' : d < n := Nat.lt_of_succ_le (Nat.le_of_ble_eq_true hd)
  have hb := ble_not hd' h.lt
  refine ⟨h.lt, by simp [Act.put, h.size], by rw [marks_put hb]; simp [Act.put, h.defers], fun i u hi => ?_⟩
  by_cases e : i = d
  · subst e
    rw [get_cons_self _ _ _ hb] at hi
    simp [Act.put, h.size, hd'] at *
    exact hi
  · rw [get_cons_ne _ _ _ _ e] at hi
    simp only [Act.put]
    rw [Array.getElem?_setIfInBounds_ne (fun x => e x.symm)]
    exact h.get i u hi

theorem Rep.putNone {n : Nat} {F : Fr} {a : Act} (h : Rep n F a) (v : Value) : Rep n F (a.put none v) := h

/-- What is kept of a frame: these slots, and what is no slot. -/
def prune (keep : List Nat) (F : Fr) : Fr :=
  match keep with
  | [] => markF F
  | i :: r => match get F i with
    | some v => (i, v) :: prune r F
    | none => prune r F

theorem get_small : ∀ (F : Fr) (i : Nat) (v : Value), get F i = some v → Nat.ble 1000000 i = false
  | [], i, v, h => by simp [get] at h
  | (j, u) :: F, i, v, h => by
    simp only [get] at h
    by_cases e : i = j
    · subst e
      cases hb : Nat.ble 1000000 i with
      | false => rfl
      | true => simp [hb] at h
    · rw [beq_ne e] at h
      exact get_small F i v h

theorem get_prune (F : Fr) : ∀ (keep : List Nat) (i : Nat) (v : Value), get (prune keep F) i = some v → get F i = some v
  | [], i, v, h => by rw [prune, get_markF] at h; cases h
  | k :: r, i, v, h => by
    simp only [prune] at h
    cases hk : get F k with
    | none => rw [hk] at h; exact get_prune F r i v h
    | some u =>
      rw [hk] at h
      by_cases e : i = k
      · subst e; rw [get_cons_self _ _ _ (get_small F i u hk)] at h; rw [hk]; exact h
      · rw [get_cons_ne _ _ _ _ e] at h; exact get_prune F r i v h

theorem marks_prune (F : Fr) : ∀ keep : List Nat, marks (prune keep F) = marks F
  | [] => by simp only [prune, marks, markF_markF]
  | k :: r => by
    simp only [prune]
    cases hk : get F k with
    | none => exact marks_prune F r
    | some u =>
      show marks ((k, u) :: prune r F) = _
      rw [marks_put (get_small F k u hk)]
      exact marks_prune F r

theorem Rep.prune {n : Nat} {F : Fr} {a : Act} (h : Rep n F a) (keep : List Nat) : Rep n (prune keep F) a :=
  ⟨h.lt, h.size, by rw [marks_prune]; exact h.defers, fun i v hi => h.get i v (get_prune F keep i v hi)⟩

/-- An operand's value in a frame. -/
def ev (F : Fr) : Operand → Option Value
  | .tmp t => get F t
  | .const v => some v
  | .global g => some (.pointer (some ⟨g, 0, none⟩))
  | .func f => some (.func (.func f) #[] #[])

theorem Rep.eval {n : Nat} {F : Fr} {a : Act} (h : Rep n F a) {x : Operand} {v : Value} (hx : ev F x = some v) : a.eval x = v := by
  cases x with
  | tmp t =>
    have := h.get t v hx
    simp [Act.eval, this]
  | const u => simpa [ev, Act.eval] using hx
  | global g => simpa [ev, Act.eval] using hx
  | func f => simpa [ev, Act.eval] using hx

def lift (n : Nat) (Q : Exit → Fr → World → Prop) (e : Exit) (a : Act) (w : World) : Prop := ∃ F, Rep n F a ∧ Q e F w

/-- A piece of code, from a frame and a world. -/
def W (P : Program) (n : Nat) (c : Code) (Q : Exit → Fr → World → Prop) (F : Fr) (w : World) : Prop :=
  ∀ a, Rep n F a → c.wp P (lift n Q) a w

/-- The rest of a region whose order is fixed. -/
def O (P : Program) (n : Nat) (ops : Array Oper) (Q : Exit → Fr → World → Prop) (l : List Oper) (F : Fr) (w : World) : Prop :=
  ∀ a, Rep n F a → wpList P ops (lift n Q) l a w

def thenF (K : Fr → World → Prop) (Q : Exit → Fr → World → Prop) : Exit → Fr → World → Prop
  | .normal, F, w => K F w
  | e, F, w => Q e F w

def blockF (id : Nat) (Q : Exit → Fr → World → Prop) : Exit → Fr → World → Prop
  | .exit id', F, w => if id' = id then Q .normal F w else Q (.exit id') F w
  | e, F, w => Q e F w

section
variable {P : Program} {n : Nat} {Q : Exit → Fr → World → Prop} {F : Fr} {w : World}

theorem W_mono {c : Code} {Q' : Exit → Fr → World → Prop} (h : W P n c Q F w) (hq : ∀ e F w, Q e F w → Q' e F w) : W P n c Q' F w :=
  fun a ha => wp_mono (h a ha) fun e a w ⟨F, hr, hQ⟩ => ⟨F, hr, hq e F w hQ⟩

/-- Of the slots go on with those alone. -/
theorem W_prune (keep : List Nat) {c : Code} {F' : Fr} (hF : prune keep F = F') (h : W P n c Q F' w) : W P n c Q F w :=
  fun a ha => h a (hF ▸ ha.prune keep)

theorem W_skip (h : Q .normal F w) : W P n .skip Q F w := fun _ ha => wp_skip ⟨F, ha, h⟩
theorem W_label {l : Nat} (h : Q .normal F w) : W P n (.label l) Q F w := fun _ ha => wp_label ⟨F, ha, h⟩
theorem W_exit {id : Nat} (h : Q (.exit id) F w) : W P n (.exit id) Q F w := fun _ ha => wp_exit ⟨F, ha, h⟩
theorem W_ret (h : Q .ret F w) : W P n .ret Q F w := fun _ ha => wp_ret ⟨F, ha, h⟩

theorem W_seq {x y : Code} (h : W P n x (thenF (fun F w => W P n y Q F w) Q) F w) : W P n (.seq x y) Q F w := by
  intro a ha
  refine wp_seq (wp_mono (h a ha) ?_)
  rintro e a' w' ⟨F', hr, hq⟩
  cases e with
  | normal => exact hq a' hr
  | _ => exact ⟨F', hr, hq⟩

/-- A sequence whose ways meet behind the first part. -/
theorem W_seq_cut {x y : Code} (M : Fr → World → Prop) (h : W P n x (thenF M Q) F w) (h2 : ∀ F' w', M F' w' → W P n y Q F' w') : W P n (.seq x y) Q F w :=
  W_seq (W_mono h fun e F w hq => by
    cases e with
    | normal => exact h2 F w hq
    | _ => exact hq)

theorem W_cond {c : Operand} {x y : Code} {b : Bool} (hc : ev F c = some (.bool b)) (ht : b = true → W P n x Q F w) (hf : b = false → W P n y Q F w) :
    W P n (.cond c x y) Q F w := by
  intro a ha
  refine wp_cond_split (t := b) (ha.eval hc) (fun e => ht e a ha) (fun e => hf e a ha)

theorem W_cond_true {c : Operand} {x y : Code} (hc : ev F c = some (.bool true)) (h : W P n x Q F w) : W P n (.cond c x y) Q F w :=
  fun a ha => wp_cond_true (ha.eval hc) (h a ha)
theorem W_cond_false {c : Operand} {x y : Code} (hc : ev F c = some (.bool false)) (h : W P n y Q F w) : W P n (.cond c x y) Q F w :=
  fun a ha => wp_cond_false (ha.eval hc) (h a ha)

theorem W_block {id : Nat} {c : Code} (h : W P n c (blockF id Q) F w) : W P n (.block id c) Q F w := by
  intro a ha
  refine wp_block (wp_mono (h a ha) ?_)
  rintro e a' w' ⟨F', hr, hq⟩
  cases e with
  | exit id' =>
    simp only [blockF] at hq
    simp only [Exit.inBlock]
    split
    · rename_i e; rw [if_pos e] at hq; exact ⟨F', hr, hq⟩
    · rename_i e; rw [if_neg e] at hq; exact ⟨F', hr, hq⟩
  | _ => exact ⟨F', hr, hq⟩

theorem blockF_exit (id : Nat) (h : Q .normal F w) : blockF id Q (.exit id) F w := by simp [blockF, h]
theorem blockF_other {id id' : Nat} (hne : Nat.beq id' id = false) (h : Q (.exit id') F w) : blockF id Q (.exit id') F w := by
  have : id' ≠ id := fun e => by subst e; simp at hne
  simp [blockF, this, h]

theorem W_region {id : Nat} {l : List Oper} (h : O P n l.toArray Q l F w) : W P n (.region id l.toArray false) Q F w :=
  fun a ha => wp_region_lit (h a ha)

theorem O_nil {ops : Array Oper} (h : Q .normal F w) : O P n ops Q [] F w := fun _ ha => wpList_nil ⟨F, ha, h⟩

/-- Of the slots go on with those alone, behind a region. -/
theorem O_nil_prune (keep : List Nat) {F' : Fr} {ops : Array Oper} (hF : prune keep F = F') (h : Q .normal F' w) : O P n ops Q [] F w :=
  fun _ ha => wpList_nil ⟨F', hF ▸ ha.prune keep, h⟩

theorem wp_loopI {c : Code} {Q : Exit → Act → World → Prop} {a : Act} {w : World} (I : Nat → Act → World → Prop) {m : Nat} (h0 : I m a w)
    (round : ∀ m a w, I m a w → c.wp P (Exit.then (fun a' w' => ∃ m', m' < m ∧ I m' a' w') Q) a w) : (Code.loop c).wp P Q a w := by
  intro b k cs
  have key : ∀ m a w, I m a w →
      ∃ e a' w', Q e a' w' ∧ Arrives P (lone (b.at a (.code c :: .inLoop c :: k)) cs w) b k cs e a' w' := by
    intro m
    induction m using Nat.strongRecOn with
    | _ m ih =>
      intro a w hI
      obtain ⟨e, a1, w1, hq, harr⟩ := round m a w hI b (.inLoop c :: k) cs
      cases e with
      | normal =>
        obtain ⟨m', hlt, hI1⟩ := hq
        obtain ⟨e2, a2, w2, hq2, harr2⟩ := ih m' hlt a1 w1 hI1
        exact ⟨e2, a2, w2, hq2, .of_steps (Steps.trans harr (.one step_inLoop)) harr2⟩
      | exit id => exact ⟨_, a1, w1, hq, .pass (x := .inLoop c) rfl (fun _ _ => .inl (by simp)) harr⟩
      | goto l => exact ⟨_, a1, w1, hq, .pass (x := .inLoop c) rfl (fun _ _ => .inl (by simp)) harr⟩
      | ret => exact ⟨_, a1, w1, hq, .pass (x := .inLoop c) rfl (fun _ _ => .inl (by simp)) harr⟩
      | panic ch => exact ⟨_, a1, w1, hq, .pass (x := .inLoop c) rfl (fun _ _ => .inl (by simp)) harr⟩
      | outgrown => exact ⟨_, a1, w1, hq, .pass (x := .inLoop c) rfl (fun _ _ => .inl (by simp)) harr⟩
  obtain ⟨e, a', w', hq, harr⟩ := key m a w h0
  exact ⟨e, a', w', hq, .of_steps (.one step_loop) harr⟩

/-- A loop: 'keep': the slots that are known at each round's head; 'I m F w': what holds there, m a measure that each round lowers. -/
theorem W_loop (keep : List Nat) (I : Nat → Fr → World → Prop) {m : Nat} {c : Code} (h0 : I m (prune keep F) w)
    (round : ∀ m F w, I m F w → W P n c (thenF (fun F' w' => ∃ m', m' < m ∧ I m' (prune keep F') w') Q) F w) : W P n (.loop c) Q F w := by
  intro a ha
  refine wp_loopI (fun m a w => ∃ F, Rep n F a ∧ I m F w) ⟨prune keep F, ha.prune keep, h0⟩ ?_
  rintro m a w ⟨F1, hr, hI⟩
  refine wp_mono (round m F1 w hI a hr) ?_
  rintro e a' w' ⟨F', hr', hq⟩
  cases e with
  | normal =>
    obtain ⟨m', hlt, hI'⟩ := hq
    exact ⟨m', hlt, prune keep F', hr'.prune keep, hI'⟩
  | _ => exact ⟨F', hr', hq⟩
end

/-! ### What one operation does -/
/-- In whatever frame of that make: it yields the value, and that world. -/
def Vl (P : Program) (n : Nat) (F : Fr) (o : Oper) (w : World) (v : Value) (w' : World) : Prop :=
  ∀ a, Rep n F a → (execOp a.eval o).run P w = .ok (.value v) w'
/-- It yields nothing, and that world. -/
def Sk (P : Program) (n : Nat) (F : Fr) (o : Oper) (w w' : World) : Prop :=
  ∀ a, Rep n F a → (execOp a.eval o).run P w = .ok .skip w'
/-- A step: whatever stands behind. -/
def St (P : Program) (n : Nat) (F : Fr) (o : Oper) (w : World) (K : Fr → World → Prop) : Prop :=
  ∀ a, Rep n F a → o.wp P a w (fun a' w' => ∃ F', Rep n F' a' ∧ a'.defers = a.defers ∧ K F' w') (fun _ _ _ => False)

section
variable {P : Program} {n : Nat} {Q : Exit → Fr → World → Prop} {F : Fr} {w w' : World} {o : Oper} {K : Fr → World → Prop}

theorem St.mono {K' : Fr → World → Prop} (h : St P n F o w K) (hk : ∀ F w, K F w → K' F w) : St P n F o w K' :=
  fun a ha => Oper.wp_mono (fun _ _ ⟨F', hr, hd, hK⟩ => ⟨F', hr, hd, hk _ _ hK⟩) (h a ha)

theorem St.vl {d : Nat} {v : Value} (hv : Vl P n F o w v w') (hd : o.dst = some d) (hn : Nat.blt d n = true) (h : K ((d, v) :: F) w') : St P n F o w K := by
  intro a ha
  unfold Oper.wp
  rw [hv a ha, Oper.upon_value P o a _ _ w' v, hd]
  exact ⟨_, ha.put hn v, rfl, h⟩
theorem St.vlNone {v : Value} (hv : Vl P n F o w v w') (hd : o.dst = none) (h : K F w') : St P n F o w K := by
  intro a ha
  unfold Oper.wp
  rw [hv a ha, Oper.upon_value P o a _ _ w' v, hd]
  exact ⟨_, ha, rfl, h⟩
theorem St.sk (hv : Sk P n F o w w') (hd : o.dst = none) (h : K F w') : St P n F o w K := by
  intro a ha
  unfold Oper.wp
  rw [hv a ha, Oper.upon_skip P o a _ _ w', hd]
  exact ⟨_, ha, rfl, h⟩

/-- A call that comes back. -/
def Ret (P : Program) (f : FuncId) (args : Array Value) (w : World) (R : Value → World → Prop) : Prop :=
  Calls P f args w fun e w' => ∃ v, e = .returned v ∧ R v w'

theorem Ret.mono {f : FuncId} {args : Array Value} {R R' : Value → World → Prop} (h : Ret P f args w R) (hr : ∀ v w', R v w' → R' v w') : Ret P f args w R' :=
  Calls.mono h fun _ _ ⟨v, he, hR⟩ => ⟨v, he, hr _ _ hR⟩

theorem St.enter {d : Nat} {f : FuncId} {args : Array Value} {R : Value → World → Prop}
    (hrun : ∀ a, Rep n F a → (execOp a.eval o).run P w = .ok (.enter f args) w) (hd : o.dst = some d) (hn : Nat.blt d n = true)
    (hc : Ret P f args w R) (h : ∀ v w', R v w' → K ((d, v) :: F) w') : St P n F o w K := by
  intro a ha
  unfold Oper.wp
  rw [hrun a ha, Oper.upon_enter P o a _ _ w f args]
  refine Calls.mono hc ?_
  rintro e w1 ⟨v, rfl, hR⟩
  rw [hd]
  exact ⟨_, ha.put hn v, rfl, h v w1 hR⟩

theorem O_st {ops : Array Oper} {rest : List Oper} (hg : o.guard = none) (h : St P n F o w (fun F' w' => O P n ops Q rest F' w')) : O P n ops Q (o :: rest) F w := by
  intro a ha
  refine wpList_plain hg fun K' hK => ?_
  have h1 := h a ha
  unfold Oper.wp at *
  generalize (execOp a.eval o).run P w = r at *
  cases r with
  | ok x w1 =>
    cases x <;> simp only [Oper.upon] at h1 ⊢
    case enter f args =>
      refine Calls.mono h1 ?_
      intro e w2 he
      cases e with
      | returned v => obtain ⟨F', hr, _, hO⟩ := he; exact hK _ _ (hO _ hr)
      | panicked c => exact he.elim
      | outgrown => obtain ⟨_, _, hx⟩ := he; exact hx.elim
    case row row args =>
      refine Rows.mono h1 ?_
      rintro v w2 ⟨F', hr, _, hO⟩
      exact hK _ _ (hO _ hr)
    all_goals first
      | (obtain ⟨F', hr, _, hO⟩ := h1; exact hK _ _ (hO _ hr))
      | exact h1.elim
  | halt x w1 =>
    cases x <;> simp only [Oper.upon] at h1

/-- A guarded operation that is carried out. -/
theorem O_guard_yes {ops : Array Oper} {rest : List Oper} {j t : Nat} {b : Bool} (hg : o.guard = some (j, b)) (ht : (ops[j]?).bind (·.dst) = some t) (hv : get F t = some (.bool b))
    (h : St P n F o w (fun F' w' => O P n ops Q rest F' w')) : O P n ops Q (o :: rest) F w := by
  intro a ha
  have hw : Region.wanted o (yielded ops a.tmps) = true := by
    simp [Region.wanted, hg, yielded, ht, ha.get t _ hv]
  refine wpList_step fun K' hK => ?_
  rw [if_pos hw]
  have h0 : O P n ops Q ({ o with guard := none } :: rest) F w := O_st rfl (o := { o with guard := none }) h
  have h1 := h a ha
  unfold Oper.wp at *
  generalize (execOp a.eval o).run P w = r at *
  cases r with
  | ok x w1 =>
    cases x <;> simp only [Oper.upon] at h1 ⊢
    case enter f args =>
      refine Calls.mono h1 ?_
      intro e w2 he
      cases e with
      | returned v => obtain ⟨F', hr, _, hO⟩ := he; exact hK _ _ (hO _ hr)
      | panicked c => exact he.elim
      | outgrown => obtain ⟨_, _, hx⟩ := he; exact hx.elim
    case row row args =>
      refine Rows.mono h1 ?_
      rintro v w2 ⟨F', hr, _, hO⟩
      exact hK _ _ (hO _ hr)
    all_goals first
      | (obtain ⟨F', hr, _, hO⟩ := h1; exact hK _ _ (hO _ hr))
      | exact h1.elim
  | halt x w1 =>
    cases x <;> simp only [Oper.upon] at h1

/-- A guarded operation that is passed by. -/
theorem O_guard_no {ops : Array Oper} {rest : List Oper} {j t d : Nat} {b b' : Bool} (hg : o.guard = some (j, b)) (hd : o.dst = some d) (hn : Nat.blt d n = true) (ht : (ops[j]?).bind (·.dst) = some t) (hv : get F t = some (.bool b'))
    (hne : b' = !b) (h : O P n ops Q rest ((d, undef) :: F) w) : O P n ops Q (o :: rest) F w := by
  intro a ha
  have hw : Region.wanted o (yielded ops a.tmps) = false := by
    subst hne
    simp [Region.wanted, hg, yielded, ht, ha.get t _ hv]
  refine wpList_step fun K' hK => ?_
  rw [if_neg (by simp [hw]), hd]
  exact hK _ _ (h _ (ha.put hn undef))
end

/-! ### A function -/
def frameOf : Nat → List Value → Fr
  | _, [] => []
  | i, v :: r => (i, v) :: frameOf (i + 1) r

theorem get_frameOf : ∀ (l : List Value) (i j : Nat) (v : Value), get (frameOf i l) j = some v → i ≤ j ∧ l[j - i]? = some v
  | [], i, j, v, h => by simp [frameOf, get] at h
  | u :: r, i, j, v, h => by
    simp only [frameOf] at h
    by_cases e : j = i
    · subst e; rw [get_cons_self _ _ _ (get_small _ _ _ h)] at h; simpa using h
    · rw [get_cons_ne _ _ _ _ e] at h
      obtain ⟨h1, h2⟩ := get_frameOf r (i + 1) j v h
      refine ⟨by omega, ?_⟩
      rw [show j - i = (j - (i + 1)) + 1 by omega]
      simpa using h2

/-- What a function hands back. -/
def resF (F : Fr) : ResultVar → World → Value → Prop
  | .tmp t, _, v => get F t = some v
  | .cell _ _, _, _ => False

def retF (P : Program) (fn : Func) (R : Value → World → Prop) (n : Nat) : Exit → Fr → World → Prop
  | .normal, F, w | .ret, F, w => ∃ v, (∀ a, Rep n F a → (results fn a.tmps).run P w = .ok v w) ∧ marks F = [] ∧ R v w
  | _, _, _ => False

theorem marks_frameOf : ∀ (l : List Value) (i : Nat), i + l.length ≤ 1000000 → marks (frameOf i l) = []
  | [], i, _ => rfl
  | v :: r, i, h => by
    simp only [List.length_cons] at h
    simp only [frameOf]
    rw [marks_put (ble_not (n := i + 1) (by omega) (by omega))]
    exact marks_frameOf r (i + 1) (by omega)

theorem Rep.frameOf {args : List Value} {n : Nat} (hl : Nat.ble args.length n = true) (hk : n ≤ 1000000) : Rep n (frameOf 0 args) { tmps := args.toArray ++ Array.replicate (n - args.toArray.size) undef, defers := [] } := by
  have hl' : args.length ≤ n := by simpa using hl
  refine ⟨hk, by simp; omega, (marks_frameOf args 0 (by omega)).symm, fun i v hi => ?_⟩
  obtain ⟨_, h2⟩ := get_frameOf args 0 i v hi
  have hlt : i < args.length := by
    rcases Nat.lt_or_ge i args.length with h' | h'
    · exact h'
    · simp [List.getElem?_eq_none h'] at h2
  simp only [Nat.sub_zero] at h2
  simp [Array.getElem?_append, hlt] at h2 ⊢
  exact h2

theorem Ret.of_W {P : Program} {f : FuncId} {fn : Func} {c : Code} {args : List Value} {w : World} {R : Value → World → Prop} {n : Nat} {F : Fr}
    (hf : P.funcs[f]? = some fn) (hb : fn.body = some c) (hn : fn.ntmps = n) (hl : Nat.ble args.length n = true) (hF : frameOf 0 args = F)
    (h : W P n c (retF P fn R n) F w) (hk : Nat.ble n 1000000 = true := by rfl) : Ret P f args.toArray w R := by
  subst hF hn
  refine calls_of_wp hf hb ?_
  refine wp_mono (h _ (Rep.frameOf hl (Nat.le_of_ble_eq_true hk))) ?_
  rintro e a w' ⟨F', hr', hq⟩
  cases e <;> simp only [retF] at hq
  case normal => obtain ⟨v, hv, hm, hR⟩ := hq; exact ⟨hr'.defers.trans hm, v, hv _ hr', v, rfl, hR⟩
  case ret => obtain ⟨v, hv, hm, hR⟩ := hq; exact ⟨hr'.defers.trans hm, v, hv _ hr', v, rfl, hR⟩

section
variable {P : Program} {fn : Func} {R : Value → World → Prop} {n : Nat} {F : Fr} {w : World}
theorem ret0 (hr : fn.results = #[]) (h : R (.tuple #[]) w) (hm : marks F = [] := by rfl) : retF P fn R n .ret F w :=
  ⟨_, fun _ _ => results_none hr _ _ _, hm, h⟩
theorem end0 (hr : fn.results = #[]) (h : R (.tuple #[]) w) (hm : marks F = [] := by rfl) : retF P fn R n .normal F w :=
  ⟨_, fun _ _ => results_none hr _ _ _, hm, h⟩
theorem ret1 {t : Nat} {v : Value} (hr : fn.results = #[.tmp t]) (hv : get F t = some v) (h : R v w) (hm : marks F = [] := by rfl) : retF P fn R n .ret F w :=
  ⟨v, fun a ha => by rw [results_tmp hr]; simp [ha.get t v hv], hm, h⟩
theorem ret2 {t u : Nat} {v x : Value} (hr : fn.results = #[.tmp t, .tmp u]) (hv : get F t = some v) (hx : get F u = some x) (h : R (.tuple #[v, x]) w) (hm : marks F = [] := by rfl) : retF P fn R n .ret F w :=
  ⟨_, fun a ha => by rw [results_tmp2 hr]; simp [ha.get t v hv, ha.get u x hx], hm, h⟩
theorem ret3 {t u s : Nat} {v x y : Value} (hr : fn.results = #[.tmp t, .tmp u, .tmp s]) (hv : get F t = some v) (hx : get F u = some x) (hy : get F s = some y) (h : R (.tuple #[v, x, y]) w) (hm : marks F = [] := by rfl) : retF P fn R n .ret F w :=
  ⟨.tuple #[v, x, y], fun a ha => by simp [results, hr, ha.get t v hv, ha.get u x hx, ha.get s y hy], hm, h⟩
end
end Go.Wk

namespace Go.Wk

/-! ### Blocks, and how the world turns -/
/-- Block b holds just these cells, of that type, none frozen. -/
def Blk (w : World) (b : Nat) (e : TypeId) (c : List Value) : Prop := w.heap[b]? = some (.cells c.toArray e (0, 0))

/-- New blocks, and other contents in blocks of S alone. -/
structure Chg (S : List Nat) (w w' : World) : Prop where
  os : w'.os = w.os
  tape : w'.tape = w.tape
  output : w'.output = w.output
  size : w.heap.size ≤ w'.heap.size
  block : ∀ k, k < w.heap.size → k ∉ S → w'.heap[k]? = w.heap[k]?

theorem Chg.refl (S : List Nat) (w : World) : Chg S w w := ⟨rfl, rfl, rfl, Nat.le_refl _, fun _ _ _ => rfl⟩
/-- Two turns: what the second may turn, the first may turn too, or it is new. -/
theorem Chg.trans' {S S2 : List Nat} {w w1 w2 : World} (h : Chg S w w1) (h2 : Chg S2 w1 w2) (hs : ∀ k ∈ S2, k ∈ S ∨ w.heap.size ≤ k) : Chg S w w2 :=
  ⟨h2.os.trans h.os, h2.tape.trans h.tape, h2.output.trans h.output, Nat.le_trans h.size h2.size, fun k hk hn =>
    (h2.block k (Nat.lt_of_lt_of_le hk h.size) (fun hm => (hs k hm).elim hn (fun e => by omega))).trans (h.block k hk hn)⟩
theorem Chg.trans {S : List Nat} {w w1 w2 : World} (h : Chg S w w1) (h2 : Chg [] w1 w2) : Chg S w w2 := h.trans' h2 (fun _ hk => by cases hk)
theorem Chg.transS {S : List Nat} {w w1 w2 : World} (h : Chg S w w1) (h2 : Chg S w1 w2) : Chg S w w2 := h.trans' h2 (fun _ hk => .inl hk)
theorem Chg.weak {S S2 : List Nat} {w w1 : World} (h : Chg S w w1) (hs : ∀ k ∈ S, k ∈ S2) : Chg S2 w w1 :=
  ⟨h.os, h.tape, h.output, h.size, fun k hk hn => h.block k hk (fun e => hn (hs k e))⟩
theorem Chg.any {S : List Nat} {w w1 : World} (h : Chg [] w w1) : Chg S w w1 := h.weak (fun _ hk => by cases hk)
/-- A turn of new blocks alone. -/
theorem Chg.own {S : List Nat} {w w1 w2 : World} (h : Chg [] w w1) (h2 : Chg S w1 w2) (hs : ∀ k ∈ S, w.heap.size ≤ k) : Chg [] w w2 := h.trans' h2 (fun k hk => .inr (hs k hk))
theorem Chg.drew (S : List Nat) (w : World) : Chg S w w.drew := ⟨rfl, rfl, rfl, Nat.le_refl _, fun _ _ _ => rfl⟩
theorem Chg.alloc (S : List Nat) (w : World) (o : Obj) : Chg S w (w.alloc o) :=
  ⟨rfl, rfl, rfl, by simp, fun k hk _ => Go.RowKit.Below.heap_alloc w o k hk⟩
theorem Chg.grownBy {w w' : World} {row : Option Nat} {S : List Nat} (h : w.grownBy w' row) (hS : ∀ k, row = some k → k ∈ S) : Chg S w w' :=
  ⟨h.os, h.tape, h.output, h.size, fun k hk hn => h.block k hk (fun e => hn (hS k e.symm))⟩
theorem Chg.below {w w' : World} (h : Chg [] w w') : Go.RowKit.Below w.heap.size w w' :=
  ⟨h.os, h.tape, h.output, h.size, fun k hk => h.block k hk (by simp)⟩

theorem Blk.lt {w : World} {b : Nat} {e : TypeId} {c : List Value} (h : Blk w b e c) : b < w.heap.size := (Array.getElem?_eq_some_iff.1 h).1
theorem Blk.chg {S : List Nat} {w w' : World} {b : Nat} {e : TypeId} {c : List Value} (h : Blk w b e c) (hc : Chg S w w') (hs : b ∉ S) : Blk w' b e c :=
  (hc.block b h.lt hs).trans h
theorem Blk.chg0 {w w' : World} {b : Nat} {e : TypeId} {c : List Value} (h : Blk w b e c) (hc : Chg [] w w') : Blk w' b e c := h.chg hc (by simp)
theorem Blk.inj {w : World} {b : Nat} {e e' : TypeId} {c c' : List Value} (h : Blk w b e c) (h' : Blk w b e' c') : e = e' ∧ c = c' := by
  have := h.symm.trans h'
  simp only [Option.some.injEq, Obj.cells.injEq] at this
  exact ⟨this.2.1, by simpa using congrArg Array.toList this.1⟩
theorem Blk.ne {w : World} {b b' : Nat} {e e' : TypeId} {c c' : List Value} (h : Blk w b e c) (h' : Blk w b' e' c') (hne : Nat.beq e e' = false) : b ≠ b' := by
  rintro rfl
  obtain ⟨rfl, _⟩ := h.inj h'
  simp at hne
theorem Blk.cell {w : World} {b : Nat} {e : TypeId} {c : List Value} (h : Blk w b e c) (i : Nat) : w.cell? ⟨b, i, none⟩ = c[i]? := by
  simp [World.cell?, (show w.heap[b]? = _ from h)]
theorem Blk.cell' {w : World} {b : Nat} {e : TypeId} {c : List Value} {v : Value} {i : Nat} (h : Blk w b e c) (hi : c[i]? = some v) : w.cell? ⟨b, i, none⟩ = some v := by
  rw [h.cell, hi]
theorem Blk.free {w : World} {b : Nat} {e : TypeId} {c : List Value} (h : Blk w b e c) (a : Addr) (ha : a.block = b) : w.frozen? a = false := by
  subst ha
  simp [World.frozen?, (show w.heap[a.block]? = _ from h)]
theorem Blk.new (w : World) (e : TypeId) (c : List Value) : Blk (w.alloc (.cells c.toArray e)) w.heap.size e c := heap_alloc_new w _
theorem Blk.row {w : World} {b : Nat} {e : TypeId} {c : List Value} (h : Blk w b e c) (c' : List Value) : Blk (w.setRow b c'.toArray) b e c' :=
  setRow_heap w b _ _ _ _ h
theorem Chg.row (w : World) (b : Nat) (c : Array Value) : Chg [b] w (w.setRow b c) :=
  ⟨rfl, rfl, rfl, by simp [World.setRow], fun k _ hn => setRow_other w b k c (fun e => hn (by simp [e]))⟩

/-- Some cells, wherever they lie. -/
def Cells (w : World) (b off : Nat) (cs : List Value) : Prop := ∀ j u, cs[j]? = some u → w.cell? ⟨b, off + j, none⟩ = some u
theorem Cells.of_blk {w : World} {b : Nat} {e : TypeId} {c : List Value} (h : Blk w b e c) (off : Nat) (cs : List Value) (hs : cs <+: c.drop off) : Cells w b off cs := by
  intro j u hj
  rw [h.cell]
  obtain ⟨r, hr⟩ := hs
  have h1 : (c.drop off)[j]? = some u := by
    rw [← hr, List.getElem?_append_left (by rcases Nat.lt_or_ge j cs.length with h' | h'; exact h'; simp [List.getElem?_eq_none h'] at hj)]
    exact hj
  simpa using h1
theorem Cells.of_blk0 {w : World} {b : Nat} {e : TypeId} {c : List Value} (h : Blk w b e c) : Cells w b 0 c := Cells.of_blk h 0 c (by simp)

/-! ### Closed facts of a program's types -/
def szOf (P : Program) (t : TypeId) : Option Nat := (P.info? t).map (·.size)
def zrOf (P : Program) (t : TypeId) : Option Value := (P.info? t).bind (·.zero)
def byOf (P : Program) (t : TypeId) : Option Nat := (P.info? t).map (·.bytes)
def agOf (P : Program) (t : TypeId) : Option Bool := (P.underlying t).map fun d => match d with | .struct _ | .array _ _ => true | _ => false
def slOf (P : Program) (t : TypeId) : Option TypeId := match P.underlying t with | some (.slice e) => some e | _ => none
def arOf (P : Program) (t : TypeId) : Option (Nat × TypeId) := match P.underlying t with | some (.array n e) => some (n, e) | _ => none
def foOf (P : Program) (t : TypeId) (i : Nat) : Option Nat :=
  match P.underlying t with
  | some (.struct fs) => (fs[i]?).bind fun f => match szOf P f.type with | some 0 => none | some _ => some f.offset | none => none
  | _ => none
def bodied (P : Program) (g : FuncId) : Bool :=
  match P.funcs[g]? with
  | some fn => fn.body.isSome && !(fn.name == "runtime.NumGoroutine")
  | none => false

section
variable {P : Program} {t e : TypeId} {k : Nat} {w : World}
theorem run_sizeOf (h : szOf P t = some k) : (sizeOf t).run P w = .ok k w := by
  unfold szOf at h
  cases hi : P.info? t with
  | none => simp [hi] at h
  | some i => simp [hi] at h; simp [sizeOf, typeInfo, hi, h]
theorem run_zero {z : Value} (h : zrOf P t = some z) : (zeroValue t).run P w = .ok z w := by
  unfold zrOf at h
  cases hi : P.info? t with
  | none => simp [hi] at h
  | some i => simp [hi] at h; simp [zeroValue, typeInfo, hi, h]
theorem run_isAgg {b : Bool} (h : agOf P t = some b) : (isAgg t).run P w = .ok b w := by
  unfold agOf at h
  cases hu : P.underlying t with
  | none => simp [hu] at h
  | some d =>
    simp [hu] at h
    subst h
    cases d <;> simp [isAgg, run_underlying hu]
theorem slOf_und (h : slOf P t = some e) : P.underlying t = some (.slice e) := by
  unfold slOf at h
  split at h
  · rename_i e' he; simp at h; subst h; exact he
  · simp at h
theorem arOf_und {m : Nat} (h : arOf P t = some (m, e)) : P.underlying t = some (.array m e) := by
  unfold arOf at h
  split at h
  · rename_i m' e' he; simp at h; obtain ⟨rfl, rfl⟩ := h; exact he
  · simp at h
end

def evs (F : Fr) : List Operand → Option (List Value)
  | [] => some []
  | x :: r => match ev F x with
    | none => none
    | some v => match evs F r with
      | none => none
      | some vs => some (v :: vs)

theorem Rep.evals {n : Nat} {F : Fr} {a : Act} (h : Rep n F a) : ∀ (l : List Operand) (vs : List Value), evs F l = some vs → l.map a.eval = vs
  | [], vs, hl => by simpa [evs] using hl
  | x :: r, vs, hl => by
    simp only [evs] at hl
    cases hx : ev F x with
    | none => simp [hx] at hl
    | some v =>
      rw [hx] at hl
      cases hr : evs F r with
      | none => simp [hr] at hl
      | some us =>
        rw [hr] at hl
        simp only [Option.some.injEq] at hl
        subst hl
        simp [h.eval hx, h.evals r us hr]

def evs2 (F : Fr) : List (Nat × Operand) → Option (List (Nat × Value))
  | [] => some []
  | (i, x) :: r => match ev F x with
    | none => none
    | some v => match evs2 F r with
      | none => none
      | some vs => some ((i, v) :: vs)

theorem Rep.evals2 {n : Nat} {F : Fr} {a : Act} (h : Rep n F a) : ∀ (l : List (Nat × Operand)) (vs : List (Nat × Value)), evs2 F l = some vs → l.map (fun p => (p.1, a.eval p.2)) = vs
  | [], vs, hl => by simpa [evs2] using hl
  | (i, x) :: r, vs, hl => by
    simp only [evs2] at hl
    cases hx : ev F x with
    | none => simp [hx] at hl
    | some v =>
      rw [hx] at hl
      cases hr : evs2 F r with
      | none => simp [hr] at hl
      | some us =>
        rw [hr] at hl
        simp only [Option.some.injEq] at hl
        subst hl
        simp [h.eval hx, h.evals2 r us hr]

/-! ### Operations that look at no memory -/
section
variable {P : Program} {n : Nat} {F : Fr} {w : World} {dst : Option Tmp} {ty : TypeId} {pos : String} {af : Array Edge} {gd : Option (Nat × Bool)}

theorem vl_move {x : Operand} {v : Value} (hx : ev F x = some v) : Vl P n F ⟨dst, .move x, ty, pos, af, gd⟩ w v w :=
  fun a ha => by simp [execOp, ha.eval hx]
theorem vl_assign {x : Operand} {v : Value} (hx : ev F x = some v) : Vl P n F ⟨dst, .assign x, ty, pos, af, gd⟩ w v w :=
  fun a ha => by simp [execOp, ha.eval hx]
theorem vl_pick_t {c x y : Operand} {v : Value} (hc : ev F c = some (.bool true)) (hx : ev F x = some v) : Vl P n F ⟨dst, .pick c x y, ty, pos, af, gd⟩ w v w :=
  fun a ha => by simp [execOp, ha.eval hc, ha.eval hx, asBool]
theorem vl_pick_f {c x y : Operand} {v : Value} (hc : ev F c = some (.bool false)) (hy : ev F y = some v) : Vl P n F ⟨dst, .pick c x y, ty, pos, af, gd⟩ w v w :=
  fun a ha => by simp [execOp, ha.eval hc, ha.eval hy, asBool]
theorem vl_not {x : Operand} {t : TypeId} {b : Bool} (hx : ev F x = some (.bool b)) : Vl P n F ⟨dst, .unOp .not t x, ty, pos, af, gd⟩ w (.bool (!b)) w :=
  fun a ha => by simp [execOp, ha.eval hx, Op.unary]

theorem vl_lss {x y : Operand} {t u : TypeId} {k : IntKind} {i j : Int} (hx : ev F x = some (.int k i)) (hy : ev F y = some (.int k j)) : Vl P n F ⟨dst, .binOp .lss t x y u, ty, pos, af, gd⟩ w (.bool (decide (i < j))) w :=
  fun a ha => by simp [execOp, ha.eval hx, ha.eval hy, eqGuard, binOp, Op.intCmp]
theorem vl_leq {x y : Operand} {t u : TypeId} {k : IntKind} {i j : Int} (hx : ev F x = some (.int k i)) (hy : ev F y = some (.int k j)) : Vl P n F ⟨dst, .binOp .leq t x y u, ty, pos, af, gd⟩ w (.bool (decide (i ≤ j))) w :=
  fun a ha => by simp [execOp, ha.eval hx, ha.eval hy, eqGuard, binOp, Op.intCmp]
theorem vl_gtr {x y : Operand} {t u : TypeId} {k : IntKind} {i j : Int} (hx : ev F x = some (.int k i)) (hy : ev F y = some (.int k j)) : Vl P n F ⟨dst, .binOp .gtr t x y u, ty, pos, af, gd⟩ w (.bool (decide (j < i))) w :=
  fun a ha => by simp [execOp, ha.eval hx, ha.eval hy, eqGuard, binOp, Op.intCmp]
theorem vl_geq {x y : Operand} {t u : TypeId} {k : IntKind} {i j : Int} (hx : ev F x = some (.int k i)) (hy : ev F y = some (.int k j)) : Vl P n F ⟨dst, .binOp .geq t x y u, ty, pos, af, gd⟩ w (.bool (decide (j ≤ i))) w :=
  fun a ha => by simp [execOp, ha.eval hx, ha.eval hy, eqGuard, binOp, Op.intCmp]
theorem vl_ieq {x y : Operand} {t u : TypeId} {k : IntKind} {i j : Int} (hx : ev F x = some (.int k i)) (hy : ev F y = some (.int k j)) : Vl P n F ⟨dst, .binOp .eql t x y u, ty, pos, af, gd⟩ w (.bool (decide (i = j))) w :=
  fun a ha => by simp [execOp, ha.eval hx, ha.eval hy, eqGuard, binOp, Op.intCmp]; rfl
theorem vl_ine {x y : Operand} {t u : TypeId} {k : IntKind} {i j : Int} (hx : ev F x = some (.int k i)) (hy : ev F y = some (.int k j)) : Vl P n F ⟨dst, .binOp .neq t x y u, ty, pos, af, gd⟩ w (.bool (!decide (i = j))) w :=
  fun a ha => by simp [execOp, ha.eval hx, ha.eval hy, eqGuard, binOp, Op.intCmp]; rfl
theorem vl_add {x y : Operand} {t u : TypeId} {i j : Int} (hx : ev F x = some (.int .i64 i)) (hy : ev F y = some (.int .i64 j)) (h : -9223372036854775808 ≤ i + j ∧ i + j ≤ 9223372036854775807) : Vl P n F ⟨dst, .binOp .add t x y u, ty, pos, af, gd⟩ w (.int .i64 (i + j)) w :=
  fun a ha => by simp [execOp, ha.eval hx, ha.eval hy, eqGuard, binOp, Op.intArith, IntWalk.i64_in _ h]
theorem vl_sub {x y : Operand} {t u : TypeId} {i j : Int} (hx : ev F x = some (.int .i64 i)) (hy : ev F y = some (.int .i64 j)) (h : -9223372036854775808 ≤ i - j ∧ i - j ≤ 9223372036854775807) : Vl P n F ⟨dst, .binOp .sub t x y u, ty, pos, af, gd⟩ w (.int .i64 (i - j)) w :=
  fun a ha => by simp [execOp, ha.eval hx, ha.eval hy, eqGuard, binOp, Op.intArith, IntWalk.i64_in _ h]
theorem vl_mul {x y : Operand} {t u : TypeId} {i j : Int} (hx : ev F x = some (.int .i64 i)) (hy : ev F y = some (.int .i64 j)) (h : -9223372036854775808 ≤ i * j ∧ i * j ≤ 9223372036854775807) : Vl P n F ⟨dst, .binOp .mul t x y u, ty, pos, af, gd⟩ w (.int .i64 (i * j)) w :=
  fun a ha => by simp [execOp, ha.eval hx, ha.eval hy, eqGuard, binOp, Op.intArith, IntWalk.i64_in _ h]
theorem vl_quo {x y : Operand} {t u : TypeId} {i j : Int} (hx : ev F x = some (.int .i64 i)) (hy : ev F y = some (.int .i64 j)) (hi : 0 ≤ i ∧ i ≤ 9223372036854775807) (hj : 1 ≤ j) : Vl P n F ⟨dst, .binOp .quo t x y u, ty, pos, af, gd⟩ w (.int .i64 (i / j)) w := by
  intro a ha
  have h0 : j ≠ 0 := by omega
  have h1 : i.tdiv j = i / j := Int.tdiv_eq_ediv_of_nonneg hi.1
  have h2 : 0 ≤ i / j := Int.ediv_nonneg hi.1 (by omega)
  have h3 : i / j ≤ i := Int.ediv_le_self _ hi.1
  simp [execOp, ha.eval hx, ha.eval hy, eqGuard, binOp, Op.intDiv, h0, h1, IntWalk.i64_in (i / j) ⟨by omega, by omega⟩]

/-- '==' on texts, as texts. -/
theorem toList_beq (s u : ByteArray) : (s.toList == u.toList) = decide (s = u) := by
  have h : s.toList = u.toList ↔ s = u := by
    constructor
    · intro h
      have h1 : s.data.toList = u.data.toList := by simpa [ByteArray.toList_eq] using h
      cases s; cases u
      simp only [ByteArray.mk.injEq]
      exact Array.toList_inj.1 h1
    · rintro rfl; rfl
  by_cases e : s = u
  · subst e; simp
  · have : s.toList ≠ u.toList := fun h' => e (h.1 h')
    simp [e, this]
end
end Go.Wk

namespace Go.Wk

def ptOf (P : Program) (t : TypeId) : Bool := match P.underlying t with | some (.pointer _) => true | _ => false
def stOf (P : Program) (t : TypeId) : Bool := match P.underlying t with | some .string => true | _ => false
def itOf (P : Program) (t : TypeId) (k : IntKind) : Bool := match P.underlying t with | some (.int k') => decide (k = k') | _ => false
def boOf (P : Program) (t : TypeId) : Bool := match P.underlying t with | some .bool => true | _ => false

/-- A text is before another one. -/
def blt (s u : ByteArray) : Bool := Op.bytesLess s.toList u.toList

theorem run_equal {P : Program} {t : TypeId} {x y : Value} {w : World} {r : Result Bool} (h : ∀ d, (Op.equalIn (d + 1) t x y).run P w = r) : (Op.equal t x y).run P w = r := h 9999

section
variable {P : Program} {n : Nat} {F : Fr} {w : World} {dst : Option Tmp} {ty : TypeId} {pos : String} {af : Array Edge} {gd : Option (Nat × Bool)}

theorem vl_seq {x y : Operand} {t u : TypeId} {s r : ByteArray} (hx : ev F x = some (.string s)) (hy : ev F y = some (.string r)) : Vl P n F ⟨dst, .binOp .eql t x y u, ty, pos, af, gd⟩ w (.bool (decide (s = r))) w :=
  fun a ha => by simp only [execOp, ha.eval hx, ha.eval hy, eqGuard, binOp, Op.stringOp, toList_beq]; simp
theorem vl_sne {x y : Operand} {t u : TypeId} {s r : ByteArray} (hx : ev F x = some (.string s)) (hy : ev F y = some (.string r)) : Vl P n F ⟨dst, .binOp .neq t x y u, ty, pos, af, gd⟩ w (.bool (!decide (s = r))) w :=
  fun a ha => by simp only [execOp, ha.eval hx, ha.eval hy, eqGuard, binOp, Op.stringOp, toList_beq]; simp
theorem vl_slt {x y : Operand} {t u : TypeId} {s r : ByteArray} (hx : ev F x = some (.string s)) (hy : ev F y = some (.string r)) : Vl P n F ⟨dst, .binOp .lss t x y u, ty, pos, af, gd⟩ w (.bool (blt s r)) w :=
  fun a ha => by simp only [execOp, ha.eval hx, ha.eval hy, eqGuard, binOp, Op.stringOp, blt]; simp
theorem vl_sge {x y : Operand} {t u : TypeId} {s r : ByteArray} (hx : ev F x = some (.string s)) (hy : ev F y = some (.string r)) : Vl P n F ⟨dst, .binOp .geq t x y u, ty, pos, af, gd⟩ w (.bool (!blt s r)) w :=
  fun a ha => by simp only [execOp, ha.eval hx, ha.eval hy, eqGuard, binOp, Op.stringOp, blt]; simp
theorem vl_sle {x y : Operand} {t u : TypeId} {s r : ByteArray} (hx : ev F x = some (.string s)) (hy : ev F y = some (.string r)) : Vl P n F ⟨dst, .binOp .leq t x y u, ty, pos, af, gd⟩ w (.bool (blt s r || decide (s = r))) w :=
  fun a ha => by simp only [execOp, ha.eval hx, ha.eval hy, eqGuard, binOp, Op.stringOp, blt, toList_beq]; simp
theorem vl_sgt {x y : Operand} {t u : TypeId} {s r : ByteArray} (hx : ev F x = some (.string s)) (hy : ev F y = some (.string r)) : Vl P n F ⟨dst, .binOp .gtr t x y u, ty, pos, af, gd⟩ w (.bool (!(blt s r || decide (s = r)))) w :=
  fun a ha => by simp only [execOp, ha.eval hx, ha.eval hy, eqGuard, binOp, Op.stringOp, blt, toList_beq]; simp
theorem vl_cat {x y : Operand} {t u : TypeId} {s r : ByteArray} (hx : ev F x = some (.string s)) (hy : ev F y = some (.string r)) (h : s.size + r.size ≤ 9223372036854775807) : Vl P n F ⟨dst, .binOp .add t x y u, ty, pos, af, gd⟩ w (.string (s ++ r)) w :=
  fun a ha => by
    have h1 : ¬ (((s.size + r.size : Nat) : Int) > IntKind.i64.max) := by rw [IntKind.max_i64]; omega
    simp only [execOp, ha.eval hx, ha.eval hy, eqGuard, binOp, Op.stringOp, if_neg h1]; simp
theorem vl_beq {x y : Operand} {t u : TypeId} {s r : Bool} (hb : boOf P t = true) (hx : ev F x = some (.bool s)) (hy : ev F y = some (.bool r)) : Vl P n F ⟨dst, .binOp .eql t x y u, ty, pos, af, gd⟩ w (.bool (s == r)) w := by
  intro a ha
  have hu : P.underlying t = some .bool := by unfold boOf at hb; split at hb <;> simp_all
  have h1 : (Op.equal t (.bool s) (.bool r)).run P w = .ok (s == r) w := run_equal fun d => by simp [Op.equalIn, run_underlying hu]
  simp [execOp, ha.eval hx, ha.eval hy, eqGuard, binOp, h1]

theorem vl_pnil {x y : Operand} {t u : TypeId} {p : Option Addr} (hb : ptOf P t = true) (hx : ev F x = some (.pointer p)) (hy : ev F y = some (.pointer none)) : Vl P n F ⟨dst, .binOp .eql t x y u, ty, pos, af, gd⟩ w (.bool p.isNone) w := by
  intro a ha
  obtain ⟨e, hu⟩ : ∃ e, P.underlying t = some (.pointer e) := by unfold ptOf at hb; split at hb <;> simp_all
  have h1 : (Op.equal t (.pointer p) (.pointer none)).run P w = .ok p.isNone w := run_equal fun d => by cases p <;> simp [Op.equalIn, run_underlying hu]
  simp [execOp, ha.eval hx, ha.eval hy, eqGuard, binOp, h1]
theorem vl_pnnil {x y : Operand} {t u : TypeId} {p : Option Addr} (hb : ptOf P t = true) (hx : ev F x = some (.pointer p)) (hy : ev F y = some (.pointer none)) : Vl P n F ⟨dst, .binOp .neq t x y u, ty, pos, af, gd⟩ w (.bool (!p.isNone)) w := by
  intro a ha
  obtain ⟨e, hu⟩ : ∃ e, P.underlying t = some (.pointer e) := by unfold ptOf at hb; split at hb <;> simp_all
  have h1 : (Op.equal t (.pointer p) (.pointer none)).run P w = .ok p.isNone w := run_equal fun d => by cases p <;> simp [Op.equalIn, run_underlying hu]
  simp [execOp, ha.eval hx, ha.eval hy, eqGuard, binOp, h1]
theorem vl_snil {x y : Operand} {t u e : TypeId} {p : Option Addr} {l c : Nat} (hb : slOf P t = some e) (hx : ev F x = some (.slice p l c)) (hy : ev F y = some (.slice none 0 0)) : Vl P n F ⟨dst, .binOp .eql t x y u, ty, pos, af, gd⟩ w (.bool p.isNone) w := by
  intro a ha
  have hu := slOf_und hb
  have h1 : (Op.equal t (.slice p l c) (.slice none 0 0)).run P w = .ok p.isNone w := run_equal fun d => by cases p <;> simp [Op.equalIn, run_underlying hu]
  simp [execOp, ha.eval hx, ha.eval hy, eqGuard, binOp, h1]

theorem vl_len {x : Operand} {t e : TypeId} {p : Option Addr} {l c : Nat} (hb : slOf P t = some e) (hx : ev F x = some (.slice p l c)) :
    Vl P n F ⟨dst, .call { callee := .builtin .len, args := #[x], argTypes := #[t] }, ty, pos, af, gd⟩ w (.int .i64 l) w :=
  fun a ha => by simp [execOp, resolve, invoke, builtin, Builtin.len_, ha.eval hx, run_underlying (slOf_und hb), goInt]
theorem vl_cap {x : Operand} {t e : TypeId} {p : Option Addr} {l c : Nat} (hb : slOf P t = some e) (hx : ev F x = some (.slice p l c)) :
    Vl P n F ⟨dst, .call { callee := .builtin .cap, args := #[x], argTypes := #[t] }, ty, pos, af, gd⟩ w (.int .i64 c) w :=
  fun a ha => by simp [execOp, resolve, invoke, builtin, Builtin.cap_, ha.eval hx, run_underlying (slOf_und hb), goInt]
theorem vl_slen {x : Operand} {t : TypeId} {s : ByteArray} (hb : stOf P t = true) (hx : ev F x = some (.string s)) :
    Vl P n F ⟨dst, .call { callee := .builtin .len, args := #[x], argTypes := #[t] }, ty, pos, af, gd⟩ w (.int .i64 s.size) w :=
  fun a ha => by
    have hu : P.underlying t = some .string := by unfold stOf at hb; split at hb <;> simp_all
    simp [execOp, resolve, invoke, builtin, Builtin.len_, ha.eval hx, run_underlying hu, goInt]
theorem vl_max {x y : Operand} {t u : TypeId} {k : IntKind} {i j : Int} (hx : ev F x = some (.int k i)) (hy : ev F y = some (.int k j)) :
    Vl P n F ⟨dst, .call { callee := .builtin .max, args := #[x, y], argTypes := #[t, u] }, ty, pos, af, gd⟩ w (.int k (if j > i then j else i)) w :=
  fun a ha => by simp [execOp, resolve, invoke, builtin, Builtin.max_, Builtin.max2, ha.eval hx, ha.eval hy]
theorem vl_min {x y : Operand} {t u : TypeId} {k : IntKind} {i j : Int} (hx : ev F x = some (.int k i)) (hy : ev F y = some (.int k j)) :
    Vl P n F ⟨dst, .call { callee := .builtin .min, args := #[x, y], argTypes := #[t, u] }, ty, pos, af, gd⟩ w (.int k (if j < i then j else i)) w :=
  fun a ha => by simp [execOp, resolve, invoke, builtin, Builtin.min_, Builtin.min2, ha.eval hx, ha.eval hy]

theorem vl_extract {x : Operand} {i : Nat} {vs : List Value} {v : Value} (hx : ev F x = some (.tuple vs.toArray)) (hv : vs[i]? = some v) : Vl P n F ⟨dst, .extract x i, ty, pos, af, gd⟩ w v w :=
  fun a ha => by simp [execOp, ha.eval hx, Instr.extract, hv]

theorem vl_func {fn : Fn} {as bs : List Operand} {vs us : List Value} (hf : evs F as = some vs) (hc : evs F bs = some us) : Vl P n F ⟨dst, .makeFunc fn as.toArray bs.toArray, ty, pos, af, gd⟩ w (.func fn vs.toArray us.toArray) w :=
  fun a ha => by simp [execOp, Instr.makeFunc, ha.evals as vs hf, ha.evals bs us hc]

theorem vl_nilCheck {x : Operand} {p : Addr} (hx : ev F x = some (.pointer (some p))) : Vl P n F ⟨dst, .nilCheck x, ty, pos, af, gd⟩ w (.pointer (some p)) w :=
  fun a ha => by simp [execOp, ha.eval hx]

theorem vl_fieldAddr {x : Operand} {s : TypeId} {f b off k : Nat} (hf : foOf P s f = some k) (hx : ev F x = some (.pointer (some ⟨b, off, none⟩))) : Vl P n F ⟨dst, .fieldAddr s x f, ty, pos, af, gd⟩ w (.pointer (some ⟨b, off + k, none⟩)) w := by
  intro a ha
  unfold foOf at hf
  split at hf
  · rename_i fs hu
    cases hi : fs[f]? with
    | none => simp [hi] at hf
    | some fd =>
      simp only [hi, Option.bind_some] at hf
      split at hf
      · simp at hf
      · rename_i k' hne hsz
        simp at hf
        subst hf
        have : k' ≠ 0 := fun e => hne (by rw [e])
        simp [execOp, Instr.fieldAt, ha.eval hx, run_underlying hu, hi, Instr.sureAddr, fieldPlace, run_sizeOf hsz, this, Addr.add_lit]
      · simp at hf
  · simp at hf

theorem vl_indexAddr {x ix : Operand} {t e : TypeId} {k b off l c : Nat} {kk : IntKind} {j : Int} (hs : slOf P t = some e) (hk : szOf P e = some k) (hx : ev F x = some (.slice (some ⟨b, off, none⟩) l c)) (hj : ev F ix = some (.int kk j))
    (i : Nat) (hi : j = (i : Int)) (hlt : i < l) : Vl P n F ⟨dst, .indexAddr t x ix, ty, pos, af, gd⟩ w (.pointer (some ⟨b, off + i * k, none⟩)) w := by
  intro a ha
  subst hi
  have h1 : (0 : Int) ≤ (i : Int) ∧ (i : Int) < (l : Int) := by omega
  have h2 : i < l := hlt
  simp [execOp, Instr.indexAt, ha.eval hx, ha.eval hj, asIntOf, run_underlying (slOf_und hs), run_sizeOf hk, h2, Addr.add_lit]
theorem vl_indexAddrA {x ix : Operand} {t e : TypeId} {m k b off : Nat} {kk : IntKind} {j : Int} (hs : arOf P t = some (m, e)) (hk : szOf P e = some k) (hx : ev F x = some (.pointer (some ⟨b, off, none⟩))) (hj : ev F ix = some (.int kk j))
    (i : Nat) (hi : j = (i : Int)) (hlt : i < m) : Vl P n F ⟨dst, .indexAddr t x ix, ty, pos, af, gd⟩ w (.pointer (some ⟨b, off + i * k, none⟩)) w := by
  intro a ha
  subst hi
  have h2 : i < m := hlt
  simp [execOp, Instr.indexAt, ha.eval hx, ha.eval hj, asIntOf, run_underlying (arOf_und hs), run_sizeOf hk, h2, Addr.add_lit, Instr.sureAddr]

/-- What is cut out of a slice. -/
def cut (p : Option Addr) (l h m k : Nat) : Value := .slice (if m = l then p else p.map (·.add (l * k))) (h - l) (m - l)

theorem vl_cut_h {x hi : Operand} {t e : TypeId} {k l c : Nat} {p : Option Addr} {k2 : IntKind} {j : Int} (hs : slOf P t = some e) (hk : szOf P e = some k) (hx : ev F x = some (.slice p l c)) (hh : ev F hi = some (.int k2 j))
    (h : Nat) (hj : j = (h : Int)) (hle : h ≤ c) : Vl P n F ⟨dst, .slice t x none (some hi) none, ty, pos, af, gd⟩ w (cut p 0 h c k) w := by
  intro a ha
  subst hj
  simp [execOp, Instr.sliceAt, Instr.slice, Instr.sliceBounds, Instr.sliceBound, ha.eval hx, ha.eval hh, asIntOf, run_underlying (slOf_und hs), run_sizeOf hk, cut, hle]
theorem vl_cut_l {x lo : Operand} {t e : TypeId} {k l c : Nat} {p : Option Addr} {k1 : IntKind} {i : Int} (hs : slOf P t = some e) (hk : szOf P e = some k) (hx : ev F x = some (.slice p l c)) (hl : ev F lo = some (.int k1 i))
    (g : Nat) (hi : i = (g : Int)) (hle : g ≤ l) : Vl P n F ⟨dst, .slice t x (some lo) none none, ty, pos, af, gd⟩ w (cut p g l c k) w := by
  intro a ha
  subst hi
  simp [execOp, Instr.sliceAt, Instr.slice, Instr.sliceBounds, Instr.sliceBound, ha.eval hx, ha.eval hl, asIntOf, run_underlying (slOf_und hs), run_sizeOf hk, cut, hle]
theorem vl_cut_lh {x lo hi : Operand} {t e : TypeId} {k l c : Nat} {p : Option Addr} {k1 k2 : IntKind} {i j : Int} (hs : slOf P t = some e) (hk : szOf P e = some k) (hx : ev F x = some (.slice p l c)) (hl : ev F lo = some (.int k1 i)) (hh : ev F hi = some (.int k2 j))
    (g h : Nat) (ei : i = (g : Int)) (ej : j = (h : Int)) (hgh : g ≤ h) (hle : h ≤ c) : Vl P n F ⟨dst, .slice t x (some lo) (some hi) none, ty, pos, af, gd⟩ w (cut p g h c k) w := by
  intro a ha
  subst ei ej
  simp [execOp, Instr.sliceAt, Instr.slice, Instr.sliceBounds, Instr.sliceBound, ha.eval hx, ha.eval hl, ha.eval hh, asIntOf, run_underlying (slOf_und hs), run_sizeOf hk, cut, hle, hgh]
theorem vl_cut_hm {x hi mx : Operand} {t e : TypeId} {k l c : Nat} {p : Option Addr} {k1 k2 : IntKind} {i j : Int} (hs : slOf P t = some e) (hk : szOf P e = some k) (hx : ev F x = some (.slice p l c)) (hh : ev F hi = some (.int k1 i)) (hm : ev F mx = some (.int k2 j))
    (h m : Nat) (ei : i = (h : Int)) (ej : j = (m : Int)) (hgh : h ≤ m) (hle : m ≤ c) : Vl P n F ⟨dst, .slice t x none (some hi) (some mx), ty, pos, af, gd⟩ w (cut p 0 h m k) w := by
  intro a ha
  subst ei ej
  simp [execOp, Instr.sliceAt, Instr.slice, Instr.sliceBounds, Instr.sliceBound, ha.eval hx, ha.eval hh, ha.eval hm, asIntOf, run_underlying (slOf_und hs), run_sizeOf hk, cut, hle, hgh]
theorem vl_cut_lhm {x lo hi mx : Operand} {t e : TypeId} {k l c : Nat} {p : Option Addr} {k0 k1 k2 : IntKind} {q i j : Int} (hs : slOf P t = some e) (hk : szOf P e = some k) (hx : ev F x = some (.slice p l c)) (hl : ev F lo = some (.int k0 q)) (hh : ev F hi = some (.int k1 i)) (hm : ev F mx = some (.int k2 j))
    (g h m : Nat) (eq : q = (g : Int)) (ei : i = (h : Int)) (ej : j = (m : Int)) (hg : g ≤ h) (hgh : h ≤ m) (hle : m ≤ c) : Vl P n F ⟨dst, .slice t x (some lo) (some hi) (some mx), ty, pos, af, gd⟩ w (cut p g h m k) w := by
  intro a ha
  subst eq ei ej
  simp [execOp, Instr.sliceAt, Instr.slice, Instr.sliceBounds, Instr.sliceBound, ha.eval hx, ha.eval hl, ha.eval hh, ha.eval hm, asIntOf, run_underlying (slOf_und hs), run_sizeOf hk, cut, hle, hgh, hg]

/-! loads -/
theorem vl_load {x : Operand} {t : TypeId} {p : Addr} {v : Value} (ht : agOf P t = some false) (hx : ev F x = some (.pointer (some p))) (hc : w.cell? p = some v) : Vl P n F ⟨dst, .load t x, ty, pos, af, gd⟩ w v w :=
  fun a ha => by simp [execOp, Instr.loadAt, Instr.sureAddr, ha.eval hx, loadVar, run_isAgg ht, hc]
theorem vl_loadAgg {x : Operand} {t : TypeId} {b off k : Nat} {cs : List Value} (ht : agOf P t = some true) (hk : szOf P t = some k) (hx : ev F x = some (.pointer (some ⟨b, off, none⟩))) (hl : cs.length = k) (hc : Cells w b off cs) : Vl P n F ⟨dst, .load t x, ty, pos, af, gd⟩ w (.agg cs.toArray) w := by
  intro a ha
  subst hl
  have h1 : (loadCells ⟨b, off, none⟩ cs.length).run P w = .ok cs.toArray w := run_loadCells_list w ⟨b, off, none⟩ cs (fun j v hv => by rw [Addr.add_lit]; exact hc j v hv)
  simp [execOp, Instr.loadAt, Instr.sureAddr, ha.eval hx, loadVar, run_isAgg ht, run_sizeOf hk, h1]

/-! integers of other kinds -/
theorem vl_conv {x : Operand} {t u : TypeId} {k k' : IntKind} {i : Int} (hu : itOf P u k' = true) (ht : itOf P t k = true) (hx : ev F x = some (.int k i)) : Vl P n F ⟨dst, .convert t u x, ty, pos, af, gd⟩ w (.int k' (k'.wrap i)) w := by
  intro a ha
  have h1 : P.underlying u = some (.int k') := by unfold itOf at hu; split at hu <;> simp_all
  have h2 : P.underlying t = some (.int k) := by unfold itOf at ht; split at ht <;> simp_all
  simp [execOp, convert, ha.eval hx, run_underlying h1, run_underlying h2, Conv.intToInt]
theorem vl_shr1 {x y : Operand} {t u : TypeId} {k k' : IntKind} {i : Int} (hb : 1 ≤ k.bits) (hx : ev F x = some (.int k i)) (hy : ev F y = some (.int k' 1)) : Vl P n F ⟨dst, .binOp .shr t x y u, ty, pos, af, gd⟩ w (.int k (i.fdiv 2)) w := by
  intro a ha
  have : min (1 : Int).toNat k.bits = 1 := by simp; omega
  simp only [execOp, ha.eval hx, ha.eval hy, eqGuard, binOp, Op.shift, this]
  simp
end

/-! ### New memory, stores, calls -/
section
variable {P : Program} {n : Nat} {F : Fr} {w : World} {d : Tmp} {ty : TypeId} {pos : String} {af : Array Edge} {gd : Option (Nat × Bool)} {K : Fr → World → Prop}

theorem st_alloc {e : TypeId} {z : Value} {c : List Value} (hz : zrOf P e = some z) (hc : z.cells = c.toArray) (hn : Nat.blt d n = true) (h : ∀ b w', w.heap.size = b → w'.heap.size = b + 1 → Chg [] w w' → Blk w' b e c → K ((d, .pointer (some ⟨b, 0, none⟩)) :: F) w') :
    St P n F ⟨some d, .alloc e, ty, pos, af, gd⟩ w K := by
  refine St.vl (v := .pointer (some ⟨w.heap.size, 0, none⟩)) (w' := w.alloc (.cells c.toArray e)) ?_ rfl hn (h _ _ rfl (by simp) (Chg.alloc _ _ _) (Blk.new _ _ _))
  intro a _
  simp [execOp, Instr.alloc, run_zero hz, newVar, newRow, hc]
theorem st_box {e : TypeId} {x : Operand} {v : Value} {c : List Value} (hx : ev F x = some v) (hc : v.cells = c.toArray) (hn : Nat.blt d n = true) (h : ∀ b w', w.heap.size = b → w'.heap.size = b + 1 → Chg [] w w' → Blk w' b e c → K ((d, .pointer (some ⟨b, 0, none⟩)) :: F) w') :
    St P n F ⟨some d, .box e x, ty, pos, af, gd⟩ w K := by
  refine St.vl (v := .pointer (some ⟨w.heap.size, 0, none⟩)) (w' := w.alloc (.cells c.toArray e)) ?_ rfl hn (h _ _ rfl (by simp) (Chg.alloc _ _ _) (Blk.new _ _ _))
  intro a ha
  simp [execOp, Instr.box, ha.eval hx, newVar, newRow, hc]

/-- c with vs in the place of what begins at off. -/
def laid (c : List Value) (off : Nat) (vs : List Value) : List Value := c.take off ++ vs ++ c.drop (off + vs.length)

theorem run_stores {b off : Nat} {e : TypeId} {c vs : List Value} (hb : Blk w b e c) (hl : off + vs.length ≤ c.length) (h1 : ∀ v ∈ vs, v.oneCell' = true) :
    (storeCells ⟨b, off, none⟩ vs 0).run P w = .ok () (w.setRow b (laid c off vs).toArray) := by
  have := run_storeCells_at P b off e vs 0 c.toArray w hb (by simpa using hl) h1
  simpa [laid] using this

theorem st_store {x y : Operand} {t : TypeId} {v : Value} {b off k : Nat} {e : TypeId} {c vs : List Value} (ht : szOf P t = some k) (hx : ev F x = some (.pointer (some ⟨b, off, none⟩))) (hy : ev F y = some v) (hv : v.cells = vs.toArray) (hk : vs.length = k)
    (hb : Blk w b e c) (hl : off + vs.length ≤ c.length) (h1 : ∀ v ∈ vs, v.oneCell' = true)
    (h : ∀ w', w'.heap.size = w.heap.size → Chg [b] w w' → Blk w' b e (laid c off vs) → K F w') : St P n F ⟨none, .store t x y, ty, pos, af, gd⟩ w K := by
  refine St.sk (w' := w.setRow b (laid c off vs).toArray) ?_ rfl (h _ (by simp [World.setRow]) (Chg.row _ _ _) (hb.row _))
  intro a ha
  simp [execOp, Instr.storeAt, Instr.sureAddr, ha.eval hx, ha.eval hy, storeVar, run_sizeOf ht, hv, hk, run_stores hb hl h1]

/-- A call of a function by its value. -/
theorem st_call {f : Operand} {as : List Operand} {ts : Array TypeId} {g : FuncId} {first captured : Array Value} {vs args : List Value} {R : Value → World → Prop} (hb : bodied P g = true) (hf : ev F f = some (.func (.func g) first captured)) (ha : evs F as = some vs)
    (hargs : first.toList ++ vs ++ captured.toList = args) (hn : Nat.blt d n = true) (hc : Ret P g args.toArray w R) (h : ∀ v w', R v w' → K ((d, v) :: F) w') :
    St P n F ⟨some d, .call { callee := .value f, args := as.toArray, argTypes := ts }, ty, pos, af, gd⟩ w K := by
  refine St.enter (f := g) (args := args.toArray) ?_ rfl hn hc h
  intro a hr
  subst hargs
  unfold bodied at hb
  split at hb
  · rename_i fn hfn
    simp only [Bool.and_eq_true, Bool.not_eq_true'] at hb
    have h1 : ¬ fn.body = none := by cases hx : fn.body <;> simp_all
    have h2 : ¬ fn.name = "runtime.NumGoroutine" := by simpa using hb.2
    have e1 : ∀ X : Array Value, (callFunc g X).run P w = .ok (.enter g X) w := fun X => by simp [callFunc, hfn, h1, h2]
    have e2 : first ++ vs.toArray ++ captured = (first.toList ++ vs ++ captured.toList).toArray := by simp
    simp [execOp, resolve, hr.eval hf, Deferred.ofValue, hr.evals as vs ha, invoke, e1]
  · simp at hb
end
end Go.Wk

namespace Go.Wk

/-- 0: looks at no memory. 1: reads. 2: all else. 3: not served. -/
def kd (o : Oper) : Nat :=
  match o.op with
  | .move _ | .assign _ | .pick .. | .build .. | .binOp .. | .unOp .. | .makeInterface .. | .makeFunc .. | .slice .. | .fieldAddr .. | .field .. | .indexAddr .. | .index .. | .extract .. | .nilCheck _ => 0
  | .call { callee := .builtin .cap, .. } | .call { callee := .builtin .max, .. } | .call { callee := .builtin .min, .. } => 0
  | .load .. | .convert .. | .call { callee := .builtin .len, .. } => 1
  | .defer _ | .select .. | .go _ => 3
  | _ => 2

def reach (ops : Array Oper) : Nat → Nat → Nat → Bool
  | 0, _, _ => false
  | f + 1, j, i => match ops[j]? with
    | none => false
    | some oj => oj.after.any (fun e => Region.binds .any e && e.on == i) || oj.after.any (fun e => Region.binds .any e && reach ops f e.on i)

def fin (ops : Array Oper) (i : Nat) : Bool := (List.range ops.size).all fun j => match ops[j]? with | some oj => kd oj != 1 || reach ops ops.size i j | none => true

def pairOk (ops : Array Oper) (i : Nat) (oi : Oper) (j : Nat) : Bool :=
  match ops[j]? with
  | none => true
  | some oj => reach ops ops.size j i || (oi.apart ops oj && !(kd oi == 2 && kd oj == 2))

def tOk (ops : Array Oper) : Bool := (List.range ops.size).all fun i => match ops[i]? with
  | none => true
  | some oi => kd oi != 3 && oi.after.all (fun e => !Region.binds .any e || Nat.blt e.on i) && (List.range ops.size).all fun j => Nat.ble j i || pairOk ops i oi j

def Closed (ops : Array Oper) (listed : Array Bool) : Prop := ∀ j oj, ops[j]? = some oj → listed.getD j false = true → ∀ e ∈ oj.after, Region.binds .any e = true → listed.getD e.on false = true

section
variable {ops : Array Oper}

theorem reach_listed {listed : Array Bool} (hc : Closed ops listed) : ∀ (f j i : Nat) (oj : Oper), ops[j]? = some oj → (∀ e ∈ oj.after, Region.binds .any e = true → listed.getD e.on false = true) → reach ops f j i = true → listed.getD i false = true
  | 0, _, _, _, _, _, h => by simp [reach] at h
  | f + 1, j, i, oj, hj, hall, h => by
    simp only [reach, hj, Bool.or_eq_true] at h
    rcases h with h | h
    · obtain ⟨e, he, hb⟩ := Array.any_eq_true'.1 h
      simp only [Bool.and_eq_true, beq_iff_eq] at hb
      rw [← hb.2]
      exact hall e he hb.1
    · obtain ⟨e, he, hb⟩ := Array.any_eq_true'.1 h
      simp only [Bool.and_eq_true] at hb
      have hl := hall e he hb.1
      cases ho : ops[e.on]? with
      | none => cases f <;> simp [reach, ho] at hb
      | some oe => exact reach_listed hc f e.on i oe ho (hc e.on oe ho hl) hb.2

theorem Closed.set {listed : Array Bool} (hc : Closed ops listed) {i : Nat} (hi : i ∈ Region.ready .any ops listed) : Closed ops (listed.setIfInBounds i true) := by
  obtain ⟨_, oi, hoi, hall⟩ := mem_ready.1 hi
  intro j oj hj hl e he hb
  by_cases hij : i = j
  · subst hij
    have : oj = oi := Option.some.inj (hj.symm.trans hoi)
    subst this
    exact getD_set_true (hall e he hb)
  · rw [getD_set_ne false hij] at hl
    exact getD_set_true (hc j oj hj hl e he hb)

theorem not_reach {listed : Array Bool} (hc : Closed ops listed) {i j : Nat} (hi : i ∈ Region.ready .any ops listed) (hj : j ∈ Region.ready .any ops listed) (f : Nat) : reach ops f j i = false := by
  obtain ⟨_, oj, hoj, hall⟩ := mem_ready.1 hj
  cases h : reach ops f j i with
  | false => rfl
  | true =>
    have h1 := reach_listed hc f j i oj hoj hall h
    have h0 := (mem_ready.1 hi).1
    rcases Nat.lt_or_ge i listed.size with h' | h'
    · simp [h'] at h0 h1; rw [h0] at h1; cases h1
    · simp [Array.getElem?_eq_none h'] at h1
end

section
variable {P : Program} {ops : Array Oper} {C : World → Prop}

def No (_ : Exit) (_ : Act) (_ : World) : Prop := False

/-- In world w' operation o, at the frame a, yields v and leaves that world. -/
def Yv (P : Program) (o : Oper) (a : Act) (w : World) (v : Value) : Prop := (execOp a.eval o).run P w = .ok (.value v) w

/-- Operation i comes up; B: may the class be left behind it? -/
def tAt (P : Program) (C : World → Prop) (o : Oper) (B : Bool) (K : Act → World → Prop) (a : Act) (w : World) : Prop :=
  match kd o with
  | 0 => ∃ v, (∀ w', Yv P o a w' v) ∧ K (a.put o.dst v) w
  | 1 => ∃ v, (∀ w', C w' → Yv P o a w' v) ∧ K (a.put o.dst v) w
  | 2 => o.wp P a w (fun a' w' => (C w' ∨ B = true) ∧ (∃ u, a' = a.put o.dst u) ∧ K a' w') No
  | _ => False

def tOp (P : Program) (ops : Array Oper) (C : World → Prop) (i : Nat) (K : Act → World → Prop) (a : Act) (w : World) : Prop :=
  match ops[i]? with
  | none => K a w
  | some o => if Region.wanted o (yielded ops a.tmps) then tAt P C o (fin ops i) K a w else K (a.put o.dst undef) w

theorem tAt_mono {o : Oper} {B : Bool} {K K' : Act → World → Prop} {a : Act} {w : World} (h : ∀ a' w', (w' = w ∨ C w' ∨ B = true) → K a' w' → K' a' w') (hh : tAt P C o B K a w) : tAt P C o B K' a w := by
  unfold tAt at *
  split at hh
  · obtain ⟨v, h1, h2⟩ := hh; exact ⟨v, h1, h _ _ (.inl rfl) h2⟩
  · obtain ⟨v, h1, h2⟩ := hh; exact ⟨v, h1, h _ _ (.inl rfl) h2⟩
  · exact Oper.wp_mono (fun a' w' ⟨h1, h2, h3⟩ => ⟨h1, h2, h _ _ (.inr h1) h3⟩) hh
  · exact hh

theorem tOp_mono {i : Nat} {K K' : Act → World → Prop} {a : Act} {w : World} (h : ∀ a' w', (w' = w ∨ C w' ∨ fin ops i = true) → K a' w' → K' a' w') (hh : tOp P ops C i K a w) : tOp P ops C i K' a w := by
  unfold tOp at *
  split
  · simp only [*] at hh; exact h _ _ (.inl rfl) hh
  · rename_i o ho
    simp only [ho] at hh
    split
    · rename_i hw; simp only [hw, if_true] at hh; exact tAt_mono h hh
    · rename_i hw; simp only [hw] at hh; exact h _ _ (.inl rfl) hh

theorem wp_out {o : Oper} {K : Act → World → Prop} {a : Act} {w : World} (h : o.wp P a w K No) : ∃ a' w', K a' w' := by
  unfold Oper.wp at h
  generalize (execOp a.eval o).run P w = r at h
  cases r with
  | ok x w1 =>
    cases x <;> simp only [Oper.upon] at h
    case enter f args =>
      obtain ⟨e, w', fr, hR, _⟩ := h []
      cases e with
      | returned v => exact ⟨_, _, hR⟩
      | panicked c => exact hR.elim
      | outgrown => obtain ⟨_, _, hx⟩ := hR; exact hx.elim
    case row row args =>
      obtain ⟨v, w', hR, _⟩ := h default []
      exact ⟨_, _, hR⟩
    all_goals first
      | exact ⟨_, _, h⟩
      | exact h.elim
  | halt x w1 =>
    cases x <;> simp only [Oper.upon] at h
    all_goals exact h.elim

theorem tAt_out {o : Oper} {B : Bool} {K : Act → World → Prop} {a : Act} {w : World} (h : tAt P C o B K a w) : ∃ a' w', K a' w' := by
  unfold tAt at h
  split at h
  · obtain ⟨v, _, h2⟩ := h; exact ⟨_, _, h2⟩
  · obtain ⟨v, _, h2⟩ := h; exact ⟨_, _, h2⟩
  · obtain ⟨_, _, h1⟩ := wp_out h; exact ⟨_, _, h1.2.2⟩
  · exact h.elim

theorem tOp_out {i : Nat} {K : Act → World → Prop} {a : Act} {w : World} (h : tOp P ops C i K a w) : ∃ a' w', K a' w' := by
  unfold tOp at h
  split at h
  · exact ⟨_, _, h⟩
  · split at h
    · exact tAt_out h
    · exact ⟨_, _, h⟩

/-- What an operation yields when a slot that it does not look at holds something else. -/
theorem Yv.put {o : Oper} {a : Act} {w : World} {v : Value} (h : Yv P o a w v) (hs : ∀ cs b, o.op ≠ .select cs b) (x : Option Tmp) (u : Value) (hx : ∀ d, x = some d → d ∉ o.looksAt ops) : Yv P o (a.put x u) w v := by
  unfold Yv at *
  rw [execOp_put o hs a x u hx]
  exact h
theorem Yv.unput {o : Oper} {a : Act} {w : World} {v : Value} {x : Option Tmp} {u : Value} (h : Yv P o (a.put x u) w v) (hs : ∀ cs b, o.op ≠ .select cs b) (hx : ∀ d, x = some d → d ∉ o.looksAt ops) : Yv P o a w v := by
  unfold Yv at *
  rw [execOp_put o hs a x u hx] at h
  exact h

theorem defers_put (a : Act) (x : Option Tmp) (u : Value) : (a.put x u).defers = a.defers := by cases x <;> rfl

theorem wp_put {o : Oper} {a : Act} {w : World} {K : Act → World → Prop} {x : Option Tmp} {u : Value} (hs : ∀ cs b, o.op ≠ .select cs b) (hx : ∀ d, x = some d → d ∉ o.looksAt ops) (hne : ∀ d, x = some d → o.dst ≠ some d)
    (h : o.wp P a w (fun a' w' => (∃ y, a' = a.put o.dst y) ∧ K a' w') No) : o.wp P (a.put x u) w (fun a' w' => ∃ a0, a' = a0.put x u ∧ (∃ y, a0 = a.put o.dst y) ∧ K a0 w') No := by
  unfold Oper.wp at *
  rw [execOp_put o hs a x u hx]
  have hc : ∀ y, (a.put x u).put o.dst y = (a.put o.dst y).put x u := fun y => Act.put_comm a u y hne
  generalize (execOp a.eval o).run P w = r at *
  cases r with
  | ok n w1 =>
    cases n <;> simp only [Oper.upon] at h ⊢
    case value v => exact ⟨_, hc v, h.1, h.2⟩
    case skip => exact ⟨_, hc undef, h.1, h.2⟩
    case defer dd =>
      obtain ⟨⟨y, hy⟩, _⟩ := h
      have := congrArg Act.defers hy
      simp [defers_put] at this
    case enter f args =>
      refine Calls.mono h ?_
      intro e w2 he
      cases e with
      | returned v => exact ⟨_, hc v, he.1, he.2⟩
      | panicked c => exact he
      | outgrown => exact he
    case row row args => exact Rows.mono h fun v w2 hv => ⟨_, hc v, hv.1, hv.2⟩
    all_goals exact h
  | halt h0 w1 => cases h0 <;> simp only [Oper.upon] at h ⊢ <;> exact h

theorem wp_unput {o : Oper} {a : Act} {w : World} {K : Act → World → Prop} {x : Option Tmp} {u : Value} (hs : ∀ cs b, o.op ≠ .select cs b) (hx : ∀ d, x = some d → d ∉ o.looksAt ops) (hne : ∀ d, x = some d → o.dst ≠ some d)
    (h : o.wp P (a.put x u) w (fun a' w' => (∃ y, a' = (a.put x u).put o.dst y) ∧ K a' w') No) : o.wp P a w (fun a' w' => (∃ y, a' = a.put o.dst y) ∧ K (a'.put x u) w') No := by
  unfold Oper.wp at *
  rw [execOp_put o hs a x u hx] at h
  have hc : ∀ y, (a.put x u).put o.dst y = (a.put o.dst y).put x u := fun y => Act.put_comm a u y hne
  generalize (execOp a.eval o).run P w = r at *
  cases r with
  | ok n w1 =>
    cases n <;> simp only [Oper.upon] at h ⊢
    case value v => exact ⟨⟨_, rfl⟩, hc v ▸ h.2⟩
    case skip => exact ⟨⟨_, rfl⟩, hc undef ▸ h.2⟩
    case defer dd =>
      obtain ⟨⟨y, hy⟩, _⟩ := h
      have := congrArg Act.defers hy
      simp [defers_put] at this
    case enter f args =>
      refine Calls.mono h ?_
      intro e w2 he
      cases e with
      | returned v => exact ⟨⟨_, rfl⟩, hc v ▸ he.2⟩
      | panicked c => exact he
      | outgrown => exact he
    case row row args => exact Rows.mono h fun v w2 hv => ⟨⟨_, rfl⟩, hc v ▸ hv.2⟩
    all_goals exact h
  | halt h0 w1 => cases h0 <;> simp only [Oper.upon] at h ⊢ <;> exact h

theorem kd_select {o : Oper} (h : kd o ≠ 3) : ∀ cs b, o.op ≠ .select cs b := by
  intro cs b he
  apply h
  simp [kd, he]

/-- Two operations that do not hang on each other: in whatever order. w0: some world of the class. -/
theorem tOp_swap {i j : Nat} {oi oj : Oper} (hi : ops[i]? = some oi) (hj : ops[j]? = some oj) (hap : oi.apart ops oj = true) (hki : kd oi ≠ 3) (hkj : kd oj ≠ 3) (hl : ¬ (kd oi = 2 ∧ kd oj = 2)) {w0 : World} (hw0 : C w0)
    {K : Act → World → Prop} {a : Act} {w : World} (h : tOp P ops C i (fun a' w' => tOp P ops C j K a' w') a w) : tOp P ops C j (fun a' w' => tOp P ops C i K a' w') a w := by
  obtain ⟨h1, h2, h3⟩ := Oper.apart_spec hap
  have h2' : ∀ d, oj.dst = some d → oi.dst ≠ some d := fun d hd he => h2 d he hd
  have si := kd_select hki
  have sj := kd_select hkj
  have wj : ∀ (a : Act) u, Region.wanted oj (yielded ops (a.put oi.dst u).tmps) = Region.wanted oj (yielded ops a.tmps) := fun a u => wanted_put oj a oi.dst u h1
  have wi : ∀ (a : Act) u, Region.wanted oi (yielded ops (a.put oj.dst u).tmps) = Region.wanted oi (yielded ops a.tmps) := fun a u => wanted_put oi a oj.dst u h3
  have hcm : ∀ (a : Act) u y, (a.put oi.dst u).put oj.dst y = (a.put oj.dst y).put oi.dst u := fun a u y => Act.put_comm a u y h2
  unfold tOp at *
  simp only [hi, hj] at *
  by_cases hwi : Region.wanted oi (yielded ops a.tmps) = true
  · by_cases hwj : Region.wanted oj (yielded ops a.tmps) = true
    · simp only [hwi, hwj, if_true] at h ⊢
      unfold tAt at *
      have ki : kd oi = 0 ∨ kd oi = 1 ∨ kd oi = 2 := by
        revert hki; generalize oi = o; unfold kd; split <;> simp
      have kj : kd oj = 0 ∨ kd oj = 1 ∨ kd oj = 2 := by
        revert hkj; generalize oj = o; unfold kd; split <;> simp
      rcases ki with ki | ki | ki <;> rcases kj with kj | kj | kj <;> simp only [ki, kj] at h ⊢
      case inl.inl =>
        obtain ⟨v, hv, hk⟩ := h
        rw [wj, if_pos hwj] at hk
        obtain ⟨u, hu, hk⟩ := hk
        refine ⟨u, fun w' => (hu w').unput sj h1, ?_⟩
        rw [wi, if_pos hwi]
        exact ⟨v, fun w' => (hv w').put si _ _ h3, hcm a v u ▸ hk⟩
      case inl.inr.inl =>
        obtain ⟨v, hv, hk⟩ := h
        rw [wj, if_pos hwj] at hk
        obtain ⟨u, hu, hk⟩ := hk
        refine ⟨u, fun w' hw' => (hu w' hw').unput sj h1, ?_⟩
        rw [wi, if_pos hwi]
        exact ⟨v, fun w' => (hv w').put si _ _ h3, hcm a v u ▸ hk⟩
      case inr.inl.inl =>
        obtain ⟨v, hv, hk⟩ := h
        rw [wj, if_pos hwj] at hk
        obtain ⟨u, hu, hk⟩ := hk
        refine ⟨u, fun w' => (hu w').unput sj h1, ?_⟩
        rw [wi, if_pos hwi]
        exact ⟨v, fun w' hw' => (hv w' hw').put si _ _ h3, hcm a v u ▸ hk⟩
      case inr.inl.inr.inl =>
        obtain ⟨v, hv, hk⟩ := h
        rw [wj, if_pos hwj] at hk
        obtain ⟨u, hu, hk⟩ := hk
        refine ⟨u, fun w' hw' => (hu w' hw').unput sj h1, ?_⟩
        rw [wi, if_pos hwi]
        exact ⟨v, fun w' hw' => (hv w' hw').put si _ _ h3, hcm a v u ▸ hk⟩
      case inl.inr.inr =>
        obtain ⟨v, hv, hk⟩ := h
        rw [wj, if_pos hwj] at hk
        have hk' := wp_unput (ops := ops) (K := fun a' w' => (C w' ∨ fin ops j = true) ∧ K a' w') sj h1 h2 (Oper.wp_mono (fun a' w' ⟨q1, q2, q3⟩ => ⟨q2, q1, q3⟩) hk)
        refine Oper.wp_mono ?_ hk'
        rintro a' w' ⟨⟨y, rfl⟩, q1, q2⟩
        refine ⟨q1, ⟨y, rfl⟩, ?_⟩
        rw [wi, if_pos hwi]
        exact ⟨v, fun w' => (hv w').put si _ _ h3, q2⟩
      case inr.inl.inr.inr =>
        obtain ⟨v, hv, hk⟩ := h
        rw [wj, if_pos hwj] at hk
        have hk' := wp_unput (ops := ops) (K := fun a' w' => (C w' ∨ fin ops j = true) ∧ K a' w') sj h1 h2 (Oper.wp_mono (fun a' w' ⟨q1, q2, q3⟩ => ⟨q2, q1, q3⟩) hk)
        refine Oper.wp_mono ?_ hk'
        rintro a' w' ⟨⟨y, rfl⟩, q1, q2⟩
        refine ⟨q1, ⟨y, rfl⟩, ?_⟩
        rw [wi, if_pos hwi]
        exact ⟨v, fun w' hw' => (hv w' hw').put si _ _ h3, q2⟩
      case inr.inr.inl =>
        obtain ⟨a1, w1, _, ⟨y1, e1⟩, hk1⟩ := wp_out h
        subst e1
        rw [wj, if_pos hwj] at hk1
        obtain ⟨u, hu, _⟩ := hk1
        have hu0 : ∀ w', Yv P oj a w' u := fun w' => (hu w').unput sj h1
        refine ⟨u, hu0, ?_⟩
        rw [wi, if_pos hwi]
        have h' := wp_put (ops := ops) (x := oj.dst) (u := u) (K := fun a' w' => (C w' ∨ fin ops i = true) ∧ (if Region.wanted oj (yielded ops a'.tmps) = true then ∃ v, (∀ w', Yv P oj a' w' v) ∧ K (a'.put oj.dst v) w' else K (a'.put oj.dst undef) w')) si h3 h2' (Oper.wp_mono (fun a' w' ⟨q1, q2, q3⟩ => ⟨q2, q1, q3⟩) h)
        refine Oper.wp_mono ?_ h'
        rintro a' w' ⟨a0, rfl, ⟨y, rfl⟩, q1, q2⟩
        refine ⟨q1, ⟨y, hcm a y u⟩, ?_⟩
        rw [wj, if_pos hwj] at q2
        obtain ⟨v, hv, hk⟩ := q2
        have : v = u := by
          have e1 := (hv w0).unput sj h1
          have e2 := hu0 w0
          unfold Yv at e1 e2
          rw [e1] at e2
          simpa using e2
        rw [← this]
        exact hk
      case inr.inr.inr.inl =>
        obtain ⟨a1, w1, _, ⟨y1, e1⟩, hk1⟩ := wp_out h
        subst e1
        rw [wj, if_pos hwj] at hk1
        obtain ⟨u, hu, _⟩ := hk1
        have hu0 : ∀ w', C w' → Yv P oj a w' u := fun w' hw' => (hu w' hw').unput sj h1
        refine ⟨u, hu0, ?_⟩
        rw [wi, if_pos hwi]
        have h' := wp_put (ops := ops) (x := oj.dst) (u := u) (K := fun a' w' => (C w' ∨ fin ops i = true) ∧ (if Region.wanted oj (yielded ops a'.tmps) = true then ∃ v, (∀ w', C w' → Yv P oj a' w' v) ∧ K (a'.put oj.dst v) w' else K (a'.put oj.dst undef) w')) si h3 h2' (Oper.wp_mono (fun a' w' ⟨q1, q2, q3⟩ => ⟨q2, q1, q3⟩) h)
        refine Oper.wp_mono ?_ h'
        rintro a' w' ⟨a0, rfl, ⟨y, rfl⟩, q1, q2⟩
        refine ⟨q1, ⟨y, hcm a y u⟩, ?_⟩
        rw [wj, if_pos hwj] at q2
        obtain ⟨v, hv, hk⟩ := q2
        have : v = u := by
          have e1 := (hv w0 hw0).unput sj h1
          have e2 := hu0 w0 hw0
          unfold Yv at e1 e2
          rw [e1] at e2
          simpa using e2
        rw [← this]
        exact hk
      case inr.inr.inr.inr => exact absurd ⟨ki, kj⟩ hl
    · have hwj' : Region.wanted oj (yielded ops a.tmps) = false := by simpa using hwj
      simp only [hwi, hwj', if_true, Bool.false_eq_true, if_false] at h ⊢
      rw [wi, if_pos hwi]
      have ki : kd oi = 0 ∨ kd oi = 1 ∨ kd oi = 2 := by
        revert hki; generalize oi = o; unfold kd; split <;> simp
      unfold tAt at h ⊢
      rcases ki with ki | ki | ki <;> simp only [ki] at h ⊢
      · obtain ⟨v, hv, hk⟩ := h
        rw [wj, if_neg hwj] at hk
        exact ⟨v, fun w' => (hv w').put si _ _ h3, hcm a v undef ▸ hk⟩
      · obtain ⟨v, hv, hk⟩ := h
        rw [wj, if_neg hwj] at hk
        exact ⟨v, fun w' hw' => (hv w' hw').put si _ _ h3, hcm a v undef ▸ hk⟩
      · have h0 : oi.wp P a w (fun a' w' => (∃ y, a' = a.put oi.dst y) ∧ (C w' ∨ fin ops i = true) ∧ K (a'.put oj.dst undef) w') No := by
          refine Oper.wp_mono ?_ h
          rintro a' w' ⟨q1, ⟨y, rfl⟩, q3⟩
          rw [wj, if_neg hwj] at q3
          exact ⟨⟨y, rfl⟩, q1, q3⟩
        have h' := wp_put (ops := ops) (x := oj.dst) (u := undef) (K := fun a' w' => (C w' ∨ fin ops i = true) ∧ K (a'.put oj.dst undef) w') si h3 h2' h0
        refine Oper.wp_mono ?_ h'
        rintro a' w' ⟨a0, rfl, ⟨y, rfl⟩, q1, q2⟩
        exact ⟨q1, ⟨y, hcm a y undef⟩, q2⟩
  · have hwi' : Region.wanted oi (yielded ops a.tmps) = false := by simpa using hwi
    simp only [hwi', Bool.false_eq_true, if_false] at h
    rw [wj] at h
    by_cases hwj : Region.wanted oj (yielded ops a.tmps) = true
    · simp only [hwj, if_true] at h ⊢
      have kj : kd oj = 0 ∨ kd oj = 1 ∨ kd oj = 2 := by
        revert hkj; generalize oj = o; unfold kd; split <;> simp
      unfold tAt at h ⊢
      rcases kj with kj | kj | kj <;> simp only [kj] at h ⊢
      · obtain ⟨v, hv, hk⟩ := h
        refine ⟨v, fun w' => (hv w').unput sj h1, ?_⟩
        rw [wi, if_neg hwi]
        exact hcm a undef v ▸ hk
      · obtain ⟨v, hv, hk⟩ := h
        refine ⟨v, fun w' hw' => (hv w' hw').unput sj h1, ?_⟩
        rw [wi, if_neg hwi]
        exact hcm a undef v ▸ hk
      · have hk' := wp_unput (ops := ops) (K := fun a' w' => (C w' ∨ fin ops j = true) ∧ K a' w') sj h1 h2 (Oper.wp_mono (fun a' w' ⟨q1, q2, q3⟩ => ⟨q2, q1, q3⟩) h)
        refine Oper.wp_mono ?_ hk'
        rintro a' w' ⟨⟨y, rfl⟩, q1, q2⟩
        refine ⟨q1, ⟨y, rfl⟩, ?_⟩
        rw [wi, if_neg hwi]
        exact q2
    · simp only [hwj] at h ⊢
      rw [wi, if_neg hwi]
      exact hcm a undef undef ▸ h

/-- Whatever order is picked from here on. -/
def aT (P : Program) (ops : Array Oper) (C : World → Prop) (Q : Act → World → Prop) : Nat → Array Bool → Act → World → Prop
  | 0, listed, a, w => Region.ready .any ops listed = [] ∧ Q a w
  | f + 1, listed, a, w => (Region.ready .any ops listed = [] → Q a w) ∧ ∀ i ∈ Region.ready .any ops listed, tOp P ops C i (aT P ops C Q f (listed.setIfInBounds i true)) a w

theorem getD_set_true' {l : Array Bool} {j : Nat} (i : Nat) (h : l.getD j true = true) : (l.setIfInBounds i true).getD j true = true := by
  by_cases e : i = j
  · subst e
    rcases Nat.lt_or_ge i l.size with h' | h'
    · simp [h']
    · simp [Array.getElem?_eq_none h']
  · rw [getD_set_ne true e]; exact h

def rdone (ops : Array Oper) (listed : Array Bool) : Prop := ∀ j o, ops[j]? = some o → kd o = 1 → listed.getD j true = true

theorem rdone.set {listed : Array Bool} (h : rdone ops listed) (i : Nat) : rdone ops (listed.setIfInBounds i true) := fun j o hj hk => getD_set_true' i (h j o hj hk)

theorem fin_done {i : Nat} {listed : Array Bool} (hf : fin ops i = true) (hc : Closed ops listed) (hi : i ∈ Region.ready .any ops listed) : rdone ops (listed.setIfInBounds i true) := by
  intro j o hj hk
  have h1 := List.all_eq_true.1 hf j (List.mem_range.2 (Array.getElem?_eq_some_iff.1 hj).1)
  simp only [hj, hk, Bool.or_eq_true] at h1
  obtain ⟨_, oi, hoi, hall⟩ := mem_ready.1 hi
  rcases h1 with h1 | h1
  · simp at h1
  · have h2 := reach_listed hc _ i j oi hoi hall h1
    refine getD_set_true' i ?_
    rcases Nat.lt_or_ge j listed.size with h' | h'
    · simp [h'] at h2 ⊢; exact h2
    · simp [Array.getElem?_eq_none h'] at h2

theorem wpAny_of_aT {Q : Act → World → Prop} {Q' : Exit → Act → World → Prop} (hQ : ∀ a w, Q a w → Q' .normal a w) : ∀ (f : Nat) (listed : Array Bool) (a : Act) (w : World), Closed ops listed → (C w ∨ rdone ops listed) →
    aT P ops C Q f listed a w → wpAny P .any ops Q' f listed a w
  | 0, _, _, _, _, _, h => ⟨h.1, hQ _ _ h.2⟩
  | f + 1, listed, a, w, hc, hw, h => by
    refine ⟨fun h0 => hQ _ _ (h.1 h0), fun i hi => ?_⟩
    have h1 := h.2 i hi
    have ih := fun a' w' hw' => wpAny_of_aT (Q := Q) (Q' := Q') hQ f (listed.setIfInBounds i true) a' w' (hc.set hi) hw'
    have hw' : C w ∨ rdone ops (listed.setIfInBounds i true) := hw.imp id (fun h => h.set i)
    unfold tOp at h1
    unfold wpOp
    cases ho : ops[i]? with
    | none => simp only [ho] at h1 ⊢; exact ih _ _ hw' h1
    | some o =>
      simp only [ho] at h1 ⊢
      split at h1
      · rename_i hwd
        rw [if_pos hwd]
        refine .inl ?_
        unfold tAt at h1
        split at h1
        · obtain ⟨v, hv, hk⟩ := h1
          have e := hv w
          unfold Yv at e
          unfold Oper.wp
          rw [e]
          exact ih _ _ hw' hk
        · rename_i hk1
          obtain ⟨v, hv, hk⟩ := h1
          have hCw : C w := by
            rcases hw with hw | hw
            · exact hw
            · have := hw i o ho hk1
              have h0 := (mem_ready.1 hi).1
              rw [this] at h0
              cases h0
          have e := hv w hCw
          unfold Yv at e
          unfold Oper.wp
          rw [e]
          exact ih _ _ hw' hk
        · refine Oper.wp_mono (Q := Q') (K := fun a' w' => (C w' ∨ fin ops i = true) ∧ (∃ u, a' = a.put o.dst u) ∧ aT P ops C Q f (listed.setIfInBounds i true) a' w') ?_ ?_
          · rintro a' w' ⟨q1, _, q3⟩
            exact ih _ _ (q1.imp id fun hf => fin_done hf hc hi) q3
          · unfold Oper.wp at h1 ⊢
            generalize (execOp a.eval o).run P w = r at *
            cases r with
            | ok n w1 =>
              cases n <;> simp only [Oper.upon] at h1 ⊢
              case enter f args =>
                refine Calls.mono h1 ?_
                intro e w2 he
                cases e with
                | returned v => exact he
                | panicked c => exact he.elim
                | outgrown => obtain ⟨_, _, hx⟩ := he; exact hx.elim
              all_goals exact h1
            | halt h0 w1 => cases h0 <;> simp only [Oper.upon] at h1 ⊢ <;> exact h1.elim
        · exact h1.elim
      · rename_i hwd
        rw [if_neg hwd]
        exact ih _ _ hw' h1

/-- An operation that may come up now may be taken first. -/
theorem aT_first {Q : Act → World → Prop} {i : Nat} {oi : Oper} (hi : ops[i]? = some oi) (hki : kd oi ≠ 3) (hk3 : ∀ (j : Nat) (oj : Oper), ops[j]? = some oj → kd oj ≠ 3) {w0 : World} (hw0 : C w0) :
    ∀ (f : Nat) (listed : Array Bool) (a : Act) (w : World), Closed ops listed →
      (∀ (j : Nat) (oj : Oper), ops[j]? = some oj → j ≠ i → listed.getD j true = false → reach ops ops.size j i = true ∨ (oi.apart ops oj = true ∧ ¬ (kd oi = 2 ∧ kd oj = 2))) →
      i ∈ Region.ready .any ops listed → tOp P ops C i (aT P ops C Q f (listed.setIfInBounds i true)) a w → aT P ops C Q (f + 1) listed a w := by
  intro f
  induction f with
  | zero =>
    intro listed a w _ _ hr H
    refine ⟨fun h => (by rw [h] at hr; cases hr), fun j hj => ?_⟩
    by_cases hji : j = i
    · subst hji; exact H
    · have := ready_mono hj hji
      obtain ⟨a', w', h1, _⟩ := tOp_out H
      rw [h1] at this
      cases this
  | succ f ih =>
    intro listed a w hc hfree hr H
    refine ⟨fun h => (by rw [h] at hr; cases hr), fun j hj => ?_⟩
    by_cases hji : j = i
    · subst hji; exact H
    · obtain ⟨hjun, oj, hoj, hall⟩ := mem_ready.1 hj
      have hnr := not_reach hc hr hj ops.size
      obtain ⟨hap, hl⟩ := (hfree j oj hoj hji hjun).resolve_left (by simp [hnr])
      have H1 : tOp P ops C i (fun a' w' => tOp P ops C j (aT P ops C Q f ((listed.setIfInBounds i true).setIfInBounds j true)) a' w') a w :=
        tOp_mono (fun a' w' _ h => h.2 j (ready_mono hj hji)) H
      have H2 := tOp_swap hi hoj hap hki (hk3 j oj hoj) hl hw0 H1
      refine tOp_mono (fun a' w' _ h3 => ih (listed.setIfInBounds j true) a' w' (hc.set hj) ?_ (ready_mono hr (Ne.symm hji)) ?_) H2
      · intro k ok hk hki hun
        refine hfree k ok hk hki ?_
        by_cases hjk : j = k
        · subst hjk; exact hjun
        · rw [getD_set_ne true hjk] at hun; exact hun
      · rw [Array.setIfInBounds_comm _ _ hji]
        exact h3

/-- The walk in the text's order; k: how many operations stand ahead. -/
def wpT (P : Program) (ops : Array Oper) (C : World → Prop) (Q : Act → World → Prop) : Nat → List Oper → Act → World → Prop
  | _, [], a, w => Q a w
  | k, o :: rest, a, w => if Region.wanted o (yielded ops a.tmps) then tAt P C o (fin ops k) (wpT P ops C Q (k + 1) rest) a w else wpT P ops C Q (k + 1) rest (a.put o.dst undef) w

theorem tOk_spec (h : tOk ops = true) (i : Nat) (oi : Oper) (hi : ops[i]? = some oi) : kd oi ≠ 3 ∧ (∀ e ∈ oi.after, Region.binds .any e = true → e.on < i) ∧
    ∀ j oj, ops[j]? = some oj → i < j → reach ops ops.size j i = true ∨ (oi.apart ops oj = true ∧ ¬ (kd oi = 2 ∧ kd oj = 2)) := by
  have h1 := List.all_eq_true.1 h i (List.mem_range.2 (Array.getElem?_eq_some_iff.1 hi).1)
  simp only [hi, Bool.and_eq_true] at h1
  obtain ⟨⟨h1, h2⟩, h3⟩ := h1
  refine ⟨by simpa using h1, fun e he hb => ?_, fun j oj hj hij => ?_⟩
  · have := Array.all_eq_true_iff_forall_mem.1 h2 e he
    simp only [hb, Bool.not_true, Bool.false_or] at this
    exact Nat.lt_of_succ_le (Nat.le_of_ble_eq_true this)
  · have := List.all_eq_true.1 h3 j (List.mem_range.2 (Array.getElem?_eq_some_iff.1 hj).1)
    simp only [Bool.or_eq_true, pairOk, hj] at this
    rcases this with this | this
    · have := Nat.le_of_ble_eq_true this; omega
    · rcases this with this | this
      · exact .inl this
      · simp only [Bool.and_eq_true, Bool.not_eq_true'] at this
        refine .inr ⟨this.1, fun ⟨e1, e2⟩ => ?_⟩
        have h3 := this.2
        rw [e1, e2] at h3
        simp at h3

theorem aT_of_wpT {Q : Act → World → Prop} (hB : tOk ops = true) {w0 : World} (hw0 : C w0) : ∀ (l : List Oper) (k : Nat) (listed : Array Bool) (a : Act) (w : World), (∀ j, l[j]? = ops[k + j]?) → k + l.length = ops.size → listed.size = ops.size →
    (∀ j, j < ops.size → (listed.getD j true = true ↔ j < k)) → wpT P ops C Q k l a w → aT P ops C Q l.length listed a w
  | [], k, listed, a, w, _, hk, hs, hli, h => by
    refine ⟨?_, h⟩
    refine List.eq_nil_iff_forall_not_mem.2 fun j hj => ?_
    obtain ⟨h0, oj, hoj, _⟩ := mem_ready.1 hj
    have hlt := (Array.getElem?_eq_some_iff.1 hoj).1
    have := (hli j hlt).2 (by simp at hk; omega)
    rw [this] at h0
    cases h0
  | o :: l, k, listed, a, w, hl, hk, hs, hli, h => by
    have h0 : ops[k]? = some o := by simpa using (hl 0).symm
    have hklt := (Array.getElem?_eq_some_iff.1 h0).1
    obtain ⟨hk3, hed, hpair⟩ := tOk_spec hB k o h0
    have hget : ∀ j, j < ops.size → (listed.getD j false = true ↔ j < k) := fun j hj => by
      rw [← hli j hj]
      have : j < listed.size := by omega
      simp [this]
    have hclosed : Closed ops listed := by
      intro j oj hj hlj e he hb
      have hjlt := (Array.getElem?_eq_some_iff.1 hj).1
      have h1 := (hget j hjlt).1 hlj
      have h2 := (tOk_spec hB j oj hj).2.1 e he hb
      exact (hget e.on (by omega)).2 (by omega)
    have hready : k ∈ Region.ready .any ops listed := by
      refine mem_ready.2 ⟨?_, o, h0, fun e he hb => (hget e.on (by have := hed e he hb; omega)).2 (hed e he hb)⟩
      cases hx : listed.getD k true with
      | false => rfl
      | true => have := (hli k hklt).1 hx; omega
    refine aT_first h0 hk3 (fun j oj hj => (tOk_spec hB j oj hj).1) hw0 l.length listed a w hclosed ?_ hready ?_
    · intro j oj hj hne hun
      have hjlt := (Array.getElem?_eq_some_iff.1 hj).1
      have : ¬ j < k := fun hh => by have := (hli j hjlt).2 hh; rw [this] at hun; cases hun
      exact hpair j oj hj (by omega)
    · have hrest : ∀ a' w', wpT P ops C Q (k + 1) l a' w' → aT P ops C Q l.length (listed.setIfInBounds k true) a' w' := fun a' w' h' =>
        aT_of_wpT hB hw0 l (k + 1) _ a' w' (fun j => by have := hl (j + 1); simpa [Nat.add_assoc, Nat.add_comm 1 j] using this) (by simp at hk; omega) (by simpa using hs)
          (fun j hj => by
            by_cases e : k = j
            · subst e
              have : k < listed.size := by omega
              simp [this]
            · rw [getD_set_ne true e, hli j hj]; omega) h'
      unfold tOp
      simp only [h0]
      simp only [wpT] at h
      split at h
      · rename_i hw; rw [if_pos hw]; exact tAt_mono (fun a' w' _ => hrest a' w') h
      · rename_i hw; rw [if_neg hw]; exact hrest _ _ h

theorem wp_region_T {id : Nat} {Q : Act → World → Prop} {Q' : Exit → Act → World → Prop} {a : Act} {w : World} (hQ : ∀ a w, Q a w → Q' .normal a w) (hm : P.follows .mixedOrders = true) (hB : tOk ops = true) (hC : C w.drew)
    (h : wpT P ops C Q 0 ops.toList a w.drew) : (Code.region id ops true).wp P Q' a w := by
  refine wp_region_any hm ?_
  have := aT_of_wpT (P := P) (Q := Q) hB hC ops.toList 0 (Array.replicate ops.size false) a w.drew (by simp) (by simp) (by simp) (fun j hj => by simp [hj]) h
  refine wpAny_of_aT (C := C) hQ _ _ _ _ ?_ (.inl hC) (by simpa using this)
  intro j oj hj hl
  have hjlt := (Array.getElem?_eq_some_iff.1 hj).1
  simp [hjlt] at hl
end
end Go.Wk

namespace Go.Wk

/-- The operation is carried out, in whatever frame of that make. -/
def Wd (n : Nat) (F : Fr) (ops : Array Oper) (o : Oper) : Prop := ∀ a, Rep n F a → Region.wanted o (yielded ops a.tmps) = true

section
variable {P : Program} {n : Nat} {Q : Exit → Fr → World → Prop} {F : Fr} {w w' : World} {o : Oper} {ops : Array Oper} {rest : List Oper} {C : World → Prop} {k d : Nat}

theorem gn (hg : o.guard = none) : Wd n F ops o := fun _ _ => by simp [Region.wanted, hg]
theorem gy {j t : Nat} {b : Bool} (hg : o.guard = some (j, b)) (ht : (ops[j]?).bind (·.dst) = some t) (hv : get F t = some (.bool b)) : Wd n F ops o := fun a ha => by
  simp [Region.wanted, hg, yielded, ht, ha.get t _ hv]

theorem O_go (hw : Wd n F ops o) (h : St P n F o w (fun F' w' => O P n ops Q rest F' w')) : O P n ops Q (o :: rest) F w := by
  intro a ha
  refine wpList_step fun K' hK => ?_
  rw [if_pos (hw a ha)]
  have h1 := h a ha
  unfold Oper.wp at *
  generalize (execOp a.eval o).run P w = r at *
  cases r with
  | ok x w1 =>
    cases x <;> simp only [Oper.upon] at h1 ⊢
    case enter f args =>
      refine Calls.mono h1 ?_
      intro e w2 he
      cases e with
      | returned v => obtain ⟨F', hr, _, hO⟩ := he; exact hK _ _ (hO _ hr)
      | panicked c => exact he.elim
      | outgrown => obtain ⟨_, _, hx⟩ := he; exact hx.elim
    case row row args =>
      refine Rows.mono h1 ?_
      rintro v w2 ⟨F', hr, _, hO⟩
      exact hK _ _ (hO _ hr)
    all_goals first
      | (obtain ⟨F', hr, _, hO⟩ := h1; exact hK _ _ (hO _ hr))
      | exact h1.elim
  | halt x w1 =>
    cases x <;> simp only [Oper.upon] at h1

/-- The walk of a region that draws. -/
def T (P : Program) (n : Nat) (ops : Array Oper) (C : World → Prop) (Q : Exit → Fr → World → Prop) (k : Nat) (l : List Oper) (F : Fr) (w : World) : Prop :=
  ∀ a, Rep n F a → wpT P ops C (fun a w => ∃ F, Rep n F a ∧ Q .normal F w) k l a w

theorem W_draw (C : World → Prop) {id : Nat} {l : List Oper} (hm : P.follows .mixedOrders = true) (hB : tOk l.toArray = true) (hC : C w.drew) (h : T P n l.toArray C Q 0 l F w.drew) : W P n (.region id l.toArray true) Q F w :=
  fun a ha => wp_region_T (C := C) (Q := fun a w => ∃ F, Rep n F a ∧ Q .normal F w) (fun _ _ h => h) hm hB hC (by simpa using h a ha)

theorem T_nil (h : Q .normal F w) : T P n ops C Q k [] F w := fun _ ha => ⟨F, ha, h⟩
theorem T_nil_prune (keep : List Nat) {F' : Fr} (hF : prune keep F = F') (h : Q .normal F' w) : T P n ops C Q k [] F w := fun _ ha => ⟨F', hF ▸ ha.prune keep, h⟩

theorem t_pure {v : Value} (hk : Nat.ble (kd o) 1 = true) (hw : Wd n F ops o) (hv : ∀ w, Vl P n F o w v w) (hd : o.dst = some d) (hn : Nat.blt d n = true) (h : T P n ops C Q (k + 1) rest ((d, v) :: F) w) : T P n ops C Q k (o :: rest) F w := by
  intro a ha
  have hk' : kd o = 0 ∨ kd o = 1 := by have := Nat.le_of_ble_eq_true hk; omega
  rcases hk' with hk | hk
  · simp only [wpT, hw a ha, if_true, tAt, hk]
    refine ⟨v, fun w' => hv w' a ha, ?_⟩
    rw [hd]
    exact h _ (ha.put hn v)
  · simp only [wpT, hw a ha, if_true, tAt, hk]
    refine ⟨v, fun w' _ => hv w' a ha, ?_⟩
    rw [hd]
    exact h _ (ha.put hn v)
theorem t_read {v : Value} (hk : kd o = 1) (hw : Wd n F ops o) (hv : ∀ w, C w → Vl P n F o w v w) (hd : o.dst = some d) (hn : Nat.blt d n = true) (h : T P n ops C Q (k + 1) rest ((d, v) :: F) w) : T P n ops C Q k (o :: rest) F w := by
  intro a ha
  simp only [wpT, hw a ha, if_true, tAt, hk]
  refine ⟨v, fun w' hw' => hv w' hw' a ha, ?_⟩
  rw [hd]
  exact h _ (ha.put hn v)

theorem wp_shape {a : Act} {K : Act → World → Prop} (h : o.wp P a w K No) (hK : ∀ a' w', K a' w' → a'.defers = a.defers) : o.wp P a w (fun a' w' => (∃ u, a' = a.put o.dst u) ∧ K a' w') No := by
  unfold Oper.wp at *
  generalize (execOp a.eval o).run P w = r at *
  cases r with
  | ok x w1 =>
    cases x <;> simp only [Oper.upon] at h ⊢
    case value v => exact ⟨⟨_, rfl⟩, h⟩
    case skip => exact ⟨⟨_, rfl⟩, h⟩
    case defer dd =>
      have := hK _ _ h
      simp [defers_put] at this
    case enter f args =>
      refine Calls.mono h ?_
      intro e w2 he
      cases e with
      | returned v => exact ⟨⟨_, rfl⟩, he⟩
      | panicked c => exact he
      | outgrown => obtain ⟨_, _, hx⟩ := he; exact hx.elim
    case row row args => exact Rows.mono h fun v w2 hv => ⟨⟨_, rfl⟩, hv⟩
    all_goals exact h
  | halt x w1 => cases x <;> simp only [Oper.upon] at h ⊢ <;> exact h

theorem t_st (hk : kd o = 2) (hw : Wd n F ops o) (h : St P n F o w (fun F' w' => (C w' ∨ fin ops k = true) ∧ T P n ops C Q (k + 1) rest F' w')) : T P n ops C Q k (o :: rest) F w := by
  intro a ha
  simp only [wpT, hw a ha, if_true, tAt, hk]
  refine Oper.wp_mono ?_ (wp_shape (h a ha) fun a' w' ⟨F', _, hd, _⟩ => hd)
  rintro a' w' ⟨hs, F', hr, _, hc, hT⟩
  exact ⟨hc, hs, hT _ hr⟩

theorem t_no {j t : Nat} {b b' : Bool} (hg : o.guard = some (j, b)) (hd : o.dst = some d) (hn : Nat.blt d n = true) (ht : (ops[j]?).bind (·.dst) = some t) (hv : get F t = some (.bool b')) (hne : b' = !b)
    (h : T P n ops C Q (k + 1) rest ((d, undef) :: F) w) : T P n ops C Q k (o :: rest) F w := by
  intro a ha
  have hw : Region.wanted o (yielded ops a.tmps) = false := by
    subst hne
    simp [Region.wanted, hg, yielded, ht, ha.get t _ hv]
  simp only [wpT, hw, Bool.false_eq_true, if_false]
  rw [hd]
  exact h _ (ha.put hn undef)
end
end Go.Wk
