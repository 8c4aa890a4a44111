/-
  The engine in a round of a range over a function (and beside it): frames as everywhere, the kit's fenced judgements below.
-/
import Derived.Test.YthbahcjkncfpdaaEngV
import Derived.RangeFuncCalls
import Derived.RangeFuncBound
namespace Go.Wk

def fz (ρ : Option Nat) : Fence := { Fence.wide with round := ρ }
theorem fz_round (l : Nat) : fz (some l) = Fence.wide.inRound l := rfl
theorem fz_none : fz none = Fence.wide := rfl
def isDef (o : Oper) : Bool := match o.op with | .defer _ => true | _ => false

def WX (ρ : Option Nat) (P : Program) (n : Nat) (c : Code) (Q : Exit → Fr → World → Prop) (F : Fr) (w : World) : Prop :=
  ∀ a, Rep n F a → c.wpIn (fz ρ) 1 P (lift n Q) a w
def OX (ρ : Option Nat) (P : Program) (n : Nat) (ops : Array Oper) (Q : Exit → Fr → World → Prop) (l : List Oper) (F : Fr) (w : World) : Prop :=
  ∀ a, Rep n F a → wpListIn (fz ρ) 1 P ops (lift n Q) l a w

theorem wpIn_of_wp {ρ : Option Nat} {m : Nat} {P : Program} {o : Oper} {a : Act} {w : World} {K next : Act → World → Prop} {Q : Exit → Act → World → Prop} (hnd : isDef o = false) (h : o.wp P a w K (fun _ _ _ => False)) (hk : ∀ a' w', K a' w' → next a' w') : o.wpIn (fz ρ) m P a w next Q := by
  have hnd' : ∀ c, o.op ≠ .defer c := fun c e => by simp [isDef, e] at hnd
  refine ⟨fun _ _ => trivial, ?_⟩
  rw [Oper.semAt_eq _ _ _ hnd']
  unfold Oper.wp at h
  generalize (execOp a.eval o).run P w = r at *
  cases r with
  | ok x w1 =>
    cases x <;> simp only [Oper.upon] at h
    case value v => exact hk _ _ h
    case skip => exact hk _ _ h
    case defer d => exact hk _ _ h
    case enter f args =>
      refine ⟨fun e => by simp [fz, Fence.wide] at e, ?_⟩
      have h2 : Calls P f args w1 fun e w'' => match e, w'' with
          | .returned v, w'' => next (a.put o.dst v) w''
          | .panicked chain, w'' => Q (.panic chain) a w''
          | .outgrown, _ => LetsOut Q := by
        refine Calls.mono h ?_
        intro e w2 he
        cases e with
        | returned v => exact hk _ _ he
        | panicked c => exact he.elim
        | outgrown => obtain ⟨_, _, hx⟩ := he; exact hx.elim
      exact (callsIn_wide (n := m - 1)).2 h2
    case row row args =>
      refine ⟨fun e => by simp [fz, Fence.wide] at e, ?_⟩
      have h2 := Rows.mono h fun v w2 hv => hk _ _ hv
      exact fun c cs _ => let ⟨v, w', r, s⟩ := h2 c cs; ⟨v, w', r, stepsIn_wide.2 s⟩
  | halt x w1 => cases x <;> simp only [Oper.upon] at h

section
variable {ρ : Option Nat} {P : Program} {n : Nat} {Q : Exit → Fr → World → Prop} {F : Fr} {w : World} {o : Oper} {ops : Array Oper} {rest : List Oper} {d : Nat}

theorem X_seq {x y : Code} (h : WX ρ P n x (thenF (fun F w => WX ρ P n y Q F w) Q) F w) : WX ρ P n (.seq x y) Q F w := by
  intro a ha
  refine wpIn_seq (wpIn_mono (h a ha) ?_)
  rintro e a' w' ⟨F', hr, hq⟩
  cases e with
  | normal => exact hq a' hr
  | _ => exact ⟨F', hr, hq⟩
theorem X_cond_true {c : Operand} {x y : Code} (hc : ev F c = some (.bool true)) (h : WX ρ P n x Q F w) : WX ρ P n (.cond c x y) Q F w := fun a ha => wpIn_cond_true (ha.eval hc) (h a ha)
theorem X_cond_false {c : Operand} {x y : Code} (hc : ev F c = some (.bool false)) (h : WX ρ P n y Q F w) : WX ρ P n (.cond c x y) Q F w := fun a ha => wpIn_cond_false (ha.eval hc) (h a ha)
theorem X_cond {c : Operand} {x y : Code} {b : Bool} (hc : ev F c = some (.bool b)) (ht : b = true → WX ρ P n x Q F w) (hf : b = false → WX ρ P n y Q F w) : WX ρ P n (.cond c x y) Q F w := by
  cases b with
  | true => exact X_cond_true hc (ht rfl)
  | false => exact X_cond_false hc (hf rfl)
theorem X_block {id : Nat} {c : Code} (h : WX ρ P n c (blockF id Q) F w) : WX ρ P n (.block id c) Q F w := by
  intro a ha
  refine wpIn_block (wpIn_mono (h a ha) ?_)
  rintro e a' w' ⟨F', hr, hq⟩
  cases e with
  | exit id' =>
    simp only [blockF] at hq
    simp only [Exit.inBlock]
    split
    · rename_i e; rw [if_pos e] at hq; exact ⟨F', hr, hq⟩
    · rename_i e; rw [if_neg e] at hq; exact ⟨F', hr, hq⟩
  | _ => exact ⟨F', hr, hq⟩
theorem X_skip (h : Q .normal F w) : WX ρ P n .skip Q F w := fun _ ha => wpIn_skip ⟨F, ha, h⟩
theorem X_skipE {K : Fr → World → Prop} (h : K F w) : WX ρ P n .skip (thenF K Q) F w := X_skip h
theorem X_exit {id : Nat} (h : Q (.exit id) F w) : WX ρ P n (.exit id) Q F w := fun _ ha => wpIn_exit ⟨F, ha, h⟩
theorem X_ret (h : Q .ret F w) : WX ρ P n .ret Q F w := fun _ ha => wpIn_ret ⟨F, ha, h⟩
theorem X_prune (keep : List Nat) {c : Code} {F' : Fr} (hF : prune keep F = F') (h : WX ρ P n c Q F' w) : WX ρ P n c Q F w := fun a ha => h a (hF ▸ ha.prune keep)
theorem X_region {id : Nat} {l : List Oper} (h : OX ρ P n l.toArray Q l F w) : WX ρ P n (.region id l.toArray false) Q F w := fun a ha => wpIn_region_lit (h a ha)
theorem X_end {K : Fr → World → Prop} (keep : List Nat) {F' : Fr} (hF : prune keep F = F') (h : K F' w) : OX ρ P n ops (thenF K Q) [] F w := fun _ ha => wpListIn_nil ⟨F', hF ▸ ha.prune keep, h⟩
theorem X_endN (keep : List Nat) {F' : Fr} (hF : prune keep F = F') (h : Q .normal F' w) : OX ρ P n ops Q [] F w := fun _ ha => wpListIn_nil ⟨F', hF ▸ ha.prune keep, h⟩
theorem X_go (hw : Wd n F ops o) (hnd : isDef o = false) (h : St P n F o w (fun F' w' => OX ρ P n ops Q rest F' w')) : OX ρ P n ops Q (o :: rest) F w := by
  intro a ha
  refine wpListIn_step fun K hK => ?_
  rw [if_pos (hw a ha)]
  refine wpIn_of_wp hnd (h a ha) ?_
  rintro a' w' ⟨F', hr, _, hO⟩
  exact hK _ _ (hO _ hr)
theorem X_no {j t : Nat} {b b' : Bool} (hg : o.guard = some (j, b)) (hd : o.dst = some d) (hn : Nat.blt d n = true) (ht : (ops[j]?).bind (·.dst) = some t) (hv : get F t = some (.bool b'))
    (hne : b' = !b) (h : OX ρ P n ops Q rest ((d, undef) :: F) w) : OX ρ P n ops Q (o :: rest) F w := by
  intro a ha
  have hw : Region.wanted o (yielded ops a.tmps) = false := by
    subst hne
    simp [Region.wanted, hg, yielded, ht, ha.get t _ hv]
  refine wpListIn_step fun K hK => ?_
  rw [if_neg (by simp [hw]), hd]
  exact ⟨fun _ _ => trivial, hK _ _ (h _ (ha.put hn undef))⟩
theorem X_un {j t : Nat} {b : Bool} (hg : o.guard = some (j, b)) (hd : o.dst = some d) (hn : Nat.blt d n = true) (ht : (ops[j]?).bind (·.dst) = some t) (hv : get F t = some undef) (h : OX ρ P n ops Q rest ((d, undef) :: F) w) : OX ρ P n ops Q (o :: rest) F w := by
  intro a ha
  have hw : Region.wanted o (yielded ops a.tmps) = false := by
    simp [Region.wanted, hg, yielded, ht, ha.get t _ hv, undef]
  refine wpListIn_step fun K hK => ?_
  rw [if_neg (by simp [hw]), hd]
  exact ⟨fun _ _ => trivial, hK _ _ (h _ (ha.put hn undef))⟩
end
end Go.Wk
