/-
  A call of yield, in the engine; a function that is an iterator.
-/
import Derived.Test.YthbahcjkncfpdaaEngY
namespace Go.Wk

theorem roundIn_wide {m k : Nat} {P : Program} {l : Nat} {f : FuncId} {tmps : Array Value} {assign body : Code} {w : World} {R : Ending → World → Prop} (h : RoundIn Fence.wide m P l f tmps assign body w R) : RoundIn (fz none) k P l f tmps assign body w R :=
  ⟨trivial, fun c cs _ => h.2 c cs (room_wide _)⟩

section
variable {P : Program} {n : Nat} {Q : Exit → Fr → World → Prop} {F : Fr} {w : World} {ops : Array Oper} {rest : List Oper} {d : Nat} {ty : TypeId} {pos : String} {af : Array Edge} {gd : Option (Nat × Bool)}
theorem X_yield {f : Operand} {as : List Operand} {ts : Array TypeId} {l m : Nat} {vs : List Value} {R : Ending → World → Prop} (hw : Wd n F ops ⟨some d, .call { callee := .value f, args := as.toArray, argTypes := ts }, ty, pos, af, gd⟩) (hf : ev F f = some (.func (.yield l) #[] #[])) (ha : evs F as = some vs) (hn : Nat.blt d n = true)
    (hy : YieldAt Fence.wide m P l vs.toArray w R) (hR : ∀ e w', R e w' → ∃ v, e = .returned v ∧ OX none P n ops Q rest ((d, v) :: F) w') :
    OX none P n ops Q (⟨some d, .call { callee := .value f, args := as.toArray, argTypes := ts }, ty, pos, af, gd⟩ :: rest) F w := by
  intro a hr
  refine wpListIn_step fun K hK => ?_
  rw [if_pos (hw a hr)]
  obtain ⟨fn, tmps, assign, body, hrun, hround⟩ := hy
  refine ⟨fun _ _ => trivial, ?_⟩
  rw [Oper.semAt_eq _ _ _ (fun c e => by cases e)]
  have hx : (execOp a.eval ⟨some d, .call { callee := .value f, args := as.toArray, argTypes := ts }, ty, pos, af, gd⟩).run P w = .ok (.round l fn tmps assign body) w := by
    simp [execOp, resolve, hr.eval hf, Deferred.ofValue, hr.evals as vs ha, invoke, hrun]
  rw [hx]
  refine ⟨fun e => by simp [fz, Fence.wide] at e, ?_⟩
  refine RoundIn.mono (roundIn_wide hround) ?_
  intro e w' he
  obtain ⟨v, rfl, hO⟩ := hR e w' he
  exact hK _ _ (hO _ (hr.put hn v))
end

theorem CallsIn.of_WX {P : Program} {f : FuncId} {fn : Func} {c : Code} {args : List Value} {w : World} {R : Value → World → Prop} {n m : Nat} {F : Fr}
    (hf : P.funcs[f]? = some fn) (hb : fn.body = some c) (hn : fn.ntmps = n) (hl : Nat.ble args.length n = true) (hF : frameOf 0 args = F)
    (h : WX none P n c (retF P fn R n) F w) (hk : Nat.ble n 1000000 = true := by rfl) : CallsIn Fence.wide m P f args.toArray w fun e w' => ∃ v, e = .returned v ∧ R v w' := by
  subst hF hn
  refine (callsIn_wide (n := m)).2 ((callsIn_wide (n := 1)).1 ?_)
  refine callsIn_of_wp hf hb trivial ?_
  refine wpIn_mono (h _ (Rep.frameOf hl (Nat.le_of_ble_eq_true hk))) ?_
  rintro e a w' ⟨F', hr', hq⟩
  cases e <;> simp only [retF] at hq
  case normal => obtain ⟨v, hv, hm, hR⟩ := hq; exact ⟨by rw [hr'.defers, hm]; rfl, v, hv _ hr', v, rfl, hR⟩
  case ret => obtain ⟨v, hv, hm, hR⟩ := hq; exact ⟨by rw [hr'.defers, hm]; rfl, v, hv _ hr', v, rfl, hR⟩

section
variable {P : Program} {n : Nat} {Q : Exit → Fr → World → Prop} {F : Fr} {w : World}
theorem WX_of_W {c : Code} (h : W P n c Q F w) : WX none P n c Q F w := fun a ha => wpIn_wide.2 (h a ha)
/-- A region with a call of yield, outside of rounds. -/
theorem W_regionX {id : Nat} {l : List Oper} (h : OX none P n l.toArray Q l F w) : W P n (.region id l.toArray false) Q F w := fun a ha => (wpIn_wide (n := 1)).1 (wpIn_region_lit (h a ha))
end
end Go.Wk
