/-
  Ranges over a function: what is left to be carried out behind; results that lie in a cell; a range whose iterator hands over nothing.
-/
import Derived.Test.YthbahcjkncfpdaaEngH
import Derived.RangeFuncNested
import Derived.RangeFuncLeaves
import Derived.Carry
import Derived.Scope
namespace Go.Wk

theorem Chg.put (w : World) (b : Nat) (o : Obj) : Chg [b] w (w.putObj b o) :=
  ⟨rfl, rfl, rfl, by simp [World.putObj], fun k _ hn => World.putObj_heap_other (fun e => hn (by simp [e]))⟩
theorem Chg.grown0 {w w' : World} (h : Chg [] w w') : w.grownBy w' none := ⟨h.os, h.tape, h.output, h.size, fun k hk _ => h.block k hk (by simp)⟩
theorem Chg.of_grown {w0 w w' : World} {row : Option Nat} (h : Chg [] w0 w) (hg : w.grownBy w' row) (hr : ∀ r, row = some r → w0.heap.size ≤ r) : Chg [] w0 w' := by
  refine h.own (S := row.toList) ⟨hg.os, hg.tape, hg.output, hg.size, fun k hk hn => hg.block k hk (fun e => hn (by rw [← e]; simp))⟩ ?_
  intro k hk
  cases row with
  | none => simp at hk
  | some r => simp at hk; subst hk; exact hr k rfl

/-- What is left behind is shut, one after the other. -/
def ShutL : List Nat → World → World → Prop
  | [], w, w' => w' = w
  | b :: r, w, w' => w.heap[b]? = some (.deferred (some [])) ∧ ShutL r (w.putObj b (.deferred none)) w'

def retFM (P : Program) (fn : Func) (R : Value → World → Prop) (n : Nat) : Exit → Fr → World → Prop
  | .normal, F, w | .ret, F, w => ∃ v w', ShutL (marks F) w w' ∧ (∀ a, Rep n F a → (results fn a.tmps).run P w' = .ok v w') ∧ R v w'
  | _, _, _ => False

theorem leaves_of {P : Program} {fn : Func} {tmps : Array Value} {R : Ending → World → Prop} {n : Nat} : ∀ (ms : List Nat) (w w' : World), ShutL ms w w' → LeavesIn Fence.wide n P fn tmps R [] .returning w' → LeavesInM Fence.wide n P fn tmps R (ms.map mkD) .returning w
  | [], w, w', h, hl => by
    have : w' = w := h
    subst this
    exact hl
  | b :: r, w, w', h, hl => by
    obtain ⟨h1, h2⟩ := h
    refine ⟨by simp, .inl ⟨b, _, rfl, run_takeDeferred h1, leaves_of r _ w' h2 hl⟩⟩

theorem Ret.of_WM {P : Program} {f : FuncId} {fn : Func} {c : Code} {args : List Value} {w : World} {R : Value → World → Prop} {n : Nat} {F : Fr}
    (hf : P.funcs[f]? = some fn) (hb : fn.body = some c) (hn : fn.ntmps = n) (hl : Nat.ble args.length n = true) (hF : frameOf 0 args = F)
    (h : W P n c (retFM P fn R n) F w) (hk : Nat.ble n 1000000 = true := by rfl) : Ret P f args.toArray w R := by
  subst hF hn
  refine (callsIn_wide (n := 3)).1 ?_
  refine callsIn_of_wp_marks hf hb trivial ?_
  refine wpIn_wide.2 ?_
  refine wp_mono (h _ (Rep.frameOf hl (Nat.le_of_ble_eq_true hk))) ?_
  rintro e a w' ⟨F', hr', hq⟩
  have fin : (∃ v w1, ShutL (marks F') w' w1 ∧ (∀ a, Rep fn.ntmps F' a → (results fn a.tmps).run P w1 = .ok v w1) ∧ R v w1) → LeavesInM Fence.wide 3 P fn a.tmps (fun e w' => ∃ v, e = .returned v ∧ R v w') a.defers .returning w' := by
    rintro ⟨v, w1, hs, hv, hR⟩
    rw [hr'.defers]
    refine leaves_of _ _ _ hs ?_
    exact ⟨v, hv _ hr', v, rfl, hR⟩
  cases e <;> simp only [retFM] at hq
  case normal => exact fin hq
  case ret => exact fin hq

section
variable {P : Program} {fn : Func} {R : Value → World → Prop} {n : Nat} {F : Fr} {w : World}
/-- A result in a cell; nothing is left behind. -/
theorem retM0 {t ty : Nat} {p : Addr} {v : Value} (hr : fn.results = #[.cell t ty]) (hag : agOf P ty = some false) (hv : get F t = some (.pointer (some p))) (hc : w.cell? p = some v) (h : R v w) (hm : marks F = [] := by rfl) : retFM P fn R n .ret F w := by
  refine ⟨v, w, by rw [hm]; rfl, fun a ha => ?_, h⟩
  simp [results, hr, ha.get t _ hv, asAddr, loadVar, run_isAgg hag, hc]
/-- One mark is left behind. -/
theorem retM1 {t ty D : Nat} {p : Addr} {v : Value} (hr : fn.results = #[.cell t ty]) (hag : agOf P ty = some false) (hv : get F t = some (.pointer (some p))) (hm : marks F = [D]) (hD : w.heap[D]? = some (.deferred (some [])))
    (h : ∀ w', Chg [D] w w' → w'.cell? p = some v ∧ R v w') : retFM P fn R n .ret F w := by
  have hh := h _ (Chg.put w D (.deferred none))
  refine ⟨v, _, by rw [hm]; exact ⟨hD, rfl⟩, fun a ha => ?_, hh.2⟩
  simp [results, hr, ha.get t _ hv, asAddr, loadVar, run_isAgg hag, hh.1]
end

section
variable {P : Program} {n : Nat} {Q : Exit → Fr → World → Prop} {F : Fr} {w : World}
def scopeF (Q : Exit → Fr → World → Prop) : Exit → Fr → World → Prop
  | .goto _, _, _ => False
  | e, F, w => Q e F w
theorem W_scope {c : Code} (h : W P n c (scopeF Q) F w) : W P n (.scope c) Q F w := by
  intro a ha
  refine wp_scope_straight (wp_mono (h a ha) ?_)
  rintro e a' w' ⟨F', hr, hq⟩
  cases e with
  | goto l => exact hq.elim
  | _ => exact ⟨F', hr, hq⟩

theorem Rep.mark {a : Act} (h : Rep n F a) (D : Nat) : Rep n ((1000000, .int .i64 D) :: F) { a with defers := { target := .collected D, args := #[] } :: a.defers } := by
  refine ⟨h.lt, h.size, ?_, fun i v hi => ?_⟩
  · have hb : Nat.ble 1000000 1000000 = true := rfl
    have e : marks ((1000000, Value.int .i64 (D : Int)) :: F) = D :: marks F := by simp [marks, markF, markN, hb]
    rw [e]
    simp [h.defers, mkD]
  · refine h.get i v ?_
    simp only [Wk.get] at hi
    by_cases e : i = 1000000
    · subst e
      have hb : Nat.ble 1000000 1000000 = true := rfl
      simp [hb] at hi
    · rw [beq_ne e] at hi; exact hi

/-- A range over a function that hands over nothing. -/
theorem W_range_none {g : Operand} {ps : Array Tmp} {assign body : Code} {gf : FuncId} {lb : List Value} (hg : ev F g = some (.func (.func gf) #[] lb.toArray)) (hb : bodied P gf = true)
    (hc : ∀ l w', Chg [] w w' → Ret P gf ((.func (.yield l) #[] #[]) :: lb).toArray w' fun _ w'' => Chg [] w' w'')
    (h : ∀ (D : Nat) (w' : World), w.heap.size ≤ D → Chg [] w w' → w'.heap[D]? = some (.deferred (some [])) → Q .normal ((1000000, .int .i64 D) :: F) w') :
    W P n (.rangeFunc g ps assign body) Q F w := by
  intro a ha
  refine (wpIn_wide (n := 3)).1 ?_
  have eg : ∀ (args : Array Value) (w : World), (callFunc gf args).run P w = .ok (.enter gf args) w := by
    intro args w
    unfold bodied at hb
    split at hb
    · rename_i fn hfn
      simp only [Bool.and_eq_true, Bool.not_eq_true'] at hb
      have h1 : ¬ fn.body = none := by cases hx : fn.body <;> simp_all
      have h2 : ¬ fn.name = "runtime.NumGoroutine" := by simpa using hb.2
      simp [callFunc, hfn, h1, h2]
    · simp at hb
  refine wpIn_rangeFunc_ownG (α := Empty) (F := Fence.wide) (n := 3) rfl (by omega) (gf := gf) (lb := lb.toArray) (ha.eval hg) trivial eg
    (encs := fun x => x.elim) (Kp := fun _ _ => True) (S := fun _ => True) (Sp := fun _ => False) (N := 0) (w0 := w) ?_ (fun _ _ => trivial) (fun _ _ _ _ _ _ _ _ => trivial) (Go.RowKit.Below.refl _ _) (fun x => x.elim)
    (fun _ W => Chg [] w W) (fun _ _ _ => False) ?_ (fun _ _ _ _ _ hs _ _ => hs) (Chg.refl _ _) (fun x => x.elim) (fun _ x => x.elim) (fun _ _ x => x.elim) ?_ (fun _ _ _ _ _ hs => hs.elim)
  · intro l J Jx W hW hJ _ _ h0
    have hcw : Chg [] w W := ⟨hW.os, hW.tape, hW.output, hW.size, fun k hk _ => hW.block k hk⟩
    have e : (#[Value.func (.yield l) #[] #[]] ++ lb.toArray : Array Value) = (Value.func (.yield l) #[] #[] :: lb).toArray := by simp
    rw [e]
    refine callsIn_wide.2 (Calls.mono (hc l W hcw) ?_)
    rintro e W' ⟨v, rfl, hR⟩
    exact ⟨⟨v, rfl⟩, .inl ⟨[], trivial, hJ _ _ _ none h0 hR.grown0 (fun _ e => by cases e)⟩⟩
  · intro s W W' row hs hgr hr
    exact Chg.of_grown hs hgr (fun r e => (hr r e).1)
  · intro D xs W hD _ hI hK
    exact ⟨_, ha.mark D, h D W hD hI hK⟩
end
end Go.Wk
