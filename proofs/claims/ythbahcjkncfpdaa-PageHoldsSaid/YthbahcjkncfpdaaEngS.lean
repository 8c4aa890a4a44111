/-
  Texts' order; a function without a body.
-/
import Derived.Test.YthbahcjkncfpdaaEngW
import Derived.Lib.Bytealg
namespace Go.Wk

theorem bytesLess_lt : ∀ (x y : List UInt8), Op.bytesLess x y = decide (x < y)
  | [], [] => by simp [Op.bytesLess]
  | _ :: _, [] => by simp [Op.bytesLess]
  | [], _ :: _ => by simp [Op.bytesLess]
  | a :: x, b :: y => by
    rw [Op.bytesLess, bytesLess_lt x y]
    simp only [List.cons_lt_cons_iff]
    by_cases h1 : a < b <;> by_cases h2 : a = b <;> by_cases h3 : x < y <;> simp [h1, h2, h3]

theorem blt_iff (s u : ByteArray) : blt s u = true ↔ s.data.toList < u.data.toList := by
  unfold blt
  rw [bytesLess_lt, ByteArray.toList_eq, ByteArray.toList_eq]
  simp
theorem ba_ext {s u : ByteArray} (h : s.data.toList = u.data.toList) : s = u := by
  cases s; cases u
  simp only [ByteArray.mk.injEq]
  exact Array.toList_inj.1 h
theorem blt_irrefl (s : ByteArray) : blt s s = false := by
  cases h : blt s s with
  | false => rfl
  | true => exact absurd ((blt_iff s s).1 h) (List.lt_irrefl _)
theorem blt_trans {s u v : ByteArray} (h1 : blt s u = true) (h2 : blt u v = true) : blt s v = true :=
  (blt_iff s v).2 (List.lt_trans ((blt_iff s u).1 h1) ((blt_iff u v).1 h2))
theorem blt_asymm {s u : ByteArray} (h1 : blt s u = true) : blt u s = false := by
  cases h : blt u s with
  | false => rfl
  | true => have := blt_trans h1 h; rw [blt_irrefl] at this; cases this
theorem blt_total {s u : ByteArray} (h1 : blt s u = false) (h2 : blt u s = false) : s = u := by
  refine ba_ext ?_
  have a1 : ¬ s.data.toList < u.data.toList := fun h => by rw [(blt_iff s u).2 h] at h1; cases h1
  have a2 : ¬ u.data.toList < s.data.toList := fun h => by rw [(blt_iff u s).2 h] at h2; cases h2
  exact List.le_antisymm (List.not_lt.1 a2) (List.not_lt.1 a1)
theorem blt_ne {s u : ByteArray} (h : blt s u = true) : s ≠ u := by
  rintro rfl
  rw [blt_irrefl] at h
  cases h

theorem cmpB_lt : ∀ (x y : List UInt8), Lib.compareBytes x y < 0 ↔ x < y
  | [], [] => by simp [Lib.compareBytes]
  | _ :: _, [] => by simp [Lib.compareBytes]
  | [], _ :: _ => by simp [Lib.compareBytes]
  | a :: x, b :: y => by
    have ih := cmpB_lt x y
    rw [Lib.compareBytes, List.cons_lt_cons_iff]
    by_cases h1 : a < b
    · simp [h1]
    · by_cases h2 : b < a
      · have : a ≠ b := fun e => by subst e; exact h1 h2
        simp [h1, h2, this]
      · have : a = b := UInt8.le_antisymm (UInt8.not_lt.1 h2) (UInt8.not_lt.1 h1)
        subst this
        simp [h1, ih]
theorem cmpB_eq : ∀ (x y : List UInt8), Lib.compareBytes x y = 0 ↔ x = y
  | [], [] => by simp [Lib.compareBytes]
  | _ :: _, [] => by simp [Lib.compareBytes]
  | [], _ :: _ => by simp [Lib.compareBytes]
  | a :: x, b :: y => by
    have ih := cmpB_eq x y
    rw [Lib.compareBytes]
    by_cases h1 : a < b
    · have : a ≠ b := fun e => by subst e; exact UInt8.lt_irrefl _ h1
      simp [h1, this]
    · by_cases h2 : b < a
      · have : a ≠ b := fun e => by subst e; exact h1 h2
        simp [h1, h2, this]
      · have : a = b := UInt8.le_antisymm (UInt8.not_lt.1 h2) (UInt8.not_lt.1 h1)
        subst this
        simp [h1, ih]

/-- strings.Compare. -/
def scmp (s u : ByteArray) : Int := Extern.BytealgCompare.cmp s u
theorem scmp_lt (s u : ByteArray) : scmp s u < 0 ↔ blt s u = true := by
  unfold scmp
  rw [Lib.cmp_eq, cmpB_lt, blt_iff]
theorem scmp_eq (s u : ByteArray) : scmp s u = 0 ↔ s = u := by
  unfold scmp
  rw [Lib.cmp_eq, cmpB_eq]
  exact ⟨ba_ext, fun h => by rw [h]⟩

/-- A function without a body, by the model's table. -/
def exOf (P : Program) (g : FuncId) : Option (Array Value → Sem Value) :=
  match P.funcs[g]? with
  | some fn => if fn.name == "runtime.NumGoroutine" || fn.body.isSome || (Extern.findNext fn).isSome then none else Extern.find fn
  | none => none

section
variable {P : Program} {n : Nat} {F : Fr} {w : World} {d : Tmp} {ty : TypeId} {pos : String} {af : Array Edge} {gd : Option (Nat × Bool)} {K : Fr → World → Prop}
theorem st_ext {f : Operand} {as : List Operand} {ts : Array TypeId} {g : FuncId} {x : Array Value → Sem Value} {vs : List Value} {v : Value} {w' : World} (hb : exOf P g = some x) (hf : ev F f = some (.func (.func g) #[] #[])) (ha : evs F as = some vs)
    (hx : (x vs.toArray).run P w = .ok v w') (hn : Nat.blt d n = true) (h : K ((d, v) :: F) w') :
    St P n F ⟨some d, .call { callee := .value f, args := as.toArray, argTypes := ts }, ty, pos, af, gd⟩ w K := by
  refine St.vl (v := v) (w' := w') ?_ rfl hn h
  intro a hr
  unfold exOf at hb
  split at hb
  · rename_i fn hfn
    split at hb
    · simp at hb
    · rename_i hc
      simp only [Bool.or_eq_true, not_or, Bool.not_eq_true] at hc
      obtain ⟨⟨c1, c2⟩, c3⟩ := hc
      have h1 : fn.body = none := by simpa using c2
      have h2 : ¬ fn.name = "runtime.NumGoroutine" := by simpa using c1
      have h3 : Extern.findNext fn = none := by simpa using c3
      simp [execOp, resolve, hr.eval hf, Deferred.ofValue, hr.evals as vs ha, invoke, callFunc, hfn, h1, h2, h3, hb, hx]
  · simp at hb
end
end Go.Wk
