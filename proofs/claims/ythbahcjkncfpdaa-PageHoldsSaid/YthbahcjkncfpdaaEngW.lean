/-
  Small steps of the structure: the end of a region, of a branch; leaving.
-/
import Derived.Test.YthbahcjkncfpdaaEngE
namespace Go.Wk
section
variable {P : Program} {n : Nat} {Q : Exit → Fr → World → Prop} {K : Fr → World → Prop} {F : Fr} {w : World} {ops : Array Oper} {id : Nat}

theorem O_end (keep : List Nat) {F' : Fr} (hF : prune keep F = F') (h : K F' w) : O P n ops (thenF K Q) [] F w := O_nil_prune keep hF h
theorem T_end (keep : List Nat) {F' : Fr} {C : World → Prop} {k : Nat} (hF : prune keep F = F') (h : K F' w) : T P n ops C (thenF K Q) k [] F w := T_nil_prune keep hF h
theorem O_endN (keep : List Nat) {F' : Fr} (hF : prune keep F = F') (h : Q .normal F' w) : O P n ops Q [] F w := O_nil_prune keep hF h
theorem T_endN (keep : List Nat) {F' : Fr} {C : World → Prop} {k : Nat} (hF : prune keep F = F') (h : Q .normal F' w) : T P n ops C Q k [] F w := T_nil_prune keep hF h
theorem W_skipE (h : K F w) : W P n .skip (thenF K Q) F w := W_skip h
theorem then_normal (h : K F w) : thenF K Q .normal F w := h
theorem then_exit (h : Q (.exit id) F w) : thenF K Q (.exit id) F w := h
theorem then_ret (h : Q .ret F w) : thenF K Q .ret F w := h
theorem block_normal (h : Q .normal F w) : blockF id Q .normal F w := h
theorem block_ret (h : Q .ret F w) : blockF id Q .ret F w := h

theorem vl_is {o : Oper} {w' : World} {b b' : Bool} (h : Vl P n F o w (.bool b) w') (e : b = b') : Vl P n F o w (.bool b') w' := e ▸ h
theorem vl_eq {o : Oper} {w' : World} {v v' : Value} (h : Vl P n F o w v w') (e : v = v') : Vl P n F o w v' w' := e ▸ h

theorem vl_convn {x : Operand} {t u : TypeId} {dst : Option Tmp} {ty : TypeId} {pos : String} {af : Array Edge} {gd : Option (Nat × Bool)} {k k' : IntKind} {i j : Int} (hu : itOf P u k' = true) (ht : itOf P t k = true) (hx : ev F x = some (.int k i)) (hj : k'.wrap i = j) : Vl P n F ⟨dst, .convert t u x, ty, pos, af, gd⟩ w (.int k' j) w :=
  hj ▸ vl_conv hu ht hx
theorem vl_shrn {x y : Operand} {t u : TypeId} {dst : Option Tmp} {ty : TypeId} {pos : String} {af : Array Edge} {gd : Option (Nat × Bool)} {k k' : IntKind} {i j : Int} (hb : 1 ≤ k.bits) (hx : ev F x = some (.int k i)) (hy : ev F y = some (.int k' 1)) (hj : i.fdiv 2 = j) : Vl P n F ⟨dst, .binOp .shr t x y u, ty, pos, af, gd⟩ w (.int k j) w :=
  hj ▸ vl_shr1 hb hx hy
end
end Go.Wk
