/-
  Memory, told in whole blocks; how a world may turn; what single operations do, each as one lemma.
-/
import Derived.Test.YthbahcjkncfpdaaEngA
namespace Go.Wk

/-! ### Blocks, and how the world turns -/
/-- Block b holds just these cells, of that type, none frozen. -/
def Blk (w : World) (b : Nat) (e : TypeId) (c : List Value) : Prop := w.heap[b]? = some (.cells c.toArray e (0, 0))

/-- New blocks, and other contents in blocks of S alone. -/
structure Chg (S : List Nat) (w w' : World) : Prop where
  os : w'.os = w.os
  tape : w'.tape = w.tape
  output : w'.output = w.output
  size : w.heap.size ≤ w'.heap.size
  block : ∀ k, k < w.heap.size → k ∉ S → w'.heap[k]? = w.heap[k]?

theorem Chg.refl (S : List Nat) (w : World) : Chg S w w := ⟨rfl, rfl, rfl, Nat.le_refl _, fun _ _ _ => rfl⟩
/-- Two turns: what the second may turn, the first may turn too, or it is new. -/
theorem Chg.trans' {S S2 : List Nat} {w w1 w2 : World} (h : Chg S w w1) (h2 : Chg S2 w1 w2) (hs : ∀ k ∈ S2, k ∈ S ∨ w.heap.size ≤ k) : Chg S w w2 :=
  ⟨h2.os.trans h.os, h2.tape.trans h.tape, h2.output.trans h.output, Nat.le_trans h.size h2.size, fun k hk hn =>
    (h2.block k (Nat.lt_of_lt_of_le hk h.size) (fun hm => (hs k hm).elim hn (fun e => by omega))).trans (h.block k hk hn)⟩
theorem Chg.trans {S : List Nat} {w w1 w2 : World} (h : Chg S w w1) (h2 : Chg [] w1 w2) : Chg S w w2 := h.trans' h2 (fun _ hk => by cases hk)
theorem Chg.transS {S : List Nat} {w w1 w2 : World} (h : Chg S w w1) (h2 : Chg S w1 w2) : Chg S w w2 := h.trans' h2 (fun _ hk => .inl hk)
theorem Chg.weak {S S2 : List Nat} {w w1 : World} (h : Chg S w w1) (hs : ∀ k ∈ S, k ∈ S2) : Chg S2 w w1 :=
  ⟨h.os, h.tape, h.output, h.size, fun k hk hn => h.block k hk (fun e => hn (hs k e))⟩
theorem Chg.any {S : List Nat} {w w1 : World} (h : Chg [] w w1) : Chg S w w1 := h.weak (fun _ hk => by cases hk)
/-- A turn of new blocks alone. -/
theorem Chg.own {S : List Nat} {w w1 w2 : World} (h : Chg [] w w1) (h2 : Chg S w1 w2) (hs : ∀ k ∈ S, w.heap.size ≤ k) : Chg [] w w2 := h.trans' h2 (fun k hk => .inr (hs k hk))
theorem Chg.drew (S : List Nat) (w : World) : Chg S w w.drew := ⟨rfl, rfl, rfl, Nat.le_refl _, fun _ _ _ => rfl⟩
theorem Chg.alloc (S : List Nat) (w : World) (o : Obj) : Chg S w (w.alloc o) :=
  ⟨rfl, rfl, rfl, by simp, fun k hk _ => Go.RowKit.Below.heap_alloc w o k hk⟩
theorem Chg.grownBy {w w' : World} {row : Option Nat} {S : List Nat} (h : w.grownBy w' row) (hS : ∀ k, row = some k → k ∈ S) : Chg S w w' :=
  ⟨h.os, h.tape, h.output, h.size, fun k hk hn => h.block k hk (fun e => hn (hS k e.symm))⟩
theorem Chg.below {w w' : World} (h : Chg [] w w') : Go.RowKit.Below w.heap.size w w' :=
  ⟨h.os, h.tape, h.output, h.size, fun k hk => h.block k hk (by simp)⟩

theorem Blk.lt {w : World} {b : Nat} {e : TypeId} {c : List Value} (h : Blk w b e c) : b < w.heap.size := (Array.getElem?_eq_some_iff.1 h).1
theorem Blk.chg {S : List Nat} {w w' : World} {b : Nat} {e : TypeId} {c : List Value} (h : Blk w b e c) (hc : Chg S w w') (hs : b ∉ S) : Blk w' b e c :=
  (hc.block b h.lt hs).trans h
theorem Blk.chg0 {w w' : World} {b : Nat} {e : TypeId} {c : List Value} (h : Blk w b e c) (hc : Chg [] w w') : Blk w' b e c := h.chg hc (by simp)
theorem Blk.inj {w : World} {b : Nat} {e e' : TypeId} {c c' : List Value} (h : Blk w b e c) (h' : Blk w b e' c') : e = e' ∧ c = c' := by
  have := h.symm.trans h'
  simp only [Option.some.injEq, Obj.cells.injEq] at this
  exact ⟨this.2.1, by simpa using congrArg Array.toList this.1⟩
theorem Blk.ne {w : World} {b b' : Nat} {e e' : TypeId} {c c' : List Value} (h : Blk w b e c) (h' : Blk w b' e' c') (hne : Nat.beq e e' = false) : b ≠ b' := by
  rintro rfl
  obtain ⟨rfl, _⟩ := h.inj h'
  simp at hne
theorem Blk.cell {w : World} {b : Nat} {e : TypeId} {c : List Value} (h : Blk w b e c) (i : Nat) : w.cell? ⟨b, i, none⟩ = c[i]? := by
  simp [World.cell?, (show w.heap[b]? = _ from h)]
theorem Blk.cell' {w : World} {b : Nat} {e : TypeId} {c : List Value} {v : Value} {i : Nat} (h : Blk w b e c) (hi : c[i]? = some v) : w.cell? ⟨b, i, none⟩ = some v := by
  rw [h.cell, hi]
theorem Blk.free {w : World} {b : Nat} {e : TypeId} {c : List Value} (h : Blk w b e c) (a : Addr) (ha : a.block = b) : w.frozen? a = false := by
  subst ha
  simp [World.frozen?, (show w.heap[a.block]? = _ from h)]
theorem Blk.new (w : World) (e : TypeId) (c : List Value) : Blk (w.alloc (.cells c.toArray e)) w.heap.size e c := heap_alloc_new w _
theorem Blk.row {w : World} {b : Nat} {e : TypeId} {c : List Value} (h : Blk w b e c) (c' : List Value) : Blk (w.setRow b c'.toArray) b e c' :=
  setRow_heap w b _ _ _ _ h
theorem Chg.row (w : World) (b : Nat) (c : Array Value) : Chg [b] w (w.setRow b c) :=
  ⟨rfl, rfl, rfl, by simp [World.setRow], fun k _ hn => setRow_other w b k c (fun e => hn (by simp [e]))⟩

/-- Some cells, wherever they lie. -/
def Cells (w : World) (b off : Nat) (cs : List Value) : Prop := ∀ j u, cs[j]? = some u → w.cell? ⟨b, off + j, none⟩ = some u
theorem Cells.of_blk {w : World} {b : Nat} {e : TypeId} {c : List Value} (h : Blk w b e c) (off : Nat) (cs : List Value) (hs : cs <+: c.drop off) : Cells w b off cs := by
  intro j u hj
  rw [h.cell]
  obtain ⟨r, hr⟩ := hs
  have h1 : (c.drop off)[j]? = some u := by
    rw [← hr, List.getElem?_append_left (by rcases Nat.lt_or_ge j cs.length with h' | h'; exact h'; simp [List.getElem?_eq_none h'] at hj)]
    exact hj
  simpa using h1
theorem Cells.of_blk0 {w : World} {b : Nat} {e : TypeId} {c : List Value} (h : Blk w b e c) : Cells w b 0 c := Cells.of_blk h 0 c (by simp)

/-! ### Closed facts of a program's types -/
def szOf (P : Program) (t : TypeId) : Option Nat := (P.info? t).map (·.size)
def zrOf (P : Program) (t : TypeId) : Option Value := (P.info? t).bind (·.zero)
def byOf (P : Program) (t : TypeId) : Option Nat := (P.info? t).map (·.bytes)
def agOf (P : Program) (t : TypeId) : Option Bool := (P.underlying t).map fun d => match d with | .struct _ | .array _ _ => true | _ => false
def slOf (P : Program) (t : TypeId) : Option TypeId := match P.underlying t with | some (.slice e) => some e | _ => none
def arOf (P : Program) (t : TypeId) : Option (Nat × TypeId) := match P.underlying t with | some (.array n e) => some (n, e) | _ => none
def foOf (P : Program) (t : TypeId) (i : Nat) : Option Nat :=
  match P.underlying t with
  | some (.struct fs) => (fs[i]?).bind fun f => match szOf P f.type with | some 0 => none | some _ => some f.offset | none => none
  | _ => none
def bodied (P : Program) (g : FuncId) : Bool :=
  match P.funcs[g]? with
  | some fn => fn.body.isSome && !(fn.name == "runtime.NumGoroutine")
  | none => false

section
variable {P : Program} {t e : TypeId} {k : Nat} {w : World}
theorem run_sizeOf (h : szOf P t = some k) : (sizeOf t).run P w = .ok k w := by
  unfold szOf at h
  cases hi : P.info? t with
  | none => simp [hi] at h
  | some i => simp [hi] at h; simp [sizeOf, typeInfo, hi, h]
theorem run_zero {z : Value} (h : zrOf P t = some z) : (zeroValue t).run P w = .ok z w := by
  unfold zrOf at h
  cases hi : P.info? t with
  | none => simp [hi] at h
  | some i => simp [hi] at h; simp [zeroValue, typeInfo, hi, h]
theorem run_isAgg {b : Bool} (h : agOf P t = some b) : (isAgg t).run P w = .ok b w := by
  unfold agOf at h
  cases hu : P.underlying t with
  | none => simp [hu] at h
  | some d =>
    simp [hu] at h
    subst h
    cases d <;> simp [isAgg, run_underlying hu]
theorem slOf_und (h : slOf P t = some e) : P.underlying t = some (.slice e) := by
  unfold slOf at h
  split at h
  · rename_i e' he; simp at h; subst h; exact he
  · simp at h
theorem arOf_und {m : Nat} (h : arOf P t = some (m, e)) : P.underlying t = some (.array m e) := by
  unfold arOf at h
  split at h
  · rename_i m' e' he; simp at h; obtain ⟨rfl, rfl⟩ := h; exact he
  · simp at h
end

def evs (F : Fr) : List Operand → Option (List Value)
  | [] => some []
  | x :: r => match ev F x with
    | none => none
    | some v => match evs F r with
      | none => none
      | some vs => some (v :: vs)

theorem Rep.evals {n : Nat} {F : Fr} {a : Act} (h : Rep n F a) : ∀ (l : List Operand) (vs : List Value), evs F l = some vs → l.map a.eval = vs
  | [], vs, hl => by simpa [evs] using hl
  | x :: r, vs, hl => by
    simp only [evs] at hl
    cases hx : ev F x with
    | none => simp [hx] at hl
    | some v =>
      rw [hx] at hl
      cases hr : evs F r with
      | none => simp [hr] at hl
      | some us =>
        rw [hr] at hl
        simp only [Option.some.injEq] at hl
        subst hl
        simp [h.eval hx, h.evals r us hr]

def evs2 (F : Fr) : List (Nat × Operand) → Option (List (Nat × Value))
  | [] => some []
  | (i, x) :: r => match ev F x with
    | none => none
    | some v => match evs2 F r with
      | none => none
      | some vs => some ((i, v) :: vs)

theorem Rep.evals2 {n : Nat} {F : Fr} {a : Act} (h : Rep n F a) : ∀ (l : List (Nat × Operand)) (vs : List (Nat × Value)), evs2 F l = some vs → l.map (fun p => (p.1, a.eval p.2)) = vs
  | [], vs, hl => by simpa [evs2] using hl
  | (i, x) :: r, vs, hl => by
    simp only [evs2] at hl
    cases hx : ev F x with
    | none => simp [hx] at hl
    | some v =>
      rw [hx] at hl
      cases hr : evs2 F r with
      | none => simp [hr] at hl
      | some us =>
        rw [hr] at hl
        simp only [Option.some.injEq] at hl
        subst hl
        simp [h.eval hx, h.evals2 r us hr]

/-! ### Operations that look at no memory -/
section
variable {P : Program} {n : Nat} {F : Fr} {w : World} {dst : Option Tmp} {ty : TypeId} {pos : String} {af : Array Edge} {gd : Option (Nat × Bool)}

theorem vl_move {x : Operand} {v : Value} (hx : ev F x = some v) : Vl P n F ⟨dst, .move x, ty, pos, af, gd⟩ w v w :=
  fun a ha => by simp [execOp, ha.eval hx]
theorem vl_assign {x : Operand} {v : Value} (hx : ev F x = some v) : Vl P n F ⟨dst, .assign x, ty, pos, af, gd⟩ w v w :=
  fun a ha => by simp [execOp, ha.eval hx]
theorem vl_pick_t {c x y : Operand} {v : Value} (hc : ev F c = some (.bool true)) (hx : ev F x = some v) : Vl P n F ⟨dst, .pick c x y, ty, pos, af, gd⟩ w v w :=
  fun a ha => by simp [execOp, ha.eval hc, ha.eval hx, asBool]
theorem vl_pick_f {c x y : Operand} {v : Value} (hc : ev F c = some (.bool false)) (hy : ev F y = some v) : Vl P n F ⟨dst, .pick c x y, ty, pos, af, gd⟩ w v w :=
  fun a ha => by simp [execOp, ha.eval hc, ha.eval hy, asBool]
theorem vl_not {x : Operand} {t : TypeId} {b : Bool} (hx : ev F x = some (.bool b)) : Vl P n F ⟨dst, .unOp .not t x, ty, pos, af, gd⟩ w (.bool (!b)) w :=
  fun a ha => by simp [execOp, ha.eval hx, Op.unary]

theorem vl_lss {x y : Operand} {t u : TypeId} {k : IntKind} {i j : Int} (hx : ev F x = some (.int k i)) (hy : ev F y = some (.int k j)) : Vl P n F ⟨dst, .binOp .lss t x y u, ty, pos, af, gd⟩ w (.bool (decide (i < j))) w :=
  fun a ha => by simp [execOp, ha.eval hx, ha.eval hy, eqGuard, binOp, Op.intCmp]
theorem vl_leq {x y : Operand} {t u : TypeId} {k : IntKind} {i j : Int} (hx : ev F x = some (.int k i)) (hy : ev F y = some (.int k j)) : Vl P n F ⟨dst, .binOp .leq t x y u, ty, pos, af, gd⟩ w (.bool (decide (i ≤ j))) w :=
  fun a ha => by simp [execOp, ha.eval hx, ha.eval hy, eqGuard, binOp, Op.intCmp]
theorem vl_gtr {x y : Operand} {t u : TypeId} {k : IntKind} {i j : Int} (hx : ev F x = some (.int k i)) (hy : ev F y = some (.int k j)) : Vl P n F ⟨dst, .binOp .gtr t x y u, ty, pos, af, gd⟩ w (.bool (decide (j < i))) w :=
  fun a ha => by simp [execOp, ha.eval hx, ha.eval hy, eqGuard, binOp, Op.intCmp]
theorem vl_geq {x y : Operand} {t u : TypeId} {k : IntKind} {i j : Int} (hx : ev F x = some (.int k i)) (hy : ev F y = some (.int k j)) : Vl P n F ⟨dst, .binOp .geq t x y u, ty, pos, af, gd⟩ w (.bool (decide (j ≤ i))) w :=
  fun a ha => by simp [execOp, ha.eval hx, ha.eval hy, eqGuard, binOp, Op.intCmp]
theorem vl_ieq {x y : Operand} {t u : TypeId} {k : IntKind} {i j : Int} (hx : ev F x = some (.int k i)) (hy : ev F y = some (.int k j)) : Vl P n F ⟨dst, .binOp .eql t x y u, ty, pos, af, gd⟩ w (.bool (decide (i = j))) w :=
  fun a ha => by simp [execOp, ha.eval hx, ha.eval hy, eqGuard, binOp, Op.intCmp]; rfl
theorem vl_ine {x y : Operand} {t u : TypeId} {k : IntKind} {i j : Int} (hx : ev F x = some (.int k i)) (hy : ev F y = some (.int k j)) : Vl P n F ⟨dst, .binOp .neq t x y u, ty, pos, af, gd⟩ w (.bool (!decide (i = j))) w :=
  fun a ha => by simp [execOp, ha.eval hx, ha.eval hy, eqGuard, binOp, Op.intCmp]; rfl
theorem vl_add {x y : Operand} {t u : TypeId} {i j : Int} (hx : ev F x = some (.int .i64 i)) (hy : ev F y = some (.int .i64 j)) (h : -9223372036854775808 ≤ i + j ∧ i + j ≤ 9223372036854775807) : Vl P n F ⟨dst, .binOp .add t x y u, ty, pos, af, gd⟩ w (.int .i64 (i + j)) w :=
  fun a ha => by simp [execOp, ha.eval hx, ha.eval hy, eqGuard, binOp, Op.intArith, IntWalk.i64_in _ h]
theorem vl_sub {x y : Operand} {t u : TypeId} {i j : Int} (hx : ev F x = some (.int .i64 i)) (hy : ev F y = some (.int .i64 j)) (h : -9223372036854775808 ≤ i - j ∧ i - j ≤ 9223372036854775807) : Vl P n F ⟨dst, .binOp .sub t x y u, ty, pos, af, gd⟩ w (.int .i64 (i - j)) w :=
  fun a ha => by simp [execOp, ha.eval hx, ha.eval hy, eqGuard, binOp, Op.intArith, IntWalk.i64_in _ h]
theorem vl_mul {x y : Operand} {t u : TypeId} {i j : Int} (hx : ev F x = some (.int .i64 i)) (hy : ev F y = some (.int .i64 j)) (h : -9223372036854775808 ≤ i * j ∧ i * j ≤ 9223372036854775807) : Vl P n F ⟨dst, .binOp .mul t x y u, ty, pos, af, gd⟩ w (.int .i64 (i * j)) w :=
  fun a ha => by simp [execOp, ha.eval hx, ha.eval hy, eqGuard, binOp, Op.intArith, IntWalk.i64_in _ h]
theorem vl_quo {x y : Operand} {t u : TypeId} {i j : Int} (hx : ev F x = some (.int .i64 i)) (hy : ev F y = some (.int .i64 j)) (hi : 0 ≤ i ∧ i ≤ 9223372036854775807) (hj : 1 ≤ j) : Vl P n F ⟨dst, .binOp .quo t x y u, ty, pos, af, gd⟩ w (.int .i64 (i / j)) w := by
  intro a ha
  have h0 : j ≠ 0 := by omega
  have h1 : i.tdiv j = i / j := Int.tdiv_eq_ediv_of_nonneg hi.1
  have h2 : 0 ≤ i / j := Int.ediv_nonneg hi.1 (by omega)
  have h3 : i / j ≤ i := Int.ediv_le_self _ hi.1
  simp [execOp, ha.eval hx, ha.eval hy, eqGuard, binOp, Op.intDiv, h0, h1, IntWalk.i64_in (i / j) ⟨by omega, by omega⟩]

/-- '==' on texts, as texts. -/
theorem toList_beq (s u : ByteArray) : (s.toList == u.toList) = decide (s = u) := by
  have h : s.toList = u.toList ↔ s = u := by
    constructor
    · intro h
      have h1 : s.data.toList = u.data.toList := by simpa [ByteArray.toList_eq] using h
      cases s; cases u
      simp only [ByteArray.mk.injEq]
      exact Array.toList_inj.1 h1
    · rintro rfl; rfl
  by_cases e : s = u
  · subst e; simp
  · have : s.toList ≠ u.toList := fun h' => e (h.1 h')
    simp [e, this]
end
end Go.Wk
