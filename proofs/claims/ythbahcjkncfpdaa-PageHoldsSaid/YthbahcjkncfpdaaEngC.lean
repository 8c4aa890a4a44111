/-
  More of what single operations do: texts, pointers, addresses, loads, stores, new memory, calls.
-/
import Derived.Test.YthbahcjkncfpdaaEngB
namespace Go.Wk

def ptOf (P : Program) (t : TypeId) : Bool := match P.underlying t with | some (.pointer _) => true | _ => false
def stOf (P : Program) (t : TypeId) : Bool := match P.underlying t with | some .string => true | _ => false
def itOf (P : Program) (t : TypeId) (k : IntKind) : Bool := match P.underlying t with | some (.int k') => decide (k = k') | _ => false
def boOf (P : Program) (t : TypeId) : Bool := match P.underlying t with | some .bool => true | _ => false

/-- A text is before another one. -/
def blt (s u : ByteArray) : Bool := Op.bytesLess s.toList u.toList

theorem run_equal {P : Program} {t : TypeId} {x y : Value} {w : World} {r : Result Bool} (h : ∀ d, (Op.equalIn (d + 1) t x y).run P w = r) : (Op.equal t x y).run P w = r := h 9999

section
variable {P : Program} {n : Nat} {F : Fr} {w : World} {dst : Option Tmp} {ty : TypeId} {pos : String} {af : Array Edge} {gd : Option (Nat × Bool)}

theorem vl_seq {x y : Operand} {t u : TypeId} {s r : ByteArray} (hx : ev F x = some (.string s)) (hy : ev F y = some (.string r)) : Vl P n F ⟨dst, .binOp .eql t x y u, ty, pos, af, gd⟩ w (.bool (decide (s = r))) w :=
  fun a ha => by simp only [execOp, ha.eval hx, ha.eval hy, eqGuard, binOp, Op.stringOp, toList_beq]; simp
theorem vl_sne {x y : Operand} {t u : TypeId} {s r : ByteArray} (hx : ev F x = some (.string s)) (hy : ev F y = some (.string r)) : Vl P n F ⟨dst, .binOp .neq t x y u, ty, pos, af, gd⟩ w (.bool (!decide (s = r))) w :=
  fun a ha => by simp only [execOp, ha.eval hx, ha.eval hy, eqGuard, binOp, Op.stringOp, toList_beq]; simp
theorem vl_slt {x y : Operand} {t u : TypeId} {s r : ByteArray} (hx : ev F x = some (.string s)) (hy : ev F y = some (.string r)) : Vl P n F ⟨dst, .binOp .lss t x y u, ty, pos, af, gd⟩ w (.bool (blt s r)) w :=
  fun a ha => by simp only [execOp, ha.eval hx, ha.eval hy, eqGuard, binOp, Op.stringOp, blt]; simp
theorem vl_sge {x y : Operand} {t u : TypeId} {s r : ByteArray} (hx : ev F x = some (.string s)) (hy : ev F y = some (.string r)) : Vl P n F ⟨dst, .binOp .geq t x y u, ty, pos, af, gd⟩ w (.bool (!blt s r)) w :=
  fun a ha => by simp only [execOp, ha.eval hx, ha.eval hy, eqGuard, binOp, Op.stringOp, blt]; simp
theorem vl_sle {x y : Operand} {t u : TypeId} {s r : ByteArray} (hx : ev F x = some (.string s)) (hy : ev F y = some (.string r)) : Vl P n F ⟨dst, .binOp .leq t x y u, ty, pos, af, gd⟩ w (.bool (blt s r || decide (s = r))) w :=
  fun a ha => by simp only [execOp, ha.eval hx, ha.eval hy, eqGuard, binOp, Op.stringOp, blt, toList_beq]; simp
theorem vl_sgt {x y : Operand} {t u : TypeId} {s r : ByteArray} (hx : ev F x = some (.string s)) (hy : ev F y = some (.string r)) : Vl P n F ⟨dst, .binOp .gtr t x y u, ty, pos, af, gd⟩ w (.bool (!(blt s r || decide (s = r)))) w :=
  fun a ha => by simp only [execOp, ha.eval hx, ha.eval hy, eqGuard, binOp, Op.stringOp, blt, toList_beq]; simp
theorem vl_cat {x y : Operand} {t u : TypeId} {s r : ByteArray} (hx : ev F x = some (.string s)) (hy : ev F y = some (.string r)) (h : s.size + r.size ≤ 9223372036854775807) : Vl P n F ⟨dst, .binOp .add t x y u, ty, pos, af, gd⟩ w (.string (s ++ r)) w :=
  fun a ha => by
    have h1 : ¬ (((s.size + r.size : Nat) : Int) > IntKind.i64.max) := by rw [IntKind.max_i64]; omega
    simp only [execOp, ha.eval hx, ha.eval hy, eqGuard, binOp, Op.stringOp, if_neg h1]; simp
theorem vl_beq {x y : Operand} {t u : TypeId} {s r : Bool} (hb : boOf P t = true) (hx : ev F x = some (.bool s)) (hy : ev F y = some (.bool r)) : Vl P n F ⟨dst, .binOp .eql t x y u, ty, pos, af, gd⟩ w (.bool (s == r)) w := by
  intro a ha
  have hu : P.underlying t = some .bool := by unfold boOf at hb; split at hb <;> simp_all
  have h1 : (Op.equal t (.bool s) (.bool r)).run P w = .ok (s == r) w := run_equal fun d => by simp [Op.equalIn, run_underlying hu]
  simp [execOp, ha.eval hx, ha.eval hy, eqGuard, binOp, h1]

theorem vl_pnil {x y : Operand} {t u : TypeId} {p : Option Addr} (hb : ptOf P t = true) (hx : ev F x = some (.pointer p)) (hy : ev F y = some (.pointer none)) : Vl P n F ⟨dst, .binOp .eql t x y u, ty, pos, af, gd⟩ w (.bool p.isNone) w := by
  intro a ha
  obtain ⟨e, hu⟩ : ∃ e, P.underlying t = some (.pointer e) := by unfold ptOf at hb; split at hb <;> simp_all
  have h1 : (Op.equal t (.pointer p) (.pointer none)).run P w = .ok p.isNone w := run_equal fun d => by cases p <;> simp [Op.equalIn, run_underlying hu]
  simp [execOp, ha.eval hx, ha.eval hy, eqGuard, binOp, h1]
theorem vl_pnnil {x y : Operand} {t u : TypeId} {p : Option Addr} (hb : ptOf P t = true) (hx : ev F x = some (.pointer p)) (hy : ev F y = some (.pointer none)) : Vl P n F ⟨dst, .binOp .neq t x y u, ty, pos, af, gd⟩ w (.bool (!p.isNone)) w := by
  intro a ha
  obtain ⟨e, hu⟩ : ∃ e, P.underlying t = some (.pointer e) := by unfold ptOf at hb; split at hb <;> simp_all
  have h1 : (Op.equal t (.pointer p) (.pointer none)).run P w = .ok p.isNone w := run_equal fun d => by cases p <;> simp [Op.equalIn, run_underlying hu]
  simp [execOp, ha.eval hx, ha.eval hy, eqGuard, binOp, h1]
theorem vl_snil {x y : Operand} {t u e : TypeId} {p : Option Addr} {l c : Nat} (hb : slOf P t = some e) (hx : ev F x = some (.slice p l c)) (hy : ev F y = some (.slice none 0 0)) : Vl P n F ⟨dst, .binOp .eql t x y u, ty, pos, af, gd⟩ w (.bool p.isNone) w := by
  intro a ha
  have hu := slOf_und hb
  have h1 : (Op.equal t (.slice p l c) (.slice none 0 0)).run P w = .ok p.isNone w := run_equal fun d => by cases p <;> simp [Op.equalIn, run_underlying hu]
  simp [execOp, ha.eval hx, ha.eval hy, eqGuard, binOp, h1]

theorem vl_len {x : Operand} {t e : TypeId} {p : Option Addr} {l c : Nat} (hb : slOf P t = some e) (hx : ev F x = some (.slice p l c)) :
    Vl P n F ⟨dst, .call { callee := .builtin .len, args := #[x], argTypes := #[t] }, ty, pos, af, gd⟩ w (.int .i64 l) w :=
  fun a ha => by simp [execOp, resolve, invoke, builtin, Builtin.len_, ha.eval hx, run_underlying (slOf_und hb), goInt]
theorem vl_cap {x : Operand} {t e : TypeId} {p : Option Addr} {l c : Nat} (hb : slOf P t = some e) (hx : ev F x = some (.slice p l c)) :
    Vl P n F ⟨dst, .call { callee := .builtin .cap, args := #[x], argTypes := #[t] }, ty, pos, af, gd⟩ w (.int .i64 c) w :=
  fun a ha => by simp [execOp, resolve, invoke, builtin, Builtin.cap_, ha.eval hx, run_underlying (slOf_und hb), goInt]
theorem vl_slen {x : Operand} {t : TypeId} {s : ByteArray} (hb : stOf P t = true) (hx : ev F x = some (.string s)) :
    Vl P n F ⟨dst, .call { callee := .builtin .len, args := #[x], argTypes := #[t] }, ty, pos, af, gd⟩ w (.int .i64 s.size) w :=
  fun a ha => by
    have hu : P.underlying t = some .string := by unfold stOf at hb; split at hb <;> simp_all
    simp [execOp, resolve, invoke, builtin, Builtin.len_, ha.eval hx, run_underlying hu, goInt]
theorem vl_max {x y : Operand} {t u : TypeId} {k : IntKind} {i j : Int} (hx : ev F x = some (.int k i)) (hy : ev F y = some (.int k j)) :
    Vl P n F ⟨dst, .call { callee := .builtin .max, args := #[x, y], argTypes := #[t, u] }, ty, pos, af, gd⟩ w (.int k (if j > i then j else i)) w :=
  fun a ha => by simp [execOp, resolve, invoke, builtin, Builtin.max_, Builtin.max2, ha.eval hx, ha.eval hy]
theorem vl_min {x y : Operand} {t u : TypeId} {k : IntKind} {i j : Int} (hx : ev F x = some (.int k i)) (hy : ev F y = some (.int k j)) :
    Vl P n F ⟨dst, .call { callee := .builtin .min, args := #[x, y], argTypes := #[t, u] }, ty, pos, af, gd⟩ w (.int k (if j < i then j else i)) w :=
  fun a ha => by simp [execOp, resolve, invoke, builtin, Builtin.min_, Builtin.min2, ha.eval hx, ha.eval hy]

theorem vl_extract {x : Operand} {i : Nat} {vs : List Value} {v : Value} (hx : ev F x = some (.tuple vs.toArray)) (hv : vs[i]? = some v) : Vl P n F ⟨dst, .extract x i, ty, pos, af, gd⟩ w v w :=
  fun a ha => by simp [execOp, ha.eval hx, Instr.extract, hv]

theorem vl_func {fn : Fn} {as bs : List Operand} {vs us : List Value} (hf : evs F as = some vs) (hc : evs F bs = some us) : Vl P n F ⟨dst, .makeFunc fn as.toArray bs.toArray, ty, pos, af, gd⟩ w (.func fn vs.toArray us.toArray) w :=
  fun a ha => by simp [execOp, Instr.makeFunc, ha.evals as vs hf, ha.evals bs us hc]

theorem vl_nilCheck {x : Operand} {p : Addr} (hx : ev F x = some (.pointer (some p))) : Vl P n F ⟨dst, .nilCheck x, ty, pos, af, gd⟩ w (.pointer (some p)) w :=
  fun a ha => by simp [execOp, ha.eval hx]

theorem vl_fieldAddr {x : Operand} {s : TypeId} {f b off k : Nat} (hf : foOf P s f = some k) (hx : ev F x = some (.pointer (some ⟨b, off, none⟩))) : Vl P n F ⟨dst, .fieldAddr s x f, ty, pos, af, gd⟩ w (.pointer (some ⟨b, off + k, none⟩)) w := by
  intro a ha
  unfold foOf at hf
  split at hf
  · rename_i fs hu
    cases hi : fs[f]? with
    | none => simp [hi] at hf
    | some fd =>
      simp only [hi, Option.bind_some] at hf
      split at hf
      · simp at hf
      · rename_i k' hne hsz
        simp at hf
        subst hf
        have : k' ≠ 0 := fun e => hne (by rw [e])
        simp [execOp, Instr.fieldAt, ha.eval hx, run_underlying hu, hi, Instr.sureAddr, fieldPlace, run_sizeOf hsz, this, Addr.add_lit]
      · simp at hf
  · simp at hf

theorem vl_indexAddr {x ix : Operand} {t e : TypeId} {k b off l c : Nat} {kk : IntKind} {j : Int} (hs : slOf P t = some e) (hk : szOf P e = some k) (hx : ev F x = some (.slice (some ⟨b, off, none⟩) l c)) (hj : ev F ix = some (.int kk j))
    (i : Nat) (hi : j = (i : Int)) (hlt : i < l) : Vl P n F ⟨dst, .indexAddr t x ix, ty, pos, af, gd⟩ w (.pointer (some ⟨b, off + i * k, none⟩)) w := by
  intro a ha
  subst hi
  have h1 : (0 : Int) ≤ (i : Int) ∧ (i : Int) < (l : Int) := by omega
  have h2 : i < l := hlt
  simp [execOp, Instr.indexAt, ha.eval hx, ha.eval hj, asIntOf, run_underlying (slOf_und hs), run_sizeOf hk, h2, Addr.add_lit]
theorem vl_indexAddrA {x ix : Operand} {t e : TypeId} {m k b off : Nat} {kk : IntKind} {j : Int} (hs : arOf P t = some (m, e)) (hk : szOf P e = some k) (hx : ev F x = some (.pointer (some ⟨b, off, none⟩))) (hj : ev F ix = some (.int kk j))
    (i : Nat) (hi : j = (i : Int)) (hlt : i < m) : Vl P n F ⟨dst, .indexAddr t x ix, ty, pos, af, gd⟩ w (.pointer (some ⟨b, off + i * k, none⟩)) w := by
  intro a ha
  subst hi
  have h2 : i < m := hlt
  simp [execOp, Instr.indexAt, ha.eval hx, ha.eval hj, asIntOf, run_underlying (arOf_und hs), run_sizeOf hk, h2, Addr.add_lit, Instr.sureAddr]

/-- What is cut out of a slice. -/
def cut (p : Option Addr) (l h m k : Nat) : Value := .slice (if m = l then p else p.map (·.add (l * k))) (h - l) (m - l)

theorem vl_cut_h {x hi : Operand} {t e : TypeId} {k l c : Nat} {p : Option Addr} {k2 : IntKind} {j : Int} (hs : slOf P t = some e) (hk : szOf P e = some k) (hx : ev F x = some (.slice p l c)) (hh : ev F hi = some (.int k2 j))
    (h : Nat) (hj : j = (h : Int)) (hle : h ≤ c) : Vl P n F ⟨dst, .slice t x none (some hi) none, ty, pos, af, gd⟩ w (cut p 0 h c k) w := by
  intro a ha
  subst hj
  simp [execOp, Instr.sliceAt, Instr.slice, Instr.sliceBounds, Instr.sliceBound, ha.eval hx, ha.eval hh, asIntOf, run_underlying (slOf_und hs), run_sizeOf hk, cut, hle]
theorem vl_cut_l {x lo : Operand} {t e : TypeId} {k l c : Nat} {p : Option Addr} {k1 : IntKind} {i : Int} (hs : slOf P t = some e) (hk : szOf P e = some k) (hx : ev F x = some (.slice p l c)) (hl : ev F lo = some (.int k1 i))
    (g : Nat) (hi : i = (g : Int)) (hle : g ≤ l) : Vl P n F ⟨dst, .slice t x (some lo) none none, ty, pos, af, gd⟩ w (cut p g l c k) w := by
  intro a ha
  subst hi
  simp [execOp, Instr.sliceAt, Instr.slice, Instr.sliceBounds, Instr.sliceBound, ha.eval hx, ha.eval hl, asIntOf, run_underlying (slOf_und hs), run_sizeOf hk, cut, hle]
theorem vl_cut_lh {x lo hi : Operand} {t e : TypeId} {k l c : Nat} {p : Option Addr} {k1 k2 : IntKind} {i j : Int} (hs : slOf P t = some e) (hk : szOf P e = some k) (hx : ev F x = some (.slice p l c)) (hl : ev F lo = some (.int k1 i)) (hh : ev F hi = some (.int k2 j))
    (g h : Nat) (ei : i = (g : Int)) (ej : j = (h : Int)) (hgh : g ≤ h) (hle : h ≤ c) : Vl P n F ⟨dst, .slice t x (some lo) (some hi) none, ty, pos, af, gd⟩ w (cut p g h c k) w := by
  intro a ha
  subst ei ej
  simp [execOp, Instr.sliceAt, Instr.slice, Instr.sliceBounds, Instr.sliceBound, ha.eval hx, ha.eval hl, ha.eval hh, asIntOf, run_underlying (slOf_und hs), run_sizeOf hk, cut, hle, hgh]
theorem vl_cut_hm {x hi mx : Operand} {t e : TypeId} {k l c : Nat} {p : Option Addr} {k1 k2 : IntKind} {i j : Int} (hs : slOf P t = some e) (hk : szOf P e = some k) (hx : ev F x = some (.slice p l c)) (hh : ev F hi = some (.int k1 i)) (hm : ev F mx = some (.int k2 j))
    (h m : Nat) (ei : i = (h : Int)) (ej : j = (m : Int)) (hgh : h ≤ m) (hle : m ≤ c) : Vl P n F ⟨dst, .slice t x none (some hi) (some mx), ty, pos, af, gd⟩ w (cut p 0 h m k) w := by
  intro a ha
  subst ei ej
  simp [execOp, Instr.sliceAt, Instr.slice, Instr.sliceBounds, Instr.sliceBound, ha.eval hx, ha.eval hh, ha.eval hm, asIntOf, run_underlying (slOf_und hs), run_sizeOf hk, cut, hle, hgh]
theorem vl_cut_lhm {x lo hi mx : Operand} {t e : TypeId} {k l c : Nat} {p : Option Addr} {k0 k1 k2 : IntKind} {q i j : Int} (hs : slOf P t = some e) (hk : szOf P e = some k) (hx : ev F x = some (.slice p l c)) (hl : ev F lo = some (.int k0 q)) (hh : ev F hi = some (.int k1 i)) (hm : ev F mx = some (.int k2 j))
    (g h m : Nat) (eq : q = (g : Int)) (ei : i = (h : Int)) (ej : j = (m : Int)) (hg : g ≤ h) (hgh : h ≤ m) (hle : m ≤ c) : Vl P n F ⟨dst, .slice t x (some lo) (some hi) (some mx), ty, pos, af, gd⟩ w (cut p g h m k) w := by
  intro a ha
  subst eq ei ej
  simp [execOp, Instr.sliceAt, Instr.slice, Instr.sliceBounds, Instr.sliceBound, ha.eval hx, ha.eval hl, ha.eval hh, ha.eval hm, asIntOf, run_underlying (slOf_und hs), run_sizeOf hk, cut, hle, hgh, hg]

/-! loads -/
theorem vl_load {x : Operand} {t : TypeId} {p : Addr} {v : Value} (ht : agOf P t = some false) (hx : ev F x = some (.pointer (some p))) (hc : w.cell? p = some v) : Vl P n F ⟨dst, .load t x, ty, pos, af, gd⟩ w v w :=
  fun a ha => by simp [execOp, Instr.loadAt, Instr.sureAddr, ha.eval hx, loadVar, run_isAgg ht, hc]
theorem vl_loadAgg {x : Operand} {t : TypeId} {b off k : Nat} {cs : List Value} (ht : agOf P t = some true) (hk : szOf P t = some k) (hx : ev F x = some (.pointer (some ⟨b, off, none⟩))) (hl : cs.length = k) (hc : Cells w b off cs) : Vl P n F ⟨dst, .load t x, ty, pos, af, gd⟩ w (.agg cs.toArray) w := by
  intro a ha
  subst hl
  have h1 : (loadCells ⟨b, off, none⟩ cs.length).run P w = .ok cs.toArray w := run_loadCells_list w ⟨b, off, none⟩ cs (fun j v hv => by rw [Addr.add_lit]; exact hc j v hv)
  simp [execOp, Instr.loadAt, Instr.sureAddr, ha.eval hx, loadVar, run_isAgg ht, run_sizeOf hk, h1]

/-! integers of other kinds -/
theorem vl_conv {x : Operand} {t u : TypeId} {k k' : IntKind} {i : Int} (hu : itOf P u k' = true) (ht : itOf P t k = true) (hx : ev F x = some (.int k i)) : Vl P n F ⟨dst, .convert t u x, ty, pos, af, gd⟩ w (.int k' (k'.wrap i)) w := by
  intro a ha
  have h1 : P.underlying u = some (.int k') := by unfold itOf at hu; split at hu <;> simp_all
  have h2 : P.underlying t = some (.int k) := by unfold itOf at ht; split at ht <;> simp_all
  simp [execOp, convert, ha.eval hx, run_underlying h1, run_underlying h2, Conv.intToInt]
theorem vl_shr1 {x y : Operand} {t u : TypeId} {k k' : IntKind} {i : Int} (hb : 1 ≤ k.bits) (hx : ev F x = some (.int k i)) (hy : ev F y = some (.int k' 1)) : Vl P n F ⟨dst, .binOp .shr t x y u, ty, pos, af, gd⟩ w (.int k (i.fdiv 2)) w := by
  intro a ha
  have : min (1 : Int).toNat k.bits = 1 := by simp; omega
  simp only [execOp, ha.eval hx, ha.eval hy, eqGuard, binOp, Op.shift, this]
  simp
end

/-! ### New memory, stores, calls -/
section
variable {P : Program} {n : Nat} {F : Fr} {w : World} {d : Tmp} {ty : TypeId} {pos : String} {af : Array Edge} {gd : Option (Nat × Bool)} {K : Fr → World → Prop}

theorem st_alloc {e : TypeId} {z : Value} {c : List Value} (hz : zrOf P e = some z) (hc : z.cells = c.toArray) (hn : Nat.blt d n = true) (h : ∀ b w', w.heap.size = b → w'.heap.size = b + 1 → Chg [] w w' → Blk w' b e c → K ((d, .pointer (some ⟨b, 0, none⟩)) :: F) w') :
    St P n F ⟨some d, .alloc e, ty, pos, af, gd⟩ w K := by
  refine St.vl (v := .pointer (some ⟨w.heap.size, 0, none⟩)) (w' := w.alloc (.cells c.toArray e)) ?_ rfl hn (h _ _ rfl (by simp) (Chg.alloc _ _ _) (Blk.new _ _ _))
  intro a _
  simp [execOp, Instr.alloc, run_zero hz, newVar, newRow, hc]
theorem st_box {e : TypeId} {x : Operand} {v : Value} {c : List Value} (hx : ev F x = some v) (hc : v.cells = c.toArray) (hn : Nat.blt d n = true) (h : ∀ b w', w.heap.size = b → w'.heap.size = b + 1 → Chg [] w w' → Blk w' b e c → K ((d, .pointer (some ⟨b, 0, none⟩)) :: F) w') :
    St P n F ⟨some d, .box e x, ty, pos, af, gd⟩ w K := by
  refine St.vl (v := .pointer (some ⟨w.heap.size, 0, none⟩)) (w' := w.alloc (.cells c.toArray e)) ?_ rfl hn (h _ _ rfl (by simp) (Chg.alloc _ _ _) (Blk.new _ _ _))
  intro a ha
  simp [execOp, Instr.box, ha.eval hx, newVar, newRow, hc]

/-- c with vs in the place of what begins at off. -/
def laid (c : List Value) (off : Nat) (vs : List Value) : List Value := c.take off ++ vs ++ c.drop (off + vs.length)

theorem run_stores {b off : Nat} {e : TypeId} {c vs : List Value} (hb : Blk w b e c) (hl : off + vs.length ≤ c.length) (h1 : ∀ v ∈ vs, v.oneCell' = true) :
    (storeCells ⟨b, off, none⟩ vs 0).run P w = .ok () (w.setRow b (laid c off vs).toArray) := by
  have := run_storeCells_at P b off e vs 0 c.toArray w hb (by simpa using hl) h1
  simpa [laid] using this

theorem st_store {x y : Operand} {t : TypeId} {v : Value} {b off k : Nat} {e : TypeId} {c vs : List Value} (ht : szOf P t = some k) (hx : ev F x = some (.pointer (some ⟨b, off, none⟩))) (hy : ev F y = some v) (hv : v.cells = vs.toArray) (hk : vs.length = k)
    (hb : Blk w b e c) (hl : off + vs.length ≤ c.length) (h1 : ∀ v ∈ vs, v.oneCell' = true)
    (h : ∀ w', w'.heap.size = w.heap.size → Chg [b] w w' → Blk w' b e (laid c off vs) → K F w') : St P n F ⟨none, .store t x y, ty, pos, af, gd⟩ w K := by
  refine St.sk (w' := w.setRow b (laid c off vs).toArray) ?_ rfl (h _ (by simp [World.setRow]) (Chg.row _ _ _) (hb.row _))
  intro a ha
  simp [execOp, Instr.storeAt, Instr.sureAddr, ha.eval hx, ha.eval hy, storeVar, run_sizeOf ht, hv, hk, run_stores hb hl h1]

/-- A call of a function by its value. -/
theorem st_call {f : Operand} {as : List Operand} {ts : Array TypeId} {g : FuncId} {first captured : Array Value} {vs args : List Value} {R : Value → World → Prop} (hb : bodied P g = true) (hf : ev F f = some (.func (.func g) first captured)) (ha : evs F as = some vs)
    (hargs : first.toList ++ vs ++ captured.toList = args) (hn : Nat.blt d n = true) (hc : Ret P g args.toArray w R) (h : ∀ v w', R v w' → K ((d, v) :: F) w') :
    St P n F ⟨some d, .call { callee := .value f, args := as.toArray, argTypes := ts }, ty, pos, af, gd⟩ w K := by
  refine St.enter (f := g) (args := args.toArray) ?_ rfl hn hc h
  intro a hr
  subst hargs
  unfold bodied at hb
  split at hb
  · rename_i fn hfn
    simp only [Bool.and_eq_true, Bool.not_eq_true'] at hb
    have h1 : ¬ fn.body = none := by cases hx : fn.body <;> simp_all
    have h2 : ¬ fn.name = "runtime.NumGoroutine" := by simpa using hb.2
    have e1 : ∀ X : Array Value, (callFunc g X).run P w = .ok (.enter g X) w := fun X => by simp [callFunc, hfn, h1, h2]
    have e2 : first ++ vs.toArray ++ captured = (first.toList ++ vs ++ captured.toList).toArray := by simp
    simp [execOp, resolve, hr.eval hf, Deferred.ofValue, hr.evals as vs ha, invoke, e1]
  · simp at hb
end
end Go.Wk
