/-
  Maps whose keys are texts: a block that holds a row of keys and values.
  Numbers of 64 bits; texts' bytes; values in interfaces; slices that are read alone.
  Values in interfaces: made, asked for their type, held against nil; methods called through them.
  Maps by keys of whatever kind that is told apart at once (texts, numbers); ranges over maps and texts.
  A deferred call; its function finds nothing to recover.
  Slices that are read alone; bytes of a text.
  append of a text's bytes.
  '==' of structs whose fields are numbers, texts and truths.
  '==' of values in interfaces.
-/
import Derived.Test.YtcnkdoecfljnlaaGreatDoorQ2
import Derived.MapKept
import Derived.Maps.RangeRun
import Derived.Defers
import Derived.Recover
import Derived.Stop.Asserts
set_option linter.all false
namespace Go.Wk

abbrev Ents := List (ByteArray × Value)
def mget : Ents → ByteArray → Option Value
  | [], _ => none
  | p :: r, k => if p.1 = k then some p.2 else mget r k
def mput : Ents → ByteArray → Value → Ents
  | [], k, v => [(k, v)]
  | p :: r, k, v => if p.1 = k then (k, v) :: r else p :: mput r k v
def mdel : Ents → ByteArray → Ents
  | [], _ => []
  | p :: r, k => if p.1 = k then r else p :: mdel r k

def rd (e : MapEntry) : Value × Value := (e.key, e.val)
def rds (p : ByteArray × Value) : Value × Value := (.string p.1, p.2)
/-- Block b is a map with these entries. -/
def IsMap (w : World) (b : Nat) (es : Ents) : Prop := ∃ (a : Array MapEntry) (clock : Nat), w.heap[b]? = some (.map a clock) ∧ a.toList.map rd = es.map rds

theorem IsMap.lt {w : World} {b : Nat} {es : Ents} (h : IsMap w b es) : b < w.heap.size := by
  obtain ⟨a, c, hb, _⟩ := h
  exact (Array.getElem?_eq_some_iff.1 hb).1
theorem IsMap.chg {S : List Nat} {w w' : World} {b : Nat} {es : Ents} (h : IsMap w b es) (hc : Chg S w w') (hb : b ∉ S) : IsMap w' b es := by
  obtain ⟨a, c, h1, h2⟩ := h
  exact ⟨a, c, (hc.block b (Array.getElem?_eq_some_iff.1 h1).1 hb).trans h1, h2⟩
theorem IsMap.chg0 {w w' : World} {b : Nat} {es : Ents} (h : IsMap w b es) (hc : Chg [] w w') : IsMap w' b es := h.chg hc (by simp)
theorem IsMap.ne {w : World} {b b' : Nat} {es : Ents} {e : TypeId} {c : List Value} (h : IsMap w b es) (hb : Blk w b' e c) : b ≠ b' := by
  rintro rfl
  obtain ⟨a, k, h1, _⟩ := h
  have := h1.symm.trans hb
  cases this

def mpOf (P : Program) (t : TypeId) : Option (TypeId × TypeId) := match P.underlying t with | some (.map k e) => some (k, e) | _ => none
theorem mpOf_und {P : Program} {t k e : TypeId} (h : mpOf P t = some (k, e)) : P.underlying t = some (.map k e) := by
  unfold mpOf at h
  split at h
  · rename_i k' e' he; simp at h; obtain ⟨rfl, rfl⟩ := h; exact he
  · simp at h

/-- Where the key is found first. -/
def midx : Ents → ByteArray → Nat → Option (Nat × Value)
  | [], _, _ => none
  | p :: r, k, i => if p.1 = k then some (i, p.2) else midx r k (i + 1)

theorem beq_ba (s u : ByteArray) : (s == u) = decide (s = u) := by
  have h0 : (s == u) = (s.data == u.data) := rfl
  rw [h0]
  by_cases h : s = u
  · subst h; simp
  · have h1 : ¬ s.data = u.data := fun e => h (by cases s; cases u; simpa using e)
    simp [h, h1]

theorem findNow_str (k : ByteArray) : ∀ (l : List MapEntry) (es : Ents) (i : Nat), l.map rd = es.map rds → Instr.findNow .string (.string k) l i = some (midx es k i)
  | [], [], i, _ => rfl
  | [], _ :: _, _, h => by simp at h
  | _ :: _, [], _, h => by simp at h
  | e :: l, p :: es, i, h => by
    simp only [List.map_cons, List.cons.injEq] at h
    obtain ⟨h1, h2⟩ := h
    simp only [rd, rds, Prod.mk.injEq] at h1
    obtain ⟨hk, hv⟩ := h1
    have hs : Instr.sameNow .string (.string k) e.key = some (k == p.1) := by rw [hk]; rfl
    simp only [Instr.findNow, hs, midx]
    by_cases he : p.1 = k
    · subst he
      rw [beq_ba]
      simp [hv]
    · have : (k == p.1) = false := by rw [beq_ba]; exact decide_eq_false (fun e => he e.symm)
      rw [this, if_neg he]
      exact findNow_str k l es (i + 1) h2
theorem midx_get (k : ByteArray) : ∀ (es : Ents) (i : Nat), (midx es k i).map (·.2) = mget es k
  | [], _ => rfl
  | p :: r, i => by
    simp only [midx, mget]
    split
    · rfl
    · exact midx_get k r (i + 1)
theorem midx_ge (k : ByteArray) : ∀ (es : Ents) (i j : Nat) (v : Value), midx es k i = some (j, v) → i ≤ j
  | [], _, _, _, h => by simp [midx] at h
  | p :: r, i, j, v, h => by
    simp only [midx] at h
    split at h
    · simp at h; omega
    · have := midx_ge k r (i + 1) j v h; omega
theorem modify_put (k : ByteArray) (v : Value) : ∀ (l : List MapEntry) (es : Ents) (i j : Nat) (u : Value), l.map rd = es.map rds → midx es k i = some (j, u) →
    (l.modify (j - i) fun e => { e with key := .string k, val := v }).map rd = (mput es k v).map rds
  | [], [], _, _, _, _, h => by simp [midx] at h
  | [], _ :: _, _, _, _, h, _ => by simp at h
  | _ :: _, [], _, _, _, h, _ => by simp at h
  | e :: l, p :: es, i, j, u, h, hm => by
    simp only [List.map_cons, List.cons.injEq] at h
    obtain ⟨h1, h2⟩ := h
    simp only [midx] at hm
    by_cases he : p.1 = k
    · rw [if_pos he] at hm
      simp only [Option.some.injEq, Prod.mk.injEq] at hm
      obtain ⟨rfl, _⟩ := hm
      rw [Nat.sub_self]
      simp only [mput, if_pos he, List.modify_zero_cons, List.map_cons, h2]
      rfl
    · rw [if_neg he] at hm
      have hge := midx_ge k es (i + 1) j u hm
      rw [show j - i = (j - (i + 1)) + 1 by omega]
      simp only [mput, if_neg he, List.modify_succ_cons, List.map_cons, h1, modify_put k v l es (i + 1) j u h2 hm]
theorem mput_none (k : ByteArray) (v : Value) : ∀ (es : Ents) (i : Nat), midx es k i = none → mput es k v = es ++ [(k, v)]
  | [], _, _ => rfl
  | p :: r, i, h => by
    simp only [midx] at h
    split at h
    · cases h
    · rename_i he
      simp only [mput, if_neg he, mput_none k v r (i + 1) h, List.cons_append]
theorem erase_del (k : ByteArray) : ∀ (l : List MapEntry) (es : Ents) (i j : Nat) (u : Value), l.map rd = es.map rds → midx es k i = some (j, u) → (l.eraseIdx (j - i)).map rd = (mdel es k).map rds
  | [], [], _, _, _, _, h => by simp [midx] at h
  | [], _ :: _, _, _, _, h, _ => by simp at h
  | _ :: _, [], _, _, _, h, _ => by simp at h
  | e :: l, p :: es, i, j, u, h, hm => by
    simp only [List.map_cons, List.cons.injEq] at h
    obtain ⟨h1, h2⟩ := h
    simp only [midx] at hm
    by_cases he : p.1 = k
    · rw [if_pos he] at hm
      simp only [Option.some.injEq, Prod.mk.injEq] at hm
      obtain ⟨rfl, _⟩ := hm
      rw [Nat.sub_self]
      simp only [mdel, if_pos he, List.eraseIdx_zero, List.tail_cons, h2]
    · rw [if_neg he] at hm
      have hge := midx_ge k es (i + 1) j u hm
      rw [show j - i = (j - (i + 1)) + 1 by omega]
      simp only [mdel, if_neg he, List.eraseIdx_cons_succ, List.map_cons, h1, erase_del k l es (i + 1) j u h2 hm]
theorem mdel_none (k : ByteArray) : ∀ (es : Ents) (i : Nat), midx es k i = none → mdel es k = es
  | [], _, _ => rfl
  | p :: r, i, h => by
    simp only [midx] at h
    split at h
    · cases h
    · rename_i he
      simp only [mdel, if_neg he, mdel_none k r (i + 1) h]

section
variable {P : Program} {w : World} {t kt et : TypeId} {b : Nat} {es : Ents}
theorem run_find (hk : stOf P kt = true) (k : ByteArray) {l : List MapEntry} (h : l.map rd = es.map rds) : (Instr.findKey kt (.string k) l).run P w = .ok (midx es k 0) w :=
  Go.MapKept.run_findKey (stOf_und hk) (findNow_str k l es 0 h)
theorem run_check (hk : stOf P kt = true) (k : ByteArray) (e : Bool) : (Instr.checkKey e 10000 kt (.string k)).run P w = .ok () w := by
  unfold Instr.checkKey
  simp [run_underlying (stOf_und hk)]
theorem run_lookup2 (hm : mpOf P t = some (kt, et)) (hk : stOf P kt = true) {z : Value} (hz : zrOf P et = some z) (h : IsMap w b es) (k : ByteArray) :
    (Instr.lookup t (.map (some b)) (.string k) true).run P w = .ok (.tuple #[(mget es k).getD z, .bool (mget es k).isSome]) w := by
  obtain ⟨a, c, hb, hl⟩ := h
  have h1 := midx_get k es 0
  cases hx : midx es k 0 with
  | none =>
    rw [hx] at h1
    rw [← h1]
    simp [Instr.lookup, run_underlying (mpOf_und hm), Go.MapKept.run_getObj_map hb, run_check hk, run_find hk k hl, hx, run_zero hz]
  | some q =>
    rw [hx] at h1
    rw [← h1]
    simp [Instr.lookup, run_underlying (mpOf_und hm), Go.MapKept.run_getObj_map hb, run_check hk, run_find hk k hl, hx]
theorem run_put (hm : mpOf P t = some (kt, et)) (hk : stOf P kt = true) (h : IsMap w b es) (k : ByteArray) (v : Value) :
    ∃ w', (Instr.mapUpdate t (.map (some b)) (.string k) v).run P w = .ok () w' ∧ w'.heap.size = w.heap.size ∧ Chg [b] w w' ∧ IsMap w' b (mput es k v) := by
  obtain ⟨a, c, hb, hl⟩ := h
  have hlt := (Array.getElem?_eq_some_iff.1 hb).1
  cases hx : midx es k 0 with
  | none =>
    refine ⟨w.putObj b (.map (a.push { key := .string k, val := v, born := c }) (c + 1)), ?_, by simp [World.putObj], Chg.put _ _ _, _, _, World.putObj_heap_same hlt, ?_⟩
    · simp [Instr.mapUpdate, run_underlying (mpOf_und hm), Go.MapKept.run_getObj_map hb, run_check hk, run_find hk k hl, hx, Go.MapKept.run_setObj_map _ hb, World.putObj]
    · rw [mput_none k v es 0 hx]
      simp [hl, rd, rds]
  | some q =>
    obtain ⟨i, u⟩ := q
    have hmod := modify_put k v a.toList es 0 i u hl hx
    have hget : ((a[i]?).map (·.key)).getD (.string k) = .string k := by
      have h2 := findNow_str k a.toList es 0 hl
      cases he : a[i]? with
      | none => rfl
      | some e =>
        have hi : (es.map rds)[i]? = some (rd e) := by rw [← hl, List.getElem?_map]; simp [he]
        have key : ∀ (es : Ents) (i0 j : Nat) (u : Value), midx es k i0 = some (j, u) → ∃ p, es[j - i0]? = some p ∧ p.1 = k := by
          intro es
          induction es with
          | nil => intro i0 j u h; simp [midx] at h
          | cons p r ih =>
            intro i0 j u h
            simp only [midx] at h
            split at h
            · rename_i he
              simp at h
              exact ⟨p, by simp [h.1], he⟩
            · have hge := midx_ge k r (i0 + 1) j u h
              obtain ⟨q, hq, hqk⟩ := ih (i0 + 1) j u h
              refine ⟨q, ?_, hqk⟩
              rw [show j - i0 = (j - (i0 + 1)) + 1 by omega]
              simpa using hq
        obtain ⟨p, hp, hpk⟩ := key es 0 i u hx
        rw [List.getElem?_map, show es[i]? = some p by simpa using hp] at hi
        simp only [Option.map_some, Option.some.injEq, rds, rd, Prod.mk.injEq] at hi
        simp [← hi.1, hpk]
    refine ⟨w.putObj b (.map (a.modify i fun e => { e with key := .string k, val := v }) c), ?_, by simp [World.putObj], Chg.put _ _ _, _, _, World.putObj_heap_same hlt, ?_⟩
    · have hkeep : (Instr.keyThatStays (.string k) (.string k)).run P w = .ok (.string k) w := by
        simp [Instr.keyThatStays, Instr.sameBits, beq_ba]
      simp [Instr.mapUpdate, run_underlying (mpOf_und hm), Go.MapKept.run_getObj_map hb, run_check hk, run_find hk k hl, hx, Go.MapKept.run_setObj_map _ hb, World.putObj, hget, hkeep]
    · simpa using hmod
theorem run_del {ts : Array TypeId} {ty : TypeId} (ht : ts[0]? = some t) (hm : mpOf P t = some (kt, et)) (hk : stOf P kt = true) (h : IsMap w b es) (k : ByteArray) :
    ∃ w', (Builtin.delete_ ts ty #[.map (some b), .string k]).run P w = .ok (.tuple #[]) w' ∧ w'.heap.size = w.heap.size ∧ Chg [b] w w' ∧ IsMap w' b (mdel es k) := by
  obtain ⟨a, c, hb, hl⟩ := h
  have hlt := (Array.getElem?_eq_some_iff.1 hb).1
  cases hx : midx es k 0 with
  | none =>
    refine ⟨w.putObj b (.map a c), ?_, by simp [World.putObj], Chg.put _ _ _, _, _, World.putObj_heap_same hlt, ?_⟩
    · simp [Builtin.delete_, ht, run_underlying (mpOf_und hm), Go.MapKept.run_getObj_map hb, run_check hk, run_find hk k hl, hx, Go.MapKept.run_setObj_map _ hb, World.putObj]
    · rw [mdel_none k es 0 hx]; exact hl
  | some q =>
    obtain ⟨i, u⟩ := q
    have hdel := erase_del k a.toList es 0 i u hl hx
    refine ⟨w.putObj b (.map (a.eraseIdxIfInBounds i) c), ?_, by simp [World.putObj], Chg.put _ _ _, _, _, World.putObj_heap_same hlt, ?_⟩
    · simp [Builtin.delete_, ht, run_underlying (mpOf_und hm), Go.MapKept.run_getObj_map hb, run_check hk, run_find hk k hl, hx, Go.MapKept.run_setObj_map _ hb, World.putObj]
    · simpa using hdel
end

section
variable {P : Program} {n : Nat} {F : Fr} {w : World} {d : Tmp} {dst : Option Tmp} {ty t kt et : TypeId} {pos : String} {af : Array Edge} {gd : Option (Nat × Bool)} {K : Fr → World → Prop} {b : Nat} {es : Ents}
theorem st_makeMap (hn : Nat.blt d n = true) (h : ∀ b w', w.heap.size = b → w'.heap.size = b + 1 → Chg [] w w' → IsMap w' b [] → K ((d, .map (some b)) :: F) w') : St P n F ⟨some d, .makeMap t none, ty, pos, af, gd⟩ w K := by
  refine St.vl (v := .map (some w.heap.size)) (w' := w.alloc (.map #[] 0)) ?_ rfl hn (h _ _ rfl (by simp) (Chg.alloc _ _ _) ⟨#[], 0, heap_alloc_new w _, rfl⟩)
  intro a _
  simp [execOp, Go.RowKit.run_makeMap]
theorem vl_lookup2 (hm : mpOf P t = some (kt, et)) (hk : stOf P kt = true) {z : Value} (hz : zrOf P et = some z) {x y : Operand} {k : ByteArray} (hx : ev F x = some (.map (some b))) (hy : ev F y = some (.string k)) (h : IsMap w b es) {g : Option Value} (hg : mget es k = g) :
    Vl P n F ⟨dst, .lookup t x y true, ty, pos, af, gd⟩ w (.tuple #[g.getD z, .bool g.isSome]) w :=
  fun a ha => by subst hg; simp [execOp, ha.eval hx, ha.eval hy, run_lookup2 hm hk hz h k]
theorem vl_mlen (hm : mpOf P t = some (kt, et)) {x : Operand} (hx : ev F x = some (.map (some b))) (h : IsMap w b es) :
    Vl P n F ⟨dst, .call { callee := .builtin .len, args := #[x], argTypes := #[t] }, ty, pos, af, gd⟩ w (.int .i64 (es.length : Nat)) w := by
  intro a ha
  obtain ⟨ar, c, hb, hl⟩ := h
  have hs : ar.size = es.length := by
    have := congrArg List.length hl
    simpa using this
  simp [execOp, resolve, invoke, builtin, Builtin.len_, ha.eval hx, run_underlying (mpOf_und hm), Go.MapKept.run_getObj_map hb, goInt, hs]
theorem st_put (hm : mpOf P t = some (kt, et)) (hk : stOf P kt = true) {x y z : Operand} {k : ByteArray} {v : Value} (hx : ev F x = some (.map (some b))) (hy : ev F y = some (.string k)) (hz : ev F z = some v) (h : IsMap w b es)
    (hK : ∀ w', w'.heap.size = w.heap.size → Chg [b] w w' → IsMap w' b (mput es k v) → K F w') : St P n F ⟨none, .mapUpdate t x y z, ty, pos, af, gd⟩ w K := by
  obtain ⟨w', hr, h1, h2, h3⟩ := run_put (P := P) hm hk h k v
  refine St.sk (w' := w') ?_ rfl (hK w' h1 h2 h3)
  intro a ha
  simp [execOp, ha.eval hx, ha.eval hy, ha.eval hz, hr]
theorem st_del (hm : mpOf P t = some (kt, et)) (hk : stOf P kt = true) {x y : Operand} {t2 : TypeId} {k : ByteArray} (hx : ev F x = some (.map (some b))) (hy : ev F y = some (.string k)) (h : IsMap w b es)
    (hK : ∀ w', w'.heap.size = w.heap.size → Chg [b] w w' → IsMap w' b (mdel es k) → K F w') : St P n F ⟨none, .call { callee := .builtin .delete, args := #[x, y], argTypes := #[t, t2] }, ty, pos, af, gd⟩ w K := by
  obtain ⟨w', hr, h1, h2, h3⟩ := run_del (P := P) (ts := #[t, t2]) (ty := ty) rfl hm hk h k
  refine St.vlNone (v := .tuple #[]) (w' := w') ?_ rfl (hK w' h1 h2 h3)
  intro a ha
  simp [execOp, resolve, invoke, builtin, ha.eval hx, ha.eval hy, hr]
end
end Go.Wk

namespace Go.Wk

/-- A field of a struct: its place, how many cells, is it an aggregate? -/
def fpOf (P : Program) (t : TypeId) (i : Nat) : Option (Nat × Nat × Bool) := match P.underlying t with
  | some (.struct fs) => (fs[i]?).bind fun f => match szOf P f.type, agOf P f.type with
    | some z, some b => some (f.offset, z, b)
    | _, _ => none
  | _ => none
section
variable {P : Program} {n : Nat} {F : Fr} {w : World} {dst : Option Tmp} {ty : TypeId} {pos : String} {af : Array Edge} {gd : Option (Nat × Bool)}

/-! numbers -/
theorem vl_shr {x y : Operand} {t u : TypeId} {k k' : IntKind} {a c : Int} {i : Int} (m : Nat) (hx : ev F x = some (.int k a)) (hy : ev F y = some (.int k' i)) (hi : i = (m : Int)) (hm : m ≤ k.bits) (hc : a.fdiv (2 ^ m) = c) :
    Vl P n F ⟨dst, .binOp .shr t x y u, ty, pos, af, gd⟩ w (.int k c) w := by
  intro ac ha
  subst hi hc
  have h1 : ¬ ((m : Int) < 0) := by omega
  have h2 : min m k.bits = m := Nat.min_eq_left hm
  simp only [execOp, ha.eval hx, ha.eval hy, eqGuard, binOp, Op.shift, Int.toNat_natCast, h1, h2, if_false]
  simp
theorem vl_shl {x y : Operand} {t u : TypeId} {k k' : IntKind} {a c : Int} {i : Int} (m : Nat) (hx : ev F x = some (.int k a)) (hy : ev F y = some (.int k' i)) (hi : i = (m : Int)) (hm : m ≤ k.bits) (hc : k.wrap (a * 2 ^ m) = c) :
    Vl P n F ⟨dst, .binOp .shl t x y u, ty, pos, af, gd⟩ w (.int k c) w := by
  intro ac ha
  subst hi hc
  have h1 : ¬ ((m : Int) < 0) := by omega
  have h2 : min m k.bits = m := Nat.min_eq_left hm
  simp only [execOp, ha.eval hx, ha.eval hy, eqGuard, binOp, Op.shift, Int.toNat_natCast, h1, h2, if_false]
  simp
theorem vl_bits {x y : Operand} {t u : TypeId} {k : IntKind} {a b c : Int} (op : BinOp) (f : BitVec k.bits → BitVec k.bits → BitVec k.bits) (hop : op = .and ∧ f = (· &&& ·) ∨ op = .or ∧ f = (· ||| ·) ∨ op = .xor ∧ f = (· ^^^ ·)) (hx : ev F x = some (.int k a)) (hy : ev F y = some (.int k b))
    (hc : k.wrap (f (BitVec.ofInt k.bits a) (BitVec.ofInt k.bits b)).toNat = c) : Vl P n F ⟨dst, .binOp op t x y u, ty, pos, af, gd⟩ w (.int k c) w := by
  intro ac ha
  subst hc
  rcases hop with ⟨rfl, rfl⟩ | ⟨rfl, rfl⟩ | ⟨rfl, rfl⟩ <;> simp [execOp, ha.eval hx, ha.eval hy, eqGuard, binOp, Op.intBits]
theorem u64_wrap {i : Int} (h0 : 0 ≤ i) (h1 : i < 18446744073709551616) : IntKind.u64.wrap i = i := by
  simp only [IntKind.wrap, IntKind.bits, IntKind.signed]
  simp
  omega
theorem vl_or64 {x y : Operand} {t u : TypeId} {a b : Nat} (hx : ev F x = some (.int .u64 a)) (hy : ev F y = some (.int .u64 b)) (h : ∃ m, a % 2 ^ m = 0 ∧ b < 2 ^ m) (hs : a + b < 18446744073709551616) :
    Vl P n F ⟨dst, .binOp .or t x y u, ty, pos, af, gd⟩ w (.int .u64 ((a + b : Nat) : Int)) w := by
  refine vl_bits .or (· ||| ·) (.inr (.inl ⟨rfl, rfl⟩)) hx hy ?_
  have ha : a < 2 ^ 64 := by omega
  have hb : b < 2 ^ 64 := by omega
  have e : (BitVec.ofInt IntKind.u64.bits (a : Int) ||| BitVec.ofInt IntKind.u64.bits (b : Int)).toNat = a + b := by
    obtain ⟨m, h1, h2⟩ := h
    have e1 : (BitVec.ofInt IntKind.u64.bits (a : Int)) = BitVec.ofNat 64 a := by simp [IntKind.bits]
    have e2 : (BitVec.ofInt IntKind.u64.bits (b : Int)) = BitVec.ofNat 64 b := by simp [IntKind.bits]
    show ((BitVec.ofInt 64 (a : Int)) ||| (BitVec.ofInt 64 (b : Int))).toNat = _
    rw [show (BitVec.ofInt 64 (a : Int)) = BitVec.ofNat 64 a by simp, show (BitVec.ofInt 64 (b : Int)) = BitVec.ofNat 64 b by simp]
    rw [BitVec.toNat_or, BitVec.toNat_ofNat, BitVec.toNat_ofNat, Nat.mod_eq_of_lt ha, Nat.mod_eq_of_lt hb]
    have hq : a = 2 ^ m * (a / 2 ^ m) := (Nat.mul_div_cancel' (Nat.dvd_of_mod_eq_zero h1)).symm
    rw [hq]
    exact (Nat.two_pow_add_eq_or_of_lt h2 (a / 2 ^ m)).symm
  rw [e]
  exact u64_wrap (by omega) (by omega)
theorem vl_xor64 {x y : Operand} {t u : TypeId} {a b : Nat} (hx : ev F x = some (.int .u64 a)) (hy : ev F y = some (.int .u64 b)) (ha : a < 18446744073709551616) (hb : b < 18446744073709551616) :
    Vl P n F ⟨dst, .binOp .xor t x y u, ty, pos, af, gd⟩ w (.int .u64 ((a ^^^ b : Nat) : Int)) w := by
  refine vl_bits .xor (· ^^^ ·) (.inr (.inr ⟨rfl, rfl⟩)) hx hy ?_
  have e : (BitVec.ofInt IntKind.u64.bits (a : Int) ^^^ BitVec.ofInt IntKind.u64.bits (b : Int)).toNat = a ^^^ b := by
    show ((BitVec.ofInt 64 (a : Int)) ^^^ (BitVec.ofInt 64 (b : Int))).toNat = _
    rw [show (BitVec.ofInt 64 (a : Int)) = BitVec.ofNat 64 a by simp, show (BitVec.ofInt 64 (b : Int)) = BitVec.ofNat 64 b by simp]
    rw [BitVec.toNat_xor, BitVec.toNat_ofNat, BitVec.toNat_ofNat, Nat.mod_eq_of_lt (by omega), Nat.mod_eq_of_lt (by omega)]
  rw [e]
  have : a ^^^ b < 2 ^ 64 := Nat.xor_lt_two_pow (by omega) (by omega)
  exact u64_wrap (by omega) (by omega)

/-! texts -/
theorem vl_sindex {x y : Operand} {t : TypeId} {s : ByteArray} {kk : IntKind} {j : Int} (hb : stOf P t = true) (hx : ev F x = some (.string s)) (hy : ev F y = some (.int kk j)) (i : Nat) (hi : j = (i : Int)) {b : UInt8} (hlt : s.data[i]? = some b) :
    Vl P n F ⟨dst, .index t x y, ty, pos, af, gd⟩ w (.int .u8 (b.toNat : Int)) w := by
  intro a ha
  subst hi
  have h1 : (0 : Int) ≤ (i : Int) := by omega
  have hl := (Array.getElem?_eq_some_iff.1 hlt).1
  have hs : s[i]? = some b := by
    have : i < s.size := hl
    rw [getElem?_pos s i this]
    exact congrArg some (Array.getElem?_eq_some_iff.1 hlt).2
  simp [execOp, Instr.index, ha.eval hx, ha.eval hy, asIntOf, run_underlying (stOf_und hb), h1, hs]
theorem vl_scut {x lo hi : Operand} {t : TypeId} {s : ByteArray} {k1 k2 : IntKind} {i j : Int} (hb : stOf P t = true) (hx : ev F x = some (.string s)) (hl : ev F lo = some (.int k1 i)) (hh : ev F hi = some (.int k2 j)) (g h : Nat) (ei : i = (g : Int)) (ej : j = (h : Int)) (hgh : g ≤ h) (hle : h ≤ s.size) :
    Vl P n F ⟨dst, .slice t x (some lo) (some hi) none, ty, pos, af, gd⟩ w (.string (s.extract g h)) w := by
  intro a ha
  subst ei ej
  simp [execOp, Instr.sliceAt, Instr.slice, Instr.sliceBounds, Instr.sliceBound, ha.eval hx, ha.eval hl, ha.eval hh, asIntOf, run_underlying (stOf_und hb), hle, hgh]

/-! a field of a struct -/
theorem vl_field1 {x : Operand} {t : TypeId} {f k z : Nat} {cs : List Value} {v : Value} (h : fpOf P t f = some (k, z, false)) (hx : ev F x = some (.agg cs.toArray)) (hv : cs[k]? = some v) : Vl P n F ⟨dst, .field t x f, ty, pos, af, gd⟩ w v w := by
  intro a ha
  unfold fpOf at h
  split at h
  · rename_i fs hu
    simp only [Option.bind_eq_some_iff] at h
    obtain ⟨fd, hi, h⟩ := h
    split at h
    · rename_i z' b' hz hb
      simp only [Option.some.injEq, Prod.mk.injEq] at h
      obtain ⟨rfl, rfl, rfl⟩ := h
      simp [execOp, Instr.field, ha.eval hx, run_underlying hu, hi, asAgg, part, run_isAgg hb, hv]
    · simp at h
  · simp at h
theorem vl_fieldA {x : Operand} {t : TypeId} {f k z : Nat} {cs vs : List Value} (h : fpOf P t f = some (k, z, true)) (hx : ev F x = some (.agg cs.toArray)) (hv : (cs.drop k).take z = vs) (_hl : Nat.beq vs.length z = true) : Vl P n F ⟨dst, .field t x f, ty, pos, af, gd⟩ w (.agg vs.toArray) w := by
  intro a ha
  subst hv
  unfold fpOf at h
  split at h
  · rename_i fs hu
    simp only [Option.bind_eq_some_iff] at h
    obtain ⟨fd, hi, h⟩ := h
    split at h
    · rename_i z' b' hz hb
      simp only [Option.some.injEq, Prod.mk.injEq] at h
      obtain ⟨rfl, rfl, rfl⟩ := h
      simp [execOp, Instr.field, ha.eval hx, run_underlying hu, hi, asAgg, part, run_isAgg hb, run_sizeOf hz]
    · simp at h
  · simp at h
end
end Go.Wk

namespace Go.Wk

/-- No interface type; an interface type; has the dynamic type all methods that the interface wants? -/
def niOf (P : Program) (t : TypeId) : Bool := match P.underlying t with | some (.interface _) => false | some _ => true | none => false
def inOf (P : Program) (t : TypeId) : Bool := match P.underlying t with | some (.interface _) => true | _ => false
def imOf (P : Program) (i t : TypeId) : Option Bool := match P.underlying i with
  | some (.interface want) => (P.info? t).map fun d => (Instr.missingMethod want d.methods).isNone
  | _ => none
def Mth (P : Program) (t : TypeId) (v : Value) (name : String) (f : FuncId) (r : Value) : Prop := ∀ w : World, (method (P.types.size + Made.depth) t v name).run P w = .ok (f, r) w
def nilI : Value → Option Bool
  | .nilIface => some true
  | .iface _ _ => some false
  | _ => none

section
variable {P : Program} {n : Nat} {F : Fr} {w : World} {dst : Option Tmp} {ty : TypeId} {pos : String} {af : Array Edge} {gd : Option (Nat × Bool)}
theorem niOf_und {t : TypeId} (h : niOf P t = true) : ∃ d, P.underlying t = some d ∧ ∀ ms, d ≠ .interface ms := by
  unfold niOf at h
  split at h
  · simp at h
  · rename_i d hd hne
    exact ⟨d, hne, fun ms e => hd ms e⟩
  · simp at h
theorem inOf_und {t : TypeId} (h : inOf P t = true) : ∃ ms, P.underlying t = some (.interface ms) := by
  unfold inOf at h
  split at h
  · exact ⟨_, ‹_›⟩
  · simp at h
theorem vl_mkif {x : Operand} {t : TypeId} {v : Value} (h : niOf P t = true) (hx : ev F x = some v) : Vl P n F ⟨dst, .makeInterface t x, ty, pos, af, gd⟩ w (.iface t v) w := by
  intro a ha
  obtain ⟨d, hd, hne⟩ := niOf_und h
  cases d <;> simp [execOp, Instr.makeInterface, ha.eval hx, run_underlying hd]
  exact absurd rfl (hne _)
theorem vl_inil {x : Operand} {t u : TypeId} {v : Value} {b : Bool} (h : inOf P t = true) (hx : ev F x = some v) (hv : nilI v = some b) : Vl P n F ⟨dst, .binOp .eql t x (.const .nilIface) u, ty, pos, af, gd⟩ w (.bool b) w := by
  intro a ha
  obtain ⟨ms, hu⟩ := inOf_und h
  have hc : a.eval (.const .nilIface) = .nilIface := rfl
  have he := ha.eval hx
  cases v with
  | nilIface =>
    simp only [nilI, Option.some.injEq] at hv
    subst hv
    have h1 : (Op.equal t .nilIface .nilIface).run P w = .ok true w := run_equal fun d => by simp [Op.equalIn, run_underlying hu]
    simp [execOp, he, hc, eqGuard, binOp, h1]
  | iface tx vx =>
    simp only [nilI, Option.some.injEq] at hv
    subst hv
    have h1 : (Op.equal t (.iface tx vx) .nilIface).run P w = .ok false w := run_equal fun d => by simp [Op.equalIn, run_underlying hu]
    simp [execOp, he, hc, eqGuard, binOp, h1]
  | _ => simp [nilI] at hv
theorem vl_innil {x : Operand} {t u : TypeId} {v : Value} {b : Bool} (h : inOf P t = true) (hx : ev F x = some v) (hv : nilI v = some b) : Vl P n F ⟨dst, .binOp .neq t x (.const .nilIface) u, ty, pos, af, gd⟩ w (.bool (!b)) w := by
  intro a ha
  obtain ⟨ms, hu⟩ := inOf_und h
  have hc : a.eval (.const .nilIface) = .nilIface := rfl
  have he := ha.eval hx
  cases v with
  | nilIface =>
    simp only [nilI, Option.some.injEq] at hv
    subst hv
    have h1 : (Op.equal t .nilIface .nilIface).run P w = .ok true w := run_equal fun d => by simp [Op.equalIn, run_underlying hu]
    simp [execOp, he, hc, eqGuard, binOp, h1]
  | iface tx vx =>
    simp only [nilI, Option.some.injEq] at hv
    subst hv
    have h1 : (Op.equal t (.iface tx vx) .nilIface).run P w = .ok false w := run_equal fun d => by simp [Op.equalIn, run_underlying hu]
    simp [execOp, he, hc, eqGuard, binOp, h1]
  | _ => simp [nilI] at hv
/-- x.(T), T no interface, and it is that. -/
theorem vl_tasC {x : Operand} {xt t : TypeId} {v : Value} (h : niOf P t = true) (hx : ev F x = some (.iface t v)) : Vl P n F ⟨dst, .typeAssert x xt t true, ty, pos, af, gd⟩ w (.tuple #[v, .bool true]) w := by
  intro a ha
  obtain ⟨d, hd, hne⟩ := niOf_und h
  cases d <;> simp [execOp, Instr.typeAssert, ha.eval hx, run_underlying hd]
  exact absurd rfl (hne _)
/-- x.(T), T no interface, and it is another. -/
theorem vl_tasD {x : Operand} {xt t t' : TypeId} {v z : Value} (h : niOf P t = true) (hz : zrOf P t = some z) (hx : ev F x = some (.iface t' v)) (hne' : Nat.beq t' t = false) : Vl P n F ⟨dst, .typeAssert x xt t true, ty, pos, af, gd⟩ w (.tuple #[z, .bool false]) w := by
  intro a ha
  obtain ⟨d, hd, hne⟩ := niOf_und h
  have hn : ¬ t' = t := fun e => by subst e; simp at hne'
  cases d <;> simp [execOp, Instr.typeAssert, ha.eval hx, run_underlying hd, hn, run_zero hz]
  exact absurd rfl (hne _)
/-- x.(I), I an interface. -/
theorem vl_tasI {x : Operand} {xt i t : TypeId} {v : Value} {b : Bool} (h : imOf P i t = some b) (hz : zrOf P i = some .nilIface) (hx : ev F x = some (.iface t v)) :
    Vl P n F ⟨dst, .typeAssert x xt i true, ty, pos, af, gd⟩ w (.tuple #[if b then .iface t v else .nilIface, .bool b]) w := by
  intro a ha
  unfold imOf at h
  split at h
  · rename_i want hu
    cases hi : P.info? t with
    | none => simp [hi] at h
    | some d =>
      simp only [hi, Option.map_some, Option.some.injEq] at h
      subst h
      cases hm : Instr.missingMethod want d.methods <;> simp [execOp, Instr.typeAssert, ha.eval hx, run_underlying hu, typeInfo, hi, hm, run_zero hz]
  · simp at h
theorem vl_tasN {x : Operand} {xt t : TypeId} {z : Value} (hu : (P.underlying t).isSome = true) (hz : zrOf P t = some z) (hx : ev F x = some .nilIface) : Vl P n F ⟨dst, .typeAssert x xt t true, ty, pos, af, gd⟩ w (.tuple #[z, .bool false]) w := by
  intro a ha
  obtain ⟨d, hd⟩ := Option.isSome_iff_exists.1 hu
  cases d <;> simp [execOp, Instr.typeAssert, ha.eval hx, run_underlying hd, run_zero hz]
end

section
variable {P : Program} {n : Nat} {F : Fr} {w : World} {d : Tmp} {ty : TypeId} {pos : String} {af : Array Edge} {gd : Option (Nat × Bool)} {K : Fr → World → Prop}
/-- A method called through an interface. -/
theorem st_invoke {x : Operand} {as : List Operand} {ts : Array TypeId} {t : TypeId} {v r : Value} {name : String} {g : FuncId} {vs : List Value} {R : Value → World → Prop} (hm : Mth P t v name g r) (hb : bodied P g = true) (hx : ev F x = some (.iface t v)) (ha : evs F as = some vs)
    (hn : Nat.blt d n = true) (hc : Ret P g (r :: vs).toArray w R) (h : ∀ v w', R v w' → K ((d, v) :: F) w') :
    St P n F ⟨some d, .call { callee := .invoke x name, args := as.toArray, argTypes := ts }, ty, pos, af, gd⟩ w K := by
  refine St.enter (f := g) (args := (r :: vs).toArray) ?_ rfl hn hc h
  intro a hr
  unfold bodied at hb
  split at hb
  · rename_i fn hfn
    simp only [Bool.and_eq_true, Bool.not_eq_true'] at hb
    have h1 : ¬ fn.body = none := by cases hx : fn.body <;> simp_all
    have h2 : ¬ fn.name = "runtime.NumGoroutine" := by simpa using hb.2
    have e1 : ∀ X : Array Value, (callFunc g X).run P w = .ok (.enter g X) w := fun X => by simp [callFunc, hfn, h1, h2]
    have hmw := hm w
    have ev := hr.evals as vs ha
    have e3 : (#[Value.iface t v] ++ vs.toArray).extract 1 (vs.length + 1) = vs.toArray := by
      apply Array.toList_inj.1
      simp
    simp [execOp, resolve, hr.eval hx, ev, invoke, callMethod, hmw, e1, e3]
  · simp at hb
/-- .. whose function the model's table has. -/
theorem st_invokeX {x : Operand} {as : List Operand} {ts : Array TypeId} {t : TypeId} {v r : Value} {name : String} {g : FuncId} {vs : List Value} {e : Array Value → Sem Value} {u : Value} {w' : World} (hm : Mth P t v name g r) (hb : exOf P g = some e) (hx : ev F x = some (.iface t v)) (ha : evs F as = some vs)
    (hrun : (e (r :: vs).toArray).run P w = .ok u w') (hn : Nat.blt d n = true) (h : K ((d, u) :: F) w') :
    St P n F ⟨some d, .call { callee := .invoke x name, args := as.toArray, argTypes := ts }, ty, pos, af, gd⟩ w K := by
  refine St.vl (v := u) (w' := w') ?_ rfl hn h
  intro a hr
  unfold exOf at hb
  split at hb
  · rename_i fn hfn
    split at hb
    · simp at hb
    · rename_i hc
      simp only [Bool.or_eq_true, not_or, Bool.not_eq_true] at hc
      obtain ⟨⟨c1, c2⟩, c3⟩ := hc
      have h1 : fn.body = none := by simpa using c2
      have h2 : ¬ fn.name = "runtime.NumGoroutine" := by simpa using c1
      have h3 : Extern.findNext fn = none := by simpa using c3
      have hmw := hm w
      have ev := hr.evals as vs ha
      have e3 : (#[Value.iface t v] ++ vs.toArray).extract 1 (vs.length + 1) = vs.toArray := by
        apply Array.toList_inj.1
        simp
      have e4 : #[r] ++ vs.toArray = (r :: vs).toArray := by simp
      simp [execOp, resolve, hr.eval hx, ev, invoke, callMethod, hmw, e3, callFunc, hfn, h1, h2, h3, hb, hrun]
  · simp at hb
end
end Go.Wk

namespace Go.Wk

/-- A kind of keys. -/
structure KeyT (K : Type) [DecidableEq K] where
  kv : K → Value
  kd : TypeDesc
  now : ∀ a b, Instr.sameNow kd (kv a) (kv b) = some (decide (a = b))
  bits : ∀ a, Instr.sameBits 10000 (kv a) (kv a) = true
  chk : ∀ (P : Program) (kt : TypeId) (a : K) (e : Bool) (w : World), P.underlying kt = some kd → (Instr.checkKey e 10000 kt (kv a)).run P w = .ok () w

def strK : KeyT ByteArray where
  kv := .string
  kd := .string
  now a b := by show some (a == b) = _; rw [beq_ba]
  bits a := by simp [Instr.sameBits, beq_ba]
  chk P kt a e w h := by
    unfold Instr.checkKey
    simp [run_underlying h]
def intK (k : IntKind) : KeyT Int where
  kv := .int k
  kd := .int k
  now a b := by simp [Instr.sameNow]; rfl
  bits a := by simp [Instr.sameBits]
  chk P kt a e w h := by
    unfold Instr.checkKey
    simp [run_underlying h]

section
variable {K : Type} [DecidableEq K]
def kget : List (K × Value) → K → Option Value
  | [], _ => none
  | p :: r, k => if p.1 = k then some p.2 else kget r k
def kput : List (K × Value) → K → Value → List (K × Value)
  | [], k, v => [(k, v)]
  | p :: r, k, v => if p.1 = k then (k, v) :: r else p :: kput r k v
def krd (κ : KeyT K) (p : K × Value) : Value × Value := (κ.kv p.1, p.2)
def Stamps (a : Array MapEntry) (clock : Nat) : Prop := (a.toList.map (·.born)).Nodup ∧ ∀ e ∈ a.toList, e.born < clock
/-- Block b is a map with these entries. -/
def IsMapK (κ : KeyT K) (w : World) (b : Nat) (es : List (K × Value)) : Prop := ∃ (a : Array MapEntry) (clock : Nat), w.heap[b]? = some (.map a clock) ∧ a.toList.map rd = es.map (krd κ) ∧ Stamps a clock

variable {κ : KeyT K}
theorem IsMapK.lt {w : World} {b : Nat} {es : List (K × Value)} (h : IsMapK κ w b es) : b < w.heap.size := by
  obtain ⟨a, c, hb, _⟩ := h
  exact (Array.getElem?_eq_some_iff.1 hb).1
theorem IsMapK.chg {S : List Nat} {w w' : World} {b : Nat} {es : List (K × Value)} (h : IsMapK κ w b es) (hc : Chg S w w') (hb : b ∉ S) : IsMapK κ w' b es := by
  obtain ⟨a, c, h1, h2, h3⟩ := h
  exact ⟨a, c, (hc.block b (Array.getElem?_eq_some_iff.1 h1).1 hb).trans h1, h2, h3⟩
theorem IsMapK.chg0 {w w' : World} {b : Nat} {es : List (K × Value)} (h : IsMapK κ w b es) (hc : Chg [] w w') : IsMapK κ w' b es := h.chg hc (by simp)
theorem IsMapK.ne {w : World} {b b' : Nat} {es : List (K × Value)} {e : TypeId} {c : List Value} (h : IsMapK κ w b es) (hb : Blk w b' e c) : b ≠ b' := by
  rintro rfl
  obtain ⟨a, k, h1, _⟩ := h
  have := h1.symm.trans hb
  cases this

def kidx : List (K × Value) → K → Nat → Option (Nat × Value)
  | [], _, _ => none
  | p :: r, k, i => if p.1 = k then some (i, p.2) else kidx r k (i + 1)
theorem findNow_k (k : K) : ∀ (l : List MapEntry) (es : List (K × Value)) (i : Nat), l.map rd = es.map (krd κ) → Instr.findNow κ.kd (κ.kv k) l i = some (kidx es k i)
  | [], [], i, _ => rfl
  | [], _ :: _, _, h => by simp at h
  | _ :: _, [], _, h => by simp at h
  | e :: l, p :: es, i, h => by
    simp only [List.map_cons, List.cons.injEq] at h
    obtain ⟨h1, h2⟩ := h
    simp only [rd, krd, Prod.mk.injEq] at h1
    obtain ⟨hk, hv⟩ := h1
    have hs : Instr.sameNow κ.kd (κ.kv k) e.key = some (decide (k = p.1)) := by rw [hk]; exact κ.now k p.1
    simp only [Instr.findNow, hs, kidx]
    by_cases he : p.1 = k
    · subst he
      simp [hv]
    · rw [decide_eq_false (fun e => he e.symm), if_neg he]
      exact findNow_k k l es (i + 1) h2
theorem kidx_get (k : K) : ∀ (es : List (K × Value)) (i : Nat), (kidx es k i).map (·.2) = kget es k
  | [], _ => rfl
  | p :: r, i => by
    simp only [kidx, kget]
    split
    · rfl
    · exact kidx_get k r (i + 1)
theorem kidx_ge (k : K) : ∀ (es : List (K × Value)) (i j : Nat) (v : Value), kidx es k i = some (j, v) → i ≤ j
  | [], _, _, _, h => by simp [kidx] at h
  | p :: r, i, j, v, h => by
    simp only [kidx] at h
    split at h
    · simp at h; omega
    · have := kidx_ge k r (i + 1) j v h; omega
theorem kidx_at (k : K) : ∀ (es : List (K × Value)) (i0 j : Nat) (u : Value), kidx es k i0 = some (j, u) → ∃ p, es[j - i0]? = some p ∧ p.1 = k
  | [], _, _, _, h => by simp [kidx] at h
  | p :: r, i0, j, u, h => by
    simp only [kidx] at h
    split at h
    · rename_i he
      simp at h
      exact ⟨p, by simp [h.1], he⟩
    · have hge := kidx_ge k r (i0 + 1) j u h
      obtain ⟨q, hq, hqk⟩ := kidx_at k r (i0 + 1) j u h
      refine ⟨q, ?_, hqk⟩
      rw [show j - i0 = (j - (i0 + 1)) + 1 by omega]
      simpa using hq
theorem modify_k (k : K) (v : Value) : ∀ (l : List MapEntry) (es : List (K × Value)) (i j : Nat) (u : Value), l.map rd = es.map (krd κ) → kidx es k i = some (j, u) →
    (l.modify (j - i) fun e => { e with key := κ.kv k, val := v }).map rd = (kput es k v).map (krd κ)
  | [], [], _, _, _, _, h => by simp [kidx] at h
  | [], _ :: _, _, _, _, h, _ => by simp at h
  | _ :: _, [], _, _, _, h, _ => by simp at h
  | e :: l, p :: es, i, j, u, h, hm => by
    simp only [List.map_cons, List.cons.injEq] at h
    obtain ⟨h1, h2⟩ := h
    simp only [kidx] at hm
    by_cases he : p.1 = k
    · rw [if_pos he] at hm
      simp only [Option.some.injEq, Prod.mk.injEq] at hm
      obtain ⟨rfl, _⟩ := hm
      rw [Nat.sub_self]
      simp only [kput, if_pos he, List.modify_zero_cons, List.map_cons, h2]
      rfl
    · rw [if_neg he] at hm
      have hge := kidx_ge k es (i + 1) j u hm
      rw [show j - i = (j - (i + 1)) + 1 by omega]
      simp only [kput, if_neg he, List.modify_succ_cons, List.map_cons, h1, modify_k k v l es (i + 1) j u h2 hm]
theorem kput_none (k : K) (v : Value) : ∀ (es : List (K × Value)) (i : Nat), kidx es k i = none → kput es k v = es ++ [(k, v)]
  | [], _, _ => rfl
  | p :: r, i, h => by
    simp only [kidx] at h
    split at h
    · cases h
    · rename_i he
      simp only [kput, if_neg he, kput_none k v r (i + 1) h, List.cons_append]
theorem born_modify (f : MapEntry → MapEntry) (hf : ∀ e, (f e).born = e.born) : ∀ (l : List MapEntry) (i : Nat), (l.modify i f).map (·.born) = l.map (·.born)
  | [], _ => by simp
  | e :: l, 0 => by simp [hf]
  | e :: l, i + 1 => by simp [born_modify f hf l i]

section
variable {P : Program} {w : World} {t kt et : TypeId} {b : Nat} {es : List (K × Value)}
theorem run_findK (hk : P.underlying kt = some κ.kd) (k : K) {l : List MapEntry} (h : l.map rd = es.map (krd κ)) : (Instr.findKey kt (κ.kv k) l).run P w = .ok (kidx es k 0) w :=
  Go.MapKept.run_findKey hk (findNow_k k l es 0 h)
theorem run_lookupK (hm : mpOf P t = some (kt, et)) (hk : P.underlying kt = some κ.kd) {z : Value} (hz : zrOf P et = some z) (h : IsMapK κ w b es) (k : K) (ok : Bool) :
    (Instr.lookup t (.map (some b)) (κ.kv k) ok).run P w = .ok (if ok then .tuple #[(kget es k).getD z, .bool (kget es k).isSome] else (kget es k).getD z) w := by
  obtain ⟨a, c, hb, hl, _⟩ := h
  have h1 := kidx_get k es 0
  cases hx : kidx es k 0 with
  | none =>
    rw [hx] at h1
    rw [← h1]
    cases ok <;> simp [Instr.lookup, run_underlying (mpOf_und hm), Go.MapKept.run_getObj_map hb, κ.chk P kt k _ w hk, run_findK hk k hl, hx, run_zero hz]
  | some q =>
    rw [hx] at h1
    rw [← h1]
    cases ok <;> simp [Instr.lookup, run_underlying (mpOf_und hm), Go.MapKept.run_getObj_map hb, κ.chk P kt k _ w hk, run_findK hk k hl, hx]
theorem run_putK (hm : mpOf P t = some (kt, et)) (hk : P.underlying kt = some κ.kd) (h : IsMapK κ w b es) (k : K) (v : Value) :
    ∃ w', (Instr.mapUpdate t (.map (some b)) (κ.kv k) v).run P w = .ok () w' ∧ w'.heap.size = w.heap.size ∧ Chg [b] w w' ∧ IsMapK κ w' b (kput es k v) := by
  obtain ⟨a, c, hb, hl, hs1, hs2⟩ := h
  have hlt := (Array.getElem?_eq_some_iff.1 hb).1
  cases hx : kidx es k 0 with
  | none =>
    refine ⟨w.putObj b (.map (a.push { key := κ.kv k, val := v, born := c }) (c + 1)), ?_, by simp [World.putObj], Chg.put _ _ _, _, _, World.putObj_heap_same hlt, ?_, ?_, ?_⟩
    · simp [Instr.mapUpdate, run_underlying (mpOf_und hm), Go.MapKept.run_getObj_map hb, κ.chk P kt k _ w hk, run_findK hk k hl, hx, Go.MapKept.run_setObj_map _ hb, World.putObj]
    · rw [kput_none k v es 0 hx]
      simp [hl, rd, krd]
    · simp only [Array.toList_push, List.map_append, List.map_cons, List.map_nil]
      refine List.nodup_append.2 ⟨hs1, by simp, ?_⟩
      intro x hx y hy e
      simp at hy
      subst hy
      obtain ⟨e', he', rfl⟩ := List.mem_map.1 hx
      have := hs2 e' he'
      omega
    · intro e he
      simp at he
      rcases he with he | rfl
      · have := hs2 e (by simpa using he); omega
      · simp
  | some q =>
    obtain ⟨i, u⟩ := q
    have hmod := modify_k (κ := κ) k v a.toList es 0 i u hl hx
    have hget : ((a[i]?).map (·.key)).getD (κ.kv k) = κ.kv k := by
      cases he : a[i]? with
      | none => rfl
      | some e =>
        have hi : (es.map (krd κ))[i]? = some (rd e) := by rw [← hl, List.getElem?_map]; simp [he]
        obtain ⟨p, hp, hpk⟩ := kidx_at k es 0 i u hx
        rw [List.getElem?_map, show es[i]? = some p by simpa using hp] at hi
        simp only [Option.map_some, Option.some.injEq, krd, rd, Prod.mk.injEq] at hi
        simp [← hi.1, hpk]
    have hbn := born_modify (fun e : MapEntry => { e with key := κ.kv k, val := v }) (fun _ => rfl) a.toList i
    refine ⟨w.putObj b (.map (a.modify i fun e => { e with key := κ.kv k, val := v }) c), ?_, by simp [World.putObj], Chg.put _ _ _, _, _, World.putObj_heap_same hlt, ?_, ?_, ?_⟩
    · have hkeep : (Instr.keyThatStays (κ.kv k) (κ.kv k)).run P w = .ok (κ.kv k) w := by
        simp [Instr.keyThatStays, κ.bits]
      simp [Instr.mapUpdate, run_underlying (mpOf_und hm), Go.MapKept.run_getObj_map hb, κ.chk P kt k _ w hk, run_findK hk k hl, hx, Go.MapKept.run_setObj_map _ hb, World.putObj, hget, hkeep]
    · simpa using hmod
    · simp only [Array.toList_modify, hbn]
      exact hs1
    · intro e he
      have h1 : e.born ∈ (a.toList.modify i fun e => { e with key := κ.kv k, val := v }).map (·.born) := List.mem_map.2 ⟨e, by simpa using he, rfl⟩
      rw [hbn] at h1
      obtain ⟨e', he', hh⟩ := List.mem_map.1 h1
      rw [← hh]
      exact hs2 e' he'
end

/-- r goes over the map b; these entries are still to come; last is what came last. -/
def IsIt (κ : KeyT K) (w : World) (r b : Nat) (es left : List (K × Value)) (last : Option (K × Value)) : Prop :=
  ∃ (a : Array MapEntry) (clock : Nat) (seen : Array Nat), w.heap[r]? = some (.mapIter (some b) clock seen clock) ∧ w.heap[b]? = some (.map a clock) ∧ a.toList.map rd = es.map (krd κ) ∧ Stamps a clock ∧
    (∀ p ∈ left, p ∈ es) ∧ (leftOf a seen).toList.map rd = left.map (krd κ) ∧
    (∀ p, last = some p → ∃ (e : MapEntry) (s : Array Nat), e ∈ a.toList ∧ seen = s.push e.born ∧ rd e = krd κ p)
theorem IsIt.map {w : World} {r b : Nat} {es left : List (K × Value)} {last : Option (K × Value)} (h : IsIt κ w r b es left last) : IsMapK κ w b es := by
  obtain ⟨a, c, s, _, h2, h3, h4, _⟩ := h
  exact ⟨a, c, h2, h3, h4⟩
theorem IsIt.chg {S : List Nat} {w w' : World} {r b : Nat} {es left : List (K × Value)} {last : Option (K × Value)} (h : IsIt κ w r b es left last) (hc : Chg S w w') (hr : r ∉ S) (hb : b ∉ S) : IsIt κ w' r b es left last := by
  obtain ⟨a, c, s, h1, h2, h3⟩ := h
  exact ⟨a, c, s, (hc.block r (Array.getElem?_eq_some_iff.1 h1).1 hr).trans h1, (hc.block b (Array.getElem?_eq_some_iff.1 h2).1 hb).trans h2, h3⟩

theorem leftOf_push (a : Array MapEntry) (seen : Array Nat) (x : Nat) : (leftOf a (seen.push x)).toList = (leftOf a seen).toList.filter fun e => !(e.born == x) := by
  unfold leftOf
  simp only [Array.toList_filter, List.filter_filter]
  apply List.filter_congr
  intro e _
  simp only [Array.contains_push]
  cases (e.born == x) <;> cases seen.contains e.born <;> rfl

section
variable {P : Program} {n : Nat} {F : Fr} {w : World} {d : Tmp} {dst : Option Tmp} {ty t kt et : TypeId} {pos : String} {af : Array Edge} {gd : Option (Nat × Bool)} {K' : Fr → World → Prop} {b r : Nat} {es left : List (K × Value)}
theorem st_makeMapK (κ : KeyT K) (hn : Nat.blt d n = true) (h : ∀ b w', w.heap.size = b → w'.heap.size = b + 1 → Chg [] w w' → IsMapK κ w' b [] → K' ((d, .map (some b)) :: F) w') : St P n F ⟨some d, .makeMap t none, ty, pos, af, gd⟩ w K' := by
  refine St.vl (v := .map (some w.heap.size)) (w' := w.alloc (.map #[] 0)) ?_ rfl hn (h _ _ rfl (by simp) (Chg.alloc _ _ _) ⟨#[], 0, heap_alloc_new w _, rfl, by simp [Stamps]⟩)
  intro a _
  simp [execOp, Go.RowKit.run_makeMap]
theorem vl_lookK2 (hm : mpOf P t = some (kt, et)) (hk : P.underlying kt = some κ.kd) {z : Value} (hz : zrOf P et = some z) {x y : Operand} {k : K} (hx : ev F x = some (.map (some b))) (hy : ev F y = some (κ.kv k)) (h : IsMapK κ w b es) {g : Option Value} (hg : kget es k = g) :
    Vl P n F ⟨dst, .lookup t x y true, ty, pos, af, gd⟩ w (.tuple #[g.getD z, .bool g.isSome]) w :=
  fun a ha => by subst hg; simp [execOp, ha.eval hx, ha.eval hy, run_lookupK hm hk hz h k]
theorem vl_lookK2v (hm : mpOf P t = some (kt, et)) (hk : P.underlying kt = some κ.kd) {z : Value} (hz : zrOf P et = some z) {x y : Operand} {k : K} (hx : ev F x = some (.map (some b))) (hy : ev F y = some (κ.kv k)) (h : IsMapK κ w b es) {g : Option Value} (hg : kget es k = g) {v : Value} (hv : g.getD z = v) :
    Vl P n F ⟨dst, .lookup t x y true, ty, pos, af, gd⟩ w (.tuple #[v, .bool g.isSome]) w := hv ▸ vl_lookK2 hm hk hz hx hy h hg
theorem vl_lookK1 (hm : mpOf P t = some (kt, et)) (hk : P.underlying kt = some κ.kd) {z : Value} (hz : zrOf P et = some z) {x y : Operand} {k : K} (hx : ev F x = some (.map (some b))) (hy : ev F y = some (κ.kv k)) (h : IsMapK κ w b es) {g : Option Value} (hg : kget es k = g) :
    Vl P n F ⟨dst, .lookup t x y false, ty, pos, af, gd⟩ w (g.getD z) w :=
  fun a ha => by subst hg; simp [execOp, ha.eval hx, ha.eval hy, run_lookupK hm hk hz h k]
theorem vl_lookK1v (hm : mpOf P t = some (kt, et)) (hk : P.underlying kt = some κ.kd) {z : Value} (hz : zrOf P et = some z) {x y : Operand} {k : K} (hx : ev F x = some (.map (some b))) (hy : ev F y = some (κ.kv k)) (h : IsMapK κ w b es) {g : Option Value} (hg : kget es k = g) {v : Value} (hv : g.getD z = v) :
    Vl P n F ⟨dst, .lookup t x y false, ty, pos, af, gd⟩ w v w := hv ▸ vl_lookK1 hm hk hz hx hy h hg
theorem st_putK (hm : mpOf P t = some (kt, et)) (hk : P.underlying kt = some κ.kd) {x y z : Operand} {k : K} {v : Value} (hx : ev F x = some (.map (some b))) (hy : ev F y = some (κ.kv k)) (hz : ev F z = some v) (h : IsMapK κ w b es)
    (hK : ∀ w', w'.heap.size = w.heap.size → Chg [b] w w' → IsMapK κ w' b (kput es k v) → K' F w') : St P n F ⟨none, .mapUpdate t x y z, ty, pos, af, gd⟩ w K' := by
  obtain ⟨w', hr, h1, h2, h3⟩ := run_putK (P := P) hm hk h k v
  refine St.sk (w' := w') ?_ rfl (hK w' h1 h2 h3)
  intro a ha
  simp [execOp, ha.eval hx, ha.eval hy, ha.eval hz, hr]
theorem st_insK (hm : mpOf P t = some (kt, et)) (hk : P.underlying kt = some κ.kd) {x y z : Operand} {k : K} {v : Value} (hx : ev F x = some (.map (some b))) (hy : ev F y = some (κ.kv k)) (hz : ev F z = some v) (h : IsMapK κ w b es)
    (hK : ∀ w', w'.heap.size = w.heap.size → Chg [b] w w' → IsMapK κ w' b (kput es k v) → K' F w') : St P n F ⟨none, .insert t x y z, ty, pos, af, gd⟩ w K' := by
  obtain ⟨w', hr, h1, h2, h3⟩ := run_putK (P := P) hm hk h k v
  refine St.sk (w' := w') ?_ rfl (hK w' h1 h2 h3)
  intro a ha
  simp [execOp, ha.eval hx, ha.eval hy, ha.eval hz, hr]
theorem st_rangeK (hm : mpOf P t = some (kt, et)) {x : Operand} (hx : ev F x = some (.map (some b))) (h : IsMapK κ w b es) (hn : Nat.blt d n = true)
    (hK : ∀ r w', w.heap.size = r → w'.heap.size = r + 1 → Chg [] w w' → IsIt κ w' r b es es none → K' ((d, .pointer (some ⟨r, 0, none⟩)) :: F) w') : St P n F ⟨some d, .range t x, ty, pos, af, gd⟩ w K' := by
  have hlt := h.lt
  obtain ⟨a, c, hb, hl, hs⟩ := h
  refine St.vl (v := .pointer (some ⟨w.heap.size, 0, none⟩)) (w' := w.alloc (.mapIter (some b) c #[] c)) ?_ rfl hn
    (hK _ _ rfl (by simp) (Chg.alloc _ _ _) ⟨a, c, #[], heap_alloc_new w _, (Go.RowKit.Below.heap_alloc w _ b hlt).trans hb, hl, hs, fun p hp => hp, ?_, by simp⟩)
  · intro ac ha
    simp [execOp, Instr.range, ha.eval hx, run_underlying (mpOf_und hm), Go.MapKept.run_getObj_map hb]
  · unfold leftOf
    have hf : a.toList.filter (fun _ => true) = a.toList := List.filter_eq_self.2 fun _ _ => rfl
    simp [hf, hl]
/-- The next round: nothing is left, or some one that is left comes. -/
theorem st_nextK {x : Operand} {last : Option (K × Value)} (hx : ev F x = some (.pointer (some ⟨r, 0, none⟩))) (h : IsIt κ w r b es left last) (hn : Nat.blt d n = true)
    (h0 : left = [] → K' ((d, .tuple #[.bool false]) :: F) w)
    (h1 : ∀ (p : K × Value) (l1 l2 : List (K × Value)) (w' : World), left = l1 ++ p :: l2 → w'.heap.size = w.heap.size → Chg [r] w w' → IsIt κ w' r b es (l1 ++ l2) (some p) → K' ((d, .tuple #[.bool true, κ.kv p.1, p.2]) :: F) w') :
    St P n F ⟨some d, .next x false, ty, pos, af, gd⟩ w K' := by
  obtain ⟨a, c, seen, hr, hb, hl, ⟨hs1, hs2⟩, hsub, hleft, _⟩ := h
  have hrlt := (Array.getElem?_eq_some_iff.1 hr).1
  have hne : b ≠ r := by
    rintro rfl
    rw [hr] at hb
    cases hb
  rcases run_next_at (P := P) w ty r b c c seen a c hr hb (fun x hx => hs2 x hx) (Nat.le_refl _) with ⟨hz, hrun⟩ | ⟨e, he, w1, hw1, hrun⟩
  · have hnil : left = [] := by
      have : (leftOf a seen).toList = [] := by simpa using Array.eq_empty_of_size_eq_zero hz
      rw [this] at hleft
      simpa using hleft.symm
    refine St.vl (v := .tuple #[.bool false]) (w' := w) ?_ rfl hn (h0 hnil)
    intro ac ha
    simp [execOp, ha.eval hx, hrun]
  · -- the entry's place among what is left
    obtain ⟨s, t', hst⟩ := List.append_of_mem he
    have hlen := congrArg List.length hleft
    have hmap : (s ++ e :: t').map rd = left.map (krd κ) := by rw [← hst]; exact hleft
    obtain ⟨l1, l2', hl12, hm1, hm2⟩ : ∃ l1 l2', left = l1 ++ l2' ∧ l1.map (krd κ) = s.map rd ∧ l2'.map (krd κ) = (e :: t').map rd := by
      refine ⟨left.take s.length, left.drop s.length, (List.take_append_drop _ _).symm, ?_, ?_⟩
      · rw [List.map_take, ← hmap, List.map_append, List.take_left' (by simp)]
      · rw [List.map_drop, ← hmap, List.map_append, List.drop_left' (by simp)]
    cases l2' with
    | nil => simp at hm2
    | cons p l2 =>
      simp only [List.map_cons, List.cons.injEq] at hm2
      obtain ⟨hpe, hm2⟩ := hm2
      have hw1h : w1.heap = w.heap := by rcases hw1 with rfl | rfl <;> rfl
      have hc1 : Chg [r] w (Go.ChangeMaps.setBlock w1 r (.mapIter (some b) c (seen.push e.born) c)) := by
        rcases hw1 with rfl | rfl
        · exact Chg.put w1 r _
        · exact (Chg.drew [r] w).transS (Chg.put w.drew r _)
      have hae : e ∈ a.toList := by
        have : e ∈ (leftOf a seen).toList := by rw [hst]; simp
        unfold leftOf at this
        simp only [Array.toList_filter, List.mem_filter] at this
        exact this.1
      have hleft2 : (leftOf a (seen.push e.born)).toList.map rd = (l1 ++ l2).map (krd κ) := by
        rw [leftOf_push, hst, List.filter_append, List.filter_cons]
        have hnd : ((s ++ e :: t').map (·.born)).Nodup := by
          rw [← hst]
          refine hs1.sublist ?_
          unfold leftOf
          simp only [Array.toList_filter]
          exact List.filter_sublist.map _
        rw [List.map_append, List.map_cons, List.nodup_append] at hnd
        obtain ⟨_, h2, h3⟩ := hnd
        rw [List.nodup_cons] at h2
        have f1 : s.filter (fun x => !(x.born == e.born)) = s := List.filter_eq_self.2 fun x hx => by
          have := h3 x.born (List.mem_map.2 ⟨x, hx, rfl⟩) e.born (by simp)
          simpa using this
        have f2 : t'.filter (fun x => !(x.born == e.born)) = t' := List.filter_eq_self.2 fun x hx => by
          have : x.born ≠ e.born := fun hh => h2.1 (List.mem_map.2 ⟨x, hx, hh⟩)
          simpa using this
        simp only [beq_self_eq_true, Bool.not_true, Bool.false_eq_true, if_false, f1, f2, List.map_append, hm1, hm2]
      refine St.vl (v := .tuple #[.bool true, κ.kv p.1, p.2]) (w' := Go.ChangeMaps.setBlock w1 r (.mapIter (some b) c (seen.push e.born) c)) ?_ rfl hn (h1 p l1 l2 _ hl12 (by simp [Go.ChangeMaps.setBlock, hw1h]) hc1 ⟨a, c, seen.push e.born, ?_, ?_, hl, ⟨hs1, hs2⟩, ?_, hleft2, ?_⟩)
      · intro ac ha
        have e1 : e.key = κ.kv p.1 := by have := congrArg Prod.fst hpe; simpa [rd, krd] using this.symm
        have e2 : e.val = p.2 := by have := congrArg Prod.snd hpe; simpa [rd, krd] using this.symm
        simp [execOp, ha.eval hx, hrun, e1, e2]
      · have : r < w1.heap.size := by rw [hw1h]; exact hrlt
        simp [Go.ChangeMaps.setBlock, this]
      · rw [← hb, ← hw1h]
        simp [Go.ChangeMaps.setBlock, Ne.symm hne]
      · intro q hq
        refine hsub q ?_
        rw [hl12]
        rcases List.mem_append.1 hq with h | h <;> simp [h]
      · intro q hq
        simp only [Option.some.injEq] at hq
        subst hq
        exact ⟨e, seen, hae, rfl, hpe.symm⟩
/-- What came last, read again. -/
theorem vl_entryK {x : Operand} {p : K × Value} (hx : ev F x = some (.pointer (some ⟨r, 0, none⟩))) (h : IsIt κ w r b es left (some p)) : Vl P n F ⟨dst, .entry x, ty, pos, af, gd⟩ w (.tuple #[κ.kv p.1, p.2]) w := by
  intro ac ha
  obtain ⟨a, c, seen, hr, hb, hl, ⟨hs1, hs2⟩, _, _, hlast⟩ := h
  obtain ⟨e, s, he, rfl, hp⟩ := hlast p rfl
  have hrun := run_entry_at (P := P) w r b c s a c e hr hb he hs1
  have e1 : e.key = κ.kv p.1 := by have := congrArg Prod.fst hp; simpa [rd, krd] using this
  have e2 : e.val = p.2 := by have := congrArg Prod.snd hp; simpa [rd, krd] using this
  simp [execOp, ha.eval hx, hrun, e1, e2]
end
end

/-! texts, gone over -/
def IsSi (w : World) (r : Nat) (s : ByteArray) (p : Nat) : Prop := w.heap[r]? = some (.stringIter s p)
theorem IsSi.chg {S : List Nat} {w w' : World} {r p : Nat} {s : ByteArray} (h : IsSi w r s p) (hc : Chg S w w') (hr : r ∉ S) : IsSi w' r s p := (hc.block r (Array.getElem?_eq_some_iff.1 h).1 hr).trans h
section
variable {P : Program} {n : Nat} {F : Fr} {w : World} {d : Tmp} {ty t : TypeId} {pos : String} {af : Array Edge} {gd : Option (Nat × Bool)} {K' : Fr → World → Prop} {r p : Nat} {s : ByteArray}
theorem st_rangeS (hs : stOf P t = true) {x : Operand} (hx : ev F x = some (.string s)) (hn : Nat.blt d n = true)
    (hK : ∀ r w', w.heap.size = r → w'.heap.size = r + 1 → Chg [] w w' → IsSi w' r s 0 → K' ((d, .pointer (some ⟨r, 0, none⟩)) :: F) w') : St P n F ⟨some d, .range t x, ty, pos, af, gd⟩ w K' := by
  refine St.vl (v := .pointer (some ⟨w.heap.size, 0, none⟩)) (w' := w.alloc (.stringIter s 0)) ?_ rfl hn (hK _ _ rfl (by simp) (Chg.alloc _ _ _) (heap_alloc_new w _))
  intro ac ha
  simp [execOp, Instr.range, ha.eval hx, run_underlying (stOf_und hs)]
theorem st_nextS {x : Operand} (hx : ev F x = some (.pointer (some ⟨r, 0, none⟩))) (h : IsSi w r s p) (hn : Nat.blt d n = true)
    (h0 : s.size ≤ p → K' ((d, .tuple #[.bool false]) :: F) w)
    (h1 : ∀ w', p < s.size → w'.heap.size = w.heap.size → Chg [r] w w' → IsSi w' r s (p + (Utf8.decode s p).2) → K' ((d, .tuple #[.bool true, .int .i64 p, .int .i32 (Utf8.decode s p).1]) :: F) w') :
    St P n F ⟨some d, .next x true, ty, pos, af, gd⟩ w K' := by
  have hr := (Array.getElem?_eq_some_iff.1 h).1
  have hg : (getObj r).run P w = .ok (.stringIter s p) w := by simp [getObj, Sem.run, (show w.heap[r]? = _ from h)]
  by_cases hp : p < s.size
  · have hset : ∀ o, (setObj r o).run P w = .ok () (w.putObj r o) := fun o => by simp [setObj, Sem.run, (show w.heap[r]? = _ from h), World.putObj]
    refine St.vl (v := .tuple #[.bool true, .int .i64 p, .int .i32 (Utf8.decode s p).1]) (w' := w.putObj r (.stringIter s (p + (Utf8.decode s p).2))) ?_ rfl hn (h1 _ hp (by simp [World.putObj]) (Chg.put _ _ _) (World.putObj_heap_same hr))
    intro ac ha
    simp [execOp, Instr.next, ha.eval hx, hg, hp, hset, goInt]
  · refine St.vl (v := .tuple #[.bool false]) (w' := w) ?_ rfl hn (h0 (by omega))
    intro ac ha
    simp [execOp, Instr.next, ha.eval hx, hg, hp]
end
end Go.Wk

namespace Go.Wk

section
variable {P : Program} {n : Nat} {Q : Exit → Fr → World → Prop} {F : Fr} {w : World} {ops : Array Oper} {rest : List Oper} {ty : TypeId} {pos : String} {af : Array Edge}
theorem Rep.defer {a : Act} (h : Rep n F a) (f : Fn) (first cap : Array Value) : Rep n ((1000001, .func f first cap) :: F) { a with defers := { target := .fn f cap, args := first } :: a.defers } := by
  refine ⟨h.lt, h.size, ?_, fun i v hi => ?_⟩
  · have hb : Nat.ble 1000000 1000001 = true := rfl
    have e : marks ((1000001, Value.func f first cap) :: F) = { target := .fn f cap, args := first } :: marks F := by simp [marks, markF, dOf, hb]
    rw [e]
    simp [h.defers]
  · refine h.get i v ?_
    simp only [Wk.get] at hi
    by_cases e : i = 1000001
    · subst e
      have hb : Nat.ble 1000000 1000001 = true := rfl
      simp [hb] at hi
    · rw [beq_ne e] at hi; exact hi
theorem O_defer {f : Operand} {as : List Operand} {ts : Array TypeId} {g : Fn} {first cap : Array Value} {vs : List Value} (hf : ev F f = some (.func g first cap)) (ha : evs F as = some vs)
    (h : O P n ops Q rest ((1000001, .func g (first ++ vs.toArray) cap) :: F) w) : O P n ops Q (⟨none, .defer { callee := .value f, args := as.toArray, argTypes := ts }, ty, pos, af, none⟩ :: rest) F w := by
  intro a hr
  refine wpList_plain rfl fun K hK => ?_
  have hx : (execOp a.eval ⟨none, .defer { callee := .value f, args := as.toArray, argTypes := ts }, ty, pos, af, none⟩).run P w = .ok (.defer { target := .fn g cap, args := first ++ vs.toArray }) w := by
    simp [execOp, resolve, hr.eval hf, Deferred.ofValue, hr.evals as vs ha]
  unfold Oper.wp
  rw [hx]
  exact hK _ _ (h _ (hr.defer g (first ++ vs.toArray) cap))
end

def retFD (P : Program) (fn : Func) (R : Value → World → Prop) (n : Nat) : Exit → Fr → World → Prop
  | .normal, F, w | .ret, F, w => ∀ a, Rep n F a → Leaves P fn a.tmps (fun e w' => ∃ v, e = .returned v ∧ R v w') (marks F) .returning w
  | _, _, _ => False
theorem Ret.of_WD {P : Program} {f : FuncId} {fn : Func} {c : Code} {args : List Value} {w : World} {R : Value → World → Prop} {n : Nat} {F : Fr}
    (hf : P.funcs[f]? = some fn) (hb : fn.body = some c) (hn : fn.ntmps = n) (hl : Nat.ble args.length n = true) (hF : frameOf 0 args = F)
    (h : W P n c (retFD P fn R n) F w) (hk : Nat.ble n 1000000 = true := by rfl) : Ret P f args.toArray w R := by
  subst hF hn
  refine calls_of_wp_defers hf hb ?_
  refine wp_mono (h _ (Rep.frameOf hl (Nat.le_of_ble_eq_true hk))) ?_
  rintro e a w' ⟨F', hr', hq⟩
  cases e <;> simp only [retFD] at hq
  case normal => have := hq _ hr'; rw [← hr'.defers] at this; exact this
  case ret => have := hq _ hr'; rw [← hr'.defers] at this; exact this
section
variable {P : Program} {fn : Func} {R : Value → World → Prop} {n : Nat} {F : Fr} {w : World}
theorem retD {g : FuncId} {cap dargs : Array Value} {Rd : World → Prop} (hm : marks F = [{ target := .fn (.func g) cap, args := dargs }]) (hb : bodied P g = true)
    (hc : CallsD P g (dargs ++ cap) .returning w fun e u' w' => (∃ v, e = .returned v) ∧ u' = .returning ∧ Rd w')
    (hR : ∀ w' a, Rep n F a → Rd w' → ∃ v, (results fn a.tmps).run P w' = .ok v w' ∧ R v w') : retFD P fn R n .ret F w := by
  intro a ha
  rw [hm]
  have hi : (invoke (.fn (.func g) cap) dargs).run P w = .ok (.enter g (dargs ++ cap)) w := by
    unfold bodied at hb
    split at hb
    · rename_i f hfn
      simp only [Bool.and_eq_true, Bool.not_eq_true'] at hb
      have h1 : ¬ f.body = none := by cases hx : f.body <;> simp_all
      have h2 : ¬ f.name = "runtime.NumGoroutine" := by simpa using hb.2
      simp [invoke, callFunc, hfn, h1, h2]
    · simp at hb
  refine leaves_cons (f := g) (args := dargs ++ cap) (by simp) hi (CallsD.mono hc ?_)
  rintro e u' w' ⟨⟨v, rfl⟩, rfl, hr⟩
  obtain ⟨v', hv, hR'⟩ := hR w' a ha hr
  exact ⟨v', hv, v', rfl, hR'⟩
end
end Go.Wk

namespace Go.Wk

/-- v reads xs: a slice of len elements of k cells each. -/
def RdSl (w : World) (e k : Nat) (v : Value) (len : Nat) (xs : List Value) : Prop :=
  (v = .slice none 0 0 ∧ len = 0 ∧ xs = []) ∨ ∃ b off cap c fr, v = .slice (some ⟨b, off, none⟩) len cap ∧ w.heap[b]? = some (.cells (c : List Value).toArray e fr) ∧ len ≤ cap ∧ cap ≤ maxLen ∧ off + cap * k ≤ c.length ∧ xs = (c.drop off).take (len * k) ∧ ∀ u ∈ c, u.oneCell' = true
theorem IsSl.rd {w : World} {e k : Nat} {v : Value} {len : Nat} {xs : List Value} (h : IsSl w e k v len xs) : RdSl w e k v len xs := by
  rcases h with h | ⟨b, off, cap, c, rfl, h⟩
  · exact .inl h
  · exact .inr ⟨b, off, cap, c, (0, 0), rfl, h.blk, h.le, h.max, h.fit, h.xs, h.one⟩
theorem RdSl.chg {S : List Nat} {w w' : World} {e k : Nat} {v : Value} {len : Nat} {xs : List Value} (h : RdSl w e k v len xs) (hc : Chg S w w') (hb : ∀ b ∈ blkOf v, b ∉ S) : RdSl w' e k v len xs := by
  rcases h with h | ⟨b, off, cap, c, fr, rfl, h1, h2⟩
  · exact .inl h
  · exact .inr ⟨b, off, cap, c, fr, rfl, (hc.block b (Array.getElem?_eq_some_iff.1 h1).1 (hb b (by simp [blkOf]))).trans h1, h2⟩
theorem RdSl.chg0 {w w' : World} {e k : Nat} {v : Value} {len : Nat} {xs : List Value} (h : RdSl w e k v len xs) (hc : Chg [] w w') : RdSl w' e k v len xs := h.chg hc (by simp)
theorem RdSl.val {w : World} {e k : Nat} {v : Value} {len : Nat} {xs : List Value} (h : RdSl w e k v len xs) : ∃ p c, v = .slice p len c ∧ len ≤ c := by
  rcases h with ⟨rfl, rfl, _⟩ | ⟨b, off, cap, c, fr, rfl, _, h, _⟩
  · exact ⟨_, _, rfl, Nat.le_refl _⟩
  · exact ⟨_, _, rfl, h⟩
theorem RdSl.len_xs {w : World} {e k : Nat} {v : Value} {len : Nat} {xs : List Value} (h : RdSl w e k v len xs) : xs.length = len * k := by
  rcases h with ⟨_, rfl, rfl⟩ | ⟨b, off, cap, c, fr, _, _, h2, h3, h4, rfl, _⟩
  · simp
  · have : len * k ≤ cap * k := Nat.mul_le_mul_right _ h2
    rw [List.length_take, List.length_drop]; omega
theorem RdSl.one_xs {w : World} {e k : Nat} {v : Value} {len : Nat} {xs : List Value} (h : RdSl w e k v len xs) : ∀ u ∈ xs, u.oneCell' = true := by
  rcases h with ⟨_, rfl, rfl⟩ | ⟨b, off, cap, c, fr, _, _, _, _, _, rfl, h1⟩
  · simp
  · exact fun u hu => h1 u (List.mem_of_mem_drop (List.mem_of_mem_take hu))
theorem RdSl.lt {w : World} {e k : Nat} {v : Value} {len : Nat} {xs : List Value} (h : RdSl w e k v len xs) : ∀ b ∈ blkOf v, b < w.heap.size := by
  rcases h with ⟨rfl, _⟩ | ⟨b, off, cap, c, fr, rfl, h, _⟩
  · simp [blkOf]
  · intro b' hb'
    simp [blkOf] at hb'
    subst hb'
    exact (Array.getElem?_eq_some_iff.1 h).1
theorem RdSl.cells {w : World} {e k b off len cap : Nat} {xs : List Value} (h : RdSl w e k (.slice (some ⟨b, off, none⟩) len cap) len xs) : Cells w b off xs := by
  rcases h with ⟨h, _, _⟩ | ⟨b', off', cap', c, fr, he, h1, h2, h3, h4, rfl, h6⟩
  · cases h
  · simp only [Value.slice.injEq, Option.some.injEq, Addr.mk.injEq, and_true, true_and] at he
    obtain ⟨⟨rfl, rfl⟩, rfl⟩ := he
    intro j u hj
    have hx : w.cell? ⟨b, off + j, none⟩ = c[off + j]? := by simp [World.cell?, h1]
    rw [hx]
    rw [List.getElem?_take] at hj
    split at hj
    · rw [List.getElem?_drop] at hj
      exact hj
    · cases hj
theorem RdSl.at1 {w : World} {e : Nat} {v : Value} {len : Nat} {xs : List Value} (h : RdSl w e 1 v len xs) {i : Nat} {u : Value} (hi : xs[i]? = some u) : ∃ b off cap, v = .slice (some ⟨b, off, none⟩) len cap ∧ w.cell? ⟨b, off + i * 1, none⟩ = some u := by
  obtain ⟨p, c, rfl, _⟩ := h.val
  have hl := (List.getElem?_eq_some_iff.1 hi).1
  have hlen := h.len_xs
  rcases id h with ⟨h', _, hx⟩ | ⟨b, off, cap, c', fr, he, _⟩
  · rw [hx] at hi; cases hi
  · simp only [Value.slice.injEq] at he
    obtain ⟨rfl, _, rfl⟩ := he
    refine ⟨b, off, c, rfl, ?_⟩
    rw [Nat.mul_one]
    exact h.cells i u hi
/-- v[l:h:m] and v[l:h]. -/
theorem RdSl.cut {w : World} {e k len : Nat} {p : Option Addr} {cap : Nat} {xs : List Value} (hs : RdSl w e k (.slice p len cap) len xs) {l h m : Nat} (h1 : l ≤ h) (h2 : h ≤ m) (h3 : m ≤ cap) (h4 : h ≤ len) :
    RdSl w e k (Wk.cut p l h m k) (h - l) ((xs.drop (l * k)).take ((h - l) * k)) := by
  rcases hs with ⟨he, rfl, rfl⟩ | ⟨b, off, cap', c, fr, he, g1, g2, g3, g4, rfl, g6⟩
  · simp only [Value.slice.injEq] at he
    obtain ⟨rfl, _, rfl⟩ := he
    have : h = 0 := by omega
    subst this
    have : l = 0 := by omega
    subst this
    have : m = 0 := by omega
    subst this
    exact .inl ⟨by simp [Wk.cut], rfl, by simp⟩
  · simp only [Value.slice.injEq] at he
    obtain ⟨rfl, _, rfl⟩ := he
    have hmk : m * k ≤ cap * k := Nat.mul_le_mul_right _ h3
    have hlk : l * k ≤ m * k := Nat.mul_le_mul_right _ (by omega)
    have hsub : (m - l) * k = m * k - l * k := Nat.sub_mul _ _ _
    have hh : h * k ≤ len * k := Nat.mul_le_mul_right _ h4
    have hl : l * k ≤ h * k := Nat.mul_le_mul_right _ h1
    have hs2 : (h - l) * k = h * k - l * k := Nat.sub_mul _ _ _
    have e1 : (((c.drop off).take (len * k)).drop (l * k)).take ((h - l) * k) = (c.drop (off + l * k)).take ((h - l) * k) := by
      rw [List.drop_take, List.take_take, List.drop_drop]
      congr 1
      omega
    rw [e1]
    unfold Wk.cut
    by_cases he : m = l
    · subst he
      have : h = m := by omega
      subst this
      refine .inr ⟨b, off, 0, c, fr, by simp, g1, by omega, by simp [maxLen], by omega, by simp, g6⟩
    · rw [if_neg he]
      exact .inr ⟨b, off + l * k, m - l, c, fr, by simp [Addr.add_lit], g1, by omega, by omega, by omega, rfl, g6⟩

/-- The bytes of a text as values. -/
def bv (l : List UInt8) : List Value := l.map fun b => .int .u8 (b.toNat : Int)
theorem bv_len (l : List UInt8) : (bv l).length = l.length := by simp [bv]
theorem bv_one (l : List UInt8) : ∀ u ∈ bv l, u.oneCell' = true := by
  intro u hu
  simp only [bv, List.mem_map] at hu
  obtain ⟨b, _, rfl⟩ := hu
  rfl
theorem bv_append (a b : List UInt8) : bv (a ++ b) = bv a ++ bv b := by simp [bv]
theorem bv_at {l : List UInt8} {i : Nat} {b : UInt8} (h : l[i]? = some b) : (bv l)[i]? = some (.int .u8 (b.toNat : Int)) := by simp [bv, h]
def Byt (P : Program) (t : TypeId) : Option TypeId := match slOf P t with | some e => if itOf P e .u8 then some e else none | none => none

section
variable {P : Program} {n : Nat} {F : Fr} {w : World} {d : Tmp} {dst : Option Tmp} {ty t u e : TypeId} {pos : String} {af : Array Edge} {gd : Option (Nat × Bool)} {K : Fr → World → Prop}
/-- []byte(s). -/
theorem st_bytes {x : Operand} {s : ByteArray} (hs : stOf P t = true) (hu : slOf P u = some e) (he : itOf P e .u8 = true) (hx : ev F x = some (.string s)) (hl : s.size ≤ maxLen) (hn : Nat.blt d n = true)
    (h : ∀ b cap w', w.heap.size = b → Chg [] w w' → s.size ≤ cap → RdSl w' e 1 (.slice (some ⟨b, 0, none⟩) s.size cap) s.size (bv s.data.toList) → K ((d, .slice (some ⟨b, 0, none⟩) s.size cap) :: F) w') :
    St P n F ⟨some d, .convert t u x, ty, pos, af, gd⟩ w K := by
  have hrun := run_bytes_of_string (P := P) w t u e s (stOf_und hs) (slOf_und hu) (itOf_und he)
  have hge := grownCap_ge w s.size 0 e
  have hcm := grownCap_le_maxLen w s.size 0 e hl
  refine St.vl (v := .slice (some ⟨w.heap.size, 0, none⟩) s.size (grownCap w s.size 0 e)) ?_ rfl hn (h _ _ (w.drew.alloc (.cells (bytesRow s (grownCap w s.size 0 e)) e ((bytesRow s (grownCap w s.size 0 e)).size, (bytesRow s (grownCap w s.size 0 e)).size + 1))) rfl ((Chg.drew [] w).trans (Chg.alloc [] _ _)) hge ?_)
  · intro a ha
    simp [execOp, ha.eval hx, hrun]
  · have hsz : s.data.toList.length = s.size := by simp
    refine .inr ⟨w.heap.size, 0, _, (bytesRow s (grownCap w s.size 0 e)).toList, ((bytesRow s (grownCap w s.size 0 e)).size, (bytesRow s (grownCap w s.size 0 e)).size + 1), rfl, ?_, hge, hcm, ?_, ?_, ?_⟩
    · have := heap_alloc_new w.drew (.cells (bytesRow s (grownCap w s.size 0 e)) e ((bytesRow s (grownCap w s.size 0 e)).size, (bytesRow s (grownCap w s.size 0 e)).size + 1))
      simpa using this
    · have : s.data.size = s.size := rfl
      simp [bytesRow, this]; omega
    · rw [List.drop_zero, Nat.mul_one]
      unfold bytesRow
      rw [Array.toList_append, List.take_left' (by simp)]
      simp [bv]
    · intro u hu
      simp only [bytesRow, Array.toList_append, List.mem_append, Array.toList_map, List.mem_map, Array.toList_replicate, List.mem_replicate] at hu
      rcases hu with ⟨b, _, rfl⟩ | ⟨_, rfl⟩ <;> rfl
/-- copy, from a slice that is read alone. -/
theorem st_copyR {t2 : TypeId} {k : Nat} (hs : slOf P t = some e) (hk : szOf P e = some k) {x y : Operand} {v : Value} {b off dl dc m c : Nat} {cs ys : List Value} (hx : ev F x = some (.slice (some ⟨b, off, none⟩) dl dc)) (hy : ev F y = some v) (hv : RdSl w e k v m ys)
    (hb : Blk w b e cs) (hc : min m dl = c) (hl : off + c * k ≤ cs.length) (hn : Nat.blt d n = true)
    (h : ∀ w', w'.heap.size = w.heap.size → Chg [b] w w' → Blk w' b e (laid cs off (ys.take (c * k))) → K ((d, .int .i64 c) :: F) w') :
    St P n F ⟨some d, .call { callee := .builtin .copy, args := #[x, y], argTypes := #[t, t2] }, ty, pos, af, gd⟩ w K := by
  subst hc
  have hly := hv.len_xs
  have hle : min m dl * k ≤ m * k := Nat.mul_le_mul_right _ (Nat.min_le_left _ _)
  have hlt : (ys.take (min m dl * k)).length = min m dl * k := by rw [List.length_take]; omega
  have hone : ∀ u ∈ ys.take (min m dl * k), u.oneCell' = true := fun u hu => hv.one_xs u (List.mem_of_mem_take hu)
  have hst := run_stores (P := P) (off := off) (vs := ys.take (min m dl * k)) hb (by rw [hlt]; exact hl) hone
  have hlo : (Builtin.lenOf v).run P w = .ok m w := by
    obtain ⟨p, c, rfl, _⟩ := hv.val
    simp [Builtin.lenOf]
  refine St.vl (v := .int .i64 (min m dl : Nat)) (w' := w.setRow b (laid cs off (ys.take (min m dl * k))).toArray) ?_ rfl hn (h _ (by simp [World.setRow]) (Chg.row _ _ _) (hb.row _))
  intro a ha
  have hfirst : (Builtin.firstCells k (min m dl) v).run P w = .ok (ys.take (min m dl * k)).toArray w := by
    obtain ⟨p, c, rfl, _⟩ := hv.val
    rcases id hv with ⟨he, rfl, rfl⟩ | ⟨b', off', cap', c', fr, he, _⟩
    · simp only [Value.slice.injEq] at he
      obtain ⟨rfl, _, _⟩ := he
      simp [Builtin.firstCells]
    · simp only [Value.slice.injEq] at he
      obtain ⟨rfl, _, rfl⟩ := he
      have hcs := hv.cells
      refine run_firstCells_some w k (min m dl) ⟨b', off', none⟩ m c _ hlt (fun j u hu => ?_)
      rw [Addr.add_lit]
      rw [List.getElem?_take] at hu
      split at hu
      · exact hcs j u hu
      · cases hu
  simp [execOp, resolve, invoke, builtin, Builtin.copy_, ha.eval hx, ha.eval hy, run_underlying (slOf_und hs), run_sizeOf hk, hlo, hfirst, hst, goInt]
theorem vl_lenR {x : Operand} {v : Value} {m : Nat} {xs : List Value} {k : Nat} (hb : slOf P t = some e) (hx : ev F x = some v) (hv : RdSl w e k v m xs) :
    ∀ w, Vl P n F ⟨dst, .call { callee := .builtin .len, args := #[x], argTypes := #[t] }, ty, pos, af, gd⟩ w (.int .i64 m) w := by
  intro w
  obtain ⟨p, c, rfl, _⟩ := hv.val
  exact vl_len hb hx
end
end Go.Wk

namespace Go.Wk
theorem ine_f {a b : Int} (h : a = b) : (!decide (a = b)) = false := by simp [h]
theorem ine_t {a b : Int} (h : a ≠ b) : (!decide (a = b)) = true := by simp [h]
section
variable {P : Program} {w : World} {t t2 ty e : TypeId} {k by' : Nat} {z : Value}
/-- What append comes to: v' reads what both read; of v's block only what lies behind v's cells may have turned. -/
theorem run_appendG (A : App P t e k by' z) {d2 : TypeDesc} (hund2 : P.underlying t2 = some d2) (hd : (∃ e2, d2 = .slice e2) ∨ d2 = .string) {v s : Value} {n m : Nat} {xs ys : List Value} (hv : IsSl w e k v n xs)
    (hly : ys.length = m * k) (hone : ∀ u ∈ ys, u.oneCell' = true) (hls : (Builtin.lenOf s).run P w = .ok m w) (hfs' : ∀ w1 : World, w1.heap = w.heap → (Builtin.firstCells k m s).run P w1 = .ok ys.toArray w1) (h63 : n + m ≤ maxLen) (hbytes : (n + m) * by' ≤ 140737488355328) :
    ∃ v' w', (Builtin.append_ #[t, t2] ty #[v, s]).run P w = .ok v' w' ∧ IsSl w' e k v' (n + m) (xs ++ ys) ∧ Chg (blkOf v) w w' ∧ (blkOf v' = blkOf v ∨ ∃ b, blkOf v' = [b] ∧ w.heap.size ≤ b) ∧
      (v' = .slice none 0 0 ↔ v = .slice none 0 0 ∧ m = 0) := by
  rcases hd with ⟨e2, rfl⟩ | rfl
  all_goals
    obtain ⟨i, hi, hk, hb, hz⟩ := A.info
    have hund := slOf_und A.sl
    have hlx := hv.len_xs
    have hfs := hfs' w rfl
    have hm63 : n + m ≤ 9223372036854775807 := by simp only [maxLen] at h63; omega
    -- the new block
    have grown : ∀ old, n + m > old → ∀ S, IsSl (w.drew.alloc (.cells (xs.toArray ++ ys.toArray ++ Builtin.zeroCells z.cells (grownCap w (n + m) old e - (n + m))) e)) e k
          (.slice (some ⟨w.heap.size, 0, none⟩) (n + m) (grownCap w (n + m) old e)) (n + m) (xs ++ ys) ∧
        Chg S w (w.drew.alloc (.cells (xs.toArray ++ ys.toArray ++ Builtin.zeroCells z.cells (grownCap w (n + m) old e - (n + m))) e)) := by
      intro old _ S
      have hge := grownCap_ge w (n + m) old e
      have hcm := grownCap_le_maxLen w (n + m) old e h63
      refine ⟨.inr ⟨w.heap.size, 0, _, xs ++ ys ++ (Builtin.zeroCells z.cells (grownCap w (n + m) old e - (n + m))).toList, rfl, ?_, hge, hcm, ?_, ?_, ?_⟩, (Chg.drew S w).transS (Chg.alloc S _ _)⟩
      · show (w.drew.heap.push _)[w.heap.size]? = _
        rw [show w.heap.size = w.drew.heap.size from rfl, Array.getElem?_push_size]
        simp
      · simp only [List.length_append, hlx, hly, Array.length_toList, size_zeroCells, A.zs, ← Nat.add_mul, Nat.zero_add]
        rw [Nat.add_sub_cancel' hge]
        exact Nat.le_refl _
      · rw [List.drop_zero, List.take_left' (by simp [hlx, hly, Nat.add_mul])]
      · intro u hu
        simp only [List.mem_append] at hu
        rcases hu with (hu | hu) | hu
        · exact hv.one_xs u hu
        · exact hone u hu
        · exact oneCell_zero z _ A.zo u hu
    have hzero : ∀ w1 : World, (zeroValue e).run P w1 = .ok z w1 := fun w1 => run_zero A.zr
    rcases hv with ⟨rfl, rfl, rfl⟩ | ⟨g, off, cap, c, rfl, hv⟩
    · by_cases hm : m = 0
      · subst hm
        have hy : ys = [] := List.eq_nil_of_length_eq_zero (by simpa using hly)
        subst hy
        refine ⟨.slice none 0 0, w, ?_, IsSl.nil _ _ _, Chg.refl _ _, .inl rfl, by simp⟩
        simp [Builtin.append_, run_underlying hund, run_underlying hund2, run_sizeOf A.sz, hls, hfs]
      · have h0 : ¬ (0 + m ≤ 0) := by omega
        have h63' : ¬ (9223372036854775807 < (m : Int)) := by omega
        have h48' : ¬ (281474976710656 < Builtin.nextslicecap m 0 * i.bytes) := by
          have := growslice_fits (need := m) (old := 0) (bytes := by') (by omega) (by simpa using hbytes)
          rw [hb]; omega
        have hgr := grown 0 (by omega) []
        refine ⟨_, _, ?_, hgr.1, hgr.2, .inr ⟨w.heap.size, rfl, Nat.le_refl _⟩, by simp [hm]⟩
        have hfd := hfs' w.drew rfl
        simp [Builtin.append_, run_underlying hund, run_underlying hund2, run_sizeOf A.sz, hls, typeInfo, hi, hm, h63', h48', Question.forced, run_firstCells_none, hfd, hzero, newRow, grownCap]
    · by_cases hroom : n + m ≤ cap
      · have hfit := hv.fit
        have hcap : (n + m) * k ≤ cap * k := Nat.mul_le_mul_right _ hroom
        have hfit2 : off + n * k + ys.length ≤ c.length := by rw [hly]; rw [Nat.add_mul] at hcap; omega
        have hst := run_stores (P := P) (off := off + n * k) (vs := ys) hv.blk hfit2 hone
        refine ⟨.slice (some ⟨g, off, none⟩) (n + m) cap, w.setRow g (laid c (off + n * k) ys).toArray, ?_, .inr ⟨g, off, cap, laid c (off + n * k) ys, rfl, hv.blk.row _, hroom, hv.max, ?_, ?_, ?_⟩, (Chg.row _ _ _), .inl rfl, by simp⟩
        · simp [Builtin.append_, run_underlying hund, run_underlying hund2, run_sizeOf A.sz, hls, hroom, hfs, Addr.add_lit, hst]
        · simp only [laid, List.length_append, List.length_take, List.length_drop]
          omega
        · have e1 : (laid c (off + n * k) ys).drop off = xs ++ ys ++ c.drop (off + n * k + ys.length) := by
            unfold laid
            rw [List.append_assoc, List.drop_append_of_le_length (by rw [List.length_take]; omega), List.drop_take, ← List.append_assoc]
            rw [show off + n * k - off = n * k by omega, ← hv.xs]
          rw [e1, List.take_left' (by simp [hlx, hly, Nat.add_mul])]
        · intro u hu
          simp only [laid, List.mem_append] at hu
          rcases hu with (hu | hu) | hu
          · exact hv.one u (List.mem_of_mem_take hu)
          · exact hone u hu
          · exact hv.one u (List.mem_of_mem_drop hu)
      · have h0 : ¬ (n + m ≤ cap) := hroom
        have h63' : ¬ (9223372036854775807 < ((n : Int) + (m : Int))) := by omega
        have h48' : ¬ (281474976710656 < Builtin.nextslicecap (n + m) cap * i.bytes) := by
          have := growslice_fits (need := n + m) (old := cap) (bytes := by') (by omega) hbytes
          rw [hb]; omega
        have hgr := grown cap (by omega) (blkOf (.slice (some ⟨g, off, none⟩) n cap))
        refine ⟨_, _, ?_, hgr.1, hgr.2, .inr ⟨w.heap.size, rfl, Nat.le_refl _⟩, by simp⟩
        have hfd := hfs' w.drew rfl
        have hfo : (Builtin.firstCells k n (.slice (some ⟨g, off, none⟩) n cap)).run P w.drew = .ok xs.toArray w.drew :=
          run_first (w := w.drew) (e := e) (.inr ⟨g, off, cap, c, rfl, ⟨hv.blk, hv.le, hv.max, hv.fit, hv.xs, hv.one⟩⟩)
        simp [Builtin.append_, run_underlying hund, run_underlying hund2, run_sizeOf A.sz, hls, typeInfo, hi, h0, h63', h48', Question.forced, hfo, hfd, hzero, newRow, grownCap]
        rw [show (xs ++ ys).toArray = xs.toArray ++ ys.toArray from by simp, Array.append_assoc]
end


section
variable {P : Program} {n : Nat} {F : Fr} {w : World} {d : Tmp} {ty t t2 e : TypeId} {by' : Nat} {z : Value} {pos : String} {af : Array Edge} {gd : Option (Nat × Bool)} {K : Fr → World → Prop}
/-- append(bytes, text...). -/
theorem st_appendS (A : App P t e 1 by' z) (ht2 : stOf P t2 = true) {x y : Operand} {v : Value} {s : ByteArray} {l : Nat} {xs : List Value} (hx : ev F x = some v) (hy : ev F y = some (.string s)) (hv : IsSl w e 1 v l xs) (h63 : l + s.size ≤ maxLen) (hbytes : (l + s.size) * by' ≤ 140737488355328)
    (hn : Nat.blt d n = true) (h : ∀ v' w', IsSl w' e 1 v' (l + s.size) (xs ++ bv s.data.toList) → Chg (blkOf v) w w' → (blkOf v' = blkOf v ∨ ∃ b, blkOf v' = [b] ∧ w.heap.size ≤ b) → (v' = .slice none 0 0 ↔ v = .slice none 0 0 ∧ s.size = 0) → K ((d, v') :: F) w') :
    St P n F ⟨some d, .call { callee := .builtin .append, args := #[x, y], argTypes := #[t, t2] }, ty, pos, af, gd⟩ w K := by
  have hsz : s.data.toList.length = s.size := by simp
  obtain ⟨v', w', hr, h1, h2, h3, h4⟩ := run_appendG (ty := ty) (s := .string s) (m := s.size) (ys := bv s.data.toList) A (stOf_und ht2) (.inr rfl) hv (by rw [bv_len, hsz, Nat.mul_one]) (bv_one _) (by simp [Builtin.lenOf])
    (fun w1 _ => by
      have : s.extract 0 s.size = s := by simp
      simp only [Builtin.firstCells, this, bv, Sem.run_pure]
      rw [← Array.toList_map, Array.toArray_toList]) h63 hbytes
  refine St.vl (v := v') (w' := w') ?_ rfl hn (h v' w' h1 h2 h3 h4)
  intro a ha
  simp [execOp, resolve, invoke, builtin, ha.eval hx, ha.eval hy, hr]
/-- append, of a slice that is read alone. -/
theorem st_appendR {e2 : TypeId} {k : Nat} (A : App P t e k by' z) (ht2 : slOf P t2 = some e2) {x y : Operand} {v s : Value} {l m : Nat} {xs ys : List Value} (hx : ev F x = some v) (hy : ev F y = some s) (hv : IsSl w e k v l xs) (hs : RdSl w e k s m ys) (h63 : l + m ≤ maxLen) (hbytes : (l + m) * by' ≤ 140737488355328)
    (hn : Nat.blt d n = true) (h : ∀ v' w', IsSl w' e k v' (l + m) (xs ++ ys) → Chg (blkOf v) w w' → (blkOf v' = blkOf v ∨ ∃ b, blkOf v' = [b] ∧ w.heap.size ≤ b) → (v' = .slice none 0 0 ↔ v = .slice none 0 0 ∧ m = 0) → K ((d, v') :: F) w') :
    St P n F ⟨some d, .call { callee := .builtin .append, args := #[x, y], argTypes := #[t, t2] }, ty, pos, af, gd⟩ w K := by
  obtain ⟨v', w', hr, h1, h2, h3, h4⟩ := run_appendG (ty := ty) (s := s) (m := m) (ys := ys) A (slOf_und ht2) (.inl ⟨_, rfl⟩) hv hs.len_xs hs.one_xs (by
      obtain ⟨p, c, rfl, _⟩ := hs.val
      simp [Builtin.lenOf])
    (fun w1 h1 => by
      have hs1 : RdSl w1 e k s m ys := by
        rcases hs with hs | ⟨b, off, cap, c, fr, rfl, hs⟩
        · exact .inl hs
        · exact .inr ⟨b, off, cap, c, fr, rfl, by rw [h1]; exact hs⟩
      have hl := hs1.len_xs
      obtain ⟨p, c, rfl, _⟩ := hs1.val
      rcases id hs1 with ⟨he, rfl, rfl⟩ | ⟨b', off', cap', c', fr, he, _⟩
      · simp only [Value.slice.injEq] at he
        obtain ⟨rfl, _, _⟩ := he
        simp [Builtin.firstCells]
      · simp only [Value.slice.injEq] at he
        obtain ⟨rfl, _, rfl⟩ := he
        exact run_firstCells_some w1 k m ⟨b', off', none⟩ m c _ hl (fun j u hu => by rw [Addr.add_lit]; exact hs1.cells j u hu)) h63 hbytes
  refine St.vl (v := v') (w' := w') ?_ rfl hn (h v' w' h1 h2 h3 h4)
  intro a ha
  simp [execOp, resolve, invoke, builtin, ha.eval hx, ha.eval hy, hr]
end
section
variable {P : Program} {n : Nat} {F : Fr} {w : World} {dst : Option Tmp} {ty t u e : TypeId} {pos : String} {af : Array Edge} {gd : Option (Nat × Bool)}
/-- string(b), of a slice that is read alone. -/
theorem vl_bytesR {x : Operand} {v : Value} {len : Nat} {l : List UInt8} (hs : slOf P t = some e) (he : itOf P e .u8 = true) (hu : stOf P u = true) (hx : ev F x = some v) (hv : RdSl w e 1 v len (bv l)) :
    Vl P n F ⟨dst, .convert t u x, ty, pos, af, gd⟩ w (.string ⟨l.toArray⟩) w := by
  have hl := hv.len_xs
  rw [bv_len, Nat.mul_one] at hl
  obtain ⟨p, c, rfl, _⟩ := hv.val
  rcases id hv with ⟨h, rfl, _⟩ | ⟨b, off, cap, c', fr, h, _⟩
  · cases h
    have : l = [] := List.eq_nil_of_length_eq_zero hl
    subst this
    intro a ha
    simp [execOp, ha.eval hx, convert, run_underlying (slOf_und hs), run_underlying (itOf_und he), run_underlying (stOf_und hu)]
    trivial
  · cases h
    exact vl_bytes hs he hu hx hl.symm hv.cells
end
end Go.Wk

namespace Go.Wk

def scKind (P : Program) (t : TypeId) : Option Nat := match P.underlying t with
  | some (.int _) => some 0
  | some .string => some 1
  | some .bool => some 2
  | _ => none
def flatF (P : Program) : List Field → Nat → List Nat → Bool
  | [], _, [] => true
  | f :: r, i, k :: ks => (scKind P f.type == some k) && Nat.beq f.offset i && decide (f.name ≠ "_") && (agOf P f.type == some false) && flatF P r (i + 1) ks
  | _, _, _ => false
def flOf (P : Program) (t : TypeId) (ks : List Nat) : Bool := match P.underlying t with
  | some (.struct fs) => !P.stoodInHeld t && !P.eqGuardType P.depth t && flatF P fs.toList 0 ks
  | _ => false
/-- Are two cells the same? -/
def sceq : Nat → Value → Value → Option Bool
  | 0, .int k i, .int k' j => if k = k' then some (decide (i = j)) else none
  | 1, .string a, .string b => some (decide (a = b))
  | 2, .bool a, .bool b => some (a == b)
  | _, _, _ => none
def sceqL : List Nat → List Value → List Value → Option Bool
  | [], [], [] => some true
  | k :: ks, a :: r, b :: s => match sceq k a b, sceqL ks r s with
    | some x, some y => some (x && y)
    | _, _ => none
  | _, _, _ => none

section
variable {P : Program} {w : World}
theorem run_sceq {t : TypeId} {k : Nat} {a b : Value} {r : Bool} (d : Nat) (ht : scKind P t = some k) (h : sceq k a b = some r) : (Op.equalIn (d + 1) t a b).run P w = .ok r w := by
  unfold scKind at ht
  split at ht
  · rename_i k' hu
    cases ht
    cases a <;> cases b <;> simp only [sceq] at h <;> try (cases h; done)
    rename_i k1 i k2 j
    split at h
    · rename_i he
      subst he
      cases h
      rw [run_equalIn_int w d t k1 k' i j hu]
      rfl
    · cases h
  · rename_i hu
    cases ht
    cases a <;> cases b <;> simp only [sceq] at h <;> try (cases h; done)
    cases h
    rw [run_equalIn_string w d t _ _ hu, toList_beq]
  · rename_i hu
    cases ht
    cases a <;> cases b <;> simp only [sceq] at h <;> try (cases h; done)
    cases h
    rw [run_equalIn_bool w d t _ _ hu]
  · cases ht

theorem run_fields (d : Nat) : ∀ (fs : List Field) (ks : List Nat) (i : Nat) (as bs A B : List Value) (r : Bool), flatF P fs i ks = true → A = as.drop i → B = bs.drop i → sceqL ks A B = some r →
    (Op.eqFields (d + 1) as.toArray bs.toArray fs).run P w = .ok r w
  | [], [], i, as, bs, A, B, r, _, hA, hB, h => by
    cases A <;> cases B <;> simp only [sceqL] at h <;> try (cases h; done)
    cases h
    simp [Op.eqFields]
  | [], _ :: _, i, as, bs, A, B, r, hf, _, _, _ => by simp [flatF] at hf
  | _ :: _, [], i, as, bs, A, B, r, hf, _, _, _ => by simp [flatF] at hf
  | f :: fs, k :: ks, i, as, bs, A, B, r, hf, hA, hB, h => by
    simp only [flatF, Bool.and_eq_true, beq_iff_eq, decide_eq_true_eq] at hf
    obtain ⟨⟨⟨⟨h1, h2⟩, h3⟩, h4⟩, h5⟩ := hf
    have ei : f.offset = i := Nat.eq_of_beq_eq_true h2
    cases A with
    | nil => cases B <;> simp [sceqL] at h
    | cons a A =>
      cases B with
      | nil => simp [sceqL] at h
      | cons b B =>
        simp only [sceqL] at h
        cases hx : sceq k a b with
        | none => simp [hx] at h
        | some x =>
          rw [hx] at h
          cases hy : sceqL ks A B with
          | none => simp [hy] at h
          | some y =>
            rw [hy] at h
            simp only [Option.some.injEq] at h
            have ga : as.toArray[i]? = some a := by
              have : (as.drop i)[0]? = some a := by rw [← hA]; rfl
              simpa using this
            have gb : bs.toArray[i]? = some b := by
              have : (bs.drop i)[0]? = some b := by rw [← hB]; rfl
              simpa using this
            have hA' : A = as.drop (i + 1) := by
              have : A = (as.drop i).drop 1 := by rw [← hA]; rfl
              rw [this, List.drop_drop]
            have hB' : B = bs.drop (i + 1) := by
              have : B = (bs.drop i).drop 1 := by rw [← hB]; rfl
              rw [this, List.drop_drop]
            have ih := run_fields d fs ks (i + 1) as bs A B y h5 hA' hB' hy
            have p1 : (part f.type as.toArray i).run P w = .ok a w := by simp [part, run_isAgg h4, ga]
            have p2 : (part f.type bs.toArray i).run P w = .ok b w := by simp [part, run_isAgg h4, gb]
            have q := run_sceq (P := P) (w := w) d h1 hx
            subst h
            cases x <;> simp only [Op.eqFields, ei, Sem.run_ite, if_pos h3, Sem.run_bind, p1, p2, q, ih, Result.andThen_ok, Sem.run_pure, Bool.not_true, Bool.not_false, Bool.true_and, Bool.false_and] <;> simp
end

section
variable {P : Program} {n : Nat} {F : Fr} {w : World} {dst : Option Tmp} {ty : TypeId} {pos : String} {af : Array Edge} {gd : Option (Nat × Bool)}
theorem run_eqS {t : TypeId} {ks : List Nat} {as bs : List Value} {r : Bool} (h : flOf P t ks = true) (he : sceqL ks as bs = some r) : (Op.equalIn 10000 t (.agg as.toArray) (.agg bs.toArray)).run P w = .ok r w ∧ P.eqGuardType P.depth t = false := by
  unfold flOf at h
  split at h
  · rename_i fs hu
    simp only [Bool.and_eq_true, Bool.not_eq_true'] at h
    obtain ⟨⟨hs, hg⟩, h2⟩ := h
    have hfo : P.fieldsOf t = fs := by simp [Program.fieldsOf, hu]
    refine ⟨?_, hg⟩
    rw [run_equalIn_agg w 9999 t _ _ (by rw [hfo]; exact hu) hs, hfo]
    exact run_fields 9998 _ ks 0 as bs as bs r h2 rfl rfl he
  · cases h
theorem vl_neS {x y : Operand} {t u : TypeId} {ks : List Nat} {as bs : List Value} {r : Bool} (h : flOf P t ks = true) (hx : ev F x = some (.agg as.toArray)) (hy : ev F y = some (.agg bs.toArray)) (he : sceqL ks as bs = some r) :
    Vl P n F ⟨dst, .binOp .neq t x y u, ty, pos, af, gd⟩ w (.bool (!r)) w := by
  intro ac ha
  obtain ⟨e1, hg⟩ := run_eqS (P := P) (w := w) h he
  simp only [execOp, ha.eval hx, ha.eval hy, Sem.run_bind, run_eqGuard_agg w _ _ _ _ _ _ hg, Result.andThen_ok, run_neq_struct, e1]
  simp
theorem vl_eqS {x y : Operand} {t u : TypeId} {ks : List Nat} {as bs : List Value} {r : Bool} (h : flOf P t ks = true) (hx : ev F x = some (.agg as.toArray)) (hy : ev F y = some (.agg bs.toArray)) (he : sceqL ks as bs = some r) :
    Vl P n F ⟨dst, .binOp .eql t x y u, ty, pos, af, gd⟩ w (.bool r) w := by
  intro ac ha
  obtain ⟨e1, hg⟩ := run_eqS (P := P) (w := w) h he
  simp only [execOp, ha.eval hx, ha.eval hy, Sem.run_bind, run_eqGuard_agg w _ _ _ _ _ _ hg, Result.andThen_ok, run_eql_struct, e1]
  simp
end
end Go.Wk

namespace Go.Wk
def iqOf (P : Program) (i t : TypeId) : Option Bool := match P.underlying i with
  | some (.interface want) => (P.info? t).map fun d => (lacking want d.methods).isEmpty
  | _ => none
section
variable {P : Program} {n : Nat} {F : Fr} {w : World} {dst : Option Tmp} {ty : TypeId} {pos : String} {af : Array Edge} {gd : Option (Nat × Bool)}
theorem vl_ifne {x y : Operand} {t u tx ty' : TypeId} {vx vy : Value} (h : inOf P t = true) (hx : ev F x = some (.iface tx vx)) (hy : ev F y = some (.iface ty' vy)) (hne : Nat.beq tx ty' = false) :
    Vl P n F ⟨dst, .binOp .eql t x y u, ty, pos, af, gd⟩ w (.bool false) w := by
  intro a ha
  obtain ⟨ms, hu⟩ := inOf_und h
  have hn : tx ≠ ty' := fun e => by subst e; simp at hne
  have h1 : (Op.equal t (.iface tx vx) (.iface ty' vy)).run P w = .ok false w := run_equal fun d => by simp [Op.equalIn, run_underlying hu, hn]
  simp [execOp, ha.eval hx, ha.eval hy, eqGuard, binOp, h1]
theorem vl_ifint {x y : Operand} {t u tx : TypeId} {k : IntKind} {i j : Int} (h : inOf P t = true) (hc : (P.info? tx).map (·.comparable) = some true) (hk : itOf P tx k = true) (hx : ev F x = some (.iface tx (.int k i))) (hy : ev F y = some (.iface tx (.int k j))) :
    Vl P n F ⟨dst, .binOp .eql t x y u, ty, pos, af, gd⟩ w (.bool (decide (i = j))) w := by
  intro a ha
  obtain ⟨ms, hu⟩ := inOf_und h
  cases hi : P.info? tx with
  | none => simp [hi] at hc
  | some d =>
    simp [hi] at hc
    have key : ∀ d, (Op.equalIn (d + 1 + 1) t (.iface tx (.int k i)) (.iface tx (.int k j))).run P w = .ok (decide (i = j)) w := fun d => by
      simp [Op.equalIn, run_underlying hu, typeInfo, hi, hc, run_underlying (itOf_und hk)]
      rfl
    have h1 : (Op.equal t (.iface tx (.int k i)) (.iface tx (.int k j))).run P w = .ok (decide (i = j)) w := key 9998
    simp [execOp, ha.eval hx, ha.eval hy, eqGuard, binOp, h1]
theorem vl_ifnil {x y : Operand} {t u tx : TypeId} {vx : Value} (h : inOf P t = true) (hx : ev F x = some .nilIface) (hy : ev F y = some (.iface tx vx)) :
    Vl P n F ⟨dst, .binOp .eql t x y u, ty, pos, af, gd⟩ w (.bool false) w := by
  intro a ha
  obtain ⟨ms, hu⟩ := inOf_und h
  have h1 : (Op.equal t .nilIface (.iface tx vx)).run P w = .ok false w := run_equal fun d => by simp [Op.equalIn, run_underlying hu]
  simp [execOp, ha.eval hx, ha.eval hy, eqGuard, binOp, h1]
/-- x.(I), I an interface. -/
theorem vl_tasQ {x : Operand} {xt i t : TypeId} {v : Value} {b : Bool} (h : iqOf P i t = some b) (hz : zrOf P i = some .nilIface) (hx : ev F x = some (.iface t v)) :
    Vl P n F ⟨dst, .typeAssert x xt i true, ty, pos, af, gd⟩ w (.tuple #[if b then .iface t v else .nilIface, .bool b]) w := by
  intro a ha
  unfold iqOf at h
  split at h
  · rename_i want hu
    cases b with
    | true =>
      have h1 := run_typeAssert_hasB hu h v xt w
      simp [execOp, ha.eval hx, h1]
    | false =>
      cases hi : P.info? t with
      | none => simp [hi] at h
      | some d =>
        simp only [hi, Option.map_some, Option.some.injEq] at h
        cases hm : Instr.missingMethod want d.methods with
        | none =>
          exfalso
          have hl : lacking want d.methods ≠ [] := fun e => by rw [e] at h; cases h
          obtain ⟨m, hm'⟩ := missingMethod_some hl
          rw [hm] at hm'; cases hm'
        | some m => simp [execOp, Instr.typeAssert, ha.eval hx, run_underlying hu, typeInfo, hi, hm, run_zero hz]
  · simp at h
end
section
variable {P : Program} {fn : Func} {R : Value → World → Prop} {n : Nat} {F : Fr} {w : World}
/-- A result in a cell. -/
theorem retC1 {t ty : Nat} {p : Addr} {v : Value} (hr : fn.results = #[.cell t ty]) (hag : agOf P ty = some false) (hv : get F t = some (.pointer (some p))) (hc : w.cell? p = some v) (h : R v w) (hm : marks F = [] := by rfl) : retF P fn R n .ret F w :=
  ⟨v, fun a ha => by simp [results, hr, ha.get t _ hv, asAddr, loadVar, run_isAgg hag, hc], hm, h⟩
end
end Go.Wk
