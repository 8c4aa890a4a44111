/-
  Maps whose keys are texts: a block that holds a row of keys and values.
-/
import Derived.Test.YthbahcjkncfpdaaEngM
import Derived.MapKept
namespace Go.Wk

abbrev Ents := List (ByteArray × Value)
def mget : Ents → ByteArray → Option Value
  | [], _ => none
  | p :: r, k => if p.1 = k then some p.2 else mget r k
def mput : Ents → ByteArray → Value → Ents
  | [], k, v => [(k, v)]
  | p :: r, k, v => if p.1 = k then (k, v) :: r else p :: mput r k v
def mdel : Ents → ByteArray → Ents
  | [], _ => []
  | p :: r, k => if p.1 = k then r else p :: mdel r k

def rd (e : MapEntry) : Value × Value := (e.key, e.val)
def rds (p : ByteArray × Value) : Value × Value := (.string p.1, p.2)
/-- Block b is a map with these entries. -/
def IsMap (w : World) (b : Nat) (es : Ents) : Prop := ∃ (a : Array MapEntry) (clock : Nat), w.heap[b]? = some (.map a clock) ∧ a.toList.map rd = es.map rds

theorem IsMap.lt {w : World} {b : Nat} {es : Ents} (h : IsMap w b es) : b < w.heap.size := by
  obtain ⟨a, c, hb, _⟩ := h
  exact (Array.getElem?_eq_some_iff.1 hb).1
theorem IsMap.chg {S : List Nat} {w w' : World} {b : Nat} {es : Ents} (h : IsMap w b es) (hc : Chg S w w') (hb : b ∉ S) : IsMap w' b es := by
  obtain ⟨a, c, h1, h2⟩ := h
  exact ⟨a, c, (hc.block b (Array.getElem?_eq_some_iff.1 h1).1 hb).trans h1, h2⟩
theorem IsMap.chg0 {w w' : World} {b : Nat} {es : Ents} (h : IsMap w b es) (hc : Chg [] w w') : IsMap w' b es := h.chg hc (by simp)
theorem IsMap.ne {w : World} {b b' : Nat} {es : Ents} {e : TypeId} {c : List Value} (h : IsMap w b es) (hb : Blk w b' e c) : b ≠ b' := by
  rintro rfl
  obtain ⟨a, k, h1, _⟩ := h
  have := h1.symm.trans hb
  cases this

def mpOf (P : Program) (t : TypeId) : Option (TypeId × TypeId) := match P.underlying t with | some (.map k e) => some (k, e) | _ => none
theorem mpOf_und {P : Program} {t k e : TypeId} (h : mpOf P t = some (k, e)) : P.underlying t = some (.map k e) := by
  unfold mpOf at h
  split at h
  · rename_i k' e' he; simp at h; obtain ⟨rfl, rfl⟩ := h; exact he
  · simp at h

/-- Where the key is found first. -/
def midx : Ents → ByteArray → Nat → Option (Nat × Value)
  | [], _, _ => none
  | p :: r, k, i => if p.1 = k then some (i, p.2) else midx r k (i + 1)

theorem beq_ba (s u : ByteArray) : (s == u) = decide (s = u) := by
  have h0 : (s == u) = (s.data == u.data) := rfl
  rw [h0]
  by_cases h : s = u
  · subst h; simp
  · have h1 : ¬ s.data = u.data := fun e => h (by cases s; cases u; simpa using e)
    simp [h, h1]

theorem findNow_str (k : ByteArray) : ∀ (l : List MapEntry) (es : Ents) (i : Nat), l.map rd = es.map rds → Instr.findNow .string (.string k) l i = some (midx es k i)
  | [], [], i, _ => rfl
  | [], _ :: _, _, h => by simp at h
  | _ :: _, [], _, h => by simp at h
  | e :: l, p :: es, i, h => by
    simp only [List.map_cons, List.cons.injEq] at h
    obtain ⟨h1, h2⟩ := h
    simp only [rd, rds, Prod.mk.injEq] at h1
    obtain ⟨hk, hv⟩ := h1
    have hs : Instr.sameNow .string (.string k) e.key = some (k == p.1) := by rw [hk]; rfl
    simp only [Instr.findNow, hs, midx]
    by_cases he : p.1 = k
    · subst he
      rw [beq_ba]
      simp [hv]
    · have : (k == p.1) = false := by rw [beq_ba]; exact decide_eq_false (fun e => he e.symm)
      rw [this, if_neg he]
      exact findNow_str k l es (i + 1) h2
theorem midx_get (k : ByteArray) : ∀ (es : Ents) (i : Nat), (midx es k i).map (·.2) = mget es k
  | [], _ => rfl
  | p :: r, i => by
    simp only [midx, mget]
    split
    · rfl
    · exact midx_get k r (i + 1)
theorem midx_ge (k : ByteArray) : ∀ (es : Ents) (i j : Nat) (v : Value), midx es k i = some (j, v) → i ≤ j
  | [], _, _, _, h => by simp [midx] at h
  | p :: r, i, j, v, h => by
    simp only [midx] at h
    split at h
    · simp at h; omega
    · have := midx_ge k r (i + 1) j v h; omega
theorem modify_put (k : ByteArray) (v : Value) : ∀ (l : List MapEntry) (es : Ents) (i j : Nat) (u : Value), l.map rd = es.map rds → midx es k i = some (j, u) →
    (l.modify (j - i) fun e => { e with key := .string k, val := v }).map rd = (mput es k v).map rds
  | [], [], _, _, _, _, h => by simp [midx] at h
  | [], _ :: _, _, _, _, h, _ => by simp at h
  | _ :: _, [], _, _, _, h, _ => by simp at h
  | e :: l, p :: es, i, j, u, h, hm => by
    simp only [List.map_cons, List.cons.injEq] at h
    obtain ⟨h1, h2⟩ := h
    simp only [midx] at hm
    by_cases he : p.1 = k
    · rw [if_pos he] at hm
      simp only [Option.some.injEq, Prod.mk.injEq] at hm
      obtain ⟨rfl, _⟩ := hm
      rw [Nat.sub_self]
      simp only [mput, if_pos he, List.modify_zero_cons, List.map_cons, h2]
      rfl
    · rw [if_neg he] at hm
      have hge := midx_ge k es (i + 1) j u hm
      rw [show j - i = (j - (i + 1)) + 1 by omega]
      simp only [mput, if_neg he, List.modify_succ_cons, List.map_cons, h1, modify_put k v l es (i + 1) j u h2 hm]
theorem mput_none (k : ByteArray) (v : Value) : ∀ (es : Ents) (i : Nat), midx es k i = none → mput es k v = es ++ [(k, v)]
  | [], _, _ => rfl
  | p :: r, i, h => by
    simp only [midx] at h
    split at h
    · cases h
    · rename_i he
      simp only [mput, if_neg he, mput_none k v r (i + 1) h, List.cons_append]
theorem erase_del (k : ByteArray) : ∀ (l : List MapEntry) (es : Ents) (i j : Nat) (u : Value), l.map rd = es.map rds → midx es k i = some (j, u) → (l.eraseIdx (j - i)).map rd = (mdel es k).map rds
  | [], [], _, _, _, _, h => by simp [midx] at h
  | [], _ :: _, _, _, _, h, _ => by simp at h
  | _ :: _, [], _, _, _, h, _ => by simp at h
  | e :: l, p :: es, i, j, u, h, hm => by
    simp only [List.map_cons, List.cons.injEq] at h
    obtain ⟨h1, h2⟩ := h
    simp only [midx] at hm
    by_cases he : p.1 = k
    · rw [if_pos he] at hm
      simp only [Option.some.injEq, Prod.mk.injEq] at hm
      obtain ⟨rfl, _⟩ := hm
      rw [Nat.sub_self]
      simp only [mdel, if_pos he, List.eraseIdx_zero, List.tail_cons, h2]
    · rw [if_neg he] at hm
      have hge := midx_ge k es (i + 1) j u hm
      rw [show j - i = (j - (i + 1)) + 1 by omega]
      simp only [mdel, if_neg he, List.eraseIdx_cons_succ, List.map_cons, h1, erase_del k l es (i + 1) j u h2 hm]
theorem mdel_none (k : ByteArray) : ∀ (es : Ents) (i : Nat), midx es k i = none → mdel es k = es
  | [], _, _ => rfl
  | p :: r, i, h => by
    simp only [midx] at h
    split at h
    · cases h
    · rename_i he
      simp only [mdel, if_neg he, mdel_none k r (i + 1) h]

section
variable {P : Program} {w : World} {t kt et : TypeId} {b : Nat} {es : Ents}
theorem run_find (hk : stOf P kt = true) (k : ByteArray) {l : List MapEntry} (h : l.map rd = es.map rds) : (Instr.findKey kt (.string k) l).run P w = .ok (midx es k 0) w :=
  Go.MapKept.run_findKey (stOf_und hk) (findNow_str k l es 0 h)
theorem run_check (hk : stOf P kt = true) (k : ByteArray) (e : Bool) : (Instr.checkKey e 10000 kt (.string k)).run P w = .ok () w := by
  unfold Instr.checkKey
  simp [run_underlying (stOf_und hk)]
theorem run_lookup2 (hm : mpOf P t = some (kt, et)) (hk : stOf P kt = true) {z : Value} (hz : zrOf P et = some z) (h : IsMap w b es) (k : ByteArray) :
    (Instr.lookup t (.map (some b)) (.string k) true).run P w = .ok (.tuple #[(mget es k).getD z, .bool (mget es k).isSome]) w := by
  obtain ⟨a, c, hb, hl⟩ := h
  have h1 := midx_get k es 0
  cases hx : midx es k 0 with
  | none =>
    rw [hx] at h1
    rw [← h1]
    simp [Instr.lookup, run_underlying (mpOf_und hm), Go.MapKept.run_getObj_map hb, run_check hk, run_find hk k hl, hx, run_zero hz]
  | some q =>
    rw [hx] at h1
    rw [← h1]
    simp [Instr.lookup, run_underlying (mpOf_und hm), Go.MapKept.run_getObj_map hb, run_check hk, run_find hk k hl, hx]
theorem run_put (hm : mpOf P t = some (kt, et)) (hk : stOf P kt = true) (h : IsMap w b es) (k : ByteArray) (v : Value) :
    ∃ w', (Instr.mapUpdate t (.map (some b)) (.string k) v).run P w = .ok () w' ∧ w'.heap.size = w.heap.size ∧ Chg [b] w w' ∧ IsMap w' b (mput es k v) := by
  obtain ⟨a, c, hb, hl⟩ := h
  have hlt := (Array.getElem?_eq_some_iff.1 hb).1
  cases hx : midx es k 0 with
  | none =>
    refine ⟨w.putObj b (.map (a.push { key := .string k, val := v, born := c }) (c + 1)), ?_, by simp [World.putObj], Chg.put _ _ _, _, _, World.putObj_heap_same hlt, ?_⟩
    · simp [Instr.mapUpdate, run_underlying (mpOf_und hm), Go.MapKept.run_getObj_map hb, run_check hk, run_find hk k hl, hx, Go.MapKept.run_setObj_map _ hb, World.putObj]
    · rw [mput_none k v es 0 hx]
      simp [hl, rd, rds]
  | some q =>
    obtain ⟨i, u⟩ := q
    have hmod := modify_put k v a.toList es 0 i u hl hx
    have hget : ((a[i]?).map (·.key)).getD (.string k) = .string k := by
      have h2 := findNow_str k a.toList es 0 hl
      cases he : a[i]? with
      | none => rfl
      | some e =>
        have hi : (es.map rds)[i]? = some (rd e) := by rw [← hl, List.getElem?_map]; simp [he]
        have key : ∀ (es : Ents) (i0 j : Nat) (u : Value), midx es k i0 = some (j, u) → ∃ p, es[j - i0]? = some p ∧ p.1 = k := by
          intro es
          induction es with
          | nil => intro i0 j u h; simp [midx] at h
          | cons p r ih =>
            intro i0 j u h
            simp only [midx] at h
            split at h
            · rename_i he
              simp at h
              exact ⟨p, by simp [h.1], he⟩
            · have hge := midx_ge k r (i0 + 1) j u h
              obtain ⟨q, hq, hqk⟩ := ih (i0 + 1) j u h
              refine ⟨q, ?_, hqk⟩
              rw [show j - i0 = (j - (i0 + 1)) + 1 by omega]
              simpa using hq
        obtain ⟨p, hp, hpk⟩ := key es 0 i u hx
        rw [List.getElem?_map, show es[i]? = some p by simpa using hp] at hi
        simp only [Option.map_some, Option.some.injEq, rds, rd, Prod.mk.injEq] at hi
        simp [← hi.1, hpk]
    refine ⟨w.putObj b (.map (a.modify i fun e => { e with key := .string k, val := v }) c), ?_, by simp [World.putObj], Chg.put _ _ _, _, _, World.putObj_heap_same hlt, ?_⟩
    · have hkeep : (Instr.keyThatStays (.string k) (.string k)).run P w = .ok (.string k) w := by
        simp [Instr.keyThatStays, Instr.sameBits, beq_ba]
      simp [Instr.mapUpdate, run_underlying (mpOf_und hm), Go.MapKept.run_getObj_map hb, run_check hk, run_find hk k hl, hx, Go.MapKept.run_setObj_map _ hb, World.putObj, hget, hkeep]
    · simpa using hmod
theorem run_del {ts : Array TypeId} {ty : TypeId} (ht : ts[0]? = some t) (hm : mpOf P t = some (kt, et)) (hk : stOf P kt = true) (h : IsMap w b es) (k : ByteArray) :
    ∃ w', (Builtin.delete_ ts ty #[.map (some b), .string k]).run P w = .ok (.tuple #[]) w' ∧ w'.heap.size = w.heap.size ∧ Chg [b] w w' ∧ IsMap w' b (mdel es k) := by
  obtain ⟨a, c, hb, hl⟩ := h
  have hlt := (Array.getElem?_eq_some_iff.1 hb).1
  cases hx : midx es k 0 with
  | none =>
    refine ⟨w.putObj b (.map a c), ?_, by simp [World.putObj], Chg.put _ _ _, _, _, World.putObj_heap_same hlt, ?_⟩
    · simp [Builtin.delete_, ht, run_underlying (mpOf_und hm), Go.MapKept.run_getObj_map hb, run_check hk, run_find hk k hl, hx, Go.MapKept.run_setObj_map _ hb, World.putObj]
    · rw [mdel_none k es 0 hx]; exact hl
  | some q =>
    obtain ⟨i, u⟩ := q
    have hdel := erase_del k a.toList es 0 i u hl hx
    refine ⟨w.putObj b (.map (a.eraseIdxIfInBounds i) c), ?_, by simp [World.putObj], Chg.put _ _ _, _, _, World.putObj_heap_same hlt, ?_⟩
    · simp [Builtin.delete_, ht, run_underlying (mpOf_und hm), Go.MapKept.run_getObj_map hb, run_check hk, run_find hk k hl, hx, Go.MapKept.run_setObj_map _ hb, World.putObj]
    · simpa using hdel
end

section
variable {P : Program} {n : Nat} {F : Fr} {w : World} {d : Tmp} {dst : Option Tmp} {ty t kt et : TypeId} {pos : String} {af : Array Edge} {gd : Option (Nat × Bool)} {K : Fr → World → Prop} {b : Nat} {es : Ents}
theorem st_makeMap (hn : Nat.blt d n = true) (h : ∀ b w', w.heap.size = b → w'.heap.size = b + 1 → Chg [] w w' → IsMap w' b [] → K ((d, .map (some b)) :: F) w') : St P n F ⟨some d, .makeMap t none, ty, pos, af, gd⟩ w K := by
  refine St.vl (v := .map (some w.heap.size)) (w' := w.alloc (.map #[] 0)) ?_ rfl hn (h _ _ rfl (by simp) (Chg.alloc _ _ _) ⟨#[], 0, heap_alloc_new w _, rfl⟩)
  intro a _
  simp [execOp, Go.RowKit.run_makeMap]
theorem vl_lookup2 (hm : mpOf P t = some (kt, et)) (hk : stOf P kt = true) {z : Value} (hz : zrOf P et = some z) {x y : Operand} {k : ByteArray} (hx : ev F x = some (.map (some b))) (hy : ev F y = some (.string k)) (h : IsMap w b es) {g : Option Value} (hg : mget es k = g) :
    Vl P n F ⟨dst, .lookup t x y true, ty, pos, af, gd⟩ w (.tuple #[g.getD z, .bool g.isSome]) w :=
  fun a ha => by subst hg; simp [execOp, ha.eval hx, ha.eval hy, run_lookup2 hm hk hz h k]
theorem vl_mlen (hm : mpOf P t = some (kt, et)) {x : Operand} (hx : ev F x = some (.map (some b))) (h : IsMap w b es) :
    Vl P n F ⟨dst, .call { callee := .builtin .len, args := #[x], argTypes := #[t] }, ty, pos, af, gd⟩ w (.int .i64 (es.length : Nat)) w := by
  intro a ha
  obtain ⟨ar, c, hb, hl⟩ := h
  have hs : ar.size = es.length := by
    have := congrArg List.length hl
    simpa using this
  simp [execOp, resolve, invoke, builtin, Builtin.len_, ha.eval hx, run_underlying (mpOf_und hm), Go.MapKept.run_getObj_map hb, goInt, hs]
theorem st_put (hm : mpOf P t = some (kt, et)) (hk : stOf P kt = true) {x y z : Operand} {k : ByteArray} {v : Value} (hx : ev F x = some (.map (some b))) (hy : ev F y = some (.string k)) (hz : ev F z = some v) (h : IsMap w b es)
    (hK : ∀ w', w'.heap.size = w.heap.size → Chg [b] w w' → IsMap w' b (mput es k v) → K F w') : St P n F ⟨none, .mapUpdate t x y z, ty, pos, af, gd⟩ w K := by
  obtain ⟨w', hr, h1, h2, h3⟩ := run_put (P := P) hm hk h k v
  refine St.sk (w' := w') ?_ rfl (hK w' h1 h2 h3)
  intro a ha
  simp [execOp, ha.eval hx, ha.eval hy, ha.eval hz, hr]
theorem st_del (hm : mpOf P t = some (kt, et)) (hk : stOf P kt = true) {x y : Operand} {t2 : TypeId} {k : ByteArray} (hx : ev F x = some (.map (some b))) (hy : ev F y = some (.string k)) (h : IsMap w b es)
    (hK : ∀ w', w'.heap.size = w.heap.size → Chg [b] w w' → IsMap w' b (mdel es k) → K F w') : St P n F ⟨none, .call { callee := .builtin .delete, args := #[x, y], argTypes := #[t, t2] }, ty, pos, af, gd⟩ w K := by
  obtain ⟨w', hr, h1, h2, h3⟩ := run_del (P := P) (ts := #[t, t2]) (ty := ty) rfl hm hk h k
  refine St.vlNone (v := .tuple #[]) (w' := w') ?_ rfl (hK w' h1 h2 h3)
  intro a ha
  simp [execOp, resolve, invoke, builtin, ha.eval hx, ha.eval hy, hr]
end
end Go.Wk
