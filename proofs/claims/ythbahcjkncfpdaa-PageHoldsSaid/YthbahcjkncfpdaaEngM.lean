/-
  make of a slice; bytes as a text; the slots of a loop's variables.
-/
import Derived.Test.YthbahcjkncfpdaaEngZ
import Derived.Laws.MakeOwn
import Derived.Laws.IdiomStrings
namespace Go.Wk

section
variable {P : Program} {n : Nat} {F : Fr} {w : World} {d : Tmp} {ty t e : TypeId} {k by' : Nat} {z : Value} {pos : String} {af : Array Edge} {gd : Option (Nat × Bool)} {K : Fr → World → Prop}
theorem one_made (A : App P t e k by' z) (m : Nat) : ∀ u ∈ (madeCells z.cells (m * k)).toList, u.oneCell' = true := by
  intro u hu
  have hk : 0 < z.cells.size := by rw [A.zs]; exact A.pos
  simp only [madeCells, Array.toList_map, List.mem_map] at hu
  obtain ⟨i, _, rfl⟩ := hu
  have hlt : i % z.cells.size < z.cells.size := Nat.mod_lt _ hk
  rw [getElem!_pos z.cells _ hlt]
  exact A.zo _ (Array.getElem_mem hlt)
theorem made_one {z : Value} (hz : z.cells = #[z]) (m : Nat) : (madeCells z.cells (m * 1)).toList = List.replicate m z := by
  rw [hz]
  unfold madeCells
  apply List.ext_getElem
  · simp
  · intro i h1 h2
    simp [Nat.mod_one]

theorem st_makeLC (A : App P t e k by' z) {x y : Operand} {kl kc : IntKind} {i j : Int} {l m : Nat} (hx : ev F x = some (.int kl i)) (hy : ev F y = some (.int kc j)) (hi : i = (l : Int)) (hj : j = (m : Int)) (hlm : l ≤ m) (hmax : m ≤ maxLen) (hbytes : m * by' ≤ 140737488355328) (hn : Nat.blt d n = true)
    (h : ∀ b w', w.heap.size = b → w'.heap.size = b + 1 → Chg [] w w' → Blk w' b e (madeCells z.cells (m * k)).toList → K ((d, .slice (some ⟨b, 0, none⟩) l m) :: F) w') :
    St P n F ⟨some d, .makeSlice t x y, ty, pos, af, gd⟩ w K := by
  subst hi hj
  obtain ⟨inf, hi, hk, hb, hz⟩ := A.info
  have hund := slOf_und A.sl
  have hm63 : (m : Int) ≤ 9223372036854775807 := by simp only [maxLen] at hmax; omega
  have hb' : (inf.bytes : Int) * (m : Int) ≤ 281474976710656 := by
    have h0 : inf.bytes * m ≤ 281474976710656 := by rw [hb, Nat.mul_comm]; omega
    have h1 : ((inf.bytes * m : Nat) : Int) ≤ 281474976710656 := by omega
    rwa [Int.natCast_mul] at h1
  have hr := run_make (P := P) w t e inf z hund hi hz kl kc l m (by omega) (by omega) hb' hm63
  simp only [Int.toNat_natCast, hk] at hr
  refine St.vl (v := .slice (some ⟨w.heap.size, 0, none⟩) l m) (w' := w.alloc (.cells (madeCells z.cells (m * k)) e)) ?_ rfl hn (h _ _ rfl (by simp) (Chg.alloc _ _ _) (by simpa using Blk.new w e (madeCells z.cells (m * k)).toList))
  intro a ha
  simp [execOp, ha.eval hx, ha.eval hy, hr]
end

section
variable {P : Program} {n : Nat} {F : Fr} {w : World} {dst : Option Tmp} {ty t u e : TypeId} {pos : String} {af : Array Edge} {gd : Option (Nat × Bool)}
theorem itOf_und {k : IntKind} (h : itOf P t k = true) : P.underlying t = some (.int k) := by unfold itOf at h; split at h <;> simp_all
/-- string(b) of bytes. -/
theorem vl_bytes {x : Operand} {b off c len : Nat} {l : List UInt8} (hs : slOf P t = some e) (he : itOf P e .u8 = true) (hu : stOf P u = true) (hx : ev F x = some (.slice (some ⟨b, off, none⟩) len c)) (hl : len = l.length) (hc : Cells w b off (l.map fun x => .int .u8 (x.toNat : Int))) :
    Vl P n F ⟨dst, .convert t u x, ty, pos, af, gd⟩ w (.string ⟨l.toArray⟩) w := by
  intro a ha
  subst hl
  have hr := run_convert_bytes_back (P := P) w t u e ⟨b, off, none⟩ c l (slOf_und hs) (itOf_und he) (stOf_und hu) (fun j hj => by rw [Addr.add_lit]; exact hc j _ (by simp [hj]))
  simp [execOp, ha.eval hx, hr]
end

section
variable {P : Program} {fn : Func} {R : Value → World → Prop} {n : Nat} {F : Fr} {w : World}
/-- Two marks are left behind. -/
theorem retM2 {t ty D E : Nat} {p : Addr} {v : Value} (hr : fn.results = #[.cell t ty]) (hag : agOf P ty = some false) (hv : get F t = some (.pointer (some p))) (hm : marks F = [D, E]) (hne : D ≠ E) (hD : w.heap[D]? = some (.deferred (some []))) (hE : w.heap[E]? = some (.deferred (some [])))
    (h : ∀ w', Chg [D, E] w w' → w'.cell? p = some v ∧ R v w') : retFM P fn R n .ret F w := by
  have hc : Chg [D, E] w ((w.putObj D (.deferred none)).putObj E (.deferred none)) :=
    ((Chg.put w D (.deferred none)).weak (by simp)).transS ((Chg.put _ E (.deferred none)).weak (by simp))
  have hh := h _ hc
  refine ⟨v, _, by rw [hm]; exact ⟨hD, ((Chg.put w D (.deferred none)).block E (Array.getElem?_eq_some_iff.1 hE).1 (by simpa using hne.symm)).trans hE, rfl⟩, fun a ha => ?_, hh.2⟩
  simp [results, hr, ha.get t _ hv, asAddr, loadVar, run_isAgg hag, hh.1]
end

/-- A frame without its marks. -/
def nomark : Fr → Fr
  | [] => []
  | (j, v) :: F => bif Nat.ble 1000000 j then nomark F else (j, v) :: nomark F
theorem get_nomark : ∀ (F : Fr) (i : Nat) (v : Value), get (nomark F) i = some v → Nat.ble 1000000 i = false ∧ get F i = some v
  | [], i, v, h => by simp [nomark, get] at h
  | (j, u) :: F, i, v, h => by
    simp only [nomark] at h
    cases hj : Nat.ble 1000000 j with
    | true =>
      rw [hj] at h
      obtain ⟨h1, h2⟩ := get_nomark F i v h
      refine ⟨h1, ?_⟩
      rw [get_cons_ne _ _ _ _ (fun e => by subst e; rw [hj] at h1; cases h1)]
      exact h2
    | false =>
      rw [hj] at h
      by_cases e : i = j
      · subst e
        refine ⟨hj, ?_⟩
        rw [cond_false, get_cons_self _ _ _ hj] at h
        rw [get_cons_self _ _ _ hj]
        exact h
      · rw [cond_false, get_cons_ne _ _ _ _ e] at h
        rw [get_cons_ne _ _ _ _ e]
        exact get_nomark F i v h
theorem marks_nomark : ∀ F : Fr, marks (nomark F) = []
  | [] => rfl
  | (j, v) :: F => by
    simp only [nomark]
    cases hj : Nat.ble 1000000 j with
    | true => exact marks_nomark F
    | false => rw [cond_false, marks_put hj]; exact marks_nomark F
theorem Rep.nomark {n : Nat} {F : Fr} {a : Act} (h : Rep n F a) : Rep n (nomark F) { tmps := a.tmps, defers := [] } :=
  ⟨h.lt, h.size, by rw [marks_nomark]; rfl, fun i v hi => h.get i v (get_nomark F i v hi).2⟩
theorem Rep.vars2 {n : Nat} {F F1 : Fr} {a : Act} (h : Rep n F a) {p q : Nat} {u v : Value} (hp : Nat.blt p n = true) (hq : Nat.blt q n = true) (hF : (q, v) :: (p, u) :: Wk.nomark F = F1) :
    Rep n F1 { tmps := ((#[p, q] : Array Tmp).zip #[u, v]).foldl (fun t (p, v) => t.setIfInBounds p v) a.tmps, defers := [] } := by
  subst hF
  have := (h.nomark.put hp u).put hq v
  simpa [Act.put] using this
theorem Rep.vars0 {n : Nat} {F F1 : Fr} {a : Act} (h : Rep n F a) (hF : Wk.nomark F = F1) :
    Rep n F1 { tmps := ((#[] : Array Tmp).zip #[]).foldl (fun t (p, v) => t.setIfInBounds p v) a.tmps, defers := [] } := by
  subst hF
  simpa using h.nomark
end Go.Wk
