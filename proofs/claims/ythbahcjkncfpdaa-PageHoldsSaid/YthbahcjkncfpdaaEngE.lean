/-
  copy, clear, append of a make; structs, arrays and slices that are built of parts.
-/
import Derived.Test.YthbahcjkncfpdaaEngD
namespace Go.Wk

/-- The values' cells. -/
def CellsL : List Value → List (List Value) → Prop
  | [], [] => True
  | v :: r, c :: s => v.cells = c.toArray ∧ CellsL r s
  | _, _ => False

def zipFrom : Nat → List Value → List (Nat × Value)
  | _, [] => []
  | j, v :: r => (j, v) :: zipFrom (j + 1) r

theorem length_laid {l vs : List Value} {o : Nat} (h : o + vs.length ≤ l.length) : (laid l o vs).length = l.length := by
  simp only [laid, List.length_append, List.length_take, List.length_drop]; omega
theorem laid_laid {l c f : List Value} {o : Nat} (h : o + (c ++ f).length ≤ l.length) : laid (laid l o c) (o + c.length) f = laid l o (c ++ f) := by
  simp only [List.length_append] at h
  have hl : (l.take o ++ c).length = o + c.length := by simp; omega
  unfold laid
  rw [List.take_left' hl, show o + c.length + f.length = (o + c.length) + f.length from rfl, ← List.drop_drop, List.drop_left' hl, List.drop_drop, List.length_append]
  simp [Nat.add_assoc]

theorem fold_set (vs : List Value) : ∀ (j off : Nat) (cs : Array Value), off + j + vs.length ≤ cs.size →
    (vs.zipIdx j).foldl (fun cs (p : Value × Nat) => cs.setIfInBounds (off + p.2) p.1) cs = (laid cs.toList (off + j) vs).toArray := by
  induction vs with
  | nil => intro j off cs _; simp [laid]
  | cons v r ih =>
    intro j off cs h
    simp only [List.length_cons] at h
    rw [List.zipIdx_cons, List.foldl_cons, ih (j + 1) off _ (by simp; omega)]
    congr 1
    have := list_seg_step cs.toList (off + j) v r (by simp; omega)
    simp only [laid, Array.toList_setIfInBounds, List.length_cons]
    rw [← this]
    rfl

/-- Do the places follow each other, and are they so wide? -/
def chkPl (place : Nat → Option (Nat × Nat)) : Nat → Nat → List Nat → Bool
  | _, _, [] => true
  | j, off, s :: r => (match place j with | some (o, z) => Nat.beq o off && Nat.beq z s | none => false) && chkPl place (j + 1) (off + s) r

theorem fill_seq (place : Nat → Option (Nat × Nat)) : ∀ (vs : List Value) (css : List (List Value)) (j off : Nat) (cs : Array Value), CellsL vs css → chkPl place j off (css.map List.length) = true → off + css.flatten.length ≤ cs.size →
    Instr.fill place cs (zipFrom j vs) = some (laid cs.toList off css.flatten).toArray
  | [], [], j, off, cs, _, _, _ => by simp [zipFrom, Instr.fill, laid]
  | [], _ :: _, _, _, _, h, _, _ => h.elim
  | _ :: _, [], _, _, _, h, _, _ => h.elim
  | v :: r, c :: s, j, off, cs, h, hp, hl => by
    obtain ⟨hv, hr⟩ := h
    simp only [List.map_cons, chkPl, Bool.and_eq_true] at hp
    obtain ⟨hp1, hp2⟩ := hp
    simp only [List.flatten_cons, List.length_append] at hl
    simp only [zipFrom, Instr.fill]
    cases hpl : place j with
    | none => simp [hpl] at hp1
    | some oz =>
      obtain ⟨o, z⟩ := oz
      simp only [hpl, Bool.and_eq_true] at hp1
      have e1 : o = off := Nat.eq_of_beq_eq_true hp1.1
      have e2 : z = c.length := Nat.eq_of_beq_eq_true hp1.2
      subst e1 e2
      have hsz : v.cells.size = c.length := by rw [hv]; simp
      have hno : ¬ (v.cells.size ≠ c.length ∨ o + v.cells.size > cs.size) := by rw [hsz]; omega
      simp only [hv, List.size_toArray]
      rw [if_neg (by simp; omega)]
      have hf := fold_set c 0 o cs (by omega)
      simp only [Nat.add_zero] at hf
      have hz : c.toArray.zipIdx = (c.zipIdx 0).toArray := by simp
      rw [hz, List.foldl_toArray', hf] <;> try simp
      have hrec := fill_seq place r s (j + 1) (o + c.length) (laid cs.toList o c).toArray hr hp2 (by simp only [laid, List.size_toArray, List.length_append, List.length_take, List.length_drop, Array.length_toList]; omega)
      rw [hrec]
      congr 2
      exact laid_laid (by simp only [List.length_append, Array.length_toList]; omega)

theorem laid_all {l f : List Value} (h : f.length = l.length) : laid l 0 f = f := by
  simp [laid, h]

/-- What a struct's fields lie at. -/
def plOf (P : Program) (t : TypeId) : Option (List (Nat × Nat)) :=
  match P.underlying t with
  | some (.struct fs) => fs.toList.mapM fun f => (szOf P f.type).map fun s => (f.offset, s)
  | _ => none

theorem run_places {P : Program} {w : World} : ∀ (fs : List Field) (pl : List (Nat × Nat)), fs.mapM (fun f => (szOf P f.type).map fun s => (f.offset, s)) = some pl →
    (fs.mapM (fun f => do pure (f.offset, ← sizeOf f.type) : Field → Sem (Nat × Nat))).run P w = .ok pl w
  | [], pl, h => by simp at h; subst h; simp
  | f :: r, pl, h => by
    simp only [List.mapM_cons, Option.bind_eq_bind, Option.bind_eq_some_iff, Option.map_eq_some_iff] at h
    obtain ⟨p, ⟨s, hs, rfl⟩, q, hq, h⟩ := h
    simp at h
    subst h
    have ih := run_places (w := w) r q hq
    simp only [List.mapM_cons, Sem.run_bind, run_sizeOf hs, Result.andThen_ok, Sem.run_pure, ih]

section
variable {P : Program} {n : Nat} {F : Fr} {w : World} {dst : Option Tmp} {ty : TypeId} {pos : String} {af : Array Edge} {gd : Option (Nat × Bool)}

theorem vl_build {t : TypeId} {pl : List (Nat × Nat)} {z : Value} {zc : List Value} {parts : List (Nat × Operand)} {vs : List Value} {css : List (List Value)} {cs : List Value} (hpl : plOf P t = some pl) (hz : zrOf P t = some z) (hzc : z.cells = zc.toArray)
    (hp : evs2 F parts = some (zipFrom 0 vs)) (hc : CellsL vs css) (hk : chkPl (pl[·]?) 0 0 (css.map List.length) = true) (hl : Nat.ble css.flatten.length zc.length = true) (hcs : laid zc 0 css.flatten = cs) :
    Vl P n F ⟨dst, .build t parts.toArray, ty, pos, af, gd⟩ w (.agg cs.toArray) w := by
  intro a ha
  subst hcs
  unfold plOf at hpl
  split at hpl
  · rename_i fs hu
    have hpl' := run_places (w := w) fs.toList pl hpl
    have hm : (fs.mapM (fun f => do pure (f.offset, ← sizeOf f.type) : Field → Sem (Nat × Nat))).run P w = .ok pl.toArray w := by
      rw [Array.mapM_eq_mapM_toList]
      simp only [Sem.run_map, hpl', Result.andThen_ok]
    have hfill := fill_seq (pl[·]?) vs css 0 0 zc.toArray hc hk (by simpa using Nat.le_of_ble_eq_true hl)
    have hev := ha.evals2 parts _ hp
    have hget : (fun i : Nat => pl.toArray[i]?) = (fun i : Nat => pl[i]?) := by funext i; simp
    have hpm : (parts.toArray.map fun (i, x) => (i, a.eval x)).toList = zipFrom 0 vs := by rw [← hev]; simp
    simp only [execOp, Instr.build, Sem.run_bind, run_zero hz, Result.andThen_ok, run_underlying hu, hm, hpm, hzc, hget, hfill, Sem.run_pure]
  · simp at hpl

theorem vl_buildA {t e : TypeId} {m k : Nat} {z : Value} {zc : List Value} {parts : List (Nat × Operand)} {vs : List Value} {css : List (List Value)} {cs : List Value} (hpl : arOf P t = some (m, e)) (hs : szOf P e = some k) (hz : zrOf P t = some z) (hzc : z.cells = zc.toArray)
    (hp : evs2 F parts = some (zipFrom 0 vs)) (hc : CellsL vs css) (hk : chkPl (fun i => some (i * k, k)) 0 0 (css.map List.length) = true) (hl : Nat.ble css.flatten.length zc.length = true) (hcs : laid zc 0 css.flatten = cs) :
    Vl P n F ⟨dst, .build t parts.toArray, ty, pos, af, gd⟩ w (.agg cs.toArray) w := by
  intro a ha
  subst hcs
  have hfill := fill_seq (fun i => some (i * k, k)) vs css 0 0 zc.toArray hc hk (by simpa using Nat.le_of_ble_eq_true hl)
  have hev := ha.evals2 parts _ hp
  have hpm : (parts.toArray.map fun (i, x) => (i, a.eval x)).toList = zipFrom 0 vs := by rw [← hev]; simp
  simp only [execOp, Instr.build, Sem.run_bind, run_zero hz, Result.andThen_ok, run_underlying (arOf_und hpl), run_sizeOf hs, hpm, hzc, hfill, Sem.run_pure]
end

theorem length_zipFrom : ∀ (j : Nat) (vs : List Value), (zipFrom j vs).length = vs.length
  | _, [] => rfl
  | j, _ :: r => by simp [zipFrom, length_zipFrom (j + 1) r]

section
variable {P : Program} {n : Nat} {F : Fr} {w : World} {d : Tmp} {ty : TypeId} {pos : String} {af : Array Edge} {gd : Option (Nat × Bool)} {K : Fr → World → Prop}

theorem st_buildSlice {t e : TypeId} {k len by' : Nat} {z : Value} {parts : List (Nat × Operand)} {vs : List Value} {css : List (List Value)} {cs : List Value} (A : App P t e k by' z) (hmax : Nat.ble (len * k) 16777216 = true)
    (hp : evs2 F parts = some (zipFrom 0 vs)) (hc : CellsL vs css) (hk : chkPl (fun i => some (i * k, k)) 0 0 (css.map List.length) = true) (hl : Nat.beq css.flatten.length (len * k) = true) (hcs : css.flatten = cs) (hn : Nat.blt d n = true)
    (h : ∀ b w', w.heap.size = b → w'.heap.size = b + 1 → Chg [] w w' → Blk w' b e cs → K ((d, .slice (some ⟨b, 0, none⟩) len len) :: F) w') :
    St P n F ⟨some d, .buildSlice t len parts.toArray, ty, pos, af, gd⟩ w K := by
  subst hcs
  refine St.vl (v := .slice (some ⟨w.heap.size, 0, none⟩) len len) (w' := w.alloc (.cells css.flatten.toArray e)) ?_ rfl hn (h _ _ rfl (by simp) (Chg.alloc _ _ _) (Blk.new _ _ _))
  intro a ha
  have hl' : css.flatten.length = len * k := Nat.eq_of_beq_eq_true hl
  have hle : ¬ (len * k > 2 ^ 24) := by have := Nat.le_of_ble_eq_true hmax; omega
  have hev := ha.evals2 parts _ hp
  have hpm : (parts.toArray.map fun (i, x) => (i, a.eval x)).toList = zipFrom 0 vs := by rw [← hev]; simp
  have hfill : ∀ zc : Array Value, zc.size = len * k → Instr.fill (fun i => some (i * k, k)) zc (zipFrom 0 vs) = some css.flatten.toArray := fun zc hz => by
    have := fill_seq (fun i => some (i * k, k)) vs css 0 0 zc hc hk (by omega)
    rw [this, laid_all (by simpa using hl'.trans hz.symm)]
  by_cases h0 : len * k = 0
  · simp only [execOp, Instr.buildSlice, Sem.run_bind, run_underlying (slOf_und A.sl), Result.andThen_ok, run_sizeOf A.sz, if_neg hle, if_pos h0, hpm, Sem.run_pure]
    rw [hfill _ (by simp)]
    simp [newRow]
  · simp only [execOp, Instr.buildSlice, Sem.run_bind, run_underlying (slOf_und A.sl), Result.andThen_ok, run_sizeOf A.sz, if_neg hle, if_neg h0, hpm, Sem.run_pure, run_zero A.zr]
    rw [hfill _ (by simp)]
    simp [newRow]
end
end Go.Wk
