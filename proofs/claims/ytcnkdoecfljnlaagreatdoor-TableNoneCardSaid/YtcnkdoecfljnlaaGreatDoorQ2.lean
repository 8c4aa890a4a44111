/-
  Slices as lists of cells; append, copy, clear; what is built of parts.
  copy, clear, append of a make; structs, arrays and slices that are built of parts.
  Small steps of the structure: the end of a region, of a branch; leaving.
  Texts' order; a function without a body.
  append of a make that grows; copy; clear.
  Pieces of slices; slices of slices.
  Results that lie in cells; '==' of structs of texts; more of rows of slices.
  Ranges over a function: what is left to be carried out behind; results that lie in a cell; a range whose iterator hands over nothing.
  Regions that draw, where two operations that turn memory may come up in either order: a walk that forks.
  The engine in a round of a range over a function (and beside it): frames as everywhere, the kit's fenced judgements below.
  A range over a function, whose body is walked once.
  A call of yield, in the engine; a function that is an iterator.
  make of a slice; bytes as a text; the slots of a loop's variables.
-/
import Derived.Test.YtcnkdoecfljnlaaGreatDoorQ1
import Derived.Lib.Bytealg
import Derived.Laws.StructEq
import Derived.RangeFuncNested
import Derived.RangeFuncLeaves
import Derived.Carry
import Derived.Scope
import Derived.RangeFuncCalls
import Derived.RangeFuncBound
import Derived.Laws.MakeOwn
import Derived.Laws.IdiomStrings
set_option linter.all false
namespace Go.Wk

/-- v is a slice of len elements (of k cells each, of type e) that reads xs. -/
structure SlAt (w : World) (e k : Nat) (b off len cap : Nat) (c xs : List Value) : Prop where
  blk : Blk w b e c
  le : len ≤ cap
  max : cap ≤ maxLen
  fit : off + cap * k ≤ c.length
  xs : xs = (c.drop off).take (len * k)
  one : ∀ u ∈ c, u.oneCell' = true

def IsSl (w : World) (e k : Nat) (v : Value) (len : Nat) (xs : List Value) : Prop :=
  (v = .slice none 0 0 ∧ len = 0 ∧ xs = []) ∨ ∃ b off cap c, v = .slice (some ⟨b, off, none⟩) len cap ∧ SlAt w e k b off len cap c xs

def blkOf : Value → List Nat
  | .slice (some a) _ _ => [a.block]
  | _ => []

theorem SlAt.len_xs {w : World} {e k b off len cap : Nat} {c xs : List Value} (h : SlAt w e k b off len cap c xs) : xs.length = len * k := by
  have h1 := h.fit
  have h2 : len * k ≤ cap * k := Nat.mul_le_mul_right _ h.le
  rw [h.xs, List.length_take, List.length_drop]
  omega
theorem SlAt.one_xs {w : World} {e k b off len cap : Nat} {c xs : List Value} (h : SlAt w e k b off len cap c xs) : ∀ u ∈ xs, u.oneCell' = true := by
  intro u hu
  rw [h.xs] at hu
  exact h.one u (List.mem_of_mem_drop (List.mem_of_mem_take hu))
theorem SlAt.cells {w : World} {e k b off len cap : Nat} {c xs : List Value} (h : SlAt w e k b off len cap c xs) : Cells w b off xs :=
  Cells.of_blk h.blk off xs (by rw [h.xs]; exact List.take_prefix _ _)
theorem SlAt.chg {S : List Nat} {w w' : World} {e k b off len cap : Nat} {c xs : List Value} (h : SlAt w e k b off len cap c xs) (hc : Chg S w w') (hb : b ∉ S) : SlAt w' e k b off len cap c xs :=
  ⟨h.blk.chg hc hb, h.le, h.max, h.fit, h.xs, h.one⟩

theorem IsSl.nil (w : World) (e k : Nat) : IsSl w e k (.slice none 0 0) 0 [] := .inl ⟨rfl, rfl, rfl⟩
theorem IsSl.len_xs {w : World} {e k : Nat} {v : Value} {len : Nat} {xs : List Value} (h : IsSl w e k v len xs) : xs.length = len * k := by
  rcases h with ⟨_, rfl, rfl⟩ | ⟨b, off, cap, c, _, h⟩
  · simp
  · exact h.len_xs
theorem IsSl.one_xs {w : World} {e k : Nat} {v : Value} {len : Nat} {xs : List Value} (h : IsSl w e k v len xs) : ∀ u ∈ xs, u.oneCell' = true := by
  rcases h with ⟨_, rfl, rfl⟩ | ⟨b, off, cap, c, _, h⟩
  · simp
  · exact h.one_xs
theorem IsSl.val {w : World} {e k : Nat} {v : Value} {len : Nat} {xs : List Value} (h : IsSl w e k v len xs) : ∃ p c, v = .slice p len c ∧ len ≤ c := by
  rcases h with ⟨rfl, rfl, _⟩ | ⟨b, off, cap, c, rfl, h⟩
  · exact ⟨_, _, rfl, Nat.le_refl _⟩
  · exact ⟨_, _, rfl, h.le⟩
theorem IsSl.chg {S : List Nat} {w w' : World} {e k : Nat} {v : Value} {len : Nat} {xs : List Value} (h : IsSl w e k v len xs) (hc : Chg S w w') (hb : ∀ b ∈ blkOf v, b ∉ S) : IsSl w' e k v len xs := by
  rcases h with h | ⟨b, off, cap, c, rfl, h⟩
  · exact .inl h
  · exact .inr ⟨b, off, cap, c, rfl, h.chg hc (hb b (by simp [blkOf]))⟩
theorem IsSl.chg0 {w w' : World} {e k : Nat} {v : Value} {len : Nat} {xs : List Value} (h : IsSl w e k v len xs) (hc : Chg [] w w') : IsSl w' e k v len xs := h.chg hc (by simp)
theorem IsSl.lt {w : World} {e k : Nat} {v : Value} {len : Nat} {xs : List Value} (h : IsSl w e k v len xs) : ∀ b ∈ blkOf v, b < w.heap.size := by
  rcases h with ⟨rfl, _⟩ | ⟨b, off, cap, c, rfl, h⟩
  · simp [blkOf]
  · intro b' hb'
    simp [blkOf] at hb'
    subst hb'
    exact h.blk.lt
/-- A block of another type is none of the slice's. -/
theorem IsSl.apart {w : World} {e k : Nat} {v : Value} {len : Nat} {xs : List Value} (h : IsSl w e k v len xs) {b : Nat} {e' : TypeId} {c : List Value} (hb : Blk w b e' c) (hne : Nat.beq e e' = false) : ∀ x ∈ blkOf v, x ∉ [b] := by
  rcases h with ⟨rfl, _⟩ | ⟨b', off, cap, c', rfl, h⟩
  · simp [blkOf]
  · intro x hx
    simp [blkOf] at hx
    subst hx
    simpa using h.blk.ne hb hne

/-- An element that is one cell. -/
theorem IsSl.at1 {w : World} {e : Nat} {v : Value} {len : Nat} {xs : List Value} (h : IsSl w e 1 v len xs) {i : Nat} (hi : i < len) : ∃ b off cap u, v = .slice (some ⟨b, off, none⟩) len cap ∧ xs[i]? = some u ∧ w.cell? ⟨b, off + i * 1, none⟩ = some u := by
  rcases h with ⟨_, rfl, _⟩ | ⟨b, off, cap, c, rfl, h⟩
  · omega
  · have hl := h.len_xs
    have : i < xs.length := by omega
    refine ⟨b, off, cap, xs[i], rfl, by simp [this], ?_⟩
    rw [Nat.mul_one]
    exact h.cells i _ (by simp [this])
/-- An element of several cells. -/
theorem IsSl.atk {w : World} {e k : Nat} {v : Value} {len : Nat} {xs : List Value} (h : IsSl w e k v len xs) {i : Nat} (hi : i < len) : ∃ b off cap, v = .slice (some ⟨b, off, none⟩) len cap ∧ Cells w b (off + i * k) ((xs.drop (i * k)).take k) := by
  rcases h with ⟨_, rfl, _⟩ | ⟨b, off, cap, c, rfl, h⟩
  · omega
  · refine ⟨b, off, cap, rfl, fun j u hj => ?_⟩
    have h1 : xs[i * k + j]? = some u := by
      rw [List.getElem?_take] at hj
      split at hj
      · simpa using hj
      · cases hj
    have := h.cells (i * k + j) u h1
    rw [← this]
    congr 2
    omega

/-! ### append -/
section
variable {P : Program} {w : World} {t t2 ty e : TypeId} {k by' : Nat} {z : Value}

theorem run_first {v : Value} {len : Nat} {xs : List Value} (h : IsSl w e k v len xs) : (Builtin.firstCells k len v).run P w = .ok xs.toArray w := by
  rcases h with ⟨rfl, rfl, rfl⟩ | ⟨b, off, cap, c, rfl, h⟩
  · simp [Builtin.firstCells]
  · exact run_firstCells_some w k len ⟨b, off, none⟩ len cap xs h.len_xs (fun j v hv => by rw [Addr.add_lit]; exact h.cells j v hv)

theorem run_lenOf {v : Value} {len : Nat} {xs : List Value} (h : IsSl w e k v len xs) : (Builtin.lenOf v).run P w = .ok len w := by
  obtain ⟨p, c, rfl, _⟩ := h.val
  simp [Builtin.lenOf]

theorem oneCell_zero (z : Value) (n : Nat) (hz : ∀ u ∈ z.cells, u.oneCell' = true) : ∀ u ∈ (Builtin.zeroCells z.cells n).toList, u.oneCell' = true := by
  intro u hu
  simp only [Builtin.zeroCells, Array.mem_toList_iff, Array.mem_map] at hu
  obtain ⟨i, hi, rfl⟩ := hu
  have hi' : i < n * z.cells.size := by simpa using hi
  have hp : 0 < z.cells.size := by
    rcases Nat.eq_zero_or_pos z.cells.size with h | h
    · rw [h] at hi'; simp at hi'
    · exact h
  have hlt : i % z.cells.size < z.cells.size := Nat.mod_lt _ hp
  rw [getElem!_pos z.cells _ hlt]
  exact hz _ (Array.getElem_mem hlt)

/-- The bundle of closed facts that an append wants. -/
structure App (P : Program) (t e k by' : Nat) (z : Value) : Prop where
  sl : slOf P t = some e
  sz : szOf P e = some k
  zr : zrOf P e = some z
  by' : byOf P e = some by'
  zs : z.cells.size = k
  zo : ∀ u ∈ z.cells, u.oneCell' = true
  pos : 0 < k

theorem App.info (A : App P t e k by' z) : ∃ i, P.info? e = some i ∧ i.size = k ∧ i.bytes = by' ∧ i.zero = some z := by
  have h1 := A.sz
  have h2 := A.by'
  have h3 := A.zr
  unfold szOf at h1
  unfold byOf at h2
  unfold zrOf at h3
  cases hi : P.info? e with
  | none => simp [hi] at h1
  | some i => simp [hi] at h1 h2 h3; exact ⟨i, rfl, h1, h2, h3⟩

/-- What append comes to: v' reads what both read; of v's block only what lies behind v's cells may have turned. -/
theorem run_append (A : App P t e k by' z) {e2 : TypeId} (ht2 : slOf P t2 = some e2) {v s : Value} {n m : Nat} {xs ys : List Value} (hv : IsSl w e k v n xs) (hs : IsSl w e k s m ys) (h63 : n + m ≤ maxLen) (hbytes : (n + m) * by' ≤ 140737488355328) :
    ∃ v' w', (Builtin.append_ #[t, t2] ty #[v, s]).run P w = .ok v' w' ∧ IsSl w' e k v' (n + m) (xs ++ ys) ∧ Chg (blkOf v) w w' ∧ (blkOf v' = blkOf v ∨ ∃ b, blkOf v' = [b] ∧ w.heap.size ≤ b) ∧
      (v' = .slice none 0 0 ↔ v = .slice none 0 0 ∧ m = 0) := by
  obtain ⟨i, hi, hk, hb, hz⟩ := A.info
  have hund := slOf_und A.sl
  have hund2 := slOf_und ht2
  have hlx := hv.len_xs
  have hly := hs.len_xs
  have hm63 : n + m ≤ 9223372036854775807 := by simp only [maxLen] at h63; omega
  have hls := run_lenOf (P := P) hs
  have hfs := run_first (P := P) hs
  have hfs' : ∀ w1 : World, w1.heap = w.heap → (Builtin.firstCells k m s).run P w1 = .ok ys.toArray w1 := fun w1 h1 => by
    refine run_first (w := w1) (e := e) ?_
    rcases hs with hs | ⟨b, off, cap, c, rfl, hs⟩
    · exact .inl hs
    · exact .inr ⟨b, off, cap, c, rfl, ⟨by unfold Blk; rw [h1]; exact hs.blk, hs.le, hs.max, hs.fit, hs.xs, hs.one⟩⟩
  -- the new block
  have grown : ∀ old, n + m > old → ∀ S, IsSl (w.drew.alloc (.cells (xs.toArray ++ ys.toArray ++ Builtin.zeroCells z.cells (grownCap w (n + m) old e - (n + m))) e)) e k
        (.slice (some ⟨w.heap.size, 0, none⟩) (n + m) (grownCap w (n + m) old e)) (n + m) (xs ++ ys) ∧
      Chg S w (w.drew.alloc (.cells (xs.toArray ++ ys.toArray ++ Builtin.zeroCells z.cells (grownCap w (n + m) old e - (n + m))) e)) := by
    intro old _ S
    have hge := grownCap_ge w (n + m) old e
    have hcm := grownCap_le_maxLen w (n + m) old e h63
    refine ⟨.inr ⟨w.heap.size, 0, _, xs ++ ys ++ (Builtin.zeroCells z.cells (grownCap w (n + m) old e - (n + m))).toList, rfl, ?_, hge, hcm, ?_, ?_, ?_⟩, (Chg.drew S w).transS (Chg.alloc S _ _)⟩
    · show (w.drew.heap.push _)[w.heap.size]? = _
      rw [show w.heap.size = w.drew.heap.size from rfl, Array.getElem?_push_size]
      simp
    · simp only [List.length_append, hlx, hly, Array.length_toList, size_zeroCells, A.zs, ← Nat.add_mul, Nat.zero_add]
      rw [Nat.add_sub_cancel' hge]
      exact Nat.le_refl _
    · rw [List.drop_zero, List.take_left' (by simp [hlx, hly, Nat.add_mul])]
    · intro u hu
      simp only [List.mem_append] at hu
      rcases hu with (hu | hu) | hu
      · exact hv.one_xs u hu
      · exact hs.one_xs u hu
      · exact oneCell_zero z _ A.zo u hu
  have hzero : ∀ w1 : World, (zeroValue e).run P w1 = .ok z w1 := fun w1 => run_zero A.zr
  rcases hv with ⟨rfl, rfl, rfl⟩ | ⟨g, off, cap, c, rfl, hv⟩
  · by_cases hm : m = 0
    · subst hm
      have hy : ys = [] := List.eq_nil_of_length_eq_zero (by simpa using hly)
      subst hy
      refine ⟨.slice none 0 0, w, ?_, IsSl.nil _ _ _, Chg.refl _ _, .inl rfl, by simp⟩
      simp [Builtin.append_, run_underlying hund, run_underlying hund2, run_sizeOf A.sz, hls, hfs]
    · have h0 : ¬ (0 + m ≤ 0) := by omega
      have h63' : ¬ (9223372036854775807 < (m : Int)) := by omega
      have h48' : ¬ (281474976710656 < Builtin.nextslicecap m 0 * i.bytes) := by
        have := growslice_fits (need := m) (old := 0) (bytes := by') (by omega) (by simpa using hbytes)
        rw [hb]; omega
      have hgr := grown 0 (by omega) []
      refine ⟨_, _, ?_, hgr.1, hgr.2, .inr ⟨w.heap.size, rfl, Nat.le_refl _⟩, by simp [hm]⟩
      have hfd := hfs' w.drew rfl
      simp [Builtin.append_, run_underlying hund, run_underlying hund2, run_sizeOf A.sz, hls, typeInfo, hi, hm, h63', h48', Question.forced, run_firstCells_none, hfd, hzero, newRow, grownCap]
  · by_cases hroom : n + m ≤ cap
    · have hfit := hv.fit
      have hcap : (n + m) * k ≤ cap * k := Nat.mul_le_mul_right _ hroom
      have hfit2 : off + n * k + ys.length ≤ c.length := by rw [hly]; rw [Nat.add_mul] at hcap; omega
      have hst := run_stores (P := P) (off := off + n * k) (vs := ys) hv.blk hfit2 hs.one_xs
      refine ⟨.slice (some ⟨g, off, none⟩) (n + m) cap, w.setRow g (laid c (off + n * k) ys).toArray, ?_, .inr ⟨g, off, cap, laid c (off + n * k) ys, rfl, hv.blk.row _, hroom, hv.max, ?_, ?_, ?_⟩, (Chg.row _ _ _), .inl rfl, by simp⟩
      · simp [Builtin.append_, run_underlying hund, run_underlying hund2, run_sizeOf A.sz, hls, hroom, hfs, Addr.add_lit, hst]
      · simp only [laid, List.length_append, List.length_take, List.length_drop]
        omega
      · have e1 : (laid c (off + n * k) ys).drop off = xs ++ ys ++ c.drop (off + n * k + ys.length) := by
          unfold laid
          rw [List.append_assoc, List.drop_append_of_le_length (by rw [List.length_take]; omega), List.drop_take, ← List.append_assoc]
          rw [show off + n * k - off = n * k by omega, ← hv.xs]
        rw [e1, List.take_left' (by simp [hlx, hly, Nat.add_mul])]
      · intro u hu
        simp only [laid, List.mem_append] at hu
        rcases hu with (hu | hu) | hu
        · exact hv.one u (List.mem_of_mem_take hu)
        · exact hs.one_xs u hu
        · exact hv.one u (List.mem_of_mem_drop hu)
    · have h0 : ¬ (n + m ≤ cap) := hroom
      have h63' : ¬ (9223372036854775807 < ((n : Int) + (m : Int))) := by omega
      have h48' : ¬ (281474976710656 < Builtin.nextslicecap (n + m) cap * i.bytes) := by
        have := growslice_fits (need := n + m) (old := cap) (bytes := by') (by omega) hbytes
        rw [hb]; omega
      have hgr := grown cap (by omega) (blkOf (.slice (some ⟨g, off, none⟩) n cap))
      refine ⟨_, _, ?_, hgr.1, hgr.2, .inr ⟨w.heap.size, rfl, Nat.le_refl _⟩, by simp⟩
      have hfd := hfs' w.drew rfl
      have hfo : (Builtin.firstCells k n (.slice (some ⟨g, off, none⟩) n cap)).run P w.drew = .ok xs.toArray w.drew :=
        run_first (w := w.drew) (e := e) (.inr ⟨g, off, cap, c, rfl, ⟨hv.blk, hv.le, hv.max, hv.fit, hv.xs, hv.one⟩⟩)
      simp [Builtin.append_, run_underlying hund, run_underlying hund2, run_sizeOf A.sz, hls, typeInfo, hi, h0, h63', h48', Question.forced, hfo, hfd, hzero, newRow, grownCap]
      rw [show (xs ++ ys).toArray = xs.toArray ++ ys.toArray from by simp, Array.append_assoc]
end

section
variable {P : Program} {n : Nat} {F : Fr} {w : World} {d : Tmp} {ty t t2 e e2 : TypeId} {k by' : Nat} {z : Value} {pos : String} {af : Array Edge} {gd : Option (Nat × Bool)} {K : Fr → World → Prop}

theorem st_append (A : App P t e k by' z) (ht2 : slOf P t2 = some e2) {x y : Operand} {v s : Value} {l m : Nat} {xs ys : List Value} (hx : ev F x = some v) (hy : ev F y = some s) (hv : IsSl w e k v l xs) (hs : IsSl w e k s m ys) (h63 : l + m ≤ maxLen) (hbytes : (l + m) * by' ≤ 140737488355328)
    (hn : Nat.blt d n = true) (h : ∀ v' w', IsSl w' e k v' (l + m) (xs ++ ys) → Chg (blkOf v) w w' → (blkOf v' = blkOf v ∨ ∃ b, blkOf v' = [b] ∧ w.heap.size ≤ b) → (v' = .slice none 0 0 ↔ v = .slice none 0 0 ∧ m = 0) → K ((d, v') :: F) w') :
    St P n F ⟨some d, .call { callee := .builtin .append, args := #[x, y], argTypes := #[t, t2] }, ty, pos, af, gd⟩ w K := by
  obtain ⟨v', w', hr, h1, h2, h3, h4⟩ := run_append (ty := ty) A ht2 hv hs h63 hbytes
  refine St.vl (v := v') (w' := w') ?_ rfl hn (h v' w' h1 h2 h3 h4)
  intro a ha
  simp [execOp, resolve, invoke, builtin, ha.eval hx, ha.eval hy, hr]
end
end Go.Wk

namespace Go.Wk

/-- The values' cells. -/
def CellsL : List Value → List (List Value) → Prop
  | [], [] => True
  | v :: r, c :: s => v.cells = c.toArray ∧ CellsL r s
  | _, _ => False

def zipFrom : Nat → List Value → List (Nat × Value)
  | _, [] => []
  | j, v :: r => (j, v) :: zipFrom (j + 1) r

theorem length_laid {l vs : List Value} {o : Nat} (h : o + vs.length ≤ l.length) : (laid l o vs).length = l.length := by
  simp only [laid, List.length_append, List.length_take, List.length_drop]; omega
theorem laid_laid {l c f : List Value} {o : Nat} (h : o + (c ++ f).length ≤ l.length) : laid (laid l o c) (o + c.length) f = laid l o (c ++ f) := by
  simp only [List.length_append] at h
  have hl : (l.take o ++ c).length = o + c.length := by simp; omega
  unfold laid
  rw [List.take_left' hl, show o + c.length + f.length = (o + c.length) + f.length from rfl, ← List.drop_drop, List.drop_left' hl, List.drop_drop, List.length_append]
  simp [Nat.add_assoc]

theorem fold_set (vs : List Value) : ∀ (j off : Nat) (cs : Array Value), off + j + vs.length ≤ cs.size →
    (vs.zipIdx j).foldl (fun cs (p : Value × Nat) => cs.setIfInBounds (off + p.2) p.1) cs = (laid cs.toList (off + j) vs).toArray := by
  induction vs with
  | nil => intro j off cs _; simp [laid]
  | cons v r ih =>
    intro j off cs h
    simp only [List.length_cons] at h
    rw [List.zipIdx_cons, List.foldl_cons, ih (j + 1) off _ (by simp; omega)]
    congr 1
    have := list_seg_step cs.toList (off + j) v r (by simp; omega)
    simp only [laid, Array.toList_setIfInBounds, List.length_cons]
    rw [← this]
    rfl

/-- Do the places follow each other, and are they so wide? -/
def chkPl (place : Nat → Option (Nat × Nat)) : Nat → Nat → List Nat → Bool
  | _, _, [] => true
  | j, off, s :: r => (match place j with | some (o, z) => Nat.beq o off && Nat.beq z s | none => false) && chkPl place (j + 1) (off + s) r

theorem fill_seq (place : Nat → Option (Nat × Nat)) : ∀ (vs : List Value) (css : List (List Value)) (j off : Nat) (cs : Array Value), CellsL vs css → chkPl place j off (css.map List.length) = true → off + css.flatten.length ≤ cs.size →
    Instr.fill place cs (zipFrom j vs) = some (laid cs.toList off css.flatten).toArray
  | [], [], j, off, cs, _, _, _ => by simp [zipFrom, Instr.fill, laid]
  | [], _ :: _, _, _, _, h, _, _ => h.elim
  | _ :: _, [], _, _, _, h, _, _ => h.elim
  | v :: r, c :: s, j, off, cs, h, hp, hl => by
    obtain ⟨hv, hr⟩ := h
    simp only [List.map_cons, chkPl, Bool.and_eq_true] at hp
    obtain ⟨hp1, hp2⟩ := hp
    simp only [List.flatten_cons, List.length_append] at hl
    simp only [zipFrom, Instr.fill]
    cases hpl : place j with
    | none => simp [hpl] at hp1
    | some oz =>
      obtain ⟨o, z⟩ := oz
      simp only [hpl, Bool.and_eq_true] at hp1
      have e1 : o = off := Nat.eq_of_beq_eq_true hp1.1
      have e2 : z = c.length := Nat.eq_of_beq_eq_true hp1.2
      subst e1 e2
      have hsz : v.cells.size = c.length := by rw [hv]; simp
      have hno : ¬ (v.cells.size ≠ c.length ∨ o + v.cells.size > cs.size) := by rw [hsz]; omega
      simp only [hv, List.size_toArray]
      rw [if_neg (by simp; omega)]
      have hf := fold_set c 0 o cs (by omega)
      simp only [Nat.add_zero] at hf
      have hz : c.toArray.zipIdx = (c.zipIdx 0).toArray := by simp
      rw [hz, List.foldl_toArray', hf] <;> try simp
      have hrec := fill_seq place r s (j + 1) (o + c.length) (laid cs.toList o c).toArray hr hp2 (by simp only [laid, List.size_toArray, List.length_append, List.length_take, List.length_drop, Array.length_toList]; omega)
      rw [hrec]
      congr 2
      exact laid_laid (by simp only [List.length_append, Array.length_toList]; omega)

theorem laid_all {l f : List Value} (h : f.length = l.length) : laid l 0 f = f := by
  simp [laid, h]

/-- What a struct's fields lie at. -/
def plOf (P : Program) (t : TypeId) : Option (List (Nat × Nat)) :=
  match P.underlying t with
  | some (.struct fs) => fs.toList.mapM fun f => (szOf P f.type).map fun s => (f.offset, s)
  | _ => none

theorem run_places {P : Program} {w : World} : ∀ (fs : List Field) (pl : List (Nat × Nat)), fs.mapM (fun f => (szOf P f.type).map fun s => (f.offset, s)) = some pl →
    (fs.mapM (fun f => do pure (f.offset, ← sizeOf f.type) : Field → Sem (Nat × Nat))).run P w = .ok pl w
  | [], pl, h => by simp at h; subst h; simp
  | f :: r, pl, h => by
    simp only [List.mapM_cons, Option.bind_eq_bind, Option.bind_eq_some_iff, Option.map_eq_some_iff] at h
    obtain ⟨p, ⟨s, hs, rfl⟩, q, hq, h⟩ := h
    simp at h
    subst h
    have ih := run_places (w := w) r q hq
    simp only [List.mapM_cons, Sem.run_bind, run_sizeOf hs, Result.andThen_ok, Sem.run_pure, ih]

section
variable {P : Program} {n : Nat} {F : Fr} {w : World} {dst : Option Tmp} {ty : TypeId} {pos : String} {af : Array Edge} {gd : Option (Nat × Bool)}

theorem vl_build {t : TypeId} {pl : List (Nat × Nat)} {z : Value} {zc : List Value} {parts : List (Nat × Operand)} {vs : List Value} {css : List (List Value)} {cs : List Value} (hpl : plOf P t = some pl) (hz : zrOf P t = some z) (hzc : z.cells = zc.toArray)
    (hp : evs2 F parts = some (zipFrom 0 vs)) (hc : CellsL vs css) (hk : chkPl (pl[·]?) 0 0 (css.map List.length) = true) (hl : Nat.ble css.flatten.length zc.length = true) (hcs : laid zc 0 css.flatten = cs) :
    Vl P n F ⟨dst, .build t parts.toArray, ty, pos, af, gd⟩ w (.agg cs.toArray) w := by
  intro a ha
  subst hcs
  unfold plOf at hpl
  split at hpl
  · rename_i fs hu
    have hpl' := run_places (w := w) fs.toList pl hpl
    have hm : (fs.mapM (fun f => do pure (f.offset, ← sizeOf f.type) : Field → Sem (Nat × Nat))).run P w = .ok pl.toArray w := by
      rw [Array.mapM_eq_mapM_toList]
      simp only [Sem.run_map, hpl', Result.andThen_ok]
    have hfill := fill_seq (pl[·]?) vs css 0 0 zc.toArray hc hk (by simpa using Nat.le_of_ble_eq_true hl)
    have hev := ha.evals2 parts _ hp
    have hget : (fun i : Nat => pl.toArray[i]?) = (fun i : Nat => pl[i]?) := by funext i; simp
    have hpm : (parts.toArray.map fun (i, x) => (i, a.eval x)).toList = zipFrom 0 vs := by rw [← hev]; simp
    simp only [execOp, Instr.build, Sem.run_bind, run_zero hz, Result.andThen_ok, run_underlying hu, hm, hpm, hzc, hget, hfill, Sem.run_pure]
  · simp at hpl

theorem vl_buildA {t e : TypeId} {m k : Nat} {z : Value} {zc : List Value} {parts : List (Nat × Operand)} {vs : List Value} {css : List (List Value)} {cs : List Value} (hpl : arOf P t = some (m, e)) (hs : szOf P e = some k) (hz : zrOf P t = some z) (hzc : z.cells = zc.toArray)
    (hp : evs2 F parts = some (zipFrom 0 vs)) (hc : CellsL vs css) (hk : chkPl (fun i => some (i * k, k)) 0 0 (css.map List.length) = true) (hl : Nat.ble css.flatten.length zc.length = true) (hcs : laid zc 0 css.flatten = cs) :
    Vl P n F ⟨dst, .build t parts.toArray, ty, pos, af, gd⟩ w (.agg cs.toArray) w := by
  intro a ha
  subst hcs
  have hfill := fill_seq (fun i => some (i * k, k)) vs css 0 0 zc.toArray hc hk (by simpa using Nat.le_of_ble_eq_true hl)
  have hev := ha.evals2 parts _ hp
  have hpm : (parts.toArray.map fun (i, x) => (i, a.eval x)).toList = zipFrom 0 vs := by rw [← hev]; simp
  simp only [execOp, Instr.build, Sem.run_bind, run_zero hz, Result.andThen_ok, run_underlying (arOf_und hpl), run_sizeOf hs, hpm, hzc, hfill, Sem.run_pure]
end

theorem length_zipFrom : ∀ (j : Nat) (vs : List Value), (zipFrom j vs).length = vs.length
  | _, [] => rfl
  | j, _ :: r => by simp [zipFrom, length_zipFrom (j + 1) r]

section
variable {P : Program} {n : Nat} {F : Fr} {w : World} {d : Tmp} {ty : TypeId} {pos : String} {af : Array Edge} {gd : Option (Nat × Bool)} {K : Fr → World → Prop}

theorem st_buildSlice {t e : TypeId} {k len by' : Nat} {z : Value} {parts : List (Nat × Operand)} {vs : List Value} {css : List (List Value)} {cs : List Value} (A : App P t e k by' z) (hmax : Nat.ble (len * k) 16777216 = true)
    (hp : evs2 F parts = some (zipFrom 0 vs)) (hc : CellsL vs css) (hk : chkPl (fun i => some (i * k, k)) 0 0 (css.map List.length) = true) (hl : Nat.beq css.flatten.length (len * k) = true) (hcs : css.flatten = cs) (hn : Nat.blt d n = true)
    (h : ∀ b w', w.heap.size = b → w'.heap.size = b + 1 → Chg [] w w' → Blk w' b e cs → K ((d, .slice (some ⟨b, 0, none⟩) len len) :: F) w') :
    St P n F ⟨some d, .buildSlice t len parts.toArray, ty, pos, af, gd⟩ w K := by
  subst hcs
  refine St.vl (v := .slice (some ⟨w.heap.size, 0, none⟩) len len) (w' := w.alloc (.cells css.flatten.toArray e)) ?_ rfl hn (h _ _ rfl (by simp) (Chg.alloc _ _ _) (Blk.new _ _ _))
  intro a ha
  have hl' : css.flatten.length = len * k := Nat.eq_of_beq_eq_true hl
  have hle : ¬ (len * k > 2 ^ 24) := by have := Nat.le_of_ble_eq_true hmax; omega
  have hev := ha.evals2 parts _ hp
  have hpm : (parts.toArray.map fun (i, x) => (i, a.eval x)).toList = zipFrom 0 vs := by rw [← hev]; simp
  have hfill : ∀ zc : Array Value, zc.size = len * k → Instr.fill (fun i => some (i * k, k)) zc (zipFrom 0 vs) = some css.flatten.toArray := fun zc hz => by
    have := fill_seq (fun i => some (i * k, k)) vs css 0 0 zc hc hk (by omega)
    rw [this, laid_all (by simpa using hl'.trans hz.symm)]
  by_cases h0 : len * k = 0
  · simp only [execOp, Instr.buildSlice, Sem.run_bind, run_underlying (slOf_und A.sl), Result.andThen_ok, run_sizeOf A.sz, if_neg hle, if_pos h0, hpm, Sem.run_pure]
    rw [hfill _ (by simp)]
    simp [newRow]
  · simp only [execOp, Instr.buildSlice, Sem.run_bind, run_underlying (slOf_und A.sl), Result.andThen_ok, run_sizeOf A.sz, if_neg hle, if_neg h0, hpm, Sem.run_pure, run_zero A.zr]
    rw [hfill _ (by simp)]
    simp [newRow]
end
end Go.Wk

namespace Go.Wk
section
variable {P : Program} {n : Nat} {Q : Exit → Fr → World → Prop} {K : Fr → World → Prop} {F : Fr} {w : World} {ops : Array Oper} {id : Nat}

theorem O_end (keep : List Nat) {F' : Fr} (hF : prune keep F = F') (h : K F' w) : O P n ops (thenF K Q) [] F w := O_nil_prune keep hF h
theorem T_end (keep : List Nat) {F' : Fr} {C : World → Prop} {k : Nat} (hF : prune keep F = F') (h : K F' w) : T P n ops C (thenF K Q) k [] F w := T_nil_prune keep hF h
theorem O_endN (keep : List Nat) {F' : Fr} (hF : prune keep F = F') (h : Q .normal F' w) : O P n ops Q [] F w := O_nil_prune keep hF h
theorem T_endN (keep : List Nat) {F' : Fr} {C : World → Prop} {k : Nat} (hF : prune keep F = F') (h : Q .normal F' w) : T P n ops C Q k [] F w := T_nil_prune keep hF h
theorem W_skipE (h : K F w) : W P n .skip (thenF K Q) F w := W_skip h
theorem then_normal (h : K F w) : thenF K Q .normal F w := h
theorem then_exit (h : Q (.exit id) F w) : thenF K Q (.exit id) F w := h
theorem then_ret (h : Q .ret F w) : thenF K Q .ret F w := h
theorem block_normal (h : Q .normal F w) : blockF id Q .normal F w := h
theorem block_ret (h : Q .ret F w) : blockF id Q .ret F w := h

theorem vl_is {o : Oper} {w' : World} {b b' : Bool} (h : Vl P n F o w (.bool b) w') (e : b = b') : Vl P n F o w (.bool b') w' := e ▸ h
theorem vl_eq {o : Oper} {w' : World} {v v' : Value} (h : Vl P n F o w v w') (e : v = v') : Vl P n F o w v' w' := e ▸ h

theorem vl_convn {x : Operand} {t u : TypeId} {dst : Option Tmp} {ty : TypeId} {pos : String} {af : Array Edge} {gd : Option (Nat × Bool)} {k k' : IntKind} {i j : Int} (hu : itOf P u k' = true) (ht : itOf P t k = true) (hx : ev F x = some (.int k i)) (hj : k'.wrap i = j) : Vl P n F ⟨dst, .convert t u x, ty, pos, af, gd⟩ w (.int k' j) w :=
  hj ▸ vl_conv hu ht hx
theorem vl_shrn {x y : Operand} {t u : TypeId} {dst : Option Tmp} {ty : TypeId} {pos : String} {af : Array Edge} {gd : Option (Nat × Bool)} {k k' : IntKind} {i j : Int} (hb : 1 ≤ k.bits) (hx : ev F x = some (.int k i)) (hy : ev F y = some (.int k' 1)) (hj : i.fdiv 2 = j) : Vl P n F ⟨dst, .binOp .shr t x y u, ty, pos, af, gd⟩ w (.int k j) w :=
  hj ▸ vl_shr1 hb hx hy
end
end Go.Wk

namespace Go.Wk

theorem bytesLess_lt : ∀ (x y : List UInt8), Op.bytesLess x y = decide (x < y)
  | [], [] => by simp [Op.bytesLess]
  | _ :: _, [] => by simp [Op.bytesLess]
  | [], _ :: _ => by simp [Op.bytesLess]
  | a :: x, b :: y => by
    rw [Op.bytesLess, bytesLess_lt x y]
    simp only [List.cons_lt_cons_iff]
    by_cases h1 : a < b <;> by_cases h2 : a = b <;> by_cases h3 : x < y <;> simp [h1, h2, h3]

theorem blt_iff (s u : ByteArray) : blt s u = true ↔ s.data.toList < u.data.toList := by
  unfold blt
  rw [bytesLess_lt, ByteArray.toList_eq, ByteArray.toList_eq]
  simp
theorem ba_ext {s u : ByteArray} (h : s.data.toList = u.data.toList) : s = u := by
  cases s; cases u
  simp only [ByteArray.mk.injEq]
  exact Array.toList_inj.1 h
theorem blt_irrefl (s : ByteArray) : blt s s = false := by
  cases h : blt s s with
  | false => rfl
  | true => exact absurd ((blt_iff s s).1 h) (List.lt_irrefl _)
theorem blt_trans {s u v : ByteArray} (h1 : blt s u = true) (h2 : blt u v = true) : blt s v = true :=
  (blt_iff s v).2 (List.lt_trans ((blt_iff s u).1 h1) ((blt_iff u v).1 h2))
theorem blt_asymm {s u : ByteArray} (h1 : blt s u = true) : blt u s = false := by
  cases h : blt u s with
  | false => rfl
  | true => have := blt_trans h1 h; rw [blt_irrefl] at this; cases this
theorem blt_total {s u : ByteArray} (h1 : blt s u = false) (h2 : blt u s = false) : s = u := by
  refine ba_ext ?_
  have a1 : ¬ s.data.toList < u.data.toList := fun h => by rw [(blt_iff s u).2 h] at h1; cases h1
  have a2 : ¬ u.data.toList < s.data.toList := fun h => by rw [(blt_iff u s).2 h] at h2; cases h2
  exact List.le_antisymm (List.not_lt.1 a2) (List.not_lt.1 a1)
theorem blt_ne {s u : ByteArray} (h : blt s u = true) : s ≠ u := by
  rintro rfl
  rw [blt_irrefl] at h
  cases h

theorem cmpB_lt : ∀ (x y : List UInt8), Lib.compareBytes x y < 0 ↔ x < y
  | [], [] => by simp [Lib.compareBytes]
  | _ :: _, [] => by simp [Lib.compareBytes]
  | [], _ :: _ => by simp [Lib.compareBytes]
  | a :: x, b :: y => by
    have ih := cmpB_lt x y
    rw [Lib.compareBytes, List.cons_lt_cons_iff]
    by_cases h1 : a < b
    · simp [h1]
    · by_cases h2 : b < a
      · have : a ≠ b := fun e => by subst e; exact h1 h2
        simp [h1, h2, this]
      · have : a = b := UInt8.le_antisymm (UInt8.not_lt.1 h2) (UInt8.not_lt.1 h1)
        subst this
        simp [h1, ih]
theorem cmpB_eq : ∀ (x y : List UInt8), Lib.compareBytes x y = 0 ↔ x = y
  | [], [] => by simp [Lib.compareBytes]
  | _ :: _, [] => by simp [Lib.compareBytes]
  | [], _ :: _ => by simp [Lib.compareBytes]
  | a :: x, b :: y => by
    have ih := cmpB_eq x y
    rw [Lib.compareBytes]
    by_cases h1 : a < b
    · have : a ≠ b := fun e => by subst e; exact UInt8.lt_irrefl _ h1
      simp [h1, this]
    · by_cases h2 : b < a
      · have : a ≠ b := fun e => by subst e; exact h1 h2
        simp [h1, h2, this]
      · have : a = b := UInt8.le_antisymm (UInt8.not_lt.1 h2) (UInt8.not_lt.1 h1)
        subst this
        simp [h1, ih]

/-- strings.Compare. -/
def scmp (s u : ByteArray) : Int := Extern.BytealgCompare.cmp s u
theorem scmp_lt (s u : ByteArray) : scmp s u < 0 ↔ blt s u = true := by
  unfold scmp
  rw [Lib.cmp_eq, cmpB_lt, blt_iff]
theorem scmp_eq (s u : ByteArray) : scmp s u = 0 ↔ s = u := by
  unfold scmp
  rw [Lib.cmp_eq, cmpB_eq]
  exact ⟨ba_ext, fun h => by rw [h]⟩

/-- A function without a body, by the model's table. -/
def exOf (P : Program) (g : FuncId) : Option (Array Value → Sem Value) :=
  match P.funcs[g]? with
  | some fn => if fn.name == "runtime.NumGoroutine" || fn.body.isSome || (Extern.findNext fn).isSome then none else Extern.find fn
  | none => none

section
variable {P : Program} {n : Nat} {F : Fr} {w : World} {d : Tmp} {ty : TypeId} {pos : String} {af : Array Edge} {gd : Option (Nat × Bool)} {K : Fr → World → Prop}
theorem st_ext {f : Operand} {as : List Operand} {ts : Array TypeId} {g : FuncId} {x : Array Value → Sem Value} {vs : List Value} {v : Value} {w' : World} (hb : exOf P g = some x) (hf : ev F f = some (.func (.func g) #[] #[])) (ha : evs F as = some vs)
    (hx : (x vs.toArray).run P w = .ok v w') (hn : Nat.blt d n = true) (h : K ((d, v) :: F) w') :
    St P n F ⟨some d, .call { callee := .value f, args := as.toArray, argTypes := ts }, ty, pos, af, gd⟩ w K := by
  refine St.vl (v := v) (w' := w') ?_ rfl hn h
  intro a hr
  unfold exOf at hb
  split at hb
  · rename_i fn hfn
    split at hb
    · simp at hb
    · rename_i hc
      simp only [Bool.or_eq_true, not_or, Bool.not_eq_true] at hc
      obtain ⟨⟨c1, c2⟩, c3⟩ := hc
      have h1 : fn.body = none := by simpa using c2
      have h2 : ¬ fn.name = "runtime.NumGoroutine" := by simpa using c1
      have h3 : Extern.findNext fn = none := by simpa using c3
      simp [execOp, resolve, hr.eval hf, Deferred.ofValue, hr.evals as vs ha, invoke, callFunc, hfn, h1, h2, h3, hb, hx]
  · simp at hb
end
end Go.Wk

namespace Go.Wk
section
variable {P : Program} {n : Nat} {F : Fr} {w : World} {d : Tmp} {ty t t2 e e2 : TypeId} {k by' : Nat} {z : Value} {pos : String} {af : Array Edge} {gd : Option (Nat × Bool)} {K : Fr → World → Prop}

theorem st_appendMake (A : App P t e k by' z) (hit : itOf P t2 .i64 = true) {x y : Operand} {v : Value} {l m : Nat} {j : Int} {xs : List Value} (hx : ev F x = some v) (hy : ev F y = some (.int .i64 j)) (hj : j = (m : Int)) (hv : IsSl w e k v l xs)
    (hgrow : ∀ p c, v = .slice p l c → c < l + m) (h63 : l + m ≤ maxLen) (hbytes : (l + m) * by' ≤ 140737488355328) (hn : Nat.blt d n = true)
    (h : ∀ b cap zs w', w.heap.size = b → Chg [] w w' → l + m ≤ cap → cap ≤ maxLen → zs.length = (cap - l) * k → (∀ u ∈ xs ++ zs, u.oneCell' = true) → Blk w' b e (xs ++ zs) → K ((d, .slice (some ⟨b, 0, none⟩) (l + m) cap) :: F) w') :
    St P n F ⟨some d, .call { callee := .builtin .append, args := #[x, y], argTypes := #[t, t2] }, ty, pos, af, gd⟩ w K := by
  subst hj
  obtain ⟨i, hi, hk, hb, hz⟩ := A.info
  obtain ⟨p, c, rfl, hlc⟩ := hv.val
  have hgr := hgrow p c rfl
  have hund := slOf_und A.sl
  have hund2 : P.underlying t2 = some (.int .i64) := by unfold itOf at hit; split at hit <;> simp_all
  have hm63 : l + m ≤ 9223372036854775807 := by simp only [maxLen] at h63; omega
  have hge := grownCap_ge w (l + m) c e
  have hcm := grownCap_le_maxLen w (l + m) c e h63
  have hbm : m * by' ≤ 140737488355328 := Nat.le_trans (Nat.mul_le_mul_right _ (by omega)) hbytes
  have hlx := hv.len_xs
  let zs := (Builtin.zeroCells z.cells m).toList ++ (Builtin.zeroCells z.cells (grownCap w (l + m) c e - (l + m))).toList
  have hone : ∀ u ∈ xs ++ zs, u.oneCell' = true := by
    intro u hu
    simp only [zs, List.mem_append] at hu
    rcases hu with hu | hu | hu
    · exact hv.one_xs u hu
    · exact oneCell_zero z _ A.zo u hu
    · exact oneCell_zero z _ A.zo u hu
  have hlen : zs.length = (grownCap w (l + m) c e - l) * k := by
    simp only [zs, List.length_append, Array.length_toList, size_zeroCells, A.zs, ← Nat.add_mul]
    congr 1; omega
  refine St.vl (v := .slice (some ⟨w.heap.size, 0, none⟩) (l + m) (grownCap w (l + m) c e)) (w' := w.drew.alloc (.cells (xs ++ zs).toArray e)) ?_ rfl hn
    (h _ _ zs _ rfl ((Chg.drew [] w).trans (Chg.alloc [] _ _)) hge hcm hlen hone ?_)
  · have h0 : ¬ (l + m ≤ c) := by omega
    have hwr : IntKind.i64.wrap (m : Int) = m := IntWalk.i64_in _ ⟨by omega, by omega⟩
    have hneg : ¬ ((m : Int) < 0) := by omega
    have hbig : ¬ (281474976710656 < (m : Int) * (i.bytes : Int)) := by
      rw [hb]
      have : ((m * by' : Nat) : Int) ≤ 140737488355328 := Int.ofNat_le.2 hbm
      rw [Int.natCast_mul] at this
      omega
    have h63' : ¬ (9223372036854775807 < (l : Int) + (m : Int)) := by omega
    have h48' : ¬ (281474976710656 < Builtin.nextslicecap (l + m) c * i.bytes) := by
      have := growslice_fits (need := l + m) (old := c) (bytes := by') (by omega) hbytes
      rw [hb]; omega
    have hfo : (Builtin.firstCells k l (.slice p l c)).run P w.drew = .ok xs.toArray w.drew := by
      refine run_first (w := w.drew) (e := e) ?_
      rcases hv with hv | ⟨b, off, cap, cc, he, hv⟩
      · exact .inl hv
      · exact .inr ⟨b, off, cap, cc, he, ⟨hv.blk, hv.le, hv.max, hv.fit, hv.xs, hv.one⟩⟩
    have hzero : ∀ w1 : World, (zeroValue e).run P w1 = .ok z w1 := fun w1 => run_zero A.zr
    have e1 : (xs ++ zs).toArray = xs.toArray ++ Builtin.zeroCells z.cells m ++ Builtin.zeroCells z.cells (grownCap w (l + m) c e - (l + m)) := by
      apply Array.toList_inj.1
      simp [zs]
    have happ : (Builtin.append_ #[t, t2] ty #[.slice p l c, .int .i64 (m : Int)]).run P w = .ok (.slice (some ⟨w.heap.size, 0, none⟩) (l + m) (grownCap w (l + m) c e)) (w.drew.alloc (.cells (xs ++ zs).toArray e)) := by
      rw [e1]
      have hpos : 0 < k := A.pos
      by_cases hm : m = 0
      · omega
      · have hm0 : ¬ (m * k = 0) := by
          have : 1 * 1 ≤ m * k := Nat.mul_le_mul (by omega) hpos
          omega
        simp [Builtin.append_, run_underlying hund, run_underlying hund2, run_sizeOf A.sz, asInt, asIntOf, hwr, typeInfo, hi, hneg, hbig, h0, h63', h48', Question.forced, hfo, hzero, newRow, grownCap, hm0]
    intro a ha
    simp [execOp, resolve, invoke, builtin, ha.eval hx, ha.eval hy, happ]
  · show (w.drew.heap.push _)[w.heap.size]? = _
    rw [show w.heap.size = w.drew.heap.size from rfl, Array.getElem?_push_size]

theorem st_copy (hs : slOf P t = some e) (hk : szOf P e = some k) {x y : Operand} {v : Value} {b off dl dc m c : Nat} {cs ys : List Value} (hx : ev F x = some (.slice (some ⟨b, off, none⟩) dl dc)) (hy : ev F y = some v) (hv : IsSl w e k v m ys)
    (hb : Blk w b e cs) (hc : min m dl = c) (hl : off + c * k ≤ cs.length) (hn : Nat.blt d n = true)
    (h : ∀ w', w'.heap.size = w.heap.size → Chg [b] w w' → Blk w' b e (laid cs off (ys.take (c * k))) → K ((d, .int .i64 c) :: F) w') :
    St P n F ⟨some d, .call { callee := .builtin .copy, args := #[x, y], argTypes := #[t, t2] }, ty, pos, af, gd⟩ w K := by
  subst hc
  have hly := hv.len_xs
  have hle : min m dl * k ≤ m * k := Nat.mul_le_mul_right _ (Nat.min_le_left _ _)
  have hlt : (ys.take (min m dl * k)).length = min m dl * k := by rw [List.length_take]; omega
  have hone : ∀ u ∈ ys.take (min m dl * k), u.oneCell' = true := fun u hu => hv.one_xs u (List.mem_of_mem_take hu)
  have hst := run_stores (P := P) (off := off) (vs := ys.take (min m dl * k)) hb (by rw [hlt]; exact hl) hone
  refine St.vl (v := .int .i64 (min m dl : Nat)) (w' := w.setRow b (laid cs off (ys.take (min m dl * k))).toArray) ?_ rfl hn (h _ (by simp [World.setRow]) (Chg.row _ _ _) (hb.row _))
  intro a ha
  have hfirst : (Builtin.firstCells k (min m dl) v).run P w = .ok (ys.take (min m dl * k)).toArray w := by
    rcases hv with ⟨rfl, rfl, rfl⟩ | ⟨b', off', cap', c', rfl, hv⟩
    · simp [Builtin.firstCells]
    · refine run_firstCells_some w k (min m dl) ⟨b', off', none⟩ m cap' _ hlt (fun j u hu => ?_)
      rw [Addr.add_lit]
      rw [List.getElem?_take] at hu
      split at hu
      · exact hv.cells j u hu
      · cases hu
  simp [execOp, resolve, invoke, builtin, Builtin.copy_, ha.eval hx, ha.eval hy, run_underlying (slOf_und hs), run_sizeOf hk, run_lenOf hv, hfirst, hst, goInt]

theorem st_clear (A : App P t e k by' z) {x : Operand} {b off dl dc : Nat} {cs : List Value} (hx : ev F x = some (.slice (some ⟨b, off, none⟩) dl dc)) (hb : Blk w b e cs) (hl : off + dl * k ≤ cs.length)
    (h : ∀ w' zs, w'.heap.size = w.heap.size → Chg [b] w w' → zs.length = dl * k → (∀ u ∈ zs, u.oneCell' = true) → Blk w' b e (laid cs off zs) → K F w') :
    St P n F ⟨none, .call { callee := .builtin .clear, args := #[x], argTypes := #[t] }, ty, pos, af, gd⟩ w K := by
  have hund := slOf_und A.sl
  have hzl : (Builtin.zeroCells z.cells dl).toList.length = dl * k := by simp [size_zeroCells, A.zs]
  have hst := run_stores (P := P) (off := off) (vs := (Builtin.zeroCells z.cells dl).toList) hb (by rw [hzl]; exact hl) (oneCell_zero z _ A.zo)
  by_cases h0 : dl = 0
  · subst h0
    have he : Builtin.zeroCells z.cells 0 = #[] := Array.eq_empty_of_size_eq_zero (by rw [size_zeroCells]; simp)
    refine St.vlNone (v := .tuple #[]) (w' := w) ?_ rfl (h w [] rfl (Chg.refl _ _) (by simp) (by simp) (by simpa [laid] using hb))
    intro a ha
    simp [execOp, resolve, invoke, builtin, Builtin.clear_, ha.eval hx, run_underlying hund]
  · refine St.vlNone (v := .tuple #[]) (w' := w.setRow b (laid cs off (Builtin.zeroCells z.cells dl).toList).toArray) ?_ rfl (h _ _ (by simp [World.setRow]) (Chg.row _ _ _) hzl (oneCell_zero z _ A.zo) (hb.row _))
    intro a ha
    obtain ⟨q, rfl⟩ : ∃ q, dl = q + 1 := ⟨dl - 1, by omega⟩
    simp [execOp, resolve, invoke, builtin, Builtin.clear_, ha.eval hx, run_underlying hund, run_zero A.zr, hst]
end
end Go.Wk

namespace Go.Wk

theorem cut_val (p : Option Addr) (l h m k : Nat) : ∃ q, cut p l h m k = .slice q (h - l) (m - l) := ⟨_, rfl⟩

theorem cut_ne {b off l h m k : Nat} (hne : m ≠ l) : cut (some ⟨b, off, none⟩) l h m k = .slice (some ⟨b, off + l * k, none⟩) (h - l) (m - l) := by
  unfold cut
  rw [if_neg hne]
  simp [Addr.add_lit]
theorem cut_zero {b off h m k : Nat} : cut (some ⟨b, off, none⟩) 0 h m k = .slice (some ⟨b, off, none⟩) h m := by
  unfold cut
  split
  · rfl
  · simp [Addr.add_lit]

/-- A piece of a slice reads a piece. -/
theorem SlAt.cut {w : World} {e k b off len cap : Nat} {c xs : List Value} (hs : SlAt w e k b off len cap c xs) {l h m : Nat} (h1 : l ≤ h) (h2 : h ≤ m) (h3 : m ≤ cap) :
    IsSl w e k (cut (some ⟨b, off, none⟩) l h m k) (h - l) ((c.drop (off + l * k)).take ((h - l) * k)) := by
  have hfit := hs.fit
  have hmk : m * k ≤ cap * k := Nat.mul_le_mul_right _ h3
  have hlk : l * k ≤ m * k := Nat.mul_le_mul_right _ (by omega)
  have hsub : (m - l) * k = m * k - l * k := Nat.sub_mul _ _ _
  have hmax := hs.max
  unfold Wk.cut
  by_cases he : m = l
  · subst he
    have : h = m := by omega
    subst this
    refine .inr ⟨b, off, 0, c, by simp, ⟨hs.blk, by omega, by omega, by omega, by simp, hs.one⟩⟩
  · rw [if_neg he]
    refine .inr ⟨b, off + l * k, m - l, c, by simp [Addr.add_lit], ⟨hs.blk, by omega, by omega, by omega, rfl, hs.one⟩⟩

/-- v[l:h:m] and v[l:h], by what v reads. -/
theorem IsSl.cut {w : World} {e k len : Nat} {p : Option Addr} {cap : Nat} {xs : List Value} (hs : IsSl w e k (.slice p len cap) len xs) {l h m : Nat} (h1 : l ≤ h) (h2 : h ≤ m) (h3 : m ≤ cap) (h4 : h ≤ len) :
    IsSl w e k (Wk.cut p l h m k) (h - l) ((xs.drop (l * k)).take ((h - l) * k)) := by
  rcases hs with ⟨he, rfl, rfl⟩ | ⟨b, off, cap', c, he, hs⟩
  · simp only [Value.slice.injEq] at he
    obtain ⟨rfl, _, rfl⟩ := he
    have : h = 0 := by omega
    subst this
    have : l = 0 := by omega
    subst this
    have : m = 0 := by omega
    subst this
    exact .inl ⟨by simp [Wk.cut], rfl, by simp⟩
  · simp only [Value.slice.injEq] at he
    obtain ⟨rfl, _, rfl⟩ := he
    have := hs.cut h1 h2 h3
    have e1 : (xs.drop (l * k)).take ((h - l) * k) = (c.drop (off + l * k)).take ((h - l) * k) := by
      have hh : h * k ≤ len * k := Nat.mul_le_mul_right _ h4
      have hl : l * k ≤ h * k := Nat.mul_le_mul_right _ h1
      have hs2 : (h - l) * k = h * k - l * k := Nat.sub_mul _ _ _
      rw [hs.xs, List.drop_take, List.take_take, List.drop_drop]
      congr 1
      omega
    rw [e1]
    exact this
theorem IsSl.cutBlk {p : Option Addr} {l h m k len cap : Nat} : ∀ b ∈ blkOf (Wk.cut p l h m k), b ∈ blkOf (.slice p len cap) := by
  intro b hb
  unfold Wk.cut at hb
  cases p with
  | none => split at hb <;> simp [blkOf] at hb
  | some a =>
    split at hb
    · simpa [blkOf] using hb
    · simp only [Option.map_some, blkOf, List.mem_singleton] at hb ⊢
      rw [hb]
      unfold Addr.add
      split <;> rfl
theorem IsSl.cells1 {w : World} {e k : Nat} {v : Value} {len : Nat} {xs : List Value} (h : IsSl w e k v len xs) : v.cells = [v].toArray := by
  obtain ⟨p, c, rfl, _⟩ := h.val
  rfl
theorem IsSl.one1 {w : World} {e k : Nat} {v : Value} {len : Nat} {xs : List Value} (h : IsSl w e k v len xs) : v.oneCell' = true := by
  obtain ⟨p, c, rfl, _⟩ := h.val
  rfl
/-- A block that was built whole. -/
theorem IsSl.of_blk {w : World} {e k b n : Nat} {c : List Value} (hb : Blk w b e c) (hl : c.length = n * k) (hn : n ≤ maxLen) (h1 : ∀ u ∈ c, u.oneCell' = true) : IsSl w e k (.slice (some ⟨b, 0, none⟩) n n) n c :=
  .inr ⟨b, 0, n, c, rfl, ⟨hb, Nat.le_refl _, hn, by omega, by rw [List.drop_zero, List.take_of_length_le (by omega)], h1⟩⟩

/-- Slices, each reading its cells. -/
def AllS (w : World) (e k : Nat) : List Value → List (List Value) → Prop
  | [], [] => True
  | u :: us, x :: xs => IsSl w e k u (x.length / k) x ∧ AllS w e k us xs
  | _, _ => False
theorem AllS.length {w : World} {e k : Nat} : ∀ {us : List Value} {xss : List (List Value)}, AllS w e k us xss → us.length = xss.length
  | [], [], _ => rfl
  | _ :: _, _ :: _, h => by simp [AllS.length h.2]
theorem AllS.at {w : World} {e k : Nat} : ∀ {us : List Value} {xss : List (List Value)} {i : Nat} {x : List Value}, AllS w e k us xss → xss[i]? = some x → ∃ u, us[i]? = some u ∧ IsSl w e k u (x.length / k) x
  | [], [], _, _, _, h => by simp at h
  | u :: us, x :: xss, 0, l', h, hi => by simp at hi; subst hi; exact ⟨u, rfl, h.1⟩
  | u :: us, x :: xss, i + 1, l', h, hi => by simpa using h.2.at (by simpa using hi)
theorem AllS.chg0 {w w' : World} {e k : Nat} (hc : Chg [] w w') : ∀ {us : List Value} {xss : List (List Value)}, AllS w e k us xss → AllS w' e k us xss
  | [], [], _ => trivial
  | _ :: _, _ :: _, h => ⟨h.1.chg0 hc, AllS.chg0 hc h.2⟩
/-- How many elements the first ones have. -/
def sumTo (k : Nat) (xss : List (List Value)) (i : Nat) : Nat := ((xss.take i).map fun x => x.length / k).sum
theorem sumTo_zero (k : Nat) (xss : List (List Value)) : sumTo k xss 0 = 0 := by simp [sumTo]
theorem sumTo_succ {k : Nat} {xss : List (List Value)} {i : Nat} {x : List Value} (h : xss[i]? = some x) : sumTo k xss (i + 1) = sumTo k xss i + x.length / k := by
  unfold sumTo
  rw [List.take_add_one, h]
  simp
theorem sumTo_mono (k : Nat) (xss : List (List Value)) {i j : Nat} (h : i ≤ j) : sumTo k xss i ≤ sumTo k xss j := by
  induction j with
  | zero => have : i = 0 := by omega
            subst this; exact Nat.le_refl _
  | succ j ih =>
    rcases Nat.lt_or_ge i (j + 1) with h' | h'
    · have := ih (by omega)
      cases hx : xss[j]? with
      | none =>
        have : xss.length ≤ j := List.getElem?_eq_none_iff.1 hx
        have e : sumTo k xss (j + 1) = sumTo k xss j := by unfold sumTo; rw [List.take_of_length_le (by omega), List.take_of_length_le this]
        omega
      | some x => rw [sumTo_succ hx]; exact Nat.le_trans this (Nat.le_add_right _ _)
    · have : i = j + 1 := by omega
      subst this; exact Nat.le_refl _
theorem flatten_take_succ {xss : List (List Value)} {i : Nat} {x : List Value} (h : xss[i]? = some x) : (xss.take (i + 1)).flatten = (xss.take i).flatten ++ x := by
  rw [List.take_add_one, h]
  simp

/-! ### an append in place, to the place -/
section
variable {P : Program} {n : Nat} {F : Fr} {w : World} {d : Tmp} {ty t t2 e e2 : TypeId} {k : Nat} {pos : String} {af : Array Edge} {gd : Option (Nat × Bool)} {K : Fr → World → Prop}
theorem st_appendRoom (hsl : slOf P t = some e) (hk : szOf P e = some k) (ht2 : slOf P t2 = some e2) {x y : Operand} {s : Value} {b off l m cap : Nat} {c ys : List Value} (hx : ev F x = some (.slice (some ⟨b, off, none⟩) l cap)) (hy : ev F y = some s) (hb : Blk w b e c) (hs : IsSl w e k s m ys) (hroom : l + m ≤ cap) (hfit : off + cap * k ≤ c.length)
    (hn : Nat.blt d n = true) (h : ∀ w', w'.heap.size = w.heap.size → Chg [b] w w' → Blk w' b e (laid c (off + l * k) ys) → K ((d, .slice (some ⟨b, off, none⟩) (l + m) cap) :: F) w') :
    St P n F ⟨some d, .call { callee := .builtin .append, args := #[x, y], argTypes := #[t, t2] }, ty, pos, af, gd⟩ w K := by
  have hund := slOf_und hsl
  have hund2 := slOf_und ht2
  have hly := hs.len_xs
  have hls := run_lenOf (P := P) hs
  have hfs := run_first (P := P) hs
  have hcap : (l + m) * k ≤ cap * k := Nat.mul_le_mul_right _ hroom
  have hfit2 : off + l * k + ys.length ≤ c.length := by rw [hly]; rw [Nat.add_mul] at hcap; omega
  have hst := run_stores (P := P) (off := off + l * k) (vs := ys) hb hfit2 hs.one_xs
  refine St.vl (v := .slice (some ⟨b, off, none⟩) (l + m) cap) (w' := w.setRow b (laid c (off + l * k) ys).toArray) ?_ rfl hn (h _ (by simp [World.setRow]) (Chg.row _ _ _) (hb.row _))
  intro a ha
  have happ : (Builtin.append_ #[t, t2] ty #[.slice (some ⟨b, off, none⟩) l cap, s]).run P w = .ok (.slice (some ⟨b, off, none⟩) (l + m) cap) (w.setRow b (laid c (off + l * k) ys).toArray) := by
    simp [Builtin.append_, run_underlying hund, run_underlying hund2, run_sizeOf hk, hls, hroom, hfs, Addr.add_lit, hst]
  simp [execOp, resolve, invoke, builtin, ha.eval hx, ha.eval hy, happ]
end

/-! ### cells that are moved -/
theorem laid_mid (A Z Y : List Value) : laid (A ++ Z) A.length Y = A ++ (Y ++ Z.drop Y.length) := by
  unfold laid
  rw [List.take_left, ← List.drop_drop, List.drop_left, List.append_assoc]
/-- B moves on by as many cells as Y has; Y is laid where B began. -/
theorem laid_shift (A B S Y : List Value) (h : Y.length ≤ S.length) : ∃ R, laid (laid (A ++ (B ++ S)) (A.length + Y.length) B) A.length Y = A ++ (Y ++ (B ++ R)) ∧ ∀ u ∈ R, u ∈ S ∨ u ∈ B := by
  have e1 : A ++ (B ++ S) = (A ++ (B ++ S).take Y.length) ++ (B ++ S).drop Y.length := by rw [List.append_assoc, List.take_append_drop]
  have hl : (A ++ (B ++ S).take Y.length).length = A.length + Y.length := by simp; omega
  refine ⟨((B ++ S).drop Y.length).drop B.length, ?_, ?_⟩
  · have hY : ((B ++ S).take Y.length).length = Y.length := by simp; omega
    rw [e1, ← hl, laid_mid, List.append_assoc, laid_mid, List.drop_left' hY]
  · intro u hu
    have := List.mem_of_mem_drop (List.mem_of_mem_drop hu)
    simp only [List.mem_append] at this
    exact this.symm
theorem prefix_take {A B C : List Value} {n : Nat} (h : A.length = n) : (A ++ C).take n = A := by rw [← h]; exact List.take_left

theorem run_overlaps {P : Program} {w : World} {pt e : TypeId} {pts rts : Array TypeId} {k : Nat} (hp : pts[0]? = some pt) (hs : slOf P pt = some e) (hk : szOf P e = some k) {b1 o1 l1 c1 b2 o2 l2 c2 : Nat} {e1 e2 : TypeId} {x1 x2 : List Value} (h1 : Blk w b1 e1 x1) (h2 : Blk w b2 e2 x2) (hne : b1 ≠ b2) :
    (Extern.SlicesOverlaps.overlaps pts rts #[.slice (some ⟨b1, o1, none⟩) l1 c1, .slice (some ⟨b2, o2, none⟩) l2 c2]).run P w = .ok (.bool false) w := by
  have hund := slOf_und hs
  have hz : ∀ b e x, Blk w b e x → w.shape? b = some (e, x.length) := fun b e x h => by simp [World.shape?, (show w.heap[b]? = _ from h)]
  have f1 : ∀ o, w.frozen? ⟨b1, o, none⟩ = false := fun o => h1.free _ rfl
  have f2 : ∀ o, w.frozen? ⟨b2, o, none⟩ = false := fun o => h2.free _ rfl
  have s1 := hz _ _ _ h1
  have s2 := hz _ _ _ h2
  have hm : (mayBeOne ⟨b1, o1, none⟩ ⟨b2, o2, none⟩).run P w = .ok false w := by
    simp [mayBeOne, stringish, f1, f2, s1, s2]
  have v1 : (noView ⟨b1, o1, none⟩).run P w = .ok () w := by simp [noView, viewAt, s1]
  have v2 : (noView ⟨b2, o2, none⟩).run P w = .ok () w := by simp [noView, viewAt, s2]
  have hbe2 : (b1 == b2) = false := by simpa using hne
  conv => lhs; arg 2; whnf
  simp only [hp, Sem.run_bind, run_underlying hund, Result.andThen_ok, run_sizeOf hk]
  by_cases h0 : l1 = 0 ∨ l2 = 0 ∨ k = 0
  · simp [h0]
  · simp [h0, hbe2, f1, f2, v1, v2, hm, hne]

section
variable {P : Program} {n : Nat} {Q : Exit → Fr → World → Prop} {F : Fr} {w : World} {o : Oper} {ops : Array Oper} {rest : List Oper} {C : World → Prop} {k d : Nat}
/-- An operation whose guard was itself passed by. -/
theorem O_guard_un {j t : Nat} {b : Bool} (hg : o.guard = some (j, b)) (hd : o.dst = some d) (hn : Nat.blt d n = true) (ht : (ops[j]?).bind (·.dst) = some t) (hv : get F t = some undef) (h : O P n ops Q rest ((d, undef) :: F) w) : O P n ops Q (o :: rest) F w := by
  intro a ha
  have hw : Region.wanted o (yielded ops a.tmps) = false := by
    simp [Region.wanted, hg, yielded, ht, ha.get t _ hv, undef]
  refine wpList_step fun K' hK => ?_
  rw [if_neg (by simp [hw]), hd]
  exact hK _ _ (h _ (ha.put hn undef))
theorem t_un {j t : Nat} {b : Bool} (hg : o.guard = some (j, b)) (hd : o.dst = some d) (hn : Nat.blt d n = true) (ht : (ops[j]?).bind (·.dst) = some t) (hv : get F t = some undef) (h : T P n ops C Q (k + 1) rest ((d, undef) :: F) w) : T P n ops C Q k (o :: rest) F w := by
  intro a ha
  have hw : Region.wanted o (yielded ops a.tmps) = false := by
    simp [Region.wanted, hg, yielded, ht, ha.get t _ hv, undef]
  simp only [wpT, hw, Bool.false_eq_true, if_false]
  rw [hd]
  exact h _ (ha.put hn undef)
end
end Go.Wk

namespace Go.Wk

section
variable {P : Program} {fn : Func} {R : Value → World → Prop} {n : Nat} {F : Fr} {w : World}
/-- A result of a struct that lies in a cell. -/
theorem retC {t ty k b off : Nat} {cs : List Value} (hr : fn.results = #[.cell t ty]) (hag : agOf P ty = some true) (hk : szOf P ty = some k) (hv : get F t = some (.pointer (some ⟨b, off, none⟩))) (hl : cs.length = k) (hc : Cells w b off cs) (h : R (.agg cs.toArray) w) (hm : marks F = [] := by rfl) : retF P fn R n .ret F w := by
  refine ⟨_, fun a ha => ?_, hm, h⟩
  subst hl
  have h1 : (loadCells ⟨b, off, none⟩ cs.length).run P w = .ok cs.toArray w := run_loadCells_list w ⟨b, off, none⟩ cs (fun j v hv => by rw [Addr.add_lit]; exact hc j v hv)
  simp [results, hr, ha.get t _ hv, asAddr, loadVar, run_isAgg hag, run_sizeOf hk, h1]
theorem ret3C {t u s ty k b off : Nat} {v y : Value} {cs : List Value} (hr : fn.results = #[.tmp t, .cell u ty, .tmp s]) (hag : agOf P ty = some true) (hk : szOf P ty = some k) (hv : get F t = some v) (hu : get F u = some (.pointer (some ⟨b, off, none⟩))) (hy : get F s = some y) (hl : cs.length = k) (hc : Cells w b off cs)
    (h : R (.tuple #[v, .agg cs.toArray, y]) w) (hm : marks F = [] := by rfl) : retF P fn R n .ret F w := by
  refine ⟨.tuple #[v, .agg cs.toArray, y], fun a ha => ?_, hm, h⟩
  subst hl
  have h1 : (loadCells ⟨b, off, none⟩ cs.length).run P w = .ok cs.toArray w := run_loadCells_list w ⟨b, off, none⟩ cs (fun j v hv => by rw [Addr.add_lit]; exact hc j v hv)
  simp [results, hr, ha.get t _ hv, ha.get u _ hu, ha.get s _ hy, asAddr, loadVar, run_isAgg hag, run_sizeOf hk, h1]
end

/-- A struct of two texts? -/
def two9 (P : Program) (t : TypeId) : Bool :=
  match P.underlying t with
  | some (.struct fs) => !P.stoodInHeld t && !P.eqGuardType P.depth t && (match fs.toList with
    | [f, g] => stOf P f.type && stOf P g.type && Nat.beq f.offset 0 && Nat.beq g.offset 1 && decide (f.name ≠ "_") && decide (g.name ≠ "_") && (agOf P f.type == some false) && (agOf P g.type == some false)
    | _ => false)
  | _ => false
theorem stOf_und {P : Program} {t : TypeId} (h : stOf P t = true) : P.underlying t = some .string := by unfold stOf at h; split at h <;> simp_all

section
variable {P : Program} {n : Nat} {F : Fr} {w : World} {dst : Option Tmp} {ty : TypeId} {pos : String} {af : Array Edge} {gd : Option (Nat × Bool)}
theorem vl_ne2 {x y : Operand} {t u : TypeId} {a b c d : ByteArray} (h2 : two9 P t = true) (hx : ev F x = some (.agg #[.string a, .string b])) (hy : ev F y = some (.agg #[.string c, .string d])) :
    Vl P n F ⟨dst, .binOp .neq t x y u, ty, pos, af, gd⟩ w (.bool (!(decide (a = c) && decide (b = d)))) w := by
  intro ac ha
  unfold two9 at h2
  split at h2
  · rename_i fs hu
    simp only [Bool.and_eq_true, Bool.not_eq_true'] at h2
    obtain ⟨⟨hs, hg⟩, h2⟩ := h2
    split at h2
    · rename_i f g hfs
      simp only [Bool.and_eq_true, decide_eq_true_eq, beq_iff_eq] at h2
      obtain ⟨⟨⟨⟨⟨⟨⟨hf, hgs⟩, hf0⟩, hg1⟩, hfn⟩, hgn⟩, haf⟩, hag⟩ := h2
      have ef : f.offset = 0 := Nat.eq_of_beq_eq_true hf0
      have eg : g.offset = 1 := Nat.eq_of_beq_eq_true hg1
      have hfo : P.fieldsOf t = fs := by simp [Program.fieldsOf, hu]
      have hsf := stOf_und hf
      have hsg := stOf_und hgs
      have pf : ∀ (vs : Array Value) (v : Value), vs[0]? = some v → (part f.type vs 0).run P w = .ok v w := by
        intro vs v hv
        simp [part, run_isAgg haf, hv]
      have pg : ∀ (vs : Array Value) (v : Value), vs[1]? = some v → (part g.type vs 1).run P w = .ok v w := by
        intro vs v hv
        simp [part, run_isAgg hag, hv]
      have e1 : (Op.equalIn 10000 t (.agg #[.string a, .string b]) (.agg #[.string c, .string d])).run P w = .ok (decide (a = c) && decide (b = d)) w := by
        rw [run_equalIn_agg w 9999 t _ _ (by rw [hfo]; exact hu) hs, hfo, hfs]
        have p1 := pf #[.string a, .string b] (.string a) rfl
        have p2 := pf #[.string c, .string d] (.string c) rfl
        have p3 := pg #[.string a, .string b] (.string b) rfl
        have p4 := pg #[.string c, .string d] (.string d) rfl
        have q1 := run_equalIn_string (P := P) w 9998 f.type a c hsf
        have q2 := run_equalIn_string (P := P) w 9998 g.type b d hsg
        rw [toList_beq] at q1 q2
        by_cases h1 : a = c <;> by_cases h2 : b = d <;> simp only [Op.eqFields, ef, eg, hfn, hgn, Sem.run_bind, p1, p2, p3, p4, Result.andThen_ok, q1, q2, Sem.run_ite, Sem.run_pure, ne_eq, not_false_eq_true, if_true] <;> simp [h1, h2]
      simp only [execOp, ha.eval hx, ha.eval hy, Sem.run_bind, run_eqGuard_agg w _ _ _ _ _ _ hg, Result.andThen_ok, run_neq_struct, e1]
      simp
    · simp at h2
  · simp at h2
end

theorem AllS.append {w : World} {e k : Nat} : ∀ {us vs : List Value} {xs ys : List (List Value)}, AllS w e k us xs → AllS w e k vs ys → AllS w e k (us ++ vs) (xs ++ ys)
  | [], _, [], _, _, h => h
  | _ :: _, _, _ :: _, _, h, h' => ⟨h.1, h.2.append h'⟩
theorem AllS.take {w : World} {e k : Nat} : ∀ {us : List Value} {xs : List (List Value)} (i : Nat), AllS w e k us xs → AllS w e k (us.take i) (xs.take i)
  | _, _, 0, _ => by simp [AllS]
  | [], [], _ + 1, _ => by simp [AllS]
  | _ :: _, _ :: _, i + 1, h => ⟨h.1, h.2.take i⟩
theorem AllS.drop {w : World} {e k : Nat} : ∀ {us : List Value} {xs : List (List Value)} (i : Nat), AllS w e k us xs → AllS w e k (us.drop i) (xs.drop i)
  | _, _, 0, h => h
  | [], [], _ + 1, _ => by simp [AllS]
  | _ :: _, _ :: _, i + 1, h => by simpa using h.2.drop i
theorem AllS.chg {S : List Nat} {w w' : World} {e k : Nat} (hc : Chg S w w') : ∀ {us : List Value} {xs : List (List Value)}, (∀ v ∈ us, ∀ b ∈ blkOf v, b ∉ S) → AllS w e k us xs → AllS w' e k us xs
  | [], [], _, _ => trivial
  | v :: vs, l :: ls, hb, h => ⟨h.1.chg hc (hb v (by simp)), AllS.chg hc (fun u hu => hb u (by simp [hu])) h.2⟩
theorem AllS.lt {w : World} {e k : Nat} : ∀ {us : List Value} {xs : List (List Value)}, AllS w e k us xs → ∀ v ∈ us, ∀ x ∈ blkOf v, x < w.heap.size
  | [], [], h, v, hv => by simp at hv
  | v :: vs, l :: ls, h, u, hu => by
    rcases List.mem_cons.1 hu with rfl | hu
    · exact IsSl.lt h.1
    · exact AllS.lt h.2 u hu
theorem AllS.one {w : World} {e k : Nat} : ∀ {us : List Value} {xs : List (List Value)}, AllS w e k us xs → ∀ u ∈ us, u.oneCell' = true
  | [], [], h, v, hv => by simp at hv
  | v :: vs, l :: ls, h, u, hu => by
    rcases List.mem_cons.1 hu with rfl | hu
    · exact IsSl.one1 h.1
    · exact AllS.one h.2 u hu
theorem IsSl.ltn {w w' : World} {e k len : Nat} {v : Value} {xs : List Value} (h : IsSl w e k v len xs) (hn : w.heap.size ≤ w'.heap.size) : ∀ b ∈ blkOf v, b < w'.heap.size := fun b hb => Nat.lt_of_lt_of_le (h.lt b hb) hn
theorem IsSl.apartSl {w : World} {e k len e' k' len' : Nat} {u v : Value} {xs ys : List Value} (h : IsSl w e k u len xs) (hv : IsSl w e' k' v len' ys) (hne : Nat.beq e e' = false) : ∀ x ∈ blkOf u, x ∉ blkOf v := by
  rcases hv with ⟨rfl, _, _⟩ | ⟨b, off, cap, c, rfl, hs⟩
  · simp [blkOf]
  · have := h.apart hs.blk hne
    simpa [blkOf] using this
theorem AllS.apartSl {w : World} {e k e' k' len' : Nat} {v : Value} {ys : List Value} (hv : IsSl w e' k' v len' ys) (hne : Nat.beq e e' = false) : ∀ {us : List Value} {xs : List (List Value)}, AllS w e k us xs → ∀ u ∈ us, ∀ x ∈ blkOf u, x ∉ blkOf v
  | [], [], h, u, hu => by simp at hu
  | u :: us, x :: xs, h, u', hu => by
    rcases List.mem_cons.1 hu with rfl | hu
    · exact h.1.apartSl hv hne
    · exact AllS.apartSl hv hne h.2 u' hu

theorem fresh_of {v v' : Value} {w : World} (ho : blkOf v' = blkOf v ∨ ∃ b, blkOf v' = [b] ∧ w.heap.size ≤ b) {s : Nat} (hf : ∀ b ∈ blkOf v, s ≤ b) (hs : s ≤ w.heap.size) : ∀ b ∈ blkOf v', s ≤ b := by
  rcases ho with ho | ⟨b, ho, hb⟩
  · rw [ho]; exact hf
  · rw [ho]; intro x hx; simp at hx; subst hx; omega

theorem Chg.cell {w w' : World} (h : Chg [] w w') {a : Addr} {v : Value} (hc : w.cell? a = some v) : w'.cell? a = some v := by
  have hl : a.block < w.heap.size := by
    rcases Nat.lt_or_ge a.block w.heap.size with h' | h'
    · exact h'
    · have hn : w.heap[a.block]? = none := Array.getElem?_eq_none h'
      unfold World.cell? at hc
      rw [hn] at hc
      cases hc
  have hb := h.block a.block hl (by simp)
  unfold World.cell? at hc ⊢
  rw [hb]
  exact hc
theorem Cells.chg0 {w w' : World} {b off : Nat} {cs : List Value} (hc : Cells w b off cs) (h : Chg [] w w') : Cells w' b off cs := fun j u hj => h.cell (hc j u hj)

/-- Rows of texts. -/
def IsKeys (w : World) (s t : TypeId) (v : Value) (kss : List (List ByteArray)) : Prop := ∃ us, IsSl w s 1 v kss.length us ∧ AllS w t 1 us (kss.map fun l => l.map Value.string)
theorem IsKeys.chg0 {w w' : World} {s t : TypeId} {v : Value} {kss : List (List ByteArray)} (h : IsKeys w s t v kss) (hc : Chg [] w w') : IsKeys w' s t v kss :=
  let ⟨us, h1, h2⟩ := h; ⟨us, h1.chg0 hc, h2.chg0 hc⟩
theorem IsKeys.at {w : World} {s t : TypeId} {v : Value} {kss : List (List ByteArray)} (h : IsKeys w s t v kss) {i : Nat} {l : List ByteArray} (hi : kss[i]? = some l) :
    ∃ b off cap p c, v = .slice (some ⟨b, off, none⟩) kss.length cap ∧ w.cell? ⟨b, off + i * 1, none⟩ = some (.slice p l.length c) ∧ IsSl w t 1 (.slice p l.length c) l.length (l.map Value.string) := by
  obtain ⟨us, h1, h2⟩ := h
  obtain ⟨b, off, cap, u, hv, hu, hc⟩ := h1.at1 (List.getElem?_eq_some_iff.1 hi).1
  obtain ⟨u', hu', hl⟩ := h2.at (show (kss.map fun l => l.map Value.string)[i]? = some (l.map Value.string) by rw [List.getElem?_map, hi]; rfl)
  rw [hu] at hu'
  simp only [Option.some.injEq] at hu'
  subst hu'
  have e : (l.map Value.string).length / 1 = l.length := by simp
  rw [e] at hl
  obtain ⟨p, c, rfl, _⟩ := hl.val
  exact ⟨b, off, cap, p, c, hv, hc, hl⟩
end Go.Wk

namespace Go.Wk

theorem Chg.put (w : World) (b : Nat) (o : Obj) : Chg [b] w (w.putObj b o) :=
  ⟨rfl, rfl, rfl, by simp [World.putObj], fun k _ hn => World.putObj_heap_other (fun e => hn (by simp [e]))⟩
theorem Chg.grown0 {w w' : World} (h : Chg [] w w') : w.grownBy w' none := ⟨h.os, h.tape, h.output, h.size, fun k hk _ => h.block k hk (by simp)⟩
theorem Chg.of_grown {w0 w w' : World} {row : Option Nat} (h : Chg [] w0 w) (hg : w.grownBy w' row) (hr : ∀ r, row = some r → w0.heap.size ≤ r) : Chg [] w0 w' := by
  refine h.own (S := row.toList) ⟨hg.os, hg.tape, hg.output, hg.size, fun k hk hn => hg.block k hk (fun e => hn (by rw [← e]; simp))⟩ ?_
  intro k hk
  cases row with
  | none => simp at hk
  | some r => simp at hk; subst hk; exact hr k rfl

/-- What is left behind is shut, one after the other. -/
def ShutL : List Deferred → World → World → Prop
  | [], w, w' => w' = w
  | d :: r, w, w' => ∃ b, d = mkD b ∧ w.heap[b]? = some (.deferred (some [])) ∧ ShutL r (w.putObj b (.deferred none)) w'

def retFM (P : Program) (fn : Func) (R : Value → World → Prop) (n : Nat) : Exit → Fr → World → Prop
  | .normal, F, w | .ret, F, w => ∃ v w', ShutL (marks F) w w' ∧ (∀ a, Rep n F a → (results fn a.tmps).run P w' = .ok v w') ∧ R v w'
  | _, _, _ => False

theorem leaves_of {P : Program} {fn : Func} {tmps : Array Value} {R : Ending → World → Prop} {n : Nat} : ∀ (ms : List Deferred) (w w' : World), ShutL ms w w' → LeavesIn Fence.wide n P fn tmps R [] .returning w' → LeavesInM Fence.wide n P fn tmps R ms .returning w
  | [], w, w', h, hl => by
    have : w' = w := h
    subst this
    exact hl
  | d :: r, w, w', h, hl => by
    obtain ⟨b, rfl, h1, h2⟩ := h
    refine ⟨by simp, .inl ⟨b, _, rfl, run_takeDeferred h1, leaves_of r _ w' h2 hl⟩⟩

theorem Ret.of_WM {P : Program} {f : FuncId} {fn : Func} {c : Code} {args : List Value} {w : World} {R : Value → World → Prop} {n : Nat} {F : Fr}
    (hf : P.funcs[f]? = some fn) (hb : fn.body = some c) (hn : fn.ntmps = n) (hl : Nat.ble args.length n = true) (hF : frameOf 0 args = F)
    (h : W P n c (retFM P fn R n) F w) (hk : Nat.ble n 1000000 = true := by rfl) : Ret P f args.toArray w R := by
  subst hF hn
  refine (callsIn_wide (n := 3)).1 ?_
  refine callsIn_of_wp_marks hf hb trivial ?_
  refine wpIn_wide.2 ?_
  refine wp_mono (h _ (Rep.frameOf hl (Nat.le_of_ble_eq_true hk))) ?_
  rintro e a w' ⟨F', hr', hq⟩
  have fin : (∃ v w1, ShutL (marks F') w' w1 ∧ (∀ a, Rep fn.ntmps F' a → (results fn a.tmps).run P w1 = .ok v w1) ∧ R v w1) → LeavesInM Fence.wide 3 P fn a.tmps (fun e w' => ∃ v, e = .returned v ∧ R v w') a.defers .returning w' := by
    rintro ⟨v, w1, hs, hv, hR⟩
    rw [hr'.defers]
    refine leaves_of _ _ _ hs ?_
    exact ⟨v, hv _ hr', v, rfl, hR⟩
  cases e <;> simp only [retFM] at hq
  case normal => exact fin hq
  case ret => exact fin hq

section
variable {P : Program} {fn : Func} {R : Value → World → Prop} {n : Nat} {F : Fr} {w : World}
/-- A result in a cell; nothing is left behind. -/
theorem retM0 {t ty : Nat} {p : Addr} {v : Value} (hr : fn.results = #[.cell t ty]) (hag : agOf P ty = some false) (hv : get F t = some (.pointer (some p))) (hc : w.cell? p = some v) (h : R v w) (hm : marks F = [] := by rfl) : retFM P fn R n .ret F w := by
  refine ⟨v, w, by rw [hm]; rfl, fun a ha => ?_, h⟩
  simp [results, hr, ha.get t _ hv, asAddr, loadVar, run_isAgg hag, hc]
/-- One mark is left behind. -/
theorem retM1 {t ty D : Nat} {p : Addr} {v : Value} (hr : fn.results = #[.cell t ty]) (hag : agOf P ty = some false) (hv : get F t = some (.pointer (some p))) (hm : marks F = [mkD D]) (hD : w.heap[D]? = some (.deferred (some [])))
    (h : ∀ w', Chg [D] w w' → w'.cell? p = some v ∧ R v w') : retFM P fn R n .ret F w := by
  have hh := h _ (Chg.put w D (.deferred none))
  refine ⟨v, _, by rw [hm]; exact ⟨D, rfl, hD, rfl⟩, fun a ha => ?_, hh.2⟩
  simp [results, hr, ha.get t _ hv, asAddr, loadVar, run_isAgg hag, hh.1]
end

section
variable {P : Program} {n : Nat} {Q : Exit → Fr → World → Prop} {F : Fr} {w : World}
def scopeF (Q : Exit → Fr → World → Prop) : Exit → Fr → World → Prop
  | .goto _, _, _ => False
  | e, F, w => Q e F w
theorem W_scope {c : Code} (h : W P n c (scopeF Q) F w) : W P n (.scope c) Q F w := by
  intro a ha
  refine wp_scope_straight (wp_mono (h a ha) ?_)
  rintro e a' w' ⟨F', hr, hq⟩
  cases e with
  | goto l => exact hq.elim
  | _ => exact ⟨F', hr, hq⟩

theorem Rep.mark {a : Act} (h : Rep n F a) (D : Nat) : Rep n ((1000000, .int .i64 D) :: F) { a with defers := { target := .collected D, args := #[] } :: a.defers } := by
  refine ⟨h.lt, h.size, ?_, fun i v hi => ?_⟩
  · have hb : Nat.ble 1000000 1000000 = true := rfl
    have e : marks ((1000000, Value.int .i64 (D : Int)) :: F) = mkD D :: marks F := by simp [marks, markF, dOf, markN, hb]
    rw [e]
    simp [h.defers, mkD]
  · refine h.get i v ?_
    simp only [Wk.get] at hi
    by_cases e : i = 1000000
    · subst e
      have hb : Nat.ble 1000000 1000000 = true := rfl
      simp [hb] at hi
    · rw [beq_ne e] at hi; exact hi

/-- A range over a function that hands over nothing. -/
theorem W_range_none {g : Operand} {ps : Array Tmp} {assign body : Code} {gf : FuncId} {lb : List Value} (hg : ev F g = some (.func (.func gf) #[] lb.toArray)) (hb : bodied P gf = true)
    (hc : ∀ l w', Chg [] w w' → Ret P gf ((.func (.yield l) #[] #[]) :: lb).toArray w' fun _ w'' => Chg [] w' w'')
    (h : ∀ (D : Nat) (w' : World), w.heap.size ≤ D → Chg [] w w' → w'.heap[D]? = some (.deferred (some [])) → Q .normal ((1000000, .int .i64 D) :: F) w') :
    W P n (.rangeFunc g ps assign body) Q F w := by
  intro a ha
  refine (wpIn_wide (n := 3)).1 ?_
  have eg : ∀ (args : Array Value) (w : World), (callFunc gf args).run P w = .ok (.enter gf args) w := by
    intro args w
    unfold bodied at hb
    split at hb
    · rename_i fn hfn
      simp only [Bool.and_eq_true, Bool.not_eq_true'] at hb
      have h1 : ¬ fn.body = none := by cases hx : fn.body <;> simp_all
      have h2 : ¬ fn.name = "runtime.NumGoroutine" := by simpa using hb.2
      simp [callFunc, hfn, h1, h2]
    · simp at hb
  refine wpIn_rangeFunc_ownG (α := Empty) (F := Fence.wide) (n := 3) rfl (by omega) (gf := gf) (lb := lb.toArray) (ha.eval hg) trivial eg
    (encs := fun x => x.elim) (Kp := fun _ _ => True) (S := fun _ => True) (Sp := fun _ => False) (N := 0) (w0 := w) ?_ (fun _ _ => trivial) (fun _ _ _ _ _ _ _ _ => trivial) (Go.RowKit.Below.refl _ _) (fun x => x.elim)
    (fun _ W => Chg [] w W) (fun _ _ _ => False) ?_ (fun _ _ _ _ _ hs _ _ => hs) (Chg.refl _ _) (fun x => x.elim) (fun _ x => x.elim) (fun _ _ x => x.elim) ?_ (fun _ _ _ _ _ hs => hs.elim)
  · intro l J Jx W hW hJ _ _ h0
    have hcw : Chg [] w W := ⟨hW.os, hW.tape, hW.output, hW.size, fun k hk _ => hW.block k hk⟩
    have e : (#[Value.func (.yield l) #[] #[]] ++ lb.toArray : Array Value) = (Value.func (.yield l) #[] #[] :: lb).toArray := by simp
    rw [e]
    refine callsIn_wide.2 (Calls.mono (hc l W hcw) ?_)
    rintro e W' ⟨v, rfl, hR⟩
    exact ⟨⟨v, rfl⟩, .inl ⟨[], trivial, hJ _ _ _ none h0 hR.grown0 (fun _ e => by cases e)⟩⟩
  · intro s W W' row hs hgr hr
    exact Chg.of_grown hs hgr (fun r e => (hr r e).1)
  · intro D xs W hD _ hI hK
    exact ⟨_, ha.mark D, h D W hD hI hK⟩
end
end Go.Wk

namespace Go.Wk

inductive Tree where
  | done
  | one (i : Nat) (t : Tree)
  | two (i : Nat) (t : Tree) (j : Nat) (u : Tree)

/-- One after the other. -/
def Tree.seq : List Nat → Tree → Tree
  | [], t => t
  | i :: r, t => .one i (Tree.seq r t)

def wpF (P : Program) (ops : Array Oper) (C : World → Prop) (Q : Act → World → Prop) : Tree → Act → World → Prop
  | .done, a, w => Q a w
  | .one i t, a, w => tOp P ops C i (wpF P ops C Q t) a w
  | .two i t j u, a, w => tOp P ops C i (wpF P ops C Q t) a w ∧ tOp P ops C j (wpF P ops C Q u) a w

def freeOk (ops : Array Oper) (listed : Array Bool) (i : Nat) : Bool := match ops[i]? with
  | none => false
  | some oi => (List.range ops.size).all fun j => Nat.beq j i || listed.getD j true || pairOk ops i oi j

def okF (ops : Array Oper) : Tree → Nat → Array Bool → Bool
  | .done, _, listed => (Region.ready .any ops listed).isEmpty
  | .one _ _, 0, _ => false
  | .one i t, f + 1, listed => (Region.ready .any ops listed).contains i && freeOk ops listed i && okF ops t f (listed.setIfInBounds i true)
  | .two .., 0, _ => false
  | .two i t j u, f + 1, listed => (Region.ready .any ops listed == [i, j]) && okF ops t f (listed.setIfInBounds i true) && okF ops u f (listed.setIfInBounds j true)

def okR (ops : Array Oper) (t : Tree) : Bool := (List.range ops.size).all (fun i => match ops[i]? with | some o => kd o != 3 | none => true) && okF ops t ops.size (Array.replicate ops.size false)

section
variable {P : Program} {ops : Array Oper} {C : World → Prop}
theorem aT_of_F {Q : Act → World → Prop} (hk3 : ∀ (j : Nat) (oj : Oper), ops[j]? = some oj → kd oj ≠ 3) {w0 : World} (hw0 : C w0) : ∀ (t : Tree) (f : Nat) (listed : Array Bool) (a : Act) (w : World),
    okF ops t f listed = true → Closed ops listed → wpF P ops C Q t a w → aT P ops C Q f listed a w
  | .done, f, listed, a, w, h, _, hq => by
    have hr : Region.ready .any ops listed = [] := by simpa [okF] using h
    cases f with
    | zero => exact ⟨hr, hq⟩
    | succ f => exact ⟨fun _ => hq, fun i hi => by rw [hr] at hi; cases hi⟩
  | .one i t, 0, listed, a, w, h, _, _ => by simp [okF] at h
  | .one i t, f + 1, listed, a, w, h, hc, hq => by
    simp only [okF, Bool.and_eq_true, List.contains_iff_mem] at h
    obtain ⟨⟨hr, hf⟩, ht⟩ := h
    unfold freeOk at hf
    split at hf
    · cases hf
    · rename_i oi hi
      refine aT_first hi (hk3 i oi hi) hk3 hw0 f listed a w hc ?_ hr ?_
      · intro j oj hj hne hun
        have h1 := List.all_eq_true.1 hf j (List.mem_range.2 (Array.getElem?_eq_some_iff.1 hj).1)
        simp only [Bool.or_eq_true, hun, Bool.false_eq_true, or_false, pairOk, hj] at h1
        rcases h1 with h1 | h1
        · exact absurd (Nat.eq_of_beq_eq_true h1) hne
        · rcases h1 with h1 | h1
          · exact .inl h1
          · simp only [Bool.and_eq_true, Bool.not_eq_true'] at h1
            refine .inr ⟨h1.1, fun ⟨e1, e2⟩ => ?_⟩
            have h3 := h1.2
            rw [e1, e2] at h3
            simp at h3
      · exact tOp_mono (fun a' w' _ h' => aT_of_F hk3 hw0 t f _ a' w' ht (hc.set hr) h') hq
  | .two i t j u, 0, listed, a, w, h, _, _ => by simp [okF] at h
  | .two i t j u, f + 1, listed, a, w, h, hc, hq => by
    simp only [okF, Bool.and_eq_true, beq_iff_eq] at h
    obtain ⟨⟨hr, ht⟩, hu⟩ := h
    have hi : i ∈ Region.ready .any ops listed := by rw [hr]; simp
    have hj : j ∈ Region.ready .any ops listed := by rw [hr]; simp
    refine ⟨fun h0 => (by rw [h0] at hi; cases hi), fun k hk => ?_⟩
    rw [hr] at hk
    simp only [List.mem_cons, List.not_mem_nil, or_false] at hk
    rcases hk with rfl | rfl
    · exact tOp_mono (fun a' w' _ h' => aT_of_F hk3 hw0 t f _ a' w' ht (hc.set hi) h') hq.1
    · exact tOp_mono (fun a' w' _ h' => aT_of_F hk3 hw0 u f _ a' w' hu (hc.set hj) h') hq.2

theorem wp_region_F {id : Nat} {t : Tree} {Q : Act → World → Prop} {Q' : Exit → Act → World → Prop} {a : Act} {w : World} (hQ : ∀ a w, Q a w → Q' .normal a w) (hm : P.follows .mixedOrders = true) (hB : okR ops t = true) (hC : C w.drew)
    (h : wpF P ops C Q t a w.drew) : (Code.region id ops true).wp P Q' a w := by
  refine wp_region_any hm ?_
  simp only [okR, Bool.and_eq_true] at hB
  have hcl : Closed ops (Array.replicate ops.size false) := by
    intro j oj hj hl
    have hjlt := (Array.getElem?_eq_some_iff.1 hj).1
    simp [hjlt] at hl
  have := aT_of_F (P := P) (Q := Q) (fun j oj hj => by
    have h1 := List.all_eq_true.1 hB.1 j (List.mem_range.2 (Array.getElem?_eq_some_iff.1 hj).1)
    rw [hj] at h1
    simpa using h1) hC t ops.size _ a w.drew hB.2 hcl h
  exact wpAny_of_aT (C := C) hQ _ _ _ _ hcl (.inl hC) (by simpa using this)
end

section
variable {P : Program} {n : Nat} {Q : Exit → Fr → World → Prop} {F : Fr} {w w' : World} {o : Oper} {ops : Array Oper} {C : World → Prop} {i d : Nat} {t : Tree}
def TF (P : Program) (n : Nat) (ops : Array Oper) (C : World → Prop) (Q : Exit → Fr → World → Prop) (t : Tree) (F : Fr) (w : World) : Prop :=
  ∀ a, Rep n F a → wpF P ops C (fun a w => ∃ F, Rep n F a ∧ Q .normal F w) t a w
theorem W_drawF (C : World → Prop) (t : Tree) {id : Nat} {l : List Oper} (hm : P.follows .mixedOrders = true) (hB : okR l.toArray t = true) (hC : C w.drew) (h : TF P n l.toArray C Q t F w.drew) : W P n (.region id l.toArray true) Q F w :=
  fun a ha => wp_region_F (C := C) (Q := fun a w => ∃ F, Rep n F a ∧ Q .normal F w) (fun _ _ h => h) hm hB hC (h a ha)
theorem F_end {K : Fr → World → Prop} (keep : List Nat) {F' : Fr} (hF : prune keep F = F') (h : K F' w) : TF P n ops C (thenF K Q) .done F w := fun _ ha => ⟨F', hF ▸ ha.prune keep, h⟩
theorem F_endN (keep : List Nat) {F' : Fr} (hF : prune keep F = F') (h : Q .normal F' w) : TF P n ops C Q .done F w := fun _ ha => ⟨F', hF ▸ ha.prune keep, h⟩
theorem f_two {i j : Nat} {t u : Tree} (h1 : TF P n ops C Q (.one i t) F w) (h2 : TF P n ops C Q (.one j u) F w) : TF P n ops C Q (.two i t j u) F w := fun a ha => ⟨h1 a ha, h2 a ha⟩
theorem f_pure {v : Value} (hi : ops[i]? = some o) (hk : Nat.ble (kd o) 1 = true) (hw : Wd n F ops o) (hv : ∀ w, Vl P n F o w v w) (hd : o.dst = some d) (hn : Nat.blt d n = true) (h : TF P n ops C Q t ((d, v) :: F) w) : TF P n ops C Q (.one i t) F w := by
  intro a ha
  have hk' : kd o = 0 ∨ kd o = 1 := by have := Nat.le_of_ble_eq_true hk; omega
  rcases hk' with hk | hk
  · simp only [wpF, tOp, hi, hw a ha, if_true, tAt, hk]
    refine ⟨v, fun w' => hv w' a ha, ?_⟩
    rw [hd]
    exact h _ (ha.put hn v)
  · simp only [wpF, tOp, hi, hw a ha, if_true, tAt, hk]
    refine ⟨v, fun w' _ => hv w' a ha, ?_⟩
    rw [hd]
    exact h _ (ha.put hn v)
theorem f_read {v : Value} (hi : ops[i]? = some o) (hk : kd o = 1) (hw : Wd n F ops o) (hv : ∀ w, C w → Vl P n F o w v w) (hd : o.dst = some d) (hn : Nat.blt d n = true) (h : TF P n ops C Q t ((d, v) :: F) w) : TF P n ops C Q (.one i t) F w := by
  intro a ha
  simp only [wpF, tOp, hi, hw a ha, if_true, tAt, hk]
  refine ⟨v, fun w' hw' => hv w' hw' a ha, ?_⟩
  rw [hd]
  exact h _ (ha.put hn v)
theorem f_st (hi : ops[i]? = some o) (hk : kd o = 2) (hw : Wd n F ops o) (h : St P n F o w (fun F' w' => (C w' ∨ fin ops i = true) ∧ TF P n ops C Q t F' w')) : TF P n ops C Q (.one i t) F w := by
  intro a ha
  simp only [wpF, tOp, hi, hw a ha, if_true, tAt, hk]
  refine Oper.wp_mono ?_ (wp_shape (h a ha) fun a' w' ⟨F', _, hd, _⟩ => hd)
  rintro a' w' ⟨hs, F', hr, _, hc, hT⟩
  exact ⟨hc, hs, hT _ hr⟩
theorem f_no {j s : Nat} {b b' : Bool} (hi : ops[i]? = some o) (hg : o.guard = some (j, b)) (hd : o.dst = some d) (hn : Nat.blt d n = true) (ht : (ops[j]?).bind (·.dst) = some s) (hv : get F s = some (.bool b')) (hne : b' = !b)
    (h : TF P n ops C Q t ((d, undef) :: F) w) : TF P n ops C Q (.one i t) F w := by
  intro a ha
  have hw : Region.wanted o (yielded ops a.tmps) = false := by
    subst hne
    simp [Region.wanted, hg, yielded, ht, ha.get s _ hv]
  simp only [wpF, tOp, hi, hw, Bool.false_eq_true, if_false]
  rw [hd]
  exact h _ (ha.put hn undef)
end
end Go.Wk

namespace Go.Wk

def fz (ρ : Option Nat) : Fence := { Fence.wide with round := ρ }
theorem fz_round (l : Nat) : fz (some l) = Fence.wide.inRound l := rfl
theorem fz_none : fz none = Fence.wide := rfl
def isDef (o : Oper) : Bool := match o.op with | .defer _ => true | _ => false

def WX (ρ : Option Nat) (P : Program) (n : Nat) (c : Code) (Q : Exit → Fr → World → Prop) (F : Fr) (w : World) : Prop :=
  ∀ a, Rep n F a → c.wpIn (fz ρ) 1 P (lift n Q) a w
def OX (ρ : Option Nat) (P : Program) (n : Nat) (ops : Array Oper) (Q : Exit → Fr → World → Prop) (l : List Oper) (F : Fr) (w : World) : Prop :=
  ∀ a, Rep n F a → wpListIn (fz ρ) 1 P ops (lift n Q) l a w

theorem wpIn_of_wp {ρ : Option Nat} {m : Nat} {P : Program} {o : Oper} {a : Act} {w : World} {K next : Act → World → Prop} {Q : Exit → Act → World → Prop} (hnd : isDef o = false) (h : o.wp P a w K (fun _ _ _ => False)) (hk : ∀ a' w', K a' w' → next a' w') : o.wpIn (fz ρ) m P a w next Q := by
  have hnd' : ∀ c, o.op ≠ .defer c := fun c e => by simp [isDef, e] at hnd
  refine ⟨fun _ _ => trivial, ?_⟩
  rw [Oper.semAt_eq _ _ _ hnd']
  unfold Oper.wp at h
  generalize (execOp a.eval o).run P w = r at *
  cases r with
  | ok x w1 =>
    cases x <;> simp only [Oper.upon] at h
    case value v => exact hk _ _ h
    case skip => exact hk _ _ h
    case defer d => exact hk _ _ h
    case enter f args =>
      refine ⟨fun e => by simp [fz, Fence.wide] at e, ?_⟩
      have h2 : Calls P f args w1 fun e w'' => match e, w'' with
          | .returned v, w'' => next (a.put o.dst v) w''
          | .panicked chain, w'' => Q (.panic chain) a w''
          | .outgrown, _ => LetsOut Q := by
        refine Calls.mono h ?_
        intro e w2 he
        cases e with
        | returned v => exact hk _ _ he
        | panicked c => exact he.elim
        | outgrown => obtain ⟨_, _, hx⟩ := he; exact hx.elim
      exact (callsIn_wide (n := m - 1)).2 h2
    case row row args =>
      refine ⟨fun e => by simp [fz, Fence.wide] at e, ?_⟩
      have h2 := Rows.mono h fun v w2 hv => hk _ _ hv
      exact fun c cs _ => let ⟨v, w', r, s⟩ := h2 c cs; ⟨v, w', r, stepsIn_wide.2 s⟩
  | halt x w1 => cases x <;> simp only [Oper.upon] at h

section
variable {ρ : Option Nat} {P : Program} {n : Nat} {Q : Exit → Fr → World → Prop} {F : Fr} {w : World} {o : Oper} {ops : Array Oper} {rest : List Oper} {d : Nat}

theorem X_seq {x y : Code} (h : WX ρ P n x (thenF (fun F w => WX ρ P n y Q F w) Q) F w) : WX ρ P n (.seq x y) Q F w := by
  intro a ha
  refine wpIn_seq (wpIn_mono (h a ha) ?_)
  rintro e a' w' ⟨F', hr, hq⟩
  cases e with
  | normal => exact hq a' hr
  | _ => exact ⟨F', hr, hq⟩
theorem X_cond_true {c : Operand} {x y : Code} (hc : ev F c = some (.bool true)) (h : WX ρ P n x Q F w) : WX ρ P n (.cond c x y) Q F w := fun a ha => wpIn_cond_true (ha.eval hc) (h a ha)
theorem X_cond_false {c : Operand} {x y : Code} (hc : ev F c = some (.bool false)) (h : WX ρ P n y Q F w) : WX ρ P n (.cond c x y) Q F w := fun a ha => wpIn_cond_false (ha.eval hc) (h a ha)
theorem X_cond {c : Operand} {x y : Code} {b : Bool} (hc : ev F c = some (.bool b)) (ht : b = true → WX ρ P n x Q F w) (hf : b = false → WX ρ P n y Q F w) : WX ρ P n (.cond c x y) Q F w := by
  cases b with
  | true => exact X_cond_true hc (ht rfl)
  | false => exact X_cond_false hc (hf rfl)
theorem X_block {id : Nat} {c : Code} (h : WX ρ P n c (blockF id Q) F w) : WX ρ P n (.block id c) Q F w := by
  intro a ha
  refine wpIn_block (wpIn_mono (h a ha) ?_)
  rintro e a' w' ⟨F', hr, hq⟩
  cases e with
  | exit id' =>
    simp only [blockF] at hq
    simp only [Exit.inBlock]
    split
    · rename_i e; rw [if_pos e] at hq; exact ⟨F', hr, hq⟩
    · rename_i e; rw [if_neg e] at hq; exact ⟨F', hr, hq⟩
  | _ => exact ⟨F', hr, hq⟩
theorem X_skip (h : Q .normal F w) : WX ρ P n .skip Q F w := fun _ ha => wpIn_skip ⟨F, ha, h⟩
theorem X_skipE {K : Fr → World → Prop} (h : K F w) : WX ρ P n .skip (thenF K Q) F w := X_skip h
theorem X_exit {id : Nat} (h : Q (.exit id) F w) : WX ρ P n (.exit id) Q F w := fun _ ha => wpIn_exit ⟨F, ha, h⟩
theorem X_ret (h : Q .ret F w) : WX ρ P n .ret Q F w := fun _ ha => wpIn_ret ⟨F, ha, h⟩
theorem X_prune (keep : List Nat) {c : Code} {F' : Fr} (hF : prune keep F = F') (h : WX ρ P n c Q F' w) : WX ρ P n c Q F w := fun a ha => h a (hF ▸ ha.prune keep)
theorem X_region {id : Nat} {l : List Oper} (h : OX ρ P n l.toArray Q l F w) : WX ρ P n (.region id l.toArray false) Q F w := fun a ha => wpIn_region_lit (h a ha)
theorem X_end {K : Fr → World → Prop} (keep : List Nat) {F' : Fr} (hF : prune keep F = F') (h : K F' w) : OX ρ P n ops (thenF K Q) [] F w := fun _ ha => wpListIn_nil ⟨F', hF ▸ ha.prune keep, h⟩
theorem X_endN (keep : List Nat) {F' : Fr} (hF : prune keep F = F') (h : Q .normal F' w) : OX ρ P n ops Q [] F w := fun _ ha => wpListIn_nil ⟨F', hF ▸ ha.prune keep, h⟩
theorem X_go (hw : Wd n F ops o) (hnd : isDef o = false) (h : St P n F o w (fun F' w' => OX ρ P n ops Q rest F' w')) : OX ρ P n ops Q (o :: rest) F w := by
  intro a ha
  refine wpListIn_step fun K hK => ?_
  rw [if_pos (hw a ha)]
  refine wpIn_of_wp hnd (h a ha) ?_
  rintro a' w' ⟨F', hr, _, hO⟩
  exact hK _ _ (hO _ hr)
theorem X_no {j t : Nat} {b b' : Bool} (hg : o.guard = some (j, b)) (hd : o.dst = some d) (hn : Nat.blt d n = true) (ht : (ops[j]?).bind (·.dst) = some t) (hv : get F t = some (.bool b'))
    (hne : b' = !b) (h : OX ρ P n ops Q rest ((d, undef) :: F) w) : OX ρ P n ops Q (o :: rest) F w := by
  intro a ha
  have hw : Region.wanted o (yielded ops a.tmps) = false := by
    subst hne
    simp [Region.wanted, hg, yielded, ht, ha.get t _ hv]
  refine wpListIn_step fun K hK => ?_
  rw [if_neg (by simp [hw]), hd]
  exact ⟨fun _ _ => trivial, hK _ _ (h _ (ha.put hn undef))⟩
theorem X_un {j t : Nat} {b : Bool} (hg : o.guard = some (j, b)) (hd : o.dst = some d) (hn : Nat.blt d n = true) (ht : (ops[j]?).bind (·.dst) = some t) (hv : get F t = some undef) (h : OX ρ P n ops Q rest ((d, undef) :: F) w) : OX ρ P n ops Q (o :: rest) F w := by
  intro a ha
  have hw : Region.wanted o (yielded ops a.tmps) = false := by
    simp [Region.wanted, hg, yielded, ht, ha.get t _ hv, undef]
  refine wpListIn_step fun K hK => ?_
  rw [if_neg (by simp [hw]), hd]
  exact ⟨fun _ _ => trivial, hK _ _ (h _ (ha.put hn undef))⟩
end
end Go.Wk

namespace Go.Wk

/-- What a round keeps: what lay ahead of the loop, but for the boxes that the body writes. -/
def Kp (S : List Nat) (B : Nat) (W W' : World) : Prop := W.heap.size ≤ W'.heap.size ∧ ∀ k, k < B → k ∉ S → W'.heap[k]? = W.heap[k]?
theorem Kp.trans {S : List Nat} {B : Nat} {W1 W2 W3 : World} (h : Kp S B W1 W2) (k : Kp S B W2 W3) : Kp S B W1 W3 := ⟨Nat.le_trans h.1 k.1, fun i hi hs => (k.2 i hi hs).trans (h.2 i hi hs)⟩

/-- How a round may end. -/
def postR {α : Type} (S0 : List Nat) (I : List α → World → Prop) (Ix : Code → List α → World → Prop) (xs : List α) (W : World) : Exit → Fr → World → Prop
  | .normal, _, W' => Chg S0 W W' ∧ I xs W'
  | .ret, _, W' => Chg S0 W W' ∧ Ix .ret xs W'
  | .exit id, _, W' => Chg S0 W W' ∧ Ix (.exit id) xs W'
  | _, _, _ => False

section
variable {P : Program} {n : Nat} {Q : Exit → Fr → World → Prop} {F : Fr} {w : World}
theorem W_range {α : Type} {g : Operand} {ps : Array Tmp} {assign body : Code} {gf : FuncId} {lb : List Value} {encs : α → Array Value} {S Sp : List α → Prop} {N : Nat} (S0 : List Nat) (I : List α → World → Prop) (Ix : Code → List α → World → Prop) (F1 Fx : α → Fr)
    (hg : ev F g = some (.func (.func gf) #[] lb.toArray)) (hb : bodied P gf = true) (hS0 : ∀ b ∈ S0, b < w.heap.size)
    (hseq : SeqStopsK Fence.wide 2 P gf lb.toArray encs (Kp S0 w.heap.size) S Sp N w) (hps : ∀ x, (encs x).size = ps.size)
    (hI : ∀ pre W W' T, (∀ b ∈ T, w.heap.size ≤ b) → Chg T W W' → I pre W → I pre W') (hIx : ∀ c pre W W' T, (∀ b ∈ T, w.heap.size ≤ b) → Chg T W W' → Ix c pre W → Ix c pre W') (h0 : I [] w) (hsz : ∀ pre W, I pre W → w.heap.size ≤ W.heap.size)
    (hF1 : ∀ x a, Rep n F a → Rep n (F1 x) { tmps := (ps.zip (encs x)).foldl (fun t (p, v) => t.setIfInBounds p v) a.tmps, defers := [] })
    (hasg : ∀ l x W, WX (some l) P n assign (fun e F' W' => e = .normal ∧ F' = Fx x ∧ W' = W) (F1 x) W)
    (hbody : ∀ l pre x W, I pre W → pre.length < N → WX (some l) P n body (postR S0 I Ix (pre ++ [x]) W) (Fx x) W)
    (hdone : ∀ (D : Nat) (xs : List α) (W : World), w.heap.size ≤ D → S xs → I xs W → W.heap[D]? = some (.deferred (some [])) → Q .normal ((1000000, .int .i64 D) :: F) W)
    (hstop : ∀ (D : Nat) (c : Code) (pre : List α) (W' : World), w.heap.size ≤ D → Sp pre → Ix c pre W' → W'.heap[D]? = some (.deferred (some [])) → W P n c Q ((1000000, .int .i64 D) :: F) W') :
    W P n (.rangeFunc g ps assign body) Q F w := by
  intro a ha
  refine (wpIn_wide (n := 3)).1 ?_
  have eg : ∀ (args : Array Value) (w : World), (callFunc gf args).run P w = .ok (.enter gf args) w := by
    intro args w
    unfold bodied at hb
    split at hb
    · rename_i fn hfn
      simp only [Bool.and_eq_true, Bool.not_eq_true'] at hb
      have h1 : ¬ fn.body = none := by cases hx : fn.body <;> simp_all
      have h2 : ¬ fn.name = "runtime.NumGoroutine" := by simpa using hb.2
      simp [callFunc, hfn, h1, h2]
    · simp at hb
  have toChg : ∀ {W W' : World} {row : Option Nat}, W.grownBy W' row → Chg row.toList W W' := fun hg => ⟨hg.os, hg.tape, hg.output, hg.size, fun k hk hn => hg.block k hk (fun e => hn (by rw [← e]; simp))⟩
  have rowOk : ∀ {row : Option Nat} {W : World}, (∀ r, row = some r → w.heap.size ≤ r ∧ ∃ o : Obj, W.heap[r]? = some o ∧ o.isCells = false) → ∀ b ∈ row.toList, w.heap.size ≤ b := by
    intro row W hr b hb
    cases row with
    | none => simp at hb
    | some r => simp at hb; subst hb; exact (hr _ rfl).1
  have kf : ∀ {W W' : World}, Chg S0 W W' → KeepsFrom w.heap.size W W' := fun hc => ⟨hc.size, fun k o hB hk _ => (hc.block k (Array.getElem?_eq_some_iff.1 hk).1 (fun hm => by have := hS0 k hm; omega)).trans hk⟩
  refine wpIn_rangeFunc_ownH (F := Fence.wide) (n := 3) rfl (by omega) (gf := gf) (lb := lb.toArray) (ha.eval hg) trivial eg hseq
    (fun h k => Kp.trans h k) ?_ (Go.RowKit.Below.refl _ _) hps I Ix ?_ ?_ h0 (fun x a' _ => Rep n (Fx x) a') (fun _ _ _ _ _ _ hs _ _ => hs) ?_ ?_ ?_ ?_
  · intro W l o o' hl _ _ _
    exact ⟨by simp [World.putObj], fun k hk _ => World.putObj_heap_other (by omega)⟩
  · intro s W W' row hs hgr hr
    exact hI s W W' _ (rowOk hr) (toChg hgr) hs
  · intro c s W W' row hs hgr hr
    exact hIx c s W W' _ (rowOk hr) (toChg hgr) hs
  · intro l pre x W K hi hK
    refine wpIn_mono (hasg l x W _ (hF1 x a ha)) ?_
    rintro e a' W' ⟨F', hr, rfl, rfl, rfl⟩
    exact hK a' W' (KeepsFrom.refl _ _) ⟨Nat.le_refl _, fun _ _ _ => rfl⟩ hi hr
  · intro l pre x a' W _ _ hi hA hlen
    refine wpIn_mono (hbody l pre x W hi hlen _ hA) ?_
    rintro e a1 W' ⟨F', hr, hq⟩
    cases e <;> simp only [postR] at hq
    case normal => exact ⟨kf hq.1, ⟨hq.1.size, fun k hk hs => by
      rcases Nat.lt_or_ge k W.heap.size with h' | h'
      · exact hq.1.block k h' hs
      · have := hsz pre W hi; omega⟩, hq.2⟩
    case ret => exact ⟨kf hq.1, hq.2⟩
    case exit id => exact ⟨kf hq.1, hq.2⟩
  · intro D xs W hD hS hi hK
    exact ⟨_, ha.mark D, hdone D xs W hD hS hi hK⟩
  · intro D c pre W' hD hS hi hK
    exact wpIn_wide.2 (hstop D c pre W' hD hS hi hK _ (ha.mark D))
end
end Go.Wk

namespace Go.Wk

theorem roundIn_wide {ρ : Option Nat} {m k : Nat} {P : Program} {l : Nat} {f : FuncId} {tmps : Array Value} {assign body : Code} {w : World} {R : Ending → World → Prop} (h : RoundIn Fence.wide m P l f tmps assign body w R) : RoundIn (fz ρ) k P l f tmps assign body w R :=
  ⟨trivial, fun c cs _ => h.2 c cs (room_wide _)⟩

section
variable {P : Program} {n : Nat} {Q : Exit → Fr → World → Prop} {F : Fr} {w : World} {ops : Array Oper} {rest : List Oper} {d : Nat} {ty : TypeId} {pos : String} {af : Array Edge} {gd : Option (Nat × Bool)}
theorem X_yield {ρ : Option Nat} {f : Operand} {as : List Operand} {ts : Array TypeId} {l m : Nat} {vs : List Value} {R : Ending → World → Prop} (hw : Wd n F ops ⟨some d, .call { callee := .value f, args := as.toArray, argTypes := ts }, ty, pos, af, gd⟩) (hf : ev F f = some (.func (.yield l) #[] #[])) (ha : evs F as = some vs) (hn : Nat.blt d n = true)
    (hy : YieldAt Fence.wide m P l vs.toArray w R) (hR : ∀ e w', R e w' → ∃ v, e = .returned v ∧ OX ρ P n ops Q rest ((d, v) :: F) w') :
    OX ρ P n ops Q (⟨some d, .call { callee := .value f, args := as.toArray, argTypes := ts }, ty, pos, af, gd⟩ :: rest) F w := by
  intro a hr
  refine wpListIn_step fun K hK => ?_
  rw [if_pos (hw a hr)]
  obtain ⟨fn, tmps, assign, body, hrun, hround⟩ := hy
  refine ⟨fun _ _ => trivial, ?_⟩
  rw [Oper.semAt_eq _ _ _ (fun c e => by cases e)]
  have hx : (execOp a.eval ⟨some d, .call { callee := .value f, args := as.toArray, argTypes := ts }, ty, pos, af, gd⟩).run P w = .ok (.round l fn tmps assign body) w := by
    simp [execOp, resolve, hr.eval hf, Deferred.ofValue, hr.evals as vs ha, invoke, hrun]
  rw [hx]
  refine ⟨fun e => by simp [fz, Fence.wide] at e, ?_⟩
  refine RoundIn.mono (roundIn_wide hround) ?_
  intro e w' he
  obtain ⟨v, rfl, hO⟩ := hR e w' he
  exact hK _ _ (hO _ (hr.put hn v))
end

theorem CallsIn.of_WX {P : Program} {f : FuncId} {fn : Func} {c : Code} {args : List Value} {w : World} {R : Value → World → Prop} {n m : Nat} {F : Fr}
    (hf : P.funcs[f]? = some fn) (hb : fn.body = some c) (hn : fn.ntmps = n) (hl : Nat.ble args.length n = true) (hF : frameOf 0 args = F)
    (h : WX none P n c (retF P fn R n) F w) (hk : Nat.ble n 1000000 = true := by rfl) : CallsIn Fence.wide m P f args.toArray w fun e w' => ∃ v, e = .returned v ∧ R v w' := by
  subst hF hn
  refine (callsIn_wide (n := m)).2 ((callsIn_wide (n := 1)).1 ?_)
  refine callsIn_of_wp hf hb trivial ?_
  refine wpIn_mono (h _ (Rep.frameOf hl (Nat.le_of_ble_eq_true hk))) ?_
  rintro e a w' ⟨F', hr', hq⟩
  cases e <;> simp only [retF] at hq
  case normal => obtain ⟨v, hv, hm, hR⟩ := hq; exact ⟨hr'.defers.trans hm, v, hv _ hr', v, rfl, hR⟩
  case ret => obtain ⟨v, hv, hm, hR⟩ := hq; exact ⟨hr'.defers.trans hm, v, hv _ hr', v, rfl, hR⟩

section
variable {P : Program} {n : Nat} {Q : Exit → Fr → World → Prop} {F : Fr} {w : World}
theorem WX_of_W {c : Code} (h : W P n c Q F w) : WX none P n c Q F w := fun a ha => wpIn_wide.2 (h a ha)
/-- A region with a call of yield, outside of rounds. -/
theorem W_regionX {id : Nat} {l : List Oper} (h : OX none P n l.toArray Q l F w) : W P n (.region id l.toArray false) Q F w := fun a ha => (wpIn_wide (n := 1)).1 (wpIn_region_lit (h a ha))
end
end Go.Wk

namespace Go.Wk

section
variable {P : Program} {n : Nat} {F : Fr} {w : World} {d : Tmp} {ty t e : TypeId} {k by' : Nat} {z : Value} {pos : String} {af : Array Edge} {gd : Option (Nat × Bool)} {K : Fr → World → Prop}
theorem one_made (A : App P t e k by' z) (m : Nat) : ∀ u ∈ (madeCells z.cells (m * k)).toList, u.oneCell' = true := by
  intro u hu
  have hk : 0 < z.cells.size := by rw [A.zs]; exact A.pos
  simp only [madeCells, Array.toList_map, List.mem_map] at hu
  obtain ⟨i, _, rfl⟩ := hu
  have hlt : i % z.cells.size < z.cells.size := Nat.mod_lt _ hk
  rw [getElem!_pos z.cells _ hlt]
  exact A.zo _ (Array.getElem_mem hlt)
theorem made_one {z : Value} (hz : z.cells = #[z]) (m : Nat) : (madeCells z.cells (m * 1)).toList = List.replicate m z := by
  rw [hz]
  unfold madeCells
  apply List.ext_getElem
  · simp
  · intro i h1 h2
    simp [Nat.mod_one]

theorem st_makeLC (A : App P t e k by' z) {x y : Operand} {kl kc : IntKind} {i j : Int} {l m : Nat} (hx : ev F x = some (.int kl i)) (hy : ev F y = some (.int kc j)) (hi : i = (l : Int)) (hj : j = (m : Int)) (hlm : l ≤ m) (hmax : m ≤ maxLen) (hbytes : m * by' ≤ 140737488355328) (hn : Nat.blt d n = true)
    (h : ∀ b w', w.heap.size = b → w'.heap.size = b + 1 → Chg [] w w' → Blk w' b e (madeCells z.cells (m * k)).toList → K ((d, .slice (some ⟨b, 0, none⟩) l m) :: F) w') :
    St P n F ⟨some d, .makeSlice t x y, ty, pos, af, gd⟩ w K := by
  subst hi hj
  obtain ⟨inf, hi, hk, hb, hz⟩ := A.info
  have hund := slOf_und A.sl
  have hm63 : (m : Int) ≤ 9223372036854775807 := by simp only [maxLen] at hmax; omega
  have hb' : (inf.bytes : Int) * (m : Int) ≤ 281474976710656 := by
    have h0 : inf.bytes * m ≤ 281474976710656 := by rw [hb, Nat.mul_comm]; omega
    have h1 : ((inf.bytes * m : Nat) : Int) ≤ 281474976710656 := by omega
    rwa [Int.natCast_mul] at h1
  have hr := run_make (P := P) w t e inf z hund hi hz kl kc l m (by omega) (by omega) hb' hm63
  simp only [Int.toNat_natCast, hk] at hr
  refine St.vl (v := .slice (some ⟨w.heap.size, 0, none⟩) l m) (w' := w.alloc (.cells (madeCells z.cells (m * k)) e)) ?_ rfl hn (h _ _ rfl (by simp) (Chg.alloc _ _ _) (by simpa using Blk.new w e (madeCells z.cells (m * k)).toList))
  intro a ha
  simp [execOp, ha.eval hx, ha.eval hy, hr]
end

section
variable {P : Program} {n : Nat} {F : Fr} {w : World} {dst : Option Tmp} {ty t u e : TypeId} {pos : String} {af : Array Edge} {gd : Option (Nat × Bool)}
theorem itOf_und {k : IntKind} (h : itOf P t k = true) : P.underlying t = some (.int k) := by unfold itOf at h; split at h <;> simp_all
/-- string(b) of bytes. -/
theorem vl_bytes {x : Operand} {b off c len : Nat} {l : List UInt8} (hs : slOf P t = some e) (he : itOf P e .u8 = true) (hu : stOf P u = true) (hx : ev F x = some (.slice (some ⟨b, off, none⟩) len c)) (hl : len = l.length) (hc : Cells w b off (l.map fun x => .int .u8 (x.toNat : Int))) :
    Vl P n F ⟨dst, .convert t u x, ty, pos, af, gd⟩ w (.string ⟨l.toArray⟩) w := by
  intro a ha
  subst hl
  have hr := run_convert_bytes_back (P := P) w t u e ⟨b, off, none⟩ c l (slOf_und hs) (itOf_und he) (stOf_und hu) (fun j hj => by rw [Addr.add_lit]; exact hc j _ (by simp [hj]))
  simp [execOp, ha.eval hx, hr]
end

section
variable {P : Program} {fn : Func} {R : Value → World → Prop} {n : Nat} {F : Fr} {w : World}
/-- Two marks are left behind. -/
theorem retM2 {t ty D E : Nat} {p : Addr} {v : Value} (hr : fn.results = #[.cell t ty]) (hag : agOf P ty = some false) (hv : get F t = some (.pointer (some p))) (hm : marks F = [mkD D, mkD E]) (hne : D ≠ E) (hD : w.heap[D]? = some (.deferred (some []))) (hE : w.heap[E]? = some (.deferred (some [])))
    (h : ∀ w', Chg [D, E] w w' → w'.cell? p = some v ∧ R v w') : retFM P fn R n .ret F w := by
  have hc : Chg [D, E] w ((w.putObj D (.deferred none)).putObj E (.deferred none)) :=
    ((Chg.put w D (.deferred none)).weak (by simp)).transS ((Chg.put _ E (.deferred none)).weak (by simp))
  have hh := h _ hc
  refine ⟨v, _, by rw [hm]; exact ⟨D, rfl, hD, E, rfl, ((Chg.put w D (.deferred none)).block E (Array.getElem?_eq_some_iff.1 hE).1 (by simpa using hne.symm)).trans hE, rfl⟩, fun a ha => ?_, hh.2⟩
  simp [results, hr, ha.get t _ hv, asAddr, loadVar, run_isAgg hag, hh.1]
end

/-- A frame without its marks. -/
def nomark : Fr → Fr
  | [] => []
  | (j, v) :: F => bif Nat.ble 1000000 j then nomark F else (j, v) :: nomark F
theorem get_nomark : ∀ (F : Fr) (i : Nat) (v : Value), get (nomark F) i = some v → Nat.ble 1000000 i = false ∧ get F i = some v
  | [], i, v, h => by simp [nomark, get] at h
  | (j, u) :: F, i, v, h => by
    simp only [nomark] at h
    cases hj : Nat.ble 1000000 j with
    | true =>
      rw [hj] at h
      obtain ⟨h1, h2⟩ := get_nomark F i v h
      refine ⟨h1, ?_⟩
      rw [get_cons_ne _ _ _ _ (fun e => by subst e; rw [hj] at h1; cases h1)]
      exact h2
    | false =>
      rw [hj] at h
      by_cases e : i = j
      · subst e
        refine ⟨hj, ?_⟩
        rw [cond_false, get_cons_self _ _ _ hj] at h
        rw [get_cons_self _ _ _ hj]
        exact h
      · rw [cond_false, get_cons_ne _ _ _ _ e] at h
        rw [get_cons_ne _ _ _ _ e]
        exact get_nomark F i v h
theorem marks_nomark : ∀ F : Fr, marks (nomark F) = []
  | [] => rfl
  | (j, v) :: F => by
    simp only [nomark]
    cases hj : Nat.ble 1000000 j with
    | true => exact marks_nomark F
    | false => rw [cond_false, marks_put hj]; exact marks_nomark F
theorem Rep.nomark {n : Nat} {F : Fr} {a : Act} (h : Rep n F a) : Rep n (nomark F) { tmps := a.tmps, defers := [] } :=
  ⟨h.lt, h.size, (marks_nomark F).symm, fun i v hi => h.get i v (get_nomark F i v hi).2⟩
theorem Rep.vars2 {n : Nat} {F F1 : Fr} {a : Act} (h : Rep n F a) {p q : Nat} {u v : Value} (hp : Nat.blt p n = true) (hq : Nat.blt q n = true) (hF : (q, v) :: (p, u) :: Wk.nomark F = F1) :
    Rep n F1 { tmps := ((#[p, q] : Array Tmp).zip #[u, v]).foldl (fun t (p, v) => t.setIfInBounds p v) a.tmps, defers := [] } := by
  subst hF
  have := (h.nomark.put hp u).put hq v
  simpa [Act.put] using this
theorem Rep.vars0 {n : Nat} {F F1 : Fr} {a : Act} (h : Rep n F a) (hF : Wk.nomark F = F1) :
    Rep n F1 { tmps := ((#[] : Array Tmp).zip #[]).foldl (fun t (p, v) => t.setIfInBounds p v) a.tmps, defers := [] } := by
  subst hF
  simpa using h.nomark
end Go.Wk
