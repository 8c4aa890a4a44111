/-
  Slices as lists of cells; append, copy, clear; what is built of parts.
-/
import Derived.Test.YthbahcjkncfpdaaEngU
namespace Go.Wk

/-- v is a slice of len elements (of k cells each, of type e) that reads xs. -/
structure SlAt (w : World) (e k : Nat) (b off len cap : Nat) (c xs : List Value) : Prop where
  blk : Blk w b e c
  le : len ≤ cap
  max : cap ≤ maxLen
  fit : off + cap * k ≤ c.length
  xs : xs = (c.drop off).take (len * k)
  one : ∀ u ∈ c, u.oneCell' = true

def IsSl (w : World) (e k : Nat) (v : Value) (len : Nat) (xs : List Value) : Prop :=
  (v = .slice none 0 0 ∧ len = 0 ∧ xs = []) ∨ ∃ b off cap c, v = .slice (some ⟨b, off, none⟩) len cap ∧ SlAt w e k b off len cap c xs

def blkOf : Value → List Nat
  | .slice (some a) _ _ => [a.block]
  | _ => []

theorem SlAt.len_xs {w : World} {e k b off len cap : Nat} {c xs : List Value} (h : SlAt w e k b off len cap c xs) : xs.length = len * k := by
  have h1 := h.fit
  have h2 : len * k ≤ cap * k := Nat.mul_le_mul_right _ h.le
  rw [h.xs, List.length_take, List.length_drop]
  omega
theorem SlAt.one_xs {w : World} {e k b off len cap : Nat} {c xs : List Value} (h : SlAt w e k b off len cap c xs) : ∀ u ∈ xs, u.oneCell' = true := by
  intro u hu
  rw [h.xs] at hu
  exact h.one u (List.mem_of_mem_drop (List.mem_of_mem_take hu))
theorem SlAt.cells {w : World} {e k b off len cap : Nat} {c xs : List Value} (h : SlAt w e k b off len cap c xs) : Cells w b off xs :=
  Cells.of_blk h.blk off xs (by rw [h.xs]; exact List.take_prefix _ _)
theorem SlAt.chg {S : List Nat} {w w' : World} {e k b off len cap : Nat} {c xs : List Value} (h : SlAt w e k b off len cap c xs) (hc : Chg S w w') (hb : b ∉ S) : SlAt w' e k b off len cap c xs :=
  ⟨h.blk.chg hc hb, h.le, h.max, h.fit, h.xs, h.one⟩

theorem IsSl.nil (w : World) (e k : Nat) : IsSl w e k (.slice none 0 0) 0 [] := .inl ⟨rfl, rfl, rfl⟩
theorem IsSl.len_xs {w : World} {e k : Nat} {v : Value} {len : Nat} {xs : List Value} (h : IsSl w e k v len xs) : xs.length = len * k := by
  rcases h with ⟨_, rfl, rfl⟩ | ⟨b, off, cap, c, _, h⟩
  · simp
  · exact h.len_xs
theorem IsSl.one_xs {w : World} {e k : Nat} {v : Value} {len : Nat} {xs : List Value} (h : IsSl w e k v len xs) : ∀ u ∈ xs, u.oneCell' = true := by
  rcases h with ⟨_, rfl, rfl⟩ | ⟨b, off, cap, c, _, h⟩
  · simp
  · exact h.one_xs
theorem IsSl.val {w : World} {e k : Nat} {v : Value} {len : Nat} {xs : List Value} (h : IsSl w e k v len xs) : ∃ p c, v = .slice p len c ∧ len ≤ c := by
  rcases h with ⟨rfl, rfl, _⟩ | ⟨b, off, cap, c, rfl, h⟩
  · exact ⟨_, _, rfl, Nat.le_refl _⟩
  · exact ⟨_, _, rfl, h.le⟩
theorem IsSl.chg {S : List Nat} {w w' : World} {e k : Nat} {v : Value} {len : Nat} {xs : List Value} (h : IsSl w e k v len xs) (hc : Chg S w w') (hb : ∀ b ∈ blkOf v, b ∉ S) : IsSl w' e k v len xs := by
  rcases h with h | ⟨b, off, cap, c, rfl, h⟩
  · exact .inl h
  · exact .inr ⟨b, off, cap, c, rfl, h.chg hc (hb b (by simp [blkOf]))⟩
theorem IsSl.chg0 {w w' : World} {e k : Nat} {v : Value} {len : Nat} {xs : List Value} (h : IsSl w e k v len xs) (hc : Chg [] w w') : IsSl w' e k v len xs := h.chg hc (by simp)
theorem IsSl.lt {w : World} {e k : Nat} {v : Value} {len : Nat} {xs : List Value} (h : IsSl w e k v len xs) : ∀ b ∈ blkOf v, b < w.heap.size := by
  rcases h with ⟨rfl, _⟩ | ⟨b, off, cap, c, rfl, h⟩
  · simp [blkOf]
  · intro b' hb'
    simp [blkOf] at hb'
    subst hb'
    exact h.blk.lt
/-- A block of another type is none of the slice's. -/
theorem IsSl.apart {w : World} {e k : Nat} {v : Value} {len : Nat} {xs : List Value} (h : IsSl w e k v len xs) {b : Nat} {e' : TypeId} {c : List Value} (hb : Blk w b e' c) (hne : Nat.beq e e' = false) : ∀ x ∈ blkOf v, x ∉ [b] := by
  rcases h with ⟨rfl, _⟩ | ⟨b', off, cap, c', rfl, h⟩
  · simp [blkOf]
  · intro x hx
    simp [blkOf] at hx
    subst hx
    simpa using h.blk.ne hb hne

/-- An element that is one cell. -/
theorem IsSl.at1 {w : World} {e : Nat} {v : Value} {len : Nat} {xs : List Value} (h : IsSl w e 1 v len xs) {i : Nat} (hi : i < len) : ∃ b off cap u, v = .slice (some ⟨b, off, none⟩) len cap ∧ xs[i]? = some u ∧ w.cell? ⟨b, off + i * 1, none⟩ = some u := by
  rcases h with ⟨_, rfl, _⟩ | ⟨b, off, cap, c, rfl, h⟩
  · omega
  · have hl := h.len_xs
    have : i < xs.length := by omega
    refine ⟨b, off, cap, xs[i], rfl, by simp [this], ?_⟩
    rw [Nat.mul_one]
    exact h.cells i _ (by simp [this])
/-- An element of several cells. -/
theorem IsSl.atk {w : World} {e k : Nat} {v : Value} {len : Nat} {xs : List Value} (h : IsSl w e k v len xs) {i : Nat} (hi : i < len) : ∃ b off cap, v = .slice (some ⟨b, off, none⟩) len cap ∧ Cells w b (off + i * k) ((xs.drop (i * k)).take k) := by
  rcases h with ⟨_, rfl, _⟩ | ⟨b, off, cap, c, rfl, h⟩
  · omega
  · refine ⟨b, off, cap, rfl, fun j u hj => ?_⟩
    have h1 : xs[i * k + j]? = some u := by
      rw [List.getElem?_take] at hj
      split at hj
      · simpa using hj
      · cases hj
    have := h.cells (i * k + j) u h1
    rw [← this]
    congr 2
    omega

/-! ### append -/
section
variable {P : Program} {w : World} {t t2 ty e : TypeId} {k by' : Nat} {z : Value}

theorem run_first {v : Value} {len : Nat} {xs : List Value} (h : IsSl w e k v len xs) : (Builtin.firstCells k len v).run P w = .ok xs.toArray w := by
  rcases h with ⟨rfl, rfl, rfl⟩ | ⟨b, off, cap, c, rfl, h⟩
  · simp [Builtin.firstCells]
  · exact run_firstCells_some w k len ⟨b, off, none⟩ len cap xs h.len_xs (fun j v hv => by rw [Addr.add_lit]; exact h.cells j v hv)

theorem run_lenOf {v : Value} {len : Nat} {xs : List Value} (h : IsSl w e k v len xs) : (Builtin.lenOf v).run P w = .ok len w := by
  obtain ⟨p, c, rfl, _⟩ := h.val
  simp [Builtin.lenOf]

theorem oneCell_zero (z : Value) (n : Nat) (hz : ∀ u ∈ z.cells, u.oneCell' = true) : ∀ u ∈ (Builtin.zeroCells z.cells n).toList, u.oneCell' = true := by
  intro u hu
  simp only [Builtin.zeroCells, Array.mem_toList_iff, Array.mem_map] at hu
  obtain ⟨i, hi, rfl⟩ := hu
  have hi' : i < n * z.cells.size := by simpa using hi
  have hp : 0 < z.cells.size := by
    rcases Nat.eq_zero_or_pos z.cells.size with h | h
    · rw [h] at hi'; simp at hi'
    · exact h
  have hlt : i % z.cells.size < z.cells.size := Nat.mod_lt _ hp
  rw [getElem!_pos z.cells _ hlt]
  exact hz _ (Array.getElem_mem hlt)

/-- The bundle of closed facts that an append wants. -/
structure App (P : Program) (t e k by' : Nat) (z : Value) : Prop where
  sl : slOf P t = some e
  sz : szOf P e = some k
  zr : zrOf P e = some z
  by' : byOf P e = some by'
  zs : z.cells.size = k
  zo : ∀ u ∈ z.cells, u.oneCell' = true
  pos : 0 < k

theorem App.info (A : App P t e k by' z) : ∃ i, P.info? e = some i ∧ i.size = k ∧ i.bytes = by' ∧ i.zero = some z := by
  have h1 := A.sz
  have h2 := A.by'
  have h3 := A.zr
  unfold szOf at h1
  unfold byOf at h2
  unfold zrOf at h3
  cases hi : P.info? e with
  | none => simp [hi] at h1
  | some i => simp [hi] at h1 h2 h3; exact ⟨i, rfl, h1, h2, h3⟩

/-- What append comes to: v' reads what both read; of v's block only what lies behind v's cells may have turned. -/
theorem run_append (A : App P t e k by' z) {e2 : TypeId} (ht2 : slOf P t2 = some e2) {v s : Value} {n m : Nat} {xs ys : List Value} (hv : IsSl w e k v n xs) (hs : IsSl w e k s m ys) (h63 : n + m ≤ maxLen) (hbytes : (n + m) * by' ≤ 140737488355328) :
    ∃ v' w', (Builtin.append_ #[t, t2] ty #[v, s]).run P w = .ok v' w' ∧ IsSl w' e k v' (n + m) (xs ++ ys) ∧ Chg (blkOf v) w w' ∧ (blkOf v' = blkOf v ∨ ∃ b, blkOf v' = [b] ∧ w.heap.size ≤ b) ∧
      (v' = .slice none 0 0 ↔ v = .slice none 0 0 ∧ m = 0) := by
  obtain ⟨i, hi, hk, hb, hz⟩ := A.info
  have hund := slOf_und A.sl
  have hund2 := slOf_und ht2
  have hlx := hv.len_xs
  have hly := hs.len_xs
  have hm63 : n + m ≤ 9223372036854775807 := by simp only [maxLen] at h63; omega
  have hls := run_lenOf (P := P) hs
  have hfs := run_first (P := P) hs
  have hfs' : ∀ w1 : World, w1.heap = w.heap → (Builtin.firstCells k m s).run P w1 = .ok ys.toArray w1 := fun w1 h1 => by
    refine run_first (w := w1) (e := e) ?_
    rcases hs with hs | ⟨b, off, cap, c, rfl, hs⟩
    · exact .inl hs
    · exact .inr ⟨b, off, cap, c, rfl, ⟨by unfold Blk; rw [h1]; exact hs.blk, hs.le, hs.max, hs.fit, hs.xs, hs.one⟩⟩
  -- the new block
  have grown : ∀ old, n + m > old → ∀ S, IsSl (w.drew.alloc (.cells (xs.toArray ++ ys.toArray ++ Builtin.zeroCells z.cells (grownCap w (n + m) old e - (n + m))) e)) e k
        (.slice (some ⟨w.heap.size, 0, none⟩) (n + m) (grownCap w (n + m) old e)) (n + m) (xs ++ ys) ∧
      Chg S w (w.drew.alloc (.cells (xs.toArray ++ ys.toArray ++ Builtin.zeroCells z.cells (grownCap w (n + m) old e - (n + m))) e)) := by
    intro old _ S
    have hge := grownCap_ge w (n + m) old e
    have hcm := grownCap_le_maxLen w (n + m) old e h63
    refine ⟨.inr ⟨w.heap.size, 0, _, xs ++ ys ++ (Builtin.zeroCells z.cells (grownCap w (n + m) old e - (n + m))).toList, rfl, ?_, hge, hcm, ?_, ?_, ?_⟩, (Chg.drew S w).transS (Chg.alloc S _ _)⟩
    · show (w.drew.heap.push _)[w.heap.size]? = _
      rw [show w.heap.size = w.drew.heap.size from rfl, Array.getElem?_push_size]
      simp
    · simp only [List.length_append, hlx, hly, Array.length_toList, size_zeroCells, A.zs, ← Nat.add_mul, Nat.zero_add]
      rw [Nat.add_sub_cancel' hge]
      exact Nat.le_refl _
    · rw [List.drop_zero, List.take_left' (by simp [hlx, hly, Nat.add_mul])]
    · intro u hu
      simp only [List.mem_append] at hu
      rcases hu with (hu | hu) | hu
      · exact hv.one_xs u hu
      · exact hs.one_xs u hu
      · exact oneCell_zero z _ A.zo u hu
  have hzero : ∀ w1 : World, (zeroValue e).run P w1 = .ok z w1 := fun w1 => run_zero A.zr
  rcases hv with ⟨rfl, rfl, rfl⟩ | ⟨g, off, cap, c, rfl, hv⟩
  · by_cases hm : m = 0
    · subst hm
      have hy : ys = [] := List.eq_nil_of_length_eq_zero (by simpa using hly)
      subst hy
      refine ⟨.slice none 0 0, w, ?_, IsSl.nil _ _ _, Chg.refl _ _, .inl rfl, by simp⟩
      simp [Builtin.append_, run_underlying hund, run_underlying hund2, run_sizeOf A.sz, hls, hfs]
    · have h0 : ¬ (0 + m ≤ 0) := by omega
      have h63' : ¬ (9223372036854775807 < (m : Int)) := by omega
      have h48' : ¬ (281474976710656 < Builtin.nextslicecap m 0 * i.bytes) := by
        have := growslice_fits (need := m) (old := 0) (bytes := by') (by omega) (by simpa using hbytes)
        rw [hb]; omega
      have hgr := grown 0 (by omega) []
      refine ⟨_, _, ?_, hgr.1, hgr.2, .inr ⟨w.heap.size, rfl, Nat.le_refl _⟩, by simp [hm]⟩
      have hfd := hfs' w.drew rfl
      simp [Builtin.append_, run_underlying hund, run_underlying hund2, run_sizeOf A.sz, hls, typeInfo, hi, hm, h63', h48', Question.forced, run_firstCells_none, hfd, hzero, newRow, grownCap]
  · by_cases hroom : n + m ≤ cap
    · have hfit := hv.fit
      have hcap : (n + m) * k ≤ cap * k := Nat.mul_le_mul_right _ hroom
      have hfit2 : off + n * k + ys.length ≤ c.length := by rw [hly]; rw [Nat.add_mul] at hcap; omega
      have hst := run_stores (P := P) (off := off + n * k) (vs := ys) hv.blk hfit2 hs.one_xs
      refine ⟨.slice (some ⟨g, off, none⟩) (n + m) cap, w.setRow g (laid c (off + n * k) ys).toArray, ?_, .inr ⟨g, off, cap, laid c (off + n * k) ys, rfl, hv.blk.row _, hroom, hv.max, ?_, ?_, ?_⟩, (Chg.row _ _ _), .inl rfl, by simp⟩
      · simp [Builtin.append_, run_underlying hund, run_underlying hund2, run_sizeOf A.sz, hls, hroom, hfs, Addr.add_lit, hst]
      · simp only [laid, List.length_append, List.length_take, List.length_drop]
        omega
      · have e1 : (laid c (off + n * k) ys).drop off = xs ++ ys ++ c.drop (off + n * k + ys.length) := by
          unfold laid
          rw [List.append_assoc, List.drop_append_of_le_length (by rw [List.length_take]; omega), List.drop_take, ← List.append_assoc]
          rw [show off + n * k - off = n * k by omega, ← hv.xs]
        rw [e1, List.take_left' (by simp [hlx, hly, Nat.add_mul])]
      · intro u hu
        simp only [laid, List.mem_append] at hu
        rcases hu with (hu | hu) | hu
        · exact hv.one u (List.mem_of_mem_take hu)
        · exact hs.one_xs u hu
        · exact hv.one u (List.mem_of_mem_drop hu)
    · have h0 : ¬ (n + m ≤ cap) := hroom
      have h63' : ¬ (9223372036854775807 < ((n : Int) + (m : Int))) := by omega
      have h48' : ¬ (281474976710656 < Builtin.nextslicecap (n + m) cap * i.bytes) := by
        have := growslice_fits (need := n + m) (old := cap) (bytes := by') (by omega) hbytes
        rw [hb]; omega
      have hgr := grown cap (by omega) (blkOf (.slice (some ⟨g, off, none⟩) n cap))
      refine ⟨_, _, ?_, hgr.1, hgr.2, .inr ⟨w.heap.size, rfl, Nat.le_refl _⟩, by simp⟩
      have hfd := hfs' w.drew rfl
      have hfo : (Builtin.firstCells k n (.slice (some ⟨g, off, none⟩) n cap)).run P w.drew = .ok xs.toArray w.drew :=
        run_first (w := w.drew) (e := e) (.inr ⟨g, off, cap, c, rfl, ⟨hv.blk, hv.le, hv.max, hv.fit, hv.xs, hv.one⟩⟩)
      simp [Builtin.append_, run_underlying hund, run_underlying hund2, run_sizeOf A.sz, hls, typeInfo, hi, h0, h63', h48', Question.forced, hfo, hfd, hzero, newRow, grownCap]
      rw [show (xs ++ ys).toArray = xs.toArray ++ ys.toArray from by simp, Array.append_assoc]
end

section
variable {P : Program} {n : Nat} {F : Fr} {w : World} {d : Tmp} {ty t t2 e e2 : TypeId} {k by' : Nat} {z : Value} {pos : String} {af : Array Edge} {gd : Option (Nat × Bool)} {K : Fr → World → Prop}

theorem st_append (A : App P t e k by' z) (ht2 : slOf P t2 = some e2) {x y : Operand} {v s : Value} {l m : Nat} {xs ys : List Value} (hx : ev F x = some v) (hy : ev F y = some s) (hv : IsSl w e k v l xs) (hs : IsSl w e k s m ys) (h63 : l + m ≤ maxLen) (hbytes : (l + m) * by' ≤ 140737488355328)
    (hn : Nat.blt d n = true) (h : ∀ v' w', IsSl w' e k v' (l + m) (xs ++ ys) → Chg (blkOf v) w w' → (blkOf v' = blkOf v ∨ ∃ b, blkOf v' = [b] ∧ w.heap.size ≤ b) → (v' = .slice none 0 0 ↔ v = .slice none 0 0 ∧ m = 0) → K ((d, v') :: F) w') :
    St P n F ⟨some d, .call { callee := .builtin .append, args := #[x, y], argTypes := #[t, t2] }, ty, pos, af, gd⟩ w K := by
  obtain ⟨v', w', hr, h1, h2, h3, h4⟩ := run_append (ty := ty) A ht2 hv hs h63 hbytes
  refine St.vl (v := v') (w' := w') ?_ rfl hn (h v' w' h1 h2 h3 h4)
  intro a ha
  simp [execOp, resolve, invoke, builtin, ha.eval hx, ha.eval hy, hr]
end
end Go.Wk
