/-
  append of a make that grows; copy; clear.
-/
import Derived.Test.YthbahcjkncfpdaaEngS
namespace Go.Wk
section
variable {P : Program} {n : Nat} {F : Fr} {w : World} {d : Tmp} {ty t t2 e e2 : TypeId} {k by' : Nat} {z : Value} {pos : String} {af : Array Edge} {gd : Option (Nat × Bool)} {K : Fr → World → Prop}

theorem st_appendMake (A : App P t e k by' z) (hit : itOf P t2 .i64 = true) {x y : Operand} {v : Value} {l m : Nat} {j : Int} {xs : List Value} (hx : ev F x = some v) (hy : ev F y = some (.int .i64 j)) (hj : j = (m : Int)) (hv : IsSl w e k v l xs)
    (hgrow : ∀ p c, v = .slice p l c → c < l + m) (h63 : l + m ≤ maxLen) (hbytes : (l + m) * by' ≤ 140737488355328) (hn : Nat.blt d n = true)
    (h : ∀ b cap zs w', w.heap.size = b → Chg [] w w' → l + m ≤ cap → cap ≤ maxLen → zs.length = (cap - l) * k → (∀ u ∈ xs ++ zs, u.oneCell' = true) → Blk w' b e (xs ++ zs) → K ((d, .slice (some ⟨b, 0, none⟩) (l + m) cap) :: F) w') :
    St P n F ⟨some d, .call { callee := .builtin .append, args := #[x, y], argTypes := #[t, t2] }, ty, pos, af, gd⟩ w K := by
  subst hj
  obtain ⟨i, hi, hk, hb, hz⟩ := A.info
  obtain ⟨p, c, rfl, hlc⟩ := hv.val
  have hgr := hgrow p c rfl
  have hund := slOf_und A.sl
  have hund2 : P.underlying t2 = some (.int .i64) := by unfold itOf at hit; split at hit <;> simp_all
  have hm63 : l + m ≤ 9223372036854775807 := by simp only [maxLen] at h63; omega
  have hge := grownCap_ge w (l + m) c e
  have hcm := grownCap_le_maxLen w (l + m) c e h63
  have hbm : m * by' ≤ 140737488355328 := Nat.le_trans (Nat.mul_le_mul_right _ (by omega)) hbytes
  have hlx := hv.len_xs
  let zs := (Builtin.zeroCells z.cells m).toList ++ (Builtin.zeroCells z.cells (grownCap w (l + m) c e - (l + m))).toList
  have hone : ∀ u ∈ xs ++ zs, u.oneCell' = true := by
    intro u hu
    simp only [zs, List.mem_append] at hu
    rcases hu with hu | hu | hu
    · exact hv.one_xs u hu
    · exact oneCell_zero z _ A.zo u hu
    · exact oneCell_zero z _ A.zo u hu
  have hlen : zs.length = (grownCap w (l + m) c e - l) * k := by
    simp only [zs, List.length_append, Array.length_toList, size_zeroCells, A.zs, ← Nat.add_mul]
    congr 1; omega
  refine St.vl (v := .slice (some ⟨w.heap.size, 0, none⟩) (l + m) (grownCap w (l + m) c e)) (w' := w.drew.alloc (.cells (xs ++ zs).toArray e)) ?_ rfl hn
    (h _ _ zs _ rfl ((Chg.drew [] w).trans (Chg.alloc [] _ _)) hge hcm hlen hone ?_)
  · have h0 : ¬ (l + m ≤ c) := by omega
    have hwr : IntKind.i64.wrap (m : Int) = m := IntWalk.i64_in _ ⟨by omega, by omega⟩
    have hneg : ¬ ((m : Int) < 0) := by omega
    have hbig : ¬ (281474976710656 < (m : Int) * (i.bytes : Int)) := by
      rw [hb]
      have : ((m * by' : Nat) : Int) ≤ 140737488355328 := Int.ofNat_le.2 hbm
      rw [Int.natCast_mul] at this
      omega
    have h63' : ¬ (9223372036854775807 < (l : Int) + (m : Int)) := by omega
    have h48' : ¬ (281474976710656 < Builtin.nextslicecap (l + m) c * i.bytes) := by
      have := growslice_fits (need := l + m) (old := c) (bytes := by') (by omega) hbytes
      rw [hb]; omega
    have hfo : (Builtin.firstCells k l (.slice p l c)).run P w.drew = .ok xs.toArray w.drew := by
      refine run_first (w := w.drew) (e := e) ?_
      rcases hv with hv | ⟨b, off, cap, cc, he, hv⟩
      · exact .inl hv
      · exact .inr ⟨b, off, cap, cc, he, ⟨hv.blk, hv.le, hv.max, hv.fit, hv.xs, hv.one⟩⟩
    have hzero : ∀ w1 : World, (zeroValue e).run P w1 = .ok z w1 := fun w1 => run_zero A.zr
    have e1 : (xs ++ zs).toArray = xs.toArray ++ Builtin.zeroCells z.cells m ++ Builtin.zeroCells z.cells (grownCap w (l + m) c e - (l + m)) := by
      apply Array.toList_inj.1
      simp [zs]
    have happ : (Builtin.append_ #[t, t2] ty #[.slice p l c, .int .i64 (m : Int)]).run P w = .ok (.slice (some ⟨w.heap.size, 0, none⟩) (l + m) (grownCap w (l + m) c e)) (w.drew.alloc (.cells (xs ++ zs).toArray e)) := by
      rw [e1]
      have hpos : 0 < k := A.pos
      by_cases hm : m = 0
      · omega
      · have hm0 : ¬ (m * k = 0) := by
          have : 1 * 1 ≤ m * k := Nat.mul_le_mul (by omega) hpos
          omega
        simp [Builtin.append_, run_underlying hund, run_underlying hund2, run_sizeOf A.sz, asInt, asIntOf, hwr, typeInfo, hi, hneg, hbig, h0, h63', h48', Question.forced, hfo, hzero, newRow, grownCap, hm0]
    intro a ha
    simp [execOp, resolve, invoke, builtin, ha.eval hx, ha.eval hy, happ]
  · show (w.drew.heap.push _)[w.heap.size]? = _
    rw [show w.heap.size = w.drew.heap.size from rfl, Array.getElem?_push_size]

theorem st_copy (hs : slOf P t = some e) (hk : szOf P e = some k) {x y : Operand} {v : Value} {b off dl dc m c : Nat} {cs ys : List Value} (hx : ev F x = some (.slice (some ⟨b, off, none⟩) dl dc)) (hy : ev F y = some v) (hv : IsSl w e k v m ys)
    (hb : Blk w b e cs) (hc : min m dl = c) (hl : off + c * k ≤ cs.length) (hn : Nat.blt d n = true)
    (h : ∀ w', w'.heap.size = w.heap.size → Chg [b] w w' → Blk w' b e (laid cs off (ys.take (c * k))) → K ((d, .int .i64 c) :: F) w') :
    St P n F ⟨some d, .call { callee := .builtin .copy, args := #[x, y], argTypes := #[t, t2] }, ty, pos, af, gd⟩ w K := by
  subst hc
  have hly := hv.len_xs
  have hle : min m dl * k ≤ m * k := Nat.mul_le_mul_right _ (Nat.min_le_left _ _)
  have hlt : (ys.take (min m dl * k)).length = min m dl * k := by rw [List.length_take]; omega
  have hone : ∀ u ∈ ys.take (min m dl * k), u.oneCell' = true := fun u hu => hv.one_xs u (List.mem_of_mem_take hu)
  have hst := run_stores (P := P) (off := off) (vs := ys.take (min m dl * k)) hb (by rw [hlt]; exact hl) hone
  refine St.vl (v := .int .i64 (min m dl : Nat)) (w' := w.setRow b (laid cs off (ys.take (min m dl * k))).toArray) ?_ rfl hn (h _ (by simp [World.setRow]) (Chg.row _ _ _) (hb.row _))
  intro a ha
  have hfirst : (Builtin.firstCells k (min m dl) v).run P w = .ok (ys.take (min m dl * k)).toArray w := by
    rcases hv with ⟨rfl, rfl, rfl⟩ | ⟨b', off', cap', c', rfl, hv⟩
    · simp [Builtin.firstCells]
    · refine run_firstCells_some w k (min m dl) ⟨b', off', none⟩ m cap' _ hlt (fun j u hu => ?_)
      rw [Addr.add_lit]
      rw [List.getElem?_take] at hu
      split at hu
      · exact hv.cells j u hu
      · cases hu
  simp [execOp, resolve, invoke, builtin, Builtin.copy_, ha.eval hx, ha.eval hy, run_underlying (slOf_und hs), run_sizeOf hk, run_lenOf hv, hfirst, hst, goInt]

theorem st_clear (A : App P t e k by' z) {x : Operand} {b off dl dc : Nat} {cs : List Value} (hx : ev F x = some (.slice (some ⟨b, off, none⟩) dl dc)) (hb : Blk w b e cs) (hl : off + dl * k ≤ cs.length)
    (h : ∀ w' zs, w'.heap.size = w.heap.size → Chg [b] w w' → zs.length = dl * k → (∀ u ∈ zs, u.oneCell' = true) → Blk w' b e (laid cs off zs) → K F w') :
    St P n F ⟨none, .call { callee := .builtin .clear, args := #[x], argTypes := #[t] }, ty, pos, af, gd⟩ w K := by
  have hund := slOf_und A.sl
  have hzl : (Builtin.zeroCells z.cells dl).toList.length = dl * k := by simp [size_zeroCells, A.zs]
  have hst := run_stores (P := P) (off := off) (vs := (Builtin.zeroCells z.cells dl).toList) hb (by rw [hzl]; exact hl) (oneCell_zero z _ A.zo)
  by_cases h0 : dl = 0
  · subst h0
    have he : Builtin.zeroCells z.cells 0 = #[] := Array.eq_empty_of_size_eq_zero (by rw [size_zeroCells]; simp)
    refine St.vlNone (v := .tuple #[]) (w' := w) ?_ rfl (h w [] rfl (Chg.refl _ _) (by simp) (by simp) (by simpa [laid] using hb))
    intro a ha
    simp [execOp, resolve, invoke, builtin, Builtin.clear_, ha.eval hx, run_underlying hund]
  · refine St.vlNone (v := .tuple #[]) (w' := w.setRow b (laid cs off (Builtin.zeroCells z.cells dl).toList).toArray) ?_ rfl (h _ _ (by simp [World.setRow]) (Chg.row _ _ _) hzl (oneCell_zero z _ A.zo) (hb.row _))
    intro a ha
    obtain ⟨q, rfl⟩ : ∃ q, dl = q + 1 := ⟨dl - 1, by omega⟩
    simp [execOp, resolve, invoke, builtin, Builtin.clear_, ha.eval hx, run_underlying hund, run_zero A.zr, hst]
end
end Go.Wk
