/-
  Pieces of slices; slices of slices.
-/
import Derived.Test.YthbahcjkncfpdaaEngF
namespace Go.Wk

theorem cut_val (p : Option Addr) (l h m k : Nat) : ∃ q, cut p l h m k = .slice q (h - l) (m - l) := ⟨_, rfl⟩

theorem cut_ne {b off l h m k : Nat} (hne : m ≠ l) : cut (some ⟨b, off, none⟩) l h m k = .slice (some ⟨b, off + l * k, none⟩) (h - l) (m - l) := by
  unfold cut
  rw [if_neg hne]
  simp [Addr.add_lit]
theorem cut_zero {b off h m k : Nat} : cut (some ⟨b, off, none⟩) 0 h m k = .slice (some ⟨b, off, none⟩) h m := by
  unfold cut
  split
  · rfl
  · simp [Addr.add_lit]

/-- A piece of a slice reads a piece. -/
theorem SlAt.cut {w : World} {e k b off len cap : Nat} {c xs : List Value} (hs : SlAt w e k b off len cap c xs) {l h m : Nat} (h1 : l ≤ h) (h2 : h ≤ m) (h3 : m ≤ cap) :
    IsSl w e k (cut (some ⟨b, off, none⟩) l h m k) (h - l) ((c.drop (off + l * k)).take ((h - l) * k)) := by
  have hfit := hs.fit
  have hmk : m * k ≤ cap * k := Nat.mul_le_mul_right _ h3
  have hlk : l * k ≤ m * k := Nat.mul_le_mul_right _ (by omega)
  have hsub : (m - l) * k = m * k - l * k := Nat.sub_mul _ _ _
  have hmax := hs.max
  unfold Wk.cut
  by_cases he : m = l
  · subst he
    have : h = m := by omega
    subst this
    refine .inr ⟨b, off, 0, c, by simp, ⟨hs.blk, by omega, by omega, by omega, by simp, hs.one⟩⟩
  · rw [if_neg he]
    refine .inr ⟨b, off + l * k, m - l, c, by simp [Addr.add_lit], ⟨hs.blk, by omega, by omega, by omega, rfl, hs.one⟩⟩

/-- v[l:h:m] and v[l:h], by what v reads. -/
theorem IsSl.cut {w : World} {e k len : Nat} {p : Option Addr} {cap : Nat} {xs : List Value} (hs : IsSl w e k (.slice p len cap) len xs) {l h m : Nat} (h1 : l ≤ h) (h2 : h ≤ m) (h3 : m ≤ cap) (h4 : h ≤ len) :
    IsSl w e k (Wk.cut p l h m k) (h - l) ((xs.drop (l * k)).take ((h - l) * k)) := by
  rcases hs with ⟨he, rfl, rfl⟩ | ⟨b, off, cap', c, he, hs⟩
  · simp only [Value.slice.injEq] at he
    obtain ⟨rfl, _, rfl⟩ := he
    have : h = 0 := by omega
    subst this
    have : l = 0 := by omega
    subst this
    have : m = 0 := by omega
    subst this
    exact .inl ⟨by simp [Wk.cut], rfl, by simp⟩
  · simp only [Value.slice.injEq] at he
    obtain ⟨rfl, _, rfl⟩ := he
    have := hs.cut h1 h2 h3
    have e1 : (xs.drop (l * k)).take ((h - l) * k) = (c.drop (off + l * k)).take ((h - l) * k) := by
      have hh : h * k ≤ len * k := Nat.mul_le_mul_right _ h4
      have hl : l * k ≤ h * k := Nat.mul_le_mul_right _ h1
      have hs2 : (h - l) * k = h * k - l * k := Nat.sub_mul _ _ _
      rw [hs.xs, List.drop_take, List.take_take, List.drop_drop]
      congr 1
      omega
    rw [e1]
    exact this
theorem IsSl.cutBlk {p : Option Addr} {l h m k len cap : Nat} : ∀ b ∈ blkOf (Wk.cut p l h m k), b ∈ blkOf (.slice p len cap) := by
  intro b hb
  unfold Wk.cut at hb
  cases p with
  | none => split at hb <;> simp [blkOf] at hb
  | some a =>
    split at hb
    · simpa [blkOf] using hb
    · simp only [Option.map_some, blkOf, List.mem_singleton] at hb ⊢
      rw [hb]
      unfold Addr.add
      split <;> rfl
theorem IsSl.cells1 {w : World} {e k : Nat} {v : Value} {len : Nat} {xs : List Value} (h : IsSl w e k v len xs) : v.cells = [v].toArray := by
  obtain ⟨p, c, rfl, _⟩ := h.val
  rfl
theorem IsSl.one1 {w : World} {e k : Nat} {v : Value} {len : Nat} {xs : List Value} (h : IsSl w e k v len xs) : v.oneCell' = true := by
  obtain ⟨p, c, rfl, _⟩ := h.val
  rfl
/-- A block that was built whole. -/
theorem IsSl.of_blk {w : World} {e k b n : Nat} {c : List Value} (hb : Blk w b e c) (hl : c.length = n * k) (hn : n ≤ maxLen) (h1 : ∀ u ∈ c, u.oneCell' = true) : IsSl w e k (.slice (some ⟨b, 0, none⟩) n n) n c :=
  .inr ⟨b, 0, n, c, rfl, ⟨hb, Nat.le_refl _, hn, by omega, by rw [List.drop_zero, List.take_of_length_le (by omega)], h1⟩⟩

/-- Slices, each reading its cells. -/
def AllS (w : World) (e k : Nat) : List Value → List (List Value) → Prop
  | [], [] => True
  | u :: us, x :: xs => IsSl w e k u (x.length / k) x ∧ AllS w e k us xs
  | _, _ => False
theorem AllS.length {w : World} {e k : Nat} : ∀ {us : List Value} {xss : List (List Value)}, AllS w e k us xss → us.length = xss.length
  | [], [], _ => rfl
  | _ :: _, _ :: _, h => by simp [AllS.length h.2]
theorem AllS.at {w : World} {e k : Nat} : ∀ {us : List Value} {xss : List (List Value)} {i : Nat} {x : List Value}, AllS w e k us xss → xss[i]? = some x → ∃ u, us[i]? = some u ∧ IsSl w e k u (x.length / k) x
  | [], [], _, _, _, h => by simp at h
  | u :: us, x :: xss, 0, l', h, hi => by simp at hi; subst hi; exact ⟨u, rfl, h.1⟩
  | u :: us, x :: xss, i + 1, l', h, hi => by simpa using h.2.at (by simpa using hi)
theorem AllS.chg0 {w w' : World} {e k : Nat} (hc : Chg [] w w') : ∀ {us : List Value} {xss : List (List Value)}, AllS w e k us xss → AllS w' e k us xss
  | [], [], _ => trivial
  | _ :: _, _ :: _, h => ⟨h.1.chg0 hc, AllS.chg0 hc h.2⟩
/-- How many elements the first ones have. -/
def sumTo (k : Nat) (xss : List (List Value)) (i : Nat) : Nat := ((xss.take i).map fun x => x.length / k).sum
theorem sumTo_zero (k : Nat) (xss : List (List Value)) : sumTo k xss 0 = 0 := by simp [sumTo]
theorem sumTo_succ {k : Nat} {xss : List (List Value)} {i : Nat} {x : List Value} (h : xss[i]? = some x) : sumTo k xss (i + 1) = sumTo k xss i + x.length / k := by
  unfold sumTo
  rw [List.take_add_one, h]
  simp
theorem sumTo_mono (k : Nat) (xss : List (List Value)) {i j : Nat} (h : i ≤ j) : sumTo k xss i ≤ sumTo k xss j := by
  induction j with
  | zero => have : i = 0 := by omega
            subst this; exact Nat.le_refl _
  | succ j ih =>
    rcases Nat.lt_or_ge i (j + 1) with h' | h'
    · have := ih (by omega)
      cases hx : xss[j]? with
      | none =>
        have : xss.length ≤ j := List.getElem?_eq_none_iff.1 hx
        have e : sumTo k xss (j + 1) = sumTo k xss j := by unfold sumTo; rw [List.take_of_length_le (by omega), List.take_of_length_le this]
        omega
      | some x => rw [sumTo_succ hx]; exact Nat.le_trans this (Nat.le_add_right _ _)
    · have : i = j + 1 := by omega
      subst this; exact Nat.le_refl _
theorem flatten_take_succ {xss : List (List Value)} {i : Nat} {x : List Value} (h : xss[i]? = some x) : (xss.take (i + 1)).flatten = (xss.take i).flatten ++ x := by
  rw [List.take_add_one, h]
  simp

/-! ### an append in place, to the place -/
section
variable {P : Program} {n : Nat} {F : Fr} {w : World} {d : Tmp} {ty t t2 e e2 : TypeId} {k : Nat} {pos : String} {af : Array Edge} {gd : Option (Nat × Bool)} {K : Fr → World → Prop}
theorem st_appendRoom (hsl : slOf P t = some e) (hk : szOf P e = some k) (ht2 : slOf P t2 = some e2) {x y : Operand} {s : Value} {b off l m cap : Nat} {c ys : List Value} (hx : ev F x = some (.slice (some ⟨b, off, none⟩) l cap)) (hy : ev F y = some s) (hb : Blk w b e c) (hs : IsSl w e k s m ys) (hroom : l + m ≤ cap) (hfit : off + cap * k ≤ c.length)
    (hn : Nat.blt d n = true) (h : ∀ w', w'.heap.size = w.heap.size → Chg [b] w w' → Blk w' b e (laid c (off + l * k) ys) → K ((d, .slice (some ⟨b, off, none⟩) (l + m) cap) :: F) w') :
    St P n F ⟨some d, .call { callee := .builtin .append, args := #[x, y], argTypes := #[t, t2] }, ty, pos, af, gd⟩ w K := by
  have hund := slOf_und hsl
  have hund2 := slOf_und ht2
  have hly := hs.len_xs
  have hls := run_lenOf (P := P) hs
  have hfs := run_first (P := P) hs
  have hcap : (l + m) * k ≤ cap * k := Nat.mul_le_mul_right _ hroom
  have hfit2 : off + l * k + ys.length ≤ c.length := by rw [hly]; rw [Nat.add_mul] at hcap; omega
  have hst := run_stores (P := P) (off := off + l * k) (vs := ys) hb hfit2 hs.one_xs
  refine St.vl (v := .slice (some ⟨b, off, none⟩) (l + m) cap) (w' := w.setRow b (laid c (off + l * k) ys).toArray) ?_ rfl hn (h _ (by simp [World.setRow]) (Chg.row _ _ _) (hb.row _))
  intro a ha
  have happ : (Builtin.append_ #[t, t2] ty #[.slice (some ⟨b, off, none⟩) l cap, s]).run P w = .ok (.slice (some ⟨b, off, none⟩) (l + m) cap) (w.setRow b (laid c (off + l * k) ys).toArray) := by
    simp [Builtin.append_, run_underlying hund, run_underlying hund2, run_sizeOf hk, hls, hroom, hfs, Addr.add_lit, hst]
  simp [execOp, resolve, invoke, builtin, ha.eval hx, ha.eval hy, happ]
end

/-! ### cells that are moved -/
theorem laid_mid (A Z Y : List Value) : laid (A ++ Z) A.length Y = A ++ (Y ++ Z.drop Y.length) := by
  unfold laid
  rw [List.take_left, ← List.drop_drop, List.drop_left, List.append_assoc]
/-- B moves on by as many cells as Y has; Y is laid where B began. -/
theorem laid_shift (A B S Y : List Value) (h : Y.length ≤ S.length) : ∃ R, laid (laid (A ++ (B ++ S)) (A.length + Y.length) B) A.length Y = A ++ (Y ++ (B ++ R)) ∧ ∀ u ∈ R, u ∈ S ∨ u ∈ B := by
  have e1 : A ++ (B ++ S) = (A ++ (B ++ S).take Y.length) ++ (B ++ S).drop Y.length := by rw [List.append_assoc, List.take_append_drop]
  have hl : (A ++ (B ++ S).take Y.length).length = A.length + Y.length := by simp; omega
  refine ⟨((B ++ S).drop Y.length).drop B.length, ?_, ?_⟩
  · have hY : ((B ++ S).take Y.length).length = Y.length := by simp; omega
    rw [e1, ← hl, laid_mid, List.append_assoc, laid_mid, List.drop_left' hY]
  · intro u hu
    have := List.mem_of_mem_drop (List.mem_of_mem_drop hu)
    simp only [List.mem_append] at this
    exact this.symm
theorem prefix_take {A B C : List Value} {n : Nat} (h : A.length = n) : (A ++ C).take n = A := by rw [← h]; exact List.take_left

theorem run_overlaps {P : Program} {w : World} {pt e : TypeId} {pts rts : Array TypeId} {k : Nat} (hp : pts[0]? = some pt) (hs : slOf P pt = some e) (hk : szOf P e = some k) {b1 o1 l1 c1 b2 o2 l2 c2 : Nat} {e1 e2 : TypeId} {x1 x2 : List Value} (h1 : Blk w b1 e1 x1) (h2 : Blk w b2 e2 x2) (hne : b1 ≠ b2) :
    (Extern.SlicesOverlaps.overlaps pts rts #[.slice (some ⟨b1, o1, none⟩) l1 c1, .slice (some ⟨b2, o2, none⟩) l2 c2]).run P w = .ok (.bool false) w := by
  have hund := slOf_und hs
  have hz : ∀ b e x, Blk w b e x → w.shape? b = some (e, x.length) := fun b e x h => by simp [World.shape?, (show w.heap[b]? = _ from h)]
  have f1 : ∀ o, w.frozen? ⟨b1, o, none⟩ = false := fun o => h1.free _ rfl
  have f2 : ∀ o, w.frozen? ⟨b2, o, none⟩ = false := fun o => h2.free _ rfl
  have s1 := hz _ _ _ h1
  have s2 := hz _ _ _ h2
  have hm : (mayBeOne ⟨b1, o1, none⟩ ⟨b2, o2, none⟩).run P w = .ok false w := by
    simp [mayBeOne, stringish, f1, f2, s1, s2]
  have v1 : (noView ⟨b1, o1, none⟩).run P w = .ok () w := by simp [noView, viewAt, s1]
  have v2 : (noView ⟨b2, o2, none⟩).run P w = .ok () w := by simp [noView, viewAt, s2]
  have hbe2 : (b1 == b2) = false := by simpa using hne
  conv => lhs; arg 2; whnf
  simp only [hp, Sem.run_bind, run_underlying hund, Result.andThen_ok, run_sizeOf hk]
  by_cases h0 : l1 = 0 ∨ l2 = 0 ∨ k = 0
  · simp [h0]
  · simp [h0, hbe2, f1, f2, v1, v2, hm, hne]

section
variable {P : Program} {n : Nat} {Q : Exit → Fr → World → Prop} {F : Fr} {w : World} {o : Oper} {ops : Array Oper} {rest : List Oper} {C : World → Prop} {k d : Nat}
/-- An operation whose guard was itself passed by. -/
theorem O_guard_un {j t : Nat} {b : Bool} (hg : o.guard = some (j, b)) (hd : o.dst = some d) (hn : Nat.blt d n = true) (ht : (ops[j]?).bind (·.dst) = some t) (hv : get F t = some undef) (h : O P n ops Q rest ((d, undef) :: F) w) : O P n ops Q (o :: rest) F w := by
  intro a ha
  have hw : Region.wanted o (yielded ops a.tmps) = false := by
    simp [Region.wanted, hg, yielded, ht, ha.get t _ hv, undef]
  refine wpList_step fun K' hK => ?_
  rw [if_neg (by simp [hw]), hd]
  exact hK _ _ (h _ (ha.put hn undef))
theorem t_un {j t : Nat} {b : Bool} (hg : o.guard = some (j, b)) (hd : o.dst = some d) (hn : Nat.blt d n = true) (ht : (ops[j]?).bind (·.dst) = some t) (hv : get F t = some undef) (h : T P n ops C Q (k + 1) rest ((d, undef) :: F) w) : T P n ops C Q k (o :: rest) F w := by
  intro a ha
  have hw : Region.wanted o (yielded ops a.tmps) = false := by
    simp [Region.wanted, hg, yielded, ht, ha.get t _ hv, undef]
  simp only [wpT, hw, Bool.false_eq_true, if_false]
  rw [hd]
  exact h _ (ha.put hn undef)
end
end Go.Wk
