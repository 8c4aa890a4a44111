/-
  The document's pages: Take.
-/
import Derived.Test.YthbahcjkncfpdaaP13
namespace Go.Wk
open Go.Proofs
set_option maxRecDepth 10000

/-! ### what is found, in all entries and in pages -/
theorem findE_of_mem {es : List Ent} (hs : Srt es) {k v : ByteArray} (h : (k, v) ∈ es) : findE es k = some v := by
  obtain ⟨i, hi⟩ := List.mem_iff_getElem?.1 h
  refine findE_hit (i := i) (x := (k, v)) ?_ hi rfl
  unfold findE
  rw [Option.map_eq_none_iff, List.find?_eq_none]
  intro x hx
  obtain ⟨j, hj⟩ := List.mem_iff_getElem?.1 hx
  have hjl := (List.getElem?_eq_some_iff.1 hj).1
  rw [List.length_take] at hjl
  rw [List.getElem?_take_of_lt (by omega)] at hj
  have := hs.at (show j < i by omega) hj hi
  simpa using blt_ne this
theorem findE_none {es : List Ent} {k : ByteArray} (h : ∀ x ∈ es, x.1 ≠ k) : findE es k = none := by
  unfold findE
  rw [Option.map_eq_none_iff, List.find?_eq_none]
  intro x hx
  simpa using h x hx

theorem lbN_of {l : List Ent} (hs : Srt l) {i : Nat} {x : Ent} (h : l[i]? = some x) : lbN l x.1 = i := by
  refine takeWhile_len _ l i (Nat.le_of_lt (List.getElem?_eq_some_iff.1 h).1) (fun j k hk => ?_)
  constructor
  · intro h1
    rcases Nat.lt_or_ge j i with h2 | h2
    · exact h2
    · exfalso
      rcases Nat.lt_or_ge i j with h3 | h3
      · have := hs.at h3 h hk
        rw [blt_asymm this] at h1; cases h1
      · have : j = i := by omega
        subst this
        rw [h] at hk
        simp only [Option.some.injEq] at hk
        subst hk
        rw [blt_irrefl] at h1; cases h1
  · intro h1
    exact hs.at h1 hk h
theorem hasK_of_mem {l : List Ent} (hs : Srt l) {k v : ByteArray} (h : (k, v) ∈ l) : hasK l k = true := by
  obtain ⟨i, hi⟩ := List.mem_iff_getElem?.1 h
  have := lbN_of hs hi
  dsimp only at this
  unfold hasK hasAt
  rw [this, List.getElem?_map, hi]
  simp

/-- An entry of a page lies behind the page's first key. -/
theorem firstK_le {l : List Ent} (hs : Srt l) {x : Ent} (h : x ∈ l) : blt x.1 (firstK l) = false := by
  cases l with
  | nil => cases h
  | cons y l =>
    obtain ⟨i, hi⟩ := List.mem_iff_getElem?.1 h
    cases i with
    | zero => simp at hi; subst hi; exact blt_irrefl _
    | succ i => exact blt_asymm (hs.at (show 0 < i + 1 by omega) rfl hi)

theorem findE_getP {ls : List (List Ent)} (hw : WfP ls) (key : ByteArray) : findE ls.flatten key = getP ls key := by
  cases hL : ls[cntN ls key - 1]? with
  | none =>
    have : ls = [] := by
      have h1 : ls.length ≤ cntN ls key - 1 := List.getElem?_eq_none_iff.1 hL
      by_cases h : ls = []
      · exact h
      · have := cntN_lt (key := key) h; omega
    subst this
    rfl
  | some l =>
    have hmem := List.mem_of_getElem? hL
    have hs := hw.each l hmem
    unfold getP
    rw [hL]
    dsimp only
    by_cases hh : hasK l key = true
    · rw [if_pos hh]
      obtain ⟨v, hv⟩ := hasK_at hh
      rw [hv]
      exact findE_of_mem hw.srt (List.mem_flatten.2 ⟨l, hmem, List.mem_of_getElem? hv⟩)
    · rw [if_neg hh]
      refine findE_none ?_
      rintro ⟨k, v⟩ hx he
      dsimp only at he
      subst he
      obtain ⟨l', hl', hx'⟩ := List.mem_flatten.1 hx
      obtain ⟨j, hj⟩ := List.mem_iff_getElem?.1 hl'
      have h1 : j < cntN ls k := by
        refine (cntN_iff hw.firsts hj).1 ?_
        rw [firstK_le (hw.each l' hl') hx']; rfl
      rcases Nat.lt_or_ge j (cntN ls k - 1) with h2 | h2
      · have h3 := (List.pairwise_flatten.1 hw.srt).2
        obtain ⟨hjl, rfl⟩ := List.getElem?_eq_some_iff.1 hj
        obtain ⟨hil, rfl⟩ := List.getElem?_eq_some_iff.1 hL
        obtain ⟨y, hy, e⟩ := firstK_mem (hw.ne _ hmem)
        have h4 := List.pairwise_iff_getElem.1 h3 j _ hjl hil h2 (k, v) hx' y hy
        have h5 := (cntN_iff (key := k) hw.firsts hL).2 (by omega)
        rw [e] at h5
        dsimp only at h4
        rw [h4] at h5
        cases h5
      · have : j = cntN ls k - 1 := by omega
        subst this
        rw [hL] at hj
        simp only [Option.some.injEq] at hj
        subst hj
        exact hh (hasK_of_mem hs hx')

/-! ### taking out of a page -/
def notK (key : ByteArray) (x : Ent) : Bool := !decide (x.1 = key)
theorem filter_take1 {key : ByteArray} {l : List Ent} {i : Nat} {x : Ent} (h : l[i]? = some x) : (l.take (i + 1)).filter (notK key) = (l.take i).filter (notK key) ++ (if notK key x = true then [x] else []) := by
  rw [List.take_add_one, h, List.filter_append]
  simp only [Option.toList_some, List.filter_cons, List.filter_nil]
theorem filter_eq {l : List Ent} {key : ByteArray} (hs : Srt l) (hh : hasK l key = true) : l.filter (notK key) = takeL l key := by
  obtain ⟨v, hv⟩ := hasK_at hh
  have hd : l.drop (lbN l key) = (key, v) :: l.drop (lbN l key + 1) := by
    obtain ⟨hl, e⟩ := List.getElem?_eq_some_iff.1 hv
    rw [← e]
    exact List.drop_eq_getElem_cons hl
  have e1 : l.filter (notK key) = (l.take (lbN l key) ++ l.drop (lbN l key)).filter (notK key) := by rw [List.take_append_drop]
  rw [e1, hd, List.filter_append, List.filter_cons]
  have e2 : notK key (key, v) = false := by simp [notK]
  rw [e2, if_neg (by simp)]
  unfold takeL
  congr 1
  · rw [List.filter_eq_self]
    intro x hx
    have := blt_ne (lbN_take l key x hx)
    simp [notK, this]
  · rw [List.filter_eq_self]
    intro x hx
    obtain ⟨j, hj⟩ := List.mem_iff_getElem?.1 hx
    rw [List.getElem?_drop] at hj
    have h2 := hs.at (show lbN l key < lbN l key + 1 + j by omega) hv hj
    have h3 : x.1 ≠ key := fun e => blt_ne h2 e.symm
    simp [notK, h3]
theorem nth_get {ls : List (List Ent)} {i : Nat} {l : List Ent} (h : ls[i]? = some l) : nth ls i = l := by unfold nth; rw [h]; rfl

/-- What is left of pages when a key is not there. -/
theorem pTake_none {ls : List (List Ent)} {key : ByteArray} (h : getP ls key = none) : pTake ls key = ls := by
  unfold getP at h
  unfold pTake
  cases hx : ls[cntN ls key - 1]? with
  | none => rfl
  | some l =>
    rw [hx] at h
    dsimp only at h ⊢
    by_cases hh : hasK l key = true
    · obtain ⟨v, hv⟩ := hasK_at hh
      rw [if_pos hh, hv] at h
      cases h
    · rw [if_neg hh]
theorem getP_some {ls : List (List Ent)} {key : ByteArray} (h : (getP ls key).isSome = true) : ∃ l, ls[cntN ls key - 1]? = some l ∧ hasK l key = true := by
  unfold getP at h
  cases hx : ls[cntN ls key - 1]? with
  | none => rw [hx] at h; cases h
  | some l =>
    rw [hx] at h
    dsimp only at h
    by_cases hh : hasK l key = true
    · exact ⟨l, rfl, hh⟩
    · rw [if_neg hh] at h; cases h

theorem f35 (v : Value) (ls : List (List Ent)) (key : ByteArray) (w : World) (hp : RPg w v ls) (hw : WfP ls) (hn : ls.length ≤ 65536) :
    Ret Try.prog 35 #[.agg #[v], .string key] w fun r w' => (∃ v', r = .agg #[v'] ∧ RPg w' v' (pTake ls key)) ∧ Chg [] w w' := by
  obtain ⟨us, hsl, hal⟩ := id hp
  obtain ⟨p, c, rfl, _⟩ := hsl.val
  refine Ret.of_W (args := [_, _]) Try.func35 rfl rfl rfl rfl ?_

  refine W_seq ?_
  refine W_region ?_
  refine O_go (gn rfl) (st_box rfl rfl rfl ?_)
  intro b2 w2 e2 n2 c2 k2
  refine O_go (gn rfl) (st_alloc zr48 rfl rfl ?_)
  intro b4 w4 e4 n4 c4 k4
  refine O_end [1, 2, 4] (F' := [(1, _), (2, _), (4, _)]) rfl ?_
  have hc4 : Chg [] w w4 := c2.trans c4
  have hk2 := k2.chg0 c4
  have hs2 := c2.size
  refine W_seq ?_
  refine W_seq ?_
  refine W_region ?_
  refine O_go (gn rfl) (St.vl (vl_loadAgg ag48 sz48 rfl rfl (Cells.of_blk0 hk2)) rfl rfl ?_)
  refine O_go (gn rfl) (St.vl (vl_move rfl) rfl rfl ?_)
  refine O_go (gn rfl) (st_call bd33 rfl rfl rfl rfl (f33 _ ls key _ (hp.chg0 hc4) hw.le hn) ?_)
  rintro v14 w14 ⟨rfl, c14⟩
  refine O_go (gn rfl) (St.vl (vl_move rfl) rfl rfl ?_)
  refine O_go (gn rfl) (St.vl (vl_extract rfl rfl) rfl rfl ?_)
  refine O_go (gn rfl) (St.vl (vl_extract rfl rfl) rfl rfl ?_)
  refine O_go (gn rfl) (St.vl (vl_assign rfl) rfl rfl ?_)
  refine O_go (gn rfl) (St.vl (vl_assign rfl) rfl rfl ?_)
  refine O_end [1, 2, 4, 6] (F' := [(1, _), (2, _), (4, _), (6, _)]) rfl ?_
  refine W_seq ?_
  refine W_region ?_
  refine O_go (gn rfl) (St.vl (vl_move rfl) rfl rfl ?_)
  refine O_go (gn rfl) (St.vl (vl_not rfl) rfl rfl ?_)
  refine O_end [1, 2, 4, 18] (F' := [(1, _), (2, _), (4, _), (18, _)]) rfl ?_
  refine W_cond rfl (fun hT => ?_) (fun hF => ?_)
  · rw [findE_getP hw] at hT
    have hg : getP ls key = none := by
      cases h : getP ls key with
      | none => rfl
      | some x => rw [h] at hT; cases hT
    rw [pTake_none hg]
    refine W_seq ?_
    refine W_region ?_
    refine O_go (gn rfl) (St.vl (vl_loadAgg ag48 sz48 rfl rfl (Cells.of_blk0 (hk2.chg0 c14))) rfl rfl ?_)
    refine O_go (gn rfl) (st_store sz48 rfl rfl rfl rfl (k4.chg0 c14) (by simp) (by intro u hu; simp at hu; subst hu; rfl) ?_)
    intro wF nF cF kF
    refine O_end [4] (F' := [(4, _)]) rfl ?_
    refine W_ret ?_
    refine then_ret ?_
    refine retC rfl ag48 sz48 rfl rfl (Cells.of_blk0 kF) ?_
    exact ⟨⟨_, rfl, (hp.chg0 (hc4.trans c14)).chg1 (k4.chg0 c14) rfl rfl cF⟩, (hc4.trans c14).own cF (by intro x hx; simp at hx; omega)⟩
  refine W_skipE ?_
  rw [findE_getP hw] at hF
  obtain ⟨L, hL, hh⟩ := getP_some (ls := ls) (key := key) (by simpa using hF)
  have hat := (List.getElem?_eq_some_iff.1 hL).1
  have hmem := List.mem_of_getElem? hL
  have hL8 := hw.le _ hmem
  have hLs := hw.each _ hmem
  have hpp : pTake ls key = settle ls (cntN ls key - 1) (takeL L key) := by unfold pTake; rw [hL]; dsimp only; rw [if_pos hh]
  rw [hpp]
  have hfe := filter_eq hLs hh
  refine W_seq ?_
  refine W_region ?_
  refine O_go (gn rfl) (St.vl (vl_loadAgg ag48 sz48 rfl rfl (Cells.of_blk0 (hk2.chg0 c14))) rfl rfl ?_)
  refine O_go (gn rfl) (St.vl (vl_move rfl) rfl rfl ?_)
  refine O_go (gn rfl) (st_call bd46 rfl rfl rfl rfl (f46 _ ls key _ (hp.chg0 (hc4.trans c14)) hw.ne hw.firsts hn) ?_)
  rintro v22 w22 ⟨rfl, c22⟩
  refine O_go (gn rfl) (St.vl (vl_assign rfl) rfl rfl ?_)
  refine O_end [1, 2, 4, 7] (F' := [(1, _), (2, _), (4, _), (7, _)]) rfl ?_
  have hc22 : Chg [] w4 w22 := c14.trans c22
  generalize cntN ls key - 1 = a at *
  refine W_seq ?_
  refine W_region ?_
  refine O_go (gn rfl) (St.vl (vl_assign rfl) rfl rfl ?_)
  refine O_end [1, 2, 4, 7, 8] (F' := [(1, _), (2, _), (4, _), (7, _), (8, _)]) rfl ?_
  refine W_seq ?_
  refine W_seq ?_
  refine W_region ?_
  refine O_go (gn rfl) (St.vl (vl_assign rfl) rfl rfl ?_)
  refine O_end [1, 2, 4, 7, 8, 9] (F' := [(1, _), (2, _), (4, _), (7, _), (8, _), (9, _)]) rfl ?_
  refine W_block ?_
  refine W_loop [1, 2, 4, 7, 8, 9] (fun m F wx => Chg [] w4 wx ∧ ∃ (i : Nat) (out : Value), m = L.length - i ∧ i ≤ L.length ∧ F = [(1, .string key), (2, .pointer (some ⟨b2, 0, none⟩)), (4, .pointer (some ⟨b4, 0, none⟩)), (7, .int .i64 a), (8, out), (9, .int .i64 i)] ∧ RList wx out ((L.take i).filter (notK key)) ∧ (∀ b ∈ blkOf out, w4.heap.size ≤ b)) (m := L.length - 0) ⟨hc22, 0, _, rfl, Nat.zero_le _, rfl, IsSl.nil _ _ _, by simp [blkOf]⟩ ?_
  rintro m F wx ⟨hcx, i, out, rfl, hi, rfl, ho, hof⟩
  have hkx := hk2.chg0 hcx
  obtain ⟨b, off, cap, pl, cl, hv, hc, hl, hlc⟩ := (hp.chg0 (hc4.trans hcx)).at hL
  simp only [Value.slice.injEq] at hv
  obtain ⟨rfl, _, rfl⟩ := hv
  refine W_seq ?_
  refine W_seq ?_
  refine W_region ?_
  refine O_go (gn rfl) (St.vl (vl_move rfl) rfl rfl ?_)
  refine O_go (gn rfl) (St.vl (vl_fieldAddr fo48_0 rfl) rfl rfl ?_)
  refine O_go (gn rfl) (St.vl (vl_load ag46 rfl (hkx.cell' rfl)) rfl rfl ?_)
  refine O_go (gn rfl) (St.vl (vl_move rfl) rfl rfl ?_)
  refine O_go (gn rfl) (St.vl (vl_indexAddr sl46 sz53 rfl rfl _ rfl hat) rfl rfl ?_)
  refine O_go (gn rfl) (St.vl (vl_load ag53 rfl hc) rfl rfl ?_)
  refine O_go (gn rfl) (St.vl (vl_len sl53 rfl) rfl rfl ?_)
  refine O_go (gn rfl) (St.vl (vl_lss rfl rfl) rfl rfl ?_)
  refine O_end [1, 2, 4, 7, 8, 9, 30] (F' := [(1, _), (2, _), (4, _), (7, _), (8, _), (9, _), (30, _)]) rfl ?_
  refine W_cond rfl (fun hT => ?_) (fun hF => ?_)
  · refine W_skipE ?_
    have hlt : i < L.length := by simpa using hT
    have hx : L[i]? = some L[i] := by simp [hlt]
    generalize L[i] = x at hx
    have hsucc := filter_take1 (key := key) hx
    have hfl : ((L.take i).filter (notK key)).length ≤ 8 := by
      have := List.length_filter_le (notK key) (L.take i)
      rw [List.length_take] at this
      omega
    obtain ⟨bl, ol, cl', hvl, hcl⟩ := hl.at' hx
    simp only [Value.slice.injEq] at hvl
    obtain ⟨rfl, _, rfl⟩ := hvl
    refine W_seq ?_
    refine W_block ?_
    refine W_seq ?_
    refine W_region ?_
    refine O_go (gn rfl) (St.vl (vl_fieldAddr fo48_0 rfl) rfl rfl ?_)
    refine O_go (gn rfl) (St.vl (vl_load ag46 rfl (hkx.cell' rfl)) rfl rfl ?_)
    refine O_go (gn rfl) (St.vl (vl_move rfl) rfl rfl ?_)
    refine O_go (gn rfl) (St.vl (vl_indexAddr sl46 sz53 rfl rfl _ rfl hat) rfl rfl ?_)
    refine O_go (gn rfl) (St.vl (vl_load ag53 rfl hc) rfl rfl ?_)
    refine O_go (gn rfl) (St.vl (vl_move rfl) rfl rfl ?_)
    refine O_go (gn rfl) (St.vl (vl_indexAddr sl53 sz57 rfl rfl _ rfl hlt) rfl rfl ?_)
    refine O_go (gn rfl) (St.vl (vl_fieldAddr fo57_0 rfl) rfl rfl ?_)
    refine O_go (gn rfl) (St.vl (vl_load ag9 rfl (hcl 0 _ rfl)) rfl rfl ?_)
    refine O_go (gn rfl) (St.vl (vl_move rfl) rfl rfl ?_)
    refine O_go (gn rfl) (St.vl (vl_sne rfl rfl) rfl rfl ?_)
    refine O_end [1, 2, 4, 7, 8, 9, 43] (F' := [(1, _), (2, _), (4, _), (7, _), (8, _), (9, _), (43, _)]) rfl ?_
    refine W_cond rfl (fun hT => ?_) (fun hF => ?_)
    · have e : notK key x = true := hT
      rw [if_pos e] at hsucc
      have hcell53 := fun (j : Nat) (u : Value) (hj : [Value.string x.1, Value.string x.2][j]? = some u) => hcl j u hj
      refine W_region ?_
      refine O_go (gn rfl) (St.vl (vl_move rfl) rfl rfl ?_)
      refine O_go (gn rfl) (St.vl (vl_fieldAddr fo48_0 rfl) rfl rfl ?_)
      refine O_go (gn rfl) (St.vl (vl_load ag46 rfl (hkx.cell' rfl)) rfl rfl ?_)
      refine O_go (gn rfl) (St.vl (vl_move rfl) rfl rfl ?_)
      refine O_go (gn rfl) (St.vl (vl_indexAddr sl46 sz53 rfl rfl _ rfl hat) rfl rfl ?_)
      refine O_go (gn rfl) (St.vl (vl_load ag53 rfl hc) rfl rfl ?_)
      refine O_go (gn rfl) (St.vl (vl_move rfl) rfl rfl ?_)
      refine O_go (gn rfl) (St.vl (vl_indexAddr sl53 sz57 rfl rfl _ rfl hlt) rfl rfl ?_)
      refine O_go (gn rfl) (St.vl (vl_loadAgg ag57 sz57 rfl rfl hcl) rfl rfl ?_)
      refine O_go (gn rfl) (st_buildSlice ap53 rfl (vs := [_]) rfl (css := [_]) ⟨rfl, trivial⟩ rfl rfl (cs := [_, _]) rfl rfl ?_)
      intro b53 w53 e53 n53 c53 k53
      refine O_go (gn rfl) (st_append ap53 sl53 rfl rfl (ho.chg0 c53) (IsSl.of_blk (n := 1) k53 rfl (by simp [maxLen]) (flat_one [x])) (by simp only [maxLen]; omega) (by omega) rfl ?_)
      intro v54 w54 i54 c54 o54 z54
      refine O_go (gn rfl) (St.vl (vl_assign rfl) rfl rfl ?_)
      refine O_endN [1, 2, 4, 7, 8, 9] (F' := [(1, _), (2, _), (4, _), (7, _), (8, _), (9, _)]) rfl ?_
      refine block_normal ?_
      refine W_region ?_
      refine O_go (gn rfl) (St.vl (vl_move rfl) rfl rfl ?_)
      refine O_go (gn rfl) (St.vl (vl_add rfl rfl (by omega)) rfl rfl ?_)
      refine O_go (gn rfl) (St.vl (vl_assign rfl) rfl rfl ?_)
      refine O_endN [1, 2, 4, 7, 8, 9] (F' := [(1, _), (2, _), (4, _), (7, _), (8, _), (9, _)]) rfl ?_
      refine ⟨L.length - (i + 1), by omega, (hcx.trans c53).own c54 hof, i + 1, v54, rfl, by omega, rfl, ?_, fresh_of o54 hof (hcx.trans c53).size⟩
      rw [hsucc]
      unfold RList
      rw [List.length_append, flat_append]
      exact i54
    · have e : notK key x = false := hF
      rw [e, if_neg (by simp), List.append_nil] at hsucc
      refine W_skip ?_
      refine block_normal ?_
      refine W_region ?_
      refine O_go (gn rfl) (St.vl (vl_move rfl) rfl rfl ?_)
      refine O_go (gn rfl) (St.vl (vl_add rfl rfl (by omega)) rfl rfl ?_)
      refine O_go (gn rfl) (St.vl (vl_assign rfl) rfl rfl ?_)
      refine O_endN [1, 2, 4, 7, 8, 9] (F' := [(1, _), (2, _), (4, _), (7, _), (8, _), (9, _)]) rfl ?_
      exact ⟨L.length - (i + 1), by omega, hcx, i + 1, out, rfl, by omega, rfl, by rw [hsucc]; exact ho, hof⟩
  refine W_exit ?_
  repeat (first | refine then_exit ?_ | refine blockF_other rfl ?_)
  refine blockF_exit _ ?_
  have he : i = L.length := by
    have : ¬ (i < L.length) := by simpa using hF
    omega
  subst he
  rw [List.take_length, hfe] at ho
  have hl8 : (takeL L key).length ≤ 8 := by
    rw [← hfe]
    exact Nat.le_trans (List.length_filter_le _ _) hL8
  generalize takeL L key = l' at *
  obtain ⟨q, d, rfl, hqd⟩ := IsSl.val ho
  have hk4x := k4.chg0 hcx
  have hpx := hp.chg0 (hc4.trans hcx)
  have hcw : Chg [] w wx := hc4.trans hcx
  by_cases hA : l'.length = 0 ∧ ls.length = 1
  · have e : settle ls a l' = [] := by unfold settle; rw [if_neg (by omega), if_pos hA.2]
    rw [e]
    refine W_seq ?_
    refine W_seq ?_
    refine W_region ?_
    refine O_go (gn rfl) (St.vl (vl_move rfl) rfl rfl ?_)
    refine O_go (gn rfl) (St.vl (vl_len sl53 rfl) rfl rfl ?_)
    refine O_go (gn rfl) (St.vl (vl_is (b' := true) (vl_ieq rfl rfl) (decide_eq_true (by omega))) rfl rfl ?_)
    refine O_go (gn rfl) (St.vl (vl_move rfl) rfl rfl ?_)
    refine O_go (gy rfl rfl rfl) (St.vl (vl_fieldAddr fo48_0 rfl) rfl rfl ?_)
    refine O_go (gy rfl rfl rfl) (St.vl (vl_load ag46 rfl (hkx.cell' rfl)) rfl rfl ?_)
    refine O_go (gy rfl rfl rfl) (St.vl (vl_len sl46 rfl) rfl rfl ?_)
    refine O_go (gy rfl rfl rfl) (St.vl (vl_is (b' := true) (vl_ieq rfl rfl) (decide_eq_true (by omega))) rfl rfl ?_)
    refine O_go (gn rfl) (St.vl (vl_pick_t rfl rfl) rfl rfl ?_)
    refine O_end [2, 4, 7, 8, 63] (F' := [(2, _), (4, _), (7, _), (8, _), (63, _)]) rfl ?_
    refine W_cond_true rfl ?_
    refine W_seq ?_
    refine W_region ?_
    refine O_go (gn rfl) (St.vl (vl_build pl48 zr48 rfl (vs := []) rfl (css := []) trivial rfl rfl (cs := [_]) rfl) rfl rfl ?_)
    refine O_go (gn rfl) (st_store sz48 rfl rfl rfl rfl hk4x (by simp) (by intro u hu; simp at hu; subst hu; rfl) ?_)
    intro wF nF cF kF
    refine O_end [4] (F' := [(4, _)]) rfl ?_
    refine W_ret ?_
    refine then_ret ?_
    refine retC rfl ag48 sz48 rfl rfl (Cells.of_blk0 kF) ?_
    exact ⟨⟨_, rfl, [], IsSl.nil _ _ _, trivial⟩, hcw.own cF (by intro x hx; simp at hx; omega)⟩
  refine W_seq_cut (fun F' w' => F' = [(2, .pointer (some ⟨b2, 0, none⟩)), (4, .pointer (some ⟨b4, 0, none⟩)), (7, .int .i64 a), (8, .slice q l'.length d)] ∧ w' = wx) ?_ ?_
  · refine W_seq ?_
    by_cases h0 : l'.length = 0
    · refine W_region ?_
      refine O_go (gn rfl) (St.vl (vl_move rfl) rfl rfl ?_)
      refine O_go (gn rfl) (St.vl (vl_len sl53 rfl) rfl rfl ?_)
      refine O_go (gn rfl) (St.vl (vl_is (b' := true) (vl_ieq rfl rfl) (decide_eq_true (by omega))) rfl rfl ?_)
      refine O_go (gn rfl) (St.vl (vl_move rfl) rfl rfl ?_)
      refine O_go (gy rfl rfl rfl) (St.vl (vl_fieldAddr fo48_0 rfl) rfl rfl ?_)
      refine O_go (gy rfl rfl rfl) (St.vl (vl_load ag46 rfl (hkx.cell' rfl)) rfl rfl ?_)
      refine O_go (gy rfl rfl rfl) (St.vl (vl_len sl46 rfl) rfl rfl ?_)
      refine O_go (gy rfl rfl rfl) (St.vl (vl_is (b' := false) (vl_ieq rfl rfl) (decide_eq_false (by omega))) rfl rfl ?_)
      refine O_go (gn rfl) (St.vl (vl_pick_t rfl rfl) rfl rfl ?_)
      refine O_end [2, 4, 7, 8, 63] (F' := [(2, _), (4, _), (7, _), (8, _), (63, _)]) rfl ?_
      refine W_cond_false rfl ?_
      refine W_prune [2, 4, 7, 8] rfl ?_
      refine W_skipE ?_
      exact ⟨rfl, rfl⟩
    · refine W_region ?_
      refine O_go (gn rfl) (St.vl (vl_move rfl) rfl rfl ?_)
      refine O_go (gn rfl) (St.vl (vl_len sl53 rfl) rfl rfl ?_)
      refine O_go (gn rfl) (St.vl (vl_is (b' := false) (vl_ieq rfl rfl) (decide_eq_false (by omega))) rfl rfl ?_)
      refine O_go (gn rfl) (St.vl (vl_move rfl) rfl rfl ?_)
      refine O_guard_no rfl rfl rfl rfl rfl rfl ?_
      refine O_guard_no rfl rfl rfl rfl rfl rfl ?_
      refine O_guard_no rfl rfl rfl rfl rfl rfl ?_
      refine O_guard_no rfl rfl rfl rfl rfl rfl ?_
      refine O_go (gn rfl) (St.vl (vl_pick_f rfl rfl) rfl rfl ?_)
      refine O_end [2, 4, 7, 8, 63] (F' := [(2, _), (4, _), (7, _), (8, _), (63, _)]) rfl ?_
      refine W_cond_false rfl ?_
      refine W_prune [2, 4, 7, 8] rfl ?_
      refine W_skipE ?_
      exact ⟨rfl, rfl⟩
  rintro F' w' ⟨rfl, rfl⟩
  refine W_seq ?_
  refine W_region ?_
  refine O_go (gn rfl) (St.vl (vl_loadAgg ag48 sz48 rfl rfl (Cells.of_blk0 hkx)) rfl rfl ?_)
  refine O_go (gn rfl) (St.vl (vl_move rfl) rfl rfl ?_)
  refine O_go (gn rfl) (St.vl (vl_move rfl) rfl rfl ?_)
  refine O_go (gn rfl) (St.vl (vl_eq (v' := .int .i64 ((a + 1 : Nat) : Int)) (vl_add rfl rfl (by omega)) (by congr 1)) rfl rfl ?_)
  refine O_go (gn rfl) (St.vl (vl_move rfl) rfl rfl ?_)
  refine O_go (gn rfl) (st_buildSlice ap46 rfl (vs := [_]) rfl (css := [_]) ⟨rfl, trivial⟩ rfl rfl (cs := [_]) rfl rfl ?_)
  intro b70 w70 e70 n70 c70 k70
  refine O_go (gn rfl) (st_call bd47 rfl rfl rfl rfl (f47 _ _ ls [l'] a (a + 1) w70 (hpx.chg0 c70) (RPg.one k70 (ho.chg0 c70)) (by omega) (by omega) (by omega) (by simp)) ?_)
  rintro v71 w71 ⟨⟨v', rfl, hr'⟩, c71⟩
  have hml : (ls.take a ++ [l'] ++ ls.drop (a + 1)).length = ls.length := by simp; omega
  generalize hms : ls.take a ++ [l'] ++ ls.drop (a + 1) = ms at hr' hml
  obtain ⟨vs', hs', _⟩ := id hr'
  obtain ⟨p', d', rfl, _⟩ := hs'.val
  refine O_go (gn rfl) (st_store sz48 rfl rfl rfl rfl (hkx.chg0 (c70.trans c71)) (by simp) (by intro u hu; simp at hu; subst hu; rfl) ?_)
  intro wM nM cM kM
  refine O_end [2, 4, 7, 8] (F' := [(2, _), (4, _), (7, _), (8, _)]) rfl ?_
  have hkM : Blk wM b2 48 [.slice p' ms.length d'] := kM
  have hb24 : b4 ≠ b2 := by omega
  have hk4M : Blk wM b4 48 [.slice none 0 0] := (hk4x.chg0 (c70.trans c71)).chg cM (by simp; exact hb24)
  have hrM := hr'.chg1 (hkx.chg0 (c70.trans c71)) rfl rfl cM
  have hcM : Chg [] w wM := (hcw.trans (c70.trans c71)).own cM (by intro x hx; simp at hx; omega)
  have hoM : RList wM (.slice q l'.length d) l' := (ho.chg0 (c70.trans c71)).chg cM (IsSl.apart (ho.chg0 (c70.trans c71)) (hkx.chg0 (c70.trans c71)) rfl)
  clear hl hc hof hr' ho hlc
  by_cases hB : 3 ≤ l'.length ∨ ls.length = 1
  · have e : settle ls a l' = ms := by unfold settle; rw [if_pos (by omega), hms]
    rw [e]
    refine W_seq ?_
    by_cases h3 : 3 ≤ l'.length
    · refine W_seq ?_
      refine W_region ?_
      refine O_go (gn rfl) (St.vl (vl_move rfl) rfl rfl ?_)
      refine O_go (gn rfl) (St.vl (vl_len sl53 rfl) rfl rfl ?_)
      refine O_go (gn rfl) (St.vl (vl_is (b' := true) (vl_geq rfl rfl) (decide_eq_true (by omega))) rfl rfl ?_)
      refine O_go (gn rfl) (St.vl (vl_move rfl) rfl rfl ?_)
      refine O_guard_no rfl rfl rfl rfl rfl rfl ?_
      refine O_guard_no rfl rfl rfl rfl rfl rfl ?_
      refine O_guard_no rfl rfl rfl rfl rfl rfl ?_
      refine O_guard_no rfl rfl rfl rfl rfl rfl ?_
      refine O_go (gn rfl) (St.vl (vl_pick_t rfl rfl) rfl rfl ?_)
      refine O_end [2, 4, 7, 80] (F' := [(2, _), (4, _), (7, _), (80, _)]) rfl ?_
      refine W_cond_true rfl ?_
      refine W_seq ?_
      refine W_region ?_
      refine O_go (gn rfl) (St.vl (vl_loadAgg ag48 sz48 rfl rfl (Cells.of_blk0 hkM)) rfl rfl ?_)
      refine O_go (gn rfl) (st_store sz48 rfl rfl rfl rfl hk4M (by simp) (by intro u hu; simp at hu; subst hu; rfl) ?_)
      intro wF nF cF kF
      refine O_end [4] (F' := [(4, _)]) rfl ?_
      refine W_ret ?_
      refine then_ret ?_
      refine retC rfl ag48 sz48 rfl rfl (Cells.of_blk0 kF) ?_
      exact ⟨⟨_, rfl, hrM.chg1 hk4M rfl rfl cF⟩, hcM.own cF (by intro x hx; simp at hx; omega)⟩
    · refine W_seq ?_
      refine W_region ?_
      refine O_go (gn rfl) (St.vl (vl_move rfl) rfl rfl ?_)
      refine O_go (gn rfl) (St.vl (vl_len sl53 rfl) rfl rfl ?_)
      refine O_go (gn rfl) (St.vl (vl_is (b' := false) (vl_geq rfl rfl) (decide_eq_false (by omega))) rfl rfl ?_)
      refine O_go (gn rfl) (St.vl (vl_move rfl) rfl rfl ?_)
      refine O_go (gy rfl rfl rfl) (St.vl (vl_fieldAddr fo48_0 rfl) rfl rfl ?_)
      refine O_go (gy rfl rfl rfl) (St.vl (vl_load ag46 rfl (hkM.cell' rfl)) rfl rfl ?_)
      refine O_go (gy rfl rfl rfl) (St.vl (vl_len sl46 rfl) rfl rfl ?_)
      refine O_go (gy rfl rfl rfl) (St.vl (vl_is (b' := true) (vl_ieq rfl rfl) (decide_eq_true (by omega))) rfl rfl ?_)
      refine O_go (gn rfl) (St.vl (vl_pick_f rfl rfl) rfl rfl ?_)
      refine O_end [2, 4, 7, 80] (F' := [(2, _), (4, _), (7, _), (80, _)]) rfl ?_
      refine W_cond_true rfl ?_
      refine W_seq ?_
      refine W_region ?_
      refine O_go (gn rfl) (St.vl (vl_loadAgg ag48 sz48 rfl rfl (Cells.of_blk0 hkM)) rfl rfl ?_)
      refine O_go (gn rfl) (st_store sz48 rfl rfl rfl rfl hk4M (by simp) (by intro u hu; simp at hu; subst hu; rfl) ?_)
      intro wF nF cF kF
      refine O_end [4] (F' := [(4, _)]) rfl ?_
      refine W_ret ?_
      refine then_ret ?_
      refine retC rfl ag48 sz48 rfl rfl (Cells.of_blk0 kF) ?_
      exact ⟨⟨_, rfl, hrM.chg1 hk4M rfl rfl cF⟩, hcM.own cF (by intro x hx; simp at hx; omega)⟩
  refine W_seq ?_
  refine W_seq ?_
  refine W_region ?_
  refine O_go (gn rfl) (St.vl (vl_move rfl) rfl rfl ?_)
  refine O_go (gn rfl) (St.vl (vl_len sl53 rfl) rfl rfl ?_)
  refine O_go (gn rfl) (St.vl (vl_is (b' := false) (vl_geq rfl rfl) (decide_eq_false (by omega))) rfl rfl ?_)
  refine O_go (gn rfl) (St.vl (vl_move rfl) rfl rfl ?_)
  refine O_go (gy rfl rfl rfl) (St.vl (vl_fieldAddr fo48_0 rfl) rfl rfl ?_)
  refine O_go (gy rfl rfl rfl) (St.vl (vl_load ag46 rfl (hkM.cell' rfl)) rfl rfl ?_)
  refine O_go (gy rfl rfl rfl) (St.vl (vl_len sl46 rfl) rfl rfl ?_)
  refine O_go (gy rfl rfl rfl) (St.vl (vl_is (b' := false) (vl_ieq rfl rfl) (decide_eq_false (by omega))) rfl rfl ?_)
  refine O_go (gn rfl) (St.vl (vl_pick_f rfl rfl) rfl rfl ?_)
  refine O_end [2, 4, 7, 80] (F' := [(2, _), (4, _), (7, _), (80, _)]) rfl ?_
  refine W_cond_false rfl ?_
  refine W_prune [2, 4, 7] rfl ?_
  refine W_skipE ?_
  -- the place of the two neighbours
  have hset : ms = ls.set a l' := by rw [← hms, List.set_eq_take_append_cons_drop, if_pos hat]; simp
  obtain ⟨k, x, y, hk, hx, hy, hse, hxl, hyl⟩ : ∃ (k : Nat) (x y : List Ent), k = (if a + 1 = ls.length then a - 1 else a) ∧ ms[k]? = some x ∧ ms[k + 1]? = some y ∧ settle ls a l' = ms.take k ++ joinL (x ++ y) ++ ms.drop (k + 2) ∧ x.length ≤ 8 ∧ y.length ≤ 8 := by
    by_cases hal' : a + 1 = ls.length
    · have ha1 : a - 1 < ls.length := by omega
      have hg : ls[a - 1]? = some ls[a - 1] := by simp [ha1]
      refine ⟨a - 1, ls[a - 1], l', by rw [if_pos hal'], ?_, ?_, ?_, hw.le _ (List.getElem_mem _), hl8⟩
      · rw [hset, List.getElem?_set_ne (by omega)]; exact hg
      · rw [hset, show a - 1 + 1 = a by omega, List.getElem?_set_self hat]
      · unfold settle
        rw [if_neg (by omega), if_neg (by omega), if_pos hal', nth_get hg, hset, List.take_set_of_le (by omega), List.drop_set_of_lt (by omega), show a - 1 + 2 = a + 1 by omega]
    · have ha1 : a + 1 < ls.length := by omega
      have hg : ls[a + 1]? = some ls[a + 1] := by simp [ha1]
      refine ⟨a, l', ls[a + 1], by rw [if_neg hal'], ?_, ?_, ?_, hl8, hw.le _ (List.getElem_mem _)⟩
      · rw [hset, List.getElem?_set_self hat]
      · rw [hset, List.getElem?_set_ne (by omega)]; exact hg
      · unfold settle
        rw [if_neg (by omega), if_neg (by omega), if_neg hal', nth_get hg, hset, List.take_set_of_le (by omega), List.drop_set_of_lt (by omega)]
  have hyn := (List.getElem?_eq_some_iff.1 hy).1
  rw [hse]
  refine W_seq_cut (fun F' w' => F' = [(2, .pointer (some ⟨b2, 0, none⟩)), (4, .pointer (some ⟨b4, 0, none⟩)), (7, .int .i64 k)] ∧ w' = wM) ?_ ?_
  · refine W_seq ?_
    by_cases hal' : a + 1 = ls.length
    · refine W_region ?_
      refine O_go (gn rfl) (St.vl (vl_move rfl) rfl rfl ?_)
      refine O_go (gn rfl) (St.vl (vl_fieldAddr fo48_0 rfl) rfl rfl ?_)
      refine O_go (gn rfl) (St.vl (vl_load ag46 rfl (hkM.cell' rfl)) rfl rfl ?_)
      refine O_go (gn rfl) (St.vl (vl_len sl46 rfl) rfl rfl ?_)
      refine O_go (gn rfl) (St.vl (vl_eq (v' := .int .i64 ((ms.length - 1 : Nat) : Int)) (vl_sub rfl rfl (by omega)) (by congr 1 <;> omega)) rfl rfl ?_)
      refine O_go (gn rfl) (St.vl (vl_is (b' := true) (vl_ieq rfl rfl) (decide_eq_true (by omega))) rfl rfl ?_)
      refine O_end [2, 4, 7, 87] (F' := [(2, _), (4, _), (7, _), (87, _)]) rfl ?_
      refine W_cond_true rfl ?_
      rw [if_pos hal'] at hk
      refine W_region ?_
      refine O_go (gn rfl) (St.vl (vl_move rfl) rfl rfl ?_)
      refine O_go (gn rfl) (St.vl (vl_eq (v' := .int .i64 ((a - 1 : Nat) : Int)) (vl_sub rfl rfl (by omega)) (by congr 1 <;> omega)) rfl rfl ?_)
      refine O_go (gn rfl) (St.vl (vl_assign rfl) rfl rfl ?_)
      refine O_end [2, 4, 7] (F' := [(2, _), (4, _), (7, _)]) rfl ?_
      subst hk
      exact ⟨rfl, rfl⟩
    · refine W_region ?_
      refine O_go (gn rfl) (St.vl (vl_move rfl) rfl rfl ?_)
      refine O_go (gn rfl) (St.vl (vl_fieldAddr fo48_0 rfl) rfl rfl ?_)
      refine O_go (gn rfl) (St.vl (vl_load ag46 rfl (hkM.cell' rfl)) rfl rfl ?_)
      refine O_go (gn rfl) (St.vl (vl_len sl46 rfl) rfl rfl ?_)
      refine O_go (gn rfl) (St.vl (vl_eq (v' := .int .i64 ((ms.length - 1 : Nat) : Int)) (vl_sub rfl rfl (by omega)) (by congr 1 <;> omega)) rfl rfl ?_)
      refine O_go (gn rfl) (St.vl (vl_is (b' := false) (vl_ieq rfl rfl) (decide_eq_false (by omega))) rfl rfl ?_)
      refine O_end [2, 4, 7, 87] (F' := [(2, _), (4, _), (7, _), (87, _)]) rfl ?_
      refine W_cond_false rfl ?_
      refine W_prune [2, 4, 7] rfl ?_
      refine W_skipE ?_
      rw [if_neg hal'] at hk
      subst hk
      exact ⟨rfl, rfl⟩
  rintro F' w' ⟨rfl, rfl⟩
  obtain ⟨bm, om, cm, px, cx, hv, hcx, hlx, _⟩ := hrM.at hx
  simp only [Value.slice.injEq] at hv
  obtain ⟨rfl, _, rfl⟩ := hv
  obtain ⟨bm2, om2, cm2, py, cy, hv, hcy, hly, _⟩ := hrM.at hy
  simp only [Value.slice.injEq, Option.some.injEq, Addr.mk.injEq] at hv
  obtain ⟨⟨rfl, rfl, _⟩, _, rfl⟩ := hv
  have hkn := (List.getElem?_eq_some_iff.1 hx).1
  have hd0 := Chg.drew [] w'
  refine W_seq ?_
  refine W_draw (fun wz => Chg [] w' wz) mix (by kernel_rfl) hd0 ?_
  refine t_st rfl (gn rfl) (st_buildSlice ap53 rfl (vs := []) rfl (css := []) trivial rfl rfl (cs := []) rfl rfl ?_)
  intro b90 w90 e90 n90 c90 k90
  have h90 := hd0.trans c90
  refine ⟨.inl h90, ?_⟩
  refine t_pure rfl (gn rfl) (fun _ => vl_fieldAddr fo48_0 rfl) rfl rfl ?_
  refine t_read rfl (gn rfl) (fun wz hz => vl_load ag46 rfl ((hkM.chg0 hz).cell' rfl)) rfl rfl ?_
  refine t_pure rfl (gn rfl) (fun _ => vl_move rfl) rfl rfl ?_
  refine t_pure rfl (gn rfl) (fun _ => vl_indexAddr sl46 sz53 rfl rfl _ rfl hkn) rfl rfl ?_
  refine t_read rfl (gn rfl) (fun wz hz => vl_load ag53 rfl (hz.cell hcx)) rfl rfl ?_
  refine t_st rfl (gn rfl) (st_append ap53 sl53 rfl rfl (IsSl.of_blk (n := 0) k90 (by simp) (by simp [maxLen]) (by simp)) (hlx.chg0 h90) (by simp only [maxLen]; omega) (by omega) rfl ?_)
  intro v96 w96 i96 c96 o96 z96
  have hf90 : ∀ b ∈ blkOf (.slice (some ⟨b90, 0, none⟩) 0 0), w'.heap.size ≤ b := by simp [blkOf, ← e90]
  have h96 : Chg [] w' w96 := h90.own c96 hf90
  have hf96 := fresh_of o96 hf90 h90.size
  refine ⟨.inl h96, ?_⟩
  refine t_pure rfl (gn rfl) (fun _ => vl_fieldAddr fo48_0 rfl) rfl rfl ?_
  refine t_read rfl (gn rfl) (fun wz hz => vl_load ag46 rfl ((hkM.chg0 hz).cell' rfl)) rfl rfl ?_
  refine t_pure rfl (gn rfl) (fun _ => vl_move rfl) rfl rfl ?_
  refine t_pure rfl (gn rfl) (fun _ => vl_eq (v' := .int .i64 ((k + 1 : Nat) : Int)) (vl_add rfl rfl (by omega)) (by congr 1)) rfl rfl ?_
  refine t_pure rfl (gn rfl) (fun _ => vl_indexAddr sl46 sz53 rfl rfl _ rfl hyn) rfl rfl ?_
  refine t_read rfl (gn rfl) (fun wz hz => vl_load ag53 rfl (hz.cell hcy)) rfl rfl ?_
  refine t_st rfl (gn rfl) (st_append ap53 sl53 rfl rfl i96 (hly.chg0 h96) (by simp only [maxLen]; omega) (by omega) rfl ?_)
  intro v103 w103 i103 c103 o103 z103
  have h103 : Chg [] w' w103 := h96.own c103 hf96
  refine ⟨.inl h103, ?_⟩
  refine t_pure rfl (gn rfl) (fun _ => vl_assign rfl) rfl rfl ?_
  refine T_end [2, 4, 7, 10] (F' := [(2, _), (4, _), (7, _), (10, _)]) rfl ?_
  have hboth : RList w103 v103 (x ++ y) := by
    unfold RList
    rw [List.length_append, flat_append]
    simpa using i103
  have hbl : (x ++ y).length ≤ 16 := by simp; omega
  generalize x ++ y = both at hboth hbl
  obtain ⟨pb, db, rfl, hdb⟩ := IsSl.val hboth
  have hk2b := hkM.chg0 h103
  have hk4b := hk4M.chg0 h103
  have hrb := hrM.chg0 h103
  have hcb := hcM.trans h103
  refine W_seq ?_
  refine W_seq ?_
  refine W_region ?_
  refine O_go (gn rfl) (St.vl (vl_move rfl) rfl rfl ?_)
  refine O_go (gn rfl) (St.vl (vl_len sl53 rfl) rfl rfl ?_)
  refine O_go (gn rfl) (St.vl (vl_leq rfl rfl) rfl rfl ?_)
  refine O_end [2, 4, 7, 10, 106] (F' := [(2, _), (4, _), (7, _), (10, _), (106, _)]) rfl ?_
  refine W_cond rfl (fun hT => ?_) (fun hF => ?_)
  · have h8 : both.length ≤ 8 := by have := of_decide_eq_true hT; omega
    have e : joinL both = [both] := by unfold joinL; rw [if_pos h8]
    rw [e]
    refine W_seq ?_
    refine W_region ?_
    refine O_go (gn rfl) (St.vl (vl_loadAgg ag48 sz48 rfl rfl (Cells.of_blk0 hk2b)) rfl rfl ?_)
    refine O_go (gn rfl) (St.vl (vl_move rfl) rfl rfl ?_)
    refine O_go (gn rfl) (St.vl (vl_move rfl) rfl rfl ?_)
    refine O_go (gn rfl) (St.vl (vl_eq (v' := .int .i64 ((k + 2 : Nat) : Int)) (vl_add rfl rfl (by omega)) (by congr 1)) rfl rfl ?_)
    refine O_go (gn rfl) (St.vl (vl_move rfl) rfl rfl ?_)
    refine O_go (gn rfl) (st_buildSlice ap46 rfl (vs := [_]) rfl (css := [_]) ⟨rfl, trivial⟩ rfl rfl (cs := [_]) rfl rfl ?_)
    intro b112 w112 e112 n112 c112 k112
    refine O_go (gn rfl) (st_call bd47 rfl rfl rfl rfl (f47 _ _ ms [both] k (k + 2) w112 (hrb.chg0 c112) (RPg.one k112 (hboth.chg0 c112)) (by omega) (by omega) (by omega) (by simp)) ?_)
    rintro v113 w113 ⟨⟨v', rfl, hr'⟩, c113⟩
    obtain ⟨vs', hs', _⟩ := id hr'
    obtain ⟨p2, d2, rfl, _⟩ := hs'.val
    refine O_go (gn rfl) (st_store sz48 rfl rfl rfl rfl (hk4b.chg0 (c112.trans c113)) (by simp) (by intro u hu; simp at hu; subst hu; rfl) ?_)
    intro wF nF cF kF
    refine O_end [4] (F' := [(4, _)]) rfl ?_
    refine W_ret ?_
    refine then_ret ?_
    refine retC rfl ag48 sz48 rfl rfl (Cells.of_blk0 kF) ?_
    exact ⟨⟨_, rfl, hr'.chg1 (hk4b.chg0 (c112.trans c113)) rfl rfl cF⟩, (hcb.trans (c112.trans c113)).own cF (by intro x hx; simp at hx; omega)⟩
  · have h8 : ¬ both.length ≤ 8 := by have := of_decide_eq_false hF; omega
    have e : joinL both = [both.take (both.length / 2), both.drop (both.length / 2)] := by unfold joinL; rw [if_neg h8]
    rw [e]
    have hh2 : both.length / 2 ≤ both.length := by omega
    refine W_skipE ?_
    have hd1 := Chg.drew [] w103
    refine W_seq ?_
    refine W_draw (fun wz => Chg [] w103 wz) mix (by kernel_rfl) hd1 ?_
    refine t_read rfl (gn rfl) (fun wz hz => vl_loadAgg ag48 sz48 rfl rfl (Cells.of_blk0 (hk2b.chg0 hz))) rfl rfl ?_
    refine t_pure rfl (gn rfl) (fun _ => vl_move rfl) rfl rfl ?_
    refine t_pure rfl (gn rfl) (fun _ => vl_move rfl) rfl rfl ?_
    refine t_pure rfl (gn rfl) (fun _ => vl_eq (v' := .int .i64 ((k + 2 : Nat) : Int)) (vl_add rfl rfl (by omega)) (by congr 1)) rfl rfl ?_
    refine t_pure rfl (gn rfl) (fun _ => vl_move rfl) rfl rfl ?_
    refine t_pure rfl (gn rfl) (fun _ => vl_move rfl) rfl rfl ?_
    refine t_pure rfl (gn rfl) (fun _ => vl_len sl53 rfl) rfl rfl ?_
    refine t_pure rfl (gn rfl) (fun _ => vl_eq (v' := .int .i64 ((both.length / 2 : Nat) : Int)) (vl_quo rfl rfl (by omega) (by omega)) (by congr 1 <;> omega)) rfl rfl ?_
    refine t_pure rfl (gn rfl) (fun _ => vl_cut_h sl53 sz57 rfl rfl _ rfl (show both.length / 2 ≤ db by omega)) rfl rfl ?_
    refine t_pure rfl (gn rfl) (fun _ => vl_move rfl) rfl rfl ?_
    refine t_pure rfl (gn rfl) (fun _ => vl_move rfl) rfl rfl ?_
    refine t_pure rfl (gn rfl) (fun _ => vl_len sl53 rfl) rfl rfl ?_
    refine t_pure rfl (gn rfl) (fun _ => vl_eq (v' := .int .i64 ((both.length / 2 : Nat) : Int)) (vl_quo rfl rfl (by omega) (by omega)) (by congr 1 <;> omega)) rfl rfl ?_
    refine t_pure rfl (gn rfl) (fun _ => vl_cut_l sl53 sz57 rfl rfl _ rfl hh2) rfl rfl ?_
    refine t_st rfl (gn rfl) (st_buildSlice ap46 rfl (vs := [_, _]) rfl (css := [_, _]) ⟨rfl, rfl, trivial⟩ rfl rfl (cs := [_, _]) rfl rfl ?_)
    intro b128 w128 e128 n128 c128 k128
    refine ⟨.inl (hd1.trans c128), ?_⟩
    refine t_st rfl (gn rfl) (st_call bd47 rfl rfl rfl rfl (f47 _ _ ms [both.take (both.length / 2), both.drop (both.length / 2)] k (k + 2) w128 (hrb.chg0 (hd1.trans c128)) (RPg.two k128 (RList.cutL (hboth.chg0 (hd1.trans c128)) hh2 (by omega) (Nat.le_refl _)) (RList.cutR (hboth.chg0 (hd1.trans c128)) hh2 hdb)) (by omega) (by omega) (by omega) (by simp)) ?_)
    rintro v129 w129 ⟨⟨v', rfl, hr'⟩, c129⟩
    obtain ⟨vs', hs', _⟩ := id hr'
    obtain ⟨p2, d2, rfl, _⟩ := hs'.val
    refine ⟨.inl ((hd1.trans c128).trans c129), ?_⟩
    refine t_st rfl (gn rfl) (st_store sz48 rfl rfl rfl rfl (hk4b.chg0 ((hd1.trans c128).trans c129)) (by simp) (by intro u hu; simp at hu; subst hu; rfl) ?_)
    intro wF nF cF kF
    refine ⟨.inr (by kernel_rfl), ?_⟩
    refine T_end [4] (F' := [(4, _)]) rfl ?_
    refine W_ret ?_
    refine retC rfl ag48 sz48 rfl rfl (Cells.of_blk0 kF) ?_
    exact ⟨⟨_, rfl, hr'.chg1 (hk4b.chg0 ((hd1.trans c128).trans c129)) rfl rfl cF⟩, (hcb.trans ((hd1.trans c128).trans c129)).own cF (by intro x hx; simp at hx; omega)⟩
end Go.Wk

