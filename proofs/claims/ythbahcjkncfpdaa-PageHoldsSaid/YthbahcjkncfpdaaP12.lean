/-
  The document's pages: All, Get, at, with.
-/
import Derived.Test.YthbahcjkncfpdaaP11
namespace Go.Wk
open Go.Proofs
set_option maxRecDepth 10000

/-- v is a list of these entries, of the document's. -/
def RList (w : World) (v : Value) (es : List Ent) : Prop := IsSl w 57 2 v es.length (flat es)
theorem RList.chg0 {w w' : World} {v : Value} {es : List Ent} (h : RList w v es) (hc : Chg [] w w') : RList w' v es := IsSl.chg0 h hc
theorem RList.at' {w : World} {v : Value} {es : List Ent} (h : RList w v es) {i : Nat} {x : Ent} (hx : es[i]? = some x) : ∃ b off cap, v = .slice (some ⟨b, off, none⟩) es.length cap ∧ Cells w b (off + i * 2) [.string x.1, .string x.2] := by
  have hi : i < es.length := (List.getElem?_eq_some_iff.1 hx).1
  obtain ⟨b, off, cap, hv, hc⟩ := IsSl.atk h hi
  rw [flat_at hx] at hc
  exact ⟨b, off, cap, hv, hc⟩
/-- v are the document's pages with these lists. -/
def RPg (w : World) (v : Value) (ls : List (List Ent)) : Prop := ∃ us, IsSl w 53 1 v ls.length us ∧ AllS w 57 2 us (ls.map flat)
theorem RPg.chg0 {w w' : World} {v : Value} {ls : List (List Ent)} (h : RPg w v ls) (hc : Chg [] w w') : RPg w' v ls :=
  let ⟨us, h1, h2⟩ := h; ⟨us, h1.chg0 hc, h2.chg0 hc⟩
theorem half_flat (l : List Ent) : (flat l).length / 2 = l.length := by rw [length_flat]; omega
theorem RPg.at {w : World} {v : Value} {ls : List (List Ent)} (h : RPg w v ls) {i : Nat} {l : List Ent} (hi : ls[i]? = some l) :
    ∃ b off cap p c, v = .slice (some ⟨b, off, none⟩) ls.length cap ∧ w.cell? ⟨b, off + i * 1, none⟩ = some (.slice p l.length c) ∧ RList w (.slice p l.length c) l ∧ l.length ≤ c := by
  obtain ⟨us, h1, h2⟩ := h
  obtain ⟨b, off, cap, u, hv, hu, hc⟩ := h1.at1 (List.getElem?_eq_some_iff.1 hi).1
  obtain ⟨u', hu', hl⟩ := h2.at (show (ls.map flat)[i]? = some (flat l) by rw [List.getElem?_map, hi]; rfl)
  rw [hu] at hu'
  simp only [Option.some.injEq] at hu'
  subst hu'
  rw [half_flat] at hl
  obtain ⟨p, c, rfl, hlc⟩ := hl.val
  exact ⟨b, off, cap, p, c, hv, hc, hl, hlc⟩

theorem flat_mono (ls : List (List Ent)) {i : Nat} (h8 : ∀ l ∈ ls, l.length ≤ 8) (hi : i ≤ ls.length) (hn : ls.length ≤ 65536) : (ls.take i).flatten.length ≤ 524288 := by
  have := flat_len_le h8 i
  omega

theorem f36 (v : Value) (ls : List (List Ent)) (w : World) (hp : RPg w v ls) (h8 : ∀ l ∈ ls, l.length ≤ 8) (hn : ls.length ≤ 65536) :
    Ret Try.prog 36 #[.agg #[v]] w fun r w' => RList w' r ls.flatten ∧ Chg [] w w' := by
  obtain ⟨us, hsl, hal⟩ := id hp
  obtain ⟨p, c, rfl, _⟩ := hsl.val
  refine Ret.of_W (args := [_]) Try.func36 rfl rfl rfl rfl ?_

  refine W_seq ?_
  refine W_region ?_
  refine O_go (gn rfl) (st_box rfl rfl rfl ?_)
  intro b1 w1 e1 n1 c1 k1
  refine O_go (gn rfl) (St.vl (vl_assign rfl) rfl rfl ?_)
  refine O_end [1] (F' := [(1, _)]) rfl ?_
  refine W_seq ?_
  refine W_region ?_
  refine O_go (gn rfl) (St.vl (vl_assign rfl) rfl rfl ?_)
  refine O_end [1, 3] (F' := [(1, _), (3, _)]) rfl ?_
  refine W_seq ?_
  refine W_seq ?_
  refine W_region ?_
  refine O_go (gn rfl) (St.vl (vl_assign rfl) rfl rfl ?_)
  refine O_end [1, 3, 4] (F' := [(1, _), (3, _), (4, _)]) rfl ?_
  refine W_block ?_
  refine W_loop [1, 3, 4] (fun m F wx => Chg [] w1 wx ∧ ∃ (j : Nat) (out : Value), m = ls.length - j ∧ j ≤ ls.length ∧ F = [(1, .pointer (some ⟨b1, 0, none⟩)), (3, out), (4, .int .i64 j)] ∧ RList wx out (ls.take j).flatten ∧ (∀ b ∈ blkOf out, w1.heap.size ≤ b)) (m := ls.length - 0) ⟨Chg.refl _ _, 0, _, rfl, Nat.zero_le _, rfl, IsSl.nil _ _ _, by simp [blkOf]⟩ ?_
  rintro m F wx ⟨hcx, j, out, rfl, hj, rfl, ho, hof⟩
  have hk1 := k1.chg0 hcx
  refine W_seq ?_
  refine W_seq ?_
  refine W_region ?_
  refine O_go (gn rfl) (St.vl (vl_move rfl) rfl rfl ?_)
  refine O_go (gn rfl) (St.vl (vl_fieldAddr fo48_0 rfl) rfl rfl ?_)
  refine O_go (gn rfl) (St.vl (vl_load ag46 rfl (hk1.cell' rfl)) rfl rfl ?_)
  refine O_go (gn rfl) (St.vl (vl_len sl46 rfl) rfl rfl ?_)
  refine O_go (gn rfl) (St.vl (vl_lss rfl rfl) rfl rfl ?_)
  refine O_end [1, 3, 4, 9] (F' := [(1, _), (3, _), (4, _), (9, _)]) rfl ?_
  refine W_cond rfl (fun hT => ?_) (fun hF => ?_)
  · refine W_skipE ?_
    have hlt : j < ls.length := by simpa using hT
    have hx : ls[j]? = some ls[j] := by simp [hlt]
    have hx8 := h8 _ (List.mem_of_getElem? hx)
    have hm := flat_mono ls h8 hj hn
    generalize ls[j] = l at hx hx8
    obtain ⟨b, off, cap, pl, cl, hv, hc, hl, _⟩ := (hp.chg0 (c1.trans hcx)).at hx
    simp only [Value.slice.injEq] at hv
    obtain ⟨rfl, _, rfl⟩ := hv
    refine W_seq ?_
    refine W_block ?_
    refine W_region ?_
    refine O_go (gn rfl) (St.vl (vl_move rfl) rfl rfl ?_)
    refine O_go (gn rfl) (St.vl (vl_fieldAddr fo48_0 rfl) rfl rfl ?_)
    refine O_go (gn rfl) (St.vl (vl_load ag46 rfl (hk1.cell' rfl)) rfl rfl ?_)
    refine O_go (gn rfl) (St.vl (vl_move rfl) rfl rfl ?_)
    refine O_go (gn rfl) (St.vl (vl_indexAddr sl46 sz53 rfl rfl _ rfl hlt) rfl rfl ?_)
    refine O_go (gn rfl) (St.vl (vl_load ag53 rfl hc) rfl rfl ?_)
    refine O_go (gn rfl) (st_append ap53 sl53 rfl rfl ho hl (by simp only [maxLen]; omega) (by omega) rfl ?_)
    intro v18 w18 i18 c18 o18 z18
    refine O_go (gn rfl) (St.vl (vl_assign rfl) rfl rfl ?_)
    refine O_endN [1, 3, 4] (F' := [(1, _), (3, _), (4, _)]) rfl ?_
    refine block_normal ?_
    refine W_region ?_
    refine O_go (gn rfl) (St.vl (vl_move rfl) rfl rfl ?_)
    refine O_go (gn rfl) (St.vl (vl_add rfl rfl (by omega)) rfl rfl ?_)
    refine O_go (gn rfl) (St.vl (vl_assign rfl) rfl rfl ?_)
    refine O_endN [1, 3, 4] (F' := [(1, _), (3, _), (4, _)]) rfl ?_
    refine ⟨ls.length - (j + 1), by omega, hcx.own c18 hof, j + 1, v18, rfl, by omega, rfl, ?_, ?_⟩
    · unfold RList
      rw [flat_take1 hx, List.length_append, flat_append]
      exact i18
    · rcases o18 with o18 | ⟨b', o18, hb'⟩
      · rw [o18]; exact hof
      · rw [o18]; intro y hy; simp at hy; subst hy; have := hcx.size; omega
  · refine W_exit ?_
    repeat (first | refine then_exit ?_ | refine blockF_other rfl ?_)
    refine blockF_exit _ ?_
    have he : j = ls.length := by
      have : ¬ (j < ls.length) := by simpa using hF
      omega
    subst he
    refine W_seq ?_
    refine W_region ?_
    refine O_go (gn rfl) (St.vl (vl_move rfl) rfl rfl ?_)
    refine O_go (gn rfl) (St.vl (vl_assign rfl) rfl rfl ?_)
    refine O_end [2] (F' := [(2, _)]) rfl ?_
    refine W_ret ?_
    refine ret1 rfl rfl ?_
    rw [List.take_length] at ho
    exact ⟨ho, c1.trans hcx⟩

/-! ### Get -/
def findE (es : List Ent) (key : ByteArray) : Option ByteArray := (es.find? fun x => decide (x.1 = key)).map (·.2)
theorem findE_hit {es : List Ent} {key : ByteArray} {i : Nat} {x : Ent} (h : findE (es.take i) key = none) (hx : es[i]? = some x) (he : x.1 = key) : findE es key = some x.2 := by
  have h1 : es.drop i = x :: es.drop (i + 1) := by
    obtain ⟨hl, rfl⟩ := List.getElem?_eq_some_iff.1 hx
    exact List.drop_eq_getElem_cons hl
  have h2 : es = es.take i ++ (x :: es.drop (i + 1)) := by rw [← h1]; exact (List.take_append_drop i es).symm
  unfold findE at h ⊢
  rw [h2, List.find?_append]
  simp only [Option.map_eq_none_iff] at h
  rw [h]
  simp [he]
theorem findE_miss {es : List Ent} {key : ByteArray} {i : Nat} {x : Ent} (h : findE (es.take i) key = none) (hx : es[i]? = some x) (he : x.1 ≠ key) : findE (es.take (i + 1)) key = none := by
  unfold findE at h ⊢
  simp only [Option.map_eq_none_iff] at h ⊢
  rw [List.take_add_one, hx, List.find?_append, h]
  simp [he]

theorem f33 (v : Value) (ls : List (List Ent)) (key : ByteArray) (w : World) (hp : RPg w v ls) (h8 : ∀ l ∈ ls, l.length ≤ 8) (hn : ls.length ≤ 65536) :
    Ret Try.prog 33 #[.agg #[v], .string key] w fun r w' => r = .tuple #[.string ((findE ls.flatten key).getD ⟨#[]⟩), .bool (findE ls.flatten key).isSome] ∧ Chg [] w w' := by
  have hm := flat_mono ls h8 (Nat.le_refl _) hn
  rw [List.take_length] at hm
  refine Ret.of_W (args := [_, _]) Try.func33 rfl rfl rfl rfl ?_
  obtain ⟨us, hsl, hal⟩ := id hp
  obtain ⟨p, c, rfl, _⟩ := hsl.val

  refine W_seq ?_
  refine W_region ?_
  refine O_go (gn rfl) (st_box rfl rfl rfl ?_)
  intro b2 w2 e2 n2 c2 k2
  refine O_go (gn rfl) (St.vl (vl_assign rfl) rfl rfl ?_)
  refine O_go (gn rfl) (St.vl (vl_assign rfl) rfl rfl ?_)
  refine O_end [1, 2] (F' := [(1, _), (2, _)]) rfl ?_
  refine W_seq ?_
  refine W_region ?_
  refine O_go (gn rfl) (St.vl (vl_loadAgg ag48 sz48 rfl rfl (Cells.of_blk0 k2)) rfl rfl ?_)
  refine O_go (gn rfl) (st_call bd36 rfl rfl rfl rfl (f36 _ ls _ (hp.chg0 c2) h8 hn) ?_)
  rintro v9 w9 ⟨hl, c9⟩
  refine O_go (gn rfl) (St.vl (vl_assign rfl) rfl rfl ?_)
  refine O_end [1, 6] (F' := [(1, _), (6, _)]) rfl ?_
  generalize ls.flatten = es at *
  obtain ⟨q, d, rfl, _⟩ := IsSl.val hl
  refine W_seq ?_
  refine W_seq ?_
  refine W_region ?_
  refine O_go (gn rfl) (St.vl (vl_assign rfl) rfl rfl ?_)
  refine O_end [1, 6, 7] (F' := [(1, _), (6, _), (7, _)]) rfl ?_
  refine W_block ?_
  refine W_loop [1, 6, 7] (fun m F wx => wx = w9 ∧ ∃ (i : Nat), m = es.length - i ∧ i ≤ es.length ∧ F = [(1, .string key), (6, .slice q es.length d), (7, .int .i64 i)] ∧ findE (es.take i) key = none) (m := es.length - 0) ⟨rfl, 0, rfl, Nat.zero_le _, rfl, rfl⟩ ?_
  rintro m F wx ⟨rfl, i, rfl, hi, rfl, hno⟩
  refine W_seq ?_
  refine W_seq ?_
  refine W_region ?_
  refine O_go (gn rfl) (St.vl (vl_move rfl) rfl rfl ?_)
  refine O_go (gn rfl) (St.vl (vl_move rfl) rfl rfl ?_)
  refine O_go (gn rfl) (St.vl (vl_len sl53 rfl) rfl rfl ?_)
  refine O_go (gn rfl) (St.vl (vl_lss rfl rfl) rfl rfl ?_)
  refine O_end [1, 6, 7, 13] (F' := [(1, _), (6, _), (7, _), (13, _)]) rfl ?_
  refine W_cond rfl (fun hT => ?_) (fun hF => ?_)
  · refine W_skipE ?_
    have hlt : i < es.length := by simpa using hT
    have hx : es[i]? = some es[i] := by simp [hlt]
    generalize es[i] = x at hx
    obtain ⟨b, off, cap, hv, hc⟩ := hl.at' hx
    simp only [Value.slice.injEq] at hv
    obtain ⟨rfl, _, rfl⟩ := hv
    refine W_seq ?_
    refine W_block ?_
    refine W_seq ?_
    refine W_region ?_
    refine O_go (gn rfl) (St.vl (vl_move rfl) rfl rfl ?_)
    refine O_go (gn rfl) (St.vl (vl_move rfl) rfl rfl ?_)
    refine O_go (gn rfl) (St.vl (vl_indexAddr sl53 sz57 rfl rfl _ rfl hlt) rfl rfl ?_)
    refine O_go (gn rfl) (St.vl (vl_fieldAddr fo57_0 rfl) rfl rfl ?_)
    refine O_go (gn rfl) (St.vl (vl_load ag9 rfl (hc 0 _ rfl)) rfl rfl ?_)
    refine O_go (gn rfl) (St.vl (vl_move rfl) rfl rfl ?_)
    refine O_go (gn rfl) (St.vl (vl_seq rfl rfl) rfl rfl ?_)
    refine O_end [1, 6, 7, 22] (F' := [(1, _), (6, _), (7, _), (22, _)]) rfl ?_
    refine W_cond rfl (fun hT => ?_) (fun hF => ?_)
    · refine W_seq ?_
      refine W_region ?_
      refine O_go (gn rfl) (St.vl (vl_move rfl) rfl rfl ?_)
      refine O_go (gn rfl) (St.vl (vl_move rfl) rfl rfl ?_)
      refine O_go (gn rfl) (St.vl (vl_indexAddr sl53 sz57 rfl rfl _ rfl hlt) rfl rfl ?_)
      refine O_go (gn rfl) (St.vl (vl_fieldAddr fo57_1 rfl) rfl rfl ?_)
      refine O_go (gn rfl) (St.vl (vl_load ag9 rfl (hc 1 _ rfl)) rfl rfl ?_)
      refine O_go (gn rfl) (St.vl (vl_assign rfl) rfl rfl ?_)
      refine O_go (gn rfl) (St.vl (vl_assign rfl) rfl rfl ?_)
      refine O_end [4, 5] (F' := [(4, _), (5, _)]) rfl ?_
      refine W_ret ?_
      repeat (first | refine then_ret ?_ | refine block_ret ?_)
      refine ret2 rfl rfl rfl ?_
      rw [findE_hit hno hx (of_decide_eq_true hT)]
      exact ⟨rfl, c2.trans c9⟩
    · refine W_skip ?_
      refine block_normal ?_
      refine W_region ?_
      refine O_go (gn rfl) (St.vl (vl_move rfl) rfl rfl ?_)
      refine O_go (gn rfl) (St.vl (vl_add rfl rfl (by omega)) rfl rfl ?_)
      refine O_go (gn rfl) (St.vl (vl_assign rfl) rfl rfl ?_)
      refine O_endN [1, 6, 7] (F' := [(1, _), (6, _), (7, _)]) rfl ?_
      exact ⟨es.length - (i + 1), by omega, rfl, i + 1, rfl, by omega, rfl, findE_miss hno hx (of_decide_eq_false hF)⟩
  · refine W_exit ?_
    repeat (first | refine then_exit ?_ | refine blockF_other rfl ?_)
    refine blockF_exit _ ?_
    have he : i = es.length := by
      have : ¬ (i < es.length) := by simpa using hF
      omega
    subst he
    refine W_seq ?_
    refine W_region ?_
    refine O_go (gn rfl) (St.vl (vl_assign rfl) rfl rfl ?_)
    refine O_go (gn rfl) (St.vl (vl_assign rfl) rfl rfl ?_)
    refine O_end [4, 5] (F' := [(4, _), (5, _)]) rfl ?_
    refine W_ret ?_
    refine ret2 rfl rfl rfl ?_
    rw [List.take_length] at hno
    rw [hno]
    exact ⟨rfl, c2.trans c9⟩

/-! ### at -/
theorem takeWhile_iff {α : Type} (p : α → Bool) : ∀ (l : List α) (j : Nat) (x : α), l[j]? = some x → (j < (l.takeWhile p).length → p x = true) ∧ (j = (l.takeWhile p).length → p x = false)
  | [], j, x, h => by simp at h
  | a :: l, 0, x, h => by
    simp at h
    subst h
    cases hp : p a <;> simp [List.takeWhile, hp]
  | a :: l, j + 1, x, h => by
    have ih := takeWhile_iff p l j x (by simpa using h)
    cases hp : p a
    · simp [List.takeWhile, hp]
    · simpa [List.takeWhile, hp] using ih
theorem le_ble (a b : ByteArray) : (blt a b || decide (a = b)) = !blt b a := by
  cases h1 : blt a b
  · cases h2 : blt b a
    · simp [blt_total h1 h2]
    · have : a ≠ b := fun e => by subst e; rw [blt_irrefl] at h2; cases h2
      simp [this]
  · rw [blt_asymm h1]; simp
theorem cntN_iff {ls : List (List Ent)} {key : ByteArray} (hs : SrtF ls) {j : Nat} {l : List Ent} (h : ls[j]? = some l) : (!blt key (firstK l)) = true ↔ j < cntN ls key := by
  constructor
  · intro h1
    rcases Nat.lt_or_ge j (cntN ls key) with h2 | h2
    · exact h2
    · exfalso
      have hjl := (List.getElem?_eq_some_iff.1 h).1
      have h3 : cntN ls key < ls.length := by omega
      have h0 : ls[cntN ls key]? = some ls[cntN ls key] := by simp [h3]
      have hf := (takeWhile_iff _ ls _ _ h0).2 rfl
      rcases Nat.lt_or_ge (cntN ls key) j with h4 | h4
      · have h5 := hs.at h4 h0 h
        have h6 : blt key (firstK ls[cntN ls key]) = true := by simpa using hf
        rw [blt_trans h6 h5] at h1
        simp at h1
      · have : j = cntN ls key := by omega
        have hf2 := (takeWhile_iff (fun l => !blt key (firstK l)) ls _ _ h).2 this
        rw [hf2] at h1
        cases h1
  · intro h1
    exact (takeWhile_iff _ ls j l h).1 h1

theorem f46 (v : Value) (ls : List (List Ent)) (key : ByteArray) (w : World) (hp : RPg w v ls) (hne : ∀ l ∈ ls, l ≠ []) (hs : SrtF ls) (hn : ls.length ≤ 65536) :
    Ret Try.prog 46 #[.agg #[v], .string key] w fun r w' => r = .int .i64 (cntN ls key - 1 : Nat) ∧ Chg [] w w' := by
  obtain ⟨us, hsl, hal⟩ := id hp
  obtain ⟨p, c, rfl, _⟩ := hsl.val
  have hcl : cntN ls key ≤ ls.length := (List.takeWhile_prefix _).length_le
  refine Ret.of_W (args := [_, _]) Try.func46 rfl rfl rfl rfl ?_

  refine W_seq ?_
  refine W_region ?_
  refine O_go (gn rfl) (st_box rfl rfl rfl ?_)
  intro b2 w2 e2 n2 c2 k2
  refine O_go (gn rfl) (St.vl (vl_assign rfl) rfl rfl ?_)
  refine O_end [1, 2] (F' := [(1, _), (2, _)]) rfl ?_
  refine W_seq ?_
  refine W_region ?_
  refine O_go (gn rfl) (St.vl (vl_assign rfl) rfl rfl ?_)
  refine O_end [1, 2, 5] (F' := [(1, _), (2, _), (5, _)]) rfl ?_
  refine W_seq ?_
  refine W_seq ?_
  refine W_region ?_
  refine O_go (gn rfl) (St.vl (vl_assign rfl) rfl rfl ?_)
  refine O_end [1, 2, 5, 6] (F' := [(1, _), (2, _), (5, _), (6, _)]) rfl ?_
  refine W_block ?_
  refine W_loop [1, 2, 5, 6] (fun m F wx => wx = w2 ∧ ∃ (j : Nat), m = ls.length - j ∧ j ≤ ls.length ∧ F = [(1, .string key), (2, .pointer (some ⟨b2, 0, none⟩)), (5, .int .i64 (min j (cntN ls key) - 1 : Nat)), (6, .int .i64 j)]) (m := ls.length - 0) ⟨rfl, 0, rfl, Nat.zero_le _, by rw [Nat.zero_min]; rfl⟩ ?_
  rintro m F wx ⟨rfl, j, rfl, hj, rfl⟩
  refine W_seq ?_
  refine W_seq ?_
  refine W_region ?_
  refine O_go (gn rfl) (St.vl (vl_move rfl) rfl rfl ?_)
  refine O_go (gn rfl) (St.vl (vl_fieldAddr fo48_0 rfl) rfl rfl ?_)
  refine O_go (gn rfl) (St.vl (vl_load ag46 rfl (k2.cell' rfl)) rfl rfl ?_)
  refine O_go (gn rfl) (St.vl (vl_len sl46 rfl) rfl rfl ?_)
  refine O_go (gn rfl) (St.vl (vl_lss rfl rfl) rfl rfl ?_)
  refine O_end [1, 2, 5, 6, 11] (F' := [(1, _), (2, _), (5, _), (6, _), (11, _)]) rfl ?_
  refine W_cond rfl (fun hT => ?_) (fun hF => ?_)
  · refine W_skipE ?_
    have hlt : j < ls.length := by simpa using hT
    have hx : ls[j]? = some ls[j] := by simp [hlt]
    have hnl := hne _ (List.mem_of_getElem? hx)
    generalize ls[j] = l at hx hnl
    obtain ⟨b, off, cap, pl, cl, hv, hc, hl, _⟩ := (hp.chg0 c2).at hx
    simp only [Value.slice.injEq] at hv
    obtain ⟨rfl, _, rfl⟩ := hv
    cases l with
    | nil => exact absurd rfl hnl
    | cons x l =>
    obtain ⟨bl, ol, cl', hvl, hcl'⟩ := hl.at' (i := 0) rfl
    simp only [Value.slice.injEq] at hvl
    obtain ⟨rfl, _, rfl⟩ := hvl
    have hiff := cntN_iff (key := key) hs hx
    refine W_seq ?_
    refine W_block ?_
    refine W_seq ?_
    refine W_region ?_
    refine O_go (gn rfl) (St.vl (vl_fieldAddr fo48_0 rfl) rfl rfl ?_)
    refine O_go (gn rfl) (St.vl (vl_load ag46 rfl (k2.cell' rfl)) rfl rfl ?_)
    refine O_go (gn rfl) (St.vl (vl_move rfl) rfl rfl ?_)
    refine O_go (gn rfl) (St.vl (vl_indexAddr sl46 sz53 rfl rfl _ rfl hlt) rfl rfl ?_)
    refine O_go (gn rfl) (St.vl (vl_load ag53 rfl hc) rfl rfl ?_)
    refine O_go (gn rfl) (St.vl (vl_indexAddr sl53 sz57 rfl rfl 0 rfl (by simp)) rfl rfl ?_)
    refine O_go (gn rfl) (St.vl (vl_fieldAddr fo57_0 rfl) rfl rfl ?_)
    refine O_go (gn rfl) (St.vl (vl_load ag9 rfl (hcl' 0 _ rfl)) rfl rfl ?_)
    refine O_go (gn rfl) (St.vl (vl_move rfl) rfl rfl ?_)
    refine O_go (gn rfl) (St.vl (vl_sle rfl rfl) rfl rfl ?_)
    refine O_end [1, 2, 5, 6, 23] (F' := [(1, _), (2, _), (5, _), (6, _), (23, _)]) rfl ?_
    refine W_cond rfl (fun hT => ?_) (fun hF => ?_)
    · refine W_region ?_
      refine O_go (gn rfl) (St.vl (vl_move rfl) rfl rfl ?_)
      refine O_go (gn rfl) (St.vl (vl_assign rfl) rfl rfl ?_)
      refine O_endN [1, 2, 5, 6] (F' := [(1, _), (2, _), (5, _), (6, _)]) rfl ?_
      refine block_normal ?_
      refine W_region ?_
      refine O_go (gn rfl) (St.vl (vl_move rfl) rfl rfl ?_)
      refine O_go (gn rfl) (St.vl (vl_add rfl rfl (by omega)) rfl rfl ?_)
      refine O_go (gn rfl) (St.vl (vl_assign rfl) rfl rfl ?_)
      refine O_endN [1, 2, 5, 6] (F' := [(1, _), (2, _), (5, _), (6, _)]) rfl ?_
      have : j < cntN ls key := hiff.1 (by rw [le_ble] at hT; exact hT)
      refine ⟨ls.length - (j + 1), by omega, rfl, j + 1, rfl, by omega, ?_⟩
      rw [show min (j + 1) (cntN ls key) - 1 = j by omega]
      rfl
    · refine W_skip ?_
      refine block_normal ?_
      refine W_region ?_
      refine O_go (gn rfl) (St.vl (vl_move rfl) rfl rfl ?_)
      refine O_go (gn rfl) (St.vl (vl_add rfl rfl (by omega)) rfl rfl ?_)
      refine O_go (gn rfl) (St.vl (vl_assign rfl) rfl rfl ?_)
      refine O_endN [1, 2, 5, 6] (F' := [(1, _), (2, _), (5, _), (6, _)]) rfl ?_
      have : ¬ j < cntN ls key := fun h => by
        have := hiff.2 h
        rw [le_ble] at hF
        exact absurd (this.symm.trans hF) (by simp)
      refine ⟨ls.length - (j + 1), by omega, rfl, j + 1, rfl, by omega, ?_⟩
      rw [show min (j + 1) (cntN ls key) - 1 = min j (cntN ls key) - 1 by omega]
      rfl
  · refine W_exit ?_
    repeat (first | refine then_exit ?_ | refine blockF_other rfl ?_)
    refine blockF_exit _ ?_
    have he : j = ls.length := by
      have : ¬ (j < ls.length) := by simpa using hF
      omega
    subst he
    refine W_seq ?_
    refine W_region ?_
    refine O_go (gn rfl) (St.vl (vl_move rfl) rfl rfl ?_)
    refine O_go (gn rfl) (St.vl (vl_assign rfl) rfl rfl ?_)
    refine O_end [4] (F' := [(4, _)]) rfl ?_
    refine W_ret ?_
    refine ret1 rfl rfl ?_
    rw [Nat.min_eq_right hcl]
    exact ⟨rfl, c2⟩

/-! ### with -/
theorem f47 (v u : Value) (ls new : List (List Ent)) (fr un : Nat) (w : World) (hp : RPg w v ls) (hq : RPg w u new) (h1 : fr ≤ un) (h2 : un ≤ ls.length) (hb1 : ls.length ≤ 1048576) (hb2 : new.length ≤ 1048576) :
    Ret Try.prog 47 #[.agg #[v], .int .i64 fr, .int .i64 un, u] w fun r w' => (∃ v', r = .agg #[v'] ∧ RPg w' v' (ls.take fr ++ new ++ ls.drop un)) ∧ Chg [] w w' := by
  obtain ⟨vs, hsl, hal⟩ := hp
  obtain ⟨nvs, hnsl, hnal⟩ := hq
  obtain ⟨pv, cv, rfl, hlc⟩ := hsl.val
  obtain ⟨pn, cn, rfl, _⟩ := hnsl.val
  have hvl := hsl.len_xs
  have hnl := hnsl.len_xs
  have hA : IsSl w 53 1 (cut pv 0 fr cv 1) fr (vs.take fr) := by
    have := hsl.cut (l := 0) (h := fr) (m := cv) (Nat.zero_le _) (by omega) (by omega) (by omega)
    simpa using this
  have hC : IsSl w 53 1 (cut pv un ls.length cv 1) (ls.length - un) (vs.drop un) := by
    have := hsl.cut (l := un) (h := ls.length) (m := cv) (by omega) hlc (Nat.le_refl _) (Nat.le_refl _)
    have e : (vs.drop (un * 1)).take ((ls.length - un) * 1) = vs.drop un := by rw [Nat.mul_one, Nat.mul_one, List.take_of_length_le (by simp; omega)]
    rw [e] at this
    exact this
  refine Ret.of_W (args := [_, _, _, _]) Try.func47 rfl rfl rfl rfl ?_

  refine W_seq ?_
  refine W_region ?_
  refine O_go (gn rfl) (st_box rfl rfl rfl ?_)
  intro b4 w4 e4 n4 c4 k4
  refine O_go (gn rfl) (st_alloc zr48 rfl rfl ?_)
  intro b8 w8 e8 n8 c8 k8
  refine O_end [1, 2, 3, 4, 8] (F' := [(1, _), (2, _), (3, _), (4, _), (8, _)]) rfl ?_
  have hc8 : Chg [] w w8 := c4.trans c8
  refine W_seq ?_
  refine W_region ?_
  refine O_go (gn rfl) (st_buildSlice ap46 rfl (vs := []) rfl (css := []) trivial rfl rfl (cs := []) rfl rfl ?_)
  intro b10 w10 e10 n10 c10 k10
  refine O_go (gn rfl) (St.vl (vl_fieldAddr fo48_0 rfl) rfl rfl ?_)
  refine O_go (gn rfl) (St.vl (vl_load ag46 rfl ((k4.chg0 (c8.trans c10)).cell' rfl)) rfl rfl ?_)
  refine O_go (gn rfl) (St.vl (vl_move rfl) rfl rfl ?_)
  refine O_go (gn rfl) (St.vl (vl_cut_h sl46 sz53 rfl rfl _ rfl (by omega)) rfl rfl ?_)
  refine O_go (gn rfl) (st_append ap46 sl46 rfl rfl (IsSl.of_blk (n := 0) k10 (by simp) (by simp [maxLen]) (by simp)) (hA.chg0 (hc8.trans c10)) (by simp only [maxLen]; omega) (by omega) rfl ?_)
  intro v15 w15 i15 c15 o15 z15
  refine O_go (gn rfl) (St.vl (vl_assign rfl) rfl rfl ?_)
  refine O_end [2, 3, 4, 8, 9] (F' := [(2, _), (3, _), (4, _), (8, _), (9, _)]) rfl ?_
  have hc15 : Chg [] w8 w15 := c10.own c15 (by simp [blkOf, ← e10])
  have hf15 : ∀ b ∈ blkOf v15, w8.heap.size ≤ b := by
    rcases o15 with o15 | ⟨b, o15, hb⟩
    · rw [o15]; simp [blkOf, ← e10]
    · rw [o15]; intro x hx; simp at hx; subst hx; have := c10.size; omega
  have hcD : Chg [] w15 w15.drew := Chg.drew [] _
  refine W_seq ?_
  refine W_draw (fun wz => Chg [] w8 wz) mix (by kernel_rfl) (hc15.trans hcD) ?_
  refine t_pure rfl (gn rfl) (fun _ => vl_move rfl) rfl rfl ?_
  refine t_pure rfl (gn rfl) (fun _ => vl_move rfl) rfl rfl ?_
  refine t_st rfl (gn rfl) (st_append ap46 sl46 rfl rfl (i15.chg0 hcD) (hnsl.chg0 ((hc8.trans hc15).trans hcD)) (by simp only [maxLen]; omega) (by omega) rfl ?_)
  intro v18 w18 i18 c18 o18 z18
  have hc18 : Chg [] w8 w18 := (hc15.trans hcD).own c18 hf15
  have hf18 := fresh_of o18 hf15 (hc15.trans hcD).size
  refine ⟨.inl hc18, ?_⟩
  refine t_pure rfl (gn rfl) (fun _ => vl_fieldAddr fo48_0 rfl) rfl rfl ?_
  refine t_read rfl (gn rfl) (fun wz hz => vl_load ag46 rfl ((k4.chg0 (c8.trans hz)).cell' rfl)) rfl rfl ?_
  refine t_pure rfl (gn rfl) (fun _ => vl_move rfl) rfl rfl ?_
  refine t_pure rfl (gn rfl) (fun _ => vl_cut_l sl46 sz53 rfl rfl _ rfl h2) rfl rfl ?_
  refine t_st rfl (gn rfl) (st_append ap46 sl46 rfl rfl i18 (hC.chg0 (hc8.trans hc18)) (by simp only [maxLen]; omega) (by omega) rfl ?_)
  intro v23 w23 i23 c23 o23 z23
  have hc23 : Chg [] w8 w23 := hc18.own c23 hf18
  obtain ⟨p23, q23, rfl, _⟩ := i23.val
  refine ⟨.inl hc23, ?_⟩
  refine t_pure rfl (gn rfl) (fun _ => vl_build pl48 zr48 rfl (vs := [_]) rfl (css := [_]) ⟨rfl, trivial⟩ rfl rfl (cs := [_]) rfl) rfl rfl ?_
  refine t_st rfl (gn rfl) (st_store sz48 rfl rfl rfl rfl (k8.chg0 hc23) (by simp) (by intro u hu; simp at hu; subst hu; rfl) ?_)
  intro wF nF cF kF
  refine ⟨.inr (by kernel_rfl), ?_⟩
  refine T_end [8] (F' := [(8, _)]) rfl ?_
  refine W_ret ?_
  have hlen : (ls.take fr ++ new ++ ls.drop un).length = fr + new.length + (ls.length - un) := by simp; omega
  have hcF : Chg [] w wF := (hc8.trans hc23).own cF (by intro x hx; simp at hx; have := c4.size; omega)
  refine retC rfl ag48 sz48 rfl rfl (Cells.of_blk0 kF) ?_
  refine ⟨⟨_, rfl, vs.take fr ++ nvs ++ vs.drop un, ?_, ?_⟩, hcF⟩
  · rw [hlen]
    have := i23.chg cF (i23.apart (k8.chg0 hc23) rfl)
    simp only [Nat.zero_add, List.nil_append] at this ⊢
    exact this
  · rw [List.map_append, List.map_append, List.map_take, List.map_drop]
    exact (((hal.take fr).append hnal).append (hal.drop un)).chg0 hcF
end Go.Wk

