/-
  schema.Sets: the sets, one by one.
  Layer table: New.
  Rows' bytes tell the row.
  Layer table: Same.
  Layer table: Same, walked.
  Layer table: what is told of none.
  The document's answers, layer 1: are values the same?
  Calls that only read, told of a table; what a turn that keeps the cells keeps of a table.
  The law's own small functions; the chapter's rows, reckoned.
-/
import Derived.Test.YtcnkdoecfljnlaaGreatDoorQ13
set_option linter.all false
namespace Go.Wk
open Go.Proofs
set_option maxRecDepth 10000

theorem Kr.chg0 {S : List Nat} {keep : TypeId → Bool} {B : Nat} {W W' : World} (hc : Chg [] W W') (hB : B ≤ W.heap.size) : Kr S keep B W W' := Kr.chg hc hB (by simp)
section
variable {S : List Nat} {keep : TypeId → Bool} {B : Nat} {W W' : World}
theorem Blk.kr {b : Nat} {e : TypeId} {c : List Value} (h : Blk W b e c) (hk : Kr S keep B W W') (he : keep e = true) : Blk W' b e c := hk.cells b _ _ _ h he
theorem IsSl.kr {e k n : Nat} {v : Value} {xs : List Value} (h : IsSl W e k v n xs) (hk : Kr S keep B W W') (he : keep e = true) : IsSl W' e k v n xs := by
  rcases h with h | ⟨b, off, cap, c, rfl, hs⟩
  · exact .inl h
  · exact .inr ⟨b, off, cap, c, rfl, ⟨hs.blk.kr hk he, hs.le, hs.max, hs.fit, hs.xs, hs.one⟩⟩
end
theorem HL.two {w : World} {b n : Nat} {v u : Value} {vu : List Value} (h : Blk w b 27 [v]) (hv : v.oneCell' = true) (hu : Rd w 1 u n vu) : HL w [.slice (some ⟨b, 0, none⟩) 1 1, u] [[v], vu] := by
  refine ⟨rfl, fun i x ls' h1 h2 => ?_⟩
  match i with
  | 0 =>
    simp at h1 h2
    subst h1 h2
    exact (IsSl.of_blk (n := 1) h rfl (by simp [maxLen]) (by intro y hy; simp at hy; subst hy; exact hv)).toRd
  | 1 =>
    simp at h1 h2
    subst h1 h2
    have := hu.len_xs
    rw [Nat.mul_one] at this
    rw [this]; exact hu
  | _ + 2 => simp at h1
theorem t_Sets (c k u : Value) (w : World) : Ret Tryz.prog 45 #[.agg #[c, k, u]] w fun r w' => ∃ b1, r = .func (.func 76) #[] #[.pointer (some ⟨b1, 0, none⟩)] ∧ w.heap.size ≤ b1 ∧ Blk w' b1 30 [c, k, u] ∧ Chg [] w w' := by
  refine Ret.of_W (args := [_]) Tryz.func45 rfl rfl rfl rfl ?_

  refine Sr ?_
  refine O_go (gn rfl) (st_box rfl rfl rfl ?_)
  intro b1 w1 e1 n1 c1 k1
  refine Oa rfl rfl (O_end [1] (F' := [(1, _)]) rfl (Sr ?_))
  refine Og (vl_func rfl rfl) rfl ?_
  refine Oa rfl rfl (O_end [2] (F' := [(2, _)]) rfl (W_ret ?_))
  refine ret1 rfl rfl ?_
  exact ⟨b1, rfl, by omega, k1, c1⟩
theorem t_sets_seq (w0 w : World) (h0w : Chg [] w0 w) (b1 : Nat) (c k u : Value) (s : Sch) (S0 : List Nat) (keep : TypeId → Bool) (h1 : Blk w b1 30 [c, k, u]) (hs : IsSch w0 c k u s) (hS0 : ∀ b ∈ S0, w0.heap.size ≤ b) (hr : rightS s = true)
    (kI : keep 3 = true) (kII : keep 27 = true) :
    SeqR Tryz.prog 76 #[.pointer (some ⟨b1, 0, none⟩)] (fun x : Nat × Value => #[.int .i64 x.1, x.2]) S0 keep (fun x W => ∃ st, (setsN s)[x.1]? = some st ∧ ArrS W 3 1 ics x.2 st ∧ ∀ b ∈ blkOf x.2, w.heap.size ≤ b) (fun xs _ => xs.map (·.1) = List.range (setsN s).length) (fun _ _ => True) (setsN s).length w := by
  intro l J Jx W hcw hJ hJx hY h0
  have hab : ∀ {pre : List (Nat × Value)} {W1 W2 : World}, Chg [] W1 W2 → J pre W1 → J pre W2 := fun hc hj => hJ _ _ _ none hj hc.grown0 (fun _ e => by cases e)
  have hn3 := (right_parts hr).2.1
  have hsl : (setsN s).length ≤ 4 := by simp [setsN]; omega
  refine CallsIn.mono (R := fun e W' => ∃ r, e = .returned r ∧ (fun (_ : Value) W' => (∃ xs : List (Nat × Value), xs.map (·.1) = List.range (setsN s).length ∧ J xs W') ∨ (∃ pre, True ∧ Jx pre W')) r W') ?_ (fun e W' ⟨u, he, h⟩ => ⟨⟨u, he⟩, h⟩)
  refine CallsIn.of_WX (args := [_, _]) Tryz.func76 rfl rfl rfl rfl (WX_of_W ?_)

  have h1W := h1.chg0 hcw
  refine W_scope ?_
  refine W_seq (Sr ?_)
  refine Og (vl_loadAgg ag30 sz30 rfl rfl (Cells.of_blk0 h1W)) rfl ?_
  refine O_go (gn rfl) (st_call bd43 rfl rfl rfl rfl (s_Check c k u s _ ((hs.chg0 h0w).chg0 hcw) (right_sm hr)) ?_)
  rintro v6 w6 ⟨h6, c6⟩
  rw [hr] at h6
  change v6 = .int .i64 0 at h6
  subst h6
  refine Og (vl_is (b' := false) (vl_ine rfl rfl) (ine_f (by omega))) rfl ?_
  refine O_end [0, 1, 7] (F' := [(0, _), (1, _), (7, _)]) rfl (W_cond_false rfl (W_skipE (W_seq ?_)))
  refine W_label ?_
  refine W_seq ?_
  have h1x := h1W.chg0 c6
  have hs6 := ((hs.chg0 h0w).chg0 hcw).chg0 c6
  obtain ⟨vu, ou, lu⟩ := id hs.uq
  have hvu : vu.length = s.uq.length := by have := ou.1.len_xs; simpa using this
  obtain ⟨pk, ck, rfl, _⟩ := id (Arr.val hs.key)
  have hflat : List.flatten (List.cons (List.cons (Value.slice pk s.key.length ck) []) (List.cons vu [])) = Value.slice pk s.key.length ck :: vu := by simp
  have hlen : (Value.slice pk s.key.length ck :: vu).length = (setsN s).length := by simp [setsN, hvu]
  obtain ⟨pu, cu, rfl, _⟩ := id (Arr2.val hs.uq)
  refine W_region (Og (vl_fieldAddr fo30_1 rfl) rfl ?_)
  refine Og (vl_load ag27 rfl (h1x.cell' rfl)) rfl ?_
  refine O_go (gn rfl) (st_buildSlice ap28 rfl (vs := [_]) rfl (css := [_]) ⟨rfl, trivial⟩ rfl rfl (cs := [_]) rfl rfl ?_)
  intro b10 w10 e10 n10 c10 k10
  refine Og (vl_fieldAddr fo30_2 rfl) rfl ?_
  refine Og (vl_load ag28 rfl ((h1x.chg0 c10).cell' rfl)) rfl ?_
  refine O_go (gn rfl) (st_buildSlice ap197 rfl (vs := [_, _]) rfl (css := [_, _]) ⟨rfl, rfl, trivial⟩ rfl rfl (cs := [_, _]) rfl rfl ?_)
  intro b13 w13 e13 n13 c13 k13
  refine O_go (gn rfl) (st_call bd77 rfl rfl rfl rfl (u_concat _ [.slice (some ⟨b10, 0, none⟩) 1 1, .slice pu s.uq.length cu] [ [.slice pk s.key.length ck], vu] _ (IsSl.of_blk (n := 2) k13 rfl (by simp [maxLen]) (by intro y hy; simp at hy; rcases hy with rfl | rfl <;> rfl)) (HL.two (n := s.uq.length) (k10.chg0 c13) rfl (Rd.chg0 (Rd.chg0 (Rd.chg0 (Rd.chg0 (Rd.chg0 ou.1 h0w) hcw) c6) c10) c13)) (by rw [hflat, hlen]; omega) (by simp)) ?_)
  rintro v14 w14 ⟨i14, f14', c14⟩
  rw [hflat, hlen] at i14
  obtain ⟨p14, q14, rfl, -⟩ := id (IsSl.val i14)
  refine Og (vl_len sl28 rfl) rfl (Om rfl rfl (O_end [0, 14, 15, 16] (F' := [(0, _), (14, _), (15, _), (16, _)]) rfl ?_))
  have hsW := hcw.size
  have hc14 : Chg [] W w14 := ((c6.trans c10).trans c13).trans c14
  have hs14 := hc14.size
  refine W_block ?_
  refine W_loop [0, 14, 15, 16] (fun m F wx => ∃ (j : Nat) (pre : List (Nat × Value)), m = (setsN s).length - j ∧ j ≤ (setsN s).length ∧ F = [(0, .func (.yield l) #[] #[]), (14, .slice p14 (setsN s).length q14), (15, .int .i64 (setsN s).length), (16, .int .i64 j)] ∧ Kr S0 keep w.heap.size w14 wx ∧ pre.map (·.1) = List.range j ∧ J pre wx) (m := (setsN s).length - 0) ⟨0, [], rfl, Nat.zero_le _, rfl, Kr.refl _ _ _ _, rfl, hab hc14 h0⟩ ?_
  rintro m F wx ⟨j, pre, rfl, hj, rfl, hkx, hpre, hJ0⟩
  have hpl : pre.length = j := by have := congrArg List.length hpre; simpa using this
  refine Sr (Og (vl_lss rfl rfl) rfl (O_end [0, 14, 15, 16, 17] (F' := [(0, _), (14, _), (15, _), (16, _), (17, _)]) rfl (W_seq ?_)))
  refine W_cond rfl (fun hT => ?_) (fun hF => ?_)
  · refine W_skipE ?_
    have hlt : j < (setsN s).length := by have := of_decide_eq_true hT; omega
    have hst : (setsN s)[j]? = some (setsN s)[j] := by simp [hlt]
    generalize (setsN s)[j] = st at hst
    have hstm : st ∈ setsN s := List.mem_of_getElem? hst
    have hst4 := (set_parts (sets_right hr st hstm)).1
    have hlow : Low w0 wx := fun b hb => by
      have hb2 : b < w.heap.size := Nat.lt_of_lt_of_le hb h0w.size
      rw [hkx.low b hb2 (fun hm => by have := hS0 b hm; omega)]
      exact ((h0w.trans hcw).trans hc14).block b hb (by simp)
    have ix : IsIntss wx (.slice p14 (setsN s).length q14) (setsN s) := ⟨_, (i14.kr hkx kII).toOu, Arr.low hs.key hlow, lu.low hlow⟩
    obtain ⟨b, off, cap, x, hv, hcell, hx⟩ := Arr2.at ix hst
    cases hv
    refine W_seq (W_block (Sr (Om rfl rfl ?_)))
    refine Og (vl_indexAddr sl28 sz27 rfl rfl _ rfl hlt) rfl ?_
    refine Og (vl_load ag27 rfl hcell) rfl ?_
    refine Oa rfl rfl (Oa rfl rfl (O_end [0, 3, 4, 14, 15, 16] (F' := [(0, _), (3, _), (4, _), (14, _), (15, _), (16, _)]) rfl (W_seq ?_)))
    have hsx := hkx.size
    refine W_regionX ?_
    refine Xm rfl rfl (Xm rfl rfl (Xm rfl rfl ?_))
    refine X_go (gn rfl) rfl (st_call bd78 rfl rfl rfl rfl (s_clone x st _ hx (by omega)) ?_)
    rintro v24 w24 ⟨i24, f24', c24⟩
    refine X_yield (gn rfl) rfl rfl rfl (hY pre (j, v24) w24 (hab c24 hJ0) ⟨st, hst, i24, fun b hb => by have := f24' b hb; omega⟩ (by omega)) ?_
    rintro v25 w25 hR25
    obtain ⟨b25, rfl, hb25⟩ := yb hR25
    refine ⟨_, rfl, ?_⟩
    refine X_go (gn rfl) rfl (St.vl (vl_not rfl) rfl rfl ?_)
    refine X_end [0, 14, 15, 16, 26] (F' := [(0, _), (14, _), (15, _), (16, _), (26, _)]) rfl ?_
    rcases hb25 with ⟨rfl, hJ25, hk25⟩ | ⟨rfl, hJ25⟩
    · refine W_cond_false rfl (W_skip (block_normal (W_region ?_)))
      refine Og (vl_add rfl rfl (by omega)) rfl ?_
      refine Om rfl rfl ?_
      refine O_endN [0, 14, 15, 16] (F' := [(0, _), (14, _), (15, _), (16, _)]) rfl ?_
      refine ⟨(setsN s).length - (j + 1), by omega, j + 1, pre ++ [(j, v24)], rfl, by omega, rfl, (hkx.trans (Kr.chg0 c24 (by omega))).trans hk25, ?_, hJ25⟩
      rw [List.map_append, hpre, List.range_succ]
      rfl
    · refine W_cond_true rfl ?_
      refine W_exit ?_
      repeat (first | refine then_exit ?_ | refine blockF_other rfl ?_)
      refine blockF_exit _ ?_
      refine scopeN ?_
      refine end0 rfl ?_
      exact .inr ⟨_, trivial, hJ25⟩
  · refine W_exit ?_
    repeat (first | refine then_exit ?_ | refine blockF_other rfl ?_)
    refine blockF_exit _ ?_
    refine scopeN ?_
    refine end0 rfl ?_
    have he : j = (setsN s).length := by have := of_decide_eq_false hF; omega
    subst he
    exact .inl ⟨_, hpre, hJ0⟩
end Go.Wk

namespace Go.Wk
open Go.Proofs
set_option maxRecDepth 10000

theorem Tells.nil {s : Sch} (h : rightS s = true) : ∀ {subs : List (List (List Ent))}, subs = (setsN s).map (fun _ => []) → Tells s [] [] subs := by
  rintro subs rfl
  have hw : WfP [] := ⟨by simp, by simp, by simp [Srt]⟩
  have hW : Wide [] := Wide.nil
  refine ⟨TabOk.nil h, rfl, hw, hW, ?_⟩
  induction setsN s with
  | nil => exact .nil
  | cons st sts ih => exact .cons ⟨hw, hW, by simp⟩ ih
section
variable {B : Nat} {W W' : World}
theorem ArrLS.bk {α : Type} {f : α → List Value} {e k : Nat} (hk : Bk B W W') : ∀ {vs : List Value} {ls : List (List α)}, ArrLS W e k f vs ls → ArrLS W' e k f vs ls
  | [], [], _ => trivial
  | _ :: _, _ :: _, h => ⟨IsSl.bk h.1 hk, ArrLS.bk hk h.2⟩
theorem AllL.bk (hk : Bk B W W') : ∀ {vs : List Value} {ls : List (List Ent)}, AllL W vs ls → AllL W' vs ls
  | [], [], _ => trivial
  | _ :: _, _ :: _, h => ⟨IsSl.bk h.1 hk, AllL.bk hk h.2⟩
theorem Pg.bk {p : Nat} {ls : List (List Ent)} (h : Pg W p ls) (hk : Bk B W W') : Pg W' p ls :=
  let ⟨v, h1, us, h2, h3⟩ := h; ⟨v, h1.bk hk, us, IsSl.bk h2 hk, h3.bk hk⟩
theorem TabPre.bk {w0 : World} {tb pm : Nat} {c k u o : Value} {ys : List (Value × Nat)} {main : List (List Ent)} {subs : List (List (List Ent))} (h : TabPre w0 W tb pm c k u o ys main subs) (hk : Bk B W W') : TabPre w0 W' tb pm c k u o ys main subs :=
  ⟨h.blk.bk hk, h.pg.bk hk, IsSl.bk h.sl hk, PgL.all (fun _ _ hp => hp.bk hk) h.pgs, h.nd, h.fr, h.fo, h.ft⟩
end
theorem ArrLS.notD {α : Type} {f : α → List Value} {w : World} {e k D : Nat} {x : Option (List Deferred)} (hD : w.heap[D]? = some (.deferred x)) : ∀ {vs : List Value} {ls : List (List α)}, ArrLS w e k f vs ls → ∀ v ∈ vs, ∀ b ∈ blkOf v, b ∉ [D]
  | [], [], _, v, hv => by simp at hv
  | v :: vs, l :: ls, h, u, hu => by
    rcases List.mem_cons.1 hu with rfl | hu
    · exact IsSl.notD h.1 hD
    · exact h.2.notD hD u hu
theorem AllL.notD {w : World} {D : Nat} {x : Option (List Deferred)} (hD : w.heap[D]? = some (.deferred x)) : ∀ {vs : List Value} {ls : List (List Ent)}, AllL w vs ls → ∀ v ∈ vs, ∀ b ∈ blkOf v, b ∉ [D]
  | [], [], _, v, hv => by simp at hv
  | v :: vs, l :: ls, h, u, hu => by
    rcases List.mem_cons.1 hu with rfl | hu
    · exact IsSl.notD h.1 hD
    · exact AllL.notD hD h.2 u hu
theorem t_NewE (c k u : Value) (s : Sch) (w : World) (hs : IsSch w c k u s) (hm : s.Sm) (hr : rightS s = false) : Ret Tryz.prog 10 #[.agg #[c, k, u]] w fun r w' => r = .tuple #[.pointer none, .int .i64 2] ∧ Chg [] w w' := by
  refine Ret.of_WM (args := [_]) Tryz.func10 rfl rfl rfl rfl ?_

  refine Sr ?_
  refine O_go (gn rfl) (st_box rfl rfl rfl ?_)
  intro b1 w1 e1 n1 c1 k1
  refine Oa rfl rfl (Oa rfl rfl (O_end [1] (F' := [(1, _)]) rfl (W_seq (Sr ?_))))
  refine Og (vl_loadAgg ag30 sz30 rfl rfl (Cells.of_blk0 k1)) rfl ?_
  refine O_go (gn rfl) (st_call bd43 rfl rfl rfl rfl (s_Check c k u s _ (hs.chg0 c1) hm) ?_)
  rintro v9 w9 ⟨h9, c9⟩
  rw [hr] at h9
  change v9 = .int .i64 2 at h9
  subst h9
  refine Oa rfl rfl (O_end [1, 4] (F' := [(1, _), (4, _)]) rfl (Sr (Om rfl rfl ?_)))
  refine Og (vl_is (b' := true) (vl_ine rfl rfl) (ine_t (by omega))) rfl ?_
  refine O_end [1, 4, 11] (F' := [(1, _), (4, _), (11, _)]) rfl (W_cond_true rfl (Sr (Om rfl rfl (Oa rfl rfl (Oa rfl rfl (O_end [2, 3] (F' := [(2, _), (3, _)]) rfl (W_ret ?_)))))))
  repeat (first | refine then_ret ?_ | refine block_ret ?_)
  refine retMT20 rfl rfl rfl ?_
  exact ⟨rfl, c1.trans c9⟩
set_option maxHeartbeats 1000000 in
theorem t_New (c k u : Value) (s : Sch) (w : World) (hs : IsSch w c k u s) (hr : rightS s = true) :
    Ret Tryz.prog 10 #[.agg #[c, k, u]] w fun r w' => ∃ t own, r = .tuple #[.pointer (some ⟨t, 0, none⟩), .int .i64 0] ∧ IsTab w' t own s [] ∧ w.heap.size ≤ t ∧ (∀ p ∈ own, w.heap.size ≤ p) ∧ Chg [] w w' := by
  have hn4 : (setsN s).length ≤ 4 := by have := (right_parts hr).2.1; simp [setsN]; omega
  refine Ret.of_WM (args := [_]) Tryz.func10 rfl rfl rfl rfl ?_

  refine Sr ?_
  refine O_go (gn rfl) (st_box rfl rfl rfl ?_)
  intro b1 w1 e1 n1 c1 k1
  refine Oa rfl rfl (Oa rfl rfl (O_end [1] (F' := [(1, _)]) rfl (W_seq (Sr ?_))))
  refine Og (vl_loadAgg ag30 sz30 rfl rfl (Cells.of_blk0 k1)) rfl ?_
  refine O_go (gn rfl) (st_call bd43 rfl rfl rfl rfl (s_Check c k u s _ (hs.chg0 c1) (right_sm hr)) ?_)
  rintro v9 w9 ⟨h9, c9⟩
  rw [hr] at h9
  change v9 = .int .i64 0 at h9
  subst h9
  refine Oa rfl rfl (O_end [1, 4] (F' := [(1, _), (4, _)]) rfl (Sr (Om rfl rfl ?_)))
  refine Og (vl_is (b' := false) (vl_ine rfl rfl) (ine_f (by omega))) rfl ?_
  refine O_end [1, 4, 11] (F' := [(1, _), (4, _), (11, _)]) rfl (W_cond_false rfl (W_skipE ?_))
  have k1 : Blk w9 b1 30 [c, k, u] := k1.chg0 c9
  have hcA := c1.trans c9
  refine W_seq_cut (fun F wx => ∃ b5 b16 pm, F = [(1, .pointer (some ⟨b1, 0, none⟩)), (5, .pointer (some ⟨b5, 0, none⟩))] ∧ Blk wx b5 31 [.pointer (some ⟨b16, 0, none⟩)] ∧ TabPre w wx b16 pm c k u (.slice none 0 0) [] [] [] ∧ Chg [] w9 wx) ?_ ?_
  · have hsA := hcA.size
    have hC := (Chg.drew [] w9)
    refine W_drawF (fun wz => Chg [] w9 wz) (Tree.seq [1] (.two 0 (Tree.seq [2] (.two 3 (Tree.seq [4, 5] .done) 4 (Tree.seq [3, 5] .done))) 4 (Tree.seq [0, 2, 3, 5] .done))) mix (by kernel_rfl) hC ?_
    refine f_read rfl rfl (gn rfl) (fun wz hz => vl_loadAgg ag30 sz30 rfl rfl (Cells.of_blk0 (k1.chg0 hz))) rfl rfl ?_
    refine f_two ?_ ?_
    · refine f_st rfl rfl (gn rfl) (st_call bd44 rfl rfl rfl rfl (f9 _) ?_)
      rintro v13 w13 ⟨pm, rfl, hpm, p13, c13⟩
      have hN13 := hC.size
      have hC := hC.trans c13
      refine ⟨.inl hC, ?_⟩
      refine f_pure rfl rfl (gn rfl) (fun _ => vl_build pl98 zr98 rfl (vs := [_, _]) rfl (css := [_, _]) ⟨rfl, rfl, trivial⟩ rfl rfl (cs := [_, _, _, _, _]) rfl) rfl rfl ?_
      refine f_two ?_ ?_
      · refine f_st rfl rfl (gn rfl) (st_box rfl rfl rfl ?_)
        intro b16 w16 e16 n16 c16 k16
        have hN16 := hC.size
        have hC := hC.trans c16
        have p13 := p13.chg0 c16
        refine ⟨.inl hC, ?_⟩
        refine f_st rfl rfl (gn rfl) (st_alloc zr31 rfl rfl ?_)
        intro b5 w5 e5 n5 c5 k5
        have hN5 := hC.size
        have hC := hC.trans c5
        have k16 := k16.chg0 c5
        have p13 := p13.chg0 c5
        refine ⟨.inl hC, ?_⟩
        refine f_st rfl rfl (gn rfl) (st_store sz31 rfl rfl rfl rfl k5 (by simp) (by intro u hu; simp at hu; subst hu; rfl) ?_)
        intro wA nA cA kA
        have hC := hC.own cA (by intro y hy; simp at hy; omega)
        refine ⟨.inl hC, ?_⟩
        refine F_end [1, 5] (F' := [(1, _), (5, _)]) rfl ?_
        have hz1 := c13.size
        have hz2 := c5.size
        have hz3 := c16.size
        exact ⟨b5, b16, pm, rfl, kA, ⟨k16.chg cA (by simp; omega), p13.chgC k5 rfl rfl rfl cA, IsSl.nil _ _ _, trivial, by simp, by simp; omega, by simp [blkOf], by omega⟩, hC⟩
      · refine f_st rfl rfl (gn rfl) (st_alloc zr31 rfl rfl ?_)
        intro b5 w5 e5 n5 c5 k5
        have hN5 := hC.size
        have hC := hC.trans c5
        have p13 := p13.chg0 c5
        refine ⟨.inl hC, ?_⟩
        refine f_st rfl rfl (gn rfl) (st_box rfl rfl rfl ?_)
        intro b16 w16 e16 n16 c16 k16
        have hN16 := hC.size
        have hC := hC.trans c16
        have k5 := k5.chg0 c16
        have p13 := p13.chg0 c16
        refine ⟨.inl hC, ?_⟩
        refine f_st rfl rfl (gn rfl) (st_store sz31 rfl rfl rfl rfl k5 (by simp) (by intro u hu; simp at hu; subst hu; rfl) ?_)
        intro wA nA cA kA
        have hC := hC.own cA (by intro y hy; simp at hy; omega)
        refine ⟨.inl hC, ?_⟩
        refine F_end [1, 5] (F' := [(1, _), (5, _)]) rfl ?_
        have hz1 := c13.size
        have hz2 := c5.size
        have hz3 := c16.size
        exact ⟨b5, b16, pm, rfl, kA, ⟨k16.chg cA (by simp; omega), p13.chgC k5 rfl rfl rfl cA, IsSl.nil _ _ _, trivial, by simp, by simp; omega, by simp [blkOf], by omega⟩, hC⟩
    · refine f_st rfl rfl (gn rfl) (st_alloc zr31 rfl rfl ?_)
      intro b5 w5 e5 n5 c5 k5
      have hN5 := hC.size
      have hC := hC.trans c5
      refine ⟨.inl hC, ?_⟩
      refine f_st rfl rfl (gn rfl) (st_call bd44 rfl rfl rfl rfl (f9 _) ?_)
      rintro v13 w13 ⟨pm, rfl, hpm, p13, c13⟩
      have hN13 := hC.size
      have hC := hC.trans c13
      have k5 := k5.chg0 c13
      refine ⟨.inl hC, ?_⟩
      refine f_pure rfl rfl (gn rfl) (fun _ => vl_build pl98 zr98 rfl (vs := [_, _]) rfl (css := [_, _]) ⟨rfl, rfl, trivial⟩ rfl rfl (cs := [_, _, _, _, _]) rfl) rfl rfl ?_
      refine f_st rfl rfl (gn rfl) (st_box rfl rfl rfl ?_)
      intro b16 w16 e16 n16 c16 k16
      have hN16 := hC.size
      have hC := hC.trans c16
      have k5 := k5.chg0 c16
      have p13 := p13.chg0 c16
      refine ⟨.inl hC, ?_⟩
      refine f_st rfl rfl (gn rfl) (st_store sz31 rfl rfl rfl rfl k5 (by simp) (by intro u hu; simp at hu; subst hu; rfl) ?_)
      intro wA nA cA kA
      have hC := hC.own cA (by intro y hy; simp at hy; omega)
      refine ⟨.inl hC, ?_⟩
      refine F_end [1, 5] (F' := [(1, _), (5, _)]) rfl ?_
      have hz1 := c13.size
      have hz2 := c5.size
      have hz3 := c16.size
      exact ⟨b5, b16, pm, rfl, kA, ⟨k16.chg cA (by simp; omega), p13.chgC k5 rfl rfl rfl cA, IsSl.nil _ _ _, trivial, by simp, by simp; omega, by simp [blkOf], by omega⟩, hC⟩
  rintro F wx ⟨b5, b16, pm, rfl, kt, hpre, cx⟩
  have hcB := hcA.trans cx
  have k1x := k1.chg0 cx
  refine W_seq_cut (fun F wy => ∃ (D : Nat) (f18 : Value) (o : Value) (ys : List (Value × Nat)), F = [(1000000, .int .i64 D), (5, .pointer (some ⟨b5, 0, none⟩)), (18, f18)] ∧ w.heap.size ≤ D ∧ wy.heap[D]? = some (.deferred (some [])) ∧ Blk wy b5 31 [.pointer (some ⟨b16, 0, none⟩)] ∧ TabPre w wy b16 pm c k u o ys [] (ys.map fun _ => []) ∧ ArrLS wy 3 1 ics (ys.map (·.1)) (setsN s) ∧ Chg [] w wy) ?_ ?_
  · refine Sr ?_
    refine Og (vl_loadAgg ag30 sz30 rfl rfl (Cells.of_blk0 k1x)) rfl ?_
    refine O_go (gn rfl) (st_call bd45 rfl rfl rfl rfl (t_Sets c k u _) ?_)
    rintro v18 w18 ⟨p1, rfl, hp1, kp1, c18⟩
    refine O_end [5, 18] (F' := [(5, _), (18, _)]) rfl ?_
    have hcC := hcB.trans c18
    have hpre' := hpre.chg0 c18
    have kt' := kt.chg0 c18
    have hsC := hcC.size
    have hs18 := c18.size
    refine W_block ?_
    refine W_rangeR (α := Nat × Value) (gf := 76) (lb := [.pointer (some ⟨p1, 0, none⟩)]) (encs := fun x : Nat × Value => #[.int .i64 x.1, x.2]) (S0 := [b16]) (keep := fun e => Nat.beq e 3 || Nat.beq e 27) (N := (setsN s).length)
      (fun pre W => ∃ (o : Value) (ys : List (Value × Nat)), TabPre w W b16 pm c k u o ys [] (ys.map fun _ => []) ∧ (∀ b ∈ blkOf o, w18.heap.size ≤ b) ∧ ys.map (·.1) = pre.map (·.2) ∧ ArrLS W 3 1 ics (pre.map (·.2)) (pre.map fun x => ((setsN s)[x.1]?).getD []) ∧ Blk W b5 31 [.pointer (some ⟨b16, 0, none⟩)] ∧ Chg [b16] w18 W ∧ w18.heap.size ≤ W.heap.size)
      (fun _ _ _ => False)
      (fun x => [(20, x.2), (19, .int .i64 x.1), (5, .pointer (some ⟨b5, 0, none⟩)), (18, .func (.func 76) #[] #[.pointer (some ⟨p1, 0, none⟩)])])
      (fun x => [(5, .pointer (some ⟨b5, 0, none⟩)), (7, x.2), (20, x.2)])
      rfl bd76 (t_sets_seq w w18 hcC p1 c k u s [b16] _ kp1 hs (by intro b hb; simp at hb; subst hb; exact hpre.ft) hr rfl rfl) (fun _ => rfl) ?_ (fun _ _ _ _ h => h) (fun _ _ _ _ h => h) ?_ (fun _ _ _ _ _ h => h.elim) ?_ (fun _ _ h => h.choose_spec.choose_spec.2.2.2.2.2.2) ?_ ?_ ?_ ?_ (fun _ _ _ _ _ _ h => h.elim)
    · rintro x W W' hk ⟨st, h1, h2, h3⟩
      exact ⟨st, h1, IsSl.bk h2 hk, h3⟩
    · rintro pre W W' hk ⟨o, ys, h1, h2, h3, h4, h5, h6, h7⟩
      exact ⟨o, ys, h1.bk hk, h2, h3, h4.bk hk, h5.bk hk, h6.bk (Nat.le_refl _) hk, by obtain ⟨T, _, hc⟩ := hk; exact Nat.le_trans h7 hc.size⟩
    · exact ⟨_, [], hpre', by simp [blkOf], rfl, trivial, kt', Chg.refl _ _, Nat.le_refl _⟩
    · intro x a ha
      exact ha.vars2 rfl rfl rfl
    · intro l' x W
      refine X_region ?_
      refine X_go (gn rfl) rfl (St.vl (vl_assign rfl) rfl rfl ?_)
      refine X_endN [5, 7, 20] (F' := [(5, _), (7, _), (20, _)]) rfl ?_
      exact ⟨rfl, rfl, rfl⟩
    · rintro l' pre ⟨xi, xv⟩ W ⟨o, ys, hp, hfo, hys, hats, hk5, hcW, hsW⟩ ⟨st, hst, hx, hfx⟩ hlen
      have hx : ArrS W 3 1 ics xv st := hx
      have hst : (setsN s)[xi]? = some st := hst
      have hfx : ∀ b ∈ blkOf xv, w18.heap.size ≤ b := hfx
      obtain ⟨px, qx, rfl, _⟩ := id (ArrS.val hx)
      refine X_block ?_
      have hd : Chg [] W W.drew := Chg.drew [] _
      have hbo : b16 ∉ blkOf o := fun hm => IsSl.apart hp.sl hp.blk rfl b16 hm (by simp)
      have hyl : ys.length = pre.length := by have := congrArg List.length hys; simpa using this
      have hb5 : b5 ≠ b16 := hk5.ne hp.blk rfl
      have hcl : ∀ {wz : World}, Chg [] W wz → wz.cell? ⟨b5, 0, none⟩ = some (.pointer (some ⟨b16, 0, none⟩)) ∧ wz.cell? ⟨b16, 4, none⟩ = some o := fun hc => ⟨(hk5.chg0 hc).cell' rfl, (hp.blk.chg0 hc).cell' rfl⟩
      have hb5o : b5 ∉ blkOf o := fun hm => IsSl.apart hp.sl hk5 rfl b5 hm (by simp)
      refine X_draw (fun wz => wz.cell? ⟨b5, 0, none⟩ = some (.pointer (some ⟨b16, 0, none⟩)) ∧ wz.cell? ⟨b16, 4, none⟩ = some o) mix (by kernel_rfl) (hcl hd) ?_
      refine t_read rfl (gn rfl) (fun wz hz => vl_load ag31 rfl hz.1) rfl rfl ?_
      refine t_read rfl (gn rfl) (fun wz hz => vl_load ag31 rfl hz.1) rfl rfl ?_
      refine t_pure rfl (gn rfl) (fun _ => vl_nilCheck rfl) rfl rfl ?_
      refine t_pure rfl (gn rfl) (fun _ => vl_fieldAddr fo98_2 rfl) rfl rfl ?_
      refine t_read rfl (gn rfl) (fun wz hz => vl_load ag96 rfl hz.2) rfl rfl ?_
      refine Tm rfl rfl ?_
      refine t_st rfl (gn rfl) (st_call bd44 rfl rfl rfl rfl (f9 _) ?_)
      rintro v27 w27 ⟨q, rfl, hqf, hq, c27⟩
      refine ⟨.inl (hcl (hd.trans c27)), ?_⟩
      refine t_pure rfl (gn rfl) (fun _ => vl_build pl103 zr103 rfl (vs := [_, _]) rfl (css := [_, _]) ⟨rfl, rfl, trivial⟩ rfl rfl (cs := [_, _]) rfl) rfl rfl ?_
      refine t_st rfl (gn rfl) (st_buildSlice ap96 rfl (vs := [_]) rfl (css := [_]) ⟨rfl, trivial⟩ rfl rfl (cs := [_, _]) rfl rfl ?_)
      intro b29 w29 e29 n29 c29 k29
      refine ⟨.inl (hcl ((hd.trans c27).trans c29)), ?_⟩
      refine t_st rfl (gn rfl) (st_append ap96 sl96 rfl rfl (ArrS.chg0 hp.sl ((hd.trans c27).trans c29)) (IsSl.of_blk (n := 1) (c := scs (.slice px st.length qx, q)) k29 rfl (by simp [maxLen]) (by intro u hu; simp [scs] at hu; rcases hu with rfl | rfl <;> rfl)) (by simp only [maxLen]; omega) (by omega) rfl ?_)
      intro v30 w30 i30 c30 o30 z30
      obtain ⟨p30, q30, rfl, _⟩ := id (IsSl.val i30)
      refine ⟨.inl ⟨((hk5.chg0 ((hd.trans c27).trans c29)).chg c30 hb5o).cell' rfl, ((hp.blk.chg0 ((hd.trans c27).trans c29)).chg c30 hbo).cell' rfl⟩, ?_⟩
      refine t_pure rfl (gn rfl) (fun _ => vl_nilCheck rfl) rfl rfl ?_
      refine t_pure rfl (gn rfl) (fun _ => vl_fieldAddr fo98_2 rfl) rfl rfl ?_
      refine t_st rfl (gn rfl) (st_store sz96 rfl rfl rfl rfl ((hp.blk.chg0 ((hd.trans c27).trans c29)).chg c30 hbo) (by simp) (by intro u hu; simp at hu; subst hu; rfl) ?_)
      intro wB nB cB kB
      refine ⟨.inr (by kernel_rfl), ?_⟩
      refine T_endN [5, 20] (F' := [(5, _), (20, _)]) rfl ?_
      have kB : Blk wB b16 98 [.pointer (some ⟨pm, 0, none⟩), c, k, u, .slice p30 (ys.length + 1) q30] := kB
      have hc29 : Chg [] W w29 := (hd.trans c27).trans c29
      have hs27 := c27.size
      have hs29 := c29.size
      have hsd := hd.size
      have hmore := (hp.chg0 hc29).more (a := .slice px st.length qx) (hq.chg0 c29) (fun hm => by
        rcases List.mem_cons.1 hm with rfl | hm
        · have := hp.pg.lt; omega
        · have := hp.pgs.lt q hm; omega) (by omega) c30 i30 (fresh_of o30 hp.fo (by omega)) cB kB
      have hcut : ∀ y ∈ blkOf o, ∃ cc, Blk W y 103 cc := fun y hy => by
        rcases hp.sl with ⟨rfl, _, _⟩ | ⟨b, off, cap, cc, rfl, hs⟩
        · simp [blkOf] at hy
        · simp [blkOf] at hy; subst hy; exact ⟨_, hs.blk⟩
      have hall : Chg (b16 :: blkOf o) W wB := ((hc29.any (S := b16 :: blkOf o)).transS (c30.weak (by intro y hy; simp [hy]))).transS (cB.weak (by simp))
      have hsl29 := ArrS.chg0 hp.sl hc29
      have hb30 : Blk w30 b16 98 [.pointer (some ⟨pm, 0, none⟩), c, k, u, o] := (hp.blk.chg0 hc29).chg c30 hbo
      have hats30 := ArrLS.chg c30 (ArrLS.apartSl hsl29 rfl (hats.chg0 hc29)) (hats.chg0 hc29)
      have hats1 : ArrLS wB 3 1 ics (pre.map (·.2)) (pre.map fun x => ((setsN s)[x.1]?).getD []) := ArrLS.chg cB (hats30.apart hb30 rfl) hats30
      have hx30 := ArrS.chg (ArrS.chg0 hx hc29) c30 (IsSl.apartSl (ArrS.chg0 hx hc29) hsl29 rfl)
      have hx1 : ArrS wB 3 1 ics (.slice px st.length qx) st := ArrS.chg hx30 cB (IsSl.apart hx30 hb30 rfl)
      refine ⟨KeepsFrom.chg hall ?_, Kr.chg hall (by omega) ?_, .slice p30 (ys.length + 1) q30, ys ++ [(.slice px st.length qx, q)], ?_, ?_, ?_, ?_, ?_, ?_, by have := hall.size; omega⟩
      · intro y hy
        rcases List.mem_cons.1 hy with rfl | hy
        · exact ⟨_, _, hp.blk⟩
        · obtain ⟨cc, hb⟩ := hcut y hy
          exact ⟨_, _, hb⟩
      · intro y hy
        rcases List.mem_cons.1 hy with rfl | hy
        · exact ⟨.inl (by simp), _, _, hp.blk, rfl⟩
        · obtain ⟨cc, hb⟩ := hcut y hy
          exact ⟨.inr (hfo y hy), _, _, hb, rfl⟩
      · rw [List.map_append]
        exact hmore
      · exact fresh_of o30 hfo (by omega)
      · rw [List.map_append, List.map_append, hys]
        rfl
      · rw [List.map_append, List.map_append]
        refine hats1.append (us := [_]) (ms := [_]) ⟨?_, trivial⟩
        show ArrS wB 3 1 ics (.slice px st.length qx) (((setsN s)[xi]?).getD [])
        rw [hst]
        exact hx1
      · exact (((hk5.chg0 hc29).chg c30 (fun hm => IsSl.apart hsl29 (hk5.chg0 hc29) rfl b5 hm (by simp))).chg cB (by simpa using hb5))
      · exact hcW.trans' hall (by
          intro y hy
          rcases List.mem_cons.1 hy with rfl | hy
          · simp
          · exact .inr (hfo y hy))
    · rintro D xs W hD hxs ⟨o, ys, hp, hfo, hys, hats, hk5, hcW, hsW⟩ hdf
      refine block_normal ?_
      have hb16 := hp.ft
      refine ⟨D, _, o, ys, rfl, by omega, hdf, hk5, hp, ?_, hcC.own hcW (by intro y hy; simp at hy; omega)⟩
      have e : (xs.map fun x => ((setsN s)[x.1]?).getD []) = setsN s := by
        have e1 : (xs.map fun x => ((setsN s)[x.1]?).getD []) = (xs.map (·.1)).map fun i => ((setsN s)[i]?).getD [] := by rw [List.map_map]; rfl
        rw [e1, hxs]
        apply List.ext_getElem (by simp)
        intro i h1 h2
        simp [h2]
      rw [hys, ← e]
      exact hats
  rintro F wy ⟨D, f18, o, ys, rfl, hD, hdf, hk5, htp, hats, hcy⟩
  refine Sr ?_
  refine Og (vl_load ag31 rfl (hk5.cell' rfl)) rfl ?_
  refine Oa rfl rfl (Oa rfl rfl (O_end [2, 3] (F' := [(2, _), (3, _), (1000000, _)]) rfl (W_ret ?_)))
  refine retMT2 (D := D) rfl rfl rfl rfl hdf fun w' hcD => ?_
  have hbD : ∀ {b : Nat} {e : TypeId} {x : List Value}, Blk wy b e x → b ∉ [D] := fun hb hm => by
    simp at hm
    rw [← hm, show wy.heap[_]? = _ from hb] at hdf
    cases hdf
  have hP : ∀ p ls, Pg wy p ls → Pg w' p ls := fun p ls ⟨v, h1, us, h2, h3⟩ => ⟨v, h1.chg hcD (hbD h1), us, h2.chg hcD (h2.notD hdf), h3.chg hcD (AllL.notD hdf h3)⟩
  have hsl : (ys.map (·.1)).length = (setsN s).length := hats.length
  refine ⟨b16, pm :: ys.map (·.2), rfl, ⟨pm, c, k, u, o, ys, [], _, rfl, ⟨htp.blk.chg hcD (hbD htp.blk), ?_, hP _ _ htp.pg, IsSl.chg htp.sl hcD (IsSl.notD htp.sl hdf), ArrLS.chg hcD (hats.notD hdf) hats, PgL.all hP htp.pgs, htp.nd⟩, Tells.nil hr ?_⟩, htp.ft, htp.fr, hcy.own hcD (by intro y hy; simp at hy; omega)⟩
  · exact hs.chg0 (hcy.own hcD (by intro y hy; simp at hy; omega))
  · apply List.ext_getElem (by simpa using hsl)
    intro i h1 h2
    simp
end Go.Wk

namespace Go.Wk
set_option maxRecDepth 10000

theorem append_same {α : Type} {a b c d : List α} (h : a ++ c = b ++ d) (hl : a.length = b.length) : a = b ∧ c = d := List.append_inj h hl
theorem be_same {n m k : Nat} (h : be n k = be m k) : n % 256 ^ k = m % 256 ^ k := by rw [← rd_be, h, rd_be]
theorem numB_inj {n m : Nat} {a b : List UInt8} (hn : n < 18446744073709551616) (hm : m < 18446744073709551616) (h : numB n ++ a = numB m ++ b) : n = m ∧ a = b := by
  have h1 := needN_le n
  have h2 := needN_le m
  simp only [numB, List.cons_append, List.cons.injEq] at h
  have e : needN n = needN m := by
    have := congrArg UInt8.toNat h.1
    simp only [UInt8.toNat_ofNat'] at this
    omega
  rw [e] at h
  obtain ⟨h3, h4⟩ := append_same h.2 (by rw [be_len, be_len])
  refine ⟨?_, h4⟩
  have h5 := congrArg rdN h3
  rw [rd_be_need hm] at h5
  rw [← h5, ← e, rd_be_need hn]
theorem textB_inj {s u : ByteArray} {a b : List UInt8} (hs : s.size ≤ 200) (hu : u.size ≤ 200) (h : textB s ++ a = textB u ++ b) : s = u ∧ a = b := by
  simp only [textB, List.append_assoc] at h
  obtain ⟨h1, h2⟩ := numB_inj (by omega) (by omega) h
  obtain ⟨h3, h4⟩ := append_same h2 (by simp [h1])
  exact ⟨by cases s; cases u; simp at h3; rw [h3], h4⟩
theorem encV_inj {c : Col} {x y : Val} {a b : List UInt8} (hx : fitsN c x = 0) (hy : fitsN c y = 0) (gx : x.Rng) (gy : y.Rng) (h : encV c x ++ a = encV c y ++ b) : x = y ∧ a = b := by
  obtain ⟨hr, hcx, _, hx2⟩ := fits_parts hx
  obtain ⟨_, hcy, _, hy2⟩ := fits_parts hy
  obtain ⟨fx, bx⟩ := chk_ok hcx
  obtain ⟨fy, by'⟩ := chk_ok hcy
  obtain ⟨kx, ex, mx⟩ := fine_parts fx
  obtain ⟨ky, ey, my⟩ := fine_parts fy
  obtain ⟨s1, s2, s3, s4⟩ := right_size hr
  have hux := gx.u
  have huy := gy.u
  obtain ⟨xk, xi, xu, xb⟩ := x
  obtain ⟨yk, yi, yu, yb⟩ := y
  simp only [bareN, Val.mk.injEq, true_and] at ex ey
  simp only at *
  unfold encV at h
  by_cases h1 : xk = 0
  · by_cases h2 : yk = 0
    · subst h1 h2
      simp at h ex ey
      obtain ⟨rfl, rfl, rfl⟩ := ex
      obtain ⟨rfl, rfl, rfl⟩ := ey
      exact ⟨rfl, h⟩
    · subst h1
      simp [h2] at h
  · by_cases h2 : yk = 0
    · subst h2
      simp [h1] at h
    · rw [if_neg h1, if_neg h2] at h
      simp only [List.cons_append, List.cons.injEq, true_and] at h
      obtain ⟨tx, wx⟩ := hx2 h1
      obtain ⟨ty, wy⟩ := hy2 h2
      subst tx
      have ty := ty.symm
      subst ty
      unfold layV at h
      simp only [wideN] at wx wy
      rcases s4 with e | e | e | e <;> simp only [e, ↓reduceIte, Int.reduceEq, decide_eq_false_iff_not, true_or, or_true, or_self, or_false, false_or] at h wx wy ex ey
      · obtain ⟨-, rfl, rfl⟩ := ex
        obtain ⟨-, rfl, rfl⟩ := ey
        obtain ⟨h3, h4⟩ := append_same h (by rw [be_len, be_len])
        have hz := s1 (.inl e)
        obtain ⟨z, hz1, hz2⟩ : ∃ z : Nat, c.s = z ∧ (z = 1 ∨ z = 2 ∨ z = 4 ∨ z = 8) := ⟨c.s.toNat, by omega, by omega⟩
        rw [hz1] at h3 wx wy
        have e1 := int_back (i := xi) hz2 (by simp only [leastN, Int.toNat_natCast] at wx; omega)
        have e2 := int_back (i := yi) hz2 (by simp only [leastN, Int.toNat_natCast] at wy; omega)
        have e3 := be_same h3
        rw [Int.toNat_natCast] at e3
        rw [e3, e2] at e1
        subst e1
        exact ⟨rfl, h4⟩
      · obtain ⟨rfl, -, rfl⟩ := ex
        obtain ⟨rfl, -, rfl⟩ := ey
        obtain ⟨h3, h4⟩ := append_same h (by rw [be_len, be_len])
        have hz := s1 (.inr e)
        obtain ⟨z, hz1, hz2⟩ : ∃ z : Nat, c.s = z ∧ (z = 1 ∨ z = 2 ∨ z = 4 ∨ z = 8) := ⟨c.s.toNat, by omega, by omega⟩
        rw [hz1] at h3 wx wy
        have e3 := be_same h3
        have e4 : xu = yu := by
          rcases hz2 with rfl | rfl | rfl | rfl <;> simp only [Int.toNat_natCast, Nat.reduceMul, Nat.reducePow, Int.reducePow, Int.not_le] at wx wy e3 <;> omega
        subst e4
        exact ⟨rfl, h4⟩
      · obtain ⟨-, rfl, rfl⟩ := ex
        obtain ⟨-, rfl, rfl⟩ := ey
        have m1 := mx e
        have m2 := my e
        simp only [List.cons_append, List.nil_append, List.cons.injEq] at h
        have : xi = yi := by
          rcases m1 with rfl | rfl <;> rcases m2 with rfl | rfl
          · rfl
          · exact absurd h.1 (by decide)
          · exact absurd h.1 (by decide)
          · rfl
        subst this
        exact ⟨rfl, h.2⟩
      · obtain ⟨rfl, rfl, -⟩ := ex
        obtain ⟨rfl, rfl, -⟩ := ey
        obtain ⟨h3, h4⟩ := textB_inj bx by' h
        subst h3
        exact ⟨rfl, h4⟩
theorem encR_inj : ∀ {cs : List Col} {xs ys : List Val}, fitsL cs xs = 0 → fitsL cs ys = 0 → xs.length = cs.length → ys.length = cs.length → (∀ x ∈ xs, x.Rng) → (∀ y ∈ ys, y.Rng) → encR cs xs = encR cs ys → xs = ys
  | [], [], [], _, _, _, _, _, _, _ => rfl
  | [], _ :: _, _, _, _, h, _, _, _, _ => by simp at h
  | [], [], _ :: _, _, _, _, h, _, _, _ => by simp at h
  | _ :: _, [], _, _, _, h, _, _, _, _ => by simp at h
  | _ :: _, _ :: _, [], _, _, _, h, _, _, _ => by simp at h
  | c :: cs, x :: xs, y :: ys, hx, hy, lx, ly, gx, gy, h => by
    unfold fitsL at hx hy
    by_cases h1 : fitsN c x = 0
    · by_cases h2 : fitsN c y = 0
      · rw [if_neg (by simp [h1])] at hx
        rw [if_neg (by simp [h2])] at hy
        obtain ⟨e1, e2⟩ := encV_inj h1 h2 (gx x (by simp)) (gy y (by simp)) h
        rw [e1, encR_inj hx hy (by simpa using lx) (by simpa using ly) (fun z hz => gx z (by simp [hz])) (fun z hz => gy z (by simp [hz])) e2]
      · rw [if_pos h2] at hy; exact absurd hy h2
    · rw [if_pos h1] at hx; exact absurd hx h1
theorem encS_inj {s : Sch} {a b : List Val} (ha : rowN s a = 0) (hb : rowN s b = 0) (ga : ∀ x ∈ a, x.Rng) (gb : ∀ x ∈ b, x.Rng) (h : encS s a = encS s b) : a = b := by
  obtain ⟨_, l1, f1⟩ := rowN_ok ha
  obtain ⟨_, l2, f2⟩ := rowN_ok hb
  refine encR_inj f1 f2 l1 l2 ga gb ?_
  have := congrArg (fun b : ByteArray => b.data.toList) h
  simpa [encS] using this
end Go.Wk

namespace Go.Wk
open Go.Proofs
set_option maxRecDepth 10000

/-- What two tables' pages tell of their rows. -/
theorem same_rows {s : Sch} {r1 r2 : List (List Val)} {m1 m2 : List (List Ent)} {s1 s2 : List (List (List Ent))} (h1 : Tells s r1 m1 s1) (h2 : Tells s r2 m2 s2) : r1 = r2 ↔ r1.length = r2.length ∧ ∀ x ∈ m1.flatten, getP m2 x.1 = some x.2 := by
  constructor
  · rintro rfl
    refine ⟨rfl, fun x hx => ?_⟩
    rw [h1.flat, ← h2.flat] at hx
    exact (getP_iff h2.wf).2 hx
  · rintro ⟨hl, h⟩
    have hsub : ∀ x ∈ r1, x ∈ r2 := fun r hr => by
      have h3 := h (keyR s r, encS s r) (by rw [h1.flat]; exact List.mem_map.2 ⟨r, hr, rfl⟩)
      have h4 := (getP_iff h2.wf).1 h3
      rw [h2.flat, List.mem_map] at h4
      obtain ⟨r', hr', he⟩ := h4
      simp only [Prod.mk.injEq] at he
      have := encS_inj (h2.ok.fit r' hr') (h1.ok.fit r hr) (h2.ok.rng r' hr') (h1.ok.rng r hr) he.2
      rw [← this]; exact hr'
    have hn1 : r1.Nodup := h1.ok.srt.imp fun {a b} hb e => by rw [e] at hb; rw [blt_irrefl] at hb; cases hb
    have hsup : ∀ x ∈ r2, x ∈ r1 := fun x hx => by
      by_cases hm : x ∈ r1
      · exact hm
      · have := nodup_le (l := x :: r1) (m := r2) (List.nodup_cons.2 ⟨hm, hn1⟩) fun y hy => by
          rcases List.mem_cons.1 hy with rfl | hy
          · exact hx
          · exact hsub y hy
        simp only [List.length_cons] at this
        omega
    have hk : r1.map (keyR s) = r2.map (keyR s) := by
      refine srtB_ext (List.pairwise_map.2 h1.ok.srt) (List.pairwise_map.2 h2.ok.srt) fun x => ⟨fun hx => ?_, fun hx => ?_⟩
      · obtain ⟨r, hr, rfl⟩ := List.mem_map.1 hx
        exact List.mem_map.2 ⟨r, hsub r hr, rfl⟩
      · obtain ⟨r, hr, rfl⟩ := List.mem_map.1 hx
        exact List.mem_map.2 ⟨r, hsup r hr, rfl⟩
    apply List.ext_getElem hl
    intro i i1 i2
    have e := congrArg (fun l : List ByteArray => l[i]?) hk
    simp only [List.getElem?_map, List.getElem?_eq_getElem i1, List.getElem?_eq_getElem i2, Option.map_some, Option.some.injEq] at e
    exact h2.ok.uniq (hsub _ (List.getElem_mem i1)) (List.getElem_mem i2) e
end Go.Wk

namespace Go.Wk
open Go.Proofs
set_option maxRecDepth 10000

theorem blt_e0 (s : ByteArray) : blt s e0 = false := by
  cases h : blt s e0 with
  | false => rfl
  | true =>
    have := (blt_iff s e0).1 h
    simp [e0] at this
theorem t_Same00 (w : World) : Ret Tryz.prog 37 #[.pointer none, .pointer none] w fun r w' => r = .bool true ∧ Chg [] w w' := by
  refine Ret.of_WM (args := [_, _]) Tryz.func37 rfl rfl rfl rfl ?_

  refine Sr ?_
  refine O_go (gn rfl) (st_box rfl rfl rfl ?_)
  intro b3 w3 e3 n3 c3 k3
  refine O_go (gn rfl) (st_alloc zr4 rfl rfl ?_)
  intro b4 w4 e4 n4 c4 k4
  refine O_end [0, 3, 4] (F' := [(0, _), (3, _), (4, _)]) rfl (W_seq (Sr (Om rfl rfl ?_)))
  refine Og (vl_pnil pt31 rfl rfl) rfl ?_
  refine Om rfl rfl (Oz rfl rfl rfl rfl (Oz rfl rfl rfl rfl (Ot rfl rfl rfl (O_end [0, 3, 4, 14] (F' := [(0, _), (3, _), (4, _), (14, _)]) rfl (W_cond_true rfl (Sr (Om rfl rfl ?_)))))))
  refine Og (vl_pnil pt31 rfl rfl) rfl ?_
  refine Om rfl rfl ?_
  refine Oy rfl rfl (vl_load ag31 rfl ((k3.chg0 c4).cell' rfl)) rfl ?_
  refine Oy rfl rfl (vl_pnil pt31 rfl rfl) rfl ?_
  refine Ot rfl rfl rfl ?_
  refine O_go (gn rfl) (st_store sz4 rfl rfl rfl rfl k4 (by simp) (by simp [Value.oneCell']) ?_)
  intro wA nA cA kA
  refine O_end [4] (F' := [(4, _)]) rfl (W_ret ?_)
  repeat (first | refine then_ret ?_ | refine block_ret ?_)
  refine retM0 rfl ag4 rfl (kA.cell' rfl) ?_
  exact ⟨rfl, (c3.trans c4).own cA (by intro y hy; simp at hy; omega)⟩
theorem t_SameN (t : Nat) (w : World) : Ret Tryz.prog 37 #[.pointer (some ⟨t, 0, none⟩), .pointer none] w fun r w' => r = .bool false ∧ Chg [] w w' := by
  refine Ret.of_WM (args := [_, _]) Tryz.func37 rfl rfl rfl rfl ?_

  refine Sr ?_
  refine O_go (gn rfl) (st_box rfl rfl rfl ?_)
  intro b3 w3 e3 n3 c3 k3
  refine O_go (gn rfl) (st_alloc zr4 rfl rfl ?_)
  intro b4 w4 e4 n4 c4 k4
  refine O_end [0, 3, 4] (F' := [(0, _), (3, _), (4, _)]) rfl (W_seq (Sr (Om rfl rfl ?_)))
  refine Og (vl_pnil pt31 rfl rfl) rfl ?_
  refine Om rfl rfl ?_
  refine Oy rfl rfl (vl_load ag31 rfl ((k3.chg0 c4).cell' rfl)) rfl ?_
  refine Oy rfl rfl (vl_pnil pt31 rfl rfl) rfl ?_
  refine Of rfl rfl rfl (O_end [0, 3, 4, 14] (F' := [(0, _), (3, _), (4, _), (14, _)]) rfl (W_cond_true rfl (Sr (Om rfl rfl ?_))))
  refine Og (vl_pnil pt31 rfl rfl) rfl ?_
  refine Om rfl rfl (Oz rfl rfl rfl rfl (Oz rfl rfl rfl rfl (Of rfl rfl rfl ?_)))
  refine O_go (gn rfl) (st_store sz4 rfl rfl rfl rfl k4 (by simp) (by simp [Value.oneCell']) ?_)
  intro wA nA cA kA
  refine O_end [4] (F' := [(4, _)]) rfl (W_ret ?_)
  repeat (first | refine then_ret ?_ | refine block_ret ?_)
  refine retM0 rfl ag4 rfl (kA.cell' rfl) ?_
  exact ⟨rfl, (c3.trans c4).own cA (by intro y hy; simp at hy; omega)⟩
set_option maxHeartbeats 1000000 in
theorem t_Same (t t' : Nat) (own own' : List Nat) (s s' : Sch) (rows rows' : List (List Val)) (w : World) (h : IsTab w t own s rows) (h' : IsTab w t' own' s' rows') :
    Ret Tryz.prog 37 #[.pointer (some ⟨t, 0, none⟩), .pointer (some ⟨t', 0, none⟩)] w fun r w' => r = .bool (decide (s = s') && decide (rows = rows')) ∧ Chg [] w w' := by
  obtain ⟨pm, c, k, u, sv, xs, main, subs, rfl, hm, ht⟩ := h
  obtain ⟨pm', c', k', u', sv', xs', main', subs', rfl, hm', ht'⟩ := h'
  refine Ret.of_WM (args := [_, _]) Tryz.func37 rfl rfl rfl rfl ?_

  refine Sr ?_
  refine O_go (gn rfl) (st_box rfl rfl rfl ?_)
  intro b3 w3 e3 n3 c3 k3
  refine O_go (gn rfl) (st_alloc zr4 rfl rfl ?_)
  intro b4 w4 e4 n4 c4 k4
  refine O_end [0, 3, 4] (F' := [(0, _), (3, _), (4, _)]) rfl ?_
  have k3 : Blk w4 b3 31 [.pointer (some ⟨t', 0, none⟩)] := k3.chg0 c4
  have hcA := c3.trans c4
  refine W_seq (Sr (Om rfl rfl ?_))
  refine Og (vl_pnil pt31 rfl rfl) rfl ?_
  refine Om rfl rfl ?_
  refine Oy rfl rfl (vl_load ag31 rfl (k3.cell' rfl)) rfl ?_
  refine Oy rfl rfl (vl_pnil pt31 rfl rfl) rfl ?_
  refine Of rfl rfl rfl (O_end [0, 3, 4, 14] (F' := [(0, _), (3, _), (4, _), (14, _)]) rfl (W_cond_false rfl (W_skipE (W_seq (W_seq ?_)))))
  have hd : Chg [] w4 w4.drew := Chg.drew [] _
  have hmA := hm.chg0 hcA
  have hmA' := hm'.chg0 hcA
  by_cases hse : s = s'
  · subst hse
    by_cases hl : rows.length = rows'.length
    · refine W_draw (fun wz => Chg [] w4 wz) mix (by kernel_rfl) hd ?_
      refine Tm rfl rfl ?_
      refine t_pure rfl (gn rfl) (fun _ => vl_nilCheck rfl) rfl rfl ?_
      refine t_pure rfl (gn rfl) (fun _ => vl_fieldAddr fo98_1 rfl) rfl rfl ?_
      refine t_read rfl (gn rfl) (fun wz hz => vl_loadAgg ag30 sz30 rfl rfl (hmA.chg0 hz).scells) rfl rfl ?_
      refine t_read rfl (gn rfl) (fun wz hz => vl_load ag31 rfl ((k3.chg0 hz).cell' rfl)) rfl rfl ?_
      refine t_pure rfl (gn rfl) (fun _ => vl_nilCheck rfl) rfl rfl ?_
      refine t_pure rfl (gn rfl) (fun _ => vl_fieldAddr fo98_1 rfl) rfl rfl ?_
      refine t_read rfl (gn rfl) (fun wz hz => vl_loadAgg ag30 sz30 rfl rfl (hmA'.chg0 hz).scells) rfl rfl ?_
      refine t_st rfl (gn rfl) (st_call bd73 rfl rfl rfl rfl (s_Same c k u c' k' u' s s _ ((hmA.chg0 hd).sch) ((hmA'.chg0 hd).sch) (right_sm ht.ok.right) (right_sm ht'.ok.right)) ?_)
      rintro v29 w29 ⟨e29, c29⟩
      rw [decide_eq_true rfl] at e29
      subst e29
      refine ⟨.inl (hd.trans c29), ?_⟩
      refine t_pure rfl (gn rfl) (fun _ => vl_not rfl) rfl rfl ?_
      refine Tm rfl rfl (Tq rfl rfl rfl rfl ?_)
      refine t_st rfl (gy rfl rfl rfl) (st_call bd15 rfl rfl rfl rfl (t_Len _ ((hmA.chg0 hd).chg0 c29) ht) ?_)
      rintro v33 w33 ⟨rfl, rfl⟩
      refine ⟨.inl (hd.trans c29), ?_⟩
      refine t_read rfl (gy rfl rfl rfl) (fun wz hz => vl_load ag31 rfl ((k3.chg0 hz).cell' rfl)) rfl rfl ?_
      refine t_st rfl (gy rfl rfl rfl) (st_call bd15 rfl rfl rfl rfl (t_Len _ ((hmA'.chg0 hd).chg0 c29) ht') ?_)
      rintro v35 w35 ⟨rfl, rfl⟩
      refine ⟨.inl (hd.trans c29), ?_⟩
      refine t_pure rfl (gy rfl rfl rfl) (fun _ => vl_is (b' := false) (vl_ine rfl rfl) (by simp [hl])) rfl rfl ?_
      refine t_pure rfl (gn rfl) (fun _ => vl_pick_f rfl rfl) rfl rfl ?_
      refine T_end [0, 3, 4, 37] (F' := [(0, _), (3, _), (4, _), (37, _)]) rfl ?_
      refine W_cond_false rfl (W_skipE ?_)
      have hcB := (hcA.trans hd).trans c29
      have hmB := hm.chg0 hcB
      have hmB' := hm'.chg0 hcB
      have k3 := (k3.chg0 hd).chg0 c29
      have k4 : Blk w35 b4 4 [.bool false] := (k4.chg0 hd).chg0 c29
      refine W_seq_cut (fun F wx => ∃ (D : Nat) (f42 : Value), F = [(1000000, .int .i64 D), (3, .pointer (some ⟨b3, 0, none⟩)), (4, .pointer (some ⟨b4, 0, none⟩)), (42, f42)] ∧ w.heap.size ≤ D ∧ wx.heap[D]? = some (.deferred (some [])) ∧ Blk wx b4 4 [.bool false] ∧ (∀ x ∈ main.flatten, getP main' x.1 = some x.2) ∧ Chg [] w wx) ?_ ?_
      · refine Sr (Om rfl rfl (Og (vl_nilCheck rfl) rfl (Og (vl_fieldAddr fo98_0 rfl) rfl ?_)))
        refine Og (vl_load ag94 rfl (hmB.blk.cell' rfl)) rfl ?_
        refine O_go (gn rfl) (st_call bd68 rfl rfl rfl rfl (f14 pm main e0 _ hmB.pg (by have := ht.le; omega)) ?_)
        rintro v42 w42 ⟨q5, q3, vv, rfl, kq5, ip, kq3, hq3, hq5, c42⟩
        refine O_end [3, 4, 42] (F' := [(3, _), (4, _), (42, _)]) rfl ?_
        have hcC := hcB.trans c42
        have hsB := hcB.size
        have hsC := hcC.size
        have hb4lt := k4.lt
        have k3 := k3.chg0 c42
        have k4 := k4.chg0 c42
        have hall : fromP main.flatten e0 = main.flatten := List.filter_eq_self.2 fun x _ => by simp [blt_e0]
        have hm4 := k4.lt
        refine W_block ?_
        refine W_range (α := Ent) (gf := 100) (lb := [.pointer (some ⟨q5, 0, none⟩), .pointer (some ⟨q3, 0, none⟩)]) (encs := fun x : Ent => #[.string x.1, .string x.2]) (N := main.flatten.length) [b4]
          (fun pre W => (∀ x ∈ pre, getP main' x.1 = some x.2) ∧ Chg [] w42 W)
          (fun c pre W => c = .ret ∧ (∃ x ∈ pre, getP main' x.1 ≠ some x.2) ∧ Blk W b4 4 [.bool false] ∧ Chg [b4] w42 W)
          (fun x => [(44, .string x.2), (43, .string x.1), (3, .pointer (some ⟨b3, 0, none⟩)), (4, .pointer (some ⟨b4, 0, none⟩)), (42, .func (.func 100) #[] #[.pointer (some ⟨q5, 0, none⟩), .pointer (some ⟨q3, 0, none⟩)])])
          (fun x => [(3, .pointer (some ⟨b3, 0, none⟩)), (4, .pointer (some ⟨b4, 0, none⟩)), (5, .string x.1), (6, .string x.2), (43, .string x.1), (44, .string x.2)])
          rfl bd100 ?_
          (f32_seq w42 q5 q3 vv main e0 [b4] kq5 ip kq3 (by have := ht.le; omega) ht.wf.le ?_ ?_ hall) (fun _ => rfl) ?_ ?_ ?_ (fun pre W hI => hI.2.size) ?_ ?_ ?_ ?_ ?_
        · intro b hb
          simp at hb
          subst hb
          exact hm4
        · simp
          omega
        · intro b hb
          simp at hb
          subst hb
          exact ⟨_, _, k4, rfl, rfl⟩
        · rintro pre W W' T hT hc ⟨g1, g2⟩
          exact ⟨g1, g2.own hc hT⟩
        · rintro c pre W W' T hT hc ⟨rfl, g1, g2, g3⟩
          exact ⟨rfl, g1, g2.chg hc (fun hm => by have := hT _ hm; omega), g3.trans' hc (fun y hy => .inr (hT y hy))⟩
        · exact ⟨by simp, Chg.refl _ _⟩
        · intro x a ha
          exact ha.vars2 rfl rfl rfl
        · intro l x W
          refine X_seq ?_
          refine X_region ?_
          refine X_go (gn rfl) rfl (St.vl (vl_assign rfl) rfl rfl ?_)
          refine X_end [3, 4, 5, 43, 44] (F' := [(3, _), (4, _), (5, _), (43, _), (44, _)]) rfl ?_
          refine X_region ?_
          refine X_go (gn rfl) rfl (St.vl (vl_assign rfl) rfl rfl ?_)
          refine X_endN [3, 4, 5, 6, 43, 44] (F' := [(3, _), (4, _), (5, _), (6, _), (43, _), (44, _)]) rfl ?_
          exact ⟨rfl, rfl, rfl⟩
        · rintro l pre x W ⟨g1, g2⟩ hlen
          have hmW' := hm'.chg0 (hcC.trans g2)
          have k3W := k3.chg0 g2
          have k4W := k4.chg0 g2
          refine X_block ?_
          refine X_seq ?_
          refine X_region ?_
          refine X_go (gn rfl) rfl (St.vl (vl_load ag31 rfl (k3W.cell' rfl)) rfl rfl ?_)
          refine X_go (gn rfl) rfl (St.vl (vl_nilCheck rfl) rfl rfl ?_)
          refine X_go (gn rfl) rfl (St.vl (vl_fieldAddr fo98_0 rfl) rfl rfl ?_)
          refine X_go (gn rfl) rfl (St.vl (vl_load ag94 rfl (hmW'.blk.cell' rfl)) rfl rfl ?_)
          refine Xm rfl rfl ?_
          refine X_go (gn rfl) rfl (st_call bd65 rfl rfl rfl rfl (f15 pm' main' x.1 _ hmW'.pg ht'.wf (by have := ht'.le; omega)) ?_)
          rintro v51 w51 ⟨rfl, c51⟩
          refine Xm rfl rfl ?_
          refine X_go (gn rfl) rfl (St.vl (vl_extract rfl rfl) rfl rfl ?_)
          refine X_go (gn rfl) rfl (St.vl (vl_extract rfl rfl) rfl rfl ?_)
          refine X_go (gn rfl) rfl (St.vl (vl_assign rfl) rfl rfl ?_)
          refine X_go (gn rfl) rfl (St.vl (vl_assign rfl) rfl rfl ?_)
          refine X_end [3, 4, 6, 7, 8, 43, 44] (F' := [(3, _), (4, _), (6, _), (7, _), (8, _), (43, _), (44, _)]) rfl ?_
          refine X_seq ?_
          have hfail : getP main' x.1 ≠ some x.2 → ∀ {wC : World}, Chg [b4] w51 wC → Blk wC b4 4 [.bool false] → Chg [b4] W wC ∧ (Code.ret = .ret ∧ (∃ y ∈ pre ++ [x], getP main' y.1 ≠ some y.2) ∧ Blk wC b4 4 [.bool false] ∧ Chg [b4] w42 wC) := fun hne {wC} hc hb =>
            ⟨(c51.any (S := [b4])).transS hc, rfl, ⟨x, by simp, hne⟩, hb, ((g2.trans c51).any (S := [b4])).transS hc⟩
          cases hg : getP main' x.1 with
          | none =>
            refine X_region ?_
            refine Xm rfl rfl ?_
            refine X_go (gn rfl) rfl (St.vl (vl_not rfl) rfl rfl ?_)
            refine Xm rfl rfl ?_
            refine X_no rfl rfl rfl rfl rfl rfl ?_
            refine X_no rfl rfl rfl rfl rfl rfl ?_
            refine X_no rfl rfl rfl rfl rfl rfl ?_
            refine X_go (gn rfl) rfl (St.vl (vl_pick_t rfl rfl) rfl rfl ?_)
            refine X_end [3, 4, 43, 44, 60] (F' := [(3, _), (4, _), (43, _), (44, _), (60, _)]) rfl ?_
            refine X_cond_true rfl ?_
            refine X_seq ?_
            refine X_region ?_
            refine X_go (gn rfl) rfl (st_store sz4 rfl rfl rfl rfl (k4W.chg0 c51) (by simp) (by simp [Value.oneCell']) ?_)
            intro wC nC cC kC
            refine X_end [4] (F' := [(4, _)]) rfl ?_
            refine X_ret ?_
            repeat (first | refine then_ret ?_ | refine block_ret ?_)
            exact hfail (by rw [hg]; simp) cC kC
          | some y =>
            by_cases hxy : x.2 = y
            · refine X_region ?_
              refine Xm rfl rfl ?_
              refine X_go (gn rfl) rfl (St.vl (vl_not rfl) rfl rfl ?_)
              refine Xm rfl rfl ?_
              refine X_go (gy rfl rfl rfl) rfl (St.vl (vl_move rfl) rfl rfl ?_)
              refine X_go (gy rfl rfl rfl) rfl (St.vl (vl_move rfl) rfl rfl ?_)
              refine X_go (gy rfl rfl rfl) rfl (St.vl (vl_is (b' := false) (vl_sne rfl rfl) (by simp [hxy])) rfl rfl ?_)
              refine X_go (gn rfl) rfl (St.vl (vl_pick_f rfl rfl) rfl rfl ?_)
              refine X_end [3, 4, 43, 44, 60] (F' := [(3, _), (4, _), (43, _), (44, _), (60, _)]) rfl ?_
              refine X_cond_false rfl ?_
              refine X_skip ?_
              refine block_normal ?_
              refine ⟨c51.any, fun z hz => ?_, g2.trans c51⟩
              rcases List.mem_append.1 hz with hz | hz
              · exact g1 z hz
              · simp at hz; subst hz; rw [hg, hxy]
            · refine X_region ?_
              refine Xm rfl rfl ?_
              refine X_go (gn rfl) rfl (St.vl (vl_not rfl) rfl rfl ?_)
              refine Xm rfl rfl ?_
              refine X_go (gy rfl rfl rfl) rfl (St.vl (vl_move rfl) rfl rfl ?_)
              refine X_go (gy rfl rfl rfl) rfl (St.vl (vl_move rfl) rfl rfl ?_)
              refine X_go (gy rfl rfl rfl) rfl (St.vl (vl_is (b' := true) (vl_sne rfl rfl) (by simp [hxy])) rfl rfl ?_)
              refine X_go (gn rfl) rfl (St.vl (vl_pick_f rfl rfl) rfl rfl ?_)
              refine X_end [3, 4, 43, 44, 60] (F' := [(3, _), (4, _), (43, _), (44, _), (60, _)]) rfl ?_
              refine X_cond_true rfl ?_
              refine X_seq ?_
              refine X_region ?_
              refine X_go (gn rfl) rfl (st_store sz4 rfl rfl rfl rfl (k4W.chg0 c51) (by simp) (by simp [Value.oneCell']) ?_)
              intro wC nC cC kC
              refine X_end [4] (F' := [(4, _)]) rfl ?_
              refine X_ret ?_
              repeat (first | refine then_ret ?_ | refine block_ret ?_)
              exact hfail (by rw [hg]; simp; exact fun e => hxy e.symm) cC kC
        · rintro D xs W hD rfl ⟨g1, g2⟩ hdf
          refine block_normal ?_
          exact ⟨D, _, rfl, by omega, hdf, k4.chg0 g2, g1, hcC.trans g2⟩
        · rintro D c pre W' hD ⟨-, hpre⟩ ⟨rfl, ⟨x, hx, hne⟩, g2, g3⟩ hdf
          refine W_ret ?_
          repeat (first | refine then_ret ?_ | refine block_ret ?_)
          have hDb : D ≠ b4 := by omega
          refine retM1 (v := .bool false) (D := D) rfl ag4 rfl rfl hdf fun w' hc' => ?_
          have hnr : rows ≠ rows' := fun e => by
            exact hne (((same_rows ht ht').1 e).2 x (hpre.subset hx))
          refine ⟨(g2.chg hc' (by simpa using hDb.symm)).cell' rfl, by simp [hnr], ?_⟩
          exact (hcC.own g3 (by intro y hy; simp at hy; have := c3.size; omega)).own hc' (by intro y hy; simp at hy; omega)
      rintro F wx ⟨D, f42, rfl, hD, hdf, hb4, hall, hcx⟩
      refine Sr ?_
      refine O_go (gn rfl) (st_store sz4 rfl rfl rfl rfl hb4 (by simp) (by simp [Value.oneCell']) ?_)
      intro wA nA cA kA
      refine O_end [4] (F' := [(4, _), (1000000, _)]) rfl (W_ret ?_)
      have kA : Blk wA b4 4 [.bool true] := kA
      have hDb : D ≠ b4 := by rintro rfl; rw [show wx.heap[D]? = _ from hb4] at hdf; cases hdf
      refine retM1 (v := .bool true) (D := D) rfl ag4 rfl rfl ((cA.block D (Array.getElem?_eq_some_iff.1 hdf).1 (by simpa using hDb)).trans hdf) fun w' hc' => ?_
      have hr : rows = rows' := (same_rows ht ht').2 ⟨hl, hall⟩
      refine ⟨(kA.chg hc' (by simpa using hDb.symm)).cell' rfl, ?_, ?_⟩
      · simp [hr]
      · have h4 : w.heap.size ≤ b4 := by have := c3.size; omega
        exact (hcx.own cA (by intro y hy; simp at hy; omega)).own hc' (by intro y hy; simp at hy; omega)
    · refine W_draw (fun wz => Chg [] w4 wz) mix (by kernel_rfl) hd ?_
      refine Tm rfl rfl ?_
      refine t_pure rfl (gn rfl) (fun _ => vl_nilCheck rfl) rfl rfl ?_
      refine t_pure rfl (gn rfl) (fun _ => vl_fieldAddr fo98_1 rfl) rfl rfl ?_
      refine t_read rfl (gn rfl) (fun wz hz => vl_loadAgg ag30 sz30 rfl rfl (hmA.chg0 hz).scells) rfl rfl ?_
      refine t_read rfl (gn rfl) (fun wz hz => vl_load ag31 rfl ((k3.chg0 hz).cell' rfl)) rfl rfl ?_
      refine t_pure rfl (gn rfl) (fun _ => vl_nilCheck rfl) rfl rfl ?_
      refine t_pure rfl (gn rfl) (fun _ => vl_fieldAddr fo98_1 rfl) rfl rfl ?_
      refine t_read rfl (gn rfl) (fun wz hz => vl_loadAgg ag30 sz30 rfl rfl (hmA'.chg0 hz).scells) rfl rfl ?_
      refine t_st rfl (gn rfl) (st_call bd73 rfl rfl rfl rfl (s_Same c k u c' k' u' s s _ ((hmA.chg0 hd).sch) ((hmA'.chg0 hd).sch) (right_sm ht.ok.right) (right_sm ht'.ok.right)) ?_)
      rintro v29 w29 ⟨e29, c29⟩
      rw [decide_eq_true rfl] at e29
      subst e29
      refine ⟨.inl (hd.trans c29), ?_⟩
      refine t_pure rfl (gn rfl) (fun _ => vl_not rfl) rfl rfl ?_
      refine Tm rfl rfl (Tq rfl rfl rfl rfl ?_)
      refine t_st rfl (gy rfl rfl rfl) (st_call bd15 rfl rfl rfl rfl (t_Len _ ((hmA.chg0 hd).chg0 c29) ht) ?_)
      rintro v33 w33 ⟨rfl, rfl⟩
      refine ⟨.inl (hd.trans c29), ?_⟩
      refine t_read rfl (gy rfl rfl rfl) (fun wz hz => vl_load ag31 rfl ((k3.chg0 hz).cell' rfl)) rfl rfl ?_
      refine t_st rfl (gy rfl rfl rfl) (st_call bd15 rfl rfl rfl rfl (t_Len _ ((hmA'.chg0 hd).chg0 c29) ht') ?_)
      rintro v35 w35 ⟨rfl, rfl⟩
      refine ⟨.inl (hd.trans c29), ?_⟩
      refine t_pure rfl (gy rfl rfl rfl) (fun _ => vl_is (b' := true) (vl_ine rfl rfl) (by simp; omega)) rfl rfl ?_
      refine t_pure rfl (gn rfl) (fun _ => vl_pick_f rfl rfl) rfl rfl ?_
      refine T_end [0, 3, 4, 37] (F' := [(0, _), (3, _), (4, _), (37, _)]) rfl ?_
      refine W_cond_true rfl (Sr ?_)
      refine O_go (gn rfl) (st_store sz4 rfl rfl rfl rfl ((k4.chg0 hd).chg0 c29) (by simp) (by simp [Value.oneCell']) ?_)
      intro wA nA cA kA
      refine O_end [4] (F' := [(4, _)]) rfl (W_ret ?_)
      repeat (first | refine then_ret ?_ | refine block_ret ?_)
      refine retM0 rfl ag4 rfl (kA.cell' rfl) ?_
      have hne : rows ≠ rows' := fun e => hl (by rw [e])
      refine ⟨by simp [hne], ?_⟩
      exact ((hcA.trans hd).trans c29).own cA (by intro y hy; simp at hy; have := c3.size; omega)
  · refine W_draw (fun wz => Chg [] w4 wz) mix (by kernel_rfl) hd ?_
    refine Tm rfl rfl ?_
    refine t_pure rfl (gn rfl) (fun _ => vl_nilCheck rfl) rfl rfl ?_
    refine t_pure rfl (gn rfl) (fun _ => vl_fieldAddr fo98_1 rfl) rfl rfl ?_
    refine t_read rfl (gn rfl) (fun wz hz => vl_loadAgg ag30 sz30 rfl rfl (hmA.chg0 hz).scells) rfl rfl ?_
    refine t_read rfl (gn rfl) (fun wz hz => vl_load ag31 rfl ((k3.chg0 hz).cell' rfl)) rfl rfl ?_
    refine t_pure rfl (gn rfl) (fun _ => vl_nilCheck rfl) rfl rfl ?_
    refine t_pure rfl (gn rfl) (fun _ => vl_fieldAddr fo98_1 rfl) rfl rfl ?_
    refine t_read rfl (gn rfl) (fun wz hz => vl_loadAgg ag30 sz30 rfl rfl (hmA'.chg0 hz).scells) rfl rfl ?_
    refine t_st rfl (gn rfl) (st_call bd73 rfl rfl rfl rfl (s_Same c k u c' k' u' s s' _ ((hmA.chg0 hd).sch) ((hmA'.chg0 hd).sch) (right_sm ht.ok.right) (right_sm ht'.ok.right)) ?_)
    rintro v29 w29 ⟨e29, c29⟩
    rw [decide_eq_false hse] at e29
    subst e29
    refine ⟨.inl (hd.trans c29), ?_⟩
    refine t_pure rfl (gn rfl) (fun _ => vl_not rfl) rfl rfl ?_
    refine Tm rfl rfl (Tz rfl rfl rfl rfl (Tz rfl rfl rfl rfl (Tz rfl rfl rfl rfl (Tz rfl rfl rfl rfl (Tz rfl rfl rfl rfl ?_)))))
    refine t_pure rfl (gn rfl) (fun _ => vl_pick_t rfl rfl) rfl rfl ?_
    refine T_end [0, 3, 4, 37] (F' := [(0, _), (3, _), (4, _), (37, _)]) rfl ?_
    refine W_cond_true rfl (Sr ?_)
    refine O_go (gn rfl) (st_store sz4 rfl rfl rfl rfl ((k4.chg0 hd).chg0 c29) (by simp) (by simp [Value.oneCell']) ?_)
    intro wA nA cA kA
    refine O_end [4] (F' := [(4, _)]) rfl (W_ret ?_)
    repeat (first | refine then_ret ?_ | refine block_ret ?_)
    refine retM0 rfl ag4 rfl (kA.cell' rfl) ?_
    refine ⟨by simp [hse], ?_⟩
    exact ((hcA.trans hd).trans c29).own cA (by intro y hy; simp at hy; have := c3.size; omega)
end Go.Wk

namespace Go.Wk
open Go.Proofs
set_option maxRecDepth 10000

theorem t_insert0 (v : Value) (w : World) : Ret Tryz.prog 47 #[.pointer none, v] w fun r w' => IsErr w' r 1 ∧ Chg [] w w' := by
  refine Ret.of_W (args := [_, _]) Tryz.func47 rfl rfl rfl rfl ?_

  refine Sr (Oa rfl rfl (O_end [0, 1] (F' := [(0, _), (1, _)]) rfl (W_seq (Sr (Om rfl rfl (Om rfl rfl ?_))))))
  refine O_go (gn rfl) (st_call bd48 rfl rfl rfl rfl (t_fits0 v w) ?_)
  rintro v9 w9 ⟨i9, c9⟩
  obtain ⟨-, h0⟩ | ⟨i9, -⟩ := i9
  · exact absurd h0 (by decide)
  refine Oa rfl rfl (O_end [0, 1, 5] (F' := [(0, _), (1, _), (5, _)]) rfl (Sr (Om rfl rfl ?_)))
  refine Og (vl_innil in106 rfl i9.notNil) rfl ?_
  refine O_end [0, 1, 5, 11] (F' := [(0, _), (1, _), (5, _), (11, _)]) rfl (W_cond_true rfl (Sr (Om rfl rfl (Oa rfl rfl (O_end [4] (F' := [(4, _)]) rfl (W_ret ?_))))))
  repeat (first | refine then_ret ?_ | refine block_ret ?_)
  refine ret1 rfl rfl ?_
  exact ⟨i9, c9⟩
theorem t_Insert0 (v : Value) (w : World) (hE : EOk w) : Ret Tryz.prog 12 #[.pointer none, v] w fun r w' => r = .int .i64 1 ∧ Chg [] w w' := by
  refine Ret.of_W (args := [_, _]) Tryz.func12 rfl rfl rfl rfl ?_

  refine Sr (Oa rfl rfl (O_end [0, 1] (F' := [(0, _), (1, _)]) rfl (Sr (Om rfl rfl (Om rfl rfl ?_)))))
  refine O_go (gn rfl) (st_call bd47 rfl rfl rfl rfl (t_insert0 v w) ?_)
  rintro v7 w7 ⟨i7, c7⟩
  refine O_go (gn rfl) (st_call bd46 rfl rfl rfl rfl (e_numT _ _ _ (hE.chg0 c7) (.inr i7)) ?_)
  rintro v8 w8 ⟨rfl, c8⟩
  refine Oa rfl rfl (O_end [4] (F' := [(4, _)]) rfl (W_ret ?_))
  refine ret1 rfl rfl ?_
  exact ⟨rfl, c7.trans c8⟩
theorem t_Ignore0 (v : Value) (w : World) (hE : EOk w) : Ret Tryz.prog 38 #[.pointer none, v] w fun r w' => r = .tuple #[.bool false, .int .i64 1] ∧ Chg [] w w' := by
  refine Ret.of_W (args := [_, _]) Tryz.func38 rfl rfl rfl rfl ?_

  refine Sr (Oa rfl rfl (Oa rfl rfl (O_end [0, 1] (F' := [(0, _), (1, _)]) rfl (Sr (Om rfl rfl (Om rfl rfl ?_))))))
  refine O_go (gn rfl) (st_call bd47 rfl rfl rfl rfl (t_insert0 v w) ?_)
  rintro v9 w9 ⟨i9, c9⟩
  refine Oa rfl rfl (O_end [6] (F' := [(6, _)]) rfl (W_seq (Sr (Om rfl rfl ?_))))
  refine Og (vl_mkif ni32 rfl) rfl ?_
  refine O_go (gn rfl) (st_call bd74 rfl rfl rfl rfl (e_Is _ _ 220 _ i9) ?_)
  rintro v12 w12 ⟨rfl, c12⟩
  refine O_end [6, 12] (F' := [(6, _), (12, _)]) rfl (W_cond_false rfl (W_skipE (W_seq ?_)))
  refine W_draw (fun wz => Chg [] w12 wz) mix (by kernel_rfl) (Chg.drew _ _) ?_
  refine Tm rfl rfl ?_
  refine t_pure rfl (gn rfl) (fun _ => vl_inil in106 rfl i9.notNil) rfl rfl ?_
  refine Tm rfl rfl ?_
  refine t_st rfl (gn rfl) (st_call bd46 rfl rfl rfl rfl (e_numT _ _ _ (((hE.chg0 c9).chg0 c12).chg0 (Chg.drew _ _)) (.inr ((i9.chg0 c12).chg0 (Chg.drew _ _)))) ?_)
  rintro v16 w16 ⟨rfl, c16⟩
  refine ⟨.inl ((Chg.drew _ _).trans c16), ?_⟩
  refine Ta rfl rfl (Ta rfl rfl ?_)
  refine T_end [4, 5] (F' := [(4, _), (5, _)]) rfl ?_
  refine W_ret ?_
  refine ret2 rfl rfl rfl ?_
  exact ⟨rfl, ((c9.trans c12).trans (Chg.drew _ _)).trans c16⟩
theorem t_Key0 (v : Value) (w : World) (hE : EOk w) : Ret Tryz.prog 20 #[.pointer none, v] w fun r w' => r = .tuple #[.string e0, .int .i64 1] ∧ Chg [] w w' := by
  refine Ret.of_W (args := [_, _]) Tryz.func20 rfl rfl rfl rfl ?_

  refine Sr (Oa rfl rfl (Oa rfl rfl (O_end [0, 1] (F' := [(0, _), (1, _)]) rfl (W_seq (Sr (Om rfl rfl (Om rfl rfl ?_)))))))
  refine O_go (gn rfl) (st_call bd48 rfl rfl rfl rfl (t_fits0 v w) ?_)
  rintro v11 w11 ⟨i11, c11⟩
  obtain ⟨-, h0⟩ | ⟨i11, -⟩ := i11
  · exact absurd h0 (by decide)
  refine Oa rfl rfl (O_end [0, 1, 6] (F' := [(0, _), (1, _), (6, _)]) rfl (Sr (Om rfl rfl ?_)))
  refine Og (vl_innil in106 rfl i11.notNil) rfl ?_
  refine O_end [0, 1, 6, 13] (F' := [(0, _), (1, _), (6, _), (13, _)]) rfl (W_cond_true rfl (Sr (Om rfl rfl ?_)))
  refine O_go (gn rfl) (st_call bd46 rfl rfl rfl rfl (e_numT _ _ _ (hE.chg0 c11) (.inr i11)) ?_)
  rintro v15 w15 ⟨rfl, c15⟩
  refine Oa rfl rfl (Oa rfl rfl (O_end [4, 5] (F' := [(4, _), (5, _)]) rfl (W_ret ?_)))
  repeat (first | refine then_ret ?_ | refine block_ret ?_)
  refine ret2 rfl rfl rfl ?_
  exact ⟨rfl, c11.trans c15⟩
theorem t_Len0 (w : World) : Ret Tryz.prog 15 #[.pointer none] w fun r w' => r = .int .i64 0 ∧ w' = w := by
  refine Ret.of_W (args := [_]) Tryz.func15 rfl rfl rfl rfl ?_

  refine Sr (Oa rfl rfl (O_end [0] (F' := [(0, _)]) rfl (W_seq (Sr (Om rfl rfl ?_)))))
  refine Og (vl_pnil pt31 rfl rfl) rfl ?_
  refine O_end [0, 4] (F' := [(0, _), (4, _)]) rfl (W_cond_true rfl (Sr (Oa rfl rfl (O_end [2] (F' := [(2, _)]) rfl (W_ret ?_)))))
  repeat (first | refine then_ret ?_ | refine block_ret ?_)
  refine ret1 rfl rfl ?_
  exact ⟨rfl, rfl⟩
theorem t_Rows0 (key : ByteArray) (w : World) : Ret Tryz.prog 27 #[.pointer none, .string key] w fun r w' => ∃ q5 q3, r = .func (.func 67) #[] #[.pointer (some ⟨q5, 0, none⟩), .pointer (some ⟨q3, 0, none⟩)] ∧ Blk w' q5 31 [.pointer none] ∧ Chg [] w w' := by
  refine Ret.of_W (args := [_, _]) Tryz.func27 rfl rfl rfl rfl ?_

  refine Sr ?_
  refine O_go (gn rfl) (st_box rfl rfl rfl ?_)
  intro b3 w3 e3 n3 c3 k3
  refine Oa rfl rfl (O_end [0, 3] (F' := [(0, _), (3, _)]) rfl (Sr (Om rfl rfl ?_)))
  refine O_go (gn rfl) (st_call bd35 rfl rfl rfl rfl (t_Copy0 _) ?_)
  rintro v7 w7 ⟨rfl, rfl⟩
  refine O_go (gn rfl) (st_alloc zr31 rfl rfl ?_)
  intro b5 w5 e5 n5 c5 k5
  refine O_go (gn rfl) (st_store sz31 rfl rfl rfl rfl k5 (by simp) (by simp [Value.oneCell']) ?_)
  intro wA nA cA kA
  refine O_end [3, 5] (F' := [(3, _), (5, _)]) rfl ?_
  have kA : Blk wA b5 31 [.pointer none] := kA
  refine Sr ?_
  refine Og (vl_func rfl rfl) rfl ?_
  refine Oa rfl rfl (O_end [4] (F' := [(4, _)]) rfl (W_ret ?_))
  refine ret1 rfl rfl ?_
  exact ⟨b5, b3, rfl, kA, (c3.trans c5).own cA (by intro y hy; have := c3.size; simp at hy; omega)⟩
theorem t_seq0 (l q5 q3 : Nat) (w : World) (h5 : Blk w q5 31 [.pointer none]) : Ret Tryz.prog 67 #[.func (.yield l) #[] #[], .pointer (some ⟨q5, 0, none⟩), .pointer (some ⟨q3, 0, none⟩)] w fun _ w' => Chg [] w w' := by
  refine Ret.of_W (args := [_, _, _]) Tryz.func67 rfl rfl rfl rfl ?_

  refine Sr ?_
  refine O_go (gn rfl) (st_box rfl rfl rfl ?_)
  intro b3 w3 e3 n3 c3 k3
  refine O_end [1, 2, 3] (F' := [(1, _), (2, _), (3, _)]) rfl ?_
  refine W_scope ?_
  refine W_seq (Sr ?_)
  refine Og (vl_load ag31 rfl ((h5.chg0 c3).cell' rfl)) rfl ?_
  refine Og (vl_pnil pt31 rfl rfl) rfl ?_
  refine O_end [1, 2, 3, 8] (F' := [(1, _), (2, _), (3, _), (8, _)]) rfl (W_cond_true rfl (W_ret ?_))
  repeat (first | refine then_ret ?_ | refine block_ret ?_)
  refine scopeR ?_
  refine ret0 rfl ?_
  exact c3
end Go.Wk

namespace Go.Wk
open Go.Proofs
set_option maxRecDepth 10000

theorem r_by (b : Bool) (w : World) : Ret Tryz.prog 102 #[.bool b] w fun r w' => ∃ i : Int, r = .int .i64 i ∧ i ≠ 0 ∧ w' = w := by
  refine Ret.of_W (args := [_]) Tryz.func102 rfl rfl rfl rfl ?_

  refine Sr (Oa rfl rfl (O_end [0] (F' := [(0, _)]) rfl (W_seq (Sr (Om rfl rfl (O_end [3] (F' := [(3, _)]) rfl ?_))))))
  cases b with
  | true =>
    refine W_cond_true rfl (Sr (Oa rfl rfl (O_end [2] (F' := [(2, _)]) rfl (W_ret ?_))))
    repeat (first | refine then_ret ?_ | refine block_ret ?_)
    refine ret1 rfl rfl ?_
    exact ⟨_, rfl, by decide, rfl⟩
  | false =>
    refine W_cond_false rfl (W_skipE (Sr (Oa rfl rfl (O_end [2] (F' := [(2, _)]) rfl (W_ret ?_)))))
    refine ret1 rfl rfl ?_
    exact ⟨_, rfl, by decide, rfl⟩
theorem r_Order (x y : Val) (w : World) : Ret Tryz.prog 101 #[x.v, y.v] w fun r w' => ∃ i : Int, r = .int .i64 i ∧ (i = 0 ↔ x = y) ∧ Chg [] w w' := by
  obtain ⟨xk, xi, xu, xb⟩ := x
  obtain ⟨yk, yi, yu, yb⟩ := y
  refine Ret.of_W (args := [_, _]) Tryz.func101 rfl rfl rfl rfl ?_

  refine Sr ?_
  refine O_go (gn rfl) (st_box rfl rfl rfl ?_)
  intro b2 w2 e2 n2 c2 k2
  refine O_go (gn rfl) (st_box rfl rfl rfl ?_)
  intro b3 w3 e3 n3 c3 k3
  refine Oa rfl rfl (O_end [2, 3] (F' := [(2, _), (3, _)]) rfl ?_)
  have k2 := k2.chg0 c3
  have hc := c2.trans c3
  refine W_seq (W_block (W_seq ?_))
  by_cases h1 : xk = yk
  · refine W_region (Og (vl_fieldAddr fo40_0 rfl) rfl ?_)
    refine Og (vl_load ag37 rfl (k2.cell' rfl)) rfl ?_
    refine Og (vl_fieldAddr fo40_0 rfl) rfl ?_
    refine Og (vl_load ag37 rfl (k3.cell' rfl)) rfl ?_
    refine Og (vl_is (b' := false) (vl_ine rfl rfl) (by simp [h1])) rfl ?_
    refine Oa rfl rfl (O_end [2, 3, 5] (F' := [(2, _), (3, _), (5, _)]) rfl (W_cond_false rfl (W_seq ?_)))
    by_cases h2 : xi = yi
    · refine W_region (Og (vl_fieldAddr fo40_1 rfl) rfl ?_)
      refine Og (vl_load ag2 rfl (k2.cell' rfl)) rfl ?_
      refine Og (vl_fieldAddr fo40_1 rfl) rfl ?_
      refine Og (vl_load ag2 rfl (k3.cell' rfl)) rfl ?_
      refine Og (vl_is (b' := false) (vl_ine rfl rfl) (by simp [h2])) rfl ?_
      refine Oa rfl rfl (O_end [2, 3, 17] (F' := [(2, _), (3, _), (17, _)]) rfl (W_cond_false rfl (W_seq ?_)))
      by_cases h3 : xu = yu
      · refine W_region (Og (vl_fieldAddr fo40_2 rfl) rfl ?_)
        refine Og (vl_load ag38 rfl (k2.cell' rfl)) rfl ?_
        refine Og (vl_fieldAddr fo40_2 rfl) rfl ?_
        refine Og (vl_load ag38 rfl (k3.cell' rfl)) rfl ?_
        refine Og (vl_is (b' := false) (vl_ine rfl rfl) (by simp [h3])) rfl ?_
        refine Oa rfl rfl (O_end [2, 3, 29] (F' := [(2, _), (3, _), (29, _)]) rfl (W_cond_false rfl (W_seq ?_)))
        by_cases h4 : xb = yb
        · refine W_region (Og (vl_fieldAddr fo40_3 rfl) rfl ?_)
          refine Og (vl_load ag9 rfl (k2.cell' rfl)) rfl ?_
          refine Og (vl_fieldAddr fo40_3 rfl) rfl ?_
          refine Og (vl_load ag9 rfl (k3.cell' rfl)) rfl ?_
          refine Og (vl_is (b' := false) (vl_sne rfl rfl) (by simp [h4])) rfl ?_
          refine Oa rfl rfl (O_end [2, 3, 41] (F' := [(2, _), (3, _), (41, _)]) rfl (W_cond_false rfl (W_skip (block_normal (Sr (Oa rfl rfl (O_end [4] (F' := [(4, _)]) rfl (W_ret ?_))))))))
          refine ret1 rfl rfl ?_
          exact ⟨0, rfl, by simp [h1, h2, h3, h4], hc⟩
        · refine W_region (Og (vl_fieldAddr fo40_3 rfl) rfl ?_)
          refine Og (vl_load ag9 rfl (k2.cell' rfl)) rfl ?_
          refine Og (vl_fieldAddr fo40_3 rfl) rfl ?_
          refine Og (vl_load ag9 rfl (k3.cell' rfl)) rfl ?_
          refine Og (vl_is (b' := true) (vl_sne rfl rfl) (by simp [h4])) rfl ?_
          refine Oa rfl rfl (O_end [2, 3, 41] (F' := [(2, _), (3, _), (41, _)]) rfl (W_cond_true rfl (Sr (Og (vl_fieldAddr fo40_3 rfl) rfl ?_))))
          refine Og (vl_load ag9 rfl (k2.cell' rfl)) rfl ?_
          refine Og (vl_fieldAddr fo40_3 rfl) rfl ?_
          refine Og (vl_load ag9 rfl (k3.cell' rfl)) rfl ?_
          refine Og (vl_slt rfl rfl) rfl ?_
          refine O_go (gn rfl) (st_call bd102 rfl rfl rfl rfl (r_by _ _) ?_)
          rintro v52 w52 ⟨i, rfl, hi, rfl⟩
          refine Oa rfl rfl (O_end [4] (F' := [(4, _)]) rfl (W_ret ?_))
          repeat (first | refine then_ret ?_ | refine block_ret ?_)
          refine ret1 rfl rfl ?_
          exact ⟨i, rfl, by simp [h4, hi], hc⟩
      · refine W_region (Og (vl_fieldAddr fo40_2 rfl) rfl ?_)
        refine Og (vl_load ag38 rfl (k2.cell' rfl)) rfl ?_
        refine Og (vl_fieldAddr fo40_2 rfl) rfl ?_
        refine Og (vl_load ag38 rfl (k3.cell' rfl)) rfl ?_
        refine Og (vl_is (b' := true) (vl_ine rfl rfl) (by simp; omega)) rfl ?_
        refine Oa rfl rfl (O_end [2, 3, 29] (F' := [(2, _), (3, _), (29, _)]) rfl (W_cond_true rfl (Sr (Og (vl_fieldAddr fo40_2 rfl) rfl ?_))))
        refine Og (vl_load ag38 rfl (k2.cell' rfl)) rfl ?_
        refine Og (vl_fieldAddr fo40_2 rfl) rfl ?_
        refine Og (vl_load ag38 rfl (k3.cell' rfl)) rfl ?_
        refine Og (vl_lss rfl rfl) rfl ?_
        refine O_go (gn rfl) (st_call bd102 rfl rfl rfl rfl (r_by _ _) ?_)
        rintro v40 w40 ⟨i, rfl, hi, rfl⟩
        refine Oa rfl rfl (O_end [4] (F' := [(4, _)]) rfl (W_ret ?_))
        repeat (first | refine then_ret ?_ | refine block_ret ?_)
        refine ret1 rfl rfl ?_
        exact ⟨i, rfl, by simp [h3, hi], hc⟩
    · refine W_region (Og (vl_fieldAddr fo40_1 rfl) rfl ?_)
      refine Og (vl_load ag2 rfl (k2.cell' rfl)) rfl ?_
      refine Og (vl_fieldAddr fo40_1 rfl) rfl ?_
      refine Og (vl_load ag2 rfl (k3.cell' rfl)) rfl ?_
      refine Og (vl_is (b' := true) (vl_ine rfl rfl) (by simp [h2])) rfl ?_
      refine Oa rfl rfl (O_end [2, 3, 17] (F' := [(2, _), (3, _), (17, _)]) rfl (W_cond_true rfl (Sr (Og (vl_fieldAddr fo40_1 rfl) rfl ?_))))
      refine Og (vl_load ag2 rfl (k2.cell' rfl)) rfl ?_
      refine Og (vl_fieldAddr fo40_1 rfl) rfl ?_
      refine Og (vl_load ag2 rfl (k3.cell' rfl)) rfl ?_
      refine Og (vl_lss rfl rfl) rfl ?_
      refine O_go (gn rfl) (st_call bd102 rfl rfl rfl rfl (r_by _ _) ?_)
      rintro v28 w28 ⟨i, rfl, hi, rfl⟩
      refine Oa rfl rfl (O_end [4] (F' := [(4, _)]) rfl (W_ret ?_))
      repeat (first | refine then_ret ?_ | refine block_ret ?_)
      refine ret1 rfl rfl ?_
      exact ⟨i, rfl, by simp [h2, hi], hc⟩
  · refine W_region (Og (vl_fieldAddr fo40_0 rfl) rfl ?_)
    refine Og (vl_load ag37 rfl (k2.cell' rfl)) rfl ?_
    refine Og (vl_fieldAddr fo40_0 rfl) rfl ?_
    refine Og (vl_load ag37 rfl (k3.cell' rfl)) rfl ?_
    refine Og (vl_is (b' := true) (vl_ine rfl rfl) (by simp [h1])) rfl ?_
    refine Oa rfl rfl (O_end [2, 3, 5] (F' := [(2, _), (3, _), (5, _)]) rfl (W_cond_true rfl (Sr (Og (vl_fieldAddr fo40_0 rfl) rfl ?_))))
    refine Og (vl_load ag37 rfl (k2.cell' rfl)) rfl ?_
    refine Og (vl_fieldAddr fo40_0 rfl) rfl ?_
    refine Og (vl_load ag37 rfl (k3.cell' rfl)) rfl ?_
    refine Og (vl_lss rfl rfl) rfl ?_
    refine O_go (gn rfl) (st_call bd102 rfl rfl rfl rfl (r_by _ _) ?_)
    rintro v16 w16 ⟨i, rfl, hi, rfl⟩
    refine Oa rfl rfl (O_end [4] (F' := [(4, _)]) rfl (W_ret ?_))
    repeat (first | refine then_ret ?_ | refine block_ret ?_)
    refine ret1 rfl rfl ?_
    exact ⟨i, rfl, by simp [h1, hi], hc⟩
theorem take_same {α : Type} {l m : List α} {j : Nat} (h : l.take j = m.take j) (hl : l.length ≤ j ∨ m.length ≤ j) (he : l.length = m.length) : l = m := by
  rw [List.take_of_length_le (by omega), List.take_of_length_le (by omega)] at h
  exact h
theorem r_Lists (v u : Value) (l m : List Val) (w : World) (hv : IsVals w v l) (hu : IsVals w u m) (hl : l.length ≤ 1048576) : Ret Tryz.prog 69 #[v, u] w fun r w' => ∃ i : Int, r = .int .i64 i ∧ (i = 0 ↔ l = m) ∧ Chg [] w w' := by
  obtain ⟨pv, cv, rfl, _⟩ := id (Arr.val hv)
  obtain ⟨pu, cu, rfl, _⟩ := id (Arr.val hu)
  refine Ret.of_W (args := [_, _]) Tryz.func69 rfl rfl rfl rfl ?_

  refine Sr (Oa rfl rfl (O_end [0, 1] (F' := [(0, _), (1, _)]) rfl ?_))
  refine W_seq_cut (fun F wx => ∃ (j : Nat) (f16 : Value), F = [(0, .slice pv l.length cv), (1, .slice pu m.length cu), (5, .int .i64 j), (16, f16)] ∧ l.take j = m.take j ∧ (l.length ≤ j ∨ m.length ≤ j) ∧ Chg [] w wx) ?_ ?_
  · refine Sr (Oa rfl rfl (O_end [0, 1, 5] (F' := [(0, _), (1, _), (5, _)]) rfl (W_block ?_)))
    refine W_loop [0, 1, 5] (fun k F wx => ∃ j : Nat, k = l.length - j ∧ j ≤ l.length ∧ j ≤ m.length ∧ F = [(0, .slice pv l.length cv), (1, .slice pu m.length cu), (5, .int .i64 j)] ∧ l.take j = m.take j ∧ Chg [] w wx) (m := l.length - 0) ⟨0, rfl, Nat.zero_le _, Nat.zero_le _, rfl, by simp, Chg.refl _ _⟩ ?_
    rintro k F wx ⟨j, rfl, hj, hj', rfl, htk, hcx⟩
    refine W_seq (W_seq ?_)
    by_cases h1 : j < l.length
    · by_cases h2 : j < m.length
      · refine W_region (Om rfl rfl (Om rfl rfl (Og (vl_len sl48 rfl) rfl ?_)))
        refine Og (vl_is (b' := true) (vl_lss rfl rfl) (decide_eq_true (by omega))) rfl ?_
        refine Om rfl rfl ?_
        refine Oy rfl rfl (vl_move rfl) rfl ?_
        refine Oy rfl rfl (vl_move rfl) rfl ?_
        refine Oy rfl rfl (vl_len sl48 rfl) rfl ?_
        refine Oy rfl rfl (vl_is (b' := true) (vl_lss rfl rfl) (decide_eq_true (by omega))) rfl ?_
        refine Ot rfl rfl rfl (O_end [0, 1, 5, 16] (F' := [(0, _), (1, _), (5, _), (16, _)]) rfl (W_cond_true rfl (W_skipE ?_)))
        have hx : l[j]? = some l[j] := by simp [h1]
        have hy : m[j]? = some m[j] := by simp [h2]
        generalize l[j] = x at hx
        generalize m[j] = y at hy
        refine W_seq (W_block (W_seq ?_))
        have hd : Chg [] wx wx.drew := Chg.drew [] _
        have hcl1 : ∀ {wz : World}, Chg [] wx wz → ∃ b off cap, Value.slice pv l.length cv = .slice (some ⟨b, off, none⟩) l.length cap ∧ Cells wz b (off + j * 4) x.cs := fun hc => Arr.at cs_len (Arr.chg0 hv (hcx.trans hc)) hx
        have hcl2 : ∀ {wz : World}, Chg [] wx wz → ∃ b off cap, Value.slice pu m.length cu = .slice (some ⟨b, off, none⟩) m.length cap ∧ Cells wz b (off + j * 4) y.cs := fun hc => Arr.at cs_len (Arr.chg0 hu (hcx.trans hc)) hy
        obtain ⟨b, off, cap, hve, -⟩ := hcl1 (Chg.refl [] wx)
        obtain ⟨b', off', cap', hue, -⟩ := hcl2 (Chg.refl [] wx)
        cases hve
        cases hue
        have hc1 : ∀ {wz : World}, Chg [] wx wz → Cells wz b (off + j * 4) x.cs := fun hc => by
          obtain ⟨_, _, _, he, h⟩ := hcl1 hc
          cases he; exact h
        have hc2 : ∀ {wz : World}, Chg [] wx wz → Cells wz b' (off' + j * 4) y.cs := fun hc => by
          obtain ⟨_, _, _, he, h⟩ := hcl2 hc
          cases he; exact h
        refine W_draw (fun wz => Chg [] wx wz) mix (by kernel_rfl) hd ?_
        refine Tm rfl rfl (Tm rfl rfl ?_)
        refine t_pure rfl (gn rfl) (fun _ => vl_indexAddr sl48 sz40 rfl rfl _ rfl h1) rfl rfl ?_
        refine t_read rfl (gn rfl) (fun wz hz => vl_loadAgg ag40 sz40 rfl rfl (hc1 hz)) rfl rfl ?_
        refine Tm rfl rfl (Tm rfl rfl ?_)
        refine t_pure rfl (gn rfl) (fun _ => vl_indexAddr sl48 sz40 rfl rfl _ rfl h2) rfl rfl ?_
        refine t_read rfl (gn rfl) (fun wz hz => vl_loadAgg ag40 sz40 rfl rfl (hc2 hz)) rfl rfl ?_
        refine t_st rfl (gn rfl) (st_call bd101 rfl rfl rfl rfl (r_Order x y _) ?_)
        rintro v27 w27 ⟨i, rfl, hi, c27⟩
        refine ⟨.inl (hd.trans c27), ?_⟩
        refine Ta rfl rfl ?_
        refine T_end [0, 1, 5, 6] (F' := [(0, _), (1, _), (5, _), (6, _)]) rfl ?_
        refine W_seq ?_
        by_cases hxy : x = y
        · have hi0 := hi.2 hxy
          subst hi0
          refine W_region (Om rfl rfl ?_)
          refine Og (vl_is (b' := false) (vl_ine rfl rfl) (ine_f (by omega))) rfl ?_
          refine O_end [0, 1, 5, 6, 29] (F' := [(0, _), (1, _), (5, _), (6, _), (29, _)]) rfl (W_cond_false rfl (W_skip (block_normal (W_region (Om rfl rfl ?_)))))
          refine Og (vl_add rfl rfl (by omega)) rfl ?_
          refine Oa rfl rfl ?_
          refine O_endN [0, 1, 5] (F' := [(0, _), (1, _), (5, _)]) rfl ?_
          refine ⟨l.length - (j + 1), by omega, j + 1, rfl, by omega, by omega, rfl, ?_, (hcx.trans hd).trans c27⟩
          rw [take_snoc hx, take_snoc hy, htk, hxy]
        · have hi0 : i ≠ 0 := fun h => hxy (hi.1 h)
          refine W_region (Om rfl rfl ?_)
          refine Og (vl_is (b' := true) (vl_ine rfl rfl) (by simp [hi0])) rfl ?_
          refine O_end [0, 1, 5, 6, 29] (F' := [(0, _), (1, _), (5, _), (6, _), (29, _)]) rfl (W_cond_true rfl (Sr (Om rfl rfl (Oa rfl rfl (O_end [4] (F' := [(4, _)]) rfl (W_ret ?_))))))
          repeat (first | refine then_ret ?_ | refine block_ret ?_)
          refine ret1 rfl rfl ?_
          refine ⟨i, rfl, ⟨fun h => absurd h hi0, fun h => ?_⟩, (hcx.trans hd).trans c27⟩
          rw [h, hy] at hx
          cases hx
          exact absurd rfl hxy
      · refine W_region (Om rfl rfl (Om rfl rfl (Og (vl_len sl48 rfl) rfl ?_)))
        refine Og (vl_is (b' := true) (vl_lss rfl rfl) (decide_eq_true (by omega))) rfl ?_
        refine Om rfl rfl ?_
        refine Oy rfl rfl (vl_move rfl) rfl ?_
        refine Oy rfl rfl (vl_move rfl) rfl ?_
        refine Oy rfl rfl (vl_len sl48 rfl) rfl ?_
        refine Oy rfl rfl (vl_is (b' := false) (vl_lss rfl rfl) (decide_eq_false (by omega))) rfl ?_
        refine Ot rfl rfl rfl (O_end [0, 1, 5, 16] (F' := [(0, _), (1, _), (5, _), (16, _)]) rfl (W_cond_false rfl ?_))
        refine W_exit ?_
        repeat (first | refine then_exit ?_ | refine blockF_other rfl ?_)
        refine blockF_exit _ ?_
        exact ⟨j, _, rfl, htk, .inr (by omega), hcx⟩
    · refine W_region (Om rfl rfl (Om rfl rfl (Og (vl_len sl48 rfl) rfl ?_)))
      refine Og (vl_is (b' := false) (vl_lss rfl rfl) (decide_eq_false (by omega))) rfl ?_
      refine Om rfl rfl (Oz rfl rfl rfl rfl (Oz rfl rfl rfl rfl (Oz rfl rfl rfl rfl (Oz rfl rfl rfl rfl (Of rfl rfl rfl (O_end [0, 1, 5, 16] (F' := [(0, _), (1, _), (5, _), (16, _)]) rfl (W_cond_false rfl ?_)))))))
      refine W_exit ?_
      repeat (first | refine then_exit ?_ | refine blockF_other rfl ?_)
      refine blockF_exit _ ?_
      exact ⟨j, _, rfl, htk, .inl (by omega), hcx⟩
  rintro F wx ⟨j, f16, rfl, htk, hend, hcx⟩
  refine W_seq (W_seq ?_)
  by_cases he : l.length = m.length
  · refine W_region (Om rfl rfl (Og (vl_len sl48 rfl) rfl (Om rfl rfl (Og (vl_len sl48 rfl) rfl ?_))))
    refine Og (vl_is (b' := true) (vl_ieq rfl rfl) (by simp [he])) rfl ?_
    refine O_end [0, 1, 35] (F' := [(0, _), (1, _), (35, _)]) rfl (W_cond_true rfl (Sr (Oa rfl rfl (O_end [4] (F' := [(4, _)]) rfl (W_ret ?_)))))
    repeat (first | refine then_ret ?_ | refine block_ret ?_)
    refine ret1 rfl rfl ?_
    exact ⟨0, rfl, by simp [take_same htk hend he], hcx⟩
  · refine W_region (Om rfl rfl (Og (vl_len sl48 rfl) rfl (Om rfl rfl (Og (vl_len sl48 rfl) rfl ?_))))
    refine Og (vl_is (b' := false) (vl_ieq rfl rfl) (by simp; omega)) rfl ?_
    refine O_end [0, 1, 35] (F' := [(0, _), (1, _), (35, _)]) rfl (W_cond_false rfl (W_skipE (Sr (Om rfl rfl (Og (vl_len sl48 rfl) rfl (Om rfl rfl (Og (vl_len sl48 rfl) rfl (Og (vl_lss rfl rfl) rfl ?_))))))))
    refine O_go (gn rfl) (st_call bd102 rfl rfl rfl rfl (r_by _ _) ?_)
    rintro v41 w41 ⟨i, rfl, hi, rfl⟩
    refine Oa rfl rfl (O_end [4] (F' := [(4, _)]) rfl (W_ret ?_))
    refine ret1 rfl rfl ?_
    exact ⟨i, rfl, ⟨fun h => absurd h hi, fun h => absurd (by rw [h]) he⟩, hcx⟩
theorem r_Same (v u : Value) (l m : List Val) (w : World) (hv : IsVals w v l) (hu : IsVals w u m) (hl : l.length ≤ 1048576) : Ret Tryz.prog 29 #[v, u] w fun r w' => r = .bool (decide (l = m)) ∧ Chg [] w w' := by
  refine Ret.of_W (args := [_, _]) Tryz.func29 rfl rfl rfl rfl ?_

  refine Sr (Oa rfl rfl (O_end [0, 1] (F' := [(0, _), (1, _)]) rfl (Sr (Om rfl rfl (Om rfl rfl ?_)))))
  refine O_go (gn rfl) (st_call bd69 rfl rfl rfl rfl (r_Lists v u l m w hv hu hl) ?_)
  rintro v7 w7 ⟨i, rfl, hi, c7⟩
  refine Og (vl_ieq rfl rfl) rfl (Oa rfl rfl (O_end [4] (F' := [(4, _)]) rfl (W_ret ?_)))
  refine ret1 rfl rfl ?_
  refine ⟨?_, c7⟩
  congr 1
  rw [decide_eq_decide]
  exact hi
theorem r_SameRows (v u : Value) (l m : List (List Val)) (w : World) (hv : IsRows w v l) (hu : IsRows w u m) (hl : ∀ r ∈ l, r.length ≤ 1048576) (hn : l.length ≤ 1048576) : Ret Tryz.prog 42 #[v, u] w fun r w' => r = .bool (decide (l = m)) ∧ Chg [] w w' := by
  obtain ⟨pv, cv, rfl, _⟩ := id (Arr2.val hv)
  obtain ⟨pu, cu, rfl, _⟩ := id (Arr2.val hu)
  refine Ret.of_W (args := [_, _]) Tryz.func42 rfl rfl rfl rfl ?_

  refine Sr (Oa rfl rfl (O_end [0, 1] (F' := [(0, _), (1, _)]) rfl (W_seq (W_seq ?_))))
  by_cases he : l.length = m.length
  · refine W_region (Om rfl rfl (Og (vl_len sl42 rfl) rfl (Om rfl rfl (Og (vl_len sl42 rfl) rfl ?_))))
    refine Og (vl_is (b' := false) (vl_ine rfl rfl) (by simp [he])) rfl ?_
    refine O_end [0, 1, 10] (F' := [(0, _), (1, _), (10, _)]) rfl (W_cond_false rfl (W_skipE (W_seq (Sr (Oa rfl rfl (O_end [0, 1, 5] (F' := [(0, _), (1, _), (5, _)]) rfl (W_block ?_)))))))
    refine W_loop [0, 1, 5] (fun k F wx => ∃ j : Nat, k = l.length - j ∧ j ≤ l.length ∧ F = [(0, .slice pv l.length cv), (1, .slice pu m.length cu), (5, .int .i64 j)] ∧ l.take j = m.take j ∧ Chg [] w wx) (m := l.length - 0) ⟨0, rfl, Nat.zero_le _, rfl, by simp, Chg.refl _ _⟩ ?_
    rintro k F wx ⟨j, rfl, hj, rfl, htk, hcx⟩
    refine W_seq (Sr (Om rfl rfl (Om rfl rfl (Og (vl_len sl42 rfl) rfl (Og (vl_lss rfl rfl) rfl (O_end [0, 1, 5, 14] (F' := [(0, _), (1, _), (5, _), (14, _)]) rfl ?_))))))
    refine W_cond rfl (fun hT => ?_) (fun hF => ?_)
    · refine W_skipE ?_
      have h1 : j < l.length := by have := of_decide_eq_true hT; omega
      have hx : l[j]? = some l[j] := by simp [h1]
      have hy : m[j]? = some (m[j]'(by omega)) := by simp
      generalize l[j] = x at hx
      generalize m[j]'(by omega) = y at hy
      have hxl := hl x (List.mem_of_getElem? hx)
      refine W_seq (W_block (W_seq ?_))
      have hd : Chg [] wx wx.drew := Chg.drew [] _
      obtain ⟨b, off, cap, ux, hve, hc1, hux⟩ := Arr2.at (hv.chg0 hcx) hx
      obtain ⟨b', off', cap', uy, hue, hc2, huy⟩ := Arr2.at (hu.chg0 hcx) hy
      cases hve
      cases hue
      have g1 : ∀ {wz : World}, Chg [] wx wz → wz.cell? ⟨b, off + j * 1, none⟩ = some ux := fun hc => Chg.cell hc hc1
      have g2 : ∀ {wz : World}, Chg [] wx wz → wz.cell? ⟨b', off' + j * 1, none⟩ = some uy := fun hc => Chg.cell hc hc2
      refine W_draw (fun wz => Chg [] wx wz) mix (by kernel_rfl) hd ?_
      refine Tm rfl rfl (Tm rfl rfl ?_)
      refine t_pure rfl (gn rfl) (fun _ => vl_indexAddr sl42 sz48 rfl rfl _ rfl h1) rfl rfl ?_
      refine t_read rfl (gn rfl) (fun wz hz => vl_load ag48 rfl (g1 hz)) rfl rfl ?_
      refine Tm rfl rfl (Tm rfl rfl ?_)
      refine t_pure rfl (gn rfl) (fun _ => vl_indexAddr sl42 sz48 rfl rfl _ rfl (show j < m.length by omega)) rfl rfl ?_
      refine t_read rfl (gn rfl) (fun wz hz => vl_load ag48 rfl (g2 hz)) rfl rfl ?_
      refine t_st rfl (gn rfl) (st_call bd29 rfl rfl rfl rfl (r_Same ux uy x y _ (Arr.chg0 hux hd) (Arr.chg0 huy hd) hxl) ?_)
      rintro v25 w25 ⟨rfl, c25⟩
      refine ⟨.inl (hd.trans c25), ?_⟩
      refine t_pure rfl (gn rfl) (fun _ => vl_not rfl) rfl rfl ?_
      refine T_end [0, 1, 5, 26] (F' := [(0, _), (1, _), (5, _), (26, _)]) rfl ?_
      by_cases hxy : x = y
      · rw [decide_eq_true hxy]
        refine W_cond_false rfl (W_skip (block_normal (W_region (Om rfl rfl ?_))))
        refine Og (vl_add rfl rfl (by omega)) rfl ?_
        refine Oa rfl rfl ?_
        refine O_endN [0, 1, 5] (F' := [(0, _), (1, _), (5, _)]) rfl ?_
        refine ⟨l.length - (j + 1), by omega, j + 1, rfl, by omega, rfl, ?_, (hcx.trans hd).trans c25⟩
        rw [take_snoc hx, take_snoc hy, htk, hxy]
      · rw [decide_eq_false hxy]
        refine W_cond_true rfl (Sr (Oa rfl rfl (O_end [4] (F' := [(4, _)]) rfl (W_ret ?_))))
        repeat (first | refine then_ret ?_ | refine block_ret ?_)
        refine ret1 rfl rfl ?_
        refine ⟨?_, (hcx.trans hd).trans c25⟩
        rw [decide_eq_false fun h => ?_]
        rw [h, hy] at hx
        cases hx
        exact hxy rfl
    · refine W_exit ?_
      repeat (first | refine then_exit ?_ | refine blockF_other rfl ?_)
      refine blockF_exit _ ?_
      have h1 : l.length ≤ j := by have := of_decide_eq_false hF; omega
      refine Sr (Oa rfl rfl (O_end [4] (F' := [(4, _)]) rfl (W_ret ?_)))
      refine ret1 rfl rfl ?_
      rw [decide_eq_true (take_same htk (.inl h1) he)]
      exact ⟨rfl, hcx⟩
  · refine W_region (Om rfl rfl (Og (vl_len sl42 rfl) rfl (Om rfl rfl (Og (vl_len sl42 rfl) rfl ?_))))
    refine Og (vl_is (b' := true) (vl_ine rfl rfl) (by simp; omega)) rfl ?_
    refine O_end [0, 1, 10] (F' := [(0, _), (1, _), (10, _)]) rfl (W_cond_true rfl (Sr (Oa rfl rfl (O_end [4] (F' := [(4, _)]) rfl (W_ret ?_)))))
    repeat (first | refine then_ret ?_ | refine block_ret ?_)
    refine ret1 rfl rfl ?_
    rw [decide_eq_false fun h => he (by rw [h])]
    exact ⟨rfl, Chg.refl _ _⟩
end Go.Wk

namespace Go.Wk
open Go.Proofs
set_option maxRecDepth 10000

theorem vl_bne {P : Program} {n : Nat} {F : Fr} {w : World} {dst : Option Nat} {ty : TypeId} {pos : String} {af : Array Edge} {gd : Option (Nat × Bool)} {x y : Operand} {t u : TypeId} {a b : Bool} (hb : boOf P t = true) (hx : ev F x = some (.bool a)) (hy : ev F y = some (.bool b)) : Vl P n F ⟨dst, .binOp .neq t x y u, ty, pos, af, gd⟩ w (.bool (!(a == b))) w := by
  intro c ha
  have hu : P.underlying t = some .bool := by unfold boOf at hb; split at hb <;> simp_all
  have h1 : (Op.equal t (.bool a) (.bool b)).run P w = .ok (a == b) w := run_equal fun d => by simp [Op.equalIn, run_underlying hu]
  simp [execOp, ha.eval hx, ha.eval hy, eqGuard, binOp, h1]
section
variable {w : World} {t : Nat} {own : List Nat} {s : Sch} {rows : List (List Val)}
theorem tt_Key (h : IsTab w t own s rows) (hE : EOk w) {v : Value} {row : List Val} (hl : IsVals w v row) (hg : ∀ x ∈ row, x.Rng) (hn : row.length ≤ 1048576) :
    Ret Tryz.prog 20 #[.pointer (some ⟨t, 0, none⟩), v] w fun r w' => r = .tuple #[.string (if rowN s row = 0 then keyR s row else e0), .int .i64 (rowN s row)] ∧ Chg [] w w' := by
  obtain ⟨pm, c, k, u, sv, xs, main, subs, rfl, hm, ht⟩ := h
  exact t_Key v row w hE hm ht hl hg hn
theorem tt_Find (h : IsTab w t own s rows) (n : Int) {v : Value} {vals : List Val} (hl : IsVals w v vals) (hg : ∀ x ∈ vals, x.Rng) :
    Ret Tryz.prog 31 #[.pointer (some ⟨t, 0, none⟩), .int .i64 n, v] w fun r w' => ∃ o, r = .tuple #[o, .bool (findN s rows n vals).isSome] ∧ IsVals w' o ((findN s rows n vals).getD []) ∧ (∀ b ∈ blkOf o, w.heap.size ≤ b) ∧ Chg [] w w' := by
  obtain ⟨pm, c, k, u, sv, xs, main, subs, rfl, hm, ht⟩ := h
  exact t_Find n v vals w hm ht hl hg
theorem tt_Get (h : IsTab w t own s rows) (key : ByteArray) :
    Ret Tryz.prog 23 #[.pointer (some ⟨t, 0, none⟩), .string key] w fun r w' => ∃ o, r = .tuple #[o, .bool (getR s rows key).isSome] ∧ IsVals w' o ((getR s rows key).getD []) ∧ (∀ b ∈ blkOf o, w.heap.size ≤ b) ∧ Chg [] w w' := by
  obtain ⟨pm, c, k, u, sv, xs, main, subs, rfl, hm, ht⟩ := h
  exact (t_Get key w hm ht).mono fun r w' ⟨o, h1, h2, h3⟩ => ⟨o, h1, h2.arr, h3⟩
theorem tt_Len (h : IsTab w t own s rows) :
    Ret Tryz.prog 15 #[.pointer (some ⟨t, 0, none⟩)] w fun r w' => r = .int .i64 rows.length ∧ w' = w := by
  obtain ⟨pm, c, k, u, sv, xs, main, subs, rfl, hm, ht⟩ := h
  exact t_Len w hm ht
end
theorem IsVals.tab {w w' : World} {t : Nat} {own : List Nat} {s : Sch} {rows : List (List Val)} (h : IsTab w t own s rows) {v : Value} {l : List Val} (hv : IsVals w v l) (hc : Chg own w w') : IsVals w' v l :=
  IsVals.own hv h.pages hc
theorem Blk.tab {w w' : World} {t : Nat} {own : List Nat} {s : Sch} {rows : List (List Val)} (h : IsTab w t own s rows) {b : Nat} {e : TypeId} {c : List Value} (hb : Blk w b e c) (hne : Nat.beq e 147 = false) (hc : Chg own w w') : Blk w' b e c := by
  refine hb.chg hc fun hm => ?_
  obtain ⟨c', hp⟩ := h.pg b hm
  have := Option.some.inj ((show w.heap[b]? = _ from hb).symm.trans hp)
  cases this
  simp at hne
theorem insR_no {s : Sch} {rows : List (List Val)} {row : List Val} (h : insE s rows row ≠ 0) : insR s rows row = rows := by unfold insR; rw [if_neg h]
theorem updR_no {s : Sch} {rows : List (List Val)} {row : List Val} {k : ByteArray} (h : updE s rows k row ≠ 0) : updR s rows k row = rows := by unfold updR; rw [if_neg h]
end Go.Wk

namespace Go.Wk
open Go.Proofs
set_option maxRecDepth 10000

def vI (n : Int) : Val := ⟨1, n, 0, e0⟩
theorem vI_rng {n : Int} (h : -9223372036854775808 ≤ n ∧ n ≤ 9223372036854775807) : (vI n).Rng := ⟨⟨by simp [vI], by simp [vI]⟩, h, by simp [vI]⟩
def sW : Sch := ⟨[⟨⟨#[97]⟩, 1, 1, false⟩, ⟨⟨#[98]⟩, 1, 1, true⟩], [0], [[1]]⟩
def wk1 : List (List Val) := insR sW [] [vI 1, vI 5]
def wk2 : List (List Val) := insR sW wk1 [vI 2, Val.null]
def wk3 : List (List Val) := insR sW wk2 [vI 3, Val.null]
def wk4 : List (List Val) := repR sW wk3 [vI 2, vI 5]
theorem wk_s : rightS sW = true := by decide +kernel
theorem wk_1 : insE sW [] [vI 1, vI 5] = 0 := by decide +kernel
theorem wk_2 : insE sW wk1 [vI 2, Val.null] = 0 := by decide +kernel
theorem wk_3 : insE sW wk2 [vI 3, Val.null] = 0 := by decide +kernel
theorem wk_4 : insE sW wk3 [vI 1, vI 6] = 220 := by decide +kernel
theorem wk_5 : insE sW wk3 [vI 4, vI 5] = 220 := by decide +kernel
theorem wk_6 : repE sW wk3 [vI 2, vI 5] = 0 := by decide +kernel
theorem wk_7 : repG sW wk3 [vI 2, vI 5] = [[vI 1, vI 5], [vI 2, Val.null]] := by decide +kernel
theorem wk_8 : findN sW wk4 1 [vI 5] = some [vI 2, vI 5] := by decide +kernel
theorem wk_9 : rowN sW [vI 3, Val.null] = 0 := by decide +kernel
theorem wk_10 : updE sW wk4 (keyR sW [vI 3, Val.null]) [vI 2, vI 7] = 220 := by decide +kernel
theorem wk_11 : wk4.length = 2 := by decide +kernel

theorem l_num (n : Int) (w : World) : Ret Tryz.prog 11 #[.int .i64 n] w fun r w' => r = .int .i64 n ∧ w' = w := by
  refine Ret.of_W (args := [_]) Tryz.func11 rfl rfl rfl rfl ?_

  refine Sr (Oa rfl rfl (O_end [0] (F' := [(0, _)]) rfl (Sr (Om rfl rfl (Oa rfl rfl (O_end [2] (F' := [(2, _)]) rfl (W_ret ?_)))))))
  refine ret1 rfl rfl ?_
  exact ⟨rfl, rfl⟩
theorem l_of (n : Int) (w : World) : Ret Tryz.prog 13 #[.int .i64 n] w fun r w' => r = (vI n).v ∧ Chg [] w w' := by
  refine Ret.of_W (args := [_]) Tryz.func13 rfl rfl rfl rfl ?_

  refine Sr ?_
  refine O_go (gn rfl) (st_alloc zr40 rfl rfl ?_)
  intro b2 w2 e2 n2 c2 k2
  refine O_end [0, 2] (F' := [(0, _), (2, _)]) rfl (Sr (Om rfl rfl ?_))
  refine Og (vl_build pl40 zr40 rfl (vs := [_, _]) rfl (css := [_, _]) ⟨rfl, rfl, trivial⟩ rfl rfl (cs := [_, _, _, _]) rfl) rfl ?_
  refine O_go (gn rfl) (st_store sz40 rfl rfl rfl rfl k2 (by simp) (Val.one (vI n)) ?_)
  intro wA nA cA kA
  refine O_end [2] (F' := [(2, _)]) rfl (W_ret ?_)
  refine retC rfl ag40 sz40 rfl rfl (Cells.of_blk0 kA) ?_
  exact ⟨rfl, c2.own cA (by intro y hy; simp at hy; omega)⟩
theorem vals_of {w : World} {b : Nat} {l : List Val} {n : Nat} (hb : Blk w b 40 (fl Val.cs l)) (hn : l.length ≤ maxLen) (he : l.length = n) : IsVals w (.slice (some ⟨b, 0, none⟩) n n) l := by
  subst he
  exact Arr.of_blk cs_len Val.one hb hn
theorem l_row (n : Int) (x : Val) (w : World) : Ret Tryz.prog 41 #[.int .i64 n, x.v] w fun r w' => IsVals w' r [vI n, x] ∧ (∀ b ∈ blkOf r, w.heap.size ≤ b) ∧ Chg [] w w' := by
  refine Ret.of_W (args := [_, _]) Tryz.func41 rfl rfl rfl rfl ?_

  refine Sr ?_
  refine O_go (gn rfl) (st_box rfl rfl rfl ?_)
  intro b3 w3 e3 n3 c3 k3
  refine Oa rfl rfl (O_end [0, 3] (F' := [(0, _), (3, _)]) rfl ?_)
  have k3 : Blk w3 b3 40 x.cs := k3
  refine W_seq ?_
  have hd : Chg [] w3 w3.drew := Chg.drew [] _
  refine W_draw (fun wz => Chg [] w3 wz) mix (by kernel_rfl) hd ?_
  refine Tm rfl rfl ?_
  refine t_st rfl (gn rfl) (st_call bd13 rfl rfl rfl rfl (l_of n _) ?_)
  rintro v6 w6 ⟨rfl, c6⟩
  refine ⟨.inl (hd.trans c6), ?_⟩
  refine t_read rfl (gn rfl) (fun wz hz => vl_loadAgg ag40 sz40 rfl rfl (Cells.of_blk0 (k3.chg0 hz))) rfl rfl ?_
  refine t_st rfl (gn rfl) (st_buildSlice ap48 rfl (vs := [_, _]) rfl (css := [_, _]) ⟨rfl, rfl, trivial⟩ rfl rfl (cs := [_, _, _, _, _, _, _, _]) rfl rfl ?_)
  intro b8 w8 e8 n8 c8 k8
  refine ⟨.inl ((hd.trans c6).trans c8), ?_⟩
  refine Ta rfl rfl ?_
  refine T_end [4] (F' := [(4, _)]) rfl ?_
  refine W_ret ?_
  refine ret1 rfl rfl ?_
  have hs := ((c3.trans hd).trans c6).size
  refine ⟨vals_of (l := [vI n, x]) k8 (by simp [maxLen]) rfl, by intro b hb; simp [blkOf] at hb; omega, ((c3.trans hd).trans c6).trans c8⟩
end Go.Wk
