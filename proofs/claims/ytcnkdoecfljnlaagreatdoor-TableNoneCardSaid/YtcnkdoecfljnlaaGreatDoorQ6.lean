/-
  Take.
  Getters of pages: New, total, Len, Get, Copy, num.
  Plain law: putting and taking keep pages as they should be.
  From of no pages: an iterator that hands over nothing.
  From: the iterator over pages.
  From: the iterator, as a range over a function wants it.
  Plain law: what is told of a key behind putting and taking; how many entries a page has; a map that tells the same.
  What is found in pages, told by the entries.
-/
import Derived.Test.YtcnkdoecfljnlaaGreatDoorQ5
set_option linter.all false
namespace Go.Wk
open Go.Proofs
set_option maxRecDepth 10000

def takeL (l : List Ent) (key : ByteArray) : List Ent := l.take (lbN l key) ++ l.drop (lbN l key + 1)
def nth (ls : List (List Ent)) (i : Nat) : List Ent := ls[i]?.getD []
/-- What becomes of pages whose page a is l' now. -/
def settle (ls : List (List Ent)) (a : Nat) (l' : List Ent) : List (List Ent) :=
  if 3 ≤ l'.length ∨ (ls.length = 1 ∧ 0 < l'.length) then ls.take a ++ [l'] ++ ls.drop (a + 1)
  else if ls.length = 1 then []
  else if a + 1 = ls.length then ls.take (a - 1) ++ joinL (nth ls (a - 1) ++ l') ++ ls.drop (a + 1)
  else ls.take a ++ joinL (l' ++ nth ls (a + 1)) ++ ls.drop (a + 2)
def pTake (ls : List (List Ent)) (key : ByteArray) : List (List Ent) :=
  match ls[cntN ls key - 1]? with
  | some l => if hasK l key then settle ls (cntN ls key - 1) (takeL l key) else ls
  | none => ls

theorem f11_nil (key : ByteArray) (w : World) : Ret Tryz.prog 83 #[.pointer none, .string key] w fun r w' => r = .tuple #[.string ⟨#[]⟩, .bool false, .int .i64 1] ∧ w' = w := by
  refine Ret.of_W (args := [_, _]) Tryz.func83 rfl rfl rfl rfl ?_

  refine Sr (Oa rfl rfl (Oa rfl rfl (Oa rfl rfl (O_end [0, 1] (F' := [(0, _), (1, _)]) rfl (W_seq (Sr (Om rfl rfl ?_)))))))
  refine Og (vl_pnil pt94 rfl rfl) rfl ?_
  refine O_end [0, 1, 14] (F' := [(0, _), (1, _), (14, _)]) rfl (W_cond_true rfl (Sr (Oa rfl rfl (Oa rfl rfl (Oa rfl rfl (O_end [4, 5, 6] (F' := [(4, _), (5, _), (6, _)]) rfl (W_ret ?_)))))))
  refine then_ret ?_
  refine ret3 rfl rfl rfl rfl ?_
  exact ⟨rfl, rfl⟩

theorem f11 (p : Nat) (ls : List (List Ent)) (key : ByteArray) (w : World) (hp : Pg w p ls) (hw : WfP ls) (hn : ls.length ≤ 65536) :
    Ret Tryz.prog 83 #[.pointer (some ⟨p, 0, none⟩), .string key] w fun r w' => r = .tuple #[.string ((getP ls key).getD ⟨#[]⟩), .bool (getP ls key).isSome, .int .i64 0] ∧ Pg w' p (pTake ls key) ∧ Chg [p] w w' := by
  obtain ⟨v, hb, hpg⟩ := id hp
  obtain ⟨vs, hsl, hal⟩ := id hpg
  obtain ⟨pv, cv, rfl, hlc⟩ := hsl.val
  refine Ret.of_W (args := [_, _]) Tryz.func83 rfl rfl rfl rfl ?_

  refine Sr (Oa rfl rfl (Oa rfl rfl (Oa rfl rfl (O_end [0, 1] (F' := [(0, _), (1, _)]) rfl (W_seq (Sr (Om rfl rfl ?_)))))))
  refine Og (vl_pnil pt94 rfl rfl) rfl ?_
  refine O_end [0, 1, 14] (F' := [(0, _), (1, _), (14, _)]) rfl (W_cond_false rfl (W_skipE (Sr (Om rfl rfl (Og (vl_nilCheck rfl) rfl (Og (vl_fieldAddr fo147_0 rfl) rfl ?_))))))
  refine Og (vl_load ag145 rfl (hb.cell' rfl)) rfl ?_
  refine Om rfl rfl ?_
  refine O_go (gn rfl) (st_call bd97 rfl rfl rfl rfl (f24 (.slice pv ls.length cv) ls key w hpg hw.ne (by omega) hw.firsts hw.each (fun l hl => by have := hw.le l hl; omega)) ?_)
  rintro v21 w21 ⟨rfl, c21⟩
  refine Om rfl rfl (Oe rfl rfl rfl (Oe rfl rfl rfl (Oe rfl rfl rfl (Oa rfl rfl (Oa rfl rfl (Oa rfl rfl (O_end [0, 7, 8, 9] (F' := [(0, _), (7, _), (8, _), (9, _)]) rfl (W_seq (Sr (Om rfl rfl (Og (vl_not rfl) rfl (O_end [0, 7, 8, 26] (F' := [(0, _), (7, _), (8, _), (26, _)]) rfl ?_))))))))))))
  refine W_cond rfl (fun hT => ?_) (fun hF => ?_)
  · refine Sr (Oa rfl rfl (Oa rfl rfl (Oa rfl rfl (O_end [4, 5, 6] (F' := [(4, _), (5, _), (6, _)]) rfl (W_ret ?_)))))
    refine then_ret ?_
    refine ret3 rfl rfl rfl rfl ?_
    have hs : (spot ls key).2.2 = false := by simpa using hT
    have hg : getP ls key = none ∧ pTake ls key = ls := by
      unfold getP pTake
      unfold spot at hs
      cases hx : ls[cntN ls key - 1]? with
      | none => simp
      | some l => simp only [hx] at hs; simp [hs]
    rw [hg.1, hg.2]
    exact ⟨rfl, hp.chg0 c21, c21.any⟩
  refine W_skipE ?_
  have hs : (spot ls key).2.2 = true := by simpa using hF
  obtain ⟨l, hget⟩ : ∃ l, ls[cntN ls key - 1]? = some l := by
    unfold spot at hs
    cases hx : ls[cntN ls key - 1]? with
    | none => simp [hx] at hs
    | some l => exact ⟨l, rfl⟩
  have hspot : spot ls key = (cntN ls key - 1, lbN l key, hasK l key) := by unfold spot; rw [hget]
  have hh : hasK l key = true := by rw [hspot] at hs; exact hs
  obtain ⟨old, hold⟩ := hasK_at hh
  have hgp : getP ls key = some old := by unfold getP; rw [hget]; simp [hh, hold]
  have hpt : pTake ls key = settle ls (cntN ls key - 1) (takeL l key) := by unfold pTake; rw [hget]; simp [hh]
  have hat := (List.getElem?_eq_some_iff.1 hget).1
  have hmem := List.mem_of_getElem? hget
  have hl8 := hw.le _ hmem
  have hil := (List.getElem?_eq_some_iff.1 hold).1
  rw [hgp, hpt, hspot]
  dsimp only
  generalize ha : cntN ls key - 1 = a at *
  clear hspot hgp hpt hs hF
  obtain ⟨bb, off, cap, u, hv, hcell, hlu⟩ := (hpg.chg0 c21).at hget
  simp only [Value.slice.injEq] at hv
  obtain ⟨rfl, _, rfl⟩ := hv
  obtain ⟨bu, ou, cu, rfl, hcu⟩ := hlu.at' hold
  refine Sr (Om rfl rfl (Og (vl_nilCheck rfl) rfl (Og (vl_fieldAddr fo147_0 rfl) rfl ?_)))
  refine Og (vl_load ag145 rfl ((hb.chg0 c21).cell' rfl)) rfl ?_
  refine Om rfl rfl ?_
  refine Og (vl_indexAddr sl145 sz177 rfl rfl _ rfl hat) rfl ?_
  refine Og (vl_load ag177 rfl hcell) rfl ?_
  refine Om rfl rfl ?_
  refine Og (vl_indexAddr sl177 sz175 rfl rfl _ rfl hil) rfl ?_
  refine Og (vl_fieldAddr fo175_1 rfl) rfl ?_
  refine Og (vl_load ag9 rfl (hcu 1 _ rfl)) rfl ?_
  refine Oa rfl rfl (O_end [0, 7, 8, 10] (F' := [(0, _), (7, _), (8, _), (10, _)]) rfl (Sr (Om rfl rfl (Og (vl_nilCheck rfl) rfl (Og (vl_fieldAddr fo147_0 rfl) rfl ?_)))))
  refine Og (vl_load ag145 rfl ((hb.chg0 c21).cell' rfl)) rfl ?_
  refine Om rfl rfl ?_
  refine Og (vl_indexAddr sl145 sz177 rfl rfl _ rfl hat) rfl ?_
  refine Og (vl_load ag177 rfl hcell) rfl ?_
  refine O_go (gn rfl) (st_call bd130 rfl rfl rfl rfl (f25 _ _ _ _ hlu (by omega)) ?_)
  rintro v45 w45 ⟨i45, n45, c45⟩
  refine Om rfl rfl (Om rfl rfl ?_)
  refine Og (vl_add rfl rfl (by omega)) rfl ?_
  refine O_go (gn rfl) (st_call bd129 rfl rfl rfl rfl (f28 v45 (lbN l key) l.length (flat l) w45 i45 hil (by omega)) ?_)
  rintro v49 w49 ⟨i49, c49, o49⟩
  refine Oa rfl rfl (O_end [0, 7, 10, 11] (F' := [(0, _), (7, _), (10, _), (11, _)]) rfl ?_)
  have htl : (takeL l key).length = l.length - 1 := by unfold takeL; simp; omega
  have hlist : IsList w49 v49 (takeL l key) := by
    unfold IsList
    rw [htl, takeL, flat_append, flat_take, flat_drop]
    have e : (lbN l key + 1) * 2 = lbN l key * 2 + 2 := by omega
    rw [e]
    exact i49
  have hc49 : Chg [] w w49 := (c21.trans c45).own c49 (by intro x hx; have := n45 x hx; have := c21.size; omega)
  have hb49 := hb.chg0 hc49
  clear i49 c49 o49
  generalize takeL l key = l' at *
  obtain ⟨p49, q49, rfl, hq49⟩ := IsSl.val hlist
  refine W_seq_cut (fun F' w' => F' = [(10, .string old)] ∧ Pg w' p (settle ls a l') ∧ Chg [p] w w') ?_ ?_
  case refine_2 =>
    rintro F' w' ⟨rfl, hpp, hcc⟩
    refine Sr (Om rfl rfl (Oa rfl rfl (Oa rfl rfl (Oa rfl rfl (O_end [4, 5, 6] (F' := [(4, _), (5, _), (6, _)]) rfl (W_ret ?_))))))
    refine ret3 rfl rfl rfl rfl ?_
    exact ⟨rfl, hpp, hcc⟩
  refine W_block (W_seq ?_)
  by_cases h3 : 3 ≤ l'.length
  ·
    refine W_region (Om rfl rfl (Og (vl_len sl177 rfl) rfl ?_))
    refine Og (vl_is (b' := true) (vl_geq rfl rfl) (by simp; omega)) rfl ?_
    refine Om rfl rfl ?_
    iterate 7 refine O_guard_no rfl rfl rfl rfl rfl rfl ?_
    iterate 3 refine O_guard_un rfl rfl rfl rfl rfl ?_
    refine Oz rfl rfl rfl rfl (Ot rfl rfl rfl (Oa rfl rfl (O_end [0, 7, 10, 11, 84] (F' := [(0, _), (7, _), (10, _), (11, _), (84, _)]) rfl (W_cond_true rfl (W_region (Om rfl rfl (Om rfl rfl (Om rfl rfl ?_))))))))
    refine Og (vl_eq (v' := .int .i64 ((a + 1 : Nat) : Int)) (vl_add rfl rfl (by omega)) (by congr 1)) rfl ?_
    refine Om rfl rfl ?_
    refine O_go (gn rfl) (st_buildSlice ap144 rfl (vs := [_]) rfl (css := [_]) ⟨rfl, trivial⟩ rfl rfl (cs := [_]) rfl rfl ?_)
    intro b106 w106 e106 n106 c106 k106
    refine O_go (gn rfl) (st_call bd131 rfl rfl rfl rfl (f26 p ls [l'] _ a (a + 1) _ (hp.chg0 (hc49.trans c106)) (IsPages.one k106 (hlist.chg0 c106)) (by omega) hat (by omega) (by simp)) ?_)
    rintro v107 w107 ⟨rfl, p107, c107⟩
    refine O_endN [10] (F' := [(10, _)]) rfl ?_
    refine block_normal (then_normal ?_)
    refine ⟨rfl, ?_, ((hc49.trans c106).any (S := [p])).transS c107⟩
    rw [settle, if_pos (.inl h3)]
    exact p107
  by_cases h1 : ls.length = 1
  · by_cases h0 : 0 < l'.length
    ·
      refine W_region (Om rfl rfl (Og (vl_len sl177 rfl) rfl ?_))
      refine Og (vl_is (b' := false) (vl_geq rfl rfl) (by simp; omega)) rfl ?_
      refine Om rfl rfl ?_
      refine Oy rfl rfl (vl_move rfl) rfl ?_
      refine Oy rfl rfl (vl_nilCheck rfl) rfl ?_
      refine Oy rfl rfl (vl_fieldAddr fo147_0 rfl) rfl ?_
      refine Oy rfl rfl (vl_load ag145 rfl (hb49.cell' rfl)) rfl ?_
      refine Oy rfl rfl (vl_len sl145 rfl) rfl ?_
      refine Oy rfl rfl (vl_is (b' := true) (vl_ieq rfl rfl) (by simp; omega)) rfl ?_
      refine Oy rfl rfl (vl_move rfl) rfl ?_
      refine Oy rfl rfl (vl_move rfl) rfl ?_
      refine Oy rfl rfl (vl_len sl177 rfl) rfl ?_
      refine Oy rfl rfl (vl_is (b' := true) (vl_gtr rfl rfl) (by simp; omega)) rfl ?_
      refine Oy rfl rfl (vl_pick_t rfl rfl) rfl ?_
      refine Of rfl rfl rfl (Oa rfl rfl (O_end [0, 7, 10, 11, 84] (F' := [(0, _), (7, _), (10, _), (11, _), (84, _)]) rfl (W_cond_true rfl (W_region (Om rfl rfl (Om rfl rfl (Om rfl rfl ?_)))))))
      refine Og (vl_eq (v' := .int .i64 ((a + 1 : Nat) : Int)) (vl_add rfl rfl (by omega)) (by congr 1)) rfl ?_
      refine Om rfl rfl ?_
      refine O_go (gn rfl) (st_buildSlice ap144 rfl (vs := [_]) rfl (css := [_]) ⟨rfl, trivial⟩ rfl rfl (cs := [_]) rfl rfl ?_)
      intro b106 w106 e106 n106 c106 k106
      refine O_go (gn rfl) (st_call bd131 rfl rfl rfl rfl (f26 p ls [l'] _ a (a + 1) _ (hp.chg0 (hc49.trans c106)) (IsPages.one k106 (hlist.chg0 c106)) (by omega) hat (by omega) (by simp)) ?_)
      rintro v107 w107 ⟨rfl, p107, c107⟩
      refine O_endN [10] (F' := [(10, _)]) rfl ?_
      refine block_normal (then_normal ?_)
      refine ⟨rfl, ?_, ((hc49.trans c106).any (S := [p])).transS c107⟩
      rw [settle, if_pos (.inr ⟨h1, h0⟩)]
      exact p107
    ·
      refine W_region (Om rfl rfl (Og (vl_len sl177 rfl) rfl ?_))
      refine Og (vl_is (b' := false) (vl_geq rfl rfl) (by simp; omega)) rfl ?_
      refine Om rfl rfl ?_
      refine Oy rfl rfl (vl_move rfl) rfl ?_
      refine Oy rfl rfl (vl_nilCheck rfl) rfl ?_
      refine Oy rfl rfl (vl_fieldAddr fo147_0 rfl) rfl ?_
      refine Oy rfl rfl (vl_load ag145 rfl (hb49.cell' rfl)) rfl ?_
      refine Oy rfl rfl (vl_len sl145 rfl) rfl ?_
      refine Oy rfl rfl (vl_is (b' := true) (vl_ieq rfl rfl) (by simp; omega)) rfl ?_
      refine Oy rfl rfl (vl_move rfl) rfl ?_
      refine Oy rfl rfl (vl_move rfl) rfl ?_
      refine Oy rfl rfl (vl_len sl177 rfl) rfl ?_
      refine Oy rfl rfl (vl_is (b' := false) (vl_gtr rfl rfl) (decide_eq_false (by omega))) rfl ?_
      refine Oy rfl rfl (vl_pick_t rfl rfl) rfl ?_
      refine Of rfl rfl rfl (Oa rfl rfl (O_end [0, 7, 10, 11, 84] (F' := [(0, _), (7, _), (10, _), (11, _), (84, _)]) rfl (W_cond_false rfl (Sr (Om rfl rfl (Og (vl_nilCheck rfl) rfl (Og (vl_fieldAddr fo147_0 rfl) rfl ?_)))))))
      refine Og (vl_load ag145 rfl (hb49.cell' rfl)) rfl ?_
      refine Og (vl_len sl145 rfl) rfl ?_
      refine Og (vl_is (b' := true) (vl_ieq rfl rfl) (by simp; omega)) rfl ?_
      refine Oa rfl rfl (O_end [0, 7, 10, 11, 108] (F' := [(0, _), (7, _), (10, _), (11, _), (108, _)]) rfl (W_cond_true rfl (W_region (Om rfl rfl (Og (vl_nilCheck rfl) rfl (Og (vl_fieldAddr fo147_0 rfl) rfl ?_))))))
      refine O_go (gn rfl) (st_store sz145 rfl rfl rfl rfl hb49 (by simp) (by intro u hu; simp at hu; subst hu; rfl) ?_)
      intro wX nX cX kX
      refine O_endN [10] (F' := [(10, _)]) rfl ?_
      refine block_normal (then_normal ?_)
      refine ⟨rfl, ?_, (hc49.any (S := [p])).transS cX⟩
      rw [settle, if_neg (by omega), if_pos h1]
      exact ⟨_, kX, ⟨[], IsSl.nil _ _ _, trivial⟩⟩
  ·
    refine W_region (Om rfl rfl (Og (vl_len sl177 rfl) rfl ?_))
    refine Og (vl_is (b' := false) (vl_geq rfl rfl) (by simp; omega)) rfl ?_
    refine Om rfl rfl ?_
    refine Oy rfl rfl (vl_move rfl) rfl ?_
    refine Oy rfl rfl (vl_nilCheck rfl) rfl ?_
    refine Oy rfl rfl (vl_fieldAddr fo147_0 rfl) rfl ?_
    refine Oy rfl rfl (vl_load ag145 rfl (hb49.cell' rfl)) rfl ?_
    refine Oy rfl rfl (vl_len sl145 rfl) rfl ?_
    refine Oy rfl rfl (vl_is (b' := false) (vl_ieq rfl rfl) (by simp; omega)) rfl ?_
    refine Oy rfl rfl (vl_move rfl) rfl ?_
    iterate 3 refine O_guard_no rfl rfl rfl rfl rfl rfl ?_
    refine Oy rfl rfl (vl_pick_f rfl rfl) rfl ?_
    refine Of rfl rfl rfl (Oa rfl rfl (O_end [0, 7, 10, 11, 84] (F' := [(0, _), (7, _), (10, _), (11, _), (84, _)]) rfl (W_cond_false rfl (Sr (Om rfl rfl (Og (vl_nilCheck rfl) rfl (Og (vl_fieldAddr fo147_0 rfl) rfl ?_)))))))
    refine Og (vl_load ag145 rfl (hb49.cell' rfl)) rfl ?_
    refine Og (vl_len sl145 rfl) rfl ?_
    refine Og (vl_is (b' := false) (vl_ieq rfl rfl) (by simp; omega)) rfl ?_
    refine Oa rfl rfl (O_end [0, 7, 10, 11, 108] (F' := [(0, _), (7, _), (10, _), (11, _), (108, _)]) rfl (W_cond_false rfl ?_))
    by_cases hend : a + 1 = ls.length
    ·
      refine Sr (Om rfl rfl ?_)
      refine Og (vl_buildA ar214 sz177 zr214 rfl (vs := [_]) rfl (css := [_]) ⟨rfl, trivial⟩ rfl rfl (cs := [_, _]) rfl) rfl ?_
      refine O_go (gn rfl) (st_alloc zr214 rfl rfl ?_)
      intro b12 w12 e12 n12 c12 k12
      refine O_go (gn rfl) (st_store sz214 rfl rfl rfl rfl k12 (by simp) (by intro u hu; simp at hu; rcases hu with rfl | rfl <;> rfl) ?_)
      intro w50 n50 c50 k50
      refine O_end [0, 7, 10, 11, 12] (F' := [(0, _), (7, _), (10, _), (11, _), (12, _)]) rfl ?_
      have hc50 : Chg [] w49 w50 := c12.own c50 (by simp [← e12])
      have hcw : Chg [] w w50 := hc49.trans hc50
      have hb50 := hb49.chg0 hc50
      refine W_seq (Sr (Om rfl rfl (Om rfl rfl (Og (vl_nilCheck rfl) rfl (Og (vl_fieldAddr fo147_0 rfl) rfl ?_)))))
      refine Og (vl_load ag145 rfl (hb50.cell' rfl)) rfl ?_
      refine Og (vl_len sl145 rfl) rfl ?_
      refine Og (vl_sub rfl rfl (by omega)) rfl ?_
      refine Og (vl_is (b' := true) (vl_ieq rfl rfl) (by simp; omega)) rfl ?_
      refine O_end [0, 7, 10, 11, 12, 59] (F' := [(0, _), (7, _), (10, _), (11, _), (12, _), (59, _)]) rfl (W_cond_true rfl ?_)
      have hprev : ls[a - 1]? = some (nth ls (a - 1)) := by unfold nth; rw [List.getElem?_eq_getElem (by omega)]; rfl
      obtain ⟨b2, off2, cap2, u2, hv2, hcell2, hlu2⟩ := (hpg.chg0 hcw).at hprev
      simp only [Value.slice.injEq, Option.some.injEq, Addr.mk.injEq, and_true] at hv2
      obtain ⟨⟨rfl, rfl⟩, _⟩ := hv2
      obtain ⟨pu2, qu2, rfl, _⟩ := IsSl.val hlu2
      refine Sr (Om rfl rfl ?_)
      refine Og (vl_eq (v' := .int .i64 ((a - 1 : Nat) : Int)) (vl_sub rfl rfl (by omega)) (by congr 1; omega)) rfl ?_
      refine Oa rfl rfl (O_end [0, 7, 10, 11, 12] (F' := [(0, _), (7, _), (10, _), (11, _), (12, _)]) rfl (W_region (Om rfl rfl (Og (vl_nilCheck rfl) rfl (Og (vl_fieldAddr fo147_0 rfl) rfl ?_)))))
      refine Og (vl_load ag145 rfl (hb50.cell' rfl)) rfl ?_
      refine Om rfl rfl ?_
      refine Og (vl_indexAddr sl145 sz177 rfl rfl _ rfl (by omega)) rfl ?_
      refine Og (vl_load ag177 rfl hcell2) rfl ?_
      refine Om rfl rfl ?_
      refine Og (vl_buildA ar214 sz177 zr214 rfl (vs := [_, _]) rfl (css := [_, _]) ⟨rfl, rfl, trivial⟩ rfl rfl (cs := [_, _]) rfl) rfl ?_
      refine O_go (gn rfl) (st_store sz214 rfl rfl rfl rfl k50 (by simp [laid]) (by intro u hu; simp at hu; rcases hu with rfl | rfl <;> rfl) ?_)
      intro w70 n70 c70 k70
      refine O_end [0, 7, 10, 12] (F' := [(0, _), (7, _), (10, _), (12, _)]) rfl ?_
      have hc70 : Chg [] w49 w70 := c12.own (c50.transS c70) (by simp [← e12])
      refine W_region (Om rfl rfl (Om rfl rfl ?_))
      refine Og (vl_loadAgg ag214 sz214 rfl rfl (Cells.of_blk0 k70)) rfl ?_
      refine O_go (gn rfl) (st_call bd132 rfl rfl rfl rfl (f29 p ls _ _ (nth ls (a - 1)) l' (a - 1) _ (hp.chg0 (hc49.trans hc70)) ((hlu2.chg c70 (IsSl.apart hlu2 k50 rfl))) (hlist.chg0 hc70) (by omega) (by omega) (by have := hw.le _ (List.mem_of_getElem? hprev); omega) (by omega)) ?_)
      rintro v83 w83 ⟨rfl, p83, c83⟩
      refine O_endN [10] (F' := [(10, _)]) rfl ?_
      refine block_normal (then_normal ?_)
      refine ⟨rfl, ?_, ((hc49.trans hc70).any (S := [p])).transS c83⟩
      rw [settle, if_neg (by omega), if_neg h1, if_pos hend]
      rw [show a - 1 + 2 = a + 1 by omega] at p83
      exact p83
    ·
      refine Sr (Om rfl rfl ?_)
      refine Og (vl_buildA ar214 sz177 zr214 rfl (vs := [_]) rfl (css := [_]) ⟨rfl, trivial⟩ rfl rfl (cs := [_, _]) rfl) rfl ?_
      refine O_go (gn rfl) (st_alloc zr214 rfl rfl ?_)
      intro b12 w12 e12 n12 c12 k12
      refine O_go (gn rfl) (st_store sz214 rfl rfl rfl rfl k12 (by simp) (by intro u hu; simp at hu; rcases hu with rfl | rfl <;> rfl) ?_)
      intro w50 n50 c50 k50
      refine O_end [0, 7, 10, 11, 12] (F' := [(0, _), (7, _), (10, _), (11, _), (12, _)]) rfl ?_
      have hc50 : Chg [] w49 w50 := c12.own c50 (by simp [← e12])
      have hcw : Chg [] w w50 := hc49.trans hc50
      have hb50 := hb49.chg0 hc50
      refine W_seq (Sr (Om rfl rfl (Om rfl rfl (Og (vl_nilCheck rfl) rfl (Og (vl_fieldAddr fo147_0 rfl) rfl ?_)))))
      refine Og (vl_load ag145 rfl (hb50.cell' rfl)) rfl ?_
      refine Og (vl_len sl145 rfl) rfl ?_
      refine Og (vl_sub rfl rfl (by omega)) rfl ?_
      refine Og (vl_is (b' := false) (vl_ieq rfl rfl) (by simp; omega)) rfl ?_
      refine O_end [0, 7, 10, 11, 12, 59] (F' := [(0, _), (7, _), (10, _), (11, _), (12, _), (59, _)]) rfl (W_cond_false rfl ?_)
      have hnext : ls[a + 1]? = some (nth ls (a + 1)) := by unfold nth; rw [List.getElem?_eq_getElem (by omega)]; rfl
      obtain ⟨b2, off2, cap2, u2, hv2, hcell2, hlu2⟩ := (hpg.chg0 hcw).at hnext
      simp only [Value.slice.injEq, Option.some.injEq, Addr.mk.injEq, and_true] at hv2
      obtain ⟨⟨rfl, rfl⟩, _⟩ := hv2
      obtain ⟨pu2, qu2, rfl, _⟩ := IsSl.val hlu2
      refine W_region (Om rfl rfl (Og (vl_nilCheck rfl) rfl (Og (vl_fieldAddr fo147_0 rfl) rfl ?_)))
      refine Og (vl_load ag145 rfl (hb50.cell' rfl)) rfl ?_
      refine Om rfl rfl ?_
      refine Og (vl_eq (v' := .int .i64 ((a + 1 : Nat) : Int)) (vl_add rfl rfl (by omega)) (by congr 1)) rfl ?_
      refine Og (vl_indexAddr sl145 sz177 rfl rfl _ rfl (by omega)) rfl ?_
      refine Og (vl_load ag177 rfl hcell2) rfl ?_
      refine Og (vl_indexAddrA ar214 sz177 rfl rfl 1 rfl (by omega)) rfl ?_
      refine O_go (gn rfl) (st_store sz177 rfl rfl rfl rfl k50 (by simp [laid]) (by intro u hu; simp at hu; subst hu; rfl) ?_)
      intro w70 n70 c70 k70
      refine O_end [0, 7, 10, 12] (F' := [(0, _), (7, _), (10, _), (12, _)]) rfl ?_
      have hc70 : Chg [] w49 w70 := c12.own (c50.transS c70) (by simp [← e12])
      refine W_region (Om rfl rfl (Om rfl rfl ?_))
      refine Og (vl_loadAgg ag214 sz214 rfl rfl (Cells.of_blk0 k70)) rfl ?_
      refine O_go (gn rfl) (st_call bd132 rfl rfl rfl rfl (f29 p ls _ _ l' (nth ls (a + 1)) a _ (hp.chg0 (hc49.trans hc70)) (hlist.chg0 hc70) (hlu2.chg c70 (IsSl.apart hlu2 k50 rfl)) (by omega) (by omega) (by omega) (by have := hw.le _ (List.mem_of_getElem? hnext); omega)) ?_)
      rintro v83 w83 ⟨rfl, p83, c83⟩
      refine O_endN [10] (F' := [(10, _)]) rfl ?_
      refine block_normal (then_normal ?_)
      refine ⟨rfl, ?_, ((hc49.trans hc70).any (S := [p])).transS c83⟩
      rw [settle, if_neg (by omega), if_neg h1, if_neg hend]
      exact p83
end Go.Wk

namespace Go.Wk
open Go.Proofs
set_option maxRecDepth 10000

theorem f9 (w : World) : Ret Tryz.prog 44 #[] w fun r w' => ∃ p, r = .pointer (some ⟨p, 0, none⟩) ∧ w.heap.size ≤ p ∧ Pg w' p [] ∧ Chg [] w w' := by
  refine Ret.of_W (args := []) Tryz.func44 rfl rfl rfl rfl ?_

  refine Sr (Oa rfl rfl (O_end [] (F' := []) rfl (Sr ?_)))
  refine Og (vl_build pl147 zr147 rfl (vs := []) rfl (css := []) trivial rfl rfl (cs := [_]) rfl) rfl ?_
  refine O_go (gn rfl) (st_box rfl rfl rfl ?_)
  intro b2 w2 e2 n2 c2 k2
  refine Oa rfl rfl (O_end [0] (F' := [(0, _)]) rfl (W_ret ?_))
  refine ret1 rfl rfl ?_
  exact ⟨b2, rfl, by omega, ⟨_, k2, [], IsSl.nil _ _ _, trivial⟩, c2⟩

theorem flat_take1 {ls : List (List Ent)} {i : Nat} {x : List Ent} (h : ls[i]? = some x) : (ls.take (i + 1)).flatten = (ls.take i).flatten ++ x := by
  rw [List.take_add_one, h]
  simp
theorem flat_len_le {ls : List (List Ent)} (h : ∀ l ∈ ls, l.length ≤ 8) (i : Nat) : (ls.take i).flatten.length ≤ 8 * i := by
  induction i with
  | zero => simp
  | succ i ih =>
    cases hx : ls[i]? with
    | none =>
      rw [List.take_add_one, hx]
      simp at ih ⊢
      omega
    | some x =>
      rw [flat_take1 hx, List.length_append]
      have := h x (List.mem_of_getElem? hx)
      omega

theorem f30 (v : Value) (ls : List (List Ent)) (w : World) (hp : IsPages w v ls) (h8 : ∀ l ∈ ls, l.length ≤ 8) (hn : ls.length ≤ 65536) :
    Ret Tryz.prog 86 #[v] w fun r w' => r = .int .i64 (ls.flatten.length : Nat) ∧ w' = w := by
  obtain ⟨vs, hsl, hal⟩ := id hp
  obtain ⟨p, c, rfl, _⟩ := hsl.val
  refine Ret.of_W (args := [_]) Tryz.func86 rfl rfl rfl rfl ?_

  refine Sr (Oa rfl rfl (O_end [0, 2] (F' := [(0, _), (2, _)]) rfl (W_seq (Sr (Om rfl rfl (Og (vl_len sl145 rfl) rfl (Om rfl rfl (O_end [2, 5, 6, 7] (F' := [(2, _), (5, _), (6, _), (7, _)]) rfl (W_block ?_)))))))))
  refine W_loop [2, 5, 6, 7] (fun m F wx => wx = w ∧ ∃ j : Nat, m = ls.length - j ∧ j ≤ ls.length ∧ F = [(2, .int .i64 ((ls.take j).flatten.length : Nat)), (5, .slice p ls.length c), (6, .int .i64 ls.length), (7, .int .i64 j)]) (m := ls.length - 0) ⟨rfl, 0, rfl, Nat.zero_le _, rfl⟩ ?_
  rintro m F wx ⟨rfl, j, rfl, hj, rfl⟩
  have hb := flat_len_le h8 j
  refine Sr (Og (vl_lss rfl rfl) rfl (O_end [2, 5, 6, 7, 8] (F' := [(2, _), (5, _), (6, _), (7, _), (8, _)]) rfl (W_seq ?_)))
  refine W_cond rfl (fun hT => ?_) (fun hF => ?_)
  · refine W_skipE ?_
    have hlt : j < ls.length := by simpa using hT
    have hx : ls[j]? = some ls[j] := by simp [hlt]
    have hx8 := h8 _ (List.mem_of_getElem? hx)
    obtain ⟨b, off, cap, u, hv, hc, hl⟩ := hp.at hx
    cases hv
    obtain ⟨pu, cu, rfl, _⟩ := IsSl.val hl
    refine W_seq (W_block (Sr ?_))
    refine Og (vl_indexAddr sl145 sz177 rfl rfl _ rfl hlt) rfl ?_
    refine Og (vl_load ag177 rfl hc) rfl ?_
    refine Oa rfl rfl (O_end [2, 4, 5, 6, 7] (F' := [(2, _), (4, _), (5, _), (6, _), (7, _)]) rfl (W_region (Om rfl rfl (Om rfl rfl (Og (vl_len sl177 rfl) rfl ?_)))))
    refine Og (vl_add rfl rfl (by omega)) rfl ?_
    refine Oa rfl rfl ?_
    refine O_endN [2, 5, 6, 7] (F' := [(2, _), (5, _), (6, _), (7, _)]) rfl ?_
    refine block_normal (W_region ?_)
    refine Og (vl_add rfl rfl (by omega)) rfl ?_
    refine Om rfl rfl ?_
    refine O_endN [2, 5, 6, 7] (F' := [(2, _), (5, _), (6, _), (7, _)]) rfl ?_
    refine ⟨ls.length - (j + 1), by omega, rfl, j + 1, rfl, by omega, ?_⟩
    have e : (((ls.take (j + 1)).flatten.length : Nat) : Int) = ((ls.take j).flatten.length : Nat) + (ls[j].length : Nat) := by rw [flat_take1 hx, List.length_append]; omega
    rw [e]
    rfl
  · refine W_exit ?_
    repeat (first | refine then_exit ?_ | refine blockF_other rfl ?_)
    refine blockF_exit _ ?_
    have he : j = ls.length := by
      have : ¬ (j < ls.length) := by simpa using hF
      omega
    subst he
    refine Sr (Om rfl rfl (Oa rfl rfl (O_end [2] (F' := [(2, _)]) rfl (W_ret ?_))))
    refine ret1 rfl rfl ?_
    rw [List.take_length]
    exact ⟨rfl, rfl⟩

theorem f13_nil (w : World) : Ret Tryz.prog 53 #[.pointer none] w fun r w' => r = .int .i64 0 ∧ w' = w := by
  refine Ret.of_W (args := [_]) Tryz.func53 rfl rfl rfl rfl ?_

  refine Sr (Oa rfl rfl (O_end [0] (F' := [(0, _)]) rfl (W_seq (Sr (Om rfl rfl ?_)))))
  refine Og (vl_pnil pt94 rfl rfl) rfl ?_
  refine O_end [0, 4] (F' := [(0, _), (4, _)]) rfl (W_cond_true rfl (Sr (Oa rfl rfl (O_end [2] (F' := [(2, _)]) rfl (W_ret ?_)))))
  refine then_ret ?_
  refine ret1 rfl rfl ?_
  exact ⟨rfl, rfl⟩

theorem f13 (p : Nat) (ls : List (List Ent)) (w : World) (hp : Pg w p ls) (h8 : ∀ l ∈ ls, l.length ≤ 8) (hn : ls.length ≤ 65536) :
    Ret Tryz.prog 53 #[.pointer (some ⟨p, 0, none⟩)] w fun r w' => r = .int .i64 (ls.flatten.length : Nat) ∧ w' = w := by
  obtain ⟨v, hb, hpg⟩ := id hp
  refine Ret.of_W (args := [_]) Tryz.func53 rfl rfl rfl rfl ?_

  refine Sr (Oa rfl rfl (O_end [0] (F' := [(0, _)]) rfl (W_seq (Sr (Om rfl rfl ?_)))))
  refine Og (vl_pnil pt94 rfl rfl) rfl ?_
  refine O_end [0, 4] (F' := [(0, _), (4, _)]) rfl (W_cond_false rfl (W_skipE (Sr (Om rfl rfl (Og (vl_nilCheck rfl) rfl (Og (vl_fieldAddr fo147_0 rfl) rfl ?_))))))
  refine Og (vl_load ag145 rfl (hb.cell' rfl)) rfl ?_
  refine O_go (gn rfl) (st_call bd86 rfl rfl rfl rfl (f30 v ls w hpg h8 hn) ?_)
  rintro v9 w9 ⟨rfl, rfl⟩
  refine Oa rfl rfl (O_end [2] (F' := [(2, _)]) rfl (W_ret ?_))
  refine ret1 rfl rfl ?_
  exact ⟨rfl, rfl⟩

theorem f15_nil (key : ByteArray) (w : World) : Ret Tryz.prog 65 #[.pointer none, .string key] w fun r w' => r = .tuple #[.string ⟨#[]⟩, .bool false] ∧ w' = w := by
  refine Ret.of_W (args := [_, _]) Tryz.func65 rfl rfl rfl rfl ?_

  refine Sr (Oa rfl rfl (Oa rfl rfl (O_end [0, 1] (F' := [(0, _), (1, _)]) rfl (W_seq (Sr (Om rfl rfl ?_))))))
  refine Og (vl_pnil pt94 rfl rfl) rfl ?_
  refine O_end [0, 1, 10] (F' := [(0, _), (1, _), (10, _)]) rfl (W_cond_true rfl (Sr (Oa rfl rfl (Oa rfl rfl (O_end [4, 5] (F' := [(4, _), (5, _)]) rfl (W_ret ?_))))))
  refine then_ret ?_
  refine ret2 rfl rfl rfl ?_
  exact ⟨rfl, rfl⟩

theorem f15 (p : Nat) (ls : List (List Ent)) (key : ByteArray) (w : World) (hp : Pg w p ls) (hw : WfP ls) (hn : ls.length ≤ 65536) :
    Ret Tryz.prog 65 #[.pointer (some ⟨p, 0, none⟩), .string key] w fun r w' => r = .tuple #[.string ((getP ls key).getD ⟨#[]⟩), .bool (getP ls key).isSome] ∧ Chg [] w w' := by
  obtain ⟨v, hb, hpg⟩ := id hp
  obtain ⟨vs, hsl, hal⟩ := id hpg
  obtain ⟨pv, cv, rfl, hlc⟩ := hsl.val
  refine Ret.of_W (args := [_, _]) Tryz.func65 rfl rfl rfl rfl ?_

  refine Sr (Oa rfl rfl (Oa rfl rfl (O_end [0, 1] (F' := [(0, _), (1, _)]) rfl (W_seq (Sr (Om rfl rfl ?_))))))
  refine Og (vl_pnil pt94 rfl rfl) rfl ?_
  refine O_end [0, 1, 10] (F' := [(0, _), (1, _), (10, _)]) rfl (W_cond_false rfl (W_skipE (Sr (Om rfl rfl (Og (vl_nilCheck rfl) rfl (Og (vl_fieldAddr fo147_0 rfl) rfl ?_))))))
  refine Og (vl_load ag145 rfl (hb.cell' rfl)) rfl ?_
  refine Om rfl rfl ?_
  refine O_go (gn rfl) (st_call bd97 rfl rfl rfl rfl (f24 (.slice pv ls.length cv) ls key w hpg hw.ne (by omega) hw.firsts hw.each (fun l hl => by have := hw.le l hl; omega)) ?_)
  rintro v17 w17 ⟨rfl, c21⟩
  refine Om rfl rfl (Oe rfl rfl rfl (Oe rfl rfl rfl (Oe rfl rfl rfl (Oa rfl rfl (Oa rfl rfl (Oa rfl rfl (O_end [0, 6, 7, 8] (F' := [(0, _), (6, _), (7, _), (8, _)]) rfl (W_seq (Sr (Om rfl rfl (Og (vl_not rfl) rfl (O_end [0, 6, 7, 22] (F' := [(0, _), (6, _), (7, _), (22, _)]) rfl ?_))))))))))))
  refine W_cond rfl (fun hT => ?_) (fun hF => ?_)
  · refine Sr (Oa rfl rfl (Oa rfl rfl (O_end [4, 5] (F' := [(4, _), (5, _)]) rfl (W_ret ?_))))
    refine then_ret ?_
    refine ret2 rfl rfl rfl ?_
    have hs : (spot ls key).2.2 = false := by simpa using hT
    have hg : getP ls key = none := by
      unfold getP
      unfold spot at hs
      cases hx : ls[cntN ls key - 1]? with
      | none => simp
      | some l => simp only [hx] at hs; simp [hs]
    rw [hg]
    exact ⟨rfl, c21⟩
  refine W_skipE ?_
  have hs : (spot ls key).2.2 = true := by simpa using hF
  obtain ⟨l, hget⟩ : ∃ l, ls[cntN ls key - 1]? = some l := by
    unfold spot at hs
    cases hx : ls[cntN ls key - 1]? with
    | none => simp [hx] at hs
    | some l => exact ⟨l, rfl⟩
  have hspot : spot ls key = (cntN ls key - 1, lbN l key, hasK l key) := by unfold spot; rw [hget]
  have hh : hasK l key = true := by rw [hspot] at hs; exact hs
  obtain ⟨old, hold⟩ := hasK_at hh
  have hgp : getP ls key = some old := by unfold getP; rw [hget]; simp [hh, hold]
  have hat := (List.getElem?_eq_some_iff.1 hget).1
  have hil := (List.getElem?_eq_some_iff.1 hold).1
  rw [hgp, hspot]
  dsimp only
  obtain ⟨bb, off, cap, u, hv, hcell, hlu⟩ := (hpg.chg0 c21).at hget
  simp only [Value.slice.injEq] at hv
  obtain ⟨rfl, _, rfl⟩ := hv
  obtain ⟨bu, ou, cu, rfl, hcu⟩ := hlu.at' hold
  refine Sr (Om rfl rfl (Og (vl_nilCheck rfl) rfl (Og (vl_fieldAddr fo147_0 rfl) rfl ?_)))
  refine Og (vl_load ag145 rfl ((hb.chg0 c21).cell' rfl)) rfl ?_
  refine Om rfl rfl ?_
  refine Og (vl_indexAddr sl145 sz177 rfl rfl _ rfl hat) rfl ?_
  refine Og (vl_load ag177 rfl hcell) rfl ?_
  refine Om rfl rfl ?_
  refine Og (vl_indexAddr sl177 sz175 rfl rfl _ rfl hil) rfl ?_
  refine Og (vl_fieldAddr fo175_1 rfl) rfl ?_
  refine Og (vl_load ag9 rfl (hcu 1 _ rfl)) rfl ?_
  refine Oa rfl rfl (Oa rfl rfl (O_end [4, 5] (F' := [(4, _), (5, _)]) rfl (W_ret ?_)))
  refine ret2 rfl rfl rfl ?_
  exact ⟨rfl, c21⟩

theorem f19_nil (w : World) : Ret Tryz.prog 72 #[.pointer none] w fun r w' => r = .pointer none ∧ w' = w := by
  refine Ret.of_W (args := [_]) Tryz.func72 rfl rfl rfl rfl ?_

  refine Sr (Oa rfl rfl (O_end [0] (F' := [(0, _)]) rfl (W_seq (Sr (Om rfl rfl ?_)))))
  refine Og (vl_pnil pt94 rfl rfl) rfl ?_
  refine O_end [0, 4] (F' := [(0, _), (4, _)]) rfl (W_cond_true rfl (Sr (Oa rfl rfl (O_end [2] (F' := [(2, _)]) rfl (W_ret ?_)))))
  refine then_ret ?_
  refine ret1 rfl rfl ?_
  exact ⟨rfl, rfl⟩

theorem f19 (p : Nat) (ls : List (List Ent)) (w : World) (hp : Pg w p ls) (hn : ls.length ≤ 65536) :
    Ret Tryz.prog 72 #[.pointer (some ⟨p, 0, none⟩)] w fun r w' => ∃ q, r = .pointer (some ⟨q, 0, none⟩) ∧ w.heap.size ≤ q ∧ Pg w' q ls ∧ Chg [] w w' := by
  obtain ⟨v, hb, hpg⟩ := id hp
  obtain ⟨vs, hsl, hal⟩ := id hpg
  refine Ret.of_W (args := [_]) Tryz.func72 rfl rfl rfl rfl ?_

  refine Sr (Oa rfl rfl (O_end [0] (F' := [(0, _)]) rfl (W_seq (Sr (Om rfl rfl ?_)))))
  refine Og (vl_pnil pt94 rfl rfl) rfl ?_
  refine O_end [0, 4] (F' := [(0, _), (4, _)]) rfl (W_cond_false rfl (W_skipE (Sr (Om rfl rfl (Og (vl_nilCheck rfl) rfl (Og (vl_fieldAddr fo147_0 rfl) rfl ?_))))))
  refine Og (vl_load ag145 rfl (hb.cell' rfl)) rfl ?_
  refine O_go (gn rfl) (st_call bd99 rfl rfl rfl rfl (f31 v ls.length vs w hsl (by omega)) ?_)
  rintro v9 w9 ⟨i9, n9, c9⟩
  obtain ⟨p9, q9, rfl, _⟩ := i9.val
  refine Og (vl_build pl147 zr147 rfl (vs := [_]) rfl (css := [_]) ⟨rfl, trivial⟩ rfl rfl (cs := [_]) rfl) rfl ?_
  refine O_go (gn rfl) (st_box rfl rfl rfl ?_)
  intro b11 w11 e11 n11 c11 k11
  refine Oa rfl rfl (O_end [2] (F' := [(2, _)]) rfl (W_ret ?_))
  refine ret1 rfl rfl ?_
  have hs9 := c9.size
  exact ⟨b11, rfl, by omega, ⟨_, k11, vs, i9.chg0 c11, (hal.chg (c9.trans c11) (by simp))⟩, c9.trans c11⟩
end Go.Wk

namespace Go.Wk
open Go.Proofs
set_option maxRecDepth 10000

theorem takeWhile_iff {α : Type} (p : α → Bool) : ∀ (l : List α) (j : Nat) (x : α), l[j]? = some x → (j < (l.takeWhile p).length → p x = true) ∧ (j = (l.takeWhile p).length → p x = false)
  | [], j, x, h => by simp at h
  | a :: l, 0, x, h => by
    simp at h
    subst h
    cases hp : p a <;> simp [List.takeWhile, hp]
  | a :: l, j + 1, x, h => by
    have ih := takeWhile_iff p l j x (by simpa using h)
    cases hp : p a
    · simp [List.takeWhile, hp]
    · simpa [List.takeWhile, hp] using ih
theorem lbN_at {l : List Ent} {key : ByteArray} {x : Ent} (h : l[lbN l key]? = some x) : blt x.1 key = false := (takeWhile_iff _ l _ x h).2 rfl
theorem cntN_iff {ls : List (List Ent)} {key : ByteArray} (hs : SrtF ls) {j : Nat} {l : List Ent} (h : ls[j]? = some l) : (!blt key (firstK l)) = true ↔ j < cntN ls key := by
  constructor
  · intro h1
    rcases Nat.lt_or_ge j (cntN ls key) with h2 | h2
    · exact h2
    · exfalso
      have hjl := (List.getElem?_eq_some_iff.1 h).1
      have h3 : cntN ls key < ls.length := by omega
      have h0 : ls[cntN ls key]? = some ls[cntN ls key] := by simp [h3]
      have hf := (takeWhile_iff _ ls _ _ h0).2 rfl
      rcases Nat.lt_or_ge (cntN ls key) j with h4 | h4
      · have h5 := hs.at h4 h0 h
        have h6 : blt key (firstK ls[cntN ls key]) = true := by simpa using hf
        rw [blt_trans h6 h5] at h1
        simp at h1
      · have : j = cntN ls key := by omega
        have hf2 := (takeWhile_iff (fun l => !blt key (firstK l)) ls _ _ h).2 this
        rw [hf2] at h1
        cases h1
  · intro h1
    exact (takeWhile_iff _ ls j l h).1 h1
theorem firstK_le {l : List Ent} (hs : Srt l) {x : Ent} (h : x ∈ l) : blt x.1 (firstK l) = false := by
  cases l with
  | nil => cases h
  | cons y l =>
    obtain ⟨i, hi⟩ := List.mem_iff_getElem?.1 h
    cases i with
    | zero => simp at hi; subst hi; exact blt_irrefl _
    | succ i => exact blt_asymm (hs.at (show 0 < i + 1 by omega) rfl hi)
theorem nth_get {ls : List (List Ent)} {i : Nat} {l : List Ent} (h : ls[i]? = some l) : nth ls i = l := by unfold nth; rw [h]; rfl
theorem lbN_take (l : List Ent) (key : ByteArray) : ∀ x ∈ l.take (lbN l key), blt x.1 key = true := by
  intro x hx
  have : l.take (lbN l key) = l.takeWhile fun x => blt x.1 key := ((List.prefix_iff_eq_take.1 (List.takeWhile_prefix _)).symm)
  rw [this] at hx
  exact (List.all_takeWhile (l := l) (p := fun x => blt x.1 key) |> List.all_eq_true.1) x hx
theorem blt_of_le {a b c : ByteArray} (h : blt a b = true) (h2 : blt c b = false) : blt a c = true := by
  cases hx : blt a c with
  | true => rfl
  | false =>
    exfalso
    cases hy : blt c a with
    | true => rw [blt_trans hy h] at h2; cases h2
    | false =>
      have := blt_total hx hy
      subst this
      rw [h] at h2; cases h2
theorem blt_of_le' {a b c : ByteArray} (h : blt b a = false) (h2 : blt b c = true) : blt a c = true := by
  cases hx : blt a c with
  | true => rfl
  | false =>
    exfalso
    cases hy : blt c a with
    | true => rw [blt_trans h2 hy] at h; cases h
    | false =>
      have := blt_total hx hy
      subst this
      rw [h2] at h; cases h

theorem srt_ins {X Y : List Ent} {k v : ByteArray} (h : Srt (X ++ Y)) (hx : ∀ x ∈ X, blt x.1 k = true) (hy : ∀ y ∈ Y, blt k y.1 = true) : Srt (X ++ (k, v) :: Y) := by
  obtain ⟨h1, h2, h3⟩ := List.pairwise_append.1 h
  refine List.pairwise_append.2 ⟨h1, List.pairwise_cons.2 ⟨fun y m => hy y m, h2⟩, fun a ha b hb => ?_⟩
  rcases List.mem_cons.1 hb with rfl | hb
  · exact hx a ha
  · exact h3 a ha b hb

theorem split_at {α : Type} {l : List α} {i : Nat} {x : α} (h : l[i]? = some x) : l = l.take i ++ x :: l.drop (i + 1) := by
  have h1 : l.drop i = x :: l.drop (i + 1) := by
    obtain ⟨hl, rfl⟩ := List.getElem?_eq_some_iff.1 h
    exact List.drop_eq_getElem_cons hl
  rw [← h1]
  exact (List.take_append_drop i l).symm

/-- What stands behind the key's place in its page. -/
def behind (l : List Ent) (key : ByteArray) : List Ent := if hasK l key then l.drop (lbN l key + 1) else l.drop (lbN l key)
theorem putL_form {l : List Ent} (key val : ByteArray) : putL l key val = l.take (lbN l key) ++ (key, val) :: behind l key := by
  unfold putL behind
  by_cases hh : hasK l key = true
  · rw [if_pos hh, if_pos hh]
    obtain ⟨v, hv⟩ := hasK_at hh
    rw [List.set_eq_take_append_cons_drop, if_pos (List.getElem?_eq_some_iff.1 hv).1]
  · rw [if_neg hh, if_neg hh]
    simp
theorem behind_gt {l : List Ent} {key : ByteArray} (hs : Srt l) : ∀ y ∈ behind l key, blt key y.1 = true := by
  intro y hy
  unfold behind at hy
  by_cases hh : hasK l key = true
  · rw [if_pos hh] at hy
    obtain ⟨v, hv⟩ := hasK_at hh
    obtain ⟨j, hj⟩ := List.mem_iff_getElem?.1 hy
    rw [List.getElem?_drop] at hj
    exact hs.at (show lbN l key < lbN l key + 1 + j by omega) hv hj
  · rw [if_neg hh] at hy
    obtain ⟨j, hj⟩ := List.mem_iff_getElem?.1 hy
    rw [List.getElem?_drop] at hj
    have hlen := (List.getElem?_eq_some_iff.1 hj).1
    have h0 : l[lbN l key]? = some l[lbN l key] := by simp
    have h1 := lbN_at h0
    have h2 : (l[lbN l key]).1 ≠ key := by
      intro e
      apply hh
      unfold hasK hasAt
      rw [List.getElem?_map, h0]
      simp [e]
    have h3 : blt key (l[lbN l key]).1 = true := by
      cases hx : blt key (l[lbN l key]).1 with
      | true => rfl
      | false => exact absurd (blt_total h1 hx) h2
    cases j with
    | zero =>
      rw [Nat.add_zero, h0] at hj
      simp only [Option.some.injEq] at hj
      rw [← hj]; exact h3
    | succ j => exact blt_trans h3 (hs.at (show lbN l key < lbN l key + (j + 1) by omega) h0 hj)
theorem behind_sub (l : List Ent) (key : ByteArray) : (behind l key).Sublist (l.drop (lbN l key)) := by
  unfold behind
  split
  · rw [← List.drop_drop]; exact List.drop_sublist _ _
  · exact List.Sublist.refl _
theorem putL_len (l : List Ent) (key val : ByteArray) : (putL l key val).length ≤ l.length + 1 := by
  unfold putL
  split
  · rw [List.length_set]; omega
  · simp; omega
theorem putL_pos (l : List Ent) (key val : ByteArray) : 0 < (putL l key val).length := by
  rw [putL_form]; simp; omega
theorem splitL_flat (l : List Ent) : (splitL l).flatten = l := by
  unfold splitL
  split <;> simp
theorem splitL_ok {l : List Ent} (h0 : 0 < l.length) (h9 : l.length ≤ 9) : ∀ x ∈ splitL l, x ≠ [] ∧ x.length ≤ 8 := by
  intro x hx
  unfold splitL at hx
  split at hx
  · simp at hx
    rcases hx with rfl | rfl
    · refine ⟨fun e => ?_, by simp; omega⟩
      have := congrArg List.length e
      rw [List.length_take, List.length_nil] at this; omega
    · refine ⟨fun e => ?_, by simp; omega⟩
      have := congrArg List.length e
      rw [List.length_drop, List.length_nil] at this; omega
  · simp at hx
    subst hx
    exact ⟨fun e => by subst e; simp at h0, by omega⟩
theorem splitL_len (l : List Ent) : 1 ≤ (splitL l).length ∧ (splitL l).length ≤ 2 := by unfold splitL; split <;> simp

theorem low_page {ls : List (List Ent)} {key : ByteArray} {L : List Ent} (hw : WfP ls) (hL : ls[cntN ls key - 1]? = some L) : ∀ x ∈ (ls.take (cntN ls key - 1)).flatten, blt x.1 key = true := by
  intro x hx
  obtain ⟨l', hl', hx'⟩ := List.mem_flatten.1 hx
  obtain ⟨j, hj⟩ := List.mem_iff_getElem?.1 hl'
  have hjl := (List.getElem?_eq_some_iff.1 hj).1
  rw [List.length_take] at hjl
  rw [List.getElem?_take_of_lt (by omega)] at hj
  have h3 := (List.pairwise_flatten.1 hw.srt).2
  have hmem := List.mem_of_getElem? hL
  obtain ⟨y, hy, e⟩ := firstK_mem (hw.ne _ hmem)
  obtain ⟨hjl', ej⟩ := List.getElem?_eq_some_iff.1 hj
  obtain ⟨hil, ei⟩ := List.getElem?_eq_some_iff.1 hL
  have h4 := List.pairwise_iff_getElem.1 h3 j _ hjl' hil (by omega) x (by rw [ej]; exact hx') y (by rw [ei]; exact hy)
  have h5 := (cntN_iff (key := key) hw.firsts hL).2 (by omega)
  rw [e] at h5
  exact blt_of_le h4 (by simpa using h5)
theorem high_page {ls : List (List Ent)} {key : ByteArray} (hw : WfP ls) : ∀ x ∈ (ls.drop (cntN ls key - 1 + 1)).flatten, blt key x.1 = true := by
  intro x hx
  obtain ⟨l', hl', hx'⟩ := List.mem_flatten.1 hx
  obtain ⟨j, hj⟩ := List.mem_iff_getElem?.1 hl'
  rw [List.getElem?_drop] at hj
  have h1 := firstK_le (hw.each l' (List.mem_of_getElem? hj)) hx'
  have h2 : blt key (firstK l') = true := by
    cases h : blt key (firstK l') with
    | true => rfl
    | false =>
      have := (cntN_iff (key := key) hw.firsts hj).1 (by rw [h]; rfl)
      omega
  exact blt_of_le h2 h1

theorem WfP.put {ls : List (List Ent)} (hw : WfP ls) (key val : ByteArray) : WfP (pPut ls key val) := by
  unfold pPut
  cases hL : ls[cntN ls key - 1]? with
  | none => exact ⟨by simp, by simp, by simp [Srt]⟩
  | some L =>
    have hmem := List.mem_of_getElem? hL
    have hs := hw.each L hmem
    have h8 := hw.le L hmem
    have hlen := putL_len L key val
    have hok := splitL_ok (putL_pos L key val) (by omega)
    dsimp only
    refine ⟨fun l hl => ?_, fun l hl => ?_, ?_⟩
    · simp only [List.mem_append] at hl
      rcases hl with (hl | hl) | hl
      · exact hw.ne l (List.mem_of_mem_take hl)
      · exact (hok l hl).1
      · exact hw.ne l (List.mem_of_mem_drop hl)
    · simp only [List.mem_append] at hl
      rcases hl with (hl | hl) | hl
      · exact hw.le l (List.mem_of_mem_take hl)
      · exact (hok l hl).2
      · exact hw.le l (List.mem_of_mem_drop hl)
    · rw [List.flatten_append, List.flatten_append, splitL_flat, putL_form]
      have e : (ls.take (cntN ls key - 1)).flatten ++ (L.take (lbN L key) ++ (key, val) :: behind L key) ++ (ls.drop (cntN ls key - 1 + 1)).flatten = ((ls.take (cntN ls key - 1)).flatten ++ L.take (lbN L key)) ++ (key, val) :: (behind L key ++ (ls.drop (cntN ls key - 1 + 1)).flatten) := by simp
      rw [e]
      refine srt_ins ?_ ?_ ?_
      · refine List.Pairwise.sublist ?_ hw.srt
        have e2 : ls.flatten = ((ls.take (cntN ls key - 1)).flatten ++ L.take (lbN L key)) ++ (L.drop (lbN L key) ++ (ls.drop (cntN ls key - 1 + 1)).flatten) := by
          conv => lhs; rw [split_at hL]
          rw [List.flatten_append, List.flatten_cons]
          simp only [List.append_assoc]
          rw [← List.append_assoc (L.take (lbN L key)), List.take_append_drop]
        rw [e2]
        exact List.Sublist.append (List.Sublist.refl _) (List.Sublist.append (behind_sub _ _) (List.Sublist.refl _))
      · intro x hx
        rcases List.mem_append.1 hx with hx | hx
        · exact low_page hw hL x hx
        · exact lbN_take L key x hx
      · intro x hx
        rcases List.mem_append.1 hx with hx | hx
        · exact behind_gt hs x hx
        · exact high_page hw x hx
theorem pPut_len (ls : List (List Ent)) (key val : ByteArray) : (pPut ls key val).length ≤ ls.length + 1 := by
  unfold pPut
  cases hL : ls[cntN ls key - 1]? with
  | none => simp
  | some L =>
    have := (List.getElem?_eq_some_iff.1 hL).1
    have h2 := splitL_len (putL L key val)
    simp only [List.length_append, List.length_take, List.length_drop]
    omega

/-! ### taking -/
theorem joinL_flat (l : List Ent) : (joinL l).flatten = l := by unfold joinL; split <;> simp
theorem joinL_ok {l : List Ent} (h0 : 0 < l.length) (h16 : l.length ≤ 16) : ∀ x ∈ joinL l, x ≠ [] ∧ x.length ≤ 8 := by
  intro x hx
  unfold joinL at hx
  split at hx
  · simp at hx
    subst hx
    exact ⟨fun e => by subst e; simp at h0, by omega⟩
  · simp at hx
    rcases hx with rfl | rfl
    · refine ⟨fun e => ?_, by simp; omega⟩
      have := congrArg List.length e
      rw [List.length_take, List.length_nil] at this; omega
    · refine ⟨fun e => ?_, by simp; omega⟩
      have := congrArg List.length e
      rw [List.length_drop, List.length_nil] at this; omega
theorem joinL_len (l : List Ent) : 1 ≤ (joinL l).length ∧ (joinL l).length ≤ 2 := by unfold joinL; split <;> simp

theorem WfP.parts {A B M : List (List Ent)} {ls : List (List Ent)} (hw : WfP ls) (hA : ∀ l ∈ A, l ∈ ls) (hB : ∀ l ∈ B, l ∈ ls) (hM : ∀ l ∈ M, l ≠ [] ∧ l.length ≤ 8) (hs : Srt (A ++ M ++ B).flatten) : WfP (A ++ M ++ B) := by
  refine ⟨fun l hl => ?_, fun l hl => ?_, hs⟩
  · simp only [List.mem_append] at hl
    rcases hl with (hl | hl) | hl
    · exact hw.ne l (hA l hl)
    · exact (hM l hl).1
    · exact hw.ne l (hB l hl)
  · simp only [List.mem_append] at hl
    rcases hl with (hl | hl) | hl
    · exact hw.le l (hA l hl)
    · exact (hM l hl).2
    · exact hw.le l (hB l hl)

theorem settle_flat {ls : List (List Ent)} {a : Nat} {L l' : List Ent} (hL : ls[a]? = some L) (hne : ls.length = 1 → l'.length = 0 → True) :
    (settle ls a l').flatten = if ls.length = 1 ∧ l'.length = 0 then [] else (ls.take a).flatten ++ l' ++ (ls.drop (a + 1)).flatten := by
  have hat := (List.getElem?_eq_some_iff.1 hL).1
  unfold settle
  by_cases h1 : 3 ≤ l'.length ∨ ls.length = 1 ∧ 0 < l'.length
  · rw [if_pos h1, if_neg (show ¬ (ls.length = 1 ∧ l'.length = 0) by omega)]
    simp
  · rw [if_neg h1]
    by_cases h2 : ls.length = 1
    · rw [if_pos h2, if_pos (show ls.length = 1 ∧ l'.length = 0 by omega)]
      rfl
    · rw [if_neg h2, if_neg (show ¬ (ls.length = 1 ∧ l'.length = 0) by omega)]
      by_cases h3 : a + 1 = ls.length
      · rw [if_pos h3]
        have h4 : a - 1 < ls.length := by omega
        have hg : ls[a - 1]? = some ls[a - 1] := by simp [h4]
        rw [nth_get hg, List.flatten_append, List.flatten_append, joinL_flat]
        have h5 := flat_take1 hg
        rw [show a - 1 + 1 = a by omega] at h5
        rw [h5]
        simp
      · rw [if_neg h3]
        have h4 : a + 1 < ls.length := by omega
        have hg : ls[a + 1]? = some ls[a + 1] := by simp [h4]
        rw [nth_get hg, List.flatten_append, List.flatten_append, joinL_flat]
        have h5 : ls.drop (a + 1) = ls[a + 1] :: ls.drop (a + 2) := List.drop_eq_getElem_cons h4
        rw [h5, List.flatten_cons]
        simp only [List.append_assoc]

theorem WfP.settle {ls : List (List Ent)} (hw : WfP ls) {a : Nat} {L l' : List Ent} (hL : ls[a]? = some L) (hsub : l'.Sublist L) : WfP (settle ls a l') := by
  have hat := (List.getElem?_eq_some_iff.1 hL).1
  have hmem := List.mem_of_getElem? hL
  have hl8 : l'.length ≤ 8 := Nat.le_trans hsub.length_le (hw.le L hmem)
  have hsrt : Srt (Wk.settle ls a l').flatten := by
    rw [settle_flat hL (fun _ _ => trivial)]
    split
    · exact List.Pairwise.nil
    · refine List.Pairwise.sublist ?_ hw.srt
      conv => rhs; rw [split_at hL]
      rw [List.flatten_append, List.flatten_cons, List.append_assoc]
      exact List.Sublist.append (List.Sublist.refl _) (List.Sublist.append hsub (List.Sublist.refl _))
  revert hsrt
  unfold Wk.settle
  by_cases h1 : 3 ≤ l'.length ∨ ls.length = 1 ∧ 0 < l'.length
  · rw [if_pos h1]
    intro hsrt
    refine hw.parts (fun l hl => List.mem_of_mem_take hl) (fun l hl => List.mem_of_mem_drop hl) ?_ hsrt
    intro l hl
    simp at hl
    subst hl
    exact ⟨fun e => by subst e; simp at h1, hl8⟩
  · rw [if_neg h1]
    by_cases h2 : ls.length = 1
    · rw [if_pos h2]
      intro _
      exact ⟨by simp, by simp, List.Pairwise.nil⟩
    · rw [if_neg h2]
      by_cases h3 : a + 1 = ls.length
      · rw [if_pos h3]
        intro hsrt
        have h4 : a - 1 < ls.length := by omega
        have hg : ls[a - 1]? = some ls[a - 1] := by simp [h4]
        have hm := List.mem_of_getElem? hg
        have hp := List.length_pos_iff.2 (hw.ne _ hm)
        have h8 := hw.le _ hm
        refine hw.parts (fun l hl => List.mem_of_mem_take hl) (fun l hl => List.mem_of_mem_drop hl) ?_ hsrt
        rw [nth_get hg]
        exact joinL_ok (by rw [List.length_append]; omega) (by rw [List.length_append]; omega)
      · rw [if_neg h3]
        intro hsrt
        have h4 : a + 1 < ls.length := by omega
        have hg : ls[a + 1]? = some ls[a + 1] := by simp [h4]
        have hm := List.mem_of_getElem? hg
        have hp := List.length_pos_iff.2 (hw.ne _ hm)
        have h8 := hw.le _ hm
        refine hw.parts (fun l hl => List.mem_of_mem_take hl) (fun l hl => List.mem_of_mem_drop hl) ?_ hsrt
        rw [nth_get hg]
        exact joinL_ok (by rw [List.length_append]; omega) (by rw [List.length_append]; omega)
theorem settle_len {ls : List (List Ent)} {a : Nat} {l' : List Ent} (hat : a < ls.length) : (settle ls a l').length ≤ ls.length := by
  unfold settle
  split
  · simp; omega
  · split
    · simp
    · have h2 := joinL_len (nth ls (a - 1) ++ l')
      have h3 := joinL_len (l' ++ nth ls (a + 1))
      split
      · simp only [List.length_append, List.length_take, List.length_drop]; omega
      · simp only [List.length_append, List.length_take, List.length_drop]; omega
theorem takeL_sub (l : List Ent) (key : ByteArray) : (takeL l key).Sublist l := by
  unfold takeL
  conv => rhs; rw [← List.take_append_drop (lbN l key) l]
  refine List.Sublist.append (List.Sublist.refl _) ?_
  rw [← List.drop_drop]
  exact List.drop_sublist _ _
theorem WfP.take {ls : List (List Ent)} (hw : WfP ls) (key : ByteArray) : WfP (pTake ls key) := by
  unfold pTake
  cases hL : ls[cntN ls key - 1]? with
  | none => exact hw
  | some L =>
    dsimp only
    split
    · exact hw.settle hL (takeL_sub L key)
    · exact hw
theorem pTake_len (ls : List (List Ent)) (key : ByteArray) : (pTake ls key).length ≤ ls.length := by
  unfold pTake
  cases hL : ls[cntN ls key - 1]? with
  | none => exact Nat.le_refl _
  | some L =>
    dsimp only
    split
    · exact settle_len (List.getElem?_eq_some_iff.1 hL).1
    · exact Nat.le_refl _
theorem WfP.nil : WfP [] := ⟨by simp, by simp, List.Pairwise.nil⟩
end Go.Wk

namespace Go.Wk
open Go.Proofs
set_option maxRecDepth 10000

def fnOf (P : Program) (t : TypeId) : Bool := match P.underlying t with | some (.func ..) => true | _ => false
section
variable {P : Program} {n : Nat} {F : Fr} {w : World} {dst : Option Tmp} {ty : TypeId} {pos : String} {af : Array Edge} {gd : Option (Nat × Bool)}
theorem vl_fnil {x y : Operand} {t u : TypeId} {f : Fn} {a b : Array Value} (hb : fnOf P t = true) (hx : ev F x = some (.func f a b)) (hy : ev F y = some .nilFunc) : Vl P n F ⟨dst, .binOp .eql t x y u, ty, pos, af, gd⟩ w (.bool false) w := by
  intro ac ha
  unfold fnOf at hb
  split at hb
  · rename_i hu
    have h1 : (Op.equal t (.func f a b) .nilFunc).run P w = .ok false w := run_equal fun d => by simp [Op.equalIn, run_underlying hu]
    simp [execOp, ha.eval hx, ha.eval hy, eqGuard, binOp, h1]
  · cases hb
theorem vl_rem {x y : Operand} {t u : TypeId} {i j : Int} (hx : ev F x = some (.int .i64 i)) (hy : ev F y = some (.int .i64 j)) (hi : 0 ≤ i ∧ i ≤ 9223372036854775807) (hj : 1 ≤ j) : Vl P n F ⟨dst, .binOp .rem t x y u, ty, pos, af, gd⟩ w (.int .i64 (i % j)) w := by
  intro a ha
  have h0 : j ≠ 0 := by omega
  have h1 : i.tmod j = i % j := Int.tmod_eq_emod_of_nonneg hi.1
  simp [execOp, ha.eval hx, ha.eval hy, eqGuard, binOp, Op.intDiv, h0, h1]
end
theorem fn135 : fnOf Tryz.prog 135 = true := by kernel_rfl

theorem f32_nil (l b5 b3 : Nat) (w : World) (h5 : Blk w b5 145 [.slice none 0 0]) : Ret Tryz.prog 100 #[.func (.yield l) #[] #[], .pointer (some ⟨b5, 0, none⟩), .pointer (some ⟨b3, 0, none⟩)] w fun _ w' => Chg [] w w' := by
  refine Ret.of_W (args := [_, _, _]) Tryz.func100 rfl rfl rfl rfl ?_

  refine W_scope ?_
  refine W_seq ?_
  refine W_label ?_
  refine Sr ?_
  refine Og (vl_load ag145 rfl (h5.cell' rfl)) rfl ?_
  refine Og (vl_len sl145 rfl) rfl (Om rfl rfl (O_end [0, 2, 8, 9, 10] (F' := [(0, _), (2, _), (8, _), (9, _), (10, _)]) rfl (W_block ?_)))
  refine W_loop [0, 2, 8, 9, 10] (fun m F wx => wx = w ∧ F = [(0, .func (.yield l) #[] #[]), (2, .pointer (some ⟨b3, 0, none⟩)), (8, .slice none 0 0), (9, .int .i64 (0 : Nat)), (10, .int .i64 0)]) (m := 0) ⟨rfl, rfl⟩ ?_
  rintro m F wx ⟨rfl, rfl⟩
  refine Sr ?_
  refine Og (vl_is (b' := false) (vl_lss rfl rfl) (decide_eq_false (by omega))) rfl ?_
  refine O_end [0, 2, 8, 9, 10, 11] (F' := [(0, _), (2, _), (8, _), (9, _), (10, _), (11, _)]) rfl (W_seq (W_cond_false rfl ?_))
  refine W_exit ?_
  repeat (first | refine then_exit ?_ | refine blockF_other rfl ?_)
  refine blockF_exit _ ?_
  refine end0 rfl ?_
  exact Chg.refl _ _

theorem f14_nil (key : ByteArray) (w : World) : Ret Tryz.prog 68 #[.pointer none, .string key] w fun r w' => ∃ b5 b3, r = .func (.func 100) #[] #[.pointer (some ⟨b5, 0, none⟩), .pointer (some ⟨b3, 0, none⟩)] ∧ Blk w' b5 145 [.slice none 0 0] ∧ Chg [] w w' := by
  refine Ret.of_W (args := [_, _]) Tryz.func68 rfl rfl rfl rfl ?_

  refine Sr ?_
  refine O_go (gn rfl) (st_box rfl rfl rfl ?_)
  intro b3 w3 e3 n3 c3 k3
  refine Oa rfl rfl (O_end [0, 3] (F' := [(0, _), (3, _)]) rfl (Sr ?_))
  refine O_go (gn rfl) (st_alloc zr145 rfl rfl ?_)
  intro b5 w5 e5 n5 c5 k5
  refine O_end [0, 3, 5] (F' := [(0, _), (3, _), (5, _)]) rfl (W_seq (Sr (Om rfl rfl ?_)))
  refine Og (vl_pnnil pt94 rfl rfl) rfl ?_
  refine O_end [0, 3, 5, 7] (F' := [(0, _), (3, _), (5, _), (7, _)]) rfl (W_cond_false rfl ?_)
  refine W_prune [3, 5] rfl ?_
  refine W_skipE (Sr ?_)
  refine Og (vl_func rfl rfl) rfl ?_
  refine Oa rfl rfl (O_end [4] (F' := [(4, _)]) rfl (W_ret ?_))
  refine ret1 rfl rfl ?_
  exact ⟨b5, b3, rfl, k5, c3.trans c5⟩
end Go.Wk

namespace Go.Wk
open Go.Proofs
set_option maxRecDepth 10000

theorem f14 (p : Nat) (ls : List (List Ent)) (key : ByteArray) (w : World) (hp : Pg w p ls) (hn : ls.length ≤ 65536) :
    Ret Tryz.prog 68 #[.pointer (some ⟨p, 0, none⟩), .string key] w fun r w' => ∃ b5 b3 v, r = .func (.func 100) #[] #[.pointer (some ⟨b5, 0, none⟩), .pointer (some ⟨b3, 0, none⟩)] ∧ Blk w' b5 145 [v] ∧ IsPages w' v ls ∧ Blk w' b3 9 [.string key] ∧ w.heap.size ≤ b3 ∧ w.heap.size ≤ b5 ∧ Chg [] w w' := by
  obtain ⟨v, hb, hpg⟩ := id hp
  obtain ⟨vs, hsl, hal⟩ := id hpg
  refine Ret.of_W (args := [_, _]) Tryz.func68 rfl rfl rfl rfl ?_

  refine Sr ?_
  refine O_go (gn rfl) (st_box rfl rfl rfl ?_)
  intro b3 w3 e3 n3 c3 k3
  refine Oa rfl rfl (O_end [0, 3] (F' := [(0, _), (3, _)]) rfl (Sr ?_))
  refine O_go (gn rfl) (st_alloc zr145 rfl rfl ?_)
  intro b5 w5 e5 n5 c5 k5
  refine O_end [0, 3, 5] (F' := [(0, _), (3, _), (5, _)]) rfl ?_
  have hc5 := c3.trans c5
  have hs3 := c3.size
  refine W_seq (Sr (Om rfl rfl ?_))
  refine Og (vl_pnnil pt94 rfl rfl) rfl ?_
  refine O_end [0, 3, 5, 7] (F' := [(0, _), (3, _), (5, _), (7, _)]) rfl (W_cond_true rfl (W_region (Om rfl rfl (Og (vl_nilCheck rfl) rfl (Og (vl_fieldAddr fo147_0 rfl) rfl ?_)))))
  refine Og (vl_load ag145 rfl ((hb.chg0 hc5).cell' rfl)) rfl ?_
  refine O_go (gn rfl) (st_call bd99 rfl rfl rfl rfl (f31 v ls.length vs _ (hsl.chg0 hc5) (by omega)) ?_)
  rintro v12 w12 ⟨i12, n12, c12⟩
  obtain ⟨p12, q12, rfl, _⟩ := i12.val
  refine O_go (gn rfl) (st_store sz145 rfl rfl rfl rfl (k5.chg0 c12) (by simp) (by intro u hu; simp at hu; subst hu; rfl) ?_)
  intro wF nF cF kF
  refine O_end [3, 5] (F' := [(3, _), (5, _)]) rfl ?_
  have hb5 := k5.chg0 c12
  have hb3 := ((k3.chg0 c5).chg0 c12).chg cF (by simp; omega)
  refine Sr ?_
  refine Og (vl_func rfl rfl) rfl ?_
  refine Oa rfl rfl (O_end [4] (F' := [(4, _)]) rfl (W_ret ?_))
  refine ret1 rfl rfl ?_
  refine ⟨b5, b3, _, rfl, kF, ⟨vs, i12.chg cF (i12.apart hb5 rfl), ?_⟩, hb3, by omega, by omega, (hc5.trans c12).own cF (by intro x hx; simp at hx; omega)⟩
  have hal12 := hal.chg (hc5.trans c12) (by simp)
  exact hal12.chg cF (hal12.apart hb5 rfl)
end Go.Wk

namespace Go.Wk
open Go.Proofs
set_option maxRecDepth 10000

/-- The entries from a key on. -/
def fromP (l : List Ent) (key : ByteArray) : List Ent := l.filter fun x => !blt x.1 key
theorem fromP_append (a b : List Ent) (key : ByteArray) : fromP (a ++ b) key = fromP a key ++ fromP b key := by simp [fromP]

theorem IsSl.kp {w w' : World} {e k : Nat} {v : Value} {len : Nat} {xs : List Value} (h : IsSl w e k v len xs) (hk : ∀ b ∈ blkOf v, w'.heap[b]? = w.heap[b]?) : IsSl w' e k v len xs := by
  rcases h with h | ⟨b, off, cap, c, rfl, h⟩
  · exact .inl h
  · exact .inr ⟨b, off, cap, c, rfl, ⟨(hk b (by simp [blkOf])).trans h.blk, h.le, h.max, h.fit, h.xs, h.one⟩⟩
theorem Kp.sl {S : List Nat} {w w' : World} (hk : ∀ k, k < w.heap.size → k ∉ S → w'.heap[k]? = w.heap[k]?) {e k : Nat} {v : Value} {len : Nat} {xs : List Value} (h : IsSl w e k v len xs)
    (hS : ∀ b ∈ S, ∀ e' c, Blk w b e' c → Nat.beq e e' = false) : IsSl w' e k v len xs := by
  refine IsSl.kp h fun b hb => hk b (h.lt b hb) fun hm => ?_
  rcases h with ⟨rfl, _, _⟩ | ⟨b', off, cap, c, rfl, hs⟩
  · simp [blkOf] at hb
  · simp [blkOf] at hb
    subst hb
    have := hS b hm e c hs.blk
    simp at this

theorem fromP_take {ls : List (List Ent)} {j : Nat} {l : List Ent} (h : ls[j]? = some l) (key : ByteArray) : fromP (ls.take (j + 1)).flatten key = fromP (ls.take j).flatten key ++ fromP l key := by
  rw [flat_take1 h, fromP_append]
theorem fromP_take1 {l : List Ent} {i : Nat} {x : Ent} (h : l[i]? = some x) (key : ByteArray) : fromP (l.take (i + 1)) key = fromP (l.take i) key ++ (if blt x.1 key then [] else [x]) := by
  rw [List.take_add_one, h, fromP_append]
  congr 1
  cases hb : blt x.1 key <;> simp [fromP, hb]
theorem fromP_pre {ls : List (List Ent)} {j : Nat} {l : List Ent} (h : ls[j]? = some l) (key : ByteArray) (i : Nat) : fromP (ls.take j).flatten key ++ fromP (l.take i) key <+: fromP ls.flatten key := by
  rw [← fromP_append]
  refine List.IsPrefix.filter _ ?_
  conv => rhs; rw [split_at h]
  rw [List.flatten_append, List.flatten_cons]
  refine List.prefix_append_right_inj _ |>.2 ?_
  exact (List.take_prefix _ _).trans (List.prefix_append _ _)

theorem scopeN {Q : Exit → Fr → World → Prop} {F : Fr} {w : World} (h : Q .normal F w) : scopeF Q .normal F w := h
theorem yb {A B : Prop} {e : Ending} (h : (e = .returned (.bool true) ∧ A) ∨ (e = .returned (.bool false) ∧ B)) : ∃ b, e = .returned (.bool b) ∧ ((b = true ∧ A) ∨ (b = false ∧ B)) := by
  rcases h with ⟨rfl, h⟩ | ⟨rfl, h⟩
  · exact ⟨true, rfl, .inl ⟨rfl, h⟩⟩
  · exact ⟨false, rfl, .inr ⟨rfl, h⟩⟩

theorem f32_seqB {α : Type} (val : α → Ent) (al : List α) (w0 w : World) (h0w : Chg [] w0 w) (b5 b3 : Nat) (v : Value) (ls : List (List Ent)) (key : ByteArray) (S0 : List Nat) (h5 : Blk w b5 145 [v]) (hp : IsPages w0 v ls) (h3 : Blk w b3 9 [.string key])
    (hl : ls.length ≤ 65536) (h8 : ∀ l ∈ ls, l.length ≤ 8) (k3 : b3 ∉ S0) (hS : ∀ b ∈ S0, ∀ e c, Blk w0 b e c → Nat.beq 177 e = false ∧ Nat.beq 175 e = false) (ha : fromP ls.flatten key = al.map val) :
    SeqStopsK Fence.wide 2 Tryz.prog 100 #[.pointer (some ⟨b5, 0, none⟩), .pointer (some ⟨b3, 0, none⟩)] (fun x : α => #[.string (val x).1, .string (val x).2]) (Kp S0 w.heap.size)
      (fun xs => xs = al) (fun pre => pre ≠ [] ∧ pre <+: al) al.length w := by
  intro l J Jx W hW hJ hJx hY h0
  have hab : ∀ {pre : List α} {W1 W2 : World}, Chg [] W1 W2 → J pre W1 → J pre W2 := fun hc hj => hJ _ _ _ none hj hc.grown0 (fun _ e => by cases e)
  have hcw : Chg [] w W := ⟨hW.os, hW.tape, hW.output, hW.size, fun k hk _ => hW.block k hk⟩
  obtain ⟨vs, hsl, hal⟩ := id hp
  have f0 : ∀ {W1 : World}, Kp S0 w.heap.size w W1 → ∀ k, k < w0.heap.size → k ∉ S0 → W1.heap[k]? = w0.heap[k]? := fun hk k hlt hn => (hk.2 k (Nat.lt_of_lt_of_le hlt h0w.size) hn).trans (h0w.block k hlt (by simp))
  have fsl : ∀ {W1 : World}, Kp S0 w.heap.size w W1 → IsSl W1 177 1 v ls.length vs := fun hk => Kp.sl (f0 hk) hsl (fun b hb e c hc => (hS b hb e c hc).1)
  have fls : ∀ {W1 : World} {u : Value} {L : List Ent}, Kp S0 w.heap.size w W1 → IsList w0 u L → IsList W1 u L := fun hk hL => Kp.sl (f0 hk) hL (fun b hb e c hc => (hS b hb e c hc).2)
  have fb3 : ∀ {W1 : World}, Kp S0 w.heap.size w W1 → Blk W1 b3 9 [.string key] := fun hk => (hk.2 b3 h3.lt k3).trans h3
  have hkw : Kp S0 w.heap.size w W := ⟨hcw.size, fun k hk _ => hcw.block k hk (by simp)⟩
  have hmono : ∀ {W1 W2 : World}, Kp S0 w.heap.size w W1 → Chg [] W1 W2 → Kp S0 w.heap.size w W2 := fun hk hc => ⟨Nat.le_trans hk.1 hc.size, fun k hlt hn => (hc.block k (Nat.lt_of_lt_of_le hlt hk.1) (by simp)).trans (hk.2 k hlt hn)⟩
  refine CallsIn.mono (R := fun e W' => ∃ u, e = .returned u ∧ (fun (_ : Value) W' => (∃ xs, xs = al ∧ J xs W') ∨ (∃ pre, (pre ≠ [] ∧ pre <+: al) ∧ Jx pre W')) u W') ?_ (fun e W' ⟨u, he, h⟩ => ⟨⟨u, he⟩, h⟩)
  refine CallsIn.of_WX (args := [_, _, _]) Tryz.func100 rfl rfl rfl rfl (WX_of_W ?_)

  refine W_scope ?_
  refine W_seq ?_
  refine W_label ?_
  refine W_seq ?_
  obtain ⟨pv, cv, rfl, hcv⟩ := hsl.val
  refine W_region ?_
  refine Og (vl_load ag145 rfl ((h5.chg0 hcw).cell' rfl)) rfl ?_
  refine Og (vl_len sl145 rfl) rfl (Om rfl rfl (O_end [0, 2, 8, 9, 10] (F' := [(0, _), (2, _), (8, _), (9, _), (10, _)]) rfl (W_block ?_)))
  refine W_loop [0, 2, 8, 9, 10] (fun m F wx => ∃ j : Nat, m = ls.length - j ∧ j ≤ ls.length ∧ F = [(0, .func (.yield l) #[] #[]), (2, .pointer (some ⟨b3, 0, none⟩)), (8, .slice pv ls.length cv), (9, .int .i64 ls.length), (10, .int .i64 j)] ∧ Kp S0 w.heap.size w wx ∧ J (al.take (fromP (ls.take j).flatten key).length) wx) (m := ls.length - 0) ⟨0, rfl, Nat.zero_le _, rfl, hkw, h0⟩ ?_
  rintro m F wx ⟨j, rfl, hj, rfl, hkx, hJx0⟩
  refine Sr (Og (vl_lss rfl rfl) rfl (O_end [0, 2, 8, 9, 10, 11] (F' := [(0, _), (2, _), (8, _), (9, _), (10, _), (11, _)]) rfl (W_seq ?_)))
  refine W_cond rfl (fun hT => ?_) (fun hF => ?_)
  · refine W_skipE ?_
    have hlt : j < ls.length := by have := of_decide_eq_true hT; omega
    have hx : ls[j]? = some ls[j] := by simp [hlt]
    generalize ls[j] = L at hx
    have hL8 := h8 L (List.mem_of_getElem? hx)
    refine W_seq (W_block (W_seq ?_))
    obtain ⟨u, hus, hlw⟩ := hal.at hx
    obtain ⟨bb, off, cap, u', hv, hu', hcell⟩ := (fsl hkx).at1 hlt
    rw [hus] at hu'
    simp only [Option.some.injEq] at hu'
    subst hu'
    simp only [Value.slice.injEq] at hv
    obtain ⟨rfl, _, rfl⟩ := hv
    obtain ⟨pu, cu, rfl, _⟩ := IsSl.val hlw
    refine W_region ?_
    refine Og (vl_indexAddr sl145 sz177 rfl rfl _ rfl hlt) rfl ?_
    refine Og (vl_load ag177 rfl hcell) rfl ?_
    refine Oa rfl rfl (O_end [0, 2, 5, 8, 9, 10] (F' := [(0, _), (2, _), (5, _), (8, _), (9, _), (10, _)]) rfl (Sr (Om rfl rfl (Og (vl_len sl177 rfl) rfl (Om rfl rfl (O_end [0, 2, 8, 9, 10, 14, 15, 16] (F' := [(0, _), (2, _), (8, _), (9, _), (10, _), (14, _), (15, _), (16, _)]) rfl (W_block ?_)))))))
    refine W_loop [0, 2, 8, 9, 10, 14, 15, 16] (fun m F wy => ∃ i : Nat, m = L.length - i ∧ i ≤ L.length ∧ F = [(0, .func (.yield l) #[] #[]), (2, .pointer (some ⟨b3, 0, none⟩)), (8, .slice (some ⟨bb, off, none⟩) ls.length cv), (9, .int .i64 ls.length), (10, .int .i64 j), (14, .slice pu L.length cu), (15, .int .i64 L.length), (16, .int .i64 i)] ∧ Kp S0 w.heap.size w wy ∧ J (al.take (fromP (ls.take j).flatten key ++ fromP (L.take i) key).length) wy) (m := L.length - 0) ⟨0, rfl, Nat.zero_le _, rfl, hkx, by simpa [fromP] using hJx0⟩ ?_
    rintro m F wy ⟨i, rfl, hi, rfl, hky, hJy⟩
    refine Sr (Og (vl_lss rfl rfl) rfl (O_end [0, 2, 8, 9, 10, 14, 15, 16, 17] (F' := [(0, _), (2, _), (8, _), (9, _), (10, _), (14, _), (15, _), (16, _), (17, _)]) rfl (W_seq ?_)))
    refine W_cond rfl (fun hT => ?_) (fun hF => ?_)
    · refine W_skipE ?_
      have hli : i < L.length := by have := of_decide_eq_true hT; omega
      have hxi : L[i]? = some L[i] := by simp [hli]
      generalize L[i] = x at hxi
      obtain ⟨bu, ou, cu', hvu, hcu⟩ := (fls hky hlw).at' hxi
      simp only [Value.slice.injEq] at hvu
      obtain ⟨rfl, _, rfl⟩ := hvu
      have hb3 := fb3 hky
      refine W_seq (W_block (Sr ?_))
      refine Og (vl_indexAddr sl177 sz175 rfl rfl _ rfl hli) rfl ?_
      refine Og (vl_loadAgg ag175 sz175 rfl rfl hcu) rfl ?_
      refine O_go (gn rfl) (st_alloc zr175 rfl rfl ?_)
      intro b7 w7 e7 n7 c7 k7
      refine O_go (gn rfl) (st_store sz175 rfl rfl rfl rfl k7 (by simp) (by intro u hu; simp at hu; rcases hu with rfl | rfl <;> rfl) ?_)
      intro wA nA cA kA
      refine O_end [0, 2, 7, 8, 9, 10, 14, 15, 16] (F' := [(0, _), (2, _), (7, _), (8, _), (9, _), (10, _), (14, _), (15, _), (16, _)]) rfl ?_
      have hcA : Chg [] wy wA := c7.own cA (by intro y hy; simp at hy; omega)
      have hkA := hmono hky hcA
      have hJA := hab hcA hJy
      have hb3A := hb3.chg0 hcA
      have hkey := kA.cell' (i := 0) rfl
      have hval := kA.cell' (i := 1) rfl
      refine W_seq ?_
      cases hb : blt x.1 key with
      | true =>
        refine W_region (Og (vl_fieldAddr fo175_0 rfl) rfl ?_)
        refine Og (vl_load ag9 rfl hkey) rfl ?_
        refine Og (vl_load ag9 rfl (hb3A.cell' rfl)) rfl ?_
        refine Og (vl_is (b' := false) (vl_sge rfl rfl) (by rw [hb]; rfl)) rfl ?_
        refine Om rfl rfl (Oz rfl rfl rfl rfl (Oz rfl rfl rfl rfl (Oz rfl rfl rfl rfl (Oz rfl rfl rfl rfl (Oz rfl rfl rfl rfl (Oz rfl rfl rfl rfl (Oz rfl rfl rfl rfl (Of rfl rfl rfl (O_end [0, 2, 8, 9, 10, 14, 15, 16, 32] (F' := [(0, _), (2, _), (8, _), (9, _), (10, _), (14, _), (15, _), (16, _), (32, _)]) rfl (W_cond_false rfl (W_skip ?_)))))))))))
        refine block_normal (W_region ?_)
        refine Og (vl_add rfl rfl (by omega)) rfl ?_
        refine Om rfl rfl ?_
        refine O_endN [0, 2, 8, 9, 10, 14, 15, 16] (F' := [(0, _), (2, _), (8, _), (9, _), (10, _), (14, _), (15, _), (16, _)]) rfl ?_
        refine ⟨L.length - (i + 1), by omega, i + 1, rfl, by omega, rfl, hkA, ?_⟩
        rw [fromP_take1 hxi, hb, if_pos rfl, List.append_nil]
        exact hJA
      | false =>
        have hpre : fromP (ls.take j).flatten key ++ fromP (L.take (i + 1)) key <+: fromP ls.flatten key := fromP_pre hx key (i + 1)
        rw [fromP_take1 hxi, hb, if_neg (by simp), ← List.append_assoc] at hpre
        rw [ha] at hpre
        generalize hm : fromP (ls.take j).flatten key ++ fromP (L.take i) key = M at *
        have hlen : M.length < al.length := by
          have := hpre.length_le
          rw [List.length_append, List.length_map] at this
          simp only [List.length_cons, List.length_nil] at this
          omega
        have hat : al[M.length]? = some al[M.length] := by simp [hlen]
        generalize al[M.length] = a at hat
        have hval' : val a = x := by
          obtain ⟨r, hr⟩ := hpre
          have h1 : (al.map val)[M.length]? = some x := by rw [← hr]; simp
          rw [List.getElem?_map, hat] at h1
          simpa using h1
        subst hval'
        have htake : al.take (M.length + 1) = al.take M.length ++ [a] := by rw [List.take_add_one, hat]; rfl
        have hy := hY _ a wA hJA (by rw [List.length_take]; omega)
        refine W_regionX ?_
        refine X_go (gn rfl) rfl (St.vl (vl_fieldAddr fo175_0 rfl) rfl rfl ?_)
        refine X_go (gn rfl) rfl (St.vl (vl_load ag9 rfl hkey) rfl rfl ?_)
        refine X_go (gn rfl) rfl (St.vl (vl_load ag9 rfl (hb3A.cell' rfl)) rfl rfl ?_)
        refine X_go (gn rfl) rfl (St.vl (vl_is (b' := true) (vl_sge rfl rfl) (by rw [hb]; rfl)) rfl rfl ?_)
        refine Xm rfl rfl ?_
        refine X_go (gy rfl rfl rfl) rfl (St.vl (vl_move rfl) rfl rfl ?_)
        refine X_go (gy rfl rfl rfl) rfl (St.vl (vl_fieldAddr fo175_0 rfl) rfl rfl ?_)
        refine X_go (gy rfl rfl rfl) rfl (St.vl (vl_load ag9 rfl hkey) rfl rfl ?_)
        refine X_go (gy rfl rfl rfl) rfl (St.vl (vl_fieldAddr fo175_1 rfl) rfl rfl ?_)
        refine X_go (gy rfl rfl rfl) rfl (St.vl (vl_load ag9 rfl hval) rfl rfl ?_)
        refine X_yield (gy rfl rfl rfl) rfl rfl rfl hy ?_
        rintro v30 w30 hR30
        obtain ⟨b30, rfl, hb30⟩ := yb hR30
        refine ⟨_, rfl, ?_⟩
        refine X_go (gy rfl rfl rfl) rfl (St.vl (vl_not rfl) rfl rfl ?_)
        refine X_go (gn rfl) rfl (St.vl (vl_pick_t rfl rfl) rfl rfl ?_)
        refine X_end [0, 2, 8, 9, 10, 14, 15, 16, 32] (F' := [(0, _), (2, _), (8, _), (9, _), (10, _), (14, _), (15, _), (16, _), (32, _)]) rfl ?_
        rcases hb30 with ⟨rfl, hJ30, hk30⟩ | ⟨rfl, hJ30⟩
        · refine W_cond_false rfl (W_skip (block_normal (W_region ?_)))
          refine Og (vl_add rfl rfl (by omega)) rfl ?_
          refine Om rfl rfl ?_
          refine O_endN [0, 2, 8, 9, 10, 14, 15, 16] (F' := [(0, _), (2, _), (8, _), (9, _), (10, _), (14, _), (15, _), (16, _)]) rfl ?_
          refine ⟨L.length - (i + 1), by omega, i + 1, rfl, by omega, rfl, hkA.trans hk30, ?_⟩
          rw [fromP_take1 hxi, hb, if_neg (by simp), ← List.append_assoc, hm, List.length_append]
          show J (al.take (M.length + 1)) _
          rw [htake]
          exact hJ30
        · refine W_cond_true rfl ?_
          refine W_exit ?_
          repeat (first | refine then_exit ?_ | refine blockF_other rfl ?_)
          refine blockF_exit _ ?_
          refine scopeN ?_
          refine end0 rfl ?_
          exact .inr ⟨_, ⟨by simp, by rw [← htake]; exact List.take_prefix _ _⟩, hJ30⟩
    · refine W_exit ?_
      repeat (first | refine then_exit ?_ | refine blockF_other rfl ?_)
      refine blockF_exit _ ?_
      refine block_normal ?_
      have he : i = L.length := by have := of_decide_eq_false hF; omega
      subst he
      refine W_region ?_
      refine Og (vl_add rfl rfl (by omega)) rfl ?_
      refine Om rfl rfl ?_
      refine O_endN [0, 2, 8, 9, 10] (F' := [(0, _), (2, _), (8, _), (9, _), (10, _)]) rfl ?_
      refine ⟨ls.length - (j + 1), by omega, j + 1, rfl, by omega, rfl, hky, ?_⟩
      rw [fromP_take hx]
      rwa [List.take_length] at hJy
  · refine W_exit ?_
    repeat (first | refine then_exit ?_ | refine blockF_other rfl ?_)
    refine blockF_exit _ ?_
    refine scopeN ?_
    refine end0 rfl ?_
    have he : j = ls.length := by have := of_decide_eq_false hF; omega
    subst he
    rw [List.take_length, ha, List.length_map, List.take_length] at hJx0
    exact .inl ⟨_, rfl, hJx0⟩

theorem f32_seqA {α : Type} (val : α → Ent) (al : List α) (w : World) (b5 b3 : Nat) (v : Value) (ls : List (List Ent)) (key : ByteArray) (S0 : List Nat) (h5 : Blk w b5 145 [v]) (hp : IsPages w v ls) (h3 : Blk w b3 9 [.string key])
    (hl : ls.length ≤ 65536) (h8 : ∀ l ∈ ls, l.length ≤ 8) (k3 : b3 ∉ S0) (hS : ∀ b ∈ S0, ∃ e c, Blk w b e c ∧ Nat.beq 177 e = false ∧ Nat.beq 175 e = false) (ha : fromP ls.flatten key = al.map val) :
    SeqStopsK Fence.wide 2 Tryz.prog 100 #[.pointer (some ⟨b5, 0, none⟩), .pointer (some ⟨b3, 0, none⟩)] (fun x : α => #[.string (val x).1, .string (val x).2]) (Kp S0 w.heap.size)
      (fun xs => xs = al) (fun pre => pre ≠ [] ∧ pre <+: al) al.length w :=
  f32_seqB val al w w (Chg.refl _ _) b5 b3 v ls key S0 h5 hp h3 hl h8 k3 (fun b hb e c hc => by
    obtain ⟨e', c', hc', h1, h2⟩ := hS b hb
    have := Option.some.inj ((show w.heap[b]? = _ from hc).symm.trans hc')
    cases this
    exact ⟨h1, h2⟩) ha

theorem f32_seq (w : World) (b5 b3 : Nat) (v : Value) (ls : List (List Ent)) (key : ByteArray) (S0 : List Nat) (h5 : Blk w b5 145 [v]) (hp : IsPages w v ls) (h3 : Blk w b3 9 [.string key])
    (hl : ls.length ≤ 65536) (h8 : ∀ l ∈ ls, l.length ≤ 8) (k3 : b3 ∉ S0) (hS : ∀ b ∈ S0, ∃ e c, Blk w b e c ∧ Nat.beq 177 e = false ∧ Nat.beq 175 e = false) {all : List Ent} (ha : fromP ls.flatten key = all) :
    SeqStopsK Fence.wide 2 Tryz.prog 100 #[.pointer (some ⟨b5, 0, none⟩), .pointer (some ⟨b3, 0, none⟩)] (fun x : Ent => #[.string x.1, .string x.2]) (Kp S0 w.heap.size)
      (fun xs => xs = all) (fun pre => pre ≠ [] ∧ pre <+: all) all.length w :=
  f32_seqA id all w b5 b3 v ls key S0 h5 hp h3 hl h8 k3 hS (by rw [List.map_id]; exact ha)
end Go.Wk

namespace Go.Wk
open Go.Proofs
set_option maxRecDepth 10000

theorem none_nil {ls : List (List Ent)} {key : ByteArray} (h : ls[cntN ls key - 1]? = none) : ls = [] := by
  by_cases hl : ls = []
  · exact hl
  · have h1 := cntN_lt (key := key) hl
    have h2 : ls.length ≤ cntN ls key - 1 := List.getElem?_eq_none_iff.1 h
    omega

/-- A page's place in the whole row. -/
structure Cutp (ls : List (List Ent)) (key : ByteArray) (L A B S : List Ent) : Prop where
  all : ls.flatten = A ++ (L.drop (lbN L key) ++ S)
  low : ∀ y ∈ A, blt y.1 key = true
  high : ∀ y ∈ B ++ S, blt key y.1 = true
  mid : ∀ y, y.1 ≠ key → (y ∈ L.drop (lbN L key) ↔ y ∈ B)

theorem cutp {ls : List (List Ent)} {key : ByteArray} {L : List Ent} (hw : WfP ls) (hL : ls[cntN ls key - 1]? = some L) :
    Cutp ls key L ((ls.take (cntN ls key - 1)).flatten ++ L.take (lbN L key)) (behind L key) ((ls.drop (cntN ls key - 1 + 1)).flatten) := by
  have hmem := List.mem_of_getElem? hL
  have hs := hw.each L hmem
  refine ⟨?_, fun y hy => ?_, fun y hy => ?_, fun y hy => ?_⟩
  · conv => lhs; rw [split_at hL]
    rw [List.flatten_append, List.flatten_cons]
    simp only [List.append_assoc]
    rw [← List.append_assoc (L.take (lbN L key)), List.take_append_drop]
  · rcases List.mem_append.1 hy with hy | hy
    · exact low_page hw hL y hy
    · exact lbN_take L key y hy
  · rcases List.mem_append.1 hy with hy | hy
    · exact behind_gt hs y hy
    · exact high_page hw y hy
  · unfold behind
    split
    · rename_i hh
      obtain ⟨v, hv⟩ := hasK_at hh
      have h1 : L.drop (lbN L key) = (key, v) :: L.drop (lbN L key + 1) := by
        obtain ⟨hl, e⟩ := List.getElem?_eq_some_iff.1 hv
        rw [← e]
        exact List.drop_eq_getElem_cons hl
      rw [h1, List.mem_cons]
      exact ⟨fun h => h.elim (fun e => absurd (by rw [e]) hy) id, .inr⟩
    · exact Iff.rfl
theorem Cutp.ne {ls : List (List Ent)} {key : ByteArray} {L A B S : List Ent} (h : Cutp ls key L A B S) {x : Ent} (hx : x ∈ A ∨ x ∈ B ∨ x ∈ S) : x.1 ≠ key := by
  rcases hx with hx | hx
  · exact blt_ne (h.low x hx)
  · exact fun e => blt_ne (h.high x (by simpa using hx)) e.symm
theorem Cutp.iff {ls : List (List Ent)} {key : ByteArray} {L A B S : List Ent} (h : Cutp ls key L A B S) (x : Ent) : (x ∈ A ∨ x ∈ B ∨ x ∈ S) ↔ (x.1 ≠ key ∧ x ∈ ls.flatten) := by
  constructor
  · intro hx
    have hne := h.ne hx
    refine ⟨hne, ?_⟩
    rw [h.all, List.mem_append, List.mem_append, h.mid x hne]
    exact hx
  · rintro ⟨hne, hx⟩
    rw [h.all, List.mem_append, List.mem_append, h.mid x hne] at hx
    exact hx

theorem mem_put {ls : List (List Ent)} (hw : WfP ls) (key val : ByteArray) (x : Ent) : x ∈ (pPut ls key val).flatten ↔ x = (key, val) ∨ (x.1 ≠ key ∧ x ∈ ls.flatten) := by
  unfold pPut
  cases hL : ls[cntN ls key - 1]? with
  | none =>
    have := none_nil hL
    subst this
    simp
  | some L =>
    have hc := cutp hw hL
    dsimp only
    rw [List.flatten_append, List.flatten_append, splitL_flat, putL_form, ← hc.iff x]
    simp only [List.mem_append, List.mem_cons]
    constructor
    · rintro ((h | h | h | h) | h)
      · exact .inr (.inl (.inl h))
      · exact .inr (.inl (.inr h))
      · exact .inl h
      · exact .inr (.inr (.inl h))
      · exact .inr (.inr (.inr h))
    · rintro (h | (h | h) | h | h)
      · exact .inl (.inr (.inr (.inl h)))
      · exact .inl (.inl h)
      · exact .inl (.inr (.inl h))
      · exact .inl (.inr (.inr (.inr h)))
      · exact .inr h
theorem settle_flat' {ls : List (List Ent)} {a : Nat} {L l' : List Ent} (hL : ls[a]? = some L) : (settle ls a l').flatten = (ls.take a).flatten ++ l' ++ (ls.drop (a + 1)).flatten := by
  rw [settle_flat hL (fun _ _ => trivial)]
  split
  · rename_i h
    have hat := (List.getElem?_eq_some_iff.1 hL).1
    have ha : a = 0 := by omega
    subst ha
    have hl : l' = [] := List.eq_nil_of_length_eq_zero h.2
    subst hl
    rw [List.drop_eq_nil_of_le (by omega)]
    simp
  · rfl
theorem mem_take {ls : List (List Ent)} (hw : WfP ls) (key : ByteArray) (x : Ent) : x ∈ (pTake ls key).flatten ↔ x.1 ≠ key ∧ x ∈ ls.flatten := by
  unfold pTake
  cases hL : ls[cntN ls key - 1]? with
  | none =>
    have := none_nil hL
    subst this
    simp
  | some L =>
    have hc := cutp hw hL
    dsimp only
    split
    · rename_i hh
      have hb : behind L key = L.drop (lbN L key + 1) := by unfold behind; rw [if_pos hh]
      rw [settle_flat' hL, ← hc.iff x, hb]
      unfold takeL
      simp only [List.mem_append]
      constructor
      · rintro ((h | h | h) | h)
        · exact .inl (.inl h)
        · exact .inl (.inr h)
        · exact .inr (.inl h)
        · exact .inr (.inr h)
      · rintro ((h | h) | h | h)
        · exact .inl (.inl h)
        · exact .inl (.inr (.inl h))
        · exact .inl (.inr (.inr h))
        · exact .inr h
    · rename_i hh
      have hb : behind L key = L.drop (lbN L key) := by unfold behind; rw [if_neg hh]
      have hall := hc.all
      rw [← hb] at hall
      constructor
      · intro hx
        refine ⟨hc.ne ?_, hx⟩
        rw [hall] at hx
        rcases List.mem_append.1 hx with h | h
        · exact .inl h
        · exact .inr (List.mem_append.1 h)
      · exact fun h => h.2

/-! ### how many entries a page has -/
def Wide (ls : List (List Ent)) : Prop := 1 < ls.length → ∀ l ∈ ls, 3 ≤ l.length
theorem Wide.nil : Wide [] := fun h => by simp at h
theorem putL_ge (l : List Ent) (key val : ByteArray) : l.length ≤ (putL l key val).length := by
  unfold putL
  split
  · rw [List.length_set]; omega
  · simp; omega
theorem splitL_ge {l : List Ent} (h : 8 < l.length) : ∀ x ∈ splitL l, 3 ≤ x.length := by
  intro x hx
  unfold splitL at hx
  rw [if_pos h] at hx
  simp at hx
  rcases hx with rfl | rfl
  · rw [List.length_take]; omega
  · rw [List.length_drop]; omega
theorem Wide.put {ls : List (List Ent)} (h3 : Wide ls) (key val : ByteArray) : Wide (pPut ls key val) := by
  unfold pPut
  cases hL : ls[cntN ls key - 1]? with
  | none => intro h; simp at h
  | some L =>
    have hat := (List.getElem?_eq_some_iff.1 hL).1
    have hmem := List.mem_of_getElem? hL
    have hge := putL_ge L key val
    dsimp only
    by_cases h8 : 8 < (putL L key val).length
    · intro _ l hl
      have old : ∀ l ∈ ls, 1 < ls.length → 3 ≤ l.length := fun l hl h => h3 h l hl
      simp only [List.mem_append] at hl
      rcases hl with (hl | hl) | hl
      · refine old l (List.mem_of_mem_take hl) ?_
        have := List.length_pos_of_mem hl
        rw [List.length_take] at this
        omega
      · exact splitL_ge h8 l hl
      · refine old l (List.mem_of_mem_drop hl) ?_
        have := List.length_pos_of_mem hl
        rw [List.length_drop] at this
        omega
    · have e : splitL (putL L key val) = [putL L key val] := by unfold splitL; rw [if_neg h8]
      rw [e]
      intro hlen l hl
      have hls : 1 < ls.length := by
        simp only [List.length_append, List.length_take, List.length_drop, List.length_cons, List.length_nil] at hlen
        omega
      simp only [List.mem_append, List.mem_singleton] at hl
      rcases hl with (hl | rfl) | hl
      · exact h3 hls l (List.mem_of_mem_take hl)
      · have := h3 hls L hmem; omega
      · exact h3 hls l (List.mem_of_mem_drop hl)
theorem joinL_ge {l : List Ent} (h : 3 ≤ l.length) : ∀ x ∈ joinL l, 3 ≤ x.length := by
  intro x hx
  unfold joinL at hx
  split at hx
  · simp at hx; subst hx; exact h
  · simp at hx
    rcases hx with rfl | rfl
    · rw [List.length_take]; omega
    · rw [List.length_drop]; omega
theorem Wide.settle {ls : List (List Ent)} (h3 : Wide ls) {a : Nat} {L l' : List Ent} (hL : ls[a]? = some L) : Wide (settle ls a l') := by
  have hat := (List.getElem?_eq_some_iff.1 hL).1
  unfold Wk.settle
  by_cases h1 : 3 ≤ l'.length ∨ ls.length = 1 ∧ 0 < l'.length
  · rw [if_pos h1]
    intro hlen l hl
    have hls : 1 < ls.length := by
      simp only [List.length_append, List.length_take, List.length_drop, List.length_cons, List.length_nil] at hlen
      omega
    simp only [List.mem_append, List.mem_singleton] at hl
    rcases hl with (hl | rfl) | hl
    · exact h3 hls l (List.mem_of_mem_take hl)
    · omega
    · exact h3 hls l (List.mem_of_mem_drop hl)
  · rw [if_neg h1]
    by_cases h2 : ls.length = 1
    · rw [if_pos h2]; exact Wide.nil
    · rw [if_neg h2]
      have hls : 1 < ls.length := by omega
      by_cases h4 : a + 1 = ls.length
      · rw [if_pos h4]
        have h5 : a - 1 < ls.length := by omega
        have hg : ls[a - 1]? = some ls[a - 1] := by simp [h5]
        have h6 := h3 hls _ (List.mem_of_getElem? hg)
        rw [nth_get hg]
        intro _ l hl
        simp only [List.mem_append] at hl
        rcases hl with (hl | hl) | hl
        · exact h3 hls l (List.mem_of_mem_take hl)
        · exact joinL_ge (by rw [List.length_append]; omega) l hl
        · exact h3 hls l (List.mem_of_mem_drop hl)
      · rw [if_neg h4]
        have h5 : a + 1 < ls.length := by omega
        have hg : ls[a + 1]? = some ls[a + 1] := by simp [h5]
        have h6 := h3 hls _ (List.mem_of_getElem? hg)
        rw [nth_get hg]
        intro _ l hl
        simp only [List.mem_append] at hl
        rcases hl with (hl | hl) | hl
        · exact h3 hls l (List.mem_of_mem_take hl)
        · exact joinL_ge (by rw [List.length_append]; omega) l hl
        · exact h3 hls l (List.mem_of_mem_drop hl)
theorem Wide.take {ls : List (List Ent)} (h3 : Wide ls) (key : ByteArray) : Wide (pTake ls key) := by
  unfold pTake
  cases hL : ls[cntN ls key - 1]? with
  | none => exact h3
  | some L =>
    dsimp only
    split
    · exact h3.settle hL
    · exact h3
theorem Wide.len {ls : List (List Ent)} (h3 : Wide ls) (h : 1 < ls.length) : 3 * ls.length ≤ ls.flatten.length := by
  have : ∀ ms : List (List Ent), (∀ l ∈ ms, 3 ≤ l.length) → 3 * ms.length ≤ ms.flatten.length := by
    intro ms
    induction ms with
    | nil => intro _; simp
    | cons m ms ih =>
      intro h
      have h1 := h m (by simp)
      have h2 := ih (fun l hl => h l (by simp [hl]))
      rw [List.flatten_cons, List.length_append, List.length_cons]
      omega
  exact this ls (h3 h)

end Go.Wk

namespace Go.Wk
open Go.Proofs
set_option maxRecDepth 10000

def findE (es : List Ent) (key : ByteArray) : Option ByteArray := (es.find? fun x => decide (x.1 = key)).map (·.2)
theorem findE_hit {es : List Ent} {key : ByteArray} {i : Nat} {x : Ent} (h : findE (es.take i) key = none) (hx : es[i]? = some x) (he : x.1 = key) : findE es key = some x.2 := by
  have h1 : es.drop i = x :: es.drop (i + 1) := by
    obtain ⟨hl, rfl⟩ := List.getElem?_eq_some_iff.1 hx
    exact List.drop_eq_getElem_cons hl
  have h2 : es = es.take i ++ (x :: es.drop (i + 1)) := by rw [← h1]; exact (List.take_append_drop i es).symm
  unfold findE at h ⊢
  rw [h2, List.find?_append]
  simp only [Option.map_eq_none_iff] at h
  rw [h]
  simp [he]
theorem findE_miss {es : List Ent} {key : ByteArray} {i : Nat} {x : Ent} (h : findE (es.take i) key = none) (hx : es[i]? = some x) (he : x.1 ≠ key) : findE (es.take (i + 1)) key = none := by
  unfold findE at h ⊢
  simp only [Option.map_eq_none_iff] at h ⊢
  rw [List.take_add_one, hx, List.find?_append, h]
  simp [he]

theorem findE_of_mem {es : List Ent} (hs : Srt es) {k v : ByteArray} (h : (k, v) ∈ es) : findE es k = some v := by
  obtain ⟨i, hi⟩ := List.mem_iff_getElem?.1 h
  refine findE_hit (i := i) (x := (k, v)) ?_ hi rfl
  unfold findE
  rw [Option.map_eq_none_iff, List.find?_eq_none]
  intro x hx
  obtain ⟨j, hj⟩ := List.mem_iff_getElem?.1 hx
  have hjl := (List.getElem?_eq_some_iff.1 hj).1
  rw [List.length_take] at hjl
  rw [List.getElem?_take_of_lt (by omega)] at hj
  have := hs.at (show j < i by omega) hj hi
  simpa using blt_ne this
theorem findE_none {es : List Ent} {k : ByteArray} (h : ∀ x ∈ es, x.1 ≠ k) : findE es k = none := by
  unfold findE
  rw [Option.map_eq_none_iff, List.find?_eq_none]
  intro x hx
  simpa using h x hx

theorem lbN_of {l : List Ent} (hs : Srt l) {i : Nat} {x : Ent} (h : l[i]? = some x) : lbN l x.1 = i := by
  refine takeWhile_len _ l i (Nat.le_of_lt (List.getElem?_eq_some_iff.1 h).1) (fun j k hk => ?_)
  constructor
  · intro h1
    rcases Nat.lt_or_ge j i with h2 | h2
    · exact h2
    · exfalso
      rcases Nat.lt_or_ge i j with h3 | h3
      · have := hs.at h3 h hk
        rw [blt_asymm this] at h1; cases h1
      · have : j = i := by omega
        subst this
        rw [h] at hk
        simp only [Option.some.injEq] at hk
        subst hk
        rw [blt_irrefl] at h1; cases h1
  · intro h1
    exact hs.at h1 hk h
theorem hasK_of_mem {l : List Ent} (hs : Srt l) {k v : ByteArray} (h : (k, v) ∈ l) : hasK l k = true := by
  obtain ⟨i, hi⟩ := List.mem_iff_getElem?.1 h
  have := lbN_of hs hi
  dsimp only at this
  unfold hasK hasAt
  rw [this, List.getElem?_map, hi]
  simp

theorem findE_getP {ls : List (List Ent)} (hw : WfP ls) (key : ByteArray) : findE ls.flatten key = getP ls key := by
  cases hL : ls[cntN ls key - 1]? with
  | none =>
    have : ls = [] := by
      have h1 : ls.length ≤ cntN ls key - 1 := List.getElem?_eq_none_iff.1 hL
      by_cases h : ls = []
      · exact h
      · have := cntN_lt (key := key) h; omega
    subst this
    rfl
  | some l =>
    have hmem := List.mem_of_getElem? hL
    have hs := hw.each l hmem
    unfold getP
    rw [hL]
    dsimp only
    by_cases hh : hasK l key = true
    · rw [if_pos hh]
      obtain ⟨v, hv⟩ := hasK_at hh
      rw [hv]
      exact findE_of_mem hw.srt (List.mem_flatten.2 ⟨l, hmem, List.mem_of_getElem? hv⟩)
    · rw [if_neg hh]
      refine findE_none ?_
      rintro ⟨k, v⟩ hx he
      dsimp only at he
      subst he
      obtain ⟨l', hl', hx'⟩ := List.mem_flatten.1 hx
      obtain ⟨j, hj⟩ := List.mem_iff_getElem?.1 hl'
      have h1 : j < cntN ls k := by
        refine (cntN_iff hw.firsts hj).1 ?_
        rw [firstK_le (hw.each l' hl') hx']; rfl
      rcases Nat.lt_or_ge j (cntN ls k - 1) with h2 | h2
      · have h3 := (List.pairwise_flatten.1 hw.srt).2
        obtain ⟨hjl, rfl⟩ := List.getElem?_eq_some_iff.1 hj
        obtain ⟨hil, rfl⟩ := List.getElem?_eq_some_iff.1 hL
        obtain ⟨y, hy, e⟩ := firstK_mem (hw.ne _ hmem)
        have h4 := List.pairwise_iff_getElem.1 h3 j _ hjl hil h2 (k, v) hx' y hy
        have h5 := (cntN_iff (key := k) hw.firsts hL).2 (by omega)
        rw [e] at h5
        dsimp only at h4
        rw [h4] at h5
        cases h5
      · have : j = cntN ls k - 1 := by omega
        subst this
        rw [hL] at hj
        simp only [Option.some.injEq] at hj
        subst hj
        exact hh (hasK_of_mem hs hx')

/-- What is left of pages when a key is not there. -/
theorem pTake_none {ls : List (List Ent)} {key : ByteArray} (h : getP ls key = none) : pTake ls key = ls := by
  unfold getP at h
  unfold pTake
  cases hx : ls[cntN ls key - 1]? with
  | none => rfl
  | some l =>
    rw [hx] at h
    dsimp only at h ⊢
    by_cases hh : hasK l key = true
    · obtain ⟨v, hv⟩ := hasK_at hh
      rw [if_pos hh, hv] at h
      cases h
    · rw [if_neg hh]
theorem getP_some {ls : List (List Ent)} {key : ByteArray} (h : (getP ls key).isSome = true) : ∃ l, ls[cntN ls key - 1]? = some l ∧ hasK l key = true := by
  unfold getP at h
  cases hx : ls[cntN ls key - 1]? with
  | none => rw [hx] at h; cases h
  | some l =>
    rw [hx] at h
    dsimp only at h
    by_cases hh : hasK l key = true
    · exact ⟨l, rfl, hh⟩
    · rw [if_neg hh] at h; cases h


theorem mem_findE {es : List Ent} {k v : ByteArray} (h : findE es k = some v) : (k, v) ∈ es := by
  unfold findE at h
  rw [Option.map_eq_some_iff] at h
  obtain ⟨x, hx, rfl⟩ := h
  have h1 := List.mem_of_find?_eq_some hx
  have h2 := List.find?_some hx
  simp at h2
  subst h2
  exact h1
theorem getP_iff {ls : List (List Ent)} (hw : WfP ls) {k v : ByteArray} : getP ls k = some v ↔ (k, v) ∈ ls.flatten := by
  rw [← findE_getP hw]
  exact ⟨mem_findE, findE_of_mem hw.srt⟩
theorem getP_no {ls : List (List Ent)} (hw : WfP ls) {k : ByteArray} (h : ∀ v, (k, v) ∉ ls.flatten) : getP ls k = none := by
  cases hg : getP ls k with
  | none => rfl
  | some v => exact absurd ((getP_iff hw).1 hg) (h v)
/-- Two sorted rows with the same entries are the same. -/
theorem srt_ext : ∀ {l m : List Ent}, Srt l → Srt m → (∀ x, x ∈ l ↔ x ∈ m) → l = m
  | [], [], _, _, _ => rfl
  | [], y :: m, _, _, h => by have := (h y).2 (by simp); cases this
  | x :: l, [], _, _, h => by have := (h x).1 (by simp); cases this
  | x :: l, y :: m, hl, hm, h => by
    have hl' := List.pairwise_cons.1 hl
    have hm' := List.pairwise_cons.1 hm
    have hxy : x = y := by
      rcases List.mem_cons.1 ((h x).1 (by simp)) with e | e
      · exact e
      rcases List.mem_cons.1 ((h y).2 (by simp)) with e2 | e2
      · exact e2.symm
      have h1 := hm'.1 x e
      rw [blt_asymm (hl'.1 y e2)] at h1
      cases h1
    subst hxy
    rw [srt_ext hl'.2 hm'.2 fun z => ?_]
    constructor
    · intro hz
      rcases List.mem_cons.1 ((h z).1 (by simp [hz])) with e | e
      · subst e
        have := hl'.1 z hz
        rw [blt_irrefl] at this; cases this
      · exact e
    · intro hz
      rcases List.mem_cons.1 ((h z).2 (by simp [hz])) with e | e
      · subst e
        have := hm'.1 z hz
        rw [blt_irrefl] at this; cases this
      · exact e
end Go.Wk
