/-
  Take.
-/
import Derived.Test.YthbahcjkncfpdaaP7
namespace Go.Wk
open Go.Proofs
set_option maxRecDepth 10000

def takeL (l : List Ent) (key : ByteArray) : List Ent := l.take (lbN l key) ++ l.drop (lbN l key + 1)
def nth (ls : List (List Ent)) (i : Nat) : List Ent := ls[i]?.getD []
/-- What becomes of pages whose page a is l' now. -/
def settle (ls : List (List Ent)) (a : Nat) (l' : List Ent) : List (List Ent) :=
  if 3 ≤ l'.length ∨ (ls.length = 1 ∧ 0 < l'.length) then ls.take a ++ [l'] ++ ls.drop (a + 1)
  else if ls.length = 1 then []
  else if a + 1 = ls.length then ls.take (a - 1) ++ joinL (nth ls (a - 1) ++ l') ++ ls.drop (a + 1)
  else ls.take a ++ joinL (l' ++ nth ls (a + 1)) ++ ls.drop (a + 2)
def pTake (ls : List (List Ent)) (key : ByteArray) : List (List Ent) :=
  match ls[cntN ls key - 1]? with
  | some l => if hasK l key then settle ls (cntN ls key - 1) (takeL l key) else ls
  | none => ls

theorem f11_nil (key : ByteArray) (w : World) : Ret Try.prog 11 #[.pointer none, .string key] w fun r w' => r = .tuple #[.string ⟨#[]⟩, .bool false, .int .i64 1] ∧ w' = w := by
  refine Ret.of_W (args := [_, _]) Try.func11 rfl rfl rfl rfl ?_

  refine W_seq ?_
  refine W_region ?_
  refine O_go (gn rfl) (St.vl (vl_assign rfl) rfl rfl ?_)
  refine O_go (gn rfl) (St.vl (vl_assign rfl) rfl rfl ?_)
  refine O_go (gn rfl) (St.vl (vl_assign rfl) rfl rfl ?_)
  refine O_end [0, 1] (F' := [(0, _), (1, _)]) rfl ?_
  refine W_seq ?_
  refine W_seq ?_
  refine W_region ?_
  refine O_go (gn rfl) (St.vl (vl_move rfl) rfl rfl ?_)
  refine O_go (gn rfl) (St.vl (vl_pnil pt25 rfl rfl) rfl rfl ?_)
  refine O_end [0, 1, 14] (F' := [(0, _), (1, _), (14, _)]) rfl ?_
  refine W_cond_true rfl ?_
  refine W_seq ?_
  refine W_region ?_
  refine O_go (gn rfl) (St.vl (vl_assign rfl) rfl rfl ?_)
  refine O_go (gn rfl) (St.vl (vl_assign rfl) rfl rfl ?_)
  refine O_go (gn rfl) (St.vl (vl_assign rfl) rfl rfl ?_)
  refine O_end [4, 5, 6] (F' := [(4, _), (5, _), (6, _)]) rfl ?_
  refine W_ret ?_
  refine then_ret ?_
  refine ret3 rfl rfl rfl rfl ?_
  exact ⟨rfl, rfl⟩

theorem f11 (p : Nat) (ls : List (List Ent)) (key : ByteArray) (w : World) (hp : Pg w p ls) (hw : WfP ls) (hn : ls.length ≤ 65536) :
    Ret Try.prog 11 #[.pointer (some ⟨p, 0, none⟩), .string key] w fun r w' => r = .tuple #[.string ((getP ls key).getD ⟨#[]⟩), .bool (getP ls key).isSome, .int .i64 0] ∧ Pg w' p (pTake ls key) ∧ Chg [p] w w' := by
  obtain ⟨v, hb, hpg⟩ := id hp
  obtain ⟨vs, hsl, hal⟩ := id hpg
  obtain ⟨pv, cv, rfl, hlc⟩ := hsl.val
  refine Ret.of_W (args := [_, _]) Try.func11 rfl rfl rfl rfl ?_

  refine W_seq ?_
  refine W_region ?_
  refine O_go (gn rfl) (St.vl (vl_assign rfl) rfl rfl ?_)
  refine O_go (gn rfl) (St.vl (vl_assign rfl) rfl rfl ?_)
  refine O_go (gn rfl) (St.vl (vl_assign rfl) rfl rfl ?_)
  refine O_end [0, 1] (F' := [(0, _), (1, _)]) rfl ?_
  refine W_seq ?_
  refine W_seq ?_
  refine W_region ?_
  refine O_go (gn rfl) (St.vl (vl_move rfl) rfl rfl ?_)
  refine O_go (gn rfl) (St.vl (vl_pnil pt25 rfl rfl) rfl rfl ?_)
  refine O_end [0, 1, 14] (F' := [(0, _), (1, _), (14, _)]) rfl ?_
  refine W_cond_false rfl ?_
  refine W_skipE ?_
  refine W_seq ?_
  refine W_region ?_
  refine O_go (gn rfl) (St.vl (vl_move rfl) rfl rfl ?_)
  refine O_go (gn rfl) (St.vl (vl_nilCheck rfl) rfl rfl ?_)
  refine O_go (gn rfl) (St.vl (vl_fieldAddr fo67_0 rfl) rfl rfl ?_)
  refine O_go (gn rfl) (St.vl (vl_load ag65 rfl (hb.cell' rfl)) rfl rfl ?_)
  refine O_go (gn rfl) (St.vl (vl_move rfl) rfl rfl ?_)
  refine O_go (gn rfl) (st_call bd24 rfl rfl rfl rfl (f24 (.slice pv ls.length cv) ls key w hpg hw.ne (by omega) hw.firsts hw.each (fun l hl => by have := hw.le l hl; omega)) ?_)
  rintro v21 w21 ⟨rfl, c21⟩
  refine O_go (gn rfl) (St.vl (vl_move rfl) rfl rfl ?_)
  refine O_go (gn rfl) (St.vl (vl_extract rfl rfl) rfl rfl ?_)
  refine O_go (gn rfl) (St.vl (vl_extract rfl rfl) rfl rfl ?_)
  refine O_go (gn rfl) (St.vl (vl_extract rfl rfl) rfl rfl ?_)
  refine O_go (gn rfl) (St.vl (vl_assign rfl) rfl rfl ?_)
  refine O_go (gn rfl) (St.vl (vl_assign rfl) rfl rfl ?_)
  refine O_go (gn rfl) (St.vl (vl_assign rfl) rfl rfl ?_)
  refine O_end [0, 7, 8, 9] (F' := [(0, _), (7, _), (8, _), (9, _)]) rfl ?_
  refine W_seq ?_
  refine W_seq ?_
  refine W_region ?_
  refine O_go (gn rfl) (St.vl (vl_move rfl) rfl rfl ?_)
  refine O_go (gn rfl) (St.vl (vl_not rfl) rfl rfl ?_)
  refine O_end [0, 7, 8, 26] (F' := [(0, _), (7, _), (8, _), (26, _)]) rfl ?_
  refine W_cond rfl (fun hT => ?_) (fun hF => ?_)
  · refine W_seq ?_
    refine W_region ?_
    refine O_go (gn rfl) (St.vl (vl_assign rfl) rfl rfl ?_)
    refine O_go (gn rfl) (St.vl (vl_assign rfl) rfl rfl ?_)
    refine O_go (gn rfl) (St.vl (vl_assign rfl) rfl rfl ?_)
    refine O_end [4, 5, 6] (F' := [(4, _), (5, _), (6, _)]) rfl ?_
    refine W_ret ?_
    refine then_ret ?_
    refine ret3 rfl rfl rfl rfl ?_
    have hs : (spot ls key).2.2 = false := by simpa using hT
    have hg : getP ls key = none ∧ pTake ls key = ls := by
      unfold getP pTake
      unfold spot at hs
      cases hx : ls[cntN ls key - 1]? with
      | none => simp
      | some l => simp only [hx] at hs; simp [hs]
    rw [hg.1, hg.2]
    exact ⟨rfl, hp.chg0 c21, c21.any⟩
  refine W_skipE ?_
  have hs : (spot ls key).2.2 = true := by simpa using hF
  obtain ⟨l, hget⟩ : ∃ l, ls[cntN ls key - 1]? = some l := by
    unfold spot at hs
    cases hx : ls[cntN ls key - 1]? with
    | none => simp [hx] at hs
    | some l => exact ⟨l, rfl⟩
  have hspot : spot ls key = (cntN ls key - 1, lbN l key, hasK l key) := by unfold spot; rw [hget]
  have hh : hasK l key = true := by rw [hspot] at hs; exact hs
  obtain ⟨old, hold⟩ := hasK_at hh
  have hgp : getP ls key = some old := by unfold getP; rw [hget]; simp [hh, hold]
  have hpt : pTake ls key = settle ls (cntN ls key - 1) (takeL l key) := by unfold pTake; rw [hget]; simp [hh]
  have hat := (List.getElem?_eq_some_iff.1 hget).1
  have hmem := List.mem_of_getElem? hget
  have hl8 := hw.le _ hmem
  have hil := (List.getElem?_eq_some_iff.1 hold).1
  rw [hgp, hpt, hspot]
  dsimp only
  generalize ha : cntN ls key - 1 = a at *
  clear hspot hgp hpt hs hF
  obtain ⟨bb, off, cap, u, hv, hcell, hlu⟩ := (hpg.chg0 c21).at hget
  simp only [Value.slice.injEq] at hv
  obtain ⟨rfl, _, rfl⟩ := hv
  obtain ⟨bu, ou, cu, rfl, hcu⟩ := hlu.at' hold
  refine W_seq ?_
  refine W_region ?_
  refine O_go (gn rfl) (St.vl (vl_move rfl) rfl rfl ?_)
  refine O_go (gn rfl) (St.vl (vl_nilCheck rfl) rfl rfl ?_)
  refine O_go (gn rfl) (St.vl (vl_fieldAddr fo67_0 rfl) rfl rfl ?_)
  refine O_go (gn rfl) (St.vl (vl_load ag65 rfl ((hb.chg0 c21).cell' rfl)) rfl rfl ?_)
  refine O_go (gn rfl) (St.vl (vl_move rfl) rfl rfl ?_)
  refine O_go (gn rfl) (St.vl (vl_indexAddr sl65 sz71 rfl rfl _ rfl hat) rfl rfl ?_)
  refine O_go (gn rfl) (St.vl (vl_load ag71 rfl hcell) rfl rfl ?_)
  refine O_go (gn rfl) (St.vl (vl_move rfl) rfl rfl ?_)
  refine O_go (gn rfl) (St.vl (vl_indexAddr sl71 sz69 rfl rfl _ rfl hil) rfl rfl ?_)
  refine O_go (gn rfl) (St.vl (vl_fieldAddr fo69_1 rfl) rfl rfl ?_)
  refine O_go (gn rfl) (St.vl (vl_load ag9 rfl (hcu 1 _ rfl)) rfl rfl ?_)
  refine O_go (gn rfl) (St.vl (vl_assign rfl) rfl rfl ?_)
  refine O_end [0, 7, 8, 10] (F' := [(0, _), (7, _), (8, _), (10, _)]) rfl ?_
  refine W_seq ?_
  refine W_region ?_
  refine O_go (gn rfl) (St.vl (vl_move rfl) rfl rfl ?_)
  refine O_go (gn rfl) (St.vl (vl_nilCheck rfl) rfl rfl ?_)
  refine O_go (gn rfl) (St.vl (vl_fieldAddr fo67_0 rfl) rfl rfl ?_)
  refine O_go (gn rfl) (St.vl (vl_load ag65 rfl ((hb.chg0 c21).cell' rfl)) rfl rfl ?_)
  refine O_go (gn rfl) (St.vl (vl_move rfl) rfl rfl ?_)
  refine O_go (gn rfl) (St.vl (vl_indexAddr sl65 sz71 rfl rfl _ rfl hat) rfl rfl ?_)
  refine O_go (gn rfl) (St.vl (vl_load ag71 rfl hcell) rfl rfl ?_)
  refine O_go (gn rfl) (st_call bd25 rfl rfl rfl rfl (f25 _ _ _ _ hlu (by omega)) ?_)
  rintro v45 w45 ⟨i45, n45, c45⟩
  refine O_go (gn rfl) (St.vl (vl_move rfl) rfl rfl ?_)
  refine O_go (gn rfl) (St.vl (vl_move rfl) rfl rfl ?_)
  refine O_go (gn rfl) (St.vl (vl_add rfl rfl (by omega)) rfl rfl ?_)
  refine O_go (gn rfl) (st_call bd28 rfl rfl rfl rfl (f28 v45 (lbN l key) l.length (flat l) w45 i45 hil (by omega)) ?_)
  rintro v49 w49 ⟨i49, c49, o49⟩
  refine O_go (gn rfl) (St.vl (vl_assign rfl) rfl rfl ?_)
  refine O_end [0, 7, 10, 11] (F' := [(0, _), (7, _), (10, _), (11, _)]) rfl ?_
  have htl : (takeL l key).length = l.length - 1 := by unfold takeL; simp; omega
  have hlist : IsList w49 v49 (takeL l key) := by
    unfold IsList
    rw [htl, takeL, flat_append, flat_take, flat_drop]
    have e : (lbN l key + 1) * 2 = lbN l key * 2 + 2 := by omega
    rw [e]
    exact i49
  have hc49 : Chg [] w w49 := (c21.trans c45).own c49 (by intro x hx; have := n45 x hx; have := c21.size; omega)
  have hb49 := hb.chg0 hc49
  clear i49 c49 o49
  generalize takeL l key = l' at *
  obtain ⟨p49, q49, rfl, hq49⟩ := IsSl.val hlist
  refine W_seq_cut (fun F' w' => F' = [(10, .string old)] ∧ Pg w' p (settle ls a l') ∧ Chg [p] w w') ?_ ?_
  case refine_2 =>
    rintro F' w' ⟨rfl, hpp, hcc⟩
    refine W_seq ?_
    refine W_region ?_
    refine O_go (gn rfl) (St.vl (vl_move rfl) rfl rfl ?_)
    refine O_go (gn rfl) (St.vl (vl_assign rfl) rfl rfl ?_)
    refine O_go (gn rfl) (St.vl (vl_assign rfl) rfl rfl ?_)
    refine O_go (gn rfl) (St.vl (vl_assign rfl) rfl rfl ?_)
    refine O_end [4, 5, 6] (F' := [(4, _), (5, _), (6, _)]) rfl ?_
    refine W_ret ?_
    refine ret3 rfl rfl rfl rfl ?_
    exact ⟨rfl, hpp, hcc⟩
  refine W_block ?_
  refine W_seq ?_
  by_cases h3 : 3 ≤ l'.length
  ·
    refine W_region ?_
    refine O_go (gn rfl) (St.vl (vl_move rfl) rfl rfl ?_)
    refine O_go (gn rfl) (St.vl (vl_len sl71 rfl) rfl rfl ?_)
    refine O_go (gn rfl) (St.vl (vl_is (b' := true) (vl_geq rfl rfl) (by simp; omega)) rfl rfl ?_)
    refine O_go (gn rfl) (St.vl (vl_move rfl) rfl rfl ?_)
    iterate 7 refine O_guard_no rfl rfl rfl rfl rfl rfl ?_
    iterate 3 refine O_guard_un rfl rfl rfl rfl rfl ?_
    refine O_guard_no rfl rfl rfl rfl rfl rfl ?_
    refine O_go (gn rfl) (St.vl (vl_pick_t rfl rfl) rfl rfl ?_)
    refine O_go (gn rfl) (St.vl (vl_assign rfl) rfl rfl ?_)
    refine O_end [0, 7, 10, 11, 84] (F' := [(0, _), (7, _), (10, _), (11, _), (84, _)]) rfl ?_
    refine W_cond_true rfl ?_
    refine W_region ?_
    refine O_go (gn rfl) (St.vl (vl_move rfl) rfl rfl ?_)
    refine O_go (gn rfl) (St.vl (vl_move rfl) rfl rfl ?_)
    refine O_go (gn rfl) (St.vl (vl_move rfl) rfl rfl ?_)
    refine O_go (gn rfl) (St.vl (vl_eq (v' := .int .i64 ((a + 1 : Nat) : Int)) (vl_add rfl rfl (by omega)) (by congr 1)) rfl rfl ?_)
    refine O_go (gn rfl) (St.vl (vl_move rfl) rfl rfl ?_)
    refine O_go (gn rfl) (st_buildSlice ap64 rfl (vs := [_]) rfl (css := [_]) ⟨rfl, trivial⟩ rfl rfl (cs := [_]) rfl rfl ?_)
    intro b106 w106 e106 n106 c106 k106
    refine O_go (gn rfl) (st_call bd26 rfl rfl rfl rfl (f26 p ls [l'] _ a (a + 1) _ (hp.chg0 (hc49.trans c106)) (IsPages.one k106 (hlist.chg0 c106)) (by omega) hat (by omega) (by simp)) ?_)
    rintro v107 w107 ⟨rfl, p107, c107⟩
    refine O_endN [10] (F' := [(10, _)]) rfl ?_
    refine block_normal (then_normal ?_)
    refine ⟨rfl, ?_, ((hc49.trans c106).any (S := [p])).transS c107⟩
    rw [settle, if_pos (.inl h3)]
    exact p107
  by_cases h1 : ls.length = 1
  · by_cases h0 : 0 < l'.length
    ·
      refine W_region ?_
      refine O_go (gn rfl) (St.vl (vl_move rfl) rfl rfl ?_)
      refine O_go (gn rfl) (St.vl (vl_len sl71 rfl) rfl rfl ?_)
      refine O_go (gn rfl) (St.vl (vl_is (b' := false) (vl_geq rfl rfl) (by simp; omega)) rfl rfl ?_)
      refine O_go (gn rfl) (St.vl (vl_move rfl) rfl rfl ?_)
      refine O_go (gy rfl rfl rfl) (St.vl (vl_move rfl) rfl rfl ?_)
      refine O_go (gy rfl rfl rfl) (St.vl (vl_nilCheck rfl) rfl rfl ?_)
      refine O_go (gy rfl rfl rfl) (St.vl (vl_fieldAddr fo67_0 rfl) rfl rfl ?_)
      refine O_go (gy rfl rfl rfl) (St.vl (vl_load ag65 rfl (hb49.cell' rfl)) rfl rfl ?_)
      refine O_go (gy rfl rfl rfl) (St.vl (vl_len sl65 rfl) rfl rfl ?_)
      refine O_go (gy rfl rfl rfl) (St.vl (vl_is (b' := true) (vl_ieq rfl rfl) (by simp; omega)) rfl rfl ?_)
      refine O_go (gy rfl rfl rfl) (St.vl (vl_move rfl) rfl rfl ?_)
      refine O_go (gy rfl rfl rfl) (St.vl (vl_move rfl) rfl rfl ?_)
      refine O_go (gy rfl rfl rfl) (St.vl (vl_len sl71 rfl) rfl rfl ?_)
      refine O_go (gy rfl rfl rfl) (St.vl (vl_is (b' := true) (vl_gtr rfl rfl) (by simp; omega)) rfl rfl ?_)
      refine O_go (gy rfl rfl rfl) (St.vl (vl_pick_t rfl rfl) rfl rfl ?_)
      refine O_go (gn rfl) (St.vl (vl_pick_f rfl rfl) rfl rfl ?_)
      refine O_go (gn rfl) (St.vl (vl_assign rfl) rfl rfl ?_)
      refine O_end [0, 7, 10, 11, 84] (F' := [(0, _), (7, _), (10, _), (11, _), (84, _)]) rfl ?_
      refine W_cond_true rfl ?_
      refine W_region ?_
      refine O_go (gn rfl) (St.vl (vl_move rfl) rfl rfl ?_)
      refine O_go (gn rfl) (St.vl (vl_move rfl) rfl rfl ?_)
      refine O_go (gn rfl) (St.vl (vl_move rfl) rfl rfl ?_)
      refine O_go (gn rfl) (St.vl (vl_eq (v' := .int .i64 ((a + 1 : Nat) : Int)) (vl_add rfl rfl (by omega)) (by congr 1)) rfl rfl ?_)
      refine O_go (gn rfl) (St.vl (vl_move rfl) rfl rfl ?_)
      refine O_go (gn rfl) (st_buildSlice ap64 rfl (vs := [_]) rfl (css := [_]) ⟨rfl, trivial⟩ rfl rfl (cs := [_]) rfl rfl ?_)
      intro b106 w106 e106 n106 c106 k106
      refine O_go (gn rfl) (st_call bd26 rfl rfl rfl rfl (f26 p ls [l'] _ a (a + 1) _ (hp.chg0 (hc49.trans c106)) (IsPages.one k106 (hlist.chg0 c106)) (by omega) hat (by omega) (by simp)) ?_)
      rintro v107 w107 ⟨rfl, p107, c107⟩
      refine O_endN [10] (F' := [(10, _)]) rfl ?_
      refine block_normal (then_normal ?_)
      refine ⟨rfl, ?_, ((hc49.trans c106).any (S := [p])).transS c107⟩
      rw [settle, if_pos (.inr ⟨h1, h0⟩)]
      exact p107
    ·
      refine W_region ?_
      refine O_go (gn rfl) (St.vl (vl_move rfl) rfl rfl ?_)
      refine O_go (gn rfl) (St.vl (vl_len sl71 rfl) rfl rfl ?_)
      refine O_go (gn rfl) (St.vl (vl_is (b' := false) (vl_geq rfl rfl) (by simp; omega)) rfl rfl ?_)
      refine O_go (gn rfl) (St.vl (vl_move rfl) rfl rfl ?_)
      refine O_go (gy rfl rfl rfl) (St.vl (vl_move rfl) rfl rfl ?_)
      refine O_go (gy rfl rfl rfl) (St.vl (vl_nilCheck rfl) rfl rfl ?_)
      refine O_go (gy rfl rfl rfl) (St.vl (vl_fieldAddr fo67_0 rfl) rfl rfl ?_)
      refine O_go (gy rfl rfl rfl) (St.vl (vl_load ag65 rfl (hb49.cell' rfl)) rfl rfl ?_)
      refine O_go (gy rfl rfl rfl) (St.vl (vl_len sl65 rfl) rfl rfl ?_)
      refine O_go (gy rfl rfl rfl) (St.vl (vl_is (b' := true) (vl_ieq rfl rfl) (by simp; omega)) rfl rfl ?_)
      refine O_go (gy rfl rfl rfl) (St.vl (vl_move rfl) rfl rfl ?_)
      refine O_go (gy rfl rfl rfl) (St.vl (vl_move rfl) rfl rfl ?_)
      refine O_go (gy rfl rfl rfl) (St.vl (vl_len sl71 rfl) rfl rfl ?_)
      refine O_go (gy rfl rfl rfl) (St.vl (vl_is (b' := false) (vl_gtr rfl rfl) (decide_eq_false (by omega))) rfl rfl ?_)
      refine O_go (gy rfl rfl rfl) (St.vl (vl_pick_t rfl rfl) rfl rfl ?_)
      refine O_go (gn rfl) (St.vl (vl_pick_f rfl rfl) rfl rfl ?_)
      refine O_go (gn rfl) (St.vl (vl_assign rfl) rfl rfl ?_)
      refine O_end [0, 7, 10, 11, 84] (F' := [(0, _), (7, _), (10, _), (11, _), (84, _)]) rfl ?_
      refine W_cond_false rfl ?_
      refine W_seq ?_
      refine W_region ?_
      refine O_go (gn rfl) (St.vl (vl_move rfl) rfl rfl ?_)
      refine O_go (gn rfl) (St.vl (vl_nilCheck rfl) rfl rfl ?_)
      refine O_go (gn rfl) (St.vl (vl_fieldAddr fo67_0 rfl) rfl rfl ?_)
      refine O_go (gn rfl) (St.vl (vl_load ag65 rfl (hb49.cell' rfl)) rfl rfl ?_)
      refine O_go (gn rfl) (St.vl (vl_len sl65 rfl) rfl rfl ?_)
      refine O_go (gn rfl) (St.vl (vl_is (b' := true) (vl_ieq rfl rfl) (by simp; omega)) rfl rfl ?_)
      refine O_go (gn rfl) (St.vl (vl_assign rfl) rfl rfl ?_)
      refine O_end [0, 7, 10, 11, 108] (F' := [(0, _), (7, _), (10, _), (11, _), (108, _)]) rfl ?_
      refine W_cond_true rfl ?_
      refine W_region ?_
      refine O_go (gn rfl) (St.vl (vl_move rfl) rfl rfl ?_)
      refine O_go (gn rfl) (St.vl (vl_nilCheck rfl) rfl rfl ?_)
      refine O_go (gn rfl) (St.vl (vl_fieldAddr fo67_0 rfl) rfl rfl ?_)
      refine O_go (gn rfl) (st_store sz65 rfl rfl rfl rfl hb49 (by simp) (by intro u hu; simp at hu; subst hu; rfl) ?_)
      intro wX nX cX kX
      refine O_endN [10] (F' := [(10, _)]) rfl ?_
      refine block_normal (then_normal ?_)
      refine ⟨rfl, ?_, (hc49.any (S := [p])).transS cX⟩
      rw [settle, if_neg (by omega), if_pos h1]
      exact ⟨_, kX, ⟨[], IsSl.nil _ _ _, trivial⟩⟩
  ·
    refine W_region ?_
    refine O_go (gn rfl) (St.vl (vl_move rfl) rfl rfl ?_)
    refine O_go (gn rfl) (St.vl (vl_len sl71 rfl) rfl rfl ?_)
    refine O_go (gn rfl) (St.vl (vl_is (b' := false) (vl_geq rfl rfl) (by simp; omega)) rfl rfl ?_)
    refine O_go (gn rfl) (St.vl (vl_move rfl) rfl rfl ?_)
    refine O_go (gy rfl rfl rfl) (St.vl (vl_move rfl) rfl rfl ?_)
    refine O_go (gy rfl rfl rfl) (St.vl (vl_nilCheck rfl) rfl rfl ?_)
    refine O_go (gy rfl rfl rfl) (St.vl (vl_fieldAddr fo67_0 rfl) rfl rfl ?_)
    refine O_go (gy rfl rfl rfl) (St.vl (vl_load ag65 rfl (hb49.cell' rfl)) rfl rfl ?_)
    refine O_go (gy rfl rfl rfl) (St.vl (vl_len sl65 rfl) rfl rfl ?_)
    refine O_go (gy rfl rfl rfl) (St.vl (vl_is (b' := false) (vl_ieq rfl rfl) (by simp; omega)) rfl rfl ?_)
    refine O_go (gy rfl rfl rfl) (St.vl (vl_move rfl) rfl rfl ?_)
    iterate 3 refine O_guard_no rfl rfl rfl rfl rfl rfl ?_
    refine O_go (gy rfl rfl rfl) (St.vl (vl_pick_f rfl rfl) rfl rfl ?_)
    refine O_go (gn rfl) (St.vl (vl_pick_f rfl rfl) rfl rfl ?_)
    refine O_go (gn rfl) (St.vl (vl_assign rfl) rfl rfl ?_)
    refine O_end [0, 7, 10, 11, 84] (F' := [(0, _), (7, _), (10, _), (11, _), (84, _)]) rfl ?_
    refine W_cond_false rfl ?_
    refine W_seq ?_
    refine W_region ?_
    refine O_go (gn rfl) (St.vl (vl_move rfl) rfl rfl ?_)
    refine O_go (gn rfl) (St.vl (vl_nilCheck rfl) rfl rfl ?_)
    refine O_go (gn rfl) (St.vl (vl_fieldAddr fo67_0 rfl) rfl rfl ?_)
    refine O_go (gn rfl) (St.vl (vl_load ag65 rfl (hb49.cell' rfl)) rfl rfl ?_)
    refine O_go (gn rfl) (St.vl (vl_len sl65 rfl) rfl rfl ?_)
    refine O_go (gn rfl) (St.vl (vl_is (b' := false) (vl_ieq rfl rfl) (by simp; omega)) rfl rfl ?_)
    refine O_go (gn rfl) (St.vl (vl_assign rfl) rfl rfl ?_)
    refine O_end [0, 7, 10, 11, 108] (F' := [(0, _), (7, _), (10, _), (11, _), (108, _)]) rfl ?_
    refine W_cond_false rfl ?_
    by_cases hend : a + 1 = ls.length
    ·
      refine W_seq ?_
      refine W_region ?_
      refine O_go (gn rfl) (St.vl (vl_move rfl) rfl rfl ?_)
      refine O_go (gn rfl) (St.vl (vl_buildA ar78 sz71 zr78 rfl (vs := [_]) rfl (css := [_]) ⟨rfl, trivial⟩ rfl rfl (cs := [_, _]) rfl) rfl rfl ?_)
      refine O_go (gn rfl) (st_alloc zr78 rfl rfl ?_)
      intro b12 w12 e12 n12 c12 k12
      refine O_go (gn rfl) (st_store sz78 rfl rfl rfl rfl k12 (by simp) (by intro u hu; simp at hu; rcases hu with rfl | rfl <;> rfl) ?_)
      intro w50 n50 c50 k50
      refine O_end [0, 7, 10, 11, 12] (F' := [(0, _), (7, _), (10, _), (11, _), (12, _)]) rfl ?_
      have hc50 : Chg [] w49 w50 := c12.own c50 (by simp [← e12])
      have hcw : Chg [] w w50 := hc49.trans hc50
      have hb50 := hb49.chg0 hc50
      refine W_seq ?_
      refine W_seq ?_
      refine W_region ?_
      refine O_go (gn rfl) (St.vl (vl_move rfl) rfl rfl ?_)
      refine O_go (gn rfl) (St.vl (vl_move rfl) rfl rfl ?_)
      refine O_go (gn rfl) (St.vl (vl_nilCheck rfl) rfl rfl ?_)
      refine O_go (gn rfl) (St.vl (vl_fieldAddr fo67_0 rfl) rfl rfl ?_)
      refine O_go (gn rfl) (St.vl (vl_load ag65 rfl (hb50.cell' rfl)) rfl rfl ?_)
      refine O_go (gn rfl) (St.vl (vl_len sl65 rfl) rfl rfl ?_)
      refine O_go (gn rfl) (St.vl (vl_sub rfl rfl (by omega)) rfl rfl ?_)
      refine O_go (gn rfl) (St.vl (vl_is (b' := true) (vl_ieq rfl rfl) (by simp; omega)) rfl rfl ?_)
      refine O_end [0, 7, 10, 11, 12, 59] (F' := [(0, _), (7, _), (10, _), (11, _), (12, _), (59, _)]) rfl ?_
      refine W_cond_true rfl ?_
      have hprev : ls[a - 1]? = some (nth ls (a - 1)) := by unfold nth; rw [List.getElem?_eq_getElem (by omega)]; rfl
      obtain ⟨b2, off2, cap2, u2, hv2, hcell2, hlu2⟩ := (hpg.chg0 hcw).at hprev
      simp only [Value.slice.injEq, Option.some.injEq, Addr.mk.injEq, and_true] at hv2
      obtain ⟨⟨rfl, rfl⟩, _⟩ := hv2
      obtain ⟨pu2, qu2, rfl, _⟩ := IsSl.val hlu2
      refine W_seq ?_
      refine W_region ?_
      refine O_go (gn rfl) (St.vl (vl_move rfl) rfl rfl ?_)
      refine O_go (gn rfl) (St.vl (vl_eq (v' := .int .i64 ((a - 1 : Nat) : Int)) (vl_sub rfl rfl (by omega)) (by congr 1; omega)) rfl rfl ?_)
      refine O_go (gn rfl) (St.vl (vl_assign rfl) rfl rfl ?_)
      refine O_end [0, 7, 10, 11, 12] (F' := [(0, _), (7, _), (10, _), (11, _), (12, _)]) rfl ?_
      refine W_region ?_
      refine O_go (gn rfl) (St.vl (vl_move rfl) rfl rfl ?_)
      refine O_go (gn rfl) (St.vl (vl_nilCheck rfl) rfl rfl ?_)
      refine O_go (gn rfl) (St.vl (vl_fieldAddr fo67_0 rfl) rfl rfl ?_)
      refine O_go (gn rfl) (St.vl (vl_load ag65 rfl (hb50.cell' rfl)) rfl rfl ?_)
      refine O_go (gn rfl) (St.vl (vl_move rfl) rfl rfl ?_)
      refine O_go (gn rfl) (St.vl (vl_indexAddr sl65 sz71 rfl rfl _ rfl (by omega)) rfl rfl ?_)
      refine O_go (gn rfl) (St.vl (vl_load ag71 rfl hcell2) rfl rfl ?_)
      refine O_go (gn rfl) (St.vl (vl_move rfl) rfl rfl ?_)
      refine O_go (gn rfl) (St.vl (vl_buildA ar78 sz71 zr78 rfl (vs := [_, _]) rfl (css := [_, _]) ⟨rfl, rfl, trivial⟩ rfl rfl (cs := [_, _]) rfl) rfl rfl ?_)
      refine O_go (gn rfl) (st_store sz78 rfl rfl rfl rfl k50 (by simp [laid]) (by intro u hu; simp at hu; rcases hu with rfl | rfl <;> rfl) ?_)
      intro w70 n70 c70 k70
      refine O_end [0, 7, 10, 12] (F' := [(0, _), (7, _), (10, _), (12, _)]) rfl ?_
      have hc70 : Chg [] w49 w70 := c12.own (c50.transS c70) (by simp [← e12])
      refine W_region ?_
      refine O_go (gn rfl) (St.vl (vl_move rfl) rfl rfl ?_)
      refine O_go (gn rfl) (St.vl (vl_move rfl) rfl rfl ?_)
      refine O_go (gn rfl) (St.vl (vl_loadAgg ag78 sz78 rfl rfl (Cells.of_blk0 k70)) rfl rfl ?_)
      refine O_go (gn rfl) (st_call bd29 rfl rfl rfl rfl (f29 p ls _ _ (nth ls (a - 1)) l' (a - 1) _ (hp.chg0 (hc49.trans hc70)) ((hlu2.chg c70 (IsSl.apart hlu2 k50 rfl))) (hlist.chg0 hc70) (by omega) (by omega) (by have := hw.le _ (List.mem_of_getElem? hprev); omega) (by omega)) ?_)
      rintro v83 w83 ⟨rfl, p83, c83⟩
      refine O_endN [10] (F' := [(10, _)]) rfl ?_
      refine block_normal (then_normal ?_)
      refine ⟨rfl, ?_, ((hc49.trans hc70).any (S := [p])).transS c83⟩
      rw [settle, if_neg (by omega), if_neg h1, if_pos hend]
      rw [show a - 1 + 2 = a + 1 by omega] at p83
      exact p83
    ·
      refine W_seq ?_
      refine W_region ?_
      refine O_go (gn rfl) (St.vl (vl_move rfl) rfl rfl ?_)
      refine O_go (gn rfl) (St.vl (vl_buildA ar78 sz71 zr78 rfl (vs := [_]) rfl (css := [_]) ⟨rfl, trivial⟩ rfl rfl (cs := [_, _]) rfl) rfl rfl ?_)
      refine O_go (gn rfl) (st_alloc zr78 rfl rfl ?_)
      intro b12 w12 e12 n12 c12 k12
      refine O_go (gn rfl) (st_store sz78 rfl rfl rfl rfl k12 (by simp) (by intro u hu; simp at hu; rcases hu with rfl | rfl <;> rfl) ?_)
      intro w50 n50 c50 k50
      refine O_end [0, 7, 10, 11, 12] (F' := [(0, _), (7, _), (10, _), (11, _), (12, _)]) rfl ?_
      have hc50 : Chg [] w49 w50 := c12.own c50 (by simp [← e12])
      have hcw : Chg [] w w50 := hc49.trans hc50
      have hb50 := hb49.chg0 hc50
      refine W_seq ?_
      refine W_seq ?_
      refine W_region ?_
      refine O_go (gn rfl) (St.vl (vl_move rfl) rfl rfl ?_)
      refine O_go (gn rfl) (St.vl (vl_move rfl) rfl rfl ?_)
      refine O_go (gn rfl) (St.vl (vl_nilCheck rfl) rfl rfl ?_)
      refine O_go (gn rfl) (St.vl (vl_fieldAddr fo67_0 rfl) rfl rfl ?_)
      refine O_go (gn rfl) (St.vl (vl_load ag65 rfl (hb50.cell' rfl)) rfl rfl ?_)
      refine O_go (gn rfl) (St.vl (vl_len sl65 rfl) rfl rfl ?_)
      refine O_go (gn rfl) (St.vl (vl_sub rfl rfl (by omega)) rfl rfl ?_)
      refine O_go (gn rfl) (St.vl (vl_is (b' := false) (vl_ieq rfl rfl) (by simp; omega)) rfl rfl ?_)
      refine O_end [0, 7, 10, 11, 12, 59] (F' := [(0, _), (7, _), (10, _), (11, _), (12, _), (59, _)]) rfl ?_
      refine W_cond_false rfl ?_
      have hnext : ls[a + 1]? = some (nth ls (a + 1)) := by unfold nth; rw [List.getElem?_eq_getElem (by omega)]; rfl
      obtain ⟨b2, off2, cap2, u2, hv2, hcell2, hlu2⟩ := (hpg.chg0 hcw).at hnext
      simp only [Value.slice.injEq, Option.some.injEq, Addr.mk.injEq, and_true] at hv2
      obtain ⟨⟨rfl, rfl⟩, _⟩ := hv2
      obtain ⟨pu2, qu2, rfl, _⟩ := IsSl.val hlu2
      refine W_region ?_
      refine O_go (gn rfl) (St.vl (vl_move rfl) rfl rfl ?_)
      refine O_go (gn rfl) (St.vl (vl_nilCheck rfl) rfl rfl ?_)
      refine O_go (gn rfl) (St.vl (vl_fieldAddr fo67_0 rfl) rfl rfl ?_)
      refine O_go (gn rfl) (St.vl (vl_load ag65 rfl (hb50.cell' rfl)) rfl rfl ?_)
      refine O_go (gn rfl) (St.vl (vl_move rfl) rfl rfl ?_)
      refine O_go (gn rfl) (St.vl (vl_eq (v' := .int .i64 ((a + 1 : Nat) : Int)) (vl_add rfl rfl (by omega)) (by congr 1)) rfl rfl ?_)
      refine O_go (gn rfl) (St.vl (vl_indexAddr sl65 sz71 rfl rfl _ rfl (by omega)) rfl rfl ?_)
      refine O_go (gn rfl) (St.vl (vl_load ag71 rfl hcell2) rfl rfl ?_)
      refine O_go (gn rfl) (St.vl (vl_indexAddrA ar78 sz71 rfl rfl 1 rfl (by omega)) rfl rfl ?_)
      refine O_go (gn rfl) (st_store sz71 rfl rfl rfl rfl k50 (by simp [laid]) (by intro u hu; simp at hu; subst hu; rfl) ?_)
      intro w70 n70 c70 k70
      refine O_end [0, 7, 10, 12] (F' := [(0, _), (7, _), (10, _), (12, _)]) rfl ?_
      have hc70 : Chg [] w49 w70 := c12.own (c50.transS c70) (by simp [← e12])
      refine W_region ?_
      refine O_go (gn rfl) (St.vl (vl_move rfl) rfl rfl ?_)
      refine O_go (gn rfl) (St.vl (vl_move rfl) rfl rfl ?_)
      refine O_go (gn rfl) (St.vl (vl_loadAgg ag78 sz78 rfl rfl (Cells.of_blk0 k70)) rfl rfl ?_)
      refine O_go (gn rfl) (st_call bd29 rfl rfl rfl rfl (f29 p ls _ _ l' (nth ls (a + 1)) a _ (hp.chg0 (hc49.trans hc70)) (hlist.chg0 hc70) (hlu2.chg c70 (IsSl.apart hlu2 k50 rfl)) (by omega) (by omega) (by omega) (by have := hw.le _ (List.mem_of_getElem? hnext); omega)) ?_)
      rintro v83 w83 ⟨rfl, p83, c83⟩
      refine O_endN [10] (F' := [(10, _)]) rfl ?_
      refine block_normal (then_normal ?_)
      refine ⟨rfl, ?_, ((hc49.trans hc70).any (S := [p])).transS c83⟩
      rw [settle, if_neg (by omega), if_neg h1, if_neg hend]
      exact p83
end Go.Wk

