/-
  Getters of pages: New, total, Len, Get, Copy, num.
-/
import Derived.Test.YthbahcjkncfpdaaP8
namespace Go.Wk
open Go.Proofs
set_option maxRecDepth 10000

theorem f9 (w : World) : Ret Try.prog 9 #[] w fun r w' => ∃ p, r = .pointer (some ⟨p, 0, none⟩) ∧ w.heap.size ≤ p ∧ Pg w' p [] ∧ Chg [] w w' := by
  refine Ret.of_W (args := []) Try.func9 rfl rfl rfl rfl ?_

  refine W_seq ?_
  refine W_region ?_
  refine O_go (gn rfl) (St.vl (vl_assign rfl) rfl rfl ?_)
  refine O_end [] (F' := []) rfl ?_
  refine W_seq ?_
  refine W_region ?_
  refine O_go (gn rfl) (St.vl (vl_build pl67 zr67 rfl (vs := []) rfl (css := []) trivial rfl rfl (cs := [_]) rfl) rfl rfl ?_)
  refine O_go (gn rfl) (st_box rfl rfl rfl ?_)
  intro b2 w2 e2 n2 c2 k2
  refine O_go (gn rfl) (St.vl (vl_assign rfl) rfl rfl ?_)
  refine O_end [0] (F' := [(0, _)]) rfl ?_
  refine W_ret ?_
  refine ret1 rfl rfl ?_
  exact ⟨b2, rfl, by omega, ⟨_, k2, [], IsSl.nil _ _ _, trivial⟩, c2⟩

theorem f18 (i : Int) (w : World) : Ret Try.prog 18 #[.int .i64 i] w fun r w' => r = .int .i64 i ∧ w' = w := by
  refine Ret.of_W (args := [_]) Try.func18 rfl rfl rfl rfl ?_

  refine W_seq ?_
  refine W_region ?_
  refine O_go (gn rfl) (St.vl (vl_assign rfl) rfl rfl ?_)
  refine O_end [0] (F' := [(0, _)]) rfl ?_
  refine W_seq ?_
  refine W_region ?_
  refine O_go (gn rfl) (St.vl (vl_move rfl) rfl rfl ?_)
  refine O_go (gn rfl) (St.vl (vl_assign rfl) rfl rfl ?_)
  refine O_end [2] (F' := [(2, _)]) rfl ?_
  refine W_ret ?_
  refine ret1 rfl rfl ?_
  exact ⟨rfl, rfl⟩

theorem flat_take1 {ls : List (List Ent)} {i : Nat} {x : List Ent} (h : ls[i]? = some x) : (ls.take (i + 1)).flatten = (ls.take i).flatten ++ x := by
  rw [List.take_add_one, h]
  simp
theorem flat_len_le {ls : List (List Ent)} (h : ∀ l ∈ ls, l.length ≤ 8) (i : Nat) : (ls.take i).flatten.length ≤ 8 * i := by
  induction i with
  | zero => simp
  | succ i ih =>
    cases hx : ls[i]? with
    | none =>
      rw [List.take_add_one, hx]
      simp at ih ⊢
      omega
    | some x =>
      rw [flat_take1 hx, List.length_append]
      have := h x (List.mem_of_getElem? hx)
      omega

theorem f30 (v : Value) (ls : List (List Ent)) (w : World) (hp : IsPages w v ls) (h8 : ∀ l ∈ ls, l.length ≤ 8) (hn : ls.length ≤ 65536) :
    Ret Try.prog 30 #[v] w fun r w' => r = .int .i64 (ls.flatten.length : Nat) ∧ w' = w := by
  obtain ⟨vs, hsl, hal⟩ := id hp
  obtain ⟨p, c, rfl, _⟩ := hsl.val
  refine Ret.of_W (args := [_]) Try.func30 rfl rfl rfl rfl ?_

  refine W_seq ?_
  refine W_region ?_
  refine O_go (gn rfl) (St.vl (vl_assign rfl) rfl rfl ?_)
  refine O_end [0, 2] (F' := [(0, _), (2, _)]) rfl ?_
  refine W_seq ?_
  refine W_seq ?_
  refine W_region ?_
  refine O_go (gn rfl) (St.vl (vl_move rfl) rfl rfl ?_)
  refine O_go (gn rfl) (St.vl (vl_len sl65 rfl) rfl rfl ?_)
  refine O_go (gn rfl) (St.vl (vl_move rfl) rfl rfl ?_)
  refine O_end [2, 5, 6, 7] (F' := [(2, _), (5, _), (6, _), (7, _)]) rfl ?_
  refine W_block ?_
  refine W_loop [2, 5, 6, 7] (fun m F wx => wx = w ∧ ∃ j : Nat, m = ls.length - j ∧ j ≤ ls.length ∧ F = [(2, .int .i64 ((ls.take j).flatten.length : Nat)), (5, .slice p ls.length c), (6, .int .i64 ls.length), (7, .int .i64 j)]) (m := ls.length - 0) ⟨rfl, 0, rfl, Nat.zero_le _, rfl⟩ ?_
  rintro m F wx ⟨rfl, j, rfl, hj, rfl⟩
  have hb := flat_len_le h8 j
  refine W_seq ?_
  refine W_region ?_
  refine O_go (gn rfl) (St.vl (vl_lss rfl rfl) rfl rfl ?_)
  refine O_end [2, 5, 6, 7, 8] (F' := [(2, _), (5, _), (6, _), (7, _), (8, _)]) rfl ?_
  refine W_seq ?_
  refine W_cond rfl (fun hT => ?_) (fun hF => ?_)
  · refine W_skipE ?_
    have hlt : j < ls.length := by simpa using hT
    have hx : ls[j]? = some ls[j] := by simp [hlt]
    have hx8 := h8 _ (List.mem_of_getElem? hx)
    obtain ⟨b, off, cap, u, hv, hc, hl⟩ := hp.at hx
    cases hv
    obtain ⟨pu, cu, rfl, _⟩ := IsSl.val hl
    refine W_seq ?_
    refine W_block ?_
    refine W_seq ?_
    refine W_region ?_
    refine O_go (gn rfl) (St.vl (vl_indexAddr sl65 sz71 rfl rfl _ rfl hlt) rfl rfl ?_)
    refine O_go (gn rfl) (St.vl (vl_load ag71 rfl hc) rfl rfl ?_)
    refine O_go (gn rfl) (St.vl (vl_assign rfl) rfl rfl ?_)
    refine O_end [2, 4, 5, 6, 7] (F' := [(2, _), (4, _), (5, _), (6, _), (7, _)]) rfl ?_
    refine W_region ?_
    refine O_go (gn rfl) (St.vl (vl_move rfl) rfl rfl ?_)
    refine O_go (gn rfl) (St.vl (vl_move rfl) rfl rfl ?_)
    refine O_go (gn rfl) (St.vl (vl_len sl71 rfl) rfl rfl ?_)
    refine O_go (gn rfl) (St.vl (vl_add rfl rfl (by omega)) rfl rfl ?_)
    refine O_go (gn rfl) (St.vl (vl_assign rfl) rfl rfl ?_)
    refine O_endN [2, 5, 6, 7] (F' := [(2, _), (5, _), (6, _), (7, _)]) rfl ?_
    refine block_normal ?_
    refine W_region ?_
    refine O_go (gn rfl) (St.vl (vl_add rfl rfl (by omega)) rfl rfl ?_)
    refine O_go (gn rfl) (St.vl (vl_move rfl) rfl rfl ?_)
    refine O_endN [2, 5, 6, 7] (F' := [(2, _), (5, _), (6, _), (7, _)]) rfl ?_
    refine ⟨ls.length - (j + 1), by omega, rfl, j + 1, rfl, by omega, ?_⟩
    have e : (((ls.take (j + 1)).flatten.length : Nat) : Int) = ((ls.take j).flatten.length : Nat) + (ls[j].length : Nat) := by rw [flat_take1 hx, List.length_append]; omega
    rw [e]
    rfl
  · refine W_exit ?_
    repeat (first | refine then_exit ?_ | refine blockF_other rfl ?_)
    refine blockF_exit _ ?_
    have he : j = ls.length := by
      have : ¬ (j < ls.length) := by simpa using hF
      omega
    subst he
    refine W_seq ?_
    refine W_region ?_
    refine O_go (gn rfl) (St.vl (vl_move rfl) rfl rfl ?_)
    refine O_go (gn rfl) (St.vl (vl_assign rfl) rfl rfl ?_)
    refine O_end [2] (F' := [(2, _)]) rfl ?_
    refine W_ret ?_
    refine ret1 rfl rfl ?_
    rw [List.take_length]
    exact ⟨rfl, rfl⟩

theorem f13_nil (w : World) : Ret Try.prog 13 #[.pointer none] w fun r w' => r = .int .i64 0 ∧ w' = w := by
  refine Ret.of_W (args := [_]) Try.func13 rfl rfl rfl rfl ?_

  refine W_seq ?_
  refine W_region ?_
  refine O_go (gn rfl) (St.vl (vl_assign rfl) rfl rfl ?_)
  refine O_end [0] (F' := [(0, _)]) rfl ?_
  refine W_seq ?_
  refine W_seq ?_
  refine W_region ?_
  refine O_go (gn rfl) (St.vl (vl_move rfl) rfl rfl ?_)
  refine O_go (gn rfl) (St.vl (vl_pnil pt25 rfl rfl) rfl rfl ?_)
  refine O_end [0, 4] (F' := [(0, _), (4, _)]) rfl ?_
  refine W_cond_true rfl ?_
  refine W_seq ?_
  refine W_region ?_
  refine O_go (gn rfl) (St.vl (vl_assign rfl) rfl rfl ?_)
  refine O_end [2] (F' := [(2, _)]) rfl ?_
  refine W_ret ?_
  refine then_ret ?_
  refine ret1 rfl rfl ?_
  exact ⟨rfl, rfl⟩

theorem f13 (p : Nat) (ls : List (List Ent)) (w : World) (hp : Pg w p ls) (h8 : ∀ l ∈ ls, l.length ≤ 8) (hn : ls.length ≤ 65536) :
    Ret Try.prog 13 #[.pointer (some ⟨p, 0, none⟩)] w fun r w' => r = .int .i64 (ls.flatten.length : Nat) ∧ w' = w := by
  obtain ⟨v, hb, hpg⟩ := id hp
  refine Ret.of_W (args := [_]) Try.func13 rfl rfl rfl rfl ?_

  refine W_seq ?_
  refine W_region ?_
  refine O_go (gn rfl) (St.vl (vl_assign rfl) rfl rfl ?_)
  refine O_end [0] (F' := [(0, _)]) rfl ?_
  refine W_seq ?_
  refine W_seq ?_
  refine W_region ?_
  refine O_go (gn rfl) (St.vl (vl_move rfl) rfl rfl ?_)
  refine O_go (gn rfl) (St.vl (vl_pnil pt25 rfl rfl) rfl rfl ?_)
  refine O_end [0, 4] (F' := [(0, _), (4, _)]) rfl ?_
  refine W_cond_false rfl ?_
  refine W_skipE ?_
  refine W_seq ?_
  refine W_region ?_
  refine O_go (gn rfl) (St.vl (vl_move rfl) rfl rfl ?_)
  refine O_go (gn rfl) (St.vl (vl_nilCheck rfl) rfl rfl ?_)
  refine O_go (gn rfl) (St.vl (vl_fieldAddr fo67_0 rfl) rfl rfl ?_)
  refine O_go (gn rfl) (St.vl (vl_load ag65 rfl (hb.cell' rfl)) rfl rfl ?_)
  refine O_go (gn rfl) (st_call bd30 rfl rfl rfl rfl (f30 v ls w hpg h8 hn) ?_)
  rintro v9 w9 ⟨rfl, rfl⟩
  refine O_go (gn rfl) (St.vl (vl_assign rfl) rfl rfl ?_)
  refine O_end [2] (F' := [(2, _)]) rfl ?_
  refine W_ret ?_
  refine ret1 rfl rfl ?_
  exact ⟨rfl, rfl⟩

theorem f15_nil (key : ByteArray) (w : World) : Ret Try.prog 15 #[.pointer none, .string key] w fun r w' => r = .tuple #[.string ⟨#[]⟩, .bool false] ∧ w' = w := by
  refine Ret.of_W (args := [_, _]) Try.func15 rfl rfl rfl rfl ?_

  refine W_seq ?_
  refine W_region ?_
  refine O_go (gn rfl) (St.vl (vl_assign rfl) rfl rfl ?_)
  refine O_go (gn rfl) (St.vl (vl_assign rfl) rfl rfl ?_)
  refine O_end [0, 1] (F' := [(0, _), (1, _)]) rfl ?_
  refine W_seq ?_
  refine W_seq ?_
  refine W_region ?_
  refine O_go (gn rfl) (St.vl (vl_move rfl) rfl rfl ?_)
  refine O_go (gn rfl) (St.vl (vl_pnil pt25 rfl rfl) rfl rfl ?_)
  refine O_end [0, 1, 10] (F' := [(0, _), (1, _), (10, _)]) rfl ?_
  refine W_cond_true rfl ?_
  refine W_seq ?_
  refine W_region ?_
  refine O_go (gn rfl) (St.vl (vl_assign rfl) rfl rfl ?_)
  refine O_go (gn rfl) (St.vl (vl_assign rfl) rfl rfl ?_)
  refine O_end [4, 5] (F' := [(4, _), (5, _)]) rfl ?_
  refine W_ret ?_
  refine then_ret ?_
  refine ret2 rfl rfl rfl ?_
  exact ⟨rfl, rfl⟩

theorem f15 (p : Nat) (ls : List (List Ent)) (key : ByteArray) (w : World) (hp : Pg w p ls) (hw : WfP ls) (hn : ls.length ≤ 65536) :
    Ret Try.prog 15 #[.pointer (some ⟨p, 0, none⟩), .string key] w fun r w' => r = .tuple #[.string ((getP ls key).getD ⟨#[]⟩), .bool (getP ls key).isSome] ∧ Chg [] w w' := by
  obtain ⟨v, hb, hpg⟩ := id hp
  obtain ⟨vs, hsl, hal⟩ := id hpg
  obtain ⟨pv, cv, rfl, hlc⟩ := hsl.val
  refine Ret.of_W (args := [_, _]) Try.func15 rfl rfl rfl rfl ?_

  refine W_seq ?_
  refine W_region ?_
  refine O_go (gn rfl) (St.vl (vl_assign rfl) rfl rfl ?_)
  refine O_go (gn rfl) (St.vl (vl_assign rfl) rfl rfl ?_)
  refine O_end [0, 1] (F' := [(0, _), (1, _)]) rfl ?_
  refine W_seq ?_
  refine W_seq ?_
  refine W_region ?_
  refine O_go (gn rfl) (St.vl (vl_move rfl) rfl rfl ?_)
  refine O_go (gn rfl) (St.vl (vl_pnil pt25 rfl rfl) rfl rfl ?_)
  refine O_end [0, 1, 10] (F' := [(0, _), (1, _), (10, _)]) rfl ?_
  refine W_cond_false rfl ?_
  refine W_skipE ?_
  refine W_seq ?_
  refine W_region ?_
  refine O_go (gn rfl) (St.vl (vl_move rfl) rfl rfl ?_)
  refine O_go (gn rfl) (St.vl (vl_nilCheck rfl) rfl rfl ?_)
  refine O_go (gn rfl) (St.vl (vl_fieldAddr fo67_0 rfl) rfl rfl ?_)
  refine O_go (gn rfl) (St.vl (vl_load ag65 rfl (hb.cell' rfl)) rfl rfl ?_)
  refine O_go (gn rfl) (St.vl (vl_move rfl) rfl rfl ?_)
  refine O_go (gn rfl) (st_call bd24 rfl rfl rfl rfl (f24 (.slice pv ls.length cv) ls key w hpg hw.ne (by omega) hw.firsts hw.each (fun l hl => by have := hw.le l hl; omega)) ?_)
  rintro v17 w17 ⟨rfl, c21⟩
  refine O_go (gn rfl) (St.vl (vl_move rfl) rfl rfl ?_)
  refine O_go (gn rfl) (St.vl (vl_extract rfl rfl) rfl rfl ?_)
  refine O_go (gn rfl) (St.vl (vl_extract rfl rfl) rfl rfl ?_)
  refine O_go (gn rfl) (St.vl (vl_extract rfl rfl) rfl rfl ?_)
  refine O_go (gn rfl) (St.vl (vl_assign rfl) rfl rfl ?_)
  refine O_go (gn rfl) (St.vl (vl_assign rfl) rfl rfl ?_)
  refine O_go (gn rfl) (St.vl (vl_assign rfl) rfl rfl ?_)
  refine O_end [0, 6, 7, 8] (F' := [(0, _), (6, _), (7, _), (8, _)]) rfl ?_
  refine W_seq ?_
  refine W_seq ?_
  refine W_region ?_
  refine O_go (gn rfl) (St.vl (vl_move rfl) rfl rfl ?_)
  refine O_go (gn rfl) (St.vl (vl_not rfl) rfl rfl ?_)
  refine O_end [0, 6, 7, 22] (F' := [(0, _), (6, _), (7, _), (22, _)]) rfl ?_
  refine W_cond rfl (fun hT => ?_) (fun hF => ?_)
  · refine W_seq ?_
    refine W_region ?_
    refine O_go (gn rfl) (St.vl (vl_assign rfl) rfl rfl ?_)
    refine O_go (gn rfl) (St.vl (vl_assign rfl) rfl rfl ?_)
    refine O_end [4, 5] (F' := [(4, _), (5, _)]) rfl ?_
    refine W_ret ?_
    refine then_ret ?_
    refine ret2 rfl rfl rfl ?_
    have hs : (spot ls key).2.2 = false := by simpa using hT
    have hg : getP ls key = none := by
      unfold getP
      unfold spot at hs
      cases hx : ls[cntN ls key - 1]? with
      | none => simp
      | some l => simp only [hx] at hs; simp [hs]
    rw [hg]
    exact ⟨rfl, c21⟩
  refine W_skipE ?_
  have hs : (spot ls key).2.2 = true := by simpa using hF
  obtain ⟨l, hget⟩ : ∃ l, ls[cntN ls key - 1]? = some l := by
    unfold spot at hs
    cases hx : ls[cntN ls key - 1]? with
    | none => simp [hx] at hs
    | some l => exact ⟨l, rfl⟩
  have hspot : spot ls key = (cntN ls key - 1, lbN l key, hasK l key) := by unfold spot; rw [hget]
  have hh : hasK l key = true := by rw [hspot] at hs; exact hs
  obtain ⟨old, hold⟩ := hasK_at hh
  have hgp : getP ls key = some old := by unfold getP; rw [hget]; simp [hh, hold]
  have hat := (List.getElem?_eq_some_iff.1 hget).1
  have hil := (List.getElem?_eq_some_iff.1 hold).1
  rw [hgp, hspot]
  dsimp only
  obtain ⟨bb, off, cap, u, hv, hcell, hlu⟩ := (hpg.chg0 c21).at hget
  simp only [Value.slice.injEq] at hv
  obtain ⟨rfl, _, rfl⟩ := hv
  obtain ⟨bu, ou, cu, rfl, hcu⟩ := hlu.at' hold
  refine W_seq ?_
  refine W_region ?_
  refine O_go (gn rfl) (St.vl (vl_move rfl) rfl rfl ?_)
  refine O_go (gn rfl) (St.vl (vl_nilCheck rfl) rfl rfl ?_)
  refine O_go (gn rfl) (St.vl (vl_fieldAddr fo67_0 rfl) rfl rfl ?_)
  refine O_go (gn rfl) (St.vl (vl_load ag65 rfl ((hb.chg0 c21).cell' rfl)) rfl rfl ?_)
  refine O_go (gn rfl) (St.vl (vl_move rfl) rfl rfl ?_)
  refine O_go (gn rfl) (St.vl (vl_indexAddr sl65 sz71 rfl rfl _ rfl hat) rfl rfl ?_)
  refine O_go (gn rfl) (St.vl (vl_load ag71 rfl hcell) rfl rfl ?_)
  refine O_go (gn rfl) (St.vl (vl_move rfl) rfl rfl ?_)
  refine O_go (gn rfl) (St.vl (vl_indexAddr sl71 sz69 rfl rfl _ rfl hil) rfl rfl ?_)
  refine O_go (gn rfl) (St.vl (vl_fieldAddr fo69_1 rfl) rfl rfl ?_)
  refine O_go (gn rfl) (St.vl (vl_load ag9 rfl (hcu 1 _ rfl)) rfl rfl ?_)
  refine O_go (gn rfl) (St.vl (vl_assign rfl) rfl rfl ?_)
  refine O_go (gn rfl) (St.vl (vl_assign rfl) rfl rfl ?_)
  refine O_end [4, 5] (F' := [(4, _), (5, _)]) rfl ?_
  refine W_ret ?_
  refine ret2 rfl rfl rfl ?_
  exact ⟨rfl, c21⟩

theorem f19_nil (w : World) : Ret Try.prog 19 #[.pointer none] w fun r w' => r = .pointer none ∧ w' = w := by
  refine Ret.of_W (args := [_]) Try.func19 rfl rfl rfl rfl ?_

  refine W_seq ?_
  refine W_region ?_
  refine O_go (gn rfl) (St.vl (vl_assign rfl) rfl rfl ?_)
  refine O_end [0] (F' := [(0, _)]) rfl ?_
  refine W_seq ?_
  refine W_seq ?_
  refine W_region ?_
  refine O_go (gn rfl) (St.vl (vl_move rfl) rfl rfl ?_)
  refine O_go (gn rfl) (St.vl (vl_pnil pt25 rfl rfl) rfl rfl ?_)
  refine O_end [0, 4] (F' := [(0, _), (4, _)]) rfl ?_
  refine W_cond_true rfl ?_
  refine W_seq ?_
  refine W_region ?_
  refine O_go (gn rfl) (St.vl (vl_assign rfl) rfl rfl ?_)
  refine O_end [2] (F' := [(2, _)]) rfl ?_
  refine W_ret ?_
  refine then_ret ?_
  refine ret1 rfl rfl ?_
  exact ⟨rfl, rfl⟩

theorem f19 (p : Nat) (ls : List (List Ent)) (w : World) (hp : Pg w p ls) (hn : ls.length ≤ 65536) :
    Ret Try.prog 19 #[.pointer (some ⟨p, 0, none⟩)] w fun r w' => ∃ q, r = .pointer (some ⟨q, 0, none⟩) ∧ w.heap.size ≤ q ∧ Pg w' q ls ∧ Chg [] w w' := by
  obtain ⟨v, hb, hpg⟩ := id hp
  obtain ⟨vs, hsl, hal⟩ := id hpg
  refine Ret.of_W (args := [_]) Try.func19 rfl rfl rfl rfl ?_

  refine W_seq ?_
  refine W_region ?_
  refine O_go (gn rfl) (St.vl (vl_assign rfl) rfl rfl ?_)
  refine O_end [0] (F' := [(0, _)]) rfl ?_
  refine W_seq ?_
  refine W_seq ?_
  refine W_region ?_
  refine O_go (gn rfl) (St.vl (vl_move rfl) rfl rfl ?_)
  refine O_go (gn rfl) (St.vl (vl_pnil pt25 rfl rfl) rfl rfl ?_)
  refine O_end [0, 4] (F' := [(0, _), (4, _)]) rfl ?_
  refine W_cond_false rfl ?_
  refine W_skipE ?_
  refine W_seq ?_
  refine W_region ?_
  refine O_go (gn rfl) (St.vl (vl_move rfl) rfl rfl ?_)
  refine O_go (gn rfl) (St.vl (vl_nilCheck rfl) rfl rfl ?_)
  refine O_go (gn rfl) (St.vl (vl_fieldAddr fo67_0 rfl) rfl rfl ?_)
  refine O_go (gn rfl) (St.vl (vl_load ag65 rfl (hb.cell' rfl)) rfl rfl ?_)
  refine O_go (gn rfl) (st_call bd31 rfl rfl rfl rfl (f31 v ls.length vs w hsl (by omega)) ?_)
  rintro v9 w9 ⟨i9, n9, c9⟩
  obtain ⟨p9, q9, rfl, _⟩ := i9.val
  refine O_go (gn rfl) (St.vl (vl_build pl67 zr67 rfl (vs := [_]) rfl (css := [_]) ⟨rfl, trivial⟩ rfl rfl (cs := [_]) rfl) rfl rfl ?_)
  refine O_go (gn rfl) (st_box rfl rfl rfl ?_)
  intro b11 w11 e11 n11 c11 k11
  refine O_go (gn rfl) (St.vl (vl_assign rfl) rfl rfl ?_)
  refine O_end [2] (F' := [(2, _)]) rfl ?_
  refine W_ret ?_
  refine ret1 rfl rfl ?_
  have hs9 := c9.size
  exact ⟨b11, rfl, by omega, ⟨_, k11, vs, i9.chg0 c11, (hal.chg (c9.trans c11) (by simp))⟩, c9.trans c11⟩
end Go.Wk

