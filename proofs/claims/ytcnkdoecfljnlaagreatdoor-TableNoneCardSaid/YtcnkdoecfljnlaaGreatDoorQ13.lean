/-
  slices.Sort of few texts.
  maps.Keys, slices.Sorted.
  slices.Collect, slices.Sorted, table.sorted.
  Layer table: Replace.
  Layer table: Find, Schema.
  Layer table: Copy.
  slices.Concat of lists of places; schema.Sets.
-/
import Derived.Test.YtcnkdoecfljnlaaGreatDoorQ12
set_option linter.all false
namespace Go.Wk
open Go.Proofs
set_option maxRecDepth 10000

theorem u_nan (s : ByteArray) (w : World) : Ret Tryz.prog 260 #[.string s] w fun r w' => r = .bool false ∧ w' = w := by
  refine Ret.of_W (args := [_]) Tryz.func260 rfl rfl rfl rfl ?_

  refine Sr (Oa rfl rfl (O_end [0] (F' := [(0, _)]) rfl (Sr (Om rfl rfl (Om rfl rfl ?_)))))
  refine Og (vl_is (b' := false) (vl_sne rfl rfl) (by simp)) rfl ?_
  refine Oa rfl rfl (O_end [2] (F' := [(2, _)]) rfl (W_ret ?_))
  refine ret1 rfl rfl ?_
  exact ⟨rfl, rfl⟩
theorem u_less (s u : ByteArray) (w : World) : Ret Tryz.prog 223 #[.string s, .string u] w fun r w' => r = .bool (blt s u) ∧ w' = w := by
  refine Ret.of_W (args := [_, _]) Tryz.func223 rfl rfl rfl rfl ?_

  refine Sr (Oa rfl rfl (O_end [0, 1] (F' := [(0, _), (1, _)]) rfl (Sr (Om rfl rfl ?_))))
  refine O_go (gn rfl) (st_call bd260 rfl rfl rfl rfl (u_nan s w) ?_)
  rintro v6 w6 ⟨rfl, rfl⟩
  refine Om rfl rfl (Oz rfl rfl rfl rfl (Oz rfl rfl rfl rfl (Oz rfl rfl rfl rfl (Of rfl rfl rfl (Om rfl rfl ?_)))))
  refine Oy rfl rfl (vl_move rfl) rfl ?_
  refine Oy rfl rfl (vl_move rfl) rfl ?_
  refine Oy rfl rfl (vl_slt rfl rfl) rfl ?_
  refine Of rfl rfl rfl (Oa rfl rfl (O_end [4] (F' := [(4, _)]) rfl (W_ret ?_)))
  refine ret1 rfl rfl ?_
  exact ⟨rfl, rfl⟩
def sv (l : List ByteArray) : List Value := l.map .string
theorem sv_at {l : List ByteArray} {pr tail : List Value} {i : Nat} {a : ByteArray} (h : l[i]? = some a) : (pr ++ (sv l ++ tail))[pr.length + i * 1]? = some (.string a) := by
  have h1 := (List.getElem?_eq_some_iff.1 h).1
  rw [List.getElem?_append_right (by omega), Nat.add_sub_cancel_left, Nat.mul_one, List.getElem?_append_left (by simpa [sv] using h1), sv, List.getElem?_map, h]
  rfl
theorem sv_laid {l : List ByteArray} {pr tail : List Value} {i : Nat} {a : ByteArray} (h : i < l.length) : laid (pr ++ (sv l ++ tail)) (pr.length + i * 1) [.string a] = pr ++ (sv (l.set i a) ++ tail) := by
  have h1 : i < (sv l).length := by simpa [sv] using h
  rw [Nat.mul_one]
  have e : laid (pr ++ (sv l ++ tail)) (pr.length + i) [.string a] = (pr ++ (sv l ++ tail)).set (pr.length + i) (.string a) := by
    rw [List.set_eq_take_append_cons_drop, if_pos (by rw [List.length_append, List.length_append]; omega)]
    simp [laid]
  rw [e, List.set_append_right _ _ (by omega), Nat.add_sub_cancel_left, List.set_append_left _ _ h1]
  simp [sv, List.map_set]
theorem u_insert (b cap : Nat) (l : List ByteArray) (pr tail : List Value) (w : World) (hb : Blk w b 9 (pr ++ (sv l ++ tail))) (h1 : 1 ≤ l.length) (hn : l.length ≤ 1048576) :
    Ret Tryz.prog 217 #[.slice (some ⟨b, pr.length, none⟩) l.length cap, .int .i64 0, .int .i64 l.length] w fun _ w' => ∃ l', Blk w' b 9 (pr ++ (sv l' ++ tail)) ∧ l'.Perm l ∧ SrtX l' l'.length l'.length ∧ Chg [b] w w' := by
  refine Ret.of_W (args := [_, _, _]) Tryz.func217 rfl rfl rfl rfl ?_

  refine Sr (Om rfl rfl ?_)
  refine Og (vl_eq (v' := .int .i64 ((1 : Nat) : Int)) (vl_add rfl rfl (by omega)) (by congr 1)) rfl ?_
  refine Oa rfl rfl (O_end [0, 1, 2, 6] (F' := [(0, _), (1, _), (2, _), (6, _)]) rfl (W_block ?_))
  refine W_loop [0, 1, 2, 6] (fun m F wx => ∃ (i : Nat) (x : List ByteArray), m = l.length - i ∧ 1 ≤ i ∧ i ≤ l.length ∧ F = [(0, .slice (some ⟨b, pr.length, none⟩) l.length cap), (1, .int .i64 0), (2, .int .i64 l.length), (6, .int .i64 i)] ∧ Blk wx b 9 (pr ++ (sv x ++ tail)) ∧ x.Perm l ∧ SrtX x i i ∧ Chg [b] w wx) (m := l.length - 1) ⟨1, l, rfl, Nat.le_refl _, h1, rfl, hb, List.Perm.refl _, SrtX.one _ _, Chg.refl _ _⟩ ?_
  rintro m F wx ⟨i, x, rfl, hi1, hi, rfl, hbx, hp, hs, hcx⟩
  have hxl := hp.length_eq
  refine W_seq (Sr (Om rfl rfl (Om rfl rfl (Og (vl_lss rfl rfl) rfl (O_end [0, 1, 2, 6, 12] (F' := [(0, _), (1, _), (2, _), (6, _), (12, _)]) rfl ?_)))))
  refine W_cond rfl (fun hT => ?_) (fun hF => ?_)
  · refine W_skipE ?_
    have hlt : i < l.length := by have := of_decide_eq_true hT; omega
    refine W_seq (W_block (Sr (Om rfl rfl (Oa rfl rfl (O_end [0, 1, 2, 6, 7] (F' := [(0, _), (1, _), (2, _), (6, _), (7, _)]) rfl (W_block ?_))))))
    refine W_loop [0, 1, 2, 6, 7] (fun m F wy => ∃ (j : Nat) (y : List ByteArray), m = j ∧ j ≤ i ∧ F = [(0, .slice (some ⟨b, pr.length, none⟩) l.length cap), (1, .int .i64 0), (2, .int .i64 l.length), (6, .int .i64 i), (7, .int .i64 j)] ∧ Blk wy b 9 (pr ++ (sv y ++ tail)) ∧ y.Perm l ∧ SrtX y (i + 1) j ∧ Chg [b] w wy) (m := i) ⟨i, x, rfl, Nat.le_refl _, rfl, hbx, hp, hs.next, hcx⟩ ?_
    rintro j F wy ⟨j0, y, rfl, hj, rfl, hby, hpy, hsy, hcy⟩
    have hyl := hpy.length_eq
    refine W_seq (W_seq ?_)
    by_cases hj0 : j = 0
    · subst hj0
      refine W_draw (fun wz => Chg [] wy wz) mix (by kernel_rfl) (Chg.drew [] _) ?_
      refine Tm rfl rfl (Tm rfl rfl ?_)
      refine t_pure rfl (gn rfl) (fun _ => vl_is (b' := false) (vl_gtr rfl rfl) (decide_eq_false (by omega))) rfl rfl ?_
      refine Tm rfl rfl (Tz rfl rfl rfl rfl (Tz rfl rfl rfl rfl (Tz rfl rfl rfl rfl (Tz rfl rfl rfl rfl (Tz rfl rfl rfl rfl (Tz rfl rfl rfl rfl (Tz rfl rfl rfl rfl (Tz rfl rfl rfl rfl (Tz rfl rfl rfl rfl (Tz rfl rfl rfl rfl ?_))))))))))
      refine t_pure rfl (gn rfl) (fun _ => vl_pick_f rfl rfl) rfl rfl ?_
      refine T_end [0, 1, 2, 6, 7, 30] (F' := [(0, _), (1, _), (2, _), (6, _), (7, _), (30, _)]) rfl ?_
      refine W_cond_false rfl ?_
      refine W_exit ?_
      repeat (first | refine then_exit ?_ | refine blockF_other rfl ?_)
      refine blockF_exit _ ?_
      refine block_normal (W_region (Om rfl rfl ?_))
      refine Og (vl_eq (v' := .int .i64 ((i + 1 : Nat) : Int)) (vl_add rfl rfl (by omega)) (by congr 1)) rfl ?_
      refine Oa rfl rfl ?_
      refine O_endN [0, 1, 2, 6] (F' := [(0, _), (1, _), (2, _), (6, _)]) rfl ?_
      exact ⟨l.length - (i + 1), by omega, i + 1, y, rfl, by omega, by omega, rfl, hby.chg0 (Chg.drew [] _), hpy, hsy.done (fun _ _ h => absurd rfl h) (by omega), hcy.trans (Chg.drew [] _)⟩
    · have hya : y[j - 1]? = some (y[j - 1]'(by omega)) := by simp
      have hyb : y[j]? = some (y[j]'(by omega)) := by simp
      generalize y[j - 1]'(by omega) = a at hya
      generalize y[j]'(by omega) = c at hyb
      have hca : (pr ++ (sv y ++ tail))[pr.length + (j - 1) * 1]? = some (.string a) := sv_at hya
      have hcb : (pr ++ (sv y ++ tail))[pr.length + j * 1]? = some (.string c) := sv_at hyb
      cases hlt2 : blt c a with
      | false =>
        refine W_draw (fun wz => Chg [] wy wz) mix (by kernel_rfl) (Chg.drew [] _) ?_
        refine Tm rfl rfl (Tm rfl rfl ?_)
        refine t_pure rfl (gn rfl) (fun _ => vl_is (b' := true) (vl_gtr rfl rfl) (decide_eq_true (by omega))) rfl rfl ?_
        refine Tm rfl rfl (Tq rfl rfl rfl rfl (Tq rfl rfl rfl rfl ?_))
        refine t_pure rfl (gy rfl rfl rfl) (fun _ => vl_indexAddr sl108 sz9 rfl rfl _ rfl (show j < l.length by omega)) rfl rfl ?_
        refine t_read rfl (gy rfl rfl rfl) (fun wz hz => vl_load ag9 rfl ((hby.chg0 hz).cell' hcb)) rfl rfl ?_
        refine Tq rfl rfl rfl rfl (Tq rfl rfl rfl rfl ?_)
        refine t_pure rfl (gy rfl rfl rfl) (fun _ => vl_eq (v' := .int .i64 ((j - 1 : Nat) : Int)) (vl_sub rfl rfl (by omega)) (by congr 1 <;> omega)) rfl rfl ?_
        refine t_pure rfl (gy rfl rfl rfl) (fun _ => vl_indexAddr sl108 sz9 rfl rfl _ rfl (show j - 1 < l.length by omega)) rfl rfl ?_
        refine t_read rfl (gy rfl rfl rfl) (fun wz hz => vl_load ag9 rfl ((hby.chg0 hz).cell' hca)) rfl rfl ?_
        refine t_st rfl (gy rfl rfl rfl) (st_call bd223 rfl rfl rfl rfl (u_less c a _) ?_)
        rintro v29 w29 ⟨rfl, rfl⟩
        refine ⟨.inl (Chg.drew [] _), ?_⟩
        refine t_pure rfl (gn rfl) (fun _ => vl_pick_t rfl rfl) rfl rfl ?_
        refine T_end [0, 1, 2, 6, 7, 30] (F' := [(0, _), (1, _), (2, _), (6, _), (7, _), (30, _)]) rfl ?_
        rw [hlt2]
        refine W_cond_false rfl ?_
        refine W_exit ?_
        repeat (first | refine then_exit ?_ | refine blockF_other rfl ?_)
        refine blockF_exit _ ?_
        refine block_normal (W_region (Om rfl rfl ?_))
        refine Og (vl_eq (v' := .int .i64 ((i + 1 : Nat) : Int)) (vl_add rfl rfl (by omega)) (by congr 1)) rfl ?_
        refine Oa rfl rfl ?_
        refine O_endN [0, 1, 2, 6] (F' := [(0, _), (1, _), (2, _), (6, _)]) rfl ?_
        refine ⟨l.length - (i + 1), by omega, i + 1, y, rfl, by omega, by omega, rfl, hby.chg0 (Chg.drew [] _), hpy, hsy.done (fun x' y' _ e1 e2 => ?_) (by omega), hcy.trans (Chg.drew [] _)⟩
        rw [hya] at e1
        rw [hyb] at e2
        cases e1; cases e2
        exact hlt2
      | true =>
        refine W_draw (fun wz => Chg [] wy wz) mix (by kernel_rfl) (Chg.drew [] _) ?_
        refine Tm rfl rfl (Tm rfl rfl ?_)
        refine t_pure rfl (gn rfl) (fun _ => vl_is (b' := true) (vl_gtr rfl rfl) (decide_eq_true (by omega))) rfl rfl ?_
        refine Tm rfl rfl (Tq rfl rfl rfl rfl (Tq rfl rfl rfl rfl ?_))
        refine t_pure rfl (gy rfl rfl rfl) (fun _ => vl_indexAddr sl108 sz9 rfl rfl _ rfl (show j < l.length by omega)) rfl rfl ?_
        refine t_read rfl (gy rfl rfl rfl) (fun wz hz => vl_load ag9 rfl ((hby.chg0 hz).cell' hcb)) rfl rfl ?_
        refine Tq rfl rfl rfl rfl (Tq rfl rfl rfl rfl ?_)
        refine t_pure rfl (gy rfl rfl rfl) (fun _ => vl_eq (v' := .int .i64 ((j - 1 : Nat) : Int)) (vl_sub rfl rfl (by omega)) (by congr 1 <;> omega)) rfl rfl ?_
        refine t_pure rfl (gy rfl rfl rfl) (fun _ => vl_indexAddr sl108 sz9 rfl rfl _ rfl (show j - 1 < l.length by omega)) rfl rfl ?_
        refine t_read rfl (gy rfl rfl rfl) (fun wz hz => vl_load ag9 rfl ((hby.chg0 hz).cell' hca)) rfl rfl ?_
        refine t_st rfl (gy rfl rfl rfl) (st_call bd223 rfl rfl rfl rfl (u_less c a _) ?_)
        rintro v29 w29 ⟨rfl, rfl⟩
        refine ⟨.inl (Chg.drew [] _), ?_⟩
        refine t_pure rfl (gn rfl) (fun _ => vl_pick_t rfl rfl) rfl rfl ?_
        refine T_end [0, 1, 2, 6, 7, 30] (F' := [(0, _), (1, _), (2, _), (6, _), (7, _), (30, _)]) rfl ?_
        rw [hlt2]
        refine W_cond_true rfl (W_skipE (W_seq (W_block ?_)))
        have hd : Chg [] wy wy.drew.drew := (Chg.drew [] _).trans (Chg.drew [] _)
        refine W_draw (fun wz => Chg [] wy wz) mix (by kernel_rfl) hd ?_
        refine Tm rfl rfl (Tm rfl rfl (Tm rfl rfl (Tm rfl rfl ?_)))
        refine t_pure rfl (gn rfl) (fun _ => vl_eq (v' := .int .i64 ((j - 1 : Nat) : Int)) (vl_sub rfl rfl (by omega)) (by congr 1 <;> omega)) rfl rfl ?_
        refine Tm rfl rfl (Tm rfl rfl ?_)
        refine t_pure rfl (gn rfl) (fun _ => vl_eq (v' := .int .i64 ((j - 1 : Nat) : Int)) (vl_sub rfl rfl (by omega)) (by congr 1 <;> omega)) rfl rfl ?_
        refine t_pure rfl (gn rfl) (fun _ => vl_indexAddr sl108 sz9 rfl rfl _ rfl (show j - 1 < l.length by omega)) rfl rfl ?_
        refine t_read rfl (gn rfl) (fun wz hz => vl_load ag9 rfl ((hby.chg0 hz).cell' hca)) rfl rfl ?_
        refine Tm rfl rfl (Tm rfl rfl ?_)
        refine t_pure rfl (gn rfl) (fun _ => vl_indexAddr sl108 sz9 rfl rfl _ rfl (show j < l.length by omega)) rfl rfl ?_
        refine t_read rfl (gn rfl) (fun wz hz => vl_load ag9 rfl ((hby.chg0 hz).cell' hcb)) rfl rfl ?_
        refine t_pure rfl (gn rfl) (fun _ => vl_indexAddr sl108 sz9 rfl rfl _ rfl (show j < l.length by omega)) rfl rfl ?_
        refine t_st rfl (gn rfl) (st_store sz9 rfl rfl rfl rfl (hby.chg0 hd) (by simp [sv]; omega) (by simp [Value.oneCell']) ?_)
        intro wA nA cA kA
        refine ⟨.inr (by kernel_rfl), ?_⟩
        refine t_pure rfl (gn rfl) (fun _ => vl_indexAddr sl108 sz9 rfl rfl _ rfl (show j - 1 < l.length by omega)) rfl rfl ?_
        refine t_st rfl (gn rfl) (st_store sz9 rfl rfl rfl rfl (sv_laid (pr := pr) (a := a) (show j < y.length by omega) ▸ kA) (by simp [sv]; omega) (by simp [Value.oneCell']) ?_)
        intro wB nB cB kB
        refine ⟨.inr (by kernel_rfl), ?_⟩
        refine T_endN [0, 1, 2, 6, 7] (F' := [(0, _), (1, _), (2, _), (6, _), (7, _)]) rfl ?_
        have kB : Blk wB b 9 (pr ++ (sv (swB y j a c) ++ tail)) := by
          have e := sv_laid (pr := pr) (tail := tail) (l := y.set j a) (i := j - 1) (a := c) (by rw [List.length_set]; omega)
          exact e ▸ kB
        refine block_normal (W_region (Om rfl rfl ?_))
        refine Og (vl_eq (v' := .int .i64 ((j - 1 : Nat) : Int)) (vl_sub rfl rfl (by omega)) (by congr 1 <;> omega)) rfl ?_
        refine Oa rfl rfl ?_
        refine O_endN [0, 1, 2, 6, 7] (F' := [(0, _), (1, _), (2, _), (6, _), (7, _)]) rfl ?_
        refine ⟨j - 1, by omega, j - 1, swB y j a c, rfl, by omega, rfl, kB, (swB_perm hya hyb).trans hpy, hsy.step hj0 (by omega) hya hyb hlt2, ?_⟩
        exact ((hcy.trans hd).transS cA).transS cB
  · refine W_exit ?_
    repeat (first | refine then_exit ?_ | refine blockF_other rfl ?_)
    refine blockF_exit _ ?_
    refine end0 rfl ?_
    have he : i = l.length := by have := of_decide_eq_false hF; omega
    rw [← hxl] at he
    subst he
    exact ⟨x, hbx, hp, hs, hcx⟩
theorem u_pdq (b cap : Nat) (l : List ByteArray) (pr tail : List Value) (lim : Int) (w : World) (hb : Blk w b 9 (pr ++ (sv l ++ tail))) (h1 : 1 ≤ l.length) (hn : l.length ≤ 12) :
    Ret Tryz.prog 157 #[.slice (some ⟨b, pr.length, none⟩) l.length cap, .int .i64 0, .int .i64 l.length, .int .i64 lim] w fun _ w' => ∃ l', Blk w' b 9 (pr ++ (sv l' ++ tail)) ∧ l'.Perm l ∧ SrtX l' l'.length l'.length ∧ Chg [b] w w' := by
  refine Ret.of_W (args := [_, _, _, _]) Tryz.func157 rfl rfl rfl rfl ?_

  refine Sr (Oa rfl rfl (O_end [0, 1, 2, 3, 8] (F' := [(0, _), (1, _), (2, _), (3, _), (8, _)]) rfl (Sr (Oa rfl rfl (O_end [0, 1, 2, 3, 8, 9] (F' := [(0, _), (1, _), (2, _), (3, _), (8, _), (9, _)]) rfl (W_block ?_))))))
  refine W_loop [0, 1, 2, 3, 8, 9] (fun m F wx => m = 0 ∧ F = [(0, .slice (some ⟨b, pr.length, none⟩) l.length cap), (1, .int .i64 0), (2, .int .i64 l.length), (3, .int .i64 lim), (8, .bool true), (9, .bool true)] ∧ wx = w) (m := 0) ⟨rfl, rfl, rfl⟩ ?_
  rintro m F wx ⟨rfl, rfl, rfl⟩
  refine W_block (Sr (Om rfl rfl (Om rfl rfl ?_)))
  refine Og (vl_eq (v' := .int .i64 ((l.length : Nat) : Int)) (vl_sub rfl rfl (by omega)) (by congr 1 <;> omega)) rfl ?_
  refine Oa rfl rfl (O_end [0, 1, 2, 3, 8, 9, 10] (F' := [(0, _), (1, _), (2, _), (3, _), (8, _), (9, _), (10, _)]) rfl (W_seq (Sr (Om rfl rfl ?_))))
  refine Og (vl_is (b' := true) (vl_leq rfl rfl) (decide_eq_true (by omega))) rfl ?_
  refine O_end [0, 1, 2, 3, 8, 9, 10, 23] (F' := [(0, _), (1, _), (2, _), (3, _), (8, _), (9, _), (10, _), (23, _)]) rfl (W_cond_true rfl (Sr (Om rfl rfl (Om rfl rfl (Om rfl rfl ?_)))))
  refine O_go (gn rfl) (st_call bd217 rfl rfl rfl rfl (u_insert b cap l pr tail _ hb h1 (by omega)) ?_)
  rintro v27 w27 hq
  refine O_end [] (F' := []) rfl (W_ret ?_)
  repeat (first | refine then_ret ?_ | refine block_ret ?_)
  refine ret0 rfl ?_
  exact hq
theorem u_bits (n : Nat) (w : World) (hn : n < 18446744073709551616) : Ret Tryz.prog 158 #[.int .u64 n] w fun r w' => ∃ i : Int, r = .int .i64 i ∧ w' = w := by
  refine Ret.of_W (args := [_]) Tryz.func158 rfl rfl rfl rfl ?_

  refine Sr (Oa rfl rfl (O_end [0] (F' := [(0, _)]) rfl (W_seq (W_cond_false rfl (W_skipE (Sr (Om rfl rfl ?_)))))))
  refine O_go (gn rfl) (st_call bd227 rfl rfl rfl rfl (b_len64 n w hn) ?_)
  rintro v7 w7 ⟨L, rfl, _, _, rfl⟩
  refine Oa rfl rfl (O_end [2] (F' := [(2, _)]) rfl (W_ret ?_))
  refine ret1 rfl rfl ?_
  exact ⟨_, rfl, rfl⟩
theorem u_sort (b cap : Nat) (l : List ByteArray) (pr tail : List Value) (w : World) (hb : Blk w b 9 (pr ++ (sv l ++ tail))) (h1 : 1 ≤ l.length) (hn : l.length ≤ 12) :
    Ret Tryz.prog 127 #[.slice (some ⟨b, pr.length, none⟩) l.length cap] w fun _ w' => ∃ l', Blk w' b 9 (pr ++ (sv l' ++ tail)) ∧ l'.Perm l ∧ SrtX l' l'.length l'.length ∧ Chg [b] w w' := by
  refine Ret.of_W (args := [_]) Tryz.func127 rfl rfl rfl rfl ?_

  refine Sr (Om rfl rfl (Og (vl_len sl108 rfl) rfl (Oa rfl rfl (O_end [0, 2] (F' := [(0, _), (2, _)]) rfl (W_region (Om rfl rfl (Om rfl rfl (Om rfl rfl ?_))))))))
  refine Og (vl_convn it227_u64 it3_i64 rfl (u64_wrapn (n := l.length) (by omega))) rfl ?_
  refine O_go (gn rfl) (st_call bd158 rfl rfl rfl rfl (u_bits l.length w (by omega)) ?_)
  rintro v9 w9 ⟨i9, rfl, rfl⟩
  refine O_go (gn rfl) (st_call bd157 rfl rfl rfl rfl (u_pdq b cap l pr tail i9 _ hb h1 hn) ?_)
  rintro v10 w10 hq
  refine O_endN [] (F' := []) rfl ?_
  refine end0 rfl ?_
  exact hq
theorem u_insert0 (p : Option Addr) (c : Nat) (w : World) : Ret Tryz.prog 217 #[.slice p 0 c, .int .i64 0, .int .i64 0] w fun _ w' => w' = w := by
  refine Ret.of_W (args := [_, _, _]) Tryz.func217 rfl rfl rfl rfl ?_

  refine Sr (Om rfl rfl ?_)
  refine Og (vl_eq (v' := .int .i64 ((1 : Nat) : Int)) (vl_add rfl rfl (by omega)) (by congr 1)) rfl ?_
  refine Oa rfl rfl (O_end [0, 1, 2, 6] (F' := [(0, _), (1, _), (2, _), (6, _)]) rfl (W_block ?_))
  refine W_loop [0, 1, 2, 6] (fun m F wx => m = 0 ∧ F = [(0, .slice p 0 c), (1, .int .i64 0), (2, .int .i64 0), (6, .int .i64 1)] ∧ wx = w) (m := 0) ⟨rfl, rfl, rfl⟩ ?_
  rintro m F wx ⟨rfl, rfl, rfl⟩
  refine W_seq (Sr (Om rfl rfl (Om rfl rfl ?_)))
  refine Og (vl_is (b' := false) (vl_lss rfl rfl) (decide_eq_false (by omega))) rfl ?_
  refine O_end [0, 1, 2, 6, 12] (F' := [(0, _), (1, _), (2, _), (6, _), (12, _)]) rfl (W_cond_false rfl ?_)
  refine W_exit ?_
  repeat (first | refine then_exit ?_ | refine blockF_other rfl ?_)
  refine blockF_exit _ ?_
  refine end0 rfl ?_
  rfl
theorem u_pdq0 (p : Option Addr) (c : Nat) (lim : Int) (w : World) : Ret Tryz.prog 157 #[.slice p 0 c, .int .i64 0, .int .i64 0, .int .i64 lim] w fun _ w' => w' = w := by
  refine Ret.of_W (args := [_, _, _, _]) Tryz.func157 rfl rfl rfl rfl ?_

  refine Sr (Oa rfl rfl (O_end [0, 1, 2, 3, 8] (F' := [(0, _), (1, _), (2, _), (3, _), (8, _)]) rfl (Sr (Oa rfl rfl (O_end [0, 1, 2, 3, 8, 9] (F' := [(0, _), (1, _), (2, _), (3, _), (8, _), (9, _)]) rfl (W_block ?_))))))
  refine W_loop [0, 1, 2, 3, 8, 9] (fun m F wx => m = 0 ∧ F = [(0, .slice p 0 c), (1, .int .i64 0), (2, .int .i64 0), (3, .int .i64 lim), (8, .bool true), (9, .bool true)] ∧ wx = w) (m := 0) ⟨rfl, rfl, rfl⟩ ?_
  rintro m F wx ⟨rfl, rfl, rfl⟩
  refine W_block (Sr (Om rfl rfl (Om rfl rfl ?_)))
  refine Og (vl_eq (v' := .int .i64 ((0 : Nat) : Int)) (vl_sub rfl rfl (by omega)) (by congr 1 <;> omega)) rfl ?_
  refine Oa rfl rfl (O_end [0, 1, 2, 3, 8, 9, 10] (F' := [(0, _), (1, _), (2, _), (3, _), (8, _), (9, _), (10, _)]) rfl (W_seq (Sr (Om rfl rfl ?_))))
  refine Og (vl_is (b' := true) (vl_leq rfl rfl) (decide_eq_true (by omega))) rfl ?_
  refine O_end [0, 1, 2, 3, 8, 9, 10, 23] (F' := [(0, _), (1, _), (2, _), (3, _), (8, _), (9, _), (10, _), (23, _)]) rfl (W_cond_true rfl (Sr (Om rfl rfl (Om rfl rfl (Om rfl rfl ?_)))))
  refine O_go (gn rfl) (st_call bd217 rfl rfl rfl rfl (u_insert0 p c _) ?_)
  rintro v27 w27 rfl
  refine O_end [] (F' := []) rfl (W_ret ?_)
  repeat (first | refine then_ret ?_ | refine block_ret ?_)
  refine ret0 rfl ?_
  rfl
/-- Nothing is sorted. -/
theorem u_sort0 (p : Option Addr) (c : Nat) (w : World) : Ret Tryz.prog 127 #[.slice p 0 c] w fun _ w' => w' = w := by
  refine Ret.of_W (args := [_]) Tryz.func127 rfl rfl rfl rfl ?_

  refine Sr (Om rfl rfl (Og (vl_len sl108 rfl) rfl (Oa rfl rfl (O_end [0, 2] (F' := [(0, _), (2, _)]) rfl (W_region (Om rfl rfl (Om rfl rfl (Om rfl rfl ?_))))))))
  refine Og (vl_convn it227_u64 it3_i64 rfl rfl) rfl ?_
  refine O_go (gn rfl) (st_call bd158 rfl rfl rfl rfl (u_bits 0 w (by omega)) ?_)
  rintro v9 w9 ⟨i9, rfl, rfl⟩
  refine O_go (gn rfl) (st_call bd157 rfl rfl rfl rfl (u_pdq0 p c i9 _) ?_)
  rintro v10 w10 rfl
  refine O_endN [] (F' := []) rfl ?_
  refine end0 rfl ?_
  rfl
end Go.Wk

namespace Go.Wk
open Go.Proofs
set_option maxRecDepth 10000

theorem u_keys (b : Nat) (w : World) : Ret Tryz.prog 82 #[.map (some b)] w fun r w' => ∃ b1, r = .func (.func 128) #[] #[.pointer (some ⟨b1, 0, none⟩)] ∧ w.heap.size ≤ b1 ∧ Blk w' b1 110 [.map (some b)] ∧ Chg [] w w' := by
  refine Ret.of_W (args := [_]) Tryz.func82 rfl rfl rfl rfl ?_

  refine Sr ?_
  refine O_go (gn rfl) (st_box rfl rfl rfl ?_)
  intro b1 w1 e1 n1 c1 k1
  refine Oa rfl rfl (O_end [1] (F' := [(1, _)]) rfl (Sr ?_))
  refine Og (vl_func rfl rfl) rfl ?_
  refine Oa rfl rfl (O_end [2] (F' := [(2, _)]) rfl (W_ret ?_))
  refine ret1 rfl rfl ?_
  exact ⟨b1, rfl, by omega, k1, c1⟩
theorem Chg.grown1 {w w' : World} {r : Nat} (h : Chg [r] w w') : w.grownBy w' (some r) := ⟨h.os, h.tape, h.output, h.size, fun k hk hn => h.block k hk (by simp; intro e; exact hn (by rw [e]))⟩
theorem IsIt.kr {K : Type} [DecidableEq K] {κ : KeyT K} {S : List Nat} {keep : TypeId → Bool} {B : Nat} {w w' : World} {r b : Nat} {es left : List (K × Value)} {last : Option (K × Value)} (h : IsIt κ w r b es left last) (hk : Kr S keep B w w') (hr : B ≤ r) (hb : b < B) (hbS : b ∉ S) : IsIt κ w' r b es left last := by
  obtain ⟨a, c, s, h1, h2, h3⟩ := h
  exact ⟨a, c, s, hk.iters r _ hr h1 rfl, (hk.low b hb hbS).trans h2, h3⟩
theorem IsIt.walk {K : Type} [DecidableEq K] {κ : KeyT K} {w : World} {r b : Nat} {es left : List (K × Value)} {last : Option (K × Value)} (h : IsIt κ w r b es left last) : ∃ o : Obj, w.heap[r]? = some o ∧ o.isWalk = true := by
  obtain ⟨a, c, s, h1, _⟩ := h
  exact ⟨_, h1, rfl⟩
theorem u_seq (w : World) (b1 bm : Nat) (es : List (ByteArray × Value)) (S0 : List Nat) (keep : TypeId → Bool) (h1 : Blk w b1 110 [.map (some bm)]) (hm : IsMapK strK w bm es) (k1 : b1 ∉ S0) (km : bm ∉ S0) :
    SeqR Tryz.prog 128 #[.pointer (some ⟨b1, 0, none⟩)] (fun k : ByteArray => #[.string k]) S0 keep (fun _ _ => True) (fun xs _ => xs.Perm (ksOf es)) (fun _ _ => True) es.length w := by
  intro l J Jx W hcw hJ hJx hY h0
  have hab : ∀ {pre : List ByteArray} {W1 W2 : World}, Chg [] W1 W2 → J pre W1 → J pre W2 := fun hc hj => hJ _ _ _ none hj hc.grown0 (fun _ e => by cases e)
  have hkw : Kp S0 w.heap.size w W := ⟨hcw.size, fun k hk _ => hcw.block k hk (by simp)⟩
  refine CallsIn.mono (R := fun e W' => ∃ u, e = .returned u ∧ (fun (_ : Value) W' => (∃ xs : List ByteArray, xs.Perm (ksOf es) ∧ J xs W') ∨ (∃ pre, True ∧ Jx pre W')) u W') ?_ (fun e W' ⟨u, he, h⟩ => ⟨⟨u, he⟩, h⟩)
  refine CallsIn.of_WX (args := [_, _]) Tryz.func128 rfl rfl rfl rfl (WX_of_W ?_)

  have h1W := h1.chg0 hcw
  refine Sr ?_
  refine Og (vl_load ag110 rfl (h1W.cell' rfl)) rfl ?_
  refine O_go (gn rfl) (st_rangeK mp110 rfl (hm.chg0 hcw) rfl ?_)
  intro b5 w5 e5 n5 c5 k5
  refine O_end [0, 5] (F' := [(0, _), (5, _)]) rfl (W_block ?_)
  have hkw5 : Kp S0 w.heap.size w w5 := ⟨Nat.le_trans hkw.1 c5.size, fun k hk hn => (c5.block k (Nat.lt_of_lt_of_le hk hkw.1) (by simp)).trans (hkw.2 k hk hn)⟩
  refine W_loop [0, 5] (fun m F wx => ∃ (pre : List ByteArray) (left : List (ByteArray × Value)) (last : Option (ByteArray × Value)), m = left.length ∧ F = [(0, .func (.yield l) #[] #[]), (5, .pointer (some ⟨b5, 0, none⟩))] ∧ IsIt strK wx b5 bm es left last ∧ Kp S0 w.heap.size w wx ∧ J pre wx ∧ (pre ++ ksOf left).Perm (ksOf es)) (m := es.length) ⟨[], es, none, rfl, rfl, k5, hkw5, hab c5 h0, by simp⟩ ?_
  rintro m F wx ⟨pre, left, last, rfl, rfl, hit, hkx, hJ0, hper⟩
  have hs1 := hkw.1
  cases hleft : left with
  | nil =>
    refine Sr ?_
    refine O_go (gn rfl) (st_nextK rfl hit rfl (fun _ => ?_) (fun p l1 l2 w' h => absurd (hleft.symm.trans h) (by simp)))
    skip
    refine Oe rfl rfl rfl (O_end [0, 5, 7] (F' := [(0, _), (5, _), (7, _)]) rfl (W_seq (W_cond_false rfl ?_)))
    refine W_exit ?_
    repeat (first | refine then_exit ?_ | refine blockF_other rfl ?_)
    refine blockF_exit _ ?_
    refine end0 rfl ?_
    rw [hleft] at hper
    exact .inl ⟨pre, by simpa [ksOf] using hper, hJ0⟩
  | cons p0 l0 =>
    refine Sr ?_
    refine O_go (gn rfl) (st_nextK rfl hit rfl (fun h => absurd (hleft.symm.trans h) (by simp)) ?_)
    intro p l1 l2 w6 e6 n6 c6 k6
    refine Oe rfl rfl rfl (O_end [0, 5, 7] (F' := [(0, _), (5, _), (7, _)]) rfl (W_seq (W_cond_true rfl (W_skipE (W_block (Sr ?_))))))
    refine Og (vl_entryK rfl k6) rfl ?_
    refine Oe rfl rfl rfl (Oa rfl rfl (O_end [0, 3, 5] (F' := [(0, _), (3, _), (5, _)]) rfl ?_))
    have hJ6 : J pre w6 := hJ _ _ _ (some b5) hJ0 c6.grown1 (fun r e => by cases e; exact ⟨by omega, hit.walk⟩)
    have hk6 : Kp S0 w.heap.size w w6 := ⟨Nat.le_trans hkx.1 c6.size, fun k hk hn => (c6.block k (Nat.lt_of_lt_of_le hk hkx.1) (by simp; omega)).trans (hkx.2 k hk hn)⟩
    have hlen : pre.length + left.length = es.length := by
      have := hper.length_eq
      simpa [ksOf] using this
    have hy := hY pre p.1 w6 hJ6 trivial (by rw [← hlen, hleft]; simp)
    refine W_seq ?_
    refine W_regionX ?_
    refine Xm rfl rfl (Xm rfl rfl ?_)
    refine X_yield (gn rfl) rfl rfl rfl hy ?_
    rintro v12 w12 hR12
    obtain ⟨b12, rfl, hb12⟩ := yb hR12
    refine ⟨_, rfl, ?_⟩
    refine X_go (gn rfl) rfl (St.vl (vl_not rfl) rfl rfl ?_)
    refine X_end [0, 5, 13] (F' := [(0, _), (5, _), (13, _)]) rfl ?_
    rcases hb12 with ⟨rfl, hJ12, hk12⟩ | ⟨rfl, hJ12⟩
    · refine W_cond_false rfl (W_skip (block_normal ?_))
      refine ⟨(l1 ++ l2).length, by rw [← hleft, e6]; simp, pre ++ [p.1], l1 ++ l2, some p, rfl, rfl, k6.kr hk12 (by omega) hm.lt km, hk6.trans hk12.kp, hJ12, ?_⟩
      refine List.Perm.trans ?_ hper
      rw [e6, List.append_assoc]
      refine List.Perm.append_left pre ?_
      simp only [ksOf, List.map_append, List.map_cons, List.singleton_append]
      exact List.perm_middle.symm
    · refine W_cond_true rfl (W_ret ?_)
      repeat (first | refine then_ret ?_ | refine block_ret ?_)
      refine ret0 rfl ?_
      exact .inr ⟨_, trivial, hJ12⟩
end Go.Wk

namespace Go.Wk
open Go.Proofs
set_option maxRecDepth 10000

theorem IsSl.notD {w : World} {e k n D : Nat} {v : Value} {xs : List Value} {x : Option (List Deferred)} (h : IsSl w e k v n xs) (hD : w.heap[D]? = some (.deferred x)) : ∀ b ∈ blkOf v, b ∉ [D] := by
  rcases h with ⟨rfl, _, _⟩ | ⟨b, off, cap, cc, rfl, hs⟩
  · simp [blkOf]
  · intro y hy hm
    simp [blkOf] at hy
    simp at hm
    have := hs.blk
    rw [← hm, hy, show w.heap[b]? = _ from this] at hD
    cases hD
theorem u_append (b1 bm : Nat) (es : List (ByteArray × Value)) (w : World) (h1 : Blk w b1 110 [.map (some bm)]) (hm : IsMapK strK w bm es) (hn : es.length ≤ 1048576) :
    Ret Tryz.prog 156 #[.slice none 0 0, .func (.func 128) #[] #[.pointer (some ⟨b1, 0, none⟩)]] w fun r w' => ∃ l : List ByteArray, l.Perm (ksOf es) ∧ IsSl w' 9 1 r l.length (sv l) ∧ (∀ b ∈ blkOf r, w.heap.size ≤ b) ∧ Chg [] w w' := by
  refine Ret.of_WM (args := [_, _]) Tryz.func156 rfl rfl rfl rfl ?_

  refine Sr ?_
  refine O_go (gn rfl) (st_box rfl rfl rfl ?_)
  intro b2 w2 e2 n2 c2 k2
  refine Oa rfl rfl (O_end [1, 2] (F' := [(1, _), (2, _)]) rfl ?_)
  have k2 : Blk w2 b2 108 [.slice none 0 0] := k2
  have h1lt := h1.lt
  have hmlt := hm.lt
  refine W_seq_cut (fun F wx => ∃ (D : Nat) (f6 : Value), F = [(1000000, .int .i64 D), (2, .pointer (some ⟨b2, 0, none⟩)), (6, f6)] ∧ w.heap.size ≤ D ∧ wx.heap[D]? = some (.deferred (some [])) ∧ ∃ (l : List ByteArray) (u : Value), Blk wx b2 108 [u] ∧ l.Perm (ksOf es) ∧ IsSl wx 9 1 u l.length (sv l) ∧ (∀ b ∈ blkOf u, w.heap.size ≤ b) ∧ Chg [] w wx) ?_ ?_
  · refine Sr (Om rfl rfl (O_end [2, 6] (F' := [(2, _), (6, _)]) rfl (W_block ?_)))
    refine W_rangeR (α := ByteArray) (gf := 128) (lb := [.pointer (some ⟨b1, 0, none⟩)]) (encs := fun k : ByteArray => #[.string k]) (S0 := [b2]) (keep := fun _ => false) (N := es.length)
      (fun pre W => ∃ u, Blk W b2 108 [u] ∧ IsSl W 9 1 u pre.length (sv pre) ∧ (∀ b ∈ blkOf u, w2.heap.size ≤ b) ∧ Chg [b2] w2 W ∧ w2.heap.size ≤ W.heap.size)
      (fun _ _ _ => False)
      (fun k => [(7, .string k), (2, .pointer (some ⟨b2, 0, none⟩)), (6, .func (.func 128) #[] #[.pointer (some ⟨b1, 0, none⟩)])])
      (fun k => [(2, .pointer (some ⟨b2, 0, none⟩)), (5, .string k), (7, .string k)])
      rfl bd128 (u_seq w2 b1 bm es [b2] _ (h1.chg0 c2) (hm.chg0 c2) ?_ ?_) (fun _ => rfl) (fun _ _ _ _ h => h) (fun _ _ _ _ h => h) (fun _ _ _ _ h => h) ?_ (fun _ _ _ _ _ h => h.elim) ?_ (fun _ _ h => h.choose_spec.2.2.2.2) ?_ ?_ ?_ ?_ (fun _ _ _ _ _ _ h => h.elim)
    · simp; omega
    · simp; omega
    · rintro pre W W' hk ⟨u, h1, h2, h4, h5, h6⟩
      exact ⟨u, h1.bk hk, IsSl.bk h2 hk, h4, h5.bk (Nat.le_refl _) hk, by obtain ⟨T, _, hc⟩ := hk; exact Nat.le_trans h6 hc.size⟩
    · exact ⟨_, k2, IsSl.nil _ _ _, by simp [blkOf], Chg.refl _ _, Nat.le_refl _⟩
    · intro j a ha
      exact ha.vars1 rfl rfl
    · intro l' j W
      refine X_region ?_
      refine X_go (gn rfl) rfl (St.vl (vl_assign rfl) rfl rfl ?_)
      refine X_endN [2, 5, 7] (F' := [(2, _), (5, _), (7, _)]) rfl ?_
      exact ⟨rfl, rfl, rfl⟩
    · rintro l' pre k W ⟨u, hb2, hu, hfu, hcW, hsW⟩ - hlen
      refine X_block ?_
      have hb2lt := hb2.lt
      have hbu : b2 ∉ blkOf u := fun hm => by have := hfu _ hm; omega
      refine X_region ?_
      refine X_go (gn rfl) rfl (St.vl (vl_load ag108 rfl (hb2.cell' rfl)) rfl rfl ?_)
      refine Xm rfl rfl ?_
      refine X_go (gn rfl) rfl (st_buildSlice ap108 rfl (vs := [_]) rfl (css := [_]) ⟨rfl, trivial⟩ rfl rfl (cs := [_]) rfl rfl ?_)
      intro b10 w10 e10 n10 c10 k10
      refine X_go (gn rfl) rfl (st_append ap108 sl108 rfl rfl (IsSl.chg0 hu c10) (IsSl.of_blk (n := 1) k10 rfl (by simp [maxLen]) (by simp [Value.oneCell'])) (by simp only [maxLen]; omega) (by omega) rfl ?_)
      intro v11 w11 i11 c11 o11 z11
      obtain ⟨p11, q11, rfl, _⟩ := id (IsSl.val i11)
      refine X_go (gn rfl) rfl (st_store sz108 rfl rfl rfl rfl ((hb2.chg0 c10).chg c11 hbu) (by simp) (by simp [Value.oneCell']) ?_)
      intro wA nA cA kA
      refine X_endN [2, 7] (F' := [(2, _), (7, _)]) rfl ?_
      have kA : Blk wA b2 108 [.slice p11 (pre.length + 1) q11] := kA
      have hu11 := (hb2.chg0 c10).chg c11 hbu
      have hcut : ∀ y ∈ blkOf u, ∃ e c, Blk W y e c := fun y hy => by
        rcases hu with ⟨rfl, _, _⟩ | ⟨b, off, cap, cc, rfl, hs⟩
        · simp [blkOf] at hy
        · simp [blkOf] at hy; subst hy; exact ⟨_, _, hs.blk⟩
      have hall : Chg (b2 :: blkOf u) W wA := ((c10.any (S := b2 :: blkOf u)).transS (c11.weak (by intro y hy; simp [hy]))).transS (cA.weak (by simp))
      have hs10 := c10.size
      refine ⟨KeepsFrom.chg hall ?_, Kr.chg hall (by omega) ?_, _, kA, ?_, fresh_of o11 hfu (by omega), ?_, by have := hall.size; omega⟩
      · intro y hy
        rcases List.mem_cons.1 hy with rfl | hy
        · exact ⟨_, _, hb2⟩
        · exact hcut y hy
      · intro y hy
        rcases List.mem_cons.1 hy with rfl | hy
        · exact ⟨.inl (by simp), _, _, hb2, rfl⟩
        · obtain ⟨e, c, hbb⟩ := hcut y hy
          exact ⟨.inr (hfu y hy), e, c, hbb, rfl⟩
      · have := IsSl.chg i11 cA (IsSl.apart i11 hu11 rfl)
        rw [List.length_append]
        simpa [sv] using this
      · exact hcW.trans' hall (by
          intro y hy
          rcases List.mem_cons.1 hy with rfl | hy
          · simp
          · exact .inr (hfu y hy))
    · rintro D xs W hD hp ⟨u, hb2, hu, hfu, hcW, hsW⟩ hdf
      refine block_normal ?_
      have hs2 := c2.size
      exact ⟨D, _, rfl, by omega, hdf, xs, u, hb2, hp, hu, fun b hb => by have := hfu b hb; omega, c2.own hcW (by intro y hy; simp at hy; omega)⟩
  rintro F wx ⟨D, f6, rfl, hD, hdf, l, u, hb2, hp, hu, hfu, hcx⟩
  refine Sr ?_
  refine Og (vl_load ag108 rfl (hb2.cell' rfl)) rfl ?_
  refine Oa rfl rfl (O_end [4] (F' := [(4, _), (1000000, _)]) rfl (W_ret ?_))
  refine retMT1 (D := D) rfl rfl rfl hdf fun w' hcD => ?_
  exact ⟨l, hp, IsSl.chg hu hcD (hu.notD hdf), hfu, hcx.own hcD (by intro y hy; simp at hy; omega)⟩
theorem u_collect (b1 bm : Nat) (es : List (ByteArray × Value)) (w : World) (h1 : Blk w b1 110 [.map (some bm)]) (hm : IsMapK strK w bm es) (hn : es.length ≤ 1048576) :
    Ret Tryz.prog 126 #[.func (.func 128) #[] #[.pointer (some ⟨b1, 0, none⟩)]] w fun r w' => ∃ l : List ByteArray, l.Perm (ksOf es) ∧ IsSl w' 9 1 r l.length (sv l) ∧ (∀ b ∈ blkOf r, w.heap.size ≤ b) ∧ Chg [] w w' := by
  refine Ret.of_W (args := [_]) Tryz.func126 rfl rfl rfl rfl ?_

  refine Sr (Oa rfl rfl (O_end [0] (F' := [(0, _)]) rfl (Sr (Om rfl rfl ?_))))
  refine O_go (gn rfl) (st_call bd156 rfl rfl rfl rfl (u_append b1 bm es w h1 hm hn) ?_)
  rintro v4 w4 hq
  refine Oa rfl rfl (O_end [2] (F' := [(2, _)]) rfl (W_ret ?_))
  refine ret1 rfl rfl ?_
  exact hq
theorem u_sorted (b1 bm : Nat) (es : List (ByteArray × Value)) (w : World) (h1 : Blk w b1 110 [.map (some bm)]) (hm : IsMapK strK w bm es) (hn : es.length ≤ 12) (hnd : (ksOf es).Nodup) :
    Ret Tryz.prog 81 #[.func (.func 128) #[] #[.pointer (some ⟨b1, 0, none⟩)]] w fun r w' => ∃ l : List ByteArray, l.Perm (ksOf es) ∧ (l.Pairwise fun a b => blt a b = true) ∧ IsSl w' 9 1 r l.length (sv l) ∧ (∀ b ∈ blkOf r, w.heap.size ≤ b) ∧ Chg [] w w' := by
  refine Ret.of_W (args := [_]) Tryz.func81 rfl rfl rfl rfl ?_

  refine Sr (Oa rfl rfl (O_end [0] (F' := [(0, _)]) rfl (Sr (Om rfl rfl ?_))))
  refine O_go (gn rfl) (st_call bd126 rfl rfl rfl rfl (u_collect b1 bm es w h1 hm (by omega)) ?_)
  rintro v5 w5 ⟨l, hp, il, fl', c5⟩
  refine Oa rfl rfl (O_end [3] (F' := [(3, _)]) rfl ?_)
  have hlen := hp.length_eq
  have hl2 : l.length = es.length := by rw [hlen]; simp [ksOf]
  have hln : l.Nodup := hp.nodup_iff.2 hnd
  rcases id il with ⟨rfl, hz, _⟩ | ⟨b, off, cap, cc, rfl, hs⟩
  · have hl0 : l = [] := List.length_eq_zero_iff.1 hz
    subst hl0
    refine Sr (Om rfl rfl ?_)
    refine O_go (gn rfl) (st_call bd127 rfl rfl rfl rfl (u_sort0 _ _ _) ?_)
    rintro v7 w7 rfl
    refine O_end [3] (F' := [(3, _)]) rfl (Sr (Om rfl rfl (Oa rfl rfl (O_end [2] (F' := [(2, _)]) rfl (W_ret ?_)))))
    refine ret1 rfl rfl ?_
    exact ⟨[], hp, List.Pairwise.nil, il, fl', c5⟩
  · have e1 : cc = cc.take off ++ (sv l ++ cc.drop (off + l.length)) := by
      have h1 := hs.xs
      rw [Nat.mul_one] at h1
      rw [h1, show cc.drop (off + l.length) = (cc.drop off).drop l.length by rw [List.drop_drop], List.take_append_drop, List.take_append_drop]
    have e2 : (cc.take off).length = off := by rw [List.length_take]; have := hs.fit; omega
    have hb : Blk w5 b 9 (cc.take off ++ (sv l ++ cc.drop (off + l.length))) := e1 ▸ hs.blk
    generalize cc.take off = hd at *
    generalize cc.drop (off + l.length) = tail at *
    subst e2
    by_cases hl0 : l.length = 0
    · have hl0 : l = [] := List.length_eq_zero_iff.1 hl0
      subst hl0
      refine Sr (Om rfl rfl ?_)
      refine O_go (gn rfl) (st_call bd127 rfl rfl rfl rfl (u_sort0 _ _ _) ?_)
      rintro v7 w7 rfl
      refine O_end [3] (F' := [(3, _)]) rfl (Sr (Om rfl rfl (Oa rfl rfl (O_end [2] (F' := [(2, _)]) rfl (W_ret ?_)))))
      refine ret1 rfl rfl ?_
      exact ⟨[], hp, List.Pairwise.nil, il, fl', c5⟩
    refine Sr (Om rfl rfl ?_)
    refine O_go (gn rfl) (st_call bd127 rfl rfl rfl rfl (u_sort b cap l hd tail _ hb (by omega) (by omega)) ?_)
    rintro v7 w7 ⟨l', kb', hp', hs', c7⟩
    refine O_end [3] (F' := [(3, _)]) rfl (Sr (Om rfl rfl (Oa rfl rfl (O_end [2] (F' := [(2, _)]) rfl (W_ret ?_)))))
    refine ret1 rfl rfl ?_
    have hll := hp'.length_eq
    refine ⟨l', hp'.trans hp, hs'.pair (hp'.nodup_iff.2 hln), .inr ⟨b, hd.length, cap, _, by rw [hll], kb', ?_, hs.max, ?_, ?_, ?_⟩, fl', ?_⟩
    · rw [hll]; exact hs.le
    · have := hs.fit
      rw [e1] at this
      simp [sv] at this ⊢
      omega
    · rw [Nat.mul_one, List.drop_left' rfl, List.take_left' (by simp [sv])]
    · intro x hx
      have h1 := hs.one
      rw [e1] at h1
      rcases List.mem_append.1 hx with hx | hx
      · exact h1 x (by simp [hx])
      · rcases List.mem_append.1 hx with hx | hx
        · simp [sv] at hx
          obtain ⟨a, _, rfl⟩ := hx
          rfl
        · exact h1 x (by simp [hx])
    · exact c5.own c7 (by intro y hy; simp at hy; subst hy; exact fl' _ (by simp [blkOf]))
theorem t_sorted (bm : Nat) (es : List (ByteArray × Value)) (w : World) (hm : IsMapK strK w bm es) (hn : es.length ≤ 12) (hnd : (ksOf es).Nodup) :
    Ret Tryz.prog 49 #[.map (some bm)] w fun r w' => ∃ l : List ByteArray, l.Perm (ksOf es) ∧ (l.Pairwise fun a b => blt a b = true) ∧ IsSl w' 9 1 r l.length (sv l) ∧ (∀ b ∈ blkOf r, w.heap.size ≤ b) ∧ Chg [] w w' := by
  refine Ret.of_W (args := [_]) Tryz.func49 rfl rfl rfl rfl ?_

  refine Sr (Oa rfl rfl (O_end [0] (F' := [(0, _)]) rfl (Sr (Om rfl rfl ?_))))
  refine O_go (gn rfl) (st_call bd82 rfl rfl rfl rfl (u_keys bm w) ?_)
  rintro v4 w4 ⟨b1, rfl, hb1, k1, c4⟩
  refine O_go (gn rfl) (st_call bd81 rfl rfl rfl rfl (u_sorted b1 bm es _ k1 (hm.chg0 c4) hn hnd) ?_)
  rintro v5 w5 ⟨l, hp, hs, il, fl', c5⟩
  refine Oa rfl rfl (O_end [2] (F' := [(2, _)]) rfl (W_ret ?_))
  refine ret1 rfl rfl ?_
  have hsz := c4.size
  exact ⟨l, hp, hs, il, fun b hb => Nat.le_trans hsz (fl' b hb), c4.trans c5⟩
end Go.Wk

namespace Go.Wk
open Go.Proofs
set_option maxRecDepth 10000

/-! ### a row more -/
section
variable {α : Type} {f : α → List Value} {w w' : World} {E e k : Nat}
theorem ArrL.tab {own : List Nat} (hp : Nl w own) (hf : ∀ x, ∀ u ∈ f x, litB u = true) (hc : Chg own w w') {vs : List Value} {ls : List (List α)} (h : ArrL w e k f vs ls) : ArrL w' e k f vs ls := ArrL.chgC hc hf hp h
end
/-- A table's memory when a block of another type turns. -/
structure OffT (e : TypeId) : Prop where
  t : Nat.beq 98 e = false
  c : Nat.beq 25 e = false
  i : Nat.beq 3 e = false
  ii : Nat.beq 27 e = false
  p : Nat.beq 147 e = false
  l : Nat.beq 177 e = false
  en : Nat.beq 175 e = false
  s : Nat.beq 103 e = false
theorem Pg.chgB {w w' : World} {p b : Nat} {e : TypeId} {x : List Value} {ls : List (List Ent)} (h : Pg w p ls) (hb : Blk w b e x) (ho : OffT e) (hc : Chg [b] w w') : Pg w' p ls :=
  let ⟨v, h1, h2⟩ := h; ⟨v, h1.chg hc (by have := h1.ne hb ho.p; simpa using this), h2.chg1 hb ho.l ho.en hc⟩
theorem PgL.chgB {w w' : World} {b : Nat} {e : TypeId} {x : List Value} (hb : Blk w b e x) (ho : OffT e) (hc : Chg [b] w w') : ∀ {ps : List Nat} {ms : List (List (List Ent))}, PgL w ps ms → PgL w' ps ms
  | [], [], _ => trivial
  | _ :: _, _ :: _, h => ⟨h.1.chgB hb ho hc, PgL.chgB hb ho hc h.2⟩
theorem TabMem.chgB {w w' : World} {t pm : Nat} {c k u sv : Value} {xs : List (Value × Nat)} {s : Sch} {main : List (List Ent)} {subs : List (List (List Ent))} (h : TabMem w t pm c k u sv xs s main subs) {b : Nat} {e : TypeId} {x : List Value} (hb : Blk w b e x) (ho : OffT e) (hc : Chg [b] w w') (hs : IsSch w' c k u s) : TabMem w' t pm c k u sv xs s main subs :=
  ⟨h.blk.chg hc (by have := h.blk.ne hb ho.t; simpa using this), hs, h.pg.chgB hb ho hc, ArrS.chg h.sl hc (IsSl.apart h.sl hb ho.s), ArrLS.chg hc (h.ats.apart hb ho.i) h.ats, h.pgs.chgB hb ho hc, h.nd⟩
theorem TabMem.chgSl {w w' : World} {t pm : Nat} {c k u sv : Value} {xs : List (Value × Nat)} {s : Sch} {main : List (List Ent)} {subs : List (List (List Ent))} (h : TabMem w t pm c k u sv xs s main subs) {o : Value} {e : TypeId} {kk n : Nat} {ys : List Value} (hs : IsSl w e kk o n ys) (ho : OffT e) (hc : Chg (blkOf o) w w') (hsc : IsSch w' c k u s) : TabMem w' t pm c k u sv xs s main subs := by
  rcases hs with ⟨rfl, _, _⟩ | ⟨b, off, cap, cc, rfl, hs⟩
  · exact h.chg0 hc
  · exact h.chgB hs.blk ho hc hsc
theorem off48 : OffT 48 := ⟨rfl, rfl, rfl, rfl, rfl, rfl, rfl, rfl⟩
theorem IsTab.pg {w : World} {t : Nat} {own : List Nat} {s : Sch} {rows : List (List Val)} (h : IsTab w t own s rows) : ∀ p ∈ own, ∃ c, Blk w p 147 c := fun p hp => by
  obtain ⟨_, _, _, hx⟩ := h.pages p hp
  exact ⟨_, hx⟩
theorem IsRows.tab {w w' : World} {t : Nat} {own : List Nat} {s : Sch} {rows : List (List Val)} (h : IsTab w t own s rows) {v : Value} {ls : List (List Val)} (hv : IsRows w v ls) (hc : Chg own w w') : IsRows w' v ls := Arr2.chgS hv hc cs_lit (Nt.own h.pages rfl) (Nl.own h.pages)
theorem rep_eq {s : Sch} {rows : List (List Val)} (h : TabOk s rows) {row : List Val} (he : rowN s row = 0) : repE s rows row = if goneR s rows row = [] ∧ 400 ≤ rows.length then 3 else 0 := by
  have hl := gone_rest_len s row rows
  have hle := h.le
  unfold repE
  rw [if_neg (by simp [he])]
  by_cases hg : goneR s rows row = []
  · rw [restR_nil hg]
    simp [hg]
  · have hpos := List.length_pos_iff.2 hg
    rw [if_neg (by omega), if_neg (by simp [hg])]
theorem t_Replace0 (v : Value) (w : World) (hE : EOk w) : Ret Tryz.prog 14 #[.pointer none, v] w fun r w' => r = .tuple #[.slice none 0 0, .int .i64 1] ∧ Chg [] w w' := by
  refine Ret.of_W (args := [_, _]) Tryz.func14 rfl rfl rfl rfl ?_

  refine Sr (Oa rfl rfl (Oa rfl rfl (O_end [0, 1, 4] (F' := [(0, _), (1, _), (4, _)]) rfl (W_seq (Sr (Om rfl rfl (Om rfl rfl ?_)))))))
  refine O_go (gn rfl) (st_call bd48 rfl rfl rfl rfl (t_fits0 v w) ?_)
  rintro v13 w13 ⟨i13, c13⟩
  obtain ⟨-, h0⟩ | ⟨i13, -⟩ := i13
  · exact absurd h0 (by decide)
  refine Oa rfl rfl (O_end [0, 1, 4, 6] (F' := [(0, _), (1, _), (4, _), (6, _)]) rfl (Sr (Om rfl rfl ?_)))
  refine Og (vl_innil in106 rfl i13.notNil) rfl ?_
  refine O_end [0, 1, 4, 6, 15] (F' := [(0, _), (1, _), (4, _), (6, _), (15, _)]) rfl (W_cond_true rfl (Sr (Om rfl rfl ?_)))
  refine O_go (gn rfl) (st_call bd46 rfl rfl rfl rfl (e_numT _ _ _ (hE.chg0 c13) (.inr i13)) ?_)
  rintro v17 w17 ⟨rfl, c17⟩
  refine Oa rfl rfl (Oa rfl rfl (O_end [4, 5] (F' := [(4, _), (5, _)]) rfl (W_ret ?_)))
  repeat (first | refine then_ret ?_ | refine block_ret ?_)
  refine ret2 rfl rfl rfl ?_
  exact ⟨rfl, c13.trans c17⟩
set_option maxHeartbeats 1000000 in
theorem t_Replace (t : Nat) (own : List Nat) (s : Sch) (rows : List (List Val)) (v : Value) (row : List Val) (w : World) (hE : EOk w) (h : IsTab w t own s rows) (hl : IsVals w v row) (hg : ∀ x ∈ row, x.Rng) (hn : row.length ≤ 1048576) :
    Ret Tryz.prog 14 #[.pointer (some ⟨t, 0, none⟩), v] w fun r w' => ∃ o, r = .tuple #[o, .int .i64 (repE s rows row)] ∧ IsRows w' o (repG s rows row) ∧ (∀ b ∈ blkOf o, w.heap.size ≤ b) ∧ IsTab w' t own s (repR s rows row) ∧ Chg own w w' := by
  have hT := h
  obtain ⟨pm, c, k, u, sv', xs, main, subs, rfl, hm, ht⟩ := h
  refine Ret.of_W (args := [_, _]) Tryz.func14 rfl rfl rfl rfl ?_

  refine Sr (Oa rfl rfl (Oa rfl rfl (O_end [0, 1, 4] (F' := [(0, _), (1, _), (4, _)]) rfl (W_seq (Sr (Om rfl rfl (Om rfl rfl ?_)))))))
  refine O_go (gn rfl) (st_call bd48 rfl rfl rfl rfl (t_fits v row w hE hm ht.ok.right hl hg hn) ?_)
  rintro v13 w13 ⟨i13, c13⟩
  refine Oa rfl rfl (O_end [0, 1, 4, 6] (F' := [(0, _), (1, _), (4, _), (6, _)]) rfl ?_)
  rcases i13 with ⟨rfl, he⟩ | ⟨i13, he⟩
  · refine Sr (Om rfl rfl ?_)
    refine Og (vl_innil in106 rfl rfl) rfl ?_
    refine O_end [0, 1, 4, 6, 15] (F' := [(0, _), (1, _), (4, _), (6, _), (15, _)]) rfl (W_cond_false rfl (W_skipE (Sr (Om rfl rfl (Om rfl rfl ?_)))))
    refine O_go (gn rfl) (st_call bd50 rfl rfl rfl rfl (t_clashing v row _ (hm.chg0 c13) ht he (Arr.chg0 hl c13) hg) ?_)
    rintro v20 w20 ⟨bm, es, rfl, hbm, kes, he4, hck, c20⟩
    refine O_go (gn rfl) (st_call bd49 rfl rfl rfl rfl (t_sorted bm es _ kes (by omega) hck.1) ?_)
    rintro v21 w21 ⟨ks, hp, hsrt, iks, fks, c21⟩
    refine Oa rfl rfl (O_end [0, 1, 4, 7] (F' := [(0, _), (1, _), (4, _), (7, _)]) rfl ?_)
    have hks : ks = (goneR s rows row).map (keyR s) := gone_sorted ht.ok hck hp hsrt
    have hkl : ks.length = (goneR s rows row).length := by rw [hks, List.length_map]
    have hk4 : ks.length ≤ 4 := by rw [hp.length_eq]; simpa [ksOf] using he4
    obtain ⟨pk, ck, rfl, _⟩ := id (IsSl.val iks)
    have hcA := (c13.trans c20).trans c21
    have eR := rep_eq ht.ok he
    refine W_seq_cut (fun F wx => F = [(0, .pointer (some ⟨t, 0, none⟩)), (1, v), (4, .slice none 0 0), (7, .slice pk ks.length ck), (29, .bool false)] ∧ wx = w21 ∧ repE s rows row = 0) ?_ ?_
    · refine W_seq ?_
      by_cases h0 : ks.length = 0
      · have hg0 : goneR s rows row = [] := List.length_eq_zero_iff.1 (by omega)
        rcases Nat.lt_or_ge rows.length 400 with hlt | hge
        · refine W_region (Om rfl rfl (Og (vl_len sl108 rfl) rfl ?_))
          refine Og (vl_is (b' := true) (vl_ieq rfl rfl) (decide_eq_true (by omega))) rfl ?_
          refine Om rfl rfl ?_
          refine Oy rfl rfl (vl_move rfl) rfl ?_
          refine O_go (gy rfl rfl rfl) (st_call bd15 rfl rfl rfl rfl (t_Len _ (hm.chg0 hcA) ht) ?_)
          rintro v27 w27 ⟨rfl, rfl⟩
          refine Oy rfl rfl (vl_is (b' := false) (vl_geq rfl rfl) (decide_eq_false (by omega))) rfl ?_
          refine Ot rfl rfl rfl (O_end [0, 1, 4, 7, 29] (F' := [(0, _), (1, _), (4, _), (7, _), (29, _)]) rfl (W_cond_false rfl (W_skipE ?_)))
          refine ⟨rfl, rfl, ?_⟩
          rw [eR, if_neg (by omega)]
        · refine W_region (Om rfl rfl (Og (vl_len sl108 rfl) rfl ?_))
          refine Og (vl_is (b' := true) (vl_ieq rfl rfl) (decide_eq_true (by omega))) rfl ?_
          refine Om rfl rfl ?_
          refine Oy rfl rfl (vl_move rfl) rfl ?_
          refine O_go (gy rfl rfl rfl) (st_call bd15 rfl rfl rfl rfl (t_Len _ (hm.chg0 hcA) ht) ?_)
          rintro v27 w27 ⟨rfl, rfl⟩
          refine Oy rfl rfl (vl_is (b' := true) (vl_geq rfl rfl) (decide_eq_true (by omega))) rfl ?_
          refine Ot rfl rfl rfl (O_end [0, 1, 4, 7, 29] (F' := [(0, _), (1, _), (4, _), (7, _), (29, _)]) rfl (W_cond_true rfl (Sr (Oa rfl rfl (Oa rfl rfl (O_end [4, 5] (F' := [(4, _), (5, _)]) rfl (W_ret ?_)))))))
          repeat (first | refine then_ret ?_ | refine block_ret ?_)
          refine ret2 rfl rfl rfl ?_
          have eU : repE s rows row = 3 := by rw [eR, if_pos ⟨hg0, hge⟩]
          unfold repG repR
          rw [eU, if_neg (by decide), if_neg (by decide)]
          exact ⟨_, rfl, Arr2.nil _ _ _ _ _, by simp [blkOf], hT.chg0 hcA, hcA.any⟩
      · refine W_region (Om rfl rfl (Og (vl_len sl108 rfl) rfl ?_))
        refine Og (vl_is (b' := false) (vl_ieq rfl rfl) (decide_eq_false (by omega))) rfl ?_
        refine Om rfl rfl (Oz rfl rfl rfl rfl (Oz rfl rfl rfl rfl (Oz rfl rfl rfl rfl (Of rfl rfl rfl (O_end [0, 1, 4, 7, 29] (F' := [(0, _), (1, _), (4, _), (7, _), (29, _)]) rfl (W_cond_false rfl (W_skipE ?_)))))))
        refine ⟨rfl, rfl, ?_⟩
        rw [eR, if_neg (fun hh => h0 (by rw [hkl, hh.1]; rfl))]
    rintro F wy ⟨rfl, rfl, eU⟩
    refine Sr (Oa rfl rfl (O_end [0, 1, 4, 7, 8] (F' := [(0, _), (1, _), (4, _), (7, _), (8, _)]) rfl (W_seq (Sr (Om rfl rfl (Og (vl_len sl108 rfl) rfl (Om rfl rfl (O_end [0, 1, 4, 8, 30, 31, 32] (F' := [(0, _), (1, _), (4, _), (8, _), (30, _), (31, _), (32, _)]) rfl ?_))))))))
    have eT : repR s rows row = withR s (restR s rows row) row := by unfold repR; rw [if_pos eU]
    have eG : repG s rows row = goneR s rows row := by unfold repG; rw [if_pos eU]
    obtain ⟨hrow, hrl⟩ := rep_ok eU
    have hgl4 : (goneR s rows row).length ≤ 4 := by omega
    have hdr := dropK_gone ht.ok row
    rw [eT, eG]
    generalize hgg : goneR s rows row = G at *
    have hGr : ∀ r ∈ G, r ∈ rows := fun r hr => by rw [← hgg] at hr; exact (mem_gone.1 hr).1
    have hGn : (G.map (keyR s)).Nodup := by rw [← hks]; exact hp.nodup_iff.2 hck.1
    subst hks
    refine W_block ?_
    refine W_loop [0, 1, 4, 8, 30, 31, 32] (fun m F wx => ∃ (j : Nat) (o : Value) (main' : List (List Ent)) (subs' : List (List (List Ent))), m = (G.map (keyR s)).length - j ∧ j ≤ (G.map (keyR s)).length ∧ F = [(0, .pointer (some ⟨t, 0, none⟩)), (1, v), (4, o), (8, .func (.func 51) #[] #[]), (30, .slice pk (G.map (keyR s)).length ck), (31, .int .i64 (G.map (keyR s)).length), (32, .int .i64 j)] ∧ TabMem wx t pm c k u sv' xs s main' subs' ∧ Tells s (dropK s rows ((G.map (keyR s)).take j)) main' subs' ∧ (∃ vs, IsSl wx 48 1 o (G.take j).length vs ∧ ArrLS wx 40 4 Val.cs vs (G.take j)) ∧ (∀ b ∈ blkOf o, wy.heap.size ≤ b) ∧ Chg (pm :: xs.map (·.2)) wy wx) (m := (G.map (keyR s)).length - 0) ⟨0, _, main, subs, rfl, Nat.zero_le _, rfl, hm.chg0 hcA, by rw [List.take_zero, dropK_nil]; exact ht, ⟨[], IsSl.nil _ _ _, trivial⟩, by simp [blkOf], Chg.refl _ _⟩ ?_
    rintro m F wx ⟨j, o, main', subs', rfl, hj, rfl, hmx, htx, hox, hfo, hcx0⟩
    have hcx : Chg (pm :: xs.map (·.2)) w wx := hcA.any.transS hcx0
    refine Sr (Og (vl_lss rfl rfl) rfl (O_end [0, 1, 4, 8, 30, 31, 32, 33] (F' := [(0, _), (1, _), (4, _), (8, _), (30, _), (31, _), (32, _), (33, _)]) rfl (W_seq ?_)))
    have hTx : IsTab wx t (pm :: xs.map (·.2)) s (dropK s rows ((G.map (keyR s)).take j)) := ⟨pm, c, k, u, sv', xs, _, _, rfl, hmx, htx⟩
    refine W_cond rfl (fun hT' => ?_) (fun hF => ?_)
    · refine W_skipE ?_
      have hlt : j < (G.map (keyR s)).length := by have := of_decide_eq_true hT'; omega
      have hltG : j < G.length := by simpa using hlt
      have hr : G[j]? = some G[j] := by simp [hltG]
      generalize G[j] = r at hr
      have hrG : r ∈ G := List.mem_of_getElem? hr
      have hkj : (G.map (keyR s))[j]? = some (keyR s r) := by rw [List.getElem?_map, hr]; rfl
      have hget : getR s (dropK s rows ((G.map (keyR s)).take j)) (keyR s r) = some r := by
        refine (ht.ok.dropK _).get (mem_dropK.2 ⟨hGr r hrG, fun hm => ?_⟩)
        obtain ⟨i, hi⟩ := List.getElem?_of_mem hm
        rw [List.getElem?_take] at hi
        split at hi
        · rename_i hij
          obtain ⟨h1, h2⟩ := List.getElem?_eq_some_iff.1 hi
          obtain ⟨h3, h4⟩ := List.getElem?_eq_some_iff.1 hkj
          exact List.pairwise_iff_getElem.1 hGn i j h1 h3 hij (h2.trans h4.symm)
        · cases hi
      have ikx := Tab_own iks (hT.chg0 hcA).pages rfl hcx0
      obtain ⟨bk, offk, capk, uk, hvk, huk, hcellk⟩ := IsSl.at1 ikx hlt
      cases hvk
      have huk' : uk = .string (keyR s r) := by
        rw [sv, List.getElem?_map, hkj] at huk
        cases huk; rfl
      subst huk'
      refine W_seq (W_block (Sr ?_))
      refine Og (vl_indexAddr sl108 sz9 rfl rfl _ rfl hlt) rfl ?_
      refine Og (vl_load ag9 rfl hcellk) rfl ?_
      refine Oa rfl rfl (O_end [0, 1, 4, 8, 10, 30, 31, 32] (F' := [(0, _), (1, _), (4, _), (8, _), (10, _), (30, _), (31, _), (32, _)]) rfl ?_)
      obtain ⟨vs, hvs, hrs⟩ := hox
      have hlv : (G.take j).length = j := by rw [List.length_take]; omega
      refine W_region (Om rfl rfl (Om rfl rfl (Om rfl rfl (Om rfl rfl ?_))))
      refine O_go (gn rfl) (st_call bd51 rfl rfl rfl rfl (t_leaves (keyR s r) r _ hmx htx hget) ?_)
      rintro v40 w40 ⟨i40, fl40, m40, c40⟩
      obtain ⟨p40, q40, rfl, -⟩ := id (ArrS.val i40)
      refine O_go (gn rfl) (st_buildSlice ap42 rfl (vs := [_]) rfl (css := [_]) ⟨rfl, trivial⟩ rfl rfl (cs := [_]) rfl rfl ?_)
      intro b41 w41 e41 n41 c41 k41
      refine O_go (gn rfl) (st_append ap42 sl42 rfl rfl (IsSl.chg0 (Tab_own hvs hTx.pages rfl c40) c41) (IsSl.of_blk (n := 1) k41 rfl (by simp [maxLen]) (by intro y hy; simp at hy; subst hy; exact IsSl.one1 i40)) (by simp only [maxLen]; omega) (by omega) rfl ?_)
      intro v42 w42 i42 c42 o42 z42
      refine Oa rfl rfl ?_
      refine O_endN [0, 1, 4, 8, 30, 31, 32] (F' := [(0, _), (1, _), (4, _), (8, _), (30, _), (31, _), (32, _)]) rfl ?_
      refine block_normal (W_region ?_)
      refine Og (vl_add rfl rfl (by omega)) rfl ?_
      refine Om rfl rfl ?_
      refine O_endN [0, 1, 4, 8, 30, 31, 32] (F' := [(0, _), (1, _), (4, _), (8, _), (30, _), (31, _), (32, _)]) rfl ?_
      have hL := htx.leave (get_some hget).1
      rw [dropK_less] at hL
      have hsx := hcx0.size
      have hs40 := c40.size
      have hs41 : w40.heap.size ≤ w41.heap.size := c41.size
      have hvs41 := IsSl.chg0 (Tab_own hvs hTx.pages rfl c40) c41
      have hcz : Chg (pm :: xs.map (·.2)) wy w42 := ((hcx0.trans' c40 (fun _ h => .inl h)).trans c41).trans' c42 (fun y hy => .inr (hfo y hy))
      have hsc42 : IsSch w42 c k u s := IsSch.chgS (hm.chg0 hcA).sch hcz (Nt.own (hT.chg0 hcA).pages rfl) (Nl.own (hT.chg0 hcA).pages)
      have hmz : TabMem w42 t pm c k u sv' xs s _ _ := (m40.chg0 c41).chgSl hvs41 off48 c42 hsc42
      refine ⟨(G.map (keyR s)).length - (j + 1), by omega, j + 1, v42, _, _, rfl, by omega, rfl, hmz, ?_, ⟨vs ++ [.slice p40 r.length q40], ?_, ?_⟩, fresh_of o42 hfo (by omega), ?_⟩
      · rw [take_snoc hkj]; exact hL
      · rw [take_snoc hr, List.length_append]; exact i42
      · rw [take_snoc hr]
        have hr42 := ArrLS.chg c42 (ArrLS.apartSl hvs41 rfl ((hrs.tab hTx.pg rfl c40).chg0 c41)) ((hrs.tab hTx.pg rfl c40).chg0 c41)
        refine hr42.append (us := [_]) ⟨?_, trivial⟩
        exact ArrS.chg (ArrS.chg0 i40 c41) c42 (IsSl.apartSl (ArrS.chg0 i40 c41) hvs41 rfl)
      · exact hcz
    · refine W_exit ?_
      repeat (first | refine then_exit ?_ | refine blockF_other rfl ?_)
      refine blockF_exit _ ?_
      have he' : (G.map (keyR s)).length ≤ j := by have := of_decide_eq_false hF; omega
      rw [List.take_of_length_le he', hdr] at htx
      rw [List.take_of_length_le (by simpa using he')] at hox
      have hox : IsRows wx o G := let ⟨vs, h1, h2⟩ := hox; ⟨vs, h1.toOu, h2.arr⟩
      have hTx : IsTab wx t (pm :: xs.map (·.2)) s (restR s rows row) := ⟨pm, c, k, u, sv', xs, _, _, rfl, hmx, htx⟩
      have hlx : IsVals wx v row := IsVals.own hl hT.pages hcx
      refine Sr (Om rfl rfl (Om rfl rfl ?_))
      refine O_go (gn rfl) (st_call bd52 rfl rfl rfl rfl (t_come v row _ (hE.tab hT hcx) hmx htx he hlx hg) ?_)
      rintro v46 w46 ⟨m46, c46⟩
      refine O_end [4] (F' := [(4, _)]) rfl (Sr (Om rfl rfl (Oa rfl rfl (Oa rfl rfl (O_end [4, 5] (F' := [(4, _), (5, _)]) rfl (W_ret ?_))))))
      refine ret2 rfl rfl rfl ?_
      rw [eU]
      have hsA := hcA.size
      exact ⟨_, rfl, IsRows.tab hTx hox c46, fun b hb => Nat.le_trans hsA (hfo b hb), ⟨pm, c, k, u, sv', xs, _, _, rfl, m46, htx.come he hg rest_free hrl⟩, hcx.trans' c46 (fun _ h => .inl h)⟩
  · refine Sr (Om rfl rfl ?_)
    refine Og (vl_innil in106 rfl i13.notNil) rfl ?_
    refine O_end [0, 1, 4, 6, 15] (F' := [(0, _), (1, _), (4, _), (6, _), (15, _)]) rfl (W_cond_true rfl (Sr (Om rfl rfl ?_)))
    refine O_go (gn rfl) (st_call bd46 rfl rfl rfl rfl (e_numT _ _ _ (hE.chg0 c13) (.inr i13)) ?_)
    rintro v17 w17 ⟨rfl, c17⟩
    refine Oa rfl rfl (Oa rfl rfl (O_end [4, 5] (F' := [(4, _), (5, _)]) rfl (W_ret ?_)))
    repeat (first | refine then_ret ?_ | refine block_ret ?_)
    refine ret2 rfl rfl rfl ?_
    have eU : repE s rows row = rowN s row := by unfold repE; rw [if_pos he]
    unfold repG repR
    rw [eU, if_neg he, if_neg he]
    exact ⟨_, rfl, Arr2.nil _ _ _ _ _, by simp [blkOf], hT.chg0 (c13.trans c17), (c13.trans c17).any⟩
end Go.Wk

namespace Go.Wk
open Go.Proofs
set_option maxRecDepth 10000

theorem t_Find0 (n : Int) (v : Value) (w : World) : Ret Tryz.prog 31 #[.pointer none, .int .i64 n, v] w fun r w' => r = .tuple #[.slice none 0 0, .bool false] ∧ w' = w := by
  refine Ret.of_W (args := [_, _, _]) Tryz.func31 rfl rfl rfl rfl ?_

  refine Sr (Oa rfl rfl (Oa rfl rfl (O_end [0, 1, 2] (F' := [(0, _), (1, _), (2, _)]) rfl (W_seq (Sr (Om rfl rfl ?_))))))
  refine Og (vl_pnil pt31 rfl rfl) rfl ?_
  refine Om rfl rfl (Oz rfl rfl rfl rfl (Oz rfl rfl rfl rfl (Ot rfl rfl rfl (Om rfl rfl (Oz rfl rfl rfl rfl (Oz rfl rfl rfl rfl (Oz rfl rfl rfl rfl (Oz rfl rfl rfl rfl (Oz rfl rfl rfl rfl (Oz rfl rfl rfl rfl (Oz rfl rfl rfl rfl (Ot rfl rfl rfl (Om rfl rfl ?_)))))))))))))
  refine Oz rfl rfl rfl rfl (Oz rfl rfl rfl rfl (Oz rfl rfl rfl rfl (Oz rfl rfl rfl rfl (Oz rfl rfl rfl rfl (Oz rfl rfl rfl rfl (Oz rfl rfl rfl rfl (Oz rfl rfl rfl rfl (Oz rfl rfl rfl rfl (Oz rfl rfl rfl rfl (Oz rfl rfl rfl rfl (Oz rfl rfl rfl rfl (Ot rfl rfl rfl (O_end [0, 1, 2, 40] (F' := [(0, _), (1, _), (2, _), (40, _)]) rfl ?_)))))))))))))
  refine W_cond_true rfl (Sr (Oa rfl rfl (Oa rfl rfl (O_end [6, 7] (F' := [(6, _), (7, _)]) rfl (W_ret ?_)))))
  repeat (first | refine then_ret ?_ | refine block_ret ?_)
  refine ret2 rfl rfl rfl ?_
  exact ⟨rfl, rfl⟩
theorem find_lt {s : Sch} {rows : List (List Val)} {n : Int} {vals : List Val} (h : n < 0 ∨ ((setsN s).length : Int) ≤ n) : findN s rows n vals = none := by
  unfold findN
  rcases h with h | h
  · rw [if_pos h]
  · rw [if_neg (by omega), List.getElem?_eq_none (by omega)]
theorem find_at {s : Sch} {rows : List (List Val)} {j : Nat} {vals : List Val} {st : List Int} (h : (setsN s)[j]? = some st) : findN s rows j vals = if st.length ≠ vals.length then none else rowOf rows st vals := by
  unfold findN
  rw [if_neg (by omega), Int.toNat_natCast, h]
  rfl
/-- What a set's pages tell of values, may they be or not. -/
theorem SubOk.tell {s : Sch} {rows : List (List Val)} (h : TabOk s rows) {st : List Int} (hst : st ∈ setsN s) {ps : List (List Ent)} (hs : SubOk s rows st ps) {vals : List Val} (hv : ∀ x ∈ vals, x.Rng) :
    getP ps (if keyE vals = 0 then keyS vals else e0) = (rowOf rows st vals).map (keyR s) := by
  by_cases hk : keyE vals = 0
  · rw [if_pos hk]
    exact hs.get h hst fun x hx => ⟨(chk_ok (keyE_iff.1 hk x hx)).1, hv x hx⟩
  · rw [if_neg hk]
    have h1 : rowOf rows st vals = none := by
      cases hr : rowOf rows st vals with
      | none => rfl
      | some r =>
        obtain ⟨g1, _, g3⟩ := rowOf_some hr
        refine absurd (keyE_iff.2 fun x hx => ?_) hk
        rw [← g3] at hx
        exact row_chk (h.fit r g1) x (pick_mem (h.fit r g1) hst x hx)
    rw [h1]
    refine getP_no hs.wf fun v hm => ?_
    obtain ⟨r, hr, _, he, _⟩ := (hs.mem _ _).1 hm
    refine keyS_ne (l := pickN r st) ?_ he.symm
    have := (set_parts (sets_right h.right st hst)).1
    simp [pickN]
    omega
theorem rowOf_nn {rows : List (List Val)} {st : List Int} {vals r : List Val} (h : rowOf rows st vals = some r) : nnS vals = true := by
  obtain ⟨_, g2, g3⟩ := rowOf_some h
  rw [← g3]; exact g2
section
variable {t pm : Nat} {c k u sv : Value} {xs : List (Value × Nat)} {s : Sch} {main : List (List Ent)} {subs : List (List (List Ent))} {rows : List (List Val)}
theorem t_Find (n : Int) (v : Value) (vals : List Val) (w : World) (h : TabMem w t pm c k u sv xs s main subs) (ht : Tells s rows main subs) (hl : IsVals w v vals) (hg : ∀ x ∈ vals, x.Rng) :
    Ret Tryz.prog 31 #[.pointer (some ⟨t, 0, none⟩), .int .i64 n, v] w fun r w' => ∃ o, r = .tuple #[o, .bool (findN s rows n vals).isSome] ∧ IsVals w' o ((findN s rows n vals).getD []) ∧ (∀ b ∈ blkOf o, w.heap.size ≤ b) ∧ Chg [] w w' := by
  obtain ⟨l1, l2⟩ := h.lens
  obtain ⟨psv, csv, rfl, hcsv⟩ := ArrS.val h.sl
  obtain ⟨pv, cv, rfl, hcv⟩ := id (Arr.val hl)
  have hn3 := (right_parts ht.ok.right).2.1
  have hn4 : (setsN s).length ≤ 4 := by simp [setsN]; omega
  refine Ret.of_W (args := [_, _, _]) Tryz.func31 rfl rfl rfl rfl ?_

  refine Sr (Oa rfl rfl (Oa rfl rfl (O_end [0, 1, 2] (F' := [(0, _), (1, _), (2, _)]) rfl (W_seq (W_seq ?_)))))
  by_cases hn0 : n < 0
  · refine W_region (Om rfl rfl ?_)
    refine Og (vl_pnil pt31 rfl rfl) rfl ?_
    refine Om rfl rfl ?_
    refine Oy rfl rfl (vl_move rfl) rfl ?_
    refine Oy rfl rfl (vl_is (b' := true) (vl_lss rfl rfl) (decide_eq_true (by omega))) rfl ?_
    refine Of rfl rfl rfl (Om rfl rfl (Oz rfl rfl rfl rfl (Oz rfl rfl rfl rfl (Oz rfl rfl rfl rfl (Oz rfl rfl rfl rfl (Oz rfl rfl rfl rfl (Oz rfl rfl rfl rfl (Oz rfl rfl rfl rfl (Ot rfl rfl rfl (Om rfl rfl (Oz rfl rfl rfl rfl (Oz rfl rfl rfl rfl (Oz rfl rfl rfl rfl ?_)))))))))))))
    refine Oz rfl rfl rfl rfl (Oz rfl rfl rfl rfl (Oz rfl rfl rfl rfl (Oz rfl rfl rfl rfl (Oz rfl rfl rfl rfl (Oz rfl rfl rfl rfl (Oz rfl rfl rfl rfl (Oz rfl rfl rfl rfl (Oz rfl rfl rfl rfl (Ot rfl rfl rfl (O_end [0, 1, 2, 40] (F' := [(0, _), (1, _), (2, _), (40, _)]) rfl (W_cond_true rfl (Sr ?_))))))))))))
    refine Oa rfl rfl (Oa rfl rfl (O_end [6, 7] (F' := [(6, _), (7, _)]) rfl (W_ret ?_)))
    repeat (first | refine then_ret ?_ | refine block_ret ?_)
    refine ret2 rfl rfl rfl ?_
    rw [find_lt (.inl hn0)]
    exact ⟨_, rfl, Arr.nil _ _ _ _, by simp [blkOf], Chg.refl _ _⟩
  obtain ⟨j, rfl⟩ := Int.eq_ofNat_of_zero_le (Int.not_lt.1 hn0)
  rcases Nat.lt_or_ge j xs.length with hlt | hge
  · obtain ⟨a, q, st, m, b, off, cap, e1, e2, e3, ha, hq, hsv, hcell, hqm⟩ := h.at (j := j) (by omega)
    cases hsv
    have hst : st ∈ setsN s := List.mem_of_getElem? e2
    have hsub := SubsOk.st ht.subs e2 e3
    have hst4 := (set_parts (sets_right ht.ok.right st hst)).1
    obtain ⟨pa, ca, rfl, _⟩ := id (Arr.val ha)
    have hc0 := hcell 0 _ rfl
    have hc1 := hcell 1 _ rfl
    rw [find_at e2]
    by_cases hlen : st.length = vals.length
    · refine W_region (Om rfl rfl ?_)
      refine Og (vl_pnil pt31 rfl rfl) rfl ?_
      refine Om rfl rfl ?_
      refine Oy rfl rfl (vl_move rfl) rfl ?_
      refine Oy rfl rfl (vl_is (b' := false) (vl_lss rfl rfl) (decide_eq_false (by omega))) rfl ?_
      refine Of rfl rfl rfl (Om rfl rfl ?_)
      refine Oy rfl rfl (vl_move rfl) rfl ?_
      refine Oy rfl rfl (vl_move rfl) rfl ?_
      refine Oy rfl rfl (vl_nilCheck rfl) rfl ?_
      refine Oy rfl rfl (vl_fieldAddr fo98_2 rfl) rfl ?_
      refine Oy rfl rfl (vl_load ag96 rfl (h.blk.cell' rfl)) rfl ?_
      refine Oy rfl rfl (vl_len sl96 rfl) rfl ?_
      refine Oy rfl rfl (vl_is (b' := false) (vl_geq rfl rfl) (decide_eq_false (by omega))) rfl ?_
      refine Of rfl rfl rfl (Om rfl rfl ?_)
      refine Oy rfl rfl (vl_move rfl) rfl ?_
      refine Oy rfl rfl (vl_len sl48 rfl) rfl ?_
      refine Oy rfl rfl (vl_move rfl) rfl ?_
      refine Oy rfl rfl (vl_nilCheck rfl) rfl ?_
      refine Oy rfl rfl (vl_fieldAddr fo98_2 rfl) rfl ?_
      refine Oy rfl rfl (vl_load ag96 rfl (h.blk.cell' rfl)) rfl ?_
      refine Oy rfl rfl (vl_move rfl) rfl ?_
      refine Oy rfl rfl (vl_indexAddr sl96 sz103 rfl rfl _ rfl hlt) rfl ?_
      refine Oy rfl rfl (vl_fieldAddr fo103_0 rfl) rfl ?_
      refine Oy rfl rfl (vl_load ag27 rfl hc0) rfl ?_
      refine Oy rfl rfl (vl_len sl27 rfl) rfl ?_
      refine Oy rfl rfl (vl_is (b' := false) (vl_ine rfl rfl) (by simp [hlen])) rfl ?_
      refine Of rfl rfl rfl (O_end [0, 1, 2, 40] (F' := [(0, _), (1, _), (2, _), (40, _)]) rfl (W_cond_false rfl (W_skipE ?_)))
      rw [if_neg (by simp [hlen])]
      refine Sr (Om rfl rfl ?_)
      refine O_go (gn rfl) (st_call bd70 rfl rfl rfl rfl (k_of _ vals _ hl hg (by omega)) ?_)
      rintro v43 w43 ⟨rfl, c43⟩
      refine Om rfl rfl (Oe rfl rfl rfl (Oe rfl rfl rfl (Oa rfl rfl (Oa rfl rfl (O_end [0, 1, 8, 9] (F' := [(0, _), (1, _), (8, _), (9, _)]) rfl ?_)))))
      have h1 := h.chg0 c43
      obtain ⟨a', q', st', m', b', off', cap', e1', e2', e3', -, -, hsv', hcell', -⟩ := h1.at (j := j) (by omega)
      rw [e1] at e1'
      cases e1'
      cases hsv'
      refine Sr (Om rfl rfl (Og (vl_nilCheck rfl) rfl (Og (vl_fieldAddr fo98_2 rfl) rfl ?_)))
      refine Og (vl_load ag96 rfl (h1.blk.cell' rfl)) rfl ?_
      refine Om rfl rfl ?_
      refine Og (vl_indexAddr sl96 sz103 rfl rfl _ rfl hlt) rfl ?_
      refine Og (vl_fieldAddr fo103_1 rfl) rfl ?_
      refine Og (vl_load ag94 rfl (hcell' 1 _ rfl)) rfl ?_
      refine Om rfl rfl ?_
      refine O_go (gn rfl) (st_call bd65 rfl rfl rfl rfl (f15 q m _ _ (hq.chg0 c43) hsub.wf (by have := hsub.le ht.ok; omega)) ?_)
      rintro v56 w56 ⟨rfl, c56⟩
      refine Om rfl rfl (Oe rfl rfl rfl (Oe rfl rfl rfl (Oa rfl rfl (Oa rfl rfl (O_end [0, 9, 10, 11] (F' := [(0, _), (9, _), (10, _), (11, _)]) rfl ?_)))))
      rw [hsub.tell ht.ok hst hg]
      refine W_seq (W_seq ?_)
      have hcA := c43.trans c56
      cases hnn : nnS vals with
      | false =>
        have hro : rowOf rows st vals = none := by
          cases hr : rowOf rows st vals with
          | none => rfl
          | some r => rw [rowOf_nn hr] at hnn; cases hnn
        refine W_region (Om rfl rfl (Og (vl_not rfl) rfl (Om rfl rfl (Oz rfl rfl rfl rfl (Oz rfl rfl rfl rfl (Ot rfl rfl rfl (O_end [0, 10, 64] (F' := [(0, _), (10, _), (64, _)]) rfl (W_cond_true rfl (Sr (Oa rfl rfl (Oa rfl rfl (O_end [6, 7] (F' := [(6, _), (7, _)]) rfl ?_))))))))))))
        refine W_ret ?_
        repeat (first | refine then_ret ?_ | refine block_ret ?_)
        refine ret2 rfl rfl rfl ?_
        rw [hro]
        exact ⟨_, rfl, Arr.nil _ _ _ _, by simp [blkOf], hcA⟩
      | true =>
        cases hr : rowOf rows st vals with
        | none =>
          refine W_region (Om rfl rfl (Og (vl_not rfl) rfl (Om rfl rfl ?_)))
          refine Oy rfl rfl (vl_move rfl) rfl ?_
          refine Oy rfl rfl (vl_not rfl) rfl ?_
          refine Of rfl rfl rfl (O_end [0, 10, 64] (F' := [(0, _), (10, _), (64, _)]) rfl (W_cond_true rfl (Sr (Oa rfl rfl (Oa rfl rfl (O_end [6, 7] (F' := [(6, _), (7, _)]) rfl (W_ret ?_)))))))
          repeat (first | refine then_ret ?_ | refine block_ret ?_)
          refine ret2 rfl rfl rfl ?_
          exact ⟨_, rfl, Arr.nil _ _ _ _, by simp [blkOf], hcA⟩
        | some r =>
          refine W_region (Om rfl rfl (Og (vl_not rfl) rfl (Om rfl rfl ?_)))
          refine Oy rfl rfl (vl_move rfl) rfl ?_
          refine Oy rfl rfl (vl_not rfl) rfl ?_
          refine Of rfl rfl rfl (O_end [0, 10, 64] (F' := [(0, _), (10, _), (64, _)]) rfl (W_cond_false rfl (W_skipE ?_)))
          have hgr := ht.ok.get (rowOf_some hr).1
          refine Sr (Om rfl rfl (Om rfl rfl ?_))
          refine O_go (gn rfl) (st_call bd23 rfl rfl rfl rfl (t_Get (keyR s r) _ (h1.chg0 c56) ht) ?_)
          rintro v67 w67 ⟨o67, rfl, i67, f67', c67⟩
          refine Oe rfl rfl rfl (Oe rfl rfl rfl (Oa rfl rfl (Oa rfl rfl (O_end [6, 7] (F' := [(6, _), (7, _)]) rfl (W_ret ?_)))))
          refine ret2 rfl rfl rfl ?_
          rw [hgr] at i67 ⊢
          have hsz := hcA.size
          exact ⟨_, rfl, i67.arr, fun b hb => Nat.le_trans hsz (f67' b hb), hcA.trans c67⟩
    · refine W_region (Om rfl rfl ?_)
      refine Og (vl_pnil pt31 rfl rfl) rfl ?_
      refine Om rfl rfl ?_
      refine Oy rfl rfl (vl_move rfl) rfl ?_
      refine Oy rfl rfl (vl_is (b' := false) (vl_lss rfl rfl) (decide_eq_false (by omega))) rfl ?_
      refine Of rfl rfl rfl (Om rfl rfl ?_)
      refine Oy rfl rfl (vl_move rfl) rfl ?_
      refine Oy rfl rfl (vl_move rfl) rfl ?_
      refine Oy rfl rfl (vl_nilCheck rfl) rfl ?_
      refine Oy rfl rfl (vl_fieldAddr fo98_2 rfl) rfl ?_
      refine Oy rfl rfl (vl_load ag96 rfl (h.blk.cell' rfl)) rfl ?_
      refine Oy rfl rfl (vl_len sl96 rfl) rfl ?_
      refine Oy rfl rfl (vl_is (b' := false) (vl_geq rfl rfl) (decide_eq_false (by omega))) rfl ?_
      refine Of rfl rfl rfl (Om rfl rfl ?_)
      refine Oy rfl rfl (vl_move rfl) rfl ?_
      refine Oy rfl rfl (vl_len sl48 rfl) rfl ?_
      refine Oy rfl rfl (vl_move rfl) rfl ?_
      refine Oy rfl rfl (vl_nilCheck rfl) rfl ?_
      refine Oy rfl rfl (vl_fieldAddr fo98_2 rfl) rfl ?_
      refine Oy rfl rfl (vl_load ag96 rfl (h.blk.cell' rfl)) rfl ?_
      refine Oy rfl rfl (vl_move rfl) rfl ?_
      refine Oy rfl rfl (vl_indexAddr sl96 sz103 rfl rfl _ rfl hlt) rfl ?_
      refine Oy rfl rfl (vl_fieldAddr fo103_0 rfl) rfl ?_
      refine Oy rfl rfl (vl_load ag27 rfl hc0) rfl ?_
      refine Oy rfl rfl (vl_len sl27 rfl) rfl ?_
      refine Oy rfl rfl (vl_is (b' := true) (vl_ine rfl rfl) (by simp; omega)) rfl ?_
      refine Of rfl rfl rfl (O_end [0, 1, 2, 40] (F' := [(0, _), (1, _), (2, _), (40, _)]) rfl (W_cond_true rfl (Sr (Oa rfl rfl (Oa rfl rfl (O_end [6, 7] (F' := [(6, _), (7, _)]) rfl (W_ret ?_)))))))
      repeat (first | refine then_ret ?_ | refine block_ret ?_)
      refine ret2 rfl rfl rfl ?_
      rw [if_pos hlen]
      exact ⟨_, rfl, Arr.nil _ _ _ _, by simp [blkOf], Chg.refl _ _⟩
  · refine W_region (Om rfl rfl ?_)
    refine Og (vl_pnil pt31 rfl rfl) rfl ?_
    refine Om rfl rfl ?_
    refine Oy rfl rfl (vl_move rfl) rfl ?_
    refine Oy rfl rfl (vl_is (b' := false) (vl_lss rfl rfl) (decide_eq_false (by omega))) rfl ?_
    refine Of rfl rfl rfl (Om rfl rfl ?_)
    refine Oy rfl rfl (vl_move rfl) rfl ?_
    refine Oy rfl rfl (vl_move rfl) rfl ?_
    refine Oy rfl rfl (vl_nilCheck rfl) rfl ?_
    refine Oy rfl rfl (vl_fieldAddr fo98_2 rfl) rfl ?_
    refine Oy rfl rfl (vl_load ag96 rfl (h.blk.cell' rfl)) rfl ?_
    refine Oy rfl rfl (vl_len sl96 rfl) rfl ?_
    refine Oy rfl rfl (vl_is (b' := true) (vl_geq rfl rfl) (decide_eq_true (by omega))) rfl ?_
    refine Of rfl rfl rfl (Om rfl rfl (Oz rfl rfl rfl rfl (Oz rfl rfl rfl rfl (Oz rfl rfl rfl rfl (Oz rfl rfl rfl rfl (Oz rfl rfl rfl rfl (Oz rfl rfl rfl rfl (Oz rfl rfl rfl rfl (Oz rfl rfl rfl rfl (Oz rfl rfl rfl rfl (Oz rfl rfl rfl rfl (Oz rfl rfl rfl rfl (Oz rfl rfl rfl rfl ?_)))))))))))))
    refine Ot rfl rfl rfl (O_end [0, 1, 2, 40] (F' := [(0, _), (1, _), (2, _), (40, _)]) rfl (W_cond_true rfl (Sr (Oa rfl rfl (Oa rfl rfl (O_end [6, 7] (F' := [(6, _), (7, _)]) rfl (W_ret ?_)))))))
    repeat (first | refine then_ret ?_ | refine block_ret ?_)
    refine ret2 rfl rfl rfl ?_
    rw [find_lt (.inr (by omega))]
    exact ⟨_, rfl, Arr.nil _ _ _ _, by simp [blkOf], Chg.refl _ _⟩
theorem t_Schema (w : World) (h : TabMem w t pm c k u sv xs s main subs) :
    Ret Tryz.prog 34 #[.pointer (some ⟨t, 0, none⟩)] w fun r w' => r = .agg #[c, k, u] ∧ Chg [] w w' := by
  refine Ret.of_W (args := [_]) Tryz.func34 rfl rfl rfl rfl ?_

  refine Sr ?_
  refine O_go (gn rfl) (st_alloc zr30 rfl rfl ?_)
  intro b2 w2 e2 n2 c2 k2
  refine O_end [0, 2] (F' := [(0, _), (2, _)]) rfl ?_
  have h1 := h.chg0 c2
  refine W_seq (Sr (Om rfl rfl ?_))
  refine Og (vl_pnil pt31 rfl rfl) rfl ?_
  refine O_end [0, 2, 4] (F' := [(0, _), (2, _), (4, _)]) rfl (W_cond_false rfl (W_skipE (Sr (Om rfl rfl (Og (vl_nilCheck rfl) rfl (Og (vl_fieldAddr fo98_1 rfl) rfl ?_))))))
  refine Og (vl_loadAgg ag30 sz30 rfl rfl h1.scells) rfl ?_
  refine O_go (gn rfl) (st_store sz30 rfl rfl rfl rfl k2 (by simp) (by have := h.sch.one; simpa using this) ?_)
  intro wA nA cA kA
  refine O_end [2] (F' := [(2, _)]) rfl ?_
  have kA : Blk wA b2 30 [c, k, u] := kA
  refine W_ret ?_
  refine retC rfl ag30 sz30 rfl rfl (Cells.of_blk0 kA) ?_
  exact ⟨rfl, c2.own cA (by intro y hy; simp at hy; omega)⟩
theorem t_Schema0 (w : World) : Ret Tryz.prog 34 #[.pointer none] w fun r w' => r = .agg #[.slice none 0 0, .slice none 0 0, .slice none 0 0] ∧ Chg [] w w' := by
  refine Ret.of_W (args := [_]) Tryz.func34 rfl rfl rfl rfl ?_

  refine Sr ?_
  refine O_go (gn rfl) (st_alloc zr30 rfl rfl ?_)
  intro b2 w2 e2 n2 c2 k2
  refine O_end [0, 2] (F' := [(0, _), (2, _)]) rfl (W_seq (Sr (Om rfl rfl ?_)))
  refine Og (vl_pnil pt31 rfl rfl) rfl ?_
  refine O_end [0, 2, 4] (F' := [(0, _), (2, _), (4, _)]) rfl (W_cond_true rfl (Sr ?_))
  refine Og (vl_build pl30 zr30 rfl (vs := []) rfl (css := []) trivial rfl rfl (cs := [_, _, _]) rfl) rfl ?_
  refine O_go (gn rfl) (st_store sz30 rfl rfl rfl rfl k2 (by simp) (by simp [Value.oneCell']) ?_)
  intro wA nA cA kA
  refine O_end [2] (F' := [(2, _)]) rfl ?_
  have kA : Blk wA b2 30 [.slice none 0 0, .slice none 0 0, .slice none 0 0] := kA
  refine W_ret ?_
  repeat (first | refine then_ret ?_ | refine block_ret ?_)
  refine retC rfl ag30 sz30 rfl rfl (Cells.of_blk0 kA) ?_
  exact ⟨rfl, c2.own cA (by intro y hy; simp at hy; omega)⟩
end
end Go.Wk

namespace Go.Wk
open Go.Proofs
set_option maxRecDepth 10000

theorem Pg.chgC {w w' : World} {p b : Nat} {e : TypeId} {x : List Value} {ls : List (List Ent)} (h : Pg w p ls) (hb : Blk w b e x) (h1 : Nat.beq 147 e = false) (h2 : Nat.beq 177 e = false) (h3 : Nat.beq 175 e = false) (hc : Chg [b] w w') : Pg w' p ls :=
  let ⟨v, g1, g2⟩ := h; ⟨v, g1.chg hc (by have := g1.ne hb h1; simpa using this), g2.chg1 hb h2 h3 hc⟩
theorem Pg.chgSl {w w' : World} {p : Nat} {ls : List (List Ent)} (h : Pg w p ls) {o : Value} {e : TypeId} {kk n : Nat} {ys : List Value} (hs : IsSl w e kk o n ys) (h1 : Nat.beq 147 e = false) (h2 : Nat.beq 177 e = false) (h3 : Nat.beq 175 e = false) (hc : Chg (blkOf o) w w') : Pg w' p ls := by
  rcases hs with ⟨rfl, _, _⟩ | ⟨b, off, cap, cc, rfl, hs⟩
  · exact h.chg0 hc
  · exact h.chgC hs.blk h1 h2 h3 hc
theorem PgL.all {w w' : World} (hp : ∀ p ls, Pg w p ls → Pg w' p ls) : ∀ {ps : List Nat} {ms : List (List (List Ent))}, PgL w ps ms → PgL w' ps ms
  | [], [], _ => trivial
  | _ :: _, _ :: _, h => ⟨hp _ _ h.1, PgL.all hp h.2⟩
theorem PgL.lt {w : World} : ∀ {ps : List Nat} {ms : List (List (List Ent))}, PgL w ps ms → ∀ p ∈ ps, p < w.heap.size
  | [], [], _, p, hp => by cases hp
  | _ :: _, _ :: _, h, p, hp => by
    rcases List.mem_cons.1 hp with rfl | hp
    · exact h.1.lt
    · exact h.2.lt p hp
/-- A table that is being built: its first sets. -/
structure TabPre (w0 wx : World) (tb pm : Nat) (c k u o : Value) (ys : List (Value × Nat)) (main : List (List Ent)) (subs : List (List (List Ent))) : Prop where
  blk : Blk wx tb 98 [.pointer (some ⟨pm, 0, none⟩), c, k, u, o]
  pg : Pg wx pm main
  sl : ArrS wx 103 2 scs o ys
  pgs : PgL wx (ys.map (·.2)) subs
  nd : (pm :: ys.map (·.2)).Nodup
  fr : ∀ p ∈ pm :: ys.map (·.2), w0.heap.size ≤ p
  fo : ∀ b ∈ blkOf o, w0.heap.size ≤ b
  ft : w0.heap.size ≤ tb
theorem TabPre.chg0 {w0 w w' : World} {tb pm : Nat} {c k u o : Value} {ys : List (Value × Nat)} {main : List (List Ent)} {subs : List (List (List Ent))} (h : TabPre w0 w tb pm c k u o ys main subs) (hc : Chg [] w w') : TabPre w0 w' tb pm c k u o ys main subs :=
  ⟨h.blk.chg0 hc, h.pg.chg0 hc, ArrS.chg0 h.sl hc, h.pgs.chg0 hc, h.nd, h.fr, h.fo, h.ft⟩
/-- .. behind one set more. -/
theorem TabPre.more {w0 w w1 w2 : World} {tb pm : Nat} {c k u o o' : Value} {ys : List (Value × Nat)} {main m : List (List Ent)} {subs : List (List (List Ent))} (h : TabPre w0 w tb pm c k u o ys main subs) {a : Value} {q : Nat} (hq : Pg w q m) (hqn : q ∉ pm :: ys.map (·.2)) (hqf : w0.heap.size ≤ q)
    (hc : Chg (blkOf o) w w1) (ho : IsSl w1 103 2 o' (ys.length + 1) (fl scs ys ++ scs (a, q))) (hfo : ∀ b ∈ blkOf o', w0.heap.size ≤ b) (hc2 : Chg [tb] w1 w2) (hb : Blk w2 tb 98 [.pointer (some ⟨pm, 0, none⟩), c, k, u, o']) :
    TabPre w0 w2 tb pm c k u o' (ys ++ [(a, q)]) main (subs ++ [m]) := by
  have htb : Blk w1 tb 98 [.pointer (some ⟨pm, 0, none⟩), c, k, u, o] := h.blk.chg hc (fun hm => IsSl.apart h.sl h.blk rfl tb hm (by simp))
  have hP : ∀ p ls, Pg w p ls → Pg w2 p ls := fun p ls hp => (hp.chgSl h.sl rfl rfl rfl hc).chgC htb rfl rfl rfl hc2
  refine ⟨hb, hP _ _ h.pg, ?_, ?_, ?_, ?_, hfo, h.ft⟩
  · refine Arr.push (n := ys.length + 1) ?_ rfl rfl
    exact IsSl.chg ho hc2 (IsSl.apart ho htb rfl)
  · rw [List.map_append]
    exact PgL.snoc (hP _ _ hq) (PgL.all hP h.pgs)
  · rw [List.map_append]
    show ((pm :: ys.map (·.2)) ++ [q]).Nodup
    rw [List.nodup_append]
    refine ⟨h.nd, by simp, fun x hx y hy => ?_⟩
    simp at hy
    subst hy
    exact fun e => hqn (e ▸ hx)
  · intro p hp
    rw [List.map_append] at hp
    rcases List.mem_cons.1 hp with rfl | hp
    · exact h.fr _ (by simp)
    · rcases List.mem_append.1 hp with hp | hp
      · exact h.fr p (List.mem_cons_of_mem _ hp)
      · simp at hp; subst hp; exact hqf
theorem t_Copy0 (w : World) : Ret Tryz.prog 35 #[.pointer none] w fun r w' => r = .pointer none ∧ w' = w := by
  refine Ret.of_W (args := [_]) Tryz.func35 rfl rfl rfl rfl ?_

  refine Sr (Oa rfl rfl (O_end [0] (F' := [(0, _)]) rfl (W_seq (Sr (Om rfl rfl ?_)))))
  refine Og (vl_pnil pt31 rfl rfl) rfl ?_
  refine O_end [0, 7] (F' := [(0, _), (7, _)]) rfl (W_cond_true rfl (Sr (Oa rfl rfl (O_end [2] (F' := [(2, _)]) rfl (W_ret ?_)))))
  repeat (first | refine then_ret ?_ | refine block_ret ?_)
  refine ret1 rfl rfl ?_
  exact ⟨rfl, rfl⟩
set_option maxHeartbeats 1000000 in
theorem t_Copy (t : Nat) (own : List Nat) (s : Sch) (rows : List (List Val)) (w : World) (h : IsTab w t own s rows) :
    Ret Tryz.prog 35 #[.pointer (some ⟨t, 0, none⟩)] w fun r w' => ∃ t' own', r = .pointer (some ⟨t', 0, none⟩) ∧ IsTab w' t' own' s rows ∧ w.heap.size ≤ t' ∧ (∀ p ∈ own', w.heap.size ≤ p) ∧ Chg [] w w' := by
  have hT := h
  obtain ⟨pm, c, k, u, sv, xs, main, subs, rfl, hm, ht⟩ := h
  obtain ⟨l1, l2⟩ := hm.lens
  obtain ⟨psv, csv, rfl, hcsv⟩ := ArrS.val hm.sl
  have hn3 := (right_parts ht.ok.right).2.1
  have hn4 : (setsN s).length ≤ 4 := by simp [setsN]; omega
  refine Ret.of_W (args := [_]) Tryz.func35 rfl rfl rfl rfl ?_

  refine Sr (Oa rfl rfl (O_end [0] (F' := [(0, _)]) rfl (W_seq (Sr (Om rfl rfl ?_)))))
  refine Og (vl_pnil pt31 rfl rfl) rfl ?_
  refine O_end [0, 7] (F' := [(0, _), (7, _)]) rfl (W_cond_false rfl (W_skipE (W_seq ?_)))
  have hd : Chg [] w w.drew := Chg.drew [] _
  refine W_draw (fun wz => Chg [] w wz) mix (by kernel_rfl) hd ?_
  refine Tm rfl rfl ?_
  refine t_pure rfl (gn rfl) (fun _ => vl_nilCheck rfl) rfl rfl ?_
  refine t_pure rfl (gn rfl) (fun _ => vl_fieldAddr fo98_0 rfl) rfl rfl ?_
  refine t_read rfl (gn rfl) (fun wz hz => vl_load ag94 rfl ((hm.blk.chg0 hz).cell' rfl)) rfl rfl ?_
  refine t_st rfl (gn rfl) (st_call bd72 rfl rfl rfl rfl (f19 pm main _ (hm.pg.chg0 hd) (by have := ht.le; omega)) ?_)
  rintro v12 w12 ⟨q, rfl, hqf, hq, c12⟩
  refine ⟨.inl (hd.trans c12), ?_⟩
  refine Tm rfl rfl ?_
  refine t_pure rfl (gn rfl) (fun _ => vl_nilCheck rfl) rfl rfl ?_
  refine t_pure rfl (gn rfl) (fun _ => vl_fieldAddr fo98_1 rfl) rfl rfl ?_
  refine t_read rfl (gn rfl) (fun wz hz => vl_loadAgg ag30 sz30 rfl rfl (hm.chg0 hz).scells) rfl rfl ?_
  refine t_pure rfl (gn rfl) (fun _ => vl_build pl98 zr98 rfl (vs := [_, _]) rfl (css := [_, _]) ⟨rfl, rfl, trivial⟩ rfl rfl (cs := [_, _, _, _, _]) rfl) rfl rfl ?_
  refine t_st rfl (gn rfl) (st_box rfl rfl rfl ?_)
  intro b18 w18 e18 n18 c18 k18
  refine ⟨.inl ((hd.trans c12).trans c18), ?_⟩
  refine Ta rfl rfl ?_
  refine T_end [0, 3] (F' := [(0, _), (3, _)]) rfl ?_
  have k18 : Blk w18 b18 98 [.pointer (some ⟨q, 0, none⟩), c, k, u, .slice none 0 0] := k18
  have hcA := (hd.trans c12).trans c18
  have hsd := hd.size
  have hs12 := c12.size
  have hpre : TabPre w w18 b18 q c k u (.slice none 0 0) [] main [] := ⟨k18, hq.chg0 c18, IsSl.nil _ _ _, trivial, by simp, by simp; omega, by simp [blkOf], by omega⟩
  have hm1 := hm.chg0 hcA
  refine W_seq (Sr (Om rfl rfl (Og (vl_nilCheck rfl) rfl (Og (vl_fieldAddr fo98_2 rfl) rfl ?_))))
  refine Og (vl_load ag96 rfl (hm1.blk.cell' rfl)) rfl ?_
  refine Og (vl_len sl96 rfl) rfl (Om rfl rfl (O_end [3, 22, 23, 24] (F' := [(3, _), (22, _), (23, _), (24, _)]) rfl (W_block ?_)))
  refine W_loop [3, 22, 23, 24] (fun m F wx => ∃ (j : Nat) (o : Value) (ys : List (Value × Nat)), m = xs.length - j ∧ j ≤ xs.length ∧ F = [(3, .pointer (some ⟨b18, 0, none⟩)), (22, .slice psv xs.length csv), (23, .int .i64 xs.length), (24, .int .i64 j)] ∧ TabPre w wx b18 q c k u o ys main (subs.take j) ∧ ys.map (·.1) = (xs.take j).map (·.1) ∧ Chg [] w wx) (m := xs.length - 0) ⟨0, _, [], rfl, Nat.zero_le _, rfl, hpre, by simp, hcA⟩ ?_
  rintro m F wx ⟨j, o, ys, rfl, hj, rfl, hp, hys, hcx⟩
  have hx := hm.chg0 hcx
  refine Sr (Og (vl_lss rfl rfl) rfl (O_end [3, 22, 23, 24, 25] (F' := [(3, _), (22, _), (23, _), (24, _), (25, _)]) rfl (W_seq ?_)))
  refine W_cond rfl (fun hT' => ?_) (fun hF => ?_)
  · refine W_skipE ?_
    have hlt : j < xs.length := by have := of_decide_eq_true hT'; omega
    obtain ⟨a, p, st, m, b, off, cap, e1, e2, e3, ha, hpg, hsv, hcell, hqm⟩ := hx.at (j := j) (by omega)
    cases hsv
    have hst : st ∈ setsN s := List.mem_of_getElem? e2
    have hsub := SubsOk.st ht.subs e2 e3
    obtain ⟨pa, ca, rfl, _⟩ := id (Arr.val ha)
    have hyl : ys.length = j := by have := congrArg List.length hys; simpa [Nat.min_eq_left hj] using this
    refine W_seq (W_block (Sr ?_))
    refine Og (vl_indexAddr sl96 sz103 rfl rfl _ rfl hlt) rfl ?_
    refine Og (vl_loadAgg ag103 sz103 rfl rfl hcell) rfl ?_
    refine O_go (gn rfl) (st_alloc zr103 rfl rfl ?_)
    intro b5 w5 e5 n5 c5 k5
    refine O_go (gn rfl) (st_store sz103 rfl rfl rfl rfl k5 (by simp) (by intro u hu; simp at hu; rcases hu with rfl | rfl; exact Arr.one1 ha; rfl) ?_)
    intro wA nA cA kA
    refine O_end [3, 5, 22, 23, 24] (F' := [(3, _), (5, _), (22, _), (23, _), (24, _)]) rfl ?_
    have kA : Blk wA b5 103 [.slice pa st.length ca, .pointer (some ⟨p, 0, none⟩)] := kA
    have hcB : Chg [] wx wA := c5.own cA (by intro y hy; simp at hy; omega)
    have hpA := hp.chg0 hcB
    have hdA : Chg [] wA wA.drew := Chg.drew [] _
    have hbo : b18 ∉ blkOf o := fun hm => IsSl.apart hpA.sl hpA.blk rfl b18 hm (by simp)
    refine W_draw (fun wz => Chg [] wA wz) mix (by kernel_rfl) hdA ?_
    refine Tm rfl rfl (Tm rfl rfl ?_)
    refine t_pure rfl (gn rfl) (fun _ => vl_nilCheck rfl) rfl rfl ?_
    refine t_pure rfl (gn rfl) (fun _ => vl_fieldAddr fo98_2 rfl) rfl rfl ?_
    refine t_read rfl (gn rfl) (fun wz hz => vl_load ag96 rfl ((hpA.blk.chg0 hz).cell' rfl)) rfl rfl ?_
    refine t_pure rfl (gn rfl) (fun _ => vl_fieldAddr fo103_0 rfl) rfl rfl ?_
    refine t_read rfl (gn rfl) (fun wz hz => vl_load ag27 rfl ((kA.chg0 hz).cell' rfl)) rfl rfl ?_
    refine t_pure rfl (gn rfl) (fun _ => vl_fieldAddr fo103_1 rfl) rfl rfl ?_
    refine t_read rfl (gn rfl) (fun wz hz => vl_load ag94 rfl ((kA.chg0 hz).cell' rfl)) rfl rfl ?_
    refine t_st rfl (gn rfl) (st_call bd72 rfl rfl rfl rfl (f19 p m _ ((hpg.chg0 hcB).chg0 hdA) (by have := hsub.le ht.ok; omega)) ?_)
    rintro v37 w37 ⟨q', rfl, hqf', hq', c37⟩
    refine ⟨.inl (hdA.trans c37), ?_⟩
    refine t_pure rfl (gn rfl) (fun _ => vl_build pl103 zr103 rfl (vs := [_, _]) rfl (css := [_, _]) ⟨rfl, rfl, trivial⟩ rfl rfl (cs := [_, _]) rfl) rfl rfl ?_
    refine t_st rfl (gn rfl) (st_buildSlice ap96 rfl (vs := [_]) rfl (css := [_]) ⟨rfl, trivial⟩ rfl rfl (cs := [_, _]) rfl rfl ?_)
    intro b39 w39 e39 n39 c39 k39
    refine ⟨.inl ((hdA.trans c37).trans c39), ?_⟩
    refine t_st rfl (gn rfl) (st_append ap96 sl96 rfl rfl (ArrS.chg0 hpA.sl ((hdA.trans c37).trans c39)) (IsSl.of_blk (n := 1) (c := scs (.slice pa st.length ca, q')) k39 rfl (by simp [maxLen]) (by intro u hu; simp [scs] at hu; rcases hu with rfl | rfl; exact Arr.one1 ha; rfl)) (by simp only [maxLen]; omega) (by omega) rfl ?_)
    intro v40 w40 i40 c40 o40 z40
    obtain ⟨p40, q40, rfl, _⟩ := id (IsSl.val i40)
    refine ⟨.inr (by kernel_rfl), ?_⟩
    refine t_pure rfl (gn rfl) (fun _ => vl_nilCheck rfl) rfl rfl ?_
    refine t_pure rfl (gn rfl) (fun _ => vl_fieldAddr fo98_2 rfl) rfl rfl ?_
    refine t_st rfl (gn rfl) (st_store sz96 rfl rfl rfl rfl ((hpA.blk.chg0 ((hdA.trans c37).trans c39)).chg c40 hbo) (by simp) (by intro u hu; simp at hu; subst hu; rfl) ?_)
    intro wB nB cB kB
    refine ⟨.inr (by kernel_rfl), ?_⟩
    refine T_endN [3, 22, 23, 24] (F' := [(3, _), (22, _), (23, _), (24, _)]) rfl ?_
    have kB : Blk wB b18 98 [.pointer (some ⟨q, 0, none⟩), c, k, u, .slice p40 (ys.length + 1) q40] := kB
    refine block_normal ?_
    have hc39 : Chg [] wA w39 := (hdA.trans c37).trans c39
    have hsx := hcx.size
    have hsB := hcB.size
    have hsd2 := hdA.size
    have hs37 := c37.size
    have hs39 := c39.size
    have hmore := (hpA.chg0 hc39).more (a := .slice pa st.length ca) (hq'.chg0 c39) (fun hm => by
      rcases List.mem_cons.1 hm with rfl | hm
      · have := hp.pg.lt; omega
      · have := hp.pgs.lt q' hm; omega) (by omega) c40 i40 (fresh_of o40 hp.fo (by omega)) cB kB
    refine W_region ?_
    refine Og (vl_add rfl rfl (by omega)) rfl ?_
    refine Om rfl rfl ?_
    refine O_endN [3, 22, 23, 24] (F' := [(3, _), (22, _), (23, _), (24, _)]) rfl ?_
    refine ⟨xs.length - (j + 1), by omega, j + 1, _, _, rfl, by omega, rfl, by rw [take_snoc e3]; exact hmore, ?_, ?_⟩
    · rw [List.map_append, hys, take_snoc e1, List.map_append]
      rfl
    · have h1 : Chg (blkOf o ++ [b18]) wx wB := (((hcB.any (S := blkOf o ++ [b18])).transS (hc39.any)).transS (c40.weak (fun y hy => by simp [hy]))).transS (cB.weak (by simp))
      exact hcx.own h1 (fun y hy => by
        rcases List.mem_append.1 hy with hy | hy
        · exact hp.fo y hy
        · simp at hy; subst hy; exact hp.ft)
  · refine W_exit ?_
    repeat (first | refine then_exit ?_ | refine blockF_other rfl ?_)
    refine blockF_exit _ ?_
    have he : xs.length ≤ j := by have := of_decide_eq_false hF; omega
    rw [List.take_of_length_le (by omega)] at hp hys
    refine Sr (Om rfl rfl (Oa rfl rfl (O_end [2] (F' := [(2, _)]) rfl (W_ret ?_))))
    refine ret1 rfl rfl ?_
    exact ⟨b18, q :: ys.map (·.2), rfl, ⟨q, c, k, u, o, ys, main, subs, rfl, ⟨hp.blk, hx.sch, hp.pg, hp.sl, hys ▸ hx.ats, hp.pgs, hp.nd⟩, ht⟩, hp.ft, hp.fr, hcx⟩
end Go.Wk

namespace Go.Wk
open Go.Proofs
set_option maxRecDepth 10000

theorem u_grow (n : Nat) (w : World) (hn : n ≤ 4294967296) : Ret Tryz.prog 119 #[.slice none 0 0, .int .i64 n] w fun r w' => IsSl w' 27 1 r 0 [] ∧ (∀ b ∈ blkOf r, w.heap.size ≤ b) ∧ Chg [] w w' := by
  refine Ret.of_W (args := [_, _]) Tryz.func119 rfl rfl rfl rfl ?_

  refine Sr (Oa rfl rfl (O_end [0, 1] (F' := [(0, _), (1, _)]) rfl (W_seq (Sr (Om rfl rfl (Og (vl_lss rfl rfl) rfl (O_end [0, 1, 6] (F' := [(0, _), (1, _), (6, _)]) rfl ?_)))))))
  refine W_cond rfl (fun hT => ?_) (fun hF => ?_)
  · exfalso
    have := of_decide_eq_true hT
    omega
  · refine W_skipE (W_seq (Sr (Om rfl rfl (Om rfl rfl ?_))))
    refine Og (vl_cap sl28 rfl) rfl ?_
    refine Om rfl rfl (Og (vl_len sl28 rfl) rfl ?_)
    refine Og (vl_sub rfl rfl (by omega)) rfl ?_
    refine Og (vl_eq (v' := .int .i64 n) (vl_sub rfl rfl (by omega)) (by congr 1 <;> omega)) rfl ?_
    refine Oa rfl rfl (O_end [0, 1] (F' := [(0, _), (1, _)]) rfl (Sr (Om rfl rfl ?_)))
    refine Og (vl_gtr rfl rfl) rfl ?_
    refine O_end [0, 1, 16] (F' := [(0, _), (1, _), (16, _)]) rfl ?_
    refine W_cond rfl (fun hT => ?_) (fun hF => ?_)
    · have hpos : 0 < n := by have := of_decide_eq_true hT; omega
      refine W_region (Om rfl rfl (Om rfl rfl ?_))
      refine Og (vl_cap sl28 rfl) rfl ?_
      refine Og (vl_cut_h sl28 sz27 rfl rfl _ rfl (by omega)) rfl ?_
      refine Om rfl rfl ?_
      refine O_go (gn rfl) (st_appendMake ap28 it3_i64 rfl rfl rfl (IsSl.nil _ _ _) (fun p c he => by simp [cut] at he; omega) (by simp only [maxLen]; omega) (by omega) rfl ?_)
      intro b cap zs w22 hb c22 hge hle hzl hone k22
      refine Om rfl rfl (Og (vl_len sl28 rfl) rfl ?_)
      refine Og (vl_cut_h sl28 sz27 rfl rfl 0 rfl (by omega)) rfl ?_
      refine Oa rfl rfl (O_end [0] (F' := [(0, _)]) rfl (Sr (Om rfl rfl (Oa rfl rfl (O_end [4] (F' := [(4, _)]) rfl (W_ret ?_))))))
      refine ret1 rfl rfl ?_
      have hsl : SlAt w22 27 1 b 0 (0 + n) cap ([] ++ zs) (((([] ++ zs) : List Value).drop 0).take ((0 + n) * 1)) := ⟨k22, hge, hle, by simp only [List.nil_append]; omega, rfl, hone⟩
      have hc := hsl.cut (l := 0) (h := 0) (m := cap) (Nat.le_refl _) (Nat.zero_le _) (Nat.le_refl _)
      refine ⟨by simpa using hc, fun x hx => ?_, c22⟩
      have := IsSl.cutBlk (len := 0) (cap := 0) x hx
      simp [blkOf] at this
      omega
    · refine W_skipE (Sr (Om rfl rfl (Oa rfl rfl (O_end [4] (F' := [(4, _)]) rfl (W_ret ?_)))))
      refine ret1 rfl rfl ?_
      exact ⟨IsSl.nil _ _ _, by simp [blkOf], Chg.refl _ _⟩
/-- Slices, and what each reads. -/
def HL (w : World) (vs : List Value) (lss : List (List Value)) : Prop := vs.length = lss.length ∧ ∀ (i : Nat) (x : Value) (ls : List Value), vs[i]? = some x → lss[i]? = some ls → Rd w 1 x ls.length ls
theorem HL.chg0 {w w' : World} {vs : List Value} {lss : List (List Value)} (h : HL w vs lss) (hc : Chg [] w w') : HL w' vs lss := ⟨h.1, fun i x ls h1 h2 => (h.2 i x ls h1 h2).chg0 hc⟩
theorem u_concat (v : Value) (vs : List Value) (lss : List (List Value)) (w : World) (hv : IsSl w 28 1 v lss.length vs) (hl : HL w vs lss) (hn : lss.flatten.length ≤ 1048576) (hn2 : lss.length ≤ 1048576) :
    Ret Tryz.prog 77 #[v] w fun r w' => IsSl w' 27 1 r lss.flatten.length lss.flatten ∧ (∀ b ∈ blkOf r, w.heap.size ≤ b) ∧ Chg [] w w' := by
  obtain ⟨pv, cv, rfl, hcv⟩ := id (IsSl.val hv)
  have hfl : ∀ j, (lss.take j).flatten.length ≤ lss.flatten.length := fun j => by
    have := congrArg (fun l => (List.flatten l).length) (List.take_append_drop j lss)
    simp only [List.flatten_append, List.length_append] at this
    omega
  refine Ret.of_W (args := [_]) Tryz.func77 rfl rfl rfl rfl ?_

  refine Sr (Oa rfl rfl (O_end [0] (F' := [(0, _)]) rfl (Sr (Oa rfl rfl (O_end [0, 3] (F' := [(0, _), (3, _)]) rfl (W_seq (Sr (Om rfl rfl (Og (vl_len sl197 rfl) rfl (Om rfl rfl ?_))))))))))
  refine O_end [0, 3, 9, 10, 11] (F' := [(0, _), (3, _), (9, _), (10, _), (11, _)]) rfl (W_block ?_)
  refine W_loop [0, 3, 9, 10, 11] (fun m F wx => ∃ (j : Nat), m = lss.length - j ∧ j ≤ lss.length ∧ F = [(0, .slice pv lss.length cv), (3, .int .i64 (lss.take j).flatten.length), (9, .slice pv lss.length cv), (10, .int .i64 lss.length), (11, .int .i64 j)] ∧ wx = w) (m := lss.length - 0) ⟨0, rfl, Nat.zero_le _, rfl, rfl⟩ ?_
  rintro m F wx ⟨j, rfl, hj, rfl, rfl⟩
  refine Sr (Og (vl_lss rfl rfl) rfl (O_end [0, 3, 9, 10, 11, 12] (F' := [(0, _), (3, _), (9, _), (10, _), (11, _), (12, _)]) rfl (W_seq ?_)))
  refine W_cond rfl (fun hT => ?_) (fun hF => ?_)
  · refine W_skipE ?_
    have hlt : j < lss.length := by have := of_decide_eq_true hT; omega
    have hx : lss[j]? = some lss[j] := by simp [hlt]
    generalize lss[j] = ls at hx
    obtain ⟨b, off, cap, x, hve, hxe, hcell⟩ := hv.at1 hlt
    cases hve
    have hls := hl.2 j x ls hxe hx
    obtain ⟨pl, cl, rfl, _⟩ := hls.val
    have hsum : (lss.take (j + 1)).flatten.length = (lss.take j).flatten.length + ls.length := by rw [take_snoc hx]; simp
    have hb := hfl (j + 1)
    refine W_seq (W_block (Sr ?_))
    refine Og (vl_indexAddr sl197 sz28 rfl rfl _ rfl hlt) rfl ?_
    refine Og (vl_load ag28 rfl hcell) rfl ?_
    refine Oa rfl rfl (O_end [0, 3, 5, 9, 10, 11] (F' := [(0, _), (3, _), (5, _), (9, _), (10, _), (11, _)]) rfl (Sr (Om rfl rfl (Om rfl rfl (Og (vl_len sl28 rfl) rfl ?_)))))
    refine Og (vl_eq (v' := .int .i64 (((lss.take j).flatten.length + ls.length : Nat) : Int)) (vl_add rfl rfl (by omega)) (by congr 1)) rfl ?_
    refine Oa rfl rfl (O_end [0, 3, 9, 10, 11] (F' := [(0, _), (3, _), (9, _), (10, _), (11, _)]) rfl (Sr (Om rfl rfl ?_)))
    refine Og (vl_is (b' := false) (vl_lss rfl rfl) (decide_eq_false (by omega))) rfl ?_
    refine O_end [0, 3, 9, 10, 11, 20] (F' := [(0, _), (3, _), (9, _), (10, _), (11, _), (20, _)]) rfl (W_cond_false rfl (W_skip (block_normal (W_region ?_))))
    refine Og (vl_add rfl rfl (by omega)) rfl ?_
    refine Om rfl rfl ?_
    refine O_endN [0, 3, 9, 10, 11] (F' := [(0, _), (3, _), (9, _), (10, _), (11, _)]) rfl ?_
    exact ⟨lss.length - (j + 1), by omega, j + 1, rfl, by omega, by rw [hsum]; rfl, rfl⟩
  · refine W_exit ?_
    repeat (first | refine then_exit ?_ | refine blockF_other rfl ?_)
    refine blockF_exit _ ?_
    have he : j = lss.length := by have := of_decide_eq_false hF; omega
    subst he
    rw [List.take_length]
    refine Sr (Om rfl rfl ?_)
    refine O_go (gn rfl) (st_call bd119 rfl rfl rfl rfl (u_grow _ _ (by omega)) ?_)
    rintro v24 w24 ⟨i24, f24', c24⟩
    refine Oa rfl rfl (O_end [0, 6] (F' := [(0, _), (6, _)]) rfl (W_seq (Sr (Om rfl rfl (Og (vl_len sl197 rfl) rfl (Om rfl rfl (O_end [6, 25, 26, 27] (F' := [(6, _), (25, _), (26, _), (27, _)]) rfl (W_block ?_))))))))
    refine W_loop [6, 25, 26, 27] (fun m F wy => ∃ (j : Nat) (o : Value), m = lss.length - j ∧ j ≤ lss.length ∧ F = [(6, o), (25, .slice pv lss.length cv), (26, .int .i64 lss.length), (27, .int .i64 j)] ∧ IsSl wy 27 1 o (lss.take j).flatten.length (lss.take j).flatten ∧ (∀ b ∈ blkOf o, wx.heap.size ≤ b) ∧ Chg [] wx wy) (m := lss.length - 0) ⟨0, _, rfl, Nat.zero_le _, rfl, i24, f24', c24⟩ ?_
    rintro m F wy ⟨j, o, rfl, hj, rfl, ho, hfo, hcy⟩
    refine Sr (Og (vl_lss rfl rfl) rfl (O_end [6, 25, 26, 27, 28] (F' := [(6, _), (25, _), (26, _), (27, _), (28, _)]) rfl (W_seq ?_)))
    refine W_cond rfl (fun hT => ?_) (fun hF => ?_)
    · refine W_skipE ?_
      have hlt : j < lss.length := by have := of_decide_eq_true hT; omega
      have hx : lss[j]? = some lss[j] := by simp [hlt]
      generalize lss[j] = ls at hx
      obtain ⟨b, off, cap, x, hve, hxe, hcell⟩ := (IsSl.chg0 hv hcy).at1 hlt
      cases hve
      have hls := hl.2 j x ls hxe hx
      have hsum : (lss.take (j + 1)).flatten = (lss.take j).flatten ++ ls := by rw [take_snoc hx]; simp
      have hb := hfl (j + 1)
      rw [hsum, List.length_append] at hb
      have hl1 := hls.chg0 hcy
      refine W_seq (W_block (Sr ?_))
      refine Og (vl_indexAddr sl197 sz28 rfl rfl _ rfl hlt) rfl ?_
      refine Og (vl_load ag28 rfl hcell) rfl ?_
      refine Oa rfl rfl (O_end [6, 8, 25, 26, 27] (F' := [(6, _), (8, _), (25, _), (26, _), (27, _)]) rfl (W_region (Om rfl rfl (Om rfl rfl ?_))))
      refine O_go (gn rfl) (st_appendW ap28 sl28 rfl rfl ho hl1 (by simp only [maxLen]; omega) (by omega) rfl ?_)
      intro v33 w33 i33 c33 o33 z33
      refine Oa rfl rfl ?_
      refine O_endN [6, 25, 26, 27] (F' := [(6, _), (25, _), (26, _), (27, _)]) rfl ?_
      refine block_normal (W_region ?_)
      refine Og (vl_add rfl rfl (by omega)) rfl ?_
      refine Om rfl rfl ?_
      refine O_endN [6, 25, 26, 27] (F' := [(6, _), (25, _), (26, _), (27, _)]) rfl ?_
      have hsy := hcy.size
      refine ⟨lss.length - (j + 1), by omega, j + 1, v33, rfl, by omega, rfl, ?_, fresh_of o33 hfo (by omega), hcy.own c33 hfo⟩
      rw [hsum, List.length_append]; exact i33
    · refine W_exit ?_
      repeat (first | refine then_exit ?_ | refine blockF_other rfl ?_)
      refine blockF_exit _ ?_
      have he : lss.length ≤ j := by have := of_decide_eq_false hF; omega
      rw [List.take_of_length_le he] at ho
      refine Sr (Om rfl rfl (Oa rfl rfl (O_end [2] (F' := [(2, _)]) rfl (W_ret ?_))))
      refine ret1 rfl rfl ?_
      exact ⟨ho, hfo, hcy⟩
end Go.Wk
