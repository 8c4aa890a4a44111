/-
  The law PagePlays, walked.
-/
import Derived.Test.YthbahcjkncfpdaaP23
namespace Go.Wk
open Go.Proofs
set_option maxRecDepth 10000

theorem f4 (v : Value) (acts : List (Int × ByteArray × ByteArray)) (w : World) (h : IsActs w v acts) :
    Ret Try.prog 4 #[v] w fun r w' => r = .bool true ∧ Chg [] w w' := by
  refine Ret.of_WM (args := [_]) Try.func4 rfl rfl rfl rfl ?_

  refine W_seq ?_
  refine W_region ?_
  refine O_go (gn rfl) (st_alloc zr4 rfl rfl ?_)
  intro b2 w2 e2 n2 c2 k2
  refine O_end [0, 2] (F' := [(0, _), (2, _)]) rfl ?_
  have hs2 := c2.size
  refine W_seq_cut (fun F' w' => F' = [(0, v), (2, .pointer (some ⟨b2, 0, none⟩))] ∧ w2 = w' ∧ acts.length ≤ 80 ∧ Small acts) ?_ ?_
  · refine W_seq ?_
    refine W_region ?_
    refine O_go (gn rfl) (St.vl (vl_move rfl) rfl rfl ?_)
    refine O_go (gn rfl) (st_call bd7 rfl rfl rfl rfl (f7 v acts 80 _ (h.chg0 c2) (by omega)) ?_)
    rintro v20 w20 ⟨⟨b, rfl, hb⟩, rfl⟩
    refine O_go (gn rfl) (St.vl (vl_not rfl) rfl rfl ?_)
    refine O_end [0, 2, 21] (F' := [(0, _), (2, _), (21, _)]) rfl ?_
    cases b with
    | false =>
      refine W_cond_true rfl ?_
      refine W_seq ?_
      refine W_region ?_
      refine O_go (gn rfl) (st_call bd8 rfl rfl rfl rfl (f8 _) ?_)
      rintro v22 w22 ⟨rfl, c22⟩
      refine O_go (gn rfl) (st_store sz4 rfl rfl rfl rfl (k2.chg0 c22) (by simp) (by intro u hu; simp at hu; subst hu; rfl) ?_)
      intro wF nF cF kF
      refine O_end [2] (F' := [(2, _)]) rfl ?_
      refine W_ret ?_
      refine then_ret ?_
      refine retM0 rfl ag4 rfl (kF.cell' rfl) ?_
      exact ⟨rfl, (c2.trans c22).own cF (by intro x hx; simp at hx; omega)⟩
    | true =>
      refine W_cond_false rfl ?_
      refine W_prune [0, 2] rfl ?_
      refine W_skipE ?_
      exact ⟨rfl, rfl, (hb rfl).1, (hb rfl).2⟩
  rintro F' w' ⟨rfl, rfl, hlen, hsm⟩
  refine W_seq ?_
  refine W_region ?_
  refine O_go (gn rfl) (st_call bd9 rfl rfl rfl rfl (f9 _) ?_)
  rintro v23 w23 ⟨p, rfl, hpn, hp23, c23⟩
  refine O_go (gn rfl) (St.vl (vl_assign rfl) rfl rfl ?_)
  refine O_end [0, 2, 3] (F' := [(0, _), (2, _), (3, _)]) rfl ?_
  refine W_seq ?_
  refine W_region ?_
  refine O_go (gn rfl) (st_alloc zr48 rfl rfl ?_)
  intro b4 w4 e4 n4 c4 k4
  refine O_end [0, 2, 3, 4] (F' := [(0, _), (2, _), (3, _), (4, _)]) rfl ?_
  have hs23 := c23.size
  have hc4 : Chg [] w w4 := (c2.trans c23).trans c4
  have hk2 : Blk w4 b2 4 [.bool false] := (k2.chg0 c23).chg0 c4
  obtain ⟨pv, cv, rfl, hacts⟩ := id h
  refine W_seq ?_
  refine W_seq ?_
  refine W_region ?_
  refine O_go (gn rfl) (St.vl (vl_assign rfl) rfl rfl ?_)
  refine O_end [0, 2, 3, 4, 5] (F' := [(0, _), (2, _), (3, _), (4, _), (5, _)]) rfl ?_
  refine W_block ?_
  refine W_loop [0, 2, 3, 4, 5] (fun m F wx => Chg [] w wx ∧ ∃ (j p' : Nat) (ls : List (List Ent)) (v' : Value), m = acts.length - j ∧ j ≤ acts.length ∧ F = [(0, .slice pv acts.length cv), (2, .pointer (some ⟨b2, 0, none⟩)), (3, .pointer (some ⟨p', 0, none⟩)), (4, .pointer (some ⟨b4, 0, none⟩)), (5, .int .i64 j)] ∧ Pg wx p' ls ∧ RPg wx v' ls ∧ Blk wx b4 48 [v'] ∧ Blk wx b2 4 [.bool false] ∧ WfP ls ∧ ls.length ≤ j ∧ w.heap.size ≤ p') (m := acts.length - 0) ⟨hc4, 0, p, [], _, rfl, Nat.zero_le _, rfl, hp23.chg0 c4, ⟨[], IsSl.nil _ _ _, trivial⟩, k4, hk2, WfP.nil, by simp, by omega⟩ ?_
  rintro m F wx ⟨hcx, j, p', ls, v', rfl, hj, rfl, hpx, hrx, hb4, hb2, hw, hll, hpn'⟩
  refine W_seq ?_
  refine W_seq ?_
  refine W_region ?_
  refine O_go (gn rfl) (St.vl (vl_move rfl) rfl rfl ?_)
  refine O_go (gn rfl) (St.vl (vl_move rfl) rfl rfl ?_)
  refine O_go (gn rfl) (St.vl (vl_len sl22 rfl) rfl rfl ?_)
  refine O_go (gn rfl) (St.vl (vl_lss rfl rfl) rfl rfl ?_)
  refine O_end [0, 2, 3, 4, 5, 27] (F' := [(0, _), (2, _), (3, _), (4, _), (5, _), (27, _)]) rfl ?_
  refine W_cond rfl (fun hT => ?_) (fun hF => ?_)
  · refine W_skipE ?_
    have hlt : j < acts.length := by have := of_decide_eq_true hT; omega
    have hx : acts[j]? = some acts[j] := by simp [hlt]
    have hxs := hsm _ (List.mem_of_getElem? hx)
    generalize acts[j] = x at hx hxs
    obtain ⟨ba, oa, rfl, hca⟩ := hacts j x hx
    obtain ⟨vp, hbp, _⟩ := id hpx
    have hn4 : b4 ∉ [p'] := by simpa using Blk.ne hb4 hbp rfl
    have hn2 : b2 ∉ [p'] := by simpa using Blk.ne hb2 hbp rfl
    have hd := Chg.drew [] wx
    have hcd : ∀ wz, Chg [p'] wx wz → Chg [] w wz := fun wz hz => hcx.own hz (by intro y hy; simp at hy; omega)
    have hsx := hcx.size
    refine W_seq ?_
    refine W_block ?_
    refine W_seq_cut (fun F' w' => ∃ (q b7 : Nat) (v2 : Value), F' = [(0, .slice (some ⟨ba, oa, none⟩) acts.length cv), (2, .pointer (some ⟨b2, 0, none⟩)), (4, .pointer (some ⟨b4, 0, none⟩)), (5, .int .i64 j), (6, .pointer (some ⟨q, 0, none⟩)), (7, .pointer (some ⟨b7, 0, none⟩)), (8, .bool true)] ∧ Chg [p'] wx w' ∧ Pg w' q (actP ls x.1 x.2.1 x.2.2) ∧ RPg w' v2 (actP ls x.1 x.2.1 x.2.2) ∧ Blk w' b7 48 [v2] ∧ (q = p' ∨ wx.heap.size ≤ q) ∧ wx.heap.size ≤ b7) ?_ ?_
    · have hsd := hd.size
      have hpl := hpx.lt
      refine W_drawF (fun wz => Chg [p'] wx wz) (Tree.seq [0, 1, 2, 3, 4, 5] (.two 6 (Tree.seq [7, 8, 9, 10, 11, 12, 13, 14] .done) 11 (Tree.seq [6, 7, 8, 9, 10, 12, 13, 14] .done))) mix (by kernel_rfl) hd.any ?_
      refine f_pure rfl rfl (gn rfl) (fun _ => vl_move rfl) rfl rfl ?_
      refine f_read rfl rfl (gn rfl) (fun wz hz => vl_loadAgg ag48 sz48 rfl rfl (Cells.of_blk0 (hb4.chg hz hn4))) rfl rfl ?_
      refine f_pure rfl rfl (gn rfl) (fun _ => vl_move rfl) rfl rfl ?_
      refine f_pure rfl rfl (gn rfl) (fun _ => vl_move rfl) rfl rfl ?_
      refine f_pure rfl rfl (gn rfl) (fun _ => vl_indexAddr sl22 sz29 rfl rfl _ rfl hlt) rfl rfl ?_
      refine f_read rfl rfl (gn rfl) (fun wz hz => vl_loadAgg ag29 sz29 rfl rfl (hca.chg0 (hcd _ hz))) rfl rfl ?_
      refine f_two ?_ ?_
      · -- the call first
        refine f_st rfl rfl (gn rfl) (st_call bd16 rfl rfl rfl rfl (f16 p' v' ls x.1 x.2.1 x.2.2 _ (hpx.chg0 hd) (hrx.chg0 hd) hw (by omega) (by omega)) ?_)
        rintro v37 w37 ⟨q, v2, rfl, hpq, hrq, c37, hq⟩
        obtain ⟨vs2, hs2', _⟩ := id hrq
        obtain ⟨p2, d2, rfl, _⟩ := hs2'.val
        have hc37 := (hd.any (S := [p'])).transS c37
        have hs37 := hc37.size
        refine ⟨.inl hc37, ?_⟩
        refine f_pure rfl rfl (gn rfl) (fun _ => vl_move rfl) rfl rfl ?_
        refine f_pure rfl rfl (gn rfl) (fun _ => vl_extract rfl rfl) rfl rfl ?_
        refine f_pure rfl rfl (gn rfl) (fun _ => vl_extract rfl rfl) rfl rfl ?_
        refine f_pure rfl rfl (gn rfl) (fun _ => vl_extract rfl rfl) rfl rfl ?_
        refine f_st rfl rfl (gn rfl) (st_alloc zr48 rfl rfl ?_)
        intro b7 w7 e7 n7 c7 k7
        refine ⟨.inl (hc37.trans c7), ?_⟩
        refine f_pure rfl rfl (gn rfl) (fun _ => vl_assign rfl) rfl rfl ?_
        refine f_st rfl rfl (gn rfl) (st_store sz48 rfl rfl rfl rfl k7 (by simp) (by intro u hu; simp at hu; subst hu; rfl) ?_)
        intro wA nA cA kA
        refine ⟨.inl ((hc37.trans c7).trans' cA (by intro y hy; simp at hy; right; omega)), ?_⟩
        refine f_pure rfl rfl (gn rfl) (fun _ => vl_assign rfl) rfl rfl ?_
        refine F_end [0, 2, 4, 5, 6, 7, 8] (F' := [(0, _), (2, _), (4, _), (5, _), (6, _), (7, _), (8, _)]) rfl ?_
        exact ⟨q, b7, _, rfl, (hc37.trans c7).trans' cA (by intro y hy; simp at hy; right; omega), (hpq.chg0 c7).chgB k7 rfl rfl rfl cA, (hrq.chg0 c7).chg1 k7 rfl rfl cA, kA, by rcases hq with hq | hq; exact .inl hq; exact .inr (by omega), by omega⟩
      · -- the new variable first
        refine f_st rfl rfl (gn rfl) (st_alloc zr48 rfl rfl ?_)
        intro b7 w7 e7 n7 c7 k7
        have h7 := hd.trans c7
        have hs7 := c7.size
        refine ⟨.inl h7.any, ?_⟩
        refine f_st rfl rfl (gn rfl) (st_call bd16 rfl rfl rfl rfl (f16 p' v' ls x.1 x.2.1 x.2.2 _ (hpx.chg0 h7) (hrx.chg0 h7) hw (by omega) (by omega)) ?_)
        rintro v37 w37 ⟨q, v2, rfl, hpq, hrq, c37, hq⟩
        obtain ⟨vs2, hs2', _⟩ := id hrq
        obtain ⟨p2, d2, rfl, _⟩ := hs2'.val
        have hc37 := (h7.any (S := [p'])).transS c37
        have hs37 := hc37.size
        have hk7 := k7.chg c37 (by simp; omega)
        refine ⟨.inl hc37, ?_⟩
        refine f_pure rfl rfl (gn rfl) (fun _ => vl_move rfl) rfl rfl ?_
        refine f_pure rfl rfl (gn rfl) (fun _ => vl_extract rfl rfl) rfl rfl ?_
        refine f_pure rfl rfl (gn rfl) (fun _ => vl_extract rfl rfl) rfl rfl ?_
        refine f_pure rfl rfl (gn rfl) (fun _ => vl_extract rfl rfl) rfl rfl ?_
        refine f_pure rfl rfl (gn rfl) (fun _ => vl_assign rfl) rfl rfl ?_
        refine f_st rfl rfl (gn rfl) (st_store sz48 rfl rfl rfl rfl hk7 (by simp) (by intro u hu; simp at hu; subst hu; rfl) ?_)
        intro wA nA cA kA
        refine ⟨.inl (hc37.trans' cA (by intro y hy; simp at hy; right; omega)), ?_⟩
        refine f_pure rfl rfl (gn rfl) (fun _ => vl_assign rfl) rfl rfl ?_
        refine F_end [0, 2, 4, 5, 6, 7, 8] (F' := [(0, _), (2, _), (4, _), (5, _), (6, _), (7, _), (8, _)]) rfl ?_
        exact ⟨q, b7, _, rfl, hc37.trans' cA (by intro y hy; simp at hy; right; omega), hpq.chgB hk7 rfl rfl rfl cA, hrq.chg1 hk7 rfl rfl cA, kA, by rcases hq with hq | hq; exact .inl hq; exact .inr (by omega), by omega⟩
    rintro F' wA ⟨q, b7, v2, rfl, hcA, hpA, hrA, hkA, hq, hb7⟩
    obtain ⟨vs2, hs2', _⟩ := id hrA
    obtain ⟨p2, d2, rfl, _⟩ := hs2'.val
    have hb4A := hb4.chg hcA hn4
    have hb2A := hb2.chg hcA hn2
    have hwA : Chg [] w wA := hcd _ hcA
    have hdA := Chg.drew [] wA
    have hb4n : w.heap.size ≤ b4 := by have := c4.size; omega
    refine W_seq ?_
    refine W_draw (fun wz => Chg [] wA wz) mix (by kernel_rfl) hdA ?_
    refine t_pure rfl (gn rfl) (fun _ => vl_move rfl) rfl rfl ?_
    refine t_read rfl (gn rfl) (fun wz hz => vl_loadAgg ag48 sz48 rfl rfl (Cells.of_blk0 (hkA.chg0 hz))) rfl rfl ?_
    refine t_pure rfl (gn rfl) (fun _ => vl_assign rfl) rfl rfl ?_
    refine t_st rfl (gn rfl) (st_store sz48 rfl rfl rfl rfl (hb4A.chg0 hdA) (by simp) (by intro u hu; simp at hu; subst hu; rfl) ?_)
    intro wB nB cB kB
    refine ⟨.inr (by kernel_rfl), ?_⟩
    refine T_end [0, 2, 3, 4, 5, 8] (F' := [(0, _), (2, _), (3, _), (4, _), (5, _), (8, _)]) rfl ?_
    have hcB : Chg [] w wB := (hwA.trans hdA).own cB (by intro y hy; simp at hy; omega)
    have hpB := (hpA.chg0 hdA).chgB (hb4A.chg0 hdA) rfl rfl rfl cB
    have hrB := (hrA.chg0 hdA).chg1 (hb4A.chg0 hdA) rfl rfl cB
    have hb2B := (hb2A.chg0 hdA).chg cB (by simpa using Blk.ne hb2A hb4A rfl)
    have hw' := actP_wf hw x.1 x.2.1 x.2.2
    have hl' := actP_len ls x.1 x.2.1 x.2.2
    generalize actP ls x.1 x.2.1 x.2.2 = ls' at *
    have hqn : w.heap.size ≤ q := by
      rcases hq with rfl | hq <;> omega
    refine W_seq ?_
    by_cases h3 : j % 4 = 3
    · refine W_region ?_
      refine O_go (gn rfl) (St.vl (vl_move rfl) rfl rfl ?_)
      refine O_go (gn rfl) (St.vl (vl_not rfl) rfl rfl ?_)
      refine O_go (gn rfl) (St.vl (vl_move rfl) rfl rfl ?_)
      refine O_go (gy rfl rfl rfl) (St.vl (vl_move rfl) rfl rfl ?_)
      refine O_go (gy rfl rfl rfl) (St.vl (vl_rem rfl rfl (by omega) (by omega)) rfl rfl ?_)
      refine O_go (gy rfl rfl rfl) (St.vl (vl_is (b' := true) (vl_ieq rfl rfl) (decide_eq_true (by omega))) rfl rfl ?_)
      refine O_go (gy rfl rfl rfl) (St.vl (vl_move rfl) rfl rfl ?_)
      refine O_go (gy rfl rfl rfl) (St.vl (vl_move rfl) rfl rfl ?_)
      refine O_go (gy rfl rfl rfl) (St.vl (vl_loadAgg ag48 sz48 rfl rfl (Cells.of_blk0 kB)) rfl rfl ?_)
      refine O_go (gy rfl rfl rfl) (st_call bd17 rfl rfl rfl rfl (f17 q _ ls' _ hpB hrB hw' (by omega)) ?_)
      rintro v52 w52 ⟨rfl, c52⟩
      refine O_go (gy rfl rfl rfl) (St.vl (vl_not rfl) rfl rfl ?_)
      refine O_go (gy rfl rfl rfl) (St.vl (vl_pick_t rfl rfl) rfl rfl ?_)
      refine O_go (gn rfl) (St.vl (vl_pick_f rfl rfl) rfl rfl ?_)
      refine O_end [0, 2, 3, 4, 5, 55] (F' := [(0, _), (2, _), (3, _), (4, _), (5, _), (55, _)]) rfl ?_
      refine W_cond_false rfl ?_
      refine W_skip ?_
      refine block_normal ?_
      refine W_region ?_
      refine O_go (gn rfl) (St.vl (vl_move rfl) rfl rfl ?_)
      refine O_go (gn rfl) (St.vl (vl_add rfl rfl (by omega)) rfl rfl ?_)
      refine O_go (gn rfl) (St.vl (vl_assign rfl) rfl rfl ?_)
      refine O_endN [0, 2, 3, 4, 5] (F' := [(0, _), (2, _), (3, _), (4, _), (5, _)]) rfl ?_
      exact ⟨acts.length - (j + 1), by omega, hcB.trans c52, j + 1, q, ls', _, rfl, by omega, rfl, hpB.chg0 c52, hrB.chg0 c52, Blk.chg0 kB c52, hb2B.chg0 c52, hw', by omega, hqn⟩
    · refine W_region ?_
      refine O_go (gn rfl) (St.vl (vl_move rfl) rfl rfl ?_)
      refine O_go (gn rfl) (St.vl (vl_not rfl) rfl rfl ?_)
      refine O_go (gn rfl) (St.vl (vl_move rfl) rfl rfl ?_)
      refine O_go (gy rfl rfl rfl) (St.vl (vl_move rfl) rfl rfl ?_)
      refine O_go (gy rfl rfl rfl) (St.vl (vl_rem rfl rfl (by omega) (by omega)) rfl rfl ?_)
      refine O_go (gy rfl rfl rfl) (St.vl (vl_is (b' := false) (vl_ieq rfl rfl) (decide_eq_false (by omega))) rfl rfl ?_)
      refine O_go (gy rfl rfl rfl) (St.vl (vl_move rfl) rfl rfl ?_)
      refine O_guard_no rfl rfl rfl rfl rfl rfl ?_
      refine O_guard_no rfl rfl rfl rfl rfl rfl ?_
      refine O_guard_no rfl rfl rfl rfl rfl rfl ?_
      refine O_guard_no rfl rfl rfl rfl rfl rfl ?_
      refine O_go (gy rfl rfl rfl) (St.vl (vl_pick_f rfl rfl) rfl rfl ?_)
      refine O_go (gn rfl) (St.vl (vl_pick_f rfl rfl) rfl rfl ?_)
      refine O_end [0, 2, 3, 4, 5, 55] (F' := [(0, _), (2, _), (3, _), (4, _), (5, _), (55, _)]) rfl ?_
      refine W_cond_false rfl ?_
      refine W_skip ?_
      refine block_normal ?_
      refine W_region ?_
      refine O_go (gn rfl) (St.vl (vl_move rfl) rfl rfl ?_)
      refine O_go (gn rfl) (St.vl (vl_add rfl rfl (by omega)) rfl rfl ?_)
      refine O_go (gn rfl) (St.vl (vl_assign rfl) rfl rfl ?_)
      refine O_endN [0, 2, 3, 4, 5] (F' := [(0, _), (2, _), (3, _), (4, _), (5, _)]) rfl ?_
      exact ⟨acts.length - (j + 1), by omega, hcB, j + 1, q, ls', _, rfl, by omega, rfl, hpB, hrB, kB, hb2B, hw', by omega, hqn⟩
  refine W_exit ?_
  repeat (first | refine then_exit ?_ | refine blockF_other rfl ?_)
  refine blockF_exit _ ?_
  have he : j = acts.length := by have := of_decide_eq_false hF; omega
  have hsx := hcx.size
  obtain ⟨vs', hs', _⟩ := id hrx
  obtain ⟨pv', cv', rfl, _⟩ := hs'.val
  refine W_seq ?_
  refine W_region ?_
  refine O_go (gn rfl) (St.vl (vl_assign rfl) rfl rfl ?_)
  refine O_end [2, 3, 4, 9] (F' := [(2, _), (3, _), (4, _), (9, _)]) rfl ?_
  refine W_seq ?_
  refine W_region ?_
  refine O_go (gn rfl) (St.vl (vl_move rfl) rfl rfl ?_)
  refine O_go (gn rfl) (st_call bd10 rfl rfl rfl rfl (f10_nil _ _ _) ?_)
  rintro v58 w58 ⟨rfl, rfl⟩
  refine O_go (gn rfl) (St.vl (vl_move rfl) rfl rfl ?_)
  refine O_go (gn rfl) (St.vl (vl_extract rfl rfl) rfl rfl ?_)
  refine O_go (gn rfl) (St.vl (vl_extract rfl rfl) rfl rfl ?_)
  refine O_go (gn rfl) (St.vl (vl_extract rfl rfl) rfl rfl ?_)
  refine O_go (gn rfl) (St.vl (vl_assign rfl) rfl rfl ?_)
  refine O_go (gn rfl) (St.vl (vl_assign rfl) rfl rfl ?_)
  refine O_go (gn rfl) (St.vl (vl_assign rfl) rfl rfl ?_)
  refine O_end [2, 3, 4, 9, 11, 12] (F' := [(2, _), (3, _), (4, _), (9, _), (11, _), (12, _)]) rfl ?_
  refine W_seq ?_
  refine W_region ?_
  refine O_go (gn rfl) (St.vl (vl_move rfl) rfl rfl ?_)
  refine O_go (gn rfl) (st_call bd11 rfl rfl rfl rfl (f11_nil _ _) ?_)
  rintro v64 w64 ⟨rfl, rfl⟩
  refine O_go (gn rfl) (St.vl (vl_move rfl) rfl rfl ?_)
  refine O_go (gn rfl) (St.vl (vl_extract rfl rfl) rfl rfl ?_)
  refine O_go (gn rfl) (St.vl (vl_extract rfl rfl) rfl rfl ?_)
  refine O_go (gn rfl) (St.vl (vl_extract rfl rfl) rfl rfl ?_)
  refine O_go (gn rfl) (St.vl (vl_assign rfl) rfl rfl ?_)
  refine O_go (gn rfl) (St.vl (vl_assign rfl) rfl rfl ?_)
  refine O_go (gn rfl) (St.vl (vl_assign rfl) rfl rfl ?_)
  refine O_end [2, 3, 4, 9, 11, 12, 14, 15] (F' := [(2, _), (3, _), (4, _), (9, _), (11, _), (12, _), (14, _), (15, _)]) rfl ?_
  refine W_seq ?_
  refine W_region ?_
  refine O_go (gn rfl) (St.vl (vl_move rfl) rfl rfl ?_)
  refine O_go (gn rfl) (st_call bd15 rfl rfl rfl rfl (f15_nil _ _) ?_)
  rintro v70 w70 ⟨rfl, rfl⟩
  refine O_go (gn rfl) (St.vl (vl_move rfl) rfl rfl ?_)
  refine O_go (gn rfl) (St.vl (vl_extract rfl rfl) rfl rfl ?_)
  refine O_go (gn rfl) (St.vl (vl_extract rfl rfl) rfl rfl ?_)
  refine O_go (gn rfl) (St.vl (vl_assign rfl) rfl rfl ?_)
  refine O_go (gn rfl) (St.vl (vl_assign rfl) rfl rfl ?_)
  refine O_end [2, 3, 4, 9, 11, 12, 14, 15, 17] (F' := [(2, _), (3, _), (4, _), (9, _), (11, _), (12, _), (14, _), (15, _), (17, _)]) rfl ?_
  refine W_seq ?_
  refine W_region ?_
  refine O_go (gn rfl) (St.vl (vl_move rfl) rfl rfl ?_)
  refine O_go (gn rfl) (st_call bd14 rfl rfl rfl rfl (f14_nil _ _) ?_)
  rintro v74 w74 ⟨b5, b3, rfl, hb5, c74⟩
  refine O_go (gn rfl) (St.vl (vl_assign rfl) rfl rfl ?_)
  refine O_end [2, 3, 4, 9, 11, 12, 14, 15, 17, 18] (F' := [(2, _), (3, _), (4, _), (9, _), (11, _), (12, _), (14, _), (15, _), (17, _), (18, _)]) rfl ?_
  refine W_seq ?_
  refine W_seq ?_
  refine W_region ?_
  refine O_go (gn rfl) (St.vl (vl_move rfl) rfl rfl ?_)
  refine O_go (gn rfl) (St.vl (vl_fnil fn40 rfl rfl) rfl rfl ?_)
  refine O_end [2, 3, 4, 9, 11, 12, 14, 15, 17, 18, 76] (F' := [(2, _), (3, _), (4, _), (9, _), (11, _), (12, _), (14, _), (15, _), (17, _), (18, _), (76, _)]) rfl ?_
  refine W_cond_false rfl ?_
  refine W_skipE ?_
  refine W_seq ?_
  refine W_seq ?_
  refine W_region ?_
  refine O_go (gn rfl) (St.vl (vl_move rfl) rfl rfl ?_)
  refine O_end [2, 3, 4, 9, 11, 12, 14, 15, 17, 77] (F' := [(2, _), (3, _), (4, _), (9, _), (11, _), (12, _), (14, _), (15, _), (17, _), (77, _)]) rfl ?_
  refine W_block ?_
  refine W_range_none (gf := 32) (lb := [.pointer (some ⟨b5, 0, none⟩), .pointer (some ⟨b3, 0, none⟩)]) rfl bd32 (fun l wy hy => f32_nil l b5 b3 wy (hb5.chg0 hy)) ?_
  intro D wD hD cD hK
  refine block_normal ?_
  have hc74 : Chg [] w w74 := hcx.trans c74
  have hcx2 := c74.trans cD
  have hpD := hpx.chg0 hcx2
  have hrD := hrx.chg0 hcx2
  have hb4D := hb4.chg0 hcx2
  have hb2D := hb2.chg0 hcx2
  have hcD := hcx.trans hcx2
  refine W_seq ?_
  refine W_region ?_
  refine O_go (gn rfl) (St.vl (vl_move rfl) rfl rfl ?_)
  refine O_go (gn rfl) (St.vl (vl_loadAgg ag48 sz48 rfl rfl (Cells.of_blk0 hb4D)) rfl rfl ?_)
  refine O_go (gn rfl) (st_call bd17 rfl rfl rfl rfl (f17 p' _ ls _ hpD hrD hw (by omega)) ?_)
  rintro v82 w82 ⟨rfl, c82⟩
  refine O_go (gn rfl) (St.vl (vl_move rfl) rfl rfl ?_)
  refine O_go (gy rfl rfl rfl) (St.vl (vl_move rfl) rfl rfl ?_)
  refine O_go (gy rfl rfl rfl) (St.vl (vl_not rfl) rfl rfl ?_)
  refine O_go (gn rfl) (St.vl (vl_pick_t rfl rfl) rfl rfl ?_)
  refine O_go (gn rfl) (St.vl (vl_move rfl) rfl rfl ?_)
  refine O_go (gy rfl rfl rfl) (St.vl (vl_move rfl) rfl rfl ?_)
  refine O_go (gy rfl rfl rfl) (St.vl (vl_not rfl) rfl rfl ?_)
  refine O_go (gn rfl) (St.vl (vl_pick_t rfl rfl) rfl rfl ?_)
  refine O_go (gn rfl) (St.vl (vl_move rfl) rfl rfl ?_)
  refine O_go (gy rfl rfl rfl) (St.vl (vl_move rfl) rfl rfl ?_)
  refine O_go (gy rfl rfl rfl) (St.vl (vl_not rfl) rfl rfl ?_)
  refine O_go (gn rfl) (St.vl (vl_pick_t rfl rfl) rfl rfl ?_)
  refine O_go (gn rfl) (St.vl (vl_move rfl) rfl rfl ?_)
  refine O_go (gy rfl rfl rfl) (St.vl (vl_move rfl) rfl rfl ?_)
  refine O_go (gy rfl rfl rfl) (st_call bd18 rfl rfl rfl rfl (f18 _ _) ?_)
  rintro v97 w97 ⟨rfl, rfl⟩
  refine O_go (gy rfl rfl rfl) (St.vl (vl_is (b' := true) (vl_ieq rfl rfl) (decide_eq_true (by omega))) rfl rfl ?_)
  refine O_go (gn rfl) (St.vl (vl_pick_t rfl rfl) rfl rfl ?_)
  refine O_go (gn rfl) (St.vl (vl_move rfl) rfl rfl ?_)
  refine O_go (gy rfl rfl rfl) (St.vl (vl_move rfl) rfl rfl ?_)
  refine O_go (gy rfl rfl rfl) (st_call bd18 rfl rfl rfl rfl (f18 _ _) ?_)
  rintro v102 w102 ⟨rfl, rfl⟩
  refine O_go (gy rfl rfl rfl) (St.vl (vl_is (b' := true) (vl_ieq rfl rfl) (decide_eq_true (by omega))) rfl rfl ?_)
  refine O_go (gn rfl) (St.vl (vl_pick_t rfl rfl) rfl rfl ?_)
  refine O_go (gn rfl) (St.vl (vl_move rfl) rfl rfl ?_)
  refine O_go (gy rfl rfl rfl) (St.vl (vl_move rfl) rfl rfl ?_)
  refine O_go (gy rfl rfl rfl) (st_call bd13 rfl rfl rfl rfl (f13_nil _) ?_)
  rintro v107 w107 ⟨rfl, rfl⟩
  refine O_go (gy rfl rfl rfl) (St.vl (vl_is (b' := true) (vl_ieq rfl rfl) (decide_eq_true (by omega))) rfl rfl ?_)
  refine O_go (gn rfl) (St.vl (vl_pick_t rfl rfl) rfl rfl ?_)
  refine O_go (gn rfl) (St.vl (vl_move rfl) rfl rfl ?_)
  refine O_go (gy rfl rfl rfl) (St.vl (vl_move rfl) rfl rfl ?_)
  refine O_go (gy rfl rfl rfl) (st_call bd12 rfl rfl rfl rfl (f12_nil _) ?_)
  rintro v112 w112 ⟨rfl, rfl⟩
  refine O_go (gy rfl rfl rfl) (St.vl (vl_len sl35 rfl) rfl rfl ?_)
  refine O_go (gy rfl rfl rfl) (St.vl (vl_is (b' := true) (vl_ieq rfl rfl) (decide_eq_true (by omega))) rfl rfl ?_)
  refine O_go (gn rfl) (St.vl (vl_pick_t rfl rfl) rfl rfl ?_)
  refine O_go (gn rfl) (St.vl (vl_move rfl) rfl rfl ?_)
  refine O_go (gy rfl rfl rfl) (St.vl (vl_move rfl) rfl rfl ?_)
  refine O_go (gy rfl rfl rfl) (st_call bd19 rfl rfl rfl rfl (f19_nil _) ?_)
  rintro v118 w118 ⟨rfl, rfl⟩
  refine O_go (gy rfl rfl rfl) (St.vl (vl_pnil pt25 rfl rfl) rfl rfl ?_)
  refine O_go (gn rfl) (St.vl (vl_pick_t rfl rfl) rfl rfl ?_)
  refine O_go (gn rfl) (St.vl (vl_move rfl) rfl rfl ?_)
  refine O_go (gy rfl rfl rfl) (st_call bd8 rfl rfl rfl rfl (f8 _) ?_)
  rintro v122 w122 ⟨rfl, c122⟩
  refine O_go (gn rfl) (St.vl (vl_pick_t rfl rfl) rfl rfl ?_)
  refine O_go (gn rfl) (st_store sz4 rfl rfl rfl rfl ((hb2D.chg0 c82).chg0 c122) (by simp) (by intro u hu; simp at hu; subst hu; rfl) ?_)
  intro wF nF cF kF
  refine O_end [2] (F' := [(2, _), (1000000, _)]) rfl ?_
  refine W_ret ?_
  have hDne : b2 ≠ D := by have := hb2.lt; have := c74.size; omega
  have hDl : D < wD.heap.size := (Array.getElem?_eq_some_iff.1 hK).1
  have hs122 := (c82.trans c122).block D hDl (by simp)
  refine retM1 (v := .bool true) rfl ag4 rfl rfl (D := D) ?_ ?_
  · have := cF.block D (by have := (c82.trans c122).size; omega) (by simp; exact fun e => hDne e.symm)
    rw [this, hs122]; exact hK
  · intro wE cE
    refine ⟨(kF.chg cE (by simpa using hDne)).cell' rfl, rfl, ?_⟩
    have h1 : Chg [] w wF := (hcD.trans (c82.trans c122)).own cF (by intro x hx; simp at hx; omega)
    exact h1.own cE (by intro x hx; simp at hx; have := hcx.size; have := c74.size; omega)
end Go.Wk

