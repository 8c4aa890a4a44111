/-
  The law PageFrom, walked.
-/
import Derived.Test.YthbahcjkncfpdaaP28
namespace Go.Wk
open Go.Proofs
set_option maxRecDepth 10000

theorem max1 (many : Int) (k : Nat) (hk : 0 < k) (h1 : k = 1 ∨ (k : Int) - 1 < many) (h2 : many ≤ k) : (k : Int) = if many > 1 then many else 1 := by
  split <;> omega

theorem f10w (p : Nat) (ls : List (List Ent)) (key val : ByteArray) (w : World) (hp : Pg w p ls) (hw : WfP ls) (hn : ls.length ≤ 65536) :
    Ret Try.prog 10 #[.pointer (some ⟨p, 0, none⟩), .string key, .string val] w fun r w' => (∃ s b, r = .tuple #[.string s, .bool b, .int .i64 (if 2000 < key.size then 3 else 0)]) ∧ Chg [p] w w' := by
  by_cases hk : 2000 < key.size
  · refine (f10_long p key val w hk).mono ?_
    rintro r w' ⟨rfl, rfl⟩
    rw [if_pos hk]
    exact ⟨⟨_, _, rfl⟩, Chg.refl _ _⟩
  · refine (f10 p ls key val w hp hw hn (by omega)).mono ?_
    rintro r w' ⟨rfl, _, hc⟩
    rw [if_neg hk]
    exact ⟨⟨_, _, rfl⟩, hc⟩

set_option maxHeartbeats 1000000 in
theorem f5 (v : Value) (acts : List (Int × ByteArray × ByteArray)) (key : ByteArray) (many more : Int) (w : World) (h : IsActs w v acts) :
    Ret Try.prog 5 #[v, .string key, .int .i64 many, .int .i64 more] w fun r w' => r = .bool true ∧ Chg [] w w' := by
  refine Ret.of_WM (args := [_, _, _, _]) Try.func5 rfl rfl rfl rfl ?_

  refine W_seq ?_
  refine W_region ?_
  refine O_go (gn rfl) (st_box rfl rfl rfl ?_)
  intro b6 w6 e6 n6 c6 k6
  refine O_go (gn rfl) (st_alloc zr4 rfl rfl ?_)
  intro b8 w8 e8 n8 c8 k8
  refine O_end [0, 1, 3, 6, 8] (F' := [(0, _), (1, _), (3, _), (6, _), (8, _)]) rfl ?_
  have hs6 := c6.size
  have hs8 := c8.size
  have hc8 := c6.trans c8
  have hk6 := k6.chg0 c8
  refine W_seq_cut (fun F' w' => F' = [(0, v), (1, .string key), (3, .int .i64 more), (6, .pointer (some ⟨b6, 0, none⟩)), (8, .pointer (some ⟨b8, 0, none⟩))] ∧ w8 = w' ∧ acts.length ≤ 60 ∧ Small acts ∧ key.size ≤ 60 ∧ -1 ≤ more ∧ more ≤ 1) ?_ ?_
  · refine W_seq_cut (fun F' w' => ∃ c, F' = [(0, v), (1, .string key), (3, .int .i64 more), (6, .pointer (some ⟨b6, 0, none⟩)), (8, .pointer (some ⟨b8, 0, none⟩)), (36, .bool c)] ∧ w8 = w' ∧ (c = false → acts.length ≤ 60 ∧ Small acts ∧ key.size ≤ 60 ∧ -1 ≤ more ∧ more ≤ 1)) ?_ ?_
    · refine W_region ?_
      refine O_go (gn rfl) (St.vl (vl_move rfl) rfl rfl ?_)
      refine O_go (gn rfl) (st_call bd7 rfl rfl rfl rfl (f7 v acts 60 _ (h.chg0 hc8) (by omega)) ?_)
      rintro v22 w22 ⟨⟨b, rfl, hb⟩, rfl⟩
      refine O_go (gn rfl) (St.vl (vl_not rfl) rfl rfl ?_)
      refine O_go (gn rfl) (St.vl (vl_move rfl) rfl rfl ?_)
      cases b with
      | false =>
        refine O_guard_no rfl rfl rfl rfl rfl rfl ?_
        refine O_guard_no rfl rfl rfl rfl rfl rfl ?_
        refine O_guard_no rfl rfl rfl rfl rfl rfl ?_
        refine O_go (gn rfl) (St.vl (vl_pick_t rfl rfl) rfl rfl ?_)
        refine O_go (gn rfl) (St.vl (vl_move rfl) rfl rfl ?_)
        refine O_guard_no rfl rfl rfl rfl rfl rfl ?_
        refine O_guard_no rfl rfl rfl rfl rfl rfl ?_
        refine O_go (gn rfl) (St.vl (vl_pick_t rfl rfl) rfl rfl ?_)
        refine O_go (gn rfl) (St.vl (vl_move rfl) rfl rfl ?_)
        refine O_guard_no rfl rfl rfl rfl rfl rfl ?_
        refine O_guard_no rfl rfl rfl rfl rfl rfl ?_
        refine O_go (gn rfl) (St.vl (vl_pick_t rfl rfl) rfl rfl ?_)
        refine O_end [0, 1, 3, 6, 8, 36] (F' := [(0, _), (1, _), (3, _), (6, _), (8, _), (36, _)]) rfl ?_
        exact ⟨true, rfl, rfl, fun h => by cases h⟩
      | true =>
        refine O_go (gy rfl rfl rfl) (St.vl (vl_move rfl) rfl rfl ?_)
        refine O_go (gy rfl rfl rfl) (St.vl (vl_slen st9 rfl) rfl rfl ?_)
        by_cases hk : 60 < key.size
        · refine O_go (gy rfl rfl rfl) (St.vl (vl_is (b' := true) (vl_gtr rfl rfl) (decide_eq_true (by omega))) rfl rfl ?_)
          refine O_go (gn rfl) (St.vl (vl_pick_f rfl rfl) rfl rfl ?_)
          refine O_go (gn rfl) (St.vl (vl_move rfl) rfl rfl ?_)
          refine O_guard_no rfl rfl rfl rfl rfl rfl ?_
          refine O_guard_no rfl rfl rfl rfl rfl rfl ?_
          refine O_go (gn rfl) (St.vl (vl_pick_t rfl rfl) rfl rfl ?_)
          refine O_go (gn rfl) (St.vl (vl_move rfl) rfl rfl ?_)
          refine O_guard_no rfl rfl rfl rfl rfl rfl ?_
          refine O_guard_no rfl rfl rfl rfl rfl rfl ?_
          refine O_go (gn rfl) (St.vl (vl_pick_t rfl rfl) rfl rfl ?_)
          refine O_end [0, 1, 3, 6, 8, 36] (F' := [(0, _), (1, _), (3, _), (6, _), (8, _), (36, _)]) rfl ?_
          exact ⟨true, rfl, rfl, fun h => by cases h⟩
        refine O_go (gy rfl rfl rfl) (St.vl (vl_is (b' := false) (vl_gtr rfl rfl) (decide_eq_false (by omega))) rfl rfl ?_)
        refine O_go (gn rfl) (St.vl (vl_pick_f rfl rfl) rfl rfl ?_)
        refine O_go (gn rfl) (St.vl (vl_move rfl) rfl rfl ?_)
        refine O_go (gy rfl rfl rfl) (St.vl (vl_move rfl) rfl rfl ?_)
        by_cases hl : more < -1
        · refine O_go (gy rfl rfl rfl) (St.vl (vl_is (b' := true) (vl_lss rfl rfl) (decide_eq_true hl)) rfl rfl ?_)
          refine O_go (gn rfl) (St.vl (vl_pick_f rfl rfl) rfl rfl ?_)
          refine O_go (gn rfl) (St.vl (vl_move rfl) rfl rfl ?_)
          refine O_guard_no rfl rfl rfl rfl rfl rfl ?_
          refine O_guard_no rfl rfl rfl rfl rfl rfl ?_
          refine O_go (gn rfl) (St.vl (vl_pick_t rfl rfl) rfl rfl ?_)
          refine O_end [0, 1, 3, 6, 8, 36] (F' := [(0, _), (1, _), (3, _), (6, _), (8, _), (36, _)]) rfl ?_
          exact ⟨true, rfl, rfl, fun h => by cases h⟩
        refine O_go (gy rfl rfl rfl) (St.vl (vl_is (b' := false) (vl_lss rfl rfl) (decide_eq_false hl)) rfl rfl ?_)
        refine O_go (gn rfl) (St.vl (vl_pick_f rfl rfl) rfl rfl ?_)
        refine O_go (gn rfl) (St.vl (vl_move rfl) rfl rfl ?_)
        refine O_go (gy rfl rfl rfl) (St.vl (vl_move rfl) rfl rfl ?_)
        refine O_go (gy rfl rfl rfl) (St.vl (vl_gtr rfl rfl) rfl rfl ?_)
        refine O_go (gn rfl) (St.vl (vl_pick_f rfl rfl) rfl rfl ?_)
        refine O_end [0, 1, 3, 6, 8, 36] (F' := [(0, _), (1, _), (3, _), (6, _), (8, _), (36, _)]) rfl ?_
        exact ⟨_, rfl, rfl, fun hd => by have hd := of_decide_eq_false hd; exact ⟨(hb rfl).1, (hb rfl).2, by omega, by omega, by omega⟩⟩
    · rintro F' w' ⟨c, rfl, rfl, hc⟩
      cases c with
      | true =>
        refine W_cond_true rfl ?_
        refine W_seq ?_
        refine W_region ?_
        refine O_go (gn rfl) (st_call bd8 rfl rfl rfl rfl (f8 _) ?_)
        rintro v37 w37 ⟨rfl, c37⟩
        refine O_go (gn rfl) (st_store sz4 rfl rfl rfl rfl (k8.chg0 c37) (by simp) (by intro u hu; simp at hu; subst hu; rfl) ?_)
        intro wF nF cF kF
        refine O_end [8] (F' := [(8, _)]) rfl ?_
        refine W_ret ?_
        refine then_ret ?_
        refine retM0 rfl ag4 rfl (kF.cell' rfl) ?_
        exact ⟨rfl, (hc8.trans c37).own cF (by intro x hx; simp at hx; omega)⟩
      | false =>
        refine W_cond_false rfl ?_
        refine W_prune [0, 1, 3, 6, 8] rfl ?_
        refine W_skipE ?_
        exact ⟨rfl, rfl, hc rfl⟩
  rintro F' w' ⟨rfl, rfl, hlen, hsm, hkey, hm1, hm2⟩
  refine W_seq ?_
  refine W_region ?_
  refine O_go (gn rfl) (st_call bd9 rfl rfl rfl rfl (f9 _) ?_)
  rintro v38 w38 ⟨p, rfl, hpn, hp38, c38⟩
  refine O_go (gn rfl) (St.vl (vl_assign rfl) rfl rfl ?_)
  refine O_end [0, 1, 3, 6, 8, 9] (F' := [(0, _), (1, _), (3, _), (6, _), (8, _), (9, _)]) rfl ?_
  refine W_seq ?_
  refine W_region ?_
  refine O_go (gn rfl) (st_alloc zr48 rfl rfl ?_)
  intro b10 w10 e10 n10 c10 k10
  refine O_end [0, 1, 3, 6, 8, 9, 10] (F' := [(0, _), (1, _), (3, _), (6, _), (8, _), (9, _), (10, _)]) rfl ?_
  have hs38 := c38.size
  have hc10 : Chg [] w w10 := (hc8.trans c38).trans c10
  have hk6' := (hk6.chg0 c38).chg0 c10
  have hk8' := (k8.chg0 c38).chg0 c10
  obtain ⟨pv, cv, rfl, hacts⟩ := id h
  refine W_seq ?_
  refine W_seq ?_
  refine W_region ?_
  refine O_go (gn rfl) (St.vl (vl_assign rfl) rfl rfl ?_)
  refine O_end [0, 1, 3, 6, 8, 9, 10, 11] (F' := [(0, _), (1, _), (3, _), (6, _), (8, _), (9, _), (10, _), (11, _)]) rfl ?_
  refine W_block ?_
  refine W_loop [0, 1, 3, 6, 8, 9, 10, 11] (fun m F wx => Chg [] w wx ∧ ∃ (j p' : Nat) (ls : List (List Ent)) (v' : Value), m = acts.length - j ∧ j ≤ acts.length ∧ F = [(0, .slice pv acts.length cv), (1, .string key), (3, .int .i64 more), (6, .pointer (some ⟨b6, 0, none⟩)), (8, .pointer (some ⟨b8, 0, none⟩)), (9, .pointer (some ⟨p', 0, none⟩)), (10, .pointer (some ⟨b10, 0, none⟩)), (11, .int .i64 j)] ∧ Pg wx p' ls ∧ RPg wx v' ls ∧ Blk wx b10 48 [v'] ∧ Blk wx b6 3 [.int .i64 many] ∧ Blk wx b8 4 [.bool false] ∧ WfP ls ∧ ls.length ≤ j ∧ w.heap.size ≤ p') (m := acts.length - 0) ⟨hc10, 0, p, [], _, rfl, Nat.zero_le _, rfl, hp38.chg0 c10, ⟨[], IsSl.nil _ _ _, trivial⟩, k10, hk6', hk8', WfP.nil, by simp, by omega⟩ ?_
  rintro m F wx ⟨hcx, j, p', ls, v', rfl, hj, rfl, hpx, hrx, hb10, hb6, hb8, hw, hll, hpn'⟩
  refine W_seq ?_
  refine W_seq ?_
  refine W_region ?_
  refine O_go (gn rfl) (St.vl (vl_move rfl) rfl rfl ?_)
  refine O_go (gn rfl) (St.vl (vl_move rfl) rfl rfl ?_)
  refine O_go (gn rfl) (St.vl (vl_len sl22 rfl) rfl rfl ?_)
  refine O_go (gn rfl) (St.vl (vl_lss rfl rfl) rfl rfl ?_)
  refine O_end [0, 1, 3, 6, 8, 9, 10, 11, 42] (F' := [(0, _), (1, _), (3, _), (6, _), (8, _), (9, _), (10, _), (11, _), (42, _)]) rfl ?_
  refine W_cond rfl (fun hT => ?_) (fun hF => ?_)
  · refine W_skipE ?_
    have hlt : j < acts.length := by have := of_decide_eq_true hT; omega
    have hx : acts[j]? = some acts[j] := by simp [hlt]
    have hxs := hsm _ (List.mem_of_getElem? hx)
    generalize acts[j] = x at hx hxs
    obtain ⟨ba, oa, rfl, hca⟩ := hacts j x hx
    obtain ⟨vp, hbp, _⟩ := id hpx
    have hn10 : b10 ∉ [p'] := by simpa using Blk.ne hb10 hbp rfl
    have hn6 : b6 ∉ [p'] := by simpa using Blk.ne hb6 hbp rfl
    have hn8 : b8 ∉ [p'] := by simpa using Blk.ne hb8 hbp rfl
    have hd := Chg.drew [] wx
    have hcd : ∀ wz, Chg [p'] wx wz → Chg [] w wz := fun wz hz => hcx.own hz (by intro y hy; simp at hy; omega)
    refine W_seq ?_
    refine W_block ?_
    refine W_draw (fun wz => Chg [p'] wx wz) mix (by kernel_rfl) hd.any ?_
    refine t_pure rfl (gn rfl) (fun _ => vl_move rfl) rfl rfl ?_
    refine t_read rfl (gn rfl) (fun wz hz => vl_loadAgg ag48 sz48 rfl rfl (Cells.of_blk0 (hb10.chg hz hn10))) rfl rfl ?_
    refine t_pure rfl (gn rfl) (fun _ => vl_move rfl) rfl rfl ?_
    refine t_pure rfl (gn rfl) (fun _ => vl_move rfl) rfl rfl ?_
    refine t_pure rfl (gn rfl) (fun _ => vl_indexAddr sl22 sz29 rfl rfl _ rfl hlt) rfl rfl ?_
    refine t_read rfl (gn rfl) (fun wz hz => vl_loadAgg ag29 sz29 rfl rfl (hca.chg0 (hcd _ hz))) rfl rfl ?_
    refine t_st rfl (gn rfl) (st_call bd16 rfl rfl rfl rfl (f16 p' v' ls x.1 x.2.1 x.2.2 _ (hpx.chg0 hd) (hrx.chg0 hd) hw (by omega) (by omega)) ?_)
    rintro v52 w52 ⟨q, v2, rfl, hpq, hrq, c37, hq⟩
    obtain ⟨vs2, hs2, _⟩ := id hrq
    obtain ⟨p2, d2, rfl, _⟩ := hs2.val
    refine ⟨.inl ((hd.any (S := [p'])).transS c37), ?_⟩
    refine t_pure rfl (gn rfl) (fun _ => vl_move rfl) rfl rfl ?_
    refine t_pure rfl (gn rfl) (fun _ => vl_extract rfl rfl) rfl rfl ?_
    refine t_pure rfl (gn rfl) (fun _ => vl_extract rfl rfl) rfl rfl ?_
    refine t_pure rfl (gn rfl) (fun _ => vl_extract rfl rfl) rfl rfl ?_
    refine t_pure rfl (gn rfl) (fun _ => vl_assign rfl) rfl rfl ?_
    refine t_st rfl (gn rfl) (st_store sz48 rfl rfl rfl rfl (hb10.chg ((hd.any (S := [p'])).transS c37) hn10) (by simp) (by intro u hu; simp at hu; subst hu; rfl) ?_)
    intro wF nF cF kF
    refine ⟨.inr (by kernel_rfl), ?_⟩
    refine T_endN [0, 1, 3, 6, 8, 9, 10, 11] (F' := [(0, _), (1, _), (3, _), (6, _), (8, _), (9, _), (10, _), (11, _)]) rfl ?_
    have hc37 := (hd.any (S := [p'])).transS c37
    have hb10' := hb10.chg hc37 hn10
    have hb6' := hb6.chg hc37 hn6
    have hb8' := hb8.chg hc37 hn8
    have hw37 : Chg [] w w52 := hcd _ hc37
    have hsx := hcx.size
    have hb10n : w.heap.size ≤ b10 := by omega
    refine block_normal ?_
    refine W_region ?_
    refine O_go (gn rfl) (St.vl (vl_move rfl) rfl rfl ?_)
    refine O_go (gn rfl) (St.vl (vl_add rfl rfl (by omega)) rfl rfl ?_)
    refine O_go (gn rfl) (St.vl (vl_assign rfl) rfl rfl ?_)
    refine O_endN [0, 1, 3, 6, 8, 9, 10, 11] (F' := [(0, _), (1, _), (3, _), (6, _), (8, _), (9, _), (10, _), (11, _)]) rfl ?_
    refine ⟨acts.length - (j + 1), by omega, hw37.own cF (by intro y hy; simp at hy; omega), j + 1, q, actP ls x.1 x.2.1 x.2.2, _, rfl, by omega, rfl, hpq.chgB hb10' rfl rfl rfl cF, hrq.chg1 hb10' rfl rfl cF, kF, hb6'.chg cF (by simpa using Blk.ne hb6' hb10' rfl), hb8'.chg cF (by simpa using Blk.ne hb8' hb10' rfl), actP_wf hw _ _ _, ?_, ?_⟩
    · have := actP_len ls x.1 x.2.1 x.2.2; omega
    · have := hd.size
      rcases hq with rfl | hq <;> omega
  refine W_exit ?_
  repeat (first | refine then_exit ?_ | refine blockF_other rfl ?_)
  refine blockF_exit _ ?_
  have he : j = acts.length := by have := of_decide_eq_false hF; omega
  have hsx := hcx.size
  obtain ⟨vs', hs', _⟩ := id hrx
  obtain ⟨pv', cv', rfl, _⟩ := hs'.val
  refine W_seq ?_
  refine W_region ?_
  refine O_go (gn rfl) (St.vl (vl_loadAgg ag48 sz48 rfl rfl (Cells.of_blk0 hb10)) rfl rfl ?_)
  refine O_go (gn rfl) (St.vl (vl_move rfl) rfl rfl ?_)
  refine O_go (gn rfl) (st_call bd20 rfl rfl rfl rfl (f20 _ ls key _ hrx hw (by omega)) ?_)
  rintro v58 w58 ⟨hall58, c58⟩
  obtain ⟨qa, da, rfl, _⟩ := IsSl.val hall58
  refine O_go (gn rfl) (st_alloc zr53 rfl rfl ?_)
  intro b12 w12 e12 n12 c12 k12
  refine O_go (gn rfl) (st_store sz53 rfl rfl rfl rfl k12 (by simp) (by intro u hu; simp at hu; subst hu; rfl) ?_)
  intro wA nA cA kA
  refine O_end [1, 3, 6, 8, 9, 12] (F' := [(1, _), (3, _), (6, _), (8, _), (9, _), (12, _)]) rfl ?_
  have hc12 : Chg [] wx wA := (c58.trans c12).own cA (by intro y hy; simp at hy; have := c58.size; omega)
  have hallA : RList wA (.slice qa (fromP ls.flatten key).length da) (fromP ls.flatten key) := IsSl.chg (IsSl.chg0 hall58 c12) cA (IsSl.apart (IsSl.chg0 hall58 c12) k12 rfl)
  refine W_seq ?_
  refine W_region ?_
  refine O_go (gn rfl) (St.vl (vl_move rfl) rfl rfl ?_)
  refine O_go (gn rfl) (St.vl (vl_move rfl) rfl rfl ?_)
  refine O_go (gn rfl) (st_call bd14 rfl rfl rfl rfl (f14 p' ls key _ (hpx.chg0 hc12) (by omega)) ?_)
  rintro v61 w61 ⟨b5, b3, vv, rfl, hb5, hip, hb3, hn3, hn5, c61⟩
  refine O_go (gn rfl) (St.vl (vl_assign rfl) rfl rfl ?_)
  refine O_end [3, 6, 8, 9, 12, 13] (F' := [(3, _), (6, _), (8, _), (9, _), (12, _), (13, _)]) rfl ?_
  refine W_seq ?_
  refine W_seq ?_
  refine W_region ?_
  refine O_go (gn rfl) (St.vl (vl_move rfl) rfl rfl ?_)
  refine O_go (gn rfl) (St.vl (vl_fnil fn40 rfl rfl) rfl rfl ?_)
  refine O_end [3, 6, 8, 9, 12, 13, 63] (F' := [(3, _), (6, _), (8, _), (9, _), (12, _), (13, _), (63, _)]) rfl ?_
  refine W_cond_false rfl ?_
  refine W_prune [3, 6, 8, 9, 12, 13] rfl ?_
  refine W_skipE ?_
  have hp61 := (hpx.chg0 hc12).chg0 c61
  have hb12 := kA.chg0 c61
  have hall := IsSl.chg0 hallA c61
  have hb6 := (hb6.chg0 hc12).chg0 c61
  have hb8 := (hb8.chg0 hc12).chg0 c61
  have hc61 : Chg [] w w61 := (hcx.trans hc12).trans c61
  obtain ⟨K, hK⟩ : ∃ K : Nat, 2000 + more = K := ⟨(2000 + more).toNat, by omega⟩
  refine W_seq ?_
  have hsz : (⟨(List.replicate K (0 : UInt8)).toArray⟩ : ByteArray).size = K := by simp [ByteArray.size]
  refine W_region ?_
  refine O_go (gn rfl) (St.vl (vl_move rfl) rfl rfl ?_)
  refine O_go (gn rfl) (St.vl (vl_move rfl) rfl rfl ?_)
  refine O_go (gn rfl) (St.vl (vl_eq (v' := .int .i64 ((K : Nat) : Int)) (vl_add rfl rfl (by omega)) (by congr 1)) rfl rfl ?_)
  refine O_go (gn rfl) (st_makeLC (l := K) (m := K) ap55 rfl rfl (by omega) (by omega) (by omega) (by unfold maxLen; omega) (by omega) rfl ?_)
  intro b68 w68 e68 n68 c68 k68
  refine O_go (gn rfl) (St.vl (vl_bytes (l := List.replicate K 0) sl55 it5_u8 st9 rfl (by simp) (Cells.of_blk0 (e := 5) (by have hk := k68; rw [made_one rfl] at hk; simpa using hk))) rfl rfl ?_)
  refine O_go (gn rfl) (st_call bd10 rfl rfl rfl rfl (f10w p' ls _ _ _ (hp61.chg0 c68) hw (by omega)) ?_)
  rintro v70 w70 ⟨⟨s70, t70, rfl⟩, c70⟩
  rw [hsz]
  refine O_go (gn rfl) (St.vl (vl_move rfl) rfl rfl ?_)
  refine O_go (gn rfl) (St.vl (vl_extract rfl rfl) rfl rfl ?_)
  refine O_go (gn rfl) (St.vl (vl_extract rfl rfl) rfl rfl ?_)
  refine O_go (gn rfl) (St.vl (vl_extract rfl rfl) rfl rfl ?_)
  refine O_go (gn rfl) (St.vl (vl_assign rfl) rfl rfl ?_)
  refine O_go (gn rfl) (St.vl (vl_assign rfl) rfl rfl ?_)
  refine O_go (gn rfl) (St.vl (vl_assign rfl) rfl rfl ?_)
  refine O_end [3, 6, 8, 12, 13, 16] (F' := [(3, _), (6, _), (8, _), (12, _), (13, _), (16, _)]) rfl ?_
  obtain ⟨vp, hbp, _⟩ := hp61.chg0 c68
  have hq : ∀ {b e : Nat} {c : List Value}, Blk w61 b e c → Nat.beq e 67 = false → Blk w70 b e c := fun hb he => (hb.chg0 c68).chg c70 (by simpa using Blk.ne (hb.chg0 c68) hbp he)
  have hb12 := hq hb12 rfl
  have hb6 := hq hb6 rfl
  have hb8 := hq hb8 rfl
  have hb5 := hq hb5 rfl
  have hb3 := hq hb3 rfl
  have hip := (hip.chg0 c68).chg1 hbp rfl rfl c70
  have hall : RList w70 (.slice qa (fromP ls.flatten key).length da) (fromP ls.flatten key) := IsSl.chg (IsSl.chg0 hall c68) c70 (IsSl.apart (IsSl.chg0 hall c68) hbp rfl)
  have hc70 : Chg [] w w70 := (hc61.trans c68).own c70 (by intro y hy; simp at hy; omega)
  have hal : (fromP ls.flatten key).length ≤ 8 * ls.length := by
    have h1 := flat_len_le hw.le ls.length
    rw [List.take_length] at h1
    exact Nat.le_trans (List.length_filter_le _ _) h1
  generalize hall0 : fromP ls.flatten key = all at *
  have hs70 := hc70.size
  refine W_seq ?_
  refine W_seq ?_
  refine W_region ?_
  refine O_go (gn rfl) (st_alloc zr3 rfl rfl ?_)
  intro b17 w17 e17 n17 c17 k17
  refine O_go (gn rfl) (st_store sz3 rfl rfl rfl rfl k17 (by simp) (by intro u hu; simp at hu; subst hu; rfl) ?_)
  intro wB nB cB kB
  refine O_end [3, 6, 8, 12, 13, 16, 17] (F' := [(3, _), (6, _), (8, _), (12, _), (13, _), (16, _), (17, _)]) rfl ?_
  have hs17 := c17.size
  have h1B : Chg [] w70 wB := c17.own cB (by intro y hy; simp at hy; omega)
  refine W_block ?_
  refine W_loop [3, 6, 8, 12, 13, 16, 17] (fun m F wx => Chg [] w70 wx ∧ ∃ b17, w70.heap.size ≤ b17 ∧ ((m = 2 ∧ Blk wx b17 3 [.int .i64 0] ∧ F = [(3, .int .i64 more), (6, .pointer (some ⟨b6, 0, none⟩)), (8, .pointer (some ⟨b8, 0, none⟩)), (12, .pointer (some ⟨b12, 0, none⟩)), (13, .func (.func 32) #[] #[.pointer (some ⟨b5, 0, none⟩), .pointer (some ⟨b3, 0, none⟩)]), (16, .int .i64 (if 2000 < K then 3 else 0)), (17, .pointer (some ⟨b17, 0, none⟩))]) ∨ (m = 1 ∧ Blk wx b17 3 [.int .i64 1] ∧ ∃ D0, w70.heap.size ≤ D0 ∧ wx.heap[D0]? = some (.deferred (some [])) ∧ F = [(3, .int .i64 more), (6, .pointer (some ⟨b6, 0, none⟩)), (8, .pointer (some ⟨b8, 0, none⟩)), (12, .pointer (some ⟨b12, 0, none⟩)), (13, .func (.func 32) #[] #[.pointer (some ⟨b5, 0, none⟩), .pointer (some ⟨b3, 0, none⟩)]), (16, .int .i64 (if 2000 < K then 3 else 0)), (17, .pointer (some ⟨b17, 0, none⟩)), (1000000, .int .i64 D0)]) ∨ (m = 0 ∧ Blk wx b17 3 [.int .i64 2] ∧ ∃ D0 D1, w70.heap.size ≤ D0 ∧ w70.heap.size ≤ D1 ∧ D1 ≠ D0 ∧ wx.heap[D0]? = some (.deferred (some [])) ∧ wx.heap[D1]? = some (.deferred (some [])) ∧ F = [(3, .int .i64 more), (6, .pointer (some ⟨b6, 0, none⟩)), (8, .pointer (some ⟨b8, 0, none⟩)), (12, .pointer (some ⟨b12, 0, none⟩)), (13, .func (.func 32) #[] #[.pointer (some ⟨b5, 0, none⟩), .pointer (some ⟨b3, 0, none⟩)]), (16, .int .i64 (if 2000 < K then 3 else 0)), (17, .pointer (some ⟨b17, 0, none⟩)), (1000000, .int .i64 D1), (1000000, .int .i64 D0)]))) (m := 2) ⟨h1B, b17, by omega, .inl ⟨rfl, kB, rfl⟩⟩ ?_
  rintro m F wx ⟨h1x, b17, hn17, ⟨rfl, hb17, rfl⟩ | ⟨rfl, hb17, D0, hD0, hKD, rfl⟩ | ⟨rfl, hb17, D0, D1, hD0, hD1, hDD, hKD, hKE, rfl⟩⟩
  · refine W_seq ?_
    refine W_seq ?_
    refine W_region ?_
    refine O_go (gn rfl) (St.vl (vl_load ag3 rfl (hb17.cell' rfl)) rfl rfl ?_)
    refine O_go (gn rfl) (St.vl (vl_is (b' := true) (vl_lss rfl rfl) (by decide)) rfl rfl ?_)
    refine O_end [3, 6, 8, 12, 13, 16, 17, 75] (F' := [(3, _), (6, _), (8, _), (12, _), (13, _), (16, _), (17, _), (75, _)]) rfl ?_
    refine W_cond_true rfl ?_
    refine W_skipE ?_
    refine W_seq ?_
    refine W_block ?_
    refine W_seq ?_
    refine W_region ?_
    refine O_go (gn rfl) (st_alloc zr3 rfl rfl ?_)
    intro b18 w18 e18 n18 c18 k18
    refine O_go (gn rfl) (st_store sz3 rfl rfl rfl rfl k18 (by simp) (by intro u hu; simp at hu; subst hu; rfl) ?_)
    intro wC nC cC kC
    refine O_end [3, 6, 8, 12, 13, 16, 17, 18] (F' := [(3, _), (6, _), (8, _), (12, _), (13, _), (16, _), (17, _), (18, _)]) rfl ?_
    have hs1x := h1x.size
    have hs18 := c18.size
    have hsC := cC.size
    have h1C : Chg [] w70 wC := (h1x.trans c18).own cC (by intro y hy; simp at hy; omega)
    have hb17C : Blk wC b17 3 [.int .i64 0] := (hb17.chg0 c18).chg cC (by have := hb17.lt; simp; omega)
    skip
    have hsI := h1C.size
    refine W_seq_cut (fun F' w' => ∃ D : Nat, prune [3, 6, 8, 12, 13, 16, 17, 18] F' = [(3, .int .i64 more), (6, .pointer (some ⟨b6, 0, none⟩)), (8, .pointer (some ⟨b8, 0, none⟩)), (12, .pointer (some ⟨b12, 0, none⟩)), (13, .func (.func 32) #[] #[.pointer (some ⟨b5, 0, none⟩), .pointer (some ⟨b3, 0, none⟩)]), (16, .int .i64 (if 2000 < K then 3 else 0)), (17, .pointer (some ⟨b17, 0, none⟩)), (18, .pointer (some ⟨b18, 0, none⟩)), (1000000, .int .i64 D)] ∧ Chg [] w70 w' ∧ Blk w' b17 3 [.int .i64 0] ∧ (∃ n : Nat, Blk w' b18 3 [.int .i64 n] ∧ (n : Int) = (if (if many > 1 then many else 1) < (all.length : Int) then (if many > 1 then many else 1) else (all.length : Int))) ∧ wC.heap.size ≤ D ∧ w'.heap[D]? = some (.deferred (some []))) ?_ ?_
    · refine W_seq ?_
      refine W_region ?_
      refine O_go (gn rfl) (St.vl (vl_move rfl) rfl rfl ?_)
      refine O_end [3, 6, 8, 12, 13, 16, 17, 18, 78] (F' := [(3, _), (6, _), (8, _), (12, _), (13, _), (16, _), (17, _), (18, _), (78, _)]) rfl ?_
      refine W_block ?_
      have hb8C := (hb8.chg0 h1C)
      refine W_range (α := Ent) (gf := 32) (lb := [.pointer (some ⟨b5, 0, none⟩), .pointer (some ⟨b3, 0, none⟩)]) (encs := fun x : Ent => #[.string x.1, .string x.2]) (N := all.length) [b18, b8]
        (fun pre W => pre <+: all ∧ (pre = [] ∨ (pre.length : Int) < many) ∧ Chg [] w70 W ∧ Blk W b17 3 [.int .i64 0] ∧ Blk W b18 3 [.int .i64 pre.length] ∧ wC.heap.size ≤ W.heap.size)
        (fun c pre W => match c with
          | .ret => ¬ pre <+: all
          | .exit i => i = 4 ∧ ((pre.length : Int) = if many > 1 then many else 1) ∧ Chg [] w70 W ∧ Blk W b17 3 [.int .i64 0] ∧ Blk W b18 3 [.int .i64 pre.length] ∧ wC.heap.size ≤ W.heap.size
          | _ => False)
        (fun x => [(80, .string x.2), (79, .string x.1), (3, .int .i64 more), (6, .pointer (some ⟨b6, 0, none⟩)), (8, .pointer (some ⟨b8, 0, none⟩)), (12, .pointer (some ⟨b12, 0, none⟩)), (13, .func (.func 32) #[] #[.pointer (some ⟨b5, 0, none⟩), .pointer (some ⟨b3, 0, none⟩)]), (16, .int .i64 (if 2000 < K then 3 else 0)), (17, .pointer (some ⟨b17, 0, none⟩)), (18, .pointer (some ⟨b18, 0, none⟩)), (78, .func (.func 32) #[] #[.pointer (some ⟨b5, 0, none⟩), .pointer (some ⟨b3, 0, none⟩)])])
        (fun x => [(3, .int .i64 more), (6, .pointer (some ⟨b6, 0, none⟩)), (8, .pointer (some ⟨b8, 0, none⟩)), (12, .pointer (some ⟨b12, 0, none⟩)), (13, .func (.func 32) #[] #[.pointer (some ⟨b5, 0, none⟩), .pointer (some ⟨b3, 0, none⟩)]), (16, .int .i64 (if 2000 < K then 3 else 0)), (17, .pointer (some ⟨b17, 0, none⟩)), (18, .pointer (some ⟨b18, 0, none⟩)), (19, .string x.1), (20, .string x.2), (79, .string x.1), (80, .string x.2)]) rfl bd32 ?_
        (f32_seq wC b5 b3 vv ls key [b18, b8] (hb5.chg0 h1C) (hip.chg0 h1C) (hb3.chg0 h1C) (by omega) hw.le ?_ ?_ hall0) (fun _ => rfl) ?_ ?_ ?_ (fun pre W hI => hI.2.2.2.2.2) ?_ ?_ ?_ ?_ ?_
      · intro b hb
        simp at hb
        rcases hb with rfl | rfl
        · exact kC.lt
        · exact hb8C.lt
      · simp
        have := hb3.lt
        have := hb8.lt
        refine ⟨by omega, fun e => ?_⟩
        have := (e ▸ hb3).inj hb8
        cases this.1
      · intro b hb
        simp at hb
        rcases hb with rfl | rfl
        · exact ⟨3, _, kC, rfl, rfl⟩
        · exact ⟨4, _, hb8C, rfl, rfl⟩
      · rintro pre W W' T hT hc ⟨g1, g2, g3, g4, g5, g6⟩
        exact ⟨g1, g2, g3.own hc (fun k hk => by have := hT k hk; omega), g4.chg hc (fun hm => by have := hT _ hm; have := hb17C.lt; omega), g5.chg hc (fun hm => by have := hT _ hm; have := kC.lt; omega), Nat.le_trans g6 hc.size⟩
      · rintro c pre W W' T hT hc hx
        cases c with
        | ret => exact hx
        | exit id =>
          obtain ⟨gi, g2, g3, g4, g5, g6⟩ := hx
          exact ⟨gi, g2, g3.own hc (fun k hk => by have := hT k hk; omega), g4.chg hc (fun hm => by have := hT _ hm; have := hb17C.lt; omega), g5.chg hc (fun hm => by have := hT _ hm; have := kC.lt; omega), Nat.le_trans g6 hc.size⟩
        | _ => exact hx.elim
      · exact ⟨List.nil_prefix, .inl rfl, h1C, hb17C, kC, Nat.le_refl _⟩
      · intro x a ha
        exact ha.vars2 rfl rfl rfl
      · intro l x W
        refine X_seq ?_
        refine X_region ?_
        refine X_go (gn rfl) rfl (St.vl (vl_assign rfl) rfl rfl ?_)
        refine X_end [3, 6, 8, 12, 13, 16, 17, 18, 19, 79, 80] (F' := [(3, _), (6, _), (8, _), (12, _), (13, _), (16, _), (17, _), (18, _), (19, _), (79, _), (80, _)]) rfl ?_
        refine X_region ?_
        refine X_go (gn rfl) rfl (St.vl (vl_assign rfl) rfl rfl ?_)
        refine X_endN [3, 6, 8, 12, 13, 16, 17, 18, 19, 20, 79, 80] (F' := [(3, _), (6, _), (8, _), (12, _), (13, _), (16, _), (17, _), (18, _), (19, _), (20, _), (79, _), (80, _)]) rfl ?_
        exact ⟨rfl, rfl, rfl⟩
      · rintro l pre x W ⟨hpre, hcond, g3, g4, g5, g6⟩ hlen
        have hg18 : b18 < W.heap.size := g5.lt
        have hg8 := hb8.chg0 g3
        have hg12 := hb12.chg0 g3
        have hgall := IsSl.chg0 hall g3
        have hgl : all[pre.length]? = some all[pre.length] := by simp [hlen]
        obtain ⟨bl, ol, cl, hvl, hcl⟩ := RList.at' hgall hgl
        simp only [Value.slice.injEq] at hvl
        obtain ⟨rfl, _, rfl⟩ := hvl
        refine X_block ?_
        refine X_seq ?_
        refine X_seq ?_
        have hbad : x ≠ all[pre.length] → ¬ (pre ++ [x]) <+: all := by
          intro hne hp
          apply hne
          obtain ⟨r, hr⟩ := hp
          have : all[pre.length]? = some x := by rw [← hr]; simp
          rw [hgl] at this
          exact (Option.some.inj this).symm
        by_cases hx1 : x.1 = all[pre.length].1
        · by_cases hx2 : x.2 = all[pre.length].2
          · refine X_region ?_
            refine X_go (gn rfl) rfl (St.vl (vl_load ag3 rfl (g5.cell' rfl)) rfl rfl ?_)
            refine X_go (gn rfl) rfl (St.vl (vl_load ag53 rfl (hg12.cell' rfl)) rfl rfl ?_)
            refine X_go (gn rfl) rfl (St.vl (vl_len sl53 rfl) rfl rfl ?_)
            refine X_go (gn rfl) rfl (St.vl (vl_is (b' := false) (vl_geq rfl rfl) (decide_eq_false (by omega))) rfl rfl ?_)
            refine X_go (gn rfl) rfl (St.vl (vl_move rfl) rfl rfl ?_)
            refine X_go (gy rfl rfl rfl) rfl (St.vl (vl_move rfl) rfl rfl ?_)
            refine X_go (gy rfl rfl rfl) rfl (St.vl (vl_load ag53 rfl (hg12.cell' rfl)) rfl rfl ?_)
            refine X_go (gy rfl rfl rfl) rfl (St.vl (vl_load ag3 rfl (g5.cell' rfl)) rfl rfl ?_)
            refine X_go (gy rfl rfl rfl) rfl (St.vl (vl_indexAddr sl53 sz57 rfl rfl _ rfl hlen) rfl rfl ?_)
            refine X_go (gy rfl rfl rfl) rfl (St.vl (vl_fieldAddr fo57_0 rfl) rfl rfl ?_)
            refine X_go (gy rfl rfl rfl) rfl (St.vl (vl_load ag9 rfl (hcl 0 _ rfl)) rfl rfl ?_)
            refine X_go (gy rfl rfl rfl) rfl (St.vl (vl_is (b' := false) (vl_sne rfl rfl) (by simp [hx1])) rfl rfl ?_)
            refine X_go (gn rfl) rfl (St.vl (vl_pick_f rfl rfl) rfl rfl ?_)
            refine X_go (gn rfl) rfl (St.vl (vl_move rfl) rfl rfl ?_)
            refine X_go (gy rfl rfl rfl) rfl (St.vl (vl_move rfl) rfl rfl ?_)
            refine X_go (gy rfl rfl rfl) rfl (St.vl (vl_load ag53 rfl (hg12.cell' rfl)) rfl rfl ?_)
            refine X_go (gy rfl rfl rfl) rfl (St.vl (vl_load ag3 rfl (g5.cell' rfl)) rfl rfl ?_)
            refine X_go (gy rfl rfl rfl) rfl (St.vl (vl_indexAddr sl53 sz57 rfl rfl _ rfl hlen) rfl rfl ?_)
            refine X_go (gy rfl rfl rfl) rfl (St.vl (vl_fieldAddr fo57_1 rfl) rfl rfl ?_)
            refine X_go (gy rfl rfl rfl) rfl (St.vl (vl_load ag9 rfl (hcl 1 _ rfl)) rfl rfl ?_)
            refine X_go (gy rfl rfl rfl) rfl (St.vl (vl_is (b' := false) (vl_sne rfl rfl) (by simp [hx2])) rfl rfl ?_)
            refine X_go (gn rfl) rfl (St.vl (vl_pick_f rfl rfl) rfl rfl ?_)
            refine X_end [3, 6, 8, 12, 13, 16, 17, 18, 79, 80, 102] (F' := [(3, _), (6, _), (8, _), (12, _), (13, _), (16, _), (17, _), (18, _), (79, _), (80, _), (102, _)]) rfl ?_
            refine X_cond_false rfl ?_
            refine X_prune [3, 6, 8, 12, 13, 16, 17, 18, 79, 80] rfl ?_
            refine X_skipE ?_
            refine X_seq ?_
            refine X_region ?_
            refine X_go (gn rfl) rfl (St.vl (vl_load ag3 rfl (g5.cell' rfl)) rfl rfl ?_)
            refine X_go (gn rfl) rfl (St.vl (vl_add rfl rfl (by omega)) rfl rfl ?_)
            refine X_go (gn rfl) rfl (st_store sz3 rfl rfl rfl rfl g5 (by simp) (by intro u hu; simp at hu; subst hu; rfl) ?_)
            intro wE nE cE kE
            refine X_end [3, 6, 8, 12, 13, 16, 17, 18, 79, 80] (F' := [(3, _), (6, _), (8, _), (12, _), (13, _), (16, _), (17, _), (18, _), (79, _), (80, _)]) rfl ?_
            have hp' : pre ++ [x] <+: all := by
              have e : x = all[pre.length] := Prod.ext hx1 hx2
              rw [e]
              have := List.take_prefix (pre.length + 1) all
              rw [List.take_add_one, hgl, ← List.prefix_iff_eq_take.1 hpre] at this
              exact this
            have g3E : Chg [] w70 wE := g3.own cE (by intro y hy; simp at hy; omega)
            have g4E : Blk wE b17 3 [.int .i64 0] := g4.chg cE (by have := hb17.lt; simp; omega)
            have kE' : Blk wE b18 3 [.int .i64 (pre ++ [x]).length] := by
              have e : (((pre ++ [x]).length : Nat) : Int) = pre.length + 1 := by simp
              rw [e]
              exact kE
            skip
            have g6E : wC.heap.size ≤ wE.heap.size := Nat.le_trans g6 cE.size
            have hcE : Chg [b18, b8] W wE := cE.weak (by simp)
            refine X_seq ?_
            by_cases hmany : many ≤ pre.length + 1
            · refine X_region ?_
              refine X_go (gn rfl) rfl (St.vl (vl_load ag3 rfl (g4E.cell' rfl)) rfl rfl ?_)
              refine X_go (gn rfl) rfl (St.vl (vl_is (b' := true) (vl_ieq rfl rfl) (by decide)) rfl rfl ?_)
              refine X_go (gn rfl) rfl (St.vl (vl_move rfl) rfl rfl ?_)
              refine X_go (gy rfl rfl rfl) rfl (St.vl (vl_load ag3 rfl (kE'.cell' rfl)) rfl rfl ?_)
              refine X_go (gy rfl rfl rfl) rfl (St.vl (vl_load ag3 rfl ((hb6.chg0 g3E).cell' rfl)) rfl rfl ?_)
              refine X_go (gy rfl rfl rfl) rfl (St.vl (vl_is (b' := true) (vl_geq rfl rfl) (decide_eq_true (by simp; omega))) rfl rfl ?_)
              refine X_go (gn rfl) rfl (St.vl (vl_pick_t rfl rfl) rfl rfl ?_)
              refine X_end [3, 6, 8, 12, 13, 16, 17, 18, 79, 80, 111] (F' := [(3, _), (6, _), (8, _), (12, _), (13, _), (16, _), (17, _), (18, _), (79, _), (80, _), (111, _)]) rfl ?_
              refine X_cond_true rfl ?_
              refine X_exit ?_
              repeat (first | refine then_exit ?_ | refine blockF_other rfl ?_)
              refine ⟨hcE, rfl, ?_, g3E, g4E, kE', g6E⟩
              refine max1 many _ (by simp) ?_ (by simp; omega)
              rcases hcond with rfl | hcond
              · exact .inl rfl
              · exact .inr (by simp; omega)
            · refine X_region ?_
              refine X_go (gn rfl) rfl (St.vl (vl_load ag3 rfl (g4E.cell' rfl)) rfl rfl ?_)
              refine X_go (gn rfl) rfl (St.vl (vl_is (b' := true) (vl_ieq rfl rfl) (by decide)) rfl rfl ?_)
              refine X_go (gn rfl) rfl (St.vl (vl_move rfl) rfl rfl ?_)
              refine X_go (gy rfl rfl rfl) rfl (St.vl (vl_load ag3 rfl (kE'.cell' rfl)) rfl rfl ?_)
              refine X_go (gy rfl rfl rfl) rfl (St.vl (vl_load ag3 rfl ((hb6.chg0 g3E).cell' rfl)) rfl rfl ?_)
              refine X_go (gy rfl rfl rfl) rfl (St.vl (vl_is (b' := false) (vl_geq rfl rfl) (decide_eq_false (by simp; omega))) rfl rfl ?_)
              refine X_go (gn rfl) rfl (St.vl (vl_pick_t rfl rfl) rfl rfl ?_)
              refine X_end [3, 6, 8, 12, 13, 16, 17, 18, 79, 80, 111] (F' := [(3, _), (6, _), (8, _), (12, _), (13, _), (16, _), (17, _), (18, _), (79, _), (80, _), (111, _)]) rfl ?_
              refine X_cond_false rfl ?_
              refine X_skip ?_
              refine block_normal ?_
              exact ⟨hcE, hp', .inr (by simp; omega), g3E, g4E, kE', g6E⟩
          · refine X_region ?_
            refine X_go (gn rfl) rfl (St.vl (vl_load ag3 rfl (g5.cell' rfl)) rfl rfl ?_)
            refine X_go (gn rfl) rfl (St.vl (vl_load ag53 rfl (hg12.cell' rfl)) rfl rfl ?_)
            refine X_go (gn rfl) rfl (St.vl (vl_len sl53 rfl) rfl rfl ?_)
            refine X_go (gn rfl) rfl (St.vl (vl_is (b' := false) (vl_geq rfl rfl) (decide_eq_false (by omega))) rfl rfl ?_)
            refine X_go (gn rfl) rfl (St.vl (vl_move rfl) rfl rfl ?_)
            refine X_go (gy rfl rfl rfl) rfl (St.vl (vl_move rfl) rfl rfl ?_)
            refine X_go (gy rfl rfl rfl) rfl (St.vl (vl_load ag53 rfl (hg12.cell' rfl)) rfl rfl ?_)
            refine X_go (gy rfl rfl rfl) rfl (St.vl (vl_load ag3 rfl (g5.cell' rfl)) rfl rfl ?_)
            refine X_go (gy rfl rfl rfl) rfl (St.vl (vl_indexAddr sl53 sz57 rfl rfl _ rfl hlen) rfl rfl ?_)
            refine X_go (gy rfl rfl rfl) rfl (St.vl (vl_fieldAddr fo57_0 rfl) rfl rfl ?_)
            refine X_go (gy rfl rfl rfl) rfl (St.vl (vl_load ag9 rfl (hcl 0 _ rfl)) rfl rfl ?_)
            refine X_go (gy rfl rfl rfl) rfl (St.vl (vl_is (b' := false) (vl_sne rfl rfl) (by simp [hx1])) rfl rfl ?_)
            refine X_go (gn rfl) rfl (St.vl (vl_pick_f rfl rfl) rfl rfl ?_)
            refine X_go (gn rfl) rfl (St.vl (vl_move rfl) rfl rfl ?_)
            refine X_go (gy rfl rfl rfl) rfl (St.vl (vl_move rfl) rfl rfl ?_)
            refine X_go (gy rfl rfl rfl) rfl (St.vl (vl_load ag53 rfl (hg12.cell' rfl)) rfl rfl ?_)
            refine X_go (gy rfl rfl rfl) rfl (St.vl (vl_load ag3 rfl (g5.cell' rfl)) rfl rfl ?_)
            refine X_go (gy rfl rfl rfl) rfl (St.vl (vl_indexAddr sl53 sz57 rfl rfl _ rfl hlen) rfl rfl ?_)
            refine X_go (gy rfl rfl rfl) rfl (St.vl (vl_fieldAddr fo57_1 rfl) rfl rfl ?_)
            refine X_go (gy rfl rfl rfl) rfl (St.vl (vl_load ag9 rfl (hcl 1 _ rfl)) rfl rfl ?_)
            refine X_go (gy rfl rfl rfl) rfl (St.vl (vl_is (b' := true) (vl_sne rfl rfl) (by simp [hx2])) rfl rfl ?_)
            refine X_go (gn rfl) rfl (St.vl (vl_pick_f rfl rfl) rfl rfl ?_)
            refine X_end [3, 6, 8, 12, 13, 16, 17, 18, 79, 80, 102] (F' := [(3, _), (6, _), (8, _), (12, _), (13, _), (16, _), (17, _), (18, _), (79, _), (80, _), (102, _)]) rfl ?_
            refine X_cond_true rfl ?_
            refine X_seq ?_
            refine X_region ?_
            refine X_go (gn rfl) rfl (st_store sz4 rfl rfl rfl rfl hg8 (by simp) (by intro u hu; simp at hu; subst hu; rfl) ?_)
            intro wE nE cE kE
            refine X_end [8] (F' := [(8, _)]) rfl ?_
            refine X_ret ?_
            repeat (first | refine then_ret ?_ | refine block_ret ?_)
            exact ⟨cE.weak (by simp), hbad (fun e => hx2 (by rw [e]))⟩
        · refine X_region ?_
          refine X_go (gn rfl) rfl (St.vl (vl_load ag3 rfl (g5.cell' rfl)) rfl rfl ?_)
          refine X_go (gn rfl) rfl (St.vl (vl_load ag53 rfl (hg12.cell' rfl)) rfl rfl ?_)
          refine X_go (gn rfl) rfl (St.vl (vl_len sl53 rfl) rfl rfl ?_)
          refine X_go (gn rfl) rfl (St.vl (vl_is (b' := false) (vl_geq rfl rfl) (decide_eq_false (by omega))) rfl rfl ?_)
          refine X_go (gn rfl) rfl (St.vl (vl_move rfl) rfl rfl ?_)
          refine X_go (gy rfl rfl rfl) rfl (St.vl (vl_move rfl) rfl rfl ?_)
          refine X_go (gy rfl rfl rfl) rfl (St.vl (vl_load ag53 rfl (hg12.cell' rfl)) rfl rfl ?_)
          refine X_go (gy rfl rfl rfl) rfl (St.vl (vl_load ag3 rfl (g5.cell' rfl)) rfl rfl ?_)
          refine X_go (gy rfl rfl rfl) rfl (St.vl (vl_indexAddr sl53 sz57 rfl rfl _ rfl hlen) rfl rfl ?_)
          refine X_go (gy rfl rfl rfl) rfl (St.vl (vl_fieldAddr fo57_0 rfl) rfl rfl ?_)
          refine X_go (gy rfl rfl rfl) rfl (St.vl (vl_load ag9 rfl (hcl 0 _ rfl)) rfl rfl ?_)
          refine X_go (gy rfl rfl rfl) rfl (St.vl (vl_is (b' := true) (vl_sne rfl rfl) (by simp [hx1])) rfl rfl ?_)
          refine X_go (gn rfl) rfl (St.vl (vl_pick_f rfl rfl) rfl rfl ?_)
          refine X_go (gn rfl) rfl (St.vl (vl_move rfl) rfl rfl ?_)
          refine X_no rfl rfl rfl rfl rfl rfl ?_
          refine X_no rfl rfl rfl rfl rfl rfl ?_
          refine X_no rfl rfl rfl rfl rfl rfl ?_
          refine X_no rfl rfl rfl rfl rfl rfl ?_
          refine X_no rfl rfl rfl rfl rfl rfl ?_
          refine X_no rfl rfl rfl rfl rfl rfl ?_
          refine X_no rfl rfl rfl rfl rfl rfl ?_
          refine X_go (gn rfl) rfl (St.vl (vl_pick_t rfl rfl) rfl rfl ?_)
          refine X_end [3, 6, 8, 12, 13, 16, 17, 18, 79, 80, 102] (F' := [(3, _), (6, _), (8, _), (12, _), (13, _), (16, _), (17, _), (18, _), (79, _), (80, _), (102, _)]) rfl ?_
          refine X_cond_true rfl ?_
          refine X_seq ?_
          refine X_region ?_
          refine X_go (gn rfl) rfl (st_store sz4 rfl rfl rfl rfl hg8 (by simp) (by intro u hu; simp at hu; subst hu; rfl) ?_)
          intro wE nE cE kE
          refine X_end [8] (F' := [(8, _)]) rfl ?_
          refine X_ret ?_
          repeat (first | refine then_ret ?_ | refine block_ret ?_)
          exact ⟨cE.weak (by simp), hbad (fun e => hx1 (by rw [e]))⟩
      · rintro D xs W hD hxs ⟨-, hcond, g3, g4, g5, g6⟩ hK
        have hxs' := hxs.symm
        subst hxs'
        refine block_normal ?_
        refine ⟨D, rfl, g3, g4, ⟨all.length, g5, ?_⟩, hD, hK⟩
        rcases hcond with h0 | h0
        · have e : all.length = 0 := by rw [h0]; rfl
          rw [e]
          split <;> split <;> omega
        · split <;> split <;> omega
      · rintro D c pre W hD ⟨hne, hpre⟩ hx hK
        cases c with
        | ret => exact absurd hpre hx
        | exit id => 
          obtain ⟨rfl, g2, g3, g4, g5, g6⟩ := hx
          refine W_exit ?_
          refine blockF_exit _ ?_
          refine ⟨D, rfl, g3, g4, ⟨pre.length, g5, ?_⟩, hD, hK⟩
          have := hpre.length_le
          rw [← g2]
          split <;> omega
        | _ => exact hx.elim
    · rintro F' w' ⟨D, hF', g3, g4, ⟨n, g5, hn⟩, hD, hK⟩
      refine W_prune _ hF' ?_
      have hg12 := hb12.chg0 g3
      have hg6 := hb6.chg0 g3
      have hgs := g3.size
      have hDl : D < w'.heap.size := (Array.getElem?_eq_some_iff.1 hK).1
      refine W_seq ?_
      refine W_region ?_
      refine O_go (gn rfl) (St.vl (vl_load ag3 rfl (g4.cell' rfl)) rfl rfl ?_)
      refine O_go (gn rfl) (St.vl (vl_is (b' := true) (vl_ieq rfl rfl) (by decide)) rfl rfl ?_)
      refine O_go (gn rfl) (St.vl (vl_move rfl) rfl rfl ?_)
      refine O_go (gy rfl rfl rfl) (St.vl (vl_load ag3 rfl (g5.cell' rfl)) rfl rfl ?_)
      refine O_go (gy rfl rfl rfl) (St.vl (vl_load ag53 rfl (hg12.cell' rfl)) rfl rfl ?_)
      refine O_go (gy rfl rfl rfl) (St.vl (vl_len sl53 rfl) rfl rfl ?_)
      refine O_go (gy rfl rfl rfl) (St.vl (vl_load ag3 rfl (hg6.cell' rfl)) rfl rfl ?_)
      refine O_go (gy rfl rfl rfl) (St.vl (vl_max rfl rfl) rfl rfl ?_)
      refine O_go (gy rfl rfl rfl) (St.vl (vl_min rfl rfl) rfl rfl ?_)
      refine O_go (gy rfl rfl rfl) (St.vl (vl_is (b' := false) (vl_ine rfl rfl) (by rw [decide_eq_true hn]; rfl)) rfl rfl ?_)
      refine O_go (gn rfl) (St.vl (vl_pick_t rfl rfl) rfl rfl ?_)
      refine O_go (gn rfl) (St.vl (vl_move rfl) rfl rfl ?_)
      refine O_go (gy rfl rfl rfl) (St.vl (vl_load ag3 rfl (g4.cell' rfl)) rfl rfl ?_)
      refine O_go (gy rfl rfl rfl) (St.vl (vl_is (b' := false) (vl_ieq rfl rfl) (by decide)) rfl rfl ?_)
      refine O_go (gy rfl rfl rfl) (St.vl (vl_move rfl) rfl rfl ?_)
      refine O_guard_no rfl rfl rfl rfl rfl rfl ?_
      refine O_guard_no rfl rfl rfl rfl rfl rfl ?_
      refine O_guard_no rfl rfl rfl rfl rfl rfl ?_
      refine O_guard_no rfl rfl rfl rfl rfl rfl ?_
      refine O_go (gy rfl rfl rfl) (St.vl (vl_pick_f rfl rfl) rfl rfl ?_)
      refine O_go (gn rfl) (St.vl (vl_pick_f rfl rfl) rfl rfl ?_)
      refine O_end [3, 6, 8, 12, 13, 16, 17, 132] (F' := [(3, _), (6, _), (8, _), (12, _), (13, _), (16, _), (17, _), (132, _), (1000000, _)]) rfl ?_
      refine W_cond_false rfl ?_
      refine W_skip ?_
      refine block_normal ?_
      refine W_seq ?_
      refine W_seq ?_
      refine W_region ?_
      refine O_go (gn rfl) (St.vl (vl_load ag3 rfl (g4.cell' rfl)) rfl rfl ?_)
      refine O_end [3, 6, 8, 12, 13, 16, 133] (F' := [(3, _), (6, _), (8, _), (12, _), (13, _), (16, _), (133, _), (1000000, _)]) rfl ?_
      refine W_region ?_
      refine O_go (gn rfl) (st_alloc zr3 rfl rfl ?_)
      intro b17 w17 e17 n17 c17 k17
      refine O_go (gn rfl) (st_store sz3 rfl rfl rfl rfl k17 (by simp) (by intro u hu; simp at hu; subst hu; rfl) ?_)
      intro wG nG cG kG
      refine O_end [3, 6, 8, 12, 13, 16, 17] (F' := [(3, _), (6, _), (8, _), (12, _), (13, _), (16, _), (17, _), (1000000, _)]) rfl ?_
      have hn17' := c17.size
      have h1G : Chg [] w70 wG := (g3.trans c17).own cG (by intro y hy; simp at hy; omega)
      have hKG : wG.heap[D]? = some (.deferred (some [])) := (cG.block D (by omega) (by simp; omega)).trans ((c17.block D hDl (by simp)).trans hK)
      refine W_region ?_
      refine O_go (gn rfl) (St.vl (vl_load ag3 rfl (kG.cell' rfl)) rfl rfl ?_)
      refine O_go (gn rfl) (St.vl (vl_add rfl rfl (by omega)) rfl rfl ?_)
      refine O_go (gn rfl) (st_store sz3 rfl rfl rfl rfl kG (by simp [laid]) (by intro u hu; simp at hu; subst hu; rfl) ?_)
      intro wI nI cI kI
      refine O_endN [3, 6, 8, 12, 13, 16, 17] (F' := [(3, _), (6, _), (8, _), (12, _), (13, _), (16, _), (17, _), (1000000, _)]) rfl ?_
      have h1I : Chg [] w70 wI := h1G.own cI (by intro y hy; simp at hy; omega)
      have hKI : wI.heap[D]? = some (.deferred (some [])) := (cI.block D (Array.getElem?_eq_some_iff.1 hKG).1 (by simp; omega)).trans hKG
      exact ⟨1, by omega, h1I, b17, by omega, .inr (.inl ⟨rfl, kI, D, by omega, hKI, rfl⟩)⟩
  · refine W_seq ?_
    refine W_seq ?_
    have hD0l : D0 < wx.heap.size := (Array.getElem?_eq_some_iff.1 hKD).1
    refine W_region ?_
    refine O_go (gn rfl) (St.vl (vl_load ag3 rfl (hb17.cell' rfl)) rfl rfl ?_)
    refine O_go (gn rfl) (St.vl (vl_is (b' := true) (vl_lss rfl rfl) (by decide)) rfl rfl ?_)
    refine O_end [3, 6, 8, 12, 13, 16, 17, 75] (F' := [(3, _), (6, _), (8, _), (12, _), (13, _), (16, _), (17, _), (75, _), (1000000, _)]) rfl ?_
    refine W_cond_true rfl ?_
    refine W_skipE ?_
    refine W_seq ?_
    refine W_block ?_
    refine W_seq ?_
    refine W_region ?_
    refine O_go (gn rfl) (st_alloc zr3 rfl rfl ?_)
    intro b18 w18 e18 n18 c18 k18
    refine O_go (gn rfl) (st_store sz3 rfl rfl rfl rfl k18 (by simp) (by intro u hu; simp at hu; subst hu; rfl) ?_)
    intro wC nC cC kC
    refine O_end [3, 6, 8, 12, 13, 16, 17, 18] (F' := [(3, _), (6, _), (8, _), (12, _), (13, _), (16, _), (17, _), (18, _), (1000000, _)]) rfl ?_
    have hs1x := h1x.size
    have hs18 := c18.size
    have hsC := cC.size
    have h1C : Chg [] w70 wC := (h1x.trans c18).own cC (by intro y hy; simp at hy; omega)
    have hb17C : Blk wC b17 3 [.int .i64 1] := (hb17.chg0 c18).chg cC (by have := hb17.lt; simp; omega)
    have hKC : wC.heap[D0]? = some (.deferred (some [])) := (cC.block D0 (by omega) (by simp; omega)).trans ((c18.block D0 hD0l (by simp)).trans hKD)
    have hsI := h1C.size
    refine W_seq_cut (fun F' w' => ∃ D : Nat, prune [3, 6, 8, 12, 13, 16, 17, 18] F' = [(3, .int .i64 more), (6, .pointer (some ⟨b6, 0, none⟩)), (8, .pointer (some ⟨b8, 0, none⟩)), (12, .pointer (some ⟨b12, 0, none⟩)), (13, .func (.func 32) #[] #[.pointer (some ⟨b5, 0, none⟩), .pointer (some ⟨b3, 0, none⟩)]), (16, .int .i64 (if 2000 < K then 3 else 0)), (17, .pointer (some ⟨b17, 0, none⟩)), (18, .pointer (some ⟨b18, 0, none⟩)), (1000000, .int .i64 D), (1000000, .int .i64 D0)] ∧ Chg [] w70 w' ∧ Blk w' b17 3 [.int .i64 1] ∧ (∃ n : Nat, Blk w' b18 3 [.int .i64 n] ∧ n = all.length) ∧ wC.heap.size ≤ D ∧ w'.heap[D]? = some (.deferred (some [])) ∧ w'.heap[D0]? = some (.deferred (some []))) ?_ ?_
    · refine W_seq ?_
      refine W_region ?_
      refine O_go (gn rfl) (St.vl (vl_move rfl) rfl rfl ?_)
      refine O_end [3, 6, 8, 12, 13, 16, 17, 18, 78] (F' := [(3, _), (6, _), (8, _), (12, _), (13, _), (16, _), (17, _), (18, _), (78, _), (1000000, _)]) rfl ?_
      refine W_block ?_
      have hb8C := (hb8.chg0 h1C)
      refine W_range (α := Ent) (gf := 32) (lb := [.pointer (some ⟨b5, 0, none⟩), .pointer (some ⟨b3, 0, none⟩)]) (encs := fun x : Ent => #[.string x.1, .string x.2]) (N := all.length) [b18, b8]
        (fun pre W => pre <+: all ∧ True ∧ Chg [] w70 W ∧ Blk W b17 3 [.int .i64 1] ∧ Blk W b18 3 [.int .i64 pre.length] ∧ wC.heap.size ≤ W.heap.size ∧ W.heap[D0]? = some (.deferred (some [])))
        (fun c pre W => match c with
          | .ret => ¬ pre <+: all
          | .exit i => i = 4 ∧ False ∧ Chg [] w70 W ∧ Blk W b17 3 [.int .i64 1] ∧ Blk W b18 3 [.int .i64 pre.length] ∧ wC.heap.size ≤ W.heap.size ∧ W.heap[D0]? = some (.deferred (some []))
          | _ => False)
        (fun x => [(80, .string x.2), (79, .string x.1), (3, .int .i64 more), (6, .pointer (some ⟨b6, 0, none⟩)), (8, .pointer (some ⟨b8, 0, none⟩)), (12, .pointer (some ⟨b12, 0, none⟩)), (13, .func (.func 32) #[] #[.pointer (some ⟨b5, 0, none⟩), .pointer (some ⟨b3, 0, none⟩)]), (16, .int .i64 (if 2000 < K then 3 else 0)), (17, .pointer (some ⟨b17, 0, none⟩)), (18, .pointer (some ⟨b18, 0, none⟩)), (78, .func (.func 32) #[] #[.pointer (some ⟨b5, 0, none⟩), .pointer (some ⟨b3, 0, none⟩)])])
        (fun x => [(3, .int .i64 more), (6, .pointer (some ⟨b6, 0, none⟩)), (8, .pointer (some ⟨b8, 0, none⟩)), (12, .pointer (some ⟨b12, 0, none⟩)), (13, .func (.func 32) #[] #[.pointer (some ⟨b5, 0, none⟩), .pointer (some ⟨b3, 0, none⟩)]), (16, .int .i64 (if 2000 < K then 3 else 0)), (17, .pointer (some ⟨b17, 0, none⟩)), (18, .pointer (some ⟨b18, 0, none⟩)), (19, .string x.1), (20, .string x.2), (79, .string x.1), (80, .string x.2)]) rfl bd32 ?_
        (f32_seq wC b5 b3 vv ls key [b18, b8] (hb5.chg0 h1C) (hip.chg0 h1C) (hb3.chg0 h1C) (by omega) hw.le ?_ ?_ hall0) (fun _ => rfl) ?_ ?_ ?_ (fun pre W hI => hI.2.2.2.2.2.1) ?_ ?_ ?_ ?_ ?_
      · intro b hb
        simp at hb
        rcases hb with rfl | rfl
        · exact kC.lt
        · exact hb8C.lt
      · simp
        have := hb3.lt
        have := hb8.lt
        refine ⟨by omega, fun e => ?_⟩
        have := (e ▸ hb3).inj hb8
        cases this.1
      · intro b hb
        simp at hb
        rcases hb with rfl | rfl
        · exact ⟨3, _, kC, rfl, rfl⟩
        · exact ⟨4, _, hb8C, rfl, rfl⟩
      · rintro pre W W' T hT hc ⟨g1, g2, g3, g4, g5, g6, g7⟩
        exact ⟨g1, g2, g3.own hc (fun k hk => by have := hT k hk; omega), g4.chg hc (fun hm => by have := hT _ hm; have := hb17C.lt; omega), g5.chg hc (fun hm => by have := hT _ hm; have := kC.lt; omega), Nat.le_trans g6 hc.size, (hc.block D0 (Array.getElem?_eq_some_iff.1 g7).1 (fun hm => by have := hT _ hm; omega)).trans g7⟩
      · rintro c pre W W' T hT hc hx
        cases c with
        | ret => exact hx
        | exit id =>
          obtain ⟨gi, g2, g3, g4, g5, g6, g7⟩ := hx
          exact ⟨gi, g2, g3.own hc (fun k hk => by have := hT k hk; omega), g4.chg hc (fun hm => by have := hT _ hm; have := hb17C.lt; omega), g5.chg hc (fun hm => by have := hT _ hm; have := kC.lt; omega), Nat.le_trans g6 hc.size, (hc.block D0 (Array.getElem?_eq_some_iff.1 g7).1 (fun hm => by have := hT _ hm; omega)).trans g7⟩
        | _ => exact hx.elim
      · exact ⟨List.nil_prefix, trivial, h1C, hb17C, kC, Nat.le_refl _, hKC⟩
      · intro x a ha
        exact ha.vars2 rfl rfl rfl
      · intro l x W
        refine X_seq ?_
        refine X_region ?_
        refine X_go (gn rfl) rfl (St.vl (vl_assign rfl) rfl rfl ?_)
        refine X_end [3, 6, 8, 12, 13, 16, 17, 18, 19, 79, 80] (F' := [(3, _), (6, _), (8, _), (12, _), (13, _), (16, _), (17, _), (18, _), (19, _), (79, _), (80, _)]) rfl ?_
        refine X_region ?_
        refine X_go (gn rfl) rfl (St.vl (vl_assign rfl) rfl rfl ?_)
        refine X_endN [3, 6, 8, 12, 13, 16, 17, 18, 19, 20, 79, 80] (F' := [(3, _), (6, _), (8, _), (12, _), (13, _), (16, _), (17, _), (18, _), (19, _), (20, _), (79, _), (80, _)]) rfl ?_
        exact ⟨rfl, rfl, rfl⟩
      · rintro l pre x W ⟨hpre, hcond, g3, g4, g5, g6, g7⟩ hlen
        have hg18 : b18 < W.heap.size := g5.lt
        have hg8 := hb8.chg0 g3
        have hg12 := hb12.chg0 g3
        have hgall := IsSl.chg0 hall g3
        have hgl : all[pre.length]? = some all[pre.length] := by simp [hlen]
        obtain ⟨bl, ol, cl, hvl, hcl⟩ := RList.at' hgall hgl
        simp only [Value.slice.injEq] at hvl
        obtain ⟨rfl, _, rfl⟩ := hvl
        refine X_block ?_
        refine X_seq ?_
        refine X_seq ?_
        have hbad : x ≠ all[pre.length] → ¬ (pre ++ [x]) <+: all := by
          intro hne hp
          apply hne
          obtain ⟨r, hr⟩ := hp
          have : all[pre.length]? = some x := by rw [← hr]; simp
          rw [hgl] at this
          exact (Option.some.inj this).symm
        by_cases hx1 : x.1 = all[pre.length].1
        · by_cases hx2 : x.2 = all[pre.length].2
          · refine X_region ?_
            refine X_go (gn rfl) rfl (St.vl (vl_load ag3 rfl (g5.cell' rfl)) rfl rfl ?_)
            refine X_go (gn rfl) rfl (St.vl (vl_load ag53 rfl (hg12.cell' rfl)) rfl rfl ?_)
            refine X_go (gn rfl) rfl (St.vl (vl_len sl53 rfl) rfl rfl ?_)
            refine X_go (gn rfl) rfl (St.vl (vl_is (b' := false) (vl_geq rfl rfl) (decide_eq_false (by omega))) rfl rfl ?_)
            refine X_go (gn rfl) rfl (St.vl (vl_move rfl) rfl rfl ?_)
            refine X_go (gy rfl rfl rfl) rfl (St.vl (vl_move rfl) rfl rfl ?_)
            refine X_go (gy rfl rfl rfl) rfl (St.vl (vl_load ag53 rfl (hg12.cell' rfl)) rfl rfl ?_)
            refine X_go (gy rfl rfl rfl) rfl (St.vl (vl_load ag3 rfl (g5.cell' rfl)) rfl rfl ?_)
            refine X_go (gy rfl rfl rfl) rfl (St.vl (vl_indexAddr sl53 sz57 rfl rfl _ rfl hlen) rfl rfl ?_)
            refine X_go (gy rfl rfl rfl) rfl (St.vl (vl_fieldAddr fo57_0 rfl) rfl rfl ?_)
            refine X_go (gy rfl rfl rfl) rfl (St.vl (vl_load ag9 rfl (hcl 0 _ rfl)) rfl rfl ?_)
            refine X_go (gy rfl rfl rfl) rfl (St.vl (vl_is (b' := false) (vl_sne rfl rfl) (by simp [hx1])) rfl rfl ?_)
            refine X_go (gn rfl) rfl (St.vl (vl_pick_f rfl rfl) rfl rfl ?_)
            refine X_go (gn rfl) rfl (St.vl (vl_move rfl) rfl rfl ?_)
            refine X_go (gy rfl rfl rfl) rfl (St.vl (vl_move rfl) rfl rfl ?_)
            refine X_go (gy rfl rfl rfl) rfl (St.vl (vl_load ag53 rfl (hg12.cell' rfl)) rfl rfl ?_)
            refine X_go (gy rfl rfl rfl) rfl (St.vl (vl_load ag3 rfl (g5.cell' rfl)) rfl rfl ?_)
            refine X_go (gy rfl rfl rfl) rfl (St.vl (vl_indexAddr sl53 sz57 rfl rfl _ rfl hlen) rfl rfl ?_)
            refine X_go (gy rfl rfl rfl) rfl (St.vl (vl_fieldAddr fo57_1 rfl) rfl rfl ?_)
            refine X_go (gy rfl rfl rfl) rfl (St.vl (vl_load ag9 rfl (hcl 1 _ rfl)) rfl rfl ?_)
            refine X_go (gy rfl rfl rfl) rfl (St.vl (vl_is (b' := false) (vl_sne rfl rfl) (by simp [hx2])) rfl rfl ?_)
            refine X_go (gn rfl) rfl (St.vl (vl_pick_f rfl rfl) rfl rfl ?_)
            refine X_end [3, 6, 8, 12, 13, 16, 17, 18, 79, 80, 102] (F' := [(3, _), (6, _), (8, _), (12, _), (13, _), (16, _), (17, _), (18, _), (79, _), (80, _), (102, _)]) rfl ?_
            refine X_cond_false rfl ?_
            refine X_prune [3, 6, 8, 12, 13, 16, 17, 18, 79, 80] rfl ?_
            refine X_skipE ?_
            refine X_seq ?_
            refine X_region ?_
            refine X_go (gn rfl) rfl (St.vl (vl_load ag3 rfl (g5.cell' rfl)) rfl rfl ?_)
            refine X_go (gn rfl) rfl (St.vl (vl_add rfl rfl (by omega)) rfl rfl ?_)
            refine X_go (gn rfl) rfl (st_store sz3 rfl rfl rfl rfl g5 (by simp) (by intro u hu; simp at hu; subst hu; rfl) ?_)
            intro wE nE cE kE
            refine X_end [3, 6, 8, 12, 13, 16, 17, 18, 79, 80] (F' := [(3, _), (6, _), (8, _), (12, _), (13, _), (16, _), (17, _), (18, _), (79, _), (80, _)]) rfl ?_
            have hp' : pre ++ [x] <+: all := by
              have e : x = all[pre.length] := Prod.ext hx1 hx2
              rw [e]
              have := List.take_prefix (pre.length + 1) all
              rw [List.take_add_one, hgl, ← List.prefix_iff_eq_take.1 hpre] at this
              exact this
            have g3E : Chg [] w70 wE := g3.own cE (by intro y hy; simp at hy; omega)
            have g4E : Blk wE b17 3 [.int .i64 1] := g4.chg cE (by have := hb17.lt; simp; omega)
            have kE' : Blk wE b18 3 [.int .i64 (pre ++ [x]).length] := by
              have e : (((pre ++ [x]).length : Nat) : Int) = pre.length + 1 := by simp
              rw [e]
              exact kE
            have hKE : wE.heap[D0]? = some (.deferred (some [])) := (cE.block D0 (Array.getElem?_eq_some_iff.1 g7).1 (by simp; exact fun e => by subst e; have := g5.symm.trans g7; cases this)).trans g7
            have g6E : wC.heap.size ≤ wE.heap.size := Nat.le_trans g6 cE.size
            have hcE : Chg [b18, b8] W wE := cE.weak (by simp)
            refine X_seq ?_
            refine X_region ?_
            refine X_go (gn rfl) rfl (St.vl (vl_load ag3 rfl (g4E.cell' rfl)) rfl rfl ?_)
            refine X_go (gn rfl) rfl (St.vl (vl_is (b' := false) (vl_ieq rfl rfl) (by decide)) rfl rfl ?_)
            refine X_go (gn rfl) rfl (St.vl (vl_move rfl) rfl rfl ?_)
            refine X_no rfl rfl rfl rfl rfl rfl ?_
            refine X_no rfl rfl rfl rfl rfl rfl ?_
            refine X_no rfl rfl rfl rfl rfl rfl ?_
            refine X_go (gn rfl) rfl (St.vl (vl_pick_f rfl rfl) rfl rfl ?_)
            refine X_end [3, 6, 8, 12, 13, 16, 17, 18, 79, 80, 111] (F' := [(3, _), (6, _), (8, _), (12, _), (13, _), (16, _), (17, _), (18, _), (79, _), (80, _), (111, _)]) rfl ?_
            refine X_cond_false rfl ?_
            refine X_skip ?_
            refine block_normal ?_
            exact ⟨hcE, hp', trivial, g3E, g4E, kE', g6E, hKE⟩
          · refine X_region ?_
            refine X_go (gn rfl) rfl (St.vl (vl_load ag3 rfl (g5.cell' rfl)) rfl rfl ?_)
            refine X_go (gn rfl) rfl (St.vl (vl_load ag53 rfl (hg12.cell' rfl)) rfl rfl ?_)
            refine X_go (gn rfl) rfl (St.vl (vl_len sl53 rfl) rfl rfl ?_)
            refine X_go (gn rfl) rfl (St.vl (vl_is (b' := false) (vl_geq rfl rfl) (decide_eq_false (by omega))) rfl rfl ?_)
            refine X_go (gn rfl) rfl (St.vl (vl_move rfl) rfl rfl ?_)
            refine X_go (gy rfl rfl rfl) rfl (St.vl (vl_move rfl) rfl rfl ?_)
            refine X_go (gy rfl rfl rfl) rfl (St.vl (vl_load ag53 rfl (hg12.cell' rfl)) rfl rfl ?_)
            refine X_go (gy rfl rfl rfl) rfl (St.vl (vl_load ag3 rfl (g5.cell' rfl)) rfl rfl ?_)
            refine X_go (gy rfl rfl rfl) rfl (St.vl (vl_indexAddr sl53 sz57 rfl rfl _ rfl hlen) rfl rfl ?_)
            refine X_go (gy rfl rfl rfl) rfl (St.vl (vl_fieldAddr fo57_0 rfl) rfl rfl ?_)
            refine X_go (gy rfl rfl rfl) rfl (St.vl (vl_load ag9 rfl (hcl 0 _ rfl)) rfl rfl ?_)
            refine X_go (gy rfl rfl rfl) rfl (St.vl (vl_is (b' := false) (vl_sne rfl rfl) (by simp [hx1])) rfl rfl ?_)
            refine X_go (gn rfl) rfl (St.vl (vl_pick_f rfl rfl) rfl rfl ?_)
            refine X_go (gn rfl) rfl (St.vl (vl_move rfl) rfl rfl ?_)
            refine X_go (gy rfl rfl rfl) rfl (St.vl (vl_move rfl) rfl rfl ?_)
            refine X_go (gy rfl rfl rfl) rfl (St.vl (vl_load ag53 rfl (hg12.cell' rfl)) rfl rfl ?_)
            refine X_go (gy rfl rfl rfl) rfl (St.vl (vl_load ag3 rfl (g5.cell' rfl)) rfl rfl ?_)
            refine X_go (gy rfl rfl rfl) rfl (St.vl (vl_indexAddr sl53 sz57 rfl rfl _ rfl hlen) rfl rfl ?_)
            refine X_go (gy rfl rfl rfl) rfl (St.vl (vl_fieldAddr fo57_1 rfl) rfl rfl ?_)
            refine X_go (gy rfl rfl rfl) rfl (St.vl (vl_load ag9 rfl (hcl 1 _ rfl)) rfl rfl ?_)
            refine X_go (gy rfl rfl rfl) rfl (St.vl (vl_is (b' := true) (vl_sne rfl rfl) (by simp [hx2])) rfl rfl ?_)
            refine X_go (gn rfl) rfl (St.vl (vl_pick_f rfl rfl) rfl rfl ?_)
            refine X_end [3, 6, 8, 12, 13, 16, 17, 18, 79, 80, 102] (F' := [(3, _), (6, _), (8, _), (12, _), (13, _), (16, _), (17, _), (18, _), (79, _), (80, _), (102, _)]) rfl ?_
            refine X_cond_true rfl ?_
            refine X_seq ?_
            refine X_region ?_
            refine X_go (gn rfl) rfl (st_store sz4 rfl rfl rfl rfl hg8 (by simp) (by intro u hu; simp at hu; subst hu; rfl) ?_)
            intro wE nE cE kE
            refine X_end [8] (F' := [(8, _)]) rfl ?_
            refine X_ret ?_
            repeat (first | refine then_ret ?_ | refine block_ret ?_)
            exact ⟨cE.weak (by simp), hbad (fun e => hx2 (by rw [e]))⟩
        · refine X_region ?_
          refine X_go (gn rfl) rfl (St.vl (vl_load ag3 rfl (g5.cell' rfl)) rfl rfl ?_)
          refine X_go (gn rfl) rfl (St.vl (vl_load ag53 rfl (hg12.cell' rfl)) rfl rfl ?_)
          refine X_go (gn rfl) rfl (St.vl (vl_len sl53 rfl) rfl rfl ?_)
          refine X_go (gn rfl) rfl (St.vl (vl_is (b' := false) (vl_geq rfl rfl) (decide_eq_false (by omega))) rfl rfl ?_)
          refine X_go (gn rfl) rfl (St.vl (vl_move rfl) rfl rfl ?_)
          refine X_go (gy rfl rfl rfl) rfl (St.vl (vl_move rfl) rfl rfl ?_)
          refine X_go (gy rfl rfl rfl) rfl (St.vl (vl_load ag53 rfl (hg12.cell' rfl)) rfl rfl ?_)
          refine X_go (gy rfl rfl rfl) rfl (St.vl (vl_load ag3 rfl (g5.cell' rfl)) rfl rfl ?_)
          refine X_go (gy rfl rfl rfl) rfl (St.vl (vl_indexAddr sl53 sz57 rfl rfl _ rfl hlen) rfl rfl ?_)
          refine X_go (gy rfl rfl rfl) rfl (St.vl (vl_fieldAddr fo57_0 rfl) rfl rfl ?_)
          refine X_go (gy rfl rfl rfl) rfl (St.vl (vl_load ag9 rfl (hcl 0 _ rfl)) rfl rfl ?_)
          refine X_go (gy rfl rfl rfl) rfl (St.vl (vl_is (b' := true) (vl_sne rfl rfl) (by simp [hx1])) rfl rfl ?_)
          refine X_go (gn rfl) rfl (St.vl (vl_pick_f rfl rfl) rfl rfl ?_)
          refine X_go (gn rfl) rfl (St.vl (vl_move rfl) rfl rfl ?_)
          refine X_no rfl rfl rfl rfl rfl rfl ?_
          refine X_no rfl rfl rfl rfl rfl rfl ?_
          refine X_no rfl rfl rfl rfl rfl rfl ?_
          refine X_no rfl rfl rfl rfl rfl rfl ?_
          refine X_no rfl rfl rfl rfl rfl rfl ?_
          refine X_no rfl rfl rfl rfl rfl rfl ?_
          refine X_no rfl rfl rfl rfl rfl rfl ?_
          refine X_go (gn rfl) rfl (St.vl (vl_pick_t rfl rfl) rfl rfl ?_)
          refine X_end [3, 6, 8, 12, 13, 16, 17, 18, 79, 80, 102] (F' := [(3, _), (6, _), (8, _), (12, _), (13, _), (16, _), (17, _), (18, _), (79, _), (80, _), (102, _)]) rfl ?_
          refine X_cond_true rfl ?_
          refine X_seq ?_
          refine X_region ?_
          refine X_go (gn rfl) rfl (st_store sz4 rfl rfl rfl rfl hg8 (by simp) (by intro u hu; simp at hu; subst hu; rfl) ?_)
          intro wE nE cE kE
          refine X_end [8] (F' := [(8, _)]) rfl ?_
          refine X_ret ?_
          repeat (first | refine then_ret ?_ | refine block_ret ?_)
          exact ⟨cE.weak (by simp), hbad (fun e => hx1 (by rw [e]))⟩
      · rintro D xs W hD hxs ⟨-, hcond, g3, g4, g5, g6, g7⟩ hK
        have hxs' := hxs.symm
        subst hxs'
        refine block_normal ?_
        exact ⟨D, rfl, g3, g4, ⟨all.length, g5, rfl⟩, hD, hK, g7⟩
      · rintro D c pre W hD ⟨hne, hpre⟩ hx hK
        cases c with
        | ret => exact absurd hpre hx
        | exit id => exact hx.2.1.elim
        | _ => exact hx.elim
    · rintro F' w' ⟨D, hF', g3, g4, ⟨n, g5, hn⟩, hD, hK, g7⟩
      refine W_prune _ hF' ?_
      have hg12 := hb12.chg0 g3
      have hg6 := hb6.chg0 g3
      have hgs := g3.size
      have hDl : D < w'.heap.size := (Array.getElem?_eq_some_iff.1 hK).1
      refine W_seq ?_
      have hn : (n : Int) = (all.length : Int) := by rw [hn]
      refine W_region ?_
      refine O_go (gn rfl) (St.vl (vl_load ag3 rfl (g4.cell' rfl)) rfl rfl ?_)
      refine O_go (gn rfl) (St.vl (vl_is (b' := false) (vl_ieq rfl rfl) (by decide)) rfl rfl ?_)
      refine O_go (gn rfl) (St.vl (vl_move rfl) rfl rfl ?_)
      refine O_guard_no rfl rfl rfl rfl rfl rfl ?_
      refine O_guard_no rfl rfl rfl rfl rfl rfl ?_
      refine O_guard_no rfl rfl rfl rfl rfl rfl ?_
      refine O_guard_no rfl rfl rfl rfl rfl rfl ?_
      refine O_guard_no rfl rfl rfl rfl rfl rfl ?_
      refine O_guard_no rfl rfl rfl rfl rfl rfl ?_
      refine O_guard_no rfl rfl rfl rfl rfl rfl ?_
      refine O_go (gn rfl) (St.vl (vl_pick_f rfl rfl) rfl rfl ?_)
      refine O_go (gn rfl) (St.vl (vl_move rfl) rfl rfl ?_)
      refine O_go (gy rfl rfl rfl) (St.vl (vl_load ag3 rfl (g4.cell' rfl)) rfl rfl ?_)
      refine O_go (gy rfl rfl rfl) (St.vl (vl_is (b' := true) (vl_ieq rfl rfl) (by decide)) rfl rfl ?_)
      refine O_go (gy rfl rfl rfl) (St.vl (vl_move rfl) rfl rfl ?_)
      refine O_go (gy rfl rfl rfl) (St.vl (vl_load ag3 rfl (g5.cell' rfl)) rfl rfl ?_)
      refine O_go (gy rfl rfl rfl) (St.vl (vl_load ag53 rfl (hg12.cell' rfl)) rfl rfl ?_)
      refine O_go (gy rfl rfl rfl) (St.vl (vl_len sl53 rfl) rfl rfl ?_)
      refine O_go (gy rfl rfl rfl) (St.vl (vl_is (b' := false) (vl_ine rfl rfl) (by rw [decide_eq_true hn]; rfl)) rfl rfl ?_)
      refine O_go (gy rfl rfl rfl) (St.vl (vl_pick_t rfl rfl) rfl rfl ?_)
      refine O_go (gn rfl) (St.vl (vl_pick_f rfl rfl) rfl rfl ?_)
      refine O_end [3, 6, 8, 12, 13, 16, 17, 132] (F' := [(3, _), (6, _), (8, _), (12, _), (13, _), (16, _), (17, _), (132, _), (1000000, _), (1000000, _)]) rfl ?_
      refine W_cond_false rfl ?_
      refine W_skip ?_
      refine block_normal ?_
      refine W_seq ?_
      refine W_seq ?_
      refine W_region ?_
      refine O_go (gn rfl) (St.vl (vl_load ag3 rfl (g4.cell' rfl)) rfl rfl ?_)
      refine O_end [3, 6, 8, 12, 13, 16, 133] (F' := [(3, _), (6, _), (8, _), (12, _), (13, _), (16, _), (133, _), (1000000, _), (1000000, _)]) rfl ?_
      refine W_region ?_
      refine O_go (gn rfl) (st_alloc zr3 rfl rfl ?_)
      intro b17 w17 e17 n17 c17 k17
      refine O_go (gn rfl) (st_store sz3 rfl rfl rfl rfl k17 (by simp) (by intro u hu; simp at hu; subst hu; rfl) ?_)
      intro wG nG cG kG
      refine O_end [3, 6, 8, 12, 13, 16, 17] (F' := [(3, _), (6, _), (8, _), (12, _), (13, _), (16, _), (17, _), (1000000, _), (1000000, _)]) rfl ?_
      have hn17' := c17.size
      have h1G : Chg [] w70 wG := (g3.trans c17).own cG (by intro y hy; simp at hy; omega)
      have hKG : wG.heap[D]? = some (.deferred (some [])) := (cG.block D (by omega) (by simp; omega)).trans ((c17.block D hDl (by simp)).trans hK)
      refine W_region ?_
      refine O_go (gn rfl) (St.vl (vl_load ag3 rfl (kG.cell' rfl)) rfl rfl ?_)
      refine O_go (gn rfl) (St.vl (vl_add rfl rfl (by omega)) rfl rfl ?_)
      refine O_go (gn rfl) (st_store sz3 rfl rfl rfl rfl kG (by simp [laid]) (by intro u hu; simp at hu; subst hu; rfl) ?_)
      intro wI nI cI kI
      refine O_endN [3, 6, 8, 12, 13, 16, 17] (F' := [(3, _), (6, _), (8, _), (12, _), (13, _), (16, _), (17, _), (1000000, _), (1000000, _)]) rfl ?_
      have h1I : Chg [] w70 wI := h1G.own cI (by intro y hy; simp at hy; omega)
      have hKI : wI.heap[D]? = some (.deferred (some [])) := (cI.block D (Array.getElem?_eq_some_iff.1 hKG).1 (by simp; omega)).trans hKG
      have hD0l' : D0 < w'.heap.size := (Array.getElem?_eq_some_iff.1 g7).1
      have hKG0 : wG.heap[D0]? = some (.deferred (some [])) := (cG.block D0 (by omega) (by simp; omega)).trans ((c17.block D0 hD0l' (by simp)).trans g7)
      have hKI0 : wI.heap[D0]? = some (.deferred (some [])) := (cI.block D0 (Array.getElem?_eq_some_iff.1 hKG0).1 (by simp; omega)).trans hKG0
      exact ⟨0, by omega, h1I, b17, by omega, .inr (.inr ⟨rfl, kI, D0, D, hD0, by omega, by omega, hKI0, hKI, rfl⟩)⟩
  · refine W_seq ?_
    refine W_seq ?_
    refine W_region ?_
    refine O_go (gn rfl) (St.vl (vl_load ag3 rfl (hb17.cell' rfl)) rfl rfl ?_)
    refine O_go (gn rfl) (St.vl (vl_is (b' := false) (vl_lss rfl rfl) (by decide)) rfl rfl ?_)
    refine O_end [3, 6, 8, 12, 13, 16, 17, 75] (F' := [(3, _), (6, _), (8, _), (12, _), (13, _), (16, _), (17, _), (75, _), (1000000, _), (1000000, _)]) rfl ?_
    refine W_cond_false rfl ?_
    refine W_exit ?_
    repeat (first | refine then_exit ?_ | refine blockF_other rfl ?_)
    refine blockF_exit _ ?_
    have hg8 := hb8.chg0 h1x
    have hxs := h1x.size
    refine W_seq ?_
    have fin : ∀ {wy wF : World}, Chg [] wx wy → Chg [b8] wy wF → Blk wF b8 4 [.bool true] → retFM Try.prog Try.f5 (fun r w' => r = .bool true ∧ Chg [] w w') Try.f5.ntmps .ret [(8, .pointer (some ⟨b8, 0, none⟩)), (1000000, .int .i64 D1), (1000000, .int .i64 D0)] wF := by
      intro wy wF hxy hyF hF
      have hdd : ∀ {D : Nat}, w70.heap.size ≤ D → wx.heap[D]? = some (.deferred (some [])) → wF.heap[D]? = some (.deferred (some [])) := by
        intro D hD hK
        have hl : D < wx.heap.size := (Array.getElem?_eq_some_iff.1 hK).1
        have := hb8.lt
        exact (hyF.block D (Nat.lt_of_lt_of_le hl hxy.size) (by simp; omega)).trans ((hxy.block D hl (by simp)).trans hK)
      refine retM2 (D := D1) (E := D0) (v := .bool true) rfl ag4 rfl rfl hDD (hdd hD1 hKE) (hdd hD0 hKD) ?_
      intro wE cE
      have := hb8.lt
      refine ⟨(hF.chg cE (by simp; omega)).cell' rfl, rfl, ?_⟩
      have h1 : Chg [] w wF := ((hc70.trans h1x).trans hxy).own hyF (by intro x hx; simp at hx; omega)
      exact h1.own cE (by intro x hx; simp at hx; omega)
    by_cases h1 : more = 1
    · have hK1 : 2000 < K := by omega
      rw [if_pos hK1]
      refine W_region ?_
      refine O_go (gn rfl) (St.vl (vl_move rfl) rfl rfl ?_)
      refine O_go (gn rfl) (st_call bd18 rfl rfl rfl rfl (f18 _ _) ?_)
      rintro v135 w135 ⟨rfl, rfl⟩
      refine O_go (gn rfl) (St.vl (vl_is (b' := true) (vl_ieq rfl rfl) (by decide)) rfl rfl ?_)
      refine O_go (gn rfl) (St.vl (vl_move rfl) rfl rfl ?_)
      refine O_go (gn rfl) (St.vl (vl_is (b' := true) (vl_ieq rfl rfl) (decide_eq_true h1)) rfl rfl ?_)
      refine O_go (gn rfl) (St.vl (vl_is (b' := true) (vl_beq bo4 rfl rfl) (by decide)) rfl rfl ?_)
      refine O_go (gn rfl) (St.vl (vl_move rfl) rfl rfl ?_)
      refine O_go (gy rfl rfl rfl) (St.vl (vl_move rfl) rfl rfl ?_)
      refine O_go (gy rfl rfl rfl) (St.vl (vl_is (b' := true) (vl_ieq rfl rfl) (decide_eq_true h1)) rfl rfl ?_)
      refine O_go (gy rfl rfl rfl) (St.vl (vl_move rfl) rfl rfl ?_)
      refine O_guard_no rfl rfl rfl rfl rfl rfl ?_
      refine O_guard_no rfl rfl rfl rfl rfl rfl ?_
      refine O_guard_no rfl rfl rfl rfl rfl rfl ?_
      refine O_go (gy rfl rfl rfl) (St.vl (vl_pick_t rfl rfl) rfl rfl ?_)
      refine O_go (gn rfl) (St.vl (vl_pick_t rfl rfl) rfl rfl ?_)
      refine O_go (gn rfl) (St.vl (vl_move rfl) rfl rfl ?_)
      refine O_go (gy rfl rfl rfl) (st_call bd8 rfl rfl rfl rfl (f8 _) ?_)
      rintro v150 w150 ⟨rfl, c150⟩
      refine O_go (gn rfl) (St.vl (vl_pick_t rfl rfl) rfl rfl ?_)
      refine O_go (gn rfl) (st_store sz4 rfl rfl rfl rfl (hg8.chg0 c150) (by simp) (by intro u hu; simp at hu; subst hu; rfl) ?_)
      intro wF nF cF kF
      refine O_end [8] (F' := [(8, _), (1000000, _), (1000000, _)]) rfl ?_
      refine W_ret ?_
      exact fin c150 cF kF
    · have hK1 : ¬ 2000 < K := by omega
      rw [if_neg hK1]
      refine W_region ?_
      refine O_go (gn rfl) (St.vl (vl_move rfl) rfl rfl ?_)
      refine O_go (gn rfl) (st_call bd18 rfl rfl rfl rfl (f18 _ _) ?_)
      rintro v135 w135 ⟨rfl, rfl⟩
      refine O_go (gn rfl) (St.vl (vl_is (b' := false) (vl_ieq rfl rfl) (by decide)) rfl rfl ?_)
      refine O_go (gn rfl) (St.vl (vl_move rfl) rfl rfl ?_)
      refine O_go (gn rfl) (St.vl (vl_is (b' := false) (vl_ieq rfl rfl) (decide_eq_false h1)) rfl rfl ?_)
      refine O_go (gn rfl) (St.vl (vl_is (b' := true) (vl_beq bo4 rfl rfl) (by decide)) rfl rfl ?_)
      refine O_go (gn rfl) (St.vl (vl_move rfl) rfl rfl ?_)
      refine O_go (gy rfl rfl rfl) (St.vl (vl_move rfl) rfl rfl ?_)
      refine O_go (gy rfl rfl rfl) (St.vl (vl_is (b' := false) (vl_ieq rfl rfl) (decide_eq_false h1)) rfl rfl ?_)
      refine O_go (gy rfl rfl rfl) (St.vl (vl_move rfl) rfl rfl ?_)
      refine O_go (gy rfl rfl rfl) (St.vl (vl_move rfl) rfl rfl ?_)
      refine O_go (gy rfl rfl rfl) (st_call bd18 rfl rfl rfl rfl (f18 _ _) ?_)
      rintro v145 w145 ⟨rfl, rfl⟩
      refine O_go (gy rfl rfl rfl) (St.vl (vl_is (b' := true) (vl_ieq rfl rfl) (by decide)) rfl rfl ?_)
      refine O_go (gy rfl rfl rfl) (St.vl (vl_pick_f rfl rfl) rfl rfl ?_)
      refine O_go (gn rfl) (St.vl (vl_pick_t rfl rfl) rfl rfl ?_)
      refine O_go (gn rfl) (St.vl (vl_move rfl) rfl rfl ?_)
      refine O_go (gy rfl rfl rfl) (st_call bd8 rfl rfl rfl rfl (f8 _) ?_)
      rintro v150 w150 ⟨rfl, c150⟩
      refine O_go (gn rfl) (St.vl (vl_pick_t rfl rfl) rfl rfl ?_)
      refine O_go (gn rfl) (st_store sz4 rfl rfl rfl rfl (hg8.chg0 c150) (by simp) (by intro u hu; simp at hu; subst hu; rfl) ?_)
      intro wF nF cF kF
      refine O_end [8] (F' := [(8, _), (1000000, _), (1000000, _)]) rfl ?_
      refine W_ret ?_
      exact fin c150 cF kF
end Go.Wk

