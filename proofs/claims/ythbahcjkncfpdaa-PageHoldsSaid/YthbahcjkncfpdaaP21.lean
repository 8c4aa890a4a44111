/-
  The law PageCopies, walked.
-/
import Derived.Test.YthbahcjkncfpdaaP20
namespace Go.Wk
open Go.Proofs
set_option maxRecDepth 10000

section
variable {P : Program} {n : Nat} {F : Fr} {w : World} {dst : Option Tmp} {ty : TypeId} {pos : String} {af : Array Edge} {gd : Option (Nat × Bool)}
theorem vl_cutA {x : Operand} {t e : TypeId} {m k b off : Nat} (hs : arOf P t = some (m, e)) (hk : szOf P e = some k) (hx : ev F x = some (.pointer (some ⟨b, off, none⟩))) :
    Vl P n F ⟨dst, .slice t x none none none, ty, pos, af, gd⟩ w (.slice (some ⟨b, off, none⟩) m m) w := by
  intro a ha
  simp [execOp, Instr.sliceAt, Instr.sliceBounds, Instr.sureAddr, ha.eval hx, run_underlying (arOf_und hs), run_sizeOf hk, Addr.add_lit]
end

theorem Pg.chgB {w w' : World} {p : Nat} {ls : List (List Ent)} (h : Pg w p ls) {b : Nat} {t : TypeId} {c : List Value} (hb : Blk w b t c) (h0 : Nat.beq 67 t = false) (h1 : Nat.beq 71 t = false) (h2 : Nat.beq 69 t = false) (hc : Chg [b] w w') : Pg w' p ls := by
  obtain ⟨v, hv, hp⟩ := h
  exact ⟨v, hv.chg hc (by simpa using Blk.ne hv hb h0), hp.chg1 hb h1 h2 hc⟩

theorem actP_wf {ls : List (List Ent)} (hw : WfP ls) (what : Int) (key val : ByteArray) : WfP (actP ls what key val) := by
  unfold actP
  split
  · exact hw.put _ _
  · split
    · exact hw.take _
    · exact hw
theorem actP_len (ls : List (List Ent)) (what : Int) (key val : ByteArray) : (actP ls what key val).length ≤ ls.length + 1 := by
  unfold actP
  have := pPut_len ls key val
  have := pTake_len ls key
  split
  · omega
  · split <;> omega

theorem f6 (v : Value) (acts : List (Int × ByteArray × ByteArray)) (x0 x1 : Int × ByteArray × ByteArray) (w : World) (h : IsActs w v acts) :
    Ret Try.prog 6 #[v, .agg #[.int .i64 x0.1, .string x0.2.1, .string x0.2.2, .int .i64 x1.1, .string x1.2.1, .string x1.2.2]] w fun r w' => r = .bool true ∧ Chg [] w w' := by
  refine Ret.of_W (args := [_, _]) Try.func6 rfl rfl rfl rfl ?_

  refine W_seq ?_
  refine W_region ?_
  refine O_go (gn rfl) (st_box rfl rfl rfl ?_)
  intro b3 w3 e3 n3 c3 k3
  refine O_go (gn rfl) (St.vl (vl_assign rfl) rfl rfl ?_)
  refine O_end [0, 3] (F' := [(0, _), (3, _)]) rfl ?_
  have hk3 : Blk w3 b3 59 [.int .i64 x0.1, .string x0.2.1, .string x0.2.2, .int .i64 x1.1, .string x1.2.1, .string x1.2.2] := k3
  have htwo : IsActs w3 (.slice (some ⟨b3, 0, none⟩) 2 2) [x0, x1] := by
    refine ⟨_, _, rfl, fun i x hi => ⟨b3, 0, rfl, ?_⟩⟩
    match i, hi with
    | 0, hi => simp at hi; subst hi; exact Cells.of_blk hk3 _ _ ⟨_, rfl⟩
    | 1, hi => simp at hi; subst hi; exact Cells.of_blk hk3 _ _ ⟨_, rfl⟩
  refine W_seq_cut (fun F' w' => F' = [(0, v), (3, .pointer (some ⟨b3, 0, none⟩))] ∧ w3 = w' ∧ acts.length ≤ 40 ∧ Small acts ∧ Small [x0, x1]) ?_ ?_
  · refine W_seq ?_
    refine W_region ?_
    refine O_go (gn rfl) (St.vl (vl_move rfl) rfl rfl ?_)
    refine O_go (gn rfl) (st_call bd7 rfl rfl rfl rfl (f7 v acts 40 _ (h.chg0 c3) (by omega)) ?_)
    rintro v15 w15 ⟨⟨b, rfl, hb⟩, rfl⟩
    refine O_go (gn rfl) (St.vl (vl_not rfl) rfl rfl ?_)
    refine O_go (gn rfl) (St.vl (vl_move rfl) rfl rfl ?_)
    cases b with
    | false =>
      iterate 3 refine O_guard_no rfl rfl rfl rfl rfl rfl ?_
      refine O_go (gn rfl) (St.vl (vl_pick_t rfl rfl) rfl rfl ?_)
      refine O_end [0, 3, 21] (F' := [(0, _), (3, _), (21, _)]) rfl ?_
      refine W_cond_true rfl ?_
      refine W_seq ?_
      refine W_region ?_
      refine O_go (gn rfl) (st_call bd8 rfl rfl rfl rfl (f8 _) ?_)
      rintro v22 w22 ⟨rfl, c22⟩
      refine O_go (gn rfl) (St.vl (vl_assign rfl) rfl rfl ?_)
      refine O_end [4] (F' := [(4, _)]) rfl ?_
      refine W_ret ?_
      refine then_ret ?_
      refine ret1 rfl rfl ?_
      exact ⟨rfl, c3.trans c22⟩
    | true =>
      refine O_go (gy rfl rfl rfl) (St.vl (vl_cutA ar59 sz29 rfl) rfl rfl ?_)
      refine O_go (gy rfl rfl rfl) (st_call bd7 rfl rfl rfl rfl (f7 _ [x0, x1] 2 _ htwo (by omega)) ?_)
      rintro v19 w19 ⟨⟨b', rfl, hb'⟩, rfl⟩
      refine O_go (gy rfl rfl rfl) (St.vl (vl_not rfl) rfl rfl ?_)
      refine O_go (gn rfl) (St.vl (vl_pick_f rfl rfl) rfl rfl ?_)
      refine O_end [0, 3, 21] (F' := [(0, _), (3, _), (21, _)]) rfl ?_
      cases b' with
      | false =>
        refine W_cond_true rfl ?_
        refine W_seq ?_
        refine W_region ?_
        refine O_go (gn rfl) (st_call bd8 rfl rfl rfl rfl (f8 _) ?_)
        rintro v22 w22 ⟨rfl, c22⟩
        refine O_go (gn rfl) (St.vl (vl_assign rfl) rfl rfl ?_)
        refine O_end [4] (F' := [(4, _)]) rfl ?_
        refine W_ret ?_
        refine then_ret ?_
        refine ret1 rfl rfl ?_
        exact ⟨rfl, c3.trans c22⟩
      | true =>
        refine W_cond_false rfl ?_
        refine W_prune [0, 3] rfl ?_
        refine W_skipE ?_
        exact ⟨rfl, rfl, (hb rfl).1, (hb rfl).2, (hb' rfl).2⟩
  rintro F' w' ⟨rfl, rfl, hlen, hsm, hsm2⟩
  have hx0 := hsm2 x0 (by simp)
  have hx1 := hsm2 x1 (by simp)
  refine W_seq ?_
  refine W_region ?_
  refine O_go (gn rfl) (st_call bd9 rfl rfl rfl rfl (f9 _) ?_)
  rintro v23 w23 ⟨p, rfl, hpn, hp23, c23⟩
  refine O_go (gn rfl) (St.vl (vl_assign rfl) rfl rfl ?_)
  refine O_end [0, 3, 5] (F' := [(0, _), (3, _), (5, _)]) rfl ?_
  refine W_seq ?_
  refine W_region ?_
  refine O_go (gn rfl) (st_alloc zr48 rfl rfl ?_)
  intro b6 w6 e6 n6 c6 k6
  refine O_end [0, 3, 5, 6] (F' := [(0, _), (3, _), (5, _), (6, _)]) rfl ?_
  have hs3 := c3.size
  have hs23 := c23.size
  have hc6 : Chg [] w w6 := (c3.trans c23).trans c6
  obtain ⟨pv, cv, rfl, hacts⟩ := id h
  refine W_seq ?_
  refine W_seq ?_
  refine W_region ?_
  refine O_go (gn rfl) (St.vl (vl_assign rfl) rfl rfl ?_)
  refine O_end [0, 3, 5, 6, 7] (F' := [(0, _), (3, _), (5, _), (6, _), (7, _)]) rfl ?_
  refine W_block ?_
  refine W_loop [0, 3, 5, 6, 7] (fun m F wx => Chg [] w wx ∧ ∃ (j p' : Nat) (ls : List (List Ent)) (v' : Value), m = acts.length - j ∧ j ≤ acts.length ∧ F = [(0, .slice pv acts.length cv), (3, .pointer (some ⟨b3, 0, none⟩)), (5, .pointer (some ⟨p', 0, none⟩)), (6, .pointer (some ⟨b6, 0, none⟩)), (7, .int .i64 j)] ∧ Pg wx p' ls ∧ RPg wx v' ls ∧ Blk wx b6 48 [v'] ∧ Blk wx b3 59 [.int .i64 x0.1, .string x0.2.1, .string x0.2.2, .int .i64 x1.1, .string x1.2.1, .string x1.2.2] ∧ WfP ls ∧ ls.length ≤ j ∧ w.heap.size ≤ p') (m := acts.length - 0) ⟨hc6, 0, p, [], _, rfl, Nat.zero_le _, rfl, hp23.chg0 c6, ⟨[], IsSl.nil _ _ _, trivial⟩, k6, (hk3.chg0 c23).chg0 c6, WfP.nil, by simp, by omega⟩ ?_
  rintro m F wx ⟨hcx, j, p', ls, v', rfl, hj, rfl, hpx, hrx, hb6, hb3, hw, hll, hpn'⟩
  refine W_seq ?_
  refine W_seq ?_
  refine W_region ?_
  refine O_go (gn rfl) (St.vl (vl_move rfl) rfl rfl ?_)
  refine O_go (gn rfl) (St.vl (vl_move rfl) rfl rfl ?_)
  refine O_go (gn rfl) (St.vl (vl_len sl22 rfl) rfl rfl ?_)
  refine O_go (gn rfl) (St.vl (vl_lss rfl rfl) rfl rfl ?_)
  refine O_end [0, 3, 5, 6, 7, 27] (F' := [(0, _), (3, _), (5, _), (6, _), (7, _), (27, _)]) rfl ?_
  refine W_cond rfl (fun hT => ?_) (fun hF => ?_)
  · refine W_skipE ?_
    have hlt : j < acts.length := by have := of_decide_eq_true hT; omega
    have hx : acts[j]? = some acts[j] := by simp [hlt]
    have hxs := hsm _ (List.mem_of_getElem? hx)
    generalize acts[j] = x at hx hxs
    obtain ⟨ba, oa, rfl, hca⟩ := hacts j x hx
    obtain ⟨vp, hbp, _⟩ := id hpx
    have hn6 : b6 ∉ [p'] := by simpa using Blk.ne hb6 hbp rfl
    have hn3 : b3 ∉ [p'] := by simpa using Blk.ne hb3 hbp rfl
    have hd := Chg.drew [] wx
    have hcd : ∀ wz, Chg [p'] wx wz → Chg [] w wz := fun wz hz => hcx.own hz (by intro y hy; simp at hy; omega)
    refine W_seq ?_
    refine W_block ?_
    refine W_draw (fun wz => Chg [p'] wx wz) mix (by kernel_rfl) hd.any ?_
    refine t_pure rfl (gn rfl) (fun _ => vl_move rfl) rfl rfl ?_
    refine t_read rfl (gn rfl) (fun wz hz => vl_loadAgg ag48 sz48 rfl rfl (Cells.of_blk0 (hb6.chg hz hn6))) rfl rfl ?_
    refine t_pure rfl (gn rfl) (fun _ => vl_move rfl) rfl rfl ?_
    refine t_pure rfl (gn rfl) (fun _ => vl_move rfl) rfl rfl ?_
    refine t_pure rfl (gn rfl) (fun _ => vl_indexAddr sl22 sz29 rfl rfl _ rfl hlt) rfl rfl ?_
    refine t_read rfl (gn rfl) (fun wz hz => vl_loadAgg ag29 sz29 rfl rfl (hca.chg0 (hcd _ hz))) rfl rfl ?_
    refine t_st rfl (gn rfl) (st_call bd16 rfl rfl rfl rfl (f16 p' v' ls x.1 x.2.1 x.2.2 _ (hpx.chg0 hd) (hrx.chg0 hd) hw (by omega) (by omega)) ?_)
    rintro v37 w37 ⟨q, v2, rfl, hpq, hrq, c37, hq⟩
    obtain ⟨vs2, hs2, _⟩ := id hrq
    obtain ⟨p2, d2, rfl, _⟩ := hs2.val
    refine ⟨.inl ((hd.any (S := [p'])).transS c37), ?_⟩
    refine t_pure rfl (gn rfl) (fun _ => vl_move rfl) rfl rfl ?_
    refine t_pure rfl (gn rfl) (fun _ => vl_extract rfl rfl) rfl rfl ?_
    refine t_pure rfl (gn rfl) (fun _ => vl_extract rfl rfl) rfl rfl ?_
    refine t_pure rfl (gn rfl) (fun _ => vl_extract rfl rfl) rfl rfl ?_
    refine t_pure rfl (gn rfl) (fun _ => vl_assign rfl) rfl rfl ?_
    refine t_st rfl (gn rfl) (st_store sz48 rfl rfl rfl rfl (hb6.chg ((hd.any (S := [p'])).transS c37) hn6) (by simp) (by intro u hu; simp at hu; subst hu; rfl) ?_)
    intro wF nF cF kF
    refine ⟨.inr (by kernel_rfl), ?_⟩
    refine T_endN [0, 3, 5, 6, 7] (F' := [(0, _), (3, _), (5, _), (6, _), (7, _)]) rfl ?_
    have hc37 := (hd.any (S := [p'])).transS c37
    have hb6' := hb6.chg hc37 hn6
    have hb3' := hb3.chg hc37 hn3
    have hw37 : Chg [] w w37 := hcd _ hc37
    have hsx := hcx.size
    have hb6n : w.heap.size ≤ b6 := by have := c3.size; omega
    refine block_normal ?_
    refine W_region ?_
    refine O_go (gn rfl) (St.vl (vl_move rfl) rfl rfl ?_)
    refine O_go (gn rfl) (St.vl (vl_add rfl rfl (by omega)) rfl rfl ?_)
    refine O_go (gn rfl) (St.vl (vl_assign rfl) rfl rfl ?_)
    refine O_endN [0, 3, 5, 6, 7] (F' := [(0, _), (3, _), (5, _), (6, _), (7, _)]) rfl ?_
    refine ⟨acts.length - (j + 1), by omega, hw37.own cF (by intro y hy; simp at hy; omega), j + 1, q, actP ls x.1 x.2.1 x.2.2, _, rfl, by omega, rfl, hpq.chgB hb6' rfl rfl rfl cF, hrq.chg1 hb6' rfl rfl cF, kF, hb3'.chg cF (by simpa using Blk.ne hb3' hb6' rfl), actP_wf hw _ _ _, ?_, ?_⟩
    · have := actP_len ls x.1 x.2.1 x.2.2; omega
    · have := hd.size
      rcases hq with rfl | hq <;> omega
  refine W_exit ?_
  repeat (first | refine then_exit ?_ | refine blockF_other rfl ?_)
  refine blockF_exit _ ?_
  have he : j = acts.length := by have := of_decide_eq_false hF; omega
  have hsx := hcx.size
  obtain ⟨vs', hs', _⟩ := id hrx
  obtain ⟨pv', cv', rfl, _⟩ := hs'.val
  obtain ⟨vp, hbp, _⟩ := id hpx
  refine W_seq ?_
  refine W_region ?_
  refine O_go (gn rfl) (St.vl (vl_move rfl) rfl rfl ?_)
  refine O_go (gn rfl) (st_call bd19 rfl rfl rfl rfl (f19 p' ls _ hpx (by omega)) ?_)
  rintro v42 w42 ⟨q, rfl, hqn, hq42, c42⟩
  refine O_go (gn rfl) (St.vl (vl_assign rfl) rfl rfl ?_)
  refine O_end [3, 5, 6, 8] (F' := [(3, _), (5, _), (6, _), (8, _)]) rfl ?_
  have hpl := hpx.lt
  have hs42 := c42.size
  have hql := hq42.lt
  have hp42 := hpx.chg0 c42
  have hr42 := hrx.chg0 c42
  have hb6 := hb6.chg0 c42
  have hb3 := hb3.chg0 c42
  have hbp := hbp.chg0 c42
  have hc42 : Chg [] w w42 := hcx.trans c42
  have hn6 : b6 ∉ [p'] := by simpa using Blk.ne hb6 hbp rfl
  have hn3 : b3 ∉ [p'] := by simpa using Blk.ne hb3 hbp rfl
  refine W_seq ?_
  refine W_region ?_
  refine O_go (gn rfl) (St.vl (vl_move rfl) rfl rfl ?_)
  refine O_go (gn rfl) (St.vl (vl_loadAgg ag48 sz48 rfl rfl (Cells.of_blk0 hb6)) rfl rfl ?_)
  refine O_go (gn rfl) (St.vl (vl_indexAddrA ar59 sz29 rfl rfl 0 rfl (by omega)) rfl rfl ?_)
  refine O_go (gn rfl) (St.vl (vl_loadAgg ag29 sz29 rfl rfl (Cells.of_blk hb3 (0 + 0 * 3) [.int .i64 x0.1, .string x0.2.1, .string x0.2.2] ⟨_, rfl⟩)) rfl rfl ?_)
  refine O_go (gn rfl) (st_call bd16 rfl rfl rfl rfl (f16 p' _ ls x0.1 x0.2.1 x0.2.2 _ hp42 hr42 hw (by omega) (by omega)) ?_)
  rintro v48 w48 ⟨p1, v1, rfl, hp48, hr48, c48, hp1⟩
  obtain ⟨vs1, hs1, _⟩ := id hr48
  obtain ⟨pv1, cv1, rfl, _⟩ := hs1.val
  refine O_go (gn rfl) (St.vl (vl_move rfl) rfl rfl ?_)
  refine O_go (gn rfl) (St.vl (vl_extract rfl rfl) rfl rfl ?_)
  refine O_go (gn rfl) (St.vl (vl_extract rfl rfl) rfl rfl ?_)
  refine O_go (gn rfl) (St.vl (vl_extract rfl rfl) rfl rfl ?_)
  refine O_go (gn rfl) (st_alloc zr48 rfl rfl ?_)
  intro b9 w9 e9 n9 c9 k9
  refine O_go (gn rfl) (St.vl (vl_assign rfl) rfl rfl ?_)
  refine O_go (gn rfl) (st_store sz48 rfl rfl rfl rfl k9 (by simp) (by intro u hu; simp at hu; subst hu; rfl) ?_)
  intro wA nA cA kA
  refine O_go (gn rfl) (St.vl (vl_assign rfl) rfl rfl ?_)
  refine O_end [3, 5, 6, 8, 9, 10] (F' := [(3, _), (5, _), (6, _), (8, _), (9, _), (10, _)]) rfl ?_
  have hc48 : Chg [] w w48 := hc42.own c48 (by intro y hy; simp at hy; omega)
  have hs48 := c48.size
  have hqp : q ≠ p' := by omega
  have hq48 := hq42.chgO hp42 hqp c48
  have hr48o := hr42.chg1 hbp rfl rfl c48
  have hb6 := hb6.chg c48 hn6
  have hb3 := hb3.chg c48 hn3
  have hp9 := (hp48.chg0 c9).chgB k9 rfl rfl rfl cA
  have hr9 := (hr48.chg0 c9).chg1 k9 rfl rfl cA
  have hq9 := (hq48.chg0 c9).chgB k9 rfl rfl rfl cA
  have hr9o := (hr48o.chg0 c9).chg1 k9 rfl rfl cA
  have hb6 := (hb6.chg0 c9).chg cA (by have := hb6.lt; simp; omega)
  have hb3 := (hb3.chg0 c9).chg cA (by have := hb3.lt; simp; omega)
  have hcA : Chg [] w wA := (hc48.trans c9).own cA (by intro y hy; simp at hy; have := hc48.size; omega)
  have hp1q : p1 ≠ q := by rcases hp1 with rfl | hp1 <;> omega
  obtain ⟨vq, hbq, _⟩ := id hq9
  have hn6 : b6 ∉ [q] := by simpa using Blk.ne hb6 hbq rfl
  have hn3 : b3 ∉ [q] := by simpa using Blk.ne hb3 hbq rfl
  have hn9 : b9 ∉ [q] := by simpa using Blk.ne kA hbq rfl
  have hsA := cA.size
  have hs9 := c9.size
  refine W_seq ?_
  refine W_region ?_
  refine O_go (gn rfl) (St.vl (vl_move rfl) rfl rfl ?_)
  refine O_go (gn rfl) (St.vl (vl_loadAgg ag48 sz48 rfl rfl (Cells.of_blk0 hb6)) rfl rfl ?_)
  refine O_go (gn rfl) (St.vl (vl_indexAddrA ar59 sz29 rfl rfl 1 rfl (by omega)) rfl rfl ?_)
  refine O_go (gn rfl) (St.vl (vl_loadAgg ag29 sz29 rfl rfl (Cells.of_blk hb3 (0 + 1 * 3) [.int .i64 x1.1, .string x1.2.1, .string x1.2.2] ⟨_, rfl⟩)) rfl rfl ?_)
  refine O_go (gn rfl) (st_call bd16 rfl rfl rfl rfl (f16 q _ ls x1.1 x1.2.1 x1.2.2 _ hq9 hr9o hw (by omega) (by omega)) ?_)
  rintro v57 w57 ⟨q1, v2, rfl, hq57, hr57, c57, hq1⟩
  obtain ⟨vs2, hs2, _⟩ := id hr57
  obtain ⟨pv2, cv2, rfl, _⟩ := hs2.val
  refine O_go (gn rfl) (St.vl (vl_move rfl) rfl rfl ?_)
  refine O_go (gn rfl) (St.vl (vl_extract rfl rfl) rfl rfl ?_)
  refine O_go (gn rfl) (St.vl (vl_extract rfl rfl) rfl rfl ?_)
  refine O_go (gn rfl) (St.vl (vl_extract rfl rfl) rfl rfl ?_)
  refine O_go (gn rfl) (st_alloc zr48 rfl rfl ?_)
  intro b11 w11 e11 n11 c11 k11
  refine O_go (gn rfl) (St.vl (vl_assign rfl) rfl rfl ?_)
  refine O_go (gn rfl) (st_store sz48 rfl rfl rfl rfl k11 (by simp) (by intro u hu; simp at hu; subst hu; rfl) ?_)
  intro wB nB cB kB
  refine O_go (gn rfl) (St.vl (vl_assign rfl) rfl rfl ?_)
  refine O_end [5, 8, 9, 10, 11, 12] (F' := [(5, _), (8, _), (9, _), (10, _), (11, _), (12, _)]) rfl ?_
  have hc57 : Chg [] w w57 := hcA.own c57 (by intro y hy; simp at hy; omega)
  have hp57 := hp9.chgO hq9 hp1q c57
  have hr57p := hr9.chg1 hbq rfl rfl c57
  have hk9 := kA.chg c57 hn9
  have hp11 := (hp57.chg0 c11).chgB k11 rfl rfl rfl cB
  have hr11 := (hr57p.chg0 c11).chg1 k11 rfl rfl cB
  have hq11 := (hq57.chg0 c11).chgB k11 rfl rfl rfl cB
  have hr11q := (hr57.chg0 c11).chg1 k11 rfl rfl cB
  have hk9 := (hk9.chg0 c11).chg cB (by have := hk9.lt; simp; omega)
  have hcB : Chg [] w wB := (hc57.trans c11).own cB (by intro y hy; simp at hy; have := hc57.size; omega)
  have hw0 := actP_wf hw x0.1 x0.2.1 x0.2.2
  have hw1 := actP_wf hw x1.1 x1.2.1 x1.2.2
  have hl0 := actP_len ls x0.1 x0.2.1 x0.2.2
  have hl1 := actP_len ls x1.1 x1.2.1 x1.2.2
  generalize actP ls x0.1 x0.2.1 x0.2.2 = la at *
  generalize actP ls x1.1 x1.2.1 x1.2.2 = lb at *
  refine W_seq ?_
  refine W_region ?_
  refine O_go (gn rfl) (St.vl (vl_loadAgg ag48 sz48 rfl rfl (Cells.of_blk0 hk9)) rfl rfl ?_)
  refine O_go (gn rfl) (St.vl (vl_loadAgg ag48 sz48 rfl rfl (Cells.of_blk0 kB)) rfl rfl ?_)
  refine O_go (gn rfl) (st_call bd21 rfl rfl rfl rfl (f21 _ _ la lb _ hr11 hr11q hw0.le (by omega)) ?_)
  rintro v63 w63 ⟨rfl, c63⟩
  refine O_go (gn rfl) (St.vl (vl_assign rfl) rfl rfl ?_)
  refine O_end [5, 8, 9, 10, 11, 12, 13] (F' := [(5, _), (8, _), (9, _), (10, _), (11, _), (12, _), (13, _)]) rfl ?_
  refine W_seq ?_
  refine W_region ?_
  refine O_go (gn rfl) (St.vl (vl_move rfl) rfl rfl ?_)
  refine O_go (gn rfl) (St.vl (vl_move rfl) rfl rfl ?_)
  refine O_go (gy rfl rfl rfl) (St.vl (vl_move rfl) rfl rfl ?_)
  refine O_go (gn rfl) (St.vl (vl_pick_t rfl rfl) rfl rfl ?_)
  refine O_go (gn rfl) (St.vl (vl_move rfl) rfl rfl ?_)
  refine O_go (gy rfl rfl rfl) (St.vl (vl_move rfl) rfl rfl ?_)
  refine O_go (gy rfl rfl rfl) (St.vl (vl_loadAgg ag48 sz48 rfl rfl (Cells.of_blk0 (hk9.chg0 c63))) rfl rfl ?_)
  refine O_go (gy rfl rfl rfl) (st_call bd17 rfl rfl rfl rfl (f17 p1 _ la _ (hp11.chg0 c63) (hr11.chg0 c63) hw0 (by omega)) ?_)
  rintro v71 w71 ⟨rfl, c71⟩
  refine O_go (gn rfl) (St.vl (vl_pick_t rfl rfl) rfl rfl ?_)
  refine O_go (gn rfl) (St.vl (vl_move rfl) rfl rfl ?_)
  refine O_go (gy rfl rfl rfl) (St.vl (vl_move rfl) rfl rfl ?_)
  refine O_go (gy rfl rfl rfl) (St.vl (vl_loadAgg ag48 sz48 rfl rfl (Cells.of_blk0 (Blk.chg0 kB (c63.trans c71)))) rfl rfl ?_)
  refine O_go (gy rfl rfl rfl) (st_call bd17 rfl rfl rfl rfl (f17 q1 _ lb _ (hq11.chg0 (c63.trans c71)) (hr11q.chg0 (c63.trans c71)) hw1 (by omega)) ?_)
  rintro v76 w76 ⟨rfl, c76⟩
  refine O_go (gn rfl) (St.vl (vl_pick_t rfl rfl) rfl rfl ?_)
  refine O_go (gn rfl) (St.vl (vl_move rfl) rfl rfl ?_)
  refine O_go (gy rfl rfl rfl) (St.vl (vl_move rfl) rfl rfl ?_)
  refine O_go (gy rfl rfl rfl) (St.vl (vl_move rfl) rfl rfl ?_)
  refine O_go (gy rfl rfl rfl) (st_call bd22 rfl rfl rfl rfl (f22 p1 q1 la lb _ (hp11.chg0 ((c63.trans c71).trans c76)) (hq11.chg0 ((c63.trans c71).trans c76)) hw0.le (by omega)) ?_)
  rintro v81 w81 ⟨rfl, c81⟩
  refine O_go (gy rfl rfl rfl) (St.vl (vl_move rfl) rfl rfl ?_)
  refine O_go (gy rfl rfl rfl) (St.vl (vl_is (b' := true) (vl_beq bo4 rfl rfl) (by simp)) rfl rfl ?_)
  refine O_go (gn rfl) (St.vl (vl_pick_t rfl rfl) rfl rfl ?_)
  refine O_go (gn rfl) (St.vl (vl_move rfl) rfl rfl ?_)
  refine O_go (gy rfl rfl rfl) (St.vl (vl_move rfl) rfl rfl ?_)
  refine O_go (gy rfl rfl rfl) (St.vl (vl_move rfl) rfl rfl ?_)
  refine O_go (gy rfl rfl rfl) (st_call bd22 rfl rfl rfl rfl (f22 q1 p1 lb la _ (hq11.chg0 (((c63.trans c71).trans c76).trans c81)) (hp11.chg0 (((c63.trans c71).trans c76).trans c81)) hw1.le (by omega)) ?_)
  rintro v88 w88 ⟨rfl, c88⟩
  refine O_go (gy rfl rfl rfl) (St.vl (vl_move rfl) rfl rfl ?_)
  refine O_go (gy rfl rfl rfl) (St.vl (vl_is (b' := true) (vl_beq bo4 rfl rfl) (by simp [eq_comm])) rfl rfl ?_)
  refine O_go (gn rfl) (St.vl (vl_pick_t rfl rfl) rfl rfl ?_)
  refine O_go (gn rfl) (St.vl (vl_move rfl) rfl rfl ?_)
  refine O_go (gy rfl rfl rfl) (st_call bd22 rfl rfl rfl rfl (f22_nn _) ?_)
  rintro v93 w93 ⟨rfl, rfl⟩
  refine O_go (gn rfl) (St.vl (vl_pick_t rfl rfl) rfl rfl ?_)
  refine O_go (gn rfl) (St.vl (vl_move rfl) rfl rfl ?_)
  refine O_go (gy rfl rfl rfl) (St.vl (vl_move rfl) rfl rfl ?_)
  refine O_go (gy rfl rfl rfl) (st_call bd22 rfl rfl rfl rfl (f22_pn _ _) ?_)
  rintro v97 w97 ⟨rfl, rfl⟩
  refine O_go (gy rfl rfl rfl) (St.vl (vl_not rfl) rfl rfl ?_)
  refine O_go (gn rfl) (St.vl (vl_pick_t rfl rfl) rfl rfl ?_)
  refine O_go (gn rfl) (St.vl (vl_move rfl) rfl rfl ?_)
  refine O_go (gy rfl rfl rfl) (st_call bd8 rfl rfl rfl rfl (f8 _) ?_)
  rintro v101 w101 ⟨rfl, c101⟩
  refine O_go (gn rfl) (St.vl (vl_pick_t rfl rfl) rfl rfl ?_)
  refine O_go (gn rfl) (St.vl (vl_assign rfl) rfl rfl ?_)
  refine O_end [4] (F' := [(4, _)]) rfl ?_
  refine W_ret ?_
  refine ret1 rfl rfl ?_
  exact ⟨rfl, hcB.trans (((((c63.trans c71).trans c76).trans c81).trans c88).trans c101)⟩
end Go.Wk

