/-
  The law's 'act': a call by both.
-/
import Derived.Test.YthbahcjkncfpdaaP17
namespace Go.Wk
open Go.Proofs
set_option maxRecDepth 10000

def actP (ls : List (List Ent)) (what : Int) (key val : ByteArray) : List (List Ent) :=
  if 0 ≤ what ∧ what ≤ 3 then pPut ls key val else if 4 ≤ what ∧ what ≤ 6 then pTake ls key else ls

theorem f16 (p : Nat) (v : Value) (ls : List (List Ent)) (what : Int) (key val : ByteArray) (w : World) (hp : Pg w p ls) (hr : RPg w v ls) (hw : WfP ls) (hn : ls.length ≤ 65536) (hk : key.size ≤ 2000) :
    Ret Try.prog 16 #[.pointer (some ⟨p, 0, none⟩), .agg #[v], .agg #[.int .i64 what, .string key, .string val]] w fun r w' =>
      ∃ q v', r = .tuple #[.pointer (some ⟨q, 0, none⟩), .agg #[v'], .bool true] ∧ Pg w' q (actP ls what key val) ∧ RPg w' v' (actP ls what key val) ∧ Chg [p] w w' ∧ (q = p ∨ w.heap.size ≤ q) := by
  obtain ⟨us, hsl, hal⟩ := id hr
  obtain ⟨pv, cv, rfl, _⟩ := hsl.val
  have hpl := hp.lt
  have hG := findE_getP hw key
  refine Ret.of_W (args := [_, _, _]) Try.func16 rfl rfl rfl rfl ?_

  refine W_seq ?_
  refine W_region ?_
  refine O_go (gn rfl) (st_box rfl rfl rfl ?_)
  intro b4 w4 e4 n4 c4 k4
  refine O_go (gn rfl) (st_box rfl rfl rfl ?_)
  intro b5 w5 e5 n5 c5 k5
  refine O_go (gn rfl) (St.vl (vl_assign rfl) rfl rfl ?_)
  refine O_go (gn rfl) (st_alloc zr48 rfl rfl ?_)
  intro b7 w7 e7 n7 c7 k7
  refine O_go (gn rfl) (St.vl (vl_assign rfl) rfl rfl ?_)
  refine O_end [0, 4, 5, 7] (F' := [(0, _), (4, _), (5, _), (7, _)]) rfl ?_
  have hc7 : Chg [] w w7 := (c4.trans c5).trans c7
  have hk4 := k4.chg0 (c5.trans c7)
  have hk5 := k5.chg0 c7
  have hs4 := c4.size
  have hs5 := c5.size
  have h33 := f33 _ ls key w7 (hr.chg0 hc7) hw.le hn
  rw [hG] at h33
  refine W_seq ?_
  refine W_region ?_
  refine O_go (gn rfl) (St.vl (vl_loadAgg ag48 sz48 rfl rfl (Cells.of_blk0 hk4)) rfl rfl ?_)
  refine O_go (gn rfl) (St.vl (vl_fieldAddr fo29_1 rfl) rfl rfl ?_)
  refine O_go (gn rfl) (St.vl (vl_load ag9 rfl (hk5.cell' rfl)) rfl rfl ?_)
  refine O_go (gn rfl) (st_call bd33 rfl rfl rfl rfl h33 ?_)
  rintro v23 w23 ⟨rfl, c23⟩
  refine O_go (gn rfl) (St.vl (vl_move rfl) rfl rfl ?_)
  refine O_go (gn rfl) (St.vl (vl_extract rfl rfl) rfl rfl ?_)
  refine O_go (gn rfl) (St.vl (vl_extract rfl rfl) rfl rfl ?_)
  refine O_go (gn rfl) (St.vl (vl_assign rfl) rfl rfl ?_)
  refine O_go (gn rfl) (St.vl (vl_assign rfl) rfl rfl ?_)
  refine O_end [0, 4, 5, 7, 9, 10] (F' := [(0, _), (4, _), (5, _), (7, _), (9, _), (10, _)]) rfl ?_
  have hc23 : Chg [] w w23 := hc7.trans c23
  have hk4 := hk4.chg0 c23
  have hk5 := hk5.chg0 c23
  have hk7 := k7.chg0 c23
  have hp23 := hp.chg0 hc23
  have hr23 := hr.chg0 hc23
  refine W_seq ?_
  refine W_seq ?_
  refine W_region ?_
  refine O_go (gn rfl) (St.vl (vl_fieldAddr fo29_0 rfl) rfl rfl ?_)
  refine O_go (gn rfl) (St.vl (vl_load ag3 rfl (hk5.cell' rfl)) rfl rfl ?_)
  refine O_end [0, 4, 5, 7, 9, 10, 27] (F' := [(0, _), (4, _), (5, _), (7, _), (9, _), (10, _), (27, _)]) rfl ?_
  refine W_block ?_
  refine W_seq_cut (fun F' w' => ∃ b, F' = [(0, .pointer (some ⟨p, 0, none⟩)), (4, .pointer (some ⟨b4, 0, none⟩)), (5, .pointer (some ⟨b5, 0, none⟩)), (7, .pointer (some ⟨b7, 0, none⟩)), (9, .string ((getP ls key).getD ⟨#[]⟩)), (10, .bool (getP ls key).isSome), (27, .int .i64 what), (28, .bool b)] ∧ (b = true ↔ 0 ≤ what ∧ what ≤ 3) ∧ w23 = w') ?_ ?_
  · refine W_seq ?_
    refine W_region ?_
    refine O_go (gn rfl) (St.vl (vl_ieq rfl rfl) rfl rfl ?_)
    refine O_go (gn rfl) (St.vl (vl_assign rfl) rfl rfl ?_)
    refine O_end [0, 4, 5, 7, 9, 10, 27, 28] (F' := [(0, _), (4, _), (5, _), (7, _), (9, _), (10, _), (27, _), (28, _)]) rfl ?_
    refine W_cond rfl (fun hT => ?_) (fun hF0 => ?_)
    · refine W_skipE ?_
      exact ⟨_, rfl, ⟨fun _ => by have := of_decide_eq_true hT; omega, fun _ => hT⟩, rfl⟩
    have hF0 := of_decide_eq_false hF0
    refine W_seq ?_
    refine W_region ?_
    refine O_go (gn rfl) (St.vl (vl_ieq rfl rfl) rfl rfl ?_)
    refine O_go (gn rfl) (St.vl (vl_assign rfl) rfl rfl ?_)
    refine O_end [0, 4, 5, 7, 9, 10, 27, 28] (F' := [(0, _), (4, _), (5, _), (7, _), (9, _), (10, _), (27, _), (28, _)]) rfl ?_
    refine W_cond rfl (fun hT => ?_) (fun hF1 => ?_)
    · refine W_skipE ?_
      exact ⟨_, rfl, ⟨fun _ => by have := of_decide_eq_true hT; omega, fun _ => hT⟩, rfl⟩
    have hF1 := of_decide_eq_false hF1
    refine W_seq ?_
    refine W_region ?_
    refine O_go (gn rfl) (St.vl (vl_ieq rfl rfl) rfl rfl ?_)
    refine O_go (gn rfl) (St.vl (vl_assign rfl) rfl rfl ?_)
    refine O_end [0, 4, 5, 7, 9, 10, 27, 28] (F' := [(0, _), (4, _), (5, _), (7, _), (9, _), (10, _), (27, _), (28, _)]) rfl ?_
    refine W_cond rfl (fun hT => ?_) (fun hF2 => ?_)
    · refine W_skipE ?_
      exact ⟨_, rfl, ⟨fun _ => by have := of_decide_eq_true hT; omega, fun _ => hT⟩, rfl⟩
    have hF2 := of_decide_eq_false hF2
    refine W_region ?_
    refine O_go (gn rfl) (St.vl (vl_ieq rfl rfl) rfl rfl ?_)
    refine O_go (gn rfl) (St.vl (vl_assign rfl) rfl rfl ?_)
    refine O_end [0, 4, 5, 7, 9, 10, 27, 28] (F' := [(0, _), (4, _), (5, _), (7, _), (9, _), (10, _), (27, _), (28, _)]) rfl ?_
    exact ⟨_, rfl, ⟨fun h => by have := of_decide_eq_true h; omega, fun h => decide_eq_true (by omega)⟩, rfl⟩
  rintro F' w' ⟨b, rfl, hb, rfl⟩
  have hnb4 : b4 ∉ [p] := by simp; omega
  have hnb5 : b5 ∉ [p] := by simp; omega
  have hnb7 : b7 ∉ [p] := by simp; omega
  obtain ⟨vp, hbp, hpp⟩ := id hp23
  refine W_cond rfl (fun hT => ?_) (fun hF => ?_)
  · have e : actP ls what key val = pPut ls key val := by unfold actP; rw [if_pos (hb.1 hT)]
    rw [e]
    refine W_seq ?_
    refine W_region ?_
    refine O_go (gn rfl) (St.vl (vl_move rfl) rfl rfl ?_)
    refine O_go (gn rfl) (St.vl (vl_fieldAddr fo29_1 rfl) rfl rfl ?_)
    refine O_go (gn rfl) (St.vl (vl_load ag9 rfl (hk5.cell' rfl)) rfl rfl ?_)
    refine O_go (gn rfl) (St.vl (vl_fieldAddr fo29_2 rfl) rfl rfl ?_)
    refine O_go (gn rfl) (St.vl (vl_load ag9 rfl (hk5.cell' rfl)) rfl rfl ?_)
    refine O_go (gn rfl) (st_call bd10 rfl rfl rfl rfl (f10 p ls key val _ hp23 hw hn hk) ?_)
    rintro v39 w39 ⟨rfl, hp39, c39⟩
    refine O_go (gn rfl) (St.vl (vl_move rfl) rfl rfl ?_)
    refine O_go (gn rfl) (St.vl (vl_extract rfl rfl) rfl rfl ?_)
    refine O_go (gn rfl) (St.vl (vl_extract rfl rfl) rfl rfl ?_)
    refine O_go (gn rfl) (St.vl (vl_extract rfl rfl) rfl rfl ?_)
    refine O_go (gn rfl) (St.vl (vl_assign rfl) rfl rfl ?_)
    refine O_go (gn rfl) (St.vl (vl_assign rfl) rfl rfl ?_)
    refine O_go (gn rfl) (St.vl (vl_assign rfl) rfl rfl ?_)
    refine O_end [0, 4, 5, 7, 9, 10, 11, 12, 13] (F' := [(0, _), (4, _), (5, _), (7, _), (9, _), (10, _), (11, _), (12, _), (13, _)]) rfl ?_
    have hr39 := hr23.chg1 hbp rfl rfl c39
    have hk4 := hk4.chg c39 hnb4
    have hk5 := hk5.chg c39 hnb5
    have hk7 := hk7.chg c39 hnb7
    refine W_seq ?_
    refine W_region ?_
    refine O_go (gn rfl) (St.vl (vl_move rfl) rfl rfl ?_)
    refine O_go (gn rfl) (St.vl (vl_loadAgg ag48 sz48 rfl rfl (Cells.of_blk0 hk4)) rfl rfl ?_)
    refine O_go (gn rfl) (St.vl (vl_fieldAddr fo29_1 rfl) rfl rfl ?_)
    refine O_go (gn rfl) (St.vl (vl_load ag9 rfl (hk5.cell' rfl)) rfl rfl ?_)
    refine O_go (gn rfl) (St.vl (vl_fieldAddr fo29_2 rfl) rfl rfl ?_)
    refine O_go (gn rfl) (St.vl (vl_load ag9 rfl (hk5.cell' rfl)) rfl rfl ?_)
    refine O_go (gn rfl) (st_call bd34 rfl rfl rfl rfl (f34 _ ls key val _ hr39 hw hn) ?_)
    rintro v49 w49 ⟨⟨v', rfl, hr'⟩, c49⟩
    obtain ⟨vs', hs', _⟩ := id hr'
    obtain ⟨p2, d2, rfl, _⟩ := hs'.val
    refine O_go (gn rfl) (St.vl (vl_move rfl) rfl rfl ?_)
    refine O_go (gn rfl) (St.vl (vl_move rfl) rfl rfl ?_)
    refine O_go (gn rfl) (St.vl (vl_is (b' := true) (vl_seq rfl rfl) (by simp)) rfl rfl ?_)
    refine O_go (gn rfl) (St.vl (vl_move rfl) rfl rfl ?_)
    refine O_go (gy rfl rfl rfl) (St.vl (vl_move rfl) rfl rfl ?_)
    refine O_go (gy rfl rfl rfl) (St.vl (vl_move rfl) rfl rfl ?_)
    refine O_go (gy rfl rfl rfl) (St.vl (vl_is (b' := true) (vl_beq bo4 rfl rfl) (by simp)) rfl rfl ?_)
    refine O_go (gn rfl) (St.vl (vl_pick_t rfl rfl) rfl rfl ?_)
    refine O_go (gn rfl) (St.vl (vl_move rfl) rfl rfl ?_)
    refine O_go (gy rfl rfl rfl) (St.vl (vl_move rfl) rfl rfl ?_)
    refine O_go (gy rfl rfl rfl) (st_call bd18 rfl rfl rfl rfl (f18 _ _) ?_)
    rintro v60 w60 ⟨rfl, rfl⟩
    refine O_go (gy rfl rfl rfl) (St.vl (vl_is (b' := true) (vl_ieq rfl rfl) (by simp)) rfl rfl ?_)
    refine O_go (gn rfl) (St.vl (vl_pick_t rfl rfl) rfl rfl ?_)
    refine O_go (gn rfl) (St.vl (vl_assign rfl) rfl rfl ?_)
    refine O_go (gn rfl) (st_store sz48 rfl rfl rfl rfl (hk7.chg0 c49) (by simp) (by intro u hu; simp at hu; subst hu; rfl) ?_)
    intro wF nF cF kF
    refine O_go (gn rfl) (St.vl (vl_assign rfl) rfl rfl ?_)
    refine O_end [6, 7, 8] (F' := [(6, _), (7, _), (8, _)]) rfl ?_
    refine W_ret ?_
    repeat (first | refine then_ret ?_ | refine block_ret ?_)
    refine ret3C rfl ag48 sz48 rfl rfl rfl rfl (Cells.of_blk0 kF) ?_
    obtain ⟨vq, hbq, hpq⟩ := id hp39
    have hpf : Pg wF p (pPut ls key val) := ⟨vq, (hbq.chg0 c49).chg cF (by simp; omega), (hpq.chg0 c49).chg1 (hk7.chg0 c49) rfl rfl cF⟩
    exact ⟨p, _, rfl, hpf, hr'.chg1 (hk7.chg0 c49) rfl rfl cF, (((hc23.any (S := [p])).transS c39).trans c49).trans' cF (by intro x hx; simp at hx; right; omega), .inl rfl⟩
  have hnput : ¬ (0 ≤ what ∧ what ≤ 3) := fun h => by rw [hb.2 h] at hF; cases hF
  refine W_seq_cut (fun F' w' => ∃ b, F' = [(0, .pointer (some ⟨p, 0, none⟩)), (4, .pointer (some ⟨b4, 0, none⟩)), (5, .pointer (some ⟨b5, 0, none⟩)), (7, .pointer (some ⟨b7, 0, none⟩)), (9, .string ((getP ls key).getD ⟨#[]⟩)), (10, .bool (getP ls key).isSome), (27, .int .i64 what), (63, .bool b)] ∧ (b = true ↔ 4 ≤ what ∧ what ≤ 6) ∧ w23 = w') ?_ ?_
  · refine W_seq ?_
    refine W_region ?_
    refine O_go (gn rfl) (St.vl (vl_ieq rfl rfl) rfl rfl ?_)
    refine O_go (gn rfl) (St.vl (vl_assign rfl) rfl rfl ?_)
    refine O_end [0, 4, 5, 7, 9, 10, 27, 63] (F' := [(0, _), (4, _), (5, _), (7, _), (9, _), (10, _), (27, _), (63, _)]) rfl ?_
    refine W_cond rfl (fun hT => ?_) (fun hF0 => ?_)
    · refine W_skipE ?_
      exact ⟨_, rfl, ⟨fun _ => by have := of_decide_eq_true hT; omega, fun _ => hT⟩, rfl⟩
    have hF0 := of_decide_eq_false hF0
    refine W_seq ?_
    refine W_region ?_
    refine O_go (gn rfl) (St.vl (vl_ieq rfl rfl) rfl rfl ?_)
    refine O_go (gn rfl) (St.vl (vl_assign rfl) rfl rfl ?_)
    refine O_end [0, 4, 5, 7, 9, 10, 27, 63] (F' := [(0, _), (4, _), (5, _), (7, _), (9, _), (10, _), (27, _), (63, _)]) rfl ?_
    refine W_cond rfl (fun hT => ?_) (fun hF1 => ?_)
    · refine W_skipE ?_
      exact ⟨_, rfl, ⟨fun _ => by have := of_decide_eq_true hT; omega, fun _ => hT⟩, rfl⟩
    have hF1 := of_decide_eq_false hF1
    refine W_region ?_
    refine O_go (gn rfl) (St.vl (vl_ieq rfl rfl) rfl rfl ?_)
    refine O_go (gn rfl) (St.vl (vl_assign rfl) rfl rfl ?_)
    refine O_end [0, 4, 5, 7, 9, 10, 27, 63] (F' := [(0, _), (4, _), (5, _), (7, _), (9, _), (10, _), (27, _), (63, _)]) rfl ?_
    exact ⟨_, rfl, ⟨fun h => by have := of_decide_eq_true h; omega, fun h => decide_eq_true (by omega)⟩, rfl⟩
  rintro F' w' ⟨b, rfl, hb, rfl⟩
  refine W_cond rfl (fun hT => ?_) (fun hF => ?_)
  · have e : actP ls what key val = pTake ls key := by unfold actP; rw [if_neg hnput, if_pos (hb.1 hT)]
    rw [e]
    refine W_seq ?_
    refine W_region ?_
    refine O_go (gn rfl) (St.vl (vl_move rfl) rfl rfl ?_)
    refine O_go (gn rfl) (St.vl (vl_fieldAddr fo29_1 rfl) rfl rfl ?_)
    refine O_go (gn rfl) (St.vl (vl_load ag9 rfl (hk5.cell' rfl)) rfl rfl ?_)
    refine O_go (gn rfl) (st_call bd11 rfl rfl rfl rfl (f11 p ls key _ hp23 hw hn) ?_)
    rintro v71 w71 ⟨rfl, hp71, c71⟩
    refine O_go (gn rfl) (St.vl (vl_move rfl) rfl rfl ?_)
    refine O_go (gn rfl) (St.vl (vl_extract rfl rfl) rfl rfl ?_)
    refine O_go (gn rfl) (St.vl (vl_extract rfl rfl) rfl rfl ?_)
    refine O_go (gn rfl) (St.vl (vl_extract rfl rfl) rfl rfl ?_)
    refine O_go (gn rfl) (St.vl (vl_assign rfl) rfl rfl ?_)
    refine O_go (gn rfl) (St.vl (vl_assign rfl) rfl rfl ?_)
    refine O_go (gn rfl) (St.vl (vl_assign rfl) rfl rfl ?_)
    refine O_end [0, 4, 5, 7, 9, 10, 14, 15, 16] (F' := [(0, _), (4, _), (5, _), (7, _), (9, _), (10, _), (14, _), (15, _), (16, _)]) rfl ?_
    have hr71 := hr23.chg1 hbp rfl rfl c71
    have hk4 := hk4.chg c71 hnb4
    have hk5 := hk5.chg c71 hnb5
    have hk7 := hk7.chg c71 hnb7
    refine W_seq ?_
    refine W_region ?_
    refine O_go (gn rfl) (St.vl (vl_move rfl) rfl rfl ?_)
    refine O_go (gn rfl) (St.vl (vl_loadAgg ag48 sz48 rfl rfl (Cells.of_blk0 hk4)) rfl rfl ?_)
    refine O_go (gn rfl) (St.vl (vl_fieldAddr fo29_1 rfl) rfl rfl ?_)
    refine O_go (gn rfl) (St.vl (vl_load ag9 rfl (hk5.cell' rfl)) rfl rfl ?_)
    refine O_go (gn rfl) (st_call bd35 rfl rfl rfl rfl (f35 _ ls key _ hr71 hw hn) ?_)
    rintro v79 w79 ⟨⟨v', rfl, hr'⟩, c79⟩
    obtain ⟨vs', hs', _⟩ := id hr'
    obtain ⟨p2, d2, rfl, _⟩ := hs'.val
    refine O_go (gn rfl) (St.vl (vl_move rfl) rfl rfl ?_)
    refine O_go (gn rfl) (St.vl (vl_move rfl) rfl rfl ?_)
    refine O_go (gn rfl) (St.vl (vl_is (b' := true) (vl_seq rfl rfl) (by simp)) rfl rfl ?_)
    refine O_go (gn rfl) (St.vl (vl_move rfl) rfl rfl ?_)
    refine O_go (gy rfl rfl rfl) (St.vl (vl_move rfl) rfl rfl ?_)
    refine O_go (gy rfl rfl rfl) (St.vl (vl_move rfl) rfl rfl ?_)
    refine O_go (gy rfl rfl rfl) (St.vl (vl_is (b' := true) (vl_beq bo4 rfl rfl) (by simp)) rfl rfl ?_)
    refine O_go (gn rfl) (St.vl (vl_pick_t rfl rfl) rfl rfl ?_)
    refine O_go (gn rfl) (St.vl (vl_move rfl) rfl rfl ?_)
    refine O_go (gy rfl rfl rfl) (St.vl (vl_move rfl) rfl rfl ?_)
    refine O_go (gy rfl rfl rfl) (st_call bd18 rfl rfl rfl rfl (f18 _ _) ?_)
    rintro v90 w90 ⟨rfl, rfl⟩
    refine O_go (gy rfl rfl rfl) (St.vl (vl_is (b' := true) (vl_ieq rfl rfl) (by simp)) rfl rfl ?_)
    refine O_go (gn rfl) (St.vl (vl_pick_t rfl rfl) rfl rfl ?_)
    refine O_go (gn rfl) (St.vl (vl_assign rfl) rfl rfl ?_)
    refine O_go (gn rfl) (st_store sz48 rfl rfl rfl rfl (hk7.chg0 c79) (by simp) (by intro u hu; simp at hu; subst hu; rfl) ?_)
    intro wF nF cF kF
    refine O_go (gn rfl) (St.vl (vl_assign rfl) rfl rfl ?_)
    refine O_end [6, 7, 8] (F' := [(6, _), (7, _), (8, _)]) rfl ?_
    refine W_ret ?_
    repeat (first | refine then_ret ?_ | refine block_ret ?_)
    refine ret3C rfl ag48 sz48 rfl rfl rfl rfl (Cells.of_blk0 kF) ?_
    obtain ⟨vq, hbq, hpq⟩ := id hp71
    have hpf : Pg wF p (pTake ls key) := ⟨vq, (hbq.chg0 c79).chg cF (by simp; omega), (hpq.chg0 c79).chg1 (hk7.chg0 c79) rfl rfl cF⟩
    exact ⟨p, _, rfl, hpf, hr'.chg1 (hk7.chg0 c79) rfl rfl cF, (((hc23.any (S := [p])).transS c71).trans c79).trans' cF (by intro x hx; simp at hx; right; omega), .inl rfl⟩
  have hntake : ¬ (4 ≤ what ∧ what ≤ 6) := fun h => by rw [hb.2 h] at hF; cases hF
  have e : actP ls what key val = ls := by unfold actP; rw [if_neg hnput, if_neg hntake]
  rw [e]
  refine W_seq ?_
  refine W_region ?_
  refine O_go (gn rfl) (St.vl (vl_ieq rfl rfl) rfl rfl ?_)
  refine O_go (gn rfl) (St.vl (vl_assign rfl) rfl rfl ?_)
  refine O_end [0, 4, 5, 7, 9, 10, 93] (F' := [(0, _), (4, _), (5, _), (7, _), (9, _), (10, _), (93, _)]) rfl ?_
  refine W_cond rfl (fun hT => ?_) (fun hF => ?_)
  · refine W_seq ?_
    refine W_region ?_
    refine O_go (gn rfl) (St.vl (vl_move rfl) rfl rfl ?_)
    refine O_go (gn rfl) (St.vl (vl_fieldAddr fo29_1 rfl) rfl rfl ?_)
    refine O_go (gn rfl) (St.vl (vl_load ag9 rfl (hk5.cell' rfl)) rfl rfl ?_)
    refine O_go (gn rfl) (st_call bd15 rfl rfl rfl rfl (f15 p ls key _ hp23 hw hn) ?_)
    rintro v99 w99 ⟨rfl, c99⟩
    refine O_go (gn rfl) (St.vl (vl_move rfl) rfl rfl ?_)
    refine O_go (gn rfl) (St.vl (vl_extract rfl rfl) rfl rfl ?_)
    refine O_go (gn rfl) (St.vl (vl_extract rfl rfl) rfl rfl ?_)
    refine O_go (gn rfl) (St.vl (vl_assign rfl) rfl rfl ?_)
    refine O_go (gn rfl) (St.vl (vl_assign rfl) rfl rfl ?_)
    refine O_end [0, 4, 7, 9, 10, 17, 18] (F' := [(0, _), (4, _), (7, _), (9, _), (10, _), (17, _), (18, _)]) rfl ?_
    have hd := Chg.drew [] w99
    refine W_seq ?_
    refine W_draw (fun wz => Chg [] w99 wz) mix (by kernel_rfl) hd ?_
    refine t_pure rfl (gn rfl) (fun _ => vl_move rfl) rfl rfl ?_
    refine t_read rfl (gn rfl) (fun wz hz => vl_loadAgg ag48 sz48 rfl rfl (Cells.of_blk0 ((hk4.chg0 c99).chg0 hz))) rfl rfl ?_
    refine t_pure rfl (gn rfl) (fun _ => vl_move rfl) rfl rfl ?_
    refine t_pure rfl (gn rfl) (fun _ => vl_move rfl) rfl rfl ?_
    refine t_pure rfl (gn rfl) (fun _ => vl_is (b' := true) (vl_seq rfl rfl) (by simp)) rfl rfl ?_
    refine t_pure rfl (gn rfl) (fun _ => vl_move rfl) rfl rfl ?_
    refine t_pure rfl (gy rfl rfl rfl) (fun _ => vl_move rfl) rfl rfl ?_
    refine t_pure rfl (gy rfl rfl rfl) (fun _ => vl_move rfl) rfl rfl ?_
    refine t_pure rfl (gy rfl rfl rfl) (fun _ => vl_is (b' := true) (vl_beq bo4 rfl rfl) (by simp)) rfl rfl ?_
    refine t_pure rfl (gn rfl) (fun _ => vl_pick_t rfl rfl) rfl rfl ?_
    refine t_pure rfl (gn rfl) (fun _ => vl_assign rfl) rfl rfl ?_
    refine t_st rfl (gn rfl) (st_store sz48 rfl rfl rfl rfl ((hk7.chg0 c99).chg0 hd) (by simp) (by intro u hu; simp at hu; subst hu; rfl) ?_)
    intro wF nF cF kF
    refine ⟨.inr (by kernel_rfl), ?_⟩
    refine t_pure rfl (gn rfl) (fun _ => vl_assign rfl) rfl rfl ?_
    refine T_end [6, 7, 8] (F' := [(6, _), (7, _), (8, _)]) rfl ?_
    refine W_ret ?_
    repeat (first | refine then_ret ?_ | refine block_ret ?_)
    refine ret3C rfl ag48 sz48 rfl rfl rfl rfl (Cells.of_blk0 kF) ?_
    have hcd := c99.trans hd
    exact ⟨p, _, rfl, ⟨vp, (hbp.chg0 hcd).chg cF (by simp; omega), (hpp.chg0 hcd).chg1 (hk7.chg0 hcd) rfl rfl cF⟩, (hr23.chg0 hcd).chg1 (hk7.chg0 hcd) rfl rfl cF, ((hc23.trans hcd).own cF (by intro x hx; simp at hx; omega)).any, .inl rfl⟩
  refine W_skip ?_
  refine block_normal ?_
  have hd := Chg.drew [] w23
  refine W_seq ?_
  refine W_draw (fun wz => Chg [] w23 wz) mix (by kernel_rfl) hd ?_
  refine t_pure rfl (gn rfl) (fun _ => vl_move rfl) rfl rfl ?_
  refine t_st rfl (gn rfl) (st_call bd19 rfl rfl rfl rfl (f19 p ls _ (hp23.chg0 hd) hn) ?_)
  rintro v113 w113 ⟨q, rfl, hq, hpq, c113⟩
  refine ⟨.inl (hd.trans c113), ?_⟩
  refine t_read rfl (gn rfl) (fun wz hz => vl_loadAgg ag48 sz48 rfl rfl (Cells.of_blk0 (hk4.chg0 hz))) rfl rfl ?_
  refine t_pure rfl (gn rfl) (fun _ => vl_assign rfl) rfl rfl ?_
  refine t_st rfl (gn rfl) (st_store sz48 rfl rfl rfl rfl (hk7.chg0 (hd.trans c113)) (by simp) (by intro u hu; simp at hu; subst hu; rfl) ?_)
  intro wF nF cF kF
  refine ⟨.inr (by kernel_rfl), ?_⟩
  refine t_pure rfl (gn rfl) (fun _ => vl_assign rfl) rfl rfl ?_
  refine T_end [6, 7, 8] (F' := [(6, _), (7, _), (8, _)]) rfl ?_
  have hcd := hd.trans c113
  obtain ⟨vq, hbq, hpq⟩ := hpq
  refine W_ret ?_
  refine ret3C rfl ag48 sz48 rfl rfl rfl rfl (Cells.of_blk0 kF) ?_
  have hs23 := hc23.size
  have hsd := hd.size
  have hqne : q ≠ b7 := fun e => by subst e; have := hk7.lt; omega
  exact ⟨q, _, rfl, ⟨vq, hbq.chg cF (by simpa using hqne), hpq.chg1 (hk7.chg0 hcd) rfl rfl cF⟩, (hr23.chg0 hcd).chg1 (hk7.chg0 hcd) rfl rfl cF, ((hc23.trans hcd).own cF (by intro x hx; simp at hx; omega)).any, .inr (by omega)⟩
end Go.Wk

