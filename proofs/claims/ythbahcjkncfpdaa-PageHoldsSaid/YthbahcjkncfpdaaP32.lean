/-
  The law PageHolds, walked.
-/
import Derived.Test.YthbahcjkncfpdaaP31
namespace Go.Wk
open Go.Proofs
set_option maxRecDepth 10000

theorem IsSl.apartM {w : World} {e k : Nat} {v : Value} {len : Nat} {xs : List Value} (h : IsSl w e k v len xs) {b : Nat} {es : Ents} (hb : IsMap w b es) : ∀ x ∈ blkOf v, x ∉ [b] := by
  rcases h with ⟨rfl, _⟩ | ⟨b', off, cap, c', rfl, h⟩
  · simp [blkOf]
  · intro x hx
    simp [blkOf] at hx
    subst hx
    simpa using (hb.ne h.blk).symm
theorem AllL.apartM {w : World} {b : Nat} {es : Ents} (hb : IsMap w b es) : ∀ {vs : List Value} {ls : List (List Ent)}, AllL w vs ls → ∀ v ∈ vs, ∀ x ∈ blkOf v, x ∉ [b]
  | [], [], _, v, hv => by simp at hv
  | v :: vs, l :: ls, h, u, hu => by
    rcases List.mem_cons.1 hu with rfl | hu
    · exact IsSl.apartM h.1 hb
    · exact AllL.apartM hb h.2 u hu
theorem Pg.chgM {w w' : World} {p : Nat} {ls : List (List Ent)} (h : Pg w p ls) {b : Nat} {es : Ents} (hb : IsMap w b es) (hc : Chg [b] w w') : Pg w' p ls := by
  obtain ⟨v, hv, vs, h1, h2⟩ := h
  exact ⟨v, hv.chg hc (by simpa using (hb.ne hv).symm), vs, h1.chg hc (h1.apartM hb), h2.chg hc (h2.apartM hb)⟩

def lastK {α : Type} (val : α → Ent) (l : List α) : ByteArray := (l.getLast?.map fun x => (val x).1).getD ⟨#[]⟩

theorem ord_bad {α : Type} {val : α → Ent} {al pre : List α} {x : α} (hs : Srt (al.map val)) (hne : pre ≠ []) (hle : (blt (val x).1 (lastK val pre) || decide ((val x).1 = lastK val pre)) = true) : ¬ (pre ++ [x]) <+: al := by
  intro hp
  have h1 : Srt ((pre ++ [x]).map val) := List.Pairwise.sublist (hp.map val).sublist hs
  rw [List.map_append] at h1
  have h2 := (List.pairwise_append.1 h1).2.2
  have h3 : pre.getLast? = some (pre.getLast hne) := List.getLast?_eq_some_getLast hne
  have h4 : blt (val (pre.getLast hne)).1 (val x).1 = true := h2 _ (List.mem_map.2 ⟨_, List.getLast_mem hne, rfl⟩) _ (by simp)
  have h5 : lastK val pre = (val (pre.getLast hne)).1 := by unfold lastK; rw [h3]; rfl
  rw [h5] at hle
  simp only [Bool.or_eq_true, decide_eq_true_eq] at hle
  rcases hle with h | h
  · rw [blt_asymm h4] at h; cases h
  · exact blt_ne h4 h.symm

set_option maxHeartbeats 1000000 in
theorem f3 (v : Value) (acts : List (Int × ByteArray × ByteArray)) (w : World) (h : IsActs w v acts) :
    Ret Try.prog 3 #[v] w fun r w' => r = .bool true ∧ Chg [] w w' := by
  refine Ret.of_WM (args := [_]) Try.func3 rfl rfl rfl rfl ?_

  refine W_seq ?_
  refine W_region ?_
  refine O_go (gn rfl) (st_alloc zr4 rfl rfl ?_)
  intro b2 w2 e2 n2 c2 k2
  refine O_end [0, 2] (F' := [(0, _), (2, _)]) rfl ?_
  have hs2 := c2.size
  refine W_seq_cut (fun F' w' => F' = [(0, v), (2, .pointer (some ⟨b2, 0, none⟩))] ∧ w2 = w' ∧ acts.length ≤ 80 ∧ Small acts) ?_ ?_
  · refine W_seq ?_
    refine W_region ?_
    refine O_go (gn rfl) (St.vl (vl_move rfl) rfl rfl ?_)
    refine O_go (gn rfl) (st_call bd7 rfl rfl rfl rfl (f7 v acts 80 _ (h.chg0 c2) (by omega)) ?_)
    rintro v18 w18 ⟨⟨b, rfl, hb⟩, rfl⟩
    refine O_go (gn rfl) (St.vl (vl_not rfl) rfl rfl ?_)
    refine O_end [0, 2, 19] (F' := [(0, _), (2, _), (19, _)]) rfl ?_
    cases b with
    | false =>
      refine W_cond_true rfl ?_
      refine W_seq ?_
      refine W_region ?_
      refine O_go (gn rfl) (st_call bd8 rfl rfl rfl rfl (f8 _) ?_)
      rintro v20 w20 ⟨rfl, c20⟩
      refine O_go (gn rfl) (st_store sz4 rfl rfl rfl rfl (k2.chg0 c20) (by simp) (by intro u hu; simp at hu; subst hu; rfl) ?_)
      intro wF nF cF kF
      refine O_end [2] (F' := [(2, _)]) rfl ?_
      refine W_ret ?_
      refine then_ret ?_
      refine retM0 rfl ag4 rfl (kF.cell' rfl) ?_
      exact ⟨rfl, (c2.trans c20).own cF (by intro x hx; simp at hx; omega)⟩
    | true =>
      refine W_cond_false rfl ?_
      refine W_prune [0, 2] rfl ?_
      refine W_skipE ?_
      exact ⟨rfl, rfl, (hb rfl).1, (hb rfl).2⟩
  rintro F' w' ⟨rfl, rfl, hlen, hsm⟩
  refine W_seq ?_
  refine W_region ?_
  refine O_go (gn rfl) (st_call bd9 rfl rfl rfl rfl (f9 _) ?_)
  rintro v21 w21 ⟨p, rfl, hpn, hp21, c21⟩
  refine O_go (gn rfl) (st_alloc zr25 rfl rfl ?_)
  intro b3 w3 e3 n3 c3 k3
  refine O_go (gn rfl) (st_store sz25 rfl rfl rfl rfl k3 (by simp) (by intro u hu; simp at hu; subst hu; rfl) ?_)
  intro wA nA cA kA
  refine O_end [0, 2, 3] (F' := [(0, _), (2, _), (3, _)]) rfl ?_
  have hs21 := c21.size
  have hs3 := c3.size
  have hcA : Chg [] w2 wA := (c21.trans c3).own cA (by intro y hy; simp at hy; omega)
  have hpA := (hp21.chg0 c3).chgB k3 rfl rfl rfl cA
  refine W_seq ?_
  refine W_region ?_
  refine O_go (gn rfl) (st_makeMap rfl ?_)
  intro b22 w22 e22 n22 c22 k22
  refine O_go (gn rfl) (st_alloc zr27 rfl rfl ?_)
  intro b4 w4 e4 n4 c4 k4
  refine O_go (gn rfl) (st_store sz27 rfl rfl rfl rfl k4 (by simp) (by intro u hu; simp at hu; subst hu; rfl) ?_)
  intro wB nB cB kB
  refine O_end [0, 2, 3, 4] (F' := [(0, _), (2, _), (3, _), (4, _)]) rfl ?_
  have hsA := hcA.size
  have hs22 := c22.size
  have hs4 := c4.size
  have hcB0 : Chg [] wA wB := (c22.trans c4).own cB (by intro y hy; simp at hy; omega)
  have hcB : Chg [] w wB := (c2.trans hcA).trans hcB0
  have hpB := hpA.chg0 hcB0
  have hb3B : Blk wB b3 25 [.pointer (some ⟨p, 0, none⟩)] := Blk.chg0 kA hcB0
  have hmB : IsMap wB b22 [] := (k22.chg0 c4).chg cB (by simp; omega)
  have hb2B := (k2.chg0 hcA).chg0 hcB0
  have hsB := hcB.size
  obtain ⟨pv, cv, rfl, hacts⟩ := id h
  refine W_seq ?_
  refine W_seq ?_
  refine W_region ?_
  refine O_go (gn rfl) (St.vl (vl_assign rfl) rfl rfl ?_)
  refine O_end [0, 2, 3, 4, 5] (F' := [(0, _), (2, _), (3, _), (4, _), (5, _)]) rfl ?_
  refine W_block ?_
  refine W_loop [0, 2, 3, 4, 5] (fun m F wx => Chg [] w wx ∧ ∃ (j : Nat) (ls : List (List Ent)) (es : Ents), m = acts.length - j ∧ j ≤ acts.length ∧ F = [(0, .slice pv acts.length cv), (2, .pointer (some ⟨b2, 0, none⟩)), (3, .pointer (some ⟨b3, 0, none⟩)), (4, .pointer (some ⟨b4, 0, none⟩)), (5, .int .i64 j)] ∧ Pg wx p ls ∧ Blk wx b3 25 [.pointer (some ⟨p, 0, none⟩)] ∧ Blk wx b4 27 [.map (some b22)] ∧ IsMap wx b22 es ∧ Blk wx b2 4 [.bool false] ∧ WfP ls ∧ Wide ls ∧ Tells es ls.flatten ∧ ls.length ≤ j) (m := acts.length - 0) ⟨hcB, 0, [], [], rfl, Nat.zero_le _, rfl, hpB, hb3B, kB, hmB, hb2B, WfP.nil, Wide.nil, Tells.nil, by simp⟩ ?_
  rintro m F wx ⟨hcx, j, ls, es, rfl, hj, rfl, hpx, hb3, hb4, hm, hb2, hw, hwd, ht, hll⟩
  refine W_seq ?_
  refine W_seq ?_
  refine W_region ?_
  refine O_go (gn rfl) (St.vl (vl_move rfl) rfl rfl ?_)
  refine O_go (gn rfl) (St.vl (vl_move rfl) rfl rfl ?_)
  refine O_go (gn rfl) (St.vl (vl_len sl22 rfl) rfl rfl ?_)
  refine O_go (gn rfl) (St.vl (vl_lss rfl rfl) rfl rfl ?_)
  refine O_end [0, 2, 3, 4, 5, 26] (F' := [(0, _), (2, _), (3, _), (4, _), (5, _), (26, _)]) rfl ?_
  refine W_cond rfl (fun hT => ?_) (fun hF => ?_)
  · refine W_skipE ?_
    have hlt : j < acts.length := by have := of_decide_eq_true hT; omega
    have hx : acts[j]? = some acts[j] := by simp [hlt]
    have hxs := hsm _ (List.mem_of_getElem? hx)
    generalize acts[j] = x at hx hxs
    obtain ⟨ba, oa, rfl, hca⟩ := hacts j x hx
    obtain ⟨vp, hbp, _⟩ := id hpx
    have hn2 : b2 ∉ [p] := by simpa using Blk.ne hb2 hbp rfl
    have hn3 : b3 ∉ [p] := by simpa using Blk.ne hb3 hbp rfl
    have hn4 : b4 ∉ [p] := by simpa using Blk.ne hb4 hbp rfl
    have hnm : b22 ∉ [p] := by simpa using hm.ne hbp
    have hd := Chg.drew [] wx
    have hcd : ∀ wz, Chg [p] wx wz → Chg [] w wz := fun wz hz => hcx.own hz (by intro y hy; simp at hy; omega)
    have hsx := hcx.size
    refine W_seq ?_
    refine W_block ?_
    refine W_seq_cut (fun F' w' => F' = [(0, .slice (some ⟨ba, oa, none⟩) acts.length cv), (2, .pointer (some ⟨b2, 0, none⟩)), (3, .pointer (some ⟨b3, 0, none⟩)), (4, .pointer (some ⟨b4, 0, none⟩)), (5, .int .i64 j)] ∧ Chg [] w w' ∧ ∃ (ls' : List (List Ent)) (es' : Ents), Pg w' p ls' ∧ Blk w' b3 25 [.pointer (some ⟨p, 0, none⟩)] ∧ Blk w' b4 27 [.map (some b22)] ∧ IsMap w' b22 es' ∧ Blk w' b2 4 [.bool false] ∧ WfP ls' ∧ Wide ls' ∧ Tells es' ls'.flatten ∧ ls'.length ≤ j + 1) ?_ ?_
    · refine W_seq ?_
      refine W_region ?_
      refine O_go (gn rfl) (St.vl (vl_move rfl) rfl rfl ?_)
      refine O_go (gn rfl) (St.vl (vl_move rfl) rfl rfl ?_)
      refine O_go (gn rfl) (St.vl (vl_indexAddr sl22 sz29 rfl rfl _ rfl hlt) rfl rfl ?_)
      refine O_go (gn rfl) (St.vl (vl_fieldAddr fo29_0 rfl) rfl rfl ?_)
      refine O_go (gn rfl) (St.vl (vl_load ag3 rfl ((hca.chg0 hcx) 0 _ rfl)) rfl rfl ?_)
      refine O_end [0, 2, 3, 4, 5, 33] (F' := [(0, _), (2, _), (3, _), (4, _), (5, _), (33, _)]) rfl ?_
      refine W_block ?_
      refine W_seq_cut (fun F' w' => ∃ b, F' = [(0, .slice (some ⟨ba, oa, none⟩) acts.length cv), (2, .pointer (some ⟨b2, 0, none⟩)), (3, .pointer (some ⟨b3, 0, none⟩)), (4, .pointer (some ⟨b4, 0, none⟩)), (5, .int .i64 j), (33, .int .i64 x.1), (34, .bool b)] ∧ (b = true ↔ 0 ≤ x.1 ∧ x.1 ≤ 3) ∧ wx = w') ?_ ?_
      · refine W_seq ?_
        refine W_region ?_
        refine O_go (gn rfl) (St.vl (vl_ieq rfl rfl) rfl rfl ?_)
        refine O_go (gn rfl) (St.vl (vl_assign rfl) rfl rfl ?_)
        refine O_end [0, 2, 3, 4, 5, 33, 34] (F' := [(0, _), (2, _), (3, _), (4, _), (5, _), (33, _), (34, _)]) rfl ?_
        refine W_cond rfl (fun hT => ?_) (fun hF0 => ?_)
        · refine W_skipE ?_
          exact ⟨_, rfl, ⟨fun _ => by have := of_decide_eq_true hT; omega, fun _ => hT⟩, rfl⟩
        have hF0 := of_decide_eq_false hF0
        refine W_seq ?_
        refine W_region ?_
        refine O_go (gn rfl) (St.vl (vl_ieq rfl rfl) rfl rfl ?_)
        refine O_go (gn rfl) (St.vl (vl_assign rfl) rfl rfl ?_)
        refine O_end [0, 2, 3, 4, 5, 33, 34] (F' := [(0, _), (2, _), (3, _), (4, _), (5, _), (33, _), (34, _)]) rfl ?_
        refine W_cond rfl (fun hT => ?_) (fun hF1 => ?_)
        · refine W_skipE ?_
          exact ⟨_, rfl, ⟨fun _ => by have := of_decide_eq_true hT; omega, fun _ => hT⟩, rfl⟩
        have hF1 := of_decide_eq_false hF1
        refine W_seq ?_
        refine W_region ?_
        refine O_go (gn rfl) (St.vl (vl_ieq rfl rfl) rfl rfl ?_)
        refine O_go (gn rfl) (St.vl (vl_assign rfl) rfl rfl ?_)
        refine O_end [0, 2, 3, 4, 5, 33, 34] (F' := [(0, _), (2, _), (3, _), (4, _), (5, _), (33, _), (34, _)]) rfl ?_
        refine W_cond rfl (fun hT => ?_) (fun hF2 => ?_)
        · refine W_skipE ?_
          exact ⟨_, rfl, ⟨fun _ => by have := of_decide_eq_true hT; omega, fun _ => hT⟩, rfl⟩
        have hF2 := of_decide_eq_false hF2
        refine W_region ?_
        refine O_go (gn rfl) (St.vl (vl_ieq rfl rfl) rfl rfl ?_)
        refine O_go (gn rfl) (St.vl (vl_assign rfl) rfl rfl ?_)
        refine O_end [0, 2, 3, 4, 5, 33, 34] (F' := [(0, _), (2, _), (3, _), (4, _), (5, _), (33, _), (34, _)]) rfl ?_
        exact ⟨_, rfl, ⟨fun h => by have := of_decide_eq_true h; omega, fun h => decide_eq_true (by omega)⟩, rfl⟩
      rintro F' w' ⟨b, rfl, hb, rfl⟩
      cases b with
      | true =>
        refine W_cond_true rfl ?_
        refine W_seq ?_
        refine W_draw (fun wz => Chg [p] wx wz) mix (by kernel_rfl) hd.any ?_
        refine t_read rfl (gn rfl) (fun wz hz => vl_load ag25 rfl ((hb3.chg hz hn3).cell' rfl)) rfl rfl ?_
        refine t_pure rfl (gn rfl) (fun _ => vl_move rfl) rfl rfl ?_
        refine t_pure rfl (gn rfl) (fun _ => vl_move rfl) rfl rfl ?_
        refine t_pure rfl (gn rfl) (fun _ => vl_indexAddr sl22 sz29 rfl rfl _ rfl hlt) rfl rfl ?_
        refine t_pure rfl (gn rfl) (fun _ => vl_fieldAddr fo29_1 rfl) rfl rfl ?_
        refine t_read rfl (gn rfl) (fun wz hz => vl_load ag9 rfl ((hca.chg0 (hcd _ hz)) 1 _ rfl)) rfl rfl ?_
        refine t_pure rfl (gn rfl) (fun _ => vl_move rfl) rfl rfl ?_
        refine t_pure rfl (gn rfl) (fun _ => vl_move rfl) rfl rfl ?_
        refine t_pure rfl (gn rfl) (fun _ => vl_indexAddr sl22 sz29 rfl rfl _ rfl hlt) rfl rfl ?_
        refine t_pure rfl (gn rfl) (fun _ => vl_fieldAddr fo29_2 rfl) rfl rfl ?_
        refine t_read rfl (gn rfl) (fun wz hz => vl_load ag9 rfl ((hca.chg0 (hcd _ hz)) 2 _ rfl)) rfl rfl ?_
        refine t_st rfl (gn rfl) (st_call bd10 rfl rfl rfl rfl (f10 p ls x.2.1 x.2.2 _ (hpx.chg0 hd) hw (by omega) (by omega)) ?_)
        rintro v50 w50 ⟨rfl, hp50, c50⟩
        refine ⟨.inl ((hd.any (S := [p])).transS c50), ?_⟩
        refine T_end [0, 2, 3, 4, 5] (F' := [(0, _), (2, _), (3, _), (4, _), (5, _)]) rfl ?_
        have hc50 := (hd.any (S := [p])).transS c50
        have hw50 := hcd _ hc50
        have hd50 := Chg.drew [] w50
        have hm50 := (hm.chg hc50 hnm).chg0 hd50
        have hb4' := hb4.chg hc50 hn4
        refine W_draw (fun wz => Chg [] w50 wz) mix (by kernel_rfl) hd50 ?_
        refine t_read rfl (gn rfl) (fun wz hz => vl_load ag27 rfl ((hb4'.chg0 hz).cell' rfl)) rfl rfl ?_
        refine t_pure rfl (gn rfl) (fun _ => vl_move rfl) rfl rfl ?_
        refine t_pure rfl (gn rfl) (fun _ => vl_move rfl) rfl rfl ?_
        refine t_pure rfl (gn rfl) (fun _ => vl_indexAddr sl22 sz29 rfl rfl _ rfl hlt) rfl rfl ?_
        refine t_pure rfl (gn rfl) (fun _ => vl_fieldAddr fo29_1 rfl) rfl rfl ?_
        refine t_read rfl (gn rfl) (fun wz hz => vl_load ag9 rfl ((hca.chg0 (hw50.trans hz)) 1 _ rfl)) rfl rfl ?_
        refine t_pure rfl (gn rfl) (fun _ => vl_move rfl) rfl rfl ?_
        refine t_pure rfl (gn rfl) (fun _ => vl_move rfl) rfl rfl ?_
        refine t_pure rfl (gn rfl) (fun _ => vl_indexAddr sl22 sz29 rfl rfl _ rfl hlt) rfl rfl ?_
        refine t_pure rfl (gn rfl) (fun _ => vl_fieldAddr fo29_2 rfl) rfl rfl ?_
        refine t_read rfl (gn rfl) (fun wz hz => vl_load ag9 rfl ((hca.chg0 (hw50.trans hz)) 2 _ rfl)) rfl rfl ?_
        refine t_pure rfl (gn rfl) (fun _ => vl_build pl33 zr33 rfl (vs := [_]) rfl (css := [_]) ⟨rfl, trivial⟩ rfl rfl (cs := [_]) rfl) rfl rfl ?_
        refine t_st rfl (gn rfl) (st_put mp27 st9 rfl rfl rfl hm50 ?_)
        intro wM nM cM kM
        refine ⟨.inr (by kernel_rfl), ?_⟩
        refine T_endN [0, 2, 3, 4, 5] (F' := [(0, _), (2, _), (3, _), (4, _), (5, _)]) rfl ?_
        refine block_normal ?_
        refine ⟨rfl, (hw50.trans hd50).own cM (by intro y hy; simp at hy; omega), _, _, (hp50.chg0 hd50).chgM hm50 cM, ((hb3.chg hc50 hn3).chg0 hd50).chg cM (by simpa using (hm50.ne ((hb3.chg hc50 hn3).chg0 hd50)).symm), (hb4'.chg0 hd50).chg cM (by simpa using (hm50.ne (hb4'.chg0 hd50)).symm), kM, ((hb2.chg hc50 hn2).chg0 hd50).chg cM (by simpa using (hm50.ne ((hb2.chg hc50 hn2).chg0 hd50)).symm), hw.put _ _, hwd.put _ _, ht.put hw _ _, ?_⟩
        have := pPut_len ls x.2.1 x.2.2
        omega
      | false =>
        refine W_cond_false rfl ?_
        refine W_seq_cut (fun F' w' => ∃ b, prune [0, 2, 3, 4, 5, 63] F' = [(0, .slice (some ⟨ba, oa, none⟩) acts.length cv), (2, .pointer (some ⟨b2, 0, none⟩)), (3, .pointer (some ⟨b3, 0, none⟩)), (4, .pointer (some ⟨b4, 0, none⟩)), (5, .int .i64 j), (63, .bool b)] ∧ wx = w') ?_ ?_
        · refine W_seq ?_
          refine W_region ?_
          refine O_go (gn rfl) (St.vl (vl_ieq rfl rfl) rfl rfl ?_)
          refine O_go (gn rfl) (St.vl (vl_assign rfl) rfl rfl ?_)
          refine O_end [0, 2, 3, 4, 5, 33, 63] (F' := [(0, _), (2, _), (3, _), (4, _), (5, _), (33, _), (63, _)]) rfl ?_
          refine W_cond rfl (fun hT => ?_) (fun hF0 => ?_)
          · refine W_skipE ?_
            exact ⟨_, rfl, rfl⟩
          refine W_seq ?_
          refine W_region ?_
          refine O_go (gn rfl) (St.vl (vl_ieq rfl rfl) rfl rfl ?_)
          refine O_go (gn rfl) (St.vl (vl_assign rfl) rfl rfl ?_)
          refine O_end [0, 2, 3, 4, 5, 33, 63] (F' := [(0, _), (2, _), (3, _), (4, _), (5, _), (33, _), (63, _)]) rfl ?_
          refine W_cond rfl (fun hT => ?_) (fun hF1 => ?_)
          · refine W_skipE ?_
            exact ⟨_, rfl, rfl⟩
          refine W_region ?_
          refine O_go (gn rfl) (St.vl (vl_ieq rfl rfl) rfl rfl ?_)
          refine O_go (gn rfl) (St.vl (vl_assign rfl) rfl rfl ?_)
          refine O_end [0, 2, 3, 4, 5, 63] (F' := [(0, _), (2, _), (3, _), (4, _), (5, _), (63, _)]) rfl ?_
          exact ⟨_, rfl, rfl⟩
        rintro F' w' ⟨b, hF', rfl⟩
        refine W_prune _ hF' ?_
        cases b with
        | true =>
          refine W_cond_true rfl ?_
          refine W_seq ?_
          refine W_draw (fun wz => Chg [p] wx wz) mix (by kernel_rfl) hd.any ?_
          refine t_read rfl (gn rfl) (fun wz hz => vl_load ag25 rfl ((hb3.chg hz hn3).cell' rfl)) rfl rfl ?_
          refine t_pure rfl (gn rfl) (fun _ => vl_move rfl) rfl rfl ?_
          refine t_pure rfl (gn rfl) (fun _ => vl_move rfl) rfl rfl ?_
          refine t_pure rfl (gn rfl) (fun _ => vl_indexAddr sl22 sz29 rfl rfl _ rfl hlt) rfl rfl ?_
          refine t_pure rfl (gn rfl) (fun _ => vl_fieldAddr fo29_1 rfl) rfl rfl ?_
          refine t_read rfl (gn rfl) (fun wz hz => vl_load ag9 rfl ((hca.chg0 (hcd _ hz)) 1 _ rfl)) rfl rfl ?_
          refine t_st rfl (gn rfl) (st_call bd11 rfl rfl rfl rfl (f11 p ls x.2.1 _ (hpx.chg0 hd) hw (by omega)) ?_)
          rintro v73 w73 ⟨rfl, hp50, c50⟩
          refine ⟨.inl ((hd.any (S := [p])).transS c50), ?_⟩
          refine T_end [0, 2, 3, 4, 5] (F' := [(0, _), (2, _), (3, _), (4, _), (5, _)]) rfl ?_
          have hc50 := (hd.any (S := [p])).transS c50
          have hw50 := hcd _ hc50
          have hd50 := Chg.drew [] w73
          have hm50 := (hm.chg hc50 hnm).chg0 hd50
          have hb4' := hb4.chg hc50 hn4
          refine W_draw (fun wz => Chg [] w73 wz) mix (by kernel_rfl) hd50 ?_
          refine t_read rfl (gn rfl) (fun wz hz => vl_load ag27 rfl ((hb4'.chg0 hz).cell' rfl)) rfl rfl ?_
          refine t_pure rfl (gn rfl) (fun _ => vl_move rfl) rfl rfl ?_
          refine t_pure rfl (gn rfl) (fun _ => vl_move rfl) rfl rfl ?_
          refine t_pure rfl (gn rfl) (fun _ => vl_indexAddr sl22 sz29 rfl rfl _ rfl hlt) rfl rfl ?_
          refine t_pure rfl (gn rfl) (fun _ => vl_fieldAddr fo29_1 rfl) rfl rfl ?_
          refine t_read rfl (gn rfl) (fun wz hz => vl_load ag9 rfl ((hca.chg0 (hw50.trans hz)) 1 _ rfl)) rfl rfl ?_
          refine t_st rfl (gn rfl) (st_del mp27 st9 rfl rfl hm50 ?_)
          intro wM nM cM kM
          refine ⟨.inr (by kernel_rfl), ?_⟩
          refine T_endN [0, 2, 3, 4, 5] (F' := [(0, _), (2, _), (3, _), (4, _), (5, _)]) rfl ?_
          refine block_normal ?_
          refine ⟨rfl, (hw50.trans hd50).own cM (by intro y hy; simp at hy; omega), _, _, (hp50.chg0 hd50).chgM hm50 cM, ((hb3.chg hc50 hn3).chg0 hd50).chg cM (by simpa using (hm50.ne ((hb3.chg hc50 hn3).chg0 hd50)).symm), (hb4'.chg0 hd50).chg cM (by simpa using (hm50.ne (hb4'.chg0 hd50)).symm), kM, ((hb2.chg hc50 hn2).chg0 hd50).chg cM (by simpa using (hm50.ne ((hb2.chg hc50 hn2).chg0 hd50)).symm), hw.take _, hwd.take _, ht.del hw _, ?_⟩
          have := pTake_len ls x.2.1
          omega
        | false =>
          refine W_cond_false rfl ?_
          refine W_prune [0, 2, 3, 4, 5] rfl ?_
          refine W_skip ?_
          refine block_normal ?_
          exact ⟨rfl, hcx, ls, es, hpx, hb3, hb4, hm, hb2, hw, hwd, ht, by omega⟩
    rintro F' wy ⟨rfl, hcy, ls', es', hpy, hb3y, hb4y, hmy, hb2y, hwy, hwdy, hty, hlly⟩
    clear hm hb2 hw hwd ht hll hpx hbp hn2 hn3 hn4 hnm hd hcd
    have hkl : (keysOf ls').length = ls'.length := by simp [keysOf]
    refine W_seq ?_
    refine W_region ?_
    refine O_go (gn rfl) (St.vl (vl_load ag25 rfl (hb3y.cell' rfl)) rfl rfl ?_)
    refine O_go (gn rfl) (st_call bd12 rfl rfl rfl rfl (f12 p ls' _ hpy hwy.le (by omega)) ?_)
    rintro v81 w81 ⟨hk81, c81⟩
    obtain ⟨us, hsl, hal⟩ := id hk81
    rw [hkl] at hsl
    obtain ⟨pk, ck, rfl, _⟩ := hsl.val
    refine O_go (gn rfl) (St.vl (vl_assign rfl) rfl rfl ?_)
    refine O_end [0, 2, 3, 4, 5, 6] (F' := [(0, _), (2, _), (3, _), (4, _), (5, _), (6, _)]) rfl ?_
    refine W_seq ?_
    refine W_seq ?_
    refine W_region ?_
    refine O_go (gn rfl) (St.vl (vl_assign rfl) rfl rfl ?_)
    refine O_end [0, 2, 3, 4, 5, 6, 7] (F' := [(0, _), (2, _), (3, _), (4, _), (5, _), (6, _), (7, _)]) rfl ?_
    refine W_block ?_
    refine W_loop [0, 2, 3, 4, 5, 6, 7] (fun m F wk => wk = w81 ∧ ∃ i : Nat, m = ls'.length - i ∧ i ≤ ls'.length ∧ F = [(0, .slice (some ⟨ba, oa, none⟩) acts.length cv), (2, .pointer (some ⟨b2, 0, none⟩)), (3, .pointer (some ⟨b3, 0, none⟩)), (4, .pointer (some ⟨b4, 0, none⟩)), (5, .int .i64 j), (6, .slice pk ls'.length ck), (7, .int .i64 i)]) (m := ls'.length - 0) ⟨rfl, 0, rfl, Nat.zero_le _, rfl⟩ ?_
    rintro m F wk ⟨rfl, i, rfl, hi, rfl⟩
    refine W_seq ?_
    refine W_seq ?_
    refine W_region ?_
    refine O_go (gn rfl) (St.vl (vl_move rfl) rfl rfl ?_)
    refine O_go (gn rfl) (St.vl (vl_move rfl) rfl rfl ?_)
    refine O_go (gn rfl) (St.vl (vl_len sl35 rfl) rfl rfl ?_)
    refine O_go (gn rfl) (St.vl (vl_lss rfl rfl) rfl rfl ?_)
    refine O_end [0, 2, 3, 4, 5, 6, 7, 85] (F' := [(0, _), (2, _), (3, _), (4, _), (5, _), (6, _), (7, _), (85, _)]) rfl ?_
    refine W_cond rfl (fun hT => ?_) (fun hF => ?_)
    · refine W_skipE ?_
      have hil : i < ls'.length := by have := of_decide_eq_true hT; omega
      have hL : ls'[i]? = some ls'[i] := by simp [hil]
      generalize ls'[i] = L at hL
      have hmem := List.mem_of_getElem? hL
      have h8 := hwy.le L hmem
      have h0 := List.length_pos_iff.2 (hwy.ne L hmem)
      have h3' : 1 < ls'.length → 3 ≤ L.length := fun h => hwdy h L hmem
      obtain ⟨bk, ok, capk, pq, cq, hv, hcell, _⟩ := hk81.at (show (keysOf ls')[i]? = some (L.map (·.1)) by simp [keysOf, hL])
      simp only [Value.slice.injEq] at hv
      obtain ⟨rfl, _, rfl⟩ := hv
      rw [List.length_map] at hcell
      refine W_seq ?_
      refine W_block ?_
      refine W_seq ?_
      by_cases h3 : L.length < 3
      · have h1 : ¬ 1 < ls'.length := fun h => by have := h3' h; omega
        refine W_region ?_
        refine O_go (gn rfl) (St.vl (vl_move rfl) rfl rfl ?_)
        refine O_go (gn rfl) (St.vl (vl_move rfl) rfl rfl ?_)
        refine O_go (gn rfl) (St.vl (vl_indexAddr sl35 sz37 rfl rfl _ rfl hil) rfl rfl ?_)
        refine O_go (gn rfl) (St.vl (vl_load ag37 rfl hcell) rfl rfl ?_)
        refine O_go (gn rfl) (St.vl (vl_len sl37 rfl) rfl rfl ?_)
        refine O_go (gn rfl) (St.vl (vl_is (b' := false) (vl_gtr rfl rfl) (decide_eq_false (by omega))) rfl rfl ?_)
        refine O_go (gn rfl) (St.vl (vl_move rfl) rfl rfl ?_)
        refine O_go (gy rfl rfl rfl) (St.vl (vl_move rfl) rfl rfl ?_)
        refine O_go (gy rfl rfl rfl) (St.vl (vl_move rfl) rfl rfl ?_)
        refine O_go (gy rfl rfl rfl) (St.vl (vl_indexAddr sl35 sz37 rfl rfl _ rfl hil) rfl rfl ?_)
        refine O_go (gy rfl rfl rfl) (St.vl (vl_load ag37 rfl hcell) rfl rfl ?_)
        refine O_go (gy rfl rfl rfl) (St.vl (vl_len sl37 rfl) rfl rfl ?_)
        refine O_go (gy rfl rfl rfl) (St.vl (vl_is (b' := true) (vl_lss rfl rfl) (decide_eq_true (by omega))) rfl rfl ?_)
        refine O_go (gy rfl rfl rfl) (St.vl (vl_move rfl) rfl rfl ?_)
        refine O_go (gy rfl rfl rfl) (St.vl (vl_move rfl) rfl rfl ?_)
        refine O_go (gy rfl rfl rfl) (St.vl (vl_len sl35 rfl) rfl rfl ?_)
        refine O_go (gy rfl rfl rfl) (St.vl (vl_is (b' := false) (vl_gtr rfl rfl) (decide_eq_false (by omega))) rfl rfl ?_)
        refine O_go (gy rfl rfl rfl) (St.vl (vl_pick_t rfl rfl) rfl rfl ?_)
        refine O_go (gn rfl) (St.vl (vl_pick_f rfl rfl) rfl rfl ?_)
        refine O_go (gn rfl) (St.vl (vl_move rfl) rfl rfl ?_)
        refine O_go (gy rfl rfl rfl) (St.vl (vl_move rfl) rfl rfl ?_)
        refine O_go (gy rfl rfl rfl) (St.vl (vl_move rfl) rfl rfl ?_)
        refine O_go (gy rfl rfl rfl) (St.vl (vl_indexAddr sl35 sz37 rfl rfl _ rfl hil) rfl rfl ?_)
        refine O_go (gy rfl rfl rfl) (St.vl (vl_load ag37 rfl hcell) rfl rfl ?_)
        refine O_go (gy rfl rfl rfl) (St.vl (vl_len sl37 rfl) rfl rfl ?_)
        refine O_go (gy rfl rfl rfl) (St.vl (vl_is (b' := false) (vl_ieq rfl rfl) (decide_eq_false (by omega))) rfl rfl ?_)
        refine O_go (gn rfl) (St.vl (vl_pick_f rfl rfl) rfl rfl ?_)
        refine O_end [0, 2, 3, 4, 5, 6, 7, 114] (F' := [(0, _), (2, _), (3, _), (4, _), (5, _), (6, _), (7, _), (114, _)]) rfl ?_
        refine W_cond_false rfl ?_
        refine W_skip ?_
        refine block_normal ?_
        refine W_region ?_
        refine O_go (gn rfl) (St.vl (vl_move rfl) rfl rfl ?_)
        refine O_go (gn rfl) (St.vl (vl_add rfl rfl (by omega)) rfl rfl ?_)
        refine O_go (gn rfl) (St.vl (vl_assign rfl) rfl rfl ?_)
        refine O_endN [0, 2, 3, 4, 5, 6, 7] (F' := [(0, _), (2, _), (3, _), (4, _), (5, _), (6, _), (7, _)]) rfl ?_
        exact ⟨ls'.length - (i + 1), by omega, rfl, i + 1, rfl, by omega, rfl⟩
      · refine W_region ?_
        refine O_go (gn rfl) (St.vl (vl_move rfl) rfl rfl ?_)
        refine O_go (gn rfl) (St.vl (vl_move rfl) rfl rfl ?_)
        refine O_go (gn rfl) (St.vl (vl_indexAddr sl35 sz37 rfl rfl _ rfl hil) rfl rfl ?_)
        refine O_go (gn rfl) (St.vl (vl_load ag37 rfl hcell) rfl rfl ?_)
        refine O_go (gn rfl) (St.vl (vl_len sl37 rfl) rfl rfl ?_)
        refine O_go (gn rfl) (St.vl (vl_is (b' := false) (vl_gtr rfl rfl) (decide_eq_false (by omega))) rfl rfl ?_)
        refine O_go (gn rfl) (St.vl (vl_move rfl) rfl rfl ?_)
        refine O_go (gy rfl rfl rfl) (St.vl (vl_move rfl) rfl rfl ?_)
        refine O_go (gy rfl rfl rfl) (St.vl (vl_move rfl) rfl rfl ?_)
        refine O_go (gy rfl rfl rfl) (St.vl (vl_indexAddr sl35 sz37 rfl rfl _ rfl hil) rfl rfl ?_)
        refine O_go (gy rfl rfl rfl) (St.vl (vl_load ag37 rfl hcell) rfl rfl ?_)
        refine O_go (gy rfl rfl rfl) (St.vl (vl_len sl37 rfl) rfl rfl ?_)
        refine O_go (gy rfl rfl rfl) (St.vl (vl_is (b' := false) (vl_lss rfl rfl) (decide_eq_false (by omega))) rfl rfl ?_)
        refine O_go (gy rfl rfl rfl) (St.vl (vl_move rfl) rfl rfl ?_)
        refine O_guard_no rfl rfl rfl rfl rfl rfl ?_
        refine O_guard_no rfl rfl rfl rfl rfl rfl ?_
        refine O_guard_no rfl rfl rfl rfl rfl rfl ?_
        refine O_go (gy rfl rfl rfl) (St.vl (vl_pick_f rfl rfl) rfl rfl ?_)
        refine O_go (gn rfl) (St.vl (vl_pick_f rfl rfl) rfl rfl ?_)
        refine O_go (gn rfl) (St.vl (vl_move rfl) rfl rfl ?_)
        refine O_go (gy rfl rfl rfl) (St.vl (vl_move rfl) rfl rfl ?_)
        refine O_go (gy rfl rfl rfl) (St.vl (vl_move rfl) rfl rfl ?_)
        refine O_go (gy rfl rfl rfl) (St.vl (vl_indexAddr sl35 sz37 rfl rfl _ rfl hil) rfl rfl ?_)
        refine O_go (gy rfl rfl rfl) (St.vl (vl_load ag37 rfl hcell) rfl rfl ?_)
        refine O_go (gy rfl rfl rfl) (St.vl (vl_len sl37 rfl) rfl rfl ?_)
        refine O_go (gy rfl rfl rfl) (St.vl (vl_is (b' := false) (vl_ieq rfl rfl) (decide_eq_false (by omega))) rfl rfl ?_)
        refine O_go (gn rfl) (St.vl (vl_pick_f rfl rfl) rfl rfl ?_)
        refine O_end [0, 2, 3, 4, 5, 6, 7, 114] (F' := [(0, _), (2, _), (3, _), (4, _), (5, _), (6, _), (7, _), (114, _)]) rfl ?_
        refine W_cond_false rfl ?_
        refine W_skip ?_
        refine block_normal ?_
        refine W_region ?_
        refine O_go (gn rfl) (St.vl (vl_move rfl) rfl rfl ?_)
        refine O_go (gn rfl) (St.vl (vl_add rfl rfl (by omega)) rfl rfl ?_)
        refine O_go (gn rfl) (St.vl (vl_assign rfl) rfl rfl ?_)
        refine O_endN [0, 2, 3, 4, 5, 6, 7] (F' := [(0, _), (2, _), (3, _), (4, _), (5, _), (6, _), (7, _)]) rfl ?_
        exact ⟨ls'.length - (i + 1), by omega, rfl, i + 1, rfl, by omega, rfl⟩
    refine W_exit ?_
    repeat (first | refine then_exit ?_ | refine blockF_other rfl ?_)
    refine blockF_exit _ ?_
    have hd81 := Chg.drew [] wk
    have hes := hty.len hwy.srt
    have hfl := flat_len_le hwy.le ls'.length
    rw [List.take_length] at hfl
    have hwl : 1 < ls'.length → 3 * ls'.length ≤ es'.length := fun h => by rw [hes]; exact hwdy.len h
    have hb4z := hb4y.chg0 c81
    have hmz := hmy.chg0 c81
    refine W_seq ?_
    have hp81 := (hpy.chg0 c81).chg0 hd81
    by_cases hg : (if ((es'.length : Nat) : Int) > 3 then ((es'.length : Nat) : Int) else 3) < 3 * ((ls'.length : Nat) : Int)
    · have h1 : ¬ 1 < ls'.length := fun h => by have := hwl h; split at hg <;> omega
      refine W_draw (fun wz => Chg [] wk wz) mix (by kernel_rfl) hd81 ?_
      refine t_read rfl (gn rfl) (fun wz hz => vl_load ag25 rfl (((hb3y.chg0 c81).chg0 hz).cell' rfl)) rfl rfl ?_
      refine t_st rfl (gn rfl) (st_call bd13 rfl rfl rfl rfl (f13 p ls' _ hp81 hwy.le (by omega)) ?_)
      rintro v116 w116 ⟨rfl, rfl⟩
      refine ⟨.inl hd81, ?_⟩
      refine t_read rfl (gn rfl) (fun wz hz => vl_load ag27 rfl ((hb4z.chg0 hz).cell' rfl)) rfl rfl ?_
      refine t_read rfl (gn rfl) (fun wz hz => vl_mlen mp27 rfl (hmz.chg0 hz)) rfl rfl ?_
      refine t_pure rfl (gn rfl) (fun _ => vl_is (b' := false) (vl_ine rfl rfl) (by rw [hes]; simp)) rfl rfl ?_
      refine t_pure rfl (gn rfl) (fun _ => vl_move rfl) rfl rfl ?_
      refine t_pure rfl (gy rfl rfl rfl) (fun _ => vl_move rfl) rfl rfl ?_
      refine t_pure rfl (gy rfl rfl rfl) (fun _ => vl_len sl35 rfl) rfl rfl ?_
      refine t_pure rfl (gy rfl rfl rfl) (fun _ => vl_mul rfl rfl (by omega)) rfl rfl ?_
      refine t_read rfl (gy rfl rfl rfl) (fun wz hz => vl_load ag27 rfl ((hb4z.chg0 hz).cell' rfl)) rfl rfl ?_
      refine t_read rfl (gy rfl rfl rfl) (fun wz hz => vl_mlen mp27 rfl (hmz.chg0 hz)) rfl rfl ?_
      refine t_pure rfl (gy rfl rfl rfl) (fun _ => vl_max rfl rfl) rfl rfl ?_
      refine t_pure rfl (gy rfl rfl rfl) (fun _ => vl_is (b' := true) (vl_gtr rfl rfl) (decide_eq_true hg)) rfl rfl ?_
      refine t_pure rfl (gy rfl rfl rfl) (fun _ => vl_move rfl) rfl rfl ?_
      refine t_pure rfl (gy rfl rfl rfl) (fun _ => vl_move rfl) rfl rfl ?_
      refine t_pure rfl (gy rfl rfl rfl) (fun _ => vl_len sl35 rfl) rfl rfl ?_
      refine t_pure rfl (gy rfl rfl rfl) (fun _ => vl_is (b' := false) (vl_gtr rfl rfl) (decide_eq_false (by omega))) rfl rfl ?_
      refine t_pure rfl (gy rfl rfl rfl) (fun _ => vl_pick_t rfl rfl) rfl rfl ?_
      refine t_pure rfl (gn rfl) (fun _ => vl_pick_f rfl rfl) rfl rfl ?_
      refine T_end [0, 2, 3, 4, 5, 133] (F' := [(0, _), (2, _), (3, _), (4, _), (5, _), (133, _)]) rfl ?_
      refine W_cond_false rfl ?_
      refine W_skip ?_
      refine block_normal ?_
      refine W_region ?_
      refine O_go (gn rfl) (St.vl (vl_move rfl) rfl rfl ?_)
      refine O_go (gn rfl) (St.vl (vl_add rfl rfl (by omega)) rfl rfl ?_)
      refine O_go (gn rfl) (St.vl (vl_assign rfl) rfl rfl ?_)
      refine O_endN [0, 2, 3, 4, 5] (F' := [(0, _), (2, _), (3, _), (4, _), (5, _)]) rfl ?_
      exact ⟨acts.length - (j + 1), by omega, (hcy.trans c81).trans hd81, j + 1, ls', es', rfl, by omega, rfl, hp81, (hb3y.chg0 c81).chg0 hd81, hb4z.chg0 hd81, hmz.chg0 hd81, (hb2y.chg0 c81).chg0 hd81, hwy, hwdy, hty, hlly⟩
    · refine W_draw (fun wz => Chg [] wk wz) mix (by kernel_rfl) hd81 ?_
      refine t_read rfl (gn rfl) (fun wz hz => vl_load ag25 rfl (((hb3y.chg0 c81).chg0 hz).cell' rfl)) rfl rfl ?_
      refine t_st rfl (gn rfl) (st_call bd13 rfl rfl rfl rfl (f13 p ls' _ hp81 hwy.le (by omega)) ?_)
      rintro v116 w116 ⟨rfl, rfl⟩
      refine ⟨.inl hd81, ?_⟩
      refine t_read rfl (gn rfl) (fun wz hz => vl_load ag27 rfl ((hb4z.chg0 hz).cell' rfl)) rfl rfl ?_
      refine t_read rfl (gn rfl) (fun wz hz => vl_mlen mp27 rfl (hmz.chg0 hz)) rfl rfl ?_
      refine t_pure rfl (gn rfl) (fun _ => vl_is (b' := false) (vl_ine rfl rfl) (by rw [hes]; simp)) rfl rfl ?_
      refine t_pure rfl (gn rfl) (fun _ => vl_move rfl) rfl rfl ?_
      refine t_pure rfl (gy rfl rfl rfl) (fun _ => vl_move rfl) rfl rfl ?_
      refine t_pure rfl (gy rfl rfl rfl) (fun _ => vl_len sl35 rfl) rfl rfl ?_
      refine t_pure rfl (gy rfl rfl rfl) (fun _ => vl_mul rfl rfl (by omega)) rfl rfl ?_
      refine t_read rfl (gy rfl rfl rfl) (fun wz hz => vl_load ag27 rfl ((hb4z.chg0 hz).cell' rfl)) rfl rfl ?_
      refine t_read rfl (gy rfl rfl rfl) (fun wz hz => vl_mlen mp27 rfl (hmz.chg0 hz)) rfl rfl ?_
      refine t_pure rfl (gy rfl rfl rfl) (fun _ => vl_max rfl rfl) rfl rfl ?_
      refine t_pure rfl (gy rfl rfl rfl) (fun _ => vl_is (b' := false) (vl_gtr rfl rfl) (decide_eq_false hg)) rfl rfl ?_
      refine t_pure rfl (gy rfl rfl rfl) (fun _ => vl_move rfl) rfl rfl ?_
      refine t_no rfl rfl rfl rfl rfl rfl ?_
      refine t_no rfl rfl rfl rfl rfl rfl ?_
      refine t_no rfl rfl rfl rfl rfl rfl ?_
      refine t_pure rfl (gy rfl rfl rfl) (fun _ => vl_pick_f rfl rfl) rfl rfl ?_
      refine t_pure rfl (gn rfl) (fun _ => vl_pick_f rfl rfl) rfl rfl ?_
      refine T_end [0, 2, 3, 4, 5, 133] (F' := [(0, _), (2, _), (3, _), (4, _), (5, _), (133, _)]) rfl ?_
      refine W_cond_false rfl ?_
      refine W_skip ?_
      refine block_normal ?_
      refine W_region ?_
      refine O_go (gn rfl) (St.vl (vl_move rfl) rfl rfl ?_)
      refine O_go (gn rfl) (St.vl (vl_add rfl rfl (by omega)) rfl rfl ?_)
      refine O_go (gn rfl) (St.vl (vl_assign rfl) rfl rfl ?_)
      refine O_endN [0, 2, 3, 4, 5] (F' := [(0, _), (2, _), (3, _), (4, _), (5, _)]) rfl ?_
      exact ⟨acts.length - (j + 1), by omega, (hcy.trans c81).trans hd81, j + 1, ls', es', rfl, by omega, rfl, hp81, (hb3y.chg0 c81).chg0 hd81, hb4z.chg0 hd81, hmz.chg0 hd81, (hb2y.chg0 c81).chg0 hd81, hwy, hwdy, hty, hlly⟩
  refine W_exit ?_
  repeat (first | refine then_exit ?_ | refine blockF_other rfl ?_)
  refine blockF_exit _ ?_
  have he : j = acts.length := by have := of_decide_eq_false hF; omega
  have hsx := hcx.size
  have hb2l := hb2.lt
  have hes := ht.len hw.srt
  have hfl := flat_len_le hw.le ls.length
  rw [List.take_length] at hfl
  refine W_seq ?_
  refine W_region ?_
  refine O_go (gn rfl) (St.vl (vl_load ag25 rfl (hb3.cell' rfl)) rfl rfl ?_)
  refine O_go (gn rfl) (st_call bd14 rfl rfl rfl rfl (f14 p ls ⟨#[]⟩ _ hpx (by omega)) ?_)
  rintro v135 w135 ⟨b5, b6, vv, rfl, hb5, hip, hb6, hn6, hn5, c135⟩
  refine O_go (gn rfl) (St.vl (vl_assign rfl) rfl rfl ?_)
  refine O_end [2, 3, 4, 8] (F' := [(2, _), (3, _), (4, _), (8, _)]) rfl ?_
  have hp1 := hpx.chg0 c135
  have hb3 := hb3.chg0 c135
  have hb4 := hb4.chg0 c135
  have hm := hm.chg0 c135
  have hb2 := hb2.chg0 c135
  have hs135 := c135.size
  refine W_seq ?_
  refine W_seq ?_
  refine W_region ?_
  refine O_go (gn rfl) (St.vl (vl_move rfl) rfl rfl ?_)
  refine O_go (gn rfl) (St.vl (vl_fnil fn40 rfl rfl) rfl rfl ?_)
  refine O_end [2, 3, 4, 8, 137] (F' := [(2, _), (3, _), (4, _), (8, _), (137, _)]) rfl ?_
  refine W_cond_false rfl ?_
  refine W_prune [2, 3, 4, 8] rfl ?_
  refine W_skipE ?_
  refine W_seq ?_
  refine W_region ?_
  refine O_go (gn rfl) (st_alloc zr3 rfl rfl ?_)
  intro b9 w9 e9 n9 c9 k9
  refine O_go (gn rfl) (st_store sz3 rfl rfl rfl rfl k9 (by simp) (by intro u hu; simp at hu; subst hu; rfl) ?_)
  intro wC nC cC kC
  refine O_end [2, 3, 4, 8, 9] (F' := [(2, _), (3, _), (4, _), (8, _), (9, _)]) rfl ?_
  have hs9 := c9.size
  have h1C : Chg [] w135 wC := c9.own cC (by intro y hy; simp at hy; omega)
  refine W_seq ?_
  refine W_region ?_
  refine O_go (gn rfl) (st_alloc zr9 rfl rfl ?_)
  intro b10 w10 e10 n10 c10 k10
  refine O_go (gn rfl) (st_store sz9 rfl rfl rfl rfl k10 (by simp) (by intro u hu; simp at hu; subst hu; rfl) ?_)
  intro wD nD cD kD
  refine O_end [2, 3, 4, 8, 9, 10] (F' := [(2, _), (3, _), (4, _), (8, _), (9, _), (10, _)]) rfl ?_
  have hsC := h1C.size
  have hs10 := c10.size
  have hCD : Chg [] wC wD := c10.own cD (by intro y hy; simp at hy; omega)
  have h1D : Chg [] w135 wD := h1C.trans hCD
  have hb9 : Blk wD b9 3 [.int .i64 0] := Blk.chg0 kC hCD
  have hsD := hCD.size
  have hl9 := hb9.lt
  have hl10 := kD.lt
  have hl9C := kC.lt
  generalize hal : ls.flatten.attach = al
  have hmap : al.map Subtype.val = ls.flatten := by rw [← hal]; exact List.attach_map_subtype_val _
  have hal' : al.length = ls.flatten.length := by rw [← hal, List.length_attach]
  have hb6D := hb6.chg0 h1D
  refine W_seq_cut (fun F' w' => ∃ D : Nat, prune [2, 4, 9] F' = [(2, .pointer (some ⟨b2, 0, none⟩)), (4, .pointer (some ⟨b4, 0, none⟩)), (9, .pointer (some ⟨b9, 0, none⟩)), (1000000, .int .i64 D)] ∧ Chg [] w135 w' ∧ Blk w' b9 3 [.int .i64 (ls.flatten.length : Nat)] ∧ wD.heap.size ≤ D ∧ w'.heap[D]? = some (.deferred (some []))) ?_ ?_
  · refine W_seq ?_
    refine W_region ?_
    refine O_go (gn rfl) (St.vl (vl_move rfl) rfl rfl ?_)
    refine O_end [2, 3, 4, 9, 10, 138] (F' := [(2, _), (3, _), (4, _), (9, _), (10, _), (138, _)]) rfl ?_
    refine W_block ?_
    refine W_range (α := {x : Ent // x ∈ ls.flatten}) (gf := 32) (lb := [.pointer (some ⟨b5, 0, none⟩), .pointer (some ⟨b6, 0, none⟩)]) (encs := fun x => #[.string x.val.1, .string x.val.2]) (N := al.length) [b9, b10, b2]
      (fun pre W => Chg [] w135 W ∧ Blk W b9 3 [.int .i64 pre.length] ∧ Blk W b10 9 [.string (lastK Subtype.val pre)] ∧ wD.heap.size ≤ W.heap.size)
      (fun c pre W => match c with
        | .ret => ¬ pre <+: al
        | _ => False)
      (fun x => [(140, .string x.val.2), (139, .string x.val.1), (2, .pointer (some ⟨b2, 0, none⟩)), (3, .pointer (some ⟨b3, 0, none⟩)), (4, .pointer (some ⟨b4, 0, none⟩)), (9, .pointer (some ⟨b9, 0, none⟩)), (10, .pointer (some ⟨b10, 0, none⟩)), (138, .func (.func 32) #[] #[.pointer (some ⟨b5, 0, none⟩), .pointer (some ⟨b6, 0, none⟩)])])
      (fun x => [(2, .pointer (some ⟨b2, 0, none⟩)), (3, .pointer (some ⟨b3, 0, none⟩)), (4, .pointer (some ⟨b4, 0, none⟩)), (9, .pointer (some ⟨b9, 0, none⟩)), (10, .pointer (some ⟨b10, 0, none⟩)), (11, .string x.val.1), (12, .string x.val.2), (139, .string x.val.1), (140, .string x.val.2)]) rfl bd32 ?_
      (f32_seqA Subtype.val al wD b5 b6 vv ls ⟨#[]⟩ [b9, b10, b2] (hb5.chg0 h1D) (hip.chg0 h1D) hb6D (by omega) hw.le ?_ ?_ (by rw [fromP_empty, hmap])) (fun _ => rfl) ?_ ?_ ?_ (fun pre W hI => hI.2.2.2) ?_ ?_ ?_ ?_ ?_
    · intro b hb
      simp at hb
      rcases hb with rfl | rfl | rfl
      · exact hl9
      · exact hl10
      · omega
    · have := hb6.lt
      simp
      omega
    · intro b hb
      simp at hb
      rcases hb with rfl | rfl | rfl
      · exact ⟨3, _, hb9, rfl, rfl⟩
      · exact ⟨9, _, kD, rfl, rfl⟩
      · exact ⟨4, _, hb2.chg0 h1D, rfl, rfl⟩
    · rintro pre W W' T hT hc ⟨g3, g4, g5, g6⟩
      exact ⟨g3.own hc (fun k hk => by have := hT k hk; omega), g4.chg hc (fun hm => by have := hT _ hm; omega), g5.chg hc (fun hm => by have := hT _ hm; omega), Nat.le_trans g6 hc.size⟩
    · rintro c pre W W' T hT hc hx
      cases c with
      | ret => exact hx
      | _ => exact hx.elim
    · exact ⟨h1D, hb9, kD, Nat.le_refl _⟩
    · intro x a ha
      exact ha.vars2 rfl rfl rfl
    · intro l x W
      refine X_seq ?_
      refine X_region ?_
      refine X_go (gn rfl) rfl (St.vl (vl_assign rfl) rfl rfl ?_)
      refine X_end [2, 3, 4, 9, 10, 11, 139, 140] (F' := [(2, _), (3, _), (4, _), (9, _), (10, _), (11, _), (139, _), (140, _)]) rfl ?_
      refine X_region ?_
      refine X_go (gn rfl) rfl (St.vl (vl_assign rfl) rfl rfl ?_)
      refine X_endN [2, 3, 4, 9, 10, 11, 12, 139, 140] (F' := [(2, _), (3, _), (4, _), (9, _), (10, _), (11, _), (12, _), (139, _), (140, _)]) rfl ?_
      exact ⟨rfl, rfl, rfl⟩
    · rintro l pre ⟨x, hx⟩ W ⟨g3, g4, g5, g6⟩ hlen
      have hget : mget es x.1 = some (fv x.2) := (ht.get x.1 (fv x.2)).2 ⟨x.2, hx, rfl⟩
      have hgp : getP ls x.1 = some x.2 := (findE_getP hw x.1).symm.trans (findE_of_mem hw.srt hx)
      have hlW := g3.size
      have hord : pre ≠ [] → (blt x.1 (lastK Subtype.val pre) || decide (x.1 = lastK Subtype.val pre)) = true → ¬ (pre ++ [⟨x, hx⟩]) <+: al := ord_bad (val := Subtype.val) (x := (⟨x, hx⟩ : {x : Ent // x ∈ ls.flatten})) (by rw [hmap]; exact hw.srt)
      refine X_block ?_
      refine X_seq ?_
      refine X_region ?_
      refine X_go (gn rfl) rfl (St.vl (vl_load ag27 rfl ((hb4.chg0 g3).cell' rfl)) rfl rfl ?_)
      refine X_go (gn rfl) rfl (St.vl (vl_move rfl) rfl rfl ?_)
      refine X_go (gn rfl) rfl (St.vl (vl_lookup2 mp27 st9 zr33 rfl rfl (hm.chg0 g3) hget) rfl rfl ?_)
      refine X_go (gn rfl) rfl (St.vl (vl_move rfl) rfl rfl ?_)
      refine X_go (gn rfl) rfl (St.vl (vl_extract rfl rfl) rfl rfl ?_)
      refine X_go (gn rfl) rfl (St.vl (vl_extract rfl rfl) rfl rfl ?_)
      refine X_go (gn rfl) rfl (st_alloc zr33 rfl rfl ?_)
      intro b13 w13 e13 n13 c13 k13
      refine X_go (gn rfl) rfl (st_store sz33 rfl rfl rfl rfl k13 (by simp) (by intro u hu; simp at hu; subst hu; rfl) ?_)
      intro wE nE cE kE
      refine X_go (gn rfl) rfl (St.vl (vl_assign rfl) rfl rfl ?_)
      refine X_end [2, 3, 4, 9, 10, 11, 12, 13, 14, 139, 140] (F' := [(2, _), (3, _), (4, _), (9, _), (10, _), (11, _), (12, _), (13, _), (14, _), (139, _), (140, _)]) rfl ?_
      have hWE : Chg [] W wE := c13.own cE (by intro y hy; simp at hy; omega)
      have hsE := hWE.size
      have h15 := f15 p ls x.1 wE (hp1.chg0 (g3.trans hWE)) hw (by omega)
      rw [hgp] at h15
      refine X_seq ?_
      refine X_region ?_
      refine X_go (gn rfl) rfl (St.vl (vl_load ag25 rfl ((hb3.chg0 (g3.trans hWE)).cell' rfl)) rfl rfl ?_)
      refine X_go (gn rfl) rfl (St.vl (vl_move rfl) rfl rfl ?_)
      refine X_go (gn rfl) rfl (st_call bd15 rfl rfl rfl rfl h15 ?_)
      rintro v150 w150 ⟨rfl, c150⟩
      refine X_go (gn rfl) rfl (St.vl (vl_move rfl) rfl rfl ?_)
      refine X_go (gn rfl) rfl (St.vl (vl_extract rfl rfl) rfl rfl ?_)
      refine X_go (gn rfl) rfl (St.vl (vl_extract rfl rfl) rfl rfl ?_)
      refine X_go (gn rfl) rfl (St.vl (vl_assign rfl) rfl rfl ?_)
      refine X_go (gn rfl) rfl (St.vl (vl_assign rfl) rfl rfl ?_)
      refine X_end [2, 3, 4, 9, 10, 11, 12, 13, 14, 15, 16, 139, 140] (F' := [(2, _), (3, _), (4, _), (9, _), (10, _), (11, _), (12, _), (13, _), (14, _), (15, _), (16, _), (139, _), (140, _)]) rfl ?_
      have hW150 := hWE.trans c150
      have h1150 := g3.trans hW150
      have k13' := Blk.chg0 kE c150
      have g9 := g4.chg0 hW150
      have g10 := g5.chg0 hW150
      have hs150 := hW150.size
      refine X_seq ?_
      refine X_seq ?_
      by_cases hpre : pre = []
      · subst hpre
        refine X_region ?_
        refine X_go (gn rfl) rfl (St.vl (vl_move rfl) rfl rfl ?_)
        refine X_go (gn rfl) rfl (St.vl (vl_not rfl) rfl rfl ?_)
        refine X_go (gn rfl) rfl (St.vl (vl_move rfl) rfl rfl ?_)
        refine X_go (gy rfl rfl rfl) rfl (St.vl (vl_fieldAddr fo33_0 rfl) rfl rfl ?_)
        refine X_go (gy rfl rfl rfl) rfl (St.vl (vl_load ag9 rfl (k13'.cell' rfl)) rfl rfl ?_)
        refine X_go (gy rfl rfl rfl) rfl (St.vl (vl_move rfl) rfl rfl ?_)
        refine X_go (gy rfl rfl rfl) rfl (St.vl (vl_is (b' := false) (vl_sne rfl rfl) (by simp)) rfl rfl ?_)
        refine X_go (gn rfl) rfl (St.vl (vl_pick_f rfl rfl) rfl rfl ?_)
        refine X_go (gn rfl) rfl (St.vl (vl_move rfl) rfl rfl ?_)
        refine X_go (gy rfl rfl rfl) rfl (St.vl (vl_move rfl) rfl rfl ?_)
        refine X_go (gy rfl rfl rfl) rfl (St.vl (vl_move rfl) rfl rfl ?_)
        refine X_go (gy rfl rfl rfl) rfl (St.vl (vl_is (b' := false) (vl_sne rfl rfl) (by simp)) rfl rfl ?_)
        refine X_go (gn rfl) rfl (St.vl (vl_pick_f rfl rfl) rfl rfl ?_)
        refine X_go (gn rfl) rfl (St.vl (vl_move rfl) rfl rfl ?_)
        refine X_go (gy rfl rfl rfl) rfl (St.vl (vl_move rfl) rfl rfl ?_)
        refine X_go (gy rfl rfl rfl) rfl (St.vl (vl_not rfl) rfl rfl ?_)
        refine X_go (gn rfl) rfl (St.vl (vl_pick_f rfl rfl) rfl rfl ?_)
        refine X_go (gn rfl) rfl (St.vl (vl_move rfl) rfl rfl ?_)
        refine X_go (gy rfl rfl rfl) rfl (St.vl (vl_load ag3 rfl (g9.cell' rfl)) rfl rfl ?_)
        refine X_go (gy rfl rfl rfl) rfl (St.vl (vl_is (b' := false) (vl_gtr rfl rfl) (decide_eq_false (by simp))) rfl rfl ?_)
        refine X_go (gy rfl rfl rfl) rfl (St.vl (vl_move rfl) rfl rfl ?_)
        refine X_no rfl rfl rfl rfl rfl rfl ?_
        refine X_no rfl rfl rfl rfl rfl rfl ?_
        refine X_no rfl rfl rfl rfl rfl rfl ?_
        refine X_go (gy rfl rfl rfl) rfl (St.vl (vl_pick_f rfl rfl) rfl rfl ?_)
        refine X_go (gn rfl) rfl (St.vl (vl_pick_f rfl rfl) rfl rfl ?_)
        refine X_end [2, 3, 4, 9, 10, 11, 139, 140, 178] (F' := [(2, _), (3, _), (4, _), (9, _), (10, _), (11, _), (139, _), (140, _), (178, _)]) rfl ?_
        refine X_cond_false rfl ?_
        refine X_prune [2, 3, 4, 9, 10, 11, 139, 140] rfl ?_
        refine X_skipE ?_
        refine X_seq ?_
        refine X_region ?_
        refine X_go (gn rfl) rfl (St.vl (vl_move rfl) rfl rfl ?_)
        refine X_go (gn rfl) rfl (st_store sz9 rfl rfl rfl rfl g10 (by simp) (by intro u hu; simp at hu; subst hu; rfl) ?_)
        intro wG nG cG kG
        refine X_end [2, 3, 4, 9, 10, 139, 140] (F' := [(2, _), (3, _), (4, _), (9, _), (10, _), (139, _), (140, _)]) rfl ?_
        have g9' := g9.chg cG (by simp; omega)
        refine X_region ?_
        refine X_go (gn rfl) rfl (St.vl (vl_load ag3 rfl (g9'.cell' rfl)) rfl rfl ?_)
        refine X_go (gn rfl) rfl (St.vl (vl_add rfl rfl (by omega)) rfl rfl ?_)
        refine X_go (gn rfl) rfl (st_store sz3 rfl rfl rfl rfl g9' (by simp) (by intro u hu; simp at hu; subst hu; rfl) ?_)
        intro wH nH cH kH
        refine X_endN [2, 3, 4, 9, 10, 139, 140] (F' := [(2, _), (3, _), (4, _), (9, _), (10, _), (139, _), (140, _)]) rfl ?_
        refine block_normal ?_
        refine ⟨((hW150.any (S := [b9, b10, b2])).transS (cG.weak (by simp))).transS (cH.weak (by simp)), (h1150.own cG (by intro y hy; simp at hy; omega)).own cH (by intro y hy; simp at hy; omega), ?_, ?_, ?_⟩
        · have e : (((([] : List {x : Ent // x ∈ ls.flatten}) ++ [(⟨x, hx⟩ : {x : Ent // x ∈ ls.flatten})]).length : Nat) : Int) = (([] : List {x : Ent // x ∈ ls.flatten}).length : Nat) + 1 := by simp
          rw [e]
          exact kH
        · have e : lastK Subtype.val (([] : List {x : Ent // x ∈ ls.flatten}) ++ [(⟨x, hx⟩ : {x : Ent // x ∈ ls.flatten})]) = x.1 := by simp [lastK]
          rw [e]
          exact Blk.chg kG cH (by simp; omega)
        · exact Nat.le_trans (Nat.le_trans g6 hs150) (Nat.le_trans cG.size cH.size)
      · have hpos : 0 < pre.length := List.length_pos_iff.2 hpre
        cases hle : (blt x.1 (lastK Subtype.val pre) || decide (x.1 = lastK Subtype.val pre)) with
        | true =>
          refine X_region ?_
          refine X_go (gn rfl) rfl (St.vl (vl_move rfl) rfl rfl ?_)
          refine X_go (gn rfl) rfl (St.vl (vl_not rfl) rfl rfl ?_)
          refine X_go (gn rfl) rfl (St.vl (vl_move rfl) rfl rfl ?_)
          refine X_go (gy rfl rfl rfl) rfl (St.vl (vl_fieldAddr fo33_0 rfl) rfl rfl ?_)
          refine X_go (gy rfl rfl rfl) rfl (St.vl (vl_load ag9 rfl (k13'.cell' rfl)) rfl rfl ?_)
          refine X_go (gy rfl rfl rfl) rfl (St.vl (vl_move rfl) rfl rfl ?_)
          refine X_go (gy rfl rfl rfl) rfl (St.vl (vl_is (b' := false) (vl_sne rfl rfl) (by simp)) rfl rfl ?_)
          refine X_go (gn rfl) rfl (St.vl (vl_pick_f rfl rfl) rfl rfl ?_)
          refine X_go (gn rfl) rfl (St.vl (vl_move rfl) rfl rfl ?_)
          refine X_go (gy rfl rfl rfl) rfl (St.vl (vl_move rfl) rfl rfl ?_)
          refine X_go (gy rfl rfl rfl) rfl (St.vl (vl_move rfl) rfl rfl ?_)
          refine X_go (gy rfl rfl rfl) rfl (St.vl (vl_is (b' := false) (vl_sne rfl rfl) (by simp)) rfl rfl ?_)
          refine X_go (gn rfl) rfl (St.vl (vl_pick_f rfl rfl) rfl rfl ?_)
          refine X_go (gn rfl) rfl (St.vl (vl_move rfl) rfl rfl ?_)
          refine X_go (gy rfl rfl rfl) rfl (St.vl (vl_move rfl) rfl rfl ?_)
          refine X_go (gy rfl rfl rfl) rfl (St.vl (vl_not rfl) rfl rfl ?_)
          refine X_go (gn rfl) rfl (St.vl (vl_pick_f rfl rfl) rfl rfl ?_)
          refine X_go (gn rfl) rfl (St.vl (vl_move rfl) rfl rfl ?_)
          refine X_go (gy rfl rfl rfl) rfl (St.vl (vl_load ag3 rfl (g9.cell' rfl)) rfl rfl ?_)
          refine X_go (gy rfl rfl rfl) rfl (St.vl (vl_is (b' := true) (vl_gtr rfl rfl) (decide_eq_true (by omega))) rfl rfl ?_)
          refine X_go (gy rfl rfl rfl) rfl (St.vl (vl_move rfl) rfl rfl ?_)
          refine X_go (gy rfl rfl rfl) rfl (St.vl (vl_move rfl) rfl rfl ?_)
          refine X_go (gy rfl rfl rfl) rfl (St.vl (vl_load ag9 rfl (g10.cell' rfl)) rfl rfl ?_)
          refine X_go (gy rfl rfl rfl) rfl (St.vl (vl_is (b' := true) (vl_sle rfl rfl) hle) rfl rfl ?_)
          refine X_go (gy rfl rfl rfl) rfl (St.vl (vl_pick_t rfl rfl) rfl rfl ?_)
          refine X_go (gn rfl) rfl (St.vl (vl_pick_f rfl rfl) rfl rfl ?_)
          refine X_end [2, 3, 4, 9, 10, 11, 139, 140, 178] (F' := [(2, _), (3, _), (4, _), (9, _), (10, _), (11, _), (139, _), (140, _), (178, _)]) rfl ?_
          refine X_cond_true rfl ?_
          refine X_seq ?_
          refine X_region ?_
          refine X_go (gn rfl) rfl (st_store sz4 rfl rfl rfl rfl ((hb2.chg0 h1150)) (by simp) (by intro u hu; simp at hu; subst hu; rfl) ?_)
          intro wG nG cG kG
          refine X_end [2] (F' := [(2, _)]) rfl ?_
          refine X_ret ?_
          repeat (first | refine then_ret ?_ | refine block_ret ?_)
          exact ⟨(hW150.any (S := [b9, b10, b2])).transS (cG.weak (by simp)), hord hpre hle⟩
        | false =>
          refine X_region ?_
          refine X_go (gn rfl) rfl (St.vl (vl_move rfl) rfl rfl ?_)
          refine X_go (gn rfl) rfl (St.vl (vl_not rfl) rfl rfl ?_)
          refine X_go (gn rfl) rfl (St.vl (vl_move rfl) rfl rfl ?_)
          refine X_go (gy rfl rfl rfl) rfl (St.vl (vl_fieldAddr fo33_0 rfl) rfl rfl ?_)
          refine X_go (gy rfl rfl rfl) rfl (St.vl (vl_load ag9 rfl (k13'.cell' rfl)) rfl rfl ?_)
          refine X_go (gy rfl rfl rfl) rfl (St.vl (vl_move rfl) rfl rfl ?_)
          refine X_go (gy rfl rfl rfl) rfl (St.vl (vl_is (b' := false) (vl_sne rfl rfl) (by simp)) rfl rfl ?_)
          refine X_go (gn rfl) rfl (St.vl (vl_pick_f rfl rfl) rfl rfl ?_)
          refine X_go (gn rfl) rfl (St.vl (vl_move rfl) rfl rfl ?_)
          refine X_go (gy rfl rfl rfl) rfl (St.vl (vl_move rfl) rfl rfl ?_)
          refine X_go (gy rfl rfl rfl) rfl (St.vl (vl_move rfl) rfl rfl ?_)
          refine X_go (gy rfl rfl rfl) rfl (St.vl (vl_is (b' := false) (vl_sne rfl rfl) (by simp)) rfl rfl ?_)
          refine X_go (gn rfl) rfl (St.vl (vl_pick_f rfl rfl) rfl rfl ?_)
          refine X_go (gn rfl) rfl (St.vl (vl_move rfl) rfl rfl ?_)
          refine X_go (gy rfl rfl rfl) rfl (St.vl (vl_move rfl) rfl rfl ?_)
          refine X_go (gy rfl rfl rfl) rfl (St.vl (vl_not rfl) rfl rfl ?_)
          refine X_go (gn rfl) rfl (St.vl (vl_pick_f rfl rfl) rfl rfl ?_)
          refine X_go (gn rfl) rfl (St.vl (vl_move rfl) rfl rfl ?_)
          refine X_go (gy rfl rfl rfl) rfl (St.vl (vl_load ag3 rfl (g9.cell' rfl)) rfl rfl ?_)
          refine X_go (gy rfl rfl rfl) rfl (St.vl (vl_is (b' := true) (vl_gtr rfl rfl) (decide_eq_true (by omega))) rfl rfl ?_)
          refine X_go (gy rfl rfl rfl) rfl (St.vl (vl_move rfl) rfl rfl ?_)
          refine X_go (gy rfl rfl rfl) rfl (St.vl (vl_move rfl) rfl rfl ?_)
          refine X_go (gy rfl rfl rfl) rfl (St.vl (vl_load ag9 rfl (g10.cell' rfl)) rfl rfl ?_)
          refine X_go (gy rfl rfl rfl) rfl (St.vl (vl_is (b' := false) (vl_sle rfl rfl) hle) rfl rfl ?_)
          refine X_go (gy rfl rfl rfl) rfl (St.vl (vl_pick_t rfl rfl) rfl rfl ?_)
          refine X_go (gn rfl) rfl (St.vl (vl_pick_f rfl rfl) rfl rfl ?_)
          refine X_end [2, 3, 4, 9, 10, 11, 139, 140, 178] (F' := [(2, _), (3, _), (4, _), (9, _), (10, _), (11, _), (139, _), (140, _), (178, _)]) rfl ?_
          refine X_cond_false rfl ?_
          refine X_prune [2, 3, 4, 9, 10, 11, 139, 140] rfl ?_
          refine X_skipE ?_
          refine X_seq ?_
          refine X_region ?_
          refine X_go (gn rfl) rfl (St.vl (vl_move rfl) rfl rfl ?_)
          refine X_go (gn rfl) rfl (st_store sz9 rfl rfl rfl rfl g10 (by simp) (by intro u hu; simp at hu; subst hu; rfl) ?_)
          intro wG nG cG kG
          refine X_end [2, 3, 4, 9, 10, 139, 140] (F' := [(2, _), (3, _), (4, _), (9, _), (10, _), (139, _), (140, _)]) rfl ?_
          have g9' := g9.chg cG (by simp; omega)
          refine X_region ?_
          refine X_go (gn rfl) rfl (St.vl (vl_load ag3 rfl (g9'.cell' rfl)) rfl rfl ?_)
          refine X_go (gn rfl) rfl (St.vl (vl_add rfl rfl (by omega)) rfl rfl ?_)
          refine X_go (gn rfl) rfl (st_store sz3 rfl rfl rfl rfl g9' (by simp) (by intro u hu; simp at hu; subst hu; rfl) ?_)
          intro wH nH cH kH
          refine X_endN [2, 3, 4, 9, 10, 139, 140] (F' := [(2, _), (3, _), (4, _), (9, _), (10, _), (139, _), (140, _)]) rfl ?_
          refine block_normal ?_
          refine ⟨((hW150.any (S := [b9, b10, b2])).transS (cG.weak (by simp))).transS (cH.weak (by simp)), (h1150.own cG (by intro y hy; simp at hy; omega)).own cH (by intro y hy; simp at hy; omega), ?_, ?_, ?_⟩
          · have e : (((pre ++ [(⟨x, hx⟩ : {x : Ent // x ∈ ls.flatten})]).length : Nat) : Int) = (pre.length : Nat) + 1 := by simp
            rw [e]
            exact kH
          · have e : lastK Subtype.val (pre ++ [(⟨x, hx⟩ : {x : Ent // x ∈ ls.flatten})]) = x.1 := by simp [lastK]
            rw [e]
            exact Blk.chg kG cH (by simp; omega)
          · exact Nat.le_trans (Nat.le_trans g6 hs150) (Nat.le_trans cG.size cH.size)
    · rintro D xs W hD hxs ⟨g3, g4, g5, g6⟩ hK
      have hxs' := hxs.symm
      subst hxs'
      refine block_normal ?_
      exact ⟨D, rfl, g3, by rw [← hal']; exact g4, hD, hK⟩
    · rintro D c pre W hD ⟨hne, hpre⟩ hx hK
      cases c with
      | ret => exact absurd hpre hx
      | _ => exact hx.elim
  rintro F' w' ⟨D, hF', g3, g4, hD, hK⟩
  refine W_prune _ hF' ?_
  have hDl : D < w'.heap.size := (Array.getElem?_eq_some_iff.1 hK).1
  refine W_seq ?_
  refine W_region ?_
  refine O_go (gn rfl) (St.vl (vl_load ag3 rfl (g4.cell' rfl)) rfl rfl ?_)
  refine O_go (gn rfl) (St.vl (vl_load ag27 rfl ((hb4.chg0 g3).cell' rfl)) rfl rfl ?_)
  refine O_go (gn rfl) (St.vl (vl_mlen mp27 rfl (hm.chg0 g3)) rfl rfl ?_)
  refine O_go (gn rfl) (St.vl (vl_is (b' := true) (vl_ieq rfl rfl) (decide_eq_true (by rw [hes]))) rfl rfl ?_)
  refine O_go (gn rfl) (St.vl (vl_move rfl) rfl rfl ?_)
  refine O_go (gy rfl rfl rfl) (st_call bd8 rfl rfl rfl rfl (f8 _) ?_)
  rintro v187 w187 ⟨rfl, c187⟩
  refine O_go (gn rfl) (St.vl (vl_pick_t rfl rfl) rfl rfl ?_)
  refine O_go (gn rfl) (st_store sz4 rfl rfl rfl rfl ((hb2.chg0 g3).chg0 c187) (by simp) (by intro u hu; simp at hu; subst hu; rfl) ?_)
  intro wG nG cG kG
  refine O_end [2] (F' := [(2, _), (1000000, _)]) rfl ?_
  refine W_ret ?_
  have hs187 := c187.size
  have hb2l' := hb2.lt
  refine retM1 (v := .bool true) rfl ag4 rfl rfl (D := D) ?_ ?_
  · exact (cG.block D (by omega) (by simp; omega)).trans ((c187.block D hDl (by simp)).trans hK)
  · intro wE cE
    refine ⟨(kG.chg cE (by simp; omega)).cell' rfl, rfl, ?_⟩
    have h1 : Chg [] w wG := (((hcx.trans c135).trans g3).trans c187).own cG (by intro x hx; simp at hx; omega)
    exact h1.own cE (by intro x hx; simp at hx; omega)
end Go.Wk

