/-
  The law's 'is': pages stand as the document's.
-/
import Derived.Test.YthbahcjkncfpdaaP15
namespace Go.Wk
open Go.Proofs
set_option maxRecDepth 10000

theorem length_keysOf (ls : List (List Ent)) : (keysOf ls).length = ls.length := by simp [keysOf]

theorem f17 (p : Nat) (v : Value) (ls : List (List Ent)) (w : World) (hp : Pg w p ls) (hr : RPg w v ls) (hw : WfP ls) (hn : ls.length ≤ 65536) :
    Ret Try.prog 17 #[.pointer (some ⟨p, 0, none⟩), .agg #[v]] w fun r w' => r = .bool true ∧ Chg [] w w' := by
  obtain ⟨va, hsa, _⟩ := id hr
  obtain ⟨q, d, rfl, _⟩ := IsSl.val hsa
  have hkl := length_keysOf ls
  refine Ret.of_W (args := [_, _]) Try.func17 rfl rfl rfl rfl ?_

  refine W_seq ?_
  refine W_region ?_
  refine O_go (gn rfl) (st_box rfl rfl rfl ?_)
  intro b3 w3 e3 n3 c3 k3
  refine O_go (gn rfl) (St.vl (vl_assign rfl) rfl rfl ?_)
  refine O_end [0, 3] (F' := [(0, _), (3, _)]) rfl ?_
  refine W_seq ?_
  refine W_region ?_
  refine O_go (gn rfl) (St.vl (vl_move rfl) rfl rfl ?_)
  refine O_go (gn rfl) (st_call bd12 rfl rfl rfl rfl (f12 p ls _ (hp.chg0 c3) hw.le hn) ?_)
  rintro v11 w11 ⟨hk, c11⟩
  obtain ⟨us', hs1, _⟩ := id hk
  rw [hkl] at hs1
  obtain ⟨pk, ck, rfl, _⟩ := hs1.val
  refine O_go (gn rfl) (St.vl (vl_assign rfl) rfl rfl ?_)
  refine O_end [0, 3, 5] (F' := [(0, _), (3, _), (5, _)]) rfl ?_
  have hc11 : Chg [] w w11 := c3.trans c11
  have hk3 := k3.chg0 c11
  have hp11 := hp.chg0 hc11
  have hr11 := hr.chg0 hc11
  have hd := Chg.drew [] w11
  refine W_seq ?_
  refine W_seq ?_
  refine W_draw (fun wz => Chg [] w11 wz) mix (by kernel_rfl) hd ?_
  refine t_pure rfl (gn rfl) (fun _ => vl_move rfl) rfl rfl ?_
  refine t_pure rfl (gn rfl) (fun _ => vl_len sl35 rfl) rfl rfl ?_
  refine t_pure rfl (gn rfl) (fun _ => vl_fieldAddr fo48_0 rfl) rfl rfl ?_
  refine t_read rfl (gn rfl) (fun wz hz => vl_load ag46 rfl ((hk3.chg0 hz).cell' rfl)) rfl rfl ?_
  refine t_pure rfl (gn rfl) (fun _ => vl_len sl46 rfl) rfl rfl ?_
  refine t_pure rfl (gn rfl) (fun _ => vl_is (b' := false) (vl_ine rfl rfl) (by simp)) rfl rfl ?_
  refine t_pure rfl (gn rfl) (fun _ => vl_move rfl) rfl rfl ?_
  refine t_pure rfl (gy rfl rfl rfl) (fun _ => vl_move rfl) rfl rfl ?_
  refine t_st rfl (gy rfl rfl rfl) (st_call bd13 rfl rfl rfl rfl (f13 p ls _ (hp11.chg0 hd) hw.le hn) ?_)
  rintro v20 w20 ⟨rfl, rfl⟩
  refine ⟨.inl hd, ?_⟩
  refine t_read rfl (gy rfl rfl rfl) (fun wz hz => vl_loadAgg ag48 sz48 rfl rfl (Cells.of_blk0 (hk3.chg0 hz))) rfl rfl ?_
  refine t_st rfl (gy rfl rfl rfl) (st_call bd36 rfl rfl rfl rfl (f36 _ ls _ (hr11.chg0 hd) hw.le hn) ?_)
  rintro v22 w22 ⟨hall, c22⟩
  obtain ⟨pa, ca, rfl, _⟩ := IsSl.val hall
  refine ⟨.inl (hd.trans c22), ?_⟩
  refine t_pure rfl (gy rfl rfl rfl) (fun _ => vl_len sl53 rfl) rfl rfl ?_
  refine t_pure rfl (gy rfl rfl rfl) (fun _ => vl_is (b' := false) (vl_ine rfl rfl) (by simp)) rfl rfl ?_
  refine t_pure rfl (gn rfl) (fun _ => vl_pick_f rfl rfl) rfl rfl ?_
  refine T_end [0, 3, 5, 25] (F' := [(0, _), (3, _), (5, _), (25, _)]) rfl ?_
  refine W_cond_false rfl ?_
  refine W_skipE ?_
  have hc22 : Chg [] w11 w22 := hd.trans c22
  refine W_seq ?_
  refine W_seq ?_
  refine W_region ?_
  refine O_go (gn rfl) (St.vl (vl_assign rfl) rfl rfl ?_)
  refine O_end [0, 3, 5, 6] (F' := [(0, _), (3, _), (5, _), (6, _)]) rfl ?_
  refine W_block ?_
  refine W_loop [0, 3, 5, 6] (fun m F wx => Chg [] w11 wx ∧ ∃ j : Nat, m = ls.length - j ∧ j ≤ ls.length ∧ F = [(0, .pointer (some ⟨p, 0, none⟩)), (3, .pointer (some ⟨b3, 0, none⟩)), (5, .slice pk ls.length ck), (6, .int .i64 j)]) (m := ls.length - 0) ⟨hc22, 0, rfl, Nat.zero_le _, rfl⟩ ?_
  rintro m F wx ⟨hcx, j, rfl, hj, rfl⟩
  refine W_seq ?_
  refine W_seq ?_
  refine W_region ?_
  refine O_go (gn rfl) (St.vl (vl_move rfl) rfl rfl ?_)
  refine O_go (gn rfl) (St.vl (vl_move rfl) rfl rfl ?_)
  refine O_go (gn rfl) (St.vl (vl_len sl35 rfl) rfl rfl ?_)
  refine O_go (gn rfl) (St.vl (vl_lss rfl rfl) rfl rfl ?_)
  refine O_end [0, 3, 5, 6, 29] (F' := [(0, _), (3, _), (5, _), (6, _), (29, _)]) rfl ?_
  refine W_cond rfl (fun hT => ?_) (fun hF => ?_)
  · refine W_skipE ?_
    have hlt : j < ls.length := by simpa using hT
    have hx : ls[j]? = some ls[j] := by simp [hlt]
    have hmem := List.mem_of_getElem? hx
    have h8x := hw.le _ hmem
    generalize ls[j] = x at hx h8x hmem
    have hkx : (keysOf ls)[j]? = some (x.map (·.1)) := by unfold keysOf; rw [List.getElem?_map, hx]; rfl
    obtain ⟨b1, o1, k1, px, cx, hv1, hcx1, hlx⟩ := hk.at hkx
    simp only [Value.slice.injEq] at hv1
    obtain ⟨rfl, _, rfl⟩ := hv1
    rw [List.length_map] at hcx1 hlx
    obtain ⟨b1', o1', k1', py, cy, hv1, hcy1, hly, _⟩ := hr11.at hx
    simp only [Value.slice.injEq] at hv1
    obtain ⟨rfl, _, rfl⟩ := hv1
    refine W_seq ?_
    refine W_block ?_
    refine W_seq ?_
    refine W_seq ?_
    refine W_draw (fun wz => Chg [] w11 wz) mix (by kernel_rfl) (hcx.trans (Chg.drew [] _)) ?_
    refine t_pure rfl (gn rfl) (fun _ => vl_move rfl) rfl rfl ?_
    refine t_pure rfl (gn rfl) (fun _ => vl_move rfl) rfl rfl ?_
    refine t_pure rfl (gn rfl) (fun _ => vl_indexAddr sl35 sz37 rfl rfl _ rfl hlt) rfl rfl ?_
    refine t_read rfl (gn rfl) (fun wz hz => vl_load ag37 rfl (hz.cell hcx1)) rfl rfl ?_
    refine t_pure rfl (gn rfl) (fun _ => vl_len sl37 rfl) rfl rfl ?_
    refine t_pure rfl (gn rfl) (fun _ => vl_fieldAddr fo48_0 rfl) rfl rfl ?_
    refine t_read rfl (gn rfl) (fun wz hz => vl_load ag46 rfl ((hk3.chg0 hz).cell' rfl)) rfl rfl ?_
    refine t_pure rfl (gn rfl) (fun _ => vl_move rfl) rfl rfl ?_
    refine t_pure rfl (gn rfl) (fun _ => vl_indexAddr sl46 sz53 rfl rfl _ rfl hlt) rfl rfl ?_
    refine t_read rfl (gn rfl) (fun wz hz => vl_load ag53 rfl (hz.cell hcy1)) rfl rfl ?_
    refine t_pure rfl (gn rfl) (fun _ => vl_len sl53 rfl) rfl rfl ?_
    refine t_pure rfl (gn rfl) (fun _ => vl_is (b' := false) (vl_ine rfl rfl) (by simp)) rfl rfl ?_
    refine T_end [0, 3, 5, 6, 43] (F' := [(0, _), (3, _), (5, _), (6, _), (43, _)]) rfl ?_
    have hcd := hcx.trans (Chg.drew [] wx)
    generalize wx.drew = wd at hcd
    refine W_cond_false rfl ?_
    refine W_skipE ?_
    refine W_seq ?_
    refine W_region ?_
    refine O_go (gn rfl) (St.vl (vl_assign rfl) rfl rfl ?_)
    refine O_end [0, 3, 5, 6, 7] (F' := [(0, _), (3, _), (5, _), (6, _), (7, _)]) rfl ?_
    refine W_block ?_
    refine W_loop [0, 3, 5, 6, 7] (fun m F wy => Chg [] w11 wy ∧ ∃ i : Nat, m = x.length - i ∧ i ≤ x.length ∧ F = [(0, .pointer (some ⟨p, 0, none⟩)), (3, .pointer (some ⟨b3, 0, none⟩)), (5, .slice (some ⟨b1, o1, none⟩) ls.length ck), (6, .int .i64 j), (7, .int .i64 i)]) (m := x.length - 0) ⟨hcd, 0, rfl, Nat.zero_le _, rfl⟩ ?_
    rintro m F wy ⟨hcy, i, rfl, hi, rfl⟩
    refine W_seq ?_
    refine W_seq ?_
    refine W_region ?_
    refine O_go (gn rfl) (St.vl (vl_move rfl) rfl rfl ?_)
    refine O_go (gn rfl) (St.vl (vl_move rfl) rfl rfl ?_)
    refine O_go (gn rfl) (St.vl (vl_move rfl) rfl rfl ?_)
    refine O_go (gn rfl) (St.vl (vl_indexAddr sl35 sz37 rfl rfl _ rfl hlt) rfl rfl ?_)
    refine O_go (gn rfl) (St.vl (vl_load ag37 rfl (hcy.cell hcx1)) rfl rfl ?_)
    refine O_go (gn rfl) (St.vl (vl_len sl37 rfl) rfl rfl ?_)
    refine O_go (gn rfl) (St.vl (vl_lss rfl rfl) rfl rfl ?_)
    refine O_end [0, 3, 5, 6, 7, 50] (F' := [(0, _), (3, _), (5, _), (6, _), (7, _), (50, _)]) rfl ?_
    refine W_cond rfl (fun hT => ?_) (fun hF => ?_)
    · refine W_skipE ?_
      have hlti : i < x.length := by simpa using hT
      have hea : x[i]? = some x[i] := by simp [hlti]
      generalize x[i] = s at hea
      obtain ⟨s1, s2⟩ := s
      have hg : getP ls s1 = some s2 := by
        rw [← findE_getP hw]
        exact findE_of_mem hw.srt (List.mem_flatten.2 ⟨x, hmem, List.mem_of_getElem? hea⟩)
      obtain ⟨bs, os, ks, us, hvs, hus, hcs⟩ := hlx.at1 hlti
      simp only [Value.slice.injEq] at hvs
      obtain ⟨rfl, _, rfl⟩ := hvs
      rw [List.getElem?_map, List.getElem?_map, hea] at hus
      simp only [Option.map_some, Option.some.injEq] at hus
      subst hus
      obtain ⟨bt, ot, kt, hvt, hct⟩ := hly.at' hea
      simp only [Value.slice.injEq] at hvt
      obtain ⟨rfl, _, rfl⟩ := hvt
      have h15 := f15 p ls s1 wy (hp11.chg0 hcy) hw hn
      rw [hg] at h15
      refine W_seq ?_
      refine W_block ?_
      refine W_seq ?_
      refine W_region ?_
      refine O_go (gn rfl) (St.vl (vl_move rfl) rfl rfl ?_)
      refine O_go (gn rfl) (St.vl (vl_move rfl) rfl rfl ?_)
      refine O_go (gn rfl) (St.vl (vl_move rfl) rfl rfl ?_)
      refine O_go (gn rfl) (St.vl (vl_indexAddr sl35 sz37 rfl rfl _ rfl hlt) rfl rfl ?_)
      refine O_go (gn rfl) (St.vl (vl_load ag37 rfl (hcy.cell hcx1)) rfl rfl ?_)
      refine O_go (gn rfl) (St.vl (vl_move rfl) rfl rfl ?_)
      refine O_go (gn rfl) (St.vl (vl_indexAddr sl37 sz9 rfl rfl _ rfl hlti) rfl rfl ?_)
      refine O_go (gn rfl) (St.vl (vl_load ag9 rfl (hcy.cell hcs)) rfl rfl ?_)
      refine O_go (gn rfl) (st_call bd15 rfl rfl rfl rfl h15 ?_)
      rintro v62 w62 ⟨rfl, c62⟩
      refine O_go (gn rfl) (St.vl (vl_move rfl) rfl rfl ?_)
      refine O_go (gn rfl) (St.vl (vl_extract rfl rfl) rfl rfl ?_)
      refine O_go (gn rfl) (St.vl (vl_extract rfl rfl) rfl rfl ?_)
      refine O_go (gn rfl) (St.vl (vl_assign rfl) rfl rfl ?_)
      refine O_go (gn rfl) (St.vl (vl_assign rfl) rfl rfl ?_)
      refine O_end [0, 3, 5, 6, 7, 8, 9] (F' := [(0, _), (3, _), (5, _), (6, _), (7, _), (8, _), (9, _)]) rfl ?_
      have hcy2 := (hcy.trans c62).trans (Chg.drew [] w62)
      refine W_seq ?_
      refine W_draw (fun wz => Chg [] w11 wz) mix (by kernel_rfl) hcy2 ?_
      refine t_pure rfl (gn rfl) (fun _ => vl_move rfl) rfl rfl ?_
      refine t_pure rfl (gn rfl) (fun _ => vl_move rfl) rfl rfl ?_
      refine t_pure rfl (gn rfl) (fun _ => vl_indexAddr sl35 sz37 rfl rfl _ rfl hlt) rfl rfl ?_
      refine t_read rfl (gn rfl) (fun wz hz => vl_load ag37 rfl (hz.cell hcx1)) rfl rfl ?_
      refine t_pure rfl (gn rfl) (fun _ => vl_move rfl) rfl rfl ?_
      refine t_pure rfl (gn rfl) (fun _ => vl_indexAddr sl37 sz9 rfl rfl _ rfl hlti) rfl rfl ?_
      refine t_read rfl (gn rfl) (fun wz hz => vl_load ag9 rfl (hz.cell hcs)) rfl rfl ?_
      refine t_pure rfl (gn rfl) (fun _ => vl_fieldAddr fo48_0 rfl) rfl rfl ?_
      refine t_read rfl (gn rfl) (fun wz hz => vl_load ag46 rfl ((hk3.chg0 hz).cell' rfl)) rfl rfl ?_
      refine t_pure rfl (gn rfl) (fun _ => vl_move rfl) rfl rfl ?_
      refine t_pure rfl (gn rfl) (fun _ => vl_indexAddr sl46 sz53 rfl rfl _ rfl hlt) rfl rfl ?_
      refine t_read rfl (gn rfl) (fun wz hz => vl_load ag53 rfl (hz.cell hcy1)) rfl rfl ?_
      refine t_pure rfl (gn rfl) (fun _ => vl_move rfl) rfl rfl ?_
      refine t_pure rfl (gn rfl) (fun _ => vl_indexAddr sl53 sz57 rfl rfl _ rfl hlti) rfl rfl ?_
      refine t_pure rfl (gn rfl) (fun _ => vl_fieldAddr fo57_0 rfl) rfl rfl ?_
      refine t_read rfl (gn rfl) (fun wz hz => vl_load ag9 rfl (hct.chg0 hz 0 _ rfl)) rfl rfl ?_
      refine t_pure rfl (gn rfl) (fun _ => vl_is (b' := false) (vl_sne rfl rfl) (by simp)) rfl rfl ?_
      refine t_pure rfl (gn rfl) (fun _ => vl_move rfl) rfl rfl ?_
      refine t_pure rfl (gy rfl rfl rfl) (fun _ => vl_move rfl) rfl rfl ?_
      refine t_pure rfl (gy rfl rfl rfl) (fun _ => vl_fieldAddr fo48_0 rfl) rfl rfl ?_
      refine t_read rfl (gy rfl rfl rfl) (fun wz hz => vl_load ag46 rfl ((hk3.chg0 hz).cell' rfl)) rfl rfl ?_
      refine t_pure rfl (gy rfl rfl rfl) (fun _ => vl_move rfl) rfl rfl ?_
      refine t_pure rfl (gy rfl rfl rfl) (fun _ => vl_indexAddr sl46 sz53 rfl rfl _ rfl hlt) rfl rfl ?_
      refine t_read rfl (gy rfl rfl rfl) (fun wz hz => vl_load ag53 rfl (hz.cell hcy1)) rfl rfl ?_
      refine t_pure rfl (gy rfl rfl rfl) (fun _ => vl_move rfl) rfl rfl ?_
      refine t_pure rfl (gy rfl rfl rfl) (fun _ => vl_indexAddr sl53 sz57 rfl rfl _ rfl hlti) rfl rfl ?_
      refine t_pure rfl (gy rfl rfl rfl) (fun _ => vl_fieldAddr fo57_1 rfl) rfl rfl ?_
      refine t_read rfl (gy rfl rfl rfl) (fun wz hz => vl_load ag9 rfl (hct.chg0 hz 1 _ rfl)) rfl rfl ?_
      refine t_pure rfl (gy rfl rfl rfl) (fun _ => vl_is (b' := false) (vl_sne rfl rfl) (by simp)) rfl rfl ?_
      refine t_pure rfl (gn rfl) (fun _ => vl_pick_f rfl rfl) rfl rfl ?_
      refine t_pure rfl (gn rfl) (fun _ => vl_move rfl) rfl rfl ?_
      refine t_pure rfl (gy rfl rfl rfl) (fun _ => vl_move rfl) rfl rfl ?_
      refine t_pure rfl (gy rfl rfl rfl) (fun _ => vl_not rfl) rfl rfl ?_
      refine t_pure rfl (gn rfl) (fun _ => vl_pick_f rfl rfl) rfl rfl ?_
      refine T_end [0, 3, 5, 6, 7, 98] (F' := [(0, _), (3, _), (5, _), (6, _), (7, _), (98, _)]) rfl ?_
      refine W_cond_false rfl ?_
      refine W_skip ?_
      refine block_normal ?_
      refine W_region ?_
      refine O_go (gn rfl) (St.vl (vl_move rfl) rfl rfl ?_)
      refine O_go (gn rfl) (St.vl (vl_add rfl rfl (by omega)) rfl rfl ?_)
      refine O_go (gn rfl) (St.vl (vl_assign rfl) rfl rfl ?_)
      refine O_endN [0, 3, 5, 6, 7] (F' := [(0, _), (3, _), (5, _), (6, _), (7, _)]) rfl ?_
      exact ⟨x.length - (i + 1), by omega, hcy2, i + 1, rfl, by omega, rfl⟩
    · refine W_exit ?_
      repeat (first | refine then_exit ?_ | refine blockF_other rfl ?_)
      refine blockF_exit _ ?_
      refine block_normal ?_
      refine W_region ?_
      refine O_go (gn rfl) (St.vl (vl_move rfl) rfl rfl ?_)
      refine O_go (gn rfl) (St.vl (vl_add rfl rfl (by omega)) rfl rfl ?_)
      refine O_go (gn rfl) (St.vl (vl_assign rfl) rfl rfl ?_)
      refine O_endN [0, 3, 5, 6] (F' := [(0, _), (3, _), (5, _), (6, _)]) rfl ?_
      exact ⟨ls.length - (j + 1), by omega, hcy, j + 1, rfl, by omega, rfl⟩
  · refine W_exit ?_
    repeat (first | refine then_exit ?_ | refine blockF_other rfl ?_)
    refine blockF_exit _ ?_
    refine W_seq ?_
    refine W_region ?_
    refine O_go (gn rfl) (St.vl (vl_assign rfl) rfl rfl ?_)
    refine O_end [4] (F' := [(4, _)]) rfl ?_
    refine W_ret ?_
    refine ret1 rfl rfl ?_
    exact ⟨rfl, hc11.trans hcx⟩
end Go.Wk

