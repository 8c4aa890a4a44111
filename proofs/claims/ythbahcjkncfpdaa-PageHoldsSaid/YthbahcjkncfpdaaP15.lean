/-
  The document's pages: Same.
-/
import Derived.Test.YthbahcjkncfpdaaP14
namespace Go.Wk
open Go.Proofs
set_option maxRecDepth 10000

theorem tw57 : two9 Try.prog 57 = true := by kernel_rfl

theorem f21 (v u : Value) (a b : List (List Ent)) (w : World) (ha : RPg w v a) (hb : RPg w u b) (h8 : ∀ l ∈ a, l.length ≤ 8) (hn : a.length ≤ 65536) :
    Ret Try.prog 21 #[.agg #[v], .agg #[u]] w fun r w' => r = .bool (decide (a = b)) ∧ Chg [] w w' := by
  obtain ⟨va, hsa, _⟩ := id ha
  obtain ⟨vb, hsb, _⟩ := id hb
  obtain ⟨p, c, rfl, _⟩ := IsSl.val hsa
  obtain ⟨q, d, rfl, _⟩ := IsSl.val hsb
  refine Ret.of_W (args := [_, _]) Try.func21 rfl rfl rfl rfl ?_

  refine W_seq ?_
  refine W_region ?_
  refine O_go (gn rfl) (st_box rfl rfl rfl ?_)
  intro b2 w2 e2 n2 c2 k2
  refine O_go (gn rfl) (st_box rfl rfl rfl ?_)
  intro b3 w3 e3 n3 c3 k3
  refine O_go (gn rfl) (St.vl (vl_assign rfl) rfl rfl ?_)
  refine O_end [2, 3] (F' := [(2, _), (3, _)]) rfl ?_
  have hc3 : Chg [] w w3 := c2.trans c3
  have hk2 := k2.chg0 c3
  refine W_seq ?_
  refine W_seq ?_
  refine W_region ?_
  refine O_go (gn rfl) (St.vl (vl_fieldAddr fo48_0 rfl) rfl rfl ?_)
  refine O_go (gn rfl) (St.vl (vl_load ag46 rfl (hk2.cell' rfl)) rfl rfl ?_)
  refine O_go (gn rfl) (St.vl (vl_len sl46 rfl) rfl rfl ?_)
  refine O_go (gn rfl) (St.vl (vl_fieldAddr fo48_0 rfl) rfl rfl ?_)
  refine O_go (gn rfl) (St.vl (vl_load ag46 rfl (k3.cell' rfl)) rfl rfl ?_)
  refine O_go (gn rfl) (St.vl (vl_len sl46 rfl) rfl rfl ?_)
  refine O_go (gn rfl) (St.vl (vl_ine rfl rfl) rfl rfl ?_)
  refine O_end [2, 3, 13] (F' := [(2, _), (3, _), (13, _)]) rfl ?_
  refine W_cond rfl (fun hT => ?_) (fun hF => ?_)
  · refine W_seq ?_
    refine W_region ?_
    refine O_go (gn rfl) (St.vl (vl_assign rfl) rfl rfl ?_)
    refine O_end [4] (F' := [(4, _)]) rfl ?_
    refine W_ret ?_
    refine then_ret ?_
    refine ret1 rfl rfl ?_
    refine ⟨?_, hc3⟩
    rw [decide_eq_false]
    rintro rfl
    simp at hT
  refine W_skipE ?_
  have hlen : a.length = b.length := by
    have : ((a.length : Nat) : Int) = (b.length : Nat) := by simpa using hF
    omega
  refine W_seq ?_
  refine W_seq ?_
  refine W_region ?_
  refine O_go (gn rfl) (St.vl (vl_assign rfl) rfl rfl ?_)
  refine O_end [2, 3, 5] (F' := [(2, _), (3, _), (5, _)]) rfl ?_
  refine W_block ?_
  refine W_loop [2, 3, 5] (fun m F wx => Chg [] w3 wx ∧ ∃ j : Nat, m = a.length - j ∧ j ≤ a.length ∧ a.take j = b.take j ∧ F = [(2, .pointer (some ⟨b2, 0, none⟩)), (3, .pointer (some ⟨b3, 0, none⟩)), (5, .int .i64 j)]) (m := a.length - 0) ⟨Chg.refl _ _, 0, rfl, Nat.zero_le _, rfl, rfl⟩ ?_
  rintro m F wx ⟨hcx, j, rfl, hj, htk, rfl⟩
  refine W_seq ?_
  refine W_seq ?_
  refine W_region ?_
  refine O_go (gn rfl) (St.vl (vl_move rfl) rfl rfl ?_)
  refine O_go (gn rfl) (St.vl (vl_fieldAddr fo48_0 rfl) rfl rfl ?_)
  refine O_go (gn rfl) (St.vl (vl_load ag46 rfl ((hk2.chg0 hcx).cell' rfl)) rfl rfl ?_)
  refine O_go (gn rfl) (St.vl (vl_len sl46 rfl) rfl rfl ?_)
  refine O_go (gn rfl) (St.vl (vl_lss rfl rfl) rfl rfl ?_)
  refine O_end [2, 3, 5, 18] (F' := [(2, _), (3, _), (5, _), (18, _)]) rfl ?_
  refine W_cond rfl (fun hT => ?_) (fun hF => ?_)
  · refine W_skipE ?_
    have hlt : j < a.length := by simpa using hT
    have hlt2 : j < b.length := by omega
    have hxa : a[j]? = some a[j] := by simp [hlt]
    have hxb : b[j]? = some b[j] := by simp [hlt2]
    have h8x := h8 _ (List.mem_of_getElem? hxa)
    generalize a[j] = x at hxa h8x
    generalize b[j] = y at hxb
    obtain ⟨b1, o1, k1, px, cx, hv1, hcx1, hlx, _⟩ := (ha.chg0 hc3).at hxa
    simp only [Value.slice.injEq] at hv1
    obtain ⟨rfl, _, rfl⟩ := hv1
    obtain ⟨b1', o1', k1', py, cy, hv1, hcy1, hly, _⟩ := (hb.chg0 hc3).at hxb
    simp only [Value.slice.injEq] at hv1
    obtain ⟨rfl, _, rfl⟩ := hv1
    refine W_seq ?_
    refine W_block ?_
    refine W_seq ?_
    refine W_seq ?_
    refine W_draw (fun wz => Chg [] w3 wz) mix (by kernel_rfl) (hcx.trans (Chg.drew [] _)) ?_
    refine t_pure rfl (gn rfl) (fun _ => vl_fieldAddr fo48_0 rfl) rfl rfl ?_
    refine t_read rfl (gn rfl) (fun wz hz => vl_load ag46 rfl ((hk2.chg0 hz).cell' rfl)) rfl rfl ?_
    refine t_pure rfl (gn rfl) (fun _ => vl_move rfl) rfl rfl ?_
    refine t_pure rfl (gn rfl) (fun _ => vl_indexAddr sl46 sz53 rfl rfl _ rfl hlt) rfl rfl ?_
    refine t_read rfl (gn rfl) (fun wz hz => vl_load ag53 rfl (hz.cell hcx1)) rfl rfl ?_
    refine t_pure rfl (gn rfl) (fun _ => vl_len sl53 rfl) rfl rfl ?_
    refine t_pure rfl (gn rfl) (fun _ => vl_fieldAddr fo48_0 rfl) rfl rfl ?_
    refine t_read rfl (gn rfl) (fun wz hz => vl_load ag46 rfl ((k3.chg0 hz).cell' rfl)) rfl rfl ?_
    refine t_pure rfl (gn rfl) (fun _ => vl_move rfl) rfl rfl ?_
    refine t_pure rfl (gn rfl) (fun _ => vl_indexAddr sl46 sz53 rfl rfl _ rfl hlt2) rfl rfl ?_
    refine t_read rfl (gn rfl) (fun wz hz => vl_load ag53 rfl (hz.cell hcy1)) rfl rfl ?_
    refine t_pure rfl (gn rfl) (fun _ => vl_len sl53 rfl) rfl rfl ?_
    refine t_pure rfl (gn rfl) (fun _ => vl_ine rfl rfl) rfl rfl ?_
    refine T_end [2, 3, 5, 33] (F' := [(2, _), (3, _), (5, _), (33, _)]) rfl ?_
    have hcd := hcx.trans (Chg.drew [] wx)
    generalize wx.drew = wd at hcd
    refine W_cond rfl (fun hT => ?_) (fun hF => ?_)
    · refine W_seq ?_
      refine W_region ?_
      refine O_go (gn rfl) (St.vl (vl_assign rfl) rfl rfl ?_)
      refine O_end [4] (F' := [(4, _)]) rfl ?_
      refine W_ret ?_
      repeat (first | refine then_ret ?_ | refine block_ret ?_)
      refine ret1 rfl rfl ?_
      refine ⟨?_, hc3.trans hcd⟩
      rw [decide_eq_false]
      rintro rfl
      rw [hxa] at hxb
      simp only [Option.some.injEq] at hxb
      simp [hxb] at hT
    refine W_skipE ?_
    have hlen2 : x.length = y.length := by
      have : ((x.length : Nat) : Int) = (y.length : Nat) := by simpa using hF
      omega
    refine W_seq ?_
    refine W_region ?_
    refine O_go (gn rfl) (St.vl (vl_assign rfl) rfl rfl ?_)
    refine O_end [2, 3, 5, 6] (F' := [(2, _), (3, _), (5, _), (6, _)]) rfl ?_
    refine W_block ?_
    refine W_loop [2, 3, 5, 6] (fun m F wy => Chg [] w3 wy ∧ ∃ i : Nat, m = x.length - i ∧ i ≤ x.length ∧ x.take i = y.take i ∧ F = [(2, .pointer (some ⟨b2, 0, none⟩)), (3, .pointer (some ⟨b3, 0, none⟩)), (5, .int .i64 j), (6, .int .i64 i)]) (m := x.length - 0) ⟨hcd, 0, rfl, Nat.zero_le _, rfl, rfl⟩ ?_
    rintro m F wy ⟨hcy, i, rfl, hi, htk2, rfl⟩
    refine W_seq ?_
    refine W_seq ?_
    refine W_region ?_
    refine O_go (gn rfl) (St.vl (vl_move rfl) rfl rfl ?_)
    refine O_go (gn rfl) (St.vl (vl_fieldAddr fo48_0 rfl) rfl rfl ?_)
    refine O_go (gn rfl) (St.vl (vl_load ag46 rfl ((hk2.chg0 hcy).cell' rfl)) rfl rfl ?_)
    refine O_go (gn rfl) (St.vl (vl_move rfl) rfl rfl ?_)
    refine O_go (gn rfl) (St.vl (vl_indexAddr sl46 sz53 rfl rfl _ rfl hlt) rfl rfl ?_)
    refine O_go (gn rfl) (St.vl (vl_load ag53 rfl (hcy.cell hcx1)) rfl rfl ?_)
    refine O_go (gn rfl) (St.vl (vl_len sl53 rfl) rfl rfl ?_)
    refine O_go (gn rfl) (St.vl (vl_lss rfl rfl) rfl rfl ?_)
    refine O_end [2, 3, 5, 6, 41] (F' := [(2, _), (3, _), (5, _), (6, _), (41, _)]) rfl ?_
    refine W_cond rfl (fun hT => ?_) (fun hF => ?_)
    · refine W_skipE ?_
      have hlti : i < x.length := by simpa using hT
      have hlti2 : i < y.length := by omega
      have hea : x[i]? = some x[i] := by simp [hlti]
      have heb : y[i]? = some y[i] := by simp [hlti2]
      generalize x[i] = s at hea
      generalize y[i] = t at heb
      obtain ⟨s1, s2⟩ := s
      obtain ⟨t1, t2⟩ := t
      obtain ⟨bs, os, ks, hvs, hcs⟩ := hlx.at' hea
      simp only [Value.slice.injEq] at hvs
      obtain ⟨rfl, _, rfl⟩ := hvs
      obtain ⟨bt, ot, kt, hvt, hct⟩ := hly.at' heb
      simp only [Value.slice.injEq] at hvt
      obtain ⟨rfl, _, rfl⟩ := hvt
      refine W_seq ?_
      refine W_block ?_
      refine W_seq ?_
      refine W_draw (fun wz => Chg [] w3 wz) mix (by kernel_rfl) (hcy.trans (Chg.drew [] _)) ?_
      refine t_pure rfl (gn rfl) (fun _ => vl_fieldAddr fo48_0 rfl) rfl rfl ?_
      refine t_read rfl (gn rfl) (fun wz hz => vl_load ag46 rfl ((hk2.chg0 hz).cell' rfl)) rfl rfl ?_
      refine t_pure rfl (gn rfl) (fun _ => vl_move rfl) rfl rfl ?_
      refine t_pure rfl (gn rfl) (fun _ => vl_indexAddr sl46 sz53 rfl rfl _ rfl hlt) rfl rfl ?_
      refine t_read rfl (gn rfl) (fun wz hz => vl_load ag53 rfl (hz.cell hcx1)) rfl rfl ?_
      refine t_pure rfl (gn rfl) (fun _ => vl_move rfl) rfl rfl ?_
      refine t_pure rfl (gn rfl) (fun _ => vl_indexAddr sl53 sz57 rfl rfl _ rfl hlti) rfl rfl ?_
      refine t_read rfl (gn rfl) (fun wz hz => vl_loadAgg ag57 sz57 rfl rfl (hcs.chg0 hz)) rfl rfl ?_
      refine t_pure rfl (gn rfl) (fun _ => vl_fieldAddr fo48_0 rfl) rfl rfl ?_
      refine t_read rfl (gn rfl) (fun wz hz => vl_load ag46 rfl ((k3.chg0 hz).cell' rfl)) rfl rfl ?_
      refine t_pure rfl (gn rfl) (fun _ => vl_move rfl) rfl rfl ?_
      refine t_pure rfl (gn rfl) (fun _ => vl_indexAddr sl46 sz53 rfl rfl _ rfl hlt2) rfl rfl ?_
      refine t_read rfl (gn rfl) (fun wz hz => vl_load ag53 rfl (hz.cell hcy1)) rfl rfl ?_
      refine t_pure rfl (gn rfl) (fun _ => vl_move rfl) rfl rfl ?_
      refine t_pure rfl (gn rfl) (fun _ => vl_indexAddr sl53 sz57 rfl rfl _ rfl hlti2) rfl rfl ?_
      refine t_read rfl (gn rfl) (fun wz hz => vl_loadAgg ag57 sz57 rfl rfl (hct.chg0 hz)) rfl rfl ?_
      refine t_pure rfl (gn rfl) (fun _ => vl_ne2 tw57 rfl rfl) rfl rfl ?_
      refine T_end [2, 3, 5, 6, 60] (F' := [(2, _), (3, _), (5, _), (6, _), (60, _)]) rfl ?_
      have hcd := hcy.trans (Chg.drew [] wy)
      generalize wy.drew = wd at hcd
      refine W_cond rfl (fun hT => ?_) (fun hF => ?_)
      · refine W_seq ?_
        refine W_region ?_
        refine O_go (gn rfl) (St.vl (vl_assign rfl) rfl rfl ?_)
        refine O_end [4] (F' := [(4, _)]) rfl ?_
        refine W_ret ?_
        repeat (first | refine then_ret ?_ | refine block_ret ?_)
        refine ret1 rfl rfl ?_
        refine ⟨?_, hc3.trans hcd⟩
        rw [decide_eq_false]
        rintro rfl
        rw [hxa] at hxb
        simp only [Option.some.injEq] at hxb
        subst hxb
        rw [hea] at heb
        simp only [Option.some.injEq, Prod.mk.injEq] at heb
        simp [heb.1, heb.2] at hT
      · refine W_skip ?_
        refine block_normal ?_
        refine W_region ?_
        refine O_go (gn rfl) (St.vl (vl_move rfl) rfl rfl ?_)
        refine O_go (gn rfl) (St.vl (vl_add rfl rfl (by omega)) rfl rfl ?_)
        refine O_go (gn rfl) (St.vl (vl_assign rfl) rfl rfl ?_)
        refine O_endN [2, 3, 5, 6] (F' := [(2, _), (3, _), (5, _), (6, _)]) rfl ?_
        have he : s1 = t1 ∧ s2 = t2 := by simpa using hF
        obtain ⟨rfl, rfl⟩ := he
        exact ⟨x.length - (i + 1), by omega, hcd, i + 1, rfl, by omega, take_succ_eq htk2 hea heb, rfl⟩
    · refine W_exit ?_
      repeat (first | refine then_exit ?_ | refine blockF_other rfl ?_)
      refine blockF_exit _ ?_
      have he : i = x.length := by
        have : ¬ (i < x.length) := by simpa using hF
        omega
      subst he
      have hxy := eq_of_takes hlen2 htk2
      subst hxy
      refine block_normal ?_
      refine W_region ?_
      refine O_go (gn rfl) (St.vl (vl_move rfl) rfl rfl ?_)
      refine O_go (gn rfl) (St.vl (vl_add rfl rfl (by omega)) rfl rfl ?_)
      refine O_go (gn rfl) (St.vl (vl_assign rfl) rfl rfl ?_)
      refine O_endN [2, 3, 5] (F' := [(2, _), (3, _), (5, _)]) rfl ?_
      exact ⟨a.length - (j + 1), by omega, hcy, j + 1, rfl, by omega, take_succ_eq htk hxa hxb, rfl⟩
  · refine W_exit ?_
    repeat (first | refine then_exit ?_ | refine blockF_other rfl ?_)
    refine blockF_exit _ ?_
    have he : j = a.length := by
      have : ¬ (j < a.length) := by simpa using hF
      omega
    subst he
    refine W_seq ?_
    refine W_region ?_
    refine O_go (gn rfl) (St.vl (vl_assign rfl) rfl rfl ?_)
    refine O_end [4] (F' := [(4, _)]) rfl ?_
    refine W_ret ?_
    refine ret1 rfl rfl ?_
    refine ⟨?_, hc3.trans hcx⟩
    rw [decide_eq_true (eq_of_takes hlen htk)]
end Go.Wk

