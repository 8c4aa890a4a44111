/-
  Same: lists, pages, pointers.
-/
import Derived.Test.YthbahcjkncfpdaaP9
namespace Go.Wk
open Go.Proofs
set_option maxRecDepth 10000

theorem tw69 : two9 Try.prog 69 = true := by kernel_rfl

theorem eq_of_takes {α : Type} {a b : List α} (hl : a.length = b.length) (h : a.take a.length = b.take a.length) : a = b := by
  rw [List.take_length, hl, List.take_length] at h
  exact h
theorem take_succ_eq {α : Type} {a b : List α} {j : Nat} {x : α} (h : a.take j = b.take j) (ha : a[j]? = some x) (hb : b[j]? = some x) : a.take (j + 1) = b.take (j + 1) := by
  rw [List.take_add_one, List.take_add_one, h, ha, hb]

theorem f38 (v u : Value) (a b : List Ent) (w : World) (ha : IsList w v a) (hb : IsList w u b) (hn : a.length ≤ 65536) :
    Ret Try.prog 38 #[v, u] w fun r w' => r = .bool (decide (a = b)) ∧ Chg [] w w' := by
  obtain ⟨p, c, rfl, _⟩ := IsSl.val ha
  obtain ⟨q, d, rfl, _⟩ := IsSl.val hb
  refine Ret.of_W (args := [_, _]) Try.func38 rfl rfl rfl rfl ?_

  refine W_seq ?_
  refine W_region ?_
  refine O_go (gn rfl) (St.vl (vl_assign rfl) rfl rfl ?_)
  refine O_end [0, 1] (F' := [(0, _), (1, _)]) rfl ?_
  refine W_seq ?_
  refine W_seq ?_
  refine W_region ?_
  refine O_go (gn rfl) (St.vl (vl_move rfl) rfl rfl ?_)
  refine O_go (gn rfl) (St.vl (vl_len sl71 rfl) rfl rfl ?_)
  refine O_go (gn rfl) (St.vl (vl_move rfl) rfl rfl ?_)
  refine O_go (gn rfl) (St.vl (vl_len sl71 rfl) rfl rfl ?_)
  refine O_go (gn rfl) (St.vl (vl_ine rfl rfl) rfl rfl ?_)
  refine O_end [0, 1, 10] (F' := [(0, _), (1, _), (10, _)]) rfl ?_
  refine W_cond rfl (fun hT => ?_) (fun hF => ?_)
  · refine W_seq ?_
    refine W_region ?_
    refine O_go (gn rfl) (St.vl (vl_assign rfl) rfl rfl ?_)
    refine O_end [4] (F' := [(4, _)]) rfl ?_
    refine W_ret ?_
    refine then_ret ?_
    refine ret1 rfl rfl ?_
    refine ⟨?_, Chg.refl _ _⟩
    rw [decide_eq_false]
    rintro rfl
    simp at hT
  refine W_skipE ?_
  have hlen : a.length = b.length := by
    have : ((a.length : Nat) : Int) = (b.length : Nat) := by simpa using hF
    omega
  refine W_seq ?_
  refine W_seq ?_
  refine W_region ?_
  refine O_go (gn rfl) (St.vl (vl_move rfl) rfl rfl ?_)
  refine O_go (gn rfl) (St.vl (vl_len sl71 rfl) rfl rfl ?_)
  refine O_go (gn rfl) (St.vl (vl_move rfl) rfl rfl ?_)
  refine O_end [0, 1, 12, 13] (F' := [(0, _), (1, _), (12, _), (13, _)]) rfl ?_
  refine W_block ?_
  refine W_loop [0, 1, 12, 13] (fun m F wx => Chg [] w wx ∧ ∃ j : Nat, m = a.length - j ∧ j ≤ a.length ∧ a.take j = b.take j ∧ F = [(0, .slice p a.length c), (1, .slice q b.length d), (12, .int .i64 a.length), (13, .int .i64 j)]) (m := a.length - 0) ⟨Chg.refl _ _, 0, rfl, Nat.zero_le _, rfl, rfl⟩ ?_
  rintro m F wx ⟨hcx, j, rfl, hj, htk, rfl⟩
  refine W_seq ?_
  refine W_region ?_
  refine O_go (gn rfl) (St.vl (vl_lss rfl rfl) rfl rfl ?_)
  refine O_end [0, 1, 12, 13, 14] (F' := [(0, _), (1, _), (12, _), (13, _), (14, _)]) rfl ?_
  refine W_seq ?_
  refine W_cond rfl (fun hT => ?_) (fun hF => ?_)
  · refine W_skipE ?_
    have hlt : j < a.length := by simpa using hT
    have hlt2 : j < b.length := by omega
    have hxa : a[j]? = some a[j] := by simp [hlt]
    have hxb : b[j]? = some b[j] := by simp [hlt2]
    generalize a[j] = x at hxa
    generalize b[j] = y at hxb
    obtain ⟨x1, x2⟩ := x
    obtain ⟨y1, y2⟩ := y
    obtain ⟨b1, o1, k1, hv1, _⟩ := ha.at' hxa
    obtain ⟨b2, o2, k2, hv2, _⟩ := hb.at' hxb
    simp only [Value.slice.injEq] at hv1 hv2
    obtain ⟨rfl, _, rfl⟩ := hv1
    obtain ⟨rfl, _, rfl⟩ := hv2
    have ca : ∀ wz, Chg [] w wz → Cells wz b1 (o1 + j * 2) [.string x1, .string x2] := by
      intro wz hz
      obtain ⟨b3, o3, k3, hv, hc⟩ := (ha.chg0 hz).at' hxa
      simp only [Value.slice.injEq, Option.some.injEq, Addr.mk.injEq] at hv
      obtain ⟨⟨rfl, rfl, _⟩, _, rfl⟩ := hv
      exact hc
    have cb : ∀ wz, Chg [] w wz → Cells wz b2 (o2 + j * 2) [.string y1, .string y2] := by
      intro wz hz
      obtain ⟨b3, o3, k3, hv, hc⟩ := (hb.chg0 hz).at' hxb
      simp only [Value.slice.injEq, Option.some.injEq, Addr.mk.injEq] at hv
      obtain ⟨⟨rfl, rfl, _⟩, _, rfl⟩ := hv
      exact hc
    refine W_seq ?_
    refine W_block ?_
    refine W_seq ?_
    refine W_region ?_
    refine O_go (gn rfl) (St.vl (vl_move rfl) rfl rfl ?_)
    refine O_go (gn rfl) (St.vl (vl_assign rfl) rfl rfl ?_)
    refine O_end [0, 1, 5, 12, 13] (F' := [(0, _), (1, _), (5, _), (12, _), (13, _)]) rfl ?_
    refine W_seq ?_
    refine W_draw (fun wz => Chg [] w wz) mix (by kernel_rfl) (hcx.trans (Chg.drew [] _)) ?_
    refine t_pure rfl (gn rfl) (fun _ => vl_move rfl) rfl rfl ?_
    refine t_pure rfl (gn rfl) (fun _ => vl_move rfl) rfl rfl ?_
    refine t_pure rfl (gn rfl) (fun _ => vl_indexAddr sl71 sz69 rfl rfl _ rfl hlt) rfl rfl ?_
    refine t_read rfl (gn rfl) (fun wz hz => vl_loadAgg ag69 sz69 rfl rfl (ca _ hz)) rfl rfl ?_
    refine t_pure rfl (gn rfl) (fun _ => vl_move rfl) rfl rfl ?_
    refine t_pure rfl (gn rfl) (fun _ => vl_move rfl) rfl rfl ?_
    refine t_pure rfl (gn rfl) (fun _ => vl_indexAddr sl71 sz69 rfl rfl _ rfl hlt2) rfl rfl ?_
    refine t_read rfl (gn rfl) (fun wz hz => vl_loadAgg ag69 sz69 rfl rfl (cb _ hz)) rfl rfl ?_
    refine t_pure rfl (gn rfl) (fun _ => vl_ne2 tw69 rfl rfl) rfl rfl ?_
    refine T_end [0, 1, 12, 13, 24] (F' := [(0, _), (1, _), (12, _), (13, _), (24, _)]) rfl ?_
    refine W_cond rfl (fun hT => ?_) (fun hF => ?_)
    · refine W_seq ?_
      refine W_region ?_
      refine O_go (gn rfl) (St.vl (vl_assign rfl) rfl rfl ?_)
      refine O_end [4] (F' := [(4, _)]) rfl ?_
      refine W_ret ?_
      repeat (first | refine then_ret ?_ | refine block_ret ?_)
      refine ret1 rfl rfl ?_
      refine ⟨?_, hcx.trans (Chg.drew [] _)⟩
      rw [decide_eq_false]
      rintro rfl
      rw [hxa] at hxb
      simp only [Option.some.injEq, Prod.mk.injEq] at hxb
      simp [hxb.1, hxb.2] at hT
    · refine W_skip ?_
      refine block_normal ?_
      refine W_region ?_
      refine O_go (gn rfl) (St.vl (vl_add rfl rfl (by omega)) rfl rfl ?_)
      refine O_go (gn rfl) (St.vl (vl_move rfl) rfl rfl ?_)
      refine O_endN [0, 1, 12, 13] (F' := [(0, _), (1, _), (12, _), (13, _)]) rfl ?_
      have he : x1 = y1 ∧ x2 = y2 := by simpa using hF
      obtain ⟨rfl, rfl⟩ := he
      exact ⟨a.length - (j + 1), by omega, hcx.trans (Chg.drew [] _), j + 1, rfl, by omega, take_succ_eq htk hxa hxb, rfl⟩
  · refine W_exit ?_
    repeat (first | refine then_exit ?_ | refine blockF_other rfl ?_)
    refine blockF_exit _ ?_
    have he : j = a.length := by
      have : ¬ (j < a.length) := by simpa using hF
      omega
    subst he
    refine W_seq ?_
    refine W_region ?_
    refine O_go (gn rfl) (St.vl (vl_assign rfl) rfl rfl ?_)
    refine O_end [4] (F' := [(4, _)]) rfl ?_
    refine W_ret ?_
    refine ret1 rfl rfl ?_
    refine ⟨?_, hcx⟩
    rw [decide_eq_true (eq_of_takes hlen htk)]

theorem f37 (v u : Value) (a b : List (List Ent)) (w : World) (ha : IsPages w v a) (hb : IsPages w u b) (h8 : ∀ l ∈ a, l.length ≤ 8) (hn : a.length ≤ 65536) :
    Ret Try.prog 37 #[v, u, .func (.func 38) #[] #[]] w fun r w' => r = .bool (decide (a = b)) ∧ Chg [] w w' := by
  obtain ⟨vas, hsa, _⟩ := id ha
  obtain ⟨vbs, hsb, _⟩ := id hb
  obtain ⟨p, c, rfl, _⟩ := IsSl.val hsa
  obtain ⟨q, d, rfl, _⟩ := IsSl.val hsb
  refine Ret.of_W (args := [_, _, _]) Try.func37 rfl rfl rfl rfl ?_

  refine W_seq ?_
  refine W_region ?_
  refine O_go (gn rfl) (St.vl (vl_assign rfl) rfl rfl ?_)
  refine O_end [0, 1, 2] (F' := [(0, _), (1, _), (2, _)]) rfl ?_
  refine W_seq ?_
  refine W_seq ?_
  refine W_region ?_
  refine O_go (gn rfl) (St.vl (vl_move rfl) rfl rfl ?_)
  refine O_go (gn rfl) (St.vl (vl_len sl65 rfl) rfl rfl ?_)
  refine O_go (gn rfl) (St.vl (vl_move rfl) rfl rfl ?_)
  refine O_go (gn rfl) (St.vl (vl_len sl65 rfl) rfl rfl ?_)
  refine O_go (gn rfl) (St.vl (vl_ine rfl rfl) rfl rfl ?_)
  refine O_end [0, 1, 2, 14] (F' := [(0, _), (1, _), (2, _), (14, _)]) rfl ?_
  refine W_cond rfl (fun hT => ?_) (fun hF => ?_)
  · refine W_seq ?_
    refine W_region ?_
    refine O_go (gn rfl) (St.vl (vl_assign rfl) rfl rfl ?_)
    refine O_end [6] (F' := [(6, _)]) rfl ?_
    refine W_ret ?_
    refine then_ret ?_
    refine ret1 rfl rfl ?_
    refine ⟨?_, Chg.refl _ _⟩
    rw [decide_eq_false]
    rintro rfl
    simp at hT
  refine W_skipE ?_
  have hlen : a.length = b.length := by
    have : ((a.length : Nat) : Int) = (b.length : Nat) := by simpa using hF
    omega
  refine W_seq ?_
  refine W_seq ?_
  refine W_region ?_
  refine O_go (gn rfl) (St.vl (vl_move rfl) rfl rfl ?_)
  refine O_go (gn rfl) (St.vl (vl_len sl65 rfl) rfl rfl ?_)
  refine O_go (gn rfl) (St.vl (vl_move rfl) rfl rfl ?_)
  refine O_end [1, 2, 15, 16, 17] (F' := [(1, _), (2, _), (15, _), (16, _), (17, _)]) rfl ?_
  refine W_block ?_
  refine W_loop [1, 2, 15, 16, 17] (fun m F wx => Chg [] w wx ∧ ∃ j : Nat, m = a.length - j ∧ j ≤ a.length ∧ a.take j = b.take j ∧ F = [(1, .slice q b.length d), (2, .func (.func 38) #[] #[]), (15, .slice p a.length c), (16, .int .i64 a.length), (17, .int .i64 j)]) (m := a.length - 0) ⟨Chg.refl _ _, 0, rfl, Nat.zero_le _, rfl, rfl⟩ ?_
  rintro m F wx ⟨hcx, j, rfl, hj, htk, rfl⟩
  refine W_seq ?_
  refine W_region ?_
  refine O_go (gn rfl) (St.vl (vl_lss rfl rfl) rfl rfl ?_)
  refine O_end [1, 2, 15, 16, 17, 18] (F' := [(1, _), (2, _), (15, _), (16, _), (17, _), (18, _)]) rfl ?_
  refine W_seq ?_
  refine W_cond rfl (fun hT => ?_) (fun hF => ?_)
  · refine W_skipE ?_
    have hlt : j < a.length := by simpa using hT
    have hlt2 : j < b.length := by omega
    have hxa : a[j]? = some a[j] := by simp [hlt]
    have hxb : b[j]? = some b[j] := by simp [hlt2]
    have h8x := h8 _ (List.mem_of_getElem? hxa)
    generalize a[j] = x at hxa h8x
    generalize b[j] = y at hxb
    obtain ⟨b1, o1, k1, u1, hv1, hc1, hl1⟩ := (ha.chg0 hcx).at hxa
    obtain ⟨b2, o2, k2, u2, hv2, hc2, hl2⟩ := (hb.chg0 hcx).at hxb
    simp only [Value.slice.injEq] at hv1 hv2
    obtain ⟨rfl, _, rfl⟩ := hv1
    obtain ⟨rfl, _, rfl⟩ := hv2
    refine W_seq ?_
    refine W_block ?_
    refine W_seq ?_
    refine W_region ?_
    refine O_go (gn rfl) (St.vl (vl_move rfl) rfl rfl ?_)
    refine O_go (gn rfl) (St.vl (vl_indexAddr sl65 sz71 rfl rfl _ rfl hlt) rfl rfl ?_)
    refine O_go (gn rfl) (St.vl (vl_load ag71 rfl hc1) rfl rfl ?_)
    refine O_go (gn rfl) (St.vl (vl_assign rfl) rfl rfl ?_)
    refine O_go (gn rfl) (St.vl (vl_assign rfl) rfl rfl ?_)
    refine O_end [1, 2, 7, 8, 15, 16, 17] (F' := [(1, _), (2, _), (7, _), (8, _), (15, _), (16, _), (17, _)]) rfl ?_
    refine W_seq ?_
    refine W_region ?_
    refine O_go (gn rfl) (St.vl (vl_move rfl) rfl rfl ?_)
    refine O_go (gn rfl) (St.vl (vl_move rfl) rfl rfl ?_)
    refine O_go (gn rfl) (St.vl (vl_indexAddr sl65 sz71 rfl rfl _ rfl hlt2) rfl rfl ?_)
    refine O_go (gn rfl) (St.vl (vl_load ag71 rfl hc2) rfl rfl ?_)
    refine O_go (gn rfl) (St.vl (vl_assign rfl) rfl rfl ?_)
    refine O_end [1, 2, 8, 9, 15, 16, 17] (F' := [(1, _), (2, _), (8, _), (9, _), (15, _), (16, _), (17, _)]) rfl ?_
    refine W_seq ?_
    refine W_region ?_
    refine O_go (gn rfl) (St.vl (vl_move rfl) rfl rfl ?_)
    refine O_go (gn rfl) (St.vl (vl_move rfl) rfl rfl ?_)
    refine O_go (gn rfl) (St.vl (vl_move rfl) rfl rfl ?_)
    refine O_go (gn rfl) (st_call bd38 rfl rfl rfl rfl (f38 u1 u2 x y _ hl1 hl2 (by omega)) ?_)
    rintro v29 w29 ⟨rfl, c29⟩
    refine O_go (gn rfl) (St.vl (vl_not rfl) rfl rfl ?_)
    refine O_end [1, 2, 15, 16, 17, 30] (F' := [(1, _), (2, _), (15, _), (16, _), (17, _), (30, _)]) rfl ?_
    refine W_cond rfl (fun hT => ?_) (fun hF => ?_)
    · refine W_seq ?_
      refine W_region ?_
      refine O_go (gn rfl) (St.vl (vl_assign rfl) rfl rfl ?_)
      refine O_end [6] (F' := [(6, _)]) rfl ?_
      refine W_ret ?_
      repeat (first | refine then_ret ?_ | refine block_ret ?_)
      refine ret1 rfl rfl ?_
      refine ⟨?_, hcx.trans c29⟩
      rw [decide_eq_false]
      rintro rfl
      rw [hxa] at hxb
      simp only [Option.some.injEq] at hxb
      simp [hxb] at hT
    · refine W_skip ?_
      refine block_normal ?_
      refine W_region ?_
      refine O_go (gn rfl) (St.vl (vl_add rfl rfl (by omega)) rfl rfl ?_)
      refine O_go (gn rfl) (St.vl (vl_move rfl) rfl rfl ?_)
      refine O_endN [1, 2, 15, 16, 17] (F' := [(1, _), (2, _), (15, _), (16, _), (17, _)]) rfl ?_
      have he : x = y := by simpa using hF
      subst he
      exact ⟨a.length - (j + 1), by omega, hcx.trans c29, j + 1, rfl, by omega, take_succ_eq htk hxa hxb, rfl⟩
  · refine W_exit ?_
    repeat (first | refine then_exit ?_ | refine blockF_other rfl ?_)
    refine blockF_exit _ ?_
    have he : j = a.length := by
      have : ¬ (j < a.length) := by simpa using hF
      omega
    subst he
    refine W_seq ?_
    refine W_region ?_
    refine O_go (gn rfl) (St.vl (vl_assign rfl) rfl rfl ?_)
    refine O_end [6] (F' := [(6, _)]) rfl ?_
    refine W_ret ?_
    refine ret1 rfl rfl ?_
    refine ⟨?_, hcx⟩
    rw [decide_eq_true (eq_of_takes hlen htk)]

theorem f22_nn (w : World) : Ret Try.prog 22 #[.pointer none, .pointer none] w fun r w' => r = .bool true ∧ w' = w := by
  refine Ret.of_W (args := [_, _]) Try.func22 rfl rfl rfl rfl ?_

  refine W_seq ?_
  refine W_region ?_
  refine O_go (gn rfl) (St.vl (vl_assign rfl) rfl rfl ?_)
  refine O_end [0, 1] (F' := [(0, _), (1, _)]) rfl ?_
  refine W_seq ?_
  refine W_seq ?_
  refine W_region ?_
  refine O_go (gn rfl) (St.vl (vl_move rfl) rfl rfl ?_)
  refine O_go (gn rfl) (St.vl (vl_pnil pt25 rfl rfl) rfl rfl ?_)
  refine O_go (gn rfl) (St.vl (vl_move rfl) rfl rfl ?_)
  refine O_guard_no rfl rfl rfl rfl rfl rfl ?_
  refine O_guard_no rfl rfl rfl rfl rfl rfl ?_
  refine O_go (gn rfl) (St.vl (vl_pick_t rfl rfl) rfl rfl ?_)
  refine O_end [0, 1, 10] (F' := [(0, _), (1, _), (10, _)]) rfl ?_
  refine W_cond_true rfl ?_
  refine W_seq ?_
  refine W_region ?_
  refine O_go (gn rfl) (St.vl (vl_move rfl) rfl rfl ?_)
  refine O_go (gn rfl) (St.vl (vl_pnil pt25 rfl rfl) rfl rfl ?_)
  refine O_go (gn rfl) (St.vl (vl_move rfl) rfl rfl ?_)
  refine O_go (gy rfl rfl rfl) (St.vl (vl_move rfl) rfl rfl ?_)
  refine O_go (gy rfl rfl rfl) (St.vl (vl_pnil pt25 rfl rfl) rfl rfl ?_)
  refine O_go (gn rfl) (St.vl (vl_pick_t rfl rfl) rfl rfl ?_)
  refine O_go (gn rfl) (St.vl (vl_assign rfl) rfl rfl ?_)
  refine O_end [4] (F' := [(4, _)]) rfl ?_
  refine W_ret ?_
  refine then_ret ?_
  refine ret1 rfl rfl ?_
  exact ⟨rfl, rfl⟩

theorem f22_pn (p : Addr) (w : World) : Ret Try.prog 22 #[.pointer (some p), .pointer none] w fun r w' => r = .bool false ∧ w' = w := by
  refine Ret.of_W (args := [_, _]) Try.func22 rfl rfl rfl rfl ?_

  refine W_seq ?_
  refine W_region ?_
  refine O_go (gn rfl) (St.vl (vl_assign rfl) rfl rfl ?_)
  refine O_end [0, 1] (F' := [(0, _), (1, _)]) rfl ?_
  refine W_seq ?_
  refine W_seq ?_
  refine W_region ?_
  refine O_go (gn rfl) (St.vl (vl_move rfl) rfl rfl ?_)
  refine O_go (gn rfl) (St.vl (vl_pnil pt25 rfl rfl) rfl rfl ?_)
  refine O_go (gn rfl) (St.vl (vl_move rfl) rfl rfl ?_)
  refine O_go (gy rfl rfl rfl) (St.vl (vl_move rfl) rfl rfl ?_)
  refine O_go (gy rfl rfl rfl) (St.vl (vl_pnil pt25 rfl rfl) rfl rfl ?_)
  refine O_go (gn rfl) (St.vl (vl_pick_f rfl rfl) rfl rfl ?_)
  refine O_end [0, 1, 10] (F' := [(0, _), (1, _), (10, _)]) rfl ?_
  refine W_cond_true rfl ?_
  refine W_seq ?_
  refine W_region ?_
  refine O_go (gn rfl) (St.vl (vl_move rfl) rfl rfl ?_)
  refine O_go (gn rfl) (St.vl (vl_pnil pt25 rfl rfl) rfl rfl ?_)
  refine O_go (gn rfl) (St.vl (vl_move rfl) rfl rfl ?_)
  refine O_guard_no rfl rfl rfl rfl rfl rfl ?_
  refine O_guard_no rfl rfl rfl rfl rfl rfl ?_
  refine O_go (gn rfl) (St.vl (vl_pick_f rfl rfl) rfl rfl ?_)
  refine O_go (gn rfl) (St.vl (vl_assign rfl) rfl rfl ?_)
  refine O_end [4] (F' := [(4, _)]) rfl ?_
  refine W_ret ?_
  refine then_ret ?_
  refine ret1 rfl rfl ?_
  exact ⟨rfl, rfl⟩

theorem f22 (p q : Nat) (a b : List (List Ent)) (w : World) (ha : Pg w p a) (hb : Pg w q b) (h8 : ∀ l ∈ a, l.length ≤ 8) (hn : a.length ≤ 65536) :
    Ret Try.prog 22 #[.pointer (some ⟨p, 0, none⟩), .pointer (some ⟨q, 0, none⟩)] w fun r w' => r = .bool (decide (a = b)) ∧ Chg [] w w' := by
  obtain ⟨v, hbv, hpv⟩ := id ha
  obtain ⟨u, hbu, hpu⟩ := id hb
  refine Ret.of_W (args := [_, _]) Try.func22 rfl rfl rfl rfl ?_

  refine W_seq ?_
  refine W_region ?_
  refine O_go (gn rfl) (St.vl (vl_assign rfl) rfl rfl ?_)
  refine O_end [0, 1] (F' := [(0, _), (1, _)]) rfl ?_
  refine W_seq ?_
  refine W_seq ?_
  refine W_region ?_
  refine O_go (gn rfl) (St.vl (vl_move rfl) rfl rfl ?_)
  refine O_go (gn rfl) (St.vl (vl_pnil pt25 rfl rfl) rfl rfl ?_)
  refine O_go (gn rfl) (St.vl (vl_move rfl) rfl rfl ?_)
  refine O_go (gy rfl rfl rfl) (St.vl (vl_move rfl) rfl rfl ?_)
  refine O_go (gy rfl rfl rfl) (St.vl (vl_pnil pt25 rfl rfl) rfl rfl ?_)
  refine O_go (gn rfl) (St.vl (vl_pick_f rfl rfl) rfl rfl ?_)
  refine O_end [0, 1, 10] (F' := [(0, _), (1, _), (10, _)]) rfl ?_
  refine W_cond_false rfl ?_
  refine W_skipE ?_
  refine W_seq ?_
  refine W_draw (fun wz => Chg [] w wz) mix (by kernel_rfl) (Chg.drew [] _) ?_
  refine t_pure rfl (gn rfl) (fun _ => vl_move rfl) rfl rfl ?_
  refine t_pure rfl (gn rfl) (fun _ => vl_nilCheck rfl) rfl rfl ?_
  refine t_pure rfl (gn rfl) (fun _ => vl_fieldAddr fo67_0 rfl) rfl rfl ?_
  refine t_read rfl (gn rfl) (fun wz hz => vl_load ag65 rfl ((hbv.chg0 hz).cell' rfl)) rfl rfl ?_
  refine t_pure rfl (gn rfl) (fun _ => vl_move rfl) rfl rfl ?_
  refine t_pure rfl (gn rfl) (fun _ => vl_nilCheck rfl) rfl rfl ?_
  refine t_pure rfl (gn rfl) (fun _ => vl_fieldAddr fo67_0 rfl) rfl rfl ?_
  refine t_read rfl (gn rfl) (fun wz hz => vl_load ag65 rfl ((hbu.chg0 hz).cell' rfl)) rfl rfl ?_
  refine t_st rfl (gn rfl) (st_call bd37 rfl rfl rfl rfl (f37 v u a b _ (hpv.chg0 (Chg.drew [] _)) (hpu.chg0 (Chg.drew [] _)) h8 hn) ?_)
  rintro v25 w25 ⟨rfl, c25⟩
  refine ⟨.inl ((Chg.drew [] _).trans c25), ?_⟩
  refine t_pure rfl (gn rfl) (fun _ => vl_assign rfl) rfl rfl ?_
  refine T_end [4] (F' := [(4, _)]) rfl ?_
  refine W_ret ?_
  refine ret1 rfl rfl ?_
  exact ⟨rfl, (Chg.drew [] _).trans c25⟩
end Go.Wk

