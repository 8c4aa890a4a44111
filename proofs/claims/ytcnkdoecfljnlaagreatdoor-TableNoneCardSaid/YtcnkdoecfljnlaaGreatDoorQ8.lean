/-
  Layer value: Check.
  Layer schema, the kinds and names.
  Rows of values, columns, numbers in memory.
-/
import Derived.Test.YtcnkdoecfljnlaaGreatDoorQ7
import Derived.Laws.RangeString
import Derived.Laws.RangeAny
set_option linter.all false
namespace Go.Wk
open Go.Proofs
set_option maxRecDepth 10000

def kindV (f g : Nat) : Value := .agg #[.func (.func f) #[] #[], .func (.func g) #[] #[]]
def vKinds : List (Int × Value) := [(0, kindV 236 237), (1, kindV 238 239), (2, kindV 241 242), (3, kindV 244 245), (4, kindV 247 248)]

theorem v_kinds (w : World) : Ret Tryz.prog 187 #[] w fun r w' => ∃ b, r = .map (some b) ∧ w.heap.size ≤ b ∧ IsMapK (intK .i64) w' b vKinds ∧ Chg [] w w' := by
  refine Ret.of_W (args := []) Tryz.func187 rfl rfl rfl rfl ?_

  refine Sr (Oa rfl rfl (O_end [] (F' := []) rfl (Sr ?_)))
  refine O_go (gn rfl) (st_makeMapK (intK .i64) rfl ?_)
  intro b1 w1 e1 n1 c1 k1
  refine Og (vl_build pl295 zr295 rfl (vs := [_, _]) rfl (css := [_, _]) ⟨rfl, rfl, trivial⟩ rfl rfl (cs := [_, _]) rfl) rfl ?_
  refine O_go (gn rfl) (st_insK (κ := intK .i64) mp297 (itOf_und it37_i64) rfl rfl rfl k1 ?_)
  intro wA nA cA kA
  refine Og (vl_build pl295 zr295 rfl (vs := [_, _]) rfl (css := [_, _]) ⟨rfl, rfl, trivial⟩ rfl rfl (cs := [_, _]) rfl) rfl ?_
  refine O_go (gn rfl) (st_insK (κ := intK .i64) mp297 (itOf_und it37_i64) rfl rfl rfl kA ?_)
  intro wB nB cB kB
  refine Og (vl_build pl295 zr295 rfl (vs := [_, _]) rfl (css := [_, _]) ⟨rfl, rfl, trivial⟩ rfl rfl (cs := [_, _]) rfl) rfl ?_
  refine O_go (gn rfl) (st_insK (κ := intK .i64) mp297 (itOf_und it37_i64) rfl rfl rfl kB ?_)
  intro wC nC cC kC
  refine Og (vl_build pl295 zr295 rfl (vs := [_, _]) rfl (css := [_, _]) ⟨rfl, rfl, trivial⟩ rfl rfl (cs := [_, _]) rfl) rfl ?_
  refine O_go (gn rfl) (st_insK (κ := intK .i64) mp297 (itOf_und it37_i64) rfl rfl rfl kC ?_)
  intro wD nD cD kD
  refine Og (vl_build pl295 zr295 rfl (vs := [_, _]) rfl (css := [_, _]) ⟨rfl, rfl, trivial⟩ rfl rfl (cs := [_, _]) rfl) rfl ?_
  refine O_go (gn rfl) (st_insK (κ := intK .i64) mp297 (itOf_und it37_i64) rfl rfl rfl kD ?_)
  intro wE nE cE kE
  refine Om rfl rfl (Oa rfl rfl (O_end [0] (F' := [(0, _)]) rfl (W_ret ?_)))
  refine ret1 rfl rfl ?_
  exact ⟨b1, rfl, by omega, kE, c1.own (((((cA.transS cB).transS cC).transS cD).transS cE)) (by intro x hx; simp at hx; omega)⟩

theorem Val.one (x : Val) : ∀ u ∈ x.cs, u.oneCell' = true := by
  intro u hu; simp [Val.cs] at hu; rcases hu with rfl | rfl | rfl | rfl <;> rfl
theorem v_bare (x : Val) (w : World) : Ret Tryz.prog 188 #[x.v] w fun r w' => r = (bareN x).v ∧ Chg [] w w' := by
  obtain ⟨k, i, u, b⟩ := x
  refine Ret.of_W (args := [_]) Tryz.func188 rfl rfl rfl rfl ?_

  refine Sr ?_
  refine O_go (gn rfl) (st_box rfl rfl rfl ?_)
  intro b1 w1 e1 n1 c1 k1
  refine O_go (gn rfl) (st_alloc zr40 rfl rfl ?_)
  intro b2 w2 e2 n2 c2 k2
  refine O_end [1, 2] (F' := [(1, _), (2, _)]) rfl (Sr (Og (vl_fieldAddr fo40_0 rfl) rfl ?_))
  refine Og (vl_load ag37 rfl ((k1.chg0 c2).cell' rfl)) rfl ?_
  refine Og (vl_build pl40 zr40 rfl (vs := [_]) rfl (css := [_]) ⟨rfl, trivial⟩ rfl rfl (cs := [_, _, _, _]) rfl) rfl ?_
  refine O_go (gn rfl) (st_alloc zr40 rfl rfl ?_)
  intro b3 w3 e3 n3 c3 k3
  refine O_go (gn rfl) (st_store sz40 rfl rfl rfl rfl k3 (by simp) (by intro u hu; simp at hu; rcases hu with rfl | rfl | rfl | rfl <;> rfl) ?_)
  intro wA nA cA kA
  refine O_end [1, 2, 3] (F' := [(1, _), (2, _), (3, _)]) rfl ?_
  have hk1 : Blk wA b1 40 [.int .i64 k, .int .i64 i, .int .u64 u, .string b] := ((k1.chg0 c2).chg0 c3).chg cA (by simp; omega)
  have hk2 := (k2.chg0 c3).chg cA (by simp; omega)
  have hc : Chg [] w wA := ((c1.trans c2).trans c3).own cA (by intro y hy; simp at hy; omega)
  have hk3 : Blk wA b3 40 [.int .i64 k, .int .i64 0, .int .u64 0, .string e0] := kA
  clear kA k3 k2 k1
  refine W_seq_cut (fun F wx => F = [(2, .pointer (some ⟨b2, 0, none⟩)), (3, .pointer (some ⟨b3, 0, none⟩))] ∧ Blk wx b3 40 (bareN ⟨k, i, u, b⟩).cs ∧ Chg [b3] wA wx) ?_ ?_
  · refine Sr (Og (vl_fieldAddr fo40_0 rfl) rfl ?_)
    refine Og (vl_load ag37 rfl (hk1.cell' rfl)) rfl ?_
    refine O_end [1, 2, 3, 8] (F' := [(1, _), (2, _), (3, _), (8, _)]) rfl (W_block (W_seq (W_block (W_seq (W_block (W_seq (W_block (W_block (W_seq (W_seq (Sr (Og (vl_ieq rfl rfl) rfl ?_))))))))))))
    refine Oa rfl rfl (O_end [1, 2, 3, 8, 9] (F' := [(1, _), (2, _), (3, _), (8, _), (9, _)]) rfl ?_)
    refine W_cond rfl (fun hT => ?_) (fun hF => ?_)
    · have hk : k = 3 := of_decide_eq_true hT
      refine W_exit ?_
      repeat (first | refine then_exit ?_ | refine blockF_other rfl ?_)
      refine blockF_exit _ ?_
      refine block_normal (Sr (Og (vl_fieldAddr fo40_1 rfl) rfl ?_))
      refine Og (vl_load ag2 rfl (hk1.cell' rfl)) rfl ?_
      refine Og (vl_fieldAddr fo40_1 rfl) rfl ?_
      refine O_go (gn rfl) (st_store sz2 rfl rfl rfl rfl hk3 (by simp) (by intro u hu; simp at hu; subst hu; rfl) ?_)
      intro wB nB cB kB
      refine O_end [2, 3] (F' := [(2, _), (3, _)]) rfl ?_
      refine W_exit ?_
      repeat (first | refine then_exit ?_ | refine blockF_other rfl ?_)
      refine blockF_exit _ ?_
      exact ⟨rfl, by subst hk; exact kB, cB⟩
    have h3 : k ≠ 3 := of_decide_eq_false hF
    clear hF
    refine W_skipE (W_seq (Sr (Og (vl_ieq rfl rfl) rfl (Oa rfl rfl (O_end [1, 2, 3, 8, 11] (F' := [(1, _), (2, _), (3, _), (8, _), (11, _)]) rfl ?_)))))
    refine W_cond rfl (fun hT => ?_) (fun hF => ?_)
    · have hk : k = 1 := of_decide_eq_true hT
      refine W_exit ?_
      repeat (first | refine then_exit ?_ | refine blockF_other rfl ?_)
      refine blockF_exit _ ?_
      refine Sr (Og (vl_fieldAddr fo40_1 rfl) rfl ?_)
      refine Og (vl_load ag2 rfl (hk1.cell' rfl)) rfl ?_
      refine Og (vl_fieldAddr fo40_1 rfl) rfl ?_
      refine O_go (gn rfl) (st_store sz2 rfl rfl rfl rfl hk3 (by simp) (by intro u hu; simp at hu; subst hu; rfl) ?_)
      intro wB nB cB kB
      refine O_end [2, 3] (F' := [(2, _), (3, _)]) rfl ?_
      refine W_exit ?_
      repeat (first | refine then_exit ?_ | refine blockF_other rfl ?_)
      refine blockF_exit _ ?_
      exact ⟨rfl, by subst hk; exact kB, cB⟩
    have h1 : k ≠ 1 := of_decide_eq_false hF
    clear hF
    refine W_skipE (W_seq (Sr (Og (vl_ieq rfl rfl) rfl (Oa rfl rfl (O_end [1, 2, 3, 8, 13] (F' := [(1, _), (2, _), (3, _), (8, _), (13, _)]) rfl ?_)))))
    refine W_cond rfl (fun hT => ?_) (fun hF => ?_)
    · have hk : k = 2 := of_decide_eq_true hT
      refine W_exit ?_
      repeat (first | refine then_exit ?_ | refine blockF_other rfl ?_)
      refine blockF_exit _ ?_
      refine Sr (Og (vl_fieldAddr fo40_2 rfl) rfl ?_)
      refine Og (vl_load ag38 rfl (hk1.cell' rfl)) rfl ?_
      refine Og (vl_fieldAddr fo40_2 rfl) rfl ?_
      refine O_go (gn rfl) (st_store sz38 rfl rfl rfl rfl hk3 (by simp) (by intro u hu; simp at hu; subst hu; rfl) ?_)
      intro wB nB cB kB
      refine O_end [2, 3] (F' := [(2, _), (3, _)]) rfl ?_
      refine W_exit ?_
      repeat (first | refine then_exit ?_ | refine blockF_other rfl ?_)
      refine blockF_exit _ ?_
      exact ⟨rfl, by subst hk; exact kB, cB⟩
    have h2 : k ≠ 2 := of_decide_eq_false hF
    clear hF
    refine W_skipE (Sr (Og (vl_ieq rfl rfl) rfl (Oa rfl rfl (O_end [1, 2, 3, 15] (F' := [(1, _), (2, _), (3, _), (15, _)]) rfl ?_))))
    refine W_cond rfl (fun hT => ?_) (fun hF => ?_)
    · have hk : k = 4 := of_decide_eq_true hT
      refine W_exit ?_
      repeat (first | refine then_exit ?_ | refine blockF_other rfl ?_)
      refine blockF_exit _ ?_
      refine Sr (Og (vl_fieldAddr fo40_3 rfl) rfl ?_)
      refine Og (vl_load ag9 rfl (hk1.cell' rfl)) rfl ?_
      refine Og (vl_fieldAddr fo40_3 rfl) rfl ?_
      refine O_go (gn rfl) (st_store sz9 rfl rfl rfl rfl hk3 (by simp) (by intro u hu; simp at hu; subst hu; rfl) ?_)
      intro wB nB cB kB
      refine O_end [2, 3] (F' := [(2, _), (3, _)]) rfl ?_
      refine W_exit ?_
      repeat (first | refine then_exit ?_ | refine blockF_other rfl ?_)
      refine blockF_exit _ ?_
      exact ⟨rfl, by subst hk; exact kB, cB⟩
    have h4 : k ≠ 4 := of_decide_eq_false hF
    refine W_skipE ?_
    refine W_prune [2, 3] rfl ?_
    refine W_exit ?_
    repeat (first | refine then_exit ?_ | refine blockF_other rfl ?_)
    refine blockF_exit _ ?_
    exact ⟨rfl, by simpa [bareN, h1, h2, h3, h4, Val.cs] using hk3, Chg.refl _ _⟩
  rintro F wx ⟨rfl, hb, hcx⟩
  have hn := c3.size
  refine Sr ?_
  refine Og (vl_loadAgg ag40 sz40 rfl rfl (Cells.of_blk0 hb)) rfl ?_
  refine O_go (gn rfl) (st_store sz40 rfl rfl rfl rfl (hk2.chg hcx (by simp; omega)) (by simp [Val.cs]) (Val.one _) ?_)
  intro wC nC cC kC
  refine O_end [2] (F' := [(2, _)]) rfl (W_ret ?_)
  refine retC rfl ag40 sz40 rfl rfl (Cells.of_blk0 kC) ?_
  exact ⟨rfl, hc.own ((hcx.weak (S2 := [b2, b3]) (by simp)).transS (cC.weak (by simp))) (by intro y hy; simp at hy; omega)⟩
theorem v_may1 (x : Val) (w : World) : Ret Tryz.prog 236 #[x.v] w fun r w' => r = .bool true ∧ Chg [] w w' := by
  refine Ret.of_W (args := [_]) Tryz.func236 rfl rfl rfl rfl ?_

  refine Sr ?_
  refine O_go (gn rfl) (st_box rfl rfl rfl ?_)
  intro b1 w1 e1 n1 c1 k1
  refine Oa rfl rfl (O_end [] (F' := []) rfl (Sr (Oa rfl rfl (O_end [2] (F' := [(2, _)]) rfl (W_ret ?_)))))
  refine ret1 rfl rfl ?_
  exact ⟨rfl, c1⟩
theorem v_may3 (x : Val) (w : World) : Ret Tryz.prog 238 #[x.v] w fun r w' => r = .bool true ∧ Chg [] w w' := by
  refine Ret.of_W (args := [_]) Tryz.func238 rfl rfl rfl rfl ?_

  refine Sr ?_
  refine O_go (gn rfl) (st_box rfl rfl rfl ?_)
  intro b1 w1 e1 n1 c1 k1
  refine Oa rfl rfl (O_end [] (F' := []) rfl (Sr (Oa rfl rfl (O_end [2] (F' := [(2, _)]) rfl (W_ret ?_)))))
  refine ret1 rfl rfl ?_
  exact ⟨rfl, c1⟩
theorem v_may5 (x : Val) (w : World) : Ret Tryz.prog 241 #[x.v] w fun r w' => r = .bool true ∧ Chg [] w w' := by
  refine Ret.of_W (args := [_]) Tryz.func241 rfl rfl rfl rfl ?_

  refine Sr ?_
  refine O_go (gn rfl) (st_box rfl rfl rfl ?_)
  intro b1 w1 e1 n1 c1 k1
  refine Oa rfl rfl (O_end [] (F' := []) rfl (Sr (Oa rfl rfl (O_end [2] (F' := [(2, _)]) rfl (W_ret ?_)))))
  refine ret1 rfl rfl ?_
  exact ⟨rfl, c1⟩
theorem v_may9 (x : Val) (w : World) : Ret Tryz.prog 247 #[x.v] w fun r w' => r = .bool true ∧ Chg [] w w' := by
  refine Ret.of_W (args := [_]) Tryz.func247 rfl rfl rfl rfl ?_

  refine Sr ?_
  refine O_go (gn rfl) (st_box rfl rfl rfl ?_)
  intro b1 w1 e1 n1 c1 k1
  refine Oa rfl rfl (O_end [] (F' := []) rfl (Sr (Oa rfl rfl (O_end [2] (F' := [(2, _)]) rfl (W_ret ?_)))))
  refine ret1 rfl rfl ?_
  exact ⟨rfl, c1⟩
theorem v_may7 (x : Val) (w : World) : Ret Tryz.prog 244 #[x.v] w fun r w' => r = .bool (decide (x.i = 0) || decide (x.i = 1)) ∧ Chg [] w w' := by
  obtain ⟨k, i, u, b⟩ := x
  refine Ret.of_W (args := [_]) Tryz.func244 rfl rfl rfl rfl ?_

  refine Sr ?_
  refine O_go (gn rfl) (st_box rfl rfl rfl ?_)
  intro b1 w1 e1 n1 c1 k1
  refine Oa rfl rfl (O_end [1] (F' := [(1, _)]) rfl (W_seq ?_))
  by_cases h : i = 0
  · refine W_region (Og (vl_fieldAddr fo40_1 rfl) rfl ?_)
    refine Og (vl_load ag2 rfl (k1.cell' rfl)) rfl ?_
    refine Og (vl_is (b' := true) (vl_ieq rfl rfl) (decide_eq_true (by omega))) rfl ?_
    refine Om rfl rfl (Oz rfl rfl rfl rfl (Oz rfl rfl rfl rfl (Oz rfl rfl rfl rfl (Ot rfl rfl rfl (Oa rfl rfl (O_end [2] (F' := [(2, _)]) rfl (W_ret ?_)))))))
    refine ret1 rfl rfl ?_
    exact ⟨by simp [h], c1⟩
  · refine W_region (Og (vl_fieldAddr fo40_1 rfl) rfl ?_)
    refine Og (vl_load ag2 rfl (k1.cell' rfl)) rfl ?_
    refine Og (vl_is (b' := false) (vl_ieq rfl rfl) (decide_eq_false (by omega))) rfl ?_
    refine Om rfl rfl ?_
    refine Oy rfl rfl (vl_fieldAddr fo40_1 rfl) rfl ?_
    refine Oy rfl rfl (vl_load ag2 rfl (k1.cell' rfl)) rfl ?_
    refine Oy rfl rfl (vl_ieq rfl rfl) rfl ?_
    refine Of rfl rfl rfl (Oa rfl rfl (O_end [2] (F' := [(2, _)]) rfl (W_ret ?_)))
    refine ret1 rfl rfl ?_
    exact ⟨by simp [h], c1⟩

theorem kinds_some {x : Val} (h : kindN x = true) : ∃ f g, kget vKinds x.k = some (kindV f g) ∧ bodied Tryz.prog f = true ∧ ∀ w, Ret Tryz.prog f #[x.v] w fun r w' => r = .bool (mayN x) ∧ Chg [] w w' := by
  obtain ⟨k, i, u, b⟩ := x
  simp only [kindN, decide_eq_true_eq] at h
  rcases (show k = 0 ∨ k = 1 ∨ k = 2 ∨ k = 3 ∨ k = 4 by omega) with rfl | rfl | rfl | rfl | rfl
  · exact ⟨_, _, rfl, bd236, fun w => v_may1 _ w⟩
  · exact ⟨_, _, rfl, bd238, fun w => v_may3 _ w⟩
  · exact ⟨_, _, rfl, bd241, fun w => v_may5 _ w⟩
  · exact ⟨_, _, rfl, bd244, fun w => (v_may7 _ w).mono fun r w' h => ⟨by rw [h.1]; simp [mayN], h.2⟩⟩
  · exact ⟨_, _, rfl, bd247, fun w => v_may9 _ w⟩
theorem kinds_none {x : Val} (h : kindN x = false) : kget vKinds x.k = none := by
  simp only [kindN, decide_eq_false_iff_not] at h
  have h0 : ¬ (0 : Int) = x.k := by omega
  have h1 : ¬ (1 : Int) = x.k := by omega
  have h2 : ¬ (2 : Int) = x.k := by omega
  have h3 : ¬ (3 : Int) = x.k := by omega
  have h4 : ¬ (4 : Int) = x.k := by omega
  simp [vKinds, kget, h0, h1, h2, h3, h4]

theorem eq_val (x y : Val) : sceqL [0, 0, 0, 1] x.cs y.cs = some (decide (x = y)) := by
  obtain ⟨k, i, u, b⟩ := x
  obtain ⟨k', i', u', b'⟩ := y
  simp only [Val.cs, sceqL, sceq, if_true, Option.some.injEq, Val.mk.injEq]
  rw [Bool.eq_iff_iff]
  simp
  intro _ _ _
  omega
theorem v_Check (x : Val) (w : World) : Ret Tryz.prog 143 #[x.v] w fun r w' => r = .int .i64 (chkN x) ∧ Chg [] w w' := by
  refine Ret.of_W (args := [_]) Tryz.func143 rfl rfl rfl rfl ?_

  refine Sr ?_
  refine O_go (gn rfl) (st_box rfl rfl rfl ?_)
  intro b1 w1 e1 n1 c1 k1
  refine Oa rfl rfl (O_end [1] (F' := [(1, _)]) rfl ?_)
  obtain ⟨g, hg⟩ : ∃ g, kget vKinds x.k = g := ⟨_, rfl⟩
  obtain ⟨va, vb, hv⟩ : ∃ va vb, g.getD (.agg #[.nilFunc, .nilFunc]) = .agg #[va, vb] ∧ va.oneCell' = true ∧ vb.oneCell' = true := by
    cases hk : kindN x with
    | false => rw [kinds_none hk] at hg; subst hg; exact ⟨_, _, rfl, rfl, rfl⟩
    | true => obtain ⟨f, g', h, _⟩ := kinds_some hk; rw [h] at hg; subst hg; exact ⟨_, _, rfl, rfl, rfl⟩
  obtain ⟨hv, hva, hvb⟩ := hv
  refine W_seq_cut (fun F wA => ∃ b3, F = [(1, .pointer (some ⟨b1, 0, none⟩)), (3, .pointer (some ⟨b3, 0, none⟩)), (4, .bool g.isSome)] ∧ Blk wA b3 295 [va, vb] ∧ Chg [] w1 wA) ?_ ?_
  · have hC := (Chg.drew [] w1)
    refine W_drawF (fun wz => Chg [] w1 wz) (Tree.seq [1, 2] (.two 0 (Tree.seq [] (.two 3 (Tree.seq [4, 5, 6, 7, 8, 9] .done) 7 (Tree.seq [3, 4, 5, 6, 8, 9] .done))) 7 (Tree.seq [0, 3, 4, 5, 6, 8, 9] .done))) mix (by kernel_rfl) hC ?_
    refine f_pure rfl rfl (gn rfl) (fun _ => vl_fieldAddr fo40_0 rfl) rfl rfl ?_
    refine f_read rfl rfl (gn rfl) (fun wz hz => vl_load ag37 rfl ((k1.chg0 hz).cell' rfl)) rfl rfl ?_
    refine f_two ?_ ?_
    · refine f_st rfl rfl (gn rfl) (st_call bd187 rfl rfl rfl rfl (v_kinds _) ?_)
      rintro v6 w6 ⟨b6, rfl, h6, k6, c6⟩
      have hN6 := hC.size
      have hC := hC.trans c6
      refine ⟨.inl hC, ?_⟩
      refine f_two ?_ ?_
      · refine f_st rfl rfl (gn rfl) (St.vl (vl_lookK2v (κ := intK .i64) mp297 (itOf_und it37_i64) zr295 rfl rfl k6 hg hv) rfl rfl ?_)
        refine ⟨.inl hC, ?_⟩
        refine f_pure rfl rfl (gn rfl) (fun _ => vl_move rfl) rfl rfl ?_
        refine f_pure rfl rfl (gn rfl) (fun _ => vl_extract rfl rfl) rfl rfl ?_
        refine f_pure rfl rfl (gn rfl) (fun _ => vl_extract rfl rfl) rfl rfl ?_
        refine f_st rfl rfl (gn rfl) (st_alloc zr295 rfl rfl ?_)
        intro b3 w3 e3 n3 c3 k3
        have hN3 := hC.size
        have hC := hC.trans c3
        have k6 := k6.chg0 c3
        refine ⟨.inl hC, ?_⟩
        refine f_st rfl rfl (gn rfl) (st_store sz295 rfl rfl rfl rfl k3 (by simp) (by intro u hu; simp at hu; rcases hu with rfl | rfl; exact hva; exact hvb) ?_)
        intro wA nA cA kA
        have hC := hC.own cA (by intro y hy; simp at hy; omega)
        refine ⟨.inl hC, ?_⟩
        refine f_pure rfl rfl (gn rfl) (fun _ => vl_assign rfl) rfl rfl ?_
        refine F_end [1, 3, 4] (F' := [(1, _), (3, _), (4, _)]) rfl ?_
        exact ⟨b3, rfl, kA, hC⟩
      · refine f_st rfl rfl (gn rfl) (st_alloc zr295 rfl rfl ?_)
        intro b3 w3 e3 n3 c3 k3
        have hN3 := hC.size
        have hC := hC.trans c3
        have k6 := k6.chg0 c3
        refine ⟨.inl hC, ?_⟩
        refine f_st rfl rfl (gn rfl) (St.vl (vl_lookK2v (κ := intK .i64) mp297 (itOf_und it37_i64) zr295 rfl rfl k6 hg hv) rfl rfl ?_)
        refine ⟨.inl hC, ?_⟩
        refine f_pure rfl rfl (gn rfl) (fun _ => vl_move rfl) rfl rfl ?_
        refine f_pure rfl rfl (gn rfl) (fun _ => vl_extract rfl rfl) rfl rfl ?_
        refine f_pure rfl rfl (gn rfl) (fun _ => vl_extract rfl rfl) rfl rfl ?_
        refine f_st rfl rfl (gn rfl) (st_store sz295 rfl rfl rfl rfl k3 (by simp) (by intro u hu; simp at hu; rcases hu with rfl | rfl; exact hva; exact hvb) ?_)
        intro wA nA cA kA
        have hC := hC.own cA (by intro y hy; simp at hy; omega)
        refine ⟨.inl hC, ?_⟩
        refine f_pure rfl rfl (gn rfl) (fun _ => vl_assign rfl) rfl rfl ?_
        refine F_end [1, 3, 4] (F' := [(1, _), (3, _), (4, _)]) rfl ?_
        exact ⟨b3, rfl, kA, hC⟩
    · refine f_st rfl rfl (gn rfl) (st_alloc zr295 rfl rfl ?_)
      intro b3 w3 e3 n3 c3 k3
      have hN3 := hC.size
      have hC := hC.trans c3
      refine ⟨.inl hC, ?_⟩
      refine f_st rfl rfl (gn rfl) (st_call bd187 rfl rfl rfl rfl (v_kinds _) ?_)
      rintro v6 w6 ⟨b6, rfl, h6, k6, c6⟩
      have hN6 := hC.size
      have hC := hC.trans c6
      have k3 := k3.chg0 c6
      refine ⟨.inl hC, ?_⟩
      refine f_st rfl rfl (gn rfl) (St.vl (vl_lookK2v (κ := intK .i64) mp297 (itOf_und it37_i64) zr295 rfl rfl k6 hg hv) rfl rfl ?_)
      refine ⟨.inl hC, ?_⟩
      refine f_pure rfl rfl (gn rfl) (fun _ => vl_move rfl) rfl rfl ?_
      refine f_pure rfl rfl (gn rfl) (fun _ => vl_extract rfl rfl) rfl rfl ?_
      refine f_pure rfl rfl (gn rfl) (fun _ => vl_extract rfl rfl) rfl rfl ?_
      refine f_st rfl rfl (gn rfl) (st_store sz295 rfl rfl rfl rfl k3 (by simp) (by intro u hu; simp at hu; rcases hu with rfl | rfl; exact hva; exact hvb) ?_)
      intro wA nA cA kA
      have hC := hC.own cA (by intro y hy; simp at hy; omega)
      refine ⟨.inl hC, ?_⟩
      refine f_pure rfl rfl (gn rfl) (fun _ => vl_assign rfl) rfl rfl ?_
      refine F_end [1, 3, 4] (F' := [(1, _), (3, _), (4, _)]) rfl ?_
      exact ⟨b3, rfl, kA, hC⟩
  rintro F wA ⟨b3, rfl, kA, hcA⟩
  have hk1 := k1.chg0 hcA
  have hdA : Chg [] wA wA.drew := Chg.drew [] _
  refine W_seq (W_block (W_seq ?_))
  cases hk : kindN x with
  | false =>
    have hg' : g = none := hg.symm.trans (kinds_none hk)
    subst hg'
    refine W_draw (fun wz => Chg [] wA wz) mix (by kernel_rfl) hdA ?_
    refine Tm rfl rfl ?_
    refine t_pure rfl (gn rfl) (fun _ => vl_not rfl) rfl rfl ?_
    refine Tm rfl rfl (Tz rfl rfl rfl rfl (Tz rfl rfl rfl rfl (Tz rfl rfl rfl rfl (Tz rfl rfl rfl rfl ?_))))
    refine t_pure rfl (gn rfl) (fun _ => vl_pick_t rfl rfl) rfl rfl ?_
    refine Tm rfl rfl (Tz rfl rfl rfl rfl (Tz rfl rfl rfl rfl (Tz rfl rfl rfl rfl (Tz rfl rfl rfl rfl (Tz rfl rfl rfl rfl ?_)))))
    refine t_pure rfl (gn rfl) (fun _ => vl_pick_t rfl rfl) rfl rfl ?_
    refine Ta rfl rfl ?_
    refine T_end [1, 12] (F' := [(1, _), (12, _)]) rfl ?_
    refine W_cond_true rfl (Sr (Oa rfl rfl (O_end [2] (F' := [(2, _)]) rfl (W_ret ?_))))
    repeat (first | refine then_ret ?_ | refine block_ret ?_)
    refine ret1 rfl rfl ?_
    exact ⟨by simp [chkN, fineV, hk], (c1.trans hcA).trans hdA⟩
  | true =>
    obtain ⟨f, g', hg', hbf, hmay⟩ := kinds_some hk
    rw [hg'] at hg
    subst hg
    cases hv
    by_cases hb : x = bareN x
    · refine W_draw (fun wz => Chg [] wA wz) mix (by kernel_rfl) hdA ?_
      refine Tm rfl rfl ?_
      refine t_pure rfl (gn rfl) (fun _ => vl_not rfl) rfl rfl ?_
      refine Tm rfl rfl ?_
      refine t_read rfl (gy rfl rfl rfl) (fun wz hz => vl_loadAgg ag40 sz40 rfl rfl (Cells.of_blk0 (hk1.chg0 hz))) rfl rfl ?_
      refine t_read rfl (gy rfl rfl rfl) (fun wz hz => vl_loadAgg ag40 sz40 rfl rfl (Cells.of_blk0 (hk1.chg0 hz))) rfl rfl ?_
      refine t_st rfl (gy rfl rfl rfl) (st_call bd188 rfl rfl rfl rfl (v_bare x _) ?_)
      rintro v18 w18 ⟨rfl, c18⟩
      refine ⟨.inl (hdA.trans c18), ?_⟩
      refine t_pure rfl (gy rfl rfl rfl) (fun _ => vl_neS fl40 rfl rfl ((eq_val x (bareN x)).trans (congrArg some (decide_eq_true hb)))) rfl rfl ?_
      refine t_pure rfl (gn rfl) (fun _ => vl_pick_f rfl rfl) rfl rfl ?_
      refine Tm rfl rfl ?_
      refine t_pure rfl (gy rfl rfl rfl) (fun _ => vl_fieldAddr fo295_0 rfl) rfl rfl ?_
      refine t_read rfl (gy rfl rfl rfl) (fun wz hz => vl_load ag185 rfl ((kA.chg0 hz).cell' rfl)) rfl rfl ?_
      refine t_read rfl (gy rfl rfl rfl) (fun wz hz => vl_loadAgg ag40 sz40 rfl rfl (Cells.of_blk0 (hk1.chg0 hz))) rfl rfl ?_
      refine t_st rfl (gy rfl rfl rfl) (st_call hbf rfl rfl rfl rfl (hmay _) ?_)
      rintro v25 w25 ⟨rfl, c25⟩
      refine ⟨.inl ((hdA.trans c18).trans c25), ?_⟩
      refine t_pure rfl (gy rfl rfl rfl) (fun _ => vl_not rfl) rfl rfl ?_
      refine t_pure rfl (gn rfl) (fun _ => vl_pick_f rfl rfl) rfl rfl ?_
      refine Ta rfl rfl ?_
      refine T_end [1, 12] (F' := [(1, _), (12, _)]) rfl ?_
      cases hm : mayN x with
      | false =>
        refine W_cond_true rfl (Sr (Oa rfl rfl (O_end [2] (F' := [(2, _)]) rfl (W_ret ?_))))
        repeat (first | refine then_ret ?_ | refine block_ret ?_)
        refine ret1 rfl rfl ?_
        exact ⟨by simp [chkN, fineV, hm], (((c1.trans hcA).trans hdA).trans c18).trans c25⟩
      | true =>
        refine W_cond_false rfl ?_
        have hc : Chg [] w w25 := (((c1.trans hcA).trans hdA).trans c18).trans c25
        have hf : fineV x = true := by simp only [fineV, hk, hm, Bool.true_and, Bool.and_true]; exact decide_eq_true hb
        refine Sr (Og (vl_fieldAddr fo40_3 rfl) rfl ?_)
        refine Og (vl_load ag9 rfl ((hk1.chg0 ((hdA.trans c18).trans c25)).cell' rfl)) rfl ?_
        refine Og (vl_slen st9 rfl) rfl ?_
        refine Og (vl_gtr rfl rfl) rfl ?_
        refine Oa rfl rfl (O_end [28] (F' := [(28, _)]) rfl ?_)
        refine W_cond rfl (fun hT => ?_) (fun hF => ?_)
        · refine Sr (Oa rfl rfl (O_end [2] (F' := [(2, _)]) rfl (W_ret ?_)))
          repeat (first | refine then_ret ?_ | refine block_ret ?_)
          refine ret1 rfl rfl ?_
          have h2 : 200 < x.b.size := by have := of_decide_eq_true hT; omega
          exact ⟨by simp [chkN, hf, h2], hc⟩
        · refine W_skip (block_normal (Sr (Oa rfl rfl (O_end [2] (F' := [(2, _)]) rfl (W_ret ?_)))))
          refine ret1 rfl rfl ?_
          have h2 : ¬ 200 < x.b.size := by have := of_decide_eq_false hF; omega
          exact ⟨by simp [chkN, hf, h2], hc⟩
    · refine W_draw (fun wz => Chg [] wA wz) mix (by kernel_rfl) hdA ?_
      refine Tm rfl rfl ?_
      refine t_pure rfl (gn rfl) (fun _ => vl_not rfl) rfl rfl ?_
      refine Tm rfl rfl ?_
      refine t_read rfl (gy rfl rfl rfl) (fun wz hz => vl_loadAgg ag40 sz40 rfl rfl (Cells.of_blk0 (hk1.chg0 hz))) rfl rfl ?_
      refine t_read rfl (gy rfl rfl rfl) (fun wz hz => vl_loadAgg ag40 sz40 rfl rfl (Cells.of_blk0 (hk1.chg0 hz))) rfl rfl ?_
      refine t_st rfl (gy rfl rfl rfl) (st_call bd188 rfl rfl rfl rfl (v_bare x _) ?_)
      rintro v18 w18 ⟨rfl, c18⟩
      refine ⟨.inl (hdA.trans c18), ?_⟩
      refine t_pure rfl (gy rfl rfl rfl) (fun _ => vl_neS fl40 rfl rfl ((eq_val x (bareN x)).trans (congrArg some (decide_eq_false hb)))) rfl rfl ?_
      refine t_pure rfl (gn rfl) (fun _ => vl_pick_f rfl rfl) rfl rfl ?_
      refine Tm rfl rfl (Tz rfl rfl rfl rfl (Tz rfl rfl rfl rfl (Tz rfl rfl rfl rfl (Tz rfl rfl rfl rfl (Tz rfl rfl rfl rfl ?_)))))
      refine t_pure rfl (gn rfl) (fun _ => vl_pick_t rfl rfl) rfl rfl ?_
      refine Ta rfl rfl ?_
      refine T_end [1, 12] (F' := [(1, _), (12, _)]) rfl ?_
      refine W_cond_true rfl (Sr (Oa rfl rfl (O_end [2] (F' := [(2, _)]) rfl (W_ret ?_))))
      repeat (first | refine then_ret ?_ | refine block_ret ?_)
      refine ret1 rfl rfl ?_
      exact ⟨by simp [chkN, fineV, hb], ((c1.trans hcA).trans hdA).trans c18⟩
end Go.Wk

namespace Go.Wk
open Go.Proofs
set_option maxRecDepth 10000

theorem s_whole (n : Int) (w : World) : Ret Tryz.prog 207 #[.int .i64 n] w fun r w' => r = .bool (wholeN n) ∧ w' = w := by
  refine Ret.of_W (args := [_]) Tryz.func207 rfl rfl rfl rfl ?_

  refine Sr (Oa rfl rfl (O_end [0] (F' := [(0, _)]) rfl (W_seq ?_)))
  by_cases h1 : n = 1
  · refine W_region (Om rfl rfl ?_)
    refine Og (vl_is (b' := true) (vl_ieq rfl rfl) (decide_eq_true (by omega))) rfl ?_
    refine Om rfl rfl (Oz rfl rfl rfl rfl (Oz rfl rfl rfl rfl (Ot rfl rfl rfl (Om rfl rfl (Oz rfl rfl rfl rfl (Oz rfl rfl rfl rfl (Ot rfl rfl rfl (Om rfl rfl (Oz rfl rfl rfl rfl (Oz rfl rfl rfl rfl (Ot rfl rfl rfl (Oa rfl rfl (O_end [2] (F' := [(2, _)]) rfl ?_)))))))))))))
    refine W_ret ?_
    refine ret1 rfl rfl ?_
    exact ⟨by simp [wholeN, h1], rfl⟩
  by_cases h2 : n = 2
  · refine W_region (Om rfl rfl ?_)
    refine Og (vl_is (b' := false) (vl_ieq rfl rfl) (decide_eq_false (by omega))) rfl ?_
    refine Om rfl rfl ?_
    refine Oy rfl rfl (vl_move rfl) rfl ?_
    refine Oy rfl rfl (vl_is (b' := true) (vl_ieq rfl rfl) (decide_eq_true (by omega))) rfl ?_
    refine Of rfl rfl rfl (Om rfl rfl (Oz rfl rfl rfl rfl (Oz rfl rfl rfl rfl (Ot rfl rfl rfl (Om rfl rfl (Oz rfl rfl rfl rfl (Oz rfl rfl rfl rfl (Ot rfl rfl rfl (Oa rfl rfl (O_end [2] (F' := [(2, _)]) rfl (W_ret ?_)))))))))))
    refine ret1 rfl rfl ?_
    exact ⟨by simp [wholeN, h2], rfl⟩
  by_cases h4 : n = 4
  · refine W_region (Om rfl rfl ?_)
    refine Og (vl_is (b' := false) (vl_ieq rfl rfl) (decide_eq_false (by omega))) rfl ?_
    refine Om rfl rfl ?_
    refine Oy rfl rfl (vl_move rfl) rfl ?_
    refine Oy rfl rfl (vl_is (b' := false) (vl_ieq rfl rfl) (decide_eq_false (by omega))) rfl ?_
    refine Of rfl rfl rfl (Om rfl rfl ?_)
    refine Oy rfl rfl (vl_move rfl) rfl ?_
    refine Oy rfl rfl (vl_is (b' := true) (vl_ieq rfl rfl) (decide_eq_true (by omega))) rfl ?_
    refine Of rfl rfl rfl (Om rfl rfl (Oz rfl rfl rfl rfl (Oz rfl rfl rfl rfl (Ot rfl rfl rfl (Oa rfl rfl (O_end [2] (F' := [(2, _)]) rfl (W_ret ?_)))))))
    refine ret1 rfl rfl ?_
    exact ⟨by simp [wholeN, h4], rfl⟩
  · refine W_region (Om rfl rfl ?_)
    refine Og (vl_is (b' := false) (vl_ieq rfl rfl) (decide_eq_false (by omega))) rfl ?_
    refine Om rfl rfl ?_
    refine Oy rfl rfl (vl_move rfl) rfl ?_
    refine Oy rfl rfl (vl_is (b' := false) (vl_ieq rfl rfl) (decide_eq_false (by omega))) rfl ?_
    refine Of rfl rfl rfl (Om rfl rfl ?_)
    refine Oy rfl rfl (vl_move rfl) rfl ?_
    refine Oy rfl rfl (vl_is (b' := false) (vl_ieq rfl rfl) (decide_eq_false (by omega))) rfl ?_
    refine Of rfl rfl rfl (Om rfl rfl ?_)
    refine Oy rfl rfl (vl_move rfl) rfl ?_
    refine Oy rfl rfl (vl_ieq rfl rfl) rfl ?_
    refine Of rfl rfl rfl (Oa rfl rfl (O_end [2] (F' := [(2, _)]) rfl (W_ret ?_)))
    refine ret1 rfl rfl ?_
    exact ⟨by simp [wholeN, h1, h2, h4], rfl⟩

theorem i64_wrap' (x : Int) : IntKind.i64.wrap x = (x + 9223372036854775808) % 18446744073709551616 - 9223372036854775808 := by
  simp only [IntKind.wrap, IntKind.bits, IntKind.signed]
  simp
  omega
theorem u64_wrap' (x : Int) : IntKind.u64.wrap x = x % 18446744073709551616 := by
  simp only [IntKind.wrap, IntKind.bits, IntKind.signed]
  simp
theorem s_fits1 (z : Int) (x : Val) (w : World) (hs : wholeN z = true) (hx : x.Rng) : Ret Tryz.prog 208 #[.int .i64 z, x.v] w fun r w' => r = .bool (!wideN ⟨e0, 1, z, false⟩ x) ∧ Chg [] w w' := by
  have hi := hx.i
  simp only [wholeN, Bool.or_eq_true, decide_eq_true_eq] at hs
  refine Ret.of_W (args := [_, _]) Tryz.func208 rfl rfl rfl rfl ?_

  rcases (show z = 1 ∨ z = 2 ∨ z = 4 ∨ z = 8 by omega) with rfl | rfl | rfl | rfl
  · refine Sr ?_
    refine O_go (gn rfl) (st_box rfl rfl rfl ?_)
    intro b3 w3 e3 n3 c3 k3
    refine Oa rfl rfl (O_end [0, 3] (F' := [(0, _), (3, _)]) rfl (Sr (Om rfl rfl ?_)))
    refine Og (vl_mul rfl rfl (by omega)) rfl ?_
    refine Og (vl_sub rfl rfl (by omega)) rfl ?_
    refine Oa rfl rfl (O_end [3, 5] (F' := [(3, _), (5, _)]) rfl (W_seq ?_))
    refine W_draw (fun wz => Chg [] w3 wz) mix (by kernel_rfl) (Chg.drew [] _) ?_
    refine t_pure rfl (gn rfl) (fun _ => vl_fieldAddr fo40_1 rfl) rfl rfl ?_
    refine t_read rfl (gn rfl) (fun wz hz => vl_load ag2 rfl ((k3.chg0 hz).cell' rfl)) rfl rfl ?_
    refine Tm rfl rfl ?_
    refine t_pure rfl (gn rfl) (fun _ => vl_shl 56 rfl rfl (by omega) (by decide) rfl) rfl rfl ?_
    refine Tm rfl rfl ?_
    refine t_pure rfl (gn rfl) (fun _ => vl_shr 56 rfl rfl (by omega) (by decide) rfl) rfl rfl ?_
    refine t_pure rfl (gn rfl) (fun _ => vl_fieldAddr fo40_1 rfl) rfl rfl ?_
    refine t_read rfl (gn rfl) (fun wz hz => vl_load ag2 rfl ((k3.chg0 hz).cell' rfl)) rfl rfl ?_
    refine t_pure rfl (gn rfl) (fun _ => vl_ieq rfl rfl) rfl rfl ?_
    refine Ta rfl rfl ?_
    refine T_end [4] (F' := [(4, _)]) rfl ?_
    refine W_ret ?_
    refine ret1 rfl rfl ?_
    refine ⟨?_, c3.trans (Chg.drew [] _)⟩
    rw [i64_wrap', Int.fdiv_eq_ediv_of_nonneg _ (by decide)]
    congr 1
    rw [Bool.eq_iff_iff]
    simp [wideN, leastN]
    omega
  · refine Sr ?_
    refine O_go (gn rfl) (st_box rfl rfl rfl ?_)
    intro b3 w3 e3 n3 c3 k3
    refine Oa rfl rfl (O_end [0, 3] (F' := [(0, _), (3, _)]) rfl (Sr (Om rfl rfl ?_)))
    refine Og (vl_mul rfl rfl (by omega)) rfl ?_
    refine Og (vl_sub rfl rfl (by omega)) rfl ?_
    refine Oa rfl rfl (O_end [3, 5] (F' := [(3, _), (5, _)]) rfl (W_seq ?_))
    refine W_draw (fun wz => Chg [] w3 wz) mix (by kernel_rfl) (Chg.drew [] _) ?_
    refine t_pure rfl (gn rfl) (fun _ => vl_fieldAddr fo40_1 rfl) rfl rfl ?_
    refine t_read rfl (gn rfl) (fun wz hz => vl_load ag2 rfl ((k3.chg0 hz).cell' rfl)) rfl rfl ?_
    refine Tm rfl rfl ?_
    refine t_pure rfl (gn rfl) (fun _ => vl_shl 48 rfl rfl (by omega) (by decide) rfl) rfl rfl ?_
    refine Tm rfl rfl ?_
    refine t_pure rfl (gn rfl) (fun _ => vl_shr 48 rfl rfl (by omega) (by decide) rfl) rfl rfl ?_
    refine t_pure rfl (gn rfl) (fun _ => vl_fieldAddr fo40_1 rfl) rfl rfl ?_
    refine t_read rfl (gn rfl) (fun wz hz => vl_load ag2 rfl ((k3.chg0 hz).cell' rfl)) rfl rfl ?_
    refine t_pure rfl (gn rfl) (fun _ => vl_ieq rfl rfl) rfl rfl ?_
    refine Ta rfl rfl ?_
    refine T_end [4] (F' := [(4, _)]) rfl ?_
    refine W_ret ?_
    refine ret1 rfl rfl ?_
    refine ⟨?_, c3.trans (Chg.drew [] _)⟩
    rw [i64_wrap', Int.fdiv_eq_ediv_of_nonneg _ (by decide)]
    congr 1
    rw [Bool.eq_iff_iff]
    simp [wideN, leastN]
    omega
  · refine Sr ?_
    refine O_go (gn rfl) (st_box rfl rfl rfl ?_)
    intro b3 w3 e3 n3 c3 k3
    refine Oa rfl rfl (O_end [0, 3] (F' := [(0, _), (3, _)]) rfl (Sr (Om rfl rfl ?_)))
    refine Og (vl_mul rfl rfl (by omega)) rfl ?_
    refine Og (vl_sub rfl rfl (by omega)) rfl ?_
    refine Oa rfl rfl (O_end [3, 5] (F' := [(3, _), (5, _)]) rfl (W_seq ?_))
    refine W_draw (fun wz => Chg [] w3 wz) mix (by kernel_rfl) (Chg.drew [] _) ?_
    refine t_pure rfl (gn rfl) (fun _ => vl_fieldAddr fo40_1 rfl) rfl rfl ?_
    refine t_read rfl (gn rfl) (fun wz hz => vl_load ag2 rfl ((k3.chg0 hz).cell' rfl)) rfl rfl ?_
    refine Tm rfl rfl ?_
    refine t_pure rfl (gn rfl) (fun _ => vl_shl 32 rfl rfl (by omega) (by decide) rfl) rfl rfl ?_
    refine Tm rfl rfl ?_
    refine t_pure rfl (gn rfl) (fun _ => vl_shr 32 rfl rfl (by omega) (by decide) rfl) rfl rfl ?_
    refine t_pure rfl (gn rfl) (fun _ => vl_fieldAddr fo40_1 rfl) rfl rfl ?_
    refine t_read rfl (gn rfl) (fun wz hz => vl_load ag2 rfl ((k3.chg0 hz).cell' rfl)) rfl rfl ?_
    refine t_pure rfl (gn rfl) (fun _ => vl_ieq rfl rfl) rfl rfl ?_
    refine Ta rfl rfl ?_
    refine T_end [4] (F' := [(4, _)]) rfl ?_
    refine W_ret ?_
    refine ret1 rfl rfl ?_
    refine ⟨?_, c3.trans (Chg.drew [] _)⟩
    rw [i64_wrap', Int.fdiv_eq_ediv_of_nonneg _ (by decide)]
    congr 1
    rw [Bool.eq_iff_iff]
    simp [wideN, leastN]
    omega
  · refine Sr ?_
    refine O_go (gn rfl) (st_box rfl rfl rfl ?_)
    intro b3 w3 e3 n3 c3 k3
    refine Oa rfl rfl (O_end [0, 3] (F' := [(0, _), (3, _)]) rfl (Sr (Om rfl rfl ?_)))
    refine Og (vl_mul rfl rfl (by omega)) rfl ?_
    refine Og (vl_sub rfl rfl (by omega)) rfl ?_
    refine Oa rfl rfl (O_end [3, 5] (F' := [(3, _), (5, _)]) rfl (W_seq ?_))
    refine W_draw (fun wz => Chg [] w3 wz) mix (by kernel_rfl) (Chg.drew [] _) ?_
    refine t_pure rfl (gn rfl) (fun _ => vl_fieldAddr fo40_1 rfl) rfl rfl ?_
    refine t_read rfl (gn rfl) (fun wz hz => vl_load ag2 rfl ((k3.chg0 hz).cell' rfl)) rfl rfl ?_
    refine Tm rfl rfl ?_
    refine t_pure rfl (gn rfl) (fun _ => vl_shl 0 rfl rfl (by omega) (by decide) rfl) rfl rfl ?_
    refine Tm rfl rfl ?_
    refine t_pure rfl (gn rfl) (fun _ => vl_shr 0 rfl rfl (by omega) (by decide) rfl) rfl rfl ?_
    refine t_pure rfl (gn rfl) (fun _ => vl_fieldAddr fo40_1 rfl) rfl rfl ?_
    refine t_read rfl (gn rfl) (fun wz hz => vl_load ag2 rfl ((k3.chg0 hz).cell' rfl)) rfl rfl ?_
    refine t_pure rfl (gn rfl) (fun _ => vl_ieq rfl rfl) rfl rfl ?_
    refine Ta rfl rfl ?_
    refine T_end [4] (F' := [(4, _)]) rfl ?_
    refine W_ret ?_
    refine ret1 rfl rfl ?_
    refine ⟨?_, c3.trans (Chg.drew [] _)⟩
    rw [i64_wrap', Int.fdiv_eq_ediv_of_nonneg _ (by decide)]
    congr 1
    rw [Bool.eq_iff_iff]
    simp [wideN, leastN]
    omega
theorem s_fits2 (z : Int) (x : Val) (w : World) (hs : wholeN z = true) (hx : x.Rng) : Ret Tryz.prog 209 #[.int .i64 z, x.v] w fun r w' => r = .bool (!wideN ⟨e0, 2, z, false⟩ x) ∧ Chg [] w w' := by
  have hi := hx.u
  simp only [wholeN, Bool.or_eq_true, decide_eq_true_eq] at hs
  refine Ret.of_W (args := [_, _]) Tryz.func209 rfl rfl rfl rfl ?_

  rcases (show z = 1 ∨ z = 2 ∨ z = 4 ∨ z = 8 by omega) with rfl | rfl | rfl | rfl
  · refine Sr ?_
    refine O_go (gn rfl) (st_box rfl rfl rfl ?_)
    intro b3 w3 e3 n3 c3 k3
    refine Oa rfl rfl (O_end [0, 3] (F' := [(0, _), (3, _)]) rfl (Sr (Om rfl rfl ?_)))
    refine Og (vl_mul rfl rfl (by omega)) rfl ?_
    refine Og (vl_sub rfl rfl (by omega)) rfl ?_
    refine Oa rfl rfl (O_end [3, 5] (F' := [(3, _), (5, _)]) rfl (W_seq ?_))
    refine W_draw (fun wz => Chg [] w3 wz) mix (by kernel_rfl) (Chg.drew [] _) ?_
    refine t_pure rfl (gn rfl) (fun _ => vl_fieldAddr fo40_2 rfl) rfl rfl ?_
    refine t_read rfl (gn rfl) (fun wz hz => vl_load ag38 rfl ((k3.chg0 hz).cell' rfl)) rfl rfl ?_
    refine Tm rfl rfl ?_
    refine t_pure rfl (gn rfl) (fun _ => vl_shl 56 rfl rfl (by omega) (by decide) rfl) rfl rfl ?_
    refine Tm rfl rfl ?_
    refine t_pure rfl (gn rfl) (fun _ => vl_shr 56 rfl rfl (by omega) (by decide) rfl) rfl rfl ?_
    refine t_pure rfl (gn rfl) (fun _ => vl_fieldAddr fo40_2 rfl) rfl rfl ?_
    refine t_read rfl (gn rfl) (fun wz hz => vl_load ag38 rfl ((k3.chg0 hz).cell' rfl)) rfl rfl ?_
    refine t_pure rfl (gn rfl) (fun _ => vl_ieq rfl rfl) rfl rfl ?_
    refine Ta rfl rfl ?_
    refine T_end [4] (F' := [(4, _)]) rfl ?_
    refine W_ret ?_
    refine ret1 rfl rfl ?_
    refine ⟨?_, c3.trans (Chg.drew [] _)⟩
    rw [u64_wrap', Int.fdiv_eq_ediv_of_nonneg _ (by decide)]
    congr 1
    rw [Bool.eq_iff_iff]
    simp [wideN, leastN]
    omega
  · refine Sr ?_
    refine O_go (gn rfl) (st_box rfl rfl rfl ?_)
    intro b3 w3 e3 n3 c3 k3
    refine Oa rfl rfl (O_end [0, 3] (F' := [(0, _), (3, _)]) rfl (Sr (Om rfl rfl ?_)))
    refine Og (vl_mul rfl rfl (by omega)) rfl ?_
    refine Og (vl_sub rfl rfl (by omega)) rfl ?_
    refine Oa rfl rfl (O_end [3, 5] (F' := [(3, _), (5, _)]) rfl (W_seq ?_))
    refine W_draw (fun wz => Chg [] w3 wz) mix (by kernel_rfl) (Chg.drew [] _) ?_
    refine t_pure rfl (gn rfl) (fun _ => vl_fieldAddr fo40_2 rfl) rfl rfl ?_
    refine t_read rfl (gn rfl) (fun wz hz => vl_load ag38 rfl ((k3.chg0 hz).cell' rfl)) rfl rfl ?_
    refine Tm rfl rfl ?_
    refine t_pure rfl (gn rfl) (fun _ => vl_shl 48 rfl rfl (by omega) (by decide) rfl) rfl rfl ?_
    refine Tm rfl rfl ?_
    refine t_pure rfl (gn rfl) (fun _ => vl_shr 48 rfl rfl (by omega) (by decide) rfl) rfl rfl ?_
    refine t_pure rfl (gn rfl) (fun _ => vl_fieldAddr fo40_2 rfl) rfl rfl ?_
    refine t_read rfl (gn rfl) (fun wz hz => vl_load ag38 rfl ((k3.chg0 hz).cell' rfl)) rfl rfl ?_
    refine t_pure rfl (gn rfl) (fun _ => vl_ieq rfl rfl) rfl rfl ?_
    refine Ta rfl rfl ?_
    refine T_end [4] (F' := [(4, _)]) rfl ?_
    refine W_ret ?_
    refine ret1 rfl rfl ?_
    refine ⟨?_, c3.trans (Chg.drew [] _)⟩
    rw [u64_wrap', Int.fdiv_eq_ediv_of_nonneg _ (by decide)]
    congr 1
    rw [Bool.eq_iff_iff]
    simp [wideN, leastN]
    omega
  · refine Sr ?_
    refine O_go (gn rfl) (st_box rfl rfl rfl ?_)
    intro b3 w3 e3 n3 c3 k3
    refine Oa rfl rfl (O_end [0, 3] (F' := [(0, _), (3, _)]) rfl (Sr (Om rfl rfl ?_)))
    refine Og (vl_mul rfl rfl (by omega)) rfl ?_
    refine Og (vl_sub rfl rfl (by omega)) rfl ?_
    refine Oa rfl rfl (O_end [3, 5] (F' := [(3, _), (5, _)]) rfl (W_seq ?_))
    refine W_draw (fun wz => Chg [] w3 wz) mix (by kernel_rfl) (Chg.drew [] _) ?_
    refine t_pure rfl (gn rfl) (fun _ => vl_fieldAddr fo40_2 rfl) rfl rfl ?_
    refine t_read rfl (gn rfl) (fun wz hz => vl_load ag38 rfl ((k3.chg0 hz).cell' rfl)) rfl rfl ?_
    refine Tm rfl rfl ?_
    refine t_pure rfl (gn rfl) (fun _ => vl_shl 32 rfl rfl (by omega) (by decide) rfl) rfl rfl ?_
    refine Tm rfl rfl ?_
    refine t_pure rfl (gn rfl) (fun _ => vl_shr 32 rfl rfl (by omega) (by decide) rfl) rfl rfl ?_
    refine t_pure rfl (gn rfl) (fun _ => vl_fieldAddr fo40_2 rfl) rfl rfl ?_
    refine t_read rfl (gn rfl) (fun wz hz => vl_load ag38 rfl ((k3.chg0 hz).cell' rfl)) rfl rfl ?_
    refine t_pure rfl (gn rfl) (fun _ => vl_ieq rfl rfl) rfl rfl ?_
    refine Ta rfl rfl ?_
    refine T_end [4] (F' := [(4, _)]) rfl ?_
    refine W_ret ?_
    refine ret1 rfl rfl ?_
    refine ⟨?_, c3.trans (Chg.drew [] _)⟩
    rw [u64_wrap', Int.fdiv_eq_ediv_of_nonneg _ (by decide)]
    congr 1
    rw [Bool.eq_iff_iff]
    simp [wideN, leastN]
    omega
  · refine Sr ?_
    refine O_go (gn rfl) (st_box rfl rfl rfl ?_)
    intro b3 w3 e3 n3 c3 k3
    refine Oa rfl rfl (O_end [0, 3] (F' := [(0, _), (3, _)]) rfl (Sr (Om rfl rfl ?_)))
    refine Og (vl_mul rfl rfl (by omega)) rfl ?_
    refine Og (vl_sub rfl rfl (by omega)) rfl ?_
    refine Oa rfl rfl (O_end [3, 5] (F' := [(3, _), (5, _)]) rfl (W_seq ?_))
    refine W_draw (fun wz => Chg [] w3 wz) mix (by kernel_rfl) (Chg.drew [] _) ?_
    refine t_pure rfl (gn rfl) (fun _ => vl_fieldAddr fo40_2 rfl) rfl rfl ?_
    refine t_read rfl (gn rfl) (fun wz hz => vl_load ag38 rfl ((k3.chg0 hz).cell' rfl)) rfl rfl ?_
    refine Tm rfl rfl ?_
    refine t_pure rfl (gn rfl) (fun _ => vl_shl 0 rfl rfl (by omega) (by decide) rfl) rfl rfl ?_
    refine Tm rfl rfl ?_
    refine t_pure rfl (gn rfl) (fun _ => vl_shr 0 rfl rfl (by omega) (by decide) rfl) rfl rfl ?_
    refine t_pure rfl (gn rfl) (fun _ => vl_fieldAddr fo40_2 rfl) rfl rfl ?_
    refine t_read rfl (gn rfl) (fun wz hz => vl_load ag38 rfl ((k3.chg0 hz).cell' rfl)) rfl rfl ?_
    refine t_pure rfl (gn rfl) (fun _ => vl_ieq rfl rfl) rfl rfl ?_
    refine Ta rfl rfl ?_
    refine T_end [4] (F' := [(4, _)]) rfl ?_
    refine W_ret ?_
    refine ret1 rfl rfl ?_
    refine ⟨?_, c3.trans (Chg.drew [] _)⟩
    rw [u64_wrap', Int.fdiv_eq_ediv_of_nonneg _ (by decide)]
    congr 1
    rw [Bool.eq_iff_iff]
    simp [wideN, leastN]
    omega
theorem wide_col (c : Col) (x : Val) : wideN c x = wideN ⟨e0, c.t, c.s, false⟩ x := rfl
theorem s_fits4 (z : Int) (x : Val) (w : World) : Ret Tryz.prog 211 #[.int .i64 z, x.v] w fun r w' => r = .bool true ∧ Chg [] w w' := by
  refine Ret.of_W (args := [_, _]) Tryz.func211 rfl rfl rfl rfl ?_

  refine Sr ?_
  refine O_go (gn rfl) (st_box rfl rfl rfl ?_)
  intro b3 w3 e3 n3 c3 k3
  refine Oa rfl rfl (O_end [] (F' := []) rfl (Sr (Oa rfl rfl (O_end [4] (F' := [(4, _)]) rfl (W_ret ?_)))))
  refine ret1 rfl rfl ?_
  exact ⟨rfl, c3⟩
theorem s_fits6 (z : Int) (x : Val) (w : World) : Ret Tryz.prog 213 #[.int .i64 z, x.v] w fun r w' => r = .bool (!wideN ⟨e0, 4, z, false⟩ x) ∧ Chg [] w w' := by
  refine Ret.of_W (args := [_, _]) Tryz.func213 rfl rfl rfl rfl ?_

  refine Sr ?_
  refine O_go (gn rfl) (st_box rfl rfl rfl ?_)
  intro b3 w3 e3 n3 c3 k3
  refine Oa rfl rfl (O_end [0, 3] (F' := [(0, _), (3, _)]) rfl (Sr (Og (vl_fieldAddr fo40_3 rfl) rfl ?_)))
  refine Og (vl_load ag9 rfl (k3.cell' rfl)) rfl ?_
  refine Og (vl_slen st9 rfl) rfl ?_
  refine Om rfl rfl ?_
  refine Og (vl_leq rfl rfl) rfl ?_
  refine Oa rfl rfl (O_end [4] (F' := [(4, _)]) rfl (W_ret ?_))
  refine ret1 rfl rfl ?_
  refine ⟨?_, c3⟩
  congr 1
  rw [Bool.eq_iff_iff]
  simp [wideN]
theorem s_size3 (n : Int) (w : World) : Ret Tryz.prog 210 #[.int .i64 n] w fun r w' => r = .bool (decide (n = 0)) ∧ w' = w := by
  refine Ret.of_W (args := [_]) Tryz.func210 rfl rfl rfl rfl ?_

  refine Sr (Oa rfl rfl (O_end [0] (F' := [(0, _)]) rfl (Sr (Om rfl rfl (Og (vl_ieq rfl rfl) rfl (Oa rfl rfl (O_end [2] (F' := [(2, _)]) rfl (W_ret ?_))))))))
  refine ret1 rfl rfl ?_
  exact ⟨rfl, rfl⟩
theorem s_size5 (n : Int) (w : World) : Ret Tryz.prog 212 #[.int .i64 n] w fun r w' => r = .bool (decide (1 ≤ n ∧ n ≤ 200)) ∧ w' = w := by
  refine Ret.of_W (args := [_]) Tryz.func212 rfl rfl rfl rfl ?_

  refine Sr (Oa rfl rfl (O_end [0] (F' := [(0, _)]) rfl (W_seq ?_)))
  by_cases h : 1 ≤ n
  · refine W_region (Om rfl rfl ?_)
    refine Og (vl_is (b' := true) (vl_geq rfl rfl) (decide_eq_true (by omega))) rfl ?_
    refine Om rfl rfl ?_
    refine Oy rfl rfl (vl_move rfl) rfl ?_
    refine Oy rfl rfl (vl_leq rfl rfl) rfl ?_
    refine Ot rfl rfl rfl (Oa rfl rfl (O_end [2] (F' := [(2, _)]) rfl (W_ret ?_)))
    refine ret1 rfl rfl ?_
    exact ⟨by simp [h], rfl⟩
  · refine W_region (Om rfl rfl ?_)
    refine Og (vl_is (b' := false) (vl_geq rfl rfl) (decide_eq_false (by omega))) rfl ?_
    refine Om rfl rfl (Oz rfl rfl rfl rfl (Oz rfl rfl rfl rfl (Of rfl rfl rfl (Oa rfl rfl (O_end [2] (F' := [(2, _)]) rfl (W_ret ?_))))))
    refine ret1 rfl rfl ?_
    exact ⟨by simp [h], rfl⟩

/-! ### names -/
def letF (c : Int) : Bool := decide (97 ≤ c ∧ c ≤ 122)
def letO (c : Int) : Bool := decide (c = 95) || decide (48 ≤ c ∧ c ≤ 57) || letF c
theorem s_letter (f : Bool) (w : World) : Ret Tryz.prog 214 #[.bool f] w fun r w' => ∃ b, r = .func (.func 253) #[] #[.pointer (some ⟨b, 0, none⟩)] ∧ w.heap.size ≤ b ∧ Blk w' b 4 [.bool f] ∧ Chg [] w w' := by
  refine Ret.of_W (args := [_]) Tryz.func214 rfl rfl rfl rfl ?_

  refine Sr ?_
  refine O_go (gn rfl) (st_box rfl rfl rfl ?_)
  intro b1 w1 e1 n1 c1 k1
  refine Oa rfl rfl (O_end [1] (F' := [(1, _)]) rfl (Sr ?_))
  refine Og (vl_func rfl rfl) rfl ?_
  refine Oa rfl rfl (O_end [2] (F' := [(2, _)]) rfl (W_ret ?_))
  refine ret1 rfl rfl ?_
  exact ⟨b1, rfl, by omega, k1, c1⟩
theorem s_let1 (c : Int) (f : Bool) (b : Nat) (w : World) (hb : Blk w b 4 [.bool f]) : Ret Tryz.prog 253 #[.int .i32 c, .pointer (some ⟨b, 0, none⟩)] w fun r w' => r = .bool (if f then letF c else letO c) ∧ w' = w := by
  refine Ret.of_W (args := [_, _]) Tryz.func253 rfl rfl rfl rfl ?_

  refine Sr (Oa rfl rfl (O_end [0, 1] (F' := [(0, _), (1, _)]) rfl (W_seq (W_block (W_seq (W_block ?_))))))
  refine W_seq_cut (fun F wx => wx = w ∧ (decide (c = 95) || decide (48 ≤ c ∧ c ≤ 57)) = true ∧ F = [(1, .pointer (some ⟨b, 0, none⟩))]) ?_ ?_
  · refine W_block (W_seq (W_seq ?_))
    refine W_seq_cut (fun F wx => wx = w ∧ F = [(0, .int .i32 c), (1, .pointer (some ⟨b, 0, none⟩)), (4, .bool (decide (c = 95) || decide (48 ≤ c ∧ c ≤ 57)))]) ?_ ?_
    · refine Sr (Om rfl rfl (Og (vl_ieq rfl rfl) rfl (Oa rfl rfl (O_end [0, 1, 4] (F' := [(0, _), (1, _), (4, _)]) rfl ?_))))
      refine W_cond rfl (fun hT => ?_) (fun hF => ?_)
      · refine W_skipE ?_
        exact ⟨rfl, by simp [of_decide_eq_true hT]⟩
      · have h := of_decide_eq_false hF
        by_cases h1 : 48 ≤ c
        · refine W_region (Om rfl rfl ?_)
          refine Og (vl_is (b' := true) (vl_geq rfl rfl) (decide_eq_true (by omega))) rfl ?_
          refine Om rfl rfl ?_
          refine Oy rfl rfl (vl_move rfl) rfl ?_
          refine Oy rfl rfl (vl_leq rfl rfl) rfl ?_
          refine Ot rfl rfl rfl (Oa rfl rfl (O_end [0, 1, 4] (F' := [(0, _), (1, _), (4, _)]) rfl ?_))
          exact ⟨rfl, by simp [h, h1]⟩
        · refine W_region (Om rfl rfl ?_)
          refine Og (vl_is (b' := false) (vl_geq rfl rfl) (decide_eq_false (by omega))) rfl ?_
          refine Om rfl rfl (Oz rfl rfl rfl rfl (Oz rfl rfl rfl rfl (Of rfl rfl rfl (Oa rfl rfl (O_end [0, 1, 4] (F' := [(0, _), (1, _), (4, _)]) rfl ?_)))))
          exact ⟨rfl, by simp [h, h1]⟩
    rintro F wx ⟨rfl, rfl⟩
    refine W_cond rfl (fun hT => ?_) (fun hF => ?_)
    · refine W_prune [1] rfl ?_
      refine W_exit ?_
      repeat (first | refine then_exit ?_ | refine blockF_other rfl ?_)
      refine blockF_exit _ ?_
      exact ⟨rfl, hT, rfl⟩
    refine W_skipE (W_seq ?_)
    have ho : (decide (c = 95) || decide (48 ≤ c ∧ c ≤ 57)) = false := hF
    by_cases h1 : 97 ≤ c
    · refine W_region (Om rfl rfl ?_)
      refine Og (vl_is (b' := true) (vl_geq rfl rfl) (decide_eq_true (by omega))) rfl ?_
      refine Om rfl rfl ?_
      refine Oy rfl rfl (vl_move rfl) rfl ?_
      refine Oy rfl rfl (vl_leq rfl rfl) rfl ?_
      refine Ot rfl rfl rfl (Oa rfl rfl (O_end [13] (F' := [(13, _)]) rfl ?_))
      refine W_cond rfl (fun hT => ?_) (fun hF => ?_)
      · refine W_exit ?_
        repeat (first | refine then_exit ?_ | refine blockF_other rfl ?_)
        refine blockF_exit _ ?_
        refine W_seq (Sr (Oa rfl rfl (O_end [3] (F' := [(3, _)]) rfl (W_ret ?_))))
        repeat (first | refine then_ret ?_ | refine block_ret ?_)
        refine ret1 rfl rfl ?_
        have h2 : c ≤ 122 := of_decide_eq_true hT
        exact ⟨by cases f <;> simp [letO, letF, h1, h2], rfl⟩
      · refine W_skipE ?_
        refine W_exit ?_
        repeat (first | refine then_exit ?_ | refine blockF_other rfl ?_)
        refine blockF_exit _ ?_
        refine Sr (Oa rfl rfl (O_end [3] (F' := [(3, _)]) rfl (W_ret ?_)))
        repeat (first | refine then_ret ?_ | refine block_ret ?_)
        refine ret1 rfl rfl ?_
        have h2 : ¬ c ≤ 122 := of_decide_eq_false hF
        refine ⟨?_, rfl⟩
        unfold letO
        rw [ho]
        cases f <;> simp [letF, h2]
    · refine W_region (Om rfl rfl ?_)
      refine Og (vl_is (b' := false) (vl_geq rfl rfl) (decide_eq_false (by omega))) rfl ?_
      refine Om rfl rfl (Oz rfl rfl rfl rfl (Oz rfl rfl rfl rfl (Of rfl rfl rfl (Oa rfl rfl (O_end [13] (F' := [(13, _)]) rfl (W_cond_false rfl (W_skipE ?_)))))))
      refine W_exit ?_
      repeat (first | refine then_exit ?_ | refine blockF_other rfl ?_)
      refine blockF_exit _ ?_
      refine Sr (Oa rfl rfl (O_end [3] (F' := [(3, _)]) rfl (W_ret ?_)))
      repeat (first | refine then_ret ?_ | refine block_ret ?_)
      refine ret1 rfl rfl ?_
      refine ⟨?_, rfl⟩
      unfold letO
      rw [ho]
      cases f <;> simp [letF, h1]
  rintro F wx ⟨rfl, ho, rfl⟩
  refine Sr ?_
  refine Og (vl_load ag4 rfl (hb.cell' rfl)) rfl ?_
  refine O_end [20] (F' := [(20, _)]) rfl ?_
  cases f with
  | true =>
    refine W_cond_true rfl (Sr (Oa rfl rfl (O_end [3] (F' := [(3, _)]) rfl (W_ret ?_))))
    repeat (first | refine then_ret ?_ | refine block_ret ?_)
    refine ret1 rfl rfl ?_
    refine ⟨?_, rfl⟩
    simp only [Bool.or_eq_true, decide_eq_true_eq] at ho
    have : letF c = false := by simp [letF]; omega
    simp [this]
  | false =>
    refine W_cond_false rfl (W_skip (block_normal (W_seq (Sr (Oa rfl rfl (O_end [3] (F' := [(3, _)]) rfl (W_ret ?_)))))))
    repeat (first | refine then_ret ?_ | refine block_ret ?_)
    refine ret1 rfl rfl ?_
    refine ⟨?_, rfl⟩
    unfold letO
    rw [ho]
    rfl

/-! others -/
theorem s_named1 (c : Int) (b q : Nat) (w : World) (hb : Blk w b 4 [.bool false]) (hq : Blk w q 312 [.func (.func 253) #[] #[.pointer (some ⟨b, 0, none⟩)]]) :
    Ret Tryz.prog 216 #[.int .i32 c, .pointer (some ⟨q, 0, none⟩)] w fun r w' => r = .bool (!letO c) ∧ w' = w := by
  refine Ret.of_W (args := [_, _]) Tryz.func216 rfl rfl rfl rfl ?_

  refine Sr (Oa rfl rfl (O_end [0, 1] (F' := [(0, _), (1, _)]) rfl (Sr ?_)))
  refine Og (vl_load ag312 rfl (hq.cell' rfl)) rfl ?_
  refine Om rfl rfl ?_
  refine O_go (gn rfl) (st_call bd253 rfl rfl rfl rfl (s_let1 c false b _ hb) ?_)
  rintro v6 w6 ⟨rfl, rfl⟩
  refine Og (vl_not rfl) rfl (Oa rfl rfl (O_end [3] (F' := [(3, _)]) rfl (W_ret ?_)))
  refine ret1 rfl rfl ?_
  exact ⟨rfl, rfl⟩

/-- A byte of a name, but for the first. -/
def nameB (b : UInt8) : Bool := lowB b || digB b
theorem letO_byte (b : UInt8) : letO (b.toNat : Int) = nameB b := by
  unfold letO letF nameB lowB digB
  rw [Bool.eq_iff_iff]
  simp
  omega
theorem letO_high {c : Nat} (h : 128 ≤ c) : letO (c : Int) = false := by
  unfold letO letF
  simp
  omega
theorem nameB_low {b : UInt8} (h : nameB b = true) : b.toNat < 128 := by
  simp [nameB, lowB, digB] at h
  omega
theorem dec_name {s : ByteArray} {p : Nat} {b : UInt8} (h : s.data.toList[p]? = some b) : letO ((Utf8.decode s p).1 : Int) = nameB b ∧ (nameB b = true → (Utf8.decode s p).2 = 1) := by
  obtain ⟨hl, hb⟩ := List.getElem?_eq_some_iff.1 h
  have hp : p < s.size := by simpa using hl
  have e : s[p]'hp = b := by rw [← hb]; rfl
  by_cases hh : b.toNat < 128
  · have := decode_ascii s p hp (by rw [e]; exact hh)
    rw [this, e]
    exact ⟨letO_byte b, fun _ => rfl⟩
  · have := (decode_high s p hp (by rw [e]; omega)).1
    rw [letO_high this]
    have : nameB b = false := by
      cases hn : nameB b with
      | false => rfl
      | true => exact absurd (nameB_low hn) hh
    exact ⟨this.symm, fun h => by rw [this] at h; cases h⟩

theorem s_indexFunc (s : ByteArray) (b q : Nat) (w : World) (hb : Blk w b 4 [.bool false]) (hq : Blk w q 312 [.func (.func 253) #[] #[.pointer (some ⟨b, 0, none⟩)]]) :
    Ret Tryz.prog 270 #[.string s, .func (.func 216) #[] #[.pointer (some ⟨q, 0, none⟩)], .bool true] w fun r w' => ∃ i : Int, r = .int .i64 i ∧ decide (0 ≤ i) = !(s.data.toList.all nameB) ∧ Chg [] w w' := by
  refine Ret.of_W (args := [_, _, _]) Tryz.func270 rfl rfl rfl rfl ?_

  refine Sr (Oa rfl rfl (O_end [0, 1, 2] (F' := [(0, _), (1, _), (2, _)]) rfl (W_seq (Sr (Om rfl rfl ?_)))))
  refine O_go (gn rfl) (st_rangeS st9 rfl rfl ?_)
  intro b10 w10 e10 n10 c10 k10
  refine O_end [1, 2, 10] (F' := [(1, _), (2, _), (10, _)]) rfl (W_block ?_)
  refine W_loop [1, 2, 10] (fun m F wx => ∃ j, m = s.size - j ∧ j ≤ s.size ∧ F = [(1, .func (.func 216) #[] #[.pointer (some ⟨q, 0, none⟩)]), (2, .bool true), (10, .pointer (some ⟨b10, 0, none⟩))] ∧ IsSi wx b10 s j ∧ Chg [b10] w10 wx ∧ (s.data.toList.take j).all nameB = true) (m := s.size - 0) ⟨0, rfl, Nat.zero_le _, rfl, k10, Chg.refl _ _, by simp⟩ ?_
  rintro m F wx ⟨j, rfl, hj, rfl, hit, hc, hall⟩
  have hn10 := c10.size
  have hbx : Blk wx b 4 [.bool false] := (hb.chg0 c10).chg hc (by simp; have := hb.lt; omega)
  have hqx := (hq.chg0 c10).chg hc (by simp; have := hq.lt; omega)
  have hcw : Chg [] w wx := c10.own hc (by intro y hy; simp at hy; omega)
  have hsz : s.data.toList.length = s.size := by simp
  rcases Nat.lt_or_ge j s.size with hlt | hge
  · have hx : s.data.toList[j]? = some s.data.toList[j] := by simp [hlt]
    generalize s.data.toList[j] = x at hx
    obtain ⟨hd1, hd2⟩ := dec_name hx
    refine Sr ?_
    refine O_go (gn rfl) (st_nextS rfl hit rfl (fun h => absurd h (by omega)) ?_)
    intro w11 hp11 n11 c11 i11
    refine Oe rfl rfl rfl (O_end [1, 2, 10, 11, 12] (F' := [(1, _), (2, _), (10, _), (11, _), (12, _)]) rfl (W_seq (W_cond_true rfl (W_skipE (W_block (Sr (Oe rfl rfl rfl (Oe rfl rfl rfl (Oa rfl rfl (Oa rfl rfl (O_end [1, 2, 7, 8, 10] (F' := [(1, _), (2, _), (7, _), (8, _), (10, _)]) rfl (W_seq ?_))))))))))))
    have hb11 := hbx.chg c11 (by simp; have := hb.lt; omega)
    have hq11 := hqx.chg c11 (by simp; have := hq.lt; omega)
    refine W_region (Om rfl rfl (Om rfl rfl ?_))
    refine O_go (gn rfl) (st_call bd216 rfl rfl rfl rfl (s_named1 _ b q _ hb11 hq11) ?_)
    rintro v17 w17 ⟨rfl, rfl⟩
    refine Om rfl rfl ?_
    refine Og (vl_beq bo4 rfl rfl) rfl ?_
    refine O_end [1, 2, 7, 10, 19] (F' := [(1, _), (2, _), (7, _), (10, _), (19, _)]) rfl ?_
    have hcw11 : Chg [] w w17 := hcw.own c11 (by intro y hy; simp at hy; omega)
    rw [hd1]
    cases hbx' : nameB x with
    | false =>
      refine W_cond_true rfl (Sr (Om rfl rfl (Oa rfl rfl (O_end [6] (F' := [(6, _)]) rfl (W_ret ?_)))))
      repeat (first | refine then_ret ?_ | refine block_ret ?_)
      refine ret1 rfl rfl ?_
      refine ⟨_, rfl, ?_, hcw11⟩
      have h0 : s.data.toList.all nameB = false := by
        cases ha : s.data.toList.all nameB with
        | false => rfl
        | true => have := List.all_eq_true.1 ha x (List.mem_of_getElem? hx); rw [hbx'] at this; cases this
      rw [h0]
      simp
    | true =>
      refine W_cond_false rfl (W_skip (block_normal ?_))
      rw [hd2 hbx'] at i11
      refine ⟨s.size - (j + 1), by omega, j + 1, rfl, by omega, rfl, i11, hc.transS c11, ?_⟩
      rw [List.take_add_one, hx, List.all_append, hall]
      simp [hbx']
  · refine Sr ?_
    refine O_go (gn rfl) (st_nextS rfl hit rfl (fun _ => ?_) (fun _ h => absurd h (by omega)))
    skip
    refine Oe rfl rfl rfl (O_end [1, 2, 10, 11, 12] (F' := [(1, _), (2, _), (10, _), (11, _), (12, _)]) rfl (W_seq (W_cond_false rfl ?_)))
    refine W_exit ?_
    repeat (first | refine then_exit ?_ | refine blockF_other rfl ?_)
    refine blockF_exit _ ?_
    refine Sr (Oa rfl rfl (O_end [6] (F' := [(6, _)]) rfl (W_ret ?_)))
    repeat (first | refine then_ret ?_ | refine block_ret ?_)
    refine ret1 rfl rfl ?_
    refine ⟨_, rfl, ?_, hcw⟩
    rw [List.take_of_length_le (by omega)] at hall
    rw [hall]
    rfl
theorem s_IndexFunc (s : ByteArray) (b q : Nat) (w : World) (hb : Blk w b 4 [.bool false]) (hq : Blk w q 312 [.func (.func 253) #[] #[.pointer (some ⟨b, 0, none⟩)]]) :
    Ret Tryz.prog 254 #[.string s, .func (.func 216) #[] #[.pointer (some ⟨q, 0, none⟩)]] w fun r w' => ∃ i : Int, r = .int .i64 i ∧ decide (0 ≤ i) = !(s.data.toList.all nameB) ∧ Chg [] w w' := by
  refine Ret.of_W (args := [_, _]) Tryz.func254 rfl rfl rfl rfl ?_

  refine Sr (Oa rfl rfl (O_end [0, 1] (F' := [(0, _), (1, _)]) rfl (Sr (Om rfl rfl (Om rfl rfl ?_)))))
  refine O_go (gn rfl) (st_call bd270 rfl rfl rfl rfl (s_indexFunc s b q _ hb hq) ?_)
  rintro v7 w7 ⟨i, rfl, hi, c7⟩
  refine Oa rfl rfl (O_end [4] (F' := [(4, _)]) rfl (W_ret ?_))
  refine ret1 rfl rfl ?_
  exact ⟨i, rfl, hi, c7⟩
theorem s_ContainsFunc (s : ByteArray) (b q : Nat) (w : World) (hb : Blk w b 4 [.bool false]) (hq : Blk w q 312 [.func (.func 253) #[] #[.pointer (some ⟨b, 0, none⟩)]]) :
    Ret Tryz.prog 215 #[.string s, .func (.func 216) #[] #[.pointer (some ⟨q, 0, none⟩)]] w fun r w' => r = .bool (!(s.data.toList.all nameB)) ∧ Chg [] w w' := by
  refine Ret.of_W (args := [_, _]) Tryz.func215 rfl rfl rfl rfl ?_

  refine Sr (Oa rfl rfl (O_end [0, 1] (F' := [(0, _), (1, _)]) rfl (Sr (Om rfl rfl (Om rfl rfl ?_)))))
  refine O_go (gn rfl) (st_call bd254 rfl rfl rfl rfl (s_IndexFunc s b q _ hb hq) ?_)
  rintro v7 w7 ⟨i, rfl, hi, c7⟩
  refine Og (vl_geq rfl rfl) rfl ?_
  refine Oa rfl rfl (O_end [4] (F' := [(4, _)]) rfl (W_ret ?_))
  refine ret1 rfl rfl ?_
  exact ⟨by rw [← hi], c7⟩
theorem name_split (s : ByteArray) : nameN s = (decide (1 ≤ s.size) && decide (s.size ≤ 24) && (match s.data.toList with | [] => false | b :: _ => letF b.toNat) && s.data.toList.all nameB) := by
  have hsz : s.data.toList.length = s.size := by simp
  unfold nameN
  cases h : s.data.toList with
  | nil => simp
  | cons b r =>
    rw [h] at hsz
    simp only [List.length_cons] at hsz
    simp only [List.all_cons]
    have e1 : letF (b.toNat : Int) = lowB b := by
      unfold letF lowB
      rw [Bool.eq_iff_iff]
      simp
      omega
    rw [e1]
    have e2 : decide (1 ≤ s.size) = true := by simp; omega
    have e3 : decide (s.size ≤ 24) = decide (r.length ≤ 23) := by rw [Bool.eq_iff_iff]; simp; omega
    rw [e2, e3]
    have e4 : nameB b = (lowB b || digB b) := rfl
    rw [e4]
    have e5 : (r.all fun c => lowB c || digB c) = r.all nameB := rfl
    rw [e5]
    cases lowB b <;> cases decide (r.length ≤ 23) <;> simp
theorem i32_byte (x : UInt8) : IntKind.i32.wrap (x.toNat : Int) = (x.toNat : Int) := by
  have := UInt8.toNat_lt x
  simp only [IntKind.wrap, IntKind.bits, IntKind.signed]
  simp
  omega
theorem s_named (s : ByteArray) (w : World) : Ret Tryz.prog 149 #[.string s] w fun r w' => r = .bool (nameN s) ∧ Chg [] w w' := by
  rw [name_split]
  refine Ret.of_W (args := [_]) Tryz.func149 rfl rfl rfl rfl ?_

  refine Sr (Oa rfl rfl (O_end [0] (F' := [(0, _)]) rfl (Sr ?_)))
  refine O_go (gn rfl) (st_call bd214 rfl rfl rfl rfl (s_letter false _) ?_)
  rintro v4 w4 ⟨b4, rfl, h4, k4, c4⟩
  refine O_go (gn rfl) (st_alloc zr312 rfl rfl ?_)
  intro b3 w3 e3 n3 c3 k3
  refine O_go (gn rfl) (st_store sz312 rfl rfl rfl rfl k3 (by simp) (by intro u hu; simp at hu; subst hu; rfl) ?_)
  intro wA nA cA kA
  refine O_end [0, 3] (F' := [(0, _), (3, _)]) rfl ?_
  have hcA : Chg [] w wA := (c4.trans c3).own cA (by intro y hy; simp at hy; have := c4.size; omega)
  have hk4 := (k4.chg0 c3).chg cA (by simp; have := k4.lt; omega)
  have hd : Chg [] wA wA.drew := Chg.drew [] _
  refine W_seq ?_
  have hsz : s.data.toList.length = s.size := by simp
  by_cases h1 : 1 ≤ s.size
  · by_cases h2 : s.size ≤ 24
    · obtain ⟨x, r, hxr⟩ : ∃ x r, s.data.toList = x :: r := by
        cases h : s.data.toList with
        | nil => rw [h] at hsz; simp at hsz; omega
        | cons x r => exact ⟨x, r, rfl⟩
      have hat : s.data[0]? = some x := by rw [← Array.getElem?_toList, hxr]; rfl
      cases hf : letF (x.toNat : Int) with
      | false =>
        refine W_draw (fun wz => Chg [] wA wz) mix (by kernel_rfl) hd ?_
        refine Tm rfl rfl ?_
        refine t_pure rfl (gn rfl) (fun _ => vl_slen st9 rfl) rfl rfl ?_
        refine t_pure rfl (gn rfl) (fun _ => vl_is (b' := true) (vl_geq rfl rfl) (decide_eq_true (by omega))) rfl rfl ?_
        refine Tm rfl rfl (Tq rfl rfl rfl rfl ?_)
        refine t_pure rfl (gy rfl rfl rfl) (fun _ => vl_slen st9 rfl) rfl rfl ?_
        refine t_pure rfl (gy rfl rfl rfl) (fun _ => vl_is (b' := true) (vl_leq rfl rfl) (decide_eq_true (by omega))) rfl rfl ?_
        refine t_pure rfl (gn rfl) (fun _ => vl_pick_t rfl rfl) rfl rfl ?_
        refine Tm rfl rfl ?_
        refine t_st rfl (gy rfl rfl rfl) (st_call bd214 rfl rfl rfl rfl (s_letter true _) ?_)
        rintro v14 w14 ⟨b14, rfl, h14, k14, c14⟩
        refine ⟨.inl (hd.trans c14), ?_⟩
        refine Tq rfl rfl rfl rfl ?_
        refine t_pure rfl (gy rfl rfl rfl) (fun _ => vl_sindex st9 rfl rfl _ rfl hat) rfl rfl ?_
        refine t_pure rfl (gy rfl rfl rfl) (fun _ => vl_convn it21_i32 it5_u8 rfl rfl) rfl rfl ?_
        refine t_st rfl (gy rfl rfl rfl) (st_call bd253 rfl rfl rfl rfl (s_let1 _ true b14 _ k14) ?_)
        rintro v18 w18 ⟨h18, rfl⟩
        rw [if_pos rfl, show IntKind.i32.wrap (x.toNat : Int) = (x.toNat : Int) from i32_byte x, hf] at h18
        subst h18
        refine ⟨.inl (hd.trans c14), ?_⟩
        refine t_pure rfl (gn rfl) (fun _ => vl_pick_t rfl rfl) rfl rfl ?_
        refine Tm rfl rfl (Tz rfl rfl rfl rfl (Tz rfl rfl rfl rfl (Tz rfl rfl rfl rfl (Tz rfl rfl rfl rfl ?_))))
        refine t_pure rfl (gn rfl) (fun _ => vl_pick_f rfl rfl) rfl rfl ?_
        refine Ta rfl rfl ?_
        refine T_end [2] (F' := [(2, _)]) rfl ?_
        refine W_ret ?_
        refine ret1 rfl rfl ?_
        exact ⟨by rw [hxr]; simp [hf], (hcA.trans hd).trans c14⟩
      | true =>
        refine W_draw (fun wz => Chg [] wA wz) mix (by kernel_rfl) hd ?_
        refine Tm rfl rfl ?_
        refine t_pure rfl (gn rfl) (fun _ => vl_slen st9 rfl) rfl rfl ?_
        refine t_pure rfl (gn rfl) (fun _ => vl_is (b' := true) (vl_geq rfl rfl) (decide_eq_true (by omega))) rfl rfl ?_
        refine Tm rfl rfl (Tq rfl rfl rfl rfl ?_)
        refine t_pure rfl (gy rfl rfl rfl) (fun _ => vl_slen st9 rfl) rfl rfl ?_
        refine t_pure rfl (gy rfl rfl rfl) (fun _ => vl_is (b' := true) (vl_leq rfl rfl) (decide_eq_true (by omega))) rfl rfl ?_
        refine t_pure rfl (gn rfl) (fun _ => vl_pick_t rfl rfl) rfl rfl ?_
        refine Tm rfl rfl ?_
        refine t_st rfl (gy rfl rfl rfl) (st_call bd214 rfl rfl rfl rfl (s_letter true _) ?_)
        rintro v14 w14 ⟨b14, rfl, h14, k14, c14⟩
        refine ⟨.inl (hd.trans c14), ?_⟩
        refine Tq rfl rfl rfl rfl ?_
        refine t_pure rfl (gy rfl rfl rfl) (fun _ => vl_sindex st9 rfl rfl _ rfl hat) rfl rfl ?_
        refine t_pure rfl (gy rfl rfl rfl) (fun _ => vl_convn it21_i32 it5_u8 rfl rfl) rfl rfl ?_
        refine t_st rfl (gy rfl rfl rfl) (st_call bd253 rfl rfl rfl rfl (s_let1 _ true b14 _ k14) ?_)
        rintro v18 w18 ⟨h18, rfl⟩
        rw [if_pos rfl, show IntKind.i32.wrap (x.toNat : Int) = (x.toNat : Int) from i32_byte x, hf] at h18
        subst h18
        refine ⟨.inl (hd.trans c14), ?_⟩
        refine t_pure rfl (gn rfl) (fun _ => vl_pick_t rfl rfl) rfl rfl ?_
        refine Tm rfl rfl (Tq rfl rfl rfl rfl ?_)
        refine t_pure rfl (gy rfl rfl rfl) (fun _ => vl_func rfl rfl) rfl rfl ?_
        refine t_st rfl (gy rfl rfl rfl) (st_call bd215 rfl rfl rfl rfl (s_ContainsFunc s b4 b3 _ ((hk4.chg0 hd).chg0 c14) ((kA.chg0 hd).chg0 c14)) ?_)
        rintro v23 w23 ⟨rfl, c23⟩
        refine ⟨.inl ((hd.trans c14).trans c23), ?_⟩
        refine t_pure rfl (gy rfl rfl rfl) (fun _ => vl_not rfl) rfl rfl ?_
        refine t_pure rfl (gn rfl) (fun _ => vl_pick_t rfl rfl) rfl rfl ?_
        refine Ta rfl rfl ?_
        refine T_end [2] (F' := [(2, _)]) rfl ?_
        refine W_ret ?_
        refine ret1 rfl rfl ?_
        exact ⟨by rw [hxr]; simp [hf, h1, h2], ((hcA.trans hd).trans c14).trans c23⟩
    · refine W_draw (fun wz => Chg [] wA wz) mix (by kernel_rfl) hd ?_
      refine Tm rfl rfl ?_
      refine t_pure rfl (gn rfl) (fun _ => vl_slen st9 rfl) rfl rfl ?_
      refine t_pure rfl (gn rfl) (fun _ => vl_is (b' := true) (vl_geq rfl rfl) (decide_eq_true (by omega))) rfl rfl ?_
      refine Tm rfl rfl (Tq rfl rfl rfl rfl ?_)
      refine t_pure rfl (gy rfl rfl rfl) (fun _ => vl_slen st9 rfl) rfl rfl ?_
      refine t_pure rfl (gy rfl rfl rfl) (fun _ => vl_is (b' := false) (vl_leq rfl rfl) (decide_eq_false (by omega))) rfl rfl ?_
      refine t_pure rfl (gn rfl) (fun _ => vl_pick_t rfl rfl) rfl rfl ?_
      refine Tm rfl rfl (Tz rfl rfl rfl rfl (Tz rfl rfl rfl rfl (Tz rfl rfl rfl rfl (Tz rfl rfl rfl rfl (Tz rfl rfl rfl rfl ?_)))))
      refine t_pure rfl (gn rfl) (fun _ => vl_pick_f rfl rfl) rfl rfl ?_
      refine Tm rfl rfl (Tz rfl rfl rfl rfl (Tz rfl rfl rfl rfl (Tz rfl rfl rfl rfl (Tz rfl rfl rfl rfl ?_))))
      refine t_pure rfl (gn rfl) (fun _ => vl_pick_f rfl rfl) rfl rfl ?_
      refine Ta rfl rfl ?_
      refine T_end [2] (F' := [(2, _)]) rfl ?_
      refine W_ret ?_
      refine ret1 rfl rfl ?_
      exact ⟨by simp [h2], hcA.trans hd⟩
  · refine W_draw (fun wz => Chg [] wA wz) mix (by kernel_rfl) hd ?_
    refine Tm rfl rfl ?_
    refine t_pure rfl (gn rfl) (fun _ => vl_slen st9 rfl) rfl rfl ?_
    refine t_pure rfl (gn rfl) (fun _ => vl_is (b' := false) (vl_geq rfl rfl) (decide_eq_false (by omega))) rfl rfl ?_
    refine Tm rfl rfl (Tz rfl rfl rfl rfl (Tz rfl rfl rfl rfl (Tz rfl rfl rfl rfl ?_)))
    refine t_pure rfl (gn rfl) (fun _ => vl_pick_f rfl rfl) rfl rfl ?_
    refine Tm rfl rfl (Tz rfl rfl rfl rfl (Tz rfl rfl rfl rfl (Tz rfl rfl rfl rfl (Tz rfl rfl rfl rfl (Tz rfl rfl rfl rfl ?_)))))
    refine t_pure rfl (gn rfl) (fun _ => vl_pick_f rfl rfl) rfl rfl ?_
    refine Tm rfl rfl (Tz rfl rfl rfl rfl (Tz rfl rfl rfl rfl (Tz rfl rfl rfl rfl (Tz rfl rfl rfl rfl ?_))))
    refine t_pure rfl (gn rfl) (fun _ => vl_pick_f rfl rfl) rfl rfl ?_
    refine Ta rfl rfl ?_
    refine T_end [2] (F' := [(2, _)]) rfl ?_
    refine W_ret ?_
    refine ret1 rfl rfl ?_
    exact ⟨by simp [h1], hcA.trans hd⟩
end Go.Wk

namespace Go.Wk
open Go.Proofs
set_option maxRecDepth 10000

/-! ### cells of elements, one behind the other -/
def fl {α : Type} (f : α → List Value) (l : List α) : List Value := l.flatMap f
section
variable {α : Type} {f : α → List Value} {k : Nat}
theorem fl_cons (x : α) (l : List α) : fl f (x :: l) = f x ++ fl f l := rfl
theorem fl_append (l m : List α) : fl f (l ++ m) = fl f l ++ fl f m := by simp [fl]
theorem fl_len (hf : ∀ x, (f x).length = k) : ∀ l : List α, (fl f l).length = l.length * k
  | [] => by simp [fl]
  | x :: l => by rw [fl_cons, List.length_append, hf, fl_len hf l, List.length_cons, Nat.add_mul]; omega
theorem fl_drop (hf : ∀ x, (f x).length = k) : ∀ (i : Nat) (l : List α), fl f (l.drop i) = (fl f l).drop (i * k)
  | 0, l => by simp
  | i + 1, [] => by simp [fl]
  | i + 1, x :: l => by
    rw [List.drop_succ_cons, fl_drop hf i l, fl_cons, List.drop_append, hf, Nat.add_mul]
    have : (f x).drop (i * k + 1 * k) = [] := List.drop_eq_nil_of_le (by rw [hf]; omega)
    rw [this, List.nil_append]
    congr 1
    omega
theorem fl_take (hf : ∀ x, (f x).length = k) : ∀ (i : Nat) (l : List α), fl f (l.take i) = (fl f l).take (i * k)
  | 0, l => by simp [fl]
  | i + 1, [] => by simp [fl]
  | i + 1, x :: l => by
    rw [List.take_succ_cons, fl_cons, fl_take hf i l, fl_cons, List.take_append, hf, Nat.add_mul]
    have : (f x).take (i * k + 1 * k) = f x := List.take_of_length_le (by rw [hf]; omega)
    rw [this]
    congr 2
    omega
theorem fl_at (hf : ∀ x, (f x).length = k) {l : List α} {i : Nat} {x : α} (h : l[i]? = some x) : ((fl f l).drop (i * k)).take k = f x := by
  rw [← fl_drop hf]
  obtain ⟨hl, rfl⟩ := List.getElem?_eq_some_iff.1 h
  rw [List.drop_eq_getElem_cons hl, fl_cons]
  exact List.take_left' (hf _)
theorem fl_one (h1 : ∀ x, ∀ u ∈ f x, u.oneCell' = true) (l : List α) : ∀ u ∈ fl f l, u.oneCell' = true := by
  intro u hu
  obtain ⟨x, _, hx⟩ := List.mem_flatMap.1 hu
  exact h1 x u hx
end
/-- A slice of the program's own. -/
def ArrS {α : Type} (w : World) (e k : Nat) (f : α → List Value) (v : Value) (l : List α) : Prop := IsSl w e k v l.length (fl f l)
section
variable {α : Type} {f : α → List Value} {w w' : World} {e k : Nat} {v : Value} {l : List α}
theorem ArrS.chg0 (h : ArrS w e k f v l) (hc : Chg [] w w') : ArrS w' e k f v l := IsSl.chg0 h hc
theorem ArrS.chg {S : List Nat} (h : ArrS w e k f v l) (hc : Chg S w w') (hb : ∀ b ∈ blkOf v, b ∉ S) : ArrS w' e k f v l := IsSl.chg h hc hb
theorem ArrS.nil (w : World) (e k : Nat) (f : α → List Value) : ArrS w e k f (.slice none 0 0) [] := IsSl.nil w e k
theorem ArrS.val (h : ArrS w e k f v l) : ∃ p c, v = .slice p l.length c ∧ l.length ≤ c := IsSl.val h
theorem ArrS.at (hf : ∀ x, (f x).length = k) (h : ArrS w e k f v l) {i : Nat} {x : α} (hi : l[i]? = some x) : ∃ b off cap, v = .slice (some ⟨b, off, none⟩) l.length cap ∧ Cells w b (off + i * k) (f x) := by
  have hl := (List.getElem?_eq_some_iff.1 hi).1
  obtain ⟨b, off, cap, hv, hc⟩ := IsSl.atk h hl
  rw [fl_at hf hi] at hc
  exact ⟨b, off, cap, hv, hc⟩
end
/-- A slice that reads a list, in whatever block. -/
def Arr {α : Type} (w : World) (_e k : Nat) (f : α → List Value) (v : Value) (l : List α) : Prop := Rd w k v l.length (fl f l)
def litB : Value → Bool
  | .int .. | .string _ | .bool _ => true
  | _ => false
/-- Blocks that hold no numbers, texts, bools. -/
def Nl (w : World) (S : List Nat) : Prop := ∀ b ∈ S, ∀ c e fr, w.heap[b]? = some (.cells c e fr) → ∀ u ∈ c.toList, litB u = false
theorem Nl.one {w : World} {b : Nat} {e : TypeId} {c : List Value} (hb : Blk w b e c) (h : ∀ u ∈ c, litB u = false) : Nl w [b] := fun x hx c' e' fr he => by
  simp at hx; subst hx
  have := Option.some.inj ((show w.heap[x]? = _ from hb).symm.trans he)
  cases this
  simpa using h
theorem Nl.obj {w : World} {b : Nat} {o : Obj} (hb : w.heap[b]? = some o) (h : o.isCells = false) : Nl w [b] := fun x hx c' e' fr he => by
  simp at hx; subst hx
  rw [hb] at he
  cases he; cases h
theorem Nl.nil (w : World) : Nl w [] := fun _ hx => by simp at hx
theorem Nl.cons {w : World} {b : Nat} {S : List Nat} (h : Nl w [b]) (h2 : Nl w S) : Nl w (b :: S) := fun x hx => by
  rcases List.mem_cons.1 hx with rfl | hx
  · exact h x (by simp)
  · exact h2 x hx
theorem Nl.chg0 {w w' : World} {S : List Nat} (h : Nl w S) (hc : Chg [] w w') (hl : ∀ b ∈ S, b < w.heap.size) : Nl w' S := fun b hb c e fr he => h b hb c e fr ((hc.block b (hl b hb) (by simp)).symm.trans he)
section
variable {α : Type} {f : α → List Value} {w w' : World} {e k : Nat} {v : Value} {l : List α}
theorem IsSl.arr (h : IsSl w e k v l.length (fl f l)) : Arr w e k f v l := h.toRd
theorem ArrS.arr (h : ArrS w e k f v l) : Arr w e k f v l := IsSl.toRd h
theorem Arr.chg0 (h : Arr w e k f v l) (hc : Chg [] w w') : Arr w' e k f v l := Rd.chg0 h hc
theorem Arr.chg {S : List Nat} (h : Arr w e k f v l) (hc : Chg S w w') (hb : ∀ b ∈ blkOf v, b ∉ S) : Arr w' e k f v l := Rd.chg h hc hb
theorem Arr.chgC {S : List Nat} (h : Arr w e k f v l) (hc : Chg S w w') (hf : ∀ x, ∀ u ∈ f x, litB u = true) (hS : Nl w S) : Arr w' e k f v l :=
  Rd.chgC h hc fun b hb c e fr he u hu hm => by
    obtain ⟨x, _, hx⟩ := List.mem_flatMap.1 hu
    have := hf x u hx
    rw [hS b hb c e fr he u hm] at this; cases this
theorem Arr.nil (w : World) (e k : Nat) (f : α → List Value) : Arr w e k f (.slice none 0 0) [] := Rd.nil w k
theorem Arr.val (h : Arr w e k f v l) : ∃ p c, v = .slice p l.length c ∧ l.length ≤ c := Rd.val h
theorem Arr.max (h : Arr w e k f v l) : l.length ≤ maxLen := Rd.max h
theorem Arr.one1 (h : Arr w e k f v l) : v.oneCell' = true := Rd.one1 h
theorem Arr.at (hf : ∀ x, (f x).length = k) (h : Arr w e k f v l) {i : Nat} {x : α} (hi : l[i]? = some x) : ∃ b off cap, v = .slice (some ⟨b, off, none⟩) l.length cap ∧ Cells w b (off + i * k) (f x) := by
  have hl := (List.getElem?_eq_some_iff.1 hi).1
  obtain ⟨b, off, cap, hv, hc⟩ := Rd.atk h hl
  rw [fl_at hf hi] at hc
  exact ⟨b, off, cap, hv, hc⟩
theorem Arr.take (hf : ∀ x, (f x).length = k) {p : Option Addr} {c n : Nat} (h : Arr w e k f (.slice p l.length c) l) (hn : n ≤ l.length) {m : Nat} (h1 : n ≤ m) (h2 : m ≤ c) : Arr w e k f (cut p 0 n m k) (l.take n) := by
  have := Rd.cut h (l := 0) (h := n) (m := m) (by omega) h1 h2 hn
  unfold Arr
  rw [fl_take hf, List.length_take, Nat.min_eq_left hn]
  simpa using this
theorem Arr.drop (hf : ∀ x, (f x).length = k) {p : Option Addr} {c n : Nat} (h : Arr w e k f (.slice p l.length c) l) (hn : n ≤ l.length) (hc : l.length ≤ c) : Arr w e k f (cut p n l.length c k) (l.drop n) := by
  have := Rd.cut h (l := n) (h := l.length) (m := c) hn hc (Nat.le_refl _) (Nat.le_refl _)
  unfold Arr
  rw [fl_drop hf, List.length_drop]
  have e1 : ((fl f l).drop (n * k)).take ((l.length - n) * k) = (fl f l).drop (n * k) := List.take_of_length_le (by rw [List.length_drop, fl_len hf, Nat.sub_mul]; omega)
  rw [e1] at this
  exact this
theorem Arr.of_blk {b : Nat} {e' : TypeId} (hf : ∀ x, (f x).length = k) (h1 : ∀ x, ∀ u ∈ f x, u.oneCell' = true) (hb : Blk w b e' (fl f l)) (hn : l.length ≤ maxLen) : Arr w e k f (.slice (some ⟨b, 0, none⟩) l.length l.length) l :=
  (IsSl.of_blk hb (fl_len hf l) hn (fl_one h1 l)).toRd
end

/-! ### values, columns, numbers -/
theorem cs_len (x : Val) : x.cs.length = 4 := rfl
theorem Col.one (c : Col) : ∀ u ∈ c.cs, u.oneCell' = true := by
  intro u hu; simp [Col.cs] at hu; rcases hu with rfl | rfl | rfl | rfl <;> rfl
theorem ccs_len (c : Col) : c.cs.length = 4 := rfl
def ics (i : Int) : List Value := [.int .i64 i]
theorem ics_len (i : Int) : (ics i).length = 1 := rfl
theorem ics_one (i : Int) : ∀ u ∈ ics i, u.oneCell' = true := by intro u hu; simp [ics] at hu; subst hu; rfl
def IsVals (w : World) (v : Value) (l : List Val) : Prop := Arr w 40 4 Val.cs v l
def IsCols (w : World) (v : Value) (l : List Col) : Prop := Arr w 25 4 Col.cs v l
def IsInts (w : World) (v : Value) (l : List Int) : Prop := Arr w 3 1 ics v l
theorem IsInts.cell {w : World} {v : Value} {l : List Int} (h : IsInts w v l) {i : Nat} {x : Int} (hi : l[i]? = some x) : ∃ b off cap, v = .slice (some ⟨b, off, none⟩) l.length cap ∧ w.cell? ⟨b, off + i * 1, none⟩ = some (.int .i64 x) := by
  obtain ⟨b, off, cap, hv, hc⟩ := Arr.at ics_len h hi
  exact ⟨b, off, cap, hv, hc 0 _ rfl⟩
/-- Rows, each in its own slice. -/
def ArrL {α : Type} (w : World) (e k : Nat) (f : α → List Value) : List Value → List (List α) → Prop
  | [], [] => True
  | v :: vs, l :: ls => Arr w e k f v l ∧ ArrL w e k f vs ls
  | _, _ => False
section
variable {α : Type} {f : α → List Value} {w w' : World} {e k : Nat}
theorem ArrL.length : ∀ {vs : List Value} {ls : List (List α)}, ArrL w e k f vs ls → vs.length = ls.length
  | [], [], _ => rfl
  | _ :: _, _ :: _, h => by simp [ArrL.length h.2]
theorem ArrL.at : ∀ {vs : List Value} {ls : List (List α)} {i : Nat} {l : List α}, ArrL w e k f vs ls → ls[i]? = some l → ∃ v, vs[i]? = some v ∧ Arr w e k f v l
  | [], [], _, _, _, h => by simp at h
  | v :: vs, l :: ls, 0, l', h, hi => by simp at hi; subst hi; exact ⟨v, rfl, h.1⟩
  | v :: vs, l :: ls, i + 1, l', h, hi => by simpa using h.2.at (by simpa using hi)
theorem ArrL.append : ∀ {vs us : List Value} {ls ms : List (List α)}, ArrL w e k f vs ls → ArrL w e k f us ms → ArrL w e k f (vs ++ us) (ls ++ ms)
  | [], _, [], _, _, h => h
  | _ :: _, _, _ :: _, _, h, h' => ⟨h.1, h.2.append h'⟩
theorem ArrL.take : ∀ {vs : List Value} {ls : List (List α)} (i : Nat), ArrL w e k f vs ls → ArrL w e k f (vs.take i) (ls.take i)
  | _, _, 0, _ => by simp [ArrL]
  | [], [], _ + 1, _ => by simp [ArrL]
  | _ :: _, _ :: _, i + 1, h => ⟨h.1, h.2.take i⟩
theorem ArrL.drop : ∀ {vs : List Value} {ls : List (List α)} (i : Nat), ArrL w e k f vs ls → ArrL w e k f (vs.drop i) (ls.drop i)
  | _, _, 0, h => h
  | [], [], _ + 1, _ => by simp [ArrL]
  | _ :: _, _ :: _, i + 1, h => by simpa using h.2.drop i
theorem ArrL.chg {S : List Nat} (hc : Chg S w w') : ∀ {vs : List Value} {ls : List (List α)}, (∀ v ∈ vs, ∀ b ∈ blkOf v, b ∉ S) → ArrL w e k f vs ls → ArrL w' e k f vs ls
  | [], [], _, _ => trivial
  | v :: vs, l :: ls, hb, h => ⟨h.1.chg hc (hb v (by simp)), ArrL.chg hc (fun u hu => hb u (by simp [hu])) h.2⟩
theorem ArrL.chg0 {vs : List Value} {ls : List (List α)} (h : ArrL w e k f vs ls) (hc : Chg [] w w') : ArrL w' e k f vs ls := ArrL.chg hc (by simp) h
theorem ArrL.one : ∀ {vs : List Value} {ls : List (List α)}, ArrL w e k f vs ls → ∀ u ∈ vs, u.oneCell' = true
  | [], [], _, u, hu => by simp at hu
  | v :: vs, l :: ls, h, u, hu => by
    rcases List.mem_cons.1 hu with rfl | hu
    · exact Arr.one1 h.1
    · exact h.2.one u hu
theorem ArrL.chgC {S : List Nat} (hc : Chg S w w') (hf : ∀ x, ∀ u ∈ f x, litB u = true) (hS : Nl w S) : ∀ {vs : List Value} {ls : List (List α)}, ArrL w e k f vs ls → ArrL w' e k f vs ls
  | [], [], _ => trivial
  | _ :: _, _ :: _, h => ⟨Arr.chgC h.1 hc hf hS, ArrL.chgC hc hf hS h.2⟩
end
/-- .. of the program's own. -/
def IsValsS (w : World) (v : Value) (l : List Val) : Prop := ArrS w 40 4 Val.cs v l
def ArrLS {α : Type} (w : World) (e k : Nat) (f : α → List Value) : List Value → List (List α) → Prop
  | [], [] => True
  | v :: vs, l :: ls => ArrS w e k f v l ∧ ArrLS w e k f vs ls
  | _, _ => False
section
variable {α : Type} {f : α → List Value} {w w' : World} {e k : Nat}
theorem ArrLS.length : ∀ {vs : List Value} {ls : List (List α)}, ArrLS w e k f vs ls → vs.length = ls.length
  | [], [], _ => rfl
  | _ :: _, _ :: _, h => by simp [ArrLS.length h.2]
theorem ArrLS.arr : ∀ {vs : List Value} {ls : List (List α)}, ArrLS w e k f vs ls → ArrL w e k f vs ls
  | [], [], _ => trivial
  | _ :: _, _ :: _, h => ⟨ArrS.arr h.1, ArrLS.arr h.2⟩
theorem ArrLS.at : ∀ {vs : List Value} {ls : List (List α)} {i : Nat} {l : List α}, ArrLS w e k f vs ls → ls[i]? = some l → ∃ v, vs[i]? = some v ∧ ArrS w e k f v l
  | [], [], _, _, _, h => by simp at h
  | v :: vs, l :: ls, 0, l', h, hi => by simp at hi; subst hi; exact ⟨v, rfl, h.1⟩
  | v :: vs, l :: ls, i + 1, l', h, hi => by simpa using h.2.at (by simpa using hi)
theorem ArrLS.append : ∀ {vs us : List Value} {ls ms : List (List α)}, ArrLS w e k f vs ls → ArrLS w e k f us ms → ArrLS w e k f (vs ++ us) (ls ++ ms)
  | [], _, [], _, _, h => h
  | _ :: _, _, _ :: _, _, h, h' => ⟨h.1, h.2.append h'⟩
theorem ArrLS.chg {S : List Nat} (hc : Chg S w w') : ∀ {vs : List Value} {ls : List (List α)}, (∀ v ∈ vs, ∀ b ∈ blkOf v, b ∉ S) → ArrLS w e k f vs ls → ArrLS w' e k f vs ls
  | [], [], _, _ => trivial
  | v :: vs, l :: ls, hb, h => ⟨h.1.chg hc (hb v (by simp)), ArrLS.chg hc (fun u hu => hb u (by simp [hu])) h.2⟩
theorem ArrLS.chg0 {vs : List Value} {ls : List (List α)} (h : ArrLS w e k f vs ls) (hc : Chg [] w w') : ArrLS w' e k f vs ls := ArrLS.chg hc (by simp) h
theorem ArrLS.one : ∀ {vs : List Value} {ls : List (List α)}, ArrLS w e k f vs ls → ∀ u ∈ vs, u.oneCell' = true
  | [], [], _, u, hu => by simp at hu
  | v :: vs, l :: ls, h, u, hu => by
    rcases List.mem_cons.1 hu with rfl | hu
    · exact IsSl.one1 h.1
    · exact h.2.one u hu
theorem ArrLS.apart {b : Nat} {e' : TypeId} {c : List Value} (hb : Blk w b e' c) (hne : Nat.beq e e' = false) : ∀ {vs : List Value} {ls : List (List α)}, ArrLS w e k f vs ls → ∀ v ∈ vs, ∀ x ∈ blkOf v, x ∉ [b]
  | [], [], _, v, hv => by simp at hv
  | v :: vs, l :: ls, h, u, hu => by
    rcases List.mem_cons.1 hu with rfl | hu
    · exact IsSl.apart h.1 hb hne
    · exact h.2.apart hb hne u hu
theorem ArrLS.apartSl {e' k' n : Nat} {v : Value} {xs : List Value} (hv : IsSl w e' k' v n xs) (hne : Nat.beq e e' = false) : ∀ {vs : List Value} {ls : List (List α)}, ArrLS w e k f vs ls → ∀ u ∈ vs, ∀ x ∈ blkOf u, x ∉ blkOf v
  | [], [], _, u, hu => by simp at hu
  | u :: vs, l :: ls, h, u', hu => by
    rcases List.mem_cons.1 hu with rfl | hu
    · exact IsSl.apartSl h.1 hv hne
    · exact h.2.apartSl hv hne u' hu
theorem ArrLS.tab {own : List Nat} {bad : TypeId} (hp : ∀ p ∈ own, ∃ c, Blk w p bad c) (hne : Nat.beq e bad = false) (hc : Chg own w w') {vs : List Value} {ls : List (List α)} (h : ArrLS w e k f vs ls) : ArrLS w' e k f vs ls :=
  ArrLS.chg hc (fun v hv b hb hm => by
    obtain ⟨c, hx⟩ := hp b hm
    exact h.apart hx hne v hv b hb (by simp)) h
end
/-- In what blocks slices of type E may lie. -/
def okT (E e : Nat) : Bool := Nat.beq E e || (Nat.beq E 27 && !Nat.beq e 147 && !Nat.beq e 48)
def Ou (w : World) (E : Nat) (v : Value) (len : Nat) (vs : List Value) : Prop :=
  Rd w 1 v len vs ∧ (0 < len → ∃ b off cap e c fr, v = .slice (some ⟨b, off, none⟩) len cap ∧ w.heap[b]? = some (.cells c e fr) ∧ okT E e = true)
section
variable {w w' : World} {E len : Nat} {v : Value} {vs : List Value}
theorem IsSl.toOu (h : IsSl w E 1 v len vs) : Ou w E v len vs := by
  refine ⟨h.toRd, fun hp => ?_⟩
  rcases h with ⟨_, rfl, _⟩ | ⟨b, off, cap, c, rfl, h⟩
  · omega
  · exact ⟨b, off, cap, E, _, _, rfl, h.blk, by simp [okT]⟩
def Nt (w : World) (E : Nat) (S : List Nat) : Prop := ∀ b ∈ S, ∀ c e fr, w.heap[b]? = some (.cells c e fr) → okT E e = false
theorem Nt.one {b : Nat} {e : TypeId} {c : List Value} (hb : Blk w b e c) (h : okT E e = false) : Nt w E [b] := fun x hx c' e' fr he => by
  simp at hx; subst hx
  have := Option.some.inj ((show w.heap[x]? = _ from hb).symm.trans he)
  cases this
  exact h
theorem Nt.obj {b : Nat} {o : Obj} (hb : w.heap[b]? = some o) (h : o.isCells = false) : Nt w E [b] := fun x hx c' e' fr he => by
  simp at hx; subst hx
  rw [hb] at he
  cases he; cases h
theorem Nt.cons {b : Nat} {S : List Nat} (h : Nt w E [b]) (h2 : Nt w E S) : Nt w E (b :: S) := fun x hx => by
  rcases List.mem_cons.1 hx with rfl | hx
  · exact h x (by simp)
  · exact h2 x hx
theorem Ou.chgS {S : List Nat} (h : Ou w E v len vs) (hc : Chg S w w') (hS : Nt w E S) : Ou w' E v len vs := by
  obtain ⟨h1, h2⟩ := h
  rcases Nat.eq_zero_or_pos len with hz | hp
  · subst hz
    obtain ⟨p, cap, rfl, g2, g3, g4, g5, g6⟩ := h1
    exact ⟨⟨p, cap, rfl, g2, g3, g4, g5, fun h => absurd h (by omega)⟩, fun h => absurd h (by omega)⟩
  · obtain ⟨b, off, cap, e, c, fr, rfl, hb, hk⟩ := h2 hp
    have hn : b ∉ S := fun hm => by
      have := hS b hm _ _ _ hb
      rw [hk] at this; cases this
    refine ⟨Rd.chg h1 hc (by intro x hx; simp [blkOf] at hx; subst hx; exact hn), fun _ => ⟨b, off, cap, e, c, fr, rfl, ?_, hk⟩⟩
    exact (hc.block b (Array.getElem?_eq_some_iff.1 hb).1 hn).trans hb
theorem Ou.chg0 (h : Ou w E v len vs) (hc : Chg [] w w') : Ou w' E v len vs := h.chgS hc (fun _ hx => by simp at hx)
theorem Ou.chgB (h : Ou w E v len vs) {b : Nat} {e : TypeId} {c : List Value} (hb : Blk w b e c) (hk : okT E e = false) (hc : Chg [b] w w') : Ou w' E v len vs := h.chgS hc (Nt.one hb hk)
theorem Ou.nil (w : World) (E : Nat) : Ou w E (.slice none 0 0) 0 [] := ⟨Rd.nil w 1, fun h => absurd h (by omega)⟩
end
/-- v is a slice (of type E) of slices. -/
def Arr2 {α : Type} (w : World) (E e k : Nat) (f : α → List Value) (v : Value) (ls : List (List α)) : Prop := ∃ vs, Ou w E v ls.length vs ∧ ArrL w e k f vs ls
section
variable {α : Type} {f : α → List Value} {w w' : World} {E e k : Nat} {v : Value} {ls : List (List α)}
theorem Arr2.chg0 (h : Arr2 w E e k f v ls) (hc : Chg [] w w') : Arr2 w' E e k f v ls := let ⟨vs, h1, h2⟩ := h; ⟨vs, h1.chg0 hc, h2.chg0 hc⟩
theorem Arr2.chgS {S : List Nat} (h : Arr2 w E e k f v ls) (hc : Chg S w w') (hf : ∀ x, ∀ u ∈ f x, litB u = true) (hS : Nt w E S) (hl : Nl w S) : Arr2 w' E e k f v ls :=
  let ⟨vs, h1, h2⟩ := h; ⟨vs, h1.chgS hc hS, h2.chgC hc hf hl⟩
theorem Arr2.chgB (h : Arr2 w E e k f v ls) {b : Nat} {e' : TypeId} {c : List Value} (hb : Blk w b e' c) (h1 : okT E e' = false) (hf : ∀ x, ∀ u ∈ f x, litB u = true) (hn : ∀ u ∈ c, litB u = false) (hc : Chg [b] w w') : Arr2 w' E e k f v ls :=
  h.chgS hc hf (Nt.one hb h1) (Nl.one hb hn)
theorem Arr2.nil (w : World) (E e k : Nat) (f : α → List Value) : Arr2 w E e k f (.slice none 0 0) [] := ⟨[], Ou.nil w E, trivial⟩
theorem Arr2.val (h : Arr2 w E e k f v ls) : ∃ p c, v = .slice p ls.length c ∧ ls.length ≤ c := let ⟨_, h1, _⟩ := h; Rd.val h1.1
theorem Arr2.max (h : Arr2 w E e k f v ls) : ls.length ≤ maxLen := let ⟨_, h1, _⟩ := h; Rd.max h1.1
theorem Arr2.at (h : Arr2 w E e k f v ls) {i : Nat} {l : List α} (hi : ls[i]? = some l) : ∃ b off cap u, v = .slice (some ⟨b, off, none⟩) ls.length cap ∧ w.cell? ⟨b, off + i * 1, none⟩ = some u ∧ Arr w e k f u l := by
  obtain ⟨vs, h1, h2⟩ := h
  obtain ⟨u, hu, ha⟩ := h2.at hi
  obtain ⟨b, off, cap, u', hv, hu', hc⟩ := Rd.at1 h1.1 (List.getElem?_eq_some_iff.1 hi).1
  rw [hu] at hu'
  cases hu'
  exact ⟨b, off, cap, u, hv, hc, ha⟩
theorem Arr2.one1 (h : Arr2 w E e k f v ls) : v.oneCell' = true := let ⟨_, h1, _⟩ := h; Rd.one1 h1.1
end
/-- What lay in memory is still there. -/
def Low (w w' : World) : Prop := ∀ b, b < w.heap.size → w'.heap[b]? = w.heap[b]?
theorem Low.of {w w' : World} (h : Chg [] w w') : Low w w' := fun b hb => h.block b hb (by simp)
theorem Rd.low {w w' : World} {k : Nat} {v : Value} {len : Nat} {xs : List Value} (h : Rd w k v len xs) (hk : Low w w') : Rd w' k v len xs :=
  h.keep fun b off u j _ _ hc => by
    have hlt : b < w.heap.size := by
      rcases Nat.lt_or_ge b w.heap.size with h1 | h1
      · exact h1
      · simp [World.cell?, Array.getElem?_eq_none h1] at hc
    unfold World.cell? at hc ⊢
    rw [hk b hlt]; exact hc
theorem Arr.low {α : Type} {f : α → List Value} {w w' : World} {e k : Nat} {v : Value} {l : List α} (h : Arr w e k f v l) (hk : Low w w') : Arr w' e k f v l := Rd.low h hk
theorem ArrL.low {α : Type} {f : α → List Value} {w w' : World} {e k : Nat} (hk : Low w w') : ∀ {vs : List Value} {ls : List (List α)}, ArrL w e k f vs ls → ArrL w' e k f vs ls
  | [], [], _ => trivial
  | _ :: _, _ :: _, h => ⟨Rd.low h.1 hk, ArrL.low hk h.2⟩
theorem Ou.low {w w' : World} {E len : Nat} {v : Value} {vs : List Value} (h : Ou w E v len vs) (hk : Low w w') : Ou w' E v len vs := by
  obtain ⟨h1, h2⟩ := h
  refine ⟨h1.low hk, fun hp => ?_⟩
  obtain ⟨b, off, cap, e, c, fr, hv, hb, ho⟩ := h2 hp
  exact ⟨b, off, cap, e, c, fr, hv, (hk b (Array.getElem?_eq_some_iff.1 hb).1).trans hb, ho⟩
theorem cs_lit (x : Val) : ∀ u ∈ x.cs, litB u = true := by intro u hu; simp [Val.cs] at hu; rcases hu with rfl | rfl | rfl | rfl <;> rfl
theorem ccs_lit (x : Col) : ∀ u ∈ x.cs, litB u = true := by intro u hu; simp [Col.cs] at hu; rcases hu with rfl | rfl | rfl | rfl <;> rfl
theorem ics_lit (x : Int) : ∀ u ∈ ics x, litB u = true := by intro u hu; simp [ics] at hu; subst hu; rfl
def IsIntss (w : World) (v : Value) (ls : List (List Int)) : Prop := Arr2 w 27 3 1 ics v ls
def IsRows (w : World) (v : Value) (ls : List (List Val)) : Prop := Arr2 w 48 40 4 Val.cs v ls
/-- The three slices of a schema. -/
structure IsSch (w : World) (c k u : Value) (s : Sch) : Prop where
  cols : IsCols w c s.cols
  key : IsInts w k s.key
  uq : IsIntss w u s.uq
theorem IsSch.chg0 {w w' : World} {c k u : Value} {s : Sch} (h : IsSch w c k u s) (hc : Chg [] w w') : IsSch w' c k u s := ⟨Arr.chg0 h.cols hc, Arr.chg0 h.key hc, Arr2.chg0 h.uq hc⟩
theorem IsSch.low {w w' : World} {c k u : Value} {s : Sch} (h : IsSch w c k u s) (hk : Low w w') : IsSch w' c k u s :=
  ⟨Arr.low h.cols hk, Arr.low h.key hk, let ⟨vs, h1, h2⟩ := h.uq; ⟨vs, h1.low hk, h2.low hk⟩⟩
/-- .. when blocks turn that hold none of it. -/
theorem IsSch.chgS {w w' : World} {c k u : Value} {s : Sch} (h : IsSch w c k u s) {S : List Nat} (hc : Chg S w w') (hS : Nt w 27 S) (hl : Nl w S) : IsSch w' c k u s :=
  ⟨Arr.chgC h.cols hc ccs_lit hl, Arr.chgC h.key hc ics_lit hl, Arr2.chgS h.uq hc ics_lit hS hl⟩
theorem IsSch.chgB {w w' : World} {c k u : Value} {s : Sch} (h : IsSch w c k u s) {b : Nat} {e : TypeId} {x : List Value} (hb : Blk w b e x) (h3 : okT 27 e = false) (hn : ∀ u ∈ x, litB u = false) (hc : Chg [b] w w') : IsSch w' c k u s :=
  h.chgS hc (Nt.one hb h3) (Nl.one hb hn)
theorem IsSch.one {w : World} {c k u : Value} {s : Sch} (h : IsSch w c k u s) : ∀ x ∈ [c, k, u], x.oneCell' = true := by
  intro x hx
  simp at hx
  rcases hx with rfl | rfl | rfl
  · exact Arr.one1 h.cols
  · exact Arr.one1 h.key
  · exact h.uq.one1
end Go.Wk
