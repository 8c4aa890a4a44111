/-
  errors.As, errors.Is, and the numbers of errors.
  Layer schema: does a value fit a column, a row a schema?
  Layer schema: Pick; are two schemas the same?
  Layer key: how values of each Kind but bytes are laid.
  slices.Chunk, of bytes by eight.
-/
import Derived.Test.YtcnkdoecfljnlaaGreatDoorQ9
set_option linter.all false
namespace Go.Wk
open Go.Proofs
set_option maxRecDepth 10000

theorem e_As (v : Value) (n : Int) (bt : Nat) (old : Value) (w : World) (hE : EOk w) (hv : IsErr w v n) (ht : Blk w bt 32 [old]) :
    Ret Tryz.prog 79 #[v, .iface 152 (.pointer (some ⟨bt, 0, none⟩))] w fun r w' => r = .bool true ∧ Blk w' bt 32 [.int .i64 n] ∧ Chg [bt] w w' := by
  refine Ret.of_W (args := [_, _]) Tryz.func79 rfl rfl rfl rfl ?_

  have hbt := ht.lt
  refine Sr (Oa rfl rfl (O_end [0, 1] (F' := [(0, _), (1, _)]) rfl (W_seq (W_seq ?_))))
  obtain ⟨x, hx⟩ : ∃ x, nilI v = some x ∧ x = false := ⟨_, hv.notNil, rfl⟩
  refine W_region (Om rfl rfl ?_)
  refine Og (vl_inil in106 rfl hv.notNil) rfl ?_
  refine O_end [0, 1, 9] (F' := [(0, _), (1, _), (9, _)]) rfl (W_cond_false rfl (W_skipE (W_seq (Sr (Om rfl rfl ?_)))))
  refine Og (vl_inil in20 rfl rfl) rfl ?_
  refine O_end [0, 1, 11] (F' := [(0, _), (1, _), (11, _)]) rfl (W_cond_false rfl (W_skipE (W_seq ?_)))
  have hn1 := Blk.new w 152 [.pointer (some ⟨bt, 0, none⟩)]
  have hc1 := Chg.alloc [] w (.cells #[.pointer (some ⟨bt, 0, none⟩)] 152)
  generalize hw1 : w.alloc (.cells #[.pointer (some ⟨bt, 0, none⟩)] 152) = w1 at hc1
  have hv1 := r_valP ⟨bt, 0, none⟩ w
  rw [hw1] at hv1
  have hn1 : Blk w1 w.heap.size 152 [.pointer (some ⟨bt, 0, none⟩)] := hw1 ▸ hn1
  refine W_region (Om rfl rfl ?_)
  refine O_go (gn rfl) (st_ext (P := Tryz.prog) (n := Tryz.f79.ntmps) ex120 rfl rfl hv1 rfl ?_)
  skip
  refine O_go (gn rfl) (st_alloc zr202 rfl rfl ?_)
  intro b5 w5 e5 n5 c5 k5
  refine O_go (gn rfl) (st_store sz202 rfl rfl rfl rfl k5 (by simp) (by intro u hu; simp at hu; rcases hu with rfl | rfl | rfl <;> rfl) ?_)
  intro wA nA cA kA
  refine O_end [0, 1, 5] (F' := [(0, _), (1, _), (5, _)]) rfl ?_
  have kA : Blk wA b5 202 [hnd 152, .pointer (some ⟨w.heap.size, 0, none⟩), .int .u64 150] := kA
  have hsz := hc1.size
  have hcA : Chg [] w wA := (hc1.trans c5).own cA (by intro y hy; simp at hy; omega)
  have hnA := (hn1.chg0 c5).chg cA (by simp; have := hn1.lt; omega)
  have hEA := hE.chg0 hcA
  have htA := ht.chg0 hcA
  refine Sr ?_
  refine Og (vl_loadAgg ag202 sz202 rfl rfl (Cells.of_blk0 kA)) rfl ?_
  refine O_go (gn rfl) (st_ext (P := Tryz.prog) (n := Tryz.f79.ntmps) ex121 rfl rfl (r_type ⟨w.heap.size, 0, none⟩ wA) rfl ?_)
  skip
  refine Oa rfl rfl (O_end [0, 1, 5, 6] (F' := [(0, _), (1, _), (5, _), (6, _)]) rfl (W_seq (Sr (Om rfl rfl ?_))))
  refine O_go (gn rfl) (st_invokeX (m_Kind _) ex298 rfl rfl (r_kindP _) rfl ?_)
  skip
  refine Og (vl_is (b' := false) (vl_ine rfl rfl) (ine_f (by omega))) rfl ?_
  refine Om rfl rfl ?_
  refine Oy rfl rfl (vl_loadAgg ag202 sz202 rfl rfl (Cells.of_blk0 kA)) rfl ?_
  refine O_go (gy rfl rfl rfl) (st_ext (P := Tryz.prog) (n := Tryz.f79.ntmps) ex122 rfl rfl (r_isNil ⟨w.heap.size, 0, none⟩ ⟨bt, 0, none⟩ wA (hnA.cell' rfl)) rfl ?_)
  skip
  refine Of rfl rfl rfl (O_end [0, 1, 5, 6, 23] (F' := [(0, _), (1, _), (5, _), (6, _), (23, _)]) rfl (W_cond_false rfl (W_skipE (Sr (Om rfl rfl ?_)))))
  refine O_go (gn rfl) (st_invokeX (m_Elem _) ex311 rfl rfl (r_elemT _) rfl ?_)
  skip
  refine Oa rfl rfl (O_end [0, 1, 5, 7] (F' := [(0, _), (1, _), (5, _), (7, _)]) rfl (W_seq (Sr (Om rfl rfl ?_))))
  refine O_go (gn rfl) (st_invokeX (m_Kind _) ex298 rfl rfl (r_kindE _) rfl ?_)
  skip
  refine Og (vl_is (b' := true) (vl_ine rfl rfl) (ine_t (by omega))) rfl ?_
  refine Om rfl rfl ?_
  refine Oy rfl rfl (vl_move rfl) rfl ?_
  refine Oy rfl rfl (vl_load ag189 rfl hEA) rfl ?_
  refine O_go (gy rfl rfl rfl) (st_invokeX (m_Impl _) ex312 rfl rfl (r_impl _) rfl ?_)
  skip
  refine Oy rfl rfl (vl_not rfl) rfl ?_
  refine Ot rfl rfl rfl (O_end [0, 1, 5, 7, 35] (F' := [(0, _), (1, _), (5, _), (7, _), (35, _)]) rfl (W_cond_false rfl (W_skipE (Sr (Om rfl rfl (Om rfl rfl ?_))))))
  refine Og (vl_loadAgg ag202 sz202 rfl rfl (Cells.of_blk0 kA)) rfl ?_
  refine Om rfl rfl ?_
  refine O_go (gn rfl) (st_call bd123 rfl rfl rfl rfl (e_as v n bt old ⟨w.heap.size, 0, none⟩ wA (hv.chg0 hcA) htA (hnA.cell' rfl) (by simp; omega)) ?_)
  rintro v41 w41 ⟨rfl, hb, hc⟩
  refine Oa rfl rfl (O_end [4] (F' := [(4, _)]) rfl (W_ret ?_))
  refine ret1 rfl rfl ?_
  exact ⟨rfl, hb, (hcA.any (S := [bt])).transS hc⟩
theorem e_As0 (t : Value) (w : World) : Ret Tryz.prog 79 #[.nilIface, t] w fun r w' => r = .bool false ∧ w' = w := by
  refine Ret.of_W (args := [_, _]) Tryz.func79 rfl rfl rfl rfl ?_

  refine Sr (Oa rfl rfl (O_end [0, 1] (F' := [(0, _), (1, _)]) rfl (W_seq (Sr (Om rfl rfl ?_)))))
  refine Og (vl_inil in106 rfl rfl) rfl ?_
  refine O_end [0, 1, 9] (F' := [(0, _), (1, _), (9, _)]) rfl (W_cond_true rfl (Sr (Oa rfl rfl (O_end [4] (F' := [(4, _)]) rfl (W_ret ?_)))))
  repeat (first | refine then_ret ?_ | refine block_ret ?_)
  refine ret1 rfl rfl ?_
  exact ⟨rfl, rfl⟩
theorem cmp32 : (Tryz.prog.info? 32).map (·.comparable) = some true := by kernel_rfl
theorem e_is (v : Value) (n k : Int) (w : World) (hv : IsErr w v n) : Ret Tryz.prog 110 #[v, errno k, .bool true] w fun r w' => r = .bool (decide (n = k)) ∧ Chg [] w w' := by
  refine Ret.of_W (args := [_, _, _]) Tryz.func110 rfl rfl rfl rfl ?_

  refine Sr (Oa rfl rfl (O_end [0, 1, 2] (F' := [(0, _), (1, _), (2, _)]) rfl (W_block ?_)))
  refine W_loop [0, 1, 2] (fun m F wx => ∃ u : Value, (IsErr wx u n ∧ (m = 0 → u = errno n)) ∧ F = [(0, u), (1, errno k), (2, .bool true)] ∧ Chg [] w wx) (m := 1) ⟨v, ⟨hv, fun h => by omega⟩, rfl, Chg.refl _ _⟩ ?_
  rintro m F wx ⟨u, ⟨hu, hm⟩, rfl, hcx⟩
  refine W_block (W_seq (W_seq ?_))
  rcases hu with rfl | hu
  · by_cases hnk : n = k
    · refine W_region (Om rfl rfl (Om rfl rfl ?_))
      refine Oy rfl rfl (vl_move rfl) rfl ?_
      refine Oy rfl rfl (vl_move rfl) rfl ?_
      refine Oy rfl rfl (vl_eq (v' := .bool true) (vl_ifint in106 cmp32 it32_i64 rfl rfl) (by rw [decide_eq_true hnk])) rfl ?_
      refine Ot rfl rfl rfl (O_end [0, 1, 2, 19] (F' := [(0, _), (1, _), (2, _), (19, _)]) rfl (W_cond_true rfl (Sr (Oa rfl rfl (O_end [6] (F' := [(6, _)]) rfl (W_ret ?_))))))
      repeat (first | refine then_ret ?_ | refine block_ret ?_)
      refine ret1 rfl rfl ?_
      exact ⟨by rw [decide_eq_true hnk], hcx⟩
    · refine W_region (Om rfl rfl (Om rfl rfl ?_))
      refine Oy rfl rfl (vl_move rfl) rfl ?_
      refine Oy rfl rfl (vl_move rfl) rfl ?_
      refine Oy rfl rfl (vl_eq (v' := .bool false) (vl_ifint in106 cmp32 it32_i64 rfl rfl) (by rw [decide_eq_false hnk])) rfl ?_
      refine Ot rfl rfl rfl (O_end [0, 1, 2, 19] (F' := [(0, _), (1, _), (2, _), (19, _)]) rfl (W_cond_false rfl (W_skipE (W_seq (Sr (Om rfl rfl ?_))))))
      refine Og (vl_tasQ iq249_32_n zr249 rfl) rfl ?_
      refine Om rfl rfl (Oe rfl rfl rfl (Oe rfl rfl rfl (Oa rfl rfl (Oa rfl rfl (O_end [0, 1, 2, 7, 8] (F' := [(0, _), (1, _), (2, _), (7, _), (8, _)]) rfl (Sr (Om rfl rfl (Om rfl rfl (Oz rfl rfl rfl rfl (Oz rfl rfl rfl rfl (Oz rfl rfl rfl rfl (Of rfl rfl rfl ?_))))))))))))
      refine O_end [0, 1, 2, 30] (F' := [(0, _), (1, _), (2, _), (30, _)]) rfl (W_cond_false rfl (W_skipE (Sr (Om rfl rfl (O_end [1, 2, 31] (F' := [(1, _), (2, _), (31, _)]) rfl (W_block (Sr ?_)))))))
      refine Og (vl_tasQ iq252_32_n zr252 rfl) rfl ?_
      refine Oe rfl rfl rfl (Oe rfl rfl rfl (O_end [1, 2, 31, 33, 34] (F' := [(1, _), (2, _), (31, _), (33, _), (34, _)]) rfl (W_cond_false rfl (Sr ?_))))
      refine Og (vl_tasQ iq254_32_n zr254 rfl) rfl ?_
      refine Oe rfl rfl rfl (Oe rfl rfl rfl (O_end [1, 2, 31, 40, 41] (F' := [(1, _), (2, _), (31, _), (40, _), (41, _)]) rfl (W_cond_false rfl (Sr (Oa rfl rfl (O_end [] (F' := []) rfl (Sr (Oa rfl rfl (O_end [6] (F' := [(6, _)]) rfl (W_ret ?_))))))))))
      repeat (first | refine then_ret ?_ | refine block_ret ?_)
      refine ret1 rfl rfl ?_
      exact ⟨by rw [decide_eq_false hnk], hcx⟩
  · have hm1 : m ≠ 0 := fun h => by
      have := hm h
      subst this
      rcases hu with ⟨b, c, h, _⟩ | ⟨k, h⟩ <;> cases h
    rcases hu with ⟨b, c, rfl, hb⟩ | ⟨kk, rfl⟩
    · refine W_region (Om rfl rfl (Om rfl rfl ?_))
      refine Oy rfl rfl (vl_move rfl) rfl ?_
      refine Oy rfl rfl (vl_move rfl) rfl ?_
      refine Oy rfl rfl (vl_ifne in106 rfl rfl rfl) rfl ?_
      refine Ot rfl rfl rfl (O_end [0, 1, 2, 19] (F' := [(0, _), (1, _), (2, _), (19, _)]) rfl (W_cond_false rfl (W_skipE (W_seq (Sr (Om rfl rfl ?_))))))
      refine Og (vl_tasQ iq249_315_n zr249 rfl) rfl ?_
      refine Om rfl rfl (Oe rfl rfl rfl (Oe rfl rfl rfl (Oa rfl rfl (Oa rfl rfl (O_end [0, 1, 2, 7, 8] (F' := [(0, _), (1, _), (2, _), (7, _), (8, _)]) rfl (Sr (Om rfl rfl (Om rfl rfl (Oz rfl rfl rfl rfl (Oz rfl rfl rfl rfl (Oz rfl rfl rfl rfl (Of rfl rfl rfl ?_))))))))))))
      refine O_end [0, 1, 2, 30] (F' := [(0, _), (1, _), (2, _), (30, _)]) rfl (W_cond_false rfl (W_skipE (Sr (Om rfl rfl (O_end [1, 2, 31] (F' := [(1, _), (2, _), (31, _)]) rfl (W_block (Sr ?_)))))))
      refine Og (vl_tasQ iq252_315_y zr252 rfl) rfl ?_
      refine Oe rfl rfl rfl (Oe rfl rfl rfl (O_end [1, 2, 31, 33, 34] (F' := [(1, _), (2, _), (31, _), (33, _), (34, _)]) rfl (W_cond_true rfl (Sr (Oa rfl rfl (O_end [1, 2, 9] (F' := [(1, _), (2, _), (9, _)]) rfl (Sr (Om rfl rfl ?_))))))))
      refine O_go (gn rfl) (st_invoke (m_unwS _) bd320 rfl rfl rfl (e_unwS b c n _ hb) ?_)
      rintro v36 w36 ⟨rfl, rfl⟩
      refine Oa rfl rfl (O_end [0, 1, 2] (F' := [(0, _), (1, _), (2, _)]) rfl (Sr (Om rfl rfl ?_)))
      refine Og (vl_inil in106 rfl rfl) rfl ?_
      refine O_end [0, 1, 2, 38] (F' := [(0, _), (1, _), (2, _), (38, _)]) rfl (W_cond_false rfl (W_skip (block_normal (block_normal ?_))))
      exact ⟨0, by omega, _, ⟨.inl rfl, fun _ => rfl⟩, rfl, hcx⟩
    · refine W_region (Om rfl rfl (Om rfl rfl ?_))
      refine Oy rfl rfl (vl_move rfl) rfl ?_
      refine Oy rfl rfl (vl_move rfl) rfl ?_
      refine Oy rfl rfl (vl_ifne in106 rfl rfl rfl) rfl ?_
      refine Ot rfl rfl rfl (O_end [0, 1, 2, 19] (F' := [(0, _), (1, _), (2, _), (19, _)]) rfl (W_cond_false rfl (W_skipE (W_seq (Sr (Om rfl rfl ?_))))))
      refine Og (vl_tasQ iq249_141_n zr249 rfl) rfl ?_
      refine Om rfl rfl (Oe rfl rfl rfl (Oe rfl rfl rfl (Oa rfl rfl (Oa rfl rfl (O_end [0, 1, 2, 7, 8] (F' := [(0, _), (1, _), (2, _), (7, _), (8, _)]) rfl (Sr (Om rfl rfl (Om rfl rfl (Oz rfl rfl rfl rfl (Oz rfl rfl rfl rfl (Oz rfl rfl rfl rfl (Of rfl rfl rfl ?_))))))))))))
      refine O_end [0, 1, 2, 30] (F' := [(0, _), (1, _), (2, _), (30, _)]) rfl (W_cond_false rfl (W_skipE (Sr (Om rfl rfl (O_end [1, 2, 31] (F' := [(1, _), (2, _), (31, _)]) rfl (W_block (Sr ?_)))))))
      refine Og (vl_tasQ iq252_141_y zr252 rfl) rfl ?_
      refine Oe rfl rfl rfl (Oe rfl rfl rfl (O_end [1, 2, 31, 33, 34] (F' := [(1, _), (2, _), (31, _), (33, _), (34, _)]) rfl (W_cond_true rfl (Sr (Oa rfl rfl (O_end [1, 2, 9] (F' := [(1, _), (2, _), (9, _)]) rfl (Sr (Om rfl rfl ?_))))))))
      refine O_go (gn rfl) (st_invoke (m_unwT _) bd303 rfl rfl rfl (e_unwT kk n _) ?_)
      rintro v36 w36 ⟨rfl, c36⟩
      refine Oa rfl rfl (O_end [0, 1, 2] (F' := [(0, _), (1, _), (2, _)]) rfl (Sr (Om rfl rfl ?_)))
      refine Og (vl_inil in106 rfl rfl) rfl ?_
      refine O_end [0, 1, 2, 38] (F' := [(0, _), (1, _), (2, _), (38, _)]) rfl (W_cond_false rfl (W_skip (block_normal (block_normal ?_))))
      exact ⟨0, by omega, _, ⟨.inl rfl, fun _ => rfl⟩, rfl, hcx.trans c36⟩
theorem e_Is (v : Value) (n k : Int) (w : World) (hv : IsErr w v n) : Ret Tryz.prog 74 #[v, errno k] w fun r w' => r = .bool (decide (n = k)) ∧ Chg [] w w' := by
  refine Ret.of_W (args := [_, _]) Tryz.func74 rfl rfl rfl rfl ?_

  refine Sr (Oa rfl rfl (O_end [0, 1] (F' := [(0, _), (1, _)]) rfl (W_seq (W_seq ?_))))
  have hb : bodied Tryz.prog 110 = true := bd110
  refine W_region (Om rfl rfl ?_)
  refine Og (vl_inil in106 rfl hv.notNil) rfl ?_
  refine Om rfl rfl ?_
  refine Oy rfl rfl (vl_move rfl) rfl ?_
  refine Oy rfl rfl (vl_inil in106 rfl rfl) rfl ?_
  refine Of rfl rfl rfl (O_end [0, 1, 11] (F' := [(0, _), (1, _), (11, _)]) rfl (W_cond_false rfl (W_skipE (Sr (Om rfl rfl ?_)))))
  refine O_go (gn rfl) (st_ext (P := Tryz.prog) (n := Tryz.f74.ntmps) ex109 rfl rfl (r_typeOf _ _) rfl ?_)
  skip
  refine O_go (gn rfl) (st_invokeX (m_Cmp _) ex310 rfl rfl (r_cmp _) rfl ?_)
  skip
  refine Oa rfl rfl (O_end [0, 1, 5] (F' := [(0, _), (1, _), (5, _)]) rfl (Sr (Om rfl rfl (Om rfl rfl (Om rfl rfl ?_)))))
  refine O_go (gn rfl) (st_call bd110 rfl rfl rfl rfl (e_is v n k _ hv) ?_)
  rintro v21 w21 ⟨rfl, c21⟩
  refine Oa rfl rfl (O_end [4] (F' := [(4, _)]) rfl (W_ret ?_))
  refine ret1 rfl rfl ?_
  exact ⟨rfl, c21⟩
theorem e_Is0 (k : Int) (w : World) : Ret Tryz.prog 74 #[.nilIface, errno k] w fun r w' => r = .bool false ∧ w' = w := by
  refine Ret.of_W (args := [_, _]) Tryz.func74 rfl rfl rfl rfl ?_

  refine Sr (Oa rfl rfl (O_end [0, 1] (F' := [(0, _), (1, _)]) rfl (W_seq (Sr (Om rfl rfl ?_)))))
  refine Og (vl_inil in106 rfl rfl) rfl ?_
  refine Om rfl rfl (Oz rfl rfl rfl rfl (Oz rfl rfl rfl rfl (Ot rfl rfl rfl (O_end [0, 1, 11] (F' := [(0, _), (1, _), (11, _)]) rfl (W_cond_true rfl (Sr (Om rfl rfl (Om rfl rfl ?_))))))))
  refine Og (vl_ifnil in106 rfl rfl) rfl ?_
  refine Oa rfl rfl (O_end [4] (F' := [(4, _)]) rfl (W_ret ?_))
  repeat (first | refine then_ret ?_ | refine block_ret ?_)
  refine ret1 rfl rfl ?_
  exact ⟨rfl, rfl⟩
theorem e_numS (v : Value) (n : Int) (w : World) (hE : EOk w) (hv : v = .nilIface ∧ n = 0 ∨ IsErr w v n) : Ret Tryz.prog 124 #[v] w fun r w' => r = .int .i64 n ∧ Chg [] w w' := by
  refine Ret.of_W (args := [_]) Tryz.func124 rfl rfl rfl rfl ?_

  refine Sr ?_
  refine O_go (gn rfl) (st_alloc zr32 rfl rfl ?_)
  intro b2 w2 e2 n2 c2 k2
  refine O_end [0, 2] (F' := [(0, _), (2, _)]) rfl (W_seq (W_seq ?_))
  rcases hv with ⟨rfl, rfl⟩ | hv
  · refine W_region (Om rfl rfl ?_)
    refine Og (vl_mkif ni152 rfl) rfl ?_
    refine O_go (gn rfl) (st_call bd79 rfl rfl rfl rfl (e_As0 _ _) ?_)
    rintro v5 w5 ⟨rfl, rfl⟩
    refine Og (vl_not rfl) rfl (O_end [2, 6] (F' := [(2, _), (6, _)]) rfl (W_cond_true rfl (Sr ?_)))
    refine O_go (gn rfl) (st_store sz32 rfl rfl rfl rfl k2 (by simp) (by intro u hu; simp at hu; subst hu; rfl) ?_)
    intro wA nA cA kA
    refine O_end [2] (F' := [(2, _)]) rfl (W_ret ?_)
    repeat (first | refine then_ret ?_ | refine block_ret ?_)
    refine retC1 rfl ag32 rfl (kA.cell' rfl) ?_
    exact ⟨rfl, c2.own cA (by intro y hy; simp at hy; omega)⟩
  · refine W_region (Om rfl rfl ?_)
    refine Og (vl_mkif ni152 rfl) rfl ?_
    refine O_go (gn rfl) (st_call bd79 rfl rfl rfl rfl (e_As v n b2 _ _ (hE.chg0 c2) (hv.chg0 c2) k2) ?_)
    rintro v5 w5 ⟨rfl, k5, c5⟩
    refine Og (vl_not rfl) rfl (O_end [2, 6] (F' := [(2, _), (6, _)]) rfl (W_cond_false rfl (W_skipE (Sr ?_))))
    refine Og (vl_load ag32 rfl (k5.cell' rfl)) rfl ?_
    refine O_go (gn rfl) (st_store sz32 rfl rfl rfl rfl k5 (by simp) (by intro u hu; simp at hu; subst hu; rfl) ?_)
    intro wA nA cA kA
    refine O_end [2] (F' := [(2, _)]) rfl (W_ret ?_)
    repeat (first | refine then_ret ?_ | refine block_ret ?_)
    refine retC1 rfl ag32 rfl (kA.cell' rfl) ?_
    exact ⟨rfl, (c2.own c5 (by intro y hy; simp at hy; omega)).own cA (by intro y hy; simp at hy; omega)⟩
theorem e_numT (v : Value) (n : Int) (w : World) (hE : EOk w) (hv : v = .nilIface ∧ n = 0 ∨ IsErr w v n) : Ret Tryz.prog 46 #[v] w fun r w' => r = .int .i64 n ∧ Chg [] w w' := by
  refine Ret.of_W (args := [_]) Tryz.func46 rfl rfl rfl rfl ?_

  refine Sr ?_
  refine O_go (gn rfl) (st_alloc zr32 rfl rfl ?_)
  intro b2 w2 e2 n2 c2 k2
  refine O_end [0, 2] (F' := [(0, _), (2, _)]) rfl (W_seq (W_seq ?_))
  rcases hv with ⟨rfl, rfl⟩ | hv
  · refine W_region (Om rfl rfl ?_)
    refine Og (vl_inil in106 rfl rfl) rfl ?_
    refine Om rfl rfl (Oz rfl rfl rfl rfl (Oz rfl rfl rfl rfl (Oz rfl rfl rfl rfl (Oz rfl rfl rfl rfl (Ot rfl rfl rfl (O_end [2, 10] (F' := [(2, _), (10, _)]) rfl (W_cond_true rfl (Sr ?_))))))))
    refine O_go (gn rfl) (st_store sz32 rfl rfl rfl rfl k2 (by simp) (by intro u hu; simp at hu; subst hu; rfl) ?_)
    intro wA nA cA kA
    refine O_end [2] (F' := [(2, _)]) rfl (W_ret ?_)
    repeat (first | refine then_ret ?_ | refine block_ret ?_)
    refine retC1 rfl ag32 rfl (kA.cell' rfl) ?_
    exact ⟨rfl, c2.own cA (by intro y hy; simp at hy; omega)⟩
  · refine W_region (Om rfl rfl ?_)
    refine Og (vl_inil in106 rfl hv.notNil) rfl ?_
    refine Om rfl rfl ?_
    refine Oy rfl rfl (vl_move rfl) rfl ?_
    refine Oy rfl rfl (vl_mkif ni152 rfl) rfl ?_
    refine O_go (gy rfl rfl rfl) (st_call bd79 rfl rfl rfl rfl (e_As v n b2 _ _ (hE.chg0 c2) (hv.chg0 c2) k2) ?_)
    rintro v8 w8 ⟨rfl, k5, c5⟩
    refine Oy rfl rfl (vl_not rfl) rfl ?_
    refine Of rfl rfl rfl (O_end [2, 10] (F' := [(2, _), (10, _)]) rfl (W_cond_false rfl (W_skipE (Sr ?_))))
    refine Og (vl_load ag32 rfl (k5.cell' rfl)) rfl ?_
    refine O_go (gn rfl) (st_store sz32 rfl rfl rfl rfl k5 (by simp) (by intro u hu; simp at hu; subst hu; rfl) ?_)
    intro wA nA cA kA
    refine O_end [2] (F' := [(2, _)]) rfl (W_ret ?_)
    repeat (first | refine then_ret ?_ | refine block_ret ?_)
    refine retC1 rfl ag32 rfl (kA.cell' rfl) ?_
    exact ⟨rfl, (c2.own c5 (by intro y hy; simp at hy; omega)).own cA (by intro y hy; simp at hy; omega)⟩
end Go.Wk

namespace Go.Wk
open Go.Proofs
set_option maxRecDepth 10000

/-- What is told of a number: nil, or an error that bears it. -/
def ErrOf (w : World) (v : Value) (n : Int) : Prop := v = .nilIface ∧ n = 0 ∨ IsErr w v n ∧ n ≠ 0
theorem ErrOf.weak {w : World} {v : Value} {n : Int} (h : ErrOf w v n) : v = .nilIface ∧ n = 0 ∨ IsErr w v n := h.imp id (·.1)
theorem isErrS {w : World} {b : Nat} {c : ByteArray} {n : Int} (h : Blk w b 317 [.string c, errno n]) : IsErr w (.iface 315 (.pointer (some ⟨b, 0, none⟩))) n := .inr (.inl ⟨b, c, rfl, h⟩)
theorem fitsN_1 {c : Col} {x : Val} (h : rightC c = false) : fitsN c x = 2 := by simp [fitsN, h]
theorem fitsN_2 {c : Col} {x : Val} (h : rightC c = true) (h2 : chkN x ≠ 0) : fitsN c x = chkN x := by simp [fitsN, h, h2]
theorem fitsN_3 {c : Col} {x : Val} (h : rightC c = true) (h2 : chkN x = 0) (h3 : x.k = 0) : fitsN c x = if c.z then 0 else 131 := by simp [fitsN, h, h2, h3]
theorem fitsN_4 {c : Col} {x : Val} (h : rightC c = true) (h2 : chkN x = 0) (h3 : x.k ≠ 0) (h4 : x.k ≠ c.t) : fitsN c x = 132 := by simp [fitsN, h, h2, h3, h4]
theorem fitsN_5 {c : Col} {x : Val} (h : rightC c = true) (h2 : chkN x = 0) (h3 : x.k ≠ 0) (h4 : x.k = c.t) : fitsN c x = if wideN c x then 133 else 0 := by
  simp only [fitsN, h, h2, h4]
  rw [h4] at h3
  simp [h3]
theorem s_fits (c : Col) (x : Val) (w : World) (hx : x.Rng) : Ret Tryz.prog 155 #[c.v, x.v] w fun r w' => ErrOf w' r (fitsN c x) ∧ Chg [] w w' := by
  refine Ret.of_W (args := [_, _]) Tryz.func155 rfl rfl rfl rfl ?_

  refine Sr ?_
  refine O_go (gn rfl) (st_box rfl rfl rfl ?_)
  intro b2 w2 e2 n2 c2 k2
  refine O_go (gn rfl) (st_box rfl rfl rfl ?_)
  intro b3 w3 e3 n3 c3 k3
  refine Oa rfl rfl (O_end [2, 3] (F' := [(2, _), (3, _)]) rfl ?_)
  have hk2 := k2.chg0 c3
  have hc3 : Chg [] w w3 := c2.trans c3
  refine W_seq (W_seq ?_)
  cases hr : rightC c with
  | false =>
    refine W_region ?_
    refine Og (vl_loadAgg ag25 sz25 rfl rfl (Cells.of_blk0 hk2)) rfl ?_
    refine O_go (gn rfl) (st_call bd112 rfl rfl rfl rfl (s_right c _) ?_)
    rintro v8 w8 ⟨h8, c8⟩
    rw [hr] at h8
    subst h8
    refine Og (vl_not rfl) rfl (O_end [2, 3, 9] (F' := [(2, _), (3, _), (9, _)]) rfl (W_cond_true rfl (Sr (Og (vl_fieldAddr fo25_0 rfl) rfl ?_))))
    refine Og (vl_load ag9 rfl ((hk2.chg0 c8).cell' rfl)) rfl ?_
    refine Og (vl_mkif ni32 rfl) rfl ?_
    refine Og (vl_build pl317 zr317 rfl (vs := [_, _]) rfl (css := [_, _]) ⟨rfl, rfl, trivial⟩ rfl rfl (cs := [_, _]) rfl) rfl ?_
    refine O_go (gn rfl) (st_box rfl rfl rfl ?_)
    intro b14 w14 e14 n14 c14 k14
    refine Og (vl_mkif ni315 rfl) rfl ?_
    refine Oa rfl rfl (O_end [4] (F' := [(4, _)]) rfl (W_ret ?_))
    repeat (first | refine then_ret ?_ | refine block_ret ?_)
    refine ret1 rfl rfl ?_
    rw [fitsN_1 hr]
    exact ⟨.inr ⟨isErrS k14, by omega⟩, (hc3.trans c8).trans c14⟩
  | true =>
    refine W_region ?_
    refine Og (vl_loadAgg ag25 sz25 rfl rfl (Cells.of_blk0 hk2)) rfl ?_
    refine O_go (gn rfl) (st_call bd112 rfl rfl rfl rfl (s_right c _) ?_)
    rintro v8 w8 ⟨h8, c8⟩
    rw [hr] at h8
    subst h8
    refine Og (vl_not rfl) rfl (O_end [2, 3, 9] (F' := [(2, _), (3, _), (9, _)]) rfl (W_cond_false rfl (W_skipE (W_seq (Sr ?_)))))
    refine Og (vl_loadAgg ag40 sz40 rfl rfl (Cells.of_blk0 (k3.chg0 c8))) rfl ?_
    refine O_go (gn rfl) (st_call bd143 rfl rfl rfl rfl (v_Check x _) ?_)
    rintro v17 w17 ⟨rfl, c17⟩
    refine Oa rfl rfl (O_end [2, 3, 5] (F' := [(2, _), (3, _), (5, _)]) rfl ?_)
    have hc17 : Chg [] w w17 := (hc3.trans c8).trans c17
    have hk2a := hk2.chg0 (c8.trans c17)
    have hk3a := k3.chg0 (c8.trans c17)
    refine W_seq ?_
    by_cases hc : chkN x = 0
    · refine W_region (Om rfl rfl ?_)
      refine Og (vl_is (b' := false) (vl_ine rfl rfl) (by simp [hc])) rfl ?_
      refine O_end [2, 3, 5, 19] (F' := [(2, _), (3, _), (5, _), (19, _)]) rfl (W_cond_false rfl (W_skipE ?_))
      refine W_seq_cut (fun F wA => ∃ b6 s f k, F = [(2, .pointer (some ⟨b2, 0, none⟩)), (3, .pointer (some ⟨b3, 0, none⟩)), (6, .pointer (some ⟨b6, 0, none⟩))] ∧ Blk wA b6 259 [.func (.func s) #[] #[], .int .i64 c.t, .func (.func f) #[] #[]] ∧ Chg [] w17 wA ∧ k = c.t ∧ bodied Tryz.prog f = true ∧ (∀ (x : Val) w, x.Rng → Ret Tryz.prog f #[.int .i64 c.s, x.v] w fun r w' => r = .bool (!wideN c x) ∧ Chg [] w w')) ?_ ?_
      · have htn : typeN c = true := by rw [right_split] at hr; simp only [Bool.and_eq_true] at hr; exact hr.1.1
        obtain ⟨s, f, kk, hg, hkk, _, hbf, _, hff⟩ := skinds_some htn
        have hC := (Chg.drew [] w17)
        refine W_drawF (fun wz => Chg [] w17 wz) (Tree.seq [1, 2] (.two 0 (Tree.seq [] (.two 3 (Tree.seq [4, 5] .done) 4 (Tree.seq [3, 5] .done))) 4 (Tree.seq [0, 3, 5] .done))) mix (by kernel_rfl) hC ?_
        refine f_pure rfl rfl (gn rfl) (fun _ => vl_fieldAddr fo25_1 rfl) rfl rfl ?_
        refine f_read rfl rfl (gn rfl) (fun wz hz => vl_load ag23 rfl ((hk2a.chg0 hz).cell' rfl)) rfl rfl ?_
        refine f_two ?_ ?_
        · refine f_st rfl rfl (gn rfl) (st_call bd148 rfl rfl rfl rfl (s_kinds _) ?_)
          rintro v27 w27 ⟨b27, rfl, h27, k27, c27⟩
          have hN27 := hC.size
          have hC := hC.trans c27
          refine ⟨.inl hC, ?_⟩
          refine f_two ?_ ?_
          · refine f_st rfl rfl (gn rfl) (St.vl (vl_lookK1v (κ := intK .i64) mp261 (itOf_und it23_i64) zr259 rfl rfl k27 hg rfl) rfl rfl ?_)
            refine ⟨.inl hC, ?_⟩
            refine f_st rfl rfl (gn rfl) (st_alloc zr259 rfl rfl ?_)
            intro b6 w6 e6 n6 c6 k6
            have hN6 := hC.size
            have hC := hC.trans c6
            have k27 := k27.chg0 c6
            refine ⟨.inl hC, ?_⟩
            refine f_st rfl rfl (gn rfl) (st_store sz259 rfl rfl rfl rfl k6 (by simp) (by intro u hu; simp at hu; rcases hu with rfl | rfl | rfl <;> rfl) ?_)
            intro wA nA cA kA
            have hC := hC.own cA (by intro y hy; simp at hy; omega)
            refine ⟨.inl hC, ?_⟩
            refine F_end [2, 3, 6] (F' := [(2, _), (3, _), (6, _)]) rfl ?_
            exact ⟨b6, s, f, c.t, rfl, by rw [← hkk]; exact kA, hC, rfl, hbf, hff hr⟩
          · refine f_st rfl rfl (gn rfl) (st_alloc zr259 rfl rfl ?_)
            intro b6 w6 e6 n6 c6 k6
            have hN6 := hC.size
            have hC := hC.trans c6
            have k27 := k27.chg0 c6
            refine ⟨.inl hC, ?_⟩
            refine f_st rfl rfl (gn rfl) (St.vl (vl_lookK1v (κ := intK .i64) mp261 (itOf_und it23_i64) zr259 rfl rfl k27 hg rfl) rfl rfl ?_)
            refine ⟨.inl hC, ?_⟩
            refine f_st rfl rfl (gn rfl) (st_store sz259 rfl rfl rfl rfl k6 (by simp) (by intro u hu; simp at hu; rcases hu with rfl | rfl | rfl <;> rfl) ?_)
            intro wA nA cA kA
            have hC := hC.own cA (by intro y hy; simp at hy; omega)
            refine ⟨.inl hC, ?_⟩
            refine F_end [2, 3, 6] (F' := [(2, _), (3, _), (6, _)]) rfl ?_
            exact ⟨b6, s, f, c.t, rfl, by rw [← hkk]; exact kA, hC, rfl, hbf, hff hr⟩
        · refine f_st rfl rfl (gn rfl) (st_alloc zr259 rfl rfl ?_)
          intro b6 w6 e6 n6 c6 k6
          have hN6 := hC.size
          have hC := hC.trans c6
          refine ⟨.inl hC, ?_⟩
          refine f_st rfl rfl (gn rfl) (st_call bd148 rfl rfl rfl rfl (s_kinds _) ?_)
          rintro v27 w27 ⟨b27, rfl, h27, k27, c27⟩
          have hN27 := hC.size
          have hC := hC.trans c27
          have k6 := k6.chg0 c27
          refine ⟨.inl hC, ?_⟩
          refine f_st rfl rfl (gn rfl) (St.vl (vl_lookK1v (κ := intK .i64) mp261 (itOf_und it23_i64) zr259 rfl rfl k27 hg rfl) rfl rfl ?_)
          refine ⟨.inl hC, ?_⟩
          refine f_st rfl rfl (gn rfl) (st_store sz259 rfl rfl rfl rfl k6 (by simp) (by intro u hu; simp at hu; rcases hu with rfl | rfl | rfl <;> rfl) ?_)
          intro wA nA cA kA
          have hC := hC.own cA (by intro y hy; simp at hy; omega)
          refine ⟨.inl hC, ?_⟩
          refine F_end [2, 3, 6] (F' := [(2, _), (3, _), (6, _)]) rfl ?_
          exact ⟨b6, s, f, c.t, rfl, by rw [← hkk]; exact kA, hC, rfl, hbf, hff hr⟩
      rintro F wA ⟨b6, s, f, k, rfl, kA, hcA, rfl, hbf, hff⟩
      have hk2b := hk2a.chg0 hcA
      have hk3b := hk3a.chg0 hcA
      have hwA := hc17.trans hcA
      refine W_seq (W_block (W_seq ?_))
      by_cases h0 : x.k = 0
      · refine W_region (Og (vl_fieldAddr fo40_0 rfl) rfl ?_)
        refine Og (vl_load ag37 rfl (hk3b.cell' rfl)) rfl ?_
        refine Og (vl_is (b' := true) (vl_ieq rfl rfl) (decide_eq_true (by omega))) rfl ?_
        refine Om rfl rfl ?_
        refine Oy rfl rfl (vl_fieldAddr fo25_3 rfl) rfl ?_
        refine Oy rfl rfl (vl_load ag4 rfl (hk2b.cell' rfl)) rfl ?_
        refine Ot rfl rfl rfl (Oa rfl rfl (O_end [2, 3, 6, 31] (F' := [(2, _), (3, _), (6, _), (31, _)]) rfl ?_))
        refine W_cond rfl (fun hT => ?_) (fun hF => ?_)
        · refine Sr (Oa rfl rfl (O_end [4] (F' := [(4, _)]) rfl (W_ret ?_)))
          repeat (first | refine then_ret ?_ | refine block_ret ?_)
          refine ret1 rfl rfl ?_
          exact ⟨.inl ⟨rfl, by rw [fitsN_3 hr hc h0, hT]; rfl⟩, hwA⟩
        · refine Sr (Og (vl_fieldAddr fo40_0 rfl) rfl ?_)
          refine Og (vl_load ag37 rfl (hk3b.cell' rfl)) rfl ?_
          refine Og (vl_is (b' := true) (vl_ieq rfl rfl) (decide_eq_true (by omega))) rfl ?_
          refine Oa rfl rfl (O_end [2, 3, 6, 39] (F' := [(2, _), (3, _), (6, _), (39, _)]) rfl (W_cond_true rfl (Sr (Og (vl_fieldAddr fo25_0 rfl) rfl ?_))))
          refine Og (vl_load ag9 rfl (hk2b.cell' rfl)) rfl ?_
          refine Og (vl_mkif ni32 rfl) rfl ?_
          refine Og (vl_build pl317 zr317 rfl (vs := [_, _]) rfl (css := [_, _]) ⟨rfl, rfl, trivial⟩ rfl rfl (cs := [_, _]) rfl) rfl ?_
          refine O_go (gn rfl) (st_box rfl rfl rfl ?_)
          intro b47 w47 e47 n47 c47 k47
          refine Og (vl_mkif ni315 rfl) rfl ?_
          refine Oa rfl rfl (O_end [4] (F' := [(4, _)]) rfl (W_ret ?_))
          repeat (first | refine then_ret ?_ | refine block_ret ?_)
          refine ret1 rfl rfl ?_
          rw [fitsN_3 hr hc h0, hF]
          exact ⟨.inr ⟨isErrS k47, by decide⟩, hwA.trans c47⟩
      · refine W_region (Og (vl_fieldAddr fo40_0 rfl) rfl ?_)
        refine Og (vl_load ag37 rfl (hk3b.cell' rfl)) rfl ?_
        refine Og (vl_is (b' := false) (vl_ieq rfl rfl) (decide_eq_false (by omega))) rfl ?_
        refine Om rfl rfl (Oz rfl rfl rfl rfl (Oz rfl rfl rfl rfl (Of rfl rfl rfl (Oa rfl rfl (O_end [2, 3, 6, 31] (F' := [(2, _), (3, _), (6, _), (31, _)]) rfl (W_cond_false rfl (Sr (Og (vl_fieldAddr fo40_0 rfl) rfl ?_))))))))
        refine Og (vl_load ag37 rfl (hk3b.cell' rfl)) rfl ?_
        refine Og (vl_is (b' := false) (vl_ieq rfl rfl) (decide_eq_false (by omega))) rfl ?_
        refine Oa rfl rfl (O_end [2, 3, 6, 39] (F' := [(2, _), (3, _), (6, _), (39, _)]) rfl (W_cond_false rfl (W_seq ?_)))
        by_cases h4 : x.k = c.t
        · refine W_region (Og (vl_fieldAddr fo40_0 rfl) rfl ?_)
          refine Og (vl_load ag37 rfl (hk3b.cell' rfl)) rfl ?_
          refine Og (vl_fieldAddr fo259_1 rfl) rfl ?_
          refine Og (vl_load ag37 rfl (kA.cell' rfl)) rfl ?_
          refine Og (vl_is (b' := false) (vl_ine rfl rfl) (ine_f (by omega))) rfl ?_
          refine Oa rfl rfl (O_end [2, 3, 6, 49] (F' := [(2, _), (3, _), (6, _), (49, _)]) rfl (W_cond_false rfl (Sr (Og (vl_fieldAddr fo259_2 rfl) rfl ?_))))
          refine Og (vl_load ag257 rfl (kA.cell' rfl)) rfl ?_
          refine Og (vl_fieldAddr fo25_2 rfl) rfl ?_
          refine Og (vl_load ag3 rfl (hk2b.cell' rfl)) rfl ?_
          refine Og (vl_loadAgg ag40 sz40 rfl rfl (Cells.of_blk0 hk3b)) rfl ?_
          refine O_go (gn rfl) (st_call hbf rfl rfl rfl rfl (hff x _ hx) ?_)
          rintro v67 w67 ⟨rfl, c67⟩
          refine Og (vl_not rfl) rfl (Oa rfl rfl (O_end [2, 61] (F' := [(2, _), (61, _)]) rfl ?_))
          cases hwd : wideN c x with
          | true =>
            refine W_cond_true rfl (Sr (Og (vl_fieldAddr fo25_0 rfl) rfl ?_))
            refine Og (vl_load ag9 rfl ((hk2b.chg0 c67).cell' rfl)) rfl ?_
            refine Og (vl_mkif ni32 rfl) rfl ?_
            refine Og (vl_build pl317 zr317 rfl (vs := [_, _]) rfl (css := [_, _]) ⟨rfl, rfl, trivial⟩ rfl rfl (cs := [_, _]) rfl) rfl ?_
            refine O_go (gn rfl) (st_box rfl rfl rfl ?_)
            intro b73 w73 e73 n73 c73 k73
            refine Og (vl_mkif ni315 rfl) rfl ?_
            refine Oa rfl rfl (O_end [4] (F' := [(4, _)]) rfl (W_ret ?_))
            repeat (first | refine then_ret ?_ | refine block_ret ?_)
            refine ret1 rfl rfl ?_
            rw [fitsN_5 hr hc h0 h4, hwd]
            exact ⟨.inr ⟨isErrS k73, by decide⟩, (hwA.trans c67).trans c73⟩
          | false =>
            refine W_cond_false rfl (W_skip (block_normal (Sr (Oa rfl rfl (O_end [4] (F' := [(4, _)]) rfl (W_ret ?_))))))
            repeat (first | refine then_ret ?_ | refine block_ret ?_)
            refine ret1 rfl rfl ?_
            rw [fitsN_5 hr hc h0 h4, hwd]
            exact ⟨.inl ⟨rfl, rfl⟩, hwA.trans c67⟩
        · refine W_region (Og (vl_fieldAddr fo40_0 rfl) rfl ?_)
          refine Og (vl_load ag37 rfl (hk3b.cell' rfl)) rfl ?_
          refine Og (vl_fieldAddr fo259_1 rfl) rfl ?_
          refine Og (vl_load ag37 rfl (kA.cell' rfl)) rfl ?_
          refine Og (vl_is (b' := true) (vl_ine rfl rfl) (ine_t (by omega))) rfl ?_
          refine Oa rfl rfl (O_end [2, 3, 6, 49] (F' := [(2, _), (3, _), (6, _), (49, _)]) rfl (W_cond_true rfl (Sr (Og (vl_fieldAddr fo25_0 rfl) rfl ?_))))
          refine Og (vl_load ag9 rfl (hk2b.cell' rfl)) rfl ?_
          refine Og (vl_mkif ni32 rfl) rfl ?_
          refine Og (vl_build pl317 zr317 rfl (vs := [_, _]) rfl (css := [_, _]) ⟨rfl, rfl, trivial⟩ rfl rfl (cs := [_, _]) rfl) rfl ?_
          refine O_go (gn rfl) (st_box rfl rfl rfl ?_)
          intro b59 w59 e59 n59 c59 k59
          refine Og (vl_mkif ni315 rfl) rfl ?_
          refine Oa rfl rfl (O_end [4] (F' := [(4, _)]) rfl (W_ret ?_))
          repeat (first | refine then_ret ?_ | refine block_ret ?_)
          refine ret1 rfl rfl ?_
          rw [fitsN_4 hr hc h0 h4]
          exact ⟨.inr ⟨isErrS k59, by decide⟩, hwA.trans c59⟩
    · refine W_region (Om rfl rfl ?_)
      refine Og (vl_is (b' := true) (vl_ine rfl rfl) (by simp [hc])) rfl ?_
      refine O_end [2, 3, 5, 19] (F' := [(2, _), (3, _), (5, _), (19, _)]) rfl (W_cond_true rfl (Sr (Og (vl_fieldAddr fo25_0 rfl) rfl ?_)))
      refine Og (vl_load ag9 rfl (hk2a.cell' rfl)) rfl ?_
      refine Om rfl rfl ?_
      refine Og (vl_mkif ni32 rfl) rfl ?_
      refine Og (vl_build pl317 zr317 rfl (vs := [_, _]) rfl (css := [_, _]) ⟨rfl, rfl, trivial⟩ rfl rfl (cs := [_, _]) rfl) rfl ?_
      refine O_go (gn rfl) (st_box rfl rfl rfl ?_)
      intro b25 w25 e25 n25 c25 k25
      refine Og (vl_mkif ni315 rfl) rfl ?_
      refine Oa rfl rfl (O_end [4] (F' := [(4, _)]) rfl (W_ret ?_))
      repeat (first | refine then_ret ?_ | refine block_ret ?_)
      refine ret1 rfl rfl ?_
      rw [fitsN_2 hr hc]
      exact ⟨.inr ⟨isErrS k25, hc⟩, hc17.trans c25⟩

theorem fitsL_hit : ∀ {cs : List Col} {xs : List Val} {j : Nat} {c : Col} {x : Val}, cs[j]? = some c → xs[j]? = some x → fitsN c x ≠ 0 → (∀ (i : Nat) c x, i < j → cs[i]? = some c → xs[i]? = some x → fitsN c x = 0) → fitsL cs xs = fitsN c x
  | [], _, _, _, _, h, _, _, _ => by simp at h
  | _ :: _, [], _, _, _, _, h, _, _ => by simp at h
  | c' :: cs, x' :: xs, 0, c, x, hc, hx, hn, _ => by
    simp at hc hx; subst hc hx
    simp [fitsL, hn]
  | c' :: cs, x' :: xs, j + 1, c, x, hc, hx, hn, ha => by
    have h0 := ha 0 c' x' (by omega) rfl rfl
    unfold fitsL
    rw [if_neg (by simp [h0])]
    exact fitsL_hit (by simpa using hc) (by simpa using hx) hn (fun i c x hi h1 h2 => ha (i + 1) c x (by omega) (by simpa using h1) (by simpa using h2))
theorem fitsL_all : ∀ {cs : List Col} {xs : List Val}, (∀ (i : Nat) c x, cs[i]? = some c → xs[i]? = some x → fitsN c x = 0) → fitsL cs xs = 0
  | [], _, _ => by simp [fitsL]
  | _ :: _, [], _ => by simp [fitsL]
  | c :: cs, x :: xs, h => by
    unfold fitsL
    rw [if_neg (by simp [h 0 c x rfl rfl])]
    exact fitsL_all fun i c x h1 h2 => h (i + 1) c x (by simpa using h1) (by simpa using h2)
theorem s_row (c k u v : Value) (s : Sch) (l : List Val) (w : World) (hs : IsSch w c k u s) (hl : IsVals w v l) (hg : ∀ x ∈ l, x.Rng) (hn : l.length ≤ 1048576) (hn' : s.cols.length ≤ 1048576) :
    Ret Tryz.prog 125 #[.agg #[c, k, u], v] w fun r w' => ErrOf w' r (if l.length ≠ s.cols.length then 130 else fitsL s.cols l) ∧ Chg [] w w' := by
  obtain ⟨pc, dc, rfl, hdc⟩ := Arr.val hs.cols
  obtain ⟨pv, cv, rfl, hle⟩ := Arr.val hl
  refine Ret.of_W (args := [_, _]) Tryz.func125 rfl rfl rfl rfl ?_

  refine Sr ?_
  refine O_go (gn rfl) (st_box rfl rfl rfl ?_)
  intro b2 w2 e2 n2 c2 k2
  refine Oa rfl rfl (O_end [1, 2] (F' := [(1, _), (2, _)]) rfl (W_seq (W_seq ?_)))
  by_cases he : l.length = s.cols.length
  · refine W_region (Om rfl rfl (Og (vl_len sl48 rfl) rfl (Og (vl_fieldAddr fo30_0 rfl) rfl ?_)))
    refine Og (vl_load ag26 rfl (k2.cell' rfl)) rfl ?_
    refine Og (vl_len sl26 rfl) rfl ?_
    refine Og (vl_is (b' := false) (vl_ine rfl rfl) (ine_f (by omega))) rfl ?_
    refine O_end [1, 2, 13] (F' := [(1, _), (2, _), (13, _)]) rfl (W_cond_false rfl (W_skipE ?_))
    rw [if_neg (by simp [he])]
    refine W_seq (Sr (Om rfl rfl (Og (vl_len sl48 rfl) rfl (Om rfl rfl (O_end [2, 15, 16, 17] (F' := [(2, _), (15, _), (16, _), (17, _)]) rfl (W_block ?_))))))
    refine W_loop [2, 15, 16, 17] (fun m F wx => ∃ j : Nat, m = l.length - j ∧ j ≤ l.length ∧ F = [(2, .pointer (some ⟨b2, 0, none⟩)), (15, .slice pv l.length cv), (16, .int .i64 l.length), (17, .int .i64 j)] ∧ Chg [] w2 wx ∧ (∀ i c x, i < j → s.cols[i]? = some c → l[i]? = some x → fitsN c x = 0)) (m := l.length - 0) ⟨0, rfl, Nat.zero_le _, rfl, Chg.refl _ _, by intro i c x h; omega⟩ ?_
    rintro m F wx ⟨j, rfl, hj, rfl, hcx, hall⟩
    have hcw : Chg [] w wx := c2.trans hcx
    have hk2 := k2.chg0 hcx
    refine Sr (Og (vl_lss rfl rfl) rfl (O_end [2, 15, 16, 17, 18] (F' := [(2, _), (15, _), (16, _), (17, _), (18, _)]) rfl (W_seq ?_)))
    refine W_cond rfl (fun hT => ?_) (fun hF => ?_)
    · refine W_skipE ?_
      have hlt : j < l.length := by have := of_decide_eq_true hT; omega
      have hx : l[j]? = some l[j] := by simp [hlt]
      generalize l[j] = x at hx
      have hlt2 : j < s.cols.length := by omega
      have hcc : s.cols[j]? = some s.cols[j] := by simp [hlt2]
      generalize s.cols[j] = c at hcc
      obtain ⟨b, off, cap, hv, hcell⟩ := Arr.at cs_len (Arr.chg0 hl hcw) hx
      cases hv
      obtain ⟨bc, oc, cc, hvc, hcellc⟩ := Arr.at ccs_len (Arr.chg0 hs.cols hcw) hcc
      cases hvc
      refine W_seq (W_block (Sr (Om rfl rfl ?_)))
      refine Og (vl_indexAddr sl48 sz40 rfl rfl _ rfl hlt) rfl ?_
      refine Og (vl_loadAgg ag40 sz40 rfl rfl hcell) rfl ?_
      refine O_go (gn rfl) (st_alloc zr40 rfl rfl ?_)
      intro b6 w6 e6 n6 c6 k6
      refine Oa rfl rfl ?_
      refine O_go (gn rfl) (st_store sz40 rfl rfl rfl rfl k6 (by simp [Val.cs]) (Val.one x) ?_)
      intro wA nA cA kA
      refine O_end [2, 5, 6, 15, 16, 17] (F' := [(2, _), (5, _), (6, _), (15, _), (16, _), (17, _)]) rfl ?_
      have hcA : Chg [] wx wA := c6.own cA (by intro y hy; simp at hy; omega)
      have kA : Blk wA b6 40 x.cs := kA
      have hk2A := hk2.chg0 hcA
      have hdA : Chg [] wA wA.drew := Chg.drew [] _
      refine W_seq ?_
      by_cases hf : fitsN c x = 0
      · refine W_draw (fun wz => Chg [] wA wz) mix (by kernel_rfl) hdA ?_
        refine t_pure rfl (gn rfl) (fun _ => vl_fieldAddr fo30_0 rfl) rfl rfl ?_
        refine t_read rfl (gn rfl) (fun wz hz => vl_load ag26 rfl ((hk2A.chg0 hz).cell' rfl)) rfl rfl ?_
        refine Tm rfl rfl ?_
        refine t_pure rfl (gn rfl) (fun _ => vl_indexAddr sl26 sz25 rfl rfl _ rfl hlt2) rfl rfl ?_
        refine t_read rfl (gn rfl) (fun wz hz => vl_loadAgg ag25 sz25 rfl rfl ((hcellc.chg0 hcA).chg0 hz)) rfl rfl ?_
        refine t_read rfl (gn rfl) (fun wz hz => vl_loadAgg ag40 sz40 rfl rfl (Cells.of_blk0 (kA.chg0 hz))) rfl rfl ?_
        refine t_st rfl (gn rfl) (st_call bd155 rfl rfl rfl rfl (s_fits c x _ (hg x (List.mem_of_getElem? hx))) ?_)
        rintro v28 w28 ⟨h28, c28⟩
        have h28 := h28.resolve_right (fun h => h.2 hf)
        obtain ⟨rfl, _⟩ := h28
        refine ⟨.inl (hdA.trans c28), ?_⟩
        refine Ta rfl rfl ?_
        refine T_end [2, 7, 15, 16, 17] (F' := [(2, _), (7, _), (15, _), (16, _), (17, _)]) rfl ?_
        refine Sr (Om rfl rfl ?_)
        refine Og (vl_innil in106 rfl rfl) rfl ?_
        refine Om rfl rfl (Oz rfl rfl rfl rfl (Oz rfl rfl rfl rfl (Oz rfl rfl rfl rfl (Oz rfl rfl rfl rfl (Of rfl rfl rfl (O_end [2, 7, 15, 16, 17, 36] (F' := [(2, _), (7, _), (15, _), (16, _), (17, _), (36, _)]) rfl (W_cond_false rfl (W_skip (block_normal (W_region ?_))))))))))
        refine Og (vl_add rfl rfl (by omega)) rfl ?_
        refine Om rfl rfl ?_
        refine O_endN [2, 15, 16, 17] (F' := [(2, _), (15, _), (16, _), (17, _)]) rfl ?_
        refine ⟨l.length - (j + 1), by omega, j + 1, rfl, by omega, rfl, ((hcx.trans hcA).trans hdA).trans c28, ?_⟩
        intro i c' x' hi hc' hx'
        rcases Nat.lt_or_ge i j with hij | hij
        · exact hall i c' x' hij hc' hx'
        · have : i = j := by omega
          subst this
          rw [hx] at hx'; rw [hcc] at hc'
          cases hx'; cases hc'
          exact hf
      · refine W_draw (fun wz => Chg [] wA wz) mix (by kernel_rfl) hdA ?_
        refine t_pure rfl (gn rfl) (fun _ => vl_fieldAddr fo30_0 rfl) rfl rfl ?_
        refine t_read rfl (gn rfl) (fun wz hz => vl_load ag26 rfl ((hk2A.chg0 hz).cell' rfl)) rfl rfl ?_
        refine Tm rfl rfl ?_
        refine t_pure rfl (gn rfl) (fun _ => vl_indexAddr sl26 sz25 rfl rfl _ rfl hlt2) rfl rfl ?_
        refine t_read rfl (gn rfl) (fun wz hz => vl_loadAgg ag25 sz25 rfl rfl ((hcellc.chg0 hcA).chg0 hz)) rfl rfl ?_
        refine t_read rfl (gn rfl) (fun wz hz => vl_loadAgg ag40 sz40 rfl rfl (Cells.of_blk0 (kA.chg0 hz))) rfl rfl ?_
        refine t_st rfl (gn rfl) (st_call bd155 rfl rfl rfl rfl (s_fits c x _ (hg x (List.mem_of_getElem? hx))) ?_)
        rintro v28 w28 ⟨h28, c28⟩
        have h28 := (h28.resolve_left (fun h => hf h.2)).1
        refine ⟨.inl (hdA.trans c28), ?_⟩
        refine Ta rfl rfl ?_
        refine T_end [2, 7, 15, 16, 17] (F' := [(2, _), (7, _), (15, _), (16, _), (17, _)]) rfl ?_
        refine Sr (Om rfl rfl ?_)
        refine Og (vl_innil in106 rfl h28.notNil) rfl ?_
        refine Om rfl rfl ?_
        refine Oy rfl rfl (vl_move rfl) rfl ?_
        refine Oy rfl rfl (vl_mkif ni32 rfl) rfl ?_
        refine O_go (gy rfl rfl rfl) (st_call bd74 rfl rfl rfl rfl (e_Is v28 (fitsN c x) 0 _ h28) ?_)
        rintro v34 w34 ⟨h34, c34⟩
        rw [decide_eq_false hf] at h34
        subst h34
        refine Oy rfl rfl (vl_not rfl) rfl ?_
        refine Ot rfl rfl rfl (O_end [2, 7, 15, 16, 17, 36] (F' := [(2, _), (7, _), (15, _), (16, _), (17, _), (36, _)]) rfl (W_cond_true rfl (Sr (Om rfl rfl (Oa rfl rfl (O_end [4] (F' := [(4, _)]) rfl (W_ret ?_)))))))
        repeat (first | refine then_ret ?_ | refine block_ret ?_)
        refine ret1 rfl rfl ?_
        rw [fitsL_hit hcc hx hf hall]
        exact ⟨.inr ⟨h28.chg0 c34, hf⟩, (((hcw.trans hcA).trans hdA).trans c28).trans c34⟩
    · refine W_exit ?_
      repeat (first | refine then_exit ?_ | refine blockF_other rfl ?_)
      refine blockF_exit _ ?_
      have hge : l.length ≤ j := by have := of_decide_eq_false hF; omega
      refine Sr (Oa rfl rfl (O_end [4] (F' := [(4, _)]) rfl (W_ret ?_)))
      repeat (first | refine then_ret ?_ | refine block_ret ?_)
      refine ret1 rfl rfl ?_
      refine ⟨.inl ⟨rfl, fitsL_all fun i c x h1 h2 => hall i c x ?_ h1 h2⟩, hcw⟩
      have := (List.getElem?_eq_some_iff.1 h2).1
      omega
  · refine W_region (Om rfl rfl (Og (vl_len sl48 rfl) rfl (Og (vl_fieldAddr fo30_0 rfl) rfl ?_)))
    refine Og (vl_load ag26 rfl (k2.cell' rfl)) rfl ?_
    refine Og (vl_len sl26 rfl) rfl ?_
    refine Og (vl_is (b' := true) (vl_ine rfl rfl) (ine_t (by omega))) rfl ?_
    refine O_end [1, 2, 13] (F' := [(1, _), (2, _), (13, _)]) rfl (W_cond_true rfl (Sr ?_))
    refine Og (vl_mkif ni32 rfl) rfl ?_
    refine Oa rfl rfl (O_end [4] (F' := [(4, _)]) rfl (W_ret ?_))
    repeat (first | refine then_ret ?_ | refine block_ret ?_)
    refine ret1 rfl rfl ?_
    rw [if_pos he]
    exact ⟨.inr ⟨.inl rfl, by omega⟩, c2⟩
theorem s_Row (c k u v : Value) (s : Sch) (l : List Val) (w : World) (hE : EOk w) (hs : IsSch w c k u s) (hm : s.Sm) (hl : IsVals w v l) (hg : ∀ x ∈ l, x.Rng) (hn : l.length ≤ 1048576) :
    Ret Tryz.prog 80 #[.agg #[c, k, u], v] w fun r w' => r = .int .i64 (rowN s l) ∧ Chg [] w w' := by
  refine Ret.of_W (args := [_, _]) Tryz.func80 rfl rfl rfl rfl ?_

  refine Sr ?_
  refine O_go (gn rfl) (st_box rfl rfl rfl ?_)
  intro b2 w2 e2 n2 c2 k2
  refine Oa rfl rfl (O_end [1, 2] (F' := [(1, _), (2, _)]) rfl (W_seq (W_seq ?_)))
  unfold rowN
  cases hr : rightS s with
  | false =>
    refine W_region ?_
    refine Og (vl_loadAgg ag30 sz30 rfl rfl (Cells.of_blk0 k2)) rfl ?_
    refine O_go (gn rfl) (st_call bd43 rfl rfl rfl rfl (s_Check c k u s _ (hs.chg0 c2) hm) ?_)
    rintro v7 w7 ⟨h7, c7⟩
    rw [hr] at h7
    change v7 = .int .i64 2 at h7
    subst h7
    refine Oa rfl rfl (O_end [1, 2, 5] (F' := [(1, _), (2, _), (5, _)]) rfl (Sr (Om rfl rfl ?_)))
    refine Og (vl_is (b' := true) (vl_ine rfl rfl) (ine_t (by omega))) rfl ?_
    refine O_end [1, 2, 5, 9] (F' := [(1, _), (2, _), (5, _), (9, _)]) rfl (W_cond_true rfl (Sr (Om rfl rfl (Oa rfl rfl (O_end [4] (F' := [(4, _)]) rfl (W_ret ?_))))))
    repeat (first | refine then_ret ?_ | refine block_ret ?_)
    refine ret1 rfl rfl ?_
    exact ⟨rfl, c2.trans c7⟩
  | true =>
    refine W_region ?_
    refine Og (vl_loadAgg ag30 sz30 rfl rfl (Cells.of_blk0 k2)) rfl ?_
    refine O_go (gn rfl) (st_call bd43 rfl rfl rfl rfl (s_Check c k u s _ (hs.chg0 c2) hm) ?_)
    rintro v7 w7 ⟨h7, c7⟩
    rw [hr] at h7
    change v7 = .int .i64 0 at h7
    subst h7
    refine Oa rfl rfl (O_end [1, 2, 5] (F' := [(1, _), (2, _), (5, _)]) rfl (Sr (Om rfl rfl ?_)))
    refine Og (vl_is (b' := false) (vl_ine rfl rfl) (ine_f (by omega))) rfl ?_
    refine O_end [1, 2, 5, 9] (F' := [(1, _), (2, _), (5, _), (9, _)]) rfl (W_cond_false rfl (W_skipE (W_seq ?_)))
    have hc7 := c2.trans c7
    refine W_region ?_
    refine Og (vl_loadAgg ag30 sz30 rfl rfl (Cells.of_blk0 (k2.chg0 c7))) rfl ?_
    refine Om rfl rfl ?_
    refine O_go (gn rfl) (st_call bd125 rfl rfl rfl rfl (s_row c k u v s l _ (hs.chg0 hc7) (Arr.chg0 hl hc7) hg hn hm.cols) ?_)
    rintro v13 w13 ⟨h13, c13⟩
    refine O_go (gn rfl) (st_call bd124 rfl rfl rfl rfl (e_numS _ _ _ (hE.chg0 (hc7.trans c13)) h13.weak) ?_)
    rintro v14 w14 ⟨rfl, c14⟩
    refine Oa rfl rfl (O_end [4] (F' := [(4, _)]) rfl (W_ret ?_))
    refine ret1 rfl rfl ?_
    exact ⟨by simp, (hc7.trans c13).trans c14⟩
end Go.Wk

namespace Go.Wk
open Go.Proofs
set_option maxRecDepth 10000

theorem pick_snoc {row : List Val} {st : List Int} {j : Nat} {i : Int} (h : st[j]? = some i) : pickN row (st.take (j + 1)) = pickN row (st.take j) ++ [valAt row i] := by
  rw [pick_map, pick_map, List.take_add_one, h, List.map_append]
  rfl
theorem Arr.push {α : Type} {w : World} {e k : Nat} {f : α → List Value} {v : Value} {l : List α} {x : α} {n : Nat} {xs : List Value} (h : IsSl w e k v n xs) (hn : n = l.length + 1) (hx : xs = fl f l ++ f x) : ArrS w e k f v (l ++ [x]) := by
  subst hn hx
  unfold ArrS
  rw [List.length_append, fl_append, show fl f [x] = f x by simp [fl]]
  exact h
theorem pick_len (row : List Val) (st : List Int) : (pickN row st).length = st.length := by simp [pickN]
theorem s_Pick (v vi : Value) (row : List Val) (st : List Int) (w : World) (hv : IsVals w v row) (hi : IsInts w vi st) (hr : ∀ i ∈ st, 0 ≤ i ∧ i < row.length) (hn : row.length ≤ 1048576) (hn' : st.length ≤ 1048576) :
    Ret Tryz.prog 92 #[v, vi] w fun r w' => ∃ u, r = .tuple #[u, .int .i64 0] ∧ IsVals w' u (pickN row st) ∧ (∀ b ∈ blkOf u, w.heap.size ≤ b) ∧ Chg [] w w' := by
  obtain ⟨pi, ci, rfl, hci⟩ := Arr.val hi
  refine Ret.of_W (args := [_, _]) Tryz.func92 rfl rfl rfl rfl ?_

  refine Sr (Oa rfl rfl (Oa rfl rfl (O_end [0, 1] (F' := [(0, _), (1, _)]) rfl (Sr (Oa rfl rfl (O_end [0, 1, 6] (F' := [(0, _), (1, _), (6, _)]) rfl (W_seq (Sr (Om rfl rfl (Og (vl_len sl27 rfl) rfl ?_))))))))))
  refine Om rfl rfl (O_end [0, 6, 9, 10, 11] (F' := [(0, _), (6, _), (9, _), (10, _), (11, _)]) rfl (W_block ?_))
  refine W_loop [0, 6, 9, 10, 11] (fun m F wx => ∃ (j : Nat) (u : Value), m = st.length - j ∧ j ≤ st.length ∧ F = [(0, v), (6, u), (9, .slice pi st.length ci), (10, .int .i64 st.length), (11, .int .i64 j)] ∧ ArrS wx 40 4 Val.cs u (pickN row (st.take j)) ∧ (∀ b ∈ blkOf u, w.heap.size ≤ b) ∧ Chg [] w wx) (m := st.length - 0) ⟨0, _, rfl, Nat.zero_le _, rfl, ArrS.nil _ _ _ _, by simp [blkOf], Chg.refl _ _⟩ ?_
  rintro m F wx ⟨j, u, rfl, hj, rfl, hu, hfu, hcx⟩
  have hvx := Arr.chg0 hv hcx
  refine Sr (Og (vl_lss rfl rfl) rfl (O_end [0, 6, 9, 10, 11, 12] (F' := [(0, _), (6, _), (9, _), (10, _), (11, _), (12, _)]) rfl (W_seq ?_)))
  refine W_cond rfl (fun hT => ?_) (fun hF => ?_)
  · refine W_skipE ?_
    have hlt : j < st.length := by have := of_decide_eq_true hT; omega
    have hx : st[j]? = some st[j] := by simp [hlt]
    generalize st[j] = i at hx
    have hri := hr i (List.mem_of_getElem? hx)
    obtain ⟨i, rfl⟩ : ∃ k : Nat, i = (k : Int) := ⟨i.toNat, by omega⟩
    obtain ⟨bi, oi, cap, hve, hcell⟩ := IsInts.cell (Arr.chg0 hi hcx) hx
    cases hve
    have hir : i < row.length := by omega
    have hxv : row[i]? = some row[i] := by simp [hir]
    have hat : valAt row (i : Int) = row[i] := by unfold valAt; rw [Int.toNat_natCast, hxv]; rfl
    generalize row[i] = x at hxv hat
    obtain ⟨bv, ov, cv, hve, hcv⟩ := Arr.at cs_len hvx hxv
    subst hve
    refine W_seq (W_block (Sr ?_))
    refine Og (vl_indexAddr sl27 sz3 rfl rfl _ rfl hlt) rfl ?_
    refine Og (vl_load ag3 rfl hcell) rfl ?_
    refine Oa rfl rfl (O_end [0, 6, 8, 9, 10, 11] (F' := [(0, _), (6, _), (8, _), (9, _), (10, _), (11, _)]) rfl (W_seq (Sr (Om rfl rfl ?_))))
    refine Og (vl_is (b' := false) (vl_lss rfl rfl) (decide_eq_false (by omega))) rfl ?_
    refine Om rfl rfl ?_
    refine Oy rfl rfl (vl_move rfl) rfl ?_
    refine Oy rfl rfl (vl_move rfl) rfl ?_
    refine Oy rfl rfl (vl_len sl48 rfl) rfl ?_
    refine Oy rfl rfl (vl_is (b' := false) (vl_geq rfl rfl) (decide_eq_false (by omega))) rfl ?_
    refine Of rfl rfl rfl (O_end [0, 6, 8, 9, 10, 11, 22] (F' := [(0, _), (6, _), (8, _), (9, _), (10, _), (11, _), (22, _)]) rfl (W_cond_false rfl (W_skipE ?_)))
    have hl : (pickN row (st.take j)).length = j := by rw [pick_len, List.length_take]; omega
    refine W_region (Om rfl rfl (Om rfl rfl (Om rfl rfl ?_)))
    refine Og (vl_indexAddr sl48 sz40 rfl rfl _ rfl hir) rfl ?_
    refine Og (vl_loadAgg ag40 sz40 rfl rfl hcv) rfl ?_
    refine O_go (gn rfl) (st_buildSlice ap48 rfl (vs := [_]) rfl (css := [_]) ⟨rfl, trivial⟩ rfl rfl (cs := [_, _, _, _]) rfl rfl ?_)
    intro b28 w28 e28 n28 c28 k28
    refine O_go (gn rfl) (st_append ap48 sl48 rfl rfl (IsSl.chg0 hu c28) (IsSl.of_blk (n := 1) k28 rfl (by simp [maxLen]) (Val.one x)) (by rw [hl]; simp only [maxLen]; omega) (by rw [hl]; omega) rfl ?_)
    intro v29 w29 i29 c29 o29 z29
    refine Oa rfl rfl ?_
    refine O_endN [0, 6, 9, 10, 11] (F' := [(0, _), (6, _), (9, _), (10, _), (11, _)]) rfl ?_
    refine block_normal (W_region ?_)
    refine Og (vl_add rfl rfl (by omega)) rfl ?_
    refine Om rfl rfl ?_
    refine O_endN [0, 6, 9, 10, 11] (F' := [(0, _), (6, _), (9, _), (10, _), (11, _)]) rfl ?_
    have hsz := hcx.size
    have hs28 := c28.size
    refine ⟨st.length - (j + 1), by omega, j + 1, v29, rfl, by omega, rfl, ?_, fresh_of o29 hfu (by omega), ?_⟩
    · rw [pick_snoc hx, hat]
      exact Arr.push i29 rfl rfl
    · exact (hcx.trans c28).own c29 hfu
  · refine W_exit ?_
    repeat (first | refine then_exit ?_ | refine blockF_other rfl ?_)
    refine blockF_exit _ ?_
    have he : st.length ≤ j := by have := of_decide_eq_false hF; omega
    refine Sr (Om rfl rfl (Oa rfl rfl (Oa rfl rfl (O_end [4, 5] (F' := [(4, _), (5, _)]) rfl (W_ret ?_)))))
    refine ret2 rfl rfl rfl ?_
    rw [List.take_of_length_le he] at hu
    exact ⟨u, rfl, hu.arr, hfu, hcx⟩

theorem eq_col (x y : Col) : sceqL [1, 0, 0, 2] x.cs y.cs = some (decide (x = y)) := by
  obtain ⟨n, t, s, z⟩ := x
  obtain ⟨n', t', s', z'⟩ := y
  simp only [Col.cs, sceqL, sceq, if_true, Option.some.injEq, Col.mk.injEq]
  rw [Bool.eq_iff_iff]
  simp

theorem eq_col_ (u v : Value) (l m : List Col) (w : World) (hu : IsCols w u l) (hv : IsCols w v m) (hn : l.length ≤ 1048576) (hn' : m.length ≤ 1048576) :
    Ret Tryz.prog 106 #[u, v] w fun r w' => r = .bool (decide (l = m)) ∧ Chg [] w w' := by
  obtain ⟨pu, cu, rfl, hcu⟩ := Arr.val hu
  obtain ⟨pv, cv, rfl, hcv⟩ := Arr.val hv
  refine Ret.of_W (args := [_, _]) Tryz.func106 rfl rfl rfl rfl ?_

  refine Sr (Oa rfl rfl (O_end [0, 1] (F' := [(0, _), (1, _)]) rfl (W_seq (W_seq ?_))))
  by_cases he : l.length = m.length
  · refine W_region (Om rfl rfl (Og (vl_len sl26 rfl) rfl (Om rfl rfl (Og (vl_len sl26 rfl) rfl ?_))))
    refine Og (vl_is (b' := false) (vl_ine rfl rfl) (ine_f (by omega))) rfl ?_
    refine O_end [0, 1, 10] (F' := [(0, _), (1, _), (10, _)]) rfl (W_cond_false rfl (W_skipE (W_seq (Sr (Om rfl rfl (Og (vl_len sl26 rfl) rfl (Om rfl rfl (O_end [0, 1, 12, 13] (F' := [(0, _), (1, _), (12, _), (13, _)]) rfl (W_block ?_)))))))))
    refine W_loop [0, 1, 12, 13] (fun n F wx => ∃ j : Nat, n = l.length - j ∧ j ≤ l.length ∧ F = [(0, .slice pu l.length cu), (1, .slice pv m.length cv), (12, .int .i64 l.length), (13, .int .i64 j)] ∧ l.take j = m.take j ∧ Chg [] w wx) (m := l.length - 0) ⟨0, rfl, Nat.zero_le _, rfl, by simp, Chg.refl _ _⟩ ?_
    rintro n F wx ⟨j, rfl, hj, rfl, heq, hcx⟩
    refine Sr (Og (vl_lss rfl rfl) rfl (O_end [0, 1, 12, 13, 14] (F' := [(0, _), (1, _), (12, _), (13, _), (14, _)]) rfl (W_seq ?_)))
    refine W_cond rfl (fun hT => ?_) (fun hF => ?_)
    · refine W_skipE ?_
      have hlt : j < l.length := by have := of_decide_eq_true hT; omega
      have hlt2 : j < m.length := by omega
      have hx : l[j]? = some l[j] := by simp [hlt]
      have hy : m[j]? = some m[j] := by simp [hlt2]
      generalize l[j] = x at hx
      generalize m[j] = y at hy
      obtain ⟨b, off, cap, hve, hc1⟩ := Arr.at ccs_len (Arr.chg0 hu hcx) hx
      cases hve
      obtain ⟨b', off', cap', hve, hc2⟩ := Arr.at ccs_len (Arr.chg0 hv hcx) hy
      cases hve
      have hd : Chg [] wx wx.drew := Chg.drew [] _
      refine W_seq (W_block (Sr (Om rfl rfl (Oa rfl rfl (O_end [0, 1, 5, 12, 13] (F' := [(0, _), (1, _), (5, _), (12, _), (13, _)]) rfl (W_seq ?_))))))
      refine W_draw (fun wz => Chg [] wx wz) mix (by kernel_rfl) hd ?_
      refine Tm rfl rfl (Tm rfl rfl ?_)
      refine t_pure rfl (gn rfl) (fun _ => vl_indexAddr sl26 sz25 rfl rfl _ rfl hlt) rfl rfl ?_
      refine t_read rfl (gn rfl) (fun wz hz => vl_loadAgg ag25 sz25 rfl rfl (hc1.chg0 hz)) rfl rfl ?_
      refine Tm rfl rfl (Tm rfl rfl ?_)
      refine t_pure rfl (gn rfl) (fun _ => vl_indexAddr sl26 sz25 rfl rfl _ rfl hlt2) rfl rfl ?_
      refine t_read rfl (gn rfl) (fun wz hz => vl_loadAgg ag25 sz25 rfl rfl (hc2.chg0 hz)) rfl rfl ?_
      refine t_pure rfl (gn rfl) (fun _ => vl_neS fl25 rfl rfl (eq_col x y)) rfl rfl ?_
      refine T_end [0, 1, 12, 13, 24] (F' := [(0, _), (1, _), (12, _), (13, _), (24, _)]) rfl ?_
      refine W_cond rfl (fun hT => ?_) (fun hF => ?_)
      · have hne : x ≠ y := by simpa using hT
        refine Sr (Oa rfl rfl (O_end [4] (F' := [(4, _)]) rfl (W_ret ?_)))
        repeat (first | refine then_ret ?_ | refine block_ret ?_)
        refine ret1 rfl rfl ?_
        refine ⟨?_, hcx.trans hd⟩
        have : l ≠ m := by
          rintro rfl
          rw [hx] at hy
          exact hne (Option.some.inj hy)
        rw [decide_eq_false this]
      · have hxy : x = y := by simpa using hF
        refine W_skip (block_normal (W_region ?_))
        refine Og (vl_add rfl rfl (by omega)) rfl ?_
        refine Om rfl rfl ?_
        refine O_endN [0, 1, 12, 13] (F' := [(0, _), (1, _), (12, _), (13, _)]) rfl ?_
        refine ⟨l.length - (j + 1), by omega, j + 1, rfl, by omega, rfl, ?_, hcx.trans hd⟩
        rw [List.take_add_one, List.take_add_one, hx, hy, heq, hxy]
    · refine W_exit ?_
      repeat (first | refine then_exit ?_ | refine blockF_other rfl ?_)
      refine blockF_exit _ ?_
      have hge : l.length ≤ j := by have := of_decide_eq_false hF; omega
      refine Sr (Oa rfl rfl (O_end [4] (F' := [(4, _)]) rfl (W_ret ?_)))
      repeat (first | refine then_ret ?_ | refine block_ret ?_)
      refine ret1 rfl rfl ?_
      rw [List.take_of_length_le hge, List.take_of_length_le (by omega)] at heq
      exact ⟨by rw [decide_eq_true heq], hcx⟩
  · refine W_region (Om rfl rfl (Og (vl_len sl26 rfl) rfl (Om rfl rfl (Og (vl_len sl26 rfl) rfl ?_))))
    refine Og (vl_is (b' := true) (vl_ine rfl rfl) (ine_t (by omega))) rfl ?_
    refine O_end [0, 1, 10] (F' := [(0, _), (1, _), (10, _)]) rfl (W_cond_true rfl (Sr (Oa rfl rfl (O_end [4] (F' := [(4, _)]) rfl (W_ret ?_)))))
    repeat (first | refine then_ret ?_ | refine block_ret ?_)
    refine ret1 rfl rfl ?_
    have : l ≠ m := fun h => he (by rw [h])
    exact ⟨by rw [decide_eq_false this], Chg.refl _ _⟩

theorem eq_int (u v : Value) (l m : List Int) (w : World) (hu : IsInts w u l) (hv : IsInts w v m) (hn : l.length ≤ 1048576) (hn' : m.length ≤ 1048576) :
    Ret Tryz.prog 107 #[u, v] w fun r w' => r = .bool (decide (l = m)) ∧ Chg [] w w' := by
  obtain ⟨pu, cu, rfl, hcu⟩ := Arr.val hu
  obtain ⟨pv, cv, rfl, hcv⟩ := Arr.val hv
  refine Ret.of_W (args := [_, _]) Tryz.func107 rfl rfl rfl rfl ?_

  refine Sr (Oa rfl rfl (O_end [0, 1] (F' := [(0, _), (1, _)]) rfl (W_seq (W_seq ?_))))
  by_cases he : l.length = m.length
  · refine W_region (Om rfl rfl (Og (vl_len sl27 rfl) rfl (Om rfl rfl (Og (vl_len sl27 rfl) rfl ?_))))
    refine Og (vl_is (b' := false) (vl_ine rfl rfl) (ine_f (by omega))) rfl ?_
    refine O_end [0, 1, 10] (F' := [(0, _), (1, _), (10, _)]) rfl (W_cond_false rfl (W_skipE (W_seq (Sr (Om rfl rfl (Og (vl_len sl27 rfl) rfl (Om rfl rfl (O_end [0, 1, 12, 13] (F' := [(0, _), (1, _), (12, _), (13, _)]) rfl (W_block ?_)))))))))
    refine W_loop [0, 1, 12, 13] (fun n F wx => ∃ j : Nat, n = l.length - j ∧ j ≤ l.length ∧ F = [(0, .slice pu l.length cu), (1, .slice pv m.length cv), (12, .int .i64 l.length), (13, .int .i64 j)] ∧ l.take j = m.take j ∧ Chg [] w wx) (m := l.length - 0) ⟨0, rfl, Nat.zero_le _, rfl, by simp, Chg.refl _ _⟩ ?_
    rintro n F wx ⟨j, rfl, hj, rfl, heq, hcx⟩
    refine Sr (Og (vl_lss rfl rfl) rfl (O_end [0, 1, 12, 13, 14] (F' := [(0, _), (1, _), (12, _), (13, _), (14, _)]) rfl (W_seq ?_)))
    refine W_cond rfl (fun hT => ?_) (fun hF => ?_)
    · refine W_skipE ?_
      have hlt : j < l.length := by have := of_decide_eq_true hT; omega
      have hlt2 : j < m.length := by omega
      have hx : l[j]? = some l[j] := by simp [hlt]
      have hy : m[j]? = some m[j] := by simp [hlt2]
      generalize l[j] = x at hx
      generalize m[j] = y at hy
      obtain ⟨b, off, cap, hve, hc1⟩ := Arr.at ics_len (Arr.chg0 hu hcx) hx
      cases hve
      obtain ⟨b', off', cap', hve, hc2⟩ := Arr.at ics_len (Arr.chg0 hv hcx) hy
      cases hve
      have hd : Chg [] wx wx.drew := Chg.drew [] _
      refine W_seq (W_block (Sr (Om rfl rfl (Oa rfl rfl (O_end [0, 1, 5, 12, 13] (F' := [(0, _), (1, _), (5, _), (12, _), (13, _)]) rfl (W_seq ?_))))))
      refine W_draw (fun wz => Chg [] wx wz) mix (by kernel_rfl) hd ?_
      refine Tm rfl rfl (Tm rfl rfl ?_)
      refine t_pure rfl (gn rfl) (fun _ => vl_indexAddr sl27 sz3 rfl rfl _ rfl hlt) rfl rfl ?_
      refine t_read rfl (gn rfl) (fun wz hz => vl_load ag3 rfl (hc1.chg0 hz 0 _ rfl)) rfl rfl ?_
      refine Tm rfl rfl (Tm rfl rfl ?_)
      refine t_pure rfl (gn rfl) (fun _ => vl_indexAddr sl27 sz3 rfl rfl _ rfl hlt2) rfl rfl ?_
      refine t_read rfl (gn rfl) (fun wz hz => vl_load ag3 rfl (hc2.chg0 hz 0 _ rfl)) rfl rfl ?_
      refine t_pure rfl (gn rfl) (fun _ => vl_ine rfl rfl) rfl rfl ?_
      refine T_end [0, 1, 12, 13, 24] (F' := [(0, _), (1, _), (12, _), (13, _), (24, _)]) rfl ?_
      refine W_cond rfl (fun hT => ?_) (fun hF => ?_)
      · have hne : x ≠ y := by simpa using hT
        refine Sr (Oa rfl rfl (O_end [4] (F' := [(4, _)]) rfl (W_ret ?_)))
        repeat (first | refine then_ret ?_ | refine block_ret ?_)
        refine ret1 rfl rfl ?_
        refine ⟨?_, hcx.trans hd⟩
        have : l ≠ m := by
          rintro rfl
          rw [hx] at hy
          exact hne (Option.some.inj hy)
        rw [decide_eq_false this]
      · have hxy : x = y := by simpa using hF
        refine W_skip (block_normal (W_region ?_))
        refine Og (vl_add rfl rfl (by omega)) rfl ?_
        refine Om rfl rfl ?_
        refine O_endN [0, 1, 12, 13] (F' := [(0, _), (1, _), (12, _), (13, _)]) rfl ?_
        refine ⟨l.length - (j + 1), by omega, j + 1, rfl, by omega, rfl, ?_, hcx.trans hd⟩
        rw [List.take_add_one, List.take_add_one, hx, hy, heq, hxy]
    · refine W_exit ?_
      repeat (first | refine then_exit ?_ | refine blockF_other rfl ?_)
      refine blockF_exit _ ?_
      have hge : l.length ≤ j := by have := of_decide_eq_false hF; omega
      refine Sr (Oa rfl rfl (O_end [4] (F' := [(4, _)]) rfl (W_ret ?_)))
      repeat (first | refine then_ret ?_ | refine block_ret ?_)
      refine ret1 rfl rfl ?_
      rw [List.take_of_length_le hge, List.take_of_length_le (by omega)] at heq
      exact ⟨by rw [decide_eq_true heq], hcx⟩
  · refine W_region (Om rfl rfl (Og (vl_len sl27 rfl) rfl (Om rfl rfl (Og (vl_len sl27 rfl) rfl ?_))))
    refine Og (vl_is (b' := true) (vl_ine rfl rfl) (ine_t (by omega))) rfl ?_
    refine O_end [0, 1, 10] (F' := [(0, _), (1, _), (10, _)]) rfl (W_cond_true rfl (Sr (Oa rfl rfl (O_end [4] (F' := [(4, _)]) rfl (W_ret ?_)))))
    repeat (first | refine then_ret ?_ | refine block_ret ?_)
    refine ret1 rfl rfl ?_
    have : l ≠ m := fun h => he (by rw [h])
    exact ⟨by rw [decide_eq_false this], Chg.refl _ _⟩

theorem s_clone (v : Value) (l : List Int) (w : World) (h : IsInts w v l) (hn : l.length ≤ 1048576) : Ret Tryz.prog 78 #[v] w fun r w' => ArrS w' 3 1 ics r l ∧ (∀ b ∈ blkOf r, w.heap.size ≤ b) ∧ Chg [] w w' := by
  obtain ⟨p, c, rfl, _⟩ := Arr.val h
  refine Ret.of_W (args := [_]) Tryz.func78 rfl rfl rfl rfl ?_

  refine Sr (Oa rfl rfl (O_end [0] (F' := [(0, _)]) rfl (W_seq (Sr (Om rfl rfl ?_)))))
  refine Og (vl_snil sl27 rfl rfl) rfl ?_
  refine O_end [0, 4] (F' := [(0, _), (4, _)]) rfl ?_
  refine W_cond rfl (fun hT => ?_) (fun hF => ?_)
  · refine Sr (Oa rfl rfl (O_end [2] (F' := [(2, _)]) rfl (W_ret ?_)))
    refine then_ret ?_
    refine ret1 rfl rfl ?_
    obtain ⟨p', cap, he, _, _, _, _, h6⟩ := h
    simp only [Value.slice.injEq] at he
    obtain ⟨rfl, _, _⟩ := he
    have h2 : l.length = 0 := by
      rcases Nat.eq_zero_or_pos l.length with h0 | h0
      · exact h0
      · obtain ⟨b, off, rfl, _⟩ := h6 h0
        simp at hT
    have : l = [] := List.length_eq_zero_iff.1 h2
    subst this
    exact ⟨ArrS.nil _ _ _ _, by simp [blkOf], Chg.refl _ _⟩
  · refine W_skipE (Sr ?_)
    refine O_go (gn rfl) (st_buildSlice ap27 rfl (vs := []) rfl (css := []) trivial rfl rfl (cs := []) rfl rfl ?_)
    intro b5 w5 e5 n5 c5 k5
    refine Om rfl rfl ?_
    refine O_go (gn rfl) (st_appendW ap27 sl27 rfl rfl (IsSl.of_blk (n := 0) k5 (by simp) (by simp [maxLen]) (by simp)) (Rd.chg0 h c5) (by simp only [maxLen]; omega) (by omega) rfl ?_)
    intro v7 w7 i7 c7 o7 z7
    refine Oa rfl rfl (O_end [2] (F' := [(2, _)]) rfl (W_ret ?_))
    refine ret1 rfl rfl ?_
    refine ⟨by unfold ArrS; simpa using i7, ?_, c5.own c7 (by simp [blkOf, ← e5])⟩
    rcases o7 with o7 | ⟨b, o7, hb⟩
    · rw [o7]; simp [blkOf, ← e5]
    · rw [o7]; intro x hx; simp at hx; subst hx; have := c5.size; omega
theorem s_eqf (u v : Value) (ls ms : List (List Int)) (w : World) (hu : IsIntss w u ls) (hv : IsIntss w v ms) (hn : ls.length ≤ 1048576) (hn' : ms.length ≤ 1048576) (h1 : ∀ l ∈ ls, l.length ≤ 1048576) (h2 : ∀ l ∈ ms, l.length ≤ 1048576) :
    Ret Tryz.prog 146 #[u, v, .func (.func 107) #[] #[]] w fun r w' => r = .bool (decide (ls = ms)) ∧ Chg [] w w' := by
  obtain ⟨pu, cu, rfl, hcu⟩ := Arr2.val hu
  obtain ⟨pv, cv, rfl, hcv⟩ := Arr2.val hv
  refine Ret.of_W (args := [_, _, _]) Tryz.func146 rfl rfl rfl rfl ?_

  refine Sr (Oa rfl rfl (O_end [0, 1, 2] (F' := [(0, _), (1, _), (2, _)]) rfl (W_seq (W_seq ?_))))
  by_cases he : ls.length = ms.length
  · refine W_region (Om rfl rfl (Og (vl_len sl28 rfl) rfl (Om rfl rfl (Og (vl_len sl28 rfl) rfl ?_))))
    refine Og (vl_is (b' := false) (vl_ine rfl rfl) (ine_f (by omega))) rfl ?_
    refine O_end [0, 1, 2, 14] (F' := [(0, _), (1, _), (2, _), (14, _)]) rfl (W_cond_false rfl (W_skipE (W_seq (Sr (Om rfl rfl (Og (vl_len sl28 rfl) rfl (Om rfl rfl (O_end [1, 2, 15, 16, 17] (F' := [(1, _), (2, _), (15, _), (16, _), (17, _)]) rfl (W_block ?_)))))))))
    refine W_loop [1, 2, 15, 16, 17] (fun n F wx => ∃ j : Nat, n = ls.length - j ∧ j ≤ ls.length ∧ F = [(1, .slice pv ms.length cv), (2, .func (.func 107) #[] #[]), (15, .slice pu ls.length cu), (16, .int .i64 ls.length), (17, .int .i64 j)] ∧ ls.take j = ms.take j ∧ Chg [] w wx) (m := ls.length - 0) ⟨0, rfl, Nat.zero_le _, rfl, by simp, Chg.refl _ _⟩ ?_
    rintro n F wx ⟨j, rfl, hj, rfl, heq, hcx⟩
    refine Sr (Og (vl_lss rfl rfl) rfl (O_end [1, 2, 15, 16, 17, 18] (F' := [(1, _), (2, _), (15, _), (16, _), (17, _), (18, _)]) rfl (W_seq ?_)))
    refine W_cond rfl (fun hT => ?_) (fun hF => ?_)
    · refine W_skipE ?_
      have hlt : j < ls.length := by have := of_decide_eq_true hT; omega
      have hlt2 : j < ms.length := by omega
      have hx : ls[j]? = some ls[j] := by simp [hlt]
      have hy : ms[j]? = some ms[j] := by simp [hlt2]
      generalize ls[j] = x at hx
      generalize ms[j] = y at hy
      obtain ⟨b, off, cap, ux, hve, hc1, hux⟩ := Arr2.at (hu.chg0 hcx) hx
      cases hve
      obtain ⟨b', off', cap', uy, hve, hc2, huy⟩ := Arr2.at (hv.chg0 hcx) hy
      cases hve
      refine W_seq (W_block (Sr (Om rfl rfl ?_)))
      refine Og (vl_indexAddr sl28 sz27 rfl rfl _ rfl hlt) rfl ?_
      refine Og (vl_load ag27 rfl hc1) rfl ?_
      refine Oa rfl rfl (Oa rfl rfl (O_end [1, 2, 7, 8, 15, 16, 17] (F' := [(1, _), (2, _), (7, _), (8, _), (15, _), (16, _), (17, _)]) rfl (Sr (Om rfl rfl (Om rfl rfl ?_)))))
      refine Og (vl_indexAddr sl28 sz27 rfl rfl _ rfl hlt2) rfl ?_
      refine Og (vl_load ag27 rfl hc2) rfl ?_
      refine Oa rfl rfl (O_end [1, 2, 8, 9, 15, 16, 17] (F' := [(1, _), (2, _), (8, _), (9, _), (15, _), (16, _), (17, _)]) rfl (Sr (Om rfl rfl (Om rfl rfl (Om rfl rfl ?_)))))
      refine O_go (gn rfl) (st_call bd107 rfl rfl rfl rfl (eq_int ux uy x y _ hux huy (h1 x (List.mem_of_getElem? hx)) (h2 y (List.mem_of_getElem? hy))) ?_)
      rintro v29 w29 ⟨rfl, c29⟩
      refine Og (vl_not rfl) rfl (O_end [1, 2, 15, 16, 17, 30] (F' := [(1, _), (2, _), (15, _), (16, _), (17, _), (30, _)]) rfl ?_)
      refine W_cond rfl (fun hT => ?_) (fun hF => ?_)
      · have hne : x ≠ y := by simpa using hT
        refine Sr (Oa rfl rfl (O_end [6] (F' := [(6, _)]) rfl (W_ret ?_)))
        repeat (first | refine then_ret ?_ | refine block_ret ?_)
        refine ret1 rfl rfl ?_
        refine ⟨?_, hcx.trans c29⟩
        have : ls ≠ ms := by
          rintro rfl
          rw [hx] at hy
          exact hne (Option.some.inj hy)
        rw [decide_eq_false this]
      · have hxy : x = y := by simpa using hF
        refine W_skip (block_normal (W_region ?_))
        refine Og (vl_add rfl rfl (by omega)) rfl ?_
        refine Om rfl rfl ?_
        refine O_endN [1, 2, 15, 16, 17] (F' := [(1, _), (2, _), (15, _), (16, _), (17, _)]) rfl ?_
        refine ⟨ls.length - (j + 1), by omega, j + 1, rfl, by omega, rfl, ?_, hcx.trans c29⟩
        rw [List.take_add_one, List.take_add_one, hx, hy, heq, hxy]
    · refine W_exit ?_
      repeat (first | refine then_exit ?_ | refine blockF_other rfl ?_)
      refine blockF_exit _ ?_
      have hge : ls.length ≤ j := by have := of_decide_eq_false hF; omega
      refine Sr (Oa rfl rfl (O_end [6] (F' := [(6, _)]) rfl (W_ret ?_)))
      repeat (first | refine then_ret ?_ | refine block_ret ?_)
      refine ret1 rfl rfl ?_
      rw [List.take_of_length_le hge, List.take_of_length_le (by omega)] at heq
      exact ⟨by rw [decide_eq_true heq], hcx⟩
  · refine W_region (Om rfl rfl (Og (vl_len sl28 rfl) rfl (Om rfl rfl (Og (vl_len sl28 rfl) rfl ?_))))
    refine Og (vl_is (b' := true) (vl_ine rfl rfl) (ine_t (by omega))) rfl ?_
    refine O_end [0, 1, 2, 14] (F' := [(0, _), (1, _), (2, _), (14, _)]) rfl (W_cond_true rfl (Sr (Oa rfl rfl (O_end [6] (F' := [(6, _)]) rfl (W_ret ?_)))))
    repeat (first | refine then_ret ?_ | refine block_ret ?_)
    refine ret1 rfl rfl ?_
    have : ls ≠ ms := fun h => he (by rw [h])
    exact ⟨by rw [decide_eq_false this], Chg.refl _ _⟩
theorem s_samei (u v : Value) (ls ms : List (List Int)) (w : World) (hu : IsIntss w u ls) (hv : IsIntss w v ms) (hn : ls.length ≤ 1048576) (hn' : ms.length ≤ 1048576) (h1 : ∀ l ∈ ls, l.length ≤ 1048576) (h2 : ∀ l ∈ ms, l.length ≤ 1048576) :
    Ret Tryz.prog 108 #[u, v, .func (.func 107) #[] #[]] w fun r w' => r = .bool (decide (ls = ms)) ∧ Chg [] w w' := by
  refine Ret.of_W (args := [_, _, _]) Tryz.func108 rfl rfl rfl rfl ?_

  refine Sr (Oa rfl rfl (O_end [0, 1, 2] (F' := [(0, _), (1, _), (2, _)]) rfl (Sr (Om rfl rfl (Om rfl rfl (Om rfl rfl ?_))))))
  refine O_go (gn rfl) (st_call bd146 rfl rfl rfl rfl (s_eqf u v ls ms _ hu hv hn hn' h1 h2) ?_)
  rintro v10 w10 ⟨rfl, c10⟩
  refine Oa rfl rfl (O_end [6] (F' := [(6, _)]) rfl (W_ret ?_))
  refine ret1 rfl rfl ?_
  exact ⟨rfl, c10⟩
theorem s_Same (a b c a' b' c' : Value) (s t : Sch) (w : World) (hs : IsSch w a b c s) (ht : IsSch w a' b' c' t) (ms : s.Sm) (mt : t.Sm) :
    Ret Tryz.prog 73 #[.agg #[a, b, c], .agg #[a', b', c']] w fun r w' => r = .bool (decide (s = t)) ∧ Chg [] w w' := by
  have hdec : decide (s = t) = (decide (s.cols = t.cols) && decide (s.key = t.key) && decide (s.uq = t.uq)) := by
    obtain ⟨x, y, z⟩ := s
    obtain ⟨x', y', z'⟩ := t
    rw [Bool.eq_iff_iff]
    simp [and_assoc]
  rw [hdec]
  refine Ret.of_W (args := [_, _]) Tryz.func73 rfl rfl rfl rfl ?_

  refine Sr ?_
  refine O_go (gn rfl) (st_box rfl rfl rfl ?_)
  intro b2 w2 e2 n2 c2 k2
  refine O_go (gn rfl) (st_box rfl rfl rfl ?_)
  intro b3 w3 e3 n3 c3 k3
  refine Oa rfl rfl (O_end [2, 3] (F' := [(2, _), (3, _)]) rfl ?_)
  have hk2 := k2.chg0 c3
  have hc3 : Chg [] w w3 := c2.trans c3
  have hs3 := hs.chg0 hc3
  have ht3 := ht.chg0 hc3
  refine W_seq ?_
  by_cases h1 : s.cols = t.cols
  · by_cases h2 : s.key = t.key
    · refine W_region (Og (vl_fieldAddr fo30_0 rfl) rfl ?_)
      refine Og (vl_load ag26 rfl (hk2.cell' rfl)) rfl ?_
      refine Og (vl_fieldAddr fo30_0 rfl) rfl ?_
      refine Og (vl_load ag26 rfl (k3.cell' rfl)) rfl ?_
      refine O_go (gn rfl) (st_call bd106 rfl rfl rfl rfl (eq_col_ _ _ _ _ _ hs3.cols ht3.cols ms.cols mt.cols) ?_)
      rintro v9 w9 ⟨h9, c9⟩
      rw [decide_eq_true h1] at h9
      subst h9
      refine Om rfl rfl ?_
      refine Oy rfl rfl (vl_fieldAddr fo30_1 rfl) rfl ?_
      refine Oy rfl rfl (vl_load ag27 rfl ((hk2.chg0 c9).cell' rfl)) rfl ?_
      refine Oy rfl rfl (vl_fieldAddr fo30_1 rfl) rfl ?_
      refine Oy rfl rfl (vl_load ag27 rfl ((k3.chg0 c9).cell' rfl)) rfl ?_
      refine O_go (gy rfl rfl rfl) (st_call bd107 rfl rfl rfl rfl (eq_int _ _ _ _ _ (Arr.chg0 hs3.key c9) (Arr.chg0 ht3.key c9) ms.key mt.key) ?_)
      rintro v15 w15 ⟨h15, c15⟩
      rw [decide_eq_true h2] at h15
      subst h15
      refine Ot rfl rfl rfl (Om rfl rfl ?_)
      refine Oy rfl rfl (vl_fieldAddr fo30_2 rfl) rfl ?_
      refine Oy rfl rfl (vl_load ag28 rfl ((hk2.chg0 (c9.trans c15)).cell' rfl)) rfl ?_
      refine Oy rfl rfl (vl_fieldAddr fo30_2 rfl) rfl ?_
      refine Oy rfl rfl (vl_load ag28 rfl ((k3.chg0 (c9.trans c15)).cell' rfl)) rfl ?_
      refine O_go (gy rfl rfl rfl) (st_call bd108 rfl rfl rfl rfl (s_samei _ _ _ _ _ (hs3.uq.chg0 (c9.trans c15)) (ht3.uq.chg0 (c9.trans c15)) ms.uq mt.uq ms.each mt.each) ?_)
      rintro v22 w22 ⟨rfl, c22⟩
      refine Ot rfl rfl rfl (Oa rfl rfl (O_end [4] (F' := [(4, _)]) rfl (W_ret ?_)))
      refine ret1 rfl rfl ?_
      exact ⟨by simp [h1, h2], ((hc3.trans c9).trans c15).trans c22⟩
    · refine W_region (Og (vl_fieldAddr fo30_0 rfl) rfl ?_)
      refine Og (vl_load ag26 rfl (hk2.cell' rfl)) rfl ?_
      refine Og (vl_fieldAddr fo30_0 rfl) rfl ?_
      refine Og (vl_load ag26 rfl (k3.cell' rfl)) rfl ?_
      refine O_go (gn rfl) (st_call bd106 rfl rfl rfl rfl (eq_col_ _ _ _ _ _ hs3.cols ht3.cols ms.cols mt.cols) ?_)
      rintro v9 w9 ⟨h9, c9⟩
      rw [decide_eq_true h1] at h9
      subst h9
      refine Om rfl rfl ?_
      refine Oy rfl rfl (vl_fieldAddr fo30_1 rfl) rfl ?_
      refine Oy rfl rfl (vl_load ag27 rfl ((hk2.chg0 c9).cell' rfl)) rfl ?_
      refine Oy rfl rfl (vl_fieldAddr fo30_1 rfl) rfl ?_
      refine Oy rfl rfl (vl_load ag27 rfl ((k3.chg0 c9).cell' rfl)) rfl ?_
      refine O_go (gy rfl rfl rfl) (st_call bd107 rfl rfl rfl rfl (eq_int _ _ _ _ _ (Arr.chg0 hs3.key c9) (Arr.chg0 ht3.key c9) ms.key mt.key) ?_)
      rintro v15 w15 ⟨h15, c15⟩
      rw [decide_eq_false h2] at h15
      subst h15
      refine Ot rfl rfl rfl (Om rfl rfl (Oz rfl rfl rfl rfl (Oz rfl rfl rfl rfl (Oz rfl rfl rfl rfl (Oz rfl rfl rfl rfl (Oz rfl rfl rfl rfl (Of rfl rfl rfl (Oa rfl rfl (O_end [4] (F' := [(4, _)]) rfl (W_ret ?_))))))))))
      refine ret1 rfl rfl ?_
      exact ⟨by simp [h2], (hc3.trans c9).trans c15⟩
  · refine W_region (Og (vl_fieldAddr fo30_0 rfl) rfl ?_)
    refine Og (vl_load ag26 rfl (hk2.cell' rfl)) rfl ?_
    refine Og (vl_fieldAddr fo30_0 rfl) rfl ?_
    refine Og (vl_load ag26 rfl (k3.cell' rfl)) rfl ?_
    refine O_go (gn rfl) (st_call bd106 rfl rfl rfl rfl (eq_col_ _ _ _ _ _ hs3.cols ht3.cols ms.cols mt.cols) ?_)
    rintro v9 w9 ⟨h9, c9⟩
    rw [decide_eq_false h1] at h9
    subst h9
    refine Om rfl rfl (Oz rfl rfl rfl rfl (Oz rfl rfl rfl rfl (Oz rfl rfl rfl rfl (Oz rfl rfl rfl rfl (Oz rfl rfl rfl rfl (Of rfl rfl rfl (Om rfl rfl (Oz rfl rfl rfl rfl (Oz rfl rfl rfl rfl (Oz rfl rfl rfl rfl (Oz rfl rfl rfl rfl (Oz rfl rfl rfl rfl (Of rfl rfl rfl ?_)))))))))))))
    refine Oa rfl rfl (O_end [4] (F' := [(4, _)]) rfl (W_ret ?_))
    refine ret1 rfl rfl ?_
    exact ⟨by simp [h1], hc3.trans c9⟩
end Go.Wk

namespace Go.Wk
open Go.Proofs
set_option maxRecDepth 10000

def IsBy (w : World) (v : Value) (l : List UInt8) : Prop := IsSl w 5 1 v l.length (bv l)
theorem xor_low {n : Nat} (h : n < 9223372036854775808) : n ^^^ 9223372036854775808 = n + 9223372036854775808 := by
  have e : (9223372036854775808 : Nat) = 2 ^ 63 := by decide
  rw [e] at *
  apply Nat.eq_of_testBit_eq
  intro j
  rw [Nat.testBit_xor, Nat.testBit_two_pow, Nat.add_comm]
  rcases Nat.lt_trichotomy j 63 with hj | hj | hj
  · rw [Nat.testBit_two_pow_add_gt hj, decide_eq_false (by omega), Bool.xor_false]
  · subst hj
    rw [Nat.testBit_two_pow_add_eq, decide_eq_true rfl, Bool.xor_true]
  · have p1 : (2 : Nat) ^ 64 ≤ 2 ^ j := Nat.pow_le_pow_right (by decide) hj
    have h1 : (2 ^ 63 + n).testBit j = false := Nat.testBit_lt_two_pow (by simp only [Nat.reducePow] at h p1 ⊢; omega)
    have h2 : n.testBit j = false := Nat.testBit_lt_two_pow (by simp only [Nat.reducePow] at h p1 ⊢; omega)
    rw [h1, h2, decide_eq_false (by omega)]
    rfl
theorem xor_high {n : Nat} (h : n < 9223372036854775808) : (n + 9223372036854775808) ^^^ 9223372036854775808 = n := by
  rw [← xor_low h, Nat.xor_assoc, Nat.xor_self, Nat.xor_zero]
theorem turn_nat {i : Int} (h : -9223372036854775808 ≤ i ∧ i ≤ 9223372036854775807) : (i % 18446744073709551616).toNat ^^^ 9223372036854775808 = (i + 9223372036854775808).toNat := by
  rcases Int.lt_or_le i 0 with h0 | h0
  · have e : (i % 18446744073709551616).toNat = (i + 9223372036854775808).toNat + 9223372036854775808 := by omega
    rw [e, xor_high (by omega)]
  · have e : (i % 18446744073709551616).toNat = i.toNat := by omega
    rw [e, xor_low (by omega)]
    omega
theorem k_turned (i : Int) (w : World) (h : -9223372036854775808 ≤ i ∧ i ≤ 9223372036854775807) : Ret Tryz.prog 193 #[.int .i64 i] w fun r w' => r = .int .u64 ((i + 9223372036854775808).toNat : Nat) ∧ w' = w := by
  refine Ret.of_W (args := [_]) Tryz.func193 rfl rfl rfl rfl ?_

  refine Sr (Oa rfl rfl (O_end [0] (F' := [(0, _)]) rfl (Sr (Om rfl rfl ?_))))
  refine Og (vl_convn it38_u64 it2_i64 rfl (show IntKind.u64.wrap i = (((i % 18446744073709551616).toNat : Nat) : Int) by rw [u64_wrap']; omega)) rfl ?_
  refine Og (vl_xor64 (b := 9223372036854775808) rfl rfl (by omega) (by decide)) rfl ?_
  refine Oa rfl rfl (O_end [2] (F' := [(2, _)]) rfl (W_ret ?_))
  refine ret1 rfl rfl ?_
  exact ⟨by rw [turn_nat h], rfl⟩

/-- What stands behind the Kind. -/
def keyT (x : Val) : List UInt8 := if x.k = 1 then be (x.i + 9223372036854775808).toNat 8 else if x.k = 2 then numB x.u else if x.k = 3 then [UInt8.ofNat x.i.toNat] else if x.k = 4 then grpB x.b.data.toList else []
theorem keyV_eq (x : Val) : keyV x = UInt8.ofNat x.k.toNat :: keyT x := rfl
def kKinds : List (Int × Value) := [(0, kindV 189 190), (1, kindV 191 194), (2, kindV 197 199), (3, kindV 202 203), (4, kindV 204 205)]
theorem k_kinds (w : World) : Ret Tryz.prog 144 #[] w fun r w' => ∃ b, r = .map (some b) ∧ w.heap.size ≤ b ∧ IsMapK (intK .i64) w' b kKinds ∧ Chg [] w w' := by
  refine Ret.of_W (args := []) Tryz.func144 rfl rfl rfl rfl ?_

  refine Sr (Oa rfl rfl (O_end [] (F' := []) rfl (Sr ?_)))
  refine O_go (gn rfl) (st_makeMapK (intK .i64) rfl ?_)
  intro b1 w1 e1 n1 c1 k1
  refine Og (vl_build pl242 zr242 rfl (vs := [_, _]) rfl (css := [_, _]) ⟨rfl, rfl, trivial⟩ rfl rfl (cs := [_, _]) rfl) rfl ?_
  refine O_go (gn rfl) (st_insK (κ := intK .i64) mp243 (itOf_und it37_i64) rfl rfl rfl k1 ?_)
  intro wA nA cA kA
  refine Og (vl_build pl242 zr242 rfl (vs := [_, _]) rfl (css := [_, _]) ⟨rfl, rfl, trivial⟩ rfl rfl (cs := [_, _]) rfl) rfl ?_
  refine O_go (gn rfl) (st_insK (κ := intK .i64) mp243 (itOf_und it37_i64) rfl rfl rfl kA ?_)
  intro wB nB cB kB
  refine Og (vl_build pl242 zr242 rfl (vs := [_, _]) rfl (css := [_, _]) ⟨rfl, rfl, trivial⟩ rfl rfl (cs := [_, _]) rfl) rfl ?_
  refine O_go (gn rfl) (st_insK (κ := intK .i64) mp243 (itOf_und it37_i64) rfl rfl rfl kB ?_)
  intro wC nC cC kC
  refine Og (vl_build pl242 zr242 rfl (vs := [_, _]) rfl (css := [_, _]) ⟨rfl, rfl, trivial⟩ rfl rfl (cs := [_, _]) rfl) rfl ?_
  refine O_go (gn rfl) (st_insK (κ := intK .i64) mp243 (itOf_und it37_i64) rfl rfl rfl kC ?_)
  intro wD nD cD kD
  refine Og (vl_build pl242 zr242 rfl (vs := [_, _]) rfl (css := [_, _]) ⟨rfl, rfl, trivial⟩ rfl rfl (cs := [_, _]) rfl) rfl ?_
  refine O_go (gn rfl) (st_insK (κ := intK .i64) mp243 (itOf_und it37_i64) rfl rfl rfl kD ?_)
  intro wE nE cE kE
  refine Om rfl rfl (Oa rfl rfl (O_end [0] (F' := [(0, _)]) rfl (W_ret ?_)))
  refine ret1 rfl rfl ?_
  exact ⟨b1, rfl, by omega, kE, c1.own (((((cA.transS cB).transS cC).transS cD).transS cE)) (by intro x hx; simp at hx; omega)⟩
theorem k_lay1 (x : Val) (w : World) : Ret Tryz.prog 189 #[x.v] w fun r w' => IsBy w' r [] ∧ (∀ b ∈ blkOf r, w.heap.size ≤ b) ∧ Chg [] w w' := by
  refine Ret.of_W (args := [_]) Tryz.func189 rfl rfl rfl rfl ?_

  refine Sr ?_
  refine O_go (gn rfl) (st_box rfl rfl rfl ?_)
  intro b1 w1 e1 n1 c1 k1
  refine Oa rfl rfl (O_end [] (F' := []) rfl (Sr (Oa rfl rfl (O_end [2] (F' := [(2, _)]) rfl (W_ret ?_)))))
  refine ret1 rfl rfl ?_
  exact ⟨IsSl.nil _ _ _, by simp [blkOf], c1⟩
theorem k_lay3 (x : Val) (w : World) (hx : x.Rng) : Ret Tryz.prog 191 #[x.v] w fun r w' => IsBy w' r (be (x.i + 9223372036854775808).toNat 8) ∧ (∀ b ∈ blkOf r, w.heap.size ≤ b) ∧ Chg [] w w' := by
  have hi := hx.i
  refine Ret.of_W (args := [_]) Tryz.func191 rfl rfl rfl rfl ?_

  refine Sr ?_
  refine O_go (gn rfl) (st_box rfl rfl rfl ?_)
  intro b1 w1 e1 n1 c1 k1
  refine Oa rfl rfl (O_end [1] (F' := [(1, _)]) rfl (Sr (Og (vl_fieldAddr fo40_1 rfl) rfl ?_)))
  refine Og (vl_load ag2 rfl (k1.cell' rfl)) rfl ?_
  refine O_go (gn rfl) (st_call bd193 rfl rfl rfl rfl (k_turned x.i _ hi) ?_)
  rintro v8 w8 ⟨rfl, rfl⟩
  refine O_go (gn rfl) (st_call bd192 rfl rfl rfl rfl (o_Fixed _ 8 _ (by omega) (by decide) (by simp only [Nat.reducePow]; omega)) ?_)
  rintro v9 w9 ⟨v9, rfl, i9, f9, c9⟩
  refine Om rfl rfl (Oe rfl rfl rfl (Oe rfl rfl rfl (Oa rfl rfl (Oa rfl rfl (O_end [3] (F' := [(3, _)]) rfl (Sr (Om rfl rfl (Oa rfl rfl (O_end [2] (F' := [(2, _)]) rfl (W_ret ?_))))))))))
  refine ret1 rfl rfl ?_
  have hs := c1.size
  exact ⟨by unfold IsBy; rw [be_len]; exact i9, fun b hb => Nat.le_trans hs (f9 b hb), c1.trans c9⟩
theorem k_lay5 (x : Val) (w : World) (hx : x.Rng) : Ret Tryz.prog 197 #[x.v] w fun r w' => IsBy w' r (numB x.u) ∧ (∀ b ∈ blkOf r, w.heap.size ≤ b) ∧ Chg [] w w' := by
  refine Ret.of_W (args := [_]) Tryz.func197 rfl rfl rfl rfl ?_

  refine Sr ?_
  refine O_go (gn rfl) (st_box rfl rfl rfl ?_)
  intro b1 w1 e1 n1 c1 k1
  refine Oa rfl rfl (O_end [1] (F' := [(1, _)]) rfl (Sr (Og (vl_fieldAddr fo40_2 rfl) rfl ?_)))
  refine Og (vl_load ag38 rfl (k1.cell' rfl)) rfl ?_
  refine O_go (gn rfl) (st_call bd198 rfl rfl rfl rfl (o_Number x.u _ hx.u) ?_)
  rintro v5 w5 ⟨i5, f5, c5⟩
  refine Oa rfl rfl (O_end [2] (F' := [(2, _)]) rfl (W_ret ?_))
  refine ret1 rfl rfl ?_
  have hs := c1.size
  exact ⟨i5, fun b hb => Nat.le_trans hs (f5 b hb), c1.trans c5⟩
theorem k_lay7 (x : Val) (w : World) (hx : x.i = 0 ∨ x.i = 1) : Ret Tryz.prog 202 #[x.v] w fun r w' => IsBy w' r [UInt8.ofNat x.i.toNat] ∧ (∀ b ∈ blkOf r, w.heap.size ≤ b) ∧ Chg [] w w' := by
  refine Ret.of_W (args := [_]) Tryz.func202 rfl rfl rfl rfl ?_

  refine Sr ?_
  refine O_go (gn rfl) (st_box rfl rfl rfl ?_)
  intro b1 w1 e1 n1 c1 k1
  refine Oa rfl rfl (O_end [1] (F' := [(1, _)]) rfl (Sr (Og (vl_fieldAddr fo40_1 rfl) rfl ?_)))
  refine Og (vl_load ag2 rfl (k1.cell' rfl)) rfl ?_
  refine Og (vl_convn it5_u8 it2_i64 rfl (show IntKind.u8.wrap x.i = (((UInt8.ofNat x.i.toNat).toNat : Nat) : Int) by rcases hx with h | h <;> rw [h] <;> rfl)) rfl ?_
  refine O_go (gn rfl) (st_buildSlice ap132 rfl (vs := [_]) rfl (css := [_]) ⟨rfl, trivial⟩ rfl rfl (cs := [_]) rfl rfl ?_)
  intro b6 w6 e6 n6 c6 k6
  refine Oa rfl rfl (O_end [2] (F' := [(2, _)]) rfl (W_ret ?_))
  refine ret1 rfl rfl ?_
  have hs := c1.size
  exact ⟨IsSl.of_blk (n := 1) k6 rfl (by simp [maxLen]) (bv_one _), by intro b hb; simp [blkOf] at hb; omega, c1.trans c6⟩
end Go.Wk

namespace Go.Wk
open Go.Proofs
set_option maxRecDepth 10000

/-- How many bytes the j-th chunk has; the chunk. -/
def chN (len j : Nat) : Nat := min 8 (len - 8 * j)
def chV (b len j : Nat) : Value := cut (some ⟨b, 0, none⟩) (8 * j) (8 * j + chN len j) (8 * j + chN len j) 1
theorem c_Chunk (v : Value) (w : World) : Ret Tryz.prog 252 #[v, .int .i64 8] w fun r w' => ∃ b2 b3, r = .func (.func 269) #[] #[.pointer (some ⟨b2, 0, none⟩), .pointer (some ⟨b3, 0, none⟩)] ∧ Blk w' b2 132 v.cells.toList ∧ Blk w' b3 3 [.int .i64 8] ∧ w.heap.size ≤ b2 ∧ w.heap.size ≤ b3 ∧ Chg [] w w' := by
  refine Ret.of_W (args := [_, _]) Tryz.func252 rfl rfl rfl rfl ?_

  refine Sr ?_
  refine O_go (gn rfl) (st_box rfl rfl rfl ?_)
  intro b2 w2 e2 n2 c2 k2
  refine O_go (gn rfl) (st_box rfl rfl rfl ?_)
  intro b3 w3 e3 n3 c3 k3
  refine Oa rfl rfl (O_end [2, 3] (F' := [(2, _), (3, _)]) rfl (W_seq (Sr ?_)))
  refine Og (vl_load ag3 rfl (k3.cell' rfl)) rfl ?_
  refine Og (vl_is (b' := false) (vl_lss rfl rfl) (decide_eq_false (by omega))) rfl ?_
  refine O_end [2, 3, 6] (F' := [(2, _), (3, _), (6, _)]) rfl (W_cond_false rfl (W_skipE (Sr ?_)))
  refine Og (vl_func rfl rfl) rfl ?_
  refine Oa rfl rfl (O_end [4] (F' := [(4, _)]) rfl (W_ret ?_))
  refine ret1 rfl rfl ?_
  have hs := c2.size
  exact ⟨b2, b3, rfl, k2.chg0 c3, k3, by omega, by omega, c2.trans c3⟩

theorem c_seq (w : World) (b2 b3 b len cap : Nat) (S0 : List Nat) (keep : TypeId → Bool) (h2 : Blk w b2 132 [.slice (some ⟨b, 0, none⟩) len cap]) (h3 : Blk w b3 3 [.int .i64 8]) (hl : len ≤ cap) (hn : len ≤ 1048576) (k2 : b2 ∉ S0) (k3 : b3 ∉ S0) :
    SeqR Tryz.prog 269 #[.pointer (some ⟨b2, 0, none⟩), .pointer (some ⟨b3, 0, none⟩)] (fun j : Nat => #[chV b len j]) S0 keep (fun j _ => 8 * j < len) (fun xs _ => xs = List.range ((len + 7) / 8)) (fun _ _ => True) ((len + 7) / 8) w := by
  intro l J Jx W hcw hJ hJx hY h0
  have hab : ∀ {pre : List Nat} {W1 W2 : World}, Chg [] W1 W2 → J pre W1 → J pre W2 := fun hc hj => hJ _ _ _ none hj hc.grown0 (fun _ e => by cases e)
  have f2 : ∀ {W1 : World}, Kp S0 w.heap.size w W1 → Blk W1 b2 132 [.slice (some ⟨b, 0, none⟩) len cap] := fun hk => (hk.2 b2 h2.lt k2).trans h2
  have f3 : ∀ {W1 : World}, Kp S0 w.heap.size w W1 → Blk W1 b3 3 [.int .i64 8] := fun hk => (hk.2 b3 h3.lt k3).trans h3
  have hkw : Kp S0 w.heap.size w W := ⟨hcw.size, fun k hk _ => hcw.block k hk (by simp)⟩
  have hmono : ∀ {W1 W2 : World}, Kp S0 w.heap.size w W1 → Chg [] W1 W2 → Kp S0 w.heap.size w W2 := fun hk hc => ⟨Nat.le_trans hk.1 hc.size, fun k hlt hn => (hc.block k (Nat.lt_of_lt_of_le hlt hk.1) (by simp)).trans (hk.2 k hlt hn)⟩
  refine CallsIn.mono (R := fun e W' => ∃ u, e = .returned u ∧ (fun (_ : Value) W' => (∃ xs, xs = List.range ((len + 7) / 8) ∧ J xs W') ∨ (∃ pre, True ∧ Jx pre W')) u W') ?_ (fun e W' ⟨u, he, h⟩ => ⟨⟨u, he⟩, h⟩)
  refine CallsIn.of_WX (args := [_, _, _]) Tryz.func269 rfl rfl rfl rfl (WX_of_W ?_)

  refine Sr (Oa rfl rfl (O_end [0, 1, 2, 4] (F' := [(0, _), (1, _), (2, _), (4, _)]) rfl (W_block ?_)))
  refine W_loop [0, 1, 2, 4] (fun m F wx => ∃ j : Nat, m = (len + 7) / 8 - j ∧ j ≤ (len + 7) / 8 ∧ F = [(0, .func (.yield l) #[] #[]), (1, .pointer (some ⟨b2, 0, none⟩)), (2, .pointer (some ⟨b3, 0, none⟩)), (4, .int .i64 (8 * j : Nat))] ∧ Kp S0 w.heap.size w wx ∧ J (List.range j) wx) (m := (len + 7) / 8 - 0) ⟨0, rfl, Nat.zero_le _, rfl, hkw, h0⟩ ?_
  rintro m F wx ⟨j, rfl, hj, rfl, hkx, hJx0⟩
  refine W_seq (Sr (Om rfl rfl ?_))
  refine Og (vl_load ag132 rfl ((f2 hkx).cell' rfl)) rfl ?_
  refine Og (vl_len sl132 rfl) rfl (Og (vl_lss rfl rfl) rfl (O_end [0, 1, 2, 4, 9] (F' := [(0, _), (1, _), (2, _), (4, _), (9, _)]) rfl ?_))
  refine W_cond rfl (fun hT => ?_) (fun hF => ?_)
  · refine W_skipE ?_
    have hlt : 8 * j < len := by have := of_decide_eq_true hT; omega
    refine W_seq (W_block (W_seq ?_))
    have hd : Chg [] wx wx.drew := Chg.drew [] _
    refine W_draw (fun wz => Chg [] wx wz) mix (by kernel_rfl) hd ?_
    refine t_read rfl (gn rfl) (fun wz hz => vl_load ag3 rfl ((f3 (hmono hkx hz)).cell' rfl)) rfl rfl ?_
    refine t_read rfl (gn rfl) (fun wz hz => vl_load ag132 rfl ((f2 (hmono hkx hz)).cell' rfl)) rfl rfl ?_
    refine Tm rfl rfl ?_
    refine t_pure rfl (gn rfl) (fun _ => vl_cut_l sl132 sz5 rfl rfl _ rfl (show 8 * j ≤ len by omega)) rfl rfl ?_
    refine t_pure rfl (gn rfl) (fun _ => vl_len sl132 rfl) rfl rfl ?_
    refine t_pure rfl (gn rfl) (fun _ => vl_min rfl rfl) rfl rfl ?_
    refine Ta rfl rfl ?_
    refine T_end [0, 1, 2, 4, 5] (F' := [(0, _), (1, _), (2, _), (4, _), (5, _)]) rfl ?_
    have hmin : (if ((len - 8 * j : Nat) : Int) < 8 then ((len - 8 * j : Nat) : Int) else 8) = ((chN len j : Nat) : Int) := by unfold chN; split <;> omega
    rw [hmin]
    have hkd := hmono hkx hd
    have hch : 8 * j + chN len j ≤ len := by unfold chN; omega
    have hch0 : chN len j ≤ 8 := by unfold chN; omega
    have hy := hY (List.range j) j wx.drew (hab hd hJx0) hlt (by rw [List.length_range]; omega)
    refine W_seq ?_
    refine W_regionX ?_
    refine Xm rfl rfl ?_
    refine X_go (gn rfl) rfl (St.vl (vl_load ag132 rfl ((f2 hkd).cell' rfl)) rfl rfl ?_)
    refine Xm rfl rfl (Xm rfl rfl (Xm rfl rfl ?_))
    refine X_go (gn rfl) rfl (St.vl (vl_eq (v' := .int .i64 ((8 * j + chN len j : Nat) : Int)) (vl_add rfl rfl (by omega)) (by congr 1)) rfl rfl ?_)
    refine Xm rfl rfl (Xm rfl rfl ?_)
    refine X_go (gn rfl) rfl (St.vl (vl_eq (v' := .int .i64 ((8 * j + chN len j : Nat) : Int)) (vl_add rfl rfl (by omega)) (by congr 1)) rfl rfl ?_)
    refine X_go (gn rfl) rfl (St.vl (vl_cut_lhm sl132 sz5 rfl rfl rfl rfl _ _ _ rfl rfl rfl (by omega) (Nat.le_refl _) (by omega)) rfl rfl ?_)
    refine X_yield (gn rfl) rfl rfl rfl hy ?_
    rintro v29 w29 hR29
    obtain ⟨b29, rfl, hb29⟩ := yb hR29
    refine ⟨_, rfl, ?_⟩
    refine X_go (gn rfl) rfl (St.vl (vl_not rfl) rfl rfl ?_)
    refine X_end [0, 1, 2, 4, 30] (F' := [(0, _), (1, _), (2, _), (4, _), (30, _)]) rfl ?_
    rcases hb29 with ⟨rfl, hJ29, hk29⟩ | ⟨rfl, hJ29⟩
    · refine W_cond_false rfl (W_skip (block_normal ?_))
      have hkf : Kp S0 w.heap.size w w29 := hkd.trans hk29.kp
      refine W_region (Om rfl rfl ?_)
      refine Og (vl_load ag3 rfl ((f3 hkf).cell' rfl)) rfl ?_
      refine Og (vl_eq (v' := .int .i64 ((8 * (j + 1) : Nat) : Int)) (vl_add rfl rfl (by omega)) (by congr 1)) rfl ?_
      refine Oa rfl rfl ?_
      refine O_endN [0, 1, 2, 4] (F' := [(0, _), (1, _), (2, _), (4, _)]) rfl ?_
      refine ⟨(len + 7) / 8 - (j + 1), by omega, j + 1, rfl, by omega, rfl, hkf, ?_⟩
      rw [List.range_succ]
      exact hJ29
    · refine W_cond_true rfl (W_ret ?_)
      repeat (first | refine then_ret ?_ | refine block_ret ?_)
      refine ret0 rfl ?_
      exact .inr ⟨_, trivial, hJ29⟩
  · refine W_exit ?_
    repeat (first | refine then_exit ?_ | refine blockF_other rfl ?_)
    refine blockF_exit _ ?_
    refine end0 rfl ?_
    have he : j = (len + 7) / 8 := by have := of_decide_eq_false hF; omega
    subst he
    exact .inl ⟨_, rfl, hJx0⟩
end Go.Wk
