/-
  Layer key: Encode; the key of a set's values.
  Layer codec: how values are laid; Encode.
  Layer codec: Encode.
  Layer codec: how values are read.
  Layer codec: a row is read.
  Layer codec: Decode.
  A table in memory.
  The keys of the rows that clash with one.
  Layer table: fits, clashing.
-/
import Derived.Test.YtcnkdoecfljnlaaGreatDoorQ10
set_option linter.all false
namespace Go.Wk
open Go.Proofs
set_option maxRecDepth 10000

theorem kkinds_some {x : Val} (h : chkN x = 0) (hx : x.Rng) : ∃ f g, kget kKinds x.k = some (kindV f g) ∧ bodied Tryz.prog f = true ∧ ∀ w, Ret Tryz.prog f #[x.v] w fun r w' => IsBy w' r (keyT x) ∧ (∀ b ∈ blkOf r, w.heap.size ≤ b) ∧ Chg [] w w' := by
  obtain ⟨hf, hb⟩ := chk_ok h
  obtain ⟨hk, hbr, hm⟩ := fine_parts hf
  obtain ⟨k, i, u, b⟩ := x
  rcases (show k = 0 ∨ k = 1 ∨ k = 2 ∨ k = 3 ∨ k = 4 by simp at hk; omega) with rfl | rfl | rfl | rfl | rfl
  · exact ⟨_, _, rfl, bd189, fun w => k_lay1 _ w⟩
  · exact ⟨_, _, rfl, bd191, fun w => k_lay3 _ w hx⟩
  · exact ⟨_, _, rfl, bd197, fun w => k_lay5 _ w hx⟩
  · exact ⟨_, _, rfl, bd202, fun w => k_lay7 _ w (hm rfl)⟩
  · exact ⟨_, _, rfl, bd204, fun w => k_laid _ w (by simp at hb ⊢; omega)⟩
theorem keyB_snoc (l : List Val) (x : Val) : keyB (l ++ [x]) = keyB l ++ ([UInt8.ofNat x.k.toNat] ++ keyT x) := by simp [keyB, keyV_eq]
theorem keyE_hit : ∀ {l : List Val} {j : Nat} {x : Val}, l[j]? = some x → chkN x ≠ 0 → (∀ y ∈ l.take j, chkN y = 0) → keyE l = chkN x
  | [], _, _, h, _, _ => by simp at h
  | y :: l, 0, x, h, hx, _ => by simp at h; subst h; simp [keyE, hx]
  | y :: l, j + 1, x, h, hx, ha => by
    unfold keyE
    rw [if_neg (by simp [ha y (by simp)])]
    exact keyE_hit (by simpa using h) hx (fun z hz => ha z (by simp [hz]))
theorem IsBy.push {w : World} {v : Value} {l m : List UInt8} {n : Nat} {xs : List Value} (h : IsSl w 5 1 v n xs) (hn : n = l.length + m.length) (hx : xs = bv l ++ bv m) : IsBy w v (l ++ m) := by
  subst hn hx
  unfold IsBy
  rw [List.length_append, bv_append]
  exact h
theorem ownB {v v' : Value} {w w0 : World} (ho : blkOf v' = blkOf v ∨ ∃ b, blkOf v' = [b] ∧ w.heap.size ≤ b) (hs : w0.heap.size ≤ w.heap.size) : ∀ y ∈ blkOf v', y ∈ blkOf v ∨ w0.heap.size ≤ y := by
  intro y hy
  rcases ho with o | ⟨b, o, hb⟩
  · rw [o] at hy; exact .inl hy
  · rw [o] at hy; simp at hy; subst hy; right; omega
theorem k_Encode (v : Value) (l : List Val) (w : World) (hl : IsVals w v l) (hg : ∀ x ∈ l, x.Rng) (hn : l.length ≤ 8) :
    Ret Tryz.prog 103 #[v] w fun r w' => r = .tuple #[.string (if keyE l = 0 then keyS l else e0), .int .i64 (keyE l)] ∧ Chg [] w w' := by
  obtain ⟨pv, cv, rfl, hcv⟩ := Arr.val hl
  refine Ret.of_W (args := [_]) Tryz.func103 rfl rfl rfl rfl ?_

  refine Sr (Oa rfl rfl (Oa rfl rfl (O_end [0] (F' := [(0, _)]) rfl (Sr (Oa rfl rfl (O_end [0, 4] (F' := [(0, _), (4, _)]) rfl (W_seq (Sr (Om rfl rfl (Og (vl_len sl48 rfl) rfl ?_))))))))))
  refine Om rfl rfl (O_end [4, 8, 9, 10] (F' := [(4, _), (8, _), (9, _), (10, _)]) rfl (W_block ?_))
  refine W_loop [4, 8, 9, 10] (fun m F wx => ∃ (j : Nat) (u : Value), m = l.length - j ∧ j ≤ l.length ∧ F = [(4, u), (8, .slice pv l.length cv), (9, .int .i64 l.length), (10, .int .i64 j)] ∧ IsBy wx u (keyB (l.take j)) ∧ (∀ b ∈ blkOf u, w.heap.size ≤ b) ∧ Chg [] w wx ∧ (∀ y ∈ l.take j, chkN y = 0)) (m := l.length - 0) ⟨0, _, rfl, Nat.zero_le _, rfl, IsSl.nil _ _ _, by simp [blkOf], Chg.refl _ _, by simp⟩ ?_
  rintro m F wx ⟨j, u, rfl, hj, rfl, hu, hfu, hcx, hall⟩
  have hkl := keyB_len hall
  rw [List.length_take, Nat.min_eq_left hj] at hkl
  refine Sr (Og (vl_lss rfl rfl) rfl (O_end [4, 8, 9, 10, 11] (F' := [(4, _), (8, _), (9, _), (10, _), (11, _)]) rfl (W_seq ?_)))
  refine W_cond rfl (fun hT => ?_) (fun hF => ?_)
  · refine W_skipE ?_
    have hlt : j < l.length := by have := of_decide_eq_true hT; omega
    have hx : l[j]? = some l[j] := by simp [hlt]
    generalize l[j] = x at hx
    have hxr := hg x (List.mem_of_getElem? hx)
    obtain ⟨b, off, cap, hv, hcell⟩ := Arr.at cs_len (Arr.chg0 hl hcx) hx
    cases hv
    refine W_seq (W_block (Sr ?_))
    refine Og (vl_indexAddr sl48 sz40 rfl rfl _ rfl hlt) rfl ?_
    refine Og (vl_loadAgg ag40 sz40 rfl rfl hcell) rfl ?_
    refine O_go (gn rfl) (st_alloc zr40 rfl rfl ?_)
    intro b6 w6 e6 n6 c6 k6
    refine O_go (gn rfl) (st_store sz40 rfl rfl rfl rfl k6 (by simp [Val.cs]) (Val.one x) ?_)
    intro wA nA cA kA
    refine O_end [4, 6, 8, 9, 10] (F' := [(4, _), (6, _), (8, _), (9, _), (10, _)]) rfl ?_
    have kA : Blk wA b6 40 x.cs := kA
    have hcA : Chg [] wx wA := c6.own cA (by intro y hy; simp at hy; omega)
    refine W_seq (Sr ?_)
    refine Og (vl_loadAgg ag40 sz40 rfl rfl (Cells.of_blk0 kA)) rfl ?_
    refine O_go (gn rfl) (st_call bd143 rfl rfl rfl rfl (v_Check x _) ?_)
    rintro v15 w15 ⟨rfl, c15⟩
    refine Oa rfl rfl (O_end [4, 6, 7, 8, 9, 10] (F' := [(4, _), (6, _), (7, _), (8, _), (9, _), (10, _)]) rfl ?_)
    have kB := kA.chg0 c15
    have hcB : Chg [] wx w15 := hcA.trans c15
    have huB := IsSl.chg0 hu hcB
    refine W_seq ?_
    by_cases hc : chkN x = 0
    · refine W_region (Om rfl rfl ?_)
      refine Og (vl_is (b' := false) (vl_ine rfl rfl) (by simp [hc])) rfl ?_
      refine O_end [4, 6, 7, 8, 9, 10, 17] (F' := [(4, _), (6, _), (7, _), (8, _), (9, _), (10, _), (17, _)]) rfl (W_cond_false rfl (W_skipE ?_))
      obtain ⟨f, g, hgk, hbf, hlay⟩ := kkinds_some hc hxr
      have hfine := (fine_parts (chk_ok hc).1).1
      have hkT : (keyT x).length ≤ 234 := by have := keyV_len hc; rw [keyV_eq] at this; simp at this; omega
      have hd : Chg (blkOf u) w15 w15.drew := Chg.drew _ _
      have hbu : b6 ∉ blkOf u := fun hm => IsSl.apart huB kB rfl b6 hm (by simp)
      refine W_draw (fun wz => Chg (blkOf u) w15 wz) mix (by kernel_rfl) hd ?_
      refine Tm rfl rfl ?_
      refine t_pure rfl (gn rfl) (fun _ => vl_fieldAddr fo40_0 rfl) rfl rfl ?_
      refine t_read rfl (gn rfl) (fun wz hz => vl_load ag37 rfl ((kB.chg hz hbu).cell' rfl)) rfl rfl ?_
      refine t_pure rfl (gn rfl) (fun _ => vl_convn it5_u8 it37_i64 rfl (show IntKind.u8.wrap x.k = (((UInt8.ofNat x.k.toNat).toNat : Nat) : Int) by rw [show x.k = ((x.k.toNat : Nat) : Int) by omega, u8_wrap]; simp)) rfl rfl ?_
      refine t_st rfl (gn rfl) (st_buildSlice ap132 rfl (vs := [_]) rfl (css := [_]) ⟨rfl, trivial⟩ rfl rfl (cs := [_]) rfl rfl ?_)
      intro b23 w23 e23 n23 c23 k23
      refine ⟨.inl (hd.trans c23), ?_⟩
      refine t_st rfl (gn rfl) (st_append ap132 sl132 rfl rfl (IsSl.chg0 huB ((Chg.drew [] _).trans c23)) (IsSl.of_blk (n := 1) (c := bv [UInt8.ofNat x.k.toNat]) k23 rfl (by simp [maxLen]) (bv_one _)) (by simp only [maxLen]; omega) (by omega) rfl ?_)
      intro v24 w24 i24 c24 o24 z24
      refine ⟨.inl ((hd.trans c23).transS c24), ?_⟩
      refine t_st rfl (gn rfl) (st_call bd144 rfl rfl rfl rfl (k_kinds _) ?_)
      rintro v25 w25 ⟨b25, rfl, h25, k25, c25⟩
      refine ⟨.inl (((hd.trans c23).transS c24).trans c25), ?_⟩
      refine t_pure rfl (gn rfl) (fun _ => vl_fieldAddr fo40_0 rfl) rfl rfl ?_
      refine t_read rfl (gn rfl) (fun wz hz => vl_load ag37 rfl ((kB.chg hz hbu).cell' rfl)) rfl rfl ?_
      refine t_st rfl (gn rfl) (St.vl (vl_lookK1v (κ := intK .i64) mp243 (itOf_und it37_i64) zr242 rfl rfl k25 hgk rfl) rfl rfl ?_)
      refine ⟨.inl (((hd.trans c23).transS c24).trans c25), ?_⟩
      refine t_pure rfl (gn rfl) (fun _ => vl_field1 fp242_0 rfl rfl) rfl rfl ?_
      refine t_read rfl (gn rfl) (fun wz hz => vl_loadAgg ag40 sz40 rfl rfl (Cells.of_blk0 (kB.chg hz hbu))) rfl rfl ?_
      refine t_st rfl (gn rfl) (st_call hbf rfl rfl rfl rfl (hlay _) ?_)
      rintro v31 w31 ⟨i31, f31, c31⟩
      refine ⟨.inl ((((hd.trans c23).transS c24).trans c25).trans c31), ?_⟩
      refine t_st rfl (gn rfl) (st_append ap132 sl132 rfl rfl (IsSl.chg0 (IsSl.chg0 i24 c25) c31) i31 (by simp only [maxLen]; omega) (by omega) rfl ?_)
      intro v32 w32 i32 c32 o32 z32
      refine ⟨.inl (((((hd.trans c23).transS c24).trans c25).trans c31).trans' c32 (ownB o24 c23.size)), ?_⟩
      refine Ta rfl rfl ?_
      refine T_endN [4, 8, 9, 10] (F' := [(4, _), (8, _), (9, _), (10, _)]) rfl ?_
      refine block_normal ?_
      have hcz : Chg (blkOf u) w15 w32 := ((((hd.trans c23).transS c24).trans c25).trans c31).trans' c32 (ownB o24 c23.size)
      have hwz := (hcx.trans hcB).own hcz hfu
      have hs1 := hcx.size
      have hs2 := hcB.size
      have hs3 : w15.heap.size ≤ w23.heap.size := c23.size
      have hs4 := (c24.size)
      have hs5 := c25.size
      have hs6 := c31.size
      refine W_region ?_
      refine Og (vl_add rfl rfl (by omega)) rfl ?_
      refine Om rfl rfl ?_
      refine O_endN [4, 8, 9, 10] (F' := [(4, _), (8, _), (9, _), (10, _)]) rfl ?_
      refine ⟨l.length - (j + 1), by omega, j + 1, v32, rfl, by omega, rfl, ?_, fresh_of o32 (fresh_of o24 hfu (by omega)) (by omega), hwz, ?_⟩
      · rw [List.take_add_one, hx]
        show IsBy w32 v32 (keyB (l.take j ++ [x]))
        rw [keyB_snoc, ← List.append_assoc]
        refine IsBy.push i32 ?_ ?_
        · rw [List.length_append]; rfl
        · rw [bv_append]
      · intro y hy
        rw [List.take_add_one, hx] at hy
        rcases List.mem_append.1 hy with hy | hy
        · exact hall y hy
        · simp at hy; subst hy; exact hc
    · refine W_region (Om rfl rfl ?_)
      refine Og (vl_is (b' := true) (vl_ine rfl rfl) (by simp [hc])) rfl ?_
      refine O_end [4, 6, 7, 8, 9, 10, 17] (F' := [(4, _), (6, _), (7, _), (8, _), (9, _), (10, _), (17, _)]) rfl (W_cond_true rfl (Sr (Om rfl rfl (Oa rfl rfl (Oa rfl rfl (O_end [2, 3] (F' := [(2, _), (3, _)]) rfl (W_ret ?_)))))))
      repeat (first | refine then_ret ?_ | refine block_ret ?_)
      refine ret2 rfl rfl rfl ?_
      rw [keyE_hit hx hc hall, if_neg hc]
      exact ⟨rfl, hcx.trans hcB⟩
  · refine W_exit ?_
    repeat (first | refine then_exit ?_ | refine blockF_other rfl ?_)
    refine blockF_exit _ ?_
    have he : l.length ≤ j := by have := of_decide_eq_false hF; omega
    rw [List.take_of_length_le he] at hu hall hkl
    have hE := keyE_iff.2 hall
    obtain ⟨pu, cu, rfl, _⟩ := id (IsSl.val hu)
    refine W_seq (Sr (Om rfl rfl (Og (vl_len sl132 rfl) rfl ?_)))
    refine Og (vl_is (b' := false) (vl_gtr rfl rfl) (decide_eq_false (by omega))) rfl ?_
    refine O_end [4, 36] (F' := [(4, _), (36, _)]) rfl (W_cond_false rfl (W_skipE (Sr (Om rfl rfl ?_))))
    refine Og (vl_bytesR (l := (keyB l)) sl132 it5_u8 st9 rfl (IsSl.rd hu)) rfl ?_
    refine Oa rfl rfl (Oa rfl rfl (O_end [2, 3] (F' := [(2, _), (3, _)]) rfl (W_ret ?_)))
    refine ret2 rfl rfl rfl ?_
    rw [hE, if_pos rfl]
    exact ⟨rfl, hcx⟩
theorem k_of1 (x : Val) (w : World) : Ret Tryz.prog 105 #[x.v] w fun r w' => r = .bool (decide (x.k = 0)) ∧ Chg [] w w' := by
  refine Ret.of_W (args := [_]) Tryz.func105 rfl rfl rfl rfl ?_

  refine Sr ?_
  refine O_go (gn rfl) (st_box rfl rfl rfl ?_)
  intro b1 w1 e1 n1 c1 k1
  refine Oa rfl rfl (O_end [1] (F' := [(1, _)]) rfl (Sr (Og (vl_fieldAddr fo40_0 rfl) rfl ?_)))
  refine Og (vl_load ag37 rfl (k1.cell' rfl)) rfl ?_
  refine Og (vl_ieq rfl rfl) rfl (Oa rfl rfl (O_end [2] (F' := [(2, _)]) rfl (W_ret ?_)))
  refine ret1 rfl rfl ?_
  exact ⟨rfl, c1⟩
theorem nnS_any (l : List Val) : nnS l = !(l.any fun x => decide (x.k = 0)) := by
  rw [Bool.eq_iff_iff]
  simp [nnS]
theorem k_of (v : Value) (l : List Val) (w : World) (hl : IsVals w v l) (hg : ∀ x ∈ l, x.Rng) (hn : l.length ≤ 8) :
    Ret Tryz.prog 70 #[v] w fun r w' => r = .tuple #[.string (if keyE l = 0 then keyS l else e0), .bool (nnS l)] ∧ Chg [] w w' := by
  refine Ret.of_W (args := [_]) Tryz.func70 rfl rfl rfl rfl ?_

  refine Sr (Oa rfl rfl (Oa rfl rfl (O_end [0] (F' := [(0, _)]) rfl (Sr (Om rfl rfl ?_)))))
  refine O_go (gn rfl) (st_call bd103 rfl rfl rfl rfl (k_Encode v l _ hl hg hn) ?_)
  rintro v8 w8 ⟨rfl, c8⟩
  refine Om rfl rfl (Oe rfl rfl rfl (Oe rfl rfl rfl (Oa rfl rfl (Oa rfl rfl (O_end [0, 4] (F' := [(0, _), (4, _)]) rfl (Sr (Om rfl rfl (Om rfl rfl ?_))))))))
  refine O_go (gn rfl) (st_call bd104 rfl rfl rfl rfl (cf_val cs_len v l (fun x => decide (x.k = 0)) 105 [] _ (Arr.chg0 hl c8) (by omega) bd105 (fun x _ w1 _ => k_of1 x w1)) ?_)
  rintro v13 w13 ⟨rfl, c13⟩
  refine Og (vl_not rfl) rfl (Oa rfl rfl (Oa rfl rfl (O_end [2, 3] (F' := [(2, _), (3, _)]) rfl (W_ret ?_))))
  refine ret2 rfl rfl rfl ?_
  exact ⟨by rw [nnS_any], c8.trans c13⟩
/-- The key of a row's values in a set. -/
theorem k_setof (a p v : Value) (st : List Int) (row : List Val) (w : World) (ha : IsInts w a st) (hp : p.oneCell' = true) (hv : IsVals w v row) (hg : ∀ x ∈ row, x.Rng) (hc : ∀ x ∈ row, chkN x = 0) (hr : ∀ i ∈ st, 0 ≤ i ∧ i < row.length) (hn : st.length ≤ 8) (hn' : row.length ≤ 1048576) :
    Ret Tryz.prog 62 #[.agg #[a, p], v] w fun r w' => r = .tuple #[.string (keyS (pickN row st)), .bool (nnS (pickN row st))] ∧ Chg [] w w' := by
  have hmem : ∀ x ∈ pickN row st, x ∈ row := fun x hx => by
    rw [pick_map, List.mem_map] at hx
    obtain ⟨i, hi, rfl⟩ := hx
    exact (valAt_mem rfl (hr i hi)).1
  have hE : keyE (pickN row st) = 0 := keyE_iff.2 fun x hx => hc x (hmem x hx)
  obtain ⟨pa, ca, rfl, _⟩ := id (Arr.val ha)
  refine Ret.of_W (args := [_, _]) Tryz.func62 rfl rfl rfl rfl ?_

  refine Sr ?_
  refine O_go (gn rfl) (st_box rfl rfl rfl ?_)
  intro b2 w2 e2 n2 c2 k2
  refine Oa rfl rfl (Oa rfl rfl (O_end [1, 2] (F' := [(1, _), (2, _)]) rfl (Sr (Om rfl rfl (Og (vl_fieldAddr fo103_0 rfl) rfl ?_)))))
  refine Og (vl_load ag27 rfl (k2.cell' rfl)) rfl ?_
  refine O_go (gn rfl) (st_call bd92 rfl rfl rfl rfl (s_Pick v _ row st _ (Arr.chg0 hv c2) (Arr.chg0 ha c2) hr hn' (by omega)) ?_)
  rintro v12 w12 ⟨u, rfl, iu, fu, c12⟩
  refine Om rfl rfl (Oe rfl rfl rfl (Oe rfl rfl rfl (Oa rfl rfl (Oa rfl rfl (O_end [6] (F' := [(6, _)]) rfl (Sr (Om rfl rfl ?_)))))))
  refine O_go (gn rfl) (st_call bd70 rfl rfl rfl rfl (k_of u (pickN row st) _ iu (fun x hx => hg x (hmem x hx)) (by rw [pick_len]; exact hn)) ?_)
  rintro v16 w16 ⟨rfl, c16⟩
  refine Oe rfl rfl rfl (Oe rfl rfl rfl (Oa rfl rfl (Oa rfl rfl (O_end [4, 5] (F' := [(4, _), (5, _)]) rfl (W_ret ?_)))))
  refine ret2 rfl rfl rfl ?_
  rw [hE, if_pos rfl]
  exact ⟨rfl, (c2.trans c12).trans c16⟩
end Go.Wk

namespace Go.Wk
open Go.Proofs
set_option maxRecDepth 10000

theorem be_mod (n : Nat) : ∀ {k m : Nat}, k ≤ m → be (n % 256 ^ m) k = be n k
  | 0, _, _ => rfl
  | k + 1, m, h => by
    have e : n % 256 ^ m / 256 ^ k % 256 = n / 256 ^ k % 256 := by
      have h1 : n % 256 ^ m % 256 ^ (k + 1) = n % 256 ^ (k + 1) := Nat.mod_mod_of_dvd _ (Nat.pow_dvd_pow _ h)
      have h2 : ∀ a : Nat, a / 256 ^ k % 256 = a % 256 ^ (k + 1) / 256 ^ k := fun a => by
        rw [Nat.pow_succ, Nat.mod_mul_right_div_self]
      rw [h2, h1, ← h2]
    unfold be
    rw [e, be_mod n (by omega)]
theorem c_fixed (n z : Nat) (w : World) (hn : n < 18446744073709551616) (hz : z = 1 ∨ z = 2 ∨ z = 4 ∨ z = 8) : Ret Tryz.prog 162 #[.int .u64 n, .int .i64 z] w fun r w' => IsBy w' r (be n z) ∧ (∀ b ∈ blkOf r, w.heap.size ≤ b) ∧ Chg [] w w' := by
  have e1 : IntKind.u64.wrap ((n : Int) * 2 ^ (64 - 8 * z)) = ((n * 2 ^ (64 - 8 * z) % 18446744073709551616 : Nat) : Int) := by rw [u64_wrap']; rcases hz with rfl | rfl | rfl | rfl <;> simp only [Nat.reducePow, Nat.reduceMul, Nat.reduceSub, Int.reducePow] <;> omega
  have e2 : n * 2 ^ (64 - 8 * z) % 18446744073709551616 / 2 ^ (64 - 8 * z) = n % 256 ^ z := by rcases hz with rfl | rfl | rfl | rfl <;> simp only [Nat.reducePow, Nat.reduceMul, Nat.reduceSub] <;> omega
  have hz8 : z ≤ 8 := by omega
  have hp : n % 256 ^ z < 256 ^ z := Nat.mod_lt _ (Nat.pow_pos (by decide))
  refine Ret.of_W (args := [_, _]) Tryz.func162 rfl rfl rfl rfl ?_

  refine Sr (Oa rfl rfl (O_end [0, 1] (F' := [(0, _), (1, _)]) rfl (Sr (Om rfl rfl (Om rfl rfl ?_)))))
  refine Og (vl_mul rfl rfl (by omega)) rfl ?_
  refine Og (vl_sub rfl rfl (by omega)) rfl ?_
  refine Og (vl_shl (64 - 8 * z) rfl rfl (by omega) (by simp only [IntKind.bits]; omega) e1) rfl ?_
  refine Om rfl rfl ?_
  refine Og (vl_mul rfl rfl (by omega)) rfl ?_
  refine Og (vl_sub rfl rfl (by omega)) rfl ?_
  refine Og (vl_shr (64 - 8 * z) rfl rfl (by omega) (by simp only [IntKind.bits]; omega) (fdiv2 _ _)) rfl ?_
  refine Om rfl rfl ?_
  refine O_go (gn rfl) (st_call bd192 rfl rfl rfl rfl (e2 ▸ o_Fixed (n % 256 ^ z) z _ (Nat.lt_of_le_of_lt (Nat.mod_le _ _) hn) (by omega) hp) ?_)
  rintro v18 w18 ⟨v18, rfl, i18, f18, c18⟩
  refine Om rfl rfl (Oe rfl rfl rfl (Oe rfl rfl rfl (Oa rfl rfl (Oa rfl rfl (O_end [5] (F' := [(5, _)]) rfl (Sr (Om rfl rfl (Oa rfl rfl (O_end [4] (F' := [(4, _)]) rfl (W_ret ?_))))))))))
  refine ret1 rfl rfl ?_
  rw [e2, be_mod n (Nat.le_refl z)] at i18
  exact ⟨by unfold IsBy; rw [be_len]; exact i18, f18, c18⟩

/-- What a value's bytes are. -/
theorem c_lay1 (c : Col) (x : Val) (w : World) (hx : x.Rng) (hz : c.s = 1 ∨ c.s = 2 ∨ c.s = 4 ∨ c.s = 8) : Ret Tryz.prog 161 #[c.v, x.v] w fun r w' => IsBy w' r (be (x.i % 18446744073709551616).toNat c.s.toNat) ∧ (∀ b ∈ blkOf r, w.heap.size ≤ b) ∧ Chg [] w w' := by
  have hi := hx.i
  obtain ⟨z, hz1, hz2⟩ : ∃ z : Nat, c.s = z ∧ (z = 1 ∨ z = 2 ∨ z = 4 ∨ z = 8) := ⟨c.s.toNat, by omega, by omega⟩
  refine Ret.of_W (args := [_, _]) Tryz.func161 rfl rfl rfl rfl ?_

  refine Sr ?_
  refine O_go (gn rfl) (st_box rfl rfl rfl ?_)
  intro b2 w2 e2 n2 c2 k2
  refine O_go (gn rfl) (st_box rfl rfl rfl ?_)
  intro b3 w3 e3 n3 c3 k3
  refine Oa rfl rfl (O_end [2, 3] (F' := [(2, _), (3, _)]) rfl (Sr (Og (vl_fieldAddr fo40_1 rfl) rfl ?_)))
  refine Og (vl_load ag2 rfl (k3.cell' rfl)) rfl ?_
  refine Og (vl_convn it38_u64 it2_i64 rfl (show IntKind.u64.wrap x.i = (((x.i % 18446744073709551616).toNat : Nat) : Int) by rw [u64_wrap']; omega)) rfl ?_
  refine Og (vl_fieldAddr fo25_2 rfl) rfl ?_
  refine Og (vl_load ag3 rfl ((k2.chg0 c3).cell' (show _ = some (Value.int .i64 (z : Int)) by rw [← hz1]; rfl))) rfl ?_
  refine O_go (gn rfl) (st_call bd162 rfl rfl rfl rfl (c_fixed _ z _ (by omega) hz2) ?_)
  rintro v10 w10 ⟨i10, f10, c10⟩
  refine Oa rfl rfl (O_end [4] (F' := [(4, _)]) rfl (W_ret ?_))
  refine ret1 rfl rfl ?_
  have hs := (c2.trans c3).size
  rw [hz1]
  exact ⟨i10, fun b hb => Nat.le_trans hs (f10 b hb), (c2.trans c3).trans c10⟩
theorem c_lay3 (c : Col) (x : Val) (w : World) (hx : x.Rng) (hz : c.s = 1 ∨ c.s = 2 ∨ c.s = 4 ∨ c.s = 8) : Ret Tryz.prog 167 #[c.v, x.v] w fun r w' => IsBy w' r (be x.u c.s.toNat) ∧ (∀ b ∈ blkOf r, w.heap.size ≤ b) ∧ Chg [] w w' := by
  obtain ⟨z, hz1, hz2⟩ : ∃ z : Nat, c.s = z ∧ (z = 1 ∨ z = 2 ∨ z = 4 ∨ z = 8) := ⟨c.s.toNat, by omega, by omega⟩
  refine Ret.of_W (args := [_, _]) Tryz.func167 rfl rfl rfl rfl ?_

  refine Sr ?_
  refine O_go (gn rfl) (st_box rfl rfl rfl ?_)
  intro b2 w2 e2 n2 c2 k2
  refine O_go (gn rfl) (st_box rfl rfl rfl ?_)
  intro b3 w3 e3 n3 c3 k3
  refine Oa rfl rfl (O_end [2, 3] (F' := [(2, _), (3, _)]) rfl (Sr (Og (vl_fieldAddr fo40_2 rfl) rfl ?_)))
  refine Og (vl_load ag38 rfl (k3.cell' rfl)) rfl ?_
  refine Og (vl_fieldAddr fo25_2 rfl) rfl ?_
  refine Og (vl_load ag3 rfl ((k2.chg0 c3).cell' (show _ = some (Value.int .i64 (z : Int)) by rw [← hz1]; rfl))) rfl ?_
  refine O_go (gn rfl) (st_call bd162 rfl rfl rfl rfl (c_fixed _ z _ hx.u hz2) ?_)
  rintro v9 w9 ⟨i9, f9, c9⟩
  refine Oa rfl rfl (O_end [4] (F' := [(4, _)]) rfl (W_ret ?_))
  refine ret1 rfl rfl ?_
  have hs := (c2.trans c3).size
  rw [hz1]
  exact ⟨i9, fun b hb => Nat.le_trans hs (f9 b hb), (c2.trans c3).trans c9⟩
theorem c_lay5 (c : Col) (x : Val) (w : World) (hx : x.i = 0 ∨ x.i = 1) : Ret Tryz.prog 169 #[c.v, x.v] w fun r w' => IsBy w' r [UInt8.ofNat x.i.toNat] ∧ (∀ b ∈ blkOf r, w.heap.size ≤ b) ∧ Chg [] w w' := by
  refine Ret.of_W (args := [_, _]) Tryz.func169 rfl rfl rfl rfl ?_

  refine Sr ?_
  refine O_go (gn rfl) (st_box rfl rfl rfl ?_)
  intro b2 w2 e2 n2 c2 k2
  refine O_go (gn rfl) (st_box rfl rfl rfl ?_)
  intro b3 w3 e3 n3 c3 k3
  refine Oa rfl rfl (O_end [3] (F' := [(3, _)]) rfl (Sr (Og (vl_fieldAddr fo40_1 rfl) rfl ?_)))
  refine Og (vl_load ag2 rfl (k3.cell' rfl)) rfl ?_
  refine Og (vl_convn it5_u8 it2_i64 rfl (show IntKind.u8.wrap x.i = (((UInt8.ofNat x.i.toNat).toNat : Nat) : Int) by rcases hx with h | h <;> rw [h] <;> rfl)) rfl ?_
  refine O_go (gn rfl) (st_buildSlice ap132 rfl (vs := [_]) rfl (css := [_]) ⟨rfl, trivial⟩ rfl rfl (cs := [_]) rfl rfl ?_)
  intro b8 w8 e8 n8 c8 k8
  refine Oa rfl rfl (O_end [4] (F' := [(4, _)]) rfl (W_ret ?_))
  refine ret1 rfl rfl ?_
  have hs := (c2.trans c3).size
  exact ⟨IsSl.of_blk (n := 1) k8 rfl (by simp [maxLen]) (bv_one _), by intro b hb; simp [blkOf] at hb; omega, (c2.trans c3).trans c8⟩
theorem c_lay8 (c : Col) (x : Val) (w : World) (hx : x.b.size ≤ 1048576) : Ret Tryz.prog 173 #[c.v, x.v] w fun r w' => IsBy w' r (textB x.b) ∧ (∀ b ∈ blkOf r, w.heap.size ≤ b) ∧ Chg [] w w' := by
  refine Ret.of_W (args := [_, _]) Tryz.func173 rfl rfl rfl rfl ?_

  refine Sr ?_
  refine O_go (gn rfl) (st_box rfl rfl rfl ?_)
  intro b2 w2 e2 n2 c2 k2
  refine O_go (gn rfl) (st_box rfl rfl rfl ?_)
  intro b3 w3 e3 n3 c3 k3
  refine Oa rfl rfl (O_end [3] (F' := [(3, _)]) rfl (Sr (Og (vl_fieldAddr fo40_3 rfl) rfl ?_)))
  refine Og (vl_load ag9 rfl (k3.cell' rfl)) rfl ?_
  refine O_go (gn rfl) (st_call bd174 rfl rfl rfl rfl (o_Text x.b _ hx) ?_)
  rintro v7 w7 ⟨i7, f7, c7⟩
  refine Oa rfl rfl (O_end [4] (F' := [(4, _)]) rfl (W_ret ?_))
  refine ret1 rfl rfl ?_
  have hs := (c2.trans c3).size
  exact ⟨i7, fun b hb => Nat.le_trans hs (f7 b hb), (c2.trans c3).trans c7⟩
def kind3 (f g h : FuncId) : Value := .agg #[.func (.func f) #[] #[], .func (.func g) #[] #[], .func (.func h) #[] #[]]
def cKinds : List (Int × Value) := [(1, kind3 161 163 166), (2, kind3 167 168 166), (3, kind3 169 170 172), (4, kind3 173 175 178)]
theorem c_kinds (w : World) : Ret Tryz.prog 133 #[] w fun r w' => ∃ b, r = .map (some b) ∧ w.heap.size ≤ b ∧ IsMapK (intK .i64) w' b cKinds ∧ Chg [] w w' := by
  refine Ret.of_W (args := []) Tryz.func133 rfl rfl rfl rfl ?_

  refine Sr (Oa rfl rfl (O_end [] (F' := []) rfl (Sr ?_)))
  refine O_go (gn rfl) (st_makeMapK (intK .i64) rfl ?_)
  intro b1 w1 e1 n1 c1 k1
  refine Og (vl_build pl220 zr220 rfl (vs := [_, _, _]) rfl (css := [_, _, _]) ⟨rfl, rfl, rfl, trivial⟩ rfl rfl (cs := [_, _, _]) rfl) rfl ?_
  refine O_go (gn rfl) (st_insK (κ := intK .i64) mp221 (itOf_und it23_i64) rfl rfl rfl k1 ?_)
  intro wA nA cA kA
  refine Og (vl_build pl220 zr220 rfl (vs := [_, _, _]) rfl (css := [_, _, _]) ⟨rfl, rfl, rfl, trivial⟩ rfl rfl (cs := [_, _, _]) rfl) rfl ?_
  refine O_go (gn rfl) (st_insK (κ := intK .i64) mp221 (itOf_und it23_i64) rfl rfl rfl kA ?_)
  intro wB nB cB kB
  refine Og (vl_build pl220 zr220 rfl (vs := [_, _, _]) rfl (css := [_, _, _]) ⟨rfl, rfl, rfl, trivial⟩ rfl rfl (cs := [_, _, _]) rfl) rfl ?_
  refine O_go (gn rfl) (st_insK (κ := intK .i64) mp221 (itOf_und it23_i64) rfl rfl rfl kB ?_)
  intro wC nC cC kC
  refine Og (vl_build pl220 zr220 rfl (vs := [_, _, _]) rfl (css := [_, _, _]) ⟨rfl, rfl, rfl, trivial⟩ rfl rfl (cs := [_, _, _]) rfl) rfl ?_
  refine O_go (gn rfl) (st_insK (κ := intK .i64) mp221 (itOf_und it23_i64) rfl rfl rfl kC ?_)
  intro wD nD cD kD
  refine Om rfl rfl (Oa rfl rfl (O_end [0] (F' := [(0, _)]) rfl (W_ret ?_)))
  refine ret1 rfl rfl ?_
  exact ⟨b1, rfl, by omega, kD, c1.own ((((cA.transS cB).transS cC).transS cD)) (by intro x hx; simp at hx; omega)⟩
end Go.Wk

namespace Go.Wk
open Go.Proofs
set_option maxRecDepth 10000

theorem ckinds_some {c : Col} {x : Val} (h : fitsN c x = 0) (hk : x.k ≠ 0) (hx : x.Rng) : ∃ f g k, kget cKinds c.t = some (kind3 f g k) ∧ bodied Tryz.prog f = true ∧ ∀ w, Ret Tryz.prog f #[c.v, x.v] w fun r w' => IsBy w' r (layV c x) ∧ (∀ b ∈ blkOf r, w.heap.size ≤ b) ∧ Chg [] w w' := by
  obtain ⟨hr, hc, _, h2⟩ := fits_parts h
  obtain ⟨hkt, _⟩ := h2 hk
  obtain ⟨hf, hb⟩ := chk_ok hc
  obtain ⟨_, hbr, hm⟩ := fine_parts hf
  obtain ⟨s1, s2, s3, s4⟩ := right_size hr
  unfold layV
  rcases s4 with e | e | e | e <;> simp only [e, ↓reduceIte, Int.reduceEq]
  · exact ⟨_, _, _, rfl, bd161, fun w => c_lay1 c x w hx (s1 (.inl e))⟩
  · exact ⟨_, _, _, rfl, bd167, fun w => c_lay3 c x w hx (s1 (.inr e))⟩
  · exact ⟨_, _, _, rfl, bd169, fun w => c_lay5 c x w (hm (by omega))⟩
  · exact ⟨_, _, _, rfl, bd173, fun w => c_lay8 c x w (by omega)⟩
theorem encR_snoc : ∀ {cs : List Col} {xs : List Val} {j : Nat} {c : Col} {x : Val}, cs[j]? = some c → xs[j]? = some x → encR (cs.take (j + 1)) (xs.take (j + 1)) = encR (cs.take j) (xs.take j) ++ encV c x
  | [], _, _, _, _, h, _ => by simp at h
  | _ :: _, [], _, _, _, _, h => by simp at h
  | c :: cs, x :: xs, 0, c', x', hc, hx => by simp at hc hx; subst hc hx; simp [encR]
  | c :: cs, x :: xs, j + 1, c', x', hc, hx => by
    simp only [List.take_succ_cons, encR]
    rw [encR_snoc (by simpa using hc) (by simpa using hx), List.append_assoc]
theorem fitsL_take : ∀ {cs : List Col} {xs : List Val}, fitsL cs xs = 0 → ∀ j, fitsL (cs.take j) (xs.take j) = 0
  | [], _, _, j => by simp [fitsL]
  | _ :: _, [], _, j => by simp [fitsL]
  | c :: cs, x :: xs, h, 0 => by simp [fitsL]
  | c :: cs, x :: xs, h, j + 1 => by
    unfold fitsL at h
    by_cases h1 : fitsN c x = 0
    · rw [if_neg (by simp [h1])] at h
      simp only [List.take_succ_cons, fitsL, h1, fitsL_take h j]
      rfl
    · rw [if_pos h1] at h; exact absurd h h1
theorem c_Encode (c k u v : Value) (s : Sch) (l : List Val) (w : World) (hE : EOk w) (hs : IsSch w c k u s) (hm : s.Sm) (hl : IsVals w v l) (hg : ∀ x ∈ l, x.Rng) (hn : l.length ≤ 1048576) :
    Ret Tryz.prog 84 #[.agg #[c, k, u], v] w fun r w' => ∃ o, r = .tuple #[o, .int .i64 (rowN s l)] ∧ IsBy w' o (if rowN s l = 0 then encR s.cols l else []) ∧ (∀ b ∈ blkOf o, w.heap.size ≤ b) ∧ Chg [] w w' := by
  obtain ⟨pv, cv, rfl, hcv⟩ := Arr.val hl
  refine Ret.of_W (args := [_, _]) Tryz.func84 rfl rfl rfl rfl ?_

  refine Sr ?_
  refine O_go (gn rfl) (st_box rfl rfl rfl ?_)
  intro b2 w2 e2 n2 c2 k2
  refine Oa rfl rfl (Oa rfl rfl (O_end [1, 2] (F' := [(1, _), (2, _)]) rfl (W_seq (Sr ?_))))
  refine Og (vl_loadAgg ag30 sz30 rfl rfl (Cells.of_blk0 k2)) rfl ?_
  refine Om rfl rfl ?_
  refine O_go (gn rfl) (st_call bd80 rfl rfl rfl rfl (s_Row c k u _ s l _ (hE.chg0 c2) (hs.chg0 c2) hm (Arr.chg0 hl c2) hg hn) ?_)
  rintro v13 w13 ⟨rfl, c13⟩
  refine Oa rfl rfl (O_end [1, 2, 6] (F' := [(1, _), (2, _), (6, _)]) rfl (W_seq ?_))
  by_cases hr : rowN s l = 0
  · refine W_region (Om rfl rfl ?_)
    refine Og (vl_is (b' := false) (vl_ine rfl rfl) (by simp [hr])) rfl ?_
    refine O_end [1, 2, 6, 15] (F' := [(1, _), (2, _), (6, _), (15, _)]) rfl (W_cond_false rfl (W_skipE ?_))
    obtain ⟨hrs, hlen, hfit⟩ := rowN_ok hr
    refine Sr (Oa rfl rfl (O_end [1, 2, 7] (F' := [(1, _), (2, _), (7, _)]) rfl (W_seq (W_seq ?_))))
    have hcA := c2.trans c13
    have k2 := k2.chg0 c13
    refine W_region (Om rfl rfl (Og (vl_len sl48 rfl) rfl (Om rfl rfl (O_end [2, 7, 17, 18, 19] (F' := [(2, _), (7, _), (17, _), (18, _), (19, _)]) rfl (W_block ?_)))))
    refine W_loop [2, 7, 17, 18, 19] (fun m F wx => ∃ (j : Nat) (u : Value), m = l.length - j ∧ j ≤ l.length ∧ F = [(2, .pointer (some ⟨b2, 0, none⟩)), (7, u), (17, .slice pv l.length cv), (18, .int .i64 l.length), (19, .int .i64 j)] ∧ IsBy wx u (encR (s.cols.take j) (l.take j)) ∧ (∀ b ∈ blkOf u, w13.heap.size ≤ b) ∧ Chg [] w13 wx) (m := l.length - 0) ⟨0, _, rfl, Nat.zero_le _, rfl, IsSl.nil _ _ _, by simp [blkOf], Chg.refl _ _⟩ ?_
    rintro m F wx ⟨j, u', rfl, hj, rfl, hu, hfu, hcx⟩
    refine Sr (Og (vl_lss rfl rfl) rfl (O_end [2, 7, 17, 18, 19, 20] (F' := [(2, _), (7, _), (17, _), (18, _), (19, _), (20, _)]) rfl (W_seq ?_)))
    refine W_cond rfl (fun hT => ?_) (fun hF => ?_)
    · refine W_skipE ?_
      have hlt : j < l.length := by have := of_decide_eq_true hT; omega
      have hx : l[j]? = some l[j] := by simp [hlt]
      have hy : s.cols[j]? = some (s.cols[j]'(by omega)) := by simp [hlt, ← hlen]
      generalize l[j] = x at hx
      generalize s.cols[j]'(by omega) = y at hy
      have hxr := hg x (List.mem_of_getElem? hx)
      have hfy := fitsL_at hfit hy hx
      have hel := encV_len hfy
      have hkl := encR_len (fitsL_take hfit j)
      have h8 := (right_parts hrs).1
      rw [List.length_take, Nat.min_eq_left (by omega)] at hkl
      obtain ⟨b, off, cap, hv, hcell⟩ := Arr.at cs_len (Arr.chg0 hl (hcA.trans hcx)) hx
      cases hv
      have k2 := k2.chg0 hcx
      refine W_seq (W_block (Sr (Om rfl rfl ?_)))
      refine Og (vl_indexAddr sl48 sz40 rfl rfl _ rfl hlt) rfl ?_
      refine Og (vl_loadAgg ag40 sz40 rfl rfl hcell) rfl ?_
      refine O_go (gn rfl) (st_alloc zr40 rfl rfl ?_)
      intro b9 w9 e9 n9 c9 k9
      refine Oa rfl rfl ?_
      refine O_go (gn rfl) (st_store sz40 rfl rfl rfl rfl k9 (by simp [Val.cs]) (Val.one x) ?_)
      intro wA nA cA kA
      refine O_end [2, 7, 8, 9, 17, 18, 19] (F' := [(2, _), (7, _), (8, _), (9, _), (17, _), (18, _), (19, _)]) rfl ?_
      have kA : Blk wA b9 40 x.cs := kA
      have hcB : Chg [] wx wA := c9.own cA (by intro y hy; simp at hy; omega)
      obtain ⟨bc, offc, capc, hvc, hcellc⟩ := Arr.at ccs_len (Arr.chg0 hs.cols ((hcA.trans hcx).trans hcB)) hy
      subst hvc
      have k2 := k2.chg0 hcB
      have huB := IsSl.chg0 hu hcB
      refine W_seq (W_seq ?_)
      by_cases hk : x.k = 0
      · refine W_region (Og (vl_fieldAddr fo40_0 rfl) rfl ?_)
        refine Og (vl_load ag37 rfl (kA.cell' rfl)) rfl ?_
        refine Og (vl_is (b' := true) (vl_ieq rfl rfl) (by simp [hk])) rfl ?_
        refine O_end [2, 7, 8, 9, 17, 18, 19, 26] (F' := [(2, _), (7, _), (8, _), (9, _), (17, _), (18, _), (19, _), (26, _)]) rfl (W_cond_true rfl (W_seq ?_))
        have hkl2 : (encV y x).length = 1 := by simp [encV, hk]
        refine W_region (Om rfl rfl ?_)
        refine O_go (gn rfl) (st_buildSlice ap132 rfl (vs := [_]) rfl (css := [_]) ⟨rfl, trivial⟩ rfl rfl (cs := [_]) rfl rfl ?_)
        intro b28 w28 e28 n28 c28 k28
        refine O_go (gn rfl) (st_append ap132 sl132 rfl rfl (IsSl.chg0 huB c28) (IsSl.of_blk (n := 1) (c := bv [0]) k28 rfl (by simp [maxLen]) (bv_one _)) (by simp only [maxLen]; omega) (by omega) rfl ?_)
        intro v29 w29 i29 c29 o29 z29
        refine Oa rfl rfl (O_end [2, 7, 17, 18, 19] (F' := [(2, _), (7, _), (17, _), (18, _), (19, _)]) rfl ?_)
        have hcz : Chg (blkOf u') wA w29 := (((Chg.refl (blkOf u') wA).trans c28).transS c29)
        have hwz := (hcx.trans hcB).own hcz hfu
        have hs1 := hcx.size
        have hs2 := hcB.size
        have hs3 : wA.heap.size ≤ w28.heap.size := c28.size
        refine W_exit ?_
        repeat (first | refine then_exit ?_ | refine blockF_other rfl ?_)
        refine blockF_exit _ ?_
        refine W_region ?_
        refine Og (vl_add rfl rfl (by omega)) rfl ?_
        refine Om rfl rfl ?_
        refine O_endN [2, 7, 17, 18, 19] (F' := [(2, _), (7, _), (17, _), (18, _), (19, _)]) rfl ?_
        refine ⟨l.length - (j + 1), by omega, j + 1, v29, rfl, by omega, rfl, ?_, fresh_of o29 hfu (by omega), hwz⟩
        rw [encR_snoc hy hx, show encV y x = [0] by simp [encV, hk]]
        refine IsBy.push i29 ?_ ?_
        · rfl
        · rfl
      · refine W_region (Og (vl_fieldAddr fo40_0 rfl) rfl ?_)
        refine Og (vl_load ag37 rfl (kA.cell' rfl)) rfl ?_
        refine Og (vl_is (b' := false) (vl_ieq rfl rfl) (by simp [hk])) rfl ?_
        refine O_end [2, 7, 8, 9, 17, 18, 19, 26] (F' := [(2, _), (7, _), (8, _), (9, _), (17, _), (18, _), (19, _), (26, _)]) rfl (W_cond_false rfl (W_skipE ?_))
        obtain ⟨f, g, q, hgk, hbf, hlay⟩ := ckinds_some hfy hk hxr
        have hkl2 : (encV y x).length = (layV y x).length + 1 := by simp [encV, hk]
        refine Sr (Og (vl_fieldAddr fo30_0 rfl) rfl ?_)
        refine Og (vl_load ag26 rfl (k2.cell' rfl)) rfl ?_
        refine Om rfl rfl ?_
        refine Og (vl_indexAddr sl26 sz25 rfl rfl _ rfl (show j < s.cols.length by omega)) rfl ?_
        refine Og (vl_loadAgg ag25 sz25 rfl rfl hcellc) rfl ?_
        refine O_go (gn rfl) (st_alloc zr25 rfl rfl ?_)
        intro b10 w10 e10 n10 c10 k10
        refine O_go (gn rfl) (st_store sz25 rfl rfl rfl rfl k10 (by simp [Col.cs]) (Col.one y) ?_)
        intro wB nB cB kB
        refine O_end [2, 7, 9, 10, 17, 18, 19] (F' := [(2, _), (7, _), (9, _), (10, _), (17, _), (18, _), (19, _)]) rfl ?_
        have kB : Blk wB b10 25 y.cs := kB
        have hcC : Chg [] wA wB := c10.own cB (by intro y hy; simp at hy; omega)
        have kA := kA.chg0 hcC
        have huC := IsSl.chg0 huB hcC
        have hd : Chg (blkOf u') wB wB.drew := Chg.drew _ _
        have hbu : b9 ∉ blkOf u' := fun hm => IsSl.apart huC kA rfl b9 hm (by simp)
        have hbv : b10 ∉ blkOf u' := fun hm => IsSl.apart huC kB rfl b10 hm (by simp)
        refine W_draw (fun wz => Chg (blkOf u') wB wz) mix (by kernel_rfl) hd ?_
        refine Tm rfl rfl ?_
        refine t_st rfl (gn rfl) (st_buildSlice ap132 rfl (vs := [_]) rfl (css := [_]) ⟨rfl, trivial⟩ rfl rfl (cs := [_]) rfl rfl ?_)
        intro b36 w36 e36 n36 c36 k36
        refine ⟨.inl (hd.trans c36), ?_⟩
        refine t_st rfl (gn rfl) (st_append ap132 sl132 rfl rfl (IsSl.chg0 huC ((Chg.drew [] _).trans c36)) (IsSl.of_blk (n := 1) (c := bv [1]) k36 rfl (by simp [maxLen]) (bv_one _)) (by simp only [maxLen]; omega) (by omega) rfl ?_)
        intro v37 w37 i37 c37 o37 z37
        refine ⟨.inl ((hd.trans c36).transS c37), ?_⟩
        refine t_st rfl (gn rfl) (st_call bd133 rfl rfl rfl rfl (c_kinds _) ?_)
        rintro v38 w38 ⟨b38, rfl, h38, k38, c38⟩
        refine ⟨.inl (((hd.trans c36).transS c37).trans c38), ?_⟩
        refine t_pure rfl (gn rfl) (fun _ => vl_fieldAddr fo25_1 rfl) rfl rfl ?_
        refine t_read rfl (gn rfl) (fun wz hz => vl_load ag23 rfl ((kB.chg hz hbv).cell' rfl)) rfl rfl ?_
        refine t_st rfl (gn rfl) (St.vl (vl_lookK1v (κ := intK .i64) mp221 (itOf_und it23_i64) zr220 rfl rfl k38 hgk rfl) rfl rfl ?_)
        refine ⟨.inl (((hd.trans c36).transS c37).trans c38), ?_⟩
        refine t_pure rfl (gn rfl) (fun _ => vl_field1 fp220_0 rfl rfl) rfl rfl ?_
        refine t_read rfl (gn rfl) (fun wz hz => vl_loadAgg ag25 sz25 rfl rfl (Cells.of_blk0 (kB.chg hz hbv))) rfl rfl ?_
        refine t_read rfl (gn rfl) (fun wz hz => vl_loadAgg ag40 sz40 rfl rfl (Cells.of_blk0 (kA.chg hz hbu))) rfl rfl ?_
        refine t_st rfl (gn rfl) (st_call hbf rfl rfl rfl rfl (hlay _) ?_)
        rintro v45 w45 ⟨i45, f45, c45⟩
        refine ⟨.inl ((((hd.trans c36).transS c37).trans c38).trans c45), ?_⟩
        refine t_st rfl (gn rfl) (st_append ap132 sl132 rfl rfl (IsSl.chg0 (IsSl.chg0 i37 c38) c45) i45 (by simp only [maxLen]; omega) (by omega) rfl ?_)
        intro v46 w46 i46 c46 o46 z46
        refine ⟨.inl (((((hd.trans c36).transS c37).trans c38).trans c45).trans' c46 (ownB o37 c36.size)), ?_⟩
        refine Ta rfl rfl ?_
        refine T_endN [2, 7, 17, 18, 19] (F' := [(2, _), (7, _), (17, _), (18, _), (19, _)]) rfl ?_
        refine block_normal ?_
        have hcz : Chg (blkOf u') wB w46 := ((((hd.trans c36).transS c37).trans c38).trans c45).trans' c46 (ownB o37 c36.size)
        have hwz := ((hcx.trans hcB).trans hcC).own hcz hfu
        have hs1 := hcx.size
        have hs2 := hcB.size
        have hs0 := hcC.size
        have hs3 : wB.heap.size ≤ w36.heap.size := c36.size
        have hs4 := c37.size
        have hs5 := c38.size
        have hs6 := c45.size
        refine W_region ?_
        refine Og (vl_add rfl rfl (by omega)) rfl ?_
        refine Om rfl rfl ?_
        refine O_endN [2, 7, 17, 18, 19] (F' := [(2, _), (7, _), (17, _), (18, _), (19, _)]) rfl ?_
        refine ⟨l.length - (j + 1), by omega, j + 1, v46, rfl, by omega, rfl, ?_, fresh_of o46 (fresh_of o37 hfu (by omega)) (by omega), hwz⟩
        rw [encR_snoc hy hx, show encV y x = 1 :: layV y x by simp [encV, hk], List.append_cons]
        refine IsBy.push i46 ?_ ?_
        · rw [List.length_append]; rfl
        · rw [bv_append]
    · refine W_exit ?_
      repeat (first | refine then_exit ?_ | refine blockF_other rfl ?_)
      refine blockF_exit _ ?_
      have he : l.length ≤ j := by have := of_decide_eq_false hF; omega
      rw [List.take_of_length_le he, List.take_of_length_le (by omega)] at hu
      refine Sr (Om rfl rfl (Oa rfl rfl (Oa rfl rfl (O_end [4, 5] (F' := [(4, _), (5, _)]) rfl (W_ret ?_)))))
      repeat (first | refine then_ret ?_ | refine block_ret ?_)
      refine ret2 rfl rfl rfl ?_
      have hs1 := hcA.size
      rw [hr, if_pos rfl]
      exact ⟨_, rfl, hu, fun b hb => Nat.le_trans hs1 (hfu b hb), hcA.trans hcx⟩
  · refine W_region (Om rfl rfl ?_)
    refine Og (vl_is (b' := true) (vl_ine rfl rfl) (by simp [hr])) rfl ?_
    refine O_end [1, 2, 6, 15] (F' := [(1, _), (2, _), (6, _), (15, _)]) rfl (W_cond_true rfl (Sr (Om rfl rfl (Oa rfl rfl (Oa rfl rfl (O_end [4, 5] (F' := [(4, _), (5, _)]) rfl (W_ret ?_)))))))
    repeat (first | refine then_ret ?_ | refine block_ret ?_)
    refine ret2 rfl rfl rfl ?_
    rw [if_neg hr]
    exact ⟨_, rfl, IsSl.nil _ _ _, by simp [blkOf], c2.trans c13⟩
end Go.Wk

namespace Go.Wk
open Go.Proofs
set_option maxRecDepth 10000

theorem c_must (w : World) : Ret Tryz.prog 171 #[.bool true] w fun r w' => r = .tuple #[] ∧ w' = w := by
  refine Ret.of_W (args := [_]) Tryz.func171 rfl rfl rfl rfl ?_

  refine Sr (Om rfl rfl (Og (vl_not rfl) rfl (O_end [3] (F' := [(3, _)]) rfl (W_cond_false rfl (W_skip ?_)))))
  refine end0 rfl ?_
  exact ⟨rfl, rfl⟩
theorem RdSl.apart {w : World} {e k : Nat} {v : Value} {len : Nat} {xs : List Value} (h : RdSl w e k v len xs) {b : Nat} {e' : TypeId} {c : List Value} (hb : Blk w b e' c) (hne : Nat.beq e e' = false) : ∀ x ∈ blkOf v, x ∉ [b] := by
  rcases h with ⟨rfl, _⟩ | ⟨b', off, cap, c', fr, rfl, h, _⟩
  · simp [blkOf]
  · intro x hx hm
    simp [blkOf] at hx
    simp at hm
    subst hx hm
    unfold Blk at hb
    rw [h] at hb
    cases hb
    simp at hne
/-- A tape: what is still to be read. -/
def IsTape (w : World) (t : Value) (l : List UInt8) (b : Nat) : Prop := t = .pointer (some ⟨b, 0, none⟩) ∧ ∃ v, Blk w b 237 [v] ∧ RdSl w 5 1 v l.length (bv l) ∧ b ∉ blkOf v
theorem IsTape.chg0 {w w' : World} {t : Value} {l : List UInt8} {b : Nat} (h : IsTape w t l b) (hc : Chg [] w w') : IsTape w' t l b :=
  let ⟨h1, v, h2, h3, h4⟩ := h; ⟨h1, v, h2.chg0 hc, h3.chg0 hc, h4⟩
theorem IsTape.lt {w : World} {t : Value} {l : List UInt8} {b : Nat} (h : IsTape w t l b) : b < w.heap.size :=
  let ⟨_, _, h2, _⟩ := h; h2.lt
theorem IsTape.chg {w w' : World} {t : Value} {l : List UInt8} {b : Nat} {S : List Nat} (h : IsTape w t l b) (hc : Chg S w w') (hS : ∀ y ∈ S, y ≠ b ∧ ∃ e c, Blk w y e c ∧ Nat.beq 5 e = false) : IsTape w' t l b := by
  obtain ⟨h1, v, h2, h3, h4⟩ := h
  refine ⟨h1, v, h2.chg hc (fun hm => (hS b hm).1 rfl), h3.chg hc (fun y hy hm => ?_), h4⟩
  obtain ⟨_, e, c, hb, hne⟩ := hS y hm
  exact h3.apart hb hne y hy (by simp)
theorem rd_take {w : World} {p : Option Addr} {n cap : Nat} {l m : List UInt8} {z : Nat} (h : RdSl w 5 1 (.slice p n cap) (l ++ m).length (bv (l ++ m))) (hz : l.length = z) (hc : (l ++ m).length ≤ cap) (k : Nat) (h1 : z ≤ k) (h2 : k ≤ cap) : RdSl w 5 1 (cut p 0 z k 1) l.length (bv l) := by
  obtain ⟨p', c', he, _⟩ := h.val
  cases he
  subst hz
  have := h.cut (l := 0) (h := l.length) (m := k) (by omega) h1 h2 (by simp)
  rw [bv_append] at this
  simpa [bv_len] using this
theorem rd_drop {w : World} {p : Option Addr} {n cap : Nat} {l m : List UInt8} {z : Nat} (h : RdSl w 5 1 (.slice p n cap) (l ++ m).length (bv (l ++ m))) (hz : l.length = z) (hc : (l ++ m).length ≤ cap) : RdSl w 5 1 (cut p z n cap 1) m.length (bv m) := by
  obtain ⟨p', c', he, _⟩ := h.val
  cases he
  subst hz
  have := h.cut (l := l.length) (h := (l ++ m).length) (m := cap) (by simp) hc (Nat.le_refl _) (by simp)
  rw [bv_append] at this
  simp only [Nat.mul_one, List.length_append, Nat.add_sub_cancel_left] at this
  rw [List.drop_left' (bv_len _), List.take_of_length_le (by rw [bv_len]; omega)] at this
  simpa using this
theorem c_some (v : Value) (l m : List UInt8) (w : World) (z : Nat) (hz : l.length = z) (hv : RdSl w 5 1 v (l ++ m).length (bv (l ++ m))) : Ret Tryz.prog 231 #[v, .int .i64 z] w fun r w' => RdSl w' 5 1 r l.length (bv l) ∧ (∀ x ∈ blkOf r, x ∈ blkOf v) ∧ w' = w := by
  obtain ⟨p, cap, rfl, hcap⟩ := hv.val
  have hzl : z ≤ (l ++ m).length := by rw [List.length_append]; omega
  refine Ret.of_W (args := [_, _]) Tryz.func231 rfl rfl rfl rfl ?_

  refine Sr (Oa rfl rfl (O_end [0, 1] (F' := [(0, _), (1, _)]) rfl (Sr (Om rfl rfl (Om rfl rfl (Og (vl_len sl235 rfl) rfl ?_))))))
  refine Og (vl_is (b' := true) (vl_leq rfl rfl) (decide_eq_true (by omega))) rfl ?_
  refine O_go (gn rfl) (st_call bd171 rfl rfl rfl rfl (c_must _) ?_)
  rintro v9 w9 ⟨rfl, rfl⟩
  refine O_end [0, 1] (F' := [(0, _), (1, _)]) rfl (Sr (Om rfl rfl (Om rfl rfl (Om rfl rfl ?_))))
  refine Og (vl_cut_hm sl235 sz5 rfl rfl rfl _ _ rfl rfl (Nat.le_refl _) (by omega)) rfl ?_
  refine Oa rfl rfl (O_end [4] (F' := [(4, _)]) rfl (W_ret ?_))
  refine ret1 rfl rfl ?_
  exact ⟨rd_take hv hz hcap _ (Nat.le_refl _) (by omega), IsSl.cutBlk, rfl⟩
theorem c_take (t : Value) (b : Nat) (l m : List UInt8) (w : World) (z : Nat) (hz : l.length = z) (ht : IsTape w t (l ++ m) b) : Ret Tryz.prog 165 #[t, .int .i64 z] w fun r w' => RdSl w' 5 1 r l.length (bv l) ∧ IsTape w' t m b ∧ Chg [b] w w' := by
  obtain ⟨rfl, v, hb, hv, hbv⟩ := ht
  obtain ⟨p, cap, rfl, hcap⟩ := id hv.val
  have hzl : z ≤ (l ++ m).length := by rw [List.length_append]; omega
  refine Ret.of_W (args := [_, _]) Tryz.func165 rfl rfl rfl rfl ?_

  refine Sr (Oa rfl rfl (O_end [0, 1] (F' := [(0, _), (1, _)]) rfl (Sr (Om rfl rfl (Og (vl_nilCheck rfl) rfl (Og (vl_fieldAddr fo237_0 rfl) rfl ?_))))))
  refine Og (vl_load ag235 rfl (hb.cell' rfl)) rfl ?_
  refine Om rfl rfl ?_
  refine O_go (gn rfl) (st_call bd231 rfl rfl rfl rfl (c_some _ l m _ z hz hv) ?_)
  rintro v11 w11 ⟨i11, q11, rfl⟩
  refine Oa rfl rfl (O_end [0, 1, 5] (F' := [(0, _), (1, _), (5, _)]) rfl (Sr (Om rfl rfl (Om rfl rfl (Og (vl_nilCheck rfl) rfl (Og (vl_fieldAddr fo237_0 rfl) rfl ?_))))))
  refine Og (vl_load ag235 rfl (hb.cell' rfl)) rfl ?_
  refine Om rfl rfl ?_
  refine Og (vl_cut_l sl235 sz5 rfl rfl _ rfl (by omega)) rfl ?_
  refine Og (vl_nilCheck rfl) rfl (Og (vl_fieldAddr fo237_0 rfl) rfl ?_)
  refine O_go (gn rfl) (st_store sz235 rfl rfl rfl rfl hb (by simp) (by intro u hu; rcases List.mem_cons.1 hu with rfl | hu; rfl; cases hu) ?_)
  intro wA nA cA kA
  refine O_end [5] (F' := [(5, _)]) rfl (Sr (Om rfl rfl (Oa rfl rfl (O_end [4] (F' := [(4, _)]) rfl (W_ret ?_)))))
  refine ret1 rfl rfl ?_
  have hbA : ∀ x ∈ blkOf (cut p z (l ++ m).length cap 1), x ∉ [b] := fun x hx hm => hbv (by rw [← List.mem_singleton.1 hm]; exact IsSl.cutBlk x hx)
  exact ⟨i11.chg cA (fun x hx hm => hbv (by rw [← List.mem_singleton.1 hm]; exact q11 x hx)), ⟨rfl, _, kA, (rd_drop hv hz hcap).chg cA hbA, fun hm => hbA b hm (by simp)⟩, cA⟩
/-- A read value, in its cells. -/
theorem c_read2 (c : Col) (x : Int) (t : Value) (b : Nat) (m : List UInt8) (w : World) (hz : c.s = 1 ∨ c.s = 2 ∨ c.s = 4 ∨ c.s = 8) (hx : leastN c.s ≤ x ∧ x ≤ -(leastN c.s + 1)) (ht : IsTape w t (be (x % 18446744073709551616).toNat c.s.toNat ++ m) b) :
    Ret Tryz.prog 163 #[c.v, t] w fun r w' => r = (Val.mk 1 x 0 e0).v ∧ IsTape w' t m b ∧ Chg [b] w w' := by
  obtain ⟨z, hz1, hz2⟩ : ∃ z : Nat, c.s = z ∧ (z = 1 ∨ z = 2 ∨ z = 4 ∨ z = 8) := ⟨c.s.toNat, by omega, by omega⟩
  rw [hz1] at ht hx
  have hib := int_back (i := x) hz2 hx
  refine Ret.of_W (args := [_, _]) Tryz.func163 rfl rfl rfl rfl ?_

  refine Sr ?_
  refine O_go (gn rfl) (st_box rfl rfl rfl ?_)
  intro b2 w2 e2 n2 c2 k2
  refine O_go (gn rfl) (st_alloc zr40 rfl rfl ?_)
  intro b4 w4 e4 n4 c4 k4
  refine O_end [1, 2, 4] (F' := [(1, _), (2, _), (4, _)]) rfl (Sr (Om rfl rfl (Og (vl_fieldAddr fo25_2 rfl) rfl ?_)))
  refine Og (vl_load ag3 rfl ((k2.chg0 c4).cell' (show _ = some (Value.int .i64 (z : Int)) by rw [← hz1]; rfl))) rfl ?_
  refine O_go (gn rfl) (st_call bd165 rfl rfl rfl rfl (c_take t b _ m _ z (be_len _ _) (ht.chg0 (c2.trans c4))) ?_)
  rintro v12 w12 ⟨i12, t12, c12⟩
  refine O_go (gn rfl) (st_call bd164 rfl rfl rfl rfl (o_ReadFixed _ _ _ i12 (by rw [be_len]; omega)) ?_)
  rintro v13 w13 ⟨rfl, rfl⟩
  refine Om rfl rfl (Oe rfl rfl rfl (Oe rfl rfl rfl (Oa rfl rfl (Oa rfl rfl (O_end [2, 4, 5] (F' := [(2, _), (4, _), (5, _)]) rfl ?_)))))
  have hbl := ht.lt
  have hs2 := c2.size
  have hs4 := c4.size
  have k2 := (k2.chg0 c4).chg c12 (by simp; omega)
  have k4 := k4.chg c12 (by simp; omega)
  refine Sr (Og (vl_fieldAddr fo25_2 rfl) rfl ?_)
  refine Og (vl_load ag3 rfl (k2.cell' (show _ = some (Value.int .i64 (z : Int)) by rw [← hz1]; rfl))) rfl ?_
  refine Og (vl_mul rfl rfl (by omega)) rfl ?_
  refine Og (vl_sub rfl rfl (by omega)) rfl ?_
  refine Oa rfl rfl (O_end [4, 5, 7] (F' := [(4, _), (5, _), (7, _)]) rfl (W_seq ?_))
  rw [rd_be]
  refine W_region (Om rfl rfl ?_)
  refine Og (vl_convn it2_i64 it38_u64 rfl rfl) rfl ?_
  refine Om rfl rfl ?_
  refine Og (vl_shl (64 - 8 * z) rfl rfl (by omega) (by simp only [IntKind.bits]; omega) rfl) rfl ?_
  refine Om rfl rfl ?_
  refine Og (vl_shr (64 - 8 * z) rfl rfl (by omega) (by simp only [IntKind.bits]; omega) hib) rfl ?_
  refine Og (vl_build pl40 zr40 rfl (vs := [_, _]) rfl (css := [_, _]) ⟨rfl, rfl, trivial⟩ rfl rfl (cs := [_, _, _, _]) rfl) rfl ?_
  refine O_go (gn rfl) (st_store sz40 rfl rfl rfl rfl k4 (by simp) (Val.one ⟨1, x, 0, e0⟩) ?_)
  intro wA nA cA kA
  refine O_end [4] (F' := [(4, _)]) rfl (W_ret ?_)
  refine retC rfl ag40 sz40 rfl rfl (Cells.of_blk0 kA) ?_
  have hcz : Chg [b] w wA := ((((Chg.refl [b] w).trans c2).trans c4).transS c12).trans' cA (by intro y hy; simp at hy; subst hy; right; omega)
  exact ⟨rfl, t12.chg cA (by intro y hy; simp at hy; subst hy; exact ⟨by omega, _, _, k4, rfl⟩), hcz⟩
theorem c_read4 (c : Col) (n : Nat) (t : Value) (b : Nat) (m : List UInt8) (w : World) (hz : c.s = 1 ∨ c.s = 2 ∨ c.s = 4 ∨ c.s = 8) (hx : (n : Int) < 2 ^ (8 * c.s.toNat)) (ht : IsTape w t (be n c.s.toNat ++ m) b) :
    Ret Tryz.prog 168 #[c.v, t] w fun r w' => r = (Val.mk 2 0 n e0).v ∧ IsTape w' t m b ∧ Chg [b] w w' := by
  obtain ⟨z, hz1, hz2⟩ : ∃ z : Nat, c.s = z ∧ (z = 1 ∨ z = 2 ∨ z = 4 ∨ z = 8) := ⟨c.s.toNat, by omega, by omega⟩
  rw [hz1] at ht hx
  have hn : n % 256 ^ z = n := by
    refine Nat.mod_eq_of_lt ?_
    rcases hz2 with rfl | rfl | rfl | rfl <;> simp only [Int.toNat_natCast, Nat.reduceMul, Nat.reducePow, Int.reducePow] at hx ⊢ <;> omega
  refine Ret.of_W (args := [_, _]) Tryz.func168 rfl rfl rfl rfl ?_

  refine Sr ?_
  refine O_go (gn rfl) (st_box rfl rfl rfl ?_)
  intro b2 w2 e2 n2 c2 k2
  refine O_go (gn rfl) (st_alloc zr40 rfl rfl ?_)
  intro b4 w4 e4 n4 c4 k4
  refine O_end [1, 2, 4] (F' := [(1, _), (2, _), (4, _)]) rfl (Sr (Om rfl rfl (Og (vl_fieldAddr fo25_2 rfl) rfl ?_)))
  refine Og (vl_load ag3 rfl ((k2.chg0 c4).cell' (show _ = some (Value.int .i64 (z : Int)) by rw [← hz1]; rfl))) rfl ?_
  refine O_go (gn rfl) (st_call bd165 rfl rfl rfl rfl (c_take t b _ m _ z (be_len _ _) (ht.chg0 (c2.trans c4))) ?_)
  rintro v11 w11 ⟨i11, t11, c11⟩
  refine O_go (gn rfl) (st_call bd164 rfl rfl rfl rfl (o_ReadFixed _ _ _ i11 (by rw [be_len]; omega)) ?_)
  rintro v12 w12 ⟨rfl, rfl⟩
  refine Om rfl rfl (Oe rfl rfl rfl (Oe rfl rfl rfl (Oa rfl rfl (Oa rfl rfl (O_end [4, 5] (F' := [(4, _), (5, _)]) rfl ?_)))))
  have hbl := ht.lt
  have hs2 := c2.size
  have hs4 := c4.size
  have k4 := k4.chg c11 (by simp; omega)
  refine W_seq ?_
  rw [rd_be, hn]
  refine W_region (Om rfl rfl ?_)
  refine Og (vl_buildH pl40 zr40 rfl (qs := [(0, _), (2, _)]) rfl (css := [_, _]) ⟨rfl, rfl, trivial⟩ (cs := [_, _, _, _]) rfl) rfl ?_
  refine O_go (gn rfl) (st_store sz40 rfl rfl rfl rfl k4 (by simp) (Val.one ⟨2, 0, n, e0⟩) ?_)
  intro wA nA cA kA
  refine O_end [4] (F' := [(4, _)]) rfl (W_ret ?_)
  refine retC rfl ag40 sz40 rfl rfl (Cells.of_blk0 kA) ?_
  have hcz : Chg [b] w wA := ((((Chg.refl [b] w).trans c2).trans c4).transS c11).trans' cA (by intro y hy; simp at hy; subst hy; right; omega)
  exact ⟨rfl, t11.chg cA (by intro y hy; simp at hy; subst hy; exact ⟨by omega, _, _, k4, rfl⟩), hcz⟩
theorem c_read6 (c : Col) (x : Int) (t : Value) (b : Nat) (m : List UInt8) (w : World) (hx : x = 0 ∨ x = 1) (ht : IsTape w t ([UInt8.ofNat x.toNat] ++ m) b) :
    Ret Tryz.prog 170 #[c.v, t] w fun r w' => r = (Val.mk 3 x 0 e0).v ∧ IsTape w' t m b ∧ Chg [b] w w' := by
  have hx1 : ((UInt8.ofNat x.toNat).toNat : Int) = x := by rcases hx with rfl | rfl <;> rfl
  refine Ret.of_W (args := [_, _]) Tryz.func170 rfl rfl rfl rfl ?_

  refine Sr ?_
  refine O_go (gn rfl) (st_box rfl rfl rfl ?_)
  intro b2 w2 e2 n2 c2 k2
  refine O_go (gn rfl) (st_alloc zr40 rfl rfl ?_)
  intro b4 w4 e4 n4 c4 k4
  refine O_end [1, 4] (F' := [(1, _), (4, _)]) rfl (Sr (Om rfl rfl ?_))
  refine O_go (gn rfl) (st_call bd165 rfl rfl rfl rfl (c_take t b _ m _ 1 rfl (ht.chg0 (c2.trans c4))) ?_)
  rintro v7 w7 ⟨i7, t7, c7⟩
  obtain ⟨bb, off, cap, rfl, hcell⟩ := i7.at1 (i := 0) (u := .int .u8 x) (by rcases hx with rfl | rfl <;> rfl)
  refine Og (vl_indexAddr sl132 sz5 rfl rfl 0 rfl (by simp)) rfl ?_
  refine Og (vl_load ag5 rfl hcell) rfl ?_
  refine Oa rfl rfl (O_end [4, 5] (F' := [(4, _), (5, _)]) rfl ?_)
  have hbl := ht.lt
  have hs2 := c2.size
  have hs4 := c4.size
  have k4 := k4.chg c7 (by simp; omega)
  refine Sr (Om rfl rfl ?_)
  refine Og (vl_is (b' := true) (vl_leq rfl rfl) (decide_eq_true (by omega))) rfl ?_
  refine O_go (gn rfl) (st_call bd171 rfl rfl rfl rfl (c_must _) ?_)
  rintro v12 w12 ⟨rfl, rfl⟩
  refine O_end [4, 5] (F' := [(4, _), (5, _)]) rfl (Sr (Om rfl rfl ?_))
  refine Og (vl_convn it2_i64 it5_u8 rfl (show IntKind.i64.wrap x = x by rcases hx with rfl | rfl <;> rfl)) rfl ?_
  refine Og (vl_build pl40 zr40 rfl (vs := [_, _]) rfl (css := [_, _]) ⟨rfl, rfl, trivial⟩ rfl rfl (cs := [_, _, _, _]) rfl) rfl ?_
  refine O_go (gn rfl) (st_store sz40 rfl rfl rfl rfl k4 (by simp) (Val.one ⟨3, x, 0, e0⟩) ?_)
  intro wA nA cA kA
  refine O_end [4] (F' := [(4, _)]) rfl (W_ret ?_)
  refine retC rfl ag40 sz40 rfl rfl (Cells.of_blk0 kA) ?_
  have hcz : Chg [b] w wA := ((((Chg.refl [b] w).trans c2).trans c4).transS c7).trans' cA (by intro y hy; simp at hy; subst hy; right; omega)
  exact ⟨rfl, t7.chg cA (by intro y hy; simp at hy; subst hy; exact ⟨by omega, _, _, k4, rfl⟩), hcz⟩
theorem c_got (t : Value) (b : Nat) (s : ByteArray) (m : List UInt8) (w : World) (hs : s.size ≤ 1048576) (hm : m.length ≤ 1048576) (ht : IsTape w t (textB s ++ m) b) :
    Ret Tryz.prog 176 #[t, .func (.func 177) #[] #[]] w fun r w' => r = .string s ∧ IsTape w' t m b ∧ Chg [b] w w' := by
  obtain ⟨rfl, v, hb, hv, hbv⟩ := id ht
  refine Ret.of_W (args := [_, _]) Tryz.func176 rfl rfl rfl rfl ?_

  refine Sr (Oa rfl rfl (O_end [0, 1] (F' := [(0, _), (1, _)]) rfl (Sr (Om rfl rfl (Om rfl rfl (Og (vl_nilCheck rfl) rfl (Og (vl_fieldAddr fo237_0 rfl) rfl ?_)))))))
  refine Og (vl_load ag235 rfl (hb.cell' rfl)) rfl ?_
  refine O_go (gn rfl) (st_call bd177 rfl rfl rfl rfl (o_ReadText v s m _ hs hm hv) ?_)
  rintro v14 w14 ⟨rfl, c14⟩
  refine Om rfl rfl (Oe rfl rfl rfl (Oe rfl rfl rfl (Oe rfl rfl rfl (Oa rfl rfl (Oa rfl rfl (Oa rfl rfl (O_end [0, 5, 6, 7] (F' := [(0, _), (5, _), (6, _), (7, _)]) rfl (Sr (Om rfl rfl ?_)))))))))
  refine Og (vl_is (b' := true) (vl_ieq rfl rfl) (decide_eq_true (by omega))) rfl ?_
  refine O_go (gn rfl) (st_call bd171 rfl rfl rfl rfl (c_must _) ?_)
  rintro v20 w20 ⟨rfl, rfl⟩
  refine O_end [0, 5, 6] (F' := [(0, _), (5, _), (6, _)]) rfl (Sr (Om rfl rfl (Om rfl rfl ?_)))
  refine O_go (gn rfl) (st_call bd165 rfl rfl rfl rfl (c_take _ b (textB s) m _ (textB s).length rfl (ht.chg0 c14)) ?_)
  rintro v23 w23 ⟨i23, t23, c23⟩
  refine O_end [5] (F' := [(5, _)]) rfl (Sr (Om rfl rfl (Oa rfl rfl (O_end [4] (F' := [(4, _)]) rfl (W_ret ?_)))))
  refine ret1 rfl rfl ?_
  exact ⟨rfl, t23, ((Chg.refl [b] w).trans c14).transS c23⟩
theorem c_read9 (c : Col) (s : ByteArray) (t : Value) (b : Nat) (m : List UInt8) (w : World) (hs : s.size ≤ 200) (hz : s.size ≤ c.s) (hm : m.length ≤ 1048576) (ht : IsTape w t (textB s ++ m) b) :
    Ret Tryz.prog 175 #[c.v, t] w fun r w' => r = (Val.mk 4 0 0 s).v ∧ IsTape w' t m b ∧ Chg [b] w w' := by
  refine Ret.of_W (args := [_, _]) Tryz.func175 rfl rfl rfl rfl ?_

  refine Sr ?_
  refine O_go (gn rfl) (st_box rfl rfl rfl ?_)
  intro b2 w2 e2 n2 c2 k2
  refine O_go (gn rfl) (st_alloc zr40 rfl rfl ?_)
  intro b4 w4 e4 n4 c4 k4
  refine O_end [1, 2, 4] (F' := [(1, _), (2, _), (4, _)]) rfl (Sr (Om rfl rfl ?_))
  refine O_go (gn rfl) (st_call bd176 rfl rfl rfl rfl (c_got t b s m _ (by omega) hm (ht.chg0 (c2.trans c4))) ?_)
  rintro v7 w7 ⟨rfl, t7, c7⟩
  refine Oa rfl rfl (O_end [2, 4, 5] (F' := [(2, _), (4, _), (5, _)]) rfl ?_)
  have hbl := ht.lt
  have hs2 := c2.size
  have hs4 := c4.size
  have k2 := (k2.chg0 c4).chg c7 (by simp; omega)
  have k4 := k4.chg c7 (by simp; omega)
  refine Sr (Om rfl rfl ?_)
  refine Og (vl_slen st9 rfl) rfl ?_
  refine Og (vl_fieldAddr fo25_2 rfl) rfl ?_
  refine Og (vl_load ag3 rfl (k2.cell' rfl)) rfl ?_
  refine Og (vl_is (b' := true) (vl_leq rfl rfl) (decide_eq_true (by omega))) rfl ?_
  refine O_go (gn rfl) (st_call bd171 rfl rfl rfl rfl (c_must _) ?_)
  rintro v13 w13 ⟨rfl, rfl⟩
  refine O_end [4, 5] (F' := [(4, _), (5, _)]) rfl (Sr (Om rfl rfl ?_))
  refine Og (vl_buildH pl40 zr40 rfl (qs := [(0, _), (3, _)]) rfl (css := [_, _]) ⟨rfl, rfl, trivial⟩ (cs := [_, _, _, _]) rfl) rfl ?_
  refine O_go (gn rfl) (st_store sz40 rfl rfl rfl rfl k4 (by simp) (Val.one ⟨4, 0, 0, s⟩) ?_)
  intro wA nA cA kA
  refine O_end [4] (F' := [(4, _)]) rfl (W_ret ?_)
  refine retC rfl ag40 sz40 rfl rfl (Cells.of_blk0 kA) ?_
  have hcz : Chg [b] w wA := ((((Chg.refl [b] w).trans c2).trans c4).transS c7).trans' cA (by intro y hy; simp at hy; subst hy; right; omega)
  exact ⟨rfl, t7.chg cA (by intro y hy; simp at hy; subst hy; exact ⟨by omega, _, _, k4, rfl⟩), hcz⟩
end Go.Wk

namespace Go.Wk
open Go.Proofs
set_option maxRecDepth 10000

theorem cread_some {c : Col} {x : Val} (h : fitsN c x = 0) (hk : x.k ≠ 0) : ∃ f g k, kget cKinds c.t = some (kind3 f g k) ∧ bodied Tryz.prog g = true ∧ ∀ w t b m, m.length ≤ 1048576 → IsTape w t (layV c x ++ m) b → Ret Tryz.prog g #[c.v, t] w fun r w' => r = x.v ∧ IsTape w' t m b ∧ Chg [b] w w' := by
  obtain ⟨hr, hc, _, h2⟩ := fits_parts h
  obtain ⟨hkt, hw⟩ := h2 hk
  obtain ⟨hf, hb⟩ := chk_ok hc
  obtain ⟨_, hbr, hm⟩ := fine_parts hf
  obtain ⟨s1, s2, s3, s4⟩ := right_size hr
  obtain ⟨k, i, u, by'⟩ := x
  unfold layV
  simp only [wideN] at hw
  simp only [bareN, Val.mk.injEq] at hbr
  rcases s4 with e | e | e | e <;> simp only [e, ↓reduceIte, Int.reduceEq] <;> simp only [e, ↓reduceIte, Int.reduceEq, decide_eq_false_iff_not] at hw hkt <;> subst hkt <;> simp at hbr <;> (try obtain ⟨h1, h2⟩ := hbr) <;> subst_vars
  · exact ⟨_, _, _, rfl, bd163, fun w t b m _ ht => c_read2 c i t b m w (s1 (.inl e)) (by omega) ht⟩
  · exact ⟨_, _, _, rfl, bd168, fun w t b m _ ht => c_read4 c u t b m w (s1 (.inr e)) (by omega) ht⟩
  · exact ⟨_, _, _, rfl, bd170, fun w t b m _ ht => c_read6 c i t b m w (hm rfl) ht⟩
  · exact ⟨_, _, _, rfl, bd175, fun w t b m hl ht => c_read9 c by' t b m w hb (by omega) hl ht⟩
theorem encR_drop {cs : List Col} {xs : List Val} {j : Nat} {c : Col} {x : Val} (hc : cs[j]? = some c) (hx : xs[j]? = some x) : encR (cs.drop j) (xs.drop j) = encV c x ++ encR (cs.drop (j + 1)) (xs.drop (j + 1)) := by
  obtain ⟨h1, rfl⟩ := List.getElem?_eq_some_iff.1 hc
  obtain ⟨h2, rfl⟩ := List.getElem?_eq_some_iff.1 hx
  rw [List.drop_eq_getElem_cons h1, List.drop_eq_getElem_cons h2]
  rfl
theorem fitsL_drop : ∀ {cs : List Col} {xs : List Val} (j : Nat), fitsL cs xs = 0 → fitsL (cs.drop j) (xs.drop j) = 0
  | _, _, 0, h => by simpa using h
  | [], _, _ + 1, _ => by simp [fitsL]
  | _ :: _, [], _ + 1, _ => by simp [fitsL]
  | c :: cs, x :: xs, j + 1, h => by
    unfold fitsL at h
    by_cases h1 : fitsN c x = 0
    · rw [if_neg (by simp [h1])] at h
      exact fitsL_drop j h
    · rw [if_pos h1] at h; exact absurd h h1
theorem IsTape.chgSl {w w' : World} {t o : Value} {l : List UInt8} {b e k n : Nat} {xs : List Value} (h : IsTape w t l b) (ho : IsSl w e k o n xs) (h1 : Nat.beq 5 e = false) (h2 : Nat.beq e 237 = false) (hc : Chg (blkOf o) w w') : IsTape w' t l b := by
  refine h.chg hc fun y hy => ?_
  obtain ⟨_, v, hb, _⟩ := h
  rcases ho with ⟨rfl, _⟩ | ⟨b', off, cap, c, rfl, hs⟩
  · simp [blkOf] at hy
  · simp [blkOf] at hy
    subst hy
    exact ⟨hs.blk.ne hb h2, _, _, hs.blk, h1⟩
theorem c_row (c k u t : Value) (s : Sch) (l : List Val) (b : Nat) (w : World) (hs : IsSch w c k u s) (hr : rowN s l = 0) (ht : IsTape w t (encR s.cols l) b) :
    Ret Tryz.prog 142 #[t, .agg #[c, k, u]] w fun r w' => IsVals w' r l ∧ (∀ y ∈ blkOf r, w.heap.size ≤ y) ∧ IsTape w' t [] b ∧ Chg [b] w w' := by
  obtain ⟨hrs, hlen, hfit⟩ := rowN_ok hr
  have h8 := (right_parts hrs).1
  have hbl := ht.lt
  obtain ⟨pc, cc, rfl, hcc⟩ := Arr.val hs.cols
  refine Ret.of_W (args := [_, _]) Tryz.func142 rfl rfl rfl rfl ?_

  refine Sr ?_
  refine O_go (gn rfl) (st_box rfl rfl rfl ?_)
  intro b3 w3 e3 n3 c3 k3
  refine Oa rfl rfl (O_end [0, 3, 4] (F' := [(0, _), (3, _), (4, _)]) rfl (W_seq (Sr (Og (vl_fieldAddr fo30_0 rfl) rfl ?_))))
  refine Og (vl_load ag26 rfl (k3.cell' rfl)) rfl ?_
  refine Og (vl_len sl26 rfl) rfl (Om rfl rfl (O_end [0, 4, 10, 11, 12] (F' := [(0, _), (4, _), (10, _), (11, _), (12, _)]) rfl (W_block ?_)))
  refine W_loop [0, 4, 10, 11, 12] (fun m F wx => ∃ (j : Nat) (o : Value), m = s.cols.length - j ∧ j ≤ s.cols.length ∧ F = [(0, t), (4, o), (10, .slice pc s.cols.length cc), (11, .int .i64 s.cols.length), (12, .int .i64 j)] ∧ IsVals wx o (l.take j) ∧ (∀ b ∈ blkOf o, w3.heap.size ≤ b) ∧ IsTape wx t (encR (s.cols.drop j) (l.drop j)) b ∧ Chg [b] w3 wx) (m := s.cols.length - 0) ⟨0, _, rfl, Nat.zero_le _, rfl, IsSl.nil _ _ _, by simp [blkOf], ht.chg0 c3, Chg.refl _ _⟩ ?_
  rintro m F wx ⟨j, o, rfl, hj, rfl, ho, hfo, htx, hcx⟩
  refine Sr (Og (vl_lss rfl rfl) rfl (O_end [0, 4, 10, 11, 12, 13] (F' := [(0, _), (4, _), (10, _), (11, _), (12, _), (13, _)]) rfl (W_seq ?_)))
  refine W_cond rfl (fun hT => ?_) (fun hF => ?_)
  · refine W_skipE ?_
    have hlt : j < s.cols.length := by have := of_decide_eq_true hT; omega
    have hx : l[j]? = some (l[j]'(by omega)) := by simp [hlt, hlen]
    have hy : s.cols[j]? = some s.cols[j] := by simp [hlt]
    generalize l[j]'(by omega) = x at hx
    generalize s.cols[j] = y at hy
    have hfy := fitsL_at hfit hy hx
    have hel := encV_len hfy
    have hrl := encR_len (fitsL_drop (j + 1) hfit)
    rw [List.length_drop] at hrl
    rw [encR_drop hy hx] at htx
    have htl : (l.take j).length = j := by rw [List.length_take]; omega
    have hcols := Arr.chg (Arr.chg0 hs.cols c3) hcx (by obtain ⟨_, v, hv, _⟩ := ht.chg0 c3; exact IsSl.apart (Arr.chg0 hs.cols c3) hv rfl)
    obtain ⟨bc, offc, capc, hvc, hcellc⟩ := Arr.at ccs_len hcols hy
    cases hvc
    refine W_seq (W_block (Sr ?_))
    refine Og (vl_indexAddr sl26 sz25 rfl rfl _ rfl hlt) rfl ?_
    refine Og (vl_loadAgg ag25 sz25 rfl rfl hcellc) rfl ?_
    refine O_go (gn rfl) (st_alloc zr25 rfl rfl ?_)
    intro b6 w6 e6 n6 c6 k6
    refine O_go (gn rfl) (st_store sz25 rfl rfl rfl rfl k6 (by simp [Col.cs]) (Col.one y) ?_)
    intro wA nA cA kA
    refine O_end [0, 4, 6, 10, 11, 12] (F' := [(0, _), (4, _), (6, _), (10, _), (11, _), (12, _)]) rfl ?_
    have kA : Blk wA b6 25 y.cs := kA
    have hcA : Chg [] wx wA := c6.own cA (by intro y hy; simp at hy; omega)
    have hbx := htx.lt
    have hob : ∀ z ∈ blkOf o, z ∉ [b] := by
      obtain ⟨_, v, hv, _⟩ := htx
      exact IsSl.apart ho hv rfl
    refine W_seq ?_
    by_cases hk : x.k = 0
    · rw [show encV y x = [0] by simp [encV, hk]] at htx
      have hyz : y.z = true := (fits_parts hfy).2.2.1 hk
      refine W_region (Om rfl rfl ?_)
      refine O_go (gn rfl) (st_call bd165 rfl rfl rfl rfl (c_take t b [0] _ _ 1 rfl (htx.chg0 hcA)) ?_)
      rintro v17 w17 ⟨i17, t17, c17⟩
      obtain ⟨bb, off, cap, rfl, hcell⟩ := i17.at1 (i := 0) (u := .int .u8 0) rfl
      refine Og (vl_indexAddr sl132 sz5 rfl rfl 0 rfl (by simp)) rfl ?_
      refine Og (vl_load ag5 rfl hcell) rfl ?_
      refine Oa rfl rfl (O_end [0, 4, 6, 7, 10, 11, 12] (F' := [(0, _), (4, _), (6, _), (7, _), (10, _), (11, _), (12, _)]) rfl ?_)
      have kA := kA.chg c17 (by simp; omega)
      refine Sr (Om rfl rfl ?_)
      refine Og (vl_is (b' := false) (vl_ieq rfl rfl) (decide_eq_false (by omega))) rfl ?_
      refine Om rfl rfl ?_
      refine Oy rfl rfl (vl_move rfl) rfl ?_
      refine Oy rfl rfl (vl_is (b' := true) (vl_ieq rfl rfl) (decide_eq_true (by omega))) rfl ?_
      refine Oy rfl rfl (vl_move rfl) rfl ?_
      refine Oy rfl rfl (vl_fieldAddr fo25_3 rfl) rfl ?_
      refine Oy rfl rfl (vl_load ag4 rfl (kA.cell' (show _ = some (Value.bool true) by rw [← hyz]; rfl))) rfl ?_
      refine Oy rfl rfl (vl_pick_t rfl rfl) rfl ?_
      refine Of rfl rfl rfl ?_
      refine O_go (gn rfl) (st_call bd171 rfl rfl rfl rfl (c_must _) ?_)
      rintro v30 w30 ⟨rfl, rfl⟩
      refine O_end [0, 4, 6, 7, 10, 11, 12] (F' := [(0, _), (4, _), (6, _), (7, _), (10, _), (11, _), (12, _)]) rfl (Sr ?_)
      refine O_go (gn rfl) (st_alloc zr40 rfl rfl ?_)
      intro b8 w8 e8 n8 c8 k8
      refine O_end [0, 4, 6, 7, 8, 10, 11, 12] (F' := [(0, _), (4, _), (6, _), (7, _), (8, _), (10, _), (11, _), (12, _)]) rfl (W_seq (Sr (Om rfl rfl ?_)))
      refine Og (vl_is (b' := false) (vl_ieq rfl rfl) (decide_eq_false (by omega))) rfl ?_
      refine O_end [0, 4, 6, 8, 10, 11, 12, 32] (F' := [(0, _), (4, _), (6, _), (8, _), (10, _), (11, _), (12, _), (32, _)]) rfl (W_cond_false rfl (W_skipE ?_))
      have ho30 : IsVals w30 o (l.take j) := Arr.chg (Arr.chg0 ho hcA) c17 hob
      have hnull : x = Val.null := by
        obtain ⟨k, i, u, by'⟩ := x
        have := (fine_parts (chk_ok (fits_parts hfy).2.1).1).2.1
        simp only at hk
        subst hk
        simpa [bareN, Val.null] using this
      subst hnull
      have k8 : Blk w8 b8 40 Val.null.cs := k8
      have hcB : Chg [b] wx w8 := ((Chg.refl [b] wx).trans hcA).transS c17 |>.trans c8
      refine W_region (Om rfl rfl ?_)
      refine Og (vl_loadAgg ag40 sz40 rfl rfl (Cells.of_blk0 k8)) rfl ?_
      refine O_go (gn rfl) (st_buildSlice ap48 rfl (vs := [_]) rfl (css := [_]) ⟨rfl, trivial⟩ rfl rfl (cs := [_, _, _, _]) rfl rfl ?_)
      intro b43 w43 e43 n43 c43 k43
      refine O_go (gn rfl) (st_append ap48 sl48 rfl rfl (Arr.chg0 (Arr.chg0 ho30 c8) c43) (IsSl.of_blk (n := 1) k43 rfl (by simp [maxLen]) (Val.one _)) (by simp only [maxLen]; omega) (by omega) rfl ?_)
      intro v44 w44 i44 c44 o44 z44
      refine Oa rfl rfl ?_
      refine O_endN [0, 4, 10, 11, 12] (F' := [(0, _), (4, _), (10, _), (11, _), (12, _)]) rfl ?_
      refine block_normal ?_
      have hs0 := hcx.size
      have hs1 := hcB.size
      have hs3 := c43.size
      have hwz := hcx.trans' ((((Chg.refl (blkOf o ++ [b]) wx).trans' hcB (by simp)).trans c43).trans' c44 (fun z hz => .inl (by simp [hz]))) (by
        intro z hz
        rcases List.mem_append.1 hz with hz | hz
        · exact .inr (hfo z hz)
        · exact .inl hz)
      refine W_region ?_
      refine Og (vl_add rfl rfl (by omega)) rfl ?_
      refine Om rfl rfl ?_
      refine O_endN [0, 4, 10, 11, 12] (F' := [(0, _), (4, _), (10, _), (11, _), (12, _)]) rfl ?_
      refine ⟨s.cols.length - (j + 1), by omega, j + 1, v44, rfl, by omega, rfl, ?_, fresh_of o44 hfo (by omega), ?_, hwz⟩
      · rw [List.take_add_one, hx]
        exact Arr.push i44 rfl rfl
      · exact ((t17.chg0 c8).chg0 c43).chgSl (IsSl.chg0 (IsSl.chg0 ho30 c8) c43) rfl rfl c44
    · rw [show encV y x = 1 :: layV y x by simp [encV, hk]] at htx
      refine W_region (Om rfl rfl ?_)
      refine O_go (gn rfl) (st_call bd165 rfl rfl rfl rfl (c_take t b [1] _ _ 1 rfl (htx.chg0 hcA)) ?_)
      rintro v17 w17 ⟨i17, t17, c17⟩
      obtain ⟨bb, off, cap, rfl, hcell⟩ := i17.at1 (i := 0) (u := .int .u8 1) rfl
      refine Og (vl_indexAddr sl132 sz5 rfl rfl 0 rfl (by simp)) rfl ?_
      refine Og (vl_load ag5 rfl hcell) rfl ?_
      refine Oa rfl rfl (O_end [0, 4, 6, 7, 10, 11, 12] (F' := [(0, _), (4, _), (6, _), (7, _), (10, _), (11, _), (12, _)]) rfl ?_)
      have kA := kA.chg c17 (by simp; omega)
      refine Sr (Om rfl rfl ?_)
      refine Og (vl_is (b' := true) (vl_ieq rfl rfl) (decide_eq_true (by omega))) rfl ?_
      refine Om rfl rfl (Oz rfl rfl rfl rfl (Oz rfl rfl rfl rfl (Oz rfl rfl rfl rfl ?_)))
      refine O_guard_un rfl rfl rfl rfl rfl ?_
      refine O_guard_un rfl rfl rfl rfl rfl ?_
      refine Oz rfl rfl rfl rfl (Ot rfl rfl rfl ?_)
      refine O_go (gn rfl) (st_call bd171 rfl rfl rfl rfl (c_must _) ?_)
      rintro v30 w30 ⟨rfl, rfl⟩
      refine O_end [0, 4, 6, 7, 10, 11, 12] (F' := [(0, _), (4, _), (6, _), (7, _), (10, _), (11, _), (12, _)]) rfl (Sr ?_)
      refine O_go (gn rfl) (st_alloc zr40 rfl rfl ?_)
      intro b8 w8 e8 n8 c8 k8
      refine O_end [0, 4, 6, 7, 8, 10, 11, 12] (F' := [(0, _), (4, _), (6, _), (7, _), (8, _), (10, _), (11, _), (12, _)]) rfl (W_seq (Sr (Om rfl rfl ?_)))
      refine Og (vl_is (b' := true) (vl_ieq rfl rfl) (decide_eq_true (by omega))) rfl ?_
      refine O_end [0, 4, 6, 8, 10, 11, 12, 32] (F' := [(0, _), (4, _), (6, _), (8, _), (10, _), (11, _), (12, _), (32, _)]) rfl (W_cond_true rfl ?_)
      obtain ⟨f, g, q, hgk, hbf, hread⟩ := cread_some hfy hk
      have hsz := (((Chg.refl [b] wx).trans hcA).transS c17).size
      have kA := kA.chg0 c8
      refine W_draw (fun wz => Chg [] w8 wz) mix (by kernel_rfl) (Chg.drew [] _) ?_
      refine t_st rfl (gn rfl) (st_call bd133 rfl rfl rfl rfl (c_kinds _) ?_)
      rintro v33 w33 ⟨b33, rfl, h33, k33, c33⟩
      refine ⟨.inl ((Chg.drew [] _).trans c33), ?_⟩
      refine t_pure rfl (gn rfl) (fun _ => vl_fieldAddr fo25_1 rfl) rfl rfl ?_
      refine t_read rfl (gn rfl) (fun wz hz => vl_load ag23 rfl ((kA.chg0 hz).cell' rfl)) rfl rfl ?_
      refine t_st rfl (gn rfl) (St.vl (vl_lookK1v (κ := intK .i64) mp221 (itOf_und it23_i64) zr220 rfl rfl k33 hgk rfl) rfl rfl ?_)
      refine ⟨.inl ((Chg.drew [] _).trans c33), ?_⟩
      refine t_pure rfl (gn rfl) (fun _ => vl_field1 fp220_1 rfl rfl) rfl rfl ?_
      refine t_read rfl (gn rfl) (fun wz hz => vl_loadAgg ag25 sz25 rfl rfl (Cells.of_blk0 (kA.chg0 hz))) rfl rfl ?_
      refine Tm rfl rfl ?_
      refine t_st rfl (gn rfl) (st_call hbf rfl rfl rfl rfl (hread _ t b _ (by omega) (t17.chg0 ((c8.trans (Chg.drew [] _)).trans c33))) ?_)
      rintro v40 w40 ⟨rfl, t40, c40⟩
      refine ⟨.inr (by kernel_rfl), ?_⟩
      refine t_st rfl (gn rfl) (st_store sz40 rfl rfl rfl rfl (((k8.chg0 (Chg.drew [] _)).chg0 c33).chg c40 (by simp; omega)) (by simp [Val.cs]) (Val.one x) ?_)
      intro wB nB cB kB
      refine ⟨.inr (by kernel_rfl), ?_⟩
      refine T_end [0, 4, 8, 10, 11, 12] (F' := [(0, _), (4, _), (8, _), (10, _), (11, _), (12, _)]) rfl ?_
      have kB : Blk wB b8 40 x.cs := kB
      have hcB : Chg [b] wx w8 := ((Chg.refl [b] wx).trans hcA).transS c17 |>.trans c8
      have hs0 := hcx.size
      have hs1 := hcB.size
      have hs2 := c33.size
      have hs3 := c40.size
      have hcD : Chg [b] wx wB := (((hcB.trans (Chg.drew [] _)).trans c33).transS c40).trans' cB (by intro z hz; simp at hz; subst hz; right; omega)
      have hoB : IsVals wB o (l.take j) := Arr.chg ho hcD hob
      refine W_region (Om rfl rfl ?_)
      refine Og (vl_loadAgg ag40 sz40 rfl rfl (Cells.of_blk0 kB)) rfl ?_
      refine O_go (gn rfl) (st_buildSlice ap48 rfl (vs := [_]) rfl (css := [_]) ⟨rfl, trivial⟩ rfl rfl (cs := [_, _, _, _]) rfl rfl ?_)
      intro b43 w43 e43 n43 c43 k43
      refine O_go (gn rfl) (st_append ap48 sl48 rfl rfl (Arr.chg0 hoB c43) (IsSl.of_blk (n := 1) k43 rfl (by simp [maxLen]) (Val.one _)) (by simp only [maxLen]; omega) (by omega) rfl ?_)
      intro v44 w44 i44 c44 o44 z44
      refine Oa rfl rfl ?_
      refine O_endN [0, 4, 10, 11, 12] (F' := [(0, _), (4, _), (10, _), (11, _), (12, _)]) rfl ?_
      refine block_normal ?_
      have hs4 := c43.size
      have hs5 := hcD.size
      have hwz := hcx.trans' ((((Chg.refl (blkOf o ++ [b]) wx).trans' hcD (by simp)).trans c43).trans' c44 (fun z hz => .inl (by simp [hz]))) (by
        intro z hz
        rcases List.mem_append.1 hz with hz | hz
        · exact .inr (hfo z hz)
        · exact .inl hz)
      refine W_region ?_
      refine Og (vl_add rfl rfl (by omega)) rfl ?_
      refine Om rfl rfl ?_
      refine O_endN [0, 4, 10, 11, 12] (F' := [(0, _), (4, _), (10, _), (11, _), (12, _)]) rfl ?_
      refine ⟨s.cols.length - (j + 1), by omega, j + 1, v44, rfl, by omega, rfl, ?_, fresh_of o44 hfo (by omega), ?_, hwz⟩
      · rw [List.take_add_one, hx]
        exact Arr.push i44 rfl rfl
      · have tB : IsTape wB t _ b := t40.chg cB (by intro z hz; simp at hz; subst hz; exact ⟨by omega, _, _, (((k8.chg0 (Chg.drew [] _)).chg0 c33).chg c40 (by simp; omega)), rfl⟩)
        exact (tB.chg0 c43).chgSl (IsSl.chg0 hoB c43) rfl rfl c44
  · refine W_exit ?_
    repeat (first | refine then_exit ?_ | refine blockF_other rfl ?_)
    refine blockF_exit _ ?_
    have he : s.cols.length ≤ j := by have := of_decide_eq_false hF; omega
    rw [List.take_of_length_le (by omega)] at ho
    rw [List.drop_eq_nil_of_le he] at htx
    refine Sr (Om rfl rfl (Oa rfl rfl (O_end [4] (F' := [(4, _)]) rfl (W_ret ?_))))
    refine ret1 rfl rfl ?_
    have hs1 := c3.size
    exact ⟨ho, fun b hb => Nat.le_trans hs1 (hfo b hb), htx, ((Chg.refl [b] w).trans c3).transS hcx⟩
end Go.Wk

namespace Go.Wk
open Go.Proofs
set_option maxRecDepth 10000

theorem c_caught (x y : Value) (w : World) : CallsD Tryz.prog 140 #[x, y] .returning w fun e u' w' => (∃ v, e = .returned v) ∧ u' = .returning ∧ w' = w := by
  have hnn : ∀ w, (Op.equal 20 .nilIface .nilIface).run Tryz.prog w = .ok true w := fun w => by
    obtain ⟨ms, hu⟩ := inOf_und in20
    exact run_equal fun d => by simp [Op.equalIn, run_underlying hu]
  have hrs : Tryz.f140.results = #[] := rfl
  refine callsD_of_wpS Tryz.func140 rfl fun c₀ cs hu => ?_
  apply wpS_seq
  apply wpS_region
  simp [wpOpsS, go_sem, recoverD, hu, Exit.thenS]
  apply wpS_seq
  apply wpS_region
  simp [wpOpsS, go_sem, recoverD, hu, Exit.thenS, binOp, eqGuard, hnn]
  refine wpS_cond (t := false) (by simp [Act.eval, Array.replicate]) ?_
  simp only [Bool.false_eq_true, if_false]
  refine wpS_of_wp (wp_skip ?_)
  cases c₀
  simp_all [bodyPostS, results]
theorem c_read (c k u v : Value) (s : Sch) (l : List Val) (w : World) (hs : IsSch w c k u s) (hr : rowN s l = 0) (hv : RdSl w 5 1 v (encR s.cols l).length (bv (encR s.cols l))) :
    Ret Tryz.prog 98 #[.agg #[c, k, u], v] w fun r w' => ∃ o, r = .tuple #[o, .int .i64 (encR s.cols l).length, .int .i64 0] ∧ IsVals w' o l ∧ (∀ y ∈ blkOf o, w.heap.size ≤ y) ∧ Chg [] w w' := by
  obtain ⟨pv, cv, rfl, hcv⟩ := hv.val
  obtain ⟨hrs, hlen, hfit⟩ := rowN_ok hr
  have h8 := (right_parts hrs).1
  have hel := encR_len hfit
  refine Ret.of_WD (args := [_, _]) Tryz.func98 rfl rfl rfl rfl ?_

  refine Sr ?_
  refine O_go (gn rfl) (st_box rfl rfl rfl ?_)
  intro b2 w2 e2 n2 c2 k2
  refine O_go (gn rfl) (st_alloc zr48 rfl rfl ?_)
  intro b4 w4 e4 n4 c4 k4
  refine O_go (gn rfl) (st_alloc zr3 rfl rfl ?_)
  intro b5 w5 e5 n5 c5 k5
  refine O_go (gn rfl) (st_alloc zr32 rfl rfl ?_)
  intro b6 w6 e6 n6 c6 k6
  refine O_end [1, 2, 4, 5, 6] (F' := [(1, _), (2, _), (4, _), (5, _), (6, _)]) rfl (Sr ?_)
  refine Og (vl_func rfl rfl) rfl ?_
  refine O_defer rfl rfl ?_
  refine O_end [1, 2, 4, 5, 6] (F' := [(1, _), (2, _), (4, _), (5, _), (6, _), (1000001, _)]) rfl (Sr (Om rfl rfl ?_))
  refine Og (vl_build pl237 zr237 rfl (vs := [_]) rfl (css := [_]) ⟨rfl, trivial⟩ rfl rfl (cs := [_]) rfl) rfl ?_
  refine O_go (gn rfl) (st_box rfl rfl rfl ?_)
  intro b11 w11 e11 n11 c11 k11
  refine Oa rfl rfl (O_end [1, 2, 4, 5, 6, 7] (F' := [(1, _), (2, _), (4, _), (5, _), (6, _), (7, _), (1000001, _)]) rfl ?_)
  have hcA := ((c2.trans c4).trans c5).trans c6
  have hlt : ∀ z ∈ blkOf (.slice pv (encR s.cols l).length cv), z < w.heap.size := hv.lt
  have hs2 := c2.size
  have hs4 := c4.size
  have hs5 := c5.size
  have hs6 := c6.size
  have hc11 : Chg [] w w11 := hcA.trans c11
  have tp : IsTape w11 (.pointer (some ⟨b11, 0, none⟩)) (encR s.cols l) b11 := ⟨rfl, _, k11, hv.chg0 hc11, fun hm => by have := hlt b11 hm; omega⟩
  refine Sr (Om rfl rfl ?_)
  refine Og (vl_loadAgg ag30 sz30 rfl rfl (Cells.of_blk0 ((((k2.chg0 c4).chg0 c5).chg0 c6).chg0 c11))) rfl ?_
  refine O_go (gn rfl) (st_call bd142 rfl rfl rfl rfl (c_row c k u _ s l b11 _ (hs.chg0 hc11) hr tp) ?_)
  rintro v14 w14 ⟨i14, f14, ⟨-, v2, hb14, hv14, -⟩, c14⟩
  obtain ⟨p14, q14, rfl, -⟩ := id (Arr.val i14)
  obtain ⟨p2, q2, rfl, -⟩ := id hv14.val
  refine O_go (gn rfl) (st_store sz48 rfl rfl rfl rfl ((((k4.chg0 c5).chg0 c6).chg0 c11).chg c14 (by simp; omega)) (by simp) (by intro u hu; simp at hu; subst hu; rfl) ?_)
  intro wA nA cA kA
  refine O_end [1, 4, 5, 6, 7] (F' := [(1, _), (4, _), (5, _), (6, _), (7, _), (1000001, _)]) rfl (W_seq ?_)
  have kA : Blk wA b4 48 [.slice p14 l.length q14] := kA
  have hs11 := c11.size
  have hs14 := c14.size
  have hsA := cA.size
  have hd : Chg [] wA wA.drew := Chg.drew _ _
  have hbA : Blk wA b11 237 [.slice p2 0 q2] := hb14.chg cA (by simp; omega)
  have k5A := ((((k5.chg0 c6).chg0 c11).chg c14 (by simp; omega)).chg cA (by simp; omega)).chg0 hd
  have k6A := (((k6.chg0 c11).chg c14 (by simp; omega)).chg cA (by simp; omega)).chg0 hd
  refine W_draw (fun wz => wz.cell? ⟨b4, 0, none⟩ = some (.slice p14 l.length q14) ∧ wz.cell? ⟨b11, 0, none⟩ = some (.slice p2 0 q2)) mix (by kernel_rfl) ⟨(kA.chg0 hd).cell' rfl, (hbA.chg0 hd).cell' rfl⟩ ?_
  refine t_read rfl (gn rfl) (fun wz hz => vl_load ag48 rfl hz.1) rfl rfl ?_
  refine Tm rfl rfl ?_
  refine t_pure rfl (gn rfl) (fun _ => vl_len sl132 rfl) rfl rfl ?_
  refine Tm rfl rfl ?_
  refine t_pure rfl (gn rfl) (fun _ => vl_nilCheck rfl) rfl rfl ?_
  refine t_pure rfl (gn rfl) (fun _ => vl_fieldAddr fo237_0 rfl) rfl rfl ?_
  refine t_read rfl (gn rfl) (fun wz hz => vl_load ag235 rfl hz.2) rfl rfl ?_
  refine t_pure rfl (gn rfl) (fun _ => vl_len sl235 rfl) rfl rfl ?_
  refine t_pure rfl (gn rfl) (fun _ => vl_eq (v' := .int .i64 (((encR s.cols l).length : Nat) : Int)) (vl_sub rfl rfl (by omega)) (by congr 1 <;> omega)) rfl rfl ?_
  refine t_st rfl (gn rfl) (st_store sz48 rfl rfl rfl rfl (kA.chg0 hd) (by simp) (by intro u hu; simp at hu; subst hu; rfl) ?_)
  intro wB nB cB kB
  refine ⟨.inl ⟨kB.cell' rfl, ((hbA.chg0 hd).chg cB (by simp; omega)).cell' rfl⟩, ?_⟩
  refine t_st rfl (gn rfl) (st_store sz3 rfl rfl rfl rfl (k5A.chg cB (by simp; omega)) (by simp) (by simp [Value.oneCell']) ?_)
  intro wC nC cC kC
  refine ⟨.inr (by kernel_rfl), ?_⟩
  refine t_st rfl (gn rfl) (st_store sz32 rfl rfl rfl rfl ((k6A.chg cB (by simp; omega)).chg cC (by simp; omega)) (by simp) (by simp [Value.oneCell']) ?_)
  intro wD nD cD kD
  refine ⟨.inr (by kernel_rfl), ?_⟩
  refine T_end [4, 5, 6] (F' := [(4, _), (5, _), (6, _), (1000001, _)]) rfl ?_
  refine W_ret ?_
  have kB : Blk wB b4 48 [.slice p14 l.length q14] := kB
  have kC : Blk wC b5 3 [.int .i64 (encR s.cols l).length] := kC
  have kD : Blk wD b6 32 [.int .i64 0] := kD
  have hB := (kB.chg cC (by simp; omega)).chg cD (by simp; omega)
  have hC := kC.chg cD (by simp; omega)
  refine retD (Rd := fun w' => w' = wD) rfl bd140 (c_caught _ _ _) ?_
  rintro w' a ha rfl
  refine ⟨.tuple #[.slice p14 l.length q14, .int .i64 (encR s.cols l).length, .int .i64 0], ?_, ?_⟩
  · have h4 := ha.get 4 (.pointer (some ⟨b4, 0, none⟩)) rfl
    have h5 := ha.get 5 (.pointer (some ⟨b5, 0, none⟩)) rfl
    have h6 := ha.get 6 (.pointer (some ⟨b6, 0, none⟩)) rfl
    have g4 : w'.cell? ⟨b4, 0, none⟩ = _ := hB.cell' rfl
    have g5 : w'.cell? ⟨b5, 0, none⟩ = _ := hC.cell' rfl
    have g6 : w'.cell? ⟨b6, 0, none⟩ = _ := kD.cell' rfl
    simp [results, h4, h5, h6, asAddr, loadVar, run_isAgg ag48, run_isAgg ag3, run_isAgg ag32, g4, g5, g6]
  · refine ⟨_, rfl, ?_, ?_, ?_⟩
    · refine Arr.chg (Arr.chg (Arr.chg (Arr.chg0 (Arr.chg i14 cA ?_) hd) cB ?_) cC ?_) cD ?_ <;> (intro y hy hm; have := f14 y hy; simp at hm; omega)
    · intro y hy
      have := f14 y hy
      omega
    · refine ((((((hc11.trans' c14 ?_).trans' cA ?_).trans hd).trans' cB ?_).trans' cC ?_).trans' cD ?_) <;> (intro y hy; simp at hy; subst hy; right; omega)
theorem c_Decode (c k u v : Value) (s : Sch) (l : List Val) (w : World) (hs : IsSch w c k u s) (hm : s.Sm) (hr : rowN s l = 0) (hv : RdSl w 5 1 v (encR s.cols l).length (bv (encR s.cols l))) :
    Ret Tryz.prog 66 #[.agg #[c, k, u], v] w fun r w' => ∃ o, r = .tuple #[o, .int .i64 0] ∧ IsVals w' o l ∧ (∀ y ∈ blkOf o, w.heap.size ≤ y) ∧ Chg [] w w' := by
  obtain ⟨pv, cv, rfl, hcv⟩ := hv.val
  obtain ⟨hrs, hlen, hfit⟩ := rowN_ok hr
  have h8 := (right_parts hrs).1
  have hel := encR_len hfit
  refine Ret.of_W (args := [_, _]) Tryz.func66 rfl rfl rfl rfl ?_

  refine Sr ?_
  refine O_go (gn rfl) (st_box rfl rfl rfl ?_)
  intro b2 w2 e2 n2 c2 k2
  refine Oa rfl rfl (Oa rfl rfl (O_end [1, 2] (F' := [(1, _), (2, _)]) rfl (W_seq (Sr ?_))))
  refine Og (vl_loadAgg ag30 sz30 rfl rfl (Cells.of_blk0 k2)) rfl ?_
  refine O_go (gn rfl) (st_call bd43 rfl rfl rfl rfl (s_Check c k u s _ (hs.chg0 c2) hm) ?_)
  rintro v11 w11 ⟨h11, c11⟩
  rw [hrs] at h11
  change v11 = .int .i64 0 at h11
  subst h11
  refine Oa rfl rfl (O_end [1, 2, 6] (F' := [(1, _), (2, _), (6, _)]) rfl (Sr (Om rfl rfl ?_)))
  refine Og (vl_is (b' := false) (vl_ine rfl rfl) (ine_f (by omega))) rfl ?_
  refine O_end [1, 2, 6, 13] (F' := [(1, _), (2, _), (6, _), (13, _)]) rfl (W_cond_false rfl (W_skipE (W_seq ?_)))
  have hcA := c2.trans c11
  refine W_region ?_
  refine Og (vl_loadAgg ag30 sz30 rfl rfl (Cells.of_blk0 (k2.chg0 c11))) rfl ?_
  refine Om rfl rfl ?_
  refine O_go (gn rfl) (st_call bd98 rfl rfl rfl rfl (c_read c k u _ s l _ (hs.chg0 hcA) hr (hv.chg0 hcA)) ?_)
  rintro v18 w18 ⟨v18, rfl, i18, f18, c18⟩
  refine Om rfl rfl (Oe rfl rfl rfl (Oe rfl rfl rfl (Oe rfl rfl rfl (Oa rfl rfl (Oa rfl rfl (Oa rfl rfl (O_end [1, 7, 8, 9] (F' := [(1, _), (7, _), (8, _), (9, _)]) rfl (W_seq (Sr (Om rfl rfl ?_))))))))))
  refine Og (vl_is (b' := false) (vl_ine rfl rfl) (ine_f (by omega))) rfl ?_
  refine Om rfl rfl ?_
  refine Oy rfl rfl (vl_move rfl) rfl ?_
  refine Oy rfl rfl (vl_move rfl) rfl ?_
  refine Oy rfl rfl (vl_len sl132 rfl) rfl ?_
  refine Oy rfl rfl (vl_is (b' := false) (vl_ine rfl rfl) (ine_f (by omega))) rfl ?_
  refine Of rfl rfl rfl (O_end [7, 29] (F' := [(7, _), (29, _)]) rfl (W_cond_false rfl (W_skipE (Sr (Om rfl rfl (Oa rfl rfl (Oa rfl rfl (O_end [4, 5] (F' := [(4, _), (5, _)]) rfl (W_ret ?_)))))))))
  refine ret2 rfl rfl rfl ?_
  have hsz := hcA.size
  exact ⟨_, rfl, i18, fun y hy => Nat.le_trans hsz (f18 y hy), hcA.trans c18⟩
end Go.Wk

namespace Go.Wk
open Go.Proofs
set_option maxRecDepth 10000

theorem right_sm {s : Sch} (h : rightS s = true) : s.Sm := by
  obtain ⟨h1, h2, h3, _, _, _, h7⟩ := right_parts h
  have := (set_parts h3).1
  exact ⟨by omega, by omega, by omega, fun l hl => by have := (set_parts (h7 l hl)).1; omega⟩
/-- Pages, one by one. -/
def PgL (w : World) : List Nat → List (List (List Ent)) → Prop
  | [], [] => True
  | p :: ps, m :: ms => Pg w p m ∧ PgL w ps ms
  | _, _ => False
theorem PgL.chg0 {w w' : World} (hc : Chg [] w w') : ∀ {ps : List Nat} {ms : List (List (List Ent))}, PgL w ps ms → PgL w' ps ms
  | [], [], _ => trivial
  | _ :: _, _ :: _, h => ⟨h.1.chg0 hc, PgL.chg0 hc h.2⟩
theorem PgL.length {w : World} : ∀ {ps : List Nat} {ms : List (List (List Ent))}, PgL w ps ms → ps.length = ms.length
  | [], [], _ => rfl
  | _ :: _, _ :: _, h => by simp [PgL.length h.2]
theorem PgL.at {w : World} : ∀ {ps : List Nat} {ms : List (List (List Ent))} {i : Nat} {p : Nat} {m : List (List Ent)}, PgL w ps ms → ps[i]? = some p → ms[i]? = some m → Pg w p m
  | [], [], _, _, _, _, h, _ => by simp at h
  | _ :: _, _ :: _, 0, _, _, h, hp, hm => by simp at hp hm; subst hp hm; exact h.1
  | _ :: _, _ :: _, i + 1, _, _, h, hp, hm => h.2.at (by simpa using hp) (by simpa using hm)
theorem PgL.chgO {w w' : World} {q : Nat} {ms' : List (List Ent)} (hq : Pg w q ms') (hc : Chg [q] w w') : ∀ {ps : List Nat} {ms : List (List (List Ent))}, q ∉ ps → PgL w ps ms → PgL w' ps ms
  | [], [], _, _ => trivial
  | p :: _, _ :: _, hn, h => ⟨h.1.chgO hq (fun e => hn (by simp [e])) hc, PgL.chgO hq hc (fun hm => hn (by simp [hm])) h.2⟩
theorem PgL.put {w w' : World} {q : Nat} {m m' : List (List Ent)} (hq : Pg w q m) (hc : Chg [q] w w') (hq' : Pg w' q m') : ∀ {ps : List Nat} {ms : List (List (List Ent))} {i : Nat}, ps.Nodup → ps[i]? = some q → PgL w ps ms → PgL w' ps (ms.set i m')
  | [], [], _, _, h, _ => by simp at h
  | p :: ps, a :: ms, 0, hn, h, hp => by
    simp at h; subst h
    simp at hn
    exact ⟨hq', PgL.chgO hq hc hn.1 hp.2⟩
  | p :: ps, a :: ms, i + 1, hn, h, hp => by
    simp at h hn
    have hmem : q ∈ ps := List.mem_of_getElem? h
    exact ⟨hp.1.chgO hq (fun e => hn.1 (e ▸ hmem)) hc, PgL.put hq hc hq' hn.2 h hp.2⟩
theorem PgL.snoc {w : World} {q : Nat} {m : List (List Ent)} (hq : Pg w q m) : ∀ {ps : List Nat} {ms : List (List (List Ent))}, PgL w ps ms → PgL w (ps ++ [q]) (ms ++ [m])
  | [], [], _ => ⟨hq, trivial⟩
  | _ :: _, _ :: _, h => ⟨h.1, PgL.snoc hq h.2⟩
def scs (x : Value × Nat) : List Value := [x.1, .pointer (some ⟨x.2, 0, none⟩)]
theorem scs_len (x : Value × Nat) : (scs x).length = 2 := rfl
structure TabMem (w : World) (t pm : Nat) (c k u sv : Value) (xs : List (Value × Nat)) (s : Sch) (main : List (List Ent)) (subs : List (List (List Ent))) : Prop where
  blk : Blk w t 98 [.pointer (some ⟨pm, 0, none⟩), c, k, u, sv]
  sch : IsSch w c k u s
  pg : Pg w pm main
  sl : Arr w 103 2 scs sv xs
  ats : ArrL w 3 1 ics (xs.map (·.1)) (setsN s)
  pgs : PgL w (xs.map (·.2)) subs
  nd : (pm :: xs.map (·.2)).Nodup
section
variable {w w' : World} {t pm : Nat} {c k u sv : Value} {xs : List (Value × Nat)} {s : Sch} {main : List (List Ent)} {subs : List (List (List Ent))}
theorem TabMem.chg0 (h : TabMem w t pm c k u sv xs s main subs) (hc : Chg [] w w') : TabMem w' t pm c k u sv xs s main subs :=
  ⟨h.blk.chg0 hc, h.sch.chg0 hc, h.pg.chg0 hc, Arr.chg0 h.sl hc, ArrL.chg0 h.ats hc, h.pgs.chg0 hc, h.nd⟩
theorem TabMem.keep (h : TabMem w t pm c k u sv xs s main subs) {q : Nat} {ms : List (List Ent)} (hq : Pg w q ms) (hc : Chg [q] w w') {main' : List (List Ent)} {subs' : List (List (List Ent))} (h1 : Pg w' pm main') (h2 : PgL w' (xs.map (·.2)) subs') : TabMem w' t pm c k u sv xs s main' subs' := by
  obtain ⟨v, hb, _⟩ := hq
  exact ⟨h.blk.chg hc (by have := h.blk.ne hb rfl; simpa using this), h.sch.chgB hb rfl rfl rfl hc, h1, Arr.chg h.sl hc (IsSl.apart h.sl hb rfl), ArrL.chg hc (h.ats.apart hb rfl) h.ats, h2, h.nd⟩
/-- .. when pages of others turn. -/
theorem TabMem.other (h : TabMem w t pm c k u sv xs s main subs) {q : Nat} {ms : List (List Ent)} (hq : Pg w q ms) (hn : q ∉ pm :: xs.map (·.2)) (hc : Chg [q] w w') : TabMem w' t pm c k u sv xs s main subs :=
  h.keep hq hc (h.pg.chgO hq (fun e => hn (by simp [e])) hc) (PgL.chgO hq hc (fun hm => hn (List.mem_cons_of_mem _ hm)) h.pgs)
theorem TabMem.putM (h : TabMem w t pm c k u sv xs s main subs) (hc : Chg [pm] w w') {main' : List (List Ent)} (h' : Pg w' pm main') : TabMem w' t pm c k u sv xs s main' subs :=
  h.keep h.pg hc h' (PgL.chgO h.pg hc (by have := h.nd; simp only [List.nodup_cons] at this; exact this.1) h.pgs)
theorem TabMem.putS (h : TabMem w t pm c k u sv xs s main subs) {j q : Nat} {m m' : List (List Ent)} {a : Value} (hj : xs[j]? = some (a, q)) (hm : subs[j]? = some m) (hc : Chg [q] w w') (h' : Pg w' q m') : TabMem w' t pm c k u sv xs s main (subs.set j m') := by
  have hq : (xs.map (·.2))[j]? = some q := by rw [List.getElem?_map, hj]; rfl
  have hp := h.pgs.at hq hm
  have hnd := h.nd
  simp only [List.nodup_cons] at hnd
  exact h.keep hp hc (h.pg.chgO hp (fun e => hnd.1 (e ▸ List.mem_of_getElem? hq)) hc) (PgL.put hp hc h' hnd.2 hq h.pgs)
theorem TabMem.lens (h : TabMem w t pm c k u sv xs s main subs) : xs.length = (setsN s).length ∧ subs.length = (setsN s).length := by
  have h1 := h.ats.length
  have h2 := h.pgs.length
  rw [List.length_map] at h1 h2
  omega
/-- The j-th set. -/
theorem TabMem.at (h : TabMem w t pm c k u sv xs s main subs) {j : Nat} (hj : j < (setsN s).length) : ∃ a q st m b off cap, xs[j]? = some (a, q) ∧ (setsN s)[j]? = some st ∧ subs[j]? = some m ∧ IsInts w a st ∧ Pg w q m ∧ sv = .slice (some ⟨b, off, none⟩) xs.length cap ∧ Cells w b (off + j * 2) [a, .pointer (some ⟨q, 0, none⟩)] ∧ q ∈ xs.map (·.2) := by
  obtain ⟨l1, l2⟩ := h.lens
  have e1 : (setsN s)[j]? = some (setsN s)[j] := by simp [hj]
  have e2 : xs[j]? = some (xs[j]'(by omega)) := by simp [l1, hj]
  have e3 : subs[j]? = some (subs[j]'(by omega)) := by simp [l2, hj]
  generalize (setsN s)[j] = st at e1
  generalize xs[j]'(by omega) = x at e2
  generalize subs[j]'(by omega) = m at e3
  obtain ⟨a, q⟩ := x
  obtain ⟨v, hv, ha⟩ := h.ats.at e1
  rw [List.getElem?_map, e2] at hv
  simp at hv
  subst hv
  have hq : (xs.map (·.2))[j]? = some q := by rw [List.getElem?_map, e2]; rfl
  obtain ⟨b, off, cap, hsv, hcell⟩ := Arr.at scs_len h.sl e2
  exact ⟨a, q, st, m, b, off, cap, e2, e1, e3, ha, h.pgs.at hq e3, hsv, hcell, List.mem_of_getElem? hq⟩
end
def IsTab (w : World) (t : Nat) (own : List Nat) (s : Sch) (rows : List (List Val)) : Prop :=
  ∃ pm c k u sv xs main subs, own = pm :: xs.map (·.2) ∧ TabMem w t pm c k u sv xs s main subs ∧ Tells s rows main subs
theorem IsTab.chg0 {w w' : World} {t : Nat} {own : List Nat} {s : Sch} {rows : List (List Val)} (h : IsTab w t own s rows) (hc : Chg [] w w') : IsTab w' t own s rows :=
  let ⟨pm, c, k, u, sv, xs, main, subs, h1, h2, h3⟩ := h; ⟨pm, c, k, u, sv, xs, main, subs, h1, h2.chg0 hc, h3⟩
theorem IsTab.ok {w : World} {t : Nat} {own : List Nat} {s : Sch} {rows : List (List Val)} (h : IsTab w t own s rows) : TabOk s rows :=
  let ⟨_, _, _, _, _, _, _, _, _, _, h3⟩ := h; h3.ok
end Go.Wk

namespace Go.Wk
open Go.Proofs
set_option maxRecDepth 10000

def ksOf {K : Type} (es : List (K × Value)) : List K := es.map (·.1)
theorem mem_kput {K : Type} [DecidableEq K] {k k' : K} {v : Value} : ∀ {es : List (K × Value)}, k' ∈ ksOf (kput es k v) ↔ k' = k ∨ k' ∈ ksOf es
  | [] => by simp [ksOf, kput]
  | p :: r => by
    unfold kput
    by_cases h : p.1 = k
    · rw [if_pos h]
      simp [ksOf, h]
    · rw [if_neg h]
      have ih := mem_kput (k := k) (k' := k') (v := v) (es := r)
      unfold ksOf at *
      rw [List.map_cons, List.map_cons, List.mem_cons, ih, List.mem_cons]
      constructor
      · rintro (h | h | h)
        · exact .inr (.inl h)
        · exact .inl h
        · exact .inr (.inr h)
      · rintro (h | h | h)
        · exact .inr (.inl h)
        · exact .inl h
        · exact .inr (.inr h)
theorem kput_nodup {K : Type} [DecidableEq K] {k : K} {v : Value} : ∀ {es : List (K × Value)}, (ksOf es).Nodup → (ksOf (kput es k v)).Nodup
  | [], _ => by simp [ksOf, kput]
  | p :: r, h => by
    unfold kput
    have h' : p.1 ∉ ksOf r ∧ (ksOf r).Nodup := by simpa [ksOf] using h
    by_cases e : p.1 = k
    · rw [if_pos e]
      simpa [ksOf, e] using h
    · rw [if_neg e]
      have ih := kput_nodup (k := k) (v := v) h'.2
      show (p.1 :: ksOf (kput r k v)).Nodup
      rw [List.nodup_cons]
      exact ⟨fun hm => by rcases mem_kput.1 hm with h1 | h1; exact e h1; exact h'.1 h1, ih⟩
def ClashK (s : Sch) (rows : List (List Val)) (row : List Val) (sts : List (List Int)) (es : List (ByteArray × Value)) : Prop :=
  (ksOf es).Nodup ∧ ∀ k, k ∈ ksOf es ↔ ∃ r ∈ rows, (∃ st ∈ sts, clashSet r row st = true) ∧ keyR s r = k
theorem ClashK.nil {s : Sch} {rows : List (List Val)} {row : List Val} : ClashK s rows row [] [] := ⟨by simp [ksOf], by simp [ksOf]⟩
theorem ClashK.skip {s : Sch} {rows : List (List Val)} {row : List Val} {sts : List (List Int)} {st : List Int} {es : List (ByteArray × Value)} (h : ClashK s rows row sts es) (hn : ∀ r ∈ rows, clashSet r row st = false) : ClashK s rows row (sts ++ [st]) es := by
  refine ⟨h.1, fun k => (h.2 k).trans ⟨?_, ?_⟩⟩
  · rintro ⟨r, hr, ⟨st', hs, hc⟩, hk⟩
    exact ⟨r, hr, ⟨st', List.mem_append_left _ hs, hc⟩, hk⟩
  · rintro ⟨r, hr, ⟨st', hs, hc⟩, hk⟩
    rcases List.mem_append.1 hs with hs | hs
    · exact ⟨r, hr, ⟨st', hs, hc⟩, hk⟩
    · simp at hs
      subst hs
      rw [hn r hr] at hc; cases hc
theorem rowOf_some {rows : List (List Val)} {st : List Int} {vals r : List Val} (h : rowOf rows st vals = some r) : r ∈ rows ∧ nnS (pickN r st) = true ∧ pickN r st = vals := by
  have h1 := List.mem_of_find?_eq_some h
  have h2 := List.find?_some h
  simp only [Bool.and_eq_true, decide_eq_true_eq] at h2
  exact ⟨h1, h2⟩
theorem rowOf_none {rows : List (List Val)} {st : List Int} {vals r : List Val} (h : rowOf rows st vals = none) (hr : r ∈ rows) : ¬ (nnS (pickN r st) = true ∧ pickN r st = vals) := by
  have := List.find?_eq_none.1 h r hr
  simpa using this
theorem ClashK.none {s : Sch} {rows : List (List Val)} {row : List Val} {sts : List (List Int)} {st : List Int} {es : List (ByteArray × Value)} (h : ClashK s rows row sts es) (hn : nnS (pickN row st) = false ∨ rowOf rows st (pickN row st) = none) : ClashK s rows row (sts ++ [st]) es := by
  refine h.skip fun r hr => ?_
  cases hc : clashSet r row st with
  | false => rfl
  | true =>
    obtain ⟨h1, h2⟩ := clashSet_iff.1 hc
    rcases hn with hn | hn
    · rw [← h2, h1] at hn; cases hn
    · exact absurd ⟨h1, h2⟩ (rowOf_none hn hr)
theorem ClashK.some {s : Sch} {rows : List (List Val)} (ht : TabOk s rows) {row r : List Val} {sts : List (List Int)} {st : List Int} (hst : st ∈ setsN s) {es : List (ByteArray × Value)} {v : Value} (h : ClashK s rows row sts es) (hn : rowOf rows st (pickN row st) = some r) : ClashK s rows row (sts ++ [st]) (kput es (keyR s r) v) := by
  obtain ⟨hr, h1, h2⟩ := rowOf_some hn
  have hc : clashSet r row st = true := clashSet_iff.2 ⟨h1, h2⟩
  refine ⟨kput_nodup h.1, fun k => ?_⟩
  rw [mem_kput, h.2 k]
  constructor
  · rintro (rfl | ⟨r', hr', ⟨st', hs, hc'⟩, hk⟩)
    · exact ⟨r, hr, ⟨st, by simp, hc⟩, rfl⟩
    · exact ⟨r', hr', ⟨st', List.mem_append_left _ hs, hc'⟩, hk⟩
  · rintro ⟨r', hr', ⟨st', hs, hc'⟩, hk⟩
    rcases List.mem_append.1 hs with hs | hs
    · exact .inr ⟨r', hr', ⟨st', hs, hc'⟩, hk⟩
    · simp at hs
      subst hs
      obtain ⟨g1, g2⟩ := clashSet_iff.1 hc'
      have : r' = r := ht.uniqC hr' hr (clashR_iff.2 ⟨st', hst, g1, by rw [g2, h2]⟩)
      subst this
      exact .inl hk.symm
theorem ClashK.gone {s : Sch} {rows : List (List Val)} {row : List Val} {es : List (ByteArray × Value)} (h : ClashK s rows row (setsN s) es) (k : ByteArray) : k ∈ ksOf es ↔ k ∈ (goneR s rows row).map (keyR s) := by
  rw [h.2 k, List.mem_map]
  constructor
  · rintro ⟨r, hr, ⟨st, hs, hc⟩, hk⟩
    exact ⟨r, mem_gone.2 ⟨hr, List.any_eq_true.2 ⟨st, hs, hc⟩⟩, hk⟩
  · rintro ⟨r, hr, hk⟩
    obtain ⟨h1, h2⟩ := mem_gone.1 hr
    obtain ⟨st, hs, hc⟩ := List.any_eq_true.1 h2
    exact ⟨r, h1, ⟨st, hs, hc⟩, hk⟩
end Go.Wk

namespace Go.Wk
open Go.Proofs
set_option maxRecDepth 10000

theorem t_fits0 (v : Value) (w : World) : Ret Tryz.prog 48 #[.pointer none, v] w fun r w' => ErrOf w' r 1 ∧ Chg [] w w' := by
  refine Ret.of_W (args := [_, _]) Tryz.func48 rfl rfl rfl rfl ?_

  refine Sr (Oa rfl rfl (O_end [0, 1] (F' := [(0, _), (1, _)]) rfl (W_seq (Sr (Om rfl rfl ?_)))))
  refine Og (vl_pnil pt31 rfl rfl) rfl ?_
  refine O_end [0, 1, 7] (F' := [(0, _), (1, _), (7, _)]) rfl (W_cond_true rfl (Sr ?_))
  refine Og (vl_mkif ni32 rfl) rfl ?_
  refine Og (vl_build pl141 zr141 rfl (vs := [_, _]) rfl (css := [_, _]) ⟨rfl, rfl, trivial⟩ rfl rfl (cs := [_, _]) rfl) rfl ?_
  refine Og (vl_mkif ni141 rfl) rfl ?_
  refine Oa rfl rfl (O_end [4] (F' := [(4, _)]) rfl (W_ret ?_))
  repeat (first | refine then_ret ?_ | refine block_ret ?_)
  refine ret1 rfl rfl ?_
  exact ⟨.inr ⟨.inr (.inr ⟨_, rfl⟩), by decide⟩, Chg.refl _ _⟩
section
variable {t pm : Nat} {c k u sv : Value} {xs : List (Value × Nat)} {s : Sch} {main : List (List Ent)} {subs : List (List (List Ent))}
theorem TabMem.scells {w : World} (h : TabMem w t pm c k u sv xs s main subs) : Cells w t 1 [c, k, u] := by
  intro i x hi
  have := (Cells.of_blk0 h.blk) (1 + i) x (by
    rw [show [Value.pointer (some ⟨pm, 0, none⟩), c, k, u, sv] = [Value.pointer (some ⟨pm, 0, none⟩)] ++ [c, k, u] ++ [sv] from rfl, List.append_assoc, List.getElem?_append_right (by simp)]
    simp only [List.length_cons, List.length_nil, Nat.zero_add, Nat.add_sub_cancel_left]
    rw [List.getElem?_append_left (List.getElem?_eq_some_iff.1 hi).1]
    exact hi)
  rw [Nat.zero_add] at this
  exact this
theorem t_fits (v : Value) (l : List Val) (w : World) (hE : EOk w) (h : TabMem w t pm c k u sv xs s main subs) (hr : rightS s = true) (hl : IsVals w v l) (hg : ∀ x ∈ l, x.Rng) (hn : l.length ≤ 1048576) :
    Ret Tryz.prog 48 #[.pointer (some ⟨t, 0, none⟩), v] w fun r w' => ErrOf w' r (rowN s l) ∧ Chg [] w w' := by
  refine Ret.of_W (args := [_, _]) Tryz.func48 rfl rfl rfl rfl ?_

  refine Sr (Oa rfl rfl (O_end [0, 1] (F' := [(0, _), (1, _)]) rfl (W_seq (Sr (Om rfl rfl ?_)))))
  refine Og (vl_pnil pt31 rfl rfl) rfl ?_
  refine O_end [0, 1, 7] (F' := [(0, _), (1, _), (7, _)]) rfl (W_cond_false rfl (W_skipE (W_seq (Sr (Om rfl rfl (Og (vl_nilCheck rfl) rfl (Og (vl_fieldAddr fo98_1 rfl) rfl ?_)))))))
  refine Og (vl_loadAgg ag30 sz30 rfl rfl h.scells) rfl ?_
  refine Om rfl rfl ?_
  refine O_go (gn rfl) (st_call bd80 rfl rfl rfl rfl (s_Row c k u v s l _ hE h.sch (right_sm hr) hl hg hn) ?_)
  rintro v16 w16 ⟨rfl, c16⟩
  refine Oa rfl rfl (O_end [5] (F' := [(5, _)]) rfl (W_seq ?_))
  by_cases he : rowN s l = 0
  · refine W_region (Om rfl rfl ?_)
    refine Og (vl_is (b' := false) (vl_ine rfl rfl) (by simp [he])) rfl ?_
    refine O_end [5, 18] (F' := [(5, _), (18, _)]) rfl (W_cond_false rfl (W_skipE (Sr (Oa rfl rfl (O_end [4] (F' := [(4, _)]) rfl (W_ret ?_))))))
    refine ret1 rfl rfl ?_
    exact ⟨.inl ⟨rfl, he⟩, c16⟩
  · refine W_region (Om rfl rfl ?_)
    refine Og (vl_is (b' := true) (vl_ine rfl rfl) (by simp [he])) rfl ?_
    refine O_end [5, 18] (F' := [(5, _), (18, _)]) rfl (W_cond_true rfl (Sr (Om rfl rfl ?_)))
    refine Og (vl_mkif ni32 rfl) rfl ?_
    refine Og (vl_build pl141 zr141 rfl (vs := [_, _]) rfl (css := [_, _]) ⟨rfl, rfl, trivial⟩ rfl rfl (cs := [_, _]) rfl) rfl ?_
    refine Og (vl_mkif ni141 rfl) rfl ?_
    refine Oa rfl rfl (O_end [4] (F' := [(4, _)]) rfl (W_ret ?_))
    repeat (first | refine then_ret ?_ | refine block_ret ?_)
    refine ret1 rfl rfl ?_
    exact ⟨.inr ⟨.inr (.inr ⟨_, rfl⟩), he⟩, c16⟩
end
/-- What is told of a set's values. -/
theorem set_of {w : World} {a v : Value} {q : Nat} {s : Sch} {st : List Int} {row : List Val} (hf : rowN s row = 0) (hg : ∀ x ∈ row, x.Rng) (hst : st ∈ setsN s) (ha : IsInts w a st) (hv : IsVals w v row) :
    Ret Tryz.prog 62 #[.agg #[a, .pointer (some ⟨q, 0, none⟩)], v] w fun r w' => r = .tuple #[.string (keyS (pickN row st)), .bool (nnS (pickN row st))] ∧ Chg [] w w' := by
  obtain ⟨hr, hl, _⟩ := rowN_ok hf
  obtain ⟨h1, h2, _⟩ := set_parts (sets_right hr st hst)
  have h8 := (right_parts hr).1
  exact k_setof a _ v st row w ha rfl hv hg (row_chk hf) (fun i hi => by have := h2 i hi; omega) (by omega) (by omega)
theorem SubsOk.st {s : Sch} {rows : List (List Val)} {j : Nat} {st : List Int} {m : List (List Ent)} : ∀ {sts : List (List Int)} {pss : List (List (List Ent))}, SubsOk s rows sts pss → sts[j]? = some st → pss[j]? = some m → SubOk s rows st m := by
  intro sts pss h h1 h2
  obtain ⟨ps, hp, hs⟩ := h.at' h1
  rw [h2] at hp
  cases hp
  exact hs
end Go.Wk
