/-
  Clone, Grow, Concat.
-/
import Derived.Test.YthbahcjkncfpdaaP3
namespace Go.Wk
open Go.Proofs
set_option maxRecDepth 10000

theorem f25 (v : Value) (n : Nat) (xs : List Value) (w : World) (h : IsSl w 69 2 v n xs) (hn : n ≤ 4294967296) : Ret Try.prog 25 #[v] w fun r w' => IsSl w' 69 2 r n xs ∧ (∀ b ∈ blkOf r, w.heap.size ≤ b) ∧ Chg [] w w' := by
  obtain ⟨p, c, rfl, _⟩ := h.val
  refine Ret.of_W (args := [_]) Try.func25 rfl rfl rfl rfl ?_

  refine W_seq ?_
  refine W_region ?_
  refine O_go (gn rfl) (St.vl (vl_assign rfl) rfl rfl ?_)
  refine O_end [0] (F' := [(0, _)]) rfl ?_
  refine W_seq ?_
  refine W_seq ?_
  refine W_region ?_
  refine O_go (gn rfl) (St.vl (vl_move rfl) rfl rfl ?_)
  refine O_go (gn rfl) (St.vl (vl_snil sl71 rfl rfl) rfl rfl ?_)
  refine O_end [0, 4] (F' := [(0, _), (4, _)]) rfl ?_
  refine W_cond rfl (fun hT => ?_) (fun hF => ?_)
  · refine W_seq ?_
    refine W_region ?_
    refine O_go (gn rfl) (St.vl (vl_assign rfl) rfl rfl ?_)
    refine O_end [2] (F' := [(2, _)]) rfl ?_
    refine W_ret ?_
    refine then_ret ?_
    refine ret1 rfl rfl ?_
    rcases h with ⟨_, rfl, rfl⟩ | ⟨b, off, cap, cc, he, _⟩
    · exact ⟨IsSl.nil _ _ _, by simp [blkOf], Chg.refl _ _⟩
    · simp only [Value.slice.injEq] at he
      rw [he.1] at hT
      simp at hT
  · refine W_skipE ?_
    refine W_seq ?_
    refine W_region ?_
    refine O_go (gn rfl) (st_buildSlice ap71 rfl (vs := []) rfl (css := []) trivial rfl rfl (cs := []) rfl rfl ?_)
    intro b5 w5 e5 n5 c5 k5
    refine O_go (gn rfl) (St.vl (vl_move rfl) rfl rfl ?_)
    refine O_go (gn rfl) (st_append ap71 sl71 rfl rfl (IsSl.of_blk (n := 0) k5 (by simp) (by simp [maxLen]) (by simp)) (h.chg0 c5) (by simp only [maxLen]; omega) (by omega) rfl ?_)
    intro v7 w7 i7 c7 o7 z7
    refine O_go (gn rfl) (St.vl (vl_assign rfl) rfl rfl ?_)
    refine O_end [2] (F' := [(2, _)]) rfl ?_
    refine W_ret ?_
    refine ret1 rfl rfl ?_
    refine ⟨by simpa using i7, ?_, c5.own c7 (by simp [blkOf, ← e5])⟩
    rcases o7 with o7 | ⟨b, o7, hb⟩
    · rw [o7]; simp [blkOf, ← e5]
    · rw [o7]; intro x hx; simp at hx; subst hx; have := c5.size; omega

theorem f31 (v : Value) (n : Nat) (xs : List Value) (w : World) (h : IsSl w 71 1 v n xs) (hn : n ≤ 4294967296) : Ret Try.prog 31 #[v] w fun r w' => IsSl w' 71 1 r n xs ∧ (∀ b ∈ blkOf r, w.heap.size ≤ b) ∧ Chg [] w w' := by
  obtain ⟨p, c, rfl, _⟩ := h.val
  refine Ret.of_W (args := [_]) Try.func31 rfl rfl rfl rfl ?_

  refine W_seq ?_
  refine W_region ?_
  refine O_go (gn rfl) (St.vl (vl_assign rfl) rfl rfl ?_)
  refine O_end [0] (F' := [(0, _)]) rfl ?_
  refine W_seq ?_
  refine W_seq ?_
  refine W_region ?_
  refine O_go (gn rfl) (St.vl (vl_move rfl) rfl rfl ?_)
  refine O_go (gn rfl) (St.vl (vl_snil sl65 rfl rfl) rfl rfl ?_)
  refine O_end [0, 4] (F' := [(0, _), (4, _)]) rfl ?_
  refine W_cond rfl (fun hT => ?_) (fun hF => ?_)
  · refine W_seq ?_
    refine W_region ?_
    refine O_go (gn rfl) (St.vl (vl_assign rfl) rfl rfl ?_)
    refine O_end [2] (F' := [(2, _)]) rfl ?_
    refine W_ret ?_
    refine then_ret ?_
    refine ret1 rfl rfl ?_
    rcases h with ⟨_, rfl, rfl⟩ | ⟨b, off, cap, cc, he, _⟩
    · exact ⟨IsSl.nil _ _ _, by simp [blkOf], Chg.refl _ _⟩
    · simp only [Value.slice.injEq] at he
      rw [he.1] at hT
      simp at hT
  · refine W_skipE ?_
    refine W_seq ?_
    refine W_region ?_
    refine O_go (gn rfl) (st_buildSlice ap65 rfl (vs := []) rfl (css := []) trivial rfl rfl (cs := []) rfl rfl ?_)
    intro b5 w5 e5 n5 c5 k5
    refine O_go (gn rfl) (St.vl (vl_move rfl) rfl rfl ?_)
    refine O_go (gn rfl) (st_append ap65 sl65 rfl rfl (IsSl.of_blk (n := 0) k5 (by simp) (by simp [maxLen]) (by simp)) (h.chg0 c5) (by simp only [maxLen]; omega) (by omega) rfl ?_)
    intro v7 w7 i7 c7 o7 z7
    refine O_go (gn rfl) (St.vl (vl_assign rfl) rfl rfl ?_)
    refine O_end [2] (F' := [(2, _)]) rfl ?_
    refine W_ret ?_
    refine ret1 rfl rfl ?_
    refine ⟨by simpa using i7, ?_, c5.own c7 (by simp [blkOf, ← e5])⟩
    rcases o7 with o7 | ⟨b, o7, hb⟩
    · rw [o7]; simp [blkOf, ← e5]
    · rw [o7]; intro x hx; simp at hx; subst hx; have := c5.size; omega

theorem f53 (n : Nat) (w : World) (hn : n ≤ 4294967296) : Ret Try.prog 53 #[.slice none 0 0, .int .i64 n] w fun r w' => IsSl w' 71 1 r 0 [] ∧ (∀ b ∈ blkOf r, w.heap.size ≤ b) ∧ Chg [] w w' := by
  refine Ret.of_W (args := [_, _]) Try.func53 rfl rfl rfl rfl ?_

  refine W_seq ?_
  refine W_region ?_
  refine O_go (gn rfl) (St.vl (vl_assign rfl) rfl rfl ?_)
  refine O_end [0, 1] (F' := [(0, _), (1, _)]) rfl ?_
  refine W_seq ?_
  refine W_seq ?_
  refine W_region ?_
  refine O_go (gn rfl) (St.vl (vl_move rfl) rfl rfl ?_)
  refine O_go (gn rfl) (St.vl (vl_lss rfl rfl) rfl rfl ?_)
  refine O_end [0, 1, 6] (F' := [(0, _), (1, _), (6, _)]) rfl ?_
  refine W_cond rfl (fun hT => ?_) (fun hF => ?_)
  · exfalso
    have := of_decide_eq_true hT
    omega
  · refine W_skipE ?_
    refine W_seq ?_
    refine W_seq ?_
    refine W_region ?_
    refine O_go (gn rfl) (St.vl (vl_move rfl) rfl rfl ?_)
    refine O_go (gn rfl) (St.vl (vl_move rfl) rfl rfl ?_)
    refine O_go (gn rfl) (St.vl (vl_cap sl65 rfl) rfl rfl ?_)
    refine O_go (gn rfl) (St.vl (vl_move rfl) rfl rfl ?_)
    refine O_go (gn rfl) (St.vl (vl_len sl65 rfl) rfl rfl ?_)
    refine O_go (gn rfl) (St.vl (vl_sub rfl rfl (by omega)) rfl rfl ?_)
    refine O_go (gn rfl) (St.vl (vl_eq (v' := .int .i64 n) (vl_sub rfl rfl (by omega)) (by congr 1 <;> omega)) rfl rfl ?_)
    refine O_go (gn rfl) (St.vl (vl_assign rfl) rfl rfl ?_)
    refine O_end [0, 1] (F' := [(0, _), (1, _)]) rfl ?_
    refine W_seq ?_
    refine W_region ?_
    refine O_go (gn rfl) (St.vl (vl_move rfl) rfl rfl ?_)
    refine O_go (gn rfl) (St.vl (vl_gtr rfl rfl) rfl rfl ?_)
    refine O_end [0, 1, 16] (F' := [(0, _), (1, _), (16, _)]) rfl ?_
    refine W_cond rfl (fun hT => ?_) (fun hF => ?_)
    · have hpos : 0 < n := by have := of_decide_eq_true hT; omega
      refine W_region ?_
      refine O_go (gn rfl) (St.vl (vl_move rfl) rfl rfl ?_)
      refine O_go (gn rfl) (St.vl (vl_move rfl) rfl rfl ?_)
      refine O_go (gn rfl) (St.vl (vl_cap sl65 rfl) rfl rfl ?_)
      refine O_go (gn rfl) (St.vl (vl_cut_h sl65 sz71 rfl rfl _ rfl (by omega)) rfl rfl ?_)
      refine O_go (gn rfl) (St.vl (vl_move rfl) rfl rfl ?_)
      refine O_go (gn rfl) (st_appendMake ap65 it3_i64 rfl rfl rfl (IsSl.nil _ _ _) (fun p c he => by simp [cut] at he; omega) (by simp only [maxLen]; omega) (by omega) rfl ?_)
      intro b cap zs w22 hb c22 hge hle hzl hone k22
      refine O_go (gn rfl) (St.vl (vl_move rfl) rfl rfl ?_)
      refine O_go (gn rfl) (St.vl (vl_len sl65 rfl) rfl rfl ?_)
      refine O_go (gn rfl) (St.vl (vl_cut_h sl65 sz71 rfl rfl 0 rfl (by omega)) rfl rfl ?_)
      refine O_go (gn rfl) (St.vl (vl_assign rfl) rfl rfl ?_)
      refine O_end [0] (F' := [(0, _)]) rfl ?_
      refine W_seq ?_
      refine W_region ?_
      refine O_go (gn rfl) (St.vl (vl_move rfl) rfl rfl ?_)
      refine O_go (gn rfl) (St.vl (vl_assign rfl) rfl rfl ?_)
      refine O_end [4] (F' := [(4, _)]) rfl ?_
      refine W_ret ?_
      refine ret1 rfl rfl ?_
      have hsl : SlAt w22 71 1 b 0 (0 + n) cap ([] ++ zs) (((([] ++ zs) : List Value).drop 0).take ((0 + n) * 1)) := ⟨k22, hge, hle, by simp only [List.nil_append]; omega, rfl, hone⟩
      have hc := hsl.cut (l := 0) (h := 0) (m := cap) (Nat.le_refl _) (Nat.zero_le _) (Nat.le_refl _)
      refine ⟨by simpa using hc, fun x hx => ?_, c22⟩
      have := IsSl.cutBlk (len := 0) (cap := 0) x hx
      simp [blkOf] at this
      omega
    · refine W_skipE ?_
      refine W_seq ?_
      refine W_region ?_
      refine O_go (gn rfl) (St.vl (vl_move rfl) rfl rfl ?_)
      refine O_go (gn rfl) (St.vl (vl_assign rfl) rfl rfl ?_)
      refine O_end [4] (F' := [(4, _)]) rfl ?_
      refine W_ret ?_
      refine ret1 rfl rfl ?_
      exact ⟨IsSl.nil _ _ _, by simp [blkOf], Chg.refl _ _⟩

theorem f55 (n : Nat) (w : World) (hn : n ≤ 4294967296) : Ret Try.prog 55 #[.slice none 0 0, .int .i64 n] w fun r w' => IsSl w' 69 2 r 0 [] ∧ (∀ b ∈ blkOf r, w.heap.size ≤ b) ∧ Chg [] w w' := by
  refine Ret.of_W (args := [_, _]) Try.func55 rfl rfl rfl rfl ?_

  refine W_seq ?_
  refine W_region ?_
  refine O_go (gn rfl) (St.vl (vl_assign rfl) rfl rfl ?_)
  refine O_end [0, 1] (F' := [(0, _), (1, _)]) rfl ?_
  refine W_seq ?_
  refine W_seq ?_
  refine W_region ?_
  refine O_go (gn rfl) (St.vl (vl_move rfl) rfl rfl ?_)
  refine O_go (gn rfl) (St.vl (vl_lss rfl rfl) rfl rfl ?_)
  refine O_end [0, 1, 6] (F' := [(0, _), (1, _), (6, _)]) rfl ?_
  refine W_cond rfl (fun hT => ?_) (fun hF => ?_)
  · exfalso
    have := of_decide_eq_true hT
    omega
  · refine W_skipE ?_
    refine W_seq ?_
    refine W_seq ?_
    refine W_region ?_
    refine O_go (gn rfl) (St.vl (vl_move rfl) rfl rfl ?_)
    refine O_go (gn rfl) (St.vl (vl_move rfl) rfl rfl ?_)
    refine O_go (gn rfl) (St.vl (vl_cap sl71 rfl) rfl rfl ?_)
    refine O_go (gn rfl) (St.vl (vl_move rfl) rfl rfl ?_)
    refine O_go (gn rfl) (St.vl (vl_len sl71 rfl) rfl rfl ?_)
    refine O_go (gn rfl) (St.vl (vl_sub rfl rfl (by omega)) rfl rfl ?_)
    refine O_go (gn rfl) (St.vl (vl_eq (v' := .int .i64 n) (vl_sub rfl rfl (by omega)) (by congr 1 <;> omega)) rfl rfl ?_)
    refine O_go (gn rfl) (St.vl (vl_assign rfl) rfl rfl ?_)
    refine O_end [0, 1] (F' := [(0, _), (1, _)]) rfl ?_
    refine W_seq ?_
    refine W_region ?_
    refine O_go (gn rfl) (St.vl (vl_move rfl) rfl rfl ?_)
    refine O_go (gn rfl) (St.vl (vl_gtr rfl rfl) rfl rfl ?_)
    refine O_end [0, 1, 16] (F' := [(0, _), (1, _), (16, _)]) rfl ?_
    refine W_cond rfl (fun hT => ?_) (fun hF => ?_)
    · have hpos : 0 < n := by have := of_decide_eq_true hT; omega
      refine W_region ?_
      refine O_go (gn rfl) (St.vl (vl_move rfl) rfl rfl ?_)
      refine O_go (gn rfl) (St.vl (vl_move rfl) rfl rfl ?_)
      refine O_go (gn rfl) (St.vl (vl_cap sl71 rfl) rfl rfl ?_)
      refine O_go (gn rfl) (St.vl (vl_cut_h sl71 sz69 rfl rfl _ rfl (by omega)) rfl rfl ?_)
      refine O_go (gn rfl) (St.vl (vl_move rfl) rfl rfl ?_)
      refine O_go (gn rfl) (st_appendMake ap71 it3_i64 rfl rfl rfl (IsSl.nil _ _ _) (fun p c he => by simp [cut] at he; omega) (by simp only [maxLen]; omega) (by omega) rfl ?_)
      intro b cap zs w22 hb c22 hge hle hzl hone k22
      refine O_go (gn rfl) (St.vl (vl_move rfl) rfl rfl ?_)
      refine O_go (gn rfl) (St.vl (vl_len sl71 rfl) rfl rfl ?_)
      refine O_go (gn rfl) (St.vl (vl_cut_h sl71 sz69 rfl rfl 0 rfl (by omega)) rfl rfl ?_)
      refine O_go (gn rfl) (St.vl (vl_assign rfl) rfl rfl ?_)
      refine O_end [0] (F' := [(0, _)]) rfl ?_
      refine W_seq ?_
      refine W_region ?_
      refine O_go (gn rfl) (St.vl (vl_move rfl) rfl rfl ?_)
      refine O_go (gn rfl) (St.vl (vl_assign rfl) rfl rfl ?_)
      refine O_end [4] (F' := [(4, _)]) rfl ?_
      refine W_ret ?_
      refine ret1 rfl rfl ?_
      have hsl : SlAt w22 69 2 b 0 (0 + n) cap ([] ++ zs) (((([] ++ zs) : List Value).drop 0).take ((0 + n) * 2)) := ⟨k22, hge, hle, by simp only [List.nil_append]; omega, rfl, hone⟩
      have hc := hsl.cut (l := 0) (h := 0) (m := cap) (Nat.le_refl _) (Nat.zero_le _) (Nat.le_refl _)
      refine ⟨by simpa using hc, fun x hx => ?_, c22⟩
      have := IsSl.cutBlk (len := 0) (cap := 0) x hx
      simp [blkOf] at this
      omega
    · refine W_skipE ?_
      refine W_seq ?_
      refine W_region ?_
      refine O_go (gn rfl) (St.vl (vl_move rfl) rfl rfl ?_)
      refine O_go (gn rfl) (St.vl (vl_assign rfl) rfl rfl ?_)
      refine O_end [4] (F' := [(4, _)]) rfl ?_
      refine W_ret ?_
      refine ret1 rfl rfl ?_
      exact ⟨IsSl.nil _ _ _, by simp [blkOf], Chg.refl _ _⟩

theorem f42 (v : Value) (us : List Value) (xss : List (List Value)) (w : World) (hu : IsSl w 65 1 v xss.length us) (ha : AllS w 71 1 us xss) (ht : sumTo 1 xss xss.length ≤ 4294967296) (hlen : xss.length ≤ 4294967296) :
    Ret Try.prog 42 #[v] w fun r w' => IsSl w' 71 1 r (sumTo 1 xss xss.length) xss.flatten ∧ (∀ b ∈ blkOf r, w.heap.size ≤ b) ∧ Chg [] w w' := by
  have part : ∀ (wx : World) (i : Nat), Chg [] w wx → i < xss.length → ∃ b off cap x p c, v = .slice (some ⟨b, off, none⟩) xss.length cap ∧ xss[i]? = some x ∧ wx.cell? ⟨b, off + i * 1, none⟩ = some (.slice p (x.length / 1) c) ∧ IsSl wx 71 1 (.slice p (x.length / 1) c) (x.length / 1) x := by
    intro wx i hc hi
    obtain ⟨b, off, cap, u, hv, hu', hcell⟩ := (hu.chg0 hc).at1 hi
    have hx : xss[i]? = some xss[i] := by simp [hi]
    obtain ⟨u', hu2, hs⟩ := (ha.chg0 hc).at hx
    rw [hu'] at hu2
    simp at hu2
    subst hu2
    obtain ⟨p, c, rfl, _⟩ := hs.val
    exact ⟨b, off, cap, _, p, c, hv, hx, hcell, hs⟩
  obtain ⟨pv, cv, rfl, _⟩ := hu.val
  refine Ret.of_W (args := [_]) Try.func42 rfl rfl rfl rfl ?_

  refine W_seq ?_
  refine W_region ?_
  refine O_go (gn rfl) (St.vl (vl_assign rfl) rfl rfl ?_)
  refine O_end [0] (F' := [(0, _)]) rfl ?_
  refine W_seq ?_
  refine W_region ?_
  refine O_go (gn rfl) (St.vl (vl_assign rfl) rfl rfl ?_)
  refine O_end [0, 3] (F' := [(0, _), (3, _)]) rfl ?_
  refine W_seq ?_
  refine W_seq ?_
  refine W_region ?_
  refine O_go (gn rfl) (St.vl (vl_move rfl) rfl rfl ?_)
  refine O_go (gn rfl) (St.vl (vl_len sl102 rfl) rfl rfl ?_)
  refine O_go (gn rfl) (St.vl (vl_move rfl) rfl rfl ?_)
  refine O_end [0, 3, 9, 10, 11] (F' := [(0, _), (3, _), (9, _), (10, _), (11, _)]) rfl ?_
  refine W_block ?_
  refine W_loop [0, 3, 9, 10, 11] (fun m F wx => wx = w ∧ ∃ j : Nat, m = xss.length - j ∧ j ≤ xss.length ∧ F = [(0, .slice pv xss.length cv), (3, .int .i64 (sumTo 1 xss j : Nat)), (9, .slice pv xss.length cv), (10, .int .i64 xss.length), (11, .int .i64 j)]) (m := xss.length - 0) ⟨rfl, 0, rfl, Nat.zero_le _, rfl⟩ ?_
  rintro m F wx ⟨rfl, j, rfl, hj, rfl⟩
  have hmj := sumTo_mono 1 xss hj
  refine W_seq ?_
  refine W_region ?_
  refine O_go (gn rfl) (St.vl (vl_lss rfl rfl) rfl rfl ?_)
  refine O_end [0, 3, 9, 10, 11, 12] (F' := [(0, _), (3, _), (9, _), (10, _), (11, _), (12, _)]) rfl ?_
  refine W_seq ?_
  refine W_cond rfl (fun hT => ?_) (fun hF => ?_)
  · refine W_skipE ?_
    have hlt : j < xss.length := by simpa using hT
    obtain ⟨b, off, cap, x, p, c, hv, hx, hcell, hs⟩ := part wx j (Chg.refl _ _) hlt
    cases hv
    have hsucc := sumTo_succ (k := 1) hx
    have hmj2 := sumTo_mono 1 xss (show j + 1 ≤ xss.length by omega)
    refine W_seq ?_
    refine W_block ?_
    refine W_seq ?_
    refine W_region ?_
    refine O_go (gn rfl) (St.vl (vl_indexAddr sl102 sz65 rfl rfl _ rfl hlt) rfl rfl ?_)
    refine O_go (gn rfl) (St.vl (vl_load ag65 rfl hcell) rfl rfl ?_)
    refine O_go (gn rfl) (St.vl (vl_assign rfl) rfl rfl ?_)
    refine O_end [0, 3, 5, 9, 10, 11] (F' := [(0, _), (3, _), (5, _), (9, _), (10, _), (11, _)]) rfl ?_
    refine W_seq ?_
    refine W_region ?_
    refine O_go (gn rfl) (St.vl (vl_move rfl) rfl rfl ?_)
    refine O_go (gn rfl) (St.vl (vl_move rfl) rfl rfl ?_)
    refine O_go (gn rfl) (St.vl (vl_len sl65 rfl) rfl rfl ?_)
    refine O_go (gn rfl) (St.vl (vl_add rfl rfl (by omega)) rfl rfl ?_)
    refine O_go (gn rfl) (St.vl (vl_assign rfl) rfl rfl ?_)
    refine O_end [0, 3, 9, 10, 11] (F' := [(0, _), (3, _), (9, _), (10, _), (11, _)]) rfl ?_
    refine W_seq ?_
    refine W_region ?_
    refine O_go (gn rfl) (St.vl (vl_move rfl) rfl rfl ?_)
    refine O_go (gn rfl) (St.vl (vl_lss rfl rfl) rfl rfl ?_)
    refine O_end [0, 3, 9, 10, 11, 20] (F' := [(0, _), (3, _), (9, _), (10, _), (11, _), (20, _)]) rfl ?_
    refine W_cond rfl (fun hT => ?_) (fun hF => ?_)
    · exfalso
      have := of_decide_eq_true hT
      omega
    · refine W_skip ?_
      refine block_normal ?_
      refine W_region ?_
      refine O_go (gn rfl) (St.vl (vl_add rfl rfl (by omega)) rfl rfl ?_)
      refine O_go (gn rfl) (St.vl (vl_move rfl) rfl rfl ?_)
      refine O_endN [0, 3, 9, 10, 11] (F' := [(0, _), (3, _), (9, _), (10, _), (11, _)]) rfl ?_
      refine ⟨xss.length - (j + 1), by omega, rfl, j + 1, rfl, by omega, ?_⟩
      rw [hsucc]
      rfl
  · have hge : ¬ j < xss.length := by simpa using hF
    obtain rfl : j = xss.length := by omega
    refine W_exit ?_
    repeat (first | refine then_exit ?_ | refine blockF_other rfl ?_)
    refine blockF_exit _ ?_
    refine W_seq ?_
    refine W_region ?_
    refine O_go (gn rfl) (St.vl (vl_move rfl) rfl rfl ?_)
    refine O_go (gn rfl) (st_call bd53 rfl rfl rfl rfl (f53 (sumTo 1 xss xss.length) wx ht) ?_)
    rintro v24 w24 ⟨i24, n24, c24⟩
    refine O_go (gn rfl) (St.vl (vl_assign rfl) rfl rfl ?_)
    refine O_end [0, 6] (F' := [(0, _), (6, _)]) rfl ?_
    refine W_seq ?_
    refine W_seq ?_
    refine W_region ?_
    refine O_go (gn rfl) (St.vl (vl_move rfl) rfl rfl ?_)
    refine O_go (gn rfl) (St.vl (vl_len sl102 rfl) rfl rfl ?_)
    refine O_go (gn rfl) (St.vl (vl_move rfl) rfl rfl ?_)
    refine O_end [6, 25, 26, 27] (F' := [(6, _), (25, _), (26, _), (27, _)]) rfl ?_
    refine W_block ?_
    refine W_loop [6, 25, 26, 27] (fun m F wy => ∃ (j : Nat) (acc : Value), m = xss.length - j ∧ j ≤ xss.length ∧ F = [(6, acc), (25, .slice pv xss.length cv), (26, .int .i64 xss.length), (27, .int .i64 j)] ∧ IsSl wy 71 1 acc (sumTo 1 xss j) (xss.take j).flatten ∧ (∀ b ∈ blkOf acc, wx.heap.size ≤ b) ∧ Chg [] wx wy) (m := xss.length - 0) ⟨0, v24, rfl, Nat.zero_le _, rfl, by simpa [sumTo] using i24, n24, c24⟩ ?_
    rintro m F wy ⟨j, acc, rfl, hj, rfl, hacc, hnew, hcy⟩
    have hmj := sumTo_mono 1 xss hj
    refine W_seq ?_
    refine W_region ?_
    refine O_go (gn rfl) (St.vl (vl_lss rfl rfl) rfl rfl ?_)
    refine O_end [6, 25, 26, 27, 28] (F' := [(6, _), (25, _), (26, _), (27, _), (28, _)]) rfl ?_
    refine W_seq ?_
    refine W_cond rfl (fun hT => ?_) (fun hF => ?_)
    · refine W_skipE ?_
      have hlt : j < xss.length := by simpa using hT
      obtain ⟨b, off, cap, x, p, c, hv, hx, hcell, hs⟩ := part wy j hcy hlt
      cases hv
      have hsucc := sumTo_succ (k := 1) hx
      have hmj2 := sumTo_mono 1 xss (show j + 1 ≤ xss.length by omega)
      refine W_seq ?_
      refine W_block ?_
      refine W_seq ?_
      refine W_region ?_
      refine O_go (gn rfl) (St.vl (vl_indexAddr sl102 sz65 rfl rfl _ rfl hlt) rfl rfl ?_)
      refine O_go (gn rfl) (St.vl (vl_load ag65 rfl hcell) rfl rfl ?_)
      refine O_go (gn rfl) (St.vl (vl_assign rfl) rfl rfl ?_)
      refine O_end [6, 8, 25, 26, 27] (F' := [(6, _), (8, _), (25, _), (26, _), (27, _)]) rfl ?_
      refine W_region ?_
      refine O_go (gn rfl) (St.vl (vl_move rfl) rfl rfl ?_)
      refine O_go (gn rfl) (St.vl (vl_move rfl) rfl rfl ?_)
      refine O_go (gn rfl) (st_append ap65 sl65 rfl rfl hacc hs (by simp only [maxLen]; omega) (by omega) rfl ?_)
      intro v33 w33 i33 c33 o33 z33
      refine O_go (gn rfl) (St.vl (vl_assign rfl) rfl rfl ?_)
      refine O_endN [6, 25, 26, 27] (F' := [(6, _), (25, _), (26, _), (27, _)]) rfl ?_
      refine block_normal ?_
      refine W_region ?_
      refine O_go (gn rfl) (St.vl (vl_add rfl rfl (by omega)) rfl rfl ?_)
      refine O_go (gn rfl) (St.vl (vl_move rfl) rfl rfl ?_)
      refine O_endN [6, 25, 26, 27] (F' := [(6, _), (25, _), (26, _), (27, _)]) rfl ?_
      refine ⟨xss.length - (j + 1), by omega, j + 1, v33, rfl, by omega, rfl, ?_, ?_, hcy.own c33 hnew⟩
      · rw [hsucc, flatten_take_succ hx]
        exact i33
      · rcases o33 with o33 | ⟨b', o33, hb'⟩
        · rw [o33]; exact hnew
        · rw [o33]; intro y hy; simp at hy; subst hy; have := hcy.size; omega
    · have hge : ¬ j < xss.length := by simpa using hF
      obtain rfl : j = xss.length := by omega
      refine W_exit ?_
      repeat (first | refine then_exit ?_ | refine blockF_other rfl ?_)
      refine blockF_exit _ ?_
      refine W_seq ?_
      refine W_region ?_
      refine O_go (gn rfl) (St.vl (vl_move rfl) rfl rfl ?_)
      refine O_go (gn rfl) (St.vl (vl_assign rfl) rfl rfl ?_)
      refine O_end [2] (F' := [(2, _)]) rfl ?_
      refine W_ret ?_
      refine ret1 rfl rfl ?_
      rw [List.take_length] at hacc
      exact ⟨hacc, hnew, hcy⟩

theorem f45 (v : Value) (us : List Value) (xss : List (List Value)) (w : World) (hu : IsSl w 71 1 v xss.length us) (ha : AllS w 69 2 us xss) (ht : sumTo 2 xss xss.length ≤ 4294967296) (hlen : xss.length ≤ 4294967296) :
    Ret Try.prog 45 #[v] w fun r w' => IsSl w' 69 2 r (sumTo 2 xss xss.length) xss.flatten ∧ (∀ b ∈ blkOf r, w.heap.size ≤ b) ∧ Chg [] w w' := by
  have part : ∀ (wx : World) (i : Nat), Chg [] w wx → i < xss.length → ∃ b off cap x p c, v = .slice (some ⟨b, off, none⟩) xss.length cap ∧ xss[i]? = some x ∧ wx.cell? ⟨b, off + i * 1, none⟩ = some (.slice p (x.length / 2) c) ∧ IsSl wx 69 2 (.slice p (x.length / 2) c) (x.length / 2) x := by
    intro wx i hc hi
    obtain ⟨b, off, cap, u, hv, hu', hcell⟩ := (hu.chg0 hc).at1 hi
    have hx : xss[i]? = some xss[i] := by simp [hi]
    obtain ⟨u', hu2, hs⟩ := (ha.chg0 hc).at hx
    rw [hu'] at hu2
    simp at hu2
    subst hu2
    obtain ⟨p, c, rfl, _⟩ := hs.val
    exact ⟨b, off, cap, _, p, c, hv, hx, hcell, hs⟩
  obtain ⟨pv, cv, rfl, _⟩ := hu.val
  refine Ret.of_W (args := [_]) Try.func45 rfl rfl rfl rfl ?_

  refine W_seq ?_
  refine W_region ?_
  refine O_go (gn rfl) (St.vl (vl_assign rfl) rfl rfl ?_)
  refine O_end [0] (F' := [(0, _)]) rfl ?_
  refine W_seq ?_
  refine W_region ?_
  refine O_go (gn rfl) (St.vl (vl_assign rfl) rfl rfl ?_)
  refine O_end [0, 3] (F' := [(0, _), (3, _)]) rfl ?_
  refine W_seq ?_
  refine W_seq ?_
  refine W_region ?_
  refine O_go (gn rfl) (St.vl (vl_move rfl) rfl rfl ?_)
  refine O_go (gn rfl) (St.vl (vl_len sl64 rfl) rfl rfl ?_)
  refine O_go (gn rfl) (St.vl (vl_move rfl) rfl rfl ?_)
  refine O_end [0, 3, 9, 10, 11] (F' := [(0, _), (3, _), (9, _), (10, _), (11, _)]) rfl ?_
  refine W_block ?_
  refine W_loop [0, 3, 9, 10, 11] (fun m F wx => wx = w ∧ ∃ j : Nat, m = xss.length - j ∧ j ≤ xss.length ∧ F = [(0, .slice pv xss.length cv), (3, .int .i64 (sumTo 2 xss j : Nat)), (9, .slice pv xss.length cv), (10, .int .i64 xss.length), (11, .int .i64 j)]) (m := xss.length - 0) ⟨rfl, 0, rfl, Nat.zero_le _, rfl⟩ ?_
  rintro m F wx ⟨rfl, j, rfl, hj, rfl⟩
  have hmj := sumTo_mono 2 xss hj
  refine W_seq ?_
  refine W_region ?_
  refine O_go (gn rfl) (St.vl (vl_lss rfl rfl) rfl rfl ?_)
  refine O_end [0, 3, 9, 10, 11, 12] (F' := [(0, _), (3, _), (9, _), (10, _), (11, _), (12, _)]) rfl ?_
  refine W_seq ?_
  refine W_cond rfl (fun hT => ?_) (fun hF => ?_)
  · refine W_skipE ?_
    have hlt : j < xss.length := by simpa using hT
    obtain ⟨b, off, cap, x, p, c, hv, hx, hcell, hs⟩ := part wx j (Chg.refl _ _) hlt
    cases hv
    have hsucc := sumTo_succ (k := 2) hx
    have hmj2 := sumTo_mono 2 xss (show j + 1 ≤ xss.length by omega)
    refine W_seq ?_
    refine W_block ?_
    refine W_seq ?_
    refine W_region ?_
    refine O_go (gn rfl) (St.vl (vl_indexAddr sl64 sz71 rfl rfl _ rfl hlt) rfl rfl ?_)
    refine O_go (gn rfl) (St.vl (vl_load ag71 rfl hcell) rfl rfl ?_)
    refine O_go (gn rfl) (St.vl (vl_assign rfl) rfl rfl ?_)
    refine O_end [0, 3, 5, 9, 10, 11] (F' := [(0, _), (3, _), (5, _), (9, _), (10, _), (11, _)]) rfl ?_
    refine W_seq ?_
    refine W_region ?_
    refine O_go (gn rfl) (St.vl (vl_move rfl) rfl rfl ?_)
    refine O_go (gn rfl) (St.vl (vl_move rfl) rfl rfl ?_)
    refine O_go (gn rfl) (St.vl (vl_len sl71 rfl) rfl rfl ?_)
    refine O_go (gn rfl) (St.vl (vl_add rfl rfl (by omega)) rfl rfl ?_)
    refine O_go (gn rfl) (St.vl (vl_assign rfl) rfl rfl ?_)
    refine O_end [0, 3, 9, 10, 11] (F' := [(0, _), (3, _), (9, _), (10, _), (11, _)]) rfl ?_
    refine W_seq ?_
    refine W_region ?_
    refine O_go (gn rfl) (St.vl (vl_move rfl) rfl rfl ?_)
    refine O_go (gn rfl) (St.vl (vl_lss rfl rfl) rfl rfl ?_)
    refine O_end [0, 3, 9, 10, 11, 20] (F' := [(0, _), (3, _), (9, _), (10, _), (11, _), (20, _)]) rfl ?_
    refine W_cond rfl (fun hT => ?_) (fun hF => ?_)
    · exfalso
      have := of_decide_eq_true hT
      omega
    · refine W_skip ?_
      refine block_normal ?_
      refine W_region ?_
      refine O_go (gn rfl) (St.vl (vl_add rfl rfl (by omega)) rfl rfl ?_)
      refine O_go (gn rfl) (St.vl (vl_move rfl) rfl rfl ?_)
      refine O_endN [0, 3, 9, 10, 11] (F' := [(0, _), (3, _), (9, _), (10, _), (11, _)]) rfl ?_
      refine ⟨xss.length - (j + 1), by omega, rfl, j + 1, rfl, by omega, ?_⟩
      rw [hsucc]
      rfl
  · have hge : ¬ j < xss.length := by simpa using hF
    obtain rfl : j = xss.length := by omega
    refine W_exit ?_
    repeat (first | refine then_exit ?_ | refine blockF_other rfl ?_)
    refine blockF_exit _ ?_
    refine W_seq ?_
    refine W_region ?_
    refine O_go (gn rfl) (St.vl (vl_move rfl) rfl rfl ?_)
    refine O_go (gn rfl) (st_call bd55 rfl rfl rfl rfl (f55 (sumTo 2 xss xss.length) wx ht) ?_)
    rintro v24 w24 ⟨i24, n24, c24⟩
    refine O_go (gn rfl) (St.vl (vl_assign rfl) rfl rfl ?_)
    refine O_end [0, 6] (F' := [(0, _), (6, _)]) rfl ?_
    refine W_seq ?_
    refine W_seq ?_
    refine W_region ?_
    refine O_go (gn rfl) (St.vl (vl_move rfl) rfl rfl ?_)
    refine O_go (gn rfl) (St.vl (vl_len sl64 rfl) rfl rfl ?_)
    refine O_go (gn rfl) (St.vl (vl_move rfl) rfl rfl ?_)
    refine O_end [6, 25, 26, 27] (F' := [(6, _), (25, _), (26, _), (27, _)]) rfl ?_
    refine W_block ?_
    refine W_loop [6, 25, 26, 27] (fun m F wy => ∃ (j : Nat) (acc : Value), m = xss.length - j ∧ j ≤ xss.length ∧ F = [(6, acc), (25, .slice pv xss.length cv), (26, .int .i64 xss.length), (27, .int .i64 j)] ∧ IsSl wy 69 2 acc (sumTo 2 xss j) (xss.take j).flatten ∧ (∀ b ∈ blkOf acc, wx.heap.size ≤ b) ∧ Chg [] wx wy) (m := xss.length - 0) ⟨0, v24, rfl, Nat.zero_le _, rfl, by simpa [sumTo] using i24, n24, c24⟩ ?_
    rintro m F wy ⟨j, acc, rfl, hj, rfl, hacc, hnew, hcy⟩
    have hmj := sumTo_mono 2 xss hj
    refine W_seq ?_
    refine W_region ?_
    refine O_go (gn rfl) (St.vl (vl_lss rfl rfl) rfl rfl ?_)
    refine O_end [6, 25, 26, 27, 28] (F' := [(6, _), (25, _), (26, _), (27, _), (28, _)]) rfl ?_
    refine W_seq ?_
    refine W_cond rfl (fun hT => ?_) (fun hF => ?_)
    · refine W_skipE ?_
      have hlt : j < xss.length := by simpa using hT
      obtain ⟨b, off, cap, x, p, c, hv, hx, hcell, hs⟩ := part wy j hcy hlt
      cases hv
      have hsucc := sumTo_succ (k := 2) hx
      have hmj2 := sumTo_mono 2 xss (show j + 1 ≤ xss.length by omega)
      refine W_seq ?_
      refine W_block ?_
      refine W_seq ?_
      refine W_region ?_
      refine O_go (gn rfl) (St.vl (vl_indexAddr sl64 sz71 rfl rfl _ rfl hlt) rfl rfl ?_)
      refine O_go (gn rfl) (St.vl (vl_load ag71 rfl hcell) rfl rfl ?_)
      refine O_go (gn rfl) (St.vl (vl_assign rfl) rfl rfl ?_)
      refine O_end [6, 8, 25, 26, 27] (F' := [(6, _), (8, _), (25, _), (26, _), (27, _)]) rfl ?_
      refine W_region ?_
      refine O_go (gn rfl) (St.vl (vl_move rfl) rfl rfl ?_)
      refine O_go (gn rfl) (St.vl (vl_move rfl) rfl rfl ?_)
      refine O_go (gn rfl) (st_append ap71 sl71 rfl rfl hacc hs (by simp only [maxLen]; omega) (by omega) rfl ?_)
      intro v33 w33 i33 c33 o33 z33
      refine O_go (gn rfl) (St.vl (vl_assign rfl) rfl rfl ?_)
      refine O_endN [6, 25, 26, 27] (F' := [(6, _), (25, _), (26, _), (27, _)]) rfl ?_
      refine block_normal ?_
      refine W_region ?_
      refine O_go (gn rfl) (St.vl (vl_add rfl rfl (by omega)) rfl rfl ?_)
      refine O_go (gn rfl) (St.vl (vl_move rfl) rfl rfl ?_)
      refine O_endN [6, 25, 26, 27] (F' := [(6, _), (25, _), (26, _), (27, _)]) rfl ?_
      refine ⟨xss.length - (j + 1), by omega, j + 1, v33, rfl, by omega, rfl, ?_, ?_, hcy.own c33 hnew⟩
      · rw [hsucc, flatten_take_succ hx]
        exact i33
      · rcases o33 with o33 | ⟨b', o33, hb'⟩
        · rw [o33]; exact hnew
        · rw [o33]; intro y hy; simp at hy; subst hy; have := hcy.size; omega
    · have hge : ¬ j < xss.length := by simpa using hF
      obtain rfl : j = xss.length := by omega
      refine W_exit ?_
      repeat (first | refine then_exit ?_ | refine blockF_other rfl ?_)
      refine blockF_exit _ ?_
      refine W_seq ?_
      refine W_region ?_
      refine O_go (gn rfl) (St.vl (vl_move rfl) rfl rfl ?_)
      refine O_go (gn rfl) (St.vl (vl_assign rfl) rfl rfl ?_)
      refine O_end [2] (F' := [(2, _)]) rfl ?_
      refine W_ret ?_
      refine ret1 rfl rfl ?_
      rw [List.take_length] at hacc
      exact ⟨hacc, hnew, hcy⟩
end Go.Wk

