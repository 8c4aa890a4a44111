/-
  slices.IndexFunc, ContainsFunc, Index, Contains.
  Layer schema: may a column, a set, a schema be?
  Layer schema: sets of places, schemas, Check.
  errors.Is and errors.As of numbered errors.
  errors.Is and errors.As, walked.
-/
import Derived.Test.YtcnkdoecfljnlaaGreatDoorQ8
set_option linter.all false
namespace Go.Wk
open Go.Proofs
set_option maxRecDepth 10000

theorem any_hit {α : Type} {p : α → Bool} {l : List α} {j : Nat} {x : α} (hx : l[j]? = some x) (h : p x = true) : l.any p = true := List.any_eq_true.2 ⟨x, List.mem_of_getElem? hx, h⟩
theorem any_step {α : Type} {p : α → Bool} {l : List α} {j : Nat} {x : α} (hx : l[j]? = some x) (h : p x = false) (ha : (l.take j).any p = false) : (l.take (j + 1)).any p = false := by
  rw [List.take_add_one, hx, List.any_append, ha]
  simp [h]

theorem ix_col {α : Type} {f : α → List Value} (hf : ∀ x, (f x).length = 4) (v : Value) (l : List α) (p : α → Bool) (g : Nat) (lb : List Value) (w : World) (hl : Arr w 25 4 f v l) (hn : l.length ≤ 1048576) (hg : bodied Tryz.prog g = true)
    (hp : ∀ x ∈ l, ∀ w1, Chg [] w w1 → Ret Tryz.prog g (Value.agg (f x).toArray :: lb).toArray w1 fun r w2 => r = .bool (p x) ∧ Chg [] w1 w2) :
    Ret Tryz.prog 150 #[v, .func (.func g) #[] lb.toArray] w fun r w' => ∃ i : Int, r = .int .i64 i ∧ decide (0 ≤ i) = l.any p ∧ Chg [] w w' := by
  obtain ⟨pv, cv, hval, hle⟩ := Arr.val hl
  refine Ret.of_W (args := [_, _]) Tryz.func150 rfl rfl rfl rfl ?_

  refine Sr (Oa rfl rfl (O_end [0, 1] (F' := [(0, _), (1, _)]) rfl (W_seq (W_seq ?_))))
  subst hval
  refine W_region (Om rfl rfl (Og (vl_len sl26 rfl) rfl (Om rfl rfl (O_end [0, 1, 7, 8] (F' := [(0, _), (1, _), (7, _), (8, _)]) rfl (W_block ?_)))))
  refine W_loop [0, 1, 7, 8] (fun m F wx => ∃ j : Nat, m = l.length - j ∧ j ≤ l.length ∧ F = [(0, .slice pv l.length cv), (1, .func (.func g) #[] lb.toArray), (7, .int .i64 l.length), (8, .int .i64 j)] ∧ Chg [] w wx ∧ (l.take j).any p = false) (m := l.length - 0) ⟨0, rfl, Nat.zero_le _, rfl, Chg.refl _ _, by simp⟩ ?_
  rintro m F wx ⟨j, rfl, hj, rfl, hcx, hno⟩
  refine Sr (Og (vl_lss rfl rfl) rfl (O_end [0, 1, 7, 8, 9] (F' := [(0, _), (1, _), (7, _), (8, _), (9, _)]) rfl (W_seq ?_)))
  refine W_cond rfl (fun hT => ?_) (fun hF => ?_)
  · refine W_skipE ?_
    have hlt : j < l.length := by have := of_decide_eq_true hT; omega
    have hx : l[j]? = some l[j] := by simp [hlt]
    generalize l[j] = x at hx
    obtain ⟨b, off, cap, hv, hcell⟩ := Arr.at hf (Arr.chg0 hl hcx) hx
    cases hv
    refine W_seq (W_block (Sr (Om rfl rfl (Oa rfl rfl (O_end [0, 1, 5, 7, 8] (F' := [(0, _), (1, _), (5, _), (7, _), (8, _)]) rfl (Sr (Om rfl rfl (Om rfl rfl (Om rfl rfl ?_)))))))))
    refine Og (vl_indexAddr sl26 sz25 rfl rfl _ rfl hlt) rfl ?_
    refine Og (vl_loadAgg ag25 sz25 rfl (hf _) hcell) rfl ?_
    refine O_go (gn rfl) (st_call hg rfl rfl rfl rfl (hp x (List.mem_of_getElem? hx) _ hcx) ?_)
    rintro v16 w16 ⟨rfl, c16⟩
    refine O_end [0, 1, 5, 7, 8, 16] (F' := [(0, _), (1, _), (5, _), (7, _), (8, _), (16, _)]) rfl ?_
    cases hpx : p x with
    | true =>
      refine W_cond_true rfl (Sr (Om rfl rfl (Oa rfl rfl (O_end [4] (F' := [(4, _)]) rfl (W_ret ?_)))))
      repeat (first | refine then_ret ?_ | refine block_ret ?_)
      refine ret1 rfl rfl ?_
      exact ⟨_, rfl, by rw [any_hit hx hpx]; simp, hcx.trans c16⟩
    | false =>
      refine W_cond_false rfl (W_skip (block_normal (W_region ?_)))
      refine Og (vl_add rfl rfl (by omega)) rfl ?_
      refine Om rfl rfl ?_
      refine O_endN [0, 1, 7, 8] (F' := [(0, _), (1, _), (7, _), (8, _)]) rfl ?_
      exact ⟨l.length - (j + 1), by omega, j + 1, rfl, by omega, rfl, hcx.trans c16, any_step hx hpx hno⟩
  · refine W_exit ?_
    repeat (first | refine then_exit ?_ | refine blockF_other rfl ?_)
    refine blockF_exit _ ?_
    have he : l.length ≤ j := by have := of_decide_eq_false hF; omega
    refine Sr (Oa rfl rfl (O_end [4] (F' := [(4, _)]) rfl (W_ret ?_)))
    repeat (first | refine then_ret ?_ | refine block_ret ?_)
    refine ret1 rfl rfl ?_
    rw [List.take_of_length_le he] at hno
    exact ⟨_, rfl, by rw [hno]; rfl, hcx⟩
theorem cf_col {α : Type} {f : α → List Value} (hf : ∀ x, (f x).length = 4) (v : Value) (l : List α) (p : α → Bool) (g : Nat) (lb : List Value) (w : World) (hl : Arr w 25 4 f v l) (hn : l.length ≤ 1048576) (hg : bodied Tryz.prog g = true)
    (hp : ∀ x ∈ l, ∀ w1, Chg [] w w1 → Ret Tryz.prog g (Value.agg (f x).toArray :: lb).toArray w1 fun r w2 => r = .bool (p x) ∧ Chg [] w1 w2) :
    Ret Tryz.prog 113 #[v, .func (.func g) #[] lb.toArray] w fun r w' => r = .bool (l.any p) ∧ Chg [] w w' := by
  refine Ret.of_W (args := [_, _]) Tryz.func113 rfl rfl rfl rfl ?_

  refine Sr (Oa rfl rfl (O_end [0, 1] (F' := [(0, _), (1, _)]) rfl (Sr (Om rfl rfl (Om rfl rfl ?_)))))
  refine O_go (gn rfl) (st_call bd150 rfl rfl rfl rfl (ix_col hf v l p g lb _ hl hn hg hp) ?_)
  rintro v7 w7 ⟨i, rfl, hi, c7⟩
  refine Og (vl_geq rfl rfl) rfl ?_
  refine Oa rfl rfl (O_end [4] (F' := [(4, _)]) rfl (W_ret ?_))
  refine ret1 rfl rfl ?_
  exact ⟨by rw [← hi], c7⟩

theorem ix_val {α : Type} {f : α → List Value} (hf : ∀ x, (f x).length = 4) (v : Value) (l : List α) (p : α → Bool) (g : Nat) (lb : List Value) (w : World) (hl : Arr w 40 4 f v l) (hn : l.length ≤ 1048576) (hg : bodied Tryz.prog g = true)
    (hp : ∀ x ∈ l, ∀ w1, Chg [] w w1 → Ret Tryz.prog g (Value.agg (f x).toArray :: lb).toArray w1 fun r w2 => r = .bool (p x) ∧ Chg [] w1 w2) :
    Ret Tryz.prog 145 #[v, .func (.func g) #[] lb.toArray] w fun r w' => ∃ i : Int, r = .int .i64 i ∧ decide (0 ≤ i) = l.any p ∧ Chg [] w w' := by
  obtain ⟨pv, cv, hval, hle⟩ := Arr.val hl
  refine Ret.of_W (args := [_, _]) Tryz.func145 rfl rfl rfl rfl ?_

  refine Sr (Oa rfl rfl (O_end [0, 1] (F' := [(0, _), (1, _)]) rfl (W_seq (W_seq ?_))))
  subst hval
  refine W_region (Om rfl rfl (Og (vl_len sl48 rfl) rfl (Om rfl rfl (O_end [0, 1, 7, 8] (F' := [(0, _), (1, _), (7, _), (8, _)]) rfl (W_block ?_)))))
  refine W_loop [0, 1, 7, 8] (fun m F wx => ∃ j : Nat, m = l.length - j ∧ j ≤ l.length ∧ F = [(0, .slice pv l.length cv), (1, .func (.func g) #[] lb.toArray), (7, .int .i64 l.length), (8, .int .i64 j)] ∧ Chg [] w wx ∧ (l.take j).any p = false) (m := l.length - 0) ⟨0, rfl, Nat.zero_le _, rfl, Chg.refl _ _, by simp⟩ ?_
  rintro m F wx ⟨j, rfl, hj, rfl, hcx, hno⟩
  refine Sr (Og (vl_lss rfl rfl) rfl (O_end [0, 1, 7, 8, 9] (F' := [(0, _), (1, _), (7, _), (8, _), (9, _)]) rfl (W_seq ?_)))
  refine W_cond rfl (fun hT => ?_) (fun hF => ?_)
  · refine W_skipE ?_
    have hlt : j < l.length := by have := of_decide_eq_true hT; omega
    have hx : l[j]? = some l[j] := by simp [hlt]
    generalize l[j] = x at hx
    obtain ⟨b, off, cap, hv, hcell⟩ := Arr.at hf (Arr.chg0 hl hcx) hx
    cases hv
    refine W_seq (W_block (Sr (Om rfl rfl (Oa rfl rfl (O_end [0, 1, 5, 7, 8] (F' := [(0, _), (1, _), (5, _), (7, _), (8, _)]) rfl (Sr (Om rfl rfl (Om rfl rfl (Om rfl rfl ?_)))))))))
    refine Og (vl_indexAddr sl48 sz40 rfl rfl _ rfl hlt) rfl ?_
    refine Og (vl_loadAgg ag40 sz40 rfl (hf _) hcell) rfl ?_
    refine O_go (gn rfl) (st_call hg rfl rfl rfl rfl (hp x (List.mem_of_getElem? hx) _ hcx) ?_)
    rintro v16 w16 ⟨rfl, c16⟩
    refine O_end [0, 1, 5, 7, 8, 16] (F' := [(0, _), (1, _), (5, _), (7, _), (8, _), (16, _)]) rfl ?_
    cases hpx : p x with
    | true =>
      refine W_cond_true rfl (Sr (Om rfl rfl (Oa rfl rfl (O_end [4] (F' := [(4, _)]) rfl (W_ret ?_)))))
      repeat (first | refine then_ret ?_ | refine block_ret ?_)
      refine ret1 rfl rfl ?_
      exact ⟨_, rfl, by rw [any_hit hx hpx]; simp, hcx.trans c16⟩
    | false =>
      refine W_cond_false rfl (W_skip (block_normal (W_region ?_)))
      refine Og (vl_add rfl rfl (by omega)) rfl ?_
      refine Om rfl rfl ?_
      refine O_endN [0, 1, 7, 8] (F' := [(0, _), (1, _), (7, _), (8, _)]) rfl ?_
      exact ⟨l.length - (j + 1), by omega, j + 1, rfl, by omega, rfl, hcx.trans c16, any_step hx hpx hno⟩
  · refine W_exit ?_
    repeat (first | refine then_exit ?_ | refine blockF_other rfl ?_)
    refine blockF_exit _ ?_
    have he : l.length ≤ j := by have := of_decide_eq_false hF; omega
    refine Sr (Oa rfl rfl (O_end [4] (F' := [(4, _)]) rfl (W_ret ?_)))
    repeat (first | refine then_ret ?_ | refine block_ret ?_)
    refine ret1 rfl rfl ?_
    rw [List.take_of_length_le he] at hno
    exact ⟨_, rfl, by rw [hno]; rfl, hcx⟩
theorem cf_val {α : Type} {f : α → List Value} (hf : ∀ x, (f x).length = 4) (v : Value) (l : List α) (p : α → Bool) (g : Nat) (lb : List Value) (w : World) (hl : Arr w 40 4 f v l) (hn : l.length ≤ 1048576) (hg : bodied Tryz.prog g = true)
    (hp : ∀ x ∈ l, ∀ w1, Chg [] w w1 → Ret Tryz.prog g (Value.agg (f x).toArray :: lb).toArray w1 fun r w2 => r = .bool (p x) ∧ Chg [] w1 w2) :
    Ret Tryz.prog 104 #[v, .func (.func g) #[] lb.toArray] w fun r w' => r = .bool (l.any p) ∧ Chg [] w w' := by
  refine Ret.of_W (args := [_, _]) Tryz.func104 rfl rfl rfl rfl ?_

  refine Sr (Oa rfl rfl (O_end [0, 1] (F' := [(0, _), (1, _)]) rfl (Sr (Om rfl rfl (Om rfl rfl ?_)))))
  refine O_go (gn rfl) (st_call bd145 rfl rfl rfl rfl (ix_val hf v l p g lb _ hl hn hg hp) ?_)
  rintro v7 w7 ⟨i, rfl, hi, c7⟩
  refine Og (vl_geq rfl rfl) rfl ?_
  refine Oa rfl rfl (O_end [4] (F' := [(4, _)]) rfl (W_ret ?_))
  refine ret1 rfl rfl ?_
  exact ⟨by rw [← hi], c7⟩

theorem ix_int (v : Value) (l : List Int) (p : Int → Bool) (g : Nat) (lb : List Value) (w : World) (hl : IsInts w v l) (hn : l.length ≤ 1048576) (hg : bodied Tryz.prog g = true)
    (hp : ∀ x ∈ l, ∀ w1, Chg [] w w1 → Ret Tryz.prog g (Value.int .i64 x :: lb).toArray w1 fun r w2 => r = .bool (p x) ∧ Chg [] w1 w2) :
    Ret Tryz.prog 151 #[v, .func (.func g) #[] lb.toArray] w fun r w' => ∃ i : Int, r = .int .i64 i ∧ decide (0 ≤ i) = l.any p ∧ Chg [] w w' := by
  obtain ⟨pv, cv, hval, hle⟩ := Arr.val hl
  refine Ret.of_W (args := [_, _]) Tryz.func151 rfl rfl rfl rfl ?_

  refine Sr (Oa rfl rfl (O_end [0, 1] (F' := [(0, _), (1, _)]) rfl (W_seq (W_seq ?_))))
  subst hval
  refine W_region (Om rfl rfl (Og (vl_len sl27 rfl) rfl (Om rfl rfl (O_end [0, 1, 7, 8] (F' := [(0, _), (1, _), (7, _), (8, _)]) rfl (W_block ?_)))))
  refine W_loop [0, 1, 7, 8] (fun m F wx => ∃ j : Nat, m = l.length - j ∧ j ≤ l.length ∧ F = [(0, .slice pv l.length cv), (1, .func (.func g) #[] lb.toArray), (7, .int .i64 l.length), (8, .int .i64 j)] ∧ Chg [] w wx ∧ (l.take j).any p = false) (m := l.length - 0) ⟨0, rfl, Nat.zero_le _, rfl, Chg.refl _ _, by simp⟩ ?_
  rintro m F wx ⟨j, rfl, hj, rfl, hcx, hno⟩
  refine Sr (Og (vl_lss rfl rfl) rfl (O_end [0, 1, 7, 8, 9] (F' := [(0, _), (1, _), (7, _), (8, _), (9, _)]) rfl (W_seq ?_)))
  refine W_cond rfl (fun hT => ?_) (fun hF => ?_)
  · refine W_skipE ?_
    have hlt : j < l.length := by have := of_decide_eq_true hT; omega
    have hx : l[j]? = some l[j] := by simp [hlt]
    generalize l[j] = x at hx
    obtain ⟨b, off, cap, hv, hcell⟩ := IsInts.cell (Arr.chg0 hl hcx) hx
    cases hv
    refine W_seq (W_block (Sr (Om rfl rfl (Oa rfl rfl (O_end [0, 1, 5, 7, 8] (F' := [(0, _), (1, _), (5, _), (7, _), (8, _)]) rfl (Sr (Om rfl rfl (Om rfl rfl (Om rfl rfl ?_)))))))))
    refine Og (vl_indexAddr sl27 sz3 rfl rfl _ rfl hlt) rfl ?_
    refine Og (vl_load ag3 rfl hcell) rfl ?_
    refine O_go (gn rfl) (st_call hg rfl rfl rfl rfl (hp x (List.mem_of_getElem? hx) _ hcx) ?_)
    rintro v16 w16 ⟨rfl, c16⟩
    refine O_end [0, 1, 5, 7, 8, 16] (F' := [(0, _), (1, _), (5, _), (7, _), (8, _), (16, _)]) rfl ?_
    cases hpx : p x with
    | true =>
      refine W_cond_true rfl (Sr (Om rfl rfl (Oa rfl rfl (O_end [4] (F' := [(4, _)]) rfl (W_ret ?_)))))
      repeat (first | refine then_ret ?_ | refine block_ret ?_)
      refine ret1 rfl rfl ?_
      exact ⟨_, rfl, by rw [any_hit hx hpx]; simp, hcx.trans c16⟩
    | false =>
      refine W_cond_false rfl (W_skip (block_normal (W_region ?_)))
      refine Og (vl_add rfl rfl (by omega)) rfl ?_
      refine Om rfl rfl ?_
      refine O_endN [0, 1, 7, 8] (F' := [(0, _), (1, _), (7, _), (8, _)]) rfl ?_
      exact ⟨l.length - (j + 1), by omega, j + 1, rfl, by omega, rfl, hcx.trans c16, any_step hx hpx hno⟩
  · refine W_exit ?_
    repeat (first | refine then_exit ?_ | refine blockF_other rfl ?_)
    refine blockF_exit _ ?_
    have he : l.length ≤ j := by have := of_decide_eq_false hF; omega
    refine Sr (Oa rfl rfl (O_end [4] (F' := [(4, _)]) rfl (W_ret ?_)))
    repeat (first | refine then_ret ?_ | refine block_ret ?_)
    refine ret1 rfl rfl ?_
    rw [List.take_of_length_le he] at hno
    exact ⟨_, rfl, by rw [hno]; rfl, hcx⟩
theorem cf_int (v : Value) (l : List Int) (p : Int → Bool) (g : Nat) (lb : List Value) (w : World) (hl : IsInts w v l) (hn : l.length ≤ 1048576) (hg : bodied Tryz.prog g = true)
    (hp : ∀ x ∈ l, ∀ w1, Chg [] w w1 → Ret Tryz.prog g (Value.int .i64 x :: lb).toArray w1 fun r w2 => r = .bool (p x) ∧ Chg [] w1 w2) :
    Ret Tryz.prog 116 #[v, .func (.func g) #[] lb.toArray] w fun r w' => r = .bool (l.any p) ∧ Chg [] w w' := by
  refine Ret.of_W (args := [_, _]) Tryz.func116 rfl rfl rfl rfl ?_

  refine Sr (Oa rfl rfl (O_end [0, 1] (F' := [(0, _), (1, _)]) rfl (Sr (Om rfl rfl (Om rfl rfl ?_)))))
  refine O_go (gn rfl) (st_call bd151 rfl rfl rfl rfl (ix_int v l p g lb _ hl hn hg hp) ?_)
  rintro v7 w7 ⟨i, rfl, hi, c7⟩
  refine Og (vl_geq rfl rfl) rfl ?_
  refine Oa rfl rfl (O_end [4] (F' := [(4, _)]) rfl (W_ret ?_))
  refine ret1 rfl rfl ?_
  exact ⟨by rw [← hi], c7⟩

theorem ix_ints (v : Value) (l : List (List Int)) (p : List Int → Bool) (g : Nat) (lb : List Value) (w : World) (hl : IsIntss w v l) (hn : l.length ≤ 1048576) (hg : bodied Tryz.prog g = true)
    (hp : ∀ x ∈ l, ∀ u w1, Chg [] w w1 → IsInts w1 u x → Ret Tryz.prog g (u :: lb).toArray w1 fun r w2 => r = .bool (p x) ∧ Chg [] w1 w2) :
    Ret Tryz.prog 152 #[v, .func (.func g) #[] lb.toArray] w fun r w' => ∃ i : Int, r = .int .i64 i ∧ decide (0 ≤ i) = l.any p ∧ Chg [] w w' := by
  obtain ⟨pv, cv, hval, hle⟩ := Arr2.val hl
  refine Ret.of_W (args := [_, _]) Tryz.func152 rfl rfl rfl rfl ?_

  refine Sr (Oa rfl rfl (O_end [0, 1] (F' := [(0, _), (1, _)]) rfl (W_seq (W_seq ?_))))
  subst hval
  refine W_region (Om rfl rfl (Og (vl_len sl28 rfl) rfl (Om rfl rfl (O_end [0, 1, 7, 8] (F' := [(0, _), (1, _), (7, _), (8, _)]) rfl (W_block ?_)))))
  refine W_loop [0, 1, 7, 8] (fun m F wx => ∃ j : Nat, m = l.length - j ∧ j ≤ l.length ∧ F = [(0, .slice pv l.length cv), (1, .func (.func g) #[] lb.toArray), (7, .int .i64 l.length), (8, .int .i64 j)] ∧ Chg [] w wx ∧ (l.take j).any p = false) (m := l.length - 0) ⟨0, rfl, Nat.zero_le _, rfl, Chg.refl _ _, by simp⟩ ?_
  rintro m F wx ⟨j, rfl, hj, rfl, hcx, hno⟩
  refine Sr (Og (vl_lss rfl rfl) rfl (O_end [0, 1, 7, 8, 9] (F' := [(0, _), (1, _), (7, _), (8, _), (9, _)]) rfl (W_seq ?_)))
  refine W_cond rfl (fun hT => ?_) (fun hF => ?_)
  · refine W_skipE ?_
    have hlt : j < l.length := by have := of_decide_eq_true hT; omega
    have hx : l[j]? = some l[j] := by simp [hlt]
    generalize l[j] = x at hx
    obtain ⟨b, off, cap, u, hv, hcell, hu⟩ := Arr2.at (hl.chg0 hcx) hx
    cases hv
    refine W_seq (W_block (Sr (Om rfl rfl (Oa rfl rfl (O_end [0, 1, 5, 7, 8] (F' := [(0, _), (1, _), (5, _), (7, _), (8, _)]) rfl (Sr (Om rfl rfl (Om rfl rfl (Om rfl rfl ?_)))))))))
    refine Og (vl_indexAddr sl28 sz27 rfl rfl _ rfl hlt) rfl ?_
    refine Og (vl_load ag27 rfl hcell) rfl ?_
    refine O_go (gn rfl) (st_call hg rfl rfl rfl rfl (hp x (List.mem_of_getElem? hx) u _ hcx hu) ?_)
    rintro v16 w16 ⟨rfl, c16⟩
    refine O_end [0, 1, 5, 7, 8, 16] (F' := [(0, _), (1, _), (5, _), (7, _), (8, _), (16, _)]) rfl ?_
    cases hpx : p x with
    | true =>
      refine W_cond_true rfl (Sr (Om rfl rfl (Oa rfl rfl (O_end [4] (F' := [(4, _)]) rfl (W_ret ?_)))))
      repeat (first | refine then_ret ?_ | refine block_ret ?_)
      refine ret1 rfl rfl ?_
      exact ⟨_, rfl, by rw [any_hit hx hpx]; simp, hcx.trans c16⟩
    | false =>
      refine W_cond_false rfl (W_skip (block_normal (W_region ?_)))
      refine Og (vl_add rfl rfl (by omega)) rfl ?_
      refine Om rfl rfl ?_
      refine O_endN [0, 1, 7, 8] (F' := [(0, _), (1, _), (7, _), (8, _)]) rfl ?_
      exact ⟨l.length - (j + 1), by omega, j + 1, rfl, by omega, rfl, hcx.trans c16, any_step hx hpx hno⟩
  · refine W_exit ?_
    repeat (first | refine then_exit ?_ | refine blockF_other rfl ?_)
    refine blockF_exit _ ?_
    have he : l.length ≤ j := by have := of_decide_eq_false hF; omega
    refine Sr (Oa rfl rfl (O_end [4] (F' := [(4, _)]) rfl (W_ret ?_)))
    repeat (first | refine then_ret ?_ | refine block_ret ?_)
    refine ret1 rfl rfl ?_
    rw [List.take_of_length_le he] at hno
    exact ⟨_, rfl, by rw [hno]; rfl, hcx⟩
theorem cf_ints (v : Value) (l : List (List Int)) (p : List Int → Bool) (g : Nat) (lb : List Value) (w : World) (hl : IsIntss w v l) (hn : l.length ≤ 1048576) (hg : bodied Tryz.prog g = true)
    (hp : ∀ x ∈ l, ∀ u w1, Chg [] w w1 → IsInts w1 u x → Ret Tryz.prog g (u :: lb).toArray w1 fun r w2 => r = .bool (p x) ∧ Chg [] w1 w2) :
    Ret Tryz.prog 117 #[v, .func (.func g) #[] lb.toArray] w fun r w' => r = .bool (l.any p) ∧ Chg [] w w' := by
  refine Ret.of_W (args := [_, _]) Tryz.func117 rfl rfl rfl rfl ?_

  refine Sr (Oa rfl rfl (O_end [0, 1] (F' := [(0, _), (1, _)]) rfl (Sr (Om rfl rfl (Om rfl rfl ?_)))))
  refine O_go (gn rfl) (st_call bd152 rfl rfl rfl rfl (ix_ints v l p g lb _ hl hn hg hp) ?_)
  rintro v7 w7 ⟨i, rfl, hi, c7⟩
  refine Og (vl_geq rfl rfl) rfl ?_
  refine Oa rfl rfl (O_end [4] (F' := [(4, _)]) rfl (W_ret ?_))
  refine ret1 rfl rfl ?_
  exact ⟨by rw [← hi], c7⟩

theorem ix_index (v : Value) (l : List Int) (c : Int) (w : World) (hl : IsInts w v l) (hn : l.length ≤ 1048576) :
    Ret Tryz.prog 206 #[v, .int .i64 c] w fun r w' => ∃ i : Int, r = .int .i64 i ∧ decide (0 ≤ i) = decide (c ∈ l) ∧ w' = w := by
  obtain ⟨pv, cv, hval, hle⟩ := Arr.val hl
  refine Ret.of_W (args := [_, _]) Tryz.func206 rfl rfl rfl rfl ?_

  refine Sr (Oa rfl rfl (O_end [0, 1] (F' := [(0, _), (1, _)]) rfl (W_seq (W_seq ?_))))
  subst hval
  refine W_region (Om rfl rfl (Og (vl_len sl27 rfl) rfl (Om rfl rfl (O_end [0, 1, 7, 8] (F' := [(0, _), (1, _), (7, _), (8, _)]) rfl (W_block ?_)))))
  refine W_loop [0, 1, 7, 8] (fun m F wx => wx = w ∧ ∃ j : Nat, m = l.length - j ∧ j ≤ l.length ∧ F = [(0, .slice pv l.length cv), (1, .int .i64 c), (7, .int .i64 l.length), (8, .int .i64 j)] ∧ c ∉ l.take j) (m := l.length - 0) ⟨rfl, 0, rfl, Nat.zero_le _, rfl, by simp⟩ ?_
  rintro m F wx ⟨hwx, j, rfl, hj, rfl, hno⟩
  subst wx
  refine Sr (Og (vl_lss rfl rfl) rfl (O_end [0, 1, 7, 8, 9] (F' := [(0, _), (1, _), (7, _), (8, _), (9, _)]) rfl (W_seq ?_)))
  refine W_cond rfl (fun hT => ?_) (fun hF => ?_)
  · refine W_skipE ?_
    have hlt : j < l.length := by have := of_decide_eq_true hT; omega
    have hx : l[j]? = some l[j] := by simp [hlt]
    generalize l[j] = x at hx
    obtain ⟨b, off, cap, hv, hcell⟩ := IsInts.cell hl hx
    cases hv
    refine W_seq (W_block (Sr (Om rfl rfl (Oa rfl rfl (O_end [0, 1, 5, 7, 8] (F' := [(0, _), (1, _), (5, _), (7, _), (8, _)]) rfl (Sr (Om rfl rfl (Om rfl rfl (Om rfl rfl ?_)))))))))
    refine Og (vl_indexAddr sl27 sz3 rfl rfl _ rfl hlt) rfl ?_
    refine Og (vl_load ag3 rfl hcell) rfl ?_
    refine Og (vl_ieq rfl rfl) rfl (O_end [0, 1, 5, 7, 8, 16] (F' := [(0, _), (1, _), (5, _), (7, _), (8, _), (16, _)]) rfl ?_)
    refine W_cond rfl (fun hT => ?_) (fun hF => ?_)
    · have he : c = x := of_decide_eq_true hT
      refine Sr (Om rfl rfl (Oa rfl rfl (O_end [4] (F' := [(4, _)]) rfl (W_ret ?_))))
      repeat (first | refine then_ret ?_ | refine block_ret ?_)
      refine ret1 rfl rfl ?_
      have hm : c ∈ l := he ▸ List.mem_of_getElem? hx
      exact ⟨_, rfl, by simp [hm], rfl⟩
    · have he : c ≠ x := of_decide_eq_false hF
      refine W_skip (block_normal (W_region ?_))
      refine Og (vl_add rfl rfl (by omega)) rfl ?_
      refine Om rfl rfl ?_
      refine O_endN [0, 1, 7, 8] (F' := [(0, _), (1, _), (7, _), (8, _)]) rfl ?_
      refine ⟨l.length - (j + 1), by omega, rfl, j + 1, rfl, by omega, rfl, ?_⟩
      rw [List.take_add_one, hx]
      simp [hno, he]
  · refine W_exit ?_
    repeat (first | refine then_exit ?_ | refine blockF_other rfl ?_)
    refine blockF_exit _ ?_
    have he : l.length ≤ j := by have := of_decide_eq_false hF; omega
    refine Sr (Oa rfl rfl (O_end [4] (F' := [(4, _)]) rfl (W_ret ?_)))
    repeat (first | refine then_ret ?_ | refine block_ret ?_)
    refine ret1 rfl rfl ?_
    rw [List.take_of_length_le he] at hno
    exact ⟨_, rfl, by simp [hno], rfl⟩
theorem ix_contains (v : Value) (l : List Int) (c : Int) (w : World) (hl : IsInts w v l) (hn : l.length ≤ 1048576) :
    Ret Tryz.prog 147 #[v, .int .i64 c] w fun r w' => r = .bool (decide (c ∈ l)) ∧ w' = w := by
  refine Ret.of_W (args := [_, _]) Tryz.func147 rfl rfl rfl rfl ?_

  refine Sr (Oa rfl rfl (O_end [0, 1] (F' := [(0, _), (1, _)]) rfl (Sr (Om rfl rfl (Om rfl rfl ?_)))))
  refine O_go (gn rfl) (st_call bd206 rfl rfl rfl rfl (ix_index v l c _ hl hn) ?_)
  rintro v7 w7 ⟨i, rfl, hi, rfl⟩
  refine Og (vl_geq rfl rfl) rfl ?_
  refine Oa rfl rfl (O_end [4] (F' := [(4, _)]) rfl (W_ret ?_))
  refine ret1 rfl rfl ?_
  exact ⟨by rw [← hi], rfl⟩
end Go.Wk

namespace Go.Wk
open Go.Proofs
set_option maxRecDepth 10000

def sKind (s k f : Nat) : Value := .agg #[.func (.func s) #[] #[], .int .i64 k, .func (.func f) #[] #[]]
def sKinds : List (Int × Value) := [(1, sKind 207 1 208), (2, sKind 207 2 209), (3, sKind 210 3 211), (4, sKind 212 4 213)]
theorem s_kinds (w : World) : Ret Tryz.prog 148 #[] w fun r w' => ∃ b, r = .map (some b) ∧ w.heap.size ≤ b ∧ IsMapK (intK .i64) w' b sKinds ∧ Chg [] w w' := by
  refine Ret.of_W (args := []) Tryz.func148 rfl rfl rfl rfl ?_

  refine Sr (Oa rfl rfl (O_end [] (F' := []) rfl (Sr ?_)))
  refine O_go (gn rfl) (st_makeMapK (intK .i64) rfl ?_)
  intro b1 w1 e1 n1 c1 k1
  refine Og (vl_build pl259 zr259 rfl (vs := [_, _, _]) rfl (css := [_, _, _]) ⟨rfl, rfl, rfl, trivial⟩ rfl rfl (cs := [_, _, _]) rfl) rfl ?_
  refine O_go (gn rfl) (st_insK (κ := intK .i64) mp261 (itOf_und it23_i64) rfl rfl rfl k1 ?_)
  intro wA nA cA kA
  refine Og (vl_build pl259 zr259 rfl (vs := [_, _, _]) rfl (css := [_, _, _]) ⟨rfl, rfl, rfl, trivial⟩ rfl rfl (cs := [_, _, _]) rfl) rfl ?_
  refine O_go (gn rfl) (st_insK (κ := intK .i64) mp261 (itOf_und it23_i64) rfl rfl rfl kA ?_)
  intro wB nB cB kB
  refine Og (vl_build pl259 zr259 rfl (vs := [_, _, _]) rfl (css := [_, _, _]) ⟨rfl, rfl, rfl, trivial⟩ rfl rfl (cs := [_, _, _]) rfl) rfl ?_
  refine O_go (gn rfl) (st_insK (κ := intK .i64) mp261 (itOf_und it23_i64) rfl rfl rfl kB ?_)
  intro wC nC cC kC
  refine Og (vl_build pl259 zr259 rfl (vs := [_, _, _]) rfl (css := [_, _, _]) ⟨rfl, rfl, rfl, trivial⟩ rfl rfl (cs := [_, _, _]) rfl) rfl ?_
  refine O_go (gn rfl) (st_insK (κ := intK .i64) mp261 (itOf_und it23_i64) rfl rfl rfl kC ?_)
  intro wD nD cD kD
  refine Om rfl rfl (Oa rfl rfl (O_end [0] (F' := [(0, _)]) rfl (W_ret ?_)))
  refine ret1 rfl rfl ?_
  exact ⟨b1, rfl, by omega, kD, c1.own ((((cA.transS cB).transS cC).transS cD)) (by intro x hx; simp at hx; omega)⟩

def typeN (c : Col) : Bool := decide (1 ≤ c.t ∧ c.t ≤ 4)
def sizeN (c : Col) : Bool := if c.t = 1 ∨ c.t = 2 then wholeN c.s else if c.t = 3 then decide (c.s = 0) else if c.t = 4 then decide (1 ≤ c.s ∧ c.s ≤ 200) else false
theorem right_split (c : Col) : rightC c = (typeN c && nameN c.n && sizeN c) := by
  unfold rightC
  rw [show (if c.t = 1 ∨ c.t = 2 then wholeN c.s else if c.t = 3 then decide (c.s = 0) else if c.t = 4 then decide (1 ≤ c.s ∧ c.s ≤ 200) else false) = sizeN c from rfl]
  cases ht : typeN c with
  | true => simp
  | false =>
    simp only [typeN, decide_eq_false_iff_not] at ht
    have : sizeN c = false := by
      unfold sizeN
      rw [if_neg (by omega), if_neg (by omega), if_neg (by omega)]
    simp [this]
theorem skinds_some {c : Col} (h : typeN c = true) : ∃ (s f : Nat) (k : Nat), kget sKinds c.t = some (sKind s k f) ∧ (k : Int) = c.t ∧ bodied Tryz.prog s = true ∧ bodied Tryz.prog f = true ∧ (∀ w, Ret Tryz.prog s #[.int .i64 c.s] w fun r w' => r = .bool (sizeN c) ∧ w' = w) ∧
    (rightC c = true → ∀ (x : Val) w, x.Rng → Ret Tryz.prog f #[.int .i64 c.s, x.v] w fun r w' => r = .bool (!wideN c x) ∧ Chg [] w w') := by
  obtain ⟨n, t, z, nl⟩ := c
  simp only [typeN, decide_eq_true_eq] at h
  rcases (show t = 1 ∨ t = 2 ∨ t = 3 ∨ t = 4 by omega) with rfl | rfl | rfl | rfl
  · refine ⟨_, _, 1, rfl, rfl, bd207, bd208, fun w => s_whole z w, fun hr x w hx => s_fits1 z x w ?_ hx⟩
    rw [right_split] at hr; simp only [Bool.and_eq_true] at hr; exact hr.2
  · refine ⟨_, _, 2, rfl, rfl, bd207, bd209, fun w => s_whole z w, fun hr x w hx => s_fits2 z x w ?_ hx⟩
    rw [right_split] at hr; simp only [Bool.and_eq_true] at hr; exact hr.2
  · exact ⟨_, _, 3, rfl, rfl, bd210, bd211, fun w => s_size3 z w, fun hr x w hx => s_fits4 z x w⟩
  · exact ⟨_, _, 4, rfl, rfl, bd212, bd213, fun w => s_size5 z w, fun hr x w hx => s_fits6 z x w⟩
theorem skinds_none {c : Col} (h : typeN c = false) : kget sKinds c.t = none := by
  simp only [typeN, decide_eq_false_iff_not] at h
  have h1 : ¬ (1 : Int) = c.t := by omega
  have h2 : ¬ (2 : Int) = c.t := by omega
  have h3 : ¬ (3 : Int) = c.t := by omega
  have h4 : ¬ (4 : Int) = c.t := by omega
  simp [sKinds, kget, h1, h2, h3, h4]
theorem skinds_val {c : Col} {g : Option Value} (hg : kget sKinds c.t = g) : ∃ va vb vc, g.getD (.agg #[.nilFunc, .int .i64 0, .nilFunc]) = .agg #[va, vb, vc] ∧ va.oneCell' = true ∧ vb.oneCell' = true ∧ vc.oneCell' = true := by
  cases hk : typeN c with
  | false => rw [skinds_none hk] at hg; subst hg; exact ⟨_, _, _, rfl, rfl, rfl, rfl⟩
  | true => obtain ⟨s, f, k, h, _⟩ := skinds_some hk; rw [h] at hg; subst hg; exact ⟨_, _, _, rfl, rfl, rfl, rfl⟩

theorem s_right (c : Col) (w : World) : Ret Tryz.prog 112 #[c.v] w fun r w' => r = .bool (rightC c) ∧ Chg [] w w' := by
  rw [right_split]
  refine Ret.of_W (args := [_]) Tryz.func112 rfl rfl rfl rfl ?_

  refine Sr ?_
  refine O_go (gn rfl) (st_box rfl rfl rfl ?_)
  intro b1 w1 e1 n1 c1 k1
  refine Oa rfl rfl (O_end [1] (F' := [(1, _)]) rfl ?_)
  obtain ⟨g, hg⟩ : ∃ g, kget sKinds c.t = g := ⟨_, rfl⟩
  obtain ⟨va, vb, vc, hv, hva, hvb, hvc⟩ := skinds_val hg
  refine W_seq_cut (fun F wA => ∃ b3, F = [(1, .pointer (some ⟨b1, 0, none⟩)), (3, .pointer (some ⟨b3, 0, none⟩)), (4, .bool g.isSome)] ∧ Blk wA b3 259 [va, vb, vc] ∧ Chg [] w1 wA) ?_ ?_
  · have hC := (Chg.drew [] w1)
    refine W_drawF (fun wz => Chg [] w1 wz) (Tree.seq [1, 2] (.two 0 (Tree.seq [] (.two 3 (Tree.seq [4, 5, 6, 7, 8, 9] .done) 7 (Tree.seq [3, 4, 5, 6, 8, 9] .done))) 7 (Tree.seq [0, 3, 4, 5, 6, 8, 9] .done))) mix (by kernel_rfl) hC ?_
    refine f_pure rfl rfl (gn rfl) (fun _ => vl_fieldAddr fo25_1 rfl) rfl rfl ?_
    refine f_read rfl rfl (gn rfl) (fun wz hz => vl_load ag23 rfl ((k1.chg0 hz).cell' rfl)) rfl rfl ?_
    refine f_two ?_ ?_
    · refine f_st rfl rfl (gn rfl) (st_call bd148 rfl rfl rfl rfl (s_kinds _) ?_)
      rintro v6 w6 ⟨b6, rfl, h6, k6, c6⟩
      have hN6 := hC.size
      have hC := hC.trans c6
      refine ⟨.inl hC, ?_⟩
      refine f_two ?_ ?_
      · refine f_st rfl rfl (gn rfl) (St.vl (vl_lookK2v (κ := intK .i64) mp261 (itOf_und it23_i64) zr259 rfl rfl k6 hg hv) rfl rfl ?_)
        refine ⟨.inl hC, ?_⟩
        refine f_pure rfl rfl (gn rfl) (fun _ => vl_move rfl) rfl rfl ?_
        refine f_pure rfl rfl (gn rfl) (fun _ => vl_extract rfl rfl) rfl rfl ?_
        refine f_pure rfl rfl (gn rfl) (fun _ => vl_extract rfl rfl) rfl rfl ?_
        refine f_st rfl rfl (gn rfl) (st_alloc zr259 rfl rfl ?_)
        intro b3 w3 e3 n3 c3 k3
        have hN3 := hC.size
        have hC := hC.trans c3
        have k6 := k6.chg0 c3
        refine ⟨.inl hC, ?_⟩
        refine f_st rfl rfl (gn rfl) (st_store sz259 rfl rfl rfl rfl k3 (by simp) (by intro u hu; simp at hu; rcases hu with rfl | rfl | rfl; exact hva; exact hvb; exact hvc) ?_)
        intro wA nA cA kA
        have hC := hC.own cA (by intro y hy; simp at hy; omega)
        refine ⟨.inl hC, ?_⟩
        refine f_pure rfl rfl (gn rfl) (fun _ => vl_assign rfl) rfl rfl ?_
        refine F_end [1, 3, 4] (F' := [(1, _), (3, _), (4, _)]) rfl ?_
        exact ⟨b3, rfl, kA, hC⟩
      · refine f_st rfl rfl (gn rfl) (st_alloc zr259 rfl rfl ?_)
        intro b3 w3 e3 n3 c3 k3
        have hN3 := hC.size
        have hC := hC.trans c3
        have k6 := k6.chg0 c3
        refine ⟨.inl hC, ?_⟩
        refine f_st rfl rfl (gn rfl) (St.vl (vl_lookK2v (κ := intK .i64) mp261 (itOf_und it23_i64) zr259 rfl rfl k6 hg hv) rfl rfl ?_)
        refine ⟨.inl hC, ?_⟩
        refine f_pure rfl rfl (gn rfl) (fun _ => vl_move rfl) rfl rfl ?_
        refine f_pure rfl rfl (gn rfl) (fun _ => vl_extract rfl rfl) rfl rfl ?_
        refine f_pure rfl rfl (gn rfl) (fun _ => vl_extract rfl rfl) rfl rfl ?_
        refine f_st rfl rfl (gn rfl) (st_store sz259 rfl rfl rfl rfl k3 (by simp) (by intro u hu; simp at hu; rcases hu with rfl | rfl | rfl; exact hva; exact hvb; exact hvc) ?_)
        intro wA nA cA kA
        have hC := hC.own cA (by intro y hy; simp at hy; omega)
        refine ⟨.inl hC, ?_⟩
        refine f_pure rfl rfl (gn rfl) (fun _ => vl_assign rfl) rfl rfl ?_
        refine F_end [1, 3, 4] (F' := [(1, _), (3, _), (4, _)]) rfl ?_
        exact ⟨b3, rfl, kA, hC⟩
    · refine f_st rfl rfl (gn rfl) (st_alloc zr259 rfl rfl ?_)
      intro b3 w3 e3 n3 c3 k3
      have hN3 := hC.size
      have hC := hC.trans c3
      refine ⟨.inl hC, ?_⟩
      refine f_st rfl rfl (gn rfl) (st_call bd148 rfl rfl rfl rfl (s_kinds _) ?_)
      rintro v6 w6 ⟨b6, rfl, h6, k6, c6⟩
      have hN6 := hC.size
      have hC := hC.trans c6
      have k3 := k3.chg0 c6
      refine ⟨.inl hC, ?_⟩
      refine f_st rfl rfl (gn rfl) (St.vl (vl_lookK2v (κ := intK .i64) mp261 (itOf_und it23_i64) zr259 rfl rfl k6 hg hv) rfl rfl ?_)
      refine ⟨.inl hC, ?_⟩
      refine f_pure rfl rfl (gn rfl) (fun _ => vl_move rfl) rfl rfl ?_
      refine f_pure rfl rfl (gn rfl) (fun _ => vl_extract rfl rfl) rfl rfl ?_
      refine f_pure rfl rfl (gn rfl) (fun _ => vl_extract rfl rfl) rfl rfl ?_
      refine f_st rfl rfl (gn rfl) (st_store sz259 rfl rfl rfl rfl k3 (by simp) (by intro u hu; simp at hu; rcases hu with rfl | rfl | rfl; exact hva; exact hvb; exact hvc) ?_)
      intro wA nA cA kA
      have hC := hC.own cA (by intro y hy; simp at hy; omega)
      refine ⟨.inl hC, ?_⟩
      refine f_pure rfl rfl (gn rfl) (fun _ => vl_assign rfl) rfl rfl ?_
      refine F_end [1, 3, 4] (F' := [(1, _), (3, _), (4, _)]) rfl ?_
      exact ⟨b3, rfl, kA, hC⟩
  rintro F wA ⟨b3, rfl, kA, hcA⟩
  have hk1 := k1.chg0 hcA
  refine W_seq ?_
  cases hk : typeN c with
  | false =>
    have hg' : g = none := hg.symm.trans (skinds_none hk)
    subst hg'
    refine W_region (Om rfl rfl (Om rfl rfl (Oz rfl rfl rfl rfl (Oz rfl rfl rfl rfl (Oz rfl rfl rfl rfl (Of rfl rfl rfl (Om rfl rfl (Oz rfl rfl rfl rfl (Oz rfl rfl rfl rfl (Oz rfl rfl rfl rfl (Oz rfl rfl rfl rfl (Oz rfl rfl rfl rfl (Of rfl rfl rfl ?_)))))))))))))
    refine Oa rfl rfl (O_end [2] (F' := [(2, _)]) rfl (W_ret ?_))
    refine ret1 rfl rfl ?_
    exact ⟨by simp, c1.trans hcA⟩
  | true =>
    obtain ⟨s, f, k, hg', _, hbs, _, hs, _⟩ := skinds_some hk
    rw [hg'] at hg
    subst hg
    cases hv
    cases hnm : nameN c.n with
    | false =>
      refine W_region (Om rfl rfl (Om rfl rfl ?_))
      refine Oy rfl rfl (vl_fieldAddr fo25_0 rfl) rfl ?_
      refine Oy rfl rfl (vl_load ag9 rfl (hk1.cell' rfl)) rfl ?_
      refine O_go (gy rfl rfl rfl) (st_call bd149 rfl rfl rfl rfl (s_named c.n _) ?_)
      rintro v16 w16 ⟨h16, c16⟩
      rw [hnm] at h16
      subst h16
      refine Ot rfl rfl rfl (Om rfl rfl (Oz rfl rfl rfl rfl (Oz rfl rfl rfl rfl (Oz rfl rfl rfl rfl (Oz rfl rfl rfl rfl (Oz rfl rfl rfl rfl (Of rfl rfl rfl (Oa rfl rfl (O_end [2] (F' := [(2, _)]) rfl (W_ret ?_))))))))))
      refine ret1 rfl rfl ?_
      exact ⟨by simp, (c1.trans hcA).trans c16⟩
    | true =>
      refine W_region (Om rfl rfl (Om rfl rfl ?_))
      refine Oy rfl rfl (vl_fieldAddr fo25_0 rfl) rfl ?_
      refine Oy rfl rfl (vl_load ag9 rfl (hk1.cell' rfl)) rfl ?_
      refine O_go (gy rfl rfl rfl) (st_call bd149 rfl rfl rfl rfl (s_named c.n _) ?_)
      rintro v16 w16 ⟨h16, c16⟩
      rw [hnm] at h16
      subst h16
      refine Ot rfl rfl rfl (Om rfl rfl ?_)
      refine Oy rfl rfl (vl_fieldAddr fo259_0 rfl) rfl ?_
      refine Oy rfl rfl (vl_load ag194 rfl ((kA.chg0 c16).cell' rfl)) rfl ?_
      refine Oy rfl rfl (vl_fieldAddr fo25_2 rfl) rfl ?_
      refine Oy rfl rfl (vl_load ag3 rfl ((hk1.chg0 c16).cell' rfl)) rfl ?_
      refine O_go (gy rfl rfl rfl) (st_call hbs rfl rfl rfl rfl (hs _) ?_)
      rintro v23 w23 ⟨rfl, rfl⟩
      refine Ot rfl rfl rfl (Oa rfl rfl (O_end [2] (F' := [(2, _)]) rfl (W_ret ?_)))
      refine ret1 rfl rfl ?_
      exact ⟨by simp, (c1.trans hcA).trans c16⟩
end Go.Wk

namespace Go.Wk
open Go.Proofs
set_option maxRecDepth 10000

theorem setN_bad {l : List Int} {n : Nat} (h : ¬ (1 ≤ l.length ∧ l.length ≤ 4)) : setN l n = false := by simp only [setN, decide_eq_false h, Bool.false_and]
theorem setN_no {l : List Int} {n j : Nat} {x : Int} (hx : l[j]? = some x) (h : ¬ (0 ≤ x ∧ x < n) ∨ x ∈ l.take j) : setN l n = false := by
  cases hs : setN l n with
  | false => rfl
  | true =>
    obtain ⟨_, h2, h3⟩ := set_parts hs
    rcases h with h | h
    · exact absurd (h2 x (List.mem_of_getElem? hx)) h
    · exfalso
      obtain ⟨i, hi⟩ := List.mem_iff_getElem?.1 h
      have hil := (List.getElem?_eq_some_iff.1 hi).1
      rw [List.length_take] at hil
      rw [List.getElem?_take_of_lt (by omega)] at hi
      obtain ⟨hi', ei⟩ := List.getElem?_eq_some_iff.1 hi
      obtain ⟨hj', ej⟩ := List.getElem?_eq_some_iff.1 hx
      exact List.pairwise_iff_getElem.1 h3 i j hi' hj' (by omega) (ei.trans ej.symm)
theorem nodup_snoc {l : List Int} {x : Int} (h : l.Nodup) (hx : x ∉ l) : (l ++ [x]).Nodup := by
  unfold List.Nodup at *
  rw [List.pairwise_append]
  exact ⟨h, List.pairwise_singleton _ _, fun a ha b hb => by simp at hb; subst hb; rintro rfl; exact hx ha⟩
theorem s_set (c k u v : Value) (n : Nat) (l : List Int) (w : World) (hc : ∃ p d, c = .slice p n d) (ho : ∀ x ∈ [c, k, u], x.oneCell' = true) (hv : IsInts w v l) (hn : l.length ≤ 1048576) (hn' : n ≤ 1048576) :
    Ret Tryz.prog 111 #[.agg #[c, k, u], v] w fun r w' => r = .bool (setN l n) ∧ Chg [] w w' := by
  obtain ⟨pc, dc, rfl⟩ := hc
  obtain ⟨pv, cv, rfl, hle⟩ := Arr.val hv
  refine Ret.of_W (args := [_, _]) Tryz.func111 rfl rfl rfl rfl ?_

  refine Sr ?_
  refine O_go (gn rfl) (st_box rfl rfl rfl ?_)
  intro b2 w2 e2 n2 c2 k2
  refine Oa rfl rfl (O_end [1, 2] (F' := [(1, _), (2, _)]) rfl ?_)
  have hv2 := Arr.chg0 hv c2
  refine W_seq (W_seq ?_)
  by_cases h1 : 1 ≤ l.length
  · by_cases h4 : l.length ≤ 4
    · refine W_region (Om rfl rfl (Og (vl_len sl27 rfl) rfl ?_))
      refine Og (vl_is (b' := false) (vl_lss rfl rfl) (decide_eq_false (by omega))) rfl ?_
      refine Om rfl rfl ?_
      refine Oy rfl rfl (vl_move rfl) rfl ?_
      refine Oy rfl rfl (vl_len sl27 rfl) rfl ?_
      refine Oy rfl rfl (vl_is (b' := false) (vl_gtr rfl rfl) (decide_eq_false (by omega))) rfl ?_
      refine Of rfl rfl rfl (O_end [1, 2, 14] (F' := [(1, _), (2, _), (14, _)]) rfl (W_cond_false rfl (W_skipE (W_seq (Sr (Om rfl rfl (Og (vl_len sl27 rfl) rfl (Om rfl rfl (O_end [1, 2, 15, 16, 17] (F' := [(1, _), (2, _), (15, _), (16, _), (17, _)]) rfl (W_block ?_))))))))))
      refine W_loop [1, 2, 15, 16, 17] (fun m F wx => wx = w2 ∧ ∃ j : Nat, m = l.length - j ∧ j ≤ l.length ∧ F = [(1, .slice pv l.length cv), (2, .pointer (some ⟨b2, 0, none⟩)), (15, .slice pv l.length cv), (16, .int .i64 l.length), (17, .int .i64 j)] ∧ (∀ x ∈ l.take j, 0 ≤ x ∧ x < n) ∧ (l.take j).Nodup) (m := l.length - 0) ⟨rfl, 0, rfl, Nat.zero_le _, rfl, by simp, by simp⟩ ?_
      rintro m F wx ⟨hwx, j, rfl, hj, rfl, hall, hnd⟩
      subst wx
      refine Sr (Og (vl_lss rfl rfl) rfl (O_end [1, 2, 15, 16, 17, 18] (F' := [(1, _), (2, _), (15, _), (16, _), (17, _), (18, _)]) rfl (W_seq ?_)))
      refine W_cond rfl (fun hT => ?_) (fun hF => ?_)
      · refine W_skipE ?_
        have hlt : j < l.length := by have := of_decide_eq_true hT; omega
        have hx : l[j]? = some l[j] := by simp [hlt]
        generalize l[j] = x at hx
        obtain ⟨b, off, cap, hve, hcell⟩ := IsInts.cell hv2 hx
        cases hve
        refine W_seq (W_block (Sr (Om rfl rfl ?_)))
        refine Og (vl_indexAddr sl27 sz3 rfl rfl _ rfl hlt) rfl ?_
        refine Og (vl_load ag3 rfl hcell) rfl ?_
        refine Oa rfl rfl (Oa rfl rfl (O_end [1, 2, 5, 6, 15, 16, 17] (F' := [(1, _), (2, _), (5, _), (6, _), (15, _), (16, _), (17, _)]) rfl (W_seq ?_)))
        by_cases h0 : x < 0
        · refine W_region (Om rfl rfl ?_)
          refine Og (vl_is (b' := true) (vl_lss rfl rfl) (decide_eq_true (by omega))) rfl ?_
          refine Om rfl rfl (Oz rfl rfl rfl rfl (Oz rfl rfl rfl rfl (Oz rfl rfl rfl rfl (Oz rfl rfl rfl rfl (Oz rfl rfl rfl rfl (Oz rfl rfl rfl rfl (Ot rfl rfl rfl (Om rfl rfl (Oz rfl rfl rfl rfl (Oz rfl rfl rfl rfl (Oz rfl rfl rfl rfl (Oz rfl rfl rfl rfl (Oz rfl rfl rfl rfl ?_)))))))))))))
          refine Ot rfl rfl rfl (O_end [1, 2, 15, 16, 17, 38] (F' := [(1, _), (2, _), (15, _), (16, _), (17, _), (38, _)]) rfl (W_cond_true rfl (Sr (Oa rfl rfl (O_end [4] (F' := [(4, _)]) rfl (W_ret ?_))))))
          repeat (first | refine then_ret ?_ | refine block_ret ?_)
          refine ret1 rfl rfl ?_
          exact ⟨by rw [setN_no hx (.inl (by omega))], c2⟩
        by_cases hxn : x < n
        · refine W_region (Om rfl rfl ?_)
          refine Og (vl_is (b' := false) (vl_lss rfl rfl) (decide_eq_false (by omega))) rfl ?_
          refine Om rfl rfl ?_
          refine Oy rfl rfl (vl_move rfl) rfl ?_
          refine Oy rfl rfl (vl_fieldAddr fo143_0 rfl) rfl ?_
          refine Oy rfl rfl (vl_fieldAddr fo30_0 rfl) rfl ?_
          refine Oy rfl rfl (vl_load ag26 rfl (k2.cell' rfl)) rfl ?_
          refine Oy rfl rfl (vl_len sl26 rfl) rfl ?_
          refine Oy rfl rfl (vl_is (b' := false) (vl_geq rfl rfl) (decide_eq_false (by omega))) rfl ?_
          refine Of rfl rfl rfl (Om rfl rfl ?_)
          refine Oy rfl rfl (vl_move rfl) rfl ?_
          refine Oy rfl rfl (vl_move rfl) rfl ?_
          refine Oy rfl rfl (vl_cut_h sl27 sz3 rfl rfl _ rfl (by omega)) rfl ?_
          refine Oy rfl rfl (vl_move rfl) rfl ?_
          refine O_go (gy rfl rfl rfl) (st_call bd147 rfl rfl rfl rfl (ix_contains _ (l.take j) x w2 (Arr.take ics_len hv2 hj (by omega) (Nat.le_refl _)) (by rw [List.length_take]; omega)) ?_)
          rintro v37 w37 ⟨rfl, rfl⟩
          refine Of rfl rfl rfl (O_end [1, 2, 15, 16, 17, 38] (F' := [(1, _), (2, _), (15, _), (16, _), (17, _), (38, _)]) rfl ?_)
          refine W_cond rfl (fun hM => ?_) (fun hM => ?_)
          · have hm : x ∈ l.take j := of_decide_eq_true hM
            refine Sr (Oa rfl rfl (O_end [4] (F' := [(4, _)]) rfl (W_ret ?_)))
            repeat (first | refine then_ret ?_ | refine block_ret ?_)
            refine ret1 rfl rfl ?_
            exact ⟨by rw [setN_no hx (.inr hm)], c2⟩
          · have hm : x ∉ l.take j := of_decide_eq_false hM
            refine W_skip (block_normal (W_region ?_))
            refine Og (vl_add rfl rfl (by omega)) rfl ?_
            refine Om rfl rfl ?_
            refine O_endN [1, 2, 15, 16, 17] (F' := [(1, _), (2, _), (15, _), (16, _), (17, _)]) rfl ?_
            refine ⟨l.length - (j + 1), by omega, rfl, j + 1, rfl, by omega, rfl, ?_, ?_⟩
            · intro y hy
              rw [List.take_add_one, hx] at hy
              rcases List.mem_append.1 hy with hy | hy
              · exact hall y hy
              · simp at hy; subst hy; omega
            · rw [List.take_add_one, hx]
              exact nodup_snoc hnd hm
        · refine W_region (Om rfl rfl ?_)
          refine Og (vl_is (b' := false) (vl_lss rfl rfl) (decide_eq_false (by omega))) rfl ?_
          refine Om rfl rfl ?_
          refine Oy rfl rfl (vl_move rfl) rfl ?_
          refine Oy rfl rfl (vl_fieldAddr fo143_0 rfl) rfl ?_
          refine Oy rfl rfl (vl_fieldAddr fo30_0 rfl) rfl ?_
          refine Oy rfl rfl (vl_load ag26 rfl (k2.cell' rfl)) rfl ?_
          refine Oy rfl rfl (vl_len sl26 rfl) rfl ?_
          refine Oy rfl rfl (vl_is (b' := true) (vl_geq rfl rfl) (decide_eq_true (by omega))) rfl ?_
          refine Of rfl rfl rfl (Om rfl rfl (Oz rfl rfl rfl rfl (Oz rfl rfl rfl rfl (Oz rfl rfl rfl rfl (Oz rfl rfl rfl rfl (Oz rfl rfl rfl rfl (Ot rfl rfl rfl (O_end [1, 2, 15, 16, 17, 38] (F' := [(1, _), (2, _), (15, _), (16, _), (17, _), (38, _)]) rfl (W_cond_true rfl (Sr (Oa rfl rfl (O_end [4] (F' := [(4, _)]) rfl ?_))))))))))))
          refine W_ret ?_
          repeat (first | refine then_ret ?_ | refine block_ret ?_)
          refine ret1 rfl rfl ?_
          exact ⟨by rw [setN_no hx (.inl (by omega))], c2⟩
      · refine W_exit ?_
        repeat (first | refine then_exit ?_ | refine blockF_other rfl ?_)
        refine blockF_exit _ ?_
        have he : l.length ≤ j := by have := of_decide_eq_false hF; omega
        refine Sr (Oa rfl rfl (O_end [4] (F' := [(4, _)]) rfl (W_ret ?_)))
        repeat (first | refine then_ret ?_ | refine block_ret ?_)
        refine ret1 rfl rfl ?_
        rw [List.take_of_length_le he] at hall hnd
        refine ⟨?_, c2⟩
        congr 1
        simp only [setN, Bool.and_eq_true, decide_eq_true_eq, List.all_eq_true, eq_comm (a := true)]
        exact ⟨⟨⟨h1, h4⟩, hall⟩, hnd⟩
    · refine W_region (Om rfl rfl (Og (vl_len sl27 rfl) rfl ?_))
      refine Og (vl_is (b' := false) (vl_lss rfl rfl) (decide_eq_false (by omega))) rfl ?_
      refine Om rfl rfl ?_
      refine Oy rfl rfl (vl_move rfl) rfl ?_
      refine Oy rfl rfl (vl_len sl27 rfl) rfl ?_
      refine Oy rfl rfl (vl_is (b' := true) (vl_gtr rfl rfl) (decide_eq_true (by omega))) rfl ?_
      refine Of rfl rfl rfl (O_end [1, 2, 14] (F' := [(1, _), (2, _), (14, _)]) rfl (W_cond_true rfl (Sr (Oa rfl rfl (O_end [4] (F' := [(4, _)]) rfl (W_ret ?_))))))
      repeat (first | refine then_ret ?_ | refine block_ret ?_)
      refine ret1 rfl rfl ?_
      exact ⟨by rw [setN_bad (by omega)], c2⟩
  · refine W_region (Om rfl rfl (Og (vl_len sl27 rfl) rfl ?_))
    refine Og (vl_is (b' := true) (vl_lss rfl rfl) (decide_eq_true (by omega))) rfl ?_
    refine Om rfl rfl (Oz rfl rfl rfl rfl (Oz rfl rfl rfl rfl (Oz rfl rfl rfl rfl (Ot rfl rfl rfl (O_end [1, 2, 14] (F' := [(1, _), (2, _), (14, _)]) rfl (W_cond_true rfl (Sr (Oa rfl rfl (O_end [4] (F' := [(4, _)]) rfl (W_ret ?_))))))))))
    repeat (first | refine then_ret ?_ | refine block_ret ?_)
    refine ret1 rfl rfl ?_
    exact ⟨by rw [setN_bad (by omega)], c2⟩

theorem s_rt1 (o c : Col) (b : Nat) (w : World) (hb : Blk w b 25 c.cs) : Ret Tryz.prog 114 #[o.v, .pointer (some ⟨b, 0, none⟩)] w fun r w' => r = .bool (decide (o.n = c.n)) ∧ Chg [] w w' := by
  refine Ret.of_W (args := [_, _]) Tryz.func114 rfl rfl rfl rfl ?_

  refine Sr ?_
  refine O_go (gn rfl) (st_box rfl rfl rfl ?_)
  intro b2 w2 e2 n2 c2 k2
  refine Oa rfl rfl (O_end [1, 2] (F' := [(1, _), (2, _)]) rfl (Sr (Og (vl_fieldAddr fo25_0 rfl) rfl ?_)))
  refine Og (vl_load ag9 rfl (k2.cell' rfl)) rfl ?_
  refine Og (vl_fieldAddr fo25_0 rfl) rfl ?_
  refine Og (vl_load ag9 rfl ((hb.chg0 c2).cell' rfl)) rfl ?_
  refine Og (vl_seq rfl rfl) rfl ?_
  refine Oa rfl rfl (O_end [3] (F' := [(3, _)]) rfl (W_ret ?_))
  refine ret1 rfl rfl ?_
  exact ⟨rfl, c2⟩
theorem s_rt2 (i : Int) (s : Sch) (c k u : Value) (b : Nat) (w : World) (hb : Blk w b 143 [c, k, u]) (hc : IsCols w c s.cols) (hi : 0 ≤ i ∧ i < s.cols.length) : Ret Tryz.prog 115 #[.int .i64 i, .pointer (some ⟨b, 0, none⟩)] w fun r w' => r = .bool (colAt s i).z ∧ Chg [] w w' := by
  have hlt : i.toNat < s.cols.length := by omega
  have hx : s.cols[i.toNat]? = some s.cols[i.toNat] := by simp [hlt]
  unfold colAt
  rw [hx]
  dsimp only [Option.getD_some]
  generalize s.cols[i.toNat] = x at hx
  obtain ⟨b', off, cap, rfl, hcell⟩ := Arr.at ccs_len hc hx
  refine Ret.of_W (args := [_, _]) Tryz.func115 rfl rfl rfl rfl ?_

  refine Sr (Oa rfl rfl (O_end [0, 1] (F' := [(0, _), (1, _)]) rfl (W_seq ?_)))
  obtain ⟨i', rfl⟩ : ∃ i' : Nat, i = (i' : Int) := ⟨i.toNat, by omega⟩
  refine W_region (Og (vl_fieldAddr fo143_0 rfl) rfl (Og (vl_fieldAddr fo30_0 rfl) rfl ?_))
  refine Og (vl_load ag26 rfl (hb.cell' rfl)) rfl ?_
  refine Om rfl rfl ?_
  refine Og (vl_indexAddr sl26 sz25 rfl rfl _ rfl (by omega)) rfl ?_
  refine Og (vl_fieldAddr fo25_3 rfl) rfl ?_
  refine Og (vl_load ag4 rfl (hcell 3 _ rfl)) rfl ?_
  refine Oa rfl rfl (O_end [3] (F' := [(3, _)]) rfl (W_ret ?_))
  refine ret1 rfl rfl ?_
  exact ⟨rfl, Chg.refl _ _⟩
theorem s_rt3 (v c k u : Value) (l : List Int) (n : Nat) (b : Nat) (w : World) (hb : Blk w b 143 [c, k, u]) (hc : ∃ p d, c = .slice p n d) (ho : ∀ x ∈ [c, k, u], x.oneCell' = true) (hv : IsInts w v l) (hn : l.length ≤ 1048576) (hn' : n ≤ 1048576) :
    Ret Tryz.prog 118 #[v, .pointer (some ⟨b, 0, none⟩)] w fun r w' => r = .bool (!setN l n) ∧ Chg [] w w' := by
  refine Ret.of_W (args := [_, _]) Tryz.func118 rfl rfl rfl rfl ?_

  refine Sr (Oa rfl rfl (O_end [0, 1] (F' := [(0, _), (1, _)]) rfl (Sr ?_)))
  refine Og (vl_loadAgg ag143 sz143 rfl rfl (Cells.of_blk0 hb)) rfl ?_
  refine Om rfl rfl ?_
  refine O_go (gn rfl) (st_call bd111 rfl rfl rfl rfl (s_set c k u v n l _ hc ho hv hn hn') ?_)
  rintro v6 w6 ⟨rfl, c6⟩
  refine Og (vl_not rfl) rfl (Oa rfl rfl (O_end [3] (F' := [(3, _)]) rfl (W_ret ?_)))
  refine ret1 rfl rfl ?_
  exact ⟨rfl, c6⟩

theorem names_iff : ∀ (l : List Col), (l.map (·.n)).Nodup ↔ ∀ j x, l[j]? = some x → (l.take j).any (fun o => decide (o.n = x.n)) = false := by
  intro l
  constructor
  · intro h j x hx
    rw [List.any_eq_false]
    intro o ho
    obtain ⟨i, hi⟩ := List.mem_iff_getElem?.1 ho
    have hil := (List.getElem?_eq_some_iff.1 hi).1
    rw [List.length_take] at hil
    rw [List.getElem?_take_of_lt (by omega)] at hi
    obtain ⟨hi', ei⟩ := List.getElem?_eq_some_iff.1 hi
    obtain ⟨hj', ej⟩ := List.getElem?_eq_some_iff.1 hx
    have := List.pairwise_iff_getElem.1 h i j (by simpa using hi') (by simpa using hj') (by omega)
    simp only [List.getElem_map, ei, ej] at this
    simpa using this
  · intro h
    unfold List.Nodup
    rw [List.pairwise_iff_getElem]
    intro i j hi hj hij
    rw [List.length_map] at hi hj
    simp only [List.getElem_map]
    have := List.any_eq_false.1 (h j l[j] (by simp [hj])) l[i] (List.mem_iff_getElem?.2 ⟨i, by rw [List.getElem?_take_of_lt hij]; simp [hi]⟩)
    simpa using this
/-- What is asked of a schema, in the program's order. -/
theorem right_order (s : Sch) : rightS s = (decide (1 ≤ s.cols.length) && decide (s.cols.length ≤ 8) && decide (s.uq.length ≤ 3) && setN s.key s.cols.length && (s.cols.all rightC && decide ((s.cols.map (·.n)).Nodup)) && (!(s.key.any fun i => (colAt s i).z)) && !(s.uq.any fun l => !setN l s.cols.length)) := by
  rw [Bool.eq_iff_iff]
  simp only [rightS, Bool.and_eq_true, decide_eq_true_eq, List.all_eq_true, Bool.not_eq_true', List.any_eq_false, Bool.not_eq_true, Bool.not_eq_false]
  constructor
  · rintro ⟨⟨⟨⟨⟨⟨⟨h1, h2⟩, h3⟩, h4⟩, h5⟩, h6⟩, h7⟩, h8⟩
    exact ⟨⟨⟨⟨⟨⟨h1, h2⟩, h3⟩, h4⟩, h5, h6⟩, h7⟩, h8⟩
  · rintro ⟨⟨⟨⟨⟨⟨h1, h2⟩, h3⟩, h4⟩, h5, h6⟩, h7⟩, h8⟩
    exact ⟨⟨⟨⟨⟨⟨⟨h1, h2⟩, h3⟩, h4⟩, h5⟩, h6⟩, h7⟩, h8⟩
/-- Bounds that keep lengths sane. -/
structure Sch.Sm (s : Sch) : Prop where
  cols : s.cols.length ≤ 1048576
  key : s.key.length ≤ 1048576
  uq : s.uq.length ≤ 1048576
  each : ∀ l ∈ s.uq, l.length ≤ 1048576
set_option maxHeartbeats 1000000 in
theorem s_rightS (c k u : Value) (s : Sch) (w : World) (hs : IsSch w c k u s) (hm : s.Sm) : Ret Tryz.prog 75 #[.agg #[c, k, u]] w fun r w' => r = .bool (rightS s) ∧ Chg [] w w' := by
  obtain ⟨m1, m2, m3, m4⟩ := hm
  have ho := hs.one
  have hcv : ∃ p d, c = .slice p s.cols.length d := by obtain ⟨p, d, h, _⟩ := Arr.val hs.cols; exact ⟨p, d, h⟩
  obtain ⟨pc, dc, rfl, hdc⟩ := Arr.val hs.cols
  obtain ⟨pk, dk, rfl, hdk⟩ := Arr.val hs.key
  obtain ⟨pu, du, rfl, hdu⟩ := Arr2.val hs.uq
  rw [right_order]
  refine Ret.of_W (args := [_]) Tryz.func75 rfl rfl rfl rfl ?_

  refine Sr ?_
  refine O_go (gn rfl) (st_box rfl rfl rfl ?_)
  intro b1 w1 e1 n1 c1 k1
  refine Oa rfl rfl (O_end [1] (F' := [(1, _)]) rfl ?_)
  have hs1 := hs.chg0 c1
  refine W_seq (W_seq ?_)
  by_cases h1 : 1 ≤ s.cols.length
  · by_cases h8 : s.cols.length ≤ 8
    · by_cases h3 : s.uq.length ≤ 3
      · cases hset : setN s.key s.cols.length with
        | false =>
          refine W_region (Og (vl_fieldAddr fo143_0 rfl) rfl (Og (vl_fieldAddr fo30_0 rfl) rfl ?_))
          refine Og (vl_load ag26 rfl (k1.cell' rfl)) rfl ?_
          refine Og (vl_len sl26 rfl) rfl ?_
          refine Og (vl_is (b' := false) (vl_lss rfl rfl) (decide_eq_false (by omega))) rfl ?_
          refine Om rfl rfl ?_
          refine Oy rfl rfl (vl_fieldAddr fo143_0 rfl) rfl ?_
          refine Oy rfl rfl (vl_fieldAddr fo30_0 rfl) rfl ?_
          refine Oy rfl rfl (vl_load ag26 rfl (k1.cell' rfl)) rfl ?_
          refine Oy rfl rfl (vl_len sl26 rfl) rfl ?_
          refine Oy rfl rfl (vl_is (b' := false) (vl_gtr rfl rfl) (decide_eq_false (by omega))) rfl ?_
          refine Of rfl rfl rfl (Om rfl rfl ?_)
          refine Oy rfl rfl (vl_fieldAddr fo143_0 rfl) rfl ?_
          refine Oy rfl rfl (vl_fieldAddr fo30_2 rfl) rfl ?_
          refine Oy rfl rfl (vl_load ag28 rfl (k1.cell' rfl)) rfl ?_
          refine Oy rfl rfl (vl_len sl28 rfl) rfl ?_
          refine Oy rfl rfl (vl_is (b' := false) (vl_gtr rfl rfl) (decide_eq_false (by omega))) rfl ?_
          refine Of rfl rfl rfl (Om rfl rfl ?_)
          refine Oy rfl rfl (vl_loadAgg ag143 sz143 rfl rfl (Cells.of_blk0 k1)) rfl ?_
          refine Oy rfl rfl (vl_fieldAddr fo143_0 rfl) rfl ?_
          refine Oy rfl rfl (vl_fieldAddr fo30_1 rfl) rfl ?_
          refine Oy rfl rfl (vl_load ag27 rfl (k1.cell' rfl)) rfl ?_
          refine O_go (gy rfl rfl rfl) (st_call bd111 rfl rfl rfl rfl (s_set _ _ _ _ s.cols.length s.key _ hcv ho hs1.key m2 m1) ?_)
          rintro v30 w30 ⟨h30, c30⟩
          rw [hset] at h30
          subst h30
          refine Oy rfl rfl (vl_not rfl) rfl ?_
          refine Of rfl rfl rfl (O_end [1, 32] (F' := [(1, _), (32, _)]) rfl (W_cond_true rfl (Sr (Oa rfl rfl (O_end [2] (F' := [(2, _)]) rfl (W_ret ?_))))))
          repeat (first | refine then_ret ?_ | refine block_ret ?_)
          refine ret1 rfl rfl ?_
          exact ⟨by simp, c1.trans c30⟩
        | true =>
          refine W_region (Og (vl_fieldAddr fo143_0 rfl) rfl (Og (vl_fieldAddr fo30_0 rfl) rfl ?_))
          refine Og (vl_load ag26 rfl (k1.cell' rfl)) rfl ?_
          refine Og (vl_len sl26 rfl) rfl ?_
          refine Og (vl_is (b' := false) (vl_lss rfl rfl) (decide_eq_false (by omega))) rfl ?_
          refine Om rfl rfl ?_
          refine Oy rfl rfl (vl_fieldAddr fo143_0 rfl) rfl ?_
          refine Oy rfl rfl (vl_fieldAddr fo30_0 rfl) rfl ?_
          refine Oy rfl rfl (vl_load ag26 rfl (k1.cell' rfl)) rfl ?_
          refine Oy rfl rfl (vl_len sl26 rfl) rfl ?_
          refine Oy rfl rfl (vl_is (b' := false) (vl_gtr rfl rfl) (decide_eq_false (by omega))) rfl ?_
          refine Of rfl rfl rfl (Om rfl rfl ?_)
          refine Oy rfl rfl (vl_fieldAddr fo143_0 rfl) rfl ?_
          refine Oy rfl rfl (vl_fieldAddr fo30_2 rfl) rfl ?_
          refine Oy rfl rfl (vl_load ag28 rfl (k1.cell' rfl)) rfl ?_
          refine Oy rfl rfl (vl_len sl28 rfl) rfl ?_
          refine Oy rfl rfl (vl_is (b' := false) (vl_gtr rfl rfl) (decide_eq_false (by omega))) rfl ?_
          refine Of rfl rfl rfl (Om rfl rfl ?_)
          refine Oy rfl rfl (vl_loadAgg ag143 sz143 rfl rfl (Cells.of_blk0 k1)) rfl ?_
          refine Oy rfl rfl (vl_fieldAddr fo143_0 rfl) rfl ?_
          refine Oy rfl rfl (vl_fieldAddr fo30_1 rfl) rfl ?_
          refine Oy rfl rfl (vl_load ag27 rfl (k1.cell' rfl)) rfl ?_
          refine O_go (gy rfl rfl rfl) (st_call bd111 rfl rfl rfl rfl (s_set _ _ _ _ s.cols.length s.key _ hcv ho hs1.key m2 m1) ?_)
          rintro v30 w30 ⟨h30, c30⟩
          rw [hset] at h30
          subst h30
          refine Oy rfl rfl (vl_not rfl) rfl ?_
          refine Of rfl rfl rfl (O_end [1, 32] (F' := [(1, _), (32, _)]) rfl (W_cond_false rfl (W_skipE (W_seq (W_seq ?_)))))
          have hk1 := k1.chg0 c30
          have hc30 : Chg [] w w30 := c1.trans c30
          refine W_region (Og (vl_fieldAddr fo143_0 rfl) rfl (Og (vl_fieldAddr fo30_0 rfl) rfl ?_))
          refine Og (vl_load ag26 rfl (hk1.cell' rfl)) rfl ?_
          refine Og (vl_len sl26 rfl) rfl (Om rfl rfl (O_end [1, 35, 36, 37] (F' := [(1, _), (35, _), (36, _), (37, _)]) rfl (W_block ?_)))
          refine W_loop [1, 35, 36, 37] (fun m F wx => ∃ j : Nat, m = s.cols.length - j ∧ j ≤ s.cols.length ∧ F = [(1, .pointer (some ⟨b1, 0, none⟩)), (35, .slice pc s.cols.length dc), (36, .int .i64 s.cols.length), (37, .int .i64 j)] ∧ Chg [] w30 wx ∧ (∀ x ∈ s.cols.take j, rightC x = true) ∧ (∀ i x, i < j → s.cols[i]? = some x → (s.cols.take i).any (fun o => decide (o.n = x.n)) = false)) (m := s.cols.length - 0) ⟨0, rfl, Nat.zero_le _, rfl, Chg.refl _ _, by simp, by intro i x h; omega⟩ ?_
          rintro m F wx ⟨j, rfl, hj, rfl, hcx, hall, hnd⟩
          have hk1x := hk1.chg0 hcx
          have hsx := (hs.chg0 hc30).chg0 hcx
          refine Sr (Og (vl_lss rfl rfl) rfl (O_end [1, 35, 36, 37, 38] (F' := [(1, _), (35, _), (36, _), (37, _), (38, _)]) rfl (W_seq ?_)))
          refine W_cond rfl (fun hT => ?_) (fun hF => ?_)
          · refine W_skipE ?_
            have hlt : j < s.cols.length := by have := of_decide_eq_true hT; omega
            have hx : s.cols[j]? = some s.cols[j] := by simp [hlt]
            generalize s.cols[j] = x at hx
            obtain ⟨b, off, cap, hve, hcell⟩ := Arr.at ccs_len hsx.cols hx
            cases hve
            refine W_seq (W_block (Sr (Om rfl rfl ?_)))
            refine Og (vl_indexAddr sl26 sz25 rfl rfl _ rfl hlt) rfl ?_
            refine Og (vl_loadAgg ag25 sz25 rfl rfl hcell) rfl ?_
            refine O_go (gn rfl) (st_alloc zr25 rfl rfl ?_)
            intro b4 w4 e4 n4 c4 k4
            refine Oa rfl rfl ?_
            refine O_go (gn rfl) (st_store sz25 rfl rfl rfl rfl k4 (by simp [Col.cs]) (Col.one x) ?_)
            intro wA nA cA kA
            refine O_end [1, 3, 4, 35, 36, 37] (F' := [(1, _), (3, _), (4, _), (35, _), (36, _), (37, _)]) rfl ?_
            have hcA : Chg [] wx wA := c4.own cA (by intro y hy; simp at hy; omega)
            refine W_seq ?_
            cases hrc : rightC x with
            | false =>
              refine W_region ?_
              refine Og (vl_loadAgg ag25 sz25 rfl rfl (Cells.of_blk0 kA)) rfl ?_
              refine O_go (gn rfl) (st_call bd112 rfl rfl rfl rfl (s_right x _) ?_)
              rintro v43 w43 ⟨h43, c43⟩
              rw [hrc] at h43
              subst h43
              refine Og (vl_not rfl) rfl (Om rfl rfl (Oz rfl rfl rfl rfl (Oz rfl rfl rfl rfl (Oz rfl rfl rfl rfl (Oz rfl rfl rfl rfl (Oz rfl rfl rfl rfl (Oz rfl rfl rfl rfl (Oz rfl rfl rfl rfl (Ot rfl rfl rfl (O_end [1, 35, 36, 37, 53] (F' := [(1, _), (35, _), (36, _), (37, _), (53, _)]) rfl (W_cond_true rfl (Sr ?_))))))))))))
              refine Oa rfl rfl (O_end [2] (F' := [(2, _)]) rfl (W_ret ?_))
              repeat (first | refine then_ret ?_ | refine block_ret ?_)
              refine ret1 rfl rfl ?_
              have : s.cols.all rightC = false := by
                cases ha : s.cols.all rightC with
                | false => rfl
                | true => have := List.all_eq_true.1 ha x (List.mem_of_getElem? hx); rw [hrc] at this; cases this
              exact ⟨by simp [this], ((hc30.trans hcx).trans hcA).trans c43⟩
            | true =>
              refine W_region ?_
              refine Og (vl_loadAgg ag25 sz25 rfl rfl (Cells.of_blk0 kA)) rfl ?_
              refine O_go (gn rfl) (st_call bd112 rfl rfl rfl rfl (s_right x _) ?_)
              rintro v43 w43 ⟨h43, c43⟩
              rw [hrc] at h43
              subst h43
              have hcx43 := (hcx.trans hcA).trans c43
              have hk43 := hk1.chg0 hcx43
              have hs43 := (hs.chg0 hc30).chg0 hcx43
              have kA43 := kA.chg0 c43
              refine Og (vl_not rfl) rfl (Om rfl rfl ?_)
              refine Oy rfl rfl (vl_fieldAddr fo143_0 rfl) rfl ?_
              refine Oy rfl rfl (vl_fieldAddr fo30_0 rfl) rfl ?_
              refine Oy rfl rfl (vl_load ag26 rfl (hk43.cell' rfl)) rfl ?_
              refine Oy rfl rfl (vl_move rfl) rfl ?_
              refine Oy rfl rfl (vl_cut_h sl26 sz25 rfl rfl _ rfl (by omega)) rfl ?_
              refine Oy rfl rfl (vl_func rfl rfl) rfl ?_
              refine O_go (gy rfl rfl rfl) (st_call bd113 rfl rfl rfl rfl (cf_col ccs_len _ (s.cols.take j) (fun o => decide (o.n = x.n)) 114 [.pointer (some ⟨b4, 0, none⟩)] _ (Arr.take ccs_len hs43.cols hj (by omega) (Nat.le_refl _)) (by rw [List.length_take]; omega) bd114 (fun o _ w1 hw1 => s_rt1 o x b4 w1 (kA43.chg0 hw1))) ?_)
              rintro v52 w52 ⟨h52, c52⟩
              refine Of rfl rfl rfl (O_end [1, 35, 36, 37, 53] (F' := [(1, _), (35, _), (36, _), (37, _), (53, _)]) rfl ?_)
              cases hany : (s.cols.take j).any (fun o => decide (o.n = x.n)) with
              | true =>
                rw [hany] at h52
                subst h52
                refine W_cond_true rfl (Sr (Oa rfl rfl (O_end [2] (F' := [(2, _)]) rfl (W_ret ?_))))
                repeat (first | refine then_ret ?_ | refine block_ret ?_)
                refine ret1 rfl rfl ?_
                have : decide ((s.cols.map (·.n)).Nodup) = false := decide_eq_false fun h => by
                  have := (names_iff _).1 h j x hx
                  rw [hany] at this; cases this
                exact ⟨by rw [this]; simp, (hc30.trans hcx43).trans c52⟩
              | false =>
                rw [hany] at h52
                subst h52
                refine W_cond_false rfl (W_skip (block_normal (W_region ?_)))
                refine Og (vl_add rfl rfl (by omega)) rfl ?_
                refine Om rfl rfl ?_
                refine O_endN [1, 35, 36, 37] (F' := [(1, _), (35, _), (36, _), (37, _)]) rfl ?_
                refine ⟨s.cols.length - (j + 1), by omega, j + 1, rfl, by omega, rfl, hcx43.trans c52, ?_, ?_⟩
                · intro y hy
                  rw [List.take_add_one, hx] at hy
                  rcases List.mem_append.1 hy with hy | hy
                  · exact hall y hy
                  · simp at hy; subst hy; exact hrc
                · intro i y hi hy
                  rcases Nat.lt_or_ge i j with hij | hij
                  · exact hnd i y hij hy
                  · have : i = j := by omega
                    subst this
                    rw [hx] at hy
                    cases hy
                    exact hany
          · refine W_exit ?_
            repeat (first | refine then_exit ?_ | refine blockF_other rfl ?_)
            refine blockF_exit _ ?_
            have he : s.cols.length ≤ j := by have := of_decide_eq_false hF; omega
            have hcx' := hc30.trans hcx
            have hall' : s.cols.all rightC = true := by
              rw [List.take_of_length_le he] at hall
              exact List.all_eq_true.2 hall
            have hnd' : decide ((s.cols.map (·.n)).Nodup) = true := decide_eq_true ((names_iff _).2 fun i x hx => hnd i x (by have := (List.getElem?_eq_some_iff.1 hx).1; omega) hx)
            refine Sr ?_
            refine Og (vl_func rfl rfl) rfl ?_
            refine Oa rfl rfl (O_end [1, 5] (F' := [(1, _), (5, _)]) rfl (W_seq ?_))
            have hkey := (set_parts hset).2.1
            cases hnull : s.key.any fun i => (colAt s i).z with
            | true =>
              refine W_region (Og (vl_fieldAddr fo143_0 rfl) rfl (Og (vl_fieldAddr fo30_1 rfl) rfl ?_))
              refine Og (vl_load ag27 rfl (hk1x.cell' rfl)) rfl ?_
              refine Om rfl rfl ?_
              refine O_go (gn rfl) (st_call bd116 rfl rfl rfl rfl (cf_int _ s.key (fun i => (colAt s i).z) 115 [.pointer (some ⟨b1, 0, none⟩)] _ hsx.key m2 bd115 (fun i hi w1 hw1 => s_rt2 i s _ _ _ b1 w1 (hk1x.chg0 hw1) (Arr.chg0 hsx.cols hw1) (hkey i hi))) ?_)
              rintro v60 w60 ⟨h60, c60⟩
              rw [hnull] at h60
              subst h60
              refine Og (vl_not rfl) rfl (Om rfl rfl (Oz rfl rfl rfl rfl (Oz rfl rfl rfl rfl (Oz rfl rfl rfl rfl (Oz rfl rfl rfl rfl (Oz rfl rfl rfl rfl (Oz rfl rfl rfl rfl (Of rfl rfl rfl (Oa rfl rfl (O_end [2] (F' := [(2, _)]) rfl (W_ret ?_)))))))))))
              repeat (first | refine then_ret ?_ | refine block_ret ?_)
              refine ret1 rfl rfl ?_
              exact ⟨by simp, hcx'.trans c60⟩
            | false =>
              refine W_region (Og (vl_fieldAddr fo143_0 rfl) rfl (Og (vl_fieldAddr fo30_1 rfl) rfl ?_))
              refine Og (vl_load ag27 rfl (hk1x.cell' rfl)) rfl ?_
              refine Om rfl rfl ?_
              refine O_go (gn rfl) (st_call bd116 rfl rfl rfl rfl (cf_int _ s.key (fun i => (colAt s i).z) 115 [.pointer (some ⟨b1, 0, none⟩)] _ hsx.key m2 bd115 (fun i hi w1 hw1 => s_rt2 i s _ _ _ b1 w1 (hk1x.chg0 hw1) (Arr.chg0 hsx.cols hw1) (hkey i hi))) ?_)
              rintro v60 w60 ⟨h60, c60⟩
              rw [hnull] at h60
              subst h60
              refine Og (vl_not rfl) rfl (Om rfl rfl ?_)
              refine Oy rfl rfl (vl_fieldAddr fo143_0 rfl) rfl ?_
              refine Oy rfl rfl (vl_fieldAddr fo30_2 rfl) rfl ?_
              refine Oy rfl rfl (vl_load ag28 rfl ((hk1x.chg0 c60).cell' rfl)) rfl ?_
              refine Oy rfl rfl (vl_func rfl rfl) rfl ?_
              refine O_go (gy rfl rfl rfl) (st_call bd117 rfl rfl rfl rfl (cf_ints _ s.uq (fun l => !setN l s.cols.length) 118 [.pointer (some ⟨b1, 0, none⟩)] _ (Arr2.chg0 hsx.uq c60) m3 bd118 (fun l hl v w1 hw1 hv => s_rt3 v _ _ _ l s.cols.length b1 w1 ((hk1x.chg0 c60).chg0 hw1) hcv ho hv (m4 l hl) m1)) ?_)
              rintro v67 w67 ⟨rfl, c67⟩
              refine Oy rfl rfl (vl_not rfl) rfl ?_
              refine Ot rfl rfl rfl (Oa rfl rfl (O_end [2] (F' := [(2, _)]) rfl (W_ret ?_)))
              repeat (first | refine then_ret ?_ | refine block_ret ?_)
              refine ret1 rfl rfl ?_
              exact ⟨by simp [h1, h8, h3, hall', hnd'], (hcx'.trans c60).trans c67⟩
      · refine W_region (Og (vl_fieldAddr fo143_0 rfl) rfl (Og (vl_fieldAddr fo30_0 rfl) rfl ?_))
        refine Og (vl_load ag26 rfl (k1.cell' rfl)) rfl ?_
        refine Og (vl_len sl26 rfl) rfl ?_
        refine Og (vl_is (b' := false) (vl_lss rfl rfl) (decide_eq_false (by omega))) rfl ?_
        refine Om rfl rfl ?_
        refine Oy rfl rfl (vl_fieldAddr fo143_0 rfl) rfl ?_
        refine Oy rfl rfl (vl_fieldAddr fo30_0 rfl) rfl ?_
        refine Oy rfl rfl (vl_load ag26 rfl (k1.cell' rfl)) rfl ?_
        refine Oy rfl rfl (vl_len sl26 rfl) rfl ?_
        refine Oy rfl rfl (vl_is (b' := false) (vl_gtr rfl rfl) (decide_eq_false (by omega))) rfl ?_
        refine Of rfl rfl rfl (Om rfl rfl ?_)
        refine Oy rfl rfl (vl_fieldAddr fo143_0 rfl) rfl ?_
        refine Oy rfl rfl (vl_fieldAddr fo30_2 rfl) rfl ?_
        refine Oy rfl rfl (vl_load ag28 rfl (k1.cell' rfl)) rfl ?_
        refine Oy rfl rfl (vl_len sl28 rfl) rfl ?_
        refine Oy rfl rfl (vl_is (b' := true) (vl_gtr rfl rfl) (decide_eq_true (by omega))) rfl ?_
        refine Of rfl rfl rfl (Om rfl rfl (Oz rfl rfl rfl rfl (Oz rfl rfl rfl rfl (Oz rfl rfl rfl rfl (Oz rfl rfl rfl rfl (Oz rfl rfl rfl rfl (Oz rfl rfl rfl rfl (Ot rfl rfl rfl (O_end [1, 32] (F' := [(1, _), (32, _)]) rfl (W_cond_true rfl (Sr (Oa rfl rfl ?_))))))))))))
        refine O_end [2] (F' := [(2, _)]) rfl (W_ret ?_)
        repeat (first | refine then_ret ?_ | refine block_ret ?_)
        refine ret1 rfl rfl ?_
        exact ⟨by simp [h3], c1⟩
    · refine W_region (Og (vl_fieldAddr fo143_0 rfl) rfl (Og (vl_fieldAddr fo30_0 rfl) rfl ?_))
      refine Og (vl_load ag26 rfl (k1.cell' rfl)) rfl ?_
      refine Og (vl_len sl26 rfl) rfl ?_
      refine Og (vl_is (b' := false) (vl_lss rfl rfl) (decide_eq_false (by omega))) rfl ?_
      refine Om rfl rfl ?_
      refine Oy rfl rfl (vl_fieldAddr fo143_0 rfl) rfl ?_
      refine Oy rfl rfl (vl_fieldAddr fo30_0 rfl) rfl ?_
      refine Oy rfl rfl (vl_load ag26 rfl (k1.cell' rfl)) rfl ?_
      refine Oy rfl rfl (vl_len sl26 rfl) rfl ?_
      refine Oy rfl rfl (vl_is (b' := true) (vl_gtr rfl rfl) (decide_eq_true (by omega))) rfl ?_
      refine Of rfl rfl rfl (Om rfl rfl (Oz rfl rfl rfl rfl (Oz rfl rfl rfl rfl (Oz rfl rfl rfl rfl (Oz rfl rfl rfl rfl (Oz rfl rfl rfl rfl (Ot rfl rfl rfl (Om rfl rfl (Oz rfl rfl rfl rfl (Oz rfl rfl rfl rfl (Oz rfl rfl rfl rfl (Oz rfl rfl rfl rfl (Oz rfl rfl rfl rfl ?_)))))))))))))
      refine Oz rfl rfl rfl rfl (Ot rfl rfl rfl (O_end [1, 32] (F' := [(1, _), (32, _)]) rfl (W_cond_true rfl (Sr (Oa rfl rfl (O_end [2] (F' := [(2, _)]) rfl (W_ret ?_)))))))
      repeat (first | refine then_ret ?_ | refine block_ret ?_)
      refine ret1 rfl rfl ?_
      exact ⟨by simp [h8], c1⟩
  · refine W_region (Og (vl_fieldAddr fo143_0 rfl) rfl (Og (vl_fieldAddr fo30_0 rfl) rfl ?_))
    refine Og (vl_load ag26 rfl (k1.cell' rfl)) rfl ?_
    refine Og (vl_len sl26 rfl) rfl ?_
    refine Og (vl_is (b' := true) (vl_lss rfl rfl) (decide_eq_true (by omega))) rfl ?_
    refine Om rfl rfl (Oz rfl rfl rfl rfl (Oz rfl rfl rfl rfl (Oz rfl rfl rfl rfl (Oz rfl rfl rfl rfl (Oz rfl rfl rfl rfl (Ot rfl rfl rfl (Om rfl rfl (Oz rfl rfl rfl rfl (Oz rfl rfl rfl rfl (Oz rfl rfl rfl rfl (Oz rfl rfl rfl rfl (Oz rfl rfl rfl rfl (Ot rfl rfl rfl ?_)))))))))))))
    refine Om rfl rfl (Oz rfl rfl rfl rfl (Oz rfl rfl rfl rfl (Oz rfl rfl rfl rfl (Oz rfl rfl rfl rfl (Oz rfl rfl rfl rfl (Oz rfl rfl rfl rfl (Ot rfl rfl rfl (O_end [1, 32] (F' := [(1, _), (32, _)]) rfl (W_cond_true rfl (Sr (Oa rfl rfl (O_end [2] (F' := [(2, _)]) rfl ?_))))))))))))
    refine W_ret ?_
    repeat (first | refine then_ret ?_ | refine block_ret ?_)
    refine ret1 rfl rfl ?_
    exact ⟨by simp [h1], c1⟩
theorem s_Check (c k u : Value) (s : Sch) (w : World) (hs : IsSch w c k u s) (hm : s.Sm) : Ret Tryz.prog 43 #[.agg #[c, k, u]] w fun r w' => r = .int .i64 (if rightS s then 0 else 2) ∧ Chg [] w w' := by
  refine Ret.of_W (args := [_]) Tryz.func43 rfl rfl rfl rfl ?_

  refine Sr ?_
  refine O_go (gn rfl) (st_box rfl rfl rfl ?_)
  intro b1 w1 e1 n1 c1 k1
  refine Oa rfl rfl (O_end [1] (F' := [(1, _)]) rfl (W_seq (W_seq ?_)))
  cases hr : rightS s with
  | true =>
    refine W_region ?_
    refine Og (vl_loadAgg ag30 sz30 rfl rfl (Cells.of_blk0 k1)) rfl ?_
    refine Og (vl_build pl143 zr143 rfl (vs := [_]) rfl (css := [_]) ⟨rfl, trivial⟩ rfl rfl (cs := [_, _, _]) rfl) rfl ?_
    refine O_go (gn rfl) (st_call bd75 rfl rfl rfl rfl (s_rightS c k u s _ (hs.chg0 c1) hm) ?_)
    rintro v5 w5 ⟨h5, c5⟩
    rw [hr] at h5
    subst h5
    refine Og (vl_not rfl) rfl (O_end [6] (F' := [(6, _)]) rfl (W_cond_false rfl (W_skipE (Sr (Oa rfl rfl (O_end [2] (F' := [(2, _)]) rfl (W_ret ?_)))))))
    refine ret1 rfl rfl ?_
    exact ⟨rfl, c1.trans c5⟩
  | false =>
    refine W_region ?_
    refine Og (vl_loadAgg ag30 sz30 rfl rfl (Cells.of_blk0 k1)) rfl ?_
    refine Og (vl_build pl143 zr143 rfl (vs := [_]) rfl (css := [_]) ⟨rfl, trivial⟩ rfl rfl (cs := [_, _, _]) rfl) rfl ?_
    refine O_go (gn rfl) (st_call bd75 rfl rfl rfl rfl (s_rightS c k u s _ (hs.chg0 c1) hm) ?_)
    rintro v5 w5 ⟨h5, c5⟩
    rw [hr] at h5
    subst h5
    refine Og (vl_not rfl) rfl (O_end [6] (F' := [(6, _)]) rfl (W_cond_true rfl (Sr (Oa rfl rfl (O_end [2] (F' := [(2, _)]) rfl (W_ret ?_))))))
    repeat (first | refine then_ret ?_ | refine block_ret ?_)
    refine ret1 rfl rfl ?_
    exact ⟨rfl, c1.trans c5⟩
end Go.Wk

namespace Go.Wk
open Go.Proofs
set_option maxRecDepth 10000

/-- What stands for a type. -/
def hnd (t : Nat) : Value := .pointer (some ⟨5, t, none⟩)
def rty (t : Nat) : Value := .iface 247 (.agg #[hnd t])
/-- The variable of package errors holds the type 'error'. -/
def EOk (w : World) : Prop := w.cell? ⟨0, 0, none⟩ = some (rty 106)
theorem EOk.chg {S : List Nat} {w w' : World} (h : EOk w) (hc : Chg S w w') (hs : 0 ∉ S) : EOk w' := by
  have hlt : 0 < w.heap.size := by
    rcases Nat.eq_zero_or_pos w.heap.size with h0 | h1
    · unfold EOk World.cell? at h
      simp [h0] at h
    · exact h1
  have := hc.block 0 hlt hs
  unfold EOk World.cell? at *
  rw [this]
  exact h
theorem EOk.chg0 {w w' : World} (h : EOk w) (hc : Chg [] w w') : EOk w' := h.chg hc (by simp)
theorem EOk.ne {w : World} (h : EOk w) {b : Nat} {e : TypeId} {c : List Value} (hb : Blk w b e c) (hc : c[0]? ≠ some (rty 106)) : 0 ≠ b := by
  rintro rfl
  exact hc (by rw [← hb.cell]; exact h)

def errno (n : Int) : Value := .iface 32 (.int .i64 n)
/-- v is an error that bears the number n. -/
def IsErr (w : World) (v : Value) (n : Int) : Prop :=
  v = errno n ∨ (∃ b c, v = .iface 315 (.pointer (some ⟨b, 0, none⟩)) ∧ Blk w b 317 [.string c, errno n]) ∨ ∃ k, v = .iface 141 (.agg #[.string k, errno n])
theorem IsErr.chg {S : List Nat} {w w' : World} {v : Value} {n : Int} (h : IsErr w v n) (hc : Chg S w w') (hs : ∀ b c, Blk w b 317 c → b ∉ S) : IsErr w' v n := by
  rcases h with h | ⟨b, c, h, hb⟩ | h
  · exact .inl h
  · exact .inr (.inl ⟨b, c, h, hb.chg hc (hs b _ hb)⟩)
  · exact .inr (.inr h)
theorem IsErr.chg0 {w w' : World} {v : Value} {n : Int} (h : IsErr w v n) (hc : Chg [] w w') : IsErr w' v n := h.chg hc (by simp)
theorem IsErr.notNil {w : World} {v : Value} {n : Int} (h : IsErr w v n) : nilI v = some false := by
  rcases h with rfl | ⟨b, c, rfl, _⟩ | ⟨k, rfl⟩ <;> rfl

/-! ### the model's entries for internal/reflectlite -/
theorem ex109 : exOf Tryz.prog 109 = some Extern.ReflectliteType.typeOf := by kernel_rfl
theorem ex120 : exOf Tryz.prog 120 = some (fun args => Extern.ReflectliteValue.unpack (args.getD 0 (.tuple #[]))) := by kernel_rfl
theorem ex121 : exOf Tryz.prog 121 = some (Extern.ReflectliteValue.methodAny (Extern.ReflectliteValue.valueError "reflectlite.Value.Type" 0) (fun t _ _ _ => Extern.ReflectliteType.toType t)) := by kernel_rfl
theorem ex122 : exOf Tryz.prog 122 = some (Extern.ReflectliteValue.method (Extern.ReflectliteValue.valueError "reflectlite.Value.IsNil" 0) Extern.ReflectliteValue.isNil) := by kernel_rfl
theorem ex153 : exOf Tryz.prog 153 = some (Extern.ReflectliteValue.method (Extern.ReflectliteValue.valueError "reflectlite.Value.Elem" 0) Extern.ReflectliteValue.elem) := by kernel_rfl
theorem ex154 : exOf Tryz.prog 154 = some Extern.ReflectliteValue.set := by kernel_rfl
theorem ex298 : exOf Tryz.prog 298 = some (Extern.ReflectliteType.abiMethod fun t => do pure (.int .u8 (← Extern.Rtype.kind t))) := by kernel_rfl
theorem ex311 : exOf Tryz.prog 311 = some (Extern.ReflectliteType.method Extern.ReflectliteType.elem) := by kernel_rfl
theorem ex312 : exOf Tryz.prog 312 = some (Extern.ReflectliteType.relation "Implements" Extern.ReflectliteType.implements_) := by kernel_rfl
theorem ex309 : exOf Tryz.prog 309 = some (Extern.ReflectliteType.relation "AssignableTo" Extern.ReflectliteType.assignableTo) := by kernel_rfl
theorem ex310 : exOf Tryz.prog 310 = some (Extern.ReflectliteType.method fun t => do Extern.Rtype.noPackHeld "Comparable" t; pure (.bool (← typeInfo t).comparable)) := by kernel_rfl

/-! ### what they come to -/
theorem r_typeOf (v : Value) (w : World) : (Extern.ReflectliteType.typeOf #[.iface 32 v]).run Tryz.prog w = .ok (rty 32) w := by kernel_rfl
theorem r_typeOfF (v : Value) (w : World) : (Extern.ReflectliteType.typeOf #[.iface 315 v]).run Tryz.prog w = .ok (rty 315) w := by kernel_rfl
theorem r_typeOfT (v : Value) (w : World) : (Extern.ReflectliteType.typeOf #[.iface 141 v]).run Tryz.prog w = .ok (rty 141) w := by kernel_rfl
theorem r_cmp (w : World) : ((Extern.ReflectliteType.method fun t => do Extern.Rtype.noPackHeld "Comparable" t; pure (.bool (← typeInfo t).comparable)) #[.agg #[hnd 32]]).run Tryz.prog w = .ok (.bool true) w := by kernel_rfl
theorem m_Kind (h : Value) : Mth Tryz.prog 247 (.agg #[h]) "Kind" 298 h := fun w => by kernel_rfl
theorem m_Elem (h : Value) : Mth Tryz.prog 247 (.agg #[h]) "Elem" 311 (.agg #[h]) := fun w => by kernel_rfl
theorem m_Impl (h : Value) : Mth Tryz.prog 247 (.agg #[h]) "Implements" 312 (.agg #[h]) := fun w => by kernel_rfl
theorem m_Asg (h : Value) : Mth Tryz.prog 247 (.agg #[h]) "AssignableTo" 309 (.agg #[h]) := fun w => by kernel_rfl
theorem m_Cmp (h : Value) : Mth Tryz.prog 247 (.agg #[h]) "Comparable" 310 (.agg #[h]) := fun w => by kernel_rfl
theorem r_kindP (w : World) : ((Extern.ReflectliteType.abiMethod fun t => do pure (.int .u8 (← Extern.Rtype.kind t))) #[hnd 152]).run Tryz.prog w = .ok (.int .u8 22) w := by kernel_rfl
theorem r_kindE (w : World) : ((Extern.ReflectliteType.abiMethod fun t => do pure (.int .u8 (← Extern.Rtype.kind t))) #[hnd 32]).run Tryz.prog w = .ok (.int .u8 2) w := by kernel_rfl
theorem r_elemT (w : World) : (Extern.ReflectliteType.method Extern.ReflectliteType.elem #[.agg #[hnd 152]]).run Tryz.prog w = .ok (rty 32) w := by kernel_rfl
theorem r_impl (w : World) : (Extern.ReflectliteType.relation "Implements" Extern.ReflectliteType.implements_ #[.agg #[hnd 32], rty 106]).run Tryz.prog w = .ok (.bool true) w := by kernel_rfl
theorem r_asg (w : World) : (Extern.ReflectliteType.relation "AssignableTo" Extern.ReflectliteType.assignableTo #[.agg #[hnd 32], rty 32]).run Tryz.prog w = .ok (.bool true) w := by kernel_rfl
theorem r_asgF (w : World) : (Extern.ReflectliteType.relation "AssignableTo" Extern.ReflectliteType.assignableTo #[.agg #[hnd 315], rty 32]).run Tryz.prog w = .ok (.bool false) w := by kernel_rfl
theorem r_asgT (w : World) : (Extern.ReflectliteType.relation "AssignableTo" Extern.ReflectliteType.assignableTo #[.agg #[hnd 141], rty 32]).run Tryz.prog w = .ok (.bool false) w := by kernel_rfl
def rv (t : Nat) (a : Addr) (f : Nat) : Value := .agg #[hnd t, .pointer (some a), .int .u64 f]
theorem r_valP (t : Addr) (w : World) : (Extern.ReflectliteValue.unpack (.iface 152 (.pointer (some t)))).run Tryz.prog w = .ok (rv 152 ⟨w.heap.size, 0, none⟩ 150) (w.alloc (.cells #[.pointer (some t)] 152)) := by kernel_rfl
theorem r_valE (n : Int) (w : World) : (Extern.ReflectliteValue.unpack (errno n)).run Tryz.prog w = .ok (rv 32 ⟨w.heap.size, 0, none⟩ 130) (w.alloc (.cells #[.int .i64 n] 32)) := by kernel_rfl
theorem r_type (a : Addr) (w : World) : (Extern.ReflectliteValue.methodAny (Extern.ReflectliteValue.valueError "reflectlite.Value.Type" 0) (fun t _ _ _ => Extern.ReflectliteType.toType t) #[rv 152 a 150]).run Tryz.prog w = .ok (rty 152) w := by kernel_rfl
theorem lit1 (v : Value) {h1 h2} : (#[v] : Array Value).getLit (n := 1) 0 h1 h2 = v := rfl
theorem lit20 (v x : Value) {h1 h2} : (#[v, x] : Array Value).getLit (n := 2) 0 h1 h2 = v := rfl
theorem lit21 (v x : Value) {h1 h2} : (#[v, x] : Array Value).getLit (n := 2) 1 h1 h2 = x := rfl
theorem r_partsP (a : Addr) (w : World) : (Extern.ReflectliteValue.parts (rv 152 a 150)).run Tryz.prog w = .ok (some (152, a, 150)) w := by kernel_rfl
theorem und152 : Tryz.prog.underlying 152 = some (.pointer 32) := by kernel_rfl
theorem und32 : Tryz.prog.underlying 32 = some (.int .i64) := by kernel_rfl
theorem r_isNil (a p : Addr) (w : World) (ha : w.cell? a = some (.pointer (some p))) :
    (Extern.ReflectliteValue.method (Extern.ReflectliteValue.valueError "reflectlite.Value.IsNil" 0) Extern.ReflectliteValue.isNil #[rv 152 a 150]).run Tryz.prog w = .ok (.bool false) w := by
  have hv := r_partsP a w
  generalize rv 152 a 150 = v at hv ⊢
  conv => lhs; arg 2; whnf
  simp only [lit1, Sem.run_bind', hv, Result.andThen]
  simp [Extern.ReflectliteValue.isNil, loadVar, isAgg, underlying, und152, ha, Result.andThen]
theorem r_elemOf (w : World) : (Extern.Rtype.elem? 152).run Tryz.prog w = .ok (some 32) w := by kernel_rfl
theorem r_mk (p : Addr) (w : World) : (Extern.ReflectliteValue.mk 32 p Extern.ReflectliteValue.flagAddr).run Tryz.prog w = .ok (rv 32 p 386) w := by kernel_rfl
theorem r_elemV (a p : Addr) (w : World) (ha : w.cell? a = some (.pointer (some p))) :
    (Extern.ReflectliteValue.method (Extern.ReflectliteValue.valueError "reflectlite.Value.Elem" 0) Extern.ReflectliteValue.elem #[rv 152 a 150]).run Tryz.prog w = .ok (rv 32 p 386) w := by
  have hv := r_partsP a w
  generalize rv 152 a 150 = v at hv ⊢
  conv => lhs; arg 2; whnf
  simp only [lit1, Sem.run_bind', hv, Result.andThen]
  simp [Extern.ReflectliteValue.elem, loadVar, isAgg, underlying, und152, ha, Result.andThen, r_elemOf, r_mk]
theorem r_parts1 (a : Addr) (w : World) : (Extern.ReflectliteValue.parts (rv 32 a 386)).run Tryz.prog w = .ok (some (32, a, 386)) w := by kernel_rfl
theorem r_parts2 (a : Addr) (w : World) : (Extern.ReflectliteValue.parts (rv 32 a 130)).run Tryz.prog w = .ok (some (32, a, 130)) w := by kernel_rfl
theorem r_direct (w : World) : (Extern.Rtype.directlyAssignable 32 32).run Tryz.prog w = .ok true w := by kernel_rfl
theorem r_set (ta b : Addr) (n : Int) (old : Value) (w : World) (hb : w.cell? b = some (.int .i64 n)) (ht : w.cell? ta = some old) (hf : w.frozen? ta = false) :
    (Extern.ReflectliteValue.set #[rv 32 ta 386, rv 32 b 130]).run Tryz.prog w = .ok (.tuple #[]) (w.setCell ta (.int .i64 n)) := by
  have h1 := r_parts1 ta w
  have h2 := r_parts2 b w
  generalize rv 32 ta 386 = v at h1 ⊢
  generalize rv 32 b 130 = x at h2 ⊢
  conv => lhs; arg 2; whnf
  simp only [lit20, lit21, Sem.run_bind', Sem.run_bind, h1, h2, Result.andThen]
  simp [Extern.ReflectliteValue.flagAddr, loadVar, isAgg, underlying, und32, hb, Result.andThen, r_direct, storeVar, Value.cells, storeCells, Addr.add]
  rw [run_store Tryz.prog w ta _ _ (by rfl)]
  simp [ht, hf]
theorem Blk.setCell {w : World} {b : Nat} {e : TypeId} {x : Value} (h : Blk w b e [x]) (v : Value) : Blk (w.setCell ⟨b, 0, none⟩ v) b e [v] ∧ Chg [b] w (w.setCell ⟨b, 0, none⟩ v) := by
  have hh : w.heap[b]? = some (.cells #[x] e (0, 0)) := h
  refine ⟨?_, rfl, rfl, rfl, by simp [World.setCell], fun k _ hn => ?_⟩
  · unfold Blk World.setCell
    simp only [Array.getElem?_modify, if_true, hh]
    rfl
  · unfold World.setCell
    simp only [List.mem_singleton] at hn
    simp only [Array.getElem?_modify]
    rw [if_neg (fun e => hn e.symm)]
end Go.Wk

namespace Go.Wk
open Go.Proofs
set_option maxRecDepth 10000

theorem e_unwS (b : Nat) (c : ByteArray) (n : Int) (w : World) (hb : Blk w b 317 [.string c, errno n]) : Ret Tryz.prog 320 #[.pointer (some ⟨b, 0, none⟩)] w fun r w' => r = errno n ∧ w' = w := by
  refine Ret.of_W (args := [_]) Tryz.func320 rfl rfl rfl rfl ?_

  refine Sr (Oa rfl rfl (O_end [0] (F' := [(0, _)]) rfl (Sr (Om rfl rfl (Og (vl_nilCheck rfl) rfl (Og (vl_fieldAddr fo317_1 rfl) rfl ?_))))))
  refine Og (vl_load ag106 rfl (hb.cell' rfl)) rfl ?_
  refine Oa rfl rfl (O_end [2] (F' := [(2, _)]) rfl (W_ret ?_))
  refine ret1 rfl rfl ?_
  exact ⟨rfl, rfl⟩
theorem e_unwT (k : ByteArray) (n : Int) (w : World) : Ret Tryz.prog 303 #[.agg #[.string k, errno n]] w fun r w' => r = errno n ∧ Chg [] w w' := by
  refine Ret.of_W (args := [_]) Tryz.func303 rfl rfl rfl rfl ?_

  refine Sr ?_
  refine O_go (gn rfl) (st_box rfl rfl rfl ?_)
  intro b1 w1 e1 n1 c1 k1
  refine Oa rfl rfl (O_end [1] (F' := [(1, _)]) rfl (Sr (Og (vl_fieldAddr fo141_1 rfl) rfl ?_)))
  refine Og (vl_load ag106 rfl (k1.cell' rfl)) rfl ?_
  refine Oa rfl rfl (O_end [2] (F' := [(2, _)]) rfl (W_ret ?_))
  refine ret1 rfl rfl ?_
  exact ⟨rfl, c1⟩
theorem m_unwS (v : Value) : Mth Tryz.prog 315 v "Unwrap" 320 v := fun w => by kernel_rfl
theorem m_unwT (v : Value) : Mth Tryz.prog 141 v "Unwrap" 303 v := fun w => by kernel_rfl

theorem e_as (v : Value) (n : Int) (bt : Nat) (old : Value) (a : Addr) (w : World) (hv : IsErr w v n) (ht : Blk w bt 32 [old]) (ha : w.cell? a = some (.pointer (some ⟨bt, 0, none⟩))) (hab : a.block ≠ bt) :
    Ret Tryz.prog 123 #[v, .iface 152 (.pointer (some ⟨bt, 0, none⟩)), rv 152 a 150, rty 32] w fun r w' => r = .bool true ∧ Blk w' bt 32 [.int .i64 n] ∧ Chg [bt] w w' := by
  refine Ret.of_W (args := [_, _, _, _]) Tryz.func123 rfl rfl rfl rfl ?_

  refine Sr ?_
  refine O_go (gn rfl) (st_box rfl rfl rfl ?_)
  intro b6 w6 e6 n6 c6 k6
  refine Oa rfl rfl (O_end [0, 1, 3, 6] (F' := [(0, _), (1, _), (3, _), (6, _)]) rfl ?_)
  have k6 : Blk w6 b6 202 [hnd 152, .pointer (some a), .int .u64 150] := k6
  refine W_block ?_
  refine W_loop [0, 1, 3, 6] (fun m F wx => ∃ u : Value, (IsErr wx u n ∧ (m = 0 → u = errno n)) ∧ F = [(0, u), (1, .iface 152 (.pointer (some ⟨bt, 0, none⟩))), (3, rty 32), (6, .pointer (some ⟨b6, 0, none⟩))] ∧ Chg [] w6 wx) (m := 1) ⟨v, ⟨hv.chg0 c6, fun h => by omega⟩, rfl, Chg.refl _ _⟩ ?_
  rintro m F wx ⟨u, ⟨hu, hm⟩, rfl, hcx⟩
  have hk6 := k6.chg0 hcx
  have htx := (ht.chg0 c6).chg0 hcx
  have hax := hcx.cell (c6.cell ha)
  have hbt := ht.lt
  refine W_block (W_seq (W_seq ?_))
  rcases hu with rfl | hu
  · refine W_region (Om rfl rfl ?_)
    refine O_go (gn rfl) (st_ext (P := Tryz.prog) (n := Tryz.f123.ntmps) ex109 rfl rfl (r_typeOf _ _) rfl ?_)
    skip
    refine Om rfl rfl ?_
    refine O_go (gn rfl) (st_invokeX (m_Asg _) ex309 rfl rfl (r_asg _) rfl ?_)
    skip
    refine O_end [0, 1, 3, 6, 19] (F' := [(0, _), (1, _), (3, _), (6, _), (19, _)]) rfl (W_cond_true rfl (W_seq ?_))
    have hset := r_set ⟨bt, 0, none⟩ ⟨wx.heap.size, 0, none⟩ n old (wx.alloc (.cells #[.int .i64 n] 32)) ((Blk.new wx 32 [.int .i64 n]).cell' rfl) ((htx.chg0 (Chg.alloc [] _ _)).cell' rfl) ((htx.chg0 (Chg.alloc [] _ _)).free _ rfl)
    obtain ⟨hb2, hc2⟩ := (htx.chg0 (Chg.alloc [] wx (.cells #[.int .i64 n] 32))).setCell (.int .i64 n)
    have hE : (Extern.ReflectliteValue.method (Extern.ReflectliteValue.valueError "reflectlite.Value.Elem" 0) Extern.ReflectliteValue.elem ([Value.agg [hnd 152, .pointer (some a), .int .u64 150].toArray].toArray)).run Tryz.prog wx = .ok (rv 32 ⟨bt, 0, none⟩ 386) wx := r_elemV a ⟨bt, 0, none⟩ wx hax
    refine W_region ?_
    refine Og (vl_loadAgg ag202 sz202 rfl rfl (Cells.of_blk0 hk6)) rfl ?_
    refine O_go (gn rfl) (st_ext (P := Tryz.prog) (n := Tryz.f123.ntmps) ex153 rfl rfl hE rfl ?_)
    skip
    refine Om rfl rfl ?_
    refine O_go (gn rfl) (st_ext (P := Tryz.prog) (n := Tryz.f123.ntmps) ex120 rfl rfl (r_valE n wx) rfl ?_)
    skip
    refine O_go (gn rfl) (st_ext (P := Tryz.prog) (n := Tryz.f123.ntmps) ex154 rfl rfl hset rfl ?_)
    skip
    refine O_end [] (F' := []) rfl (Sr (Oa rfl rfl (O_end [8] (F' := [(8, _)]) rfl (W_ret ?_))))
    repeat (first | refine then_ret ?_ | refine block_ret ?_)
    refine ret1 rfl rfl ?_
    exact ⟨rfl, hb2, ((((c6.trans hcx).trans (Chg.alloc [] _ _)).any (S := [bt])).transS hc2)⟩
  · have hm1 : m ≠ 0 := fun h => by
      have := hm h
      subst this
      rcases hu with ⟨b, c, h, _⟩ | ⟨k, h⟩ <;> cases h
    rcases hu with ⟨b, c, rfl, hb⟩ | ⟨k, rfl⟩
    · refine W_region (Om rfl rfl ?_)
      refine O_go (gn rfl) (st_ext (P := Tryz.prog) (n := Tryz.f123.ntmps) ex109 rfl rfl (r_typeOfF _ _) rfl ?_)
      skip
      refine Om rfl rfl ?_
      refine O_go (gn rfl) (st_invokeX (m_Asg _) ex309 rfl rfl (r_asgF _) rfl ?_)
      skip
      refine O_end [0, 1, 3, 6, 19] (F' := [(0, _), (1, _), (3, _), (6, _), (19, _)]) rfl (W_cond_false rfl (W_skipE (W_seq (Sr (Om rfl rfl ?_)))))
      refine Og (vl_tasQ iq268_315_n zr268 rfl) rfl ?_
      refine Om rfl rfl (Oe rfl rfl rfl (Oe rfl rfl rfl (Oa rfl rfl (Oa rfl rfl (O_end [0, 1, 3, 6, 9, 10] (F' := [(0, _), (1, _), (3, _), (6, _), (9, _), (10, _)]) rfl (Sr (Om rfl rfl (Om rfl rfl (Oz rfl rfl rfl rfl (Oz rfl rfl rfl rfl (Oz rfl rfl rfl rfl (Of rfl rfl rfl ?_))))))))))))
      refine O_end [0, 1, 3, 6, 35] (F' := [(0, _), (1, _), (3, _), (6, _), (35, _)]) rfl (W_cond_false rfl (W_skipE (Sr (Om rfl rfl (O_end [1, 3, 6, 36] (F' := [(1, _), (3, _), (6, _), (36, _)]) rfl (W_block (Sr ?_)))))))
      refine Og (vl_tasQ iq252_315_y zr252 rfl) rfl ?_
      refine Oe rfl rfl rfl (Oe rfl rfl rfl (O_end [1, 3, 6, 36, 38, 39] (F' := [(1, _), (3, _), (6, _), (36, _), (38, _), (39, _)]) rfl (W_cond_true rfl (Sr (Oa rfl rfl (O_end [1, 3, 6, 11] (F' := [(1, _), (3, _), (6, _), (11, _)]) rfl (Sr (Om rfl rfl ?_))))))))
      refine O_go (gn rfl) (st_invoke (m_unwS _) bd320 rfl rfl rfl (e_unwS b c n _ hb) ?_)
      rintro v41 w41 ⟨rfl, rfl⟩
      refine Oa rfl rfl (O_end [0, 1, 3, 6] (F' := [(0, _), (1, _), (3, _), (6, _)]) rfl (Sr (Om rfl rfl ?_)))
      refine Og (vl_inil in106 rfl rfl) rfl ?_
      refine O_end [0, 1, 3, 6, 43] (F' := [(0, _), (1, _), (3, _), (6, _), (43, _)]) rfl (W_cond_false rfl (W_skip (block_normal (block_normal ?_))))
      exact ⟨0, by omega, _, ⟨.inl rfl, fun _ => rfl⟩, rfl, hcx⟩
    · refine W_region (Om rfl rfl ?_)
      refine O_go (gn rfl) (st_ext (P := Tryz.prog) (n := Tryz.f123.ntmps) ex109 rfl rfl (r_typeOfT _ _) rfl ?_)
      skip
      refine Om rfl rfl ?_
      refine O_go (gn rfl) (st_invokeX (m_Asg _) ex309 rfl rfl (r_asgT _) rfl ?_)
      skip
      refine O_end [0, 1, 3, 6, 19] (F' := [(0, _), (1, _), (3, _), (6, _), (19, _)]) rfl (W_cond_false rfl (W_skipE (W_seq (Sr (Om rfl rfl ?_)))))
      refine Og (vl_tasQ iq268_141_n zr268 rfl) rfl ?_
      refine Om rfl rfl (Oe rfl rfl rfl (Oe rfl rfl rfl (Oa rfl rfl (Oa rfl rfl (O_end [0, 1, 3, 6, 9, 10] (F' := [(0, _), (1, _), (3, _), (6, _), (9, _), (10, _)]) rfl (Sr (Om rfl rfl (Om rfl rfl (Oz rfl rfl rfl rfl (Oz rfl rfl rfl rfl (Oz rfl rfl rfl rfl (Of rfl rfl rfl ?_))))))))))))
      refine O_end [0, 1, 3, 6, 35] (F' := [(0, _), (1, _), (3, _), (6, _), (35, _)]) rfl (W_cond_false rfl (W_skipE (Sr (Om rfl rfl (O_end [1, 3, 6, 36] (F' := [(1, _), (3, _), (6, _), (36, _)]) rfl (W_block (Sr ?_)))))))
      refine Og (vl_tasQ iq252_141_y zr252 rfl) rfl ?_
      refine Oe rfl rfl rfl (Oe rfl rfl rfl (O_end [1, 3, 6, 36, 38, 39] (F' := [(1, _), (3, _), (6, _), (36, _), (38, _), (39, _)]) rfl (W_cond_true rfl (Sr (Oa rfl rfl (O_end [1, 3, 6, 11] (F' := [(1, _), (3, _), (6, _), (11, _)]) rfl (Sr (Om rfl rfl ?_))))))))
      refine O_go (gn rfl) (st_invoke (m_unwT _) bd303 rfl rfl rfl (e_unwT k n _) ?_)
      rintro v41 w41 ⟨rfl, c41⟩
      refine Oa rfl rfl (O_end [0, 1, 3, 6] (F' := [(0, _), (1, _), (3, _), (6, _)]) rfl (Sr (Om rfl rfl ?_)))
      refine Og (vl_inil in106 rfl rfl) rfl ?_
      refine O_end [0, 1, 3, 6, 43] (F' := [(0, _), (1, _), (3, _), (6, _), (43, _)]) rfl (W_cond_false rfl (W_skip (block_normal (block_normal ?_))))
      exact ⟨0, by omega, _, ⟨.inl rfl, fun _ => rfl⟩, rfl, hcx.trans c41⟩
end Go.Wk
