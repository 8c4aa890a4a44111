/-
  The law's 'few'.
-/
import Derived.Test.YthbahcjkncfpdaaP19
namespace Go.Wk
open Go.Proofs
set_option maxRecDepth 10000

/-- v is a row of these calls. -/
def IsActs (w : World) (v : Value) (acts : List (Int × ByteArray × ByteArray)) : Prop :=
  ∃ p cap, v = .slice p acts.length cap ∧ ∀ i x, acts[i]? = some x → ∃ b off, p = some ⟨b, off, none⟩ ∧ Cells w b (off + i * 3) [.int .i64 x.1, .string x.2.1, .string x.2.2]
theorem IsActs.chg0 {w w' : World} {v : Value} {acts : List (Int × ByteArray × ByteArray)} (h : IsActs w v acts) (hc : Chg [] w w') : IsActs w' v acts :=
  let ⟨p, cap, hv, hx⟩ := h
  ⟨p, cap, hv, fun i x hi => let ⟨b, off, hp, hcs⟩ := hx i x hi; ⟨b, off, hp, hcs.chg0 hc⟩⟩

def Small (acts : List (Int × ByteArray × ByteArray)) : Prop := ∀ x ∈ acts, x.2.1.size ≤ 60 ∧ x.2.2.size ≤ 60

theorem small_take {acts : List (Int × ByteArray × ByteArray)} {i : Nat} {x : Int × ByteArray × ByteArray} (h : Small (acts.take i)) (hx : acts[i]? = some x) (h1 : x.2.1.size ≤ 60) (h2 : x.2.2.size ≤ 60) : Small (acts.take (i + 1)) := by
  intro y hy
  rw [List.take_add_one, hx] at hy
  rcases List.mem_append.1 hy with hy | hy
  · exact h y hy
  · simp at hy
    subst hy
    exact ⟨h1, h2⟩

theorem f7 (v : Value) (acts : List (Int × ByteArray × ByteArray)) (many : Nat) (w : World) (h : IsActs w v acts) (hm : many ≤ 1000) :
    Ret Try.prog 7 #[v, .int .i64 many] w fun r w' => (∃ b, r = .bool b ∧ (b = true → acts.length ≤ many ∧ Small acts)) ∧ w' = w := by
  obtain ⟨p, cap, rfl, hx⟩ := h
  refine Ret.of_W (args := [_, _]) Try.func7 rfl rfl rfl rfl ?_

  refine W_seq ?_
  refine W_region ?_
  refine O_go (gn rfl) (St.vl (vl_assign rfl) rfl rfl ?_)
  refine O_end [0, 1] (F' := [(0, _), (1, _)]) rfl ?_
  refine W_seq ?_
  refine W_seq ?_
  refine W_region ?_
  refine O_go (gn rfl) (St.vl (vl_assign rfl) rfl rfl ?_)
  refine O_end [0, 1, 5] (F' := [(0, _), (1, _), (5, _)]) rfl ?_
  refine W_block ?_
  refine W_loop [0, 1, 5] (fun m F wx => wx = w ∧ ∃ i : Nat, m = acts.length - i ∧ i ≤ acts.length ∧ i ≤ many + 1 ∧ Small (acts.take i) ∧ F = [(0, .slice p acts.length cap), (1, .int .i64 many), (5, .int .i64 i)]) (m := acts.length - 0) ⟨rfl, 0, rfl, Nat.zero_le _, Nat.zero_le _, by intro x hx; simp at hx, rfl⟩ ?_
  rintro m F wx ⟨rfl, i, rfl, hi, him, hsm, rfl⟩
  have fin : (¬ i < acts.length ∨ ¬ i ≤ many) → acts.length ≤ many → Small acts := by
    intro h1 h2
    have : i = acts.length := by omega
    subst this
    rwa [List.take_length] at hsm
  refine W_seq ?_
  refine W_seq ?_
  by_cases hlt : i < acts.length
  · by_cases hle : i ≤ many
    · refine W_region ?_
      refine O_go (gn rfl) (St.vl (vl_move rfl) rfl rfl ?_)
      refine O_go (gn rfl) (St.vl (vl_move rfl) rfl rfl ?_)
      refine O_go (gn rfl) (St.vl (vl_len sl22 rfl) rfl rfl ?_)
      refine O_go (gn rfl) (St.vl (vl_is (b' := true) (vl_lss rfl rfl) (decide_eq_true (by omega))) rfl rfl ?_)
      refine O_go (gn rfl) (St.vl (vl_move rfl) rfl rfl ?_)
      refine O_go (gy rfl rfl rfl) (St.vl (vl_move rfl) rfl rfl ?_)
      refine O_go (gy rfl rfl rfl) (St.vl (vl_move rfl) rfl rfl ?_)
      refine O_go (gy rfl rfl rfl) (St.vl (vl_is (b' := true) (vl_leq rfl rfl) (decide_eq_true (by omega))) rfl rfl ?_)
      refine O_go (gn rfl) (St.vl (vl_pick_t rfl rfl) rfl rfl ?_)
      refine O_end [0, 1, 5, 14] (F' := [(0, _), (1, _), (5, _), (14, _)]) rfl ?_
      refine W_cond_true rfl ?_
      refine W_skipE ?_
      have he : acts[i]? = some acts[i] := by simp [hlt]
      obtain ⟨b, off, rfl, hc⟩ := hx i _ he
      generalize acts[i] = x at he hc
      refine W_seq ?_
      refine W_block ?_
      refine W_seq ?_
      by_cases hk : 60 < x.2.1.size
      · refine W_region ?_
        refine O_go (gn rfl) (St.vl (vl_move rfl) rfl rfl ?_)
        refine O_go (gn rfl) (St.vl (vl_move rfl) rfl rfl ?_)
        refine O_go (gn rfl) (St.vl (vl_indexAddr sl22 sz29 rfl rfl _ rfl hlt) rfl rfl ?_)
        refine O_go (gn rfl) (St.vl (vl_fieldAddr fo29_1 rfl) rfl rfl ?_)
        refine O_go (gn rfl) (St.vl (vl_load ag9 rfl (hc 1 _ rfl)) rfl rfl ?_)
        refine O_go (gn rfl) (St.vl (vl_slen st9 rfl) rfl rfl ?_)
        refine O_go (gn rfl) (St.vl (vl_is (b' := true) (vl_gtr rfl rfl) (decide_eq_true (by omega))) rfl rfl ?_)
        refine O_go (gn rfl) (St.vl (vl_move rfl) rfl rfl ?_)
        refine O_guard_no rfl rfl rfl rfl rfl rfl ?_
        refine O_guard_no rfl rfl rfl rfl rfl rfl ?_
        refine O_guard_no rfl rfl rfl rfl rfl rfl ?_
        refine O_guard_no rfl rfl rfl rfl rfl rfl ?_
        refine O_guard_no rfl rfl rfl rfl rfl rfl ?_
        refine O_guard_no rfl rfl rfl rfl rfl rfl ?_
        refine O_guard_no rfl rfl rfl rfl rfl rfl ?_
        refine O_go (gn rfl) (St.vl (vl_pick_t rfl rfl) rfl rfl ?_)
        refine O_end [0, 1, 5, 32] (F' := [(0, _), (1, _), (5, _), (32, _)]) rfl ?_
        refine W_cond_true rfl ?_
        refine W_seq ?_
        refine W_region ?_
        refine O_go (gn rfl) (St.vl (vl_assign rfl) rfl rfl ?_)
        refine O_end [4] (F' := [(4, _)]) rfl ?_
        refine W_ret ?_
        repeat (first | refine then_ret ?_ | refine block_ret ?_)
        refine ret1 rfl rfl ?_
        exact ⟨⟨false, rfl, fun h => by cases h⟩, rfl⟩
      · refine W_region ?_
        refine O_go (gn rfl) (St.vl (vl_move rfl) rfl rfl ?_)
        refine O_go (gn rfl) (St.vl (vl_move rfl) rfl rfl ?_)
        refine O_go (gn rfl) (St.vl (vl_indexAddr sl22 sz29 rfl rfl _ rfl hlt) rfl rfl ?_)
        refine O_go (gn rfl) (St.vl (vl_fieldAddr fo29_1 rfl) rfl rfl ?_)
        refine O_go (gn rfl) (St.vl (vl_load ag9 rfl (hc 1 _ rfl)) rfl rfl ?_)
        refine O_go (gn rfl) (St.vl (vl_slen st9 rfl) rfl rfl ?_)
        refine O_go (gn rfl) (St.vl (vl_is (b' := false) (vl_gtr rfl rfl) (decide_eq_false (by omega))) rfl rfl ?_)
        refine O_go (gn rfl) (St.vl (vl_move rfl) rfl rfl ?_)
        refine O_go (gy rfl rfl rfl) (St.vl (vl_move rfl) rfl rfl ?_)
        refine O_go (gy rfl rfl rfl) (St.vl (vl_move rfl) rfl rfl ?_)
        refine O_go (gy rfl rfl rfl) (St.vl (vl_indexAddr sl22 sz29 rfl rfl _ rfl hlt) rfl rfl ?_)
        refine O_go (gy rfl rfl rfl) (St.vl (vl_fieldAddr fo29_2 rfl) rfl rfl ?_)
        refine O_go (gy rfl rfl rfl) (St.vl (vl_load ag9 rfl (hc 2 _ rfl)) rfl rfl ?_)
        refine O_go (gy rfl rfl rfl) (St.vl (vl_slen st9 rfl) rfl rfl ?_)
        refine O_go (gy rfl rfl rfl) (St.vl (vl_gtr rfl rfl) rfl rfl ?_)
        refine O_go (gn rfl) (St.vl (vl_pick_f rfl rfl) rfl rfl ?_)
        refine O_end [0, 1, 5, 32] (F' := [(0, _), (1, _), (5, _), (32, _)]) rfl ?_
        refine W_cond rfl (fun hT => ?_) (fun hF => ?_)
        · refine W_seq ?_
          refine W_region ?_
          refine O_go (gn rfl) (St.vl (vl_assign rfl) rfl rfl ?_)
          refine O_end [4] (F' := [(4, _)]) rfl ?_
          refine W_ret ?_
          repeat (first | refine then_ret ?_ | refine block_ret ?_)
          refine ret1 rfl rfl ?_
          exact ⟨⟨false, rfl, fun h => by cases h⟩, rfl⟩
        · have hv := of_decide_eq_false hF
          refine W_skip ?_
          refine block_normal ?_
          refine W_region ?_
          refine O_go (gn rfl) (St.vl (vl_move rfl) rfl rfl ?_)
          refine O_go (gn rfl) (St.vl (vl_add rfl rfl (by omega)) rfl rfl ?_)
          refine O_go (gn rfl) (St.vl (vl_assign rfl) rfl rfl ?_)
          refine O_endN [0, 1, 5] (F' := [(0, _), (1, _), (5, _)]) rfl ?_
          exact ⟨acts.length - (i + 1), by omega, rfl, i + 1, rfl, by omega, by omega, small_take hsm he (by omega) (by omega), rfl⟩
    · refine W_region ?_
      refine O_go (gn rfl) (St.vl (vl_move rfl) rfl rfl ?_)
      refine O_go (gn rfl) (St.vl (vl_move rfl) rfl rfl ?_)
      refine O_go (gn rfl) (St.vl (vl_len sl22 rfl) rfl rfl ?_)
      refine O_go (gn rfl) (St.vl (vl_is (b' := true) (vl_lss rfl rfl) (decide_eq_true (by omega))) rfl rfl ?_)
      refine O_go (gn rfl) (St.vl (vl_move rfl) rfl rfl ?_)
      refine O_go (gy rfl rfl rfl) (St.vl (vl_move rfl) rfl rfl ?_)
      refine O_go (gy rfl rfl rfl) (St.vl (vl_move rfl) rfl rfl ?_)
      refine O_go (gy rfl rfl rfl) (St.vl (vl_is (b' := false) (vl_leq rfl rfl) (decide_eq_false (by omega))) rfl rfl ?_)
      refine O_go (gn rfl) (St.vl (vl_pick_t rfl rfl) rfl rfl ?_)
      refine O_end [0, 1, 5, 14] (F' := [(0, _), (1, _), (5, _), (14, _)]) rfl ?_
      refine W_cond_false rfl ?_
      refine W_exit ?_
      repeat (first | refine then_exit ?_ | refine blockF_other rfl ?_)
      refine blockF_exit _ ?_
      refine W_seq ?_
      refine W_region ?_
      refine O_go (gn rfl) (St.vl (vl_move rfl) rfl rfl ?_)
      refine O_go (gn rfl) (St.vl (vl_len sl22 rfl) rfl rfl ?_)
      refine O_go (gn rfl) (St.vl (vl_move rfl) rfl rfl ?_)
      refine O_go (gn rfl) (St.vl (vl_leq rfl rfl) rfl rfl ?_)
      refine O_go (gn rfl) (St.vl (vl_assign rfl) rfl rfl ?_)
      refine O_end [4] (F' := [(4, _)]) rfl ?_
      refine W_ret ?_
      refine ret1 rfl rfl ?_
      exact ⟨⟨_, rfl, fun h => by have h := of_decide_eq_true h; exact ⟨by omega, fin (.inr hle) (by omega)⟩⟩, rfl⟩
  · refine W_region ?_
    refine O_go (gn rfl) (St.vl (vl_move rfl) rfl rfl ?_)
    refine O_go (gn rfl) (St.vl (vl_move rfl) rfl rfl ?_)
    refine O_go (gn rfl) (St.vl (vl_len sl22 rfl) rfl rfl ?_)
    refine O_go (gn rfl) (St.vl (vl_is (b' := false) (vl_lss rfl rfl) (decide_eq_false (by omega))) rfl rfl ?_)
    refine O_go (gn rfl) (St.vl (vl_move rfl) rfl rfl ?_)
    refine O_guard_no rfl rfl rfl rfl rfl rfl ?_
    refine O_guard_no rfl rfl rfl rfl rfl rfl ?_
    refine O_guard_no rfl rfl rfl rfl rfl rfl ?_
    refine O_go (gn rfl) (St.vl (vl_pick_f rfl rfl) rfl rfl ?_)
    refine O_end [0, 1, 5, 14] (F' := [(0, _), (1, _), (5, _), (14, _)]) rfl ?_
    refine W_cond_false rfl ?_
    refine W_exit ?_
    repeat (first | refine then_exit ?_ | refine blockF_other rfl ?_)
    refine blockF_exit _ ?_
    refine W_seq ?_
    refine W_region ?_
    refine O_go (gn rfl) (St.vl (vl_move rfl) rfl rfl ?_)
    refine O_go (gn rfl) (St.vl (vl_len sl22 rfl) rfl rfl ?_)
    refine O_go (gn rfl) (St.vl (vl_move rfl) rfl rfl ?_)
    refine O_go (gn rfl) (St.vl (vl_leq rfl rfl) rfl rfl ?_)
    refine O_go (gn rfl) (St.vl (vl_assign rfl) rfl rfl ?_)
    refine O_end [4] (F' := [(4, _)]) rfl ?_
    refine W_ret ?_
    refine ret1 rfl rfl ?_
    exact ⟨⟨_, rfl, fun h => by have h := of_decide_eq_true h; exact ⟨by omega, fin (.inl hlt) (by omega)⟩⟩, rfl⟩
end Go.Wk

