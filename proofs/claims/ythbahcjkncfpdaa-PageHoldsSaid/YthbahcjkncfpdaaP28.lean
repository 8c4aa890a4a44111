/-
  The document's From: the entries from a key on.
-/
import Derived.Test.YthbahcjkncfpdaaP27
namespace Go.Wk
open Go.Proofs
set_option maxRecDepth 10000

theorem fromP_nil {l : List Ent} {key : ByteArray} (h : ∀ x ∈ l, blt x.1 key = true) : fromP l key = [] := by
  unfold fromP
  rw [List.filter_eq_nil_iff]
  intro x hx
  simp [h x hx]
theorem fromP_drop {es : List Ent} {key : ByteArray} {i : Nat} (hs : Srt es) (hlow : ∀ x ∈ es.take i, blt x.1 key = true) (hhigh : ∀ x, es[i]? = some x → blt x.1 key = false) : es.drop i = fromP es key := by
  conv => rhs; rw [← List.take_append_drop i es]
  rw [fromP_append, fromP_nil hlow, List.nil_append]
  unfold fromP
  rw [List.filter_eq_self.2]
  intro x hx
  obtain ⟨j, hj⟩ := List.mem_iff_getElem?.1 hx
  rw [List.getElem?_drop] at hj
  have hlt := (List.getElem?_eq_some_iff.1 hj).1
  have h0 : es[i]? = some es[i] := by simp
  have h1 := hhigh _ h0
  cases j with
  | zero => rw [Nat.add_zero, h0] at hj; simp only [Option.some.injEq] at hj; rw [← hj, h1]; rfl
  | succ j =>
    have h2 := hs.at (show i < i + (j + 1) by omega) h0 hj
    cases hb : blt x.1 key with
    | false => rfl
    | true => rw [blt_trans h2 hb] at h1; cases h1

theorem f20 (v : Value) (ls : List (List Ent)) (key : ByteArray) (w : World) (hp : RPg w v ls) (hw : WfP ls) (hn : ls.length ≤ 65536) :
    Ret Try.prog 20 #[.agg #[v], .string key] w fun r w' => RList w' r (fromP ls.flatten key) ∧ Chg [] w w' := by
  have hm := flat_mono ls hw.le (Nat.le_refl _) hn
  rw [List.take_length] at hm
  have hs := hw.srt
  obtain ⟨us, hsl, hal⟩ := id hp
  obtain ⟨p, c, rfl, _⟩ := hsl.val
  refine Ret.of_W (args := [_, _]) Try.func20 rfl rfl rfl rfl ?_

  refine W_seq ?_
  refine W_region ?_
  refine O_go (gn rfl) (st_box rfl rfl rfl ?_)
  intro b2 w2 e2 n2 c2 k2
  refine O_go (gn rfl) (St.vl (vl_assign rfl) rfl rfl ?_)
  refine O_end [1, 2] (F' := [(1, _), (2, _)]) rfl ?_
  refine W_seq ?_
  refine W_region ?_
  refine O_go (gn rfl) (St.vl (vl_loadAgg ag48 sz48 rfl rfl (Cells.of_blk0 k2)) rfl rfl ?_)
  refine O_go (gn rfl) (st_call bd36 rfl rfl rfl rfl (f36 _ ls _ (hp.chg0 c2) hw.le hn) ?_)
  rintro v8 w8 ⟨hl, c8⟩
  refine O_go (gn rfl) (St.vl (vl_assign rfl) rfl rfl ?_)
  refine O_end [1, 5] (F' := [(1, _), (5, _)]) rfl ?_
  generalize ls.flatten = es at *
  obtain ⟨q, d, rfl, hd⟩ := IsSl.val hl
  refine W_seq ?_
  refine W_region ?_
  refine O_go (gn rfl) (St.vl (vl_assign rfl) rfl rfl ?_)
  refine O_end [1, 5, 6] (F' := [(1, _), (5, _), (6, _)]) rfl ?_
  refine W_seq ?_
  refine W_block ?_
  refine W_loop [1, 5, 6] (fun m F wx => wx = w8 ∧ ∃ (i : Nat), m = es.length - i ∧ i ≤ es.length ∧ F = [(1, .string key), (5, .slice q es.length d), (6, .int .i64 i)] ∧ ∀ x ∈ es.take i, blt x.1 key = true) (m := es.length - 0) ⟨rfl, 0, rfl, Nat.zero_le _, rfl, by simp⟩ ?_
  rintro m F wx ⟨rfl, i, rfl, hi, rfl, hlow⟩
  refine W_seq ?_
  refine W_seq ?_
  by_cases hlt : i < es.length
  · have hx : es[i]? = some es[i] := by simp [hlt]
    generalize es[i] = x at hx
    obtain ⟨b, off, cap, hv, hc⟩ := RList.at' hl hx
    simp only [Value.slice.injEq] at hv
    obtain ⟨rfl, _, rfl⟩ := hv
    cases hb : blt x.1 key with
    | true =>
      refine W_region ?_
      refine O_go (gn rfl) (St.vl (vl_move rfl) rfl rfl ?_)
      refine O_go (gn rfl) (St.vl (vl_move rfl) rfl rfl ?_)
      refine O_go (gn rfl) (St.vl (vl_len sl53 rfl) rfl rfl ?_)
      refine O_go (gn rfl) (St.vl (vl_is (b' := true) (vl_lss rfl rfl) (decide_eq_true (by omega))) rfl rfl ?_)
      refine O_go (gn rfl) (St.vl (vl_move rfl) rfl rfl ?_)
      refine O_go (gy rfl rfl rfl) (St.vl (vl_move rfl) rfl rfl ?_)
      refine O_go (gy rfl rfl rfl) (St.vl (vl_move rfl) rfl rfl ?_)
      refine O_go (gy rfl rfl rfl) (St.vl (vl_indexAddr sl53 sz57 rfl rfl _ rfl hlt) rfl rfl ?_)
      refine O_go (gy rfl rfl rfl) (St.vl (vl_fieldAddr fo57_0 rfl) rfl rfl ?_)
      refine O_go (gy rfl rfl rfl) (St.vl (vl_load ag9 rfl (hc 0 _ rfl)) rfl rfl ?_)
      refine O_go (gy rfl rfl rfl) (St.vl (vl_move rfl) rfl rfl ?_)
      refine O_go (gy rfl rfl rfl) (St.vl (vl_is (b' := true) (vl_slt rfl rfl) hb) rfl rfl ?_)
      refine O_go (gn rfl) (St.vl (vl_pick_t rfl rfl) rfl rfl ?_)
      refine O_end [1, 5, 6, 21] (F' := [(1, _), (5, _), (6, _), (21, _)]) rfl ?_
      refine W_cond_true rfl ?_
      refine W_skipE ?_
      refine W_block ?_
      refine W_region ?_
      refine O_go (gn rfl) (St.vl (vl_move rfl) rfl rfl ?_)
      refine O_go (gn rfl) (St.vl (vl_add rfl rfl (by omega)) rfl rfl ?_)
      refine O_go (gn rfl) (St.vl (vl_assign rfl) rfl rfl ?_)
      refine O_endN [1, 5, 6] (F' := [(1, _), (5, _), (6, _)]) rfl ?_
      refine block_normal ?_
      refine ⟨es.length - (i + 1), by omega, rfl, i + 1, rfl, by omega, rfl, fun y hy => ?_⟩
      rw [List.take_add_one, hx] at hy
      rcases List.mem_append.1 hy with hy | hy
      · exact hlow y hy
      · simp at hy; subst hy; exact hb
    | false =>
      refine W_region ?_
      refine O_go (gn rfl) (St.vl (vl_move rfl) rfl rfl ?_)
      refine O_go (gn rfl) (St.vl (vl_move rfl) rfl rfl ?_)
      refine O_go (gn rfl) (St.vl (vl_len sl53 rfl) rfl rfl ?_)
      refine O_go (gn rfl) (St.vl (vl_is (b' := true) (vl_lss rfl rfl) (decide_eq_true (by omega))) rfl rfl ?_)
      refine O_go (gn rfl) (St.vl (vl_move rfl) rfl rfl ?_)
      refine O_go (gy rfl rfl rfl) (St.vl (vl_move rfl) rfl rfl ?_)
      refine O_go (gy rfl rfl rfl) (St.vl (vl_move rfl) rfl rfl ?_)
      refine O_go (gy rfl rfl rfl) (St.vl (vl_indexAddr sl53 sz57 rfl rfl _ rfl hlt) rfl rfl ?_)
      refine O_go (gy rfl rfl rfl) (St.vl (vl_fieldAddr fo57_0 rfl) rfl rfl ?_)
      refine O_go (gy rfl rfl rfl) (St.vl (vl_load ag9 rfl (hc 0 _ rfl)) rfl rfl ?_)
      refine O_go (gy rfl rfl rfl) (St.vl (vl_move rfl) rfl rfl ?_)
      refine O_go (gy rfl rfl rfl) (St.vl (vl_is (b' := false) (vl_slt rfl rfl) hb) rfl rfl ?_)
      refine O_go (gn rfl) (St.vl (vl_pick_t rfl rfl) rfl rfl ?_)
      refine O_end [1, 5, 6, 21] (F' := [(1, _), (5, _), (6, _), (21, _)]) rfl ?_
      refine W_cond_false rfl ?_
      refine W_exit ?_
      repeat (first | refine then_exit ?_ | refine blockF_other rfl ?_)
      refine blockF_exit _ ?_
      refine W_seq ?_
      refine W_region ?_
      refine O_go (gn rfl) (St.vl (vl_move rfl) rfl rfl ?_)
      refine O_go (gn rfl) (St.vl (vl_move rfl) rfl rfl ?_)
      refine O_go (gn rfl) (St.vl (vl_cut_l sl53 sz57 rfl rfl _ rfl hi) rfl rfl ?_)
      refine O_go (gn rfl) (St.vl (vl_assign rfl) rfl rfl ?_)
      refine O_end [4] (F' := [(4, _)]) rfl ?_
      refine W_ret ?_
      refine ret1 rfl rfl ?_
      refine ⟨?_, c2.trans c8⟩
      have := IsSl.cut hl (l := i) (h := es.length) (m := d) hi hd (Nat.le_refl _) (Nat.le_refl _)
      rw [← flat_drop, List.take_of_length_le (by rw [length_flat, List.length_drop]; omega)] at this
      rw [← fromP_drop hs hlow (fun y hy => by rw [hx] at hy; simp only [Option.some.injEq] at hy; subst hy; exact hb)]
      unfold RList
      rw [List.length_drop]
      exact this
  · have he : i = es.length := by omega
    subst he
    refine W_region ?_
    refine O_go (gn rfl) (St.vl (vl_move rfl) rfl rfl ?_)
    refine O_go (gn rfl) (St.vl (vl_move rfl) rfl rfl ?_)
    refine O_go (gn rfl) (St.vl (vl_len sl53 rfl) rfl rfl ?_)
    refine O_go (gn rfl) (St.vl (vl_is (b' := false) (vl_lss rfl rfl) (decide_eq_false (by omega))) rfl rfl ?_)
    refine O_go (gn rfl) (St.vl (vl_move rfl) rfl rfl ?_)
    refine O_guard_no rfl rfl rfl rfl rfl rfl ?_
    refine O_guard_no rfl rfl rfl rfl rfl rfl ?_
    refine O_guard_no rfl rfl rfl rfl rfl rfl ?_
    refine O_guard_no rfl rfl rfl rfl rfl rfl ?_
    refine O_guard_no rfl rfl rfl rfl rfl rfl ?_
    refine O_guard_no rfl rfl rfl rfl rfl rfl ?_
    refine O_guard_no rfl rfl rfl rfl rfl rfl ?_
    refine O_go (gn rfl) (St.vl (vl_pick_f rfl rfl) rfl rfl ?_)
    refine O_end [1, 5, 6, 21] (F' := [(1, _), (5, _), (6, _), (21, _)]) rfl ?_
    refine W_cond_false rfl ?_
    refine W_exit ?_
    repeat (first | refine then_exit ?_ | refine blockF_other rfl ?_)
    refine blockF_exit _ ?_
    refine W_seq ?_
    refine W_region ?_
    refine O_go (gn rfl) (St.vl (vl_move rfl) rfl rfl ?_)
    refine O_go (gn rfl) (St.vl (vl_move rfl) rfl rfl ?_)
    refine O_go (gn rfl) (St.vl (vl_cut_l sl53 sz57 rfl rfl _ rfl hi) rfl rfl ?_)
    refine O_go (gn rfl) (St.vl (vl_assign rfl) rfl rfl ?_)
    refine O_end [4] (F' := [(4, _)]) rfl ?_
    refine W_ret ?_
    refine ret1 rfl rfl ?_
    refine ⟨?_, c2.trans c8⟩
    have := IsSl.cut hl (l := es.length) (h := es.length) (m := d) hi hd (Nat.le_refl _) (Nat.le_refl _)
    rw [← flat_drop, List.take_of_length_le (by rw [length_flat, List.length_drop]; omega)] at this
    rw [← fromP_drop hs hlow (fun y hy => by simp at hy)]
    unfold RList
    rw [List.length_drop]
    exact this
end Go.Wk

