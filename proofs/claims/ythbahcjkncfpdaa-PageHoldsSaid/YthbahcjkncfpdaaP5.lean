/-
  replace, Insert, Delete, join.
-/
import Derived.Test.YthbahcjkncfpdaaP4
namespace Go.Wk
open Go.Proofs
set_option maxRecDepth 10000

/-- The pages behind a pointer. -/
def Pg (w : World) (p : Nat) (ls : List (List Ent)) : Prop := ∃ v, Blk w p 67 [v] ∧ IsPages w v ls
theorem Pg.chg0 {w w' : World} {p : Nat} {ls : List (List Ent)} (h : Pg w p ls) (hc : Chg [] w w') : Pg w' p ls :=
  let ⟨v, h1, h2⟩ := h; ⟨v, h1.chg0 hc, h2.chg0 hc⟩
theorem Pg.lt {w : World} {p : Nat} {ls : List (List Ent)} (h : Pg w p ls) : p < w.heap.size := let ⟨_, h1, _⟩ := h; h1.lt
theorem Pg.chgO {w w' : World} {p q : Nat} {ls ms : List (List Ent)} (h : Pg w p ls) (hq : Pg w q ms) (hne : p ≠ q) (hc : Chg [q] w w') : Pg w' p ls :=
  let ⟨v, h1, h2⟩ := h; let ⟨_, g1, _⟩ := hq; ⟨v, h1.chg hc (by simpa using hne), h2.chg1 g1 rfl rfl hc⟩

theorem f26 (p : Nat) (ls new : List (List Ent)) (lv : Value) (fr un : Nat) (w : World) (hp : Pg w p ls) (hnew : IsPages w lv new) (h1 : fr ≤ un) (h2 : un ≤ ls.length) (hb1 : ls.length ≤ 1048576) (hb2 : new.length ≤ 1048576) :
    Ret Try.prog 26 #[.pointer (some ⟨p, 0, none⟩), .int .i64 fr, .int .i64 un, lv] w fun r w' => r = .tuple #[] ∧ Pg w' p (ls.take fr ++ new ++ ls.drop un) ∧ Chg [p] w w' := by
  obtain ⟨v, hb, vs, hsl, hal⟩ := hp
  obtain ⟨nvs, hnsl, hnal⟩ := hnew
  obtain ⟨pv, cv, rfl, hlc⟩ := hsl.val
  obtain ⟨pn, cn, rfl, _⟩ := hnsl.val
  have hvl := hsl.len_xs
  have hnl := hnsl.len_xs
  have hA : IsSl w 71 1 (cut pv 0 fr fr 1) ((vs.take fr).length / 1) (vs.take fr) := by
    have := hsl.cut (l := 0) (h := fr) (m := fr) (Nat.zero_le _) (Nat.le_refl _) (by omega) (by omega)
    simpa [show min fr vs.length = fr by omega] using this
  have hB : IsSl w 71 1 (.slice pn new.length cn) (nvs.length / 1) nvs := by simpa [hnl] using hnsl
  have hC : IsSl w 71 1 (cut pv un ls.length cv 1) ((vs.drop un).length / 1) (vs.drop un) := by
    have := hsl.cut (l := un) (h := ls.length) (m := cv) (by omega) hlc (Nat.le_refl _) (Nat.le_refl _)
    have e : (vs.drop (un * 1)).take ((ls.length - un) * 1) = vs.drop un := by rw [Nat.mul_one, Nat.mul_one, List.take_of_length_le (by simp; omega)]
    rw [e] at this
    simpa [hvl] using this
  have hS : AllS w 71 1 [cut pv 0 fr fr 1, .slice pn new.length cn, cut pv un ls.length cv 1] [vs.take fr, nvs, vs.drop un] := ⟨hA, hB, hC, trivial⟩
  have hsum : sumTo 1 [vs.take fr, nvs, vs.drop un] 3 = fr + new.length + (ls.length - un) := by
    simp [sumTo, hvl, hnl, show min fr ls.length = fr by omega]
    omega
  refine Ret.of_W (args := [_, _, _, _]) Try.func26 rfl rfl rfl rfl ?_

  refine W_draw (fun wz => Chg [] w wz) mix (by kernel_rfl) (Chg.drew [] w) ?_
  refine t_pure rfl (gn rfl) (fun _ => vl_move rfl) rfl rfl ?_
  refine t_pure rfl (gn rfl) (fun _ => vl_move rfl) rfl rfl ?_
  refine t_pure rfl (gn rfl) (fun _ => vl_nilCheck rfl) rfl rfl ?_
  refine t_pure rfl (gn rfl) (fun _ => vl_fieldAddr fo67_0 rfl) rfl rfl ?_
  refine t_read rfl (gn rfl) (fun wz hz => vl_load ag65 rfl ((hb.chg0 hz).cell' rfl)) rfl rfl ?_
  refine t_pure rfl (gn rfl) (fun _ => vl_move rfl) rfl rfl ?_
  refine t_pure rfl (gn rfl) (fun _ => vl_move rfl) rfl rfl ?_
  refine t_pure rfl (gn rfl) (fun _ => vl_cut_hm sl65 sz71 rfl rfl rfl _ _ rfl rfl (by omega) (by omega)) rfl rfl ?_
  refine t_pure rfl (gn rfl) (fun _ => vl_move rfl) rfl rfl ?_
  refine t_pure rfl (gn rfl) (fun _ => vl_move rfl) rfl rfl ?_
  refine t_pure rfl (gn rfl) (fun _ => vl_nilCheck rfl) rfl rfl ?_
  refine t_pure rfl (gn rfl) (fun _ => vl_fieldAddr fo67_0 rfl) rfl rfl ?_
  refine t_read rfl (gn rfl) (fun wz hz => vl_load ag65 rfl ((hb.chg0 hz).cell' rfl)) rfl rfl ?_
  refine t_pure rfl (gn rfl) (fun _ => vl_move rfl) rfl rfl ?_
  refine t_pure rfl (gn rfl) (fun _ => vl_cut_l sl65 sz71 rfl rfl _ rfl (by omega)) rfl rfl ?_
  refine t_st rfl (gn rfl) (st_buildSlice ap102 rfl (vs := [_, _, _]) rfl (css := [_, _, _]) ⟨rfl, rfl, rfl, trivial⟩ rfl rfl (cs := [_, _, _]) rfl rfl ?_)
  intro b23 w23 e23 n23 c23 k23
  refine ⟨.inl ((Chg.drew [] w).trans c23), ?_⟩
  refine t_st rfl (gn rfl) (st_call bd42 rfl rfl rfl rfl (f42 _ _ [vs.take fr, nvs, vs.drop un] _ (IsSl.of_blk (n := 3) k23 rfl (by simp [maxLen]) (by intro u hu; simp at hu; rcases hu with rfl | rfl | rfl <;> rfl)) (hS.chg0 ((Chg.drew [] w).trans c23)) (by simp only [List.length_cons, List.length_nil]; rw [hsum]; omega) (by simp)) ?_)
  rintro v24 w24 ⟨i24, n24, c24⟩
  obtain ⟨p24, q24, rfl, _⟩ := i24.val
  refine ⟨.inl (((Chg.drew [] w).trans c23).trans c24), ?_⟩
  refine t_pure rfl (gn rfl) (fun _ => vl_nilCheck rfl) rfl rfl ?_
  refine t_pure rfl (gn rfl) (fun _ => vl_fieldAddr fo67_0 rfl) rfl rfl ?_
  refine t_st rfl (gn rfl) (st_store sz65 rfl rfl rfl rfl (hb.chg0 (((Chg.drew [] w).trans c23).trans c24)) (by simp) (by intro u hu; simp at hu; subst hu; rfl) ?_)
  intro wF nF cF kF
  refine ⟨.inr (by kernel_rfl), ?_⟩
  refine T_endN [] (F' := []) rfl ?_
  have hall : Chg [] w w24 := ((Chg.drew [] w).trans c23).trans c24
  refine end0 rfl ⟨rfl, ⟨_, kF, ?_⟩, (hall.any (S := [p])).transS cF⟩
  have hpg : IsPages w24 (.slice p24 (sumTo 1 [vs.take fr, nvs, vs.drop un] 3) q24) (ls.take fr ++ new ++ ls.drop un) := by
    refine ⟨vs.take fr ++ nvs ++ vs.drop un, ?_, ((hal.take fr).append hnal |>.append (hal.drop un)).chg hall (by simp)⟩
    have hlen : (ls.take fr ++ new ++ ls.drop un).length = sumTo 1 [vs.take fr, nvs, vs.drop un] 3 := by
      rw [hsum]; simp; omega
    rw [hlen]
    simpa using i24
  exact hpg.chg1 (hb.chg0 hall) rfl rfl cF

theorem ex43 : exOf Try.prog 43 = some (Extern.SlicesOverlaps.overlaps #[70, 70] #[4]) := by kernel_rfl

theorem f27 (v u : Value) (i n : Nat) (xs ys : List Value) (w : World) (hv : IsSl w 69 2 v n xs) (hu : IsSl w 69 2 u 1 ys) (hi : i ≤ n) (hn : n ≤ 1048576) (hap : ∀ b ∈ blkOf u, b ∉ blkOf v) :
    Ret Try.prog 27 #[v, .int .i64 i, u] w fun r w' => IsSl w' 69 2 r (n + 1) (xs.take (i * 2) ++ ys ++ xs.drop (i * 2)) ∧ Chg (blkOf v) w w' ∧ (blkOf r = blkOf v ∨ ∃ b, blkOf r = [b] ∧ w.heap.size ≤ b) := by
  have hlx := hv.len_xs
  have hly := hu.len_xs
  obtain ⟨pv, cv, rfl, hlc⟩ := hv.val
  obtain ⟨pu, cu, rfl, _⟩ := hu.val
  refine Ret.of_W (args := [_, _, _]) Try.func27 rfl rfl rfl rfl ?_

  refine W_seq ?_
  refine W_region ?_
  refine O_go (gn rfl) (St.vl (vl_assign rfl) rfl rfl ?_)
  refine O_end [0, 1, 2] (F' := [(0, _), (1, _), (2, _)]) rfl ?_
  refine W_seq ?_
  refine W_region ?_
  refine O_go (gn rfl) (St.vl (vl_move rfl) rfl rfl ?_)
  refine O_go (gn rfl) (St.vl (vl_move rfl) rfl rfl ?_)
  refine O_go (gn rfl) (St.vl (vl_cut_l sl71 sz69 rfl rfl _ rfl hi) rfl rfl ?_)
  refine O_end [0, 1, 2] (F' := [(0, _), (1, _), (2, _)]) rfl ?_
  refine W_seq ?_
  refine W_region ?_
  refine O_go (gn rfl) (St.vl (vl_move rfl) rfl rfl ?_)
  refine O_go (gn rfl) (St.vl (vl_len sl70 rfl) rfl rfl ?_)
  refine O_go (gn rfl) (St.vl (vl_assign rfl) rfl rfl ?_)
  refine O_end [0, 1, 2, 7] (F' := [(0, _), (1, _), (2, _), (7, _)]) rfl ?_
  refine W_seq ?_
  refine W_seq ?_
  refine W_region ?_
  refine O_go (gn rfl) (St.vl (vl_move rfl) rfl rfl ?_)
  refine O_go (gn rfl) (St.vl (vl_ieq rfl rfl) rfl rfl ?_)
  refine O_end [0, 1, 2, 7, 16] (F' := [(0, _), (1, _), (2, _), (7, _), (16, _)]) rfl ?_
  refine W_cond_false rfl ?_
  refine W_skipE ?_
  refine W_seq ?_
  refine W_region ?_
  refine O_go (gn rfl) (St.vl (vl_move rfl) rfl rfl ?_)
  refine O_go (gn rfl) (St.vl (vl_len sl71 rfl) rfl rfl ?_)
  refine O_go (gn rfl) (St.vl (vl_assign rfl) rfl rfl ?_)
  refine O_end [0, 1, 2, 7, 8] (F' := [(0, _), (1, _), (2, _), (7, _), (8, _)]) rfl ?_
  refine W_seq ?_
  refine W_seq ?_
  refine W_region ?_
  refine O_go (gn rfl) (St.vl (vl_move rfl) rfl rfl ?_)
  refine O_go (gn rfl) (St.vl (vl_move rfl) rfl rfl ?_)
  refine O_go (gn rfl) (St.vl (vl_ieq rfl rfl) rfl rfl ?_)
  refine O_end [0, 1, 2, 7, 8, 22] (F' := [(0, _), (1, _), (2, _), (7, _), (8, _), (22, _)]) rfl ?_
  refine W_cond rfl (fun hT => ?_) (fun hF => ?_)
  · obtain rfl : i = n := by have := of_decide_eq_true hT; omega
    refine W_seq ?_
    refine W_region ?_
    refine O_go (gn rfl) (St.vl (vl_move rfl) rfl rfl ?_)
    refine O_go (gn rfl) (St.vl (vl_move rfl) rfl rfl ?_)
    refine O_go (gn rfl) (st_append ap71 sl70 rfl rfl hv hu (by simp only [maxLen]; omega) (by omega) rfl ?_)
    intro v25 w25 i25 c25 o25 z25
    refine O_go (gn rfl) (St.vl (vl_assign rfl) rfl rfl ?_)
    refine O_end [6] (F' := [(6, _)]) rfl ?_
    refine W_ret ?_
    refine then_ret ?_
    refine ret1 rfl rfl ?_
    refine ⟨?_, c25, o25⟩
    rw [List.take_of_length_le (by omega), List.drop_of_length_le (by omega), List.append_nil]
    exact i25
  · have hlt : i < n := by have := of_decide_eq_false hF; omega
    refine W_skipE ?_
    refine W_seq ?_
    refine W_seq ?_
    refine W_region ?_
    refine O_go (gn rfl) (St.vl (vl_move rfl) rfl rfl ?_)
    refine O_go (gn rfl) (St.vl (vl_move rfl) rfl rfl ?_)
    refine O_go (gn rfl) (St.vl (vl_add rfl rfl (by omega)) rfl rfl ?_)
    refine O_go (gn rfl) (St.vl (vl_move rfl) rfl rfl ?_)
    refine O_go (gn rfl) (St.vl (vl_cap sl71 rfl) rfl rfl ?_)
    refine O_go (gn rfl) (St.vl (vl_gtr rfl rfl) rfl rfl ?_)
    refine O_end [0, 1, 2, 7, 8, 31] (F' := [(0, _), (1, _), (2, _), (7, _), (8, _), (31, _)]) rfl ?_
    refine W_cond rfl (fun hT => ?_) (fun hF => ?_)
    · have hgr : cv < n + 1 := by have := of_decide_eq_true hT; omega
      refine W_seq ?_
      refine W_region ?_
      refine O_go (gn rfl) (St.vl (vl_move rfl) rfl rfl ?_)
      refine O_go (gn rfl) (St.vl (vl_move rfl) rfl rfl ?_)
      refine O_go (gn rfl) (St.vl (vl_cut_h sl71 sz69 rfl rfl i rfl (by omega)) rfl rfl ?_)
      refine O_go (gn rfl) (St.vl (vl_move rfl) rfl rfl ?_)
      refine O_go (gn rfl) (St.vl (vl_move rfl) rfl rfl ?_)
      refine O_go (gn rfl) (St.vl (vl_add rfl rfl (by omega)) rfl rfl ?_)
      refine O_go (gn rfl) (St.vl (vl_move rfl) rfl rfl ?_)
      refine O_go (gn rfl) (St.vl (vl_eq (v' := .int .i64 ((n + 1 - i : Nat) : Int)) (vl_sub rfl rfl (by omega)) (by congr 1; omega)) rfl rfl ?_)
      have hcutA : IsSl w 69 2 (cut pv 0 i cv 2) i (xs.take (i * 2)) := by simpa using hv.cut (l := 0) (h := i) (m := cv) (Nat.zero_le _) (by omega) (Nat.le_refl _) hi
      have hcutB : IsSl w 69 2 (cut pv i n cv 2) (n - i) (xs.drop (i * 2)) := by
        have := hv.cut (l := i) (h := n) (m := cv) hi hlc (Nat.le_refl _) (Nat.le_refl _)
        rw [List.take_of_length_le (by simp; omega)] at this
        exact this
      have hAl : (xs.take (i * 2)).length = i * 2 := by simp; omega
      have hBl : (xs.drop (i * 2)).length = (n - i) * 2 := by simp; omega
      refine O_go (gn rfl) (st_appendMake ap71 it3_i64 rfl rfl rfl hcutA (fun p c he => by obtain ⟨q, hq⟩ := cut_val pv 0 i cv 2; rw [hq] at he; simp only [Value.slice.injEq] at he; omega) (by simp only [maxLen]; omega) (by omega) rfl ?_)
      intro b cap zs w40 hb c40 hge hle hzl hone k40
      refine O_go (gn rfl) (St.vl (vl_eq (v' := .slice (some ⟨b, 0, none⟩) (n + 1) cap) (vl_assign rfl) (by congr 1; omega)) rfl rfl ?_)
      refine O_end [0, 1, 2, 7, 9] (F' := [(0, _), (1, _), (2, _), (7, _), (9, _)]) rfl ?_
      refine W_seq ?_
      refine W_region ?_
      refine O_go (gn rfl) (St.vl (vl_move rfl) rfl rfl ?_)
      refine O_go (gn rfl) (St.vl (vl_move rfl) rfl rfl ?_)
      refine O_go (gn rfl) (St.vl (vl_eq (vl_cut_l sl71 sz69 rfl rfl i rfl (by omega)) (cut_ne (by omega))) rfl rfl ?_)
      refine O_go (gn rfl) (St.vl (vl_move rfl) rfl rfl ?_)
      refine O_go (gn rfl) (st_copy (c := 1) sl71 sz69 rfl rfl (hu.chg0 c40) k40 (by omega) (by simp; omega) rfl ?_)
      intro w45 n45 c45 k45
      refine O_end [0, 1, 7, 9] (F' := [(0, _), (1, _), (7, _), (9, _)]) rfl ?_
      refine W_seq ?_
      have hc2 : Chg [] w w45.drew := (c40.own c45 (by simp [← hb])).trans (Chg.drew [] _)
      have k45' : Blk w45.drew b 69 _ := k45
      rw [show 0 + i * 2 = (xs.take (i * 2)).length by omega, laid_mid, List.take_of_length_le (show ys.length ≤ 1 * 2 by omega)] at k45'
      rw [← List.append_assoc] at k45'
      refine W_draw (fun _ => True) mix (by kernel_rfl) trivial ?_
      refine t_pure rfl (gn rfl) (fun _ => vl_move rfl) rfl rfl ?_
      refine t_pure rfl (gn rfl) (fun _ => vl_move rfl) rfl rfl ?_
      refine t_pure rfl (gn rfl) (fun _ => vl_move rfl) rfl rfl ?_
      refine t_pure rfl (gn rfl) (fun _ => vl_add rfl rfl (by omega)) rfl rfl ?_
      refine t_pure rfl (gn rfl) (fun _ => vl_eq (vl_cut_l sl71 sz69 rfl rfl (i + 1) rfl (by omega)) (cut_ne (by omega))) rfl rfl ?_
      refine t_pure rfl (gn rfl) (fun _ => vl_move rfl) rfl rfl ?_
      refine t_pure rfl (gn rfl) (fun _ => vl_move rfl) rfl rfl ?_
      refine t_pure rfl (gn rfl) (fun _ => vl_cut_l sl71 sz69 rfl rfl i rfl hi) rfl rfl ?_
      refine t_st rfl (gn rfl) (st_copy (c := n - i) sl71 sz69 rfl rfl (hcutB.chg0 hc2) k45' (by omega) (by simp only [List.length_append, List.length_drop, hAl]; omega) rfl ?_)
      intro w54 n54 c54 k54
      refine ⟨.inl trivial, ?_⟩
      refine T_end [9] (F' := [(9, _)]) rfl ?_
      refine W_seq ?_
      refine W_region ?_
      refine O_go (gn rfl) (St.vl (vl_move rfl) rfl rfl ?_)
      refine O_go (gn rfl) (St.vl (vl_assign rfl) rfl rfl ?_)
      refine O_end [6] (F' := [(6, _)]) rfl ?_
      refine W_ret ?_
      refine then_ret ?_
      refine ret1 rfl rfl ?_
      rw [show 0 + (i + 1) * 2 = (xs.take (i * 2) ++ ys).length by rw [List.length_append]; omega, laid_mid, List.take_of_length_le (show (xs.drop (i * 2)).length ≤ (n - i) * 2 by omega)] at k54
      refine ⟨.inr ⟨b, 0, cap, _, rfl, k54, (by omega), hle, ?_, ?_, ?_⟩, ((hc2.own c54 (by simp [← hb])).any), .inr ⟨b, rfl, by omega⟩⟩
      · simp only [List.length_append, List.length_drop, hAl]; omega
      · rw [List.drop_zero, ← List.append_assoc, List.take_left' (by simp only [List.length_append]; omega)]
      · intro q hq
        simp only [List.mem_append] at hq hone
        rcases hq with (hq | hq) | hq | hq
        · exact hone q (.inl hq)
        · exact hu.one_xs q hq
        · exact hv.one_xs q (List.mem_of_mem_drop hq)
        · exact hone q (.inr (List.mem_of_mem_drop (List.mem_of_mem_drop hq)))
    · have hroom : n + 1 ≤ cv := by have := of_decide_eq_false hF; omega
      obtain ⟨b, off, c, rfl, hs⟩ : ∃ b off c, pv = some ⟨b, off, none⟩ ∧ SlAt w 69 2 b off n cv c xs := by
        rcases hv with ⟨he, _, _⟩ | ⟨b, off, cap, c, he, hs⟩
        · simp only [Value.slice.injEq] at he; omega
        · simp only [Value.slice.injEq] at he
          obtain ⟨rfl, _, rfl⟩ := he
          exact ⟨b, off, c, rfl, hs⟩
      obtain ⟨bu, ou, cu', rfl, hsu⟩ : ∃ b off c, pu = some ⟨b, off, none⟩ ∧ SlAt w 69 2 b off 1 cu c ys := by
        rcases hu with ⟨_, h1, _⟩ | ⟨b, off, cap, c, he, hs⟩
        · omega
        · simp only [Value.slice.injEq] at he
          obtain ⟨rfl, _, rfl⟩ := he
          exact ⟨b, off, c, rfl, hs⟩
      have hne : bu ≠ b := by have := hap bu (by simp [blkOf]); simpa [blkOf] using this
      have hfit := hs.fit
      have hsn : SlAt w 69 2 b off (n + 1) cv c ((c.drop off).take ((n + 1) * 2)) := ⟨hs.blk, hroom, hs.max, hs.fit, rfl, hs.one⟩
      have hsrc := hsn.cut (l := i) (h := n + 1) (m := cv) (by omega) hroom (Nat.le_refl _)
      rw [cut_ne (by omega)] at hsrc
      refine W_skipE ?_
      refine W_seq ?_
      refine W_region ?_
      refine O_go (gn rfl) (St.vl (vl_move rfl) rfl rfl ?_)
      refine O_go (gn rfl) (St.vl (vl_move rfl) rfl rfl ?_)
      refine O_go (gn rfl) (St.vl (vl_move rfl) rfl rfl ?_)
      refine O_go (gn rfl) (St.vl (vl_add rfl rfl (by omega)) rfl rfl ?_)
      refine O_go (gn rfl) (St.vl (vl_eq (vl_cut_h sl71 sz69 rfl rfl (n + 1) rfl hroom) cut_zero) rfl rfl ?_)
      refine O_go (gn rfl) (St.vl (vl_assign rfl) rfl rfl ?_)
      refine O_end [0, 1, 2, 7, 8] (F' := [(0, _), (1, _), (2, _), (7, _), (8, _)]) rfl ?_
      refine W_seq ?_
      refine W_seq ?_
      refine W_region ?_
      refine O_go (gn rfl) (St.vl (vl_move rfl) rfl rfl ?_)
      refine O_go (gn rfl) (St.vl (vl_move rfl) rfl rfl ?_)
      refine O_go (gn rfl) (St.vl (vl_move rfl) rfl rfl ?_)
      refine O_go (gn rfl) (St.vl (vl_move rfl) rfl rfl ?_)
      refine O_go (gn rfl) (St.vl (vl_add rfl rfl (by omega)) rfl rfl ?_)
      refine O_go (gn rfl) (St.vl (vl_eq (vl_cut_l sl71 sz69 rfl rfl (i + 1) rfl (by omega)) (cut_ne (by omega))) rfl rfl ?_)
      refine O_go (gn rfl) (st_ext ex43 rfl rfl (run_overlaps rfl sl70 sz69 hsu.blk hs.blk hne) rfl ?_)
      refine O_go (gn rfl) (St.vl (vl_not rfl) rfl rfl ?_)
      refine O_end [0, 1, 2, 7, 8, 68] (F' := [(0, _), (1, _), (2, _), (7, _), (8, _), (68, _)]) rfl ?_
      refine W_cond_true rfl ?_
      refine W_seq ?_
      refine W_draw (fun _ => True) mix (by kernel_rfl) trivial ?_
      refine t_pure rfl (gn rfl) (fun _ => vl_move rfl) rfl rfl ?_
      refine t_pure rfl (gn rfl) (fun _ => vl_move rfl) rfl rfl ?_
      refine t_pure rfl (gn rfl) (fun _ => vl_move rfl) rfl rfl ?_
      refine t_pure rfl (gn rfl) (fun _ => vl_add rfl rfl (by omega)) rfl rfl ?_
      refine t_pure rfl (gn rfl) (fun _ => vl_eq (vl_cut_l sl71 sz69 rfl rfl (i + 1) rfl (by omega)) (cut_ne (by omega))) rfl rfl ?_
      refine t_pure rfl (gn rfl) (fun _ => vl_move rfl) rfl rfl ?_
      refine t_pure rfl (gn rfl) (fun _ => vl_move rfl) rfl rfl ?_
      refine t_pure rfl (gn rfl) (fun _ => vl_eq (vl_cut_l sl71 sz69 rfl rfl i rfl (by omega)) (cut_ne (by omega))) rfl rfl ?_
      refine t_st rfl (gn rfl) (st_copy (c := n - i) sl71 sz69 rfl rfl (hsrc.chg0 (Chg.drew [] _)) (hs.blk.chg0 (Chg.drew [] _)) (by omega) (by omega) rfl ?_)
      intro w77 n77 c77 k77
      refine ⟨.inl trivial, ?_⟩
      refine T_end [0, 1, 2] (F' := [(0, _), (1, _), (2, _)]) rfl ?_
      have hc77 : Chg [b] w w77 := (Chg.drew [b] w).transS c77
      have hu77 := hu.chg hc77 (by simpa [blkOf] using hne)
      refine W_seq ?_
      refine W_region ?_
      refine O_go (gn rfl) (St.vl (vl_move rfl) rfl rfl ?_)
      refine O_go (gn rfl) (St.vl (vl_move rfl) rfl rfl ?_)
      refine O_go (gn rfl) (St.vl (vl_eq (vl_cut_l sl71 sz69 rfl rfl i rfl (by omega)) (cut_ne (by omega))) rfl rfl ?_)
      refine O_go (gn rfl) (St.vl (vl_move rfl) rfl rfl ?_)
      refine O_go (gn rfl) (st_copy (c := 1) sl71 sz69 rfl rfl hu77 k77 (by omega) (by rw [length_laid (by simp; omega)]; omega) rfl ?_)
      intro w82 n82 c82 k82
      refine O_end [0] (F' := [(0, _)]) rfl ?_
      refine W_seq ?_
      refine W_region ?_
      refine O_go (gn rfl) (St.vl (vl_move rfl) rfl rfl ?_)
      refine O_go (gn rfl) (St.vl (vl_assign rfl) rfl rfl ?_)
      refine O_end [6] (F' := [(6, _)]) rfl ?_
      refine W_ret ?_
      refine then_ret ?_
      refine ret1 rfl rfl ?_
      have hB : ((c.drop (off + i * 2)).take ((n + 1 - i) * 2)).take ((n - i) * 2) = xs.drop (i * 2) := by
        rw [List.take_take, hs.xs, List.drop_take, List.drop_drop]
        congr 1
        omega
      have hsplit : c = c.take (off + i * 2) ++ (xs.drop (i * 2) ++ c.drop (off + n * 2)) := by
        have e1 : c.drop (off + i * 2) = xs.drop (i * 2) ++ c.drop (off + n * 2) := by
          have e2 := List.take_append_drop ((n - i) * 2) (c.drop (off + i * 2))
          rw [List.drop_drop, show off + i * 2 + (n - i) * 2 = off + n * 2 by omega] at e2
          rw [← e2]
          congr 1
          rw [hs.xs, List.drop_take, List.drop_drop]
          congr 1
          omega
        rw [← e1, List.take_append_drop]
      have hAl : (c.take (off + i * 2)).length = off + i * 2 := by simp; omega
      obtain ⟨R, hR, hRm⟩ := laid_shift (c.take (off + i * 2)) (xs.drop (i * 2)) (c.drop (off + n * 2)) ys (by simp; omega)
      rw [hB, List.take_of_length_le (show ys.length ≤ 1 * 2 by omega)] at k82
      rw [← hsplit, hAl, show off + i * 2 + ys.length = off + (i + 1) * 2 by omega] at hR
      rw [hR] at k82
      refine ⟨.inr ⟨b, off, cv, _, rfl, k82, hroom, hs.max, ?_, ?_, ?_⟩, hc77.transS c82, .inl rfl⟩
      · have hcl : c.length = (c.take (off + i * 2) ++ (ys ++ (xs.drop (i * 2) ++ R))).length := by
          rw [← hR, length_laid, length_laid]
          · simp; omega
          · rw [length_laid (by simp; omega)]; omega
        rw [← hcl]; exact hfit
      · have e3 : (c.take (off + i * 2)).drop off = xs.take (i * 2) := by
          rw [List.drop_take, hs.xs, List.take_take]
          congr 1
          omega
        rw [List.drop_append_of_le_length (by omega), e3, ← List.append_assoc, ← List.append_assoc, List.take_left' (by simp; omega)]
      · intro q hq
        simp only [List.mem_append] at hq
        rcases hq with hq | hq | hq | hq
        · exact hs.one q (List.mem_of_mem_take hq)
        · exact hu.one_xs q hq
        · exact hs.one_xs q (List.mem_of_mem_drop hq)
        · rcases hRm q hq with h | h
          · exact hs.one q (List.mem_of_mem_drop h)
          · exact hs.one_xs q (List.mem_of_mem_drop h)
end Go.Wk

