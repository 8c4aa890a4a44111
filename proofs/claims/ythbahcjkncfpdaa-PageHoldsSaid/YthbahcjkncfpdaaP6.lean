/-
  Delete, join.
-/
import Derived.Test.YthbahcjkncfpdaaP5
namespace Go.Wk
open Go.Proofs
set_option maxRecDepth 10000

theorem f28 (v : Value) (i n : Nat) (xs : List Value) (w : World) (hv : IsSl w 69 2 v n xs) (hi : i < n) (hn : n ≤ 1048576) :
    Ret Try.prog 28 #[v, .int .i64 i, .int .i64 ((i : Int) + 1)] w fun r w' => IsSl w' 69 2 r (n - 1) (xs.take (i * 2) ++ xs.drop (i * 2 + 2)) ∧ Chg (blkOf v) w w' ∧ blkOf r = blkOf v := by
  have hlx := hv.len_xs
  obtain ⟨b, off, cv, c, rfl, hs⟩ : ∃ b off cv c, v = .slice (some ⟨b, off, none⟩) n cv ∧ SlAt w 69 2 b off n cv c xs := by
    rcases hv with ⟨_, rfl, _⟩ | ⟨b, off, cap, c, he, hs⟩
    · omega
    · exact ⟨b, off, cap, c, he, hs⟩
  have hfit := hs.fit
  have hlc := hs.le
  refine Ret.of_W (args := [_, _, _]) Try.func28 rfl rfl rfl rfl ?_

  refine W_seq ?_
  refine W_region ?_
  refine O_go (gn rfl) (St.vl (vl_assign rfl) rfl rfl ?_)
  refine O_end [0, 1, 2] (F' := [(0, _), (1, _), (2, _)]) rfl ?_
  refine W_seq ?_
  refine W_region ?_
  refine O_go (gn rfl) (St.vl (vl_move rfl) rfl rfl ?_)
  refine O_go (gn rfl) (St.vl (vl_move rfl) rfl rfl ?_)
  refine O_go (gn rfl) (St.vl (vl_move rfl) rfl rfl ?_)
  refine O_go (gn rfl) (St.vl (vl_move rfl) rfl rfl ?_)
  refine O_go (gn rfl) (St.vl (vl_len sl71 rfl) rfl rfl ?_)
  refine O_go (gn rfl) (St.vl (vl_cut_lhm sl71 sz69 rfl rfl rfl rfl i (i + 1) n rfl (by omega) rfl (by omega) (by omega) (by omega)) rfl rfl ?_)
  refine O_end [0, 1, 2] (F' := [(0, _), (1, _), (2, _)]) rfl ?_
  refine W_seq ?_
  refine W_seq ?_
  refine W_region ?_
  refine O_go (gn rfl) (St.vl (vl_move rfl) rfl rfl ?_)
  refine O_go (gn rfl) (St.vl (vl_move rfl) rfl rfl ?_)
  refine O_go (gn rfl) (St.vl (vl_is (b' := false) (vl_ieq rfl rfl) (by simp; omega)) rfl rfl ?_)
  refine O_end [0, 1, 2, 16] (F' := [(0, _), (1, _), (2, _), (16, _)]) rfl ?_
  refine W_cond_false rfl ?_
  refine W_skipE ?_
  refine W_seq ?_
  refine W_region ?_
  refine O_go (gn rfl) (St.vl (vl_move rfl) rfl rfl ?_)
  refine O_go (gn rfl) (St.vl (vl_len sl71 rfl) rfl rfl ?_)
  refine O_go (gn rfl) (St.vl (vl_assign rfl) rfl rfl ?_)
  refine O_end [0, 1, 2, 7] (F' := [(0, _), (1, _), (2, _), (7, _)]) rfl ?_
  refine W_seq ?_
  have hsrc := hs.cut (l := i + 1) (h := n) (m := cv) (by omega) hlc (Nat.le_refl _)
  have hB : (c.drop (off + (i + 1) * 2)).take ((n - (i + 1)) * 2) = xs.drop (i * 2 + 2) := by
    rw [hs.xs, List.drop_take, List.drop_drop]
    congr 1
    · omega
    · congr 1; omega
  rw [hB] at hsrc
  have hBl : (xs.drop (i * 2 + 2)).length = (n - (i + 1)) * 2 := by simp; omega
  refine W_draw (fun _ => True) mix (by kernel_rfl) trivial ?_
  refine t_pure rfl (gn rfl) (fun _ => vl_move rfl) rfl rfl ?_
  refine t_pure rfl (gn rfl) (fun _ => vl_move rfl) rfl rfl ?_
  refine t_pure rfl (gn rfl) (fun _ => vl_eq (vl_cut_h sl71 sz69 rfl rfl i rfl (by omega)) cut_zero) rfl rfl ?_
  refine t_pure rfl (gn rfl) (fun _ => vl_move rfl) rfl rfl ?_
  refine t_pure rfl (gn rfl) (fun _ => vl_move rfl) rfl rfl ?_
  refine t_pure rfl (gn rfl) (fun _ => vl_cut_l sl71 sz69 rfl rfl (i + 1) (by omega) (by omega)) rfl rfl ?_
  refine t_st rfl (gn rfl) (st_appendRoom sl71 sz69 sl71 rfl rfl (hs.blk.chg0 (Chg.drew [] _)) (hsrc.chg0 (Chg.drew [] _)) (by omega) hfit rfl ?_)
  intro w26 n26 c26 k26
  refine ⟨.inl trivial, ?_⟩
  refine t_pure rfl (gn rfl) (fun _ => vl_eq (v' := .slice (some ⟨b, off, none⟩) (n - 1) cv) (vl_assign rfl) (by congr 1; omega)) rfl rfl ?_
  refine T_end [0, 7] (F' := [(0, _), (7, _)]) rfl ?_
  have hl26 : (laid c (off + i * 2) (xs.drop (i * 2 + 2))).length = c.length := length_laid (by omega)
  refine W_seq ?_
  refine W_region ?_
  refine O_go (gn rfl) (St.vl (vl_move rfl) rfl rfl ?_)
  refine O_go (gn rfl) (St.vl (vl_move rfl) rfl rfl ?_)
  refine O_go (gn rfl) (St.vl (vl_len sl71 rfl) rfl rfl ?_)
  refine O_go (gn rfl) (St.vl (vl_move rfl) rfl rfl ?_)
  refine O_go (gn rfl) (St.vl (vl_eq (vl_cut_lh sl71 sz69 rfl rfl rfl (n - 1) n rfl rfl (by omega) (by omega)) (cut_ne (by omega))) rfl rfl ?_)
  refine O_go (gn rfl) (st_clear ap71 rfl k26 (by rw [hl26]; omega) ?_)
  intro w31 zs n31 c31 hzl hzo k31
  refine O_end [0] (F' := [(0, _)]) rfl ?_
  refine W_seq ?_
  refine W_region ?_
  refine O_go (gn rfl) (St.vl (vl_move rfl) rfl rfl ?_)
  refine O_go (gn rfl) (St.vl (vl_assign rfl) rfl rfl ?_)
  refine O_end [6] (F' := [(6, _)]) rfl ?_
  refine W_ret ?_
  refine ret1 rfl rfl ?_
  have hl31 : (laid (laid c (off + i * 2) (xs.drop (i * 2 + 2))) (off + (n - 1) * 2) zs).length = c.length := by rw [length_laid (by rw [hl26, hzl]; omega), hl26]
  refine ⟨.inr ⟨b, off, cv, _, rfl, k31, by omega, hs.max, by rw [hl31]; exact hfit, ?_, ?_⟩, ((Chg.drew [b] w).transS c26).transS c31, rfl⟩
  · have hA : (c.take (off + i * 2)).drop off = xs.take (i * 2) := by
      rw [List.drop_take, hs.xs, List.take_take]
      congr 1
      omega
    have hAl : (c.take (off + i * 2)).length = off + i * 2 := by simp; omega
    have e1 : (laid c (off + i * 2) (xs.drop (i * 2 + 2))).take (off + (n - 1) * 2) = c.take (off + i * 2) ++ xs.drop (i * 2 + 2) := by
      unfold laid
      exact List.take_left' (by simp only [List.length_append, hAl]; omega)
    unfold laid at e1 ⊢
    rw [e1, List.append_assoc, List.append_assoc, List.drop_append_of_le_length (by omega), hA, ← List.append_assoc, List.take_left' (by simp only [List.length_append, List.length_take]; omega)]
  · intro q hq
    simp only [laid, List.mem_append] at hq
    rcases hq with (hq | hq) | hq
    · have := List.mem_of_mem_take hq
      simp only [List.mem_append] at this
      rcases this with (h | h) | h
      · exact hs.one q (List.mem_of_mem_take h)
      · exact hs.one_xs q (List.mem_of_mem_drop h)
      · exact hs.one q (List.mem_of_mem_drop h)
    · exact hzo q hq
    · have := List.mem_of_mem_drop hq
      simp only [List.mem_append] at this
      rcases this with (h | h) | h
      · exact hs.one q (List.mem_of_mem_take h)
      · exact hs.one_xs q (List.mem_of_mem_drop h)
      · exact hs.one q (List.mem_of_mem_drop h)

/-- One page, or two, of one. -/
def joinL (l : List Ent) : List (List Ent) := if l.length ≤ 8 then [l] else [l.take (l.length / 2), l.drop (l.length / 2)]

theorem IsList.cutL {w : World} {p : Option Addr} {c : Nat} {l : List Ent} (h : IsList w (.slice p l.length c) l) {i m : Nat} (hi : i ≤ l.length) (h1 : i ≤ m) (h2 : m ≤ c) : IsList w (cut p 0 i m 2) (l.take i) := by
  have := IsSl.cut h (l := 0) (h := i) (m := m) (Nat.zero_le _) h1 h2 hi
  unfold IsList
  rw [flat_take, List.length_take]
  simpa [show min i l.length = i by omega] using this
theorem IsList.cutR {w : World} {p : Option Addr} {c : Nat} {l : List Ent} (h : IsList w (.slice p l.length c) l) {i : Nat} (hi : i ≤ l.length) (hc : l.length ≤ c) : IsList w (cut p i l.length c 2) (l.drop i) := by
  have := IsSl.cut h (l := i) (h := l.length) (m := c) hi hc (Nat.le_refl _) (Nat.le_refl _)
  unfold IsList
  rw [flat_drop, List.length_drop]
  rw [List.take_of_length_le (by simp [length_flat]; omega)] at this
  exact this
theorem IsPages.one {w : World} {b : Nat} {v : Value} {l : List Ent} (hb : Blk w b 71 [v]) (hl : IsList w v l) : IsPages w (.slice (some ⟨b, 0, none⟩) 1 1) [l] :=
  ⟨[v], IsSl.of_blk (n := 1) hb rfl (by simp [maxLen]) (by intro u hu; simp at hu; subst hu; exact IsSl.one1 hl), hl, trivial⟩
theorem IsPages.two {w : World} {b : Nat} {v u : Value} {l m : List Ent} (hb : Blk w b 71 [v, u]) (hl : IsList w v l) (hm : IsList w u m) : IsPages w (.slice (some ⟨b, 0, none⟩) 2 2) [l, m] :=
  ⟨[v, u], IsSl.of_blk (n := 2) hb rfl (by simp [maxLen]) (by intro x hx; simp at hx; rcases hx with rfl | rfl; exact IsSl.one1 hl; exact IsSl.one1 hm), hl, hm, trivial⟩

theorem f29 (p : Nat) (ls : List (List Ent)) (a b : Value) (la lb : List Ent) (i : Nat) (w : World) (hp : Pg w p ls) (ha : IsList w a la) (hb : IsList w b lb) (hi : i + 2 ≤ ls.length) (hb1 : ls.length ≤ 1048576) (hla : la.length ≤ 1048576) (hlb : lb.length ≤ 1048576) :
    Ret Try.prog 29 #[.pointer (some ⟨p, 0, none⟩), .int .i64 i, .agg #[a, b]] w fun r w' => r = .tuple #[] ∧ Pg w' p (ls.take i ++ joinL (la ++ lb) ++ ls.drop (i + 2)) ∧ Chg [p] w w' := by
  have hal := IsSl.len_xs ha
  have hbl := IsSl.len_xs hb
  obtain ⟨pa, ca, rfl, _⟩ := IsSl.val ha
  obtain ⟨pb, cb, rfl, _⟩ := IsSl.val hb
  refine Ret.of_W (args := [_, _, _]) Try.func29 rfl rfl rfl rfl ?_

  refine W_seq ?_
  refine W_region ?_
  refine O_go (gn rfl) (st_box rfl rfl rfl ?_)
  intro b5 w5 e5 n5 c5 k5
  refine O_end [0, 1, 5] (F' := [(0, _), (1, _), (5, _)]) rfl ?_
  refine W_seq ?_
  have hS : AllS w 69 2 [.slice pa la.length ca, .slice pb lb.length cb] [flat la, flat lb] := ⟨by rw [hal, Nat.mul_div_cancel _ (by omega)]; exact ha, by rw [hbl, Nat.mul_div_cancel _ (by omega)]; exact hb, trivial⟩
  have hsum : sumTo 2 [flat la, flat lb] 2 = (la ++ lb).length := by
    simp only [sumTo, List.take_succ_cons, List.take_zero, List.map_cons, List.map_nil, List.sum_cons, List.sum_nil, hal, hbl, Nat.mul_div_cancel _ (show 0 < 2 by omega), List.length_append]
    omega
  have hll : (la ++ lb).length = la.length + lb.length := by simp
  refine W_region ?_
  refine O_go (gn rfl) (St.vl (vl_indexAddrA ar78 sz71 rfl rfl 0 rfl (by omega)) rfl rfl ?_)
  refine O_go (gn rfl) (St.vl (vl_load ag71 rfl (k5.cell' rfl)) rfl rfl ?_)
  refine O_go (gn rfl) (St.vl (vl_indexAddrA ar78 sz71 rfl rfl 1 rfl (by omega)) rfl rfl ?_)
  refine O_go (gn rfl) (St.vl (vl_load ag71 rfl (k5.cell' rfl)) rfl rfl ?_)
  refine O_go (gn rfl) (st_buildSlice ap64 rfl (vs := [_, _]) rfl (css := [_, _]) ⟨rfl, rfl, trivial⟩ rfl rfl (cs := [_, _]) rfl rfl ?_)
  intro b12 w12 e12 n12 c12 k12
  refine O_go (gn rfl) (st_call bd45 rfl rfl rfl rfl (f45 _ _ [flat la, flat lb] _ (IsSl.of_blk (n := 2) k12 rfl (by simp [maxLen]) (by intro u hu; simp at hu; rcases hu with rfl | rfl <;> rfl)) (hS.chg0 (c5.trans c12)) (by simp only [List.length_cons, List.length_nil]; rw [hsum]; omega) (by simp)) ?_)
  rintro v13 w13 ⟨i13, n13, c13⟩
  have hboth : IsList w13 v13 (la ++ lb) := by unfold IsList; rw [flat_append]; simpa [hsum] using i13
  clear i13
  generalize la ++ lb = both at *
  obtain ⟨p13, q13, rfl, hq13⟩ := IsSl.val hboth
  refine O_go (gn rfl) (St.vl (vl_assign rfl) rfl rfl ?_)
  refine O_end [0, 1, 6] (F' := [(0, _), (1, _), (6, _)]) rfl ?_
  have hc13 : Chg [] w w13 := (c5.trans c12).trans c13
  refine W_seq ?_
  refine W_seq ?_
  refine W_region ?_
  refine O_go (gn rfl) (St.vl (vl_move rfl) rfl rfl ?_)
  refine O_go (gn rfl) (St.vl (vl_len sl71 rfl) rfl rfl ?_)
  refine O_go (gn rfl) (St.vl (vl_leq rfl rfl) rfl rfl ?_)
  refine O_end [0, 1, 6, 16] (F' := [(0, _), (1, _), (6, _), (16, _)]) rfl ?_
  refine W_cond rfl (fun hT => ?_) (fun hF => ?_)
  · have hle : both.length ≤ 8 := by have := of_decide_eq_true hT; omega
    refine W_seq ?_
    refine W_region ?_
    refine O_go (gn rfl) (St.vl (vl_move rfl) rfl rfl ?_)
    refine O_go (gn rfl) (St.vl (vl_move rfl) rfl rfl ?_)
    refine O_go (gn rfl) (St.vl (vl_move rfl) rfl rfl ?_)
    refine O_go (gn rfl) (St.vl (vl_eq (v' := .int .i64 ((i + 2 : Nat) : Int)) (vl_add rfl rfl (by omega)) (by congr 1)) rfl rfl ?_)
    refine O_go (gn rfl) (St.vl (vl_move rfl) rfl rfl ?_)
    refine O_go (gn rfl) (st_buildSlice ap64 rfl (vs := [_]) rfl (css := [_]) ⟨rfl, trivial⟩ rfl rfl (cs := [_]) rfl rfl ?_)
    intro b22 w22 e22 n22 c22 k22
    refine O_go (gn rfl) (st_call bd26 rfl rfl rfl rfl (f26 p ls [both] _ i (i + 2) _ (hp.chg0 (hc13.trans c22)) (IsPages.one k22 (hboth.chg0 c22)) (by omega) hi hb1 (by simp)) ?_)
    rintro v23 w23 ⟨rfl, p23, c23⟩
    refine O_end [] (F' := []) rfl ?_
    refine W_ret ?_
    refine then_ret ?_
    refine ret0 rfl ?_
    refine ⟨rfl, ?_, ((hc13.trans c22).any (S := [p])).transS c23⟩
    rw [joinL, if_pos hle]
    exact p23
  · have hle : ¬ both.length ≤ 8 := by have := of_decide_eq_false hF; omega
    refine W_skipE ?_
    refine W_seq ?_
    refine W_region ?_
    refine O_go (gn rfl) (St.vl (vl_move rfl) rfl rfl ?_)
    refine O_go (gn rfl) (St.vl (vl_len sl71 rfl) rfl rfl ?_)
    refine O_go (gn rfl) (St.vl (vl_eq (v' := .int .i64 ((both.length / 2 : Nat) : Int)) (vl_quo rfl rfl (by omega) (by omega)) (by congr 1)) rfl rfl ?_)
    refine O_go (gn rfl) (St.vl (vl_assign rfl) rfl rfl ?_)
    refine O_end [0, 1, 6, 7] (F' := [(0, _), (1, _), (6, _), (7, _)]) rfl ?_
    have hh : both.length / 2 ≤ both.length := Nat.div_le_self _ _
    refine W_draw (fun _ => True) mix (by kernel_rfl) trivial ?_
    refine t_pure rfl (gn rfl) (fun _ => vl_move rfl) rfl rfl ?_
    refine t_pure rfl (gn rfl) (fun _ => vl_move rfl) rfl rfl ?_
    refine t_pure rfl (gn rfl) (fun _ => vl_move rfl) rfl rfl ?_
    refine t_pure rfl (gn rfl) (fun _ => vl_eq (v' := .int .i64 ((i + 2 : Nat) : Int)) (vl_add rfl rfl (by omega)) (by congr 1)) rfl rfl ?_
    refine t_pure rfl (gn rfl) (fun _ => vl_move rfl) rfl rfl ?_
    refine t_pure rfl (gn rfl) (fun _ => vl_move rfl) rfl rfl ?_
    refine t_pure rfl (gn rfl) (fun _ => vl_move rfl) rfl rfl ?_
    refine t_pure rfl (gn rfl) (fun _ => vl_cut_hm sl71 sz69 rfl rfl rfl _ _ rfl rfl (Nat.le_refl _) (by omega)) rfl rfl ?_
    refine t_pure rfl (gn rfl) (fun _ => vl_move rfl) rfl rfl ?_
    refine t_pure rfl (gn rfl) (fun _ => vl_move rfl) rfl rfl ?_
    refine t_pure rfl (gn rfl) (fun _ => vl_cut_l sl71 sz69 rfl rfl _ rfl hh) rfl rfl ?_
    refine t_st rfl (gn rfl) (st_buildSlice ap64 rfl (vs := [_, _]) rfl (css := [_, _]) ⟨rfl, rfl, trivial⟩ rfl rfl (cs := [_, _]) rfl rfl ?_)
    intro b38 w38 e38 n38 c38 k38
    refine ⟨.inl trivial, ?_⟩
    have hc38 : Chg [] w13 w38 := (Chg.drew [] w13).trans c38
    refine t_st rfl (gn rfl) (st_call bd26 rfl rfl rfl rfl (f26 p ls [both.take (both.length / 2), both.drop (both.length / 2)] _ i (i + 2) _ (hp.chg0 (hc13.trans hc38)) (IsPages.two k38 ((hboth.chg0 hc38).cutL hh (Nat.le_refl _) (by omega)) ((hboth.chg0 hc38).cutR hh hq13)) (by omega) hi hb1 (by simp)) ?_)
    rintro v39 w39 ⟨rfl, p39, c39⟩
    refine ⟨.inl trivial, ?_⟩
    refine T_endN [] (F' := []) rfl ?_
    refine end0 rfl ⟨rfl, ?_, ((hc13.trans hc38).any (S := [p])).transS c39⟩
    rw [joinL, if_neg hle]
    exact p39
end Go.Wk

