/-
  Layer key: bytes, laid in groups.
  Layer key: Encode; the key of a set's values.
  Layer codec: how values are laid; Encode.
  Layer codec: Encode.
  Layer codec: how values are read.
  Layer codec: a row is read.
-/
import Derived.Test.YtcnkdoecfljnlaaGreatDoorQ10
set_option linter.all false
namespace Go.Wk
open Go.Proofs
set_option maxRecDepth 10000

def grpOf (c : List UInt8) (left : Int) : List UInt8 := c ++ List.replicate (8 - c.length) 0 ++ [if 0 < left then 9 else UInt8.ofNat c.length]
def gStep (l : List UInt8) (st : List UInt8 × Int) (x : Nat) : List UInt8 × Int :=
  (st.1 ++ grpOf ((l.drop (8 * x)).take 8) (st.2 - ((l.drop (8 * x)).take 8).length), st.2 - ((l.drop (8 * x)).take 8).length)
def gFold (l : List UInt8) (pre : List Nat) : List UInt8 × Int := pre.foldl (gStep l) ([], (l.length : Int))
theorem gFold_snoc (l : List UInt8) (pre : List Nat) (x : Nat) : gFold l (pre ++ [x]) = gStep l (gFold l pre) x := by simp [gFold]
theorem gFold_go (l : List UInt8) : ∀ (pre : List Nat) (n : Nat) (st : List UInt8 × Int), (-(8 * (n : Int)) ≤ st.2 ∧ st.2 ≤ l.length ∧ st.1.length = 9 * n) →
    -(8 * ((n + pre.length : Nat) : Int)) ≤ (pre.foldl (gStep l) st).2 ∧ (pre.foldl (gStep l) st).2 ≤ l.length ∧ (pre.foldl (gStep l) st).1.length = 9 * (n + pre.length)
  | [], n, st, h => h
  | x :: pre, n, st, h => by
    have hc : ((l.drop (8 * x)).take 8).length ≤ 8 := by rw [List.length_take]; omega
    have := gFold_go l pre (n + 1) (gStep l st x) (by
      simp only [gStep, grpOf, List.length_append, List.length_replicate, List.length_cons, List.length_nil]
      omega)
    rw [List.foldl_cons, List.length_cons, show n + (pre.length + 1) = n + 1 + pre.length by omega]
    exact this
theorem gFold_le (l : List UInt8) (pre : List Nat) : -(8 * (pre.length : Int)) ≤ (gFold l pre).2 ∧ (gFold l pre).2 ≤ l.length ∧ (gFold l pre).1.length = 9 * pre.length := by
  have := gFold_go l pre 0 ([], (l.length : Int)) (by simp)
  rw [Nat.zero_add] at this
  exact this
theorem gFold_part (l : List UInt8) : ∀ j : Nat, 8 * j < l.length → (gFold l (List.range j)).1 ++ grpB (l.drop (8 * j)) = grpB l ∧ (gFold l (List.range j)).2 = (l.length : Int) - 8 * j := by
  intro j
  induction j with
  | zero => intro _; simp [gFold]
  | succ j ih =>
    intro h
    obtain ⟨h1, h2⟩ := ih (by omega)
    have hc : ((l.drop (8 * j)).take 8).length = 8 := by rw [List.length_take, List.length_drop]; omega
    rw [List.range_succ, gFold_snoc]
    simp only [gStep, grpOf, hc, h2]
    refine ⟨?_, by omega⟩
    rw [← h1, grpB_gt (l := l.drop (8 * j)) (by rw [List.length_drop]; omega), List.drop_drop, if_pos (by omega)]
    simp [Nat.mul_add]
theorem gFold_all {l : List UInt8} (h : l ≠ []) : (gFold l (List.range ((l.length + 7) / 8))).1 = grpB l := by
  have hl := List.length_pos_iff.2 h
  obtain ⟨j, hj⟩ : ∃ j, (l.length + 7) / 8 = j + 1 := ⟨(l.length + 7) / 8 - 1, by omega⟩
  obtain ⟨h1, h2⟩ := gFold_part l j (by omega)
  rw [hj, List.range_succ, gFold_snoc]
  have hc : (l.drop (8 * j)).take 8 = l.drop (8 * j) := List.take_of_length_le (by rw [List.length_drop]; omega)
  have hlen : (l.drop (8 * j)).length = l.length - 8 * j := List.length_drop
  simp only [gStep, hc, h2, grpOf]
  rw [← h1, grpB_le (l := l.drop (8 * j)) (by omega)]
  congr 1
  unfold padB
  rw [if_neg (by omega)]

theorem k_laid (x : Val) (w : World) (hx : x.b.size ≤ 1048576) : Ret Tryz.prog 204 #[x.v] w fun r w' => IsBy w' r (grpB x.b.data.toList) ∧ (∀ b ∈ blkOf r, w.heap.size ≤ b) ∧ Chg [] w w' := by
  have hsz : x.b.data.toList.length = x.b.size := by simp
  refine Ret.of_WM (args := [_]) Tryz.func204 rfl rfl rfl rfl ?_

  refine Sr ?_
  refine O_go (gn rfl) (st_box rfl rfl rfl ?_)
  intro b1 w1 e1 n1 c1 k1
  refine O_go (gn rfl) (st_alloc zr132 rfl rfl ?_)
  intro b2 w2 e2 n2 c2 k2
  refine O_end [1, 2] (F' := [(1, _), (2, _)]) rfl (Sr (Og (vl_fieldAddr fo40_3 rfl) rfl ?_))
  refine Og (vl_load ag9 rfl ((k1.chg0 c2).cell' rfl)) rfl ?_
  refine Og (vl_slen st9 rfl) rfl ?_
  refine O_go (gn rfl) (st_alloc zr3 rfl rfl ?_)
  intro b3 w3 e3 n3 c3 k3
  refine O_go (gn rfl) (st_store sz3 rfl rfl rfl rfl k3 (by simp) (by intro u hu; simp at hu; subst hu; rfl) ?_)
  intro wA nA cA kA
  refine O_end [1, 2, 3] (F' := [(1, _), (2, _), (3, _)]) rfl ?_
  have hcA : Chg [] w wA := ((c1.trans c2).trans c3).own cA (by intro y hy; simp at hy; omega)
  have hk1 := ((k1.chg0 c2).chg0 c3).chg cA (by simp; omega)
  have hk2 := (k2.chg0 c3).chg cA (by simp; omega)
  have hk3 : Blk wA b3 3 [.int .i64 x.b.size] := kA
  refine W_seq_cut (fun F wx => ∃ (D : Nat) (f12 : Value), F = [(1000000, .int .i64 D), (2, .pointer (some ⟨b2, 0, none⟩)), (3, .pointer (some ⟨b3, 0, none⟩)), (12, f12)] ∧ w.heap.size ≤ D ∧ wx.heap[D]? = some (.deferred (some [])) ∧ w.heap.size ≤ b2 ∧ ∃ u, Blk wx b2 132 [u] ∧ IsBy wx u (if x.b.size = 0 then [] else grpB x.b.data.toList) ∧ (∀ b ∈ blkOf u, w.heap.size ≤ b) ∧ Chg [] w wx) ?_ ?_
  · refine Sr (Og (vl_fieldAddr fo40_3 rfl) rfl ?_)
    refine Og (vl_load ag9 rfl (hk1.cell' rfl)) rfl ?_
    refine O_go (gn rfl) (st_bytes st9 sl132 it5_u8 rfl (by simp only [maxLen]; omega) rfl ?_)
    intro b11 q11 w11 e11 c11 g11 i11
    refine O_go (gn rfl) (st_call bd252 rfl rfl rfl rfl (c_Chunk _ _) ?_)
    rintro v12 w12 ⟨p2, p3, rfl, kp2, kp3, hp2, hp3, c12⟩
    refine O_end [2, 3, 12] (F' := [(2, _), (3, _), (12, _)]) rfl ?_
    have kp2 : Blk w12 p2 132 [.slice (some ⟨b11, 0, none⟩) x.b.size q11] := kp2
    have hk2 := (hk2.chg0 c11).chg0 c12
    have hk3 := (hk3.chg0 c11).chg0 c12
    have hby := i11.chg0 c12
    have hc12 : Chg [] w w12 := (hcA.trans c11).trans c12
    have hs11 := c11.size
    have hs12 := c12.size
    have hsA := cA.size
    refine W_block ?_
    generalize hl : x.b.data.toList = l at *
    refine W_rangeR (α := Nat) (gf := 269) (lb := [.pointer (some ⟨p2, 0, none⟩), .pointer (some ⟨p3, 0, none⟩)]) (encs := fun j : Nat => #[chV b11 x.b.size j]) (S0 := [b2, b3]) (keep := fun _ => false) (N := (x.b.size + 7) / 8)
      (fun pre W => ∃ u, Blk W b2 132 [u] ∧ IsBy W u (gFold l pre).1 ∧ Blk W b3 3 [.int .i64 (gFold l pre).2] ∧ (∀ b ∈ blkOf u, w12.heap.size ≤ b) ∧ Chg [b2, b3] w12 W ∧ w12.heap.size ≤ W.heap.size)
      (fun _ _ _ => False)
      (fun j => [(13, chV b11 x.b.size j), (2, .pointer (some ⟨b2, 0, none⟩)), (3, .pointer (some ⟨b3, 0, none⟩)), (12, .func (.func 269) #[] #[.pointer (some ⟨p2, 0, none⟩), .pointer (some ⟨p3, 0, none⟩)])])
      (fun j => [(2, .pointer (some ⟨b2, 0, none⟩)), (3, .pointer (some ⟨b3, 0, none⟩)), (4, chV b11 x.b.size j), (13, chV b11 x.b.size j)])
      rfl bd269 (c_seq w12 p2 p3 b11 x.b.size q11 [b2, b3] _ kp2 kp3 g11 hx ?_ ?_) (fun _ => rfl) (fun _ _ _ _ h => h) (fun _ _ _ _ h => h) (fun _ _ _ _ h => h) ?_ (fun _ _ _ _ _ h => h.elim) ?_ (fun _ _ h => h.choose_spec.2.2.2.2.2) ?_ ?_ ?_ ?_ (fun _ _ _ _ _ _ h => h.elim)
    · simp; omega
    · simp; omega
    · rintro pre W W' hk ⟨u, h1, h2, h3, h4, h5, h6⟩
      exact ⟨u, h1.bk hk, IsSl.bk h2 hk, h3.bk hk, h4, h5.bk (Nat.le_refl _) hk, by obtain ⟨T, _, hc⟩ := hk; exact Nat.le_trans h6 hc.size⟩
    · exact ⟨_, hk2, IsSl.nil _ _ _, by simpa [gFold, hsz] using hk3, by simp [blkOf], Chg.refl _ _, Nat.le_refl _⟩
    · intro j a ha
      exact ha.vars1 rfl rfl
    · intro l' j W
      refine X_region ?_
      refine X_go (gn rfl) rfl (St.vl (vl_assign rfl) rfl rfl ?_)
      refine X_endN [2, 3, 4, 13] (F' := [(2, _), (3, _), (4, _), (13, _)]) rfl ?_
      exact ⟨rfl, rfl, rfl⟩
    · rintro l' pre j W ⟨u, hb2, hu, hb3, hfu, hcW, hsW⟩ hlt hlen
      have hsl : l.length = x.b.size := hsz
      have hch : 8 * j + chN x.b.size j ≤ x.b.size := by unfold chN; omega
      have hch8 : chN x.b.size j ≤ 8 := by unfold chN; omega
      have hchv : ∃ pj cj, chV b11 x.b.size j = .slice pj (chN x.b.size j) cj := ⟨_, _, by unfold chV; rw [show cut (some ⟨b11, 0, none⟩) (8 * j) (8 * j + chN x.b.size j) (8 * j + chN x.b.size j) 1 = .slice _ (8 * j + chN x.b.size j - 8 * j) (8 * j + chN x.b.size j - 8 * j) from rfl, Nat.add_sub_cancel_left]⟩
      have hbyW := hby.chg hcW (by intro b hb hm; simp [blkOf] at hb; subst hb; simp at hm; omega)
      have hcut : RdSl W 5 1 (chV b11 x.b.size j) (chN x.b.size j) (bv ((l.drop (8 * j)).take (chN x.b.size j))) := by
        have := hbyW.cut (l := 8 * j) (h := 8 * j + chN x.b.size j) (m := 8 * j + chN x.b.size j) (by omega) (Nat.le_refl _) (by omega) hch
        rw [Nat.add_sub_cancel_left] at this
        unfold chV
        simpa [bv, List.map_drop, List.map_take] using this
      have hcl : ((l.drop (8 * j)).take 8).length = chN x.b.size j := by rw [List.length_take, List.length_drop, hsl]; unfold chN; omega
      have hct : (l.drop (8 * j)).take (chN x.b.size j) = (l.drop (8 * j)).take 8 := by
        rcases Nat.lt_or_ge (x.b.size - 8 * j) 8 with h8 | h8
        · rw [show chN x.b.size j = x.b.size - 8 * j by unfold chN; omega, List.take_of_length_le (by rw [List.length_drop]; omega), List.take_of_length_le (by rw [List.length_drop]; omega)]
        · rw [show chN x.b.size j = 8 by unfold chN; omega]
      rw [hct] at hcut
      obtain ⟨hg1, hg2, hg3⟩ := gFold_le l pre
      generalize hc8 : (l.drop (8 * j)).take 8 = c at *
      generalize hn : chN x.b.size j = n at *
      obtain ⟨pj, cj, hchv⟩ := hchv
      rw [hchv] at hcut ⊢
      generalize hgl : (gFold l pre).2 = left at *
      refine X_block ?_
      refine X_seq ?_
      refine X_region ?_
      refine X_go (gn rfl) rfl (st_alloc zr348 rfl rfl ?_)
      intro b5 w5 e5 n5 c5 k5
      refine X_end [2, 3, 4, 5, 13] (F' := [(2, _), (3, _), (4, _), (5, _), (13, _)]) rfl ?_
      have hs5 := c5.size
      refine X_seq ?_
      refine X_region ?_
      refine X_go (gn rfl) rfl (St.vl (vl_cutA ar348 sz5 rfl) rfl rfl ?_)
      refine Xm rfl rfl ?_
      refine X_go (gn rfl) rfl (st_copyA sl132 sz5 rfl rfl (hcut.chg0 c5) k5 (show min n 9 = n by omega) (by simp; omega) rfl ?_)
      intro w16 n16 c16 k16
      refine X_end [2, 3, 4, 5, 13] (F' := [(2, _), (3, _), (4, _), (5, _), (13, _)]) rfl ?_
      have hcn : c.length = n := hcl
      have kc : Blk w16 b5 348 (bv (c ++ List.replicate (8 - n) 0 ++ [0])) := by
        have e := laid_mid [] (bv (List.replicate 9 0)) ((bv c).take (n * 1))
        have e0 : ([Value.int .u8 0, .int .u8 0, .int .u8 0, .int .u8 0, .int .u8 0, .int .u8 0, .int .u8 0, .int .u8 0, .int .u8 0] : List Value) = bv (List.replicate 9 0) := rfl
        rw [e0] at k16
        simp only [List.nil_append, List.length_nil] at e
        rw [e] at k16
        rw [Nat.mul_one, List.take_of_length_le (by rw [bv_len]; omega)] at k16
        have e2 : (bv (List.replicate 9 (0 : UInt8))).drop (bv c).length = bv (List.replicate (8 - n) 0 ++ [0]) := by
          rw [bv_len, hcn]
          unfold bv
          rw [← List.map_drop, List.drop_replicate, show 9 - n = (8 - n) + 1 by omega, List.replicate_succ']
        rw [e2, ← bv_append, ← List.append_assoc] at k16
        exact k16
      have hc16 : Chg [] W w16 := c5.own c16 (by intro y hy; simp at hy; omega)
      have hb2' := hb2.chg0 hc16
      have hb3' := hb3.chg0 hc16
      have hb2lt := hb2.lt
      have hb3lt := hb3.lt
      refine X_seq ?_
      refine X_region ?_
      refine X_go (gn rfl) rfl (St.vl (vl_load ag3 rfl (hb3'.cell' rfl)) rfl rfl ?_)
      refine Xm rfl rfl ?_
      refine X_go (gn rfl) rfl (St.vl (vl_len sl132 rfl) rfl rfl ?_)
      refine X_go (gn rfl) rfl (St.vl (vl_sub rfl rfl (by omega)) rfl rfl ?_)
      refine X_go (gn rfl) rfl (st_store sz3 rfl rfl rfl rfl hb3' (by simp) (by intro u hu; simp at hu; subst hu; rfl) ?_)
      intro wL nL cL kL
      refine X_end [2, 3, 4, 5, 13] (F' := [(2, _), (3, _), (4, _), (5, _), (13, _)]) rfl ?_
      have kL : Blk wL b3 3 [.int .i64 (left - n)] := kL
      have kcL := kc.chg cL (by simp; omega)
      have hb2L := hb2'.chg cL (by simp; omega)
      have lay8 : ∀ (A : List UInt8) (a : UInt8) (v : Value), A.length = 8 → laid (bv (A ++ [a])) 8 [v] = bv A ++ [v] := fun A a v hA => by
        rw [bv_append]
        have := laid_mid (bv A) (bv [a]) [v]
        rw [bv_len, hA] at this
        simpa [bv] using this
      have hA8 : (c ++ List.replicate (8 - n) 0).length = 8 := by rw [List.length_append, List.length_replicate]; omega
      refine X_seq ?_
      refine X_region ?_
      refine Xm rfl rfl ?_
      refine X_go (gn rfl) rfl (St.vl (vl_len sl132 rfl) rfl rfl ?_)
      refine X_go (gn rfl) rfl (St.vl (vl_convn it5_u8 it3_i64 rfl (show IntKind.u8.wrap (n : Int) = (((UInt8.ofNat n).toNat : Nat) : Int) by rw [u8_wrap]; simp)) rfl rfl ?_)
      refine X_go (gn rfl) rfl (St.vl (vl_indexAddrA ar348 sz5 rfl rfl 8 rfl (by decide)) rfl rfl ?_)
      refine X_go (gn rfl) rfl (st_store sz5 rfl rfl rfl rfl kcL (by rw [bv_len, List.length_append, hA8]; simp) (by intro u hu; simp at hu; subst hu; rfl) ?_)
      intro wM nM cM kM
      refine X_end [2, 3, 5, 13] (F' := [(2, _), (3, _), (5, _), (13, _)]) rfl ?_
      have kM : Blk wM b5 348 (bv (c ++ List.replicate (8 - n) 0 ++ [UInt8.ofNat n])) := by
        have e := lay8 _ 0 (.int .u8 ((UInt8.ofNat n).toNat : Nat)) hA8
        rw [bv_append]
        show Blk wM b5 348 (_ ++ [.int .u8 ((UInt8.ofNat n).toNat : Nat)])
        rw [← e]
        exact kM
      have kLM := kL.chg cM (by simp; omega)
      have hb2M := hb2L.chg cM (by simp; omega)
      have hcM : Chg [b3] W wM := ((hc16.any (S := [b3])).transS cL).trans' cM (by intro y hy; simp at hy; subst hy; right; omega)
      refine X_seq_cut (fun F wz => F = [(2, .pointer (some ⟨b2, 0, none⟩)), (3, .pointer (some ⟨b3, 0, none⟩)), (5, .pointer (some ⟨b5, 0, none⟩)), (13, .slice pj n cj)] ∧ Blk wz b5 348 (bv (grpOf c (left - n))) ∧ Blk wz b3 3 [.int .i64 (left - n)] ∧ Blk wz b2 132 [u] ∧ Chg [b3] W wz) ?_ ?_
      · refine X_seq ?_
        refine X_region ?_
        refine X_go (gn rfl) rfl (St.vl (vl_load ag3 rfl (kLM.cell' rfl)) rfl rfl ?_)
        refine X_go (gn rfl) rfl (St.vl (vl_gtr rfl rfl) rfl rfl ?_)
        refine X_end [2, 3, 5, 13, 26] (F' := [(2, _), (3, _), (5, _), (13, _), (26, _)]) rfl ?_
        refine X_cond rfl (fun hT => ?_) (fun hF => ?_)
        · have hpos : 0 < left - n := of_decide_eq_true hT
          refine X_region ?_
          refine X_go (gn rfl) rfl (St.vl (vl_indexAddrA ar348 sz5 rfl rfl 8 rfl (by decide)) rfl rfl ?_)
          refine X_go (gn rfl) rfl (st_store sz5 rfl rfl rfl rfl kM (by rw [bv_len, List.length_append, hA8]; simp) (by intro u hu; simp at hu; subst hu; rfl) ?_)
          intro wN nN cN kN
          refine X_end [2, 3, 5, 13] (F' := [(2, _), (3, _), (5, _), (13, _)]) rfl ?_
          refine ⟨rfl, ?_, kLM.chg cN (by simp; omega), hb2M.chg cN (by simp; omega), hcM.trans' cN (by intro y hy; simp at hy; subst hy; right; omega)⟩
          have e := lay8 (c ++ List.replicate (8 - n) 0) (UInt8.ofNat n) (.int .u8 9) hA8
          unfold grpOf
          rw [hcn, if_pos hpos, bv_append]
          show Blk wN b5 348 (_ ++ [.int .u8 9])
          rw [← e]
          exact kN
        · have hpos : ¬ 0 < left - n := of_decide_eq_false hF
          refine X_prune [2, 3, 5, 13] rfl ?_
          refine X_skipE ?_
          refine ⟨rfl, ?_, kLM, hb2M, hcM⟩
          unfold grpOf
          rw [hcn, if_neg hpos]
          exact kM
      rintro F wY ⟨rfl, kG, hl3, hu2, hcz⟩
      have hcB : Chg [b2, b3] w12 wY := hcW.transS (hcz.weak (by simp))
      have hsz2 := hcz.size
      have huz := IsSl.chg hu hcz (IsSl.apart hu hb3 rfl)
      have hlg : (grpOf c (left - n)).length = 9 := by unfold grpOf; rw [List.length_append, List.length_append, List.length_replicate]; simp; omega
      have hrd : RdSl wY 348 1 (.slice (some ⟨b5, 0, none⟩) 9 9) 9 (bv (grpOf c (left - n))) := by
        have := RdSl.of_blk kG (by rw [bv_len, hlg]; simp [maxLen]) (bv_one _)
        rwa [bv_len, hlg] at this
      have hd : Chg [] wY wY.drew := Chg.drew [] _
      have hub : ∀ y ∈ blkOf u, y ≠ b2 := fun y hy he => by subst he; have := hfu _ hy; omega
      refine X_draw (fun wz => Chg [] wY wz) mix (by kernel_rfl) hd ?_
      refine t_read rfl (gn rfl) (fun wz hz => vl_load ag132 rfl ((hu2.chg0 hz).cell' rfl)) rfl rfl ?_
      refine t_pure rfl (gn rfl) (fun _ => vl_cutA ar348 sz5 rfl) rfl rfl ?_
      refine t_st rfl (gn rfl) (st_appendA ap132 sl132 rfl rfl (IsSl.chg0 huz hd) (hrd.chg0 hd) (by rw [hg3]; simp only [maxLen]; omega) (by rw [hg3]; omega) rfl ?_)
      intro v30 w30 i30 c30 o30 z30
      obtain ⟨p30, q30, rfl, _⟩ := id (IsSl.val i30)
      refine ⟨.inr (by kernel_rfl), ?_⟩
      refine t_st rfl (gn rfl) (st_store sz132 rfl rfl rfl rfl (hu2.chg (hd.any.transS c30) (fun hm => hub b2 hm rfl)) (by simp) (by intro y hy; simp at hy; subst hy; rfl) ?_)
      intro wO nO cO kO
      refine ⟨.inr (by kernel_rfl), ?_⟩
      refine T_endN [2, 3, 13] (F' := [(2, _), (3, _), (13, _)]) rfl ?_
      have kO : Blk wO b2 132 [_] := kO
      have hcu : Chg (blkOf u) wY w30 := hd.any.transS c30
      have hl3O := (hl3.chg hcu (fun hm => by have := hfu _ hm; omega)).chg cO (by simp; omega)
      have hsz3 := hcu.size
      have hcut2 : ∀ y ∈ blkOf u, ∃ e c, Blk W y e c := fun y hy => by
        rcases hu with ⟨rfl, _, _⟩ | ⟨b, off, cap, cc, rfl, hs⟩
        · simp [blkOf] at hy
        · simp [blkOf] at hy; subst hy; exact ⟨_, _, hs.blk⟩
      have hall : Chg (b2 :: b3 :: blkOf u) W wO := by
        refine ((hcz.weak (S2 := b2 :: b3 :: blkOf u) (by simp)).transS (hcu.weak (fun k hk => by simp [hk]))).transS (cO.weak (by simp))
      refine ⟨KeepsFrom.chg hall ?_, Kr.chg hall (by omega) ?_, _, kO, ?_, ?_, fresh_of o30 hfu (by show w12.heap.size ≤ wY.heap.size; omega), ?_, by have := hall.size; omega⟩
      · intro y hy
        simp at hy
        rcases hy with rfl | rfl | hy
        · exact ⟨_, _, hb2⟩
        · exact ⟨_, _, hb3⟩
        · exact hcut2 y hy
      · intro y hy
        simp at hy
        rcases hy with rfl | rfl | hy
        · exact ⟨.inl (by simp), _, _, hb2, rfl⟩
        · exact ⟨.inl (by simp), _, _, hb3, rfl⟩
        · obtain ⟨e, c, hbb⟩ := hcut2 y hy
          exact ⟨.inr (hfu y hy), e, c, hbb, rfl⟩
      · have h30 := IsSl.chg i30 cO (IsSl.apart i30 (hu2.chg hcu (fun hm => hub b2 hm rfl)) rfl)
        rw [gFold_snoc, gStep, hc8, hgl, hcn]
        unfold IsBy
        rw [bv_append, List.length_append, hlg]
        exact h30
      · rw [gFold_snoc, gStep, hc8, hgl, hcn]
        exact hl3O
      · exact hcW.trans' hall (by
          intro y hy
          simp at hy
          rcases hy with rfl | rfl | hy
          · simp
          · simp
          · exact .inr (hfu y hy))
    · rintro D xs W hD rfl ⟨u, hb2, hu, hb3, hfu, hcW, hsW⟩ hdf
      refine block_normal ?_
      refine ⟨D, _, rfl, by omega, hdf, by omega, u, hb2, ?_, fun b hb => by have := hfu b hb; omega, (hc12.trans' hcW (by intro y hy; simp at hy; right; omega))⟩
      split
      · rename_i h0
        have hl0 : l = [] := List.length_eq_zero_iff.1 (by omega)
        subst hl0
        rw [h0] at hu
        exact hu
      · rename_i h0
        rw [← hsz, gFold_all (fun e => h0 (by rw [← hsz, e]; rfl))] at hu
        exact hu
  rintro F wx ⟨D, f12, rfl, hD, hdf, hb2n, u, hb2, hu, hfu, hcx⟩
  have hDb : D ≠ b2 := by rintro rfl; rw [show wx.heap[D]? = _ from hb2] at hdf; cases hdf
  have hDl := (Array.getElem?_eq_some_iff.1 hdf).1
  refine W_seq (W_seq ?_)
  by_cases h0 : x.b.size = 0
  · rw [if_pos h0] at hu
    obtain ⟨pu, cu, rfl, _⟩ := id (IsSl.val hu)
    refine W_region ?_
    refine Og (vl_load ag132 rfl (hb2.cell' rfl)) rfl ?_
    refine Og (vl_len sl132 rfl) rfl ?_
    refine Og (vl_is (b' := true) (vl_ieq rfl rfl) rfl) rfl ?_
    refine O_end [2, 33] (F' := [(2, _), (33, _), (1000000, _)]) rfl (W_cond_true rfl (Sr ?_))
    refine O_go (gn rfl) (st_makeLC (l := 9) (m := 9) ap132 rfl rfl (by omega) (by omega) (by omega) (by unfold maxLen; omega) (by omega) rfl ?_)
    intro b34 w34 e34 n34 c34 k34
    refine O_go (gn rfl) (st_store sz132 rfl rfl rfl rfl (hb2.chg0 c34) (by simp) (by intro y hy; simp at hy; subst hy; rfl) ?_)
    intro wA nA cA kA
    refine O_end [2] (F' := [(2, _), (1000000, _)]) rfl (W_ret ?_)
    repeat (first | refine then_ret ?_ | refine block_ret ?_)
    refine retM1 (v := .slice (some ⟨b34, 0, none⟩) 9 9) (D := D) rfl ag132 rfl rfl ((cA.block D (by omega) (by simpa using hDb)).trans ((c34.block D hDl (by simp)).trans hdf)) ?_
    intro w' hw'
    have kA : Blk wA b2 132 [.slice (some ⟨b34, 0, none⟩) 9 9] := kA
    have hb34 : b34 ∉ [D] := by simp; omega
    have k34' := (k34.chg cA (by simp; have := hb2.lt; omega)).chg hw' hb34
    refine ⟨(kA.chg hw' (by simpa using fun h => hDb h.symm)).cell' rfl, ?_, ?_, ?_⟩
    · have hl0 : x.b.data.toList = [] := List.length_eq_zero_iff.1 (by omega)
      rw [hl0]
      have e9 : (madeCells (Value.int IntKind.u8 0).cells (9 * 1)).toList = bv (grpB []) := (made_one rfl 9).trans rfl
      rw [e9] at k34'
      exact IsSl.of_blk (n := 9) k34' rfl (by simp [maxLen]) (bv_one (grpB []))
    · intro b hb
      have := hcx.size
      simp [blkOf] at hb
      omega
    · exact (((hcx.trans c34).own cA (by intro y hy; simp at hy; omega))).own hw' (by intro y hy; simp at hy; omega)
  · rw [if_neg h0] at hu
    have hne : (grpB x.b.data.toList).length ≠ 0 := by
      intro h
      rw [← gFold_all (fun e => h0 (by rw [← hsz, e]; rfl)), (gFold_le _ _).2.2, List.length_range] at h
      omega
    obtain ⟨pu, cu, rfl, _⟩ := id (IsSl.val hu)
    refine W_region ?_
    refine Og (vl_load ag132 rfl (hb2.cell' rfl)) rfl ?_
    refine Og (vl_len sl132 rfl) rfl ?_
    refine Og (vl_is (b' := false) (vl_ieq rfl rfl) (decide_eq_false (by omega))) rfl ?_
    refine O_end [2, 33] (F' := [(2, _), (33, _), (1000000, _)]) rfl (W_cond_false rfl ?_)
    refine W_prune [2] rfl ?_
    refine W_skipE (Sr ?_)
    refine Og (vl_load ag132 rfl (hb2.cell' rfl)) rfl ?_
    refine O_go (gn rfl) (st_store sz132 rfl rfl rfl rfl hb2 (by simp) (by intro y hy; simp at hy; subst hy; rfl) ?_)
    intro wA nA cA kA
    refine O_end [2] (F' := [(2, _), (1000000, _)]) rfl (W_ret ?_)
    repeat (first | refine then_ret ?_ | refine block_ret ?_)
    refine retM1 (v := .slice pu (grpB x.b.data.toList).length cu) (D := D) rfl ag132 rfl rfl ((cA.block D (by omega) (by simpa using hDb)).trans hdf) ?_
    intro w' hw'
    have kA : Blk wA b2 132 [.slice pu (grpB x.b.data.toList).length cu] := kA
    have huD : ∀ b ∈ blkOf (.slice pu (grpB x.b.data.toList).length cu), b ∉ [D] := fun b hb hm => by
      rcases hu with ⟨he, _, _⟩ | ⟨b', off, cap, cc, he, hs⟩
      · rw [he] at hb; simp [blkOf] at hb
      · rw [he] at hb
        simp [blkOf] at hb hm
        subst hb hm
        rw [show wx.heap[b]? = _ from hs.blk] at hdf
        cases hdf
    refine ⟨(kA.chg hw' (by simpa using fun h => hDb h.symm)).cell' rfl, ?_, hfu, ?_⟩
    · exact IsSl.chg (IsSl.chg hu cA (IsSl.apart hu hb2 rfl)) hw' huD
    · exact ((hcx.own cA (by intro y hy; simp at hy; omega))).own hw' (by intro y hy; simp at hy; omega)
end Go.Wk

namespace Go.Wk
open Go.Proofs
set_option maxRecDepth 10000

theorem kkinds_some {x : Val} (h : chkN x = 0) (hx : x.Rng) : ∃ f g, kget kKinds x.k = some (kindV f g) ∧ bodied Tryz.prog f = true ∧ ∀ w, Ret Tryz.prog f #[x.v] w fun r w' => IsBy w' r (keyT x) ∧ (∀ b ∈ blkOf r, w.heap.size ≤ b) ∧ Chg [] w w' := by
  obtain ⟨hf, hb⟩ := chk_ok h
  obtain ⟨hk, hbr, hm⟩ := fine_parts hf
  obtain ⟨k, i, u, b⟩ := x
  rcases (show k = 0 ∨ k = 1 ∨ k = 2 ∨ k = 3 ∨ k = 4 by simp at hk; omega) with rfl | rfl | rfl | rfl | rfl
  · exact ⟨_, _, rfl, bd189, fun w => k_lay1 _ w⟩
  · exact ⟨_, _, rfl, bd191, fun w => k_lay3 _ w hx⟩
  · exact ⟨_, _, rfl, bd197, fun w => k_lay5 _ w hx⟩
  · exact ⟨_, _, rfl, bd202, fun w => k_lay7 _ w (hm rfl)⟩
  · exact ⟨_, _, rfl, bd204, fun w => k_laid _ w (by simp at hb ⊢; omega)⟩
theorem keyB_snoc (l : List Val) (x : Val) : keyB (l ++ [x]) = keyB l ++ ([UInt8.ofNat x.k.toNat] ++ keyT x) := by simp [keyB, keyV_eq]
theorem keyE_hit : ∀ {l : List Val} {j : Nat} {x : Val}, l[j]? = some x → chkN x ≠ 0 → (∀ y ∈ l.take j, chkN y = 0) → keyE l = chkN x
  | [], _, _, h, _, _ => by simp at h
  | y :: l, 0, x, h, hx, _ => by simp at h; subst h; simp [keyE, hx]
  | y :: l, j + 1, x, h, hx, ha => by
    unfold keyE
    rw [if_neg (by simp [ha y (by simp)])]
    exact keyE_hit (by simpa using h) hx (fun z hz => ha z (by simp [hz]))
theorem IsBy.push {w : World} {v : Value} {l m : List UInt8} {n : Nat} {xs : List Value} (h : IsSl w 5 1 v n xs) (hn : n = l.length + m.length) (hx : xs = bv l ++ bv m) : IsBy w v (l ++ m) := by
  subst hn hx
  unfold IsBy
  rw [List.length_append, bv_append]
  exact h
theorem ownB {v v' : Value} {w w0 : World} (ho : blkOf v' = blkOf v ∨ ∃ b, blkOf v' = [b] ∧ w.heap.size ≤ b) (hs : w0.heap.size ≤ w.heap.size) : ∀ y ∈ blkOf v', y ∈ blkOf v ∨ w0.heap.size ≤ y := by
  intro y hy
  rcases ho with o | ⟨b, o, hb⟩
  · rw [o] at hy; exact .inl hy
  · rw [o] at hy; simp at hy; subst hy; right; omega
theorem k_Encode (v : Value) (l : List Val) (w : World) (hl : IsVals w v l) (hg : ∀ x ∈ l, x.Rng) (hn : l.length ≤ 8) :
    Ret Tryz.prog 103 #[v] w fun r w' => r = .tuple #[.string (if keyE l = 0 then keyS l else e0), .int .i64 (keyE l)] ∧ Chg [] w w' := by
  obtain ⟨pv, cv, rfl, hcv⟩ := Arr.val hl
  refine Ret.of_W (args := [_]) Tryz.func103 rfl rfl rfl rfl ?_

  refine Sr (Oa rfl rfl (Oa rfl rfl (O_end [0] (F' := [(0, _)]) rfl (Sr (Oa rfl rfl (O_end [0, 4] (F' := [(0, _), (4, _)]) rfl (W_seq (Sr (Om rfl rfl (Og (vl_len sl48 rfl) rfl ?_))))))))))
  refine Om rfl rfl (O_end [4, 8, 9, 10] (F' := [(4, _), (8, _), (9, _), (10, _)]) rfl (W_block ?_))
  refine W_loop [4, 8, 9, 10] (fun m F wx => ∃ (j : Nat) (u : Value), m = l.length - j ∧ j ≤ l.length ∧ F = [(4, u), (8, .slice pv l.length cv), (9, .int .i64 l.length), (10, .int .i64 j)] ∧ IsBy wx u (keyB (l.take j)) ∧ (∀ b ∈ blkOf u, w.heap.size ≤ b) ∧ Chg [] w wx ∧ (∀ y ∈ l.take j, chkN y = 0)) (m := l.length - 0) ⟨0, _, rfl, Nat.zero_le _, rfl, IsSl.nil _ _ _, by simp [blkOf], Chg.refl _ _, by simp⟩ ?_
  rintro m F wx ⟨j, u, rfl, hj, rfl, hu, hfu, hcx, hall⟩
  have hkl := keyB_len hall
  rw [List.length_take, Nat.min_eq_left hj] at hkl
  refine Sr (Og (vl_lss rfl rfl) rfl (O_end [4, 8, 9, 10, 11] (F' := [(4, _), (8, _), (9, _), (10, _), (11, _)]) rfl (W_seq ?_)))
  refine W_cond rfl (fun hT => ?_) (fun hF => ?_)
  · refine W_skipE ?_
    have hlt : j < l.length := by have := of_decide_eq_true hT; omega
    have hx : l[j]? = some l[j] := by simp [hlt]
    generalize l[j] = x at hx
    have hxr := hg x (List.mem_of_getElem? hx)
    obtain ⟨b, off, cap, hv, hcell⟩ := Arr.at cs_len (Arr.chg0 hl hcx) hx
    cases hv
    refine W_seq (W_block (Sr ?_))
    refine Og (vl_indexAddr sl48 sz40 rfl rfl _ rfl hlt) rfl ?_
    refine Og (vl_loadAgg ag40 sz40 rfl rfl hcell) rfl ?_
    refine O_go (gn rfl) (st_alloc zr40 rfl rfl ?_)
    intro b6 w6 e6 n6 c6 k6
    refine O_go (gn rfl) (st_store sz40 rfl rfl rfl rfl k6 (by simp [Val.cs]) (Val.one x) ?_)
    intro wA nA cA kA
    refine O_end [4, 6, 8, 9, 10] (F' := [(4, _), (6, _), (8, _), (9, _), (10, _)]) rfl ?_
    have kA : Blk wA b6 40 x.cs := kA
    have hcA : Chg [] wx wA := c6.own cA (by intro y hy; simp at hy; omega)
    refine W_seq (Sr ?_)
    refine Og (vl_loadAgg ag40 sz40 rfl rfl (Cells.of_blk0 kA)) rfl ?_
    refine O_go (gn rfl) (st_call bd143 rfl rfl rfl rfl (v_Check x _) ?_)
    rintro v15 w15 ⟨rfl, c15⟩
    refine Oa rfl rfl (O_end [4, 6, 7, 8, 9, 10] (F' := [(4, _), (6, _), (7, _), (8, _), (9, _), (10, _)]) rfl ?_)
    have kB := kA.chg0 c15
    have hcB : Chg [] wx w15 := hcA.trans c15
    have huB := IsSl.chg0 hu hcB
    refine W_seq ?_
    by_cases hc : chkN x = 0
    · refine W_region (Om rfl rfl ?_)
      refine Og (vl_is (b' := false) (vl_ine rfl rfl) (by simp [hc])) rfl ?_
      refine O_end [4, 6, 7, 8, 9, 10, 17] (F' := [(4, _), (6, _), (7, _), (8, _), (9, _), (10, _), (17, _)]) rfl (W_cond_false rfl (W_skipE ?_))
      obtain ⟨f, g, hgk, hbf, hlay⟩ := kkinds_some hc hxr
      have hfine := (fine_parts (chk_ok hc).1).1
      have hkT : (keyT x).length ≤ 234 := by have := keyV_len hc; rw [keyV_eq] at this; simp at this; omega
      have hd : Chg (blkOf u) w15 w15.drew := Chg.drew _ _
      have hbu : b6 ∉ blkOf u := fun hm => IsSl.apart huB kB rfl b6 hm (by simp)
      refine W_draw (fun wz => Chg (blkOf u) w15 wz) mix (by kernel_rfl) hd ?_
      refine Tm rfl rfl ?_
      refine t_pure rfl (gn rfl) (fun _ => vl_fieldAddr fo40_0 rfl) rfl rfl ?_
      refine t_read rfl (gn rfl) (fun wz hz => vl_load ag37 rfl ((kB.chg hz hbu).cell' rfl)) rfl rfl ?_
      refine t_pure rfl (gn rfl) (fun _ => vl_convn it5_u8 it37_i64 rfl (show IntKind.u8.wrap x.k = (((UInt8.ofNat x.k.toNat).toNat : Nat) : Int) by rw [show x.k = ((x.k.toNat : Nat) : Int) by omega, u8_wrap]; simp)) rfl rfl ?_
      refine t_st rfl (gn rfl) (st_buildSlice ap132 rfl (vs := [_]) rfl (css := [_]) ⟨rfl, trivial⟩ rfl rfl (cs := [_]) rfl rfl ?_)
      intro b23 w23 e23 n23 c23 k23
      refine ⟨.inl (hd.trans c23), ?_⟩
      refine t_st rfl (gn rfl) (st_append ap132 sl132 rfl rfl (IsSl.chg0 huB ((Chg.drew [] _).trans c23)) (IsSl.of_blk (n := 1) (c := bv [UInt8.ofNat x.k.toNat]) k23 rfl (by simp [maxLen]) (bv_one _)) (by simp only [maxLen]; omega) (by omega) rfl ?_)
      intro v24 w24 i24 c24 o24 z24
      refine ⟨.inl ((hd.trans c23).transS c24), ?_⟩
      refine t_st rfl (gn rfl) (st_call bd144 rfl rfl rfl rfl (k_kinds _) ?_)
      rintro v25 w25 ⟨b25, rfl, h25, k25, c25⟩
      refine ⟨.inl (((hd.trans c23).transS c24).trans c25), ?_⟩
      refine t_pure rfl (gn rfl) (fun _ => vl_fieldAddr fo40_0 rfl) rfl rfl ?_
      refine t_read rfl (gn rfl) (fun wz hz => vl_load ag37 rfl ((kB.chg hz hbu).cell' rfl)) rfl rfl ?_
      refine t_st rfl (gn rfl) (St.vl (vl_lookK1v (κ := intK .i64) mp243 (itOf_und it37_i64) zr242 rfl rfl k25 hgk rfl) rfl rfl ?_)
      refine ⟨.inl (((hd.trans c23).transS c24).trans c25), ?_⟩
      refine t_pure rfl (gn rfl) (fun _ => vl_field1 fp242_0 rfl rfl) rfl rfl ?_
      refine t_read rfl (gn rfl) (fun wz hz => vl_loadAgg ag40 sz40 rfl rfl (Cells.of_blk0 (kB.chg hz hbu))) rfl rfl ?_
      refine t_st rfl (gn rfl) (st_call hbf rfl rfl rfl rfl (hlay _) ?_)
      rintro v31 w31 ⟨i31, f31, c31⟩
      refine ⟨.inl ((((hd.trans c23).transS c24).trans c25).trans c31), ?_⟩
      refine t_st rfl (gn rfl) (st_append ap132 sl132 rfl rfl (IsSl.chg0 (IsSl.chg0 i24 c25) c31) i31 (by simp only [maxLen]; omega) (by omega) rfl ?_)
      intro v32 w32 i32 c32 o32 z32
      refine ⟨.inl (((((hd.trans c23).transS c24).trans c25).trans c31).trans' c32 (ownB o24 c23.size)), ?_⟩
      refine Ta rfl rfl ?_
      refine T_endN [4, 8, 9, 10] (F' := [(4, _), (8, _), (9, _), (10, _)]) rfl ?_
      refine block_normal ?_
      have hcz : Chg (blkOf u) w15 w32 := ((((hd.trans c23).transS c24).trans c25).trans c31).trans' c32 (ownB o24 c23.size)
      have hwz := (hcx.trans hcB).own hcz hfu
      have hs1 := hcx.size
      have hs2 := hcB.size
      have hs3 : w15.heap.size ≤ w23.heap.size := c23.size
      have hs4 := (c24.size)
      have hs5 := c25.size
      have hs6 := c31.size
      refine W_region ?_
      refine Og (vl_add rfl rfl (by omega)) rfl ?_
      refine Om rfl rfl ?_
      refine O_endN [4, 8, 9, 10] (F' := [(4, _), (8, _), (9, _), (10, _)]) rfl ?_
      refine ⟨l.length - (j + 1), by omega, j + 1, v32, rfl, by omega, rfl, ?_, fresh_of o32 (fresh_of o24 hfu (by omega)) (by omega), hwz, ?_⟩
      · rw [List.take_add_one, hx]
        show IsBy w32 v32 (keyB (l.take j ++ [x]))
        rw [keyB_snoc, ← List.append_assoc]
        refine IsBy.push i32 ?_ ?_
        · rw [List.length_append]; rfl
        · rw [bv_append]
      · intro y hy
        rw [List.take_add_one, hx] at hy
        rcases List.mem_append.1 hy with hy | hy
        · exact hall y hy
        · simp at hy; subst hy; exact hc
    · refine W_region (Om rfl rfl ?_)
      refine Og (vl_is (b' := true) (vl_ine rfl rfl) (by simp [hc])) rfl ?_
      refine O_end [4, 6, 7, 8, 9, 10, 17] (F' := [(4, _), (6, _), (7, _), (8, _), (9, _), (10, _), (17, _)]) rfl (W_cond_true rfl (Sr (Om rfl rfl (Oa rfl rfl (Oa rfl rfl (O_end [2, 3] (F' := [(2, _), (3, _)]) rfl (W_ret ?_)))))))
      repeat (first | refine then_ret ?_ | refine block_ret ?_)
      refine ret2 rfl rfl rfl ?_
      rw [keyE_hit hx hc hall, if_neg hc]
      exact ⟨rfl, hcx.trans hcB⟩
  · refine W_exit ?_
    repeat (first | refine then_exit ?_ | refine blockF_other rfl ?_)
    refine blockF_exit _ ?_
    have he : l.length ≤ j := by have := of_decide_eq_false hF; omega
    rw [List.take_of_length_le he] at hu hall hkl
    have hE := keyE_iff.2 hall
    obtain ⟨pu, cu, rfl, _⟩ := id (IsSl.val hu)
    refine W_seq (Sr (Om rfl rfl (Og (vl_len sl132 rfl) rfl ?_)))
    refine Og (vl_is (b' := false) (vl_gtr rfl rfl) (decide_eq_false (by omega))) rfl ?_
    refine O_end [4, 36] (F' := [(4, _), (36, _)]) rfl (W_cond_false rfl (W_skipE (Sr (Om rfl rfl ?_))))
    refine Og (vl_bytesR (l := (keyB l)) sl132 it5_u8 st9 rfl (IsSl.rd hu)) rfl ?_
    refine Oa rfl rfl (Oa rfl rfl (O_end [2, 3] (F' := [(2, _), (3, _)]) rfl (W_ret ?_)))
    refine ret2 rfl rfl rfl ?_
    rw [hE, if_pos rfl]
    exact ⟨rfl, hcx⟩
theorem k_of1 (x : Val) (w : World) : Ret Tryz.prog 105 #[x.v] w fun r w' => r = .bool (decide (x.k = 0)) ∧ Chg [] w w' := by
  refine Ret.of_W (args := [_]) Tryz.func105 rfl rfl rfl rfl ?_

  refine Sr ?_
  refine O_go (gn rfl) (st_box rfl rfl rfl ?_)
  intro b1 w1 e1 n1 c1 k1
  refine Oa rfl rfl (O_end [1] (F' := [(1, _)]) rfl (Sr (Og (vl_fieldAddr fo40_0 rfl) rfl ?_)))
  refine Og (vl_load ag37 rfl (k1.cell' rfl)) rfl ?_
  refine Og (vl_ieq rfl rfl) rfl (Oa rfl rfl (O_end [2] (F' := [(2, _)]) rfl (W_ret ?_)))
  refine ret1 rfl rfl ?_
  exact ⟨rfl, c1⟩
theorem nnS_any (l : List Val) : nnS l = !(l.any fun x => decide (x.k = 0)) := by
  rw [Bool.eq_iff_iff]
  simp [nnS]
theorem k_of (v : Value) (l : List Val) (w : World) (hl : IsVals w v l) (hg : ∀ x ∈ l, x.Rng) (hn : l.length ≤ 8) :
    Ret Tryz.prog 70 #[v] w fun r w' => r = .tuple #[.string (if keyE l = 0 then keyS l else e0), .bool (nnS l)] ∧ Chg [] w w' := by
  refine Ret.of_W (args := [_]) Tryz.func70 rfl rfl rfl rfl ?_

  refine Sr (Oa rfl rfl (Oa rfl rfl (O_end [0] (F' := [(0, _)]) rfl (Sr (Om rfl rfl ?_)))))
  refine O_go (gn rfl) (st_call bd103 rfl rfl rfl rfl (k_Encode v l _ hl hg hn) ?_)
  rintro v8 w8 ⟨rfl, c8⟩
  refine Om rfl rfl (Oe rfl rfl rfl (Oe rfl rfl rfl (Oa rfl rfl (Oa rfl rfl (O_end [0, 4] (F' := [(0, _), (4, _)]) rfl (Sr (Om rfl rfl (Om rfl rfl ?_))))))))
  refine O_go (gn rfl) (st_call bd104 rfl rfl rfl rfl (cf_val cs_len v l (fun x => decide (x.k = 0)) 105 [] _ (Arr.chg0 hl c8) (by omega) bd105 (fun x _ w1 _ => k_of1 x w1)) ?_)
  rintro v13 w13 ⟨rfl, c13⟩
  refine Og (vl_not rfl) rfl (Oa rfl rfl (Oa rfl rfl (O_end [2, 3] (F' := [(2, _), (3, _)]) rfl (W_ret ?_))))
  refine ret2 rfl rfl rfl ?_
  exact ⟨by rw [nnS_any], c8.trans c13⟩
/-- The key of a row's values in a set. -/
theorem k_setof (a p v : Value) (st : List Int) (row : List Val) (w : World) (ha : IsInts w a st) (hp : p.oneCell' = true) (hv : IsVals w v row) (hg : ∀ x ∈ row, x.Rng) (hc : ∀ x ∈ row, chkN x = 0) (hr : ∀ i ∈ st, 0 ≤ i ∧ i < row.length) (hn : st.length ≤ 8) (hn' : row.length ≤ 1048576) :
    Ret Tryz.prog 62 #[.agg #[a, p], v] w fun r w' => r = .tuple #[.string (keyS (pickN row st)), .bool (nnS (pickN row st))] ∧ Chg [] w w' := by
  have hmem : ∀ x ∈ pickN row st, x ∈ row := fun x hx => by
    rw [pick_map, List.mem_map] at hx
    obtain ⟨i, hi, rfl⟩ := hx
    exact (valAt_mem rfl (hr i hi)).1
  have hE : keyE (pickN row st) = 0 := keyE_iff.2 fun x hx => hc x (hmem x hx)
  obtain ⟨pa, ca, rfl, _⟩ := id (Arr.val ha)
  refine Ret.of_W (args := [_, _]) Tryz.func62 rfl rfl rfl rfl ?_

  refine Sr ?_
  refine O_go (gn rfl) (st_box rfl rfl rfl ?_)
  intro b2 w2 e2 n2 c2 k2
  refine Oa rfl rfl (Oa rfl rfl (O_end [1, 2] (F' := [(1, _), (2, _)]) rfl (Sr (Om rfl rfl (Og (vl_fieldAddr fo103_0 rfl) rfl ?_)))))
  refine Og (vl_load ag27 rfl (k2.cell' rfl)) rfl ?_
  refine O_go (gn rfl) (st_call bd92 rfl rfl rfl rfl (s_Pick v _ row st _ (Arr.chg0 hv c2) (Arr.chg0 ha c2) hr hn' (by omega)) ?_)
  rintro v12 w12 ⟨u, rfl, iu, fu, c12⟩
  refine Om rfl rfl (Oe rfl rfl rfl (Oe rfl rfl rfl (Oa rfl rfl (Oa rfl rfl (O_end [6] (F' := [(6, _)]) rfl (Sr (Om rfl rfl ?_)))))))
  refine O_go (gn rfl) (st_call bd70 rfl rfl rfl rfl (k_of u (pickN row st) _ iu (fun x hx => hg x (hmem x hx)) (by rw [pick_len]; exact hn)) ?_)
  rintro v16 w16 ⟨rfl, c16⟩
  refine Oe rfl rfl rfl (Oe rfl rfl rfl (Oa rfl rfl (Oa rfl rfl (O_end [4, 5] (F' := [(4, _), (5, _)]) rfl (W_ret ?_)))))
  refine ret2 rfl rfl rfl ?_
  rw [hE, if_pos rfl]
  exact ⟨rfl, (c2.trans c12).trans c16⟩
end Go.Wk

namespace Go.Wk
open Go.Proofs
set_option maxRecDepth 10000

theorem be_mod (n : Nat) : ∀ {k m : Nat}, k ≤ m → be (n % 256 ^ m) k = be n k
  | 0, _, _ => rfl
  | k + 1, m, h => by
    have e : n % 256 ^ m / 256 ^ k % 256 = n / 256 ^ k % 256 := by
      have h1 : n % 256 ^ m % 256 ^ (k + 1) = n % 256 ^ (k + 1) := Nat.mod_mod_of_dvd _ (Nat.pow_dvd_pow _ h)
      have h2 : ∀ a : Nat, a / 256 ^ k % 256 = a % 256 ^ (k + 1) / 256 ^ k := fun a => by
        rw [Nat.pow_succ, Nat.mod_mul_right_div_self]
      rw [h2, h1, ← h2]
    unfold be
    rw [e, be_mod n (by omega)]
theorem c_fixed (n z : Nat) (w : World) (hn : n < 18446744073709551616) (hz : z = 1 ∨ z = 2 ∨ z = 4 ∨ z = 8) : Ret Tryz.prog 162 #[.int .u64 n, .int .i64 z] w fun r w' => IsBy w' r (be n z) ∧ (∀ b ∈ blkOf r, w.heap.size ≤ b) ∧ Chg [] w w' := by
  have e1 : IntKind.u64.wrap ((n : Int) * 2 ^ (64 - 8 * z)) = ((n * 2 ^ (64 - 8 * z) % 18446744073709551616 : Nat) : Int) := by rw [u64_wrap']; rcases hz with rfl | rfl | rfl | rfl <;> simp only [Nat.reducePow, Nat.reduceMul, Nat.reduceSub, Int.reducePow] <;> omega
  have e2 : n * 2 ^ (64 - 8 * z) % 18446744073709551616 / 2 ^ (64 - 8 * z) = n % 256 ^ z := by rcases hz with rfl | rfl | rfl | rfl <;> simp only [Nat.reducePow, Nat.reduceMul, Nat.reduceSub] <;> omega
  have hz8 : z ≤ 8 := by omega
  have hp : n % 256 ^ z < 256 ^ z := Nat.mod_lt _ (Nat.pow_pos (by decide))
  refine Ret.of_W (args := [_, _]) Tryz.func162 rfl rfl rfl rfl ?_

  refine Sr (Oa rfl rfl (O_end [0, 1] (F' := [(0, _), (1, _)]) rfl (Sr (Om rfl rfl (Om rfl rfl ?_)))))
  refine Og (vl_mul rfl rfl (by omega)) rfl ?_
  refine Og (vl_sub rfl rfl (by omega)) rfl ?_
  refine Og (vl_shl (64 - 8 * z) rfl rfl (by omega) (by simp only [IntKind.bits]; omega) e1) rfl ?_
  refine Om rfl rfl ?_
  refine Og (vl_mul rfl rfl (by omega)) rfl ?_
  refine Og (vl_sub rfl rfl (by omega)) rfl ?_
  refine Og (vl_shr (64 - 8 * z) rfl rfl (by omega) (by simp only [IntKind.bits]; omega) (fdiv2 _ _)) rfl ?_
  refine Om rfl rfl ?_
  refine O_go (gn rfl) (st_call bd192 rfl rfl rfl rfl (e2 ▸ o_Fixed (n % 256 ^ z) z _ (Nat.lt_of_le_of_lt (Nat.mod_le _ _) hn) (by omega) hp) ?_)
  rintro v18 w18 ⟨v18, rfl, i18, f18, c18⟩
  refine Om rfl rfl (Oe rfl rfl rfl (Oe rfl rfl rfl (Oa rfl rfl (Oa rfl rfl (O_end [5] (F' := [(5, _)]) rfl (Sr (Om rfl rfl (Oa rfl rfl (O_end [4] (F' := [(4, _)]) rfl (W_ret ?_))))))))))
  refine ret1 rfl rfl ?_
  rw [e2, be_mod n (Nat.le_refl z)] at i18
  exact ⟨by unfold IsBy; rw [be_len]; exact i18, f18, c18⟩

/-- What a value's bytes are. -/
theorem c_lay1 (c : Col) (x : Val) (w : World) (hx : x.Rng) (hz : c.s = 1 ∨ c.s = 2 ∨ c.s = 4 ∨ c.s = 8) : Ret Tryz.prog 161 #[c.v, x.v] w fun r w' => IsBy w' r (be (x.i % 18446744073709551616).toNat c.s.toNat) ∧ (∀ b ∈ blkOf r, w.heap.size ≤ b) ∧ Chg [] w w' := by
  have hi := hx.i
  obtain ⟨z, hz1, hz2⟩ : ∃ z : Nat, c.s = z ∧ (z = 1 ∨ z = 2 ∨ z = 4 ∨ z = 8) := ⟨c.s.toNat, by omega, by omega⟩
  refine Ret.of_W (args := [_, _]) Tryz.func161 rfl rfl rfl rfl ?_

  refine Sr ?_
  refine O_go (gn rfl) (st_box rfl rfl rfl ?_)
  intro b2 w2 e2 n2 c2 k2
  refine O_go (gn rfl) (st_box rfl rfl rfl ?_)
  intro b3 w3 e3 n3 c3 k3
  refine Oa rfl rfl (O_end [2, 3] (F' := [(2, _), (3, _)]) rfl (Sr (Og (vl_fieldAddr fo40_1 rfl) rfl ?_)))
  refine Og (vl_load ag2 rfl (k3.cell' rfl)) rfl ?_
  refine Og (vl_convn it38_u64 it2_i64 rfl (show IntKind.u64.wrap x.i = (((x.i % 18446744073709551616).toNat : Nat) : Int) by rw [u64_wrap']; omega)) rfl ?_
  refine Og (vl_fieldAddr fo25_2 rfl) rfl ?_
  refine Og (vl_load ag3 rfl ((k2.chg0 c3).cell' (show _ = some (Value.int .i64 (z : Int)) by rw [← hz1]; rfl))) rfl ?_
  refine O_go (gn rfl) (st_call bd162 rfl rfl rfl rfl (c_fixed _ z _ (by omega) hz2) ?_)
  rintro v10 w10 ⟨i10, f10, c10⟩
  refine Oa rfl rfl (O_end [4] (F' := [(4, _)]) rfl (W_ret ?_))
  refine ret1 rfl rfl ?_
  have hs := (c2.trans c3).size
  rw [hz1]
  exact ⟨i10, fun b hb => Nat.le_trans hs (f10 b hb), (c2.trans c3).trans c10⟩
theorem c_lay3 (c : Col) (x : Val) (w : World) (hx : x.Rng) (hz : c.s = 1 ∨ c.s = 2 ∨ c.s = 4 ∨ c.s = 8) : Ret Tryz.prog 167 #[c.v, x.v] w fun r w' => IsBy w' r (be x.u c.s.toNat) ∧ (∀ b ∈ blkOf r, w.heap.size ≤ b) ∧ Chg [] w w' := by
  obtain ⟨z, hz1, hz2⟩ : ∃ z : Nat, c.s = z ∧ (z = 1 ∨ z = 2 ∨ z = 4 ∨ z = 8) := ⟨c.s.toNat, by omega, by omega⟩
  refine Ret.of_W (args := [_, _]) Tryz.func167 rfl rfl rfl rfl ?_

  refine Sr ?_
  refine O_go (gn rfl) (st_box rfl rfl rfl ?_)
  intro b2 w2 e2 n2 c2 k2
  refine O_go (gn rfl) (st_box rfl rfl rfl ?_)
  intro b3 w3 e3 n3 c3 k3
  refine Oa rfl rfl (O_end [2, 3] (F' := [(2, _), (3, _)]) rfl (Sr (Og (vl_fieldAddr fo40_2 rfl) rfl ?_)))
  refine Og (vl_load ag38 rfl (k3.cell' rfl)) rfl ?_
  refine Og (vl_fieldAddr fo25_2 rfl) rfl ?_
  refine Og (vl_load ag3 rfl ((k2.chg0 c3).cell' (show _ = some (Value.int .i64 (z : Int)) by rw [← hz1]; rfl))) rfl ?_
  refine O_go (gn rfl) (st_call bd162 rfl rfl rfl rfl (c_fixed _ z _ hx.u hz2) ?_)
  rintro v9 w9 ⟨i9, f9, c9⟩
  refine Oa rfl rfl (O_end [4] (F' := [(4, _)]) rfl (W_ret ?_))
  refine ret1 rfl rfl ?_
  have hs := (c2.trans c3).size
  rw [hz1]
  exact ⟨i9, fun b hb => Nat.le_trans hs (f9 b hb), (c2.trans c3).trans c9⟩
theorem c_lay5 (c : Col) (x : Val) (w : World) (hx : x.i = 0 ∨ x.i = 1) : Ret Tryz.prog 169 #[c.v, x.v] w fun r w' => IsBy w' r [UInt8.ofNat x.i.toNat] ∧ (∀ b ∈ blkOf r, w.heap.size ≤ b) ∧ Chg [] w w' := by
  refine Ret.of_W (args := [_, _]) Tryz.func169 rfl rfl rfl rfl ?_

  refine Sr ?_
  refine O_go (gn rfl) (st_box rfl rfl rfl ?_)
  intro b2 w2 e2 n2 c2 k2
  refine O_go (gn rfl) (st_box rfl rfl rfl ?_)
  intro b3 w3 e3 n3 c3 k3
  refine Oa rfl rfl (O_end [3] (F' := [(3, _)]) rfl (Sr (Og (vl_fieldAddr fo40_1 rfl) rfl ?_)))
  refine Og (vl_load ag2 rfl (k3.cell' rfl)) rfl ?_
  refine Og (vl_convn it5_u8 it2_i64 rfl (show IntKind.u8.wrap x.i = (((UInt8.ofNat x.i.toNat).toNat : Nat) : Int) by rcases hx with h | h <;> rw [h] <;> rfl)) rfl ?_
  refine O_go (gn rfl) (st_buildSlice ap132 rfl (vs := [_]) rfl (css := [_]) ⟨rfl, trivial⟩ rfl rfl (cs := [_]) rfl rfl ?_)
  intro b8 w8 e8 n8 c8 k8
  refine Oa rfl rfl (O_end [4] (F' := [(4, _)]) rfl (W_ret ?_))
  refine ret1 rfl rfl ?_
  have hs := (c2.trans c3).size
  exact ⟨IsSl.of_blk (n := 1) k8 rfl (by simp [maxLen]) (bv_one _), by intro b hb; simp [blkOf] at hb; omega, (c2.trans c3).trans c8⟩
theorem c_lay8 (c : Col) (x : Val) (w : World) (hx : x.b.size ≤ 1048576) : Ret Tryz.prog 173 #[c.v, x.v] w fun r w' => IsBy w' r (textB x.b) ∧ (∀ b ∈ blkOf r, w.heap.size ≤ b) ∧ Chg [] w w' := by
  refine Ret.of_W (args := [_, _]) Tryz.func173 rfl rfl rfl rfl ?_

  refine Sr ?_
  refine O_go (gn rfl) (st_box rfl rfl rfl ?_)
  intro b2 w2 e2 n2 c2 k2
  refine O_go (gn rfl) (st_box rfl rfl rfl ?_)
  intro b3 w3 e3 n3 c3 k3
  refine Oa rfl rfl (O_end [3] (F' := [(3, _)]) rfl (Sr (Og (vl_fieldAddr fo40_3 rfl) rfl ?_)))
  refine Og (vl_load ag9 rfl (k3.cell' rfl)) rfl ?_
  refine O_go (gn rfl) (st_call bd174 rfl rfl rfl rfl (o_Text x.b _ hx) ?_)
  rintro v7 w7 ⟨i7, f7, c7⟩
  refine Oa rfl rfl (O_end [4] (F' := [(4, _)]) rfl (W_ret ?_))
  refine ret1 rfl rfl ?_
  have hs := (c2.trans c3).size
  exact ⟨i7, fun b hb => Nat.le_trans hs (f7 b hb), (c2.trans c3).trans c7⟩
def kind3 (f g h : FuncId) : Value := .agg #[.func (.func f) #[] #[], .func (.func g) #[] #[], .func (.func h) #[] #[]]
def cKinds : List (Int × Value) := [(1, kind3 161 163 166), (2, kind3 167 168 166), (3, kind3 169 170 172), (4, kind3 173 175 178)]
theorem c_kinds (w : World) : Ret Tryz.prog 133 #[] w fun r w' => ∃ b, r = .map (some b) ∧ w.heap.size ≤ b ∧ IsMapK (intK .i64) w' b cKinds ∧ Chg [] w w' := by
  refine Ret.of_W (args := []) Tryz.func133 rfl rfl rfl rfl ?_

  refine Sr (Oa rfl rfl (O_end [] (F' := []) rfl (Sr ?_)))
  refine O_go (gn rfl) (st_makeMapK (intK .i64) rfl ?_)
  intro b1 w1 e1 n1 c1 k1
  refine Og (vl_build pl220 zr220 rfl (vs := [_, _, _]) rfl (css := [_, _, _]) ⟨rfl, rfl, rfl, trivial⟩ rfl rfl (cs := [_, _, _]) rfl) rfl ?_
  refine O_go (gn rfl) (st_insK (κ := intK .i64) mp221 (itOf_und it23_i64) rfl rfl rfl k1 ?_)
  intro wA nA cA kA
  refine Og (vl_build pl220 zr220 rfl (vs := [_, _, _]) rfl (css := [_, _, _]) ⟨rfl, rfl, rfl, trivial⟩ rfl rfl (cs := [_, _, _]) rfl) rfl ?_
  refine O_go (gn rfl) (st_insK (κ := intK .i64) mp221 (itOf_und it23_i64) rfl rfl rfl kA ?_)
  intro wB nB cB kB
  refine Og (vl_build pl220 zr220 rfl (vs := [_, _, _]) rfl (css := [_, _, _]) ⟨rfl, rfl, rfl, trivial⟩ rfl rfl (cs := [_, _, _]) rfl) rfl ?_
  refine O_go (gn rfl) (st_insK (κ := intK .i64) mp221 (itOf_und it23_i64) rfl rfl rfl kB ?_)
  intro wC nC cC kC
  refine Og (vl_build pl220 zr220 rfl (vs := [_, _, _]) rfl (css := [_, _, _]) ⟨rfl, rfl, rfl, trivial⟩ rfl rfl (cs := [_, _, _]) rfl) rfl ?_
  refine O_go (gn rfl) (st_insK (κ := intK .i64) mp221 (itOf_und it23_i64) rfl rfl rfl kC ?_)
  intro wD nD cD kD
  refine Om rfl rfl (Oa rfl rfl (O_end [0] (F' := [(0, _)]) rfl (W_ret ?_)))
  refine ret1 rfl rfl ?_
  exact ⟨b1, rfl, by omega, kD, c1.own ((((cA.transS cB).transS cC).transS cD)) (by intro x hx; simp at hx; omega)⟩
end Go.Wk

namespace Go.Wk
open Go.Proofs
set_option maxRecDepth 10000

theorem ckinds_some {c : Col} {x : Val} (h : fitsN c x = 0) (hk : x.k ≠ 0) (hx : x.Rng) : ∃ f g k, kget cKinds c.t = some (kind3 f g k) ∧ bodied Tryz.prog f = true ∧ ∀ w, Ret Tryz.prog f #[c.v, x.v] w fun r w' => IsBy w' r (layV c x) ∧ (∀ b ∈ blkOf r, w.heap.size ≤ b) ∧ Chg [] w w' := by
  obtain ⟨hr, hc, _, h2⟩ := fits_parts h
  obtain ⟨hkt, _⟩ := h2 hk
  obtain ⟨hf, hb⟩ := chk_ok hc
  obtain ⟨_, hbr, hm⟩ := fine_parts hf
  obtain ⟨s1, s2, s3, s4⟩ := right_size hr
  unfold layV
  rcases s4 with e | e | e | e <;> simp only [e, ↓reduceIte, Int.reduceEq]
  · exact ⟨_, _, _, rfl, bd161, fun w => c_lay1 c x w hx (s1 (.inl e))⟩
  · exact ⟨_, _, _, rfl, bd167, fun w => c_lay3 c x w hx (s1 (.inr e))⟩
  · exact ⟨_, _, _, rfl, bd169, fun w => c_lay5 c x w (hm (by omega))⟩
  · exact ⟨_, _, _, rfl, bd173, fun w => c_lay8 c x w (by omega)⟩
theorem encR_snoc : ∀ {cs : List Col} {xs : List Val} {j : Nat} {c : Col} {x : Val}, cs[j]? = some c → xs[j]? = some x → encR (cs.take (j + 1)) (xs.take (j + 1)) = encR (cs.take j) (xs.take j) ++ encV c x
  | [], _, _, _, _, h, _ => by simp at h
  | _ :: _, [], _, _, _, _, h => by simp at h
  | c :: cs, x :: xs, 0, c', x', hc, hx => by simp at hc hx; subst hc hx; simp [encR]
  | c :: cs, x :: xs, j + 1, c', x', hc, hx => by
    simp only [List.take_succ_cons, encR]
    rw [encR_snoc (by simpa using hc) (by simpa using hx), List.append_assoc]
theorem fitsL_take : ∀ {cs : List Col} {xs : List Val}, fitsL cs xs = 0 → ∀ j, fitsL (cs.take j) (xs.take j) = 0
  | [], _, _, j => by simp [fitsL]
  | _ :: _, [], _, j => by simp [fitsL]
  | c :: cs, x :: xs, h, 0 => by simp [fitsL]
  | c :: cs, x :: xs, h, j + 1 => by
    unfold fitsL at h
    by_cases h1 : fitsN c x = 0
    · rw [if_neg (by simp [h1])] at h
      simp only [List.take_succ_cons, fitsL, h1, fitsL_take h j]
      rfl
    · rw [if_pos h1] at h; exact absurd h h1
theorem c_Encode (c k u v : Value) (s : Sch) (l : List Val) (w : World) (hE : EOk w) (hs : IsSch w c k u s) (hm : s.Sm) (hl : IsVals w v l) (hg : ∀ x ∈ l, x.Rng) (hn : l.length ≤ 1048576) :
    Ret Tryz.prog 84 #[.agg #[c, k, u], v] w fun r w' => ∃ o, r = .tuple #[o, .int .i64 (rowN s l)] ∧ IsBy w' o (if rowN s l = 0 then encR s.cols l else []) ∧ (∀ b ∈ blkOf o, w.heap.size ≤ b) ∧ Chg [] w w' := by
  obtain ⟨pv, cv, rfl, hcv⟩ := Arr.val hl
  refine Ret.of_W (args := [_, _]) Tryz.func84 rfl rfl rfl rfl ?_

  refine Sr ?_
  refine O_go (gn rfl) (st_box rfl rfl rfl ?_)
  intro b2 w2 e2 n2 c2 k2
  refine Oa rfl rfl (Oa rfl rfl (O_end [1, 2] (F' := [(1, _), (2, _)]) rfl (W_seq (Sr ?_))))
  refine Og (vl_loadAgg ag30 sz30 rfl rfl (Cells.of_blk0 k2)) rfl ?_
  refine Om rfl rfl ?_
  refine O_go (gn rfl) (st_call bd80 rfl rfl rfl rfl (s_Row c k u _ s l _ (hE.chg0 c2) (hs.chg0 c2) hm (Arr.chg0 hl c2) hg hn) ?_)
  rintro v13 w13 ⟨rfl, c13⟩
  refine Oa rfl rfl (O_end [1, 2, 6] (F' := [(1, _), (2, _), (6, _)]) rfl (W_seq ?_))
  by_cases hr : rowN s l = 0
  · refine W_region (Om rfl rfl ?_)
    refine Og (vl_is (b' := false) (vl_ine rfl rfl) (by simp [hr])) rfl ?_
    refine O_end [1, 2, 6, 15] (F' := [(1, _), (2, _), (6, _), (15, _)]) rfl (W_cond_false rfl (W_skipE ?_))
    obtain ⟨hrs, hlen, hfit⟩ := rowN_ok hr
    refine Sr (Oa rfl rfl (O_end [1, 2, 7] (F' := [(1, _), (2, _), (7, _)]) rfl (W_seq (W_seq ?_))))
    have hcA := c2.trans c13
    have k2 := k2.chg0 c13
    refine W_region (Om rfl rfl (Og (vl_len sl48 rfl) rfl (Om rfl rfl (O_end [2, 7, 17, 18, 19] (F' := [(2, _), (7, _), (17, _), (18, _), (19, _)]) rfl (W_block ?_)))))
    refine W_loop [2, 7, 17, 18, 19] (fun m F wx => ∃ (j : Nat) (u : Value), m = l.length - j ∧ j ≤ l.length ∧ F = [(2, .pointer (some ⟨b2, 0, none⟩)), (7, u), (17, .slice pv l.length cv), (18, .int .i64 l.length), (19, .int .i64 j)] ∧ IsBy wx u (encR (s.cols.take j) (l.take j)) ∧ (∀ b ∈ blkOf u, w13.heap.size ≤ b) ∧ Chg [] w13 wx) (m := l.length - 0) ⟨0, _, rfl, Nat.zero_le _, rfl, IsSl.nil _ _ _, by simp [blkOf], Chg.refl _ _⟩ ?_
    rintro m F wx ⟨j, u', rfl, hj, rfl, hu, hfu, hcx⟩
    refine Sr (Og (vl_lss rfl rfl) rfl (O_end [2, 7, 17, 18, 19, 20] (F' := [(2, _), (7, _), (17, _), (18, _), (19, _), (20, _)]) rfl (W_seq ?_)))
    refine W_cond rfl (fun hT => ?_) (fun hF => ?_)
    · refine W_skipE ?_
      have hlt : j < l.length := by have := of_decide_eq_true hT; omega
      have hx : l[j]? = some l[j] := by simp [hlt]
      have hy : s.cols[j]? = some (s.cols[j]'(by omega)) := by simp [hlt, ← hlen]
      generalize l[j] = x at hx
      generalize s.cols[j]'(by omega) = y at hy
      have hxr := hg x (List.mem_of_getElem? hx)
      have hfy := fitsL_at hfit hy hx
      have hel := encV_len hfy
      have hkl := encR_len (fitsL_take hfit j)
      have h8 := (right_parts hrs).1
      rw [List.length_take, Nat.min_eq_left (by omega)] at hkl
      obtain ⟨b, off, cap, hv, hcell⟩ := Arr.at cs_len (Arr.chg0 hl (hcA.trans hcx)) hx
      cases hv
      have k2 := k2.chg0 hcx
      refine W_seq (W_block (Sr (Om rfl rfl ?_)))
      refine Og (vl_indexAddr sl48 sz40 rfl rfl _ rfl hlt) rfl ?_
      refine Og (vl_loadAgg ag40 sz40 rfl rfl hcell) rfl ?_
      refine O_go (gn rfl) (st_alloc zr40 rfl rfl ?_)
      intro b9 w9 e9 n9 c9 k9
      refine Oa rfl rfl ?_
      refine O_go (gn rfl) (st_store sz40 rfl rfl rfl rfl k9 (by simp [Val.cs]) (Val.one x) ?_)
      intro wA nA cA kA
      refine O_end [2, 7, 8, 9, 17, 18, 19] (F' := [(2, _), (7, _), (8, _), (9, _), (17, _), (18, _), (19, _)]) rfl ?_
      have kA : Blk wA b9 40 x.cs := kA
      have hcB : Chg [] wx wA := c9.own cA (by intro y hy; simp at hy; omega)
      obtain ⟨bc, offc, capc, hvc, hcellc⟩ := Arr.at ccs_len (Arr.chg0 hs.cols ((hcA.trans hcx).trans hcB)) hy
      subst hvc
      have k2 := k2.chg0 hcB
      have huB := IsSl.chg0 hu hcB
      refine W_seq (W_seq ?_)
      by_cases hk : x.k = 0
      · refine W_region (Og (vl_fieldAddr fo40_0 rfl) rfl ?_)
        refine Og (vl_load ag37 rfl (kA.cell' rfl)) rfl ?_
        refine Og (vl_is (b' := true) (vl_ieq rfl rfl) (by simp [hk])) rfl ?_
        refine O_end [2, 7, 8, 9, 17, 18, 19, 26] (F' := [(2, _), (7, _), (8, _), (9, _), (17, _), (18, _), (19, _), (26, _)]) rfl (W_cond_true rfl (W_seq ?_))
        have hkl2 : (encV y x).length = 1 := by simp [encV, hk]
        refine W_region (Om rfl rfl ?_)
        refine O_go (gn rfl) (st_buildSlice ap132 rfl (vs := [_]) rfl (css := [_]) ⟨rfl, trivial⟩ rfl rfl (cs := [_]) rfl rfl ?_)
        intro b28 w28 e28 n28 c28 k28
        refine O_go (gn rfl) (st_append ap132 sl132 rfl rfl (IsSl.chg0 huB c28) (IsSl.of_blk (n := 1) (c := bv [0]) k28 rfl (by simp [maxLen]) (bv_one _)) (by simp only [maxLen]; omega) (by omega) rfl ?_)
        intro v29 w29 i29 c29 o29 z29
        refine Oa rfl rfl (O_end [2, 7, 17, 18, 19] (F' := [(2, _), (7, _), (17, _), (18, _), (19, _)]) rfl ?_)
        have hcz : Chg (blkOf u') wA w29 := (((Chg.refl (blkOf u') wA).trans c28).transS c29)
        have hwz := (hcx.trans hcB).own hcz hfu
        have hs1 := hcx.size
        have hs2 := hcB.size
        have hs3 : wA.heap.size ≤ w28.heap.size := c28.size
        refine W_exit ?_
        repeat (first | refine then_exit ?_ | refine blockF_other rfl ?_)
        refine blockF_exit _ ?_
        refine W_region ?_
        refine Og (vl_add rfl rfl (by omega)) rfl ?_
        refine Om rfl rfl ?_
        refine O_endN [2, 7, 17, 18, 19] (F' := [(2, _), (7, _), (17, _), (18, _), (19, _)]) rfl ?_
        refine ⟨l.length - (j + 1), by omega, j + 1, v29, rfl, by omega, rfl, ?_, fresh_of o29 hfu (by omega), hwz⟩
        rw [encR_snoc hy hx, show encV y x = [0] by simp [encV, hk]]
        refine IsBy.push i29 ?_ ?_
        · rfl
        · rfl
      · refine W_region (Og (vl_fieldAddr fo40_0 rfl) rfl ?_)
        refine Og (vl_load ag37 rfl (kA.cell' rfl)) rfl ?_
        refine Og (vl_is (b' := false) (vl_ieq rfl rfl) (by simp [hk])) rfl ?_
        refine O_end [2, 7, 8, 9, 17, 18, 19, 26] (F' := [(2, _), (7, _), (8, _), (9, _), (17, _), (18, _), (19, _), (26, _)]) rfl (W_cond_false rfl (W_skipE ?_))
        obtain ⟨f, g, q, hgk, hbf, hlay⟩ := ckinds_some hfy hk hxr
        have hkl2 : (encV y x).length = (layV y x).length + 1 := by simp [encV, hk]
        refine Sr (Og (vl_fieldAddr fo30_0 rfl) rfl ?_)
        refine Og (vl_load ag26 rfl (k2.cell' rfl)) rfl ?_
        refine Om rfl rfl ?_
        refine Og (vl_indexAddr sl26 sz25 rfl rfl _ rfl (show j < s.cols.length by omega)) rfl ?_
        refine Og (vl_loadAgg ag25 sz25 rfl rfl hcellc) rfl ?_
        refine O_go (gn rfl) (st_alloc zr25 rfl rfl ?_)
        intro b10 w10 e10 n10 c10 k10
        refine O_go (gn rfl) (st_store sz25 rfl rfl rfl rfl k10 (by simp [Col.cs]) (Col.one y) ?_)
        intro wB nB cB kB
        refine O_end [2, 7, 9, 10, 17, 18, 19] (F' := [(2, _), (7, _), (9, _), (10, _), (17, _), (18, _), (19, _)]) rfl ?_
        have kB : Blk wB b10 25 y.cs := kB
        have hcC : Chg [] wA wB := c10.own cB (by intro y hy; simp at hy; omega)
        have kA := kA.chg0 hcC
        have huC := IsSl.chg0 huB hcC
        have hd : Chg (blkOf u') wB wB.drew := Chg.drew _ _
        have hbu : b9 ∉ blkOf u' := fun hm => IsSl.apart huC kA rfl b9 hm (by simp)
        have hbv : b10 ∉ blkOf u' := fun hm => IsSl.apart huC kB rfl b10 hm (by simp)
        refine W_draw (fun wz => Chg (blkOf u') wB wz) mix (by kernel_rfl) hd ?_
        refine Tm rfl rfl ?_
        refine t_st rfl (gn rfl) (st_buildSlice ap132 rfl (vs := [_]) rfl (css := [_]) ⟨rfl, trivial⟩ rfl rfl (cs := [_]) rfl rfl ?_)
        intro b36 w36 e36 n36 c36 k36
        refine ⟨.inl (hd.trans c36), ?_⟩
        refine t_st rfl (gn rfl) (st_append ap132 sl132 rfl rfl (IsSl.chg0 huC ((Chg.drew [] _).trans c36)) (IsSl.of_blk (n := 1) (c := bv [1]) k36 rfl (by simp [maxLen]) (bv_one _)) (by simp only [maxLen]; omega) (by omega) rfl ?_)
        intro v37 w37 i37 c37 o37 z37
        refine ⟨.inl ((hd.trans c36).transS c37), ?_⟩
        refine t_st rfl (gn rfl) (st_call bd133 rfl rfl rfl rfl (c_kinds _) ?_)
        rintro v38 w38 ⟨b38, rfl, h38, k38, c38⟩
        refine ⟨.inl (((hd.trans c36).transS c37).trans c38), ?_⟩
        refine t_pure rfl (gn rfl) (fun _ => vl_fieldAddr fo25_1 rfl) rfl rfl ?_
        refine t_read rfl (gn rfl) (fun wz hz => vl_load ag23 rfl ((kB.chg hz hbv).cell' rfl)) rfl rfl ?_
        refine t_st rfl (gn rfl) (St.vl (vl_lookK1v (κ := intK .i64) mp221 (itOf_und it23_i64) zr220 rfl rfl k38 hgk rfl) rfl rfl ?_)
        refine ⟨.inl (((hd.trans c36).transS c37).trans c38), ?_⟩
        refine t_pure rfl (gn rfl) (fun _ => vl_field1 fp220_0 rfl rfl) rfl rfl ?_
        refine t_read rfl (gn rfl) (fun wz hz => vl_loadAgg ag25 sz25 rfl rfl (Cells.of_blk0 (kB.chg hz hbv))) rfl rfl ?_
        refine t_read rfl (gn rfl) (fun wz hz => vl_loadAgg ag40 sz40 rfl rfl (Cells.of_blk0 (kA.chg hz hbu))) rfl rfl ?_
        refine t_st rfl (gn rfl) (st_call hbf rfl rfl rfl rfl (hlay _) ?_)
        rintro v45 w45 ⟨i45, f45, c45⟩
        refine ⟨.inl ((((hd.trans c36).transS c37).trans c38).trans c45), ?_⟩
        refine t_st rfl (gn rfl) (st_append ap132 sl132 rfl rfl (IsSl.chg0 (IsSl.chg0 i37 c38) c45) i45 (by simp only [maxLen]; omega) (by omega) rfl ?_)
        intro v46 w46 i46 c46 o46 z46
        refine ⟨.inl (((((hd.trans c36).transS c37).trans c38).trans c45).trans' c46 (ownB o37 c36.size)), ?_⟩
        refine Ta rfl rfl ?_
        refine T_endN [2, 7, 17, 18, 19] (F' := [(2, _), (7, _), (17, _), (18, _), (19, _)]) rfl ?_
        refine block_normal ?_
        have hcz : Chg (blkOf u') wB w46 := ((((hd.trans c36).transS c37).trans c38).trans c45).trans' c46 (ownB o37 c36.size)
        have hwz := ((hcx.trans hcB).trans hcC).own hcz hfu
        have hs1 := hcx.size
        have hs2 := hcB.size
        have hs0 := hcC.size
        have hs3 : wB.heap.size ≤ w36.heap.size := c36.size
        have hs4 := c37.size
        have hs5 := c38.size
        have hs6 := c45.size
        refine W_region ?_
        refine Og (vl_add rfl rfl (by omega)) rfl ?_
        refine Om rfl rfl ?_
        refine O_endN [2, 7, 17, 18, 19] (F' := [(2, _), (7, _), (17, _), (18, _), (19, _)]) rfl ?_
        refine ⟨l.length - (j + 1), by omega, j + 1, v46, rfl, by omega, rfl, ?_, fresh_of o46 (fresh_of o37 hfu (by omega)) (by omega), hwz⟩
        rw [encR_snoc hy hx, show encV y x = 1 :: layV y x by simp [encV, hk], List.append_cons]
        refine IsBy.push i46 ?_ ?_
        · rw [List.length_append]; rfl
        · rw [bv_append]
    · refine W_exit ?_
      repeat (first | refine then_exit ?_ | refine blockF_other rfl ?_)
      refine blockF_exit _ ?_
      have he : l.length ≤ j := by have := of_decide_eq_false hF; omega
      rw [List.take_of_length_le he, List.take_of_length_le (by omega)] at hu
      refine Sr (Om rfl rfl (Oa rfl rfl (Oa rfl rfl (O_end [4, 5] (F' := [(4, _), (5, _)]) rfl (W_ret ?_)))))
      repeat (first | refine then_ret ?_ | refine block_ret ?_)
      refine ret2 rfl rfl rfl ?_
      have hs1 := hcA.size
      rw [hr, if_pos rfl]
      exact ⟨_, rfl, hu, fun b hb => Nat.le_trans hs1 (hfu b hb), hcA.trans hcx⟩
  · refine W_region (Om rfl rfl ?_)
    refine Og (vl_is (b' := true) (vl_ine rfl rfl) (by simp [hr])) rfl ?_
    refine O_end [1, 2, 6, 15] (F' := [(1, _), (2, _), (6, _), (15, _)]) rfl (W_cond_true rfl (Sr (Om rfl rfl (Oa rfl rfl (Oa rfl rfl (O_end [4, 5] (F' := [(4, _), (5, _)]) rfl (W_ret ?_)))))))
    repeat (first | refine then_ret ?_ | refine block_ret ?_)
    refine ret2 rfl rfl rfl ?_
    rw [if_neg hr]
    exact ⟨_, rfl, IsSl.nil _ _ _, by simp [blkOf], c2.trans c13⟩
end Go.Wk

namespace Go.Wk
open Go.Proofs
set_option maxRecDepth 10000

theorem c_must (w : World) : Ret Tryz.prog 171 #[.bool true] w fun r w' => r = .tuple #[] ∧ w' = w := by
  refine Ret.of_W (args := [_]) Tryz.func171 rfl rfl rfl rfl ?_

  refine Sr (Om rfl rfl (Og (vl_not rfl) rfl (O_end [3] (F' := [(3, _)]) rfl (W_cond_false rfl (W_skip ?_)))))
  refine end0 rfl ?_
  exact ⟨rfl, rfl⟩
theorem RdSl.apart {w : World} {e k : Nat} {v : Value} {len : Nat} {xs : List Value} (h : RdSl w e k v len xs) {b : Nat} {e' : TypeId} {c : List Value} (hb : Blk w b e' c) (hne : Nat.beq e e' = false) : ∀ x ∈ blkOf v, x ∉ [b] := by
  rcases h with ⟨rfl, _⟩ | ⟨b', off, cap, c', fr, rfl, h, _⟩
  · simp [blkOf]
  · intro x hx hm
    simp [blkOf] at hx
    simp at hm
    subst hx hm
    unfold Blk at hb
    rw [h] at hb
    cases hb
    simp at hne
/-- A tape: what is still to be read. -/
def IsTape (w : World) (t : Value) (l : List UInt8) (b : Nat) : Prop := t = .pointer (some ⟨b, 0, none⟩) ∧ ∃ v, Blk w b 237 [v] ∧ RdSl w 5 1 v l.length (bv l) ∧ b ∉ blkOf v
theorem IsTape.chg0 {w w' : World} {t : Value} {l : List UInt8} {b : Nat} (h : IsTape w t l b) (hc : Chg [] w w') : IsTape w' t l b :=
  let ⟨h1, v, h2, h3, h4⟩ := h; ⟨h1, v, h2.chg0 hc, h3.chg0 hc, h4⟩
theorem IsTape.lt {w : World} {t : Value} {l : List UInt8} {b : Nat} (h : IsTape w t l b) : b < w.heap.size :=
  let ⟨_, _, h2, _⟩ := h; h2.lt
theorem IsTape.chg {w w' : World} {t : Value} {l : List UInt8} {b : Nat} {S : List Nat} (h : IsTape w t l b) (hc : Chg S w w') (hS : ∀ y ∈ S, y ≠ b ∧ ∃ e c, Blk w y e c ∧ Nat.beq 5 e = false) : IsTape w' t l b := by
  obtain ⟨h1, v, h2, h3, h4⟩ := h
  refine ⟨h1, v, h2.chg hc (fun hm => (hS b hm).1 rfl), h3.chg hc (fun y hy hm => ?_), h4⟩
  obtain ⟨_, e, c, hb, hne⟩ := hS y hm
  exact h3.apart hb hne y hy (by simp)
theorem rd_take {w : World} {p : Option Addr} {n cap : Nat} {l m : List UInt8} {z : Nat} (h : RdSl w 5 1 (.slice p n cap) (l ++ m).length (bv (l ++ m))) (hz : l.length = z) (hc : (l ++ m).length ≤ cap) (k : Nat) (h1 : z ≤ k) (h2 : k ≤ cap) : RdSl w 5 1 (cut p 0 z k 1) l.length (bv l) := by
  obtain ⟨p', c', he, _⟩ := h.val
  cases he
  subst hz
  have := h.cut (l := 0) (h := l.length) (m := k) (by omega) h1 h2 (by simp)
  rw [bv_append] at this
  simpa [bv_len] using this
theorem rd_drop {w : World} {p : Option Addr} {n cap : Nat} {l m : List UInt8} {z : Nat} (h : RdSl w 5 1 (.slice p n cap) (l ++ m).length (bv (l ++ m))) (hz : l.length = z) (hc : (l ++ m).length ≤ cap) : RdSl w 5 1 (cut p z n cap 1) m.length (bv m) := by
  obtain ⟨p', c', he, _⟩ := h.val
  cases he
  subst hz
  have := h.cut (l := l.length) (h := (l ++ m).length) (m := cap) (by simp) hc (Nat.le_refl _) (by simp)
  rw [bv_append] at this
  simp only [Nat.mul_one, List.length_append, Nat.add_sub_cancel_left] at this
  rw [List.drop_left' (bv_len _), List.take_of_length_le (by rw [bv_len]; omega)] at this
  simpa using this
theorem c_some (v : Value) (l m : List UInt8) (w : World) (z : Nat) (hz : l.length = z) (hv : RdSl w 5 1 v (l ++ m).length (bv (l ++ m))) : Ret Tryz.prog 231 #[v, .int .i64 z] w fun r w' => RdSl w' 5 1 r l.length (bv l) ∧ (∀ x ∈ blkOf r, x ∈ blkOf v) ∧ w' = w := by
  obtain ⟨p, cap, rfl, hcap⟩ := hv.val
  have hzl : z ≤ (l ++ m).length := by rw [List.length_append]; omega
  refine Ret.of_W (args := [_, _]) Tryz.func231 rfl rfl rfl rfl ?_

  refine Sr (Oa rfl rfl (O_end [0, 1] (F' := [(0, _), (1, _)]) rfl (Sr (Om rfl rfl (Om rfl rfl (Og (vl_len sl235 rfl) rfl ?_))))))
  refine Og (vl_is (b' := true) (vl_leq rfl rfl) (decide_eq_true (by omega))) rfl ?_
  refine O_go (gn rfl) (st_call bd171 rfl rfl rfl rfl (c_must _) ?_)
  rintro v9 w9 ⟨rfl, rfl⟩
  refine O_end [0, 1] (F' := [(0, _), (1, _)]) rfl (Sr (Om rfl rfl (Om rfl rfl (Om rfl rfl ?_))))
  refine Og (vl_cut_hm sl235 sz5 rfl rfl rfl _ _ rfl rfl (Nat.le_refl _) (by omega)) rfl ?_
  refine Oa rfl rfl (O_end [4] (F' := [(4, _)]) rfl (W_ret ?_))
  refine ret1 rfl rfl ?_
  exact ⟨rd_take hv hz hcap _ (Nat.le_refl _) (by omega), IsSl.cutBlk, rfl⟩
theorem c_take (t : Value) (b : Nat) (l m : List UInt8) (w : World) (z : Nat) (hz : l.length = z) (ht : IsTape w t (l ++ m) b) : Ret Tryz.prog 165 #[t, .int .i64 z] w fun r w' => RdSl w' 5 1 r l.length (bv l) ∧ IsTape w' t m b ∧ Chg [b] w w' := by
  obtain ⟨rfl, v, hb, hv, hbv⟩ := ht
  obtain ⟨p, cap, rfl, hcap⟩ := id hv.val
  have hzl : z ≤ (l ++ m).length := by rw [List.length_append]; omega
  refine Ret.of_W (args := [_, _]) Tryz.func165 rfl rfl rfl rfl ?_

  refine Sr (Oa rfl rfl (O_end [0, 1] (F' := [(0, _), (1, _)]) rfl (Sr (Om rfl rfl (Og (vl_nilCheck rfl) rfl (Og (vl_fieldAddr fo237_0 rfl) rfl ?_))))))
  refine Og (vl_load ag235 rfl (hb.cell' rfl)) rfl ?_
  refine Om rfl rfl ?_
  refine O_go (gn rfl) (st_call bd231 rfl rfl rfl rfl (c_some _ l m _ z hz hv) ?_)
  rintro v11 w11 ⟨i11, q11, rfl⟩
  refine Oa rfl rfl (O_end [0, 1, 5] (F' := [(0, _), (1, _), (5, _)]) rfl (Sr (Om rfl rfl (Om rfl rfl (Og (vl_nilCheck rfl) rfl (Og (vl_fieldAddr fo237_0 rfl) rfl ?_))))))
  refine Og (vl_load ag235 rfl (hb.cell' rfl)) rfl ?_
  refine Om rfl rfl ?_
  refine Og (vl_cut_l sl235 sz5 rfl rfl _ rfl (by omega)) rfl ?_
  refine Og (vl_nilCheck rfl) rfl (Og (vl_fieldAddr fo237_0 rfl) rfl ?_)
  refine O_go (gn rfl) (st_store sz235 rfl rfl rfl rfl hb (by simp) (by intro u hu; rcases List.mem_cons.1 hu with rfl | hu; rfl; cases hu) ?_)
  intro wA nA cA kA
  refine O_end [5] (F' := [(5, _)]) rfl (Sr (Om rfl rfl (Oa rfl rfl (O_end [4] (F' := [(4, _)]) rfl (W_ret ?_)))))
  refine ret1 rfl rfl ?_
  have hbA : ∀ x ∈ blkOf (cut p z (l ++ m).length cap 1), x ∉ [b] := fun x hx hm => hbv (by rw [← List.mem_singleton.1 hm]; exact IsSl.cutBlk x hx)
  exact ⟨i11.chg cA (fun x hx hm => hbv (by rw [← List.mem_singleton.1 hm]; exact q11 x hx)), ⟨rfl, _, kA, (rd_drop hv hz hcap).chg cA hbA, fun hm => hbA b hm (by simp)⟩, cA⟩
/-- A read value, in its cells. -/
theorem c_read2 (c : Col) (x : Int) (t : Value) (b : Nat) (m : List UInt8) (w : World) (hz : c.s = 1 ∨ c.s = 2 ∨ c.s = 4 ∨ c.s = 8) (hx : leastN c.s ≤ x ∧ x ≤ -(leastN c.s + 1)) (ht : IsTape w t (be (x % 18446744073709551616).toNat c.s.toNat ++ m) b) :
    Ret Tryz.prog 163 #[c.v, t] w fun r w' => r = (Val.mk 1 x 0 e0).v ∧ IsTape w' t m b ∧ Chg [b] w w' := by
  obtain ⟨z, hz1, hz2⟩ : ∃ z : Nat, c.s = z ∧ (z = 1 ∨ z = 2 ∨ z = 4 ∨ z = 8) := ⟨c.s.toNat, by omega, by omega⟩
  rw [hz1] at ht hx
  have hib := int_back (i := x) hz2 hx
  refine Ret.of_W (args := [_, _]) Tryz.func163 rfl rfl rfl rfl ?_

  refine Sr ?_
  refine O_go (gn rfl) (st_box rfl rfl rfl ?_)
  intro b2 w2 e2 n2 c2 k2
  refine O_go (gn rfl) (st_alloc zr40 rfl rfl ?_)
  intro b4 w4 e4 n4 c4 k4
  refine O_end [1, 2, 4] (F' := [(1, _), (2, _), (4, _)]) rfl (Sr (Om rfl rfl (Og (vl_fieldAddr fo25_2 rfl) rfl ?_)))
  refine Og (vl_load ag3 rfl ((k2.chg0 c4).cell' (show _ = some (Value.int .i64 (z : Int)) by rw [← hz1]; rfl))) rfl ?_
  refine O_go (gn rfl) (st_call bd165 rfl rfl rfl rfl (c_take t b _ m _ z (be_len _ _) (ht.chg0 (c2.trans c4))) ?_)
  rintro v12 w12 ⟨i12, t12, c12⟩
  refine O_go (gn rfl) (st_call bd164 rfl rfl rfl rfl (o_ReadFixed _ _ _ i12 (by rw [be_len]; omega)) ?_)
  rintro v13 w13 ⟨rfl, rfl⟩
  refine Om rfl rfl (Oe rfl rfl rfl (Oe rfl rfl rfl (Oa rfl rfl (Oa rfl rfl (O_end [2, 4, 5] (F' := [(2, _), (4, _), (5, _)]) rfl ?_)))))
  have hbl := ht.lt
  have hs2 := c2.size
  have hs4 := c4.size
  have k2 := (k2.chg0 c4).chg c12 (by simp; omega)
  have k4 := k4.chg c12 (by simp; omega)
  refine Sr (Og (vl_fieldAddr fo25_2 rfl) rfl ?_)
  refine Og (vl_load ag3 rfl (k2.cell' (show _ = some (Value.int .i64 (z : Int)) by rw [← hz1]; rfl))) rfl ?_
  refine Og (vl_mul rfl rfl (by omega)) rfl ?_
  refine Og (vl_sub rfl rfl (by omega)) rfl ?_
  refine Oa rfl rfl (O_end [4, 5, 7] (F' := [(4, _), (5, _), (7, _)]) rfl (W_seq ?_))
  rw [rd_be]
  refine W_region (Om rfl rfl ?_)
  refine Og (vl_convn it2_i64 it38_u64 rfl rfl) rfl ?_
  refine Om rfl rfl ?_
  refine Og (vl_shl (64 - 8 * z) rfl rfl (by omega) (by simp only [IntKind.bits]; omega) rfl) rfl ?_
  refine Om rfl rfl ?_
  refine Og (vl_shr (64 - 8 * z) rfl rfl (by omega) (by simp only [IntKind.bits]; omega) hib) rfl ?_
  refine Og (vl_build pl40 zr40 rfl (vs := [_, _]) rfl (css := [_, _]) ⟨rfl, rfl, trivial⟩ rfl rfl (cs := [_, _, _, _]) rfl) rfl ?_
  refine O_go (gn rfl) (st_store sz40 rfl rfl rfl rfl k4 (by simp) (Val.one ⟨1, x, 0, e0⟩) ?_)
  intro wA nA cA kA
  refine O_end [4] (F' := [(4, _)]) rfl (W_ret ?_)
  refine retC rfl ag40 sz40 rfl rfl (Cells.of_blk0 kA) ?_
  have hcz : Chg [b] w wA := ((((Chg.refl [b] w).trans c2).trans c4).transS c12).trans' cA (by intro y hy; simp at hy; subst hy; right; omega)
  exact ⟨rfl, t12.chg cA (by intro y hy; simp at hy; subst hy; exact ⟨by omega, _, _, k4, rfl⟩), hcz⟩
theorem c_read4 (c : Col) (n : Nat) (t : Value) (b : Nat) (m : List UInt8) (w : World) (hz : c.s = 1 ∨ c.s = 2 ∨ c.s = 4 ∨ c.s = 8) (hx : (n : Int) < 2 ^ (8 * c.s.toNat)) (ht : IsTape w t (be n c.s.toNat ++ m) b) :
    Ret Tryz.prog 168 #[c.v, t] w fun r w' => r = (Val.mk 2 0 n e0).v ∧ IsTape w' t m b ∧ Chg [b] w w' := by
  obtain ⟨z, hz1, hz2⟩ : ∃ z : Nat, c.s = z ∧ (z = 1 ∨ z = 2 ∨ z = 4 ∨ z = 8) := ⟨c.s.toNat, by omega, by omega⟩
  rw [hz1] at ht hx
  have hn : n % 256 ^ z = n := by
    refine Nat.mod_eq_of_lt ?_
    rcases hz2 with rfl | rfl | rfl | rfl <;> simp only [Int.toNat_natCast, Nat.reduceMul, Nat.reducePow, Int.reducePow] at hx ⊢ <;> omega
  refine Ret.of_W (args := [_, _]) Tryz.func168 rfl rfl rfl rfl ?_

  refine Sr ?_
  refine O_go (gn rfl) (st_box rfl rfl rfl ?_)
  intro b2 w2 e2 n2 c2 k2
  refine O_go (gn rfl) (st_alloc zr40 rfl rfl ?_)
  intro b4 w4 e4 n4 c4 k4
  refine O_end [1, 2, 4] (F' := [(1, _), (2, _), (4, _)]) rfl (Sr (Om rfl rfl (Og (vl_fieldAddr fo25_2 rfl) rfl ?_)))
  refine Og (vl_load ag3 rfl ((k2.chg0 c4).cell' (show _ = some (Value.int .i64 (z : Int)) by rw [← hz1]; rfl))) rfl ?_
  refine O_go (gn rfl) (st_call bd165 rfl rfl rfl rfl (c_take t b _ m _ z (be_len _ _) (ht.chg0 (c2.trans c4))) ?_)
  rintro v11 w11 ⟨i11, t11, c11⟩
  refine O_go (gn rfl) (st_call bd164 rfl rfl rfl rfl (o_ReadFixed _ _ _ i11 (by rw [be_len]; omega)) ?_)
  rintro v12 w12 ⟨rfl, rfl⟩
  refine Om rfl rfl (Oe rfl rfl rfl (Oe rfl rfl rfl (Oa rfl rfl (Oa rfl rfl (O_end [4, 5] (F' := [(4, _), (5, _)]) rfl ?_)))))
  have hbl := ht.lt
  have hs2 := c2.size
  have hs4 := c4.size
  have k4 := k4.chg c11 (by simp; omega)
  refine W_seq ?_
  rw [rd_be, hn]
  refine W_region (Om rfl rfl ?_)
  refine Og (vl_buildH pl40 zr40 rfl (qs := [(0, _), (2, _)]) rfl (css := [_, _]) ⟨rfl, rfl, trivial⟩ (cs := [_, _, _, _]) rfl) rfl ?_
  refine O_go (gn rfl) (st_store sz40 rfl rfl rfl rfl k4 (by simp) (Val.one ⟨2, 0, n, e0⟩) ?_)
  intro wA nA cA kA
  refine O_end [4] (F' := [(4, _)]) rfl (W_ret ?_)
  refine retC rfl ag40 sz40 rfl rfl (Cells.of_blk0 kA) ?_
  have hcz : Chg [b] w wA := ((((Chg.refl [b] w).trans c2).trans c4).transS c11).trans' cA (by intro y hy; simp at hy; subst hy; right; omega)
  exact ⟨rfl, t11.chg cA (by intro y hy; simp at hy; subst hy; exact ⟨by omega, _, _, k4, rfl⟩), hcz⟩
theorem c_read6 (c : Col) (x : Int) (t : Value) (b : Nat) (m : List UInt8) (w : World) (hx : x = 0 ∨ x = 1) (ht : IsTape w t ([UInt8.ofNat x.toNat] ++ m) b) :
    Ret Tryz.prog 170 #[c.v, t] w fun r w' => r = (Val.mk 3 x 0 e0).v ∧ IsTape w' t m b ∧ Chg [b] w w' := by
  have hx1 : ((UInt8.ofNat x.toNat).toNat : Int) = x := by rcases hx with rfl | rfl <;> rfl
  refine Ret.of_W (args := [_, _]) Tryz.func170 rfl rfl rfl rfl ?_

  refine Sr ?_
  refine O_go (gn rfl) (st_box rfl rfl rfl ?_)
  intro b2 w2 e2 n2 c2 k2
  refine O_go (gn rfl) (st_alloc zr40 rfl rfl ?_)
  intro b4 w4 e4 n4 c4 k4
  refine O_end [1, 4] (F' := [(1, _), (4, _)]) rfl (Sr (Om rfl rfl ?_))
  refine O_go (gn rfl) (st_call bd165 rfl rfl rfl rfl (c_take t b _ m _ 1 rfl (ht.chg0 (c2.trans c4))) ?_)
  rintro v7 w7 ⟨i7, t7, c7⟩
  obtain ⟨bb, off, cap, rfl, hcell⟩ := i7.at1 (i := 0) (u := .int .u8 x) (by rcases hx with rfl | rfl <;> rfl)
  refine Og (vl_indexAddr sl132 sz5 rfl rfl 0 rfl (by simp)) rfl ?_
  refine Og (vl_load ag5 rfl hcell) rfl ?_
  refine Oa rfl rfl (O_end [4, 5] (F' := [(4, _), (5, _)]) rfl ?_)
  have hbl := ht.lt
  have hs2 := c2.size
  have hs4 := c4.size
  have k4 := k4.chg c7 (by simp; omega)
  refine Sr (Om rfl rfl ?_)
  refine Og (vl_is (b' := true) (vl_leq rfl rfl) (decide_eq_true (by omega))) rfl ?_
  refine O_go (gn rfl) (st_call bd171 rfl rfl rfl rfl (c_must _) ?_)
  rintro v12 w12 ⟨rfl, rfl⟩
  refine O_end [4, 5] (F' := [(4, _), (5, _)]) rfl (Sr (Om rfl rfl ?_))
  refine Og (vl_convn it2_i64 it5_u8 rfl (show IntKind.i64.wrap x = x by rcases hx with rfl | rfl <;> rfl)) rfl ?_
  refine Og (vl_build pl40 zr40 rfl (vs := [_, _]) rfl (css := [_, _]) ⟨rfl, rfl, trivial⟩ rfl rfl (cs := [_, _, _, _]) rfl) rfl ?_
  refine O_go (gn rfl) (st_store sz40 rfl rfl rfl rfl k4 (by simp) (Val.one ⟨3, x, 0, e0⟩) ?_)
  intro wA nA cA kA
  refine O_end [4] (F' := [(4, _)]) rfl (W_ret ?_)
  refine retC rfl ag40 sz40 rfl rfl (Cells.of_blk0 kA) ?_
  have hcz : Chg [b] w wA := ((((Chg.refl [b] w).trans c2).trans c4).transS c7).trans' cA (by intro y hy; simp at hy; subst hy; right; omega)
  exact ⟨rfl, t7.chg cA (by intro y hy; simp at hy; subst hy; exact ⟨by omega, _, _, k4, rfl⟩), hcz⟩
theorem c_got (t : Value) (b : Nat) (s : ByteArray) (m : List UInt8) (w : World) (hs : s.size ≤ 1048576) (hm : m.length ≤ 1048576) (ht : IsTape w t (textB s ++ m) b) :
    Ret Tryz.prog 176 #[t, .func (.func 177) #[] #[]] w fun r w' => r = .string s ∧ IsTape w' t m b ∧ Chg [b] w w' := by
  obtain ⟨rfl, v, hb, hv, hbv⟩ := id ht
  refine Ret.of_W (args := [_, _]) Tryz.func176 rfl rfl rfl rfl ?_

  refine Sr (Oa rfl rfl (O_end [0, 1] (F' := [(0, _), (1, _)]) rfl (Sr (Om rfl rfl (Om rfl rfl (Og (vl_nilCheck rfl) rfl (Og (vl_fieldAddr fo237_0 rfl) rfl ?_)))))))
  refine Og (vl_load ag235 rfl (hb.cell' rfl)) rfl ?_
  refine O_go (gn rfl) (st_call bd177 rfl rfl rfl rfl (o_ReadText v s m _ hs hm hv) ?_)
  rintro v14 w14 ⟨rfl, c14⟩
  refine Om rfl rfl (Oe rfl rfl rfl (Oe rfl rfl rfl (Oe rfl rfl rfl (Oa rfl rfl (Oa rfl rfl (Oa rfl rfl (O_end [0, 5, 6, 7] (F' := [(0, _), (5, _), (6, _), (7, _)]) rfl (Sr (Om rfl rfl ?_)))))))))
  refine Og (vl_is (b' := true) (vl_ieq rfl rfl) (decide_eq_true (by omega))) rfl ?_
  refine O_go (gn rfl) (st_call bd171 rfl rfl rfl rfl (c_must _) ?_)
  rintro v20 w20 ⟨rfl, rfl⟩
  refine O_end [0, 5, 6] (F' := [(0, _), (5, _), (6, _)]) rfl (Sr (Om rfl rfl (Om rfl rfl ?_)))
  refine O_go (gn rfl) (st_call bd165 rfl rfl rfl rfl (c_take _ b (textB s) m _ (textB s).length rfl (ht.chg0 c14)) ?_)
  rintro v23 w23 ⟨i23, t23, c23⟩
  refine O_end [5] (F' := [(5, _)]) rfl (Sr (Om rfl rfl (Oa rfl rfl (O_end [4] (F' := [(4, _)]) rfl (W_ret ?_)))))
  refine ret1 rfl rfl ?_
  exact ⟨rfl, t23, ((Chg.refl [b] w).trans c14).transS c23⟩
theorem c_read9 (c : Col) (s : ByteArray) (t : Value) (b : Nat) (m : List UInt8) (w : World) (hs : s.size ≤ 200) (hz : s.size ≤ c.s) (hm : m.length ≤ 1048576) (ht : IsTape w t (textB s ++ m) b) :
    Ret Tryz.prog 175 #[c.v, t] w fun r w' => r = (Val.mk 4 0 0 s).v ∧ IsTape w' t m b ∧ Chg [b] w w' := by
  refine Ret.of_W (args := [_, _]) Tryz.func175 rfl rfl rfl rfl ?_

  refine Sr ?_
  refine O_go (gn rfl) (st_box rfl rfl rfl ?_)
  intro b2 w2 e2 n2 c2 k2
  refine O_go (gn rfl) (st_alloc zr40 rfl rfl ?_)
  intro b4 w4 e4 n4 c4 k4
  refine O_end [1, 2, 4] (F' := [(1, _), (2, _), (4, _)]) rfl (Sr (Om rfl rfl ?_))
  refine O_go (gn rfl) (st_call bd176 rfl rfl rfl rfl (c_got t b s m _ (by omega) hm (ht.chg0 (c2.trans c4))) ?_)
  rintro v7 w7 ⟨rfl, t7, c7⟩
  refine Oa rfl rfl (O_end [2, 4, 5] (F' := [(2, _), (4, _), (5, _)]) rfl ?_)
  have hbl := ht.lt
  have hs2 := c2.size
  have hs4 := c4.size
  have k2 := (k2.chg0 c4).chg c7 (by simp; omega)
  have k4 := k4.chg c7 (by simp; omega)
  refine Sr (Om rfl rfl ?_)
  refine Og (vl_slen st9 rfl) rfl ?_
  refine Og (vl_fieldAddr fo25_2 rfl) rfl ?_
  refine Og (vl_load ag3 rfl (k2.cell' rfl)) rfl ?_
  refine Og (vl_is (b' := true) (vl_leq rfl rfl) (decide_eq_true (by omega))) rfl ?_
  refine O_go (gn rfl) (st_call bd171 rfl rfl rfl rfl (c_must _) ?_)
  rintro v13 w13 ⟨rfl, rfl⟩
  refine O_end [4, 5] (F' := [(4, _), (5, _)]) rfl (Sr (Om rfl rfl ?_))
  refine Og (vl_buildH pl40 zr40 rfl (qs := [(0, _), (3, _)]) rfl (css := [_, _]) ⟨rfl, rfl, trivial⟩ (cs := [_, _, _, _]) rfl) rfl ?_
  refine O_go (gn rfl) (st_store sz40 rfl rfl rfl rfl k4 (by simp) (Val.one ⟨4, 0, 0, s⟩) ?_)
  intro wA nA cA kA
  refine O_end [4] (F' := [(4, _)]) rfl (W_ret ?_)
  refine retC rfl ag40 sz40 rfl rfl (Cells.of_blk0 kA) ?_
  have hcz : Chg [b] w wA := ((((Chg.refl [b] w).trans c2).trans c4).transS c7).trans' cA (by intro y hy; simp at hy; subst hy; right; omega)
  exact ⟨rfl, t7.chg cA (by intro y hy; simp at hy; subst hy; exact ⟨by omega, _, _, k4, rfl⟩), hcz⟩
end Go.Wk

namespace Go.Wk
open Go.Proofs
set_option maxRecDepth 10000

theorem cread_some {c : Col} {x : Val} (h : fitsN c x = 0) (hk : x.k ≠ 0) : ∃ f g k, kget cKinds c.t = some (kind3 f g k) ∧ bodied Tryz.prog g = true ∧ ∀ w t b m, m.length ≤ 1048576 → IsTape w t (layV c x ++ m) b → Ret Tryz.prog g #[c.v, t] w fun r w' => r = x.v ∧ IsTape w' t m b ∧ Chg [b] w w' := by
  obtain ⟨hr, hc, _, h2⟩ := fits_parts h
  obtain ⟨hkt, hw⟩ := h2 hk
  obtain ⟨hf, hb⟩ := chk_ok hc
  obtain ⟨_, hbr, hm⟩ := fine_parts hf
  obtain ⟨s1, s2, s3, s4⟩ := right_size hr
  obtain ⟨k, i, u, by'⟩ := x
  unfold layV
  simp only [wideN] at hw
  simp only [bareN, Val.mk.injEq] at hbr
  rcases s4 with e | e | e | e <;> simp only [e, ↓reduceIte, Int.reduceEq] <;> simp only [e, ↓reduceIte, Int.reduceEq, decide_eq_false_iff_not] at hw hkt <;> subst hkt <;> simp at hbr <;> (try obtain ⟨h1, h2⟩ := hbr) <;> subst_vars
  · exact ⟨_, _, _, rfl, bd163, fun w t b m _ ht => c_read2 c i t b m w (s1 (.inl e)) (by omega) ht⟩
  · exact ⟨_, _, _, rfl, bd168, fun w t b m _ ht => c_read4 c u t b m w (s1 (.inr e)) (by omega) ht⟩
  · exact ⟨_, _, _, rfl, bd170, fun w t b m _ ht => c_read6 c i t b m w (hm rfl) ht⟩
  · exact ⟨_, _, _, rfl, bd175, fun w t b m hl ht => c_read9 c by' t b m w hb (by omega) hl ht⟩
theorem encR_drop {cs : List Col} {xs : List Val} {j : Nat} {c : Col} {x : Val} (hc : cs[j]? = some c) (hx : xs[j]? = some x) : encR (cs.drop j) (xs.drop j) = encV c x ++ encR (cs.drop (j + 1)) (xs.drop (j + 1)) := by
  obtain ⟨h1, rfl⟩ := List.getElem?_eq_some_iff.1 hc
  obtain ⟨h2, rfl⟩ := List.getElem?_eq_some_iff.1 hx
  rw [List.drop_eq_getElem_cons h1, List.drop_eq_getElem_cons h2]
  rfl
theorem fitsL_drop : ∀ {cs : List Col} {xs : List Val} (j : Nat), fitsL cs xs = 0 → fitsL (cs.drop j) (xs.drop j) = 0
  | _, _, 0, h => by simpa using h
  | [], _, _ + 1, _ => by simp [fitsL]
  | _ :: _, [], _ + 1, _ => by simp [fitsL]
  | c :: cs, x :: xs, j + 1, h => by
    unfold fitsL at h
    by_cases h1 : fitsN c x = 0
    · rw [if_neg (by simp [h1])] at h
      exact fitsL_drop j h
    · rw [if_pos h1] at h; exact absurd h h1
theorem IsTape.chgSl {w w' : World} {t o : Value} {l : List UInt8} {b e k n : Nat} {xs : List Value} (h : IsTape w t l b) (ho : IsSl w e k o n xs) (h1 : Nat.beq 5 e = false) (h2 : Nat.beq e 237 = false) (hc : Chg (blkOf o) w w') : IsTape w' t l b := by
  refine h.chg hc fun y hy => ?_
  obtain ⟨_, v, hb, _⟩ := h
  rcases ho with ⟨rfl, _⟩ | ⟨b', off, cap, c, rfl, hs⟩
  · simp [blkOf] at hy
  · simp [blkOf] at hy
    subst hy
    exact ⟨hs.blk.ne hb h2, _, _, hs.blk, h1⟩
theorem IsTape.nl {w : World} {t : Value} {l : List UInt8} {b : Nat} (h : IsTape w t l b) : Nl w [b] := by
  obtain ⟨_, v, hb, hv, _⟩ := h
  obtain ⟨p, c, rfl, _⟩ := hv.val
  exact Nl.one hb (by intro u hu; simp at hu; subst hu; rfl)
theorem c_row (c k u t : Value) (s : Sch) (l : List Val) (b : Nat) (w : World) (hs : IsSch w c k u s) (hr : rowN s l = 0) (ht : IsTape w t (encR s.cols l) b) :
    Ret Tryz.prog 142 #[t, .agg #[c, k, u]] w fun r w' => IsValsS w' r l ∧ (∀ y ∈ blkOf r, w.heap.size ≤ y) ∧ IsTape w' t [] b ∧ Chg [b] w w' := by
  obtain ⟨hrs, hlen, hfit⟩ := rowN_ok hr
  have h8 := (right_parts hrs).1
  have hbl := ht.lt
  obtain ⟨pc, cc, rfl, hcc⟩ := Arr.val hs.cols
  refine Ret.of_W (args := [_, _]) Tryz.func142 rfl rfl rfl rfl ?_

  refine Sr ?_
  refine O_go (gn rfl) (st_box rfl rfl rfl ?_)
  intro b3 w3 e3 n3 c3 k3
  refine Oa rfl rfl (O_end [0, 3, 4] (F' := [(0, _), (3, _), (4, _)]) rfl (W_seq (Sr (Og (vl_fieldAddr fo30_0 rfl) rfl ?_))))
  refine Og (vl_load ag26 rfl (k3.cell' rfl)) rfl ?_
  refine Og (vl_len sl26 rfl) rfl (Om rfl rfl (O_end [0, 4, 10, 11, 12] (F' := [(0, _), (4, _), (10, _), (11, _), (12, _)]) rfl (W_block ?_)))
  refine W_loop [0, 4, 10, 11, 12] (fun m F wx => ∃ (j : Nat) (o : Value), m = s.cols.length - j ∧ j ≤ s.cols.length ∧ F = [(0, t), (4, o), (10, .slice pc s.cols.length cc), (11, .int .i64 s.cols.length), (12, .int .i64 j)] ∧ ArrS wx 40 4 Val.cs o (l.take j) ∧ (∀ b ∈ blkOf o, w3.heap.size ≤ b) ∧ IsTape wx t (encR (s.cols.drop j) (l.drop j)) b ∧ Chg [b] w3 wx) (m := s.cols.length - 0) ⟨0, _, rfl, Nat.zero_le _, rfl, IsSl.nil _ _ _, by simp [blkOf], ht.chg0 c3, Chg.refl _ _⟩ ?_
  rintro m F wx ⟨j, o, rfl, hj, rfl, ho, hfo, htx, hcx⟩
  refine Sr (Og (vl_lss rfl rfl) rfl (O_end [0, 4, 10, 11, 12, 13] (F' := [(0, _), (4, _), (10, _), (11, _), (12, _), (13, _)]) rfl (W_seq ?_)))
  refine W_cond rfl (fun hT => ?_) (fun hF => ?_)
  · refine W_skipE ?_
    have hlt : j < s.cols.length := by have := of_decide_eq_true hT; omega
    have hx : l[j]? = some (l[j]'(by omega)) := by simp [hlt, hlen]
    have hy : s.cols[j]? = some s.cols[j] := by simp [hlt]
    generalize l[j]'(by omega) = x at hx
    generalize s.cols[j] = y at hy
    have hfy := fitsL_at hfit hy hx
    have hel := encV_len hfy
    have hrl := encR_len (fitsL_drop (j + 1) hfit)
    rw [List.length_drop] at hrl
    rw [encR_drop hy hx] at htx
    have htl : (l.take j).length = j := by rw [List.length_take]; omega
    have hcols : IsCols wx (.slice pc s.cols.length cc) s.cols := Arr.chgC (Arr.chg0 hs.cols c3) hcx ccs_lit (ht.chg0 c3).nl
    obtain ⟨bc, offc, capc, hvc, hcellc⟩ := Arr.at ccs_len hcols hy
    cases hvc
    refine W_seq (W_block (Sr ?_))
    refine Og (vl_indexAddr sl26 sz25 rfl rfl _ rfl hlt) rfl ?_
    refine Og (vl_loadAgg ag25 sz25 rfl rfl hcellc) rfl ?_
    refine O_go (gn rfl) (st_alloc zr25 rfl rfl ?_)
    intro b6 w6 e6 n6 c6 k6
    refine O_go (gn rfl) (st_store sz25 rfl rfl rfl rfl k6 (by simp [Col.cs]) (Col.one y) ?_)
    intro wA nA cA kA
    refine O_end [0, 4, 6, 10, 11, 12] (F' := [(0, _), (4, _), (6, _), (10, _), (11, _), (12, _)]) rfl ?_
    have kA : Blk wA b6 25 y.cs := kA
    have hcA : Chg [] wx wA := c6.own cA (by intro y hy; simp at hy; omega)
    have hbx := htx.lt
    have hob : ∀ z ∈ blkOf o, z ∉ [b] := by
      obtain ⟨_, v, hv, _⟩ := htx
      exact IsSl.apart ho hv rfl
    refine W_seq ?_
    by_cases hk : x.k = 0
    · rw [show encV y x = [0] by simp [encV, hk]] at htx
      have hyz : y.z = true := (fits_parts hfy).2.2.1 hk
      refine W_region (Om rfl rfl ?_)
      refine O_go (gn rfl) (st_call bd165 rfl rfl rfl rfl (c_take t b [0] _ _ 1 rfl (htx.chg0 hcA)) ?_)
      rintro v17 w17 ⟨i17, t17, c17⟩
      obtain ⟨bb, off, cap, rfl, hcell⟩ := i17.at1 (i := 0) (u := .int .u8 0) rfl
      refine Og (vl_indexAddr sl132 sz5 rfl rfl 0 rfl (by simp)) rfl ?_
      refine Og (vl_load ag5 rfl hcell) rfl ?_
      refine Oa rfl rfl (O_end [0, 4, 6, 7, 10, 11, 12] (F' := [(0, _), (4, _), (6, _), (7, _), (10, _), (11, _), (12, _)]) rfl ?_)
      have kA := kA.chg c17 (by simp; omega)
      refine Sr (Om rfl rfl ?_)
      refine Og (vl_is (b' := false) (vl_ieq rfl rfl) (decide_eq_false (by omega))) rfl ?_
      refine Om rfl rfl ?_
      refine Oy rfl rfl (vl_move rfl) rfl ?_
      refine Oy rfl rfl (vl_is (b' := true) (vl_ieq rfl rfl) (decide_eq_true (by omega))) rfl ?_
      refine Oy rfl rfl (vl_move rfl) rfl ?_
      refine Oy rfl rfl (vl_fieldAddr fo25_3 rfl) rfl ?_
      refine Oy rfl rfl (vl_load ag4 rfl (kA.cell' (show _ = some (Value.bool true) by rw [← hyz]; rfl))) rfl ?_
      refine Oy rfl rfl (vl_pick_t rfl rfl) rfl ?_
      refine Of rfl rfl rfl ?_
      refine O_go (gn rfl) (st_call bd171 rfl rfl rfl rfl (c_must _) ?_)
      rintro v30 w30 ⟨rfl, rfl⟩
      refine O_end [0, 4, 6, 7, 10, 11, 12] (F' := [(0, _), (4, _), (6, _), (7, _), (10, _), (11, _), (12, _)]) rfl (Sr ?_)
      refine O_go (gn rfl) (st_alloc zr40 rfl rfl ?_)
      intro b8 w8 e8 n8 c8 k8
      refine O_end [0, 4, 6, 7, 8, 10, 11, 12] (F' := [(0, _), (4, _), (6, _), (7, _), (8, _), (10, _), (11, _), (12, _)]) rfl (W_seq (Sr (Om rfl rfl ?_)))
      refine Og (vl_is (b' := false) (vl_ieq rfl rfl) (decide_eq_false (by omega))) rfl ?_
      refine O_end [0, 4, 6, 8, 10, 11, 12, 32] (F' := [(0, _), (4, _), (6, _), (8, _), (10, _), (11, _), (12, _), (32, _)]) rfl (W_cond_false rfl (W_skipE ?_))
      have ho30 : ArrS w30 40 4 Val.cs o (l.take j) := ArrS.chg (ArrS.chg0 ho hcA) c17 hob
      have hnull : x = Val.null := by
        obtain ⟨k, i, u, by'⟩ := x
        have := (fine_parts (chk_ok (fits_parts hfy).2.1).1).2.1
        simp only at hk
        subst hk
        simpa [bareN, Val.null] using this
      subst hnull
      have k8 : Blk w8 b8 40 Val.null.cs := k8
      have hcB : Chg [b] wx w8 := ((Chg.refl [b] wx).trans hcA).transS c17 |>.trans c8
      refine W_region (Om rfl rfl ?_)
      refine Og (vl_loadAgg ag40 sz40 rfl rfl (Cells.of_blk0 k8)) rfl ?_
      refine O_go (gn rfl) (st_buildSlice ap48 rfl (vs := [_]) rfl (css := [_]) ⟨rfl, trivial⟩ rfl rfl (cs := [_, _, _, _]) rfl rfl ?_)
      intro b43 w43 e43 n43 c43 k43
      refine O_go (gn rfl) (st_append ap48 sl48 rfl rfl (ArrS.chg0 (ArrS.chg0 ho30 c8) c43) (IsSl.of_blk (n := 1) k43 rfl (by simp [maxLen]) (Val.one _)) (by simp only [maxLen]; omega) (by omega) rfl ?_)
      intro v44 w44 i44 c44 o44 z44
      refine Oa rfl rfl ?_
      refine O_endN [0, 4, 10, 11, 12] (F' := [(0, _), (4, _), (10, _), (11, _), (12, _)]) rfl ?_
      refine block_normal ?_
      have hs0 := hcx.size
      have hs1 := hcB.size
      have hs3 := c43.size
      have hwz := hcx.trans' ((((Chg.refl (blkOf o ++ [b]) wx).trans' hcB (by simp)).trans c43).trans' c44 (fun z hz => .inl (by simp [hz]))) (by
        intro z hz
        rcases List.mem_append.1 hz with hz | hz
        · exact .inr (hfo z hz)
        · exact .inl hz)
      refine W_region ?_
      refine Og (vl_add rfl rfl (by omega)) rfl ?_
      refine Om rfl rfl ?_
      refine O_endN [0, 4, 10, 11, 12] (F' := [(0, _), (4, _), (10, _), (11, _), (12, _)]) rfl ?_
      refine ⟨s.cols.length - (j + 1), by omega, j + 1, v44, rfl, by omega, rfl, ?_, fresh_of o44 hfo (by omega), ?_, hwz⟩
      · rw [List.take_add_one, hx]
        exact Arr.push i44 rfl rfl
      · exact ((t17.chg0 c8).chg0 c43).chgSl (IsSl.chg0 (IsSl.chg0 ho30 c8) c43) rfl rfl c44
    · rw [show encV y x = 1 :: layV y x by simp [encV, hk]] at htx
      refine W_region (Om rfl rfl ?_)
      refine O_go (gn rfl) (st_call bd165 rfl rfl rfl rfl (c_take t b [1] _ _ 1 rfl (htx.chg0 hcA)) ?_)
      rintro v17 w17 ⟨i17, t17, c17⟩
      obtain ⟨bb, off, cap, rfl, hcell⟩ := i17.at1 (i := 0) (u := .int .u8 1) rfl
      refine Og (vl_indexAddr sl132 sz5 rfl rfl 0 rfl (by simp)) rfl ?_
      refine Og (vl_load ag5 rfl hcell) rfl ?_
      refine Oa rfl rfl (O_end [0, 4, 6, 7, 10, 11, 12] (F' := [(0, _), (4, _), (6, _), (7, _), (10, _), (11, _), (12, _)]) rfl ?_)
      have kA := kA.chg c17 (by simp; omega)
      refine Sr (Om rfl rfl ?_)
      refine Og (vl_is (b' := true) (vl_ieq rfl rfl) (decide_eq_true (by omega))) rfl ?_
      refine Om rfl rfl (Oz rfl rfl rfl rfl (Oz rfl rfl rfl rfl (Oz rfl rfl rfl rfl ?_)))
      refine O_guard_un rfl rfl rfl rfl rfl ?_
      refine O_guard_un rfl rfl rfl rfl rfl ?_
      refine Oz rfl rfl rfl rfl (Ot rfl rfl rfl ?_)
      refine O_go (gn rfl) (st_call bd171 rfl rfl rfl rfl (c_must _) ?_)
      rintro v30 w30 ⟨rfl, rfl⟩
      refine O_end [0, 4, 6, 7, 10, 11, 12] (F' := [(0, _), (4, _), (6, _), (7, _), (10, _), (11, _), (12, _)]) rfl (Sr ?_)
      refine O_go (gn rfl) (st_alloc zr40 rfl rfl ?_)
      intro b8 w8 e8 n8 c8 k8
      refine O_end [0, 4, 6, 7, 8, 10, 11, 12] (F' := [(0, _), (4, _), (6, _), (7, _), (8, _), (10, _), (11, _), (12, _)]) rfl (W_seq (Sr (Om rfl rfl ?_)))
      refine Og (vl_is (b' := true) (vl_ieq rfl rfl) (decide_eq_true (by omega))) rfl ?_
      refine O_end [0, 4, 6, 8, 10, 11, 12, 32] (F' := [(0, _), (4, _), (6, _), (8, _), (10, _), (11, _), (12, _), (32, _)]) rfl (W_cond_true rfl ?_)
      obtain ⟨f, g, q, hgk, hbf, hread⟩ := cread_some hfy hk
      have hsz := (((Chg.refl [b] wx).trans hcA).transS c17).size
      have kA := kA.chg0 c8
      refine W_draw (fun wz => Chg [] w8 wz) mix (by kernel_rfl) (Chg.drew [] _) ?_
      refine t_st rfl (gn rfl) (st_call bd133 rfl rfl rfl rfl (c_kinds _) ?_)
      rintro v33 w33 ⟨b33, rfl, h33, k33, c33⟩
      refine ⟨.inl ((Chg.drew [] _).trans c33), ?_⟩
      refine t_pure rfl (gn rfl) (fun _ => vl_fieldAddr fo25_1 rfl) rfl rfl ?_
      refine t_read rfl (gn rfl) (fun wz hz => vl_load ag23 rfl ((kA.chg0 hz).cell' rfl)) rfl rfl ?_
      refine t_st rfl (gn rfl) (St.vl (vl_lookK1v (κ := intK .i64) mp221 (itOf_und it23_i64) zr220 rfl rfl k33 hgk rfl) rfl rfl ?_)
      refine ⟨.inl ((Chg.drew [] _).trans c33), ?_⟩
      refine t_pure rfl (gn rfl) (fun _ => vl_field1 fp220_1 rfl rfl) rfl rfl ?_
      refine t_read rfl (gn rfl) (fun wz hz => vl_loadAgg ag25 sz25 rfl rfl (Cells.of_blk0 (kA.chg0 hz))) rfl rfl ?_
      refine Tm rfl rfl ?_
      refine t_st rfl (gn rfl) (st_call hbf rfl rfl rfl rfl (hread _ t b _ (by omega) (t17.chg0 ((c8.trans (Chg.drew [] _)).trans c33))) ?_)
      rintro v40 w40 ⟨rfl, t40, c40⟩
      refine ⟨.inr (by kernel_rfl), ?_⟩
      refine t_st rfl (gn rfl) (st_store sz40 rfl rfl rfl rfl (((k8.chg0 (Chg.drew [] _)).chg0 c33).chg c40 (by simp; omega)) (by simp [Val.cs]) (Val.one x) ?_)
      intro wB nB cB kB
      refine ⟨.inr (by kernel_rfl), ?_⟩
      refine T_end [0, 4, 8, 10, 11, 12] (F' := [(0, _), (4, _), (8, _), (10, _), (11, _), (12, _)]) rfl ?_
      have kB : Blk wB b8 40 x.cs := kB
      have hcB : Chg [b] wx w8 := ((Chg.refl [b] wx).trans hcA).transS c17 |>.trans c8
      have hs0 := hcx.size
      have hs1 := hcB.size
      have hs2 := c33.size
      have hs3 := c40.size
      have hcD : Chg [b] wx wB := (((hcB.trans (Chg.drew [] _)).trans c33).transS c40).trans' cB (by intro z hz; simp at hz; subst hz; right; omega)
      have hoB : ArrS wB 40 4 Val.cs o (l.take j) := ArrS.chg ho hcD hob
      refine W_region (Om rfl rfl ?_)
      refine Og (vl_loadAgg ag40 sz40 rfl rfl (Cells.of_blk0 kB)) rfl ?_
      refine O_go (gn rfl) (st_buildSlice ap48 rfl (vs := [_]) rfl (css := [_]) ⟨rfl, trivial⟩ rfl rfl (cs := [_, _, _, _]) rfl rfl ?_)
      intro b43 w43 e43 n43 c43 k43
      refine O_go (gn rfl) (st_append ap48 sl48 rfl rfl (ArrS.chg0 hoB c43) (IsSl.of_blk (n := 1) k43 rfl (by simp [maxLen]) (Val.one _)) (by simp only [maxLen]; omega) (by omega) rfl ?_)
      intro v44 w44 i44 c44 o44 z44
      refine Oa rfl rfl ?_
      refine O_endN [0, 4, 10, 11, 12] (F' := [(0, _), (4, _), (10, _), (11, _), (12, _)]) rfl ?_
      refine block_normal ?_
      have hs4 := c43.size
      have hs5 := hcD.size
      have hwz := hcx.trans' ((((Chg.refl (blkOf o ++ [b]) wx).trans' hcD (by simp)).trans c43).trans' c44 (fun z hz => .inl (by simp [hz]))) (by
        intro z hz
        rcases List.mem_append.1 hz with hz | hz
        · exact .inr (hfo z hz)
        · exact .inl hz)
      refine W_region ?_
      refine Og (vl_add rfl rfl (by omega)) rfl ?_
      refine Om rfl rfl ?_
      refine O_endN [0, 4, 10, 11, 12] (F' := [(0, _), (4, _), (10, _), (11, _), (12, _)]) rfl ?_
      refine ⟨s.cols.length - (j + 1), by omega, j + 1, v44, rfl, by omega, rfl, ?_, fresh_of o44 hfo (by omega), ?_, hwz⟩
      · rw [List.take_add_one, hx]
        exact Arr.push i44 rfl rfl
      · have tB : IsTape wB t _ b := t40.chg cB (by intro z hz; simp at hz; subst hz; exact ⟨by omega, _, _, (((k8.chg0 (Chg.drew [] _)).chg0 c33).chg c40 (by simp; omega)), rfl⟩)
        exact (tB.chg0 c43).chgSl (IsSl.chg0 hoB c43) rfl rfl c44
  · refine W_exit ?_
    repeat (first | refine then_exit ?_ | refine blockF_other rfl ?_)
    refine blockF_exit _ ?_
    have he : s.cols.length ≤ j := by have := of_decide_eq_false hF; omega
    rw [List.take_of_length_le (by omega)] at ho
    rw [List.drop_eq_nil_of_le he] at htx
    refine Sr (Om rfl rfl (Oa rfl rfl (O_end [4] (F' := [(4, _)]) rfl (W_ret ?_))))
    refine ret1 rfl rfl ?_
    have hs1 := c3.size
    exact ⟨ho, fun b hb => Nat.le_trans hs1 (hfo b hb), htx, ((Chg.refl [b] w).trans c3).transS hcx⟩
end Go.Wk
