/- joined texts -/
import Derived.Test.YtcnkdoecfljnlaaGreatDoorQ7
set_option linter.all false
namespace Go.Wk
open Go.Proofs
set_option maxRecDepth 10000
def zfm (c : List UInt8) (left : Int) : List UInt8 := c ++ List.replicate (8 - c.length) 0 ++ [if 0 < left then 9 else UInt8.ofNat c.length]
def zeL (l : List UInt8) (st : List UInt8 × Int) (x : Nat) : List UInt8 × Int :=
 (st.1 ++ zfm ((l.drop (8 * x)).take 8) (st.2 - ((l.drop (8 * x)).take 8).length), st.2 - ((l.drop (8 * x)).take 8).length)
def zdB (l : List UInt8) (pre : List Nat) : List UInt8 × Int := pre.foldl (zeL l) ([], (l.length : Int))
theorem zel (l : List UInt8) (pre : List Nat) (x : Nat) : zdB l (pre ++ [x]) = zeL l (zdB l pre) x := by simp [zdB]
theorem zkF (l : List UInt8) : ∀ (pre : List Nat) (n : Nat) (st : List UInt8 × Int), (-(8 * (n : Int)) ≤ st.2 ∧ st.2 ≤ l.length ∧ st.1.length = 9 * n) →
 -(8 * ((n + pre.length : Nat) : Int)) ≤ (pre.foldl (zeL l) st).2 ∧ (pre.foldl (zeL l) st).2 ≤ l.length ∧ (pre.foldl (zeL l) st).1.length = 9 * (n + pre.length)
 | [], n, st, h => h
 | x :: pre, n, st, h => by
  have hc : ((l.drop (8 * x)).take 8).length ≤ 8 := by rw [List.length_take]; omega
  have := zkF l pre (n + 1) (zeL l st x) (by
   simp only [zeL, zfm, List.length_append, List.length_replicate, List.length_cons, List.length_nil]
   omega)
  rw [List.foldl_cons, List.length_cons, show n + (pre.length + 1) = n + 1 + pre.length by omega]
  exact this
theorem zkh (l : List UInt8) (pre : List Nat) : -(8 * (pre.length : Int)) ≤ (zdB l pre).2 ∧ (zdB l pre).2 ≤ l.length ∧ (zdB l pre).1.length = 9 * pre.length := by
 have := zkF l pre 0 ([], (l.length : Int)) (by simp)
 rw [Nat.zero_add] at this
 exact this
theorem zlA (l : List UInt8) : ∀ j : Nat, 8 * j < l.length → (zdB l (List.range j)).1 ++ zc1 (l.drop (8 * j)) = zc1 l ∧ (zdB l (List.range j)).2 = (l.length : Int) - 8 * j := by
 intro j
 induction j with
 | zero => intro _; simp [zdB]
 | succ j ih =>
  intro h
  obtain ⟨h1, h2⟩ := ih (by omega)
  have hc : ((l.drop (8 * j)).take 8).length = 8 := by rw [List.length_take, List.length_drop]; omega
  rw [List.range_succ, zel]
  simp only [zeL, zfm, hc, h2]
  refine ⟨?_, by omega⟩
  rw [← h1, zed (l := l.drop (8 * j)) (by rw [List.length_drop]; omega), List.drop_drop, if_pos (by omega)]
  simp [Nat.mul_add]
theorem zim {l : List UInt8} (h : l ≠ []) : (zdB l (List.range ((l.length + 7) / 8))).1 = zc1 l := by
 have hl := List.length_pos_iff.2 h
 obtain ⟨j, hj⟩ : ∃ j, (l.length + 7) / 8 = j + 1 := ⟨(l.length + 7) / 8 - 1, by omega⟩
 obtain ⟨h1, h2⟩ := zlA l j (by omega)
 rw [hj, List.range_succ, zel]
 have hc : (l.drop (8 * j)).take 8 = l.drop (8 * j) := List.take_of_length_le (by rw [List.length_drop]; omega)
 have hlen : (l.drop (8 * j)).length = l.length - 8 * j := List.length_drop
 simp only [zeL, hc, h2, zfm]
 rw [← h1, zdd (l := l.drop (8 * j)) (by omega)]
 congr 1
 unfold zjj
 rw [if_neg (by omega)]
theorem ztl (x : zN) (w : World) (hx : x.b.size ≤ 1048576) : z0 TP 204 #[x.v] w fun r w' => zcE w' r (zc1 x.b.data.toList) ∧ (∀ b ∈ zn r, w.heap.size ≤ b) ∧ zj [] w w' := by
 have hsz : x.b.data.toList.length = x.b.size := by simp
 refine z0.of_WM (args := [_]) Tryz.func204 rfl rfl rfl rfl ?_
 refine Sr ?_
 refine Ob rfl rfl ?_
 intro b1 w1 e1 n1 c1 k1
 refine zC (gn rfl) (zG zv4 rfl rfl ?_)
 intro b2 w2 e2 n2 c2 k2
 refine E2 1 2 rfl (Sr (Od zaE rfl ?_))
 refine Ol ag9 rfl ((k1.chg0 c2).cell' rfl) ?_
 refine Og (yN st9 rfl) rfl ?_
 refine zC (gn rfl) (zG zr3 rfl rfl ?_)
 intro b3 w3 e3 n3 c3 k3
 refine zC (gn rfl) (zv sz3 rfl rfl rfl rfl k3 (by simp) (by intro u hu; simp at hu; subst hu; rfl) ?_)
 intro wA nA cA kA
 refine E3 1 2 3 rfl ?_
 have hcA : zj [] w wA := ((c1.trans c2).trans c3).own cA (by intro y hy; simp at hy; omega)
 have hk1 := ((k1.chg0 c2).chg0 c3).chg cA (by simp; omega)
 have hk2 := (k2.chg0 c3).chg cA (by simp; omega)
 have hk3 : zQ wA b3 3 [Ii x.b.size] := kA
 refine ye (fun F wx => ∃ (D : Nat) (f12 : Value), F = [(1000000, Ii D), (2, Pt b2), (3, Pt b3), (12, f12)] ∧ w.heap.size ≤ D ∧ wx.heap[D]? = some (.deferred (some [])) ∧ w.heap.size ≤ b2 ∧ ∃ u, zQ wx b2 132 [u] ∧ zcE wx u (if x.b.size = 0 then [] else zc1 x.b.data.toList) ∧ (∀ b ∈ zn u, w.heap.size ≤ b) ∧ zj [] w wx) ?_ ?_
 ·refine Sr (Od zaE rfl ?_)
  refine Ol ag9 rfl (hk1.cell' rfl) ?_
  refine zC (gn rfl) (zkL st9 yR zap rfl (by simp only [maxLen]; omega) rfl ?_)
  intro b11 q11 w11 e11 c11 g11 i11
  refine Oc zt5 rfl rfl rfl (zqr _ _) ?_
  rintro v12 w12 ⟨p2, p3, rfl, kp2, kp3, hp2, hp3, c12⟩
  refine E3 2 3 12 rfl ?_
  have kp2 : zQ w12 p2 132 [.slice (some ⟨b11, 0, none⟩) x.b.size q11] := kp2
  have hk2 := (hk2.chg0 c11).chg0 c12
  have hk3 := (hk3.chg0 c11).chg0 c12
  have hby := i11.chg0 c12
  have hc12 : zj [] w w12 := (hcA.trans c11).trans c12
  have hs11 := c11.size
  have hs12 := c12.size
  have hsA := cA.size
  refine zq ?_
  generalize hl : x.b.data.toList = l at *
  refine zhT (α := Nat) (gf := 269) (lb := [Pt p2, Pt p3]) (encs := fun j : Nat => #[chV b11 x.b.size j]) (S0 := [b2, b3]) (keep := fun _ => false) (N := (x.b.size + 7) / 8)
   (fun pre W => ∃ u, zQ W b2 132 [u] ∧ zcE W u (zdB l pre).1 ∧ zQ W b3 3 [Ii (zdB l pre).2] ∧ (∀ b ∈ zn u, w12.heap.size ≤ b) ∧ zj [b2, b3] w12 W ∧ w12.heap.size ≤ W.heap.size)
   (fun _ _ _ => False)
   (fun j => [(13, chV b11 x.b.size j), (2, Pt b2), (3, Pt b3), (12, .func (.func 269) #[] #[Pt p2, Pt p3])])
   (fun j => [(2, Pt b2), (3, Pt b3), (4, chV b11 x.b.size j), (13, chV b11 x.b.size j)])
   rfl zuA (zvd w12 p2 p3 b11 x.b.size q11 [b2, b3] _ kp2 kp3 g11 hx ?_ ?_) (fun _ => rfl) (fun _ _ _ _ h => h) (fun _ _ _ _ h => h) (fun _ _ _ _ h => h) ?_ (fun _ _ _ _ _ h => h.elim) ?_ (fun _ _ h => h.choose_spec.2.2.2.2.2) ?_ ?_ ?_ ?_ (fun _ _ _ _ _ _ h => h.elim)
  ·simp; omega
  ·simp; omega
  ·rintro pre W W' hk ⟨u, h1, h2, h3, h4, h5, h6⟩
   exact ⟨u, h1.bk hk, zu.bk h2 hk, h3.bk hk, h4, h5.bk (Nat.le_refl _) hk, by obtain ⟨T, _, hc⟩ := hk; exact Nat.le_trans h6 hc.size⟩
  ·exact ⟨_, hk2, zu.nil _ _ _, by simpa [zdB, hsz] using hk3, by simp [zn], zj.refl _ _, Nat.le_refl _⟩
  ·intro j a ha
   exact ha.vars1 rfl rfl
  ·intro l' j W
   refine zaf ?_
   refine yO (gn rfl) rfl (St.vl (yh rfl) rfl rfl ?_)
   refine zgi [2, 3, 4, 13] (F' := [(2, _), (3, _), (4, _), (13, _)]) rfl ?_
   exact ⟨rfl, rfl, rfl⟩
  ·rintro l' pre j W ⟨u, hb2, hu, hb3, hfu, hcW, hsW⟩ hlt hlen
   have hsl : l.length = x.b.size := hsz
   have hch : 8 * j + chN x.b.size j ≤ x.b.size := by unfold chN; omega
   have hch8 : chN x.b.size j ≤ 8 := by unfold chN; omega
   have hchv : ∃ pj cj, chV b11 x.b.size j = .slice pj (chN x.b.size j) cj := ⟨_, _, by unfold chV; rw [show cut (some ⟨b11, 0, none⟩) (8 * j) (8 * j + chN x.b.size j) (8 * j + chN x.b.size j) 1 = .slice _ (8 * j + chN x.b.size j - 8 * j) (8 * j + chN x.b.size j - 8 * j) from rfl, Nat.add_sub_cancel_left]⟩
   have hbyW := hby.chg hcW (by intro b hb hm; simp [zn] at hb; subst hb; simp at hm; omega)
   have hcut : zaA W 5 1 (chV b11 x.b.size j) (chN x.b.size j) (bv ((l.drop (8 * j)).take (chN x.b.size j))) := by
    have := hbyW.cut (l := 8 * j) (h := 8 * j + chN x.b.size j) (m := 8 * j + chN x.b.size j) (by omega) (Nat.le_refl _) (by omega) hch
    rw [Nat.add_sub_cancel_left] at this
    unfold chV
    simpa [bv, List.map_drop, List.map_take] using this
   have hcl : ((l.drop (8 * j)).take 8).length = chN x.b.size j := by rw [List.length_take, List.length_drop, hsl]; unfold chN; omega
   have hct : (l.drop (8 * j)).take (chN x.b.size j) = (l.drop (8 * j)).take 8 := by
    rcases Nat.lt_or_ge (x.b.size - 8 * j) 8 with h8 | h8
    ·rw [show chN x.b.size j = x.b.size - 8 * j by unfold chN; omega, List.take_of_length_le (by rw [List.length_drop]; omega), List.take_of_length_le (by rw [List.length_drop]; omega)]
    rw [show chN x.b.size j = 8 by unfold chN; omega]
   rw [hct] at hcut
   obtain ⟨hg1, hg2, hg3⟩ := zkh l pre
   generalize hc8 : (l.drop (8 * j)).take 8 = c at *
   generalize hn : chN x.b.size j = n at *
   obtain ⟨pj, cj, hchv⟩ := hchv
   rw [hchv] at hcut ⊢
   generalize hgl : (zdB l pre).2 = left at *
   refine zgd ?_
   refine zc8 ?_
   refine zaf ?_
   refine yO (gn rfl) rfl (zG zvn rfl rfl ?_)
   intro b5 w5 e5 n5 c5 k5
   refine zcv [2, 3, 4, 5, 13] (F' := [(2, _), (3, _), (4, _), (5, _), (13, _)]) rfl ?_
   have hs5 := c5.size
   refine zc8 ?_
   refine zaf ?_
   refine yO (gn rfl) rfl (St.vl (zm6 zng sz5 rfl) rfl rfl ?_)
   refine Xm rfl ?_
   refine yO (gn rfl) rfl (zpz yR sz5 rfl rfl (hcut.chg0 c5) k5 (show min n 9 = n by omega) (by simp; omega) rfl ?_)
   intro w16 n16 c16 k16
   refine zcv [2, 3, 4, 5, 13] (F' := [(2, _), (3, _), (4, _), (5, _), (13, _)]) rfl ?_
   have hcn : c.length = n := hcl
   have kc : zQ w16 b5 348 (bv (c ++ List.replicate (8 - n) 0 ++ [0])) := by
    have e := zdv [] (bv (List.replicate 9 0)) ((bv c).take (n * 1))
    have e0 : ([Value.int .u8 0, .int .u8 0, .int .u8 0, .int .u8 0, .int .u8 0, .int .u8 0, .int .u8 0, .int .u8 0, .int .u8 0] : List Value) = bv (List.replicate 9 0) := rfl
    rw [e0] at k16
    simp only [List.nil_append, List.length_nil] at e
    rw [e] at k16
    rw [Nat.mul_one, List.take_of_length_le (by rw [zck]; omega)] at k16
    have e2 : (bv (List.replicate 9 (0 : UInt8))).drop (bv c).length = bv (List.replicate (8 - n) 0 ++ [0]) := by
     rw [zck, hcn]
     unfold bv
     rw [← List.map_drop, List.drop_replicate, show 9 - n = (8 - n) + 1 by omega, List.replicate_succ']
    rw [e2, ← yD, ← List.append_assoc] at k16
    exact k16
   have hc16 : zj [] W w16 := c5.own c16 (by intro y hy; simp at hy; omega)
   have hb2' := hb2.chg0 hc16
   have hb3' := hb3.chg0 hc16
   have hb2lt := hb2.lt
   have hb3lt := hb3.lt
   refine zc8 ?_
   refine zaf ?_
   refine yO (gn rfl) rfl (St.vl (zh ag3 rfl (hb3'.cell' rfl)) rfl rfl ?_)
   refine Xm rfl ?_
   refine yO (gn rfl) rfl (St.vl (yd yR rfl) rfl rfl ?_)
   refine yO (gn rfl) rfl (St.vl (yG rfl rfl (by omega)) rfl rfl ?_)
   refine yO (gn rfl) rfl (zv sz3 rfl rfl rfl rfl hb3' (by simp) (by intro u hu; simp at hu; subst hu; rfl) ?_)
   intro wL nL cL kL
   refine zcv [2, 3, 4, 5, 13] (F' := [(2, _), (3, _), (4, _), (5, _), (13, _)]) rfl ?_
   have kL : zQ wL b3 3 [Ii (left - n)] := kL
   have kcL := kc.chg cL (by simp; omega)
   have hb2L := hb2'.chg cL (by simp; omega)
   have lay8 : ∀ (A : List UInt8) (a : UInt8) (v : Value), A.length = 8 → yS (bv (A ++ [a])) 8 [v] = bv A ++ [v] := fun A a v hA => by
    rw [yD]
    have := zdv (bv A) (bv [a]) [v]
    rw [zck, hA] at this
    simpa [bv] using this
   have hA8 : (c ++ List.replicate (8 - n) 0).length = 8 := by rw [List.length_append, List.length_replicate]; omega
   refine zc8 ?_
   refine zaf ?_
   refine Xm rfl ?_
   refine yO (gn rfl) rfl (St.vl (yd yR rfl) rfl rfl ?_)
   refine yO (gn rfl) rfl (St.vl (yn zap zag rfl (show IntKind.u8.wrap (n : Int) = (((UInt8.ofNat n).toNat : Nat) : Int) by rw [zcO]; simp)) rfl rfl ?_)
   refine yO (gn rfl) rfl (St.vl (zbQ zng sz5 rfl rfl 8 rfl (by decide)) rfl rfl ?_)
   refine yO (gn rfl) rfl (zv sz5 rfl rfl rfl rfl kcL (by rw [zck, List.length_append, hA8]; simp) (by intro u hu; simp at hu; subst hu; rfl) ?_)
   intro wM nM cM kM
   refine zcv [2, 3, 5, 13] (F' := [(2, _), (3, _), (5, _), (13, _)]) rfl ?_
   have kM : zQ wM b5 348 (bv (c ++ List.replicate (8 - n) 0 ++ [UInt8.ofNat n])) := by
    have e := lay8 _ 0 (.int .u8 ((UInt8.ofNat n).toNat : Nat)) hA8
    rw [yD]
    show zQ wM b5 348 (_ ++ [.int .u8 ((UInt8.ofNat n).toNat : Nat)])
    rw [← e]
    exact kM
   have kLM := kL.chg cM (by simp; omega)
   have hb2M := hb2L.chg cM (by simp; omega)
   have hcM : zj [b3] W wM := ((hc16.any (S := [b3])).transS cL).trans' cM (by intro y hy; simp at hy; subst hy; right; omega)
   refine znl (fun F wz => F = [(2, Pt b2), (3, Pt b3), (5, Pt b5), (13, .slice pj n cj)] ∧ zQ wz b5 348 (bv (zfm c (left - n))) ∧ zQ wz b3 3 [Ii (left - n)] ∧ zQ wz b2 132 [u] ∧ zj [b3] W wz) ?_ ?_
   ·refine zc8 ?_
    refine zaf ?_
    refine yO (gn rfl) rfl (St.vl (zh ag3 rfl (kLM.cell' rfl)) rfl rfl ?_)
    refine yO (gn rfl) rfl (St.vl (yc rfl rfl) rfl rfl ?_)
    refine zcv [2, 3, 5, 13, 26] (F' := [(2, _), (3, _), (5, _), (13, _), (26, _)]) rfl ?_
    refine zs3 rfl (fun hT => ?_) (fun hF => ?_)
    ·have hpos : 0 < left - n := of_decide_eq_true hT
     refine zaf ?_
     refine yO (gn rfl) rfl (St.vl (zbQ zng sz5 rfl rfl 8 rfl (by decide)) rfl rfl ?_)
     refine yO (gn rfl) rfl (zv sz5 rfl rfl rfl rfl kM (by rw [zck, List.length_append, hA8]; simp) (by intro u hu; simp at hu; subst hu; rfl) ?_)
     intro wN nN cN kN
     refine zcv [2, 3, 5, 13] (F' := [(2, _), (3, _), (5, _), (13, _)]) rfl ?_
     refine ⟨rfl, ?_, kLM.chg cN (by simp; omega), hb2M.chg cN (by simp; omega), hcM.trans' cN (by intro y hy; simp at hy; subst hy; right; omega)⟩
     have e := lay8 (c ++ List.replicate (8 - n) 0) (UInt8.ofNat n) (.int .u8 9) hA8
     unfold zfm
     rw [hcn, if_pos hpos, yD]
     show zQ wN b5 348 (_ ++ [.int .u8 9])
     rw [← e]
     exact kN
    have hpos : ¬ 0 < left - n := of_decide_eq_false hF
    refine zq2 [2, 3, 5, 13] rfl ?_
    refine zp6 ?_
    refine ⟨rfl, ?_, kLM, hb2M, hcM⟩
    unfold zfm
    rw [hcn, if_neg hpos]
    exact kM
   rintro F wY ⟨rfl, kG, hl3, hu2, hcz⟩
   have hcB : zj [b2, b3] w12 wY := hcW.transS (hcz.weak (by simp))
   have hsz2 := hcz.size
   have huz := zu.chg hu hcz (zu.apart hu hb3 rfl)
   have hlg : (zfm c (left - n)).length = 9 := by unfold zfm; rw [List.length_append, List.length_append, List.length_replicate]; simp; omega
   have hrd : zaA wY 348 1 (.slice (some ⟨b5, 0, none⟩) 9 9) 9 (bv (zfm c (left - n))) := by
    have := zaA.of_blk kG (by rw [zck, hlg]; simp [maxLen]) (zb1 _)
    rwa [zck, hlg] at this
   have hd : zj [] wY wY.drew := zj.drew [] _
   have hub : ∀ y ∈ zn u, y ≠ b2 := fun y hy he => by subst he; have := hfu _ hy; omega
   refine zmb (fun wz => zj [] wY wz) mix (by kernel_rfl) hd ?_
   refine Tr (fun wz hz => zh zfG rfl ((hu2.chg0 hz).cell' rfl)) rfl ?_
   refine Tp (fun _ => zm6 zng sz5 rfl) rfl ?_
   refine zak rfl (gn rfl) (zlI zay yR rfl rfl (zu.chg0 huz hd) (hrd.chg0 hd) (by rw [hg3]; simp only [maxLen]; omega) (by rw [hg3]; omega) rfl ?_)
   intro v30 w30 i30 c30 o30 z30
   obtain ⟨p30, q30, rfl, _⟩ := id (zu.val i30)
   refine ⟨.inr (by kernel_rfl), ?_⟩
   refine zak rfl (gn rfl) (zv zn4 rfl rfl rfl rfl (hu2.chg (hd.any.transS c30) (fun hm => hub b2 hm rfl)) (by simp) (by intro y hy; simp at hy; subst hy; rfl) ?_)
   intro wO nO cO kO
   refine ⟨.inr (by kernel_rfl), ?_⟩
   refine zdM [2, 3, 13] (F' := [(2, _), (3, _), (13, _)]) rfl ?_
   have kO : zQ wO b2 132 [_] := kO
   have hcu : zj (zn u) wY w30 := hd.any.transS c30
   have hl3O := (hl3.chg hcu (fun hm => by have := hfu _ hm; omega)).chg cO (by simp; omega)
   have hsz3 := hcu.size
   have hcut2 : ∀ y ∈ zn u, ∃ e c, zQ W y e c := fun y hy => by
    rcases hu with ⟨rfl, _, _⟩ | ⟨b, off, cap, cc, rfl, hs⟩
    ·simp [zn] at hy
    simp [zn] at hy; subst hy; exact ⟨_, _, hs.blk⟩
   have hall : zj (b2 :: b3 :: zn u) W wO := by
    refine ((hcz.weak (S2 := b2 :: b3 :: zn u) (by simp)).transS (hcu.weak (fun k hk => by simp [hk]))).transS (cO.weak (by simp))
   refine ⟨KeepsFrom.chg hall ?_, Kr.chg hall (by omega) ?_, _, kO, ?_, ?_, yx o30 hfu (by show w12.heap.size ≤ wY.heap.size; omega), ?_, by have := hall.size; omega⟩
   ·intro y hy
    simp at hy
    rcases hy with rfl | rfl | hy
    ·exact ⟨_, _, hb2⟩
    ·exact ⟨_, _, hb3⟩
    exact hcut2 y hy
   ·intro y hy
    simp at hy
    rcases hy with rfl | rfl | hy
    ·exact ⟨.inl (by simp), _, _, hb2, rfl⟩
    ·exact ⟨.inl (by simp), _, _, hb3, rfl⟩
    obtain ⟨e, c, hbb⟩ := hcut2 y hy
    exact ⟨.inr (hfu y hy), e, c, hbb, rfl⟩
   ·have h30 := zu.chg i30 cO (zu.apart i30 (hu2.chg hcu (fun hm => hub b2 hm rfl)) rfl)
    rw [zel, zeL, hc8, hgl, hcn]
    unfold zcE
    rw [yD, List.length_append, hlg]
    exact h30
   ·rw [zel, zeL, hc8, hgl, hcn]
    exact hl3O
   exact hcW.trans' hall (by
    intro y hy
    simp at hy
    rcases hy with rfl | rfl | hy
    ·simp
    ·simp
    exact .inr (hfu y hy))
  rintro D xs W hD rfl ⟨u, hb2, hu, hb3, hfu, hcW, hsW⟩ hdf
  refine zk ?_
  refine ⟨D, _, rfl, by omega, hdf, by omega, u, hb2, ?_, fun b hb => by have := hfu b hb; omega, (hc12.trans' hcW (by intro y hy; simp at hy; right; omega))⟩
  split
  ·rename_i h0
   have hl0 : l = [] := List.length_eq_zero_iff.1 (by omega)
   subst hl0
   rw [h0] at hu
   exact hu
  rename_i h0
  rw [← hsz, zim (fun e => h0 (by rw [← hsz, e]; rfl))] at hu
  exact hu
 rintro F wx ⟨D, f12, rfl, hD, hdf, hb2n, u, hb2, hu, hfu, hcx⟩
 have hDb : D ≠ b2 := by rintro rfl; rw [show wx.heap[D]? = _ from hb2] at hdf; cases hdf
 have hDl := (Array.getElem?_eq_some_iff.1 hdf).1
 refine ze (ze ?_)
 by_cases h0 : x.b.size = 0
 ·rw [if_pos h0] at hu
  obtain ⟨pu, cu, rfl, _⟩ := id (zu.val hu)
  refine za ?_
  refine Ol zfG rfl (hb2.cell' rfl) ?_
  refine On yR rfl ?_
  refine Og (vt (zw rfl rfl) rfl) rfl ?_
  refine zaD [2, 33] (F' := [(2, _), (33, _), (1000000, _)]) rfl (zd rfl (Sr ?_))
  refine zC (gn rfl) (znR (l := 9) (m := 9) zay rfl rfl (by omega) (by omega) (by omega) (by unfold maxLen; omega) (by omega) rfl ?_)
  intro b34 w34 e34 n34 c34 k34
  refine zC (gn rfl) (zv zn4 rfl rfl rfl rfl (hb2.chg0 c34) (by simp) (by intro y hy; simp at hy; subst hy; rfl) ?_)
  intro wA nA cA kA
  refine zaD [2] (F' := [(2, _), (1000000, _)]) rfl (zi ?_)
  repeat first | refine tr ?_ | refine br ?_
  refine zox (v := .slice (some ⟨b34, 0, none⟩) 9 9) (D := D) rfl zfG rfl rfl ((cA.block D (by omega) (by simpa using hDb)).trans ((c34.block D hDl (by simp)).trans hdf)) ?_
  intro w' hw'
  have kA : zQ wA b2 132 [.slice (some ⟨b34, 0, none⟩) 9 9] := kA
  have hb34 : b34 ∉ [D] := by simp; omega
  have k34' := (k34.chg cA (by simp; have := hb2.lt; omega)).chg hw' hb34
  refine ⟨(kA.chg hw' (by simpa using fun h => hDb h.symm)).cell' rfl, ?_, ?_, ?_⟩
  ·have hl0 : x.b.data.toList = [] := List.length_eq_zero_iff.1 (by omega)
   rw [hl0]
   have e9 : (madeCells (Value.int IntKind.u8 0).cells (9 * 1)).toList = bv (zc1 []) := (zpP rfl 9).trans rfl
   rw [e9] at k34'
   exact zu.of_blk (n := 9) k34' rfl (by simp [maxLen]) (zb1 (zc1 []))
  ·intro b hb
   have := hcx.size
   simp [zn] at hb
   omega
  exact (((hcx.trans c34).own cA (by intro y hy; simp at hy; omega))).own hw' (by intro y hy; simp at hy; omega)
 rw [if_neg h0] at hu
 have hne : (zc1 x.b.data.toList).length ≠ 0 := by
  intro h
  rw [← zim (fun e => h0 (by rw [← hsz, e]; rfl)), (zkh _ _).2.2, List.length_range] at h
  omega
 obtain ⟨pu, cu, rfl, _⟩ := id (zu.val hu)
 refine za ?_
 refine Ol zfG rfl (hb2.cell' rfl) ?_
 refine On yR rfl ?_
 refine Og (vf (zw rfl rfl) (decide_eq_false (by omega))) rfl ?_
 refine zaD [2, 33] (F' := [(2, _), (33, _), (1000000, _)]) rfl (zb rfl ?_)
 refine zfa [2] rfl ?_
 refine zm (Sr ?_)
 refine Ol zfG rfl (hb2.cell' rfl) ?_
 refine zC (gn rfl) (zv zn4 rfl rfl rfl rfl hb2 (by simp) (by intro y hy; simp at hy; subst hy; rfl) ?_)
 intro wA nA cA kA
 refine zaD [2] (F' := [(2, _), (1000000, _)]) rfl (zi ?_)
 repeat first | refine tr ?_ | refine br ?_
 refine zox (v := .slice pu (zc1 x.b.data.toList).length cu) (D := D) rfl zfG rfl rfl ((cA.block D (by omega) (by simpa using hDb)).trans hdf) ?_
 intro w' hw'
 have kA : zQ wA b2 132 [.slice pu (zc1 x.b.data.toList).length cu] := kA
 have huD : ∀ b ∈ zn (.slice pu (zc1 x.b.data.toList).length cu), b ∉ [D] := fun b hb hm => by
  rcases hu with ⟨he, _, _⟩ | ⟨b', off, cap, cc, he, hs⟩
  ·rw [he] at hb; simp [zn] at hb
  rw [he] at hb
  simp [zn] at hb hm
  subst hb hm
  rw [show wx.heap[b]? = _ from hs.blk] at hdf
  cases hdf
 refine ⟨(kA.chg hw' (by simpa using fun h => hDb h.symm)).cell' rfl, ?_, hfu, ?_⟩
 ·exact zu.chg (zu.chg hu cA (zu.apart hu hb2 rfl)) hw' huD
 exact ((hcx.own cA (by intro y hy; simp at hy; omega))).own hw' (by intro y hy; simp at hy; omega)
theorem zjM {x : zN} (h : zaY x = 0) (hx : x.Rng) : ∃ f g, zdA zpe x.k = some (zet f g) ∧ zp TP f = true ∧ ∀ w, z0 TP f #[x.v] w fun r w' => zcE w' r (zfC x) ∧ (∀ b ∈ zn r, w.heap.size ≤ b) ∧ zj [] w w' := by
 obtain ⟨hf, hb⟩ := zdm h
 obtain ⟨hk, hbr, hm⟩ := zbC hf
 obtain ⟨k, i, u, b⟩ := x
 rcases (show k = 0 ∨ k = 1 ∨ k = 2 ∨ k = 3 ∨ k = 4 by simp at hk; omega) with rfl | rfl | rfl | rfl | rfl
 ·exact ⟨_, _, rfl, zu6, fun w => zsB _ w⟩
 ·exact ⟨_, _, rfl, zuL, fun w => zsG _ w hx⟩
 ·exact ⟨_, _, rfl, zwL, fun w => ztm _ w hx⟩
 ·exact ⟨_, _, rfl, zuS, fun w => zt2 _ w (hm rfl)⟩
 exact ⟨_, _, rfl, zwS, fun w => ztl _ w (by simp at hb ⊢; omega)⟩
theorem znJ (l : List zN) (x : zN) : zc3 (l ++ [x]) = zc3 l ++ ([UInt8.ofNat x.k.toNat] ++ zfC x) := by simp [zc3, zmw]
theorem zkJ : ∀ {l : List zN} {j : Nat} {x : zN}, l[j]? = some x → zaY x ≠ 0 → (∀ y ∈ l.take j, zaY y = 0) → zgl l = zaY x
 | [], _, _, h, _, _ => by simp at h
 | y :: l, 0, x, h, hx, _ => by simp at h; subst h; simp [zgl, hx]
 | y :: l, j + 1, x, h, hx, ha => by
  unfold zgl
  rw [if_neg (by simp [ha y (by simp)])]
  exact zkJ (by simpa using h) hx (fun z hz => ha z (by simp [hz]))
theorem zcE.push {w : World} {v : Value} {l m : List UInt8} {n : Nat} {xs : List Value} (h : zu w 5 1 v n xs) (hn : n = l.length + m.length) (hx : xs = bv l ++ bv m) : zcE w v (l ++ m) := by
 subst hn hx
 unfold zcE
 rw [List.length_append, yD]
 exact h
theorem zqL {v v' : Value} {w w0 : World} (ho : zn v' = zn v ∨ ∃ b, zn v' = [b] ∧ w.heap.size ≤ b) (hs : w0.heap.size ≤ w.heap.size) : ∀ y ∈ zn v', y ∈ zn v ∨ w0.heap.size ≤ y := by
 intro y hy
 rcases ho with o | ⟨b, o, hb⟩
 ·rw [o] at hy; exact .inl hy
 rw [o] at hy; simp at hy; subst hy; right; omega
theorem zoF (v : Value) (l : List zN) (w : World) (hl : zJ w v l) (hg : ∀ x ∈ l, x.Rng) (hn : l.length ≤ 8) :
 z0 TP 103 #[v] w fun r w' => r = .tuple #[.string (if zgl l = 0 then zbV l else e0), Ii (zgl l)] ∧ zj [] w w' := by
 obtain ⟨pv, cv, rfl, hcv⟩ := ya.val hl
 refine A1 Tryz.func103 rfl rfl ?_
 refine Sr (Oa rfl (Oa rfl (E1 0 rfl (Sr (Oa rfl (E2 0 4 rfl (ze (Sr (Om rfl (On zai rfl ?_))))))))))
 refine Om rfl (E4 4 8 9 10 rfl (zq ?_))
 refine zZ [4, 8, 9, 10] (fun m F wx => ∃ (j : Nat) (u : Value), m = l.length - j ∧ j ≤ l.length ∧ F = [(4, u), (8, .slice pv l.length cv), (9, Ii l.length), (10, Ii j)] ∧ zcE wx u (zc3 (l.take j)) ∧ (∀ b ∈ zn u, w.heap.size ≤ b) ∧ zj [] w wx ∧ (∀ y ∈ l.take j, zaY y = 0)) (m := l.length - 0) ⟨0, _, rfl, Nat.zero_le _, rfl, zu.nil _ _ _, by simp [zn], zj.refl _ _, by simp⟩ ?_
 rintro m F wx ⟨j, u, rfl, hj, rfl, hu, hfu, hcx, hall⟩
 have hkl := zfP hall
 rw [List.length_take, Nat.min_eq_left hj] at hkl
 refine Sr (Og (zB rfl rfl) rfl (E5 4 8 9 10 11 rfl (ze ?_)))
 refine zR rfl (fun hT => ?_) (fun hF => ?_)
 ·refine zm ?_
  have hlt : j < l.length := by have := of_decide_eq_true hT; omega
  have hx : l[j]? = some l[j] := by simp [hlt]
  generalize l[j] = x at hx
  have hxr := hg x (List.mem_of_getElem? hx)
  obtain ⟨b, off, cap, hv, hcell⟩ := ya.at zbc (ya.chg0 hl hcx) hx
  cases hv
  refine ze (zq (Sr ?_))
  refine Og (zf zai yY rfl rfl _ rfl hlt) rfl ?_
  refine Og (zg za9 yY rfl rfl hcell) rfl ?_
  refine zC (gn rfl) (zG zdT rfl rfl ?_)
  intro b6 w6 e6 n6 c6 k6
  refine zC (gn rfl) (zv yY rfl rfl rfl rfl k6 (by simp [zN.cs]) (zN.one x) ?_)
  intro wA nA cA kA
  refine E5 4 6 8 9 10 rfl ?_
  have kA : zQ wA b6 40 x.cs := kA
  have hcA : zj [] wx wA := c6.own cA (by intro y hy; simp at hy; omega)
  refine ze (Sr ?_)
  refine Og (zg za9 yY rfl rfl (zz.of_blk0 kA)) rfl ?_
  refine Oc zsm rfl rfl rfl (zmr x _) ?_
  rintro v15 w15 ⟨rfl, c15⟩
  refine Oa rfl (E6 4 6 7 8 9 10 rfl ?_)
  have kB := kA.chg0 c15
  have hcB : zj [] wx w15 := hcA.trans c15
  have huB := zu.chg0 hu hcB
  refine ze ?_
  by_cases hc : zaY x = 0
  ·refine za (Om rfl ?_)
   refine Og (vf (zY rfl rfl) (by simp [hc])) rfl ?_
   refine E7 4 6 7 8 9 10 17 rfl (zb rfl (zm ?_))
   obtain ⟨f, g, hgk, hbf, hlay⟩ := zjM hc hxr
   have hfine := (zbC (zdm hc).1).1
   have hkT : (zfC x).length ≤ 234 := by have := zhI hc; rw [zmw] at this; simp at this; omega
   have hd : zj (zn u) w15 w15.drew := zj.drew _ _
   have hbu : b6 ∉ zn u := fun hm => zu.apart huB kB rfl b6 hm (by simp)
   refine zK (fun wz => zj (zn u) w15 wz) mix (by kernel_rfl) hd ?_
   refine Tm rfl (Td zao rfl ?_)
   refine Tr (fun wz hz => zh zch rfl ((kB.chg hz hbu).cell' rfl)) rfl ?_
   refine Tp (fun _ => yn zap zaF rfl (show IntKind.u8.wrap x.k = (((UInt8.ofNat x.k.toNat).toNat : Nat) : Int) by rw [show x.k = ((x.k.toNat : Nat) : Int) by omega, zcO]; simp)) rfl ?_
   refine zak rfl (gn rfl) (zy zay rfl (vs := [_]) rfl (css := [_]) ⟨rfl, trivial⟩ rfl rfl (cs := [_]) rfl rfl ?_)
   intro b23 w23 e23 n23 c23 k23
   refine ⟨.inl (hd.trans c23), ?_⟩
   refine zak rfl (gn rfl) (yp zay yR rfl rfl (zu.chg0 huB ((zj.drew [] _).trans c23)) (zu.of_blk (n := 1) (c := bv [UInt8.ofNat x.k.toNat]) k23 rfl (by simp [maxLen]) (zb1 _)) (by simp only [maxLen]; omega) (by omega) rfl ?_)
   intro v24 w24 i24 c24 o24 z24
   refine ⟨.inl ((hd.trans c23).transS c24), ?_⟩
   refine Tc zuY rfl rfl rfl (zqj _) ?_
   rintro v25 w25 ⟨b25, rfl, h25, k25, c25⟩
   refine ⟨.inl (((hd.trans c23).transS c24).trans c25), ?_⟩
   refine Td zao rfl ?_
   refine Tr (fun wz hz => zh zch rfl ((kB.chg hz hbu).cell' rfl)) rfl ?_
   refine zak rfl (gn rfl) (St.vl (zcL (κ := zbo .i64) zit (yq zaF) ziv rfl rfl k25 hgk rfl) rfl rfl ?_)
   refine ⟨.inl (((hd.trans c23).transS c24).trans c25), ?_⟩
   refine Tp (fun _ => zgG zq3 rfl rfl) rfl ?_
   refine Tr (fun wz hz => zg za9 yY rfl rfl (zz.of_blk0 (kB.chg hz hbu))) rfl ?_
   refine Tc hbf rfl rfl rfl (hlay _) ?_
   rintro v31 w31 ⟨i31, f31, c31⟩
   refine ⟨.inl ((((hd.trans c23).transS c24).trans c25).trans c31), ?_⟩
   refine zak rfl (gn rfl) (yp zay yR rfl rfl (zu.chg0 (zu.chg0 i24 c25) c31) i31 (by simp only [maxLen]; omega) (by omega) rfl ?_)
   intro v32 w32 i32 c32 o32 z32
   refine ⟨.inl (((((hd.trans c23).transS c24).trans c25).trans c31).trans' c32 (zqL o24 c23.size)), ?_⟩
   refine Ta rfl ?_
   refine zdM [4, 8, 9, 10] (F' := [(4, _), (8, _), (9, _), (10, _)]) rfl ?_
   refine zk ?_
   have hcz : zj (zn u) w15 w32 := ((((hd.trans c23).transS c24).trans c25).trans c31).trans' c32 (zqL o24 c23.size)
   have hwz := (hcx.trans hcB).own hcz hfu
   have hs1 := hcx.size
   have hs2 := hcB.size
   have hs3 : w15.heap.size ≤ w23.heap.size := c23.size
   have hs4 := (c24.size)
   have hs5 := c25.size
   have hs6 := c31.size
   refine za ?_
   refine Og (zH rfl rfl (by omega)) rfl ?_
   refine Om rfl (N4 4 8 9 10 rfl ?_)
   refine ⟨l.length - (j + 1), by omega, j + 1, v32, rfl, by omega, rfl, ?_, yx o32 (yx o24 hfu (by omega)) (by omega), hwz, ?_⟩
   ·rw [List.take_add_one, hx]
    show zcE w32 v32 (zc3 (l.take j ++ [x]))
    rw [znJ, ← List.append_assoc]
    refine zcE.push i32 ?_ ?_
    ·rw [List.length_append]; rfl
    rw [yD]
   intro y hy
   rw [List.take_add_one, hx] at hy
   rcases List.mem_append.1 hy with hy | hy
   ·exact hall y hy
   simp at hy; subst hy; exact hc
  refine za (Om rfl ?_)
  refine Og (vt (zY rfl rfl) (by simp [hc])) rfl ?_
  refine E7 4 6 7 8 9 10 17 rfl (zd rfl (Sr (Om rfl (Oa rfl (Oa rfl (E2 2 3 rfl (zi ?_)))))))
  repeat first | refine tr ?_ | refine br ?_
  refine zaI rfl rfl rfl ?_
  rw [zkJ hx hc hall, if_neg hc]
  exact ⟨rfl, hcx.trans hcB⟩
 refine zM ?_
 repeat first | refine te ?_ | refine bo rfl ?_
 refine zt _ ?_
 have he : l.length ≤ j := by have := of_decide_eq_false hF; omega
 rw [List.take_of_length_le he] at hu hall hkl
 have hE := zex.2 hall
 obtain ⟨pu, cu, rfl, _⟩ := id (zu.val hu)
 refine ze (Sr (Om rfl (On yR rfl ?_)))
 refine Og (vf (yc rfl rfl) (decide_eq_false (by omega))) rfl ?_
 refine E2 4 36 rfl (zb rfl (zm (Sr (Om rfl ?_))))
 refine Og (ze5 (l := (zc3 l)) yR zap st9 rfl (zu.rd hu)) rfl ?_
 refine Oa rfl (Oa rfl (E2 2 3 rfl (zi ?_)))
 refine zaI rfl rfl rfl ?_
 rw [hE, if_pos rfl]
 exact ⟨rfl, hcx⟩
theorem zuH (x : zN) (w : World) : z0 TP 105 #[x.v] w fun r w' => r = .bool (decide (x.k = 0)) ∧ zj [] w w' := by
 refine A1 Tryz.func105 rfl rfl ?_
 refine Sr ?_
 refine Ob rfl rfl ?_
 intro b1 w1 e1 n1 c1 k1
 refine Oa rfl (E1 1 rfl (Sr (Od zao rfl ?_)))
 refine Ol zch rfl (k1.cell' rfl) ?_
 refine Og (zw rfl rfl) rfl (Oa rfl (E1 2 rfl (zi ?_)))
 refine zD rfl rfl ?_
 exact ⟨rfl, c1⟩
theorem zq9 (l : List zN) : nnS l = !(l.any fun x => decide (x.k = 0)) := by
 rw [Bool.eq_iff_iff]
 simp [nnS]
theorem zu9 (v : Value) (l : List zN) (w : World) (hl : zJ w v l) (hg : ∀ x ∈ l, x.Rng) (hn : l.length ≤ 8) :
 z0 TP 70 #[v] w fun r w' => r = .tuple #[.string (if zgl l = 0 then zbV l else e0), .bool (nnS l)] ∧ zj [] w w' := by
 refine A1 Tryz.func70 rfl rfl ?_
 refine Sr (Oa rfl (Oa rfl (E1 0 rfl (Sr (Om rfl ?_)))))
 refine Oc zwf rfl rfl rfl (zoF v l _ hl hg hn) ?_
 rintro v8 w8 ⟨rfl, c8⟩
 refine Om rfl (Oe rfl rfl (Oe rfl rfl (Oa rfl (Oa rfl (E2 0 4 rfl (Sr (Om rfl (Om rfl ?_))))))))
 refine Oc zvo rfl rfl rfl (zt0 zbc v l (fun x => decide (x.k = 0)) 105 [] _ (ya.chg0 hl c8) (by omega) zvi (fun x _ w1 _ => zuH x w1)) ?_
 rintro v13 w13 ⟨rfl, c13⟩
 refine Og (zS rfl) rfl (Oa rfl (Oa rfl (E2 2 3 rfl (zi ?_))))
 refine zaI rfl rfl rfl ?_
 exact ⟨by rw [zq9], c8.trans c13⟩
theorem zqg (a p v : Value) (st : List Int) (row : List zN) (w : World) (ha : yQ w a st) (hp : p.oneCell' = true) (hv : zJ w v row) (hg : ∀ x ∈ row, x.Rng) (hc : ∀ x ∈ row, zaY x = 0) (hr : ∀ i ∈ st, 0 ≤ i ∧ i < row.length) (hn : st.length ≤ 8) (hn' : row.length ≤ 1048576) :
 z0 TP 62 #[.agg #[a, p], v] w fun r w' => r = .tuple #[.string (zbV (zV row st)), .bool (nnS (zV row st))] ∧ zj [] w w' := by
 have hmem : ∀ x ∈ zV row st, x ∈ row := fun x hx => by
  rw [zdU, List.mem_map] at hx
  obtain ⟨i, hi, rfl⟩ := hx
  exact (zd1 rfl (hr i hi)).1
 have hE : zgl (zV row st) = 0 := zex.2 fun x hx => hc x (hmem x hx)
 obtain ⟨pa, ca, rfl, _⟩ := id (ya.val ha)
 refine A2 Tryz.func62 rfl rfl ?_
 refine Sr ?_
 refine Ob rfl rfl ?_
 intro b2 w2 e2 n2 c2 k2
 refine Oa rfl (Oa rfl (E2 1 2 rfl (Sr (Om rfl (Od zg8 rfl ?_)))))
 refine Ol zcc rfl (k2.cell' rfl) ?_
 refine Oc zw6 rfl rfl rfl (zsY v _ row st _ (ya.chg0 hv c2) (ya.chg0 ha c2) hr hn' (by omega)) ?_
 rintro v12 w12 ⟨u, rfl, iu, fu, c12⟩
 refine Om rfl (Oe rfl rfl (Oe rfl rfl (Oa rfl (Oa rfl (E1 6 rfl (Sr (Om rfl ?_)))))))
 refine Oc zuw rfl rfl rfl (zu9 u (zV row st) _ iu (fun x hx => hg x (hmem x hx)) (by rw [zeO]; exact hn)) ?_
 rintro v16 w16 ⟨rfl, c16⟩
 refine Oe rfl rfl (Oe rfl rfl (Oa rfl (Oa rfl (E2 4 5 rfl (zi ?_)))))
 refine zaI rfl rfl rfl ?_
 rw [hE, if_pos rfl]
 exact ⟨rfl, (c2.trans c12).trans c16⟩
theorem zpx (n : Nat) : ∀ {k m : Nat}, k ≤ m → be (n % 256 ^ m) k = be n k
 | 0, _, _ => rfl
 | k + 1, m, h => by
  have e : n % 256 ^ m / 256 ^ k % 256 = n / 256 ^ k % 256 := by
   have h1 : n % 256 ^ m % 256 ^ (k + 1) = n % 256 ^ (k + 1) := Nat.mod_mod_of_dvd _ (Nat.pow_dvd_pow _ h)
   have h2 : ∀ a : Nat, a / 256 ^ k % 256 = a % 256 ^ (k + 1) / 256 ^ k := fun a => by
    rw [Nat.pow_succ, Nat.mod_mul_right_div_self]
   rw [h2, h1, ← h2]
  unfold be
  rw [e, zpx n (by omega)]
theorem zmN (n z : Nat) (w : World) (hn : n < 18446744073709551616) (hz : z = 1 ∨ z = 2 ∨ z = 4 ∨ z = 8) : z0 TP 162 #[.int .u64 n, Ii z] w fun r w' => zcE w' r (be n z) ∧ (∀ b ∈ zn r, w.heap.size ≤ b) ∧ zj [] w w' := by
 have e1 : IntKind.u64.wrap ((n : Int) * 2 ^ (64 - 8 * z)) = ((n * 2 ^ (64 - 8 * z) % 18446744073709551616 : Nat) : Int) := by rw [zb6]; rcases hz with rfl | rfl | rfl | rfl <;> simp only [Nat.reducePow, Nat.reduceMul, Nat.reduceSub, Int.reducePow] <;> omega
 have e2 : n * 2 ^ (64 - 8 * z) % 18446744073709551616 / 2 ^ (64 - 8 * z) = n % 256 ^ z := by rcases hz with rfl | rfl | rfl | rfl <;> simp only [Nat.reducePow, Nat.reduceMul, Nat.reduceSub] <;> omega
 have hz8 : z ≤ 8 := by omega
 have hp : n % 256 ^ z < 256 ^ z := Nat.mod_lt _ (Nat.pow_pos (by decide))
 refine A2 Tryz.func162 rfl rfl ?_
 refine Sr (Oa rfl (E2 0 1 rfl (Sr (Om rfl (Om rfl ?_)))))
 refine Og (zcM rfl rfl (by omega)) rfl ?_
 refine Og (yG rfl rfl (by omega)) rfl ?_
 refine Og (zdq (64 - 8 * z) rfl rfl (by omega) (by simp only [IntKind.bits]; omega) e1) rfl ?_
 refine Om rfl ?_
 refine Og (zcM rfl rfl (by omega)) rfl ?_
 refine Og (yG rfl rfl (by omega)) rfl ?_
 refine Og (zbF (64 - 8 * z) rfl rfl (by omega) (by simp only [IntKind.bits]; omega) (ziR _ _)) rfl ?_
 refine Om rfl ?_
 refine Oc zsf rfl rfl rfl (e2 ▸ zm5 (n % 256 ^ z) z _ (Nat.lt_of_le_of_lt (Nat.mod_le _ _) hn) (by omega) hp) ?_
 rintro v18 w18 ⟨v18, rfl, i18, f18, c18⟩
 refine Om rfl (Oe rfl rfl (Oe rfl rfl (Oa rfl (Oa rfl (E1 5 rfl (Sr (Om rfl (Oa rfl (E1 4 rfl (zi ?_))))))))))
 refine zD rfl rfl ?_
 rw [e2, zpx n (Nat.le_refl z)] at i18
 exact ⟨by unfold zcE; rw [zaZ]; exact i18, f18, c18⟩
theorem zsz (c : Col) (x : zN) (w : World) (hx : x.Rng) (hz : c.s = 1 ∨ c.s = 2 ∨ c.s = 4 ∨ c.s = 8) : z0 TP 161 #[c.v, x.v] w fun r w' => zcE w' r (be (x.i % 18446744073709551616).toNat c.s.toNat) ∧ (∀ b ∈ zn r, w.heap.size ≤ b) ∧ zj [] w w' := by
 have hi := hx.i
 obtain ⟨z, hz1, hz2⟩ : ∃ z : Nat, c.s = z ∧ (z = 1 ∨ z = 2 ∨ z = 4 ∨ z = 8) := ⟨c.s.toNat, by omega, by omega⟩
 refine A2 Tryz.func161 rfl rfl ?_
 refine Sr ?_
 refine Ob rfl rfl ?_
 intro b2 w2 e2 n2 c2 k2
 refine Ob rfl rfl ?_
 intro b3 w3 e3 n3 c3 k3
 refine Oa rfl (E2 2 3 rfl (Sr (Od yW rfl ?_)))
 refine Ol ag2 rfl (k3.cell' rfl) ?_
 refine Og (yn zbj zdI rfl (show IntKind.u64.wrap x.i = (((x.i % 18446744073709551616).toNat : Nat) : Int) by rw [zb6]; omega)) rfl ?_
 refine Od zbz rfl ?_
 refine Ol ag3 rfl ((k2.chg0 c3).cell' (show _ = some (Value.int .i64 (z : Int)) by rw [← hz1]; rfl)) ?_
 refine Oc zrQ rfl rfl rfl (zmN _ z _ (by omega) hz2) ?_
 rintro v10 w10 ⟨i10, f10, c10⟩
 refine Oa rfl (E1 4 rfl (zi ?_))
 refine zD rfl rfl ?_
 have hs := (c2.trans c3).size
 rw [hz1]
 exact ⟨i10, fun b hb => Nat.le_trans hs (f10 b hb), (c2.trans c3).trans c10⟩
theorem zts (c : Col) (x : zN) (w : World) (hx : x.Rng) (hz : c.s = 1 ∨ c.s = 2 ∨ c.s = 4 ∨ c.s = 8) : z0 TP 167 #[c.v, x.v] w fun r w' => zcE w' r (be x.u c.s.toNat) ∧ (∀ b ∈ zn r, w.heap.size ≤ b) ∧ zj [] w w' := by
 obtain ⟨z, hz1, hz2⟩ : ∃ z : Nat, c.s = z ∧ (z = 1 ∨ z = 2 ∨ z = 4 ∨ z = 8) := ⟨c.s.toNat, by omega, by omega⟩
 refine A2 Tryz.func167 rfl rfl ?_
 refine Sr ?_
 refine Ob rfl rfl ?_
 intro b2 w2 e2 n2 c2 k2
 refine Ob rfl rfl ?_
 intro b3 w3 e3 n3 c3 k3
 refine Oa rfl (E2 2 3 rfl (Sr (Od zaO rfl ?_)))
 refine Ol zcV rfl (k3.cell' rfl) ?_
 refine Od zbz rfl ?_
 refine Ol ag3 rfl ((k2.chg0 c3).cell' (show _ = some (Value.int .i64 (z : Int)) by rw [← hz1]; rfl)) ?_
 refine Oc zrQ rfl rfl rfl (zmN _ z _ hx.u hz2) ?_
 rintro v9 w9 ⟨i9, f9, c9⟩
 refine Oa rfl (E1 4 rfl (zi ?_))
 refine zD rfl rfl ?_
 have hs := (c2.trans c3).size
 rw [hz1]
 exact ⟨i9, fun b hb => Nat.le_trans hs (f9 b hb), (c2.trans c3).trans c9⟩
theorem ztc (c : Col) (x : zN) (w : World) (hx : x.i = 0 ∨ x.i = 1) : z0 TP 169 #[c.v, x.v] w fun r w' => zcE w' r [UInt8.ofNat x.i.toNat] ∧ (∀ b ∈ zn r, w.heap.size ≤ b) ∧ zj [] w w' := by
 refine A2 Tryz.func169 rfl rfl ?_
 refine Sr ?_
 refine Ob rfl rfl ?_
 intro b2 w2 e2 n2 c2 k2
 refine Ob rfl rfl ?_
 intro b3 w3 e3 n3 c3 k3
 refine Oa rfl (E1 3 rfl (Sr (Od yW rfl ?_)))
 refine Ol ag2 rfl (k3.cell' rfl) ?_
 refine Og (yn zap zdI rfl (show IntKind.u8.wrap x.i = (((UInt8.ofNat x.i.toNat).toNat : Nat) : Int) by rcases hx with h | h <;> rw [h] <;> rfl)) rfl ?_
 refine zC (gn rfl) (zy zay rfl (vs := [_]) rfl (css := [_]) ⟨rfl, trivial⟩ rfl rfl (cs := [_]) rfl rfl ?_)
 intro b8 w8 e8 n8 c8 k8
 refine Oa rfl (E1 4 rfl (zi ?_))
 refine zD rfl rfl ?_
 have hs := (c2.trans c3).size
 exact ⟨zu.of_blk (n := 1) k8 rfl (by simp [maxLen]) (zb1 _), by intro b hb; simp [zn] at hb; omega, (c2.trans c3).trans c8⟩
theorem ztC (c : Col) (x : zN) (w : World) (hx : x.b.size ≤ 1048576) : z0 TP 173 #[c.v, x.v] w fun r w' => zcE w' r (zb3 x.b) ∧ (∀ b ∈ zn r, w.heap.size ≤ b) ∧ zj [] w w' := by
 refine A2 Tryz.func173 rfl rfl ?_
 refine Sr ?_
 refine Ob rfl rfl ?_
 intro b2 w2 e2 n2 c2 k2
 refine Ob rfl rfl ?_
 intro b3 w3 e3 n3 c3 k3
 refine Oa rfl (E1 3 rfl (Sr (Od zaE rfl ?_)))
 refine Ol ag9 rfl (k3.cell' rfl) ?_
 refine Oc zuX rfl rfl rfl (zsJ x.b _ hx) ?_
 rintro v7 w7 ⟨i7, f7, c7⟩
 refine Oa rfl (E1 4 rfl (zi ?_))
 refine zD rfl rfl ?_
 have hs := (c2.trans c3).size
 exact ⟨i7, fun b hb => Nat.le_trans hs (f7 b hb), (c2.trans c3).trans c7⟩
def zio (f g h : FuncId) : Value := .agg #[.func (.func f) #[] #[], .func (.func g) #[] #[], .func (.func h) #[] #[]]
def zl7 : List (Int × Value) := [(1, zio 161 163 166), (2, zio 167 168 166), (3, zio 169 170 172), (4, zio 173 175 178)]
theorem zmP (w : World) : z0 TP 133 #[] w fun r w' => ∃ b, r = .map (some b) ∧ w.heap.size ≤ b ∧ y9 (zbo .i64) w' b zl7 ∧ zj [] w w' := by
 refine z0.of_W (args := []) Tryz.func133 rfl rfl rfl rfl ?_
 refine Sr (Oa rfl (zaD [] (F' := []) rfl (Sr ?_)))
 refine zC (gn rfl) (zcX (zbo .i64) rfl ?_)
 intro b1 w1 e1 n1 c1 k1
 refine Og (zX zm1 ziI rfl (vs := [_, _, _]) rfl (css := [_, _, _]) ⟨rfl, rfl, rfl, trivial⟩ rfl rfl (cs := [_, _, _]) rfl) rfl ?_
 refine zC (gn rfl) (zaH (κ := zbo .i64) ziw (yq zav) rfl rfl rfl k1 ?_)
 intro wA nA cA kA
 refine Og (zX zm1 ziI rfl (vs := [_, _, _]) rfl (css := [_, _, _]) ⟨rfl, rfl, rfl, trivial⟩ rfl rfl (cs := [_, _, _]) rfl) rfl ?_
 refine zC (gn rfl) (zaH (κ := zbo .i64) ziw (yq zav) rfl rfl rfl kA ?_)
 intro wB nB cB kB
 refine Og (zX zm1 ziI rfl (vs := [_, _, _]) rfl (css := [_, _, _]) ⟨rfl, rfl, rfl, trivial⟩ rfl rfl (cs := [_, _, _]) rfl) rfl ?_
 refine zC (gn rfl) (zaH (κ := zbo .i64) ziw (yq zav) rfl rfl rfl kB ?_)
 intro wC nC cC kC
 refine Og (zX zm1 ziI rfl (vs := [_, _, _]) rfl (css := [_, _, _]) ⟨rfl, rfl, rfl, trivial⟩ rfl rfl (cs := [_, _, _]) rfl) rfl ?_
 refine zC (gn rfl) (zaH (κ := zbo .i64) ziw (yq zav) rfl rfl rfl kC ?_)
 intro wD nD cD kD
 refine Om rfl (Oa rfl (E1 0 rfl (zi ?_)))
 refine zD rfl rfl ?_
 exact ⟨b1, rfl, by omega, kD, c1.own ((((cA.transS cB).transS cC).transS cD)) (by intro x hx; simp at hx; omega)⟩
theorem zj2 {c : Col} {x : zN} (h : y7 c x = 0) (hk : x.k ≠ 0) (hx : x.Rng) : ∃ f g k, zdA zl7 c.t = some (zio f g k) ∧ zp TP f = true ∧ ∀ w, z0 TP f #[c.v, x.v] w fun r w' => zcE w' r (zjt c x) ∧ (∀ b ∈ zn r, w.heap.size ≤ b) ∧ zj [] w w' := by
 obtain ⟨hr, hc, _, h2⟩ := zbY h
 obtain ⟨hkt, _⟩ := h2 hk
 obtain ⟨hf, hb⟩ := zdm hc
 obtain ⟨_, hbr, hm⟩ := zbC hf
 obtain ⟨s1, s2, s3, s4⟩ := zec hr
 unfold zjt
 rcases s4 with e | e | e | e <;> simp only [e, ↓reduceIte, Int.reduceEq]
 ·exact ⟨_, _, _, rfl, zvl, fun w => zsz c x w hx (s1 (.inl e))⟩
 ·exact ⟨_, _, _, rfl, zwT, fun w => zts c x w hx (s1 (.inr e))⟩
 ·exact ⟨_, _, _, rfl, zuc, fun w => ztc c x w (hm (by omega))⟩
 exact ⟨_, _, _, rfl, zuV, fun w => ztC c x w (by omega)⟩
theorem zgt : ∀ {cs : List Col} {xs : List zN} {j : Nat} {c : Col} {x : zN}, cs[j]? = some c → xs[j]? = some x → zcd (cs.take (j + 1)) (xs.take (j + 1)) = zcd (cs.take j) (xs.take j) ++ zeY c x
 | [], _, _, _, _, h, _ => by simp at h
 | _ :: _, [], _, _, _, _, h => by simp at h
 | c :: cs, x :: xs, 0, c', x', hc, hx => by simp at hc hx; subst hc hx; simp [zcd]
 | c :: cs, x :: xs, j + 1, c', x', hc, hx => by
  simp only [List.take_succ_cons, zcd]
  rw [zgt (by simpa using hc) (by simpa using hx), List.append_assoc]
theorem zhk : ∀ {cs : List Col} {xs : List zN}, zaM cs xs = 0 → ∀ j, zaM (cs.take j) (xs.take j) = 0
 | [], _, _, j => by simp [zaM]
 | _ :: _, [], _, j => by simp [zaM]
 | c :: cs, x :: xs, h, 0 => by simp [zaM]
 | c :: cs, x :: xs, h, j + 1 => by
  unfold zaM at h
  by_cases h1 : y7 c x = 0
  ·rw [if_neg (by simp [h1])] at h
   simp only [List.take_succ_cons, zaM, h1, zhk h j]
   rfl
  rw [if_pos h1] at h; exact absurd h h1
theorem zpM (c k u v : Value) (s : ym) (l : List zN) (w : World) (hE : EOk w) (hs : yV w c k u s) (hm : s.Sm) (hl : zJ w v l) (hg : ∀ x ∈ l, x.Rng) (hn : l.length ≤ 1048576) :
 z0 TP 84 #[.agg #[c, k, u], v] w fun r w' => ∃ o, r = .tuple #[o, Ii (yP s l)] ∧ zcE w' o (if yP s l = 0 then zcd s.cols l else []) ∧ (∀ b ∈ zn o, w.heap.size ≤ b) ∧ zj [] w w' := by
 obtain ⟨pv, cv, rfl, hcv⟩ := ya.val hl
 refine A2 Tryz.func84 rfl rfl ?_
 refine Sr ?_
 refine Ob rfl rfl ?_
 intro b2 w2 e2 n2 c2 k2
 refine Oa rfl (Oa rfl (E2 1 2 rfl (ze (Sr ?_))))
 refine Og (zg zbt zbq rfl rfl (zz.of_blk0 k2)) rfl ?_
 refine Om rfl ?_
 refine Oc zuG rfl rfl rfl (zrN c k u _ s l _ (hE.chg0 c2) (hs.chg0 c2) hm (ya.chg0 hl c2) hg hn) ?_
 rintro v13 w13 ⟨rfl, c13⟩
 refine Oa rfl (E3 1 2 6 rfl (ze ?_))
 by_cases hr : yP s l = 0
 ·refine za (Om rfl ?_)
  refine Og (vf (zY rfl rfl) (by simp [hr])) rfl ?_
  refine E4 1 2 6 15 rfl (zb rfl (zm ?_))
  obtain ⟨hrs, hlen, hfit⟩ := zar hr
  refine Sr (Oa rfl (E3 1 2 7 rfl (ze (ze ?_))))
  have hcA := c2.trans c13
  have k2 := k2.chg0 c13
  refine za (Om rfl (On zai rfl (Om rfl (E5 2 7 17 18 19 rfl (zq ?_)))))
  refine zZ [2, 7, 17, 18, 19] (fun m F wx => ∃ (j : Nat) (u : Value), m = l.length - j ∧ j ≤ l.length ∧ F = [(2, Pt b2), (7, u), (17, .slice pv l.length cv), (18, Ii l.length), (19, Ii j)] ∧ zcE wx u (zcd (s.cols.take j) (l.take j)) ∧ (∀ b ∈ zn u, w13.heap.size ≤ b) ∧ zj [] w13 wx) (m := l.length - 0) ⟨0, _, rfl, Nat.zero_le _, rfl, zu.nil _ _ _, by simp [zn], zj.refl _ _⟩ ?_
  rintro m F wx ⟨j, u', rfl, hj, rfl, hu, hfu, hcx⟩
  refine Sr (Og (zB rfl rfl) rfl (E6 2 7 17 18 19 20 rfl (ze ?_)))
  refine zR rfl (fun hT => ?_) (fun hF => ?_)
  ·refine zm ?_
   have hlt : j < l.length := by have := of_decide_eq_true hT; omega
   have hx : l[j]? = some l[j] := by simp [hlt]
   have hy : s.cols[j]? = some (s.cols[j]'(by omega)) := by simp [hlt, ← hlen]
   generalize l[j] = x at hx
   generalize s.cols[j]'(by omega) = y at hy
   have hxr := hg x (List.mem_of_getElem? hx)
   have hfy := zfT hfit hy hx
   have hel := zhx hfy
   have hkl := zd3 (zhk hfit j)
   have h8 := (zW hrs).1
   rw [List.length_take, Nat.min_eq_left (by omega)] at hkl
   obtain ⟨b, off, cap, hv, hcell⟩ := ya.at zbc (ya.chg0 hl (hcA.trans hcx)) hx
   cases hv
   have k2 := k2.chg0 hcx
   refine ze (zq (Sr (Om rfl ?_)))
   refine Og (zf zai yY rfl rfl _ rfl hlt) rfl ?_
   refine Og (zg za9 yY rfl rfl hcell) rfl ?_
   refine zC (gn rfl) (zG zdT rfl rfl ?_)
   intro b9 w9 e9 n9 c9 k9
   refine Oa rfl ?_
   refine zC (gn rfl) (zv yY rfl rfl rfl rfl k9 (by simp [zN.cs]) (zN.one x) ?_)
   intro wA nA cA kA
   refine E7 2 7 8 9 17 18 19 rfl ?_
   have kA : zQ wA b9 40 x.cs := kA
   have hcB : zj [] wx wA := c9.own cA (by intro y hy; simp at hy; omega)
   obtain ⟨bc, offc, capc, hvc, hcellc⟩ := ya.at zaT (ya.chg0 hs.cols ((hcA.trans hcx).trans hcB)) hy
   subst hvc
   have k2 := k2.chg0 hcB
   have huB := zu.chg0 hu hcB
   refine ze (ze ?_)
   by_cases hk : x.k = 0
   ·refine za (Od zao rfl ?_)
    refine Ol zch rfl (kA.cell' rfl) ?_
    refine Og (vt (zw rfl rfl) (by simp [hk])) rfl ?_
    refine E8 2 7 8 9 17 18 19 26 rfl (zd rfl (ze ?_))
    have hkl2 : (zeY y x).length = 1 := by simp [zeY, hk]
    refine za (Om rfl ?_)
    refine zC (gn rfl) (zy zay rfl (vs := [_]) rfl (css := [_]) ⟨rfl, trivial⟩ rfl rfl (cs := [_]) rfl rfl ?_)
    intro b28 w28 e28 n28 c28 k28
    refine zC (gn rfl) (yp zay yR rfl rfl (zu.chg0 huB c28) (zu.of_blk (n := 1) (c := bv [0]) k28 rfl (by simp [maxLen]) (zb1 _)) (by simp only [maxLen]; omega) (by omega) rfl ?_)
    intro v29 w29 i29 c29 o29 z29
    refine Oa rfl (E5 2 7 17 18 19 rfl ?_)
    have hcz : zj (zn u') wA w29 := (((zj.refl (zn u') wA).trans c28).transS c29)
    have hwz := (hcx.trans hcB).own hcz hfu
    have hs1 := hcx.size
    have hs2 := hcB.size
    have hs3 : wA.heap.size ≤ w28.heap.size := c28.size
    refine zM ?_
    repeat first | refine te ?_ | refine bo rfl ?_
    refine zt _ ?_
    refine za ?_
    refine Og (zH rfl rfl (by omega)) rfl ?_
    refine Om rfl (N5 2 7 17 18 19 rfl ?_)
    refine ⟨l.length - (j + 1), by omega, j + 1, v29, rfl, by omega, rfl, ?_, yx o29 hfu (by omega), hwz⟩
    rw [zgt hy hx, show zeY y x = [0] by simp [zeY, hk]]
    refine zcE.push i29 ?_ ?_
    ·rfl
    rfl
   refine za (Od zao rfl ?_)
   refine Ol zch rfl (kA.cell' rfl) ?_
   refine Og (vf (zw rfl rfl) (by simp [hk])) rfl ?_
   refine E8 2 7 8 9 17 18 19 26 rfl (zb rfl (zm ?_))
   obtain ⟨f, g, q, hgk, hbf, hlay⟩ := zj2 hfy hk hxr
   have hkl2 : (zeY y x).length = (zjt y x).length + 1 := by simp [zeY, hk]
   refine Sr (Od yM rfl ?_)
   refine Ol zbg rfl (k2.cell' rfl) ?_
   refine Om rfl ?_
   refine Og (zf zaV zbi rfl rfl _ rfl (show j < s.cols.length by omega)) rfl ?_
   refine Og (zg zeX zbi rfl rfl hcellc) rfl ?_
   refine zC (gn rfl) (zG znr rfl rfl ?_)
   intro b10 w10 e10 n10 c10 k10
   refine zC (gn rfl) (zv zbi rfl rfl rfl rfl k10 (by simp [Col.cs]) (Col.one y) ?_)
   intro wB nB cB kB
   refine E7 2 7 9 10 17 18 19 rfl ?_
   have kB : zQ wB b10 25 y.cs := kB
   have hcC : zj [] wA wB := c10.own cB (by intro y hy; simp at hy; omega)
   have kA := kA.chg0 hcC
   have huC := zu.chg0 huB hcC
   have hd : zj (zn u') wB wB.drew := zj.drew _ _
   have hbu : b9 ∉ zn u' := fun hm => zu.apart huC kA rfl b9 hm (by simp)
   have hbv : b10 ∉ zn u' := fun hm => zu.apart huC kB rfl b10 hm (by simp)
   refine zK (fun wz => zj (zn u') wB wz) mix (by kernel_rfl) hd ?_
   refine Tm rfl ?_
   refine zak rfl (gn rfl) (zy zay rfl (vs := [_]) rfl (css := [_]) ⟨rfl, trivial⟩ rfl rfl (cs := [_]) rfl rfl ?_)
   intro b36 w36 e36 n36 c36 k36
   refine ⟨.inl (hd.trans c36), ?_⟩
   refine zak rfl (gn rfl) (yp zay yR rfl rfl (zu.chg0 huC ((zj.drew [] _).trans c36)) (zu.of_blk (n := 1) (c := bv [1]) k36 rfl (by simp [maxLen]) (zb1 _)) (by simp only [maxLen]; omega) (by omega) rfl ?_)
   intro v37 w37 i37 c37 o37 z37
   refine ⟨.inl ((hd.trans c36).transS c37), ?_⟩
   refine Tc zsk rfl rfl rfl (zmP _) ?_
   rintro v38 w38 ⟨b38, rfl, h38, k38, c38⟩
   refine ⟨.inl (((hd.trans c36).transS c37).trans c38), ?_⟩
   refine Td zfE rfl ?_
   refine Tr (fun wz hz => zh zl6 rfl ((kB.chg hz hbv).cell' rfl)) rfl ?_
   refine zak rfl (gn rfl) (St.vl (zcL (κ := zbo .i64) ziw (yq zav) ziI rfl rfl k38 hgk rfl) rfl rfl ?_)
   refine ⟨.inl (((hd.trans c36).transS c37).trans c38), ?_⟩
   refine Tp (fun _ => zgG zqR rfl rfl) rfl ?_
   refine Tr (fun wz hz => zg zeX zbi rfl rfl (zz.of_blk0 (kB.chg hz hbv))) rfl ?_
   refine Tr (fun wz hz => zg za9 yY rfl rfl (zz.of_blk0 (kA.chg hz hbu))) rfl ?_
   refine Tc hbf rfl rfl rfl (hlay _) ?_
   rintro v45 w45 ⟨i45, f45, c45⟩
   refine ⟨.inl ((((hd.trans c36).transS c37).trans c38).trans c45), ?_⟩
   refine zak rfl (gn rfl) (yp zay yR rfl rfl (zu.chg0 (zu.chg0 i37 c38) c45) i45 (by simp only [maxLen]; omega) (by omega) rfl ?_)
   intro v46 w46 i46 c46 o46 z46
   refine ⟨.inl (((((hd.trans c36).transS c37).trans c38).trans c45).trans' c46 (zqL o37 c36.size)), ?_⟩
   refine Ta rfl ?_
   refine zdM [2, 7, 17, 18, 19] (F' := [(2, _), (7, _), (17, _), (18, _), (19, _)]) rfl ?_
   refine zk ?_
   have hcz : zj (zn u') wB w46 := ((((hd.trans c36).transS c37).trans c38).trans c45).trans' c46 (zqL o37 c36.size)
   have hwz := ((hcx.trans hcB).trans hcC).own hcz hfu
   have hs1 := hcx.size
   have hs2 := hcB.size
   have hs0 := hcC.size
   have hs3 : wB.heap.size ≤ w36.heap.size := c36.size
   have hs4 := c37.size
   have hs5 := c38.size
   have hs6 := c45.size
   refine za ?_
   refine Og (zH rfl rfl (by omega)) rfl ?_
   refine Om rfl (N5 2 7 17 18 19 rfl ?_)
   refine ⟨l.length - (j + 1), by omega, j + 1, v46, rfl, by omega, rfl, ?_, yx o46 (yx o37 hfu (by omega)) (by omega), hwz⟩
   rw [zgt hy hx, show zeY y x = 1 :: zjt y x by simp [zeY, hk], List.append_cons]
   refine zcE.push i46 ?_ ?_
   ·rw [List.length_append]; rfl
   rw [yD]
  refine zM ?_
  repeat first | refine te ?_ | refine bo rfl ?_
  refine zt _ ?_
  have he : l.length ≤ j := by have := of_decide_eq_false hF; omega
  rw [List.take_of_length_le he, List.take_of_length_le (by omega)] at hu
  refine Sr (Om rfl (Oa rfl (Oa rfl (E2 4 5 rfl (zi ?_)))))
  repeat first | refine tr ?_ | refine br ?_
  refine zaI rfl rfl rfl ?_
  have hs1 := hcA.size
  rw [hr, if_pos rfl]
  exact ⟨_, rfl, hu, fun b hb => Nat.le_trans hs1 (hfu b hb), hcA.trans hcx⟩
 refine za (Om rfl ?_)
 refine Og (vt (zY rfl rfl) (by simp [hr])) rfl ?_
 refine E4 1 2 6 15 rfl (zd rfl (Sr (Om rfl (Oa rfl (Oa rfl (E2 4 5 rfl (zi ?_)))))))
 repeat first | refine tr ?_ | refine br ?_
 refine zaI rfl rfl rfl ?_
 rw [if_neg hr]
 exact ⟨_, rfl, zu.nil _ _ _, by simp [zn], c2.trans c13⟩
theorem zgL (w : World) : z0 TP 171 #[.bool true] w fun r w' => r = .tuple #[] ∧ w' = w := by
 refine A1 Tryz.func171 rfl rfl ?_
 refine Sr (Om rfl (Og (zS rfl) rfl (E1 3 rfl (zb rfl (yf ?_)))))
 refine zfQ rfl ?_
 exact ⟨rfl, rfl⟩
theorem zaA.apart {w : World} {e k : Nat} {v : Value} {len : Nat} {xs : List Value} (h : zaA w e k v len xs) {b : Nat} {e' : TypeId} {c : List Value} (hb : zQ w b e' c) (hne : Nat.beq e e' = false) : ∀ x ∈ zn v, x ∉ [b] := by
 rcases h with ⟨rfl, _⟩ | ⟨b', off, cap, c', fr, rfl, h, _⟩
 ·simp [zn]
 intro x hx hm
 simp [zn] at hx
 simp at hm
 subst hx hm
 unfold zQ at hb
 rw [h] at hb
 cases hb
 simp at hne
def y8 (w : World) (t : Value) (l : List UInt8) (b : Nat) : Prop := t = Pt b ∧ ∃ v, zQ w b 237 [v] ∧ zaA w 5 1 v l.length (bv l) ∧ b ∉ zn v
theorem y8.chg0 {w w' : World} {t : Value} {l : List UInt8} {b : Nat} (h : y8 w t l b) (hc : zj [] w w') : y8 w' t l b :=
 let ⟨h1, v, h2, h3, h4⟩ := h; ⟨h1, v, h2.chg0 hc, h3.chg0 hc, h4⟩
theorem y8.lt {w : World} {t : Value} {l : List UInt8} {b : Nat} (h : y8 w t l b) : b < w.heap.size :=
 let ⟨_, _, h2, _⟩ := h; h2.lt
theorem y8.chg {w w' : World} {t : Value} {l : List UInt8} {b : Nat} {S : List Nat} (h : y8 w t l b) (hc : zj S w w') (hS : ∀ y ∈ S, y ≠ b ∧ ∃ e c, zQ w y e c ∧ Nat.beq 5 e = false) : y8 w' t l b := by
 obtain ⟨h1, v, h2, h3, h4⟩ := h
 refine ⟨h1, v, h2.chg hc (fun hm => (hS b hm).1 rfl), h3.chg hc (fun y hy hm => ?_), h4⟩
 obtain ⟨_, e, c, hb, hne⟩ := hS y hm
 exact h3.apart hb hne y hy (by simp)
theorem zqA {w : World} {p : Option Addr} {n cap : Nat} {l m : List UInt8} {z : Nat} (h : zaA w 5 1 (.slice p n cap) (l ++ m).length (bv (l ++ m))) (hz : l.length = z) (hc : (l ++ m).length ≤ cap) (k : Nat) (h1 : z ≤ k) (h2 : k ≤ cap) : zaA w 5 1 (cut p 0 z k 1) l.length (bv l) := by
 obtain ⟨p', c', he, _⟩ := h.val
 cases he
 subst hz
 have := h.cut (l := 0) (h := l.length) (m := k) (by omega) h1 h2 (by simp)
 rw [yD] at this
 simpa [zck] using this
theorem zqS {w : World} {p : Option Addr} {n cap : Nat} {l m : List UInt8} {z : Nat} (h : zaA w 5 1 (.slice p n cap) (l ++ m).length (bv (l ++ m))) (hz : l.length = z) (hc : (l ++ m).length ≤ cap) : zaA w 5 1 (cut p z n cap 1) m.length (bv m) := by
 obtain ⟨p', c', he, _⟩ := h.val
 cases he
 subst hz
 have := h.cut (l := l.length) (h := (l ++ m).length) (m := cap) (by simp) hc (Nat.le_refl _) (by simp)
 rw [yD] at this
 simp only [Nat.mul_one, List.length_append, Nat.add_sub_cancel_left] at this
 rw [List.drop_left' (zck _), List.take_of_length_le (by rw [zck]; omega)] at this
 simpa using this
theorem zs0 (v : Value) (l m : List UInt8) (w : World) (z : Nat) (hz : l.length = z) (hv : zaA w 5 1 v (l ++ m).length (bv (l ++ m))) : z0 TP 231 #[v, Ii z] w fun r w' => zaA w' 5 1 r l.length (bv l) ∧ (∀ x ∈ zn r, x ∈ zn v) ∧ w' = w := by
 obtain ⟨p, cap, rfl, hcap⟩ := hv.val
 have hzl : z ≤ (l ++ m).length := by rw [List.length_append]; omega
 refine A2 Tryz.func231 rfl rfl ?_
 refine Sr (Oa rfl (E2 0 1 rfl (Sr (Om rfl (Om rfl (On zm8 rfl ?_))))))
 refine Og (vt (za1 rfl rfl) (decide_eq_true (by omega))) rfl ?_
 refine Oc zij rfl rfl rfl (zgL _) ?_
 rintro v9 w9 ⟨rfl, rfl⟩
 refine E2 0 1 rfl (Sr (Om rfl (Om rfl (Om rfl ?_))))
 refine Og (ze4 zm8 sz5 rfl rfl rfl _ _ rfl rfl (Nat.le_refl _) (by omega)) rfl ?_
 refine Oa rfl (E1 4 rfl (zi ?_))
 refine zD rfl rfl ?_
 exact ⟨zqA hv hz hcap _ (Nat.le_refl _) (by omega), zu.cutBlk, rfl⟩
theorem zgA (t : Value) (b : Nat) (l m : List UInt8) (w : World) (z : Nat) (hz : l.length = z) (ht : y8 w t (l ++ m) b) : z0 TP 165 #[t, Ii z] w fun r w' => zaA w' 5 1 r l.length (bv l) ∧ y8 w' t m b ∧ zj [b] w w' := by
 obtain ⟨rfl, v, hb, hv, hbv⟩ := ht
 obtain ⟨p, cap, rfl, hcap⟩ := id hv.val
 have hzl : z ≤ (l ++ m).length := by rw [List.length_append]; omega
 refine A2 Tryz.func165 rfl rfl ?_
 refine Sr (Oa rfl (E2 0 1 rfl (Sr (Om rfl (Og (zE rfl) rfl (Od zfV rfl ?_))))))
 refine Ol zmG rfl (hb.cell' rfl) ?_
 refine Om rfl ?_
 refine Oc zvr rfl rfl rfl (zs0 _ l m _ z hz hv) ?_
 rintro v11 w11 ⟨i11, q11, rfl⟩
 refine Oa rfl (E3 0 1 5 rfl (Sr (Om rfl (Om rfl (Og (zE rfl) rfl (Od zfV rfl ?_))))))
 refine Ol zmG rfl (hb.cell' rfl) ?_
 refine Om rfl ?_
 refine Og (zaC zm8 sz5 rfl rfl _ rfl (by omega)) rfl ?_
 refine Og (zE rfl) rfl (Od zfV rfl ?_)
 refine zC (gn rfl) (zv zvQ rfl rfl rfl rfl hb (by simp) (by intro u hu; rcases List.mem_cons.1 hu with rfl | hu; rfl; cases hu) ?_)
 intro wA nA cA kA
 refine E1 5 rfl (Sr (Om rfl (Oa rfl (E1 4 rfl (zi ?_)))))
 refine zD rfl rfl ?_
 have hbA : ∀ x ∈ zn (cut p z (l ++ m).length cap 1), x ∉ [b] := fun x hx hm => hbv (by rw [← List.mem_singleton.1 hm]; exact zu.cutBlk x hx)
 exact ⟨i11.chg cA (fun x hx hm => hbv (by rw [← List.mem_singleton.1 hm]; exact q11 x hx)), ⟨rfl, _, kA, (zqS hv hz hcap).chg cA hbA, fun hm => hbA b hm (by simp)⟩, cA⟩
theorem zrm (c : Col) (x : Int) (t : Value) (b : Nat) (m : List UInt8) (w : World) (hz : c.s = 1 ∨ c.s = 2 ∨ c.s = 4 ∨ c.s = 8) (hx : zbs c.s ≤ x ∧ x ≤ -(zbs c.s + 1)) (ht : y8 w t (be (x % 18446744073709551616).toNat c.s.toNat ++ m) b) :
 z0 TP 163 #[c.v, t] w fun r w' => r = (zN.mk 1 x 0 e0).v ∧ y8 w' t m b ∧ zj [b] w w' := by
 obtain ⟨z, hz1, hz2⟩ : ∃ z : Nat, c.s = z ∧ (z = 1 ∨ z = 2 ∨ z = 4 ∨ z = 8) := ⟨c.s.toNat, by omega, by omega⟩
 rw [hz1] at ht hx
 have hib := zoV (i := x) hz2 hx
 refine A2 Tryz.func163 rfl rfl ?_
 refine Sr ?_
 refine Ob rfl rfl ?_
 intro b2 w2 e2 n2 c2 k2
 refine zC (gn rfl) (zG zdT rfl rfl ?_)
 intro b4 w4 e4 n4 c4 k4
 refine E3 1 2 4 rfl (Sr (Om rfl (Od zbz rfl ?_)))
 refine Ol ag3 rfl ((k2.chg0 c4).cell' (show _ = some (Value.int .i64 (z : Int)) by rw [← hz1]; rfl)) ?_
 refine Oc ziu rfl rfl rfl (zgA t b _ m _ z (zaZ _ _) (ht.chg0 (c2.trans c4))) ?_
 rintro v12 w12 ⟨i12, t12, c12⟩
 refine Oc zsd rfl rfl rfl (zg0 _ _ _ i12 (by rw [zaZ]; omega)) ?_
 rintro v13 w13 ⟨rfl, rfl⟩
 refine Om rfl (Oe rfl rfl (Oe rfl rfl (Oa rfl (Oa rfl (E3 2 4 5 rfl ?_)))))
 have hbl := ht.lt
 have hs2 := c2.size
 have hs4 := c4.size
 have k2 := (k2.chg0 c4).chg c12 (by simp; omega)
 have k4 := k4.chg c12 (by simp; omega)
 refine Sr (Od zbz rfl ?_)
 refine Ol ag3 rfl (k2.cell' (show _ = some (Value.int .i64 (z : Int)) by rw [← hz1]; rfl)) ?_
 refine Og (zcM rfl rfl (by omega)) rfl ?_
 refine Og (yG rfl rfl (by omega)) rfl ?_
 refine Oa rfl (E3 4 5 7 rfl (ze ?_))
 rw [zi1]
 refine za (Om rfl ?_)
 refine Og (yn zdI zbj rfl rfl) rfl ?_
 refine Om rfl ?_
 refine Og (zdq (64 - 8 * z) rfl rfl (by omega) (by simp only [IntKind.bits]; omega) rfl) rfl ?_
 refine Om rfl ?_
 refine Og (zbF (64 - 8 * z) rfl rfl (by omega) (by simp only [IntKind.bits]; omega) hib) rfl ?_
 refine Og (zX zns zdT rfl (vs := [_, _]) rfl (css := [_, _]) ⟨rfl, rfl, trivial⟩ rfl rfl (cs := [_, _, _, _]) rfl) rfl ?_
 refine zC (gn rfl) (zv yY rfl rfl rfl rfl k4 (by simp) (zN.one ⟨1, x, 0, e0⟩) ?_)
 intro wA nA cA kA
 refine E1 4 rfl (zi ?_)
 refine zjP rfl za9 yY rfl rfl (zz.of_blk0 kA) ?_
 have hcz : zj [b] w wA := ((((zj.refl [b] w).trans c2).trans c4).transS c12).trans' cA (by intro y hy; simp at hy; subst hy; right; omega)
 exact ⟨rfl, t12.chg cA (by intro y hy; simp at hy; subst hy; exact ⟨by omega, _, _, k4, rfl⟩), hcz⟩
theorem zrc (c : Col) (n : Nat) (t : Value) (b : Nat) (m : List UInt8) (w : World) (hz : c.s = 1 ∨ c.s = 2 ∨ c.s = 4 ∨ c.s = 8) (hx : (n : Int) < 2 ^ (8 * c.s.toNat)) (ht : y8 w t (be n c.s.toNat ++ m) b) :
 z0 TP 168 #[c.v, t] w fun r w' => r = (zN.mk 2 0 n e0).v ∧ y8 w' t m b ∧ zj [b] w w' := by
 obtain ⟨z, hz1, hz2⟩ : ∃ z : Nat, c.s = z ∧ (z = 1 ∨ z = 2 ∨ z = 4 ∨ z = 8) := ⟨c.s.toNat, by omega, by omega⟩
 rw [hz1] at ht hx
 have hn : n % 256 ^ z = n := by
  refine Nat.mod_eq_of_lt ?_
  rcases hz2 with rfl | rfl | rfl | rfl <;> simp only [Int.toNat_natCast, Nat.reduceMul, Nat.reducePow, Int.reducePow] at hx ⊢ <;> omega
 refine A2 Tryz.func168 rfl rfl ?_
 refine Sr ?_
 refine Ob rfl rfl ?_
 intro b2 w2 e2 n2 c2 k2
 refine zC (gn rfl) (zG zdT rfl rfl ?_)
 intro b4 w4 e4 n4 c4 k4
 refine E3 1 2 4 rfl (Sr (Om rfl (Od zbz rfl ?_)))
 refine Ol ag3 rfl ((k2.chg0 c4).cell' (show _ = some (Value.int .i64 (z : Int)) by rw [← hz1]; rfl)) ?_
 refine Oc ziu rfl rfl rfl (zgA t b _ m _ z (zaZ _ _) (ht.chg0 (c2.trans c4))) ?_
 rintro v11 w11 ⟨i11, t11, c11⟩
 refine Oc zsd rfl rfl rfl (zg0 _ _ _ i11 (by rw [zaZ]; omega)) ?_
 rintro v12 w12 ⟨rfl, rfl⟩
 refine Om rfl (Oe rfl rfl (Oe rfl rfl (Oa rfl (Oa rfl (E2 4 5 rfl ?_)))))
 have hbl := ht.lt
 have hs2 := c2.size
 have hs4 := c4.size
 have k4 := k4.chg c11 (by simp; omega)
 refine ze ?_
 rw [zi1, hn]
 refine za (Om rfl ?_)
 refine Og (ziB zns zdT rfl (qs := [(0, _), (2, _)]) rfl (css := [_, _]) ⟨rfl, rfl, trivial⟩ (cs := [_, _, _, _]) rfl) rfl ?_
 refine zC (gn rfl) (zv yY rfl rfl rfl rfl k4 (by simp) (zN.one ⟨2, 0, n, e0⟩) ?_)
 intro wA nA cA kA
 refine E1 4 rfl (zi ?_)
 refine zjP rfl za9 yY rfl rfl (zz.of_blk0 kA) ?_
 have hcz : zj [b] w wA := ((((zj.refl [b] w).trans c2).trans c4).transS c11).trans' cA (by intro y hy; simp at hy; subst hy; right; omega)
 exact ⟨rfl, t11.chg cA (by intro y hy; simp at hy; subst hy; exact ⟨by omega, _, _, k4, rfl⟩), hcz⟩
theorem zqY (c : Col) (x : Int) (t : Value) (b : Nat) (m : List UInt8) (w : World) (hx : x = 0 ∨ x = 1) (ht : y8 w t ([UInt8.ofNat x.toNat] ++ m) b) :
 z0 TP 170 #[c.v, t] w fun r w' => r = (zN.mk 3 x 0 e0).v ∧ y8 w' t m b ∧ zj [b] w w' := by
 have hx1 : ((UInt8.ofNat x.toNat).toNat : Int) = x := by rcases hx with rfl | rfl <;> rfl
 refine A2 Tryz.func170 rfl rfl ?_
 refine Sr ?_
 refine Ob rfl rfl ?_
 intro b2 w2 e2 n2 c2 k2
 refine zC (gn rfl) (zG zdT rfl rfl ?_)
 intro b4 w4 e4 n4 c4 k4
 refine E2 1 4 rfl (Sr (Om rfl ?_))
 refine Oc ziu rfl rfl rfl (zgA t b _ m _ 1 rfl (ht.chg0 (c2.trans c4))) ?_
 rintro v7 w7 ⟨i7, t7, c7⟩
 obtain ⟨bb, off, cap, rfl, hcell⟩ := i7.at1 (i := 0) (u := .int .u8 x) (by rcases hx with rfl | rfl <;> rfl)
 refine Og (zf yR sz5 rfl rfl 0 rfl (by simp)) rfl ?_
 refine Ol ag5 rfl hcell ?_
 refine Oa rfl (E2 4 5 rfl ?_)
 have hbl := ht.lt
 have hs2 := c2.size
 have hs4 := c4.size
 have k4 := k4.chg c7 (by simp; omega)
 refine Sr (Om rfl ?_)
 refine Og (vt (za1 rfl rfl) (decide_eq_true (by omega))) rfl ?_
 refine Oc zij rfl rfl rfl (zgL _) ?_
 rintro v12 w12 ⟨rfl, rfl⟩
 refine E2 4 5 rfl (Sr (Om rfl ?_))
 refine Og (yn zdI zap rfl (show IntKind.i64.wrap x = x by rcases hx with rfl | rfl <;> rfl)) rfl ?_
 refine Og (zX zns zdT rfl (vs := [_, _]) rfl (css := [_, _]) ⟨rfl, rfl, trivial⟩ rfl rfl (cs := [_, _, _, _]) rfl) rfl ?_
 refine zC (gn rfl) (zv yY rfl rfl rfl rfl k4 (by simp) (zN.one ⟨3, x, 0, e0⟩) ?_)
 intro wA nA cA kA
 refine E1 4 rfl (zi ?_)
 refine zjP rfl za9 yY rfl rfl (zz.of_blk0 kA) ?_
 have hcz : zj [b] w wA := ((((zj.refl [b] w).trans c2).trans c4).transS c7).trans' cA (by intro y hy; simp at hy; subst hy; right; omega)
 exact ⟨rfl, t7.chg cA (by intro y hy; simp at hy; subst hy; exact ⟨by omega, _, _, k4, rfl⟩), hcz⟩
theorem zvm (t : Value) (b : Nat) (s : ByteArray) (m : List UInt8) (w : World) (hs : s.size ≤ 1048576) (hm : m.length ≤ 1048576) (ht : y8 w t (zb3 s ++ m) b) :
 z0 TP 176 #[t, .func (.func 177) #[] #[]] w fun r w' => r = .string s ∧ y8 w' t m b ∧ zj [b] w w' := by
 obtain ⟨rfl, v, hb, hv, hbv⟩ := id ht
 refine A2 Tryz.func176 rfl rfl ?_
 refine Sr (Oa rfl (E2 0 1 rfl (Sr (Om rfl (Om rfl (Og (zE rfl) rfl (Od zfV rfl ?_)))))))
 refine Ol zmG rfl (hb.cell' rfl) ?_
 refine Oc zvE rfl rfl rfl (zlu v s m _ hs hm hv) ?_
 rintro v14 w14 ⟨rfl, c14⟩
 refine Om rfl (Oe rfl rfl (Oe rfl rfl (Oe rfl rfl (Oa rfl (Oa rfl (Oa rfl (E4 0 5 6 7 rfl (Sr (Om rfl ?_)))))))))
 refine Og (vt (zw rfl rfl) (decide_eq_true (by omega))) rfl ?_
 refine Oc zij rfl rfl rfl (zgL _) ?_
 rintro v20 w20 ⟨rfl, rfl⟩
 refine E3 0 5 6 rfl (Sr (Om rfl (Om rfl ?_)))
 refine Oc ziu rfl rfl rfl (zgA _ b (zb3 s) m _ (zb3 s).length rfl (ht.chg0 c14)) ?_
 rintro v23 w23 ⟨i23, t23, c23⟩
 refine E1 5 rfl (Sr (Om rfl (Oa rfl (E1 4 rfl (zi ?_)))))
 refine zD rfl rfl ?_
 exact ⟨rfl, t23, ((zj.refl [b] w).trans c14).transS c23⟩
theorem zqh (c : Col) (s : ByteArray) (t : Value) (b : Nat) (m : List UInt8) (w : World) (hs : s.size ≤ 200) (hz : s.size ≤ c.s) (hm : m.length ≤ 1048576) (ht : y8 w t (zb3 s ++ m) b) :
 z0 TP 175 #[c.v, t] w fun r w' => r = (zN.mk 4 0 0 s).v ∧ y8 w' t m b ∧ zj [b] w w' := by
 refine A2 Tryz.func175 rfl rfl ?_
 refine Sr ?_
 refine Ob rfl rfl ?_
 intro b2 w2 e2 n2 c2 k2
 refine zC (gn rfl) (zG zdT rfl rfl ?_)
 intro b4 w4 e4 n4 c4 k4
 refine E3 1 2 4 rfl (Sr (Om rfl ?_))
 refine Oc zu8 rfl rfl rfl (zvm t b s m _ (by omega) hm (ht.chg0 (c2.trans c4))) ?_
 rintro v7 w7 ⟨rfl, t7, c7⟩
 refine Oa rfl (E3 2 4 5 rfl ?_)
 have hbl := ht.lt
 have hs2 := c2.size
 have hs4 := c4.size
 have k2 := (k2.chg0 c4).chg c7 (by simp; omega)
 have k4 := k4.chg c7 (by simp; omega)
 refine Sr (Om rfl ?_)
 refine Og (yN st9 rfl) rfl ?_
 refine Od zbz rfl ?_
 refine Ol ag3 rfl (k2.cell' rfl) ?_
 refine Og (vt (za1 rfl rfl) (decide_eq_true (by omega))) rfl ?_
 refine Oc zij rfl rfl rfl (zgL _) ?_
 rintro v13 w13 ⟨rfl, rfl⟩
 refine E2 4 5 rfl (Sr (Om rfl ?_))
 refine Og (ziB zns zdT rfl (qs := [(0, _), (3, _)]) rfl (css := [_, _]) ⟨rfl, rfl, trivial⟩ (cs := [_, _, _, _]) rfl) rfl ?_
 refine zC (gn rfl) (zv yY rfl rfl rfl rfl k4 (by simp) (zN.one ⟨4, 0, 0, s⟩) ?_)
 intro wA nA cA kA
 refine E1 4 rfl (zi ?_)
 refine zjP rfl za9 yY rfl rfl (zz.of_blk0 kA) ?_
 have hcz : zj [b] w wA := ((((zj.refl [b] w).trans c2).trans c4).transS c7).trans' cA (by intro y hy; simp at hy; subst hy; right; omega)
 exact ⟨rfl, t7.chg cA (by intro y hy; simp at hy; subst hy; exact ⟨by omega, _, _, k4, rfl⟩), hcz⟩
theorem zlM {c : Col} {x : zN} (h : y7 c x = 0) (hk : x.k ≠ 0) : ∃ f g k, zdA zl7 c.t = some (zio f g k) ∧ zp TP g = true ∧ ∀ w t b m, m.length ≤ 1048576 → y8 w t (zjt c x ++ m) b → z0 TP g #[c.v, t] w fun r w' => r = x.v ∧ y8 w' t m b ∧ zj [b] w w' := by
 obtain ⟨hr, hc, _, h2⟩ := zbY h
 obtain ⟨hkt, hw⟩ := h2 hk
 obtain ⟨hf, hb⟩ := zdm hc
 obtain ⟨_, hbr, hm⟩ := zbC hf
 obtain ⟨s1, s2, s3, s4⟩ := zec hr
 obtain ⟨k, i, u, by'⟩ := x
 unfold zjt
 simp only [za3] at hw
 simp only [zeo, zN.mk.injEq] at hbr
 rcases s4 with e | e | e | e <;> simp only [e, ↓reduceIte, Int.reduceEq] <;> simp only [e, ↓reduceIte, Int.reduceEq, decide_eq_false_iff_not] at hw hkt <;> subst hkt <;> simp at hbr <;> (try obtain ⟨h1, h2⟩ := hbr) <;> subst_vars
 ·exact ⟨_, _, _, rfl, zvJ, fun w t b m _ ht => zrm c i t b m w (s1 (.inl e)) (by omega) ht⟩
 ·exact ⟨_, _, _, rfl, zwl, fun w t b m _ ht => zrc c u t b m w (s1 (.inr e)) (by omega) ht⟩
 ·exact ⟨_, _, _, rfl, zwG, fun w t b m _ ht => zqY c i t b m w (hm rfl) ht⟩
 exact ⟨_, _, _, rfl, zul, fun w t b m hl ht => zqh c by' t b m w hb (by omega) hl ht⟩
theorem znp {cs : List Col} {xs : List zN} {j : Nat} {c : Col} {x : zN} (hc : cs[j]? = some c) (hx : xs[j]? = some x) : zcd (cs.drop j) (xs.drop j) = zeY c x ++ zcd (cs.drop (j + 1)) (xs.drop (j + 1)) := by
 obtain ⟨h1, rfl⟩ := List.getElem?_eq_some_iff.1 hc
 obtain ⟨h2, rfl⟩ := List.getElem?_eq_some_iff.1 hx
 rw [List.drop_eq_getElem_cons h1, List.drop_eq_getElem_cons h2]
 rfl
theorem zhJ : ∀ {cs : List Col} {xs : List zN} (j : Nat), zaM cs xs = 0 → zaM (cs.drop j) (xs.drop j) = 0
 | _, _, 0, h => by simpa using h
 | [], _, _ + 1, _ => by simp [zaM]
 | _ :: _, [], _ + 1, _ => by simp [zaM]
 | c :: cs, x :: xs, j + 1, h => by
  unfold zaM at h
  by_cases h1 : y7 c x = 0
  ·rw [if_neg (by simp [h1])] at h
   exact zhJ j h
  rw [if_pos h1] at h; exact absurd h h1
theorem y8.chgSl {w w' : World} {t o : Value} {l : List UInt8} {b e k n : Nat} {xs : List Value} (h : y8 w t l b) (ho : zu w e k o n xs) (h1 : Nat.beq 5 e = false) (h2 : Nat.beq e 237 = false) (hc : zj (zn o) w w') : y8 w' t l b := by
 refine h.chg hc fun y hy => ?_
 obtain ⟨_, v, hb, _⟩ := h
 rcases ho with ⟨rfl, _⟩ | ⟨b', off, cap, c, rfl, hs⟩
 ·simp [zn] at hy
 simp [zn] at hy
 subst hy
 exact ⟨hs.blk.ne hb h2, _, _, hs.blk, h1⟩
theorem y8.nl {w : World} {t : Value} {l : List UInt8} {b : Nat} (h : y8 w t l b) : Nl w [b] := by
 obtain ⟨_, v, hb, hv, _⟩ := h
 obtain ⟨p, c, rfl, _⟩ := hv.val
 exact Nl.one hb (by intro u hu; simp at hu; subst hu; rfl)
theorem zuP (c k u t : Value) (s : ym) (l : List zN) (b : Nat) (w : World) (hs : yV w c k u s) (hr : yP s l = 0) (ht : y8 w t (zcd s.cols l) b) :
 z0 TP 142 #[t, .agg #[c, k, u]] w fun r w' => zaS w' r l ∧ (∀ y ∈ zn r, w.heap.size ≤ y) ∧ y8 w' t [] b ∧ zj [b] w w' := by
 obtain ⟨hrs, hlen, hfit⟩ := zar hr
 have h8 := (zW hrs).1
 have hbl := ht.lt
 obtain ⟨pc, cc, rfl, hcc⟩ := ya.val hs.cols
 refine A2 Tryz.func142 rfl rfl ?_
 refine Sr ?_
 refine Ob rfl rfl ?_
 intro b3 w3 e3 n3 c3 k3
 refine Oa rfl (E3 0 3 4 rfl (ze (Sr (Od yM rfl ?_))))
 refine Ol zbg rfl (k3.cell' rfl) ?_
 refine On zaV rfl (Om rfl (E5 0 4 10 11 12 rfl (zq ?_)))
 refine zZ [0, 4, 10, 11, 12] (fun m F wx => ∃ (j : Nat) (o : Value), m = s.cols.length - j ∧ j ≤ s.cols.length ∧ F = [(0, t), (4, o), (10, .slice pc s.cols.length cc), (11, Ii s.cols.length), (12, Ii j)] ∧ yo wx 40 4 zN.cs o (l.take j) ∧ (∀ b ∈ zn o, w3.heap.size ≤ b) ∧ y8 wx t (zcd (s.cols.drop j) (l.drop j)) b ∧ zj [b] w3 wx) (m := s.cols.length - 0) ⟨0, _, rfl, Nat.zero_le _, rfl, zu.nil _ _ _, by simp [zn], ht.chg0 c3, zj.refl _ _⟩ ?_
 rintro m F wx ⟨j, o, rfl, hj, rfl, ho, hfo, htx, hcx⟩
 refine Sr (Og (zB rfl rfl) rfl (E6 0 4 10 11 12 13 rfl (ze ?_)))
 refine zR rfl (fun hT => ?_) (fun hF => ?_)
 ·refine zm ?_
  have hlt : j < s.cols.length := by have := of_decide_eq_true hT; omega
  have hx : l[j]? = some (l[j]'(by omega)) := by simp [hlt, hlen]
  have hy : s.cols[j]? = some s.cols[j] := by simp [hlt]
  generalize l[j]'(by omega) = x at hx
  generalize s.cols[j] = y at hy
  have hfy := zfT hfit hy hx
  have hel := zhx hfy
  have hrl := zd3 (zhJ (j + 1) hfit)
  rw [List.length_drop] at hrl
  rw [znp hy hx] at htx
  have htl : (l.take j).length = j := by rw [List.length_take]; omega
  have hcols : zjn wx (.slice pc s.cols.length cc) s.cols := ya.chgC (ya.chg0 hs.cols c3) hcx zmD (ht.chg0 c3).nl
  obtain ⟨bc, offc, capc, hvc, hcellc⟩ := ya.at zaT hcols hy
  cases hvc
  refine ze (zq (Sr ?_))
  refine Og (zf zaV zbi rfl rfl _ rfl hlt) rfl ?_
  refine Og (zg zeX zbi rfl rfl hcellc) rfl ?_
  refine zC (gn rfl) (zG znr rfl rfl ?_)
  intro b6 w6 e6 n6 c6 k6
  refine zC (gn rfl) (zv zbi rfl rfl rfl rfl k6 (by simp [Col.cs]) (Col.one y) ?_)
  intro wA nA cA kA
  refine E6 0 4 6 10 11 12 rfl ?_
  have kA : zQ wA b6 25 y.cs := kA
  have hcA : zj [] wx wA := c6.own cA (by intro y hy; simp at hy; omega)
  have hbx := htx.lt
  have hob : ∀ z ∈ zn o, z ∉ [b] := by
   obtain ⟨_, v, hv, _⟩ := htx
   exact zu.apart ho hv rfl
  refine ze ?_
  by_cases hk : x.k = 0
  ·rw [show zeY y x = [0] by simp [zeY, hk]] at htx
   have hyz : y.z = true := (zbY hfy).2.2.1 hk
   refine za (Om rfl ?_)
   refine Oc ziu rfl rfl rfl (zgA t b [0] _ _ 1 rfl (htx.chg0 hcA)) ?_
   rintro v17 w17 ⟨i17, t17, c17⟩
   obtain ⟨bb, off, cap, rfl, hcell⟩ := i17.at1 (i := 0) (u := .int .u8 0) rfl
   refine Og (zf yR sz5 rfl rfl 0 rfl (by simp)) rfl ?_
   refine Ol ag5 rfl hcell ?_
   refine Oa rfl (E7 0 4 6 7 10 11 12 rfl ?_)
   have kA := kA.chg c17 (by simp; omega)
   refine Sr (Om rfl ?_)
   refine Og (vf (zw rfl rfl) (decide_eq_false (by omega))) rfl ?_
   refine Om rfl (Oj rfl rfl ?_)
   refine Oy rfl rfl (vt (zw rfl rfl) (decide_eq_true (by omega))) ?_
   refine Oj rfl rfl ?_
   refine Oy rfl rfl (zl zfA rfl) ?_
   refine Oy rfl rfl (zh ag4 rfl (kA.cell' (show _ = some (Value.bool true) by rw [← hyz]; rfl))) ?_
   refine Oy rfl rfl (zI rfl rfl) ?_
   refine Of rfl ?_
   refine Oc zij rfl rfl rfl (zgL _) ?_
   rintro v30 w30 ⟨rfl, rfl⟩
   refine E7 0 4 6 7 10 11 12 rfl (Sr ?_)
   refine zC (gn rfl) (zG zdT rfl rfl ?_)
   intro b8 w8 e8 n8 c8 k8
   refine E8 0 4 6 7 8 10 11 12 rfl (ze (Sr (Om rfl ?_)))
   refine Og (vf (zw rfl rfl) (decide_eq_false (by omega))) rfl ?_
   refine E8 0 4 6 8 10 11 12 32 rfl (zb rfl (zm ?_))
   have ho30 : yo w30 40 4 zN.cs o (l.take j) := yo.chg (yo.chg0 ho hcA) c17 hob
   have hnull : x = zN.null := by
    obtain ⟨k, i, u, by'⟩ := x
    have := (zbC (zdm (zbY hfy).2.1).1).2.1
    simp only at hk
    subst hk
    simpa [zeo, zN.null] using this
   subst hnull
   have k8 : zQ w8 b8 40 zN.null.cs := k8
   have hcB : zj [b] wx w8 := ((zj.refl [b] wx).trans hcA).transS c17 |>.trans c8
   refine za (Om rfl ?_)
   refine Og (zg za9 yY rfl rfl (zz.of_blk0 k8)) rfl ?_
   refine zC (gn rfl) (zy zg5 rfl (vs := [_]) rfl (css := [_]) ⟨rfl, trivial⟩ rfl rfl (cs := [_, _, _, _]) rfl rfl ?_)
   intro b43 w43 e43 n43 c43 k43
   refine zC (gn rfl) (yp zg5 zai rfl rfl (yo.chg0 (yo.chg0 ho30 c8) c43) (zu.of_blk (n := 1) k43 rfl (by simp [maxLen]) (zN.one _)) (by simp only [maxLen]; omega) (by omega) rfl ?_)
   intro v44 w44 i44 c44 o44 z44
   refine Oa rfl (N5 0 4 10 11 12 rfl (zk ?_))
   have hs0 := hcx.size
   have hs1 := hcB.size
   have hs3 := c43.size
   have hwz := hcx.trans' ((((zj.refl (zn o ++ [b]) wx).trans' hcB (by simp)).trans c43).trans' c44 (fun z hz => .inl (by simp [hz]))) (by
    intro z hz
    rcases List.mem_append.1 hz with hz | hz
    ·exact .inr (hfo z hz)
    exact .inl hz)
   refine za ?_
   refine Og (zH rfl rfl (by omega)) rfl ?_
   refine Om rfl (N5 0 4 10 11 12 rfl ?_)
   refine ⟨s.cols.length - (j + 1), by omega, j + 1, v44, rfl, by omega, rfl, ?_, yx o44 hfo (by omega), ?_, hwz⟩
   ·rw [List.take_add_one, hx]
    exact ya.push i44 rfl rfl
   exact ((t17.chg0 c8).chg0 c43).chgSl (zu.chg0 (zu.chg0 ho30 c8) c43) rfl rfl c44
  rw [show zeY y x = 1 :: zjt y x by simp [zeY, hk]] at htx
  refine za (Om rfl ?_)
  refine Oc ziu rfl rfl rfl (zgA t b [1] _ _ 1 rfl (htx.chg0 hcA)) ?_
  rintro v17 w17 ⟨i17, t17, c17⟩
  obtain ⟨bb, off, cap, rfl, hcell⟩ := i17.at1 (i := 0) (u := .int .u8 1) rfl
  refine Og (zf yR sz5 rfl rfl 0 rfl (by simp)) rfl ?_
  refine Ol ag5 rfl hcell ?_
  refine Oa rfl (E7 0 4 6 7 10 11 12 rfl ?_)
  have kA := kA.chg c17 (by simp; omega)
  refine Sr (Om rfl ?_)
  refine Og (vt (zw rfl rfl) (decide_eq_true (by omega))) rfl ?_
  refine Om rfl (Oz rfl rfl (Oz rfl rfl (Oz rfl rfl ?_)))
  refine zF rfl rfl rfl rfl rfl ?_
  refine zF rfl rfl rfl rfl rfl ?_
  refine Oz rfl rfl (Ot rfl ?_)
  refine Oc zij rfl rfl rfl (zgL _) ?_
  rintro v30 w30 ⟨rfl, rfl⟩
  refine E7 0 4 6 7 10 11 12 rfl (Sr ?_)
  refine zC (gn rfl) (zG zdT rfl rfl ?_)
  intro b8 w8 e8 n8 c8 k8
  refine E8 0 4 6 7 8 10 11 12 rfl (ze (Sr (Om rfl ?_)))
  refine Og (vt (zw rfl rfl) (decide_eq_true (by omega))) rfl ?_
  refine E8 0 4 6 8 10 11 12 32 rfl (zd rfl ?_)
  obtain ⟨f, g, q, hgk, hbf, hread⟩ := zlM hfy hk
  have hsz := (((zj.refl [b] wx).trans hcA).transS c17).size
  have kA := kA.chg0 c8
  refine zK (fun wz => zj [] w8 wz) mix (by kernel_rfl) (zj.drew [] _) ?_
  refine Tc zsk rfl rfl rfl (zmP _) ?_
  rintro v33 w33 ⟨b33, rfl, h33, k33, c33⟩
  refine ⟨.inl ((zj.drew [] _).trans c33), ?_⟩
  refine Td zfE rfl ?_
  refine Tr (fun wz hz => zh zl6 rfl ((kA.chg0 hz).cell' rfl)) rfl ?_
  refine zak rfl (gn rfl) (St.vl (zcL (κ := zbo .i64) ziw (yq zav) ziI rfl rfl k33 hgk rfl) rfl rfl ?_)
  refine ⟨.inl ((zj.drew [] _).trans c33), ?_⟩
  refine Tp (fun _ => zgG zrd rfl rfl) rfl ?_
  refine Tr (fun wz hz => zg zeX zbi rfl rfl (zz.of_blk0 (kA.chg0 hz))) rfl ?_
  refine Tm rfl ?_
  refine Tc hbf rfl rfl rfl (hread _ t b _ (by omega) (t17.chg0 ((c8.trans (zj.drew [] _)).trans c33))) ?_
  rintro v40 w40 ⟨rfl, t40, c40⟩
  refine ⟨.inr (by kernel_rfl), ?_⟩
  refine zak rfl (gn rfl) (zv yY rfl rfl rfl rfl (((k8.chg0 (zj.drew [] _)).chg0 c33).chg c40 (by simp; omega)) (by simp [zN.cs]) (zN.one x) ?_)
  intro wB nB cB kB
  refine ⟨.inr (by kernel_rfl), ?_⟩
  refine D6 0 4 8 10 11 12 rfl ?_
  have kB : zQ wB b8 40 x.cs := kB
  have hcB : zj [b] wx w8 := ((zj.refl [b] wx).trans hcA).transS c17 |>.trans c8
  have hs0 := hcx.size
  have hs1 := hcB.size
  have hs2 := c33.size
  have hs3 := c40.size
  have hcD : zj [b] wx wB := (((hcB.trans (zj.drew [] _)).trans c33).transS c40).trans' cB (by intro z hz; simp at hz; subst hz; right; omega)
  have hoB : yo wB 40 4 zN.cs o (l.take j) := yo.chg ho hcD hob
  refine za (Om rfl ?_)
  refine Og (zg za9 yY rfl rfl (zz.of_blk0 kB)) rfl ?_
  refine zC (gn rfl) (zy zg5 rfl (vs := [_]) rfl (css := [_]) ⟨rfl, trivial⟩ rfl rfl (cs := [_, _, _, _]) rfl rfl ?_)
  intro b43 w43 e43 n43 c43 k43
  refine zC (gn rfl) (yp zg5 zai rfl rfl (yo.chg0 hoB c43) (zu.of_blk (n := 1) k43 rfl (by simp [maxLen]) (zN.one _)) (by simp only [maxLen]; omega) (by omega) rfl ?_)
  intro v44 w44 i44 c44 o44 z44
  refine Oa rfl (N5 0 4 10 11 12 rfl (zk ?_))
  have hs4 := c43.size
  have hs5 := hcD.size
  have hwz := hcx.trans' ((((zj.refl (zn o ++ [b]) wx).trans' hcD (by simp)).trans c43).trans' c44 (fun z hz => .inl (by simp [hz]))) (by
   intro z hz
   rcases List.mem_append.1 hz with hz | hz
   ·exact .inr (hfo z hz)
   exact .inl hz)
  refine za ?_
  refine Og (zH rfl rfl (by omega)) rfl ?_
  refine Om rfl (N5 0 4 10 11 12 rfl ?_)
  refine ⟨s.cols.length - (j + 1), by omega, j + 1, v44, rfl, by omega, rfl, ?_, yx o44 hfo (by omega), ?_, hwz⟩
  ·rw [List.take_add_one, hx]
   exact ya.push i44 rfl rfl
  have tB : y8 wB t _ b := t40.chg cB (by intro z hz; simp at hz; subst hz; exact ⟨by omega, _, _, (((k8.chg0 (zj.drew [] _)).chg0 c33).chg c40 (by simp; omega)), rfl⟩)
  exact (tB.chg0 c43).chgSl (zu.chg0 hoB c43) rfl rfl c44
 refine zM ?_
 repeat first | refine te ?_ | refine bo rfl ?_
 refine zt _ ?_
 have he : s.cols.length ≤ j := by have := of_decide_eq_false hF; omega
 rw [List.take_of_length_le (by omega)] at ho
 rw [List.drop_eq_nil_of_le he] at htx
 refine Sr (Om rfl (Oa rfl (E1 4 rfl (zi ?_))))
 refine zD rfl rfl ?_
 have hs1 := c3.size
 exact ⟨ho, fun b hb => Nat.le_trans hs1 (hfo b hb), htx, ((zj.refl [b] w).trans c3).transS hcx⟩
theorem zn9 (x y : Value) (w : World) : CallsD TP 140 #[x, y] .returning w fun e u' w' => (∃ v, e = .returned v) ∧ u' = .returning ∧ w' = w := by
 have hnn : ∀ w, (Op.equal 20 .nilIface .nilIface).run TP w = .ok true w := fun w => by
  obtain ⟨ms, hu⟩ := zdY zvq
  exact zaP fun d => by simp [Op.equalIn, run_underlying hu]
 have hrs : Tryz.f140.results = #[] := rfl
 refine callsD_of_wpS Tryz.func140 rfl fun c₀ cs hu => ?_
 apply wpS_seq
 apply wpS_region
 simp [wpOpsS, go_sem, recoverD, hu, Exit.thenS]
 apply wpS_seq
 apply wpS_region
 simp [wpOpsS, go_sem, recoverD, hu, Exit.thenS, binOp, eqGuard, hnn]
 refine wpS_cond (t := false) (by simp [Act.eval, Array.replicate]) ?_
 simp only [Bool.false_eq_true, if_false]
 refine wpS_of_wp (wp_skip ?_)
 cases c₀
 simp_all [bodyPostS, results]
theorem ztV (c k u v : Value) (s : ym) (l : List zN) (w : World) (hs : yV w c k u s) (hr : yP s l = 0) (hv : zaA w 5 1 v (zcd s.cols l).length (bv (zcd s.cols l))) :
 z0 TP 98 #[.agg #[c, k, u], v] w fun r w' => ∃ o, r = .tuple #[o, Ii (zcd s.cols l).length, Ii 0] ∧ zaS w' o l ∧ (∀ y ∈ zn o, w.heap.size ≤ y) ∧ zj [] w w' := by
 obtain ⟨pv, cv, rfl, hcv⟩ := hv.val
 obtain ⟨hrs, hlen, hfit⟩ := zar hr
 have h8 := (zW hrs).1
 have hel := zd3 hfit
 refine z0.of_WD (args := [_, _]) Tryz.func98 rfl rfl rfl rfl ?_
 refine Sr ?_
 refine Ob rfl rfl ?_
 intro b2 w2 e2 n2 c2 k2
 refine zC (gn rfl) (zG zvC rfl rfl ?_)
 intro b4 w4 e4 n4 c4 k4
 refine zC (gn rfl) (zG zr3 rfl rfl ?_)
 intro b5 w5 e5 n5 c5 k5
 refine zC (gn rfl) (zG zsA rfl rfl ?_)
 intro b6 w6 e6 n6 c6 k6
 refine E5 1 2 4 5 6 rfl (Sr ?_)
 refine Og (zba rfl rfl) rfl ?_
 refine zrk rfl rfl ?_
 refine zaD [1, 2, 4, 5, 6] (F' := [(1, _), (2, _), (4, _), (5, _), (6, _), (1000001, _)]) rfl (Sr (Om rfl ?_))
 refine Og (zX zvw zv7 rfl (vs := [_]) rfl (css := [_]) ⟨rfl, trivial⟩ rfl rfl (cs := [_]) rfl) rfl ?_
 refine Ob rfl rfl ?_
 intro b11 w11 e11 n11 c11 k11
 refine Oa rfl (zaD [1, 2, 4, 5, 6, 7] (F' := [(1, _), (2, _), (4, _), (5, _), (6, _), (7, _), (1000001, _)]) rfl ?_)
 have hcA := ((c2.trans c4).trans c5).trans c6
 have hlt : ∀ z ∈ zn (.slice pv (zcd s.cols l).length cv), z < w.heap.size := hv.lt
 have hs2 := c2.size
 have hs4 := c4.size
 have hs5 := c5.size
 have hs6 := c6.size
 have hc11 : zj [] w w11 := hcA.trans c11
 have tp : y8 w11 (Pt b11) (zcd s.cols l) b11 := ⟨rfl, _, k11, hv.chg0 hc11, fun hm => by have := hlt b11 hm; omega⟩
 refine Sr (Om rfl ?_)
 refine Og (zg zbt zbq rfl rfl (zz.of_blk0 ((((k2.chg0 c4).chg0 c5).chg0 c6).chg0 c11))) rfl ?_
 refine Oc zwZ rfl rfl rfl (zuP c k u _ s l b11 _ (hs.chg0 hc11) hr tp) ?_
 rintro v14 w14 ⟨i14, f14, ⟨-, v2, hb14, hv14, -⟩, c14⟩
 obtain ⟨p14, q14, rfl, -⟩ := id (yo.val i14)
 obtain ⟨p2, q2, rfl, -⟩ := id hv14.val
 refine zC (gn rfl) (zv zcf rfl rfl rfl rfl ((((k4.chg0 c5).chg0 c6).chg0 c11).chg c14 (by simp; omega)) (by simp) (by intro u hu; simp at hu; subst hu; rfl) ?_)
 intro wA nA cA kA
 refine zaD [1, 4, 5, 6, 7] (F' := [(1, _), (4, _), (5, _), (6, _), (7, _), (1000001, _)]) rfl (ze ?_)
 have kA : zQ wA b4 48 [.slice p14 l.length q14] := kA
 have hs11 := c11.size
 have hs14 := c14.size
 have hsA := cA.size
 have hd : zj [] wA wA.drew := zj.drew _ _
 have hbA : zQ wA b11 237 [.slice p2 0 q2] := hb14.chg cA (by simp; omega)
 have k5A := ((((k5.chg0 c6).chg0 c11).chg c14 (by simp; omega)).chg cA (by simp; omega)).chg0 hd
 have k6A := (((k6.chg0 c11).chg c14 (by simp; omega)).chg cA (by simp; omega)).chg0 hd
 refine zK (fun wz => wz.cell? ⟨b4, 0, none⟩ = some (.slice p14 l.length q14) ∧ wz.cell? ⟨b11, 0, none⟩ = some (.slice p2 0 q2)) mix (by kernel_rfl) ⟨(kA.chg0 hd).cell' rfl, (hbA.chg0 hd).cell' rfl⟩ ?_
 refine Tr (fun wz hz => zh zaK rfl hz.1) rfl ?_
 refine Tm rfl ?_
 refine Tp (fun _ => yd yR rfl) rfl ?_
 refine Tm rfl ?_
 refine Tp (fun _ => zE rfl) rfl ?_
 refine Td zfV rfl ?_
 refine Tr (fun wz hz => zh zmG rfl hz.2) rfl ?_
 refine Tp (fun _ => yd zm8 rfl) rfl ?_
 refine Tp (fun _ => yy (v' := Ii (((zcd s.cols l).length : Nat) : Int)) (yG rfl rfl (by omega)) (by congr 1 <;> omega)) rfl ?_
 refine zak rfl (gn rfl) (zv zcf rfl rfl rfl rfl (kA.chg0 hd) (by simp) (by intro u hu; simp at hu; subst hu; rfl) ?_)
 intro wB nB cB kB
 refine ⟨.inl ⟨kB.cell' rfl, ((hbA.chg0 hd).chg cB (by simp; omega)).cell' rfl⟩, ?_⟩
 refine zak rfl (gn rfl) (zv sz3 rfl rfl rfl rfl (k5A.chg cB (by simp; omega)) (by simp) (by simp [Value.oneCell']) ?_)
 intro wC nC cC kC
 refine ⟨.inr (by kernel_rfl), ?_⟩
 refine zak rfl (gn rfl) (zv zoS rfl rfl rfl rfl ((k6A.chg cB (by simp; omega)).chg cC (by simp; omega)) (by simp) (by simp [Value.oneCell']) ?_)
 intro wD nD cD kD
 refine ⟨.inr (by kernel_rfl), ?_⟩
 refine zgT [4, 5, 6] (F' := [(4, _), (5, _), (6, _), (1000001, _)]) rfl ?_
 refine zi ?_
 have kB : zQ wB b4 48 [.slice p14 l.length q14] := kB
 have kC : zQ wC b5 3 [Ii (zcd s.cols l).length] := kC
 have kD : zQ wD b6 32 [Ii 0] := kD
 have hB := (kB.chg cC (by simp; omega)).chg cD (by simp; omega)
 have hC := kC.chg cD (by simp; omega)
 refine zxt (Rd := fun w' => w' = wD) rfl zut (zn9 _ _ _) ?_
 rintro w' a ha rfl
 refine ⟨.tuple #[.slice p14 l.length q14, Ii (zcd s.cols l).length, Ii 0], ?_, ?_⟩
 ·have h4 := ha.get 4 (Pt b4) rfl
  have h5 := ha.get 5 (Pt b5) rfl
  have h6 := ha.get 6 (Pt b6) rfl
  have g4 : w'.cell? ⟨b4, 0, none⟩ = _ := hB.cell' rfl
  have g5 : w'.cell? ⟨b5, 0, none⟩ = _ := hC.cell' rfl
  have g6 : w'.cell? ⟨b6, 0, none⟩ = _ := kD.cell' rfl
  simp [results, h4, h5, h6, asAddr, loadVar, zat zaK, zat ag3, zat zlK, g4, g5, g6]
 refine ⟨_, rfl, ?_, ?_, ?_⟩
 ·refine yo.chg (yo.chg (yo.chg (yo.chg0 (yo.chg i14 cA ?_) hd) cB ?_) cC ?_) cD ?_ <;> (intro y hy hm; have := f14 y hy; simp at hm; omega)
 ·intro y hy
  have := f14 y hy
  omega
 refine ((((((hc11.trans' c14 ?_).trans' cA ?_).trans hd).trans' cB ?_).trans' cC ?_).trans' cD ?_) <;> (intro y hy; simp at hy; subst hy; right; omega)
theorem zpi (c k u v : Value) (s : ym) (l : List zN) (w : World) (hs : yV w c k u s) (hm : s.Sm) (hr : yP s l = 0) (hv : zaA w 5 1 v (zcd s.cols l).length (bv (zcd s.cols l))) :
 z0 TP 66 #[.agg #[c, k, u], v] w fun r w' => ∃ o, r = .tuple #[o, Ii 0] ∧ zaS w' o l ∧ (∀ y ∈ zn o, w.heap.size ≤ y) ∧ zj [] w w' := by
 obtain ⟨pv, cv, rfl, hcv⟩ := hv.val
 obtain ⟨hrs, hlen, hfit⟩ := zar hr
 have h8 := (zW hrs).1
 have hel := zd3 hfit
 refine A2 Tryz.func66 rfl rfl ?_
 refine Sr ?_
 refine Ob rfl rfl ?_
 intro b2 w2 e2 n2 c2 k2
 refine Oa rfl (Oa rfl (E2 1 2 rfl (ze (Sr ?_))))
 refine Og (zg zbt zbq rfl rfl (zz.of_blk0 k2)) rfl ?_
 refine Oc zoG rfl rfl rfl (zf7 c k u s _ (hs.chg0 c2) hm) ?_
 rintro v11 w11 ⟨h11, c11⟩
 rw [hrs] at h11
 change v11 = Ii 0 at h11
 subst h11
 refine Oa rfl (E3 1 2 6 rfl (Sr (Om rfl ?_)))
 refine Og (vf (zY rfl rfl) (zct (by omega))) rfl ?_
 refine E4 1 2 6 13 rfl (zb rfl (zm (ze ?_)))
 have hcA := c2.trans c11
 refine za ?_
 refine Og (zg zbt zbq rfl rfl (zz.of_blk0 (k2.chg0 c11))) rfl ?_
 refine Om rfl ?_
 refine Oc zw7 rfl rfl rfl (ztV c k u _ s l _ (hs.chg0 hcA) hr (hv.chg0 hcA)) ?_
 rintro v18 w18 ⟨v18, rfl, i18, f18, c18⟩
 refine Om rfl (Oe rfl rfl (Oe rfl rfl (Oe rfl rfl (Oa rfl (Oa rfl (Oa rfl (E4 1 7 8 9 rfl (ze (Sr (Om rfl ?_))))))))))
 refine Og (vf (zY rfl rfl) (zct (by omega))) rfl ?_
 refine Om rfl (Oj rfl rfl (Oj rfl rfl ?_))
 refine Oy rfl rfl (yd yR rfl) ?_
 refine Oy rfl rfl (vf (zY rfl rfl) (zct (by omega))) ?_
 refine Of rfl (E2 7 29 rfl (zb rfl (zm (Sr (Om rfl (Oa rfl (Oa rfl (E2 4 5 rfl (zi ?_)))))))))
 refine zaI rfl rfl rfl ?_
 have hsz := hcA.size
 exact ⟨_, rfl, i18, fun y hy => Nat.le_trans hsz (f18 y hy), hcA.trans c18⟩
theorem zeG {s : ym} (h : yJ s = true) : s.Sm := by
 obtain ⟨h1, h2, h3, _, _, _, h7⟩ := zW h
 have := (zan h3).1
 exact ⟨by omega, by omega, by omega, fun l hl => by have := (zan (h7 l hl)).1; omega⟩
def PgL (w : World) : List Nat → List (LE) → Prop
 | [], [] => True
 | p :: ps, m :: ms => Pg w p m ∧ PgL w ps ms
 | _, _ => False
theorem PgL.chg0 {w w' : World} (hc : zj [] w w') : ∀ {ps : List Nat} {ms : List (LE)}, PgL w ps ms → PgL w' ps ms
 | [], [], _ => trivial
 | _ :: _, _ :: _, h => ⟨h.1.chg0 hc, PgL.chg0 hc h.2⟩
theorem PgL.length {w : World} : ∀ {ps : List Nat} {ms : List (LE)}, PgL w ps ms → ps.length = ms.length
 | [], [], _ => rfl
 | _ :: _, _ :: _, h => by simp [PgL.length h.2]
theorem PgL.at {w : World} : ∀ {ps : List Nat} {ms : List (LE)} {i : Nat} {p : Nat} {m : LE}, PgL w ps ms → ps[i]? = some p → ms[i]? = some m → Pg w p m
 | [], [], _, _, _, _, h, _ => by simp at h
 | _ :: _, _ :: _, 0, _, _, h, hp, hm => by simp at hp hm; subst hp hm; exact h.1
 | _ :: _, _ :: _, i + 1, _, _, h, hp, hm => h.2.at (by simpa using hp) (by simpa using hm)
theorem PgL.chgO {w w' : World} {q : Nat} {ms' : LE} (hq : Pg w q ms') (hc : zj [q] w w') : ∀ {ps : List Nat} {ms : List (LE)}, q ∉ ps → PgL w ps ms → PgL w' ps ms
 | [], [], _, _ => trivial
 | p :: _, _ :: _, hn, h => ⟨h.1.chgO hq (fun e => hn (by simp [e])) hc, PgL.chgO hq hc (fun hm => hn (by simp [hm])) h.2⟩
theorem PgL.put {w w' : World} {q : Nat} {m m' : LE} (hq : Pg w q m) (hc : zj [q] w w') (hq' : Pg w' q m') : ∀ {ps : List Nat} {ms : List (LE)} {i : Nat}, ps.Nodup → ps[i]? = some q → PgL w ps ms → PgL w' ps (ms.set i m')
 | [], [], _, _, h, _ => by simp at h
 | p :: ps, a :: ms, 0, hn, h, hp => by
  simp at h; subst h
  simp at hn
  exact ⟨hq', PgL.chgO hq hc hn.1 hp.2⟩
 | p :: ps, a :: ms, i + 1, hn, h, hp => by
  simp at h hn
  have hmem : q ∈ ps := List.mem_of_getElem? h
  exact ⟨hp.1.chgO hq (fun e => hn.1 (e ▸ hmem)) hc, PgL.put hq hc hq' hn.2 h hp.2⟩
theorem PgL.snoc {w : World} {q : Nat} {m : LE} (hq : Pg w q m) : ∀ {ps : List Nat} {ms : List (LE)}, PgL w ps ms → PgL w (ps ++ [q]) (ms ++ [m])
 | [], [], _ => ⟨hq, trivial⟩
 | _ :: _, _ :: _, h => ⟨h.1, PgL.snoc hq h.2⟩
theorem Pg.nl {w : World} {p : Nat} {ls : LE} (h : Pg w p ls) : Nl w [p] := by
 obtain ⟨v, hb, _, h1, _⟩ := h
 obtain ⟨q, c, rfl, _⟩ := h1.val
 exact Nl.one hb (by intro y hy; simp at hy; subst hy; rfl)
def scs (x : Value × Nat) : List Value := [x.1, .pointer (some ⟨x.2, 0, none⟩)]
theorem zqv (x : Value × Nat) : (scs x).length = 2 := rfl
structure yz (w : World) (t pm : Nat) (c k u sv : Value) (xs : List (Value × Nat)) (s : ym) (main : LE) (subs : List (LE)) : Prop where
 blk : zQ w t 98 [Pt pm, c, k, u, sv]
 sch : yV w c k u s
 pg : Pg w pm main
 sl : yo w 103 2 scs sv xs
 ats : yj w 3 1 ics (xs.map (·.1)) (zL s)
 pgs : PgL w (xs.map (·.2)) subs
 nd : (pm :: xs.map (·.2)).Nodup
section
variable {w w' : World} {t pm : Nat} {c k u sv : Value} {xs : List (Value × Nat)} {s : ym} {main : LE} {subs : List (LE)}
theorem yz.chg0 (h : yz w t pm c k u sv xs s main subs) (hc : zj [] w w') : yz w' t pm c k u sv xs s main subs :=
 ⟨h.blk.chg0 hc, h.sch.chg0 hc, h.pg.chg0 hc, yo.chg0 h.sl hc, yj.chg0 h.ats hc, h.pgs.chg0 hc, h.nd⟩
theorem yz.keep (h : yz w t pm c k u sv xs s main subs) {q : Nat} {ms : LE} (hq : Pg w q ms) (hc : zj [q] w w') {main' : LE} {subs' : List (LE)} (h1 : Pg w' pm main') (h2 : PgL w' (xs.map (·.2)) subs') : yz w' t pm c k u sv xs s main' subs' := by
 obtain ⟨v, hb, hv⟩ := hq
 have hn : ∀ y ∈ [v], zhH y = false := by obtain ⟨_, h1, _⟩ := hv; obtain ⟨p, c, rfl, _⟩ := h1.val; intro y hy; simp at hy; subst hy; rfl
 exact ⟨h.blk.chg hc (by have := h.blk.ne hb rfl; simpa using this), h.sch.chgB hb rfl hn hc, h1, yo.chg h.sl hc (zu.apart h.sl hb rfl), yj.chg hc (h.ats.apart hb rfl) h.ats, h2, h.nd⟩
theorem yz.putM (h : yz w t pm c k u sv xs s main subs) (hc : zj [pm] w w') {main' : LE} (h' : Pg w' pm main') : yz w' t pm c k u sv xs s main' subs :=
 h.keep h.pg hc h' (PgL.chgO h.pg hc (by have := h.nd; simp only [List.nodup_cons] at this; exact this.1) h.pgs)
theorem yz.putS (h : yz w t pm c k u sv xs s main subs) {j q : Nat} {m m' : LE} {a : Value} (hj : xs[j]? = some (a, q)) (hm : subs[j]? = some m) (hc : zj [q] w w') (h' : Pg w' q m') : yz w' t pm c k u sv xs s main (subs.set j m') := by
 have hq : (xs.map (·.2))[j]? = some q := by rw [List.getElem?_map, hj]; rfl
 have hp := h.pgs.at hq hm
 have hnd := h.nd
 simp only [List.nodup_cons] at hnd
 exact h.keep hp hc (h.pg.chgO hp (fun e => hnd.1 (e ▸ List.mem_of_getElem? hq)) hc) (PgL.put hp hc h' hnd.2 hq h.pgs)
theorem yz.lens (h : yz w t pm c k u sv xs s main subs) : xs.length = (zL s).length ∧ subs.length = (zL s).length := by
 have h1 := h.ats.length
 have h2 := h.pgs.length
 rw [List.length_map] at h1 h2
 omega
theorem yz.at (h : yz w t pm c k u sv xs s main subs) {j : Nat} (hj : j < (zL s).length) : ∃ a q st m b off cap, xs[j]? = some (a, q) ∧ (zL s)[j]? = some st ∧ subs[j]? = some m ∧ yQ w a st ∧ Pg w q m ∧ sv = .slice (some ⟨b, off, none⟩) xs.length cap ∧ zz w b (off + j * 2) [a, Pt q] ∧ q ∈ xs.map (·.2) := by
 obtain ⟨l1, l2⟩ := h.lens
 have e1 : (zL s)[j]? = some (zL s)[j] := by simp [hj]
 have e2 : xs[j]? = some (xs[j]'(by omega)) := by simp [l1, hj]
 have e3 : subs[j]? = some (subs[j]'(by omega)) := by simp [l2, hj]
 generalize (zL s)[j] = st at e1
 generalize xs[j]'(by omega) = x at e2
 generalize subs[j]'(by omega) = m at e3
 obtain ⟨a, q⟩ := x
 obtain ⟨v, hv, ha⟩ := h.ats.at e1
 rw [List.getElem?_map, e2] at hv
 simp at hv
 subst hv
 have hq : (xs.map (·.2))[j]? = some q := by rw [List.getElem?_map, e2]; rfl
 obtain ⟨b, off, cap, hsv, hcell⟩ := yo.at zqv h.sl e2
 exact ⟨a, q, st, m, b, off, cap, e2, e1, e3, ha.arr, h.pgs.at hq e3, hsv, hcell, List.mem_of_getElem? hq⟩
end
def yF (w : World) (t : Nat) (own : List Nat) (s : ym) (rows : LV) : Prop :=
 ∃ pm c k u sv xs main subs, own = pm :: xs.map (·.2) ∧ yz w t pm c k u sv xs s main subs ∧ zbI s rows main subs
theorem yF.chg0 {w w' : World} {t : Nat} {own : List Nat} {s : ym} {rows : LV} (h : yF w t own s rows) (hc : zj [] w w') : yF w' t own s rows :=
 let ⟨pm, c, k, u, sv, xs, main, subs, h1, h2, h3⟩ := h; ⟨pm, c, k, u, sv, xs, main, subs, h1, h2.chg0 hc, h3⟩
theorem yF.ok {w : World} {t : Nat} {own : List Nat} {s : ym} {rows : LV} (h : yF w t own s rows) : yX s rows :=
 let ⟨_, _, _, _, _, _, _, _, _, _, h3⟩ := h; h3.ok
def zbp {K : Type} (es : List (K × Value)) : List K := es.map (·.1)
theorem zho {K : Type} [DecidableEq K] {k k' : K} {v : Value} : ∀ {es : List (K × Value)}, k' ∈ zbp (zdS es k v) ↔ k' = k ∨ k' ∈ zbp es
 | [] => by simp [zbp, zdS]
 | p :: r => by
  unfold zdS
  by_cases h : p.1 = k
  ·rw [if_pos h]
   simp [zbp, h]
  rw [if_neg h]
  have ih := zho (k := k) (k' := k') (v := v) (es := r)
  unfold zbp at *
  rw [List.map_cons, List.map_cons, List.mem_cons, ih, List.mem_cons]
  constructor
  ·rintro (h | h | h)
   ·exact .inr (.inl h)
   ·exact .inl h
   exact .inr (.inr h)
  rintro (h | h | h)
  ·exact .inr (.inl h)
  ·exact .inl h
  exact .inr (.inr h)
theorem zhy {K : Type} [DecidableEq K] {k : K} {v : Value} : ∀ {es : List (K × Value)}, (zbp es).Nodup → (zbp (zdS es k v)).Nodup
 | [], _ => by simp [zbp, zdS]
 | p :: r, h => by
  unfold zdS
  have h' : p.1 ∉ zbp r ∧ (zbp r).Nodup := by simpa [zbp] using h
  by_cases e : p.1 = k
  ·rw [if_pos e]
   simpa [zbp, e] using h
  rw [if_neg e]
  have ih := zhy (k := k) (v := v) h'.2
  show (p.1 :: zbp (zdS r k v)).Nodup
  rw [List.nodup_cons]
  exact ⟨fun hm => by rcases zho.1 hm with h1 | h1; exact e h1; exact h'.1 h1, ih⟩
def za2 (s : ym) (rows : LV) (row : List zN) (sts : List (List Int)) (es : List (ByteArray × Value)) : Prop :=
 (zbp es).Nodup ∧ ∀ k, k ∈ zbp es ↔ ∃ r ∈ rows, (∃ st ∈ sts, zaw r row st = true) ∧ zT s r = k
theorem za2.nil {s : ym} {rows : LV} {row : List zN} : za2 s rows row [] [] := ⟨by simp [zbp], by simp [zbp]⟩
theorem za2.skip {s : ym} {rows : LV} {row : List zN} {sts : List (List Int)} {st : List Int} {es : List (ByteArray × Value)} (h : za2 s rows row sts es) (hn : ∀ r ∈ rows, zaw r row st = false) : za2 s rows row (sts ++ [st]) es := by
 refine ⟨h.1, fun k => (h.2 k).trans ⟨?_, ?_⟩⟩
 ·rintro ⟨r, hr, ⟨st', hs, hc⟩, hk⟩
  exact ⟨r, hr, ⟨st', List.mem_append_left _ hs, hc⟩, hk⟩
 rintro ⟨r, hr, ⟨st', hs, hc⟩, hk⟩
 rcases List.mem_append.1 hs with hs | hs
 ·exact ⟨r, hr, ⟨st', hs, hc⟩, hk⟩
 simp at hs
 subst hs
 rw [hn r hr] at hc; cases hc
theorem zek {rows : LV} {st : List Int} {vals r : List zN} (h : zcZ rows st vals = some r) : r ∈ rows ∧ nnS (zV r st) = true ∧ zV r st = vals := by
 have h1 := List.mem_of_find?_eq_some h
 have h2 := List.find?_some h
 simp only [Bool.and_eq_true, decide_eq_true_eq] at h2
 exact ⟨h1, h2⟩
theorem zlS {rows : LV} {st : List Int} {vals r : List zN} (h : zcZ rows st vals = none) (hr : r ∈ rows) : ¬ (nnS (zV r st) = true ∧ zV r st = vals) := by
 have := List.find?_eq_none.1 h r hr
 simpa using this
theorem za2.none {s : ym} {rows : LV} {row : List zN} {sts : List (List Int)} {st : List Int} {es : List (ByteArray × Value)} (h : za2 s rows row sts es) (hn : nnS (zV row st) = false ∨ zcZ rows st (zV row st) = none) : za2 s rows row (sts ++ [st]) es := by
 refine h.skip fun r hr => ?_
 cases hc : zaw r row st with
 | false => rfl
 | true =>
  obtain ⟨h1, h2⟩ := zdb.1 hc
  rcases hn with hn | hn
  ·rw [← h2, h1] at hn; cases hn
  exact absurd ⟨h1, h2⟩ (zlS hn hr)
theorem za2.some {s : ym} {rows : LV} (ht : yX s rows) {row r : List zN} {sts : List (List Int)} {st : List Int} (hst : st ∈ zL s) {es : List (ByteArray × Value)} {v : Value} (h : za2 s rows row sts es) (hn : zcZ rows st (zV row st) = some r) : za2 s rows row (sts ++ [st]) (zdS es (zT s r) v) := by
 obtain ⟨hr, h1, h2⟩ := zek hn
 have hc : zaw r row st = true := zdb.2 ⟨h1, h2⟩
 refine ⟨zhy h.1, fun k => ?_⟩
 rw [zho, h.2 k]
 constructor
 ·rintro (rfl | ⟨r', hr', ⟨st', hs, hc'⟩, hk⟩)
  ·exact ⟨r, hr, ⟨st, by simp, hc⟩, rfl⟩
  exact ⟨r', hr', ⟨st', List.mem_append_left _ hs, hc'⟩, hk⟩
 rintro ⟨r', hr', ⟨st', hs, hc'⟩, hk⟩
 rcases List.mem_append.1 hs with hs | hs
 ·exact .inr ⟨r', hr', ⟨st', hs, hc'⟩, hk⟩
 simp at hs
 subst hs
 obtain ⟨g1, g2⟩ := zdb.1 hc'
 have : r' = r := ht.uniqC hr' hr (zcD.2 ⟨st', hst, g1, by rw [g2, h2]⟩)
 subst this
 exact .inl hk.symm
theorem za2.gone {s : ym} {rows : LV} {row : List zN} {es : List (ByteArray × Value)} (h : za2 s rows row (zL s) es) (k : ByteArray) : k ∈ zbp es ↔ k ∈ (zaj s rows row).map (zT s) := by
 rw [h.2 k, List.mem_map]
 constructor
 ·rintro ⟨r, hr, ⟨st, hs, hc⟩, hk⟩
  exact ⟨r, zcR.2 ⟨hr, List.any_eq_true.2 ⟨st, hs, hc⟩⟩, hk⟩
 rintro ⟨r, hr, hk⟩
 obtain ⟨h1, h2⟩ := zcR.1 hr
 obtain ⟨st, hs, hc⟩ := List.any_eq_true.1 h2
 exact ⟨r, h1, ⟨st, hs, hc⟩, hk⟩
section
variable {t pm : Nat} {c k u sv : Value} {xs : List (Value × Nat)} {s : ym} {main : LE} {subs : List (LE)}
theorem yz.scells {w : World} (h : yz w t pm c k u sv xs s main subs) : zz w t 1 [c, k, u] := by
 intro i x hi
 have := (zz.of_blk0 h.blk) (1 + i) x (by
  rw [show [Pt pm, c, k, u, sv] = [Pt pm] ++ [c, k, u] ++ [sv] from rfl, List.append_assoc, List.getElem?_append_right (by simp)]
  simp only [List.length_cons, List.length_nil, Nat.zero_add, Nat.add_sub_cancel_left]
  rw [List.getElem?_append_left (List.getElem?_eq_some_iff.1 hi).1]
  exact hi)
 rw [Nat.zero_add] at this
 exact this
theorem zjm (v : Value) (l : List zN) (w : World) (hE : EOk w) (h : yz w t pm c k u sv xs s main subs) (hr : yJ s = true) (hl : zJ w v l) (hg : ∀ x ∈ l, x.Rng) (hn : l.length ≤ 1048576) :
 z0 TP 48 #[Pt t, v] w fun r w' => zix w' r (yP s l) ∧ zj [] w w' := by
 refine A2 Tryz.func48 rfl rfl ?_
 refine Sr (Oa rfl (E2 0 1 rfl (ze (Sr (Om rfl ?_)))))
 refine Og (za8 zig rfl rfl) rfl ?_
 refine E3 0 1 7 rfl (zb rfl (zm (ze (Sr (Om rfl (Og (zE rfl) rfl (Od zjl rfl ?_)))))))
 refine Og (zg zbt zbq rfl rfl h.scells) rfl ?_
 refine Om rfl ?_
 refine Oc zuG rfl rfl rfl (zrN c k u v s l _ hE h.sch (zeG hr) hl hg hn) ?_
 rintro v16 w16 ⟨rfl, c16⟩
 refine Oa rfl (E1 5 rfl (ze ?_))
 by_cases he : yP s l = 0
 ·refine za (Om rfl ?_)
  refine Og (vf (zY rfl rfl) (by simp [he])) rfl ?_
  refine E2 5 18 rfl (zb rfl (zm (Sr (Oa rfl (E1 4 rfl (zi ?_))))))
  refine zD rfl rfl ?_
  exact ⟨.inl ⟨rfl, he⟩, c16⟩
 refine za (Om rfl ?_)
 refine Og (vt (zY rfl rfl) (by simp [he])) rfl ?_
 refine E2 5 18 rfl (zd rfl (Sr (Om rfl ?_)))
 refine Og (yT zfz rfl) rfl ?_
 refine Og (zX zjY zlg rfl (vs := [_, _]) rfl (css := [_, _]) ⟨rfl, rfl, trivial⟩ rfl rfl (cs := [_, _]) rfl) rfl ?_
 refine Og (yT zjD rfl) rfl ?_
 refine Oa rfl (E1 4 rfl (zi ?_))
 repeat first | refine tr ?_ | refine br ?_
 refine zD rfl rfl ?_
 exact ⟨.inr ⟨.inr (.inr ⟨_, rfl⟩), he⟩, c16⟩
end
theorem zhl {w : World} {a v : Value} {q : Nat} {s : ym} {st : List Int} {row : List zN} (hf : yP s row = 0) (hg : ∀ x ∈ row, x.Rng) (hst : st ∈ zL s) (ha : yQ w a st) (hv : zJ w v row) :
 z0 TP 62 #[.agg #[a, Pt q], v] w fun r w' => r = .tuple #[.string (zbV (zV row st)), .bool (nnS (zV row st))] ∧ zj [] w w' := by
 obtain ⟨hr, hl, _⟩ := zar hf
 obtain ⟨h1, h2, _⟩ := zan (zbx hr st hst)
 have h8 := (zW hr).1
 exact zqg a _ v st row w ha rfl hv hg (zf0 hf) (fun i hi => by have := h2 i hi; omega) (by omega) (by omega)
theorem zaG.st {s : ym} {rows : LV} {j : Nat} {st : List Int} {m : LE} : ∀ {sts : List (List Int)} {pss : List (LE)}, zaG s rows sts pss → sts[j]? = some st → pss[j]? = some m → zdi s rows st m := by
 intro sts pss h h1 h2
 obtain ⟨ps, hp, hs⟩ := h.at' h1
 rw [h2] at hp
 cases hp
 exact hs
theorem yt {α : Type} {l : List α} {j : Nat} {x : α} (h : l[j]? = some x) : l.take (j + 1) = l.take j ++ [x] := by rw [List.take_add_one, h]; rfl
theorem zll {K : Type} [DecidableEq K] (k : K) (v : Value) : ∀ (es : List (K × Value)), (zdS es k v).length ≤ es.length + 1
 | [] => by simp [zdS]
 | p :: r => by
  unfold zdS
  split
  ·simp
  have := zll k v r
  simp only [List.length_cons]
  omega
section
variable {t pm : Nat} {c k u sv : Value} {xs : List (Value × Nat)} {s : ym} {main : LE} {subs : List (LE)} {rows : LV}
theorem zfp (v : Value) (row : List zN) (w : World) (h : yz w t pm c k u sv xs s main subs) (ht : zbI s rows main subs) (hf : yP s row = 0) (hl : zJ w v row) (hg : ∀ x ∈ row, x.Rng) :
 z0 TP 50 #[Pt t, v] w fun r w' => ∃ b es, r = .map (some b) ∧ w.heap.size ≤ b ∧ y9 zhV w' b es ∧ es.length ≤ 4 ∧ za2 s rows row (zL s) es ∧ zj [] w w' := by
 obtain ⟨l1, l2⟩ := h.lens
 obtain ⟨psv, csv, rfl, hcsv⟩ := yo.val h.sl
 have hn3 := (zW ht.ok.right).2.1
 have hn4 : (zL s).length ≤ 4 := by simp [zL]; omega
 refine A2 Tryz.func50 rfl rfl ?_
 refine Sr (Oa rfl (E2 0 1 rfl (Sr ?_)))
 refine zC (gn rfl) (zcX (zhV) rfl ?_)
 intro b12 w12 e12 n12 c12 k12
 refine Oa rfl (E3 0 1 5 rfl (ze (ze ?_)))
 have h2 := h.chg0 c12
 refine za (Om rfl (Og (zE rfl) rfl (Od zbO rfl ?_)))
 refine Ol zfZ rfl (h2.blk.cell' rfl) ?_
 refine On zeb rfl (Om rfl (E5 1 5 16 17 18 rfl (zq ?_)))
 refine zZ [1, 5, 16, 17, 18] (fun m F wx => ∃ (j : Nat) (es : List (ByteArray × Value)), m = xs.length - j ∧ j ≤ xs.length ∧ F = [(1, v), (5, .map (some b12)), (16, .slice psv xs.length csv), (17, Ii xs.length), (18, Ii j)] ∧ y9 zhV wx b12 es ∧ es.length ≤ j ∧ za2 s rows row ((zL s).take j) es ∧ zj [b12] w12 wx) (m := xs.length - 0) ⟨0, [], rfl, Nat.zero_le _, rfl, k12, by simp, za2.nil, zj.refl _ _⟩ ?_
 rintro m F wx ⟨j, es, rfl, hj, rfl, hes, hint, hck, hcx⟩
 have hcw : zj [] w wx := c12.own hcx (by intro y hy; simp at hy; omega)
 have hx := h.chg0 hcw
 have hvx := ya.chg0 hl hcw
 refine Sr (Og (zB rfl rfl) rfl (E6 1 5 16 17 18 19 rfl (ze ?_)))
 refine zR rfl (fun hT => ?_) (fun hF => ?_)
 ·refine zm ?_
  have hlt : j < xs.length := by have := of_decide_eq_true hT; omega
  obtain ⟨a, q, st, m, b, off, cap, e1, e2, e3, ha, hq, hsv, hcell, hqm⟩ := hx.at (j := j) (by omega)
  cases hsv
  have hst : st ∈ zL s := List.mem_of_getElem? e2
  have hsub := zaG.st ht.subs e2 e3
  refine ze (zq (Sr (Om rfl ?_)))
  refine Og (zf zeb zbA rfl rfl _ rfl hlt) rfl ?_
  refine Og (zg zfI zbA rfl rfl hcell) rfl ?_
  refine zC (gn rfl) (zG zhK rfl rfl ?_)
  intro b7 w7 e7 n7 c7 k7
  refine Oa rfl ?_
  refine zC (gn rfl) (zv zbA rfl rfl rfl rfl k7 (by simp) (by intro u hu; simp at hu; rcases hu with rfl | rfl; exact ya.one1 ha; rfl) ?_)
  intro wA nA cA kA
  refine E7 1 5 6 7 16 17 18 rfl ?_
  have kA : zQ wA b7 103 [a, Pt q] := kA
  have hcA : zj [] wx wA := c7.own cA (by intro y hy; simp at hy; omega)
  refine Sr ?_
  refine Og (zg zfI zbA rfl rfl (zz.of_blk0 kA)) rfl ?_
  refine Om rfl ?_
  refine Oc zps rfl rfl rfl (zhl hf hg hst (ya.chg0 ha hcA) (ya.chg0 hvx hcA)) ?_
  rintro v26 w26 ⟨rfl, c26⟩
  refine Om rfl (Oe rfl rfl (Oe rfl rfl (Oa rfl (Oa rfl (zaD [1, 5, 6, 7, 8, 9, 16, 17, 18] (F' := [(1, _), (5, _), (6, _), (7, _), (8, _), (9, _), (16, _), (17, _), (18, _)]) rfl ?_)))))
  have hcB : zj [] wx w26 := hcA.trans c26
  have hbb : b12 < w26.heap.size := Nat.lt_of_lt_of_le hes.lt hcB.size
  refine Sr (Om rfl (zaD [1, 5, 6, 7, 8, 16, 17, 18, 29] (F' := [(1, _), (5, _), (6, _), (7, _), (8, _), (16, _), (17, _), (18, _), (29, _)]) rfl ?_))
  cases hnn : nnS (zV row st) with
  | false =>
   refine zb rfl (yf (zk (za ?_)))
   refine Og (zH rfl rfl (by omega)) rfl ?_
   refine Om rfl (N5 1 5 16 17 18 rfl ?_)
   refine ⟨xs.length - (j + 1), by omega, j + 1, es, rfl, by omega, rfl, hes.chg0 hcB, by omega, ?_, hcx.trans hcB⟩
   rw [yt e2]
   exact hck.none (.inl hnn)
  | true =>
   refine zd rfl ?_
   have hget := hsub.get ht.ok hst (vals := zV row st) (zdG hf hg hst)
   refine Sr (Od zf6 rfl ?_)
   refine Ol zhN rfl ((kA.chg0 c26).cell' rfl) ?_
   refine Om rfl ?_
   refine Oc zth rfl rfl rfl (f15 q m _ _ (hq.chg0 hcB) hsub.wf (by have := hsub.le ht.ok; omega)) ?_
   rintro v34 w34 ⟨rfl, c34⟩
   refine Om rfl (Oe rfl rfl (Oe rfl rfl (Oa rfl (Oa rfl (E8 1 5 6 10 11 16 17 18 rfl ?_)))))
   have hcC : zj [] wx w34 := hcB.trans c34
   rw [hget]
   cases hro : zcZ rows st (zV row st) with
   | none =>
    refine Sr (Om rfl (E8 1 5 6 10 16 17 18 37 rfl (zb rfl (yf (zk (za ?_))))))
    refine Og (zH rfl rfl (by omega)) rfl ?_
    refine Om rfl (N5 1 5 16 17 18 rfl ?_)
    refine ⟨xs.length - (j + 1), by omega, j + 1, es, rfl, by omega, rfl, hes.chg0 hcC, by omega, ?_, hcx.trans hcC⟩
    rw [yt e2]
    exact hck.none (.inr hro)
   | some r =>
    refine Sr (Om rfl (E8 1 5 6 10 16 17 18 37 rfl (zd rfl (za (Om rfl (Om rfl (Om rfl ?_)))))))
    refine zC (gn rfl) (zqF (κ := zhV) zme (zcY st9) rfl rfl rfl (hes.chg0 hcC) ?_)
    intro wD nD cD kD
    refine N5 1 5 16 17 18 rfl (zk (za ?_))
    refine Og (zH rfl rfl (by omega)) rfl ?_
    refine Om rfl (N5 1 5 16 17 18 rfl ?_)
    refine ⟨xs.length - (j + 1), by omega, j + 1, _, rfl, by omega, rfl, kD, ?_, ?_, (hcx.trans hcC).transS cD⟩
    ·exact Nat.le_trans (zll _ _ _) (by omega)
    rw [yt e2]
    exact hck.some ht.ok hst hro
 refine zM ?_
 repeat first | refine te ?_ | refine bo rfl ?_
 refine zt _ ?_
 have he : xs.length ≤ j := by have := of_decide_eq_false hF; omega
 rw [List.take_of_length_le (by omega)] at hck
 refine Sr (Om rfl (Oa rfl (E1 4 rfl (zi ?_))))
 refine zD rfl rfl ?_
 exact ⟨b12, es, rfl, by omega, hes, by omega, hck, c12.own hcx (by intro y hy; simp at hy; omega)⟩
end
section
variable {α β : Type} (f : α → β → β)
def zdV (a : List α) (l : List β) (j : Nat) : List β := List.zipWith f (a.take j) (l.take j) ++ l.drop j
variable {f} {a : List α} {l : List β} {j : Nat} {x : α} {y : β}
theorem zhC : zdV f a l 0 = l := by simp [zdV]
theorem ziG (h : a.length = l.length) (hj : l.length ≤ j) : zdV f a l j = List.zipWith f a l := by
 unfold zdV
 rw [List.take_of_length_le (by omega), List.take_of_length_le hj, List.drop_eq_nil_of_le hj, List.append_nil]
theorem zhW (hx : a[j]? = some x) (hy : l[j]? = some y) : (zdV f a l j)[j]? = some y := by
 have h1 := (List.getElem?_eq_some_iff.1 hx).1
 have h2 := (List.getElem?_eq_some_iff.1 hy).1
 unfold zdV
 rw [List.getElem?_append_right (by simp; omega), List.getElem?_drop]
 rw [show j + (j - (List.zipWith f (a.take j) (l.take j)).length) = j by simp; omega]
 exact hy
theorem zfB (hx : a[j]? = some x) (hy : l[j]? = some y) : zdV f a l (j + 1) = (zdV f a l j).set j (f x y) := by
 have h1 := (List.getElem?_eq_some_iff.1 hx).1
 have h2 := (List.getElem?_eq_some_iff.1 hy).1
 have hz : (List.zipWith f (a.take j) (l.take j)).length = j := by simp; omega
 unfold zdV
 rw [yt hx, yt hy, List.zipWith_append (by simp; omega)]
 rw [List.set_append_right _ _ (by omega), hz, Nat.sub_self]
 obtain ⟨_, rfl⟩ := List.getElem?_eq_some_iff.1 hy
 rw [show l.drop j = l[j] :: l.drop (j + 1) from List.drop_eq_getElem_cons h2]
 simp only [List.set_cons_zero, List.append_assoc, List.cons_append, List.nil_append, List.zipWith_cons_cons, List.zipWith_nil_left]
theorem zhv (hx : a[j]? = some x) (hy : l[j]? = some y) (hf : f x y = y) : zdV f a l (j + 1) = zdV f a l j := by
 rw [zfB hx hy, hf]
 have := zhW (f := f) hx hy
 obtain ⟨h1, h2⟩ := List.getElem?_eq_some_iff.1 this
 conv => lhs; rw [← h2]
 exact List.set_getElem_self h1
end
def zi0 (row : List zN) (k : ByteArray) (st : List Int) (ps : LE) : LE := if nnS (zV row st) then zfd ps (zbV (zV row st)) k else ps
def zgy (row : List zN) (st : List Int) (ps : LE) : LE := if nnS (zV row st) then zcw ps (zbV (zV row st)) else ps
theorem ziW (row : List zN) (k : ByteArray) : ∀ sts pss, zg3 row k sts pss = List.zipWith (zi0 row k) sts pss
 | [], _ => by simp [zg3]
 | _ :: _, [] => by simp [zg3]
 | st :: sts, ps :: pss => by simp only [zg3, List.zipWith_cons_cons, ziW row k sts pss]; rfl
theorem zh4 (row : List zN) : ∀ sts pss, zeW row sts pss = List.zipWith (zgy row) sts pss
 | [], _ => by simp [zeW]
 | _ :: _, [] => by simp [zeW]
 | st :: sts, ps :: pss => by simp only [zeW, List.zipWith_cons_cons, zh4 row sts pss]; rfl
theorem ziM {s : ym} {row : List zN} (hf : yP s row = 0) {st : List Int} (hst : st ∈ zL s) : (zbV (zV row st)).size ≤ 2000 := by
 have h1 := zfP (l := zV row st) fun x hx => zf0 hf x (zdZ hf hst x hx)
 have h2 := (zan (zbx (zar hf).1 st hst)).1
 have e : (zbV (zV row st)).size = (zc3 (zV row st)).length := by simp [zbV, ByteArray.size]
 rw [show (zV row st).length = st.length by simp [zV]] at h1
 omega
section
variable {t pm : Nat} {c k u sv : Value} {xs : List (Value × Nat)} {s : ym} {main : LE} {subs : List (LE)} {rows : LV}
set_option maxHeartbeats 400000 in
theorem zls (v : Value) (row : List zN) (w : World) (hE : EOk w) (h : yz w t pm c k u sv xs s main subs) (ht : zbI s rows main subs) (hf : yP s row = 0) (hl : zJ w v row) (hg : ∀ x ∈ row, x.Rng) :
 z0 TP 52 #[Pt t, v] w fun _ w' => yz w' t pm c k u sv xs s (zfd main (zT s row) (zev s row)) (zg3 row (zT s row) (zL s) subs) ∧ zj (pm :: xs.map (·.2)) w w' := by
 obtain ⟨l1, l2⟩ := h.lens
 obtain ⟨psv, csv, rfl, hcsv⟩ := yo.val h.sl
 have hn3 := (zW ht.ok.right).2.1
 have hn4 : (zL s).length ≤ 4 := by simp [zL]; omega
 have hn1 : 1 ≤ (zL s).length := by simp [zL]
 obtain ⟨hrs, hlen, hfit⟩ := zar hf
 have h8 := (zW hrs).1
 refine A2 Tryz.func52 rfl rfl ?_
 refine ze ?_
 obtain ⟨a0, q0, stA, m0, b0, off0, cap0, e1, e2, e3, ha0, hq0, hsv0, hcell0, hqm0⟩ := h.at (j := 0) (by omega)
 have hstA : s.key = stA := by simp [zL] at e2; exact e2
 subst hstA
 cases hsv0
 refine za (Om rfl (Og (zE rfl) rfl (Od zbO rfl ?_)))
 refine Ol zfZ rfl (h.blk.cell' rfl) ?_
 refine Og (zf zeb zbA rfl rfl 0 rfl (show 0 < xs.length by omega)) rfl ?_
 refine Og (zg zfI zbA rfl rfl hcell0) rfl ?_
 refine Om rfl ?_
 refine Oc zps rfl rfl rfl (zhl hf hg (zcN s) ha0 hl) ?_
 rintro v20 w20 ⟨rfl, c20⟩
 refine Om rfl (Oe rfl rfl (Oe rfl rfl (Oa rfl (Oa rfl (E3 0 1 4 rfl ?_)))))
 have h1 := h.chg0 c20
 have hl1 := ya.chg0 hl c20
 refine Sr (Om rfl (Og (zE rfl) rfl (Od zjl rfl ?_)))
 refine Og (zg zbt zbq rfl rfl h1.scells) rfl ?_
 refine Om rfl ?_
 refine Oc zxy rfl rfl rfl (zpM c k u v s row _ (hE.chg0 c20) h1.sch (zeG hrs) hl1 hg (by omega)) ?_
 rintro v29 w29 ⟨o29, rfl, i29, f29, c29⟩
 rw [if_pos hf] at i29
 obtain ⟨p29, q29, rfl, -⟩ := id (zu.val i29)
 refine Om rfl (Oe rfl rfl (Oe rfl rfl (Oa rfl (Oa rfl (E4 0 1 4 6 rfl ?_)))))
 have h2 := h1.chg0 c29
 have hl2 := ya.chg0 hl1 c29
 refine ze ?_
 refine zK (fun wz => zj [] w29 wz) mix (by kernel_rfl) (zj.drew [] _) ?_
 refine Tm rfl ?_
 refine Tp (fun _ => zE rfl) rfl ?_
 refine Td zgp rfl ?_
 refine Tr (fun wz hz => zh zhN rfl ((h2.blk.chg0 hz).cell' rfl)) rfl ?_
 refine Tm rfl (Tm rfl ?_)
 refine Tr (fun wz hz => ze5 (l := (zcd s.cols row)) yR zap st9 rfl (zu.rd (zu.chg0 i29 hz))) rfl ?_
 refine Tc zv8 rfl rfl rfl (f10 pm main (zT s row) (zev s row) _ (h2.pg.chg0 (zj.drew [] _)) ht.wf (by have := ht.le; omega) (ziM hf (zcN s))) ?_
 rintro v39 w39 ⟨rfl, p39, c39⟩
 refine ⟨.inr (by kernel_rfl), ?_⟩
 refine D3 0 1 4 rfl ?_
 have h3 := (h2.chg0 (zj.drew [] _)).putM c39 p39
 have hc3 : zj (pm :: xs.map (·.2)) w w39 := ((((zj.refl _ w).trans c20).trans c29).trans (zj.drew [] _)).trans' c39 (fun y hy => .inl (by simp at hy; simp [hy]))
 have hl3 : zJ w39 v row := by
  exact ya.chgC (ya.chg0 hl2 (zj.drew [] _)) c39 zdK (h2.pg.chg0 (zj.drew [] _)).nl
 refine Sr (Om rfl (Og (zE rfl) rfl (Od zbO rfl ?_)))
 refine Ol zfZ rfl (h3.blk.cell' rfl) ?_
 refine On zeb rfl (Om rfl (E5 1 4 43 44 45 rfl (zq ?_)))
 refine zZ [1, 4, 43, 44, 45] (fun m F wx => ∃ (j : Nat), m = xs.length - j ∧ j ≤ xs.length ∧ F = [(1, v), (4, .string (zT s row)), (43, .slice (some ⟨b0, off0, none⟩) xs.length csv), (44, Ii xs.length), (45, Ii j)] ∧ yz wx t pm c k u (.slice (some ⟨b0, off0, none⟩) xs.length csv) xs s (zfd main (zT s row) (zev s row)) (zdV (zi0 row (zT s row)) (zL s) subs j) ∧ zJ wx v row ∧ zj (pm :: xs.map (·.2)) w wx) (m := xs.length - 0) ⟨0, rfl, Nat.zero_le _, rfl, by rw [zhC]; exact h3, hl3, hc3⟩ ?_
 rintro m F wx ⟨j, rfl, hj, rfl, hx, hvx, hcx⟩
 refine Sr (Og (zB rfl rfl) rfl (E6 1 4 43 44 45 46 rfl (ze ?_)))
 refine zR rfl (fun hT => ?_) (fun hF => ?_)
 ·refine zm ?_
  have hlt : j < xs.length := by have := of_decide_eq_true hT; omega
  obtain ⟨a, q, st, m, b, off, cap, e1, e2, e3, ha, hq, hsv, hcell, hqm⟩ := hx.at (j := j) (by omega)
  cases hsv
  have hst : st ∈ zL s := List.mem_of_getElem? e2
  have e3' : subs[j]? = some (subs[j]'(by omega)) := by simp [show j < subs.length by omega]
  generalize subs[j]'(by omega) = m' at e3'
  have hmm : m = m' := by
   have := zhW (f := zi0 row (zT s row)) e2 e3'
   rw [e3] at this
   cases this; rfl
  subst hmm
  have hsub := zaG.st ht.subs e2 e3'
  refine ze (zq (Sr ?_))
  refine Og (zf zeb zbA rfl rfl _ rfl hlt) rfl ?_
  refine Og (zg zfI zbA rfl rfl hcell) rfl ?_
  refine zC (gn rfl) (zG zhK rfl rfl ?_)
  intro b9 w9 e9 n9 c9 k9
  refine zC (gn rfl) (zv zbA rfl rfl rfl rfl k9 (by simp) (by intro u hu; simp at hu; rcases hu with rfl | rfl; exact ya.one1 ha; rfl) ?_)
  intro wA nA cA kA
  refine E6 1 4 9 43 44 45 rfl ?_
  have kA : zQ wA b9 103 [a, Pt q] := kA
  have hcA : zj [] wx wA := c9.own cA (by intro y hy; simp at hy; omega)
  refine Sr ?_
  refine Og (zg zfI zbA rfl rfl (zz.of_blk0 kA)) rfl ?_
  refine Om rfl ?_
  refine Oc zps rfl rfl rfl (zhl hf hg hst (ya.chg0 ha hcA) (ya.chg0 hvx hcA)) ?_
  rintro v52 w52 ⟨rfl, c52⟩
  refine Om rfl (Oe rfl rfl (Oe rfl rfl (Oa rfl (Oa rfl (E8 1 4 9 10 11 43 44 45 rfl ?_)))))
  have hcB : zj [] wx w52 := hcA.trans c52
  refine Sr (Om rfl (E8 1 4 9 10 43 44 45 55 rfl ?_))
  cases hnn : nnS (zV row st) with
  | false =>
   refine zb rfl (yf (zk (za ?_)))
   refine Og (zH rfl rfl (by omega)) rfl ?_
   refine Om rfl (N5 1 4 43 44 45 rfl ?_)
   refine ⟨xs.length - (j + 1), by omega, j + 1, rfl, by omega, rfl, ?_, ya.chg0 hvx hcB, hcx.trans hcB⟩
   rw [zhv e2 e3' (by unfold zi0; rw [hnn]; rfl)]
   exact hx.chg0 hcB
  | true =>
   refine zd rfl (za (Od zf6 rfl ?_))
   refine Ol zhN rfl ((kA.chg0 c52).cell' rfl) ?_
   refine Om rfl (Om rfl ?_)
   refine Oc zv8 rfl rfl rfl (f10 q m (zbV (zV row st)) (zT s row) _ (hq.chg0 hcB) hsub.wf (by have := hsub.le ht.ok; omega) (ziM hf hst)) ?_
   rintro v60 w60 ⟨rfl, p60, c60⟩
   refine N5 1 4 43 44 45 rfl (zk (za ?_))
   refine Og (zH rfl rfl (by omega)) rfl ?_
   refine Om rfl (N5 1 4 43 44 45 rfl ?_)
   refine ⟨xs.length - (j + 1), by omega, j + 1, rfl, by omega, rfl, ?_, ?_, (hcx.trans hcB).trans' c60 (fun y hy => .inl (by simp at hy; subst hy; exact List.mem_cons_of_mem _ hqm))⟩
   ·rw [zfB e2 e3', show zi0 row (zT s row) st m = zfd m (zbV (zV row st)) (zT s row) by unfold zi0; rw [hnn]; rfl]
    exact (hx.chg0 hcB).putS e1 e3 c60 p60
   exact ya.chgC (ya.chg0 hvx hcB) c60 zdK (hq.chg0 hcB).nl
 refine zM ?_
 repeat first | refine te ?_ | refine bo rfl ?_
 refine zt _ ?_
 have he : xs.length ≤ j := by have := of_decide_eq_false hF; omega
 refine zfQ rfl ?_
 rw [ziW, ← ziG (j := j) (by omega) (by omega)]
 exact ⟨hx, hcx⟩
end
end Go.Wk
