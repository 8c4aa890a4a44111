/- joined texts -/
import Derived.Test.YtcnkdoecfljnlaaGreatDoorY7
set_option linter.all false
namespace Go.Wk
open Go.Proofs
set_option maxRecDepth 10000
def zfz (c : List UInt8) (left : Int) : List UInt8 := c ++ List.replicate (8 - c.length) 0 ++ [if 0 < left then 9 else UInt8.ofNat c.length]
def ze8 (l : List UInt8) (st : List UInt8 × Int) (x : Nat) : List UInt8 × Int :=
 (st.1 ++ zfz ((l.drop (8 * x)).take 8) (st.2 - ((l.drop (8 * x)).take 8).length), st.2 - ((l.drop (8 * x)).take 8).length)
def zdR (l : List UInt8) (pre : List Nat) : List UInt8 × Int := pre.foldl (ze8 l) ([], (l.length : Int))
theorem zel (l : List UInt8) (pre : List Nat) (x : Nat) : zdR l (pre ++ [x]) = ze8 l (zdR l pre) x := by simp [zdR]
theorem zkW (l : List UInt8) : ∀ (pre : List Nat) (n : Nat) (st : List UInt8 × Int), (-(8 * (n : Int)) ≤ st.2 ∧ st.2 ≤ l.length ∧ st.1.length = 9 * n) →
 -(8 * ((n + pre.length : Nat) : Int)) ≤ (pre.foldl (ze8 l) st).2 ∧ (pre.foldl (ze8 l) st).2 ≤ l.length ∧ (pre.foldl (ze8 l) st).1.length = 9 * (n + pre.length)
 | [], n, st, h => h
 | x :: pre, n, st, h => by
  have hc : ((l.drop (8 * x)).take 8).length ≤ 8 := by rw [List.length_take]; omega
  have := zkW l pre (n + 1) (ze8 l st x) (by
   simp only [ze8, zfz, List.length_append, List.length_replicate, List.length_cons, List.length_nil]
   omega)
  rw [List.foldl_cons, List.length_cons, show n + (pre.length + 1) = n + 1 + pre.length by omega]
  exact this
theorem zkm (l : List UInt8) (pre : List Nat) : -(8 * (pre.length : Int)) ≤ (zdR l pre).2 ∧ (zdR l pre).2 ≤ l.length ∧ (zdR l pre).1.length = 9 * pre.length := by
 have := zkW l pre 0 ([], (l.length : Int)) (by simp)
 rw [Nat.zero_add] at this
 exact this
theorem zlS (l : List UInt8) : ∀ j : Nat, 8 * j < l.length → (zdR l (List.range j)).1 ++ zda (l.drop (8 * j)) = zda l ∧ (zdR l (List.range j)).2 = (l.length : Int) - 8 * j := by
 intro j
 induction j with
 | zero => intro _; simp [zdR]
 | succ j ih =>
  intro h
  obtain ⟨h1, h2⟩ := ih (by omega)
  have hc : ((l.drop (8 * j)).take 8).length = 8 := by rw [List.length_take, List.length_drop]; omega
  rw [List.range_succ, zel]
  simp only [ze8, zfz, hc, h2]
  refine ⟨?_, by omega⟩
  rw [← h1, zep (l := l.drop (8 * j)) (by rw [List.length_drop]; omega), List.drop_drop, if_pos (by omega)]
  simp [Nat.mul_add]
theorem ziK {l : List UInt8} (h : l ≠ []) : (zdR l (List.range ((l.length + 7) / 8))).1 = zda l := by
 have hl := List.length_pos_iff.2 h
 obtain ⟨j, hj⟩ : ∃ j, (l.length + 7) / 8 = j + 1 := ⟨(l.length + 7) / 8 - 1, by omega⟩
 obtain ⟨h1, h2⟩ := zlS l j (by omega)
 rw [hj, List.range_succ, zel]
 have hc : (l.drop (8 * j)).take 8 = l.drop (8 * j) := List.take_of_length_le (by rw [List.length_drop]; omega)
 have hlen : (l.drop (8 * j)).length = l.length - 8 * j := List.length_drop
 simp only [ze8, hc, h2, zfz]
 rw [← h1, zdg (l := l.drop (8 * j)) (by omega)]
 congr 1
 unfold zjw
 rw [if_neg (by omega)]
theorem zua (x : zQ) (w : World) (hx : x.b.size ≤ 1048576) : z9 TP 204 #[x.v] w fun r w' => zcF w' r (zda x.b.data.toList) ∧ (∀ b ∈ zp r, w.heap.size ≤ b) ∧ zk [] w w' := by
 have hsz : x.b.data.toList.length = x.b.size := by simp
 refine z9.of_WM (args := [_]) Tryz.func204 rfl rfl rfl rfl ?_
 refine Sr ?_
 refine Ob rfl rfl ?_
 intro b1 w1 e1 n1 c1 k1
 refine zE (gn rfl) (zH zwf rfl rfl ?_)
 intro b2 w2 e2 n2 c2 k2
 refine E2 1 2 rfl (Sr (Od zaR rfl ?_))
 refine Ol ag9 rfl ((k1.chg0 c2).cell' rfl) ?_
 refine Og (yS st9 rfl) rfl ?_
 refine zE (gn rfl) (zH zr3 rfl rfl ?_)
 intro b3 w3 e3 n3 c3 k3
 refine zE (gn rfl) (zu sz3 rfl rfl rfl rfl k3 (by simp) (by intro u hu; simp at hu; subst hu; rfl) ?_)
 intro wA nA cA kA
 refine E3 1 2 3 rfl ?_
 have hcA : zk [] w wA := ((c1.trans c2).trans c3).own cA (by intro y hy; simp at hy; omega)
 have hk1 := ((k1.chg0 c2).chg0 c3).chg cA (by simp; omega)
 have hk2 := (k2.chg0 c3).chg cA (by simp; omega)
 have hk3 : zU wA b3 3 [Ii x.b.size] := kA
 refine yf (fun F wx => ∃ (D : Nat) (f12 : Value), F = [(1000000, Ii D), (2, Pt b2), (3, Pt b3), (12, f12)] ∧ w.heap.size ≤ D ∧ wx.heap[D]? = some (.deferred (some [])) ∧ w.heap.size ≤ b2 ∧ ∃ u, zU wx b2 132 [u] ∧ zcF wx u (if x.b.size = 0 then [] else zda x.b.data.toList) ∧ (∀ b ∈ zp u, w.heap.size ≤ b) ∧ zk [] w wx) ?_ ?_
 ·refine Sr (Od zaR rfl ?_)
  refine Ol ag9 rfl (hk1.cell' rfl) ?_
  refine zE (gn rfl) (zkk st9 yT zay rfl (by simp only [maxLen]; omega) rfl ?_)
  intro b11 q11 w11 e11 c11 g11 i11
  refine Oc zxq rfl rfl rfl (zqx _ _) ?_
  rintro v12 w12 ⟨p2, p3, rfl, kp2, kp3, hp2, hp3, c12⟩
  refine E3 2 3 12 rfl ?_
  have kp2 : zU w12 p2 132 [.slice (some ⟨b11, 0, none⟩) x.b.size q11] := kp2
  have hk2 := (hk2.chg0 c11).chg0 c12
  have hk3 := (hk3.chg0 c11).chg0 c12
  have hby := i11.chg0 c12
  have hc12 : zk [] w w12 := (hcA.trans c11).trans c12
  have hs11 := c11.size
  have hs12 := c12.size
  have hsA := cA.size
  refine zq ?_
  generalize hl : x.b.data.toList = l at *
  refine zhy (α := Nat) (gf := 269) (lb := [Pt p2, Pt p3]) (encs := fun j : Nat => #[chV b11 x.b.size j]) (S0 := [b2, b3]) (keep := fun _ => false) (N := (x.b.size + 7) / 8)
   (fun pre W => ∃ u, zU W b2 132 [u] ∧ zcF W u (zdR l pre).1 ∧ zU W b3 3 [Ii (zdR l pre).2] ∧ (∀ b ∈ zp u, w12.heap.size ≤ b) ∧ zk [b2, b3] w12 W ∧ w12.heap.size ≤ W.heap.size)
   (fun _ _ _ => False)
   (fun j => [(13, chV b11 x.b.size j), (2, Pt b2), (3, Pt b3), (12, .func (.func 269) #[] #[Pt p2, Pt p3])])
   (fun j => [(2, Pt b2), (3, Pt b3), (4, chV b11 x.b.size j), (13, chV b11 x.b.size j)])
   rfl zvv (zwX w12 p2 p3 b11 x.b.size q11 [b2, b3] _ kp2 kp3 g11 hx ?_ ?_) (fun _ => rfl) (fun _ _ _ _ h => h) (fun _ _ _ _ h => h) (fun _ _ _ _ h => h) ?_ (fun _ _ _ _ _ h => h.elim) ?_ (fun _ _ h => h.choose_spec.2.2.2.2.2) ?_ ?_ ?_ ?_ (fun _ _ _ _ _ _ h => h.elim)
  ·simp; omega
  ·simp; omega
  ·rintro pre W W' hk ⟨u, h1, h2, h3, h4, h5, h6⟩
   exact ⟨u, h1.bk hk, zv.bk h2 hk, h3.bk hk, h4, h5.bk (Nat.le_refl _) hk, by obtain ⟨T, _, hc⟩ := hk; exact Nat.le_trans h6 hc.size⟩
  ·exact ⟨_, hk2, zv.nil _ _ _, by simpa [zdR, hsz] using hk3, by simp [zp], zk.refl _ _, Nat.le_refl _⟩
  ·intro j a ha
   exact ha.vars1 rfl rfl
  ·intro l' j W
   refine yH ?_
   refine yy (gn rfl) rfl (St.vl (yh rfl) rfl rfl ?_)
   refine zfR [2, 3, 4, 13] (F' := [(2, _), (3, _), (4, _), (13, _)]) rfl ?_
   exact ⟨rfl, rfl, rfl⟩
  ·rintro l' pre j W ⟨u, hb2, hu, hb3, hfu, hcW, hsW⟩ hlt hlen
   have hsl : l.length = x.b.size := hsz
   have hch : 8 * j + chN x.b.size j ≤ x.b.size := by unfold chN; omega
   have hch8 : chN x.b.size j ≤ 8 := by unfold chN; omega
   have hchv : ∃ pj cj, chV b11 x.b.size j = .slice pj (chN x.b.size j) cj := ⟨_, _, by unfold chV; rw [show cut (some ⟨b11, 0, none⟩) (8 * j) (8 * j + chN x.b.size j) (8 * j + chN x.b.size j) 1 = .slice _ (8 * j + chN x.b.size j - 8 * j) (8 * j + chN x.b.size j - 8 * j) from rfl, Nat.add_sub_cancel_left]⟩
   have hbyW := hby.chg hcW (by intro b hb hm; simp [zp] at hb; subst hb; simp at hm; omega)
   have hcut : zaM W 5 1 (chV b11 x.b.size j) (chN x.b.size j) (bv ((l.drop (8 * j)).take (chN x.b.size j))) := by
    have := hbyW.cut (l := 8 * j) (h := 8 * j + chN x.b.size j) (m := 8 * j + chN x.b.size j) (by omega) (Nat.le_refl _) (by omega) hch
    rw [Nat.add_sub_cancel_left] at this
    unfold chV
    simpa [bv, List.map_drop, List.map_take] using this
   have hcl : ((l.drop (8 * j)).take 8).length = chN x.b.size j := by rw [List.length_take, List.length_drop, hsl]; unfold chN; omega
   have hct : (l.drop (8 * j)).take (chN x.b.size j) = (l.drop (8 * j)).take 8 := by
    rcases Nat.lt_or_ge (x.b.size - 8 * j) 8 with h8 | h8
    ·rw [show chN x.b.size j = x.b.size - 8 * j by unfold chN; omega, List.take_of_length_le (by rw [List.length_drop]; omega), List.take_of_length_le (by rw [List.length_drop]; omega)]
    rw [show chN x.b.size j = 8 by unfold chN; omega]
   rw [hct] at hcut
   obtain ⟨hg1, hg2, hg3⟩ := zkm l pre
   generalize hc8 : (l.drop (8 * j)).take 8 = c at *
   generalize hn : chN x.b.size j = n at *
   obtain ⟨pj, cj, hchv⟩ := hchv
   rw [hchv] at hcut ⊢
   generalize hgl : (zdR l pre).2 = left at *
   refine zfg ?_
   refine zb7 ?_
   refine yH ?_
   refine yy (gn rfl) rfl (zH zuJ rfl rfl ?_)
   intro b5 w5 e5 n5 c5 k5
   refine zbx [2, 3, 4, 5, 13] (F' := [(2, _), (3, _), (4, _), (5, _), (13, _)]) rfl ?_
   have hs5 := c5.size
   refine zb7 ?_
   refine yH ?_
   refine yy (gn rfl) rfl (St.vl (zhs znp sz5 rfl) rfl rfl ?_)
   refine Xm rfl ?_
   refine yy (gn rfl) rfl (zoM yT sz5 rfl rfl (hcut.chg0 c5) k5 (show min n 9 = n by omega) (by simp; omega) rfl ?_)
   intro w16 n16 c16 k16
   refine zbx [2, 3, 4, 5, 13] (F' := [(2, _), (3, _), (4, _), (5, _), (13, _)]) rfl ?_
   have hcn : c.length = n := hcl
   have kc : zU w16 b5 348 (bv (c ++ List.replicate (8 - n) 0 ++ [0])) := by
    have e := zdw [] (bv (List.replicate 9 0)) ((bv c).take (n * 1))
    have e0 : ([Value.int .u8 0, .int .u8 0, .int .u8 0, .int .u8 0, .int .u8 0, .int .u8 0, .int .u8 0, .int .u8 0, .int .u8 0] : List Value) = bv (List.replicate 9 0) := rfl
    rw [e0] at k16
    simp only [List.nil_append, List.length_nil] at e
    rw [e] at k16
    rw [Nat.mul_one, List.take_of_length_le (by rw [zcp]; omega)] at k16
    have e2 : (bv (List.replicate 9 (0 : UInt8))).drop (bv c).length = bv (List.replicate (8 - n) 0 ++ [0]) := by
     rw [zcp, hcn]
     unfold bv
     rw [← List.map_drop, List.drop_replicate, show 9 - n = (8 - n) + 1 by omega, List.replicate_succ']
    rw [e2, ← yK, ← List.append_assoc] at k16
    exact k16
   have hc16 : zk [] W w16 := c5.own c16 (by intro y hy; simp at hy; omega)
   have hb2' := hb2.chg0 hc16
   have hb3' := hb3.chg0 hc16
   have hb2lt := hb2.lt
   have hb3lt := hb3.lt
   refine zb7 ?_
   refine yH ?_
   refine yy (gn rfl) rfl (St.vl (zh ag3 rfl (hb3'.cell' rfl)) rfl rfl ?_)
   refine Xm rfl ?_
   refine yy (gn rfl) rfl (St.vl (yc yT rfl) rfl rfl ?_)
   refine yy (gn rfl) rfl (St.vl (yN rfl rfl (by omega)) rfl rfl ?_)
   refine yy (gn rfl) rfl (zu sz3 rfl rfl rfl rfl hb3' (by simp) (by intro u hu; simp at hu; subst hu; rfl) ?_)
   intro wL nL cL kL
   refine zbx [2, 3, 4, 5, 13] (F' := [(2, _), (3, _), (4, _), (5, _), (13, _)]) rfl ?_
   have kL : zU wL b3 3 [Ii (left - n)] := kL
   have kcL := kc.chg cL (by simp; omega)
   have hb2L := hb2'.chg cL (by simp; omega)
   have lay8 : ∀ (A : List UInt8) (a : UInt8) (v : Value), A.length = 8 → yU (bv (A ++ [a])) 8 [v] = bv A ++ [v] := fun A a v hA => by
    rw [yK]
    have := zdw (bv A) (bv [a]) [v]
    rw [zcp, hA] at this
    simpa [bv] using this
   have hA8 : (c ++ List.replicate (8 - n) 0).length = 8 := by rw [List.length_append, List.length_replicate]; omega
   refine zb7 ?_
   refine yH ?_
   refine Xm rfl ?_
   refine yy (gn rfl) rfl (St.vl (yc yT rfl) rfl rfl ?_)
   refine yy (gn rfl) rfl (St.vl (yq zay zak rfl (show IntKind.u8.wrap (n : Int) = (((UInt8.ofNat n).toNat : Nat) : Int) by rw [zcV]; simp)) rfl rfl ?_)
   refine yy (gn rfl) rfl (St.vl (zba znp sz5 rfl rfl 8 rfl (by decide)) rfl rfl ?_)
   refine yy (gn rfl) rfl (zu sz5 rfl rfl rfl rfl kcL (by rw [zcp, List.length_append, hA8]; simp) (by intro u hu; simp at hu; subst hu; rfl) ?_)
   intro wM nM cM kM
   refine zbx [2, 3, 5, 13] (F' := [(2, _), (3, _), (5, _), (13, _)]) rfl ?_
   have kM : zU wM b5 348 (bv (c ++ List.replicate (8 - n) 0 ++ [UInt8.ofNat n])) := by
    have e := lay8 _ 0 (.int .u8 ((UInt8.ofNat n).toNat : Nat)) hA8
    rw [yK]
    show zU wM b5 348 (_ ++ [.int .u8 ((UInt8.ofNat n).toNat : Nat)])
    rw [← e]
    exact kM
   have kLM := kL.chg cM (by simp; omega)
   have hb2M := hb2L.chg cM (by simp; omega)
   have hcM : zk [b3] W wM := ((hc16.any (S := [b3])).transS cL).trans' cM (by intro y hy; simp at hy; subst hy; right; omega)
   refine znx (fun F wz => F = [(2, Pt b2), (3, Pt b3), (5, Pt b5), (13, .slice pj n cj)] ∧ zU wz b5 348 (bv (zfz c (left - n))) ∧ zU wz b3 3 [Ii (left - n)] ∧ zU wz b2 132 [u] ∧ zk [b3] W wz) ?_ ?_
   ·refine zb7 ?_
    refine yH ?_
    refine yy (gn rfl) rfl (St.vl (zh ag3 rfl (kLM.cell' rfl)) rfl rfl ?_)
    refine yy (gn rfl) rfl (St.vl (yg rfl rfl) rfl rfl ?_)
    refine zbx [2, 3, 5, 13, 26] (F' := [(2, _), (3, _), (5, _), (13, _), (26, _)]) rfl ?_
    refine zt7 rfl (fun hT => ?_) (fun hF => ?_)
    ·have hpos : 0 < left - n := of_decide_eq_true hT
     refine yH ?_
     refine yy (gn rfl) rfl (St.vl (zba znp sz5 rfl rfl 8 rfl (by decide)) rfl rfl ?_)
     refine yy (gn rfl) rfl (zu sz5 rfl rfl rfl rfl kM (by rw [zcp, List.length_append, hA8]; simp) (by intro u hu; simp at hu; subst hu; rfl) ?_)
     intro wN nN cN kN
     refine zbx [2, 3, 5, 13] (F' := [(2, _), (3, _), (5, _), (13, _)]) rfl ?_
     refine ⟨rfl, ?_, kLM.chg cN (by simp; omega), hb2M.chg cN (by simp; omega), hcM.trans' cN (by intro y hy; simp at hy; subst hy; right; omega)⟩
     have e := lay8 (c ++ List.replicate (8 - n) 0) (UInt8.ofNat n) (.int .u8 9) hA8
     unfold zfz
     rw [hcn, if_pos hpos, yK]
     show zU wN b5 348 (_ ++ [.int .u8 9])
     rw [← e]
     exact kN
    have hpos : ¬ 0 < left - n := of_decide_eq_false hF
    refine zrb [2, 3, 5, 13] rfl ?_
    refine zru ?_
    refine ⟨rfl, ?_, kLM, hb2M, hcM⟩
    unfold zfz
    rw [hcn, if_neg hpos]
    exact kM
   rintro F wY ⟨rfl, kG, hl3, hu2, hcz⟩
   have hcB : zk [b2, b3] w12 wY := hcW.transS (hcz.weak (by simp))
   have hsz2 := hcz.size
   have huz := zv.chg hu hcz (zv.apart hu hb3 rfl)
   have hlg : (zfz c (left - n)).length = 9 := by unfold zfz; rw [List.length_append, List.length_append, List.length_replicate]; simp; omega
   have hrd : zaM wY 348 1 (.slice (some ⟨b5, 0, none⟩) 9 9) 9 (bv (zfz c (left - n))) := by
    have := zaM.of_blk kG (by rw [zcp, hlg]; simp [maxLen]) (zcd _)
    rwa [zcp, hlg] at this
   have hd : zk [] wY wY.drew := zk.drew [] _
   have hub : ∀ y ∈ zp u, y ≠ b2 := fun y hy he => by subst he; have := hfu _ hy; omega
   refine zmo (fun wz => zk [] wY wz) mix (by kernel_rfl) hd ?_
   refine Tr (fun wz hz => zh zf3 rfl ((hu2.chg0 hz).cell' rfl)) rfl ?_
   refine Tp (fun _ => zhs znp sz5 rfl) rfl ?_
   refine zas rfl (gn rfl) (zlO zaL yT rfl rfl (zv.chg0 huz hd) (hrd.chg0 hd) (by rw [hg3]; simp only [maxLen]; omega) (by rw [hg3]; omega) rfl ?_)
   intro v30 w30 i30 c30 o30 z30
   obtain ⟨p30, q30, rfl, _⟩ := id (zv.val i30)
   refine ⟨.inr (by kernel_rfl), ?_⟩
   refine zas rfl (gn rfl) (zu zo6 rfl rfl rfl rfl (hu2.chg (hd.any.transS c30) (fun hm => hub b2 hm rfl)) (by simp) (by intro y hy; simp at hy; subst hy; rfl) ?_)
   intro wO nO cO kO
   refine ⟨.inr (by kernel_rfl), ?_⟩
   refine zdV [2, 3, 13] (F' := [(2, _), (3, _), (13, _)]) rfl ?_
   have kO : zU wO b2 132 [_] := kO
   have hcu : zk (zp u) wY w30 := hd.any.transS c30
   have hl3O := (hl3.chg hcu (fun hm => by have := hfu _ hm; omega)).chg cO (by simp; omega)
   have hsz3 := hcu.size
   have hcut2 : ∀ y ∈ zp u, ∃ e c, zU W y e c := fun y hy => by
    rcases hu with ⟨rfl, _, _⟩ | ⟨b, off, cap, cc, rfl, hs⟩
    ·simp [zp] at hy
    simp [zp] at hy; subst hy; exact ⟨_, _, hs.blk⟩
   have hall : zk (b2 :: b3 :: zp u) W wO := by
    refine ((hcz.weak (S2 := b2 :: b3 :: zp u) (by simp)).transS (hcu.weak (fun k hk => by simp [hk]))).transS (cO.weak (by simp))
   refine ⟨KeepsFrom.chg hall ?_, Kr.chg hall (by omega) ?_, _, kO, ?_, ?_, yB o30 hfu (by show w12.heap.size ≤ wY.heap.size; omega), ?_, by have := hall.size; omega⟩
   ·intro y hy
    simp at hy
    rcases hy with rfl | rfl | hy
    ·exact ⟨_, _, hb2⟩
    ·exact ⟨_, _, hb3⟩
    exact hcut2 y hy
   ·intro y hy
    simp at hy
    rcases hy with rfl | rfl | hy
    ·exact ⟨.inl (by simp), _, _, hb2, rfl⟩
    ·exact ⟨.inl (by simp), _, _, hb3, rfl⟩
    obtain ⟨e, c, hbb⟩ := hcut2 y hy
    exact ⟨.inr (hfu y hy), e, c, hbb, rfl⟩
   ·have h30 := zv.chg i30 cO (zv.apart i30 (hu2.chg hcu (fun hm => hub b2 hm rfl)) rfl)
    rw [zel, ze8, hc8, hgl, hcn]
    unfold zcF
    rw [yK, List.length_append, hlg]
    exact h30
   ·rw [zel, ze8, hc8, hgl, hcn]
    exact hl3O
   exact hcW.trans' hall (by
    intro y hy
    simp at hy
    rcases hy with rfl | rfl | hy
    ·simp
    ·simp
    exact .inr (hfu y hy))
  rintro D xs W hD rfl ⟨u, hb2, hu, hb3, hfu, hcW, hsW⟩ hdf
  refine zl ?_
  refine ⟨D, _, rfl, by omega, hdf, by omega, u, hb2, ?_, fun b hb => by have := hfu b hb; omega, (hc12.trans' hcW (by intro y hy; simp at hy; right; omega))⟩
  split
  ·rename_i h0
   have hl0 : l = [] := List.length_eq_zero_iff.1 (by omega)
   subst hl0
   rw [h0] at hu
   exact hu
  rename_i h0
  rw [← hsz, ziK (fun e => h0 (by rw [← hsz, e]; rfl))] at hu
  exact hu
 rintro F wx ⟨D, f12, rfl, hD, hdf, hb2n, u, hb2, hu, hfu, hcx⟩
 have hDb : D ≠ b2 := by rintro rfl; rw [show wx.heap[D]? = _ from hb2] at hdf; cases hdf
 have hDl := (Array.getElem?_eq_some_iff.1 hdf).1
 refine ze (ze ?_)
 by_cases h0 : x.b.size = 0
 ·rw [if_pos h0] at hu
  obtain ⟨pu, cu, rfl, _⟩ := id (zv.val hu)
  refine za ?_
  refine Ol zf3 rfl (hb2.cell' rfl) ?_
  refine On yT rfl ?_
  refine Og (vt (zw rfl rfl) rfl) rfl ?_
  refine za1 [2, 33] (F' := [(2, _), (33, _), (1000000, _)]) rfl (zd rfl (Sr ?_))
  refine zE (gn rfl) (znK (l := 9) (m := 9) zaL rfl rfl (by omega) (by omega) (by omega) (by unfold maxLen; omega) (by omega) rfl ?_)
  intro b34 w34 e34 n34 c34 k34
  refine zE (gn rfl) (zu zo6 rfl rfl rfl rfl (hb2.chg0 c34) (by simp) (by intro y hy; simp at hy; subst hy; rfl) ?_)
  intro wA nA cA kA
  refine za1 [2] (F' := [(2, _), (1000000, _)]) rfl (zi ?_)
  repeat first | refine tr ?_ | refine br ?_
  refine zjY (v := .slice (some ⟨b34, 0, none⟩) 9 9) (D := D) rfl zf3 rfl rfl ((cA.block D (by omega) (by simpa using hDb)).trans ((c34.block D hDl (by simp)).trans hdf)) ?_
  intro w' hw'
  have kA : zU wA b2 132 [.slice (some ⟨b34, 0, none⟩) 9 9] := kA
  have hb34 : b34 ∉ [D] := by simp; omega
  have k34' := (k34.chg cA (by simp; have := hb2.lt; omega)).chg hw' hb34
  refine ⟨(kA.chg hw' (by simpa using fun h => hDb h.symm)).cell' rfl, ?_, ?_, ?_⟩
  ·have hl0 : x.b.data.toList = [] := List.length_eq_zero_iff.1 (by omega)
   rw [hl0]
   have e9 : (madeCells (Value.int IntKind.u8 0).cells (9 * 1)).toList = bv (zda []) := (zp3 rfl 9).trans rfl
   rw [e9] at k34'
   exact zv.of_blk (n := 9) k34' rfl (by simp [maxLen]) (zcd (zda []))
  ·intro b hb
   have := hcx.size
   simp [zp] at hb
   omega
  exact (((hcx.trans c34).own cA (by intro y hy; simp at hy; omega))).own hw' (by intro y hy; simp at hy; omega)
 rw [if_neg h0] at hu
 have hne : (zda x.b.data.toList).length ≠ 0 := by
  intro h
  rw [← ziK (fun e => h0 (by rw [← hsz, e]; rfl)), (zkm _ _).2.2, List.length_range] at h
  omega
 obtain ⟨pu, cu, rfl, _⟩ := id (zv.val hu)
 refine za ?_
 refine Ol zf3 rfl (hb2.cell' rfl) ?_
 refine On yT rfl ?_
 refine Og (vf (zw rfl rfl) (decide_eq_false (by omega))) rfl ?_
 refine za1 [2, 33] (F' := [(2, _), (33, _), (1000000, _)]) rfl (zb rfl ?_)
 refine zfo [2] rfl ?_
 refine zm (Sr ?_)
 refine Ol zf3 rfl (hb2.cell' rfl) ?_
 refine zE (gn rfl) (zu zo6 rfl rfl rfl rfl hb2 (by simp) (by intro y hy; simp at hy; subst hy; rfl) ?_)
 intro wA nA cA kA
 refine za1 [2] (F' := [(2, _), (1000000, _)]) rfl (zi ?_)
 repeat first | refine tr ?_ | refine br ?_
 refine zjY (v := .slice pu (zda x.b.data.toList).length cu) (D := D) rfl zf3 rfl rfl ((cA.block D (by omega) (by simpa using hDb)).trans hdf) ?_
 intro w' hw'
 have kA : zU wA b2 132 [.slice pu (zda x.b.data.toList).length cu] := kA
 have huD : ∀ b ∈ zp (.slice pu (zda x.b.data.toList).length cu), b ∉ [D] := fun b hb hm => by
  rcases hu with ⟨he, _, _⟩ | ⟨b', off, cap, cc, he, hs⟩
  ·rw [he] at hb; simp [zp] at hb
  rw [he] at hb
  simp [zp] at hb hm
  subst hb hm
  rw [show wx.heap[b]? = _ from hs.blk] at hdf
  cases hdf
 refine ⟨(kA.chg hw' (by simpa using fun h => hDb h.symm)).cell' rfl, ?_, hfu, ?_⟩
 ·exact zv.chg (zv.chg hu cA (zv.apart hu hb2 rfl)) hw' huD
 exact ((hcx.own cA (by intro y hy; simp at hy; omega))).own hw' (by intro y hy; simp at hy; omega)
theorem zlg {x : zQ} (h : zbi x = 0) (hx : x.Rng) : ∃ f g, zdF zpE x.k = some (zeG f g) ∧ zn TP f = true ∧ ∀ w, z9 TP f #[x.v] w fun r w' => zcF w' r (zfO x) ∧ (∀ b ∈ zp r, w.heap.size ≤ b) ∧ zk [] w w' := by
 obtain ⟨hf, hb⟩ := zcR h
 obtain ⟨hk, hbr, hm⟩ := za8 hf
 obtain ⟨k, i, u, b⟩ := x
 rcases (show k = 0 ∨ k = 1 ∨ k = 2 ∨ k = 3 ∨ k = 4 by simp at hk; omega) with rfl | rfl | rfl | rfl | rfl
 ·exact ⟨_, _, rfl, zu8, fun w => ztE _ w⟩
 ·exact ⟨_, _, rfl, zxw, fun w => ztU _ w hx⟩
 ·exact ⟨_, _, rfl, zw7, fun w => zug _ w hx⟩
 ·exact ⟨_, _, rfl, zv9, fun w => zuc _ w (hm rfl)⟩
 exact ⟨_, _, rfl, zxh, fun w => zua _ w (by simp at hb ⊢; omega)⟩
theorem zn6 (l : List zQ) (x : zQ) : zdc (l ++ [x]) = zdc l ++ ([UInt8.ofNat x.k.toNat] ++ zfO x) := by simp [zdc, znm]
theorem zkn : ∀ {l : List zQ} {j : Nat} {x : zQ}, l[j]? = some x → zbi x ≠ 0 → (∀ y ∈ l.take j, zbi y = 0) → zgV l = zbi x
 | [], _, _, h, _, _ => by simp at h
 | y :: l, 0, x, h, hx, _ => by simp at h; subst h; simp [zgV, hx]
 | y :: l, j + 1, x, h, hx, ha => by
  unfold zgV
  rw [if_neg (by simp [ha y (by simp)])]
  exact zkn (by simpa using h) hx (fun z hz => ha z (by simp [hz]))
theorem zcF.push {w : World} {v : Value} {l m : List UInt8} {n : Nat} {xs : List Value} (h : zv w 5 1 v n xs) (hn : n = l.length + m.length) (hx : xs = bv l ++ bv m) : zcF w v (l ++ m) := by
 subst hn hx
 unfold zcF
 rw [List.length_append, yK]
 exact h
theorem zrS {v v' : Value} {w w0 : World} (ho : zp v' = zp v ∨ ∃ b, zp v' = [b] ∧ w.heap.size ≤ b) (hs : w0.heap.size ≤ w.heap.size) : ∀ y ∈ zp v', y ∈ zp v ∨ w0.heap.size ≤ y := by
 intro y hy
 rcases ho with o | ⟨b, o, hb⟩
 ·rw [o] at hy; exact .inl hy
 rw [o] at hy; simp at hy; subst hy; right; omega
theorem zpk (v : Value) (l : List zQ) (w : World) (hl : zK w v l) (hg : ∀ x ∈ l, x.Rng) (hn : l.length ≤ 8) :
 z9 TP 103 #[v] w fun r w' => r = .tuple #[.string (if zgV l = 0 then zb8 l else e0), Ii (zgV l)] ∧ zk [] w w' := by
 obtain ⟨pv, cv, rfl, hcv⟩ := z0.val hl
 refine A1 Tryz.func103 rfl rfl ?_
 refine Sr (Oa rfl (Oa rfl (E1 0 rfl (Sr (Oa rfl (E2 0 4 rfl (ze (Sr (Om rfl (On zao rfl ?_))))))))))
 refine Om rfl (E4 4 8 9 10 rfl (zq ?_))
 refine zW [4, 8, 9, 10] (fun m F wx => ∃ (j : Nat) (u : Value), m = l.length - j ∧ j ≤ l.length ∧ F = [(4, u), (8, .slice pv l.length cv), (9, Ii l.length), (10, Ii j)] ∧ zcF wx u (zdc (l.take j)) ∧ (∀ b ∈ zp u, w.heap.size ≤ b) ∧ zk [] w wx ∧ (∀ y ∈ l.take j, zbi y = 0)) (m := l.length - 0) ⟨0, _, rfl, Nat.zero_le _, rfl, zv.nil _ _ _, by simp [zp], zk.refl _ _, by simp⟩ ?_
 rintro m F wx ⟨j, u, rfl, hj, rfl, hu, hfu, hcx, hall⟩
 have hkl := zfY hall
 rw [List.length_take, Nat.min_eq_left hj] at hkl
 refine Sr (Og (zC rfl rfl) rfl (E5 4 8 9 10 11 rfl (ze ?_)))
 refine zR rfl (fun hT => ?_) (fun hF => ?_)
 ·refine zm ?_
  have hlt : j < l.length := by have := of_decide_eq_true hT; omega
  have hx : l[j]? = some l[j] := by simp [hlt]
  generalize l[j] = x at hx
  have hxr := hg x (List.mem_of_getElem? hx)
  obtain ⟨b, off, cap, hv, hcell⟩ := z0.at zbq (z0.chg0 hl hcx) hx
  cases hv
  refine ze (zq (Sr ?_))
  refine Og (zf zao y6 rfl rfl _ rfl hlt) rfl ?_
  refine Og (zg zbp y6 rfl rfl hcell) rfl ?_
  refine zE (gn rfl) (zH zd6 rfl rfl ?_)
  intro b6 w6 e6 n6 c6 k6
  refine zE (gn rfl) (zu y6 rfl rfl rfl rfl k6 (by simp [zQ.cs]) (zQ.one x) ?_)
  intro wA nA cA kA
  refine E5 4 6 8 9 10 rfl ?_
  have kA : zU wA b6 40 x.cs := kA
  have hcA : zk [] wx wA := c6.own cA (by intro y hy; simp at hy; omega)
  refine ze (Sr ?_)
  refine Og (zg zbp y6 rfl rfl (zy.of_blk0 kA)) rfl ?_
  refine Oc zsV rfl rfl rfl (zmW x _) ?_
  rintro v15 w15 ⟨rfl, c15⟩
  refine Oa rfl (E6 4 6 7 8 9 10 rfl ?_)
  have kB := kA.chg0 c15
  have hcB : zk [] wx w15 := hcA.trans c15
  have huB := zv.chg0 hu hcB
  refine ze ?_
  by_cases hc : zbi x = 0
  ·refine za (Om rfl ?_)
   refine Og (vf (zS rfl rfl) (by simp [hc])) rfl ?_
   refine E7 4 6 7 8 9 10 17 rfl (zb rfl (zm ?_))
   obtain ⟨f, g, hgk, hbf, hlay⟩ := zlg hc hxr
   have hfine := (za8 (zcR hc).1).1
   have hkT : (zfO x).length ≤ 234 := by have := zhG hc; rw [znm] at this; simp at this; omega
   have hd : zk (zp u) w15 w15.drew := zk.drew _ _
   have hbu : b6 ∉ zp u := fun hm => zv.apart huB kB rfl b6 hm (by simp)
   refine zJ (fun wz => zk (zp u) w15 wz) mix (by kernel_rfl) hd ?_
   refine Tm rfl (Td zaw rfl ?_)
   refine Tr (fun wz hz => zh zcm rfl ((kB.chg hz hbu).cell' rfl)) rfl ?_
   refine Tp (fun _ => yq zay zaP rfl (show IntKind.u8.wrap x.k = (((UInt8.ofNat x.k.toNat).toNat : Nat) : Int) by rw [show x.k = ((x.k.toNat : Nat) : Int) by omega, zcV]; simp)) rfl ?_
   refine zas rfl (gn rfl) (zB zaL rfl (vs := [_]) rfl (css := [_]) ⟨rfl, trivial⟩ rfl rfl (cs := [_]) rfl rfl ?_)
   intro b23 w23 e23 n23 c23 k23
   refine ⟨.inl (hd.trans c23), ?_⟩
   refine zas rfl (gn rfl) (yt zaL yT rfl rfl (zv.chg0 huB ((zk.drew [] _).trans c23)) (zv.of_blk (n := 1) (c := bv [UInt8.ofNat x.k.toNat]) k23 rfl (by simp [maxLen]) (zcd _)) (by simp only [maxLen]; omega) (by omega) rfl ?_)
   intro v24 w24 i24 c24 o24 z24
   refine ⟨.inl ((hd.trans c23).transS c24), ?_⟩
   refine Tc zvg rfl rfl rfl (zqX _) ?_
   rintro v25 w25 ⟨b25, rfl, h25, k25, c25⟩
   refine ⟨.inl (((hd.trans c23).transS c24).trans c25), ?_⟩
   refine Td zaw rfl ?_
   refine Tr (fun wz hz => zh zcm rfl ((kB.chg hz hbu).cell' rfl)) rfl ?_
   refine zas rfl (gn rfl) (St.vl (zcI (κ := zbB .i64) ziY (yv zaP) zja rfl rfl k25 hgk rfl) rfl rfl ?_)
   refine ⟨.inl (((hd.trans c23).transS c24).trans c25), ?_⟩
   refine Tp (fun _ => zgU zq6 rfl rfl) rfl ?_
   refine Tr (fun wz hz => zg zbp y6 rfl rfl (zy.of_blk0 (kB.chg hz hbu))) rfl ?_
   refine Tc hbf rfl rfl rfl (hlay _) ?_
   rintro v31 w31 ⟨i31, f31, c31⟩
   refine ⟨.inl ((((hd.trans c23).transS c24).trans c25).trans c31), ?_⟩
   refine zas rfl (gn rfl) (yt zaL yT rfl rfl (zv.chg0 (zv.chg0 i24 c25) c31) i31 (by simp only [maxLen]; omega) (by omega) rfl ?_)
   intro v32 w32 i32 c32 o32 z32
   refine ⟨.inl (((((hd.trans c23).transS c24).trans c25).trans c31).trans' c32 (zrS o24 c23.size)), ?_⟩
   refine Ta rfl ?_
   refine zdV [4, 8, 9, 10] (F' := [(4, _), (8, _), (9, _), (10, _)]) rfl ?_
   refine zl ?_
   have hcz : zk (zp u) w15 w32 := ((((hd.trans c23).transS c24).trans c25).trans c31).trans' c32 (zrS o24 c23.size)
   have hwz := (hcx.trans hcB).own hcz hfu
   have hs1 := hcx.size
   have hs2 := hcB.size
   have hs3 : w15.heap.size ≤ w23.heap.size := c23.size
   have hs4 := (c24.size)
   have hs5 := c25.size
   have hs6 := c31.size
   refine za ?_
   refine Og (zI rfl rfl (by omega)) rfl ?_
   refine Om rfl (N4 4 8 9 10 rfl ?_)
   refine ⟨l.length - (j + 1), by omega, j + 1, v32, rfl, by omega, rfl, ?_, yB o32 (yB o24 hfu (by omega)) (by omega), hwz, ?_⟩
   ·rw [List.take_add_one, hx]
    show zcF w32 v32 (zdc (l.take j ++ [x]))
    rw [zn6, ← List.append_assoc]
    refine zcF.push i32 ?_ ?_
    ·rw [List.length_append]; rfl
    rw [yK]
   intro y hy
   rw [List.take_add_one, hx] at hy
   rcases List.mem_append.1 hy with hy | hy
   ·exact hall y hy
   simp at hy; subst hy; exact hc
  refine za (Om rfl ?_)
  refine Og (vt (zS rfl rfl) (by simp [hc])) rfl ?_
  refine E7 4 6 7 8 9 10 17 rfl (zd rfl (Sr (Om rfl (Oa rfl (Oa rfl (E2 2 3 rfl (zi ?_)))))))
  repeat first | refine tr ?_ | refine br ?_
  refine zaV rfl rfl rfl ?_
  rw [zkn hx hc hall, if_neg hc]
  exact ⟨rfl, hcx.trans hcB⟩
 refine zM ?_
 repeat first | refine te ?_ | refine bo rfl ?_
 refine zt _ ?_
 have he : l.length ≤ j := by have := of_decide_eq_false hF; omega
 rw [List.take_of_length_le he] at hu hall hkl
 have hE := zfa.2 hall
 obtain ⟨pu, cu, rfl, _⟩ := id (zv.val hu)
 refine ze (Sr (Om rfl (On yT rfl ?_)))
 refine Og (vf (yg rfl rfl) (decide_eq_false (by omega))) rfl ?_
 refine E2 4 36 rfl (zb rfl (zm (Sr (Om rfl ?_))))
 refine Og (zfk (l := (zdc l)) yT zay st9 rfl (zv.rd hu)) rfl ?_
 refine Oa rfl (Oa rfl (E2 2 3 rfl (zi ?_)))
 refine zaV rfl rfl rfl ?_
 rw [hE, if_pos rfl]
 exact ⟨rfl, hcx⟩
theorem zxu (x : zQ) (w : World) : z9 TP 105 #[x.v] w fun r w' => r = .bool (decide (x.k = 0)) ∧ zk [] w w' := by
 refine A1 Tryz.func105 rfl rfl ?_
 refine Sr ?_
 refine Ob rfl rfl ?_
 intro b1 w1 e1 n1 c1 k1
 refine Oa rfl (E1 1 rfl (Sr (Od zaw rfl ?_)))
 refine Ol zcm rfl (k1.cell' rfl) ?_
 refine Og (zw rfl rfl) rfl (Oa rfl (E1 2 rfl (zi ?_)))
 refine zD rfl rfl ?_
 exact ⟨rfl, c1⟩
theorem zrc (l : List zQ) : nnS l = !(l.any fun x => decide (x.k = 0)) := by
 rw [Bool.eq_iff_iff]
 simp [nnS]
theorem zwm (v : Value) (l : List zQ) (w : World) (hl : zK w v l) (hg : ∀ x ∈ l, x.Rng) (hn : l.length ≤ 8) :
 z9 TP 70 #[v] w fun r w' => r = .tuple #[.string (if zgV l = 0 then zb8 l else e0), .bool (nnS l)] ∧ zk [] w w' := by
 refine A1 Tryz.func70 rfl rfl ?_
 refine Sr (Oa rfl (Oa rfl (E1 0 rfl (Sr (Om rfl ?_)))))
 refine Oc zxe rfl rfl rfl (zpk v l _ hl hg hn) ?_
 rintro v8 w8 ⟨rfl, c8⟩
 refine Om rfl (Oe rfl rfl (Oe rfl rfl (Oa rfl (Oa rfl (E2 0 4 rfl (Sr (Om rfl (Om rfl ?_))))))))
 refine Oc zwG rfl rfl rfl (zux zbq v l (fun x => decide (x.k = 0)) 105 [] _ (z0.chg0 hl c8) (by omega) zv4 (fun x _ w1 _ => zxu x w1)) ?_
 rintro v13 w13 ⟨rfl, c13⟩
 refine Og (zO rfl) rfl (Oa rfl (Oa rfl (E2 2 3 rfl (zi ?_))))
 refine zaV rfl rfl rfl ?_
 exact ⟨by rw [zrc], c8.trans c13⟩
theorem zq7 (a p v : Value) (st : List Int) (row : List zQ) (w : World) (ha : yC w a st) (hp : p.oneCell' = true) (hv : zK w v row) (hg : ∀ x ∈ row, x.Rng) (hc : ∀ x ∈ row, zbi x = 0) (hr : ∀ i ∈ st, 0 ≤ i ∧ i < row.length) (hn : st.length ≤ 8) (hn' : row.length ≤ 1048576) :
 z9 TP 62 #[.agg #[a, p], v] w fun r w' => r = .tuple #[.string (zb8 (zZ row st)), .bool (nnS (zZ row st))] ∧ zk [] w w' := by
 have hmem : ∀ x ∈ zZ row st, x ∈ row := fun x hx => by
  rw [zei, List.mem_map] at hx
  obtain ⟨i, hi, rfl⟩ := hx
  exact (zej rfl (hr i hi)).1
 have hE : zgV (zZ row st) = 0 := zfa.2 fun x hx => hc x (hmem x hx)
 obtain ⟨pa, ca, rfl, _⟩ := id (z0.val ha)
 refine A2 Tryz.func62 rfl rfl ?_
 refine Sr ?_
 refine Ob rfl rfl ?_
 intro b2 w2 e2 n2 c2 k2
 refine Oa rfl (Oa rfl (E2 1 2 rfl (Sr (Om rfl (Od zho rfl ?_)))))
 refine Ol za3 rfl (k2.cell' rfl) ?_
 refine Oc zx9 rfl rfl rfl (ztl v _ row st _ (z0.chg0 hv c2) (z0.chg0 ha c2) hr hn' (by omega)) ?_
 rintro v12 w12 ⟨u, rfl, iu, fu, c12⟩
 refine Om rfl (Oe rfl rfl (Oe rfl rfl (Oa rfl (Oa rfl (E1 6 rfl (Sr (Om rfl ?_)))))))
 refine Oc zxn rfl rfl rfl (zwm u (zZ row st) _ iu (fun x hx => hg x (hmem x hx)) (by rw [zeZ]; exact hn)) ?_
 rintro v16 w16 ⟨rfl, c16⟩
 refine Oe rfl rfl (Oe rfl rfl (Oa rfl (Oa rfl (E2 4 5 rfl (zi ?_)))))
 refine zaV rfl rfl rfl ?_
 rw [hE, if_pos rfl]
 exact ⟨rfl, (c2.trans c12).trans c16⟩
theorem zoo (n : Nat) : ∀ {k m : Nat}, k ≤ m → be (n % 256 ^ m) k = be n k
 | 0, _, _ => rfl
 | k + 1, m, h => by
  have e : n % 256 ^ m / 256 ^ k % 256 = n / 256 ^ k % 256 := by
   have h1 : n % 256 ^ m % 256 ^ (k + 1) = n % 256 ^ (k + 1) := Nat.mod_mod_of_dvd _ (Nat.pow_dvd_pow _ h)
   have h2 : ∀ a : Nat, a / 256 ^ k % 256 = a % 256 ^ (k + 1) / 256 ^ k := fun a => by
    rw [Nat.pow_succ, Nat.mod_mul_right_div_self]
   rw [h2, h1, ← h2]
  unfold be
  rw [e, zoo n (by omega)]
theorem zm5 (n z : Nat) (w : World) (hn : n < 18446744073709551616) (hz : z = 1 ∨ z = 2 ∨ z = 4 ∨ z = 8) : z9 TP 162 #[.int .u64 n, Ii z] w fun r w' => zcF w' r (be n z) ∧ (∀ b ∈ zp r, w.heap.size ≤ b) ∧ zk [] w w' := by
 have e1 : IntKind.u64.wrap ((n : Int) * 2 ^ (64 - 8 * z)) = ((n * 2 ^ (64 - 8 * z) % 18446744073709551616 : Nat) : Int) := by rw [zci]; rcases hz with rfl | rfl | rfl | rfl <;> simp only [Nat.reducePow, Nat.reduceMul, Nat.reduceSub, Int.reducePow] <;> omega
 have e2 : n * 2 ^ (64 - 8 * z) % 18446744073709551616 / 2 ^ (64 - 8 * z) = n % 256 ^ z := by rcases hz with rfl | rfl | rfl | rfl <;> simp only [Nat.reducePow, Nat.reduceMul, Nat.reduceSub] <;> omega
 have hz8 : z ≤ 8 := by omega
 have hp : n % 256 ^ z < 256 ^ z := Nat.mod_lt _ (Nat.pow_pos (by decide))
 refine A2 Tryz.func162 rfl rfl ?_
 refine Sr (Oa rfl (E2 0 1 rfl (Sr (Om rfl (Om rfl ?_)))))
 refine Og (zcL rfl rfl (by omega)) rfl ?_
 refine Og (yN rfl rfl (by omega)) rfl ?_
 refine Og (zdu (64 - 8 * z) rfl rfl (by omega) (by simp only [IntKind.bits]; omega) e1) rfl ?_
 refine Om rfl ?_
 refine Og (zcL rfl rfl (by omega)) rfl ?_
 refine Og (yN rfl rfl (by omega)) rfl ?_
 refine Og (zbP (64 - 8 * z) rfl rfl (by omega) (by simp only [IntKind.bits]; omega) (ziV _ _)) rfl ?_
 refine Om rfl ?_
 refine Oc zsP rfl rfl rfl (e2 ▸ zmz (n % 256 ^ z) z _ (Nat.lt_of_le_of_lt (Nat.mod_le _ _) hn) (by omega) hp) ?_
 rintro v18 w18 ⟨v18, rfl, i18, f18, c18⟩
 refine Om rfl (Oe rfl rfl (Oe rfl rfl (Oa rfl (Oa rfl (E1 5 rfl (Sr (Om rfl (Oa rfl (E1 4 rfl (zi ?_))))))))))
 refine zD rfl rfl ?_
 rw [e2, zoo n (Nat.le_refl z)] at i18
 exact ⟨by unfold zcF; rw [zaB]; exact i18, f18, c18⟩
theorem zup (c : Col) (x : zQ) (w : World) (hx : x.Rng) (hz : c.s = 1 ∨ c.s = 2 ∨ c.s = 4 ∨ c.s = 8) : z9 TP 161 #[c.v, x.v] w fun r w' => zcF w' r (be (x.i % 18446744073709551616).toNat c.s.toNat) ∧ (∀ b ∈ zp r, w.heap.size ≤ b) ∧ zk [] w w' := by
 have hi := hx.i
 obtain ⟨z, hz1, hz2⟩ : ∃ z : Nat, c.s = z ∧ (z = 1 ∨ z = 2 ∨ z = 4 ∨ z = 8) := ⟨c.s.toNat, by omega, by omega⟩
 refine A2 Tryz.func161 rfl rfl ?_
 refine Sr ?_
 refine Ob rfl rfl ?_
 intro b2 w2 e2 n2 c2 k2
 refine Ob rfl rfl ?_
 intro b3 w3 e3 n3 c3 k3
 refine Oa rfl (E2 2 3 rfl (Sr (Od yY rfl ?_)))
 refine Ol ag2 rfl (k3.cell' rfl) ?_
 refine Og (yq zbz zdK rfl (show IntKind.u64.wrap x.i = (((x.i % 18446744073709551616).toNat : Nat) : Int) by rw [zci]; omega)) rfl ?_
 refine Od zbH rfl ?_
 refine Ol ag3 rfl ((k2.chg0 c3).cell' (show _ = some (Value.int .i64 (z : Int)) by rw [← hz1]; rfl)) ?_
 refine Oc zr6 rfl rfl rfl (zm5 _ z _ (by omega) hz2) ?_
 rintro v10 w10 ⟨i10, f10, c10⟩
 refine Oa rfl (E1 4 rfl (zi ?_))
 refine zD rfl rfl ?_
 have hs := (c2.trans c3).size
 rw [hz1]
 exact ⟨i10, fun b hb => Nat.le_trans hs (f10 b hb), (c2.trans c3).trans c10⟩
theorem ztN (c : Col) (x : zQ) (w : World) (hx : x.Rng) (hz : c.s = 1 ∨ c.s = 2 ∨ c.s = 4 ∨ c.s = 8) : z9 TP 167 #[c.v, x.v] w fun r w' => zcF w' r (be x.u c.s.toNat) ∧ (∀ b ∈ zp r, w.heap.size ≤ b) ∧ zk [] w w' := by
 obtain ⟨z, hz1, hz2⟩ : ∃ z : Nat, c.s = z ∧ (z = 1 ∨ z = 2 ∨ z = 4 ∨ z = 8) := ⟨c.s.toNat, by omega, by omega⟩
 refine A2 Tryz.func167 rfl rfl ?_
 refine Sr ?_
 refine Ob rfl rfl ?_
 intro b2 w2 e2 n2 c2 k2
 refine Ob rfl rfl ?_
 intro b3 w3 e3 n3 c3 k3
 refine Oa rfl (E2 2 3 rfl (Sr (Od zaZ rfl ?_)))
 refine Ol zcZ rfl (k3.cell' rfl) ?_
 refine Od zbH rfl ?_
 refine Ol ag3 rfl ((k2.chg0 c3).cell' (show _ = some (Value.int .i64 (z : Int)) by rw [← hz1]; rfl)) ?_
 refine Oc zr6 rfl rfl rfl (zm5 _ z _ hx.u hz2) ?_
 rintro v9 w9 ⟨i9, f9, c9⟩
 refine Oa rfl (E1 4 rfl (zi ?_))
 refine zD rfl rfl ?_
 have hs := (c2.trans c3).size
 rw [hz1]
 exact ⟨i9, fun b hb => Nat.le_trans hs (f9 b hb), (c2.trans c3).trans c9⟩
theorem zsX (c : Col) (x : zQ) (w : World) (hx : x.i = 0 ∨ x.i = 1) : z9 TP 169 #[c.v, x.v] w fun r w' => zcF w' r [UInt8.ofNat x.i.toNat] ∧ (∀ b ∈ zp r, w.heap.size ≤ b) ∧ zk [] w w' := by
 refine A2 Tryz.func169 rfl rfl ?_
 refine Sr ?_
 refine Ob rfl rfl ?_
 intro b2 w2 e2 n2 c2 k2
 refine Ob rfl rfl ?_
 intro b3 w3 e3 n3 c3 k3
 refine Oa rfl (E1 3 rfl (Sr (Od yY rfl ?_)))
 refine Ol ag2 rfl (k3.cell' rfl) ?_
 refine Og (yq zay zdK rfl (show IntKind.u8.wrap x.i = (((UInt8.ofNat x.i.toNat).toNat : Nat) : Int) by rcases hx with h | h <;> rw [h] <;> rfl)) rfl ?_
 refine zE (gn rfl) (zB zaL rfl (vs := [_]) rfl (css := [_]) ⟨rfl, trivial⟩ rfl rfl (cs := [_]) rfl rfl ?_)
 intro b8 w8 e8 n8 c8 k8
 refine Oa rfl (E1 4 rfl (zi ?_))
 refine zD rfl rfl ?_
 have hs := (c2.trans c3).size
 exact ⟨zv.of_blk (n := 1) k8 rfl (by simp [maxLen]) (zcd _), by intro b hb; simp [zp] at hb; omega, (c2.trans c3).trans c8⟩
theorem zt1 (c : Col) (x : zQ) (w : World) (hx : x.b.size ≤ 1048576) : z9 TP 173 #[c.v, x.v] w fun r w' => zcF w' r (zbS x.b) ∧ (∀ b ∈ zp r, w.heap.size ≤ b) ∧ zk [] w w' := by
 refine A2 Tryz.func173 rfl rfl ?_
 refine Sr ?_
 refine Ob rfl rfl ?_
 intro b2 w2 e2 n2 c2 k2
 refine Ob rfl rfl ?_
 intro b3 w3 e3 n3 c3 k3
 refine Oa rfl (E1 3 rfl (Sr (Od zaR rfl ?_)))
 refine Ol ag9 rfl (k3.cell' rfl) ?_
 refine Oc zvq rfl rfl rfl (zuv x.b _ hx) ?_
 rintro v7 w7 ⟨i7, f7, c7⟩
 refine Oa rfl (E1 4 rfl (zi ?_))
 refine zD rfl rfl ?_
 have hs := (c2.trans c3).size
 exact ⟨i7, fun b hb => Nat.le_trans hs (f7 b hb), (c2.trans c3).trans c7⟩
def zi6 (f g h : FuncId) : Value := .agg #[.func (.func f) #[] #[], .func (.func g) #[] #[], .func (.func h) #[] #[]]
def zlV : List (Int × Value) := [(1, zi6 161 163 166), (2, zi6 167 168 166), (3, zi6 169 170 172), (4, zi6 173 175 178)]
theorem znf (w : World) : z9 TP 133 #[] w fun r w' => ∃ b, r = .map (some b) ∧ w.heap.size ≤ b ∧ zae (zbB .i64) w' b zlV ∧ zk [] w w' := by
 refine z9.of_W (args := []) Tryz.func133 rfl rfl rfl rfl ?_
 refine Sr (Oa rfl (za1 [] (F' := []) rfl (Sr ?_)))
 refine zE (gn rfl) (zcX (zbB .i64) rfl ?_)
 intro b1 w1 e1 n1 c1 k1
 refine Og (z6 zmq zi9 rfl (vs := [_, _, _]) rfl (css := [_, _, _]) ⟨rfl, rfl, rfl, trivial⟩ rfl rfl (cs := [_, _, _]) rfl) rfl ?_
 refine zE (gn rfl) (zaS (κ := zbB .i64) ziR (yv zaF) rfl rfl rfl k1 ?_)
 intro wA nA cA kA
 refine Og (z6 zmq zi9 rfl (vs := [_, _, _]) rfl (css := [_, _, _]) ⟨rfl, rfl, rfl, trivial⟩ rfl rfl (cs := [_, _, _]) rfl) rfl ?_
 refine zE (gn rfl) (zaS (κ := zbB .i64) ziR (yv zaF) rfl rfl rfl kA ?_)
 intro wB nB cB kB
 refine Og (z6 zmq zi9 rfl (vs := [_, _, _]) rfl (css := [_, _, _]) ⟨rfl, rfl, rfl, trivial⟩ rfl rfl (cs := [_, _, _]) rfl) rfl ?_
 refine zE (gn rfl) (zaS (κ := zbB .i64) ziR (yv zaF) rfl rfl rfl kB ?_)
 intro wC nC cC kC
 refine Og (z6 zmq zi9 rfl (vs := [_, _, _]) rfl (css := [_, _, _]) ⟨rfl, rfl, rfl, trivial⟩ rfl rfl (cs := [_, _, _]) rfl) rfl ?_
 refine zE (gn rfl) (zaS (κ := zbB .i64) ziR (yv zaF) rfl rfl rfl kC ?_)
 intro wD nD cD kD
 refine Om rfl (Oa rfl (E1 0 rfl (zi ?_)))
 refine zD rfl rfl ?_
 exact ⟨b1, rfl, by omega, kD, c1.own ((((cA.transS cB).transS cC).transS cD)) (by intro x hx; simp at hx; omega)⟩
theorem zln {c : Col} {x : zQ} (h : yZ c x = 0) (hk : x.k ≠ 0) (hx : x.Rng) : ∃ f g k, zdF zlV c.t = some (zi6 f g k) ∧ zn TP f = true ∧ ∀ w, z9 TP f #[c.v, x.v] w fun r w' => zcF w' r (zio c x) ∧ (∀ b ∈ zp r, w.heap.size ≤ b) ∧ zk [] w w' := by
 obtain ⟨hr, hc, _, h2⟩ := zbs h
 obtain ⟨hkt, _⟩ := h2 hk
 obtain ⟨hf, hb⟩ := zcR hc
 obtain ⟨_, hbr, hm⟩ := za8 hf
 obtain ⟨s1, s2, s3, s4⟩ := zdA hr
 unfold zio
 rcases s4 with e | e | e | e <;> simp only [e, ↓reduceIte, Int.reduceEq]
 ·exact ⟨_, _, _, rfl, zvE, fun w => zup c x w hx (s1 (.inl e))⟩
 ·exact ⟨_, _, _, rfl, zwn, fun w => ztN c x w hx (s1 (.inr e))⟩
 ·exact ⟨_, _, _, rfl, zv5, fun w => zsX c x w (hm (by omega))⟩
 exact ⟨_, _, _, rfl, zxC, fun w => zt1 c x w (by omega)⟩
theorem zgF : ∀ {cs : List Col} {xs : List zQ} {j : Nat} {c : Col} {x : zQ}, cs[j]? = some c → xs[j]? = some x → zcb (cs.take (j + 1)) (xs.take (j + 1)) = zcb (cs.take j) (xs.take j) ++ zeh c x
 | [], _, _, _, _, h, _ => by simp at h
 | _ :: _, [], _, _, _, _, h => by simp at h
 | c :: cs, x :: xs, 0, c', x', hc, hx => by simp at hc hx; subst hc hx; simp [zcb]
 | c :: cs, x :: xs, j + 1, c', x', hc, hx => by
  simp only [List.take_succ_cons, zcb]
  rw [zgF (by simpa using hc) (by simpa using hx), List.append_assoc]
theorem zif : ∀ {cs : List Col} {xs : List zQ}, zaJ cs xs = 0 → ∀ j, zaJ (cs.take j) (xs.take j) = 0
 | [], _, _, j => by simp [zaJ]
 | _ :: _, [], _, j => by simp [zaJ]
 | c :: cs, x :: xs, h, 0 => by simp [zaJ]
 | c :: cs, x :: xs, h, j + 1 => by
  unfold zaJ at h
  by_cases h1 : yZ c x = 0
  ·rw [if_neg (by simp [h1])] at h
   simp only [List.take_succ_cons, zaJ, h1, zif h j]
   rfl
  rw [if_pos h1] at h; exact absurd h h1
theorem zql (c k u v : Value) (s : yo) (l : List zQ) (w : World) (hE : EOk w) (hs : yO w c k u s) (hm : s.Sm) (hl : zK w v l) (hg : ∀ x ∈ l, x.Rng) (hn : l.length ≤ 1048576) :
 z9 TP 84 #[.agg #[c, k, u], v] w fun r w' => ∃ o, r = .tuple #[o, Ii (yV s l)] ∧ zcF w' o (if yV s l = 0 then zcb s.cols l else []) ∧ (∀ b ∈ zp o, w.heap.size ≤ b) ∧ zk [] w w' := by
 obtain ⟨pv, cv, rfl, hcv⟩ := z0.val hl
 refine A2 Tryz.func84 rfl rfl ?_
 refine Sr ?_
 refine Ob rfl rfl ?_
 intro b2 w2 e2 n2 c2 k2
 refine Oa rfl (Oa rfl (E2 1 2 rfl (ze (Sr ?_))))
 refine Og (zg zaW zaX rfl rfl (zy.of_blk0 k2)) rfl ?_
 refine Om rfl ?_
 refine Oc zvl rfl rfl rfl (zsT c k u _ s l _ (hE.chg0 c2) (hs.chg0 c2) hm (z0.chg0 hl c2) hg hn) ?_
 rintro v13 w13 ⟨rfl, c13⟩
 refine Oa rfl (E3 1 2 6 rfl (ze ?_))
 by_cases hr : yV s l = 0
 ·refine za (Om rfl ?_)
  refine Og (vf (zS rfl rfl) (by simp [hr])) rfl ?_
  refine E4 1 2 6 15 rfl (zb rfl (zm ?_))
  obtain ⟨hrs, hlen, hfit⟩ := zam hr
  refine Sr (Oa rfl (E3 1 2 7 rfl (ze (ze ?_))))
  have hcA := c2.trans c13
  have k2 := k2.chg0 c13
  refine za (Om rfl (On zao rfl (Om rfl (E5 2 7 17 18 19 rfl (zq ?_)))))
  refine zW [2, 7, 17, 18, 19] (fun m F wx => ∃ (j : Nat) (u : Value), m = l.length - j ∧ j ≤ l.length ∧ F = [(2, Pt b2), (7, u), (17, .slice pv l.length cv), (18, Ii l.length), (19, Ii j)] ∧ zcF wx u (zcb (s.cols.take j) (l.take j)) ∧ (∀ b ∈ zp u, w13.heap.size ≤ b) ∧ zk [] w13 wx) (m := l.length - 0) ⟨0, _, rfl, Nat.zero_le _, rfl, zv.nil _ _ _, by simp [zp], zk.refl _ _⟩ ?_
  rintro m F wx ⟨j, u', rfl, hj, rfl, hu, hfu, hcx⟩
  refine Sr (Og (zC rfl rfl) rfl (E6 2 7 17 18 19 20 rfl (ze ?_)))
  refine zR rfl (fun hT => ?_) (fun hF => ?_)
  ·refine zm ?_
   have hlt : j < l.length := by have := of_decide_eq_true hT; omega
   have hx : l[j]? = some l[j] := by simp [hlt]
   have hy : s.cols[j]? = some (s.cols[j]'(by omega)) := by simp [hlt, ← hlen]
   generalize l[j] = x at hx
   generalize s.cols[j]'(by omega) = y at hy
   have hxr := hg x (List.mem_of_getElem? hx)
   have hfy := zf4 hfit hy hx
   have hel := zid hfy
   have hkl := zd9 (zif hfit j)
   have h8 := (zX hrs).1
   rw [List.length_take, Nat.min_eq_left (by omega)] at hkl
   obtain ⟨b, off, cap, hv, hcell⟩ := z0.at zbq (z0.chg0 hl (hcA.trans hcx)) hx
   cases hv
   have k2 := k2.chg0 hcx
   refine ze (zq (Sr (Om rfl ?_)))
   refine Og (zf zao y6 rfl rfl _ rfl hlt) rfl ?_
   refine Og (zg zbp y6 rfl rfl hcell) rfl ?_
   refine zE (gn rfl) (zH zd6 rfl rfl ?_)
   intro b9 w9 e9 n9 c9 k9
   refine Oa rfl ?_
   refine zE (gn rfl) (zu y6 rfl rfl rfl rfl k9 (by simp [zQ.cs]) (zQ.one x) ?_)
   intro wA nA cA kA
   refine E7 2 7 8 9 17 18 19 rfl ?_
   have kA : zU wA b9 40 x.cs := kA
   have hcB : zk [] wx wA := c9.own cA (by intro y hy; simp at hy; omega)
   obtain ⟨bc, offc, capc, hvc, hcellc⟩ := z0.at zap (z0.chg0 hs.cols ((hcA.trans hcx).trans hcB)) hy
   subst hvc
   have k2 := k2.chg0 hcB
   have huB := zv.chg0 hu hcB
   refine ze (ze ?_)
   by_cases hk : x.k = 0
   ·refine za (Od zaw rfl ?_)
    refine Ol zcm rfl (kA.cell' rfl) ?_
    refine Og (vt (zw rfl rfl) (by simp [hk])) rfl ?_
    refine E8 2 7 8 9 17 18 19 26 rfl (zd rfl (ze ?_))
    have hkl2 : (zeh y x).length = 1 := by simp [zeh, hk]
    refine za (Om rfl ?_)
    refine zE (gn rfl) (zB zaL rfl (vs := [_]) rfl (css := [_]) ⟨rfl, trivial⟩ rfl rfl (cs := [_]) rfl rfl ?_)
    intro b28 w28 e28 n28 c28 k28
    refine zE (gn rfl) (yt zaL yT rfl rfl (zv.chg0 huB c28) (zv.of_blk (n := 1) (c := bv [0]) k28 rfl (by simp [maxLen]) (zcd _)) (by simp only [maxLen]; omega) (by omega) rfl ?_)
    intro v29 w29 i29 c29 o29 z29
    refine Oa rfl (E5 2 7 17 18 19 rfl ?_)
    have hcz : zk (zp u') wA w29 := (((zk.refl (zp u') wA).trans c28).transS c29)
    have hwz := (hcx.trans hcB).own hcz hfu
    have hs1 := hcx.size
    have hs2 := hcB.size
    have hs3 : wA.heap.size ≤ w28.heap.size := c28.size
    refine zM ?_
    repeat first | refine te ?_ | refine bo rfl ?_
    refine zt _ ?_
    refine za ?_
    refine Og (zI rfl rfl (by omega)) rfl ?_
    refine Om rfl (N5 2 7 17 18 19 rfl ?_)
    refine ⟨l.length - (j + 1), by omega, j + 1, v29, rfl, by omega, rfl, ?_, yB o29 hfu (by omega), hwz⟩
    rw [zgF hy hx, show zeh y x = [0] by simp [zeh, hk]]
    refine zcF.push i29 ?_ ?_
    ·rfl
    rfl
   refine za (Od zaw rfl ?_)
   refine Ol zcm rfl (kA.cell' rfl) ?_
   refine Og (vf (zw rfl rfl) (by simp [hk])) rfl ?_
   refine E8 2 7 8 9 17 18 19 26 rfl (zb rfl (zm ?_))
   obtain ⟨f, g, q, hgk, hbf, hlay⟩ := zln hfy hk hxr
   have hkl2 : (zeh y x).length = (zio y x).length + 1 := by simp [zeh, hk]
   refine Sr (Od yn rfl ?_)
   refine Ol zav rfl (k2.cell' rfl) ?_
   refine Om rfl ?_
   refine Og (zf zaj zaT rfl rfl _ rfl (show j < s.cols.length by omega)) rfl ?_
   refine Og (zg zdX zaT rfl rfl hcellc) rfl ?_
   refine zE (gn rfl) (zH znw rfl rfl ?_)
   intro b10 w10 e10 n10 c10 k10
   refine zE (gn rfl) (zu zaT rfl rfl rfl rfl k10 (by simp [Col.cs]) (Col.one y) ?_)
   intro wB nB cB kB
   refine E7 2 7 9 10 17 18 19 rfl ?_
   have kB : zU wB b10 25 y.cs := kB
   have hcC : zk [] wA wB := c10.own cB (by intro y hy; simp at hy; omega)
   have kA := kA.chg0 hcC
   have huC := zv.chg0 huB hcC
   have hd : zk (zp u') wB wB.drew := zk.drew _ _
   have hbu : b9 ∉ zp u' := fun hm => zv.apart huC kA rfl b9 hm (by simp)
   have hbv : b10 ∉ zp u' := fun hm => zv.apart huC kB rfl b10 hm (by simp)
   refine zJ (fun wz => zk (zp u') wB wz) mix (by kernel_rfl) hd ?_
   refine Tm rfl ?_
   refine zas rfl (gn rfl) (zB zaL rfl (vs := [_]) rfl (css := [_]) ⟨rfl, trivial⟩ rfl rfl (cs := [_]) rfl rfl ?_)
   intro b36 w36 e36 n36 c36 k36
   refine ⟨.inl (hd.trans c36), ?_⟩
   refine zas rfl (gn rfl) (yt zaL yT rfl rfl (zv.chg0 huC ((zk.drew [] _).trans c36)) (zv.of_blk (n := 1) (c := bv [1]) k36 rfl (by simp [maxLen]) (zcd _)) (by simp only [maxLen]; omega) (by omega) rfl ?_)
   intro v37 w37 i37 c37 o37 z37
   refine ⟨.inl ((hd.trans c36).transS c37), ?_⟩
   refine Tc zsB rfl rfl rfl (znf _) ?_
   rintro v38 w38 ⟨b38, rfl, h38, k38, c38⟩
   refine ⟨.inl (((hd.trans c36).transS c37).trans c38), ?_⟩
   refine Td zfP rfl ?_
   refine Tr (fun wz hz => zh zmk rfl ((kB.chg hz hbv).cell' rfl)) rfl ?_
   refine zas rfl (gn rfl) (St.vl (zcI (κ := zbB .i64) ziR (yv zaF) zi9 rfl rfl k38 hgk rfl) rfl rfl ?_)
   refine ⟨.inl (((hd.trans c36).transS c37).trans c38), ?_⟩
   refine Tp (fun _ => zgU zqR rfl rfl) rfl ?_
   refine Tr (fun wz hz => zg zdX zaT rfl rfl (zy.of_blk0 (kB.chg hz hbv))) rfl ?_
   refine Tr (fun wz hz => zg zbp y6 rfl rfl (zy.of_blk0 (kA.chg hz hbu))) rfl ?_
   refine Tc hbf rfl rfl rfl (hlay _) ?_
   rintro v45 w45 ⟨i45, f45, c45⟩
   refine ⟨.inl ((((hd.trans c36).transS c37).trans c38).trans c45), ?_⟩
   refine zas rfl (gn rfl) (yt zaL yT rfl rfl (zv.chg0 (zv.chg0 i37 c38) c45) i45 (by simp only [maxLen]; omega) (by omega) rfl ?_)
   intro v46 w46 i46 c46 o46 z46
   refine ⟨.inl (((((hd.trans c36).transS c37).trans c38).trans c45).trans' c46 (zrS o37 c36.size)), ?_⟩
   refine Ta rfl ?_
   refine zdV [2, 7, 17, 18, 19] (F' := [(2, _), (7, _), (17, _), (18, _), (19, _)]) rfl ?_
   refine zl ?_
   have hcz : zk (zp u') wB w46 := ((((hd.trans c36).transS c37).trans c38).trans c45).trans' c46 (zrS o37 c36.size)
   have hwz := ((hcx.trans hcB).trans hcC).own hcz hfu
   have hs1 := hcx.size
   have hs2 := hcB.size
   have hs0 := hcC.size
   have hs3 : wB.heap.size ≤ w36.heap.size := c36.size
   have hs4 := c37.size
   have hs5 := c38.size
   have hs6 := c45.size
   refine za ?_
   refine Og (zI rfl rfl (by omega)) rfl ?_
   refine Om rfl (N5 2 7 17 18 19 rfl ?_)
   refine ⟨l.length - (j + 1), by omega, j + 1, v46, rfl, by omega, rfl, ?_, yB o46 (yB o37 hfu (by omega)) (by omega), hwz⟩
   rw [zgF hy hx, show zeh y x = 1 :: zio y x by simp [zeh, hk], List.append_cons]
   refine zcF.push i46 ?_ ?_
   ·rw [List.length_append]; rfl
   rw [yK]
  refine zM ?_
  repeat first | refine te ?_ | refine bo rfl ?_
  refine zt _ ?_
  have he : l.length ≤ j := by have := of_decide_eq_false hF; omega
  rw [List.take_of_length_le he, List.take_of_length_le (by omega)] at hu
  refine Sr (Om rfl (Oa rfl (Oa rfl (E2 4 5 rfl (zi ?_)))))
  repeat first | refine tr ?_ | refine br ?_
  refine zaV rfl rfl rfl ?_
  have hs1 := hcA.size
  rw [hr, if_pos rfl]
  exact ⟨_, rfl, hu, fun b hb => Nat.le_trans hs1 (hfu b hb), hcA.trans hcx⟩
 refine za (Om rfl ?_)
 refine Og (vt (zS rfl rfl) (by simp [hr])) rfl ?_
 refine E4 1 2 6 15 rfl (zd rfl (Sr (Om rfl (Oa rfl (Oa rfl (E2 4 5 rfl (zi ?_)))))))
 repeat first | refine tr ?_ | refine br ?_
 refine zaV rfl rfl rfl ?_
 rw [if_neg hr]
 exact ⟨_, rfl, zv.nil _ _ _, by simp [zp], c2.trans c13⟩
theorem zgC (w : World) : z9 TP 171 #[.bool true] w fun r w' => r = .tuple #[] ∧ w' = w := by
 refine A1 Tryz.func171 rfl rfl ?_
 refine Sr (Om rfl (Og (zO rfl) rfl (E1 3 rfl (zb rfl (ye ?_)))))
 refine zge rfl ?_
 exact ⟨rfl, rfl⟩
theorem zaM.apart {w : World} {e k : Nat} {v : Value} {len : Nat} {xs : List Value} (h : zaM w e k v len xs) {b : Nat} {e' : TypeId} {c : List Value} (hb : zU w b e' c) (hne : Nat.beq e e' = false) : ∀ x ∈ zp v, x ∉ [b] := by
 rcases h with ⟨rfl, _⟩ | ⟨b', off, cap, c', fr, rfl, h, _⟩
 ·simp [zp]
 intro x hx hm
 simp [zp] at hx
 simp at hm
 subst hx hm
 unfold zU at hb
 rw [h] at hb
 cases hb
 simp at hne
def zad (w : World) (t : Value) (l : List UInt8) (b : Nat) : Prop := t = Pt b ∧ ∃ v, zU w b 237 [v] ∧ zaM w 5 1 v l.length (bv l) ∧ b ∉ zp v
theorem zad.chg0 {w w' : World} {t : Value} {l : List UInt8} {b : Nat} (h : zad w t l b) (hc : zk [] w w') : zad w' t l b :=
 let ⟨h1, v, h2, h3, h4⟩ := h; ⟨h1, v, h2.chg0 hc, h3.chg0 hc, h4⟩
theorem zad.lt {w : World} {t : Value} {l : List UInt8} {b : Nat} (h : zad w t l b) : b < w.heap.size :=
 let ⟨_, _, h2, _⟩ := h; h2.lt
theorem zad.chg {w w' : World} {t : Value} {l : List UInt8} {b : Nat} {S : List Nat} (h : zad w t l b) (hc : zk S w w') (hS : ∀ y ∈ S, y ≠ b ∧ ∃ e c, zU w y e c ∧ Nat.beq 5 e = false) : zad w' t l b := by
 obtain ⟨h1, v, h2, h3, h4⟩ := h
 refine ⟨h1, v, h2.chg hc (fun hm => (hS b hm).1 rfl), h3.chg hc (fun y hy hm => ?_), h4⟩
 obtain ⟨_, e, c, hb, hne⟩ := hS y hm
 exact h3.apart hb hne y hy (by simp)
theorem zrh {w : World} {p : Option Addr} {n cap : Nat} {l m : List UInt8} {z : Nat} (h : zaM w 5 1 (.slice p n cap) (l ++ m).length (bv (l ++ m))) (hz : l.length = z) (hc : (l ++ m).length ≤ cap) (k : Nat) (h1 : z ≤ k) (h2 : k ≤ cap) : zaM w 5 1 (cut p 0 z k 1) l.length (bv l) := by
 obtain ⟨p', c', he, _⟩ := h.val
 cases he
 subst hz
 have := h.cut (l := 0) (h := l.length) (m := k) (by omega) h1 h2 (by simp)
 rw [yK] at this
 simpa [zcp] using this
theorem zrM {w : World} {p : Option Addr} {n cap : Nat} {l m : List UInt8} {z : Nat} (h : zaM w 5 1 (.slice p n cap) (l ++ m).length (bv (l ++ m))) (hz : l.length = z) (hc : (l ++ m).length ≤ cap) : zaM w 5 1 (cut p z n cap 1) m.length (bv m) := by
 obtain ⟨p', c', he, _⟩ := h.val
 cases he
 subst hz
 have := h.cut (l := l.length) (h := (l ++ m).length) (m := cap) (by simp) hc (Nat.le_refl _) (by simp)
 rw [yK] at this
 simp only [Nat.mul_one, List.length_append, Nat.add_sub_cancel_left] at this
 rw [List.drop_left' (zcp _), List.take_of_length_le (by rw [zcp]; omega)] at this
 simpa using this
theorem zuo (v : Value) (l m : List UInt8) (w : World) (z : Nat) (hz : l.length = z) (hv : zaM w 5 1 v (l ++ m).length (bv (l ++ m))) : z9 TP 231 #[v, Ii z] w fun r w' => zaM w' 5 1 r l.length (bv l) ∧ (∀ x ∈ zp r, x ∈ zp v) ∧ w' = w := by
 obtain ⟨p, cap, rfl, hcap⟩ := hv.val
 have hzl : z ≤ (l ++ m).length := by rw [List.length_append]; omega
 refine A2 Tryz.func231 rfl rfl ?_
 refine Sr (Oa rfl (E2 0 1 rfl (Sr (Om rfl (Om rfl (On znr rfl ?_))))))
 refine Og (vt (zbe rfl rfl) (decide_eq_true (by omega))) rfl ?_
 refine Oc zi0 rfl rfl rfl (zgC _) ?_
 rintro v9 w9 ⟨rfl, rfl⟩
 refine E2 0 1 rfl (Sr (Om rfl (Om rfl (Om rfl ?_))))
 refine Og (zfn znr sz5 rfl rfl rfl _ _ rfl rfl (Nat.le_refl _) (by omega)) rfl ?_
 refine Oa rfl (E1 4 rfl (zi ?_))
 refine zD rfl rfl ?_
 exact ⟨zrh hv hz hcap _ (Nat.le_refl _) (by omega), zv.cutBlk, rfl⟩
theorem zgv (t : Value) (b : Nat) (l m : List UInt8) (w : World) (z : Nat) (hz : l.length = z) (ht : zad w t (l ++ m) b) : z9 TP 165 #[t, Ii z] w fun r w' => zaM w' 5 1 r l.length (bv l) ∧ zad w' t m b ∧ zk [b] w w' := by
 obtain ⟨rfl, v, hb, hv, hbv⟩ := ht
 obtain ⟨p, cap, rfl, hcap⟩ := id hv.val
 have hzl : z ≤ (l ++ m).length := by rw [List.length_append]; omega
 refine A2 Tryz.func165 rfl rfl ?_
 refine Sr (Oa rfl (E2 0 1 rfl (Sr (Om rfl (Og (zF rfl) rfl (Od zf2 rfl ?_))))))
 refine Ol zmG rfl (hb.cell' rfl) ?_
 refine Om rfl ?_
 refine Oc zwg rfl rfl rfl (zuo _ l m _ z hz hv) ?_
 rintro v11 w11 ⟨i11, q11, rfl⟩
 refine Oa rfl (E3 0 1 5 rfl (Sr (Om rfl (Om rfl (Og (zF rfl) rfl (Od zf2 rfl ?_))))))
 refine Ol zmG rfl (hb.cell' rfl) ?_
 refine Om rfl ?_
 refine Og (zaO znr sz5 rfl rfl _ rfl (by omega)) rfl ?_
 refine Og (zF rfl) rfl (Od zf2 rfl ?_)
 refine zE (gn rfl) (zu zu3 rfl rfl rfl rfl hb (by simp) (by intro u hu; rcases List.mem_cons.1 hu with rfl | hu; rfl; cases hu) ?_)
 intro wA nA cA kA
 refine E1 5 rfl (Sr (Om rfl (Oa rfl (E1 4 rfl (zi ?_)))))
 refine zD rfl rfl ?_
 have hbA : ∀ x ∈ zp (cut p z (l ++ m).length cap 1), x ∉ [b] := fun x hx hm => hbv (by rw [← List.mem_singleton.1 hm]; exact zv.cutBlk x hx)
 exact ⟨i11.chg cA (fun x hx hm => hbv (by rw [← List.mem_singleton.1 hm]; exact q11 x hx)), ⟨rfl, _, kA, (zrM hv hz hcap).chg cA hbA, fun hm => hbA b hm (by simp)⟩, cA⟩
theorem zrs (c : Col) (x : Int) (t : Value) (b : Nat) (m : List UInt8) (w : World) (hz : c.s = 1 ∨ c.s = 2 ∨ c.s = 4 ∨ c.s = 8) (hx : zbh c.s ≤ x ∧ x ≤ -(zbh c.s + 1)) (ht : zad w t (be (x % 18446744073709551616).toNat c.s.toNat ++ m) b) :
 z9 TP 163 #[c.v, t] w fun r w' => r = (zQ.mk 1 x 0 e0).v ∧ zad w' t m b ∧ zk [b] w w' := by
 obtain ⟨z, hz1, hz2⟩ : ∃ z : Nat, c.s = z ∧ (z = 1 ∨ z = 2 ∨ z = 4 ∨ z = 8) := ⟨c.s.toNat, by omega, by omega⟩
 rw [hz1] at ht hx
 have hib := zhF (i := x) hz2 hx
 refine A2 Tryz.func163 rfl rfl ?_
 refine Sr ?_
 refine Ob rfl rfl ?_
 intro b2 w2 e2 n2 c2 k2
 refine zE (gn rfl) (zH zd6 rfl rfl ?_)
 intro b4 w4 e4 n4 c4 k4
 refine E3 1 2 4 rfl (Sr (Om rfl (Od zbH rfl ?_)))
 refine Ol ag3 rfl ((k2.chg0 c4).cell' (show _ = some (Value.int .i64 (z : Int)) by rw [← hz1]; rfl)) ?_
 refine Oc zjf rfl rfl rfl (zgv t b _ m _ z (zaB _ _) (ht.chg0 (c2.trans c4))) ?_
 rintro v12 w12 ⟨i12, t12, c12⟩
 refine Oc zsA rfl rfl rfl (zhd _ _ _ i12 (by rw [zaB]; omega)) ?_
 rintro v13 w13 ⟨rfl, rfl⟩
 refine Om rfl (Oe rfl rfl (Oe rfl rfl (Oa rfl (Oa rfl (E3 2 4 5 rfl ?_)))))
 have hbl := ht.lt
 have hs2 := c2.size
 have hs4 := c4.size
 have k2 := (k2.chg0 c4).chg c12 (by simp; omega)
 have k4 := k4.chg c12 (by simp; omega)
 refine Sr (Od zbH rfl ?_)
 refine Ol ag3 rfl (k2.cell' (show _ = some (Value.int .i64 (z : Int)) by rw [← hz1]; rfl)) ?_
 refine Og (zcL rfl rfl (by omega)) rfl ?_
 refine Og (yN rfl rfl (by omega)) rfl ?_
 refine Oa rfl (E3 4 5 7 rfl (ze ?_))
 rw [zg4]
 refine za (Om rfl ?_)
 refine Og (yq zdK zbz rfl rfl) rfl ?_
 refine Om rfl ?_
 refine Og (zdu (64 - 8 * z) rfl rfl (by omega) (by simp only [IntKind.bits]; omega) rfl) rfl ?_
 refine Om rfl ?_
 refine Og (zbP (64 - 8 * z) rfl rfl (by omega) (by simp only [IntKind.bits]; omega) hib) rfl ?_
 refine Og (z6 zoe zd6 rfl (vs := [_, _]) rfl (css := [_, _]) ⟨rfl, rfl, trivial⟩ rfl rfl (cs := [_, _, _, _]) rfl) rfl ?_
 refine zE (gn rfl) (zu y6 rfl rfl rfl rfl k4 (by simp) (zQ.one ⟨1, x, 0, e0⟩) ?_)
 intro wA nA cA kA
 refine E1 4 rfl (zi ?_)
 refine zlh rfl zbp y6 rfl rfl (zy.of_blk0 kA) ?_
 have hcz : zk [b] w wA := ((((zk.refl [b] w).trans c2).trans c4).transS c12).trans' cA (by intro y hy; simp at hy; subst hy; right; omega)
 exact ⟨rfl, t12.chg cA (by intro y hy; simp at hy; subst hy; exact ⟨by omega, _, _, k4, rfl⟩), hcz⟩
theorem zq5 (c : Col) (n : Nat) (t : Value) (b : Nat) (m : List UInt8) (w : World) (hz : c.s = 1 ∨ c.s = 2 ∨ c.s = 4 ∨ c.s = 8) (hx : (n : Int) < 2 ^ (8 * c.s.toNat)) (ht : zad w t (be n c.s.toNat ++ m) b) :
 z9 TP 168 #[c.v, t] w fun r w' => r = (zQ.mk 2 0 n e0).v ∧ zad w' t m b ∧ zk [b] w w' := by
 obtain ⟨z, hz1, hz2⟩ : ∃ z : Nat, c.s = z ∧ (z = 1 ∨ z = 2 ∨ z = 4 ∨ z = 8) := ⟨c.s.toNat, by omega, by omega⟩
 rw [hz1] at ht hx
 have hn : n % 256 ^ z = n := by
  refine Nat.mod_eq_of_lt ?_
  rcases hz2 with rfl | rfl | rfl | rfl <;> simp only [Int.toNat_natCast, Nat.reduceMul, Nat.reducePow, Int.reducePow] at hx ⊢ <;> omega
 refine A2 Tryz.func168 rfl rfl ?_
 refine Sr ?_
 refine Ob rfl rfl ?_
 intro b2 w2 e2 n2 c2 k2
 refine zE (gn rfl) (zH zd6 rfl rfl ?_)
 intro b4 w4 e4 n4 c4 k4
 refine E3 1 2 4 rfl (Sr (Om rfl (Od zbH rfl ?_)))
 refine Ol ag3 rfl ((k2.chg0 c4).cell' (show _ = some (Value.int .i64 (z : Int)) by rw [← hz1]; rfl)) ?_
 refine Oc zjf rfl rfl rfl (zgv t b _ m _ z (zaB _ _) (ht.chg0 (c2.trans c4))) ?_
 rintro v11 w11 ⟨i11, t11, c11⟩
 refine Oc zsA rfl rfl rfl (zhd _ _ _ i11 (by rw [zaB]; omega)) ?_
 rintro v12 w12 ⟨rfl, rfl⟩
 refine Om rfl (Oe rfl rfl (Oe rfl rfl (Oa rfl (Oa rfl (E2 4 5 rfl ?_)))))
 have hbl := ht.lt
 have hs2 := c2.size
 have hs4 := c4.size
 have k4 := k4.chg c11 (by simp; omega)
 refine ze ?_
 rw [zg4, hn]
 refine za (Om rfl ?_)
 refine Og (zi4 zoe zd6 rfl (qs := [(0, _), (2, _)]) rfl (css := [_, _]) ⟨rfl, rfl, trivial⟩ (cs := [_, _, _, _]) rfl) rfl ?_
 refine zE (gn rfl) (zu y6 rfl rfl rfl rfl k4 (by simp) (zQ.one ⟨2, 0, n, e0⟩) ?_)
 intro wA nA cA kA
 refine E1 4 rfl (zi ?_)
 refine zlh rfl zbp y6 rfl rfl (zy.of_blk0 kA) ?_
 have hcz : zk [b] w wA := ((((zk.refl [b] w).trans c2).trans c4).transS c11).trans' cA (by intro y hy; simp at hy; subst hy; right; omega)
 exact ⟨rfl, t11.chg cA (by intro y hy; simp at hy; subst hy; exact ⟨by omega, _, _, k4, rfl⟩), hcz⟩
theorem zqw (c : Col) (x : Int) (t : Value) (b : Nat) (m : List UInt8) (w : World) (hx : x = 0 ∨ x = 1) (ht : zad w t ([UInt8.ofNat x.toNat] ++ m) b) :
 z9 TP 170 #[c.v, t] w fun r w' => r = (zQ.mk 3 x 0 e0).v ∧ zad w' t m b ∧ zk [b] w w' := by
 have hx1 : ((UInt8.ofNat x.toNat).toNat : Int) = x := by rcases hx with rfl | rfl <;> rfl
 refine A2 Tryz.func170 rfl rfl ?_
 refine Sr ?_
 refine Ob rfl rfl ?_
 intro b2 w2 e2 n2 c2 k2
 refine zE (gn rfl) (zH zd6 rfl rfl ?_)
 intro b4 w4 e4 n4 c4 k4
 refine E2 1 4 rfl (Sr (Om rfl ?_))
 refine Oc zjf rfl rfl rfl (zgv t b _ m _ 1 rfl (ht.chg0 (c2.trans c4))) ?_
 rintro v7 w7 ⟨i7, t7, c7⟩
 obtain ⟨bb, off, cap, rfl, hcell⟩ := i7.at1 (i := 0) (u := .int .u8 x) (by rcases hx with rfl | rfl <;> rfl)
 refine Og (zf yT sz5 rfl rfl 0 rfl (by simp)) rfl ?_
 refine Ol ag5 rfl hcell ?_
 refine Oa rfl (E2 4 5 rfl ?_)
 have hbl := ht.lt
 have hs2 := c2.size
 have hs4 := c4.size
 have k4 := k4.chg c7 (by simp; omega)
 refine Sr (Om rfl ?_)
 refine Og (vt (zbe rfl rfl) (decide_eq_true (by omega))) rfl ?_
 refine Oc zi0 rfl rfl rfl (zgC _) ?_
 rintro v12 w12 ⟨rfl, rfl⟩
 refine E2 4 5 rfl (Sr (Om rfl ?_))
 refine Og (yq zdK zay rfl (show IntKind.i64.wrap x = x by rcases hx with rfl | rfl <;> rfl)) rfl ?_
 refine Og (z6 zoe zd6 rfl (vs := [_, _]) rfl (css := [_, _]) ⟨rfl, rfl, trivial⟩ rfl rfl (cs := [_, _, _, _]) rfl) rfl ?_
 refine zE (gn rfl) (zu y6 rfl rfl rfl rfl k4 (by simp) (zQ.one ⟨3, x, 0, e0⟩) ?_)
 intro wA nA cA kA
 refine E1 4 rfl (zi ?_)
 refine zlh rfl zbp y6 rfl rfl (zy.of_blk0 kA) ?_
 have hcz : zk [b] w wA := ((((zk.refl [b] w).trans c2).trans c4).transS c7).trans' cA (by intro y hy; simp at hy; subst hy; right; omega)
 exact ⟨rfl, t7.chg cA (by intro y hy; simp at hy; subst hy; exact ⟨by omega, _, _, k4, rfl⟩), hcz⟩
theorem zw8 (t : Value) (b : Nat) (s : ByteArray) (m : List UInt8) (w : World) (hs : s.size ≤ 1048576) (hm : m.length ≤ 1048576) (ht : zad w t (zbS s ++ m) b) :
 z9 TP 176 #[t, .func (.func 177) #[] #[]] w fun r w' => r = .string s ∧ zad w' t m b ∧ zk [b] w w' := by
 obtain ⟨rfl, v, hb, hv, hbv⟩ := id ht
 refine A2 Tryz.func176 rfl rfl ?_
 refine Sr (Oa rfl (E2 0 1 rfl (Sr (Om rfl (Om rfl (Og (zF rfl) rfl (Od zf2 rfl ?_)))))))
 refine Ol zmG rfl (hb.cell' rfl) ?_
 refine Oc zvr rfl rfl rfl (zl8 v s m _ hs hm hv) ?_
 rintro v14 w14 ⟨rfl, c14⟩
 refine Om rfl (Oe rfl rfl (Oe rfl rfl (Oe rfl rfl (Oa rfl (Oa rfl (Oa rfl (E4 0 5 6 7 rfl (Sr (Om rfl ?_)))))))))
 refine Og (vt (zw rfl rfl) (decide_eq_true (by omega))) rfl ?_
 refine Oc zi0 rfl rfl rfl (zgC _) ?_
 rintro v20 w20 ⟨rfl, rfl⟩
 refine E3 0 5 6 rfl (Sr (Om rfl (Om rfl ?_)))
 refine Oc zjf rfl rfl rfl (zgv _ b (zbS s) m _ (zbS s).length rfl (ht.chg0 c14)) ?_
 rintro v23 w23 ⟨i23, t23, c23⟩
 refine E1 5 rfl (Sr (Om rfl (Oa rfl (E1 4 rfl (zi ?_)))))
 refine zD rfl rfl ?_
 exact ⟨rfl, t23, ((zk.refl [b] w).trans c14).transS c23⟩
theorem zrm (c : Col) (s : ByteArray) (t : Value) (b : Nat) (m : List UInt8) (w : World) (hs : s.size ≤ 200) (hz : s.size ≤ c.s) (hm : m.length ≤ 1048576) (ht : zad w t (zbS s ++ m) b) :
 z9 TP 175 #[c.v, t] w fun r w' => r = (zQ.mk 4 0 0 s).v ∧ zad w' t m b ∧ zk [b] w w' := by
 refine A2 Tryz.func175 rfl rfl ?_
 refine Sr ?_
 refine Ob rfl rfl ?_
 intro b2 w2 e2 n2 c2 k2
 refine zE (gn rfl) (zH zd6 rfl rfl ?_)
 intro b4 w4 e4 n4 c4 k4
 refine E3 1 2 4 rfl (Sr (Om rfl ?_))
 refine Oc zwa rfl rfl rfl (zw8 t b s m _ (by omega) hm (ht.chg0 (c2.trans c4))) ?_
 rintro v7 w7 ⟨rfl, t7, c7⟩
 refine Oa rfl (E3 2 4 5 rfl ?_)
 have hbl := ht.lt
 have hs2 := c2.size
 have hs4 := c4.size
 have k2 := (k2.chg0 c4).chg c7 (by simp; omega)
 have k4 := k4.chg c7 (by simp; omega)
 refine Sr (Om rfl ?_)
 refine Og (yS st9 rfl) rfl ?_
 refine Od zbH rfl ?_
 refine Ol ag3 rfl (k2.cell' rfl) ?_
 refine Og (vt (zbe rfl rfl) (decide_eq_true (by omega))) rfl ?_
 refine Oc zi0 rfl rfl rfl (zgC _) ?_
 rintro v13 w13 ⟨rfl, rfl⟩
 refine E2 4 5 rfl (Sr (Om rfl ?_))
 refine Og (zi4 zoe zd6 rfl (qs := [(0, _), (3, _)]) rfl (css := [_, _]) ⟨rfl, rfl, trivial⟩ (cs := [_, _, _, _]) rfl) rfl ?_
 refine zE (gn rfl) (zu y6 rfl rfl rfl rfl k4 (by simp) (zQ.one ⟨4, 0, 0, s⟩) ?_)
 intro wA nA cA kA
 refine E1 4 rfl (zi ?_)
 refine zlh rfl zbp y6 rfl rfl (zy.of_blk0 kA) ?_
 have hcz : zk [b] w wA := ((((zk.refl [b] w).trans c2).trans c4).transS c7).trans' cA (by intro y hy; simp at hy; subst hy; right; omega)
 exact ⟨rfl, t7.chg cA (by intro y hy; simp at hy; subst hy; exact ⟨by omega, _, _, k4, rfl⟩), hcz⟩
theorem zlL {c : Col} {x : zQ} (h : yZ c x = 0) (hk : x.k ≠ 0) : ∃ f g k, zdF zlV c.t = some (zi6 f g k) ∧ zn TP g = true ∧ ∀ w t b m, m.length ≤ 1048576 → zad w t (zio c x ++ m) b → z9 TP g #[c.v, t] w fun r w' => r = x.v ∧ zad w' t m b ∧ zk [b] w w' := by
 obtain ⟨hr, hc, _, h2⟩ := zbs h
 obtain ⟨hkt, hw⟩ := h2 hk
 obtain ⟨hf, hb⟩ := zcR hc
 obtain ⟨_, hbr, hm⟩ := za8 hf
 obtain ⟨s1, s2, s3, s4⟩ := zdA hr
 obtain ⟨k, i, u, by'⟩ := x
 unfold zio
 simp only [zbb] at hw
 simp only [zed, zQ.mk.injEq] at hbr
 rcases s4 with e | e | e | e <;> simp only [e, ↓reduceIte, Int.reduceEq] <;> simp only [e, ↓reduceIte, Int.reduceEq, decide_eq_false_iff_not] at hw hkt <;> subst hkt <;> simp at hbr <;> (try obtain ⟨h1, h2⟩ := hbr) <;> subst_vars
 ·exact ⟨_, _, _, rfl, zwr, fun w t b m _ ht => zrs c i t b m w (s1 (.inl e)) (by omega) ht⟩
 ·exact ⟨_, _, _, rfl, zuM, fun w t b m _ ht => zq5 c u t b m w (s1 (.inr e)) (by omega) ht⟩
 ·exact ⟨_, _, _, rfl, zw4, fun w t b m _ ht => zqw c i t b m w (hm rfl) ht⟩
 exact ⟨_, _, _, rfl, zu4, fun w t b m hl ht => zrm c by' t b m w hb (by omega) hl ht⟩
theorem znX {cs : List Col} {xs : List zQ} {j : Nat} {c : Col} {x : zQ} (hc : cs[j]? = some c) (hx : xs[j]? = some x) : zcb (cs.drop j) (xs.drop j) = zeh c x ++ zcb (cs.drop (j + 1)) (xs.drop (j + 1)) := by
 obtain ⟨h1, rfl⟩ := List.getElem?_eq_some_iff.1 hc
 obtain ⟨h2, rfl⟩ := List.getElem?_eq_some_iff.1 hx
 rw [List.drop_eq_getElem_cons h1, List.drop_eq_getElem_cons h2]
 rfl
theorem zie : ∀ {cs : List Col} {xs : List zQ} (j : Nat), zaJ cs xs = 0 → zaJ (cs.drop j) (xs.drop j) = 0
 | _, _, 0, h => by simpa using h
 | [], _, _ + 1, _ => by simp [zaJ]
 | _ :: _, [], _ + 1, _ => by simp [zaJ]
 | c :: cs, x :: xs, j + 1, h => by
  unfold zaJ at h
  by_cases h1 : yZ c x = 0
  ·rw [if_neg (by simp [h1])] at h
   exact zie j h
  rw [if_pos h1] at h; exact absurd h h1
theorem zad.chgSl {w w' : World} {t o : Value} {l : List UInt8} {b e k n : Nat} {xs : List Value} (h : zad w t l b) (ho : zv w e k o n xs) (h1 : Nat.beq 5 e = false) (h2 : Nat.beq e 237 = false) (hc : zk (zp o) w w') : zad w' t l b := by
 refine h.chg hc fun y hy => ?_
 obtain ⟨_, v, hb, _⟩ := h
 rcases ho with ⟨rfl, _⟩ | ⟨b', off, cap, c, rfl, hs⟩
 ·simp [zp] at hy
 simp [zp] at hy
 subst hy
 exact ⟨hs.blk.ne hb h2, _, _, hs.blk, h1⟩
theorem zad.nl {w : World} {t : Value} {l : List UInt8} {b : Nat} (h : zad w t l b) : Nl w [b] := by
 obtain ⟨_, v, hb, hv, _⟩ := h
 obtain ⟨p, c, rfl, _⟩ := hv.val
 exact Nl.one hb (by intro u hu; simp at hu; subst hu; rfl)
theorem zvt (c k u t : Value) (s : yo) (l : List zQ) (b : Nat) (w : World) (hs : yO w c k u s) (hr : yV s l = 0) (ht : zad w t (zcb s.cols l) b) :
 z9 TP 142 #[t, .agg #[c, k, u]] w fun r w' => zbd w' r l ∧ (∀ y ∈ zp r, w.heap.size ≤ y) ∧ zad w' t [] b ∧ zk [b] w w' := by
 obtain ⟨hrs, hlen, hfit⟩ := zam hr
 have h8 := (zX hrs).1
 have hbl := ht.lt
 obtain ⟨pc, cc, rfl, hcc⟩ := z0.val hs.cols
 refine A2 Tryz.func142 rfl rfl ?_
 refine Sr ?_
 refine Ob rfl rfl ?_
 intro b3 w3 e3 n3 c3 k3
 refine Oa rfl (E3 0 3 4 rfl (ze (Sr (Od yn rfl ?_))))
 refine Ol zav rfl (k3.cell' rfl) ?_
 refine On zaj rfl (Om rfl (E5 0 4 10 11 12 rfl (zq ?_)))
 refine zW [0, 4, 10, 11, 12] (fun m F wx => ∃ (j : Nat) (o : Value), m = s.cols.length - j ∧ j ≤ s.cols.length ∧ F = [(0, t), (4, o), (10, .slice pc s.cols.length cc), (11, Ii s.cols.length), (12, Ii j)] ∧ yw wx 40 4 zQ.cs o (l.take j) ∧ (∀ b ∈ zp o, w3.heap.size ≤ b) ∧ zad wx t (zcb (s.cols.drop j) (l.drop j)) b ∧ zk [b] w3 wx) (m := s.cols.length - 0) ⟨0, _, rfl, Nat.zero_le _, rfl, zv.nil _ _ _, by simp [zp], ht.chg0 c3, zk.refl _ _⟩ ?_
 rintro m F wx ⟨j, o, rfl, hj, rfl, ho, hfo, htx, hcx⟩
 refine Sr (Og (zC rfl rfl) rfl (E6 0 4 10 11 12 13 rfl (ze ?_)))
 refine zR rfl (fun hT => ?_) (fun hF => ?_)
 ·refine zm ?_
  have hlt : j < s.cols.length := by have := of_decide_eq_true hT; omega
  have hx : l[j]? = some (l[j]'(by omega)) := by simp [hlt, hlen]
  have hy : s.cols[j]? = some s.cols[j] := by simp [hlt]
  generalize l[j]'(by omega) = x at hx
  generalize s.cols[j] = y at hy
  have hfy := zf4 hfit hy hx
  have hel := zid hfy
  have hrl := zd9 (zie (j + 1) hfit)
  rw [List.length_drop] at hrl
  rw [znX hy hx] at htx
  have htl : (l.take j).length = j := by rw [List.length_take]; omega
  have hcols : zgz wx (.slice pc s.cols.length cc) s.cols := z0.chgC (z0.chg0 hs.cols c3) hcx zmK (ht.chg0 c3).nl
  obtain ⟨bc, offc, capc, hvc, hcellc⟩ := z0.at zap hcols hy
  cases hvc
  refine ze (zq (Sr ?_))
  refine Og (zf zaj zaT rfl rfl _ rfl hlt) rfl ?_
  refine Og (zg zdX zaT rfl rfl hcellc) rfl ?_
  refine zE (gn rfl) (zH znw rfl rfl ?_)
  intro b6 w6 e6 n6 c6 k6
  refine zE (gn rfl) (zu zaT rfl rfl rfl rfl k6 (by simp [Col.cs]) (Col.one y) ?_)
  intro wA nA cA kA
  refine E6 0 4 6 10 11 12 rfl ?_
  have kA : zU wA b6 25 y.cs := kA
  have hcA : zk [] wx wA := c6.own cA (by intro y hy; simp at hy; omega)
  have hbx := htx.lt
  have hob : ∀ z ∈ zp o, z ∉ [b] := by
   obtain ⟨_, v, hv, _⟩ := htx
   exact zv.apart ho hv rfl
  refine ze ?_
  by_cases hk : x.k = 0
  ·rw [show zeh y x = [0] by simp [zeh, hk]] at htx
   have hyz : y.z = true := (zbs hfy).2.2.1 hk
   refine za (Om rfl ?_)
   refine Oc zjf rfl rfl rfl (zgv t b [0] _ _ 1 rfl (htx.chg0 hcA)) ?_
   rintro v17 w17 ⟨i17, t17, c17⟩
   obtain ⟨bb, off, cap, rfl, hcell⟩ := i17.at1 (i := 0) (u := .int .u8 0) rfl
   refine Og (zf yT sz5 rfl rfl 0 rfl (by simp)) rfl ?_
   refine Ol ag5 rfl hcell ?_
   refine Oa rfl (E7 0 4 6 7 10 11 12 rfl ?_)
   have kA := kA.chg c17 (by simp; omega)
   refine Sr (Om rfl ?_)
   refine Og (vf (zw rfl rfl) (decide_eq_false (by omega))) rfl ?_
   refine Om rfl (Oj rfl rfl ?_)
   refine Oy rfl rfl (vt (zw rfl rfl) (decide_eq_true (by omega))) ?_
   refine Oj rfl rfl ?_
   refine Oy rfl rfl (zj zfQ rfl) ?_
   refine Oy rfl rfl (zh ag4 rfl (kA.cell' (show _ = some (Value.bool true) by rw [← hyz]; rfl))) ?_
   refine Oy rfl rfl (zL rfl rfl) ?_
   refine Of rfl ?_
   refine Oc zi0 rfl rfl rfl (zgC _) ?_
   rintro v30 w30 ⟨rfl, rfl⟩
   refine E7 0 4 6 7 10 11 12 rfl (Sr ?_)
   refine zE (gn rfl) (zH zd6 rfl rfl ?_)
   intro b8 w8 e8 n8 c8 k8
   refine E8 0 4 6 7 8 10 11 12 rfl (ze (Sr (Om rfl ?_)))
   refine Og (vf (zw rfl rfl) (decide_eq_false (by omega))) rfl ?_
   refine E8 0 4 6 8 10 11 12 32 rfl (zb rfl (zm ?_))
   have ho30 : yw w30 40 4 zQ.cs o (l.take j) := yw.chg (yw.chg0 ho hcA) c17 hob
   have hnull : x = zQ.null := by
    obtain ⟨k, i, u, by'⟩ := x
    have := (za8 (zcR (zbs hfy).2.1).1).2.1
    simp only at hk
    subst hk
    simpa [zed, zQ.null] using this
   subst hnull
   have k8 : zU w8 b8 40 zQ.null.cs := k8
   have hcB : zk [b] wx w8 := ((zk.refl [b] wx).trans hcA).transS c17 |>.trans c8
   refine za (Om rfl ?_)
   refine Og (zg zbp y6 rfl rfl (zy.of_blk0 k8)) rfl ?_
   refine zE (gn rfl) (zB zhg rfl (vs := [_]) rfl (css := [_]) ⟨rfl, trivial⟩ rfl rfl (cs := [_, _, _, _]) rfl rfl ?_)
   intro b43 w43 e43 n43 c43 k43
   refine zE (gn rfl) (yt zhg zao rfl rfl (yw.chg0 (yw.chg0 ho30 c8) c43) (zv.of_blk (n := 1) k43 rfl (by simp [maxLen]) (zQ.one _)) (by simp only [maxLen]; omega) (by omega) rfl ?_)
   intro v44 w44 i44 c44 o44 z44
   refine Oa rfl (N5 0 4 10 11 12 rfl (zl ?_))
   have hs0 := hcx.size
   have hs1 := hcB.size
   have hs3 := c43.size
   have hwz := hcx.trans' ((((zk.refl (zp o ++ [b]) wx).trans' hcB (by simp)).trans c43).trans' c44 (fun z hz => .inl (by simp [hz]))) (by
    intro z hz
    rcases List.mem_append.1 hz with hz | hz
    ·exact .inr (hfo z hz)
    exact .inl hz)
   refine za ?_
   refine Og (zI rfl rfl (by omega)) rfl ?_
   refine Om rfl (N5 0 4 10 11 12 rfl ?_)
   refine ⟨s.cols.length - (j + 1), by omega, j + 1, v44, rfl, by omega, rfl, ?_, yB o44 hfo (by omega), ?_, hwz⟩
   ·rw [List.take_add_one, hx]
    exact z0.push i44 rfl rfl
   exact ((t17.chg0 c8).chg0 c43).chgSl (zv.chg0 (zv.chg0 ho30 c8) c43) rfl rfl c44
  rw [show zeh y x = 1 :: zio y x by simp [zeh, hk]] at htx
  refine za (Om rfl ?_)
  refine Oc zjf rfl rfl rfl (zgv t b [1] _ _ 1 rfl (htx.chg0 hcA)) ?_
  rintro v17 w17 ⟨i17, t17, c17⟩
  obtain ⟨bb, off, cap, rfl, hcell⟩ := i17.at1 (i := 0) (u := .int .u8 1) rfl
  refine Og (zf yT sz5 rfl rfl 0 rfl (by simp)) rfl ?_
  refine Ol ag5 rfl hcell ?_
  refine Oa rfl (E7 0 4 6 7 10 11 12 rfl ?_)
  have kA := kA.chg c17 (by simp; omega)
  refine Sr (Om rfl ?_)
  refine Og (vt (zw rfl rfl) (decide_eq_true (by omega))) rfl ?_
  refine Om rfl (Oz rfl rfl (Oz rfl rfl (Oz rfl rfl ?_)))
  refine zG rfl rfl rfl rfl rfl ?_
  refine zG rfl rfl rfl rfl rfl ?_
  refine Oz rfl rfl (Ot rfl ?_)
  refine Oc zi0 rfl rfl rfl (zgC _) ?_
  rintro v30 w30 ⟨rfl, rfl⟩
  refine E7 0 4 6 7 10 11 12 rfl (Sr ?_)
  refine zE (gn rfl) (zH zd6 rfl rfl ?_)
  intro b8 w8 e8 n8 c8 k8
  refine E8 0 4 6 7 8 10 11 12 rfl (ze (Sr (Om rfl ?_)))
  refine Og (vt (zw rfl rfl) (decide_eq_true (by omega))) rfl ?_
  refine E8 0 4 6 8 10 11 12 32 rfl (zd rfl ?_)
  obtain ⟨f, g, q, hgk, hbf, hread⟩ := zlL hfy hk
  have hsz := (((zk.refl [b] wx).trans hcA).transS c17).size
  have kA := kA.chg0 c8
  refine zJ (fun wz => zk [] w8 wz) mix (by kernel_rfl) (zk.drew [] _) ?_
  refine Tc zsB rfl rfl rfl (znf _) ?_
  rintro v33 w33 ⟨b33, rfl, h33, k33, c33⟩
  refine ⟨.inl ((zk.drew [] _).trans c33), ?_⟩
  refine Td zfP rfl ?_
  refine Tr (fun wz hz => zh zmk rfl ((kA.chg0 hz).cell' rfl)) rfl ?_
  refine zas rfl (gn rfl) (St.vl (zcI (κ := zbB .i64) ziR (yv zaF) zi9 rfl rfl k33 hgk rfl) rfl rfl ?_)
  refine ⟨.inl ((zk.drew [] _).trans c33), ?_⟩
  refine Tp (fun _ => zgU zrt rfl rfl) rfl ?_
  refine Tr (fun wz hz => zg zdX zaT rfl rfl (zy.of_blk0 (kA.chg0 hz))) rfl ?_
  refine Tm rfl ?_
  refine Tc hbf rfl rfl rfl (hread _ t b _ (by omega) (t17.chg0 ((c8.trans (zk.drew [] _)).trans c33))) ?_
  rintro v40 w40 ⟨rfl, t40, c40⟩
  refine ⟨.inr (by kernel_rfl), ?_⟩
  refine zas rfl (gn rfl) (zu y6 rfl rfl rfl rfl (((k8.chg0 (zk.drew [] _)).chg0 c33).chg c40 (by simp; omega)) (by simp [zQ.cs]) (zQ.one x) ?_)
  intro wB nB cB kB
  refine ⟨.inr (by kernel_rfl), ?_⟩
  refine D6 0 4 8 10 11 12 rfl ?_
  have kB : zU wB b8 40 x.cs := kB
  have hcB : zk [b] wx w8 := ((zk.refl [b] wx).trans hcA).transS c17 |>.trans c8
  have hs0 := hcx.size
  have hs1 := hcB.size
  have hs2 := c33.size
  have hs3 := c40.size
  have hcD : zk [b] wx wB := (((hcB.trans (zk.drew [] _)).trans c33).transS c40).trans' cB (by intro z hz; simp at hz; subst hz; right; omega)
  have hoB : yw wB 40 4 zQ.cs o (l.take j) := yw.chg ho hcD hob
  refine za (Om rfl ?_)
  refine Og (zg zbp y6 rfl rfl (zy.of_blk0 kB)) rfl ?_
  refine zE (gn rfl) (zB zhg rfl (vs := [_]) rfl (css := [_]) ⟨rfl, trivial⟩ rfl rfl (cs := [_, _, _, _]) rfl rfl ?_)
  intro b43 w43 e43 n43 c43 k43
  refine zE (gn rfl) (yt zhg zao rfl rfl (yw.chg0 hoB c43) (zv.of_blk (n := 1) k43 rfl (by simp [maxLen]) (zQ.one _)) (by simp only [maxLen]; omega) (by omega) rfl ?_)
  intro v44 w44 i44 c44 o44 z44
  refine Oa rfl (N5 0 4 10 11 12 rfl (zl ?_))
  have hs4 := c43.size
  have hs5 := hcD.size
  have hwz := hcx.trans' ((((zk.refl (zp o ++ [b]) wx).trans' hcD (by simp)).trans c43).trans' c44 (fun z hz => .inl (by simp [hz]))) (by
   intro z hz
   rcases List.mem_append.1 hz with hz | hz
   ·exact .inr (hfo z hz)
   exact .inl hz)
  refine za ?_
  refine Og (zI rfl rfl (by omega)) rfl ?_
  refine Om rfl (N5 0 4 10 11 12 rfl ?_)
  refine ⟨s.cols.length - (j + 1), by omega, j + 1, v44, rfl, by omega, rfl, ?_, yB o44 hfo (by omega), ?_, hwz⟩
  ·rw [List.take_add_one, hx]
   exact z0.push i44 rfl rfl
  have tB : zad wB t _ b := t40.chg cB (by intro z hz; simp at hz; subst hz; exact ⟨by omega, _, _, (((k8.chg0 (zk.drew [] _)).chg0 c33).chg c40 (by simp; omega)), rfl⟩)
  exact (tB.chg0 c43).chgSl (zv.chg0 hoB c43) rfl rfl c44
 refine zM ?_
 repeat first | refine te ?_ | refine bo rfl ?_
 refine zt _ ?_
 have he : s.cols.length ≤ j := by have := of_decide_eq_false hF; omega
 rw [List.take_of_length_le (by omega)] at ho
 rw [List.drop_eq_nil_of_le he] at htx
 refine Sr (Om rfl (Oa rfl (E1 4 rfl (zi ?_))))
 refine zD rfl rfl ?_
 have hs1 := c3.size
 exact ⟨ho, fun b hb => Nat.le_trans hs1 (hfo b hb), htx, ((zk.refl [b] w).trans c3).transS hcx⟩
theorem zpn (x y : Value) (w : World) : CallsD TP 140 #[x, y] .returning w fun e u' w' => (∃ v, e = .returned v) ∧ u' = .returning ∧ w' = w := by
 have hnn : ∀ w, (Op.equal 20 .nilIface .nilIface).run TP w = .ok true w := fun w => by
  obtain ⟨ms, hu⟩ := zec zvy
  exact za0 fun d => by simp [Op.equalIn, run_underlying hu]
 have hrs : Tryz.f140.results = #[] := rfl
 refine callsD_of_wpS Tryz.func140 rfl fun c₀ cs hu => ?_
 apply wpS_seq
 apply wpS_region
 simp [wpOpsS, go_sem, recoverD, hu, Exit.thenS]
 apply wpS_seq
 apply wpS_region
 simp [wpOpsS, go_sem, recoverD, hu, Exit.thenS, binOp, eqGuard, hnn]
 refine wpS_cond (t := false) (by simp [Act.eval, Array.replicate]) ?_
 simp only [Bool.false_eq_true, if_false]
 refine wpS_of_wp (wp_skip ?_)
 cases c₀
 simp_all [bodyPostS, results]
theorem ztw (c k u v : Value) (s : yo) (l : List zQ) (w : World) (hs : yO w c k u s) (hr : yV s l = 0) (hv : zaM w 5 1 v (zcb s.cols l).length (bv (zcb s.cols l))) :
 z9 TP 98 #[.agg #[c, k, u], v] w fun r w' => ∃ o, r = .tuple #[o, Ii (zcb s.cols l).length, Ii 0] ∧ zbd w' o l ∧ (∀ y ∈ zp o, w.heap.size ≤ y) ∧ zk [] w w' := by
 obtain ⟨pv, cv, rfl, hcv⟩ := hv.val
 obtain ⟨hrs, hlen, hfit⟩ := zam hr
 have h8 := (zX hrs).1
 have hel := zd9 hfit
 refine z9.of_WD (args := [_, _]) Tryz.func98 rfl rfl rfl rfl ?_
 refine Sr ?_
 refine Ob rfl rfl ?_
 intro b2 w2 e2 n2 c2 k2
 refine zE (gn rfl) (zH zv3 rfl rfl ?_)
 intro b4 w4 e4 n4 c4 k4
 refine zE (gn rfl) (zH zr3 rfl rfl ?_)
 intro b5 w5 e5 n5 c5 k5
 refine zE (gn rfl) (zH zuh rfl rfl ?_)
 intro b6 w6 e6 n6 c6 k6
 refine E5 1 2 4 5 6 rfl (Sr ?_)
 refine Og (zbr rfl rfl) rfl ?_
 refine zrl rfl rfl ?_
 refine za1 [1, 2, 4, 5, 6] (F' := [(1, _), (2, _), (4, _), (5, _), (6, _), (1000001, _)]) rfl (Sr (Om rfl ?_))
 refine Og (z6 zxc zxj rfl (vs := [_]) rfl (css := [_]) ⟨rfl, trivial⟩ rfl rfl (cs := [_]) rfl) rfl ?_
 refine Ob rfl rfl ?_
 intro b11 w11 e11 n11 c11 k11
 refine Oa rfl (za1 [1, 2, 4, 5, 6, 7] (F' := [(1, _), (2, _), (4, _), (5, _), (6, _), (7, _), (1000001, _)]) rfl ?_)
 have hcA := ((c2.trans c4).trans c5).trans c6
 have hlt : ∀ z ∈ zp (.slice pv (zcb s.cols l).length cv), z < w.heap.size := hv.lt
 have hs2 := c2.size
 have hs4 := c4.size
 have hs5 := c5.size
 have hs6 := c6.size
 have hc11 : zk [] w w11 := hcA.trans c11
 have tp : zad w11 (Pt b11) (zcb s.cols l) b11 := ⟨rfl, _, k11, hv.chg0 hc11, fun hm => by have := hlt b11 hm; omega⟩
 refine Sr (Om rfl ?_)
 refine Og (zg zaW zaX rfl rfl (zy.of_blk0 ((((k2.chg0 c4).chg0 c5).chg0 c6).chg0 c11))) rfl ?_
 refine Oc zxB rfl rfl rfl (zvt c k u _ s l b11 _ (hs.chg0 hc11) hr tp) ?_
 rintro v14 w14 ⟨i14, f14, ⟨-, v2, hb14, hv14, -⟩, c14⟩
 obtain ⟨p14, q14, rfl, -⟩ := id (yw.val i14)
 obtain ⟨p2, q2, rfl, -⟩ := id hv14.val
 refine zE (gn rfl) (zu zcr rfl rfl rfl rfl ((((k4.chg0 c5).chg0 c6).chg0 c11).chg c14 (by simp; omega)) (by simp) (by intro u hu; simp at hu; subst hu; rfl) ?_)
 intro wA nA cA kA
 refine za1 [1, 4, 5, 6, 7] (F' := [(1, _), (4, _), (5, _), (6, _), (7, _), (1000001, _)]) rfl (ze ?_)
 have kA : zU wA b4 48 [.slice p14 l.length q14] := kA
 have hs11 := c11.size
 have hs14 := c14.size
 have hsA := cA.size
 have hd : zk [] wA wA.drew := zk.drew _ _
 have hbA : zU wA b11 237 [.slice p2 0 q2] := hb14.chg cA (by simp; omega)
 have k5A := ((((k5.chg0 c6).chg0 c11).chg c14 (by simp; omega)).chg cA (by simp; omega)).chg0 hd
 have k6A := (((k6.chg0 c11).chg c14 (by simp; omega)).chg cA (by simp; omega)).chg0 hd
 refine zJ (fun wz => wz.cell? ⟨b4, 0, none⟩ = some (.slice p14 l.length q14) ∧ wz.cell? ⟨b11, 0, none⟩ = some (.slice p2 0 q2)) mix (by kernel_rfl) ⟨(kA.chg0 hd).cell' rfl, (hbA.chg0 hd).cell' rfl⟩ ?_
 refine Tr (fun wz hz => zh za7 rfl hz.1) rfl ?_
 refine Tm rfl ?_
 refine Tp (fun _ => yc yT rfl) rfl ?_
 refine Tm rfl ?_
 refine Tp (fun _ => zF rfl) rfl ?_
 refine Td zf2 rfl ?_
 refine Tr (fun wz hz => zh zmG rfl hz.2) rfl ?_
 refine Tp (fun _ => yc znr rfl) rfl ?_
 refine Tp (fun _ => yE (v' := Ii (((zcb s.cols l).length : Nat) : Int)) (yN rfl rfl (by omega)) (by congr 1 <;> omega)) rfl ?_
 refine zas rfl (gn rfl) (zu zcr rfl rfl rfl rfl (kA.chg0 hd) (by simp) (by intro u hu; simp at hu; subst hu; rfl) ?_)
 intro wB nB cB kB
 refine ⟨.inl ⟨kB.cell' rfl, ((hbA.chg0 hd).chg cB (by simp; omega)).cell' rfl⟩, ?_⟩
 refine zas rfl (gn rfl) (zu sz3 rfl rfl rfl rfl (k5A.chg cB (by simp; omega)) (by simp) (by simp [Value.oneCell']) ?_)
 intro wC nC cC kC
 refine ⟨.inr (by kernel_rfl), ?_⟩
 refine zas rfl (gn rfl) (zu zqb rfl rfl rfl rfl ((k6A.chg cB (by simp; omega)).chg cC (by simp; omega)) (by simp) (by simp [Value.oneCell']) ?_)
 intro wD nD cD kD
 refine ⟨.inr (by kernel_rfl), ?_⟩
 refine zhe [4, 5, 6] (F' := [(4, _), (5, _), (6, _), (1000001, _)]) rfl ?_
 refine zi ?_
 have kB : zU wB b4 48 [.slice p14 l.length q14] := kB
 have kC : zU wC b5 3 [Ii (zcb s.cols l).length] := kC
 have kD : zU wD b6 32 [Ii 0] := kD
 have hB := (kB.chg cC (by simp; omega)).chg cD (by simp; omega)
 have hC := kC.chg cD (by simp; omega)
 refine zya (Rd := fun w' => w' = wD) rfl zvu (zpn _ _ _) ?_
 rintro w' a ha rfl
 refine ⟨.tuple #[.slice p14 l.length q14, Ii (zcb s.cols l).length, Ii 0], ?_, ?_⟩
 ·have h4 := ha.get 4 (Pt b4) rfl
  have h5 := ha.get 5 (Pt b5) rfl
  have h6 := ha.get 6 (Pt b6) rfl
  have g4 : w'.cell? ⟨b4, 0, none⟩ = _ := hB.cell' rfl
  have g5 : w'.cell? ⟨b5, 0, none⟩ = _ := hC.cell' rfl
  have g6 : w'.cell? ⟨b6, 0, none⟩ = _ := kD.cell' rfl
  simp [results, h4, h5, h6, asAddr, loadVar, zaz za7, zaz ag3, zaz zl7, g4, g5, g6]
 refine ⟨_, rfl, ?_, ?_, ?_⟩
 ·refine yw.chg (yw.chg (yw.chg (yw.chg0 (yw.chg i14 cA ?_) hd) cB ?_) cC ?_) cD ?_ <;> (intro y hy hm; have := f14 y hy; simp at hm; omega)
 ·intro y hy
  have := f14 y hy
  omega
 refine ((((((hc11.trans' c14 ?_).trans' cA ?_).trans hd).trans' cB ?_).trans' cC ?_).trans' cD ?_) <;> (intro y hy; simp at hy; subst hy; right; omega)
theorem zo3 (c k u v : Value) (s : yo) (l : List zQ) (w : World) (hs : yO w c k u s) (hm : s.Sm) (hr : yV s l = 0) (hv : zaM w 5 1 v (zcb s.cols l).length (bv (zcb s.cols l))) :
 z9 TP 66 #[.agg #[c, k, u], v] w fun r w' => ∃ o, r = .tuple #[o, Ii 0] ∧ zbd w' o l ∧ (∀ y ∈ zp o, w.heap.size ≤ y) ∧ zk [] w w' := by
 obtain ⟨pv, cv, rfl, hcv⟩ := hv.val
 obtain ⟨hrs, hlen, hfit⟩ := zam hr
 have h8 := (zX hrs).1
 have hel := zd9 hfit
 refine A2 Tryz.func66 rfl rfl ?_
 refine Sr ?_
 refine Ob rfl rfl ?_
 intro b2 w2 e2 n2 c2 k2
 refine Oa rfl (Oa rfl (E2 1 2 rfl (ze (Sr ?_))))
 refine Og (zg zaW zaX rfl rfl (zy.of_blk0 k2)) rfl ?_
 refine Oc zpl rfl rfl rfl (zgc c k u s _ (hs.chg0 c2) hm) ?_
 rintro v11 w11 ⟨h11, c11⟩
 rw [hrs] at h11
 change v11 = Ii 0 at h11
 subst h11
 refine Oa rfl (E3 1 2 6 rfl (Sr (Om rfl ?_)))
 refine Og (vf (zS rfl rfl) (zcl (by omega))) rfl ?_
 refine E4 1 2 6 13 rfl (zb rfl (zm (ze ?_)))
 have hcA := c2.trans c11
 refine za ?_
 refine Og (zg zaW zaX rfl rfl (zy.of_blk0 (k2.chg0 c11))) rfl ?_
 refine Om rfl ?_
 refine Oc zx8 rfl rfl rfl (ztw c k u _ s l _ (hs.chg0 hcA) hr (hv.chg0 hcA)) ?_
 rintro v18 w18 ⟨v18, rfl, i18, f18, c18⟩
 refine Om rfl (Oe rfl rfl (Oe rfl rfl (Oe rfl rfl (Oa rfl (Oa rfl (Oa rfl (E4 1 7 8 9 rfl (ze (Sr (Om rfl ?_))))))))))
 refine Og (vf (zS rfl rfl) (zcl (by omega))) rfl ?_
 refine Om rfl (Oj rfl rfl (Oj rfl rfl ?_))
 refine Oy rfl rfl (yc yT rfl) ?_
 refine Oy rfl rfl (vf (zS rfl rfl) (zcl (by omega))) ?_
 refine Of rfl (E2 7 29 rfl (zb rfl (zm (Sr (Om rfl (Oa rfl (Oa rfl (E2 4 5 rfl (zi ?_)))))))))
 refine zaV rfl rfl rfl ?_
 have hsz := hcA.size
 exact ⟨_, rfl, i18, fun y hy => Nat.le_trans hsz (f18 y hy), hcA.trans c18⟩
theorem zbI {s : yo} (h : yP s = true) : s.Sm := by
 obtain ⟨h1, h2, h3, _, _, _, h7⟩ := zX h
 have := (zax h3).1
 exact ⟨by omega, by omega, by omega, fun l hl => by have := (zax (h7 l hl)).1; omega⟩
def PgL (w : World) : List Nat → List (LE) → Prop
 | [], [] => True
 | p :: ps, m :: ms => Pg w p m ∧ PgL w ps ms
 | _, _ => False
theorem PgL.chg0 {w w' : World} (hc : zk [] w w') : ∀ {ps : List Nat} {ms : List (LE)}, PgL w ps ms → PgL w' ps ms
 | [], [], _ => trivial
 | _ :: _, _ :: _, h => ⟨h.1.chg0 hc, PgL.chg0 hc h.2⟩
theorem PgL.length {w : World} : ∀ {ps : List Nat} {ms : List (LE)}, PgL w ps ms → ps.length = ms.length
 | [], [], _ => rfl
 | _ :: _, _ :: _, h => by simp [PgL.length h.2]
theorem PgL.at {w : World} : ∀ {ps : List Nat} {ms : List (LE)} {i : Nat} {p : Nat} {m : LE}, PgL w ps ms → ps[i]? = some p → ms[i]? = some m → Pg w p m
 | [], [], _, _, _, _, h, _ => by simp at h
 | _ :: _, _ :: _, 0, _, _, h, hp, hm => by simp at hp hm; subst hp hm; exact h.1
 | _ :: _, _ :: _, i + 1, _, _, h, hp, hm => h.2.at (by simpa using hp) (by simpa using hm)
theorem PgL.chgO {w w' : World} {q : Nat} {ms' : LE} (hq : Pg w q ms') (hc : zk [q] w w') : ∀ {ps : List Nat} {ms : List (LE)}, q ∉ ps → PgL w ps ms → PgL w' ps ms
 | [], [], _, _ => trivial
 | p :: _, _ :: _, hn, h => ⟨h.1.chgO hq (fun e => hn (by simp [e])) hc, PgL.chgO hq hc (fun hm => hn (by simp [hm])) h.2⟩
theorem PgL.put {w w' : World} {q : Nat} {m m' : LE} (hq : Pg w q m) (hc : zk [q] w w') (hq' : Pg w' q m') : ∀ {ps : List Nat} {ms : List (LE)} {i : Nat}, ps.Nodup → ps[i]? = some q → PgL w ps ms → PgL w' ps (ms.set i m')
 | [], [], _, _, h, _ => by simp at h
 | p :: ps, a :: ms, 0, hn, h, hp => by
  simp at h; subst h
  simp at hn
  exact ⟨hq', PgL.chgO hq hc hn.1 hp.2⟩
 | p :: ps, a :: ms, i + 1, hn, h, hp => by
  simp at h hn
  have hmem : q ∈ ps := List.mem_of_getElem? h
  exact ⟨hp.1.chgO hq (fun e => hn.1 (e ▸ hmem)) hc, PgL.put hq hc hq' hn.2 h hp.2⟩
theorem PgL.snoc {w : World} {q : Nat} {m : LE} (hq : Pg w q m) : ∀ {ps : List Nat} {ms : List (LE)}, PgL w ps ms → PgL w (ps ++ [q]) (ms ++ [m])
 | [], [], _ => ⟨hq, trivial⟩
 | _ :: _, _ :: _, h => ⟨h.1, PgL.snoc hq h.2⟩
theorem Pg.nl {w : World} {p : Nat} {ls : LE} (h : Pg w p ls) : Nl w [p] := by
 obtain ⟨v, hb, _, h1, _⟩ := h
 obtain ⟨q, c, rfl, _⟩ := h1.val
 exact Nl.one hb (by intro y hy; simp at hy; subst hy; rfl)
def scs (x : Value × Nat) : List Value := [x.1, .pointer (some ⟨x.2, 0, none⟩)]
theorem zq0 (x : Value × Nat) : (scs x).length = 2 := rfl
structure yD (w : World) (t pm : Nat) (c k u sv : Value) (xs : List (Value × Nat)) (s : yo) (main : LE) (subs : List (LE)) : Prop where
 blk : zU w t 98 [Pt pm, c, k, u, sv]
 sch : yO w c k u s
 pg : Pg w pm main
 sl : yw w 103 2 scs sv xs
 ats : ym w 3 1 ics (xs.map (·.1)) (zN s)
 pgs : PgL w (xs.map (·.2)) subs
 nd : (pm :: xs.map (·.2)).Nodup
section
variable {w w' : World} {t pm : Nat} {c k u sv : Value} {xs : List (Value × Nat)} {s : yo} {main : LE} {subs : List (LE)}
theorem yD.chg0 (h : yD w t pm c k u sv xs s main subs) (hc : zk [] w w') : yD w' t pm c k u sv xs s main subs :=
 ⟨h.blk.chg0 hc, h.sch.chg0 hc, h.pg.chg0 hc, yw.chg0 h.sl hc, ym.chg0 h.ats hc, h.pgs.chg0 hc, h.nd⟩
theorem yD.keep (h : yD w t pm c k u sv xs s main subs) {q : Nat} {ms : LE} (hq : Pg w q ms) (hc : zk [q] w w') {main' : LE} {subs' : List (LE)} (h1 : Pg w' pm main') (h2 : PgL w' (xs.map (·.2)) subs') : yD w' t pm c k u sv xs s main' subs' := by
 obtain ⟨v, hb, hv⟩ := hq
 have hn : ∀ y ∈ [v], zhA y = false := by obtain ⟨_, h1, _⟩ := hv; obtain ⟨p, c, rfl, _⟩ := h1.val; intro y hy; simp at hy; subst hy; rfl
 exact ⟨h.blk.chg hc (by have := h.blk.ne hb rfl; simpa using this), h.sch.chgB hb rfl hn hc, h1, yw.chg h.sl hc (zv.apart h.sl hb rfl), ym.chg hc (h.ats.apart hb rfl) h.ats, h2, h.nd⟩
theorem yD.putM (h : yD w t pm c k u sv xs s main subs) (hc : zk [pm] w w') {main' : LE} (h' : Pg w' pm main') : yD w' t pm c k u sv xs s main' subs :=
 h.keep h.pg hc h' (PgL.chgO h.pg hc (by have := h.nd; simp only [List.nodup_cons] at this; exact this.1) h.pgs)
theorem yD.putS (h : yD w t pm c k u sv xs s main subs) {j q : Nat} {m m' : LE} {a : Value} (hj : xs[j]? = some (a, q)) (hm : subs[j]? = some m) (hc : zk [q] w w') (h' : Pg w' q m') : yD w' t pm c k u sv xs s main (subs.set j m') := by
 have hq : (xs.map (·.2))[j]? = some q := by rw [List.getElem?_map, hj]; rfl
 have hp := h.pgs.at hq hm
 have hnd := h.nd
 simp only [List.nodup_cons] at hnd
 exact h.keep hp hc (h.pg.chgO hp (fun e => hnd.1 (e ▸ List.mem_of_getElem? hq)) hc) (PgL.put hp hc h' hnd.2 hq h.pgs)
theorem yD.lens (h : yD w t pm c k u sv xs s main subs) : xs.length = (zN s).length ∧ subs.length = (zN s).length := by
 have h1 := h.ats.length
 have h2 := h.pgs.length
 rw [List.length_map] at h1 h2
 omega
theorem yD.at (h : yD w t pm c k u sv xs s main subs) {j : Nat} (hj : j < (zN s).length) : ∃ a q st m b off cap, xs[j]? = some (a, q) ∧ (zN s)[j]? = some st ∧ subs[j]? = some m ∧ yC w a st ∧ Pg w q m ∧ sv = .slice (some ⟨b, off, none⟩) xs.length cap ∧ zy w b (off + j * 2) [a, Pt q] ∧ q ∈ xs.map (·.2) := by
 obtain ⟨l1, l2⟩ := h.lens
 have e1 : (zN s)[j]? = some (zN s)[j] := by simp [hj]
 have e2 : xs[j]? = some (xs[j]'(by omega)) := by simp [l1, hj]
 have e3 : subs[j]? = some (subs[j]'(by omega)) := by simp [l2, hj]
 generalize (zN s)[j] = st at e1
 generalize xs[j]'(by omega) = x at e2
 generalize subs[j]'(by omega) = m at e3
 obtain ⟨a, q⟩ := x
 obtain ⟨v, hv, ha⟩ := h.ats.at e1
 rw [List.getElem?_map, e2] at hv
 simp at hv
 subst hv
 have hq : (xs.map (·.2))[j]? = some q := by rw [List.getElem?_map, e2]; rfl
 obtain ⟨b, off, cap, hsv, hcell⟩ := yw.at zq0 h.sl e2
 exact ⟨a, q, st, m, b, off, cap, e2, e1, e3, ha.arr, h.pgs.at hq e3, hsv, hcell, List.mem_of_getElem? hq⟩
end
def yA (w : World) (t : Nat) (own : List Nat) (s : yo) (rows : LV) : Prop :=
 ∃ pm c k u sv xs main subs, own = pm :: xs.map (·.2) ∧ yD w t pm c k u sv xs s main subs ∧ zbE s rows main subs
theorem yA.chg0 {w w' : World} {t : Nat} {own : List Nat} {s : yo} {rows : LV} (h : yA w t own s rows) (hc : zk [] w w') : yA w' t own s rows :=
 let ⟨pm, c, k, u, sv, xs, main, subs, h1, h2, h3⟩ := h; ⟨pm, c, k, u, sv, xs, main, subs, h1, h2.chg0 hc, h3⟩
theorem yA.ok {w : World} {t : Nat} {own : List Nat} {s : yo} {rows : LV} (h : yA w t own s rows) : y4 s rows :=
 let ⟨_, _, _, _, _, _, _, _, _, _, h3⟩ := h; h3.ok
def zbC {K : Type} (es : List (K × Value)) : List K := es.map (·.1)
theorem zhH {K : Type} [DecidableEq K] {k k' : K} {v : Value} : ∀ {es : List (K × Value)}, k' ∈ zbC (zeg es k v) ↔ k' = k ∨ k' ∈ zbC es
 | [] => by simp [zbC, zeg]
 | p :: r => by
  unfold zeg
  by_cases h : p.1 = k
  ·rw [if_pos h]
   simp [zbC, h]
  rw [if_neg h]
  have ih := zhH (k := k) (k' := k') (v := v) (es := r)
  unfold zbC at *
  rw [List.map_cons, List.map_cons, List.mem_cons, ih, List.mem_cons]
  constructor
  ·rintro (h | h | h)
   ·exact .inr (.inl h)
   ·exact .inl h
   exact .inr (.inr h)
  rintro (h | h | h)
  ·exact .inr (.inl h)
  ·exact .inl h
  exact .inr (.inr h)
theorem zhB {K : Type} [DecidableEq K] {k : K} {v : Value} : ∀ {es : List (K × Value)}, (zbC es).Nodup → (zbC (zeg es k v)).Nodup
 | [], _ => by simp [zbC, zeg]
 | p :: r, h => by
  unfold zeg
  have h' : p.1 ∉ zbC r ∧ (zbC r).Nodup := by simpa [zbC] using h
  by_cases e : p.1 = k
  ·rw [if_pos e]
   simpa [zbC, e] using h
  rw [if_neg e]
  have ih := zhB (k := k) (v := v) h'.2
  show (p.1 :: zbC (zeg r k v)).Nodup
  rw [List.nodup_cons]
  exact ⟨fun hm => by rcases zhH.1 hm with h1 | h1; exact e h1; exact h'.1 h1, ih⟩
def zbf (s : yo) (rows : LV) (row : List zQ) (sts : List (List Int)) (es : List (ByteArray × Value)) : Prop :=
 (zbC es).Nodup ∧ ∀ k, k ∈ zbC es ↔ ∃ r ∈ rows, (∃ st ∈ sts, zaE r row st = true) ∧ zV s r = k
theorem zbf.nil {s : yo} {rows : LV} {row : List zQ} : zbf s rows row [] [] := ⟨by simp [zbC], by simp [zbC]⟩
theorem zbf.skip {s : yo} {rows : LV} {row : List zQ} {sts : List (List Int)} {st : List Int} {es : List (ByteArray × Value)} (h : zbf s rows row sts es) (hn : ∀ r ∈ rows, zaE r row st = false) : zbf s rows row (sts ++ [st]) es := by
 refine ⟨h.1, fun k => (h.2 k).trans ⟨?_, ?_⟩⟩
 ·rintro ⟨r, hr, ⟨st', hs, hc⟩, hk⟩
  exact ⟨r, hr, ⟨st', List.mem_append_left _ hs, hc⟩, hk⟩
 rintro ⟨r, hr, ⟨st', hs, hc⟩, hk⟩
 rcases List.mem_append.1 hs with hs | hs
 ·exact ⟨r, hr, ⟨st', hs, hc⟩, hk⟩
 simp at hs
 subst hs
 rw [hn r hr] at hc; cases hc
theorem zes {rows : LV} {st : List Int} {vals r : List zQ} (h : zcW rows st vals = some r) : r ∈ rows ∧ nnS (zZ r st) = true ∧ zZ r st = vals := by
 have h1 := List.mem_of_find?_eq_some h
 have h2 := List.find?_some h
 simp only [Bool.and_eq_true, decide_eq_true_eq] at h2
 exact ⟨h1, h2⟩
theorem zmf {rows : LV} {st : List Int} {vals r : List zQ} (h : zcW rows st vals = none) (hr : r ∈ rows) : ¬ (nnS (zZ r st) = true ∧ zZ r st = vals) := by
 have := List.find?_eq_none.1 h r hr
 simpa using this
theorem zbf.none {s : yo} {rows : LV} {row : List zQ} {sts : List (List Int)} {st : List Int} {es : List (ByteArray × Value)} (h : zbf s rows row sts es) (hn : nnS (zZ row st) = false ∨ zcW rows st (zZ row st) = none) : zbf s rows row (sts ++ [st]) es := by
 refine h.skip fun r hr => ?_
 cases hc : zaE r row st with
 | false => rfl
 | true =>
  obtain ⟨h1, h2⟩ := zdh.1 hc
  rcases hn with hn | hn
  ·rw [← h2, h1] at hn; cases hn
  exact absurd ⟨h1, h2⟩ (zmf hn hr)
theorem zbf.some {s : yo} {rows : LV} (ht : y4 s rows) {row r : List zQ} {sts : List (List Int)} {st : List Int} (hst : st ∈ zN s) {es : List (ByteArray × Value)} {v : Value} (h : zbf s rows row sts es) (hn : zcW rows st (zZ row st) = some r) : zbf s rows row (sts ++ [st]) (zeg es (zV s r) v) := by
 obtain ⟨hr, h1, h2⟩ := zes hn
 have hc : zaE r row st = true := zdh.2 ⟨h1, h2⟩
 refine ⟨zhB h.1, fun k => ?_⟩
 rw [zhH, h.2 k]
 constructor
 ·rintro (rfl | ⟨r', hr', ⟨st', hs, hc'⟩, hk⟩)
  ·exact ⟨r, hr, ⟨st, by simp, hc⟩, rfl⟩
  exact ⟨r', hr', ⟨st', List.mem_append_left _ hs, hc'⟩, hk⟩
 rintro ⟨r', hr', ⟨st', hs, hc'⟩, hk⟩
 rcases List.mem_append.1 hs with hs | hs
 ·exact .inr ⟨r', hr', ⟨st', hs, hc'⟩, hk⟩
 simp at hs
 subst hs
 obtain ⟨g1, g2⟩ := zdh.1 hc'
 have : r' = r := ht.uniqC hr' hr (zcP.2 ⟨st', hst, g1, by rw [g2, h2]⟩)
 subst this
 exact .inl hk.symm
theorem zbf.gone {s : yo} {rows : LV} {row : List zQ} {es : List (ByteArray × Value)} (h : zbf s rows row (zN s) es) (k : ByteArray) : k ∈ zbC es ↔ k ∈ (zar s rows row).map (zV s) := by
 rw [h.2 k, List.mem_map]
 constructor
 ·rintro ⟨r, hr, ⟨st, hs, hc⟩, hk⟩
  exact ⟨r, zc0.2 ⟨hr, List.any_eq_true.2 ⟨st, hs, hc⟩⟩, hk⟩
 rintro ⟨r, hr, hk⟩
 obtain ⟨h1, h2⟩ := zc0.1 hr
 obtain ⟨st, hs, hc⟩ := List.any_eq_true.1 h2
 exact ⟨r, h1, ⟨st, hs, hc⟩, hk⟩
section
variable {t pm : Nat} {c k u sv : Value} {xs : List (Value × Nat)} {s : yo} {main : LE} {subs : List (LE)}
theorem yD.scells {w : World} (h : yD w t pm c k u sv xs s main subs) : zy w t 1 [c, k, u] := by
 intro i x hi
 have := (zy.of_blk0 h.blk) (1 + i) x (by
  rw [show [Pt pm, c, k, u, sv] = [Pt pm] ++ [c, k, u] ++ [sv] from rfl, List.append_assoc, List.getElem?_append_right (by simp)]
  simp only [List.length_cons, List.length_nil, Nat.zero_add, Nat.add_sub_cancel_left]
  rw [List.getElem?_append_left (List.getElem?_eq_some_iff.1 hi).1]
  exact hi)
 rw [Nat.zero_add] at this
 exact this
theorem zjT (v : Value) (l : List zQ) (w : World) (hE : EOk w) (h : yD w t pm c k u sv xs s main subs) (hr : yP s = true) (hl : zK w v l) (hg : ∀ x ∈ l, x.Rng) (hn : l.length ≤ 1048576) :
 z9 TP 48 #[Pt t, v] w fun r w' => zi2 w' r (yV s l) ∧ zk [] w w' := by
 refine A2 Tryz.func48 rfl rfl ?_
 refine Sr (Oa rfl (E2 0 1 rfl (ze (Sr (Om rfl ?_)))))
 refine Og (zaC zfH rfl rfl) rfl ?_
 refine E3 0 1 7 rfl (zb rfl (zm (ze (Sr (Om rfl (Og (zF rfl) rfl (Od zd0 rfl ?_)))))))
 refine Og (zg zaW zaX rfl rfl h.scells) rfl ?_
 refine Om rfl ?_
 refine Oc zvl rfl rfl rfl (zsT c k u v s l _ hE h.sch (zbI hr) hl hg hn) ?_
 rintro v16 w16 ⟨rfl, c16⟩
 refine Oa rfl (E1 5 rfl (ze ?_))
 by_cases he : yV s l = 0
 ·refine za (Om rfl ?_)
  refine Og (vf (zS rfl rfl) (by simp [he])) rfl ?_
  refine E2 5 18 rfl (zb rfl (zm (Sr (Oa rfl (E1 4 rfl (zi ?_))))))
  refine zD rfl rfl ?_
  exact ⟨.inl ⟨rfl, he⟩, c16⟩
 refine za (Om rfl ?_)
 refine Og (vt (zS rfl rfl) (by simp [he])) rfl ?_
 refine E2 5 18 rfl (zd rfl (Sr (Om rfl ?_)))
 refine Og (yW zfN rfl) rfl ?_
 refine Og (z6 zkr zke rfl (vs := [_, _]) rfl (css := [_, _]) ⟨rfl, rfl, trivial⟩ rfl rfl (cs := [_, _]) rfl) rfl ?_
 refine Og (yW zkc rfl) rfl ?_
 refine Oa rfl (E1 4 rfl (zi ?_))
 repeat first | refine tr ?_ | refine br ?_
 refine zD rfl rfl ?_
 exact ⟨.inr ⟨.inr (.inr ⟨_, rfl⟩), he⟩, c16⟩
end
theorem zik {w : World} {a v : Value} {q : Nat} {s : yo} {st : List Int} {row : List zQ} (hf : yV s row = 0) (hg : ∀ x ∈ row, x.Rng) (hst : st ∈ zN s) (ha : yC w a st) (hv : zK w v row) :
 z9 TP 62 #[.agg #[a, Pt q], v] w fun r w' => r = .tuple #[.string (zb8 (zZ row st)), .bool (nnS (zZ row st))] ∧ zk [] w w' := by
 obtain ⟨hr, hl, _⟩ := zam hf
 obtain ⟨h1, h2, _⟩ := zax (zbT hr st hst)
 have h8 := (zX hr).1
 exact zq7 a _ v st row w ha rfl hv hg (zgh hf) (fun i hi => by have := h2 i hi; omega) (by omega) (by omega)
theorem zaN.st {s : yo} {rows : LV} {j : Nat} {st : List Int} {m : LE} : ∀ {sts : List (List Int)} {pss : List (LE)}, zaN s rows sts pss → sts[j]? = some st → pss[j]? = some m → zdt s rows st m := by
 intro sts pss h h1 h2
 obtain ⟨ps, hp, hs⟩ := h.at' h1
 rw [h2] at hp
 cases hp
 exact hs
theorem yj {α : Type} {l : List α} {j : Nat} {x : α} (h : l[j]? = some x) : l.take (j + 1) = l.take j ++ [x] := by rw [List.take_add_one, h]; rfl
theorem zlb {K : Type} [DecidableEq K] (k : K) (v : Value) : ∀ (es : List (K × Value)), (zeg es k v).length ≤ es.length + 1
 | [] => by simp [zeg]
 | p :: r => by
  unfold zeg
  split
  ·simp
  have := zlb k v r
  simp only [List.length_cons]
  omega
section
variable {t pm : Nat} {c k u sv : Value} {xs : List (Value × Nat)} {s : yo} {main : LE} {subs : List (LE)} {rows : LV}
theorem zfG (v : Value) (row : List zQ) (w : World) (h : yD w t pm c k u sv xs s main subs) (ht : zbE s rows main subs) (hf : yV s row = 0) (hl : zK w v row) (hg : ∀ x ∈ row, x.Rng) :
 z9 TP 50 #[Pt t, v] w fun r w' => ∃ b es, r = .map (some b) ∧ w.heap.size ≤ b ∧ zae zhx w' b es ∧ es.length ≤ 4 ∧ zbf s rows row (zN s) es ∧ zk [] w w' := by
 obtain ⟨l1, l2⟩ := h.lens
 obtain ⟨psv, csv, rfl, hcsv⟩ := yw.val h.sl
 have hn3 := (zX ht.ok.right).2.1
 have hn4 : (zN s).length ≤ 4 := by simp [zN]; omega
 refine A2 Tryz.func50 rfl rfl ?_
 refine Sr (Oa rfl (E2 0 1 rfl (Sr ?_)))
 refine zE (gn rfl) (zcX (zhx) rfl ?_)
 intro b12 w12 e12 n12 c12 k12
 refine Oa rfl (E3 0 1 5 rfl (ze (ze ?_)))
 have h2 := h.chg0 c12
 refine za (Om rfl (Og (zF rfl) rfl (Od zbZ rfl ?_)))
 refine Ol zgm rfl (h2.blk.cell' rfl) ?_
 refine On zem rfl (Om rfl (E5 1 5 16 17 18 rfl (zq ?_)))
 refine zW [1, 5, 16, 17, 18] (fun m F wx => ∃ (j : Nat) (es : List (ByteArray × Value)), m = xs.length - j ∧ j ≤ xs.length ∧ F = [(1, v), (5, .map (some b12)), (16, .slice psv xs.length csv), (17, Ii xs.length), (18, Ii j)] ∧ zae zhx wx b12 es ∧ es.length ≤ j ∧ zbf s rows row ((zN s).take j) es ∧ zk [b12] w12 wx) (m := xs.length - 0) ⟨0, [], rfl, Nat.zero_le _, rfl, k12, by simp, zbf.nil, zk.refl _ _⟩ ?_
 rintro m F wx ⟨j, es, rfl, hj, rfl, hes, hint, hck, hcx⟩
 have hcw : zk [] w wx := c12.own hcx (by intro y hy; simp at hy; omega)
 have hx := h.chg0 hcw
 have hvx := z0.chg0 hl hcw
 refine Sr (Og (zC rfl rfl) rfl (E6 1 5 16 17 18 19 rfl (ze ?_)))
 refine zR rfl (fun hT => ?_) (fun hF => ?_)
 ·refine zm ?_
  have hlt : j < xs.length := by have := of_decide_eq_true hT; omega
  obtain ⟨a, q, st, m, b, off, cap, e1, e2, e3, ha, hq, hsv, hcell, hqm⟩ := hx.at (j := j) (by omega)
  cases hsv
  have hst : st ∈ zN s := List.mem_of_getElem? e2
  have hsub := zaN.st ht.subs e2 e3
  refine ze (zq (Sr (Om rfl ?_)))
  refine Og (zf zem zbL rfl rfl _ rfl hlt) rfl ?_
  refine Og (zg zf8 zbL rfl rfl hcell) rfl ?_
  refine zE (gn rfl) (zH zh2 rfl rfl ?_)
  intro b7 w7 e7 n7 c7 k7
  refine Oa rfl ?_
  refine zE (gn rfl) (zu zbL rfl rfl rfl rfl k7 (by simp) (by intro u hu; simp at hu; rcases hu with rfl | rfl; exact z0.one1 ha; rfl) ?_)
  intro wA nA cA kA
  refine E7 1 5 6 7 16 17 18 rfl ?_
  have kA : zU wA b7 103 [a, Pt q] := kA
  have hcA : zk [] wx wA := c7.own cA (by intro y hy; simp at hy; omega)
  refine Sr ?_
  refine Og (zg zf8 zbL rfl rfl (zy.of_blk0 kA)) rfl ?_
  refine Om rfl ?_
  refine Oc zp4 rfl rfl rfl (zik hf hg hst (z0.chg0 ha hcA) (z0.chg0 hvx hcA)) ?_
  rintro v26 w26 ⟨rfl, c26⟩
  refine Om rfl (Oe rfl rfl (Oe rfl rfl (Oa rfl (Oa rfl (za1 [1, 5, 6, 7, 8, 9, 16, 17, 18] (F' := [(1, _), (5, _), (6, _), (7, _), (8, _), (9, _), (16, _), (17, _), (18, _)]) rfl ?_)))))
  have hcB : zk [] wx w26 := hcA.trans c26
  have hbb : b12 < w26.heap.size := Nat.lt_of_lt_of_le hes.lt hcB.size
  refine Sr (Om rfl (za1 [1, 5, 6, 7, 8, 16, 17, 18, 29] (F' := [(1, _), (5, _), (6, _), (7, _), (8, _), (16, _), (17, _), (18, _), (29, _)]) rfl ?_))
  cases hnn : nnS (zZ row st) with
  | false =>
   refine zb rfl (ye (zl (za ?_)))
   refine Og (zI rfl rfl (by omega)) rfl ?_
   refine Om rfl (N5 1 5 16 17 18 rfl ?_)
   refine ⟨xs.length - (j + 1), by omega, j + 1, es, rfl, by omega, rfl, hes.chg0 hcB, by omega, ?_, hcx.trans hcB⟩
   rw [yj e2]
   exact hck.none (.inl hnn)
  | true =>
   refine zd rfl ?_
   have hget := hsub.get ht.ok hst (vals := zZ row st) (zdQ hf hg hst)
   refine Sr (Od zf6 rfl ?_)
   refine Ol zgQ rfl ((kA.chg0 c26).cell' rfl) ?_
   refine Om rfl ?_
   refine Oc zra rfl rfl rfl (f15 q m _ _ (hq.chg0 hcB) hsub.wf (by have := hsub.le ht.ok; omega)) ?_
   rintro v34 w34 ⟨rfl, c34⟩
   refine Om rfl (Oe rfl rfl (Oe rfl rfl (Oa rfl (Oa rfl (E8 1 5 6 10 11 16 17 18 rfl ?_)))))
   have hcC : zk [] wx w34 := hcB.trans c34
   rw [hget]
   cases hro : zcW rows st (zZ row st) with
   | none =>
    refine Sr (Om rfl (E8 1 5 6 10 16 17 18 37 rfl (zb rfl (ye (zl (za ?_))))))
    refine Og (zI rfl rfl (by omega)) rfl ?_
    refine Om rfl (N5 1 5 16 17 18 rfl ?_)
    refine ⟨xs.length - (j + 1), by omega, j + 1, es, rfl, by omega, rfl, hes.chg0 hcC, by omega, ?_, hcx.trans hcC⟩
    rw [yj e2]
    exact hck.none (.inr hro)
   | some r =>
    refine Sr (Om rfl (E8 1 5 6 10 16 17 18 37 rfl (zd rfl (za (Om rfl (Om rfl (Om rfl ?_)))))))
    refine zE (gn rfl) (zqB (κ := zhx) zm1 (zcY st9) rfl rfl rfl (hes.chg0 hcC) ?_)
    intro wD nD cD kD
    refine N5 1 5 16 17 18 rfl (zl (za ?_))
    refine Og (zI rfl rfl (by omega)) rfl ?_
    refine Om rfl (N5 1 5 16 17 18 rfl ?_)
    refine ⟨xs.length - (j + 1), by omega, j + 1, _, rfl, by omega, rfl, kD, ?_, ?_, (hcx.trans hcC).transS cD⟩
    ·exact Nat.le_trans (zlb _ _ _) (by omega)
    rw [yj e2]
    exact hck.some ht.ok hst hro
 refine zM ?_
 repeat first | refine te ?_ | refine bo rfl ?_
 refine zt _ ?_
 have he : xs.length ≤ j := by have := of_decide_eq_false hF; omega
 rw [List.take_of_length_le (by omega)] at hck
 refine Sr (Om rfl (Oa rfl (E1 4 rfl (zi ?_))))
 refine zD rfl rfl ?_
 exact ⟨b12, es, rfl, by omega, hes, by omega, hck, c12.own hcx (by intro y hy; simp at hy; omega)⟩
end
section
variable {α β : Type} (f : α → β → β)
def zea (a : List α) (l : List β) (j : Nat) : List β := List.zipWith f (a.take j) (l.take j) ++ l.drop j
variable {f} {a : List α} {l : List β} {j : Nat} {x : α} {y : β}
theorem zhV : zea f a l 0 = l := by simp [zea]
theorem ziF (h : a.length = l.length) (hj : l.length ≤ j) : zea f a l j = List.zipWith f a l := by
 unfold zea
 rw [List.take_of_length_le (by omega), List.take_of_length_le hj, List.drop_eq_nil_of_le hj, List.append_nil]
theorem zhQ (hx : a[j]? = some x) (hy : l[j]? = some y) : (zea f a l j)[j]? = some y := by
 have h1 := (List.getElem?_eq_some_iff.1 hx).1
 have h2 := (List.getElem?_eq_some_iff.1 hy).1
 unfold zea
 rw [List.getElem?_append_right (by simp; omega), List.getElem?_drop]
 rw [show j + (j - (List.zipWith f (a.take j) (l.take j)).length) = j by simp; omega]
 exact hy
theorem zfU (hx : a[j]? = some x) (hy : l[j]? = some y) : zea f a l (j + 1) = (zea f a l j).set j (f x y) := by
 have h1 := (List.getElem?_eq_some_iff.1 hx).1
 have h2 := (List.getElem?_eq_some_iff.1 hy).1
 have hz : (List.zipWith f (a.take j) (l.take j)).length = j := by simp; omega
 unfold zea
 rw [yj hx, yj hy, List.zipWith_append (by simp; omega)]
 rw [List.set_append_right _ _ (by omega), hz, Nat.sub_self]
 obtain ⟨_, rfl⟩ := List.getElem?_eq_some_iff.1 hy
 rw [show l.drop j = l[j] :: l.drop (j + 1) from List.drop_eq_getElem_cons h2]
 simp only [List.set_cons_zero, List.append_assoc, List.cons_append, List.nil_append, List.zipWith_cons_cons, List.zipWith_nil_left]
theorem zil (hx : a[j]? = some x) (hy : l[j]? = some y) (hf : f x y = y) : zea f a l (j + 1) = zea f a l j := by
 rw [zfU hx hy, hf]
 have := zhQ (f := f) hx hy
 obtain ⟨h1, h2⟩ := List.getElem?_eq_some_iff.1 this
 conv => lhs; rw [← h2]
 exact List.set_getElem_self h1
end
def ziM (row : List zQ) (k : ByteArray) (st : List Int) (ps : LE) : LE := if nnS (zZ row st) then zfs ps (zb8 (zZ row st)) k else ps
def zgw (row : List zQ) (st : List Int) (ps : LE) : LE := if nnS (zZ row st) then zcC ps (zb8 (zZ row st)) else ps
theorem zje (row : List zQ) (k : ByteArray) : ∀ sts pss, zgZ row k sts pss = List.zipWith (ziM row k) sts pss
 | [], _ => by simp [zgZ]
 | _ :: _, [] => by simp [zgZ]
 | st :: sts, ps :: pss => by simp only [zgZ, List.zipWith_cons_cons, zje row k sts pss]; rfl
theorem zhw (row : List zQ) : ∀ sts pss, ze1 row sts pss = List.zipWith (zgw row) sts pss
 | [], _ => by simp [ze1]
 | _ :: _, [] => by simp [ze1]
 | st :: sts, ps :: pss => by simp only [ze1, List.zipWith_cons_cons, zhw row sts pss]; rfl
theorem zjl {s : yo} {row : List zQ} (hf : yV s row = 0) {st : List Int} (hst : st ∈ zN s) : (zb8 (zZ row st)).size ≤ 2000 := by
 have h1 := zfY (l := zZ row st) fun x hx => zgh hf x (zeb hf hst x hx)
 have h2 := (zax (zbT (zam hf).1 st hst)).1
 have e : (zb8 (zZ row st)).size = (zdc (zZ row st)).length := by simp [zb8, ByteArray.size]
 rw [show (zZ row st).length = st.length by simp [zZ]] at h1
 omega
section
variable {t pm : Nat} {c k u sv : Value} {xs : List (Value × Nat)} {s : yo} {main : LE} {subs : List (LE)} {rows : LV}
set_option maxHeartbeats 400000 in
theorem zlP (v : Value) (row : List zQ) (w : World) (hE : EOk w) (h : yD w t pm c k u sv xs s main subs) (ht : zbE s rows main subs) (hf : yV s row = 0) (hl : zK w v row) (hg : ∀ x ∈ row, x.Rng) :
 z9 TP 52 #[Pt t, v] w fun _ w' => yD w' t pm c k u sv xs s (zfs main (zV s row) (zdG s row)) (zgZ row (zV s row) (zN s) subs) ∧ zk (pm :: xs.map (·.2)) w w' := by
 obtain ⟨l1, l2⟩ := h.lens
 obtain ⟨psv, csv, rfl, hcsv⟩ := yw.val h.sl
 have hn3 := (zX ht.ok.right).2.1
 have hn4 : (zN s).length ≤ 4 := by simp [zN]; omega
 have hn1 : 1 ≤ (zN s).length := by simp [zN]
 obtain ⟨hrs, hlen, hfit⟩ := zam hf
 have h8 := (zX hrs).1
 refine A2 Tryz.func52 rfl rfl ?_
 refine ze ?_
 obtain ⟨a0, q0, stA, m0, b0, off0, cap0, e1, e2, e3, ha0, hq0, hsv0, hcell0, hqm0⟩ := h.at (j := 0) (by omega)
 have hstA : s.key = stA := by simp [zN] at e2; exact e2
 subst hstA
 cases hsv0
 refine za (Om rfl (Og (zF rfl) rfl (Od zbZ rfl ?_)))
 refine Ol zgm rfl (h.blk.cell' rfl) ?_
 refine Og (zf zem zbL rfl rfl 0 rfl (show 0 < xs.length by omega)) rfl ?_
 refine Og (zg zf8 zbL rfl rfl hcell0) rfl ?_
 refine Om rfl ?_
 refine Oc zp4 rfl rfl rfl (zik hf hg (zcU s) ha0 hl) ?_
 rintro v20 w20 ⟨rfl, c20⟩
 refine Om rfl (Oe rfl rfl (Oe rfl rfl (Oa rfl (Oa rfl (E3 0 1 4 rfl ?_)))))
 have h1 := h.chg0 c20
 have hl1 := z0.chg0 hl c20
 refine Sr (Om rfl (Og (zF rfl) rfl (Od zd0 rfl ?_)))
 refine Og (zg zaW zaX rfl rfl h1.scells) rfl ?_
 refine Om rfl ?_
 refine Oc zyh rfl rfl rfl (zql c k u v s row _ (hE.chg0 c20) h1.sch (zbI hrs) hl1 hg (by omega)) ?_
 rintro v29 w29 ⟨o29, rfl, i29, f29, c29⟩
 rw [if_pos hf] at i29
 obtain ⟨p29, q29, rfl, -⟩ := id (zv.val i29)
 refine Om rfl (Oe rfl rfl (Oe rfl rfl (Oa rfl (Oa rfl (E4 0 1 4 6 rfl ?_)))))
 have h2 := h1.chg0 c29
 have hl2 := z0.chg0 hl1 c29
 refine ze ?_
 refine zJ (fun wz => zk [] w29 wz) mix (by kernel_rfl) (zk.drew [] _) ?_
 refine Tm rfl ?_
 refine Tp (fun _ => zF rfl) rfl ?_
 refine Td zeM rfl ?_
 refine Tr (fun wz hz => zh zgQ rfl ((h2.blk.chg0 hz).cell' rfl)) rfl ?_
 refine Tm rfl (Tm rfl ?_)
 refine Tr (fun wz hz => zfk (l := (zcb s.cols row)) yT zay st9 rfl (zv.rd (zv.chg0 i29 hz))) rfl ?_
 refine Tc zwC rfl rfl rfl (f10 pm main (zV s row) (zdG s row) _ (h2.pg.chg0 (zk.drew [] _)) ht.wf (by have := ht.le; omega) (zjl hf (zcU s))) ?_
 rintro v39 w39 ⟨rfl, p39, c39⟩
 refine ⟨.inr (by kernel_rfl), ?_⟩
 refine D3 0 1 4 rfl ?_
 have h3 := (h2.chg0 (zk.drew [] _)).putM c39 p39
 have hc3 : zk (pm :: xs.map (·.2)) w w39 := ((((zk.refl _ w).trans c20).trans c29).trans (zk.drew [] _)).trans' c39 (fun y hy => .inl (by simp at hy; simp [hy]))
 have hl3 : zK w39 v row := by
  exact z0.chgC (z0.chg0 hl2 (zk.drew [] _)) c39 zd1 (h2.pg.chg0 (zk.drew [] _)).nl
 refine Sr (Om rfl (Og (zF rfl) rfl (Od zbZ rfl ?_)))
 refine Ol zgm rfl (h3.blk.cell' rfl) ?_
 refine On zem rfl (Om rfl (E5 1 4 43 44 45 rfl (zq ?_)))
 refine zW [1, 4, 43, 44, 45] (fun m F wx => ∃ (j : Nat), m = xs.length - j ∧ j ≤ xs.length ∧ F = [(1, v), (4, .string (zV s row)), (43, .slice (some ⟨b0, off0, none⟩) xs.length csv), (44, Ii xs.length), (45, Ii j)] ∧ yD wx t pm c k u (.slice (some ⟨b0, off0, none⟩) xs.length csv) xs s (zfs main (zV s row) (zdG s row)) (zea (ziM row (zV s row)) (zN s) subs j) ∧ zK wx v row ∧ zk (pm :: xs.map (·.2)) w wx) (m := xs.length - 0) ⟨0, rfl, Nat.zero_le _, rfl, by rw [zhV]; exact h3, hl3, hc3⟩ ?_
 rintro m F wx ⟨j, rfl, hj, rfl, hx, hvx, hcx⟩
 refine Sr (Og (zC rfl rfl) rfl (E6 1 4 43 44 45 46 rfl (ze ?_)))
 refine zR rfl (fun hT => ?_) (fun hF => ?_)
 ·refine zm ?_
  have hlt : j < xs.length := by have := of_decide_eq_true hT; omega
  obtain ⟨a, q, st, m, b, off, cap, e1, e2, e3, ha, hq, hsv, hcell, hqm⟩ := hx.at (j := j) (by omega)
  cases hsv
  have hst : st ∈ zN s := List.mem_of_getElem? e2
  have e3' : subs[j]? = some (subs[j]'(by omega)) := by simp [show j < subs.length by omega]
  generalize subs[j]'(by omega) = m' at e3'
  have hmm : m = m' := by
   have := zhQ (f := ziM row (zV s row)) e2 e3'
   rw [e3] at this
   cases this; rfl
  subst hmm
  have hsub := zaN.st ht.subs e2 e3'
  refine ze (zq (Sr ?_))
  refine Og (zf zem zbL rfl rfl _ rfl hlt) rfl ?_
  refine Og (zg zf8 zbL rfl rfl hcell) rfl ?_
  refine zE (gn rfl) (zH zh2 rfl rfl ?_)
  intro b9 w9 e9 n9 c9 k9
  refine zE (gn rfl) (zu zbL rfl rfl rfl rfl k9 (by simp) (by intro u hu; simp at hu; rcases hu with rfl | rfl; exact z0.one1 ha; rfl) ?_)
  intro wA nA cA kA
  refine E6 1 4 9 43 44 45 rfl ?_
  have kA : zU wA b9 103 [a, Pt q] := kA
  have hcA : zk [] wx wA := c9.own cA (by intro y hy; simp at hy; omega)
  refine Sr ?_
  refine Og (zg zf8 zbL rfl rfl (zy.of_blk0 kA)) rfl ?_
  refine Om rfl ?_
  refine Oc zp4 rfl rfl rfl (zik hf hg hst (z0.chg0 ha hcA) (z0.chg0 hvx hcA)) ?_
  rintro v52 w52 ⟨rfl, c52⟩
  refine Om rfl (Oe rfl rfl (Oe rfl rfl (Oa rfl (Oa rfl (E8 1 4 9 10 11 43 44 45 rfl ?_)))))
  have hcB : zk [] wx w52 := hcA.trans c52
  refine Sr (Om rfl (E8 1 4 9 10 43 44 45 55 rfl ?_))
  cases hnn : nnS (zZ row st) with
  | false =>
   refine zb rfl (ye (zl (za ?_)))
   refine Og (zI rfl rfl (by omega)) rfl ?_
   refine Om rfl (N5 1 4 43 44 45 rfl ?_)
   refine ⟨xs.length - (j + 1), by omega, j + 1, rfl, by omega, rfl, ?_, z0.chg0 hvx hcB, hcx.trans hcB⟩
   rw [zil e2 e3' (by unfold ziM; rw [hnn]; rfl)]
   exact hx.chg0 hcB
  | true =>
   refine zd rfl (za (Od zf6 rfl ?_))
   refine Ol zgQ rfl ((kA.chg0 c52).cell' rfl) ?_
   refine Om rfl (Om rfl ?_)
   refine Oc zwC rfl rfl rfl (f10 q m (zb8 (zZ row st)) (zV s row) _ (hq.chg0 hcB) hsub.wf (by have := hsub.le ht.ok; omega) (zjl hf hst)) ?_
   rintro v60 w60 ⟨rfl, p60, c60⟩
   refine N5 1 4 43 44 45 rfl (zl (za ?_))
   refine Og (zI rfl rfl (by omega)) rfl ?_
   refine Om rfl (N5 1 4 43 44 45 rfl ?_)
   refine ⟨xs.length - (j + 1), by omega, j + 1, rfl, by omega, rfl, ?_, ?_, (hcx.trans hcB).trans' c60 (fun y hy => .inl (by simp at hy; subst hy; exact List.mem_cons_of_mem _ hqm))⟩
   ·rw [zfU e2 e3', show ziM row (zV s row) st m = zfs m (zb8 (zZ row st)) (zV s row) by unfold ziM; rw [hnn]; rfl]
    exact (hx.chg0 hcB).putS e1 e3 c60 p60
   exact z0.chgC (z0.chg0 hvx hcB) c60 zd1 (hq.chg0 hcB).nl
 refine zM ?_
 repeat first | refine te ?_ | refine bo rfl ?_
 refine zt _ ?_
 have he : xs.length ≤ j := by have := of_decide_eq_false hF; omega
 refine zge rfl ?_
 rw [zje, ← ziF (j := j) (by omega) (by omega)]
 exact ⟨hx, hcx⟩
end
end Go.Wk
