/- joined texts -/
import Derived.Test.YtcnkdoecfljnlaaGreatDoorW14
set_option linter.all false
namespace Go.Wk
open Go.Proofs
set_option maxRecDepth 10000
theorem zl9 {w : World} {t : Nat} {own : List Nat} {c k u : Value} {s : ym} {rt : LV} (h : zdy w t own c k u s rt) :
 z6 TP 34 #[Pt t] w fun r w' => r = .agg #[c, k, u] ∧ zj [] w w' := by
 obtain ⟨⟨pm, c', k', u', sv, xs, main, subs, e1, hm, ht⟩, pm0, sv0, hbt⟩ := h
 have hq := Option.some.inj ((show w.heap[t]? = _ from hbt).symm.trans hm.blk)
 cases hq
 exact zpO w hm
theorem zmU {w w' : World} {t : Nat} {own : List Nat} {s : ym} {rows : LV} (h : yJ w t own s rows) (hc : zj own w w') {y : zcL} {b off : Nat} (hcell : zz w b off y.cs) : zz w' b off y.cs := by
 have h0 := hcell 0 (Ii y.what) rfl
 have hb : b ∉ own := fun hm => by
  obtain ⟨p', n', c', hx⟩ := h.pages b hm
  rw [hx.cell] at h0
  cases off with
  | zero => simp at h0
  | succ n => simp at h0
 have hlt : b < w.heap.size := by
  rcases Nat.lt_or_ge b w.heap.size with g | g
  ·exact g
  simp [World.cell?, Array.getElem?_eq_none g] at h0
 intro i v hi
 have h6 := hcell i v hi
 unfold World.cell? at h6 ⊢
 rw [hc.block b hlt hb]
 exact h6
set_option maxHeartbeats 1000000 in
theorem zjC (c k u : Value) (s : ym) (v : Value) (al : List zb0) (w : World) (hE : EOk w) (hs : yL w c k u s) (hl : zdm w v al) :
 z6 TP 6 #[.agg #[c, k, u], v] w fun r w' => r = .bool true ∧ zj [] w w' := by
 obtain ⟨pv, cv, rfl, hcv⟩ := hl.val
 refine A2 Tryz.func6 rfl rfl ?_
 refine Sr ?_
 refine Ob rfl rfl ?_
 intro b2 w2 e2 n2 c2 k2
 refine Oa rfl (E2 1 2 rfl ?_)
 have k2 : zS w2 b2 30 [c, k, u] := k2
 have hs2 := hs.chg0 c2
 have hl2 := hl.chg0 c2
 refine ze ?_
 refine yd (fun F wx => ∃ z : Bool, F = [(1, .slice pv al.length cv), (2, Pt b2), (19, .bool z)] ∧ (z = false → zg4 s ∧ (∀ y ∈ al, y.row.length ≤ 1048576) ∧ al.length ≤ 40) ∧ zj [] w2 wx) ?_ ?_
 ·by_cases hF : zg4 s
  ·by_cases hS : al.length ≤ 40 ∧ ∀ y ∈ al, zeo y
   ·refine za ?_
    refine Og (zg zbs zbm rfl rfl (zz.of_blk0 k2)) rfl ?_
    refine Oc zsX rfl rfl rfl (zom c k u s _ hs2) ?_
    rintro v13 w13 ⟨e13, c13⟩
    rw [decide_eq_true hF] at e13
    subst e13
    refine Og (zU rfl) rfl (Om rfl (Oj rfl rfl ?_))
    refine Ow rfl rfl zwM rfl rfl rfl (zlm _ al 40 _ (hl2.chg0 c13) (by decide)) ?_
    rintro v17 w17 ⟨e17, rfl⟩
    rw [decide_eq_true hS] at e17
    subst e17
    refine Oy rfl rfl (zU rfl) ?_
    refine Of rfl (E3 1 2 19 rfl ?_)
    exact ⟨false, rfl, fun _ => ⟨hF, zsJ hS, hS.1⟩, c13⟩
   refine za ?_
   refine Og (zg zbs zbm rfl rfl (zz.of_blk0 k2)) rfl ?_
   refine Oc zsX rfl rfl rfl (zom c k u s _ hs2) ?_
   rintro v13 w13 ⟨e13, c13⟩
   rw [decide_eq_true hF] at e13
   subst e13
   refine Og (zU rfl) rfl (Om rfl (Oj rfl rfl ?_))
   refine Ow rfl rfl zwM rfl rfl rfl (zlm _ al 40 _ (hl2.chg0 c13) (by decide)) ?_
   rintro v17 w17 ⟨e17, rfl⟩
   rw [decide_eq_false hS] at e17
   subst e17
   refine Oy rfl rfl (zU rfl) ?_
   refine Of rfl (E3 1 2 19 rfl ?_)
   exact ⟨true, rfl, (fun h => by cases h), c13⟩
  refine za ?_
  refine Og (zg zbs zbm rfl rfl (zz.of_blk0 k2)) rfl ?_
  refine Oc zsX rfl rfl rfl (zom c k u s _ hs2) ?_
  rintro v13 w13 ⟨e13, c13⟩
  rw [decide_eq_false hF] at e13
  subst e13
  refine Og (zU rfl) rfl (Om rfl (Oz rfl rfl (Oz rfl rfl (Oz rfl rfl (Ot rfl (E3 1 2 19 rfl ?_))))))
  exact ⟨true, rfl, (fun h => by cases h), c13⟩
 rintro F wx ⟨z, rfl, hz, hc2x⟩
 have hcx := c2.trans hc2x
 have k2 := k2.chg0 hc2x
 have hsx := hs.chg0 hcx
 cases z with
 | true =>
  refine zd rfl (Sr ?_)
  refine Oc bd9 rfl rfl rfl (zjE _ (hE.chg0 hcx)) ?_
  rintro v20 w20 ⟨rfl, c20⟩
  refine Oa rfl (E1 4 rfl (zi ?_))
  repeat first | refine tr ?_ | refine br ?_
  refine zC rfl rfl ?_
  exact ⟨rfl, hcx.trans c20⟩
 | false =>
  obtain ⟨hF, hS, h40⟩ := hz rfl
  refine zb rfl (zm (ze ?_))
  cases hR : yO s with
  | false =>
   refine za ?_
   refine Og (zg zbs zbm rfl rfl (zz.of_blk0 k2)) rfl ?_
   refine Oc ztY rfl rfl rfl (zsx c k u s _ hsx hF.sm hR) ?_
   rintro v23 w23 ⟨rfl, c23⟩
   refine Om rfl (Oe rfl rfl (Oe rfl rfl (Oa rfl (Oa rfl (E4 1 2 5 6 rfl ?_)))))
   have hc23 := hcx.trans c23
   refine ze (Sr ?_)
   refine Og (zg zbs zbm rfl rfl (zz.of_blk0 (k2.chg0 c23))) rfl ?_
   refine Oc zov rfl rfl rfl (zfN c k u s _ (hs.chg0 hc23) hF.nm) ?_
   rintro v27 w27 ⟨e27, c27⟩
   rw [hR] at e27
   subst e27
   refine Og (zU rfl) rfl (E5 1 2 5 6 28 rfl (zd rfl (Sr (Om rfl ?_))))
   refine Og (zaT zg8 rfl rfl) rfl ?_
   refine Om rfl (Oj rfl rfl ?_)
   refine Ow rfl rfl zeA rfl rfl rfl (zcS _ _) ?_
   rintro v33 w33 ⟨rfl, rfl⟩
   refine Oy rfl rfl (vt (zw rfl rfl) (decide_eq_true (by omega))) ?_
   refine Ot rfl (Om rfl ?_)
   refine Ow rfl rfl bd9 rfl rfl rfl (zjE _ ((hE.chg0 hc23).chg0 c27)) ?_
   rintro v37 w37 ⟨rfl, c37⟩
   refine Ot rfl (Oa rfl (E1 4 rfl (zi ?_)))
   repeat first | refine tr ?_ | refine br ?_
   refine zC rfl rfl ?_
   exact ⟨rfl, (hc23.trans c27).trans c37⟩
  | true =>
   refine za ?_
   refine Og (zg zbs zbm rfl rfl (zz.of_blk0 k2)) rfl ?_
   refine Oc ztY rfl rfl rfl (zoe c k u s _ hsx hR) ?_
   rintro v23 w23 ⟨t, own, rfl, hT, ht1, ho1, c23, hbt⟩
   refine Om rfl (Oe rfl rfl (Oe rfl rfl (Oa rfl (Oa rfl (E4 1 2 5 6 rfl ?_)))))
   have hc23 := hcx.trans c23
   refine ze (Sr ?_)
   refine Og (zg zbs zbm rfl rfl (zz.of_blk0 (k2.chg0 c23))) rfl ?_
   refine Oc zov rfl rfl rfl (zfN c k u s _ (hs.chg0 hc23) hF.nm) ?_
   rintro v27 w27 ⟨e27, c27⟩
   rw [hR] at e27
   subst e27
   refine Og (zU rfl) rfl (E5 1 2 5 6 28 rfl (zb rfl (zm ?_)))
   have hc27 := hc23.trans c27
   have k2 := (k2.chg0 c23).chg0 c27
   have hs2' := c2.size
   have hsx' := hc2x.size
   have hs23 := c23.size
   have hs27 := c27.size
   have hP27 : Pl w w27 t own c k u (.slice none 0 0) s [] [] := Pl.chg0 ⟨hE.chg0 hc23, ⟨hT, hbt⟩, yw.nil (hs.chg0 hc23) hR hF.nm, hc23, fun p hp => by have := ho1 p hp; have := hcx.size; omega⟩ c27
   refine Sr ?_
   refine Og (zg zbs zbm rfl rfl (zz.of_blk0 k2)) rfl ?_
   refine Og (z0 zxx zco rfl (vs := [_]) rfl (css := [_]) ⟨rfl, trivial⟩ rfl rfl (cs := [_, _, _, _]) rfl) rfl ?_
   refine zD (gn rfl) (zG zco rfl rfl ?_)
   intro b7 w7 e7 n7 c7 k7
   refine zD (gn rfl) (zu ya rfl rfl rfl rfl k7 (by simp) (yw.one hs none 0 0) ?_)
   intro wA nA cA kA
   refine E5 1 2 5 6 7 rfl ?_
   have kA : zS wA b7 54 [c, k, u, .slice none 0 0] := kA
   have hPA := (hP27.chg0 c7).put hs k7 cA (by omega) (by omega)
   have k2 : zS wA b2 30 [c, k, u] := (k2.chg0 c7).chg cA (by simp; omega)
   have hb7 : w.heap.size ≤ b7 ∧ b7 ≠ 0 ∧ b2 < b7 := by omega
   obtain ⟨hb7, hb70, hb2⟩ := hb7
   refine ze (ze ?_)
   have hd : zj [] wA wA.drew := zj.drew [] _
   refine zJ (fun wz => zj [] wA wz) mix (by kernel_rfl) hd ?_
   refine Tm rfl ?_
   refine Tc zeA rfl rfl rfl (zcS _ _) ?_
   rintro v42 w42 ⟨rfl, rfl⟩
   refine ⟨.inl hd, ?_⟩
   refine Tp (fun _ => vf (zT rfl rfl) (zcx (by omega))) rfl ?_
   refine Tm rfl (Tq rfl rfl rfl ?_)
   refine Tv rfl rfl zxf rfl rfl rfl (zl9 (hPA.chg0 hd).tab) ?_
   rintro v46 w46 ⟨rfl, c46⟩
   refine ⟨.inl (hd.trans c46), ?_⟩
   refine Ts rfl rfl (fun wz hz => zg zbs zbm rfl rfl (zz.of_blk0 (k2.chg0 hz))) rfl ?_
   refine Tv rfl rfl zxE rfl rfl rfl (zqH c k u c k u s s _ (hs.chg0 (hPA.chg.trans (hd.trans c46))) (hs.chg0 (hPA.chg.trans (hd.trans c46)))) ?_
   rintro v48 w48 ⟨e48, c48⟩
   rw [decide_eq_true rfl] at e48
   subst e48
   refine ⟨.inl ((hd.trans c46).trans c48), ?_⟩
   refine Tg rfl rfl (fun _ => zU rfl) rfl ?_
   refine Tp (fun _ => zP rfl rfl) rfl ?_
   refine D4 1 5 7 50 rfl ?_
   have hdc := (hd.trans c46).trans c48
   refine zb rfl (zm ?_)
   have hPB := hPA.chg0 hdc
   have kB := kA.chg0 hdc
   refine ze (Sr (Oa rfl (E4 1 5 7 8 rfl (zq ?_))))
   refine zZ [1, 5, 7, 8] (fun m F wx => ∃ (j : Nat) (t : Nat) (own : List Nat) (p : _) (n : Nat) (R : LV), m = al.length - j ∧ j ≤ al.length ∧ F = [(1, .slice pv al.length cv), (5, Pt t), (7, Pt b7), (8, Ii j)] ∧ Pl w wx t own c k u (.slice p R.length n) s R R ∧ zS wx b7 54 [c, k, u, .slice p R.length n]) (m := al.length - 0) ⟨0, t, own, none, 0, [], rfl, Nat.zero_le _, rfl, hPB, kB⟩ ?_
   rintro m F wy ⟨j, t, own, p, n, R, rfl, hj, rfl, hP, kb⟩
   refine ze (ze ?_)
   by_cases hlt : j < al.length
   ·refine za (Om rfl (Om rfl (On zfd rfl ?_)))
    refine Og (vt (zB rfl rfl) (by simp; omega)) rfl ?_
    refine E5 1 5 7 8 54 rfl (zd rfl (zm ?_))
    have hj' : al[j]? = some al[j] := by simp [hlt]
    have hmem := List.getElem_mem hlt
    generalize al[j] = y at hj' hmem
    obtain ⟨y', bo, oo, cp, hve, hcell, hya⟩ := (hl.chg0 hP.chg).at hj'
    cases hve
    have hsy := hP.chg.size
    have hb7y := kb.lt
    refine ze (zq ?_)
    refine yd (fun F wz => ∃ (t2 : Nat) (own2 : List Nat) (p2 : _) (n2 : Nat) (R2 : LV) (b10 : Nat), F = [(1, .slice (some ⟨bo, oo, none⟩) al.length cv), (7, Pt b7), (8, Ii j), (9, Pt t2), (10, Pt b10), (11, .bool true)] ∧ Pl w wz t2 own2 c k u (.slice p2 R2.length n2) s R2 R2 ∧ zS wz b10 54 [c, k, u, .slice p2 R2.length n2] ∧ zS wz b7 54 [c, k, u, .slice p R.length n] ∧ b7 < b10) ?_ ?_
    ·have hC := (zj.drew [] wy)
     refine zea (fun wz => zS wz b7 54 [c, k, u, .slice p R.length n] ∧ zz wz bo (oo + j * 4) y'.cs) (zaE.seq [0, 1, 2, 3, 4, 5] (.two 6 (zaE.seq [7, 8, 9, 10, 11, 12, 13, 14] .done) 11 (zaE.seq [6, 7, 8, 9, 10, 12, 13, 14] .done))) mix (by kernel_rfl) (by first | exact ⟨kb.chg0 hC, fun i v hi => hC.cell (hcell i v hi)⟩ | exact ⟨kb2, hcell2⟩ | exact ⟨kb2.chg0 c10, fun i v hi => c10.cell (hcell2 i v hi)⟩) ?_
     refine zQ rfl rfl (gn rfl) (fun _ => zac rfl) rfl rfl ?_
     refine zcK rfl rfl (gn rfl) (fun wz hz => zg yx ya rfl rfl (zz.of_blk0 hz.1)) rfl rfl ?_
     refine zQ rfl rfl (gn rfl) (fun _ => zac rfl) rfl rfl ?_
     refine zQ rfl rfl (gn rfl) (fun _ => zac rfl) rfl rfl ?_
     refine zQ rfl rfl (gn rfl) (fun _ => zf zfd zfr rfl rfl _ rfl hlt) rfl rfl ?_
     refine zcK rfl rfl (gn rfl) (fun wz hz => zg zpE zfr rfl rfl hz.2) rfl rfl ?_
     refine zdZ ?_ ?_
     ·refine yT rfl rfl (gn rfl) (yU zw1 rfl rfl rfl rfl (zsk t own c k u _ s R R y' y _ (hP.chg0 hC).e (hP.chg0 hC).tab (hP.chg0 hC).ref (hya.chg0 hC) (hS y hmem)) ?_)
      rintro v64 w64 h64
      obtain ⟨t2, own2, p2, n2, bb, rfl, hP2, hbb, hcA2⟩ := (hP.chg0 hC).act h64
      obtain rfl := hbb rfl
      have kb2 := (kb.chg0 hC).tab (hP.chg0 hC).tab.1 rfl hcA2
      have hcell2 := zmU (hP.chg0 hC).tab.1 hcA2 (fun i v hi => hC.cell (hcell i v hi))
      have hcS := hcA2.size
      have hcC := hC.size
      refine ⟨.inl (by first | exact ⟨kb.chg0 hC, fun i v hi => hC.cell (hcell i v hi)⟩ | exact ⟨kb2, hcell2⟩ | exact ⟨kb2.chg0 c10, fun i v hi => c10.cell (hcell2 i v hi)⟩), ?_⟩
      refine zQ rfl rfl (gn rfl) (fun _ => zac rfl) rfl rfl ?_
      refine zQ rfl rfl (gn rfl) (fun _ => zN rfl rfl) rfl rfl ?_
      refine zQ rfl rfl (gn rfl) (fun _ => zN rfl rfl) rfl rfl ?_
      refine zQ rfl rfl (gn rfl) (fun _ => zN rfl rfl) rfl rfl ?_
      refine yT rfl rfl (gn rfl) (zG zco rfl rfl ?_)
      intro b10 w10 e10 n10 c10 k10
      refine ⟨.inl (by first | exact ⟨kb.chg0 hC, fun i v hi => hC.cell (hcell i v hi)⟩ | exact ⟨kb2, hcell2⟩ | exact ⟨kb2.chg0 c10, fun i v hi => c10.cell (hcell2 i v hi)⟩), ?_⟩
      refine zQ rfl rfl (gn rfl) (fun _ => yg rfl) rfl rfl ?_
      refine yT rfl rfl (gn rfl) (zu ya rfl rfl rfl rfl (by first | exact k10 | exact k10.tab (hP.chg0 hC).tab.1 rfl hcA2) (by simp) (yw.one hs _ _ _) ?_)
      intro wA nA cA kA
      refine ⟨.inr (by kernel_rfl), ?_⟩
      refine zQ rfl rfl (gn rfl) (fun _ => yg rfl) rfl rfl ?_
      refine zb4 [1, 7, 8, 9, 10, 11] (F' := [(1, _), (7, _), (8, _), (9, _), (10, _), (11, _)]) rfl ?_
      first
       | exact ⟨t2, own2, p2, n2, _, b10, rfl, hP2.put hs (k10.tab (hP.chg0 hC).tab.1 rfl hcA2) cA (by omega) (by omega), kA, kb2.chg cA (by simp; omega), by omega⟩
       | exact ⟨t2, own2, p2, n2, _, b10, rfl, (hP2.chg0 c10).put hs k10 cA (by omega) (by omega), kA, (kb2.chg0 c10).chg cA (by simp; omega), by omega⟩
     refine yT rfl rfl (gn rfl) (zG zco rfl rfl ?_)
     intro b10 w10 e10 n10 c10 k10
     have hN10 := hC.size
     have hC := hC.trans c10
     refine ⟨.inl (by first | exact ⟨kb.chg0 hC, fun i v hi => hC.cell (hcell i v hi)⟩ | exact ⟨kb2, hcell2⟩ | exact ⟨kb2.chg0 c10, fun i v hi => c10.cell (hcell2 i v hi)⟩), ?_⟩
     refine yT rfl rfl (gn rfl) (yU zw1 rfl rfl rfl rfl (zsk t own c k u _ s R R y' y _ (hP.chg0 hC).e (hP.chg0 hC).tab (hP.chg0 hC).ref (hya.chg0 hC) (hS y hmem)) ?_)
     rintro v64 w64 h64
     obtain ⟨t2, own2, p2, n2, bb, rfl, hP2, hbb, hcA2⟩ := (hP.chg0 hC).act h64
     obtain rfl := hbb rfl
     have kb2 := (kb.chg0 hC).tab (hP.chg0 hC).tab.1 rfl hcA2
     have hcell2 := zmU (hP.chg0 hC).tab.1 hcA2 (fun i v hi => hC.cell (hcell i v hi))
     have hcS := hcA2.size
     have hcC := hC.size
     refine ⟨.inl (by first | exact ⟨kb.chg0 hC, fun i v hi => hC.cell (hcell i v hi)⟩ | exact ⟨kb2, hcell2⟩ | exact ⟨kb2.chg0 c10, fun i v hi => c10.cell (hcell2 i v hi)⟩), ?_⟩
     refine zQ rfl rfl (gn rfl) (fun _ => zac rfl) rfl rfl ?_
     refine zQ rfl rfl (gn rfl) (fun _ => zN rfl rfl) rfl rfl ?_
     refine zQ rfl rfl (gn rfl) (fun _ => zN rfl rfl) rfl rfl ?_
     refine zQ rfl rfl (gn rfl) (fun _ => zN rfl rfl) rfl rfl ?_
     refine zQ rfl rfl (gn rfl) (fun _ => yg rfl) rfl rfl ?_
     refine yT rfl rfl (gn rfl) (zu ya rfl rfl rfl rfl (by first | exact k10 | exact k10.tab (hP.chg0 hC).tab.1 rfl hcA2) (by simp) (yw.one hs _ _ _) ?_)
     intro wA nA cA kA
     refine ⟨.inr (by kernel_rfl), ?_⟩
     refine zQ rfl rfl (gn rfl) (fun _ => yg rfl) rfl rfl ?_
     refine zb4 [1, 7, 8, 9, 10, 11] (F' := [(1, _), (7, _), (8, _), (9, _), (10, _), (11, _)]) rfl ?_
     first
      | exact ⟨t2, own2, p2, n2, _, b10, rfl, hP2.put hs (k10.tab (hP.chg0 hC).tab.1 rfl hcA2) cA (by omega) (by omega), kA, kb2.chg cA (by simp; omega), by omega⟩
      | exact ⟨t2, own2, p2, n2, _, b10, rfl, (hP2.chg0 c10).put hs k10 cA (by omega) (by omega), kA, (kb2.chg0 c10).chg cA (by simp; omega), by omega⟩
    rintro F wm ⟨t2, own2, p2, n2, R2, b10, rfl, hP2, k10, k7, hlt7⟩
    have hd : zj [] wm wm.drew := zj.drew [] _
    refine ze ?_
    refine zJ (fun wz => zj [] wm wz) mix (by kernel_rfl) hd ?_
    refine Tm rfl ?_
    refine Tr (fun wz hz => zg yx ya rfl rfl (zz.of_blk0 (k10.chg0 hz))) rfl ?_
    refine Ta rfl ?_
    refine zan rfl (gn rfl) (zu ya rfl rfl rfl rfl (k7.chg0 hd) (by simp) (yw.one hs _ _ _) ?_)
    intro wB nB cB kB
    refine ⟨.inr (by kernel_rfl), ?_⟩
    refine D5 1 5 7 8 11 rfl ?_
    have hP3 := (hP2.chg0 hd).put hs (k7.chg0 hd) cB hb7 hb70
    have kB : zS wB b7 54 [c, k, u, .slice p2 R2.length n2] := kB
    refine ze ?_
    by_cases h4 : (j : Int) % 4 = 3
    ·refine za (Om rfl (Og (zU rfl) rfl (Om rfl (Oj rfl rfl ?_))))
     refine Oy rfl rfl ((zlq rfl rfl ⟨by omega, by omega⟩ (by decide))) ?_
     refine Oy rfl rfl (vt (zw rfl rfl) (decide_eq_true h4)) ?_
     refine Oj rfl rfl (Oj rfl rfl ?_)
     refine Oy rfl rfl (zg yx ya rfl rfl (zz.of_blk0 kB)) ?_
     refine Oj rfl rfl ?_
     refine Oy rfl rfl ((zlq rfl rfl ⟨by omega, by omega⟩ (by decide))) ?_
     refine Ow rfl rfl zwZ rfl rfl rfl (zvu t2 own2 c k u _ s R2 _ _ _ hP3.tab.1 hP3.ref) ?_
     rintro v81 w81 ⟨rfl, c81⟩
     refine Oy rfl rfl (zU rfl) ?_
     refine Oy rfl rfl (zK rfl rfl) ?_
     refine Of rfl (E5 1 5 7 8 84 rfl (zb rfl (yf (zk (za (Om rfl ?_))))))
     refine Og (zH rfl rfl (by omega)) rfl ?_
     refine Oa rfl (N4 1 5 7 8 rfl ?_)
     exact ⟨al.length - (j + 1), by omega, j + 1, t2, own2, p2, n2, R2, rfl, by omega, rfl, hP3.chg0 c81, kB.chg0 c81⟩
    refine za (Om rfl (Og (zU rfl) rfl (Om rfl (Oj rfl rfl ?_))))
    refine Oy rfl rfl ((zlq rfl rfl ⟨by omega, by omega⟩ (by decide))) ?_
    refine Oy rfl rfl (vf (zw rfl rfl) (decide_eq_false h4)) ?_
    refine Oj rfl rfl (Oz rfl rfl (Oz rfl rfl (Oz rfl rfl (Oz rfl rfl (Oz rfl rfl (Oz rfl rfl ?_))))))
    refine Oy rfl rfl (zP rfl rfl) ?_
    refine Of rfl (E5 1 5 7 8 84 rfl (zb rfl (yf (zk (za (Om rfl ?_))))))
    refine Og (zH rfl rfl (by omega)) rfl ?_
    refine Oa rfl (N4 1 5 7 8 rfl ?_)
    exact ⟨al.length - (j + 1), by omega, j + 1, t2, own2, p2, n2, R2, rfl, by omega, rfl, hP3, kB⟩
   refine za (Om rfl (Om rfl (On zfd rfl ?_)))
   refine Og (vf (zB rfl rfl) (by simp; omega)) rfl ?_
   refine E5 1 5 7 8 54 rfl (zb rfl ?_)
   refine zL ?_
   repeat first | refine te ?_ | refine bo rfl ?_
   refine zt _ ?_
   refine Sr (Om rfl ?_)
   refine Og (zg yx ya rfl rfl (zz.of_blk0 kb)) rfl ?_
   refine Oc zwZ rfl rfl rfl (zvu t own c k u _ s R _ _ _ hP.tab.1 hP.ref) ?_
   rintro v87 w87 ⟨rfl, c87⟩
   refine Om rfl ?_
   refine Ow rfl rfl bd9 rfl rfl rfl (zjE _ (hP.chg0 c87).e) ?_
   rintro v89 w89 ⟨rfl, c89⟩
   refine Ot rfl (Oa rfl (E1 4 rfl (zi ?_)))
   refine zC rfl rfl ?_
   exact ⟨rfl, (hP.chg0 c87).chg.trans c89⟩
end Go.Wk
