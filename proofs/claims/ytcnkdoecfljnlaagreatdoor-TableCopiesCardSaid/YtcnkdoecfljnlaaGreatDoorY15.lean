/- joined texts -/
import Derived.Test.YtcnkdoecfljnlaaGreatDoorY14
set_option linter.all false
namespace Go.Wk
open Go.Proofs
set_option maxRecDepth 10000
section
variable {w0 w w' : World} {t t' : Nat} {own own' : List Nat} {c k u o o' : Value} {s : yo} {rt rw rt' rw' : LV}
theorem Pl.two (h : Pl w0 w t own c k u o s rt rw) (h' : Pl w0 w t' own' c k u o' s rt' rw') (hd : ∀ p ∈ own', p ∉ own) {key : ByteArray} {a : zbX} {r : Value} (ha : ziw w own c k u s rt rw key a r w') :
 ∃ t2 own2 p n b, r = .tuple #[Pt t2, .agg #[c, k, u, .slice p (zbo s rw key a).length n], .bool b] ∧ Pl w0 w' t2 own2 c k u (.slice p (zbo s rw key a).length n) s (zbo s rt key a) (zbo s rw key a) ∧ (rt = rw → b = true) ∧ zk own w w' ∧ Pl w0 w' t' own' c k u o' s rt' rw' ∧ ∀ p ∈ own2, p ∉ own' := by
 obtain ⟨t2, own2, o2, b, rfl, h1, h2, h3, h4, h5⟩ := ha
 obtain ⟨p, n, rfl, _⟩ := h2.rws.val
 have he := h.e.tab h.tab.1 h4
 have hcc := h.chg.own h4 h.fr
 refine ⟨t2, own2, p, n, b, rfl, ⟨he, h1, h2, hcc, fun q hq => ?_⟩, h3, h4, ⟨he, ⟨h.tab.1.other h'.tab.1 hd h4, let ⟨pm, sv, hb⟩ := h'.tab.2; ⟨pm, sv, hb.tab h.tab.1 rfl h4⟩⟩, h'.ref.tab h.tab.1 h4, hcc, h'.fr⟩, fun q hq hq' => ?_⟩
 ·rcases h5 with rfl | h5
  ·exact h.fr q hq
  exact Nat.le_trans h.chg.size (h5 q hq)
 rcases h5 with rfl | h5
 ·exact hd q hq' hq
 have h6 := h5 q hq
 have h7 := h'.tab.1.lt q hq'
 omega
end
theorem zji {w : World} {b : Nat} {e : TypeId} {l m : List Value} (h : zU w b e (l ++ m)) (hl : l.length = 4) : zy w b (0 + 0 * 4) l ∧ zy w b (0 + 1 * 4) m := by
 refine ⟨fun i v hi => ?_, fun i v hi => ?_⟩
 ·have h1 : (l ++ m)[i]? = some v := by rw [List.getElem?_append_left (List.getElem?_eq_some_iff.1 hi).1]; exact hi
  simpa using zy.of_blk0 h i v h1
 have h1 : (l ++ m)[4 + i]? = some v := by rw [List.getElem?_append_right (by omega), hl]; simpa using hi
 simpa using zy.of_blk0 h (4 + i) v h1
theorem zm2 {w : World} {b : Nat} {x y : zbW} {a d : zbX} (hb : zU w b 80 (x.cs ++ y.cs)) (hx : zbg w x a) (hy : zbg w y d) : zde w (.slice (some ⟨b, 0, none⟩) 2 2) [a, d] := by
 have e : fl zbW.cs [x, y] = x.cs ++ y.cs := by simp [fl]
 refine ⟨[x, y], zv.toRd (zv.of_blk (n := 2) (c := fl zbW.cs [x, y]) (by rw [e]; exact hb) (by rw [e]; rfl) (by simp [maxLen]) (by rw [e]; intro v hv; rcases List.mem_append.1 hv with hv | hv; exact zbW.one hx v hv; exact zbW.one hy v hv)), hx, hy, trivial⟩
theorem znQ {α : Type} [DecidableEq α] (a b : α) : decide (b = a) = decide (a = b) := by by_cases h : a = b <;> simp [h, eq_comm]
set_option maxHeartbeats 1000000 in
theorem ziv (c k u : Value) (s : yo) (v : Value) (al : List zbX) (y z : zbW) (a d : zbX) (w : World) (hE : EOk w) (hs : yO w c k u s) (hl : zde w v al) (hy : zbg w y a) (hz : zbg w z d) :
 z9 TP 7 #[.agg #[c, k, u], v, .agg (y.cs ++ z.cs).toArray] w fun r w' => r = .bool true ∧ zk [] w w' := by
 obtain ⟨pv, cv, rfl, hcv⟩ := hl.val
 refine A3 Tryz.func7 rfl rfl ?_
 refine Sr ?_
 refine Ob rfl rfl ?_
 intro b3 w3 e3 n3 c3 k3
 refine Ob rfl rfl ?_
 intro b5 w5 e5 n5 c5 k5
 refine Oa rfl (E3 1 3 5 rfl ?_)
 have k3 : zU w5 b3 30 [c, k, u] := k3.chg0 c5
 have k5 : zU w5 b5 80 (y.cs ++ z.cs) := k5
 have hc5 : zk [] w w5 := c3.trans c5
 have hs5 := hs.chg0 hc5
 have hl5 := hl.chg0 hc5
 have hy5 := hy.chg0 hc5
 have hz5 := hz.chg0 hc5
 have h3s := c3.size
 have h5s := c5.size
 refine ze ?_
 refine yf (fun F wx => ∃ z : Bool, F = [(1, .slice pv al.length cv), (3, Pt b3), (5, Pt b5), (34, .bool z)] ∧ (z = false → ziz s ∧ yP s = true ∧ (∀ y ∈ al, y.row.length ≤ 1048576) ∧ (∀ y ∈ [a, d], y.row.length ≤ 1048576) ∧ al.length ≤ 20) ∧ zk [] w5 wx) ?_ ?_
 ·by_cases hF : ziz s
  ·cases hR : yP s with
   | false =>
    refine za ?_
    refine Og (zg zaW zaX rfl rfl (zy.of_blk0 k3)) rfl ?_
    refine Oc zpD rfl rfl rfl (zkH c k u s _ hs5) ?_
    rintro v18 w18 ⟨e18, c18⟩
    rw [decide_eq_true hF] at e18
    subst e18
    refine Og (zO rfl) rfl (Om rfl ?_)
    refine Oy rfl rfl (zg zaW zaX rfl rfl (zy.of_blk0 (k3.chg0 c18))) ?_
    refine Ow rfl rfl zlZ rfl rfl rfl (zez c k u s _ (hs5.chg0 c18) hF.nm) ?_
    rintro v22 w22 ⟨e22, c22⟩
    rw [hR] at e22
    subst e22
    refine Oy rfl rfl (zO rfl) ?_
    refine Of rfl (Om rfl (Oz rfl rfl (Oz rfl rfl (Oz rfl rfl (Ot rfl (Om rfl (Oz rfl rfl (Oz rfl rfl (Oz rfl rfl (Ot rfl (E4 1 3 5 34 rfl ?_)))))))))))
    exact ⟨true, rfl, (fun h => by cases h), c18.trans c22⟩
   | true =>
    by_cases hS : al.length ≤ 20 ∧ ∀ y ∈ al, zdW y
    ·by_cases hA : [a, d].length ≤ 2 ∧ ∀ y ∈ [a, d], zdW y
     ·refine za ?_
      refine Og (zg zaW zaX rfl rfl (zy.of_blk0 k3)) rfl ?_
      refine Oc zpD rfl rfl rfl (zkH c k u s _ hs5) ?_
      rintro v18 w18 ⟨e18, c18⟩
      rw [decide_eq_true hF] at e18
      subst e18
      refine Og (zO rfl) rfl (Om rfl ?_)
      refine Oy rfl rfl (zg zaW zaX rfl rfl (zy.of_blk0 (k3.chg0 c18))) ?_
      refine Ow rfl rfl zlZ rfl rfl rfl (zez c k u s _ (hs5.chg0 c18) hF.nm) ?_
      rintro v22 w22 ⟨e22, c22⟩
      rw [hR] at e22
      subst e22
      refine Oy rfl rfl (zO rfl) ?_
      refine Of rfl (Om rfl (Oj rfl rfl ?_))
      refine Ow rfl rfl zoR rfl rfl rfl (zeX _ al 20 _ ((hl5.chg0 c18).chg0 c22) (by decide)) ?_
      rintro v27 w27 ⟨e27, rfl⟩
      rw [decide_eq_true hS] at e27
      subst e27
      refine Oy rfl rfl (zO rfl) ?_
      refine Of rfl (Om rfl ?_)
      refine Oy rfl rfl (zhs zqS zd3 rfl) ?_
      refine Ow rfl rfl zoR rfl rfl rfl (zeX _ [a, d] 2 _ (zm2 ((k5.chg0 c18).chg0 c22) ((hy5.chg0 c18).chg0 c22) ((hz5.chg0 c18).chg0 c22)) (by decide)) ?_
      rintro v32 w32 ⟨e32, rfl⟩
      rw [decide_eq_true hA] at e32
      subst e32
      refine Oy rfl rfl (zO rfl) ?_
      refine Of rfl (E4 1 3 5 34 rfl ?_)
      exact ⟨false, rfl, fun _ => ⟨hF, rfl, zph hS, zph hA, hS.1⟩, c18.trans c22⟩
     refine za ?_
     refine Og (zg zaW zaX rfl rfl (zy.of_blk0 k3)) rfl ?_
     refine Oc zpD rfl rfl rfl (zkH c k u s _ hs5) ?_
     rintro v18 w18 ⟨e18, c18⟩
     rw [decide_eq_true hF] at e18
     subst e18
     refine Og (zO rfl) rfl (Om rfl ?_)
     refine Oy rfl rfl (zg zaW zaX rfl rfl (zy.of_blk0 (k3.chg0 c18))) ?_
     refine Ow rfl rfl zlZ rfl rfl rfl (zez c k u s _ (hs5.chg0 c18) hF.nm) ?_
     rintro v22 w22 ⟨e22, c22⟩
     rw [hR] at e22
     subst e22
     refine Oy rfl rfl (zO rfl) ?_
     refine Of rfl (Om rfl (Oj rfl rfl ?_))
     refine Ow rfl rfl zoR rfl rfl rfl (zeX _ al 20 _ ((hl5.chg0 c18).chg0 c22) (by decide)) ?_
     rintro v27 w27 ⟨e27, rfl⟩
     rw [decide_eq_true hS] at e27
     subst e27
     refine Oy rfl rfl (zO rfl) ?_
     refine Of rfl (Om rfl ?_)
     refine Oy rfl rfl (zhs zqS zd3 rfl) ?_
     refine Ow rfl rfl zoR rfl rfl rfl (zeX _ [a, d] 2 _ (zm2 ((k5.chg0 c18).chg0 c22) ((hy5.chg0 c18).chg0 c22) ((hz5.chg0 c18).chg0 c22)) (by decide)) ?_
     rintro v32 w32 ⟨e32, rfl⟩
     rw [decide_eq_false hA] at e32
     subst e32
     refine Oy rfl rfl (zO rfl) ?_
     refine Of rfl (E4 1 3 5 34 rfl ?_)
     exact ⟨true, rfl, (fun h => by cases h), c18.trans c22⟩
    refine za ?_
    refine Og (zg zaW zaX rfl rfl (zy.of_blk0 k3)) rfl ?_
    refine Oc zpD rfl rfl rfl (zkH c k u s _ hs5) ?_
    rintro v18 w18 ⟨e18, c18⟩
    rw [decide_eq_true hF] at e18
    subst e18
    refine Og (zO rfl) rfl (Om rfl ?_)
    refine Oy rfl rfl (zg zaW zaX rfl rfl (zy.of_blk0 (k3.chg0 c18))) ?_
    refine Ow rfl rfl zlZ rfl rfl rfl (zez c k u s _ (hs5.chg0 c18) hF.nm) ?_
    rintro v22 w22 ⟨e22, c22⟩
    rw [hR] at e22
    subst e22
    refine Oy rfl rfl (zO rfl) ?_
    refine Of rfl (Om rfl (Oj rfl rfl ?_))
    refine Ow rfl rfl zoR rfl rfl rfl (zeX _ al 20 _ ((hl5.chg0 c18).chg0 c22) (by decide)) ?_
    rintro v27 w27 ⟨e27, rfl⟩
    rw [decide_eq_false hS] at e27
    subst e27
    refine Oy rfl rfl (zO rfl) ?_
    refine Of rfl (Om rfl (Oz rfl rfl (Oz rfl rfl (Oz rfl rfl (Ot rfl (E4 1 3 5 34 rfl ?_))))))
    exact ⟨true, rfl, (fun h => by cases h), c18.trans c22⟩
  refine za ?_
  refine Og (zg zaW zaX rfl rfl (zy.of_blk0 k3)) rfl ?_
  refine Oc zpD rfl rfl rfl (zkH c k u s _ hs5) ?_
  rintro v18 w18 ⟨e18, c18⟩
  rw [decide_eq_false hF] at e18
  subst e18
  refine Og (zO rfl) rfl (Om rfl (Oz rfl rfl (Oz rfl rfl (Oz rfl rfl (Ot rfl (Om rfl (Oz rfl rfl (Oz rfl rfl (Oz rfl rfl (Ot rfl (Om rfl (Oz rfl rfl (Oz rfl rfl ?_)))))))))))))
  refine Oz rfl rfl (Ot rfl (E4 1 3 5 34 rfl ?_))
  exact ⟨true, rfl, (fun h => by cases h), c18⟩
 rintro F wx ⟨zz, rfl, hzz, hc5x⟩
 have hcx := hc5.trans hc5x
 have k3 := k3.chg0 hc5x
 have k5 := k5.chg0 hc5x
 have hsx := hs.chg0 hcx
 cases zz with
 | true =>
  refine zd rfl (Sr ?_)
  refine Oc bd9 rfl rfl rfl (zmF _ (hE.chg0 hcx)) ?_
  rintro v35 w35 ⟨rfl, c35⟩
  refine Oa rfl (E1 6 rfl (zi ?_))
  repeat first | refine tr ?_ | refine br ?_
  refine zD rfl rfl ?_
  exact ⟨rfl, hcx.trans c35⟩
 | false =>
  obtain ⟨hF, hR, hS, hA, h20⟩ := hzz rfl
  refine zb rfl (zm (Sr ?_))
  refine Og (zg zaW zaX rfl rfl (zy.of_blk0 k3)) rfl ?_
  refine Oc zu9 rfl rfl rfl (zqg c k u s _ hsx hR) ?_
  rintro v38 w38 ⟨t, own, rfl, hT, ht1, ho1, c38, hbt⟩
  refine Om rfl (Oe rfl rfl (Oe rfl rfl (Oa rfl (Oa rfl (E5 1 3 5 7 8 rfl ?_)))))
  have hc38 := hcx.trans c38
  have k3 := k3.chg0 c38
  have k5 := k5.chg0 c38
  have hsx' := hc5x.size
  have hs38 := c38.size
  have hP38 : Pl w w38 t own c k u (.slice none 0 0) s [] [] := ⟨hE.chg0 hc38, ⟨hT, hbt⟩, yx.nil (hs.chg0 hc38) hR hF.nm, hc38, fun p hp => by have := ho1 p hp; have := hcx.size; omega⟩
  refine Sr ?_
  refine Og (zg zaW zaX rfl rfl (zy.of_blk0 k3)) rfl ?_
  refine Og (z6 zxQ zcx rfl (vs := [_]) rfl (css := [_]) ⟨rfl, trivial⟩ rfl rfl (cs := [_, _, _, _]) rfl) rfl ?_
  refine zE (gn rfl) (zH zcx rfl rfl ?_)
  intro b9 w9 e9 n9 c9 k9
  refine zE (gn rfl) (zu ya rfl rfl rfl rfl k9 (by simp) (yx.one hs none 0 0) ?_)
  intro wA nA cA kA
  refine E5 1 5 7 8 9 rfl ?_
  have kA : zU wA b9 54 [c, k, u, .slice none 0 0] := kA
  have hPA := (hP38.chg0 c9).put hs k9 cA (by omega) (by omega)
  have k5 : zU wA b5 80 (y.cs ++ z.cs) := (k5.chg0 c9).chg cA (by simp; omega)
  have hb9 : w.heap.size ≤ b9 ∧ b9 ≠ 0 ∧ b5 < b9 := by omega
  obtain ⟨hb9, hb90, hb5⟩ := hb9
  refine ze (Sr (Oa rfl (E6 1 5 7 8 9 10 rfl (zq ?_))))
  refine zW [1, 5, 7, 8, 9, 10] (fun m F wx => ∃ (j : Nat) (t : Nat) (own : List Nat) (p : _) (n : Nat) (R : LV), m = al.length - j ∧ j ≤ al.length ∧ F = [(1, .slice pv al.length cv), (5, Pt b5), (7, Pt t), (8, Ii 0), (9, Pt b9), (10, Ii j)] ∧ Pl w wx t own c k u (.slice p R.length n) s R R ∧ zU wx b9 54 [c, k, u, .slice p R.length n] ∧ zU wx b5 80 (y.cs ++ z.cs)) (m := al.length - 0) ⟨0, t, own, none, 0, [], rfl, Nat.zero_le _, rfl, hPA, kA, k5⟩ ?_
  rintro m F wy ⟨j, t, own, p, n, R, rfl, hj, rfl, hP, kb, k5⟩
  refine ze (ze ?_)
  by_cases hlt : j < al.length
  ·refine za (Om rfl (Om rfl (On zfq rfl ?_)))
   refine Og (vt (zC rfl rfl) (by simp; omega)) rfl ?_
   refine Om rfl (Oj rfl rfl ?_)
   refine Ow rfl rfl ze0 rfl rfl rfl (zc3 _ _) ?_
   rintro v49 w49 ⟨rfl, rfl⟩
   refine Oy rfl rfl (vt (zw rfl rfl) (decide_eq_true (by omega))) ?_
   refine Ot rfl (E7 1 5 7 8 9 10 51 rfl (zd rfl (zm ?_)))
   have hj' : al[j]? = some al[j] := by simp [hlt]
   have hmem := List.getElem_mem hlt
   generalize al[j] = x at hj' hmem
   obtain ⟨x', bo, oo, cp, hve, hcell, hxa⟩ := (hl.chg0 hP.chg).at hj'
   cases hve
   have hd : zk [] w49 w49.drew := zk.drew [] _
   have hPd := hP.chg0 hd
   refine ze (zq ?_)
   refine zJ (fun wz => zk [] w49 wz) mix (by kernel_rfl) hd ?_
   refine Tm rfl ?_
   refine Tr (fun wz hz => zg yz ya rfl rfl (zy.of_blk0 (kb.chg0 hz))) rfl ?_
   refine Tm rfl (Tm rfl ?_)
   refine Tp (fun _ => zf zfq zd3 rfl rfl _ rfl hlt) rfl ?_
   refine Tr (fun wz hz => zg zl3 zd3 rfl rfl (fun i v hi => hz.cell (hcell i v hi))) rfl ?_
   refine Tc ztF rfl rfl rfl (zqc t own c k u _ s R R x' x _ hPd.e hPd.tab hPd.ref (hxa.chg0 hd) (hS x hmem)) ?_
   rintro v61 w61 h61
   obtain ⟨t2, own2, p2, n2, b2, rfl, hP2, -, hcA2⟩ := hPd.act h61
   refine ⟨.inr (by kernel_rfl), ?_⟩
   refine Tm rfl ?_
   refine Tp (fun _ => zP rfl rfl) rfl ?_
   refine Tp (fun _ => zP rfl rfl) rfl ?_
   refine Tp (fun _ => zP rfl rfl) rfl ?_
   refine Ta rfl ?_
   refine zas rfl (gn rfl) (zu ya rfl rfl rfl rfl ((kb.chg0 hd).tab hPd.tab.1 rfl hcA2) (by simp) (yx.one hs _ _ _) ?_)
   intro wB nB cB kB
   refine ⟨.inr (by kernel_rfl), ?_⟩
   refine zdV [1, 5, 7, 8, 9, 10] (F' := [(1, _), (5, _), (7, _), (8, _), (9, _), (10, _)]) rfl ?_
   have kb2 := (kb.chg0 hd).tab hPd.tab.1 rfl hcA2
   have hP3 := hP2.put hs kb2 cB hb9 hb90
   have k5 := ((k5.chg0 hd).tab hPd.tab.1 rfl hcA2).chg cB (by simp; omega)
   refine zl (za (Om rfl ?_))
   refine Og (zI rfl rfl (by omega)) rfl ?_
   refine Oa rfl (N6 1 5 7 8 9 10 rfl ?_)
   exact ⟨al.length - (j + 1), by omega, j + 1, t2, own2, p2, n2, _, rfl, by omega, rfl, hP3, kB, k5⟩
  refine za (Om rfl (Om rfl (On zfq rfl ?_)))
  refine Og (vf (zC rfl rfl) (by simp; omega)) rfl ?_
  refine Om rfl (Oz rfl rfl (Oz rfl rfl (Oz rfl rfl (Of rfl (E7 1 5 7 8 9 10 51 rfl (zb rfl ?_))))))
  refine zM ?_
  repeat first | refine te ?_ | refine bo rfl ?_
  refine zt _ ?_
  have hlt9 := kb.lt
  refine Sr (Om rfl ?_)
  refine Oc zs2 rfl rfl rfl (zjt t own s R _ hP.tab.1) ?_
  rintro v66 w66 ⟨t11, own11, rfl, iT, ht11, ho11, c66, hbk⟩
  refine Oa rfl (E5 5 7 8 9 11 rfl ?_)
  have hP1 := hP.chg0 c66
  have hQ1 : Pl w w66 t11 own11 c k u (.slice p R.length n) s R R := ⟨hP1.e, ⟨iT, let ⟨pm, sv, hb⟩ := hP.tab.2; hbk pm c k u sv hb⟩, hP1.ref, hP1.chg, fun q hq => Nat.le_trans hP.chg.size (ho11 q hq)⟩
  have hd1 : ∀ q ∈ own11, q ∉ own := fun q hq hq' => by have := ho11 q hq; have := hP.tab.1.lt q hq'; omega
  have kb := kb.chg0 c66
  have k5 := k5.chg0 c66
  have hs66 := c66.size
  have hy1 := hy.chg0 hP1.chg
  have hlen1 : a.row.length ≤ 1048576 := hA a (by simp)
  have hlen2 : d.row.length ≤ 1048576 := hA d (by simp)
  clear hP
  refine Sr (Om rfl ?_)
  refine Og (zg yz ya rfl rfl (zy.of_blk0 kb)) rfl ?_
  refine Og (zba zqS zd3 rfl rfl 0 rfl (by decide)) rfl ?_
  refine Og (zg zl3 zd3 rfl rfl (zji k5 rfl).1) rfl ?_
  refine Oc ztF rfl rfl rfl (zqc t own c k u _ s R R y a _ hP1.e hP1.tab hP1.ref hy1 hlen1) ?_
  rintro v72 w72 h72
  obtain ⟨t2, own2, p2, n2, q2, rfl, hP2, hq2, hcA2, hQ2, hd2⟩ := hP1.two hQ1 hd1 h72
  obtain rfl := hq2 rfl
  have kb2 := kb.tab hP1.tab.1 rfl hcA2
  have k52 := k5.tab hP1.tab.1 rfl hcA2
  have hcS := hcA2.size
  refine Om rfl (Oe rfl rfl (Oe rfl rfl (Oe rfl rfl ?_)))
  refine zE (gn rfl) (zH zcx rfl rfl ?_)
  intro b12 w12 e12 n12 c12 k12
  refine Oa rfl ?_
  refine zE (gn rfl) (zu ya rfl rfl rfl rfl k12 (by simp) (yx.one hs _ _ _) ?_)
  intro wC nC cC kC
  refine Oa rfl (E7 5 7 8 9 11 12 13 rfl ?_)
  generalize hR2 : zbo s R (zaG s R a) a = R2 at *
  have kC : zU wC b12 54 [c, k, u, .slice p2 R2.length n2] := kC
  have hP3 := (hP2.chg0 c12).put hs k12 cC (by omega) (by omega)
  have hQ3 := (hQ2.chg0 c12).put hs k12 cC (by omega) (by omega)
  have kb := (kb2.chg0 c12).chg cC (by simp; omega)
  have k5 := (k52.chg0 c12).chg cC (by simp; omega)
  have hz3 := hz.chg0 hP3.chg
  have hs12 := c12.size
  have hsC := cC.size
  refine Sr (Om rfl ?_)
  refine Og (zg yz ya rfl rfl (zy.of_blk0 kb)) rfl ?_
  refine Og (zba zqS zd3 rfl rfl 1 rfl (by decide)) rfl ?_
  refine Og (zg zl3 zd3 rfl rfl (zji k5 rfl).2) rfl ?_
  refine Oc ztF rfl rfl rfl (zqc t11 own11 c k u _ s R R z d _ hQ3.e hQ3.tab hQ3.ref hz3 hlen2) ?_
  rintro v81 w81 h81
  obtain ⟨t4, own4, p4, n4, q4, rfl, hQ4, hq4, hcA4, hP4, hd4⟩ := hQ3.two hP3 hd2 h81
  obtain rfl := hq4 rfl
  have kC4 := kC.tab hQ3.tab.1 rfl hcA4
  have hcS4 := hcA4.size
  refine Om rfl (Oe rfl rfl (Oe rfl rfl (Oe rfl rfl ?_)))
  refine zE (gn rfl) (zH zcx rfl rfl ?_)
  intro b14 w14 e14 n14 c14 k14
  refine Oa rfl ?_
  refine zE (gn rfl) (zu ya rfl rfl rfl rfl k14 (by simp) (yx.one hs _ _ _) ?_)
  intro wD nD cD kD
  refine Oa rfl (E7 7 8 11 12 13 14 15 rfl ?_)
  generalize hR4 : zbo s R (zaG s R d) d = R4 at *
  have kD : zU wD b14 54 [c, k, u, .slice p4 R4.length n4] := kD
  have hP5 := (hP4.chg0 c14).put hs k14 cD (by omega) (by omega)
  have hQ5 := (hQ4.chg0 c14).put hs k14 cD (by omega) (by omega)
  have kC := (kC4.chg0 c14).chg cD (by simp; omega)
  refine Sr ?_
  refine Og (zg yz ya rfl rfl (zy.of_blk0 kC)) rfl ?_
  refine Og (zg yz ya rfl rfl (zy.of_blk0 kD)) rfl ?_
  refine Oc zx1 rfl rfl rfl (zrD _ _ _ _ _ _ _ _ s s R2 R4 _ hP5.ref hQ5.ref) ?_
  rintro v87 w87 ⟨rfl, c87⟩
  refine Oa rfl (E8 7 8 11 12 13 14 15 16 rfl ?_)
  have hP6 := hP5.chg0 c87
  have hQ6 := hQ5.chg0 c87
  have kC := kC.chg0 c87
  have kD := kD.chg0 c87
  refine Sr (Om rfl ?_)
  refine Oc ze0 rfl rfl rfl (zc3 _ _) ?_
  rintro v89 w89 ⟨rfl, rfl⟩
  refine Og (vt (zw rfl rfl) (decide_eq_true (by omega))) rfl ?_
  refine Om rfl (Oj rfl rfl (Ot rfl (Om rfl (Oj rfl rfl (Ot rfl (Om rfl (Oj rfl rfl ?_)))))))
  refine Oy rfl rfl (zg yz ya rfl rfl (zy.of_blk0 kC)) ?_
  refine Ow rfl rfl zv7 rfl rfl rfl (zvm t2 own2 c k u _ s R2 _ _ _ hP6.tab.1 hP6.ref) ?_
  rintro v100 w100 ⟨rfl, c100⟩
  refine Ot rfl (Om rfl (Oj rfl rfl ?_))
  refine Oy rfl rfl (zg yz ya rfl rfl (zy.of_blk0 (kD.chg0 c100))) ?_
  refine Ow rfl rfl zv7 rfl rfl rfl (zvm t4 own4 c k u _ s R4 _ _ _ (hQ6.chg0 c100).tab.1 (hQ6.chg0 c100).ref) ?_
  rintro v105 w105 ⟨rfl, c105⟩
  refine Ot rfl (Om rfl (Oj rfl rfl (Oj rfl rfl ?_)))
  refine Ow rfl rfl ztc rfl rfl rfl (zoy t2 t4 own2 own4 s s R2 R4 _ ((hP6.chg0 c100).chg0 c105).tab.1 ((hQ6.chg0 c100).chg0 c105).tab.1) ?_
  rintro v110 w110 ⟨rfl, c110⟩
  refine Oj rfl rfl ?_
  refine Oy rfl rfl (vt (zgK bo4 rfl rfl) (by simp)) ?_
  refine Ot rfl (Om rfl (Oj rfl rfl (Oj rfl rfl ?_)))
  refine Ow rfl rfl ztc rfl rfl rfl (zoy t4 t2 own4 own2 s s R4 R2 _ (((hQ6.chg0 c100).chg0 c105).chg0 c110).tab.1 (((hP6.chg0 c100).chg0 c105).chg0 c110).tab.1) ?_
  rintro v117 w117 ⟨rfl, c117⟩
  refine Oj rfl rfl ?_
  refine Oy rfl rfl (vt (zgK bo4 rfl rfl) (by rw [znQ R2 R4]; simp)) ?_
  refine Ot rfl (Om rfl (Oj rfl rfl ?_))
  refine Ow rfl rfl ztc rfl rfl rfl (zrE t2 _) ?_
  rintro v123 w123 ⟨rfl, c123⟩
  refine Oy rfl rfl (zO rfl) ?_
  refine Ot rfl (Om rfl ?_)
  refine Ow rfl rfl bd9 rfl rfl rfl (zmF _ (((((hP6.chg0 c100).chg0 c105).chg0 c110).chg0 c117).chg0 c123).e) ?_
  rintro v127 w127 ⟨rfl, c127⟩
  refine Ot rfl (Oa rfl (E1 6 rfl (zi ?_)))
  refine zD rfl rfl ?_
  exact ⟨rfl, (((((hP6.chg0 c100).chg0 c105).chg0 c110).chg0 c117).chg0 c123).chg.trans c127⟩
end Go.Wk
