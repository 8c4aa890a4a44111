/- joined texts -/
import Derived.Test.YtcnkdoecfljnlaaGreatDoorY11
set_option linter.all false
namespace Go.Wk
open Go.Proofs
set_option maxRecDepth 10000
theorem zqm (c k u v : Value) (s : yo) (l : List zQ) (w : World) (hs : yO w c k u s) (hl : zK w v l) (hn : ∀ c ∈ s.cols, c.n.size ≤ 1048576) : z9 TP 21 #[.agg #[c, k, u], v] w fun r w' => r = Ii (yV s l) ∧ zk [] w w' := by
 obtain ⟨pc, dc, rfl, hdc⟩ := z0.val hs.cols
 obtain ⟨pv, cv, rfl, hcv⟩ := z0.val hl
 have hml := z0.max hl
 simp only [maxLen] at hml
 refine A2 Tryz.func21 rfl rfl ?_
 refine Sr ?_
 refine Ob rfl rfl ?_
 intro b2 w2 e2 n2 c2 k2
 refine Oa rfl (E2 1 2 rfl (ze (ze ?_)))
 cases hr : yP s with
 | false =>
  refine za ?_
  refine Og (zg zaW zaX rfl rfl (zy.of_blk0 k2)) rfl ?_
  refine Oc zlZ rfl rfl rfl (zez _ _ _ s _ (hs.chg0 c2) hn) ?_
  rintro v8 w8 ⟨h8, c8⟩
  rw [hr] at h8
  subst h8
  refine Og (zO rfl) rfl (E3 1 2 9 rfl (zd rfl (Sr (Oa rfl (E1 4 rfl (zi ?_))))))
  repeat first | refine tr ?_ | refine br ?_
  refine zD rfl rfl ?_
  exact ⟨by simp [yV, hr], c2.trans c8⟩
 | true =>
 refine za ?_
 refine Og (zg zaW zaX rfl rfl (zy.of_blk0 k2)) rfl ?_
 refine Oc zlZ rfl rfl rfl (zez _ _ _ s _ (hs.chg0 c2) hn) ?_
 rintro v8 w8 ⟨h8, c8⟩
 rw [hr] at h8
 subst h8
 refine Og (zO rfl) rfl (E3 1 2 9 rfl (zb rfl (zm ?_)))
 have k2 := k2.chg0 c8
 have hc8 := c2.trans c8
 refine ze (ze ?_)
 by_cases hlen : l.length ≠ s.cols.length
 ·refine za (Om rfl (On zao rfl (Od yn rfl ?_)))
  refine Ol zav rfl (k2.cell' (i := 0) rfl) ?_
  refine On zaj rfl ?_
  refine Og (vt (zS rfl rfl) (by simp; omega)) rfl ?_
  refine E3 1 2 15 rfl (zd rfl (Sr (Oa rfl (E1 4 rfl (zi ?_)))))
  repeat first | refine tr ?_ | refine br ?_
  refine zD rfl rfl ?_
  exact ⟨by simp [yV, hr, hlen], hc8⟩
 have hlen : l.length = s.cols.length := by omega
 have hrow : yV s l = zaJ s.cols l := by simp [yV, hr, hlen]
 refine za (Om rfl (On zao rfl (Od yn rfl ?_)))
 refine Ol zav rfl (k2.cell' (i := 0) rfl) ?_
 refine On zaj rfl ?_
 refine Og (vf (zS rfl rfl) (by simp; omega)) rfl ?_
 refine E3 1 2 15 rfl (zb rfl (zm ?_))
 refine yf (fun F wx => (∃ f5 f19, F = [(1, .slice pv l.length cv), (2, Pt b2), (5, f5), (19, f19)]) ∧ zk [] w8 wx ∧ (∀ (i : Nat) c x, i < l.length → s.cols[i]? = some c → l[i]? = some x → yZ c x = 0)) ?_ ?_
 ·refine Sr (Oa rfl (E3 1 2 5 rfl (zq ?_)))
  refine zW [1, 2, 5] (fun m F wx => ∃ j : Nat, m = l.length - j ∧ j ≤ l.length ∧ F = [(1, .slice pv l.length cv), (2, Pt b2), (5, Ii j)] ∧ zk [] w8 wx ∧ (∀ (i : Nat) c x, i < j → s.cols[i]? = some c → l[i]? = some x → yZ c x = 0)) (m := l.length - 0) ⟨0, rfl, Nat.zero_le _, rfl, zk.refl _ _, by omega⟩ ?_
  rintro m F wx ⟨j, rfl, hj, rfl, hcx, hall⟩
  have k2x := k2.chg0 hcx
  refine ze (ze ?_)
  by_cases hlt : j < l.length
  ·refine za (Om rfl (Om rfl (On zao rfl ?_)))
   refine Og (vt (zC rfl rfl) (by simp; omega)) rfl ?_
   refine E4 1 2 5 19 rfl (zd rfl (zm ?_))
   have hlc : j < s.cols.length := by omega
   have hx : l[j]? = some l[j] := by simp [hlt]
   have hy : s.cols[j]? = some s.cols[j] := by simp [hlc]
   generalize l[j] = x at hx
   generalize s.cols[j] = y at hy
   obtain ⟨b, off, cap, hve, -⟩ := z0.at zbq hl hx
   obtain ⟨bc, oc, cc, hve2, -⟩ := z0.at zap hs.cols hy
   cases hve; cases hve2
   have hce : ∀ {wz : World}, zk [] wx wz → wz.cell? ⟨b2, 0, none⟩ = some (.slice (some ⟨bc, oc, none⟩) s.cols.length dc) ∧ zy wz bc (oc + j * 4) y.cs ∧ zy wz b (off + j * 4) x.cs := fun hc => by
    obtain ⟨b1', o1, c1', he, h1⟩ := z0.at zbq (z0.chg0 hl ((hc8.trans hcx).trans hc)) hx
    obtain ⟨b2, o2, c2, he2, h2⟩ := z0.at zap (z0.chg0 hs.cols ((hc8.trans hcx).trans hc)) hy
    cases he; cases he2
    exact ⟨(k2x.chg0 hc).cell' (i := 0) rfl, h2, h1⟩
   refine ze (zq (ze ?_))
   refine zJ (fun wz => zk [] wx wz) mix (by kernel_rfl) (zk.drew [] wx) ?_
   refine Td yn rfl ?_
   refine Tr (fun wz hz => zh zav rfl (hce hz).1) rfl ?_
   refine Tm rfl ?_
   refine Tp (fun _ => zf zaj zaT rfl rfl _ rfl hlc) rfl ?_
   refine Tr (fun wz hz => zg zdX zaT rfl rfl (hce hz).2.1) rfl ?_
   refine Tm rfl (Tm rfl ?_)
   refine Tp (fun _ => zf zao y6 rfl rfl _ rfl hlt) rfl ?_
   refine Tr (fun wz hz => zg zbp y6 rfl rfl (hce hz).2.2) rfl ?_
   refine Tc zxP rfl rfl rfl (zun y x _ (hn y (List.mem_of_getElem? hy))) ?_
   rintro v31 w31 ⟨rfl, c31⟩
   refine ⟨.inl ((zk.drew [] _).trans c31), ?_⟩
   refine Ta rfl (D4 1 2 5 6 rfl ?_)
   have hcx31 := (hcx.trans (zk.drew [] _)).trans c31
   refine ze ?_
   by_cases hf : yZ y x ≠ 0
   ·refine za (Om rfl ?_)
    refine Og (vt (zS rfl rfl) (by simp [hf])) rfl ?_
    refine E5 1 2 5 6 33 rfl (zd rfl (Sr (Om rfl (Oa rfl (E1 4 rfl (zi ?_))))))
    repeat first | refine tr ?_ | refine br ?_
    refine zD rfl rfl ?_
    exact ⟨by rw [hrow, zgy hy hx hf hall], hc8.trans hcx31⟩
   have hf : yZ y x = 0 := by omega
   refine za (Om rfl ?_)
   refine Og (vf (zS rfl rfl) (by simp [hf])) rfl ?_
   refine E5 1 2 5 6 33 rfl (zb rfl (ye (zl (za (Om rfl ?_)))))
   refine Og (zI rfl rfl (by omega)) rfl ?_
   refine Oa rfl (N3 1 2 5 rfl ?_)
   refine ⟨l.length - (j + 1), by omega, j + 1, rfl, by omega, rfl, hcx31, fun i c' x' hi h1 h2 => ?_⟩
   rcases Nat.lt_or_ge i j with h | h
   ·exact hall i c' x' h h1 h2
   have : i = j := by omega
   subst this
   rw [hy] at h1; rw [hx] at h2
   cases h1; cases h2; exact hf
  refine za (Om rfl (Om rfl (On zao rfl ?_)))
  refine Og (vf (zC rfl rfl) (by simp; omega)) rfl ?_
  refine E4 1 2 5 19 rfl (zb rfl ?_)
  refine zM ?_
  repeat first | refine te ?_ | refine bo rfl ?_
  refine zt _ ?_
  exact ⟨⟨_, _, rfl⟩, hcx, fun i c x hi => hall i c x (by omega)⟩
 rintro F wx ⟨⟨f5, f19, rfl⟩, hcx, hall⟩
 refine Sr (Oa rfl (E1 4 rfl (zi ?_)))
 refine zD rfl rfl ?_
 refine ⟨?_, hc8.trans hcx⟩
 rw [hrow, zgH fun i c x h1 h2 => hall i c x (List.getElem?_eq_some_iff.1 h2).1 h1 h2]
theorem zoZ (v vi : Value) (row : List zQ) (st : List Int) (w : World) (hv : zK w v row) (hi : yC w vi st) (hr : ∀ i ∈ st, 0 ≤ i ∧ i < row.length) (hn' : st.length ≤ 1048576) :
 z9 TP 30 #[v, vi] w fun r w' => ∃ u, r = .tuple #[u, Ii 0] ∧ zbd w' u (zZ row st) ∧ (∀ b ∈ zp u, w.heap.size ≤ b) ∧ zk [] w w' := by
 obtain ⟨pi, ci, rfl, hci⟩ := z0.val hi
 obtain ⟨pv, cv, rfl, hcv'⟩ := z0.val hv
 refine A2 Tryz.func30 rfl rfl ?_
 refine Sr (Oa rfl (Oa rfl (E2 0 1 rfl (Sr (Oa rfl (E3 0 1 6 rfl ?_))))))
 refine yf (fun F wx => ∃ u f7 f11, F = [(0, .slice pv row.length cv), (1, .slice pi st.length ci), (6, u), (7, f7), (11, f11)] ∧ yw wx 40 4 zQ.cs u (zZ row st) ∧ (∀ b ∈ zp u, w.heap.size ≤ b) ∧ zk [] w wx) ?_ ?_
 ·refine Sr (Oa rfl (E4 0 1 6 7 rfl (zq ?_)))
  refine zW [0, 1, 6, 7] (fun m F wx => ∃ (j : Nat) (u : Value), m = st.length - j ∧ j ≤ st.length ∧ F = [(0, .slice pv row.length cv), (1, .slice pi st.length ci), (6, u), (7, Ii j)] ∧ yw wx 40 4 zQ.cs u (zZ row (st.take j)) ∧ (∀ b ∈ zp u, w.heap.size ≤ b) ∧ zk [] w wx) (m := st.length - 0) ⟨0, _, rfl, Nat.zero_le _, rfl, yw.nil _ _ _ _, by simp [zp], zk.refl _ _⟩ ?_
  rintro m F wx ⟨j, u, rfl, hj, rfl, hu, hfu, hcx⟩
  have hvx := z0.chg0 hv hcx
  refine ze (ze ?_)
  by_cases hlt : j < st.length
  ·refine za (Om rfl (Om rfl (On zab rfl ?_)))
   refine Og (vt (zC rfl rfl) (by simp; omega)) rfl ?_
   refine E5 0 1 6 7 11 rfl (zd rfl (zm ?_))
   have hx : st[j]? = some st[j] := by simp [hlt]
   generalize st[j] = i at hx
   have hri := hr i (List.mem_of_getElem? hx)
   obtain ⟨i, rfl⟩ : ∃ k : Nat, i = (k : Int) := ⟨i.toNat, by omega⟩
   obtain ⟨bi, oi, cap, hve, hcell⟩ := yC.cell (z0.chg0 hi hcx) hx
   cases hve
   have hir : i < row.length := by omega
   have hxv : row[i]? = some row[i] := by simp [hir]
   have hat : zcv row (i : Int) = row[i] := by unfold zcv; rw [Int.toNat_natCast, hxv]; rfl
   generalize row[i] = x at hxv hat
   obtain ⟨bv, ov, cv', hve, hcv⟩ := z0.at zbq hvx hxv
   cases hve
   refine ze (zq (ze (Sr (Om rfl (Om rfl ?_)))))
   refine Og (zf zab sz3 rfl rfl _ rfl hlt) rfl ?_
   refine Ol ag3 rfl hcell ?_
   refine Og (vf (zC rfl rfl) (by simp)) rfl ?_
   refine Om rfl (Oj rfl rfl (Oj rfl rfl ?_))
   refine Oy rfl rfl (zf zab sz3 rfl rfl _ rfl hlt) ?_
   refine Oy rfl rfl (zh ag3 rfl hcell) ?_
   refine Oj rfl rfl ?_
   refine Oy rfl rfl (yc zao rfl) ?_
   refine Oy rfl rfl (vf (yp rfl rfl) (by simp; omega)) ?_
   refine Of rfl (E5 0 1 6 7 27 rfl (zb rfl (zm ?_)))
   have hl : (zZ row (st.take j)).length = j := by rw [zeZ, List.length_take]; omega
   refine za (Om rfl (Om rfl (Om rfl (Om rfl ?_))))
   refine Og (zf zab sz3 rfl rfl _ rfl hlt) rfl ?_
   refine Ol ag3 rfl hcell ?_
   refine Og (zf zao y6 rfl rfl _ rfl hir) rfl ?_
   refine Og (zg zbp y6 rfl rfl hcv) rfl ?_
   refine zE (gn rfl) (zB zhg rfl (vs := [_]) rfl (css := [_]) ⟨rfl, trivial⟩ rfl rfl (cs := [_, _, _, _]) rfl rfl ?_)
   intro b36 w36 e36 n36 c36 k36
   refine zE (gn rfl) (yt zhg zao rfl rfl (yw.chg0 hu c36) (zv.of_blk (n := 1) k36 rfl (by simp [maxLen]) (zQ.one x)) (by rw [hl]; simp only [maxLen]; omega) (by rw [hl]; omega) rfl ?_)
   intro v37 w37 i37 c37 o37 z37
   refine Oa rfl (N4 0 1 6 7 rfl (zl (za (Om rfl ?_))))
   refine Og (zI rfl rfl (by omega)) rfl ?_
   refine Oa rfl (N4 0 1 6 7 rfl ?_)
   have hsz := hcx.size
   have hs36 := c36.size
   refine ⟨st.length - (j + 1), by omega, j + 1, v37, rfl, by omega, rfl, ?_, yB o37 hfu (by omega), ?_⟩
   ·rw [ziW hx, hat]
    exact z0.push i37 rfl rfl
   exact (hcx.trans c36).own c37 hfu
  refine za (Om rfl (Om rfl (On zab rfl ?_)))
  refine Og (vf (zC rfl rfl) (by simp; omega)) rfl ?_
  refine E5 0 1 6 7 11 rfl (zb rfl ?_)
  refine zM ?_
  repeat first | refine te ?_ | refine bo rfl ?_
  refine zt _ ?_
  rw [List.take_of_length_le (by omega)] at hu
  exact ⟨u, _, _, rfl, hu, hfu, hcx⟩
 rintro F wx ⟨u, f7, f11, rfl, hu, hfu, hcx⟩
 refine Sr (Om rfl (Oa rfl (Oa rfl (E2 4 5 rfl (zi ?_)))))
 refine zaV rfl rfl rfl ?_
 exact ⟨u, rfl, hu, hfu, hcx⟩
theorem zo4 (c k u : Value) (s : yo) (w : World) (hs : yO w c k u s) (hr : yP s = true) (hn : ∀ c ∈ s.cols, c.n.size ≤ 1048576) : z9 TP 28 #[.agg #[c, k, u]] w fun r w' => zbt w' r (zN s) ∧ (∀ b ∈ zp r, w.heap.size ≤ b) ∧ zk [] w w' := by
 have h3 := (zX hr).2.1
 obtain ⟨pk, dk, rfl, hdk⟩ := z0.val hs.key
 obtain ⟨pu, du, rfl, hdu⟩ := zaI.val hs.uq
 refine A1 Tryz.func28 rfl rfl ?_
 refine Sr ?_
 refine Ob rfl rfl ?_
 intro b1 w1 e1 n1 c1 k1
 refine Oa rfl (E1 1 rfl (ze (Sr ?_)))
 refine Og (zg zaW zaX rfl rfl (zy.of_blk0 k1)) rfl ?_
 refine Oc zlZ rfl rfl rfl (zez _ _ _ s _ (hs.chg0 c1) hn) ?_
 rintro v4 w4 ⟨h4, c4⟩
 rw [hr] at h4
 subst h4
 refine Og (zO rfl) rfl (E2 1 5 rfl (zb rfl (zm ?_)))
 have k1 := k1.chg0 c4
 have hs4 := (hs.chg0 c1).chg0 c4
 obtain ⟨vu, ou, lu⟩ := id hs4.uq
 have hvu := ou.1.len_xs
 refine Sr (Od zaK rfl ?_)
 refine Ol za3 rfl (k1.cell' (i := 1) rfl) ?_
 refine zE (gn rfl) (zB znv rfl (vs := [_]) rfl (css := [_]) ⟨rfl, trivial⟩ rfl rfl (cs := [_]) rfl rfl ?_)
 intro b8 w8 e8 n8 c8 k8
 refine Od y8 rfl ?_
 refine Ol zbM rfl ((k1.chg0 c8).cell' (i := 2) rfl) ?_
 refine zE (gn rfl) (zcQ znv zaq rfl rfl (zv.of_blk (n := 1) k8 rfl (by simp [maxLen]) (by intro y hy; simp at hy; subst hy; rfl)) (Rd.chg0 ou.1 c8) (by simp only [maxLen]; omega) (by omega) rfl ?_)
 intro v11 w11 i11 c11 o11 z11
 refine Oa rfl (E1 2 rfl (zi ?_))
 refine zD rfl rfl ?_
 have hsz := c1.size
 have hsz4 := c4.size
 have hs8 := c8.size
 have hcw : zk [] w w11 := ((c1.trans c4).trans c8).own c11 (by intro y hy; simp [zp] at hy; omega)
 have hs11 := hs.chg0 hcw
 have hc411 : zk [] w4 w11 := c8.own c11 (by intro y hy; simp [zp] at hy; omega)
 have hlow : zcc w11 3 1 ics vu s.uq := lu.chg0 hc411
 refine ⟨⟨_, ?_, (show zcc w11 3 1 ics (.slice pk s.key.length dk :: vu) (s.key :: s.uq) from ⟨hs11.key, hlow⟩)⟩, ?_, hcw⟩
 ·have e : (zN s).length = 1 + s.uq.length := by simp [zN]; omega
  rw [e]; exact i11.toOu
 rcases o11 with o11 | ⟨b, o11, hb⟩
 ·rw [o11]; intro x hx; simp [zp] at hx; omega
 rw [o11]; intro x hx; simp at hx; omega
theorem zjJ (v u : Value) (l m : List Int) (w : World) (hv : yC w v l) (hu : yC w u m) : z9 TP 71 #[v, u] w fun r w' => r = .bool (decide (l = m)) ∧ zk [] w w' := by
 obtain ⟨pv, cv, rfl, hcv⟩ := z0.val hv
 obtain ⟨pu, cu, rfl, hcu⟩ := z0.val hu
 have hml := z0.max hv
 simp only [maxLen] at hml
 refine A2 Tryz.func71 rfl rfl ?_
 refine Sr (Oa rfl (E2 0 1 rfl (ze (ze ?_))))
 by_cases he : l.length ≠ m.length
 ·refine za (Om rfl (On zab rfl (Om rfl (On zab rfl ?_))))
  refine Og (vt (zS rfl rfl) (by simp; omega)) rfl ?_
  refine E3 0 1 10 rfl (zd rfl (Sr (Oa rfl (E1 4 rfl (zi ?_)))))
  repeat first | refine tr ?_ | refine br ?_
  refine zD rfl rfl ?_
  exact ⟨by rw [decide_eq_false (fun h => he (by rw [h]))], zk.refl _ _⟩
 have he : l.length = m.length := by omega
 refine za (Om rfl (On zab rfl (Om rfl (On zab rfl ?_))))
 refine Og (vf (zS rfl rfl) (by simp; omega)) rfl ?_
 refine E3 0 1 10 rfl (zb rfl (zm ?_))
 refine yf (fun F wx => (∃ f5 f14, F = [(0, .slice pv l.length cv), (1, .slice pu m.length cu), (5, f5), (14, f14)]) ∧ zk [] w wx ∧ l = m) ?_ ?_
 ·refine Sr (Oa rfl (E3 0 1 5 rfl (zq ?_)))
  refine zW [0, 1, 5] (fun k F wx => ∃ j : Nat, k = l.length - j ∧ j ≤ l.length ∧ F = [(0, .slice pv l.length cv), (1, .slice pu m.length cu), (5, Ii j)] ∧ zk [] w wx ∧ l.take j = m.take j) (m := l.length - 0) ⟨0, rfl, Nat.zero_le _, rfl, zk.refl _ _, by simp⟩ ?_
  rintro k F wx ⟨j, rfl, hj, rfl, hcx, htk⟩
  refine ze (ze ?_)
  by_cases hlt : j < l.length
  ·refine za (Om rfl (Om rfl (On zab rfl ?_)))
   refine Og (vt (zC rfl rfl) (by simp; omega)) rfl ?_
   refine E4 0 1 5 14 rfl (zd rfl (zm ?_))
   have hlm : j < m.length := by omega
   have hx : l[j]? = some l[j] := by simp [hlt]
   have hy : m[j]? = some m[j] := by simp [hlm]
   generalize l[j] = x at hx
   generalize m[j] = y at hy
   obtain ⟨b, off, cap, hve, -⟩ := yC.cell hv hx
   obtain ⟨bc, oc, cc, hve2, -⟩ := yC.cell hu hy
   cases hve; cases hve2
   have hce : ∀ {wz : World}, zk [] wx wz → wz.cell? ⟨b, off + j * 1, none⟩ = some (Ii x) ∧ wz.cell? ⟨bc, oc + j * 1, none⟩ = some (Ii y) := fun hc => by
    obtain ⟨b1', o1, c1', he, h1⟩ := yC.cell (z0.chg0 hv (hcx.trans hc)) hx
    obtain ⟨b2, o2, c2, he2, h2⟩ := yC.cell (z0.chg0 hu (hcx.trans hc)) hy
    cases he; cases he2
    exact ⟨h1, h2⟩
   refine ze (zq (ze ?_))
   by_cases hxy : x ≠ y
   ·refine zJ (fun wz => zk [] wx wz) mix (by kernel_rfl) (zk.drew [] wx) ?_
    refine Tm rfl (Tm rfl ?_)
    refine Tp (fun _ => zf zab sz3 rfl rfl _ rfl hlt) rfl ?_
    refine Tr (fun wz hz => zh ag3 rfl (hce hz).1) rfl ?_
    refine Tm rfl (Tm rfl ?_)
    refine Tp (fun _ => zf zab sz3 rfl rfl _ rfl hlm) rfl ?_
    refine Tr (fun wz hz => zh ag3 rfl (hce hz).2) rfl ?_
    refine Tp (fun _ => vt (zS rfl rfl) (by simp [hxy])) rfl ?_
    refine D4 0 1 5 25 rfl (zd rfl (Sr (Oa rfl (E1 4 rfl (zi ?_)))))
    repeat first | refine tr ?_ | refine br ?_
    refine zD rfl rfl ?_
    refine ⟨?_, hcx.trans (zk.drew [] _)⟩
    rw [decide_eq_false]
    rintro rfl
    rw [hx] at hy
    exact hxy (Option.some.inj hy)
   have hxy : x = y := by omega
   refine zJ (fun wz => zk [] wx wz) mix (by kernel_rfl) (zk.drew [] wx) ?_
   refine Tm rfl (Tm rfl ?_)
   refine Tp (fun _ => zf zab sz3 rfl rfl _ rfl hlt) rfl ?_
   refine Tr (fun wz hz => zh ag3 rfl (hce hz).1) rfl ?_
   refine Tm rfl (Tm rfl ?_)
   refine Tp (fun _ => zf zab sz3 rfl rfl _ rfl hlm) rfl ?_
   refine Tr (fun wz hz => zh ag3 rfl (hce hz).2) rfl ?_
   refine Tp (fun _ => vf (zS rfl rfl) (by simp [hxy])) rfl ?_
   refine D4 0 1 5 25 rfl (zb rfl (ye (zl (za (Om rfl ?_)))))
   refine Og (zI rfl rfl (by omega)) rfl ?_
   refine Oa rfl (N3 0 1 5 rfl ?_)
   refine ⟨l.length - (j + 1), by omega, j + 1, rfl, by omega, rfl, hcx.trans (zk.drew [] _), ?_⟩
   rw [yj hx, yj hy, htk, hxy]
  refine za (Om rfl (Om rfl (On zab rfl ?_)))
  refine Og (vf (zC rfl rfl) (by simp; omega)) rfl ?_
  refine E4 0 1 5 14 rfl (zb rfl ?_)
  refine zM ?_
  repeat first | refine te ?_ | refine bo rfl ?_
  refine zt _ ?_
  rw [List.take_of_length_le (by omega), List.take_of_length_le (by omega)] at htk
  exact ⟨⟨_, _, rfl⟩, hcx, htk⟩
 rintro F wx ⟨⟨f5, f14, rfl⟩, hcx, heq⟩
 refine Sr (Oa rfl (E1 4 rfl (zi ?_)))
 refine zD rfl rfl ?_
 exact ⟨by rw [decide_eq_true heq], hcx⟩
theorem zm7 (c k u c' k' u' : Value) (s t : yo) (w : World) (hs : yO w c k u s) (ht : yO w c' k' u' t) : z9 TP 33 #[.agg #[c, k, u], .agg #[c', k', u']] w fun r w' => r = .bool (decide (s = t)) ∧ zk [] w w' := by
 obtain ⟨pc, dc, rfl, hdc⟩ := z0.val hs.cols
 obtain ⟨pk, dk, rfl, hdk⟩ := z0.val hs.key
 obtain ⟨pu, du, rfl, hdu⟩ := zaI.val hs.uq
 obtain ⟨pc', dc', rfl, hdc'⟩ := z0.val ht.cols
 obtain ⟨pk', dk', rfl, hdk'⟩ := z0.val ht.key
 obtain ⟨pu', du', rfl, hdu'⟩ := zaI.val ht.uq
 have hmc := z0.max hs.cols
 have hmu := zaI.max hs.uq
 simp only [maxLen] at hmc hmu
 refine A2 Tryz.func33 rfl rfl ?_
 refine Sr ?_
 refine Ob rfl rfl ?_
 intro b2 w2 e2 n2 c2 k2
 refine Ob rfl rfl ?_
 intro b3 w3 e3 n3 c3 k3
 refine Oa rfl (E2 2 3 rfl ?_)
 have k2 := k2.chg0 c3
 have hc3 : zk [] w w3 := c2.trans c3
 have hs3 := hs.chg0 hc3
 have ht3 := ht.chg0 hc3
 refine ze (ze ?_)
 by_cases h1 : s.cols.length ≠ t.cols.length
 ·refine za (Od yn rfl ?_)
  refine Ol zav rfl (k2.cell' (i := 0) rfl) ?_
  refine On zaj rfl (Od yn rfl ?_)
  refine Ol zav rfl (k3.cell' (i := 0) rfl) ?_
  refine On zaj rfl ?_
  refine Og (vt (zS rfl rfl) (by simp; omega)) rfl ?_
  refine Om rfl (Oz rfl rfl (Oz rfl rfl (Oz rfl rfl (Oz rfl rfl (Oz rfl rfl (Oz rfl rfl (Oz rfl rfl (Ot rfl (Om rfl (Oz rfl rfl (Oz rfl rfl (Oz rfl rfl (Oz rfl rfl ?_)))))))))))))
  refine Oz rfl rfl (Oz rfl rfl (Ot rfl (E3 2 3 30 rfl (zd rfl (Sr (Oa rfl (E1 4 rfl (zi ?_))))))))
  repeat first | refine tr ?_ | refine br ?_
  refine zD rfl rfl ?_
  exact ⟨by rw [decide_eq_false (fun h => h1 (by rw [h]))], hc3⟩
 by_cases h2 : s.uq.length ≠ t.uq.length
 ·refine za (Od yn rfl ?_)
  refine Ol zav rfl (k2.cell' (i := 0) rfl) ?_
  refine On zaj rfl (Od yn rfl ?_)
  refine Ol zav rfl (k3.cell' (i := 0) rfl) ?_
  refine On zaj rfl ?_
  refine Og (vf (zS rfl rfl) (by simp; omega)) rfl ?_
  refine Om rfl ?_
  refine Oy rfl rfl (zj y8 rfl) ?_
  refine Oy rfl rfl (zh zbM rfl (k2.cell' (i := 2) rfl)) ?_
  refine Oy rfl rfl (yc zaq rfl) ?_
  refine Oy rfl rfl (zj y8 rfl) ?_
  refine Oy rfl rfl (zh zbM rfl (k3.cell' (i := 2) rfl)) ?_
  refine Oy rfl rfl (yc zaq rfl) ?_
  refine Oy rfl rfl (vt (zS rfl rfl) (by simp; omega)) ?_
  refine Of rfl (Om rfl (Oz rfl rfl (Oz rfl rfl (Oz rfl rfl (Oz rfl rfl (Oz rfl rfl (Oz rfl rfl (Ot rfl (E3 2 3 30 rfl (zd rfl (Sr (Oa rfl ?_))))))))))))
  refine E1 4 rfl (zi ?_)
  repeat first | refine tr ?_ | refine br ?_
  refine zD rfl rfl ?_
  exact ⟨by rw [decide_eq_false (fun h => h2 (by rw [h]))], hc3⟩
 by_cases h3 : s.key = t.key
 case neg =>
  refine za (Od yn rfl ?_)
  refine Ol zav rfl (k2.cell' (i := 0) rfl) ?_
  refine On zaj rfl (Od yn rfl ?_)
  refine Ol zav rfl (k3.cell' (i := 0) rfl) ?_
  refine On zaj rfl ?_
  refine Og (vf (zS rfl rfl) (by simp; omega)) rfl ?_
  refine Om rfl ?_
  refine Oy rfl rfl (zj y8 rfl) ?_
  refine Oy rfl rfl (zh zbM rfl (k2.cell' (i := 2) rfl)) ?_
  refine Oy rfl rfl (yc zaq rfl) ?_
  refine Oy rfl rfl (zj y8 rfl) ?_
  refine Oy rfl rfl (zh zbM rfl (k3.cell' (i := 2) rfl)) ?_
  refine Oy rfl rfl (yc zaq rfl) ?_
  refine Oy rfl rfl (vf (zS rfl rfl) (by simp; omega)) ?_
  refine Of rfl (Om rfl ?_)
  refine Oy rfl rfl (zj zaK rfl) ?_
  refine Oy rfl rfl (zh za3 rfl (k2.cell' (i := 1) rfl)) ?_
  refine Oy rfl rfl (zj zaK rfl) ?_
  refine Oy rfl rfl (zh za3 rfl (k3.cell' (i := 1) rfl)) ?_
  refine Ow rfl rfl zrN rfl rfl rfl (zjJ _ _ _ _ _ hs3.key ht3.key) ?_
  rintro v28 w28 ⟨h28, c28⟩
  rw [decide_eq_false h3] at h28
  subst h28
  refine Oy rfl rfl (zO rfl) ?_
  refine Of rfl (E3 2 3 30 rfl (zd rfl (Sr (Oa rfl (E1 4 rfl (zi ?_))))))
  repeat first | refine tr ?_ | refine br ?_
  refine zD rfl rfl ?_
  exact ⟨by rw [decide_eq_false (fun h => h3 (by rw [h]))], hc3.trans c28⟩
 refine za (Od yn rfl ?_)
 refine Ol zav rfl (k2.cell' (i := 0) rfl) ?_
 refine On zaj rfl (Od yn rfl ?_)
 refine Ol zav rfl (k3.cell' (i := 0) rfl) ?_
 refine On zaj rfl ?_
 refine Og (vf (zS rfl rfl) (by simp; omega)) rfl ?_
 refine Om rfl ?_
 refine Oy rfl rfl (zj y8 rfl) ?_
 refine Oy rfl rfl (zh zbM rfl (k2.cell' (i := 2) rfl)) ?_
 refine Oy rfl rfl (yc zaq rfl) ?_
 refine Oy rfl rfl (zj y8 rfl) ?_
 refine Oy rfl rfl (zh zbM rfl (k3.cell' (i := 2) rfl)) ?_
 refine Oy rfl rfl (yc zaq rfl) ?_
 refine Oy rfl rfl (vf (zS rfl rfl) (by simp; omega)) ?_
 refine Of rfl (Om rfl ?_)
 refine Oy rfl rfl (zj zaK rfl) ?_
 refine Oy rfl rfl (zh za3 rfl (k2.cell' (i := 1) rfl)) ?_
 refine Oy rfl rfl (zj zaK rfl) ?_
 refine Oy rfl rfl (zh za3 rfl (k3.cell' (i := 1) rfl)) ?_
 refine Ow rfl rfl zrN rfl rfl rfl (zjJ _ _ _ _ _ hs3.key ht3.key) ?_
 rintro v28 w28 ⟨h28, c28⟩
 rw [decide_eq_true h3] at h28
 subst h28
 refine Oy rfl rfl (zO rfl) ?_
 refine Of rfl (E3 2 3 30 rfl (zb rfl (zm ?_)))
 have k2 := k2.chg0 c28
 have k3 := k3.chg0 c28
 have hc28 := hc3.trans c28
 have hlc : s.cols.length = t.cols.length := by omega
 have hlu : s.uq.length = t.uq.length := by omega
 refine yf (fun F wx => (∃ f5 f35, F = [(2, Pt b2), (3, Pt b3), (5, f5), (35, f35)]) ∧ zk [] w28 wx ∧ s.cols = t.cols) ?_ ?_
 ·refine Sr (Oa rfl (E3 2 3 5 rfl (zq ?_)))
  refine zW [2, 3, 5] (fun k F wx => ∃ j : Nat, k = s.cols.length - j ∧ j ≤ s.cols.length ∧ F = [(2, Pt b2), (3, Pt b3), (5, Ii j)] ∧ zk [] w28 wx ∧ s.cols.take j = t.cols.take j) (m := s.cols.length - 0) ⟨0, rfl, Nat.zero_le _, rfl, zk.refl _ _, by simp⟩ ?_
  rintro k F wx ⟨j, rfl, hj, rfl, hcx, htk⟩
  have k2x := k2.chg0 hcx
  have k3x := k3.chg0 hcx
  refine ze (ze ?_)
  by_cases hlt : j < s.cols.length
  ·refine za (Om rfl (Od yn rfl ?_))
   refine Ol zav rfl (k2x.cell' (i := 0) rfl) ?_
   refine On zaj rfl ?_
   refine Og (vt (zC rfl rfl) (by simp; omega)) rfl ?_
   refine E4 2 3 5 35 rfl (zd rfl (zm ?_))
   have hlm : j < t.cols.length := by omega
   have hx : s.cols[j]? = some s.cols[j] := by simp [hlt]
   have hy : t.cols[j]? = some t.cols[j] := by simp [hlm]
   generalize s.cols[j] = x at hx
   generalize t.cols[j] = y at hy
   obtain ⟨b, off, cap, hve, -⟩ := z0.at zap hs.cols hx
   obtain ⟨bc, oc, cc, hve2, -⟩ := z0.at zap ht.cols hy
   cases hve; cases hve2
   have hce : ∀ {wz : World}, zk [] wx wz → wz.cell? ⟨b2, 0, none⟩ = some (.slice (some ⟨b, off, none⟩) s.cols.length dc) ∧ wz.cell? ⟨b3, 0, none⟩ = some (.slice (some ⟨bc, oc, none⟩) t.cols.length dc') ∧ zy wz b (off + j * 4) x.cs ∧ zy wz bc (oc + j * 4) y.cs := fun hc => by
    obtain ⟨b1', o1, c1', he, h1⟩ := z0.at zap (z0.chg0 hs.cols ((hc28.trans hcx).trans hc)) hx
    obtain ⟨b2, o2, c2, he2, h2⟩ := z0.at zap (z0.chg0 ht.cols ((hc28.trans hcx).trans hc)) hy
    cases he; cases he2
    exact ⟨(k2x.chg0 hc).cell' (i := 0) rfl, (k3x.chg0 hc).cell' (i := 0) rfl, h1, h2⟩
   refine ze (zq (ze ?_))
   refine zJ (fun wz => zk [] wx wz) mix (by kernel_rfl) (zk.drew [] wx) ?_
   refine Td yn rfl ?_
   refine Tr (fun wz hz => zh zav rfl (hce hz).1) rfl ?_
   refine Tm rfl ?_
   refine Tp (fun _ => zf zaj zaT rfl rfl _ rfl hlt) rfl ?_
   refine Tr (fun wz hz => zg zdX zaT rfl rfl (hce hz).2.2.1) rfl ?_
   refine Td yn rfl ?_
   refine Tr (fun wz hz => zh zav rfl (hce hz).2.1) rfl ?_
   refine Tm rfl ?_
   refine Tp (fun _ => zf zaj zaT rfl rfl _ rfl hlm) rfl ?_
   refine Tr (fun wz hz => zg zdX zaT rfl rfl (hce hz).2.2.2) rfl ?_
   refine Tp (fun _ => zhN zv2 rfl rfl (zpO x y)) rfl ?_
   refine D4 2 3 5 48 rfl ?_
   refine zR rfl (fun hT => ?_) (fun hF => ?_)
   ·refine Sr (Oa rfl (E1 4 rfl (zi ?_)))
    repeat first | refine tr ?_ | refine br ?_
    refine zD rfl rfl ?_
    refine ⟨?_, (hc28.trans hcx).trans (zk.drew [] _)⟩
    rw [decide_eq_false]
    rintro rfl
    rw [hx] at hy
    cases hy
    simp at hT
   refine ye (zl ?_)
   have hxy : x = y := by simpa using hF
   refine za (Om rfl ?_)
   refine Og (zI rfl rfl (by omega)) rfl ?_
   refine Oa rfl (N3 2 3 5 rfl ?_)
   refine ⟨s.cols.length - (j + 1), by omega, j + 1, rfl, by omega, rfl, hcx.trans (zk.drew [] _), ?_⟩
   rw [yj hx, yj hy, htk, hxy]
  refine za (Om rfl (Od yn rfl ?_))
  refine Ol zav rfl (k2x.cell' (i := 0) rfl) ?_
  refine On zaj rfl ?_
  refine Og (vf (zC rfl rfl) (by simp; omega)) rfl ?_
  refine E4 2 3 5 35 rfl (zb rfl ?_)
  refine zM ?_
  repeat first | refine te ?_ | refine bo rfl ?_
  refine zt _ ?_
  rw [List.take_of_length_le (by omega), List.take_of_length_le (by omega)] at htk
  exact ⟨⟨_, _, rfl⟩, hcx, htk⟩
 rintro F wx ⟨⟨f5, f35, rfl⟩, hcx, hcols⟩
 refine yf (fun F wy => (∃ f6 f53, F = [(2, Pt b2), (3, Pt b3), (6, f6), (53, f53)]) ∧ zk [] w28 wy ∧ s.uq = t.uq) ?_ ?_
 ·refine Sr (Oa rfl (E3 2 3 6 rfl (zq ?_)))
  refine zW [2, 3, 6] (fun k F wy => ∃ j : Nat, k = s.uq.length - j ∧ j ≤ s.uq.length ∧ F = [(2, Pt b2), (3, Pt b3), (6, Ii j)] ∧ zk [] w28 wy ∧ s.uq.take j = t.uq.take j) (m := s.uq.length - 0) ⟨0, rfl, Nat.zero_le _, rfl, hcx, by simp⟩ ?_
  rintro k F wy ⟨j, rfl, hj, rfl, hcy, htk⟩
  have k2x := k2.chg0 hcy
  have k3x := k3.chg0 hcy
  refine ze (ze ?_)
  by_cases hlt : j < s.uq.length
  ·refine za (Om rfl (Od y8 rfl ?_))
   refine Ol zbM rfl (k2x.cell' (i := 2) rfl) ?_
   refine On zaq rfl ?_
   refine Og (vt (zC rfl rfl) (by simp; omega)) rfl ?_
   refine E4 2 3 6 53 rfl (zd rfl (zm ?_))
   have hlm : j < t.uq.length := by omega
   have hx : s.uq[j]? = some s.uq[j] := by simp [hlt]
   have hy : t.uq[j]? = some t.uq[j] := by simp [hlm]
   generalize s.uq[j] = x at hx
   generalize t.uq[j] = y at hy
   have hhs : ∀ {wz : World}, zk [] wy wz → yO wz _ _ _ s ∧ yO wz _ _ _ t := fun hc => ⟨hs.chg0 ((hc28.trans hcy).trans hc), ht.chg0 ((hc28.trans hcy).trans hc)⟩
   obtain ⟨b, off, cap, vx, hve, hc0, hix⟩ := zbt.cell (hhs (zk.refl [] wy)).1.uq hx
   obtain ⟨bc, oc, cc, vy, hve2, hc0', hiy⟩ := zbt.cell (hhs (zk.refl [] wy)).2.uq hy
   cases hve; cases hve2
   refine ze (zq (ze ?_))
   by_cases hxy : x = y
   case neg =>
    refine zJ (fun wz => zk [] wy wz) mix (by kernel_rfl) (zk.drew [] wy) ?_
    refine Td y8 rfl ?_
    refine Tr (fun wz hz => zh zbM rfl ((k2x.chg0 hz).cell' (i := 2) rfl)) rfl ?_
    refine Tm rfl ?_
    refine Tp (fun _ => zf zaq zeA rfl rfl _ rfl hlt) rfl ?_
    refine Tr (fun wz hz => zh za3 rfl (zdm hz hc0 (by simp))) rfl ?_
    refine Td y8 rfl ?_
    refine Tr (fun wz hz => zh zbM rfl ((k3x.chg0 hz).cell' (i := 2) rfl)) rfl ?_
    refine Tm rfl ?_
    refine Tp (fun _ => zf zaq zeA rfl rfl _ rfl hlm) rfl ?_
    refine Tr (fun wz hz => zh za3 rfl (zdm hz hc0' (by simp))) rfl ?_
    refine Tc zrN rfl rfl rfl (zjJ _ _ _ _ _ (z0.chg0 hix (zk.drew [] _)) (z0.chg0 hiy (zk.drew [] _))) ?_
    rintro v66 w66 ⟨h66, c66⟩
    rw [decide_eq_false hxy] at h66
    subst h66
    refine ⟨.inl ((zk.drew [] _).trans c66), ?_⟩
    refine Tp (fun _ => zO rfl) rfl ?_
    refine D4 2 3 6 67 rfl (zd rfl (Sr (Oa rfl (E1 4 rfl (zi ?_)))))
    repeat first | refine tr ?_ | refine br ?_
    refine zD rfl rfl ?_
    refine ⟨?_, ((hc28.trans hcy).trans (zk.drew [] _)).trans c66⟩
    rw [decide_eq_false]
    rintro rfl
    rw [hx] at hy
    exact hxy (Option.some.inj hy)
   refine zJ (fun wz => zk [] wy wz) mix (by kernel_rfl) (zk.drew [] wy) ?_
   refine Td y8 rfl ?_
   refine Tr (fun wz hz => zh zbM rfl ((k2x.chg0 hz).cell' (i := 2) rfl)) rfl ?_
   refine Tm rfl ?_
   refine Tp (fun _ => zf zaq zeA rfl rfl _ rfl hlt) rfl ?_
   refine Tr (fun wz hz => zh za3 rfl (zdm hz hc0 (by simp))) rfl ?_
   refine Td y8 rfl ?_
   refine Tr (fun wz hz => zh zbM rfl ((k3x.chg0 hz).cell' (i := 2) rfl)) rfl ?_
   refine Tm rfl ?_
   refine Tp (fun _ => zf zaq zeA rfl rfl _ rfl hlm) rfl ?_
   refine Tr (fun wz hz => zh za3 rfl (zdm hz hc0' (by simp))) rfl ?_
   refine Tc zrN rfl rfl rfl (zjJ _ _ _ _ _ (z0.chg0 hix (zk.drew [] _)) (z0.chg0 hiy (zk.drew [] _))) ?_
   rintro v66 w66 ⟨h66, c66⟩
   rw [decide_eq_true hxy] at h66
   subst h66
   refine ⟨.inl ((zk.drew [] _).trans c66), ?_⟩
   refine Tp (fun _ => zO rfl) rfl ?_
   refine D4 2 3 6 67 rfl (zb rfl (ye (zl (za (Om rfl ?_)))))
   refine Og (zI rfl rfl (by omega)) rfl ?_
   refine Oa rfl (N3 2 3 6 rfl ?_)
   refine ⟨s.uq.length - (j + 1), by omega, j + 1, rfl, by omega, rfl, (hcy.trans (zk.drew [] _)).trans c66, ?_⟩
   rw [yj hx, yj hy, htk, hxy]
  refine za (Om rfl (Od y8 rfl ?_))
  refine Ol zbM rfl (k2x.cell' (i := 2) rfl) ?_
  refine On zaq rfl ?_
  refine Og (vf (zC rfl rfl) (by simp; omega)) rfl ?_
  refine E4 2 3 6 53 rfl (zb rfl ?_)
  refine zM ?_
  repeat first | refine te ?_ | refine bo rfl ?_
  refine zt _ ?_
  rw [List.take_of_length_le (by omega), List.take_of_length_le (by omega)] at htk
  exact ⟨⟨_, _, rfl⟩, hcy, htk⟩
 rintro F wy ⟨⟨f6, f53, rfl⟩, hcy, huq⟩
 refine Sr (Oa rfl (E1 4 rfl (zi ?_)))
 refine zD rfl rfl ?_
 refine ⟨?_, hc28.trans hcy⟩
 rw [decide_eq_true]
 obtain ⟨a, b, c⟩ := s
 obtain ⟨a', b', c'⟩ := t
 simp only at hcols h3 huq
 rw [hcols, h3, huq]
section
variable {P : Program} {n : Nat} {F : Fr} {w : World} {dst : Option Nat} {ty : TypeId} {pos : String} {af : Array Edge} {gd : Option (Nat × Bool)}
theorem zrB {x y : Operand} {t u : TypeId} {i : Nat} (j : Nat) (hx : ev F x = some (.int .u64 i)) (hy : ev F y = some (.int .u64 j)) (hi : i < 18446744073709551616) (hj : 1 ≤ j) : Vl P n F ⟨dst, .binOp .quo t x y u, ty, pos, af, gd⟩ w (.int .u64 ((i / j : Nat) : Int)) w := by
 intro a ha
 have h0 : (j : Int) ≠ 0 := by omega
 have h1 : (i : Int).tdiv j = ((i / j : Nat) : Int) := by rw [Int.tdiv_eq_ediv_of_nonneg (by omega)]; simp
 have h3 : i / j ≤ i := Nat.div_le_self _ _
 have h4 : IntKind.u64.wrap ((i : Int).tdiv j) = ((i / j : Nat) : Int) := by
  rw [h1]
  generalize i / j = q at h3
  exact IntWalk.u64_in _ ⟨by omega, by omega⟩
 simp only [execOp, ha.eval hx, ha.eval hy, eqGuard, binOp, Op.intDiv, if_neg h0, h4]
 rfl
theorem zqE {x y : Operand} {t u : TypeId} {i : Nat} (j : Nat) (hx : ev F x = some (.int .u64 i)) (hy : ev F y = some (.int .u64 j)) (hi : i < 18446744073709551616) (hj : 1 ≤ j) : Vl P n F ⟨dst, .binOp .rem t x y u, ty, pos, af, gd⟩ w (.int .u64 ((i % j : Nat) : Int)) w := by
 intro a ha
 have h0 : (j : Int) ≠ 0 := by omega
 have h1 : (i : Int).tmod j = ((i % j : Nat) : Int) := by rw [Int.tmod_eq_emod_of_nonneg (by omega)]; simp
 simp only [execOp, ha.eval hx, ha.eval hy, eqGuard, binOp, Op.intDiv, if_neg h0, h1]
 rfl
end
theorem znz {n : Nat} (hn : n < 18446744073709551616) (h0 : 0 < n) : yF n = yF (n / 256) + 1 := by
 have hd : n / 256 < 18446744073709551616 := Nat.lt_of_le_of_lt (Nat.div_le_self _ _) hn
 have key : ∀ k, yF n ≤ k + 1 ↔ yF (n / 256) ≤ k := fun k => by
  rw [zdk hn, zdk hd, Nat.pow_succ, Nat.div_lt_iff_lt_mul (by omega)]
 have h1 : 1 ≤ yF n := by
  rcases Nat.eq_zero_or_pos (yF n) with h | h
  ·have := (zdk hn (k := 0)).1 (by omega)
   simp at this; omega
  exact h
 have a := (key (yF (n / 256))).2 (Nat.le_refl _)
 have b := (key (yF n - 1)).1 (by omega)
 omega
theorem zmx (n : Nat) : ∀ k, be n (k + 1) = be (n / 256) k ++ [UInt8.ofNat (n % 256)]
 | 0 => by simp [be]
 | k + 1 => by
  rw [be, zmx n k, be, List.cons_append, Nat.div_div_eq_div_mul, Nat.pow_succ, Nat.mul_comm]
theorem ztt : ∀ (n : Nat) (w : World), n < 18446744073709551616 → z9 TP 181 #[.int .u64 n] w fun r w' => zv w' 5 1 r (be n (yF n)).length (bv (be n (yF n))) ∧ (∀ b ∈ zp r, w.heap.size ≤ b) ∧ zk [] w w' := by
 intro n
 induction n using Nat.strongRecOn with
 | ind n ih =>
 intro w hn
 refine A1 Tryz.func181 rfl rfl ?_
 refine Sr (Oa rfl (E1 0 rfl (ze (ze ?_))))
 by_cases h0 : n = 0
 ·subst h0
  refine za (Om rfl ?_)
  refine Og (vt (zw rfl rfl) (decide_eq_true (by omega))) rfl ?_
  refine E2 0 4 rfl (zd rfl (Sr (Oa rfl (E1 2 rfl (zi ?_)))))
  repeat first | refine tr ?_ | refine br ?_
  refine zD rfl rfl ?_
  exact ⟨zv.nil _ _ _, by simp [zp], zk.refl _ _⟩
 refine za (Om rfl ?_)
 refine Og (vf (zw rfl rfl) (by simp; omega)) rfl ?_
 refine E2 0 4 rfl (zb rfl (zm ?_))
 have hst := znz hn (by omega)
 have h8 := za2 n
 have hbl := zaB (n / 256) (yF (n / 256))
 refine Sr (Om rfl ?_)
 refine Og (zrB 256 rfl rfl hn (by omega)) rfl ?_
 refine Oc zsN rfl rfl rfl (ih (n / 256) (by omega) _ (by omega)) ?_
 rintro v7 w7 ⟨i7, f7, c7⟩
 refine Om rfl ?_
 refine Og (zqE 256 rfl rfl hn (by omega)) rfl ?_
 refine Og (yq zay zbz rfl (show IntKind.u8.wrap ((n % 256 : Nat) : Int) = (((UInt8.ofNat (n % 256)).toNat : Nat) : Int) by rw [zcV]; simp)) rfl ?_
 refine zE (gn rfl) (zB zaL rfl (vs := [_]) rfl (css := [_]) ⟨rfl, trivial⟩ rfl rfl (cs := [_]) rfl rfl ?_)
 intro b11 w11 e11 n11 c11 k11
 refine zE (gn rfl) (yt zaL yT rfl rfl (zv.chg0 i7 c11) (zv.of_blk (n := 1) (c := bv [UInt8.ofNat (n % 256)]) k11 rfl (by simp [maxLen]) (zcd _)) (by simp only [maxLen]; omega) (by omega) rfl ?_)
 intro v12 w12 i12 c12 o12 z12
 refine Oa rfl (E1 2 rfl (zi ?_))
 refine zD rfl rfl ?_
 have hs7 := c7.size
 refine ⟨?_, yB o12 f7 (by have := c11.size; omega), ((c7.trans c11).own c12 f7)⟩
 have e : be n (yF n) = be (n / 256) (yF (n / 256)) ++ [UInt8.ofNat (n % 256)] := by rw [hst, zmx]
 rw [e, List.length_append, yK]
 exact i12
theorem zpy (n : Nat) (w : World) (hn : n < 18446744073709551616) : z9 TP 136 #[.int .u64 n] w fun r w' => zv w' 5 1 r (zbU n).length (bv (zbU n)) ∧ (∀ b ∈ zp r, w.heap.size ≤ b) ∧ zk [] w w' := by
 have h8 := za2 n
 have hbl := zaB n (yF n)
 refine A1 Tryz.func136 rfl rfl ?_
 refine Sr (Oa rfl (E1 0 rfl (Sr (Om rfl ?_))))
 refine Oc zsN rfl rfl rfl (ztt n _ hn) ?_
 rintro v5 w5 ⟨i5, f5, c5⟩
 obtain ⟨p5, q5, rfl, -⟩ := id (zv.val i5)
 refine Oa rfl (E1 3 rfl (Sr (Om rfl (On yT rfl ?_))))
 refine Og (yq zay zak rfl (show IntKind.u8.wrap (((be n (yF n)).length : Nat) : Int) = (((UInt8.ofNat (yF n)).toNat : Nat) : Int) by rw [hbl, zcV]; simp)) rfl ?_
 refine zE (gn rfl) (zB zaL rfl (vs := [_]) rfl (css := [_]) ⟨rfl, trivial⟩ rfl rfl (cs := [_]) rfl rfl ?_)
 intro b9 w9 e9 n9 c9 k9
 refine Om rfl ?_
 refine zE (gn rfl) (yt zaL yT rfl rfl (zv.of_blk (n := 1) (c := bv [UInt8.ofNat (yF n)]) k9 rfl (by simp [maxLen]) (zcd _)) (zv.chg0 i5 c9) (by simp only [maxLen]; omega) (by omega) rfl ?_)
 intro v11 w11 i11 c11 o11 z11
 refine Oa rfl (E1 2 rfl (zi ?_))
 refine zD rfl rfl ?_
 have hs5 := c5.size
 have f9 : ∀ x ∈ zp (.slice (some ⟨b9, 0, none⟩) 1 1), w.heap.size ≤ x := by intro x hx; simp [zp] at hx; omega
 refine ⟨?_, yB o11 f9 (by have := c9.size; omega), (c5.trans c9).own c11 f9⟩
 have e : zbU n = [UInt8.ofNat (yF n)] ++ be n (yF n) := rfl
 rw [e, List.length_append, yK]
 exact i11
section
variable {P : Program} {w : World} {t t2 ty e : TypeId} {k by' : Nat} {z : Value}
theorem zlj (A : App P t e k by' z) (hit : zc5 P t2 .i64 = true) {v : Value} {n m : Nat} {xs : List Value} (hv : zv w e k v n xs) (h63 : n + m ≤ maxLen) (hbytes : (n + m) * by' ≤ 140737488355328) :
 ∃ v' w', (Builtin.append_ #[t, t2] ty #[v, Ii (m : Int)]).run P w = .ok v' w' ∧ zv w' e k v' (n + m) (xs ++ (Builtin.zeroCells z.cells m).toList) ∧ zk (zp v) w w' ∧ (zp v' = zp v ∨ ∃ b, zp v' = [b] ∧ w.heap.size ≤ b) := by
 obtain ⟨i, hi, hk, hb, hz⟩ := A.info
 have hund := yI A.sl
 have hund2 : P.underlying t2 = some (.int .i64) := by unfold zc5 at hit; split at hit <;> simp_all
 have hlx := hv.len_xs
 have hm63 : n + m ≤ 9223372036854775807 := by simp only [maxLen] at h63; omega
 have hwr : IntKind.i64.wrap (m : Int) = m := IntWalk.i64_in _ ⟨by omega, by omega⟩
 have hneg : ¬ ((m : Int) < 0) := by omega
 have hbm : m * by' ≤ 140737488355328 := Nat.le_trans (Nat.mul_le_mul_right _ (by omega)) hbytes
 have hbig : ¬ (281474976710656 < (m : Int) * (i.bytes : Int)) := by
  rw [hb]
  have : ((m * by' : Nat) : Int) ≤ 140737488355328 := Int.ofNat_le.2 hbm
  rw [Int.natCast_mul] at this
  omega
 generalize hys : (Builtin.zeroCells z.cells m).toList = ys
 have hysa : Builtin.zeroCells z.cells m = ys.toArray := by rw [← hys]
 have hly : ys.length = m * k := by rw [← hys, Array.length_toList, size_zeroCells, A.zs]
 have hone : ∀ u ∈ ys, u.oneCell' = true := by rw [← hys]; exact za5 z _ A.zo
 have hzero : ∀ w1 : World, (zeroValue e).run P w1 = .ok z w1 := fun w1 => zbA A.zr
 have hpos : 0 < k := A.pos
 have grown : ∀ old, n + m > old → ∀ S, zv (w.drew.alloc (.cells (xs.toArray ++ ys.toArray ++ Builtin.zeroCells z.cells (grownCap w (n + m) old e - (n + m))) e)) e k
  (.slice (some ⟨w.heap.size, 0, none⟩) (n + m) (grownCap w (n + m) old e)) (n + m) (xs ++ ys) ∧
  zk S w (w.drew.alloc (.cells (xs.toArray ++ ys.toArray ++ Builtin.zeroCells z.cells (grownCap w (n + m) old e - (n + m))) e)) := by
  intro old _ S
  have hge := grownCap_ge w (n + m) old e
  have hcm := grownCap_le_maxLen w (n + m) old e h63
  refine ⟨.inr ⟨w.heap.size, 0, _, xs ++ ys ++ (Builtin.zeroCells z.cells (grownCap w (n + m) old e - (n + m))).toList, rfl, ?_, hge, hcm, ?_, ?_, ?_⟩, (zk.drew S w).transS (zk.alloc S _ _)⟩
  ·show (w.drew.heap.push _)[w.heap.size]? = _
   rw [show w.heap.size = w.drew.heap.size from rfl, Array.getElem?_push_size]
   simp
  ·simp only [List.length_append, hlx, hly, Array.length_toList, size_zeroCells, A.zs, ← Nat.add_mul, Nat.zero_add]
   rw [Nat.add_sub_cancel' hge]
   exact Nat.le_refl _
  ·rw [List.drop_zero, List.take_left' (by simp [hlx, hly, Nat.add_mul])]
  intro u hu
  simp only [List.mem_append] at hu
  rcases hu with (hu | hu) | hu
  ·exact hv.one_xs u hu
  ·exact hone u hu
  exact za5 z _ A.zo u hu
 rcases hv with ⟨rfl, rfl, rfl⟩ | ⟨g, off, cap, c, rfl, hv⟩
 ·by_cases hm : m = 0
  ·subst hm
   have hy : ys = [] := List.eq_nil_of_length_eq_zero (by simpa using hly)
   subst hy
   refine ⟨.slice none 0 0, w, ?_, zv.nil _ _ _, zk.refl _ _, .inl rfl⟩
   simp [Builtin.append_, run_underlying hund, run_underlying hund2, zY A.sz, asInt, asIntOf, typeInfo, hi, show IntKind.i64.wrap 0 = 0 from rfl]
  have h0 : ¬ (0 + m ≤ 0) := by omega
  have h63' : ¬ (9223372036854775807 < (m : Int)) := by omega
  have hm0 : ¬ (m * k = 0) := by
   have : 1 * 1 ≤ m * k := Nat.mul_le_mul (by omega) hpos
   omega
  have h48' : ¬ (281474976710656 < Builtin.nextslicecap m 0 * i.bytes) := by
   have := growslice_fits (need := m) (old := 0) (bytes := by') (by omega) (by simpa using hbytes)
   rw [hb]; omega
  have hgr := grown 0 (by omega) []
  refine ⟨_, _, ?_, hgr.1, hgr.2, .inr ⟨w.heap.size, rfl, Nat.le_refl _⟩⟩
  simp [Builtin.append_, run_underlying hund, run_underlying hund2, zY A.sz, asInt, asIntOf, hwr, hneg, hbig, typeInfo, hi, hm, hm0, hpos, Nat.pos_iff_ne_zero.1 hpos, h63', h48', Question.forced, run_firstCells_none, hzero, newRow, grownCap, hysa]
 by_cases hroom : n + m ≤ cap
 ·have hfit := hv.fit
  have hcap : (n + m) * k ≤ cap * k := Nat.mul_le_mul_right _ hroom
  have hfit2 : off + n * k + ys.length ≤ c.length := by rw [hly]; rw [Nat.add_mul] at hcap; omega
  have hst := zbJ (P := P) (off := off + n * k) (vs := ys) hv.blk hfit2 hone
  refine ⟨.slice (some ⟨g, off, none⟩) (n + m) cap, w.setRow g (yU c (off + n * k) ys).toArray, ?_, .inr ⟨g, off, cap, yU c (off + n * k) ys, rfl, hv.blk.row _, hroom, hv.max, ?_, ?_, ?_⟩, (zk.row _ _ _), .inl rfl⟩
  ·by_cases hm : m * k = 0
   ·have hy : ys = [] := List.eq_nil_of_length_eq_zero (by omega)
    subst hy
    simp [Builtin.append_, run_underlying hund, run_underlying hund2, zY A.sz, asInt, asIntOf, hwr, hneg, hbig, typeInfo, hi, hroom, hm, Addr.add_lit, hst]
   simp [Builtin.append_, run_underlying hund, run_underlying hund2, zY A.sz, asInt, asIntOf, hwr, hneg, hbig, typeInfo, hi, hroom, hm, Addr.add_lit, hst, hzero, hysa]
  ·simp only [yU, List.length_append, List.length_take, List.length_drop]
   omega
  ·have e1 : (yU c (off + n * k) ys).drop off = xs ++ ys ++ c.drop (off + n * k + ys.length) := by
    unfold yU
    rw [List.append_assoc, List.drop_append_of_le_length (by rw [List.length_take]; omega), List.drop_take, ← List.append_assoc]
    rw [show off + n * k - off = n * k by omega, ← hv.xs]
   rw [e1, List.take_left' (by simp [hlx, hly, Nat.add_mul])]
  intro u hu
  simp only [yU, List.mem_append] at hu
  rcases hu with (hu | hu) | hu
  ·exact hv.one u (List.mem_of_mem_take hu)
  ·exact hone u hu
  exact hv.one u (List.mem_of_mem_drop hu)
 have h0 : ¬ (n + m ≤ cap) := hroom
 have h63' : ¬ (9223372036854775807 < ((n : Int) + (m : Int))) := by omega
 have hm : m ≠ 0 := by
  have := hv.le
  omega
 have hm0 : ¬ (m * k = 0) := by
  have : 1 * 1 ≤ m * k := Nat.mul_le_mul (by omega) hpos
  omega
 have h48' : ¬ (281474976710656 < Builtin.nextslicecap (n + m) cap * i.bytes) := by
  have := growslice_fits (need := n + m) (old := cap) (bytes := by') (by omega) hbytes
  rw [hb]; omega
 have hgr := grown cap (by omega) (zp (.slice (some ⟨g, off, none⟩) n cap))
 refine ⟨_, _, ?_, hgr.1, hgr.2, .inr ⟨w.heap.size, rfl, Nat.le_refl _⟩⟩
 have hfo : (Builtin.firstCells k n (.slice (some ⟨g, off, none⟩) n cap)).run P w.drew = .ok xs.toArray w.drew :=
  zcN (w := w.drew) (e := e) (.inr ⟨g, off, cap, c, rfl, ⟨hv.blk, hv.le, hv.max, hv.fit, hv.xs, hv.one⟩⟩)
 simp [Builtin.append_, run_underlying hund, run_underlying hund2, zY A.sz, asInt, asIntOf, hwr, hneg, hbig, typeInfo, hi, h0, hm, hm0, Nat.pos_iff_ne_zero.1 hpos, h63', h48', Question.forced, hfo, hzero, newRow, grownCap, hysa]
 rw [show (xs ++ ys).toArray = xs.toArray ++ ys.toArray from by simp, Array.append_assoc]
variable {n : Nat} {F : Fr} {d : Tmp} {pos : String} {af : Array Edge} {gd : Option (Nat × Bool)} {K : Fr → World → Prop}
theorem zl0 (A : App P t e k by' z) (hit : zc5 P t2 .i64 = true) {x y : Operand} {v : Value} {l m : Nat} {j : Int} {xs : List Value} (hx : ev F x = some v) (hy : ev F y = some (Ii j)) (hj : j = (m : Int)) (hv : zv w e k v l xs)
 (h63 : l + m ≤ maxLen) (hbytes : (l + m) * by' ≤ 140737488355328) (hn : Nat.blt d n = true)
 (h : ∀ v' w', zv w' e k v' (l + m) (xs ++ (Builtin.zeroCells z.cells m).toList) → zk (zp v) w w' → (zp v' = zp v ∨ ∃ b, zp v' = [b] ∧ w.heap.size ≤ b) → K ((d, v') :: F) w') :
 St P n F ⟨some d, .call { callee := .builtin .append, args := #[x, y], argTypes := #[t, t2] }, ty, pos, af, gd⟩ w K := by
 subst hj
 obtain ⟨v', w', hr, h1, h2, h3⟩ := zlj (ty := ty) (m := m) A hit hv h63 hbytes
 refine St.vl (v := v') (w' := w') ?_ rfl hn (h v' w' h1 h2 h3)
 intro a ha
 simp [execOp, resolve, invoke, builtin, ha.eval hx, ha.eval hy, hr]
end
theorem ztb (m : Nat) : (Builtin.zeroCells (Value.int .u8 0).cells m).toList = bv (List.replicate m 0) := by
 have hc : (Value.int .u8 0).cells = #[.int .u8 0] := rfl
 rw [hc]
 simp [Builtin.zeroCells, bv, Nat.mod_one, List.map_const']
theorem zw6 (x : zQ) (w : World) (hx : zbi x = 0) (hg : x.Rng) : z9 TP 96 #[x.v] w fun r w' => zv w' 5 1 r (zdE x).length (bv (zdE x)) ∧ (∀ b ∈ zp r, w.heap.size ≤ b) ∧ zk [] w w' := by
 obtain ⟨hk, -, hk3⟩ := za8 (zcR hx).1
 have hb200 := (zcR hx).2
 have hi := hg.i
 refine A1 Tryz.func96 rfl rfl ?_
 refine Sr ?_
 refine Ob rfl rfl ?_
 intro b1 w1 e1 n1 c1 k1
 refine Oa rfl (E1 1 rfl (Sr (Od zaw rfl ?_)))
 refine Ol zcm rfl (k1.cell' rfl) ?_
 refine Og (yq zay zak rfl (show IntKind.u8.wrap x.k = (((UInt8.ofNat x.k.toNat).toNat : Nat) : Int) by rw [show x.k = ((x.k.toNat : Nat) : Int) by omega, zcV]; simp)) rfl ?_
 refine zE (gn rfl) (zB zaL rfl (vs := [_]) rfl (css := [_]) ⟨rfl, trivial⟩ rfl rfl (cs := [_]) rfl rfl ?_)
 intro b11 w11 e11 n11 c11 k11
 refine Oa rfl (E2 1 3 rfl ?_)
 have i11 : zv w11 5 1 (.slice (some ⟨b11, 0, none⟩) 1 1) 1 (bv [UInt8.ofNat x.k.toNat]) := zv.of_blk (n := 1) k11 rfl (by simp [maxLen]) (zcd _)
 have k1 : zU w11 b1 40 x.cs := k1.chg0 c11
 have hc11 := c1.trans c11
 have f11 : ∀ x ∈ zp (.slice (some ⟨b11, 0, none⟩) 1 1), w.heap.size ≤ x := by intro x hx; simp [zp] at hx; have := c1.size; omega
 have hb1 : b1 ∉ zp (.slice (some ⟨b11, 0, none⟩) 1 1) := fun hm => zv.apart i11 k1 rfl b1 hm (by simp)
 have hbw : w.heap.size ≤ b1 := by omega
 have hke : zdE x = [UInt8.ofNat x.k.toNat] ++ zfO x := rfl
 rw [hke]
 generalize hA : UInt8.ofNat x.k.toNat = a at *
 refine ze (Sr (Od zaw rfl ?_))
 refine Ol zcm rfl (k1.cell' rfl) ?_
 refine E3 1 3 13 rfl (zq (ze ?_))
 by_cases h1 : x.k = 1
 ·have hT : zfO x = be (x.i + 9223372036854775808).toNat 8 := by simp [zfO, h1]
  rw [hT]
  have hn : (x.i + 9223372036854775808).toNat < 18446744073709551616 := by omega
  refine za ?_
  refine Og (vt (zw rfl rfl) (by simp [h1])) rfl ?_
  refine Oa rfl (E4 1 3 13 14 rfl (zd rfl (Sr (Od yY rfl ?_))))
  refine Ol ag2 rfl (k1.cell' (i := 1) rfl) ?_
  refine Og (yq zbz zdK rfl (show IntKind.u64.wrap x.i = (((x.i % 18446744073709551616).toNat : Nat) : Int) by rw [zci]; omega)) rfl ?_
  refine Og (zkp (b := 9223372036854775808) rfl rfl (by omega) (by decide)) rfl ?_
  refine Oa rfl (E2 3 4 rfl ?_)
  rw [zj5 hi]
  generalize (x.i + 9223372036854775808).toNat = N at *
  refine Sr (Oa rfl (E3 3 4 5 rfl (zq ?_)))
  refine zW [3, 4, 5] (fun m F wx => m ≤ 8 ∧ ∃ u : Value, F = [(3, u), (4, .int .u64 N), (5, Ii ((m : Int) - 1))] ∧ ∃ ys, zv wx 5 1 u (1 + (8 - m)) (bv ([a] ++ ys)) ∧ ys ++ be N m = be N 8 ∧ (∀ b ∈ zp u, w.heap.size ≤ b) ∧ zk [] w wx) (m := 8) ⟨Nat.le_refl _, _, rfl, [], by simpa using i11, rfl, f11, hc11⟩ ?_
  rintro m F wx ⟨hm, u, rfl, ys, hu, hys, hfu, hc⟩
  refine ze (Sr (Om rfl ?_))
  refine Og (yp rfl rfl) rfl ?_
  refine E4 3 4 5 21 rfl ?_
  refine zR rfl (fun hT => ?_) (fun hF => ?_)
  ·refine zm ?_
   have hm1 : 1 ≤ m := by have := of_decide_eq_true hT; omega
   obtain ⟨i, rfl⟩ := Nat.exists_eq_add_of_le hm1
   rw [show (((1 + i : Nat) : Int) - 1) = (i : Int) by omega]
   have p8 : (N : Int).fdiv (2 ^ (8 * i)) = ((N / 256 ^ i : Nat) : Int) := by rw [ziV, Nat.pow_mul]
   refine ze (zq (za (Om rfl (Om rfl (Om rfl ?_)))))
   refine Og (zcL rfl rfl (by omega)) rfl ?_
   refine Og (yq zcM zak rfl (show IntKind.u64.wrap (8 * (i : Int)) = ((8 * i : Nat) : Int) from IntWalk.u64_in _ ⟨by omega, by omega⟩)) rfl ?_
   refine Og (zbP (8 * i) rfl rfl (by omega) (show 8 * i ≤ 64 by omega) p8) rfl ?_
   refine Og (yq zay zbz rfl (show IntKind.u8.wrap ((N / 256 ^ i : Nat) : Int) = (((UInt8.ofNat (N / 256 ^ i % 256)).toNat : Nat) : Int) by rw [zcV]; simp)) rfl ?_
   refine zE (gn rfl) (zB zaL rfl (vs := [_]) rfl (css := [_]) ⟨rfl, trivial⟩ rfl rfl (cs := [_]) rfl rfl ?_)
   intro b31 w31 e31 n31 c31 k31
   refine zE (gn rfl) (yt zaL yT rfl rfl (zv.chg0 hu c31) (zv.of_blk (n := 1) k31 rfl (by simp [maxLen]) (by simp [Value.oneCell'])) (by simp only [maxLen]; omega) (by omega) rfl ?_)
   intro v32 w32 i32 c32 o32 z32
   refine Oa rfl (N3 3 4 5 rfl (zl (za (Om rfl ?_))))
   refine Og (yN rfl rfl (by omega)) rfl ?_
   refine Oa rfl (N3 3 4 5 rfl ?_)
   refine ⟨i, by omega, by omega, v32, rfl, ys ++ [UInt8.ofNat (N / 256 ^ i % 256)], ?_, ?_, yB o32 hfu (by have := hc.size; have := c31.size; omega), (hc.trans c31).own c32 hfu⟩
   ·rw [← List.append_assoc, yK]
    have e : 1 + (8 - i) = 1 + (8 - (1 + i)) + 1 := by omega
    rw [e]
    exact i32
   rw [Nat.add_comm 1 i] at hys
   rw [← hys]
   simp [be]
  have hm0 : m = 0 := by have := of_decide_eq_false hF; omega
  subst hm0
  refine zM ?_
  repeat first | refine te ?_ | refine bo rfl ?_
  refine zt _ ?_
  refine zl (Sr (Om rfl (Oa rfl (E1 2 rfl (zi ?_)))))
  refine zD rfl rfl ?_
  have : ys = be N 8 := by simpa [be] using hys
  subst this
  refine ⟨?_, hfu, hc⟩
  rw [List.length_append, zaB]
  exact hu
 refine za ?_
 refine Og (vf (zw rfl rfl) (by simp [h1])) rfl ?_
 refine Oa rfl (E4 1 3 13 14 rfl (zb rfl (ze ?_)))
 by_cases h2 : x.k = 2
 ·have hT : zfO x = zbU x.u := by simp [zfO, h2]
  rw [hT]
  refine za ?_
  refine Og (vt (zw rfl rfl) (by simp [h2])) rfl ?_
  refine Oa rfl (E4 1 3 13 33 rfl (zd rfl ?_))
  have hnb := za2 x.u
  have hnl := zc6 x.u
  refine za (Om rfl (Od zaZ rfl ?_))
  refine Ol zcZ rfl (k1.cell' (i := 2) rfl) ?_
  refine Oc zvK rfl rfl rfl (zpy x.u _ hg.u) ?_
  rintro v38 w38 ⟨i38, f38, c38⟩
  refine zE (gn rfl) (yt zaL yT rfl rfl (zv.chg0 i11 c38) i38 (by simp only [maxLen]; omega) (by omega) rfl ?_)
  intro v39 w39 i39 c39 o39 z39
  refine Oa rfl ?_
  refine za9 [3] (F' := [(3, _)]) rfl ?_
  refine zl (Sr (Om rfl (Oa rfl (E1 2 rfl (zi ?_)))))
  refine zD rfl rfl ?_
  refine ⟨?_, yB o39 f11 (by have := hc11.size; have := c38.size; omega), (hc11.trans c38).own c39 f11⟩
  rw [List.length_append, yK]
  exact i39
 refine za ?_
 refine Og (vf (zw rfl rfl) (by simp [h2])) rfl ?_
 refine Oa rfl (E4 1 3 13 33 rfl (zb rfl (ze ?_)))
 by_cases h3 : x.k = 3
 ·have hT : zfO x = [UInt8.ofNat x.i.toNat] := by simp [zfO, h3]
  rw [hT]
  refine za ?_
  refine Og (vt (zw rfl rfl) (by simp [h3])) rfl ?_
  refine Oa rfl (E4 1 3 13 40 rfl (zd rfl (za (Om rfl (Od yY rfl ?_)))))
  refine Ol ag2 rfl (k1.cell' (i := 1) rfl) ?_
  refine Og (yq zay zdK rfl (show IntKind.u8.wrap x.i = (((UInt8.ofNat x.i.toNat).toNat : Nat) : Int) by rcases hk3 h3 with h | h <;> rw [h] <;> rfl)) rfl ?_
  refine zE (gn rfl) (zB zaL rfl (vs := [_]) rfl (css := [_]) ⟨rfl, trivial⟩ rfl rfl (cs := [_]) rfl rfl ?_)
  intro b46 w46 e46 n46 c46 k46
  refine zE (gn rfl) (yt zaL yT rfl rfl (zv.chg0 i11 c46) (zv.of_blk (n := 1) (c := bv [UInt8.ofNat x.i.toNat]) k46 rfl (by simp [maxLen]) (zcd _)) (by simp only [maxLen]; omega) (by omega) rfl ?_)
  intro v47 w47 i47 c47 o47 z47
  refine Oa rfl ?_
  refine za9 [3] (F' := [(3, _)]) rfl ?_
  refine zl (Sr (Om rfl (Oa rfl (E1 2 rfl (zi ?_)))))
  refine zD rfl rfl ?_
  refine ⟨?_, yB o47 f11 (by have := hc11.size; have := c46.size; omega), (hc11.trans c46).own c47 f11⟩
  rw [List.length_append, yK]
  exact i47
 refine za ?_
 refine Og (vf (zw rfl rfl) (by simp [h3])) rfl ?_
 refine Oa rfl (E4 1 3 13 40 rfl (zb rfl (ze ?_)))
 by_cases h4 : x.k = 4
 ·have hT : zfO x = zda x.b.data.toList := by simp [zfO, h4]
  rw [hT]
  refine za ?_
  refine Og (vt (zw rfl rfl) (by simp [h4])) rfl ?_
  refine Oa rfl (E3 1 3 48 rfl (zd rfl (Sr (Oa rfl (E3 1 3 6 rfl (zq ?_))))))
  have hsl : x.b.data.toList.length = x.b.size := by simp
  generalize hl : x.b.data.toList = l at *
  refine zW [1, 3, 6] (fun m F wx => ∃ j : Nat, m = 201 - j ∧ 8 * j ≤ x.b.size ∧ (0 < j → 8 * j < x.b.size) ∧ ∃ u : Value, F = [(1, Pt b1), (3, u), (6, Ii ((8 * j : Nat) : Int))] ∧ ∃ ys, zv wx 5 1 u ys.length (bv ys) ∧ ys ++ zda (l.drop (8 * j)) = [a] ++ zda l ∧ ys.length = 1 + 9 * j ∧ (∀ b ∈ zp u, w.heap.size ≤ b) ∧ b1 ∉ zp u ∧ zU wx b1 40 x.cs ∧ zk [] w wx) (m := 201) ⟨0, rfl, by omega, by omega, _, rfl, [a], i11, by simp, rfl, f11, hb1, k1, hc11⟩ ?_
  rintro m F wx ⟨j, rfl, hj, hj0, u, rfl, ys, hu, hys, hyl, hfu, hb1u, k1x, hc⟩
  refine ze (zq (ze ?_))
  have hbl : l.length = x.b.size := hsl
  generalize hr : l.drop (8 * j) = r at *
  have hrl : r.length = x.b.size - 8 * j := by rw [← hr, List.length_drop, hbl]
  generalize hc8 : r.take 8 = c at *
  have hcl : c.length = min 8 (x.b.size - 8 * j) := by rw [← hc8, List.length_take, hrl]
  have hcut : (x.b.extract (8 * j) (8 * j + c.length)).data.toList = c := by
   have e1 : (x.b.data.extract (8 * j) (8 * j + c.length)).toList = (l.drop (8 * j)).take c.length := by rw [← hl]; simp [List.extract_eq_take_drop]
   rw [ByteArray.data_extract, e1, hr, hcl, ← hrl, ← hc8, List.take_eq_take_iff]
   simp
  have hcs : (x.b.extract (8 * j) (8 * j + c.length)).size = c.length := by
   have e : (x.b.extract (8 * j) (8 * j + c.length)).data.toList.length = c.length := congrArg List.length hcut
   have h : ∀ b : ByteArray, b.size = b.data.toList.length := fun b => by simp
   exact (h _).trans e
  refine za (Od zaR rfl ?_)
  refine Ol ag9 rfl (k1x.cell' (i := 3) rfl) ?_
  refine Og (yS st9 rfl) rfl ?_
  refine Om rfl ?_
  refine Og (yN rfl rfl (by omega)) rfl ?_
  refine Og (zml rfl rfl) rfl ?_
  refine Oa rfl (E4 1 3 6 7 rfl ?_)
  rw [show (if (x.b.size : Int) - ((8 * j : Nat) : Int) < 8 then (x.b.size : Int) - ((8 * j : Nat) : Int) else 8) = ((c.length : Nat) : Int) by split <;> omega]
  refine Sr (Om rfl (Od zaR rfl ?_))
  refine Ol ag9 rfl (k1x.cell' (i := 3) rfl) ?_
  refine Om rfl (Om rfl (Om rfl ?_))
  refine Og (yE (v' := Ii ((8 * j + c.length : Nat) : Int)) (zI rfl rfl (by omega)) (by congr 1)) rfl ?_
  refine Og (zrn st9 rfl rfl rfl _ _ rfl rfl (by omega) (by omega)) rfl ?_
  refine zE (gn rfl) (zh3 zaL st9 rfl rfl hu (by rw [hcs]; simp only [maxLen]; omega) (by rw [hcs]; omega) rfl ?_)
  intro v66 w66 i66 c66 o66 z66
  refine Om rfl ?_
  refine Og (yE (v' := Ii ((8 - c.length : Nat) : Int)) (yN rfl rfl (by omega)) (by congr 1 <;> omega)) rfl ?_
  refine zE (gn rfl) (zl0 zaL zak rfl rfl rfl i66 (by rw [hcs]; simp only [maxLen]; omega) (by rw [hcs]; omega) rfl ?_)
  intro v69 w69 i69 c69 o69
  refine Oa rfl (E4 1 3 6 7 rfl ?_)
  rw [ztb, hcs, hcut, ← yK, ← yK, List.append_assoc] at i69
  have hb166 : b1 ∉ zp v66 := by
   rcases o66 with h | ⟨b', h, hb'⟩ <;> rw [h]
   ·exact hb1u
   have := k1x.lt; simp; omega
  have k66 := k1x.chg c66 hb1u
  have k69 := k66.chg c69 hb166
  have hb169 : b1 ∉ zp v69 := by
   rcases o69 with h | ⟨b', h, hb'⟩ <;> rw [h]
   ·exact hb166
   have := k66.lt; simp; omega
  have hs := hc.size
  have hs66 := c66.size
  have hs69 := c69.size
  have f66 := yB o66 hfu (by omega)
  have f69 := yB o69 f66 (by omega)
  have hc69 := (hc.own c66 hfu).own c69 f66
  have e69 : ys.length + c.length + (8 - c.length) = ys.length + 8 := by omega
  rw [e69] at i69
  refine ze (ze ?_)
  by_cases hlt : 8 * j + c.length < x.b.size
  ·have hc8' : c.length = 8 := by omega
   refine za (Om rfl (Om rfl ?_))
   refine Og (yE (v' := Ii ((8 * j + c.length : Nat) : Int)) (zI rfl rfl (by omega)) (by congr 1)) rfl ?_
   refine Od zaR rfl ?_
   refine Ol ag9 rfl (k69.cell' (i := 3) rfl) ?_
   refine Og (yS st9 rfl) rfl ?_
   refine Og (vt (zC rfl rfl) (by simp; omega)) rfl ?_
   refine E5 1 3 6 7 76 rfl (zd rfl (Sr (Om rfl ?_)))
   refine zE (gn rfl) (zB zaL rfl (vs := [_]) rfl (css := [_]) ⟨rfl, trivial⟩ rfl rfl (cs := [_]) rfl rfl ?_)
   intro b78 w78 e78 n78 c78 k78
   refine zE (gn rfl) (yt zaL yT rfl rfl (zv.chg0 i69 c78) (zv.of_blk (n := 1) (c := bv [9]) k78 rfl (by simp [maxLen]) (zcd _)) (by simp only [maxLen]; omega) (by omega) rfl ?_)
   intro v79 w79 i79 c79 o79 z79
   refine Oa rfl (E3 1 3 6 rfl ?_)
   refine zM ?_
   repeat first | refine te ?_ | refine bo rfl ?_
   refine zt _ ?_
   refine za (Om rfl ?_)
   refine Og (yE (v' := Ii ((8 * (j + 1) : Nat) : Int)) (zI rfl rfl (by omega)) (by congr 1)) rfl ?_
   refine Oa rfl (N3 1 3 6 rfl ?_)
   have hg := zep (l := r) (by omega)
   have hb78 : b1 ∉ zp v79 := by
    rcases o79 with h | ⟨b', h, hb'⟩ <;> rw [h]
    ·exact hb169
    have := k69.lt; have := c78.size; simp; omega
   refine ⟨201 - (j + 1), by omega, j + 1, rfl, by omega, by omega, v79, rfl, ys ++ (c ++ List.replicate (8 - c.length) 0) ++ [9], ?_, ?_, ?_, yB o79 f69 (by have := c78.size; omega), hb78, (k69.chg0 c78).chg c79 hb169, (hc69.trans c78).own c79 f69⟩
   ·have e : (ys ++ (c ++ List.replicate (8 - c.length) 0) ++ [9]).length = ys.length + 8 + 1 := by simp; omega
    rw [e, yK]
    exact i79
   ·rw [← hys, hg, hc8, hc8', show 8 * (j + 1) = 8 * j + 8 by omega, ← List.drop_drop, hr]
    simp
   simp; omega
  refine za (Om rfl (Om rfl ?_))
  refine Og (yE (v' := Ii ((8 * j + c.length : Nat) : Int)) (zI rfl rfl (by omega)) (by congr 1)) rfl ?_
  refine Od zaR rfl ?_
  refine Ol ag9 rfl (k69.cell' (i := 3) rfl) ?_
  refine Og (yS st9 rfl) rfl ?_
  refine Og (vf (zC rfl rfl) (by simp; omega)) rfl ?_
  refine E5 1 3 6 7 76 rfl (zb rfl (zm (Sr (Om rfl (Om rfl ?_)))))
  refine Og (yq zay zak rfl (show IntKind.u8.wrap ((c.length : Nat) : Int) = (((UInt8.ofNat c.length).toNat : Nat) : Int) by rw [zcV]; simp)) rfl ?_
  refine zE (gn rfl) (zB zaL rfl (vs := [_]) rfl (css := [_]) ⟨rfl, trivial⟩ rfl rfl (cs := [_]) rfl rfl ?_)
  intro b83 w83 e83 n83 c83 k83
  refine zE (gn rfl) (yt zaL yT rfl rfl (zv.chg0 i69 c83) (zv.of_blk (n := 1) (c := bv [UInt8.ofNat c.length]) k83 rfl (by simp [maxLen]) (zcd _)) (by simp only [maxLen]; omega) (by omega) rfl ?_)
  intro v84 w84 i84 c84 o84 z84
  refine Oa rfl (E1 2 rfl (zi ?_))
  repeat first | refine tr ?_ | refine br ?_
  refine zD rfl rfl ?_
  refine ⟨?_, yB o84 f69 (by have := c83.size; omega), (hc69.trans c83).own c84 f69⟩
  have hrc : r = c := by rw [← hc8, List.take_of_length_le (by omega)]
  have e : [a] ++ zda l = ys ++ (c ++ List.replicate (8 - c.length) 0) ++ [UInt8.ofNat c.length] := by
   rw [← hys, zdg (by omega), hrc, zjw]; simp
  rw [e]
  have e2 : (ys ++ (c ++ List.replicate (8 - c.length) 0) ++ [UInt8.ofNat c.length]).length = ys.length + 8 + 1 := by simp; omega
  rw [e2, yK]
  exact i84
 have hT : zfO x = [] := by simp [zfO, h1, h2, h3, h4]
 rw [hT, List.append_nil]
 refine za ?_
 refine Og (vf (zw rfl rfl) (by simp [h4])) rfl ?_
 refine Oa rfl (E3 1 3 48 rfl (zb rfl (ye (zl (Sr (Om rfl (Oa rfl (E1 2 rfl (zi ?_)))))))))
 refine zD rfl rfl ?_
 exact ⟨i11, f11, hc11⟩
theorem zn4 (l : List zQ) (x : zQ) : zb8 l ++ (⟨(zdE x).toArray⟩ : ByteArray) = zb8 (l ++ [x]) := by
 apply zpb
 simp [zb8, zdc]
theorem zvD (v : Value) (l : List zQ) (w : World) (hl : zK w v l) (hc : ∀ x ∈ l, zbi x = 0 ∧ x.Rng) (hn : l.length ≤ 1048576) : z9 TP 64 #[v] w fun r w' => r = .string (zb8 l) ∧ zk [] w w' := by
 obtain ⟨pv, cv, rfl, hcv⟩ := z0.val hl
 refine A1 Tryz.func64 rfl rfl ?_
 refine Sr (Oa rfl (E1 0 rfl (Sr (Oa rfl (E2 0 3 rfl (ze (Sr (Oa rfl (E3 0 3 4 rfl (zq ?_))))))))))
 refine zW [0, 3, 4] (fun m F wx => ∃ j : Nat, m = l.length - j ∧ j ≤ l.length ∧ F = [(0, .slice pv l.length cv), (3, .string (zb8 (l.take j))), (4, Ii j)] ∧ zk [] w wx) (m := l.length - 0) ⟨0, rfl, Nat.zero_le _, rfl, zk.refl _ _⟩ ?_
 rintro m F wx ⟨j, rfl, hj, rfl, hcx⟩
 refine ze (ze ?_)
 by_cases hlt : j < l.length
 ·refine za (Om rfl (Om rfl (On zao rfl ?_)))
  refine Og (vt (zC rfl rfl) (by simp; omega)) rfl ?_
  refine E4 0 3 4 8 rfl (zd rfl (zm ?_))
  have hx : l[j]? = some l[j] := by simp [hlt]
  have htk := List.take_succ_eq_append_getElem hlt
  generalize l[j] = x at hx htk
  obtain ⟨hxc, hxg⟩ := hc x (List.mem_of_getElem? hx)
  obtain ⟨b, off, cap, hve, hcell⟩ := z0.at zbq (z0.chg0 hl hcx) hx
  cases hve
  have hkl := zhG hxc
  have hks : (zb8 (l.take j)).size ≤ 235 * j := by
   have := zfY (l := l.take j) (fun y hy => (hc y (List.mem_of_mem_take hy)).1)
   rw [List.length_take] at this
   show (zdc (l.take j)).toArray.size ≤ _
   rw [List.size_toArray]
   have : 235 * min j l.length ≤ 235 * j := Nat.mul_le_mul_left _ (Nat.min_le_left _ _)
   omega
  have hvs : (⟨(zdE x).toArray⟩ : ByteArray).size = (zdE x).length := by
   show (zdE x).toArray.size = _
   simp
  refine ze (zq (za (Om rfl (Om rfl (Om rfl ?_)))))
  refine Og (zf zao y6 rfl rfl _ rfl hlt) rfl ?_
  refine Og (zg zbp y6 rfl rfl hcell) rfl ?_
  refine Oc zxK rfl rfl rfl (zw6 x _ hxc hxg) ?_
  rintro v16 w16 ⟨i16, f16, c16⟩
  refine Og (zfk (l := zdE x) yT zay st9 rfl i16.rd) rfl ?_
  refine Og (zub rfl rfl (by rw [hvs]; omega)) rfl ?_
  refine Oa rfl (N3 0 3 4 rfl (zl (za (Om rfl ?_))))
  refine Og (zI rfl rfl (by omega)) rfl ?_
  refine Oa rfl (N3 0 3 4 rfl ?_)
  refine ⟨l.length - (j + 1), by omega, j + 1, rfl, by omega, ?_, hcx.trans c16⟩
  rw [htk, ← zn4]; rfl
 refine za (Om rfl (Om rfl (On zao rfl ?_)))
 refine Og (vf (zC rfl rfl) (by simp; omega)) rfl ?_
 refine E4 0 3 4 8 rfl (zb rfl ?_)
 refine zM ?_
 repeat first | refine te ?_ | refine bo rfl ?_
 refine zt _ ?_
 refine Sr (Om rfl (Oa rfl (E1 2 rfl (zi ?_))))
 refine zD rfl rfl ?_
 rw [List.take_of_length_le (by omega)]
 exact ⟨rfl, hcx⟩
def yl (w : World) (v : Value) (ls : LV) : Prop := ∃ vs, zv w 48 1 v ls.length vs ∧ ym w 40 4 zQ.cs vs ls
theorem yl.chg0 {w w' : World} {v : Value} {ls : LV} (h : yl w v ls) (hc : zk [] w w') : yl w' v ls := let ⟨vs, h1, h2⟩ := h; ⟨vs, zv.chg0 h1 hc, h2.chg0 hc⟩
theorem yl.rows {w : World} {v : Value} {ls : LV} (h : yl w v ls) : zcO w v ls := let ⟨vs, h1, h2⟩ := h; ⟨vs, h1.toOu, h2.arr⟩
theorem yl.nil (w : World) : yl w (.slice none 0 0) [] := ⟨[], zv.nil _ _ _, trivial⟩
theorem yl.val {w : World} {v : Value} {ls : LV} (h : yl w v ls) : ∃ p c, v = .slice p ls.length c ∧ ls.length ≤ c := let ⟨_, h1, _⟩ := h; zv.val h1
theorem yl.at {w : World} {v : Value} {ls : LV} (h : yl w v ls) {i : Nat} {l : List zQ} (hi : ls[i]? = some l) : ∃ b off cap u, v = .slice (some ⟨b, off, none⟩) ls.length cap ∧ w.cell? ⟨b, off + i * 1, none⟩ = some u ∧ zbd w u l := by
 obtain ⟨vs, h1, h2⟩ := h
 obtain ⟨u, hu, ha⟩ := h2.at hi
 obtain ⟨b, off, cap, u', hv, hu', hc⟩ := Rd.at1 h1.toRd (List.getElem?_eq_some_iff.1 hi).1
 rw [hu] at hu'
 cases hu'
 exact ⟨b, off, cap, u, hv, hc, ha⟩
theorem yl.chgB {w w' : World} {v : Value} {ls : LV} (h : yl w v ls) {b : Nat} {e' : TypeId} {c : List Value} (hb : zU w b e' c) (h1 : Nat.beq 48 e' = false) (h2 : Nat.beq 40 e' = false) (hc : zk [b] w w') : yl w' v ls :=
 let ⟨vs, g1, g2⟩ := h
 ⟨vs, zv.chg g1 hc (zv.apart g1 hb h1), g2.chg hc (g2.apart hb h2)⟩
theorem yl.push {w w' w'' : World} {x x' v : Value} {ls : LV} {r : List zQ} {vs : List Value} (h1 : zv w 48 1 x ls.length vs) (h2 : ym w 40 4 zQ.cs vs ls) (h3 : zbd w v r) (hc : zk [] w w') (i : zv w'' 48 1 x' (ls.length + 1) (vs ++ [v])) (hc' : zk (zp x) w' w'') : yl w'' x' (ls ++ [r]) := by
 have h4 : ym w' 40 4 zQ.cs (vs ++ [v]) (ls ++ [r]) := ym.append (h2.chg0 hc) ⟨yw.chg0 h3 hc, trivial⟩
 refine ⟨vs ++ [v], ?_, h4.chg hc' (h4.apartSl (zv.chg0 h1 hc) rfl)⟩
 rw [List.length_append]
 exact i
structure yx (w : World) (c k u o : Value) (s : yo) (rows : LV) : Prop where
 sch : yO w c k u s
 rws : yl w o rows
 ok : y4 s rows
 nm : ∀ c ∈ s.cols, c.n.size ≤ 1048576
theorem yx.chg0 {w w' : World} {c k u o : Value} {s : yo} {rows : LV} (h : yx w c k u o s rows) (hc : zk [] w w') : yx w' c k u o s rows := ⟨h.sch.chg0 hc, h.rws.chg0 hc, h.ok, h.nm⟩
theorem yx.one {w : World} {c k u : Value} {s : yo} (h : yO w c k u s) (p : Option Addr) (n q : Nat) : ∀ y ∈ [c, k, u, .slice p n q], y.oneCell' = true := by
 intro y hy
 simp only [List.mem_cons, List.not_mem_nil, or_false] at hy
 rcases hy with rfl | rfl | rfl | rfl
 ·exact h.one _ (by simp)
 ·exact h.one _ (by simp)
 ·exact h.one _ (by simp)
 rfl
theorem zlN {s : yo} {st : List Int} (hr : yP s = true) (hs : st ∈ zN s) : st.length ≤ 1048576 := by
 have := (zax (zbT hr st hs)).1.2
 omega
theorem zjH {s : yo} {r : List zQ} (h : yV s r = 0) {st : List Int} (hs : st ∈ zN s) : ∀ i ∈ st, 0 ≤ i ∧ i < r.length := by
 obtain ⟨hr, hl, _⟩ := zam h
 rw [hl]
 exact (zax (zbT hr st hs)).2.1
theorem zcK (c k u o v : Value) (s : yo) (rows : LV) (row : List zQ) (w : World) (h : yx w c k u o s rows) (hl : zK w v row) (hf : yV s row = 0) (hg : ∀ x ∈ row, x.Rng) :
 z9 TP 22 #[.agg #[c, k, u, o], v] w fun r w' => r = .string (zV s row) ∧ zk [] w w' := by
 have hkl := zlN (zam hf).1 (zcU s)
 refine A2 Tryz.func22 rfl rfl ?_
 refine Sr ?_
 refine Ob rfl rfl ?_
 intro b2 w2 e2 n2 c2 k2
 refine Oa rfl (E2 1 2 rfl (Sr (Om rfl (Od zdU rfl (Od zaK rfl ?_)))))
 refine Ol za3 rfl (k2.cell' (i := 1) rfl) ?_
 refine Oc zxk rfl rfl rfl (zoZ _ _ _ _ _ (z0.chg0 hl c2) (h.sch.key.chg0 c2) (zjH hf (zcU s)) hkl) ?_
 rintro v12 w12 ⟨u12, rfl, i12, f12, c12⟩
 refine Om rfl (Oe rfl rfl (Oe rfl rfl (Oa rfl (Oa rfl (E1 5 rfl (Sr (Om rfl ?_)))))))
 refine Oc zxS rfl rfl rfl (zvD _ _ _ i12.arr (fun x hx => ⟨zgh hf x (zeb hf (zcU s) x hx), hg x (zeb hf (zcU s) x hx)⟩) (by rw [zeZ]; exact hkl)) ?_
 rintro v16 w16 ⟨rfl, c16⟩
 refine Oa rfl (E1 4 rfl (zi ?_))
 refine zD rfl rfl ?_
 exact ⟨rfl, (c2.trans c12).trans c16⟩
theorem zrv (va vb vi : Value) (a b : List zQ) (st : List Int) (w : World) (ha : zK w va a) (hb : zK w vb b) (hi : yC w vi st) (hra : ∀ i ∈ st, 0 ≤ i ∧ i < a.length) (hrb : ∀ i ∈ st, 0 ≤ i ∧ i < b.length) (hn : st.length ≤ 1048576) :
 z9 TP 135 #[va, vb, vi] w fun r w' => r = .bool (zaE a b st) ∧ zk [] w w' := by
 obtain ⟨pa, ca, rfl, hca⟩ := z0.val ha
 obtain ⟨pb, cb, rfl, hcb⟩ := z0.val hb
 obtain ⟨pi, ci, rfl, hci⟩ := z0.val hi
 refine A3 Tryz.func135 rfl rfl ?_
 refine Sr (Oa rfl (E3 0 1 2 rfl (ze (Sr (Oa rfl (E4 0 1 2 7 rfl (zq ?_)))))))
 refine zW [0, 1, 2, 7] (fun m F wx => ∃ j : Nat, m = st.length - j ∧ j ≤ st.length ∧ F = [(0, .slice pa a.length ca), (1, .slice pb b.length cb), (2, .slice pi st.length ci), (7, Ii j)] ∧ zaE a b (st.take j) = true ∧ zk [] w wx) (m := st.length - 0) ⟨0, rfl, Nat.zero_le _, rfl, rfl, zk.refl _ _⟩ ?_
 rintro m F wx ⟨j, rfl, hj, rfl, hok, hcx⟩
 refine ze (ze ?_)
 by_cases hlt : j < st.length
 ·refine za (Om rfl (Om rfl (On zab rfl ?_)))
  refine Og (vt (zC rfl rfl) (by simp; omega)) rfl ?_
  refine E5 0 1 2 7 11 rfl (zd rfl (zm ?_))
  have hx : st[j]? = some st[j] := by simp [hlt]
  have htk := List.take_succ_eq_append_getElem hlt
  have hmem := List.getElem_mem hlt
  generalize st[j] = i at hx htk hmem
  obtain ⟨ha0, ha1⟩ := hra i hmem
  obtain ⟨hb0, hb1⟩ := hrb i hmem
  obtain ⟨i, rfl⟩ : ∃ k : Nat, i = (k : Int) := ⟨i.toNat, by omega⟩
  have hia : i < a.length := by omega
  have hib : i < b.length := by omega
  have hxa : a[i]? = some (zcv a (i : Int)) := (zej rfl ⟨ha0, ha1⟩).2
  have hxb : b[i]? = some (zcv b (i : Int)) := (zej rfl ⟨hb0, hb1⟩).2
  have hstep : zaE a b (st.take (j + 1)) = (decide ((zcv a (i : Int)).k ≠ 0) && decide (zcv a (i : Int) = zcv b (i : Int))) := by
   unfold zaE at hok ⊢
   rw [htk, List.all_append, hok]
   simp
  have hfail : zaE a b (st.take (j + 1)) = false → zaE a b st = false := fun h => by
   unfold zaE at h ⊢
   rw [← List.take_append_drop (j + 1) st, List.all_append, h, Bool.false_and]
  generalize zcv a (i : Int) = x at *
  generalize zcv b (i : Int) = y at *
  obtain ⟨bi, oi, cpi, hve, -⟩ := yC.cell hi hx
  cases hve
  obtain ⟨ba, oa, cpa, hve, -⟩ := z0.at zbq ha hxa
  cases hve
  obtain ⟨bb, ob, cpb, hve, -⟩ := z0.at zbq hb hxb
  cases hve
  have hce : ∀ {wz : World}, zk [] wx wz → wz.cell? ⟨bi, oi + j * 1, none⟩ = some (Ii (i : Int)) ∧ zy wz ba (oa + i * 4) x.cs ∧ zy wz bb (ob + i * 4) y.cs := fun hc => by
   obtain ⟨_, _, _, he, h1⟩ := yC.cell (z0.chg0 hi (hcx.trans hc)) hx
   cases he
   obtain ⟨_, _, _, he, h2⟩ := z0.at zbq (z0.chg0 ha (hcx.trans hc)) hxa
   cases he
   obtain ⟨_, _, _, he, h3⟩ := z0.at zbq (z0.chg0 hb (hcx.trans hc)) hxb
   cases he
   exact ⟨h1, h2, h3⟩
  refine ze (zq (ze ?_))
  by_cases h0 : x.k = 0
  ·refine zJ (fun wz => zk [] wx wz) mix (zjq (by kernel_rfl)) (zk.drew [] wx) ?_
   refine Tm rfl (Tm rfl (Tm rfl ?_))
   refine Tp (fun _ => zf zab sz3 rfl rfl _ rfl hlt) rfl ?_
   refine Tr (fun wz hz => zh ag3 rfl (hce hz).1) rfl ?_
   refine Tp (fun _ => zf zao y6 rfl rfl _ rfl hia) rfl ?_
   refine Td zaw rfl ?_
   refine Tr (fun wz hz => zh zcm rfl ((hce hz).2.1 0 _ rfl)) rfl ?_
   refine Tp (fun _ => vt (zw rfl rfl) (by simp [h0])) rfl ?_
   refine Tm rfl (Tz rfl rfl (Tz rfl rfl (Tz rfl rfl (Tz rfl rfl (Tz rfl rfl (Tz rfl rfl (Tz rfl rfl (Tz rfl rfl (Tz rfl rfl (Tz rfl rfl (Tz rfl rfl (Tz rfl rfl (Tz rfl rfl ?_)))))))))))))
   refine Tz rfl rfl (Tz rfl rfl ?_)
   refine Tp (fun _ => zL rfl rfl) rfl ?_
   refine D5 0 1 2 7 39 rfl (zd rfl (Sr (Oa rfl (E1 6 rfl (zi ?_)))))
   repeat first | refine tr ?_ | refine br ?_
   refine zD rfl rfl ?_
   exact ⟨by rw [hfail (by rw [hstep]; simp [h0])], hcx.trans (zk.drew [] _)⟩
  refine zJ (fun wz => zk [] wx wz) mix (zjq (by kernel_rfl)) (zk.drew [] wx) ?_
  refine Tm rfl (Tm rfl (Tm rfl ?_))
  refine Tp (fun _ => zf zab sz3 rfl rfl _ rfl hlt) rfl ?_
  refine Tr (fun wz hz => zh ag3 rfl (hce hz).1) rfl ?_
  refine Tp (fun _ => zf zao y6 rfl rfl _ rfl hia) rfl ?_
  refine Td zaw rfl ?_
  refine Tr (fun wz hz => zh zcm rfl ((hce hz).2.1 0 _ rfl)) rfl ?_
  refine Tp (fun _ => vf (zw rfl rfl) (by simp [h0])) rfl ?_
  refine Tm rfl (Tq rfl rfl rfl (Tq rfl rfl rfl (Tq rfl rfl rfl ?_)))
  refine Tg rfl rfl (fun _ => zf zab sz3 rfl rfl _ rfl hlt) rfl ?_
  refine Ts rfl rfl (fun wz hz => zh ag3 rfl (hce hz).1) rfl ?_
  refine Tg rfl rfl (fun _ => zf zao y6 rfl rfl _ rfl hia) rfl ?_
  refine Ts rfl rfl (fun wz hz => zg zbp y6 rfl rfl (hce hz).2.1) rfl ?_
  refine Tq rfl rfl rfl (Tq rfl rfl rfl (Tq rfl rfl rfl ?_))
  refine Tg rfl rfl (fun _ => zf zab sz3 rfl rfl _ rfl hlt) rfl ?_
  refine Ts rfl rfl (fun wz hz => zh ag3 rfl (hce hz).1) rfl ?_
  refine Tg rfl rfl (fun _ => zf zao y6 rfl rfl _ rfl hib) rfl ?_
  refine Ts rfl rfl (fun wz hz => zg zbp y6 rfl rfl (hce hz).2.2) rfl ?_
  refine Tg rfl rfl (fun _ => zhN zrg rfl rfl (zme x y)) rfl ?_
  refine Tp (fun _ => zT rfl rfl) rfl ?_
  refine D5 0 1 2 7 39 rfl ?_
  by_cases hxy : x = y
  ·refine zb (by simp [hxy]; rfl) ?_
   refine ye (zl (za (Om rfl ?_)))
   refine Og (zI rfl rfl (by omega)) rfl ?_
   refine Oa rfl (N4 0 1 2 7 rfl ?_)
   exact ⟨st.length - (j + 1), by omega, j + 1, rfl, by omega, rfl, by rw [hstep]; simp [hxy]; simpa [hxy] using h0, hcx.trans (zk.drew [] _)⟩
  refine zd (by simp [hxy]; rfl) ?_
  refine Sr (Oa rfl (E1 6 rfl (zi ?_)))
  repeat first | refine tr ?_ | refine br ?_
  refine zD rfl rfl ?_
  exact ⟨by rw [hfail (by rw [hstep]; simp [hxy])], hcx.trans (zk.drew [] _)⟩
 refine za (Om rfl (Om rfl (On zab rfl ?_)))
 refine Og (vf (zC rfl rfl) (by simp; omega)) rfl ?_
 refine E5 0 1 2 7 11 rfl (zb rfl ?_)
 refine zM ?_
 repeat first | refine te ?_ | refine bo rfl ?_
 refine zt _ ?_
 refine Sr (Oa rfl (E1 6 rfl (zi ?_)))
 refine zD rfl rfl ?_
 rw [List.take_of_length_le (by omega)] at hok
 exact ⟨by rw [hok], hcx⟩
theorem ziX (c k u o va vb : Value) (s : yo) (rows : LV) (a b : List zQ) (w : World) (h : yx w c k u o s rows) (ha : zK w va a) (hb : zK w vb b) (hfa : yV s a = 0) (hfb : yV s b = 0) :
 z9 TP 90 #[.agg #[c, k, u, o], va, vb] w fun r w' => r = .bool (yM s a b) ∧ zk [] w w' := by
 obtain ⟨pa, ca, rfl, hca⟩ := z0.val ha
 obtain ⟨pb, cb, rfl, hcb⟩ := z0.val hb
 have hr := h.ok.right
 refine A3 Tryz.func90 rfl rfl ?_
 refine Sr ?_
 refine Ob rfl rfl ?_
 intro b3 w3 e3 n3 c3 k3
 refine Oa rfl (E3 1 2 3 rfl (Sr (Od zdU rfl ?_)))
 refine Og (zg zaW zaX rfl rfl (zy.of_blk k3 0 [c, k, u] ⟨[_], rfl⟩)) rfl ?_
 refine Oc zvC rfl rfl rfl (zo4 _ _ _ s _ (h.sch.chg0 c3) hr h.nm) ?_
 rintro v11 w11 ⟨i11, f11, c11⟩
 refine Oa rfl (E3 1 2 7 rfl ?_)
 have hc11 := c3.trans c11
 obtain ⟨ps, cs, rfl, hcs⟩ := zaI.val i11
 have hsl : (zN s).length ≤ 1048576 := by have := (zX hr).2.1; simp [zN]; omega
 refine ze (Sr (Oa rfl (E4 1 2 7 8 rfl (zq ?_))))
 refine zW [1, 2, 7, 8] (fun m F wx => ∃ j : Nat, m = (zN s).length - j ∧ j ≤ (zN s).length ∧ F = [(1, .slice pa a.length ca), (2, .slice pb b.length cb), (7, .slice ps (zN s).length cs), (8, Ii j)] ∧ ((zN s).take j).any (zaE a b) = false ∧ zk [] w11 wx) (m := (zN s).length - 0) ⟨0, rfl, Nat.zero_le _, rfl, rfl, zk.refl _ _⟩ ?_
 rintro m F wx ⟨j, rfl, hj, rfl, hok, hcx⟩
 refine ze (ze ?_)
 by_cases hlt : j < (zN s).length
 ·refine za (Om rfl (Om rfl (On zaq rfl ?_)))
  refine Og (vt (zC rfl rfl) (by simp; omega)) rfl ?_
  refine E5 1 2 7 8 15 rfl (zd rfl (zm ?_))
  have hx : (zN s)[j]? = some (zN s)[j] := by simp [hlt]
  have htk := List.take_succ_eq_append_getElem hlt
  have hmem := List.getElem_mem hlt
  generalize (zN s)[j] = st at hx htk hmem
  obtain ⟨bi, oi, cpi, vi, hve, hcell, hint⟩ := zaI.at (i11.chg0 hcx) hx
  cases hve
  refine ze (zq (Sr (Om rfl (Om rfl (Om rfl (Om rfl ?_))))))
  refine Og (zf zaq zeA rfl rfl _ rfl hlt) rfl ?_
  refine Ol za3 rfl hcell ?_
  refine Oc zva rfl rfl rfl (zrv _ _ _ a b st _ (z0.chg0 ha (hc11.trans hcx)) (z0.chg0 hb (hc11.trans hcx)) hint (zjH hfa hmem) (zjH hfb hmem) (zlN hr hmem)) ?_
  rintro v24 w24 ⟨rfl, c24⟩
  refine E5 1 2 7 8 24 rfl ?_
  cases hcl : zaE a b st with
  | true =>
   refine zd rfl (Sr (Oa rfl (E1 6 rfl (zi ?_))))
   repeat first | refine tr ?_ | refine br ?_
   refine zD rfl rfl ?_
   have e : yM s a b = true := List.any_eq_true.2 ⟨st, hmem, hcl⟩
   exact ⟨by rw [e], (hc11.trans hcx).trans c24⟩
  | false =>
   refine zb rfl (ye (zl (za (Om rfl ?_))))
   refine Og (zI rfl rfl (by omega)) rfl ?_
   refine Oa rfl (N4 1 2 7 8 rfl ?_)
   exact ⟨(zN s).length - (j + 1), by omega, j + 1, rfl, by omega, rfl, by rw [htk, List.any_append, hok]; simp [hcl], hcx.trans c24⟩
 refine za (Om rfl (Om rfl (On zaq rfl ?_)))
 refine Og (vf (zC rfl rfl) (by simp; omega)) rfl ?_
 refine E5 1 2 7 8 15 rfl (zb rfl ?_)
 refine zM ?_
 repeat first | refine te ?_ | refine bo rfl ?_
 refine zt _ ?_
 refine Sr (Oa rfl (E1 6 rfl (zi ?_)))
 refine zD rfl rfl ?_
 rw [List.take_of_length_le (by omega)] at hok
 exact ⟨by unfold yM; rw [hok], hc11.trans hcx⟩
theorem zmV (c k u o va : Value) (s : yo) (rows : LV) (row : List zQ) (but : ByteArray) (w : World) (h : yx w c k u o s rows) (ha : zK w va row) (hf : yV s row = 0) :
 z9 TP 88 #[.agg #[c, k, u, o], va, .string but] w fun r w' => r = .bool (zb0 s rows row but) ∧ zk [] w w' := by
 obtain ⟨pa, ca, rfl, hca⟩ := z0.val ha
 obtain ⟨po, co, rfl, hco⟩ := h.rws.val
 have hr := h.ok.right
 have hrl := h.ok.le
 refine A3 Tryz.func88 rfl rfl ?_
 refine Sr ?_
 refine Ob rfl rfl ?_
 intro b3 w3 e3 n3 c3 k3
 refine Oa rfl (E3 1 2 3 rfl (ze (Sr (Oa rfl (E4 1 2 3 7 rfl (zq ?_))))))
 refine zW [1, 2, 3, 7] (fun m F wx => ∃ j : Nat, m = rows.length - j ∧ j ≤ rows.length ∧ F = [(1, .slice pa row.length ca), (2, .string but), (3, Pt b3), (7, Ii j)] ∧ (rows.take j).any (fun r => decide (zV s r ≠ but) && yM s r row) = false ∧ zk [] w3 wx) (m := rows.length - 0) ⟨0, rfl, Nat.zero_le _, rfl, rfl, zk.refl _ _⟩ ?_
 rintro m F wx ⟨j, rfl, hj, rfl, hok, hcx⟩
 have k3x := k3.chg0 hcx
 refine ze (ze ?_)
 by_cases hlt : j < rows.length
 ·refine za (Om rfl (Od yr rfl ?_))
  refine Ol zaD rfl (k3x.cell' (i := 3) rfl) ?_
  refine On zah rfl ?_
  refine Og (vt (zC rfl rfl) (by simp; omega)) rfl ?_
  refine E5 1 2 3 7 12 rfl (zd rfl (zm ?_))
  have hx : rows[j]? = some rows[j] := by simp [hlt]
  have htk := List.take_succ_eq_append_getElem hlt
  have hmem := List.getElem_mem hlt
  generalize rows[j] = r at hx htk hmem
  have hfr := h.ok.fit r hmem
  have hgr := h.ok.rng r hmem
  obtain ⟨bo, oo, cpo, vr, hve, hcell, hvr⟩ := (h.rws.chg0 (c3.trans hcx)).at hx
  cases hve
  have hce : ∀ {wz : World}, zk [] wx wz → yx wz c k u (.slice (some ⟨bo, oo, none⟩) rows.length co) s rows ∧ zU wz b3 54 [c, k, u, .slice (some ⟨bo, oo, none⟩) rows.length co] ∧ wz.cell? ⟨bo, oo + j * 1, none⟩ = some vr ∧ zK wz vr r ∧ zK wz (.slice pa row.length ca) row := fun hc => by
   have hcc := (c3.trans hcx).trans hc
   exact ⟨h.chg0 hcc, k3x.chg0 hc, hc.cell hcell, (yw.chg0 hvr hc).arr, z0.chg0 ha hcc⟩
  refine ze (zq (ze ?_))
  by_cases hk : zV s r = but
  ·refine zJ (fun wz => zk [] wx wz) mix (by kernel_rfl) (zk.drew [] wx) ?_
   refine Tr (fun wz hz => zg yz ya rfl rfl (zy.of_blk0 (hce hz).2.1)) rfl ?_
   refine Td yr rfl ?_
   refine Tr (fun wz hz => zh zaD rfl ((hce hz).2.1.cell' (i := 3) rfl)) rfl ?_
   refine Tm rfl ?_
   refine Tp (fun _ => zf zah zcr rfl rfl _ rfl hlt) rfl ?_
   refine Tr (fun wz hz => zh za7 rfl (hce hz).2.2.1) rfl ?_
   refine Tc zfX rfl rfl rfl (zcK _ _ _ _ _ s rows r _ (hce (zk.drew [] _)).1 (hce (zk.drew [] _)).2.2.2.1 hfr hgr) ?_
   rintro v21 w21 ⟨rfl, c21⟩
   refine ⟨.inl ((zk.drew [] _).trans c21), ?_⟩
   refine Tm rfl ?_
   refine Tp (fun _ => vf (zcH rfl rfl) (by simp [hk])) rfl ?_
   refine Tm rfl (Tz rfl rfl (Tz rfl rfl (Tz rfl rfl (Tz rfl rfl (Tz rfl rfl (Tz rfl rfl (Tz rfl rfl (Tz rfl rfl ?_))))))))
   refine Tp (fun _ => zT rfl rfl) rfl ?_
   refine D5 1 2 3 7 33 rfl (zb rfl (ye (zl (za (Om rfl ?_)))))
   refine Og (zI rfl rfl (by omega)) rfl ?_
   refine Oa rfl (N4 1 2 3 7 rfl ?_)
   exact ⟨rows.length - (j + 1), by omega, j + 1, rfl, by omega, rfl, by rw [htk, List.any_append, hok]; simp [hk], (hcx.trans (zk.drew [] _)).trans c21⟩
  refine zJ (fun wz => zk [] wx wz) mix (by kernel_rfl) (zk.drew [] wx) ?_
  refine Tr (fun wz hz => zg yz ya rfl rfl (zy.of_blk0 (hce hz).2.1)) rfl ?_
  refine Td yr rfl ?_
  refine Tr (fun wz hz => zh zaD rfl ((hce hz).2.1.cell' (i := 3) rfl)) rfl ?_
  refine Tm rfl ?_
  refine Tp (fun _ => zf zah zcr rfl rfl _ rfl hlt) rfl ?_
  refine Tr (fun wz hz => zh za7 rfl (hce hz).2.2.1) rfl ?_
  refine Tc zfX rfl rfl rfl (zcK _ _ _ _ _ s rows r _ (hce (zk.drew [] _)).1 (hce (zk.drew [] _)).2.2.2.1 hfr hgr) ?_
  rintro v21 w21 ⟨rfl, c21⟩
  refine ⟨.inl ((zk.drew [] _).trans c21), ?_⟩
  refine Tm rfl ?_
  refine Tp (fun _ => vt (zcH rfl rfl) (by simp [hk])) rfl ?_
  refine Tm rfl ?_
  refine Ts rfl rfl (fun wz hz => zg yz ya rfl rfl (zy.of_blk0 (hce hz).2.1)) rfl ?_
  refine Tg rfl rfl (fun _ => zj yr rfl) rfl ?_
  refine Ts rfl rfl (fun wz hz => zh zaD rfl ((hce hz).2.1.cell' (i := 3) rfl)) rfl ?_
  refine Tq rfl rfl rfl ?_
  refine Tg rfl rfl (fun _ => zf zah zcr rfl rfl _ rfl hlt) rfl ?_
  refine Ts rfl rfl (fun wz hz => zh za7 rfl (hce hz).2.2.1) rfl ?_
  refine Tq rfl rfl rfl ?_
  refine Tv rfl rfl zvc rfl rfl rfl (ziX _ _ _ _ _ _ s rows r row _ (hce ((zk.drew [] _).trans c21)).1 (hce ((zk.drew [] _).trans c21)).2.2.2.1 (hce ((zk.drew [] _).trans c21)).2.2.2.2 hfr hf) ?_
  rintro v32 w32 ⟨rfl, c32⟩
  refine ⟨.inl (((zk.drew [] _).trans c21).trans c32), ?_⟩
  refine Tp (fun _ => zL rfl rfl) rfl ?_
  refine D5 1 2 3 7 33 rfl ?_
  cases hcl : yM s r row with
  | false =>
   refine zb rfl (ye (zl (za (Om rfl ?_))))
   refine Og (zI rfl rfl (by omega)) rfl ?_
   refine Oa rfl (N4 1 2 3 7 rfl ?_)
   exact ⟨rows.length - (j + 1), by omega, j + 1, rfl, by omega, rfl, by rw [htk, List.any_append, hok]; simp [hcl], ((hcx.trans (zk.drew [] _)).trans c21).trans c32⟩
  | true =>
   refine zd rfl (Sr (Oa rfl (E1 6 rfl (zi ?_))))
   repeat first | refine tr ?_ | refine br ?_
   refine zD rfl rfl ?_
   have e : zb0 s rows row but = true := List.any_eq_true.2 ⟨r, hmem, by simp [hk, hcl]⟩
   exact ⟨by rw [e], (((c3.trans hcx).trans (zk.drew [] _)).trans c21).trans c32⟩
 refine za (Om rfl (Od yr rfl ?_))
 refine Ol zaD rfl (k3x.cell' (i := 3) rfl) ?_
 refine On zah rfl ?_
 refine Og (vf (zC rfl rfl) (by simp; omega)) rfl ?_
 refine E5 1 2 3 7 12 rfl (zb rfl ?_)
 refine zM ?_
 repeat first | refine te ?_ | refine bo rfl ?_
 refine zt _ ?_
 refine Sr (Oa rfl (E1 6 rfl (zi ?_)))
 refine zD rfl rfl ?_
 rw [List.take_of_length_le (by omega)] at hok
 exact ⟨by unfold zb0; rw [hok], c3.trans hcx⟩
theorem ztV {α : Type} {p : α → Bool} {l : List α} {j : Nat} {x : α} (hx : l[j]? = some x) (h : (l.take j).any p = false) (hp : p x = true) : l.find? p = some x := by
 obtain ⟨hlt, rfl⟩ := List.getElem?_eq_some_iff.1 hx
 have e : l = l.take j ++ l[j] :: l.drop (j + 1) := by rw [List.getElem_cons_drop, List.take_append_drop]
 have hn : (l.take j).find? p = none := List.find?_eq_none.2 fun y hy => by
  have := List.any_eq_false.1 h y hy
  simpa using this
 conv => lhs; rw [e]
 rw [List.find?_append, hn, List.find?_cons, hp]
 rfl
theorem zpQ {α : Type} {p : α → Bool} {l : List α} (h : l.any p = false) : l.find? p = none := List.find?_eq_none.2 fun y hy => by
 have := List.any_eq_false.1 h y hy
 simpa using this
theorem zmR (c k u o : Value) (s : yo) (rows : LV) (key : ByteArray) (w : World) (h : yx w c k u o s rows) :
 z9 TP 24 #[.agg #[c, k, u, o], .string key] w fun r w' => ∃ i : Int, r = Ii i ∧ ((i = -1 ∧ zca s rows key = none) ∨ ∃ (j : Nat) (x : List zQ), i = j ∧ rows[j]? = some x ∧ zca s rows key = some x) ∧ zk [] w w' := by
 obtain ⟨po, co, rfl, hco⟩ := h.rws.val
 have hrl := h.ok.le
 refine A2 Tryz.func24 rfl rfl ?_
 refine Sr ?_
 refine Ob rfl rfl ?_
 intro b2 w2 e2 n2 c2 k2
 refine Oa rfl (E2 1 2 rfl (ze (Sr (Oa rfl (E3 1 2 5 rfl (zq ?_))))))
 refine zW [1, 2, 5] (fun m F wx => ∃ j : Nat, m = rows.length - j ∧ j ≤ rows.length ∧ F = [(1, .string key), (2, Pt b2), (5, Ii j)] ∧ (rows.take j).any (fun r => decide (zV s r = key)) = false ∧ zk [] w2 wx) (m := rows.length - 0) ⟨0, rfl, Nat.zero_le _, rfl, rfl, zk.refl _ _⟩ ?_
 rintro m F wx ⟨j, rfl, hj, rfl, hok, hcx⟩
 have k2x := k2.chg0 hcx
 refine ze (ze ?_)
 by_cases hlt : j < rows.length
 ·refine za (Om rfl (Od yr rfl ?_))
  refine Ol zaD rfl (k2x.cell' (i := 3) rfl) ?_
  refine On zah rfl ?_
  refine Og (vt (zC rfl rfl) (by simp; omega)) rfl ?_
  refine E4 1 2 5 10 rfl (zd rfl (zm ?_))
  have hx : rows[j]? = some rows[j] := by simp [hlt]
  have htk := List.take_succ_eq_append_getElem hlt
  have hmem := List.getElem_mem hlt
  generalize rows[j] = r at hx htk hmem
  have hfr := h.ok.fit r hmem
  have hgr := h.ok.rng r hmem
  obtain ⟨bo, oo, cpo, vr, hve, hcell, hvr⟩ := (h.rws.chg0 (c2.trans hcx)).at hx
  cases hve
  have hce : ∀ {wz : World}, zk [] wx wz → yx wz c k u (.slice (some ⟨bo, oo, none⟩) rows.length co) s rows ∧ zU wz b2 54 [c, k, u, .slice (some ⟨bo, oo, none⟩) rows.length co] ∧ wz.cell? ⟨bo, oo + j * 1, none⟩ = some vr ∧ zK wz vr r := fun hc => ⟨h.chg0 ((c2.trans hcx).trans hc), k2x.chg0 hc, hc.cell hcell, (yw.chg0 hvr hc).arr⟩
  refine ze (zq (ze ?_))
  by_cases hk : zV s r = key
  ·refine zJ (fun wz => zk [] wx wz) mix (by kernel_rfl) (zk.drew [] wx) ?_
   refine Tr (fun wz hz => zg yz ya rfl rfl (zy.of_blk0 (hce hz).2.1)) rfl ?_
   refine Td yr rfl ?_
   refine Tr (fun wz hz => zh zaD rfl ((hce hz).2.1.cell' (i := 3) rfl)) rfl ?_
   refine Tm rfl ?_
   refine Tp (fun _ => zf zah zcr rfl rfl _ rfl hlt) rfl ?_
   refine Tr (fun wz hz => zh za7 rfl (hce hz).2.2.1) rfl ?_
   refine Tc zfX rfl rfl rfl (zcK _ _ _ _ _ s rows r _ (hce (zk.drew [] _)).1 (hce (zk.drew [] _)).2.2.2 hfr hgr) ?_
   rintro v19 w19 ⟨rfl, c19⟩
   refine ⟨.inl ((zk.drew [] _).trans c19), ?_⟩
   refine Tm rfl ?_
   refine Tp (fun _ => vt (zjB rfl rfl) (by simp [hk])) rfl ?_
   refine D4 1 2 5 21 rfl (zd rfl (Sr (Om rfl (Oa rfl (E1 4 rfl (zi ?_))))))
   repeat first | refine tr ?_ | refine br ?_
   refine zD rfl rfl ?_
   exact ⟨_, rfl, .inr ⟨j, r, rfl, hx, ztV hx hok (by simp [hk])⟩, ((c2.trans hcx).trans (zk.drew [] _)).trans c19⟩
  refine zJ (fun wz => zk [] wx wz) mix (by kernel_rfl) (zk.drew [] wx) ?_
  refine Tr (fun wz hz => zg yz ya rfl rfl (zy.of_blk0 (hce hz).2.1)) rfl ?_
  refine Td yr rfl ?_
  refine Tr (fun wz hz => zh zaD rfl ((hce hz).2.1.cell' (i := 3) rfl)) rfl ?_
  refine Tm rfl ?_
  refine Tp (fun _ => zf zah zcr rfl rfl _ rfl hlt) rfl ?_
  refine Tr (fun wz hz => zh za7 rfl (hce hz).2.2.1) rfl ?_
  refine Tc zfX rfl rfl rfl (zcK _ _ _ _ _ s rows r _ (hce (zk.drew [] _)).1 (hce (zk.drew [] _)).2.2.2 hfr hgr) ?_
  rintro v19 w19 ⟨rfl, c19⟩
  refine ⟨.inl ((zk.drew [] _).trans c19), ?_⟩
  refine Tm rfl ?_
  refine Tp (fun _ => vf (zjB rfl rfl) (by simp [hk])) rfl ?_
  refine D4 1 2 5 21 rfl (zb rfl (ye (zl (za (Om rfl ?_)))))
  refine Og (zI rfl rfl (by omega)) rfl ?_
  refine Oa rfl (N3 1 2 5 rfl ?_)
  exact ⟨rows.length - (j + 1), by omega, j + 1, rfl, by omega, rfl, by rw [htk, List.any_append, hok]; simp [hk], (hcx.trans (zk.drew [] _)).trans c19⟩
 refine za (Om rfl (Od yr rfl ?_))
 refine Ol zaD rfl (k2x.cell' (i := 3) rfl) ?_
 refine On zah rfl ?_
 refine Og (vf (zC rfl rfl) (by simp; omega)) rfl ?_
 refine E4 1 2 5 10 rfl (zb rfl ?_)
 refine zM ?_
 repeat first | refine te ?_ | refine bo rfl ?_
 refine zt _ ?_
 refine Sr (Oa rfl (E1 4 rfl (zi ?_)))
 refine zD rfl rfl ?_
 rw [List.take_of_length_le (by omega)] at hok
 exact ⟨_, rfl, .inl ⟨rfl, zpQ hok⟩, c2.trans hcx⟩
theorem zgx (c k u o : Value) (s : yo) (rows : LV) (key : ByteArray) (w : World) (h : yx w c k u o s rows) :
 z9 TP 91 #[.agg #[c, k, u, o], .string key] w fun r w' => ∃ o', r = .agg #[c, k, u, o'] ∧ yx w' c k u o' s (yX s rows key) ∧ (∀ b ∈ zp o', w.heap.size ≤ b) ∧ zk [] w w' := by
 obtain ⟨po, co, rfl, hco⟩ := h.rws.val
 have hrl := h.ok.le
 refine A2 Tryz.func91 rfl rfl ?_
 refine Sr ?_
 refine Ob rfl rfl ?_
 intro b2 w2 e2 n2 c2 k2
 refine zE (gn rfl) (zH zcx rfl rfl ?_)
 intro b4 w4 e4 n4 c4 k4
 refine E3 1 2 4 rfl (Sr (Oa rfl (E4 1 2 4 5 rfl (ze (Sr (Oa rfl (E5 1 2 4 5 6 rfl (zq ?_))))))))
 refine zW [1, 2, 4, 5, 6] (fun m F wx => ∃ j : Nat, m = rows.length - j ∧ j ≤ rows.length ∧ ∃ x : Value, F = [(1, .string key), (2, Pt b2), (4, Pt b4), (5, x), (6, Ii j)] ∧ yl wx x (yX s (rows.take j) key) ∧ (∀ b ∈ zp x, w4.heap.size ≤ b) ∧ zk [] w4 wx) (m := rows.length - 0) ⟨0, rfl, Nat.zero_le _, _, rfl, yl.nil _, by simp [zp], zk.refl _ _⟩ ?_
 rintro m F wx ⟨j, rfl, hj, x, rfl, hu, hfu, hcx⟩
 have k2w : zU w4 b2 54 [c, k, u, .slice po rows.length co] := k2.chg0 c4
 have k2x := k2w.chg0 hcx
 have k4x := k4.chg0 hcx
 have hcw := (c2.trans c4).trans hcx
 refine ze (ze ?_)
 by_cases hlt : j < rows.length
 ·refine za (Om rfl (Od yr rfl ?_))
  refine Ol zaD rfl (k2x.cell' (i := 3) rfl) ?_
  refine On zah rfl ?_
  refine Og (vt (zC rfl rfl) (by simp; omega)) rfl ?_
  refine E6 1 2 4 5 6 11 rfl (zd rfl (zm ?_))
  have hx : rows[j]? = some rows[j] := by simp [hlt]
  have htk := List.take_succ_eq_append_getElem hlt
  have hmem := List.getElem_mem hlt
  generalize rows[j] = r at hx htk hmem
  have hfr := h.ok.fit r hmem
  have hgr := h.ok.rng r hmem
  obtain ⟨bo, oo, cpo, vr, hve, hcell, hvr⟩ := (h.rws.chg0 hcw).at hx
  cases hve
  have hce : ∀ {wz : World}, zk [] wx wz → yx wz c k u (.slice (some ⟨bo, oo, none⟩) rows.length co) s rows ∧ zU wz b2 54 [c, k, u, .slice (some ⟨bo, oo, none⟩) rows.length co] ∧ wz.cell? ⟨bo, oo + j * 1, none⟩ = some vr ∧ zK wz vr r := fun hc => ⟨h.chg0 (hcw.trans hc), k2x.chg0 hc, hc.cell hcell, (yw.chg0 hvr hc).arr⟩
  refine ze (zq (ze ?_))
  by_cases hk : zV s r = key
  ·refine zJ (fun wz => zk [] wx wz) mix (by kernel_rfl) (zk.drew [] wx) ?_
   refine Tr (fun wz hz => zg yz ya rfl rfl (zy.of_blk0 (hce hz).2.1)) rfl ?_
   refine Td yr rfl ?_
   refine Tr (fun wz hz => zh zaD rfl ((hce hz).2.1.cell' (i := 3) rfl)) rfl ?_
   refine Tm rfl ?_
   refine Tp (fun _ => zf zah zcr rfl rfl _ rfl hlt) rfl ?_
   refine Tr (fun wz hz => zh za7 rfl (hce hz).2.2.1) rfl ?_
   refine Tc zfX rfl rfl rfl (zcK _ _ _ _ _ s rows r _ (hce (zk.drew [] _)).1 (hce (zk.drew [] _)).2.2.2 hfr hgr) ?_
   rintro v20 w20 ⟨rfl, c20⟩
   refine ⟨.inl ((zk.drew [] _).trans c20), ?_⟩
   refine Tm rfl ?_
   refine Tp (fun _ => vf (zcH rfl rfl) (by simp [hk])) rfl ?_
   refine D6 1 2 4 5 6 22 rfl (zb rfl (ye (zl (za (Om rfl ?_)))))
   refine Og (zI rfl rfl (by omega)) rfl ?_
   refine Oa rfl (N5 1 2 4 5 6 rfl ?_)
   have e : yX s (rows.take (j + 1)) key = yX s (rows.take j) key := by unfold yX; rw [htk, List.filter_append]; simp [hk]
   exact ⟨rows.length - (j + 1), by omega, j + 1, rfl, by omega, x, rfl, e ▸ hu.chg0 ((zk.drew [] _).trans c20), hfu, (hcx.trans (zk.drew [] _)).trans c20⟩
  refine zJ (fun wz => zk [] wx wz) mix (by kernel_rfl) (zk.drew [] wx) ?_
  refine Tr (fun wz hz => zg yz ya rfl rfl (zy.of_blk0 (hce hz).2.1)) rfl ?_
  refine Td yr rfl ?_
  refine Tr (fun wz hz => zh zaD rfl ((hce hz).2.1.cell' (i := 3) rfl)) rfl ?_
  refine Tm rfl ?_
  refine Tp (fun _ => zf zah zcr rfl rfl _ rfl hlt) rfl ?_
  refine Tr (fun wz hz => zh za7 rfl (hce hz).2.2.1) rfl ?_
  refine Tc zfX rfl rfl rfl (zcK _ _ _ _ _ s rows r _ (hce (zk.drew [] _)).1 (hce (zk.drew [] _)).2.2.2 hfr hgr) ?_
  rintro v20 w20 ⟨rfl, c20⟩
  refine ⟨.inl ((zk.drew [] _).trans c20), ?_⟩
  refine Tm rfl ?_
  refine Tp (fun _ => vt (zcH rfl rfl) (by simp [hk])) rfl ?_
  refine D6 1 2 4 5 6 22 rfl (zd rfl ?_)
  have hc20 : zk [] wx w20 := (zk.drew [] _).trans c20
  obtain ⟨us, hus, hls⟩ := hu.chg0 hc20
  obtain ⟨pv, cv, rfl, -⟩ := yw.val hvr
  have hll : (yX s (rows.take j) key).length ≤ 400 := by
   have := List.length_filter_le (fun r => decide (zV s r ≠ key)) (rows.take j)
   unfold yX
   rw [List.length_take] at this
   omega
  refine za (Om rfl (Od yr rfl ?_))
  refine Ol zaD rfl ((hce hc20).2.1.cell' (i := 3) rfl) ?_
  refine Om rfl ?_
  refine Og (zf zah zcr rfl rfl _ rfl hlt) rfl ?_
  refine Ol za7 rfl (hce hc20).2.2.1 ?_
  refine zE (gn rfl) (zB zhh rfl (vs := [_]) rfl (css := [_]) ⟨rfl, trivial⟩ rfl rfl (cs := [_]) rfl rfl ?_)
  intro b29 w29 e29 n29 c29 k29
  refine zE (gn rfl) (yt zhh zah rfl rfl (zv.chg0 hus c29) (zv.of_blk (n := 1) k29 rfl (by simp [maxLen]) (by intro y hy; simp at hy; subst hy; rfl)) (by simp only [maxLen]; omega) (by omega) rfl ?_)
  intro v30 w30 i30 c30 o30 z30
  refine Oa rfl (N5 1 2 4 5 6 rfl (zl (za (Om rfl ?_))))
  refine Og (zI rfl rfl (by omega)) rfl ?_
  refine Oa rfl (N5 1 2 4 5 6 rfl ?_)
  have e : yX s (rows.take (j + 1)) key = yX s (rows.take j) key ++ [r] := by unfold yX; rw [htk, List.filter_append]; simp [hk]
  have hs1 := hcx.size
  have hs2 := hc20.size
  have hs3 := c29.size
  refine ⟨rows.length - (j + 1), by omega, j + 1, rfl, by omega, v30, rfl, ?_, yB o30 hfu (by omega), ((hcx.trans hc20).trans c29).own c30 hfu⟩
  rw [e]
  exact yl.push hus hls (yw.chg0 hvr hc20) c29 i30 c30
 refine za (Om rfl (Od yr rfl ?_))
 refine Ol zaD rfl (k2x.cell' (i := 3) rfl) ?_
 refine On zah rfl ?_
 refine Og (vf (zC rfl rfl) (by simp; omega)) rfl ?_
 refine E6 1 2 4 5 6 11 rfl (zb rfl ?_)
 refine zM ?_
 repeat first | refine te ?_ | refine bo rfl ?_
 refine zt _ ?_
 rw [List.take_of_length_le (by omega)] at hu
 obtain ⟨px, cx, rfl, -⟩ := hu.val
 refine Sr (Om rfl (Od yr rfl ?_))
 refine zE (gn rfl) (zu zvT rfl rfl rfl rfl k2x (by simp) (by intro y hy; simp at hy; subst hy; rfl) ?_)
 intro wA nA cA kA
 refine E2 2 4 rfl ?_
 have kA : zU wA b2 54 [c, k, u, .slice px (yX s rows key).length cx] := kA
 have k4A := k4x.chg cA (by simp; omega)
 refine Sr ?_
 refine Og (zg yz ya rfl rfl (zy.of_blk0 kA)) rfl ?_
 refine zE (gn rfl) (zu ya rfl rfl rfl rfl k4A (by simp) (yx.one h.sch _ _ _) ?_)
 intro wB nB cB kB
 refine E1 4 rfl (zi ?_)
 refine zlh rfl yz ya rfl rfl (zy.of_blk0 kB) ?_
 have hs1 := c2.size
 have hs2 := c4.size
 have hcB : zk [] w wB := (hcw.own cA (by intro y hy; simp at hy; omega)).own cB (by intro y hy; simp at hy; omega)
 exact ⟨_, rfl, ⟨h.sch.chg0 hcB, (hu.chgB k2x rfl rfl cA).chgB k4A rfl rfl cB, h.ok.less key, h.nm⟩, fun b hb => by have := hfu b hb; omega, hcB⟩
section
variable {α : Type} {w : World} {e k : Nat} {f : α → List Value}
theorem ym.take : ∀ {vs : List Value} {ls : List (List α)} (i : Nat), ym w e k f vs ls → ym w e k f (vs.take i) (ls.take i)
 | _, _, 0, _ => by simp [ym]
 | [], [], _ + 1, _ => by simp [ym]
 | _ :: _, _ :: _, i + 1, h => ⟨h.1, h.2.take i⟩
theorem ym.drop : ∀ {vs : List Value} {ls : List (List α)} (i : Nat), ym w e k f vs ls → ym w e k f (vs.drop i) (ls.drop i)
 | _, _, 0, h => h
 | [], [], _ + 1, _ => by simp [ym]
 | _ :: _, _ :: _, i + 1, h => by simpa using h.2.drop i
end
theorem zmQ {α : Type} {p : α → Bool} : ∀ {l : List α} {j : Nat}, j ≤ l.length → (l.take j).all p = true → (∀ x, l[j]? = some x → p x = false) → l.takeWhile p = l.take j ∧ l.dropWhile p = l.drop j
 | [], j, hj, _, _ => by simp
 | a :: l, 0, _, _, h => by
  have := h a (by simp)
  simp [List.takeWhile_cons, List.dropWhile_cons, this]
 | a :: l, j + 1, hj, h1, h2 => by
  simp only [List.take_succ_cons, List.all_cons, Bool.and_eq_true] at h1
  have ih := zmQ (l := l) (j := j) (by simpa using hj) h1.2 (fun x hx => h2 x (by simpa using hx))
  simp [List.takeWhile_cons, List.dropWhile_cons, h1.1, ih.1, ih.2]
theorem zlI (c k u o v : Value) (s : yo) (rows : LV) (row : List zQ) (w : World) (h : yx w c k u o s rows) (hl : zK w v row) (hf : yV s row = 0) (hg : ∀ x ∈ row, x.Rng) (hcl : ∀ r ∈ rows, yM s r row = false) (h400 : rows.length < 400) :
 z9 TP 89 #[.agg #[c, k, u, o], v] w fun r w' => ∃ o', r = .agg #[c, k, u, o'] ∧ yx w' c k u o' s (zbY s rows row) ∧ zk [] w w' := by
 obtain ⟨po, co, rfl, hco⟩ := h.rws.val
 obtain ⟨pv, cv, rfl, hcv⟩ := z0.val hl
 refine A2 Tryz.func89 rfl rfl ?_
 refine Sr ?_
 refine Ob rfl rfl ?_
 intro b2 w2 e2 n2 c2 k2
 refine zE (gn rfl) (zH zcx rfl rfl ?_)
 intro b4 w4 e4 n4 c4 k4
 refine E3 1 2 4 rfl ?_
 have k2w : zU w4 b2 54 [c, k, u, .slice po rows.length co] := k2.chg0 c4
 have hcw4 := c2.trans c4
 refine Sr ?_
 refine Og (zg yz ya rfl rfl (zy.of_blk0 k2w)) rfl ?_
 refine Om rfl ?_
 refine Oc zfX rfl rfl rfl (zcK _ _ _ _ _ s rows row _ (h.chg0 hcw4) (z0.chg0 hl hcw4) hf hg) ?_
 rintro v10 w10 ⟨rfl, c10⟩
 refine Oa rfl (E4 1 2 4 5 rfl (Sr (Oa rfl (E5 1 2 4 5 6 rfl ?_))))
 refine yf (fun F wx => ∃ (j : Nat) (f5 f26 : Value), F = [(1, .slice pv row.length cv), (2, Pt b2), (4, Pt b4), (5, f5), (6, Ii j), (26, f26)] ∧ j ≤ rows.length ∧ rows.takeWhile (fun r => blt (zV s r) (zV s row)) = rows.take j ∧ rows.dropWhile (fun r => blt (zV s r) (zV s row)) = rows.drop j ∧ zk [] w4 wx) ?_ ?_
 ·refine zq ?_
  refine zW [1, 2, 4, 5, 6] (fun m F wx => ∃ j : Nat, m = rows.length - j ∧ j ≤ rows.length ∧ F = [(1, .slice pv row.length cv), (2, Pt b2), (4, Pt b4), (5, .string (zV s row)), (6, Ii j)] ∧ (rows.take j).all (fun r => blt (zV s r) (zV s row)) = true ∧ zk [] w4 wx) (m := rows.length - 0) ⟨0, rfl, Nat.zero_le _, rfl, rfl, c10⟩ ?_
  rintro m F wx ⟨j, rfl, hj, rfl, hok, hcx⟩
  have k2x := k2w.chg0 hcx
  have hcw := hcw4.trans hcx
  refine ze (ze ?_)
  have hjrow : j < rows.length → ∃ r, rows[j]? = some r ∧ rows.take (j + 1) = rows.take j ++ [r] := fun hlt => ⟨rows[j], by simp [hlt], List.take_succ_eq_append_getElem hlt⟩
  by_cases hgo : ∃ r, rows[j]? = some r ∧ blt (zV s r) (zV s row) = true
  ·obtain ⟨r, hx, hb⟩ := hgo
   have hlt : j < rows.length := (List.getElem?_eq_some_iff.1 hx).1
   obtain ⟨r', hx', htk⟩ := hjrow hlt
   rw [hx] at hx'
   cases hx'
   have hmem := List.mem_of_getElem? hx
   have hfr := h.ok.fit r hmem
   have hgr := h.ok.rng r hmem
   obtain ⟨bo, oo, cpo, vr, hve, hcell, hvr⟩ := (h.rws.chg0 hcw).at hx
   cases hve
   have hce : ∀ {wz : World}, zk [] wx wz → yx wz c k u (.slice (some ⟨bo, oo, none⟩) rows.length co) s rows ∧ zU wz b2 54 [c, k, u, .slice (some ⟨bo, oo, none⟩) rows.length co] ∧ wz.cell? ⟨bo, oo + j * 1, none⟩ = some vr ∧ zK wz vr r := fun hc => ⟨h.chg0 (hcw.trans hc), k2x.chg0 hc, hc.cell hcell, (yw.chg0 hvr hc).arr⟩
   refine zJ (fun wz => zk [] wx wz) mix (by kernel_rfl) (zk.drew [] wx) ?_
   refine Tm rfl (Td yr rfl ?_)
   refine Tr (fun wz hz => zh zaD rfl ((hce hz).2.1.cell' (i := 3) rfl)) rfl ?_
   refine Tp (fun _ => yc zah rfl) rfl ?_
   refine Tp (fun _ => vt (zC rfl rfl) (by simp; omega)) rfl ?_
   refine Tm rfl ?_
   refine Ts rfl rfl (fun wz hz => zg yz ya rfl rfl (zy.of_blk0 (hce hz).2.1)) rfl ?_
   refine Tg rfl rfl (fun _ => zj yr rfl) rfl ?_
   refine Ts rfl rfl (fun wz hz => zh zaD rfl ((hce hz).2.1.cell' (i := 3) rfl)) rfl ?_
   refine Tq rfl rfl rfl ?_
   refine Tg rfl rfl (fun _ => zf zah zcr rfl rfl _ rfl hlt) rfl ?_
   refine Ts rfl rfl (fun wz hz => zh za7 rfl (hce hz).2.2.1) rfl ?_
   refine Tv rfl rfl zfX rfl rfl rfl (zcK _ _ _ _ _ s rows r _ (hce (zk.drew [] _)).1 (hce (zk.drew [] _)).2.2.2 hfr hgr) ?_
   rintro v23 w23 ⟨rfl, c23⟩
   refine ⟨.inl ((zk.drew [] _).trans c23), ?_⟩
   refine Tq rfl rfl rfl ?_
   refine Tg rfl rfl (fun _ => vt (zgA rfl rfl) hb) rfl ?_
   refine Tp (fun _ => zL rfl rfl) rfl ?_
   refine D6 1 2 4 5 6 26 rfl (zd rfl (zm (zq (za (Om rfl ?_)))))
   refine Og (zI rfl rfl (by omega)) rfl ?_
   refine Oa rfl (N5 1 2 4 5 6 rfl (zl ?_))
   exact ⟨rows.length - (j + 1), by omega, j + 1, rfl, by omega, rfl, by rw [htk, List.all_append, hok]; simp [hb], (hcx.trans (zk.drew [] _)).trans c23⟩
  rcases Nat.lt_or_ge j rows.length with hlt | hge
  ·obtain ⟨r, hx, htk⟩ := hjrow hlt
   have hb : blt (zV s r) (zV s row) = false := by
    cases hbb : blt (zV s r) (zV s row) with
    | false => rfl
    | true => exact absurd ⟨r, hx, hbb⟩ hgo
   have hmem := List.mem_of_getElem? hx
   have hfr := h.ok.fit r hmem
   have hgr := h.ok.rng r hmem
   obtain ⟨bo, oo, cpo, vr, hve, hcell, hvr⟩ := (h.rws.chg0 hcw).at hx
   cases hve
   have hce : ∀ {wz : World}, zk [] wx wz → yx wz c k u (.slice (some ⟨bo, oo, none⟩) rows.length co) s rows ∧ zU wz b2 54 [c, k, u, .slice (some ⟨bo, oo, none⟩) rows.length co] ∧ wz.cell? ⟨bo, oo + j * 1, none⟩ = some vr ∧ zK wz vr r := fun hc => ⟨h.chg0 (hcw.trans hc), k2x.chg0 hc, hc.cell hcell, (yw.chg0 hvr hc).arr⟩
   refine zJ (fun wz => zk [] wx wz) mix (by kernel_rfl) (zk.drew [] wx) ?_
   refine Tm rfl (Td yr rfl ?_)
   refine Tr (fun wz hz => zh zaD rfl ((hce hz).2.1.cell' (i := 3) rfl)) rfl ?_
   refine Tp (fun _ => yc zah rfl) rfl ?_
   refine Tp (fun _ => vt (zC rfl rfl) (by simp; omega)) rfl ?_
   refine Tm rfl ?_
   refine Ts rfl rfl (fun wz hz => zg yz ya rfl rfl (zy.of_blk0 (hce hz).2.1)) rfl ?_
   refine Tg rfl rfl (fun _ => zj yr rfl) rfl ?_
   refine Ts rfl rfl (fun wz hz => zh zaD rfl ((hce hz).2.1.cell' (i := 3) rfl)) rfl ?_
   refine Tq rfl rfl rfl ?_
   refine Tg rfl rfl (fun _ => zf zah zcr rfl rfl _ rfl hlt) rfl ?_
   refine Ts rfl rfl (fun wz hz => zh za7 rfl (hce hz).2.2.1) rfl ?_
   refine Tv rfl rfl zfX rfl rfl rfl (zcK _ _ _ _ _ s rows r _ (hce (zk.drew [] _)).1 (hce (zk.drew [] _)).2.2.2 hfr hgr) ?_
   rintro v23 w23 ⟨rfl, c23⟩
   refine ⟨.inl ((zk.drew [] _).trans c23), ?_⟩
   refine Tq rfl rfl rfl ?_
   refine Tg rfl rfl (fun _ => vf (zgA rfl rfl) hb) rfl ?_
   refine Tp (fun _ => zL rfl rfl) rfl ?_
   refine D6 1 2 4 5 6 26 rfl (zb rfl ?_)
   refine zM ?_
   repeat first | refine te ?_ | refine bo rfl ?_
   refine zt _ ?_
   have e := zmQ (p := fun r => blt (zV s r) (zV s row)) hj hok (fun y hy => by rw [hx] at hy; cases hy; exact hb)
   exact ⟨j, _, _, rfl, hj, e.1, e.2, (hcx.trans (zk.drew [] _)).trans c23⟩
  refine zJ (fun wz => zk [] wx wz) mix (by kernel_rfl) (zk.drew [] wx) ?_
  refine Tm rfl (Td yr rfl ?_)
  refine Tr (fun wz hz => zh zaD rfl ((k2x.chg0 hz).cell' (i := 3) rfl)) rfl ?_
  refine Tp (fun _ => yc zah rfl) rfl ?_
  refine Tp (fun _ => vf (zC rfl rfl) (by simp; omega)) rfl ?_
  refine Tm rfl (Tz rfl rfl (Tz rfl rfl (Tz rfl rfl (Tz rfl rfl (Tz rfl rfl (Tz rfl rfl (Tz rfl rfl (Tz rfl rfl (Tz rfl rfl ?_)))))))))
  refine Tp (fun _ => zT rfl rfl) rfl ?_
  refine D6 1 2 4 5 6 26 rfl (zb rfl ?_)
  refine zM ?_
  repeat first | refine te ?_ | refine bo rfl ?_
  refine zt _ ?_
  have e := zmQ (p := fun r => blt (zV s r) (zV s row)) hj hok (fun y hy => by rw [List.getElem?_eq_none (by omega)] at hy; cases hy)
  exact ⟨j, _, _, rfl, hj, e.1, e.2, hcx.trans (zk.drew [] _)⟩
 rintro F wx ⟨j, f5, f26, rfl, hj, hT, hD, hcx⟩
 have k2x := k2w.chg0 hcx
 have k4x := k4.chg0 hcx
 have hcw := hcw4.trans hcx
 have hs1 := c2.size
 have hs2 := c4.size
 have hs3 := hcx.size
 obtain ⟨vs, hvs, hls⟩ := id h.rws
 have hvl := hvs.len_xs
 rw [Nat.mul_one] at hvl
 have hrow : row.length ≤ 1048576 := by have := (zam hf).2.1; have := (zX (zam hf).1).1.2; omega
 have hd1 : ∀ {wz : World}, zk [] w wz → Rd wz 1 (cut po 0 j co 1) j (vs.take j) := fun hc => by
  have := Rd.cut (zv.chg0 hvs hc).toRd (l := 0) (h := j) (m := co) (by omega) (by omega) (Nat.le_refl _) hj
  simpa using this
 have hd2 : ∀ {wz : World}, zk [] w wz → Rd wz 1 (cut po j rows.length co 1) (rows.length - j) (vs.drop j) := fun hc => by
  have := Rd.cut (zv.chg0 hvs hc).toRd (l := j) (h := rows.length) (m := co) hj (by omega) (Nat.le_refl _) (Nat.le_refl _)
  rw [Nat.mul_one, Nat.mul_one, List.take_of_length_le (by rw [List.length_drop]; omega)] at this
  exact this
 refine Sr ?_
 refine zE (gn rfl) (zB zhh rfl (vs := []) rfl (css := []) trivial rfl rfl (cs := []) rfl rfl ?_)
 intro b29 w29 e29 n29 c29 k29
 refine Od yr rfl ?_
 refine Ol zaD rfl ((k2x.chg0 c29).cell' (i := 3) rfl) ?_
 refine Om rfl ?_
 refine Og (zby zah zcr rfl rfl _ rfl (by omega)) rfl ?_
 refine zE (gn rfl) (zcQ zhh zah rfl rfl (zv.of_blk (n := 0) k29 (by simp) (by simp [maxLen]) (by simp)) (hd1 (hcw.trans c29)) (by simp only [maxLen]; omega) (by omega) rfl ?_)
 intro v34 w34 i34 c34 o34 z34
 refine Oa rfl (E5 1 2 4 6 7 rfl ?_)
 have hs4 := c29.size
 have f29 : ∀ x ∈ zp (.slice (some ⟨b29, 0, none⟩) 0 0), wx.heap.size ≤ x := by intro x hx; simp [zp] at hx; omega
 have f34 := yB o34 f29 (by omega)
 have hc34 := c29.own c34 f29
 have k2y := k2x.chg0 hc34
 have k4y := k4x.chg0 hc34
 have hcy := hcw.trans hc34
 have hs5 := hc34.size
 have hdr : w34.drew.heap.size = w34.heap.size := rfl
 refine ze ?_
 refine zJ (fun wz => zk [] wx wz) mix (by kernel_rfl) (hc34.trans (zk.drew [] _)) ?_
 refine Tm rfl ?_
 refine zas rfl (gn rfl) (zB zhg rfl (vs := []) rfl (css := []) trivial rfl rfl (cs := []) rfl rfl ?_)
 intro b36 w36 e36 n36 c36 k36
 refine ⟨.inl ((hc34.trans (zk.drew [] _)).trans c36), ?_⟩
 refine Tm rfl ?_
 refine zas rfl (gn rfl) (zcQ zhg zao rfl rfl (zv.of_blk (n := 0) k36 (by simp) (by simp [maxLen]) (by simp)) (z0.chg0 hl ((hcy.trans (zk.drew [] _)).trans c36)) (by simp only [maxLen]; omega) (by omega) rfl ?_)
 intro v38 w38 i38 c38 o38 z38
 have G38 : zk [] w34 w38 := ((zk.drew [] _).trans c36).own c38 (by intro x hx; simp [zp] at hx; omega)
 have i38 : zbd w38 v38 row := by have := i38; simp only [Nat.zero_add, List.nil_append] at this; exact this
 obtain ⟨p38, q38, rfl, -⟩ := yw.val i38
 have z38 := G38.size
 refine ⟨.inl (hc34.trans G38), ?_⟩
 refine zas rfl (gn rfl) (zB zhh rfl (vs := [_]) rfl (css := [_]) ⟨rfl, trivial⟩ rfl rfl (cs := [_]) rfl rfl ?_)
 intro b39 w39 e39 n39 c39 k39
 refine ⟨.inl ((hc34.trans G38).trans c39), ?_⟩
 refine zas rfl (gn rfl) (yt zhh zah rfl rfl (zv.chg0 i34 (G38.trans c39)) (zv.of_blk (n := 1) k39 rfl (by simp [maxLen]) (by intro y hy; simp at hy; subst hy; rfl)) (by simp only [maxLen]; omega) (by omega) rfl ?_)
 intro v40 w40 i40 c40 o40 z40
 have H40 : zk [] wx w40 := ((hc34.trans G38).trans c39).own c40 f34
 have z39 := c39.size
 have z40 := c40.size
 have f40 := yB o40 f34 (by omega)
 refine ⟨.inl H40, ?_⟩
 refine Td yr rfl ?_
 refine Tr (fun wz hz => zh zaD rfl ((k2x.chg0 hz).cell' (i := 3) rfl)) rfl ?_
 refine Tm rfl ?_
 refine Tp (fun _ => zaO zah zcr rfl rfl _ rfl (by omega)) rfl ?_
 refine zas rfl (gn rfl) (zcQ zhh zah rfl rfl i40 (hd2 (hcw.trans H40)) (by simp only [maxLen]; omega) (by omega) rfl ?_)
 intro v45 w45 i45 c45 o45 z45
 have H45 : zk [] wx w45 := H40.own c45 f40
 have f45 := yB o45 f40 (by omega)
 obtain ⟨p45, q45, rfl, -⟩ := id (zv.val i45)
 refine ⟨.inl H45, ?_⟩
 refine Td yr rfl ?_
 refine zas rfl (gn rfl) (zu zvT rfl rfl rfl rfl (k2x.chg0 H45) (by simp) (by intro y hy; simp at hy; subst hy; rfl) ?_)
 intro wA nA cA kA
 refine ⟨.inr (by kernel_rfl), ?_⟩
 refine D2 2 4 rfl ?_
 have L39 : ym w39 40 4 zQ.cs (vs.take j ++ [.slice p38 row.length q38] ++ vs.drop j) (rows.take j ++ [row] ++ rows.drop j) :=
  ym.append (ym.append ((hls.take j).chg0 (hcw.trans ((hc34.trans G38).trans c39))) ⟨yw.chg0 i38 c39, trivial⟩) ((hls.drop j).chg0 (hcw.trans ((hc34.trans G38).trans c39)))
 have L40 := L39.chg c40 (L39.apartSl (zv.chg0 i34 (G38.trans c39)) rfl)
 have L45 := L40.chg c45 (L40.apartSl i40 rfl)
 have hwr : zbY s rows row = rows.take j ++ [row] ++ rows.drop j := by unfold zbY; rw [hT, hD]; simp
 have hlen : (zbY s rows row).length = 0 + j + 1 + (rows.length - j) := by rw [zkq]; omega
 have hR45 : yl w45 (.slice p45 (0 + j + 1 + (rows.length - j)) q45) (zbY s rows row) := ⟨_, by rw [hlen]; exact i45, by rw [hwr]; simpa using L45⟩
 have kA : zU wA b2 54 [c, k, u, .slice p45 (0 + j + 1 + (rows.length - j)) q45] := kA
 have hRA := hR45.chgB (k2x.chg0 H45) rfl rfl cA
 have k4A := (k4x.chg0 H45).chg cA (by simp; omega)
 refine Sr ?_
 refine Og (zg yz ya rfl rfl (zy.of_blk0 kA)) rfl ?_
 refine zE (gn rfl) (zu ya rfl rfl rfl rfl k4A (by simp) (yx.one h.sch _ _ _) ?_)
 intro wB nB cB kB
 refine E1 4 rfl (zi ?_)
 refine zlh rfl yz ya rfl rfl (zy.of_blk0 kB) ?_
 have hcB : zk [] w wB := ((hcw.trans H45).own cA (by intro y hy; simp at hy; omega)).own cB (by intro y hy; simp at hy; omega)
 exact ⟨_, rfl, ⟨h.sch.chg0 hcB, hRA.chgB k4A rfl rfl cB, h.ok.ins hf hg hcl h400, h.nm⟩, hcB⟩
section
variable {P : Program} {fn : Func} {R : Value → World → Prop} {n : Nat} {F : Fr} {w : World}
theorem zm3 {t u ty k b off : Nat} {y : Value} {cs : List Value} (hr : fn.results = #[.cell u ty, .tmp t]) (hag : zat P ty = some true) (hk : zan P ty = some k) (hu : get F u = some (.pointer (some ⟨b, off, none⟩))) (hy : get F t = some y) (hl : cs.length = k) (hc : zy w b off cs)
 (h : R (.tuple #[.agg cs.toArray, y]) w) (hm : zac F = [] := by rfl) : zeK P fn R n .ret F w := by
 refine ⟨.tuple #[.agg cs.toArray, y], fun a ha => ?_, hm, h⟩
 subst hl
 have h1 : (loadCells ⟨b, off, none⟩ cs.length).run P w = .ok cs.toArray w := run_loadCells_list w ⟨b, off, none⟩ cs (fun j v hv => by rw [Addr.add_lit]; exact hc j v hv)
 simp [results, hr, ha.get u _ hu, ha.get t _ hy, asAddr, loadVar, zaz hag, zY hk, h1]
theorem zeU {t u s ty k b off : Nat} {x y : Value} {cs : List Value} (hr : fn.results = #[.cell u ty, .tmp t, .tmp s]) (hag : zat P ty = some true) (hk : zan P ty = some k) (hu : get F u = some (.pointer (some ⟨b, off, none⟩))) (hx : get F t = some x) (hy : get F s = some y) (hl : cs.length = k) (hc : zy w b off cs)
 (h : R (.tuple #[.agg cs.toArray, x, y]) w) (hm : zac F = [] := by rfl) : zeK P fn R n .ret F w := by
 refine ⟨.tuple #[.agg cs.toArray, x, y], fun a ha => ?_, hm, h⟩
 subst hl
 have h1 : (loadCells ⟨b, off, none⟩ cs.length).run P w = .ok cs.toArray w := run_loadCells_list w ⟨b, off, none⟩ cs (fun j v hv => by rw [Addr.add_lit]; exact hc j v hv)
 simp [results, hr, ha.get u _ hu, ha.get t _ hx, ha.get s _ hy, asAddr, loadVar, zaz hag, zY hk, h1]
end
theorem zkN (c k u o v : Value) (s : yo) (rows : LV) (row : List zQ) (w : World) (h : yx w c k u o s rows) (hl : zK w v row) (hg : ∀ x ∈ row, x.Rng) :
 z9 TP 56 #[.agg #[c, k, u, o], v] w fun r w' => ∃ o', r = .tuple #[.agg #[c, k, u, o'], Ii (zb4 s rows row)] ∧ yx w' c k u o' s (zcG s rows row) ∧ zk [] w w' := by
 obtain ⟨po, co, rfl, hco⟩ := h.rws.val
 have hrl := h.ok.le
 refine A2 Tryz.func56 rfl rfl ?_
 refine Sr ?_
 refine Ob rfl rfl ?_
 intro b2 w2 e2 n2 c2 k2
 refine zE (gn rfl) (zH zcx rfl rfl ?_)
 intro b4 w4 e4 n4 c4 k4
 refine Oa rfl (E3 1 2 4 rfl ?_)
 have k2w : zU w4 b2 54 [c, k, u, .slice po rows.length co] := k2.chg0 c4
 have hcw4 := c2.trans c4
 have hs2 := c2.size
 refine ze (Sr (Od zdU rfl ?_))
 refine Og (zg zaW zaX rfl rfl (zy.of_blk k2w 0 [c, k, u] ⟨[_], rfl⟩)) rfl ?_
 refine Om rfl ?_
 refine Oc zs8 rfl rfl rfl (zqm _ _ _ _ s row _ (h.sch.chg0 hcw4) (z0.chg0 hl hcw4) h.nm) ?_
 rintro v10 w10 ⟨rfl, c10⟩
 refine Oa rfl (E4 1 2 4 6 rfl ?_)
 have k2x := k2w.chg0 c10
 have k4x := k4.chg0 c10
 have hcx := hcw4.trans c10
 refine ze ?_
 by_cases hf : yV s row = 0
 ·refine za (Om rfl ?_)
  refine Og (vf (zS rfl rfl) (by simp [hf])) rfl ?_
  refine E5 1 2 4 6 12 rfl (zb rfl (zm (ze (Sr ?_))))
  refine Og (zg yz ya rfl rfl (zy.of_blk0 k2x)) rfl ?_
  refine Om rfl ?_
  refine Oc zwJ rfl rfl rfl (zmV _ _ _ _ _ s rows row e0 _ (h.chg0 hcx) (z0.chg0 hl hcx) hf) ?_
  rintro v17 w17 ⟨rfl, c17⟩
  refine E4 1 2 4 17 rfl ?_
  have k2y := k2x.chg0 c17
  have k4y := k4x.chg0 c17
  have hcy := hcx.trans c17
  cases ht : zb0 s rows row e0 with
  | true =>
   refine zd rfl (Sr ?_)
   refine Og (zg yz ya rfl rfl (zy.of_blk0 k2y)) rfl ?_
   refine zE (gn rfl) (zu ya rfl rfl rfl rfl k4y (by simp) (yx.one h.sch _ _ _) ?_)
   intro wB nB cB kB
   refine Oa rfl (E2 4 5 rfl (zi ?_))
   repeat first | refine tr ?_ | refine br ?_
   refine zm3 rfl yz ya rfl rfl rfl (zy.of_blk0 kB) ?_
   have hcB : zk [] w wB := hcy.own cB (by intro y hy; simp at hy; omega)
   have e : zb4 s rows row = 220 := by simp [zb4, hf, ht]
   exact ⟨.slice po rows.length co, by rw [e]; rfl, by simp only [zcG, e]; exact h.chg0 hcB, hcB⟩
  | false =>
   refine zb rfl (zm (ze (ze ?_)))
   by_cases h4 : 400 ≤ rows.length
   ·refine za (Od yr rfl ?_)
    refine Ol zaD rfl (k2y.cell' (i := 3) rfl) ?_
    refine On zah rfl ?_
    refine Og (vt (yp rfl rfl) (by simp; omega)) rfl ?_
    refine E4 1 2 4 22 rfl (zd rfl (Sr ?_))
    refine Og (zg yz ya rfl rfl (zy.of_blk0 k2y)) rfl ?_
    refine zE (gn rfl) (zu ya rfl rfl rfl rfl k4y (by simp) (yx.one h.sch _ _ _) ?_)
    intro wB nB cB kB
    refine Oa rfl (E2 4 5 rfl (zi ?_))
    repeat first | refine tr ?_ | refine br ?_
    refine zm3 rfl yz ya rfl rfl rfl (zy.of_blk0 kB) ?_
    have hcB : zk [] w wB := hcy.own cB (by intro y hy; simp at hy; omega)
    have e : zb4 s rows row = 3 := by simp [zb4, hf, ht, h4]
    exact ⟨.slice po rows.length co, by rw [e]; rfl, by simp only [zcG, e]; exact h.chg0 hcB, hcB⟩
   refine za (Od yr rfl ?_)
   refine Ol zaD rfl (k2y.cell' (i := 3) rfl) ?_
   refine On zah rfl ?_
   refine Og (vf (yp rfl rfl) (by simp; omega)) rfl ?_
   refine E4 1 2 4 22 rfl (zb rfl (zm (ze ?_)))
   have hcl : ∀ r ∈ rows, yM s r row = false := by
    rw [zh4 h.ok] at ht
    intro r hr
    have := List.any_eq_false.1 ht r hr
    simpa using this
   refine za ?_
   refine Og (zg yz ya rfl rfl (zy.of_blk0 k2y)) rfl ?_
   refine Om rfl ?_
   refine Oc zs1 rfl rfl rfl (zlI _ _ _ _ _ s rows row _ (h.chg0 hcy) (z0.chg0 hl hcy) hf hg hcl (by omega)) ?_
   rintro v26 w26 ⟨o', rfl, h26, c26⟩
   obtain ⟨p26, q26, rfl, -⟩ := h26.rws.val
   refine zE (gn rfl) (zu ya rfl rfl rfl rfl (k4y.chg0 c26) (by simp) (yx.one h26.sch _ _ _) ?_)
   intro wB nB cB kB
   refine Oa rfl (E2 4 5 rfl (zi ?_))
   refine zm3 rfl yz ya rfl rfl rfl (zy.of_blk0 kB) ?_
   have hcB : zk [] w wB := (hcy.trans c26).own cB (by intro y hy; simp at hy; omega)
   have e : zb4 s rows row = 0 := by simp [zb4, hf, ht, h4]
   refine ⟨.slice p26 _ q26, by rw [e]; rfl, ?_, hcB⟩
   simp only [zcG, e, if_true]
   exact ⟨h.sch.chg0 hcB, h26.rws.chgB (k4y.chg0 c26) rfl rfl cB, h26.ok, h26.nm⟩
 refine za (Om rfl ?_)
 refine Og (vt (zS rfl rfl) (by simp [hf])) rfl ?_
 refine E5 1 2 4 6 12 rfl (zd rfl (Sr ?_))
 refine Og (zg yz ya rfl rfl (zy.of_blk0 k2x)) rfl ?_
 refine Om rfl ?_
 refine zE (gn rfl) (zu ya rfl rfl rfl rfl k4x (by simp) (yx.one h.sch _ _ _) ?_)
 intro wB nB cB kB
 refine Oa rfl (E2 4 5 rfl (zi ?_))
 repeat first | refine tr ?_ | refine br ?_
 refine zm3 rfl yz ya rfl rfl rfl (zy.of_blk0 kB) ?_
 have hcB : zk [] w wB := hcx.own cB (by intro y hy; simp at hy; omega)
 have e : zb4 s rows row = yV s row := by simp [zb4, hf]
 exact ⟨.slice po rows.length co, by rw [e]; rfl, by simp only [zcG, e, if_neg hf]; exact h.chg0 hcB, hcB⟩
theorem zoq (c k u o v : Value) (s : yo) (rows : LV) (row : List zQ) (w : World) (h : yx w c k u o s rows) (hl : zK w v row) (hg : ∀ x ∈ row, x.Rng) :
 z9 TP 57 #[.agg #[c, k, u, o], v] w fun r w' => ∃ o', r = .tuple #[.agg #[c, k, u, o'], .bool (zkT s rows row), Ii (zj4 s rows row)] ∧ yx w' c k u o' s (zcG s rows row) ∧ zk [] w w' := by
 obtain ⟨po, co, rfl, hco⟩ := h.rws.val
 refine A2 Tryz.func57 rfl rfl ?_
 refine Sr ?_
 refine Ob rfl rfl ?_
 intro b2 w2 e2 n2 c2 k2
 refine zE (gn rfl) (zH zcx rfl rfl ?_)
 intro b4 w4 e4 n4 c4 k4
 refine Oa rfl (Oa rfl (E3 1 2 4 rfl ?_))
 have k2w : zU w4 b2 54 [c, k, u, .slice po rows.length co] := k2.chg0 c4
 have hcw4 := c2.trans c4
 have hs2 := c2.size
 refine Sr ?_
 refine Og (zg yz ya rfl rfl (zy.of_blk0 k2w)) rfl ?_
 refine Om rfl ?_
 refine Oc zuS rfl rfl rfl (zkN _ _ _ _ _ s rows row _ (h.chg0 hcw4) (z0.chg0 hl hcw4) hg) ?_
 rintro v12 w12 ⟨o', rfl, h12, c12⟩
 obtain ⟨p12, q12, rfl, -⟩ := h12.rws.val
 refine Om rfl (Oe rfl rfl (Oe rfl rfl ?_))
 refine zE (gn rfl) (zH zcx rfl rfl ?_)
 intro b7 w7 e7 n7 c7 k7
 refine zE (gn rfl) (zu ya rfl rfl rfl rfl k7 (by simp) (yx.one h12.sch _ _ _) ?_)
 intro wA nA cA kA
 refine Oa rfl (E4 2 4 7 8 rfl ?_)
 have hs4 := c4.size
 have hs12 := c12.size
 have kA : zU wA b7 54 [c, k, u, .slice p12 (zcG s rows row).length q12] := kA
 have hA7 : zk [] w12 wA := c7.own cA (by intro y hy; simp at hy; omega)
 have hcx := (hcw4.trans c12).trans hA7
 have k2x := (k2w.chg0 c12).chg0 hA7
 have k4x := (k4.chg0 c12).chg0 hA7
 have hRA := h12.rws.chg0 hA7
 refine ze (ze ?_)
 by_cases h2 : zb4 s rows row = 220
 ·refine za (Om rfl ?_)
  refine Og (vt (zw rfl rfl) (by simp [h2])) rfl ?_
  refine E5 2 4 7 8 16 rfl (zd rfl (Sr ?_))
  refine Og (zg yz ya rfl rfl (zy.of_blk0 k2x)) rfl ?_
  refine zE (gn rfl) (zu ya rfl rfl rfl rfl k4x (by simp) (yx.one h.sch _ _ _) ?_)
  intro wB nB cB kB
  refine Oa rfl (Oa rfl (E3 4 5 6 rfl (zi ?_)))
  repeat first | refine tr ?_ | refine br ?_
  refine zeU rfl yz ya rfl rfl rfl rfl (zy.of_blk0 kB) ?_
  have hcB : zk [] w wB := hcx.own cB (by intro y hy; simp at hy; omega)
  have e1 : zkT s rows row = false := by simp [zkT, h2]
  have e2 : zj4 s rows row = 0 := by simp [zj4, h2]
  exact ⟨.slice po rows.length co, by rw [e1, e2]; rfl, by simp only [zcG, h2]; exact h.chg0 hcB, hcB⟩
 refine za (Om rfl ?_)
 refine Og (vf (zw rfl rfl) (by simp [h2])) rfl ?_
 refine E5 2 4 7 8 16 rfl (zb rfl (zm (Sr ?_)))
 refine Og (zg yz ya rfl rfl (zy.of_blk0 kA)) rfl ?_
 refine Om rfl (Og (zw rfl rfl) rfl (Om rfl ?_))
 refine zE (gn rfl) (zu ya rfl rfl rfl rfl k4x (by simp) (yx.one h.sch _ _ _) ?_)
 intro wB nB cB kB
 refine Oa rfl (Oa rfl (E3 4 5 6 rfl (zi ?_)))
 refine zeU rfl yz ya rfl rfl rfl rfl (zy.of_blk0 kB) ?_
 have hcB : zk [] w wB := hcx.own cB (by intro y hy; simp at hy; omega)
 have e2 : zj4 s rows row = zb4 s rows row := by simp [zj4, h2]
 exact ⟨.slice p12 (zcG s rows row).length q12, by rw [e2]; rfl, ⟨h.sch.chg0 hcB, hRA.chgB k4x rfl rfl cB, h12.ok, h12.nm⟩, hcB⟩
end Go.Wk
