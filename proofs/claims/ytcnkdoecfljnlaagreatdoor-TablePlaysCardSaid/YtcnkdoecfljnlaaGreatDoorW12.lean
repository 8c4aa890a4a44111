/- joined texts -/
import Derived.Test.YtcnkdoecfljnlaaGreatDoorW11
set_option linter.all false
namespace Go.Wk
open Go.Proofs
set_option maxRecDepth 10000
theorem zpW (c k u v : Value) (s : ym) (l : List zO) (w : World) (hs : yL w c k u s) (hl : zI w v l) (hn : ∀ c ∈ s.cols, c.n.size ≤ 1048576) : z6 TP 21 #[.agg #[c, k, u], v] w fun r w' => r = Ii (yZ s l) ∧ zj [] w w' := by
 obtain ⟨pc, dc, rfl, hdc⟩ := z9.val hs.cols
 obtain ⟨pv, cv, rfl, hcv⟩ := z9.val hl
 have hml := z9.max hl
 simp only [maxLen] at hml
 refine A2 Tryz.func21 rfl rfl ?_
 refine Sr ?_
 refine Ob rfl rfl ?_
 intro b2 w2 e2 n2 c2 k2
 refine Oa rfl (E2 1 2 rfl (ze (ze ?_)))
 cases hr : yO s with
 | false =>
  refine za ?_
  refine Og (zg zbs zbm rfl rfl (zz.of_blk0 k2)) rfl ?_
  refine Oc zov rfl rfl rfl (zfN _ _ _ s _ (hs.chg0 c2) hn) ?_
  rintro v8 w8 ⟨h8, c8⟩
  rw [hr] at h8
  subst h8
  refine Og (zU rfl) rfl (E3 1 2 9 rfl (zd rfl (Sr (Oa rfl (E1 4 rfl (zi ?_))))))
  repeat first | refine tr ?_ | refine br ?_
  refine zC rfl rfl ?_
  exact ⟨by simp [yZ, hr], c2.trans c8⟩
 | true =>
 refine za ?_
 refine Og (zg zbs zbm rfl rfl (zz.of_blk0 k2)) rfl ?_
 refine Oc zov rfl rfl rfl (zfN _ _ _ s _ (hs.chg0 c2) hn) ?_
 rintro v8 w8 ⟨h8, c8⟩
 rw [hr] at h8
 subst h8
 refine Og (zU rfl) rfl (E3 1 2 9 rfl (zb rfl (zm ?_)))
 have k2 := k2.chg0 c8
 have hc8 := c2.trans c8
 refine ze (ze ?_)
 by_cases hlen : l.length ≠ s.cols.length
 ·refine za (Om rfl (On zak rfl (Od yv rfl ?_)))
  refine Ol zaB rfl (k2.cell' (i := 0) rfl) ?_
  refine On zat rfl ?_
  refine Og (vt (zT rfl rfl) (by simp; omega)) rfl ?_
  refine E3 1 2 15 rfl (zd rfl (Sr (Oa rfl (E1 4 rfl (zi ?_)))))
  repeat first | refine tr ?_ | refine br ?_
  refine zC rfl rfl ?_
  exact ⟨by simp [yZ, hr, hlen], hc8⟩
 have hlen : l.length = s.cols.length := by omega
 have hrow : yZ s l = zaQ s.cols l := by simp [yZ, hr, hlen]
 refine za (Om rfl (On zak rfl (Od yv rfl ?_)))
 refine Ol zaB rfl (k2.cell' (i := 0) rfl) ?_
 refine On zat rfl ?_
 refine Og (vf (zT rfl rfl) (by simp; omega)) rfl ?_
 refine E3 1 2 15 rfl (zb rfl (zm ?_))
 refine yd (fun F wx => (∃ f5 f19, F = [(1, .slice pv l.length cv), (2, Pt b2), (5, f5), (19, f19)]) ∧ zj [] w8 wx ∧ (∀ (i : Nat) c x, i < l.length → s.cols[i]? = some c → l[i]? = some x → y7 c x = 0)) ?_ ?_
 ·refine Sr (Oa rfl (E3 1 2 5 rfl (zq ?_)))
  refine zZ [1, 2, 5] (fun m F wx => ∃ j : Nat, m = l.length - j ∧ j ≤ l.length ∧ F = [(1, .slice pv l.length cv), (2, Pt b2), (5, Ii j)] ∧ zj [] w8 wx ∧ (∀ (i : Nat) c x, i < j → s.cols[i]? = some c → l[i]? = some x → y7 c x = 0)) (m := l.length - 0) ⟨0, rfl, Nat.zero_le _, rfl, zj.refl _ _, by omega⟩ ?_
  rintro m F wx ⟨j, rfl, hj, rfl, hcx, hall⟩
  have k2x := k2.chg0 hcx
  refine ze (ze ?_)
  by_cases hlt : j < l.length
  ·refine za (Om rfl (Om rfl (On zak rfl ?_)))
   refine Og (vt (zB rfl rfl) (by simp; omega)) rfl ?_
   refine E4 1 2 5 19 rfl (zd rfl (zm ?_))
   have hlc : j < s.cols.length := by omega
   have hx : l[j]? = some l[j] := by simp [hlt]
   have hy : s.cols[j]? = some s.cols[j] := by simp [hlc]
   generalize l[j] = x at hx
   generalize s.cols[j] = y at hy
   obtain ⟨b, off, cap, hve, -⟩ := z9.at zbe hl hx
   obtain ⟨bc, oc, cc, hve2, -⟩ := z9.at zau hs.cols hy
   cases hve; cases hve2
   have hce : ∀ {wz : World}, zj [] wx wz → wz.cell? ⟨b2, 0, none⟩ = some (.slice (some ⟨bc, oc, none⟩) s.cols.length dc) ∧ zz wz bc (oc + j * 4) y.cs ∧ zz wz b (off + j * 4) x.cs := fun hc => by
    obtain ⟨b1', o1, c1', he, h1⟩ := z9.at zbe (z9.chg0 hl ((hc8.trans hcx).trans hc)) hx
    obtain ⟨b2, o2, c2, he2, h2⟩ := z9.at zau (z9.chg0 hs.cols ((hc8.trans hcx).trans hc)) hy
    cases he; cases he2
    exact ⟨(k2x.chg0 hc).cell' (i := 0) rfl, h2, h1⟩
   refine ze (zq (ze ?_))
   refine zJ (fun wz => zj [] wx wz) mix (by kernel_rfl) (zj.drew [] wx) ?_
   refine Td yv rfl ?_
   refine Tr (fun wz hz => zh zaB rfl (hce hz).1) rfl ?_
   refine Tm rfl ?_
   refine Tp (fun _ => zf zat za1 rfl rfl _ rfl hlc) rfl ?_
   refine Tr (fun wz hz => zg zec za1 rfl rfl (hce hz).2.1) rfl ?_
   refine Tm rfl (Tm rfl ?_)
   refine Tp (fun _ => zf zak y4 rfl rfl _ rfl hlt) rfl ?_
   refine Tr (fun wz hz => zg zbd y4 rfl rfl (hce hz).2.2) rfl ?_
   refine Tc zxr rfl rfl rfl (ztw y x _ (hn y (List.mem_of_getElem? hy))) ?_
   rintro v31 w31 ⟨rfl, c31⟩
   refine ⟨.inl ((zj.drew [] _).trans c31), ?_⟩
   refine Ta rfl (D4 1 2 5 6 rfl ?_)
   have hcx31 := (hcx.trans (zj.drew [] _)).trans c31
   refine ze ?_
   by_cases hf : y7 y x ≠ 0
   ·refine za (Om rfl ?_)
    refine Og (vt (zT rfl rfl) (by simp [hf])) rfl ?_
    refine E5 1 2 5 6 33 rfl (zd rfl (Sr (Om rfl (Oa rfl (E1 4 rfl (zi ?_))))))
    repeat first | refine tr ?_ | refine br ?_
    refine zC rfl rfl ?_
    exact ⟨by rw [hrow, zgv hy hx hf hall], hc8.trans hcx31⟩
   have hf : y7 y x = 0 := by omega
   refine za (Om rfl ?_)
   refine Og (vf (zT rfl rfl) (by simp [hf])) rfl ?_
   refine E5 1 2 5 6 33 rfl (zb rfl (yf (zk (za (Om rfl ?_)))))
   refine Og (zH rfl rfl (by omega)) rfl ?_
   refine Oa rfl (N3 1 2 5 rfl ?_)
   refine ⟨l.length - (j + 1), by omega, j + 1, rfl, by omega, rfl, hcx31, fun i c' x' hi h1 h2 => ?_⟩
   rcases Nat.lt_or_ge i j with h | h
   ·exact hall i c' x' h h1 h2
   have : i = j := by omega
   subst this
   rw [hy] at h1; rw [hx] at h2
   cases h1; cases h2; exact hf
  refine za (Om rfl (Om rfl (On zak rfl ?_)))
  refine Og (vf (zB rfl rfl) (by simp; omega)) rfl ?_
  refine E4 1 2 5 19 rfl (zb rfl ?_)
  refine zL ?_
  repeat first | refine te ?_ | refine bo rfl ?_
  refine zt _ ?_
  exact ⟨⟨_, _, rfl⟩, hcx, fun i c x hi => hall i c x (by omega)⟩
 rintro F wx ⟨⟨f5, f19, rfl⟩, hcx, hall⟩
 refine Sr (Oa rfl (E1 4 rfl (zi ?_)))
 refine zC rfl rfl ?_
 refine ⟨?_, hc8.trans hcx⟩
 rw [hrow, zgm fun i c x h1 h2 => hall i c x (List.getElem?_eq_some_iff.1 h2).1 h1 h2]
theorem zpX (v vi : Value) (row : List zO) (st : List Int) (w : World) (hv : zI w v row) (hi : yE w vi st) (hr : ∀ i ∈ st, 0 ≤ i ∧ i < row.length) (hn' : st.length ≤ 1048576) :
 z6 TP 30 #[v, vi] w fun r w' => ∃ u, r = .tuple #[u, Ii 0] ∧ za2 w' u (zX row st) ∧ (∀ b ∈ zn u, w.heap.size ≤ b) ∧ zj [] w w' := by
 obtain ⟨pi, ci, rfl, hci⟩ := z9.val hi
 obtain ⟨pv, cv, rfl, hcv'⟩ := z9.val hv
 refine A2 Tryz.func30 rfl rfl ?_
 refine Sr (Oa rfl (Oa rfl (E2 0 1 rfl (Sr (Oa rfl (E3 0 1 6 rfl ?_))))))
 refine yd (fun F wx => ∃ u f7 f11, F = [(0, .slice pv row.length cv), (1, .slice pi st.length ci), (6, u), (7, f7), (11, f11)] ∧ yr wx 40 4 zO.cs u (zX row st) ∧ (∀ b ∈ zn u, w.heap.size ≤ b) ∧ zj [] w wx) ?_ ?_
 ·refine Sr (Oa rfl (E4 0 1 6 7 rfl (zq ?_)))
  refine zZ [0, 1, 6, 7] (fun m F wx => ∃ (j : Nat) (u : Value), m = st.length - j ∧ j ≤ st.length ∧ F = [(0, .slice pv row.length cv), (1, .slice pi st.length ci), (6, u), (7, Ii j)] ∧ yr wx 40 4 zO.cs u (zX row (st.take j)) ∧ (∀ b ∈ zn u, w.heap.size ≤ b) ∧ zj [] w wx) (m := st.length - 0) ⟨0, _, rfl, Nat.zero_le _, rfl, yr.nil _ _ _ _, by simp [zn], zj.refl _ _⟩ ?_
  rintro m F wx ⟨j, u, rfl, hj, rfl, hu, hfu, hcx⟩
  have hvx := z9.chg0 hv hcx
  refine ze (ze ?_)
  by_cases hlt : j < st.length
  ·refine za (Om rfl (Om rfl (On zal rfl ?_)))
   refine Og (vt (zB rfl rfl) (by simp; omega)) rfl ?_
   refine E5 0 1 6 7 11 rfl (zd rfl (zm ?_))
   have hx : st[j]? = some st[j] := by simp [hlt]
   generalize st[j] = i at hx
   have hri := hr i (List.mem_of_getElem? hx)
   obtain ⟨i, rfl⟩ : ∃ k : Nat, i = (k : Int) := ⟨i.toNat, by omega⟩
   obtain ⟨bi, oi, cap, hve, hcell⟩ := yE.cell (z9.chg0 hi hcx) hx
   cases hve
   have hir : i < row.length := by omega
   have hxv : row[i]? = some row[i] := by simp [hir]
   have hat : zcl row (i : Int) = row[i] := by unfold zcl; rw [Int.toNat_natCast, hxv]; rfl
   generalize row[i] = x at hxv hat
   obtain ⟨bv, ov, cv', hve, hcv⟩ := z9.at zbe hvx hxv
   cases hve
   refine ze (zq (ze (Sr (Om rfl (Om rfl ?_)))))
   refine Og (zf zal sz3 rfl rfl _ rfl hlt) rfl ?_
   refine Ol ag3 rfl hcell ?_
   refine Og (vf (zB rfl rfl) (by simp)) rfl ?_
   refine Om rfl (Oj rfl rfl (Oj rfl rfl ?_))
   refine Oy rfl rfl (zf zal sz3 rfl rfl _ rfl hlt) ?_
   refine Oy rfl rfl (zh ag3 rfl hcell) ?_
   refine Oj rfl rfl ?_
   refine Oy rfl rfl (yc zak rfl) ?_
   refine Oy rfl rfl (vf (yn rfl rfl) (by simp; omega)) ?_
   refine Of rfl (E5 0 1 6 7 27 rfl (zb rfl (zm ?_)))
   have hl : (zX row (st.take j)).length = j := by rw [zeB, List.length_take]; omega
   refine za (Om rfl (Om rfl (Om rfl (Om rfl ?_))))
   refine Og (zf zal sz3 rfl rfl _ rfl hlt) rfl ?_
   refine Ol ag3 rfl hcell ?_
   refine Og (zf zak y4 rfl rfl _ rfl hir) rfl ?_
   refine Og (zg zbd y4 rfl rfl hcv) rfl ?_
   refine zD (gn rfl) (zy zg6 rfl (vs := [_]) rfl (css := [_]) ⟨rfl, trivial⟩ rfl rfl (cs := [_, _, _, _]) rfl rfl ?_)
   intro b36 w36 e36 n36 c36 k36
   refine zD (gn rfl) (yq zg6 zak rfl rfl (yr.chg0 hu c36) (zv.of_blk (n := 1) k36 rfl (by simp [maxLen]) (zO.one x)) (by rw [hl]; simp only [maxLen]; omega) (by rw [hl]; omega) rfl ?_)
   intro v37 w37 i37 c37 o37 z37
   refine Oa rfl (N4 0 1 6 7 rfl (zk (za (Om rfl ?_))))
   refine Og (zH rfl rfl (by omega)) rfl ?_
   refine Oa rfl (N4 0 1 6 7 rfl ?_)
   have hsz := hcx.size
   have hs36 := c36.size
   refine ⟨st.length - (j + 1), by omega, j + 1, v37, rfl, by omega, rfl, ?_, yy o37 hfu (by omega), ?_⟩
   ·rw [ziY hx, hat]
    exact z9.push i37 rfl rfl
   exact (hcx.trans c36).own c37 hfu
  refine za (Om rfl (Om rfl (On zal rfl ?_)))
  refine Og (vf (zB rfl rfl) (by simp; omega)) rfl ?_
  refine E5 0 1 6 7 11 rfl (zb rfl ?_)
  refine zL ?_
  repeat first | refine te ?_ | refine bo rfl ?_
  refine zt _ ?_
  rw [List.take_of_length_le (by omega)] at hu
  exact ⟨u, _, _, rfl, hu, hfu, hcx⟩
 rintro F wx ⟨u, f7, f11, rfl, hu, hfu, hcx⟩
 refine Sr (Om rfl (Oa rfl (Oa rfl (E2 4 5 rfl (zi ?_)))))
 refine zaO rfl rfl rfl ?_
 exact ⟨u, rfl, hu, hfu, hcx⟩
theorem zop (c k u : Value) (s : ym) (w : World) (hs : yL w c k u s) (hr : yO s = true) (hn : ∀ c ∈ s.cols, c.n.size ≤ 1048576) : z6 TP 28 #[.agg #[c, k, u]] w fun r w' => zce w' r (zM s) ∧ (∀ b ∈ zn r, w.heap.size ≤ b) ∧ zj [] w w' := by
 have h3 := (zY hr).2.1
 obtain ⟨pk, dk, rfl, hdk⟩ := z9.val hs.key
 obtain ⟨pu, du, rfl, hdu⟩ := zaN.val hs.uq
 refine A1 Tryz.func28 rfl rfl ?_
 refine Sr ?_
 refine Ob rfl rfl ?_
 intro b1 w1 e1 n1 c1 k1
 refine Oa rfl (E1 1 rfl (ze (Sr ?_)))
 refine Og (zg zbs zbm rfl rfl (zz.of_blk0 k1)) rfl ?_
 refine Oc zov rfl rfl rfl (zfN _ _ _ s _ (hs.chg0 c1) hn) ?_
 rintro v4 w4 ⟨h4, c4⟩
 rw [hr] at h4
 subst h4
 refine Og (zU rfl) rfl (E2 1 5 rfl (zb rfl (zm ?_)))
 have k1 := k1.chg0 c4
 have hs4 := (hs.chg0 c1).chg0 c4
 obtain ⟨vu, ou, lu⟩ := id hs4.uq
 have hvu := ou.1.len_xs
 refine Sr (Od za7 rfl ?_)
 refine Ol zbk rfl (k1.cell' (i := 1) rfl) ?_
 refine zD (gn rfl) (zy zng rfl (vs := [_]) rfl (css := [_]) ⟨rfl, trivial⟩ rfl rfl (cs := [_]) rfl rfl ?_)
 intro b8 w8 e8 n8 c8 k8
 refine Od zaf rfl ?_
 refine Ol zbM rfl ((k1.chg0 c8).cell' (i := 2) rfl) ?_
 refine zD (gn rfl) (zcM zng zay rfl rfl (zv.of_blk (n := 1) k8 rfl (by simp [maxLen]) (by intro y hy; simp at hy; subst hy; rfl)) (Rd.chg0 ou.1 c8) (by simp only [maxLen]; omega) (by omega) rfl ?_)
 intro v11 w11 i11 c11 o11 z11
 refine Oa rfl (E1 2 rfl (zi ?_))
 refine zC rfl rfl ?_
 have hsz := c1.size
 have hsz4 := c4.size
 have hs8 := c8.size
 have hcw : zj [] w w11 := ((c1.trans c4).trans c8).own c11 (by intro y hy; simp [zn] at hy; omega)
 have hs11 := hs.chg0 hcw
 have hc411 : zj [] w4 w11 := c8.own c11 (by intro y hy; simp [zn] at hy; omega)
 have hlow : zbY w11 3 1 ics vu s.uq := lu.chg0 hc411
 refine ⟨⟨_, ?_, (show zbY w11 3 1 ics (.slice pk s.key.length dk :: vu) (s.key :: s.uq) from ⟨hs11.key, hlow⟩)⟩, ?_, hcw⟩
 ·have e : (zM s).length = 1 + s.uq.length := by simp [zM]; omega
  rw [e]; exact i11.toOu
 rcases o11 with o11 | ⟨b, o11, hb⟩
 ·rw [o11]; intro x hx; simp [zn] at hx; omega
 rw [o11]; intro x hx; simp at hx; omega
theorem zi1 (v u : Value) (l m : List Int) (w : World) (hv : yE w v l) (hu : yE w u m) : z6 TP 71 #[v, u] w fun r w' => r = .bool (decide (l = m)) ∧ zj [] w w' := by
 obtain ⟨pv, cv, rfl, hcv⟩ := z9.val hv
 obtain ⟨pu, cu, rfl, hcu⟩ := z9.val hu
 have hml := z9.max hv
 simp only [maxLen] at hml
 refine A2 Tryz.func71 rfl rfl ?_
 refine Sr (Oa rfl (E2 0 1 rfl (ze (ze ?_))))
 by_cases he : l.length ≠ m.length
 ·refine za (Om rfl (On zal rfl (Om rfl (On zal rfl ?_))))
  refine Og (vt (zT rfl rfl) (by simp; omega)) rfl ?_
  refine E3 0 1 10 rfl (zd rfl (Sr (Oa rfl (E1 4 rfl (zi ?_)))))
  repeat first | refine tr ?_ | refine br ?_
  refine zC rfl rfl ?_
  exact ⟨by rw [decide_eq_false (fun h => he (by rw [h]))], zj.refl _ _⟩
 have he : l.length = m.length := by omega
 refine za (Om rfl (On zal rfl (Om rfl (On zal rfl ?_))))
 refine Og (vf (zT rfl rfl) (by simp; omega)) rfl ?_
 refine E3 0 1 10 rfl (zb rfl (zm ?_))
 refine yd (fun F wx => (∃ f5 f14, F = [(0, .slice pv l.length cv), (1, .slice pu m.length cu), (5, f5), (14, f14)]) ∧ zj [] w wx ∧ l = m) ?_ ?_
 ·refine Sr (Oa rfl (E3 0 1 5 rfl (zq ?_)))
  refine zZ [0, 1, 5] (fun k F wx => ∃ j : Nat, k = l.length - j ∧ j ≤ l.length ∧ F = [(0, .slice pv l.length cv), (1, .slice pu m.length cu), (5, Ii j)] ∧ zj [] w wx ∧ l.take j = m.take j) (m := l.length - 0) ⟨0, rfl, Nat.zero_le _, rfl, zj.refl _ _, by simp⟩ ?_
  rintro k F wx ⟨j, rfl, hj, rfl, hcx, htk⟩
  refine ze (ze ?_)
  by_cases hlt : j < l.length
  ·refine za (Om rfl (Om rfl (On zal rfl ?_)))
   refine Og (vt (zB rfl rfl) (by simp; omega)) rfl ?_
   refine E4 0 1 5 14 rfl (zd rfl (zm ?_))
   have hlm : j < m.length := by omega
   have hx : l[j]? = some l[j] := by simp [hlt]
   have hy : m[j]? = some m[j] := by simp [hlm]
   generalize l[j] = x at hx
   generalize m[j] = y at hy
   obtain ⟨b, off, cap, hve, -⟩ := yE.cell hv hx
   obtain ⟨bc, oc, cc, hve2, -⟩ := yE.cell hu hy
   cases hve; cases hve2
   have hce : ∀ {wz : World}, zj [] wx wz → wz.cell? ⟨b, off + j * 1, none⟩ = some (Ii x) ∧ wz.cell? ⟨bc, oc + j * 1, none⟩ = some (Ii y) := fun hc => by
    obtain ⟨b1', o1, c1', he, h1⟩ := yE.cell (z9.chg0 hv (hcx.trans hc)) hx
    obtain ⟨b2, o2, c2, he2, h2⟩ := yE.cell (z9.chg0 hu (hcx.trans hc)) hy
    cases he; cases he2
    exact ⟨h1, h2⟩
   refine ze (zq (ze ?_))
   by_cases hxy : x ≠ y
   ·refine zJ (fun wz => zj [] wx wz) mix (by kernel_rfl) (zj.drew [] wx) ?_
    refine Tm rfl (Tm rfl ?_)
    refine Tp (fun _ => zf zal sz3 rfl rfl _ rfl hlt) rfl ?_
    refine Tr (fun wz hz => zh ag3 rfl (hce hz).1) rfl ?_
    refine Tm rfl (Tm rfl ?_)
    refine Tp (fun _ => zf zal sz3 rfl rfl _ rfl hlm) rfl ?_
    refine Tr (fun wz hz => zh ag3 rfl (hce hz).2) rfl ?_
    refine Tp (fun _ => vt (zT rfl rfl) (by simp [hxy])) rfl ?_
    refine D4 0 1 5 25 rfl (zd rfl (Sr (Oa rfl (E1 4 rfl (zi ?_)))))
    repeat first | refine tr ?_ | refine br ?_
    refine zC rfl rfl ?_
    refine ⟨?_, hcx.trans (zj.drew [] _)⟩
    rw [decide_eq_false]
    rintro rfl
    rw [hx] at hy
    exact hxy (Option.some.inj hy)
   have hxy : x = y := by omega
   refine zJ (fun wz => zj [] wx wz) mix (by kernel_rfl) (zj.drew [] wx) ?_
   refine Tm rfl (Tm rfl ?_)
   refine Tp (fun _ => zf zal sz3 rfl rfl _ rfl hlt) rfl ?_
   refine Tr (fun wz hz => zh ag3 rfl (hce hz).1) rfl ?_
   refine Tm rfl (Tm rfl ?_)
   refine Tp (fun _ => zf zal sz3 rfl rfl _ rfl hlm) rfl ?_
   refine Tr (fun wz hz => zh ag3 rfl (hce hz).2) rfl ?_
   refine Tp (fun _ => vf (zT rfl rfl) (by simp [hxy])) rfl ?_
   refine D4 0 1 5 25 rfl (zb rfl (yf (zk (za (Om rfl ?_)))))
   refine Og (zH rfl rfl (by omega)) rfl ?_
   refine Oa rfl (N3 0 1 5 rfl ?_)
   refine ⟨l.length - (j + 1), by omega, j + 1, rfl, by omega, rfl, hcx.trans (zj.drew [] _), ?_⟩
   rw [yh hx, yh hy, htk, hxy]
  refine za (Om rfl (Om rfl (On zal rfl ?_)))
  refine Og (vf (zB rfl rfl) (by simp; omega)) rfl ?_
  refine E4 0 1 5 14 rfl (zb rfl ?_)
  refine zL ?_
  repeat first | refine te ?_ | refine bo rfl ?_
  refine zt _ ?_
  rw [List.take_of_length_le (by omega), List.take_of_length_le (by omega)] at htk
  exact ⟨⟨_, _, rfl⟩, hcx, htk⟩
 rintro F wx ⟨⟨f5, f14, rfl⟩, hcx, heq⟩
 refine Sr (Oa rfl (E1 4 rfl (zi ?_)))
 refine zC rfl rfl ?_
 exact ⟨by rw [decide_eq_true heq], hcx⟩
theorem zqH (c k u c' k' u' : Value) (s t : ym) (w : World) (hs : yL w c k u s) (ht : yL w c' k' u' t) : z6 TP 33 #[.agg #[c, k, u], .agg #[c', k', u']] w fun r w' => r = .bool (decide (s = t)) ∧ zj [] w w' := by
 obtain ⟨pc, dc, rfl, hdc⟩ := z9.val hs.cols
 obtain ⟨pk, dk, rfl, hdk⟩ := z9.val hs.key
 obtain ⟨pu, du, rfl, hdu⟩ := zaN.val hs.uq
 obtain ⟨pc', dc', rfl, hdc'⟩ := z9.val ht.cols
 obtain ⟨pk', dk', rfl, hdk'⟩ := z9.val ht.key
 obtain ⟨pu', du', rfl, hdu'⟩ := zaN.val ht.uq
 have hmc := z9.max hs.cols
 have hmu := zaN.max hs.uq
 simp only [maxLen] at hmc hmu
 refine A2 Tryz.func33 rfl rfl ?_
 refine Sr ?_
 refine Ob rfl rfl ?_
 intro b2 w2 e2 n2 c2 k2
 refine Ob rfl rfl ?_
 intro b3 w3 e3 n3 c3 k3
 refine Oa rfl (E2 2 3 rfl ?_)
 have k2 := k2.chg0 c3
 have hc3 : zj [] w w3 := c2.trans c3
 have hs3 := hs.chg0 hc3
 have ht3 := ht.chg0 hc3
 refine ze (ze ?_)
 by_cases h1 : s.cols.length ≠ t.cols.length
 ·refine za (Od yv rfl ?_)
  refine Ol zaB rfl (k2.cell' (i := 0) rfl) ?_
  refine On zat rfl (Od yv rfl ?_)
  refine Ol zaB rfl (k3.cell' (i := 0) rfl) ?_
  refine On zat rfl ?_
  refine Og (vt (zT rfl rfl) (by simp; omega)) rfl ?_
  refine Om rfl (Oz rfl rfl (Oz rfl rfl (Oz rfl rfl (Oz rfl rfl (Oz rfl rfl (Oz rfl rfl (Oz rfl rfl (Ot rfl (Om rfl (Oz rfl rfl (Oz rfl rfl (Oz rfl rfl (Oz rfl rfl ?_)))))))))))))
  refine Oz rfl rfl (Oz rfl rfl (Ot rfl (E3 2 3 30 rfl (zd rfl (Sr (Oa rfl (E1 4 rfl (zi ?_))))))))
  repeat first | refine tr ?_ | refine br ?_
  refine zC rfl rfl ?_
  exact ⟨by rw [decide_eq_false (fun h => h1 (by rw [h]))], hc3⟩
 by_cases h2 : s.uq.length ≠ t.uq.length
 ·refine za (Od yv rfl ?_)
  refine Ol zaB rfl (k2.cell' (i := 0) rfl) ?_
  refine On zat rfl (Od yv rfl ?_)
  refine Ol zaB rfl (k3.cell' (i := 0) rfl) ?_
  refine On zat rfl ?_
  refine Og (vf (zT rfl rfl) (by simp; omega)) rfl ?_
  refine Om rfl ?_
  refine Oy rfl rfl (zl zaf rfl) ?_
  refine Oy rfl rfl (zh zbM rfl (k2.cell' (i := 2) rfl)) ?_
  refine Oy rfl rfl (yc zay rfl) ?_
  refine Oy rfl rfl (zl zaf rfl) ?_
  refine Oy rfl rfl (zh zbM rfl (k3.cell' (i := 2) rfl)) ?_
  refine Oy rfl rfl (yc zay rfl) ?_
  refine Oy rfl rfl (vt (zT rfl rfl) (by simp; omega)) ?_
  refine Of rfl (Om rfl (Oz rfl rfl (Oz rfl rfl (Oz rfl rfl (Oz rfl rfl (Oz rfl rfl (Oz rfl rfl (Ot rfl (E3 2 3 30 rfl (zd rfl (Sr (Oa rfl ?_))))))))))))
  refine E1 4 rfl (zi ?_)
  repeat first | refine tr ?_ | refine br ?_
  refine zC rfl rfl ?_
  exact ⟨by rw [decide_eq_false (fun h => h2 (by rw [h]))], hc3⟩
 by_cases h3 : s.key = t.key
 case neg =>
  refine za (Od yv rfl ?_)
  refine Ol zaB rfl (k2.cell' (i := 0) rfl) ?_
  refine On zat rfl (Od yv rfl ?_)
  refine Ol zaB rfl (k3.cell' (i := 0) rfl) ?_
  refine On zat rfl ?_
  refine Og (vf (zT rfl rfl) (by simp; omega)) rfl ?_
  refine Om rfl ?_
  refine Oy rfl rfl (zl zaf rfl) ?_
  refine Oy rfl rfl (zh zbM rfl (k2.cell' (i := 2) rfl)) ?_
  refine Oy rfl rfl (yc zay rfl) ?_
  refine Oy rfl rfl (zl zaf rfl) ?_
  refine Oy rfl rfl (zh zbM rfl (k3.cell' (i := 2) rfl)) ?_
  refine Oy rfl rfl (yc zay rfl) ?_
  refine Oy rfl rfl (vf (zT rfl rfl) (by simp; omega)) ?_
  refine Of rfl (Om rfl ?_)
  refine Oy rfl rfl (zl za7 rfl) ?_
  refine Oy rfl rfl (zh zbk rfl (k2.cell' (i := 1) rfl)) ?_
  refine Oy rfl rfl (zl za7 rfl) ?_
  refine Oy rfl rfl (zh zbk rfl (k3.cell' (i := 1) rfl)) ?_
  refine Ow rfl rfl zqj rfl rfl rfl (zi1 _ _ _ _ _ hs3.key ht3.key) ?_
  rintro v28 w28 ⟨h28, c28⟩
  rw [decide_eq_false h3] at h28
  subst h28
  refine Oy rfl rfl (zU rfl) ?_
  refine Of rfl (E3 2 3 30 rfl (zd rfl (Sr (Oa rfl (E1 4 rfl (zi ?_))))))
  repeat first | refine tr ?_ | refine br ?_
  refine zC rfl rfl ?_
  exact ⟨by rw [decide_eq_false (fun h => h3 (by rw [h]))], hc3.trans c28⟩
 refine za (Od yv rfl ?_)
 refine Ol zaB rfl (k2.cell' (i := 0) rfl) ?_
 refine On zat rfl (Od yv rfl ?_)
 refine Ol zaB rfl (k3.cell' (i := 0) rfl) ?_
 refine On zat rfl ?_
 refine Og (vf (zT rfl rfl) (by simp; omega)) rfl ?_
 refine Om rfl ?_
 refine Oy rfl rfl (zl zaf rfl) ?_
 refine Oy rfl rfl (zh zbM rfl (k2.cell' (i := 2) rfl)) ?_
 refine Oy rfl rfl (yc zay rfl) ?_
 refine Oy rfl rfl (zl zaf rfl) ?_
 refine Oy rfl rfl (zh zbM rfl (k3.cell' (i := 2) rfl)) ?_
 refine Oy rfl rfl (yc zay rfl) ?_
 refine Oy rfl rfl (vf (zT rfl rfl) (by simp; omega)) ?_
 refine Of rfl (Om rfl ?_)
 refine Oy rfl rfl (zl za7 rfl) ?_
 refine Oy rfl rfl (zh zbk rfl (k2.cell' (i := 1) rfl)) ?_
 refine Oy rfl rfl (zl za7 rfl) ?_
 refine Oy rfl rfl (zh zbk rfl (k3.cell' (i := 1) rfl)) ?_
 refine Ow rfl rfl zqj rfl rfl rfl (zi1 _ _ _ _ _ hs3.key ht3.key) ?_
 rintro v28 w28 ⟨h28, c28⟩
 rw [decide_eq_true h3] at h28
 subst h28
 refine Oy rfl rfl (zU rfl) ?_
 refine Of rfl (E3 2 3 30 rfl (zb rfl (zm ?_)))
 have k2 := k2.chg0 c28
 have k3 := k3.chg0 c28
 have hc28 := hc3.trans c28
 have hlc : s.cols.length = t.cols.length := by omega
 have hlu : s.uq.length = t.uq.length := by omega
 refine yd (fun F wx => (∃ f5 f35, F = [(2, Pt b2), (3, Pt b3), (5, f5), (35, f35)]) ∧ zj [] w28 wx ∧ s.cols = t.cols) ?_ ?_
 ·refine Sr (Oa rfl (E3 2 3 5 rfl (zq ?_)))
  refine zZ [2, 3, 5] (fun k F wx => ∃ j : Nat, k = s.cols.length - j ∧ j ≤ s.cols.length ∧ F = [(2, Pt b2), (3, Pt b3), (5, Ii j)] ∧ zj [] w28 wx ∧ s.cols.take j = t.cols.take j) (m := s.cols.length - 0) ⟨0, rfl, Nat.zero_le _, rfl, zj.refl _ _, by simp⟩ ?_
  rintro k F wx ⟨j, rfl, hj, rfl, hcx, htk⟩
  have k2x := k2.chg0 hcx
  have k3x := k3.chg0 hcx
  refine ze (ze ?_)
  by_cases hlt : j < s.cols.length
  ·refine za (Om rfl (Od yv rfl ?_))
   refine Ol zaB rfl (k2x.cell' (i := 0) rfl) ?_
   refine On zat rfl ?_
   refine Og (vt (zB rfl rfl) (by simp; omega)) rfl ?_
   refine E4 2 3 5 35 rfl (zd rfl (zm ?_))
   have hlm : j < t.cols.length := by omega
   have hx : s.cols[j]? = some s.cols[j] := by simp [hlt]
   have hy : t.cols[j]? = some t.cols[j] := by simp [hlm]
   generalize s.cols[j] = x at hx
   generalize t.cols[j] = y at hy
   obtain ⟨b, off, cap, hve, -⟩ := z9.at zau hs.cols hx
   obtain ⟨bc, oc, cc, hve2, -⟩ := z9.at zau ht.cols hy
   cases hve; cases hve2
   have hce : ∀ {wz : World}, zj [] wx wz → wz.cell? ⟨b2, 0, none⟩ = some (.slice (some ⟨b, off, none⟩) s.cols.length dc) ∧ wz.cell? ⟨b3, 0, none⟩ = some (.slice (some ⟨bc, oc, none⟩) t.cols.length dc') ∧ zz wz b (off + j * 4) x.cs ∧ zz wz bc (oc + j * 4) y.cs := fun hc => by
    obtain ⟨b1', o1, c1', he, h1⟩ := z9.at zau (z9.chg0 hs.cols ((hc28.trans hcx).trans hc)) hx
    obtain ⟨b2, o2, c2, he2, h2⟩ := z9.at zau (z9.chg0 ht.cols ((hc28.trans hcx).trans hc)) hy
    cases he; cases he2
    exact ⟨(k2x.chg0 hc).cell' (i := 0) rfl, (k3x.chg0 hc).cell' (i := 0) rfl, h1, h2⟩
   refine ze (zq (ze ?_))
   refine zJ (fun wz => zj [] wx wz) mix (by kernel_rfl) (zj.drew [] wx) ?_
   refine Td yv rfl ?_
   refine Tr (fun wz hz => zh zaB rfl (hce hz).1) rfl ?_
   refine Tm rfl ?_
   refine Tp (fun _ => zf zat za1 rfl rfl _ rfl hlt) rfl ?_
   refine Tr (fun wz hz => zg zec za1 rfl rfl (hce hz).2.2.1) rfl ?_
   refine Td yv rfl ?_
   refine Tr (fun wz hz => zh zaB rfl (hce hz).2.1) rfl ?_
   refine Tm rfl ?_
   refine Tp (fun _ => zf zat za1 rfl rfl _ rfl hlm) rfl ?_
   refine Tr (fun wz hz => zg zec za1 rfl rfl (hce hz).2.2.2) rfl ?_
   refine Tp (fun _ => zjk zxk rfl rfl (zt5 x y)) rfl ?_
   refine D4 2 3 5 48 rfl ?_
   refine zR rfl (fun hT => ?_) (fun hF => ?_)
   ·refine Sr (Oa rfl (E1 4 rfl (zi ?_)))
    repeat first | refine tr ?_ | refine br ?_
    refine zC rfl rfl ?_
    refine ⟨?_, (hc28.trans hcx).trans (zj.drew [] _)⟩
    rw [decide_eq_false]
    rintro rfl
    rw [hx] at hy
    cases hy
    simp at hT
   refine yf (zk ?_)
   have hxy : x = y := by simpa using hF
   refine za (Om rfl ?_)
   refine Og (zH rfl rfl (by omega)) rfl ?_
   refine Oa rfl (N3 2 3 5 rfl ?_)
   refine ⟨s.cols.length - (j + 1), by omega, j + 1, rfl, by omega, rfl, hcx.trans (zj.drew [] _), ?_⟩
   rw [yh hx, yh hy, htk, hxy]
  refine za (Om rfl (Od yv rfl ?_))
  refine Ol zaB rfl (k2x.cell' (i := 0) rfl) ?_
  refine On zat rfl ?_
  refine Og (vf (zB rfl rfl) (by simp; omega)) rfl ?_
  refine E4 2 3 5 35 rfl (zb rfl ?_)
  refine zL ?_
  repeat first | refine te ?_ | refine bo rfl ?_
  refine zt _ ?_
  rw [List.take_of_length_le (by omega), List.take_of_length_le (by omega)] at htk
  exact ⟨⟨_, _, rfl⟩, hcx, htk⟩
 rintro F wx ⟨⟨f5, f35, rfl⟩, hcx, hcols⟩
 refine yd (fun F wy => (∃ f6 f53, F = [(2, Pt b2), (3, Pt b3), (6, f6), (53, f53)]) ∧ zj [] w28 wy ∧ s.uq = t.uq) ?_ ?_
 ·refine Sr (Oa rfl (E3 2 3 6 rfl (zq ?_)))
  refine zZ [2, 3, 6] (fun k F wy => ∃ j : Nat, k = s.uq.length - j ∧ j ≤ s.uq.length ∧ F = [(2, Pt b2), (3, Pt b3), (6, Ii j)] ∧ zj [] w28 wy ∧ s.uq.take j = t.uq.take j) (m := s.uq.length - 0) ⟨0, rfl, Nat.zero_le _, rfl, hcx, by simp⟩ ?_
  rintro k F wy ⟨j, rfl, hj, rfl, hcy, htk⟩
  have k2x := k2.chg0 hcy
  have k3x := k3.chg0 hcy
  refine ze (ze ?_)
  by_cases hlt : j < s.uq.length
  ·refine za (Om rfl (Od zaf rfl ?_))
   refine Ol zbM rfl (k2x.cell' (i := 2) rfl) ?_
   refine On zay rfl ?_
   refine Og (vt (zB rfl rfl) (by simp; omega)) rfl ?_
   refine E4 2 3 6 53 rfl (zd rfl (zm ?_))
   have hlm : j < t.uq.length := by omega
   have hx : s.uq[j]? = some s.uq[j] := by simp [hlt]
   have hy : t.uq[j]? = some t.uq[j] := by simp [hlm]
   generalize s.uq[j] = x at hx
   generalize t.uq[j] = y at hy
   have hhs : ∀ {wz : World}, zj [] wy wz → yL wz _ _ _ s ∧ yL wz _ _ _ t := fun hc => ⟨hs.chg0 ((hc28.trans hcy).trans hc), ht.chg0 ((hc28.trans hcy).trans hc)⟩
   obtain ⟨b, off, cap, vx, hve, hc0, hix⟩ := zce.cell (hhs (zj.refl [] wy)).1.uq hx
   obtain ⟨bc, oc, cc, vy, hve2, hc0', hiy⟩ := zce.cell (hhs (zj.refl [] wy)).2.uq hy
   cases hve; cases hve2
   refine ze (zq (ze ?_))
   by_cases hxy : x = y
   case neg =>
    refine zJ (fun wz => zj [] wy wz) mix (by kernel_rfl) (zj.drew [] wy) ?_
    refine Td zaf rfl ?_
    refine Tr (fun wz hz => zh zbM rfl ((k2x.chg0 hz).cell' (i := 2) rfl)) rfl ?_
    refine Tm rfl ?_
    refine Tp (fun _ => zf zay zeH rfl rfl _ rfl hlt) rfl ?_
    refine Tr (fun wz hz => zh zbk rfl (zdf hz hc0 (by simp))) rfl ?_
    refine Td zaf rfl ?_
    refine Tr (fun wz hz => zh zbM rfl ((k3x.chg0 hz).cell' (i := 2) rfl)) rfl ?_
    refine Tm rfl ?_
    refine Tp (fun _ => zf zay zeH rfl rfl _ rfl hlm) rfl ?_
    refine Tr (fun wz hz => zh zbk rfl (zdf hz hc0' (by simp))) rfl ?_
    refine Tc zqj rfl rfl rfl (zi1 _ _ _ _ _ (z9.chg0 hix (zj.drew [] _)) (z9.chg0 hiy (zj.drew [] _))) ?_
    rintro v66 w66 ⟨h66, c66⟩
    rw [decide_eq_false hxy] at h66
    subst h66
    refine ⟨.inl ((zj.drew [] _).trans c66), ?_⟩
    refine Tp (fun _ => zU rfl) rfl ?_
    refine D4 2 3 6 67 rfl (zd rfl (Sr (Oa rfl (E1 4 rfl (zi ?_)))))
    repeat first | refine tr ?_ | refine br ?_
    refine zC rfl rfl ?_
    refine ⟨?_, ((hc28.trans hcy).trans (zj.drew [] _)).trans c66⟩
    rw [decide_eq_false]
    rintro rfl
    rw [hx] at hy
    exact hxy (Option.some.inj hy)
   refine zJ (fun wz => zj [] wy wz) mix (by kernel_rfl) (zj.drew [] wy) ?_
   refine Td zaf rfl ?_
   refine Tr (fun wz hz => zh zbM rfl ((k2x.chg0 hz).cell' (i := 2) rfl)) rfl ?_
   refine Tm rfl ?_
   refine Tp (fun _ => zf zay zeH rfl rfl _ rfl hlt) rfl ?_
   refine Tr (fun wz hz => zh zbk rfl (zdf hz hc0 (by simp))) rfl ?_
   refine Td zaf rfl ?_
   refine Tr (fun wz hz => zh zbM rfl ((k3x.chg0 hz).cell' (i := 2) rfl)) rfl ?_
   refine Tm rfl ?_
   refine Tp (fun _ => zf zay zeH rfl rfl _ rfl hlm) rfl ?_
   refine Tr (fun wz hz => zh zbk rfl (zdf hz hc0' (by simp))) rfl ?_
   refine Tc zqj rfl rfl rfl (zi1 _ _ _ _ _ (z9.chg0 hix (zj.drew [] _)) (z9.chg0 hiy (zj.drew [] _))) ?_
   rintro v66 w66 ⟨h66, c66⟩
   rw [decide_eq_true hxy] at h66
   subst h66
   refine ⟨.inl ((zj.drew [] _).trans c66), ?_⟩
   refine Tp (fun _ => zU rfl) rfl ?_
   refine D4 2 3 6 67 rfl (zb rfl (yf (zk (za (Om rfl ?_)))))
   refine Og (zH rfl rfl (by omega)) rfl ?_
   refine Oa rfl (N3 2 3 6 rfl ?_)
   refine ⟨s.uq.length - (j + 1), by omega, j + 1, rfl, by omega, rfl, (hcy.trans (zj.drew [] _)).trans c66, ?_⟩
   rw [yh hx, yh hy, htk, hxy]
  refine za (Om rfl (Od zaf rfl ?_))
  refine Ol zbM rfl (k2x.cell' (i := 2) rfl) ?_
  refine On zay rfl ?_
  refine Og (vf (zB rfl rfl) (by simp; omega)) rfl ?_
  refine E4 2 3 6 53 rfl (zb rfl ?_)
  refine zL ?_
  repeat first | refine te ?_ | refine bo rfl ?_
  refine zt _ ?_
  rw [List.take_of_length_le (by omega), List.take_of_length_le (by omega)] at htk
  exact ⟨⟨_, _, rfl⟩, hcy, htk⟩
 rintro F wy ⟨⟨f6, f53, rfl⟩, hcy, huq⟩
 refine Sr (Oa rfl (E1 4 rfl (zi ?_)))
 refine zC rfl rfl ?_
 refine ⟨?_, hc28.trans hcy⟩
 rw [decide_eq_true]
 obtain ⟨a, b, c⟩ := s
 obtain ⟨a', b', c'⟩ := t
 simp only at hcols h3 huq
 rw [hcols, h3, huq]
section
variable {P : Program} {n : Nat} {F : Fr} {w : World} {dst : Option Nat} {ty : TypeId} {pos : String} {af : Array Edge} {gd : Option (Nat × Bool)}
theorem zrm {x y : Operand} {t u : TypeId} {i : Nat} (j : Nat) (hx : ev F x = some (.int .u64 i)) (hy : ev F y = some (.int .u64 j)) (hi : i < 18446744073709551616) (hj : 1 ≤ j) : Vl P n F ⟨dst, .binOp .quo t x y u, ty, pos, af, gd⟩ w (.int .u64 ((i / j : Nat) : Int)) w := by
 intro a ha
 have h0 : (j : Int) ≠ 0 := by omega
 have h1 : (i : Int).tdiv j = ((i / j : Nat) : Int) := by rw [Int.tdiv_eq_ediv_of_nonneg (by omega)]; simp
 have h3 : i / j ≤ i := Nat.div_le_self _ _
 have h4 : IntKind.u64.wrap ((i : Int).tdiv j) = ((i / j : Nat) : Int) := by
  rw [h1]
  generalize i / j = q at h3
  exact IntWalk.u64_in _ ⟨by omega, by omega⟩
 simp only [execOp, ha.eval hx, ha.eval hy, eqGuard, binOp, Op.intDiv, if_neg h0, h4]
 rfl
theorem zp1 {x y : Operand} {t u : TypeId} {i : Nat} (j : Nat) (hx : ev F x = some (.int .u64 i)) (hy : ev F y = some (.int .u64 j)) (hi : i < 18446744073709551616) (hj : 1 ≤ j) : Vl P n F ⟨dst, .binOp .rem t x y u, ty, pos, af, gd⟩ w (.int .u64 ((i % j : Nat) : Int)) w := by
 intro a ha
 have h0 : (j : Int) ≠ 0 := by omega
 have h1 : (i : Int).tmod j = ((i % j : Nat) : Int) := by rw [Int.tmod_eq_emod_of_nonneg (by omega)]; simp
 simp only [execOp, ha.eval hx, ha.eval hy, eqGuard, binOp, Op.intDiv, if_neg h0, h1]
 rfl
end
theorem zny {n : Nat} (hn : n < 18446744073709551616) (h0 : 0 < n) : yC n = yC (n / 256) + 1 := by
 have hd : n / 256 < 18446744073709551616 := Nat.lt_of_le_of_lt (Nat.div_le_self _ _) hn
 have key : ∀ k, yC n ≤ k + 1 ↔ yC (n / 256) ≤ k := fun k => by
  rw [zdg hn, zdg hd, Nat.pow_succ, Nat.div_lt_iff_lt_mul (by omega)]
 have h1 : 1 ≤ yC n := by
  rcases Nat.eq_zero_or_pos (yC n) with h | h
  ·have := (zdg hn (k := 0)).1 (by omega)
   simp at this; omega
  exact h
 have a := (key (yC (n / 256))).2 (Nat.le_refl _)
 have b := (key (yC n - 1)).1 (by omega)
 omega
theorem zm6 (n : Nat) : ∀ k, be n (k + 1) = be (n / 256) k ++ [UInt8.ofNat (n % 256)]
 | 0 => by simp [be]
 | k + 1 => by
  rw [be, zm6 n k, be, List.cons_append, Nat.div_div_eq_div_mul, Nat.pow_succ, Nat.mul_comm]
theorem zsD : ∀ (n : Nat) (w : World), n < 18446744073709551616 → z6 TP 181 #[.int .u64 n] w fun r w' => zv w' 5 1 r (be n (yC n)).length (bv (be n (yC n))) ∧ (∀ b ∈ zn r, w.heap.size ≤ b) ∧ zj [] w w' := by
 intro n
 induction n using Nat.strongRecOn with
 | ind n ih =>
 intro w hn
 refine A1 Tryz.func181 rfl rfl ?_
 refine Sr (Oa rfl (E1 0 rfl (ze (ze ?_))))
 by_cases h0 : n = 0
 ·subst h0
  refine za (Om rfl ?_)
  refine Og (vt (zw rfl rfl) (decide_eq_true (by omega))) rfl ?_
  refine E2 0 4 rfl (zd rfl (Sr (Oa rfl (E1 2 rfl (zi ?_)))))
  repeat first | refine tr ?_ | refine br ?_
  refine zC rfl rfl ?_
  exact ⟨zv.nil _ _ _, by simp [zn], zj.refl _ _⟩
 refine za (Om rfl ?_)
 refine Og (vf (zw rfl rfl) (by simp; omega)) rfl ?_
 refine E2 0 4 rfl (zb rfl (zm ?_))
 have hst := zny hn (by omega)
 have h8 := zbo n
 have hbl := za3 (n / 256) (yC (n / 256))
 refine Sr (Om rfl ?_)
 refine Og (zrm 256 rfl rfl hn (by omega)) rfl ?_
 refine Oc zrM rfl rfl rfl (ih (n / 256) (by omega) _ (by omega)) ?_
 rintro v7 w7 ⟨i7, f7, c7⟩
 refine Om rfl ?_
 refine Og (zp1 256 rfl rfl hn (by omega)) rfl ?_
 refine Og (yo zas zbj rfl (show IntKind.u8.wrap ((n % 256 : Nat) : Int) = (((UInt8.ofNat (n % 256)).toNat : Nat) : Int) by rw [zcO]; simp)) rfl ?_
 refine zD (gn rfl) (zy zaF rfl (vs := [_]) rfl (css := [_]) ⟨rfl, trivial⟩ rfl rfl (cs := [_]) rfl rfl ?_)
 intro b11 w11 e11 n11 c11 k11
 refine zD (gn rfl) (yq zaF yR rfl rfl (zv.chg0 i7 c11) (zv.of_blk (n := 1) (c := bv [UInt8.ofNat (n % 256)]) k11 rfl (by simp [maxLen]) (zbZ _)) (by simp only [maxLen]; omega) (by omega) rfl ?_)
 intro v12 w12 i12 c12 o12 z12
 refine Oa rfl (E1 2 rfl (zi ?_))
 refine zC rfl rfl ?_
 have hs7 := c7.size
 refine ⟨?_, yy o12 f7 (by have := c11.size; omega), ((c7.trans c11).own c12 f7)⟩
 have e : be n (yC n) = be (n / 256) (yC (n / 256)) ++ [UInt8.ofNat (n % 256)] := by rw [hst, zm6]
 rw [e, List.length_append, yG]
 exact i12
theorem zoE (n : Nat) (w : World) (hn : n < 18446744073709551616) : z6 TP 136 #[.int .u64 n] w fun r w' => zv w' 5 1 r (zb1 n).length (bv (zb1 n)) ∧ (∀ b ∈ zn r, w.heap.size ≤ b) ∧ zj [] w w' := by
 have h8 := zbo n
 have hbl := za3 n (yC n)
 refine A1 Tryz.func136 rfl rfl ?_
 refine Sr (Oa rfl (E1 0 rfl (Sr (Om rfl ?_))))
 refine Oc zrM rfl rfl rfl (zsD n _ hn) ?_
 rintro v5 w5 ⟨i5, f5, c5⟩
 obtain ⟨p5, q5, rfl, -⟩ := id (zv.val i5)
 refine Oa rfl (E1 3 rfl (Sr (Om rfl (On yR rfl ?_))))
 refine Og (yo zas zai rfl (show IntKind.u8.wrap (((be n (yC n)).length : Nat) : Int) = (((UInt8.ofNat (yC n)).toNat : Nat) : Int) by rw [hbl, zcO]; simp)) rfl ?_
 refine zD (gn rfl) (zy zaF rfl (vs := [_]) rfl (css := [_]) ⟨rfl, trivial⟩ rfl rfl (cs := [_]) rfl rfl ?_)
 intro b9 w9 e9 n9 c9 k9
 refine Om rfl ?_
 refine zD (gn rfl) (yq zaF yR rfl rfl (zv.of_blk (n := 1) (c := bv [UInt8.ofNat (yC n)]) k9 rfl (by simp [maxLen]) (zbZ _)) (zv.chg0 i5 c9) (by simp only [maxLen]; omega) (by omega) rfl ?_)
 intro v11 w11 i11 c11 o11 z11
 refine Oa rfl (E1 2 rfl (zi ?_))
 refine zC rfl rfl ?_
 have hs5 := c5.size
 have f9 : ∀ x ∈ zn (.slice (some ⟨b9, 0, none⟩) 1 1), w.heap.size ≤ x := by intro x hx; simp [zn] at hx; omega
 refine ⟨?_, yy o11 f9 (by have := c9.size; omega), (c5.trans c9).own c11 f9⟩
 have e : zb1 n = [UInt8.ofNat (yC n)] ++ be n (yC n) := rfl
 rw [e, List.length_append, yG]
 exact i11
section
variable {P : Program} {w : World} {t t2 ty e : TypeId} {k by' : Nat} {z : Value}
theorem zk5 (A : App P t e k by' z) (hit : zcR P t2 .i64 = true) {v : Value} {n m : Nat} {xs : List Value} (hv : zv w e k v n xs) (h63 : n + m ≤ maxLen) (hbytes : (n + m) * by' ≤ 140737488355328) :
 ∃ v' w', (Builtin.append_ #[t, t2] ty #[v, Ii (m : Int)]).run P w = .ok v' w' ∧ zv w' e k v' (n + m) (xs ++ (Builtin.zeroCells z.cells m).toList) ∧ zj (zn v) w w' ∧ (zn v' = zn v ∨ ∃ b, zn v' = [b] ∧ w.heap.size ≤ b) := by
 obtain ⟨i, hi, hk, hb, hz⟩ := A.info
 have hund := yD A.sl
 have hund2 : P.underlying t2 = some (.int .i64) := by unfold zcR at hit; split at hit <;> simp_all
 have hlx := hv.len_xs
 have hm63 : n + m ≤ 9223372036854775807 := by simp only [maxLen] at h63; omega
 have hwr : IntKind.i64.wrap (m : Int) = m := IntWalk.i64_in _ ⟨by omega, by omega⟩
 have hneg : ¬ ((m : Int) < 0) := by omega
 have hbm : m * by' ≤ 140737488355328 := Nat.le_trans (Nat.mul_le_mul_right _ (by omega)) hbytes
 have hbig : ¬ (281474976710656 < (m : Int) * (i.bytes : Int)) := by
  rw [hb]
  have : ((m * by' : Nat) : Int) ≤ 140737488355328 := Int.ofNat_le.2 hbm
  rw [Int.natCast_mul] at this
  omega
 generalize hys : (Builtin.zeroCells z.cells m).toList = ys
 have hysa : Builtin.zeroCells z.cells m = ys.toArray := by rw [← hys]
 have hly : ys.length = m * k := by rw [← hys, Array.length_toList, size_zeroCells, A.zs]
 have hone : ∀ u ∈ ys, u.oneCell' = true := by rw [← hys]; exact zaU z _ A.zo
 have hzero : ∀ w1 : World, (zeroValue e).run P w1 = .ok z w1 := fun w1 => zbl A.zr
 have hpos : 0 < k := A.pos
 have grown : ∀ old, n + m > old → ∀ S, zv (w.drew.alloc (.cells (xs.toArray ++ ys.toArray ++ Builtin.zeroCells z.cells (grownCap w (n + m) old e - (n + m))) e)) e k
  (.slice (some ⟨w.heap.size, 0, none⟩) (n + m) (grownCap w (n + m) old e)) (n + m) (xs ++ ys) ∧
  zj S w (w.drew.alloc (.cells (xs.toArray ++ ys.toArray ++ Builtin.zeroCells z.cells (grownCap w (n + m) old e - (n + m))) e)) := by
  intro old _ S
  have hge := grownCap_ge w (n + m) old e
  have hcm := grownCap_le_maxLen w (n + m) old e h63
  refine ⟨.inr ⟨w.heap.size, 0, _, xs ++ ys ++ (Builtin.zeroCells z.cells (grownCap w (n + m) old e - (n + m))).toList, rfl, ?_, hge, hcm, ?_, ?_, ?_⟩, (zj.drew S w).transS (zj.alloc S _ _)⟩
  ·show (w.drew.heap.push _)[w.heap.size]? = _
   rw [show w.heap.size = w.drew.heap.size from rfl, Array.getElem?_push_size]
   simp
  ·simp only [List.length_append, hlx, hly, Array.length_toList, size_zeroCells, A.zs, ← Nat.add_mul, Nat.zero_add]
   rw [Nat.add_sub_cancel' hge]
   exact Nat.le_refl _
  ·rw [List.drop_zero, List.take_left' (by simp [hlx, hly, Nat.add_mul])]
  intro u hu
  simp only [List.mem_append] at hu
  rcases hu with (hu | hu) | hu
  ·exact hv.one_xs u hu
  ·exact hone u hu
  exact zaU z _ A.zo u hu
 rcases hv with ⟨rfl, rfl, rfl⟩ | ⟨g, off, cap, c, rfl, hv⟩
 ·by_cases hm : m = 0
  ·subst hm
   have hy : ys = [] := List.eq_nil_of_length_eq_zero (by simpa using hly)
   subst hy
   refine ⟨.slice none 0 0, w, ?_, zv.nil _ _ _, zj.refl _ _, .inl rfl⟩
   simp [Builtin.append_, run_underlying hund, run_underlying hund2, zW A.sz, asInt, asIntOf, typeInfo, hi, show IntKind.i64.wrap 0 = 0 from rfl]
  have h0 : ¬ (0 + m ≤ 0) := by omega
  have h63' : ¬ (9223372036854775807 < (m : Int)) := by omega
  have hm0 : ¬ (m * k = 0) := by
   have : 1 * 1 ≤ m * k := Nat.mul_le_mul (by omega) hpos
   omega
  have h48' : ¬ (281474976710656 < Builtin.nextslicecap m 0 * i.bytes) := by
   have := growslice_fits (need := m) (old := 0) (bytes := by') (by omega) (by simpa using hbytes)
   rw [hb]; omega
  have hgr := grown 0 (by omega) []
  refine ⟨_, _, ?_, hgr.1, hgr.2, .inr ⟨w.heap.size, rfl, Nat.le_refl _⟩⟩
  simp [Builtin.append_, run_underlying hund, run_underlying hund2, zW A.sz, asInt, asIntOf, hwr, hneg, hbig, typeInfo, hi, hm, hm0, hpos, Nat.pos_iff_ne_zero.1 hpos, h63', h48', Question.forced, run_firstCells_none, hzero, newRow, grownCap, hysa]
 by_cases hroom : n + m ≤ cap
 ·have hfit := hv.fit
  have hcap : (n + m) * k ≤ cap * k := Nat.mul_le_mul_right _ hroom
  have hfit2 : off + n * k + ys.length ≤ c.length := by rw [hly]; rw [Nat.add_mul] at hcap; omega
  have hst := zby (P := P) (off := off + n * k) (vs := ys) hv.blk hfit2 hone
  refine ⟨.slice (some ⟨g, off, none⟩) (n + m) cap, w.setRow g (yS c (off + n * k) ys).toArray, ?_, .inr ⟨g, off, cap, yS c (off + n * k) ys, rfl, hv.blk.row _, hroom, hv.max, ?_, ?_, ?_⟩, (zj.row _ _ _), .inl rfl⟩
  ·by_cases hm : m * k = 0
   ·have hy : ys = [] := List.eq_nil_of_length_eq_zero (by omega)
    subst hy
    simp [Builtin.append_, run_underlying hund, run_underlying hund2, zW A.sz, asInt, asIntOf, hwr, hneg, hbig, typeInfo, hi, hroom, hm, Addr.add_lit, hst]
   simp [Builtin.append_, run_underlying hund, run_underlying hund2, zW A.sz, asInt, asIntOf, hwr, hneg, hbig, typeInfo, hi, hroom, hm, Addr.add_lit, hst, hzero, hysa]
  ·simp only [yS, List.length_append, List.length_take, List.length_drop]
   omega
  ·have e1 : (yS c (off + n * k) ys).drop off = xs ++ ys ++ c.drop (off + n * k + ys.length) := by
    unfold yS
    rw [List.append_assoc, List.drop_append_of_le_length (by rw [List.length_take]; omega), List.drop_take, ← List.append_assoc]
    rw [show off + n * k - off = n * k by omega, ← hv.xs]
   rw [e1, List.take_left' (by simp [hlx, hly, Nat.add_mul])]
  intro u hu
  simp only [yS, List.mem_append] at hu
  rcases hu with (hu | hu) | hu
  ·exact hv.one u (List.mem_of_mem_take hu)
  ·exact hone u hu
  exact hv.one u (List.mem_of_mem_drop hu)
 have h0 : ¬ (n + m ≤ cap) := hroom
 have h63' : ¬ (9223372036854775807 < ((n : Int) + (m : Int))) := by omega
 have hm : m ≠ 0 := by
  have := hv.le
  omega
 have hm0 : ¬ (m * k = 0) := by
  have : 1 * 1 ≤ m * k := Nat.mul_le_mul (by omega) hpos
  omega
 have h48' : ¬ (281474976710656 < Builtin.nextslicecap (n + m) cap * i.bytes) := by
  have := growslice_fits (need := n + m) (old := cap) (bytes := by') (by omega) hbytes
  rw [hb]; omega
 have hgr := grown cap (by omega) (zn (.slice (some ⟨g, off, none⟩) n cap))
 refine ⟨_, _, ?_, hgr.1, hgr.2, .inr ⟨w.heap.size, rfl, Nat.le_refl _⟩⟩
 have hfo : (Builtin.firstCells k n (.slice (some ⟨g, off, none⟩) n cap)).run P w.drew = .ok xs.toArray w.drew :=
  zcB (w := w.drew) (e := e) (.inr ⟨g, off, cap, c, rfl, ⟨hv.blk, hv.le, hv.max, hv.fit, hv.xs, hv.one⟩⟩)
 simp [Builtin.append_, run_underlying hund, run_underlying hund2, zW A.sz, asInt, asIntOf, hwr, hneg, hbig, typeInfo, hi, h0, hm, hm0, Nat.pos_iff_ne_zero.1 hpos, h63', h48', Question.forced, hfo, hzero, newRow, grownCap, hysa]
 rw [show (xs ++ ys).toArray = xs.toArray ++ ys.toArray from by simp, Array.append_assoc]
variable {n : Nat} {F : Fr} {d : Tmp} {pos : String} {af : Array Edge} {gd : Option (Nat × Bool)} {K : Fr → World → Prop}
theorem zlN (A : App P t e k by' z) (hit : zcR P t2 .i64 = true) {x y : Operand} {v : Value} {l m : Nat} {j : Int} {xs : List Value} (hx : ev F x = some v) (hy : ev F y = some (Ii j)) (hj : j = (m : Int)) (hv : zv w e k v l xs)
 (h63 : l + m ≤ maxLen) (hbytes : (l + m) * by' ≤ 140737488355328) (hn : Nat.blt d n = true)
 (h : ∀ v' w', zv w' e k v' (l + m) (xs ++ (Builtin.zeroCells z.cells m).toList) → zj (zn v) w w' → (zn v' = zn v ∨ ∃ b, zn v' = [b] ∧ w.heap.size ≤ b) → K ((d, v') :: F) w') :
 St P n F ⟨some d, .call { callee := .builtin .append, args := #[x, y], argTypes := #[t, t2] }, ty, pos, af, gd⟩ w K := by
 subst hj
 obtain ⟨v', w', hr, h1, h2, h3⟩ := zk5 (ty := ty) (m := m) A hit hv h63 hbytes
 refine St.vl (v := v') (w' := w') ?_ rfl hn (h v' w' h1 h2 h3)
 intro a ha
 simp [execOp, resolve, invoke, builtin, ha.eval hx, ha.eval hy, hr]
end
theorem ztl (m : Nat) : (Builtin.zeroCells (Value.int .u8 0).cells m).toList = bv (List.replicate m 0) := by
 have hc : (Value.int .u8 0).cells = #[.int .u8 0] := rfl
 rw [hc]
 simp [Builtin.zeroCells, bv, Nat.mod_one, List.map_const']
theorem zus (x : zO) (w : World) (hx : za6 x = 0) (hg : x.Rng) : z6 TP 96 #[x.v] w fun r w' => zv w' 5 1 r (zdB x).length (bv (zdB x)) ∧ (∀ b ∈ zn r, w.heap.size ≤ b) ∧ zj [] w w' := by
 obtain ⟨hk, -, hk3⟩ := zbC (zdl hx).1
 have hb200 := (zdl hx).2
 have hi := hg.i
 refine A1 Tryz.func96 rfl rfl ?_
 refine Sr ?_
 refine Ob rfl rfl ?_
 intro b1 w1 e1 n1 c1 k1
 refine Oa rfl (E1 1 rfl (Sr (Od zaq rfl ?_)))
 refine Ol zcn rfl (k1.cell' rfl) ?_
 refine Og (yo zas zai rfl (show IntKind.u8.wrap x.k = (((UInt8.ofNat x.k.toNat).toNat : Nat) : Int) by rw [show x.k = ((x.k.toNat : Nat) : Int) by omega, zcO]; simp)) rfl ?_
 refine zD (gn rfl) (zy zaF rfl (vs := [_]) rfl (css := [_]) ⟨rfl, trivial⟩ rfl rfl (cs := [_]) rfl rfl ?_)
 intro b11 w11 e11 n11 c11 k11
 refine Oa rfl (E2 1 3 rfl ?_)
 have i11 : zv w11 5 1 (.slice (some ⟨b11, 0, none⟩) 1 1) 1 (bv [UInt8.ofNat x.k.toNat]) := zv.of_blk (n := 1) k11 rfl (by simp [maxLen]) (zbZ _)
 have k1 : zS w11 b1 40 x.cs := k1.chg0 c11
 have hc11 := c1.trans c11
 have f11 : ∀ x ∈ zn (.slice (some ⟨b11, 0, none⟩) 1 1), w.heap.size ≤ x := by intro x hx; simp [zn] at hx; have := c1.size; omega
 have hb1 : b1 ∉ zn (.slice (some ⟨b11, 0, none⟩) 1 1) := fun hm => zv.apart i11 k1 rfl b1 hm (by simp)
 have hbw : w.heap.size ≤ b1 := by omega
 have hke : zdB x = [UInt8.ofNat x.k.toNat] ++ zfv x := rfl
 rw [hke]
 generalize hA : UInt8.ofNat x.k.toNat = a at *
 refine ze (Sr (Od zaq rfl ?_))
 refine Ol zcn rfl (k1.cell' rfl) ?_
 refine E3 1 3 13 rfl (zq (ze ?_))
 by_cases h1 : x.k = 1
 ·have hT : zfv x = be (x.i + 9223372036854775808).toNat 8 := by simp [zfv, h1]
  rw [hT]
  have hn : (x.i + 9223372036854775808).toNat < 18446744073709551616 := by omega
  refine za ?_
  refine Og (vt (zw rfl rfl) (by simp [h1])) rfl ?_
  refine Oa rfl (E4 1 3 13 14 rfl (zd rfl (Sr (Od yW rfl ?_))))
  refine Ol ag2 rfl (k1.cell' (i := 1) rfl) ?_
  refine Og (yo zbj zdD rfl (show IntKind.u64.wrap x.i = (((x.i % 18446744073709551616).toNat : Nat) : Int) by rw [zb7]; omega)) rfl ?_
  refine Og (zkP (b := 9223372036854775808) rfl rfl (by omega) (by decide)) rfl ?_
  refine Oa rfl (E2 3 4 rfl ?_)
  rw [zkZ hi]
  generalize (x.i + 9223372036854775808).toNat = N at *
  refine Sr (Oa rfl (E3 3 4 5 rfl (zq ?_)))
  refine zZ [3, 4, 5] (fun m F wx => m ≤ 8 ∧ ∃ u : Value, F = [(3, u), (4, .int .u64 N), (5, Ii ((m : Int) - 1))] ∧ ∃ ys, zv wx 5 1 u (1 + (8 - m)) (bv ([a] ++ ys)) ∧ ys ++ be N m = be N 8 ∧ (∀ b ∈ zn u, w.heap.size ≤ b) ∧ zj [] w wx) (m := 8) ⟨Nat.le_refl _, _, rfl, [], by simpa using i11, rfl, f11, hc11⟩ ?_
  rintro m F wx ⟨hm, u, rfl, ys, hu, hys, hfu, hc⟩
  refine ze (Sr (Om rfl ?_))
  refine Og (yn rfl rfl) rfl ?_
  refine E4 3 4 5 21 rfl ?_
  refine zR rfl (fun hT => ?_) (fun hF => ?_)
  ·refine zm ?_
   have hm1 : 1 ≤ m := by have := of_decide_eq_true hT; omega
   obtain ⟨i, rfl⟩ := Nat.exists_eq_add_of_le hm1
   rw [show (((1 + i : Nat) : Int) - 1) = (i : Int) by omega]
   have p8 : (N : Int).fdiv (2 ^ (8 * i)) = ((N / 256 ^ i : Nat) : Int) := by rw [ziD, Nat.pow_mul]
   refine ze (zq (za (Om rfl (Om rfl (Om rfl ?_)))))
   refine Og (zcI rfl rfl (by omega)) rfl ?_
   refine Og (yo zcA zai rfl (show IntKind.u64.wrap (8 * (i : Int)) = ((8 * i : Nat) : Int) from IntWalk.u64_in _ ⟨by omega, by omega⟩)) rfl ?_
   refine Og (zbD (8 * i) rfl rfl (by omega) (show 8 * i ≤ 64 by omega) p8) rfl ?_
   refine Og (yo zas zbj rfl (show IntKind.u8.wrap ((N / 256 ^ i : Nat) : Int) = (((UInt8.ofNat (N / 256 ^ i % 256)).toNat : Nat) : Int) by rw [zcO]; simp)) rfl ?_
   refine zD (gn rfl) (zy zaF rfl (vs := [_]) rfl (css := [_]) ⟨rfl, trivial⟩ rfl rfl (cs := [_]) rfl rfl ?_)
   intro b31 w31 e31 n31 c31 k31
   refine zD (gn rfl) (yq zaF yR rfl rfl (zv.chg0 hu c31) (zv.of_blk (n := 1) k31 rfl (by simp [maxLen]) (by simp [Value.oneCell'])) (by simp only [maxLen]; omega) (by omega) rfl ?_)
   intro v32 w32 i32 c32 o32 z32
   refine Oa rfl (N3 3 4 5 rfl (zk (za (Om rfl ?_))))
   refine Og (yH rfl rfl (by omega)) rfl ?_
   refine Oa rfl (N3 3 4 5 rfl ?_)
   refine ⟨i, by omega, by omega, v32, rfl, ys ++ [UInt8.ofNat (N / 256 ^ i % 256)], ?_, ?_, yy o32 hfu (by have := hc.size; have := c31.size; omega), (hc.trans c31).own c32 hfu⟩
   ·rw [← List.append_assoc, yG]
    have e : 1 + (8 - i) = 1 + (8 - (1 + i)) + 1 := by omega
    rw [e]
    exact i32
   rw [Nat.add_comm 1 i] at hys
   rw [← hys]
   simp [be]
  have hm0 : m = 0 := by have := of_decide_eq_false hF; omega
  subst hm0
  refine zL ?_
  repeat first | refine te ?_ | refine bo rfl ?_
  refine zt _ ?_
  refine zk (Sr (Om rfl (Oa rfl (E1 2 rfl (zi ?_)))))
  refine zC rfl rfl ?_
  have : ys = be N 8 := by simpa [be] using hys
  subst this
  refine ⟨?_, hfu, hc⟩
  rw [List.length_append, za3]
  exact hu
 refine za ?_
 refine Og (vf (zw rfl rfl) (by simp [h1])) rfl ?_
 refine Oa rfl (E4 1 3 13 14 rfl (zb rfl (ze ?_)))
 by_cases h2 : x.k = 2
 ·have hT : zfv x = zb1 x.u := by simp [zfv, h2]
  rw [hT]
  refine za ?_
  refine Og (vt (zw rfl rfl) (by simp [h2])) rfl ?_
  refine Oa rfl (E4 1 3 13 33 rfl (zd rfl ?_))
  have hnb := zbo x.u
  have hnl := zcY x.u
  refine za (Om rfl (Od zaR rfl ?_))
  refine Ol zcW rfl (k1.cell' (i := 2) rfl) ?_
  refine Oc zv8 rfl rfl rfl (zoE x.u _ hg.u) ?_
  rintro v38 w38 ⟨i38, f38, c38⟩
  refine zD (gn rfl) (yq zaF yR rfl rfl (zv.chg0 i11 c38) i38 (by simp only [maxLen]; omega) (by omega) rfl ?_)
  intro v39 w39 i39 c39 o39 z39
  refine Oa rfl ?_
  refine zaZ [3] (F' := [(3, _)]) rfl ?_
  refine zk (Sr (Om rfl (Oa rfl (E1 2 rfl (zi ?_)))))
  refine zC rfl rfl ?_
  refine ⟨?_, yy o39 f11 (by have := hc11.size; have := c38.size; omega), (hc11.trans c38).own c39 f11⟩
  rw [List.length_append, yG]
  exact i39
 refine za ?_
 refine Og (vf (zw rfl rfl) (by simp [h2])) rfl ?_
 refine Oa rfl (E4 1 3 13 33 rfl (zb rfl (ze ?_)))
 by_cases h3 : x.k = 3
 ·have hT : zfv x = [UInt8.ofNat x.i.toNat] := by simp [zfv, h3]
  rw [hT]
  refine za ?_
  refine Og (vt (zw rfl rfl) (by simp [h3])) rfl ?_
  refine Oa rfl (E4 1 3 13 40 rfl (zd rfl (za (Om rfl (Od yW rfl ?_)))))
  refine Ol ag2 rfl (k1.cell' (i := 1) rfl) ?_
  refine Og (yo zas zdD rfl (show IntKind.u8.wrap x.i = (((UInt8.ofNat x.i.toNat).toNat : Nat) : Int) by rcases hk3 h3 with h | h <;> rw [h] <;> rfl)) rfl ?_
  refine zD (gn rfl) (zy zaF rfl (vs := [_]) rfl (css := [_]) ⟨rfl, trivial⟩ rfl rfl (cs := [_]) rfl rfl ?_)
  intro b46 w46 e46 n46 c46 k46
  refine zD (gn rfl) (yq zaF yR rfl rfl (zv.chg0 i11 c46) (zv.of_blk (n := 1) (c := bv [UInt8.ofNat x.i.toNat]) k46 rfl (by simp [maxLen]) (zbZ _)) (by simp only [maxLen]; omega) (by omega) rfl ?_)
  intro v47 w47 i47 c47 o47 z47
  refine Oa rfl ?_
  refine zaZ [3] (F' := [(3, _)]) rfl ?_
  refine zk (Sr (Om rfl (Oa rfl (E1 2 rfl (zi ?_)))))
  refine zC rfl rfl ?_
  refine ⟨?_, yy o47 f11 (by have := hc11.size; have := c46.size; omega), (hc11.trans c46).own c47 f11⟩
  rw [List.length_append, yG]
  exact i47
 refine za ?_
 refine Og (vf (zw rfl rfl) (by simp [h3])) rfl ?_
 refine Oa rfl (E4 1 3 13 40 rfl (zb rfl (ze ?_)))
 by_cases h4 : x.k = 4
 ·have hT : zfv x = zc5 x.b.data.toList := by simp [zfv, h4]
  rw [hT]
  refine za ?_
  refine Og (vt (zw rfl rfl) (by simp [h4])) rfl ?_
  refine Oa rfl (E3 1 3 48 rfl (zd rfl (Sr (Oa rfl (E3 1 3 6 rfl (zq ?_))))))
  have hsl : x.b.data.toList.length = x.b.size := by simp
  generalize hl : x.b.data.toList = l at *
  refine zZ [1, 3, 6] (fun m F wx => ∃ j : Nat, m = 201 - j ∧ 8 * j ≤ x.b.size ∧ (0 < j → 8 * j < x.b.size) ∧ ∃ u : Value, F = [(1, Pt b1), (3, u), (6, Ii ((8 * j : Nat) : Int))] ∧ ∃ ys, zv wx 5 1 u ys.length (bv ys) ∧ ys ++ zc5 (l.drop (8 * j)) = [a] ++ zc5 l ∧ ys.length = 1 + 9 * j ∧ (∀ b ∈ zn u, w.heap.size ≤ b) ∧ b1 ∉ zn u ∧ zS wx b1 40 x.cs ∧ zj [] w wx) (m := 201) ⟨0, rfl, by omega, by omega, _, rfl, [a], i11, by simp, rfl, f11, hb1, k1, hc11⟩ ?_
  rintro m F wx ⟨j, rfl, hj, hj0, u, rfl, ys, hu, hys, hyl, hfu, hb1u, k1x, hc⟩
  refine ze (zq (ze ?_))
  have hbl : l.length = x.b.size := hsl
  generalize hr : l.drop (8 * j) = r at *
  have hrl : r.length = x.b.size - 8 * j := by rw [← hr, List.length_drop, hbl]
  generalize hc8 : r.take 8 = c at *
  have hcl : c.length = min 8 (x.b.size - 8 * j) := by rw [← hc8, List.length_take, hrl]
  have hcut : (x.b.extract (8 * j) (8 * j + c.length)).data.toList = c := by
   have e1 : (x.b.data.extract (8 * j) (8 * j + c.length)).toList = (l.drop (8 * j)).take c.length := by rw [← hl]; simp [List.extract_eq_take_drop]
   rw [ByteArray.data_extract, e1, hr, hcl, ← hrl, ← hc8, List.take_eq_take_iff]
   simp
  have hcs : (x.b.extract (8 * j) (8 * j + c.length)).size = c.length := by
   have e : (x.b.extract (8 * j) (8 * j + c.length)).data.toList.length = c.length := congrArg List.length hcut
   have h : ∀ b : ByteArray, b.size = b.data.toList.length := fun b => by simp
   exact (h _).trans e
  refine za (Od zaJ rfl ?_)
  refine Ol ag9 rfl (k1x.cell' (i := 3) rfl) ?_
  refine Og (yP st9 rfl) rfl ?_
  refine Om rfl ?_
  refine Og (yH rfl rfl (by omega)) rfl ?_
  refine Og (zlY rfl rfl) rfl ?_
  refine Oa rfl (E4 1 3 6 7 rfl ?_)
  rw [show (if (x.b.size : Int) - ((8 * j : Nat) : Int) < 8 then (x.b.size : Int) - ((8 * j : Nat) : Int) else 8) = ((c.length : Nat) : Int) by split <;> omega]
  refine Sr (Om rfl (Od zaJ rfl ?_))
  refine Ol ag9 rfl (k1x.cell' (i := 3) rfl) ?_
  refine Om rfl (Om rfl (Om rfl ?_))
  refine Og (yA (v' := Ii ((8 * j + c.length : Nat) : Int)) (zH rfl rfl (by omega)) (by congr 1)) rfl ?_
  refine Og (zrc st9 rfl rfl rfl _ _ rfl rfl (by omega) (by omega)) rfl ?_
  refine zD (gn rfl) (zh0 zaF st9 rfl rfl hu (by rw [hcs]; simp only [maxLen]; omega) (by rw [hcs]; omega) rfl ?_)
  intro v66 w66 i66 c66 o66 z66
  refine Om rfl ?_
  refine Og (yA (v' := Ii ((8 - c.length : Nat) : Int)) (yH rfl rfl (by omega)) (by congr 1 <;> omega)) rfl ?_
  refine zD (gn rfl) (zlN zaF zai rfl rfl rfl i66 (by rw [hcs]; simp only [maxLen]; omega) (by rw [hcs]; omega) rfl ?_)
  intro v69 w69 i69 c69 o69
  refine Oa rfl (E4 1 3 6 7 rfl ?_)
  rw [ztl, hcs, hcut, ← yG, ← yG, List.append_assoc] at i69
  have hb166 : b1 ∉ zn v66 := by
   rcases o66 with h | ⟨b', h, hb'⟩ <;> rw [h]
   ·exact hb1u
   have := k1x.lt; simp; omega
  have k66 := k1x.chg c66 hb1u
  have k69 := k66.chg c69 hb166
  have hb169 : b1 ∉ zn v69 := by
   rcases o69 with h | ⟨b', h, hb'⟩ <;> rw [h]
   ·exact hb166
   have := k66.lt; simp; omega
  have hs := hc.size
  have hs66 := c66.size
  have hs69 := c69.size
  have f66 := yy o66 hfu (by omega)
  have f69 := yy o69 f66 (by omega)
  have hc69 := (hc.own c66 hfu).own c69 f66
  have e69 : ys.length + c.length + (8 - c.length) = ys.length + 8 := by omega
  rw [e69] at i69
  refine ze (ze ?_)
  by_cases hlt : 8 * j + c.length < x.b.size
  ·have hc8' : c.length = 8 := by omega
   refine za (Om rfl (Om rfl ?_))
   refine Og (yA (v' := Ii ((8 * j + c.length : Nat) : Int)) (zH rfl rfl (by omega)) (by congr 1)) rfl ?_
   refine Od zaJ rfl ?_
   refine Ol ag9 rfl (k69.cell' (i := 3) rfl) ?_
   refine Og (yP st9 rfl) rfl ?_
   refine Og (vt (zB rfl rfl) (by simp; omega)) rfl ?_
   refine E5 1 3 6 7 76 rfl (zd rfl (Sr (Om rfl ?_)))
   refine zD (gn rfl) (zy zaF rfl (vs := [_]) rfl (css := [_]) ⟨rfl, trivial⟩ rfl rfl (cs := [_]) rfl rfl ?_)
   intro b78 w78 e78 n78 c78 k78
   refine zD (gn rfl) (yq zaF yR rfl rfl (zv.chg0 i69 c78) (zv.of_blk (n := 1) (c := bv [9]) k78 rfl (by simp [maxLen]) (zbZ _)) (by simp only [maxLen]; omega) (by omega) rfl ?_)
   intro v79 w79 i79 c79 o79 z79
   refine Oa rfl (E3 1 3 6 rfl ?_)
   refine zL ?_
   repeat first | refine te ?_ | refine bo rfl ?_
   refine zt _ ?_
   refine za (Om rfl ?_)
   refine Og (yA (v' := Ii ((8 * (j + 1) : Nat) : Int)) (zH rfl rfl (by omega)) (by congr 1)) rfl ?_
   refine Oa rfl (N3 1 3 6 rfl ?_)
   have hg := zee (l := r) (by omega)
   have hb78 : b1 ∉ zn v79 := by
    rcases o79 with h | ⟨b', h, hb'⟩ <;> rw [h]
    ·exact hb169
    have := k69.lt; have := c78.size; simp; omega
   refine ⟨201 - (j + 1), by omega, j + 1, rfl, by omega, by omega, v79, rfl, ys ++ (c ++ List.replicate (8 - c.length) 0) ++ [9], ?_, ?_, ?_, yy o79 f69 (by have := c78.size; omega), hb78, (k69.chg0 c78).chg c79 hb169, (hc69.trans c78).own c79 f69⟩
   ·have e : (ys ++ (c ++ List.replicate (8 - c.length) 0) ++ [9]).length = ys.length + 8 + 1 := by simp; omega
    rw [e, yG]
    exact i79
   ·rw [← hys, hg, hc8, hc8', show 8 * (j + 1) = 8 * j + 8 by omega, ← List.drop_drop, hr]
    simp
   simp; omega
  refine za (Om rfl (Om rfl ?_))
  refine Og (yA (v' := Ii ((8 * j + c.length : Nat) : Int)) (zH rfl rfl (by omega)) (by congr 1)) rfl ?_
  refine Od zaJ rfl ?_
  refine Ol ag9 rfl (k69.cell' (i := 3) rfl) ?_
  refine Og (yP st9 rfl) rfl ?_
  refine Og (vf (zB rfl rfl) (by simp; omega)) rfl ?_
  refine E5 1 3 6 7 76 rfl (zb rfl (zm (Sr (Om rfl (Om rfl ?_)))))
  refine Og (yo zas zai rfl (show IntKind.u8.wrap ((c.length : Nat) : Int) = (((UInt8.ofNat c.length).toNat : Nat) : Int) by rw [zcO]; simp)) rfl ?_
  refine zD (gn rfl) (zy zaF rfl (vs := [_]) rfl (css := [_]) ⟨rfl, trivial⟩ rfl rfl (cs := [_]) rfl rfl ?_)
  intro b83 w83 e83 n83 c83 k83
  refine zD (gn rfl) (yq zaF yR rfl rfl (zv.chg0 i69 c83) (zv.of_blk (n := 1) (c := bv [UInt8.ofNat c.length]) k83 rfl (by simp [maxLen]) (zbZ _)) (by simp only [maxLen]; omega) (by omega) rfl ?_)
  intro v84 w84 i84 c84 o84 z84
  refine Oa rfl (E1 2 rfl (zi ?_))
  repeat first | refine tr ?_ | refine br ?_
  refine zC rfl rfl ?_
  refine ⟨?_, yy o84 f69 (by have := c83.size; omega), (hc69.trans c83).own c84 f69⟩
  have hrc : r = c := by rw [← hc8, List.take_of_length_le (by omega)]
  have e : [a] ++ zc5 l = ys ++ (c ++ List.replicate (8 - c.length) 0) ++ [UInt8.ofNat c.length] := by
   rw [← hys, zdd (by omega), hrc, zjA]; simp
  rw [e]
  have e2 : (ys ++ (c ++ List.replicate (8 - c.length) 0) ++ [UInt8.ofNat c.length]).length = ys.length + 8 + 1 := by simp; omega
  rw [e2, yG]
  exact i84
 have hT : zfv x = [] := by simp [zfv, h1, h2, h3, h4]
 rw [hT, List.append_nil]
 refine za ?_
 refine Og (vf (zw rfl rfl) (by simp [h4])) rfl ?_
 refine Oa rfl (E3 1 3 48 rfl (zb rfl (yf (zk (Sr (Om rfl (Oa rfl (E1 2 rfl (zi ?_)))))))))
 refine zC rfl rfl ?_
 exact ⟨i11, f11, hc11⟩
theorem znA (l : List zO) (x : zO) : zbX l ++ (⟨(zdB x).toArray⟩ : ByteArray) = zbX (l ++ [x]) := by
 apply zoB
 simp [zbX, zc6]
theorem zub (v : Value) (l : List zO) (w : World) (hl : zI w v l) (hc : ∀ x ∈ l, za6 x = 0 ∧ x.Rng) (hn : l.length ≤ 1048576) : z6 TP 64 #[v] w fun r w' => r = .string (zbX l) ∧ zj [] w w' := by
 obtain ⟨pv, cv, rfl, hcv⟩ := z9.val hl
 refine A1 Tryz.func64 rfl rfl ?_
 refine Sr (Oa rfl (E1 0 rfl (Sr (Oa rfl (E2 0 3 rfl (ze (Sr (Oa rfl (E3 0 3 4 rfl (zq ?_))))))))))
 refine zZ [0, 3, 4] (fun m F wx => ∃ j : Nat, m = l.length - j ∧ j ≤ l.length ∧ F = [(0, .slice pv l.length cv), (3, .string (zbX (l.take j))), (4, Ii j)] ∧ zj [] w wx) (m := l.length - 0) ⟨0, rfl, Nat.zero_le _, rfl, zj.refl _ _⟩ ?_
 rintro m F wx ⟨j, rfl, hj, rfl, hcx⟩
 refine ze (ze ?_)
 by_cases hlt : j < l.length
 ·refine za (Om rfl (Om rfl (On zak rfl ?_)))
  refine Og (vt (zB rfl rfl) (by simp; omega)) rfl ?_
  refine E4 0 3 4 8 rfl (zd rfl (zm ?_))
  have hx : l[j]? = some l[j] := by simp [hlt]
  have htk := List.take_succ_eq_append_getElem hlt
  generalize l[j] = x at hx htk
  obtain ⟨hxc, hxg⟩ := hc x (List.mem_of_getElem? hx)
  obtain ⟨b, off, cap, hve, hcell⟩ := z9.at zbe (z9.chg0 hl hcx) hx
  cases hve
  have hkl := zhX hxc
  have hks : (zbX (l.take j)).size ≤ 235 * j := by
   have := zfM (l := l.take j) (fun y hy => (hc y (List.mem_of_mem_take hy)).1)
   rw [List.length_take] at this
   show (zc6 (l.take j)).toArray.size ≤ _
   rw [List.size_toArray]
   have : 235 * min j l.length ≤ 235 * j := Nat.mul_le_mul_left _ (Nat.min_le_left _ _)
   omega
  have hvs : (⟨(zdB x).toArray⟩ : ByteArray).size = (zdB x).length := by
   show (zdB x).toArray.size = _
   simp
  refine ze (zq (za (Om rfl (Om rfl (Om rfl ?_)))))
  refine Og (zf zak y4 rfl rfl _ rfl hlt) rfl ?_
  refine Og (zg zbd y4 rfl rfl hcell) rfl ?_
  refine Oc zxg rfl rfl rfl (zus x _ hxc hxg) ?_
  rintro v16 w16 ⟨i16, f16, c16⟩
  refine Og (zfb (l := zdB x) yR zas st9 rfl i16.rd) rfl ?_
  refine Og (ztH rfl rfl (by rw [hvs]; omega)) rfl ?_
  refine Oa rfl (N3 0 3 4 rfl (zk (za (Om rfl ?_))))
  refine Og (zH rfl rfl (by omega)) rfl ?_
  refine Oa rfl (N3 0 3 4 rfl ?_)
  refine ⟨l.length - (j + 1), by omega, j + 1, rfl, by omega, ?_, hcx.trans c16⟩
  rw [htk, ← znA]; rfl
 refine za (Om rfl (Om rfl (On zak rfl ?_)))
 refine Og (vf (zB rfl rfl) (by simp; omega)) rfl ?_
 refine E4 0 3 4 8 rfl (zb rfl ?_)
 refine zL ?_
 repeat first | refine te ?_ | refine bo rfl ?_
 refine zt _ ?_
 refine Sr (Om rfl (Oa rfl (E1 2 rfl (zi ?_))))
 refine zC rfl rfl ?_
 rw [List.take_of_length_le (by omega)]
 exact ⟨rfl, hcx⟩
def yj (w : World) (v : Value) (ls : LV) : Prop := ∃ vs, zv w 48 1 v ls.length vs ∧ yl w 40 4 zO.cs vs ls
theorem yj.chg0 {w w' : World} {v : Value} {ls : LV} (h : yj w v ls) (hc : zj [] w w') : yj w' v ls := let ⟨vs, h1, h2⟩ := h; ⟨vs, zv.chg0 h1 hc, h2.chg0 hc⟩
theorem yj.rows {w : World} {v : Value} {ls : LV} (h : yj w v ls) : zcD w v ls := let ⟨vs, h1, h2⟩ := h; ⟨vs, h1.toOu, h2.arr⟩
theorem yj.nil (w : World) : yj w (.slice none 0 0) [] := ⟨[], zv.nil _ _ _, trivial⟩
theorem yj.val {w : World} {v : Value} {ls : LV} (h : yj w v ls) : ∃ p c, v = .slice p ls.length c ∧ ls.length ≤ c := let ⟨_, h1, _⟩ := h; zv.val h1
theorem yj.at {w : World} {v : Value} {ls : LV} (h : yj w v ls) {i : Nat} {l : List zO} (hi : ls[i]? = some l) : ∃ b off cap u, v = .slice (some ⟨b, off, none⟩) ls.length cap ∧ w.cell? ⟨b, off + i * 1, none⟩ = some u ∧ za2 w u l := by
 obtain ⟨vs, h1, h2⟩ := h
 obtain ⟨u, hu, ha⟩ := h2.at hi
 obtain ⟨b, off, cap, u', hv, hu', hc⟩ := Rd.at1 h1.toRd (List.getElem?_eq_some_iff.1 hi).1
 rw [hu] at hu'
 cases hu'
 exact ⟨b, off, cap, u, hv, hc, ha⟩
theorem yj.chgB {w w' : World} {v : Value} {ls : LV} (h : yj w v ls) {b : Nat} {e' : TypeId} {c : List Value} (hb : zS w b e' c) (h1 : Nat.beq 48 e' = false) (h2 : Nat.beq 40 e' = false) (hc : zj [b] w w') : yj w' v ls :=
 let ⟨vs, g1, g2⟩ := h
 ⟨vs, zv.chg g1 hc (zv.apart g1 hb h1), g2.chg hc (g2.apart hb h2)⟩
theorem yj.push {w w' w'' : World} {x x' v : Value} {ls : LV} {r : List zO} {vs : List Value} (h1 : zv w 48 1 x ls.length vs) (h2 : yl w 40 4 zO.cs vs ls) (h3 : za2 w v r) (hc : zj [] w w') (i : zv w'' 48 1 x' (ls.length + 1) (vs ++ [v])) (hc' : zj (zn x) w' w'') : yj w'' x' (ls ++ [r]) := by
 have h4 : yl w' 40 4 zO.cs (vs ++ [v]) (ls ++ [r]) := yl.append (h2.chg0 hc) ⟨yr.chg0 h3 hc, trivial⟩
 refine ⟨vs ++ [v], ?_, h4.chg hc' (h4.apartSl (zv.chg0 h1 hc) rfl)⟩
 rw [List.length_append]
 exact i
structure yw (w : World) (c k u o : Value) (s : ym) (rows : LV) : Prop where
 sch : yL w c k u s
 rws : yj w o rows
 ok : yX s rows
 nm : ∀ c ∈ s.cols, c.n.size ≤ 1048576
theorem yw.chg0 {w w' : World} {c k u o : Value} {s : ym} {rows : LV} (h : yw w c k u o s rows) (hc : zj [] w w') : yw w' c k u o s rows := ⟨h.sch.chg0 hc, h.rws.chg0 hc, h.ok, h.nm⟩
theorem yw.one {w : World} {c k u : Value} {s : ym} (h : yL w c k u s) (p : Option Addr) (n q : Nat) : ∀ y ∈ [c, k, u, .slice p n q], y.oneCell' = true := by
 intro y hy
 simp only [List.mem_cons, List.not_mem_nil, or_false] at hy
 rcases hy with rfl | rfl | rfl | rfl
 ·exact h.one _ (by simp)
 ·exact h.one _ (by simp)
 ·exact h.one _ (by simp)
 rfl
theorem zlv {s : ym} {st : List Int} (hr : yO s = true) (hs : st ∈ zM s) : st.length ≤ 1048576 := by
 have := (zar (zbx hr st hs)).1.2
 omega
theorem zi2 {s : ym} {r : List zO} (h : yZ s r = 0) {st : List Int} (hs : st ∈ zM s) : ∀ i ∈ st, 0 ≤ i ∧ i < r.length := by
 obtain ⟨hr, hl, _⟩ := zav h
 rw [hl]
 exact (zar (zbx hr st hs)).2.1
theorem zcF (c k u o v : Value) (s : ym) (rows : LV) (row : List zO) (w : World) (h : yw w c k u o s rows) (hl : zI w v row) (hf : yZ s row = 0) (hg : ∀ x ∈ row, x.Rng) :
 z6 TP 22 #[.agg #[c, k, u, o], v] w fun r w' => r = .string (zV s row) ∧ zj [] w w' := by
 have hkl := zlv (zav hf).1 (zcQ s)
 refine A2 Tryz.func22 rfl rfl ?_
 refine Sr ?_
 refine Ob rfl rfl ?_
 intro b2 w2 e2 n2 c2 k2
 refine Oa rfl (E2 1 2 rfl (Sr (Om rfl (Od zgF rfl (Od za7 rfl ?_)))))
 refine Ol zbk rfl (k2.cell' (i := 1) rfl) ?_
 refine Oc zue rfl rfl rfl (zpX _ _ _ _ _ (z9.chg0 hl c2) (h.sch.key.chg0 c2) (zi2 hf (zcQ s)) hkl) ?_
 rintro v12 w12 ⟨u12, rfl, i12, f12, c12⟩
 refine Om rfl (Oe rfl rfl (Oe rfl rfl (Oa rfl (Oa rfl (E1 5 rfl (Sr (Om rfl ?_)))))))
 refine Oc zxj rfl rfl rfl (zub _ _ _ i12.arr (fun x hx => ⟨zfU hf x (zd0 hf (zcQ s) x hx), hg x (zd0 hf (zcQ s) x hx)⟩) (by rw [zeB]; exact hkl)) ?_
 rintro v16 w16 ⟨rfl, c16⟩
 refine Oa rfl (E1 4 rfl (zi ?_))
 refine zC rfl rfl ?_
 exact ⟨rfl, (c2.trans c12).trans c16⟩
theorem zrg (va vb vi : Value) (a b : List zO) (st : List Int) (w : World) (ha : zI w va a) (hb : zI w vb b) (hi : yE w vi st) (hra : ∀ i ∈ st, 0 ≤ i ∧ i < a.length) (hrb : ∀ i ∈ st, 0 ≤ i ∧ i < b.length) (hn : st.length ≤ 1048576) :
 z6 TP 135 #[va, vb, vi] w fun r w' => r = .bool (zaz a b st) ∧ zj [] w w' := by
 obtain ⟨pa, ca, rfl, hca⟩ := z9.val ha
 obtain ⟨pb, cb, rfl, hcb⟩ := z9.val hb
 obtain ⟨pi, ci, rfl, hci⟩ := z9.val hi
 refine A3 Tryz.func135 rfl rfl ?_
 refine Sr (Oa rfl (E3 0 1 2 rfl (ze (Sr (Oa rfl (E4 0 1 2 7 rfl (zq ?_)))))))
 refine zZ [0, 1, 2, 7] (fun m F wx => ∃ j : Nat, m = st.length - j ∧ j ≤ st.length ∧ F = [(0, .slice pa a.length ca), (1, .slice pb b.length cb), (2, .slice pi st.length ci), (7, Ii j)] ∧ zaz a b (st.take j) = true ∧ zj [] w wx) (m := st.length - 0) ⟨0, rfl, Nat.zero_le _, rfl, rfl, zj.refl _ _⟩ ?_
 rintro m F wx ⟨j, rfl, hj, rfl, hok, hcx⟩
 refine ze (ze ?_)
 by_cases hlt : j < st.length
 ·refine za (Om rfl (Om rfl (On zal rfl ?_)))
  refine Og (vt (zB rfl rfl) (by simp; omega)) rfl ?_
  refine E5 0 1 2 7 11 rfl (zd rfl (zm ?_))
  have hx : st[j]? = some st[j] := by simp [hlt]
  have htk := List.take_succ_eq_append_getElem hlt
  have hmem := List.getElem_mem hlt
  generalize st[j] = i at hx htk hmem
  obtain ⟨ha0, ha1⟩ := hra i hmem
  obtain ⟨hb0, hb1⟩ := hrb i hmem
  obtain ⟨i, rfl⟩ : ∃ k : Nat, i = (k : Int) := ⟨i.toNat, by omega⟩
  have hia : i < a.length := by omega
  have hib : i < b.length := by omega
  have hxa : a[i]? = some (zcl a (i : Int)) := (zdW rfl ⟨ha0, ha1⟩).2
  have hxb : b[i]? = some (zcl b (i : Int)) := (zdW rfl ⟨hb0, hb1⟩).2
  have hstep : zaz a b (st.take (j + 1)) = (decide ((zcl a (i : Int)).k ≠ 0) && decide (zcl a (i : Int) = zcl b (i : Int))) := by
   unfold zaz at hok ⊢
   rw [htk, List.all_append, hok]
   simp
  have hfail : zaz a b (st.take (j + 1)) = false → zaz a b st = false := fun h => by
   unfold zaz at h ⊢
   rw [← List.take_append_drop (j + 1) st, List.all_append, h, Bool.false_and]
  generalize zcl a (i : Int) = x at *
  generalize zcl b (i : Int) = y at *
  obtain ⟨bi, oi, cpi, hve, -⟩ := yE.cell hi hx
  cases hve
  obtain ⟨ba, oa, cpa, hve, -⟩ := z9.at zbe ha hxa
  cases hve
  obtain ⟨bb, ob, cpb, hve, -⟩ := z9.at zbe hb hxb
  cases hve
  have hce : ∀ {wz : World}, zj [] wx wz → wz.cell? ⟨bi, oi + j * 1, none⟩ = some (Ii (i : Int)) ∧ zz wz ba (oa + i * 4) x.cs ∧ zz wz bb (ob + i * 4) y.cs := fun hc => by
   obtain ⟨_, _, _, he, h1⟩ := yE.cell (z9.chg0 hi (hcx.trans hc)) hx
   cases he
   obtain ⟨_, _, _, he, h2⟩ := z9.at zbe (z9.chg0 ha (hcx.trans hc)) hxa
   cases he
   obtain ⟨_, _, _, he, h3⟩ := z9.at zbe (z9.chg0 hb (hcx.trans hc)) hxb
   cases he
   exact ⟨h1, h2, h3⟩
  refine ze (zq (ze ?_))
  by_cases h0 : x.k = 0
  ·refine zJ (fun wz => zj [] wx wz) mix (zjm (by kernel_rfl)) (zj.drew [] wx) ?_
   refine Tm rfl (Tm rfl (Tm rfl ?_))
   refine Tp (fun _ => zf zal sz3 rfl rfl _ rfl hlt) rfl ?_
   refine Tr (fun wz hz => zh ag3 rfl (hce hz).1) rfl ?_
   refine Tp (fun _ => zf zak y4 rfl rfl _ rfl hia) rfl ?_
   refine Td zaq rfl ?_
   refine Tr (fun wz hz => zh zcn rfl ((hce hz).2.1 0 _ rfl)) rfl ?_
   refine Tp (fun _ => vt (zw rfl rfl) (by simp [h0])) rfl ?_
   refine Tm rfl (Tz rfl rfl (Tz rfl rfl (Tz rfl rfl (Tz rfl rfl (Tz rfl rfl (Tz rfl rfl (Tz rfl rfl (Tz rfl rfl (Tz rfl rfl (Tz rfl rfl (Tz rfl rfl (Tz rfl rfl (Tz rfl rfl ?_)))))))))))))
   refine Tz rfl rfl (Tz rfl rfl ?_)
   refine Tp (fun _ => zK rfl rfl) rfl ?_
   refine D5 0 1 2 7 39 rfl (zd rfl (Sr (Oa rfl (E1 6 rfl (zi ?_)))))
   repeat first | refine tr ?_ | refine br ?_
   refine zC rfl rfl ?_
   exact ⟨by rw [hfail (by rw [hstep]; simp [h0])], hcx.trans (zj.drew [] _)⟩
  refine zJ (fun wz => zj [] wx wz) mix (zjm (by kernel_rfl)) (zj.drew [] wx) ?_
  refine Tm rfl (Tm rfl (Tm rfl ?_))
  refine Tp (fun _ => zf zal sz3 rfl rfl _ rfl hlt) rfl ?_
  refine Tr (fun wz hz => zh ag3 rfl (hce hz).1) rfl ?_
  refine Tp (fun _ => zf zak y4 rfl rfl _ rfl hia) rfl ?_
  refine Td zaq rfl ?_
  refine Tr (fun wz hz => zh zcn rfl ((hce hz).2.1 0 _ rfl)) rfl ?_
  refine Tp (fun _ => vf (zw rfl rfl) (by simp [h0])) rfl ?_
  refine Tm rfl (Tq rfl rfl rfl (Tq rfl rfl rfl (Tq rfl rfl rfl ?_)))
  refine Tg rfl rfl (fun _ => zf zal sz3 rfl rfl _ rfl hlt) rfl ?_
  refine Ts rfl rfl (fun wz hz => zh ag3 rfl (hce hz).1) rfl ?_
  refine Tg rfl rfl (fun _ => zf zak y4 rfl rfl _ rfl hia) rfl ?_
  refine Ts rfl rfl (fun wz hz => zg zbd y4 rfl rfl (hce hz).2.1) rfl ?_
  refine Tq rfl rfl rfl (Tq rfl rfl rfl (Tq rfl rfl rfl ?_))
  refine Tg rfl rfl (fun _ => zf zal sz3 rfl rfl _ rfl hlt) rfl ?_
  refine Ts rfl rfl (fun wz hz => zh ag3 rfl (hce hz).1) rfl ?_
  refine Tg rfl rfl (fun _ => zf zak y4 rfl rfl _ rfl hib) rfl ?_
  refine Ts rfl rfl (fun wz hz => zg zbd y4 rfl rfl (hce hz).2.2) rfl ?_
  refine Tg rfl rfl (fun _ => zjk zrq rfl rfl (zlH x y)) rfl ?_
  refine Tp (fun _ => zP rfl rfl) rfl ?_
  refine D5 0 1 2 7 39 rfl ?_
  by_cases hxy : x = y
  ·refine zb (by simp [hxy]; rfl) ?_
   refine yf (zk (za (Om rfl ?_)))
   refine Og (zH rfl rfl (by omega)) rfl ?_
   refine Oa rfl (N4 0 1 2 7 rfl ?_)
   exact ⟨st.length - (j + 1), by omega, j + 1, rfl, by omega, rfl, by rw [hstep]; simp [hxy]; simpa [hxy] using h0, hcx.trans (zj.drew [] _)⟩
  refine zd (by simp [hxy]; rfl) ?_
  refine Sr (Oa rfl (E1 6 rfl (zi ?_)))
  repeat first | refine tr ?_ | refine br ?_
  refine zC rfl rfl ?_
  exact ⟨by rw [hfail (by rw [hstep]; simp [hxy])], hcx.trans (zj.drew [] _)⟩
 refine za (Om rfl (Om rfl (On zal rfl ?_)))
 refine Og (vf (zB rfl rfl) (by simp; omega)) rfl ?_
 refine E5 0 1 2 7 11 rfl (zb rfl ?_)
 refine zL ?_
 repeat first | refine te ?_ | refine bo rfl ?_
 refine zt _ ?_
 refine Sr (Oa rfl (E1 6 rfl (zi ?_)))
 refine zC rfl rfl ?_
 rw [List.take_of_length_le (by omega)] at hok
 exact ⟨by rw [hok], hcx⟩
theorem ziu (c k u o va vb : Value) (s : ym) (rows : LV) (a b : List zO) (w : World) (h : yw w c k u o s rows) (ha : zI w va a) (hb : zI w vb b) (hfa : yZ s a = 0) (hfb : yZ s b = 0) :
 z6 TP 90 #[.agg #[c, k, u, o], va, vb] w fun r w' => r = .bool (yI s a b) ∧ zj [] w w' := by
 obtain ⟨pa, ca, rfl, hca⟩ := z9.val ha
 obtain ⟨pb, cb, rfl, hcb⟩ := z9.val hb
 have hr := h.ok.right
 refine A3 Tryz.func90 rfl rfl ?_
 refine Sr ?_
 refine Ob rfl rfl ?_
 intro b3 w3 e3 n3 c3 k3
 refine Oa rfl (E3 1 2 3 rfl (Sr (Od zgF rfl ?_)))
 refine Og (zg zbs zbm rfl rfl (zz.of_blk k3 0 [c, k, u] ⟨[_], rfl⟩)) rfl ?_
 refine Oc zwN rfl rfl rfl (zop _ _ _ s _ (h.sch.chg0 c3) hr h.nm) ?_
 rintro v11 w11 ⟨i11, f11, c11⟩
 refine Oa rfl (E3 1 2 7 rfl ?_)
 have hc11 := c3.trans c11
 obtain ⟨ps, cs, rfl, hcs⟩ := zaN.val i11
 have hsl : (zM s).length ≤ 1048576 := by have := (zY hr).2.1; simp [zM]; omega
 refine ze (Sr (Oa rfl (E4 1 2 7 8 rfl (zq ?_))))
 refine zZ [1, 2, 7, 8] (fun m F wx => ∃ j : Nat, m = (zM s).length - j ∧ j ≤ (zM s).length ∧ F = [(1, .slice pa a.length ca), (2, .slice pb b.length cb), (7, .slice ps (zM s).length cs), (8, Ii j)] ∧ ((zM s).take j).any (zaz a b) = false ∧ zj [] w11 wx) (m := (zM s).length - 0) ⟨0, rfl, Nat.zero_le _, rfl, rfl, zj.refl _ _⟩ ?_
 rintro m F wx ⟨j, rfl, hj, rfl, hok, hcx⟩
 refine ze (ze ?_)
 by_cases hlt : j < (zM s).length
 ·refine za (Om rfl (Om rfl (On zay rfl ?_)))
  refine Og (vt (zB rfl rfl) (by simp; omega)) rfl ?_
  refine E5 1 2 7 8 15 rfl (zd rfl (zm ?_))
  have hx : (zM s)[j]? = some (zM s)[j] := by simp [hlt]
  have htk := List.take_succ_eq_append_getElem hlt
  have hmem := List.getElem_mem hlt
  generalize (zM s)[j] = st at hx htk hmem
  obtain ⟨bi, oi, cpi, vi, hve, hcell, hint⟩ := zaN.at (i11.chg0 hcx) hx
  cases hve
  refine ze (zq (Sr (Om rfl (Om rfl (Om rfl (Om rfl ?_))))))
  refine Og (zf zay zeH rfl rfl _ rfl hlt) rfl ?_
  refine Ol zbk rfl hcell ?_
  refine Oc zwe rfl rfl rfl (zrg _ _ _ a b st _ (z9.chg0 ha (hc11.trans hcx)) (z9.chg0 hb (hc11.trans hcx)) hint (zi2 hfa hmem) (zi2 hfb hmem) (zlv hr hmem)) ?_
  rintro v24 w24 ⟨rfl, c24⟩
  refine E5 1 2 7 8 24 rfl ?_
  cases hcl : zaz a b st with
  | true =>
   refine zd rfl (Sr (Oa rfl (E1 6 rfl (zi ?_))))
   repeat first | refine tr ?_ | refine br ?_
   refine zC rfl rfl ?_
   have e : yI s a b = true := List.any_eq_true.2 ⟨st, hmem, hcl⟩
   exact ⟨by rw [e], (hc11.trans hcx).trans c24⟩
  | false =>
   refine zb rfl (yf (zk (za (Om rfl ?_))))
   refine Og (zH rfl rfl (by omega)) rfl ?_
   refine Oa rfl (N4 1 2 7 8 rfl ?_)
   exact ⟨(zM s).length - (j + 1), by omega, j + 1, rfl, by omega, rfl, by rw [htk, List.any_append, hok]; simp [hcl], hcx.trans c24⟩
 refine za (Om rfl (Om rfl (On zay rfl ?_)))
 refine Og (vf (zB rfl rfl) (by simp; omega)) rfl ?_
 refine E5 1 2 7 8 15 rfl (zb rfl ?_)
 refine zL ?_
 repeat first | refine te ?_ | refine bo rfl ?_
 refine zt _ ?_
 refine Sr (Oa rfl (E1 6 rfl (zi ?_)))
 refine zC rfl rfl ?_
 rw [List.take_of_length_le (by omega)] at hok
 exact ⟨by unfold yI; rw [hok], hc11.trans hcx⟩
theorem zmZ (c k u o va : Value) (s : ym) (rows : LV) (row : List zO) (but : ByteArray) (w : World) (h : yw w c k u o s rows) (ha : zI w va row) (hf : yZ s row = 0) :
 z6 TP 88 #[.agg #[c, k, u, o], va, .string but] w fun r w' => r = .bool (zbN s rows row but) ∧ zj [] w w' := by
 obtain ⟨pa, ca, rfl, hca⟩ := z9.val ha
 obtain ⟨po, co, rfl, hco⟩ := h.rws.val
 have hr := h.ok.right
 have hrl := h.ok.le
 refine A3 Tryz.func88 rfl rfl ?_
 refine Sr ?_
 refine Ob rfl rfl ?_
 intro b3 w3 e3 n3 c3 k3
 refine Oa rfl (E3 1 2 3 rfl (ze (Sr (Oa rfl (E4 1 2 3 7 rfl (zq ?_))))))
 refine zZ [1, 2, 3, 7] (fun m F wx => ∃ j : Nat, m = rows.length - j ∧ j ≤ rows.length ∧ F = [(1, .slice pa row.length ca), (2, .string but), (3, Pt b3), (7, Ii j)] ∧ (rows.take j).any (fun r => decide (zV s r ≠ but) && yI s r row) = false ∧ zj [] w3 wx) (m := rows.length - 0) ⟨0, rfl, Nat.zero_le _, rfl, rfl, zj.refl _ _⟩ ?_
 rintro m F wx ⟨j, rfl, hj, rfl, hok, hcx⟩
 have k3x := k3.chg0 hcx
 refine ze (ze ?_)
 by_cases hlt : j < rows.length
 ·refine za (Om rfl (Od yt rfl ?_))
  refine Ol zaD rfl (k3x.cell' (i := 3) rfl) ?_
  refine On zae rfl ?_
  refine Og (vt (zB rfl rfl) (by simp; omega)) rfl ?_
  refine E5 1 2 3 7 12 rfl (zd rfl (zm ?_))
  have hx : rows[j]? = some rows[j] := by simp [hlt]
  have htk := List.take_succ_eq_append_getElem hlt
  have hmem := List.getElem_mem hlt
  generalize rows[j] = r at hx htk hmem
  have hfr := h.ok.fit r hmem
  have hgr := h.ok.rng r hmem
  obtain ⟨bo, oo, cpo, vr, hve, hcell, hvr⟩ := (h.rws.chg0 (c3.trans hcx)).at hx
  cases hve
  have hce : ∀ {wz : World}, zj [] wx wz → yw wz c k u (.slice (some ⟨bo, oo, none⟩) rows.length co) s rows ∧ zS wz b3 54 [c, k, u, .slice (some ⟨bo, oo, none⟩) rows.length co] ∧ wz.cell? ⟨bo, oo + j * 1, none⟩ = some vr ∧ zI wz vr r ∧ zI wz (.slice pa row.length ca) row := fun hc => by
   have hcc := (c3.trans hcx).trans hc
   exact ⟨h.chg0 hcc, k3x.chg0 hc, hc.cell hcell, (yr.chg0 hvr hc).arr, z9.chg0 ha hcc⟩
  refine ze (zq (ze ?_))
  by_cases hk : zV s r = but
  ·refine zJ (fun wz => zj [] wx wz) mix (by kernel_rfl) (zj.drew [] wx) ?_
   refine Tr (fun wz hz => zg yx ya rfl rfl (zz.of_blk0 (hce hz).2.1)) rfl ?_
   refine Td yt rfl ?_
   refine Tr (fun wz hz => zh zaD rfl ((hce hz).2.1.cell' (i := 3) rfl)) rfl ?_
   refine Tm rfl ?_
   refine Tp (fun _ => zf zae zcd rfl rfl _ rfl hlt) rfl ?_
   refine Tr (fun wz hz => zh zaX rfl (hce hz).2.2.1) rfl ?_
   refine Tc zfZ rfl rfl rfl (zcF _ _ _ _ _ s rows r _ (hce (zj.drew [] _)).1 (hce (zj.drew [] _)).2.2.2.1 hfr hgr) ?_
   rintro v21 w21 ⟨rfl, c21⟩
   refine ⟨.inl ((zj.drew [] _).trans c21), ?_⟩
   refine Tm rfl ?_
   refine Tp (fun _ => vf (zdj rfl rfl) (by simp [hk])) rfl ?_
   refine Tm rfl (Tz rfl rfl (Tz rfl rfl (Tz rfl rfl (Tz rfl rfl (Tz rfl rfl (Tz rfl rfl (Tz rfl rfl (Tz rfl rfl ?_))))))))
   refine Tp (fun _ => zP rfl rfl) rfl ?_
   refine D5 1 2 3 7 33 rfl (zb rfl (yf (zk (za (Om rfl ?_)))))
   refine Og (zH rfl rfl (by omega)) rfl ?_
   refine Oa rfl (N4 1 2 3 7 rfl ?_)
   exact ⟨rows.length - (j + 1), by omega, j + 1, rfl, by omega, rfl, by rw [htk, List.any_append, hok]; simp [hk], (hcx.trans (zj.drew [] _)).trans c21⟩
  refine zJ (fun wz => zj [] wx wz) mix (by kernel_rfl) (zj.drew [] wx) ?_
  refine Tr (fun wz hz => zg yx ya rfl rfl (zz.of_blk0 (hce hz).2.1)) rfl ?_
  refine Td yt rfl ?_
  refine Tr (fun wz hz => zh zaD rfl ((hce hz).2.1.cell' (i := 3) rfl)) rfl ?_
  refine Tm rfl ?_
  refine Tp (fun _ => zf zae zcd rfl rfl _ rfl hlt) rfl ?_
  refine Tr (fun wz hz => zh zaX rfl (hce hz).2.2.1) rfl ?_
  refine Tc zfZ rfl rfl rfl (zcF _ _ _ _ _ s rows r _ (hce (zj.drew [] _)).1 (hce (zj.drew [] _)).2.2.2.1 hfr hgr) ?_
  rintro v21 w21 ⟨rfl, c21⟩
  refine ⟨.inl ((zj.drew [] _).trans c21), ?_⟩
  refine Tm rfl ?_
  refine Tp (fun _ => vt (zdj rfl rfl) (by simp [hk])) rfl ?_
  refine Tm rfl ?_
  refine Ts rfl rfl (fun wz hz => zg yx ya rfl rfl (zz.of_blk0 (hce hz).2.1)) rfl ?_
  refine Tg rfl rfl (fun _ => zl yt rfl) rfl ?_
  refine Ts rfl rfl (fun wz hz => zh zaD rfl ((hce hz).2.1.cell' (i := 3) rfl)) rfl ?_
  refine Tq rfl rfl rfl ?_
  refine Tg rfl rfl (fun _ => zf zae zcd rfl rfl _ rfl hlt) rfl ?_
  refine Ts rfl rfl (fun wz hz => zh zaX rfl (hce hz).2.2.1) rfl ?_
  refine Tq rfl rfl rfl ?_
  refine Tv rfl rfl zw0 rfl rfl rfl (ziu _ _ _ _ _ _ s rows r row _ (hce ((zj.drew [] _).trans c21)).1 (hce ((zj.drew [] _).trans c21)).2.2.2.1 (hce ((zj.drew [] _).trans c21)).2.2.2.2 hfr hf) ?_
  rintro v32 w32 ⟨rfl, c32⟩
  refine ⟨.inl (((zj.drew [] _).trans c21).trans c32), ?_⟩
  refine Tp (fun _ => zK rfl rfl) rfl ?_
  refine D5 1 2 3 7 33 rfl ?_
  cases hcl : yI s r row with
  | false =>
   refine zb rfl (yf (zk (za (Om rfl ?_))))
   refine Og (zH rfl rfl (by omega)) rfl ?_
   refine Oa rfl (N4 1 2 3 7 rfl ?_)
   exact ⟨rows.length - (j + 1), by omega, j + 1, rfl, by omega, rfl, by rw [htk, List.any_append, hok]; simp [hcl], ((hcx.trans (zj.drew [] _)).trans c21).trans c32⟩
  | true =>
   refine zd rfl (Sr (Oa rfl (E1 6 rfl (zi ?_))))
   repeat first | refine tr ?_ | refine br ?_
   refine zC rfl rfl ?_
   have e : zbN s rows row but = true := List.any_eq_true.2 ⟨r, hmem, by simp [hk, hcl]⟩
   exact ⟨by rw [e], (((c3.trans hcx).trans (zj.drew [] _)).trans c21).trans c32⟩
 refine za (Om rfl (Od yt rfl ?_))
 refine Ol zaD rfl (k3x.cell' (i := 3) rfl) ?_
 refine On zae rfl ?_
 refine Og (vf (zB rfl rfl) (by simp; omega)) rfl ?_
 refine E5 1 2 3 7 12 rfl (zb rfl ?_)
 refine zL ?_
 repeat first | refine te ?_ | refine bo rfl ?_
 refine zt _ ?_
 refine Sr (Oa rfl (E1 6 rfl (zi ?_)))
 refine zC rfl rfl ?_
 rw [List.take_of_length_le (by omega)] at hok
 exact ⟨by unfold zbN; rw [hok], c3.trans hcx⟩
theorem ztX {α : Type} {p : α → Bool} {l : List α} {j : Nat} {x : α} (hx : l[j]? = some x) (h : (l.take j).any p = false) (hp : p x = true) : l.find? p = some x := by
 obtain ⟨hlt, rfl⟩ := List.getElem?_eq_some_iff.1 hx
 have e : l = l.take j ++ l[j] :: l.drop (j + 1) := by rw [List.getElem_cons_drop, List.take_append_drop]
 have hn : (l.take j).find? p = none := List.find?_eq_none.2 fun y hy => by
  have := List.any_eq_false.1 h y hy
  simpa using this
 conv => lhs; rw [e]
 rw [List.find?_append, hn, List.find?_cons, hp]
 rfl
theorem zpY {α : Type} {p : α → Bool} {l : List α} (h : l.any p = false) : l.find? p = none := List.find?_eq_none.2 fun y hy => by
 have := List.any_eq_false.1 h y hy
 simpa using this
theorem zmb (c k u o : Value) (s : ym) (rows : LV) (key : ByteArray) (w : World) (h : yw w c k u o s rows) :
 z6 TP 24 #[.agg #[c, k, u, o], .string key] w fun r w' => ∃ i : Int, r = Ii i ∧ ((i = -1 ∧ zbV s rows key = none) ∨ ∃ (j : Nat) (x : List zO), i = j ∧ rows[j]? = some x ∧ zbV s rows key = some x) ∧ zj [] w w' := by
 obtain ⟨po, co, rfl, hco⟩ := h.rws.val
 have hrl := h.ok.le
 refine A2 Tryz.func24 rfl rfl ?_
 refine Sr ?_
 refine Ob rfl rfl ?_
 intro b2 w2 e2 n2 c2 k2
 refine Oa rfl (E2 1 2 rfl (ze (Sr (Oa rfl (E3 1 2 5 rfl (zq ?_))))))
 refine zZ [1, 2, 5] (fun m F wx => ∃ j : Nat, m = rows.length - j ∧ j ≤ rows.length ∧ F = [(1, .string key), (2, Pt b2), (5, Ii j)] ∧ (rows.take j).any (fun r => decide (zV s r = key)) = false ∧ zj [] w2 wx) (m := rows.length - 0) ⟨0, rfl, Nat.zero_le _, rfl, rfl, zj.refl _ _⟩ ?_
 rintro m F wx ⟨j, rfl, hj, rfl, hok, hcx⟩
 have k2x := k2.chg0 hcx
 refine ze (ze ?_)
 by_cases hlt : j < rows.length
 ·refine za (Om rfl (Od yt rfl ?_))
  refine Ol zaD rfl (k2x.cell' (i := 3) rfl) ?_
  refine On zae rfl ?_
  refine Og (vt (zB rfl rfl) (by simp; omega)) rfl ?_
  refine E4 1 2 5 10 rfl (zd rfl (zm ?_))
  have hx : rows[j]? = some rows[j] := by simp [hlt]
  have htk := List.take_succ_eq_append_getElem hlt
  have hmem := List.getElem_mem hlt
  generalize rows[j] = r at hx htk hmem
  have hfr := h.ok.fit r hmem
  have hgr := h.ok.rng r hmem
  obtain ⟨bo, oo, cpo, vr, hve, hcell, hvr⟩ := (h.rws.chg0 (c2.trans hcx)).at hx
  cases hve
  have hce : ∀ {wz : World}, zj [] wx wz → yw wz c k u (.slice (some ⟨bo, oo, none⟩) rows.length co) s rows ∧ zS wz b2 54 [c, k, u, .slice (some ⟨bo, oo, none⟩) rows.length co] ∧ wz.cell? ⟨bo, oo + j * 1, none⟩ = some vr ∧ zI wz vr r := fun hc => ⟨h.chg0 ((c2.trans hcx).trans hc), k2x.chg0 hc, hc.cell hcell, (yr.chg0 hvr hc).arr⟩
  refine ze (zq (ze ?_))
  by_cases hk : zV s r = key
  ·refine zJ (fun wz => zj [] wx wz) mix (by kernel_rfl) (zj.drew [] wx) ?_
   refine Tr (fun wz hz => zg yx ya rfl rfl (zz.of_blk0 (hce hz).2.1)) rfl ?_
   refine Td yt rfl ?_
   refine Tr (fun wz hz => zh zaD rfl ((hce hz).2.1.cell' (i := 3) rfl)) rfl ?_
   refine Tm rfl ?_
   refine Tp (fun _ => zf zae zcd rfl rfl _ rfl hlt) rfl ?_
   refine Tr (fun wz hz => zh zaX rfl (hce hz).2.2.1) rfl ?_
   refine Tc zfZ rfl rfl rfl (zcF _ _ _ _ _ s rows r _ (hce (zj.drew [] _)).1 (hce (zj.drew [] _)).2.2.2 hfr hgr) ?_
   rintro v19 w19 ⟨rfl, c19⟩
   refine ⟨.inl ((zj.drew [] _).trans c19), ?_⟩
   refine Tm rfl ?_
   refine Tp (fun _ => vt (zju rfl rfl) (by simp [hk])) rfl ?_
   refine D4 1 2 5 21 rfl (zd rfl (Sr (Om rfl (Oa rfl (E1 4 rfl (zi ?_))))))
   repeat first | refine tr ?_ | refine br ?_
   refine zC rfl rfl ?_
   exact ⟨_, rfl, .inr ⟨j, r, rfl, hx, ztX hx hok (by simp [hk])⟩, ((c2.trans hcx).trans (zj.drew [] _)).trans c19⟩
  refine zJ (fun wz => zj [] wx wz) mix (by kernel_rfl) (zj.drew [] wx) ?_
  refine Tr (fun wz hz => zg yx ya rfl rfl (zz.of_blk0 (hce hz).2.1)) rfl ?_
  refine Td yt rfl ?_
  refine Tr (fun wz hz => zh zaD rfl ((hce hz).2.1.cell' (i := 3) rfl)) rfl ?_
  refine Tm rfl ?_
  refine Tp (fun _ => zf zae zcd rfl rfl _ rfl hlt) rfl ?_
  refine Tr (fun wz hz => zh zaX rfl (hce hz).2.2.1) rfl ?_
  refine Tc zfZ rfl rfl rfl (zcF _ _ _ _ _ s rows r _ (hce (zj.drew [] _)).1 (hce (zj.drew [] _)).2.2.2 hfr hgr) ?_
  rintro v19 w19 ⟨rfl, c19⟩
  refine ⟨.inl ((zj.drew [] _).trans c19), ?_⟩
  refine Tm rfl ?_
  refine Tp (fun _ => vf (zju rfl rfl) (by simp [hk])) rfl ?_
  refine D4 1 2 5 21 rfl (zb rfl (yf (zk (za (Om rfl ?_)))))
  refine Og (zH rfl rfl (by omega)) rfl ?_
  refine Oa rfl (N3 1 2 5 rfl ?_)
  exact ⟨rows.length - (j + 1), by omega, j + 1, rfl, by omega, rfl, by rw [htk, List.any_append, hok]; simp [hk], (hcx.trans (zj.drew [] _)).trans c19⟩
 refine za (Om rfl (Od yt rfl ?_))
 refine Ol zaD rfl (k2x.cell' (i := 3) rfl) ?_
 refine On zae rfl ?_
 refine Og (vf (zB rfl rfl) (by simp; omega)) rfl ?_
 refine E4 1 2 5 10 rfl (zb rfl ?_)
 refine zL ?_
 repeat first | refine te ?_ | refine bo rfl ?_
 refine zt _ ?_
 refine Sr (Oa rfl (E1 4 rfl (zi ?_)))
 refine zC rfl rfl ?_
 rw [List.take_of_length_le (by omega)] at hok
 exact ⟨_, rfl, .inl ⟨rfl, zpY hok⟩, c2.trans hcx⟩
theorem zgs (c k u o : Value) (s : ym) (rows : LV) (key : ByteArray) (w : World) (h : yw w c k u o s rows) :
 z6 TP 91 #[.agg #[c, k, u, o], .string key] w fun r w' => ∃ o', r = .agg #[c, k, u, o'] ∧ yw w' c k u o' s (yY s rows key) ∧ (∀ b ∈ zn o', w.heap.size ≤ b) ∧ zj [] w w' := by
 obtain ⟨po, co, rfl, hco⟩ := h.rws.val
 have hrl := h.ok.le
 refine A2 Tryz.func91 rfl rfl ?_
 refine Sr ?_
 refine Ob rfl rfl ?_
 intro b2 w2 e2 n2 c2 k2
 refine zD (gn rfl) (zG zco rfl rfl ?_)
 intro b4 w4 e4 n4 c4 k4
 refine E3 1 2 4 rfl (Sr (Oa rfl (E4 1 2 4 5 rfl (ze (Sr (Oa rfl (E5 1 2 4 5 6 rfl (zq ?_))))))))
 refine zZ [1, 2, 4, 5, 6] (fun m F wx => ∃ j : Nat, m = rows.length - j ∧ j ≤ rows.length ∧ ∃ x : Value, F = [(1, .string key), (2, Pt b2), (4, Pt b4), (5, x), (6, Ii j)] ∧ yj wx x (yY s (rows.take j) key) ∧ (∀ b ∈ zn x, w4.heap.size ≤ b) ∧ zj [] w4 wx) (m := rows.length - 0) ⟨0, rfl, Nat.zero_le _, _, rfl, yj.nil _, by simp [zn], zj.refl _ _⟩ ?_
 rintro m F wx ⟨j, rfl, hj, x, rfl, hu, hfu, hcx⟩
 have k2w : zS w4 b2 54 [c, k, u, .slice po rows.length co] := k2.chg0 c4
 have k2x := k2w.chg0 hcx
 have k4x := k4.chg0 hcx
 have hcw := (c2.trans c4).trans hcx
 refine ze (ze ?_)
 by_cases hlt : j < rows.length
 ·refine za (Om rfl (Od yt rfl ?_))
  refine Ol zaD rfl (k2x.cell' (i := 3) rfl) ?_
  refine On zae rfl ?_
  refine Og (vt (zB rfl rfl) (by simp; omega)) rfl ?_
  refine E6 1 2 4 5 6 11 rfl (zd rfl (zm ?_))
  have hx : rows[j]? = some rows[j] := by simp [hlt]
  have htk := List.take_succ_eq_append_getElem hlt
  have hmem := List.getElem_mem hlt
  generalize rows[j] = r at hx htk hmem
  have hfr := h.ok.fit r hmem
  have hgr := h.ok.rng r hmem
  obtain ⟨bo, oo, cpo, vr, hve, hcell, hvr⟩ := (h.rws.chg0 hcw).at hx
  cases hve
  have hce : ∀ {wz : World}, zj [] wx wz → yw wz c k u (.slice (some ⟨bo, oo, none⟩) rows.length co) s rows ∧ zS wz b2 54 [c, k, u, .slice (some ⟨bo, oo, none⟩) rows.length co] ∧ wz.cell? ⟨bo, oo + j * 1, none⟩ = some vr ∧ zI wz vr r := fun hc => ⟨h.chg0 (hcw.trans hc), k2x.chg0 hc, hc.cell hcell, (yr.chg0 hvr hc).arr⟩
  refine ze (zq (ze ?_))
  by_cases hk : zV s r = key
  ·refine zJ (fun wz => zj [] wx wz) mix (by kernel_rfl) (zj.drew [] wx) ?_
   refine Tr (fun wz hz => zg yx ya rfl rfl (zz.of_blk0 (hce hz).2.1)) rfl ?_
   refine Td yt rfl ?_
   refine Tr (fun wz hz => zh zaD rfl ((hce hz).2.1.cell' (i := 3) rfl)) rfl ?_
   refine Tm rfl ?_
   refine Tp (fun _ => zf zae zcd rfl rfl _ rfl hlt) rfl ?_
   refine Tr (fun wz hz => zh zaX rfl (hce hz).2.2.1) rfl ?_
   refine Tc zfZ rfl rfl rfl (zcF _ _ _ _ _ s rows r _ (hce (zj.drew [] _)).1 (hce (zj.drew [] _)).2.2.2 hfr hgr) ?_
   rintro v20 w20 ⟨rfl, c20⟩
   refine ⟨.inl ((zj.drew [] _).trans c20), ?_⟩
   refine Tm rfl ?_
   refine Tp (fun _ => vf (zdj rfl rfl) (by simp [hk])) rfl ?_
   refine D6 1 2 4 5 6 22 rfl (zb rfl (yf (zk (za (Om rfl ?_)))))
   refine Og (zH rfl rfl (by omega)) rfl ?_
   refine Oa rfl (N5 1 2 4 5 6 rfl ?_)
   have e : yY s (rows.take (j + 1)) key = yY s (rows.take j) key := by unfold yY; rw [htk, List.filter_append]; simp [hk]
   exact ⟨rows.length - (j + 1), by omega, j + 1, rfl, by omega, x, rfl, e ▸ hu.chg0 ((zj.drew [] _).trans c20), hfu, (hcx.trans (zj.drew [] _)).trans c20⟩
  refine zJ (fun wz => zj [] wx wz) mix (by kernel_rfl) (zj.drew [] wx) ?_
  refine Tr (fun wz hz => zg yx ya rfl rfl (zz.of_blk0 (hce hz).2.1)) rfl ?_
  refine Td yt rfl ?_
  refine Tr (fun wz hz => zh zaD rfl ((hce hz).2.1.cell' (i := 3) rfl)) rfl ?_
  refine Tm rfl ?_
  refine Tp (fun _ => zf zae zcd rfl rfl _ rfl hlt) rfl ?_
  refine Tr (fun wz hz => zh zaX rfl (hce hz).2.2.1) rfl ?_
  refine Tc zfZ rfl rfl rfl (zcF _ _ _ _ _ s rows r _ (hce (zj.drew [] _)).1 (hce (zj.drew [] _)).2.2.2 hfr hgr) ?_
  rintro v20 w20 ⟨rfl, c20⟩
  refine ⟨.inl ((zj.drew [] _).trans c20), ?_⟩
  refine Tm rfl ?_
  refine Tp (fun _ => vt (zdj rfl rfl) (by simp [hk])) rfl ?_
  refine D6 1 2 4 5 6 22 rfl (zd rfl ?_)
  have hc20 : zj [] wx w20 := (zj.drew [] _).trans c20
  obtain ⟨us, hus, hls⟩ := hu.chg0 hc20
  obtain ⟨pv, cv, rfl, -⟩ := yr.val hvr
  have hll : (yY s (rows.take j) key).length ≤ 400 := by
   have := List.length_filter_le (fun r => decide (zV s r ≠ key)) (rows.take j)
   unfold yY
   rw [List.length_take] at this
   omega
  refine za (Om rfl (Od yt rfl ?_))
  refine Ol zaD rfl ((hce hc20).2.1.cell' (i := 3) rfl) ?_
  refine Om rfl ?_
  refine Og (zf zae zcd rfl rfl _ rfl hlt) rfl ?_
  refine Ol zaX rfl (hce hc20).2.2.1 ?_
  refine zD (gn rfl) (zy zg3 rfl (vs := [_]) rfl (css := [_]) ⟨rfl, trivial⟩ rfl rfl (cs := [_]) rfl rfl ?_)
  intro b29 w29 e29 n29 c29 k29
  refine zD (gn rfl) (yq zg3 zae rfl rfl (zv.chg0 hus c29) (zv.of_blk (n := 1) k29 rfl (by simp [maxLen]) (by intro y hy; simp at hy; subst hy; rfl)) (by simp only [maxLen]; omega) (by omega) rfl ?_)
  intro v30 w30 i30 c30 o30 z30
  refine Oa rfl (N5 1 2 4 5 6 rfl (zk (za (Om rfl ?_))))
  refine Og (zH rfl rfl (by omega)) rfl ?_
  refine Oa rfl (N5 1 2 4 5 6 rfl ?_)
  have e : yY s (rows.take (j + 1)) key = yY s (rows.take j) key ++ [r] := by unfold yY; rw [htk, List.filter_append]; simp [hk]
  have hs1 := hcx.size
  have hs2 := hc20.size
  have hs3 := c29.size
  refine ⟨rows.length - (j + 1), by omega, j + 1, rfl, by omega, v30, rfl, ?_, yy o30 hfu (by omega), ((hcx.trans hc20).trans c29).own c30 hfu⟩
  rw [e]
  exact yj.push hus hls (yr.chg0 hvr hc20) c29 i30 c30
 refine za (Om rfl (Od yt rfl ?_))
 refine Ol zaD rfl (k2x.cell' (i := 3) rfl) ?_
 refine On zae rfl ?_
 refine Og (vf (zB rfl rfl) (by simp; omega)) rfl ?_
 refine E6 1 2 4 5 6 11 rfl (zb rfl ?_)
 refine zL ?_
 repeat first | refine te ?_ | refine bo rfl ?_
 refine zt _ ?_
 rw [List.take_of_length_le (by omega)] at hu
 obtain ⟨px, cx, rfl, -⟩ := hu.val
 refine Sr (Om rfl (Od yt rfl ?_))
 refine zD (gn rfl) (zu zwj rfl rfl rfl rfl k2x (by simp) (by intro y hy; simp at hy; subst hy; rfl) ?_)
 intro wA nA cA kA
 refine E2 2 4 rfl ?_
 have kA : zS wA b2 54 [c, k, u, .slice px (yY s rows key).length cx] := kA
 have k4A := k4x.chg cA (by simp; omega)
 refine Sr ?_
 refine Og (zg yx ya rfl rfl (zz.of_blk0 kA)) rfl ?_
 refine zD (gn rfl) (zu ya rfl rfl rfl rfl k4A (by simp) (yw.one h.sch _ _ _) ?_)
 intro wB nB cB kB
 refine E1 4 rfl (zi ?_)
 refine zjv rfl yx ya rfl rfl (zz.of_blk0 kB) ?_
 have hs1 := c2.size
 have hs2 := c4.size
 have hcB : zj [] w wB := (hcw.own cA (by intro y hy; simp at hy; omega)).own cB (by intro y hy; simp at hy; omega)
 exact ⟨_, rfl, ⟨h.sch.chg0 hcB, (hu.chgB k2x rfl rfl cA).chgB k4A rfl rfl cB, h.ok.less key, h.nm⟩, fun b hb => by have := hfu b hb; omega, hcB⟩
section
variable {α : Type} {w : World} {e k : Nat} {f : α → List Value}
theorem yl.take : ∀ {vs : List Value} {ls : List (List α)} (i : Nat), yl w e k f vs ls → yl w e k f (vs.take i) (ls.take i)
 | _, _, 0, _ => by simp [yl]
 | [], [], _ + 1, _ => by simp [yl]
 | _ :: _, _ :: _, i + 1, h => ⟨h.1, h.2.take i⟩
theorem yl.drop : ∀ {vs : List Value} {ls : List (List α)} (i : Nat), yl w e k f vs ls → yl w e k f (vs.drop i) (ls.drop i)
 | _, _, 0, h => h
 | [], [], _ + 1, _ => by simp [yl]
 | _ :: _, _ :: _, i + 1, h => by simpa using h.2.drop i
end
theorem zm0 {α : Type} {p : α → Bool} : ∀ {l : List α} {j : Nat}, j ≤ l.length → (l.take j).all p = true → (∀ x, l[j]? = some x → p x = false) → l.takeWhile p = l.take j ∧ l.dropWhile p = l.drop j
 | [], j, hj, _, _ => by simp
 | a :: l, 0, _, _, h => by
  have := h a (by simp)
  simp [List.takeWhile_cons, List.dropWhile_cons, this]
 | a :: l, j + 1, hj, h1, h2 => by
  simp only [List.take_succ_cons, List.all_cons, Bool.and_eq_true] at h1
  have ih := zm0 (l := l) (j := j) (by simpa using hj) h1.2 (fun x hx => h2 x (by simpa using hx))
  simp [List.takeWhile_cons, List.dropWhile_cons, h1.1, ih.1, ih.2]
theorem zlp (c k u o v : Value) (s : ym) (rows : LV) (row : List zO) (w : World) (h : yw w c k u o s rows) (hl : zI w v row) (hf : yZ s row = 0) (hg : ∀ x ∈ row, x.Rng) (hcl : ∀ r ∈ rows, yI s r row = false) (h400 : rows.length < 400) :
 z6 TP 89 #[.agg #[c, k, u, o], v] w fun r w' => ∃ o', r = .agg #[c, k, u, o'] ∧ yw w' c k u o' s (zbK s rows row) ∧ zj [] w w' := by
 obtain ⟨po, co, rfl, hco⟩ := h.rws.val
 obtain ⟨pv, cv, rfl, hcv⟩ := z9.val hl
 refine A2 Tryz.func89 rfl rfl ?_
 refine Sr ?_
 refine Ob rfl rfl ?_
 intro b2 w2 e2 n2 c2 k2
 refine zD (gn rfl) (zG zco rfl rfl ?_)
 intro b4 w4 e4 n4 c4 k4
 refine E3 1 2 4 rfl ?_
 have k2w : zS w4 b2 54 [c, k, u, .slice po rows.length co] := k2.chg0 c4
 have hcw4 := c2.trans c4
 refine Sr ?_
 refine Og (zg yx ya rfl rfl (zz.of_blk0 k2w)) rfl ?_
 refine Om rfl ?_
 refine Oc zfZ rfl rfl rfl (zcF _ _ _ _ _ s rows row _ (h.chg0 hcw4) (z9.chg0 hl hcw4) hf hg) ?_
 rintro v10 w10 ⟨rfl, c10⟩
 refine Oa rfl (E4 1 2 4 5 rfl (Sr (Oa rfl (E5 1 2 4 5 6 rfl ?_))))
 refine yd (fun F wx => ∃ (j : Nat) (f5 f26 : Value), F = [(1, .slice pv row.length cv), (2, Pt b2), (4, Pt b4), (5, f5), (6, Ii j), (26, f26)] ∧ j ≤ rows.length ∧ rows.takeWhile (fun r => blt (zV s r) (zV s row)) = rows.take j ∧ rows.dropWhile (fun r => blt (zV s r) (zV s row)) = rows.drop j ∧ zj [] w4 wx) ?_ ?_
 ·refine zq ?_
  refine zZ [1, 2, 4, 5, 6] (fun m F wx => ∃ j : Nat, m = rows.length - j ∧ j ≤ rows.length ∧ F = [(1, .slice pv row.length cv), (2, Pt b2), (4, Pt b4), (5, .string (zV s row)), (6, Ii j)] ∧ (rows.take j).all (fun r => blt (zV s r) (zV s row)) = true ∧ zj [] w4 wx) (m := rows.length - 0) ⟨0, rfl, Nat.zero_le _, rfl, rfl, c10⟩ ?_
  rintro m F wx ⟨j, rfl, hj, rfl, hok, hcx⟩
  have k2x := k2w.chg0 hcx
  have hcw := hcw4.trans hcx
  refine ze (ze ?_)
  have hjrow : j < rows.length → ∃ r, rows[j]? = some r ∧ rows.take (j + 1) = rows.take j ++ [r] := fun hlt => ⟨rows[j], by simp [hlt], List.take_succ_eq_append_getElem hlt⟩
  by_cases hgo : ∃ r, rows[j]? = some r ∧ blt (zV s r) (zV s row) = true
  ·obtain ⟨r, hx, hb⟩ := hgo
   have hlt : j < rows.length := (List.getElem?_eq_some_iff.1 hx).1
   obtain ⟨r', hx', htk⟩ := hjrow hlt
   rw [hx] at hx'
   cases hx'
   have hmem := List.mem_of_getElem? hx
   have hfr := h.ok.fit r hmem
   have hgr := h.ok.rng r hmem
   obtain ⟨bo, oo, cpo, vr, hve, hcell, hvr⟩ := (h.rws.chg0 hcw).at hx
   cases hve
   have hce : ∀ {wz : World}, zj [] wx wz → yw wz c k u (.slice (some ⟨bo, oo, none⟩) rows.length co) s rows ∧ zS wz b2 54 [c, k, u, .slice (some ⟨bo, oo, none⟩) rows.length co] ∧ wz.cell? ⟨bo, oo + j * 1, none⟩ = some vr ∧ zI wz vr r := fun hc => ⟨h.chg0 (hcw.trans hc), k2x.chg0 hc, hc.cell hcell, (yr.chg0 hvr hc).arr⟩
   refine zJ (fun wz => zj [] wx wz) mix (by kernel_rfl) (zj.drew [] wx) ?_
   refine Tm rfl (Td yt rfl ?_)
   refine Tr (fun wz hz => zh zaD rfl ((hce hz).2.1.cell' (i := 3) rfl)) rfl ?_
   refine Tp (fun _ => yc zae rfl) rfl ?_
   refine Tp (fun _ => vt (zB rfl rfl) (by simp; omega)) rfl ?_
   refine Tm rfl ?_
   refine Ts rfl rfl (fun wz hz => zg yx ya rfl rfl (zz.of_blk0 (hce hz).2.1)) rfl ?_
   refine Tg rfl rfl (fun _ => zl yt rfl) rfl ?_
   refine Ts rfl rfl (fun wz hz => zh zaD rfl ((hce hz).2.1.cell' (i := 3) rfl)) rfl ?_
   refine Tq rfl rfl rfl ?_
   refine Tg rfl rfl (fun _ => zf zae zcd rfl rfl _ rfl hlt) rfl ?_
   refine Ts rfl rfl (fun wz hz => zh zaX rfl (hce hz).2.2.1) rfl ?_
   refine Tv rfl rfl zfZ rfl rfl rfl (zcF _ _ _ _ _ s rows r _ (hce (zj.drew [] _)).1 (hce (zj.drew [] _)).2.2.2 hfr hgr) ?_
   rintro v23 w23 ⟨rfl, c23⟩
   refine ⟨.inl ((zj.drew [] _).trans c23), ?_⟩
   refine Tq rfl rfl rfl ?_
   refine Tg rfl rfl (fun _ => vt (zgx rfl rfl) hb) rfl ?_
   refine Tp (fun _ => zK rfl rfl) rfl ?_
   refine D6 1 2 4 5 6 26 rfl (zd rfl (zm (zq (za (Om rfl ?_)))))
   refine Og (zH rfl rfl (by omega)) rfl ?_
   refine Oa rfl (N5 1 2 4 5 6 rfl (zk ?_))
   exact ⟨rows.length - (j + 1), by omega, j + 1, rfl, by omega, rfl, by rw [htk, List.all_append, hok]; simp [hb], (hcx.trans (zj.drew [] _)).trans c23⟩
  rcases Nat.lt_or_ge j rows.length with hlt | hge
  ·obtain ⟨r, hx, htk⟩ := hjrow hlt
   have hb : blt (zV s r) (zV s row) = false := by
    cases hbb : blt (zV s r) (zV s row) with
    | false => rfl
    | true => exact absurd ⟨r, hx, hbb⟩ hgo
   have hmem := List.mem_of_getElem? hx
   have hfr := h.ok.fit r hmem
   have hgr := h.ok.rng r hmem
   obtain ⟨bo, oo, cpo, vr, hve, hcell, hvr⟩ := (h.rws.chg0 hcw).at hx
   cases hve
   have hce : ∀ {wz : World}, zj [] wx wz → yw wz c k u (.slice (some ⟨bo, oo, none⟩) rows.length co) s rows ∧ zS wz b2 54 [c, k, u, .slice (some ⟨bo, oo, none⟩) rows.length co] ∧ wz.cell? ⟨bo, oo + j * 1, none⟩ = some vr ∧ zI wz vr r := fun hc => ⟨h.chg0 (hcw.trans hc), k2x.chg0 hc, hc.cell hcell, (yr.chg0 hvr hc).arr⟩
   refine zJ (fun wz => zj [] wx wz) mix (by kernel_rfl) (zj.drew [] wx) ?_
   refine Tm rfl (Td yt rfl ?_)
   refine Tr (fun wz hz => zh zaD rfl ((hce hz).2.1.cell' (i := 3) rfl)) rfl ?_
   refine Tp (fun _ => yc zae rfl) rfl ?_
   refine Tp (fun _ => vt (zB rfl rfl) (by simp; omega)) rfl ?_
   refine Tm rfl ?_
   refine Ts rfl rfl (fun wz hz => zg yx ya rfl rfl (zz.of_blk0 (hce hz).2.1)) rfl ?_
   refine Tg rfl rfl (fun _ => zl yt rfl) rfl ?_
   refine Ts rfl rfl (fun wz hz => zh zaD rfl ((hce hz).2.1.cell' (i := 3) rfl)) rfl ?_
   refine Tq rfl rfl rfl ?_
   refine Tg rfl rfl (fun _ => zf zae zcd rfl rfl _ rfl hlt) rfl ?_
   refine Ts rfl rfl (fun wz hz => zh zaX rfl (hce hz).2.2.1) rfl ?_
   refine Tv rfl rfl zfZ rfl rfl rfl (zcF _ _ _ _ _ s rows r _ (hce (zj.drew [] _)).1 (hce (zj.drew [] _)).2.2.2 hfr hgr) ?_
   rintro v23 w23 ⟨rfl, c23⟩
   refine ⟨.inl ((zj.drew [] _).trans c23), ?_⟩
   refine Tq rfl rfl rfl ?_
   refine Tg rfl rfl (fun _ => vf (zgx rfl rfl) hb) rfl ?_
   refine Tp (fun _ => zK rfl rfl) rfl ?_
   refine D6 1 2 4 5 6 26 rfl (zb rfl ?_)
   refine zL ?_
   repeat first | refine te ?_ | refine bo rfl ?_
   refine zt _ ?_
   have e := zm0 (p := fun r => blt (zV s r) (zV s row)) hj hok (fun y hy => by rw [hx] at hy; cases hy; exact hb)
   exact ⟨j, _, _, rfl, hj, e.1, e.2, (hcx.trans (zj.drew [] _)).trans c23⟩
  refine zJ (fun wz => zj [] wx wz) mix (by kernel_rfl) (zj.drew [] wx) ?_
  refine Tm rfl (Td yt rfl ?_)
  refine Tr (fun wz hz => zh zaD rfl ((k2x.chg0 hz).cell' (i := 3) rfl)) rfl ?_
  refine Tp (fun _ => yc zae rfl) rfl ?_
  refine Tp (fun _ => vf (zB rfl rfl) (by simp; omega)) rfl ?_
  refine Tm rfl (Tz rfl rfl (Tz rfl rfl (Tz rfl rfl (Tz rfl rfl (Tz rfl rfl (Tz rfl rfl (Tz rfl rfl (Tz rfl rfl (Tz rfl rfl ?_)))))))))
  refine Tp (fun _ => zP rfl rfl) rfl ?_
  refine D6 1 2 4 5 6 26 rfl (zb rfl ?_)
  refine zL ?_
  repeat first | refine te ?_ | refine bo rfl ?_
  refine zt _ ?_
  have e := zm0 (p := fun r => blt (zV s r) (zV s row)) hj hok (fun y hy => by rw [List.getElem?_eq_none (by omega)] at hy; cases hy)
  exact ⟨j, _, _, rfl, hj, e.1, e.2, hcx.trans (zj.drew [] _)⟩
 rintro F wx ⟨j, f5, f26, rfl, hj, hT, hD, hcx⟩
 have k2x := k2w.chg0 hcx
 have k4x := k4.chg0 hcx
 have hcw := hcw4.trans hcx
 have hs1 := c2.size
 have hs2 := c4.size
 have hs3 := hcx.size
 obtain ⟨vs, hvs, hls⟩ := id h.rws
 have hvl := hvs.len_xs
 rw [Nat.mul_one] at hvl
 have hrow : row.length ≤ 1048576 := by have := (zav hf).2.1; have := (zY (zav hf).1).1.2; omega
 have hd1 : ∀ {wz : World}, zj [] w wz → Rd wz 1 (cut po 0 j co 1) j (vs.take j) := fun hc => by
  have := Rd.cut (zv.chg0 hvs hc).toRd (l := 0) (h := j) (m := co) (by omega) (by omega) (Nat.le_refl _) hj
  simpa using this
 have hd2 : ∀ {wz : World}, zj [] w wz → Rd wz 1 (cut po j rows.length co 1) (rows.length - j) (vs.drop j) := fun hc => by
  have := Rd.cut (zv.chg0 hvs hc).toRd (l := j) (h := rows.length) (m := co) hj (by omega) (Nat.le_refl _) (Nat.le_refl _)
  rw [Nat.mul_one, Nat.mul_one, List.take_of_length_le (by rw [List.length_drop]; omega)] at this
  exact this
 refine Sr ?_
 refine zD (gn rfl) (zy zg3 rfl (vs := []) rfl (css := []) trivial rfl rfl (cs := []) rfl rfl ?_)
 intro b29 w29 e29 n29 c29 k29
 refine Od yt rfl ?_
 refine Ol zaD rfl ((k2x.chg0 c29).cell' (i := 3) rfl) ?_
 refine Om rfl ?_
 refine Og (zbq zae zcd rfl rfl _ rfl (by omega)) rfl ?_
 refine zD (gn rfl) (zcM zg3 zae rfl rfl (zv.of_blk (n := 0) k29 (by simp) (by simp [maxLen]) (by simp)) (hd1 (hcw.trans c29)) (by simp only [maxLen]; omega) (by omega) rfl ?_)
 intro v34 w34 i34 c34 o34 z34
 refine Oa rfl (E5 1 2 4 6 7 rfl ?_)
 have hs4 := c29.size
 have f29 : ∀ x ∈ zn (.slice (some ⟨b29, 0, none⟩) 0 0), wx.heap.size ≤ x := by intro x hx; simp [zn] at hx; omega
 have f34 := yy o34 f29 (by omega)
 have hc34 := c29.own c34 f29
 have k2y := k2x.chg0 hc34
 have k4y := k4x.chg0 hc34
 have hcy := hcw.trans hc34
 have hs5 := hc34.size
 have hdr : w34.drew.heap.size = w34.heap.size := rfl
 refine ze ?_
 refine zJ (fun wz => zj [] wx wz) mix (by kernel_rfl) (hc34.trans (zj.drew [] _)) ?_
 refine Tm rfl ?_
 refine zan rfl (gn rfl) (zy zg6 rfl (vs := []) rfl (css := []) trivial rfl rfl (cs := []) rfl rfl ?_)
 intro b36 w36 e36 n36 c36 k36
 refine ⟨.inl ((hc34.trans (zj.drew [] _)).trans c36), ?_⟩
 refine Tm rfl ?_
 refine zan rfl (gn rfl) (zcM zg6 zak rfl rfl (zv.of_blk (n := 0) k36 (by simp) (by simp [maxLen]) (by simp)) (z9.chg0 hl ((hcy.trans (zj.drew [] _)).trans c36)) (by simp only [maxLen]; omega) (by omega) rfl ?_)
 intro v38 w38 i38 c38 o38 z38
 have G38 : zj [] w34 w38 := ((zj.drew [] _).trans c36).own c38 (by intro x hx; simp [zn] at hx; omega)
 have i38 : za2 w38 v38 row := by have := i38; simp only [Nat.zero_add, List.nil_append] at this; exact this
 obtain ⟨p38, q38, rfl, -⟩ := yr.val i38
 have z38 := G38.size
 refine ⟨.inl (hc34.trans G38), ?_⟩
 refine zan rfl (gn rfl) (zy zg3 rfl (vs := [_]) rfl (css := [_]) ⟨rfl, trivial⟩ rfl rfl (cs := [_]) rfl rfl ?_)
 intro b39 w39 e39 n39 c39 k39
 refine ⟨.inl ((hc34.trans G38).trans c39), ?_⟩
 refine zan rfl (gn rfl) (yq zg3 zae rfl rfl (zv.chg0 i34 (G38.trans c39)) (zv.of_blk (n := 1) k39 rfl (by simp [maxLen]) (by intro y hy; simp at hy; subst hy; rfl)) (by simp only [maxLen]; omega) (by omega) rfl ?_)
 intro v40 w40 i40 c40 o40 z40
 have H40 : zj [] wx w40 := ((hc34.trans G38).trans c39).own c40 f34
 have z39 := c39.size
 have z40 := c40.size
 have f40 := yy o40 f34 (by omega)
 refine ⟨.inl H40, ?_⟩
 refine Td yt rfl ?_
 refine Tr (fun wz hz => zh zaD rfl ((k2x.chg0 hz).cell' (i := 3) rfl)) rfl ?_
 refine Tm rfl ?_
 refine Tp (fun _ => zaL zae zcd rfl rfl _ rfl (by omega)) rfl ?_
 refine zan rfl (gn rfl) (zcM zg3 zae rfl rfl i40 (hd2 (hcw.trans H40)) (by simp only [maxLen]; omega) (by omega) rfl ?_)
 intro v45 w45 i45 c45 o45 z45
 have H45 : zj [] wx w45 := H40.own c45 f40
 have f45 := yy o45 f40 (by omega)
 obtain ⟨p45, q45, rfl, -⟩ := id (zv.val i45)
 refine ⟨.inl H45, ?_⟩
 refine Td yt rfl ?_
 refine zan rfl (gn rfl) (zu zwj rfl rfl rfl rfl (k2x.chg0 H45) (by simp) (by intro y hy; simp at hy; subst hy; rfl) ?_)
 intro wA nA cA kA
 refine ⟨.inr (by kernel_rfl), ?_⟩
 refine D2 2 4 rfl ?_
 have L39 : yl w39 40 4 zO.cs (vs.take j ++ [.slice p38 row.length q38] ++ vs.drop j) (rows.take j ++ [row] ++ rows.drop j) :=
  yl.append (yl.append ((hls.take j).chg0 (hcw.trans ((hc34.trans G38).trans c39))) ⟨yr.chg0 i38 c39, trivial⟩) ((hls.drop j).chg0 (hcw.trans ((hc34.trans G38).trans c39)))
 have L40 := L39.chg c40 (L39.apartSl (zv.chg0 i34 (G38.trans c39)) rfl)
 have L45 := L40.chg c45 (L40.apartSl i40 rfl)
 have hwr : zbK s rows row = rows.take j ++ [row] ++ rows.drop j := by unfold zbK; rw [hT, hD]; simp
 have hlen : (zbK s rows row).length = 0 + j + 1 + (rows.length - j) := by rw [zkK]; omega
 have hR45 : yj w45 (.slice p45 (0 + j + 1 + (rows.length - j)) q45) (zbK s rows row) := ⟨_, by rw [hlen]; exact i45, by rw [hwr]; simpa using L45⟩
 have kA : zS wA b2 54 [c, k, u, .slice p45 (0 + j + 1 + (rows.length - j)) q45] := kA
 have hRA := hR45.chgB (k2x.chg0 H45) rfl rfl cA
 have k4A := (k4x.chg0 H45).chg cA (by simp; omega)
 refine Sr ?_
 refine Og (zg yx ya rfl rfl (zz.of_blk0 kA)) rfl ?_
 refine zD (gn rfl) (zu ya rfl rfl rfl rfl k4A (by simp) (yw.one h.sch _ _ _) ?_)
 intro wB nB cB kB
 refine E1 4 rfl (zi ?_)
 refine zjv rfl yx ya rfl rfl (zz.of_blk0 kB) ?_
 have hcB : zj [] w wB := ((hcw.trans H45).own cA (by intro y hy; simp at hy; omega)).own cB (by intro y hy; simp at hy; omega)
 exact ⟨_, rfl, ⟨h.sch.chg0 hcB, hRA.chgB k4A rfl rfl cB, h.ok.ins hf hg hcl h400, h.nm⟩, hcB⟩
section
variable {P : Program} {fn : Func} {R : Value → World → Prop} {n : Nat} {F : Fr} {w : World}
theorem zmv {t u ty k b off : Nat} {y : Value} {cs : List Value} (hr : fn.results = #[.cell u ty, .tmp t]) (hag : zap P ty = some true) (hk : zaj P ty = some k) (hu : get F u = some (.pointer (some ⟨b, off, none⟩))) (hy : get F t = some y) (hl : cs.length = k) (hc : zz w b off cs)
 (h : R (.tuple #[.agg cs.toArray, y]) w) (hm : y9 F = [] := by rfl) : zev P fn R n .ret F w := by
 refine ⟨.tuple #[.agg cs.toArray, y], fun a ha => ?_, hm, h⟩
 subst hl
 have h1 : (loadCells ⟨b, off, none⟩ cs.length).run P w = .ok cs.toArray w := run_loadCells_list w ⟨b, off, none⟩ cs (fun j v hv => by rw [Addr.add_lit]; exact hc j v hv)
 simp [results, hr, ha.get u _ hu, ha.get t _ hy, asAddr, loadVar, zax hag, zW hk, h1]
theorem zeP {t u s ty k b off : Nat} {x y : Value} {cs : List Value} (hr : fn.results = #[.cell u ty, .tmp t, .tmp s]) (hag : zap P ty = some true) (hk : zaj P ty = some k) (hu : get F u = some (.pointer (some ⟨b, off, none⟩))) (hx : get F t = some x) (hy : get F s = some y) (hl : cs.length = k) (hc : zz w b off cs)
 (h : R (.tuple #[.agg cs.toArray, x, y]) w) (hm : y9 F = [] := by rfl) : zev P fn R n .ret F w := by
 refine ⟨.tuple #[.agg cs.toArray, x, y], fun a ha => ?_, hm, h⟩
 subst hl
 have h1 : (loadCells ⟨b, off, none⟩ cs.length).run P w = .ok cs.toArray w := run_loadCells_list w ⟨b, off, none⟩ cs (fun j v hv => by rw [Addr.add_lit]; exact hc j v hv)
 simp [results, hr, ha.get u _ hu, ha.get t _ hx, ha.get s _ hy, asAddr, loadVar, zax hag, zW hk, h1]
end
theorem zjS (c k u o v : Value) (s : ym) (rows : LV) (row : List zO) (w : World) (h : yw w c k u o s rows) (hl : zI w v row) (hg : ∀ x ∈ row, x.Rng) :
 z6 TP 56 #[.agg #[c, k, u, o], v] w fun r w' => ∃ o', r = .tuple #[.agg #[c, k, u, o'], Ii (zbW s rows row)] ∧ yw w' c k u o' s (zcG s rows row) ∧ zj [] w w' := by
 obtain ⟨po, co, rfl, hco⟩ := h.rws.val
 have hrl := h.ok.le
 refine A2 Tryz.func56 rfl rfl ?_
 refine Sr ?_
 refine Ob rfl rfl ?_
 intro b2 w2 e2 n2 c2 k2
 refine zD (gn rfl) (zG zco rfl rfl ?_)
 intro b4 w4 e4 n4 c4 k4
 refine Oa rfl (E3 1 2 4 rfl ?_)
 have k2w : zS w4 b2 54 [c, k, u, .slice po rows.length co] := k2.chg0 c4
 have hcw4 := c2.trans c4
 have hs2 := c2.size
 refine ze (Sr (Od zgF rfl ?_))
 refine Og (zg zbs zbm rfl rfl (zz.of_blk k2w 0 [c, k, u] ⟨[_], rfl⟩)) rfl ?_
 refine Om rfl ?_
 refine Oc zsB rfl rfl rfl (zpW _ _ _ _ s row _ (h.sch.chg0 hcw4) (z9.chg0 hl hcw4) h.nm) ?_
 rintro v10 w10 ⟨rfl, c10⟩
 refine Oa rfl (E4 1 2 4 6 rfl ?_)
 have k2x := k2w.chg0 c10
 have k4x := k4.chg0 c10
 have hcx := hcw4.trans c10
 refine ze ?_
 by_cases hf : yZ s row = 0
 ·refine za (Om rfl ?_)
  refine Og (vf (zT rfl rfl) (by simp [hf])) rfl ?_
  refine E5 1 2 4 6 12 rfl (zb rfl (zm (ze (Sr ?_))))
  refine Og (zg yx ya rfl rfl (zz.of_blk0 k2x)) rfl ?_
  refine Om rfl ?_
  refine Oc zvU rfl rfl rfl (zmZ _ _ _ _ _ s rows row e0 _ (h.chg0 hcx) (z9.chg0 hl hcx) hf) ?_
  rintro v17 w17 ⟨rfl, c17⟩
  refine E4 1 2 4 17 rfl ?_
  have k2y := k2x.chg0 c17
  have k4y := k4x.chg0 c17
  have hcy := hcx.trans c17
  cases ht : zbN s rows row e0 with
  | true =>
   refine zd rfl (Sr ?_)
   refine Og (zg yx ya rfl rfl (zz.of_blk0 k2y)) rfl ?_
   refine zD (gn rfl) (zu ya rfl rfl rfl rfl k4y (by simp) (yw.one h.sch _ _ _) ?_)
   intro wB nB cB kB
   refine Oa rfl (E2 4 5 rfl (zi ?_))
   repeat first | refine tr ?_ | refine br ?_
   refine zmv rfl yx ya rfl rfl rfl (zz.of_blk0 kB) ?_
   have hcB : zj [] w wB := hcy.own cB (by intro y hy; simp at hy; omega)
   have e : zbW s rows row = 220 := by simp [zbW, hf, ht]
   exact ⟨.slice po rows.length co, by rw [e]; rfl, by simp only [zcG, e]; exact h.chg0 hcB, hcB⟩
  | false =>
   refine zb rfl (zm (ze (ze ?_)))
   by_cases h4 : 400 ≤ rows.length
   ·refine za (Od yt rfl ?_)
    refine Ol zaD rfl (k2y.cell' (i := 3) rfl) ?_
    refine On zae rfl ?_
    refine Og (vt (yn rfl rfl) (by simp; omega)) rfl ?_
    refine E4 1 2 4 22 rfl (zd rfl (Sr ?_))
    refine Og (zg yx ya rfl rfl (zz.of_blk0 k2y)) rfl ?_
    refine zD (gn rfl) (zu ya rfl rfl rfl rfl k4y (by simp) (yw.one h.sch _ _ _) ?_)
    intro wB nB cB kB
    refine Oa rfl (E2 4 5 rfl (zi ?_))
    repeat first | refine tr ?_ | refine br ?_
    refine zmv rfl yx ya rfl rfl rfl (zz.of_blk0 kB) ?_
    have hcB : zj [] w wB := hcy.own cB (by intro y hy; simp at hy; omega)
    have e : zbW s rows row = 3 := by simp [zbW, hf, ht, h4]
    exact ⟨.slice po rows.length co, by rw [e]; rfl, by simp only [zcG, e]; exact h.chg0 hcB, hcB⟩
   refine za (Od yt rfl ?_)
   refine Ol zaD rfl (k2y.cell' (i := 3) rfl) ?_
   refine On zae rfl ?_
   refine Og (vf (yn rfl rfl) (by simp; omega)) rfl ?_
   refine E4 1 2 4 22 rfl (zb rfl (zm (ze ?_)))
   have hcl : ∀ r ∈ rows, yI s r row = false := by
    rw [zhV h.ok] at ht
    intro r hr
    have := List.any_eq_false.1 ht r hr
    simpa using this
   refine za ?_
   refine Og (zg yx ya rfl rfl (zz.of_blk0 k2y)) rfl ?_
   refine Om rfl ?_
   refine Oc ztQ rfl rfl rfl (zlp _ _ _ _ _ s rows row _ (h.chg0 hcy) (z9.chg0 hl hcy) hf hg hcl (by omega)) ?_
   rintro v26 w26 ⟨o', rfl, h26, c26⟩
   obtain ⟨p26, q26, rfl, -⟩ := h26.rws.val
   refine zD (gn rfl) (zu ya rfl rfl rfl rfl (k4y.chg0 c26) (by simp) (yw.one h26.sch _ _ _) ?_)
   intro wB nB cB kB
   refine Oa rfl (E2 4 5 rfl (zi ?_))
   refine zmv rfl yx ya rfl rfl rfl (zz.of_blk0 kB) ?_
   have hcB : zj [] w wB := (hcy.trans c26).own cB (by intro y hy; simp at hy; omega)
   have e : zbW s rows row = 0 := by simp [zbW, hf, ht, h4]
   refine ⟨.slice p26 _ q26, by rw [e]; rfl, ?_, hcB⟩
   simp only [zcG, e, if_true]
   exact ⟨h.sch.chg0 hcB, h26.rws.chgB (k4y.chg0 c26) rfl rfl cB, h26.ok, h26.nm⟩
 refine za (Om rfl ?_)
 refine Og (vt (zT rfl rfl) (by simp [hf])) rfl ?_
 refine E5 1 2 4 6 12 rfl (zd rfl (Sr ?_))
 refine Og (zg yx ya rfl rfl (zz.of_blk0 k2x)) rfl ?_
 refine Om rfl ?_
 refine zD (gn rfl) (zu ya rfl rfl rfl rfl k4x (by simp) (yw.one h.sch _ _ _) ?_)
 intro wB nB cB kB
 refine Oa rfl (E2 4 5 rfl (zi ?_))
 repeat first | refine tr ?_ | refine br ?_
 refine zmv rfl yx ya rfl rfl rfl (zz.of_blk0 kB) ?_
 have hcB : zj [] w wB := hcx.own cB (by intro y hy; simp at hy; omega)
 have e : zbW s rows row = yZ s row := by simp [zbW, hf]
 exact ⟨.slice po rows.length co, by rw [e]; rfl, by simp only [zcG, e, if_neg hf]; exact h.chg0 hcB, hcB⟩
theorem zpu (c k u o v : Value) (s : ym) (rows : LV) (row : List zO) (w : World) (h : yw w c k u o s rows) (hl : zI w v row) (hg : ∀ x ∈ row, x.Rng) :
 z6 TP 57 #[.agg #[c, k, u, o], v] w fun r w' => ∃ o', r = .tuple #[.agg #[c, k, u, o'], .bool (zkz s rows row), Ii (zjN s rows row)] ∧ yw w' c k u o' s (zcG s rows row) ∧ zj [] w w' := by
 obtain ⟨po, co, rfl, hco⟩ := h.rws.val
 refine A2 Tryz.func57 rfl rfl ?_
 refine Sr ?_
 refine Ob rfl rfl ?_
 intro b2 w2 e2 n2 c2 k2
 refine zD (gn rfl) (zG zco rfl rfl ?_)
 intro b4 w4 e4 n4 c4 k4
 refine Oa rfl (Oa rfl (E3 1 2 4 rfl ?_))
 have k2w : zS w4 b2 54 [c, k, u, .slice po rows.length co] := k2.chg0 c4
 have hcw4 := c2.trans c4
 have hs2 := c2.size
 refine Sr ?_
 refine Og (zg yx ya rfl rfl (zz.of_blk0 k2w)) rfl ?_
 refine Om rfl ?_
 refine Oc zuZ rfl rfl rfl (zjS _ _ _ _ _ s rows row _ (h.chg0 hcw4) (z9.chg0 hl hcw4) hg) ?_
 rintro v12 w12 ⟨o', rfl, h12, c12⟩
 obtain ⟨p12, q12, rfl, -⟩ := h12.rws.val
 refine Om rfl (Oe rfl rfl (Oe rfl rfl ?_))
 refine zD (gn rfl) (zG zco rfl rfl ?_)
 intro b7 w7 e7 n7 c7 k7
 refine zD (gn rfl) (zu ya rfl rfl rfl rfl k7 (by simp) (yw.one h12.sch _ _ _) ?_)
 intro wA nA cA kA
 refine Oa rfl (E4 2 4 7 8 rfl ?_)
 have hs4 := c4.size
 have hs12 := c12.size
 have kA : zS wA b7 54 [c, k, u, .slice p12 (zcG s rows row).length q12] := kA
 have hA7 : zj [] w12 wA := c7.own cA (by intro y hy; simp at hy; omega)
 have hcx := (hcw4.trans c12).trans hA7
 have k2x := (k2w.chg0 c12).chg0 hA7
 have k4x := (k4.chg0 c12).chg0 hA7
 have hRA := h12.rws.chg0 hA7
 refine ze (ze ?_)
 by_cases h2 : zbW s rows row = 220
 ·refine za (Om rfl ?_)
  refine Og (vt (zw rfl rfl) (by simp [h2])) rfl ?_
  refine E5 2 4 7 8 16 rfl (zd rfl (Sr ?_))
  refine Og (zg yx ya rfl rfl (zz.of_blk0 k2x)) rfl ?_
  refine zD (gn rfl) (zu ya rfl rfl rfl rfl k4x (by simp) (yw.one h.sch _ _ _) ?_)
  intro wB nB cB kB
  refine Oa rfl (Oa rfl (E3 4 5 6 rfl (zi ?_)))
  repeat first | refine tr ?_ | refine br ?_
  refine zeP rfl yx ya rfl rfl rfl rfl (zz.of_blk0 kB) ?_
  have hcB : zj [] w wB := hcx.own cB (by intro y hy; simp at hy; omega)
  have e1 : zkz s rows row = false := by simp [zkz, h2]
  have e2 : zjN s rows row = 0 := by simp [zjN, h2]
  exact ⟨.slice po rows.length co, by rw [e1, e2]; rfl, by simp only [zcG, h2]; exact h.chg0 hcB, hcB⟩
 refine za (Om rfl ?_)
 refine Og (vf (zw rfl rfl) (by simp [h2])) rfl ?_
 refine E5 2 4 7 8 16 rfl (zb rfl (zm (Sr ?_)))
 refine Og (zg yx ya rfl rfl (zz.of_blk0 kA)) rfl ?_
 refine Om rfl (Og (zw rfl rfl) rfl (Om rfl ?_))
 refine zD (gn rfl) (zu ya rfl rfl rfl rfl k4x (by simp) (yw.one h.sch _ _ _) ?_)
 intro wB nB cB kB
 refine Oa rfl (Oa rfl (E3 4 5 6 rfl (zi ?_)))
 refine zeP rfl yx ya rfl rfl rfl rfl (zz.of_blk0 kB) ?_
 have hcB : zj [] w wB := hcx.own cB (by intro y hy; simp at hy; omega)
 have e2 : zjN s rows row = zbW s rows row := by simp [zjN, h2]
 exact ⟨.slice p12 (zcG s rows row).length q12, by rw [e2]; rfl, ⟨h.sch.chg0 hcB, hRA.chgB k4x rfl rfl cB, h12.ok, h12.nm⟩, hcB⟩
end Go.Wk
