/- joined texts -/
import Derived.Test.YtcnkdoecfljnlaaGreatDoorZ11
set_option linter.all false
namespace Go.Wk
open Go.Proofs
set_option maxRecDepth 10000
theorem zoY (c k u v : Value) (s : yn) (l : List zP) (w : World) (hs : y4 w c k u s) (hl : zK w v l) (hn : ∀ c ∈ s.cols, c.n.size ≤ 1048576) : z9 TP 21 #[.agg #[c, k, u], v] w fun r w' => r = Ii (yT s l) ∧ zk [] w w' := by
 obtain ⟨pc, dc, rfl, hdc⟩ := ya.val hs.cols
 obtain ⟨pv, cv, rfl, hcv⟩ := ya.val hl
 have hml := ya.max hl
 simp only [maxLen] at hml
 refine A2 Tryz.func21 rfl rfl ?_
 refine Sr ?_
 refine Ob rfl rfl ?_
 intro b2 w2 e2 n2 c2 k2
 refine Oa rfl (E2 1 2 rfl (ze (ze ?_)))
 cases hr : yL s with
 | false =>
  refine za ?_
  refine Og (zg zbu zbt rfl rfl (zB.of_blk0 k2)) rfl ?_
  refine Oc zlU rfl rfl rfl (zej _ _ _ s _ (hs.chg0 c2) hn) ?_
  rintro v8 w8 ⟨h8, c8⟩
  rw [hr] at h8
  subst h8
  refine Og (zU rfl) rfl (E3 1 2 9 rfl (zd rfl (Sr (Oa rfl (E1 4 rfl (zi ?_))))))
  repeat first | refine tr ?_ | refine br ?_
  refine zD rfl rfl ?_
  exact ⟨by simp [yT, hr], c2.trans c8⟩
 | true =>
 refine za ?_
 refine Og (zg zbu zbt rfl rfl (zB.of_blk0 k2)) rfl ?_
 refine Oc zlU rfl rfl rfl (zej _ _ _ s _ (hs.chg0 c2) hn) ?_
 rintro v8 w8 ⟨h8, c8⟩
 rw [hr] at h8
 subst h8
 refine Og (zU rfl) rfl (E3 1 2 9 rfl (zb rfl (zm ?_)))
 have k2 := k2.chg0 c8
 have hc8 := c2.trans c8
 refine ze (ze ?_)
 by_cases hlen : l.length ≠ s.cols.length
 ·refine za (Om rfl (On zab rfl (Od yM rfl ?_)))
  refine Ol zbq rfl (k2.cell' (i := 0) rfl) ?_
  refine On zaU rfl ?_
  refine Og (vt (zX rfl rfl) (by simp; omega)) rfl ?_
  refine E3 1 2 15 rfl (zd rfl (Sr (Oa rfl (E1 4 rfl (zi ?_)))))
  repeat first | refine tr ?_ | refine br ?_
  refine zD rfl rfl ?_
  exact ⟨by simp [yT, hr, hlen], hc8⟩
 have hlen : l.length = s.cols.length := by omega
 have hrow : yT s l = zaN s.cols l := by simp [yT, hr, hlen]
 refine za (Om rfl (On zab rfl (Od yM rfl ?_)))
 refine Ol zbq rfl (k2.cell' (i := 0) rfl) ?_
 refine On zaU rfl ?_
 refine Og (vf (zX rfl rfl) (by simp; omega)) rfl ?_
 refine E3 1 2 15 rfl (zb rfl (zm ?_))
 refine yh (fun F wx => (∃ f5 f19, F = [(1, .slice pv l.length cv), (2, Pt b2), (5, f5), (19, f19)]) ∧ zk [] w8 wx ∧ (∀ (i : Nat) c x, i < l.length → s.cols[i]? = some c → l[i]? = some x → zaf c x = 0)) ?_ ?_
 ·refine Sr (Oa rfl (E3 1 2 5 rfl (zq ?_)))
  refine zY [1, 2, 5] (fun m F wx => ∃ j : Nat, m = l.length - j ∧ j ≤ l.length ∧ F = [(1, .slice pv l.length cv), (2, Pt b2), (5, Ii j)] ∧ zk [] w8 wx ∧ (∀ (i : Nat) c x, i < j → s.cols[i]? = some c → l[i]? = some x → zaf c x = 0)) (m := l.length - 0) ⟨0, rfl, Nat.zero_le _, rfl, zk.refl _ _, by omega⟩ ?_
  rintro m F wx ⟨j, rfl, hj, rfl, hcx, hall⟩
  have k2x := k2.chg0 hcx
  refine ze (ze ?_)
  by_cases hlt : j < l.length
  ·refine za (Om rfl (Om rfl (On zab rfl ?_)))
   refine Og (vt (zz rfl rfl) (by simp; omega)) rfl ?_
   refine E4 1 2 5 19 rfl (zd rfl (zm ?_))
   have hlc : j < s.cols.length := by omega
   have hx : l[j]? = some l[j] := by simp [hlt]
   have hy : s.cols[j]? = some s.cols[j] := by simp [hlc]
   generalize l[j] = x at hx
   generalize s.cols[j] = y at hy
   obtain ⟨b, off, cap, hve, -⟩ := ya.at zaX hl hx
   obtain ⟨bc, oc, cc, hve2, -⟩ := ya.at zaR hs.cols hy
   cases hve; cases hve2
   have hce : ∀ {wz : World}, zk [] wx wz → wz.cell? ⟨b2, 0, none⟩ = some (.slice (some ⟨bc, oc, none⟩) s.cols.length dc) ∧ zB wz bc (oc + j * 4) y.cs ∧ zB wz b (off + j * 4) x.cs := fun hc => by
    obtain ⟨b1', o1, c1', he, h1⟩ := ya.at zaX (ya.chg0 hl ((hc8.trans hcx).trans hc)) hx
    obtain ⟨b2, o2, c2, he2, h2⟩ := ya.at zaR (ya.chg0 hs.cols ((hc8.trans hcx).trans hc)) hy
    cases he; cases he2
    exact ⟨(k2x.chg0 hc).cell' (i := 0) rfl, h2, h1⟩
   refine ze (zq (ze ?_))
   refine zO (fun wz => zk [] wx wz) mix (by kernel_rfl) (zk.drew [] wx) ?_
   refine Td yM rfl ?_
   refine Tr (fun wz hz => zj zbq rfl (hce hz).1) rfl ?_
   refine Tm rfl ?_
   refine Tp (fun _ => zf zaU zbj rfl rfl _ rfl hlc) rfl ?_
   refine Tr (fun wz hz => zg zeM zbj rfl rfl (hce hz).2.1) rfl ?_
   refine Tm rfl (Tm rfl ?_)
   refine Tp (fun _ => zf zab y7 rfl rfl _ rfl hlt) rfl ?_
   refine Tr (fun wz hz => zg zbe y7 rfl rfl (hce hz).2.2) rfl ?_
   refine Tc zxa rfl rfl rfl (zt6 y x _ (hn y (List.mem_of_getElem? hy))) ?_
   rintro v31 w31 ⟨rfl, c31⟩
   refine ⟨.inl ((zk.drew [] _).trans c31), ?_⟩
   refine Ta rfl (D4 1 2 5 6 rfl ?_)
   have hcx31 := (hcx.trans (zk.drew [] _)).trans c31
   refine ze ?_
   by_cases hf : zaf y x ≠ 0
   ·refine za (Om rfl ?_)
    refine Og (vt (zX rfl rfl) (by simp [hf])) rfl ?_
    refine E5 1 2 5 6 33 rfl (zd rfl (Sr (Om rfl (Oa rfl (E1 4 rfl (zi ?_))))))
    repeat first | refine tr ?_ | refine br ?_
    refine zD rfl rfl ?_
    exact ⟨by rw [hrow, zgn hy hx hf hall], hc8.trans hcx31⟩
   have hf : zaf y x = 0 := by omega
   refine za (Om rfl ?_)
   refine Og (vf (zX rfl rfl) (by simp [hf])) rfl ?_
   refine E5 1 2 5 6 33 rfl (zb rfl (yg (zh (za (Om rfl ?_)))))
   refine Og (zH rfl rfl (by omega)) rfl ?_
   refine Oa rfl (N3 1 2 5 rfl ?_)
   refine ⟨l.length - (j + 1), by omega, j + 1, rfl, by omega, rfl, hcx31, fun i c' x' hi h1 h2 => ?_⟩
   rcases Nat.lt_or_ge i j with h | h
   ·exact hall i c' x' h h1 h2
   have : i = j := by omega
   subst this
   rw [hy] at h1; rw [hx] at h2
   cases h1; cases h2; exact hf
  refine za (Om rfl (Om rfl (On zab rfl ?_)))
  refine Og (vf (zz rfl rfl) (by simp; omega)) rfl ?_
  refine E4 1 2 5 19 rfl (zb rfl ?_)
  refine zN ?_
  repeat first | refine te ?_ | refine bo rfl ?_
  refine zt _ ?_
  exact ⟨⟨_, _, rfl⟩, hcx, fun i c x hi => hall i c x (by omega)⟩
 rintro F wx ⟨⟨f5, f19, rfl⟩, hcx, hall⟩
 refine Sr (Oa rfl (E1 4 rfl (zi ?_)))
 refine zD rfl rfl ?_
 refine ⟨?_, hc8.trans hcx⟩
 rw [hrow, zgw fun i c x h1 h2 => hall i c x (List.getElem?_eq_some_iff.1 h2).1 h1 h2]
theorem zhr (v vi : Value) (row : List zP) (st : List Int) (w : World) (hv : zK w v row) (hi : yU w vi st) (hr : ∀ i ∈ st, 0 ≤ i ∧ i < row.length) (hn' : st.length ≤ 1048576) :
 z9 TP 30 #[v, vi] w fun r w' => ∃ u, r = .tuple #[u, Ii 0] ∧ zaT w' u (zJ row st) ∧ (∀ b ∈ zn u, w.heap.size ≤ b) ∧ zk [] w w' := by
 obtain ⟨pi, ci, rfl, hci⟩ := ya.val hi
 obtain ⟨pv, cv, rfl, hcv'⟩ := ya.val hv
 refine A2 Tryz.func30 rfl rfl ?_
 refine Sr (Oa rfl (Oa rfl (E2 0 1 rfl (Sr (Oa rfl (E3 0 1 6 rfl ?_))))))
 refine yh (fun F wx => ∃ u f7 f11, F = [(0, .slice pv row.length cv), (1, .slice pi st.length ci), (6, u), (7, f7), (11, f11)] ∧ ym wx 40 4 zP.cs u (zJ row st) ∧ (∀ b ∈ zn u, w.heap.size ≤ b) ∧ zk [] w wx) ?_ ?_
 ·refine Sr (Oa rfl (E4 0 1 6 7 rfl (zq ?_)))
  refine zY [0, 1, 6, 7] (fun m F wx => ∃ (j : Nat) (u : Value), m = st.length - j ∧ j ≤ st.length ∧ F = [(0, .slice pv row.length cv), (1, .slice pi st.length ci), (6, u), (7, Ii j)] ∧ ym wx 40 4 zP.cs u (zJ row (st.take j)) ∧ (∀ b ∈ zn u, w.heap.size ≤ b) ∧ zk [] w wx) (m := st.length - 0) ⟨0, _, rfl, Nat.zero_le _, rfl, ym.nil _ _ _ _, by simp [zn], zk.refl _ _⟩ ?_
  rintro m F wx ⟨j, u, rfl, hj, rfl, hu, hfu, hcx⟩
  have hvx := ya.chg0 hv hcx
  refine ze (ze ?_)
  by_cases hlt : j < st.length
  ·refine za (Om rfl (Om rfl (On zaC rfl ?_)))
   refine Og (vt (zz rfl rfl) (by simp; omega)) rfl ?_
   refine E5 0 1 6 7 11 rfl (zd rfl (zm ?_))
   have hx : st[j]? = some st[j] := by simp [hlt]
   generalize st[j] = i at hx
   have hri := hr i (List.mem_of_getElem? hx)
   obtain ⟨i, rfl⟩ : ∃ k : Nat, i = (k : Int) := ⟨i.toNat, by omega⟩
   obtain ⟨bi, oi, cap, hve, hcell⟩ := yU.cell (ya.chg0 hi hcx) hx
   cases hve
   have hir : i < row.length := by omega
   have hxv : row[i]? = some row[i] := by simp [hir]
   have hat : zco row (i : Int) = row[i] := by unfold zco; rw [Int.toNat_natCast, hxv]; rfl
   generalize row[i] = x at hxv hat
   obtain ⟨bv, ov, cv', hve, hcv⟩ := ya.at zaX hvx hxv
   cases hve
   refine ze (zq (ze (Sr (Om rfl (Om rfl ?_)))))
   refine Og (zf zaC sz3 rfl rfl _ rfl hlt) rfl ?_
   refine Ol ag3 rfl hcell ?_
   refine Og (vf (zz rfl rfl) (by simp)) rfl ?_
   refine Om rfl (Oj rfl rfl (Oj rfl rfl ?_))
   refine Oy rfl rfl (zf zaC sz3 rfl rfl _ rfl hlt) ?_
   refine Oy rfl rfl (zj ag3 rfl hcell) ?_
   refine Oj rfl rfl ?_
   refine Oy rfl rfl (yd zab rfl) ?_
   refine Oy rfl rfl (vf (yt rfl rfl) (by simp; omega)) ?_
   refine Of rfl (E5 0 1 6 7 27 rfl (zb rfl (zm ?_)))
   have hl : (zJ row (st.take j)).length = j := by rw [zc0, List.length_take]; omega
   refine za (Om rfl (Om rfl (Om rfl (Om rfl ?_))))
   refine Og (zf zaC sz3 rfl rfl _ rfl hlt) rfl ?_
   refine Ol ag3 rfl hcell ?_
   refine Og (zf zab y7 rfl rfl _ rfl hir) rfl ?_
   refine Og (zg zbe y7 rfl rfl hcv) rfl ?_
   refine zC (gn rfl) (zy zha rfl (vs := [_]) rfl (css := [_]) ⟨rfl, trivial⟩ rfl rfl (cs := [_, _, _, _]) rfl rfl ?_)
   intro b36 w36 e36 n36 c36 k36
   refine zC (gn rfl) (yq zha zab rfl rfl (ym.chg0 hu c36) (zv.of_blk (n := 1) k36 rfl (by simp [maxLen]) (zP.one x)) (by rw [hl]; simp only [maxLen]; omega) (by rw [hl]; omega) rfl ?_)
   intro v37 w37 i37 c37 o37 z37
   refine Oa rfl (N4 0 1 6 7 rfl (zh (za (Om rfl ?_))))
   refine Og (zH rfl rfl (by omega)) rfl ?_
   refine Oa rfl (N4 0 1 6 7 rfl ?_)
   have hsz := hcx.size
   have hs36 := c36.size
   refine ⟨st.length - (j + 1), by omega, j + 1, v37, rfl, by omega, rfl, ?_, yw o37 hfu (by omega), ?_⟩
   ·rw [ziM hx, hat]
    exact ya.push i37 rfl rfl
   exact (hcx.trans c36).own c37 hfu
  refine za (Om rfl (Om rfl (On zaC rfl ?_)))
  refine Og (vf (zz rfl rfl) (by simp; omega)) rfl ?_
  refine E5 0 1 6 7 11 rfl (zb rfl ?_)
  refine zN ?_
  repeat first | refine te ?_ | refine bo rfl ?_
  refine zt _ ?_
  rw [List.take_of_length_le (by omega)] at hu
  exact ⟨u, _, _, rfl, hu, hfu, hcx⟩
 rintro F wx ⟨u, f7, f11, rfl, hu, hfu, hcx⟩
 refine Sr (Om rfl (Oa rfl (Oa rfl (E2 4 5 rfl (zi ?_)))))
 refine zaM rfl rfl rfl ?_
 exact ⟨u, rfl, hu, hfu, hcx⟩
theorem zhC (c k u : Value) (s : yn) (w : World) (hs : y4 w c k u s) (hr : yL s = true) (hn : ∀ c ∈ s.cols, c.n.size ≤ 1048576) : z9 TP 28 #[.agg #[c, k, u]] w fun r w' => zbM w' r (zG s) ∧ (∀ b ∈ zn r, w.heap.size ≤ b) ∧ zk [] w w' := by
 have h3 := (zV hr).2.1
 obtain ⟨pk, dk, rfl, hdk⟩ := ya.val hs.key
 obtain ⟨pu, du, rfl, hdu⟩ := yR.val hs.uq
 refine A1 Tryz.func28 rfl rfl ?_
 refine Sr ?_
 refine Ob rfl rfl ?_
 intro b1 w1 e1 n1 c1 k1
 refine Oa rfl (E1 1 rfl (ze (Sr ?_)))
 refine Og (zg zbu zbt rfl rfl (zB.of_blk0 k1)) rfl ?_
 refine Oc zlU rfl rfl rfl (zej _ _ _ s _ (hs.chg0 c1) hn) ?_
 rintro v4 w4 ⟨h4, c4⟩
 rw [hr] at h4
 subst h4
 refine Og (zU rfl) rfl (E2 1 5 rfl (zb rfl (zm ?_)))
 have k1 := k1.chg0 c4
 have hs4 := (hs.chg0 c1).chg0 c4
 obtain ⟨vu, ou, lu⟩ := id hs4.uq
 have hvu := ou.1.len_xs
 refine Sr (Od zbS rfl ?_)
 refine Ol zbW rfl (k1.cell' (i := 1) rfl) ?_
 refine zC (gn rfl) (zy znI rfl (vs := [_]) rfl (css := [_]) ⟨rfl, trivial⟩ rfl rfl (cs := [_]) rfl rfl ?_)
 intro b8 w8 e8 n8 c8 k8
 refine Od zbi rfl ?_
 refine Ol zc6 rfl ((k1.chg0 c8).cell' (i := 2) rfl) ?_
 refine zC (gn rfl) (zcH znI zaL rfl rfl (zv.of_blk (n := 1) k8 rfl (by simp [maxLen]) (by intro y hy; simp at hy; subst hy; rfl)) (Rd.chg0 ou.1 c8) (by simp only [maxLen]; omega) (by omega) rfl ?_)
 intro v11 w11 i11 c11 o11 z11
 refine Oa rfl (E1 2 rfl (zi ?_))
 refine zD rfl rfl ?_
 have hsz := c1.size
 have hsz4 := c4.size
 have hs8 := c8.size
 have hcw : zk [] w w11 := ((c1.trans c4).trans c8).own c11 (by intro y hy; simp [zn] at hy; omega)
 have hs11 := hs.chg0 hcw
 have hc411 : zk [] w4 w11 := c8.own c11 (by intro y hy; simp [zn] at hy; omega)
 have hlow : zb6 w11 3 1 ics vu s.uq := lu.chg0 hc411
 refine ⟨⟨_, ?_, (show zb6 w11 3 1 ics (.slice pk s.key.length dk :: vu) (s.key :: s.uq) from ⟨hs11.key, hlow⟩)⟩, ?_, hcw⟩
 ·have e : (zG s).length = 1 + s.uq.length := by simp [zG]; omega
  rw [e]; exact i11.toOu
 rcases o11 with o11 | ⟨b, o11, hb⟩
 ·rw [o11]; intro x hx; simp [zn] at hx; omega
 rw [o11]; intro x hx; simp at hx; omega
section
variable {P : Program} {n : Nat} {F : Fr} {w : World} {dst : Option Nat} {ty : TypeId} {pos : String} {af : Array Edge} {gd : Option (Nat × Bool)}
theorem zrj {x y : Operand} {t u : TypeId} {i : Nat} (j : Nat) (hx : ev F x = some (.int .u64 i)) (hy : ev F y = some (.int .u64 j)) (hi : i < 18446744073709551616) (hj : 1 ≤ j) : Vl P n F ⟨dst, .binOp .quo t x y u, ty, pos, af, gd⟩ w (.int .u64 ((i / j : Nat) : Int)) w := by
 intro a ha
 have h0 : (j : Int) ≠ 0 := by omega
 have h1 : (i : Int).tdiv j = ((i / j : Nat) : Int) := by rw [Int.tdiv_eq_ediv_of_nonneg (by omega)]; simp
 have h3 : i / j ≤ i := Nat.div_le_self _ _
 have h4 : IntKind.u64.wrap ((i : Int).tdiv j) = ((i / j : Nat) : Int) := by
  rw [h1]
  generalize i / j = q at h3
  exact IntWalk.u64_in _ ⟨by omega, by omega⟩
 simp only [execOp, ha.eval hx, ha.eval hy, eqGuard, binOp, Op.intDiv, if_neg h0, h4]
 rfl
theorem zq7 {x y : Operand} {t u : TypeId} {i : Nat} (j : Nat) (hx : ev F x = some (.int .u64 i)) (hy : ev F y = some (.int .u64 j)) (hi : i < 18446744073709551616) (hj : 1 ≤ j) : Vl P n F ⟨dst, .binOp .rem t x y u, ty, pos, af, gd⟩ w (.int .u64 ((i % j : Nat) : Int)) w := by
 intro a ha
 have h0 : (j : Int) ≠ 0 := by omega
 have h1 : (i : Int).tmod j = ((i % j : Nat) : Int) := by rw [Int.tmod_eq_emod_of_nonneg (by omega)]; simp
 simp only [execOp, ha.eval hx, ha.eval hy, eqGuard, binOp, Op.intDiv, if_neg h0, h1]
 rfl
end
theorem zn7 {n : Nat} (hn : n < 18446744073709551616) (h0 : 0 < n) : yD n = yD (n / 256) + 1 := by
 have hd : n / 256 < 18446744073709551616 := Nat.lt_of_le_of_lt (Nat.div_le_self _ _) hn
 have key : ∀ k, yD n ≤ k + 1 ↔ yD (n / 256) ≤ k := fun k => by
  rw [zds hn, zds hd, Nat.pow_succ, Nat.div_lt_iff_lt_mul (by omega)]
 have h1 : 1 ≤ yD n := by
  rcases Nat.eq_zero_or_pos (yD n) with h | h
  ·have := (zds hn (k := 0)).1 (by omega)
   simp at this; omega
  exact h
 have a := (key (yD (n / 256))).2 (Nat.le_refl _)
 have b := (key (yD n - 1)).1 (by omega)
 omega
theorem znb (n : Nat) : ∀ k, be n (k + 1) = be (n / 256) k ++ [UInt8.ofNat (n % 256)]
 | 0 => by simp [be]
 | k + 1 => by
  rw [be, znb n k, be, List.cons_append, Nat.div_div_eq_div_mul, Nat.pow_succ, Nat.mul_comm]
theorem zs5 : ∀ (n : Nat) (w : World), n < 18446744073709551616 → z9 TP 181 #[.int .u64 n] w fun r w' => zv w' 5 1 r (be n (yD n)).length (bv (be n (yD n))) ∧ (∀ b ∈ zn r, w.heap.size ≤ b) ∧ zk [] w w' := by
 intro n
 induction n using Nat.strongRecOn with
 | ind n ih =>
 intro w hn
 refine A1 Tryz.func181 rfl rfl ?_
 refine Sr (Oa rfl (E1 0 rfl (ze (ze ?_))))
 by_cases h0 : n = 0
 ·subst h0
  refine za (Om rfl ?_)
  refine Og (vt (zw rfl rfl) (decide_eq_true (by omega))) rfl ?_
  refine E2 0 4 rfl (zd rfl (Sr (Oa rfl (E1 2 rfl (zi ?_)))))
  repeat first | refine tr ?_ | refine br ?_
  refine zD rfl rfl ?_
  exact ⟨zv.nil _ _ _, by simp [zn], zk.refl _ _⟩
 refine za (Om rfl ?_)
 refine Og (vf (zw rfl rfl) (by simp; omega)) rfl ?_
 refine E2 0 4 rfl (zb rfl (zm ?_))
 have hst := zn7 hn (by omega)
 have h8 := zbk n
 have hbl := zaZ (n / 256) (yD (n / 256))
 refine Sr (Om rfl ?_)
 refine Og (zrj 256 rfl rfl hn (by omega)) rfl ?_
 refine Oc zsj rfl rfl rfl (ih (n / 256) (by omega) _ (by omega)) ?_
 rintro v7 w7 ⟨i7, f7, c7⟩
 refine Om rfl ?_
 refine Og (zq7 256 rfl rfl hn (by omega)) rfl ?_
 refine Og (yo zas zbs rfl (show IntKind.u8.wrap ((n % 256 : Nat) : Int) = (((UInt8.ofNat (n % 256)).toNat : Nat) : Int) by rw [zcT]; simp)) rfl ?_
 refine zC (gn rfl) (zy zaA rfl (vs := [_]) rfl (css := [_]) ⟨rfl, trivial⟩ rfl rfl (cs := [_]) rfl rfl ?_)
 intro b11 w11 e11 n11 c11 k11
 refine zC (gn rfl) (yq zaA yV rfl rfl (zv.chg0 i7 c11) (zv.of_blk (n := 1) (c := bv [UInt8.ofNat (n % 256)]) k11 rfl (by simp [maxLen]) (zcd _)) (by simp only [maxLen]; omega) (by omega) rfl ?_)
 intro v12 w12 i12 c12 o12 z12
 refine Oa rfl (E1 2 rfl (zi ?_))
 refine zD rfl rfl ?_
 have hs7 := c7.size
 refine ⟨?_, yw o12 f7 (by have := c11.size; omega), ((c7.trans c11).own c12 f7)⟩
 have e : be n (yD n) = be (n / 256) (yD (n / 256)) ++ [UInt8.ofNat (n % 256)] := by rw [hst, znb]
 rw [e, List.length_append, yH]
 exact i12
theorem zpe (n : Nat) (w : World) (hn : n < 18446744073709551616) : z9 TP 136 #[.int .u64 n] w fun r w' => zv w' 5 1 r (zca n).length (bv (zca n)) ∧ (∀ b ∈ zn r, w.heap.size ≤ b) ∧ zk [] w w' := by
 have h8 := zbk n
 have hbl := zaZ n (yD n)
 refine A1 Tryz.func136 rfl rfl ?_
 refine Sr (Oa rfl (E1 0 rfl (Sr (Om rfl ?_))))
 refine Oc zsj rfl rfl rfl (zs5 n _ hn) ?_
 rintro v5 w5 ⟨i5, f5, c5⟩
 obtain ⟨p5, q5, rfl, -⟩ := id (zv.val i5)
 refine Oa rfl (E1 3 rfl (Sr (Om rfl (On yV rfl ?_))))
 refine Og (yo zas zaj rfl (show IntKind.u8.wrap (((be n (yD n)).length : Nat) : Int) = (((UInt8.ofNat (yD n)).toNat : Nat) : Int) by rw [hbl, zcT]; simp)) rfl ?_
 refine zC (gn rfl) (zy zaA rfl (vs := [_]) rfl (css := [_]) ⟨rfl, trivial⟩ rfl rfl (cs := [_]) rfl rfl ?_)
 intro b9 w9 e9 n9 c9 k9
 refine Om rfl ?_
 refine zC (gn rfl) (yq zaA yV rfl rfl (zv.of_blk (n := 1) (c := bv [UInt8.ofNat (yD n)]) k9 rfl (by simp [maxLen]) (zcd _)) (zv.chg0 i5 c9) (by simp only [maxLen]; omega) (by omega) rfl ?_)
 intro v11 w11 i11 c11 o11 z11
 refine Oa rfl (E1 2 rfl (zi ?_))
 refine zD rfl rfl ?_
 have hs5 := c5.size
 have f9 : ∀ x ∈ zn (.slice (some ⟨b9, 0, none⟩) 1 1), w.heap.size ≤ x := by intro x hx; simp [zn] at hx; omega
 refine ⟨?_, yw o11 f9 (by have := c9.size; omega), (c5.trans c9).own c11 f9⟩
 have e : zca n = [UInt8.ofNat (yD n)] ++ be n (yD n) := rfl
 rw [e, List.length_append, yH]
 exact i11
section
variable {P : Program} {w : World} {t t2 ty e : TypeId} {k by' : Nat} {z : Value}
theorem zlo (A : App P t e k by' z) (hit : zcZ P t2 .i64 = true) {v : Value} {n m : Nat} {xs : List Value} (hv : zv w e k v n xs) (h63 : n + m ≤ maxLen) (hbytes : (n + m) * by' ≤ 140737488355328) :
 ∃ v' w', (Builtin.append_ #[t, t2] ty #[v, Ii (m : Int)]).run P w = .ok v' w' ∧ zv w' e k v' (n + m) (xs ++ (Builtin.zeroCells z.cells m).toList) ∧ zk (zn v) w w' ∧ (zn v' = zn v ∨ ∃ b, zn v' = [b] ∧ w.heap.size ≤ b) := by
 obtain ⟨i, hi, hk, hb, hz⟩ := A.info
 have hund := yE A.sl
 have hund2 : P.underlying t2 = some (.int .i64) := by unfold zcZ at hit; split at hit <;> simp_all
 have hlx := hv.len_xs
 have hm63 : n + m ≤ 9223372036854775807 := by simp only [maxLen] at h63; omega
 have hwr : IntKind.i64.wrap (m : Int) = m := IntWalk.i64_in _ ⟨by omega, by omega⟩
 have hneg : ¬ ((m : Int) < 0) := by omega
 have hbm : m * by' ≤ 140737488355328 := Nat.le_trans (Nat.mul_le_mul_right _ (by omega)) hbytes
 have hbig : ¬ (281474976710656 < (m : Int) * (i.bytes : Int)) := by
  rw [hb]
  have : ((m * by' : Nat) : Int) ≤ 140737488355328 := Int.ofNat_le.2 hbm
  rw [Int.natCast_mul] at this
  omega
 generalize hys : (Builtin.zeroCells z.cells m).toList = ys
 have hysa : Builtin.zeroCells z.cells m = ys.toArray := by rw [← hys]
 have hly : ys.length = m * k := by rw [← hys, Array.length_toList, size_zeroCells, A.zs]
 have hone : ∀ u ∈ ys, u.oneCell' = true := by rw [← hys]; exact zaQ z _ A.zo
 have hzero : ∀ w1 : World, (zeroValue e).run P w1 = .ok z w1 := fun w1 => zbm A.zr
 have hpos : 0 < k := A.pos
 have grown : ∀ old, n + m > old → ∀ S, zv (w.drew.alloc (.cells (xs.toArray ++ ys.toArray ++ Builtin.zeroCells z.cells (grownCap w (n + m) old e - (n + m))) e)) e k
  (.slice (some ⟨w.heap.size, 0, none⟩) (n + m) (grownCap w (n + m) old e)) (n + m) (xs ++ ys) ∧
  zk S w (w.drew.alloc (.cells (xs.toArray ++ ys.toArray ++ Builtin.zeroCells z.cells (grownCap w (n + m) old e - (n + m))) e)) := by
  intro old _ S
  have hge := grownCap_ge w (n + m) old e
  have hcm := grownCap_le_maxLen w (n + m) old e h63
  refine ⟨.inr ⟨w.heap.size, 0, _, xs ++ ys ++ (Builtin.zeroCells z.cells (grownCap w (n + m) old e - (n + m))).toList, rfl, ?_, hge, hcm, ?_, ?_, ?_⟩, (zk.drew S w).transS (zk.alloc S _ _)⟩
  ·show (w.drew.heap.push _)[w.heap.size]? = _
   rw [show w.heap.size = w.drew.heap.size from rfl, Array.getElem?_push_size]
   simp
  ·simp only [List.length_append, hlx, hly, Array.length_toList, size_zeroCells, A.zs, ← Nat.add_mul, Nat.zero_add]
   rw [Nat.add_sub_cancel' hge]
   exact Nat.le_refl _
  ·rw [List.drop_zero, List.take_left' (by simp [hlx, hly, Nat.add_mul])]
  intro u hu
  simp only [List.mem_append] at hu
  rcases hu with (hu | hu) | hu
  ·exact hv.one_xs u hu
  ·exact hone u hu
  exact zaQ z _ A.zo u hu
 rcases hv with ⟨rfl, rfl, rfl⟩ | ⟨g, off, cap, c, rfl, hv⟩
 ·by_cases hm : m = 0
  ·subst hm
   have hy : ys = [] := List.eq_nil_of_length_eq_zero (by simpa using hly)
   subst hy
   refine ⟨.slice none 0 0, w, ?_, zv.nil _ _ _, zk.refl _ _, .inl rfl⟩
   simp [Builtin.append_, run_underlying hund, run_underlying hund2, zW A.sz, asInt, asIntOf, typeInfo, hi, show IntKind.i64.wrap 0 = 0 from rfl]
  have h0 : ¬ (0 + m ≤ 0) := by omega
  have h63' : ¬ (9223372036854775807 < (m : Int)) := by omega
  have hm0 : ¬ (m * k = 0) := by
   have : 1 * 1 ≤ m * k := Nat.mul_le_mul (by omega) hpos
   omega
  have h48' : ¬ (281474976710656 < Builtin.nextslicecap m 0 * i.bytes) := by
   have := growslice_fits (need := m) (old := 0) (bytes := by') (by omega) (by simpa using hbytes)
   rw [hb]; omega
  have hgr := grown 0 (by omega) []
  refine ⟨_, _, ?_, hgr.1, hgr.2, .inr ⟨w.heap.size, rfl, Nat.le_refl _⟩⟩
  simp [Builtin.append_, run_underlying hund, run_underlying hund2, zW A.sz, asInt, asIntOf, hwr, hneg, hbig, typeInfo, hi, hm, hm0, hpos, Nat.pos_iff_ne_zero.1 hpos, h63', h48', Question.forced, run_firstCells_none, hzero, newRow, grownCap, hysa]
 by_cases hroom : n + m ≤ cap
 ·have hfit := hv.fit
  have hcap : (n + m) * k ≤ cap * k := Nat.mul_le_mul_right _ hroom
  have hfit2 : off + n * k + ys.length ≤ c.length := by rw [hly]; rw [Nat.add_mul] at hcap; omega
  have hst := zbH (P := P) (off := off + n * k) (vs := ys) hv.blk hfit2 hone
  refine ⟨.slice (some ⟨g, off, none⟩) (n + m) cap, w.setRow g (yW c (off + n * k) ys).toArray, ?_, .inr ⟨g, off, cap, yW c (off + n * k) ys, rfl, hv.blk.row _, hroom, hv.max, ?_, ?_, ?_⟩, (zk.row _ _ _), .inl rfl⟩
  ·by_cases hm : m * k = 0
   ·have hy : ys = [] := List.eq_nil_of_length_eq_zero (by omega)
    subst hy
    simp [Builtin.append_, run_underlying hund, run_underlying hund2, zW A.sz, asInt, asIntOf, hwr, hneg, hbig, typeInfo, hi, hroom, hm, Addr.add_lit, hst]
   simp [Builtin.append_, run_underlying hund, run_underlying hund2, zW A.sz, asInt, asIntOf, hwr, hneg, hbig, typeInfo, hi, hroom, hm, Addr.add_lit, hst, hzero, hysa]
  ·simp only [yW, List.length_append, List.length_take, List.length_drop]
   omega
  ·have e1 : (yW c (off + n * k) ys).drop off = xs ++ ys ++ c.drop (off + n * k + ys.length) := by
    unfold yW
    rw [List.append_assoc, List.drop_append_of_le_length (by rw [List.length_take]; omega), List.drop_take, ← List.append_assoc]
    rw [show off + n * k - off = n * k by omega, ← hv.xs]
   rw [e1, List.take_left' (by simp [hlx, hly, Nat.add_mul])]
  intro u hu
  simp only [yW, List.mem_append] at hu
  rcases hu with (hu | hu) | hu
  ·exact hv.one u (List.mem_of_mem_take hu)
  ·exact hone u hu
  exact hv.one u (List.mem_of_mem_drop hu)
 have h0 : ¬ (n + m ≤ cap) := hroom
 have h63' : ¬ (9223372036854775807 < ((n : Int) + (m : Int))) := by omega
 have hm : m ≠ 0 := by
  have := hv.le
  omega
 have hm0 : ¬ (m * k = 0) := by
  have : 1 * 1 ≤ m * k := Nat.mul_le_mul (by omega) hpos
  omega
 have h48' : ¬ (281474976710656 < Builtin.nextslicecap (n + m) cap * i.bytes) := by
  have := growslice_fits (need := n + m) (old := cap) (bytes := by') (by omega) hbytes
  rw [hb]; omega
 have hgr := grown cap (by omega) (zn (.slice (some ⟨g, off, none⟩) n cap))
 refine ⟨_, _, ?_, hgr.1, hgr.2, .inr ⟨w.heap.size, rfl, Nat.le_refl _⟩⟩
 have hfo : (Builtin.firstCells k n (.slice (some ⟨g, off, none⟩) n cap)).run P w.drew = .ok xs.toArray w.drew :=
  zcM (w := w.drew) (e := e) (.inr ⟨g, off, cap, c, rfl, ⟨hv.blk, hv.le, hv.max, hv.fit, hv.xs, hv.one⟩⟩)
 simp [Builtin.append_, run_underlying hund, run_underlying hund2, zW A.sz, asInt, asIntOf, hwr, hneg, hbig, typeInfo, hi, h0, hm, hm0, Nat.pos_iff_ne_zero.1 hpos, h63', h48', Question.forced, hfo, hzero, newRow, grownCap, hysa]
 rw [show (xs ++ ys).toArray = xs.toArray ++ ys.toArray from by simp, Array.append_assoc]
variable {n : Nat} {F : Fr} {d : Tmp} {pos : String} {af : Array Edge} {gd : Option (Nat × Bool)} {K : Fr → World → Prop}
theorem zlJ (A : App P t e k by' z) (hit : zcZ P t2 .i64 = true) {x y : Operand} {v : Value} {l m : Nat} {j : Int} {xs : List Value} (hx : ev F x = some v) (hy : ev F y = some (Ii j)) (hj : j = (m : Int)) (hv : zv w e k v l xs)
 (h63 : l + m ≤ maxLen) (hbytes : (l + m) * by' ≤ 140737488355328) (hn : Nat.blt d n = true)
 (h : ∀ v' w', zv w' e k v' (l + m) (xs ++ (Builtin.zeroCells z.cells m).toList) → zk (zn v) w w' → (zn v' = zn v ∨ ∃ b, zn v' = [b] ∧ w.heap.size ≤ b) → K ((d, v') :: F) w') :
 St P n F ⟨some d, .call { callee := .builtin .append, args := #[x, y], argTypes := #[t, t2] }, ty, pos, af, gd⟩ w K := by
 subst hj
 obtain ⟨v', w', hr, h1, h2, h3⟩ := zlo (ty := ty) (m := m) A hit hv h63 hbytes
 refine St.vl (v := v') (w' := w') ?_ rfl hn (h v' w' h1 h2 h3)
 intro a ha
 simp [execOp, resolve, invoke, builtin, ha.eval hx, ha.eval hy, hr]
end
theorem zsH (m : Nat) : (Builtin.zeroCells (Value.int .u8 0).cells m).toList = bv (List.replicate m 0) := by
 have hc : (Value.int .u8 0).cells = #[.int .u8 0] := rfl
 rw [hc]
 simp [Builtin.zeroCells, bv, Nat.mod_one, List.map_const']
theorem zwA (x : zP) (w : World) (hx : za4 x = 0) (hg : x.Rng) : z9 TP 96 #[x.v] w fun r w' => zv w' 5 1 r (zdI x).length (bv (zdI x)) ∧ (∀ b ∈ zn r, w.heap.size ≤ b) ∧ zk [] w w' := by
 obtain ⟨hk, -, hk3⟩ := zbD (zdy hx).1
 have hb200 := (zdy hx).2
 have hi := hg.i
 refine A1 Tryz.func96 rfl rfl ?_
 refine Sr ?_
 refine Ob rfl rfl ?_
 intro b1 w1 e1 n1 c1 k1
 refine Oa rfl (E1 1 rfl (Sr (Od zal rfl ?_)))
 refine Ol zb9 rfl (k1.cell' rfl) ?_
 refine Og (yo zas zaj rfl (show IntKind.u8.wrap x.k = (((UInt8.ofNat x.k.toNat).toNat : Nat) : Int) by rw [show x.k = ((x.k.toNat : Nat) : Int) by omega, zcT]; simp)) rfl ?_
 refine zC (gn rfl) (zy zaA rfl (vs := [_]) rfl (css := [_]) ⟨rfl, trivial⟩ rfl rfl (cs := [_]) rfl rfl ?_)
 intro b11 w11 e11 n11 c11 k11
 refine Oa rfl (E2 1 3 rfl ?_)
 have i11 : zv w11 5 1 (.slice (some ⟨b11, 0, none⟩) 1 1) 1 (bv [UInt8.ofNat x.k.toNat]) := zv.of_blk (n := 1) k11 rfl (by simp [maxLen]) (zcd _)
 have k1 : zS w11 b1 40 x.cs := k1.chg0 c11
 have hc11 := c1.trans c11
 have f11 : ∀ x ∈ zn (.slice (some ⟨b11, 0, none⟩) 1 1), w.heap.size ≤ x := by intro x hx; simp [zn] at hx; have := c1.size; omega
 have hb1 : b1 ∉ zn (.slice (some ⟨b11, 0, none⟩) 1 1) := fun hm => zv.apart i11 k1 rfl b1 hm (by simp)
 have hbw : w.heap.size ≤ b1 := by omega
 have hke : zdI x = [UInt8.ofNat x.k.toNat] ++ zfu x := rfl
 rw [hke]
 generalize hA : UInt8.ofNat x.k.toNat = a at *
 refine ze (Sr (Od zal rfl ?_))
 refine Ol zb9 rfl (k1.cell' rfl) ?_
 refine E3 1 3 13 rfl (zq (ze ?_))
 by_cases h1 : x.k = 1
 ·have hT : zfu x = be (x.i + 9223372036854775808).toNat 8 := by simp [zfu, h1]
  rw [hT]
  have hn : (x.i + 9223372036854775808).toNat < 18446744073709551616 := by omega
  refine za ?_
  refine Og (vt (zw rfl rfl) (by simp [h1])) rfl ?_
  refine Oa rfl (E4 1 3 13 14 rfl (zd rfl (Sr (Od y6 rfl ?_))))
  refine Ol ag2 rfl (k1.cell' (i := 1) rfl) ?_
  refine Og (yo zbs zdL rfl (show IntKind.u64.wrap x.i = (((x.i % 18446744073709551616).toNat : Nat) : Int) by rw [zch]; omega)) rfl ?_
  refine Og (zj5 (b := 9223372036854775808) rfl rfl (by omega) (by decide)) rfl ?_
  refine Oa rfl (E2 3 4 rfl ?_)
  rw [zlg hi]
  generalize (x.i + 9223372036854775808).toNat = N at *
  refine Sr (Oa rfl (E3 3 4 5 rfl (zq ?_)))
  refine zY [3, 4, 5] (fun m F wx => m ≤ 8 ∧ ∃ u : Value, F = [(3, u), (4, .int .u64 N), (5, Ii ((m : Int) - 1))] ∧ ∃ ys, zv wx 5 1 u (1 + (8 - m)) (bv ([a] ++ ys)) ∧ ys ++ be N m = be N 8 ∧ (∀ b ∈ zn u, w.heap.size ≤ b) ∧ zk [] w wx) (m := 8) ⟨Nat.le_refl _, _, rfl, [], by simpa using i11, rfl, f11, hc11⟩ ?_
  rintro m F wx ⟨hm, u, rfl, ys, hu, hys, hfu, hc⟩
  refine ze (Sr (Om rfl ?_))
  refine Og (yt rfl rfl) rfl ?_
  refine E4 3 4 5 21 rfl ?_
  refine zT rfl (fun hT => ?_) (fun hF => ?_)
  ·refine zm ?_
   have hm1 : 1 ≤ m := by have := of_decide_eq_true hT; omega
   obtain ⟨i, rfl⟩ := Nat.exists_eq_add_of_le hm1
   rw [show (((1 + i : Nat) : Int) - 1) = (i : Int) by omega]
   have p8 : (N : Int).fdiv (2 ^ (8 * i)) = ((N / 256 ^ i : Nat) : Int) := by rw [ziR, Nat.pow_mul]
   refine ze (zq (za (Om rfl (Om rfl (Om rfl ?_)))))
   refine Og (zcJ rfl rfl (by omega)) rfl ?_
   refine Og (yo zcL zaj rfl (show IntKind.u64.wrap (8 * (i : Int)) = ((8 * i : Nat) : Int) from IntWalk.u64_in _ ⟨by omega, by omega⟩)) rfl ?_
   refine Og (zbA (8 * i) rfl rfl (by omega) (show 8 * i ≤ 64 by omega) p8) rfl ?_
   refine Og (yo zas zbs rfl (show IntKind.u8.wrap ((N / 256 ^ i : Nat) : Int) = (((UInt8.ofNat (N / 256 ^ i % 256)).toNat : Nat) : Int) by rw [zcT]; simp)) rfl ?_
   refine zC (gn rfl) (zy zaA rfl (vs := [_]) rfl (css := [_]) ⟨rfl, trivial⟩ rfl rfl (cs := [_]) rfl rfl ?_)
   intro b31 w31 e31 n31 c31 k31
   refine zC (gn rfl) (yq zaA yV rfl rfl (zv.chg0 hu c31) (zv.of_blk (n := 1) k31 rfl (by simp [maxLen]) (by simp [Value.oneCell'])) (by simp only [maxLen]; omega) (by omega) rfl ?_)
   intro v32 w32 i32 c32 o32 z32
   refine Oa rfl (N3 3 4 5 rfl (zh (za (Om rfl ?_))))
   refine Og (yJ rfl rfl (by omega)) rfl ?_
   refine Oa rfl (N3 3 4 5 rfl ?_)
   refine ⟨i, by omega, by omega, v32, rfl, ys ++ [UInt8.ofNat (N / 256 ^ i % 256)], ?_, ?_, yw o32 hfu (by have := hc.size; have := c31.size; omega), (hc.trans c31).own c32 hfu⟩
   ·rw [← List.append_assoc, yH]
    have e : 1 + (8 - i) = 1 + (8 - (1 + i)) + 1 := by omega
    rw [e]
    exact i32
   rw [Nat.add_comm 1 i] at hys
   rw [← hys]
   simp [be]
  have hm0 : m = 0 := by have := of_decide_eq_false hF; omega
  subst hm0
  refine zN ?_
  repeat first | refine te ?_ | refine bo rfl ?_
  refine zt _ ?_
  refine zh (Sr (Om rfl (Oa rfl (E1 2 rfl (zi ?_)))))
  refine zD rfl rfl ?_
  have : ys = be N 8 := by simpa [be] using hys
  subst this
  refine ⟨?_, hfu, hc⟩
  rw [List.length_append, zaZ]
  exact hu
 refine za ?_
 refine Og (vf (zw rfl rfl) (by simp [h1])) rfl ?_
 refine Oa rfl (E4 1 3 13 14 rfl (zb rfl (ze ?_)))
 by_cases h2 : x.k = 2
 ·have hT : zfu x = zca x.u := by simp [zfu, h2]
  rw [hT]
  refine za ?_
  refine Og (vt (zw rfl rfl) (by simp [h2])) rfl ?_
  refine Oa rfl (E4 1 3 13 33 rfl (zd rfl ?_))
  have hnb := zbk x.u
  have hnl := zcX x.u
  refine za (Om rfl (Od zaO rfl ?_))
  refine Ol zcY rfl (k1.cell' (i := 2) rfl) ?_
  refine Oc zwf rfl rfl rfl (zpe x.u _ hg.u) ?_
  rintro v38 w38 ⟨i38, f38, c38⟩
  refine zC (gn rfl) (yq zaA yV rfl rfl (zv.chg0 i11 c38) i38 (by simp only [maxLen]; omega) (by omega) rfl ?_)
  intro v39 w39 i39 c39 o39 z39
  refine Oa rfl ?_
  refine zaw [3] (F' := [(3, _)]) rfl ?_
  refine zh (Sr (Om rfl (Oa rfl (E1 2 rfl (zi ?_)))))
  refine zD rfl rfl ?_
  refine ⟨?_, yw o39 f11 (by have := hc11.size; have := c38.size; omega), (hc11.trans c38).own c39 f11⟩
  rw [List.length_append, yH]
  exact i39
 refine za ?_
 refine Og (vf (zw rfl rfl) (by simp [h2])) rfl ?_
 refine Oa rfl (E4 1 3 13 33 rfl (zb rfl (ze ?_)))
 by_cases h3 : x.k = 3
 ·have hT : zfu x = [UInt8.ofNat x.i.toNat] := by simp [zfu, h3]
  rw [hT]
  refine za ?_
  refine Og (vt (zw rfl rfl) (by simp [h3])) rfl ?_
  refine Oa rfl (E4 1 3 13 40 rfl (zd rfl (za (Om rfl (Od y6 rfl ?_)))))
  refine Ol ag2 rfl (k1.cell' (i := 1) rfl) ?_
  refine Og (yo zas zdL rfl (show IntKind.u8.wrap x.i = (((UInt8.ofNat x.i.toNat).toNat : Nat) : Int) by rcases hk3 h3 with h | h <;> rw [h] <;> rfl)) rfl ?_
  refine zC (gn rfl) (zy zaA rfl (vs := [_]) rfl (css := [_]) ⟨rfl, trivial⟩ rfl rfl (cs := [_]) rfl rfl ?_)
  intro b46 w46 e46 n46 c46 k46
  refine zC (gn rfl) (yq zaA yV rfl rfl (zv.chg0 i11 c46) (zv.of_blk (n := 1) (c := bv [UInt8.ofNat x.i.toNat]) k46 rfl (by simp [maxLen]) (zcd _)) (by simp only [maxLen]; omega) (by omega) rfl ?_)
  intro v47 w47 i47 c47 o47 z47
  refine Oa rfl ?_
  refine zaw [3] (F' := [(3, _)]) rfl ?_
  refine zh (Sr (Om rfl (Oa rfl (E1 2 rfl (zi ?_)))))
  refine zD rfl rfl ?_
  refine ⟨?_, yw o47 f11 (by have := hc11.size; have := c46.size; omega), (hc11.trans c46).own c47 f11⟩
  rw [List.length_append, yH]
  exact i47
 refine za ?_
 refine Og (vf (zw rfl rfl) (by simp [h3])) rfl ?_
 refine Oa rfl (E4 1 3 13 40 rfl (zb rfl (ze ?_)))
 by_cases h4 : x.k = 4
 ·have hT : zfu x = zc7 x.b.data.toList := by simp [zfu, h4]
  rw [hT]
  refine za ?_
  refine Og (vt (zw rfl rfl) (by simp [h4])) rfl ?_
  refine Oa rfl (E3 1 3 48 rfl (zd rfl (Sr (Oa rfl (E3 1 3 6 rfl (zq ?_))))))
  have hsl : x.b.data.toList.length = x.b.size := by simp
  generalize hl : x.b.data.toList = l at *
  refine zY [1, 3, 6] (fun m F wx => ∃ j : Nat, m = 201 - j ∧ 8 * j ≤ x.b.size ∧ (0 < j → 8 * j < x.b.size) ∧ ∃ u : Value, F = [(1, Pt b1), (3, u), (6, Ii ((8 * j : Nat) : Int))] ∧ ∃ ys, zv wx 5 1 u ys.length (bv ys) ∧ ys ++ zc7 (l.drop (8 * j)) = [a] ++ zc7 l ∧ ys.length = 1 + 9 * j ∧ (∀ b ∈ zn u, w.heap.size ≤ b) ∧ b1 ∉ zn u ∧ zS wx b1 40 x.cs ∧ zk [] w wx) (m := 201) ⟨0, rfl, by omega, by omega, _, rfl, [a], i11, by simp, rfl, f11, hb1, k1, hc11⟩ ?_
  rintro m F wx ⟨j, rfl, hj, hj0, u, rfl, ys, hu, hys, hyl, hfu, hb1u, k1x, hc⟩
  refine ze (zq (ze ?_))
  have hbl : l.length = x.b.size := hsl
  generalize hr : l.drop (8 * j) = r at *
  have hrl : r.length = x.b.size - 8 * j := by rw [← hr, List.length_drop, hbl]
  generalize hc8 : r.take 8 = c at *
  have hcl : c.length = min 8 (x.b.size - 8 * j) := by rw [← hc8, List.length_take, hrl]
  have hcut : (x.b.extract (8 * j) (8 * j + c.length)).data.toList = c := by
   have e1 : (x.b.data.extract (8 * j) (8 * j + c.length)).toList = (l.drop (8 * j)).take c.length := by rw [← hl]; simp [List.extract_eq_take_drop]
   rw [ByteArray.data_extract, e1, hr, hcl, ← hrl, ← hc8, List.take_eq_take_iff]
   simp
  have hcs : (x.b.extract (8 * j) (8 * j + c.length)).size = c.length := by
   have e : (x.b.extract (8 * j) (8 * j + c.length)).data.toList.length = c.length := congrArg List.length hcut
   have h : ∀ b : ByteArray, b.size = b.data.toList.length := fun b => by simp
   exact (h _).trans e
  refine za (Od zaF rfl ?_)
  refine Ol ag9 rfl (k1x.cell' (i := 3) rfl) ?_
  refine Og (yQ st9 rfl) rfl ?_
  refine Om rfl ?_
  refine Og (yJ rfl rfl (by omega)) rfl ?_
  refine Og (zoO rfl rfl) rfl ?_
  refine Oa rfl (E4 1 3 6 7 rfl ?_)
  rw [show (if (x.b.size : Int) - ((8 * j : Nat) : Int) < 8 then (x.b.size : Int) - ((8 * j : Nat) : Int) else 8) = ((c.length : Nat) : Int) by split <;> omega]
  refine Sr (Om rfl (Od zaF rfl ?_))
  refine Ol ag9 rfl (k1x.cell' (i := 3) rfl) ?_
  refine Om rfl (Om rfl (Om rfl ?_))
  refine Og (yG (v' := Ii ((8 * j + c.length : Nat) : Int)) (zH rfl rfl (by omega)) (by congr 1)) rfl ?_
  refine Og (zqQ st9 rfl rfl rfl _ _ rfl rfl (by omega) (by omega)) rfl ?_
  refine zC (gn rfl) (zhs zaA st9 rfl rfl hu (by rw [hcs]; simp only [maxLen]; omega) (by rw [hcs]; omega) rfl ?_)
  intro v66 w66 i66 c66 o66 z66
  refine Om rfl ?_
  refine Og (yG (v' := Ii ((8 - c.length : Nat) : Int)) (yJ rfl rfl (by omega)) (by congr 1 <;> omega)) rfl ?_
  refine zC (gn rfl) (zlJ zaA zaj rfl rfl rfl i66 (by rw [hcs]; simp only [maxLen]; omega) (by rw [hcs]; omega) rfl ?_)
  intro v69 w69 i69 c69 o69
  refine Oa rfl (E4 1 3 6 7 rfl ?_)
  rw [zsH, hcs, hcut, ← yH, ← yH, List.append_assoc] at i69
  have hb166 : b1 ∉ zn v66 := by
   rcases o66 with h | ⟨b', h, hb'⟩ <;> rw [h]
   ·exact hb1u
   have := k1x.lt; simp; omega
  have k66 := k1x.chg c66 hb1u
  have k69 := k66.chg c69 hb166
  have hb169 : b1 ∉ zn v69 := by
   rcases o69 with h | ⟨b', h, hb'⟩ <;> rw [h]
   ·exact hb166
   have := k66.lt; simp; omega
  have hs := hc.size
  have hs66 := c66.size
  have hs69 := c69.size
  have f66 := yw o66 hfu (by omega)
  have f69 := yw o69 f66 (by omega)
  have hc69 := (hc.own c66 hfu).own c69 f66
  have e69 : ys.length + c.length + (8 - c.length) = ys.length + 8 := by omega
  rw [e69] at i69
  refine ze (ze ?_)
  by_cases hlt : 8 * j + c.length < x.b.size
  ·have hc8' : c.length = 8 := by omega
   refine za (Om rfl (Om rfl ?_))
   refine Og (yG (v' := Ii ((8 * j + c.length : Nat) : Int)) (zH rfl rfl (by omega)) (by congr 1)) rfl ?_
   refine Od zaF rfl ?_
   refine Ol ag9 rfl (k69.cell' (i := 3) rfl) ?_
   refine Og (yQ st9 rfl) rfl ?_
   refine Og (vt (zz rfl rfl) (by simp; omega)) rfl ?_
   refine E5 1 3 6 7 76 rfl (zd rfl (Sr (Om rfl ?_)))
   refine zC (gn rfl) (zy zaA rfl (vs := [_]) rfl (css := [_]) ⟨rfl, trivial⟩ rfl rfl (cs := [_]) rfl rfl ?_)
   intro b78 w78 e78 n78 c78 k78
   refine zC (gn rfl) (yq zaA yV rfl rfl (zv.chg0 i69 c78) (zv.of_blk (n := 1) (c := bv [9]) k78 rfl (by simp [maxLen]) (zcd _)) (by simp only [maxLen]; omega) (by omega) rfl ?_)
   intro v79 w79 i79 c79 o79 z79
   refine Oa rfl (E3 1 3 6 rfl ?_)
   refine zN ?_
   repeat first | refine te ?_ | refine bo rfl ?_
   refine zt _ ?_
   refine za (Om rfl ?_)
   refine Og (yG (v' := Ii ((8 * (j + 1) : Nat) : Int)) (zH rfl rfl (by omega)) (by congr 1)) rfl ?_
   refine Oa rfl (N3 1 3 6 rfl ?_)
   have hg := zel (l := r) (by omega)
   have hb78 : b1 ∉ zn v79 := by
    rcases o79 with h | ⟨b', h, hb'⟩ <;> rw [h]
    ·exact hb169
    have := k69.lt; have := c78.size; simp; omega
   refine ⟨201 - (j + 1), by omega, j + 1, rfl, by omega, by omega, v79, rfl, ys ++ (c ++ List.replicate (8 - c.length) 0) ++ [9], ?_, ?_, ?_, yw o79 f69 (by have := c78.size; omega), hb78, (k69.chg0 c78).chg c79 hb169, (hc69.trans c78).own c79 f69⟩
   ·have e : (ys ++ (c ++ List.replicate (8 - c.length) 0) ++ [9]).length = ys.length + 8 + 1 := by simp; omega
    rw [e, yH]
    exact i79
   ·rw [← hys, hg, hc8, hc8', show 8 * (j + 1) = 8 * j + 8 by omega, ← List.drop_drop, hr]
    simp
   simp; omega
  refine za (Om rfl (Om rfl ?_))
  refine Og (yG (v' := Ii ((8 * j + c.length : Nat) : Int)) (zH rfl rfl (by omega)) (by congr 1)) rfl ?_
  refine Od zaF rfl ?_
  refine Ol ag9 rfl (k69.cell' (i := 3) rfl) ?_
  refine Og (yQ st9 rfl) rfl ?_
  refine Og (vf (zz rfl rfl) (by simp; omega)) rfl ?_
  refine E5 1 3 6 7 76 rfl (zb rfl (zm (Sr (Om rfl (Om rfl ?_)))))
  refine Og (yo zas zaj rfl (show IntKind.u8.wrap ((c.length : Nat) : Int) = (((UInt8.ofNat c.length).toNat : Nat) : Int) by rw [zcT]; simp)) rfl ?_
  refine zC (gn rfl) (zy zaA rfl (vs := [_]) rfl (css := [_]) ⟨rfl, trivial⟩ rfl rfl (cs := [_]) rfl rfl ?_)
  intro b83 w83 e83 n83 c83 k83
  refine zC (gn rfl) (yq zaA yV rfl rfl (zv.chg0 i69 c83) (zv.of_blk (n := 1) (c := bv [UInt8.ofNat c.length]) k83 rfl (by simp [maxLen]) (zcd _)) (by simp only [maxLen]; omega) (by omega) rfl ?_)
  intro v84 w84 i84 c84 o84 z84
  refine Oa rfl (E1 2 rfl (zi ?_))
  repeat first | refine tr ?_ | refine br ?_
  refine zD rfl rfl ?_
  refine ⟨?_, yw o84 f69 (by have := c83.size; omega), (hc69.trans c83).own c84 f69⟩
  have hrc : r = c := by rw [← hc8, List.take_of_length_le (by omega)]
  have e : [a] ++ zc7 l = ys ++ (c ++ List.replicate (8 - c.length) 0) ++ [UInt8.ofNat c.length] := by
   rw [← hys, zdo (by omega), hrc, zjF]; simp
  rw [e]
  have e2 : (ys ++ (c ++ List.replicate (8 - c.length) 0) ++ [UInt8.ofNat c.length]).length = ys.length + 8 + 1 := by simp; omega
  rw [e2, yH]
  exact i84
 have hT : zfu x = [] := by simp [zfu, h1, h2, h3, h4]
 rw [hT, List.append_nil]
 refine za ?_
 refine Og (vf (zw rfl rfl) (by simp [h4])) rfl ?_
 refine Oa rfl (E3 1 3 48 rfl (zb rfl (yg (zh (Sr (Om rfl (Oa rfl (E1 2 rfl (zi ?_)))))))))
 refine zD rfl rfl ?_
 exact ⟨i11, f11, hc11⟩
theorem zn6 (l : List zP) (x : zP) : zb5 l ++ (⟨(zdI x).toArray⟩ : ByteArray) = zb5 (l ++ [x]) := by
 apply zoi
 simp [zb5, zda]
theorem zv5 (v : Value) (l : List zP) (w : World) (hl : zK w v l) (hc : ∀ x ∈ l, za4 x = 0 ∧ x.Rng) (hn : l.length ≤ 1048576) : z9 TP 64 #[v] w fun r w' => r = .string (zb5 l) ∧ zk [] w w' := by
 obtain ⟨pv, cv, rfl, hcv⟩ := ya.val hl
 refine A1 Tryz.func64 rfl rfl ?_
 refine Sr (Oa rfl (E1 0 rfl (Sr (Oa rfl (E2 0 3 rfl (ze (Sr (Oa rfl (E3 0 3 4 rfl (zq ?_))))))))))
 refine zY [0, 3, 4] (fun m F wx => ∃ j : Nat, m = l.length - j ∧ j ≤ l.length ∧ F = [(0, .slice pv l.length cv), (3, .string (zb5 (l.take j))), (4, Ii j)] ∧ zk [] w wx) (m := l.length - 0) ⟨0, rfl, Nat.zero_le _, rfl, zk.refl _ _⟩ ?_
 rintro m F wx ⟨j, rfl, hj, rfl, hcx⟩
 refine ze (ze ?_)
 by_cases hlt : j < l.length
 ·refine za (Om rfl (Om rfl (On zab rfl ?_)))
  refine Og (vt (zz rfl rfl) (by simp; omega)) rfl ?_
  refine E4 0 3 4 8 rfl (zd rfl (zm ?_))
  have hx : l[j]? = some l[j] := by simp [hlt]
  have htk := List.take_succ_eq_append_getElem hlt
  generalize l[j] = x at hx htk
  obtain ⟨hxc, hxg⟩ := hc x (List.mem_of_getElem? hx)
  obtain ⟨b, off, cap, hve, hcell⟩ := ya.at zaX (ya.chg0 hl hcx) hx
  cases hve
  have hkl := zh2 hxc
  have hks : (zb5 (l.take j)).size ≤ 235 * j := by
   have := zfL (l := l.take j) (fun y hy => (hc y (List.mem_of_mem_take hy)).1)
   rw [List.length_take] at this
   show (zda (l.take j)).toArray.size ≤ _
   rw [List.size_toArray]
   have : 235 * min j l.length ≤ 235 * j := Nat.mul_le_mul_left _ (Nat.min_le_left _ _)
   omega
  have hvs : (⟨(zdI x).toArray⟩ : ByteArray).size = (zdI x).length := by
   show (zdI x).toArray.size = _
   simp
  refine ze (zq (za (Om rfl (Om rfl (Om rfl ?_)))))
  refine Og (zf zab y7 rfl rfl _ rfl hlt) rfl ?_
  refine Og (zg zbe y7 rfl rfl hcell) rfl ?_
  refine Oc zxs rfl rfl rfl (zwA x _ hxc hxg) ?_
  rintro v16 w16 ⟨i16, f16, c16⟩
  refine Og (zfg (l := zdI x) yV zas st9 rfl i16.rd) rfl ?_
  refine Og (ztw rfl rfl (by rw [hvs]; omega)) rfl ?_
  refine Oa rfl (N3 0 3 4 rfl (zh (za (Om rfl ?_))))
  refine Og (zH rfl rfl (by omega)) rfl ?_
  refine Oa rfl (N3 0 3 4 rfl ?_)
  refine ⟨l.length - (j + 1), by omega, j + 1, rfl, by omega, ?_, hcx.trans c16⟩
  rw [htk, ← zn6]; rfl
 refine za (Om rfl (Om rfl (On zab rfl ?_)))
 refine Og (vf (zz rfl rfl) (by simp; omega)) rfl ?_
 refine E4 0 3 4 8 rfl (zb rfl ?_)
 refine zN ?_
 repeat first | refine te ?_ | refine bo rfl ?_
 refine zt _ ?_
 refine Sr (Om rfl (Oa rfl (E1 2 rfl (zi ?_))))
 refine zD rfl rfl ?_
 rw [List.take_of_length_le (by omega)]
 exact ⟨rfl, hcx⟩
def yl (w : World) (v : Value) (ls : LV) : Prop := ∃ vs, zv w 48 1 v ls.length vs ∧ yj w 40 4 zP.cs vs ls
theorem yl.chg0 {w w' : World} {v : Value} {ls : LV} (h : yl w v ls) (hc : zk [] w w') : yl w' v ls := let ⟨vs, h1, h2⟩ := h; ⟨vs, zv.chg0 h1 hc, h2.chg0 hc⟩
theorem yl.rows {w : World} {v : Value} {ls : LV} (h : yl w v ls) : zcq w v ls := let ⟨vs, h1, h2⟩ := h; ⟨vs, h1.toOu, h2.arr⟩
theorem yl.nil (w : World) : yl w (.slice none 0 0) [] := ⟨[], zv.nil _ _ _, trivial⟩
theorem yl.val {w : World} {v : Value} {ls : LV} (h : yl w v ls) : ∃ p c, v = .slice p ls.length c ∧ ls.length ≤ c := let ⟨_, h1, _⟩ := h; zv.val h1
theorem yl.at {w : World} {v : Value} {ls : LV} (h : yl w v ls) {i : Nat} {l : List zP} (hi : ls[i]? = some l) : ∃ b off cap u, v = .slice (some ⟨b, off, none⟩) ls.length cap ∧ w.cell? ⟨b, off + i * 1, none⟩ = some u ∧ zaT w u l := by
 obtain ⟨vs, h1, h2⟩ := h
 obtain ⟨u, hu, ha⟩ := h2.at hi
 obtain ⟨b, off, cap, u', hv, hu', hc⟩ := Rd.at1 h1.toRd (List.getElem?_eq_some_iff.1 hi).1
 rw [hu] at hu'
 cases hu'
 exact ⟨b, off, cap, u, hv, hc, ha⟩
theorem yl.chgB {w w' : World} {v : Value} {ls : LV} (h : yl w v ls) {b : Nat} {e' : TypeId} {c : List Value} (hb : zS w b e' c) (h1 : Nat.beq 48 e' = false) (h2 : Nat.beq 40 e' = false) (hc : zk [b] w w') : yl w' v ls :=
 let ⟨vs, g1, g2⟩ := h
 ⟨vs, zv.chg g1 hc (zv.apart g1 hb h1), g2.chg hc (g2.apart hb h2)⟩
theorem yl.push {w w' w'' : World} {x x' v : Value} {ls : LV} {r : List zP} {vs : List Value} (h1 : zv w 48 1 x ls.length vs) (h2 : yj w 40 4 zP.cs vs ls) (h3 : zaT w v r) (hc : zk [] w w') (i : zv w'' 48 1 x' (ls.length + 1) (vs ++ [v])) (hc' : zk (zn x) w' w'') : yl w'' x' (ls ++ [r]) := by
 have h4 : yj w' 40 4 zP.cs (vs ++ [v]) (ls ++ [r]) := yj.append (h2.chg0 hc) ⟨ym.chg0 h3 hc, trivial⟩
 refine ⟨vs ++ [v], ?_, h4.chg hc' (h4.apartSl (zv.chg0 h1 hc) rfl)⟩
 rw [List.length_append]
 exact i
structure yx (w : World) (c k u o : Value) (s : yn) (rows : LV) : Prop where
 sch : y4 w c k u s
 rws : yl w o rows
 ok : yZ s rows
 nm : ∀ c ∈ s.cols, c.n.size ≤ 1048576
theorem yx.chg0 {w w' : World} {c k u o : Value} {s : yn} {rows : LV} (h : yx w c k u o s rows) (hc : zk [] w w') : yx w' c k u o s rows := ⟨h.sch.chg0 hc, h.rws.chg0 hc, h.ok, h.nm⟩
theorem yx.one {w : World} {c k u : Value} {s : yn} (h : y4 w c k u s) (p : Option Addr) (n q : Nat) : ∀ y ∈ [c, k, u, .slice p n q], y.oneCell' = true := by
 intro y hy
 simp only [List.mem_cons, List.not_mem_nil, or_false] at hy
 rcases hy with rfl | rfl | rfl | rfl
 ·exact h.one _ (by simp)
 ·exact h.one _ (by simp)
 ·exact h.one _ (by simp)
 rfl
theorem zhE {s : yn} {st : List Int} (hr : yL s = true) (hs : st ∈ zG s) : st.length ≤ 1048576 := by
 have := (zam (zbg hr st hs)).1.2
 omega
theorem zfC {s : yn} {r : List zP} (h : yT s r = 0) {st : List Int} (hs : st ∈ zG s) : ∀ i ∈ st, 0 ≤ i ∧ i < r.length := by
 obtain ⟨hr, hl, _⟩ := zav h
 rw [hl]
 exact (zam (zbg hr st hs)).2.1
theorem zdw (c k u o v : Value) (s : yn) (rows : LV) (row : List zP) (w : World) (h : yx w c k u o s rows) (hl : zK w v row) (hf : yT s row = 0) (hg : ∀ x ∈ row, x.Rng) :
 z9 TP 22 #[.agg #[c, k, u, o], v] w fun r w' => r = .string (z0 s row) ∧ zk [] w w' := by
 have hkl := zhE (zav hf).1 (zcS s)
 refine A2 Tryz.func22 rfl rfl ?_
 refine Sr ?_
 refine Ob rfl rfl ?_
 intro b2 w2 e2 n2 c2 k2
 refine Oa rfl (E2 1 2 rfl (Sr (Om rfl (Od zgm rfl (Od zbS rfl ?_)))))
 refine Ol zbW rfl (k2.cell' (i := 1) rfl) ?_
 refine Oc zpD rfl rfl rfl (zhr _ _ _ _ _ (ya.chg0 hl c2) (h.sch.key.chg0 c2) (zfC hf (zcS s)) hkl) ?_
 rintro v12 w12 ⟨u12, rfl, i12, f12, c12⟩
 refine Om rfl (Oe rfl rfl (Oe rfl rfl (Oa rfl (Oa rfl (E1 5 rfl (Sr (Om rfl ?_)))))))
 refine Oc zxQ rfl rfl rfl (zv5 _ _ _ i12.arr (fun x hx => ⟨zfI hf x (zd4 hf (zcS s) x hx), hg x (zd4 hf (zcS s) x hx)⟩) (by rw [zc0]; exact hkl)) ?_
 rintro v16 w16 ⟨rfl, c16⟩
 refine Oa rfl (E1 4 rfl (zi ?_))
 refine zD rfl rfl ?_
 exact ⟨rfl, (c2.trans c12).trans c16⟩
theorem zqT (va vb vi : Value) (a b : List zP) (st : List Int) (w : World) (ha : zK w va a) (hb : zK w vb b) (hi : yU w vi st) (hra : ∀ i ∈ st, 0 ≤ i ∧ i < a.length) (hrb : ∀ i ∈ st, 0 ≤ i ∧ i < b.length) (hn : st.length ≤ 1048576) :
 z9 TP 135 #[va, vb, vi] w fun r w' => r = .bool (yY a b st) ∧ zk [] w w' := by
 obtain ⟨pa, ca, rfl, hca⟩ := ya.val ha
 obtain ⟨pb, cb, rfl, hcb⟩ := ya.val hb
 obtain ⟨pi, ci, rfl, hci⟩ := ya.val hi
 refine A3 Tryz.func135 rfl rfl ?_
 refine Sr (Oa rfl (E3 0 1 2 rfl (ze (Sr (Oa rfl (E4 0 1 2 7 rfl (zq ?_)))))))
 refine zY [0, 1, 2, 7] (fun m F wx => ∃ j : Nat, m = st.length - j ∧ j ≤ st.length ∧ F = [(0, .slice pa a.length ca), (1, .slice pb b.length cb), (2, .slice pi st.length ci), (7, Ii j)] ∧ yY a b (st.take j) = true ∧ zk [] w wx) (m := st.length - 0) ⟨0, rfl, Nat.zero_le _, rfl, rfl, zk.refl _ _⟩ ?_
 rintro m F wx ⟨j, rfl, hj, rfl, hok, hcx⟩
 refine ze (ze ?_)
 by_cases hlt : j < st.length
 ·refine za (Om rfl (Om rfl (On zaC rfl ?_)))
  refine Og (vt (zz rfl rfl) (by simp; omega)) rfl ?_
  refine E5 0 1 2 7 11 rfl (zd rfl (zm ?_))
  have hx : st[j]? = some st[j] := by simp [hlt]
  have htk := List.take_succ_eq_append_getElem hlt
  have hmem := List.getElem_mem hlt
  generalize st[j] = i at hx htk hmem
  obtain ⟨ha0, ha1⟩ := hra i hmem
  obtain ⟨hb0, hb1⟩ := hrb i hmem
  obtain ⟨i, rfl⟩ : ∃ k : Nat, i = (k : Int) := ⟨i.toNat, by omega⟩
  have hia : i < a.length := by omega
  have hib : i < b.length := by omega
  have hxa : a[i]? = some (zco a (i : Int)) := (zeb rfl ⟨ha0, ha1⟩).2
  have hxb : b[i]? = some (zco b (i : Int)) := (zeb rfl ⟨hb0, hb1⟩).2
  have hstep : yY a b (st.take (j + 1)) = (decide ((zco a (i : Int)).k ≠ 0) && decide (zco a (i : Int) = zco b (i : Int))) := by
   unfold yY at hok ⊢
   rw [htk, List.all_append, hok]
   simp
  have hfail : yY a b (st.take (j + 1)) = false → yY a b st = false := fun h => by
   unfold yY at h ⊢
   rw [← List.take_append_drop (j + 1) st, List.all_append, h, Bool.false_and]
  generalize zco a (i : Int) = x at *
  generalize zco b (i : Int) = y at *
  obtain ⟨bi, oi, cpi, hve, -⟩ := yU.cell hi hx
  cases hve
  obtain ⟨ba, oa, cpa, hve, -⟩ := ya.at zaX ha hxa
  cases hve
  obtain ⟨bb, ob, cpb, hve, -⟩ := ya.at zaX hb hxb
  cases hve
  have hce : ∀ {wz : World}, zk [] wx wz → wz.cell? ⟨bi, oi + j * 1, none⟩ = some (Ii (i : Int)) ∧ zB wz ba (oa + i * 4) x.cs ∧ zB wz bb (ob + i * 4) y.cs := fun hc => by
   obtain ⟨_, _, _, he, h1⟩ := yU.cell (ya.chg0 hi (hcx.trans hc)) hx
   cases he
   obtain ⟨_, _, _, he, h2⟩ := ya.at zaX (ya.chg0 ha (hcx.trans hc)) hxa
   cases he
   obtain ⟨_, _, _, he, h3⟩ := ya.at zaX (ya.chg0 hb (hcx.trans hc)) hxb
   cases he
   exact ⟨h1, h2, h3⟩
  refine ze (zq (ze ?_))
  by_cases h0 : x.k = 0
  ·refine zO (fun wz => zk [] wx wz) mix (zl8 (by kernel_rfl)) (zk.drew [] wx) ?_
   refine Tm rfl (Tm rfl (Tm rfl ?_))
   refine Tp (fun _ => zf zaC sz3 rfl rfl _ rfl hlt) rfl ?_
   refine Tr (fun wz hz => zj ag3 rfl (hce hz).1) rfl ?_
   refine Tp (fun _ => zf zab y7 rfl rfl _ rfl hia) rfl ?_
   refine Td zal rfl ?_
   refine Tr (fun wz hz => zj zb9 rfl ((hce hz).2.1 0 _ rfl)) rfl ?_
   refine Tp (fun _ => vt (zw rfl rfl) (by simp [h0])) rfl ?_
   refine Tm rfl (Tz rfl rfl (Tz rfl rfl (Tz rfl rfl (Tz rfl rfl (Tz rfl rfl (Tz rfl rfl (Tz rfl rfl (Tz rfl rfl (Tz rfl rfl (Tz rfl rfl (Tz rfl rfl (Tz rfl rfl (Tz rfl rfl ?_)))))))))))))
   refine Tz rfl rfl (Tz rfl rfl ?_)
   refine Tp (fun _ => zL rfl rfl) rfl ?_
   refine D5 0 1 2 7 39 rfl (zd rfl (Sr (Oa rfl (E1 6 rfl (zi ?_)))))
   repeat first | refine tr ?_ | refine br ?_
   refine zD rfl rfl ?_
   exact ⟨by rw [hfail (by rw [hstep]; simp [h0])], hcx.trans (zk.drew [] _)⟩
  refine zO (fun wz => zk [] wx wz) mix (zl8 (by kernel_rfl)) (zk.drew [] wx) ?_
  refine Tm rfl (Tm rfl (Tm rfl ?_))
  refine Tp (fun _ => zf zaC sz3 rfl rfl _ rfl hlt) rfl ?_
  refine Tr (fun wz hz => zj ag3 rfl (hce hz).1) rfl ?_
  refine Tp (fun _ => zf zab y7 rfl rfl _ rfl hia) rfl ?_
  refine Td zal rfl ?_
  refine Tr (fun wz hz => zj zb9 rfl ((hce hz).2.1 0 _ rfl)) rfl ?_
  refine Tp (fun _ => vf (zw rfl rfl) (by simp [h0])) rfl ?_
  refine Tm rfl (Tq rfl rfl rfl (Tq rfl rfl rfl (Tq rfl rfl rfl ?_)))
  refine Tg rfl rfl (fun _ => zf zaC sz3 rfl rfl _ rfl hlt) rfl ?_
  refine Ts rfl rfl (fun wz hz => zj ag3 rfl (hce hz).1) rfl ?_
  refine Tg rfl rfl (fun _ => zf zab y7 rfl rfl _ rfl hia) rfl ?_
  refine Ts rfl rfl (fun wz hz => zg zbe y7 rfl rfl (hce hz).2.1) rfl ?_
  refine Tq rfl rfl rfl (Tq rfl rfl rfl (Tq rfl rfl rfl ?_))
  refine Tg rfl rfl (fun _ => zf zaC sz3 rfl rfl _ rfl hlt) rfl ?_
  refine Ts rfl rfl (fun wz hz => zj ag3 rfl (hce hz).1) rfl ?_
  refine Tg rfl rfl (fun _ => zf zab y7 rfl rfl _ rfl hib) rfl ?_
  refine Ts rfl rfl (fun wz hz => zg zbe y7 rfl rfl (hce hz).2.2) rfl ?_
  refine Tg rfl rfl (fun _ => zlT zrb rfl rfl (zl6 x y)) rfl ?_
  refine Tp (fun _ => zR rfl rfl) rfl ?_
  refine D5 0 1 2 7 39 rfl ?_
  by_cases hxy : x = y
  ·refine zb (by simp [hxy]; rfl) ?_
   refine yg (zh (za (Om rfl ?_)))
   refine Og (zH rfl rfl (by omega)) rfl ?_
   refine Oa rfl (N4 0 1 2 7 rfl ?_)
   exact ⟨st.length - (j + 1), by omega, j + 1, rfl, by omega, rfl, by rw [hstep]; simp [hxy]; simpa [hxy] using h0, hcx.trans (zk.drew [] _)⟩
  refine zd (by simp [hxy]; rfl) ?_
  refine Sr (Oa rfl (E1 6 rfl (zi ?_)))
  repeat first | refine tr ?_ | refine br ?_
  refine zD rfl rfl ?_
  exact ⟨by rw [hfail (by rw [hstep]; simp [hxy])], hcx.trans (zk.drew [] _)⟩
 refine za (Om rfl (Om rfl (On zaC rfl ?_)))
 refine Og (vf (zz rfl rfl) (by simp; omega)) rfl ?_
 refine E5 0 1 2 7 11 rfl (zb rfl ?_)
 refine zN ?_
 repeat first | refine te ?_ | refine bo rfl ?_
 refine zt _ ?_
 refine Sr (Oa rfl (E1 6 rfl (zi ?_)))
 refine zD rfl rfl ?_
 rw [List.take_of_length_le (by omega)] at hok
 exact ⟨by rw [hok], hcx⟩
theorem zi4 (c k u o va vb : Value) (s : yn) (rows : LV) (a b : List zP) (w : World) (h : yx w c k u o s rows) (ha : zK w va a) (hb : zK w vb b) (hfa : yT s a = 0) (hfb : yT s b = 0) :
 z9 TP 90 #[.agg #[c, k, u, o], va, vb] w fun r w' => r = .bool (yy s a b) ∧ zk [] w w' := by
 obtain ⟨pa, ca, rfl, hca⟩ := ya.val ha
 obtain ⟨pb, cb, rfl, hcb⟩ := ya.val hb
 have hr := h.ok.right
 refine A3 Tryz.func90 rfl rfl ?_
 refine Sr ?_
 refine Ob rfl rfl ?_
 intro b3 w3 e3 n3 c3 k3
 refine Oa rfl (E3 1 2 3 rfl (Sr (Od zgm rfl ?_)))
 refine Og (zg zbu zbt rfl rfl (zB.of_blk k3 0 [c, k, u] ⟨[_], rfl⟩)) rfl ?_
 refine Oc zob rfl rfl rfl (zhC _ _ _ s _ (h.sch.chg0 c3) hr h.nm) ?_
 rintro v11 w11 ⟨i11, f11, c11⟩
 refine Oa rfl (E3 1 2 7 rfl ?_)
 have hc11 := c3.trans c11
 obtain ⟨ps, cs, rfl, hcs⟩ := yR.val i11
 have hsl : (zG s).length ≤ 1048576 := by have := (zV hr).2.1; simp [zG]; omega
 refine ze (Sr (Oa rfl (E4 1 2 7 8 rfl (zq ?_))))
 refine zY [1, 2, 7, 8] (fun m F wx => ∃ j : Nat, m = (zG s).length - j ∧ j ≤ (zG s).length ∧ F = [(1, .slice pa a.length ca), (2, .slice pb b.length cb), (7, .slice ps (zG s).length cs), (8, Ii j)] ∧ ((zG s).take j).any (yY a b) = false ∧ zk [] w11 wx) (m := (zG s).length - 0) ⟨0, rfl, Nat.zero_le _, rfl, rfl, zk.refl _ _⟩ ?_
 rintro m F wx ⟨j, rfl, hj, rfl, hok, hcx⟩
 refine ze (ze ?_)
 by_cases hlt : j < (zG s).length
 ·refine za (Om rfl (Om rfl (On zaL rfl ?_)))
  refine Og (vt (zz rfl rfl) (by simp; omega)) rfl ?_
  refine E5 1 2 7 8 15 rfl (zd rfl (zm ?_))
  have hx : (zG s)[j]? = some (zG s)[j] := by simp [hlt]
  have htk := List.take_succ_eq_append_getElem hlt
  have hmem := List.getElem_mem hlt
  generalize (zG s)[j] = st at hx htk hmem
  obtain ⟨bi, oi, cpi, vi, hve, hcell, hint⟩ := yR.at (i11.chg0 hcx) hx
  cases hve
  refine ze (zq (Sr (Om rfl (Om rfl (Om rfl (Om rfl ?_))))))
  refine Og (zf zaL zfh rfl rfl _ rfl hlt) rfl ?_
  refine Ol zbW rfl hcell ?_
  refine Oc zw2 rfl rfl rfl (zqT _ _ _ a b st _ (ya.chg0 ha (hc11.trans hcx)) (ya.chg0 hb (hc11.trans hcx)) hint (zfC hfa hmem) (zfC hfb hmem) (zhE hr hmem)) ?_
  rintro v24 w24 ⟨rfl, c24⟩
  refine E5 1 2 7 8 24 rfl ?_
  cases hcl : yY a b st with
  | true =>
   refine zd rfl (Sr (Oa rfl (E1 6 rfl (zi ?_))))
   repeat first | refine tr ?_ | refine br ?_
   refine zD rfl rfl ?_
   have e : yy s a b = true := List.any_eq_true.2 ⟨st, hmem, hcl⟩
   exact ⟨by rw [e], (hc11.trans hcx).trans c24⟩
  | false =>
   refine zb rfl (yg (zh (za (Om rfl ?_))))
   refine Og (zH rfl rfl (by omega)) rfl ?_
   refine Oa rfl (N4 1 2 7 8 rfl ?_)
   exact ⟨(zG s).length - (j + 1), by omega, j + 1, rfl, by omega, rfl, by rw [htk, List.any_append, hok]; simp [hcl], hcx.trans c24⟩
 refine za (Om rfl (Om rfl (On zaL rfl ?_)))
 refine Og (vf (zz rfl rfl) (by simp; omega)) rfl ?_
 refine E5 1 2 7 8 15 rfl (zb rfl ?_)
 refine zN ?_
 repeat first | refine te ?_ | refine bo rfl ?_
 refine zt _ ?_
 refine Sr (Oa rfl (E1 6 rfl (zi ?_)))
 refine zD rfl rfl ?_
 rw [List.take_of_length_le (by omega)] at hok
 exact ⟨by unfold yy; rw [hok], hc11.trans hcx⟩
theorem zmz (c k u o va : Value) (s : yn) (rows : LV) (row : List zP) (but : ByteArray) (w : World) (h : yx w c k u o s rows) (ha : zK w va row) (hf : yT s row = 0) :
 z9 TP 88 #[.agg #[c, k, u, o], va, .string but] w fun r w' => r = .bool (zbV s rows row but) ∧ zk [] w w' := by
 obtain ⟨pa, ca, rfl, hca⟩ := ya.val ha
 obtain ⟨po, co, rfl, hco⟩ := h.rws.val
 have hr := h.ok.right
 have hrl := h.ok.le
 refine A3 Tryz.func88 rfl rfl ?_
 refine Sr ?_
 refine Ob rfl rfl ?_
 intro b3 w3 e3 n3 c3 k3
 refine Oa rfl (E3 1 2 3 rfl (ze (Sr (Oa rfl (E4 1 2 3 7 rfl (zq ?_))))))
 refine zY [1, 2, 3, 7] (fun m F wx => ∃ j : Nat, m = rows.length - j ∧ j ≤ rows.length ∧ F = [(1, .slice pa row.length ca), (2, .string but), (3, Pt b3), (7, Ii j)] ∧ (rows.take j).any (fun r => decide (z0 s r ≠ but) && yy s r row) = false ∧ zk [] w3 wx) (m := rows.length - 0) ⟨0, rfl, Nat.zero_le _, rfl, rfl, zk.refl _ _⟩ ?_
 rintro m F wx ⟨j, rfl, hj, rfl, hok, hcx⟩
 have k3x := k3.chg0 hcx
 refine ze (ze ?_)
 by_cases hlt : j < rows.length
 ·refine za (Om rfl (Od yF rfl ?_))
  refine Ol zbc rfl (k3x.cell' (i := 3) rfl) ?_
  refine On zao rfl ?_
  refine Og (vt (zz rfl rfl) (by simp; omega)) rfl ?_
  refine E5 1 2 3 7 12 rfl (zd rfl (zm ?_))
  have hx : rows[j]? = some rows[j] := by simp [hlt]
  have htk := List.take_succ_eq_append_getElem hlt
  have hmem := List.getElem_mem hlt
  generalize rows[j] = r at hx htk hmem
  have hfr := h.ok.fit r hmem
  have hgr := h.ok.rng r hmem
  obtain ⟨bo, oo, cpo, vr, hve, hcell, hvr⟩ := (h.rws.chg0 (c3.trans hcx)).at hx
  cases hve
  have hce : ∀ {wz : World}, zk [] wx wz → yx wz c k u (.slice (some ⟨bo, oo, none⟩) rows.length co) s rows ∧ zS wz b3 54 [c, k, u, .slice (some ⟨bo, oo, none⟩) rows.length co] ∧ wz.cell? ⟨bo, oo + j * 1, none⟩ = some vr ∧ zK wz vr r ∧ zK wz (.slice pa row.length ca) row := fun hc => by
   have hcc := (c3.trans hcx).trans hc
   exact ⟨h.chg0 hcc, k3x.chg0 hc, hc.cell hcell, (ym.chg0 hvr hc).arr, ya.chg0 ha hcc⟩
  refine ze (zq (ze ?_))
  by_cases hk : z0 s r = but
  ·refine zO (fun wz => zk [] wx wz) mix (by kernel_rfl) (zk.drew [] wx) ?_
   refine Tr (fun wz hz => zg yA ye rfl rfl (zB.of_blk0 (hce hz).2.1)) rfl ?_
   refine Td yF rfl ?_
   refine Tr (fun wz hz => zj zbc rfl ((hce hz).2.1.cell' (i := 3) rfl)) rfl ?_
   refine Tm rfl ?_
   refine Tp (fun _ => zf zao zc1 rfl rfl _ rfl hlt) rfl ?_
   refine Tr (fun wz hz => zj zaV rfl (hce hz).2.2.1) rfl ?_
   refine Tc zhW rfl rfl rfl (zdw _ _ _ _ _ s rows r _ (hce (zk.drew [] _)).1 (hce (zk.drew [] _)).2.2.2.1 hfr hgr) ?_
   rintro v21 w21 ⟨rfl, c21⟩
   refine ⟨.inl ((zk.drew [] _).trans c21), ?_⟩
   refine Tm rfl ?_
   refine Tp (fun _ => vf (zdY rfl rfl) (by simp [hk])) rfl ?_
   refine Tm rfl (Tz rfl rfl (Tz rfl rfl (Tz rfl rfl (Tz rfl rfl (Tz rfl rfl (Tz rfl rfl (Tz rfl rfl (Tz rfl rfl ?_))))))))
   refine Tp (fun _ => zR rfl rfl) rfl ?_
   refine D5 1 2 3 7 33 rfl (zb rfl (yg (zh (za (Om rfl ?_)))))
   refine Og (zH rfl rfl (by omega)) rfl ?_
   refine Oa rfl (N4 1 2 3 7 rfl ?_)
   exact ⟨rows.length - (j + 1), by omega, j + 1, rfl, by omega, rfl, by rw [htk, List.any_append, hok]; simp [hk], (hcx.trans (zk.drew [] _)).trans c21⟩
  refine zO (fun wz => zk [] wx wz) mix (by kernel_rfl) (zk.drew [] wx) ?_
  refine Tr (fun wz hz => zg yA ye rfl rfl (zB.of_blk0 (hce hz).2.1)) rfl ?_
  refine Td yF rfl ?_
  refine Tr (fun wz hz => zj zbc rfl ((hce hz).2.1.cell' (i := 3) rfl)) rfl ?_
  refine Tm rfl ?_
  refine Tp (fun _ => zf zao zc1 rfl rfl _ rfl hlt) rfl ?_
  refine Tr (fun wz hz => zj zaV rfl (hce hz).2.2.1) rfl ?_
  refine Tc zhW rfl rfl rfl (zdw _ _ _ _ _ s rows r _ (hce (zk.drew [] _)).1 (hce (zk.drew [] _)).2.2.2.1 hfr hgr) ?_
  rintro v21 w21 ⟨rfl, c21⟩
  refine ⟨.inl ((zk.drew [] _).trans c21), ?_⟩
  refine Tm rfl ?_
  refine Tp (fun _ => vt (zdY rfl rfl) (by simp [hk])) rfl ?_
  refine Tm rfl ?_
  refine Ts rfl rfl (fun wz hz => zg yA ye rfl rfl (zB.of_blk0 (hce hz).2.1)) rfl ?_
  refine Tg rfl rfl (fun _ => zl yF rfl) rfl ?_
  refine Ts rfl rfl (fun wz hz => zj zbc rfl ((hce hz).2.1.cell' (i := 3) rfl)) rfl ?_
  refine Tq rfl rfl rfl ?_
  refine Tg rfl rfl (fun _ => zf zao zc1 rfl rfl _ rfl hlt) rfl ?_
  refine Ts rfl rfl (fun wz hz => zj zaV rfl (hce hz).2.2.1) rfl ?_
  refine Tq rfl rfl rfl ?_
  refine Tv rfl rfl zuR rfl rfl rfl (zi4 _ _ _ _ _ _ s rows r row _ (hce ((zk.drew [] _).trans c21)).1 (hce ((zk.drew [] _).trans c21)).2.2.2.1 (hce ((zk.drew [] _).trans c21)).2.2.2.2 hfr hf) ?_
  rintro v32 w32 ⟨rfl, c32⟩
  refine ⟨.inl (((zk.drew [] _).trans c21).trans c32), ?_⟩
  refine Tp (fun _ => zL rfl rfl) rfl ?_
  refine D5 1 2 3 7 33 rfl ?_
  cases hcl : yy s r row with
  | false =>
   refine zb rfl (yg (zh (za (Om rfl ?_))))
   refine Og (zH rfl rfl (by omega)) rfl ?_
   refine Oa rfl (N4 1 2 3 7 rfl ?_)
   exact ⟨rows.length - (j + 1), by omega, j + 1, rfl, by omega, rfl, by rw [htk, List.any_append, hok]; simp [hcl], ((hcx.trans (zk.drew [] _)).trans c21).trans c32⟩
  | true =>
   refine zd rfl (Sr (Oa rfl (E1 6 rfl (zi ?_))))
   repeat first | refine tr ?_ | refine br ?_
   refine zD rfl rfl ?_
   have e : zbV s rows row but = true := List.any_eq_true.2 ⟨r, hmem, by simp [hk, hcl]⟩
   exact ⟨by rw [e], (((c3.trans hcx).trans (zk.drew [] _)).trans c21).trans c32⟩
 refine za (Om rfl (Od yF rfl ?_))
 refine Ol zbc rfl (k3x.cell' (i := 3) rfl) ?_
 refine On zao rfl ?_
 refine Og (vf (zz rfl rfl) (by simp; omega)) rfl ?_
 refine E5 1 2 3 7 12 rfl (zb rfl ?_)
 refine zN ?_
 repeat first | refine te ?_ | refine bo rfl ?_
 refine zt _ ?_
 refine Sr (Oa rfl (E1 6 rfl (zi ?_)))
 refine zD rfl rfl ?_
 rw [List.take_of_length_le (by omega)] at hok
 exact ⟨by unfold zbV; rw [hok], c3.trans hcx⟩
theorem zs7 {α : Type} {p : α → Bool} {l : List α} {j : Nat} {x : α} (hx : l[j]? = some x) (h : (l.take j).any p = false) (hp : p x = true) : l.find? p = some x := by
 obtain ⟨hlt, rfl⟩ := List.getElem?_eq_some_iff.1 hx
 have e : l = l.take j ++ l[j] :: l.drop (j + 1) := by rw [List.getElem_cons_drop, List.take_append_drop]
 have hn : (l.take j).find? p = none := List.find?_eq_none.2 fun y hy => by
  have := List.any_eq_false.1 h y hy
  simpa using this
 conv => lhs; rw [e]
 rw [List.find?_append, hn, List.find?_cons, hp]
 rfl
theorem zoB {α : Type} {p : α → Bool} {l : List α} (h : l.any p = false) : l.find? p = none := List.find?_eq_none.2 fun y hy => by
 have := List.any_eq_false.1 h y hy
 simpa using this
theorem zm9 (c k u o : Value) (s : yn) (rows : LV) (key : ByteArray) (w : World) (h : yx w c k u o s rows) :
 z9 TP 24 #[.agg #[c, k, u, o], .string key] w fun r w' => ∃ i : Int, r = Ii i ∧ ((i = -1 ∧ zb7 s rows key = none) ∨ ∃ (j : Nat) (x : List zP), i = j ∧ rows[j]? = some x ∧ zb7 s rows key = some x) ∧ zk [] w w' := by
 obtain ⟨po, co, rfl, hco⟩ := h.rws.val
 have hrl := h.ok.le
 refine A2 Tryz.func24 rfl rfl ?_
 refine Sr ?_
 refine Ob rfl rfl ?_
 intro b2 w2 e2 n2 c2 k2
 refine Oa rfl (E2 1 2 rfl (ze (Sr (Oa rfl (E3 1 2 5 rfl (zq ?_))))))
 refine zY [1, 2, 5] (fun m F wx => ∃ j : Nat, m = rows.length - j ∧ j ≤ rows.length ∧ F = [(1, .string key), (2, Pt b2), (5, Ii j)] ∧ (rows.take j).any (fun r => decide (z0 s r = key)) = false ∧ zk [] w2 wx) (m := rows.length - 0) ⟨0, rfl, Nat.zero_le _, rfl, rfl, zk.refl _ _⟩ ?_
 rintro m F wx ⟨j, rfl, hj, rfl, hok, hcx⟩
 have k2x := k2.chg0 hcx
 refine ze (ze ?_)
 by_cases hlt : j < rows.length
 ·refine za (Om rfl (Od yF rfl ?_))
  refine Ol zbc rfl (k2x.cell' (i := 3) rfl) ?_
  refine On zao rfl ?_
  refine Og (vt (zz rfl rfl) (by simp; omega)) rfl ?_
  refine E4 1 2 5 10 rfl (zd rfl (zm ?_))
  have hx : rows[j]? = some rows[j] := by simp [hlt]
  have htk := List.take_succ_eq_append_getElem hlt
  have hmem := List.getElem_mem hlt
  generalize rows[j] = r at hx htk hmem
  have hfr := h.ok.fit r hmem
  have hgr := h.ok.rng r hmem
  obtain ⟨bo, oo, cpo, vr, hve, hcell, hvr⟩ := (h.rws.chg0 (c2.trans hcx)).at hx
  cases hve
  have hce : ∀ {wz : World}, zk [] wx wz → yx wz c k u (.slice (some ⟨bo, oo, none⟩) rows.length co) s rows ∧ zS wz b2 54 [c, k, u, .slice (some ⟨bo, oo, none⟩) rows.length co] ∧ wz.cell? ⟨bo, oo + j * 1, none⟩ = some vr ∧ zK wz vr r := fun hc => ⟨h.chg0 ((c2.trans hcx).trans hc), k2x.chg0 hc, hc.cell hcell, (ym.chg0 hvr hc).arr⟩
  refine ze (zq (ze ?_))
  by_cases hk : z0 s r = key
  ·refine zO (fun wz => zk [] wx wz) mix (by kernel_rfl) (zk.drew [] wx) ?_
   refine Tr (fun wz hz => zg yA ye rfl rfl (zB.of_blk0 (hce hz).2.1)) rfl ?_
   refine Td yF rfl ?_
   refine Tr (fun wz hz => zj zbc rfl ((hce hz).2.1.cell' (i := 3) rfl)) rfl ?_
   refine Tm rfl ?_
   refine Tp (fun _ => zf zao zc1 rfl rfl _ rfl hlt) rfl ?_
   refine Tr (fun wz hz => zj zaV rfl (hce hz).2.2.1) rfl ?_
   refine Tc zhW rfl rfl rfl (zdw _ _ _ _ _ s rows r _ (hce (zk.drew [] _)).1 (hce (zk.drew [] _)).2.2.2 hfr hgr) ?_
   rintro v19 w19 ⟨rfl, c19⟩
   refine ⟨.inl ((zk.drew [] _).trans c19), ?_⟩
   refine Tm rfl ?_
   refine Tp (fun _ => vt (zjt rfl rfl) (by simp [hk])) rfl ?_
   refine D4 1 2 5 21 rfl (zd rfl (Sr (Om rfl (Oa rfl (E1 4 rfl (zi ?_))))))
   repeat first | refine tr ?_ | refine br ?_
   refine zD rfl rfl ?_
   exact ⟨_, rfl, .inr ⟨j, r, rfl, hx, zs7 hx hok (by simp [hk])⟩, ((c2.trans hcx).trans (zk.drew [] _)).trans c19⟩
  refine zO (fun wz => zk [] wx wz) mix (by kernel_rfl) (zk.drew [] wx) ?_
  refine Tr (fun wz hz => zg yA ye rfl rfl (zB.of_blk0 (hce hz).2.1)) rfl ?_
  refine Td yF rfl ?_
  refine Tr (fun wz hz => zj zbc rfl ((hce hz).2.1.cell' (i := 3) rfl)) rfl ?_
  refine Tm rfl ?_
  refine Tp (fun _ => zf zao zc1 rfl rfl _ rfl hlt) rfl ?_
  refine Tr (fun wz hz => zj zaV rfl (hce hz).2.2.1) rfl ?_
  refine Tc zhW rfl rfl rfl (zdw _ _ _ _ _ s rows r _ (hce (zk.drew [] _)).1 (hce (zk.drew [] _)).2.2.2 hfr hgr) ?_
  rintro v19 w19 ⟨rfl, c19⟩
  refine ⟨.inl ((zk.drew [] _).trans c19), ?_⟩
  refine Tm rfl ?_
  refine Tp (fun _ => vf (zjt rfl rfl) (by simp [hk])) rfl ?_
  refine D4 1 2 5 21 rfl (zb rfl (yg (zh (za (Om rfl ?_)))))
  refine Og (zH rfl rfl (by omega)) rfl ?_
  refine Oa rfl (N3 1 2 5 rfl ?_)
  exact ⟨rows.length - (j + 1), by omega, j + 1, rfl, by omega, rfl, by rw [htk, List.any_append, hok]; simp [hk], (hcx.trans (zk.drew [] _)).trans c19⟩
 refine za (Om rfl (Od yF rfl ?_))
 refine Ol zbc rfl (k2x.cell' (i := 3) rfl) ?_
 refine On zao rfl ?_
 refine Og (vf (zz rfl rfl) (by simp; omega)) rfl ?_
 refine E4 1 2 5 10 rfl (zb rfl ?_)
 refine zN ?_
 repeat first | refine te ?_ | refine bo rfl ?_
 refine zt _ ?_
 refine Sr (Oa rfl (E1 4 rfl (zi ?_)))
 refine zD rfl rfl ?_
 rw [List.take_of_length_le (by omega)] at hok
 exact ⟨_, rfl, .inl ⟨rfl, zoB hok⟩, c2.trans hcx⟩
theorem zgF (c k u o : Value) (s : yn) (rows : LV) (key : ByteArray) (w : World) (h : yx w c k u o s rows) :
 z9 TP 91 #[.agg #[c, k, u, o], .string key] w fun r w' => ∃ o', r = .agg #[c, k, u, o'] ∧ yx w' c k u o' s (y5 s rows key) ∧ (∀ b ∈ zn o', w.heap.size ≤ b) ∧ zk [] w w' := by
 obtain ⟨po, co, rfl, hco⟩ := h.rws.val
 have hrl := h.ok.le
 refine A2 Tryz.func91 rfl rfl ?_
 refine Sr ?_
 refine Ob rfl rfl ?_
 intro b2 w2 e2 n2 c2 k2
 refine zC (gn rfl) (zI zcW rfl rfl ?_)
 intro b4 w4 e4 n4 c4 k4
 refine E3 1 2 4 rfl (Sr (Oa rfl (E4 1 2 4 5 rfl (ze (Sr (Oa rfl (E5 1 2 4 5 6 rfl (zq ?_))))))))
 refine zY [1, 2, 4, 5, 6] (fun m F wx => ∃ j : Nat, m = rows.length - j ∧ j ≤ rows.length ∧ ∃ x : Value, F = [(1, .string key), (2, Pt b2), (4, Pt b4), (5, x), (6, Ii j)] ∧ yl wx x (y5 s (rows.take j) key) ∧ (∀ b ∈ zn x, w4.heap.size ≤ b) ∧ zk [] w4 wx) (m := rows.length - 0) ⟨0, rfl, Nat.zero_le _, _, rfl, yl.nil _, by simp [zn], zk.refl _ _⟩ ?_
 rintro m F wx ⟨j, rfl, hj, x, rfl, hu, hfu, hcx⟩
 have k2w : zS w4 b2 54 [c, k, u, .slice po rows.length co] := k2.chg0 c4
 have k2x := k2w.chg0 hcx
 have k4x := k4.chg0 hcx
 have hcw := (c2.trans c4).trans hcx
 refine ze (ze ?_)
 by_cases hlt : j < rows.length
 ·refine za (Om rfl (Od yF rfl ?_))
  refine Ol zbc rfl (k2x.cell' (i := 3) rfl) ?_
  refine On zao rfl ?_
  refine Og (vt (zz rfl rfl) (by simp; omega)) rfl ?_
  refine E6 1 2 4 5 6 11 rfl (zd rfl (zm ?_))
  have hx : rows[j]? = some rows[j] := by simp [hlt]
  have htk := List.take_succ_eq_append_getElem hlt
  have hmem := List.getElem_mem hlt
  generalize rows[j] = r at hx htk hmem
  have hfr := h.ok.fit r hmem
  have hgr := h.ok.rng r hmem
  obtain ⟨bo, oo, cpo, vr, hve, hcell, hvr⟩ := (h.rws.chg0 hcw).at hx
  cases hve
  have hce : ∀ {wz : World}, zk [] wx wz → yx wz c k u (.slice (some ⟨bo, oo, none⟩) rows.length co) s rows ∧ zS wz b2 54 [c, k, u, .slice (some ⟨bo, oo, none⟩) rows.length co] ∧ wz.cell? ⟨bo, oo + j * 1, none⟩ = some vr ∧ zK wz vr r := fun hc => ⟨h.chg0 (hcw.trans hc), k2x.chg0 hc, hc.cell hcell, (ym.chg0 hvr hc).arr⟩
  refine ze (zq (ze ?_))
  by_cases hk : z0 s r = key
  ·refine zO (fun wz => zk [] wx wz) mix (by kernel_rfl) (zk.drew [] wx) ?_
   refine Tr (fun wz hz => zg yA ye rfl rfl (zB.of_blk0 (hce hz).2.1)) rfl ?_
   refine Td yF rfl ?_
   refine Tr (fun wz hz => zj zbc rfl ((hce hz).2.1.cell' (i := 3) rfl)) rfl ?_
   refine Tm rfl ?_
   refine Tp (fun _ => zf zao zc1 rfl rfl _ rfl hlt) rfl ?_
   refine Tr (fun wz hz => zj zaV rfl (hce hz).2.2.1) rfl ?_
   refine Tc zhW rfl rfl rfl (zdw _ _ _ _ _ s rows r _ (hce (zk.drew [] _)).1 (hce (zk.drew [] _)).2.2.2 hfr hgr) ?_
   rintro v20 w20 ⟨rfl, c20⟩
   refine ⟨.inl ((zk.drew [] _).trans c20), ?_⟩
   refine Tm rfl ?_
   refine Tp (fun _ => vf (zdY rfl rfl) (by simp [hk])) rfl ?_
   refine D6 1 2 4 5 6 22 rfl (zb rfl (yg (zh (za (Om rfl ?_)))))
   refine Og (zH rfl rfl (by omega)) rfl ?_
   refine Oa rfl (N5 1 2 4 5 6 rfl ?_)
   have e : y5 s (rows.take (j + 1)) key = y5 s (rows.take j) key := by unfold y5; rw [htk, List.filter_append]; simp [hk]
   exact ⟨rows.length - (j + 1), by omega, j + 1, rfl, by omega, x, rfl, e ▸ hu.chg0 ((zk.drew [] _).trans c20), hfu, (hcx.trans (zk.drew [] _)).trans c20⟩
  refine zO (fun wz => zk [] wx wz) mix (by kernel_rfl) (zk.drew [] wx) ?_
  refine Tr (fun wz hz => zg yA ye rfl rfl (zB.of_blk0 (hce hz).2.1)) rfl ?_
  refine Td yF rfl ?_
  refine Tr (fun wz hz => zj zbc rfl ((hce hz).2.1.cell' (i := 3) rfl)) rfl ?_
  refine Tm rfl ?_
  refine Tp (fun _ => zf zao zc1 rfl rfl _ rfl hlt) rfl ?_
  refine Tr (fun wz hz => zj zaV rfl (hce hz).2.2.1) rfl ?_
  refine Tc zhW rfl rfl rfl (zdw _ _ _ _ _ s rows r _ (hce (zk.drew [] _)).1 (hce (zk.drew [] _)).2.2.2 hfr hgr) ?_
  rintro v20 w20 ⟨rfl, c20⟩
  refine ⟨.inl ((zk.drew [] _).trans c20), ?_⟩
  refine Tm rfl ?_
  refine Tp (fun _ => vt (zdY rfl rfl) (by simp [hk])) rfl ?_
  refine D6 1 2 4 5 6 22 rfl (zd rfl ?_)
  have hc20 : zk [] wx w20 := (zk.drew [] _).trans c20
  obtain ⟨us, hus, hls⟩ := hu.chg0 hc20
  obtain ⟨pv, cv, rfl, -⟩ := ym.val hvr
  have hll : (y5 s (rows.take j) key).length ≤ 400 := by
   have := List.length_filter_le (fun r => decide (z0 s r ≠ key)) (rows.take j)
   unfold y5
   rw [List.length_take] at this
   omega
  refine za (Om rfl (Od yF rfl ?_))
  refine Ol zbc rfl ((hce hc20).2.1.cell' (i := 3) rfl) ?_
  refine Om rfl ?_
  refine Og (zf zao zc1 rfl rfl _ rfl hlt) rfl ?_
  refine Ol zaV rfl (hce hc20).2.2.1 ?_
  refine zC (gn rfl) (zy zg7 rfl (vs := [_]) rfl (css := [_]) ⟨rfl, trivial⟩ rfl rfl (cs := [_]) rfl rfl ?_)
  intro b29 w29 e29 n29 c29 k29
  refine zC (gn rfl) (yq zg7 zao rfl rfl (zv.chg0 hus c29) (zv.of_blk (n := 1) k29 rfl (by simp [maxLen]) (by intro y hy; simp at hy; subst hy; rfl)) (by simp only [maxLen]; omega) (by omega) rfl ?_)
  intro v30 w30 i30 c30 o30 z30
  refine Oa rfl (N5 1 2 4 5 6 rfl (zh (za (Om rfl ?_))))
  refine Og (zH rfl rfl (by omega)) rfl ?_
  refine Oa rfl (N5 1 2 4 5 6 rfl ?_)
  have e : y5 s (rows.take (j + 1)) key = y5 s (rows.take j) key ++ [r] := by unfold y5; rw [htk, List.filter_append]; simp [hk]
  have hs1 := hcx.size
  have hs2 := hc20.size
  have hs3 := c29.size
  refine ⟨rows.length - (j + 1), by omega, j + 1, rfl, by omega, v30, rfl, ?_, yw o30 hfu (by omega), ((hcx.trans hc20).trans c29).own c30 hfu⟩
  rw [e]
  exact yl.push hus hls (ym.chg0 hvr hc20) c29 i30 c30
 refine za (Om rfl (Od yF rfl ?_))
 refine Ol zbc rfl (k2x.cell' (i := 3) rfl) ?_
 refine On zao rfl ?_
 refine Og (vf (zz rfl rfl) (by simp; omega)) rfl ?_
 refine E6 1 2 4 5 6 11 rfl (zb rfl ?_)
 refine zN ?_
 repeat first | refine te ?_ | refine bo rfl ?_
 refine zt _ ?_
 rw [List.take_of_length_le (by omega)] at hu
 obtain ⟨px, cx, rfl, -⟩ := hu.val
 refine Sr (Om rfl (Od yF rfl ?_))
 refine zC (gn rfl) (zu zwY rfl rfl rfl rfl k2x (by simp) (by intro y hy; simp at hy; subst hy; rfl) ?_)
 intro wA nA cA kA
 refine E2 2 4 rfl ?_
 have kA : zS wA b2 54 [c, k, u, .slice px (y5 s rows key).length cx] := kA
 have k4A := k4x.chg cA (by simp; omega)
 refine Sr ?_
 refine Og (zg yA ye rfl rfl (zB.of_blk0 kA)) rfl ?_
 refine zC (gn rfl) (zu ye rfl rfl rfl rfl k4A (by simp) (yx.one h.sch _ _ _) ?_)
 intro wB nB cB kB
 refine E1 4 rfl (zi ?_)
 refine zlq rfl yA ye rfl rfl (zB.of_blk0 kB) ?_
 have hs1 := c2.size
 have hs2 := c4.size
 have hcB : zk [] w wB := (hcw.own cA (by intro y hy; simp at hy; omega)).own cB (by intro y hy; simp at hy; omega)
 exact ⟨_, rfl, ⟨h.sch.chg0 hcB, (hu.chgB k2x rfl rfl cA).chgB k4A rfl rfl cB, h.ok.less key, h.nm⟩, fun b hb => by have := hfu b hb; omega, hcB⟩
section
variable {α : Type} {w : World} {e k : Nat} {f : α → List Value}
theorem yj.take : ∀ {vs : List Value} {ls : List (List α)} (i : Nat), yj w e k f vs ls → yj w e k f (vs.take i) (ls.take i)
 | _, _, 0, _ => by simp [yj]
 | [], [], _ + 1, _ => by simp [yj]
 | _ :: _, _ :: _, i + 1, h => ⟨h.1, h.2.take i⟩
theorem yj.drop : ∀ {vs : List Value} {ls : List (List α)} (i : Nat), yj w e k f vs ls → yj w e k f (vs.drop i) (ls.drop i)
 | _, _, 0, h => h
 | [], [], _ + 1, _ => by simp [yj]
 | _ :: _, _ :: _, i + 1, h => by simpa using h.2.drop i
end
theorem zon {α : Type} {p : α → Bool} : ∀ {l : List α} {j : Nat}, j ≤ l.length → (l.take j).all p = true → (∀ x, l[j]? = some x → p x = false) → l.takeWhile p = l.take j ∧ l.dropWhile p = l.drop j
 | [], j, hj, _, _ => by simp
 | a :: l, 0, _, _, h => by
  have := h a (by simp)
  simp [List.takeWhile_cons, List.dropWhile_cons, this]
 | a :: l, j + 1, hj, h1, h2 => by
  simp only [List.take_succ_cons, List.all_cons, Bool.and_eq_true] at h1
  have ih := zon (l := l) (j := j) (by simpa using hj) h1.2 (fun x hx => h2 x (by simpa using hx))
  simp [List.takeWhile_cons, List.dropWhile_cons, h1.1, ih.1, ih.2]
theorem zl1 (c k u o v : Value) (s : yn) (rows : LV) (row : List zP) (w : World) (h : yx w c k u o s rows) (hl : zK w v row) (hf : yT s row = 0) (hg : ∀ x ∈ row, x.Rng) (hcl : ∀ r ∈ rows, yy s r row = false) (h400 : rows.length < 400) :
 z9 TP 89 #[.agg #[c, k, u, o], v] w fun r w' => ∃ o', r = .agg #[c, k, u, o'] ∧ yx w' c k u o' s (zbN s rows row) ∧ zk [] w w' := by
 obtain ⟨po, co, rfl, hco⟩ := h.rws.val
 obtain ⟨pv, cv, rfl, hcv⟩ := ya.val hl
 refine A2 Tryz.func89 rfl rfl ?_
 refine Sr ?_
 refine Ob rfl rfl ?_
 intro b2 w2 e2 n2 c2 k2
 refine zC (gn rfl) (zI zcW rfl rfl ?_)
 intro b4 w4 e4 n4 c4 k4
 refine E3 1 2 4 rfl ?_
 have k2w : zS w4 b2 54 [c, k, u, .slice po rows.length co] := k2.chg0 c4
 have hcw4 := c2.trans c4
 refine Sr ?_
 refine Og (zg yA ye rfl rfl (zB.of_blk0 k2w)) rfl ?_
 refine Om rfl ?_
 refine Oc zhW rfl rfl rfl (zdw _ _ _ _ _ s rows row _ (h.chg0 hcw4) (ya.chg0 hl hcw4) hf hg) ?_
 rintro v10 w10 ⟨rfl, c10⟩
 refine Oa rfl (E4 1 2 4 5 rfl (Sr (Oa rfl (E5 1 2 4 5 6 rfl ?_))))
 refine yh (fun F wx => ∃ (j : Nat) (f5 f26 : Value), F = [(1, .slice pv row.length cv), (2, Pt b2), (4, Pt b4), (5, f5), (6, Ii j), (26, f26)] ∧ j ≤ rows.length ∧ rows.takeWhile (fun r => blt (z0 s r) (z0 s row)) = rows.take j ∧ rows.dropWhile (fun r => blt (z0 s r) (z0 s row)) = rows.drop j ∧ zk [] w4 wx) ?_ ?_
 ·refine zq ?_
  refine zY [1, 2, 4, 5, 6] (fun m F wx => ∃ j : Nat, m = rows.length - j ∧ j ≤ rows.length ∧ F = [(1, .slice pv row.length cv), (2, Pt b2), (4, Pt b4), (5, .string (z0 s row)), (6, Ii j)] ∧ (rows.take j).all (fun r => blt (z0 s r) (z0 s row)) = true ∧ zk [] w4 wx) (m := rows.length - 0) ⟨0, rfl, Nat.zero_le _, rfl, rfl, c10⟩ ?_
  rintro m F wx ⟨j, rfl, hj, rfl, hok, hcx⟩
  have k2x := k2w.chg0 hcx
  have hcw := hcw4.trans hcx
  refine ze (ze ?_)
  have hjrow : j < rows.length → ∃ r, rows[j]? = some r ∧ rows.take (j + 1) = rows.take j ++ [r] := fun hlt => ⟨rows[j], by simp [hlt], List.take_succ_eq_append_getElem hlt⟩
  by_cases hgo : ∃ r, rows[j]? = some r ∧ blt (z0 s r) (z0 s row) = true
  ·obtain ⟨r, hx, hb⟩ := hgo
   have hlt : j < rows.length := (List.getElem?_eq_some_iff.1 hx).1
   obtain ⟨r', hx', htk⟩ := hjrow hlt
   rw [hx] at hx'
   cases hx'
   have hmem := List.mem_of_getElem? hx
   have hfr := h.ok.fit r hmem
   have hgr := h.ok.rng r hmem
   obtain ⟨bo, oo, cpo, vr, hve, hcell, hvr⟩ := (h.rws.chg0 hcw).at hx
   cases hve
   have hce : ∀ {wz : World}, zk [] wx wz → yx wz c k u (.slice (some ⟨bo, oo, none⟩) rows.length co) s rows ∧ zS wz b2 54 [c, k, u, .slice (some ⟨bo, oo, none⟩) rows.length co] ∧ wz.cell? ⟨bo, oo + j * 1, none⟩ = some vr ∧ zK wz vr r := fun hc => ⟨h.chg0 (hcw.trans hc), k2x.chg0 hc, hc.cell hcell, (ym.chg0 hvr hc).arr⟩
   refine zO (fun wz => zk [] wx wz) mix (by kernel_rfl) (zk.drew [] wx) ?_
   refine Tm rfl (Td yF rfl ?_)
   refine Tr (fun wz hz => zj zbc rfl ((hce hz).2.1.cell' (i := 3) rfl)) rfl ?_
   refine Tp (fun _ => yd zao rfl) rfl ?_
   refine Tp (fun _ => vt (zz rfl rfl) (by simp; omega)) rfl ?_
   refine Tm rfl ?_
   refine Ts rfl rfl (fun wz hz => zg yA ye rfl rfl (zB.of_blk0 (hce hz).2.1)) rfl ?_
   refine Tg rfl rfl (fun _ => zl yF rfl) rfl ?_
   refine Ts rfl rfl (fun wz hz => zj zbc rfl ((hce hz).2.1.cell' (i := 3) rfl)) rfl ?_
   refine Tq rfl rfl rfl ?_
   refine Tg rfl rfl (fun _ => zf zao zc1 rfl rfl _ rfl hlt) rfl ?_
   refine Ts rfl rfl (fun wz hz => zj zaV rfl (hce hz).2.2.1) rfl ?_
   refine Tv rfl rfl zhW rfl rfl rfl (zdw _ _ _ _ _ s rows r _ (hce (zk.drew [] _)).1 (hce (zk.drew [] _)).2.2.2 hfr hgr) ?_
   rintro v23 w23 ⟨rfl, c23⟩
   refine ⟨.inl ((zk.drew [] _).trans c23), ?_⟩
   refine Tq rfl rfl rfl ?_
   refine Tg rfl rfl (fun _ => vt (zjJ rfl rfl) hb) rfl ?_
   refine Tp (fun _ => zL rfl rfl) rfl ?_
   refine D6 1 2 4 5 6 26 rfl (zd rfl (zm (zq (za (Om rfl ?_)))))
   refine Og (zH rfl rfl (by omega)) rfl ?_
   refine Oa rfl (N5 1 2 4 5 6 rfl (zh ?_))
   exact ⟨rows.length - (j + 1), by omega, j + 1, rfl, by omega, rfl, by rw [htk, List.all_append, hok]; simp [hb], (hcx.trans (zk.drew [] _)).trans c23⟩
  rcases Nat.lt_or_ge j rows.length with hlt | hge
  ·obtain ⟨r, hx, htk⟩ := hjrow hlt
   have hb : blt (z0 s r) (z0 s row) = false := by
    cases hbb : blt (z0 s r) (z0 s row) with
    | false => rfl
    | true => exact absurd ⟨r, hx, hbb⟩ hgo
   have hmem := List.mem_of_getElem? hx
   have hfr := h.ok.fit r hmem
   have hgr := h.ok.rng r hmem
   obtain ⟨bo, oo, cpo, vr, hve, hcell, hvr⟩ := (h.rws.chg0 hcw).at hx
   cases hve
   have hce : ∀ {wz : World}, zk [] wx wz → yx wz c k u (.slice (some ⟨bo, oo, none⟩) rows.length co) s rows ∧ zS wz b2 54 [c, k, u, .slice (some ⟨bo, oo, none⟩) rows.length co] ∧ wz.cell? ⟨bo, oo + j * 1, none⟩ = some vr ∧ zK wz vr r := fun hc => ⟨h.chg0 (hcw.trans hc), k2x.chg0 hc, hc.cell hcell, (ym.chg0 hvr hc).arr⟩
   refine zO (fun wz => zk [] wx wz) mix (by kernel_rfl) (zk.drew [] wx) ?_
   refine Tm rfl (Td yF rfl ?_)
   refine Tr (fun wz hz => zj zbc rfl ((hce hz).2.1.cell' (i := 3) rfl)) rfl ?_
   refine Tp (fun _ => yd zao rfl) rfl ?_
   refine Tp (fun _ => vt (zz rfl rfl) (by simp; omega)) rfl ?_
   refine Tm rfl ?_
   refine Ts rfl rfl (fun wz hz => zg yA ye rfl rfl (zB.of_blk0 (hce hz).2.1)) rfl ?_
   refine Tg rfl rfl (fun _ => zl yF rfl) rfl ?_
   refine Ts rfl rfl (fun wz hz => zj zbc rfl ((hce hz).2.1.cell' (i := 3) rfl)) rfl ?_
   refine Tq rfl rfl rfl ?_
   refine Tg rfl rfl (fun _ => zf zao zc1 rfl rfl _ rfl hlt) rfl ?_
   refine Ts rfl rfl (fun wz hz => zj zaV rfl (hce hz).2.2.1) rfl ?_
   refine Tv rfl rfl zhW rfl rfl rfl (zdw _ _ _ _ _ s rows r _ (hce (zk.drew [] _)).1 (hce (zk.drew [] _)).2.2.2 hfr hgr) ?_
   rintro v23 w23 ⟨rfl, c23⟩
   refine ⟨.inl ((zk.drew [] _).trans c23), ?_⟩
   refine Tq rfl rfl rfl ?_
   refine Tg rfl rfl (fun _ => vf (zjJ rfl rfl) hb) rfl ?_
   refine Tp (fun _ => zL rfl rfl) rfl ?_
   refine D6 1 2 4 5 6 26 rfl (zb rfl ?_)
   refine zN ?_
   repeat first | refine te ?_ | refine bo rfl ?_
   refine zt _ ?_
   have e := zon (p := fun r => blt (z0 s r) (z0 s row)) hj hok (fun y hy => by rw [hx] at hy; cases hy; exact hb)
   exact ⟨j, _, _, rfl, hj, e.1, e.2, (hcx.trans (zk.drew [] _)).trans c23⟩
  refine zO (fun wz => zk [] wx wz) mix (by kernel_rfl) (zk.drew [] wx) ?_
  refine Tm rfl (Td yF rfl ?_)
  refine Tr (fun wz hz => zj zbc rfl ((k2x.chg0 hz).cell' (i := 3) rfl)) rfl ?_
  refine Tp (fun _ => yd zao rfl) rfl ?_
  refine Tp (fun _ => vf (zz rfl rfl) (by simp; omega)) rfl ?_
  refine Tm rfl (Tz rfl rfl (Tz rfl rfl (Tz rfl rfl (Tz rfl rfl (Tz rfl rfl (Tz rfl rfl (Tz rfl rfl (Tz rfl rfl (Tz rfl rfl ?_)))))))))
  refine Tp (fun _ => zR rfl rfl) rfl ?_
  refine D6 1 2 4 5 6 26 rfl (zb rfl ?_)
  refine zN ?_
  repeat first | refine te ?_ | refine bo rfl ?_
  refine zt _ ?_
  have e := zon (p := fun r => blt (z0 s r) (z0 s row)) hj hok (fun y hy => by rw [List.getElem?_eq_none (by omega)] at hy; cases hy)
  exact ⟨j, _, _, rfl, hj, e.1, e.2, hcx.trans (zk.drew [] _)⟩
 rintro F wx ⟨j, f5, f26, rfl, hj, hT, hD, hcx⟩
 have k2x := k2w.chg0 hcx
 have k4x := k4.chg0 hcx
 have hcw := hcw4.trans hcx
 have hs1 := c2.size
 have hs2 := c4.size
 have hs3 := hcx.size
 obtain ⟨vs, hvs, hls⟩ := id h.rws
 have hvl := hvs.len_xs
 rw [Nat.mul_one] at hvl
 have hrow : row.length ≤ 1048576 := by have := (zav hf).2.1; have := (zV (zav hf).1).1.2; omega
 have hd1 : ∀ {wz : World}, zk [] w wz → Rd wz 1 (cut po 0 j co 1) j (vs.take j) := fun hc => by
  have := Rd.cut (zv.chg0 hvs hc).toRd (l := 0) (h := j) (m := co) (by omega) (by omega) (Nat.le_refl _) hj
  simpa using this
 have hd2 : ∀ {wz : World}, zk [] w wz → Rd wz 1 (cut po j rows.length co 1) (rows.length - j) (vs.drop j) := fun hc => by
  have := Rd.cut (zv.chg0 hvs hc).toRd (l := j) (h := rows.length) (m := co) hj (by omega) (Nat.le_refl _) (Nat.le_refl _)
  rw [Nat.mul_one, Nat.mul_one, List.take_of_length_le (by rw [List.length_drop]; omega)] at this
  exact this
 refine Sr ?_
 refine zC (gn rfl) (zy zg7 rfl (vs := []) rfl (css := []) trivial rfl rfl (cs := []) rfl rfl ?_)
 intro b29 w29 e29 n29 c29 k29
 refine Od yF rfl ?_
 refine Ol zbc rfl ((k2x.chg0 c29).cell' (i := 3) rfl) ?_
 refine Om rfl ?_
 refine Og (zbl zao zc1 rfl rfl _ rfl (by omega)) rfl ?_
 refine zC (gn rfl) (zcH zg7 zao rfl rfl (zv.of_blk (n := 0) k29 (by simp) (by simp [maxLen]) (by simp)) (hd1 (hcw.trans c29)) (by simp only [maxLen]; omega) (by omega) rfl ?_)
 intro v34 w34 i34 c34 o34 z34
 refine Oa rfl (E5 1 2 4 6 7 rfl ?_)
 have hs4 := c29.size
 have f29 : ∀ x ∈ zn (.slice (some ⟨b29, 0, none⟩) 0 0), wx.heap.size ≤ x := by intro x hx; simp [zn] at hx; omega
 have f34 := yw o34 f29 (by omega)
 have hc34 := c29.own c34 f29
 have k2y := k2x.chg0 hc34
 have k4y := k4x.chg0 hc34
 have hcy := hcw.trans hc34
 have hs5 := hc34.size
 have hdr : w34.drew.heap.size = w34.heap.size := rfl
 refine ze ?_
 refine zO (fun wz => zk [] wx wz) mix (by kernel_rfl) (hc34.trans (zk.drew [] _)) ?_
 refine Tm rfl ?_
 refine zaq rfl (gn rfl) (zy zha rfl (vs := []) rfl (css := []) trivial rfl rfl (cs := []) rfl rfl ?_)
 intro b36 w36 e36 n36 c36 k36
 refine ⟨.inl ((hc34.trans (zk.drew [] _)).trans c36), ?_⟩
 refine Tm rfl ?_
 refine zaq rfl (gn rfl) (zcH zha zab rfl rfl (zv.of_blk (n := 0) k36 (by simp) (by simp [maxLen]) (by simp)) (ya.chg0 hl ((hcy.trans (zk.drew [] _)).trans c36)) (by simp only [maxLen]; omega) (by omega) rfl ?_)
 intro v38 w38 i38 c38 o38 z38
 have G38 : zk [] w34 w38 := ((zk.drew [] _).trans c36).own c38 (by intro x hx; simp [zn] at hx; omega)
 have i38 : zaT w38 v38 row := by have := i38; simp only [Nat.zero_add, List.nil_append] at this; exact this
 obtain ⟨p38, q38, rfl, -⟩ := ym.val i38
 have z38 := G38.size
 refine ⟨.inl (hc34.trans G38), ?_⟩
 refine zaq rfl (gn rfl) (zy zg7 rfl (vs := [_]) rfl (css := [_]) ⟨rfl, trivial⟩ rfl rfl (cs := [_]) rfl rfl ?_)
 intro b39 w39 e39 n39 c39 k39
 refine ⟨.inl ((hc34.trans G38).trans c39), ?_⟩
 refine zaq rfl (gn rfl) (yq zg7 zao rfl rfl (zv.chg0 i34 (G38.trans c39)) (zv.of_blk (n := 1) k39 rfl (by simp [maxLen]) (by intro y hy; simp at hy; subst hy; rfl)) (by simp only [maxLen]; omega) (by omega) rfl ?_)
 intro v40 w40 i40 c40 o40 z40
 have H40 : zk [] wx w40 := ((hc34.trans G38).trans c39).own c40 f34
 have z39 := c39.size
 have z40 := c40.size
 have f40 := yw o40 f34 (by omega)
 refine ⟨.inl H40, ?_⟩
 refine Td yF rfl ?_
 refine Tr (fun wz hz => zj zbc rfl ((k2x.chg0 hz).cell' (i := 3) rfl)) rfl ?_
 refine Tm rfl ?_
 refine Tp (fun _ => zaE zao zc1 rfl rfl _ rfl (by omega)) rfl ?_
 refine zaq rfl (gn rfl) (zcH zg7 zao rfl rfl i40 (hd2 (hcw.trans H40)) (by simp only [maxLen]; omega) (by omega) rfl ?_)
 intro v45 w45 i45 c45 o45 z45
 have H45 : zk [] wx w45 := H40.own c45 f40
 have f45 := yw o45 f40 (by omega)
 obtain ⟨p45, q45, rfl, -⟩ := id (zv.val i45)
 refine ⟨.inl H45, ?_⟩
 refine Td yF rfl ?_
 refine zaq rfl (gn rfl) (zu zwY rfl rfl rfl rfl (k2x.chg0 H45) (by simp) (by intro y hy; simp at hy; subst hy; rfl) ?_)
 intro wA nA cA kA
 refine ⟨.inr (by kernel_rfl), ?_⟩
 refine D2 2 4 rfl ?_
 have L39 : yj w39 40 4 zP.cs (vs.take j ++ [.slice p38 row.length q38] ++ vs.drop j) (rows.take j ++ [row] ++ rows.drop j) :=
  yj.append (yj.append ((hls.take j).chg0 (hcw.trans ((hc34.trans G38).trans c39))) ⟨ym.chg0 i38 c39, trivial⟩) ((hls.drop j).chg0 (hcw.trans ((hc34.trans G38).trans c39)))
 have L40 := L39.chg c40 (L39.apartSl (zv.chg0 i34 (G38.trans c39)) rfl)
 have L45 := L40.chg c45 (L40.apartSl i40 rfl)
 have hwr : zbN s rows row = rows.take j ++ [row] ++ rows.drop j := by unfold zbN; rw [hT, hD]; simp
 have hlen : (zbN s rows row).length = 0 + j + 1 + (rows.length - j) := by rw [zh8]; omega
 have hR45 : yl w45 (.slice p45 (0 + j + 1 + (rows.length - j)) q45) (zbN s rows row) := ⟨_, by rw [hlen]; exact i45, by rw [hwr]; simpa using L45⟩
 have kA : zS wA b2 54 [c, k, u, .slice p45 (0 + j + 1 + (rows.length - j)) q45] := kA
 have hRA := hR45.chgB (k2x.chg0 H45) rfl rfl cA
 have k4A := (k4x.chg0 H45).chg cA (by simp; omega)
 refine Sr ?_
 refine Og (zg yA ye rfl rfl (zB.of_blk0 kA)) rfl ?_
 refine zC (gn rfl) (zu ye rfl rfl rfl rfl k4A (by simp) (yx.one h.sch _ _ _) ?_)
 intro wB nB cB kB
 refine E1 4 rfl (zi ?_)
 refine zlq rfl yA ye rfl rfl (zB.of_blk0 kB) ?_
 have hcB : zk [] w wB := ((hcw.trans H45).own cA (by intro y hy; simp at hy; omega)).own cB (by intro y hy; simp at hy; omega)
 exact ⟨_, rfl, ⟨h.sch.chg0 hcB, hRA.chgB k4A rfl rfl cB, h.ok.ins hf hg hcl h400, h.nm⟩, hcB⟩
section
variable {P : Program} {fn : Func} {R : Value → World → Prop} {n : Nat} {F : Fr} {w : World}
theorem zmH {t u ty k b off : Nat} {y : Value} {cs : List Value} (hr : fn.results = #[.cell u ty, .tmp t]) (hag : zap P ty = some true) (hk : zak P ty = some k) (hu : get F u = some (.pointer (some ⟨b, off, none⟩))) (hy : get F t = some y) (hl : cs.length = k) (hc : zB w b off cs)
 (h : R (.tuple #[.agg cs.toArray, y]) w) (hm : zad F = [] := by rfl) : zeC P fn R n .ret F w := by
 refine ⟨.tuple #[.agg cs.toArray, y], fun a ha => ?_, hm, h⟩
 subst hl
 have h1 : (loadCells ⟨b, off, none⟩ cs.length).run P w = .ok cs.toArray w := run_loadCells_list w ⟨b, off, none⟩ cs (fun j v hv => by rw [Addr.add_lit]; exact hc j v hv)
 simp [results, hr, ha.get u _ hu, ha.get t _ hy, asAddr, loadVar, zat hag, zW hk, h1]
theorem zeN {t u s ty k b off : Nat} {x y : Value} {cs : List Value} (hr : fn.results = #[.cell u ty, .tmp t, .tmp s]) (hag : zap P ty = some true) (hk : zak P ty = some k) (hu : get F u = some (.pointer (some ⟨b, off, none⟩))) (hx : get F t = some x) (hy : get F s = some y) (hl : cs.length = k) (hc : zB w b off cs)
 (h : R (.tuple #[.agg cs.toArray, x, y]) w) (hm : zad F = [] := by rfl) : zeC P fn R n .ret F w := by
 refine ⟨.tuple #[.agg cs.toArray, x, y], fun a ha => ?_, hm, h⟩
 subst hl
 have h1 : (loadCells ⟨b, off, none⟩ cs.length).run P w = .ok cs.toArray w := run_loadCells_list w ⟨b, off, none⟩ cs (fun j v hv => by rw [Addr.add_lit]; exact hc j v hv)
 simp [results, hr, ha.get u _ hu, ha.get t _ hx, ha.get s _ hy, asAddr, loadVar, zat hag, zW hk, h1]
end
theorem zls (c k u o v : Value) (s : yn) (rows : LV) (row : List zP) (w : World) (h : yx w c k u o s rows) (hl : zK w v row) (hg : ∀ x ∈ row, x.Rng) :
 z9 TP 56 #[.agg #[c, k, u, o], v] w fun r w' => ∃ o', r = .tuple #[.agg #[c, k, u, o'], Ii (zb4 s rows row)] ∧ yx w' c k u o' s (zcO s rows row) ∧ zk [] w w' := by
 obtain ⟨po, co, rfl, hco⟩ := h.rws.val
 have hrl := h.ok.le
 refine A2 Tryz.func56 rfl rfl ?_
 refine Sr ?_
 refine Ob rfl rfl ?_
 intro b2 w2 e2 n2 c2 k2
 refine zC (gn rfl) (zI zcW rfl rfl ?_)
 intro b4 w4 e4 n4 c4 k4
 refine Oa rfl (E3 1 2 4 rfl ?_)
 have k2w : zS w4 b2 54 [c, k, u, .slice po rows.length co] := k2.chg0 c4
 have hcw4 := c2.trans c4
 have hs2 := c2.size
 refine ze (Sr (Od zgm rfl ?_))
 refine Og (zg zbu zbt rfl rfl (zB.of_blk k2w 0 [c, k, u] ⟨[_], rfl⟩)) rfl ?_
 refine Om rfl ?_
 refine Oc zsG rfl rfl rfl (zoY _ _ _ _ s row _ (h.sch.chg0 hcw4) (ya.chg0 hl hcw4) h.nm) ?_
 rintro v10 w10 ⟨rfl, c10⟩
 refine Oa rfl (E4 1 2 4 6 rfl ?_)
 have k2x := k2w.chg0 c10
 have k4x := k4.chg0 c10
 have hcx := hcw4.trans c10
 refine ze ?_
 by_cases hf : yT s row = 0
 ·refine za (Om rfl ?_)
  refine Og (vf (zX rfl rfl) (by simp [hf])) rfl ?_
  refine E5 1 2 4 6 12 rfl (zb rfl (zm (ze (Sr ?_))))
  refine Og (zg yA ye rfl rfl (zB.of_blk0 k2x)) rfl ?_
  refine Om rfl ?_
  refine Oc zvo rfl rfl rfl (zmz _ _ _ _ _ s rows row e0 _ (h.chg0 hcx) (ya.chg0 hl hcx) hf) ?_
  rintro v17 w17 ⟨rfl, c17⟩
  refine E4 1 2 4 17 rfl ?_
  have k2y := k2x.chg0 c17
  have k4y := k4x.chg0 c17
  have hcy := hcx.trans c17
  cases ht : zbV s rows row e0 with
  | true =>
   refine zd rfl (Sr ?_)
   refine Og (zg yA ye rfl rfl (zB.of_blk0 k2y)) rfl ?_
   refine zC (gn rfl) (zu ye rfl rfl rfl rfl k4y (by simp) (yx.one h.sch _ _ _) ?_)
   intro wB nB cB kB
   refine Oa rfl (E2 4 5 rfl (zi ?_))
   repeat first | refine tr ?_ | refine br ?_
   refine zmH rfl yA ye rfl rfl rfl (zB.of_blk0 kB) ?_
   have hcB : zk [] w wB := hcy.own cB (by intro y hy; simp at hy; omega)
   have e : zb4 s rows row = 220 := by simp [zb4, hf, ht]
   exact ⟨.slice po rows.length co, by rw [e]; rfl, by simp only [zcO, e]; exact h.chg0 hcB, hcB⟩
  | false =>
   refine zb rfl (zm (ze (ze ?_)))
   by_cases h4 : 400 ≤ rows.length
   ·refine za (Od yF rfl ?_)
    refine Ol zbc rfl (k2y.cell' (i := 3) rfl) ?_
    refine On zao rfl ?_
    refine Og (vt (yt rfl rfl) (by simp; omega)) rfl ?_
    refine E4 1 2 4 22 rfl (zd rfl (Sr ?_))
    refine Og (zg yA ye rfl rfl (zB.of_blk0 k2y)) rfl ?_
    refine zC (gn rfl) (zu ye rfl rfl rfl rfl k4y (by simp) (yx.one h.sch _ _ _) ?_)
    intro wB nB cB kB
    refine Oa rfl (E2 4 5 rfl (zi ?_))
    repeat first | refine tr ?_ | refine br ?_
    refine zmH rfl yA ye rfl rfl rfl (zB.of_blk0 kB) ?_
    have hcB : zk [] w wB := hcy.own cB (by intro y hy; simp at hy; omega)
    have e : zb4 s rows row = 3 := by simp [zb4, hf, ht, h4]
    exact ⟨.slice po rows.length co, by rw [e]; rfl, by simp only [zcO, e]; exact h.chg0 hcB, hcB⟩
   refine za (Od yF rfl ?_)
   refine Ol zbc rfl (k2y.cell' (i := 3) rfl) ?_
   refine On zao rfl ?_
   refine Og (vf (yt rfl rfl) (by simp; omega)) rfl ?_
   refine E4 1 2 4 22 rfl (zb rfl (zm (ze ?_)))
   have hcl : ∀ r ∈ rows, yy s r row = false := by
    rw [zie h.ok] at ht
    intro r hr
    have := List.any_eq_false.1 ht r hr
    simpa using this
   refine za ?_
   refine Og (zg yA ye rfl rfl (zB.of_blk0 k2y)) rfl ?_
   refine Om rfl ?_
   refine Oc ztN rfl rfl rfl (zl1 _ _ _ _ _ s rows row _ (h.chg0 hcy) (ya.chg0 hl hcy) hf hg hcl (by omega)) ?_
   rintro v26 w26 ⟨o', rfl, h26, c26⟩
   obtain ⟨p26, q26, rfl, -⟩ := h26.rws.val
   refine zC (gn rfl) (zu ye rfl rfl rfl rfl (k4y.chg0 c26) (by simp) (yx.one h26.sch _ _ _) ?_)
   intro wB nB cB kB
   refine Oa rfl (E2 4 5 rfl (zi ?_))
   refine zmH rfl yA ye rfl rfl rfl (zB.of_blk0 kB) ?_
   have hcB : zk [] w wB := (hcy.trans c26).own cB (by intro y hy; simp at hy; omega)
   have e : zb4 s rows row = 0 := by simp [zb4, hf, ht, h4]
   refine ⟨.slice p26 _ q26, by rw [e]; rfl, ?_, hcB⟩
   simp only [zcO, e, if_true]
   exact ⟨h.sch.chg0 hcB, h26.rws.chgB (k4y.chg0 c26) rfl rfl cB, h26.ok, h26.nm⟩
 refine za (Om rfl ?_)
 refine Og (vt (zX rfl rfl) (by simp [hf])) rfl ?_
 refine E5 1 2 4 6 12 rfl (zd rfl (Sr ?_))
 refine Og (zg yA ye rfl rfl (zB.of_blk0 k2x)) rfl ?_
 refine Om rfl ?_
 refine zC (gn rfl) (zu ye rfl rfl rfl rfl k4x (by simp) (yx.one h.sch _ _ _) ?_)
 intro wB nB cB kB
 refine Oa rfl (E2 4 5 rfl (zi ?_))
 repeat first | refine tr ?_ | refine br ?_
 refine zmH rfl yA ye rfl rfl rfl (zB.of_blk0 kB) ?_
 have hcB : zk [] w wB := hcx.own cB (by intro y hy; simp at hy; omega)
 have e : zb4 s rows row = yT s row := by simp [zb4, hf]
 exact ⟨.slice po rows.length co, by rw [e]; rfl, by simp only [zcO, e, if_neg hf]; exact h.chg0 hcB, hcB⟩
theorem zoD (c k u o v : Value) (s : yn) (rows : LV) (row : List zP) (w : World) (h : yx w c k u o s rows) (hl : zK w v row) (hg : ∀ x ∈ row, x.Rng) :
 z9 TP 57 #[.agg #[c, k, u, o], v] w fun r w' => ∃ o', r = .tuple #[.agg #[c, k, u, o'], .bool (zk3 s rows row), Ii (zkZ s rows row)] ∧ yx w' c k u o' s (zcO s rows row) ∧ zk [] w w' := by
 obtain ⟨po, co, rfl, hco⟩ := h.rws.val
 refine A2 Tryz.func57 rfl rfl ?_
 refine Sr ?_
 refine Ob rfl rfl ?_
 intro b2 w2 e2 n2 c2 k2
 refine zC (gn rfl) (zI zcW rfl rfl ?_)
 intro b4 w4 e4 n4 c4 k4
 refine Oa rfl (Oa rfl (E3 1 2 4 rfl ?_))
 have k2w : zS w4 b2 54 [c, k, u, .slice po rows.length co] := k2.chg0 c4
 have hcw4 := c2.trans c4
 have hs2 := c2.size
 refine Sr ?_
 refine Og (zg yA ye rfl rfl (zB.of_blk0 k2w)) rfl ?_
 refine Om rfl ?_
 refine Oc zwo rfl rfl rfl (zls _ _ _ _ _ s rows row _ (h.chg0 hcw4) (ya.chg0 hl hcw4) hg) ?_
 rintro v12 w12 ⟨o', rfl, h12, c12⟩
 obtain ⟨p12, q12, rfl, -⟩ := h12.rws.val
 refine Om rfl (Oe rfl rfl (Oe rfl rfl ?_))
 refine zC (gn rfl) (zI zcW rfl rfl ?_)
 intro b7 w7 e7 n7 c7 k7
 refine zC (gn rfl) (zu ye rfl rfl rfl rfl k7 (by simp) (yx.one h12.sch _ _ _) ?_)
 intro wA nA cA kA
 refine Oa rfl (E4 2 4 7 8 rfl ?_)
 have hs4 := c4.size
 have hs12 := c12.size
 have kA : zS wA b7 54 [c, k, u, .slice p12 (zcO s rows row).length q12] := kA
 have hA7 : zk [] w12 wA := c7.own cA (by intro y hy; simp at hy; omega)
 have hcx := (hcw4.trans c12).trans hA7
 have k2x := (k2w.chg0 c12).chg0 hA7
 have k4x := (k4.chg0 c12).chg0 hA7
 have hRA := h12.rws.chg0 hA7
 refine ze (ze ?_)
 by_cases h2 : zb4 s rows row = 220
 ·refine za (Om rfl ?_)
  refine Og (vt (zw rfl rfl) (by simp [h2])) rfl ?_
  refine E5 2 4 7 8 16 rfl (zd rfl (Sr ?_))
  refine Og (zg yA ye rfl rfl (zB.of_blk0 k2x)) rfl ?_
  refine zC (gn rfl) (zu ye rfl rfl rfl rfl k4x (by simp) (yx.one h.sch _ _ _) ?_)
  intro wB nB cB kB
  refine Oa rfl (Oa rfl (E3 4 5 6 rfl (zi ?_)))
  repeat first | refine tr ?_ | refine br ?_
  refine zeN rfl yA ye rfl rfl rfl rfl (zB.of_blk0 kB) ?_
  have hcB : zk [] w wB := hcx.own cB (by intro y hy; simp at hy; omega)
  have e1 : zk3 s rows row = false := by simp [zk3, h2]
  have e2 : zkZ s rows row = 0 := by simp [zkZ, h2]
  exact ⟨.slice po rows.length co, by rw [e1, e2]; rfl, by simp only [zcO, h2]; exact h.chg0 hcB, hcB⟩
 refine za (Om rfl ?_)
 refine Og (vf (zw rfl rfl) (by simp [h2])) rfl ?_
 refine E5 2 4 7 8 16 rfl (zb rfl (zm (Sr ?_)))
 refine Og (zg yA ye rfl rfl (zB.of_blk0 kA)) rfl ?_
 refine Om rfl (Og (zw rfl rfl) rfl (Om rfl ?_))
 refine zC (gn rfl) (zu ye rfl rfl rfl rfl k4x (by simp) (yx.one h.sch _ _ _) ?_)
 intro wB nB cB kB
 refine Oa rfl (Oa rfl (E3 4 5 6 rfl (zi ?_)))
 refine zeN rfl yA ye rfl rfl rfl rfl (zB.of_blk0 kB) ?_
 have hcB : zk [] w wB := hcx.own cB (by intro y hy; simp at hy; omega)
 have e2 : zkZ s rows row = zb4 s rows row := by simp [zkZ, h2]
 exact ⟨.slice p12 (zcO s rows row).length q12, by rw [e2]; rfl, ⟨h.sch.chg0 hcB, hRA.chgB k4x rfl rfl cB, h12.ok, h12.nm⟩, hcB⟩
end Go.Wk
