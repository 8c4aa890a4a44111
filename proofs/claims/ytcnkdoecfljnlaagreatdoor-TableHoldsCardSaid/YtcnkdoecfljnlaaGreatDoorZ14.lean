/- joined texts -/
import Derived.Test.YtcnkdoecfljnlaaGreatDoorZ13
set_option linter.all false
namespace Go.Wk
open Go.Proofs
set_option maxRecDepth 10000
theorem ztO : zs8 TP 68 = true := by kernel_rfl
theorem zk.lowS {S : List Nat} {w W X : World} (h : zk [] w W) (hc : zk S W X) (hS : ∀ b ∈ S, w.heap.size ≤ b) : Low w X := fun b hb => (hc.block b (Nat.lt_of_lt_of_le hb h.size) (fun hm => by have := hS b hm; omega)).trans (h.block b hb (by simp))
theorem zqy {s : yn} {rows : LV} (h : yZ s rows) {key : ByteArray} {pre : List (List zP × Value)} {x : List zP × Value} (hg : (pre ++ [x]).map (·.1) <+: zew s rows key) : rows[atR s rows key + pre.length]? = some x.1 := by
 rw [znw h] at hg
 obtain ⟨tl, ht⟩ := hg
 rw [← List.getElem?_drop, ← ht, List.map_append]
 rw [List.getElem?_append_left (by simp), List.getElem?_append_right (by simp)]
 simp
theorem zK.chg0 {w w' : World} {v : Value} {l : List zP} (h : zK w v l) (hc : zk [] w w') : zK w' v l := ya.chg0 h hc
theorem zsc : zjp 54 := ⟨rfl, rfl, rfl, rfl, rfl, rfl, rfl, rfl⟩
theorem ziP : ∀ u ∈ ([.slice none 0 0, .slice none 0 0, .slice none 0 0, .slice none 0 0] : List Value), zg8 u = false := by
 intro u hu
 simp at hu
 subst hu
 rfl
theorem zjN {s : yn} {r : List zP} (h : yT s r = 0) : r.length ≤ 1048576 := by
 have h1 := (zV (zav h).1).1
 have h2 := (zav h).2.1
 omega
section
variable {s : yn} {rows : LV} (h : yZ s rows)
include h
theorem zor (k : ByteArray) : ((zb7 s rows k).getD []).length ≤ 1048576 := by
 cases hg : zb7 s rows k with
 | none => simp
 | some r => exact zjN (h.fit r (zcy hg).1)
theorem zqP (k : ByteArray) (row : List zP) : (zfk s rows k row).length ≤ 1048576 := by
 unfold zfk
 split
 ·exact zor h k
 simp
theorem zmv (row : List zP) : (∀ r ∈ zcB s rows row, r.length ≤ 1048576) ∧ (zcB s rows row).length ≤ 1048576 := by
 refine ⟨fun r hr => zjN (h.fit r (zh0 hr).1), ?_⟩
 have h1 := h.le
 unfold zcB
 split
 ·have := List.length_filter_le (fun r => yy s r row) rows
  unfold zan
  omega
 simp
theorem zrm (n : Int) (vals : List zP) : ((za6 s rows n vals).getD []).length ≤ 1048576 := by
 cases hf : za6 s rows n vals with
 | none => simp
 | some r =>
  unfold za6 at hf
  split at hf
  ·cases hf
  split at hf
  ·cases hf
  exact zjN (h.fit r (List.mem_of_find?_eq_some hf))
end
section
variable {w w1 w2 : World} {t : Nat} {own : List Nat} {s : yn} {rt rw rt' rw' : LV} {c k u o o' : Value}
def zdg (w : World) (t : Nat) (own : List Nat) (c k u : Value) (s : yn) (rows : LV) : Prop := yS w t own s rows ∧ ∃ pm sv, zS w t 98 [Pt pm, c, k, u, sv]
theorem zdg.chg0 (h : zdg w t own c k u s rt) (hc : zk [] w w1) : zdg w1 t own c k u s rt := ⟨h.1.chg0 hc, let ⟨pm, sv, hb⟩ := h.2; ⟨pm, sv, hb.chg0 hc⟩⟩
theorem zdg.put (h : zdg w t own c k u s rt) (hs : y4 w1 c k u s) {b : Nat} {e : TypeId} {x : List Value} (hb : zS w b e x) (ho : zjp e) (hc : zk [b] w w1) : zdg w1 t own c k u s rt := by
 obtain ⟨⟨pm, c', k', u', sv, xs, main, subs, e1, hm, ht⟩, pm0, sv0, hbt⟩ := h
 have hq := Option.some.inj ((show w.heap[t]? = _ from hbt).symm.trans hm.blk)
 cases hq
 have hm' := hm.chgB hb ho hc hs
 exact ⟨⟨_, _, _, _, _, xs, main, subs, e1, hm', ht⟩, _, _, hm'.blk⟩
theorem zdg.turn (h : zdg w t own c k u s rt) (hc : zk own w w1) (h1 : yS w1 t own s rt') : zdg w1 t own c k u s rt' := ⟨h1, let ⟨pm, sv, hb⟩ := h.2; ⟨pm, sv, hb.tab h.1 rfl hc⟩⟩
theorem zcr (h : zdg w t own c k u s rt) (hr : yx w c k u o s rw) (hc : zk own w w1) (h1 : yS w1 t own s rt') (hv : yl w1 o' rw') (hok : yZ s rw') {b : Nat} {x : List Value} (hb : zS w1 b 54 x) (hf : w.heap.size ≤ b) (hc2 : zk [b] w1 w2) :
 zdg w2 t own c k u s rt' ∧ yx w2 c k u o' s rw' ∧ zk own w w2 :=
 have hcc := hc.trans' hc2 (fun y hy => .inr (by simp at hy; omega))
 ⟨(h.turn hc h1).put (hr.sch.tab h.1 hcc) hb zsc hc2, ⟨hr.sch.tab h.1 hcc, hv.chgB hb rfl rfl hc2, hok, hr.nm⟩, hcc⟩
theorem zhu (h : yS w t own s rt) (n : Int) (v : Value) (vals : List zP) (hl : zK w v vals) (hg : ∀ x ∈ vals, x.Rng) :
 z9 TP 31 #[Pt t, Ii n, v] w fun r w' => ∃ o, r = .tuple #[o, .bool (za6 s rt n vals).isSome] ∧ zK w' o ((za6 s rt n vals).getD []) ∧ (∀ b ∈ zn o, w.heap.size ≤ b) ∧ zk [] w w' :=
 let ⟨_, _, _, _, _, _, _, _, _, hm, ht⟩ := h; zn9 n v vals w hm ht hl hg
end
def zjI (w : World) (own : List Nat) (c k u : Value) (s : yn) (rt rw : LV) (key : ByteArray) (a : zbT) (r : Value) (w' : World) : Prop :=
 ∃ t' own' o' b, r = .tuple #[Pt t', .agg #[c, k, u, o'], .bool b] ∧ zdg w' t' own' c k u s (zcg s rt key a) ∧ yx w' c k u o' s (zcg s rw key a) ∧ (rt = rw → b = true) ∧ zk own w w' ∧ (own' = own ∨ ∀ p ∈ own', w.heap.size ≤ p)
set_option maxHeartbeats 1000000 in
theorem ztl (t : Nat) (own : List Nat) (c k u o : Value) (s : yn) (rt rw : LV) (x : zcb) (a : zbT) (w : World) (hE : EOk w) (hA : zdg w t own c k u s rt) (hr : yx w c k u o s rw) (hx : zbO w x a) (hn : a.row.length ≤ 1048576) (h01 : a.what = 0 ∨ a.what = 1) :
 z9 TP 19 #[Pt t, .agg #[c, k, u, o], .agg x.cs.toArray] w (zjI w own c k u s rt rw (zaB s rw a) a) := by
 have h := hA.1
 obtain ⟨xw, xa, xr, xk⟩ := x
 have hx0 := hx
 obtain ⟨e1, e2, e3, hrow, hrng, hat⟩ := hx
 simp only at e1 e2 e3
 subst e1 e2 e3
 obtain ⟨po, co, rfl, hco⟩ := hr.rws.val
 have hokT := h.ok
 have hokR := hr.ok
 refine A3 Tryz.func19 rfl rfl ?_
 refine Sr ?_
 refine Ob rfl rfl ?_
 intro b4 w4 e4 n4 c4 k4
 refine Ob rfl rfl ?_
 intro b5 w5 e5 n5 c5 k5
 refine Oa rfl ?_
 refine zC (gn rfl) (zI zcW rfl rfl ?_)
 intro b7 w7 e7 n7 c7 k7
 refine Oa rfl (E4 0 4 5 7 rfl ?_)
 have hc7 : zk [] w w7 := (c4.trans c5).trans c7
 have k4 : zS w7 b4 54 [c, k, u, .slice po rw.length co] := (k4.chg0 c5).chg0 c7
 have k5 : zS w7 b5 50 [Ii a.what, Ii a.at', xr, .string a.key] := k5.chg0 c7
 have k7 : zS w7 b7 54 [.slice none 0 0, .slice none 0 0, .slice none 0 0, .slice none 0 0] := k7
 have hs4 := c4.size
 have hs5 := c5.size
 have hs7 := hc7.size
 have hb7 : w.heap.size ≤ b7 := by omega
 have hT7 := h.chg0 hc7
 have hr7 := hr.chg0 hc7
 have hx7 := hx0.chg0 hc7
 have hE7 := hE.chg0 hc7
 have hrow7 : zK w7 xr a.row := hrow.chg0 hc7
 refine ze (Sr (Od zdE rfl ?_))
 refine Ol ag3 rfl (k5.cell' (i := 0) rfl) ?_
 refine E5 0 4 5 7 36 rfl (zq ?_)
 refine yh (fun F wx => F = [(0, Pt t), (4, Pt b4), (5, Pt b5), (7, Pt b7), (36, Ii a.what), (37, .bool true)] ∧ wx = w7) ?_ ?_
 ·refine ze ?_
  by_cases h0 : a.what = 0
  ·refine za ?_
   refine Og (vt (zw rfl rfl) (by simp [h0])) rfl ?_
   refine Oa rfl (E6 0 4 5 7 36 37 rfl (zd rfl (zm ?_)))
   exact ⟨rfl, rfl⟩
  refine za ?_
  refine Og (vf (zw rfl rfl) (by simp [h0])) rfl ?_
  refine Oa rfl (E6 0 4 5 7 36 37 rfl (zb rfl (za ?_)))
  refine Og (vt (zw rfl rfl) (by simp; omega)) rfl ?_
  refine Oa rfl (E6 0 4 5 7 36 37 rfl ?_)
  exact ⟨rfl, rfl⟩
 rintro F w7 ⟨rfl, rfl⟩
 refine zd rfl ?_
 have hs : ∀ R : LV, zcg s R (zaB s rw a) a = zcO s R a.row := fun R => by unfold zcg; rw [if_pos (by omega)]
 refine Sr ?_
 refine Og (zg yA ye rfl rfl (zB.of_blk0 k4)) rfl ?_
 refine Od za0 rfl ?_
 refine Ol zaV rfl (k5.cell' (i := 2) rfl) ?_
 refine Oc zwo rfl rfl rfl (zls _ _ _ _ _ s rw a.row _ hr7 hrow7 hrng) ?_
 rintro v44 w44 ⟨o', rfl, h44, c44⟩
 obtain ⟨p44, q44, rfl, -⟩ := h44.rws.val
 refine Om rfl (Oe rfl rfl (Oe rfl rfl ?_))
 refine zC (gn rfl) (zI zcW rfl rfl ?_)
 intro b9 w9 e9 n9 c9 k9
 refine zC (gn rfl) (zu ye rfl rfl rfl rfl k9 (by simp) (yx.one h44.sch _ _ _) ?_)
 intro wA nA cA kA
 refine Oa rfl (E5 0 5 7 9 10 rfl ?_)
 have kA : zS wA b9 54 [c, k, u, .slice p44 (zcO s rw a.row).length q44] := kA
 have hcA : zk [] w7 wA := (c44.trans c9).own cA (by intro y hy; have := c44.size; simp at hy; omega)
 have hTA := hT7.chg0 hcA
 have k5A := k5.chg0 hcA
 have k7A := k7.chg0 hcA
 have hvA : yl wA _ _ := (h44.rws.chg0 c9).chgB k9 rfl rfl cA
 have hd : zk [] wA wA.drew := zk.drew [] _
 refine ze ?_
 refine zO (fun wz => zk own wA wz) mix (by kernel_rfl) hd.any ?_
 refine Tm rfl ?_
 refine Tr (fun wz hz => zg yA ye rfl rfl (zB.of_blk0 (kA.tab hTA rfl hz))) rfl ?_
 refine Tm rfl (Td za0 rfl ?_)
 refine Tr (fun wz hz => zj zaV rfl ((k5A.tab hTA rfl hz).cell' (i := 2) rfl)) rfl ?_
 refine Tc zns rfl rfl rfl (zkT t own s rt xr a.row _ ((hE7.chg0 hcA).chg0 hd) (hTA.chg0 hd) ((hrow7.chg0 hcA).chg0 hd) hrng hn) ?_
 rintro v52 w52 ⟨rfl, i52, c52⟩
 refine ⟨.inl (hd.any.transS c52), ?_⟩
 refine Tc zdl rfl rfl rfl (zby _ _) ?_
 rintro v53 w53 ⟨rfl, rfl⟩
 refine ⟨.inl (hd.any.transS c52), ?_⟩
 refine Tm rfl ?_
 refine Tp (fun _ => zw rfl rfl) rfl ?_
 refine Ta rfl ?_
 refine zaq rfl (gn rfl) (zu ye rfl rfl rfl rfl (k7A.tab hTA rfl (hd.any.transS c52)) (by simp) (yx.one h44.sch _ _ _) ?_)
 intro wB nB cB kB
 refine ⟨.inr (by kernel_rfl), ?_⟩
 refine Ta rfl (D3 6 7 8 rfl (zi ?_))
 repeat first | refine tr ?_ | refine br ?_
 refine zev rfl yA ye rfl rfl rfl rfl (zB.of_blk0 kB) ?_
 have hcU : zk own wA w53 := hd.any.transS c52
 obtain ⟨g1, g2, g3⟩ := zcr hA hr ((hc7.trans hcA).any.transS hcU) i52 (hvA.tab hTA hcU) h44.ok (k7A.tab hTA rfl hcU) hb7 cB
 refine ⟨t, own, _, _, rfl, by rw [hs]; exact g1, by rw [hs]; exact g2, fun e => by subst e; exact decide_eq_true rfl, g3, .inl rfl⟩
set_option maxHeartbeats 1000000 in
theorem ztJ (t : Nat) (own : List Nat) (c k u o : Value) (s : yn) (rt rw : LV) (x : zcb) (a : zbT) (w : World) (hE : EOk w) (hA : zdg w t own c k u s rt) (hr : yx w c k u o s rw) (hx : zbO w x a) (hn : a.row.length ≤ 1048576) (h2 : a.what = 2) :
 z9 TP 19 #[Pt t, .agg #[c, k, u, o], .agg x.cs.toArray] w (zjI w own c k u s rt rw (zaB s rw a) a) := by
 have h := hA.1
 obtain ⟨xw, xa, xr, xk⟩ := x
 have hx0 := hx
 obtain ⟨e1, e2, e3, hrow, hrng, hat⟩ := hx
 simp only at e1 e2 e3
 subst e1 e2 e3
 obtain ⟨po, co, rfl, hco⟩ := hr.rws.val
 have hokT := h.ok
 have hokR := hr.ok
 refine A3 Tryz.func19 rfl rfl ?_
 refine Sr ?_
 refine Ob rfl rfl ?_
 intro b4 w4 e4 n4 c4 k4
 refine Ob rfl rfl ?_
 intro b5 w5 e5 n5 c5 k5
 refine Oa rfl ?_
 refine zC (gn rfl) (zI zcW rfl rfl ?_)
 intro b7 w7 e7 n7 c7 k7
 refine Oa rfl (E4 0 4 5 7 rfl ?_)
 have hc7 : zk [] w w7 := (c4.trans c5).trans c7
 have k4 : zS w7 b4 54 [c, k, u, .slice po rw.length co] := (k4.chg0 c5).chg0 c7
 have k5 : zS w7 b5 50 [Ii a.what, Ii a.at', xr, .string a.key] := k5.chg0 c7
 have k7 : zS w7 b7 54 [.slice none 0 0, .slice none 0 0, .slice none 0 0, .slice none 0 0] := k7
 have hs4 := c4.size
 have hs5 := c5.size
 have hs7 := hc7.size
 have hb7 : w.heap.size ≤ b7 := by omega
 have hT7 := h.chg0 hc7
 have hr7 := hr.chg0 hc7
 have hx7 := hx0.chg0 hc7
 have hE7 := hE.chg0 hc7
 have hrow7 : zK w7 xr a.row := hrow.chg0 hc7
 refine ze (Sr (Od zdE rfl ?_))
 refine Ol ag3 rfl (k5.cell' (i := 0) rfl) ?_
 refine E5 0 4 5 7 36 rfl (zq (ze (Sr ?_)))
 refine Og (vf (zw rfl rfl) (by simp; omega)) rfl ?_
 refine Oa rfl (E6 0 4 5 7 36 37 rfl (zb rfl (za ?_)))
 refine Og (vf (zw rfl rfl) (by simp; omega)) rfl ?_
 refine Oa rfl (E6 0 4 5 7 36 37 rfl (zb rfl (Sr ?_)))
 refine Og (vt (zw rfl rfl) (by simp; omega)) rfl ?_
 refine Oa rfl (E6 0 4 5 7 36 56 rfl (zd rfl ?_))
 have hs : ∀ R : LV, zcg s R (zaB s rw a) a = zcO s R a.row := fun R => by unfold zcg; rw [if_pos (by omega)]
 refine Sr ?_
 refine Og (zg yA ye rfl rfl (zB.of_blk0 k4)) rfl ?_
 refine Od za0 rfl ?_
 refine Ol zaV rfl (k5.cell' (i := 2) rfl) ?_
 refine Oc zxN rfl rfl rfl (zoD _ _ _ _ _ s rw a.row _ hr7 hrow7 hrng) ?_
 rintro v62 w62 ⟨o', rfl, h44, c44⟩
 obtain ⟨p44, q44, rfl, -⟩ := h44.rws.val
 refine Om rfl (Oe rfl rfl (Oe rfl rfl (Oe rfl rfl ?_)))
 refine zC (gn rfl) (zI zcW rfl rfl ?_)
 intro b11 w11 e11 n11 c11 k11
 refine zC (gn rfl) (zu ye rfl rfl rfl rfl k11 (by simp) (yx.one h44.sch _ _ _) ?_)
 intro wA nA cA kA
 refine Oa rfl (Oa rfl (E6 0 5 7 11 12 13 rfl ?_))
 have kA : zS wA b11 54 [c, k, u, .slice p44 (zcO s rw a.row).length q44] := kA
 have hcA : zk [] w7 wA := (c44.trans c11).own cA (by intro y hy; have := c44.size; simp at hy; omega)
 have hTA := hT7.chg0 hcA
 have k5A := k5.chg0 hcA
 have k7A := k7.chg0 hcA
 have hvA : yl wA _ _ := (h44.rws.chg0 c11).chgB k11 rfl rfl cA
 refine Sr (Om rfl (Od za0 rfl ?_))
 refine Ol zaV rfl (k5A.cell' (i := 2) rfl) ?_
 refine Oc zuU rfl rfl rfl (zlw t own s rt xr a.row _ (hE7.chg0 hcA) hTA (hrow7.chg0 hcA) hrng hn) ?_
 rintro v70 w70 ⟨rfl, i70, c70⟩
 refine Om rfl (Oe rfl rfl (Oe rfl rfl (Oa rfl (Oa rfl (E7 0 7 11 12 13 14 15 rfl (ze ?_))))))
 have hd : zk [] w70 w70.drew := zk.drew [] _
 have kA := kA.tab hTA rfl c70
 have k7A := k7A.tab hTA rfl c70
 have hvA := hvA.tab hTA c70
 have hcP := (hc7.trans hcA).any.transS c70
 by_cases hg : zk3 s rt a.row = zk3 s rw a.row
 ·refine zO (fun wz => zk [] w70 wz) mix (by kernel_rfl) hd ?_
  refine Tm rfl ?_
  refine Tr (fun wz hz => zg yA ye rfl rfl (zB.of_blk0 (kA.chg0 hz))) rfl ?_
  refine Tm rfl (Tm rfl ?_)
  refine Tp (fun _ => vt (zgH bo4 rfl rfl) (by simp [hg])) rfl ?_
  refine Tm rfl (Tq rfl rfl rfl ?_)
  refine Tv rfl rfl zdl rfl rfl rfl (zby _ _) ?_
  rintro v80 w80 ⟨rfl, rfl⟩
  refine ⟨.inl hd, ?_⟩
  refine Tq rfl rfl rfl ?_
  refine Tg rfl rfl (fun _ => zw rfl rfl) rfl ?_
  refine Tp (fun _ => zL rfl rfl) rfl ?_
  refine Ta rfl ?_
  refine zaq rfl (gn rfl) (zu ye rfl rfl rfl rfl (k7A.chg0 hd) (by simp) (yx.one h44.sch _ _ _) ?_)
  intro wB nB cB kB
  refine ⟨.inr (by kernel_rfl), ?_⟩
  refine Ta rfl (D3 6 7 8 rfl (zi ?_))
  repeat first | refine tr ?_ | refine br ?_
  refine zev rfl yA ye rfl rfl rfl rfl (zB.of_blk0 kB) ?_
  obtain ⟨g1, g2, g3⟩ := zcr hA hr (hcP.trans hd) (i70.chg0 hd) (hvA.chg0 hd) h44.ok (k7A.chg0 hd) hb7 cB
  refine ⟨t, own, _, _, rfl, by rw [hs]; exact g1, by rw [hs]; exact g2, fun e => by subst e; exact decide_eq_true rfl, g3, .inl rfl⟩
 refine zO (fun wz => zk [] w70 wz) mix (by kernel_rfl) hd ?_
 refine Tm rfl ?_
 refine Tr (fun wz hz => zg yA ye rfl rfl (zB.of_blk0 (kA.chg0 hz))) rfl ?_
 refine Tm rfl (Tm rfl ?_)
 refine Tp (fun _ => vf (zgH bo4 rfl rfl) (by simp [hg])) rfl ?_
 refine Tm rfl (Tz rfl rfl (Tz rfl rfl (Tz rfl rfl (Tz rfl rfl ?_))))
 refine Tp (fun _ => zR rfl rfl) rfl ?_
 refine Ta rfl ?_
 refine zaq rfl (gn rfl) (zu ye rfl rfl rfl rfl (k7A.chg0 hd) (by simp) (yx.one h44.sch _ _ _) ?_)
 intro wB nB cB kB
 refine ⟨.inr (by kernel_rfl), ?_⟩
 refine Ta rfl (D3 6 7 8 rfl (zi ?_))
 repeat first | refine tr ?_ | refine br ?_
 refine zev rfl yA ye rfl rfl rfl rfl (zB.of_blk0 kB) ?_
 obtain ⟨g1, g2, g3⟩ := zcr hA hr (hcP.trans hd) (i70.chg0 hd) (hvA.chg0 hd) h44.ok (k7A.chg0 hd) hb7 cB
 refine ⟨t, own, _, _, rfl, by rw [hs]; exact g1, by rw [hs]; exact g2, fun e => absurd (by rw [e]) hg, g3, .inl rfl⟩
set_option maxHeartbeats 1000000 in
theorem zsN (t : Nat) (own : List Nat) (c k u o : Value) (s : yn) (rt rw : LV) (x : zcb) (a : zbT) (w : World) (hE : EOk w) (hA : zdg w t own c k u s rt) (hr : yx w c k u o s rw) (hx : zbO w x a) (hn : a.row.length ≤ 1048576) (h3 : a.what = 3) :
 z9 TP 19 #[Pt t, .agg #[c, k, u, o], .agg x.cs.toArray] w (zjI w own c k u s rt rw (zaB s rw a) a) := by
 have h := hA.1
 obtain ⟨xw, xa, xr, xk⟩ := x
 have hx0 := hx
 obtain ⟨e1, e2, e3, hrow, hrng, hat⟩ := hx
 simp only at e1 e2 e3
 subst e1 e2 e3
 obtain ⟨po, co, rfl, hco⟩ := hr.rws.val
 have hokT := h.ok
 have hokR := hr.ok
 refine A3 Tryz.func19 rfl rfl ?_
 refine Sr ?_
 refine Ob rfl rfl ?_
 intro b4 w4 e4 n4 c4 k4
 refine Ob rfl rfl ?_
 intro b5 w5 e5 n5 c5 k5
 refine Oa rfl ?_
 refine zC (gn rfl) (zI zcW rfl rfl ?_)
 intro b7 w7 e7 n7 c7 k7
 refine Oa rfl (E4 0 4 5 7 rfl ?_)
 have hc7 : zk [] w w7 := (c4.trans c5).trans c7
 have k4 : zS w7 b4 54 [c, k, u, .slice po rw.length co] := (k4.chg0 c5).chg0 c7
 have k5 : zS w7 b5 50 [Ii a.what, Ii a.at', xr, .string a.key] := k5.chg0 c7
 have k7 : zS w7 b7 54 [.slice none 0 0, .slice none 0 0, .slice none 0 0, .slice none 0 0] := k7
 have hs4 := c4.size
 have hs5 := c5.size
 have hs7 := hc7.size
 have hb7 : w.heap.size ≤ b7 := by omega
 have hT7 := h.chg0 hc7
 have hr7 := hr.chg0 hc7
 have hx7 := hx0.chg0 hc7
 have hE7 := hE.chg0 hc7
 have hrow7 : zK w7 xr a.row := hrow.chg0 hc7
 refine ze (Sr (Od zdE rfl ?_))
 refine Ol ag3 rfl (k5.cell' (i := 0) rfl) ?_
 refine E5 0 4 5 7 36 rfl (zq (ze (Sr ?_)))
 refine Og (vf (zw rfl rfl) (by simp; omega)) rfl ?_
 refine Oa rfl (E6 0 4 5 7 36 37 rfl (zb rfl (za ?_)))
 refine Og (vf (zw rfl rfl) (by simp; omega)) rfl ?_
 refine Oa rfl (E6 0 4 5 7 36 37 rfl (zb rfl (Sr ?_)))
 refine Og (vf (zw rfl rfl) (by simp; omega)) rfl ?_
 refine Oa rfl (E6 0 4 5 7 36 56 rfl (zb rfl (Sr ?_)))
 refine Og (vt (zw rfl rfl) (by simp; omega)) rfl ?_
 refine Oa rfl (E6 0 4 5 7 36 84 rfl (zd rfl ?_))
 have hs : ∀ R : LV, zcg s R (zaB s rw a) a = zdj s R a.row := fun R => by unfold zcg; rw [if_neg (by omega), if_pos h3]
 refine Sr ?_
 refine Og (zg yA ye rfl rfl (zB.of_blk0 k4)) rfl ?_
 refine Od za0 rfl ?_
 refine Ol zaV rfl (k5.cell' (i := 2) rfl) ?_
 refine Oc zxn rfl rfl rfl (zn4 _ _ _ _ _ s rw a.row _ hr7 hrow7 hrng) ?_
 rintro v90 w90 ⟨o', x', rfl, i44, h44, c44⟩
 obtain ⟨p44, q44, rfl, -⟩ := h44.rws.val
 refine Om rfl (Oe rfl rfl (Oe rfl rfl (Oe rfl rfl ?_)))
 refine zC (gn rfl) (zI zcW rfl rfl ?_)
 intro b16 w16 e16 n16 c16 k16
 refine zC (gn rfl) (zu ye rfl rfl rfl rfl k16 (by simp) (yx.one h44.sch _ _ _) ?_)
 intro wA nA cA kA
 refine Oa rfl (Oa rfl (E6 0 5 7 16 17 18 rfl ?_))
 have kA : zS wA b16 54 [c, k, u, .slice p44 (zdj s rw a.row).length q44] := kA
 have hcA : zk [] w7 wA := (c44.trans c16).own cA (by intro y hy; have := c44.size; simp at hy; omega)
 have hTA := hT7.chg0 hcA
 have k5A := k5.chg0 hcA
 have k7A := k7.chg0 hcA
 have hvA : yl wA _ _ := (h44.rws.chg0 c16).chgB k16 rfl rfl cA
 have hgA : yl wA x' (zcB s rw a.row) := (i44.chg0 c16).chgB k16 rfl rfl cA
 refine Sr (Om rfl (Od za0 rfl ?_))
 refine Ol zaV rfl (k5A.cell' (i := 2) rfl) ?_
 refine Oc ztf rfl rfl rfl (zgC t own s rt xr a.row _ (hE7.chg0 hcA) hTA (hrow7.chg0 hcA) hrng hn) ?_
 rintro v98 w98 ⟨o98, rfl, i98, f98, iT, c98⟩
 refine Om rfl (Oe rfl rfl (Oe rfl rfl (Oa rfl (Oa rfl (E7 0 7 16 17 18 19 20 rfl (ze ?_))))))
 have hd : zk [] w98 w98.drew := zk.drew [] _
 have kA := kA.tab hTA rfl c98
 have k7A := k7A.tab hTA rfl c98
 have hvA := hvA.tab hTA c98
 have hgA := hgA.tab hTA c98
 have hcP := (hc7.trans hcA).any.transS c98
 obtain ⟨l1, l2⟩ := zmv hokT a.row
 by_cases hg : zcB s rt a.row = zcB s rw a.row
 ·refine zO (fun wz => zk [] w98 wz) mix (by kernel_rfl) hd ?_
  refine Tm rfl ?_
  refine Tr (fun wz hz => zg yA ye rfl rfl (zB.of_blk0 (kA.chg0 hz))) rfl ?_
  refine Tm rfl (Tm rfl ?_)
  refine Tc ztg rfl rfl rfl (zfG o98 x' _ _ _ (i98.chg0 hd) (hgA.chg0 hd).rows l1 l2) ?_
  rintro v105 w105 ⟨e105, c105⟩
  rw [decide_eq_true hg] at e105
  subst e105
  refine ⟨.inl (hd.trans c105), ?_⟩
  refine Tm rfl (Tq rfl rfl rfl ?_)
  refine Tv rfl rfl zdl rfl rfl rfl (zby _ _) ?_
  rintro v108 w108 ⟨rfl, rfl⟩
  refine ⟨.inl (hd.trans c105), ?_⟩
  refine Tq rfl rfl rfl ?_
  refine Tg rfl rfl (fun _ => zw rfl rfl) rfl ?_
  refine Tp (fun _ => zL rfl rfl) rfl ?_
  refine Ta rfl ?_
  refine zaq rfl (gn rfl) (zu ye rfl rfl rfl rfl ((k7A.chg0 hd).chg0 c105) (by simp) (yx.one h44.sch _ _ _) ?_)
  intro wB nB cB kB
  refine ⟨.inr (by kernel_rfl), ?_⟩
  refine Ta rfl (D3 6 7 8 rfl (zi ?_))
  repeat first | refine tr ?_ | refine br ?_
  refine zev rfl yA ye rfl rfl rfl rfl (zB.of_blk0 kB) ?_
  have hdc := hd.trans c105
  obtain ⟨g1, g2, g3⟩ := zcr hA hr (hcP.trans hdc) (iT.chg0 hdc) (hvA.chg0 hdc) h44.ok (k7A.chg0 hdc) hb7 cB
  refine ⟨t, own, _, _, rfl, by rw [hs]; exact g1, by rw [hs]; exact g2, fun e => by subst e; exact decide_eq_true rfl, g3, .inl rfl⟩
 refine zO (fun wz => zk [] w98 wz) mix (by kernel_rfl) hd ?_
 refine Tm rfl ?_
 refine Tr (fun wz hz => zg yA ye rfl rfl (zB.of_blk0 (kA.chg0 hz))) rfl ?_
 refine Tm rfl (Tm rfl ?_)
 refine Tc ztg rfl rfl rfl (zfG o98 x' _ _ _ (i98.chg0 hd) (hgA.chg0 hd).rows l1 l2) ?_
 rintro v105 w105 ⟨e105, c105⟩
 rw [decide_eq_false hg] at e105
 subst e105
 refine ⟨.inl (hd.trans c105), ?_⟩
 refine Tm rfl (Tz rfl rfl (Tz rfl rfl (Tz rfl rfl (Tz rfl rfl ?_))))
 refine Tp (fun _ => zR rfl rfl) rfl ?_
 refine Ta rfl ?_
 refine zaq rfl (gn rfl) (zu ye rfl rfl rfl rfl ((k7A.chg0 hd).chg0 c105) (by simp) (yx.one h44.sch _ _ _) ?_)
 intro wB nB cB kB
 refine ⟨.inr (by kernel_rfl), ?_⟩
 refine Ta rfl (D3 6 7 8 rfl (zi ?_))
 repeat first | refine tr ?_ | refine br ?_
 refine zev rfl yA ye rfl rfl rfl rfl (zB.of_blk0 kB) ?_
 have hdc := hd.trans c105
 obtain ⟨g1, g2, g3⟩ := zcr hA hr (hcP.trans hdc) (iT.chg0 hdc) (hvA.chg0 hdc) h44.ok (k7A.chg0 hdc) hb7 cB
 refine ⟨t, own, _, _, rfl, by rw [hs]; exact g1, by rw [hs]; exact g2, fun e => absurd (by rw [e]) hg, g3, .inl rfl⟩
set_option maxHeartbeats 1000000 in
theorem ztk (t : Nat) (own : List Nat) (c k u o : Value) (s : yn) (rt rw : LV) (x : zcb) (a : zbT) (w : World) (hE : EOk w) (hA : zdg w t own c k u s rt) (hr : yx w c k u o s rw) (hx : zbO w x a) (hn : a.row.length ≤ 1048576) (h47 : a.what = 4 ∨ a.what = 7) :
 z9 TP 19 #[Pt t, .agg #[c, k, u, o], .agg x.cs.toArray] w (zjI w own c k u s rt rw (zaB s rw a) a) := by
 have h := hA.1
 obtain ⟨xw, xa, xr, xk⟩ := x
 have hx0 := hx
 obtain ⟨e1, e2, e3, hrow, hrng, hat⟩ := hx
 simp only at e1 e2 e3
 subst e1 e2 e3
 obtain ⟨po, co, rfl, hco⟩ := hr.rws.val
 have hokT := h.ok
 have hokR := hr.ok
 refine A3 Tryz.func19 rfl rfl ?_
 refine Sr ?_
 refine Ob rfl rfl ?_
 intro b4 w4 e4 n4 c4 k4
 refine Ob rfl rfl ?_
 intro b5 w5 e5 n5 c5 k5
 refine Oa rfl ?_
 refine zC (gn rfl) (zI zcW rfl rfl ?_)
 intro b7 w7 e7 n7 c7 k7
 refine Oa rfl (E4 0 4 5 7 rfl ?_)
 have hc7 : zk [] w w7 := (c4.trans c5).trans c7
 have k4 : zS w7 b4 54 [c, k, u, .slice po rw.length co] := (k4.chg0 c5).chg0 c7
 have k5 : zS w7 b5 50 [Ii a.what, Ii a.at', xr, .string a.key] := k5.chg0 c7
 have k7 : zS w7 b7 54 [.slice none 0 0, .slice none 0 0, .slice none 0 0, .slice none 0 0] := k7
 have hs4 := c4.size
 have hs5 := c5.size
 have hs7 := hc7.size
 have hb7 : w.heap.size ≤ b7 := by omega
 have hT7 := h.chg0 hc7
 have hr7 := hr.chg0 hc7
 have hx7 := hx0.chg0 hc7
 have hE7 := hE.chg0 hc7
 have hrow7 : zK w7 xr a.row := hrow.chg0 hc7
 refine ze (Sr (Od zdE rfl ?_))
 refine Ol ag3 rfl (k5.cell' (i := 0) rfl) ?_
 refine E5 0 4 5 7 36 rfl (zq (ze (Sr ?_)))
 refine Og (vf (zw rfl rfl) (by simp; omega)) rfl ?_
 refine Oa rfl (E6 0 4 5 7 36 37 rfl (zb rfl (za ?_)))
 refine Og (vf (zw rfl rfl) (by simp; omega)) rfl ?_
 refine Oa rfl (E6 0 4 5 7 36 37 rfl (zb rfl (Sr ?_)))
 refine Og (vf (zw rfl rfl) (by simp; omega)) rfl ?_
 refine Oa rfl (E6 0 4 5 7 36 56 rfl (zb rfl (Sr ?_)))
 refine Og (vf (zw rfl rfl) (by simp; omega)) rfl ?_
 refine Oa rfl (E6 0 4 5 7 36 84 rfl (zb rfl ?_))
 refine yh (fun F wx => F = [(0, Pt t), (4, Pt b4), (5, Pt b5), (7, Pt b7), (36, Ii a.what), (112, .bool true)] ∧ wx = w7) ?_ ?_
 ·refine ze ?_
  by_cases h0 : a.what = 4
  ·refine za ?_
   refine Og (vt (zw rfl rfl) (by simp [h0])) rfl ?_
   refine Oa rfl (E6 0 4 5 7 36 112 rfl (zd rfl (zm ?_)))
   exact ⟨rfl, rfl⟩
  refine za ?_
  refine Og (vf (zw rfl rfl) (by simp [h0])) rfl ?_
  refine Oa rfl (E6 0 4 5 7 36 112 rfl (zb rfl (za ?_)))
  refine Og (vt (zw rfl rfl) (by simp; omega)) rfl ?_
  refine Oa rfl (E6 0 4 5 7 36 112 rfl ?_)
  exact ⟨rfl, rfl⟩
 rintro F w7 ⟨rfl, rfl⟩
 refine zd rfl ?_
 have hs : ∀ R : LV, zcg s R (zaB s rw a) a = zeq s R (zaB s rw a) a.row := fun R => by unfold zcg; rw [if_neg (by omega), if_neg (by omega), if_pos (by omega)]
 refine yh (fun F wx => ∃ (b21 : Nat) (p q : _) (x' : Value), F = [(0, Pt t), (4, Pt b4), (5, Pt b5), (7, Pt b7), (21, Pt b21), (22, x'), (23, Ii (zcs s rw (zaB s rw a) a.row))] ∧ zS wx b21 54 [c, k, u, .slice p (zeq s rw (zaB s rw a) a.row).length q] ∧ zK wx x' (zfk s rw (zaB s rw a) a.row) ∧ yl wx (.slice p (zeq s rw (zaB s rw a) a.row).length q) (zeq s rw (zaB s rw a) a.row) ∧ yZ s (zeq s rw (zaB s rw a) a.row) ∧ zk [] w7 wx) ?_ ?_
 ·have hC := (zk.drew [] w7)
  refine zei (fun wz => zk [] w7 wz) (zax.seq [0, 1, 2, 4, 5] (.two 3 (zax.seq [] (.two 6 (zax.seq [7, 8, 9, 10, 11, 12, 13, 14] .done) 11 (zax.seq [6, 7, 8, 9, 10, 12, 13, 14] .done))) 11 (zax.seq [3, 6, 7, 8, 9, 10, 12, 13, 14] .done))) mix (by kernel_rfl) hC ?_
  refine zcQ rfl rfl (gn rfl) (fun wz hz => zg yA ye rfl rfl (zB.of_blk0 (k4.chg0 hz))) rfl rfl ?_
  refine zcQ rfl rfl (gn rfl) (fun wz hz => zg yA ye rfl rfl (zB.of_blk0 (k4.chg0 hz))) rfl rfl ?_
  refine zcQ rfl rfl (gn rfl) (fun wz hz => zg zlB zeD rfl rfl (zB.of_blk0 (k5.chg0 hz))) rfl rfl ?_
  refine z6 rfl rfl (gn rfl) (fun _ => zl za0 rfl) rfl rfl ?_
  refine zcQ rfl rfl (gn rfl) (fun wz hz => zj zaV rfl ((k5.chg0 hz).cell' (i := 2) rfl)) rfl rfl ?_
  refine zdM ?_ ?_
  ·refine yP rfl rfl (gn rfl) (yB znL rfl rfl rfl rfl (ziu _ _ _ _ s rw ⟨a.what, a.at', xr, a.key⟩ a _ (hr7.chg0 hC) (hx7.chg0 hC)) ?_)
   rintro v119 w119 ⟨rfl, c119⟩
   have hN119 := hC.size
   have hC := hC.trans c119
   refine ⟨.inl hC, ?_⟩
   refine zdM ?_ ?_
   ·refine yP rfl rfl (gn rfl) (yB ztn rfl rfl rfl rfl (zhM _ _ _ _ _ s rw (zaB s rw a) a.row _ (hr7.chg0 hC) (hrow7.chg0 hC) hrng) ?_)
    rintro v122 w122 ⟨o', x', rfl, i122, h122, c122⟩
    obtain ⟨p122, q122, rfl, -⟩ := h122.rws.val
    have hN122 := hC.size
    have hC := hC.trans c122
    refine ⟨.inl hC, ?_⟩
    refine z6 rfl rfl (gn rfl) (fun _ => y8 rfl) rfl rfl ?_
    refine z6 rfl rfl (gn rfl) (fun _ => zM rfl rfl) rfl rfl ?_
    refine z6 rfl rfl (gn rfl) (fun _ => zM rfl rfl) rfl rfl ?_
    refine z6 rfl rfl (gn rfl) (fun _ => zM rfl rfl) rfl rfl ?_
    refine yP rfl rfl (gn rfl) (zI zcW rfl rfl ?_)
    intro b21 w21 e21 n21 c21 k21
    have hN21 := hC.size
    have hC := hC.trans c21
    have i122 := i122.chg0 c21
    have h122 := h122.chg0 c21
    refine ⟨.inl hC, ?_⟩
    refine yP rfl rfl (gn rfl) (zu ye rfl rfl rfl rfl k21 (by simp) (yx.one h122.sch _ _ _) ?_)
    intro wA nA cA kA
    have hC := hC.own cA (by intro y hy; simp at hy; omega)
    refine ⟨.inl hC, ?_⟩
    refine z6 rfl rfl (gn rfl) (fun _ => zQ rfl) rfl rfl ?_
    refine z6 rfl rfl (gn rfl) (fun _ => zQ rfl) rfl rfl ?_
    refine zb3 [0, 4, 5, 7, 21, 22, 23] (F' := [(0, _), (4, _), (5, _), (7, _), (21, _), (22, _), (23, _)]) rfl ?_
    exact ⟨b21, p122, q122, _, rfl, kA, ya.chgC i122 cA zdX (Nl.one k21 ziP), h122.rws.chgB k21 rfl rfl cA, h122.ok, hC⟩
   refine yP rfl rfl (gn rfl) (zI zcW rfl rfl ?_)
   intro b21 w21 e21 n21 c21 k21
   have hN21 := hC.size
   have hC := hC.trans c21
   refine ⟨.inl hC, ?_⟩
   refine yP rfl rfl (gn rfl) (yB ztn rfl rfl rfl rfl (zhM _ _ _ _ _ s rw (zaB s rw a) a.row _ (hr7.chg0 hC) (hrow7.chg0 hC) hrng) ?_)
   rintro v122 w122 ⟨o', x', rfl, i122, h122, c122⟩
   obtain ⟨p122, q122, rfl, -⟩ := h122.rws.val
   have hN122 := hC.size
   have hC := hC.trans c122
   have k21 := k21.chg0 c122
   refine ⟨.inl hC, ?_⟩
   refine z6 rfl rfl (gn rfl) (fun _ => y8 rfl) rfl rfl ?_
   refine z6 rfl rfl (gn rfl) (fun _ => zM rfl rfl) rfl rfl ?_
   refine z6 rfl rfl (gn rfl) (fun _ => zM rfl rfl) rfl rfl ?_
   refine z6 rfl rfl (gn rfl) (fun _ => zM rfl rfl) rfl rfl ?_
   refine yP rfl rfl (gn rfl) (zu ye rfl rfl rfl rfl k21 (by simp) (yx.one h122.sch _ _ _) ?_)
   intro wA nA cA kA
   have hC := hC.own cA (by intro y hy; simp at hy; omega)
   refine ⟨.inl hC, ?_⟩
   refine z6 rfl rfl (gn rfl) (fun _ => zQ rfl) rfl rfl ?_
   refine z6 rfl rfl (gn rfl) (fun _ => zQ rfl) rfl rfl ?_
   refine zb3 [0, 4, 5, 7, 21, 22, 23] (F' := [(0, _), (4, _), (5, _), (7, _), (21, _), (22, _), (23, _)]) rfl ?_
   exact ⟨b21, p122, q122, _, rfl, kA, ya.chgC i122 cA zdX (Nl.one k21 ziP), h122.rws.chgB k21 rfl rfl cA, h122.ok, hC⟩
  refine yP rfl rfl (gn rfl) (zI zcW rfl rfl ?_)
  intro b21 w21 e21 n21 c21 k21
  have hN21 := hC.size
  have hC := hC.trans c21
  refine ⟨.inl hC, ?_⟩
  refine yP rfl rfl (gn rfl) (yB znL rfl rfl rfl rfl (ziu _ _ _ _ s rw ⟨a.what, a.at', xr, a.key⟩ a _ (hr7.chg0 hC) (hx7.chg0 hC)) ?_)
  rintro v119 w119 ⟨rfl, c119⟩
  have hN119 := hC.size
  have hC := hC.trans c119
  have k21 := k21.chg0 c119
  refine ⟨.inl hC, ?_⟩
  refine yP rfl rfl (gn rfl) (yB ztn rfl rfl rfl rfl (zhM _ _ _ _ _ s rw (zaB s rw a) a.row _ (hr7.chg0 hC) (hrow7.chg0 hC) hrng) ?_)
  rintro v122 w122 ⟨o', x', rfl, i122, h122, c122⟩
  obtain ⟨p122, q122, rfl, -⟩ := h122.rws.val
  have hN122 := hC.size
  have hC := hC.trans c122
  have k21 := k21.chg0 c122
  refine ⟨.inl hC, ?_⟩
  refine z6 rfl rfl (gn rfl) (fun _ => y8 rfl) rfl rfl ?_
  refine z6 rfl rfl (gn rfl) (fun _ => zM rfl rfl) rfl rfl ?_
  refine z6 rfl rfl (gn rfl) (fun _ => zM rfl rfl) rfl rfl ?_
  refine z6 rfl rfl (gn rfl) (fun _ => zM rfl rfl) rfl rfl ?_
  refine yP rfl rfl (gn rfl) (zu ye rfl rfl rfl rfl k21 (by simp) (yx.one h122.sch _ _ _) ?_)
  intro wA nA cA kA
  have hC := hC.own cA (by intro y hy; simp at hy; omega)
  refine ⟨.inl hC, ?_⟩
  refine z6 rfl rfl (gn rfl) (fun _ => zQ rfl) rfl rfl ?_
  refine z6 rfl rfl (gn rfl) (fun _ => zQ rfl) rfl rfl ?_
  refine zb3 [0, 4, 5, 7, 21, 22, 23] (F' := [(0, _), (4, _), (5, _), (7, _), (21, _), (22, _), (23, _)]) rfl ?_
  exact ⟨b21, p122, q122, _, rfl, kA, ya.chgC i122 cA zdX (Nl.one k21 ziP), h122.rws.chgB k21 rfl rfl cA, h122.ok, hC⟩
 rintro F wx ⟨b21, p44, q44, x', rfl, kA, ix, hvA, hok, hcA⟩
 have hTA := hT7.chg0 hcA
 have k4A := k4.chg0 hcA
 have k5A := k5.chg0 hcA
 have k7A := k7.chg0 hcA
 have hrA := hr7.chg0 hcA
 have hxA := hx7.chg0 hcA
 have hd : zk [] wx wx.drew := zk.drew [] _
 refine ze ?_
 refine zO (fun wz => zk own wx wz) mix (by kernel_rfl) hd.any ?_
 refine Tm rfl ?_
 refine Tr (fun wz hz => zg yA ye rfl rfl (zB.of_blk0 (k4A.tab hTA rfl hz))) rfl ?_
 refine Tr (fun wz hz => zg zlB zeD rfl rfl (zB.of_blk0 (k5A.tab hTA rfl hz))) rfl ?_
 refine Tc znL rfl rfl rfl (ziu _ _ _ _ s rw ⟨a.what, a.at', xr, a.key⟩ a _ (hrA.chg0 hd) (hxA.chg0 hd)) ?_
 rintro v130 w130 ⟨rfl, c130⟩
 refine ⟨.inl (hd.any.trans c130), ?_⟩
 refine Td za0 rfl ?_
 refine Tr (fun wz hz => zj zaV rfl ((k5A.tab hTA rfl hz).cell' (i := 2) rfl)) rfl ?_
 refine Tc zul rfl rfl rfl (zln t own s rt xr a.row (zaB s rw a) _ (((hE7.chg0 hcA).chg0 hd).chg0 c130) ((hTA.chg0 hd).chg0 c130) (((hrow7.chg0 hcA).chg0 hd).chg0 c130) hrng hn) ?_
 rintro v133 w133 ⟨o133, rfl, i133, f133, iT, c133⟩
 refine ⟨.inl ((hd.trans c130).any.transS c133), ?_⟩
 refine Tm rfl ?_
 refine Tp (fun _ => zM rfl rfl) rfl ?_
 refine Tp (fun _ => zM rfl rfl) rfl ?_
 refine Ta rfl (Ta rfl ?_)
 refine zne [0, 7, 21, 22, 23, 24, 25] (F' := [(0, _), (7, _), (21, _), (22, _), (23, _), (24, _), (25, _)]) rfl ?_
 have hcU : zk own wx w133 := (hd.trans c130).any.transS c133
 refine ze ?_
 have hd : zk [] w133 w133.drew := zk.drew [] _
 have kA := kA.tab hTA rfl hcU
 have k7A := k7A.tab hTA rfl hcU
 have hvA := hvA.tab hTA hcU
 have ix := zK.tab hTA ix hcU
 have hcP := (hc7.trans hcA).any.transS hcU
 have hle := zqP hokT (zaB s rw a) a.row
 by_cases hg : zfk s rt (zaB s rw a) a.row = zfk s rw (zaB s rw a) a.row
 ·refine zO (fun wz => zk [] w133 wz) mix (by kernel_rfl) hd ?_
  refine Tm rfl ?_
  refine Tr (fun wz hz => zg yA ye rfl rfl (zB.of_blk0 (kA.chg0 hz))) rfl ?_
  refine Tm rfl (Tm rfl ?_)
  refine Tc zhb rfl rfl rfl (zc9 o133 x' _ _ _ (i133.chg0 hd) (ix.chg0 hd) hle) ?_
  rintro v140 w140 ⟨e140, c140⟩
  rw [decide_eq_true hg] at e140
  subst e140
  refine ⟨.inl (hd.trans c140), ?_⟩
  refine Tm rfl (Tq rfl rfl rfl ?_)
  refine Tv rfl rfl zdl rfl rfl rfl (zby _ _) ?_
  rintro v143 w143 ⟨rfl, rfl⟩
  refine ⟨.inl (hd.trans c140), ?_⟩
  refine Tq rfl rfl rfl ?_
  refine Tg rfl rfl (fun _ => zw rfl rfl) rfl ?_
  refine Tp (fun _ => zL rfl rfl) rfl ?_
  refine Ta rfl ?_
  refine zaq rfl (gn rfl) (zu ye rfl rfl rfl rfl ((k7A.chg0 hd).chg0 c140) (by simp) (yx.one hr.sch _ _ _) ?_)
  intro wB nB cB kB
  refine ⟨.inr (by kernel_rfl), ?_⟩
  refine Ta rfl (D3 6 7 8 rfl (zi ?_))
  repeat first | refine tr ?_ | refine br ?_
  refine zev rfl yA ye rfl rfl rfl rfl (zB.of_blk0 kB) ?_
  have hdc := hd.trans c140
  obtain ⟨g1, g2, g3⟩ := zcr hA hr (hcP.trans hdc) (iT.chg0 hdc) (hvA.chg0 hdc) hok (k7A.chg0 hdc) hb7 cB
  refine ⟨t, own, _, _, rfl, by rw [hs]; exact g1, by rw [hs]; exact g2, fun e => by subst e; exact decide_eq_true rfl, g3, .inl rfl⟩
 refine zO (fun wz => zk [] w133 wz) mix (by kernel_rfl) hd ?_
 refine Tm rfl ?_
 refine Tr (fun wz hz => zg yA ye rfl rfl (zB.of_blk0 (kA.chg0 hz))) rfl ?_
 refine Tm rfl (Tm rfl ?_)
 refine Tc zhb rfl rfl rfl (zc9 o133 x' _ _ _ (i133.chg0 hd) (ix.chg0 hd) hle) ?_
 rintro v140 w140 ⟨e140, c140⟩
 rw [decide_eq_false hg] at e140
 subst e140
 refine ⟨.inl (hd.trans c140), ?_⟩
 refine Tm rfl (Tz rfl rfl (Tz rfl rfl (Tz rfl rfl (Tz rfl rfl ?_))))
 refine Tp (fun _ => zR rfl rfl) rfl ?_
 refine Ta rfl ?_
 refine zaq rfl (gn rfl) (zu ye rfl rfl rfl rfl ((k7A.chg0 hd).chg0 c140) (by simp) (yx.one hr.sch _ _ _) ?_)
 intro wB nB cB kB
 refine ⟨.inr (by kernel_rfl), ?_⟩
 refine Ta rfl (D3 6 7 8 rfl (zi ?_))
 repeat first | refine tr ?_ | refine br ?_
 refine zev rfl yA ye rfl rfl rfl rfl (zB.of_blk0 kB) ?_
 have hdc := hd.trans c140
 obtain ⟨g1, g2, g3⟩ := zcr hA hr (hcP.trans hdc) (iT.chg0 hdc) (hvA.chg0 hdc) hok (k7A.chg0 hdc) hb7 cB
 refine ⟨t, own, _, _, rfl, by rw [hs]; exact g1, by rw [hs]; exact g2, fun e => absurd (by rw [e]) hg, g3, .inl rfl⟩
set_option maxHeartbeats 1000000 in
theorem ztD (t : Nat) (own : List Nat) (c k u o : Value) (s : yn) (rt rw : LV) (x : zcb) (a : zbT) (w : World) (hE : EOk w) (hA : zdg w t own c k u s rt) (hr : yx w c k u o s rw) (hx : zbO w x a) (hn : a.row.length ≤ 1048576) (h58 : a.what = 5 ∨ a.what = 8) :
 z9 TP 19 #[Pt t, .agg #[c, k, u, o], .agg x.cs.toArray] w (zjI w own c k u s rt rw (zaB s rw a) a) := by
 have h := hA.1
 obtain ⟨xw, xa, xr, xk⟩ := x
 have hx0 := hx
 obtain ⟨e1, e2, e3, hrow, hrng, hat⟩ := hx
 simp only at e1 e2 e3
 subst e1 e2 e3
 obtain ⟨po, co, rfl, hco⟩ := hr.rws.val
 have hokT := h.ok
 have hokR := hr.ok
 refine A3 Tryz.func19 rfl rfl ?_
 refine Sr ?_
 refine Ob rfl rfl ?_
 intro b4 w4 e4 n4 c4 k4
 refine Ob rfl rfl ?_
 intro b5 w5 e5 n5 c5 k5
 refine Oa rfl ?_
 refine zC (gn rfl) (zI zcW rfl rfl ?_)
 intro b7 w7 e7 n7 c7 k7
 refine Oa rfl (E4 0 4 5 7 rfl ?_)
 have hc7 : zk [] w w7 := (c4.trans c5).trans c7
 have k4 : zS w7 b4 54 [c, k, u, .slice po rw.length co] := (k4.chg0 c5).chg0 c7
 have k5 : zS w7 b5 50 [Ii a.what, Ii a.at', xr, .string a.key] := k5.chg0 c7
 have k7 : zS w7 b7 54 [.slice none 0 0, .slice none 0 0, .slice none 0 0, .slice none 0 0] := k7
 have hs4 := c4.size
 have hs5 := c5.size
 have hs7 := hc7.size
 have hb7 : w.heap.size ≤ b7 := by omega
 have hT7 := h.chg0 hc7
 have hr7 := hr.chg0 hc7
 have hx7 := hx0.chg0 hc7
 have hE7 := hE.chg0 hc7
 have hrow7 : zK w7 xr a.row := hrow.chg0 hc7
 refine ze (Sr (Od zdE rfl ?_))
 refine Ol ag3 rfl (k5.cell' (i := 0) rfl) ?_
 refine E5 0 4 5 7 36 rfl (zq (ze (Sr ?_)))
 refine Og (vf (zw rfl rfl) (by simp; omega)) rfl ?_
 refine Oa rfl (E6 0 4 5 7 36 37 rfl (zb rfl (za ?_)))
 refine Og (vf (zw rfl rfl) (by simp; omega)) rfl ?_
 refine Oa rfl (E6 0 4 5 7 36 37 rfl (zb rfl (Sr ?_)))
 refine Og (vf (zw rfl rfl) (by simp; omega)) rfl ?_
 refine Oa rfl (E6 0 4 5 7 36 56 rfl (zb rfl (Sr ?_)))
 refine Og (vf (zw rfl rfl) (by simp; omega)) rfl ?_
 refine Oa rfl (E6 0 4 5 7 36 84 rfl (zb rfl (ze (Sr ?_))))
 refine Og (vf (zw rfl rfl) (by simp; omega)) rfl ?_
 refine Oa rfl (E6 0 4 5 7 36 112 rfl (zb rfl (za ?_)))
 refine Og (vf (zw rfl rfl) (by simp; omega)) rfl ?_
 refine Oa rfl (E6 0 4 5 7 36 112 rfl (zb rfl ?_))
 refine yh (fun F wx => F = [(0, Pt t), (4, Pt b4), (5, Pt b5), (7, Pt b7), (36, Ii a.what), (147, .bool true)] ∧ wx = w7) ?_ ?_
 ·refine ze ?_
  by_cases h0 : a.what = 5
  ·refine za ?_
   refine Og (vt (zw rfl rfl) (by simp [h0])) rfl ?_
   refine Oa rfl (E6 0 4 5 7 36 147 rfl (zd rfl (zm ?_)))
   exact ⟨rfl, rfl⟩
  refine za ?_
  refine Og (vf (zw rfl rfl) (by simp [h0])) rfl ?_
  refine Oa rfl (E6 0 4 5 7 36 147 rfl (zb rfl (za ?_)))
  refine Og (vt (zw rfl rfl) (by simp; omega)) rfl ?_
  refine Oa rfl (E6 0 4 5 7 36 147 rfl ?_)
  exact ⟨rfl, rfl⟩
 rintro F w7 ⟨rfl, rfl⟩
 refine zd rfl ?_
 have hs : ∀ R : LV, zcg s R (zaB s rw a) a = y5 s R (zaB s rw a) := fun R => by unfold zcg; rw [if_neg (by omega), if_neg (by omega), if_neg (by omega), if_pos (by omega)]
 refine yh (fun F wx => ∃ (b26 : Nat) (p q : _) (x' : Value), F = [(0, Pt t), (4, Pt b4), (5, Pt b5), (7, Pt b7), (26, Pt b26), (27, x'), (28, Ii (zkp s rw (zaB s rw a)))] ∧ zS wx b26 54 [c, k, u, .slice p (y5 s rw (zaB s rw a)).length q] ∧ zK wx x' ((zb7 s rw (zaB s rw a)).getD []) ∧ yl wx (.slice p (y5 s rw (zaB s rw a)).length q) (y5 s rw (zaB s rw a)) ∧ yZ s (y5 s rw (zaB s rw a)) ∧ zk [] w7 wx) ?_ ?_
 ·have hC := (zk.drew [] w7)
  refine zei (fun wz => zk [] w7 wz) (zax.seq [0, 1, 2] (.two 3 (zax.seq [] (.two 4 (zax.seq [5, 6, 7, 8, 9, 10, 11, 12] .done) 9 (zax.seq [4, 5, 6, 7, 8, 10, 11, 12] .done))) 9 (zax.seq [3, 4, 5, 6, 7, 8, 10, 11, 12] .done))) mix (by kernel_rfl) hC ?_
  refine zcQ rfl rfl (gn rfl) (fun wz hz => zg yA ye rfl rfl (zB.of_blk0 (k4.chg0 hz))) rfl rfl ?_
  refine zcQ rfl rfl (gn rfl) (fun wz hz => zg yA ye rfl rfl (zB.of_blk0 (k4.chg0 hz))) rfl rfl ?_
  refine zcQ rfl rfl (gn rfl) (fun wz hz => zg zlB zeD rfl rfl (zB.of_blk0 (k5.chg0 hz))) rfl rfl ?_
  refine zdM ?_ ?_
  ·refine yP rfl rfl (gn rfl) (yB znL rfl rfl rfl rfl (ziu _ _ _ _ s rw ⟨a.what, a.at', xr, a.key⟩ a _ (hr7.chg0 hC) (hx7.chg0 hC)) ?_)
   rintro v154 w154 ⟨rfl, c119⟩
   have hN119 := hC.size
   have hC := hC.trans c119
   refine ⟨.inl hC, ?_⟩
   refine zdM ?_ ?_
   ·refine yP rfl rfl (gn rfl) (yB zt8 rfl rfl rfl rfl (zht _ _ _ _ s rw (zaB s rw a) _ (hr7.chg0 hC)) ?_)
    rintro v155 w155 ⟨o', x', rfl, i122, h122, c122⟩
    obtain ⟨p122, q122, rfl, -⟩ := h122.rws.val
    have hN122 := hC.size
    have hC := hC.trans c122
    refine ⟨.inl hC, ?_⟩
    refine z6 rfl rfl (gn rfl) (fun _ => y8 rfl) rfl rfl ?_
    refine z6 rfl rfl (gn rfl) (fun _ => zM rfl rfl) rfl rfl ?_
    refine z6 rfl rfl (gn rfl) (fun _ => zM rfl rfl) rfl rfl ?_
    refine z6 rfl rfl (gn rfl) (fun _ => zM rfl rfl) rfl rfl ?_
    refine yP rfl rfl (gn rfl) (zI zcW rfl rfl ?_)
    intro b26 w26 e26 n26 c26 k26
    have hN26 := hC.size
    have hC := hC.trans c26
    have i122 := i122.chg0 c26
    have h122 := h122.chg0 c26
    refine ⟨.inl hC, ?_⟩
    refine yP rfl rfl (gn rfl) (zu ye rfl rfl rfl rfl k26 (by simp) (yx.one h122.sch _ _ _) ?_)
    intro wA nA cA kA
    have hC := hC.own cA (by intro y hy; simp at hy; omega)
    refine ⟨.inl hC, ?_⟩
    refine z6 rfl rfl (gn rfl) (fun _ => zQ rfl) rfl rfl ?_
    refine z6 rfl rfl (gn rfl) (fun _ => zQ rfl) rfl rfl ?_
    refine zb3 [0, 4, 5, 7, 26, 27, 28] (F' := [(0, _), (4, _), (5, _), (7, _), (26, _), (27, _), (28, _)]) rfl ?_
    exact ⟨b26, p122, q122, _, rfl, kA, ya.chgC i122 cA zdX (Nl.one k26 ziP), h122.rws.chgB k26 rfl rfl cA, h122.ok, hC⟩
   refine yP rfl rfl (gn rfl) (zI zcW rfl rfl ?_)
   intro b26 w26 e26 n26 c26 k26
   have hN26 := hC.size
   have hC := hC.trans c26
   refine ⟨.inl hC, ?_⟩
   refine yP rfl rfl (gn rfl) (yB zt8 rfl rfl rfl rfl (zht _ _ _ _ s rw (zaB s rw a) _ (hr7.chg0 hC)) ?_)
   rintro v155 w155 ⟨o', x', rfl, i122, h122, c122⟩
   obtain ⟨p122, q122, rfl, -⟩ := h122.rws.val
   have hN122 := hC.size
   have hC := hC.trans c122
   have k26 := k26.chg0 c122
   refine ⟨.inl hC, ?_⟩
   refine z6 rfl rfl (gn rfl) (fun _ => y8 rfl) rfl rfl ?_
   refine z6 rfl rfl (gn rfl) (fun _ => zM rfl rfl) rfl rfl ?_
   refine z6 rfl rfl (gn rfl) (fun _ => zM rfl rfl) rfl rfl ?_
   refine z6 rfl rfl (gn rfl) (fun _ => zM rfl rfl) rfl rfl ?_
   refine yP rfl rfl (gn rfl) (zu ye rfl rfl rfl rfl k26 (by simp) (yx.one h122.sch _ _ _) ?_)
   intro wA nA cA kA
   have hC := hC.own cA (by intro y hy; simp at hy; omega)
   refine ⟨.inl hC, ?_⟩
   refine z6 rfl rfl (gn rfl) (fun _ => zQ rfl) rfl rfl ?_
   refine z6 rfl rfl (gn rfl) (fun _ => zQ rfl) rfl rfl ?_
   refine zb3 [0, 4, 5, 7, 26, 27, 28] (F' := [(0, _), (4, _), (5, _), (7, _), (26, _), (27, _), (28, _)]) rfl ?_
   exact ⟨b26, p122, q122, _, rfl, kA, ya.chgC i122 cA zdX (Nl.one k26 ziP), h122.rws.chgB k26 rfl rfl cA, h122.ok, hC⟩
  refine yP rfl rfl (gn rfl) (zI zcW rfl rfl ?_)
  intro b26 w26 e26 n26 c26 k26
  have hN26 := hC.size
  have hC := hC.trans c26
  refine ⟨.inl hC, ?_⟩
  refine yP rfl rfl (gn rfl) (yB znL rfl rfl rfl rfl (ziu _ _ _ _ s rw ⟨a.what, a.at', xr, a.key⟩ a _ (hr7.chg0 hC) (hx7.chg0 hC)) ?_)
  rintro v154 w154 ⟨rfl, c119⟩
  have hN119 := hC.size
  have hC := hC.trans c119
  have k26 := k26.chg0 c119
  refine ⟨.inl hC, ?_⟩
  refine yP rfl rfl (gn rfl) (yB zt8 rfl rfl rfl rfl (zht _ _ _ _ s rw (zaB s rw a) _ (hr7.chg0 hC)) ?_)
  rintro v155 w155 ⟨o', x', rfl, i122, h122, c122⟩
  obtain ⟨p122, q122, rfl, -⟩ := h122.rws.val
  have hN122 := hC.size
  have hC := hC.trans c122
  have k26 := k26.chg0 c122
  refine ⟨.inl hC, ?_⟩
  refine z6 rfl rfl (gn rfl) (fun _ => y8 rfl) rfl rfl ?_
  refine z6 rfl rfl (gn rfl) (fun _ => zM rfl rfl) rfl rfl ?_
  refine z6 rfl rfl (gn rfl) (fun _ => zM rfl rfl) rfl rfl ?_
  refine z6 rfl rfl (gn rfl) (fun _ => zM rfl rfl) rfl rfl ?_
  refine yP rfl rfl (gn rfl) (zu ye rfl rfl rfl rfl k26 (by simp) (yx.one h122.sch _ _ _) ?_)
  intro wA nA cA kA
  have hC := hC.own cA (by intro y hy; simp at hy; omega)
  refine ⟨.inl hC, ?_⟩
  refine z6 rfl rfl (gn rfl) (fun _ => zQ rfl) rfl rfl ?_
  refine z6 rfl rfl (gn rfl) (fun _ => zQ rfl) rfl rfl ?_
  refine zb3 [0, 4, 5, 7, 26, 27, 28] (F' := [(0, _), (4, _), (5, _), (7, _), (26, _), (27, _), (28, _)]) rfl ?_
  exact ⟨b26, p122, q122, _, rfl, kA, ya.chgC i122 cA zdX (Nl.one k26 ziP), h122.rws.chgB k26 rfl rfl cA, h122.ok, hC⟩
 rintro F wx ⟨b26, p44, q44, x', rfl, kA, ix, hvA, hok, hcA⟩
 have hTA := hT7.chg0 hcA
 have k4A := k4.chg0 hcA
 have k5A := k5.chg0 hcA
 have k7A := k7.chg0 hcA
 have hrA := hr7.chg0 hcA
 have hxA := hx7.chg0 hcA
 refine Sr (Om rfl ?_)
 refine Og (zg yA ye rfl rfl (zB.of_blk0 k4A)) rfl ?_
 refine Og (zg zlB zeD rfl rfl (zB.of_blk0 k5A)) rfl ?_
 refine Oc znL rfl rfl rfl (ziu _ _ _ _ s rw ⟨a.what, a.at', xr, a.key⟩ a _ hrA hxA) ?_
 rintro v163 w163 ⟨rfl, c130⟩
 refine Oc zxm rfl rfl rfl (zpz t own s rt (zaB s rw a) _ (hTA.chg0 c130)) ?_
 rintro v164 w164 ⟨o133, rfl, i133, f133, iT, c133⟩
 refine Om rfl (Oe rfl rfl (Oe rfl rfl (Oa rfl (Oa rfl (E7 0 7 26 27 28 29 30 rfl ?_)))))
 have hcU : zk own wx w164 := c130.any.transS c133
 refine ze ?_
 have hd : zk [] w164 w164.drew := zk.drew [] _
 have kA := kA.tab hTA rfl hcU
 have k7A := k7A.tab hTA rfl hcU
 have hvA := hvA.tab hTA hcU
 have ix := zK.tab hTA ix hcU
 have hcP := (hc7.trans hcA).any.transS hcU
 have hle := zor hokT (zaB s rw a)
 by_cases hg : (zb7 s rt (zaB s rw a)).getD [] = (zb7 s rw (zaB s rw a)).getD []
 ·refine zO (fun wz => zk [] w164 wz) mix (by kernel_rfl) hd ?_
  refine Tm rfl ?_
  refine Tr (fun wz hz => zg yA ye rfl rfl (zB.of_blk0 (kA.chg0 hz))) rfl ?_
  refine Tm rfl (Tm rfl ?_)
  refine Tc zhb rfl rfl rfl (zc9 o133 x' _ _ _ (i133.chg0 hd) (ix.chg0 hd) hle) ?_
  rintro v171 w171 ⟨e140, c140⟩
  rw [decide_eq_true hg] at e140
  subst e140
  refine ⟨.inl (hd.trans c140), ?_⟩
  refine Tm rfl (Tq rfl rfl rfl ?_)
  refine Tv rfl rfl zdl rfl rfl rfl (zby _ _) ?_
  rintro v174 w174 ⟨rfl, rfl⟩
  refine ⟨.inl (hd.trans c140), ?_⟩
  refine Tq rfl rfl rfl ?_
  refine Tg rfl rfl (fun _ => zw rfl rfl) rfl ?_
  refine Tp (fun _ => zL rfl rfl) rfl ?_
  refine Ta rfl ?_
  refine zaq rfl (gn rfl) (zu ye rfl rfl rfl rfl ((k7A.chg0 hd).chg0 c140) (by simp) (yx.one hr.sch _ _ _) ?_)
  intro wB nB cB kB
  refine ⟨.inr (by kernel_rfl), ?_⟩
  refine Ta rfl (D3 6 7 8 rfl (zi ?_))
  repeat first | refine tr ?_ | refine br ?_
  refine zev rfl yA ye rfl rfl rfl rfl (zB.of_blk0 kB) ?_
  have hdc := hd.trans c140
  obtain ⟨g1, g2, g3⟩ := zcr hA hr (hcP.trans hdc) (iT.chg0 hdc) (hvA.chg0 hdc) hok (k7A.chg0 hdc) hb7 cB
  refine ⟨t, own, _, _, rfl, by rw [hs]; exact g1, by rw [hs]; exact g2, fun e => by subst e; exact decide_eq_true rfl, g3, .inl rfl⟩
 refine zO (fun wz => zk [] w164 wz) mix (by kernel_rfl) hd ?_
 refine Tm rfl ?_
 refine Tr (fun wz hz => zg yA ye rfl rfl (zB.of_blk0 (kA.chg0 hz))) rfl ?_
 refine Tm rfl (Tm rfl ?_)
 refine Tc zhb rfl rfl rfl (zc9 o133 x' _ _ _ (i133.chg0 hd) (ix.chg0 hd) hle) ?_
 rintro v171 w171 ⟨e140, c140⟩
 rw [decide_eq_false hg] at e140
 subst e140
 refine ⟨.inl (hd.trans c140), ?_⟩
 refine Tm rfl (Tz rfl rfl (Tz rfl rfl (Tz rfl rfl (Tz rfl rfl ?_))))
 refine Tp (fun _ => zR rfl rfl) rfl ?_
 refine Ta rfl ?_
 refine zaq rfl (gn rfl) (zu ye rfl rfl rfl rfl ((k7A.chg0 hd).chg0 c140) (by simp) (yx.one hr.sch _ _ _) ?_)
 intro wB nB cB kB
 refine ⟨.inr (by kernel_rfl), ?_⟩
 refine Ta rfl (D3 6 7 8 rfl (zi ?_))
 repeat first | refine tr ?_ | refine br ?_
 refine zev rfl yA ye rfl rfl rfl rfl (zB.of_blk0 kB) ?_
 have hdc := hd.trans c140
 obtain ⟨g1, g2, g3⟩ := zcr hA hr (hcP.trans hdc) (iT.chg0 hdc) (hvA.chg0 hdc) hok (k7A.chg0 hdc) hb7 cB
 refine ⟨t, own, _, _, rfl, by rw [hs]; exact g1, by rw [hs]; exact g2, fun e => absurd (by rw [e]) hg, g3, .inl rfl⟩
set_option maxHeartbeats 1000000 in
theorem zt9 (t : Nat) (own : List Nat) (c k u o : Value) (s : yn) (rt rw : LV) (x : zcb) (a : zbT) (w : World) (hE : EOk w) (hA : zdg w t own c k u s rt) (hr : yx w c k u o s rw) (hx : zbO w x a) (hn : a.row.length ≤ 1048576) (h6 : a.what = 6) :
 z9 TP 19 #[Pt t, .agg #[c, k, u, o], .agg x.cs.toArray] w (zjI w own c k u s rt rw (zaB s rw a) a) := by
 have h := hA.1
 obtain ⟨xw, xa, xr, xk⟩ := x
 have hx0 := hx
 obtain ⟨e1, e2, e3, hrow, hrng, hat⟩ := hx
 simp only at e1 e2 e3
 subst e1 e2 e3
 obtain ⟨po, co, rfl, hco⟩ := hr.rws.val
 have hokT := h.ok
 have hokR := hr.ok
 refine A3 Tryz.func19 rfl rfl ?_
 refine Sr ?_
 refine Ob rfl rfl ?_
 intro b4 w4 e4 n4 c4 k4
 refine Ob rfl rfl ?_
 intro b5 w5 e5 n5 c5 k5
 refine Oa rfl ?_
 refine zC (gn rfl) (zI zcW rfl rfl ?_)
 intro b7 w7 e7 n7 c7 k7
 refine Oa rfl (E4 0 4 5 7 rfl ?_)
 have hc7 : zk [] w w7 := (c4.trans c5).trans c7
 have k4 : zS w7 b4 54 [c, k, u, .slice po rw.length co] := (k4.chg0 c5).chg0 c7
 have k5 : zS w7 b5 50 [Ii a.what, Ii a.at', xr, .string a.key] := k5.chg0 c7
 have k7 : zS w7 b7 54 [.slice none 0 0, .slice none 0 0, .slice none 0 0, .slice none 0 0] := k7
 have hs4 := c4.size
 have hs5 := c5.size
 have hs7 := hc7.size
 have hb7 : w.heap.size ≤ b7 := by omega
 have hT7 := h.chg0 hc7
 have hr7 := hr.chg0 hc7
 have hx7 := hx0.chg0 hc7
 have hE7 := hE.chg0 hc7
 have hrow7 : zK w7 xr a.row := hrow.chg0 hc7
 refine ze (Sr (Od zdE rfl ?_))
 refine Ol ag3 rfl (k5.cell' (i := 0) rfl) ?_
 refine E5 0 4 5 7 36 rfl (zq (ze (Sr ?_)))
 refine Og (vf (zw rfl rfl) (by simp; omega)) rfl ?_
 refine Oa rfl (E6 0 4 5 7 36 37 rfl (zb rfl (za ?_)))
 refine Og (vf (zw rfl rfl) (by simp; omega)) rfl ?_
 refine Oa rfl (E6 0 4 5 7 36 37 rfl (zb rfl (Sr ?_)))
 refine Og (vf (zw rfl rfl) (by simp; omega)) rfl ?_
 refine Oa rfl (E6 0 4 5 7 36 56 rfl (zb rfl (Sr ?_)))
 refine Og (vf (zw rfl rfl) (by simp; omega)) rfl ?_
 refine Oa rfl (E6 0 4 5 7 36 84 rfl (zb rfl (ze (Sr ?_))))
 refine Og (vf (zw rfl rfl) (by simp; omega)) rfl ?_
 refine Oa rfl (E6 0 4 5 7 36 112 rfl (zb rfl (za ?_)))
 refine Og (vf (zw rfl rfl) (by simp; omega)) rfl ?_
 refine Oa rfl (E6 0 4 5 7 36 112 rfl (zb rfl (ze (Sr ?_))))
 refine Og (vf (zw rfl rfl) (by simp; omega)) rfl ?_
 refine Oa rfl (E6 0 4 5 7 36 147 rfl (zb rfl (za ?_)))
 refine Og (vf (zw rfl rfl) (by simp; omega)) rfl ?_
 refine Oa rfl (E6 0 4 5 7 36 147 rfl (zb rfl (Sr ?_)))
 refine Og (vt (zw rfl rfl) (by simp; omega)) rfl ?_
 refine Oa rfl (E5 0 4 5 7 178 rfl (zd rfl ?_))
 have hs : ∀ R : LV, zcg s R (zaB s rw a) a = R := fun R => by unfold zcg; rw [if_neg (by omega), if_neg (by omega), if_neg (by omega), if_neg (by omega)]
 refine Sr (Om rfl (Od zeF rfl ?_))
 refine Ol ag3 rfl (k5.cell' (i := 1) rfl) ?_
 refine Od za0 rfl ?_
 refine Ol zaV rfl (k5.cell' (i := 2) rfl) ?_
 refine Oc zrl rfl rfl rfl (zhu hT7 a.at' xr a.row hrow7 hrng) ?_
 rintro v186 w186 ⟨o186, rfl, i186, f186, c186⟩
 refine Om rfl (Oe rfl rfl (Oe rfl rfl (Oa rfl (Oa rfl (E6 0 4 5 7 31 32 rfl (ze ?_))))))
 have k4A := k4.chg0 c186
 have k5A := k5.chg0 c186
 refine za ?_
 refine Og (zg yA ye rfl rfl (zB.of_blk0 k4A)) rfl ?_
 refine Od zeF rfl ?_
 refine Ol ag3 rfl (k5A.cell' (i := 1) rfl) ?_
 refine Od za0 rfl ?_
 refine Ol zaV rfl (k5A.cell' (i := 2) rfl) ?_
 refine Oc zxg rfl rfl rfl (zsI _ _ _ _ _ s rw a.at' a.row _ (hr7.chg0 c186) (hrow7.chg0 c186)) ?_
 rintro v195 w195 ⟨x', rfl, ix, c195⟩
 refine Om rfl (Oe rfl rfl (Oe rfl rfl (Oa rfl (Oa rfl (E7 0 4 7 31 32 33 34 rfl ?_)))))
 have hcA := c186.trans c195
 have i186 := zK.chg0 i186 c195
 have k4A := k4.chg0 hcA
 have k7A := k7.chg0 hcA
 have hle := zrm hokT a.at' a.row
 have hd : zk [] w195 w195.drew := zk.drew [] _
 refine ze ?_
 by_cases hg : (za6 s rt a.at' a.row).getD [] = (za6 s rw a.at' a.row).getD []
 ·refine zO (fun wz => zk [] w195 wz) mix (by kernel_rfl) hd ?_
  refine Tm rfl ?_
  refine Tr (fun wz hz => zg yA ye rfl rfl (zB.of_blk0 (k4A.chg0 hz))) rfl ?_
  refine Tm rfl (Tm rfl ?_)
  refine Tc zhb rfl rfl rfl (zc9 o186 x' _ _ _ (i186.chg0 hd) (ix.chg0 hd) hle) ?_
  rintro v202 w202 ⟨e140, c140⟩
  rw [decide_eq_true hg] at e140
  subst e140
  refine ⟨.inl (hd.trans c140), ?_⟩
  refine Tm rfl (Tq rfl rfl rfl (Tq rfl rfl rfl ?_))
  refine Tg rfl rfl (fun _ => zgH bo4 rfl rfl) rfl ?_
  refine Tp (fun _ => zL rfl rfl) rfl ?_
  refine Ta rfl ?_
  refine zaq rfl (gn rfl) (zu ye rfl rfl rfl rfl ((k7A.chg0 hd).chg0 c140) (by simp) (yx.one hr.sch _ _ _) ?_)
  intro wB nB cB kB
  refine ⟨.inr (by kernel_rfl), ?_⟩
  refine Ta rfl (D3 6 7 8 rfl (zi ?_))
  repeat first | refine tr ?_ | refine br ?_
  refine zev rfl yA ye rfl rfl rfl rfl (zB.of_blk0 kB) ?_
  have hdc := hcA.trans (hd.trans c140)
  obtain ⟨g1, g2, g3⟩ := zcr hA hr ((hc7.trans hdc).any) (hT7.chg0 hdc) (hr7.rws.chg0 hdc) hokR (k7.chg0 hdc) hb7 cB
  refine ⟨t, own, _, _, rfl, by rw [hs]; exact g1, by rw [hs]; exact g2, fun e => by subst e; simp, g3, .inl rfl⟩
 refine zO (fun wz => zk [] w195 wz) mix (by kernel_rfl) hd ?_
 refine Tm rfl ?_
 refine Tr (fun wz hz => zg yA ye rfl rfl (zB.of_blk0 (k4A.chg0 hz))) rfl ?_
 refine Tm rfl (Tm rfl ?_)
 refine Tc zhb rfl rfl rfl (zc9 o186 x' _ _ _ (i186.chg0 hd) (ix.chg0 hd) hle) ?_
 rintro v202 w202 ⟨e140, c140⟩
 rw [decide_eq_false hg] at e140
 subst e140
 refine ⟨.inl (hd.trans c140), ?_⟩
 refine Tm rfl (Tz rfl rfl (Tz rfl rfl (Tz rfl rfl ?_)))
 refine Tp (fun _ => zR rfl rfl) rfl ?_
 refine Ta rfl ?_
 refine zaq rfl (gn rfl) (zu ye rfl rfl rfl rfl ((k7A.chg0 hd).chg0 c140) (by simp) (yx.one hr.sch _ _ _) ?_)
 intro wB nB cB kB
 refine ⟨.inr (by kernel_rfl), ?_⟩
 refine Ta rfl (D3 6 7 8 rfl (zi ?_))
 repeat first | refine tr ?_ | refine br ?_
 refine zev rfl yA ye rfl rfl rfl rfl (zB.of_blk0 kB) ?_
 have hdc := hcA.trans (hd.trans c140)
 obtain ⟨g1, g2, g3⟩ := zcr hA hr ((hc7.trans hdc).any) (hT7.chg0 hdc) (hr7.rws.chg0 hdc) hokR (k7.chg0 hdc) hb7 cB
 refine ⟨t, own, _, _, rfl, by rw [hs]; exact g1, by rw [hs]; exact g2, fun e => absurd (by rw [e]) hg, g3, .inl rfl⟩
set_option maxHeartbeats 1000000 in
theorem zsC (t : Nat) (own : List Nat) (c k u o : Value) (s : yn) (rt rw : LV) (x : zcb) (a : zbT) (w : World) (hE : EOk w) (hA : zdg w t own c k u s rt) (hr : yx w c k u o s rw) (hx : zbO w x a) (hn : a.row.length ≤ 1048576) (h9 : ¬ (a.what = 0 ∨ a.what = 1) ∧ a.what ≠ 2 ∧ a.what ≠ 3 ∧ ¬ (a.what = 4 ∨ a.what = 7) ∧ ¬ (a.what = 5 ∨ a.what = 8) ∧ a.what ≠ 6) :
 z9 TP 19 #[Pt t, .agg #[c, k, u, o], .agg x.cs.toArray] w (zjI w own c k u s rt rw (zaB s rw a) a) := by
 have h := hA.1
 obtain ⟨xw, xa, xr, xk⟩ := x
 have hx0 := hx
 obtain ⟨e1, e2, e3, hrow, hrng, hat⟩ := hx
 simp only at e1 e2 e3
 subst e1 e2 e3
 obtain ⟨po, co, rfl, hco⟩ := hr.rws.val
 have hokT := h.ok
 have hokR := hr.ok
 refine A3 Tryz.func19 rfl rfl ?_
 refine Sr ?_
 refine Ob rfl rfl ?_
 intro b4 w4 e4 n4 c4 k4
 refine Ob rfl rfl ?_
 intro b5 w5 e5 n5 c5 k5
 refine Oa rfl ?_
 refine zC (gn rfl) (zI zcW rfl rfl ?_)
 intro b7 w7 e7 n7 c7 k7
 refine Oa rfl (E4 0 4 5 7 rfl ?_)
 have hc7 : zk [] w w7 := (c4.trans c5).trans c7
 have k4 : zS w7 b4 54 [c, k, u, .slice po rw.length co] := (k4.chg0 c5).chg0 c7
 have k5 : zS w7 b5 50 [Ii a.what, Ii a.at', xr, .string a.key] := k5.chg0 c7
 have k7 : zS w7 b7 54 [.slice none 0 0, .slice none 0 0, .slice none 0 0, .slice none 0 0] := k7
 have hs4 := c4.size
 have hs5 := c5.size
 have hs7 := hc7.size
 have hb7 : w.heap.size ≤ b7 := by omega
 have hT7 := h.chg0 hc7
 have hr7 := hr.chg0 hc7
 have hx7 := hx0.chg0 hc7
 have hE7 := hE.chg0 hc7
 have hrow7 : zK w7 xr a.row := hrow.chg0 hc7
 refine ze (Sr (Od zdE rfl ?_))
 refine Ol ag3 rfl (k5.cell' (i := 0) rfl) ?_
 refine E5 0 4 5 7 36 rfl (zq (ze (Sr ?_)))
 refine Og (vf (zw rfl rfl) (by simp; omega)) rfl ?_
 refine Oa rfl (E6 0 4 5 7 36 37 rfl (zb rfl (za ?_)))
 refine Og (vf (zw rfl rfl) (by simp; omega)) rfl ?_
 refine Oa rfl (E6 0 4 5 7 36 37 rfl (zb rfl (Sr ?_)))
 refine Og (vf (zw rfl rfl) (by simp; omega)) rfl ?_
 refine Oa rfl (E6 0 4 5 7 36 56 rfl (zb rfl (Sr ?_)))
 refine Og (vf (zw rfl rfl) (by simp; omega)) rfl ?_
 refine Oa rfl (E6 0 4 5 7 36 84 rfl (zb rfl (ze (Sr ?_))))
 refine Og (vf (zw rfl rfl) (by simp; omega)) rfl ?_
 refine Oa rfl (E6 0 4 5 7 36 112 rfl (zb rfl (za ?_)))
 refine Og (vf (zw rfl rfl) (by simp; omega)) rfl ?_
 refine Oa rfl (E6 0 4 5 7 36 112 rfl (zb rfl (ze (Sr ?_))))
 refine Og (vf (zw rfl rfl) (by simp; omega)) rfl ?_
 refine Oa rfl (E6 0 4 5 7 36 147 rfl (zb rfl (za ?_)))
 refine Og (vf (zw rfl rfl) (by simp; omega)) rfl ?_
 refine Oa rfl (E6 0 4 5 7 36 147 rfl (zb rfl (Sr ?_)))
 refine Og (vf (zw rfl rfl) (by simp; omega)) rfl ?_
 refine Oa rfl (E5 0 4 5 7 178 rfl (zb rfl (yg (zh ?_))))
 have hs : ∀ R : LV, zcg s R (zaB s rw a) a = R := fun R => by unfold zcg; rw [if_neg (by omega), if_neg (by omega), if_neg (by omega), if_neg (by omega)]
 have hd : zk [] w7 w7.drew := zk.drew [] _
 refine ze ?_
 refine zO (fun wz => zk [] w7 wz) mix (by kernel_rfl) hd ?_
 refine Tm rfl ?_
 refine Tc zuQ rfl rfl rfl (znj t own s rt _ (hT7.chg0 hd)) ?_
 rintro v209 w209 ⟨t', own', rfl, iC, f209, g209, c209, hput⟩
 refine ⟨.inl (hd.trans c209), ?_⟩
 refine Tr (fun wz hz => zg yA ye rfl rfl (zB.of_blk0 (k4.chg0 hz))) rfl ?_
 refine Ta rfl ?_
 refine zaq rfl (gn rfl) (zu ye rfl rfl rfl rfl ((k7.chg0 hd).chg0 c209) (by simp) (yx.one hr.sch _ _ _) ?_)
 intro wB nB cB kB
 refine ⟨.inr (by kernel_rfl), ?_⟩
 refine Ta rfl (D3 6 7 8 rfl (zi ?_))
 refine zev rfl yA ye rfl rfl rfl rfl (zB.of_blk0 kB) ?_
 have hdc := hd.trans c209
 have hcc : zk [] w wB := (hc7.trans hdc).own cB (by intro y hy; simp at hy; omega)
 have hsd := hd.size
 obtain ⟨pm0, sv0, hbt⟩ := hA.2
 have hT1 : zdg w209 t' own' c k u s rt := ⟨iC, hput _ _ _ _ _ ((hbt.chg0 hc7).chg0 hd)⟩
 have hT2 := hT1.put (hr.sch.chg0 hcc) ((k7.chg0 hd).chg0 c209) zsc cB
 exact ⟨t', own', _, true, rfl, by rw [hs]; exact hT2, by rw [hs]; exact ⟨hr.sch.chg0 hcc, (hr7.rws.chg0 hdc).chgB (k7.chg0 hdc) rfl rfl cB, hokR, hr.nm⟩, fun _ => rfl, hcc.any, .inr fun p hp => by have := g209 p hp; omega⟩
theorem zun (t : Nat) (own : List Nat) (c k u o : Value) (s : yn) (rt rw : LV) (x : zcb) (a : zbT) (w : World) (hE : EOk w) (hA : zdg w t own c k u s rt) (hr : yx w c k u o s rw) (hx : zbO w x a) (hn : a.row.length ≤ 1048576) :
 z9 TP 19 #[Pt t, .agg #[c, k, u, o], .agg x.cs.toArray] w (zjI w own c k u s rt rw (zaB s rw a) a) := by
 by_cases h01 : a.what = 0 ∨ a.what = 1
 ·exact ztl t own c k u o s rt rw x a w hE hA hr hx hn h01
 by_cases h2 : a.what = 2
 ·exact ztJ t own c k u o s rt rw x a w hE hA hr hx hn h2
 by_cases h3 : a.what = 3
 ·exact zsN t own c k u o s rt rw x a w hE hA hr hx hn h3
 by_cases h47 : a.what = 4 ∨ a.what = 7
 ·exact ztk t own c k u o s rt rw x a w hE hA hr hx hn h47
 by_cases h58 : a.what = 5 ∨ a.what = 8
 ·exact ztD t own c k u o s rt rw x a w hE hA hr hx hn h58
 by_cases h6 : a.what = 6
 ·exact zt9 t own c k u o s rt rw x a w hE hA hr hx hn h6
 exact zsC t own c k u o s rt rw x a w hE hA hr hx hn ⟨h01, h2, h3, h47, h58, h6⟩
structure Pl (w0 w : World) (t : Nat) (own : List Nat) (c k u o : Value) (s : yn) (rt rw : LV) : Prop where
 e : EOk w
 tab : zdg w t own c k u s rt
 ref : yx w c k u o s rw
 chg : zk [] w0 w
 fr : ∀ p ∈ own, w0.heap.size ≤ p
section
variable {w0 w w' : World} {t : Nat} {own : List Nat} {c k u o o' : Value} {s : yn} {rt rw : LV}
theorem Pl.chg0 (h : Pl w0 w t own c k u o s rt rw) (hc : zk [] w w') : Pl w0 w' t own c k u o s rt rw := ⟨h.e.chg0 hc, h.tab.chg0 hc, h.ref.chg0 hc, h.chg.trans hc, h.fr⟩
theorem Pl.act (h : Pl w0 w t own c k u o s rt rw) {key : ByteArray} {a : zbT} {r : Value} (ha : zjI w own c k u s rt rw key a r w') :
 ∃ t' own' p n b, r = .tuple #[Pt t', .agg #[c, k, u, .slice p (zcg s rw key a).length n], .bool b] ∧ Pl w0 w' t' own' c k u (.slice p (zcg s rw key a).length n) s (zcg s rt key a) (zcg s rw key a) ∧ (rt = rw → b = true) ∧ zk own w w' := by
 obtain ⟨t', own', o', b, rfl, h1, h2, h3, h4, h5⟩ := ha
 obtain ⟨p, n, rfl, _⟩ := h2.rws.val
 refine ⟨t', own', p, n, b, rfl, ⟨h.e.tab h.tab.1 h4, h1, h2, h.chg.own h4 h.fr, fun q hq => ?_⟩, h3, h4⟩
 rcases h5 with rfl | h5
 ·exact h.fr q hq
 exact Nat.le_trans h.chg.size (h5 q hq)
theorem yx.nil (hs : y4 w c k u s) (hr : yL s = true) (hn : ∀ c ∈ s.cols, c.n.size ≤ 1048576) : yx w c k u (.slice none 0 0) s [] :=
 ⟨hs, yl.nil w, ⟨hr, by simp, by simp, List.Pairwise.nil, List.Pairwise.nil, by simp⟩, hn⟩
end
theorem zmN {w : World} {b : Nat} {x : zcb} {a : zbT} (hb : zS w b 50 (fl zcb.cs [x])) (hx : zbO w x a) : zc8 w (.slice (some ⟨b, 0, none⟩) 1 1) [a] :=
 ⟨[x], zv.toRd (zv.of_blk (n := 1) hb rfl (by simp [maxLen]) (by intro u hu; exact zcb.one hx u (by simpa [fl] using hu))), hx, trivial⟩
theorem zo3 {al : List zbT} {m : Nat} (h : al.length ≤ m ∧ ∀ y ∈ al, zdW y) : ∀ y ∈ al, y.row.length ≤ 1048576 := fun y hy => by have := (h.2 y hy).1; omega
end Go.Wk
