/- joined texts -/
import Derived.Test.YtcnkdoecfljnlaaGreatDoorZ12
set_option linter.all false
namespace Go.Wk
open Go.Proofs
set_option maxRecDepth 10000
theorem zl9 {s : yn} {rows : LV} {key : ByteArray} (h : zb7 s rows key = none) : y5 s rows key = rows := by
 unfold y5 zb7 at *
 rw [List.filter_eq_self]
 intro r hr
 have := List.find?_eq_none.1 h r hr
 simpa using this
theorem zht (c k u o : Value) (s : yn) (rows : LV) (key : ByteArray) (w : World) (h : yx w c k u o s rows) :
 z9 TP 60 #[.agg #[c, k, u, o], .string key] w fun r w' => ∃ o' x, r = .tuple #[.agg #[c, k, u, o'], x, Ii (zkp s rows key)] ∧ zK w' x ((zb7 s rows key).getD []) ∧ yx w' c k u o' s (y5 s rows key) ∧ zk [] w w' := by
 obtain ⟨po, co, rfl, hco⟩ := h.rws.val
 have hrl := h.ok.le
 refine A2 Tryz.func60 rfl rfl ?_
 refine Sr ?_
 refine Ob rfl rfl ?_
 intro b2 w2 e2 n2 c2 k2
 refine zC (gn rfl) (zI zcW rfl rfl ?_)
 intro b4 w4 e4 n4 c4 k4
 refine Oa rfl (Oa rfl (E3 1 2 4 rfl ?_))
 have k2w : zS w4 b2 54 [c, k, u, .slice po rows.length co] := k2.chg0 c4
 have hcw4 := c2.trans c4
 have hs2 := c2.size
 refine Sr ?_
 refine Og (zg yA ye rfl rfl (zB.of_blk0 k2w)) rfl ?_
 refine Om rfl ?_
 refine Oc zvr rfl rfl rfl (zm9 _ _ _ _ s rows key _ (h.chg0 hcw4)) ?_
 rintro v10 w10 ⟨i, rfl, hi, c10⟩
 refine Oa rfl (E4 1 2 4 7 rfl ?_)
 have k2x := k2w.chg0 c10
 have k4x := k4.chg0 c10
 have hcx := hcw4.trans c10
 refine ze (ze ?_)
 rcases hi with ⟨rfl, hget⟩ | ⟨j, r, rfl, hx, hget⟩
 ·refine za (Om rfl ?_)
  refine Og (vt (zz rfl rfl) (by simp)) rfl ?_
  refine E5 1 2 4 7 12 rfl (zd rfl (Sr ?_))
  refine Og (zg yA ye rfl rfl (zB.of_blk0 k2x)) rfl ?_
  refine zC (gn rfl) (zu ye rfl rfl rfl rfl k4x (by simp) (yx.one h.sch _ _ _) ?_)
  intro wB nB cB kB
  refine Oa rfl (Oa rfl (E3 4 5 6 rfl (zi ?_)))
  repeat first | refine tr ?_ | refine br ?_
  refine zeN rfl yA ye rfl rfl rfl rfl (zB.of_blk0 kB) ?_
  have hcB : zk [] w wB := hcx.own cB (by intro y hy; simp at hy; omega)
  have e : zkp s rows key = 5 := by simp [zkp, hget]
  exact ⟨.slice po rows.length co, .slice none 0 0, by rw [e]; rfl, by rw [hget]; exact ya.nil _ _ _ _, by rw [zl9 hget]; exact h.chg0 hcB, hcB⟩
 refine za (Om rfl ?_)
 refine Og (vf (zz rfl rfl) (by simp)) rfl ?_
 refine E5 1 2 4 7 12 rfl (zb rfl (zm (ze ?_)))
 have hlt : j < rows.length := (List.getElem?_eq_some_iff.1 hx).1
 obtain ⟨bo, oo, cpo, vr, hve, hcell, hvr⟩ := h.rws.at hx
 cases hve
 have h24 : b2 ∉ [b4] := by simp; omega
 refine zO (fun wz => zk [] w wz ∧ zk [b4] w10 wz) mix (by kernel_rfl) ⟨hcx.trans (zk.drew [] _), zk.drew _ _⟩ ?_
 refine Tr (fun wz hz => zg yA ye rfl rfl (zB.of_blk0 (k2x.chg hz.2 h24))) rfl ?_
 refine Tm rfl ?_
 refine Tc zsL rfl rfl rfl (zgF _ _ _ _ s rows key _ (h.chg0 (hcx.trans (zk.drew [] _)))) ?_
 rintro v16 w16 ⟨o', rfl, h16, -, c16⟩
 obtain ⟨p16, q16, rfl, -⟩ := h16.rws.val
 have h16c : zk [] w w16 := (hcx.trans (zk.drew [] _)).trans c16
 refine ⟨.inl ⟨h16c, ((zk.drew [] _).trans c16).any⟩, ?_⟩
 refine Td yF rfl ?_
 refine Tr (fun wz hz => zj zbc rfl ((k2x.chg hz.2 h24).cell' (i := 3) rfl)) rfl ?_
 refine Tm rfl ?_
 refine Tp (fun _ => zf zao zc1 rfl rfl _ rfl hlt) rfl ?_
 refine Tr (fun wz hz => zj zaV rfl (hz.1.cell hcell)) rfl ?_
 refine zaq rfl (gn rfl) (zu ye rfl rfl rfl rfl (k4x.chg0 ((zk.drew [] _).trans c16)) (by simp) (yx.one h16.sch _ _ _) ?_)
 intro wB nB cB kB
 refine ⟨.inl ⟨h16c.own cB (by intro y hy; simp at hy; omega), (((zk.drew [] _).trans c16).any (S := [b4])).transS cB⟩, ?_⟩
 refine Ta rfl (Ta rfl (D3 4 5 6 rfl (zi ?_)))
 refine zeN rfl yA ye rfl rfl rfl rfl (zB.of_blk0 kB) ?_
 have hcB : zk [] w wB := h16c.own cB (by intro y hy; simp at hy; omega)
 have e : zkp s rows key = 0 := by simp [zkp, hget]
 exact ⟨.slice p16 (y5 s rows key).length q16, vr, by rw [e]; rfl, by rw [hget]; exact (ym.chg0 hvr hcB).arr, ⟨h.sch.chg0 hcB, h16.rws.chgB (k4x.chg0 ((zk.drew [] _).trans c16)) rfl rfl cB, h16.ok, h16.nm⟩, hcB⟩
theorem zhM (c k u o v : Value) (s : yn) (rows : LV) (key : ByteArray) (row : List zP) (w : World) (h : yx w c k u o s rows) (hl : zK w v row) (hg : ∀ x ∈ row, x.Rng) :
 z9 TP 59 #[.agg #[c, k, u, o], .string key, v] w fun r w' => ∃ o' x, r = .tuple #[.agg #[c, k, u, o'], x, Ii (zcs s rows key row)] ∧ zK w' x (zfk s rows key row) ∧ yx w' c k u o' s (zeq s rows key row) ∧ zk [] w w' := by
 obtain ⟨po, co, rfl, hco⟩ := h.rws.val
 obtain ⟨pv, cv, rfl, hcv⟩ := ya.val hl
 have hrl := h.ok.le
 refine A3 Tryz.func59 rfl rfl ?_
 refine Sr ?_
 refine Ob rfl rfl ?_
 intro b3 w3 e3 n3 c3 k3
 refine zC (gn rfl) (zI zcW rfl rfl ?_)
 intro b6 w6 e6 n6 c6 k6
 refine Oa rfl (Oa rfl (E4 1 2 3 6 rfl ?_))
 have k3w : zS w6 b3 54 [c, k, u, .slice po rows.length co] := k3.chg0 c6
 have hcw := c3.trans c6
 have hs2 := c3.size
 refine ze (Sr (Od zgm rfl ?_))
 refine Og (zg zbu zbt rfl rfl (zB.of_blk k3w 0 [c, k, u] ⟨[_], rfl⟩)) rfl ?_
 refine Om rfl ?_
 refine Oc zsG rfl rfl rfl (zoY _ _ _ _ s row _ (h.sch.chg0 hcw) (ya.chg0 hl hcw) h.nm) ?_
 rintro v14 w14 ⟨rfl, c14⟩
 refine Oa rfl (E5 1 2 3 6 9 rfl ?_)
 have k3x := k3w.chg0 c14
 have k6x := k6.chg0 c14
 have hcx := hcw.trans c14
 refine ze ?_
 by_cases hf : yT s row ≠ 0
 ·refine za (Om rfl ?_)
  refine Og (vt (zX rfl rfl) (by simp [hf])) rfl ?_
  refine E6 1 2 3 6 9 16 rfl (zd rfl (Sr ?_))
  refine Og (zg yA ye rfl rfl (zB.of_blk0 k3x)) rfl ?_
  refine Om rfl ?_
  refine zC (gn rfl) (zu ye rfl rfl rfl rfl k6x (by simp) (yx.one h.sch _ _ _) ?_)
  intro wB nB cB kB
  refine Oa rfl (Oa rfl (E3 6 7 8 rfl (zi ?_)))
  repeat first | refine tr ?_ | refine br ?_
  refine zeN rfl yA ye rfl rfl rfl rfl (zB.of_blk0 kB) ?_
  have hcB : zk [] w wB := (hcx).own cB (by intro y hy; simp at hy; omega)
  have e : zcs s rows key row = yT s row := by simp [zcs, hf]
  have e0 : ¬ (zcs s rows key row = 0) := by rw [e]; exact hf
  exact ⟨.slice po rows.length co, .slice none 0 0, by rw [e]; rfl, by simp only [zfk, if_neg e0]; exact ya.nil _ _ _ _, by simp only [zeq, if_neg e0]; exact h.chg0 hcB, hcB⟩
 have hf : yT s row = 0 := by omega
 refine za (Om rfl ?_)
 refine Og (vf (zX rfl rfl) (by simp [hf])) rfl ?_
 refine E6 1 2 3 6 9 16 rfl (zb rfl (zm (Sr ?_)))
 refine Og (zg yA ye rfl rfl (zB.of_blk0 k3x)) rfl ?_
 refine Om rfl ?_
 refine Oc zvr rfl rfl rfl (zm9 _ _ _ _ s rows key _ (h.chg0 hcx)) ?_
 rintro v21 w21 ⟨i, rfl, hi, c21⟩
 refine Oa rfl (E5 1 2 3 6 10 rfl ?_)
 have k3y := k3x.chg0 c21
 have k6y := k6x.chg0 c21
 have hcy := hcx.trans c21
 refine ze (ze ?_)
 rcases hi with ⟨rfl, hget⟩ | ⟨j, r, rfl, hx, hget⟩
 ·refine za (Om rfl ?_)
  refine Og (vt (zz rfl rfl) (by simp)) rfl ?_
  refine E6 1 2 3 6 10 23 rfl (zd rfl (Sr ?_))
  refine Og (zg yA ye rfl rfl (zB.of_blk0 k3y)) rfl ?_
  refine zC (gn rfl) (zu ye rfl rfl rfl rfl k6y (by simp) (yx.one h.sch _ _ _) ?_)
  intro wB nB cB kB
  refine Oa rfl (Oa rfl (E3 6 7 8 rfl (zi ?_)))
  repeat first | refine tr ?_ | refine br ?_
  refine zeN rfl yA ye rfl rfl rfl rfl (zB.of_blk0 kB) ?_
  have hcB : zk [] w wB := (hcy).own cB (by intro y hy; simp at hy; omega)
  have e : zcs s rows key row = 5 := by simp [zcs, hf, hget]
  have e0 : ¬ (zcs s rows key row = 0) := by rw [e]; decide
  exact ⟨.slice po rows.length co, .slice none 0 0, by rw [e]; rfl, by simp only [zfk, if_neg e0]; exact ya.nil _ _ _ _, by simp only [zeq, if_neg e0]; exact h.chg0 hcB, hcB⟩
 refine za (Om rfl ?_)
 refine Og (vf (zz rfl rfl) (by simp)) rfl ?_
 refine E6 1 2 3 6 10 23 rfl (zb rfl (zm (ze (Sr ?_))))
 refine Og (zg yA ye rfl rfl (zB.of_blk0 k3y)) rfl ?_
 refine Om rfl (Om rfl ?_)
 refine Oc zvo rfl rfl rfl (zmz _ _ _ _ _ s rows row key _ (h.chg0 hcy) (ya.chg0 hl hcy) hf) ?_
 rintro v28 w28 ⟨rfl, c28⟩
 refine E6 1 2 3 6 10 28 rfl ?_
 have k3z := k3y.chg0 c28
 have k6z := k6y.chg0 c28
 have hcz := hcy.trans c28
 cases ht : zbV s rows row key with
 | true =>
  refine zd rfl (Sr ?_)
  refine Og (zg yA ye rfl rfl (zB.of_blk0 k3z)) rfl ?_
  refine zC (gn rfl) (zu ye rfl rfl rfl rfl k6z (by simp) (yx.one h.sch _ _ _) ?_)
  intro wB nB cB kB
  refine Oa rfl (Oa rfl (E3 6 7 8 rfl (zi ?_)))
  repeat first | refine tr ?_ | refine br ?_
  refine zeN rfl yA ye rfl rfl rfl rfl (zB.of_blk0 kB) ?_
  have hcB : zk [] w wB := (hcz).own cB (by intro y hy; simp at hy; omega)
  have e : zcs s rows key row = 220 := by simp [zcs, hf, hget, ht]
  have e0 : ¬ (zcs s rows key row = 0) := by rw [e]; decide
  exact ⟨.slice po rows.length co, .slice none 0 0, by rw [e]; rfl, by simp only [zfk, if_neg e0]; exact ya.nil _ _ _ _, by simp only [zeq, if_neg e0]; exact h.chg0 hcB, hcB⟩
 | false =>
  refine zb rfl (zm (ze ?_))
  have hlt : j < rows.length := (List.getElem?_eq_some_iff.1 hx).1
  obtain ⟨bo, oo, cpo, vr, hve, hcell, hvr⟩ := h.rws.at hx
  cases hve
  have h36 : b3 ∉ [b6] := by simp; omega
  have e : zcs s rows key row = 0 := by simp [zcs, hf, hget, ht]
  obtain ⟨-, -, hfree, h400⟩ := zpi h.ok e
  refine zO (fun wz => zk [] w wz ∧ zk [b6] w28 wz) mix (by kernel_rfl) ⟨hcz.trans (zk.drew [] _), zk.drew _ _⟩ ?_
  refine Tr (fun wz hz => zg yA ye rfl rfl (zB.of_blk0 (k3z.chg hz.2 h36))) rfl ?_
  refine Tm rfl ?_
  refine Tc zsL rfl rfl rfl (zgF _ _ _ _ s rows key _ (h.chg0 (hcz.trans (zk.drew [] _)))) ?_
  rintro v32 w32 ⟨o', rfl, h32, -, c32⟩
  have G32 : zk [] w28 w32 := (zk.drew [] _).trans c32
  refine ⟨.inl ⟨hcz.trans G32, G32.any⟩, ?_⟩
  refine Tm rfl ?_
  refine Tc ztN rfl rfl rfl (zl1 _ _ _ _ _ s (y5 s rows key) row _ h32 (ya.chg0 hl (hcz.trans G32)) hf hg hfree h400) ?_
  rintro v34 w34 ⟨o2, rfl, h34, c34⟩
  obtain ⟨p34, q34, rfl, -⟩ := h34.rws.val
  refine ⟨.inl ⟨hcz.trans (G32.trans c34), (G32.trans c34).any⟩, ?_⟩
  refine Td yF rfl ?_
  refine Tr (fun wz hz => zj zbc rfl ((k3z.chg hz.2 h36).cell' (i := 3) rfl)) rfl ?_
  refine Tm rfl ?_
  refine Tp (fun _ => zf zao zc1 rfl rfl _ rfl hlt) rfl ?_
  refine Tr (fun wz hz => zj zaV rfl (hz.1.cell hcell)) rfl ?_
  refine zaq rfl (gn rfl) (zu ye rfl rfl rfl rfl (k6z.chg0 (G32.trans c34)) (by simp) (yx.one h34.sch _ _ _) ?_)
  intro wB nB cB kB
  refine ⟨.inl ⟨(hcz.trans (G32.trans c34)).own cB (by intro y hy; simp at hy; omega), ((G32.trans c34).any (S := [b6])).transS cB⟩, ?_⟩
  refine Ta rfl (Ta rfl (D3 6 7 8 rfl (zi ?_)))
  refine zeN rfl yA ye rfl rfl rfl rfl (zB.of_blk0 kB) ?_
  have hcB : zk [] w wB := (hcz.trans (G32.trans c34)).own cB (by intro y hy; simp at hy; omega)
  have eR : zeq s rows key row = zbN s (y5 s rows key) row := by simp only [zeq, e, if_true]
  have eW : zfk s rows key row = r := by simp [zfk, e, hget]
  refine ⟨.slice p34 (zbN s (y5 s rows key) row).length q34, vr, by rw [e]; rfl, by rw [eW]; exact (ym.chg0 hvr hcB).arr, ?_, hcB⟩
  rw [eR]
  exact ⟨h.sch.chg0 hcB, h34.rws.chgB (k6z.chg0 (G32.trans c34)) rfl rfl cB, h34.ok, h34.nm⟩
def zdN (s : yn) (rows : LV) (row : List zP) (j : Nat) : LV := (rows.take j).filter (fun r => !yy s r row) ++ rows.drop j
theorem zoL {s : yn} {A D : LV} {r : List zP} (p : List zP → Bool) (h : (A ++ r :: D).Pairwise fun a b => blt (z0 s a) (z0 s b) = true) : y5 s (A.filter p ++ r :: D) (z0 s r) = A.filter p ++ D := by
 obtain ⟨-, hp2, hp3⟩ := List.pairwise_append.1 h
 have hp2' := (List.pairwise_cons.1 hp2).1
 have e1 : (A.filter p).filter (fun a => decide (z0 s a ≠ z0 s r)) = A.filter p :=
  List.filter_eq_self.2 fun a ha => by simpa using zgK (hp3 a (List.mem_filter.1 ha).1 r (by simp))
 have e2 : D.filter (fun a => decide (z0 s a ≠ z0 s r)) = D :=
  List.filter_eq_self.2 fun a ha => by simpa using (zgK (hp2' a ha)).symm
 unfold y5
 rw [List.filter_append, e1, List.filter_cons, e2]
 simp
theorem zo8 {s : yn} {rows : LV} {row r : List zP} {j : Nat} (h : yZ s rows) (hx : rows[j]? = some r) :
 zdN s rows row (j + 1) = if yy s r row = true then y5 s (zdN s rows row j) (z0 s r) else zdN s rows row j := by
 obtain ⟨hlt, he⟩ := List.getElem?_eq_some_iff.1 hx
 have hd : rows.drop j = r :: rows.drop (j + 1) := by rw [← he]; exact (List.getElem_cons_drop ..).symm
 have htk : rows.take (j + 1) = rows.take j ++ [r] := by rw [← he]; exact List.take_succ_eq_append_getElem hlt
 have hp := h.srt
 have hrows : rows = rows.take j ++ r :: rows.drop (j + 1) := by rw [← hd, List.take_append_drop]
 rw [hrows] at hp
 unfold zdN
 rw [htk, hd, List.filter_append]
 by_cases hc : yy s r row = true
 ·rw [if_pos hc, zoL _ hp]
  simp [hc]
 rw [if_neg hc]
 simp only [Bool.not_eq_true] at hc
 simp [hc]
theorem yl.chgR {w w' : World} {v u : Value} {n : Nat} {us : List Value} {ls : LV} (h : yl w v ls) (hu : zv w 48 1 u n us) (hd : ∀ b ∈ zn v, b ∉ zn u) (hc : zk (zn u) w w') : yl w' v ls :=
 let ⟨vs, g1, g2⟩ := h
 ⟨vs, zv.chg g1 hc hd, g2.chg hc (g2.apartSl hu rfl)⟩
theorem zn4 (c k u o v : Value) (s : yn) (rows : LV) (row : List zP) (w : World) (h : yx w c k u o s rows) (hl : zK w v row) (hg : ∀ x ∈ row, x.Rng) :
 z9 TP 58 #[.agg #[c, k, u, o], v] w fun r w' => ∃ o' x, r = .tuple #[.agg #[c, k, u, o'], x, Ii (zcm s rows row)] ∧ yl w' x (zcB s rows row) ∧ yx w' c k u o' s (zdj s rows row) ∧ zk [] w w' := by
 obtain ⟨po, co, rfl, hco⟩ := h.rws.val
 obtain ⟨pv, cv, rfl, hcv⟩ := ya.val hl
 have hrl := h.ok.le
 refine A2 Tryz.func58 rfl rfl ?_
 refine Sr ?_
 refine Ob rfl rfl ?_
 intro b2 w2 e2 n2 c2 k2
 refine zC (gn rfl) (zI zcW rfl rfl ?_)
 intro b4 w4 e4 n4 c4 k4
 refine Oa rfl (Oa rfl (E3 1 2 4 rfl ?_))
 have k2w : zS w4 b2 54 [c, k, u, .slice po rows.length co] := k2.chg0 c4
 have hcw := c2.trans c4
 have hs2 := c2.size
 refine ze (Sr (Od zgm rfl ?_))
 refine Og (zg zbu zbt rfl rfl (zB.of_blk k2w 0 [c, k, u] ⟨[_], rfl⟩)) rfl ?_
 refine Om rfl ?_
 refine Oc zsG rfl rfl rfl (zoY _ _ _ _ s row _ (h.sch.chg0 hcw) (ya.chg0 hl hcw) h.nm) ?_
 rintro v14 w14 ⟨rfl, c14⟩
 refine Oa rfl (E4 1 2 4 7 rfl ?_)
 have k2x := k2w.chg0 c14
 have k4x := k4.chg0 c14
 have hcx := hcw.trans c14
 refine ze ?_
 by_cases hf : yT s row ≠ 0
 ·refine za (Om rfl ?_)
  refine Og (vt (zX rfl rfl) (by simp [hf])) rfl ?_
  refine E5 1 2 4 7 16 rfl (zd rfl (Sr ?_))
  refine Og (zg yA ye rfl rfl (zB.of_blk0 k2x)) rfl ?_
  refine Om rfl ?_
  refine zC (gn rfl) (zu ye rfl rfl rfl rfl k4x (by simp) (yx.one h.sch _ _ _) ?_)
  intro wB nB cB kB
  refine Oa rfl (Oa rfl (E3 4 5 6 rfl (zi ?_)))
  repeat first | refine tr ?_ | refine br ?_
  refine zeN rfl yA ye rfl rfl rfl rfl (zB.of_blk0 kB) ?_
  have hcB : zk [] w wB := hcx.own cB (by intro y hy; simp at hy; omega)
  have e : zcm s rows row = yT s row := by simp [zcm, hf]
  have e0 : ¬ (zcm s rows row = 0) := by rw [e]; exact hf
  exact ⟨.slice po rows.length co, .slice none 0 0, by rw [e]; rfl, by simp only [zcB, if_neg e0]; exact yl.nil _, by simp only [zdj, if_neg e0]; exact h.chg0 hcB, hcB⟩
 have hf : yT s row = 0 := by omega
 refine za (Om rfl ?_)
 refine Og (vf (zX rfl rfl) (by simp [hf])) rfl ?_
 refine E5 1 2 4 7 16 rfl (zb rfl (zm (Sr ?_)))
 refine Og (zg yA ye rfl rfl (zB.of_blk0 k2x)) rfl ?_
 refine zC (gn rfl) (zI zcW rfl rfl ?_)
 intro b8 w8 e8 n8 c8 k8
 refine zC (gn rfl) (zu ye rfl rfl rfl rfl k8 (by simp) (yx.one h.sch _ _ _) ?_)
 intro wA nA cA kA
 refine E4 1 2 4 8 rfl ?_
 have kA : zS wA b8 54 [c, k, u, .slice po rows.length co] := kA
 have hs8 := hcx.size
 have hcA14 : zk [] w14 wA := c8.own cA (by intro y hy; simp at hy; omega)
 have hcA : zk [] w wA := hcx.trans hcA14
 have k2A := k2x.chg0 hcA14
 have k4A := k4x.chg0 hcA14
 have h28 : b2 ∉ [b8] := by have := k2x.lt; simp; omega
 have h48 : b4 ∉ [b8] := by have := k4x.lt; simp; omega
 have h8w : w.heap.size ≤ b8 := by omega
 refine Sr (Oa rfl (E5 1 2 4 8 9 rfl (ze (Sr (Oa rfl (E6 1 2 4 8 9 10 rfl (zq ?_)))))))
 refine zY [1, 2, 4, 8, 9, 10] (fun m F wx => ∃ j : Nat, m = rows.length - j ∧ j ≤ rows.length ∧ ∃ x oj : Value, F = [(1, .slice pv row.length cv), (2, Pt b2), (4, Pt b4), (8, Pt b8), (9, x), (10, Ii j)] ∧ yl wx x (zan s (rows.take j) row) ∧ yx wx c k u oj s (zdN s rows row j) ∧ (∀ b ∈ zn x, wA.heap.size ≤ b) ∧ (∀ b ∈ zn oj, b ∉ zn x) ∧ zS wx b8 54 [c, k, u, oj] ∧ zk [b8] wA wx ∧ zk [] w wx) (m := rows.length - 0) ⟨0, rfl, Nat.zero_le _, _, _, rfl, yl.nil _, h.chg0 hcA, by simp [zn], by simp [zn], kA, zk.refl _ _, hcA⟩ ?_
 rintro m F wx ⟨j, rfl, hj, x, oj, rfl, hX, hJ, hfx, hdis, k8x, hAx, hwx⟩
 have k2z := k2A.chg hAx h28
 have k4z := k4A.chg hAx h48
 obtain ⟨pj, cj, rfl, hcj⟩ := hJ.rws.val
 have zA := hcA.size
 have zx := hAx.size
 have hfw : ∀ b ∈ zn x, w.heap.size ≤ b := fun b hb => Nat.le_trans zA (hfx b hb)
 refine ze (ze ?_)
 by_cases hlt : j < rows.length
 ·refine za (Om rfl (Od yF rfl ?_))
  refine Ol zbc rfl (k2z.cell' (i := 3) rfl) ?_
  refine On zao rfl ?_
  refine Og (vt (zz rfl rfl) (by simp; omega)) rfl ?_
  refine E7 1 2 4 8 9 10 24 rfl (zd rfl (zm ?_))
  have hx : rows[j]? = some rows[j] := by simp [hlt]
  have htk := List.take_succ_eq_append_getElem hlt
  have hmem := List.getElem_mem hlt
  generalize rows[j] = r at hx htk hmem
  have hfr := h.ok.fit r hmem
  have hgr := h.ok.rng r hmem
  have hgo := zo8 (row := row) h.ok hx
  obtain ⟨bo, oo, cpo, vr, hve, hcell, hvr⟩ := (h.rws.chg0 hwx).at hx
  cases hve
  have hce : ∀ {wz : World}, zk [] wx wz → yx wz c k u (.slice (some ⟨bo, oo, none⟩) rows.length co) s rows ∧ zS wz b2 54 [c, k, u, .slice (some ⟨bo, oo, none⟩) rows.length co] ∧ wz.cell? ⟨bo, oo + j * 1, none⟩ = some vr ∧ zK wz vr r ∧ zK wz (.slice pv row.length cv) row := fun hc => ⟨h.chg0 (hwx.trans hc), k2z.chg0 hc, hc.cell hcell, (ym.chg0 hvr hc).arr, ya.chg0 hl (hwx.trans hc)⟩
  refine ze (zq (ze ?_))
  refine zO (fun wz => zk [] wx wz) mix (by kernel_rfl) (zk.drew [] wx) ?_
  refine Tr (fun wz hz => zg yA ye rfl rfl (zB.of_blk0 (hce hz).2.1)) rfl ?_
  refine Td yF rfl ?_
  refine Tr (fun wz hz => zj zbc rfl ((hce hz).2.1.cell' (i := 3) rfl)) rfl ?_
  refine Tm rfl ?_
  refine Tp (fun _ => zf zao zc1 rfl rfl _ rfl hlt) rfl ?_
  refine Tr (fun wz hz => zj zaV rfl (hce hz).2.2.1) rfl ?_
  refine Tm rfl ?_
  refine Tc zuR rfl rfl rfl (zi4 _ _ _ _ _ _ s rows r row _ (hce (zk.drew [] _)).1 (hce (zk.drew [] _)).2.2.2.1 (hce (zk.drew [] _)).2.2.2.2 hfr hf) ?_
  rintro v34 w34 ⟨rfl, c34⟩
  refine ⟨.inl ((zk.drew [] _).trans c34), ?_⟩
  refine zne [1, 2, 4, 8, 9, 10, 34] (F' := [(1, _), (2, _), (4, _), (8, _), (9, _), (10, _), (34, _)]) rfl ?_
  have G34 : zk [] wx w34 := (zk.drew [] _).trans c34
  cases hcl : yy s r row with
  | false =>
   refine zb rfl (yg (zh (za (Om rfl ?_))))
   refine Og (zH rfl rfl (by omega)) rfl ?_
   refine Oa rfl (N6 1 2 4 8 9 10 rfl ?_)
   have e1 : zan s (rows.take (j + 1)) row = zan s (rows.take j) row := by unfold zan; rw [htk, List.filter_append]; simp [hcl]
   rw [hcl] at hgo
   exact ⟨rows.length - (j + 1), by omega, j + 1, rfl, by omega, x, _, rfl, e1 ▸ hX.chg0 G34, hgo ▸ hJ.chg0 G34, hfx, hdis, k8x.chg0 G34, hAx.trans G34, hwx.trans G34⟩
  | true =>
   refine zd rfl ?_
   rw [hcl, if_pos rfl] at hgo
   refine ze ?_
   obtain ⟨pr, cr, rfl, -⟩ := ym.val hvr
   obtain ⟨us, hus, hls⟩ := hX.chg0 G34
   have hgl : (zan s (rows.take j) row).length ≤ 400 := by
    have := List.length_filter_le (fun r => yy s r row) (rows.take j)
    unfold zan
    rw [List.length_take] at this
    omega
   refine za (Om rfl (Od yF rfl ?_))
   refine Ol zbc rfl ((hce G34).2.1.cell' (i := 3) rfl) ?_
   refine Om rfl ?_
   refine Og (zf zao zc1 rfl rfl _ rfl hlt) rfl ?_
   refine Ol zaV rfl (hce G34).2.2.1 ?_
   refine zC (gn rfl) (zy zg7 rfl (vs := [_]) rfl (css := [_]) ⟨rfl, trivial⟩ rfl rfl (cs := [_]) rfl rfl ?_)
   intro b41 w41 e41 n41 c41 k41
   refine zC (gn rfl) (yq zg7 zao rfl rfl (zv.chg0 hus c41) (zv.of_blk (n := 1) k41 rfl (by simp [maxLen]) (by intro y hy; simp at hy; subst hy; rfl)) (by simp only [maxLen]; omega) (by omega) rfl ?_)
   intro v42 w42 i42 c42 o42 z42
   refine Oa rfl (E6 1 2 4 8 9 10 rfl ?_)
   have e1 : zan s (rows.take (j + 1)) row = zan s (rows.take j) row ++ [r] := by unfold zan; rw [htk, List.filter_append]; simp [hcl]
   have hX42 : yl w42 v42 (zan s (rows.take (j + 1)) row) := by rw [e1]; exact yl.push hus hls (ym.chg0 hvr G34) c41 i42 c42
   have z1 := hwx.size
   have z2 := G34.size
   have z3 := c41.size
   have z4 := c42.size
   have f42 := yw o42 hfx (by omega)
   have G41 := G34.trans c41
   have hJ42 : yx w42 c k u (.slice pj (zdN s rows row j).length cj) s (zdN s rows row j) := ⟨h.sch.chg0 ((hwx.trans G41).own c42 hfw), ((hJ.rws.chg0 G41).chgR (zv.chg0 hus c41) hdis c42), hJ.ok, hJ.nm⟩
   have hb8x : b8 ∉ zn x := fun hm => zv.apart hus (k8x.chg0 G34) rfl b8 hm (by simp)
   have hb2x : b2 ∉ zn x := fun hm => zv.apart hus (k2z.chg0 G34) rfl b2 hm (by simp)
   have k842 : zS w42 b8 54 [c, k, u, .slice pj (zdN s rows row j).length cj] := (k8x.chg0 G41).chg c42 hb8x
   have k242 : zS w42 b2 54 [c, k, u, .slice (some ⟨bo, oo, none⟩) rows.length co] := (k2z.chg0 G41).chg c42 hb2x
   have hw42 : zk [] w w42 := (hwx.trans G41).own c42 hfw
   obtain ⟨bq, oq, cpq, vq, hve2, hcell2, hvq⟩ := (h.rws.chg0 hw42).at hx
   cases hve2
   obtain ⟨pr2, cr2, rfl, -⟩ := ym.val hvq
   have hdr : w42.drew.heap.size = w42.heap.size := rfl
   refine zO (fun wz => zk [] w42 wz) mix (by kernel_rfl) (zk.drew [] _) ?_
   refine Tr (fun wz hz => zg yA ye rfl rfl (zB.of_blk0 (k842.chg0 hz))) rfl ?_
   refine Tr (fun wz hz => zg yA ye rfl rfl (zB.of_blk0 (k242.chg0 hz))) rfl ?_
   refine Td yF rfl ?_
   refine Tr (fun wz hz => zj zbc rfl ((k242.chg0 hz).cell' (i := 3) rfl)) rfl ?_
   refine Tm rfl ?_
   refine Tp (fun _ => zf zao zc1 rfl rfl _ rfl hlt) rfl ?_
   refine Tr (fun wz hz => zj zaV rfl (hz.cell hcell2)) rfl ?_
   refine Tc zhW rfl rfl rfl (zdw _ _ _ _ _ s rows r _ (h.chg0 (hw42.trans (zk.drew [] _))) (ym.chg0 hvq (zk.drew [] _)).arr hfr hgr) ?_
   rintro v50 w50 ⟨rfl, c50⟩
   refine ⟨.inl ((zk.drew [] _).trans c50), ?_⟩
   refine Tc zsL rfl rfl rfl (zgF _ _ _ _ s (zdN s rows row j) (z0 s r) _ (hJ42.chg0 ((zk.drew [] _).trans c50))) ?_
   rintro v51 w51 ⟨o', rfl, h51, f51, c51⟩
   obtain ⟨p51, q51, rfl, -⟩ := h51.rws.val
   have G51 : zk [] w42 w51 := ((zk.drew [] _).trans c50).trans c51
   refine ⟨.inl G51, ?_⟩
   refine zaq rfl (gn rfl) (zu ye rfl rfl rfl rfl (k842.chg0 G51) (by simp) (yx.one h51.sch _ _ _) ?_)
   intro wB nB cB kB
   refine ⟨.inr (by kernel_rfl), ?_⟩
   refine zdU [1, 2, 4, 8, 9, 10] (F' := [(1, _), (2, _), (4, _), (8, _), (9, _), (10, _)]) rfl ?_
   refine zh (za (Om rfl ?_))
   refine Og (zH rfl rfl (by omega)) rfl ?_
   refine Oa rfl (N6 1 2 4 8 9 10 rfl ?_)
   have z5 := c50.size
   have hwB : zk [] w wB := (hw42.trans G51).own cB (by intro y hy; simp at hy; omega)
   have kB : zS wB b8 54 [c, k, u, .slice p51 (y5 s (zdN s rows row j) (z0 s r)).length q51] := kB
   have hAB : zk [b8] wA wB := by
    have h1 : zk [b8] wA w42 := (hAx.trans G41).trans' c42 (fun y hy => .inr (hfx y hy))
    exact (h1.trans G51).transS cB
   have hXB : yl wB v42 (zan s (rows.take (j + 1)) row) := (hX42.chg0 G51).chgB (k842.chg0 G51) rfl rfl cB
   have hJB : yx wB c k u (.slice p51 (y5 s (zdN s rows row j) (z0 s r)).length q51) s (y5 s (zdN s rows row j) (z0 s r)) := ⟨h.sch.chg0 hwB, h51.rws.chgB (k842.chg0 G51) rfl rfl cB, h51.ok, h51.nm⟩
   have hlt42 : ∀ b ∈ zn v42, b < w42.heap.size := by obtain ⟨_, g, _⟩ := hX42; exact zv.lt g
   refine ⟨rows.length - (j + 1), by omega, j + 1, rfl, by omega, v42, _, rfl, hXB, hgo ▸ hJB, f42, fun b hb hm => ?_, kB, hAB, hwB⟩
   have g1 := f51 b hb
   have g2 := hlt42 b hm
   omega
 refine za (Om rfl (Od yF rfl ?_))
 refine Ol zbc rfl (k2z.cell' (i := 3) rfl) ?_
 refine On zao rfl ?_
 refine Og (vf (zz rfl rfl) (by simp; omega)) rfl ?_
 refine E7 1 2 4 8 9 10 24 rfl (zb rfl ?_)
 refine zN ?_
 repeat first | refine te ?_ | refine bo rfl ?_
 refine zt _ ?_
 have hjl : j = rows.length := by omega
 subst hjl
 have e1 : zdN s rows row rows.length = zcv s rows row := by unfold zdN zcv; simp
 rw [List.take_length] at hX
 rw [e1] at hJ k8x
 refine ze (ze ?_)
 by_cases h4 : 400 ≤ (zcv s rows row).length
 ·refine za (Od yF rfl ?_)
  refine Ol zbc rfl (k8x.cell' (i := 3) rfl) ?_
  refine On zao rfl ?_
  refine Og (vt (yt rfl rfl) (by simp; omega)) rfl ?_
  refine E6 1 2 4 8 9 55 rfl (zd rfl (Sr ?_))
  refine Og (zg yA ye rfl rfl (zB.of_blk0 k2z)) rfl ?_
  refine zC (gn rfl) (zu ye rfl rfl rfl rfl k4z (by simp) (yx.one h.sch _ _ _) ?_)
  intro wB nB cB kB
  refine Oa rfl (Oa rfl (E3 4 5 6 rfl (zi ?_)))
  repeat first | refine tr ?_ | refine br ?_
  refine zeN rfl yA ye rfl rfl rfl rfl (zB.of_blk0 kB) ?_
  have hcB : zk [] w wB := hwx.own cB (by intro y hy; simp at hy; omega)
  have e : zcm s rows row = 3 := by simp [zcm, hf, h4]
  have e0 : ¬ (zcm s rows row = 0) := by rw [e]; decide
  exact ⟨.slice po rows.length co, .slice none 0 0, by rw [e]; rfl, by simp only [zcB, if_neg e0]; exact yl.nil _, by simp only [zdj, if_neg e0]; exact h.chg0 hcB, hcB⟩
 refine za (Od yF rfl ?_)
 refine Ol zbc rfl (k8x.cell' (i := 3) rfl) ?_
 refine On zao rfl ?_
 refine Og (vf (yt rfl rfl) (by simp; omega)) rfl ?_
 refine E6 1 2 4 8 9 55 rfl (zb rfl (zm (Sr ?_)))
 refine Og (zg yA ye rfl rfl (zB.of_blk0 k8x)) rfl ?_
 refine Om rfl ?_
 refine Oc ztN rfl rfl rfl (zl1 _ _ _ _ _ s (zcv s rows row) row _ hJ (ya.chg0 hl hwx) hf hg ziw (by omega)) ?_
 rintro v59 w59 ⟨o', rfl, h59, c59⟩
 obtain ⟨p59, q59, rfl, -⟩ := h59.rws.val
 refine Om rfl ?_
 refine zC (gn rfl) (zu ye rfl rfl rfl rfl (k4z.chg0 c59) (by simp) (yx.one h59.sch _ _ _) ?_)
 intro wB nB cB kB
 refine Oa rfl (Oa rfl (E3 4 5 6 rfl (zi ?_)))
 refine zeN rfl yA ye rfl rfl rfl rfl (zB.of_blk0 kB) ?_
 have hcB : zk [] w wB := (hwx.trans c59).own cB (by intro y hy; simp at hy; omega)
 have e : zcm s rows row = 0 := by simp [zcm, hf, h4]
 have eR : zdj s rows row = zbN s (zcv s rows row) row := by simp only [zdj, e, if_true]
 have eG : zcB s rows row = zan s rows row := by simp only [zcB, e, if_true]
 refine ⟨.slice p59 (zbN s (zcv s rows row) row).length q59, x, by rw [e]; rfl, by rw [eG]; exact (hX.chg0 c59).chgB (k4z.chg0 c59) rfl rfl cB, ?_, hcB⟩
 rw [eR]
 exact ⟨h.sch.chg0 hcB, h59.rws.chgB (k4z.chg0 c59) rfl rfl cB, h59.ok, h59.nm⟩
def zew (s : yn) (rows : LV) (k : ByteArray) : LV := rows.filter fun r => !blt (z0 s r) k
def atR (s : yn) (rows : LV) (k : ByteArray) : Nat := (rows.takeWhile fun r => blt (z0 s r) k).length
theorem zhL {s : yn} {k : ByteArray} : ∀ {rows : LV}, (rows.Pairwise fun a b => blt (z0 s a) (z0 s b) = true) → zew s rows k = rows.dropWhile fun r => blt (z0 s r) k
 | [], _ => rfl
 | r :: rows, h => by
  obtain ⟨h1, h2⟩ := List.pairwise_cons.1 h
  have ih := zhL (k := k) h2
  unfold zew at ih ⊢
  cases hb : blt (z0 s r) k with
  | true => simp [hb, ih]
  | false =>
   simp only [List.filter_cons, hb, Bool.not_false, if_true, List.dropWhile_cons, Bool.false_eq_true, if_false]
   congr 1
   refine List.filter_eq_self.2 fun x hx => ?_
   cases hxk : blt (z0 s x) k with
   | false => rfl
   | true => rw [zce (h1 x hx) hxk] at hb; cases hb
theorem zrq {α : Type} (p : α → Bool) (l : List α) : l.drop (l.takeWhile p).length = l.dropWhile p := by
 conv => lhs; rw [← List.takeWhile_append_dropWhile (p := p) (l := l)]
 have e : ((l.takeWhile p ++ l.dropWhile p).takeWhile p) = l.takeWhile p := by rw [List.takeWhile_append_dropWhile]
 rw [e]
 exact List.drop_left
theorem znw {s : yn} {rows : LV} (h : yZ s rows) (k : ByteArray) : zew s rows k = rows.drop (atR s rows k) := by
 rw [zhL h.srt, atR, zrq]
theorem ztu {s : yn} {rows : LV} {l : List Ent} (h : l = rows.map fun r => (z0 s r, zeA s r)) (k : ByteArray) : zbo l k = (zew s rows k).map fun r => (z0 s r, zeA s r) := by
 subst h
 unfold zbo zew
 rw [List.filter_map]
 rfl
theorem zqg (s : yn) (rows : LV) : zew s rows e0 = rows := List.filter_eq_self.2 fun x _ => by simp [zua]
theorem zpK {s : yn} {rows : LV} (h : yZ s rows) {r : List zP} (hr : r ∈ rows) {j : Nat} {st : List Int} (hst : (zG s)[j]? = some st) :
 za6 s rows j (zJ r st) = if nnS (zJ r st) = true then some r else none := by
 have hm : st ∈ zG s := List.mem_of_getElem? hst
 rw [zhi hst, if_neg (by rw [zc0]; simp)]
 cases hn : nnS (zJ r st) with
 | true =>
  rw [if_pos rfl]
  cases hf : zct rows st (zJ r st) with
  | none => exact absurd ⟨hn, rfl⟩ (zic hf hr)
  | some x =>
   obtain ⟨g1, g2, g3⟩ := zcI hf
   rw [h.uniqC g1 hr (zcc.2 ⟨st, hm, g2, g3⟩)]
 | false =>
  rw [if_neg (by simp)]
  cases hf : zct rows st (zJ r st) with
  | none => rfl
  | some x =>
   obtain ⟨g1, g2, g3⟩ := zcI hf
   rw [g3, hn] at g2
   cases g2
theorem zqr {s : yn} {rows : LV} {row : List zP} (h : zcm s rows row = 0) : (zdj s rows row).length + (zcB s rows row).length = rows.length + 1 := by
 have h1 := zdT s row rows
 rw [zdj, zcB, if_pos h, if_pos h, zh8]
 omega
theorem zph {s : yn} {rows : LV} {row : List zP} (h : zcm s rows row ≠ 0) : zdj s rows row = rows ∧ zcB s rows row = [] := by rw [zdj, zcB, if_neg h, if_neg h]; exact ⟨rfl, rfl⟩
theorem zq3 {s : yn} {rows : LV} {row : List zP} (h : zcm s rows row = 0) : row ∈ zdj s rows row := by
 rw [zdj, if_pos h]
 exact zbE.2 (.inl rfl)
theorem zh0 {s : yn} {rows : LV} {row r : List zP} (h : r ∈ zcB s rows row) : r ∈ rows ∧ yy s r row = true ∧ yT s row = 0 := by
 by_cases he : zcm s rows row = 0
 ·rw [zcB, if_pos he] at h
  exact ⟨(zc5.1 h).1, (zc5.1 h).2, (zoU he).1⟩
 rw [zcB, if_neg he] at h
 cases h
def zaB (s : yn) (rows : LV) (a : zbT) : ByteArray := if a.what < 7 ∧ 0 ≤ a.at' then (match rows[a.at'.toNat]? with | some r => z0 s r | none => a.key) else a.key
def zcg (s : yn) (rows : LV) (k : ByteArray) (a : zbT) : LV :=
 if a.what = 0 ∨ a.what = 1 ∨ a.what = 2 then zcO s rows a.row
 else if a.what = 3 then zdj s rows a.row
 else if a.what = 4 ∨ a.what = 7 then zeq s rows k a.row
 else if a.what = 5 ∨ a.what = 8 then y5 s rows k
 else rows
def Kc (w w' : World) : Prop := ∀ (k : Nat) b e f, w.heap[k]? = some (Obj.cells b e f) → w'.heap[k]? = some (Obj.cells b e f)
theorem Low.kc {w w' : World} (h : Low w w') : Kc w w' := fun k _ _ _ hk => (h k (Array.getElem?_eq_some_iff.1 hk).1).trans hk
theorem Low.own {w w' w'' : World} {S : List Nat} (h : Low w w') (hs : w.heap.size ≤ w'.heap.size) (hc : zk S w' w'') (hS : ∀ b ∈ S, w.heap.size ≤ b) : Low w w'' := fun b hb => (hc.block b (by omega) (fun hm => by have := hS b hm; omega)).trans (h b hb)
theorem Low.refl (w : World) : Low w w := fun _ _ => rfl
section
variable {α : Type} {f : α → List Value} {w w' : World} {e k : Nat}
theorem zS.kc {b : Nat} {t : TypeId} {c : List Value} (h : zS w b t c) (hk : Kc w w') : zS w' b t c := hk b _ _ _ h
theorem zv.kc {v : Value} {n : Nat} {xs : List Value} (h : zv w e k v n xs) (hk : Kc w w') : zv w' e k v n xs := by
 rcases h with h | ⟨b, off, cap, c, rfl, hs⟩
 ·exact .inl h
 exact .inr ⟨b, off, cap, c, rfl, ⟨hs.blk.kc hk, hs.le, hs.max, hs.fit, hs.xs, hs.one⟩⟩
theorem Rd.kc {v : Value} {n : Nat} {xs : List Value} (h : Rd w k v n xs) (hk : Kc w w') : Rd w' k v n xs :=
 h.keep fun b off u j _ _ hc => by
  unfold World.cell? at hc ⊢
  cases ho : w.heap[b]? with
  | none => simp [ho] at hc
  | some o =>
   cases o with
   | cells x y z =>
    rw [hk b x y z ho]
    rw [ho] at hc
    exact hc
   | _ => simp [ho] at hc
theorem yj.kc (hk : Kc w w') : ∀ {vs : List Value} {ls : List (List α)}, yj w e k f vs ls → yj w' e k f vs ls
 | [], [], _ => trivial
 | _ :: _, _ :: _, h => ⟨zv.kc h.1 hk, yj.kc hk h.2⟩
theorem zb6.kc (hk : Kc w w') : ∀ {vs : List Value} {ls : List (List α)}, zb6 w e k f vs ls → zb6 w' e k f vs ls
 | [], [], _ => trivial
 | _ :: _, _ :: _, h => ⟨Rd.kc h.1 hk, zb6.kc hk h.2⟩
theorem Ou.kc {E n : Nat} {v : Value} {vs : List Value} (h : Ou w E v n vs) (hk : Kc w w') : Ou w' E v n vs := by
 obtain ⟨h1, h2⟩ := h
 refine ⟨h1.kc hk, fun hp => ?_⟩
 obtain ⟨b, off, cap, e, c, fr, hv, hb, ho⟩ := h2 hp
 exact ⟨b, off, cap, e, c, fr, hv, hk b _ _ _ hb, ho⟩
theorem zbz.kc (hk : Kc w w') : ∀ {vs : List Value} {ls : LE}, zbz w vs ls → zbz w' vs ls
 | [], [], _ => trivial
 | _ :: _, _ :: _, h => ⟨zv.kc h.1 hk, zbz.kc hk h.2⟩
theorem Pg.kc {p : Nat} {ls : LE} (h : Pg w p ls) (hk : Kc w w') : Pg w' p ls :=
 let ⟨v, h1, us, h2, h3⟩ := h; ⟨v, h1.kc hk, us, zv.kc h2 hk, h3.kc hk⟩
theorem PgL.kc (hk : Kc w w') : ∀ {ps : List Nat} {ms : List (LE)}, PgL w ps ms → PgL w' ps ms
 | [], [], _ => trivial
 | _ :: _, _ :: _, h => ⟨Pg.kc h.1 hk, PgL.kc hk h.2⟩
theorem y4.kc {c k u : Value} {s : yn} (h : y4 w c k u s) (hk : Kc w w') : y4 w' c k u s :=
 ⟨Rd.kc h.cols hk, Rd.kc h.key hk, let ⟨vs, h1, h2⟩ := h.uq; ⟨vs, h1.kc hk, h2.kc hk⟩⟩
theorem yS.kc {t : Nat} {own : List Nat} {s : yn} {rows : LV} (h : yS w t own s rows) (hk : Kc w w') : yS w' t own s rows := by
 obtain ⟨pm, c, k, u, sv, xs, main, subs, h1, h2, h3⟩ := h
 exact ⟨pm, c, k, u, sv, xs, main, subs, h1, ⟨h2.blk.kc hk, h2.sch.kc hk, h2.pg.kc hk, zv.kc h2.sl hk, yj.kc hk h2.ats, PgL.kc hk h2.pgs, h2.nd⟩, h3⟩
end
section
variable {w w' : World} {t : Nat} {own : List Nat} {s s' : yn} {rows rows' : LV}
theorem yl.tab (h : yS w t own s rows) {v : Value} {ls : LV} (hv : yl w v ls) (hc : zk own w w') : yl w' v ls :=
 let ⟨vs, h1, h2⟩ := hv; ⟨vs, zfW h1 h.pages rfl hc, yj.tab h.pg rfl hc h2⟩
theorem y4.tab (h : yS w t own s rows) {c k u : Value} (hs : y4 w c k u s') (hc : zk own w w') : y4 w' c k u s' := y4.chgS hs hc (Nt.own h.pages rfl) (Nl.own h.pages)
end
end Go.Wk
namespace Go.Proofs.YtcnkdoecfljnlaaGreatDoor
open Go.ChangeShapes Go.WideShapes Go.ChangeAt Go.RowKit Go.Deep
set_option maxRecDepth 100000
theorem cC : Tryz.prog.cellsOf 25 = 4 := by kernel_rfl
theorem cS : Tryz.prog.cellsOf 30 = 3 := by kernel_rfl
theorem c1g : Tryz.prog.cellsOf 23 = 1 := by kernel_rfl
theorem c1h : Tryz.prog.cellsOf 4 = 1 := by kernel_rfl
theorem c1i : Tryz.prog.cellsOf 26 = 1 := by kernel_rfl
theorem c1j : Tryz.prog.cellsOf 27 = 1 := by kernel_rfl
theorem c1k : Tryz.prog.cellsOf 28 = 1 := by kernel_rfl
theorem c1l : Tryz.prog.cellsOf 147 = 1 := by kernel_rfl
theorem c1m : Tryz.prog.cellsOf 145 = 1 := by kernel_rfl
section
variable {f : TypeId → Bool}
theorem zuz (hf : f 48 = false) : ∀ d c o n : Nat, rowAt Tryz.prog f d 48 c o n = false
 | 0, _, _, _ => rfl
 | d + 1, c, o, n => by unfold rowAt; simp [c1f, hf, Tryz.underlying48]
theorem zv8 (hf : f 145 = false) : ∀ d c o n : Nat, rowAt Tryz.prog f d 145 c o n = false
 | 0, _, _, _ => rfl
 | d + 1, c, o, n => by unfold rowAt; simp [c1m, hf, Tryz.underlying145]
theorem zvZ (hf : f 147 = false) (hl : f 145 = false) : ∀ d c o n : Nat, rowAt Tryz.prog f d 147 c o n = false
 | 0, _, _, _ => rfl
 | d + 1, c, o, n => by unfold rowAt; simp [c1l, hf, zv8 hl, Tryz.underlying147]
end
theorem ztv : sameLayout Tryz.prog Tryz.prog.depth 48 27 = false := by kernel_rfl
theorem zty : sameLayout Tryz.prog Tryz.prog.depth 145 27 = false := by kernel_rfl
theorem ztG : sameLayout Tryz.prog Tryz.prog.depth 147 27 = false := by kernel_rfl
theorem zt3 (c o n : Nat) : ∀ D : Nat, liesAt Tryz.prog D 48 c o 27 n = false
 | 0 => rfl
 | D + 1 => by unfold liesAt; rw [zuz ztv]; simp [Tryz.underlying27]
theorem zsQ (c o n : Nat) : ∀ D : Nat, liesAt Tryz.prog D 147 c o 27 n = false
 | 0 => rfl
 | D + 1 => by unfold liesAt; rw [zvZ ztG zty]; simp [Tryz.underlying27]
section
variable {H : Type} {enc : TypeId × Value → H} {W : World} {b : Nat} {sp : Nat → Bool} {hd : Bool}
theorem zol {n : Nat} {cs : List Value} {x : DataW H × List MemPlace} (h : DataW.trod enc Tryz.prog W b sp hd n 25 cs = some x) : ∃ y : Wk.Col, cs = y.cs := by
 obtain ⟨xs, m, _, _, hlen, hxl, hf⟩ := DataW.trod_struct Tryz.underlying25 h
 rw [cC] at hlen
 match cs, hlen with
 | [c0, c1, c2, c3], _ =>
  have g0 : DataW.trod enc Tryz.prog W b sp hd m 9 (([c0, c1, c2, c3].drop 0).take (Tryz.prog.cellsOf 9)) = xs[0]? := hf 0 _ rfl
  have g1 : DataW.trod enc Tryz.prog W b sp hd m 23 (([c0, c1, c2, c3].drop 1).take (Tryz.prog.cellsOf 23)) = xs[1]? := hf 1 _ rfl
  have g2 : DataW.trod enc Tryz.prog W b sp hd m 3 (([c0, c1, c2, c3].drop 2).take (Tryz.prog.cellsOf 3)) = xs[2]? := hf 2 _ rfl
  have g3 : DataW.trod enc Tryz.prog W b sp hd m 4 (([c0, c1, c2, c3].drop 3).take (Tryz.prog.cellsOf 4)) = xs[3]? := hf 3 _ rfl
  rw [c1d] at g0
  rw [c1g] at g1
  rw [c1a] at g2
  rw [c1h] at g3
  have hx4 : xs.length = 4 := hxl
  match xs, hx4 with
  | [y0, y1, y2, y3], _ =>
   have g0 : DataW.trod enc Tryz.prog W b sp hd m 9 [c0] = some y0 := g0
   have g1 : DataW.trod enc Tryz.prog W b sp hd m 23 [c1] = some y1 := g1
   have g2 : DataW.trod enc Tryz.prog W b sp hd m 3 [c2] = some y2 := g2
   have g3 : DataW.trod enc Tryz.prog W b sp hd m 4 [c3] = some y3 := g3
   obtain ⟨s, e0, _, _⟩ := DataW.trod_string (by kernel_rfl) g0
   obtain ⟨i1, e1, _, _⟩ := DataW.trod_int (k := .i64) (by kernel_rfl) g1
   obtain ⟨i2, e2, _, _⟩ := DataW.trod_int (k := .i64) (by kernel_rfl) g2
   obtain ⟨z, e3, _⟩ := DataW.trod_bool (by kernel_rfl) g3
   simp only [List.cons.injEq, and_true] at e0 e1 e2 e3
   subst e0 e1 e2 e3
   exact ⟨⟨s, i1, i2, z⟩, rfl⟩
theorem znn {n : Nat} {cs : List Value} {x : DataW H × List MemPlace} (h : DataW.trod enc Tryz.prog W b sp hd n 26 cs = some x) : ∃ v l, cs = [v] ∧ Wk.zjb W v l := by
 obtain ⟨v, l, h1, h2, _⟩ := zf0 (f := Wk.Col.cs) (Q := fun _ => True) Tryz.underlying26 cC (by decide) Wk.zaR (fun x _ => Wk.Col.one x) (fun _ _ _ h => let ⟨y, hy⟩ := zol h; ⟨y, hy, trivial⟩) h
 exact ⟨v, l, h1, h2⟩
theorem ziN {n : Nat} {cs : List Value} {x : DataW H × List MemPlace} (h : DataW.trod enc Tryz.prog W b sp hd n 27 cs = some x) : ∃ v l, cs = [v] ∧ Wk.yU W v l := by
 obtain ⟨v, l, h1, h2, _⟩ := zf0 (f := Wk.ics) (Q := fun _ => True) Tryz.underlying27 c1a (by decide) Wk.zfK (fun x _ => Wk.zjG x) (fun _ cs _ h => by
  obtain ⟨i, e, _, _⟩ := DataW.trod_int (k := .i64) (by kernel_rfl) h
  exact ⟨i, e, trivial⟩) h
 exact ⟨v, l, h1, h2⟩
def vcs (p : Value × List Int) : List Value := [p.1]
theorem zp6 : ∀ l : List (Value × List Int), Wk.fl vcs l = l.map (·.1)
 | [] => rfl
 | p :: l => by rw [Wk.zfa, zp6 l]; rfl
theorem zm1 : ∀ l : List (Value × List Int), (∀ p ∈ l, Wk.yU W p.1 p.2) → Wk.zb6 W 3 1 Wk.ics (l.map (·.1)) (l.map (·.2))
 | [], _ => trivial
 | p :: l, h => ⟨h p (by simp), zm1 l (fun q hq => h q (by simp [hq]))⟩
theorem zlM {n : Nat} {cs : List Value} {b' : Nat} {x : DataW H × List MemPlace} (h : DataW.trod enc Tryz.prog W b sp hd n 28 cs = some x) (hok : ∀ v, cs = [v] → Cell.okWide Tryz.prog W .any b' 28 v) : ∃ v l, cs = [v] ∧ Wk.zbM W v l := by
 obtain ⟨v, l, h1, h2, h3⟩ := zf0 (f := vcs) (Q := fun p => Wk.yU W p.1 p.2) Tryz.underlying28 c1j (by decide) (fun _ => rfl) (fun p hp u hu => by simp [vcs] at hu; subst hu; exact Wk.ya.one1 hp) (fun _ cs _ h => by
  obtain ⟨v, l, e, hl⟩ := ziN h
  exact ⟨(v, l), e, hl⟩) h
 refine ⟨v, l.map (·.2), h1, l.map (·.1), ⟨?_, fun hp => ?_⟩, zm1 l h3⟩
 ·have h2' : Wk.Rd W 1 v l.length (Wk.fl vcs l) := h2
  rw [zp6] at h2'
  rwa [List.length_map]
 rw [List.length_map] at hp ⊢
 obtain ⟨p, cap, rfl, g2, g3, g4, g5, g6⟩ := h2
 obtain ⟨bb, off, rfl, hc⟩ := g6 hp
 have hk := hok _ h1
 simp only [Cell.okWide, Cell.ok, Tryz.underlying28] at hk
 obtain ⟨_, _, _, _, row, cells, hsh, hli⟩ := hk
 unfold World.shape? at hsh
 split at hsh
 ·rename_i c elem fr hb
  simp only [Option.some.injEq, Prod.mk.injEq] at hsh
  obtain ⟨rfl, _⟩ := hsh
  refine ⟨bb, off, cap, elem, c, fr, rfl, hb, ?_⟩
  simp only [Wk.okT, Bool.or_eq_true, Bool.and_eq_true, Bool.not_eq_true']
  refine .inr ⟨⟨rfl, ?_⟩, ?_⟩
  ·cases hbq : Nat.beq elem 147 with
   | false => rfl
   | true =>
    obtain rfl := Nat.eq_of_beq_eq_true hbq
    rw [zsQ] at hli
    cases hli
  cases hbq : Nat.beq elem 48 with
  | false => rfl
  | true =>
   obtain rfl := Nat.eq_of_beq_eq_true hbq
   rw [zt3] at hli
   cases hli
 cases hsh
theorem tsS : Tryz.prog.cellTypes Tryz.prog.depth 30 = some [26, 27, 28] := by kernel_rfl
theorem zpI {x : DataW H × List MemPlace} {n b' : Nat} {cs : List Value} (h : DataW.trod enc Tryz.prog W 0 sp hd n 30 cs = some x) (hok : Value.okWide Tryz.prog W .any b' 30 (.agg cs.toArray)) : ∃ c k u s, cs = [c, k, u] ∧ Wk.y4 W c k u s := by
 obtain ⟨xs, m, _, _, hlen, hxl, hf⟩ := DataW.trod_struct Tryz.underlying30 h
 rw [cS] at hlen
 match cs, hlen with
 | [c0, c1, c2], _ =>
  have g0 : DataW.trod enc Tryz.prog W 0 sp hd m 26 (([c0, c1, c2].drop 0).take (Tryz.prog.cellsOf 26)) = xs[0]? := hf 0 _ rfl
  have g1 : DataW.trod enc Tryz.prog W 0 sp hd m 27 (([c0, c1, c2].drop 1).take (Tryz.prog.cellsOf 27)) = xs[1]? := hf 1 _ rfl
  have g2 : DataW.trod enc Tryz.prog W 0 sp hd m 28 (([c0, c1, c2].drop 2).take (Tryz.prog.cellsOf 28)) = xs[2]? := hf 2 _ rfl
  rw [c1i] at g0
  rw [c1j] at g1
  rw [c1k] at g2
  have hx3 : xs.length = 3 := hxl
  match xs, hx3 with
  | [y0, y1, y2], _ =>
   have g0 : DataW.trod enc Tryz.prog W 0 sp hd m 26 [c0] = some y0 := g0
   have g1 : DataW.trod enc Tryz.prog W 0 sp hd m 27 [c1] = some y1 := g1
   have g2 : DataW.trod enc Tryz.prog W 0 sp hd m 28 [c2] = some y2 := g2
   have hcell : Cell.okWide Tryz.prog W .any b' 28 c2 := by
    simp only [Value.okWide, Tryz.underlying30] at hok
    obtain ⟨cs, e, _, ts, hts, _, hall⟩ := hok
    cases e
    rw [tsS] at hts
    cases hts
    obtain ⟨u, hu, hc⟩ := hall 2 c2 rfl
    cases hu
    exact hc
   obtain ⟨v0, l0, e0, h0⟩ := znn g0
   obtain ⟨v1, l1, e1, h1⟩ := ziN g1
   obtain ⟨v2, l2, e2, h2⟩ := zlM g2 (fun v hv => by cases hv; exact hcell)
   cases e0; cases e1; cases e2
   exact ⟨_, _, _, ⟨l0, l1, l2⟩, rfl, h0, h1, h2⟩
theorem zhO : ∀ l : List Wk.zcb, (∀ y ∈ l, ∃ a, Wk.zbO W y a) → ∃ al, Wk.zey W l al
 | [], _ => ⟨[], trivial⟩
 | y :: l, h => by
  obtain ⟨a, ha⟩ := h y (by simp)
  obtain ⟨al, hal⟩ := zhO l (fun z hz => h z (by simp [hz]))
  exact ⟨a :: al, ha, hal⟩
theorem znz {n : Nat} {cs : List Value} {x : DataW H × List MemPlace} (h : DataW.trod enc Tryz.prog W b sp hd n 47 cs = some x) : ∃ v al, cs = [v] ∧ Wk.zc8 W v al := by
 obtain ⟨v, l, h1, h2, h3⟩ := zf0 (f := Wk.zcb.cs) (Q := fun y => ∃ a, Wk.zbO W y a) Tryz.underlying47 cA (by decide) Wk.zmX (fun y hy => let ⟨_, ha⟩ := hy; Wk.zcb.one ha) (fun _ _ _ h => zkH h) h
 obtain ⟨al, hal⟩ := zhO l h3
 exact ⟨v, al, h1, l, h2, hal⟩
end
end Go.Proofs.YtcnkdoecfljnlaaGreatDoor
namespace Go.Wk
open Go.Proofs
set_option maxRecDepth 10000
theorem ziv {α : Type} {l : List α} {p : α → Bool} {x : α} (h : l.find? p = none) : (l ++ [x]).find? p = if p x = true then some x else none := by
 rw [List.find?_append, h]
 cases hp : p x <;> simp [hp]
theorem zo6 {α : Type} {l : List α} {p : α → Bool} {x : α} {j : Nat} (hj : l[j]? = some x) (h : (l.take j).find? p = none) (hp : p x = true) : l.find? p = some x := by
 rw [← List.take_append_drop (j + 1) l, List.find?_append, List.take_add_one, hj]
 show Option.or ((l.take j ++ [x]).find? p) _ = _
 rw [ziv h, if_pos hp]
 rfl
theorem zjd {l : List zP} {i : Nat} {x : zP} (h : l[i]? = some x) : nnS (l.take (i + 1)) = (nnS (l.take i) && decide (x.k ≠ 0)) := by
 rw [List.take_add_one, h]
 unfold nnS
 rw [List.all_append]
 simp
set_option maxHeartbeats 1000000 in
theorem zsI (c k u o va : Value) (s : yn) (rows : LV) (n : Int) (vals : List zP) (w : World) (h : yx w c k u o s rows) (ha : zK w va vals) :
 z9 TP 61 #[.agg #[c, k, u, o], Ii n, va] w fun r w' => ∃ x, r = .tuple #[x, .bool (za6 s rows n vals).isSome] ∧ zK w' x ((za6 s rows n vals).getD []) ∧ zk [] w w' := by
 obtain ⟨pa, ca, rfl, hca⟩ := ya.val ha
 obtain ⟨po, co, rfl, hco⟩ := h.rws.val
 have hr := h.ok.right
 have hrl := h.ok.le
 refine A3 Tryz.func61 rfl rfl ?_
 refine Sr ?_
 refine Ob rfl rfl ?_
 intro b3 w3 e3 n3 c3 k3
 refine Oa rfl (Oa rfl (E3 1 2 3 rfl (Sr (Od zgm rfl ?_))))
 refine Og (zg zbu zbt rfl rfl (zB.of_blk k3 0 [c, k, u] ⟨[_], rfl⟩)) rfl ?_
 refine Oc zob rfl rfl rfl (zhC _ _ _ s _ (h.sch.chg0 c3) hr h.nm) ?_
 rintro v16 w16 ⟨i16, f16, c16⟩
 obtain ⟨ps, cs, rfl, hcs⟩ := yR.val i16
 refine Oa rfl (E4 1 2 3 8 rfl ?_)
 have hc16 := c3.trans c16
 have k3 := k3.chg0 c16
 refine ze (ze ?_)
 have hsl : (zG s).length ≤ 1048576 := by have := (zV hr).2.1; simp [zG]; omega
 have hno : za6 s rows n vals = none → ∀ {wz : World}, zk [] w wz → ∃ x, Value.tuple #[.slice none 0 0, .bool false] = .tuple #[x, .bool (za6 s rows n vals).isSome] ∧ zK wz x ((za6 s rows n vals).getD []) ∧ zk [] w wz := fun e {wz} hc => by
  rw [e]
  exact ⟨_, rfl, ya.nil _ _ _ _, hc⟩
 by_cases hn0 : n < 0
 ·refine za (Om rfl ?_)
  refine Og (vt (zz rfl rfl) (by simp; omega)) rfl ?_
  refine Om rfl (Oz rfl rfl (Oz rfl rfl (Oz rfl rfl (Oz rfl rfl (Ot rfl (Om rfl (Oz rfl rfl (Oz rfl rfl (Oz rfl rfl (Oz rfl rfl (Oz rfl rfl (Oz rfl rfl (Oz rfl rfl ?_)))))))))))))
  refine Oz rfl rfl (Ot rfl (E5 1 2 3 8 34 rfl (zd rfl (Sr (Oa rfl (Oa rfl (E2 6 7 rfl (zi ?_))))))))
  repeat first | refine tr ?_ | refine br ?_
  refine zaM rfl rfl rfl ?_
  exact hno (by unfold za6; rw [if_pos hn0]) hc16
 obtain ⟨n, rfl⟩ : ∃ m : Nat, n = (m : Int) := ⟨n.toNat, by omega⟩
 by_cases hn1 : (zG s).length ≤ n
 ·refine za (Om rfl ?_)
  refine Og (vf (zz rfl rfl) (by simp)) rfl ?_
  refine Om rfl (Oj rfl rfl (Oj rfl rfl ?_))
  refine Oy rfl rfl (yd zaL rfl) ?_
  refine Oy rfl rfl (vt (yt rfl rfl) (by simp; omega)) ?_
  refine Of rfl (Om rfl (Oz rfl rfl (Oz rfl rfl (Oz rfl rfl (Oz rfl rfl (Oz rfl rfl (Oz rfl rfl (Oz rfl rfl (Oz rfl rfl (Ot rfl (E5 1 2 3 8 34 rfl (zd rfl (ze ?_)))))))))))))
  refine za (Oa rfl (Oa rfl (E2 6 7 rfl (zi ?_))))
  repeat first | refine tr ?_ | refine br ?_
  refine zaM rfl rfl rfl ?_
  refine hno ?_ hc16
  have e : (zG s)[n]? = none := List.getElem?_eq_none hn1
  unfold za6
  rw [if_neg (by omega), Int.toNat_natCast, e]
 have hlt : n < (zG s).length := by omega
 have hst : (zG s)[n]? = some (zG s)[n] := by simp [hlt]
 have hstm := List.getElem_mem hlt
 generalize (zG s)[n] = st at hst hstm
 have hkl := zhE hr hstm
 obtain ⟨bi, oi, cpi, vi, hve, hcell, hint⟩ := yR.at i16 hst
 cases hve
 obtain ⟨pi, ci, rfl, hci⟩ := ya.val hint
 by_cases hlen : st.length = vals.length
 case neg =>
  refine za (Om rfl ?_)
  refine Og (vf (zz rfl rfl) (by simp)) rfl ?_
  refine Om rfl (Oj rfl rfl (Oj rfl rfl ?_))
  refine Oy rfl rfl (yd zaL rfl) ?_
  refine Oy rfl rfl (vf (yt rfl rfl) (by simp; omega)) ?_
  refine Of rfl (Om rfl (Oj rfl rfl (Oj rfl rfl ?_)))
  refine Oy rfl rfl (zf zaL zfh rfl rfl _ rfl hlt) ?_
  refine Oy rfl rfl (zj zbW rfl hcell) ?_
  refine Oy rfl rfl (yd zaC rfl) ?_
  refine Oj rfl rfl ?_
  refine Oy rfl rfl (yd zab rfl) ?_
  refine Oy rfl rfl (vt (zX rfl rfl) (by simp; omega)) ?_
  refine Of rfl (E5 1 2 3 8 34 rfl (zd rfl (Sr (Oa rfl (Oa rfl (E2 6 7 rfl (zi ?_)))))))
  repeat first | refine tr ?_ | refine br ?_
  refine zaM rfl rfl rfl ?_
  exact hno (by rw [zhi hst, if_pos hlen]) hc16
 refine za (Om rfl ?_)
 refine Og (vf (zz rfl rfl) (by simp)) rfl ?_
 refine Om rfl (Oj rfl rfl (Oj rfl rfl ?_))
 refine Oy rfl rfl (yd zaL rfl) ?_
 refine Oy rfl rfl (vf (yt rfl rfl) (by simp; omega)) ?_
 refine Of rfl (Om rfl (Oj rfl rfl (Oj rfl rfl ?_)))
 refine Oy rfl rfl (zf zaL zfh rfl rfl _ rfl hlt) ?_
 refine Oy rfl rfl (zj zbW rfl hcell) ?_
 refine Oy rfl rfl (yd zaC rfl) ?_
 refine Oj rfl rfl ?_
 refine Oy rfl rfl (yd zab rfl) ?_
 refine Oy rfl rfl (vf (zX rfl rfl) (by simp; omega)) ?_
 refine Of rfl (E5 1 2 3 8 34 rfl ?_)
 have hfind : za6 s rows n vals = zct rows st vals := by rw [zhi hst, if_neg (by simp [hlen])]
 rw [hfind] at hno ⊢
 unfold zct at hno ⊢
 refine zb rfl (zm (ze (Sr (Oa rfl (E5 1 2 3 8 9 rfl (zq ?_))))))
 refine zY [1, 2, 3, 8, 9] (fun m F wx => ∃ j : Nat, m = rows.length - j ∧ j ≤ rows.length ∧ F = [(1, Ii n), (2, .slice pa vals.length ca), (3, Pt b3), (8, .slice (some ⟨bi, oi, none⟩) (zG s).length cs), (9, Ii j)] ∧ (rows.take j).find? (fun r => nnS (zJ r st) && decide (zJ r st = vals)) = none ∧ zk [] w16 wx) (m := rows.length - 0) ⟨0, rfl, Nat.zero_le _, rfl, rfl, zk.refl _ _⟩ ?_
 rintro m F wx ⟨j, rfl, hj, rfl, hok, hcx⟩
 have k3x := k3.chg0 hcx
 refine ze (ze ?_)
 by_cases hjl : j < rows.length
 ·refine za (Om rfl (Od yF rfl ?_))
  refine Ol zbc rfl (k3x.cell' (i := 3) rfl) ?_
  refine On zao rfl ?_
  refine Og (vt (zz rfl rfl) (by simp; omega)) rfl ?_
  refine E6 1 2 3 8 9 39 rfl (zd rfl (zm ?_))
  have hx : rows[j]? = some rows[j] := by simp [hjl]
  have htk := List.take_succ_eq_append_getElem hjl
  have hmem := List.getElem_mem hjl
  generalize rows[j] = r at hx htk hmem
  have hfr := h.ok.fit r hmem
  obtain ⟨bo, oo, cpo, vr, hve, hcellr, hvr⟩ := (h.rws.chg0 (hc16.trans hcx)).at hx
  cases hve
  have hce : ∀ {wz : World}, zk [] wx wz → zS wz b3 54 [c, k, u, .slice (some ⟨bo, oo, none⟩) rows.length co] ∧ wz.cell? ⟨bo, oo + j * 1, none⟩ = some vr ∧ zK wz vr r ∧ wz.cell? ⟨bi, oi + n * 1, none⟩ = some (.slice pi st.length ci) ∧ yU wz (.slice pi st.length ci) st ∧ zK wz (.slice pa vals.length ca) vals := fun hc =>
   ⟨k3x.chg0 hc, hc.cell hcellr, (ym.chg0 hvr hc).arr, (hcx.trans hc).cell hcell, ya.chg0 hint (hcx.trans hc), ya.chg0 ha ((hc16.trans hcx).trans hc)⟩
  have hd : zk [] wx wx.drew := zk.drew [] _
  refine ze (zq (ze ?_))
  refine zO (fun wz => zk [] wx wz) mix (by kernel_rfl) hd ?_
  refine Td yF rfl ?_
  refine Tr (fun wz hz => zj zbc rfl ((hce hz).1.cell' (i := 3) rfl)) rfl ?_
  refine Tm rfl ?_
  refine Tp (fun _ => zf zao zc1 rfl rfl _ rfl hjl) rfl ?_
  refine Tr (fun wz hz => zj zaV rfl (hce hz).2.1) rfl ?_
  refine Tm rfl (Tm rfl ?_)
  refine Tp (fun _ => zf zaL zfh rfl rfl _ rfl hlt) rfl ?_
  refine Tr (fun wz hz => zj zbW rfl (hce hz).2.2.2.1) rfl ?_
  refine Tc zpD rfl rfl rfl (zhr _ _ r st _ (hce hd).2.2.1 (hce hd).2.2.2.2.1 (zfC hfr hstm) hkl) ?_
  rintro v52 w52 ⟨u52, rfl, i52, f52, c52⟩
  obtain ⟨p52, q52, rfl, -⟩ := id (ym.val i52)
  refine ⟨.inl (hd.trans c52), ?_⟩
  refine Tm rfl ?_
  refine Tp (fun _ => zM rfl rfl) rfl ?_
  refine Tp (fun _ => zM rfl rfl) rfl ?_
  refine Ta rfl (Ta rfl (D6 1 2 3 8 9 10 rfl ?_))
  have hc52 := hd.trans c52
  have hml : (zJ r st).length = st.length := by rw [zc0]
  refine Sr (Oa rfl (E7 1 2 3 8 9 10 12 rfl (ze (Sr (Oa rfl (E8 1 2 3 8 9 10 12 13 rfl (zq ?_)))))))
  refine zY [1, 2, 3, 8, 9, 10, 12, 13] (fun m F wy => ∃ i : Nat, m = (zJ r st).length - i ∧ i ≤ (zJ r st).length ∧ F = [(1, Ii n), (2, .slice pa vals.length ca), (3, Pt b3), (8, .slice (some ⟨bi, oi, none⟩) (zG s).length cs), (9, Ii j), (10, .slice p52 (zJ r st).length q52), (12, .bool (!nnS ((zJ r st).take i))), (13, Ii i)] ∧ wy = w52) (m := (zJ r st).length - 0) ⟨0, rfl, Nat.zero_le _, rfl, rfl⟩ ?_
  rintro m F wy ⟨i, rfl, hi, rfl, rfl⟩
  refine ze (ze ?_)
  by_cases hil : i < (zJ r st).length
  ·refine za (Om rfl (Om rfl (On zab rfl ?_)))
   refine Og (vt (zz rfl rfl) (by simp; omega)) rfl ?_
   refine zaJ [1, 2, 3, 8, 9, 10, 12, 13, 58] (F' := [(1, _), (2, _), (3, _), (8, _), (9, _), (10, _), (12, _), (13, _), (58, _)]) rfl (zd rfl (zm ?_))
   have hy : (zJ r st)[i]? = some (zJ r st)[i] := by simp [hil]
   generalize (zJ r st)[i] = y at hy
   have hnt := zjd hy
   obtain ⟨bm, om, cpm, hve, hcm⟩ := ya.at zaX i52.arr hy
   cases hve
   refine ze (zq ?_)
   cases hnn : nnS ((zJ r st).take i) with
   | true =>
    refine za (Om rfl (Om rfl (Oj rfl rfl (Oj rfl rfl ?_))))
    refine Oy rfl rfl (zf zab y7 rfl rfl _ rfl hil) ?_
    refine Oy rfl rfl (zl zal rfl) ?_
    refine Oy rfl rfl (zj zb9 rfl (hcm 0 _ rfl)) ?_
    refine Oy rfl rfl (zw rfl rfl) ?_
    refine Of rfl (Oa rfl ?_)
    refine zaw [1, 2, 3, 8, 9, 10, 12, 13] (F' := [(1, _), (2, _), (3, _), (8, _), (9, _), (10, _), (12, _), (13, _)]) rfl ?_
    refine zh (za (Om rfl ?_))
    refine Og (zH rfl rfl (by omega)) rfl ?_
    refine Oa rfl ?_
    refine zaw [1, 2, 3, 8, 9, 10, 12, 13] (F' := [(1, _), (2, _), (3, _), (8, _), (9, _), (10, _), (12, _), (13, _)]) rfl ?_
    refine ⟨(zJ r st).length - (i + 1), by omega, i + 1, rfl, by omega, ?_, rfl⟩
    rw [hnt, hnn]
    simp
    rfl
   | false =>
    refine za (Om rfl (Om rfl (Oz rfl rfl (Oz rfl rfl (Oz rfl rfl (Oz rfl rfl (Oz rfl rfl (Oz rfl rfl (Ot rfl (Oa rfl ?_))))))))))
    refine zaw [1, 2, 3, 8, 9, 10, 12, 13] (F' := [(1, _), (2, _), (3, _), (8, _), (9, _), (10, _), (12, _), (13, _)]) rfl ?_
    refine zh (za (Om rfl ?_))
    refine Og (zH rfl rfl (by omega)) rfl ?_
    refine Oa rfl ?_
    refine zaw [1, 2, 3, 8, 9, 10, 12, 13] (F' := [(1, _), (2, _), (3, _), (8, _), (9, _), (10, _), (12, _), (13, _)]) rfl ?_
    refine ⟨(zJ r st).length - (i + 1), by omega, i + 1, rfl, by omega, ?_, rfl⟩
    rw [hnt, hnn]
    rfl
  refine za (Om rfl (Om rfl (On zab rfl ?_)))
  refine Og (vf (zz rfl rfl) (by simp; omega)) rfl ?_
  refine zaJ [1, 2, 3, 8, 9, 10, 12, 13, 58] (F' := [(1, _), (2, _), (3, _), (8, _), (9, _), (10, _), (12, _), (13, _), (58, _)]) rfl (zb rfl ?_)
  refine zN ?_
  repeat first | refine te ?_ | refine bo rfl ?_
  refine zt _ ?_
  have hie : (zJ r st).take i = zJ r st := List.take_of_length_le (by omega)
  rw [hie]
  refine ze ?_
  have hsn : (rows.take (j + 1)).find? (fun r => nnS (zJ r st) && decide (zJ r st = vals)) = if (nnS (zJ r st) && decide (zJ r st = vals)) = true then some r else none := by rw [htk, ziv hok]
  have hcy : zk [] wx wy := hc52
  cases hnn : nnS (zJ r st) with
  | false =>
   refine za (Om rfl (Og (zU rfl) rfl (Om rfl (Oz rfl rfl (Oz rfl rfl (Oz rfl rfl (Of rfl (E6 1 2 3 8 9 76 rfl (zb rfl (yg (zh (za (Om rfl ?_)))))))))))))
   refine Og (zH rfl rfl (by omega)) rfl ?_
   refine Oa rfl (N5 1 2 3 8 9 rfl ?_)
   exact ⟨rows.length - (j + 1), by omega, j + 1, rfl, by omega, rfl, by rw [hsn, hnn]; rfl, hcx.trans hcy⟩
  | true =>
   refine za (Om rfl (Og (zU rfl) rfl (Om rfl (Oj rfl rfl (Oj rfl rfl ?_)))))
   refine Ow rfl rfl zhb rfl rfl rfl (zc9 _ _ (zJ r st) vals _ i52.arr (hce hc52).2.2.2.2.2 (by omega)) ?_
   rintro v75 w75 ⟨rfl, c75⟩
   refine Ot rfl (E6 1 2 3 8 9 76 rfl ?_)
   have hcz := hcy.trans c75
   by_cases hsame : zJ r st = vals
   ·refine zd (by simp [hsame]; rfl) ?_
    refine Sr (Od yF rfl ?_)
    refine Ol zbc rfl ((hce hcz).1.cell' (i := 3) rfl) ?_
    refine Om rfl ?_
    refine Og (zf zao zc1 rfl rfl _ rfl hjl) rfl ?_
    refine Ol zaV rfl (hce hcz).2.1 ?_
    refine Oa rfl (Oa rfl (E2 6 7 rfl (zi ?_)))
    repeat first | refine tr ?_ | refine br ?_
    refine zaM rfl rfl rfl ?_
    have e := zo6 (p := fun r => nnS (zJ r st) && decide (zJ r st = vals)) hx hok (by show (nnS (zJ r st) && decide (zJ r st = vals)) = true; rw [hnn, hsame]; simp)
    rw [e]
    exact ⟨_, rfl, (hce hcz).2.2.1, ((hc16.trans hcx).trans hcz)⟩
   refine zb (by simp [hsame]; rfl) ?_
   refine yg (zh (za (Om rfl ?_)))
   refine Og (zH rfl rfl (by omega)) rfl ?_
   refine Oa rfl (N5 1 2 3 8 9 rfl ?_)
   exact ⟨rows.length - (j + 1), by omega, j + 1, rfl, by omega, rfl, by rw [hsn, hnn]; simp [hsame], hcx.trans hcz⟩
 refine za (Om rfl (Od yF rfl ?_))
 refine Ol zbc rfl (k3x.cell' (i := 3) rfl) ?_
 refine On zao rfl ?_
 refine Og (vf (zz rfl rfl) (by simp; omega)) rfl ?_
 refine E6 1 2 3 8 9 39 rfl (zb rfl ?_)
 refine zN ?_
 repeat first | refine te ?_ | refine bo rfl ?_
 refine zt _ ?_
 refine Sr (Oa rfl (Oa rfl (E2 6 7 rfl (zi ?_))))
 refine zaM rfl rfl rfl ?_
 rw [List.take_of_length_le (by omega)] at hok
 exact hno hok (hc16.trans hcx)
section
variable {P : Program} {n : Nat} {fn : Func} {R : Value → World → Prop} {F : Fr} {w : World}
theorem zrL {D : Nat} (hr : fn.results = #[]) (hm : zad F = [mkD D]) (hD : w.heap[D]? = some (.deferred (some []))) (h : ∀ w', zk [D] w w' → R (.tuple #[]) w') : zgX P fn R n .normal F w :=
 ⟨_, _, by rw [hm]; exact ⟨D, rfl, hD, rfl⟩, fun _ _ => results_none hr _ _ _, h _ (zk.put w D (.deferred none))⟩
end
def unk (S0 : List Nat) (keep : TypeId → Bool) (B : Nat) (w : World) : List Nat := (List.range w.heap.size).filter fun k => (decide (k < B) && S0.contains k) || (decide (B ≤ k) && !(match w.heap[k]? with | some (.cells _ e _) => keep e | _ => false))
section
variable {S0 : List Nat} {keep : TypeId → Bool} {B : Nat} {w X X' : World} {k : Nat}
theorem zqx (h : k < w.heap.size) (hn : k ∉ unk S0 keep B w) : (k < B ∧ k ∉ S0) ∨ (B ≤ k ∧ ∃ b e f, w.heap[k]? = some (.cells b e f) ∧ keep e = true) := by
 have h1 : ((decide (k < B) && S0.contains k) || (decide (B ≤ k) && !(match w.heap[k]? with | some (.cells _ e _) => keep e | _ => false))) = false := by
  cases hb : ((decide (k < B) && S0.contains k) || (decide (B ≤ k) && !(match w.heap[k]? with | some (.cells _ e _) => keep e | _ => false))) with
  | false => rfl
  | true => exact absurd (List.mem_filter.2 ⟨List.mem_range.2 h, hb⟩) hn
 rw [Bool.or_eq_false_iff] at h1
 rcases Nat.lt_or_ge k B with hk | hk
 ·have h2 := h1.1
  rw [decide_eq_true hk, Bool.true_and] at h2
  exact .inl ⟨hk, fun hm => by simp [hm] at h2⟩
 have h2 := h1.2
 rw [decide_eq_true hk, Bool.true_and, Bool.not_eq_false'] at h2
 split at h2
 ·rename_i b e f he
  exact .inr ⟨hk, b, e, f, he, h2⟩
 cases h2
theorem zjc (h : k ∈ unk S0 keep B w) : (k < B ∧ k ∈ S0) ∨ (B ≤ k ∧ ∀ b e f, w.heap[k]? = some (.cells b e f) → keep e = false) := by
 have h1 := (List.mem_filter.1 h).2
 rw [Bool.or_eq_true] at h1
 rcases h1 with h1 | h1
 ·rw [Bool.and_eq_true] at h1
  exact .inl ⟨of_decide_eq_true h1.1, by simpa using h1.2⟩
 rw [Bool.and_eq_true] at h1
 refine .inr ⟨of_decide_eq_true h1.1, fun b e f he => ?_⟩
 have h2 := h1.2
 rw [he] at h2
 simpa using h2
theorem Kr.inner (hk : Kr S0 keep B X X') (hB : B ≤ w.heap.size) (hp : Kp (unk S0 keep B w) w.heap.size w X) : Kr (unk S0 keep B w) keep w.heap.size X X' := by
 refine ⟨hk.size, fun k h1 h2 => ?_, hk.cells, fun k o h1 h2 h3 => hk.iters k o (by omega) h2 h3⟩
 rcases zqx h1 h2 with ⟨h3, h4⟩ | ⟨_, b, e, f, h4, h5⟩
 ·exact hk.low k h3 h4
 have h6 := hp.2 k h1 h2
 rw [h6, h4]
 exact hk.cells k b e f (h6.trans h4) h5
theorem Bk.at' (h : Bk B X X') (hk : k < B) (hl : k < X.heap.size) : X'.heap[k]? = X.heap[k]? := by
 obtain ⟨T, hT, hc⟩ := h
 exact hc.block k hl fun hm => by have := (hT k hm).1; omega
theorem Bk.sz (h : Bk B X X') : X.heap.size ≤ X'.heap.size := let ⟨_, _, hc⟩ := h; hc.size
theorem Bk.put {D : Nat} (hB : B ≤ D) (hc : zk [D] X X') (hD : X.heap[D]? = some (.deferred (some []))) : Bk B X X' := ⟨[D], fun b hb => by simp at hb; subst hb; exact ⟨hB, _, hD, rfl⟩, hc⟩
end
theorem yz.kc {w w' : World} {t pm : Nat} {c k u sv : Value} {xs : List (Value × Nat)} {s : yn} {main : LE} {subs : List (LE)} (h : yz w t pm c k u sv xs s main subs) (hk : Kc w w') : yz w' t pm c k u sv xs s main subs :=
 ⟨h.blk.kc hk, h.sch.kc hk, h.pg.kc hk, zv.kc h.sl hk, yj.kc hk h.ats, PgL.kc hk h.pgs, h.nd⟩
set_option maxHeartbeats 1000000 in
theorem zmf (w0 w : World) (h0w : zk [] w0 w) (t q5 q3 : Nat) (own : List Nat) (s : yn) (rows : LV) (key : ByteArray) (S0 : List Nat) (keep : TypeId → Bool)
 (h : yS w0 t own s rows) (h5 : zS w0 q5 31 [Pt t]) (h3 : zS w0 q3 9 [.string key]) (hS0 : ∀ b ∈ S0, w0.heap.size ≤ b) (hSk : ∀ b ∈ S0, ∀ e c, zS w b e c → keep e = false)
 (kL : keep 177 = true) (kE : keep 175 = true) (kP : keep 145 = true) (kS : keep 9 = true) (kF : keep 133 = true) :
 zri TP 67 #[Pt q5, Pt q3] (fun x : List zP × Value => #[.string (z0 s x.1), x.2]) S0 keep
  (fun x W => zaT W x.2 x.1 ∧ ∀ b ∈ zn x.2, w.heap.size ≤ b) (fun xs _ => xs.map (·.1) = zew s rows key) (fun _ _ => True) (fun xs => xs.map (·.1) <+: zew s rows key) w := by
 intro l J Jx W hcw hJ hJx hY h0
 obtain ⟨pm, c, k, u, sv, xs, main, subs, rfl, hm, ht⟩ := h
 have h0W := h0w.trans hcw
 have hs0 := h0w.size
 have hsW := hcw.size
 refine callsIn_wide.2 (Calls.mono (z9.of_WM (args := [_, _, _]) (R := fun _ W' => (∃ xs : List (List zP × Value), xs.map (·.1) = zew s rows key ∧ J xs W') ∨ ∃ pre, True ∧ Jx pre W') Tryz.func67 rfl rfl rfl rfl ?_) (fun e W' ⟨u, he, hh⟩ => ⟨⟨u, he⟩, hh⟩))
 refine Sr ?_
 refine Ob rfl rfl ?_
 intro b3 w3 e3 n3 c3 k3
 refine E3 1 2 3 rfl ?_
 refine zhg ?_
 refine ze (ze ?_)
 have hc3 := h0W.trans c3
 have hm3 := hm.chg0 hc3
 refine za ?_
 refine Ol zfM rfl ((h5.chg0 hc3).cell' rfl) ?_
 refine Og (zbd zik rfl rfl) rfl ?_
 refine E4 1 2 3 8 rfl (zb rfl (zm (ze ?_)))
 refine zjx ?_
 refine ze ?_
 have hd : zk [] w3 w3.drew := zk.drew [] _
 refine zO (fun wz => zk [] w3 wz) mix (by kernel_rfl) hd ?_
 refine Tr (fun wz hz => zj zfM rfl (((h5.chg0 hc3).chg0 hz).cell' rfl)) rfl ?_
 refine Tp (fun _ => zE rfl) rfl ?_
 refine Td zgy rfl ?_
 refine Tr (fun wz hz => zj zhB rfl ((hm3.chg0 hz).blk.cell' rfl)) rfl ?_
 refine Tr (fun wz hz => zj ag9 rfl (((h3.chg0 hc3).chg0 hz).cell' rfl)) rfl ?_
 refine Tc zxy rfl rfl rfl (f14 pm main key _ (hm3.chg0 hd).pg (by have := ht.le; omega)) ?_
 rintro v14 w14 ⟨p5, p3, vv, rfl, kp5, ip, kp3, hp3, hp5, c14⟩
 refine ⟨.inl (hd.trans c14), ?_⟩
 refine D3 1 3 14 rfl ?_
 have k3 := (k3.chg0 hd).chg0 c14
 have hcR := ((hc3.trans hd).trans c14)
 have hcWR : zk [] W w14 := (c3.trans hd).trans c14
 have hsR := hcWR.size
 have hsd := hd.size
 have hs3 := c3.size
 refine zq ?_
 refine zh6 (α := List zP) (gf := 100) (lb := [Pt p5, Pt p3]) (encs := fun r : List zP => #[.string (z0 s r), .string (zeA s r)])
  (fun pre X => (∃ outs : List (List zP × Value), outs.map (·.1) = pre ∧ J outs X) ∧ Low w0 X ∧ Kp (unk S0 keep w.heap.size w14) w14.heap.size w14 X)
  (fun c _ X => c = .exit 0 ∧ ∃ outs, Jx outs X)
  (fun r => [(16, .string (zeA s r)), (15, .string (z0 s r)), (1, Pt q5), (3, Pt b3), (14, .func (.func 100) #[] #[Pt p5, Pt p3])])
  (fun r => [(1, Pt q5), (3, Pt b3), (4, .string (z0 s r)), (15, .string (z0 s r))])
  rfl zup
  ((zpd (fun r : List zP => (z0 s r, zeA s r)) (zew s rows key) w14 w14 (zk.refl _ _) p5 p3 vv main key (unk S0 keep w.heap.size w14) kp5 ip kp3 (by have := ht.le; omega) ht.wf.le ?_ ?_ (ztu ht.flat key)).toN keep)
  (fun _ => rfl) (fun _ _ _ _ _ => trivial) (fun _ _ _ _ hh => hh) (fun _ _ _ _ hh => hh) ?_ ?_ ?_ (fun pre X hI => hI.2.2.1) ?_ ?_ ?_ ?_ ?_
 ·intro hmem
  rcases zjc hmem with ⟨g1, g2⟩ | ⟨g1, g2⟩
  ·omega
  rw [g2 _ _ _ kp3] at kS
  cases kS
 ·intro b hb e cs hblk
  have hke : keep e = false := by
   rcases zjc hb with ⟨g1, g2⟩ | ⟨g1, g2⟩
   ·refine hSk b g2 e cs ?_
    have := (hcw.trans hcWR).block b g1 (by simp)
    exact this.symm.trans hblk
   exact g2 _ _ _ hblk
  constructor
  ·cases hq : Nat.beq 177 e with
   | false => rfl
   | true =>
    obtain rfl := Nat.eq_of_beq_eq_true hq
    rw [kL] at hke
    cases hke
  cases hq : Nat.beq 175 e with
  | false => rfl
  | true =>
   obtain rfl := Nat.eq_of_beq_eq_true hq
   rw [kE] at hke
   cases hke
 ·rintro pre X X' hb ⟨⟨outs, ho, hj⟩, hlo, hkp⟩
  have hXs := hkp.1
  refine ⟨⟨outs, ho, hJ _ _ _ (hb.low hsR) hj⟩, fun b hlt => (hb.at' (by omega) (by omega)).trans (hlo b hlt), Nat.le_trans hkp.1 hb.sz, fun q hq hn => (hb.at' hq (by omega)).trans (hkp.2 q hq hn)⟩
 ·rintro cc pre X X' hb ⟨rfl, outs, hj⟩
  exact ⟨rfl, outs, hJx _ _ _ (hb.low hsR) hj⟩
 ·exact ⟨⟨[], rfl, hJ _ _ _ (Bk.of_chg hcWR) h0⟩, fun b hlt => hcR.block b hlt (by simp), Nat.le_refl _, fun _ _ _ => rfl⟩
 ·intro x a ha
  exact ha.vars2 rfl rfl rfl
 ·intro l' x X
  refine yp ?_
  refine yf (gn rfl) rfl (St.vl (zQ rfl) rfl rfl ?_)
  refine zdd [1, 3, 4, 15] (F' := [(1, _), (3, _), (4, _), (15, _)]) rfl ?_
  exact ⟨rfl, rfl, rfl⟩
 ·rintro l' pre x X ⟨⟨outs, ho, hj⟩, hlo, hkp⟩ - hgo
  have hxm : x ∈ rows := (List.mem_filter.1 (hgo.subset (by simp : x ∈ pre ++ [x]))).1
  have hg : zb7 s rows (z0 s x) = some x := ht.ok.get hxm
  have hmX : yz X t pm c k u sv xs s main subs := hm.kc hlo.kc
  have h5X : zS X q5 31 [Pt t] := h5.kc hlo.kc
  have h3X : zS X b3 133 [.func (.yield l) #[] #[]] := by
   have h3lt := k3.lt
   refine (hkp.2 b3 h3lt fun hmem => ?_).trans k3
   rcases zjc hmem with ⟨g1, g2⟩ | ⟨g1, g2⟩
   ·omega
   rw [g2 _ _ _ k3] at kF
   cases kF
  have hXs := hkp.1
  refine zdm ?_
  refine zbP ?_
  refine yp ?_
  refine yf (gn rfl) rfl (St.vl (zj zfM rfl (h5X.cell' rfl)) rfl rfl ?_)
  refine Xm rfl ?_
  refine yf (gn rfl) rfl (yB zo5 rfl rfl rfl rfl (zkd (z0 s x) _ hmX ht) ?_)
  rintro v20 w20 ⟨o20, rfl, i20, f20, c20⟩
  rw [hg] at i20
  replace i20 : zaT w20 o20 x := i20
  refine Xm rfl ?_
  refine yf (gn rfl) rfl (St.vl (zM rfl rfl) rfl rfl ?_)
  refine yf (gn rfl) rfl (St.vl (zM rfl rfl) rfl rfl ?_)
  refine yf (gn rfl) rfl (St.vl (zQ rfl) rfl rfl ?_)
  refine yf (gn rfl) rfl (St.vl (zQ rfl) rfl rfl ?_)
  refine za7 [1, 3, 4, 5, 15] (F' := [(1, _), (3, _), (4, _), (5, _), (15, _)]) rfl ?_
  refine zbP ?_
  refine yp ?_
  have hys := hY outs (x, o20) w20 (hJ _ _ _ (Bk.of_chg c20) hj) ⟨i20, fun b hb => by have := f20 b hb; omega⟩ (by show List.map (·.1) (outs ++ [(x, o20)]) <+: zew s rows key; rw [List.map_append, ho]; exact hgo)
  refine yf (gn rfl) rfl (St.vl (zj zwZ rfl ((h3X.chg0 c20).cell' rfl)) rfl rfl ?_)
  refine Xm rfl (Xm rfl ?_)
  refine zfX (gn rfl) rfl rfl rfl hys ?_
  rintro v26 w26 hR26
  obtain ⟨b26, rfl, hb26⟩ := yb hR26
  refine ⟨_, rfl, ?_⟩
  refine yf (gn rfl) rfl (St.vl (zU rfl) rfl rfl ?_)
  refine za7 [1, 3, 15, 27] (F' := [(1, _), (3, _), (15, _), (27, _)]) rfl ?_
  rcases hb26 with ⟨rfl, hJ26, hk26, hf26⟩ | ⟨rfl, hJ26, hf26⟩
  ·refine zbL rfl ?_
   refine zgr ?_
   refine zh ?_
   have hkr : Kr S0 keep w.heap.size X w26 := (Kr.chg0 c20 (by omega)).trans hk26
   have hkf : KeepsFrom w14.heap.size X w26 := (KeepsFrom.chg c20 (by simp)).trans (KeepsFrom.up hf26 hsR)
   refine ⟨hkf, hkr.inner (by omega) hkp, ⟨outs ++ [(x, o20)], by rw [List.map_append, ho]; rfl, hJ26⟩, fun b hlt => ?_, ?_⟩
   ·exact (hkr.low b (by omega) (fun hmem => by have := hS0 b hmem; omega)).trans (hlo b hlt)
   exact hkp.trans (hkr.inner (by omega) hkp).kp
  refine zdR rfl ?_
  refine zlH ?_
  repeat first | refine te ?_ | refine bo rfl ?_
  exact ⟨(KeepsFrom.chg c20 (by simp)).trans (KeepsFrom.up hf26 hsR), rfl, _, hJ26⟩
 ·rintro D xs' X hD rfl ⟨⟨outs, ho, hj⟩, _, _⟩ hdf
  refine zh ?_
  refine zgJ ?_
  refine zrL (D := D) rfl rfl hdf fun w' hc' => ?_
  exact .inl ⟨outs, ho, hJ _ _ _ (Bk.put (by omega) hc' hdf) hj⟩
 rintro D cc pre X hD - ⟨rfl, outs, hj⟩ hdf
 refine zN ?_
 repeat first | refine te ?_ | refine bo rfl ?_
 refine zt _ ?_
 refine zgJ ?_
 refine zrL (D := D) rfl rfl hdf fun w' hc' => ?_
 exact .inr ⟨outs, trivial, hJx _ _ _ (Bk.put (by omega) hc' hdf) hj⟩
def zio (s : yn) : Prop := (s.cols.length ≤ 10 ∧ s.key.length ≤ 6 ∧ s.uq.length ≤ 5) ∧ (∀ c ∈ s.cols, c.n.size ≤ 40) ∧ ∀ l ∈ s.uq, l.length ≤ 6
instance (s : yn) : Decidable (zio s) := by unfold zio; infer_instance
theorem zio.nm {s : yn} (h : zio s) : ∀ c ∈ s.cols, c.n.size ≤ 1048576 := fun c hc => by have := h.2.1 c hc; omega
theorem zlj (c k u : Value) (s : yn) (w : World) (hs : y4 w c k u s) : z9 TP 16 #[.agg #[c, k, u]] w fun r w' => r = .bool (decide (zio s)) ∧ zk [] w w' := by
 obtain ⟨pc, cc, rfl, _⟩ := id (ya.val hs.cols)
 obtain ⟨pk, ck, rfl, _⟩ := id (ya.val hs.key)
 obtain ⟨pu, cu, rfl, _⟩ := id (yR.val hs.uq)
 refine A1 Tryz.func16 rfl rfl ?_
 refine Sr ?_
 refine Ob rfl rfl ?_
 intro b1 w1 e1 n1 c1 k1
 refine Oa rfl (E1 1 rfl ?_)
 have hs := hs.chg0 c1
 have hcA := k1.cell' (i := 0) rfl
 have hcB := k1.cell' (i := 1) rfl
 have hcC := k1.cell' (i := 2) rfl
 refine ze (ze ?_)
 have hfalse : ¬ zio s → Value.bool false = .bool (decide (zio s)) ∧ zk [] w w1 := fun h => ⟨by rw [decide_eq_false h], c1⟩
 by_cases h1 : 10 < s.cols.length
 ·refine za (Od yM rfl ?_)
  refine Ol zbq rfl hcA ?_
  refine On zaU rfl ?_
  refine Og (vt (yc rfl rfl) (by simp; omega)) rfl ?_
  refine Om rfl (Oz rfl rfl (Oz rfl rfl (Oz rfl rfl (Oz rfl rfl (Ot rfl (Om rfl (Oz rfl rfl (Oz rfl rfl (Oz rfl rfl (Oz rfl rfl (Ot rfl (E2 1 20 rfl (zd rfl ?_)))))))))))))
  refine Sr (Oa rfl (E1 2 rfl (zi ?_)))
  repeat first | refine tr ?_ | refine br ?_
  refine zD rfl rfl ?_
  exact hfalse fun h => by have := h.1.1; omega
 by_cases h2 : 6 < s.key.length
 ·refine za (Od yM rfl ?_)
  refine Ol zbq rfl hcA ?_
  refine On zaU rfl ?_
  refine Og (vf (yc rfl rfl) (by simp; omega)) rfl ?_
  refine Om rfl ?_
  refine Oy rfl rfl (zl zbS rfl) ?_
  refine Oy rfl rfl (zj zbW rfl hcB) ?_
  refine Oy rfl rfl (yd zaC rfl) ?_
  refine Oy rfl rfl (vt (yc rfl rfl) (by simp; omega)) ?_
  refine Of rfl (Om rfl (Oz rfl rfl (Oz rfl rfl (Oz rfl rfl (Oz rfl rfl (Ot rfl (E2 1 20 rfl (zd rfl (Sr (Oa rfl (E1 2 rfl (zi ?_))))))))))))
  repeat first | refine tr ?_ | refine br ?_
  refine zD rfl rfl ?_
  exact hfalse fun h => by have := h.1.2.1; omega
 by_cases h3 : 5 < s.uq.length
 ·refine za (Od yM rfl ?_)
  refine Ol zbq rfl hcA ?_
  refine On zaU rfl ?_
  refine Og (vf (yc rfl rfl) (by simp; omega)) rfl ?_
  refine Om rfl ?_
  refine Oy rfl rfl (zl zbS rfl) ?_
  refine Oy rfl rfl (zj zbW rfl hcB) ?_
  refine Oy rfl rfl (yd zaC rfl) ?_
  refine Oy rfl rfl (vf (yc rfl rfl) (by simp; omega)) ?_
  refine Of rfl (Om rfl ?_)
  refine Oy rfl rfl (zl zbi rfl) ?_
  refine Oy rfl rfl (zj zc6 rfl hcC) ?_
  refine Oy rfl rfl (yd zaL rfl) ?_
  refine Oy rfl rfl (vt (yc rfl rfl) (by simp; omega)) ?_
  refine Of rfl (E2 1 20 rfl (zd rfl (Sr (Oa rfl (E1 2 rfl (zi ?_))))))
  repeat first | refine tr ?_ | refine br ?_
  refine zD rfl rfl ?_
  exact hfalse fun h => by have := h.1.2.2; omega
 refine za (Od yM rfl ?_)
 refine Ol zbq rfl hcA ?_
 refine On zaU rfl ?_
 refine Og (vf (yc rfl rfl) (by simp; omega)) rfl ?_
 refine Om rfl ?_
 refine Oy rfl rfl (zl zbS rfl) ?_
 refine Oy rfl rfl (zj zbW rfl hcB) ?_
 refine Oy rfl rfl (yd zaC rfl) ?_
 refine Oy rfl rfl (vf (yc rfl rfl) (by simp; omega)) ?_
 refine Of rfl (Om rfl ?_)
 refine Oy rfl rfl (zl zbi rfl) ?_
 refine Oy rfl rfl (zj zc6 rfl hcC) ?_
 refine Oy rfl rfl (yd zaL rfl) ?_
 refine Oy rfl rfl (vf (yc rfl rfl) (by simp; omega)) ?_
 refine Of rfl (E2 1 20 rfl (zb rfl (zm (ze (Sr (Oa rfl (E2 1 3 rfl (zq ?_))))))))
 refine zY [1, 3] (fun m F wx => ∃ j : Nat, m = s.cols.length - j ∧ j ≤ s.cols.length ∧ F = [(1, Pt b1), (3, Ii j)] ∧ wx = w1 ∧ ∀ y ∈ s.cols.take j, y.n.size ≤ 40) (m := s.cols.length - 0) ⟨0, rfl, Nat.zero_le _, rfl, rfl, by simp⟩ ?_
 rintro m F wx ⟨j, rfl, hj, rfl, rfl, hpre⟩
 refine ze (ze ?_)
 by_cases hlt : j < s.cols.length
 ·refine za (Om rfl (Od yM rfl ?_))
  refine Ol zbq rfl hcA ?_
  refine On zaU rfl ?_
  refine Og (vt (zz rfl rfl) (by simp; omega)) rfl ?_
  refine E3 1 3 25 rfl (zd rfl (zm ?_))
  have hx : s.cols[j]? = some s.cols[j] := by simp [hlt]
  generalize s.cols[j] = y at hx
  obtain ⟨bb, oo, cp, hve, hcell⟩ := ya.at zaR hs.cols hx
  cases hve
  refine ze (zq (ze ?_))
  by_cases h4 : 40 < y.n.size
  ·refine za (Od yM rfl ?_)
   refine Ol zbq rfl hcA ?_
   refine Om rfl ?_
   refine Og (zf zaU zbj rfl rfl _ rfl hlt) rfl ?_
   refine Od zbG rfl ?_
   refine Ol ag9 rfl (hcell 0 _ rfl) ?_
   refine Og (yQ st9 rfl) rfl ?_
   refine Og (vt (yc rfl rfl) (by simp; omega)) rfl ?_
   refine E3 1 3 35 rfl (zd rfl (Sr (Oa rfl (E1 2 rfl (zi ?_)))))
   repeat first | refine tr ?_ | refine br ?_
   refine zD rfl rfl ?_
   exact hfalse fun h => by have := h.2.1 y (List.mem_of_getElem? hx); omega
  refine za (Od yM rfl ?_)
  refine Ol zbq rfl hcA ?_
  refine Om rfl ?_
  refine Og (zf zaU zbj rfl rfl _ rfl hlt) rfl ?_
  refine Od zbG rfl ?_
  refine Ol ag9 rfl (hcell 0 _ rfl) ?_
  refine Og (yQ st9 rfl) rfl ?_
  refine Og (vf (yc rfl rfl) (by simp; omega)) rfl ?_
  refine E3 1 3 35 rfl (zb rfl (yg (zh (za (Om rfl ?_)))))
  refine Og (zH rfl rfl (by omega)) rfl ?_
  refine Oa rfl ?_
  refine zaw [1, 3] (F' := [(1, _), (3, _)]) rfl ?_
  refine ⟨s.cols.length - (j + 1), by omega, j + 1, rfl, by omega, rfl, rfl, fun z hz => ?_⟩
  rw [yv hx] at hz
  rcases List.mem_append.1 hz with hz | hz
  ·exact hpre z hz
  simp at hz; subst hz; omega
 refine za (Om rfl (Od yM rfl ?_))
 refine Ol zbq rfl hcA ?_
 refine On zaU rfl ?_
 refine Og (vf (zz rfl rfl) (by simp; omega)) rfl ?_
 refine E3 1 3 25 rfl (zb rfl ?_)
 refine zN ?_
 repeat first | refine te ?_ | refine bo rfl ?_
 refine zt _ ?_
 rw [List.take_of_length_le (by omega)] at hpre
 refine ze (Sr (Oa rfl (E2 1 4 rfl (zq ?_))))
 refine zY [1, 4] (fun m F wy => ∃ i : Nat, m = s.uq.length - i ∧ i ≤ s.uq.length ∧ F = [(1, Pt b1), (4, Ii i)] ∧ wy = wx ∧ ∀ y ∈ s.uq.take i, y.length ≤ 6) (m := s.uq.length - 0) ⟨0, rfl, Nat.zero_le _, rfl, rfl, by simp⟩ ?_
 rintro m F wy ⟨i, rfl, hi, rfl, rfl, hpi⟩
 refine ze (ze ?_)
 by_cases hli : i < s.uq.length
 ·refine za (Om rfl (Od zbi rfl ?_))
  refine Ol zc6 rfl hcC ?_
  refine On zaL rfl ?_
  refine Og (vt (zz rfl rfl) (by simp; omega)) rfl ?_
  refine E3 1 4 40 rfl (zd rfl (zm ?_))
  have hx : s.uq[i]? = some s.uq[i] := by simp [hli]
  generalize s.uq[i] = y at hx
  obtain ⟨bb, oo, cp, v, hve, hcell, hvy⟩ := yR.at hs.uq hx
  cases hve
  obtain ⟨pv, cv, rfl, _⟩ := id (ya.val hvy)
  refine ze (zq (ze ?_))
  by_cases h4 : 6 < y.length
  ·refine za (Od zbi rfl ?_)
   refine Ol zc6 rfl hcC ?_
   refine Om rfl ?_
   refine Og (zf zaL zfh rfl rfl _ rfl hli) rfl ?_
   refine Ol zbW rfl hcell ?_
   refine On zaC rfl ?_
   refine Og (vt (yc rfl rfl) (by simp; omega)) rfl ?_
   refine E3 1 4 49 rfl (zd rfl (Sr (Oa rfl (E1 2 rfl (zi ?_)))))
   repeat first | refine tr ?_ | refine br ?_
   refine zD rfl rfl ?_
   exact hfalse fun h => by have := h.2.2 y (List.mem_of_getElem? hx); omega
  refine za (Od zbi rfl ?_)
  refine Ol zc6 rfl hcC ?_
  refine Om rfl ?_
  refine Og (zf zaL zfh rfl rfl _ rfl hli) rfl ?_
  refine Ol zbW rfl hcell ?_
  refine On zaC rfl ?_
  refine Og (vf (yc rfl rfl) (by simp; omega)) rfl ?_
  refine E3 1 4 49 rfl (zb rfl (yg (zh (za (Om rfl ?_)))))
  refine Og (zH rfl rfl (by omega)) rfl ?_
  refine Oa rfl ?_
  refine zaw [1, 4] (F' := [(1, _), (4, _)]) rfl ?_
  refine ⟨s.uq.length - (i + 1), by omega, i + 1, rfl, by omega, rfl, rfl, fun z hz => ?_⟩
  rw [yv hx] at hz
  rcases List.mem_append.1 hz with hz | hz
  ·exact hpi z hz
  simp at hz; subst hz; omega
 refine za (Om rfl (Od zbi rfl ?_))
 refine Ol zc6 rfl hcC ?_
 refine On zaL rfl ?_
 refine Og (vf (zz rfl rfl) (by simp; omega)) rfl ?_
 refine E3 1 4 40 rfl (zb rfl ?_)
 refine zN ?_
 repeat first | refine te ?_ | refine bo rfl ?_
 refine zt _ ?_
 rw [List.take_of_length_le (by omega)] at hpi
 refine Sr (Oa rfl (E1 2 rfl (zi ?_)))
 refine zD rfl rfl ?_
 exact ⟨by rw [decide_eq_true (show zio s from ⟨⟨by omega, by omega, by omega⟩, hpre, hpi⟩)], c1⟩
theorem ziu (c k u o : Value) (s : yn) (rows : LV) (x : zcb) (a : zbT) (w : World) (h : yx w c k u o s rows) (hx : zbO w x a) :
 z9 TP 26 #[.agg #[c, k, u, o], .agg x.cs.toArray] w fun r w' => r = .string (zaB s rows a) ∧ zk [] w w' := by
 obtain ⟨xw, xa, xr, xk⟩ := x
 obtain ⟨e1, e2, e3, hrow, hrng, hat⟩ := hx
 simp only at e1 e2 e3
 subst e1 e2 e3
 obtain ⟨pr, cr, rfl, hcr⟩ := id (ya.val hrow)
 obtain ⟨po, co, rfl, hco⟩ := h.rws.val
 refine A2 Tryz.func26 rfl rfl ?_
 refine Sr ?_
 refine Ob rfl rfl ?_
 intro b2 w2 e2 n2 c2 k2
 refine Ob rfl rfl ?_
 intro b3 w3 e3 n3 c3 k3
 refine Oa rfl (E2 2 3 rfl ?_)
 have hc := c2.trans c3
 have k2 := k2.chg0 c3
 refine ze (ze ?_)
 have hb0 := k3.cell' (i := 0) rfl
 have hb1 := k3.cell' (i := 1) rfl
 have hb3 := k3.cell' (i := 3) rfl
 by_cases h7 : a.what < 7
 ·by_cases h0 : 0 ≤ a.at'
  ·obtain ⟨i, hi⟩ : ∃ i : Nat, a.at' = (i : Int) := ⟨a.at'.toNat, by omega⟩
   by_cases hl : i < rows.length
   ·refine za (Od zdE rfl ?_)
    refine Ol ag3 rfl hb0 ?_
    refine Og (vt (zz rfl rfl) (by simp; omega)) rfl ?_
    refine Om rfl ?_
    refine Oy rfl rfl (zl zeF rfl) ?_
    refine Oy rfl rfl (zj ag3 rfl hb1) ?_
    refine Oy rfl rfl (vt (yt rfl rfl) (by simp; omega)) ?_
    refine Ot rfl (Om rfl ?_)
    refine Oy rfl rfl (zl zeF rfl) ?_
    refine Oy rfl rfl (zj ag3 rfl hb1) ?_
    refine Oy rfl rfl (zl yF rfl) ?_
    refine Oy rfl rfl (zj zbc rfl (k2.cell' (i := 3) rfl)) ?_
    refine Oy rfl rfl (yd zao rfl) ?_
    refine Oy rfl rfl (vt (zz rfl rfl) (by simp; omega)) ?_
    refine Ot rfl (E3 2 3 20 rfl (zd rfl (ze ?_)))
    have hr : rows[i]? = some rows[i] := by simp [hl]
    have hmem := List.getElem_mem hl
    generalize rows[i] = r at hr hmem
    obtain ⟨bo, oo, cpo, vr, hve, hcell, hvr⟩ := (h.rws.chg0 hc).at hr
    cases hve
    have hb1' : ∀ {wz : World}, zk [] w3 wz → wz.cell? ⟨b3, 0 + 1, none⟩ = some (Ii (i : Int)) := fun hz => by rw [← hi]; exact (k3.chg0 hz).cell' (i := 1) rfl
    have hd : zk [] w3 w3.drew := zk.drew [] _
    refine zO (fun wz => zk [] w3 wz) mix (by kernel_rfl) hd ?_
    refine Tr (fun wz hz => zg yA ye rfl rfl (zB.of_blk0 (k2.chg0 hz))) rfl ?_
    refine Td yF rfl ?_
    refine Tr (fun wz hz => zj zbc rfl ((k2.chg0 hz).cell' (i := 3) rfl)) rfl ?_
    refine Td zeF rfl ?_
    refine Tr (fun wz hz => zj ag3 rfl (hb1' hz)) rfl ?_
    refine Tp (fun _ => zf zao zc1 rfl rfl _ rfl hl) rfl ?_
    refine Tr (fun wz hz => zj zaV rfl (hz.cell hcell)) rfl ?_
    refine Tc zhW rfl rfl rfl (zdw _ _ _ _ _ s rows r _ ((h.chg0 hc).chg0 hd) (ym.chg0 hvr hd).arr (h.ok.fit r hmem) (h.ok.rng r hmem)) ?_
    rintro v28 w28 ⟨rfl, c28⟩
    refine ⟨.inl (hd.trans c28), ?_⟩
    refine Ta rfl (D1 4 rfl (zi ?_))
    repeat first | refine tr ?_ | refine br ?_
    refine zD rfl rfl ?_
    refine ⟨?_, (hc.trans hd).trans c28⟩
    unfold zaB
    rw [if_pos ⟨h7, h0⟩, hi, Int.toNat_natCast, hr]
   refine za (Od zdE rfl ?_)
   refine Ol ag3 rfl hb0 ?_
   refine Og (vt (zz rfl rfl) (by simp; omega)) rfl ?_
   refine Om rfl ?_
   refine Oy rfl rfl (zl zeF rfl) ?_
   refine Oy rfl rfl (zj ag3 rfl hb1) ?_
   refine Oy rfl rfl (vt (yt rfl rfl) (by simp; omega)) ?_
   refine Ot rfl (Om rfl ?_)
   refine Oy rfl rfl (zl zeF rfl) ?_
   refine Oy rfl rfl (zj ag3 rfl hb1) ?_
   refine Oy rfl rfl (zl yF rfl) ?_
   refine Oy rfl rfl (zj zbc rfl (k2.cell' (i := 3) rfl)) ?_
   refine Oy rfl rfl (yd zao rfl) ?_
   refine Oy rfl rfl (vf (zz rfl rfl) (by simp; omega)) ?_
   refine Ot rfl (E3 2 3 20 rfl (zb rfl (zm (Sr (Od zhP rfl ?_)))))
   refine Ol ag9 rfl hb3 ?_
   refine Oa rfl (E1 4 rfl (zi ?_))
   refine zD rfl rfl ?_
   refine ⟨?_, hc⟩
   unfold zaB
   rw [if_pos ⟨h7, h0⟩, hi, Int.toNat_natCast, List.getElem?_eq_none (by omega)]
  refine za (Od zdE rfl ?_)
  refine Ol ag3 rfl hb0 ?_
  refine Og (vt (zz rfl rfl) (by simp; omega)) rfl ?_
  refine Om rfl ?_
  refine Oy rfl rfl (zl zeF rfl) ?_
  refine Oy rfl rfl (zj ag3 rfl hb1) ?_
  refine Oy rfl rfl (vf (yt rfl rfl) (by simp; omega)) ?_
  refine Ot rfl (Om rfl (Oz rfl rfl (Oz rfl rfl (Oz rfl rfl (Oz rfl rfl (Oz rfl rfl (Oz rfl rfl (Of rfl (E3 2 3 20 rfl (zb rfl (zm (Sr ?_))))))))))))
  refine Od zhP rfl ?_
  refine Ol ag9 rfl hb3 ?_
  refine Oa rfl (E1 4 rfl (zi ?_))
  refine zD rfl rfl ?_
  refine ⟨?_, hc⟩
  unfold zaB
  rw [if_neg (fun hh => h0 hh.2)]
 refine za (Od zdE rfl ?_)
 refine Ol ag3 rfl hb0 ?_
 refine Og (vf (zz rfl rfl) (by simp; omega)) rfl ?_
 refine Om rfl (Oz rfl rfl (Oz rfl rfl (Oz rfl rfl (Of rfl (Om rfl (Oz rfl rfl (Oz rfl rfl (Oz rfl rfl (Oz rfl rfl (Oz rfl rfl (Oz rfl rfl (Of rfl (E3 2 3 20 rfl ?_)))))))))))))
 refine zb rfl (zm (Sr (Od zhP rfl ?_)))
 refine Ol ag9 rfl hb3 ?_
 refine Oa rfl (E1 4 rfl (zi ?_))
 refine zD rfl rfl ?_
 refine ⟨?_, hc⟩
 unfold zaB
 rw [if_neg (fun hh => h7 hh.1)]
instance (a : zbT) : Decidable (zdW a) := by unfold zdW; infer_instance
theorem zeY (v : Value) (al : List zbT) (many : Nat) (w : World) (h : zc8 w v al) (hm : many ≤ 1000) : z9 TP 18 #[v, Ii many] w fun r w' => r = .bool (decide (al.length ≤ many ∧ ∀ a ∈ al, zdW a)) ∧ w' = w := by
 obtain ⟨pv, cv, rfl, hcv⟩ := h.val
 refine A2 Tryz.func18 rfl rfl ?_
 refine Sr (Oa rfl (E2 0 1 rfl ?_))
 refine yh (fun F wx => ∃ (j : Nat) (f15 : Value), F = [(0, .slice pv al.length cv), (1, Ii many), (5, Ii j), (15, f15)] ∧ (al.length ≤ j ∨ many < j) ∧ wx = w ∧ (∀ a ∈ al.take j, zdW a)) ?_ ?_
 ·refine Sr (Oa rfl (E3 0 1 5 rfl (zq ?_)))
  refine zY [0, 1, 5] (fun m F wx => ∃ j : Nat, m = al.length - j ∧ j ≤ al.length ∧ j ≤ many + 1 ∧ F = [(0, .slice pv al.length cv), (1, Ii many), (5, Ii j)] ∧ wx = w ∧ (∀ a ∈ al.take j, zdW a)) (m := al.length - 0) ⟨0, rfl, Nat.zero_le _, Nat.zero_le _, rfl, rfl, by simp⟩ ?_
  rintro m F wx ⟨j, rfl, hj, hjm, rfl, rfl, hpre⟩
  refine ze (ze ?_)
  by_cases h1 : j < al.length
  ·by_cases h2 : j ≤ many
   ·refine za (Om rfl (Om rfl (On zeQ rfl ?_)))
    refine Og (vt (zz rfl rfl) (by simp; omega)) rfl ?_
    refine Om rfl (Oj rfl rfl (Oj rfl rfl ?_))
    refine Oy rfl rfl (vt (za2 rfl rfl) (by simp; omega)) ?_
    refine Ot rfl (E4 0 1 5 15 rfl (zd rfl (zm ?_)))
    have ha : al[j]? = some al[j] := by simp [h1]
    generalize al[j] = a at ha
    have hmem : a ∈ al := List.mem_of_getElem? ha
    obtain ⟨x, b, off, cap, hv, hcell, hxa⟩ := h.at ha
    cases hv
    obtain ⟨xw, xa, xr, xk⟩ := x
    obtain ⟨e1, e2, e3, hrow, hrng, hat⟩ := hxa
    obtain ⟨pr, cr, e4, hcr⟩ := id (ya.val hrow)
    simp only at e1 e2 e3 e4
    subst e4
    refine ze (zq (ze (ze ?_)))
    by_cases h3 : 10 < a.row.length
    ·refine za (Om rfl (Om rfl ?_))
     refine Og (zf zeQ zeD rfl rfl _ rfl h1) rfl ?_
     refine Od za0 rfl ?_
     refine Ol zaV rfl (hcell 2 _ rfl) ?_
     refine On zab rfl ?_
     refine Og (vt (yc rfl rfl) (by simp; omega)) rfl ?_
     refine Om rfl (Oz rfl rfl (Oz rfl rfl (Oz rfl rfl (Oz rfl rfl (Oz rfl rfl (Oz rfl rfl (Oz rfl rfl (Ot rfl (E4 0 1 5 33 rfl (zd rfl (Sr (Oa rfl ?_))))))))))))
     refine E1 4 rfl (zi ?_)
     repeat first | refine tr ?_ | refine br ?_
     refine zD rfl rfl ?_
     exact ⟨by rw [decide_eq_false (fun h => by have := (h.2 a hmem).1; omega)], rfl⟩
    by_cases h4 : 300 < xk.size
    ·refine za (Om rfl (Om rfl ?_))
     refine Og (zf zeQ zeD rfl rfl _ rfl h1) rfl ?_
     refine Od za0 rfl ?_
     refine Ol zaV rfl (hcell 2 _ rfl) ?_
     refine On zab rfl ?_
     refine Og (vf (yc rfl rfl) (by simp; omega)) rfl ?_
     refine Om rfl (Oj rfl rfl (Oj rfl rfl ?_))
     refine Oy rfl rfl (zf zeQ zeD rfl rfl _ rfl h1) ?_
     refine Oy rfl rfl (zl zhP rfl) ?_
     refine Oy rfl rfl (zj ag9 rfl (hcell 3 _ rfl)) ?_
     refine Oy rfl rfl (yQ st9 rfl) ?_
     refine Oy rfl rfl (vt (yc rfl rfl) (by simp; omega)) ?_
     refine Of rfl (E4 0 1 5 33 rfl (zd rfl (Sr (Oa rfl (E1 4 rfl (zi ?_))))))
     repeat first | refine tr ?_ | refine br ?_
     refine zD rfl rfl ?_
     exact ⟨by rw [decide_eq_false (fun h => by have := (h.2 a hmem).2.1; rw [← e3] at this; omega)], rfl⟩
    refine za (Om rfl (Om rfl ?_))
    refine Og (zf zeQ zeD rfl rfl _ rfl h1) rfl ?_
    refine Od za0 rfl ?_
    refine Ol zaV rfl (hcell 2 _ rfl) ?_
    refine On zab rfl ?_
    refine Og (vf (yc rfl rfl) (by simp; omega)) rfl ?_
    refine Om rfl (Oj rfl rfl (Oj rfl rfl ?_))
    refine Oy rfl rfl (zf zeQ zeD rfl rfl _ rfl h1) ?_
    refine Oy rfl rfl (zl zhP rfl) ?_
    refine Oy rfl rfl (zj ag9 rfl (hcell 3 _ rfl)) ?_
    refine Oy rfl rfl (yQ st9 rfl) ?_
    refine Oy rfl rfl (vf (yc rfl rfl) (by simp; omega)) ?_
    refine Of rfl (E4 0 1 5 33 rfl (zb rfl (zm (Sr (Oa rfl (E4 0 1 5 6 rfl (zq ?_)))))))
    refine zY [0, 1, 5, 6] (fun m F wy => ∃ i : Nat, m = a.row.length - i ∧ i ≤ a.row.length ∧ F = [(0, .slice (some ⟨b, off, none⟩) al.length cv), (1, Ii many), (5, Ii j), (6, Ii i)] ∧ wy = wx ∧ ∀ y ∈ a.row.take i, y.b.size ≤ 300) (m := a.row.length - 0) ⟨0, rfl, Nat.zero_le _, rfl, rfl, by simp⟩ ?_
    rintro m F wy ⟨i, rfl, hi, rfl, rfl, hpi⟩
    refine ze (ze ?_)
    by_cases hli : i < a.row.length
    ·refine za (Om rfl (Om rfl (Om rfl ?_)))
     refine Og (zf zeQ zeD rfl rfl _ rfl h1) rfl ?_
     refine Od za0 rfl ?_
     refine Ol zaV rfl (hcell 2 _ rfl) ?_
     refine On zab rfl ?_
     refine Og (vt (zz rfl rfl) (by simp; omega)) rfl ?_
     refine E5 0 1 5 6 41 rfl (zd rfl (zm ?_))
     have hy : a.row[i]? = some a.row[i] := by simp [hli]
     generalize a.row[i] = y at hy
     obtain ⟨bb, oy, cy, hvy, hcy⟩ := ya.at zaX hrow hy
     cases hvy
     refine ze (zq (ze ?_))
     by_cases h5 : 300 < y.b.size
     ·refine za (Om rfl (Om rfl ?_))
      refine Og (zf zeQ zeD rfl rfl _ rfl h1) rfl ?_
      refine Od za0 rfl ?_
      refine Ol zaV rfl (hcell 2 _ rfl) ?_
      refine Om rfl ?_
      refine Og (zf zab y7 rfl rfl _ rfl hli) rfl ?_
      refine Od zaF rfl ?_
      refine Ol ag9 rfl (hcy 3 _ rfl) ?_
      refine Og (yQ st9 rfl) rfl ?_
      refine Og (vt (yc rfl rfl) (by simp; omega)) rfl ?_
      refine E5 0 1 5 6 54 rfl (zd rfl (Sr (Oa rfl (E1 4 rfl (zi ?_)))))
      repeat first | refine tr ?_ | refine br ?_
      refine zD rfl rfl ?_
      exact ⟨by rw [decide_eq_false (fun h => by have := (h.2 a hmem).2.2 y (List.mem_of_getElem? hy); omega)], rfl⟩
     refine za (Om rfl (Om rfl ?_))
     refine Og (zf zeQ zeD rfl rfl _ rfl h1) rfl ?_
     refine Od za0 rfl ?_
     refine Ol zaV rfl (hcell 2 _ rfl) ?_
     refine Om rfl ?_
     refine Og (zf zab y7 rfl rfl _ rfl hli) rfl ?_
     refine Od zaF rfl ?_
     refine Ol ag9 rfl (hcy 3 _ rfl) ?_
     refine Og (yQ st9 rfl) rfl ?_
     refine Og (vf (yc rfl rfl) (by simp; omega)) rfl ?_
     refine E5 0 1 5 6 54 rfl (zb rfl (yg (zh (za (Om rfl ?_)))))
     refine Og (zH rfl rfl (by omega)) rfl ?_
     refine Oa rfl (N4 0 1 5 6 rfl ?_)
     refine ⟨a.row.length - (i + 1), by omega, i + 1, rfl, by omega, rfl, rfl, fun z hz => ?_⟩
     rw [yv hy] at hz
     rcases List.mem_append.1 hz with hz | hz
     ·exact hpi z hz
     simp at hz; subst hz; omega
    refine za (Om rfl (Om rfl (Om rfl ?_)))
    refine Og (zf zeQ zeD rfl rfl _ rfl h1) rfl ?_
    refine Od za0 rfl ?_
    refine Ol zaV rfl (hcell 2 _ rfl) ?_
    refine On zab rfl ?_
    refine Og (vf (zz rfl rfl) (by simp; omega)) rfl ?_
    refine E5 0 1 5 6 41 rfl (zb rfl ?_)
    refine zN ?_
    repeat first | refine te ?_ | refine bo rfl ?_
    refine zt _ ?_
    refine zh (za (Om rfl ?_))
    refine Og (zH rfl rfl (by omega)) rfl ?_
    refine Oa rfl (N3 0 1 5 rfl ?_)
    refine ⟨al.length - (j + 1), by omega, j + 1, rfl, by omega, by omega, rfl, rfl, fun z hz => ?_⟩
    rw [yv ha] at hz
    rcases List.mem_append.1 hz with hz | hz
    ·exact hpre z hz
    simp at hz
    subst hz
    refine ⟨by omega, by rw [← e3]; omega, fun y hy => hpi y ?_⟩
    rwa [List.take_of_length_le (by omega)]
   refine za (Om rfl (Om rfl (On zeQ rfl ?_)))
   refine Og (vt (zz rfl rfl) (by simp; omega)) rfl ?_
   refine Om rfl (Oj rfl rfl (Oj rfl rfl ?_))
   refine Oy rfl rfl (vf (za2 rfl rfl) (by simp; omega)) ?_
   refine Ot rfl (E4 0 1 5 15 rfl (zb rfl ?_))
   refine zN ?_
   repeat first | refine te ?_ | refine bo rfl ?_
   refine zt _ ?_
   exact ⟨j, _, rfl, .inr (by omega), rfl, hpre⟩
  refine za (Om rfl (Om rfl (On zeQ rfl ?_)))
  refine Og (vf (zz rfl rfl) (by simp; omega)) rfl ?_
  refine Om rfl (Oz rfl rfl (Oz rfl rfl (Oz rfl rfl (Of rfl (E4 0 1 5 15 rfl (zb rfl ?_))))))
  refine zN ?_
  repeat first | refine te ?_ | refine bo rfl ?_
  refine zt _ ?_
  exact ⟨j, _, rfl, .inl (by omega), rfl, hpre⟩
 rintro F wx ⟨j, f15, rfl, hend, rfl, hpre⟩
 refine Sr (Om rfl (On zeQ rfl (Om rfl ?_)))
 refine Og (za2 rfl rfl) rfl ?_
 refine Oa rfl (E1 4 rfl (zi ?_))
 refine zD rfl rfl ?_
 refine ⟨?_, rfl⟩
 by_cases hb : al.length ≤ many
 ·rw [decide_eq_true (show al.length ≤ many ∧ ∀ a ∈ al, zdW a from ⟨hb, fun a ha => hpre a (by rwa [List.take_of_length_le (by omega)])⟩), decide_eq_true (show (al.length : Int) ≤ many by omega)]
 rw [decide_eq_false (show ¬ (al.length ≤ many ∧ ∀ a ∈ al, zdW a) from fun h => hb h.1), decide_eq_false (show ¬ (al.length : Int) ≤ many by omega)]
end Go.Wk
