/- joined texts -/
import Derived.Test.YtcnkdoecfljnlaaGreatDoorZ8
set_option linter.all false
namespace Go.Wk
open Go.Proofs
set_option maxRecDepth 10000
theorem zpu {s : yn} {r : List zP} (hf : yT s r = 0) : (zeA s r).size ≤ 1680 ∧ (zeA s r).data.toList = zcn s.cols r ∧ (zeA s r).size = (zcn s.cols r).length := by
 obtain ⟨hrs, _, hfit⟩ := zav hf
 have h8 := (zV hrs).1
 have h1 := zd6 hfit
 have e : (zeA s r).size = (zcn s.cols r).length := by simp [zeA, ByteArray.size]
 exact ⟨by omega, by simp [zeA], e⟩
section
variable {t pm : Nat} {c k u sv : Value} {xs : List (Value × Nat)} {s : yn} {main : LE} {subs : List (LE)} {rows : LV}
theorem zkd (key : ByteArray) (w : World) (h : yz w t pm c k u sv xs s main subs) (ht : zbR s rows main subs) :
 z9 TP 23 #[Pt t, .string key] w fun r w' => ∃ o, r = .tuple #[o, .bool (zb7 s rows key).isSome] ∧ zaT w' o ((zb7 s rows key).getD []) ∧ (∀ b ∈ zn o, w.heap.size ≤ b) ∧ zk [] w w' := by
 refine A2 Tryz.func23 rfl rfl ?_
 refine Sr (Oa rfl (Oa rfl (E2 0 1 rfl (ze (Sr (Om rfl ?_))))))
 refine Og (zbd zik rfl rfl) rfl ?_
 refine E3 0 1 11 rfl (zb rfl (zm (Sr (Om rfl (Og (zE rfl) rfl (Od zgy rfl ?_))))))
 refine Ol zhB rfl (h.blk.cell' rfl) ?_
 refine Om rfl ?_
 refine Oc zsB rfl rfl rfl (f15 pm main key _ h.pg ht.wf (by have := ht.le; omega)) ?_
 rintro v18 w18 ⟨rfl, c18⟩
 refine Om rfl (Oe rfl rfl (Oe rfl rfl (Oa rfl (Oa rfl (E3 0 6 7 rfl ?_)))))
 have h1 := h.chg0 c18
 rw [ht.get]
 cases hg : zb7 s rows key with
 | none =>
  refine ze (Sr (Om rfl (Og (zU rfl) rfl (E3 0 6 22 rfl (zd rfl (Sr (Oa rfl (Oa rfl (E2 4 5 rfl (zi ?_))))))))))
  repeat first | refine tr ?_ | refine br ?_
  refine zaM rfl rfl rfl ?_
  exact ⟨_, rfl, ym.nil _ _ _ _, by simp [zn], c18⟩
 | some r =>
  obtain ⟨hr, _⟩ := zcy hg
  have hf := ht.ok.fit r hr
  obtain ⟨z1, z2, z3⟩ := zpu hf
  refine ze (Sr (Om rfl (Og (zU rfl) rfl (E3 0 6 22 rfl (zb rfl (zm (Sr (Om rfl (Og (zE rfl) rfl (Od zjs rfl ?_))))))))))
  refine Og (zg zbu zbt rfl rfl h1.scells) rfl ?_
  refine Om rfl ?_
  refine zC (gn rfl) (zkj st9 yV zas rfl (by simp only [Option.map_some, Option.getD_some, maxLen]; omega) rfl ?_)
  intro b29 q29 w29 e29 c29 g29 i29
  refine Oc zxc rfl rfl rfl (zpL c k u _ s r _ (h1.sch.chg0 c29) (zeW ht.ok.right) hf (by have e := i29; simp only [Option.map_some, Option.getD_some] at e; rw [z2, z3] at e; exact e)) ?_
  rintro v30 w30 ⟨o30, rfl, i30, f30, c30⟩
  refine Om rfl (Oe rfl rfl (Oe rfl rfl (Oa rfl (Oa rfl (E1 8 rfl (Sr (Om rfl (Oa rfl (Oa rfl (E2 4 5 rfl (zi ?_)))))))))))
  refine zaM rfl rfl rfl ?_
  have hs := c18.size
  have hs2 := c29.size
  exact ⟨_, rfl, i30, fun b hb => by have := f30 b hb; omega, (c18.trans c29).trans c30⟩
theorem zu3 (v : Value) (row : List zP) (w : World) (hE : EOk w) (h : yz w t pm c k u sv xs s main subs) (ht : zbR s rows main subs) (hl : zK w v row) (hg : ∀ x ∈ row, x.Rng) (hn : row.length ≤ 1048576) :
 z9 TP 20 #[Pt t, v] w fun r w' => r = .tuple #[.string (if yT s row = 0 then z0 s row else e0), Ii (yT s row)] ∧ zk [] w w' := by
 obtain ⟨l1, l2⟩ := h.lens
 have hn1 : 1 ≤ (zG s).length := by simp [zG]
 refine A2 Tryz.func20 rfl rfl ?_
 refine Sr (Oa rfl (Oa rfl (E2 0 1 rfl (ze (Sr (Om rfl (Om rfl ?_)))))))
 refine Oc zrp rfl rfl rfl (zjk v row w hE h ht.ok.right hl hg hn) ?_
 rintro v11 w11 ⟨i11, c11⟩
 refine Oa rfl (E3 0 1 6 rfl ?_)
 have h1 := h.chg0 c11
 have hl1 := ya.chg0 hl c11
 rcases i11 with ⟨rfl, he⟩ | ⟨i11, he⟩
 ·refine Sr (Om rfl ?_)
  refine Og (zbX zaY rfl rfl) rfl ?_
  refine E4 0 1 6 13 rfl (zb rfl (zm ?_))
  obtain ⟨a0, q0, stA, m0, b0, off0, cap0, e1, e2, e3, ha0, hq0, hsv0, hcell0, hqm0⟩ := h1.at (j := 0) (by omega)
  have hstA : s.key = stA := by simp [zG] at e2; exact e2
  subst hstA
  subst hsv0
  refine Sr (Om rfl (Og (zE rfl) rfl (Od zbU rfl ?_)))
  refine Ol zga rfl (h1.blk.cell' rfl) ?_
  refine Og (zf zep zbC rfl rfl 0 rfl (show 0 < xs.length by omega)) rfl ?_
  refine Og (zg zgc zbC rfl rfl hcell0) rfl ?_
  refine Om rfl ?_
  refine Oc zpl rfl rfl rfl (zhH he hg (zcS s) ha0 hl1) ?_
  rintro v24 w24 ⟨rfl, c24⟩
  refine Om rfl (Oe rfl rfl (Oe rfl rfl (Oa rfl (Oa rfl (E1 7 rfl (Sr (Om rfl (Oa rfl (Oa rfl (E2 4 5 rfl (zi ?_)))))))))))
  refine zaM rfl rfl rfl ?_
  rw [if_pos he, he]
  exact ⟨rfl, c11.trans c24⟩
 refine Sr (Om rfl ?_)
 refine Og (zbX zaY rfl i11.notNil) rfl ?_
 refine E4 0 1 6 13 rfl (zd rfl (Sr (Om rfl ?_)))
 refine Oc zkS rfl rfl rfl (zeK _ _ _ (hE.chg0 c11) (.inr i11)) ?_
 rintro v15 w15 ⟨rfl, c15⟩
 refine Oa rfl (Oa rfl (E2 4 5 rfl (zi ?_)))
 repeat first | refine tr ?_ | refine br ?_
 refine zaM rfl rfl rfl ?_
 rw [if_neg he]
 exact ⟨rfl, c11.trans c15⟩
theorem zkO (w : World) (h : yz w t pm c k u sv xs s main subs) (ht : zbR s rows main subs) :
 z9 TP 15 #[Pt t] w fun r w' => r = Ii rows.length ∧ w' = w := by
 refine A1 Tryz.func15 rfl rfl ?_
 refine Sr (Oa rfl (E1 0 rfl (ze (Sr (Om rfl ?_)))))
 refine Og (zbd zik rfl rfl) rfl ?_
 refine E2 0 4 rfl (zb rfl (zm (Sr (Om rfl (Og (zE rfl) rfl (Od zgy rfl ?_))))))
 refine Ol zhB rfl (h.blk.cell' rfl) ?_
 refine Oc zxt rfl rfl rfl (f13 pm main _ h.pg ht.wf.le (by have := ht.le; omega)) ?_
 rintro v9 w9 ⟨rfl, rfl⟩
 refine Oa rfl (E1 2 rfl (zi ?_))
 refine zD rfl rfl ?_
 rw [ht.flat, List.length_map]
 exact ⟨rfl, rfl⟩
end
section
variable {t pm : Nat} {c k u sv : Value} {xs : List (Value × Nat)} {s : yn} {main : LE} {subs : List (LE)} {rows : LV}
set_option maxHeartbeats 400000 in
theorem zhw (key : ByteArray) (row : List zP) (w : World) (h : yz w t pm c k u sv xs s main subs) (ht : zbR s rows main subs) (hr : zb7 s rows key = some row) :
 z9 TP 51 #[Pt t, .string key] w fun o w' => zaT w' o row ∧ (∀ b ∈ zn o, w.heap.size ≤ b) ∧ yz w' t pm c k u sv xs s (zcE main (z0 s row)) (zeG row (zG s) subs) ∧ zk (pm :: xs.map (·.2)) w w' := by
 obtain ⟨l1, l2⟩ := h.lens
 obtain ⟨psv, csv, rfl, hcsv⟩ := ym.val h.sl
 have hn3 := (zV ht.ok.right).2.1
 have hn4 : (zG s).length ≤ 4 := by simp [zG]; omega
 obtain ⟨hmr, hkr⟩ := zcy hr
 have hf := ht.ok.fit row hmr
 have hg := ht.ok.rng row hmr
 obtain ⟨hrs, hlen, hfit⟩ := zav hf
 have h8 := (zV hrs).1
 refine A2 Tryz.func51 rfl rfl ?_
 refine Sr (Oa rfl (E2 0 1 rfl (Sr (Om rfl (Om rfl ?_)))))
 refine Oc zo5 rfl rfl rfl (zkd key w h ht) ?_
 rintro v14 w14 ⟨o, rfl, io, fo, c14⟩
 refine Om rfl (Oe rfl rfl (Oe rfl rfl (Oa rfl (Oa rfl (E3 0 1 5 rfl ?_)))))
 rw [hr] at io
 have io : zaT w14 o row := io
 have h1 := h.chg0 c14
 refine Sr (Om rfl (Og (zE rfl) rfl (Od zgy rfl ?_)))
 refine Ol zhB rfl (h1.blk.cell' rfl) ?_
 refine Om rfl ?_
 refine Oc zvj rfl rfl rfl (f11 pm main key _ h1.pg ht.wf (by have := ht.le; omega)) ?_
 rintro v22 w22 ⟨rfl, p22, c22⟩
 refine E2 0 5 rfl ?_
 rw [← hkr] at p22
 have h2 := h1.putM c22 p22
 have hc2 : zk (pm :: xs.map (·.2)) w w22 := ((zk.refl _ w).trans c14).trans' c22 (fun y hy => .inl (by simp at hy; simp [hy]))
 have io2 : zaT w22 o row := by
  obtain ⟨vb, hb, _⟩ := h1.pg
  exact ym.chg io c22 (zv.apart io hb rfl)
 refine ze (Sr (Om rfl (Og (zE rfl) rfl (Od zbU rfl ?_))))
 refine Ol zga rfl (h2.blk.cell' rfl) ?_
 refine On zep rfl (Om rfl (E4 5 26 27 28 rfl (zq ?_)))
 refine zY [5, 26, 27, 28] (fun m F wx => ∃ (j : Nat), m = xs.length - j ∧ j ≤ xs.length ∧ F = [(5, o), (26, .slice psv xs.length csv), (27, Ii xs.length), (28, Ii j)] ∧ yz wx t pm c k u (.slice psv xs.length csv) xs s (zcE main (z0 s row)) (zd8 (zgL row) (zG s) subs j) ∧ zaT wx o row ∧ zk (pm :: xs.map (·.2)) w wx) (m := xs.length - 0) ⟨0, rfl, Nat.zero_le _, rfl, by rw [zhq]; exact h2, io2, hc2⟩ ?_
 rintro m F wx ⟨j, rfl, hj, rfl, hx, hvx, hcx⟩
 refine Sr (Og (zz rfl rfl) rfl (E5 5 26 27 28 29 rfl (ze ?_)))
 refine zT rfl (fun hT => ?_) (fun hF => ?_)
 ·refine zm ?_
  have hlt : j < xs.length := by have := of_decide_eq_true hT; omega
  obtain ⟨a, q, st, m, b, off, cap, e1, e2, e3, ha, hq, hsv, hcell, hqm⟩ := hx.at (j := j) (by omega)
  cases hsv
  have hst : st ∈ zG s := List.mem_of_getElem? e2
  have e3' : subs[j]? = some (subs[j]'(by omega)) := by simp [show j < subs.length by omega]
  generalize subs[j]'(by omega) = m' at e3'
  have hmm : m = m' := by
   have := zhG (f := zgL row) e2 e3'
   rw [e3] at this
   cases this; rfl
  subst hmm
  have hsub := zaG.st ht.subs e2 e3'
  refine ze (zq (Sr ?_))
  refine Og (zf zep zbC rfl rfl _ rfl hlt) rfl ?_
  refine Og (zg zgc zbC rfl rfl hcell) rfl ?_
  refine zC (gn rfl) (zI zhI rfl rfl ?_)
  intro b8 w8 e8 n8 c8 k8
  refine zC (gn rfl) (zu zbC rfl rfl rfl rfl k8 (by simp) (by intro u hu; simp at hu; rcases hu with rfl | rfl; exact ya.one1 ha; rfl) ?_)
  intro wA nA cA kA
  refine E5 5 8 26 27 28 rfl ?_
  have kA : zS wA b8 103 [a, Pt q] := kA
  have hcA : zk [] wx wA := c8.own cA (by intro y hy; simp at hy; omega)
  refine Sr ?_
  refine Og (zg zgc zbC rfl rfl (zB.of_blk0 kA)) rfl ?_
  refine Om rfl ?_
  refine Oc zpl rfl rfl rfl (zhH hf hg hst (ya.chg0 ha hcA) (ya.chg0 hvx.arr hcA)) ?_
  rintro v35 w35 ⟨rfl, c35⟩
  refine Om rfl (Oe rfl rfl (Oe rfl rfl (Oa rfl (Oa rfl (E7 5 8 9 10 26 27 28 rfl ?_)))))
  have hcB : zk [] wx w35 := hcA.trans c35
  refine Sr (Om rfl (E7 5 8 9 26 27 28 38 rfl ?_))
  cases hnn : nnS (zJ row st) with
  | false =>
   refine zb rfl (yg (zh (za ?_)))
   refine Og (zH rfl rfl (by omega)) rfl ?_
   refine Om rfl (N4 5 26 27 28 rfl ?_)
   refine ⟨xs.length - (j + 1), by omega, j + 1, rfl, by omega, rfl, ?_, ym.chg0 hvx hcB, hcx.trans hcB⟩
   rw [zih e2 e3' (by unfold zgL; rw [hnn]; rfl)]
   exact hx.chg0 hcB
  | true =>
   refine zd rfl (za (Od zfT rfl ?_))
   refine Ol zhB rfl ((kA.chg0 c35).cell' rfl) ?_
   refine Om rfl ?_
   refine Oc zvj rfl rfl rfl (f11 q m (zb5 (zJ row st)) _ (hq.chg0 hcB) hsub.wf (by have := hsub.le ht.ok; omega)) ?_
   rintro v42 w42 ⟨rfl, p42, c42⟩
   refine N4 5 26 27 28 rfl (zh (za ?_))
   refine Og (zH rfl rfl (by omega)) rfl ?_
   refine Om rfl (N4 5 26 27 28 rfl ?_)
   refine ⟨xs.length - (j + 1), by omega, j + 1, rfl, by omega, rfl, ?_, ?_, (hcx.trans hcB).trans' c42 (fun y hy => .inl (by simp at hy; subst hy; exact List.mem_cons_of_mem _ hqm))⟩
   ·rw [zfA e2 e3', show zgL row st m = zcE m (zb5 (zJ row st)) by unfold zgL; rw [hnn]; rfl]
    exact (hx.chg0 hcB).putS e1 e3 c42 p42
   obtain ⟨vb, hb, _⟩ := hq.chg0 hcB
   exact ym.chg (ym.chg0 hvx hcB) c42 (zv.apart (ym.chg0 hvx hcB) hb rfl)
 refine zN ?_
 repeat first | refine te ?_ | refine bo rfl ?_
 refine zt _ ?_
 have he : xs.length ≤ j := by have := of_decide_eq_false hF; omega
 refine Sr (Om rfl (Oa rfl (E1 4 rfl (zi ?_))))
 refine zD rfl rfl ?_
 rw [zhp, ← zi2 (j := j) (by omega) (by omega)]
 exact ⟨hvx, fo, hx, hcx⟩
end
theorem zfW {w w' : World} {own : List Nat} {e k n : Nat} {v : Value} {xs : List Value} (h : zv w e k v n xs) (hp : ∀ p ∈ own, ∃ p' n c', zS w p 147 [.slice p' n c']) (hne : Nat.beq e 147 = false) (hc : zk own w w') : zv w' e k v n xs :=
 zv.chg h hc fun b hb hm => by
  obtain ⟨_, _, _, hx⟩ := hp b hm
  exact h.apart hx hne b hb (by simp)
theorem Nl.own {w : World} {own : List Nat} (hp : ∀ p ∈ own, ∃ p' n c', zS w p 147 [.slice p' n c']) : Nl w own := fun b hb => by
 obtain ⟨p', n, c', hx⟩ := hp b hb
 exact Nl.one hx (by intro y hy; simp at hy; subst hy; rfl) b (by simp)
theorem Nt.own {w : World} {own : List Nat} {E : Nat} (hp : ∀ p ∈ own, ∃ p' n c', zS w p 147 [.slice p' n c']) (hE : okT E 147 = false) : Nt w E own := fun b hb => by
 obtain ⟨p', n, c', hx⟩ := hp b hb
 exact Nt.one hx hE b (by simp)
theorem zK.own {w w' : World} {own : List Nat} {v : Value} {l : List zP} (h : zK w v l) (hp : ∀ p ∈ own, ∃ p' n c', zS w p 147 [.slice p' n c']) (hc : zk own w w') : zK w' v l := ya.chgC h hc zdX (Nl.own hp)
theorem Pg.sl {w : World} {p : Nat} {ls : LE} (h : Pg w p ls) : ∃ p' n c', zS w p 147 [.slice p' n c'] := by
 obtain ⟨v, hb, us, hs, _⟩ := h
 obtain ⟨p', c', rfl, _⟩ := hs.val
 exact ⟨_, _, _, hb⟩
theorem yS.pages {w : World} {t : Nat} {own : List Nat} {s : yn} {rows : LV} (h : yS w t own s rows) : ∀ p ∈ own, ∃ p' n c', zS w p 147 [.slice p' n c'] := by
 obtain ⟨pm, c, k, u, sv, xs, main, subs, rfl, h2, h3⟩ := h
 have hL : ∀ {ps : List Nat} {ms : List (LE)}, PgL w ps ms → ∀ p ∈ ps, ∃ p' n c', zS w p 147 [.slice p' n c'] := by
  intro ps
  induction ps with
  | nil => intro _ _ p hp; cases hp
  | cons q ps ih =>
   intro ms hm p hp
   cases ms with
   | nil => exact hm.elim
   | cons m ms =>
    rcases List.mem_cons.1 hp with rfl | hp
    ·exact hm.1.sl
    exact ih hm.2 p hp
 intro p hp
 rcases List.mem_cons.1 hp with rfl | hp
 ·exact h2.pg.sl
 exact hL h2.pgs p hp
theorem EOk.tab {w w' : World} {t : Nat} {own : List Nat} {s : yn} {rows : LV} (hE : EOk w) (h : yS w t own s rows) (hc : zk own w w') : EOk w' :=
 hE.chg hc fun hm => by
  obtain ⟨_, _, _, hx⟩ := h.pages 0 hm
  refine hE.ne hx ?_ rfl
  simp [rty]
theorem za3.nil_iff {s : yn} {rows : LV} {row : List zP} {es : List (ByteArray × Value)} (h : za3 s rows row (zG s) es) : es = [] ↔ zan s rows row = [] := by
 constructor
 ·rintro rfl
  cases hg : zan s rows row with
  | nil => rfl
  | cons r l =>
   have := (h.gone (z0 s r)).2 (by rw [hg]; simp)
   simp [zbr] at this
 intro hg
 cases es with
 | nil => rfl
 | cons p l =>
  have := (h.gone p.1).1 (by simp [zbr])
  rw [hg] at this
  simp at this
theorem zk9 {s : yn} {rows : LV} {row : List zP} : zan s rows row = [] ↔ (rows.any fun r => yy s r row) = false := by
 simp [zan]
theorem zj3 (t : Nat) (own : List Nat) (s : yn) (rows : LV) (v : Value) (row : List zP) (w : World) (hE : EOk w) (h : yS w t own s rows) (hl : zK w v row) (hg : ∀ x ∈ row, x.Rng) (hn : row.length ≤ 1048576) :
 z9 TP 47 #[Pt t, v] w fun r w' => zi6 w' r (zb4 s rows row) ∧ yS w' t own s (zcO s rows row) ∧ zk own w w' := by
 have hT := h
 obtain ⟨pm, c, k, u, sv, xs, main, subs, rfl, hm, ht⟩ := h
 refine A2 Tryz.func47 rfl rfl ?_
 refine Sr (Oa rfl (E2 0 1 rfl (ze (Sr (Om rfl (Om rfl ?_))))))
 refine Oc zrp rfl rfl rfl (zjk v row w hE hm ht.ok.right hl hg hn) ?_
 rintro v9 w9 ⟨i9, c9⟩
 refine Oa rfl (E3 0 1 5 rfl ?_)
 have hm1 := hm.chg0 c9
 have hl1 := ya.chg0 hl c9
 rcases i9 with ⟨rfl, he⟩ | ⟨i9, he⟩
 ·refine Sr (Om rfl ?_)
  refine Og (zbX zaY rfl rfl) rfl ?_
  refine E4 0 1 5 11 rfl (zb rfl (zm (ze (Sr (Om rfl (Om rfl ?_))))))
  refine Oc zsE rfl rfl rfl (zfH v row _ hm1 ht he hl1 hg) ?_
  rintro v15 w15 ⟨bm, es, rfl, hbm, kes, _, hck, c15⟩
  refine zC (gn rfl) (zgo zmy rfl kes rfl ?_)
  intro b16 w16 e16 n16 c16 k16
  refine E3 0 1 16 rfl ?_
  have hcA := (c9.trans c15).trans c16
  refine zq ?_
  refine zY [0, 1, 16] (fun m F wx => m = 0 ∧ F = [(0, Pt t), (1, v), (16, Pt b16)] ∧ wx = w16) (m := 0) ⟨rfl, rfl, rfl⟩ ?_
  rintro m F wx ⟨rfl, rfl, rfl⟩
  cases hes : es with
  | nil =>
   have hgn := hck.nil_iff.1 hes
   refine Sr ?_
   refine zC (gn rfl) (zea rfl k16 rfl (fun _ => ?_) (fun p l1 l2 w' h => absurd (hes.symm.trans h) (by simp)))
   skip
   refine Oe rfl rfl (E4 0 1 16 18 rfl (ze (zb rfl ?_)))
   refine zN ?_
   repeat first | refine te ?_ | refine bo rfl ?_
   refine zt _ ?_
   refine ze (ze ?_)
   have hm2 := hm.chg0 hcA
   have hany := zk9.1 hgn
   have htk : zbV s rows row e0 = false := by rw [zie ht.ok]; exact hany
   have eI : zb4 s rows row = if 400 ≤ rows.length then 3 else 0 := by
    unfold zb4
    rw [if_neg (by simp [he]), htk]
    rfl
   rcases Nat.lt_or_ge rows.length 400 with hlt | hge
   ·rw [if_neg (by omega)] at eI
    refine za (Om rfl ?_)
    refine Oc zkB rfl rfl rfl (zkO _ hm2 ht) ?_
    rintro v26 w26 ⟨rfl, rfl⟩
    refine Og (vf (yt rfl rfl) (decide_eq_false (by omega))) rfl ?_
    refine E3 0 1 27 rfl (zb rfl (zm (Sr (Om rfl (Om rfl ?_)))))
    refine Oc ztK rfl rfl rfl (zlQ v row _ (hE.chg0 hcA) hm2 ht he (ya.chg0 hl hcA) hg) ?_
    rintro v33 w33 ⟨m33, c33⟩
    refine zaJ [] (F' := []) rfl (Sr (Oa rfl (E1 4 rfl (zi ?_))))
    refine zD rfl rfl ?_
    have hfree : ∀ r ∈ rows, yy s r row = false := fun r hr => by simpa using List.any_eq_false.1 hany r hr
    unfold zcO
    rw [eI, if_pos rfl]
    exact ⟨.inl ⟨rfl, rfl⟩, ⟨pm, c, k, u, sv, xs, _, _, rfl, m33, ht.come he hg hfree hlt⟩, hcA.any.transS c33⟩
   rw [if_pos hge] at eI
   refine za (Om rfl ?_)
   refine Oc zkB rfl rfl rfl (zkO _ hm2 ht) ?_
   rintro v26 w26 ⟨rfl, rfl⟩
   refine Og (vt (yt rfl rfl) (decide_eq_true (by omega))) rfl ?_
   refine E3 0 1 27 rfl (zd rfl (Sr ?_))
   refine Og (yX zfw rfl) rfl ?_
   refine Og (zZ zkF zkW rfl (vs := [_, _]) rfl (css := [_, _]) ⟨rfl, rfl, trivial⟩ rfl rfl (cs := [_, _]) rfl) rfl ?_
   refine Og (yX zkM rfl) rfl ?_
   refine Oa rfl (E1 4 rfl (zi ?_))
   repeat first | refine tr ?_ | refine br ?_
   refine zD rfl rfl ?_
   unfold zcO
   rw [eI, if_neg (by decide)]
   exact ⟨.inr ⟨.inr (.inr ⟨_, rfl⟩), by decide⟩, hT.chg0 hcA, hcA.any⟩
  | cons p l =>
   have hgn : zan s rows row ≠ [] := fun e => by rw [hck.nil_iff.2 e] at hes; cases hes
   refine Sr ?_
   refine zC (gn rfl) (zea rfl k16 rfl (fun h => absurd (hes.symm.trans h) (by simp)) ?_)
   intro p l1 l2 w17 e17 n17 c17 k17
   refine Oe rfl rfl (E4 0 1 16 18 rfl (ze (zd rfl (zm (zq (Sr ?_))))))
   refine Og (zgp rfl k17) rfl ?_
   refine Oe rfl rfl (Oa rfl (E1 6 rfl (Sr (Om rfl ?_))))
   refine Og (yX zfw rfl) rfl ?_
   refine Og (zZ zkF zkW rfl (vs := [_, _]) rfl (css := [_, _]) ⟨rfl, rfl, trivial⟩ rfl rfl (cs := [_, _]) rfl) rfl ?_
   refine Og (yX zkM rfl) rfl ?_
   refine Oa rfl (E1 4 rfl (zi ?_))
   repeat first | refine tr ?_ | refine br ?_
   refine zD rfl rfl ?_
   have hany : (rows.any fun r => yy s r row) = true := by
    cases ha : rows.any fun r => yy s r row with
    | true => rfl
    | false => exact absurd (zk9.2 ha) hgn
   have eI : zb4 s rows row = 220 := by
    unfold zb4
    rw [if_neg (by simp [he]), if_pos (by rw [zie ht.ok]; exact hany)]
   have hcB : zk [] w w17 := hcA.own c17 (by intro y hy; simp at hy; subst hy; have := (c9.trans c15).size; omega)
   unfold zcO
   rw [eI, if_neg (by decide)]
   exact ⟨.inr ⟨.inr (.inr ⟨_, rfl⟩), by decide⟩, hT.chg0 hcB, hcB.any⟩
 refine Sr (Om rfl ?_)
 refine Og (zbX zaY rfl i9.notNil) rfl ?_
 refine E4 0 1 5 11 rfl (zd rfl (Sr (Om rfl (Oa rfl (E1 4 rfl (zi ?_))))))
 repeat first | refine tr ?_ | refine br ?_
 refine zD rfl rfl ?_
 have e : zb4 s rows row = yT s row := by unfold zb4; rw [if_pos he]
 unfold zcO
 rw [e, if_neg he]
 exact ⟨.inr ⟨i9, he⟩, hT.chg0 c9, c9.any⟩
theorem zkT (t : Nat) (own : List Nat) (s : yn) (rows : LV) (v : Value) (row : List zP) (w : World) (hE : EOk w) (h : yS w t own s rows) (hl : zK w v row) (hg : ∀ x ∈ row, x.Rng) (hn : row.length ≤ 1048576) :
 z9 TP 12 #[Pt t, v] w fun r w' => r = Ii (zb4 s rows row) ∧ yS w' t own s (zcO s rows row) ∧ zk own w w' := by
 refine A2 Tryz.func12 rfl rfl ?_
 refine Sr (Oa rfl (E2 0 1 rfl (Sr (Om rfl (Om rfl ?_)))))
 refine Oc zvn rfl rfl rfl (zj3 t own s rows v row w hE h hl hg hn) ?_
 rintro v7 w7 ⟨i7, t7, c7⟩
 refine Oc zkS rfl rfl rfl (zeK _ _ _ (hE.tab h c7) i7.weak) ?_
 rintro v8 w8 ⟨rfl, c8⟩
 refine Oa rfl (E1 4 rfl (zi ?_))
 refine zD rfl rfl ?_
 exact ⟨rfl, t7.chg0 c8, c7.trans c8⟩
def zk3 (s : yn) (rows : LV) (row : List zP) : Bool := decide (zb4 s rows row = 0)
def zkZ (s : yn) (rows : LV) (row : List zP) : Int := if zb4 s rows row = 220 then 0 else zb4 s rows row
theorem zlw (t : Nat) (own : List Nat) (s : yn) (rows : LV) (v : Value) (row : List zP) (w : World) (hE : EOk w) (h : yS w t own s rows) (hl : zK w v row) (hg : ∀ x ∈ row, x.Rng) (hn : row.length ≤ 1048576) :
 z9 TP 38 #[Pt t, v] w fun r w' => r = .tuple #[.bool (zk3 s rows row), Ii (zkZ s rows row)] ∧ yS w' t own s (zcO s rows row) ∧ zk own w w' := by
 refine A2 Tryz.func38 rfl rfl ?_
 refine Sr (Oa rfl (Oa rfl (E2 0 1 rfl (Sr (Om rfl (Om rfl ?_))))))
 refine Oc zvn rfl rfl rfl (zj3 t own s rows v row w hE h hl hg hn) ?_
 rintro v9 w9 ⟨i9, t9, c9⟩
 refine Oa rfl (E1 6 rfl ?_)
 have hE9 := hE.tab h c9
 unfold zk3 zkZ
 refine ze (ze ?_)
 rcases i9 with ⟨rfl, he⟩ | ⟨i9, he⟩
 ·refine za (Om rfl ?_)
  refine Og (yX zfw rfl) rfl ?_
  refine Oc zqZ rfl rfl rfl (zvI 220 _) ?_
  rintro v12 w12 ⟨rfl, rfl⟩
  refine E2 6 12 rfl (zb rfl (zm (ze ?_)))
  refine zO (fun wz => zk [] w12 wz) mix (by kernel_rfl) (zk.drew _ _) ?_
  refine Tm rfl ?_
  refine Tp (fun _ => zbw zaY rfl rfl) rfl ?_
  refine Tm rfl ?_
  refine Tc zkS rfl rfl rfl (zeK _ _ _ (hE9.chg0 (zk.drew _ _)) (.inl ⟨rfl, rfl⟩)) ?_
  rintro v16 w16 ⟨rfl, c16⟩
  refine ⟨.inl ((zk.drew _ _).trans c16), ?_⟩
  refine Ta rfl (Ta rfl (D2 4 5 rfl (zi ?_)))
  refine zaM rfl rfl rfl ?_
  rw [he]
  exact ⟨rfl, (t9.chg0 (zk.drew _ _)).chg0 c16, (c9.trans (zk.drew _ _)).trans c16⟩
 by_cases h2 : zb4 s rows row = 220
 ·refine za (Om rfl ?_)
  refine Og (yX zfw rfl) rfl ?_
  refine Oc zqZ rfl rfl rfl (zt2 _ _ 220 _ i9) ?_
  rintro v12 w12 ⟨rfl, c12⟩
  refine E2 6 12 rfl ?_
  rw [decide_eq_true h2]
  refine zd rfl (Sr (Oa rfl (Oa rfl (E2 4 5 rfl (zi ?_)))))
  repeat first | refine tr ?_ | refine br ?_
  refine zaM rfl rfl rfl ?_
  rw [if_pos h2, h2]
  exact ⟨rfl, t9.chg0 c12, c9.trans c12⟩
 refine za (Om rfl ?_)
 refine Og (yX zfw rfl) rfl ?_
 refine Oc zqZ rfl rfl rfl (zt2 _ _ 220 _ i9) ?_
 rintro v12 w12 ⟨rfl, c12⟩
 refine E2 6 12 rfl ?_
 rw [decide_eq_false h2]
 refine zb rfl (zm (ze ?_))
 refine zO (fun wz => zk [] w12 wz) mix (by kernel_rfl) (zk.drew _ _) ?_
 refine Tm rfl ?_
 refine Tp (fun _ => zbw zaY rfl i9.notNil) rfl ?_
 refine Tm rfl ?_
 refine Tc zkS rfl rfl rfl (zeK _ _ _ ((hE9.chg0 c12).chg0 (zk.drew _ _)) (.inr ((i9.chg0 c12).chg0 (zk.drew _ _)))) ?_
 rintro v16 w16 ⟨rfl, c16⟩
 refine ⟨.inl ((zk.drew _ _).trans c16), ?_⟩
 refine Ta rfl (Ta rfl (D2 4 5 rfl (zi ?_)))
 refine zaM rfl rfl rfl ?_
 rw [if_neg h2, decide_eq_false he]
 exact ⟨rfl, ((t9.chg0 c12).chg0 (zk.drew _ _)).chg0 c16, ((c9.trans c12).trans (zk.drew _ _)).trans c16⟩
theorem znm {s : yn} {rows : LV} {k : ByteArray} (h : zb7 s rows k = none) : y5 s rows k = rows := by
 unfold y5
 exact List.filter_eq_self.2 fun r hr => by simpa using zj6 h r hr
theorem zpz (t : Nat) (own : List Nat) (s : yn) (rows : LV) (key : ByteArray) (w : World) (h : yS w t own s rows) :
 z9 TP 40 #[Pt t, .string key] w fun r w' => ∃ o, r = .tuple #[o, Ii (zkp s rows key)] ∧ zK w' o ((zb7 s rows key).getD []) ∧ (∀ b ∈ zn o, w.heap.size ≤ b) ∧ yS w' t own s (y5 s rows key) ∧ zk own w w' := by
 have hT := h
 obtain ⟨pm, c, k, u, sv, xs, main, subs, rfl, hm, ht⟩ := h
 refine A2 Tryz.func40 rfl rfl ?_
 refine Sr (Oa rfl (Oa rfl (E2 0 1 rfl (ze (Sr (Om rfl ?_))))))
 refine Og (zbd zik rfl rfl) rfl ?_
 refine E3 0 1 9 rfl (zb rfl (zm (ze (Sr (Om rfl (Om rfl ?_))))))
 refine Oc zo5 rfl rfl rfl (zkd key w hm ht) ?_
 rintro v13 w13 ⟨o13, rfl, i13, f13', c13⟩
 refine Om rfl (Oe rfl rfl (Oe rfl rfl (Oa rfl (Oa rfl (E3 0 1 7 rfl ?_)))))
 unfold zkp
 cases hgr : zb7 s rows key with
 | none =>
  refine Sr (Om rfl (Og (zU rfl) rfl (E3 0 1 17 rfl (zd rfl (Sr (Oa rfl (Oa rfl (E2 4 5 rfl (zi ?_)))))))))
  repeat first | refine tr ?_ | refine br ?_
  refine zaM rfl rfl rfl ?_
  rw [znm hgr]
  exact ⟨_, rfl, ya.nil _ _ _ _, by simp [zn], hT.chg0 c13, c13.any⟩
 | some row =>
  obtain ⟨hr, hk⟩ := zcy hgr
  refine Sr (Om rfl (Og (zU rfl) rfl (E3 0 1 17 rfl (zb rfl (zm (Sr (Om rfl (Om rfl ?_))))))))
  refine Oc zsD rfl rfl rfl (zhw key row _ (hm.chg0 c13) ht hgr) ?_
  rintro v20 w20 ⟨i20, f20', m20, c20⟩
  refine Oa rfl (Oa rfl (E2 4 5 rfl (zi ?_)))
  refine zaM rfl rfl rfl ?_
  have hs := c13.size
  have hL := ht.leave hr
  rw [hk] at hL m20
  exact ⟨_, rfl, i20.arr, fun b hb => by have := f20' b hb; omega, ⟨pm, c, k, u, sv, xs, _, _, rfl, m20, hL⟩, c13.any.transS c20⟩
theorem zi0 {s : yn} {rows : LV} {row : List zP} {key : ByteArray} {es : List (ByteArray × Value)} (h : za3 s rows row (zG s) es) : zbV s rows row key = true ↔ ∃ k ∈ zbr es, k ≠ key := by
 unfold zbV
 rw [List.any_eq_true]
 constructor
 ·rintro ⟨r, hr, hc⟩
  simp only [Bool.and_eq_true, decide_eq_true_eq] at hc
  exact ⟨z0 s r, (h.gone _).2 (List.mem_map.2 ⟨r, zc5.2 ⟨hr, hc.2⟩, rfl⟩), hc.1⟩
 rintro ⟨k, hk, hne⟩
 obtain ⟨r, hr, rfl⟩ := List.mem_map.1 ((h.gone k).1 hk)
 obtain ⟨h1, h2⟩ := zc5.1 hr
 exact ⟨r, h1, by simp [hne, h2]⟩
set_option maxHeartbeats 400000 in
theorem zln (t : Nat) (own : List Nat) (s : yn) (rows : LV) (v : Value) (row : List zP) (key : ByteArray) (w : World) (hE : EOk w) (h : yS w t own s rows) (hl : zK w v row) (hg : ∀ x ∈ row, x.Rng) (hn : row.length ≤ 1048576) :
 z9 TP 39 #[Pt t, .string key, v] w fun r w' => ∃ o, r = .tuple #[o, Ii (zcs s rows key row)] ∧ zK w' o (zfk s rows key row) ∧ (∀ b ∈ zn o, w.heap.size ≤ b) ∧ yS w' t own s (zeq s rows key row) ∧ zk own w w' := by
 have hT := h
 obtain ⟨pm, c, k, u, sv, xs, main, subs, rfl, hm, ht⟩ := h
 refine A3 Tryz.func39 rfl rfl ?_
 refine Sr (Oa rfl (Oa rfl (E3 0 1 2 rfl (ze (Sr (Om rfl (Om rfl ?_)))))))
 refine Oc zrp rfl rfl rfl (zjk v row w hE hm ht.ok.right hl hg hn) ?_
 rintro v15 w15 ⟨i15, c15⟩
 refine Oa rfl (E4 0 1 2 8 rfl ?_)
 rcases i15 with ⟨rfl, he⟩ | ⟨i15, he⟩
 ·refine Sr (Om rfl ?_)
  refine Og (zbX zaY rfl rfl) rfl ?_
  refine E5 0 1 2 8 17 rfl (zb rfl (zm (ze (Sr (Om rfl (Om rfl ?_))))))
  refine Oc zo5 rfl rfl rfl (zkd key _ (hm.chg0 c15) ht) ?_
  rintro v23 w23 ⟨o23, rfl, i23, f23', c23⟩
  refine Om rfl (Oe rfl rfl (Oe rfl rfl (Oa rfl (Oa rfl (E4 0 1 2 10 rfl ?_)))))
  have hc2 := c15.trans c23
  cases hgr : zb7 s rows key with
  | none =>
   refine Sr (Om rfl (Og (zU rfl) rfl (E4 0 1 2 27 rfl (zd rfl (Sr (Om rfl ?_))))))
   refine Og (yX zfw rfl) rfl ?_
   refine Og (zZ zkF zkW rfl (vs := [_, _]) rfl (css := [_, _]) ⟨rfl, rfl, trivial⟩ rfl rfl (cs := [_, _]) rfl) rfl ?_
   refine Og (yX zkM rfl) rfl ?_
   refine Oc zkS rfl rfl rfl (zeK _ 5 _ (hE.chg0 hc2) (.inr (.inr (.inr ⟨_, rfl⟩)))) ?_
   rintro v32 w32 ⟨rfl, c32⟩
   refine Oa rfl (Oa rfl (E2 6 7 rfl (zi ?_)))
   repeat first | refine tr ?_ | refine br ?_
   refine zaM rfl rfl rfl ?_
   have eU : zcs s rows key row = 5 := by unfold zcs; rw [if_neg (by simp [he]), hgr]; rfl
   unfold zfk zeq
   rw [eU, if_neg (by decide), if_neg (by decide)]
   exact ⟨_, rfl, ya.nil _ _ _ _, by simp [zn], hT.chg0 (hc2.trans c32), (hc2.trans c32).any⟩
  | some old =>
   refine Sr (Om rfl (Og (zU rfl) rfl (E4 0 1 2 27 rfl (zb rfl (zm (ze (Sr (Om rfl (Om rfl ?_)))))))))
   refine Oc zsE rfl rfl rfl (zfH v row _ (hm.chg0 hc2) ht he (ya.chg0 hl hc2) hg) ?_
   rintro v35 w35 ⟨bm, es, rfl, hbm, kes, _, hck, c35⟩
   refine zC (gn rfl) (zgo zmy rfl kes rfl ?_)
   intro b36 w36 e36 n36 c36 k36
   refine E4 0 1 2 36 rfl ?_
   have hcA := (hc2.trans c35).trans c36
   refine zq ?_
   refine zY [0, 1, 2, 36] (fun m F wx => ∃ (left : List (ByteArray × Value)) (last : Option (ByteArray × Value)), m = left.length ∧ F = [(0, Pt t), (1, .string key), (2, v), (36, Pt b36)] ∧ zhx zh4 wx b36 bm es left last ∧ (∀ p ∈ es, p ∉ left → p.1 = key) ∧ zk [b36] w36 wx) (m := es.length) ⟨es, none, rfl, rfl, k36, fun p h1 h2 => absurd h1 h2, zk.refl _ _⟩ ?_
   rintro m F wx ⟨left, last, rfl, rfl, hit, hvis, hcx⟩
   have hs36 := (hc2.trans c35).size
   have hcw : zk [] w wx := hcA.own hcx (by intro y hy; simp at hy; subst hy; omega)
   cases hleft : left with
   | nil =>
    refine Sr ?_
    refine zC (gn rfl) (zea rfl hit rfl (fun _ => ?_) (fun p l1 l2 w' h => absurd (hleft.symm.trans h) (by simp)))
    skip
    refine Oe rfl rfl (E5 0 1 2 36 38 rfl (ze (zb rfl ?_)))
    refine zN ?_
    repeat first | refine te ?_ | refine bo rfl ?_
    refine zt _ ?_
    have htk : zbV s rows row key = false := by
     cases hx : zbV s rows row key with
     | false => rfl
     | true =>
      obtain ⟨k', hk', hne⟩ := (zi0 hck).1 hx
      obtain ⟨p, hp, rfl⟩ := List.mem_map.1 hk'
      exact absurd (hvis p hp (by rw [hleft]; simp)) hne
    have eU : zcs s rows key row = 0 := by unfold zcs; rw [if_neg (by simp [he]), hgr, htk]; rfl
    obtain ⟨_, _, hfree, hlt⟩ := zpi ht.ok eU
    obtain ⟨hro, hko⟩ := zcy hgr
    have hL := ht.leave hro
    rw [hko] at hL
    refine Sr (Om rfl (Om rfl ?_))
    refine Oc zsD rfl rfl rfl (zhw key old _ (hm.chg0 hcw) ht hgr) ?_
    rintro v51 w51 ⟨i51, f51', m51, c51⟩
    refine Oa rfl (E3 0 2 12 rfl ?_)
    rw [hko] at m51
    have hEx := hE.chg0 hcw
    have hTx := hT.chg0 hcw
    have hE51 := hEx.tab hTx c51
    have hl51 : zK w51 v row := zK.own (ya.chg0 hl hcw) hTx.pages c51
    refine Sr (Om rfl (Om rfl ?_))
    refine Oc ztK rfl rfl rfl (zlQ v row _ hE51 m51 hL he hl51 hg) ?_
    rintro v54 w54 ⟨m54, c54⟩
    refine E1 12 rfl (Sr (Om rfl (Oa rfl (Oa rfl (E2 6 7 rfl (zi ?_))))))
    refine zaM rfl rfl rfl ?_
    have hT51 : yS w51 t (pm :: xs.map (·.2)) s (y5 s rows key) := ⟨pm, c, k, u, sv, xs, _, _, rfl, m51, hL⟩
    unfold zfk zeq
    rw [eU, if_pos rfl, if_pos rfl, hgr]
    have hsx := hcw.size
    exact ⟨_, rfl, ym.arr (zfW i51 hT51.pages rfl c54), fun b hb => by have := f51' b hb; omega, ⟨pm, c, k, u, sv, xs, _, _, rfl, m54, hL.come he hg hfree hlt⟩, (hcw.any.transS c51).trans' c54 (fun _ h => .inl h)⟩
   | cons p l =>
    refine Sr ?_
    refine zC (gn rfl) (zea rfl hit rfl (fun h => absurd (hleft.symm.trans h) (by simp)) ?_)
    intro p l1 l2 w37 e37 n37 c37 k37
    refine Oe rfl rfl (E5 0 1 2 36 38 rfl (ze (zd rfl (zm (zq (Sr ?_))))))
    refine Og (zgp rfl k37) rfl ?_
    refine Oe rfl rfl (Oa rfl (E5 0 1 2 11 36 rfl (ze ?_)))
    have hpe : p ∈ es := by
     obtain ⟨_, _, _, _, _, _, _, hsub, _⟩ := hit
     exact hsub p (by rw [e37]; simp)
    by_cases hpk : p.1 = key
    ·refine za (Om rfl (Om rfl ?_))
     refine Og (vf (zdY rfl rfl) (by simp [hpk])) rfl ?_
     refine E6 0 1 2 11 36 43 rfl (zb rfl (yg (zh ?_)))
     refine ⟨(l1 ++ l2).length, by rw [← hleft, e37]; simp, l1 ++ l2, some p, rfl, rfl, k37, fun p' h1 h2 => ?_, hcx.transS c37⟩
     by_cases hin : p' ∈ left
     ·rw [e37] at hin
      rcases List.mem_append.1 hin with hin | hin
      ·exact absurd (List.mem_append_left _ hin) h2
      rcases List.mem_cons.1 hin with rfl | hin
      ·exact hpk
      exact absurd (List.mem_append_right _ hin) h2
     exact hvis p' h1 hin
    refine za (Om rfl (Om rfl ?_))
    refine Og (vt (zdY rfl rfl) (by simp [hpk])) rfl ?_
    refine E6 0 1 2 11 36 43 rfl (zd rfl (ze ?_))
    have hcB : zk [] w w37 := hcw.own c37 (by intro y hy; simp at hy; subst hy; omega)
    refine za (Om rfl ?_)
    refine Og (yX zfw rfl) rfl ?_
    refine Og (zZ zkF zkW rfl (vs := [_, _]) rfl (css := [_, _]) ⟨rfl, rfl, trivial⟩ rfl rfl (cs := [_, _]) rfl) rfl ?_
    refine Og (yX zkM rfl) rfl ?_
    refine Oc zkS rfl rfl rfl (zeK _ 220 _ (hE.chg0 hcB) (.inr (.inr (.inr ⟨_, rfl⟩)))) ?_
    rintro v48 w48 ⟨rfl, c48⟩
    refine Oa rfl (Oa rfl (E2 6 7 rfl (zi ?_)))
    repeat first | refine tr ?_ | refine br ?_
    refine zaM rfl rfl rfl ?_
    have htk : zbV s rows row key = true := (zi0 hck).2 ⟨p.1, List.mem_map.2 ⟨p, hpe, rfl⟩, hpk⟩
    have eU : zcs s rows key row = 220 := by unfold zcs; rw [if_neg (by simp [he]), hgr, htk]; rfl
    unfold zfk zeq
    rw [eU, if_neg (by decide), if_neg (by decide)]
    exact ⟨_, rfl, ya.nil _ _ _ _, by simp [zn], hT.chg0 (hcB.trans c48), (hcB.trans c48).any⟩
 refine Sr (Om rfl ?_)
 refine Og (zbX zaY rfl i15.notNil) rfl ?_
 refine E5 0 1 2 8 17 rfl (zd rfl (Sr (Om rfl ?_)))
 refine Oc zkS rfl rfl rfl (zeK _ _ _ (hE.chg0 c15) (.inr i15)) ?_
 rintro v19 w19 ⟨rfl, c19⟩
 refine Oa rfl (Oa rfl (E2 6 7 rfl (zi ?_)))
 repeat first | refine tr ?_ | refine br ?_
 refine zaM rfl rfl rfl ?_
 have eU : zcs s rows key row = yT s row := by unfold zcs; rw [if_pos he]
 unfold zfk zeq
 rw [eU, if_neg he, if_neg he]
 exact ⟨_, rfl, ya.nil _ _ _ _, by simp [zn], hT.chg0 (c15.trans c19), (c15.trans c19).any⟩
def zek (m : List ByteArray) (i j : Nat) : Prop := ∀ p q x y, p < q → q < i → q ≠ j → m[p]? = some x → m[q]? = some y → blt y x = false
theorem zek.one (m : List ByteArray) (j : Nat) : zek m 1 j := fun p q _ _ h1 h2 => by omega
theorem zek.next {m : List ByteArray} {i : Nat} (h : zek m i i) : zek m (i + 1) i := fun p q x y h1 h2 h3 => h p q x y h1 (by omega) (by omega)
theorem zek.done {m : List ByteArray} {i j : Nat} (h : zek m i j) (hj : ∀ x y, j ≠ 0 → m[j - 1]? = some x → m[j]? = some y → blt y x = false) (hl : i ≤ m.length) : zek m i i := by
 intro p q x y h1 h2 _ hx hy
 by_cases hq : q = j
 ·subst hq
  by_cases hp : p = q - 1
  ·subst hp
   exact hj x y (by omega) hx hy
  have hz : m[q - 1]? = some (m[q - 1]'(by omega)) := by simp
  have e1 := h p (q - 1) x _ (by omega) (by omega) (by omega) hx hz
  have e2 := hj _ y (by omega) hz hy
  cases hb : blt y x with
  | false => rfl
  | true =>
   have := zgu hb e1
   rw [this] at e2; cases e2
 exact h p q x y h1 h2 hq hx hy
def swB (m : List ByteArray) (j : Nat) (a b : ByteArray) : List ByteArray := (m.set j a).set (j - 1) b
theorem zs6 {m : List ByteArray} {j : Nat} {a b : ByteArray} (h0 : j ≠ 0) (ha : m[j - 1]? = some a) (hb : m[j]? = some b) (q : Nat) :
 (swB m j a b)[q]? = if q = j - 1 then some b else if q = j then some a else m[q]? := by
 have l1 := (List.getElem?_eq_some_iff.1 ha).1
 have l2 := (List.getElem?_eq_some_iff.1 hb).1
 unfold swB
 rw [List.getElem?_set, List.getElem?_set]
 by_cases h1 : q = j - 1
 ·subst h1; simp; omega
 rw [if_neg (by omega), if_neg h1]
 by_cases h2 : q = j
 ·subst h2; simp; omega
 rw [if_neg (by omega), if_neg h2]
theorem zpM {m : List ByteArray} {j : Nat} {a b : ByteArray} (ha : m[j - 1]? = some a) (hb : m[j]? = some b) : (swB m j a b).Perm m := by
 obtain ⟨l1, rfl⟩ := List.getElem?_eq_some_iff.1 ha
 obtain ⟨l2, rfl⟩ := List.getElem?_eq_some_iff.1 hb
 exact List.set_set_perm l2 l1
theorem zek.step {m : List ByteArray} {i j : Nat} {a b : ByteArray} (h : zek m i j) (h0 : j ≠ 0) (hj : j < i) (ha : m[j - 1]? = some a) (hb : m[j]? = some b) (hlt : blt b a = true) : zek (swB m j a b) i (j - 1) := by
 intro p q x y h1 h2 h3 hx hy
 rw [zs6 h0 ha hb] at hx hy
 rw [if_neg h3] at hy
 by_cases hq : q = j
 ·subst hq
  rw [if_pos rfl] at hy
  cases hy
  by_cases hp : p = q - 1
  ·rw [if_pos hp] at hx
   cases hx
   exact zdq hlt
  rw [if_neg hp, if_neg (by omega)] at hx
  exact h p (q - 1) x _ (by omega) (by omega) (by omega) hx ha
 rw [if_neg hq] at hy
 by_cases hp : p = j - 1
 ·rw [if_pos hp] at hx
  cases hx
  exact h j q _ y (by omega) h2 hq hb hy
 rw [if_neg hp] at hx
 by_cases hp2 : p = j
 ·rw [if_pos hp2] at hx
  cases hx
  exact h (j - 1) q _ y (by omega) h2 hq ha hy
 rw [if_neg hp2] at hx
 exact h p q x y h1 h2 hq hx hy
theorem zek.pair {m : List ByteArray} (h : zek m m.length m.length) (hn : m.Nodup) : m.Pairwise fun a b => blt a b = true := by
 rw [List.pairwise_iff_getElem]
 intro p q hp hq hpq
 have h1 := h p q m[p] m[q] hpq hq (by omega) (by simp [hp]) (by simp [hq])
 cases hb : blt m[p] m[q] with
 | true => rfl
 | false =>
  have := zd3 hb h1
  exact absurd this (List.pairwise_iff_getElem.1 hn p q hp hq hpq)
theorem zjZ {s : yn} {rows : LV} (h : yZ s rows) {row : List zP} {es : List (ByteArray × Value)} (hc : za3 s rows row (zG s) es) {l : List ByteArray} (hp : l.Perm (zbr es)) (hs : l.Pairwise fun a b => blt a b = true) : l = (zan s rows row).map (z0 s) :=
 zkl hs (zow h row) fun x => hp.mem_iff.trans (hc.gone x)
theorem zuv (s : ByteArray) (w : World) : z9 TP 260 #[.string s] w fun r w' => r = .bool false ∧ w' = w := by
 refine A1 Tryz.func260 rfl rfl ?_
 refine Sr (Oa rfl (E1 0 rfl (Sr (Om rfl (Om rfl ?_)))))
 refine Og (vf (zdY rfl rfl) (by simp)) rfl ?_
 refine Oa rfl (E1 2 rfl (zi ?_))
 refine zD rfl rfl ?_
 exact ⟨rfl, rfl⟩
theorem zp7 (s u : ByteArray) (w : World) : z9 TP 223 #[.string s, .string u] w fun r w' => r = .bool (blt s u) ∧ w' = w := by
 refine A2 Tryz.func223 rfl rfl ?_
 refine Sr (Oa rfl (E2 0 1 rfl (Sr (Om rfl ?_))))
 refine Oc zuM rfl rfl rfl (zuv s w) ?_
 rintro v6 w6 ⟨rfl, rfl⟩
 refine Om rfl (Oz rfl rfl (Oz rfl rfl (Oz rfl rfl (Of rfl (Om rfl (Oj rfl rfl (Oj rfl rfl ?_)))))))
 refine Oy rfl rfl (zjJ rfl rfl) ?_
 refine Of rfl (Oa rfl (E1 4 rfl (zi ?_)))
 refine zD rfl rfl ?_
 exact ⟨rfl, rfl⟩
def sv (l : List ByteArray) : List Value := l.map .string
theorem zrH {l : List ByteArray} {pr tail : List Value} {i : Nat} {a : ByteArray} (h : l[i]? = some a) : (pr ++ (sv l ++ tail))[pr.length + i * 1]? = some (.string a) := by
 have h1 := (List.getElem?_eq_some_iff.1 h).1
 rw [List.getElem?_append_right (by omega), Nat.add_sub_cancel_left, Nat.mul_one, List.getElem?_append_left (by simpa [sv] using h1), sv, List.getElem?_map, h]
 rfl
theorem zmr {l : List ByteArray} {pr tail : List Value} {i : Nat} {a : ByteArray} (h : i < l.length) : yW (pr ++ (sv l ++ tail)) (pr.length + i * 1) [.string a] = pr ++ (sv (l.set i a) ++ tail) := by
 have h1 : i < (sv l).length := by simpa [sv] using h
 rw [Nat.mul_one]
 have e : yW (pr ++ (sv l ++ tail)) (pr.length + i) [.string a] = (pr ++ (sv l ++ tail)).set (pr.length + i) (.string a) := by
  rw [List.set_eq_take_append_cons_drop, if_pos (by rw [List.length_append, List.length_append]; omega)]
  simp [yW]
 rw [e, List.set_append_right _ _ (by omega), Nat.add_sub_cancel_left, List.set_append_left _ _ h1]
 simp [sv, List.map_set]
theorem zot (b cap : Nat) (l : List ByteArray) (pr tail : List Value) (w : World) (hb : zS w b 9 (pr ++ (sv l ++ tail))) (h1 : 1 ≤ l.length) (hn : l.length ≤ 1048576) :
 z9 TP 217 #[.slice (some ⟨b, pr.length, none⟩) l.length cap, Ii 0, Ii l.length] w fun _ w' => ∃ l', zS w' b 9 (pr ++ (sv l' ++ tail)) ∧ l'.Perm l ∧ zek l' l'.length l'.length ∧ zk [b] w w' := by
 refine A3 Tryz.func217 rfl rfl ?_
 refine Sr (Om rfl ?_)
 refine Og (yG (v' := Ii ((1 : Nat) : Int)) (zH rfl rfl (by omega)) (by congr 1)) rfl ?_
 refine Oa rfl (E4 0 1 2 6 rfl (zq ?_))
 refine zY [0, 1, 2, 6] (fun m F wx => ∃ (i : Nat) (x : List ByteArray), m = l.length - i ∧ 1 ≤ i ∧ i ≤ l.length ∧ F = [(0, .slice (some ⟨b, pr.length, none⟩) l.length cap), (1, Ii 0), (2, Ii l.length), (6, Ii i)] ∧ zS wx b 9 (pr ++ (sv x ++ tail)) ∧ x.Perm l ∧ zek x i i ∧ zk [b] w wx) (m := l.length - 1) ⟨1, l, rfl, Nat.le_refl _, h1, rfl, hb, List.Perm.refl _, zek.one _ _, zk.refl _ _⟩ ?_
 rintro m F wx ⟨i, x, rfl, hi1, hi, rfl, hbx, hp, hs, hcx⟩
 have hxl := hp.length_eq
 refine ze (Sr (Om rfl (Om rfl (Og (zz rfl rfl) rfl (E5 0 1 2 6 12 rfl ?_)))))
 refine zT rfl (fun hT => ?_) (fun hF => ?_)
 ·refine zm ?_
  have hlt : i < l.length := by have := of_decide_eq_true hT; omega
  refine ze (zq (Sr (Om rfl (Oa rfl (E5 0 1 2 6 7 rfl (zq ?_))))))
  refine zY [0, 1, 2, 6, 7] (fun m F wy => ∃ (j : Nat) (y : List ByteArray), m = j ∧ j ≤ i ∧ F = [(0, .slice (some ⟨b, pr.length, none⟩) l.length cap), (1, Ii 0), (2, Ii l.length), (6, Ii i), (7, Ii j)] ∧ zS wy b 9 (pr ++ (sv y ++ tail)) ∧ y.Perm l ∧ zek y (i + 1) j ∧ zk [b] w wy) (m := i) ⟨i, x, rfl, Nat.le_refl _, rfl, hbx, hp, hs.next, hcx⟩ ?_
  rintro j F wy ⟨j0, y, rfl, hj, rfl, hby, hpy, hsy, hcy⟩
  have hyl := hpy.length_eq
  refine ze (ze ?_)
  by_cases hj0 : j = 0
  ·subst hj0
   refine zO (fun wz => zk [] wy wz) mix (by kernel_rfl) (zk.drew [] _) ?_
   refine Tm rfl (Tm rfl ?_)
   refine Tp (fun _ => vf (yc rfl rfl) (decide_eq_false (by omega))) rfl ?_
   refine Tm rfl (Tz rfl rfl (Tz rfl rfl (Tz rfl rfl (Tz rfl rfl (Tz rfl rfl (Tz rfl rfl (Tz rfl rfl (Tz rfl rfl (Tz rfl rfl (Tz rfl rfl ?_))))))))))
   refine Tp (fun _ => zR rfl rfl) rfl ?_
   refine D6 0 1 2 6 7 30 rfl (zb rfl ?_)
   refine zN ?_
   repeat first | refine te ?_ | refine bo rfl ?_
   refine zt _ ?_
   refine zh (za (Om rfl ?_))
   refine Og (yG (v' := Ii ((i + 1 : Nat) : Int)) (zH rfl rfl (by omega)) (by congr 1)) rfl ?_
   refine Oa rfl (N4 0 1 2 6 rfl ?_)
   exact ⟨l.length - (i + 1), by omega, i + 1, y, rfl, by omega, by omega, rfl, hby.chg0 (zk.drew [] _), hpy, hsy.done (fun _ _ h => absurd rfl h) (by omega), hcy.trans (zk.drew [] _)⟩
  have hya : y[j - 1]? = some (y[j - 1]'(by omega)) := by simp
  have hyb : y[j]? = some (y[j]'(by omega)) := by simp
  generalize y[j - 1]'(by omega) = a at hya
  generalize y[j]'(by omega) = c at hyb
  have hca : (pr ++ (sv y ++ tail))[pr.length + (j - 1) * 1]? = some (.string a) := zrH hya
  have hcb : (pr ++ (sv y ++ tail))[pr.length + j * 1]? = some (.string c) := zrH hyb
  cases hlt2 : blt c a with
  | false =>
   refine zO (fun wz => zk [] wy wz) mix (by kernel_rfl) (zk.drew [] _) ?_
   refine Tm rfl (Tm rfl ?_)
   refine Tp (fun _ => vt (yc rfl rfl) (decide_eq_true (by omega))) rfl ?_
   refine Tm rfl (Tq rfl rfl rfl (Tq rfl rfl rfl ?_))
   refine Tg rfl rfl (fun _ => zf zcU sz9 rfl rfl _ rfl (show j < l.length by omega)) rfl ?_
   refine Ts rfl rfl (fun wz hz => zj ag9 rfl ((hby.chg0 hz).cell' hcb)) rfl ?_
   refine Tq rfl rfl rfl (Tq rfl rfl rfl ?_)
   refine Tg rfl rfl (fun _ => yG (v' := Ii ((j - 1 : Nat) : Int)) (yJ rfl rfl (by omega)) (by congr 1 <;> omega)) rfl ?_
   refine Tg rfl rfl (fun _ => zf zcU sz9 rfl rfl _ rfl (show j - 1 < l.length by omega)) rfl ?_
   refine Ts rfl rfl (fun wz hz => zj ag9 rfl ((hby.chg0 hz).cell' hca)) rfl ?_
   refine Tv rfl rfl zsf rfl rfl rfl (zp7 c a _) ?_
   rintro v29 w29 ⟨rfl, rfl⟩
   refine ⟨.inl (zk.drew [] _), ?_⟩
   refine Tp (fun _ => zL rfl rfl) rfl ?_
   refine D6 0 1 2 6 7 30 rfl ?_
   rw [hlt2]
   refine zb rfl ?_
   refine zN ?_
   repeat first | refine te ?_ | refine bo rfl ?_
   refine zt _ ?_
   refine zh (za (Om rfl ?_))
   refine Og (yG (v' := Ii ((i + 1 : Nat) : Int)) (zH rfl rfl (by omega)) (by congr 1)) rfl ?_
   refine Oa rfl (N4 0 1 2 6 rfl ?_)
   refine ⟨l.length - (i + 1), by omega, i + 1, y, rfl, by omega, by omega, rfl, hby.chg0 (zk.drew [] _), hpy, hsy.done (fun x' y' _ e1 e2 => ?_) (by omega), hcy.trans (zk.drew [] _)⟩
   rw [hya] at e1
   rw [hyb] at e2
   cases e1; cases e2
   exact hlt2
  | true =>
   refine zO (fun wz => zk [] wy wz) mix (by kernel_rfl) (zk.drew [] _) ?_
   refine Tm rfl (Tm rfl ?_)
   refine Tp (fun _ => vt (yc rfl rfl) (decide_eq_true (by omega))) rfl ?_
   refine Tm rfl (Tq rfl rfl rfl (Tq rfl rfl rfl ?_))
   refine Tg rfl rfl (fun _ => zf zcU sz9 rfl rfl _ rfl (show j < l.length by omega)) rfl ?_
   refine Ts rfl rfl (fun wz hz => zj ag9 rfl ((hby.chg0 hz).cell' hcb)) rfl ?_
   refine Tq rfl rfl rfl (Tq rfl rfl rfl ?_)
   refine Tg rfl rfl (fun _ => yG (v' := Ii ((j - 1 : Nat) : Int)) (yJ rfl rfl (by omega)) (by congr 1 <;> omega)) rfl ?_
   refine Tg rfl rfl (fun _ => zf zcU sz9 rfl rfl _ rfl (show j - 1 < l.length by omega)) rfl ?_
   refine Ts rfl rfl (fun wz hz => zj ag9 rfl ((hby.chg0 hz).cell' hca)) rfl ?_
   refine Tv rfl rfl zsf rfl rfl rfl (zp7 c a _) ?_
   rintro v29 w29 ⟨rfl, rfl⟩
   refine ⟨.inl (zk.drew [] _), ?_⟩
   refine Tp (fun _ => zL rfl rfl) rfl ?_
   refine D6 0 1 2 6 7 30 rfl ?_
   rw [hlt2]
   refine zd rfl (zm (ze (zq ?_)))
   have hd : zk [] wy wy.drew.drew := (zk.drew [] _).trans (zk.drew [] _)
   refine zO (fun wz => zk [] wy wz) mix (by kernel_rfl) hd ?_
   refine Tm rfl (Tm rfl (Tm rfl (Tm rfl ?_)))
   refine Tp (fun _ => yG (v' := Ii ((j - 1 : Nat) : Int)) (yJ rfl rfl (by omega)) (by congr 1 <;> omega)) rfl ?_
   refine Tm rfl (Tm rfl ?_)
   refine Tp (fun _ => yG (v' := Ii ((j - 1 : Nat) : Int)) (yJ rfl rfl (by omega)) (by congr 1 <;> omega)) rfl ?_
   refine Tp (fun _ => zf zcU sz9 rfl rfl _ rfl (show j - 1 < l.length by omega)) rfl ?_
   refine Tr (fun wz hz => zj ag9 rfl ((hby.chg0 hz).cell' hca)) rfl ?_
   refine Tm rfl (Tm rfl ?_)
   refine Tp (fun _ => zf zcU sz9 rfl rfl _ rfl (show j < l.length by omega)) rfl ?_
   refine Tr (fun wz hz => zj ag9 rfl ((hby.chg0 hz).cell' hcb)) rfl ?_
   refine Tp (fun _ => zf zcU sz9 rfl rfl _ rfl (show j < l.length by omega)) rfl ?_
   refine zaq rfl (gn rfl) (zu sz9 rfl rfl rfl rfl (hby.chg0 hd) (by simp [sv]; omega) (by simp [Value.oneCell']) ?_)
   intro wA nA cA kA
   refine ⟨.inr (by kernel_rfl), ?_⟩
   refine Tp (fun _ => zf zcU sz9 rfl rfl _ rfl (show j - 1 < l.length by omega)) rfl ?_
   refine zaq rfl (gn rfl) (zu sz9 rfl rfl rfl rfl (zmr (pr := pr) (a := a) (show j < y.length by omega) ▸ kA) (by simp [sv]; omega) (by simp [Value.oneCell']) ?_)
   intro wB nB cB kB
   refine ⟨.inr (by kernel_rfl), ?_⟩
   refine zdU [0, 1, 2, 6, 7] (F' := [(0, _), (1, _), (2, _), (6, _), (7, _)]) rfl ?_
   have kB : zS wB b 9 (pr ++ (sv (swB y j a c) ++ tail)) := by
    have e := zmr (pr := pr) (tail := tail) (l := y.set j a) (i := j - 1) (a := c) (by rw [List.length_set]; omega)
    exact e ▸ kB
   refine zh (za (Om rfl ?_))
   refine Og (yG (v' := Ii ((j - 1 : Nat) : Int)) (yJ rfl rfl (by omega)) (by congr 1 <;> omega)) rfl ?_
   refine Oa rfl (N5 0 1 2 6 7 rfl ?_)
   refine ⟨j - 1, by omega, j - 1, swB y j a c, rfl, by omega, rfl, kB, (zpM hya hyb).trans hpy, hsy.step hj0 (by omega) hya hyb hlt2, ?_⟩
   exact ((hcy.trans hd).transS cA).transS cB
 refine zN ?_
 repeat first | refine te ?_ | refine bo rfl ?_
 refine zt _ ?_
 refine zgi rfl ?_
 have he : i = l.length := by have := of_decide_eq_false hF; omega
 rw [← hxl] at he
 subst he
 exact ⟨x, hbx, hp, hs, hcx⟩
theorem zvQ (b cap : Nat) (l : List ByteArray) (pr tail : List Value) (lim : Int) (w : World) (hb : zS w b 9 (pr ++ (sv l ++ tail))) (h1 : 1 ≤ l.length) (hn : l.length ≤ 12) :
 z9 TP 157 #[.slice (some ⟨b, pr.length, none⟩) l.length cap, Ii 0, Ii l.length, Ii lim] w fun _ w' => ∃ l', zS w' b 9 (pr ++ (sv l' ++ tail)) ∧ l'.Perm l ∧ zek l' l'.length l'.length ∧ zk [b] w w' := by
 refine A4 Tryz.func157 rfl rfl ?_
 refine Sr (Oa rfl (E5 0 1 2 3 8 rfl (Sr (Oa rfl (E6 0 1 2 3 8 9 rfl (zq ?_))))))
 refine zY [0, 1, 2, 3, 8, 9] (fun m F wx => m = 0 ∧ F = [(0, .slice (some ⟨b, pr.length, none⟩) l.length cap), (1, Ii 0), (2, Ii l.length), (3, Ii lim), (8, .bool true), (9, .bool true)] ∧ wx = w) (m := 0) ⟨rfl, rfl, rfl⟩ ?_
 rintro m F wx ⟨rfl, rfl, rfl⟩
 refine zq (Sr (Om rfl (Om rfl ?_)))
 refine Og (yG (v' := Ii ((l.length : Nat) : Int)) (yJ rfl rfl (by omega)) (by congr 1 <;> omega)) rfl ?_
 refine Oa rfl (E7 0 1 2 3 8 9 10 rfl (ze (Sr (Om rfl ?_))))
 refine Og (vt (za2 rfl rfl) (decide_eq_true (by omega))) rfl ?_
 refine E8 0 1 2 3 8 9 10 23 rfl (zd rfl (Sr (Om rfl (Om rfl (Om rfl ?_)))))
 refine Oc zr6 rfl rfl rfl (zot b cap l pr tail _ hb h1 (by omega)) ?_
 rintro v27 w27 hq
 refine zaJ [] (F' := []) rfl (zi ?_)
 repeat first | refine tr ?_ | refine br ?_
 refine zoE rfl ?_
 exact hq
theorem zom (n : Nat) (w : World) (hn : n < 18446744073709551616) : z9 TP 158 #[.int .u64 n] w fun r w' => ∃ i : Int, r = Ii i ∧ w' = w := by
 refine A1 Tryz.func158 rfl rfl ?_
 refine Sr (Oa rfl (E1 0 rfl (ze (zb rfl (zm (Sr (Om rfl ?_)))))))
 refine Oc zrS rfl rfl rfl (zm0 n w hn) ?_
 rintro v7 w7 ⟨L, rfl, _, _, rfl⟩
 refine Oa rfl (E1 2 rfl (zi ?_))
 refine zD rfl rfl ?_
 exact ⟨_, rfl, rfl⟩
theorem ztR (b cap : Nat) (l : List ByteArray) (pr tail : List Value) (w : World) (hb : zS w b 9 (pr ++ (sv l ++ tail))) (h1 : 1 ≤ l.length) (hn : l.length ≤ 12) :
 z9 TP 127 #[.slice (some ⟨b, pr.length, none⟩) l.length cap] w fun _ w' => ∃ l', zS w' b 9 (pr ++ (sv l' ++ tail)) ∧ l'.Perm l ∧ zek l' l'.length l'.length ∧ zk [b] w w' := by
 refine A1 Tryz.func127 rfl rfl ?_
 refine Sr (Om rfl (On zcU rfl (Oa rfl (E2 0 2 rfl (za (Om rfl (Om rfl (Om rfl ?_))))))))
 refine Og (yo zcL zaj rfl (zfb (n := l.length) (by omega))) rfl ?_
 refine Oc zsi rfl rfl rfl (zom l.length w (by omega)) ?_
 rintro v9 w9 ⟨i9, rfl, rfl⟩
 refine Oc zrG rfl rfl rfl (zvQ b cap l pr tail i9 _ hb h1 hn) ?_
 rintro v10 w10 hq
 refine zaw [] (F' := []) rfl ?_
 refine zgi rfl ?_
 exact hq
theorem znv (p : Option Addr) (c : Nat) (w : World) : z9 TP 217 #[.slice p 0 c, Ii 0, Ii 0] w fun _ w' => w' = w := by
 refine A3 Tryz.func217 rfl rfl ?_
 refine Sr (Om rfl ?_)
 refine Og (yG (v' := Ii ((1 : Nat) : Int)) (zH rfl rfl (by omega)) (by congr 1)) rfl ?_
 refine Oa rfl (E4 0 1 2 6 rfl (zq ?_))
 refine zY [0, 1, 2, 6] (fun m F wx => m = 0 ∧ F = [(0, .slice p 0 c), (1, Ii 0), (2, Ii 0), (6, Ii 1)] ∧ wx = w) (m := 0) ⟨rfl, rfl, rfl⟩ ?_
 rintro m F wx ⟨rfl, rfl, rfl⟩
 refine ze (Sr (Om rfl (Om rfl ?_)))
 refine Og (vf (zz rfl rfl) (decide_eq_false (by omega))) rfl ?_
 refine E5 0 1 2 6 12 rfl (zb rfl ?_)
 refine zN ?_
 repeat first | refine te ?_ | refine bo rfl ?_
 refine zt _ ?_
 refine zgi rfl ?_
 rfl
theorem ztW (p : Option Addr) (c : Nat) (lim : Int) (w : World) : z9 TP 157 #[.slice p 0 c, Ii 0, Ii 0, Ii lim] w fun _ w' => w' = w := by
 refine A4 Tryz.func157 rfl rfl ?_
 refine Sr (Oa rfl (E5 0 1 2 3 8 rfl (Sr (Oa rfl (E6 0 1 2 3 8 9 rfl (zq ?_))))))
 refine zY [0, 1, 2, 3, 8, 9] (fun m F wx => m = 0 ∧ F = [(0, .slice p 0 c), (1, Ii 0), (2, Ii 0), (3, Ii lim), (8, .bool true), (9, .bool true)] ∧ wx = w) (m := 0) ⟨rfl, rfl, rfl⟩ ?_
 rintro m F wx ⟨rfl, rfl, rfl⟩
 refine zq (Sr (Om rfl (Om rfl ?_)))
 refine Og (yG (v' := Ii ((0 : Nat) : Int)) (yJ rfl rfl (by omega)) (by congr 1 <;> omega)) rfl ?_
 refine Oa rfl (E7 0 1 2 3 8 9 10 rfl (ze (Sr (Om rfl ?_))))
 refine Og (vt (za2 rfl rfl) (decide_eq_true (by omega))) rfl ?_
 refine E8 0 1 2 3 8 9 10 23 rfl (zd rfl (Sr (Om rfl (Om rfl (Om rfl ?_)))))
 refine Oc zr6 rfl rfl rfl (znv p c _) ?_
 rintro v27 w27 rfl
 refine zaJ [] (F' := []) rfl (zi ?_)
 repeat first | refine tr ?_ | refine br ?_
 refine zoE rfl ?_
 rfl
theorem zml (p : Option Addr) (c : Nat) (w : World) : z9 TP 127 #[.slice p 0 c] w fun _ w' => w' = w := by
 refine A1 Tryz.func127 rfl rfl ?_
 refine Sr (Om rfl (On zcU rfl (Oa rfl (E2 0 2 rfl (za (Om rfl (Om rfl (Om rfl ?_))))))))
 refine Og (yo zcL zaj rfl rfl) rfl ?_
 refine Oc zsi rfl rfl rfl (zom 0 w (by omega)) ?_
 rintro v9 w9 ⟨i9, rfl, rfl⟩
 refine Oc zrG rfl rfl rfl (ztW p c i9 _) ?_
 rintro v10 w10 rfl
 refine zaw [] (F' := []) rfl ?_
 refine zgi rfl ?_
 rfl
theorem zs9 (b : Nat) (w : World) : z9 TP 82 #[.map (some b)] w fun r w' => ∃ b1, r = .func (.func 128) #[] #[Pt b1] ∧ w.heap.size ≤ b1 ∧ zS w' b1 110 [.map (some b)] ∧ zk [] w w' := by
 refine A1 Tryz.func82 rfl rfl ?_
 refine Sr ?_
 refine Ob rfl rfl ?_
 intro b1 w1 e1 n1 c1 k1
 refine Oa rfl (E1 1 rfl (Sr ?_))
 refine Og (zbh rfl rfl) rfl ?_
 refine Oa rfl (E1 2 rfl (zi ?_))
 refine zD rfl rfl ?_
 exact ⟨b1, rfl, by omega, k1, c1⟩
theorem zk.grown1 {w w' : World} {r : Nat} (h : zk [r] w w') : w.grownBy w' (some r) := ⟨h.os, h.tape, h.output, h.size, fun k hk hn => h.block k hk (by simp; intro e; exact hn (by rw [e]))⟩
theorem zhx.kr {K : Type} [DecidableEq K] {κ : zjf K} {S : List Nat} {keep : TypeId → Bool} {B : Nat} {w w' : World} {r b : Nat} {es left : List (K × Value)} {last : Option (K × Value)} (h : zhx κ w r b es left last) (hk : Kr S keep B w w') (hr : B ≤ r) (hb : b < B) (hbS : b ∉ S) : zhx κ w' r b es left last := by
 obtain ⟨a, c, s, h1, h2, h3⟩ := h
 exact ⟨a, c, s, hk.iters r _ hr h1 rfl, (hk.low b hb hbS).trans h2, h3⟩
theorem zhx.walk {K : Type} [DecidableEq K] {κ : zjf K} {w : World} {r b : Nat} {es left : List (K × Value)} {last : Option (K × Value)} (h : zhx κ w r b es left last) : ∃ o : Obj, w.heap[r]? = some o ∧ o.isWalk = true := by
 obtain ⟨a, c, s, h1, _⟩ := h
 exact ⟨_, h1, rfl⟩
theorem zuJ (w : World) (b1 bm : Nat) (es : List (ByteArray × Value)) (S0 : List Nat) (keep : TypeId → Bool) (h1 : zS w b1 110 [.map (some bm)]) (hm : zae zh4 w bm es) (k1 : b1 ∉ S0) (km : bm ∉ S0) :
 znx TP 128 #[Pt b1] (fun k : ByteArray => #[.string k]) S0 keep (fun _ _ => True) (fun xs _ => xs.Perm (zbr es)) (fun _ _ => True) es.length w := by
 intro l J Jx W hcw hJ hJx hY h0
 have hab : ∀ {pre : List ByteArray} {W1 W2 : World}, zk [] W1 W2 → J pre W1 → J pre W2 := fun hc hj => hJ _ _ _ none hj hc.grown0 (fun _ e => by cases e)
 have hkw : Kp S0 w.heap.size w W := ⟨hcw.size, fun k hk _ => hcw.block k hk (by simp)⟩
 refine CallsIn.mono (R := fun e W' => ∃ u, e = .returned u ∧ (fun (_ : Value) W' => (∃ xs : List ByteArray, xs.Perm (zbr es) ∧ J xs W') ∨ (∃ pre, True ∧ Jx pre W')) u W') ?_ (fun e W' ⟨u, he, h⟩ => ⟨⟨u, he⟩, h⟩)
 refine CallsIn.of_WX (args := [_, _]) Tryz.func128 rfl rfl rfl rfl (zhl ?_)
 have h1W := h1.chg0 hcw
 refine Sr ?_
 refine Ol zuj rfl (h1W.cell' rfl) ?_
 refine zC (gn rfl) (zgo zmy rfl (hm.chg0 hcw) rfl ?_)
 intro b5 w5 e5 n5 c5 k5
 refine E2 0 5 rfl (zq ?_)
 have hkw5 : Kp S0 w.heap.size w w5 := ⟨Nat.le_trans hkw.1 c5.size, fun k hk hn => (c5.block k (Nat.lt_of_lt_of_le hk hkw.1) (by simp)).trans (hkw.2 k hk hn)⟩
 refine zY [0, 5] (fun m F wx => ∃ (pre : List ByteArray) (left : List (ByteArray × Value)) (last : Option (ByteArray × Value)), m = left.length ∧ F = [(0, .func (.yield l) #[] #[]), (5, Pt b5)] ∧ zhx zh4 wx b5 bm es left last ∧ Kp S0 w.heap.size w wx ∧ J pre wx ∧ (pre ++ zbr left).Perm (zbr es)) (m := es.length) ⟨[], es, none, rfl, rfl, k5, hkw5, hab c5 h0, by simp⟩ ?_
 rintro m F wx ⟨pre, left, last, rfl, rfl, hit, hkx, hJ0, hper⟩
 have hs1 := hkw.1
 cases hleft : left with
 | nil =>
  refine Sr ?_
  refine zC (gn rfl) (zea rfl hit rfl (fun _ => ?_) (fun p l1 l2 w' h => absurd (hleft.symm.trans h) (by simp)))
  skip
  refine Oe rfl rfl (E3 0 5 7 rfl (ze (zb rfl ?_)))
  refine zN ?_
  repeat first | refine te ?_ | refine bo rfl ?_
  refine zt _ ?_
  refine zgi rfl ?_
  rw [hleft] at hper
  exact .inl ⟨pre, by simpa [zbr] using hper, hJ0⟩
 | cons p0 l0 =>
  refine Sr ?_
  refine zC (gn rfl) (zea rfl hit rfl (fun h => absurd (hleft.symm.trans h) (by simp)) ?_)
  intro p l1 l2 w6 e6 n6 c6 k6
  refine Oe rfl rfl (E3 0 5 7 rfl (ze (zd rfl (zm (zq (Sr ?_))))))
  refine Og (zgp rfl k6) rfl ?_
  refine Oe rfl rfl (Oa rfl (E3 0 3 5 rfl ?_))
  have hJ6 : J pre w6 := hJ _ _ _ (some b5) hJ0 c6.grown1 (fun r e => by cases e; exact ⟨by omega, hit.walk⟩)
  have hk6 : Kp S0 w.heap.size w w6 := ⟨Nat.le_trans hkx.1 c6.size, fun k hk hn => (c6.block k (Nat.lt_of_lt_of_le hk hkx.1) (by simp; omega)).trans (hkx.2 k hk hn)⟩
  have hlen : pre.length + left.length = es.length := by
   have := hper.length_eq
   simpa [zbr] using this
  have hy := hY pre p.1 w6 hJ6 trivial (by rw [← hlen, hleft]; simp)
  refine ze ?_
  refine zfd ?_
  refine Xm rfl (Xm rfl ?_)
  refine zfX (gn rfl) rfl rfl rfl hy ?_
  rintro v12 w12 hR12
  obtain ⟨b12, rfl, hb12⟩ := yb hR12
  refine ⟨_, rfl, ?_⟩
  refine yf (gn rfl) rfl (St.vl (zU rfl) rfl rfl ?_)
  refine za7 [0, 5, 13] (F' := [(0, _), (5, _), (13, _)]) rfl ?_
  rcases hb12 with ⟨rfl, hJ12, hk12⟩ | ⟨rfl, hJ12⟩
  ·refine zb rfl (yg (zh ?_))
   refine ⟨(l1 ++ l2).length, by rw [← hleft, e6]; simp, pre ++ [p.1], l1 ++ l2, some p, rfl, rfl, k6.kr hk12 (by omega) hm.lt km, hk6.trans hk12.kp, hJ12, ?_⟩
   refine List.Perm.trans ?_ hper
   rw [e6, List.append_assoc]
   refine List.Perm.append_left pre ?_
   simp only [zbr, List.map_append, List.map_cons, List.singleton_append]
   exact List.perm_middle.symm
  refine zd rfl (zi ?_)
  repeat first | refine tr ?_ | refine br ?_
  refine zoE rfl ?_
  exact .inr ⟨_, trivial, hJ12⟩
theorem zv.notD {w : World} {e k n D : Nat} {v : Value} {xs : List Value} {x : Option (List Deferred)} (h : zv w e k v n xs) (hD : w.heap[D]? = some (.deferred x)) : ∀ b ∈ zn v, b ∉ [D] := by
 rcases h with ⟨rfl, _, _⟩ | ⟨b, off, cap, cc, rfl, hs⟩
 ·simp [zn]
 intro y hy hm
 simp [zn] at hy
 simp at hm
 have := hs.blk
 rw [← hm, hy, show w.heap[b]? = _ from this] at hD
 cases hD
theorem zo9 (b1 bm : Nat) (es : List (ByteArray × Value)) (w : World) (h1 : zS w b1 110 [.map (some bm)]) (hm : zae zh4 w bm es) (hn : es.length ≤ 1048576) :
 z9 TP 156 #[.slice none 0 0, .func (.func 128) #[] #[Pt b1]] w fun r w' => ∃ l : List ByteArray, l.Perm (zbr es) ∧ zv w' 9 1 r l.length (sv l) ∧ (∀ b ∈ zn r, w.heap.size ≤ b) ∧ zk [] w w' := by
 refine z9.of_WM (args := [_, _]) Tryz.func156 rfl rfl rfl rfl ?_
 refine Sr ?_
 refine Ob rfl rfl ?_
 intro b2 w2 e2 n2 c2 k2
 refine Oa rfl (E2 1 2 rfl ?_)
 have k2 : zS w2 b2 108 [.slice none 0 0] := k2
 have h1lt := h1.lt
 have hmlt := hm.lt
 refine yh (fun F wx => ∃ (D : Nat) (f6 : Value), F = [(1000000, Ii D), (2, Pt b2), (6, f6)] ∧ w.heap.size ≤ D ∧ wx.heap[D]? = some (.deferred (some [])) ∧ ∃ (l : List ByteArray) (u : Value), zS wx b2 108 [u] ∧ l.Perm (zbr es) ∧ zv wx 9 1 u l.length (sv l) ∧ (∀ b ∈ zn u, w.heap.size ≤ b) ∧ zk [] w wx) ?_ ?_
 ·refine Sr (Om rfl (E2 2 6 rfl (zq ?_)))
  refine zhZ (α := ByteArray) (gf := 128) (lb := [Pt b1]) (encs := fun k : ByteArray => #[.string k]) (S0 := [b2]) (keep := fun _ => false) (N := es.length)
   (fun pre W => ∃ u, zS W b2 108 [u] ∧ zv W 9 1 u pre.length (sv pre) ∧ (∀ b ∈ zn u, w2.heap.size ≤ b) ∧ zk [b2] w2 W ∧ w2.heap.size ≤ W.heap.size)
   (fun _ _ _ => False)
   (fun k => [(7, .string k), (2, Pt b2), (6, .func (.func 128) #[] #[Pt b1])])
   (fun k => [(2, Pt b2), (5, .string k), (7, .string k)])
   rfl zwB (zuJ w2 b1 bm es [b2] _ (h1.chg0 c2) (hm.chg0 c2) ?_ ?_) (fun _ => rfl) (fun _ _ _ _ h => h) (fun _ _ _ _ h => h) (fun _ _ _ _ h => h) ?_ (fun _ _ _ _ _ h => h.elim) ?_ (fun _ _ h => h.choose_spec.2.2.2.2) ?_ ?_ ?_ ?_ (fun _ _ _ _ _ _ h => h.elim)
  ·simp; omega
  ·simp; omega
  ·rintro pre W W' hk ⟨u, h1, h2, h4, h5, h6⟩
   exact ⟨u, h1.bk hk, zv.bk h2 hk, h4, h5.bk (Nat.le_refl _) hk, by obtain ⟨T, _, hc⟩ := hk; exact Nat.le_trans h6 hc.size⟩
  ·exact ⟨_, k2, zv.nil _ _ _, by simp [zn], zk.refl _ _, Nat.le_refl _⟩
  ·intro j a ha
   exact ha.vars1 rfl rfl
  ·intro l' j W
   refine yp ?_
   refine yf (gn rfl) rfl (St.vl (zQ rfl) rfl rfl ?_)
   refine zdd [2, 5, 7] (F' := [(2, _), (5, _), (7, _)]) rfl ?_
   exact ⟨rfl, rfl, rfl⟩
  ·rintro l' pre k W ⟨u, hb2, hu, hfu, hcW, hsW⟩ - hlen
   refine zdm ?_
   have hb2lt := hb2.lt
   have hbu : b2 ∉ zn u := fun hm => by have := hfu _ hm; omega
   refine yp ?_
   refine yf (gn rfl) rfl (St.vl (zj zr1 rfl (hb2.cell' rfl)) rfl rfl ?_)
   refine Xm rfl ?_
   refine yf (gn rfl) rfl (zy zsr rfl (vs := [_]) rfl (css := [_]) ⟨rfl, trivial⟩ rfl rfl (cs := [_]) rfl rfl ?_)
   intro b10 w10 e10 n10 c10 k10
   refine yf (gn rfl) rfl (yq zsr zcU rfl rfl (zv.chg0 hu c10) (zv.of_blk (n := 1) k10 rfl (by simp [maxLen]) (by simp [Value.oneCell'])) (by simp only [maxLen]; omega) (by omega) rfl ?_)
   intro v11 w11 i11 c11 o11 z11
   obtain ⟨p11, q11, rfl, _⟩ := id (zv.val i11)
   refine yf (gn rfl) rfl (zu zvx rfl rfl rfl rfl ((hb2.chg0 c10).chg c11 hbu) (by simp) (by simp [Value.oneCell']) ?_)
   intro wA nA cA kA
   refine zdd [2, 7] (F' := [(2, _), (7, _)]) rfl ?_
   have kA : zS wA b2 108 [.slice p11 (pre.length + 1) q11] := kA
   have hu11 := (hb2.chg0 c10).chg c11 hbu
   have hcut : ∀ y ∈ zn u, ∃ e c, zS W y e c := fun y hy => by
    rcases hu with ⟨rfl, _, _⟩ | ⟨b, off, cap, cc, rfl, hs⟩
    ·simp [zn] at hy
    simp [zn] at hy; subst hy; exact ⟨_, _, hs.blk⟩
   have hall : zk (b2 :: zn u) W wA := ((c10.any (S := b2 :: zn u)).transS (c11.weak (by intro y hy; simp [hy]))).transS (cA.weak (by simp))
   have hs10 := c10.size
   refine ⟨KeepsFrom.chg hall ?_, Kr.chg hall (by omega) ?_, _, kA, ?_, yw o11 hfu (by omega), ?_, by have := hall.size; omega⟩
   ·intro y hy
    rcases List.mem_cons.1 hy with rfl | hy
    ·exact ⟨_, _, hb2⟩
    exact hcut y hy
   ·intro y hy
    rcases List.mem_cons.1 hy with rfl | hy
    ·exact ⟨.inl (by simp), _, _, hb2, rfl⟩
    obtain ⟨e, c, hbb⟩ := hcut y hy
    exact ⟨.inr (hfu y hy), e, c, hbb, rfl⟩
   ·have := zv.chg i11 cA (zv.apart i11 hu11 rfl)
    rw [List.length_append]
    simpa [sv] using this
   exact hcW.trans' hall (by
    intro y hy
    rcases List.mem_cons.1 hy with rfl | hy
    ·simp
    exact .inr (hfu y hy))
  rintro D xs W hD hp ⟨u, hb2, hu, hfu, hcW, hsW⟩ hdf
  refine zh ?_
  have hs2 := c2.size
  exact ⟨D, _, rfl, by omega, hdf, xs, u, hb2, hp, hu, fun b hb => by have := hfu b hb; omega, c2.own hcW (by intro y hy; simp at hy; omega)⟩
 rintro F wx ⟨D, f6, rfl, hD, hdf, l, u, hb2, hp, hu, hfu, hcx⟩
 refine Sr ?_
 refine Ol zr1 rfl (hb2.cell' rfl) ?_
 refine Oa rfl (zaJ [4] (F' := [(4, _), (1000000, _)]) rfl (zi ?_))
 refine ztT (D := D) rfl rfl rfl hdf fun w' hcD => ?_
 exact ⟨l, hp, zv.chg hu hcD (hu.notD hdf), hfu, hcx.own hcD (by intro y hy; simp at hy; omega)⟩
theorem znK (b1 bm : Nat) (es : List (ByteArray × Value)) (w : World) (h1 : zS w b1 110 [.map (some bm)]) (hm : zae zh4 w bm es) (hn : es.length ≤ 1048576) :
 z9 TP 126 #[.func (.func 128) #[] #[Pt b1]] w fun r w' => ∃ l : List ByteArray, l.Perm (zbr es) ∧ zv w' 9 1 r l.length (sv l) ∧ (∀ b ∈ zn r, w.heap.size ≤ b) ∧ zk [] w w' := by
 refine A1 Tryz.func126 rfl rfl ?_
 refine Sr (Oa rfl (E1 0 rfl (Sr (Om rfl ?_))))
 refine Oc zww rfl rfl rfl (zo9 b1 bm es w h1 hm hn) ?_
 rintro v4 w4 hq
 refine Oa rfl (E1 2 rfl (zi ?_))
 refine zD rfl rfl ?_
 exact hq
theorem zpX (b1 bm : Nat) (es : List (ByteArray × Value)) (w : World) (h1 : zS w b1 110 [.map (some bm)]) (hm : zae zh4 w bm es) (hn : es.length ≤ 12) (hnd : (zbr es).Nodup) :
 z9 TP 81 #[.func (.func 128) #[] #[Pt b1]] w fun r w' => ∃ l : List ByteArray, l.Perm (zbr es) ∧ (l.Pairwise fun a b => blt a b = true) ∧ zv w' 9 1 r l.length (sv l) ∧ (∀ b ∈ zn r, w.heap.size ≤ b) ∧ zk [] w w' := by
 refine A1 Tryz.func81 rfl rfl ?_
 refine Sr (Oa rfl (E1 0 rfl (Sr (Om rfl ?_))))
 refine Oc zum rfl rfl rfl (znK b1 bm es w h1 hm (by omega)) ?_
 rintro v5 w5 ⟨l, hp, il, fl', c5⟩
 refine Oa rfl (E1 3 rfl ?_)
 have hlen := hp.length_eq
 have hl2 : l.length = es.length := by rw [hlen]; simp [zbr]
 have hln : l.Nodup := hp.nodup_iff.2 hnd
 rcases id il with ⟨rfl, hz, _⟩ | ⟨b, off, cap, cc, rfl, hs⟩
 ·have hl0 : l = [] := List.length_eq_zero_iff.1 hz
  subst hl0
  refine Sr (Om rfl ?_)
  refine Oc zoJ rfl rfl rfl (zml _ _ _) ?_
  rintro v7 w7 rfl
  refine E1 3 rfl (Sr (Om rfl (Oa rfl (E1 2 rfl (zi ?_)))))
  refine zD rfl rfl ?_
  exact ⟨[], hp, List.Pairwise.nil, il, fl', c5⟩
 have e1 : cc = cc.take off ++ (sv l ++ cc.drop (off + l.length)) := by
  have h1 := hs.xs
  rw [Nat.mul_one] at h1
  rw [h1, show cc.drop (off + l.length) = (cc.drop off).drop l.length by rw [List.drop_drop], List.take_append_drop, List.take_append_drop]
 have e2 : (cc.take off).length = off := by rw [List.length_take]; have := hs.fit; omega
 have hb : zS w5 b 9 (cc.take off ++ (sv l ++ cc.drop (off + l.length))) := e1 ▸ hs.blk
 generalize cc.take off = hd at *
 generalize cc.drop (off + l.length) = tail at *
 subst e2
 by_cases hl0 : l.length = 0
 ·have hl0 : l = [] := List.length_eq_zero_iff.1 hl0
  subst hl0
  refine Sr (Om rfl ?_)
  refine Oc zoJ rfl rfl rfl (zml _ _ _) ?_
  rintro v7 w7 rfl
  refine E1 3 rfl (Sr (Om rfl (Oa rfl (E1 2 rfl (zi ?_)))))
  refine zD rfl rfl ?_
  exact ⟨[], hp, List.Pairwise.nil, il, fl', c5⟩
 refine Sr (Om rfl ?_)
 refine Oc zoJ rfl rfl rfl (ztR b cap l hd tail _ hb (by omega) (by omega)) ?_
 rintro v7 w7 ⟨l', kb', hp', hs', c7⟩
 refine E1 3 rfl (Sr (Om rfl (Oa rfl (E1 2 rfl (zi ?_)))))
 refine zD rfl rfl ?_
 have hll := hp'.length_eq
 refine ⟨l', hp'.trans hp, hs'.pair (hp'.nodup_iff.2 hln), .inr ⟨b, hd.length, cap, _, by rw [hll], kb', ?_, hs.max, ?_, ?_, ?_⟩, fl', ?_⟩
 ·rw [hll]; exact hs.le
 ·have := hs.fit
  rw [e1] at this
  simp [sv] at this ⊢
  omega
 ·rw [Nat.mul_one, List.drop_left' rfl, List.take_left' (by simp [sv])]
 ·intro x hx
  have h1 := hs.one
  rw [e1] at h1
  rcases List.mem_append.1 hx with hx | hx
  ·exact h1 x (by simp [hx])
  rcases List.mem_append.1 hx with hx | hx
  ·simp [sv] at hx
   obtain ⟨a, _, rfl⟩ := hx
   rfl
  exact h1 x (by simp [hx])
 exact c5.own c7 (by intro y hy; simp at hy; subst hy; exact fl' _ (by simp [zn]))
theorem zoW (bm : Nat) (es : List (ByteArray × Value)) (w : World) (hm : zae zh4 w bm es) (hn : es.length ≤ 12) (hnd : (zbr es).Nodup) :
 z9 TP 49 #[.map (some bm)] w fun r w' => ∃ l : List ByteArray, l.Perm (zbr es) ∧ (l.Pairwise fun a b => blt a b = true) ∧ zv w' 9 1 r l.length (sv l) ∧ (∀ b ∈ zn r, w.heap.size ≤ b) ∧ zk [] w w' := by
 refine A1 Tryz.func49 rfl rfl ?_
 refine Sr (Oa rfl (E1 0 rfl (Sr (Om rfl ?_))))
 refine Oc zxr rfl rfl rfl (zs9 bm w) ?_
 rintro v4 w4 ⟨b1, rfl, hb1, k1, c4⟩
 refine Oc zxL rfl rfl rfl (zpX b1 bm es _ k1 (hm.chg0 c4) hn hnd) ?_
 rintro v5 w5 ⟨l, hp, hs, il, fl', c5⟩
 refine Oa rfl (E1 2 rfl (zi ?_))
 refine zD rfl rfl ?_
 have hsz := c4.size
 exact ⟨l, hp, hs, il, fun b hb => Nat.le_trans hsz (fl' b hb), c4.trans c5⟩
structure zjp (e : TypeId) : Prop where
 t : Nat.beq 98 e = false
 c : Nat.beq 25 e = false
 i : Nat.beq 3 e = false
 ii : Nat.beq 27 e = false
 p : Nat.beq 147 e = false
 l : Nat.beq 177 e = false
 en : Nat.beq 175 e = false
 s : Nat.beq 103 e = false
theorem Pg.chgB {w w' : World} {p b : Nat} {e : TypeId} {x : List Value} {ls : LE} (h : Pg w p ls) (hb : zS w b e x) (ho : zjp e) (hc : zk [b] w w') : Pg w' p ls :=
 let ⟨v, h1, h2⟩ := h; ⟨v, h1.chg hc (by have := h1.ne hb ho.p; simpa using this), h2.chg1 hb ho.l ho.en hc⟩
theorem PgL.chgB {w w' : World} {b : Nat} {e : TypeId} {x : List Value} (hb : zS w b e x) (ho : zjp e) (hc : zk [b] w w') : ∀ {ps : List Nat} {ms : List (LE)}, PgL w ps ms → PgL w' ps ms
 | [], [], _ => trivial
 | _ :: _, _ :: _, h => ⟨h.1.chgB hb ho hc, PgL.chgB hb ho hc h.2⟩
theorem yz.chgB {w w' : World} {t pm : Nat} {c k u sv : Value} {xs : List (Value × Nat)} {s : yn} {main : LE} {subs : List (LE)} (h : yz w t pm c k u sv xs s main subs) {b : Nat} {e : TypeId} {x : List Value} (hb : zS w b e x) (ho : zjp e) (hc : zk [b] w w') (hs : y4 w' c k u s) : yz w' t pm c k u sv xs s main subs :=
 ⟨h.blk.chg hc (by have := h.blk.ne hb ho.t; simpa using this), hs, h.pg.chgB hb ho hc, ym.chg h.sl hc (zv.apart h.sl hb ho.s), yj.chg hc (h.ats.apart hb ho.i) h.ats, h.pgs.chgB hb ho hc, h.nd⟩
theorem yz.chgSl {w w' : World} {t pm : Nat} {c k u sv : Value} {xs : List (Value × Nat)} {s : yn} {main : LE} {subs : List (LE)} (h : yz w t pm c k u sv xs s main subs) {o : Value} {e : TypeId} {kk n : Nat} {ys : List Value} (hs : zv w e kk o n ys) (ho : zjp e) (hc : zk (zn o) w w') (hsc : y4 w' c k u s) : yz w' t pm c k u sv xs s main subs := by
 rcases hs with ⟨rfl, _, _⟩ | ⟨b, off, cap, cc, rfl, hs⟩
 ·exact h.chg0 hc
 exact h.chgB hs.blk ho hc hsc
theorem zwg : zjp 48 := ⟨rfl, rfl, rfl, rfl, rfl, rfl, rfl, rfl⟩
theorem yS.pg {w : World} {t : Nat} {own : List Nat} {s : yn} {rows : LV} (h : yS w t own s rows) : ∀ p ∈ own, ∃ c, zS w p 147 c := fun p hp => by
 obtain ⟨_, _, _, hx⟩ := h.pages p hp
 exact ⟨_, hx⟩
theorem zcq.tab {w w' : World} {t : Nat} {own : List Nat} {s : yn} {rows : LV} (h : yS w t own s rows) {v : Value} {ls : LV} (hv : zcq w v ls) (hc : zk own w w') : zcq w' v ls := yR.chgS hv hc zdX (Nt.own h.pages rfl) (Nl.own h.pages)
theorem ztA {s : yn} {rows : LV} (h : yZ s rows) {row : List zP} (he : yT s row = 0) : zcm s rows row = if zan s rows row = [] ∧ 400 ≤ rows.length then 3 else 0 := by
 have hl := zdT s row rows
 have hle := h.le
 unfold zcm
 rw [if_neg (by simp [he])]
 by_cases hg : zan s rows row = []
 ·rw [znu hg]
  simp [hg]
 have hpos := List.length_pos_iff.2 hg
 rw [if_neg (by omega), if_neg (by simp [hg])]
set_option maxHeartbeats 1000000 in
theorem zgC (t : Nat) (own : List Nat) (s : yn) (rows : LV) (v : Value) (row : List zP) (w : World) (hE : EOk w) (h : yS w t own s rows) (hl : zK w v row) (hg : ∀ x ∈ row, x.Rng) (hn : row.length ≤ 1048576) :
 z9 TP 14 #[Pt t, v] w fun r w' => ∃ o, r = .tuple #[o, Ii (zcm s rows row)] ∧ zcq w' o (zcB s rows row) ∧ (∀ b ∈ zn o, w.heap.size ≤ b) ∧ yS w' t own s (zdj s rows row) ∧ zk own w w' := by
 have hT := h
 obtain ⟨pm, c, k, u, sv', xs, main, subs, rfl, hm, ht⟩ := h
 refine A2 Tryz.func14 rfl rfl ?_
 refine Sr (Oa rfl (Oa rfl (E3 0 1 4 rfl (ze (Sr (Om rfl (Om rfl ?_)))))))
 refine Oc zrp rfl rfl rfl (zjk v row w hE hm ht.ok.right hl hg hn) ?_
 rintro v13 w13 ⟨i13, c13⟩
 refine Oa rfl (E4 0 1 4 6 rfl ?_)
 rcases i13 with ⟨rfl, he⟩ | ⟨i13, he⟩
 ·refine Sr (Om rfl ?_)
  refine Og (zbX zaY rfl rfl) rfl ?_
  refine E5 0 1 4 6 15 rfl (zb rfl (zm (Sr (Om rfl (Om rfl ?_)))))
  refine Oc zsE rfl rfl rfl (zfH v row _ (hm.chg0 c13) ht he (ya.chg0 hl c13) hg) ?_
  rintro v20 w20 ⟨bm, es, rfl, hbm, kes, he4, hck, c20⟩
  refine Oc zxe rfl rfl rfl (zoW bm es _ kes (by omega) hck.1) ?_
  rintro v21 w21 ⟨ks, hp, hsrt, iks, fks, c21⟩
  refine Oa rfl (E4 0 1 4 7 rfl ?_)
  have hks : ks = (zan s rows row).map (z0 s) := zjZ ht.ok hck hp hsrt
  have hkl : ks.length = (zan s rows row).length := by rw [hks, List.length_map]
  have hk4 : ks.length ≤ 4 := by rw [hp.length_eq]; simpa [zbr] using he4
  obtain ⟨pk, ck, rfl, _⟩ := id (zv.val iks)
  have hcA := (c13.trans c20).trans c21
  have eR := ztA ht.ok he
  refine yh (fun F wx => F = [(0, Pt t), (1, v), (4, .slice none 0 0), (7, .slice pk ks.length ck), (29, .bool false)] ∧ wx = w21 ∧ zcm s rows row = 0) ?_ ?_
  ·refine ze ?_
   by_cases h0 : ks.length = 0
   ·have hg0 : zan s rows row = [] := List.length_eq_zero_iff.1 (by omega)
    rcases Nat.lt_or_ge rows.length 400 with hlt | hge
    ·refine za (Om rfl (On zcU rfl ?_))
     refine Og (vt (zw rfl rfl) (decide_eq_true (by omega))) rfl ?_
     refine Om rfl (Oj rfl rfl ?_)
     refine Ow rfl rfl zkB rfl rfl rfl (zkO _ (hm.chg0 hcA) ht) ?_
     rintro v27 w27 ⟨rfl, rfl⟩
     refine Oy rfl rfl (vf (yt rfl rfl) (decide_eq_false (by omega))) ?_
     refine Ot rfl (E5 0 1 4 7 29 rfl (zb rfl (zm ?_)))
     refine ⟨rfl, rfl, ?_⟩
     rw [eR, if_neg (by omega)]
    refine za (Om rfl (On zcU rfl ?_))
    refine Og (vt (zw rfl rfl) (decide_eq_true (by omega))) rfl ?_
    refine Om rfl (Oj rfl rfl ?_)
    refine Ow rfl rfl zkB rfl rfl rfl (zkO _ (hm.chg0 hcA) ht) ?_
    rintro v27 w27 ⟨rfl, rfl⟩
    refine Oy rfl rfl (vt (yt rfl rfl) (decide_eq_true (by omega))) ?_
    refine Ot rfl (E5 0 1 4 7 29 rfl (zd rfl (Sr (Oa rfl (Oa rfl (E2 4 5 rfl (zi ?_)))))))
    repeat first | refine tr ?_ | refine br ?_
    refine zaM rfl rfl rfl ?_
    have eU : zcm s rows row = 3 := by rw [eR, if_pos ⟨hg0, hge⟩]
    unfold zcB zdj
    rw [eU, if_neg (by decide), if_neg (by decide)]
    exact ⟨_, rfl, yR.nil _ _ _ _ _, by simp [zn], hT.chg0 hcA, hcA.any⟩
   refine za (Om rfl (On zcU rfl ?_))
   refine Og (vf (zw rfl rfl) (decide_eq_false (by omega))) rfl ?_
   refine Om rfl (Oz rfl rfl (Oz rfl rfl (Oz rfl rfl (Of rfl (E5 0 1 4 7 29 rfl (zb rfl (zm ?_)))))))
   refine ⟨rfl, rfl, ?_⟩
   rw [eR, if_neg (fun hh => h0 (by rw [hkl, hh.1]; rfl))]
  rintro F wy ⟨rfl, rfl, eU⟩
  refine Sr (Oa rfl (E5 0 1 4 7 8 rfl (ze (Sr (Om rfl (On zcU rfl (Om rfl (E7 0 1 4 8 30 31 32 rfl ?_))))))))
  have eT : zdj s rows row = zbN s (zcv s rows row) row := by unfold zdj; rw [if_pos eU]
  have eG : zcB s rows row = zan s rows row := by unfold zcB; rw [if_pos eU]
  obtain ⟨hrow, hrl⟩ := zoU eU
  have hgl4 : (zan s rows row).length ≤ 4 := by omega
  have hdr := zlY ht.ok row
  rw [eT, eG]
  generalize hgg : zan s rows row = G at *
  have hGr : ∀ r ∈ G, r ∈ rows := fun r hr => by rw [← hgg] at hr; exact (zc5.1 hr).1
  have hGn : (G.map (z0 s)).Nodup := by rw [← hks]; exact hp.nodup_iff.2 hck.1
  subst hks
  refine zq ?_
  refine zY [0, 1, 4, 8, 30, 31, 32] (fun m F wx => ∃ (j : Nat) (o : Value) (main' : LE) (subs' : List (LE)), m = (G.map (z0 s)).length - j ∧ j ≤ (G.map (z0 s)).length ∧ F = [(0, Pt t), (1, v), (4, o), (8, .func (.func 51) #[] #[]), (30, .slice pk (G.map (z0 s)).length ck), (31, Ii (G.map (z0 s)).length), (32, Ii j)] ∧ yz wx t pm c k u sv' xs s main' subs' ∧ zbR s (dropK s rows ((G.map (z0 s)).take j)) main' subs' ∧ (∃ vs, zv wx 48 1 o (G.take j).length vs ∧ yj wx 40 4 zP.cs vs (G.take j)) ∧ (∀ b ∈ zn o, wy.heap.size ≤ b) ∧ zk (pm :: xs.map (·.2)) wy wx) (m := (G.map (z0 s)).length - 0) ⟨0, _, main, subs, rfl, Nat.zero_le _, rfl, hm.chg0 hcA, by rw [List.take_zero, zn8]; exact ht, ⟨[], zv.nil _ _ _, trivial⟩, by simp [zn], zk.refl _ _⟩ ?_
  rintro m F wx ⟨j, o, main', subs', rfl, hj, rfl, hmx, htx, hox, hfo, hcx0⟩
  have hcx : zk (pm :: xs.map (·.2)) w wx := hcA.any.transS hcx0
  refine Sr (Og (zz rfl rfl) rfl (E8 0 1 4 8 30 31 32 33 rfl (ze ?_)))
  have hTx : yS wx t (pm :: xs.map (·.2)) s (dropK s rows ((G.map (z0 s)).take j)) := ⟨pm, c, k, u, sv', xs, _, _, rfl, hmx, htx⟩
  refine zT rfl (fun hT' => ?_) (fun hF => ?_)
  ·refine zm ?_
   have hlt : j < (G.map (z0 s)).length := by have := of_decide_eq_true hT'; omega
   have hltG : j < G.length := by simpa using hlt
   have hr : G[j]? = some G[j] := by simp [hltG]
   generalize G[j] = r at hr
   have hrG : r ∈ G := List.mem_of_getElem? hr
   have hkj : (G.map (z0 s))[j]? = some (z0 s r) := by rw [List.getElem?_map, hr]; rfl
   have hget : zb7 s (dropK s rows ((G.map (z0 s)).take j)) (z0 s r) = some r := by
    refine (ht.ok.dropK _).get (znl.2 ⟨hGr r hrG, fun hm => ?_⟩)
    obtain ⟨i, hi⟩ := List.getElem?_of_mem hm
    rw [List.getElem?_take] at hi
    split at hi
    ·rename_i hij
     obtain ⟨h1, h2⟩ := List.getElem?_eq_some_iff.1 hi
     obtain ⟨h3, h4⟩ := List.getElem?_eq_some_iff.1 hkj
     exact List.pairwise_iff_getElem.1 hGn i j h1 h3 hij (h2.trans h4.symm)
    cases hi
   have ikx := zfW iks (hT.chg0 hcA).pages rfl hcx0
   obtain ⟨bk, offk, capk, uk, hvk, huk, hcellk⟩ := zv.at1 ikx hlt
   cases hvk
   have huk' : uk = .string (z0 s r) := by
    rw [sv, List.getElem?_map, hkj] at huk
    cases huk; rfl
   subst huk'
   refine ze (zq (Sr ?_))
   refine Og (zf zcU sz9 rfl rfl _ rfl hlt) rfl ?_
   refine Ol ag9 rfl hcellk ?_
   refine Oa rfl (E8 0 1 4 8 10 30 31 32 rfl ?_)
   obtain ⟨vs, hvs, hrs⟩ := hox
   have hlv : (G.take j).length = j := by rw [List.length_take]; omega
   refine za (Om rfl (Om rfl (Om rfl (Om rfl ?_))))
   refine Oc zsD rfl rfl rfl (zhw (z0 s r) r _ hmx htx hget) ?_
   rintro v40 w40 ⟨i40, zrb, m40, c40⟩
   obtain ⟨p40, q40, rfl, -⟩ := id (ym.val i40)
   refine zC (gn rfl) (zy zg7 rfl (vs := [_]) rfl (css := [_]) ⟨rfl, trivial⟩ rfl rfl (cs := [_]) rfl rfl ?_)
   intro b41 w41 e41 n41 c41 k41
   refine zC (gn rfl) (yq zg7 zao rfl rfl (zv.chg0 (zfW hvs hTx.pages rfl c40) c41) (zv.of_blk (n := 1) k41 rfl (by simp [maxLen]) (by intro y hy; simp at hy; subst hy; exact zv.one1 i40)) (by simp only [maxLen]; omega) (by omega) rfl ?_)
   intro v42 w42 i42 c42 o42 z42
   refine Oa rfl ?_
   refine zaw [0, 1, 4, 8, 30, 31, 32] (F' := [(0, _), (1, _), (4, _), (8, _), (30, _), (31, _), (32, _)]) rfl ?_
   refine zh (za ?_)
   refine Og (zH rfl rfl (by omega)) rfl ?_
   refine Om rfl ?_
   refine zaw [0, 1, 4, 8, 30, 31, 32] (F' := [(0, _), (1, _), (4, _), (8, _), (30, _), (31, _), (32, _)]) rfl ?_
   have hL := htx.leave (zcy hget).1
   rw [zmb] at hL
   have hsx := hcx0.size
   have hs40 := c40.size
   have hs41 : w40.heap.size ≤ w41.heap.size := c41.size
   have hvs41 := zv.chg0 (zfW hvs hTx.pages rfl c40) c41
   have hcz : zk (pm :: xs.map (·.2)) wy w42 := ((hcx0.trans' c40 (fun _ h => .inl h)).trans c41).trans' c42 (fun y hy => .inr (hfo y hy))
   have hsc42 : y4 w42 c k u s := y4.chgS (hm.chg0 hcA).sch hcz (Nt.own (hT.chg0 hcA).pages rfl) (Nl.own (hT.chg0 hcA).pages)
   have hmz : yz w42 t pm c k u sv' xs s _ _ := (m40.chg0 c41).chgSl hvs41 zwg c42 hsc42
   refine ⟨(G.map (z0 s)).length - (j + 1), by omega, j + 1, v42, _, _, rfl, by omega, rfl, hmz, ?_, ⟨vs ++ [.slice p40 r.length q40], ?_, ?_⟩, yw o42 hfo (by omega), ?_⟩
   ·rw [yv hkj]; exact hL
   ·rw [yv hr, List.length_append]; exact i42
   ·rw [yv hr]
    have hr42 := yj.chg c42 (yj.apartSl hvs41 rfl ((hrs.tab hTx.pg rfl c40).chg0 c41)) ((hrs.tab hTx.pg rfl c40).chg0 c41)
    refine hr42.append (us := [_]) ⟨?_, trivial⟩
    exact ym.chg (ym.chg0 i40 c41) c42 (zv.apartSl (ym.chg0 i40 c41) hvs41 rfl)
   exact hcz
  refine zN ?_
  repeat first | refine te ?_ | refine bo rfl ?_
  refine zt _ ?_
  have he' : (G.map (z0 s)).length ≤ j := by have := of_decide_eq_false hF; omega
  rw [List.take_of_length_le he', hdr] at htx
  rw [List.take_of_length_le (by simpa using he')] at hox
  have hox : zcq wx o G := let ⟨vs, h1, h2⟩ := hox; ⟨vs, h1.toOu, h2.arr⟩
  have hTx : yS wx t (pm :: xs.map (·.2)) s (zcv s rows row) := ⟨pm, c, k, u, sv', xs, _, _, rfl, hmx, htx⟩
  have hlx : zK wx v row := zK.own hl hT.pages hcx
  refine Sr (Om rfl (Om rfl ?_))
  refine Oc ztK rfl rfl rfl (zlQ v row _ (hE.tab hT hcx) hmx htx he hlx hg) ?_
  rintro v46 w46 ⟨m46, c46⟩
  refine E1 4 rfl (Sr (Om rfl (Oa rfl (Oa rfl (E2 4 5 rfl (zi ?_))))))
  refine zaM rfl rfl rfl ?_
  rw [eU]
  have hsA := hcA.size
  exact ⟨_, rfl, zcq.tab hTx hox c46, fun b hb => Nat.le_trans hsA (hfo b hb), ⟨pm, c, k, u, sv', xs, _, _, rfl, m46, htx.come he hg ziw hrl⟩, hcx.trans' c46 (fun _ h => .inl h)⟩
 refine Sr (Om rfl ?_)
 refine Og (zbX zaY rfl i13.notNil) rfl ?_
 refine E5 0 1 4 6 15 rfl (zd rfl (Sr (Om rfl ?_)))
 refine Oc zkS rfl rfl rfl (zeK _ _ _ (hE.chg0 c13) (.inr i13)) ?_
 rintro v17 w17 ⟨rfl, c17⟩
 refine Oa rfl (Oa rfl (E2 4 5 rfl (zi ?_)))
 repeat first | refine tr ?_ | refine br ?_
 refine zaM rfl rfl rfl ?_
 have eU : zcm s rows row = yT s row := by unfold zcm; rw [if_pos he]
 unfold zcB zdj
 rw [eU, if_neg he, if_neg he]
 exact ⟨_, rfl, yR.nil _ _ _ _ _, by simp [zn], hT.chg0 (c13.trans c17), (c13.trans c17).any⟩
theorem zm8 {s : yn} {rows : LV} {n : Int} {vals : List zP} (h : n < 0 ∨ ((zG s).length : Int) ≤ n) : za6 s rows n vals = none := by
 unfold za6
 rcases h with h | h
 ·rw [if_pos h]
 rw [if_neg (by omega), List.getElem?_eq_none (by omega)]
theorem zhi {s : yn} {rows : LV} {j : Nat} {vals : List zP} {st : List Int} (h : (zG s)[j]? = some st) : za6 s rows j vals = if st.length ≠ vals.length then none else zct rows st vals := by
 unfold za6
 rw [if_neg (by omega), Int.toNat_natCast, h]
 rfl
theorem zdF.tell {s : yn} {rows : LV} (h : yZ s rows) {st : List Int} (hst : st ∈ zG s) {ps : LE} (hs : zdF s rows st ps) {vals : List zP} (hv : ∀ x ∈ vals, x.Rng) :
 zdn ps (if zgl vals = 0 then zb5 vals else e0) = (zct rows st vals).map (z0 s) := by
 by_cases hk : zgl vals = 0
 ·rw [if_pos hk]
  exact hs.get h hst fun x hx => ⟨(zdy (ze3.1 hk x hx)).1, hv x hx⟩
 rw [if_neg hk]
 have h1 : zct rows st vals = none := by
  cases hr : zct rows st vals with
  | none => rfl
  | some r =>
   obtain ⟨g1, _, g3⟩ := zcI hr
   refine absurd (ze3.2 fun x hx => ?_) hk
   rw [← g3] at hx
   exact zfI (h.fit r g1) x (zd4 (h.fit r g1) hst x hx)
 rw [h1]
 refine zjC hs.wf fun v hm => ?_
 obtain ⟨r, hr, _, he, _⟩ := (hs.mem _ _).1 hm
 refine zmS (l := zJ r st) ?_ he.symm
 have := (zam (zbg h.right st hst)).1
 simp [zJ]
 omega
theorem zpJ {rows : LV} {st : List Int} {vals r : List zP} (h : zct rows st vals = some r) : nnS vals = true := by
 obtain ⟨_, g2, g3⟩ := zcI h
 rw [← g3]; exact g2
section
variable {t pm : Nat} {c k u sv : Value} {xs : List (Value × Nat)} {s : yn} {main : LE} {subs : List (LE)} {rows : LV}
theorem zn9 (n : Int) (v : Value) (vals : List zP) (w : World) (h : yz w t pm c k u sv xs s main subs) (ht : zbR s rows main subs) (hl : zK w v vals) (hg : ∀ x ∈ vals, x.Rng) :
 z9 TP 31 #[Pt t, Ii n, v] w fun r w' => ∃ o, r = .tuple #[o, .bool (za6 s rows n vals).isSome] ∧ zK w' o ((za6 s rows n vals).getD []) ∧ (∀ b ∈ zn o, w.heap.size ≤ b) ∧ zk [] w w' := by
 obtain ⟨l1, l2⟩ := h.lens
 obtain ⟨psv, csv, rfl, hcsv⟩ := ym.val h.sl
 obtain ⟨pv, cv, rfl, hcv⟩ := id (ya.val hl)
 have hn3 := (zV ht.ok.right).2.1
 have hn4 : (zG s).length ≤ 4 := by simp [zG]; omega
 refine A3 Tryz.func31 rfl rfl ?_
 refine Sr (Oa rfl (Oa rfl (E3 0 1 2 rfl (ze (ze ?_)))))
 by_cases hn0 : n < 0
 ·refine za (Om rfl ?_)
  refine Og (zbd zik rfl rfl) rfl ?_
  refine Om rfl (Oj rfl rfl ?_)
  refine Oy rfl rfl (vt (zz rfl rfl) (decide_eq_true (by omega))) ?_
  refine Of rfl (Om rfl (Oz rfl rfl (Oz rfl rfl (Oz rfl rfl (Oz rfl rfl (Oz rfl rfl (Oz rfl rfl (Oz rfl rfl (Ot rfl (Om rfl (Oz rfl rfl (Oz rfl rfl (Oz rfl rfl ?_)))))))))))))
  refine Oz rfl rfl (Oz rfl rfl (Oz rfl rfl (Oz rfl rfl (Oz rfl rfl (Oz rfl rfl (Oz rfl rfl (Oz rfl rfl (Oz rfl rfl (Ot rfl (E4 0 1 2 40 rfl (zd rfl (Sr ?_))))))))))))
  refine Oa rfl (Oa rfl (E2 6 7 rfl (zi ?_)))
  repeat first | refine tr ?_ | refine br ?_
  refine zaM rfl rfl rfl ?_
  rw [zm8 (.inl hn0)]
  exact ⟨_, rfl, ya.nil _ _ _ _, by simp [zn], zk.refl _ _⟩
 obtain ⟨j, rfl⟩ := Int.eq_ofNat_of_zero_le (Int.not_lt.1 hn0)
 rcases Nat.lt_or_ge j xs.length with hlt | hge
 ·obtain ⟨a, q, st, m, b, off, cap, e1, e2, e3, ha, hq, hsv, hcell, hqm⟩ := h.at (j := j) (by omega)
  cases hsv
  have hst : st ∈ zG s := List.mem_of_getElem? e2
  have hsub := zaG.st ht.subs e2 e3
  have hst4 := (zam (zbg ht.ok.right st hst)).1
  obtain ⟨pa, ca, rfl, _⟩ := id (ya.val ha)
  have hc0 := hcell 0 _ rfl
  have hc1 := hcell 1 _ rfl
  rw [zhi e2]
  by_cases hlen : st.length = vals.length
  ·refine za (Om rfl ?_)
   refine Og (zbd zik rfl rfl) rfl ?_
   refine Om rfl (Oj rfl rfl ?_)
   refine Oy rfl rfl (vf (zz rfl rfl) (decide_eq_false (by omega))) ?_
   refine Of rfl (Om rfl (Oj rfl rfl (Oj rfl rfl ?_)))
   refine Oy rfl rfl (zE rfl) ?_
   refine Oy rfl rfl (zl zbU rfl) ?_
   refine Oy rfl rfl (zj zga rfl (h.blk.cell' rfl)) ?_
   refine Oy rfl rfl (yd zep rfl) ?_
   refine Oy rfl rfl (vf (yt rfl rfl) (decide_eq_false (by omega))) ?_
   refine Of rfl (Om rfl (Oj rfl rfl ?_))
   refine Oy rfl rfl (yd zab rfl) ?_
   refine Oj rfl rfl ?_
   refine Oy rfl rfl (zE rfl) ?_
   refine Oy rfl rfl (zl zbU rfl) ?_
   refine Oy rfl rfl (zj zga rfl (h.blk.cell' rfl)) ?_
   refine Oj rfl rfl ?_
   refine Oy rfl rfl (zf zep zbC rfl rfl _ rfl hlt) ?_
   refine Oy rfl rfl (zl zhh rfl) ?_
   refine Oy rfl rfl (zj zbW rfl hc0) ?_
   refine Oy rfl rfl (yd zaC rfl) ?_
   refine Oy rfl rfl (vf (zX rfl rfl) (by simp [hlen])) ?_
   refine Of rfl (E4 0 1 2 40 rfl (zb rfl (zm ?_)))
   rw [if_neg (by simp [hlen])]
   refine Sr (Om rfl ?_)
   refine Oc zuP rfl rfl rfl (zvu _ vals _ hl hg (by omega)) ?_
   rintro v43 w43 ⟨rfl, c43⟩
   refine Om rfl (Oe rfl rfl (Oe rfl rfl (Oa rfl (Oa rfl (E4 0 1 8 9 rfl ?_)))))
   have h1 := h.chg0 c43
   obtain ⟨a', q', st', m', b', off', cap', e1', e2', e3', -, -, hsv', hcell', -⟩ := h1.at (j := j) (by omega)
   rw [e1] at e1'
   cases e1'
   cases hsv'
   refine Sr (Om rfl (Og (zE rfl) rfl (Od zbU rfl ?_)))
   refine Ol zga rfl (h1.blk.cell' rfl) ?_
   refine Om rfl ?_
   refine Og (zf zep zbC rfl rfl _ rfl hlt) rfl ?_
   refine Od zfT rfl ?_
   refine Ol zhB rfl (hcell' 1 _ rfl) ?_
   refine Om rfl ?_
   refine Oc zsB rfl rfl rfl (f15 q m _ _ (hq.chg0 c43) hsub.wf (by have := hsub.le ht.ok; omega)) ?_
   rintro v56 w56 ⟨rfl, c56⟩
   refine Om rfl (Oe rfl rfl (Oe rfl rfl (Oa rfl (Oa rfl (E4 0 9 10 11 rfl ?_)))))
   rw [hsub.tell ht.ok hst hg]
   refine ze (ze ?_)
   have hcA := c43.trans c56
   cases hnn : nnS vals with
   | false =>
    have hro : zct rows st vals = none := by
     cases hr : zct rows st vals with
     | none => rfl
     | some r => rw [zpJ hr] at hnn; cases hnn
    refine za (Om rfl (Og (zU rfl) rfl (Om rfl (Oz rfl rfl (Oz rfl rfl (Ot rfl (E3 0 10 64 rfl (zd rfl (Sr (Oa rfl (Oa rfl (E2 6 7 rfl ?_))))))))))))
    refine zi ?_
    repeat first | refine tr ?_ | refine br ?_
    refine zaM rfl rfl rfl ?_
    rw [hro]
    exact ⟨_, rfl, ya.nil _ _ _ _, by simp [zn], hcA⟩
   | true =>
    cases hr : zct rows st vals with
    | none =>
     refine za (Om rfl (Og (zU rfl) rfl (Om rfl (Oj rfl rfl ?_))))
     refine Oy rfl rfl (zU rfl) ?_
     refine Of rfl (E3 0 10 64 rfl (zd rfl (Sr (Oa rfl (Oa rfl (E2 6 7 rfl (zi ?_)))))))
     repeat first | refine tr ?_ | refine br ?_
     refine zaM rfl rfl rfl ?_
     exact ⟨_, rfl, ya.nil _ _ _ _, by simp [zn], hcA⟩
    | some r =>
     refine za (Om rfl (Og (zU rfl) rfl (Om rfl (Oj rfl rfl ?_))))
     refine Oy rfl rfl (zU rfl) ?_
     refine Of rfl (E3 0 10 64 rfl (zb rfl (zm ?_)))
     have hgr := ht.ok.get (zcI hr).1
     refine Sr (Om rfl (Om rfl ?_))
     refine Oc zo5 rfl rfl rfl (zkd (z0 s r) _ (h1.chg0 c56) ht) ?_
     rintro v67 w67 ⟨o67, rfl, i67, f67', c67⟩
     refine Oe rfl rfl (Oe rfl rfl (Oa rfl (Oa rfl (E2 6 7 rfl (zi ?_)))))
     refine zaM rfl rfl rfl ?_
     rw [hgr] at i67 ⊢
     have hsz := hcA.size
     exact ⟨_, rfl, i67.arr, fun b hb => Nat.le_trans hsz (f67' b hb), hcA.trans c67⟩
  refine za (Om rfl ?_)
  refine Og (zbd zik rfl rfl) rfl ?_
  refine Om rfl (Oj rfl rfl ?_)
  refine Oy rfl rfl (vf (zz rfl rfl) (decide_eq_false (by omega))) ?_
  refine Of rfl (Om rfl (Oj rfl rfl (Oj rfl rfl ?_)))
  refine Oy rfl rfl (zE rfl) ?_
  refine Oy rfl rfl (zl zbU rfl) ?_
  refine Oy rfl rfl (zj zga rfl (h.blk.cell' rfl)) ?_
  refine Oy rfl rfl (yd zep rfl) ?_
  refine Oy rfl rfl (vf (yt rfl rfl) (decide_eq_false (by omega))) ?_
  refine Of rfl (Om rfl (Oj rfl rfl ?_))
  refine Oy rfl rfl (yd zab rfl) ?_
  refine Oj rfl rfl ?_
  refine Oy rfl rfl (zE rfl) ?_
  refine Oy rfl rfl (zl zbU rfl) ?_
  refine Oy rfl rfl (zj zga rfl (h.blk.cell' rfl)) ?_
  refine Oj rfl rfl ?_
  refine Oy rfl rfl (zf zep zbC rfl rfl _ rfl hlt) ?_
  refine Oy rfl rfl (zl zhh rfl) ?_
  refine Oy rfl rfl (zj zbW rfl hc0) ?_
  refine Oy rfl rfl (yd zaC rfl) ?_
  refine Oy rfl rfl (vt (zX rfl rfl) (by simp; omega)) ?_
  refine Of rfl (E4 0 1 2 40 rfl (zd rfl (Sr (Oa rfl (Oa rfl (E2 6 7 rfl (zi ?_)))))))
  repeat first | refine tr ?_ | refine br ?_
  refine zaM rfl rfl rfl ?_
  rw [if_pos hlen]
  exact ⟨_, rfl, ya.nil _ _ _ _, by simp [zn], zk.refl _ _⟩
 refine za (Om rfl ?_)
 refine Og (zbd zik rfl rfl) rfl ?_
 refine Om rfl (Oj rfl rfl ?_)
 refine Oy rfl rfl (vf (zz rfl rfl) (decide_eq_false (by omega))) ?_
 refine Of rfl (Om rfl (Oj rfl rfl (Oj rfl rfl ?_)))
 refine Oy rfl rfl (zE rfl) ?_
 refine Oy rfl rfl (zl zbU rfl) ?_
 refine Oy rfl rfl (zj zga rfl (h.blk.cell' rfl)) ?_
 refine Oy rfl rfl (yd zep rfl) ?_
 refine Oy rfl rfl (vt (yt rfl rfl) (decide_eq_true (by omega))) ?_
 refine Of rfl (Om rfl (Oz rfl rfl (Oz rfl rfl (Oz rfl rfl (Oz rfl rfl (Oz rfl rfl (Oz rfl rfl (Oz rfl rfl (Oz rfl rfl (Oz rfl rfl (Oz rfl rfl (Oz rfl rfl (Oz rfl rfl ?_)))))))))))))
 refine Ot rfl (E4 0 1 2 40 rfl (zd rfl (Sr (Oa rfl (Oa rfl (E2 6 7 rfl (zi ?_)))))))
 repeat first | refine tr ?_ | refine br ?_
 refine zaM rfl rfl rfl ?_
 rw [zm8 (.inr (by omega))]
 exact ⟨_, rfl, ya.nil _ _ _ _, by simp [zn], zk.refl _ _⟩
end
theorem Pg.chgC {w w' : World} {p b : Nat} {e : TypeId} {x : List Value} {ls : LE} (h : Pg w p ls) (hb : zS w b e x) (h1 : Nat.beq 147 e = false) (h2 : Nat.beq 177 e = false) (h3 : Nat.beq 175 e = false) (hc : zk [b] w w') : Pg w' p ls :=
 let ⟨v, g1, g2⟩ := h; ⟨v, g1.chg hc (by have := g1.ne hb h1; simpa using this), g2.chg1 hb h2 h3 hc⟩
theorem Pg.chgSl {w w' : World} {p : Nat} {ls : LE} (h : Pg w p ls) {o : Value} {e : TypeId} {kk n : Nat} {ys : List Value} (hs : zv w e kk o n ys) (h1 : Nat.beq 147 e = false) (h2 : Nat.beq 177 e = false) (h3 : Nat.beq 175 e = false) (hc : zk (zn o) w w') : Pg w' p ls := by
 rcases hs with ⟨rfl, _, _⟩ | ⟨b, off, cap, cc, rfl, hs⟩
 ·exact h.chg0 hc
 exact h.chgC hs.blk h1 h2 h3 hc
theorem PgL.all {w w' : World} (hp : ∀ p ls, Pg w p ls → Pg w' p ls) : ∀ {ps : List Nat} {ms : List (LE)}, PgL w ps ms → PgL w' ps ms
 | [], [], _ => trivial
 | _ :: _, _ :: _, h => ⟨hp _ _ h.1, PgL.all hp h.2⟩
theorem PgL.lt {w : World} : ∀ {ps : List Nat} {ms : List (LE)}, PgL w ps ms → ∀ p ∈ ps, p < w.heap.size
 | [], [], _, p, hp => by cases hp
 | _ :: _, _ :: _, h, p, hp => by
  rcases List.mem_cons.1 hp with rfl | hp
  ·exact h.1.lt
  exact h.2.lt p hp
structure zcu (w0 wx : World) (tb pm : Nat) (c k u o : Value) (ys : List (Value × Nat)) (main : LE) (subs : List (LE)) : Prop where
 blk : zS wx tb 98 [Pt pm, c, k, u, o]
 pg : Pg wx pm main
 sl : ym wx 103 2 scs o ys
 pgs : PgL wx (ys.map (·.2)) subs
 nd : (pm :: ys.map (·.2)).Nodup
 fr : ∀ p ∈ pm :: ys.map (·.2), w0.heap.size ≤ p
 fo : ∀ b ∈ zn o, w0.heap.size ≤ b
 ft : w0.heap.size ≤ tb
theorem zcu.chg0 {w0 w w' : World} {tb pm : Nat} {c k u o : Value} {ys : List (Value × Nat)} {main : LE} {subs : List (LE)} (h : zcu w0 w tb pm c k u o ys main subs) (hc : zk [] w w') : zcu w0 w' tb pm c k u o ys main subs :=
 ⟨h.blk.chg0 hc, h.pg.chg0 hc, ym.chg0 h.sl hc, h.pgs.chg0 hc, h.nd, h.fr, h.fo, h.ft⟩
theorem zcu.more {w0 w w1 w2 : World} {tb pm : Nat} {c k u o o' : Value} {ys : List (Value × Nat)} {main m : LE} {subs : List (LE)} (h : zcu w0 w tb pm c k u o ys main subs) {a : Value} {q : Nat} (hq : Pg w q m) (hqn : q ∉ pm :: ys.map (·.2)) (hqf : w0.heap.size ≤ q)
 (hc : zk (zn o) w w1) (ho : zv w1 103 2 o' (ys.length + 1) (fl scs ys ++ scs (a, q))) (hfo : ∀ b ∈ zn o', w0.heap.size ≤ b) (hc2 : zk [tb] w1 w2) (hb : zS w2 tb 98 [Pt pm, c, k, u, o']) :
 zcu w0 w2 tb pm c k u o' (ys ++ [(a, q)]) main (subs ++ [m]) := by
 have htb : zS w1 tb 98 [Pt pm, c, k, u, o] := h.blk.chg hc (fun hm => zv.apart h.sl h.blk rfl tb hm (by simp))
 have hP : ∀ p ls, Pg w p ls → Pg w2 p ls := fun p ls hp => (hp.chgSl h.sl rfl rfl rfl hc).chgC htb rfl rfl rfl hc2
 refine ⟨hb, hP _ _ h.pg, ?_, ?_, ?_, ?_, hfo, h.ft⟩
 ·refine ya.push (n := ys.length + 1) ?_ rfl rfl
  exact zv.chg ho hc2 (zv.apart ho htb rfl)
 ·rw [List.map_append]
  exact PgL.snoc (hP _ _ hq) (PgL.all hP h.pgs)
 ·rw [List.map_append]
  show ((pm :: ys.map (·.2)) ++ [q]).Nodup
  rw [List.nodup_append]
  refine ⟨h.nd, by simp, fun x hx y hy => ?_⟩
  simp at hy
  subst hy
  exact fun e => hqn (e ▸ hx)
 intro p hp
 rw [List.map_append] at hp
 rcases List.mem_cons.1 hp with rfl | hp
 ·exact h.fr _ (by simp)
 rcases List.mem_append.1 hp with hp | hp
 ·exact h.fr p (List.mem_cons_of_mem _ hp)
 simp at hp; subst hp; exact hqf
set_option maxHeartbeats 1000000 in
theorem znj (t : Nat) (own : List Nat) (s : yn) (rows : LV) (w : World) (h : yS w t own s rows) :
 z9 TP 35 #[Pt t] w fun r w' => ∃ t' own', r = Pt t' ∧ yS w' t' own' s rows ∧ w.heap.size ≤ t' ∧ (∀ p ∈ own', w.heap.size ≤ p) ∧ zk [] w w' ∧
  ∀ pm c k u sv, zS w t 98 [Pt pm, c, k, u, sv] → ∃ pm' sv', zS w' t' 98 [Pt pm', c, k, u, sv'] := by
 have hT := h
 obtain ⟨pm, c, k, u, sv, xs, main, subs, rfl, hm, ht⟩ := h
 obtain ⟨l1, l2⟩ := hm.lens
 obtain ⟨psv, csv, rfl, hcsv⟩ := ym.val hm.sl
 have hn3 := (zV ht.ok.right).2.1
 have hn4 : (zG s).length ≤ 4 := by simp [zG]; omega
 refine A1 Tryz.func35 rfl rfl ?_
 refine Sr (Oa rfl (E1 0 rfl (ze (Sr (Om rfl ?_)))))
 refine Og (zbd zik rfl rfl) rfl ?_
 refine E2 0 7 rfl (zb rfl (zm (ze ?_)))
 have hd : zk [] w w.drew := zk.drew [] _
 refine zO (fun wz => zk [] w wz) mix (by kernel_rfl) hd ?_
 refine Tm rfl ?_
 refine Tp (fun _ => zE rfl) rfl ?_
 refine Td zgy rfl ?_
 refine Tr (fun wz hz => zj zhB rfl ((hm.blk.chg0 hz).cell' rfl)) rfl ?_
 refine Tc zuF rfl rfl rfl (f19 pm main _ (hm.pg.chg0 hd) (by have := ht.le; omega)) ?_
 rintro v12 w12 ⟨q, rfl, hqf, hq, c12⟩
 refine ⟨.inl (hd.trans c12), ?_⟩
 refine Tm rfl ?_
 refine Tp (fun _ => zE rfl) rfl ?_
 refine Td zjs rfl ?_
 refine Tr (fun wz hz => zg zbu zbt rfl rfl (hm.chg0 hz).scells) rfl ?_
 refine Tp (fun _ => zZ zsO ztI rfl (vs := [_, _]) rfl (css := [_, _]) ⟨rfl, rfl, trivial⟩ rfl rfl (cs := [_, _, _, _, _]) rfl) rfl ?_
 refine zaq rfl (gn rfl) (zhU rfl rfl rfl ?_)
 intro b18 w18 e18 n18 c18 k18
 refine ⟨.inl ((hd.trans c12).trans c18), ?_⟩
 refine Ta rfl (D2 0 3 rfl ?_)
 have k18 : zS w18 b18 98 [Pt q, c, k, u, .slice none 0 0] := k18
 have hcA := (hd.trans c12).trans c18
 have hsd := hd.size
 have hs12 := c12.size
 have hpre : zcu w w18 b18 q c k u (.slice none 0 0) [] main [] := ⟨k18, hq.chg0 c18, zv.nil _ _ _, trivial, by simp, by simp; omega, by simp [zn], by omega⟩
 have hm1 := hm.chg0 hcA
 refine ze (Sr (Om rfl (Og (zE rfl) rfl (Od zbU rfl ?_))))
 refine Ol zga rfl (hm1.blk.cell' rfl) ?_
 refine On zep rfl (Om rfl (E4 3 22 23 24 rfl (zq ?_)))
 refine zY [3, 22, 23, 24] (fun m F wx => ∃ (j : Nat) (o : Value) (ys : List (Value × Nat)), m = xs.length - j ∧ j ≤ xs.length ∧ F = [(3, Pt b18), (22, .slice psv xs.length csv), (23, Ii xs.length), (24, Ii j)] ∧ zcu w wx b18 q c k u o ys main (subs.take j) ∧ ys.map (·.1) = (xs.take j).map (·.1) ∧ zk [] w wx) (m := xs.length - 0) ⟨0, _, [], rfl, Nat.zero_le _, rfl, hpre, by simp, hcA⟩ ?_
 rintro m F wx ⟨j, o, ys, rfl, hj, rfl, hp, hys, hcx⟩
 have hx := hm.chg0 hcx
 refine Sr (Og (zz rfl rfl) rfl (E5 3 22 23 24 25 rfl (ze ?_)))
 refine zT rfl (fun hT' => ?_) (fun hF => ?_)
 ·refine zm ?_
  have hlt : j < xs.length := by have := of_decide_eq_true hT'; omega
  obtain ⟨a, p, st, m, b, off, cap, e1, e2, e3, ha, hpg, hsv, hcell, hqm⟩ := hx.at (j := j) (by omega)
  cases hsv
  have hst : st ∈ zG s := List.mem_of_getElem? e2
  have hsub := zaG.st ht.subs e2 e3
  obtain ⟨pa, ca, rfl, _⟩ := id (ya.val ha)
  have hyl : ys.length = j := by have := congrArg List.length hys; simpa [Nat.min_eq_left hj] using this
  refine ze (zq (Sr ?_))
  refine Og (zf zep zbC rfl rfl _ rfl hlt) rfl ?_
  refine Og (zg zgc zbC rfl rfl hcell) rfl ?_
  refine zC (gn rfl) (zI zhI rfl rfl ?_)
  intro b5 w5 e5 n5 c5 k5
  refine zC (gn rfl) (zu zbC rfl rfl rfl rfl k5 (by simp) (by intro u hu; simp at hu; rcases hu with rfl | rfl; exact ya.one1 ha; rfl) ?_)
  intro wA nA cA kA
  refine E5 3 5 22 23 24 rfl ?_
  have kA : zS wA b5 103 [.slice pa st.length ca, Pt p] := kA
  have hcB : zk [] wx wA := c5.own cA (by intro y hy; simp at hy; omega)
  have hpA := hp.chg0 hcB
  have hdA : zk [] wA wA.drew := zk.drew [] _
  have hbo : b18 ∉ zn o := fun hm => zv.apart hpA.sl hpA.blk rfl b18 hm (by simp)
  refine zO (fun wz => zk [] wA wz) mix (by kernel_rfl) hdA ?_
  refine Tm rfl (Tm rfl ?_)
  refine Tp (fun _ => zE rfl) rfl ?_
  refine Td zbU rfl ?_
  refine Tr (fun wz hz => zj zga rfl ((hpA.blk.chg0 hz).cell' rfl)) rfl ?_
  refine Td zhh rfl ?_
  refine Tr (fun wz hz => zj zbW rfl ((kA.chg0 hz).cell' rfl)) rfl ?_
  refine Td zfT rfl ?_
  refine Tr (fun wz hz => zj zhB rfl ((kA.chg0 hz).cell' rfl)) rfl ?_
  refine Tc zuF rfl rfl rfl (f19 p m _ ((hpg.chg0 hcB).chg0 hdA) (by have := hsub.le ht.ok; omega)) ?_
  rintro v37 w37 ⟨q', rfl, hqf', hq', c37⟩
  refine ⟨.inl (hdA.trans c37), ?_⟩
  refine Tp (fun _ => zZ zrM zhI rfl (vs := [_, _]) rfl (css := [_, _]) ⟨rfl, rfl, trivial⟩ rfl rfl (cs := [_, _]) rfl) rfl ?_
  refine zaq rfl (gn rfl) (zy zrz rfl (vs := [_]) rfl (css := [_]) ⟨rfl, trivial⟩ rfl rfl (cs := [_, _]) rfl rfl ?_)
  intro b39 w39 e39 n39 c39 k39
  refine ⟨.inl ((hdA.trans c37).trans c39), ?_⟩
  refine zaq rfl (gn rfl) (yq zrz zep rfl rfl (ym.chg0 hpA.sl ((hdA.trans c37).trans c39)) (zv.of_blk (n := 1) (c := scs (.slice pa st.length ca, q')) k39 rfl (by simp [maxLen]) (by intro u hu; simp [scs] at hu; rcases hu with rfl | rfl; exact ya.one1 ha; rfl)) (by simp only [maxLen]; omega) (by omega) rfl ?_)
  intro v40 w40 i40 c40 o40 z40
  obtain ⟨p40, q40, rfl, _⟩ := id (zv.val i40)
  refine ⟨.inr (by kernel_rfl), ?_⟩
  refine Tp (fun _ => zE rfl) rfl ?_
  refine Td zbU rfl ?_
  refine zaq rfl (gn rfl) (zu zuu rfl rfl rfl rfl ((hpA.blk.chg0 ((hdA.trans c37).trans c39)).chg c40 hbo) (by simp) (by intro u hu; simp at hu; subst hu; rfl) ?_)
  intro wB nB cB kB
  refine ⟨.inr (by kernel_rfl), ?_⟩
  refine zdU [3, 22, 23, 24] (F' := [(3, _), (22, _), (23, _), (24, _)]) rfl ?_
  have kB : zS wB b18 98 [Pt q, c, k, u, .slice p40 (ys.length + 1) q40] := kB
  refine zh ?_
  have hc39 : zk [] wA w39 := (hdA.trans c37).trans c39
  have hsx := hcx.size
  have hsB := hcB.size
  have hsd2 := hdA.size
  have hs37 := c37.size
  have hs39 := c39.size
  have hmore := (hpA.chg0 hc39).more (a := .slice pa st.length ca) (hq'.chg0 c39) (fun hm => by
   rcases List.mem_cons.1 hm with rfl | hm
   ·have := hp.pg.lt; omega
   have := hp.pgs.lt q' hm; omega) (by omega) c40 i40 (yw o40 hp.fo (by omega)) cB kB
  refine za ?_
  refine Og (zH rfl rfl (by omega)) rfl ?_
  refine Om rfl (N4 3 22 23 24 rfl ?_)
  refine ⟨xs.length - (j + 1), by omega, j + 1, _, _, rfl, by omega, rfl, by rw [yv e3]; exact hmore, ?_, ?_⟩
  ·rw [List.map_append, hys, yv e1, List.map_append]
   rfl
  have h1 : zk (zn o ++ [b18]) wx wB := (((hcB.any (S := zn o ++ [b18])).transS (hc39.any)).transS (c40.weak (fun y hy => by simp [hy]))).transS (cB.weak (by simp))
  exact hcx.own h1 (fun y hy => by
   rcases List.mem_append.1 hy with hy | hy
   ·exact hp.fo y hy
   simp at hy; subst hy; exact hp.ft)
 refine zN ?_
 repeat first | refine te ?_ | refine bo rfl ?_
 refine zt _ ?_
 have he : xs.length ≤ j := by have := of_decide_eq_false hF; omega
 rw [List.take_of_length_le (by omega)] at hp hys
 refine Sr (Om rfl (Oa rfl (E1 2 rfl (zi ?_))))
 refine zD rfl rfl ?_
 have hM : yz wx b18 q c k u o ys s main subs := ⟨hp.blk, hx.sch, hp.pg, hp.sl, hys ▸ hx.ats, hp.pgs, hp.nd⟩
 exact ⟨b18, q :: ys.map (·.2), rfl, ⟨q, c, k, u, o, ys, main, subs, rfl, hM, ht⟩, hp.ft, hp.fr, hcx, fun pm0 c0 k0 u0 sv0 hb => by
  have hq := Option.some.inj ((show w.heap[t]? = _ from hb).symm.trans hm.blk)
  cases hq
  exact ⟨q, o, hp.blk⟩⟩
theorem ztU (n : Nat) (w : World) (hn : n ≤ 4294967296) : z9 TP 119 #[.slice none 0 0, Ii n] w fun r w' => zv w' 27 1 r 0 [] ∧ (∀ b ∈ zn r, w.heap.size ≤ b) ∧ zk [] w w' := by
 refine A2 Tryz.func119 rfl rfl ?_
 refine Sr (Oa rfl (E2 0 1 rfl (ze (Sr (Om rfl (Og (zz rfl rfl) rfl (E3 0 1 6 rfl ?_)))))))
 refine zT rfl (fun hT => ?_) (fun hF => ?_)
 ·exfalso
  have := of_decide_eq_true hT
  omega
 refine zm (ze (Sr (Om rfl (Om rfl ?_))))
 refine Og (zfB zaL rfl) rfl ?_
 refine Om rfl (On zaL rfl ?_)
 refine Og (yJ rfl rfl (by omega)) rfl ?_
 refine Og (yG (v' := Ii n) (yJ rfl rfl (by omega)) (by congr 1 <;> omega)) rfl ?_
 refine Oa rfl (E2 0 1 rfl (Sr (Om rfl ?_)))
 refine Og (yc rfl rfl) rfl ?_
 refine E3 0 1 16 rfl ?_
 refine zT rfl (fun hT => ?_) (fun hF => ?_)
 ·have hpos : 0 < n := by have := of_decide_eq_true hT; omega
  refine za (Om rfl (Om rfl ?_))
  refine Og (zfB zaL rfl) rfl ?_
  refine Og (zbl zaL zfh rfl rfl _ rfl (by omega)) rfl ?_
  refine Om rfl ?_
  refine zC (gn rfl) (zcR znI zaj rfl rfl rfl (zv.nil _ _ _) (fun p c he => by simp [cut] at he; omega) (by simp only [maxLen]; omega) (by omega) rfl ?_)
  intro b cap zs w22 hb c22 hge hle hzl hone k22
  refine Om rfl (On zaL rfl ?_)
  refine Og (zbl zaL zfh rfl rfl 0 rfl (by omega)) rfl ?_
  refine Oa rfl (E1 0 rfl (Sr (Om rfl (Oa rfl (E1 4 rfl (zi ?_))))))
  refine zD rfl rfl ?_
  have hsl : zdZ w22 27 1 b 0 (0 + n) cap ([] ++ zs) (((([] ++ zs) : List Value).drop 0).take ((0 + n) * 1)) := ⟨k22, hge, hle, by simp only [List.nil_append]; omega, rfl, hone⟩
  have hc := hsl.cut (l := 0) (h := 0) (m := cap) (Nat.le_refl _) (Nat.zero_le _) (Nat.le_refl _)
  refine ⟨by simpa using hc, fun x hx => ?_, c22⟩
  have := zv.cutBlk (len := 0) (cap := 0) x hx
  simp [zn] at this
  omega
 refine zm (Sr (Om rfl (Oa rfl (E1 4 rfl (zi ?_)))))
 refine zD rfl rfl ?_
 exact ⟨zv.nil _ _ _, by simp [zn], zk.refl _ _⟩
def HL (w : World) (vs : List Value) (lss : List (List Value)) : Prop := vs.length = lss.length ∧ ∀ (i : Nat) (x : Value) (ls : List Value), vs[i]? = some x → lss[i]? = some ls → Rd w 1 x ls.length ls
theorem zoF (v : Value) (vs : List Value) (lss : List (List Value)) (w : World) (hv : zv w 28 1 v lss.length vs) (hl : HL w vs lss) (hn : lss.flatten.length ≤ 1048576) (hn2 : lss.length ≤ 1048576) :
 z9 TP 77 #[v] w fun r w' => zv w' 27 1 r lss.flatten.length lss.flatten ∧ (∀ b ∈ zn r, w.heap.size ≤ b) ∧ zk [] w w' := by
 obtain ⟨pv, cv, rfl, hcv⟩ := id (zv.val hv)
 have hfl : ∀ j, (lss.take j).flatten.length ≤ lss.flatten.length := fun j => by
  have := congrArg (fun l => (List.flatten l).length) (List.take_append_drop j lss)
  simp only [List.flatten_append, List.length_append] at this
  omega
 refine A1 Tryz.func77 rfl rfl ?_
 refine Sr (Oa rfl (E1 0 rfl (Sr (Oa rfl (E2 0 3 rfl (ze (Sr (Om rfl (On zld rfl (Om rfl ?_))))))))))
 refine E5 0 3 9 10 11 rfl (zq ?_)
 refine zY [0, 3, 9, 10, 11] (fun m F wx => ∃ (j : Nat), m = lss.length - j ∧ j ≤ lss.length ∧ F = [(0, .slice pv lss.length cv), (3, Ii (lss.take j).flatten.length), (9, .slice pv lss.length cv), (10, Ii lss.length), (11, Ii j)] ∧ wx = w) (m := lss.length - 0) ⟨0, rfl, Nat.zero_le _, rfl, rfl⟩ ?_
 rintro m F wx ⟨j, rfl, hj, rfl, rfl⟩
 refine Sr (Og (zz rfl rfl) rfl (E6 0 3 9 10 11 12 rfl (ze ?_)))
 refine zT rfl (fun hT => ?_) (fun hF => ?_)
 ·refine zm ?_
  have hlt : j < lss.length := by have := of_decide_eq_true hT; omega
  have hx : lss[j]? = some lss[j] := by simp [hlt]
  generalize lss[j] = ls at hx
  obtain ⟨b, off, cap, x, hve, hxe, hcell⟩ := hv.at1 hlt
  cases hve
  have hls := hl.2 j x ls hxe hx
  obtain ⟨pl, cl, rfl, _⟩ := hls.val
  have hsum : (lss.take (j + 1)).flatten.length = (lss.take j).flatten.length + ls.length := by rw [yv hx]; simp
  have hb := hfl (j + 1)
  refine ze (zq (Sr ?_))
  refine Og (zf zld zn2 rfl rfl _ rfl hlt) rfl ?_
  refine Ol zc6 rfl hcell ?_
  refine Oa rfl (E6 0 3 5 9 10 11 rfl (Sr (Om rfl (Om rfl (On zaL rfl ?_)))))
  refine Og (yG (v' := Ii (((lss.take j).flatten.length + ls.length : Nat) : Int)) (zH rfl rfl (by omega)) (by congr 1)) rfl ?_
  refine Oa rfl (E5 0 3 9 10 11 rfl (Sr (Om rfl ?_)))
  refine Og (vf (zz rfl rfl) (decide_eq_false (by omega))) rfl ?_
  refine E6 0 3 9 10 11 20 rfl (zb rfl (yg (zh (za ?_))))
  refine Og (zH rfl rfl (by omega)) rfl ?_
  refine Om rfl (N5 0 3 9 10 11 rfl ?_)
  exact ⟨lss.length - (j + 1), by omega, j + 1, rfl, by omega, by rw [hsum]; rfl, rfl⟩
 refine zN ?_
 repeat first | refine te ?_ | refine bo rfl ?_
 refine zt _ ?_
 have he : j = lss.length := by have := of_decide_eq_false hF; omega
 subst he
 rw [List.take_length]
 refine Sr (Om rfl ?_)
 refine Oc zuK rfl rfl rfl (ztU _ _ (by omega)) ?_
 rintro v24 w24 ⟨i24, f24', c24⟩
 refine Oa rfl (E2 0 6 rfl (ze (Sr (Om rfl (On zld rfl (Om rfl (E4 6 25 26 27 rfl (zq ?_))))))))
 refine zY [6, 25, 26, 27] (fun m F wy => ∃ (j : Nat) (o : Value), m = lss.length - j ∧ j ≤ lss.length ∧ F = [(6, o), (25, .slice pv lss.length cv), (26, Ii lss.length), (27, Ii j)] ∧ zv wy 27 1 o (lss.take j).flatten.length (lss.take j).flatten ∧ (∀ b ∈ zn o, wx.heap.size ≤ b) ∧ zk [] wx wy) (m := lss.length - 0) ⟨0, _, rfl, Nat.zero_le _, rfl, i24, f24', c24⟩ ?_
 rintro m F wy ⟨j, o, rfl, hj, rfl, ho, hfo, hcy⟩
 refine Sr (Og (zz rfl rfl) rfl (E5 6 25 26 27 28 rfl (ze ?_)))
 refine zT rfl (fun hT => ?_) (fun hF => ?_)
 ·refine zm ?_
  have hlt : j < lss.length := by have := of_decide_eq_true hT; omega
  have hx : lss[j]? = some lss[j] := by simp [hlt]
  generalize lss[j] = ls at hx
  obtain ⟨b, off, cap, x, hve, hxe, hcell⟩ := (zv.chg0 hv hcy).at1 hlt
  cases hve
  have hls := hl.2 j x ls hxe hx
  have hsum : (lss.take (j + 1)).flatten = (lss.take j).flatten ++ ls := by rw [yv hx]; simp
  have hb := hfl (j + 1)
  rw [hsum, List.length_append] at hb
  have hl1 := hls.chg0 hcy
  refine ze (zq (Sr ?_))
  refine Og (zf zld zn2 rfl rfl _ rfl hlt) rfl ?_
  refine Ol zc6 rfl hcell ?_
  refine Oa rfl (E5 6 8 25 26 27 rfl (za (Om rfl (Om rfl ?_))))
  refine zC (gn rfl) (zcH znI zaL rfl rfl ho hl1 (by simp only [maxLen]; omega) (by omega) rfl ?_)
  intro v33 w33 i33 c33 o33 z33
  refine Oa rfl (N4 6 25 26 27 rfl (zh (za ?_)))
  refine Og (zH rfl rfl (by omega)) rfl ?_
  refine Om rfl (N4 6 25 26 27 rfl ?_)
  have hsy := hcy.size
  refine ⟨lss.length - (j + 1), by omega, j + 1, v33, rfl, by omega, rfl, ?_, yw o33 hfo (by omega), hcy.own c33 hfo⟩
  rw [hsum, List.length_append]; exact i33
 refine zN ?_
 repeat first | refine te ?_ | refine bo rfl ?_
 refine zt _ ?_
 have he : lss.length ≤ j := by have := of_decide_eq_false hF; omega
 rw [List.take_of_length_le he] at ho
 refine Sr (Om rfl (Oa rfl (E1 2 rfl (zi ?_))))
 refine zD rfl rfl ?_
 exact ⟨ho, hfo, hcy⟩
end Go.Wk
