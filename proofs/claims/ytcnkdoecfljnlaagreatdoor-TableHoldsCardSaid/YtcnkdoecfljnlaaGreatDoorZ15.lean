/- joined texts -/
import Derived.Test.YtcnkdoecfljnlaaGreatDoorZ14
import Derived.Sort.LoopGhostIn
set_option linter.all false
namespace Go.Wk
open Go.Proofs
set_option maxRecDepth 10000
theorem znp (va vb vs : Value) (s : yn) (a b : List zP) (w : World) (ha : zK w va a) (hb : zK w vb b) (hs : zbM w vs (zG s)) (hfa : yT s a = 0) (hfb : yT s b = 0) :
 z9 TP 32 #[va, vb, vs] w fun r w' => r = .bool (yy s a b) ∧ zk [] w w' := by
 obtain ⟨pa, ca, rfl, hca⟩ := ya.val ha
 obtain ⟨pb, cb, rfl, hcb⟩ := ya.val hb
 obtain ⟨ps, cs, rfl, hcs⟩ := yR.val hs
 have hr := (zav hfa).1
 have hn4 : (zG s).length ≤ 4 := by have := (zV hr).2.1; simp [zG]; omega
 refine A3 Tryz.func32 rfl rfl ?_
 refine Sr (Oa rfl (E3 0 1 2 rfl (ze (Sr (Oa rfl (E4 0 1 2 7 rfl (zq ?_)))))))
 refine zY [0, 1, 2, 7] (fun m F wx => ∃ j : Nat, m = (zG s).length - j ∧ j ≤ (zG s).length ∧ F = [(0, .slice pa a.length ca), (1, .slice pb b.length cb), (2, .slice ps (zG s).length cs), (7, Ii j)] ∧ ((zG s).take j).any (yY a b) = false ∧ zk [] w wx) (m := (zG s).length - 0) ⟨0, rfl, Nat.zero_le _, rfl, rfl, zk.refl _ _⟩ ?_
 rintro m F wx ⟨j, rfl, hj, rfl, hok, hcx⟩
 refine ze (ze ?_)
 by_cases hlt : j < (zG s).length
 ·refine za (Om rfl (Om rfl (On zaL rfl ?_)))
  refine Og (vt (zz rfl rfl) (by simp; omega)) rfl ?_
  refine E5 0 1 2 7 17 rfl (zd rfl (zm ?_))
  have hx : (zG s)[j]? = some (zG s)[j] := by simp [hlt]
  have htk := List.take_succ_eq_append_getElem hlt
  have hmem := List.getElem_mem hlt
  generalize (zG s)[j] = st at hx htk hmem
  have hkl := zhE hr hmem
  have hst1 := (zam (zbg hr st hmem)).1
  obtain ⟨bi, oi, cpi, vi, hve, hcell, hint⟩ := yR.at (yR.chg0 hs hcx) hx
  cases hve
  refine ze (zq (Sr (Om rfl (Om rfl (Om rfl ?_)))))
  refine Og (zf zaL zfh rfl rfl _ rfl hlt) rfl ?_
  refine Ol zbW rfl hcell ?_
  refine Oc zpD rfl rfl rfl (zhr _ _ a st _ (ya.chg0 ha hcx) hint (zfC hfa hmem) hkl) ?_
  rintro v26 w26 ⟨u26, rfl, i26, f26, c26⟩
  obtain ⟨p26, q26, rfl, -⟩ := id (ym.val i26)
  refine Om rfl (Oe rfl rfl (Oe rfl rfl (Oa rfl (Oa rfl (E6 0 1 2 7 8 9 rfl (Sr (Om rfl (Om rfl (Om rfl ?_)))))))))
  refine Og (zf zaL zfh rfl rfl _ rfl hlt) rfl ?_
  refine Ol zbW rfl (c26.cell hcell) ?_
  refine Oc zpD rfl rfl rfl (zhr _ _ b st _ (ya.chg0 (ya.chg0 hb hcx) c26) (ya.chg0 hint c26) (zfC hfb hmem) hkl) ?_
  rintro v35 w35 ⟨u35, rfl, i35, f35, c35⟩
  refine Om rfl (Oe rfl rfl (Oe rfl rfl (Oa rfl (Oa rfl (E8 0 1 2 7 8 9 10 11 rfl ?_)))))
  have hcy := (hcx.trans c26).trans c35
  have i26 : zaT w35 _ (zJ a st) := ym.chg0 i26 c35
  have hml : (zJ a st).length = st.length := by rw [zc0]
  refine Sr (Om rfl (Om rfl ?_))
  refine Og (yG (v' := Ii ((0 : Nat) : Int)) (zH rfl rfl (by omega)) (by congr 1)) rfl ?_
  refine Og (vf (zX rfl rfl) (zbQ (by omega))) rfl ?_
  refine Om rfl (Oj rfl rfl ?_)
  refine Oy rfl rfl (yd zab rfl) ?_
  refine Oy rfl rfl (vf (zw rfl rfl) (decide_eq_false (by omega))) ?_
  refine Of rfl (Oa rfl (E7 0 1 2 7 8 10 12 rfl (ze (Sr (Oa rfl (E8 0 1 2 7 8 10 12 13 rfl (zq ?_)))))))
  refine zY [0, 1, 2, 7, 8, 10, 12, 13] (fun m F wy => ∃ i : Nat, m = (zJ a st).length - i ∧ i ≤ (zJ a st).length ∧ F = [(0, .slice pa a.length ca), (1, .slice pb b.length cb), (2, .slice (some ⟨bi, oi, none⟩) (zG s).length cs), (7, Ii j), (8, .slice p26 (zJ a st).length q26), (10, u35), (12, .bool (!nnS ((zJ a st).take i))), (13, Ii i)] ∧ wy = w35) (m := (zJ a st).length - 0) ⟨0, rfl, Nat.zero_le _, rfl, rfl⟩ ?_
  rintro m F wy ⟨i, rfl, hi, rfl, rfl⟩
  refine ze (ze ?_)
  by_cases hil : i < (zJ a st).length
  ·refine za (Om rfl (Om rfl (On zab rfl ?_)))
   refine Og (vt (zz rfl rfl) (by simp; omega)) rfl ?_
   refine zaJ [0, 1, 2, 7, 8, 10, 12, 13, 50] (F' := [(0, _), (1, _), (2, _), (7, _), (8, _), (10, _), (12, _), (13, _), (50, _)]) rfl (zd rfl (zm ?_))
   have hy : (zJ a st)[i]? = some (zJ a st)[i] := by simp [hil]
   generalize (zJ a st)[i] = y at hy
   have hnt := zjd hy
   obtain ⟨bm, om, cpm, hve, hcm⟩ := ya.at zaX i26.arr hy
   cases hve
   refine ze (zq ?_)
   cases hnn : nnS ((zJ a st).take i) with
   | true =>
    refine za (Om rfl (Om rfl (Oj rfl rfl (Oj rfl rfl ?_))))
    refine Oy rfl rfl (zf zab y7 rfl rfl _ rfl hil) ?_
    refine Oy rfl rfl (zl zal rfl) ?_
    refine Oy rfl rfl (zj zb9 rfl (hcm 0 _ rfl)) ?_
    refine Oy rfl rfl (zw rfl rfl) ?_
    refine Of rfl (Oa rfl ?_)
    refine zaw [0, 1, 2, 7, 8, 10, 12, 13] (F' := [(0, _), (1, _), (2, _), (7, _), (8, _), (10, _), (12, _), (13, _)]) rfl ?_
    refine zh (za (Om rfl ?_))
    refine Og (zH rfl rfl (by omega)) rfl ?_
    refine Oa rfl ?_
    refine zaw [0, 1, 2, 7, 8, 10, 12, 13] (F' := [(0, _), (1, _), (2, _), (7, _), (8, _), (10, _), (12, _), (13, _)]) rfl ?_
    refine ⟨(zJ a st).length - (i + 1), by omega, i + 1, rfl, by omega, ?_, rfl⟩
    rw [hnt, hnn]
    simp
    rfl
   | false =>
    refine za (Om rfl (Om rfl (Oz rfl rfl (Oz rfl rfl (Oz rfl rfl (Oz rfl rfl (Oz rfl rfl (Oz rfl rfl (Ot rfl (Oa rfl ?_))))))))))
    refine zaw [0, 1, 2, 7, 8, 10, 12, 13] (F' := [(0, _), (1, _), (2, _), (7, _), (8, _), (10, _), (12, _), (13, _)]) rfl ?_
    refine zh (za (Om rfl ?_))
    refine Og (zH rfl rfl (by omega)) rfl ?_
    refine Oa rfl ?_
    refine zaw [0, 1, 2, 7, 8, 10, 12, 13] (F' := [(0, _), (1, _), (2, _), (7, _), (8, _), (10, _), (12, _), (13, _)]) rfl ?_
    refine ⟨(zJ a st).length - (i + 1), by omega, i + 1, rfl, by omega, ?_, rfl⟩
    rw [hnt, hnn]
    rfl
  refine za (Om rfl (Om rfl (On zab rfl ?_)))
  refine Og (vf (zz rfl rfl) (by simp; omega)) rfl ?_
  refine zaJ [0, 1, 2, 7, 8, 10, 12, 13, 50] (F' := [(0, _), (1, _), (2, _), (7, _), (8, _), (10, _), (12, _), (13, _), (50, _)]) rfl (zb rfl ?_)
  refine zN ?_
  repeat first | refine te ?_ | refine bo rfl ?_
  refine zt _ ?_
  have hie : (zJ a st).take i = zJ a st := List.take_of_length_le (by omega)
  rw [hie]
  refine ze ?_
  have hnot : yY a b st = false → ((zG s).take (j + 1)).any (yY a b) = false := fun h => by rw [htk, List.any_append, hok]; simp [h]
  cases hnn : nnS (zJ a st) with
  | false =>
   have hcl : yY a b st = false := by
    cases hc : yY a b st with
    | false => rfl
    | true => rw [(zbb.1 hc).1] at hnn; cases hnn
   refine za (Om rfl (Og (zU rfl) rfl (Om rfl (Oz rfl rfl (Oz rfl rfl (Oz rfl rfl (Of rfl (E5 0 1 2 7 68 rfl (zb rfl (yg (zh (za (Om rfl ?_)))))))))))))
   refine Og (zH rfl rfl (by omega)) rfl ?_
   refine Oa rfl (N4 0 1 2 7 rfl ?_)
   exact ⟨(zG s).length - (j + 1), by omega, j + 1, rfl, by omega, rfl, hnot hcl, hcy⟩
  | true =>
   refine za (Om rfl (Og (zU rfl) rfl (Om rfl (Oj rfl rfl (Oj rfl rfl ?_)))))
   refine Ow rfl rfl zhb rfl rfl rfl (zc9 _ _ (zJ a st) (zJ b st) _ i26.arr i35.arr (by omega)) ?_
   rintro v67 w67 ⟨rfl, c67⟩
   refine Ot rfl (E5 0 1 2 7 68 rfl ?_)
   by_cases hsame : zJ a st = zJ b st
   ·refine zd (by simp [hsame]; rfl) ?_
    refine Sr (Oa rfl (E1 6 rfl (zi ?_)))
    repeat first | refine tr ?_ | refine br ?_
    refine zD rfl rfl ?_
    have e : yy s a b = true := List.any_eq_true.2 ⟨st, hmem, zbb.2 ⟨hnn, hsame⟩⟩
    exact ⟨by rw [e], hcy.trans c67⟩
   have hcl : yY a b st = false := by
    cases hc : yY a b st with
    | false => rfl
    | true => exact absurd (zbb.1 hc).2 hsame
   refine zb (by simp [hsame]; rfl) ?_
   refine yg (zh (za (Om rfl ?_)))
   refine Og (zH rfl rfl (by omega)) rfl ?_
   refine Oa rfl (N4 0 1 2 7 rfl ?_)
   exact ⟨(zG s).length - (j + 1), by omega, j + 1, rfl, by omega, rfl, hnot hcl, hcy.trans c67⟩
 refine za (Om rfl (Om rfl (On zaL rfl ?_)))
 refine Og (vf (zz rfl rfl) (by simp; omega)) rfl ?_
 refine E5 0 1 2 7 17 rfl (zb rfl ?_)
 refine zN ?_
 repeat first | refine te ?_ | refine bo rfl ?_
 refine zt _ ?_
 refine Sr (Oa rfl (E1 6 rfl (zi ?_)))
 refine zD rfl rfl ?_
 rw [List.take_of_length_le (by omega)] at hok
 exact ⟨by unfold yy; rw [hok], hcx⟩
theorem zpG {ρ : Option Nat} {P : Program} {n : Nat} {Q : Exit → Fr → World → Prop} {F : Fr} {w : World} (keep : List Nat) (I : Nat → Fr → World → Prop) {m : Nat} {c : Code} (h0 : I m (prune keep F) w)
 (round : ∀ m F w, I m F w → WX ρ P n c (zaH (fun F' w' => ∃ m', m' < m ∧ I m' (prune keep F') w') Q) F w) : WX ρ P n (.loop c) Q F w := by
 intro a ha
 refine wpIn_loop_ghost (fun m a w => ∃ F, Rep n F a ∧ I m F w) m ⟨prune keep F, ha.prune keep, h0⟩ ?_
 rintro m a w ⟨F1, hr, hI⟩
 refine wpIn_mono (round m F1 w hI a hr) ?_
 rintro e a' w' ⟨F', hr', hq⟩
 cases e with
 | normal =>
  obtain ⟨m', hlt, hI'⟩ := hq
  exact ⟨m', hlt, prune keep F', hr'.prune keep, hI'⟩
 | _ => exact ⟨F', hr', hq⟩
theorem yR.chgF {α : Type} {f : α → List Value} {w w' : World} {E e k : Nat} {v : Value} {ls : List (List α)} (h : yR w E e k f v ls) {S : List Nat} (hc : zk S w w') (hv : ∀ x ∈ zn v, x ∉ S) (hf : ∀ x, ∀ u ∈ f x, zg8 u = true) (hl : Nl w S) : yR w' E e k f v ls :=
 let ⟨vs, h1, h2⟩ := h
 ⟨vs, ⟨h1.1.chg hc hv, fun hp => by
  obtain ⟨b, off, cap, e, c, fr, rfl, hb, hk⟩ := h1.2 hp
  exact ⟨b, off, cap, e, c, fr, rfl, (hc.block b (Array.getElem?_eq_some_iff.1 hb).1 (hv b (by simp [zn]))).trans hb, hk⟩⟩, h2.chgC hc hf hl⟩
theorem yR.lt {α : Type} {f : α → List Value} {w : World} {E e k : Nat} {v : Value} {ls : List (List α)} (h : yR w E e k f v ls) (hp : 0 < ls.length) : ∀ x ∈ zn v, x < w.heap.size := by
 obtain ⟨vs, h1, h2⟩ := h
 obtain ⟨b, off, cap, e, c, fr, rfl, hb, hk⟩ := h1.2 hp
 intro x hx
 simp [zn] at hx
 subst hx
 exact (Array.getElem?_eq_some_iff.1 hb).1
theorem yR.kc {α : Type} {f : α → List Value} {w w' : World} {E e k : Nat} {v : Value} {ls : List (List α)} (h : yR w E e k f v ls) (hk : Kc w w') : yR w' E e k f v ls := let ⟨vs, h1, h2⟩ := h; ⟨vs, h1.kc hk, h2.kc hk⟩
theorem zva : zjp 31 := ⟨rfl, rfl, rfl, rfl, rfl, rfl, rfl, rfl⟩
theorem zp8 : zjp 28 := ⟨rfl, rfl, rfl, rfl, rfl, rfl, rfl, rfl⟩
section
variable {w0 w w' : World} {t : Nat} {own : List Nat} {c k u o o' : Value} {s : yn} {rt rw : LV}
theorem Pl.new (h : Pl w0 w t own c k u o s rt rw) (hr : yL s = true) : Pl w0 w t own c k u (.slice none 0 0) s rt [] := ⟨h.e, h.tab, yx.nil h.ref.sch hr h.ref.nm, h.chg, h.fr⟩
theorem Pl.putT (h : Pl w0 w t own c k u o s rt rw) (hs : y4 w0 c k u s) {b : Nat} {x : List Value} (hb : zS w b 31 x) (hc : zk [b] w w') (hf : w0.heap.size ≤ b) (h0 : b ≠ 0) : Pl w0 w' t own c k u o s rt rw :=
 have hcc := h.chg.own hc (by intro y hy; simp at hy; omega)
 ⟨h.e.chg hc (by simpa using fun e => h0 e.symm), h.tab.put (hs.chg0 hcc) hb zva hc, ⟨hs.chg0 hcc, h.ref.rws.chgB hb rfl rfl hc, h.ref.ok, h.ref.nm⟩, hcc, h.fr⟩
end
theorem zmn (t : Nat) (own : List Nat) (c k u : Value) (s : yn) (rows : LV) (key : ByteArray) (w : World) (h : zdg w t own c k u s rows) :
 z9 TP 27 #[Pt t, .string key] w fun r w' => ∃ q5 q3 t' own', r = .func (.func 67) #[] #[Pt q5, Pt q3] ∧ zS w' q5 31 [Pt t'] ∧ zS w' q3 9 [.string key] ∧ zdg w' t' own' c k u s rows ∧ zk [] w w' := by
 refine A2 Tryz.func27 rfl rfl ?_
 refine Sr ?_
 refine Ob rfl rfl ?_
 intro b3 w3 e3 n3 c3 k3
 refine Oa rfl (E2 0 3 rfl (Sr (Om rfl ?_)))
 refine Oc zuQ rfl rfl rfl (znj t own s rows _ (h.1.chg0 c3)) ?_
 rintro v7 w7 ⟨t7, own7, rfl, i7, f7, g7, c7, hbk⟩
 refine zC (gn rfl) (zI zoa rfl rfl ?_)
 intro b5 w5 e5 n5 c5 k5
 refine zC (gn rfl) (zu znQ rfl rfl rfl rfl k5 (by simp) (by simp [Value.oneCell']) ?_)
 intro wA nA cA kA
 refine E2 3 5 rfl ?_
 have kA : zS wA b5 31 [Pt t7] := kA
 have hs3 := c3.size
 have hs7 := c7.size
 have hlow : Low w7 wA := ((Low.refl w7).own (Nat.le_refl _) c5 (by simp)).own c5.size cA (by intro y hy; simp at hy; omega)
 refine Sr ?_
 refine Og (zbh rfl rfl) rfl ?_
 refine Oa rfl (E1 4 rfl (zi ?_))
 refine zD rfl rfl ?_
 exact ⟨b5, b3, t7, own7, rfl, kA, ((k3.chg0 c7).chg0 c5).chg cA (by have := k3.lt; simp; omega), ⟨i7.kc hlow.kc, let ⟨pm, sv, hb⟩ := h.2; let ⟨pm', sv', hb'⟩ := hbk pm c k u sv (hb.chg0 c3); ⟨pm', sv', hb'.kc hlow.kc⟩⟩, ((c3.trans c7).trans c5).own cA (by intro y hy; simp at hy; omega)⟩
theorem zpB {xs : List (List zP × Value)} {row : List zP} {rows : LV} (h : xs.map (·.1) = rows) : (xs.any fun x => decide (x.1 = row)) = rows.any fun r => decide (r = row) := by
 rw [← h, List.any_map]
 rfl
set_option maxHeartbeats 2000000 in
theorem zjv (c k u : Value) (s : yn) (v : Value) (al : List zbT) (x : zcb) (a : zbT) (w : World) (hE : EOk w) (hs : y4 w c k u s) (hl : zc8 w v al) (hx : zbO w x a) :
 z9 TP 5 #[.agg #[c, k, u], v, .agg x.cs.toArray] w fun r w' => r = .bool true ∧ zk [] w w' := by
 obtain ⟨pv, cv, rfl, hcv⟩ := hl.val
 have hx0 := hx
 obtain ⟨xw, xa, xr, xk⟩ := x
 obtain ⟨e1, e2, e3, hrow, hrng, hat⟩ := hx
 simp only at e1 e2 e3
 subst e1 e2 e3
 refine z9.of_WM (args := [_, _, _]) Tryz.func5 rfl rfl rfl rfl ?_
 refine Sr ?_
 refine Ob rfl rfl ?_
 intro b3 w3 e3 n3 c3 k3
 refine Ob rfl rfl ?_
 intro b5 w5 e5 n5 c5 k5
 refine zC (gn rfl) (zI zr4 rfl rfl ?_)
 intro b6 w6 e6 n6 c6 k6
 refine E4 1 3 5 6 rfl ?_
 have k3 : zS w6 b3 30 [c, k, u] := (k3.chg0 c5).chg0 c6
 have k5 : zS w6 b5 50 [Ii a.what, Ii a.at', xr, .string a.key] := k5.chg0 c6
 have hc6 : zk [] w w6 := (c3.trans c5).trans c6
 have hs6 := hs.chg0 hc6
 have hl6 := hl.chg0 hc6
 have hx6 := hx0.chg0 hc6
 have hs3' := c3.size
 have hs5' := c5.size
 have hs6' := c6.size
 have hord : w.heap.size ≤ b6 ∧ b3 < b6 ∧ b5 < b6 := by omega
 obtain ⟨hb6, hb36, hb56⟩ := hord
 refine ze ?_
 refine yh (fun F wx => ∃ z : Bool, F = [(1, .slice pv al.length cv), (3, Pt b3), (5, Pt b5), (6, Pt b6), (44, .bool z)] ∧ (z = false → zio s ∧ yL s = true ∧ (∀ y ∈ al, y.row.length ≤ 1048576) ∧ a.row.length ≤ 1048576 ∧ al.length ≤ 25) ∧ zk [] w6 wx) ?_ ?_
 ·by_cases hF : zio s
  ·cases hR : yL s with
   | false =>
    refine za ?_
    refine Og (zg zbu zbt rfl rfl (zB.of_blk0 k3)) rfl ?_
    refine Oc zoV rfl rfl rfl (zlj c k u s _ hs6) ?_
    rintro v27 w27 ⟨e27, c27⟩
    rw [decide_eq_true hF] at e27
    subst e27
    refine Og (zU rfl) rfl (Om rfl ?_)
    refine Oy rfl rfl (zg zbu zbt rfl rfl (zB.of_blk0 (k3.chg0 c27))) ?_
    refine Ow rfl rfl zlU rfl rfl rfl (zej c k u s _ (hs6.chg0 c27) hF.nm) ?_
    rintro v31 w31 ⟨e31, c31⟩
    rw [hR] at e31
    subst e31
    refine Oy rfl rfl (zU rfl) ?_
    refine Of rfl (Om rfl (Oz rfl rfl (Oz rfl rfl (Oz rfl rfl (Ot rfl (Om rfl (Oz rfl rfl (Oz rfl rfl (Oz rfl rfl (Oz rfl rfl (Ot rfl (E5 1 3 5 6 44 rfl ?_))))))))))))
    exact ⟨true, rfl, (fun h => by cases h), c27.trans c31⟩
   | true =>
    by_cases hS : al.length ≤ 25 ∧ ∀ y ∈ al, zdW y
    ·by_cases hA : [a].length ≤ 1 ∧ ∀ y ∈ [a], zdW y
     ·refine za ?_
      refine Og (zg zbu zbt rfl rfl (zB.of_blk0 k3)) rfl ?_
      refine Oc zoV rfl rfl rfl (zlj c k u s _ hs6) ?_
      rintro v27 w27 ⟨e27, c27⟩
      rw [decide_eq_true hF] at e27
      subst e27
      refine Og (zU rfl) rfl (Om rfl ?_)
      refine Oy rfl rfl (zg zbu zbt rfl rfl (zB.of_blk0 (k3.chg0 c27))) ?_
      refine Ow rfl rfl zlU rfl rfl rfl (zej c k u s _ (hs6.chg0 c27) hF.nm) ?_
      rintro v31 w31 ⟨e31, c31⟩
      rw [hR] at e31
      subst e31
      refine Oy rfl rfl (zU rfl) ?_
      refine Of rfl (Om rfl (Oj rfl rfl ?_))
      refine Ow rfl rfl zpU rfl rfl rfl (zeY _ al 25 _ ((hl6.chg0 c27).chg0 c31) (by decide)) ?_
      rintro v36 w36 ⟨e36, rfl⟩
      rw [decide_eq_true hS] at e36
      subst e36
      refine Oy rfl rfl (zU rfl) ?_
      refine Of rfl (Om rfl ?_)
      refine Oy rfl rfl (zg zlB zeD rfl rfl (zB.of_blk0 ((k5.chg0 c27).chg0 c31))) ?_
      refine zC (gy rfl rfl rfl) (zy zuD rfl (vs := [_]) rfl (css := [_]) ⟨rfl, trivial⟩ rfl rfl (cs := [_, _, _, _]) rfl rfl ?_)
      intro b41 w41 e41 n41 c41 k41
      refine Ow rfl rfl zpU rfl rfl rfl (zeY _ [a] 1 _ (zmN (x := ⟨_, _, _, _⟩) k41 (((hx6.chg0 c27).chg0 c31).chg0 c41)) (by decide)) ?_
      rintro v42 w42 ⟨e42, rfl⟩
      rw [decide_eq_true hA] at e42
      subst e42
      refine Oy rfl rfl (zU rfl) ?_
      refine Of rfl (E5 1 3 5 6 44 rfl ?_)
      exact ⟨false, rfl, fun _ => ⟨hF, rfl, zo3 hS, zo3 hA a (by simp), hS.1⟩, (c27.trans c31).trans c41⟩
     refine za ?_
     refine Og (zg zbu zbt rfl rfl (zB.of_blk0 k3)) rfl ?_
     refine Oc zoV rfl rfl rfl (zlj c k u s _ hs6) ?_
     rintro v27 w27 ⟨e27, c27⟩
     rw [decide_eq_true hF] at e27
     subst e27
     refine Og (zU rfl) rfl (Om rfl ?_)
     refine Oy rfl rfl (zg zbu zbt rfl rfl (zB.of_blk0 (k3.chg0 c27))) ?_
     refine Ow rfl rfl zlU rfl rfl rfl (zej c k u s _ (hs6.chg0 c27) hF.nm) ?_
     rintro v31 w31 ⟨e31, c31⟩
     rw [hR] at e31
     subst e31
     refine Oy rfl rfl (zU rfl) ?_
     refine Of rfl (Om rfl (Oj rfl rfl ?_))
     refine Ow rfl rfl zpU rfl rfl rfl (zeY _ al 25 _ ((hl6.chg0 c27).chg0 c31) (by decide)) ?_
     rintro v36 w36 ⟨e36, rfl⟩
     rw [decide_eq_true hS] at e36
     subst e36
     refine Oy rfl rfl (zU rfl) ?_
     refine Of rfl (Om rfl ?_)
     refine Oy rfl rfl (zg zlB zeD rfl rfl (zB.of_blk0 ((k5.chg0 c27).chg0 c31))) ?_
     refine zC (gy rfl rfl rfl) (zy zuD rfl (vs := [_]) rfl (css := [_]) ⟨rfl, trivial⟩ rfl rfl (cs := [_, _, _, _]) rfl rfl ?_)
     intro b41 w41 e41 n41 c41 k41
     refine Ow rfl rfl zpU rfl rfl rfl (zeY _ [a] 1 _ (zmN (x := ⟨_, _, _, _⟩) k41 (((hx6.chg0 c27).chg0 c31).chg0 c41)) (by decide)) ?_
     rintro v42 w42 ⟨e42, rfl⟩
     rw [decide_eq_false hA] at e42
     subst e42
     refine Oy rfl rfl (zU rfl) ?_
     refine Of rfl (E5 1 3 5 6 44 rfl ?_)
     exact ⟨true, rfl, (fun h => by cases h), (c27.trans c31).trans c41⟩
    refine za ?_
    refine Og (zg zbu zbt rfl rfl (zB.of_blk0 k3)) rfl ?_
    refine Oc zoV rfl rfl rfl (zlj c k u s _ hs6) ?_
    rintro v27 w27 ⟨e27, c27⟩
    rw [decide_eq_true hF] at e27
    subst e27
    refine Og (zU rfl) rfl (Om rfl ?_)
    refine Oy rfl rfl (zg zbu zbt rfl rfl (zB.of_blk0 (k3.chg0 c27))) ?_
    refine Ow rfl rfl zlU rfl rfl rfl (zej c k u s _ (hs6.chg0 c27) hF.nm) ?_
    rintro v31 w31 ⟨e31, c31⟩
    rw [hR] at e31
    subst e31
    refine Oy rfl rfl (zU rfl) ?_
    refine Of rfl (Om rfl (Oj rfl rfl ?_))
    refine Ow rfl rfl zpU rfl rfl rfl (zeY _ al 25 _ ((hl6.chg0 c27).chg0 c31) (by decide)) ?_
    rintro v36 w36 ⟨e36, rfl⟩
    rw [decide_eq_false hS] at e36
    subst e36
    refine Oy rfl rfl (zU rfl) ?_
    refine Of rfl (Om rfl (Oz rfl rfl (Oz rfl rfl (Oz rfl rfl (Oz rfl rfl (Ot rfl (E5 1 3 5 6 44 rfl ?_)))))))
    exact ⟨true, rfl, (fun h => by cases h), c27.trans c31⟩
  refine za ?_
  refine Og (zg zbu zbt rfl rfl (zB.of_blk0 k3)) rfl ?_
  refine Oc zoV rfl rfl rfl (zlj c k u s _ hs6) ?_
  rintro v27 w27 ⟨e27, c27⟩
  rw [decide_eq_false hF] at e27
  subst e27
  refine Og (zU rfl) rfl (Om rfl (Oz rfl rfl (Oz rfl rfl (Oz rfl rfl (Ot rfl (Om rfl (Oz rfl rfl (Oz rfl rfl (Oz rfl rfl (Ot rfl (Om rfl (Oz rfl rfl (Oz rfl rfl ?_)))))))))))))
  refine Oz rfl rfl (Oz rfl rfl (Ot rfl (E5 1 3 5 6 44 rfl ?_)))
  exact ⟨true, rfl, (fun h => by cases h), c27⟩
 rintro F wx ⟨z, rfl, hz, hc6x⟩
 have hcx := hc6.trans hc6x
 have k3 := k3.chg0 hc6x
 have k5 := k5.chg0 hc6x
 have k6 : zS wx b6 4 [.bool false] := k6.chg0 hc6x
 have hsx := hs.chg0 hcx
 cases z with
 | true =>
  refine zd rfl (Sr ?_)
  refine Oc bd9 rfl rfl rfl (zjr _ (hE.chg0 hcx)) ?_
  rintro v45 w45 ⟨rfl, c45⟩
  refine zC (gn rfl) (zu sz4 rfl rfl rfl rfl (k6.chg0 c45) (by simp) (by simp [Value.oneCell']) ?_)
  intro wA nA cA kA
  refine E1 6 rfl (zi ?_)
  repeat first | refine tr ?_ | refine br ?_
  refine zu1 (v := .bool true) rfl ag4 rfl (kA.cell' rfl) ?_
  exact ⟨rfl, (hcx.trans c45).own cA (by intro y hy; simp at hy; omega)⟩
 | false =>
  obtain ⟨hF, hR, hS, hA, h25⟩ := hz rfl
  refine zb rfl (zm (Sr ?_))
  refine Og (zg zbu zbt rfl rfl (zB.of_blk0 k3)) rfl ?_
  refine Oc zvJ rfl rfl rfl (zoM c k u s _ hsx hR) ?_
  rintro v48 w48 ⟨t, own, rfl, hT, ht1, ho1, c48, hbt⟩
  refine Om rfl (Oe rfl rfl (Oe rfl rfl ?_))
  refine zC (gn rfl) (zI zoa rfl rfl ?_)
  intro b7 w7 e7 n7 c7 k7
  refine zC (gn rfl) (zu znQ rfl rfl rfl rfl k7 (by simp) (by simp [Value.oneCell']) ?_)
  intro wA nA cA kA
  refine Oa rfl (E6 1 3 5 6 7 8 rfl ?_)
  have hc48 := hcx.trans c48
  have hsx' := hc6x.size
  have hs48 := c48.size
  have hs7 := c7.size
  have kA : zS wA b7 31 [Pt t] := kA
  have hcA : zk [] w48 wA := c7.own cA (by intro y hy; simp at hy; omega)
  have hPA : Pl w wA t own c k u (.slice none 0 0) s [] [] := Pl.chg0 ⟨hE.chg0 hc48, ⟨hT, hbt⟩, yx.nil (hs.chg0 hc48) hR hF.nm, hc48, fun p hp => by have := ho1 p hp; have := hcx.size; omega⟩ hcA
  have k3 : zS wA b3 30 [c, k, u] := (k3.chg0 c48).chg0 hcA
  have k5 : zS wA b5 50 [Ii a.what, Ii a.at', xr, .string a.key] := (k5.chg0 c48).chg0 hcA
  have k6 := (k6.chg0 c48).chg0 hcA
  have hb7 : w.heap.size ≤ b7 ∧ b7 ≠ 0 ∧ b6 < b7 := by have := k6.lt; have := hc6x.size; omega
  obtain ⟨hb7, hb70, hb67⟩ := hb7
  refine ze (Sr (Oa rfl (E7 1 3 5 6 7 8 9 rfl (zq ?_))))
  refine zY [1, 3, 5, 6, 7, 8, 9] (fun m F wx => ∃ (j : Nat) (t : Nat) (own : List Nat) (R : LV), m = al.length - j ∧ j ≤ al.length ∧ F = [(1, .slice pv al.length cv), (3, Pt b3), (5, Pt b5), (6, Pt b6), (7, Pt b7), (8, Ii 0), (9, Ii j)] ∧ Pl w wx t own c k u (.slice none 0 0) s R [] ∧ zS wx b7 31 [Pt t] ∧ zS wx b3 30 [c, k, u] ∧ zS wx b5 50 [Ii a.what, Ii a.at', xr, .string a.key] ∧ zS wx b6 4 [.bool false]) (m := al.length - 0) ⟨0, t, own, [], rfl, Nat.zero_le _, rfl, hPA, kA, k3, k5, k6⟩ ?_
  rintro m F wy ⟨j, t, own, R, rfl, hj, rfl, hP, kb, k3, k5, k6⟩
  refine ze (ze ?_)
  by_cases hlt : j < al.length
  ·refine za (Om rfl (Om rfl (On zeQ rfl ?_)))
   refine Og (vt (zz rfl rfl) (by simp; omega)) rfl ?_
   refine Om rfl (Oj rfl rfl ?_)
   refine Ow rfl rfl zdl rfl rfl rfl (zby _ _) ?_
   rintro v57 w57 ⟨rfl, rfl⟩
   refine Oy rfl rfl (vt (zw rfl rfl) (decide_eq_true (by omega))) ?_
   refine Ot rfl (E8 1 3 5 6 7 8 9 59 rfl (zd rfl (zm ?_)))
   have hj' : al[j]? = some al[j] := by simp [hlt]
   have hmem := List.getElem_mem hlt
   generalize al[j] = y at hj' hmem
   obtain ⟨y', bo, oo, cp, hve, hcell, hya⟩ := (hl.chg0 hP.chg).at hj'
   cases hve
   have hd : zk [] w57 w57.drew := zk.drew [] _
   have hPd := hP.chg0 hd
   refine ze (zq ?_)
   refine zO (fun wz => zk [] w57 wz) mix (by kernel_rfl) hd ?_
   refine Tr (fun wz hz => zj zfM rfl ((kb.chg0 hz).cell' rfl)) rfl ?_
   refine Tr (fun wz hz => zg zbu zbt rfl rfl (zB.of_blk0 (k3.chg0 hz))) rfl ?_
   refine Tp (fun _ => zZ zxo zcW rfl (vs := [_]) rfl (css := [_]) ⟨rfl, trivial⟩ rfl rfl (cs := [_, _, _, _]) rfl) rfl ?_
   refine Tm rfl (Tm rfl ?_)
   refine Tp (fun _ => zf zeQ zeD rfl rfl _ rfl hlt) rfl ?_
   refine Tr (fun wz hz => zg zlB zeD rfl rfl (fun i v hi => hz.cell (hcell i v hi))) rfl ?_
   refine Tc zxP rfl rfl rfl (zun t own c k u (.slice none 0 0) s R [] y' y _ hPd.e hPd.tab hPd.ref (hya.chg0 hd) (hS y hmem)) ?_
   rintro v70 w70 h70
   obtain ⟨t2, own2, p2, n2, b2, rfl, hP2, -, hcA2⟩ := hPd.act h70
   refine ⟨.inr (by kernel_rfl), ?_⟩
   refine Tm rfl ?_
   refine Tp (fun _ => zM rfl rfl) rfl ?_
   refine Tp (fun _ => zM rfl rfl) rfl ?_
   refine Tp (fun _ => zM rfl rfl) rfl ?_
   refine zaq rfl (gn rfl) (zu znQ rfl rfl rfl rfl ((kb.chg0 hd).tab hPd.tab.1 rfl hcA2) (by simp) (by simp [Value.oneCell']) ?_)
   intro wB nB cB kB
   refine ⟨.inr (by kernel_rfl), ?_⟩
   refine zdU [1, 3, 5, 6, 7, 8, 9] (F' := [(1, _), (3, _), (5, _), (6, _), (7, _), (8, _), (9, _)]) rfl ?_
   have kb2 := (kb.chg0 hd).tab hPd.tab.1 rfl hcA2
   have hP3 := (hP2.new hR).putT hs kb2 cB hb7 hb70
   have k3 := ((k3.chg0 hd).tab hPd.tab.1 rfl hcA2).chg cB (by simp; omega)
   have k5 := ((k5.chg0 hd).tab hPd.tab.1 rfl hcA2).chg cB (by simp; omega)
   have k6 := ((k6.chg0 hd).tab hPd.tab.1 rfl hcA2).chg cB (by simp; omega)
   refine zh (za (Om rfl ?_))
   refine Og (zH rfl rfl (by omega)) rfl ?_
   refine Oa rfl ?_
   refine zaw [1, 3, 5, 6, 7, 8, 9] (F' := [(1, _), (3, _), (5, _), (6, _), (7, _), (8, _), (9, _)]) rfl ?_
   exact ⟨al.length - (j + 1), by omega, j + 1, t2, own2, _, rfl, by omega, rfl, hP3, kB, k3, k5, k6⟩
  refine za (Om rfl (Om rfl (On zeQ rfl ?_)))
  refine Og (vf (zz rfl rfl) (by simp; omega)) rfl ?_
  refine Om rfl (Oz rfl rfl (Oz rfl rfl (Oz rfl rfl (Of rfl (E8 1 3 5 6 7 8 9 59 rfl (zb rfl ?_))))))
  refine zN ?_
  repeat first | refine te ?_ | refine bo rfl ?_
  refine zt _ ?_
  have hTO := hP.tab.1.ok
  have h400 := hTO.le
  refine Sr ?_
  refine Ol zfM rfl (kb.cell' rfl) ?_
  refine Oc zkB rfl rfl rfl (zjB hP.tab.1) ?_
  rintro v75 w75 ⟨rfl, rfl⟩
  refine Oa rfl (E6 3 5 6 7 8 10 rfl (ze ?_))
  have hrowy : zK w75 xr a.row := hrow.chg0 hP.chg
  refine za ?_
  refine Ol zfM rfl (kb.cell' rfl) ?_
  refine Od za0 rfl ?_
  refine Ol zaV rfl (k5.cell' (i := 2) rfl) ?_
  refine Oc ztf rfl rfl rfl (zgC t own s R xr a.row _ hP.e hP.tab.1 hrowy hrng hA) ?_
  rintro v80 w80 ⟨o80, rfl, i80, f80, iT, c80⟩
  refine Om rfl (Oe rfl rfl (Oe rfl rfl (Oa rfl (Oa rfl (E8 3 5 6 7 8 10 11 12 rfl ?_)))))
  obtain ⟨p80, q80, rfl, -⟩ := id (yR.val i80)
  have hcc := hP.chg.own c80 hP.fr
  have hE80 := hP.e.tab hP.tab.1 c80
  have hT80 : zdg w80 t own c k u s (zdj s R a.row) := ⟨iT, let ⟨pm, sv, hb⟩ := hP.tab.2; ⟨pm, sv, hb.tab hP.tab.1 rfl c80⟩⟩
  have k3 := k3.tab hP.tab.1 rfl c80
  have k5 := k5.tab hP.tab.1 rfl c80
  have k6 := k6.tab hP.tab.1 rfl c80
  have kb := kb.tab hP.tab.1 rfl c80
  have hTO' := iT.ok
  have h400' := hTO'.le
  have hgl := (zmv hTO a.row).2
  have hlast : ∀ g ∈ zcB s R a.row, yT s g = 0 ∧ yy s g a.row = true ∧ yT s a.row = 0 := fun g hg => ⟨hTO.fit g (zh0 hg).1, (zh0 hg).2⟩
  have hin : zcm s R a.row = 0 → (zdj s R a.row).any (fun r => decide (r = a.row)) = true := fun h => List.any_eq_true.2 ⟨a.row, zq3 h, decide_eq_true rfl⟩
  have hb6y := k6.lt
  have hb7y := kb.lt
  have hcsz := hcc.size
  refine ze ?_
  refine yh (fun F wz => F = [(3, Pt b3), (5, Pt b5), (6, Pt b6), (7, Pt b7), (11, .slice p80 (zcB s R a.row).length q80), (12, Ii (zcm s R a.row)), (111, .bool false)] ∧ wz = w80) ?_ ?_
  ·by_cases h0 : zcm s R a.row = 0
   ·have hlen := zqr h0
    refine za (Om rfl ?_)
    refine Oc zdl rfl rfl rfl (zby _ _) ?_
    rintro v84 w84 ⟨rfl, rfl⟩
    refine Og (vf (zX rfl rfl) (zbQ (by omega))) rfl ?_
    refine Om rfl (Oj rfl rfl ?_)
    refine Ow rfl rfl zdl rfl rfl rfl (zby _ _) ?_
    rintro v88 w88 ⟨rfl, rfl⟩
    refine Oy rfl rfl (vt (zw rfl rfl) (by simp [h0])) ?_
    refine Oj rfl rfl ?_
    refine Oy rfl rfl (zj zfM rfl (kb.cell' rfl)) ?_
    refine Ow rfl rfl zkB rfl rfl rfl (zjB iT) ?_
    rintro v92 w92 ⟨rfl, rfl⟩
    refine Oj rfl rfl (Oj rfl rfl ?_)
    refine Oy rfl rfl (yd zao rfl) ?_
    refine Oy rfl rfl (yJ rfl rfl (by omega)) ?_
    refine Oy rfl rfl (zH rfl rfl (by omega)) ?_
    refine Oy rfl rfl (vf (zX rfl rfl) (zbQ (by omega))) ?_
    refine Oy rfl rfl (zL rfl rfl) ?_
    refine Of rfl (Om rfl (Oj rfl rfl ?_))
    refine Ow rfl rfl zdl rfl rfl rfl (zby _ _) ?_
    rintro v103 w103 ⟨rfl, rfl⟩
    refine Oy rfl rfl (vf (zX rfl rfl) (by simp [h0])) ?_
    refine Oj rfl rfl (Oz rfl rfl (Oz rfl rfl (Oz rfl rfl (Oz rfl rfl ?_))))
    refine Oy rfl rfl (zR rfl rfl) ?_
    refine Of rfl (E7 3 5 6 7 11 12 111 rfl ?_)
    exact ⟨rfl, rfl⟩
   have hlen := (zph h0).1
   refine za (Om rfl ?_)
   refine Oc zdl rfl rfl rfl (zby _ _) ?_
   rintro v84 w84 ⟨rfl, rfl⟩
   refine Og (vf (zX rfl rfl) (zbQ (by omega))) rfl ?_
   refine Om rfl (Oj rfl rfl ?_)
   refine Ow rfl rfl zdl rfl rfl rfl (zby _ _) ?_
   rintro v88 w88 ⟨rfl, rfl⟩
   refine Oy rfl rfl (vf (zw rfl rfl) (by simp [h0])) ?_
   refine Oj rfl rfl (Oz rfl rfl (Oz rfl rfl (Oz rfl rfl (Oz rfl rfl (Oz rfl rfl (Oz rfl rfl (Oz rfl rfl (Oz rfl rfl ?_))))))))
   refine Oy rfl rfl (zR rfl rfl) ?_
   refine Of rfl (Om rfl (Oj rfl rfl ?_))
   refine Ow rfl rfl zdl rfl rfl rfl (zby _ _) ?_
   rintro v103 w103 ⟨rfl, rfl⟩
   refine Oy rfl rfl (vt (zX rfl rfl) (by simp [h0])) ?_
   refine Oj rfl rfl ?_
   refine Oy rfl rfl (zj zfM rfl (kb.cell' rfl)) ?_
   refine Ow rfl rfl zkB rfl rfl rfl (zjB iT) ?_
   rintro v107 w107 ⟨rfl, rfl⟩
   refine Oj rfl rfl ?_
   refine Oy rfl rfl (vf (zX rfl rfl) (by simp [hlen])) ?_
   refine Oy rfl rfl (zL rfl rfl) ?_
   refine Of rfl (E7 3 5 6 7 11 12 111 rfl ?_)
   exact ⟨rfl, rfl⟩
  rintro F wq ⟨rfl, rfl⟩
  refine zb rfl (zm ?_)
  generalize hRR : zdj s R a.row = RR at *
  generalize hGG : zcB s R a.row = GG at *
  generalize hee : zcm s R a.row = ee at *
  clear hP
  refine yh (fun F wz => ∃ (q5 q3 t' : Nat) (own' : List Nat) (vs : Value) (b14 : Nat), F = [(5, Pt b5), (6, Pt b6), (7, Pt b7), (11, .slice p80 GG.length q80), (12, Ii ee), (13, .func (.func 67) #[] #[Pt q5, Pt q3]), (14, Pt b14)] ∧ zS wz b14 28 [vs] ∧ zbM wz vs (zG s) ∧ zS wz q5 31 [Pt t'] ∧ zS wz q3 9 [.string e0] ∧ yS wz t' own' s RR ∧ zk [] wq wz) ?_ ?_
  ·have hC := (zk.drew [] wq)
   refine zei (fun wz => zk [] wq wz) (zax.seq [0, 2] (.two 1 (zax.seq [] (.two 3 (zax.seq [4, 5, 6] .done) 4 (zax.seq [3, 5, 6] .done))) 4 (zax.seq [1, 3, 5, 6] .done))) mix (by kernel_rfl) hC ?_
   refine zcQ rfl rfl (gn rfl) (fun wz hz => zj zfM rfl ((kb.chg0 hz).cell' rfl)) rfl rfl ?_
   refine zcQ rfl rfl (gn rfl) (fun wz hz => zg zbu zbt rfl rfl (zB.of_blk0 (k3.chg0 hz))) rfl rfl ?_
   refine zdM ?_ ?_
   ·refine yP rfl rfl (gn rfl) (yB zv3 rfl rfl rfl rfl (zmn t own c k u s RR e0 _ (hT80.chg0 hC)) ?_)
    rintro v113 w113 ⟨q5, q3, t', own', rfl, kq5, kq3, iT2, c113⟩
    have hs113 := c113.size
    have hN113 := hC.size
    have hC := hC.trans c113
    refine ⟨.inl hC, ?_⟩
    refine zdM ?_ ?_
    ·refine yP rfl rfl (gn rfl) (yB zob rfl rfl rfl rfl (zhC c k u s _ (hs.chg0 (hcc.trans hC)) hR hF.nm) ?_)
     rintro v115 w115 ⟨i115, f115, c115⟩
     have hl115 := yR.lt i115 (by simp [zG])
     obtain ⟨p115, q115, rfl, -⟩ := id (yR.val i115)
     have hN115 := hC.size
     have hC := hC.trans c115
     have kq5 := kq5.chg0 c115
     have kq3 := kq3.chg0 c115
     have iT2 := iT2.chg0 c115
     refine ⟨.inl hC, ?_⟩
     refine yP rfl rfl (gn rfl) (zI zqF rfl rfl ?_)
     intro b14 w14 e14 n14 c14 k14
     have hN14 := hC.size
     have hC := hC.trans c14
     have kq5 := kq5.chg0 c14
     have kq3 := kq3.chg0 c14
     have iT2 := iT2.chg0 c14
     have i115 := i115.chg0 c14
     refine ⟨.inl hC, ?_⟩
     refine z6 rfl rfl (gn rfl) (fun _ => zQ rfl) rfl rfl ?_
     refine yP rfl rfl (gn rfl) (zu zn2 rfl rfl rfl rfl k14 (by simp) (by simp [Value.oneCell']) ?_)
     intro wA nA cA kA
     have hC := hC.own cA (by intro y hy; simp at hy; omega)
     refine ⟨.inl hC, ?_⟩
     refine zb3 [5, 6, 7, 11, 12, 13, 14] (F' := [(5, _), (6, _), (7, _), (11, _), (12, _), (13, _), (14, _)]) rfl ?_
     have hne : ∀ x ∈ zn (.slice p115 (zG s).length q115), x ∉ [b14] := by
      intro x hx hm
      simp at hm
      subst hm
      have h1 := f115 _ hx
      have h2 := hl115 _ hx
      omega
     have iT3 := iT2.put (hs.chg0 (hcc.trans hC)) k14 zp8 cA
     have hq5 := kq5.ne k14 rfl
     have hq3 := kq3.ne k14 rfl
     exact ⟨q5, q3, t', own', _, b14, rfl, kA, yR.chgF i115 cA hne zf5 (Nl.one k14 (by intro y hy; simp at hy; subst hy; rfl)), kq5.chg cA (by simpa using hq5), kq3.chg cA (by simpa using hq3), iT3.1, hC⟩
    refine yP rfl rfl (gn rfl) (zI zqF rfl rfl ?_)
    intro b14 w14 e14 n14 c14 k14
    have hN14 := hC.size
    have hC := hC.trans c14
    have kq5 := kq5.chg0 c14
    have kq3 := kq3.chg0 c14
    have iT2 := iT2.chg0 c14
    refine ⟨.inl hC, ?_⟩
    refine yP rfl rfl (gn rfl) (yB zob rfl rfl rfl rfl (zhC c k u s _ (hs.chg0 (hcc.trans hC)) hR hF.nm) ?_)
    rintro v115 w115 ⟨i115, f115, c115⟩
    have hl115 := yR.lt i115 (by simp [zG])
    obtain ⟨p115, q115, rfl, -⟩ := id (yR.val i115)
    have hN115 := hC.size
    have hC := hC.trans c115
    have kq5 := kq5.chg0 c115
    have kq3 := kq3.chg0 c115
    have iT2 := iT2.chg0 c115
    have k14 := k14.chg0 c115
    refine ⟨.inl hC, ?_⟩
    refine z6 rfl rfl (gn rfl) (fun _ => zQ rfl) rfl rfl ?_
    refine yP rfl rfl (gn rfl) (zu zn2 rfl rfl rfl rfl k14 (by simp) (by simp [Value.oneCell']) ?_)
    intro wA nA cA kA
    have hC := hC.own cA (by intro y hy; simp at hy; omega)
    refine ⟨.inl hC, ?_⟩
    refine zb3 [5, 6, 7, 11, 12, 13, 14] (F' := [(5, _), (6, _), (7, _), (11, _), (12, _), (13, _), (14, _)]) rfl ?_
    have hne : ∀ x ∈ zn (.slice p115 (zG s).length q115), x ∉ [b14] := by
     intro x hx hm
     simp at hm
     subst hm
     have h1 := f115 _ hx
     have h2 := hl115 _ hx
     omega
    have iT3 := iT2.put (hs.chg0 (hcc.trans hC)) k14 zp8 cA
    have hq5 := kq5.ne k14 rfl
    have hq3 := kq3.ne k14 rfl
    exact ⟨q5, q3, t', own', _, b14, rfl, kA, yR.chgF i115 cA hne zf5 (Nl.one k14 (by intro y hy; simp at hy; subst hy; rfl)), kq5.chg cA (by simpa using hq5), kq3.chg cA (by simpa using hq3), iT3.1, hC⟩
   refine yP rfl rfl (gn rfl) (zI zqF rfl rfl ?_)
   intro b14 w14 e14 n14 c14 k14
   have hN14 := hC.size
   have hC := hC.trans c14
   refine ⟨.inl hC, ?_⟩
   refine yP rfl rfl (gn rfl) (yB zv3 rfl rfl rfl rfl (zmn t own c k u s RR e0 _ (hT80.chg0 hC)) ?_)
   rintro v113 w113 ⟨q5, q3, t', own', rfl, kq5, kq3, iT2, c113⟩
   have hs113 := c113.size
   have hN113 := hC.size
   have hC := hC.trans c113
   have k14 := k14.chg0 c113
   refine ⟨.inl hC, ?_⟩
   refine yP rfl rfl (gn rfl) (yB zob rfl rfl rfl rfl (zhC c k u s _ (hs.chg0 (hcc.trans hC)) hR hF.nm) ?_)
   rintro v115 w115 ⟨i115, f115, c115⟩
   have hl115 := yR.lt i115 (by simp [zG])
   obtain ⟨p115, q115, rfl, -⟩ := id (yR.val i115)
   have hN115 := hC.size
   have hC := hC.trans c115
   have kq5 := kq5.chg0 c115
   have kq3 := kq3.chg0 c115
   have iT2 := iT2.chg0 c115
   have k14 := k14.chg0 c115
   refine ⟨.inl hC, ?_⟩
   refine z6 rfl rfl (gn rfl) (fun _ => zQ rfl) rfl rfl ?_
   refine yP rfl rfl (gn rfl) (zu zn2 rfl rfl rfl rfl k14 (by simp) (by simp [Value.oneCell']) ?_)
   intro wA nA cA kA
   have hC := hC.own cA (by intro y hy; simp at hy; omega)
   refine ⟨.inl hC, ?_⟩
   refine zb3 [5, 6, 7, 11, 12, 13, 14] (F' := [(5, _), (6, _), (7, _), (11, _), (12, _), (13, _), (14, _)]) rfl ?_
   have hne : ∀ x ∈ zn (.slice p115 (zG s).length q115), x ∉ [b14] := by
    intro x hx hm
    simp at hm
    subst hm
    have h1 := f115 _ hx
    have h2 := hl115 _ hx
    omega
   have iT3 := iT2.put (hs.chg0 (hcc.trans hC)) k14 zp8 cA
   have hq5 := kq5.ne k14 rfl
   have hq3 := kq3.ne k14 rfl
   exact ⟨q5, q3, t', own', _, b14, rfl, kA, yR.chgF i115 cA hne zf5 (Nl.one k14 (by intro y hy; simp at hy; subst hy; rfl)), kq5.chg cA (by simpa using hq5), kq3.chg cA (by simpa using hq3), iT3.1, hC⟩
  rintro F wr ⟨q5, q3, t', own', vs, b14, rfl, k14, iss, kq5, kq3, it', hcr⟩
  obtain ⟨psS, csS, rfl, hcsS⟩ := yR.val iss
  have hccr := hcc.trans hcr
  have k5 := k5.chg0 hcr
  have k6 := k6.chg0 hcr
  have hb6r := k6.lt
  have kb := kb.chg0 hcr
  have hTr := hT80.chg0 hcr
  have hEr := hE80.chg0 hcr
  have hrowr : zK wr xr a.row := hrow.chg0 hccr
  have i80 := yR.chg0 i80 hcr
  refine ze (Sr (Om rfl ?_))
  refine Og (zqp ztO rfl rfl) rfl ?_
  refine E8 5 6 7 11 12 13 14 117 rfl (zb rfl (zm (Sr ?_)))
  refine zC (gn rfl) (zI zr4 rfl rfl ?_)
  intro b15 w15 e15 n15 c15 k15
  refine zC (gn rfl) (zu sz4 rfl rfl rfl rfl k15 (by simp) (by simp [Value.oneCell']) ?_)
  intro wB nB cB kB
  refine E8 5 6 7 11 12 13 14 15 rfl ?_
  have kB : zS wB b15 4 [.bool false] := kB
  have hcB : zk [] wr wB := c15.own cB (by intro y hy; simp at hy; omega)
  have hb15 : wr.heap.size ≤ b15 := by omega
  have hsr := hccr.size
  have hsB := hcB.size
  have hb15B := kB.lt
  refine yh (fun F wz => ∃ (D : Nat) (f118 : Value), F = [(1000000, Ii D), (5, Pt b5), (6, Pt b6), (7, Pt b7), (11, .slice p80 GG.length q80), (12, Ii ee), (14, Pt b14), (15, Pt b15), (118, f118)] ∧ wB.heap.size ≤ D ∧ wz.heap[D]? = some (.deferred (some [])) ∧ zS wz b15 4 [.bool (RR.any fun r => decide (r = a.row))] ∧ zk [b15] wB wz) ?_ ?_
  ·refine Sr (Om rfl (E8 5 6 7 11 12 14 15 118 rfl (zq ?_)))
   refine zh6 (α := List zP × Value) (gf := 67) (lb := [Pt q5, Pt q3]) (encs := fun x : List zP × Value => #[.string (z0 s x.1), x.2])
    (fun pre X => zS X b15 4 [.bool (pre.any fun x => decide (x.1 = a.row))] ∧ zk [b15] wB X)
    (fun _ _ _ => False)
    (fun x => [(120, x.2), (119, .string (z0 s x.1)), (5, Pt b5), (6, Pt b6), (7, Pt b7), (11, .slice p80 GG.length q80), (12, Ii ee), (14, Pt b14), (15, Pt b15), (118, .func (.func 67) #[] #[Pt q5, Pt q3])])
    (fun x => [(5, Pt b5), (6, Pt b6), (7, Pt b7), (11, .slice p80 GG.length q80), (12, Ii ee), (14, Pt b14), (15, Pt b15), (17, x.2), (120, x.2)])
    rfl zxi
    (zmf wr wB hcB t' q5 q3 own' s RR e0 [b15] (fun e => !Nat.beq 4 e) it' kq5 kq3 (by intro b hb; simp at hb; omega) (fun b hb e cs hk => by
     simp at hb
     subst hb
     have := Option.some.inj ((show wB.heap[b]? = _ from hk).symm.trans kB)
     cases this
     rfl) rfl rfl rfl rfl rfl)
    (fun _ => rfl) (fun x W W' hb hh => ⟨zv.bk hh.1 hb, hh.2⟩) (fun _ _ _ _ hh => hh) (fun _ _ _ _ hh => hh) ?_ (fun _ _ _ _ _ hh => hh) ?_ (fun pre X hI => hI.2.size) ?_ ?_ ?_ ?_ ?_
   ·rintro pre X X' hb ⟨g2, g3⟩
    exact ⟨g2.bk hb, g3.bk (Nat.le_refl _) hb⟩
   ·exact ⟨kB, zk.refl _ _⟩
   ·intro x a' ha
    exact ha.vars2 rfl rfl rfl
   ·intro l' x X
    refine yp ?_
    refine yf (gn rfl) rfl (St.vl (zQ rfl) rfl rfl ?_)
    refine zdd [5, 6, 7, 11, 12, 14, 15, 17, 120] (F' := [(5, _), (6, _), (7, _), (11, _), (12, _), (14, _), (15, _), (17, _), (120, _)]) rfl ?_
    exact ⟨rfl, rfl, rfl⟩
   ·rintro l' pre ⟨r, vx⟩ X ⟨g2, g3⟩ ⟨hv, hvo⟩ hgo
    have hrowm := zqy hTO' hgo
    replace hv : zaT X vx r := hv
    have hmem : r ∈ RR := List.mem_of_getElem? hrowm
    have hfit := hTO'.fit r hmem
    have hrl : r.length ≤ 1048576 := zjN hfit
    have hlow : Low wr X := hcB.lowS g3 (by intro b hb; simp at hb; omega)
    have hrowX : zK X xr a.row := Rd.kc hrowr hlow.kc
    have k5X := k5.kc hlow.kc
    refine zdm ?_
    refine ziQ (fun F wz => F = [(5, Pt b5), (6, Pt b6), (7, Pt b7), (11, .slice p80 GG.length q80), (12, Ii ee), (14, Pt b14), (15, Pt b15), (17, vx), (120, vx)] ∧ zS wz b15 4 [.bool ((pre ++ [(r, vx)]).any fun x => decide (x.1 = a.row))] ∧ zk [b15] X wz) ?_ ?_
    ·cases hany : pre.any (fun x => decide (x.1 = a.row)) with
     | true =>
      rw [hany] at g2
      refine yp ?_
      refine yf (gn rfl) rfl (St.vl (zj ag4 rfl (g2.cell' rfl)) rfl rfl ?_)
      refine Xm rfl ?_
      refine zfQ rfl rfl rfl rfl rfl rfl ?_
      refine zfQ rfl rfl rfl rfl rfl rfl ?_
      refine zfQ rfl rfl rfl rfl rfl rfl ?_
      refine zfQ rfl rfl rfl rfl rfl rfl ?_
      refine yf (gn rfl) rfl (St.vl (zL rfl rfl) rfl rfl ?_)
      refine yf (gn rfl) rfl (zu sz4 rfl rfl rfl rfl g2 (by simp) (by simp [Value.oneCell']) ?_)
      intro wC nC cC kC
      refine za7 [5, 6, 7, 11, 12, 14, 15, 17, 120] (F' := [(5, _), (6, _), (7, _), (11, _), (12, _), (14, _), (15, _), (17, _), (120, _)]) rfl ?_
      refine ⟨rfl, ?_, cC⟩
      rw [List.any_append, hany]
      exact kC
     | false =>
      rw [hany] at g2
      refine yp ?_
      refine yf (gn rfl) rfl (St.vl (zj ag4 rfl (g2.cell' rfl)) rfl rfl ?_)
      refine Xm rfl ?_
      refine yf (gy rfl rfl rfl) rfl (St.vl (y8 rfl) rfl rfl ?_)
      refine yf (gy rfl rfl rfl) rfl (St.vl (zl za0 rfl) rfl rfl ?_)
      refine yf (gy rfl rfl rfl) rfl (St.vl (zj zaV rfl (k5X.cell' (i := 2) rfl)) rfl rfl ?_)
      refine yf (gy rfl rfl rfl) rfl (yB zhb rfl rfl rfl rfl (zc9 vx xr r a.row _ (ym.arr hv) hrowX hrl) ?_)
      rintro v126 w126 ⟨rfl, c126⟩
      refine yf (gn rfl) rfl (St.vl (zR rfl rfl) rfl rfl ?_)
      refine yf (gn rfl) rfl (zu sz4 rfl rfl rfl rfl (g2.chg0 c126) (by simp) (by simp [Value.oneCell']) ?_)
      intro wC nC cC kC
      refine za7 [5, 6, 7, 11, 12, 14, 15, 17, 120] (F' := [(5, _), (6, _), (7, _), (11, _), (12, _), (14, _), (15, _), (17, _), (120, _)]) rfl ?_
      refine ⟨rfl, ?_, (c126.any (S := [b15])).transS cC⟩
      rw [List.any_append, hany, show ([(r, vx)].any fun x => decide (x.1 = a.row)) = decide (r = a.row) by simp, Bool.false_or]
      exact kC
    rintro F wz ⟨rfl, kz, hcz⟩
    have hTz : yS wz t own s RR := hTr.1.kc (Low.kc (hcB.lowS (g3.transS hcz) (by intro b hb; simp at hb; omega)))
    have hlowz : Low wr wz := hcB.lowS (g3.transS hcz) (by intro b hb; simp at hb; omega)
    have k14z := k14.kc hlowz.kc
    have kbz := kb.kc hlowz.kc
    have issz : zbM wz _ (zG s) := yR.kc iss hlowz.kc
    have hvz : zaT wz vx r := ym.chg hv hcz (zv.apart hv g2 rfl)
    obtain ⟨pvx, cvx, rfl, hcvx⟩ := id (ym.val hvz)
    refine zbP ?_
    refine yp ?_
    refine yf (gn rfl) rfl (St.vl (zQ rfl) rfl rfl ?_)
    refine za7 [5, 6, 7, 11, 12, 14, 15, 17, 18, 120] (F' := [(5, _), (6, _), (7, _), (11, _), (12, _), (14, _), (15, _), (17, _), (18, _), (120, _)]) rfl ?_
    refine zdm ?_
    refine zpG [5, 6, 7, 11, 12, 14, 15, 17, 18, 120] (fun m F wy => ∃ i : Nat, m = (zG s).length - i ∧ i ≤ (zG s).length ∧ F = [(5, Pt b5), (6, Pt b6), (7, Pt b7), (11, .slice p80 GG.length q80), (12, Ii ee), (14, Pt b14), (15, Pt b15), (17, .slice pvx r.length cvx), (18, Ii i), (120, .slice pvx r.length cvx)] ∧ zk [] wz wy) (m := (zG s).length - 0) ⟨0, rfl, Nat.zero_le _, rfl, zk.refl _ _⟩ ?_
    rintro m F wy ⟨i, rfl, hi, rfl, hcy⟩
    refine zbP ?_
    refine zbP ?_
    have hn4 : (zG s).length ≤ 4 := by have := (zV hR).2.1; simp [zG]; omega
    have k14y := k14z.chg0 hcy
    by_cases hil : i < (zG s).length
    ·refine yp ?_
     refine Xm rfl ?_
     refine yf (gn rfl) rfl (St.vl (zj zc6 rfl (k14y.cell' rfl)) rfl rfl ?_)
     refine yf (gn rfl) rfl (St.vl (yd zaL rfl) rfl rfl ?_)
     refine yf (gn rfl) rfl (St.vl (vt (zz rfl rfl) (by simp; omega)) rfl rfl ?_)
     refine za7 [5, 6, 7, 11, 12, 14, 15, 17, 18, 120, 131] (F' := [(5, _), (6, _), (7, _), (11, _), (12, _), (14, _), (15, _), (17, _), (18, _), (120, _), (131, _)]) rfl ?_
     refine zdR rfl ?_
     refine zgr ?_
     have hxs : (zG s)[i]? = some (zG s)[i] := by simp [hil]
     have hmems := List.getElem_mem hil
     generalize (zG s)[i] = st at hxs hmems
     have hkl := zhE hR hmems
     obtain ⟨bi, oi, cpi, vi, hve, hcelli, hint⟩ := yR.at (yR.chg0 issz hcy) hxs
     cases hve
     have hfo := zpK hTO' hmem hxs
     refine zbP ?_
     refine zdm ?_
     refine zbP ?_
     refine yp ?_
     refine Xm rfl ?_
     refine yf (gn rfl) rfl (St.vl (zj zc6 rfl (k14y.cell' rfl)) rfl rfl ?_)
     refine Xm rfl ?_
     refine yf (gn rfl) rfl (St.vl (zf zaL zfh rfl rfl _ rfl hil) rfl rfl ?_)
     refine yf (gn rfl) rfl (St.vl (zj zbW rfl hcelli) rfl rfl ?_)
     refine yf (gn rfl) rfl (yB zpD rfl rfl rfl rfl (zhr _ _ r st _ (ym.arr (ym.chg0 hvz hcy)) hint (zfC hfit hmems) hkl) ?_)
     rintro v140 w140 ⟨u140, rfl, i140, f140, c140⟩
     obtain ⟨p140, q140, rfl, -⟩ := id (ym.val i140)
     refine Xm rfl ?_
     refine yf (gn rfl) rfl (St.vl (zM rfl rfl) rfl rfl ?_)
     refine yf (gn rfl) rfl (St.vl (zM rfl rfl) rfl rfl ?_)
     refine yf (gn rfl) rfl (St.vl (zQ rfl) rfl rfl ?_)
     refine yf (gn rfl) rfl (St.vl (zQ rfl) rfl rfl ?_)
     refine za7 [5, 6, 7, 11, 12, 14, 15, 17, 18, 19, 20, 120] (F' := [(5, _), (6, _), (7, _), (11, _), (12, _), (14, _), (15, _), (17, _), (18, _), (19, _), (20, _), (120, _)]) rfl ?_
     have hml : (zJ r st).length = st.length := by rw [zc0]
     refine zbP ?_
     refine yp ?_
     refine Xm rfl ?_
     refine yf (gn rfl) rfl (St.vl (vf (zX rfl rfl) (zbQ (by omega))) rfl rfl ?_)
     refine yf (gn rfl) rfl (St.vl (zQ rfl) rfl rfl ?_)
     refine za7 [5, 6, 7, 11, 12, 14, 15, 17, 18, 19, 21, 120] (F' := [(5, _), (6, _), (7, _), (11, _), (12, _), (14, _), (15, _), (17, _), (18, _), (19, _), (21, _), (120, _)]) rfl ?_
     refine zbP ?_
     refine zbP ?_
     refine yp ?_
     refine yf (gn rfl) rfl (St.vl (zQ rfl) rfl rfl ?_)
     refine za7 [5, 6, 7, 11, 12, 14, 15, 17, 18, 19, 21, 22, 120] (F' := [(5, _), (6, _), (7, _), (11, _), (12, _), (14, _), (15, _), (17, _), (18, _), (19, _), (21, _), (22, _), (120, _)]) rfl ?_
     refine zdm ?_
     refine zpG [5, 6, 7, 11, 12, 14, 15, 17, 18, 19, 21, 22, 120] (fun m F wv => ∃ i' : Nat, m = (zJ r st).length - i' ∧ i' ≤ (zJ r st).length ∧ F = [(5, Pt b5), (6, Pt b6), (7, Pt b7), (11, .slice p80 GG.length q80), (12, Ii ee), (14, Pt b14), (15, Pt b15), (17, .slice pvx r.length cvx), (18, Ii i), (19, .slice p140 (zJ r st).length q140), (21, .bool (!nnS ((zJ r st).take i'))), (22, Ii i'), (120, .slice pvx r.length cvx)] ∧ wv = w140) (m := (zJ r st).length - 0) ⟨0, rfl, Nat.zero_le _, rfl, rfl⟩ ?_
     rintro m F wv ⟨i', rfl, hi', rfl, rfl⟩
     refine zbP ?_
     refine zbP ?_
     by_cases hil' : i' < (zJ r st).length
     ·refine yp ?_
      refine Xm rfl (Xm rfl ?_)
      refine yf (gn rfl) rfl (St.vl (yd zab rfl) rfl rfl ?_)
      refine yf (gn rfl) rfl (St.vl (vt (zz rfl rfl) (by simp; omega)) rfl rfl ?_)
      refine za7 [5, 6, 7, 11, 12, 14, 15, 17, 18, 19, 21, 22, 120, 148] (F' := [(5, _), (6, _), (7, _), (11, _), (12, _), (14, _), (15, _), (17, _), (18, _), (19, _), (21, _), (22, _), (120, _), (148, _)]) rfl ?_
      refine zdR rfl ?_
      refine zgr ?_
      have hy : (zJ r st)[i']? = some (zJ r st)[i'] := by simp [hil']
      generalize (zJ r st)[i'] = y at hy
      have hnt := zjd hy
      obtain ⟨bm, om, cpm, hve, hcm⟩ := ya.at zaX i140.arr hy
      cases hve
      refine zbP ?_
      refine zdm ?_
      cases hnn : nnS ((zJ r st).take i') with
      | true =>
       refine yp ?_
       refine Xm rfl (Xm rfl ?_)
       refine yf (gy rfl rfl rfl) rfl (St.vl (y8 rfl) rfl rfl ?_)
       refine yf (gy rfl rfl rfl) rfl (St.vl (y8 rfl) rfl rfl ?_)
       refine yf (gy rfl rfl rfl) rfl (St.vl (zf zab y7 rfl rfl _ rfl hil') rfl rfl ?_)
       refine yf (gy rfl rfl rfl) rfl (St.vl (zl zal rfl) rfl rfl ?_)
       refine yf (gy rfl rfl rfl) rfl (St.vl (zj zb9 rfl (hcm 0 _ rfl)) rfl rfl ?_)
       refine yf (gy rfl rfl rfl) rfl (St.vl (zw rfl rfl) rfl rfl ?_)
       refine yf (gn rfl) rfl (St.vl (zR rfl rfl) rfl rfl ?_)
       refine yf (gn rfl) rfl (St.vl (zQ rfl) rfl rfl ?_)
       refine zdd [5, 6, 7, 11, 12, 14, 15, 17, 18, 19, 21, 22, 120] (F' := [(5, _), (6, _), (7, _), (11, _), (12, _), (14, _), (15, _), (17, _), (18, _), (19, _), (21, _), (22, _), (120, _)]) rfl ?_
       refine zh ?_
       refine yp ?_
       refine Xm rfl ?_
       refine yf (gn rfl) rfl (St.vl (zH rfl rfl (by omega)) rfl rfl ?_)
       refine yf (gn rfl) rfl (St.vl (zQ rfl) rfl rfl ?_)
       refine zdd [5, 6, 7, 11, 12, 14, 15, 17, 18, 19, 21, 22, 120] (F' := [(5, _), (6, _), (7, _), (11, _), (12, _), (14, _), (15, _), (17, _), (18, _), (19, _), (21, _), (22, _), (120, _)]) rfl ?_
       refine ⟨(zJ r st).length - (i' + 1), by omega, i' + 1, rfl, by omega, ?_, rfl⟩
       rw [hnt, hnn]
       simp
       rfl
      | false =>
       refine yp ?_
       refine Xm rfl (Xm rfl ?_)
       refine zfQ rfl rfl rfl rfl rfl rfl ?_
       refine zfQ rfl rfl rfl rfl rfl rfl ?_
       refine zfQ rfl rfl rfl rfl rfl rfl ?_
       refine zfQ rfl rfl rfl rfl rfl rfl ?_
       refine zfQ rfl rfl rfl rfl rfl rfl ?_
       refine zfQ rfl rfl rfl rfl rfl rfl ?_
       refine yf (gn rfl) rfl (St.vl (zL rfl rfl) rfl rfl ?_)
       refine yf (gn rfl) rfl (St.vl (zQ rfl) rfl rfl ?_)
       refine zdd [5, 6, 7, 11, 12, 14, 15, 17, 18, 19, 21, 22, 120] (F' := [(5, _), (6, _), (7, _), (11, _), (12, _), (14, _), (15, _), (17, _), (18, _), (19, _), (21, _), (22, _), (120, _)]) rfl ?_
       refine zh ?_
       refine yp ?_
       refine Xm rfl ?_
       refine yf (gn rfl) rfl (St.vl (zH rfl rfl (by omega)) rfl rfl ?_)
       refine yf (gn rfl) rfl (St.vl (zQ rfl) rfl rfl ?_)
       refine zdd [5, 6, 7, 11, 12, 14, 15, 17, 18, 19, 21, 22, 120] (F' := [(5, _), (6, _), (7, _), (11, _), (12, _), (14, _), (15, _), (17, _), (18, _), (19, _), (21, _), (22, _), (120, _)]) rfl ?_
       refine ⟨(zJ r st).length - (i' + 1), by omega, i' + 1, rfl, by omega, ?_, rfl⟩
       rw [hnt, hnn]
       rfl
     refine yp ?_
     refine Xm rfl (Xm rfl ?_)
     refine yf (gn rfl) rfl (St.vl (yd zab rfl) rfl rfl ?_)
     refine yf (gn rfl) rfl (St.vl (vf (zz rfl rfl) (by simp; omega)) rfl rfl ?_)
     refine za7 [5, 6, 7, 11, 12, 14, 15, 17, 18, 19, 21, 22, 120, 148] (F' := [(5, _), (6, _), (7, _), (11, _), (12, _), (14, _), (15, _), (17, _), (18, _), (19, _), (21, _), (22, _), (120, _), (148, _)]) rfl ?_
     refine zbL rfl ?_
     refine zlH ?_
     repeat first | refine te ?_ | refine bo rfl ?_
     refine zt _ ?_
     have hie : (zJ r st).take i' = zJ r st := List.take_of_length_le (by omega)
     rw [hie]
     rename_i wv
     have hcv := hcy.trans c140
     have hTv := hTz.chg0 hcv
     refine zbP ?_
     have hrngv : ∀ x ∈ zJ r st, x.Rng := fun x hx => (zdi hfit (hTO'.rng r hmem) hmems x hx).2
     cases hnn : nnS (zJ r st) with
     | true =>
      rw [if_pos hnn] at hfo
      refine yp ?_
      refine yf (gn rfl) rfl (St.vl (zj zfM rfl ((kbz.chg0 hcv).cell' rfl)) rfl rfl ?_)
      refine Xm rfl (Xm rfl ?_)
      refine yf (gn rfl) rfl (yB zrl rfl rfl rfl rfl (zhu hTv (i : Int) _ (zJ r st) i140.arr hrngv) ?_)
      rintro v164 w164 ⟨o164, e164, i164, f164, c164⟩
      rw [hfo] at e164 i164
      subst e164
      replace i164 : zK w164 o164 r := i164
      refine Xm rfl ?_
      refine yf (gn rfl) rfl (St.vl (zM rfl rfl) rfl rfl ?_)
      refine yf (gn rfl) rfl (St.vl (zM rfl rfl) rfl rfl ?_)
      refine yf (gn rfl) rfl (St.vl (zQ rfl) rfl rfl ?_)
      refine yf (gn rfl) rfl (St.vl (zQ rfl) rfl rfl ?_)
      refine za7 [5, 6, 7, 11, 12, 14, 15, 17, 18, 21, 23, 24, 120] (F' := [(5, _), (6, _), (7, _), (11, _), (12, _), (14, _), (15, _), (17, _), (18, _), (21, _), (23, _), (24, _), (120, _)]) rfl ?_
      refine zbP ?_
      refine yp ?_
      refine Xm rfl (Xm rfl ?_)
      refine yf (gn rfl) rfl (St.vl (vf (zgH bo4 rfl rfl) rfl) rfl rfl ?_)
      refine Xm rfl ?_
      refine yf (gy rfl rfl rfl) rfl (St.vl (y8 rfl) rfl rfl ?_)
      refine yf (gy rfl rfl rfl) rfl (St.vl (y8 rfl) rfl rfl ?_)
      refine yf (gy rfl rfl rfl) rfl (St.vl (y8 rfl) rfl rfl ?_)
      refine yf (gy rfl rfl rfl) rfl (St.vl (y8 rfl) rfl rfl ?_)
      refine yf (gy rfl rfl rfl) rfl (yB zhb rfl rfl rfl rfl (zc9 o164 _ r r _ i164 (ym.arr (ym.chg0 hvz (hcv.trans c164))) hrl) ?_)
      rintro v175 w175 ⟨e175, c175⟩
      rw [decide_eq_true rfl] at e175
      subst e175
      refine yf (gy rfl rfl rfl) rfl (St.vl (zU rfl) rfl rfl ?_)
      refine yf (gy rfl rfl rfl) rfl (St.vl (zL rfl rfl) rfl rfl ?_)
      refine yf (gn rfl) rfl (St.vl (zR rfl rfl) rfl rfl ?_)
      refine za7 [5, 6, 7, 11, 12, 14, 15, 17, 18, 120, 178] (F' := [(5, _), (6, _), (7, _), (11, _), (12, _), (14, _), (15, _), (17, _), (18, _), (120, _), (178, _)]) rfl ?_
      refine zbL rfl ?_
      refine zgr ?_
      refine zh ?_
      refine yp ?_
      refine Xm rfl ?_
      refine yf (gn rfl) rfl (St.vl (zH rfl rfl (by omega)) rfl rfl ?_)
      refine yf (gn rfl) rfl (St.vl (zQ rfl) rfl rfl ?_)
      refine zdd [5, 6, 7, 11, 12, 14, 15, 17, 18, 120] (F' := [(5, _), (6, _), (7, _), (11, _), (12, _), (14, _), (15, _), (17, _), (18, _), (120, _)]) rfl ?_
      exact ⟨(zG s).length - (i + 1), by omega, i + 1, rfl, by omega, rfl, (hcv.trans c164).trans c175⟩
     | false =>
      rw [if_neg (by rw [hnn]; simp)] at hfo
      refine yp ?_
      refine yf (gn rfl) rfl (St.vl (zj zfM rfl ((kbz.chg0 hcv).cell' rfl)) rfl rfl ?_)
      refine Xm rfl (Xm rfl ?_)
      refine yf (gn rfl) rfl (yB zrl rfl rfl rfl rfl (zhu hTv (i : Int) _ (zJ r st) i140.arr hrngv) ?_)
      rintro v164 w164 ⟨o164, e164, i164, f164, c164⟩
      rw [hfo] at e164
      subst e164
      refine Xm rfl ?_
      refine yf (gn rfl) rfl (St.vl (zM rfl rfl) rfl rfl ?_)
      refine yf (gn rfl) rfl (St.vl (zM rfl rfl) rfl rfl ?_)
      refine yf (gn rfl) rfl (St.vl (zQ rfl) rfl rfl ?_)
      refine yf (gn rfl) rfl (St.vl (zQ rfl) rfl rfl ?_)
      refine za7 [5, 6, 7, 11, 12, 14, 15, 17, 18, 21, 23, 24, 120] (F' := [(5, _), (6, _), (7, _), (11, _), (12, _), (14, _), (15, _), (17, _), (18, _), (21, _), (23, _), (24, _), (120, _)]) rfl ?_
      refine zbP ?_
      refine yp ?_
      refine Xm rfl (Xm rfl ?_)
      refine yf (gn rfl) rfl (St.vl (vf (zgH bo4 rfl rfl) rfl) rfl rfl ?_)
      refine Xm rfl ?_
      refine yf (gy rfl rfl rfl) rfl (St.vl (y8 rfl) rfl rfl ?_)
      refine yf (gy rfl rfl rfl) rfl (St.vl (y8 rfl) rfl rfl ?_)
      refine zfQ rfl rfl rfl rfl rfl rfl ?_
      refine zfQ rfl rfl rfl rfl rfl rfl ?_
      refine zfQ rfl rfl rfl rfl rfl rfl ?_
      refine zfQ rfl rfl rfl rfl rfl rfl ?_
      refine yf (gy rfl rfl rfl) rfl (St.vl (zR rfl rfl) rfl rfl ?_)
      refine yf (gn rfl) rfl (St.vl (zR rfl rfl) rfl rfl ?_)
      refine za7 [5, 6, 7, 11, 12, 14, 15, 17, 18, 120, 178] (F' := [(5, _), (6, _), (7, _), (11, _), (12, _), (14, _), (15, _), (17, _), (18, _), (120, _), (178, _)]) rfl ?_
      refine zbL rfl ?_
      refine zgr ?_
      refine zh ?_
      refine yp ?_
      refine Xm rfl ?_
      refine yf (gn rfl) rfl (St.vl (zH rfl rfl (by omega)) rfl rfl ?_)
      refine yf (gn rfl) rfl (St.vl (zQ rfl) rfl rfl ?_)
      refine zdd [5, 6, 7, 11, 12, 14, 15, 17, 18, 120] (F' := [(5, _), (6, _), (7, _), (11, _), (12, _), (14, _), (15, _), (17, _), (18, _), (120, _)]) rfl ?_
      exact ⟨(zG s).length - (i + 1), by omega, i + 1, rfl, by omega, rfl, hcv.trans c164⟩
    refine yp ?_
    refine Xm rfl ?_
    refine yf (gn rfl) rfl (St.vl (zj zc6 rfl (k14y.cell' rfl)) rfl rfl ?_)
    refine yf (gn rfl) rfl (St.vl (yd zaL rfl) rfl rfl ?_)
    refine yf (gn rfl) rfl (St.vl (vf (zz rfl rfl) (by simp; omega)) rfl rfl ?_)
    refine za7 [5, 6, 7, 11, 12, 14, 15, 17, 18, 120, 131] (F' := [(5, _), (6, _), (7, _), (11, _), (12, _), (14, _), (15, _), (17, _), (18, _), (120, _), (131, _)]) rfl ?_
    refine zbL rfl ?_
    refine zlH ?_
    repeat first | refine te ?_ | refine bo rfl ?_
    refine zt _ ?_
    refine zh ?_
    have hT : zk [b15] X wy := hcz.transS hcy.any
    have hkf : KeepsFrom wB.heap.size X wy := KeepsFrom.chg hT (by intro b hb; simp at hb; subst hb; exact ⟨_, _, g2⟩)
    have hkr : Kr [b15] (fun e => !Nat.beq 4 e) wB.heap.size X wy := Kr.chg hT g3.size (by intro b hb; simp at hb; subst hb; exact ⟨.inl (by simp), _, _, g2, rfl⟩)
    exact ⟨hkf, hkr, kz.chg0 hcy, g3.transS hT⟩
   ·rintro D xs' X hD hdn ⟨g2, g3⟩ hdf
    refine zh ?_
    refine ⟨D, _, rfl, hD, hdf, ?_, g3⟩
    rw [zqg] at hdn
    rw [← zpB hdn]
    exact g2
   rintro D cc pre X hD - h hdf
   exact h.elim
  rintro F wz ⟨D, f118, rfl, hD, hdf, kz, hcz⟩
  have hlow : Low wr wz := hcB.lowS hcz (by intro b hb; simp at hb; omega)
  have k5 := k5.kc hlow.kc
  have k6 := k6.kc hlow.kc
  have k14 := k14.kc hlow.kc
  have issz : zbM wz _ (zG s) := yR.kc iss hlow.kc
  have i80 : zcq wz _ GG := yR.kc i80 hlow.kc
  have hrowz : zK wz xr a.row := Rd.kc hrowr hlow.kc
  have hEz : EOk wz := (hEr.chg0 hcB).chg hcz (by simp; omega)
  have hwz : zk [] w wz := (hccr.trans hcB).own hcz (by intro y hy; simp at hy; omega)
  refine ze (Sr (Oa rfl (zaJ [5, 6, 11, 12, 14, 15, 25] (F' := [(5, _), (6, _), (11, _), (12, _), (14, _), (15, _), (25, _), (1000000, _)]) rfl (zq ?_))))
  refine zY [5, 6, 11, 12, 14, 15, 25] (fun m F wx => ∃ (i : Nat), m = GG.length - i ∧ i ≤ GG.length ∧ F = [(5, Pt b5), (6, Pt b6), (11, .slice p80 GG.length q80), (12, Ii ee), (14, Pt b14), (15, Pt b15), (25, Ii i), (1000000, Ii D)] ∧ zk [] wz wx) (m := GG.length - 0) ⟨0, rfl, Nat.zero_le _, rfl, zk.refl _ _⟩ ?_
  rintro m F wy ⟨i, rfl, hi, rfl, hcy⟩
  refine ze (ze ?_)
  by_cases hil : i < GG.length
  ·refine za (Om rfl (Om rfl (On zao rfl ?_)))
   refine Og (vt (zz rfl rfl) (by simp; omega)) rfl ?_
   refine zaJ [5, 6, 11, 12, 14, 15, 25, 182] (F' := [(5, _), (6, _), (11, _), (12, _), (14, _), (15, _), (25, _), (182, _), (1000000, _)]) rfl (zd rfl (zm ?_))
   have hx' : GG[i]? = some GG[i] := by simp [hil]
   have hmem := List.getElem_mem hil
   generalize GG[i] = g at hx' hmem
   obtain ⟨hg1, hg2, hg3⟩ := hlast g hmem
   obtain ⟨bi, oi, cpi, vi, hve, hcelli, hvi⟩ := yR.at (yR.chg0 i80 hcy) hx'
   cases hve
   have hd : zk [] wy wy.drew := zk.drew [] _
   have hcd := hcy.trans hd
   refine ze (zq (ze ?_))
   refine zO (fun wz => zk [] wy wz) mix (by kernel_rfl) hd ?_
   refine Tm rfl (Tm rfl ?_)
   refine Tp (fun _ => zf zao zc1 rfl rfl _ rfl hil) rfl ?_
   refine Tr (fun wz hz => zj zaV rfl (hz.cell hcelli)) rfl ?_
   refine Td za0 rfl ?_
   refine Tr (fun wz hz => zj zaV rfl ((k5.chg0 (hcy.trans hz)).cell' (i := 2) rfl)) rfl ?_
   refine Tr (fun wz hz => zj zc6 rfl ((k14.chg0 (hcy.trans hz)).cell' rfl)) rfl ?_
   refine Tc zw8 rfl rfl rfl (znp vi xr _ s g a.row _ (ya.chg0 hvi hd) (ya.chg0 hrowz hcd) (yR.chg0 issz hcd) hg1 hg3) ?_
   rintro v192 w192 ⟨e192, c192⟩
   rw [hg2] at e192
   subst e192
   refine ⟨.inl (hd.trans c192), ?_⟩
   refine Tp (fun _ => zU rfl) rfl ?_
   refine zne [5, 6, 11, 12, 14, 15, 25, 193] (F' := [(5, _), (6, _), (11, _), (12, _), (14, _), (15, _), (25, _), (193, _), (1000000, _)]) rfl ?_
   refine zb rfl (yg (zh (za (Om rfl ?_))))
   refine Og (zH rfl rfl (by omega)) rfl ?_
   refine Oa rfl ?_
   refine zaw [5, 6, 11, 12, 14, 15, 25] (F' := [(5, _), (6, _), (11, _), (12, _), (14, _), (15, _), (25, _), (1000000, _)]) rfl ?_
   exact ⟨GG.length - (i + 1), by omega, i + 1, rfl, by omega, rfl, hcd.trans c192⟩
  refine za (Om rfl (Om rfl (On zao rfl ?_)))
  refine Og (vf (zz rfl rfl) (by simp; omega)) rfl ?_
  refine zaJ [5, 6, 11, 12, 14, 15, 25, 182] (F' := [(5, _), (6, _), (11, _), (12, _), (14, _), (15, _), (25, _), (182, _), (1000000, _)]) rfl (zb rfl ?_)
  refine zN ?_
  repeat first | refine te ?_ | refine bo rfl ?_
  refine zt _ ?_
  have hEy := hEz.chg0 hcy
  have hdy : wy.heap[D]? = some (.deferred (some [])) := (hcy.block D (Array.getElem?_eq_some_iff.1 hdf).1 (by simp)).trans hdf
  have hDb : D ≠ b6 := by omega
  refine yh (fun F wv => F = [(6, Pt b6), (1000000, Ii D)] ∧ zS wv b6 4 [.bool true] ∧ zk [b6] wy wv) ?_ ?_
  ·by_cases h0 : ee = 0
   ·rw [hin h0] at kz
    refine za (Om rfl ?_)
    refine Oc zdl rfl rfl rfl (zby _ _) ?_
    rintro v195 w195 ⟨rfl, rfl⟩
    refine Og (vf (zX rfl rfl) (by simp [h0])) rfl ?_
    refine Om rfl ?_
    refine Oy rfl rfl (zj ag4 rfl ((kz.chg0 hcy).cell' rfl)) ?_
    refine Of rfl (Om rfl ?_)
    refine Ow rfl rfl bd9 rfl rfl rfl (zjr _ hEy) ?_
    rintro v201 w201 ⟨rfl, c201⟩
    refine Ot rfl ?_
    refine zC (gn rfl) (zu sz4 rfl rfl rfl rfl ((k6.chg0 hcy).chg0 c201) (by simp) (by simp [Value.oneCell']) ?_)
    intro wE nE cE kE
    refine zaJ [6] (F' := [(6, _), (1000000, _)]) rfl ?_
    exact ⟨rfl, kE, (c201.any (S := [b6])).transS cE⟩
   refine za (Om rfl ?_)
   refine Oc zdl rfl rfl rfl (zby _ _) ?_
   rintro v195 w195 ⟨rfl, rfl⟩
   refine Og (vt (zX rfl rfl) (by simp [h0])) rfl ?_
   refine Om rfl (Oz rfl rfl (Ot rfl (Om rfl ?_)))
   refine Ow rfl rfl bd9 rfl rfl rfl (zjr _ hEy) ?_
   rintro v201 w201 ⟨rfl, c201⟩
   refine Ot rfl ?_
   refine zC (gn rfl) (zu sz4 rfl rfl rfl rfl ((k6.chg0 hcy).chg0 c201) (by simp) (by simp [Value.oneCell']) ?_)
   intro wE nE cE kE
   refine zaJ [6] (F' := [(6, _), (1000000, _)]) rfl ?_
   exact ⟨rfl, kE, (c201.any (S := [b6])).transS cE⟩
  rintro F wv ⟨rfl, kE, hcE⟩
  refine zi ?_
  refine zoG (v := .bool true) (D := D) rfl ag4 rfl rfl ((hcE.block D (Array.getElem?_eq_some_iff.1 hdy).1 (by simpa using hDb)).trans hdy) fun w' hc' => ?_
  refine ⟨(kE.chg hc' (by simpa using hDb.symm)).cell' rfl, rfl, ?_⟩
  exact (((hwz.trans hcy).own hcE (by intro y hy; simp at hy; omega)).own hc' (by intro y hy; simp at hy; omega))
end Go.Wk
