/- joined texts -/
import Derived.Test.YtcnkdoecfljnlaaGreatDoorY13
set_option linter.all false
namespace Go.Wk
open Go.Proofs
set_option maxRecDepth 10000
theorem ztR : zus TP 68 = true := by kernel_rfl
theorem zk.lowS {S : List Nat} {w W X : World} (h : zk [] w W) (hc : zk S W X) (hS : ∀ b ∈ S, w.heap.size ≤ b) : Low w X := fun b hb => (hc.block b (Nat.lt_of_lt_of_le hb h.size) (fun hm => by have := hS b hm; omega)).trans (h.block b hb (by simp))
theorem zrG {s : yo} {rows : LV} (h : y4 s rows) {key : ByteArray} {pre : List (List zQ × Value)} {x : List zQ × Value} (hg : (pre ++ [x]).map (·.1) <+: zeH s rows key) : rows[atR s rows key + pre.length]? = some x.1 := by
 rw [zjc h] at hg
 obtain ⟨tl, ht⟩ := hg
 rw [← List.getElem?_drop, ← ht, List.map_append]
 rw [List.getElem?_append_left (by simp), List.getElem?_append_right (by simp)]
 simp
set_option maxHeartbeats 1000000 in
theorem zvm (t : Nat) (own : List Nat) (c k u o : Value) (s : yo) (rows : LV) (key : ByteArray) (many : Int) (w : World) (h : yA w t own s rows) (hr : yx w c k u o s rows) :
 z9 TP 25 #[Pt t, .agg #[c, k, u, o], .string key, Ii many] w fun r w' => r = .bool true ∧ zk [] w w' := by
 have hTO := hr.ok
 have h400 := hTO.le
 obtain ⟨po, co, rfl, hco⟩ := hr.rws.val
 refine z9.of_WM (args := [_, _, _, _]) Tryz.func25 rfl rfl rfl rfl ?_
 refine Sr ?_
 refine Ob rfl rfl ?_
 intro b4 w4 e4 n4 c4 k4
 refine Ob rfl rfl ?_
 intro b5 w5 e5 n5 c5 k5
 refine Ob rfl rfl ?_
 intro b7 w7 e7 n7 c7 k7
 refine zE (gn rfl) (zH zr4 rfl rfl ?_)
 intro b8 w8 e8 n8 c8 k8
 refine E5 2 4 5 7 8 rfl ?_
 have hc8 : zk [] w w8 := ((c4.trans c5).trans c7).trans c8
 have k4 := ((k4.chg0 c5).chg0 c7).chg0 c8
 have k5 := (k5.chg0 c7).chg0 c8
 have k7 := k7.chg0 c8
 refine Sr ?_
 refine Ol ze3 rfl (k4.cell' rfl) ?_
 refine Om rfl ?_
 refine Oc zyf rfl rfl rfl (ztT t own s rows key _ (h.chg0 hc8)) ?_
 rintro v18 w18 ⟨q5, q3, t', own', rfl, kq5, kq3, it', hq5, hq3, ho', c18⟩
 refine Oa rfl (E6 2 4 5 7 8 9 rfl ?_)
 have hc18 := hc8.trans c18
 have h18 := h.chg0 hc18
 have hr18 := hr.chg0 hc18
 have k4 := k4.chg0 c18
 have k5 := k5.chg0 c18
 have k7 := k7.chg0 c18
 have k8 := k8.chg0 c18
 have hb8 := k8.lt
 have hs18 := hc18.size
 have hs4 := c4.size
 have hs5 := c5.size
 have hs7 := c7.size
 refine ze (ze ?_)
 have hd : zk [] w18 w18.drew := zk.drew [] _
 obtain ⟨pm, c', k', u', sv, xs, main, subs, rfl, hm, ht⟩ := id h18
 refine zJ (fun wz => zk [] w18 wz) mix (by kernel_rfl) hd ?_
 refine Tm rfl ?_
 refine Tp (fun _ => zq4 ztR rfl rfl) rfl ?_
 refine Tm rfl ?_
 refine Ts rfl rfl (fun wz hz => zh ze3 rfl ((k4.chg0 hz).cell' rfl)) rfl ?_
 refine Tv rfl rfl ziC rfl rfl rfl (zfB _ (hm.chg0 hd) ht) ?_
 rintro v23 w23 ⟨rfl, rfl⟩
 refine ⟨.inl hd, ?_⟩
 refine Tg rfl rfl (fun _ => zj yr rfl) rfl ?_
 refine Ts rfl rfl (fun wz hz => zh zaD rfl ((k5.chg0 hz).cell' (i := 3) rfl)) rfl ?_
 refine Tg rfl rfl (fun _ => yc zah rfl) rfl ?_
 refine Tg rfl rfl (fun _ => vf (zS rfl rfl) (by simp)) rfl ?_
 refine Tp (fun _ => zT rfl rfl) rfl ?_
 refine zhe [2, 4, 5, 7, 8, 9, 28] (F' := [(2, _), (4, _), (5, _), (7, _), (8, _), (9, _), (28, _)]) rfl ?_
 refine zb rfl (zm (Sr ?_))
 refine zE (gn rfl) (zH zr3 rfl rfl ?_)
 intro b10 w10 e10 n10 c10 k10
 refine zE (gn rfl) (zu sz3 rfl rfl rfl rfl k10 (by simp) (by simp [Value.oneCell']) ?_)
 intro wA nA cA kA
 refine E7 2 4 5 7 8 9 10 rfl ?_
 have kA : zU wA b10 3 [Ii 0] := kA
 have hcA : zk [] w18 wA := (hd.trans c10).own cA (by intro y hy; have := hd.size; simp at hy; omega)
 have hb10 : w18.heap.size ≤ b10 := by have := hd.size; omega
 refine yf (fun F wx => ∃ f44 : Value, F = [(2, .string key), (4, Pt b4), (5, Pt b5), (7, Pt b7), (8, Pt b8), (9, .func (.func 67) #[] #[Pt q5, Pt q3]), (10, Pt b10), (44, f44)] ∧ zU wx b10 3 [Ii (atR s rows key : Nat)] ∧ zk [] w18 wx) ?_ ?_
 ·refine zq ?_
  refine zW [2, 4, 5, 7, 8, 9, 10] (fun m F wx => ∃ j : Nat, m = rows.length - j ∧ j ≤ rows.length ∧ F = [(2, .string key), (4, Pt b4), (5, Pt b5), (7, Pt b7), (8, Pt b8), (9, .func (.func 67) #[] #[Pt q5, Pt q3]), (10, Pt b10)] ∧ (rows.take j).all (fun r => blt (zV s r) key) = true ∧ zU wx b10 3 [Ii j] ∧ zk [] w18 wx) (m := rows.length - 0) ⟨0, rfl, Nat.zero_le _, rfl, rfl, kA, hcA⟩ ?_
  rintro m F wx ⟨j, rfl, hj, rfl, hall, kj, hcx⟩
  refine ze (ze ?_)
  have hdx : zk [] wx wx.drew := zk.drew [] _
  have k5x := k5.chg0 hcx
  by_cases hlt : j < rows.length
  ·have hx : rows[j]? = some rows[j] := by simp [hlt]
   have htk := List.take_succ_eq_append_getElem hlt
   have hmem := List.getElem_mem hlt
   generalize rows[j] = r at hx htk hmem
   obtain ⟨bo, oo, cpo, vr, hve, hcell, hvr⟩ := (hr18.rws.chg0 hcx).at hx
   cases hve
   have hcalled : ∀ {wz : World}, zk [] wx wz → z9 TP 22 #[.agg #[c, k, u, .slice (some ⟨bo, oo, none⟩) rows.length co], vr] wz fun r' w' => r' = .string (zV s r) ∧ zk [] wz w' := fun hz => zcK _ _ _ _ _ s rows r _ ((hr18.chg0 hcx).chg0 hz) (yw.chg0 hvr hz).arr (hTO.fit r hmem) (hTO.rng r hmem)
   cases hb : blt (zV s r) key with
   | true =>
    refine zJ (fun wz => zk [] wx wz) mix (by kernel_rfl) hdx ?_
    refine Tr (fun wz hz => zh ag3 rfl ((kj.chg0 hz).cell' rfl)) rfl ?_
    refine Td yr rfl ?_
    refine Tr (fun wz hz => zh zaD rfl ((k5x.chg0 hz).cell' (i := 3) rfl)) rfl ?_
    refine Tp (fun _ => yc zah rfl) rfl ?_
    refine Tp (fun _ => vt (zC rfl rfl) (by simp; omega)) rfl ?_
    refine Tm rfl ?_
    refine Ts rfl rfl (fun wz hz => zg yz ya rfl rfl (zy.of_blk0 (k5x.chg0 hz))) rfl ?_
    refine Tg rfl rfl (fun _ => zj yr rfl) rfl ?_
    refine Ts rfl rfl (fun wz hz => zh zaD rfl ((k5x.chg0 hz).cell' (i := 3) rfl)) rfl ?_
    refine Ts rfl rfl (fun wz hz => zh ag3 rfl ((kj.chg0 hz).cell' rfl)) rfl ?_
    refine Tg rfl rfl (fun _ => zf zah zcr rfl rfl _ rfl hlt) rfl ?_
    refine Ts rfl rfl (fun wz hz => zh za7 rfl (hz.cell hcell)) rfl ?_
    refine Tv rfl rfl zfX rfl rfl rfl (hcalled hdx) ?_
    rintro v41 w41 ⟨rfl, c41⟩
    refine ⟨.inl (hdx.trans c41), ?_⟩
    refine Tq rfl rfl rfl ?_
    refine Tg rfl rfl (fun _ => vt (zgA rfl rfl) hb) rfl ?_
    refine Tp (fun _ => zL rfl rfl) rfl ?_
    refine zhe [2, 4, 5, 7, 8, 9, 10, 44] (F' := [(2, _), (4, _), (5, _), (7, _), (8, _), (9, _), (10, _), (44, _)]) rfl ?_
    refine zd rfl (zm ?_)
    have hcy := hdx.trans c41
    refine zq (za ?_)
    refine Ol ag3 rfl ((kj.chg0 hcy).cell' rfl) ?_
    refine Og (yE (v' := Ii ((j + 1 : Nat) : Int)) (zI rfl rfl (by omega)) (by congr 1)) rfl ?_
    refine zE (gn rfl) (zu sz3 rfl rfl rfl rfl (kj.chg0 hcy) (by simp) (by simp [Value.oneCell']) ?_)
    intro wB nB cB kB
    refine za9 [2, 4, 5, 7, 8, 9, 10] (F' := [(2, _), (4, _), (5, _), (7, _), (8, _), (9, _), (10, _)]) rfl ?_
    refine zl ?_
    refine ⟨rows.length - (j + 1), by omega, j + 1, rfl, by omega, rfl, ?_, kB, (hcx.trans hcy).own cB (by intro y hy; simp at hy; omega)⟩
    rw [htk, List.all_append, hall]
    simpa using hb
   | false =>
    refine zJ (fun wz => zk [] wx wz) mix (by kernel_rfl) hdx ?_
    refine Tr (fun wz hz => zh ag3 rfl ((kj.chg0 hz).cell' rfl)) rfl ?_
    refine Td yr rfl ?_
    refine Tr (fun wz hz => zh zaD rfl ((k5x.chg0 hz).cell' (i := 3) rfl)) rfl ?_
    refine Tp (fun _ => yc zah rfl) rfl ?_
    refine Tp (fun _ => vt (zC rfl rfl) (by simp; omega)) rfl ?_
    refine Tm rfl ?_
    refine Ts rfl rfl (fun wz hz => zg yz ya rfl rfl (zy.of_blk0 (k5x.chg0 hz))) rfl ?_
    refine Tg rfl rfl (fun _ => zj yr rfl) rfl ?_
    refine Ts rfl rfl (fun wz hz => zh zaD rfl ((k5x.chg0 hz).cell' (i := 3) rfl)) rfl ?_
    refine Ts rfl rfl (fun wz hz => zh ag3 rfl ((kj.chg0 hz).cell' rfl)) rfl ?_
    refine Tg rfl rfl (fun _ => zf zah zcr rfl rfl _ rfl hlt) rfl ?_
    refine Ts rfl rfl (fun wz hz => zh za7 rfl (hz.cell hcell)) rfl ?_
    refine Tv rfl rfl zfX rfl rfl rfl (hcalled hdx) ?_
    rintro v41 w41 ⟨rfl, c41⟩
    refine ⟨.inl (hdx.trans c41), ?_⟩
    refine Tq rfl rfl rfl ?_
    refine Tg rfl rfl (fun _ => vf (zgA rfl rfl) hb) rfl ?_
    refine Tp (fun _ => zL rfl rfl) rfl ?_
    refine zhe [2, 4, 5, 7, 8, 9, 10, 44] (F' := [(2, _), (4, _), (5, _), (7, _), (8, _), (9, _), (10, _), (44, _)]) rfl ?_
    refine zb rfl ?_
    refine zM ?_
    repeat first | refine te ?_ | refine bo rfl ?_
    refine zt _ ?_
    have hcy := hdx.trans c41
    have he := zmP hj hall (fun x hx' => by rw [hx] at hx'; cases hx'; exact hb)
    exact ⟨_, rfl, by rw [he]; exact kj.chg0 hcy, hcx.trans hcy⟩
  refine zJ (fun wz => zk [] wx wz) mix (by kernel_rfl) hdx ?_
  refine Tr (fun wz hz => zh ag3 rfl ((kj.chg0 hz).cell' rfl)) rfl ?_
  refine Td yr rfl ?_
  refine Tr (fun wz hz => zh zaD rfl ((k5x.chg0 hz).cell' (i := 3) rfl)) rfl ?_
  refine Tp (fun _ => yc zah rfl) rfl ?_
  refine Tp (fun _ => vf (zC rfl rfl) (by simp; omega)) rfl ?_
  refine Tm rfl (Tz rfl rfl (Tz rfl rfl (Tz rfl rfl (Tz rfl rfl (Tz rfl rfl (Tz rfl rfl (Tz rfl rfl (Tz rfl rfl (Tz rfl rfl ?_)))))))))
  refine Tp (fun _ => zT rfl rfl) rfl ?_
  refine zhe [2, 4, 5, 7, 8, 9, 10, 44] (F' := [(2, _), (4, _), (5, _), (7, _), (8, _), (9, _), (10, _), (44, _)]) rfl ?_
  refine zb rfl ?_
  refine zM ?_
  repeat first | refine te ?_ | refine bo rfl ?_
  refine zt _ ?_
  have he := zmP hj hall (fun x hx' => by rw [List.getElem?_eq_none (by omega)] at hx'; cases hx')
  exact ⟨_, rfl, by rw [he]; exact kj.chg0 hdx, hcx.trans hdx⟩
 rintro F wx ⟨f44, rfl, kj, hcx⟩
 have hat := zuW s rows key
 generalize hj : atR s rows key = j at *
 have hjl := kj.lt
 refine Sr ?_
 refine zE (gn rfl) (zH zr3 rfl rfl ?_)
 intro b11 w11 e11 n11 c11 k11
 refine zE (gn rfl) (zu sz3 rfl rfl rfl rfl k11 (by simp) (by simp [Value.oneCell']) ?_)
 intro wB nB cB kB
 refine E7 4 5 7 8 9 10 11 rfl ?_
 have kB : zU wB b11 3 [Ii 0] := kB
 have hsx := hcx.size
 have hcB : zk [] wx wB := c11.own cB (by intro y hy; simp at hy; omega)
 have hc18B := hcx.trans hcB
 have kj := kj.chg0 hcB
 have hb11 : w18.heap.size ≤ b11 := by omega
 have hne : b10 < b11 := by omega
 have hb11B := kB.lt
 refine yf (fun F wz => ∃ (D n : Nat) (f47 : Value), F = [(1000000, Ii D), (4, Pt b4), (5, Pt b5), (7, Pt b7), (8, Pt b8), (10, Pt b10), (11, Pt b11), (47, f47)] ∧ wB.heap.size ≤ D ∧ wz.heap[D]? = some (.deferred (some [])) ∧ zU wz b11 3 [Ii n] ∧ (n : Int) = min ((rows.length : Int) - j) (max 1 many) ∧ zk [b11] wB wz) ?_ ?_
 ·refine Sr (Om rfl (E7 4 5 7 8 10 11 47 rfl (zq ?_)))
  refine zh6 (α := List zQ × Value) (gf := 67) (lb := [Pt q5, Pt q3]) (encs := fun x : List zQ × Value => #[.string (zV s x.1), x.2])
   (fun pre X => (pre = [] ∨ (pre.length : Int) < many) ∧ zU X b11 3 [Ii (pre.length : Nat)] ∧ zk [b11] wB X)
   (fun cc pre X => cc = .exit 2 ∧ (pre.length : Int) = max 1 many ∧ j + pre.length ≤ rows.length ∧ zU X b11 3 [Ii (pre.length : Nat)] ∧ zk [b11] wB X)
   (fun x => [(49, x.2), (48, .string (zV s x.1)), (4, Pt b4), (5, Pt b5), (7, Pt b7), (8, Pt b8), (10, Pt b10), (11, Pt b11), (47, .func (.func 67) #[] #[Pt q5, Pt q3])])
   (fun x => [(4, Pt b4), (5, Pt b5), (7, Pt b7), (8, Pt b8), (10, Pt b10), (11, Pt b11), (12, .string (zV s x.1)), (13, x.2), (48, .string (zV s x.1)), (49, x.2)])
   rfl zyc
   (zmb w18 wB hc18B t' q5 q3 own' s rows key [b11] (fun e => !Nat.beq 3 e) it' kq5 kq3 (by intro b hb; simp at hb; omega) (fun b hb e cs hk => by
    simp at hb
    subst hb
    have := Option.some.inj ((show wB.heap[b]? = _ from hk).symm.trans kB)
    cases this
    rfl) rfl rfl rfl rfl rfl)
   (fun _ => rfl) (fun x W W' hb hh => ⟨zv.bk hh.1 hb, hh.2⟩) (fun _ _ _ _ hh => hh) (fun _ _ _ _ hh => hh) ?_ ?_ ?_ (fun pre X hI => hI.2.2.size) ?_ ?_ ?_ ?_ ?_
  ·rintro pre X X' hb ⟨g1, g2, g3⟩
   exact ⟨g1, g2.bk hb, g3.bk (Nat.le_refl _) hb⟩
  ·rintro cc pre X X' hb ⟨rfl, g1, g2, g3, g4⟩
   exact ⟨rfl, g1, g2, g3.bk hb, g4.bk (Nat.le_refl _) hb⟩
  ·exact ⟨.inl rfl, kB, zk.refl _ _⟩
  ·intro x a ha
   exact ha.vars2 rfl rfl rfl
  ·intro l' x X
   refine zb7 ?_
   refine yH ?_
   refine yy (gn rfl) rfl (St.vl (yh rfl) rfl rfl ?_)
   refine zbx [4, 5, 7, 8, 10, 11, 12, 48, 49] (F' := [(4, _), (5, _), (7, _), (8, _), (10, _), (11, _), (12, _), (48, _), (49, _)]) rfl ?_
   refine yH ?_
   refine yy (gn rfl) rfl (St.vl (yh rfl) rfl rfl ?_)
   refine zfR [4, 5, 7, 8, 10, 11, 12, 13, 48, 49] (F' := [(4, _), (5, _), (7, _), (8, _), (10, _), (11, _), (12, _), (13, _), (48, _), (49, _)]) rfl ?_
   exact ⟨rfl, rfl, rfl⟩
  ·rintro l' pre ⟨r, vx⟩ X ⟨g1, g2, g3⟩ ⟨hv, hvo⟩ hgo
   have hrow := zrG hTO hgo
   rw [hj] at hrow
   replace hrow : rows[j + pre.length]? = some r := hrow
   replace hv : zbd X vx r := hv
   have hlt : j + pre.length < rows.length := (List.getElem?_eq_some_iff.1 hrow).1
   have hmem : r ∈ rows := List.mem_of_getElem? hrow
   have hg : zca s rows (zV s r) = some r := hTO.get hmem
   have hrl : r.length ≤ 1048576 := by
    have h1 := (zX hTO.right).1
    have h2 := (zam (hTO.fit r hmem)).2.1
    omega
   have hlow : Low w18 X := hc18B.lowS g3 (by intro b hb; simp at hb; omega)
   have hmX := hm.kc hlow.kc
   have k4X := k4.kc hlow.kc
   have k5X := k5.kc hlow.kc
   have k7X := k7.kc hlow.kc
   have kjX := kj.chg g3 (by simp; omega)
   have hrX := hr18.kc hlow.kc
   obtain ⟨bo, oo, cpo, vr, hve, hcell, hvr⟩ := hrX.rws.at hrow
   cases hve
   have hdX : zk [] X X.drew := zk.drew [] _
   have hcalled : ∀ {wz : World}, zk [] X wz → z9 TP 22 #[.agg #[c, k, u, .slice (some ⟨bo, oo, none⟩) rows.length co], vr] wz fun r' w' => r' = .string (zV s r) ∧ zk [] wz w' := fun hz => zcK _ _ _ _ _ s rows r _ (hrX.chg0 hz) (yw.chg0 hvr hz).arr (hTO.fit r hmem) (hTO.rng r hmem)
   refine zfg ?_
   refine zb7 ?_
   refine zb7 ?_
   refine zmo (fun wz => zk [] X wz) mix (zjq (by kernel_rfl)) hdX ?_
   refine Tr (fun wz hz => zh ag3 rfl ((kjX.chg0 hz).cell' rfl)) rfl ?_
   refine Tr (fun wz hz => zh ag3 rfl ((g2.chg0 hz).cell' rfl)) rfl ?_
   refine Tp (fun _ => yE (v' := Ii ((j + pre.length : Nat) : Int)) (zI rfl rfl (by omega)) (by congr 1)) rfl ?_
   refine Td yr rfl ?_
   refine Tr (fun wz hz => zh zaD rfl ((k5X.chg0 hz).cell' (i := 3) rfl)) rfl ?_
   refine Tp (fun _ => yc zah rfl) rfl ?_
   refine Tp (fun _ => vf (yp rfl rfl) (by simp; omega)) rfl ?_
   refine Tm rfl (Tq rfl rfl rfl ?_)
   refine Ts rfl rfl (fun wz hz => zg yz ya rfl rfl (zy.of_blk0 (k5X.chg0 hz))) rfl ?_
   refine Tg rfl rfl (fun _ => zj yr rfl) rfl ?_
   refine Ts rfl rfl (fun wz hz => zh zaD rfl ((k5X.chg0 hz).cell' (i := 3) rfl)) rfl ?_
   refine Ts rfl rfl (fun wz hz => zh ag3 rfl ((kjX.chg0 hz).cell' rfl)) rfl ?_
   refine Ts rfl rfl (fun wz hz => zh ag3 rfl ((g2.chg0 hz).cell' rfl)) rfl ?_
   refine Tg rfl rfl (fun _ => yE (v' := Ii ((j + pre.length : Nat) : Int)) (zI rfl rfl (by omega)) (by congr 1)) rfl ?_
   refine Tg rfl rfl (fun _ => zf zah zcr rfl rfl _ rfl hlt) rfl ?_
   refine Ts rfl rfl (fun wz hz => zh za7 rfl (hz.cell hcell)) rfl ?_
   refine Tv rfl rfl zfX rfl rfl rfl (hcalled hdX) ?_
   rintro v67 w67 ⟨rfl, c67⟩
   refine ⟨.inl (hdX.trans c67), ?_⟩
   refine Tg rfl rfl (fun _ => vf (zcH rfl rfl) (by simp)) rfl ?_
   refine Tp (fun _ => zT rfl rfl) rfl ?_
   refine Tm rfl (Tq rfl rfl rfl ?_)
   refine Tg rfl rfl (fun _ => zj yr rfl) rfl ?_
   refine Ts rfl rfl (fun wz hz => zh zaD rfl ((k5X.chg0 hz).cell' (i := 3) rfl)) rfl ?_
   refine Ts rfl rfl (fun wz hz => zh ag3 rfl ((kjX.chg0 hz).cell' rfl)) rfl ?_
   refine Ts rfl rfl (fun wz hz => zh ag3 rfl ((g2.chg0 hz).cell' rfl)) rfl ?_
   refine Tg rfl rfl (fun _ => yE (v' := Ii ((j + pre.length : Nat) : Int)) (zI rfl rfl (by omega)) (by congr 1)) rfl ?_
   refine Tg rfl rfl (fun _ => zf zah zcr rfl rfl _ rfl hlt) rfl ?_
   refine Ts rfl rfl (fun wz hz => zh za7 rfl (hz.cell hcell)) rfl ?_
   refine Tv rfl rfl zh1 rfl rfl rfl (zdo vx vr r r _ (yw.chg0 hv (hdX.trans c67)).arr (yw.chg0 hvr (hdX.trans c67)).arr hrl) ?_
   rintro v79 w79 ⟨e79, c79⟩
   rw [decide_eq_true rfl] at e79
   subst e79
   refine ⟨.inl ((hdX.trans c67).trans c79), ?_⟩
   refine Tg rfl rfl (fun _ => zO rfl) rfl ?_
   refine Tp (fun _ => zT rfl rfl) rfl ?_
   refine zhe [4, 5, 7, 8, 10, 11, 12, 13, 48, 49, 81] (F' := [(4, _), (5, _), (7, _), (8, _), (10, _), (11, _), (12, _), (13, _), (48, _), (49, _), (81, _)]) rfl ?_
   have hcy := (hdX.trans c67).trans c79
   refine zbV rfl ?_
   refine zgN ?_
   refine zb7 ?_
   refine yH ?_
   refine yy (gn rfl) rfl (St.vl (zh ze3 rfl ((k4X.chg0 hcy).cell' rfl)) rfl rfl ?_)
   refine Xm rfl ?_
   refine yy (gn rfl) rfl (y5 znH rfl rfl rfl rfl (zjn (zV s r) _ (hmX.chg0 hcy) ht) ?_)
   rintro v85 w85 ⟨o85, e85, i85, f85, c85⟩
   rw [hg] at e85 i85
   subst e85
   replace i85 : zbd w85 o85 r := i85
   refine Xm rfl ?_
   refine yy (gn rfl) rfl (St.vl (zP rfl rfl) rfl rfl ?_)
   refine yy (gn rfl) rfl (St.vl (zP rfl rfl) rfl rfl ?_)
   refine yy (gn rfl) rfl (St.vl (yh rfl) rfl rfl ?_)
   refine yy (gn rfl) rfl (St.vl (yh rfl) rfl rfl ?_)
   refine zbx [4, 5, 7, 8, 10, 11, 13, 14, 15, 48, 49] (F' := [(4, _), (5, _), (7, _), (8, _), (10, _), (11, _), (13, _), (14, _), (15, _), (48, _), (49, _)]) rfl ?_
   refine zb7 ?_
   refine zb7 ?_
   refine yH ?_
   refine Xm rfl ?_
   refine yy (gn rfl) rfl (St.vl (zO rfl) rfl rfl ?_)
   refine Xm rfl ?_
   refine yy (gy rfl rfl rfl) rfl (St.vl (zal rfl) rfl rfl ?_)
   refine yy (gy rfl rfl rfl) rfl (St.vl (zal rfl) rfl rfl ?_)
   refine yy (gy rfl rfl rfl) rfl (y5 zh1 rfl rfl rfl rfl (zdo o85 vx r r _ i85.arr (yw.chg0 hv (hcy.trans c85)).arr hrl) ?_)
   rintro v93 w93 ⟨e93, c93⟩
   rw [decide_eq_true rfl] at e93
   subst e93
   refine yy (gy rfl rfl rfl) rfl (St.vl (zO rfl) rfl rfl ?_)
   refine yy (gn rfl) rfl (St.vl (zT rfl rfl) rfl rfl ?_)
   refine zbx [4, 5, 7, 8, 10, 11, 48, 49, 95] (F' := [(4, _), (5, _), (7, _), (8, _), (10, _), (11, _), (48, _), (49, _), (95, _)]) rfl ?_
   have hcz := (hcy.trans c85).trans c93
   have g2z := g2.chg0 hcz
   refine zbV rfl ?_
   refine zgN ?_
   refine zb7 ?_
   refine yH ?_
   refine yy (gn rfl) rfl (St.vl (zh ag3 rfl (g2z.cell' rfl)) rfl rfl ?_)
   refine yy (gn rfl) rfl (St.vl (yE (v' := Ii ((pre.length + 1 : Nat) : Int)) (zI rfl rfl (by omega)) (by congr 1)) rfl rfl ?_)
   refine yy (gn rfl) rfl (zu sz3 rfl rfl rfl rfl g2z (by simp) (by simp [Value.oneCell']) ?_)
   intro wC nC cC kC
   refine zbx [4, 5, 7, 8, 10, 11, 48, 49] (F' := [(4, _), (5, _), (7, _), (8, _), (10, _), (11, _), (48, _), (49, _)]) rfl ?_
   have kC : zU wC b11 3 [Ii (pre.length + 1 : Nat)] := kC
   have hT : zk [b11] X wC := (hcz.any (S := [b11])).transS cC
   have hk7C : zU wC b7 3 [Ii many] := (k7X.chg0 hcz).chg cC (by simp; omega)
   have hlen : (pre ++ [(r, vx)]).length = pre.length + 1 := by simp
   have hkf : KeepsFrom wB.heap.size X wC := KeepsFrom.chg hT (by intro b hb; simp at hb; subst hb; exact ⟨_, _, g2⟩)
   have hkr : Kr [b11] (fun e => !Nat.beq 3 e) wB.heap.size X wC := Kr.chg hT g3.size (by intro b hb; simp at hb; subst hb; exact ⟨.inl (by simp), _, _, g2, rfl⟩)
   refine zb7 ?_
   by_cases hmy : many ≤ pre.length + 1
   ·refine yH ?_
    refine yy (gn rfl) rfl (St.vl (zh ag3 rfl (kC.cell' rfl)) rfl rfl ?_)
    refine yy (gn rfl) rfl (St.vl (zh ag3 rfl (hk7C.cell' rfl)) rfl rfl ?_)
    refine yy (gn rfl) rfl (St.vl (vt (yp rfl rfl) (by simp; omega)) rfl rfl ?_)
    refine zbx [4, 5, 7, 8, 10, 11, 48, 49, 100] (F' := [(4, _), (5, _), (7, _), (8, _), (10, _), (11, _), (48, _), (49, _), (100, _)]) rfl ?_
    refine zc4 rfl ?_
    refine zoN ?_
    repeat first | refine te ?_ | refine bo rfl ?_
    refine ⟨hkf, rfl, ?_, by rw [hlen]; omega, by rw [hlen]; exact kC, g3.transS hT⟩
    rw [hlen]
    rcases g1 with rfl | g1
    ·simp at hmy ⊢; omega
    omega
   refine yH ?_
   refine yy (gn rfl) rfl (St.vl (zh ag3 rfl (kC.cell' rfl)) rfl rfl ?_)
   refine yy (gn rfl) rfl (St.vl (zh ag3 rfl (hk7C.cell' rfl)) rfl rfl ?_)
   refine yy (gn rfl) rfl (St.vl (vf (yp rfl rfl) (by simp; omega)) rfl rfl ?_)
   refine zbx [4, 5, 7, 8, 10, 11, 48, 49, 100] (F' := [(4, _), (5, _), (7, _), (8, _), (10, _), (11, _), (48, _), (49, _), (100, _)]) rfl ?_
   refine zbV rfl ?_
   refine zgN ?_
   refine zl ?_
   exact ⟨hkf, hkr, .inr (by rw [hlen]; omega), by rw [hlen]; exact kC, g3.transS hT⟩
  ·rintro D xs' X hD hdn ⟨g1, g2, g3⟩ hdf
   refine zl ?_
   have hlen := congrArg List.length hdn
   rw [zpA hTO, hj, List.length_map] at hlen
   refine ⟨D, xs'.length, _, rfl, hD, hdf, g2, ?_, g3⟩
   rcases g1 with rfl | g1
   ·simp at hlen ⊢; omega
   omega
  rintro D cc pre X hD - ⟨rfl, g1, g2, g3, g4⟩ hdf
  refine zM ?_
  repeat first | refine te ?_ | refine bo rfl ?_
  refine zt _ ?_
  exact ⟨D, pre.length, _, rfl, hD, hdf, g3, by omega, g4⟩
 rintro F wy ⟨D, n, f47, rfl, hD, hdf, kn, hn, hcy⟩
 have hlow : Low w18 wy := hc18B.lowS hcy (by intro b hb; simp at hb; omega)
 have k5 := k5.kc hlow.kc
 have k7 := k7.kc hlow.kc
 have k8 := k8.kc hlow.kc
 have kj := kj.chg hcy (by simp; omega)
 refine Sr ?_
 refine Ol ag3 rfl (kn.cell' rfl) ?_
 refine Od yr rfl ?_
 refine Ol zaD rfl (k5.cell' (i := 3) rfl) ?_
 refine On zah rfl ?_
 refine Ol ag3 rfl (kj.cell' rfl) ?_
 refine Og (yN rfl rfl (by omega)) rfl ?_
 refine Ol ag3 rfl (k7.cell' rfl) ?_
 refine Og (zlM rfl rfl) rfl ?_
 refine Og (zml rfl rfl) rfl ?_
 refine Og (vt (zw rfl rfl) (decide_eq_true (by omega))) rfl ?_
 refine zE (gn rfl) (zu sz4 rfl rfl rfl rfl k8 (by simp) (by simp [Value.oneCell']) ?_)
 intro wE nE cE kE
 refine za1 [8] (F' := [(8, _), (1000000, _)]) rfl ?_
 have kE : zU wE b8 4 [.bool true] := kE
 have hDb : D ≠ b8 := by have := hc18B.size; omega
 refine zi ?_
 refine zjY (v := .bool true) (D := D) rfl ag4 rfl rfl ((cE.block D (Array.getElem?_eq_some_iff.1 hdf).1 (by simpa using hDb)).trans hdf) fun w' hc' => ?_
 refine ⟨(kE.chg hc' (by simpa using hDb.symm)).cell' rfl, rfl, ?_⟩
 have hwB := (hc18.trans hc18B).size
 refine ((((hc18.trans hc18B).own hcy (by intro y hy; simp at hy; omega)).own cE (by intro y hy; simp at hy; omega)).own hc' (by intro y hy; simp at hy; omega))
theorem zK.chg0 {w w' : World} {v : Value} {l : List zQ} (h : zK w v l) (hc : zk [] w w') : zK w' v l := z0.chg0 h hc
theorem zpB : zl6 54 := ⟨rfl, rfl, rfl, rfl, rfl, rfl, rfl, rfl⟩
theorem ziL : ∀ u ∈ ([.slice none 0 0, .slice none 0 0, .slice none 0 0, .slice none 0 0] : List Value), zhA u = false := by
 intro u hu
 simp at hu
 subst hu
 rfl
theorem zl2 {s : yo} {r : List zQ} (h : yV s r = 0) : r.length ≤ 1048576 := by
 have h1 := (zX (zam h).1).1
 have h2 := (zam h).2.1
 omega
section
variable {s : yo} {rows : LV} (h : y4 s rows)
include h
theorem zpq (k : ByteArray) : ((zca s rows k).getD []).length ≤ 1048576 := by
 cases hg : zca s rows k with
 | none => simp
 | some r => exact zl2 (h.fit r (zcz hg).1)
theorem zqp (k : ByteArray) (row : List zQ) : (zfr s rows k row).length ≤ 1048576 := by
 unfold zfr
 split
 ·exact zpq h k
 simp
theorem zrK (row : List zQ) : (∀ r ∈ zdY s rows row, r.length ≤ 1048576) ∧ (zdY s rows row).length ≤ 1048576 := by
 refine ⟨fun r hr => zl2 (h.fit r (zpJ hr).1), ?_⟩
 have h1 := h.le
 unfold zdY
 split
 ·have := List.length_filter_le (fun r => yM s r row) rows
  unfold zar
  omega
 simp
theorem zrC (n : Int) (vals : List zQ) : ((zbv s rows n vals).getD []).length ≤ 1048576 := by
 cases hf : zbv s rows n vals with
 | none => simp
 | some r =>
  unfold zbv at hf
  split at hf
  ·cases hf
  split at hf
  ·cases hf
  exact zl2 (h.fit r (List.mem_of_find?_eq_some hf))
end
section
variable {w w1 w2 : World} {t : Nat} {own : List Nat} {s : yo} {rt rw rt' rw' : LV} {c k u o o' : Value}
def zdH (w : World) (t : Nat) (own : List Nat) (c k u : Value) (s : yo) (rows : LV) : Prop := yA w t own s rows ∧ ∃ pm sv, zU w t 98 [Pt pm, c, k, u, sv]
theorem zdH.chg0 (h : zdH w t own c k u s rt) (hc : zk [] w w1) : zdH w1 t own c k u s rt := ⟨h.1.chg0 hc, let ⟨pm, sv, hb⟩ := h.2; ⟨pm, sv, hb.chg0 hc⟩⟩
theorem zdH.put (h : zdH w t own c k u s rt) (hs : yO w1 c k u s) {b : Nat} {e : TypeId} {x : List Value} (hb : zU w b e x) (ho : zl6 e) (hc : zk [b] w w1) : zdH w1 t own c k u s rt := by
 obtain ⟨⟨pm, c', k', u', sv, xs, main, subs, e1, hm, ht⟩, pm0, sv0, hbt⟩ := h
 have hq := Option.some.inj ((show w.heap[t]? = _ from hbt).symm.trans hm.blk)
 cases hq
 have hm' := hm.chgB hb ho hc hs
 exact ⟨⟨_, _, _, _, _, xs, main, subs, e1, hm', ht⟩, _, _, hm'.blk⟩
theorem zdH.turn (h : zdH w t own c k u s rt) (hc : zk own w w1) (h1 : yA w1 t own s rt') : zdH w1 t own c k u s rt' := ⟨h1, let ⟨pm, sv, hb⟩ := h.2; ⟨pm, sv, hb.tab h.1 rfl hc⟩⟩
theorem zcu (h : zdH w t own c k u s rt) (hr : yx w c k u o s rw) (hc : zk own w w1) (h1 : yA w1 t own s rt') (hv : yl w1 o' rw') (hok : y4 s rw') {b : Nat} {x : List Value} (hb : zU w1 b 54 x) (hf : w.heap.size ≤ b) (hc2 : zk [b] w1 w2) :
 zdH w2 t own c k u s rt' ∧ yx w2 c k u o' s rw' ∧ zk own w w2 :=
 have hcc := hc.trans' hc2 (fun y hy => .inr (by simp at hy; omega))
 ⟨(h.turn hc h1).put (hr.sch.tab h.1 hcc) hb zpB hc2, ⟨hr.sch.tab h.1 hcc, hv.chgB hb rfl rfl hc2, hok, hr.nm⟩, hcc⟩
theorem zpN (h : yA w t own s rt) (n : Int) (v : Value) (vals : List zQ) (hl : zK w v vals) (hg : ∀ x ∈ vals, x.Rng) :
 z9 TP 31 #[Pt t, Ii n, v] w fun r w' => ∃ o, r = .tuple #[o, .bool (zbv s rt n vals).isSome] ∧ zK w' o ((zbv s rt n vals).getD []) ∧ (∀ b ∈ zp o, w.heap.size ≤ b) ∧ zk [] w w' :=
 let ⟨_, _, _, _, _, _, _, _, _, hm, ht⟩ := h; zoC n v vals w hm ht hl hg
end
def ziw (w : World) (own : List Nat) (c k u : Value) (s : yo) (rt rw : LV) (key : ByteArray) (a : zbX) (r : Value) (w' : World) : Prop :=
 ∃ t' own' o' b, r = .tuple #[Pt t', .agg #[c, k, u, o'], .bool b] ∧ zdH w' t' own' c k u s (zbo s rt key a) ∧ yx w' c k u o' s (zbo s rw key a) ∧ (rt = rw → b = true) ∧ zk own w w' ∧ (own' = own ∨ ∀ p ∈ own', w.heap.size ≤ p)
set_option maxHeartbeats 1000000 in
theorem zs5 (t : Nat) (own : List Nat) (c k u o : Value) (s : yo) (rt rw : LV) (x : zbW) (a : zbX) (w : World) (hE : EOk w) (hA : zdH w t own c k u s rt) (hr : yx w c k u o s rw) (hx : zbg w x a) (hn : a.row.length ≤ 1048576) (h01 : a.what = 0 ∨ a.what = 1) :
 z9 TP 19 #[Pt t, .agg #[c, k, u, o], .agg x.cs.toArray] w (ziw w own c k u s rt rw (zaG s rw a) a) := by
 have h := hA.1
 obtain ⟨xw, xa, xr, xk⟩ := x
 have hx0 := hx
 obtain ⟨e1, e2, e3, hrow, hrng, hat⟩ := hx
 simp only at e1 e2 e3
 subst e1 e2 e3
 obtain ⟨po, co, rfl, hco⟩ := hr.rws.val
 have hokT := h.ok
 have hokR := hr.ok
 refine A3 Tryz.func19 rfl rfl ?_
 refine Sr ?_
 refine Ob rfl rfl ?_
 intro b4 w4 e4 n4 c4 k4
 refine Ob rfl rfl ?_
 intro b5 w5 e5 n5 c5 k5
 refine Oa rfl ?_
 refine zE (gn rfl) (zH zcx rfl rfl ?_)
 intro b7 w7 e7 n7 c7 k7
 refine Oa rfl (E4 0 4 5 7 rfl ?_)
 have hc7 : zk [] w w7 := (c4.trans c5).trans c7
 have k4 : zU w7 b4 54 [c, k, u, .slice po rw.length co] := (k4.chg0 c5).chg0 c7
 have k5 : zU w7 b5 50 [Ii a.what, Ii a.at', xr, .string a.key] := k5.chg0 c7
 have k7 : zU w7 b7 54 [.slice none 0 0, .slice none 0 0, .slice none 0 0, .slice none 0 0] := k7
 have hs4 := c4.size
 have hs5 := c5.size
 have hs7 := hc7.size
 have hb7 : w.heap.size ≤ b7 := by omega
 have hT7 := h.chg0 hc7
 have hr7 := hr.chg0 hc7
 have hx7 := hx0.chg0 hc7
 have hE7 := hE.chg0 hc7
 have hrow7 : zK w7 xr a.row := hrow.chg0 hc7
 refine ze (Sr (Od zds rfl ?_))
 refine Ol ag3 rfl (k5.cell' (i := 0) rfl) ?_
 refine E5 0 4 5 7 36 rfl (zq ?_)
 refine yf (fun F wx => F = [(0, Pt t), (4, Pt b4), (5, Pt b5), (7, Pt b7), (36, Ii a.what), (37, .bool true)] ∧ wx = w7) ?_ ?_
 ·refine ze ?_
  by_cases h0 : a.what = 0
  ·refine za ?_
   refine Og (vt (zw rfl rfl) (by simp [h0])) rfl ?_
   refine Oa rfl (E6 0 4 5 7 36 37 rfl (zd rfl (zm ?_)))
   exact ⟨rfl, rfl⟩
  refine za ?_
  refine Og (vf (zw rfl rfl) (by simp [h0])) rfl ?_
  refine Oa rfl (E6 0 4 5 7 36 37 rfl (zb rfl (za ?_)))
  refine Og (vt (zw rfl rfl) (by simp; omega)) rfl ?_
  refine Oa rfl (E6 0 4 5 7 36 37 rfl ?_)
  exact ⟨rfl, rfl⟩
 rintro F w7 ⟨rfl, rfl⟩
 refine zd rfl ?_
 have hs : ∀ R : LV, zbo s R (zaG s rw a) a = zcG s R a.row := fun R => by unfold zbo; rw [if_pos (by omega)]
 refine Sr ?_
 refine Og (zg yz ya rfl rfl (zy.of_blk0 k4)) rfl ?_
 refine Od zbG rfl ?_
 refine Ol za7 rfl (k5.cell' (i := 2) rfl) ?_
 refine Oc zuS rfl rfl rfl (zkN _ _ _ _ _ s rw a.row _ hr7 hrow7 hrng) ?_
 rintro v44 w44 ⟨o', rfl, h44, c44⟩
 obtain ⟨p44, q44, rfl, -⟩ := h44.rws.val
 refine Om rfl (Oe rfl rfl (Oe rfl rfl ?_))
 refine zE (gn rfl) (zH zcx rfl rfl ?_)
 intro b9 w9 e9 n9 c9 k9
 refine zE (gn rfl) (zu ya rfl rfl rfl rfl k9 (by simp) (yx.one h44.sch _ _ _) ?_)
 intro wA nA cA kA
 refine Oa rfl (E5 0 5 7 9 10 rfl ?_)
 have kA : zU wA b9 54 [c, k, u, .slice p44 (zcG s rw a.row).length q44] := kA
 have hcA : zk [] w7 wA := (c44.trans c9).own cA (by intro y hy; have := c44.size; simp at hy; omega)
 have hTA := hT7.chg0 hcA
 have k5A := k5.chg0 hcA
 have k7A := k7.chg0 hcA
 have hvA : yl wA _ _ := (h44.rws.chg0 c9).chgB k9 rfl rfl cA
 have hd : zk [] wA wA.drew := zk.drew [] _
 refine ze ?_
 refine zJ (fun wz => zk own wA wz) mix (by kernel_rfl) hd.any ?_
 refine Tm rfl ?_
 refine Tr (fun wz hz => zg yz ya rfl rfl (zy.of_blk0 (kA.tab hTA rfl hz))) rfl ?_
 refine Tm rfl (Td zbG rfl ?_)
 refine Tr (fun wz hz => zh za7 rfl ((k5A.tab hTA rfl hz).cell' (i := 2) rfl)) rfl ?_
 refine Tc znI rfl rfl rfl (zkK t own s rt xr a.row _ ((hE7.chg0 hcA).chg0 hd) (hTA.chg0 hd) ((hrow7.chg0 hcA).chg0 hd) hrng hn) ?_
 rintro v52 w52 ⟨rfl, i52, c52⟩
 refine ⟨.inl (hd.any.transS c52), ?_⟩
 refine Tc ze0 rfl rfl rfl (zc3 _ _) ?_
 rintro v53 w53 ⟨rfl, rfl⟩
 refine ⟨.inl (hd.any.transS c52), ?_⟩
 refine Tm rfl ?_
 refine Tp (fun _ => zw rfl rfl) rfl ?_
 refine Ta rfl ?_
 refine zas rfl (gn rfl) (zu ya rfl rfl rfl rfl (k7A.tab hTA rfl (hd.any.transS c52)) (by simp) (yx.one h44.sch _ _ _) ?_)
 intro wB nB cB kB
 refine ⟨.inr (by kernel_rfl), ?_⟩
 refine Ta rfl (D3 6 7 8 rfl (zi ?_))
 repeat first | refine tr ?_ | refine br ?_
 refine zeE rfl yz ya rfl rfl rfl rfl (zy.of_blk0 kB) ?_
 have hcU : zk own wA w53 := hd.any.transS c52
 obtain ⟨g1, g2, g3⟩ := zcu hA hr ((hc7.trans hcA).any.transS hcU) i52 (hvA.tab hTA hcU) h44.ok (k7A.tab hTA rfl hcU) hb7 cB
 refine ⟨t, own, _, _, rfl, by rw [hs]; exact g1, by rw [hs]; exact g2, fun e => by subst e; exact decide_eq_true rfl, g3, .inl rfl⟩
set_option maxHeartbeats 1000000 in
theorem ztq (t : Nat) (own : List Nat) (c k u o : Value) (s : yo) (rt rw : LV) (x : zbW) (a : zbX) (w : World) (hE : EOk w) (hA : zdH w t own c k u s rt) (hr : yx w c k u o s rw) (hx : zbg w x a) (hn : a.row.length ≤ 1048576) (h2 : a.what = 2) :
 z9 TP 19 #[Pt t, .agg #[c, k, u, o], .agg x.cs.toArray] w (ziw w own c k u s rt rw (zaG s rw a) a) := by
 have h := hA.1
 obtain ⟨xw, xa, xr, xk⟩ := x
 have hx0 := hx
 obtain ⟨e1, e2, e3, hrow, hrng, hat⟩ := hx
 simp only at e1 e2 e3
 subst e1 e2 e3
 obtain ⟨po, co, rfl, hco⟩ := hr.rws.val
 have hokT := h.ok
 have hokR := hr.ok
 refine A3 Tryz.func19 rfl rfl ?_
 refine Sr ?_
 refine Ob rfl rfl ?_
 intro b4 w4 e4 n4 c4 k4
 refine Ob rfl rfl ?_
 intro b5 w5 e5 n5 c5 k5
 refine Oa rfl ?_
 refine zE (gn rfl) (zH zcx rfl rfl ?_)
 intro b7 w7 e7 n7 c7 k7
 refine Oa rfl (E4 0 4 5 7 rfl ?_)
 have hc7 : zk [] w w7 := (c4.trans c5).trans c7
 have k4 : zU w7 b4 54 [c, k, u, .slice po rw.length co] := (k4.chg0 c5).chg0 c7
 have k5 : zU w7 b5 50 [Ii a.what, Ii a.at', xr, .string a.key] := k5.chg0 c7
 have k7 : zU w7 b7 54 [.slice none 0 0, .slice none 0 0, .slice none 0 0, .slice none 0 0] := k7
 have hs4 := c4.size
 have hs5 := c5.size
 have hs7 := hc7.size
 have hb7 : w.heap.size ≤ b7 := by omega
 have hT7 := h.chg0 hc7
 have hr7 := hr.chg0 hc7
 have hx7 := hx0.chg0 hc7
 have hE7 := hE.chg0 hc7
 have hrow7 : zK w7 xr a.row := hrow.chg0 hc7
 refine ze (Sr (Od zds rfl ?_))
 refine Ol ag3 rfl (k5.cell' (i := 0) rfl) ?_
 refine E5 0 4 5 7 36 rfl (zq (ze (Sr ?_)))
 refine Og (vf (zw rfl rfl) (by simp; omega)) rfl ?_
 refine Oa rfl (E6 0 4 5 7 36 37 rfl (zb rfl (za ?_)))
 refine Og (vf (zw rfl rfl) (by simp; omega)) rfl ?_
 refine Oa rfl (E6 0 4 5 7 36 37 rfl (zb rfl (Sr ?_)))
 refine Og (vt (zw rfl rfl) (by simp; omega)) rfl ?_
 refine Oa rfl (E6 0 4 5 7 36 56 rfl (zd rfl ?_))
 have hs : ∀ R : LV, zbo s R (zaG s rw a) a = zcG s R a.row := fun R => by unfold zbo; rw [if_pos (by omega)]
 refine Sr ?_
 refine Og (zg yz ya rfl rfl (zy.of_blk0 k4)) rfl ?_
 refine Od zbG rfl ?_
 refine Ol za7 rfl (k5.cell' (i := 2) rfl) ?_
 refine Oc zx7 rfl rfl rfl (zoq _ _ _ _ _ s rw a.row _ hr7 hrow7 hrng) ?_
 rintro v62 w62 ⟨o', rfl, h44, c44⟩
 obtain ⟨p44, q44, rfl, -⟩ := h44.rws.val
 refine Om rfl (Oe rfl rfl (Oe rfl rfl (Oe rfl rfl ?_)))
 refine zE (gn rfl) (zH zcx rfl rfl ?_)
 intro b11 w11 e11 n11 c11 k11
 refine zE (gn rfl) (zu ya rfl rfl rfl rfl k11 (by simp) (yx.one h44.sch _ _ _) ?_)
 intro wA nA cA kA
 refine Oa rfl (Oa rfl (E6 0 5 7 11 12 13 rfl ?_))
 have kA : zU wA b11 54 [c, k, u, .slice p44 (zcG s rw a.row).length q44] := kA
 have hcA : zk [] w7 wA := (c44.trans c11).own cA (by intro y hy; have := c44.size; simp at hy; omega)
 have hTA := hT7.chg0 hcA
 have k5A := k5.chg0 hcA
 have k7A := k7.chg0 hcA
 have hvA : yl wA _ _ := (h44.rws.chg0 c11).chgB k11 rfl rfl cA
 refine Sr (Om rfl (Od zbG rfl ?_))
 refine Ol za7 rfl (k5A.cell' (i := 2) rfl) ?_
 refine Oc zwv rfl rfl rfl (zlq t own s rt xr a.row _ (hE7.chg0 hcA) hTA (hrow7.chg0 hcA) hrng hn) ?_
 rintro v70 w70 ⟨rfl, i70, c70⟩
 refine Om rfl (Oe rfl rfl (Oe rfl rfl (Oa rfl (Oa rfl (E7 0 7 11 12 13 14 15 rfl (ze ?_))))))
 have hd : zk [] w70 w70.drew := zk.drew [] _
 have kA := kA.tab hTA rfl c70
 have k7A := k7A.tab hTA rfl c70
 have hvA := hvA.tab hTA c70
 have hcP := (hc7.trans hcA).any.transS c70
 by_cases hg : zkT s rt a.row = zkT s rw a.row
 ·refine zJ (fun wz => zk [] w70 wz) mix (by kernel_rfl) hd ?_
  refine Tm rfl ?_
  refine Tr (fun wz hz => zg yz ya rfl rfl (zy.of_blk0 (kA.chg0 hz))) rfl ?_
  refine Tm rfl (Tm rfl ?_)
  refine Tp (fun _ => vt (zgK bo4 rfl rfl) (by simp [hg])) rfl ?_
  refine Tm rfl (Tq rfl rfl rfl ?_)
  refine Tv rfl rfl ze0 rfl rfl rfl (zc3 _ _) ?_
  rintro v80 w80 ⟨rfl, rfl⟩
  refine ⟨.inl hd, ?_⟩
  refine Tq rfl rfl rfl ?_
  refine Tg rfl rfl (fun _ => zw rfl rfl) rfl ?_
  refine Tp (fun _ => zL rfl rfl) rfl ?_
  refine Ta rfl ?_
  refine zas rfl (gn rfl) (zu ya rfl rfl rfl rfl (k7A.chg0 hd) (by simp) (yx.one h44.sch _ _ _) ?_)
  intro wB nB cB kB
  refine ⟨.inr (by kernel_rfl), ?_⟩
  refine Ta rfl (D3 6 7 8 rfl (zi ?_))
  repeat first | refine tr ?_ | refine br ?_
  refine zeE rfl yz ya rfl rfl rfl rfl (zy.of_blk0 kB) ?_
  obtain ⟨g1, g2, g3⟩ := zcu hA hr (hcP.trans hd) (i70.chg0 hd) (hvA.chg0 hd) h44.ok (k7A.chg0 hd) hb7 cB
  refine ⟨t, own, _, _, rfl, by rw [hs]; exact g1, by rw [hs]; exact g2, fun e => by subst e; exact decide_eq_true rfl, g3, .inl rfl⟩
 refine zJ (fun wz => zk [] w70 wz) mix (by kernel_rfl) hd ?_
 refine Tm rfl ?_
 refine Tr (fun wz hz => zg yz ya rfl rfl (zy.of_blk0 (kA.chg0 hz))) rfl ?_
 refine Tm rfl (Tm rfl ?_)
 refine Tp (fun _ => vf (zgK bo4 rfl rfl) (by simp [hg])) rfl ?_
 refine Tm rfl (Tz rfl rfl (Tz rfl rfl (Tz rfl rfl (Tz rfl rfl ?_))))
 refine Tp (fun _ => zT rfl rfl) rfl ?_
 refine Ta rfl ?_
 refine zas rfl (gn rfl) (zu ya rfl rfl rfl rfl (k7A.chg0 hd) (by simp) (yx.one h44.sch _ _ _) ?_)
 intro wB nB cB kB
 refine ⟨.inr (by kernel_rfl), ?_⟩
 refine Ta rfl (D3 6 7 8 rfl (zi ?_))
 repeat first | refine tr ?_ | refine br ?_
 refine zeE rfl yz ya rfl rfl rfl rfl (zy.of_blk0 kB) ?_
 obtain ⟨g1, g2, g3⟩ := zcu hA hr (hcP.trans hd) (i70.chg0 hd) (hvA.chg0 hd) h44.ok (k7A.chg0 hd) hb7 cB
 refine ⟨t, own, _, _, rfl, by rw [hs]; exact g1, by rw [hs]; exact g2, fun e => absurd (by rw [e]) hg, g3, .inl rfl⟩
set_option maxHeartbeats 1000000 in
theorem ztZ (t : Nat) (own : List Nat) (c k u o : Value) (s : yo) (rt rw : LV) (x : zbW) (a : zbX) (w : World) (hE : EOk w) (hA : zdH w t own c k u s rt) (hr : yx w c k u o s rw) (hx : zbg w x a) (hn : a.row.length ≤ 1048576) (h3 : a.what = 3) :
 z9 TP 19 #[Pt t, .agg #[c, k, u, o], .agg x.cs.toArray] w (ziw w own c k u s rt rw (zaG s rw a) a) := by
 have h := hA.1
 obtain ⟨xw, xa, xr, xk⟩ := x
 have hx0 := hx
 obtain ⟨e1, e2, e3, hrow, hrng, hat⟩ := hx
 simp only at e1 e2 e3
 subst e1 e2 e3
 obtain ⟨po, co, rfl, hco⟩ := hr.rws.val
 have hokT := h.ok
 have hokR := hr.ok
 refine A3 Tryz.func19 rfl rfl ?_
 refine Sr ?_
 refine Ob rfl rfl ?_
 intro b4 w4 e4 n4 c4 k4
 refine Ob rfl rfl ?_
 intro b5 w5 e5 n5 c5 k5
 refine Oa rfl ?_
 refine zE (gn rfl) (zH zcx rfl rfl ?_)
 intro b7 w7 e7 n7 c7 k7
 refine Oa rfl (E4 0 4 5 7 rfl ?_)
 have hc7 : zk [] w w7 := (c4.trans c5).trans c7
 have k4 : zU w7 b4 54 [c, k, u, .slice po rw.length co] := (k4.chg0 c5).chg0 c7
 have k5 : zU w7 b5 50 [Ii a.what, Ii a.at', xr, .string a.key] := k5.chg0 c7
 have k7 : zU w7 b7 54 [.slice none 0 0, .slice none 0 0, .slice none 0 0, .slice none 0 0] := k7
 have hs4 := c4.size
 have hs5 := c5.size
 have hs7 := hc7.size
 have hb7 : w.heap.size ≤ b7 := by omega
 have hT7 := h.chg0 hc7
 have hr7 := hr.chg0 hc7
 have hx7 := hx0.chg0 hc7
 have hE7 := hE.chg0 hc7
 have hrow7 : zK w7 xr a.row := hrow.chg0 hc7
 refine ze (Sr (Od zds rfl ?_))
 refine Ol ag3 rfl (k5.cell' (i := 0) rfl) ?_
 refine E5 0 4 5 7 36 rfl (zq (ze (Sr ?_)))
 refine Og (vf (zw rfl rfl) (by simp; omega)) rfl ?_
 refine Oa rfl (E6 0 4 5 7 36 37 rfl (zb rfl (za ?_)))
 refine Og (vf (zw rfl rfl) (by simp; omega)) rfl ?_
 refine Oa rfl (E6 0 4 5 7 36 37 rfl (zb rfl (Sr ?_)))
 refine Og (vf (zw rfl rfl) (by simp; omega)) rfl ?_
 refine Oa rfl (E6 0 4 5 7 36 56 rfl (zb rfl (Sr ?_)))
 refine Og (vt (zw rfl rfl) (by simp; omega)) rfl ?_
 refine Oa rfl (E6 0 4 5 7 36 84 rfl (zd rfl ?_))
 have hs : ∀ R : LV, zbo s R (zaG s rw a) a = zfF s R a.row := fun R => by unfold zbo; rw [if_neg (by omega), if_pos h3]
 refine Sr ?_
 refine Og (zg yz ya rfl rfl (zy.of_blk0 k4)) rfl ?_
 refine Od zbG rfl ?_
 refine Ol za7 rfl (k5.cell' (i := 2) rfl) ?_
 refine Oc zxY rfl rfl rfl (znW _ _ _ _ _ s rw a.row _ hr7 hrow7 hrng) ?_
 rintro v90 w90 ⟨o', x', rfl, i44, h44, c44⟩
 obtain ⟨p44, q44, rfl, -⟩ := h44.rws.val
 refine Om rfl (Oe rfl rfl (Oe rfl rfl (Oe rfl rfl ?_)))
 refine zE (gn rfl) (zH zcx rfl rfl ?_)
 intro b16 w16 e16 n16 c16 k16
 refine zE (gn rfl) (zu ya rfl rfl rfl rfl k16 (by simp) (yx.one h44.sch _ _ _) ?_)
 intro wA nA cA kA
 refine Oa rfl (Oa rfl (E6 0 5 7 16 17 18 rfl ?_))
 have kA : zU wA b16 54 [c, k, u, .slice p44 (zfF s rw a.row).length q44] := kA
 have hcA : zk [] w7 wA := (c44.trans c16).own cA (by intro y hy; have := c44.size; simp at hy; omega)
 have hTA := hT7.chg0 hcA
 have k5A := k5.chg0 hcA
 have k7A := k7.chg0 hcA
 have hvA : yl wA _ _ := (h44.rws.chg0 c16).chgB k16 rfl rfl cA
 have hgA : yl wA x' (zdY s rw a.row) := (i44.chg0 c16).chgB k16 rfl rfl cA
 refine Sr (Om rfl (Od zbG rfl ?_))
 refine Ol za7 rfl (k5A.cell' (i := 2) rfl) ?_
 refine Oc zwB rfl rfl rfl (ziP t own s rt xr a.row _ (hE7.chg0 hcA) hTA (hrow7.chg0 hcA) hrng hn) ?_
 rintro v98 w98 ⟨o98, rfl, i98, f98, iT, c98⟩
 refine Om rfl (Oe rfl rfl (Oe rfl rfl (Oa rfl (Oa rfl (E7 0 7 16 17 18 19 20 rfl (ze ?_))))))
 have hd : zk [] w98 w98.drew := zk.drew [] _
 have kA := kA.tab hTA rfl c98
 have k7A := k7A.tab hTA rfl c98
 have hvA := hvA.tab hTA c98
 have hgA := hgA.tab hTA c98
 have hcP := (hc7.trans hcA).any.transS c98
 obtain ⟨l1, l2⟩ := zrK hokT a.row
 by_cases hg : zdY s rt a.row = zdY s rw a.row
 ·refine zJ (fun wz => zk [] w98 wz) mix (by kernel_rfl) hd ?_
  refine Tm rfl ?_
  refine Tr (fun wz hz => zg yz ya rfl rfl (zy.of_blk0 (kA.chg0 hz))) rfl ?_
  refine Tm rfl (Tm rfl ?_)
  refine Tc zrI rfl rfl rfl (zeo o98 x' _ _ _ (i98.chg0 hd) (hgA.chg0 hd).rows l1 l2) ?_
  rintro v105 w105 ⟨e105, c105⟩
  rw [decide_eq_true hg] at e105
  subst e105
  refine ⟨.inl (hd.trans c105), ?_⟩
  refine Tm rfl (Tq rfl rfl rfl ?_)
  refine Tv rfl rfl ze0 rfl rfl rfl (zc3 _ _) ?_
  rintro v108 w108 ⟨rfl, rfl⟩
  refine ⟨.inl (hd.trans c105), ?_⟩
  refine Tq rfl rfl rfl ?_
  refine Tg rfl rfl (fun _ => zw rfl rfl) rfl ?_
  refine Tp (fun _ => zL rfl rfl) rfl ?_
  refine Ta rfl ?_
  refine zas rfl (gn rfl) (zu ya rfl rfl rfl rfl ((k7A.chg0 hd).chg0 c105) (by simp) (yx.one h44.sch _ _ _) ?_)
  intro wB nB cB kB
  refine ⟨.inr (by kernel_rfl), ?_⟩
  refine Ta rfl (D3 6 7 8 rfl (zi ?_))
  repeat first | refine tr ?_ | refine br ?_
  refine zeE rfl yz ya rfl rfl rfl rfl (zy.of_blk0 kB) ?_
  have hdc := hd.trans c105
  obtain ⟨g1, g2, g3⟩ := zcu hA hr (hcP.trans hdc) (iT.chg0 hdc) (hvA.chg0 hdc) h44.ok (k7A.chg0 hdc) hb7 cB
  refine ⟨t, own, _, _, rfl, by rw [hs]; exact g1, by rw [hs]; exact g2, fun e => by subst e; exact decide_eq_true rfl, g3, .inl rfl⟩
 refine zJ (fun wz => zk [] w98 wz) mix (by kernel_rfl) hd ?_
 refine Tm rfl ?_
 refine Tr (fun wz hz => zg yz ya rfl rfl (zy.of_blk0 (kA.chg0 hz))) rfl ?_
 refine Tm rfl (Tm rfl ?_)
 refine Tc zrI rfl rfl rfl (zeo o98 x' _ _ _ (i98.chg0 hd) (hgA.chg0 hd).rows l1 l2) ?_
 rintro v105 w105 ⟨e105, c105⟩
 rw [decide_eq_false hg] at e105
 subst e105
 refine ⟨.inl (hd.trans c105), ?_⟩
 refine Tm rfl (Tz rfl rfl (Tz rfl rfl (Tz rfl rfl (Tz rfl rfl ?_))))
 refine Tp (fun _ => zT rfl rfl) rfl ?_
 refine Ta rfl ?_
 refine zas rfl (gn rfl) (zu ya rfl rfl rfl rfl ((k7A.chg0 hd).chg0 c105) (by simp) (yx.one h44.sch _ _ _) ?_)
 intro wB nB cB kB
 refine ⟨.inr (by kernel_rfl), ?_⟩
 refine Ta rfl (D3 6 7 8 rfl (zi ?_))
 repeat first | refine tr ?_ | refine br ?_
 refine zeE rfl yz ya rfl rfl rfl rfl (zy.of_blk0 kB) ?_
 have hdc := hd.trans c105
 obtain ⟨g1, g2, g3⟩ := zcu hA hr (hcP.trans hdc) (iT.chg0 hdc) (hvA.chg0 hdc) h44.ok (k7A.chg0 hdc) hb7 cB
 refine ⟨t, own, _, _, rfl, by rw [hs]; exact g1, by rw [hs]; exact g2, fun e => absurd (by rw [e]) hg, g3, .inl rfl⟩
set_option maxHeartbeats 1000000 in
theorem ztd (t : Nat) (own : List Nat) (c k u o : Value) (s : yo) (rt rw : LV) (x : zbW) (a : zbX) (w : World) (hE : EOk w) (hA : zdH w t own c k u s rt) (hr : yx w c k u o s rw) (hx : zbg w x a) (hn : a.row.length ≤ 1048576) (h47 : a.what = 4 ∨ a.what = 7) :
 z9 TP 19 #[Pt t, .agg #[c, k, u, o], .agg x.cs.toArray] w (ziw w own c k u s rt rw (zaG s rw a) a) := by
 have h := hA.1
 obtain ⟨xw, xa, xr, xk⟩ := x
 have hx0 := hx
 obtain ⟨e1, e2, e3, hrow, hrng, hat⟩ := hx
 simp only at e1 e2 e3
 subst e1 e2 e3
 obtain ⟨po, co, rfl, hco⟩ := hr.rws.val
 have hokT := h.ok
 have hokR := hr.ok
 refine A3 Tryz.func19 rfl rfl ?_
 refine Sr ?_
 refine Ob rfl rfl ?_
 intro b4 w4 e4 n4 c4 k4
 refine Ob rfl rfl ?_
 intro b5 w5 e5 n5 c5 k5
 refine Oa rfl ?_
 refine zE (gn rfl) (zH zcx rfl rfl ?_)
 intro b7 w7 e7 n7 c7 k7
 refine Oa rfl (E4 0 4 5 7 rfl ?_)
 have hc7 : zk [] w w7 := (c4.trans c5).trans c7
 have k4 : zU w7 b4 54 [c, k, u, .slice po rw.length co] := (k4.chg0 c5).chg0 c7
 have k5 : zU w7 b5 50 [Ii a.what, Ii a.at', xr, .string a.key] := k5.chg0 c7
 have k7 : zU w7 b7 54 [.slice none 0 0, .slice none 0 0, .slice none 0 0, .slice none 0 0] := k7
 have hs4 := c4.size
 have hs5 := c5.size
 have hs7 := hc7.size
 have hb7 : w.heap.size ≤ b7 := by omega
 have hT7 := h.chg0 hc7
 have hr7 := hr.chg0 hc7
 have hx7 := hx0.chg0 hc7
 have hE7 := hE.chg0 hc7
 have hrow7 : zK w7 xr a.row := hrow.chg0 hc7
 refine ze (Sr (Od zds rfl ?_))
 refine Ol ag3 rfl (k5.cell' (i := 0) rfl) ?_
 refine E5 0 4 5 7 36 rfl (zq (ze (Sr ?_)))
 refine Og (vf (zw rfl rfl) (by simp; omega)) rfl ?_
 refine Oa rfl (E6 0 4 5 7 36 37 rfl (zb rfl (za ?_)))
 refine Og (vf (zw rfl rfl) (by simp; omega)) rfl ?_
 refine Oa rfl (E6 0 4 5 7 36 37 rfl (zb rfl (Sr ?_)))
 refine Og (vf (zw rfl rfl) (by simp; omega)) rfl ?_
 refine Oa rfl (E6 0 4 5 7 36 56 rfl (zb rfl (Sr ?_)))
 refine Og (vf (zw rfl rfl) (by simp; omega)) rfl ?_
 refine Oa rfl (E6 0 4 5 7 36 84 rfl (zb rfl ?_))
 refine yf (fun F wx => F = [(0, Pt t), (4, Pt b4), (5, Pt b5), (7, Pt b7), (36, Ii a.what), (112, .bool true)] ∧ wx = w7) ?_ ?_
 ·refine ze ?_
  by_cases h0 : a.what = 4
  ·refine za ?_
   refine Og (vt (zw rfl rfl) (by simp [h0])) rfl ?_
   refine Oa rfl (E6 0 4 5 7 36 112 rfl (zd rfl (zm ?_)))
   exact ⟨rfl, rfl⟩
  refine za ?_
  refine Og (vf (zw rfl rfl) (by simp [h0])) rfl ?_
  refine Oa rfl (E6 0 4 5 7 36 112 rfl (zb rfl (za ?_)))
  refine Og (vt (zw rfl rfl) (by simp; omega)) rfl ?_
  refine Oa rfl (E6 0 4 5 7 36 112 rfl ?_)
  exact ⟨rfl, rfl⟩
 rintro F w7 ⟨rfl, rfl⟩
 refine zd rfl ?_
 have hs : ∀ R : LV, zbo s R (zaG s rw a) a = zet s R (zaG s rw a) a.row := fun R => by unfold zbo; rw [if_neg (by omega), if_neg (by omega), if_pos (by omega)]
 refine yf (fun F wx => ∃ (b21 : Nat) (p q : _) (x' : Value), F = [(0, Pt t), (4, Pt b4), (5, Pt b5), (7, Pt b7), (21, Pt b21), (22, x'), (23, Ii (zcq s rw (zaG s rw a) a.row))] ∧ zU wx b21 54 [c, k, u, .slice p (zet s rw (zaG s rw a) a.row).length q] ∧ zK wx x' (zfr s rw (zaG s rw a) a.row) ∧ yl wx (.slice p (zet s rw (zaG s rw a) a.row).length q) (zet s rw (zaG s rw a) a.row) ∧ y4 s (zet s rw (zaG s rw a) a.row) ∧ zk [] w7 wx) ?_ ?_
 ·have hC := (zk.drew [] w7)
  refine zfe (fun wz => zk [] w7 wz) (zaU.seq [0, 1, 2, 4, 5] (.two 3 (zaU.seq [] (.two 6 (zaU.seq [7, 8, 9, 10, 11, 12, 13, 14] .done) 11 (zaU.seq [6, 7, 8, 9, 10, 12, 13, 14] .done))) 11 (zaU.seq [3, 6, 7, 8, 9, 10, 12, 13, 14] .done))) mix (by kernel_rfl) hC ?_
  refine zdp rfl rfl (gn rfl) (fun wz hz => zg yz ya rfl rfl (zy.of_blk0 (k4.chg0 hz))) rfl rfl ?_
  refine zdp rfl rfl (gn rfl) (fun wz hz => zg yz ya rfl rfl (zy.of_blk0 (k4.chg0 hz))) rfl rfl ?_
  refine zdp rfl rfl (gn rfl) (fun wz hz => zg zl3 zd3 rfl rfl (zy.of_blk0 (k5.chg0 hz))) rfl rfl ?_
  refine yd rfl rfl (gn rfl) (fun _ => zj zbG rfl) rfl rfl ?_
  refine zdp rfl rfl (gn rfl) (fun wz hz => zh za7 rfl ((k5.chg0 hz).cell' (i := 2) rfl)) rfl rfl ?_
  refine zeF ?_ ?_
  ·refine zaa rfl rfl (gn rfl) (y5 zn0 rfl rfl rfl rfl (zjj _ _ _ _ s rw ⟨a.what, a.at', xr, a.key⟩ a _ (hr7.chg0 hC) (hx7.chg0 hC)) ?_)
   rintro v119 w119 ⟨rfl, c119⟩
   have hN119 := hC.size
   have hC := hC.trans c119
   refine ⟨.inl hC, ?_⟩
   refine zeF ?_ ?_
   ·refine zaa rfl rfl (gn rfl) (y5 zth rfl rfl rfl rfl (zhE _ _ _ _ _ s rw (zaG s rw a) a.row _ (hr7.chg0 hC) (hrow7.chg0 hC) hrng) ?_)
    rintro v122 w122 ⟨o', x', rfl, i122, h122, c122⟩
    obtain ⟨p122, q122, rfl, -⟩ := h122.rws.val
    have hN122 := hC.size
    have hC := hC.trans c122
    refine ⟨.inl hC, ?_⟩
    refine yd rfl rfl (gn rfl) (fun _ => zal rfl) rfl rfl ?_
    refine yd rfl rfl (gn rfl) (fun _ => zP rfl rfl) rfl rfl ?_
    refine yd rfl rfl (gn rfl) (fun _ => zP rfl rfl) rfl rfl ?_
    refine yd rfl rfl (gn rfl) (fun _ => zP rfl rfl) rfl rfl ?_
    refine zaa rfl rfl (gn rfl) (zH zcx rfl rfl ?_)
    intro b21 w21 e21 n21 c21 k21
    have hN21 := hC.size
    have hC := hC.trans c21
    have i122 := i122.chg0 c21
    have h122 := h122.chg0 c21
    refine ⟨.inl hC, ?_⟩
    refine zaa rfl rfl (gn rfl) (zu ya rfl rfl rfl rfl k21 (by simp) (yx.one h122.sch _ _ _) ?_)
    intro wA nA cA kA
    have hC := hC.own cA (by intro y hy; simp at hy; omega)
    refine ⟨.inl hC, ?_⟩
    refine yd rfl rfl (gn rfl) (fun _ => yh rfl) rfl rfl ?_
    refine yd rfl rfl (gn rfl) (fun _ => yh rfl) rfl rfl ?_
    refine zcB [0, 4, 5, 7, 21, 22, 23] (F' := [(0, _), (4, _), (5, _), (7, _), (21, _), (22, _), (23, _)]) rfl ?_
    exact ⟨b21, p122, q122, _, rfl, kA, z0.chgC i122 cA zd1 (Nl.one k21 ziL), h122.rws.chgB k21 rfl rfl cA, h122.ok, hC⟩
   refine zaa rfl rfl (gn rfl) (zH zcx rfl rfl ?_)
   intro b21 w21 e21 n21 c21 k21
   have hN21 := hC.size
   have hC := hC.trans c21
   refine ⟨.inl hC, ?_⟩
   refine zaa rfl rfl (gn rfl) (y5 zth rfl rfl rfl rfl (zhE _ _ _ _ _ s rw (zaG s rw a) a.row _ (hr7.chg0 hC) (hrow7.chg0 hC) hrng) ?_)
   rintro v122 w122 ⟨o', x', rfl, i122, h122, c122⟩
   obtain ⟨p122, q122, rfl, -⟩ := h122.rws.val
   have hN122 := hC.size
   have hC := hC.trans c122
   have k21 := k21.chg0 c122
   refine ⟨.inl hC, ?_⟩
   refine yd rfl rfl (gn rfl) (fun _ => zal rfl) rfl rfl ?_
   refine yd rfl rfl (gn rfl) (fun _ => zP rfl rfl) rfl rfl ?_
   refine yd rfl rfl (gn rfl) (fun _ => zP rfl rfl) rfl rfl ?_
   refine yd rfl rfl (gn rfl) (fun _ => zP rfl rfl) rfl rfl ?_
   refine zaa rfl rfl (gn rfl) (zu ya rfl rfl rfl rfl k21 (by simp) (yx.one h122.sch _ _ _) ?_)
   intro wA nA cA kA
   have hC := hC.own cA (by intro y hy; simp at hy; omega)
   refine ⟨.inl hC, ?_⟩
   refine yd rfl rfl (gn rfl) (fun _ => yh rfl) rfl rfl ?_
   refine yd rfl rfl (gn rfl) (fun _ => yh rfl) rfl rfl ?_
   refine zcB [0, 4, 5, 7, 21, 22, 23] (F' := [(0, _), (4, _), (5, _), (7, _), (21, _), (22, _), (23, _)]) rfl ?_
   exact ⟨b21, p122, q122, _, rfl, kA, z0.chgC i122 cA zd1 (Nl.one k21 ziL), h122.rws.chgB k21 rfl rfl cA, h122.ok, hC⟩
  refine zaa rfl rfl (gn rfl) (zH zcx rfl rfl ?_)
  intro b21 w21 e21 n21 c21 k21
  have hN21 := hC.size
  have hC := hC.trans c21
  refine ⟨.inl hC, ?_⟩
  refine zaa rfl rfl (gn rfl) (y5 zn0 rfl rfl rfl rfl (zjj _ _ _ _ s rw ⟨a.what, a.at', xr, a.key⟩ a _ (hr7.chg0 hC) (hx7.chg0 hC)) ?_)
  rintro v119 w119 ⟨rfl, c119⟩
  have hN119 := hC.size
  have hC := hC.trans c119
  have k21 := k21.chg0 c119
  refine ⟨.inl hC, ?_⟩
  refine zaa rfl rfl (gn rfl) (y5 zth rfl rfl rfl rfl (zhE _ _ _ _ _ s rw (zaG s rw a) a.row _ (hr7.chg0 hC) (hrow7.chg0 hC) hrng) ?_)
  rintro v122 w122 ⟨o', x', rfl, i122, h122, c122⟩
  obtain ⟨p122, q122, rfl, -⟩ := h122.rws.val
  have hN122 := hC.size
  have hC := hC.trans c122
  have k21 := k21.chg0 c122
  refine ⟨.inl hC, ?_⟩
  refine yd rfl rfl (gn rfl) (fun _ => zal rfl) rfl rfl ?_
  refine yd rfl rfl (gn rfl) (fun _ => zP rfl rfl) rfl rfl ?_
  refine yd rfl rfl (gn rfl) (fun _ => zP rfl rfl) rfl rfl ?_
  refine yd rfl rfl (gn rfl) (fun _ => zP rfl rfl) rfl rfl ?_
  refine zaa rfl rfl (gn rfl) (zu ya rfl rfl rfl rfl k21 (by simp) (yx.one h122.sch _ _ _) ?_)
  intro wA nA cA kA
  have hC := hC.own cA (by intro y hy; simp at hy; omega)
  refine ⟨.inl hC, ?_⟩
  refine yd rfl rfl (gn rfl) (fun _ => yh rfl) rfl rfl ?_
  refine yd rfl rfl (gn rfl) (fun _ => yh rfl) rfl rfl ?_
  refine zcB [0, 4, 5, 7, 21, 22, 23] (F' := [(0, _), (4, _), (5, _), (7, _), (21, _), (22, _), (23, _)]) rfl ?_
  exact ⟨b21, p122, q122, _, rfl, kA, z0.chgC i122 cA zd1 (Nl.one k21 ziL), h122.rws.chgB k21 rfl rfl cA, h122.ok, hC⟩
 rintro F wx ⟨b21, p44, q44, x', rfl, kA, ix, hvA, hok, hcA⟩
 have hTA := hT7.chg0 hcA
 have k4A := k4.chg0 hcA
 have k5A := k5.chg0 hcA
 have k7A := k7.chg0 hcA
 have hrA := hr7.chg0 hcA
 have hxA := hx7.chg0 hcA
 have hd : zk [] wx wx.drew := zk.drew [] _
 refine ze ?_
 refine zJ (fun wz => zk own wx wz) mix (by kernel_rfl) hd.any ?_
 refine Tm rfl ?_
 refine Tr (fun wz hz => zg yz ya rfl rfl (zy.of_blk0 (k4A.tab hTA rfl hz))) rfl ?_
 refine Tr (fun wz hz => zg zl3 zd3 rfl rfl (zy.of_blk0 (k5A.tab hTA rfl hz))) rfl ?_
 refine Tc zn0 rfl rfl rfl (zjj _ _ _ _ s rw ⟨a.what, a.at', xr, a.key⟩ a _ (hrA.chg0 hd) (hxA.chg0 hd)) ?_
 rintro v130 w130 ⟨rfl, c130⟩
 refine ⟨.inl (hd.any.trans c130), ?_⟩
 refine Td zbG rfl ?_
 refine Tr (fun wz hz => zh za7 rfl ((k5A.tab hTA rfl hz).cell' (i := 2) rfl)) rfl ?_
 refine Tc zu6 rfl rfl rfl (zk8 t own s rt xr a.row (zaG s rw a) _ (((hE7.chg0 hcA).chg0 hd).chg0 c130) ((hTA.chg0 hd).chg0 c130) (((hrow7.chg0 hcA).chg0 hd).chg0 c130) hrng hn) ?_
 rintro v133 w133 ⟨o133, rfl, i133, f133, iT, c133⟩
 refine ⟨.inl ((hd.trans c130).any.transS c133), ?_⟩
 refine Tm rfl ?_
 refine Tp (fun _ => zP rfl rfl) rfl ?_
 refine Tp (fun _ => zP rfl rfl) rfl ?_
 refine Ta rfl (Ta rfl ?_)
 refine zhe [0, 7, 21, 22, 23, 24, 25] (F' := [(0, _), (7, _), (21, _), (22, _), (23, _), (24, _), (25, _)]) rfl ?_
 have hcU : zk own wx w133 := (hd.trans c130).any.transS c133
 refine ze ?_
 have hd : zk [] w133 w133.drew := zk.drew [] _
 have kA := kA.tab hTA rfl hcU
 have k7A := k7A.tab hTA rfl hcU
 have hvA := hvA.tab hTA hcU
 have ix := zK.tab hTA ix hcU
 have hcP := (hc7.trans hcA).any.transS hcU
 have hle := zqp hokT (zaG s rw a) a.row
 by_cases hg : zfr s rt (zaG s rw a) a.row = zfr s rw (zaG s rw a) a.row
 ·refine zJ (fun wz => zk [] w133 wz) mix (by kernel_rfl) hd ?_
  refine Tm rfl ?_
  refine Tr (fun wz hz => zg yz ya rfl rfl (zy.of_blk0 (kA.chg0 hz))) rfl ?_
  refine Tm rfl (Tm rfl ?_)
  refine Tc zh1 rfl rfl rfl (zdo o133 x' _ _ _ (i133.chg0 hd) (ix.chg0 hd) hle) ?_
  rintro v140 w140 ⟨e140, c140⟩
  rw [decide_eq_true hg] at e140
  subst e140
  refine ⟨.inl (hd.trans c140), ?_⟩
  refine Tm rfl (Tq rfl rfl rfl ?_)
  refine Tv rfl rfl ze0 rfl rfl rfl (zc3 _ _) ?_
  rintro v143 w143 ⟨rfl, rfl⟩
  refine ⟨.inl (hd.trans c140), ?_⟩
  refine Tq rfl rfl rfl ?_
  refine Tg rfl rfl (fun _ => zw rfl rfl) rfl ?_
  refine Tp (fun _ => zL rfl rfl) rfl ?_
  refine Ta rfl ?_
  refine zas rfl (gn rfl) (zu ya rfl rfl rfl rfl ((k7A.chg0 hd).chg0 c140) (by simp) (yx.one hr.sch _ _ _) ?_)
  intro wB nB cB kB
  refine ⟨.inr (by kernel_rfl), ?_⟩
  refine Ta rfl (D3 6 7 8 rfl (zi ?_))
  repeat first | refine tr ?_ | refine br ?_
  refine zeE rfl yz ya rfl rfl rfl rfl (zy.of_blk0 kB) ?_
  have hdc := hd.trans c140
  obtain ⟨g1, g2, g3⟩ := zcu hA hr (hcP.trans hdc) (iT.chg0 hdc) (hvA.chg0 hdc) hok (k7A.chg0 hdc) hb7 cB
  refine ⟨t, own, _, _, rfl, by rw [hs]; exact g1, by rw [hs]; exact g2, fun e => by subst e; exact decide_eq_true rfl, g3, .inl rfl⟩
 refine zJ (fun wz => zk [] w133 wz) mix (by kernel_rfl) hd ?_
 refine Tm rfl ?_
 refine Tr (fun wz hz => zg yz ya rfl rfl (zy.of_blk0 (kA.chg0 hz))) rfl ?_
 refine Tm rfl (Tm rfl ?_)
 refine Tc zh1 rfl rfl rfl (zdo o133 x' _ _ _ (i133.chg0 hd) (ix.chg0 hd) hle) ?_
 rintro v140 w140 ⟨e140, c140⟩
 rw [decide_eq_false hg] at e140
 subst e140
 refine ⟨.inl (hd.trans c140), ?_⟩
 refine Tm rfl (Tz rfl rfl (Tz rfl rfl (Tz rfl rfl (Tz rfl rfl ?_))))
 refine Tp (fun _ => zT rfl rfl) rfl ?_
 refine Ta rfl ?_
 refine zas rfl (gn rfl) (zu ya rfl rfl rfl rfl ((k7A.chg0 hd).chg0 c140) (by simp) (yx.one hr.sch _ _ _) ?_)
 intro wB nB cB kB
 refine ⟨.inr (by kernel_rfl), ?_⟩
 refine Ta rfl (D3 6 7 8 rfl (zi ?_))
 repeat first | refine tr ?_ | refine br ?_
 refine zeE rfl yz ya rfl rfl rfl rfl (zy.of_blk0 kB) ?_
 have hdc := hd.trans c140
 obtain ⟨g1, g2, g3⟩ := zcu hA hr (hcP.trans hdc) (iT.chg0 hdc) (hvA.chg0 hdc) hok (k7A.chg0 hdc) hb7 cB
 refine ⟨t, own, _, _, rfl, by rw [hs]; exact g1, by rw [hs]; exact g2, fun e => absurd (by rw [e]) hg, g3, .inl rfl⟩
set_option maxHeartbeats 1000000 in
theorem ztD (t : Nat) (own : List Nat) (c k u o : Value) (s : yo) (rt rw : LV) (x : zbW) (a : zbX) (w : World) (hE : EOk w) (hA : zdH w t own c k u s rt) (hr : yx w c k u o s rw) (hx : zbg w x a) (hn : a.row.length ≤ 1048576) (h58 : a.what = 5 ∨ a.what = 8) :
 z9 TP 19 #[Pt t, .agg #[c, k, u, o], .agg x.cs.toArray] w (ziw w own c k u s rt rw (zaG s rw a) a) := by
 have h := hA.1
 obtain ⟨xw, xa, xr, xk⟩ := x
 have hx0 := hx
 obtain ⟨e1, e2, e3, hrow, hrng, hat⟩ := hx
 simp only at e1 e2 e3
 subst e1 e2 e3
 obtain ⟨po, co, rfl, hco⟩ := hr.rws.val
 have hokT := h.ok
 have hokR := hr.ok
 refine A3 Tryz.func19 rfl rfl ?_
 refine Sr ?_
 refine Ob rfl rfl ?_
 intro b4 w4 e4 n4 c4 k4
 refine Ob rfl rfl ?_
 intro b5 w5 e5 n5 c5 k5
 refine Oa rfl ?_
 refine zE (gn rfl) (zH zcx rfl rfl ?_)
 intro b7 w7 e7 n7 c7 k7
 refine Oa rfl (E4 0 4 5 7 rfl ?_)
 have hc7 : zk [] w w7 := (c4.trans c5).trans c7
 have k4 : zU w7 b4 54 [c, k, u, .slice po rw.length co] := (k4.chg0 c5).chg0 c7
 have k5 : zU w7 b5 50 [Ii a.what, Ii a.at', xr, .string a.key] := k5.chg0 c7
 have k7 : zU w7 b7 54 [.slice none 0 0, .slice none 0 0, .slice none 0 0, .slice none 0 0] := k7
 have hs4 := c4.size
 have hs5 := c5.size
 have hs7 := hc7.size
 have hb7 : w.heap.size ≤ b7 := by omega
 have hT7 := h.chg0 hc7
 have hr7 := hr.chg0 hc7
 have hx7 := hx0.chg0 hc7
 have hE7 := hE.chg0 hc7
 have hrow7 : zK w7 xr a.row := hrow.chg0 hc7
 refine ze (Sr (Od zds rfl ?_))
 refine Ol ag3 rfl (k5.cell' (i := 0) rfl) ?_
 refine E5 0 4 5 7 36 rfl (zq (ze (Sr ?_)))
 refine Og (vf (zw rfl rfl) (by simp; omega)) rfl ?_
 refine Oa rfl (E6 0 4 5 7 36 37 rfl (zb rfl (za ?_)))
 refine Og (vf (zw rfl rfl) (by simp; omega)) rfl ?_
 refine Oa rfl (E6 0 4 5 7 36 37 rfl (zb rfl (Sr ?_)))
 refine Og (vf (zw rfl rfl) (by simp; omega)) rfl ?_
 refine Oa rfl (E6 0 4 5 7 36 56 rfl (zb rfl (Sr ?_)))
 refine Og (vf (zw rfl rfl) (by simp; omega)) rfl ?_
 refine Oa rfl (E6 0 4 5 7 36 84 rfl (zb rfl (ze (Sr ?_))))
 refine Og (vf (zw rfl rfl) (by simp; omega)) rfl ?_
 refine Oa rfl (E6 0 4 5 7 36 112 rfl (zb rfl (za ?_)))
 refine Og (vf (zw rfl rfl) (by simp; omega)) rfl ?_
 refine Oa rfl (E6 0 4 5 7 36 112 rfl (zb rfl ?_))
 refine yf (fun F wx => F = [(0, Pt t), (4, Pt b4), (5, Pt b5), (7, Pt b7), (36, Ii a.what), (147, .bool true)] ∧ wx = w7) ?_ ?_
 ·refine ze ?_
  by_cases h0 : a.what = 5
  ·refine za ?_
   refine Og (vt (zw rfl rfl) (by simp [h0])) rfl ?_
   refine Oa rfl (E6 0 4 5 7 36 147 rfl (zd rfl (zm ?_)))
   exact ⟨rfl, rfl⟩
  refine za ?_
  refine Og (vf (zw rfl rfl) (by simp [h0])) rfl ?_
  refine Oa rfl (E6 0 4 5 7 36 147 rfl (zb rfl (za ?_)))
  refine Og (vt (zw rfl rfl) (by simp; omega)) rfl ?_
  refine Oa rfl (E6 0 4 5 7 36 147 rfl ?_)
  exact ⟨rfl, rfl⟩
 rintro F w7 ⟨rfl, rfl⟩
 refine zd rfl ?_
 have hs : ∀ R : LV, zbo s R (zaG s rw a) a = yX s R (zaG s rw a) := fun R => by unfold zbo; rw [if_neg (by omega), if_neg (by omega), if_neg (by omega), if_pos (by omega)]
 refine yf (fun F wx => ∃ (b26 : Nat) (p q : _) (x' : Value), F = [(0, Pt t), (4, Pt b4), (5, Pt b5), (7, Pt b7), (26, Pt b26), (27, x'), (28, Ii (zkx s rw (zaG s rw a)))] ∧ zU wx b26 54 [c, k, u, .slice p (yX s rw (zaG s rw a)).length q] ∧ zK wx x' ((zca s rw (zaG s rw a)).getD []) ∧ yl wx (.slice p (yX s rw (zaG s rw a)).length q) (yX s rw (zaG s rw a)) ∧ y4 s (yX s rw (zaG s rw a)) ∧ zk [] w7 wx) ?_ ?_
 ·have hC := (zk.drew [] w7)
  refine zfe (fun wz => zk [] w7 wz) (zaU.seq [0, 1, 2] (.two 3 (zaU.seq [] (.two 4 (zaU.seq [5, 6, 7, 8, 9, 10, 11, 12] .done) 9 (zaU.seq [4, 5, 6, 7, 8, 10, 11, 12] .done))) 9 (zaU.seq [3, 4, 5, 6, 7, 8, 10, 11, 12] .done))) mix (by kernel_rfl) hC ?_
  refine zdp rfl rfl (gn rfl) (fun wz hz => zg yz ya rfl rfl (zy.of_blk0 (k4.chg0 hz))) rfl rfl ?_
  refine zdp rfl rfl (gn rfl) (fun wz hz => zg yz ya rfl rfl (zy.of_blk0 (k4.chg0 hz))) rfl rfl ?_
  refine zdp rfl rfl (gn rfl) (fun wz hz => zg zl3 zd3 rfl rfl (zy.of_blk0 (k5.chg0 hz))) rfl rfl ?_
  refine zeF ?_ ?_
  ·refine zaa rfl rfl (gn rfl) (y5 zn0 rfl rfl rfl rfl (zjj _ _ _ _ s rw ⟨a.what, a.at', xr, a.key⟩ a _ (hr7.chg0 hC) (hx7.chg0 hC)) ?_)
   rintro v154 w154 ⟨rfl, c119⟩
   have hN119 := hC.size
   have hC := hC.trans c119
   refine ⟨.inl hC, ?_⟩
   refine zeF ?_ ?_
   ·refine zaa rfl rfl (gn rfl) (y5 ztr rfl rfl rfl rfl (zh9 _ _ _ _ s rw (zaG s rw a) _ (hr7.chg0 hC)) ?_)
    rintro v155 w155 ⟨o', x', rfl, i122, h122, c122⟩
    obtain ⟨p122, q122, rfl, -⟩ := h122.rws.val
    have hN122 := hC.size
    have hC := hC.trans c122
    refine ⟨.inl hC, ?_⟩
    refine yd rfl rfl (gn rfl) (fun _ => zal rfl) rfl rfl ?_
    refine yd rfl rfl (gn rfl) (fun _ => zP rfl rfl) rfl rfl ?_
    refine yd rfl rfl (gn rfl) (fun _ => zP rfl rfl) rfl rfl ?_
    refine yd rfl rfl (gn rfl) (fun _ => zP rfl rfl) rfl rfl ?_
    refine zaa rfl rfl (gn rfl) (zH zcx rfl rfl ?_)
    intro b26 w26 e26 n26 c26 k26
    have hN26 := hC.size
    have hC := hC.trans c26
    have i122 := i122.chg0 c26
    have h122 := h122.chg0 c26
    refine ⟨.inl hC, ?_⟩
    refine zaa rfl rfl (gn rfl) (zu ya rfl rfl rfl rfl k26 (by simp) (yx.one h122.sch _ _ _) ?_)
    intro wA nA cA kA
    have hC := hC.own cA (by intro y hy; simp at hy; omega)
    refine ⟨.inl hC, ?_⟩
    refine yd rfl rfl (gn rfl) (fun _ => yh rfl) rfl rfl ?_
    refine yd rfl rfl (gn rfl) (fun _ => yh rfl) rfl rfl ?_
    refine zcB [0, 4, 5, 7, 26, 27, 28] (F' := [(0, _), (4, _), (5, _), (7, _), (26, _), (27, _), (28, _)]) rfl ?_
    exact ⟨b26, p122, q122, _, rfl, kA, z0.chgC i122 cA zd1 (Nl.one k26 ziL), h122.rws.chgB k26 rfl rfl cA, h122.ok, hC⟩
   refine zaa rfl rfl (gn rfl) (zH zcx rfl rfl ?_)
   intro b26 w26 e26 n26 c26 k26
   have hN26 := hC.size
   have hC := hC.trans c26
   refine ⟨.inl hC, ?_⟩
   refine zaa rfl rfl (gn rfl) (y5 ztr rfl rfl rfl rfl (zh9 _ _ _ _ s rw (zaG s rw a) _ (hr7.chg0 hC)) ?_)
   rintro v155 w155 ⟨o', x', rfl, i122, h122, c122⟩
   obtain ⟨p122, q122, rfl, -⟩ := h122.rws.val
   have hN122 := hC.size
   have hC := hC.trans c122
   have k26 := k26.chg0 c122
   refine ⟨.inl hC, ?_⟩
   refine yd rfl rfl (gn rfl) (fun _ => zal rfl) rfl rfl ?_
   refine yd rfl rfl (gn rfl) (fun _ => zP rfl rfl) rfl rfl ?_
   refine yd rfl rfl (gn rfl) (fun _ => zP rfl rfl) rfl rfl ?_
   refine yd rfl rfl (gn rfl) (fun _ => zP rfl rfl) rfl rfl ?_
   refine zaa rfl rfl (gn rfl) (zu ya rfl rfl rfl rfl k26 (by simp) (yx.one h122.sch _ _ _) ?_)
   intro wA nA cA kA
   have hC := hC.own cA (by intro y hy; simp at hy; omega)
   refine ⟨.inl hC, ?_⟩
   refine yd rfl rfl (gn rfl) (fun _ => yh rfl) rfl rfl ?_
   refine yd rfl rfl (gn rfl) (fun _ => yh rfl) rfl rfl ?_
   refine zcB [0, 4, 5, 7, 26, 27, 28] (F' := [(0, _), (4, _), (5, _), (7, _), (26, _), (27, _), (28, _)]) rfl ?_
   exact ⟨b26, p122, q122, _, rfl, kA, z0.chgC i122 cA zd1 (Nl.one k26 ziL), h122.rws.chgB k26 rfl rfl cA, h122.ok, hC⟩
  refine zaa rfl rfl (gn rfl) (zH zcx rfl rfl ?_)
  intro b26 w26 e26 n26 c26 k26
  have hN26 := hC.size
  have hC := hC.trans c26
  refine ⟨.inl hC, ?_⟩
  refine zaa rfl rfl (gn rfl) (y5 zn0 rfl rfl rfl rfl (zjj _ _ _ _ s rw ⟨a.what, a.at', xr, a.key⟩ a _ (hr7.chg0 hC) (hx7.chg0 hC)) ?_)
  rintro v154 w154 ⟨rfl, c119⟩
  have hN119 := hC.size
  have hC := hC.trans c119
  have k26 := k26.chg0 c119
  refine ⟨.inl hC, ?_⟩
  refine zaa rfl rfl (gn rfl) (y5 ztr rfl rfl rfl rfl (zh9 _ _ _ _ s rw (zaG s rw a) _ (hr7.chg0 hC)) ?_)
  rintro v155 w155 ⟨o', x', rfl, i122, h122, c122⟩
  obtain ⟨p122, q122, rfl, -⟩ := h122.rws.val
  have hN122 := hC.size
  have hC := hC.trans c122
  have k26 := k26.chg0 c122
  refine ⟨.inl hC, ?_⟩
  refine yd rfl rfl (gn rfl) (fun _ => zal rfl) rfl rfl ?_
  refine yd rfl rfl (gn rfl) (fun _ => zP rfl rfl) rfl rfl ?_
  refine yd rfl rfl (gn rfl) (fun _ => zP rfl rfl) rfl rfl ?_
  refine yd rfl rfl (gn rfl) (fun _ => zP rfl rfl) rfl rfl ?_
  refine zaa rfl rfl (gn rfl) (zu ya rfl rfl rfl rfl k26 (by simp) (yx.one h122.sch _ _ _) ?_)
  intro wA nA cA kA
  have hC := hC.own cA (by intro y hy; simp at hy; omega)
  refine ⟨.inl hC, ?_⟩
  refine yd rfl rfl (gn rfl) (fun _ => yh rfl) rfl rfl ?_
  refine yd rfl rfl (gn rfl) (fun _ => yh rfl) rfl rfl ?_
  refine zcB [0, 4, 5, 7, 26, 27, 28] (F' := [(0, _), (4, _), (5, _), (7, _), (26, _), (27, _), (28, _)]) rfl ?_
  exact ⟨b26, p122, q122, _, rfl, kA, z0.chgC i122 cA zd1 (Nl.one k26 ziL), h122.rws.chgB k26 rfl rfl cA, h122.ok, hC⟩
 rintro F wx ⟨b26, p44, q44, x', rfl, kA, ix, hvA, hok, hcA⟩
 have hTA := hT7.chg0 hcA
 have k4A := k4.chg0 hcA
 have k5A := k5.chg0 hcA
 have k7A := k7.chg0 hcA
 have hrA := hr7.chg0 hcA
 have hxA := hx7.chg0 hcA
 refine Sr (Om rfl ?_)
 refine Og (zg yz ya rfl rfl (zy.of_blk0 k4A)) rfl ?_
 refine Og (zg zl3 zd3 rfl rfl (zy.of_blk0 k5A)) rfl ?_
 refine Oc zn0 rfl rfl rfl (zjj _ _ _ _ s rw ⟨a.what, a.at', xr, a.key⟩ a _ hrA hxA) ?_
 rintro v163 w163 ⟨rfl, c130⟩
 refine Oc zyj rfl rfl rfl (zoO t own s rt (zaG s rw a) _ (hTA.chg0 c130)) ?_
 rintro v164 w164 ⟨o133, rfl, i133, f133, iT, c133⟩
 refine Om rfl (Oe rfl rfl (Oe rfl rfl (Oa rfl (Oa rfl (E7 0 7 26 27 28 29 30 rfl ?_)))))
 have hcU : zk own wx w164 := c130.any.transS c133
 refine ze ?_
 have hd : zk [] w164 w164.drew := zk.drew [] _
 have kA := kA.tab hTA rfl hcU
 have k7A := k7A.tab hTA rfl hcU
 have hvA := hvA.tab hTA hcU
 have ix := zK.tab hTA ix hcU
 have hcP := (hc7.trans hcA).any.transS hcU
 have hle := zpq hokT (zaG s rw a)
 by_cases hg : (zca s rt (zaG s rw a)).getD [] = (zca s rw (zaG s rw a)).getD []
 ·refine zJ (fun wz => zk [] w164 wz) mix (by kernel_rfl) hd ?_
  refine Tm rfl ?_
  refine Tr (fun wz hz => zg yz ya rfl rfl (zy.of_blk0 (kA.chg0 hz))) rfl ?_
  refine Tm rfl (Tm rfl ?_)
  refine Tc zh1 rfl rfl rfl (zdo o133 x' _ _ _ (i133.chg0 hd) (ix.chg0 hd) hle) ?_
  rintro v171 w171 ⟨e140, c140⟩
  rw [decide_eq_true hg] at e140
  subst e140
  refine ⟨.inl (hd.trans c140), ?_⟩
  refine Tm rfl (Tq rfl rfl rfl ?_)
  refine Tv rfl rfl ze0 rfl rfl rfl (zc3 _ _) ?_
  rintro v174 w174 ⟨rfl, rfl⟩
  refine ⟨.inl (hd.trans c140), ?_⟩
  refine Tq rfl rfl rfl ?_
  refine Tg rfl rfl (fun _ => zw rfl rfl) rfl ?_
  refine Tp (fun _ => zL rfl rfl) rfl ?_
  refine Ta rfl ?_
  refine zas rfl (gn rfl) (zu ya rfl rfl rfl rfl ((k7A.chg0 hd).chg0 c140) (by simp) (yx.one hr.sch _ _ _) ?_)
  intro wB nB cB kB
  refine ⟨.inr (by kernel_rfl), ?_⟩
  refine Ta rfl (D3 6 7 8 rfl (zi ?_))
  repeat first | refine tr ?_ | refine br ?_
  refine zeE rfl yz ya rfl rfl rfl rfl (zy.of_blk0 kB) ?_
  have hdc := hd.trans c140
  obtain ⟨g1, g2, g3⟩ := zcu hA hr (hcP.trans hdc) (iT.chg0 hdc) (hvA.chg0 hdc) hok (k7A.chg0 hdc) hb7 cB
  refine ⟨t, own, _, _, rfl, by rw [hs]; exact g1, by rw [hs]; exact g2, fun e => by subst e; exact decide_eq_true rfl, g3, .inl rfl⟩
 refine zJ (fun wz => zk [] w164 wz) mix (by kernel_rfl) hd ?_
 refine Tm rfl ?_
 refine Tr (fun wz hz => zg yz ya rfl rfl (zy.of_blk0 (kA.chg0 hz))) rfl ?_
 refine Tm rfl (Tm rfl ?_)
 refine Tc zh1 rfl rfl rfl (zdo o133 x' _ _ _ (i133.chg0 hd) (ix.chg0 hd) hle) ?_
 rintro v171 w171 ⟨e140, c140⟩
 rw [decide_eq_false hg] at e140
 subst e140
 refine ⟨.inl (hd.trans c140), ?_⟩
 refine Tm rfl (Tz rfl rfl (Tz rfl rfl (Tz rfl rfl (Tz rfl rfl ?_))))
 refine Tp (fun _ => zT rfl rfl) rfl ?_
 refine Ta rfl ?_
 refine zas rfl (gn rfl) (zu ya rfl rfl rfl rfl ((k7A.chg0 hd).chg0 c140) (by simp) (yx.one hr.sch _ _ _) ?_)
 intro wB nB cB kB
 refine ⟨.inr (by kernel_rfl), ?_⟩
 refine Ta rfl (D3 6 7 8 rfl (zi ?_))
 repeat first | refine tr ?_ | refine br ?_
 refine zeE rfl yz ya rfl rfl rfl rfl (zy.of_blk0 kB) ?_
 have hdc := hd.trans c140
 obtain ⟨g1, g2, g3⟩ := zcu hA hr (hcP.trans hdc) (iT.chg0 hdc) (hvA.chg0 hdc) hok (k7A.chg0 hdc) hb7 cB
 refine ⟨t, own, _, _, rfl, by rw [hs]; exact g1, by rw [hs]; exact g2, fun e => absurd (by rw [e]) hg, g3, .inl rfl⟩
set_option maxHeartbeats 1000000 in
theorem zs0 (t : Nat) (own : List Nat) (c k u o : Value) (s : yo) (rt rw : LV) (x : zbW) (a : zbX) (w : World) (hE : EOk w) (hA : zdH w t own c k u s rt) (hr : yx w c k u o s rw) (hx : zbg w x a) (hn : a.row.length ≤ 1048576) (h6 : a.what = 6) :
 z9 TP 19 #[Pt t, .agg #[c, k, u, o], .agg x.cs.toArray] w (ziw w own c k u s rt rw (zaG s rw a) a) := by
 have h := hA.1
 obtain ⟨xw, xa, xr, xk⟩ := x
 have hx0 := hx
 obtain ⟨e1, e2, e3, hrow, hrng, hat⟩ := hx
 simp only at e1 e2 e3
 subst e1 e2 e3
 obtain ⟨po, co, rfl, hco⟩ := hr.rws.val
 have hokT := h.ok
 have hokR := hr.ok
 refine A3 Tryz.func19 rfl rfl ?_
 refine Sr ?_
 refine Ob rfl rfl ?_
 intro b4 w4 e4 n4 c4 k4
 refine Ob rfl rfl ?_
 intro b5 w5 e5 n5 c5 k5
 refine Oa rfl ?_
 refine zE (gn rfl) (zH zcx rfl rfl ?_)
 intro b7 w7 e7 n7 c7 k7
 refine Oa rfl (E4 0 4 5 7 rfl ?_)
 have hc7 : zk [] w w7 := (c4.trans c5).trans c7
 have k4 : zU w7 b4 54 [c, k, u, .slice po rw.length co] := (k4.chg0 c5).chg0 c7
 have k5 : zU w7 b5 50 [Ii a.what, Ii a.at', xr, .string a.key] := k5.chg0 c7
 have k7 : zU w7 b7 54 [.slice none 0 0, .slice none 0 0, .slice none 0 0, .slice none 0 0] := k7
 have hs4 := c4.size
 have hs5 := c5.size
 have hs7 := hc7.size
 have hb7 : w.heap.size ≤ b7 := by omega
 have hT7 := h.chg0 hc7
 have hr7 := hr.chg0 hc7
 have hx7 := hx0.chg0 hc7
 have hE7 := hE.chg0 hc7
 have hrow7 : zK w7 xr a.row := hrow.chg0 hc7
 refine ze (Sr (Od zds rfl ?_))
 refine Ol ag3 rfl (k5.cell' (i := 0) rfl) ?_
 refine E5 0 4 5 7 36 rfl (zq (ze (Sr ?_)))
 refine Og (vf (zw rfl rfl) (by simp; omega)) rfl ?_
 refine Oa rfl (E6 0 4 5 7 36 37 rfl (zb rfl (za ?_)))
 refine Og (vf (zw rfl rfl) (by simp; omega)) rfl ?_
 refine Oa rfl (E6 0 4 5 7 36 37 rfl (zb rfl (Sr ?_)))
 refine Og (vf (zw rfl rfl) (by simp; omega)) rfl ?_
 refine Oa rfl (E6 0 4 5 7 36 56 rfl (zb rfl (Sr ?_)))
 refine Og (vf (zw rfl rfl) (by simp; omega)) rfl ?_
 refine Oa rfl (E6 0 4 5 7 36 84 rfl (zb rfl (ze (Sr ?_))))
 refine Og (vf (zw rfl rfl) (by simp; omega)) rfl ?_
 refine Oa rfl (E6 0 4 5 7 36 112 rfl (zb rfl (za ?_)))
 refine Og (vf (zw rfl rfl) (by simp; omega)) rfl ?_
 refine Oa rfl (E6 0 4 5 7 36 112 rfl (zb rfl (ze (Sr ?_))))
 refine Og (vf (zw rfl rfl) (by simp; omega)) rfl ?_
 refine Oa rfl (E6 0 4 5 7 36 147 rfl (zb rfl (za ?_)))
 refine Og (vf (zw rfl rfl) (by simp; omega)) rfl ?_
 refine Oa rfl (E6 0 4 5 7 36 147 rfl (zb rfl (Sr ?_)))
 refine Og (vt (zw rfl rfl) (by simp; omega)) rfl ?_
 refine Oa rfl (E5 0 4 5 7 178 rfl (zd rfl ?_))
 have hs : ∀ R : LV, zbo s R (zaG s rw a) a = R := fun R => by unfold zbo; rw [if_neg (by omega), if_neg (by omega), if_neg (by omega), if_neg (by omega)]
 refine Sr (Om rfl (Od zeT rfl ?_))
 refine Ol ag3 rfl (k5.cell' (i := 1) rfl) ?_
 refine Od zbG rfl ?_
 refine Ol za7 rfl (k5.cell' (i := 2) rfl) ?_
 refine Oc zuV rfl rfl rfl (zpN hT7 a.at' xr a.row hrow7 hrng) ?_
 rintro v186 w186 ⟨o186, rfl, i186, f186, c186⟩
 refine Om rfl (Oe rfl rfl (Oe rfl rfl (Oa rfl (Oa rfl (E6 0 4 5 7 31 32 rfl (ze ?_))))))
 have k4A := k4.chg0 c186
 have k5A := k5.chg0 c186
 refine za ?_
 refine Og (zg yz ya rfl rfl (zy.of_blk0 k4A)) rfl ?_
 refine Od zeT rfl ?_
 refine Ol ag3 rfl (k5A.cell' (i := 1) rfl) ?_
 refine Od zbG rfl ?_
 refine Ol za7 rfl (k5A.cell' (i := 2) rfl) ?_
 refine Oc zxM rfl rfl rfl (zty _ _ _ _ _ s rw a.at' a.row _ (hr7.chg0 c186) (hrow7.chg0 c186)) ?_
 rintro v195 w195 ⟨x', rfl, ix, c195⟩
 refine Om rfl (Oe rfl rfl (Oe rfl rfl (Oa rfl (Oa rfl (E7 0 4 7 31 32 33 34 rfl ?_)))))
 have hcA := c186.trans c195
 have i186 := zK.chg0 i186 c195
 have k4A := k4.chg0 hcA
 have k7A := k7.chg0 hcA
 have hle := zrC hokT a.at' a.row
 have hd : zk [] w195 w195.drew := zk.drew [] _
 refine ze ?_
 by_cases hg : (zbv s rt a.at' a.row).getD [] = (zbv s rw a.at' a.row).getD []
 ·refine zJ (fun wz => zk [] w195 wz) mix (by kernel_rfl) hd ?_
  refine Tm rfl ?_
  refine Tr (fun wz hz => zg yz ya rfl rfl (zy.of_blk0 (k4A.chg0 hz))) rfl ?_
  refine Tm rfl (Tm rfl ?_)
  refine Tc zh1 rfl rfl rfl (zdo o186 x' _ _ _ (i186.chg0 hd) (ix.chg0 hd) hle) ?_
  rintro v202 w202 ⟨e140, c140⟩
  rw [decide_eq_true hg] at e140
  subst e140
  refine ⟨.inl (hd.trans c140), ?_⟩
  refine Tm rfl (Tq rfl rfl rfl (Tq rfl rfl rfl ?_))
  refine Tg rfl rfl (fun _ => zgK bo4 rfl rfl) rfl ?_
  refine Tp (fun _ => zL rfl rfl) rfl ?_
  refine Ta rfl ?_
  refine zas rfl (gn rfl) (zu ya rfl rfl rfl rfl ((k7A.chg0 hd).chg0 c140) (by simp) (yx.one hr.sch _ _ _) ?_)
  intro wB nB cB kB
  refine ⟨.inr (by kernel_rfl), ?_⟩
  refine Ta rfl (D3 6 7 8 rfl (zi ?_))
  repeat first | refine tr ?_ | refine br ?_
  refine zeE rfl yz ya rfl rfl rfl rfl (zy.of_blk0 kB) ?_
  have hdc := hcA.trans (hd.trans c140)
  obtain ⟨g1, g2, g3⟩ := zcu hA hr ((hc7.trans hdc).any) (hT7.chg0 hdc) (hr7.rws.chg0 hdc) hokR (k7.chg0 hdc) hb7 cB
  refine ⟨t, own, _, _, rfl, by rw [hs]; exact g1, by rw [hs]; exact g2, fun e => by subst e; simp, g3, .inl rfl⟩
 refine zJ (fun wz => zk [] w195 wz) mix (by kernel_rfl) hd ?_
 refine Tm rfl ?_
 refine Tr (fun wz hz => zg yz ya rfl rfl (zy.of_blk0 (k4A.chg0 hz))) rfl ?_
 refine Tm rfl (Tm rfl ?_)
 refine Tc zh1 rfl rfl rfl (zdo o186 x' _ _ _ (i186.chg0 hd) (ix.chg0 hd) hle) ?_
 rintro v202 w202 ⟨e140, c140⟩
 rw [decide_eq_false hg] at e140
 subst e140
 refine ⟨.inl (hd.trans c140), ?_⟩
 refine Tm rfl (Tz rfl rfl (Tz rfl rfl (Tz rfl rfl ?_)))
 refine Tp (fun _ => zT rfl rfl) rfl ?_
 refine Ta rfl ?_
 refine zas rfl (gn rfl) (zu ya rfl rfl rfl rfl ((k7A.chg0 hd).chg0 c140) (by simp) (yx.one hr.sch _ _ _) ?_)
 intro wB nB cB kB
 refine ⟨.inr (by kernel_rfl), ?_⟩
 refine Ta rfl (D3 6 7 8 rfl (zi ?_))
 repeat first | refine tr ?_ | refine br ?_
 refine zeE rfl yz ya rfl rfl rfl rfl (zy.of_blk0 kB) ?_
 have hdc := hcA.trans (hd.trans c140)
 obtain ⟨g1, g2, g3⟩ := zcu hA hr ((hc7.trans hdc).any) (hT7.chg0 hdc) (hr7.rws.chg0 hdc) hokR (k7.chg0 hdc) hb7 cB
 refine ⟨t, own, _, _, rfl, by rw [hs]; exact g1, by rw [hs]; exact g2, fun e => absurd (by rw [e]) hg, g3, .inl rfl⟩
set_option maxHeartbeats 1000000 in
theorem ztp (t : Nat) (own : List Nat) (c k u o : Value) (s : yo) (rt rw : LV) (x : zbW) (a : zbX) (w : World) (hE : EOk w) (hA : zdH w t own c k u s rt) (hr : yx w c k u o s rw) (hx : zbg w x a) (hn : a.row.length ≤ 1048576) (h9 : ¬ (a.what = 0 ∨ a.what = 1) ∧ a.what ≠ 2 ∧ a.what ≠ 3 ∧ ¬ (a.what = 4 ∨ a.what = 7) ∧ ¬ (a.what = 5 ∨ a.what = 8) ∧ a.what ≠ 6) :
 z9 TP 19 #[Pt t, .agg #[c, k, u, o], .agg x.cs.toArray] w (ziw w own c k u s rt rw (zaG s rw a) a) := by
 have h := hA.1
 obtain ⟨xw, xa, xr, xk⟩ := x
 have hx0 := hx
 obtain ⟨e1, e2, e3, hrow, hrng, hat⟩ := hx
 simp only at e1 e2 e3
 subst e1 e2 e3
 obtain ⟨po, co, rfl, hco⟩ := hr.rws.val
 have hokT := h.ok
 have hokR := hr.ok
 refine A3 Tryz.func19 rfl rfl ?_
 refine Sr ?_
 refine Ob rfl rfl ?_
 intro b4 w4 e4 n4 c4 k4
 refine Ob rfl rfl ?_
 intro b5 w5 e5 n5 c5 k5
 refine Oa rfl ?_
 refine zE (gn rfl) (zH zcx rfl rfl ?_)
 intro b7 w7 e7 n7 c7 k7
 refine Oa rfl (E4 0 4 5 7 rfl ?_)
 have hc7 : zk [] w w7 := (c4.trans c5).trans c7
 have k4 : zU w7 b4 54 [c, k, u, .slice po rw.length co] := (k4.chg0 c5).chg0 c7
 have k5 : zU w7 b5 50 [Ii a.what, Ii a.at', xr, .string a.key] := k5.chg0 c7
 have k7 : zU w7 b7 54 [.slice none 0 0, .slice none 0 0, .slice none 0 0, .slice none 0 0] := k7
 have hs4 := c4.size
 have hs5 := c5.size
 have hs7 := hc7.size
 have hb7 : w.heap.size ≤ b7 := by omega
 have hT7 := h.chg0 hc7
 have hr7 := hr.chg0 hc7
 have hx7 := hx0.chg0 hc7
 have hE7 := hE.chg0 hc7
 have hrow7 : zK w7 xr a.row := hrow.chg0 hc7
 refine ze (Sr (Od zds rfl ?_))
 refine Ol ag3 rfl (k5.cell' (i := 0) rfl) ?_
 refine E5 0 4 5 7 36 rfl (zq (ze (Sr ?_)))
 refine Og (vf (zw rfl rfl) (by simp; omega)) rfl ?_
 refine Oa rfl (E6 0 4 5 7 36 37 rfl (zb rfl (za ?_)))
 refine Og (vf (zw rfl rfl) (by simp; omega)) rfl ?_
 refine Oa rfl (E6 0 4 5 7 36 37 rfl (zb rfl (Sr ?_)))
 refine Og (vf (zw rfl rfl) (by simp; omega)) rfl ?_
 refine Oa rfl (E6 0 4 5 7 36 56 rfl (zb rfl (Sr ?_)))
 refine Og (vf (zw rfl rfl) (by simp; omega)) rfl ?_
 refine Oa rfl (E6 0 4 5 7 36 84 rfl (zb rfl (ze (Sr ?_))))
 refine Og (vf (zw rfl rfl) (by simp; omega)) rfl ?_
 refine Oa rfl (E6 0 4 5 7 36 112 rfl (zb rfl (za ?_)))
 refine Og (vf (zw rfl rfl) (by simp; omega)) rfl ?_
 refine Oa rfl (E6 0 4 5 7 36 112 rfl (zb rfl (ze (Sr ?_))))
 refine Og (vf (zw rfl rfl) (by simp; omega)) rfl ?_
 refine Oa rfl (E6 0 4 5 7 36 147 rfl (zb rfl (za ?_)))
 refine Og (vf (zw rfl rfl) (by simp; omega)) rfl ?_
 refine Oa rfl (E6 0 4 5 7 36 147 rfl (zb rfl (Sr ?_)))
 refine Og (vf (zw rfl rfl) (by simp; omega)) rfl ?_
 refine Oa rfl (E5 0 4 5 7 178 rfl (zb rfl (ye (zl ?_))))
 have hs : ∀ R : LV, zbo s R (zaG s rw a) a = R := fun R => by unfold zbo; rw [if_neg (by omega), if_neg (by omega), if_neg (by omega), if_neg (by omega)]
 have hd : zk [] w7 w7.drew := zk.drew [] _
 refine ze ?_
 refine zJ (fun wz => zk [] w7 wz) mix (by kernel_rfl) hd ?_
 refine Tm rfl ?_
 refine Tc zs2 rfl rfl rfl (zjt t own s rt _ (hT7.chg0 hd)) ?_
 rintro v209 w209 ⟨t', own', rfl, iC, f209, g209, c209, hput⟩
 refine ⟨.inl (hd.trans c209), ?_⟩
 refine Tr (fun wz hz => zg yz ya rfl rfl (zy.of_blk0 (k4.chg0 hz))) rfl ?_
 refine Ta rfl ?_
 refine zas rfl (gn rfl) (zu ya rfl rfl rfl rfl ((k7.chg0 hd).chg0 c209) (by simp) (yx.one hr.sch _ _ _) ?_)
 intro wB nB cB kB
 refine ⟨.inr (by kernel_rfl), ?_⟩
 refine Ta rfl (D3 6 7 8 rfl (zi ?_))
 refine zeE rfl yz ya rfl rfl rfl rfl (zy.of_blk0 kB) ?_
 have hdc := hd.trans c209
 have hcc : zk [] w wB := (hc7.trans hdc).own cB (by intro y hy; simp at hy; omega)
 have hsd := hd.size
 obtain ⟨pm0, sv0, hbt⟩ := hA.2
 have hT1 : zdH w209 t' own' c k u s rt := ⟨iC, hput _ _ _ _ _ ((hbt.chg0 hc7).chg0 hd)⟩
 have hT2 := hT1.put (hr.sch.chg0 hcc) ((k7.chg0 hd).chg0 c209) zpB cB
 exact ⟨t', own', _, true, rfl, by rw [hs]; exact hT2, by rw [hs]; exact ⟨hr.sch.chg0 hcc, (hr7.rws.chg0 hdc).chgB (k7.chg0 hdc) rfl rfl cB, hokR, hr.nm⟩, fun _ => rfl, hcc.any, .inr fun p hp => by have := g209 p hp; omega⟩
theorem zqc (t : Nat) (own : List Nat) (c k u o : Value) (s : yo) (rt rw : LV) (x : zbW) (a : zbX) (w : World) (hE : EOk w) (hA : zdH w t own c k u s rt) (hr : yx w c k u o s rw) (hx : zbg w x a) (hn : a.row.length ≤ 1048576) :
 z9 TP 19 #[Pt t, .agg #[c, k, u, o], .agg x.cs.toArray] w (ziw w own c k u s rt rw (zaG s rw a) a) := by
 by_cases h01 : a.what = 0 ∨ a.what = 1
 ·exact zs5 t own c k u o s rt rw x a w hE hA hr hx hn h01
 by_cases h2 : a.what = 2
 ·exact ztq t own c k u o s rt rw x a w hE hA hr hx hn h2
 by_cases h3 : a.what = 3
 ·exact ztZ t own c k u o s rt rw x a w hE hA hr hx hn h3
 by_cases h47 : a.what = 4 ∨ a.what = 7
 ·exact ztd t own c k u o s rt rw x a w hE hA hr hx hn h47
 by_cases h58 : a.what = 5 ∨ a.what = 8
 ·exact ztD t own c k u o s rt rw x a w hE hA hr hx hn h58
 by_cases h6 : a.what = 6
 ·exact zs0 t own c k u o s rt rw x a w hE hA hr hx hn h6
 exact ztp t own c k u o s rt rw x a w hE hA hr hx hn ⟨h01, h2, h3, h47, h58, h6⟩
structure Pl (w0 w : World) (t : Nat) (own : List Nat) (c k u o : Value) (s : yo) (rt rw : LV) : Prop where
 e : EOk w
 tab : zdH w t own c k u s rt
 ref : yx w c k u o s rw
 chg : zk [] w0 w
 fr : ∀ p ∈ own, w0.heap.size ≤ p
section
variable {w0 w w' : World} {t : Nat} {own : List Nat} {c k u o o' : Value} {s : yo} {rt rw : LV}
theorem Pl.chg0 (h : Pl w0 w t own c k u o s rt rw) (hc : zk [] w w') : Pl w0 w' t own c k u o s rt rw := ⟨h.e.chg0 hc, h.tab.chg0 hc, h.ref.chg0 hc, h.chg.trans hc, h.fr⟩
theorem Pl.put (h : Pl w0 w t own c k u o s rt rw) (hs : yO w0 c k u s) {b : Nat} {x : List Value} (hb : zU w b 54 x) (hc : zk [b] w w') (hf : w0.heap.size ≤ b) (h0 : b ≠ 0) : Pl w0 w' t own c k u o s rt rw :=
 have hcc := h.chg.own hc (by intro y hy; simp at hy; omega)
 ⟨h.e.chg hc (by simpa using fun e => h0 e.symm), h.tab.put (hs.chg0 hcc) hb zpB hc, ⟨hs.chg0 hcc, h.ref.rws.chgB hb rfl rfl hc, h.ref.ok, h.ref.nm⟩, hcc, h.fr⟩
theorem Pl.act (h : Pl w0 w t own c k u o s rt rw) {key : ByteArray} {a : zbX} {r : Value} (ha : ziw w own c k u s rt rw key a r w') :
 ∃ t' own' p n b, r = .tuple #[Pt t', .agg #[c, k, u, .slice p (zbo s rw key a).length n], .bool b] ∧ Pl w0 w' t' own' c k u (.slice p (zbo s rw key a).length n) s (zbo s rt key a) (zbo s rw key a) ∧ (rt = rw → b = true) ∧ zk own w w' := by
 obtain ⟨t', own', o', b, rfl, h1, h2, h3, h4, h5⟩ := ha
 obtain ⟨p, n, rfl, _⟩ := h2.rws.val
 refine ⟨t', own', p, n, b, rfl, ⟨h.e.tab h.tab.1 h4, h1, h2, h.chg.own h4 h.fr, fun q hq => ?_⟩, h3, h4⟩
 rcases h5 with rfl | h5
 ·exact h.fr q hq
 exact Nat.le_trans h.chg.size (h5 q hq)
theorem yx.nil (hs : yO w c k u s) (hr : yP s = true) (hn : ∀ c ∈ s.cols, c.n.size ≤ 1048576) : yx w c k u (.slice none 0 0) s [] :=
 ⟨hs, yl.nil w, ⟨hr, by simp, by simp, List.Pairwise.nil, List.Pairwise.nil, by simp⟩, hn⟩
end
theorem zph {al : List zbX} {m : Nat} (h : al.length ≤ m ∧ ∀ y ∈ al, zdW y) : ∀ y ∈ al, y.row.length ≤ 1048576 := fun y hy => by have := (h.2 y hy).1; omega
end Go.Wk
