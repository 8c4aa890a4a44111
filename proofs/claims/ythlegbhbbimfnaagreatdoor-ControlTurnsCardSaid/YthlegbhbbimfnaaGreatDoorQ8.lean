/- joined texts -/
import Derived.Test.YthlegbhbbimfnaaGreatDoorQ7
set_option linter.all false
namespace Go.Wk
open Go.Proofs
set_option maxRecDepth 10000
theorem zJ.push2 {w w' w'' : World} {x x' v v2 : Value} {ls : LV} {r r2 : List yx} {vs : List Value} (h1 : zB w 44 1 x ls.length vs) (h2 : yP w 62 4 yx.cs vs ls) (h3 : zU w v r) (h4 : zU w v2 r2) (hc : zm [] w w') (i : zB w'' 44 1 x' (ls.length + 2) (vs ++ [v, v2])) (hc' : zm (zC x) w' w'') : zJ w'' x' (ls ++ [r, r2]) := by
 have h5 : yP w' 62 4 yx.cs (vs ++ [v, v2]) (ls ++ [r, r2]) := yP.append (h2.chg0 hc) ⟨zW.chg0 h3 hc, zW.chg0 h4 hc, trivial⟩
 refine ⟨vs ++ [v, v2], ?_, h5.chg hc' (h5.apartSl (zB.chg0 h1 hc) rfl)⟩
 rw [List.length_append]
 exact i
theorem zJ.mk2 {w w' : World} {b : Nat} {v v2 : Value} {r r2 : List yx} (h3 : zU w v r) (h4 : zU w v2 r2) (o1 : v.oneCell' = true) (o2 : v2.oneCell' = true) (hc : zm [] w w') (k : zV w' b 44 [v, v2]) : zJ w' (.slice (some ⟨b, 0, none⟩) 2 2) [r, r2] :=
 ⟨[v, v2], zB.of_blk (n := 2) k rfl (by simp [maxLen]) (by intro y hy; simp at hy; rcases hy with rfl | rfl; exact o1; exact o2), zW.chg0 h3 hc, zW.chg0 h4 hc, trivial⟩
def zdY (p : PrT) : LV := [yU zcj (be8 p.beat), yU zaD p.cur] ++ if p.full then [yU zbX e0] else []
def ldR (p : PrT) : LV := zdY p ++ [yU za2 (phT p), yU zeQ (be8 p.seg ++ be8 p.at')]
theorem zkB (p : PrT) : ldR p = zaS (za9 p) := by
 have he : e0.data = #[] := rfl
 have e1 : beL [p.beat] = be8 p.beat := by apply ByteArray.ext; simp [beL, he]
 have e2 : beL [p.seg, p.at'] = be8 p.seg ++ be8 p.at' := by apply ByteArray.ext; simp [beL, he]
 unfold ldR zdY zaS za9
 cases p.full <;> simp [e1, e2]
theorem zht (p : PrT) : (zdY p).length ≤ 3 := by unfold zdY; cases p.full <;> simp
theorem ziB (p : PrT) (u : Value) (w : World) (hp : zbv w u p) : zO TP 21 #[.agg (p.cs u).toArray] w fun r w' => (if yN p then ∃ v, r = .tuple #[v, Ii 0] ∧ zJ w' v (zg6 p) ∧ (∀ b ∈ zC v, w.heap.size ≤ b) else r = .tuple #[zH, Ii 2]) ∧ zm [] w w' := by
 obtain ⟨pu, cu, rfl, hcu⟩ := Rd.val hp
 refine A1 Tryz.func21 rfl rfl ?_
 refine Sr ?_
 refine Ob rfl rfl ?_
 intro b1 w1 e1 n1 c1 k1
 refine Oa rfl (Oa rfl (E1 1 rfl ?_))
 have k1 : zV w1 b1 27 (p.cs (.slice pu p.park.length cu)) := k1
 have hp1 : zF w1 _ p.park := Rd.chg0 hp c1
 have ht1 := c1.size
 refine zh (Sr ?_)
 refine Og (zi zac y7 rfl rfl (zu.of_blk0 k1)) rfl ?_
 refine Oc zm5 rfl rfl rfl (zhn p _ _ hp1) ?_
 rintro v7 w7 ⟨rfl, c7⟩
 refine Og (zL rfl) rfl (E2 1 8 rfl ?_)
 cases hck : yN p with
 | false =>
  simp only [Bool.false_eq_true, if_false]
  refine zg rfl (Sr (Oa rfl (Oa rfl (E2 2 3 rfl (zj ?_)))))
  repeat first | refine tr ?_ | refine br ?_
  refine zbF rfl rfl rfl ?_
  exact ⟨rfl, c1.trans c7⟩
 | true =>
  have ho := zbZ hck
  simp only [if_true]
  have hl4 := ho.len
  refine zf rfl (zq ?_)
  have k7 : zV w7 b1 27 (p.cs (.slice pu p.park.length cu)) := k1.chg0 c7
  have hp7 : zF w7 _ p.park := Rd.chg0 hp1 c7
  refine zh ?_
  refine W_draw (fun wz => zm [] w7 wz) mix (by kernel_rfl) (zm.drew [] w7) ?_
  refine Td zaj rfl ?_
  refine Tr (fun wz hz => zb ag3 rfl ((k7.chg0 hz).cell' (i := 5) rfl)) rfl ?_
  refine Tc zkE rfl rfl rfl (zc6 p.beat _ ho.beat) ?_
  rintro v11 w11 ⟨rfl, c11⟩
  refine ⟨.inl ((zm.drew [] _).trans c11), ?_⟩
  refine Tc zhu rfl rfl rfl (zer zcj (be8 p.beat) _) ?_
  rintro v12 w12 ⟨p12, q12, rfl, h12, c12⟩
  refine ⟨.inl (((zm.drew [] _).trans c11).trans c12), ?_⟩
  refine Td z8 rfl ?_
  refine Tr (fun wz hz => zb yt rfl ((k7.chg0 hz).cell' (i := 1) rfl)) rfl ?_
  refine Tc zhu rfl rfl rfl (zer zaD p.cur _) ?_
  rintro v15 w15 ⟨p15, q15, rfl, h15, c15⟩
  refine ⟨.inl ((((zm.drew [] _).trans c11).trans c12).trans c15), ?_⟩
  refine t_st rfl (gn rfl) (zv zdZ rfl (vs := [_, _]) rfl (css := [_, _]) ⟨rfl, rfl, trivial⟩ rfl rfl (cs := [_, _]) rfl rfl ?_)
  intro b16 w16 e16 n16 c16 k16
  refine ⟨.inl (((((zm.drew [] _).trans c11).trans c12).trans c15).trans c16), ?_⟩
  refine Ta rfl (D2 1 4 rfl ?_)
  have hc16 : zm [] w7 w16 := ((((zm.drew [] _).trans c11).trans c12).trans c15).trans c16
  have hr16 : zJ w16 (.slice (some ⟨b16, 0, none⟩) 2 2) [yU zcj (be8 p.beat), yU zaD p.cur] := zJ.mk2 (zW.chg0 h12 c15) h15 rfl rfl c16 k16
  have hs1 := c7.size
  have hs2 := hc16.size
  have hs3 := c16.size
  have k16' : zV w16 b1 27 (p.cs (.slice pu p.park.length cu)) := k7.chg0 hc16
  have hf16 : ∀ b ∈ zC (.slice (some ⟨b16, 0, none⟩) 2 2), w1.heap.size ≤ b := by
   intro b hb
   simp [zC] at hb
   have := c11.size
   have := c12.size
   have := c15.size
   have := (zm.drew [] w7).size
   omega
  have hb16 : w1.heap.size ≤ b16 := by
   have := c11.size
   have := c12.size
   have := c15.size
   have := (zm.drew [] w7).size
   omega
  refine z5 (fun F wx => ∃ x : Value, F = [(1, Pt b1), (4, x)] ∧ zJ wx x (zdY p) ∧ (∀ b ∈ zC x, w1.heap.size ≤ b) ∧ zm [] w1 wx) ?_ ?_
  ·refine Sr (Od yI rfl ?_)
   refine Ol ag4 rfl (k16'.cell' (i := 2) rfl) ?_
   refine E3 1 4 18 rfl ?_
   cases hfl : p.full with
   | true =>
    refine zg rfl ?_
    obtain ⟨us, hus, hls⟩ := hr16
    refine zd (Om rfl ?_)
    refine Oc zhu rfl rfl rfl (zer zbX e0 _) ?_
    rintro v20 w20 ⟨p20, q20, rfl, h20, c20⟩
    refine zA (gn rfl) (zv zdZ rfl (vs := [_]) rfl (css := [_]) ⟨rfl, trivial⟩ rfl rfl (cs := [_]) rfl rfl ?_)
    intro b21 w21 e21 n21 c21 k21
    refine zA (gn rfl) (yc zdZ yE rfl rfl (zB.chg0 hus (c20.trans c21)) (zB.of_blk (n := 1) k21 rfl (by simp [maxLen]) (by intro y hy; simp at hy; subst hy; rfl)) (by simp [maxLen]) (by simp) rfl ?_)
    intro v22 w22 i22 c22 o22 z22
    refine Oa rfl (E2 1 4 rfl ?_)
    have hs4 := c20.size
    have hs5 := c21.size
    refine ⟨v22, rfl, ?_, zaN o22 hf16 (by omega), (((c7.trans hc16).trans c20).trans c21).own c22 hf16⟩
    unfold zdY
    rw [hfl]
    exact zJ.push (hus.chg0 c20) (hls.chg0 c20) h20 c21 i22 c22
   | false =>
    refine zf rfl ?_
    refine zbE [1, 4] (F' := [(1, _), (4, _)]) rfl ?_
    refine yd ?_
    refine ⟨_, rfl, ?_, hf16, c7.trans hc16⟩
    unfold zdY
    rw [hfl]
    exact hr16
  rintro F wx ⟨x, rfl, hu, hfu, hcx⟩
  have k1x : zV wx b1 27 (p.cs (.slice pu p.park.length cu)) := k1.chg0 hcx
  refine zh ?_
  have hf3 := zht p
  obtain ⟨us, hus, hls⟩ := hu
  refine V2.W_draw (fun wz => zm [] w1 wz) mix (by kernel_rfl) (hcx.trans (zm.drew [] _)) ?_
  refine V2.t_pure rfl (gn rfl) (fun _ => zae rfl) rfl rfl ?_
  refine V2.t_pure rfl (gn rfl) (fun _ => za z3 rfl) rfl rfl ?_
  refine V2.t_read rfl (gn rfl) (fun wz hz => zb zak rfl ((k1.chg0 hz).cell' (i := 0) rfl)) rfl rfl ?_
  refine V2.t_st rfl (gn rfl) (St.vl (zad zaO zdt rfl (zg1 ho.ph)) rfl rfl ?_)
  refine ⟨.inl (hcx.trans (zm.drew [] _)), ?_⟩
  refine V2.t_st rfl (gn rfl) (zv zf2 rfl (vs := [_]) rfl (css := [_]) ⟨rfl, trivial⟩ rfl rfl (cs := [_]) rfl rfl ?_)
  intro b27 w27 e27 n27 c27 k27
  refine ⟨.inl (hcx.trans ((zm.drew [] _).trans c27)), ?_⟩
  refine V2.t_st rfl (gn rfl) (St.vl (zb7 (l := [UInt8.ofNat p.ph.toNat]) zd8 zaO st9 rfl (zB.rd (zB.of_blk (n := 1) (c := bv [UInt8.ofNat p.ph.toNat]) k27 rfl (by simp [maxLen]) (by intro u hu; obtain ⟨x, _, rfl⟩ := List.mem_map.1 hu; rfl)))) rfl rfl ?_)
  refine ⟨.inl (hcx.trans ((zm.drew [] _).trans c27)), ?_⟩
  refine V2.t_st rfl (gn rfl) (yg zhu rfl rfl rfl rfl (zer za2 (phT p) _) ?_)
  rintro v29 w29 ⟨p29, q29, rfl, h29, c29⟩
  refine ⟨.inl (hcx.trans (((zm.drew [] _).trans c27).trans c29)), ?_⟩
  refine V2.t_pure rfl (gn rfl) (fun _ => za yp rfl) rfl rfl ?_
  refine V2.t_pure rfl (gn rfl) (fun _ => za zdE rfl) rfl rfl ?_
  refine V2.t_read rfl (gn rfl) (fun wz hz => zb ag3 rfl ((k1.chg0 hz).cell' (i := 3) rfl)) rfl rfl ?_
  refine V2.t_st rfl (gn rfl) (yg zkE rfl rfl rfl rfl (zc6 p.seg _ ⟨by have := ho.seg.1; omega, ho.seg.2⟩) ?_)
  rintro v33 w33 ⟨rfl, c33⟩
  refine ⟨.inl (hcx.trans ((((zm.drew [] _).trans c27).trans c29).trans c33)), ?_⟩
  refine V2.t_pure rfl (gn rfl) (fun _ => za yp rfl) rfl rfl ?_
  refine V2.t_pure rfl (gn rfl) (fun _ => za zdI rfl) rfl rfl ?_
  refine V2.t_read rfl (gn rfl) (fun wz hz => zb ag3 rfl ((k1.chg0 hz).cell' (i := 4) rfl)) rfl rfl ?_
  refine V2.t_st rfl (gn rfl) (yg zkE rfl rfl rfl rfl (zc6 p.at' _ ho.at') ?_)
  rintro v37 w37 ⟨rfl, c37⟩
  refine ⟨.inl (hcx.trans (((((zm.drew [] _).trans c27).trans c29).trans c33).trans c37)), ?_⟩
  refine V2.t_pure rfl (gn rfl) (fun _ => ze2 rfl rfl (by rw [zcG, zcG]; omega)) rfl rfl ?_
  refine V2.t_st rfl (gn rfl) (yg zhu rfl rfl rfl rfl (zer zeQ (be8 p.seg ++ be8 p.at') _) ?_)
  rintro v39 w39 ⟨p39, q39, rfl, h39, c39⟩
  refine ⟨.inl (hcx.trans ((((((zm.drew [] _).trans c27).trans c29).trans c33).trans c37).trans c39)), ?_⟩
  refine V2.t_st rfl (gn rfl) (zv zdZ rfl (vs := [_, _]) rfl (css := [_, _]) ⟨rfl, rfl, trivial⟩ rfl rfl (cs := [_, _]) rfl rfl ?_)
  intro b40 w40 e40 n40 c40 k40
  refine ⟨.inl (hcx.trans (((((((zm.drew [] _).trans c27).trans c29).trans c33).trans c37).trans c39).trans c40)), ?_⟩
  refine V2.t_st rfl (gn rfl) (yc zdZ yE rfl rfl (zB.chg0 hus (((((((zm.drew [] _).trans c27).trans c29).trans c33).trans c37).trans c39).trans c40)) (zB.of_blk (n := 2) k40 rfl (by simp [maxLen]) (by intro y hy; simp at hy; rcases hy with rfl | rfl <;> rfl)) (by simp only [maxLen]; omega) (by omega) rfl ?_)
  intro v41 w41 i41 c41 o41 z41
  refine ⟨.inl ((hcx.trans (((((((zm.drew [] _).trans c27).trans c29).trans c33).trans c37).trans c39).trans c40)).own c41 hfu), ?_⟩
  refine V2.t_pure rfl (gn rfl) (fun _ => yW rfl) rfl rfl ?_
  refine V2.T_end [1, 4] (F' := [(1, _), (4, _)]) rfl ?_
  have hq : zm [] wx w39 := (((((zm.drew [] _).trans c27).trans c29).trans c33).trans c37).trans c39
  have hr41 : zJ w41 v41 (zaS (za9 p)) := by
   rw [← zkB]
   exact zJ.push2 (hus.chg0 hq) (hls.chg0 hq) (((zW.chg0 h29 c33).chg0 c37).chg0 c39) h39 c40 i41 c41
  have hs4 := hq.size
  have hs5 := c40.size
  have hf41 : ∀ b ∈ zC v41, w1.heap.size ≤ b := zaN o41 hfu (by have := hcx.size; omega)
  have hc41 : zm [] w1 w41 := ((hcx.trans hq).trans c40).own c41 hfu
  refine zh (Sr (Oa rfl (E3 1 4 5 rfl (zn ?_))))
  refine ye [1, 4, 5] (fun n F wy => ∃ j : Nat, n = p.park.length - j ∧ j ≤ p.park.length ∧ ∃ y : Value, F = [(1, Pt b1), (4, y), (5, Ii j)] ∧ zJ wy y (zaS (za9 p) ++ (p.park.take j).map zkH) ∧ (∀ b ∈ zC y, w1.heap.size ≤ b) ∧ zm [] w1 wy) (m := p.park.length - 0) ⟨0, rfl, Nat.zero_le _, _, rfl, by simpa using hr41, hf41, hc41⟩ ?_
  rintro n F wy ⟨j, rfl, hj, y, rfl, hu, hfu, hcy⟩
  have hpy : zF wy _ p.park := Rd.chg0 hp1 hcy
  have k1y : zV wy b1 27 (p.cs (.slice pu p.park.length cu)) := k1.chg0 hcy
  refine zh (zh ?_)
  by_cases hlt : j < p.park.length
  ·refine zd (Om rfl (Od zN rfl ?_))
   refine Ol yy rfl (k1y.cell' (i := 6) rfl) ?_
   refine On z6 rfl ?_
   refine Og (vt (zE rfl rfl) (by simp; omega)) rfl ?_
   refine E4 1 4 5 46 rfl (zg rfl (zq ?_))
   have hx : p.park[j]? = some p.park[j] := by simp [hlt]
   have htk := List.take_succ_eq_append_getElem hlt
   have hsz := ho.size _ (List.getElem_mem hlt)
   generalize p.park[j] = kx at hx htk hsz
   obtain ⟨bo, oo, cpo, hve, hc1⟩ := zF.at hpy hx
   cases hve
   refine zh (zn ?_)
   have hl5 := zbD (za9 p)
   have hl6 : (za9 p).length = 5 := rfl
   obtain ⟨us, hus, hls⟩ := hu
   refine zd (Om rfl (Od zN rfl ?_))
   refine Ol yy rfl (k1y.cell' (i := 6) rfl) ?_
   refine Om rfl ?_
   refine Og (ze z6 sz9 rfl rfl _ rfl hlt) rfl ?_
   refine Ol yt rfl hc1 ?_
   refine Og (ze2 rfl rfl (show zaL.size + kx.size ≤ maxLen by have e : zaL.size = 1 := rfl; unfold maxLen; omega)) rfl ?_
   refine Oc zhu rfl rfl rfl (zer (zaL ++ kx) e0 _) ?_
   rintro v56 w56 ⟨p56, q56, rfl, h56, c56⟩
   refine zA (gn rfl) (zv zdZ rfl (vs := [_]) rfl (css := [_]) ⟨rfl, trivial⟩ rfl rfl (cs := [_]) rfl rfl ?_)
   intro b57 w57 e57 n57 c57 k57
   refine zA (gn rfl) (yc zdZ yE rfl rfl (zB.chg0 hus (c56.trans c57)) (zB.of_blk (n := 1) k57 rfl (by simp [maxLen]) (by intro y hy; simp at hy; subst hy; rfl)) (by simp only [maxLen, List.length_append, List.length_map, List.length_take]; omega) (by simp only [List.length_append, List.length_map, List.length_take]; omega) rfl ?_)
   intro v58 w58 i58 c58 o58 z58
   refine Oa rfl (N3 1 4 5 rfl (zk (zd (Om rfl ?_))))
   refine Og (zR rfl rfl (by omega)) rfl ?_
   refine Oa rfl (N3 1 4 5 rfl ?_)
   have hs1 := hcy.size
   have hs3 := c56.size
   have hs4 := c57.size
   refine ⟨p.park.length - (j + 1), by omega, j + 1, rfl, by omega, v58, rfl, ?_, zaN o58 hfu (by omega), ((hcy.trans c56).trans c57).own c58 hfu⟩
   rw [htk, List.map_append, ← List.append_assoc]
   exact zJ.push (hus.chg0 c56) (hls.chg0 c56) h56 c57 i58 c58
  refine zd (Om rfl (Od zN rfl ?_))
  refine Ol yy rfl (k1y.cell' (i := 6) rfl) ?_
  refine On z6 rfl ?_
  refine Og (vf (zE rfl rfl) (by simp; omega)) rfl ?_
  refine E4 1 4 5 46 rfl (zf rfl ?_)
  refine zP ?_
  repeat first | refine te ?_ | refine bo rfl ?_
  refine zp _ ?_
  rw [List.take_of_length_le (by omega)] at hu
  refine Sr (Om rfl (Oa rfl (Oa rfl (E2 2 3 rfl (zj ?_)))))
  refine zbF rfl rfl rfl ?_
  exact ⟨⟨y, rfl, hu, fun b hb => by have := hfu b hb; omega⟩, c1.trans hcy⟩
abbrev KV := ByteArray × ByteArray
def yR (x : KV) : List yx := yU x.1 x.2
def lKV (l : List (ByteArray × ByteArray × Bool)) : List KV := l.filterMap fun x => if x.2.2 then some (x.1, x.2.1) else none
def kvP (p : PrT) : List KV := lKV (za9 p) ++ p.park.map fun k => (zaL ++ k, e0)
theorem zfV (p : PrT) : zg6 p = (kvP p).map yR := by
 unfold zg6 kvP zaS lKV
 rw [List.map_append, List.map_filterMap, List.map_map]
 congr 1
 congr 1
 funext x
 cases x.2.2 <;> rfl
theorem zdv {p : PrT} (h : OkP p) : (kvP p).length ≤ 405 := by
 have h1 := h.len
 have h2 : (lKV (za9 p)).length ≤ 5 := List.length_filterMap_le _ _
 unfold kvP
 rw [List.length_append, List.length_map]
 omega
theorem zi4 {a b : ByteArray} (h : blt a b = true) : blt (zaL ++ a) (zaL ++ b) = true := by
 rw [zaV] at *
 have e : ∀ x : ByteArray, (zaL ++ x).data.toList = 126 :: x.data.toList := fun x => by simp [zaL]
 rw [e, e]
 exact List.Lex.cons h
theorem zcQ : ∀ l : List (ByteArray × ByteArray × Bool), ((lKV l).map (·.1)).Sublist (l.map (·.1))
 | [] => List.Sublist.refl _
 | (k, _, true) :: l => (zcQ l).cons_cons k
 | (k, _, false) :: l => (zcQ l).cons k
theorem zgo : ∀ k ∈ zbV, ∀ x, blt k (zaL ++ x) = true := by
 intro k hk x
 rw [zaV]
 have e : (zaL ++ x).data.toList = 126 :: x.data.toList := by simp [zaL]
 rw [e]
 simp only [zbV, List.mem_cons, List.not_mem_nil, or_false] at hk
 rcases hk with rfl | rfl | rfl | rfl | rfl <;> exact List.Lex.rel (by decide)
def zbj (l : List KV) : Prop := l.Pairwise fun a b => blt a.1 b.1 = true
theorem zbH {p : PrT} (h : OkP p) : zbj (kvP p) := by
 unfold zbj kvP
 rw [List.pairwise_append]
 refine ⟨?_, ?_, ?_⟩
 ·have h1 : ((lKV (za9 p)).map (·.1)).Pairwise fun a b => blt a b = true := zcP.sublist (zcQ (za9 p))
  rwa [List.pairwise_map] at h1
 ·rw [List.pairwise_map]
  exact h.sorted.imp fun hab => zi4 hab
 intro a ha b hb
 obtain ⟨k, _, rfl⟩ := List.mem_map.1 hb
 have h1 : a.1 ∈ zbV := (zcQ (za9 p)).subset (List.mem_map_of_mem ha)
 exact zgo _ h1 k
theorem zfG {p : PrT} (h : OkP p) : ∀ x ∈ kvP p, x.1.size ≤ 191 := by
 intro x hx
 unfold kvP at hx
 rcases List.mem_append.1 hx with hx | hx
 ·have h1 : x.1 ∈ zbV := (zcQ (za9 p)).subset (List.mem_map_of_mem hx)
  have h2 : ∀ k ∈ zbV, k.size ≤ 191 := by decide +kernel
  exact h2 _ h1
 obtain ⟨k, hk, rfl⟩ := List.mem_map.1 hx
 have := h.size k hk
 have e : zaL.size = 1 := rfl
 show (zaL ++ k).size ≤ 191
 rw [ByteArray.size_append]
 omega
def lk : List KV → ByteArray → Option ByteArray
 | [], _ => none
 | x :: l, k => if x.1 = k then some x.2 else lk l k
theorem ze4 : ∀ {l : List KV} {k : ByteArray}, k ∉ l.map (·.1) → lk l k = none
 | [], _, _ => rfl
 | x :: l, k, h => by
  simp only [List.map_cons, List.mem_cons, not_or] at h
  rw [lk, if_neg (fun e => h.1 e.symm), ze4 h.2]
theorem ziE : ∀ {l : List KV} {k v : ByteArray}, lk l k = some v → k ∈ l.map (·.1)
 | [], _, _, h => by cases h
 | x :: l, k, v, h => by
  rw [lk] at h
  split at h
  ·rename_i e; simp [e]
  exact List.mem_cons_of_mem _ (ziE h)
theorem zes : ∀ (l m : List KV) (k : ByteArray), lk (l ++ m) k = (lk l k).or (lk m k)
 | [], m, k => by simp [lk]
 | x :: l, m, k => by
  rw [List.cons_append, lk, lk, zes l m k]
  split <;> rfl
def yl (t : ByteArray) (A B : List KV) (k : ByteArray) : List StT :=
 match lk B k with
 | none => [za8 t k]
 | some v => if lk A k = some v then [] else [zbI t (yU k v)]
def z9 : List KV → List KV → List ByteArray
 | [], B => B.map (·.1)
 | A, [] => A.map (·.1)
 | a :: A, b :: B => if blt a.1 b.1 then a.1 :: z9 A (b :: B) else if blt b.1 a.1 then b.1 :: z9 (a :: A) B else b.1 :: z9 A B
termination_by A B => A.length + B.length
def zK (t : ByteArray) : List KV → List KV → List StT
 | [], [] => []
 | a :: A, [] => za8 t a.1 :: zK t A []
 | [], b :: B => zbI t (yR b) :: zK t [] B
 | a :: A, b :: B => if blt a.1 b.1 then za8 t a.1 :: zK t A (b :: B) else if blt b.1 a.1 then zbI t (yR b) :: zK t (a :: A) B
  else (if a.2 = b.2 then [] else [zbI t (yR b)]) ++ zK t A B
termination_by A B => A.length + B.length
theorem zby (A B : List KV) : ∀ k, k ∈ z9 A B ↔ k ∈ A.map (·.1) ∨ k ∈ B.map (·.1) := by
 induction A, B using z9.induct with
 | case1 B => intro k; simp [z9]
 | case2 A h => intro k; cases A <;> simp [z9]
 | case3 a A b B h ih => intro k; rw [z9, if_pos h, List.mem_cons, ih]; simp only [List.map_cons, List.mem_cons]; grind
 | case4 a A b B h h' ih => intro k; rw [z9, if_neg h, if_pos h', List.mem_cons, ih]; simp only [List.map_cons, List.mem_cons]; grind
 | case5 a A b B h h' ih =>
  intro k
  have e : a.1 = b.1 := zcd (by simpa using h) (by simpa using h')
  rw [z9, if_neg h, if_neg h', List.mem_cons, ih]; simp only [List.map_cons, List.mem_cons]; grind
theorem zdW (A : List KV) : z9 A [] = A.map (·.1) := by cases A <;> simp [z9]
theorem zbj.tl {a : KV} {A : List KV} (h : zbj (a :: A)) : zbj A := (List.pairwise_cons.1 h).2
theorem zbj.hd {a : KV} {A : List KV} (h : zbj (a :: A)) : ∀ k ∈ A.map (·.1), blt a.1 k = true := by
 intro k hk
 obtain ⟨x, hx, rfl⟩ := List.mem_map.1 hk
 exact (List.pairwise_cons.1 h).1 x hx
theorem zbj.keys {A : List KV} (h : zbj A) : (A.map (·.1)).Pairwise fun a b => blt a b = true := List.pairwise_map.2 h
theorem zfI {a b : KV} {A B : List KV} (hA : zbj (a :: A)) (hB : zbj (b :: B)) (h : blt a.1 b.1 = true) : ∀ k ∈ z9 A (b :: B), blt a.1 k = true := by
 intro k hk
 rcases (zby _ _ k).1 hk with hk | hk
 ·exact hA.hd k hk
 rcases List.mem_cons.1 hk with rfl | hk
 ·exact h
 exact zaW h (hB.hd k hk)
theorem zeq {a b : KV} {A B : List KV} (hA : zbj (a :: A)) (hB : zbj (b :: B)) (h : blt b.1 a.1 = true) : ∀ k ∈ z9 (a :: A) B, blt b.1 k = true := by
 intro k hk
 rcases (zby _ _ k).1 hk with hk | hk
 ·rcases List.mem_cons.1 hk with rfl | hk
  ·exact h
  exact zaW h (hA.hd k hk)
 exact hB.hd k hk
theorem zem {a b : KV} {A B : List KV} (hA : zbj (a :: A)) (hB : zbj (b :: B)) (e : a.1 = b.1) : ∀ k ∈ z9 A B, blt b.1 k = true := by
 intro k hk
 rcases (zby _ _ k).1 hk with hk | hk
 ·exact e ▸ hA.hd k hk
 exact hB.hd k hk
theorem zea (A B : List KV) (hA : zbj A) (hB : zbj B) : (z9 A B).Pairwise fun a b => blt a b = true := by
 induction A, B using z9.induct with
 | case1 B => simpa [z9] using hB.keys
 | case2 A h => rw [zdW]; exact hA.keys
 | case3 a A b B h ih => rw [z9, if_pos h, List.pairwise_cons]; exact ⟨zfI hA hB h, ih hA.tl hB⟩
 | case4 a A b B h h' ih => rw [z9, if_neg h, if_pos h', List.pairwise_cons]; exact ⟨zeq hA hB h', ih hA hB.tl⟩
 | case5 a A b B h h' ih =>
  have e : a.1 = b.1 := zcd (by simpa using h) (by simpa using h')
  rw [z9, if_neg h, if_neg h', List.pairwise_cons]
  exact ⟨zem hA hB e, ih hA.tl hB.tl⟩
theorem zgn {t k : ByteArray} {a : KV} {A B : List KV} (h : a.1 ≠ k) : yl t (a :: A) B k = yl t A B k := by
 unfold yl
 rw [show lk (a :: A) k = lk A k by rw [lk, if_neg h]]
theorem zf6 {t k : ByteArray} {b : KV} {A B : List KV} (h : b.1 ≠ k) : yl t A (b :: B) k = yl t A B k := by
 unfold yl
 rw [show lk (b :: B) k = lk B k by rw [lk, if_neg h]]
theorem zbq {α β : Type} {f g : α → List β} : ∀ {l : List α}, (∀ k ∈ l, f k = g k) → l.flatMap f = l.flatMap g
 | [], _ => rfl
 | x :: l, h => by rw [List.flatMap_cons, List.flatMap_cons, h x (by simp), zbq fun k hk => h k (by simp [hk])]
theorem zkd {A : List KV} {k : ByteArray} (h : ∀ x ∈ A.map (·.1), blt k x = true) : lk A k = none :=
 ze4 fun hm => by have := h k hm; rw [zcs] at this; cases this
theorem zhV (t : ByteArray) (A B : List KV) (hA : zbj A) (hB : zbj B) : (z9 A B).flatMap (yl t A B) = zK t A B := by
 induction A, B using zK.induct with
 | case1 => simp [z9, zK]
 | case2 a A ih =>
  rw [zK, ← ih hA.tl hB, zdW, zdW, List.map_cons, List.flatMap_cons]
  have e : yl t (a :: A) [] a.1 = [za8 t a.1] := by unfold yl; rfl
  rw [e, zbq (g := yl t A []) fun k hk => zgn (zbG (hA.hd k hk))]
  rfl
 | case3 b B ih =>
  rw [zK, ← ih hA hB.tl]
  have e0 : ∀ l, z9 [] l = l.map (·.1) := fun l => by simp [z9]
  rw [e0, e0, List.map_cons, List.flatMap_cons]
  have e : yl t [] (b :: B) b.1 = [zbI t (yR b)] := by unfold yl; rw [show lk (b :: B) b.1 = some b.2 by rw [lk, if_pos rfl]]; rfl
  rw [e, zbq (g := yl t [] B) fun k hk => zf6 (zbG (hB.hd k hk))]
  rfl
 | case4 a A b B h ih =>
  rw [zK, if_pos h, z9, if_pos h, ← ih hA.tl hB, List.flatMap_cons]
  have e : yl t (a :: A) (b :: B) a.1 = [za8 t a.1] := by
   unfold yl
   rw [show lk (b :: B) a.1 = none from zkd (by intro x hx; rcases List.mem_cons.1 hx with rfl | hx; exact h; exact zaW h (hB.hd x hx))]
  rw [e, zbq (g := yl t A (b :: B)) fun k hk => zgn (zbG (zfI hA hB h k hk))]
  rfl
 | case5 a A b B h h' ih =>
  rw [zK, if_neg h, if_pos h', z9, if_neg h, if_pos h', ← ih hA hB.tl, List.flatMap_cons]
  have e : yl t (a :: A) (b :: B) b.1 = [zbI t (yR b)] := by
   unfold yl
   rw [show lk (b :: B) b.1 = some b.2 by rw [lk, if_pos rfl]]
   rw [show lk (a :: A) b.1 = none from zkd (by intro x hx; rcases List.mem_cons.1 hx with rfl | hx; exact h'; exact zaW h' (hA.hd x hx))]
   rfl
  rw [e, zbq (g := yl t (a :: A) B) fun k hk => zf6 (zbG (zeq hA hB h' k hk))]
  rfl
 | case6 a A b B h h' ih =>
  have ek : a.1 = b.1 := zcd (by simpa using h) (by simpa using h')
  rw [zK, if_neg h, if_neg h', z9, if_neg h, if_neg h', ← ih hA.tl hB.tl, List.flatMap_cons]
  have e : yl t (a :: A) (b :: B) b.1 = if a.2 = b.2 then [] else [zbI t (yR b)] := by
   unfold yl
   rw [show lk (b :: B) b.1 = some b.2 by rw [lk, if_pos rfl], show lk (a :: A) b.1 = some a.2 by rw [lk, if_pos ek]]
   simp only [Option.some.injEq]
   rfl
  rw [e, zbq (g := yl t A B) fun k hk => by
   have hk := zem hA hB ek k hk
   rw [zgn (by rw [ek]; exact zbG hk), zf6 (zbG hk)]]
theorem zjB {l m : List ByteArray} (hl : l.Pairwise fun a b => blt a b = true) (hm : m.Pairwise fun a b => blt a b = true) (h : ∀ x, x ∈ l ↔ x ∈ m) : l = m := by
 have nd : ∀ {l : List ByteArray}, (l.Pairwise fun a b => blt a b = true) → l.Nodup := fun h => h.imp fun hab => zbG hab
 exact zdX ((List.perm_ext_iff_of_nodup (nd hl) (nd hm)).2 h) hl hm
theorem zgR {t : ByteArray} {A B : List KV} {ks : List ByteArray} (hA : zbj A) (hB : zbj B) (hs : ks.Pairwise fun a b => blt a b = true) (hm : ∀ k, k ∈ ks ↔ k ∈ A.map (·.1) ∨ k ∈ B.map (·.1)) : ks.flatMap (yl t A B) = zK t A B := by
 rw [zjB hs (zea A B hA hB) (fun k => (hm k).trans (zby A B k).symm)]
 exact zhV t A B hA hB
section
variable {P : Program} {n : Nat} {F : Fr} {w : World} {dst : Option Nat} {ty : TypeId} {pos : String} {af : Array Edge} {gd : Option (Nat × Bool)}
theorem zgv {x ix : Operand} {t e : TypeId} {m : Nat} {kk : IntKind} {j : Int} {cs : List Value} {v : Value} (har : zhw P t = some (m, e)) (hg : yB P e = some false) (hs : yQ P e = some 1) (hx : ev F x = some (.agg cs.toArray)) (hy : ev F ix = some (.int kk j)) (i : Nat) (hi : j = (i : Int)) (hlt : i < m) (hv : cs[i]? = some v) :
 Vl P n F ⟨dst, .index t x ix, ty, pos, af, gd⟩ w v w := by
 intro a ha
 subst hi
 have h1 : (0 : Int) ≤ (i : Int) := by omega
 have h2 : (i : Int) < (m : Int) := by omega
 simp [execOp, Instr.index, ha.eval hx, ha.eval hy, asIntOf, run_underlying (zd6 har), part, zan hg, zX hs, hv]
 intro h3
 omega
end
def zcp {K : Type} (es : List (K × Value)) : List K := es.map (·.1)
theorem zfK {K : Type} [DecidableEq K] {k k' : K} {v : Value} : ∀ {es : List (K × Value)}, k' ∈ zcp (zat es k v) ↔ k' = k ∨ k' ∈ zcp es
 | [] => by simp [zcp, zat]
 | p :: r => by
  unfold zat
  by_cases h : p.1 = k
  ·rw [if_pos h]
   simp [zcp, h]
  rw [if_neg h]
  have ih := zfK (k := k) (k' := k') (v := v) (es := r)
  unfold zcp at *
  rw [List.map_cons, List.map_cons, List.mem_cons, ih, List.mem_cons]
  constructor
  ·rintro (h | h | h)
   ·exact .inr (.inl h)
   ·exact .inl h
   exact .inr (.inr h)
  rintro (h | h | h)
  ·exact .inr (.inl h)
  ·exact .inl h
  exact .inr (.inr h)
theorem zcD {K : Type} [DecidableEq K] {k : K} {v : Value} : ∀ {es : List (K × Value)}, (zcp es).Nodup → (zcp (zat es k v)).Nodup
 | [], _ => by simp [zcp, zat]
 | p :: r, h => by
  unfold zat
  have h' : p.1 ∉ zcp r ∧ (zcp r).Nodup := by simpa [zcp] using h
  by_cases e : p.1 = k
  ·rw [if_pos e]
   simpa [zcp, e] using h
  rw [if_neg e]
  have ih := zcD (k := k) (v := v) h'.2
  show (p.1 :: zcp (zat r k v)).Nodup
  rw [List.nodup_cons]
  exact ⟨fun hm => by rcases zfK.1 hm with h1 | h1; exact e h1; exact h'.1 h1, ih⟩
theorem zd1 {K : Type} [DecidableEq K] (k : K) (v : Value) : ∀ (es : List (K × Value)), (zat es k v).length ≤ es.length + 1
 | [] => by simp [zat]
 | p :: r => by
  unfold zat
  split
  ·simp
  have := zd1 k v r
  simp only [List.length_cons]
  omega
theorem zdH {K : Type} [DecidableEq K] : ∀ {es : List (K × Value)} {k : K}, k ∈ es.map (·.1) ↔ ∃ v, yL es k = some v
 | [], k => by simp [yL]
 | p :: r, k => by
  rw [List.map_cons, List.mem_cons]
  unfold yL
  by_cases h : p.1 = k
  ·rw [if_pos h]; simp [h]
  rw [if_neg h, ← zdH]
  exact ⟨fun hm => hm.resolve_left fun e => h e.symm, .inr⟩
def zas (w : World) : List StV → List StT → Prop
 | [], [] => True
 | x :: xs, s :: ss => zcg w x s ∧ zas w xs ss
 | _, _ => False
theorem zcg.chg {S : List Nat} {w w' : World} {x : StV} {s : StT} (h : zcg w x s) (hc : zm S w w') (hk : ∀ b ∈ zC x.kv, b ∉ S) (hr : ∀ b ∈ zC x.rv, b ∉ S) : zcg w' x s := ⟨h.1, h.2.1, zW.chg h.2.2.1 hc hk, zW.chg h.2.2.2 hc hr⟩
theorem zas.chgSl {w w' : World} {v : Value} {m : Nat} {ys : List Value} (hv : zB w 55 10 v m ys) (hc : zm (zC v) w w') : ∀ {xs : List StV} {ss : List StT}, zas w xs ss → zas w' xs ss
 | [], [], _ => trivial
 | _ :: _, _ :: _, h => ⟨h.1.chg hc (zB.apartSl h.1.2.2.1 hv rfl) (zB.apartSl h.1.2.2.2 hv rfl), h.2.chgSl hv hc⟩
theorem zas.chg0 {w w' : World} (hc : zm [] w w') : ∀ {xs : List StV} {ss : List StT}, zas w xs ss → zas w' xs ss
 | [], [], _ => trivial
 | _ :: _, _ :: _, h => ⟨h.1.chg0 hc, h.2.chg0 hc⟩
theorem zas.append {w : World} {x : StV} {s : StT} (h' : zcg w x s) : ∀ {xs : List StV} {ss : List StT}, zas w xs ss → zas w (xs ++ [x]) (ss ++ [s])
 | [], [], _ => ⟨h', trivial⟩
 | _ :: _, _ :: _, h => ⟨h.1, h.2.append h'⟩
theorem zas.at {w : World} : ∀ {xs : List StV} {ss : List StT} {i : Nat} {s : StT}, zas w xs ss → ss[i]? = some s → ∃ x, xs[i]? = some x ∧ zcg w x s
 | [], [], _, _, _, h => by simp at h
 | x :: _, _ :: _, 0, _, h, hi => by simp at hi; subst hi; exact ⟨x, rfl, h.1⟩
 | _ :: _, _ :: _, i + 1, _, h, hi => by simpa using h.2.at (by simpa using hi)
def zQ (w : World) (v : Value) (ss : List StT) : Prop := ∃ xs, zB w 55 10 v ss.length (fl StV.cs xs) ∧ zas w xs ss
theorem zQ.nil (w : World) : zQ w zH [] := ⟨[], zB.nil _ _ _, trivial⟩
theorem zQ.chg0 {w w' : World} {v : Value} {ss : List StT} (h : zQ w v ss) (hc : zm [] w w') : zQ w' v ss := let ⟨xs, h1, h2⟩ := h; ⟨xs, zB.chg0 h1 hc, h2.chg0 hc⟩
theorem zQ.val {w : World} {v : Value} {ss : List StT} (h : zQ w v ss) : ∃ p c, v = .slice p ss.length c ∧ ss.length ≤ c := let ⟨_, h1, _⟩ := h; zB.val h1
theorem zQ.push {w w' w'' : World} {x x' : Value} {ss : List StT} {s : StT} {xs : List StV} {y : StV} (h1 : zB w 55 10 x ss.length (fl StV.cs xs)) (h2 : zas w xs ss) (h3 : zcg w y s) (hc : zm [] w w') (i : zB w'' 55 10 x' (ss.length + 1) (fl StV.cs xs ++ y.cs)) (hc' : zm (zC x) w' w'') : zQ w'' x' (ss ++ [s]) := by
 refine ⟨xs ++ [y], ?_, zas.chgSl (zB.chg0 h1 hc) hc' (zas.append (h3.chg0 hc) (h2.chg0 hc))⟩
 rw [List.length_append, zhT]
 have e : fl StV.cs [y] = y.cs := by simp [fl]
 rw [e]
 exact i
def zhQ (k : ByteArray) : Option ByteArray → List yx
 | none => []
 | some v => yU k v
def zdp (w : World) (x : Value) (k : ByteArray) (a : Option ByteArray) : Prop := zU w x (zhQ k a) ∧ (a = none → x = zH)
theorem zdp.nil (w : World) (k : ByteArray) : zdp w zH k none := ⟨zW.nil _ _ _ _, fun _ => rfl⟩
theorem zdp.some {w : World} {x : Value} {k v : ByteArray} (h : zdp w x k (some v)) : ∃ p c, x = .slice (some p) 2 c := by
 obtain ⟨b, off, cap, hv, _⟩ := yq.at (i := 0) (x := bV k) za6 (zW.arr h.1) rfl
 exact ⟨_, _, hv⟩
def zlA (w : World) (k : ByteArray) (a b : Option ByteArray) : Option Value → Prop
 | none => a = none ∧ b = none
 | some x => (∃ x1 x2, x = .agg (#[x1, x2] : Array Value) ∧ zdp w x1 k a ∧ zdp w x2 k b) ∧ (a ≠ none ∨ b ≠ none)
def zcv (w : World) (es : List (ByteArray × Value)) (A B : List KV) : Prop := (zcp es).Nodup ∧ ∀ k, zlA w k (lk A k) (lk B k) (yL es k)
theorem zcv.nil (w : World) : zcv w [] [] [] := ⟨by simp [zcp], fun k => ⟨rfl, rfl⟩⟩
theorem zcv.mem {w : World} {es : List (ByteArray × Value)} {A B : List KV} (h : zcv w es A B) (k : ByteArray) : k ∈ es.map (·.1) ↔ lk A k ≠ none ∨ lk B k ≠ none := by
 have h1 := h.2 k
 rw [zdH]
 cases hg : yL es k with
 | none =>
  rw [hg] at h1
  obtain ⟨h2, h3⟩ := h1
  simp [h2, h3]
 | some x =>
  rw [hg] at h1
  exact ⟨fun _ => h1.2, fun _ => ⟨x, rfl⟩⟩
theorem zgQ {l : List KV} {k : ByteArray} : lk l k ≠ none ↔ k ∈ l.map (·.1) := by
 constructor
 ·intro h
  cases hl : lk l k with
  | none => exact (h hl).elim
  | some v => exact ziE hl
 intro h hn
 induction l with
 | nil => cases h
 | cons x l ih =>
  rw [lk] at hn
  split at hn
  ·cases hn
  rename_i hne
  rcases List.mem_cons.1 h with rfl | h
  ·exact hne rfl
  exact ih h hn
def pr2 (x1 x2 : Value) : Value := .agg #[x1, x2]
theorem zg5 {l : List KV} {x : KV} (hn : x.1 ∉ l.map (·.1)) (k : ByteArray) : lk (l ++ [x]) k = if x.1 = k then some x.2 else lk l k := by
 rw [zes]
 by_cases h : x.1 = k
 ·subst h
  rw [ze4 hn, if_pos rfl]
  simp [lk]
 rw [if_neg h]
 simp [lk, h]
theorem zcv.putA {w : World} {es : List (ByteArray × Value)} {A : List KV} {x : KV} {u : Value} (h : zcv w es A []) (hn : x.1 ∉ A.map (·.1)) (hu : zU w u (yR x)) : zcv w (zat es x.1 (pr2 u zH)) (A ++ [x]) [] := by
 refine ⟨zcD h.1, fun k => ?_⟩
 rw [zbu, zg5 hn]
 by_cases e : x.1 = k
 ·rw [if_pos e, if_pos e]
  subst e
  exact ⟨⟨u, zH, rfl, ⟨hu, fun h => by cases h⟩, zdp.nil _ _⟩, .inl (by simp)⟩
 rw [if_neg e, if_neg e]
 exact h.2 k
theorem zcv.get {w : World} {es : List (ByteArray × Value)} {A B : List KV} (h : zcv w es A B) (k : ByteArray) : ∃ x1 x2, (yL es k).getD (pr2 zH zH) = pr2 x1 x2 ∧ zdp w x1 k (lk A k) ∧ zdp w x2 k (lk B k) := by
 have h1 := h.2 k
 cases hg : yL es k with
 | none =>
  rw [hg] at h1
  obtain ⟨h2, h3⟩ := h1
  rw [h2, h3]
  exact ⟨zH, zH, rfl, zdp.nil _ _, zdp.nil _ _⟩
 | some x =>
  rw [hg] at h1
  obtain ⟨⟨x1, x2, rfl, h2, h3⟩, _⟩ := h1
  exact ⟨x1, x2, rfl, h2, h3⟩
theorem zcv.putB {w : World} {es : List (ByteArray × Value)} {A B : List KV} {x : KV} {u x1 : Value} (h : zcv w es A B) (hn : x.1 ∉ B.map (·.1)) (hu : zU w u (yR x)) (h1 : zdp w x1 x.1 (lk A x.1)) : zcv w (zat es x.1 (pr2 x1 u)) A (B ++ [x]) := by
 refine ⟨zcD h.1, fun k => ?_⟩
 rw [zbu, zg5 hn]
 by_cases e : x.1 = k
 ·rw [if_pos e, if_pos e]
  subst e
  exact ⟨⟨x1, u, rfl, h1, ⟨hu, fun h => by cases h⟩⟩, .inr (by simp)⟩
 rw [if_neg e, if_neg e]
 exact h.2 k
theorem zhv (t : ByteArray) (A B : List KV) (k : ByteArray) : (yl t A B k).length ≤ 1 := by
 unfold yl
 split
 ·simp
 split <;> simp
theorem zja {α β : Type} {f : α → List β} (h : ∀ x, (f x).length ≤ 1) : ∀ l : List α, (l.flatMap f).length ≤ l.length
 | [] => by simp
 | x :: l => by
  rw [List.flatMap_cons, List.length_append, List.length_cons]
  have := zja h l
  have := h x
  omega
theorem zjD (k v : ByteArray) (a : Option ByteArray) : decide (zhQ k a = yU k v) = decide (a = some v) := by
 cases a with
 | none => rfl
 | some u =>
  apply decide_eq_decide.2
  constructor
  ·intro h; rw [(zfA h).2]
  intro h; cases h; rfl
theorem zcZ (p : PrT) (u : Value) (w : World) (hp : zbv w u p) : zO TP 12 #[.agg (p.cs u).toArray] w fun r w' => ∃ q n c, r = .tuple #[.slice q n c, Ii (if yN p then 0 else 2)] ∧ (yN p = true → n = (kvP p).length ∧ zJ w' (.slice q n c) ((kvP p).map yR)) ∧ zm [] w w' :=
 zO.mono (zic p u w hp) fun r w' h => by
  cases hc : yN p with
  | false =>
   simp only [hc, Bool.false_eq_true, if_false] at h
   exact ⟨none, 0, 0, h.1, (by intro h; cases h), h.2⟩
  | true =>
   simp only [hc, if_true] at h
   obtain ⟨⟨v, rfl, h1, _⟩, h2⟩ := h
   rw [zfV] at h1
   obtain ⟨q, c, rfl, _⟩ := h1.val
   exact ⟨q, _, c, rfl, fun _ => ⟨by rw [List.length_map], h1⟩, h2⟩
theorem zfh (t : ByteArray) (p q : PrT) (u v : Value) (w : World) (hp : zbv w u p) (hq : zbv w v q) (hE : EOk w) : zO TP 6 #[.string t, .agg (p.cs u).toArray, .agg (q.cs v).toArray] w fun r w' =>
 (if ym t && yN p && yN q then ∃ x, r = .tuple #[x, Ii 0] ∧ zQ w' x (zK t (kvP p) (kvP q)) else r = .tuple #[zH, Ii 2]) ∧ zm [] w w' := by
 obtain ⟨pu, cu, rfl, hcu⟩ := Rd.val hp
 obtain ⟨pv, cv, rfl, hcv⟩ := Rd.val hq
 refine A3 Tryz.func6 rfl rfl ?_
 refine Sr ?_
 refine Ob rfl rfl ?_
 intro b4 w4 e4 n4 c4 k4
 refine Ob rfl rfl ?_
 intro b5 w5 e5 n5 c5 k5
 refine Oa rfl (Oa rfl (E4 0 4 5 6 rfl ?_))
 have k4 : zV w5 b4 27 (p.cs (.slice pu p.park.length cu)) := k4.chg0 c5
 have k5 : zV w5 b5 27 (q.cs (.slice pv q.park.length cv)) := k5
 have hc5 := c4.trans c5
 have hp5 : zF w5 _ p.park := Rd.chg0 hp hc5
 have hq5 : zF w5 _ q.park := Rd.chg0 hq hc5
 have hE5 := hE.chg0 hc5
 refine Sr ?_
 refine Og (zi zac y7 rfl rfl (zu.of_blk0 k4)) rfl ?_
 refine Oc zkS rfl rfl rfl (zcZ p _ _ hp5) ?_
 rintro v21 w21 ⟨aq, an, ac, rfl, hrA, c21⟩
 refine Om rfl (Oe rfl rfl (Oe rfl rfl (Oa rfl (Oa rfl (E5 0 5 6 7 8 rfl (Sr ?_))))))
 refine Og (zi zac y7 rfl rfl (zu.of_blk0 (k5.chg0 c21))) rfl ?_
 refine Oc zkS rfl rfl rfl (zcZ q _ _ (Rd.chg0 hq5 c21)) ?_
 rintro v26 w26 ⟨bq, bn, bc, rfl, hrB, c26⟩
 refine Om rfl (Oe rfl rfl (Oe rfl rfl (Oa rfl (Oa rfl (E6 0 6 7 8 9 10 rfl ?_)))))
 have hc26 := c21.trans c26
 have hE26 := hE5.chg0 hc26
 refine zh (zh ?_)
 have hnm := zhi t
 have fin4 : ∀ {w' : World}, zm [] w w' → (ym t && yN p && yN q) = false → (if ym t && yN p && yN q then ∃ x, Value.tuple #[zH, Ii 2] = .tuple #[x, Ii 0] ∧ zQ w' x (zK t (kvP p) (kvP q)) else Value.tuple #[zH, Ii 2] = .tuple #[zH, Ii 2]) ∧ zm [] w w' := fun hc he => ⟨by rw [he]; rfl, hc⟩
 cases hn : ym t with
 | false =>
  rw [hn] at hnm
  refine zd (Om rfl ?_)
  refine Oc zjT rfl rfl rfl (hnm _ hE26) ?_
  rintro v30 w30 ⟨rfl, c30⟩
  refine Og (zL rfl) rfl (Om rfl (Oz rfl rfl (Oz rfl rfl (Ot rfl (Om rfl (Oz rfl rfl (Oz rfl rfl (Ot rfl (E5 0 6 8 9 39 rfl (zg rfl (Sr (Oa rfl ?_))))))))))))
  refine Oa rfl (E2 6 7 rfl (zj ?_))
  repeat first | refine tr ?_ | refine br ?_
  refine zbF rfl rfl rfl ?_
  exact ⟨rfl, (hc5.trans hc26).trans c30⟩
 | true =>
 rw [hn] at hnm
 cases hcp : yN p with
 | false =>
  refine zd (Om rfl ?_)
  refine Oc zjT rfl rfl rfl (hnm _ hE26) ?_
  rintro v30 w30 ⟨rfl, c30⟩
  refine Og (zL rfl) rfl (Om rfl (Oj rfl rfl ?_))
  refine Oy rfl rfl (vt (zG rfl rfl) rfl) ?_
  refine Of rfl (Om rfl (Oz rfl rfl (Oz rfl rfl (Ot rfl (E5 0 6 8 9 39 rfl (zg rfl (Sr (Oa rfl (Oa rfl (E2 6 7 rfl (zj ?_)))))))))))
  repeat first | refine tr ?_ | refine br ?_
  refine zbF rfl rfl rfl ?_
  exact ⟨rfl, (hc5.trans hc26).trans c30⟩
 | true =>
 cases hcq : yN q with
 | false =>
  refine zd (Om rfl ?_)
  refine Oc zjT rfl rfl rfl (hnm _ hE26) ?_
  rintro v30 w30 ⟨rfl, c30⟩
  refine Og (zL rfl) rfl (Om rfl (Oj rfl rfl ?_))
  refine Oy rfl rfl (vf (zG rfl rfl) rfl) ?_
  refine Of rfl (Om rfl (Oj rfl rfl ?_))
  refine Oy rfl rfl (vt (zG rfl rfl) rfl) ?_
  refine Of rfl (E5 0 6 8 9 39 rfl (zg rfl (Sr (Oa rfl (Oa rfl (E2 6 7 rfl (zj ?_)))))))
  repeat first | refine tr ?_ | refine br ?_
  refine zbF rfl rfl rfl ?_
  exact ⟨rfl, (hc5.trans hc26).trans c30⟩
 | true =>
 refine zd (Om rfl ?_)
 refine Oc zjT rfl rfl rfl (hnm _ hE26) ?_
 rintro v30 w30 ⟨rfl, c30⟩
 refine Og (zL rfl) rfl (Om rfl (Oj rfl rfl ?_))
 refine Oy rfl rfl (vf (zG rfl rfl) rfl) ?_
 refine Of rfl (Om rfl (Oj rfl rfl ?_))
 refine Oy rfl rfl (vf (zG rfl rfl) rfl) ?_
 refine Of rfl (E5 0 6 8 9 39 rfl (zf rfl (zq ?_)))
 simp only [Bool.and_true, if_true]
 have hop := zbZ hcp
 have hoq := zbZ hcq
 have hsA := zbH hop
 have hsB := zbH hoq
 have hlA := zdv hop
 have hlB := zdv hoq
 have hzA := zfG hop
 have hzB := zfG hoq
 obtain ⟨rfl, hrA⟩ := hrA hcp
 obtain ⟨rfl, hrB⟩ := hrB hcq
 generalize hA : kvP p = A at *
 generalize hB : kvP q = B at *
 have hrA : zJ w30 (.slice aq A.length ac) (A.map yR) := (hrA.chg0 c26).chg0 c30
 have hrB : zJ w30 (.slice bq B.length bc) (B.map yR) := hrB.chg0 c30
 have hcw : zm [] w w30 := (hc5.trans hc26).trans c30
 refine Sr ?_
 refine zA (gn rfl) (zaF (zbp) rfl ?_)
 intro b40 w40 e40 n40 c40 k40
 refine Oa rfl (E5 0 6 8 9 11 rfl ?_)
 have rowAt : ∀ {L : List KV} {wz : World} {vq : Option Addr} {vc : Nat}, zJ wz (.slice vq L.length vc) (L.map yR) → ∀ {j : Nat} {x : KV}, L[j]? = some x → ∃ b off u, vq = some ⟨b, off, none⟩ ∧ wz.cell? ⟨b, off + j * 1, none⟩ = some u ∧ zU wz u (yR x) := by
  intro L wz vq vc h j x hx
  obtain ⟨b, off, cap, u, hv, h1, h2⟩ := h.at (i := j) (l := yR x) (by rw [List.getElem?_map, hx]; rfl)
  simp only [List.length_map] at hv
  cases hv
  exact ⟨b, off, u, rfl, h1, h2⟩
 have hb40 : w30.heap.size ≤ b40 := by omega
 have hown : ∀ y ∈ [b40], w30.heap.size ≤ y := by intro y hy; simp at hy; omega
 refine zh (Sr (Om rfl (On yE rfl (Om rfl (E7 0 6 9 11 41 42 43 rfl (zn ?_))))))
 refine ye [0, 6, 9, 11, 41, 42, 43] (fun n F wx => ∃ (j : Nat) (es : List (ByteArray × Value)), n = A.length - j ∧ j ≤ A.length ∧ F = [(0, .string t), (6, zH), (9, .slice bq B.length bc), (11, .map (some b40)), (41, .slice aq A.length ac), (42, Ii A.length), (43, Ii j)] ∧ zZ zbp wx b40 es ∧ zcv w30 es (A.take j) [] ∧ es.length ≤ j ∧ zm [] w30 wx) (m := A.length - 0) ⟨0, [], rfl, Nat.zero_le _, rfl, k40, zcv.nil _, Nat.le_refl _, c40⟩ ?_
 rintro n F wx ⟨j, es, rfl, hj, rfl, hm, hr, hes, hcx⟩
 refine zh ?_
 by_cases hlt : j < A.length
 ·refine zd ?_
  refine Og (vt (zE rfl rfl) (by simp; omega)) rfl ?_
  refine E8 0 6 9 11 41 42 43 44 rfl (zh (zg rfl (zq ?_)))
  have hx : A[j]? = some A[j] := by simp [hlt]
  have htk := List.take_succ_eq_append_getElem hlt
  have hnx : (A[j]).1 ∉ (A.take j).map (·.1) := by
   intro hm
   obtain ⟨y, hy, he⟩ := List.mem_map.1 hm
   obtain ⟨i, hi, rfl⟩ := List.mem_take_iff_getElem.1 hy
   have := (List.pairwise_iff_getElem.1 hsA) i j (by omega) hlt (by omega)
   exact zbG this he
  generalize A[j] = x at hx htk hnx
  obtain ⟨bo, oo, u, hve, hcell, hvu⟩ := rowAt hrA hx
  cases hve
  obtain ⟨pu', cu', rfl⟩ := hvu.two
  obtain ⟨b2, o2, cap2, hve, hc2⟩ := yq.at (i := 0) (x := bV x.1) za6 (zW.arr hvu) rfl
  cases hve
  refine zh (zn (Sr ?_))
  refine Og (ze yE zaz rfl rfl _ rfl hlt) rfl ?_
  refine Ol yz rfl (hcx.cell hcell) ?_
  refine Oa rfl (E8 0 6 9 11 13 41 42 43 rfl (zd (Om rfl (Om rfl ?_))))
  refine Og (ze yS yM rfl rfl 0 rfl (by decide)) rfl ?_
  refine Od yv rfl ?_
  refine Ol yt rfl (hcx.cell (hc2 3 _ rfl)) ?_
  refine Om rfl ?_
  refine Og (zep zgw zaz zh7 rfl (vs := [_, _]) rfl (css := [_, _]) ⟨rfl, rfl, trivial⟩ rfl rfl (cs := [_, _]) rfl) rfl ?_
  refine zA (gn rfl) (zg0 (κ := zbp) zjX (yo st9) rfl rfl rfl hm ?_)
  intro wA nA cA kA
  refine zdc [0, 6, 9, 11, 41, 42, 43] (F' := [(0, _), (6, _), (9, _), (11, _), (41, _), (42, _), (43, _)]) rfl ?_
  refine zk (zd ?_)
  refine Og (zR rfl rfl (by omega)) rfl ?_
  refine Om rfl ?_
  refine zdc [0, 6, 9, 11, 41, 42, 43] (F' := [(0, _), (6, _), (9, _), (11, _), (41, _), (42, _), (43, _)]) rfl ?_
  exact ⟨A.length - (j + 1), by omega, j + 1, _, rfl, by omega, rfl, kA, by rw [htk]; exact hr.putA hnx hvu, Nat.le_trans (zd1 _ _ _) (by omega), hcx.own cA hown⟩
 refine zd ?_
 refine Og (vf (zE rfl rfl) (by simp; omega)) rfl ?_
 refine E8 0 6 9 11 41 42 43 44 rfl (zh (zf rfl ?_))
 refine zP ?_
 repeat first | refine te ?_ | refine bo rfl ?_
 refine zp _ ?_
 have hjA : A.take j = A := List.take_of_length_le (by omega)
 rw [hjA] at hr
 clear hlt
 refine zh (Sr (Om rfl (On yE rfl (Om rfl (E6 0 6 11 55 56 57 rfl (zn ?_))))))
 refine ye [0, 6, 11, 55, 56, 57] (fun n F wy => ∃ (i : Nat) (es : List (ByteArray × Value)), n = B.length - i ∧ i ≤ B.length ∧ F = [(0, .string t), (6, zH), (11, .map (some b40)), (55, .slice bq B.length bc), (56, Ii B.length), (57, Ii i)] ∧ zZ zbp wy b40 es ∧ zcv w30 es A (B.take i) ∧ es.length ≤ A.length + i ∧ zm [] w30 wy) (m := B.length - 0) ⟨0, es, rfl, Nat.zero_le _, rfl, hm, hr, by omega, hcx⟩ ?_
 clear hm hr hes hcx
 rintro n F wy ⟨i, es, rfl, hi, rfl, hm, hr, hes, hcx⟩
 refine zh ?_
 by_cases hlt : i < B.length
 ·refine zd ?_
  refine Og (vt (zE rfl rfl) (by simp; omega)) rfl ?_
  refine E7 0 6 11 55 56 57 58 rfl (zh (zg rfl (zq ?_)))
  have hx : B[i]? = some B[i] := by simp [hlt]
  have htk := List.take_succ_eq_append_getElem hlt
  have hnx : (B[i]).1 ∉ (B.take i).map (·.1) := by
   intro hm
   obtain ⟨y, hy, he⟩ := List.mem_map.1 hm
   obtain ⟨k, hk, rfl⟩ := List.mem_take_iff_getElem.1 hy
   have := (List.pairwise_iff_getElem.1 hsB) k i (by omega) hlt (by omega)
   exact zbG this he
  generalize B[i] = x at hx htk hnx
  obtain ⟨bo, oo, u, hve, hcell, hvu⟩ := rowAt hrB hx
  cases hve
  obtain ⟨pu', cu', rfl⟩ := hvu.two
  obtain ⟨b2, o2, cap2, hve, hc2⟩ := yq.at (i := 0) (x := bV x.1) za6 (zW.arr hvu) rfl
  cases hve
  obtain ⟨x1, x2, hget, hk1, -⟩ := hr.get x.1
  obtain ⟨p1, n1, q1, rfl⟩ : ∃ p n c, x1 = .slice p n c := by obtain ⟨p, c, e, _⟩ := zW.val hk1.1; exact ⟨p, _, c, e⟩
  refine zh (zn (Sr ?_))
  refine Og (ze yE zaz rfl rfl _ rfl hlt) rfl ?_
  refine Ol yz rfl (hcx.cell hcell) ?_
  refine Oa rfl (E7 0 6 11 15 55 56 57 rfl ?_)
  refine W_draw (fun wz => zm [] wy wz) mix (by kernel_rfl) (zm.drew [] wy) ?_
  refine Tm rfl (Tm rfl ?_)
  refine Tp (fun _ => ze yS yM rfl rfl 0 rfl (by decide)) rfl ?_
  refine Td yv rfl ?_
  refine Tr (fun wz hz => zb yt rfl ((hcx.trans hz).cell (hc2 3 _ rfl))) rfl ?_
  refine Tm rfl (Tm rfl ?_)
  refine Tp (fun _ => ze yS yM rfl rfl 0 rfl (by decide)) rfl ?_
  refine Td yv rfl ?_
  refine Tr (fun wz hz => zb yt rfl ((hcx.trans hz).cell (hc2 3 _ rfl))) rfl ?_
  refine t_st rfl (gn rfl) (St.vl (zax (κ := zbp) zjX (yo st9) zh7 rfl rfl (hm.chg0 (zm.drew [] _)) rfl hget) rfl rfl ?_)
  refine ⟨.inl (zm.drew [] _), ?_⟩
  refine Tp (fun _ => zgv zgw yz zaz rfl rfl 0 rfl (by decide) rfl) rfl ?_
  refine Tm rfl ?_
  refine Tp (fun _ => zep zgw zaz zh7 rfl (vs := [_, _]) rfl (css := [_, _]) ⟨rfl, rfl, trivial⟩ rfl rfl (cs := [_, _]) rfl) rfl ?_
  refine t_st rfl (gn rfl) (zg0 (κ := zbp) zjX (yo st9) rfl rfl rfl (hm.chg0 (zm.drew [] _)) ?_)
  intro wA nA cA kA
  refine ⟨.inr (by kernel_rfl), ?_⟩
  refine zls [0, 6, 11, 55, 56, 57] (F' := [(0, _), (6, _), (11, _), (55, _), (56, _), (57, _)]) rfl ?_
  refine zk (zd ?_)
  refine Og (zR rfl rfl (by omega)) rfl ?_
  refine Om rfl (N6 0 6 11 55 56 57 rfl ?_)
  exact ⟨B.length - (i + 1), by omega, i + 1, _, rfl, by omega, rfl, kA, by rw [htk]; exact hr.putB hnx hvu hk1, Nat.le_trans (zd1 _ _ _) (by omega), (hcx.trans (zm.drew [] _)).own cA hown⟩
 refine zd ?_
 refine Og (vf (zE rfl rfl) (by simp; omega)) rfl ?_
 refine E7 0 6 11 55 56 57 58 rfl (zh (zf rfl ?_))
 refine zP ?_
 repeat first | refine te ?_ | refine bo rfl ?_
 refine zp _ ?_
 have hjB : B.take i = B := List.take_of_length_le (by omega)
 rw [hjB] at hr
 clear hlt
 have hkey : ∀ k ∈ es.map (·.1), k ∈ A.map (·.1) ∨ k ∈ B.map (·.1) := fun k hk => ((hr.mem k).1 hk).imp zgQ.1 zgQ.1
 have hsz : ∀ e ∈ es, e.1.size ≤ 1048576 := by
  intro e he
  rcases hkey e.1 (List.mem_map_of_mem he) with h | h
  ·obtain ⟨y, hy, h⟩ := List.mem_map.1 h
   have := hzA y hy
   rw [← h]
   omega
  obtain ⟨y, hy, h⟩ := List.mem_map.1 h
  have := hzB y hy
  rw [← h]
  omega
 refine zh (Sr (Om rfl ?_))
 refine Oc znD rfl rfl rfl (zjF b40 _) ?_
 rintro v77 w77 ⟨rfl, rfl⟩
 refine Oc zmH rfl rfl rfl (zhO b40 es _ hm hr.1 (by omega) hsz) ?_
 rintro v78 w78 ⟨ks, ps, cs, rfl, hks, hper, hsrt, c78⟩
 refine On z6 rfl (Om rfl (E6 0 6 11 78 79 80 rfl ?_))
 have hm78 := hm.chg0 c78
 have hc78 := hcx.trans c78
 have hklen : ks.length ≤ 810 := by
  have := hper.length_eq
  rw [List.length_map] at this
  omega
 have hturn : ks.flatMap (yl t A B) = zK t A B := zgR hsA hsB hsrt fun k => by
  rw [hper.mem_iff, hr.mem, zgQ, zgQ]
 refine zn ?_
 refine ye [0, 6, 11, 78, 79, 80] (fun n F wz => ∃ k : Nat, n = ks.length - k ∧ k ≤ ks.length ∧ ∃ y : Value, F = [(0, .string t), (6, y), (11, .map (some b40)), (78, .slice ps ks.length cs), (79, Ii ks.length), (80, Ii k)] ∧ zQ wz y ((ks.take k).flatMap (yl t A B)) ∧ (∀ b ∈ zC y, w78.heap.size ≤ b) ∧ zm [] w78 wz) (m := ks.length - 0) ⟨0, rfl, Nat.zero_le _, _, rfl, zQ.nil _, by simp [zC, zH], zm.refl _ _⟩ ?_
 rintro n F wz ⟨k, rfl, hk, y, rfl, hu, hfu, hcz⟩
 refine zh ?_
 by_cases hlt : k < ks.length
 ·refine zd ?_
  refine Og (vt (zE rfl rfl) (by simp; omega)) rfl ?_
  refine E7 0 6 11 78 79 80 81 rfl (zh (zg rfl (zq ?_)))
  have hx : ks[k]? = some ks[k] := by simp [hlt]
  have htk := List.take_succ_eq_append_getElem hlt
  have hmem := List.getElem_mem hlt
  generalize ks[k] = kx at hx htk hmem
  have hstep : (ks.take (k + 1)).flatMap (yl t A B) = (ks.take k).flatMap (yl t A B) ++ yl t A B kx := by rw [htk, List.flatMap_append]; simp
  have hfl := zja (zhv t A B) (ks.take k)
  rw [List.length_take] at hfl
  obtain ⟨x, hget⟩ := zdH.1 (hper.mem_iff.1 hmem)
  have hpk := hr.2 kx
  rw [hget] at hpk
  obtain ⟨⟨x1, x2, rfl, hk1, hk2⟩, hne⟩ := hpk
  obtain ⟨p1, n1, q1, rfl⟩ : ∃ p n c, x1 = .slice p n c := by obtain ⟨p, c, e, _⟩ := zW.val hk1.1; exact ⟨p, _, c, e⟩
  obtain ⟨p2, n2, q2, rfl⟩ : ∃ p n c, x2 = .slice p n c := by obtain ⟨p, c, e, _⟩ := zW.val hk2.1; exact ⟨p, _, c, e⟩
  obtain ⟨bo, oo, cpo, hve, hc1⟩ := zF.at (Rd.chg0 hks hcz) hx
  cases hve
  have hmz := hm78.chg0 hcz
  refine zh (zn (Sr ?_))
  refine Og (ze z6 sz9 rfl rfl _ rfl hlt) rfl ?_
  refine Ol yt rfl hc1 ?_
  refine Oa rfl (E7 0 6 11 17 78 79 80 rfl (Sr (Om rfl (Om rfl ?_))))
  refine Og (zax (κ := zbp) zjX (yo st9) zh7 rfl rfl hmz hget rfl) rfl ?_
  refine zA (gn rfl) (zI zh7 rfl rfl ?_)
  intro b18 w18 e18 n18 c18 k18
  refine zA (gn rfl) (zD zm8 rfl rfl rfl rfl k18 (by simp) (by intro y hy; simp at hy; rcases hy with rfl | rfl <;> rfl) ?_)
  intro wD nD cD kD
  refine E8 0 6 11 17 18 78 79 80 rfl ?_
  have hcD : zm [] wz wD := c18.own cD (by intro y hy; simp at hy; omega)
  refine zn (Sr ?_)
  refine Og (zaC zgw zaz rfl rfl 1 rfl (by decide)) rfl ?_
  refine Ol yz rfl (kD.cell' (i := 1) rfl) ?_
  refine Og (zjw yS rfl rfl) rfl ?_
  refine Oa rfl (za0 [0, 6, 11, 17, 18, 78, 79, 80, 87] (F' := [(0, _), (6, _), (11, _), (17, _), (18, _), (78, _), (79, _), (80, _), (87, _)]) rfl ?_)
  cases hlk : lk B kx with
  | none =>
   rw [hlk] at hk2
   have hnil := hk2.2 rfl
   cases hnil
   refine zg rfl ?_
   obtain ⟨us, hus, hls⟩ := hu.chg0 hcD
   refine zd (Om rfl (Om rfl (Om rfl ?_)))
   refine Oc znu rfl rfl rfl (zeH t kx _) ?_
   rintro v94 w94 ⟨x94, rfl, h94, c94⟩
   refine zA (gn rfl) (zv zcO rfl (vs := [_]) rfl (css := [_]) ⟨rfl, trivial⟩ rfl rfl (cs := [_, _, _, _, _, _, _, _, _, _]) rfl rfl ?_)
   intro b95 w95 e95 n95 c95 k95
   refine zA (gn rfl) (yc zcO yn rfl rfl (zB.chg0 hus (c94.trans c95)) (zB.of_blk (n := 1) k95 rfl (by simp [maxLen]) h94.one) (by simp only [maxLen]; omega) (by omega) rfl ?_)
   intro v96 w96 i96 c96 o96 z96
   refine Oa rfl (N6 0 6 11 78 79 80 rfl (zk (zk (zd ?_))))
   refine Og (zR rfl rfl (by omega)) rfl ?_
   refine Om rfl (N6 0 6 11 78 79 80 rfl ?_)
   have hs1 := hcz.size
   have hs2 := hcD.size
   have hs3 := c94.size
   have hs4 := c95.size
   refine ⟨ks.length - (k + 1), by omega, k + 1, rfl, by omega, v96, rfl, ?_, zaN o96 hfu (by omega), (((hcz.trans hcD).trans c94).trans c95).own c96 hfu⟩
   have e : yl t A B kx = [za8 t kx] := by unfold yl; rw [hlk]
   rw [hstep, e]
   exact zQ.push (hus.chg0 c94) (hls.chg0 c94) h94 c95 i96 c96
  | some vx =>
   rw [hlk] at hk2
   obtain ⟨pp, cc, hve⟩ := hk2.some
   cases hve
   refine zf rfl ?_
   have hcD' : zm [] w30 wD := (hc78.trans hcz).trans hcD
   have hv1 : y5 wD (.slice p1 n1 q1) (zhQ kx (lk A kx)) := zW.arr (hk1.1.chg0 hcD')
   have hv2 : zU wD (.slice (some pp) 2 q2) (yU kx vx) := hk2.1.chg0 hcD'
   have hol : (zhQ kx (lk A kx)).length ≤ 1048576 := by cases lk A kx <;> simp [zhQ, yU]
   refine Sr ?_
   refine Og (zaC zgw zaz rfl rfl 0 rfl (by decide)) rfl ?_
   refine Ol yz rfl (kD.cell' (i := 0) rfl) ?_
   refine Og (zaC zgw zaz rfl rfl 1 rfl (by decide)) rfl ?_
   refine Ol yz rfl (kD.cell' (i := 1) rfl) ?_
   refine Oc zkG rfl rfl rfl (zeL _ _ (zhQ kx (lk A kx)) (yU kx vx) _ hv1 (zW.arr hv2) hol (by simp [yU])) ?_
   rintro v102 w102 ⟨rfl, c102⟩
   refine Og (zL rfl) rfl (Oa rfl (E8 0 6 11 18 78 79 80 97 rfl ?_))
   rw [zjD]
   have e : yl t A B kx = if lk A kx = some vx then [] else [zbI t (yU kx vx)] := by unfold yl; rw [hlk]
   by_cases hla : lk A kx = some vx
   ·rw [decide_eq_true hla]
    refine zf rfl (yd (zk (zk (zd ?_))))
    refine Og (zR rfl rfl (by omega)) rfl ?_
    refine Om rfl (N6 0 6 11 78 79 80 rfl ?_)
    rw [if_pos hla] at e
    refine ⟨ks.length - (k + 1), by omega, k + 1, rfl, by omega, y, rfl, ?_, hfu, (hcz.trans hcD).trans c102⟩
    rw [hstep, e, List.append_nil]
    exact (hu.chg0 hcD).chg0 c102
   rw [decide_eq_false hla]
   refine zg rfl ?_
   obtain ⟨us, hus, hls⟩ := (hu.chg0 hcD).chg0 c102
   refine zd (Om rfl (Om rfl ?_))
   refine Og (zaC zgw zaz rfl rfl 1 rfl (by decide)) rfl ?_
   refine Ol yz rfl ((kD.chg0 c102).cell' (i := 1) rfl) ?_
   refine Oc zne rfl rfl rfl (zfk t _ (yU kx vx) _ (hv2.chg0 c102)) ?_
   rintro v108 w108 ⟨x108, rfl, h108, c108⟩
   refine zA (gn rfl) (zv zcO rfl (vs := [_]) rfl (css := [_]) ⟨rfl, trivial⟩ rfl rfl (cs := [_, _, _, _, _, _, _, _, _, _]) rfl rfl ?_)
   intro b109 w109 e109 n109 c109 k109
   refine zA (gn rfl) (yc zcO yn rfl rfl (zB.chg0 hus (c108.trans c109)) (zB.of_blk (n := 1) k109 rfl (by simp [maxLen]) h108.one) (by simp only [maxLen]; omega) (by omega) rfl ?_)
   intro v110 w110 i110 c110 o110 z110
   refine Oa rfl (N6 0 6 11 78 79 80 rfl (zk (zk (zd ?_))))
   refine Og (zR rfl rfl (by omega)) rfl ?_
   refine Om rfl (N6 0 6 11 78 79 80 rfl ?_)
   have hs1 := hcz.size
   have hs2 := hcD.size
   have hs3 := c108.size
   have hs4 := c109.size
   have hs5 := c102.size
   rw [if_neg hla] at e
   refine ⟨ks.length - (k + 1), by omega, k + 1, rfl, by omega, v110, rfl, ?_, zaN o110 hfu (by omega), ((((hcz.trans hcD).trans c102).trans c108).trans c109).own c110 hfu⟩
   rw [hstep, e]
   exact zQ.push (hus.chg0 c108) (hls.chg0 c108) h108 c109 i110 c110
 refine zd ?_
 refine Og (vf (zE rfl rfl) (by simp; omega)) rfl ?_
 refine E7 0 6 11 78 79 80 81 rfl (zh (zf rfl ?_))
 refine zP ?_
 repeat first | refine te ?_ | refine bo rfl ?_
 refine zp _ ?_
 rw [List.take_of_length_le (by omega), hturn] at hu
 refine Sr (Om rfl (Oa rfl (Oa rfl (E2 6 7 rfl (zj ?_)))))
 refine zbF rfl rfl rfl ?_
 exact ⟨⟨y, rfl, hu⟩, (hcw.trans hc78).trans hcz⟩
theorem zen (p : PrT) (u : Value) (w : World) (hp : zbv w u p) : zO TP 21 #[.agg (p.cs u).toArray] w fun r w' => ∃ q n c, r = .tuple #[.slice q n c, Ii (if yN p then 0 else 2)] ∧ (yN p = true → n = (kvP p).length ∧ zJ w' (.slice q n c) ((kvP p).map yR)) ∧ zm [] w w' :=
 zO.mono (ziB p u w hp) fun r w' h => by
  cases hc : yN p with
  | false =>
   simp only [hc, Bool.false_eq_true, if_false] at h
   exact ⟨none, 0, 0, h.1, (by intro h; cases h), h.2⟩
  | true =>
   simp only [hc, if_true] at h
   obtain ⟨⟨v, rfl, h1, _⟩, h2⟩ := h
   rw [zfV] at h1
   obtain ⟨q, c, rfl, _⟩ := h1.val
   exact ⟨q, _, c, rfl, fun _ => ⟨by rw [List.length_map], h1⟩, h2⟩
theorem zeF {t : ByteArray} {a : KV} {A : List KV} : zK t (a :: A) [] = za8 t a.1 :: zK t A [] := by rw [zK]
theorem zfX {t : ByteArray} {b : KV} {B : List KV} : zK t [] (b :: B) = zbI t (yR b) :: zK t [] B := by rw [zK]
theorem zhN {t : ByteArray} {a b : KV} {A B : List KV} (h : blt a.1 b.1 = true) : zK t (a :: A) (b :: B) = za8 t a.1 :: zK t A (b :: B) := by rw [zK, if_pos h]
theorem zhJ {t : ByteArray} {a b : KV} {A B : List KV} (h : blt a.1 b.1 = false) (h' : blt b.1 a.1 = true) : zK t (a :: A) (b :: B) = zbI t (yR b) :: zK t (a :: A) B := by rw [zK, if_neg (by simp [h]), if_pos h']
theorem zfE {t : ByteArray} {a b : KV} {A B : List KV} (h : blt a.1 b.1 = false) (h' : blt b.1 a.1 = false) (e : a.2 = b.2) : zK t (a :: A) (b :: B) = zK t A B := by rw [zK, if_neg (by simp [h]), if_neg (by simp [h']), if_pos e]; rfl
theorem zeZ {t : ByteArray} {a b : KV} {A B : List KV} (h : blt a.1 b.1 = false) (h' : blt b.1 a.1 = false) (e : a.2 ≠ b.2) : zK t (a :: A) (b :: B) = zbI t (yR b) :: zK t A B := by rw [zK, if_neg (by simp [h]), if_neg (by simp [h']), if_neg e]; rfl
theorem zia (t : ByteArray) (p q : PrT) (u v : Value) (w : World) (hp : zbv w u p) (hq : zbv w v q) (ht : t.size ≤ 1048576) : zO TP 7 #[.string t, .agg (p.cs u).toArray, .agg (q.cs v).toArray] w fun r w' =>
 (if ym t && yN p && yN q then ∃ x, r = .tuple #[x, Ii 0] ∧ zQ w' x (zK t (kvP p) (kvP q)) else r = .tuple #[zH, Ii 2]) ∧ zm [] w w' := by
 obtain ⟨pu, cu, rfl, hcu⟩ := Rd.val hp
 obtain ⟨pv, cv, rfl, hcv⟩ := Rd.val hq
 refine A3 Tryz.func7 rfl rfl ?_
 refine Sr ?_
 refine Ob rfl rfl ?_
 intro b4 w4 e4 n4 c4 k4
 refine Ob rfl rfl ?_
 intro b5 w5 e5 n5 c5 k5
 refine Oa rfl (Oa rfl (E3 0 4 5 rfl ?_))
 have k4 : zV w5 b4 27 (p.cs (.slice pu p.park.length cu)) := k4.chg0 c5
 have k5 : zV w5 b5 27 (q.cs (.slice pv q.park.length cv)) := k5
 have hc5 := c4.trans c5
 have hp5 : zF w5 _ p.park := Rd.chg0 hp hc5
 have hq5 : zF w5 _ q.park := Rd.chg0 hq hc5
 refine Sr ?_
 refine Og (zi zac y7 rfl rfl (zu.of_blk0 k4)) rfl ?_
 refine Oc zmK rfl rfl rfl (zen p _ _ hp5) ?_
 rintro v17 w17 ⟨aq, an, ac, rfl, hrA, c17⟩
 refine Om rfl (Oe rfl rfl (Oe rfl rfl (Oa rfl (Oa rfl (E4 0 5 8 9 rfl (Sr ?_))))))
 refine Og (zi zac y7 rfl rfl (zu.of_blk0 (k5.chg0 c17))) rfl ?_
 refine Oc zmK rfl rfl rfl (zen q _ _ (Rd.chg0 hq5 c17)) ?_
 rintro v22 w22 ⟨bq, bn, bc, rfl, hrB, c22⟩
 refine Om rfl (Oe rfl rfl (Oe rfl rfl (Oa rfl (Oa rfl (E5 0 8 9 10 11 rfl ?_)))))
 have hcw : zm [] w w22 := hc5.trans (c17.trans c22)
 refine zh (zh ?_)
 have hnm := fun w => zkC t w ht
 cases hn : ym t with
 | false =>
  rw [hn] at hnm
  refine zd (Om rfl ?_)
  refine Oc zjC rfl rfl rfl (hnm _) ?_
  rintro v26 w26 ⟨rfl, rfl⟩
  refine Og (zL rfl) rfl (Om rfl (Oz rfl rfl (Oz rfl rfl (Ot rfl (Om rfl (Oz rfl rfl (Oz rfl rfl (Ot rfl (E4 0 8 10 35 rfl (zg rfl (Sr (Oa rfl ?_))))))))))))
  refine Oa rfl (E2 6 7 rfl (zj ?_))
  repeat first | refine tr ?_ | refine br ?_
  refine zbF rfl rfl rfl ?_
  exact ⟨rfl, hcw⟩
 | true =>
 rw [hn] at hnm
 cases hcp : yN p with
 | false =>
  refine zd (Om rfl ?_)
  refine Oc zjC rfl rfl rfl (hnm _) ?_
  rintro v26 w26 ⟨rfl, rfl⟩
  refine Og (zL rfl) rfl (Om rfl (Oj rfl rfl ?_))
  refine Oy rfl rfl (vt (zG rfl rfl) rfl) ?_
  refine Of rfl (Om rfl (Oz rfl rfl (Oz rfl rfl (Ot rfl (E4 0 8 10 35 rfl (zg rfl (Sr (Oa rfl (Oa rfl (E2 6 7 rfl (zj ?_)))))))))))
  repeat first | refine tr ?_ | refine br ?_
  refine zbF rfl rfl rfl ?_
  exact ⟨rfl, hcw⟩
 | true =>
 cases hcq : yN q with
 | false =>
  refine zd (Om rfl ?_)
  refine Oc zjC rfl rfl rfl (hnm _) ?_
  rintro v26 w26 ⟨rfl, rfl⟩
  refine Og (zL rfl) rfl (Om rfl (Oj rfl rfl ?_))
  refine Oy rfl rfl (vf (zG rfl rfl) rfl) ?_
  refine Of rfl (Om rfl (Oj rfl rfl ?_))
  refine Oy rfl rfl (vt (zG rfl rfl) rfl) ?_
  refine Of rfl (E4 0 8 10 35 rfl (zg rfl (Sr (Oa rfl (Oa rfl (E2 6 7 rfl (zj ?_)))))))
  repeat first | refine tr ?_ | refine br ?_
  refine zbF rfl rfl rfl ?_
  exact ⟨rfl, hcw⟩
 | true =>
 refine zd (Om rfl ?_)
 refine Oc zjC rfl rfl rfl (hnm _) ?_
 rintro v26 w26 ⟨rfl, rfl⟩
 refine Og (zL rfl) rfl (Om rfl (Oj rfl rfl ?_))
 refine Oy rfl rfl (vf (zG rfl rfl) rfl) ?_
 refine Of rfl (Om rfl (Oj rfl rfl ?_))
 refine Oy rfl rfl (vf (zG rfl rfl) rfl) ?_
 refine Of rfl (E4 0 8 10 35 rfl (zf rfl (zq ?_)))
 simp only [Bool.and_true, if_true]
 have hop := zbZ hcp
 have hoq := zbZ hcq
 have hlA := zdv hop
 have hlB := zdv hoq
 obtain ⟨rfl, hrA⟩ := hrA hcp
 obtain ⟨rfl, hrB⟩ := hrB hcq
 generalize hA : kvP p = A at *
 generalize hB : kvP q = B at *
 have hrA : zJ w26 (.slice aq A.length ac) (A.map yR) := hrA.chg0 c22
 have rowAt : ∀ {L : List KV} {wz : World} {vq : Option Addr} {vc : Nat}, zJ wz (.slice vq L.length vc) (L.map yR) → ∀ {j : Nat} {x : KV}, L[j]? = some x → ∃ b off b2 o2 c2, vq = some ⟨b, off, none⟩ ∧ wz.cell? ⟨b, off + j * 1, none⟩ = some (.slice (some ⟨b2, o2, none⟩) 2 c2) ∧ zU wz (.slice (some ⟨b2, o2, none⟩) 2 c2) (yR x) ∧ wz.cell? ⟨b2, o2 + 0 * 4 + 3, none⟩ = some (.string x.1) := by
  intro L wz vq vc h j x hx
  obtain ⟨b, off, cap, u, hv, h1, h2⟩ := h.at (i := j) (l := yR x) (by rw [List.getElem?_map, hx]; rfl)
  simp only [List.length_map] at hv
  cases hv
  obtain ⟨b2, o2, cap2, hve, hc2⟩ := yq.at (i := 0) (x := bV x.1) za6 (zW.arr h2) rfl
  cases hve
  exact ⟨b, off, b2, o2, cap2, rfl, h1, h2, hc2 3 _ rfl⟩
 refine Sr (Oa rfl (E4 0 8 10 12 rfl (Sr (Oa rfl (Oa rfl (E6 0 8 10 12 13 14 rfl (zh (zn ?_))))))))
 refine ye [0, 8, 10, 12, 13, 14] (fun n F wx => ∃ i j : Nat, n = (A.length - i) + (B.length - j) ∧ i ≤ A.length ∧ j ≤ B.length ∧ ∃ (y : Value) (acc : List StT), F = [(0, .string t), (8, .slice aq A.length ac), (10, .slice bq B.length bc), (12, y), (13, Ii i), (14, Ii j)] ∧ zQ wx y acc ∧ acc ++ zK t (A.drop i) (B.drop j) = zK t A B ∧ acc.length ≤ i + j ∧ (∀ b ∈ zC y, w26.heap.size ≤ b) ∧ zm [] w26 wx) (m := (A.length - 0) + (B.length - 0)) ⟨0, 0, rfl, Nat.zero_le _, Nat.zero_le _, _, _, rfl, zQ.nil _, rfl, Nat.le_refl _, by simp [zC, zH], zm.refl _ _⟩ ?_
 rintro n F wx ⟨i, j, rfl, hi, hj, y, acc, rfl, hu, hacc, hal, hfu, hcx⟩
 refine zh (zh ?_)
 have hd : zm [] wx wx.drew := zm.drew [] _
 have hcd := hcx.trans hd
 by_cases hlA' : i < A.length
 ·refine zd (Om rfl (Om rfl (On yE rfl ?_)))
  refine Og (vt (zE rfl rfl) (by simp; omega)) rfl ?_
  refine Om rfl (Oz rfl rfl (Oz rfl rfl (Oz rfl rfl (Oz rfl rfl (Ot rfl (E7 0 8 10 12 13 14 45 rfl (zg rfl (zq (zn (zn (zh ?_)))))))))))
  have hx : A[i]? = some A[i] := by simp [hlA']
  have hdA := List.drop_eq_getElem_cons hlA'
  generalize A[i] = a at hx hdA
  obtain ⟨bo, oo, ba, oa, ca, hve, hca, hva, hka⟩ := rowAt hrA hx
  cases hve
  rw [hdA] at hacc
  by_cases hlB' : j < B.length
  ·have hx' : B[j]? = some B[j] := by simp [hlB']
   have hdB := List.drop_eq_getElem_cons hlB'
   generalize B[j] = b at hx' hdB
   obtain ⟨bo', oo', bb, ob, cb, hve, hcb, hvb, hkb⟩ := rowAt hrB hx'
   cases hve
   rw [hdB] at hacc
   cases hab : blt a.1 b.1 with
   | true =>
    refine W_draw (fun wz => zm [] wx wz) mix (yX (by kernel_rfl)) hd ?_
    refine Tm rfl (Tm rfl ?_)
    refine Tp (fun _ => z4 yE rfl) rfl ?_
    refine Tp (fun _ => vf (zw rfl rfl) (by simp; omega)) rfl ?_
    refine Tm rfl (Tq rfl rfl rfl (Tq rfl rfl rfl ?_))
    refine Tg rfl rfl (fun _ => z4 yE rfl) rfl ?_
    refine Tg rfl rfl (fun _ => vt (zE rfl rfl) (by simp; omega)) rfl ?_
    refine Tq rfl rfl rfl (Tq rfl rfl rfl (Tq rfl rfl rfl ?_))
    refine Tg rfl rfl (fun _ => ze yE zaz rfl rfl _ rfl hlA') rfl ?_
    refine Ts rfl rfl (fun wz hz => zb yz rfl ((hcx.trans hz).cell hca)) rfl ?_
    refine Tg rfl rfl (fun _ => ze yS yM rfl rfl 0 rfl (by decide)) rfl ?_
    refine Tg rfl rfl (fun _ => za yv rfl) rfl ?_
    refine Ts rfl rfl (fun wz hz => zb yt rfl ((hcx.trans hz).cell hka)) rfl ?_
    refine Tq rfl rfl rfl (Tq rfl rfl rfl ?_)
    refine Tg rfl rfl (fun _ => ze yE zaz rfl rfl _ rfl hlB') rfl ?_
    refine Ts rfl rfl (fun wz hz => zb yz rfl ((hcx.trans hz).cell hcb)) rfl ?_
    refine Tg rfl rfl (fun _ => ze yS yM rfl rfl 0 rfl (by decide)) rfl ?_
    refine Tg rfl rfl (fun _ => za yv rfl) rfl ?_
    refine Ts rfl rfl (fun wz hz => zb yt rfl ((hcx.trans hz).cell hkb)) rfl ?_
    refine Tg rfl rfl (fun _ => vt (zc9 rfl rfl) hab) rfl ?_
    refine Tg rfl rfl (fun _ => zy rfl rfl) rfl ?_
    refine Tp (fun _ => zz rfl rfl) rfl ?_
    refine Ta rfl ?_
    refine T_end [0, 8, 10, 12, 13, 14, 69] (F' := [(0, _), (8, _), (10, _), (12, _), (13, _), (14, _), (69, _)]) rfl ?_
    refine zg rfl ?_
    obtain ⟨us, hus, hls⟩ := hu.chg0 hd
    refine Sr (Om rfl (Om rfl (Om rfl (Om rfl ?_))))
    refine Og (ze yE zaz rfl rfl _ rfl hlA') rfl ?_
    refine Ol yz rfl (hcd.cell hca) ?_
    refine Og (ze yS yM rfl rfl 0 rfl (by decide)) rfl ?_
    refine Od yv rfl ?_
    refine Ol yt rfl (hcd.cell hka) ?_
    refine Oc zmn rfl rfl rfl (zdG t a.1 _) ?_
    rintro v106 w106 ⟨x106, rfl, h106, c106⟩
    refine zA (gn rfl) (zv zcO rfl (vs := [_]) rfl (css := [_]) ⟨rfl, trivial⟩ rfl rfl (cs := [_, _, _, _, _, _, _, _, _, _]) rfl rfl ?_)
    intro b107 w107 e107 n107 c107 k107
    refine zA (gn rfl) (yc zcO yn rfl rfl (zB.chg0 hus (c106.trans c107)) (zB.of_blk (n := 1) k107 rfl (by simp [maxLen]) h106.one) (by simp only [maxLen]; omega) (by omega) rfl ?_)
    intro v108 w108 i108 c108 o108 z108
    refine Oa rfl (E6 0 8 10 12 13 14 rfl (zd (Om rfl ?_)))
    refine Og (yJ (v' := Ii ((i + 1 : Nat) : Int)) (zR rfl rfl (by omega)) (by congr 1)) rfl ?_
    refine Oa rfl (N6 0 8 10 12 13 14 rfl (zk (zk ?_)))
    have hs1 := hcd.size
    have hs3 := c106.size
    have hs4 := c107.size
    rw [zhN hab] at hacc
    exact ⟨(A.length - (i + 1)) + (B.length - j), by omega, i + 1, j, rfl, by omega, hj, v108, _, rfl, zQ.push (hus.chg0 c106) (hls.chg0 c106) h106 c107 i108 c108, by rw [hdB, ← hacc, List.append_assoc]; rfl, by rw [List.length_append, List.length_singleton]; omega, zaN o108 hfu (by omega), ((hcd.trans c106).trans c107).own c108 hfu⟩
   | false =>
    refine W_draw (fun wz => zm [] wx wz) mix (yX (by kernel_rfl)) hd ?_
    refine Tm rfl (Tm rfl ?_)
    refine Tp (fun _ => z4 yE rfl) rfl ?_
    refine Tp (fun _ => vf (zw rfl rfl) (by simp; omega)) rfl ?_
    refine Tm rfl (Tq rfl rfl rfl (Tq rfl rfl rfl ?_))
    refine Tg rfl rfl (fun _ => z4 yE rfl) rfl ?_
    refine Tg rfl rfl (fun _ => vt (zE rfl rfl) (by simp; omega)) rfl ?_
    refine Tq rfl rfl rfl (Tq rfl rfl rfl (Tq rfl rfl rfl ?_))
    refine Tg rfl rfl (fun _ => ze yE zaz rfl rfl _ rfl hlA') rfl ?_
    refine Ts rfl rfl (fun wz hz => zb yz rfl ((hcx.trans hz).cell hca)) rfl ?_
    refine Tg rfl rfl (fun _ => ze yS yM rfl rfl 0 rfl (by decide)) rfl ?_
    refine Tg rfl rfl (fun _ => za yv rfl) rfl ?_
    refine Ts rfl rfl (fun wz hz => zb yt rfl ((hcx.trans hz).cell hka)) rfl ?_
    refine Tq rfl rfl rfl (Tq rfl rfl rfl ?_)
    refine Tg rfl rfl (fun _ => ze yE zaz rfl rfl _ rfl hlB') rfl ?_
    refine Ts rfl rfl (fun wz hz => zb yz rfl ((hcx.trans hz).cell hcb)) rfl ?_
    refine Tg rfl rfl (fun _ => ze yS yM rfl rfl 0 rfl (by decide)) rfl ?_
    refine Tg rfl rfl (fun _ => za yv rfl) rfl ?_
    refine Ts rfl rfl (fun wz hz => zb yt rfl ((hcx.trans hz).cell hkb)) rfl ?_
    refine Tg rfl rfl (fun _ => vf (zc9 rfl rfl) hab) rfl ?_
    refine Tg rfl rfl (fun _ => zy rfl rfl) rfl ?_
    refine Tp (fun _ => zz rfl rfl) rfl ?_
    refine Ta rfl ?_
    refine T_end [0, 8, 10, 12, 13, 14, 69] (F' := [(0, _), (8, _), (10, _), (12, _), (13, _), (14, _), (69, _)]) rfl ?_
    refine zf rfl ?_
    have hd2 : zm [] wx.drew wx.drew.drew := zm.drew [] _
    have hdd := hd.trans hd2
    have hcdd := hcx.trans hdd
    refine zh ?_
    cases hba : blt b.1 a.1 with
    | true =>
     refine W_draw (fun wz => zm [] wx.drew wz) mix (by kernel_rfl) hd2 ?_
     refine Tm rfl (Tm rfl ?_)
     refine Tp (fun _ => z4 yE rfl) rfl ?_
     refine Tp (fun _ => vf (zw rfl rfl) (by simp; omega)) rfl ?_
     refine Tm rfl (Tq rfl rfl rfl (Tq rfl rfl rfl ?_))
     refine Tg rfl rfl (fun _ => ze yE zaz rfl rfl _ rfl hlB') rfl ?_
     refine Ts rfl rfl (fun wz hz => zb yz rfl ((hcd.trans hz).cell hcb)) rfl ?_
     refine Tg rfl rfl (fun _ => ze yS yM rfl rfl 0 rfl (by decide)) rfl ?_
     refine Tg rfl rfl (fun _ => za yv rfl) rfl ?_
     refine Ts rfl rfl (fun wz hz => zb yt rfl ((hcd.trans hz).cell hkb)) rfl ?_
     refine Tq rfl rfl rfl (Tq rfl rfl rfl ?_)
     refine Tg rfl rfl (fun _ => ze yE zaz rfl rfl _ rfl hlA') rfl ?_
     refine Ts rfl rfl (fun wz hz => zb yz rfl ((hcd.trans hz).cell hca)) rfl ?_
     refine Tg rfl rfl (fun _ => ze yS yM rfl rfl 0 rfl (by decide)) rfl ?_
     refine Tg rfl rfl (fun _ => za yv rfl) rfl ?_
     refine Ts rfl rfl (fun wz hz => zb yt rfl ((hcd.trans hz).cell hka)) rfl ?_
     refine Tg rfl rfl (fun _ => vt (zc9 rfl rfl) hba) rfl ?_
     refine Tp (fun _ => zz rfl rfl) rfl ?_
     refine Ta rfl ?_
     refine T_end [0, 8, 10, 12, 13, 14, 111] (F' := [(0, _), (8, _), (10, _), (12, _), (13, _), (14, _), (111, _)]) rfl ?_
     refine zg rfl ?_
     obtain ⟨us, hus, hls⟩ := hu.chg0 hdd
     refine Sr (Om rfl (Om rfl (Om rfl (Om rfl ?_))))
     refine Og (ze yE zaz rfl rfl _ rfl hlB') rfl ?_
     refine Ol yz rfl (hcdd.cell hcb) ?_
     refine Oc zk7 rfl rfl rfl (zda t _ (yR b) _ (hvb.chg0 hcdd)) ?_
     rintro v139 w139 ⟨x139, rfl, h139, c139⟩
     refine zA (gn rfl) (zv zcO rfl (vs := [_]) rfl (css := [_]) ⟨rfl, trivial⟩ rfl rfl (cs := [_, _, _, _, _, _, _, _, _, _]) rfl rfl ?_)
     intro b140 w140 e140 n140 c140 k140
     refine zA (gn rfl) (yc zcO yn rfl rfl (zB.chg0 hus (c139.trans c140)) (zB.of_blk (n := 1) k140 rfl (by simp [maxLen]) h139.one) (by simp only [maxLen]; omega) (by omega) rfl ?_)
     intro v141 w141 i141 c141 o141 z141
     refine Oa rfl (E6 0 8 10 12 13 14 rfl (zd (Om rfl ?_)))
     refine Og (yJ (v' := Ii ((j + 1 : Nat) : Int)) (zR rfl rfl (by omega)) (by congr 1)) rfl ?_
     refine Oa rfl (N6 0 8 10 12 13 14 rfl (zk (zk ?_)))
     have hs1 := hcdd.size
     have hs3 := c139.size
     have hs4 := c140.size
     rw [zhJ hab hba] at hacc
     exact ⟨(A.length - i) + (B.length - (j + 1)), by omega, i, j + 1, rfl, hi, by omega, v141, _, rfl, zQ.push (hus.chg0 c139) (hls.chg0 c139) h139 c140 i141 c141, by rw [hdA, ← hacc, List.append_assoc]; rfl, by rw [List.length_append, List.length_singleton]; omega, zaN o141 hfu (by omega), ((hcdd.trans c139).trans c140).own c141 hfu⟩
    | false =>
     refine W_draw (fun wz => zm [] wx.drew wz) mix (by kernel_rfl) hd2 ?_
     refine Tm rfl (Tm rfl ?_)
     refine Tp (fun _ => z4 yE rfl) rfl ?_
     refine Tp (fun _ => vf (zw rfl rfl) (by simp; omega)) rfl ?_
     refine Tm rfl (Tq rfl rfl rfl (Tq rfl rfl rfl ?_))
     refine Tg rfl rfl (fun _ => ze yE zaz rfl rfl _ rfl hlB') rfl ?_
     refine Ts rfl rfl (fun wz hz => zb yz rfl ((hcd.trans hz).cell hcb)) rfl ?_
     refine Tg rfl rfl (fun _ => ze yS yM rfl rfl 0 rfl (by decide)) rfl ?_
     refine Tg rfl rfl (fun _ => za yv rfl) rfl ?_
     refine Ts rfl rfl (fun wz hz => zb yt rfl ((hcd.trans hz).cell hkb)) rfl ?_
     refine Tq rfl rfl rfl (Tq rfl rfl rfl ?_)
     refine Tg rfl rfl (fun _ => ze yE zaz rfl rfl _ rfl hlA') rfl ?_
     refine Ts rfl rfl (fun wz hz => zb yz rfl ((hcd.trans hz).cell hca)) rfl ?_
     refine Tg rfl rfl (fun _ => ze yS yM rfl rfl 0 rfl (by decide)) rfl ?_
     refine Tg rfl rfl (fun _ => za yv rfl) rfl ?_
     refine Ts rfl rfl (fun wz hz => zb yt rfl ((hcd.trans hz).cell hka)) rfl ?_
     refine Tg rfl rfl (fun _ => vf (zc9 rfl rfl) hba) rfl ?_
     refine Tp (fun _ => zz rfl rfl) rfl ?_
     refine Ta rfl ?_
     refine T_end [0, 8, 10, 12, 13, 14, 111] (F' := [(0, _), (8, _), (10, _), (12, _), (13, _), (14, _), (111, _)]) rfl ?_
     refine zf rfl ?_
     have hek : a.1 = b.1 := zcd hab hba
     have hrk : decide (yR a = yR b) = decide (a.2 = b.2) := by
      apply decide_eq_decide.2
      constructor
      ·intro h; exact (zfA h).2
      intro h; unfold yR; rw [hek, h]
     have hd3 : zm [] wx.drew.drew wx.drew.drew.drew := zm.drew [] _
     have hc3 := hcdd.trans hd3
     refine zh (zh ?_)
     refine W_draw (fun wz => zm [] wx.drew.drew wz) mix (by kernel_rfl) hd3 ?_
     refine Tm rfl (Tm rfl ?_)
     refine Tp (fun _ => ze yE zaz rfl rfl _ rfl hlA') rfl ?_
     refine Tr (fun wz hz => zb yz rfl ((hcdd.trans hz).cell hca)) rfl ?_
     refine Tm rfl (Tm rfl ?_)
     refine Tp (fun _ => ze yE zaz rfl rfl _ rfl hlB') rfl ?_
     refine Tr (fun wz hz => zb yz rfl ((hcdd.trans hz).cell hcb)) rfl ?_
     refine Tc zed rfl rfl rfl (zde _ _ (yR a) (yR b) _ (zW.arr (hva.chg0 hc3)) (zW.arr (hvb.chg0 hc3)) (by simp [yR, yU])) ?_
     rintro v54 w54 ⟨rfl, c54⟩
     refine ⟨.inr (by kernel_rfl), ?_⟩
     refine Tp (fun _ => zL rfl) rfl ?_
     refine T_end [0, 8, 10, 12, 13, 14, 55] (F' := [(0, _), (8, _), (10, _), (12, _), (13, _), (14, _), (55, _)]) rfl ?_
     rw [hrk]
     have hc4 := hc3.trans c54
     have hd4 := (hdd.trans hd3).trans c54
     by_cases he : a.2 = b.2
     ·rw [decide_eq_true he]
      refine zf rfl (zq (Sr (Om rfl ?_)))
      refine Og (yJ (v' := Ii ((i + 1 : Nat) : Int)) (zR rfl rfl (by omega)) (by congr 1)) rfl ?_
      refine Oa rfl (E6 0 8 10 12 13 14 rfl (zd (Om rfl ?_)))
      refine Og (yJ (v' := Ii ((j + 1 : Nat) : Int)) (zR rfl rfl (by omega)) (by congr 1)) rfl ?_
      refine Oa rfl (N6 0 8 10 12 13 14 rfl (zk (zk ?_)))
      rw [zfE hab hba he] at hacc
      exact ⟨(A.length - (i + 1)) + (B.length - (j + 1)), by omega, i + 1, j + 1, rfl, by omega, by omega, y, acc, rfl, hu.chg0 hd4, hacc, by omega, hfu, hc4⟩
     rw [decide_eq_false he]
     refine zg rfl ?_
     obtain ⟨us, hus, hls⟩ := hu.chg0 hd4
     refine zd (Om rfl (Om rfl (Om rfl (Om rfl ?_))))
     refine Og (ze yE zaz rfl rfl _ rfl hlB') rfl ?_
     refine Ol yz rfl (hc4.cell hcb) ?_
     refine Oc zk7 rfl rfl rfl (zda t _ (yR b) _ (hvb.chg0 hc4)) ?_
     rintro v62 w62 ⟨x62, rfl, h62, c62⟩
     refine zA (gn rfl) (zv zcO rfl (vs := [_]) rfl (css := [_]) ⟨rfl, trivial⟩ rfl rfl (cs := [_, _, _, _, _, _, _, _, _, _]) rfl rfl ?_)
     intro b63 w63 e63 n63 c63 k63
     refine zA (gn rfl) (yc zcO yn rfl rfl (zB.chg0 hus (c62.trans c63)) (zB.of_blk (n := 1) k63 rfl (by simp [maxLen]) h62.one) (by simp only [maxLen]; omega) (by omega) rfl ?_)
     intro v64 w64 i64 c64 o64 z64
     refine Oa rfl (E6 0 8 10 12 13 14 rfl (Sr (Om rfl ?_)))
     refine Og (yJ (v' := Ii ((i + 1 : Nat) : Int)) (zR rfl rfl (by omega)) (by congr 1)) rfl ?_
     refine Oa rfl (E6 0 8 10 12 13 14 rfl (zd (Om rfl ?_)))
     refine Og (yJ (v' := Ii ((j + 1 : Nat) : Int)) (zR rfl rfl (by omega)) (by congr 1)) rfl ?_
     refine Oa rfl (N6 0 8 10 12 13 14 rfl (zk (zk ?_)))
     have hs1 := hc4.size
     have hs3 := c62.size
     have hs4 := c63.size
     rw [zeZ hab hba he] at hacc
     exact ⟨(A.length - (i + 1)) + (B.length - (j + 1)), by omega, i + 1, j + 1, rfl, by omega, by omega, v64, _, rfl, zQ.push (hus.chg0 c62) (hls.chg0 c62) h62 c63 i64 c64, by rw [← hacc, List.append_assoc]; rfl, by rw [List.length_append, List.length_singleton]; omega, zaN o64 hfu (by omega), ((hc4.trans c62).trans c63).own c64 hfu⟩
  have hjB : j = B.length := by omega
  rw [show B.drop j = [] from List.drop_eq_nil_of_le (by omega)] at hacc
  refine W_draw (fun wz => zm [] wx wz) mix (yX (by kernel_rfl)) hd ?_
  refine Tm rfl (Tm rfl ?_)
  refine Tp (fun _ => z4 yE rfl) rfl ?_
  refine Tp (fun _ => vt (zw rfl rfl) (by simp; omega)) rfl ?_
  refine Tm rfl (Tz rfl rfl (Tz rfl rfl (Tz rfl rfl (Tz rfl rfl (Tz rfl rfl ?_)))))
  refine y8 rfl rfl rfl rfl rfl ?_
  refine y8 rfl rfl rfl rfl rfl ?_
  refine y8 rfl rfl rfl rfl rfl ?_
  refine y8 rfl rfl rfl rfl rfl ?_
  refine y8 rfl rfl rfl rfl rfl ?_
  refine y8 rfl rfl rfl rfl rfl ?_
  refine y8 rfl rfl rfl rfl rfl ?_
  refine y8 rfl rfl rfl rfl rfl ?_
  refine y8 rfl rfl rfl rfl rfl ?_
  refine y8 rfl rfl rfl rfl rfl ?_
  refine y8 rfl rfl rfl rfl rfl ?_
  refine y8 rfl rfl rfl rfl rfl ?_
  refine y8 rfl rfl rfl rfl rfl ?_
  refine y8 rfl rfl rfl rfl rfl ?_
  refine y8 rfl rfl rfl rfl rfl ?_
  refine Tz rfl rfl ?_
  refine Tp (fun _ => zy rfl rfl) rfl ?_
  refine Ta rfl ?_
  refine T_end [0, 8, 10, 12, 13, 14, 69] (F' := [(0, _), (8, _), (10, _), (12, _), (13, _), (14, _), (69, _)]) rfl ?_
  refine zg rfl ?_
  obtain ⟨us, hus, hls⟩ := hu.chg0 hd
  refine Sr (Om rfl (Om rfl (Om rfl (Om rfl ?_))))
  refine Og (ze yE zaz rfl rfl _ rfl hlA') rfl ?_
  refine Ol yz rfl (hcd.cell hca) ?_
  refine Og (ze yS yM rfl rfl 0 rfl (by decide)) rfl ?_
  refine Od yv rfl ?_
  refine Ol yt rfl (hcd.cell hka) ?_
  refine Oc zmn rfl rfl rfl (zdG t a.1 _) ?_
  rintro v106 w106 ⟨x106, rfl, h106, c106⟩
  refine zA (gn rfl) (zv zcO rfl (vs := [_]) rfl (css := [_]) ⟨rfl, trivial⟩ rfl rfl (cs := [_, _, _, _, _, _, _, _, _, _]) rfl rfl ?_)
  intro b107 w107 e107 n107 c107 k107
  refine zA (gn rfl) (yc zcO yn rfl rfl (zB.chg0 hus (c106.trans c107)) (zB.of_blk (n := 1) k107 rfl (by simp [maxLen]) h106.one) (by simp only [maxLen]; omega) (by omega) rfl ?_)
  intro v108 w108 i108 c108 o108 z108
  refine Oa rfl (E6 0 8 10 12 13 14 rfl (zd (Om rfl ?_)))
  refine Og (yJ (v' := Ii ((i + 1 : Nat) : Int)) (zR rfl rfl (by omega)) (by congr 1)) rfl ?_
  refine Oa rfl (N6 0 8 10 12 13 14 rfl (zk (zk ?_)))
  have hs1 := hcd.size
  have hs3 := c106.size
  have hs4 := c107.size
  rw [zeF] at hacc
  exact ⟨(A.length - (i + 1)) + (B.length - j), by omega, i + 1, j, rfl, by omega, hj, v108, _, rfl, zQ.push (hus.chg0 c106) (hls.chg0 c106) h106 c107 i108 c108, by rw [show B.drop j = [] from List.drop_eq_nil_of_le (by omega), ← hacc, List.append_assoc]; rfl, by rw [List.length_append, List.length_singleton]; omega, zaN o108 hfu (by omega), ((hcd.trans c106).trans c107).own c108 hfu⟩
 by_cases hlB' : j < B.length
 ·refine zd (Om rfl (Om rfl (On yE rfl ?_)))
  refine Og (vf (zE rfl rfl) (by simp; omega)) rfl ?_
  refine Om rfl (Oj rfl rfl (Oj rfl rfl ?_))
  refine Oy rfl rfl (z4 yE rfl) ?_
  refine Oy rfl rfl (vt (zE rfl rfl) (by simp; omega)) ?_
  refine Of rfl (E7 0 8 10 12 13 14 45 rfl (zg rfl (zq (zn (zn (zh ?_))))))
  have hx' : B[j]? = some B[j] := by simp [hlB']
  have hdB := List.drop_eq_getElem_cons hlB'
  generalize B[j] = b at hx' hdB
  obtain ⟨bo', oo', bb, ob, cb, hve, hcb, hvb, hkb⟩ := rowAt hrB hx'
  cases hve
  rw [hdB] at hacc
  rw [show A.drop i = [] from List.drop_eq_nil_of_le (by omega)] at hacc
  refine W_draw (fun wz => zm [] wx wz) mix (yX (by kernel_rfl)) hd ?_
  refine Tm rfl (Tm rfl ?_)
  refine Tp (fun _ => z4 yE rfl) rfl ?_
  refine Tp (fun _ => vf (zw rfl rfl) (by simp; omega)) rfl ?_
  refine Tm rfl (Tq rfl rfl rfl (Tq rfl rfl rfl ?_))
  refine Tg rfl rfl (fun _ => z4 yE rfl) rfl ?_
  refine Tg rfl rfl (fun _ => vf (zE rfl rfl) (by simp; omega)) rfl ?_
  refine Tq rfl rfl rfl (Tz rfl rfl (Tz rfl rfl (Tz rfl rfl (Tz rfl rfl (Tz rfl rfl (Tz rfl rfl (Tz rfl rfl (Tz rfl rfl (Tz rfl rfl (Tz rfl rfl (Tz rfl rfl (Tz rfl rfl (Tz rfl rfl ?_)))))))))))))
  refine Tz rfl rfl (Tz rfl rfl ?_)
  refine Tg rfl rfl (fun _ => zz rfl rfl) rfl ?_
  refine Tp (fun _ => zz rfl rfl) rfl ?_
  refine Ta rfl ?_
  refine T_end [0, 8, 10, 12, 13, 14, 69] (F' := [(0, _), (8, _), (10, _), (12, _), (13, _), (14, _), (69, _)]) rfl ?_
  refine zf rfl ?_
  have hd2 : zm [] wx.drew wx.drew.drew := zm.drew [] _
  have hdd := hd.trans hd2
  have hcdd := hcx.trans hdd
  refine zh ?_
  refine W_draw (fun wz => zm [] wx.drew wz) mix (by kernel_rfl) hd2 ?_
  refine Tm rfl (Tm rfl ?_)
  refine Tp (fun _ => z4 yE rfl) rfl ?_
  refine Tp (fun _ => vt (zw rfl rfl) (by simp; omega)) rfl ?_
  refine Tm rfl (Tz rfl rfl (Tz rfl rfl (Tz rfl rfl (Tz rfl rfl (Tz rfl rfl (Tz rfl rfl (Tz rfl rfl (Tz rfl rfl (Tz rfl rfl (Tz rfl rfl (Tz rfl rfl (Tz rfl rfl (Tz rfl rfl ?_)))))))))))))
  refine Tz rfl rfl (Tz rfl rfl ?_)
  refine Tp (fun _ => zy rfl rfl) rfl ?_
  refine Ta rfl ?_
  refine T_end [0, 8, 10, 12, 13, 14, 111] (F' := [(0, _), (8, _), (10, _), (12, _), (13, _), (14, _), (111, _)]) rfl ?_
  refine zg rfl ?_
  obtain ⟨us, hus, hls⟩ := hu.chg0 hdd
  refine Sr (Om rfl (Om rfl (Om rfl (Om rfl ?_))))
  refine Og (ze yE zaz rfl rfl _ rfl hlB') rfl ?_
  refine Ol yz rfl (hcdd.cell hcb) ?_
  refine Oc zk7 rfl rfl rfl (zda t _ (yR b) _ (hvb.chg0 hcdd)) ?_
  rintro v139 w139 ⟨x139, rfl, h139, c139⟩
  refine zA (gn rfl) (zv zcO rfl (vs := [_]) rfl (css := [_]) ⟨rfl, trivial⟩ rfl rfl (cs := [_, _, _, _, _, _, _, _, _, _]) rfl rfl ?_)
  intro b140 w140 e140 n140 c140 k140
  refine zA (gn rfl) (yc zcO yn rfl rfl (zB.chg0 hus (c139.trans c140)) (zB.of_blk (n := 1) k140 rfl (by simp [maxLen]) h139.one) (by simp only [maxLen]; omega) (by omega) rfl ?_)
  intro v141 w141 i141 c141 o141 z141
  refine Oa rfl (E6 0 8 10 12 13 14 rfl (zd (Om rfl ?_)))
  refine Og (yJ (v' := Ii ((j + 1 : Nat) : Int)) (zR rfl rfl (by omega)) (by congr 1)) rfl ?_
  refine Oa rfl (N6 0 8 10 12 13 14 rfl (zk (zk ?_)))
  have hs1 := hcdd.size
  have hs3 := c139.size
  have hs4 := c140.size
  rw [zfX] at hacc
  exact ⟨(A.length - i) + (B.length - (j + 1)), by omega, i, j + 1, rfl, hi, by omega, v141, _, rfl, zQ.push (hus.chg0 c139) (hls.chg0 c139) h139 c140 i141 c141, by rw [show A.drop i = [] from List.drop_eq_nil_of_le (by omega), ← hacc, List.append_assoc]; rfl, by rw [List.length_append, List.length_singleton]; omega, zaN o141 hfu (by omega), ((hcdd.trans c139).trans c140).own c141 hfu⟩
 refine zd (Om rfl (Om rfl (On yE rfl ?_)))
 refine Og (vf (zE rfl rfl) (by simp; omega)) rfl ?_
 refine Om rfl (Oj rfl rfl (Oj rfl rfl ?_))
 refine Oy rfl rfl (z4 yE rfl) ?_
 refine Oy rfl rfl (vf (zE rfl rfl) (by simp; omega)) ?_
 refine Of rfl (E7 0 8 10 12 13 14 45 rfl (zf rfl ?_))
 refine zP ?_
 repeat first | refine te ?_ | refine bo rfl ?_
 refine zp _ ?_
 rw [show A.drop i = [] from List.drop_eq_nil_of_le (by omega), show B.drop j = [] from List.drop_eq_nil_of_le (by omega), show zK t [] [] = [] by rw [zK], List.append_nil] at hacc
 subst hacc
 refine Sr (Om rfl (Oa rfl (Oa rfl (E2 6 7 rfl (zj ?_)))))
 refine zbF rfl rfl rfl ?_
 exact ⟨⟨y, rfl, hu⟩, hcw.trans hcx⟩
set_option maxRecDepth 20000
theorem zas.length {w : World} : ∀ {xs : List StV} {ss : List StT}, zas w xs ss → xs.length = ss.length
 | [], [], _ => rfl
 | _ :: _, _ :: _, h => by simp [zas.length h.2]
theorem zix (x : StV) : x.cs.length = 10 := rfl
theorem zQ.at {w : World} {v : Value} {ss : List StT} (h : zQ w v ss) {i : Nat} {s : StT} (hi : ss[i]? = some s) : ∃ b off cap kv rv, v = .slice (some ⟨b, off, none⟩) ss.length cap ∧ zu w b (off + i * 10) (StV.mk s.k s.t kv rv).cs ∧ zU w kv s.key ∧ zU w rv s.row := by
 obtain ⟨xs, h1, h2⟩ := h
 obtain ⟨⟨xk, xt, xkv, xrv⟩, hx, hs⟩ := h2.at hi
 obtain ⟨hk, ht, h3, h4⟩ := hs
 simp only at hk ht h3 h4
 subst hk ht
 rw [← h2.length] at h1
 obtain ⟨b, off, cap, hv, hc⟩ := yq.at zix (zB.arr h1) hx
 rw [h2.length] at hv
 exact ⟨b, off, cap, xkv, xrv, hv, hc, h3, h4⟩
def zdN (s : StT) : Prop := s.key.length ≤ 1048576 ∧ s.row.length ≤ 1048576
theorem zj7 (u v : Value) (ss tt : List StT) (w : World) (hu : zQ w u ss) (hv : zQ w v tt) (hs : ∀ s ∈ ss, zdN s) : zO TP 9 #[u, v] w fun r w' => r = .bool (decide (ss = tt)) ∧ zm [] w w' := by
 obtain ⟨pu, cu, rfl, hcu⟩ := hu.val
 obtain ⟨pv, cv, rfl, hcv⟩ := hv.val
 have hmu : ss.length ≤ maxLen := by obtain ⟨xs, h, _⟩ := hu; exact Rd.max (zB.toRd h)
 refine A2 Tryz.func9 rfl rfl ?_
 refine Sr (Oa rfl (E2 0 1 rfl (zh (zh ?_))))
 simp only [maxLen] at hmu
 by_cases he : ss.length = tt.length
 case neg =>
  refine zd (Om rfl (On yn rfl (Om rfl (On yn rfl ?_))))
  refine Og (vt (zG rfl rfl) (by simp; omega)) rfl ?_
  refine E3 0 1 10 rfl (zg rfl (Sr (Oa rfl (E1 4 rfl (zj ?_)))))
  repeat first | refine tr ?_ | refine br ?_
  refine zx rfl rfl ?_
  have : ss ≠ tt := fun h => he (by rw [h])
  exact ⟨by rw [decide_eq_false this], zm.refl _ _⟩
 refine zd (Om rfl (On yn rfl (Om rfl (On yn rfl ?_))))
 refine Og (vf (zG rfl rfl) (by simp; omega)) rfl ?_
 refine E3 0 1 10 rfl (zf rfl (zq (zh (Sr (Oa rfl (E3 0 1 5 rfl (zn ?_)))))))
 refine ye [0, 1, 5] (fun n F wx => ∃ j : Nat, n = ss.length - j ∧ j ≤ ss.length ∧ F = [(0, .slice pu ss.length cu), (1, .slice pv tt.length cv), (5, Ii j)] ∧ ss.take j = tt.take j ∧ zm [] w wx) (m := ss.length - 0) ⟨0, rfl, Nat.zero_le _, rfl, by simp, zm.refl _ _⟩ ?_
 rintro n F wx ⟨j, rfl, hj, rfl, heq, hcx⟩
 refine zh (zh ?_)
 by_cases hlt : j < ss.length
 ·refine zd (Om rfl (Om rfl (On yn rfl ?_)))
  refine Og (vt (zE rfl rfl) (by simp; omega)) rfl ?_
  refine E4 0 1 5 14 rfl (zg rfl (zq ?_))
  have hlt2 : j < tt.length := by omega
  have hx : ss[j]? = some ss[j] := by simp [hlt]
  have hy : tt[j]? = some tt[j] := by simp [hlt2]
  have hsm := hs _ (List.getElem_mem hlt)
  generalize ss[j] = x at hx hsm
  generalize tt[j] = y at hy
  obtain ⟨b, off, cap, kx, rx, hve, hc1, hk1, hr1⟩ := hu.at hx
  cases hve
  obtain ⟨b', off', cap', ky, ry, hve, hc2, hk2, hr2⟩ := hv.at hy
  cases hve
  have hd : zm [] wx wx.drew := zm.drew [] _
  have hcd := hcx.trans hd
  refine zh (zn (zh ?_))
  have hno : x ≠ y → ss ≠ tt := by
   rintro hne rfl
   rw [hx] at hy
   exact hne (Option.some.inj hy)
  by_cases h1 : x.k = y.k
  case neg =>
   refine W_draw (fun wz => zm [] wx wz) mix (yX (by kernel_rfl)) hd ?_
   refine Tm rfl (Tm rfl ?_)
   refine Tp (fun _ => ze yn yf rfl rfl _ rfl hlt) rfl ?_
   refine Td yA rfl ?_
   refine Tr (fun wz hz => zb zba rfl ((hcx.trans hz).cell (hc1 0 _ rfl))) rfl ?_
   refine Tm rfl (Tm rfl ?_)
   refine Tp (fun _ => ze yn yf rfl rfl _ rfl hlt2) rfl ?_
   refine Td yA rfl ?_
   refine Tr (fun wz hz => zb zba rfl ((hcx.trans hz).cell (hc2 0 _ rfl))) rfl ?_
   refine Tp (fun _ => vt (zG rfl rfl) (by simpa using h1)) rfl ?_
   refine Tm rfl (Tz rfl rfl (Tz rfl rfl (Tz rfl rfl (Tz rfl rfl (Tz rfl rfl (Tz rfl rfl (Tz rfl rfl (Tz rfl rfl (Tz rfl rfl (Tz rfl rfl (Tz rfl rfl ?_)))))))))))
   refine Tp (fun _ => zy rfl rfl) rfl ?_
   refine Tm rfl (Tz rfl rfl (Tz rfl rfl (Tz rfl rfl (Tz rfl rfl (Tz rfl rfl (Tz rfl rfl (Tz rfl rfl (Tz rfl rfl (Tz rfl rfl (Tz rfl rfl (Tz rfl rfl (Tz rfl rfl ?_))))))))))))
   refine Tp (fun _ => zy rfl rfl) rfl ?_
   refine Tm rfl (Tz rfl rfl (Tz rfl rfl (Tz rfl rfl (Tz rfl rfl (Tz rfl rfl (Tz rfl rfl (Tz rfl rfl (Tz rfl rfl (Tz rfl rfl (Tz rfl rfl (Tz rfl rfl (Tz rfl rfl ?_))))))))))))
   refine Tp (fun _ => zy rfl rfl) rfl ?_
   refine Tm rfl (Tz rfl rfl (Tz rfl rfl (Tz rfl rfl (Tz rfl rfl (Tz rfl rfl (Tz rfl rfl (Tz rfl rfl (Tz rfl rfl (Tz rfl rfl (Tz rfl rfl (Tz rfl rfl (Tz rfl rfl (Tz rfl rfl ?_)))))))))))))
   refine Tz rfl rfl (Tz rfl rfl (Tz rfl rfl (Tz rfl rfl (Tz rfl rfl (Tz rfl rfl (Tz rfl rfl (Tz rfl rfl (Tz rfl rfl (Tz rfl rfl (Tz rfl rfl (Tz rfl rfl (Tz rfl rfl (Tz rfl rfl ?_)))))))))))))
   refine Tz rfl rfl ?_
   refine Tp (fun _ => zy rfl rfl) rfl ?_
   refine D4 0 1 5 98 rfl (zg rfl (Sr (Oa rfl (E1 4 rfl (zj ?_)))))
   repeat first | refine tr ?_ | refine br ?_
   refine zx rfl rfl ?_
   exact ⟨by rw [decide_eq_false (hno (fun e => h1 (by rw [e])))], hcd⟩
  by_cases h2 : x.t = y.t
  case neg =>
   refine W_draw (fun wz => zm [] wx wz) mix (yX (by kernel_rfl)) hd ?_
   refine Tm rfl (Tm rfl ?_)
   refine Tp (fun _ => ze yn yf rfl rfl _ rfl hlt) rfl ?_
   refine Td yA rfl ?_
   refine Tr (fun wz hz => zb zba rfl ((hcx.trans hz).cell (hc1 0 _ rfl))) rfl ?_
   refine Tm rfl (Tm rfl ?_)
   refine Tp (fun _ => ze yn yf rfl rfl _ rfl hlt2) rfl ?_
   refine Td yA rfl ?_
   refine Tr (fun wz hz => zb zba rfl ((hcx.trans hz).cell (hc2 0 _ rfl))) rfl ?_
   refine Tp (fun _ => vf (zG rfl rfl) (by simpa using h1)) rfl ?_
   refine Tm rfl (Tq rfl rfl rfl (Tq rfl rfl rfl ?_))
   refine Tg rfl rfl (fun _ => ze yn yf rfl rfl _ rfl hlt) rfl ?_
   refine Tg rfl rfl (fun _ => za zaQ rfl) rfl ?_
   refine Ts rfl rfl (fun wz hz => zb yt rfl ((hcx.trans hz).cell (hc1 1 _ rfl))) rfl ?_
   refine Tq rfl rfl rfl (Tq rfl rfl rfl ?_)
   refine Tg rfl rfl (fun _ => ze yn yf rfl rfl _ rfl hlt2) rfl ?_
   refine Tg rfl rfl (fun _ => za zaQ rfl) rfl ?_
   refine Ts rfl rfl (fun wz hz => zb yt rfl ((hcx.trans hz).cell (hc2 1 _ rfl))) rfl ?_
   refine Tg rfl rfl (fun _ => vt (zai rfl rfl) (by simpa using h2)) rfl ?_
   refine Tp (fun _ => zz rfl rfl) rfl ?_
   refine Tm rfl (Tz rfl rfl (Tz rfl rfl (Tz rfl rfl (Tz rfl rfl (Tz rfl rfl (Tz rfl rfl (Tz rfl rfl (Tz rfl rfl (Tz rfl rfl (Tz rfl rfl (Tz rfl rfl (Tz rfl rfl ?_))))))))))))
   refine Tp (fun _ => zy rfl rfl) rfl ?_
   refine Tm rfl (Tz rfl rfl (Tz rfl rfl (Tz rfl rfl (Tz rfl rfl (Tz rfl rfl (Tz rfl rfl (Tz rfl rfl (Tz rfl rfl (Tz rfl rfl (Tz rfl rfl (Tz rfl rfl (Tz rfl rfl ?_))))))))))))
   refine Tp (fun _ => zy rfl rfl) rfl ?_
   refine Tm rfl (Tz rfl rfl (Tz rfl rfl (Tz rfl rfl (Tz rfl rfl (Tz rfl rfl (Tz rfl rfl (Tz rfl rfl (Tz rfl rfl (Tz rfl rfl (Tz rfl rfl (Tz rfl rfl (Tz rfl rfl (Tz rfl rfl ?_)))))))))))))
   refine Tz rfl rfl (Tz rfl rfl (Tz rfl rfl (Tz rfl rfl (Tz rfl rfl (Tz rfl rfl (Tz rfl rfl (Tz rfl rfl (Tz rfl rfl (Tz rfl rfl (Tz rfl rfl (Tz rfl rfl (Tz rfl rfl (Tz rfl rfl ?_)))))))))))))
   refine Tz rfl rfl ?_
   refine Tp (fun _ => zy rfl rfl) rfl ?_
   refine D4 0 1 5 98 rfl (zg rfl (Sr (Oa rfl (E1 4 rfl (zj ?_)))))
   repeat first | refine tr ?_ | refine br ?_
   refine zx rfl rfl ?_
   exact ⟨by rw [decide_eq_false (hno (fun e => h2 (by rw [e])))], hcd⟩
  by_cases h3 : x.key = y.key
  case neg =>
   have hks : ∀ w, y5 w kx x.key → y5 w ky y.key → zO TP 13 #[kx, ky] w fun r w' => r = .bool false ∧ zm [] w w' := fun w h h' => zO.mono (zde _ _ _ _ w h h' hsm.1) fun r w' q => ⟨by rw [q.1, decide_eq_false h3], q.2⟩
   refine W_draw (fun wz => zm [] wx wz) mix (yX (by kernel_rfl)) hd ?_
   refine Tm rfl (Tm rfl ?_)
   refine Tp (fun _ => ze yn yf rfl rfl _ rfl hlt) rfl ?_
   refine Td yA rfl ?_
   refine Tr (fun wz hz => zb zba rfl ((hcx.trans hz).cell (hc1 0 _ rfl))) rfl ?_
   refine Tm rfl (Tm rfl ?_)
   refine Tp (fun _ => ze yn yf rfl rfl _ rfl hlt2) rfl ?_
   refine Td yA rfl ?_
   refine Tr (fun wz hz => zb zba rfl ((hcx.trans hz).cell (hc2 0 _ rfl))) rfl ?_
   refine Tp (fun _ => vf (zG rfl rfl) (by simpa using h1)) rfl ?_
   refine Tm rfl (Tq rfl rfl rfl (Tq rfl rfl rfl ?_))
   refine Tg rfl rfl (fun _ => ze yn yf rfl rfl _ rfl hlt) rfl ?_
   refine Tg rfl rfl (fun _ => za zaQ rfl) rfl ?_
   refine Ts rfl rfl (fun wz hz => zb yt rfl ((hcx.trans hz).cell (hc1 1 _ rfl))) rfl ?_
   refine Tq rfl rfl rfl (Tq rfl rfl rfl ?_)
   refine Tg rfl rfl (fun _ => ze yn yf rfl rfl _ rfl hlt2) rfl ?_
   refine Tg rfl rfl (fun _ => za zaQ rfl) rfl ?_
   refine Ts rfl rfl (fun wz hz => zb yt rfl ((hcx.trans hz).cell (hc2 1 _ rfl))) rfl ?_
   refine Tg rfl rfl (fun _ => vf (zai rfl rfl) (by simpa using h2)) rfl ?_
   refine Tp (fun _ => zz rfl rfl) rfl ?_
   refine Tm rfl (Tq rfl rfl rfl (Tq rfl rfl rfl ?_))
   refine Tg rfl rfl (fun _ => ze yn yf rfl rfl _ rfl hlt) rfl ?_
   refine Tg rfl rfl (fun _ => za zbk rfl) rfl ?_
   refine Ts rfl rfl (fun wz hz => zb yz rfl ((hcx.trans hz).cell (hc1 2 _ rfl))) rfl ?_
   refine Tq rfl rfl rfl (Tq rfl rfl rfl ?_)
   refine Tg rfl rfl (fun _ => ze yn yf rfl rfl _ rfl hlt2) rfl ?_
   refine Tg rfl rfl (fun _ => za zbk rfl) rfl ?_
   refine Ts rfl rfl (fun wz hz => zb yz rfl ((hcx.trans hz).cell (hc2 2 _ rfl))) rfl ?_
   refine Tv rfl rfl zed rfl rfl rfl (hks _ (zW.arr (hk1.chg0 hcd)) (zW.arr (hk2.chg0 hcd))) ?_
   rintro v52 w52 ⟨rfl, c52⟩
   refine ⟨.inl (hd.trans c52), ?_⟩
   refine Tg rfl rfl (fun _ => zL rfl) rfl ?_
   refine Tp (fun _ => zz rfl rfl) rfl ?_
   refine Tm rfl (Tz rfl rfl (Tz rfl rfl (Tz rfl rfl (Tz rfl rfl (Tz rfl rfl (Tz rfl rfl (Tz rfl rfl (Tz rfl rfl (Tz rfl rfl (Tz rfl rfl (Tz rfl rfl (Tz rfl rfl ?_))))))))))))
   refine Tp (fun _ => zy rfl rfl) rfl ?_
   refine Tm rfl (Tz rfl rfl (Tz rfl rfl (Tz rfl rfl (Tz rfl rfl (Tz rfl rfl (Tz rfl rfl (Tz rfl rfl (Tz rfl rfl (Tz rfl rfl (Tz rfl rfl (Tz rfl rfl (Tz rfl rfl (Tz rfl rfl ?_)))))))))))))
   refine Tz rfl rfl (Tz rfl rfl (Tz rfl rfl (Tz rfl rfl (Tz rfl rfl (Tz rfl rfl (Tz rfl rfl (Tz rfl rfl (Tz rfl rfl (Tz rfl rfl (Tz rfl rfl (Tz rfl rfl (Tz rfl rfl (Tz rfl rfl ?_)))))))))))))
   refine Tz rfl rfl ?_
   refine Tp (fun _ => zy rfl rfl) rfl ?_
   refine D4 0 1 5 98 rfl (zg rfl (Sr (Oa rfl (E1 4 rfl (zj ?_)))))
   repeat first | refine tr ?_ | refine br ?_
   refine zx rfl rfl ?_
   exact ⟨by rw [decide_eq_false (hno (fun e => h3 (by rw [e])))], (hcd.trans c52)⟩
  have hks : ∀ w, y5 w kx x.key → y5 w ky y.key → zO TP 13 #[kx, ky] w fun r w' => r = .bool true ∧ zm [] w w' := fun w h h' => zO.mono (zde _ _ _ _ w h h' hsm.1) fun r w' q => ⟨by rw [q.1, decide_eq_true h3], q.2⟩
  by_cases h4 : x.row = y.row
  case neg =>
   have hrs : ∀ w, y5 w rx x.row → y5 w ry y.row → zO TP 13 #[rx, ry] w fun r w' => r = .bool false ∧ zm [] w w' := fun w h h' => zO.mono (zde _ _ _ _ w h h' hsm.2) fun r w' q => ⟨by rw [q.1, decide_eq_false h4], q.2⟩
   refine W_draw (fun wz => zm [] wx wz) mix (yX (by kernel_rfl)) hd ?_
   refine Tm rfl (Tm rfl ?_)
   refine Tp (fun _ => ze yn yf rfl rfl _ rfl hlt) rfl ?_
   refine Td yA rfl ?_
   refine Tr (fun wz hz => zb zba rfl ((hcx.trans hz).cell (hc1 0 _ rfl))) rfl ?_
   refine Tm rfl (Tm rfl ?_)
   refine Tp (fun _ => ze yn yf rfl rfl _ rfl hlt2) rfl ?_
   refine Td yA rfl ?_
   refine Tr (fun wz hz => zb zba rfl ((hcx.trans hz).cell (hc2 0 _ rfl))) rfl ?_
   refine Tp (fun _ => vf (zG rfl rfl) (by simpa using h1)) rfl ?_
   refine Tm rfl (Tq rfl rfl rfl (Tq rfl rfl rfl ?_))
   refine Tg rfl rfl (fun _ => ze yn yf rfl rfl _ rfl hlt) rfl ?_
   refine Tg rfl rfl (fun _ => za zaQ rfl) rfl ?_
   refine Ts rfl rfl (fun wz hz => zb yt rfl ((hcx.trans hz).cell (hc1 1 _ rfl))) rfl ?_
   refine Tq rfl rfl rfl (Tq rfl rfl rfl ?_)
   refine Tg rfl rfl (fun _ => ze yn yf rfl rfl _ rfl hlt2) rfl ?_
   refine Tg rfl rfl (fun _ => za zaQ rfl) rfl ?_
   refine Ts rfl rfl (fun wz hz => zb yt rfl ((hcx.trans hz).cell (hc2 1 _ rfl))) rfl ?_
   refine Tg rfl rfl (fun _ => vf (zai rfl rfl) (by simpa using h2)) rfl ?_
   refine Tp (fun _ => zz rfl rfl) rfl ?_
   refine Tm rfl (Tq rfl rfl rfl (Tq rfl rfl rfl ?_))
   refine Tg rfl rfl (fun _ => ze yn yf rfl rfl _ rfl hlt) rfl ?_
   refine Tg rfl rfl (fun _ => za zbk rfl) rfl ?_
   refine Ts rfl rfl (fun wz hz => zb yz rfl ((hcx.trans hz).cell (hc1 2 _ rfl))) rfl ?_
   refine Tq rfl rfl rfl (Tq rfl rfl rfl ?_)
   refine Tg rfl rfl (fun _ => ze yn yf rfl rfl _ rfl hlt2) rfl ?_
   refine Tg rfl rfl (fun _ => za zbk rfl) rfl ?_
   refine Ts rfl rfl (fun wz hz => zb yz rfl ((hcx.trans hz).cell (hc2 2 _ rfl))) rfl ?_
   refine Tv rfl rfl zed rfl rfl rfl (hks _ (zW.arr (hk1.chg0 hcd)) (zW.arr (hk2.chg0 hcd))) ?_
   rintro v52 w52 ⟨rfl, c52⟩
   refine ⟨.inl (hd.trans c52), ?_⟩
   refine Tg rfl rfl (fun _ => zL rfl) rfl ?_
   refine Tp (fun _ => zz rfl rfl) rfl ?_
   refine Tm rfl (Tq rfl rfl rfl (Tq rfl rfl rfl ?_))
   refine Tg rfl rfl (fun _ => ze yn yf rfl rfl _ rfl hlt) rfl ?_
   refine Tg rfl rfl (fun _ => za zb4 rfl) rfl ?_
   refine Ts rfl rfl (fun wz hz => zb yz rfl ((hcx.trans hz).cell (hc1 3 _ rfl))) rfl ?_
   refine Tq rfl rfl rfl (Tq rfl rfl rfl ?_)
   refine Tg rfl rfl (fun _ => ze yn yf rfl rfl _ rfl hlt2) rfl ?_
   refine Tg rfl rfl (fun _ => za zb4 rfl) rfl ?_
   refine Ts rfl rfl (fun wz hz => zb yz rfl ((hcx.trans hz).cell (hc2 3 _ rfl))) rfl ?_
   refine Tv rfl rfl zed rfl rfl rfl (hrs _ (zW.arr (hr1.chg0 (hcd.trans c52))) (zW.arr (hr2.chg0 (hcd.trans c52)))) ?_
   rintro v66 w66 ⟨rfl, c66⟩
   refine ⟨.inl ((hd.trans c52).trans c66), ?_⟩
   refine Tg rfl rfl (fun _ => zL rfl) rfl ?_
   refine Tp (fun _ => zz rfl rfl) rfl ?_
   refine Tm rfl (Tz rfl rfl (Tz rfl rfl (Tz rfl rfl (Tz rfl rfl (Tz rfl rfl (Tz rfl rfl (Tz rfl rfl (Tz rfl rfl (Tz rfl rfl (Tz rfl rfl (Tz rfl rfl (Tz rfl rfl (Tz rfl rfl ?_)))))))))))))
   refine Tz rfl rfl (Tz rfl rfl (Tz rfl rfl (Tz rfl rfl (Tz rfl rfl (Tz rfl rfl (Tz rfl rfl (Tz rfl rfl (Tz rfl rfl (Tz rfl rfl (Tz rfl rfl (Tz rfl rfl (Tz rfl rfl (Tz rfl rfl ?_)))))))))))))
   refine Tz rfl rfl ?_
   refine Tp (fun _ => zy rfl rfl) rfl ?_
   refine D4 0 1 5 98 rfl (zg rfl (Sr (Oa rfl (E1 4 rfl (zj ?_)))))
   repeat first | refine tr ?_ | refine br ?_
   refine zx rfl rfl ?_
   exact ⟨by rw [decide_eq_false (hno (fun e => h4 (by rw [e])))], ((hcd.trans c52).trans c66)⟩
  have hrs : ∀ w, y5 w rx x.row → y5 w ry y.row → zO TP 13 #[rx, ry] w fun r w' => r = .bool true ∧ zm [] w w' := fun w h h' => zO.mono (zde _ _ _ _ w h h' hsm.2) fun r w' q => ⟨by rw [q.1, decide_eq_true h4], q.2⟩
  refine W_draw (fun wz => zm [] wx wz) mix (yX (by kernel_rfl)) hd ?_
  refine Tm rfl (Tm rfl ?_)
  refine Tp (fun _ => ze yn yf rfl rfl _ rfl hlt) rfl ?_
  refine Td yA rfl ?_
  refine Tr (fun wz hz => zb zba rfl ((hcx.trans hz).cell (hc1 0 _ rfl))) rfl ?_
  refine Tm rfl (Tm rfl ?_)
  refine Tp (fun _ => ze yn yf rfl rfl _ rfl hlt2) rfl ?_
  refine Td yA rfl ?_
  refine Tr (fun wz hz => zb zba rfl ((hcx.trans hz).cell (hc2 0 _ rfl))) rfl ?_
  refine Tp (fun _ => vf (zG rfl rfl) (by simpa using h1)) rfl ?_
  refine Tm rfl (Tq rfl rfl rfl (Tq rfl rfl rfl ?_))
  refine Tg rfl rfl (fun _ => ze yn yf rfl rfl _ rfl hlt) rfl ?_
  refine Tg rfl rfl (fun _ => za zaQ rfl) rfl ?_
  refine Ts rfl rfl (fun wz hz => zb yt rfl ((hcx.trans hz).cell (hc1 1 _ rfl))) rfl ?_
  refine Tq rfl rfl rfl (Tq rfl rfl rfl ?_)
  refine Tg rfl rfl (fun _ => ze yn yf rfl rfl _ rfl hlt2) rfl ?_
  refine Tg rfl rfl (fun _ => za zaQ rfl) rfl ?_
  refine Ts rfl rfl (fun wz hz => zb yt rfl ((hcx.trans hz).cell (hc2 1 _ rfl))) rfl ?_
  refine Tg rfl rfl (fun _ => vf (zai rfl rfl) (by simpa using h2)) rfl ?_
  refine Tp (fun _ => zz rfl rfl) rfl ?_
  refine Tm rfl (Tq rfl rfl rfl (Tq rfl rfl rfl ?_))
  refine Tg rfl rfl (fun _ => ze yn yf rfl rfl _ rfl hlt) rfl ?_
  refine Tg rfl rfl (fun _ => za zbk rfl) rfl ?_
  refine Ts rfl rfl (fun wz hz => zb yz rfl ((hcx.trans hz).cell (hc1 2 _ rfl))) rfl ?_
  refine Tq rfl rfl rfl (Tq rfl rfl rfl ?_)
  refine Tg rfl rfl (fun _ => ze yn yf rfl rfl _ rfl hlt2) rfl ?_
  refine Tg rfl rfl (fun _ => za zbk rfl) rfl ?_
  refine Ts rfl rfl (fun wz hz => zb yz rfl ((hcx.trans hz).cell (hc2 2 _ rfl))) rfl ?_
  refine Tv rfl rfl zed rfl rfl rfl (hks _ (zW.arr (hk1.chg0 hcd)) (zW.arr (hk2.chg0 hcd))) ?_
  rintro v52 w52 ⟨rfl, c52⟩
  refine ⟨.inl (hd.trans c52), ?_⟩
  refine Tg rfl rfl (fun _ => zL rfl) rfl ?_
  refine Tp (fun _ => zz rfl rfl) rfl ?_
  refine Tm rfl (Tq rfl rfl rfl (Tq rfl rfl rfl ?_))
  refine Tg rfl rfl (fun _ => ze yn yf rfl rfl _ rfl hlt) rfl ?_
  refine Tg rfl rfl (fun _ => za zb4 rfl) rfl ?_
  refine Ts rfl rfl (fun wz hz => zb yz rfl ((hcx.trans hz).cell (hc1 3 _ rfl))) rfl ?_
  refine Tq rfl rfl rfl (Tq rfl rfl rfl ?_)
  refine Tg rfl rfl (fun _ => ze yn yf rfl rfl _ rfl hlt2) rfl ?_
  refine Tg rfl rfl (fun _ => za zb4 rfl) rfl ?_
  refine Ts rfl rfl (fun wz hz => zb yz rfl ((hcx.trans hz).cell (hc2 3 _ rfl))) rfl ?_
  refine Tv rfl rfl zed rfl rfl rfl (hrs _ (zW.arr (hr1.chg0 (hcd.trans c52))) (zW.arr (hr2.chg0 (hcd.trans c52)))) ?_
  rintro v66 w66 ⟨rfl, c66⟩
  refine ⟨.inl ((hd.trans c52).trans c66), ?_⟩
  refine Tg rfl rfl (fun _ => zL rfl) rfl ?_
  refine Tp (fun _ => zz rfl rfl) rfl ?_
  refine Tm rfl (Tq rfl rfl rfl (Tq rfl rfl rfl ?_))
  refine Tg rfl rfl (fun _ => ze yn yf rfl rfl _ rfl hlt) rfl ?_
  refine Tg rfl rfl (fun _ => za zgy rfl) rfl ?_
  refine Ts rfl rfl (fun wz hz => zb zk1 rfl ((hcx.trans hz).cell (hc1 4 _ rfl))) rfl ?_
  refine Tg rfl rfl (fun _ => z4 zjx rfl) rfl ?_
  refine Tq rfl rfl rfl (Tq rfl rfl rfl ?_)
  refine Tg rfl rfl (fun _ => ze yn yf rfl rfl _ rfl hlt) rfl ?_
  refine Tg rfl rfl (fun _ => za zgj rfl) rfl ?_
  refine Ts rfl rfl (fun wz hz => zb ag3 rfl ((hcx.trans hz).cell (hc1 5 _ rfl))) rfl ?_
  refine Tg rfl rfl (fun _ => yJ (v' := Ii ((0 : Nat) : Int)) (zR rfl rfl (by omega)) (by congr 1)) rfl ?_
  refine Tq rfl rfl rfl (Tq rfl rfl rfl ?_)
  refine Tg rfl rfl (fun _ => ze yn yf rfl rfl _ rfl hlt) rfl ?_
  refine Tg rfl rfl (fun _ => za zgl rfl) rfl ?_
  refine Tg rfl rfl (fun _ => za zcr rfl) rfl ?_
  refine Ts rfl rfl (fun wz hz => zb zf4 rfl ((hcx.trans hz).cell (hc1 6 _ rfl))) rfl ?_
  refine Tg rfl rfl (fun _ => z4 zfi rfl) rfl ?_
  refine Tg rfl rfl (fun _ => yJ (v' := Ii ((0 : Nat) : Int)) (zR rfl rfl (by omega)) (by congr 1)) rfl ?_
  refine Tq rfl rfl rfl (Tq rfl rfl rfl ?_)
  refine Tg rfl rfl (fun _ => ze yn yf rfl rfl _ rfl hlt) rfl ?_
  refine Tg rfl rfl (fun _ => za zf9 rfl) rfl ?_
  refine Ts rfl rfl (fun wz hz => zb zh5 rfl ((hcx.trans hz).cell (hc1 9 _ rfl))) rfl ?_
  refine Tg rfl rfl (fun _ => z4 zjy rfl) rfl ?_
  refine Tg rfl rfl (fun _ => yJ (v' := Ii ((0 : Nat) : Int)) (zR rfl rfl (by omega)) (by congr 1)) rfl ?_
  refine Tg rfl rfl (fun _ => vf (zG rfl rfl) rfl) rfl ?_
  refine Tp (fun _ => zz rfl rfl) rfl ?_
  refine D4 0 1 5 98 rfl (zf rfl (yd (zk (zd (Om rfl ?_)))))
  refine Og (zR rfl rfl (by omega)) rfl ?_
  refine Oa rfl (N3 0 1 5 rfl ?_)
  refine ⟨ss.length - (j + 1), by omega, j + 1, rfl, by omega, rfl, ?_, (hcd.trans c52).trans c66⟩
  have hxy : x = y := by
   obtain ⟨x1, x2, x3, x4⟩ := x
   obtain ⟨y1, y2, y3, y4⟩ := y
   simp only at h1 h2 h3 h4
   subst h1 h2 h3 h4
   rfl
  rw [List.take_add_one, List.take_add_one, hx, hy, heq, hxy]
 refine zd (Om rfl (Om rfl (On yn rfl ?_)))
 refine Og (vf (zE rfl rfl) (by simp; omega)) rfl ?_
 refine E4 0 1 5 14 rfl (zf rfl ?_)
 refine zP ?_
 repeat first | refine te ?_ | refine bo rfl ?_
 refine zp _ ?_
 refine Sr (Oa rfl (E1 4 rfl (zj ?_)))
 refine zx rfl rfl ?_
 rw [List.take_of_length_le (by omega), List.take_of_length_le (by omega)] at heq
 exact ⟨by rw [decide_eq_true heq], hcx⟩
def ze7 : ByteArray := ⟨#[116, 95, 108, 111, 103]⟩
def aA : ByteArray := ⟨#[97]⟩
def cC : ByteArray := ⟨#[99]⟩
def p0 : PrT := ⟨1, cC, false, 1, 49, 2, [aA]⟩
def q0 : PrT := ⟨1, cC, true, 1, 49, 2, []⟩
theorem zgG : yN p0 = true := by decide +kernel
theorem zko : yN q0 = true := by decide +kernel
theorem zmB : (kvP p0).map (·.1) = [zcj, zaD, za2, zeQ, zaL ++ aA] := by decide +kernel
theorem zmC : (kvP q0).map (·.1) = [zcj, zaD, zbX, za2, zeQ] := by decide +kernel
theorem ze3 : (kvP p0).length = 5 := by decide +kernel
theorem zi7 : (kvP p0)[2]? = some (za2, phT p0) := by decide +kernel
theorem zli : (kvP p0)[4]? = some (zaL ++ aA, e0) := by decide +kernel
theorem zj4 : zK ze7 (kvP p0) (kvP q0) = [zbI ze7 (yU zbX e0), za8 ze7 (zaL ++ aA)] := by
 rw [← zgR (ks := [zcj, zaD, zbX, za2, zeQ, zaL ++ aA]) (zbH (zbZ zgG)) (zbH (zbZ zko)) (by decide +kernel) (by
  intro k
  rw [zmB, zmC]
  simp only [List.mem_cons, List.not_mem_nil, or_false]
  grind)]
 decide +kernel
theorem zlc (n : Int) (w : World) : zO TP 10 #[Ii n] w fun r w' => r = Ii n ∧ zm [] w w' := zO.mono (zlv n w) fun r w' h => ⟨h.1, h.2 ▸ zm.refl _ _⟩
theorem zha (k v : ByteArray) (w : World) : zO TP 14 #[.string k, .string v] w fun r w' => ∃ p c, r = .slice p 2 c ∧ 2 ≤ c ∧ zU w' (.slice p 2 c) (yU k v) ∧ zm [] w w' :=
 zO.mono (zlq k v w) fun r w' h => by obtain ⟨p, c, rfl, hc⟩ := zW.val h.1; exact ⟨p, c, rfl, hc, h.1, h.2.2⟩
theorem zgF (v u : Value) (l : List yx) (w : World) (hv : y5 w v l) (hu : y5 w u l) (hl : l.length ≤ 1048576) : zO TP 13 #[v, u] w fun r w' => r = .bool true ∧ zm [] w w' :=
 zO.mono (zde v u l l w hv hu hl) fun r w' h => ⟨by rw [h.1, decide_eq_true rfl], h.2⟩
theorem zge {L : List KV} {wz : World} {vq : Option Addr} {vc n : Nat} (hn : L.length = n) (h : zJ wz (.slice vq n vc) (L.map yR)) {j : Nat} {x : KV} (hx : L[j]? = some x) : ∃ b off b2 o2 c2, vq = some ⟨b, off, none⟩ ∧ wz.cell? ⟨b, off + j * 1, none⟩ = some (.slice (some ⟨b2, o2, none⟩) 2 c2) ∧ zU wz (.slice (some ⟨b2, o2, none⟩) 2 c2) (yR x) := by
 subst hn
 obtain ⟨b, off, cap, u, hv, h1, h2⟩ := h.at (i := j) (l := yR x) (by rw [List.getElem?_map, hx]; rfl)
 simp only [List.length_map] at hv
 cases hv
 obtain ⟨b2, o2, cap2, hve, hc2⟩ := yq.at (i := 0) (x := bV x.1) za6 (zW.arr h2) rfl
 cases hve
 exact ⟨b, off, b2, o2, cap2, rfl, h1, h2⟩
theorem zjI (u : Value) (w : World) (hp : zbv w u p0) : zO TP 12 #[.agg (p0.cs u).toArray] w fun r w' => ∃ b o c, r = .tuple #[.slice (some ⟨b, o, none⟩) 5 c, Ii 0] ∧ zJ w' (.slice (some ⟨b, o, none⟩) 5 c) ((kvP p0).map yR) ∧ zm [] w w' :=
 zO.mono (zcZ p0 u w hp) fun r w' h => by
  obtain ⟨q, n, c, rfl, h1, h2⟩ := h
  obtain ⟨rfl, h1⟩ := h1 zgG
  rw [ze3] at *
  obtain ⟨b, off, _, _, _, rfl, _, _⟩ := zge ze3 h1 zi7
  rw [zgG]
  exact ⟨b, off, c, rfl, h1, h2⟩
theorem zj9 (u v : Value) (w : World) (hp : zbv w u p0) (hq : zbv w v q0) (hE : EOk w) : zO TP 6 #[.string ze7, .agg (p0.cs u).toArray, .agg (q0.cs v).toArray] w fun r w' => ∃ b o c, r = .tuple #[.slice (some ⟨b, o, none⟩) 2 c, Ii 0] ∧ zQ w' (.slice (some ⟨b, o, none⟩) 2 c) [zbI ze7 (yU zbX e0), za8 ze7 (zaL ++ aA)] ∧ zm [] w w' :=
 zO.mono (zfh ze7 p0 q0 u v w hp hq hE) fun r w' h => by
  rw [zgG, zko, show ym ze7 = true by decide +kernel, zj4] at h
  obtain ⟨⟨x, rfl, h1⟩, h2⟩ := h
  obtain ⟨b, off, c, _, _, rfl, _⟩ := h1.at (i := 0) rfl
  exact ⟨b, off, c, rfl, h1, h2⟩
theorem zca (w : World) (hE : EOk w) : zO TP 5 #[] w fun r w' => r = .bool true ∧ zm [] w w' := by
 refine zO.of_W (args := []) Tryz.func5 rfl rfl rfl rfl ?_
 refine Sr (Oa rfl (za0 [] (F' := []) rfl (Sr ?_)))
 refine Og (zM znw zm6 rfl (vs := [_, _]) rfl (css := [_, _]) ⟨rfl, rfl, trivial⟩ rfl rfl (cs := [_, _]) rfl) rfl ?_
 refine zA (gn rfl) (zv zno rfl (vs := [_]) rfl (css := [_]) ⟨rfl, trivial⟩ rfl rfl (cs := [_]) rfl rfl ?_)
 intro b8 w8 e8 n8 c8 k8
 refine Og (zaq zni zk6 rfl (qs := [(0, _), (1, _), (3, _), (4, _), (5, _)]) rfl (css := [_, _, _, _, _]) ⟨rfl, rfl, rfl, rfl, rfl, trivial⟩ (cs := [_, _, _, _, _, _, _]) rfl) rfl ?_
 refine zA (gn rfl) (zI zk6 rfl rfl ?_)
 intro b1 w1 e1 n1 c1 k1
 refine zA (gn rfl) (zD y7 rfl rfl rfl rfl k1 (by simp) (by simp [Value.oneCell']) ?_)
 intro wA nA cA kA
 refine E1 1 rfl ?_
 have h8l := k8.lt
 have kA : zV wA b1 27 (p0.cs (.slice (some ⟨b8, 0, none⟩) 1 1)) := kA
 have hc1 : zm [] w w1 := c8.trans c1
 have hcA : zm [] w wA := hc1.own cA (by intro y hy; simp at hy; have := c8.size; omega)
 have hp8 : zF w8 (.slice (some ⟨b8, 0, none⟩) 1 1) p0.park := yq.of_blk (l := [aA]) zcI zig k8 (by simp [maxLen])
 have hpA : zF wA (.slice (some ⟨b8, 0, none⟩) 1 1) p0.park := yq.chg (yq.chg0 hp8 c1) cA (by intro b hb; simp [zC] at hb; simp; omega)
 refine Sr ?_
 refine Og (zi zac y7 rfl rfl (zu.of_blk0 kA)) rfl ?_
 refine Oc zkS rfl rfl rfl (zjI _ _ hpA) ?_
 rintro v12 w12 ⟨rb, ro, rc, rfl, hr, c12⟩
 refine Om rfl (Oe rfl rfl (Oe rfl rfl (Oa rfl (Oa rfl (E3 1 2 3 rfl ?_)))))
 have kA12 : zV w12 b1 27 (p0.cs (.slice (some ⟨b8, 0, none⟩) 1 1)) := kA.chg0 c12
 refine Sr ?_
 refine Og (zi zac y7 rfl rfl (zu.of_blk0 kA12)) rfl ?_
 refine zA (gn rfl) (zI zk6 rfl rfl ?_)
 intro b4 w4 e4 n4 c4 k4
 refine zA (gn rfl) (zD y7 rfl rfl rfl rfl k4 (Nat.le_refl 7) (by simp [Value.oneCell', p0, PrT.cs]) ?_)
 intro wB nB cB kB
 refine E4 1 2 3 4 rfl ?_
 have kB : zV wB b4 27 (p0.cs (.slice (some ⟨b8, 0, none⟩) 1 1)) := kB
 refine Sr (Od yI rfl ?_)
 refine zA (gn rfl) (zD sz4 rfl rfl rfl rfl kB (by simp [p0, PrT.cs]) (by simp [Value.oneCell']) ?_)
 intro wC nC cC kC
 refine Od zN rfl ?_
 refine zA (gn rfl) (zD znm rfl rfl rfl rfl kC (Nat.le_refl 7) (by simp [Value.oneCell']) ?_)
 intro wD nD cD kD
 refine E4 1 2 3 4 rfl ?_
 have kD : zV wD b4 27 (q0.cs zH) := kD
 have hc4 : ∀ y ∈ [b4], w12.heap.size ≤ y := by intro y hy; simp at hy; omega
 have hcD : zm [] w12 wD := ((c4.own cB hc4).own cC hc4).own cD hc4
 have kAD : zV wD b1 27 (p0.cs (.slice (some ⟨b8, 0, none⟩) 1 1)) := kA12.chg0 hcD
 have hpD : zF wD (.slice (some ⟨b8, 0, none⟩) 1 1) p0.park := yq.chg0 (yq.chg0 hpA c12) hcD
 have hqD : zF wD zH q0.park := yq.nil _ _ _ _
 have hED : EOk wD := hE.chg0 ((hcA.trans c12).trans hcD)
 refine Sr ?_
 refine Og (zi zac y7 rfl rfl (zu.of_blk0 kAD)) rfl ?_
 refine Og (zi zac y7 rfl rfl (zu.of_blk0 kD)) rfl ?_
 refine Oc bd6 rfl rfl rfl (zj9 _ _ _ hpD hqD hED) ?_
 rintro v21 w21 ⟨tb, to, tc, rfl, hst, c21⟩
 refine Om rfl (Oe rfl rfl (Oe rfl rfl (Oa rfl (Oa rfl (E4 2 3 5 6 rfl ?_)))))
 have hrE : zJ w21 (.slice (some ⟨rb, ro, none⟩) 5 rc) ((kvP p0).map yR) := (hr.chg0 hcD).chg0 c21
 obtain ⟨_, _, b2, o2, s2, hve, h2c, h2v⟩ := zge ze3 hrE zi7
 cases hve
 obtain ⟨_, _, b4', o4, s4, hve, h4c, h4v⟩ := zge ze3 hrE zli
 cases hve
 obtain ⟨_, _, _, kv0, rv0, hve, hs0, -, hr0⟩ := hst.at (i := 0) rfl
 cases hve
 obtain ⟨_, _, _, kv1, rv1, hve, hs1, hk1, -⟩ := hst.at (i := 1) rfl
 cases hve
 have hd : zm [] w21 w21.drew := zm.drew [] _
 refine zh ?_
 refine W_draw (fun wz => zm [] w21 wz) mix (yX (by kernel_rfl)) hd ?_
 refine Tm rfl ?_
 refine Tc zkQ rfl rfl rfl (zlc 0 _) ?_
 rintro v25 w25 ⟨rfl, c25⟩
 refine ⟨.inl (hd.trans c25), ?_⟩
 refine Tm rfl ?_
 refine Tc zkQ rfl rfl rfl (zlc 0 _) ?_
 rintro v27 w27 ⟨rfl, c27⟩
 refine ⟨.inl ((hd.trans c25).trans c27), ?_⟩
 refine Tp (fun _ => yJ (v' := Ii ((0 : Nat) : Int)) (zR rfl rfl (by omega)) (by congr 1)) rfl ?_
 refine Tp (fun _ => vt (zw rfl rfl) rfl) rfl ?_
 refine Tm rfl (Tq rfl rfl rfl ?_)
 refine Tg rfl rfl (fun _ => z4 yE rfl) rfl ?_
 refine Tg rfl rfl (fun _ => vt (zw rfl rfl) rfl) rfl ?_
 refine Tp (fun _ => zy rfl rfl) rfl ?_
 refine Tm rfl (Tq rfl rfl rfl ?_)
 refine Tg rfl rfl (fun _ => ze yE zaz rfl rfl 2 rfl (by omega)) rfl ?_
 refine Ts rfl rfl (fun wz hz => zb yz rfl (hz.cell h2c)) rfl ?_
 refine Tv rfl rfl zjU rfl rfl rfl (zha za2 ⟨#[1]⟩ _) ?_
 rintro v39 w39 ⟨p39, s39, rfl, l39, h39, c39⟩
 refine ⟨.inl (((hd.trans c25).trans c27).trans c39), ?_⟩
 refine Tv rfl rfl zed rfl rfl rfl (zgF _ _ _ _ (zW.arr ((h2v).chg0 (((hd.trans c25).trans c27).trans c39))) (zW.arr h39) (by decide)) ?_
 rintro v40 w40 ⟨rfl, c40⟩
 refine ⟨.inl ((((hd.trans c25).trans c27).trans c39).trans c40), ?_⟩
 refine Tp (fun _ => zy rfl rfl) rfl ?_
 refine Tm rfl (Tq rfl rfl rfl ?_)
 refine Tg rfl rfl (fun _ => ze yE zaz rfl rfl 4 rfl (by omega)) rfl ?_
 refine Ts rfl rfl (fun wz hz => zb yz rfl (hz.cell h4c)) rfl ?_
 refine Tv rfl rfl zjU rfl rfl rfl (zha (zaL ++ aA) e0 _) ?_
 rintro v46 w46 ⟨p46, s46, rfl, l46, h46, c46⟩
 refine ⟨.inl (((((hd.trans c25).trans c27).trans c39).trans c40).trans c46), ?_⟩
 refine Tv rfl rfl zed rfl rfl rfl (zgF _ _ _ _ (zW.arr ((h4v).chg0 (((((hd.trans c25).trans c27).trans c39).trans c40).trans c46))) (zW.arr h46) (by decide)) ?_
 rintro v47 w47 ⟨rfl, c47⟩
 refine ⟨.inl ((((((hd.trans c25).trans c27).trans c39).trans c40).trans c46).trans c47), ?_⟩
 refine Tp (fun _ => zy rfl rfl) rfl ?_
 refine Tm rfl (Tq rfl rfl rfl ?_)
 refine Tg rfl rfl (fun _ => z4 yn rfl) rfl ?_
 refine Tg rfl rfl (fun _ => vt (zw rfl rfl) rfl) rfl ?_
 refine Tp (fun _ => zy rfl rfl) rfl ?_
 refine Tm rfl (Tq rfl rfl rfl ?_)
 refine Tg rfl rfl (fun _ => ze yn yf rfl rfl 0 rfl (by omega)) rfl ?_
 refine Tg rfl rfl (fun _ => za yA rfl) rfl ?_
 refine Ts rfl rfl (fun wz hz => zb zba rfl (hz.cell (hs0 0 _ rfl))) rfl ?_
 refine Tg rfl rfl (fun _ => vt (zw rfl rfl) rfl) rfl ?_
 refine Tp (fun _ => zy rfl rfl) rfl ?_
 refine Tm rfl (Tq rfl rfl rfl ?_)
 refine Tg rfl rfl (fun _ => ze yn yf rfl rfl 0 rfl (by omega)) rfl ?_
 refine Tg rfl rfl (fun _ => za zb4 rfl) rfl ?_
 refine Ts rfl rfl (fun wz hz => zb yz rfl (hz.cell (hs0 3 _ rfl))) rfl ?_
 refine Tv rfl rfl zjU rfl rfl rfl (zha zbX e0 _) ?_
 rintro v66 w66 ⟨p66, s66, rfl, l66, h66, c66⟩
 refine ⟨.inl (((((((hd.trans c25).trans c27).trans c39).trans c40).trans c46).trans c47).trans c66), ?_⟩
 refine Tv rfl rfl zed rfl rfl rfl (zgF _ _ _ _ (zW.arr (hr0.chg0 (((((((hd.trans c25).trans c27).trans c39).trans c40).trans c46).trans c47).trans c66))) (zW.arr h66) (by decide)) ?_
 rintro v67 w67 ⟨rfl, c67⟩
 refine ⟨.inl ((((((((hd.trans c25).trans c27).trans c39).trans c40).trans c46).trans c47).trans c66).trans c67), ?_⟩
 refine Tp (fun _ => zy rfl rfl) rfl ?_
 refine Tm rfl (Tq rfl rfl rfl ?_)
 refine Tg rfl rfl (fun _ => ze yn yf rfl rfl 1 rfl (by omega)) rfl ?_
 refine Tg rfl rfl (fun _ => za yA rfl) rfl ?_
 refine Ts rfl rfl (fun wz hz => zb zba rfl (hz.cell (hs1 0 _ rfl))) rfl ?_
 refine Tg rfl rfl (fun _ => vt (zw rfl rfl) rfl) rfl ?_
 refine Tp (fun _ => zy rfl rfl) rfl ?_
 refine Tm rfl (Tq rfl rfl rfl ?_)
 refine Tg rfl rfl (fun _ => ze yn yf rfl rfl 1 rfl (by omega)) rfl ?_
 refine Tg rfl rfl (fun _ => za zbk rfl) rfl ?_
 refine Ts rfl rfl (fun wz hz => zb yz rfl (hz.cell (hs1 2 _ rfl))) rfl ?_
 refine Tv rfl rfl zjU rfl rfl rfl (zha (zaL ++ aA) e0 _) ?_
 rintro v81 w81 ⟨p81, s81, rfl, l81, h81, c81⟩
 refine ⟨.inl (((((((((hd.trans c25).trans c27).trans c39).trans c40).trans c46).trans c47).trans c66).trans c67).trans c81), ?_⟩
 refine Tg rfl rfl (fun _ => zh9 yS yM rfl rfl _ rfl (Nat.le_trans (by decide : 1 ≤ 2) l81)) rfl ?_
 refine Tv rfl rfl zed rfl rfl rfl (zgF _ _ [bV (zaL ++ aA)] _ (zW.arr (hk1.chg0 (((((((((hd.trans c25).trans c27).trans c39).trans c40).trans c46).trans c47).trans c66).trans c67).trans c81))) (yq.take (l := yU (zaL ++ aA) e0) (n := 1) za6 (zW.arr h81) (by decide) (Nat.le_trans (by decide) l81) (Nat.le_refl _)) (by decide)) ?_
 rintro v83 w83 ⟨rfl, c83⟩
 refine ⟨.inl ((((((((((hd.trans c25).trans c27).trans c39).trans c40).trans c46).trans c47).trans c66).trans c67).trans c81).trans c83), ?_⟩
 refine Tp (fun _ => zy rfl rfl) rfl ?_
 refine Ta rfl (D1 0 rfl (zj ?_))
 refine zx rfl rfl ?_
 exact ⟨rfl, (((hcA.trans c12).trans hcD).trans c21).trans ((((((((((hd.trans c25).trans c27).trans c39).trans c40).trans c46).trans c47).trans c66).trans c67).trans c81).trans c83)⟩
end Go.Wk
