/- joined texts -/
import Derived.Test.YtkfpmjjcogigfaaGreatDoorQ15
set_option linter.all false
namespace Go.Wk
open Go.Proofs
set_option linter.unusedSectionVars false
variable [Lw]
set_option maxRecDepth 10000
theorem zs7{c:Cat}{x:EvT}(h:doE c x≠0):doC c x=c:=by unfold doC;rw[if_pos h]
theorem zuY{c:Cat}{x:EvT}(h:yc x=false):doE c x=2:=by unfold doE;rw[if_pos h]
theorem zjP{c:Cat}{x:EvT}(h:yc x=true)(h6:x.k≠6)(ha:atC c x.t=none):doE c x=if x.k=4 then (if 12≤c.length then 3 else 0) else 5:=by
 unfold doE;rw[if_neg (by rw[h];simp),if_neg h6,ha]
theorem zjB{c:Cat}{x:EvT}{t:Tb}(h:yc x=true)(h6:x.k≠6)(ha:atC c x.t=some t):doE c x=if x.k=4 then 220 else if x.k=5 then 0 else zcH t x:=by
 unfold doE;rw[if_neg (by rw[h];simp),if_neg h6,ha]
theorem zBl{c:Cat}{x:EvT}{t:Tb}(he:doE c x=0)(h4:x.k≠4)(h5:x.k≠5)(h6:x.k≠6)(ha:atC c x.t=some t):doC c x=zcj c ⟨t.n,t.s,zb4 t x⟩:=by
 unfold doC;rw[if_neg (by simp[he]),if_neg h6,if_neg h4,if_neg h5,ha]
set_option maxHeartbeats 2000000 in
theorem zn3(v:Va)(c:Cat)(e:EvV)(x:EvT)(w:Wl)(h:zbI w v c)(hok:za0 c)(hx:zbH w e x)(hm:zcK x)(hN:Lw.n≤w.heap.size) :
 zV TP 17 #[.agg #[v],.agg (evC x e).toArray] w fun r w'=>∃v',r=.tuple #[.agg #[v'],Ii (doE c x)]∧zbI w' v' (doC c x)∧zl [] w w':=by
 obtain⟨L0,hA0,hR0,rfl⟩:=h
 have hl0:L0.length≤12:=by have:=hok.le;rwa [List.length_map]at this
 obtain⟨pv,cv,rfl,hcv⟩:=hA0.val
 obtain⟨ec,eky,eu,eo,en,em⟩:=e
 obtain⟨pm,cm,rfl,-⟩:∃p q,em=.slice p x.m.length q∧x.m.length≤q:=zP.val hx.nm
 have h:zbI w (.slice pv L0.length cv) (L0.map (·.1)):=⟨L0,hA0,hR0,rfl⟩
 generalize hcc:L0.map (·.1)=c at h hok
 have hcl:=hok.le
 have hlen:c.length=L0.length:=by rw[←hcc,List.length_map]
 have hxo:=hx.one
 refine A2 Tryz.func17 U U ?_
 refine Sr ?_
 refine Ob U U ?_
 intro b2 w2 e2 n2 c2 k2
 refine Ob U U ?_
 intro b3 w3 e3 n3 c3 k3
 refine Oq (zH zhI U U ?_)
 intro b4 w4 e4 n4 c4 k4
 refine Oa U (E3 2 3 4 U ?_)
 have hs2:=c2.size
 have hs3:=c3.size
 have hs4:=c4.size
 have hcw:=(c2.trans c3).trans c4
 have k2:zQ w4 b2 48 [.slice pv L0.length cv]:=(k2.chg0 c3).chg0 c4
 have k3:zQ w4 b3 39 (evC x ⟨ec,eky,eu,eo,en,.slice pm x.m.length cm⟩):=k3.chg0 c4
 have hno:∀{wy wB:Wl} {z:Int},zl [] w4 wy→zl [b4] wy wB→doE c x=z→z≠0→∃v',Value.tuple #[.agg #[.slice pv L0.length cv],Ii z]=.tuple #[.agg #[v'],Ii (doE c x)]∧zbI wB v' (doC c x)∧zl [] w wB:=fun hc hB hz h0=>by
  have hcB:zl [] w _:=(hcw.trans hc).own hB (by intro y hy;simp at hy;omega)
  refine⟨_,by rw[hz],?_,hcB⟩
  rw[zs7 (by rw[hz];exact h0)]
  exact h.chg0 hcB
 refine zf (zf ?_)
 cases hr:yc x with
 |false=>
  refine za (Og (zh zbQ za2 U U (zw.of_blk0 k3)) U ?_)
  refine Oc zAe U U U (zl2 _ x _ (hx.chg0 hcw) hm) ?_
  rintro v12 w12⟨e12,c12⟩
  rw[hr]at e12
  subst e12
  refine Og (zE U) U (E4 2 3 4 13 U (ze U (Sr (Og (zh zbd yS U U (zw.of_blk0 (k2.chg0 c12))) U ?_))))
  refine Oq (zu yS U U U U (k4.chg0 c12) (by simp) (by intro y hy;simp at hy;subst hy;rfl) ?_)
  intro wB nB cB kB
  refine Oa U (E2 4 5 U (zk ?_))
  repeat first|refine tr ?_|refine br ?_
  refine zcn U zbd yS U U U (zw.of_blk0 kB) ?_
  exact hno c12 cB (zuY hr) (by decide)
 |true=>
 refine za (Og (zh zbQ za2 U U (zw.of_blk0 k3)) U ?_)
 refine Oc zAe U U U (zl2 _ x _ (hx.chg0 hcw) hm) ?_
 rintro v12 w12⟨e12,c12⟩
 rw[hr]at e12
 subst e12
 refine Og (zE U) U (E4 2 3 4 13 U (zb U (zn ?_)))
 have k2a:=k2.chg0 c12
 have k3a:=k3.chg0 c12
 have hs12:=c12.size
 refine Sr (Od zby U (Ol zex U (k3a.cell' (i:=0) U) (Oa U (E4 2 3 4 6 U (zf ?_)))))
 have hcw12:=hcw.trans c12
 refine za (Og (zh zbd yS U U (zw.of_blk0 k2a)) U (Od ye U (Ol yK U (k3a.cell' (i:=1) U) ?_)))
 refine Oc zx3 U U U (zhS _ L0 x.t _ (hA0.chg0 hcw12) (fun p hp=>(hR0 p hp).chg0 hcw12) (by omega)) ?_
 rintro v21 w21⟨a,k,u,o,rfl,hrp,c21⟩
 refine Om U (Oe U U (Oe U U ?_))
 refine Oq (zH zgX U U ?_)
 intro b7 w7 e7 n7 c7 k7
 refine Oq (zu yM U U U U k7 (by simp) (by
  intro y hy
  rcases hrp with⟨t',-,hm'⟩|⟨-,rfl,rfl,rfl,rfl⟩
  ·exact RT.one (hR0 _ hm') y (List.mem_cons_of_mem _ hy)
  simp at hy;subst hy;rfl) ?_)
 intro wA nA cA kA
 refine Oa U (E6 2 3 4 6 7 8 U ?_)
 have kA:zQ wA b7 67 [a,k,u,o]:=kA
 have hs21:=c21.size
 have hs7:=c7.size
 have hcA:zl [] w4 wA:=((c12.trans c21).trans c7).own cA (by intro y hy;simp at hy;omega)
 have k2:=k2.chg0 hcA
 have k3:=k3.chg0 hcA
 have k4:=k4.chg0 hcA
 have hwA:=hcw.trans hcA
 have hxA:=hx.chg0 hwA
 have hrp:(∃t,atC c x.t=some t∧(t,(⟨a,k,u,o⟩:RV))∈L0)∨atC c x.t=none:=by
  unfold zvQ at hrp
  rw[hcc]at hrp
  rcases hrp with h1|h1
  ·exact .inl h1
  exact .inr h1.1
 have hsome:∀{b:Bool},(atC (L0.map (·.1)) x.t).isSome=b→(atC c x.t).isSome=b:=by rw[hcc];exact id
 rw[hcc]
 refine zS (fun F wz=>prune [2,3,4,7] F=[(2,Pt b2),(3,Pt b3),(4,Pt b4),(7,Pt b7)]∧wz=wA∧x.k≠4∧x.k≠5∧x.k≠6∧∃t,atC c x.t=some t∧(t,(⟨a,k,u,o⟩:RV))∈L0) ?_ ?_
 ·refine zq (zf ?_)
  by_cases h6:x.k=6
  ·refine za (Om U (Og (vt (zx U U) (dt h6)) U (Oa U (E7 2 3 4 6 7 8 24 U (ze U (zf ?_))))))
   have hm4:x.m.length≤4:=by
    have:=(za1.1 hr).m h6
    simp only[zda,Bool.and_eq_true,decide_eq_true_eq]at this
    exact this.1.2
   refine za (Og (zh zbd yS U U (zw.of_blk0 k2)) U (Od y8 U (Ol zcv U (k3.cell' (i:=7) U) ?_)))
   refine Oc zCL U U U (zol _ _ c x.m _ (h.chg0 hwA) hok hxA.nm hm4 (Nat.le_trans hN hwA.size)) ?_
   rintro v30 w30⟨v',rfl,h30,c30⟩
   obtain⟨p30,q30,rfl,-⟩:=h30.val
   refine Oe U U (Oe U U ?_)
   refine Oq (zu yS U U U U (k4.chg0 c30) (by simp) (by intro y hy;simp at hy;subst hy;rfl) ?_)
   intro wB nB cB kB
   refine Oa U (E2 4 5 U (zk ?_))
   repeat first|refine tr ?_|refine br ?_
   refine zcn U zbd yS U U U (zw.of_blk0 kB) ?_
   refine⟨_,by rw[zqP hr h6];rfl,?_,(hwA.trans c30).own cB (by intro y hy;simp at hy;omega)⟩
   have h30:=h30.hm (Hm.rcat (k4.chg0 c30)) cB
   by_cases he:zeb c x.m=0
   ·rw[zxh h6 (by rw[zqP hr h6];exact he)]
    have e:(if zeb c x.m=0 then zhX c x.m else c)=zhX c x.m:=if_pos he
    rw[e]at h30 ⊢
    exact h30
   rw[zs7 (by rw[zqP hr h6];exact he)]
   have e:(if zeb c x.m=0 then zhX c x.m else c)=c:=if_neg he
   rw[e]at h30 ⊢
   exact h30
  refine za (Om U (Og (vf (zx U U) (df h6)) U (Oa U (E7 2 3 4 6 7 8 24 U (zb U (zf ?_))))))
  by_cases h4:x.k=4
  ·rcases hrp with⟨t,hat,hmem⟩|hat
   ·rw[show (atC c x.t).isSome=true by rw[hat];rfl]
    refine za (Om U (Og (vt (zx U U) (dt h4)) U (Om U (Oj U U (Ot U (Oa U (E7 2 3 4 6 7 8 33 U (ze U (Sr (Og (zh zbd yS U U (zw.of_blk0 k2)) U ?_))))))))))
    refine Oq (zu yS U U U U k4 (by simp) (by intro y hy;simp at hy;subst hy;rfl) ?_)
    intro wB nB cB kB
    refine Oa U (E2 4 5 U (zk ?_))
    repeat first|refine tr ?_|refine br ?_
    refine zcn U zbd yS U U U (zw.of_blk0 kB) ?_
    exact hno hcA cB (by rw[zjB hr h6 hat,if_pos h4]) (by decide)
   rw[show (atC c x.t).isSome=false by rw[hat];rfl]
   refine za (Om U (Og (vt (zx U U) (dt h4)) U (Om U (Oj U U (Ot U (Oa U (E7 2 3 4 6 7 8 33 U (zb U (zf ?_)))))))))
   by_cases h12:12≤c.length
   ·refine za (Om U (Og (vt (zx U U) (dt h4)) U (Om U (Oy U U (zd zaH U) (Oy U U (zg zc5 U (k2.cell' (i:=0) U)) (Oy U U (zX zcu U) ?_))))))
    refine Oy U U (vt (yg U U) (dt (by omega))) ?_
    refine Ot U (Oa U (E7 2 3 4 6 7 8 40 U (ze U (Sr (Og (zh zbd yS U U (zw.of_blk0 k2)) U ?_)))))
    refine Oq (zu yS U U U U k4 (by simp) (by intro y hy;simp at hy;subst hy;rfl) ?_)
    intro wB nB cB kB
    refine Oa U (E2 4 5 U (zk ?_))
    repeat first|refine tr ?_|refine br ?_
    refine zcn U zbd yS U U U (zw.of_blk0 kB) ?_
    exact hno hcA cB (by rw[zjP hr h6 hat,if_pos h4,if_pos h12]) (by decide)
   refine za (Om U (Og (vt (zx U U) (dt h4)) U (Om U (Oy U U (zd zaH U) (Oy U U (zg zc5 U (k2.cell' (i:=0) U)) (Oy U U (zX zcu U) ?_))))))
   refine Oy U U (vf (yg U U) (df (by omega))) ?_
   refine Ot U (Oa U (E7 2 3 4 6 7 8 40 U (zb U (Sr (Om U (Og (vt (zx U U) (dt h4)) U (Oa U (E7 2 3 4 6 7 8 50 U (ze U (zf ?_))))))))))
   have hrs:=(za1.1 hr).r h4
   have hrt:RT wA ((⟨x.t,x.s,[]⟩:Tb),(⟨ec,eky,eu,zaQ⟩:RV)):=⟨hxA.sch,zax.nil _,yV.nil hrs,hm.cn⟩
   refine za (Og (zh zbd yS U U (zw.of_blk0 k2)) U (Od ye U (Ol yK U (k3.cell' (i:=1) U) (Od za7 U ?_))))
   refine Og (zh zbz zbr U U (zw.of_blk k3 2 [ec,eky,eu] ⟨[_,_,_],U⟩)) U ?_
   refine Og (zN zzn zgX U (vs:=[_]) U (css:=[_]) ⟨U,trivial⟩ U U (cs:=[_,_,_,_]) U) U ?_
   refine Oc zxr U U U (zjZ _ c ⟨x.t,x.s,[]⟩ ⟨ec,eky,eu,zaQ⟩ _ (h.chg0 hwA) (by omega) hrt) ?_
   rintro v59 w59⟨v',rfl,h30,c30⟩
   obtain⟨p30,q30,rfl,-⟩:=h30.val
   refine Oq (zu yS U U U U (k4.chg0 c30) (by simp) (by intro y hy;simp at hy;subst hy;rfl) ?_)
   intro wB nB cB kB
   refine Oa U (E2 4 5 U (zk ?_))
   repeat first|refine tr ?_|refine br ?_
   refine zcn U zbd yS U U U (zw.of_blk0 kB) ?_
   have he:doE c x=0:=by rw[zjP hr h6 hat,if_pos h4,if_neg h12]
   refine⟨_,by rw[he];rfl,?_,(hwA.trans c30).own cB (by intro y hy;simp at hy;omega)⟩
   rw[zwT h4 he]
   exact h30.hm (Hm.rcat (k4.chg0 c30)) cB
  refine za (Om U (Og (vf (zx U U) (df h4)) U (Om U (Oz U U (Of U (Oa U (E7 2 3 4 6 7 8 33 U (zb U (Sr (Om U (Og (vf (zx U U) (df h4)) U (Om U (Oz U U (Oz U U ?_))))))))))))))
  refine Oz U U (Oz U U (Of U (Oa U (E7 2 3 4 6 7 8 40 U (zb U (Sr (Om U (Og (vf (zx U U) (df h4)) U (Oa U (E7 2 3 4 6 7 8 50 U (zb U (zf ?_))))))))))))
  rcases hrp with⟨t,hat,hmem⟩|hat
  ·rw[show (atC c x.t).isSome=true by rw[hat];rfl]
   refine za (Om U (Og (zE U) U (Oa U (E6 2 3 4 6 7 60 U (zb U (zf ?_))))))
   by_cases h5:x.k=5
   ·refine za (Om U (Og (vt (zx U U) (dt h5)) U (Oa U (E5 2 3 4 7 64 U (ze U (Sr (Og (zh zbd yS U U (zw.of_blk0 k2)) U (Od ye U (Ol yK U (k3.cell' (i:=1) U) ?_)))))))))
    refine Oc zyE U U U (ziv _ c x.t _ (h.chg0 hwA) (by omega)) ?_
    rintro v70 w70⟨v',rfl,h30,c30⟩
    obtain⟨p30,q30,rfl,-⟩:=h30.val
    refine Oq (zu yS U U U U (k4.chg0 c30) (by simp) (by intro y hy;simp at hy;subst hy;rfl) ?_)
    intro wB nB cB kB
    refine Oa U (E2 4 5 U (zk ?_))
    repeat first|refine tr ?_|refine br ?_
    refine zcn U zbd yS U U U (zw.of_blk0 kB) ?_
    have he:doE c x=0:=by rw[zjB hr h6 hat,if_neg h4,if_pos h5]
    refine⟨_,by rw[he];rfl,?_,(hwA.trans c30).own cB (by intro y hy;simp at hy;omega)⟩
    rw[zwu h5 he]
    exact h30.hm (Hm.rcat (k4.chg0 c30)) cB
   refine za (Om U (Og (vf (zx U U) (df h5)) U (Oa U (E5 2 3 4 7 64 U (zb U (zW (zm ?_)))))))
   exact⟨U,U,h4,h5,h6,t,hat,hmem⟩
  rw[show (atC c x.t).isSome=false by rw[hat];rfl]
  refine za (Om U (Og (zE U) U (Oa U (E6 2 3 4 6 7 60 U (ze U (Sr (Og (zh zbd yS U U (zw.of_blk0 k2)) U ?_)))))))
  refine Oq (zu yS U U U U k4 (by simp) (by intro y hy;simp at hy;subst hy;rfl) ?_)
  intro wB nB cB kB
  refine Oa U (E2 4 5 U (zk ?_))
  repeat first|refine tr ?_|refine br ?_
  refine zcn U zbd yS U U U (zw.of_blk0 kB) ?_
  exact hno hcA cB (by rw[zjP hr h6 hat,if_neg h4]) (by decide)
 rintro F wz⟨hF,rfl,h4,h5,h6,t,hat,hmem⟩
 have hdo:doE c x=zcH t x:=by rw[zjB hr h6 hat,if_neg h4,if_neg h5]
 have htn:x.t=t.n:=(zdM hat).2.symm
 refine zad [2,3,4,7] hF ?_
 refine Sr (Og (zh zaU yM U U (zw.of_blk0 kA)) U (Og (zh zbQ za2 U U (zw.of_blk0 k3)) U ?_))
 refine Oc zCN U U U (ztW t ⟨a,k,u,o⟩ _ x _ ((hR0 _ hmem).chg0 hwA) hxA) ?_
 rintro v74 w74⟨o',rfl,h74,c74⟩
 obtain⟨p74,q74,rfl,-⟩:=h74.rws.val
 refine Om U (Oe U U (Oe U U ?_))
 refine Oq (zH zgX U U ?_)
 intro b9 w9 e9 n9 c9 k9
 refine Oq (zu yM U U U U k9 (by simp) (za6.one h74.sch _ _ _) ?_)
 intro wC nC cC kC
 refine Oa U (E5 2 3 4 9 10 U ?_)
 have kC:zQ wC b9 67 [a,k,u,.slice p74 (zb4 t x).length q74]:=kC
 have hs74:=c74.size
 have hs9:=c9.size
 have hcC:zl [] wz wC:=(c74.trans c9).own cC (by intro y hy;simp at hy;omega)
 have h74C:zl [] w74 wC:=c9.own cC (by intro y hy;simp at hy;omega)
 have k2:=k2.chg0 hcC
 have k3:=k3.chg0 hcC
 have k4:=k4.chg0 hcC
 have hwC:=hwA.trans hcC
 have h74:=h74.chg0 h74C
 refine zf (zf ?_)
 by_cases he:zcH t x=0
 ·refine za (Om U ?_)
  refine Og (vf (zM U U) (by simp[he])) U ?_
  refine E6 2 3 4 9 10 78 U (zb U (zn (zf ?_)))
  have hrt:RT wC ((⟨t.n,t.s,zb4 t x⟩:Tb),(⟨a,k,u,.slice p74 (zb4 t x).length q74⟩:RV)):=h74
  have kt:wC.cell? ⟨b3,1,none⟩=some (.string t.n):=by rw[←htn];exact k3.cell' (i:=1) rfl
  refine za (Og (zh zbd yS U U (zw.of_blk0 k2)) U (Od ye U (Ol yK U kt (Og (zh zaU yM U U (zw.of_blk0 kC)) U ?_))))
  refine Oc zxr U U U (zjZ _ c ⟨t.n,t.s,zb4 t x⟩ ⟨a,k,u,.slice p74 (zb4 t x).length q74⟩ _ (h.chg0 hwC) (by omega) hrt) ?_
  rintro v85 w85⟨v',rfl,h30,c30⟩
  obtain⟨p30,q30,rfl,-⟩:=h30.val
  refine Oq (zu yS U U U U (k4.chg0 c30) (by simp) (by intro y hy;simp at hy;subst hy;rfl) ?_)
  intro wB nB cB kB
  refine Oa U (E2 4 5 U (zk ?_))
  refine zcn U zbd yS U U U (zw.of_blk0 kB) ?_
  have he0:doE c x=0:=by rw[hdo,he]
  refine⟨_,by rw[he0];rfl,?_,(hwC.trans c30).own cB (by intro y hy;simp at hy;omega)⟩
  rw[zBl he0 h4 h5 h6 hat]
  exact h30.hm (Hm.rcat (k4.chg0 c30)) cB
 refine za (Om U ?_)
 refine Og (vt (zM U U) (by simp[he])) U ?_
 refine E6 2 3 4 9 10 78 U (ze U (Sr (Og (zh zbd yS U U (zw.of_blk0 k2)) U (Om U ?_))))
 refine Oq (zu yS U U U U k4 (by simp) (by intro y hy;simp at hy;subst hy;rfl) ?_)
 intro wB nB cB kB
 refine Oa U (E2 4 5 U (zk ?_))
 repeat first|refine tr ?_|refine br ?_
 refine zcn U zbd yS U U U (zw.of_blk0 kB) ?_
 exact hno (hcA.trans hcC) cB (hdo) (he)
set_option maxHeartbeats 1000000 in
theorem zuV(v ve:Va)(c:Cat)(xs:List EvT)(w:Wl)(h:zbI w v c)(hok:za0 c)(hx:zdj w ve xs)(hm:∀x∈xs,zcK x)(hl:xs.length≤1048576)(hN:Lw.n≤w.heap.size) :
 zV TP 23 #[.agg #[v],ve] w fun r w'=>∃v',r=.tuple #[.agg #[v'],Ii (zf2 c xs 0).1,Ii (zf2 c xs 0).2]∧zbI w' v' (zj9 c xs)∧zl [] w w':=by
 obtain⟨pv,cv,rfl,hcv⟩:=h.val
 obtain⟨pe,ce,rfl,hce⟩:=hx.val
 have hrng:∀x∈xs,∀y∈x.w,y.Rng:=by
  obtain⟨L,_,h2,rfl⟩:=hx
  intro x hx
  obtain⟨p,hp,rfl⟩:=List.mem_map.1 hx
  exact(h2 p hp).rw
 refine A2 Tryz.func23 U U ?_
 refine Sr ?_
 refine Ob U U ?_
 intro b2 w2 e2 n2 c2 k2
 refine Oq (zH zhI U U ?_)
 intro b4 w4 e4 n4 c4 k4
 refine Oa U (Oa U (E3 1 2 4 U ?_))
 have hs2:=c2.size
 have hs4:=c4.size
 have hcw4:=c2.trans c4
 have k2:zQ w4 b2 48 [.slice pv c.length cv]:=k2.chg0 c4
 refine Sr (Og (zh zbd yS U U (zw.of_blk0 k2)) U ?_)
 refine Oq (zH zhI U U ?_)
 intro b7 w7 e7 n7 c7 k7
 refine Oq (zu yS U U U U k7 (by simp) (by intro y hy;simp at hy;subst hy;rfl) ?_)
 intro wA nA cA kA
 refine E4 1 2 4 7 U ?_
 have hs7:=c7.size
 have kA:zQ wA b7 48 [.slice pv c.length cv]:=kA
 have hcA:zl [] w4 wA:=c7.own cA (by intro y hy;simp at hy;omega)
 refine zS (fun F wx=>∃v',prune [4,7] F=[(4,Pt b4),(7,Pt b7)]∧zl [] w4 wx∧zQ wx b7 48 [v']∧zbI wx v' (zcS c xs)∧∀k y,xs[k]? = some y→doE (zcS c (xs.take k)) y=0) ?_ ?_
 ·refine Sr (Oa U (E5 1 2 4 7 8 U (zq ?_)))
  refine zT [1,2,4,7,8] (fun m F wx=>∃(j:Nat) (v':Va),m=xs.length-j∧j≤xs.length∧F=[(1,.slice pe xs.length ce),(2,Pt b2),(4,Pt b4),(7,Pt b7),(8,Ii j)]∧zl [] w4 wx∧zQ wx b7 48 [v']∧zbI wx v' (zcS c (xs.take j))∧∀k y,k<j→xs[k]? = some y→doE (zcS c (xs.take k)) y=0) (m:=xs.length-0) ⟨0,_,rfl,Nat.zero_le _,rfl,hcA,kA,h.chg0 (hcw4.trans hcA),by omega⟩ ?_
  rintro m F wx⟨j,v',rfl,hj,rfl,hcx,k7,hv',hall⟩
  have hcw:=hcw4.trans hcx
  have hsw:=hcw.size
  refine zf (zf ?_)
  by_cases hlt:j<xs.length
  ·refine za (Om U (Om U (On zgC U ?_)))
   refine Og (vt (zz U U) (dt (by omega))) U ?_
   refine E6 1 2 4 7 8 15 U (ze U (zn ?_))
   have hq:xs[j]? = some xs[j]:=by simp[hlt]
   have htk:=List.take_succ_eq_append_getElem hlt
   have hmem:=List.getElem_mem hlt
   generalize xs[j]=x at hq htk hmem
   have hokj:za0 (zcS c (xs.take j)):=hok.all fun x hx=>hrng x (List.mem_of_mem_take hx)
   obtain⟨b,off,cap,e,hve,hcell,hev⟩:=(hx.chg0 hcw).at hq
   cases hve
   generalize hQ:zcS c (xs.take j)=q at hv' hokj
   obtain⟨pr,cr,rfl,-⟩:=hv'.val
   refine zf (zq ?_)
   refine zS (fun F wz=>∃(b9:Nat) (v2:Va),F=[(1,.slice (some ⟨b,off,none⟩) xs.length ce),(2,Pt b2),(4,Pt b4),(7,Pt b7),(8,Ii j),(9,Pt b9),(10,Ii (doE q x))]∧zQ wz b9 48 [v2]∧zbI wz v2 (doC q x)∧zl [] wx wz) ?_ ?_
   ·have hC:=(zl.drew [] wx)
    refine zft (fun wz=>zl [] wx wz) (zbp.seq [0,1,2,3,4] (.two 5 (zbp.seq [6,7,8,9,10,11] .done) 9 (zbp.seq [5,6,7,8,10,11] .done))) mix (by kernel_rfl) hC ?_
    refine zd0 U U (gn U) (fun wz hz=>zh zbd yS U U (zw.of_blk0 (k7.chg0 hz))) U U ?_
    refine z9 U U (gn U) (fun _=>zar U) U U ?_
    refine z9 U U (gn U) (fun _=>zar U) U U ?_
    refine z9 U U (gn U) (fun _=>zi zgC za2 U U _ U hlt) U U ?_
    refine zd0 U U (gn U) (fun wz hz=>zh zbQ za2 U U (hcell.chg0 hz)) U U ?_
    refine zfy ?_ ?_
    ·refine zah U U (gn U) (yR zxw U U U U (zn3 _ q e x _ (hv'.chg0 hC) hokj (hev.chg0 hC) (hm x hmem) (Nat.le_trans hN (hcw.trans hC).size)) ?_)
     rintro v24 w24⟨v2,rfl,h24,c24⟩
     obtain⟨p24,q24,rfl,-⟩:=h24.val
     have hN24:=hC.size
     have hC:=hC.trans c24
     refine⟨.inl hC,?_⟩
     refine z9 U U (gn U) (fun _=>zar U) U U ?_
     refine z9 U U (gn U) (fun _=>zL U U) U U ?_
     refine z9 U U (gn U) (fun _=>zL U U) U U ?_
     refine zah U U (gn U) (zH zhI U U ?_)
     intro b9 w9 e9 n9 c9 k9
     have hN9:=hC.size
     have hC:=hC.trans c9
     have h24:=h24.chg0 c9
     refine⟨.inl hC,?_⟩
     refine zah U U (gn U) (zu yS U U U U k9 (by simp) (by intro y hy;simp at hy;subst hy;rfl) ?_)
     intro wB nB cB kB
     have hC:=hC.own cB (by intro y hy;simp at hy;omega)
     refine⟨.inl hC,?_⟩
     refine z9 U U (gn U) (fun _=>yj U) U U ?_
     refine zc4 [1,2,4,7,8,9,10] (F':=[(1,_),(2,_),(4,_),(7,_),(8,_),(9,_),(10,_)]) U ?_
     exact⟨b9,_,U,kB,h24.hm (Hm.rcat k9) cB,hC⟩
    refine zah U U (gn U) (zH zhI U U ?_)
    intro b9 w9 e9 n9 c9 k9
    have hN9:=hC.size
    have hC:=hC.trans c9
    refine⟨.inl hC,?_⟩
    refine zah U U (gn U) (yR zxw U U U U (zn3 _ q e x _ (hv'.chg0 hC) hokj (hev.chg0 hC) (hm x hmem) (Nat.le_trans hN (hcw.trans hC).size)) ?_)
    rintro v24 w24⟨v2,rfl,h24,c24⟩
    obtain⟨p24,q24,rfl,-⟩:=h24.val
    have hN24:=hC.size
    have hC:=hC.trans c24
    have k9:=k9.chg0 c24
    refine⟨.inl hC,?_⟩
    refine z9 U U (gn U) (fun _=>zar U) U U ?_
    refine z9 U U (gn U) (fun _=>zL U U) U U ?_
    refine z9 U U (gn U) (fun _=>zL U U) U U ?_
    refine zah U U (gn U) (zu yS U U U U k9 (by simp) (by intro y hy;simp at hy;subst hy;rfl) ?_)
    intro wB nB cB kB
    have hC:=hC.own cB (by intro y hy;simp at hy;omega)
    refine⟨.inl hC,?_⟩
    refine z9 U U (gn U) (fun _=>yj U) U U ?_
    refine zc4 [1,2,4,7,8,9,10] (F':=[(1,_),(2,_),(4,_),(7,_),(8,_),(9,_),(10,_)]) U ?_
    exact⟨b9,_,U,kB,h24.hm (Hm.rcat k9) cB,hC⟩
   rintro F wz⟨b9,v2,rfl,k9,hv2,hcz⟩
   refine zf (zf ?_)
   by_cases he:doE q x=0
   ·refine za (Om U ?_)
    refine Og (vf (zM U U) (by simp[he])) U ?_
    refine E8 1 2 4 7 8 9 10 28 U (zb U (zn ?_))
    obtain⟨p2,q2,rfl,-⟩:=hv2.val
    refine za (Og (zh zbd yS U U (zw.of_blk0 k9)) U ?_)
    refine Oq (zu yS U U U U (k7.chg0 hcz) (by simp) (by intro y hy;simp at hy;subst hy;rfl) ?_)
    intro wC nC cC kC
    refine N5 1 2 4 7 8 U (zm (za (Om U ?_)))
    refine Og (zI U U (by omega)) U ?_
    refine Oa U (N5 1 2 4 7 8 U ?_)
    refine⟨xs.length-(j+1),by omega,j+1,_,rfl,by omega,rfl,(hcx.trans hcz).own cC (by intro y hy;simp at hy;omega),kC,?_,fun k y hk hy=>?_⟩
    ·rw[htk,ziq,hQ]
     exact hv2.hm (Hm.rcat (k7.chg0 hcz)) cC
    rcases Nat.lt_or_ge k j with h|h
    ·exact hall k y h hy
    have:k=j:=by omega
    subst this
    rw[hq]at hy
    cases hy
    rw[hQ];exact he
   refine za (Om U ?_)
   refine Og (vt (zM U U) (by simp[he])) U ?_
   refine E8 1 2 4 7 8 9 10 28 U (ze U (Sr ?_))
   refine Og (zh zbd yS U U (zw.of_blk0 (k2.chg0 (hcx.trans hcz)))) U ?_
   refine Om U (Om U ?_)
   refine Oq (zu yS U U U U (k4.chg0 (hcx.trans hcz)) (by simp) (by intro y hy;simp at hy;subst hy;rfl) ?_)
   intro wC nC cC kC
   refine Oa U (Oa U (E3 4 5 6 U (zk ?_)))
   repeat first|refine tr ?_|refine br ?_
   refine zk6 U zbd yS U U U U (zw.of_blk0 kC) ?_
   have hcC:zl [] w wC:=((hcw4.trans hcx).trans hcz).own cC (by intro y hy;simp at hy;omega)
   have e1:zf2 c xs 0=(0+j,doE (zcS c (xs.take j)) x):=zjc hq hall (by rw[hQ];exact he)
   rw[hQ,Nat.zero_add]at e1
   refine⟨_,by rw[e1];rfl,?_,hcC⟩
   unfold zj9
   rw[e1,if_neg he]
   exact h.chg0 hcC
  refine za (Om U (Om U (On zgC U ?_)))
  refine Og (vf (zz U U) (df (by omega))) U ?_
  refine E6 1 2 4 7 8 15 U (zb U ?_)
  refine zJ ?_
  repeat first|refine te ?_|refine bo rfl ?_
  refine zt _ ?_
  rw[Tl (by omega)]at hv'
  exact⟨v',rfl,hcx,k7,hv',fun k y hy=>hall k y (by have:=(Gs hy).1;omega) hy⟩
 rintro F wx⟨v',hF,hcx,k7,hv',hall⟩
 refine zad [4,7] hF ?_
 obtain⟨pr,cr,rfl,-⟩:=hv'.val
 refine Sr (Og (zh zbd yS U U (zw.of_blk0 k7)) U ?_)
 refine Oq (zu yS U U U U (k4.chg0 hcx) (by simp) (by intro y hy;simp at hy;subst hy;rfl) ?_)
 intro wC nC cC kC
 refine Oa U (Oa U (E3 4 5 6 U (zk ?_)))
 refine zk6 U zbd yS U U U U (zw.of_blk0 kC) ?_
 have hcC:zl [] w wC:=(hcw4.trans hcx).own cC (by intro y hy;simp at hy;omega)
 have e1:zf2 c xs 0=(0,0):=zlv hall
 refine⟨_,by rw[e1];rfl,?_,hcC⟩
 unfold zj9
 rw[e1,if_pos rfl]
 exact hv'.hm (Hm.rcat (k4.chg0 hcx)) cC
theorem zea(i:Int)(w:Wl):zV TP 12 #[Ii i] w fun r w'=>r=Ii i∧w'=w:=by
 refine A1 Tryz.func12 U U ?_
 refine Sr (Oa U (E1 0 U (Sr (Om U (Oa U (E1 2 U (zk ?_)))))))
 refine zy U U ?_
 exact⟨U,U⟩
def zeo(i:Int):List zZ:=[⟨1,i,0,e0⟩]
theorem zpp(i:Int)(w:Wl):zV TP 31 #[Ii i] w fun r w'=>∃b,r=.slice (some ⟨b,0,none⟩) 1 1∧w.heap.size≤b∧zQ w' b 111 (fl zZ.cs (zeo i))∧zl [] w w':=by
 refine A1 Tryz.func31 U U ?_
 refine Sr (Oa U (E1 0 U (Sr (Om U ?_))))
 refine Og (zN zjm zc3 U (vs:=[_,_]) U (css:=[_,_]) ⟨U,U,trivial⟩ U U (cs:=[_,_,_,_]) U) U ?_
 refine Oq (zA zjE U (vs:=[_]) U (css:=[_]) ⟨U,trivial⟩ U U (cs:=[_,_,_,_]) U U ?_)
 intro b5 w5 e5 n5 c5 k5
 refine Oa U (E1 2 U (zk ?_))
 refine zy U U ?_
 exact⟨_,rfl,by omega,k5,c5⟩
theorem zqb{i:Int}{b:Nat}{w:Wl}(k:zQ w b 111 (fl zZ.cs (zeo i))):yd w (.slice (some ⟨b,0,none⟩) 1 1) (zeo i):=zP.of_blk (l:=zeo i) zbm zZ.one k (by simp[zeo,maxLen])
def zkj:yL:=⟨[⟨⟨#[97]⟩,1,1,false⟩],[0],[]⟩
def za4(n:By):EvT:=⟨5,n,zfG,[],[],[]⟩
def zer(m:List (By×By)):EvT:=⟨6,e0,zfG,[],[],m⟩
def zbJ(n:By):EvT:=⟨4,n,zkj,[],[],[]⟩
def ziQ:EvV:=⟨zaQ,zaQ,zaQ,zaQ,zaQ,zaQ⟩
theorem zic(n:By)(w:Wl):zbH w ziQ (za4 n):=⟨zg4 w,zP.nil _ _ _ _,zP.nil _ _ _ _,zP.nil _ _ _ _,by simp[za4],by simp[za4],by simp[za4]⟩
theorem zkg(n:By)(w:Wl):zV TP 22 #[.string n] w fun r w'=>r=.agg (evC (za4 n) ziQ).toArray∧zl [] w w':=by
 refine A1 Tryz.func22 U U ?_
 refine Sr ?_
 refine Oq (zH zhV U U ?_)
 intro b2 w2 e2 n2 c2 k2
 refine E2 0 2 U (Sr (Om U ?_))
 refine Og (zN zrj zhV U (vs:=[_,_]) U (css:=[_,_]) ⟨U,U,trivial⟩ U U (cs:=[_,_,_,_,_,_,_,_]) U) U ?_
 refine Oq (zu za2 U U U U k2 (by simp) (by intro y hy;simp at hy;rcases hy with rfl|rfl|rfl<;>rfl) ?_)
 intro wB nB cB kB
 refine E1 2 U (zk ?_)
 refine zfH U zbQ za2 U U (zw.of_blk0 kB) ?_
 exact⟨rfl,c2.own cB (by intro y hy;simp at hy;omega)⟩
theorem zjH(vm:Va)(m:List (By×By))(w:Wl)(hm:zdd w vm m):zV TP 30 #[vm] w fun r w'=>r=.agg (evC (zer m) { ziQ with m:=vm }).toArray∧zbH w' { ziQ with m:=vm } (zer m)∧zl [] w w':=by
 obtain⟨pm,cm,rfl,-⟩:∃p q,vm=.slice p m.length q∧m.length≤q:=zP.val hm
 refine A1 Tryz.func30 U U ?_
 refine Sr ?_
 refine Oq (zH zhV U U ?_)
 intro b2 w2 e2 n2 c2 k2
 refine E2 0 2 U (Sr (Om U ?_))
 refine Og (zei zrj zhV U (qs:=[(0,_),(5,_)]) U (css:=[_,_]) ⟨U,U,trivial⟩ (cs:=[_,_,_,_,_,_,_,_]) U) U ?_
 refine Oq (zu za2 U U U U k2 (by simp) (by intro y hy;simp at hy;rcases hy with rfl|rfl|rfl|rfl<;>rfl) ?_)
 intro wB nB cB kB
 refine E1 2 U (zk ?_)
 refine zfH U zbQ za2 U U (zw.of_blk0 kB) ?_
 have hc:zl [] w wB:=c2.own cB (by intro y hy;simp at hy;omega)
 exact⟨rfl,⟨zg4 _,zP.nil _ _ _ _,zP.nil _ _ _ _,zP.chg0 hm hc,by simp[zer],by simp[zer],by simp[zer]⟩,hc⟩
theorem zke(n:By)(w:Wl):zV TP 29 #[.string n] w fun r w'=>∃e,r=.agg (evC (zbJ n) e).toArray∧zbH w' e (zbJ n)∧zl [] w w':=by
 refine A1 Tryz.func29 U U ?_
 refine Sr ?_
 refine Oq (zH zhV U U ?_)
 intro b2 w2 e2 n2 c2 k2
 refine E2 0 2 U (Sr (Om U ?_))
 refine Og (zN zwQ zk8 U (vs:=[_,_,_]) U (css:=[_,_,_]) ⟨U,U,U,trivial⟩ U U (cs:=[_,_,_,_]) U) U ?_
 refine Oq (zA zC1 U (vs:=[_]) U (css:=[_]) ⟨U,trivial⟩ U U (cs:=[_,_,_,_]) U U ?_)
 intro b5 w5 e5 n5 c5 k5
 refine Oq (zA zyI U (vs:=[_]) U (css:=[_]) ⟨U,trivial⟩ U U (cs:=[_]) U U ?_)
 intro b6 w6 e6 n6 c6 k6
 refine Og (zN zCC zA6 U (vs:=[_,_]) U (css:=[_,_]) ⟨U,U,trivial⟩ U U (cs:=[_,_,_]) U) U ?_
 refine Og (zN zrj zhV U (vs:=[_,_,_]) U (css:=[_,_,_]) ⟨U,U,U,trivial⟩ U U (cs:=[_,_,_,_,_,_,_,_]) U) U ?_
 refine Oq (zu za2 U U U U (k2.chg0 (c5.trans c6)) (by simp) (by intro y hy;simp at hy;rcases hy with rfl|rfl|rfl|rfl|rfl<;>rfl) ?_)
 intro wB nB cB kB
 refine E1 2 U (zk ?_)
 refine zfH U zbQ za2 U U (zw.of_blk0 kB) ?_
 have hs5:=c5.size
 have hs6:=c6.size
 have k5B:=(k5.chg0 c6).chg cB (by simp;omega)
 have k6B:=k6.chg cB (by simp;omega)
 refine⟨⟨_,_,_,_,_,_⟩,rfl,⟨⟨?_,?_,⟨[],Rd.nil _ 1,trivial,by simp⟩,?_⟩,zP.nil _ _ _ _,zP.nil _ _ _ _,zP.nil _ _ _ _,by simp[zbJ],by simp[zbJ],by simp[zbJ]⟩,((c2.trans c5).trans c6).own cB (by intro y hy;simp at hy;omega)⟩
 ·exact zP.of_blk (l:=zkj.cols) zaB Col.one k5B (by simp[zkj,maxLen])
 ·exact zP.of_blk (l:=zkj.key) (fun _=>rfl) (fun x u hu=>by simp[ics]at hu;subst hu;rfl) k6B (by simp[zkj,maxLen])
 intro v hv b hb
 simp only[List.mem_cons,List.not_mem_nil,or_false]at hv
 replace hb:=zta hb
 rcases hv with rfl|rfl|rfl
 ·simp[zv]at hb
  subst hb
  exact .inr ⟨_,_,_,k5B,U⟩
 ·simp[zv]at hb
  subst hb
  exact .inr ⟨_,_,_,k6B,U⟩
 simp[zv]at hb
theorem zuI{P:Program}{n:Nat}{F:Fr}{w:Wl}{dst:Option Nat}{ty:TypeId}{pos:String}{af:Array Edge}{gd:Option (Nat×Bool)}{x y:Operand}{t u:TypeId}{i j:Int}(hx:ev F x=some (Ii i))(hy:ev F y=some (Ii j)):Vl P n F ⟨dst,.binOp .add t x y u,ty,pos,af,gd⟩ w (Ii (IntKind.i64.wrap (i+j))) w:=
 fun a ha=>by simp[execOp,ha.eval hx,ha.eval hy,eqGuard,binOp,Op.intArith]
section
variable {α:Type} {w:Wl} {e k j i:Nat} {f:α→List Va} {g:α→By} {p:Option Addr} {c:Nat} {l:List α}
theorem zP.pick(hf:∀x,(f x).length=k)(hg:∀x,(f x)[i]? = some (.string (g x)))(h:zP w e k f (.slice p l.length c) l)(j:Nat) :
 ∃b o s,j<l.length→p=some ⟨b,o,none⟩∧(∃y,l[j]? = some y∧s=g y)∧w.cell? ⟨b,o+j*k+i,none⟩=some (.string s):=by
 by_cases hj:j<l.length
 ·have hx:l[j]? = some l[j]:=by simp[hj]
  obtain⟨b,o,cap,hv,hc⟩:=zP.at hf h hx
  cases hv
  exact⟨b,o,g l[j],fun _=>⟨U,⟨_,hx,U⟩,hc i _ (hg _)⟩⟩
 exact⟨0,0,e0,fun h=>absurd h hj⟩
theorem zca.pick{E:Nat}{ls:List (List α)}(h:zca w E e k f (.slice p ls.length c) ls)(j:Nat) :
 ∃b o q n d,j<ls.length→p=some ⟨b,o,none⟩∧(∃y,ls[j]? = some y∧n=y.length)∧w.cell? ⟨b,o+j*1,none⟩=some (.slice q n d):=by
 by_cases hj:j<ls.length
 ·have hx:ls[j]? = some ls[j]:=by simp[hj]
  obtain⟨b,o,cap,u,hv,hc,ha⟩:=zca.at h hx
  cases hv
  obtain⟨q,d,rfl,-⟩:=zP.val ha
  exact⟨b,o,q,_,d,fun _=>⟨U,⟨_,hx,U⟩,hc⟩⟩
 exact⟨0,0,none,0,0,fun h=>absurd h hj⟩
theorem zdm{a b:Nat}(h:decide ((a:Int)<(b:Int))=true):a<b:=by have:=of_decide_eq_true h;omega
end
def zvu(x:EvT):Bool:=decide (x.t.size≤60∧x.o.length≤12∧x.w.length≤12∧x.m.length≤8∧x.s.cols.length≤12∧x.s.key.length≤12∧x.s.uq.length≤6)
def zmr(x:EvT)(j:Nat):Bool:=
 (x.o[j]?).any (fun y=>decide (300<y.b.size)) || (x.w[j]?).any (fun y=>decide (300<y.b.size)) || (x.s.cols[j]?).any (fun y=>decide (60<y.n.size)) || (x.s.uq[j]?).any (fun y=>decide (12<y.length)) ||
 (x.m[j]?).any (fun y=>decide (120<IntKind.i64.wrap ((y.1.size:Int)+(y.2.size:Int))))
def zjt(x:EvT):Bool:=zvu x && (List.range 12).all fun j => !zmr x j
theorem zj7{α:Type}{l:List α}{j:Nat}{P:Bool}{f:α→Bool}(h:j<l.length→∃y,l[j]? = some y∧P=f y):(decide ((j:Int)<(l.length:Int)) && P)=(l[j]?).any f:=by
 by_cases hj:j<l.length
 ·obtain⟨y,h1,rfl⟩:=h hj
  rw[h1,dt (by omega)]
  rfl
 rw[df (by omega),List.getElem?_eq_none (by omega)]
 rfl
def zlC(x:EvT):Prop:=∀p∈x.m,p.1.size≤9223372036854775807∧p.2.size≤9223372036854775807
theorem zyq{x:EvT}(h:zjt x=true)(hmn:zlC x):zcK x:=by
 simp only[zjt,Bool.and_eq_true,zvu,decide_eq_true_eq,List.all_eq_true,List.mem_range,Bool.not_eq_true',zmr,Bool.or_eq_false_iff]at h
 obtain⟨⟨h1,h2,h3,h4,h5,h6,h7⟩,hj⟩:=h
 refine⟨⟨by omega,by omega,by omega,fun l hl=>?_⟩,by omega,by omega,by omega,by omega,fun c hc=>?_,hmn⟩
 ·obtain⟨j,hj'⟩:=List.getElem?_of_mem hl
  have hlt:=(Gs hj').1
  have:=(hj j (by omega)).1.2
  rw[hj']at this
  simp at this
  omega
 obtain⟨j,hj'⟩:=List.getElem?_of_mem hc
 have hlt:=(Gs hj').1
 have:=(hj j (by omega)).1.1.2
 rw[hj']at this
 simp at this
 omega
set_option maxHeartbeats 2000000 in
theorem zps(e:EvV)(x:EvT)(w:Wl)(hx:zbH w e x):zV TP 24 #[.agg (evC x e).toArray] w fun r w'=>r=.bool (zjt x)∧zl [] w w':=by
 obtain⟨c,ky,u,o,n,m⟩:=e
 obtain⟨pc,cc,rfl,-⟩:∃p q,c=.slice p x.s.cols.length q∧x.s.cols.length≤q:=zP.val hx.sch.cols
 obtain⟨pk,ck,rfl,-⟩:∃p q,ky=.slice p x.s.key.length q∧x.s.key.length≤q:=zP.val hx.sch.key
 obtain⟨pu,cu,rfl,-⟩:∃p q,u=.slice p x.s.uq.length q∧x.s.uq.length≤q:=zca.val hx.sch.uq
 obtain⟨po,co,rfl,-⟩:∃p q,o=.slice p x.o.length q∧x.o.length≤q:=zP.val hx.old
 obtain⟨pn,cn,rfl,-⟩:∃p q,n=.slice p x.w.length q∧x.w.length≤q:=zP.val hx.new
 obtain⟨pm,cm,rfl,-⟩:∃p q,m=.slice p x.m.length q∧x.m.length≤q:=zP.val hx.nm
 refine A1 Tryz.func24 U U ?_
 refine Sr ?_
 refine Ob U U ?_
 intro b1 w1 e1 n1 c1 k1
 refine Oa U (E1 1 U ?_)
 have hx:=hx.chg0 c1
 generalize hE:evC x ⟨.slice pc x.s.cols.length cc,.slice pk x.s.key.length ck,.slice pu x.s.uq.length cu,.slice po x.o.length co,.slice pn x.w.length cn,.slice pm x.m.length cm⟩=E at *
 have k1:zQ w1 b1 39 E:=k1
 have f1:∀{wz:Wl},zl [] w1 wz→wz.cell? ⟨b1,1,none⟩=some (.string x.t):=fun hz=>(k1.chg0 hz).cell' (i:=1) (by rw[←hE];rfl)
 have f2:∀{wz:Wl},zl [] w1 wz→wz.cell? ⟨b1,2,none⟩=some (.slice pc x.s.cols.length cc):=fun hz=>(k1.chg0 hz).cell' (i:=2) (by rw[←hE];rfl)
 have f3:∀{wz:Wl},zl [] w1 wz→wz.cell? ⟨b1,3,none⟩=some (.slice pk x.s.key.length ck):=fun hz=>(k1.chg0 hz).cell' (i:=3) (by rw[←hE];rfl)
 have f4:∀{wz:Wl},zl [] w1 wz→wz.cell? ⟨b1,4,none⟩=some (.slice pu x.s.uq.length cu):=fun hz=>(k1.chg0 hz).cell' (i:=4) (by rw[←hE];rfl)
 have f5:∀{wz:Wl},zl [] w1 wz→wz.cell? ⟨b1,5,none⟩=some (.slice po x.o.length co):=fun hz=>(k1.chg0 hz).cell' (i:=5) (by rw[←hE];rfl)
 have f6:∀{wz:Wl},zl [] w1 wz→wz.cell? ⟨b1,6,none⟩=some (.slice pn x.w.length cn):=fun hz=>(k1.chg0 hz).cell' (i:=6) (by rw[←hE];rfl)
 have f7:∀{wz:Wl},zl [] w1 wz→wz.cell? ⟨b1,7,none⟩=some (.slice pm x.m.length cm):=fun hz=>(k1.chg0 hz).cell' (i:=7) (by rw[←hE];rfl)
 have hr:=zl.refl [] w1
 refine zf (Sr (Od ye U (Ol yK U (f1 hr) (Og (yW st9 U) U (Og (zU U U) U (Om U ?_))))))
 apply zeQ (t:=13)
 case h0=>
  intro H
  refine Oz U U (Oz U U (Oz U U (Oz U U (Ot U ?_))))
  exact yH [9,10,11,12] U H
 case h1=>
  intro hc H
  refine Oy U U (zd y6 U) (Oy U U (zg yY U (f5 hr)) (Oy U U (zX yC U) (Oy U U (zU U U) (Of U ?_))))
  exact yH [9,10,11,12] U H
 refine Om U ?_
 apply zeQ (t:=19)
 case h0=>
  intro H
  refine Oz U U (Oz U U (Oz U U (Oz U U (Ot U ?_))))
  exact yH [15,16,17,18] U H
 case h1=>
  intro hc H
  refine Oy U U (zd zaS U) (Oy U U (zg yY U (f6 hr)) (Oy U U (zX yC U) (Oy U U (zU U U) (Of U ?_))))
  exact yH [15,16,17,18] U H
 refine Om U ?_
 apply zeQ (t:=25)
 case h0=>
  intro H
  refine Oz U U (Oz U U (Oz U U (Oz U U (Ot U ?_))))
  exact yH [21,22,23,24] U H
 case h1=>
  intro hc H
  refine Oy U U (zd y8 U) (Oy U U (zg zcv U (f7 hr)) (Oy U U (zX zaA U) (Oy U U (zU U U) (Of U ?_))))
  exact yH [21,22,23,24] U H
 refine Om U ?_
 apply zeQ (t:=32)
 case h0=>
  intro H
  refine Oz U U (Oz U U (Oz U U (Oz U U (Oz U U (Ot U ?_)))))
  exact yH [27,28,29,30,31] U H
 case h1=>
  intro hc H
  refine Oy U U (zd za7 U) (Oy U U (zd yp U) (Oy U U (zg za5 U (f2 hr)) (Oy U U (zX zaJ U) (Oy U U (zU U U) (Of U ?_)))))
  exact yH [27,28,29,30,31] U H
 refine Om U ?_
 apply zeQ (t:=39)
 case h0=>
  intro H
  refine Oz U U (Oz U U (Oz U U (Oz U U (Oz U U (Ot U ?_)))))
  exact yH [34,35,36,37,38] U H
 case h1=>
  intro hc H
  refine Oy U U (zd za7 U) (Oy U U (zd zbn U) (Oy U U (zg zcb U (f3 hr)) (Oy U U (zX zaE U) (Oy U U (zU U U) (Of U ?_)))))
  exact yH [34,35,36,37,38] U H
 refine Om U ?_
 apply zeQ (t:=46)
 case h0=>
  intro H
  refine Oz U U (Oz U U (Oz U U (Oz U U (Oz U U (Ot U ?_)))))
  exact yH [41,42,43,44,45] U H
 case h1=>
  intro hc H
  refine Oy U U (zd za7 U) (Oy U U (zd zat U) (Oy U U (zg zcB U (f4 hr)) (Oy U U (zX zbb U) (Oy U U (zU U U) (Of U ?_)))))
  exact yH [41,42,43,44,45] U H
 refine E2 1 46 U ?_
 refine zR U (fun hT=>?_) (fun hF=>?_)
 ·refine Sr (Oa U (E1 2 U (zk ?_)))
  repeat first|refine tr ?_|refine br ?_
  refine zy U U ?_
  refine⟨?_,c1⟩
  have:zvu x=false:=by
   simp only[Bool.or_eq_true,decide_eq_true_eq]at hT
   refine df fun h=>?_
   omega
  simp[zjt,this]
 refine zn ?_
 have hFE:zvu x=true:=by
  simp only[Bool.or_eq_false_iff,decide_eq_false_iff_not]at hF
  exact dt (by omega)
 refine zS (fun F wx=>prune [0] F=[]∧zl [] w1 wx∧∀i,i<12→zmr x i=false) ?_ ?_
 ·refine Sr (Oa U (E2 1 3 U (zq ?_)))
  refine zT [1,3] (fun m F wx=>∃j:Nat,m=12-j∧j≤12∧F=[(1,Pt b1),(3,Ii j)]∧zl [] w1 wx∧∀i,i<j→zmr x i=false) (m:=12-0) ⟨0,rfl,Nat.zero_le _,rfl,zl.refl _ _,by omega⟩ ?_
  rintro k F wx⟨j,rfl,hj,rfl,hcx,hall⟩
  refine zf (zf ?_)
  by_cases hlt:j<12
  ·refine za (Om U ?_)
   refine Og (vt (zz U U) (dt (by omega))) U ?_
   refine E3 1 3 48 U (ze U (zn ?_))
   obtain⟨bo,oo,so,ho⟩:=zP.pick (i:=3) (g:=zZ.b) zbm (fun _=>rfl) hx.old j
   obtain⟨bw,ow,sw,hw⟩:=zP.pick (i:=3) (g:=zZ.b) zbm (fun _=>rfl) hx.new j
   obtain⟨bc,oc,sc,hc'⟩:=zP.pick (i:=0) (g:=Col.n) zaB (fun _=>rfl) hx.sch.cols j
   obtain⟨bu,ou,qu,nu,du,hu⟩:=zca.pick hx.sch.uq j
   obtain⟨bm,om,sm,hm0⟩:=zP.pick (i:=0) (g:=Prod.fst) zbt (fun _=>rfl) hx.nm j
   obtain⟨bm',om',sm',hm1⟩:=zP.pick (i:=1) (g:=Prod.snd) zbt (fun _=>rfl) hx.nm j
   have hfj:(((((decide ((j:Int)<(x.o.length:Int)) && decide ((300:Int)<(so.size:Int))) || (decide ((j:Int)<(x.w.length:Int)) && decide ((300:Int)<(sw.size:Int)))) || (decide ((j:Int)<(x.s.cols.length:Int)) && decide ((60:Int)<(sc.size:Int)))) || (decide ((j:Int)<(x.s.uq.length:Int)) && decide ((12:Int)<(nu:Int)))) || (decide ((j:Int)<(x.m.length:Int)) && decide ((120:Int)<IntKind.i64.wrap ((sm.size:Int)+(sm'.size:Int)))))=zmr x j:=by
    unfold zmr
    rw[zj7 (f:=fun y:zZ=>decide (300<y.b.size)) fun h=>(let ⟨y,h1,h2⟩:=(ho h).2.1; ⟨y,h1,by rw[h2,decide_eq_decide];omega⟩),
     zj7 (f:=fun y:zZ=>decide (300<y.b.size)) fun h=>(let ⟨y,h1,h2⟩:=(hw h).2.1; ⟨y,h1,by rw[h2,decide_eq_decide];omega⟩),
     zj7 (f:=fun y:Col=>decide (60<y.n.size)) fun h=>(let ⟨y,h1,h2⟩:=(hc' h).2.1; ⟨y,h1,by rw[h2,decide_eq_decide];omega⟩),
     zj7 (f:=fun y:List Int=>decide (12<y.length)) fun h=>(let ⟨y,h1,h2⟩:=(hu h).2.1; ⟨y,h1,by rw[h2,decide_eq_decide];omega⟩),
     zj7 (f:=fun y:By×By=>decide (120<IntKind.i64.wrap ((y.1.size:Int)+(y.2.size:Int)))) fun h=>(let ⟨y,h1,h2⟩:=(hm0 h).2.1;let ⟨y',h3,h4⟩:=(hm1 h).2.1; ⟨y,h1,by rw[h1]at h3;cases h3;rw[h2,h4]⟩)]
   refine zf (zq (zf ?_))
   refine zK (fun wz=>zl [] w1 wz) mix (zeL (by kernel_rfl)) (hcx.trans (zl.drew [] _)) ?_
   refine Tm U (Td y6 U (Tr (fun wz hz=>zg yY U (f5 hz)) U (Tp (fun _=>zX yC U) U (Tp (fun _=>zz U U) U (Tm U ?_)))))
   apply znZ (t:=65)
   case h0=>
    intro H
    refine Tz U U (Tz U U (Tz U U (Tz U U (Tz U U (Tz U U (Tz U U (Tz U U (Tp (fun _=>zG U U) U ?_))))))))
    exact zfM [57,58,59,60,61,62,63,64] U H
   case h1=>
    intro hc H
    refine Tg U U (fun _=>zd y6 U) U ?_
    refine Ts U U (fun wz hz=>zg yY U ((ho (zdm hc)).1▸f5 hz)) U ?_
    refine Tq U U U ?_
    refine Tg U U (fun _=>zi yC yn U U _ U (zdm hc)) U ?_
    refine Tg U U (fun _=>zd zaD U) U ?_
    refine Ts U U (fun wz hz=>zg yK U (hz.cell (ho (zdm hc)).2.2)) U ?_
    refine Tg U U (fun _=>yW st9 U) U (Tg U U (fun _=>zU U U) U (Tp (fun _=>zF U U) U ?_))
    exact zfM [57,58,59,60,61,62,63,64] U H
   refine Tm U ?_
   apply zuo (t:=82)
   case h0=>
    intro H
    refine Tz U U (Tz U U (Tz U U (Tz U U (Tz U U (Tz U U ?_)))))
    refine zaa U U U U U ?_
    refine zaa U U U U U ?_
    refine zaa U U U U U ?_
    refine zaa U U U U U ?_
    refine zaa U U U U U ?_
    refine zaa U U U U U ?_
    refine zaa U U U U U ?_
    refine zaa U U U U U ?_
    refine Tz U U (Tp (fun _=>zF U U) U ?_)
    exact zfM [67,68,69,70,71,72,73,74,75,76,77,78,79,80,81] U H
   case h1=>
    intro hc H
    refine Tq U U U (Tg U U (fun _=>zd zaS U) U (Ts U U (fun wz hz=>zg yY U (f6 hz)) U (Tg U U (fun _=>zX yC U) U (Tg U U (fun _=>zz U U) U (Tq U U U ?_)))))
    apply znZ (t:=81)
    case h0=>
     intro H
     refine Tz U U (Tz U U (Tz U U (Tz U U (Tz U U (Tz U U (Tz U U (Tz U U (Tg U U (fun _=>zG U U) U ?_))))))))
     exact zfM [73,74,75,76,77,78,79,80] U H
    case h1=>
     intro hc H
     refine Tg U U (fun _=>zd zaS U) U ?_
     refine Ts U U (fun wz hz=>zg yY U ((hw (zdm hc)).1▸f6 hz)) U ?_
     refine Tq U U U ?_
     refine Tg U U (fun _=>zi yC yn U U _ U (zdm hc)) U ?_
     refine Tg U U (fun _=>zd zaD U) U ?_
     refine Ts U U (fun wz hz=>zg yK U (hz.cell (hw (zdm hc)).2.2)) U ?_
     refine Tg U U (fun _=>yW st9 U) U (Tg U U (fun _=>zU U U) U (Tg U U (fun _=>zF U U) U ?_))
     exact zfM [73,74,75,76,77,78,79,80] U H
    refine Tp (fun _=>zG U U) U ?_
    exact zfM [67,68,69,70,71,72,73,74,75,76,77,78,79,80,81] U H
   refine Tm U ?_
   apply zuo (t:=101)
   case h0=>
    intro H
    refine Tz U U (Tz U U (Tz U U (Tz U U (Tz U U (Tz U U (Tz U U ?_))))))
    refine zaa U U U U U ?_
    refine zaa U U U U U ?_
    refine zaa U U U U U ?_
    refine zaa U U U U U ?_
    refine zaa U U U U U ?_
    refine zaa U U U U U ?_
    refine zaa U U U U U ?_
    refine zaa U U U U U ?_
    refine zaa U U U U U ?_
    refine Tz U U (Tp (fun _=>zF U U) U ?_)
    exact zfM [84,85,86,87,88,89,90,91,92,93,94,95,96,97,98,99,100] U H
   case h1=>
    intro hc H
    refine Tq U U U (Tg U U (fun _=>zd za7 U) U (Tg U U (fun _=>zd yp U) U (Ts U U (fun wz hz=>zg za5 U (f2 hz)) U (Tg U U (fun _=>zX zaJ U) U (Tg U U (fun _=>zz U U) U (Tq U U U ?_))))))
    apply znZ (t:=100)
    case h0=>
     intro H
     refine Tz U U (Tz U U (Tz U U (Tz U U (Tz U U (Tz U U (Tz U U (Tz U U (Tz U U (Tg U U (fun _=>zG U U) U ?_)))))))))
     exact zfM [91,92,93,94,95,96,97,98,99] U H
    case h1=>
     intro hc H
     refine Tg U U (fun _=>zd za7 U) U (Tg U U (fun _=>zd yp U) U ?_)
     refine Ts U U (fun wz hz=>zg za5 U ((hc' (zdm hc)).1▸f2 hz)) U ?_
     refine Tq U U U ?_
     refine Tg U U (fun _=>zi zaJ zab U U _ U (zdm hc)) U ?_
     refine Tg U U (fun _=>zd zbM U) U ?_
     refine Ts U U (fun wz hz=>zg yK U (hz.cell (hc' (zdm hc)).2.2)) U ?_
     refine Tg U U (fun _=>yW st9 U) U (Tg U U (fun _=>zU U U) U (Tg U U (fun _=>zF U U) U ?_))
     exact zfM [91,92,93,94,95,96,97,98,99] U H
    refine Tp (fun _=>zG U U) U ?_
    exact zfM [84,85,86,87,88,89,90,91,92,93,94,95,96,97,98,99,100] U H
   refine Tm U ?_
   apply zuo (t:=119)
   case h0=>
    intro H
    refine Tz U U (Tz U U (Tz U U (Tz U U (Tz U U (Tz U U (Tz U U ?_))))))
    refine zaa U U U U U ?_
    refine zaa U U U U U ?_
    refine zaa U U U U U ?_
    refine zaa U U U U U ?_
    refine zaa U U U U U ?_
    refine zaa U U U U U ?_
    refine zaa U U U U U ?_
    refine zaa U U U U U ?_
    refine Tz U U (Tp (fun _=>zF U U) U ?_)
    exact zfM [103,104,105,106,107,108,109,110,111,112,113,114,115,116,117,118] U H
   case h1=>
    intro hc H
    refine Tq U U U (Tg U U (fun _=>zd za7 U) U (Tg U U (fun _=>zd zat U) U (Ts U U (fun wz hz=>zg zcB U (f4 hz)) U (Tg U U (fun _=>zX zbb U) U (Tg U U (fun _=>zz U U) U (Tq U U U ?_))))))
    apply znZ (t:=118)
    case h0=>
     intro H
     refine Tz U U (Tz U U (Tz U U (Tz U U (Tz U U (Tz U U (Tz U U (Tz U U (Tg U U (fun _=>zG U U) U ?_))))))))
     exact zfM [110,111,112,113,114,115,116,117] U H
    case h1=>
     intro hc H
     refine Tg U U (fun _=>zd za7 U) U (Tg U U (fun _=>zd zat U) U ?_)
     refine Ts U U (fun wz hz=>zg zcB U ((hu (zdm hc)).1▸f4 hz)) U ?_
     refine Tq U U U ?_
     refine Tg U U (fun _=>zi zbb zgT U U _ U (zdm hc)) U ?_
     refine Ts U U (fun wz hz=>zg zcb U (hz.cell (hu (zdm hc)).2.2)) U ?_
     refine Tg U U (fun _=>zX zaE U) U (Tg U U (fun _=>zU U U) U (Tg U U (fun _=>zF U U) U ?_))
     exact zfM [110,111,112,113,114,115,116,117] U H
    refine Tp (fun _=>zG U U) U ?_
    exact zfM [103,104,105,106,107,108,109,110,111,112,113,114,115,116,117,118] U H
   refine Tm U ?_
   apply zuo (t:=144)
   case h0=>
    intro H
    refine Tz U U (Tz U U (Tz U U (Tz U U (Tz U U (Tz U U ?_)))))
    refine zaa U U U U U ?_
    refine zaa U U U U U ?_
    refine zaa U U U U U ?_
    refine zaa U U U U U ?_
    refine zaa U U U U U ?_
    refine zaa U U U U U ?_
    refine zaa U U U U U ?_
    refine zaa U U U U U ?_
    refine zaa U U U U U ?_
    refine zaa U U U U U ?_
    refine zaa U U U U U ?_
    refine zaa U U U U U ?_
    refine zaa U U U U U ?_
    refine zaa U U U U U ?_
    refine zaa U U U U U ?_
    refine zaa U U U U U ?_
    refine Tz U U (Tp (fun _=>zF U U) U ?_)
    exact zfM [121,122,123,124,125,126,127,128,129,130,131,132,133,134,135,136,137,138,139,140,141,142,143] U H
   case h1=>
    intro hc H
    refine Tq U U U (Tg U U (fun _=>zd y8 U) U (Ts U U (fun wz hz=>zg zcv U (f7 hz)) U (Tg U U (fun _=>zX zaA U) U (Tg U U (fun _=>zz U U) U (Tq U U U ?_)))))
    apply znZ (t:=143)
    case h0=>
     intro H
     refine Tz U U (Tz U U (Tz U U (Tz U U (Tz U U (Tz U U (Tz U U (Tz U U (Tz U U (Tz U U (Tz U U (Tz U U (Tz U U (Tz U U (Tz U U (Tz U U ?_)))))))))))))))
     refine Tg U U (fun _=>zG U U) U ?_
     exact zfM [127,128,129,130,131,132,133,134,135,136,137,138,139,140,141,142] U H
    case h1=>
     intro hc H
     refine Tg U U (fun _=>zd y8 U) U ?_
     refine Ts U U (fun wz hz=>zg zcv U ((hm0 (zdm hc)).1▸f7 hz)) U ?_
     refine Tq U U U ?_
     refine Tg U U (fun _=>zi zaA zcg U U _ U (zdm hc)) U ?_
     refine Tg U U (fun _=>zO zch sz9 U U 0 U (by decide)) U ?_
     refine Ts U U (fun wz hz=>zg yK U (hz.cell (hm0 (zdm hc)).2.2)) U ?_
     refine Tg U U (fun _=>yW st9 U) U (Tg U U (fun _=>zd y8 U) U ?_)
     refine Ts U U (fun wz hz=>zg zcv U ((hm1 (zdm hc)).1▸f7 hz)) U ?_
     refine Tq U U U ?_
     refine Tg U U (fun _=>zi zaA zcg U U _ U (zdm hc)) U ?_
     refine Tg U U (fun _=>zO zch sz9 U U 1 U (by decide)) U ?_
     refine Ts U U (fun wz hz=>zg yK U (hz.cell (hm1 (zdm hc)).2.2)) U ?_
     refine Tg U U (fun _=>yW st9 U) U (Tg U U (fun _=>zuI U U) U (Tg U U (fun _=>zU U U) U (Tg U U (fun _=>zF U U) U ?_)))
     exact zfM [127,128,129,130,131,132,133,134,135,136,137,138,139,140,141,142] U H
    refine Tp (fun _=>zG U U) U ?_
    exact zfM [121,122,123,124,125,126,127,128,129,130,131,132,133,134,135,136,137,138,139,140,141,142,143] U H
   refine D3 1 3 144 U ?_
   refine zR U (fun hT=>?_) (fun hF=>?_)
   ·refine Sr (Oa U (E1 2 U (zk ?_)))
    repeat first|refine tr ?_|refine br ?_
    refine zy U U ?_
    refine⟨?_,c1.trans (hcx.trans (zl.drew [] _))⟩
    rw[hfj]at hT
    have:((List.range 12).all fun j => !zmr x j)=false:=by
     rw[List.all_eq_false]
     exact⟨j,List.mem_range.2 hlt,by simp[hT]⟩
    simp[zjt,this]
   refine zW (zm (za (Om U ?_)))
   refine Og (zI U U (by omega)) U ?_
   refine Oa U ?_
   refine zcD [1,3] (F':=[(1,_),(3,_)]) U ?_
   refine⟨12-(j+1),by omega,j+1,rfl,by omega,rfl,hcx.trans (zl.drew [] _),fun i hi=>?_⟩
   rcases Nat.lt_or_ge i j with h|h
   ·exact hall i h
   have:i=j:=by omega
   subst this
   rw[hfj]at hF
   exact hF
  refine za (Om U ?_)
  refine Og (vf (zz U U) (df (by omega))) U ?_
  refine E3 1 3 48 U (zb U ?_)
  refine zJ ?_
  repeat first|refine te ?_|refine bo rfl ?_
  refine zt _ ?_
  exact⟨rfl,hcx,fun i hi=>hall i (by omega)⟩
 rintro F wx⟨hF,hcx,hall⟩
 refine zad [0] hF ?_
 refine Sr (Oa U (E1 2 U (zk ?_)))
 refine zy U U ?_
 refine⟨?_,c1.trans hcx⟩
 have:((List.range 12).all fun j => !zmr x j)=true:=by
  rw[List.all_eq_true]
  intro j hj
  rw[hall j (List.mem_range.1 hj)];rfl
 simp[zjt,hFE,this]
def zon(xs:List EvT)(n:Nat):Bool:=decide (xs.length≤n) && xs.all zjt
theorem zpk{xs:List EvT}{n:Nat}(h:zon xs n=true)(hmn:∀x∈xs,zlC x):xs.length≤n∧∀x∈xs,zcK x:=by
 simp only[zon,Bool.and_eq_true,decide_eq_true_eq,List.all_eq_true]at h
 exact⟨h.1,fun x hx=>zyq (h.2 x hx) (hmn x hx)⟩
theorem zhM(ve:Va)(xs:List EvT)(n:Nat)(w:Wl)(hx:zdj w ve xs)(hn:n≤1000) :
 zV TP 8 #[ve,Ii n] w fun r w'=>r=.bool (zon xs n)∧zl [] w w':=by
 obtain⟨pv,cv,rfl,hcv⟩:=hx.val
 refine A2 Tryz.func8 U U ?_
 refine Sr (Oa U (E2 0 1 U ?_))
 refine zS (fun F wx=>prune [0,1] F=[(0,.slice pv xs.length cv),(1,Ii n)]∧zl [] w wx∧(xs.length≤n→∀x∈xs,zjt x=true)) ?_ ?_
 ·refine Sr (Oa U (E3 0 1 5 U (zq ?_)))
  refine zT [0,1,5] (fun m F wx=>∃j:Nat,m=xs.length-j∧j≤xs.length∧j≤n+1∧F=[(0,.slice pv xs.length cv),(1,Ii n),(5,Ii j)]∧zl [] w wx∧∀x∈xs.take j,zjt x=true) (m:=xs.length-0) ⟨0,rfl,Nat.zero_le _,Nat.zero_le _,rfl,zl.refl _ _,by simp⟩ ?_
  rintro m F wx⟨j,rfl,hj,hjn,rfl,hcx,hall⟩
  refine zf (zf ?_)
  by_cases hlt:j<xs.length
  ·by_cases hln:j≤n
   ·refine za (Om U (Om U (On zgC U ?_)))
    refine Og (vt (zz U U) (dt (by omega))) U ?_
    refine Om U (Oj U U (Oj U U ?_))
    refine Oy U U (vt (za3 U U) (dt (by omega))) ?_
    refine Ot U (E4 0 1 5 14 U (ze U (zn ?_)))
    have hq:xs[j]? = some xs[j]:=by simp[hlt]
    have htk:=List.take_succ_eq_append_getElem hlt
    have hmem:=List.getElem_mem hlt
    generalize xs[j]=x at hq htk hmem
    obtain⟨b,off,cap,e,hve,hcell,hev⟩:=(hx.chg0 hcx).at hq
    cases hve
    refine zf (zq (zf ?_))
    cases hb:zjt x with
    |false=>
     refine za (Om U (Om U ?_))
     refine Og (zi zgC za2 U U _ U hlt) U ?_
     refine Og (zh zbQ za2 U U hcell) U ?_
     refine Oc zCi U U U (zps _ x _ hev) ?_
     rintro v21 w21⟨e21,c21⟩
     rw[hb]at e21
     subst e21
     refine Og (zE U) U (E4 0 1 5 22 U (ze U (Sr (Oa U (E1 4 U (zk ?_))))))
     repeat first|refine tr ?_|refine br ?_
     refine zy U U ?_
     refine⟨?_,hcx.trans c21⟩
     have:xs.all zjt=false:=by
      rw[List.all_eq_false]
      exact⟨x,hmem,by simp[hb]⟩
     simp[zon,this]
    |true=>
     refine za (Om U (Om U ?_))
     refine Og (zi zgC za2 U U _ U hlt) U ?_
     refine Og (zh zbQ za2 U U hcell) U ?_
     refine Oc zCi U U U (zps _ x _ hev) ?_
     rintro v21 w21⟨e21,c21⟩
     rw[hb]at e21
     subst e21
     refine Og (zE U) U (E4 0 1 5 22 U (zb U (zW (zm (za (Om U ?_))))))
     refine Og (zI U U (by omega)) U ?_
     refine Oa U (N3 0 1 5 U ?_)
     refine⟨xs.length-(j+1),by omega,j+1,rfl,by omega,by omega,rfl,hcx.trans c21,fun y hy=>?_⟩
     rw[htk]at hy
     rcases List.mem_append.1 hy with hy|hy
     ·exact hall y hy
     rw[List.mem_singleton]at hy
     subst hy
     exact hb
   refine za (Om U (Om U (On zgC U ?_)))
   refine Og (vt (zz U U) (dt (by omega))) U ?_
   refine Om U (Oj U U (Oj U U ?_))
   refine Oy U U (vf (za3 U U) (df (by omega))) ?_
   refine Ot U (E4 0 1 5 14 U (zb U ?_))
   refine zJ ?_
   repeat first|refine te ?_|refine bo rfl ?_
   refine zt _ ?_
   exact⟨rfl,hcx,fun h=>absurd h (by omega)⟩
  refine za (Om U (Om U (On zgC U ?_)))
  refine Og (vf (zz U U) (df (by omega))) U ?_
  refine Om U (Oz U U (Oz U U (Oz U U (Of U (E4 0 1 5 14 U (zb U ?_))))))
  refine zJ ?_
  repeat first|refine te ?_|refine bo rfl ?_
  refine zt _ ?_
  rw[Tl (by omega)]at hall
  exact⟨U,hcx,fun _=>hall⟩
 rintro F wx⟨hF,hcx,hall⟩
 refine zad [0,1] hF ?_
 refine Sr (Om U (On zgC U (Om U (Og (za3 U U) U (Oa U (E1 4 U (zk ?_)))))))
 refine zy U U ?_
 refine⟨?_,hcx⟩
 congr 1
 unfold zon
 by_cases hl:xs.length≤n
 ·rw[dt (by omega),dt hl,List.all_eq_true.2 (hall hl)];rfl
 rw[df (by omega),df hl];rfl
def mk(Ds:List Nat):Fr:=Ds.map fun D:Nat=>(1000000,Ii (D:Int))
theorem zjd:∀Ds,zcf (mk Ds)=mk Ds
 |[]=>rfl
 |D::Ds=>congrArg (List.cons (1000000,Value.int .i64 (D:Int))) (zjd Ds)
theorem zkE:∀Ds,nomark (mk Ds)=[]
 |[]=>rfl
 |_::Ds=>zkE Ds
theorem zse:∀Ds,(mk Ds).map dOf=Ds.map mkD
 |[]=>rfl
 |D::Ds=>by
  have:=zse Ds
  simp only[mk,List.map_cons,List.map_map]at this ⊢
  rw[this]
  rfl
theorem zdU{keep:List Nat}{F L:Fr}{Ds:List Nat}(h:prune keep F=L++zcf (mk Ds)):prune keep F=L++mk Ds:=by rw[h,zjd]
theorem zzv{X L:Fr}{Ds:List Nat}(h:X=L++nomark (mk Ds)):X=L:=by rw[h,zkE,List.append_nil]
theorem ztT{F:Fr}{Ds:List Nat}(h:zcf F=zcf (mk Ds)):zaj F=Ds.map mkD:=by
 unfold zaj
 rw[h,zjd,zse]
def DL(w:Wl)(Ds:List Nat):Prop:=Ds.Nodup∧∀D∈Ds,w.heap[D]? = some (.deferred (some []))
section
variable {w w':Wl} {S Ds:List Nat}
theorem DL.chgN(h:DL w Ds)(hc:zl S w w')(hS:∀D∈Ds,D∉S):DL w' Ds:=⟨h.1,fun D hD=>(hc.block D (Array.getElem?_eq_some_iff.1 (h.2 D hD)).1 (hS D hD)).trans (h.2 D hD)⟩
theorem DL.chg0(h:DL w Ds)(hc:zl [] w w'):DL w' Ds:=h.chgN hc (by simp)
theorem DL.ne(h:DL w Ds){b:Nat}{e:TypeId}{c:List Va}(k:zQ w b e c):∀D∈Ds,D∉[b]:=fun D hD hm=>by
 simp at hm
 subst hm
 have:=(h.2 D hD).symm.trans (show w.heap[D]? = _ from k)
 cases this
theorem DL.chgB(h:DL w Ds){b:Nat}{e:TypeId}{c:List Va}(k:zQ w b e c)(hc:zl [b] w w'):DL w' Ds:=h.chgN hc (h.ne k)
theorem DL.lt(h:DL w Ds):∀D∈Ds,D<w.heap.size:=fun D hD=>(Array.getElem?_eq_some_iff.1 (h.2 D hD)).1
theorem DL.cons{D:Nat}(h:DL w Ds)(hD:w.heap[D]? = some (.deferred (some [])))(hn:D∉Ds):DL w (D::Ds):=⟨List.nodup_cons.2 ⟨hn,h.1⟩,fun E hE=>by
 rcases List.mem_cons.1 hE with rfl|hE
 ·exact hD
 exact h.2 E hE⟩
theorem zo6:∀(Ds:List Nat) (w:Wl),DL w Ds→∃w',znM (Ds.map mkD) w w'∧zl Ds w w'
 |[],w,_=>⟨w,rfl,zl.refl _ _⟩
 |D::Ds,w,h=>by
  have h1:=List.nodup_cons.1 h.1
  have hp:=zl.put w D (.deferred none)
  obtain⟨w',hs,hc⟩:=zo6 Ds (w.putObj D (.deferred none)) ⟨h1.2,fun E hE=>(hp.block E (Array.getElem?_eq_some_iff.1 (h.2 E (by simp[hE]))).1 (by simp;rintro rfl;exact h1.1 hE)).trans (h.2 E (by simp[hE]))⟩
  exact⟨w',⟨D,rfl,h.2 D (by simp),hs⟩,(hp.weak (by simp)).transS (hc.weak fun _ hk=>List.mem_cons_of_mem _ hk)⟩
end
theorem zzW{P:Program}{fn:Func}{R:Va→Wl→Prop}{n:Nat}{F:Fr}{w:Wl}{t ty:Nat}{Ds:List Nat}{p:Addr}{v:Va}(hr:fn.results = #[.cell t ty])(hag:zai P ty=some false)(hv:get F t=some (.pointer (some p)))(hm:zaj F=Ds.map mkD)(hD:DL w Ds)
 (h:∀w',zl Ds w w'→w'.cell? p=some v∧R v w'):zix P fn R n .ret F w:=by
 obtain⟨w',hs,hc⟩:=zo6 Ds w hD
 have hh:=h w' hc
 refine⟨v,w',by rw[hm];exact hs,fun a ha=>?_,hh.2⟩
 simp[results,hr,ha.get t _ hv,asAddr,loadVar,zaV hag,hh.1]
theorem zyt:zvK TP 56=true:=by kernel_rfl
theorem zxS:zvK TP 100=true:=by kernel_rfl
set_option maxHeartbeats 4000000 in
theorem zyp(p:Nat)(own:List Nat)(v:Va)(c:Cat)(n:Int)(w:Wl)(hC:zbe w p own c)(hR:zbI w v c) :
 zV TP 18 #[Pt p,.agg #[v],Ii n] w fun r w'=>r=.bool true∧zl [] w w':=by
 have hok:=hC.ok
 have hle:=hok.le
 obtain⟨pv,cv,rfl,hcv⟩:=hR.val
 refine zV.of_WM (args:=[_,_,_]) Tryz.func18 U U U U ?_
 refine Sr ?_
 refine Ob U U ?_
 intro b4 w4 e4 n4 c4 k4
 refine Ob U U ?_
 intro b5 w5 e5 n5 c5 k5
 refine Oq (zH zr4 U U ?_)
 intro b6 w6 e6 n6 c6 k6
 refine E4 0 4 5 6 U ?_
 have hc6:zl [] w w6:=(c4.trans c5).trans c6
 have k4:zQ w6 b4 48 [.slice pv c.length cv]:=(k4.chg0 c5).chg0 c6
 have k5:=k5.chg0 c6
 have k4w:=k4
 have k6w:=k6
 have hs4:=c4.size
 have hs5:=c5.size
 have hs6:=c6.size
 refine Sr (Om U ?_)
 refine Oc zCH U U U (zsu (hC.chg0 hc6)) ?_
 rintro v19 w19⟨bn,qn,cpn,rfl,kn,hsn,hbn,c19⟩
 refine Oa U (E5 0 4 5 6 7 U ?_)
 have hen:(c.map (·.n)).length=c.length:=List.length_map _
 rw[←hen]at kn hsn
 have hb4:=k4.lt
 have hb5:=k5.lt
 have hb6:=k6.lt
 refine zf (Sr (Om U (Og (zqe zyt U U) U (E6 0 4 5 6 7 21 U (zb U (zn (Sr ?_)))))))
 refine Oq (zH zr3 U U ?_)
 intro b8 w8 e8 n8 c8 k8
 refine Oq (zu sz3 U U U U k8 (by simp) (by simp[Value.oneCell']) ?_)
 intro wA nA cA kA
 refine E6 0 4 5 6 7 8 U ?_
 have kA:zQ wA b8 3 [Ii 0]:=kA
 have hs19:=c19.size
 have hs8:=c8.size
 have hcA:zl [] w19 wA:=c8.own cA (by intro y hy;simp at hy;omega)
 have hc6A:zl [] w6 wA:=c19.trans hcA
 have hsA:=hcA.size
 have k4:=k4.chg0 hc6A
 have k5:=k5.chg0 hc6A
 have k6:=k6.chg0 hc6A
 have hb8:=kA.lt
 refine zS (fun F wz=>∃(D m:Nat) (f22:Va),F=[(1000000,Ii D),(0,Pt p),(4,Pt b4),(5,Pt b5),(6,Pt b6),(8,Pt b8),(22,f22)]∧wA.heap.size≤D∧wz.heap[D]? = some (.deferred (some []))∧zQ wz b8 3 [Ii m]∧(m:Int)=min (c.length:Int) (max 1 n)∧zl [b8] wA wz) ?_ ?_
 ·refine Sr (Om U (E6 0 4 5 6 8 22 U (zq ?_)))
  refine zhx (α:=Nat×By) (gf:=49) (lb:=[Pt bn]) (encs:=fun x:Nat×By => #[Ii x.1,.string x.2])
   (fun pre X=>(pre=[]∨(pre.length:Int)<n)∧zQ X b8 3 [Ii (pre.length:Nat)]∧zl [b8] wA X)
   (fun cc pre X=>cc=.exit 0∧(pre.length:Int)=max 1 n∧pre.length≤c.length∧zQ X b8 3 [Ii (pre.length:Nat)]∧zl [b8] wA X)
   (fun x=>[(24,.string x.2),(23,Ii x.1),(0,Pt p),(4,Pt b4),(5,Pt b5),(6,Pt b6),(8,Pt b8),(22,.func (.func 49) #[] #[Pt bn])])
   (fun x=>[(0,Pt p),(4,Pt b4),(5,Pt b5),(6,Pt b6),(8,Pt b8),(9,Ii x.1),(10,.string x.2),(23,Ii x.1),(24,.string x.2)])
   rfl zC5
   ((zlO wA bn qn cpn (c.map (·.n)) [b8] (kn.chg0 hcA) (zB.chg0 hsn hcA) (by rw[hen];omega) (by have:=kn.lt;simp;omega) (fun b hb e cs hk=>by
    simp at hb
    subst hb
    have:=Option.some.inj ((show wA.heap[b]? = _ from hk).symm.trans kA)
    cases this
    rfl)).toN (fun e => !Nat.beq 3 e))
   (fun _=>rfl) (fun _ _ _ _ _=>trivial) (fun _ _ _ _ hh=>hh) (fun _ _ _ _ hh=>hh) ?_ ?_ ?_ (fun pre X hI=>hI.2.2.size) ?_ ?_ ?_ ?_ ?_
  ·rintro pre X X' hb ⟨g1,g2,g3⟩
   exact⟨g1,g2.bk hb,g3.bk (Nat.le_refl _) hb⟩
  ·rintro cc pre X X' hb ⟨rfl,g1,g2,g3,g4⟩
   exact⟨U,g1,g2,g3.bk hb,g4.bk (Nat.le_refl _) hb⟩
  ·exact⟨.inl U,kA,zl.refl _ _⟩
  ·intro x a ha
   exact ha.vars2 U U U
  ·intro l' x X
   refine zd8 ?_
   refine zan ?_
   refine yD (gn U) U (St.vl (yj U) U U ?_)
   refine zdk [0,4,5,6,8,9,23,24] (F':=[(0,_),(4,_),(5,_),(6,_),(8,_),(9,_),(23,_),(24,_)]) U ?_
   refine zan ?_
   refine yD (gn U) U (St.vl (yj U) U U ?_)
   refine zfS [0,4,5,6,8,9,10,23,24] (F':=[(0,_),(4,_),(5,_),(6,_),(8,_),(9,_),(10,_),(23,_),(24,_)]) U ?_
   exact⟨U,U,U⟩
  ·rintro l' pre ⟨xi,xn⟩ X ⟨g1,g2,g3⟩-hgo
   obtain⟨hxi,hxn⟩:=zvh hgo
   replace hxi:xi=pre.length:=hxi
   subst hxi
   replace hxn:(c.map (·.n))[pre.length]? = some xn:=hxn
   rw[List.getElem?_map]at hxn
   obtain⟨t,ht,rfl⟩:=Option.map_eq_some_iff.1 hxn
   have hlt:pre.length<c.length:=(Gs ht).1
   have hwX:zl [] w X:=(hc6.trans hc6A).own g3 (by intro y hy;simp at hy;omega)
   have k4X:=k4.chg g3 (by simp;omega)
   have k5X:=k5.chg g3 (by simp;omega)
   obtain⟨bo,oo,cpo,r,hve,hcell,hrt⟩:=(hR.chg0 hwX).at ht
   cases hve
   have nt:X.cell? ⟨bo,oo+pre.length*5,none⟩=some (.string t.n):=hcell 0 _ rfl
   refine zgz ?_
   refine zd8 ?_
   refine zd8 ?_
   refine zan ?_
   refine Xm U ?_
   refine yD (gn U) U (St.vl (zg ag3 U (g2.cell' U)) U U ?_)
   refine yD (gn U) U (St.vl (vf (zM U U) (by simp)) U U ?_)
   refine Xm U ?_
   refine yD (gy U U U) U (St.vl (zg ag3 U (g2.cell' U)) U U ?_)
   refine yD (gy U U U) U (St.vl (zd zaH U) U U ?_)
   refine yD (gy U U U) U (St.vl (zg zc5 U (k4X.cell' (i:=0) U)) U U ?_)
   refine yD (gy U U U) U (St.vl (zX zcu U) U U ?_)
   refine yD (gy U U U) U (St.vl (vf (yg U U) (df (by omega))) U U ?_)
   refine yD (gn U) U (St.vl (zG U U) U U ?_)
   refine Xm U ?_
   refine yD (gy U U U) U (St.vl (zar U) U U ?_)
   refine yD (gy U U U) U (St.vl (zd zaH U) U U ?_)
   refine yD (gy U U U) U (St.vl (zg zc5 U (k4X.cell' (i:=0) U)) U U ?_)
   refine yD (gy U U U) U (St.vl (zg ag3 U (g2.cell' U)) U U ?_)
   refine yD (gy U U U) U (St.vl (zi zcu zfK U U _ U hlt) U U ?_)
   refine yD (gy U U U) U (St.vl (zd zge U) U U ?_)
   refine yD (gy U U U) U (St.vl (zg yK U nt) U U ?_)
   refine yD (gy U U U) U (St.vl (vf (zdq U U) (by simp)) U U ?_)
   refine yD (gn U) U (St.vl (zG U U) U U ?_)
   refine zdk [0,4,5,6,8,23,24,44] (F':=[(0,_),(4,_),(5,_),(6,_),(8,_),(23,_),(24,_),(44,_)]) U ?_
   refine zde U ?_
   refine zkh ?_
   refine zd8 ?_
   refine zan ?_
   refine yD (gn U) U (St.vl (zg ag3 U (g2.cell' U)) U U ?_)
   refine yD (gn U) U (St.vl (yv (v':=Ii ((pre.length+1:Nat):Int)) (zI U U (by omega)) (by congr 1)) U U ?_)
   refine yD (gn U) U (zu sz3 U U U U g2 (by simp) (by simp[Value.oneCell']) ?_)
   intro wC nC cC kC
   refine zdk [0,4,5,6,8,23,24] (F':=[(0,_),(4,_),(5,_),(6,_),(8,_),(23,_),(24,_)]) U ?_
   have kC:zQ wC b8 3 [Ii (pre.length+1:Nat)]:=kC
   have hT:zl [b8] X wC:=cC
   have k5C:=k5X.chg cC (by simp;omega)
   have hlen:(pre++[(pre.length,t.n)]).length=pre.length+1:=by simp
   have hkf:KeepsFrom wA.heap.size X wC:=KeepsFrom.chg hT (by intro b hb;simp at hb;subst hb;exact⟨_,_,g2⟩)
   have hkr:Kr [b8] (fun e => !Nat.beq 3 e) wA.heap.size X wC:=Kr.chg hT g3.size (by intro b hb;simp at hb;subst hb;exact⟨.inl (by simp),_,_,g2,rfl⟩)
   by_cases hmy:n≤pre.length+1
   ·refine zd8 ?_
    refine zan ?_
    refine yD (gn U) U (St.vl (zg ag3 U (kC.cell' U)) U U ?_)
    refine yD (gn U) U (St.vl (zg ag3 U (k5C.cell' U)) U U ?_)
    refine yD (gn U) U (St.vl (vt (yg U U) (by simp;omega)) U U ?_)
    refine zdk [0,4,5,6,8,23,24,49] (F':=[(0,_),(4,_),(5,_),(6,_),(8,_),(23,_),(24,_),(49,_)]) U ?_
    refine zfY U ?_
    refine zrt ?_
    repeat first|refine te ?_|refine bo rfl ?_
    refine⟨hkf,rfl,?_,by rw[hlen];omega,by rw[hlen];exact kC,g3.transS hT⟩
    rw[hlen]
    rcases g1 with rfl|g1
    ·simp at hmy ⊢;omega
    omega
   refine zd8 ?_
   refine zan ?_
   refine yD (gn U) U (St.vl (zg ag3 U (kC.cell' U)) U U ?_)
   refine yD (gn U) U (St.vl (zg ag3 U (k5C.cell' U)) U U ?_)
   refine yD (gn U) U (St.vl (vf (yg U U) (by simp;omega)) U U ?_)
   refine zdk [0,4,5,6,8,23,24,49] (F':=[(0,_),(4,_),(5,_),(6,_),(8,_),(23,_),(24,_),(49,_)]) U ?_
   refine zde U ?_
   refine zkh ?_
   refine zm ?_
   exact⟨hkf,hkr,.inr (by rw[hlen];omega),by rw[hlen];exact kC,g3.transS hT⟩
  ·rintro D xs' X hD rfl ⟨g1,g2,g3⟩ hdf
   refine zm ?_
   rw[ziV,hen]at g1 g2
   refine⟨D,c.length,_,U,hD,hdf,g2,?_,g3⟩
   rcases g1 with g1|g1
   ·have:c.length=0:=by
     have:=congrArg List.length g1
     rw[ziV,hen]at this
     simpa using this
    omega
   omega
  rintro D cc pre X hD-⟨rfl,g1,g2,g3,g4⟩ hdf
  refine zJ ?_
  repeat first|refine te ?_|refine bo rfl ?_
  refine zt _ ?_
  exact⟨D,pre.length,_,rfl,hD,hdf,g3,by omega,g4⟩
 rintro F wy⟨D,m,f22,rfl,hD,hdf,km,hm,hcy⟩
 have k4:=k4.chg hcy (by simp;omega)
 have k5:=k5.chg hcy (by simp;omega)
 have k6:=k6.chg hcy (by simp;omega)
 have hc6y:zl [] w6 wy:=hc6A.own hcy (by intro y hy;simp at hy;omega)
 have hsy:=hc6y.size
 refine zf (Sr (Ol ag3 U (km.cell' U) (Od zaH U (Ol zc5 U (k4.cell' (i:=0) U) (On zcu U (Ol ag3 U (k5.cell' U) (Og (zo1 U U) U (Og (zoP U U) U ?_))))))))
 refine Og (vf (zM U U) (zcA (by omega))) U ?_
 refine yT [0,4,6,57] (F':=[(0,_),(4,_),(6,_),(57,_)]++mk ([D])) (zdU U) ?_
 refine zb U (zn ?_)
 refine zS (fun F wz=>∃Ds:List Nat,prune [6] F=[(6,Pt b6)]++mk Ds∧zQ wz b6 4 [.bool false]∧DL wz Ds∧(∀D∈Ds,w6.heap.size≤D)∧zl [] w6 wz) ?_ ?_
 ·refine Sr ?_
  refine Oq (zH zr3 U U ?_)
  intro b11 w11 e11 n11 c11 k11
  refine Oq (zu sz3 U U U U k11 (by simp) (by simp[Value.oneCell']) ?_)
  intro wB nB cB kB
  refine yT [0,4,6,11] (F':=[(0,_),(4,_),(6,_),(11,_)]++mk ([D])) (zdU U) ?_
  have kB:zQ wB b11 3 [Ii 0]:=kB
  have hs11:=c11.size
  have hcB:zl [] wy wB:=c11.own cB (by intro y hy;simp at hy;omega)
  have hDB:DL wB [D]:=⟨by simp,fun E hE=>by
   simp at hE
   subst hE
   exact(hcB.block E (Array.getElem?_eq_some_iff.1 hdf).1 (by simp)).trans hdf⟩
  refine zq ?_
  refine zT [0,4,6,11] (fun k F wx=>∃(j bi:Nat) (Ds:List Nat),k=c.length-j∧j≤c.length∧F=[(0,Pt p),(4,Pt b4),(6,Pt b6),(11,Pt bi)]++mk Ds∧zQ wx bi 3 [Ii j]∧DL wx Ds∧(∀D∈Ds,w6.heap.size≤D)∧zl [] w6 wx) (m:=c.length-0) ⟨0,b11,[D],rfl,Nat.zero_le _,rfl,kB,hDB,by intro E hE;simp at hE;omega,hc6y.trans hcB⟩ ?_
  rintro k F wx⟨j,bi,Ds,rfl,hj,rfl,ki,hDs,hDf,hcx⟩
  have hwx:=hc6.trans hcx
  have k4x:=k4w.chg0 hcx
  have hCx:=hC.chg0 hwx
  refine zf (zf ?_)
  by_cases hlt:j<c.length
  ·refine za (Ol ag3 U (ki.cell' U) (Od zaH U (Ol zc5 U (k4x.cell' (i:=0) U) (On zcu U ?_))))
   refine Og (vt (zz U U) (dt (by omega))) U ?_
   refine yT [0,4,6,11,62] (F':=[(0,_),(4,_),(6,_),(11,_),(62,_)]++mk (Ds)) (zdU U) ?_
   refine ze U (zn ?_)
   have hx:c[j]? = some c[j]:=by simp[hlt]
   have hmem:=List.getElem_mem hlt
   generalize c[j]=t at hx hmem
   have hat:atC c t.n=some t:=zsH hok.srt hmem
   obtain⟨bo,oo,cpo,⟨ra,rk,ru,ro⟩,hve,hcell,hrt⟩:=(hR.chg0 hwx).at hx
   cases hve
   have hrt:za6 wx ra rk ru ro t.s t.r:=hrt
   obtain⟨po,co,rfl,hco⟩:=hrt.rws.val
   have hTO:=hrt.ok
   have hle4:=hTO.le
   have nt:∀{wz:Wl},zl [] wx wz→wz.cell? ⟨bo,oo+j*5,none⟩=some (.string t.n):=fun hz=>hz.cell (hcell 0 _ rfl)
   have nro:∀{wz:Wl},zl [] wx wz→wz.cell? ⟨bo,oo+j*5+4,none⟩=some (.slice po t.r.length co):=fun hz=>hz.cell (hcell 4 _ rfl)
   have nsc:∀{wz:Wl},zl [] wx wz→zw wz bo (oo+j*5+1) [ra,rk,ru]:=fun hz k u hu=>by
    have hk:k<3:=(Gs hu).1
    have:=hz.cell (hcell (k+1) u (by rcases k with _|_|_|k<;>simp[rtC]at hu ⊢<;>first|exact hu|omega))
    rwa [show oo+j*5+(k+1)=oo+j*5+1+k by omega]at this
   refine zS (fun F wq=>∃Ds,prune [0,4,6,11] F=[(0,Pt p),(4,Pt b4),(6,Pt b6),(11,Pt bi)]++mk Ds∧DL wq Ds∧(∀D∈Ds,w6.heap.size≤D)∧zl [] wx wq) ?_ ?_
   ·refine zq (Sr (Om U (Od zaH U (Ol zc5 U (k4x.cell' (i:=0) U) (Ol ag3 U (ki.cell' U) ?_)))))
    refine Og (zi zcu zfK U U _ U hlt) U ?_
    refine Od zge U ?_
    refine Ol yK U (nt (zl.refl _ _)) ?_
    refine Oc zCf U U U (zkt hCx hat) ?_
    rintro v73 w73⟨q,ow,rfl,hT,how,c73⟩
    refine Om U (Oe U U (Oe U U (Oa U (Oa U ?_))))
    refine yT [0,4,6,11,12,13] (F':=[(0,_),(4,_),(6,_),(11,_),(12,_),(13,_)]++mk (Ds)) (zdU U) ?_
    refine Sr (Om U ?_)
    refine Oc zCB U U U (zxu q ow t.s t.r e0 _ hT) ?_
    rintro v77 w77⟨q5,q3,t',own',rfl,kq5,kq3,it',hq5,hq3,ho',c77⟩
    refine Oa U ?_
    refine yT [0,4,6,11,12,13,14] (F':=[(0,_),(4,_),(6,_),(11,_),(12,_),(13,_),(14,_)]++mk (Ds)) (zdU U) ?_
    have hc77:=c73.trans c77
    have hd:zl [] w77 w77.drew:=zl.drew [] _
    have hT77:=hT.chg0 c77
    obtain⟨pm,a,k',u',sv,xs,main,subs,rfl,hm,ht⟩:=id hT77
    have hkl:=hrt.sch.chg0 (hc77.trans hd)
    refine zf (zf ?_)
    refine zK (fun wz=>zl [] w77 wz) mix (by kernel_rfl) hd ?_
    refine Tm U (Tp (fun _=>zE U) U (Tm U (Tq U U U (Tg U U (fun _=>zqe zxS U U) U (Tp (fun _=>zG U U) U (Tm U (Tq U U U ?_)))))))
    refine Tv U U zCt U U U (zr7 _ (hm.chg0 hd)) ?_
    rintro v86 w86⟨rfl,c86⟩
    refine⟨.inl (hd.trans c86),?_⟩
    refine Tg U U (fun _=>zd zaH U) U ?_
    refine Ts U U (fun wz hz=>zg zc5 U ((k4x.chg0 (hc77.trans hz)).cell' (i:=0) U)) U ?_
    refine Ts U U (fun wz hz=>zg ag3 U ((ki.chg0 (hc77.trans hz)).cell' U)) U ?_
    refine Tg U U (fun _=>zi zcu zfK U U _ U hlt) U ?_
    refine Tg U U (fun _=>zd zjM U) U (Tg U U (fun _=>zd zgW U) U (Ts U U (fun wz hz=>zh zbz zbr U U (nsc (hc77.trans hz))) U ?_))
    refine Tv U U zDe U U U (zuR _ _ _ _ _ _ t.s t.s _ ((hm.sch.chg0 hd).chg0 c86) (hkl.chg0 c86)) ?_
    rintro v94 w94⟨e94,c94⟩
    rw[dt rfl]at e94
    subst e94
    refine⟨.inl ((hd.trans c86).trans c94),?_⟩
    refine Tg U U (fun _=>zE U) U (Tp (fun _=>zG U U) U ?_)
    refine zhE [0,4,6,11,14,96] (F':=[(0,_),(4,_),(6,_),(11,_),(14,_),(96,_)]++mk (Ds)) (zdU U) ?_
    refine zb U (zn ?_)
    have hc94:zl [] w77 w94:=(hd.trans c86).trans c94
    have hx94:=hc77.trans hc94
    refine Sr ?_
    refine Oq (zH zr3 U U ?_)
    intro b15 w15 e15 n15 c15 k15
    refine Oq (zu sz3 U U U U k15 (by simp) (by simp[Value.oneCell']) ?_)
    intro wB nB cB kB
    refine yT [0,4,6,11,14,15] (F':=[(0,_),(4,_),(6,_),(11,_),(14,_),(15,_)]++mk (Ds)) (zdU U) ?_
    have kB:zQ wB b15 3 [Ii 0]:=kB
    have hs15:=c15.size
    have hs94:=hx94.size
    have hc94':=hc94.size
    have hcB:zl [] w94 wB:=c15.own cB (by intro y hy;simp at hy;omega)
    have hc77B:zl [] w77 wB:=hc94.trans hcB
    have hxB:zl [] wx wB:=hx94.trans hcB
    have hsB:=hcB.size
    have hDB:=hDs.chg0 hxB
    have hb15:=kB.lt
    have kiB:=ki.chg0 hxB
    have hiB:=ki.lt
    have hc77s:=hc77.size
    refine zS (fun F wq=>∃D f97,F=(1000000,Ii (D:Nat))::([(0,Pt p),(4,Pt b4),(6,Pt b6),(11,Pt bi),(15,Pt b15),(97,f97)]++mk Ds)∧wB.heap.size≤D∧wq.heap[D]? = some (.deferred (some []))∧zQ wq b15 3 [Ii t.r.length]∧zl [b15] wB wq) ?_ ?_
    ·refine Sr (Om U ?_)
     refine yT [0,4,6,11,15,97] (F':=[(0,_),(4,_),(6,_),(11,_),(15,_),(97,_)]++mk (Ds)) (zdU U) ?_
     refine zq ?_
     refine zhx (α:=List zZ×Va) (gf:=81) (lb:=[Pt q5,Pt q3]) (encs:=fun x:List zZ×Va => #[.string (yf t.s x.1),x.2])
      (fun pre X=>zQ X b15 3 [Ii (pre.length:Nat)]∧zl [b15] wB X)
      (fun cc pre X=>False)
      (fun x=>[(99,x.2),(98,.string (yf t.s x.1)),(0,Pt p),(4,Pt b4),(6,Pt b6),(11,Pt bi),(15,Pt b15),(97,.func (.func 81) #[] #[Pt q5,Pt q3])])
      (fun x=>[(0,Pt p),(4,Pt b4),(6,Pt b6),(11,Pt bi),(15,Pt b15),(17,x.2),(99,x.2)])
      rfl zC4
      (zoa w77 wB hc77B t' q5 q3 own' t.s t.r e0 [b15] (fun e => !Nat.beq 3 e) it' kq5 kq3 (by intro b hb;simp at hb;omega) (fun b hb e cs hk=>by
       simp at hb
       subst hb
       have:=Option.some.inj ((show wB.heap[b]? = _ from hk).symm.trans kB)
       cases this
       rfl) rfl rfl rfl rfl rfl)
      (fun _=>rfl) (fun x W W' hb hh=>⟨zB.bk hh.1 hb,hh.2⟩) (fun _ _ _ _ hh=>hh) (fun _ _ _ _ hh=>hh) ?_ ?_ ?_ (fun pre X hI=>hI.2.size) ?_ ?_ ?_ ?_ ?_
     ·rintro pre X X' hb ⟨g2,g3⟩
      exact⟨g2.bk hb,g3.bk (Nat.le_refl _) hb⟩
     ·rintro cc pre X X' hb hh
      exact hh.elim
     ·exact⟨kB,zl.refl _ _⟩
     ·intro x a ha
      exact ha.vars2 U U (zzv U)
     ·intro l' x X
      refine zan ?_
      refine yD (gn U) U (St.vl (yj U) U U ?_)
      refine zfS [0,4,6,11,15,17,99] (F':=[(0,_),(4,_),(6,_),(11,_),(15,_),(17,_),(99,_)]) U ?_
      exact⟨U,U,U⟩
     ·rintro l' pre ⟨r,vx⟩ X ⟨g2,g3⟩ ⟨hv,hvo⟩ hgo
      have hrow:t.r[pre.length]? = some r:=by
       rw[zpa,List.map_append]at hgo
       obtain⟨tl,htl⟩:=hgo
       rw[←htl,List.getElem?_append_left (by simp),List.getElem?_append_right (by simp)]
       simp
      replace hv:zb1 X vx r:=hv
      have hlr:pre.length<t.r.length:=(Gs hrow).1
      have hmr:r∈t.r:=List.mem_of_getElem? hrow
      have hrl:r.length≤1048576:=by
       have h1:=(z5 hTO.right).1
       have h2:=(zaO (hTO.fit r hmr)).2.1
       omega
      have hxX:zl [] wx X:=hxB.own g3 (by intro y hy;simp at hy;omega)
      have k4X:=k4x.chg0 hxX
      have kiX:=ki.chg0 hxX
      obtain⟨br,or',cpr,vr,hve,hcr,hvr⟩:=(hrt.rws.chg0 hxX).at hrow
      cases hve
      have hdX:zl [] X X.drew:=zl.drew [] _
      refine zgz ?_
      refine zd8 ?_
      refine zd8 ?_
      refine zoJ (fun wz=>zl [] X wz) mix (zeL (by kernel_rfl)) hdX ?_
      refine Tr (fun wz hz=>zg ag3 U ((g2.chg0 hz).cell' U)) U (Td zaH U (Tr (fun wz hz=>zg zc5 U ((k4X.chg0 hz).cell' (i:=0) U)) U (Tr (fun wz hz=>zg ag3 U ((kiX.chg0 hz).cell' U)) U ?_)))
      refine Tp (fun _=>zi zcu zfK U U _ U hlt) U ?_
      refine Td zjM U (Td zay U (Tr (fun wz hz=>zg zdh U (nro (hxX.trans hz))) U (Tp (fun _=>zX zcF U) U ?_)))
      refine Tp (fun _=>vf (yg U U) (df (by omega))) U ?_
      refine Tm U (Tq U U U (Tg U U (fun _=>zd zaH U) U (Ts U U (fun wz hz=>zg zc5 U ((k4X.chg0 hz).cell' (i:=0) U)) U (Ts U U (fun wz hz=>zg ag3 U ((kiX.chg0 hz).cell' U)) U ?_))))
      refine Tg U U (fun _=>zi zcu zfK U U _ U hlt) U ?_
      refine Tg U U (fun _=>zd zjM U) U (Tg U U (fun _=>zd zay U) U (Ts U U (fun wz hz=>zg zdh U (nro (hxX.trans hz))) U (Ts U U (fun wz hz=>zg ag3 U ((g2.chg0 hz).cell' U)) U ?_)))
      refine Tg U U (fun _=>zi zcF zeA U U _ U hlr) U ?_
      refine Ts U U (fun wz hz=>zg yY U (hz.cell hcr)) U ?_
      refine Tv U U zz5 U U U (zsy vx vr r r _ (ym.chg0 hv hdX).arr (ym.chg0 hvr hdX).arr hrl) ?_
      rintro v122 w122⟨e122,c122⟩
      rw[dt rfl]at e122
      subst e122
      refine⟨.inl (hdX.trans c122),?_⟩
      refine Tg U U (fun _=>zE U) U (Tp (fun _=>zG U U) U ?_)
      refine zhE [0,4,6,11,15,99,124] (F':=[(0,_),(4,_),(6,_),(11,_),(15,_),(99,_),(124,_)]) U ?_
      have hcy:=hdX.trans c122
      have g2y:=g2.chg0 hcy
      refine zde U ?_
      refine zkh ?_
      refine zan ?_
      refine yD (gn U) U (St.vl (zg ag3 U (g2y.cell' U)) U U ?_)
      refine yD (gn U) U (St.vl (yv (v':=Ii ((pre.length+1:Nat):Int)) (zI U U (by omega)) (by congr 1)) U U ?_)
      refine yD (gn U) U (zu sz3 U U U U g2y (by simp) (by simp[Value.oneCell']) ?_)
      intro wC nC cC kC
      refine zfS [0,4,6,11,15,99] (F':=[(0,_),(4,_),(6,_),(11,_),(15,_),(99,_)]) U ?_
      have kC:zQ wC b15 3 [Ii (pre.length+1:Nat)]:=kC
      have hT':zl [b15] X wC:=(hcy.any (S:=[b15])).transS cC
      have hlen:(pre++[(r,vx)]).length=pre.length+1:=by simp
      have hkf:KeepsFrom wB.heap.size X wC:=KeepsFrom.chg hT' (by intro b hb;simp at hb;subst hb;exact⟨_,_,g2⟩)
      have hkr:Kr [b15] (fun e => !Nat.beq 3 e) wB.heap.size X wC:=Kr.chg hT' g3.size (by intro b hb;simp at hb;subst hb;exact⟨.inl (by simp),_,_,g2,rfl⟩)
      refine zm ?_
      exact⟨hkf,hkr,by rw[hlen];exact kC,g3.transS hT'⟩
     ·rintro D xs' X hD hdn ⟨g2,g3⟩ hdf
      refine zm ?_
      have hlen:=congrArg List.length hdn
      rw[zpa,List.length_map]at hlen
      exact⟨D,_,rfl,hD,hdf,by rw[←hlen];exact g2,g3⟩
     rintro D cc pre X hD-hh hdf
     exact hh.elim
    rintro F wq⟨D,f97,rfl,hD,hdf,kn,hcq⟩
    have hxq:zl [] wx wq:=hxB.own hcq (by intro y hy;simp at hy;omega)
    have hDq:DL wq (D::Ds):=(hDB.chgB kB hcq).cons hdf (fun hm=>by have:=hDB.lt D hm;omega)
    have hdq:zl [] wq wq.drew:=zl.drew [] _
    refine zf ?_
    refine zK (fun wz=>zl [] wq wz) mix (by kernel_rfl) hdq ?_
    refine Tr (fun wz hz=>zg ag3 U ((kn.chg0 hz).cell' U)) U (Td zaH U ?_)
    refine Tr (fun wz hz=>zg zc5 U ((k4x.chg0 (hxq.trans hz)).cell' (i:=0) U)) U ?_
    refine Tr (fun wz hz=>zg ag3 U ((ki.chg0 (hxq.trans hz)).cell' U)) U ?_
    refine Tp (fun _=>zi zcu zfK U U _ U hlt) U ?_
    refine Td zjM U (Td zay U (Tr (fun wz hz=>zg zdh U (nro (hxq.trans hz))) U (Tp (fun _=>zX zcF U) U ?_)))
    refine Tp (fun _=>vf (zM U U) (by simp)) U ?_
    refine zhE [0,4,6,11,136] (F':=[(0,_),(4,_),(6,_),(11,_),(136,_)]++mk (D::Ds)) (zdU U) ?_
    refine zb U (zW (zm ?_))
    exact⟨D::Ds,zdU U,hDq.chg0 hdq,fun E hE=>by
     rcases List.mem_cons.1 hE with rfl|hE
     ·have:=hcx.size;have:=hxB.size;omega
     exact hDf E hE,hxq.trans hdq⟩
   rintro F wq⟨Ds',hF,hDq,hDfq,hxq⟩
   refine zad [0,4,6,11] hF ?_
   have hcq:=hcx.trans hxq
   have kiq:=ki.chg0 hxq
   have hsq:=hcq.size
   refine zf (Sr (Ol ag3 U (kiq.cell' U) ?_))
   refine yT [0,4,6,137] (F':=[(0,_),(4,_),(6,_),(137,_)]++mk (Ds')) (zdU U) ?_
   refine za ?_
   refine Oq (zH zr3 U U ?_)
   intro b11 w11 e11 n11 c11 k11
   refine Oq (zu sz3 U U U U k11 (by simp) (by simp[Value.oneCell']) ?_)
   intro wB nB cB kB
   refine yT [0,4,6,11] (F':=[(0,_),(4,_),(6,_),(11,_)]++mk (Ds')) (zdU U) ?_
   have kB:zQ wB b11 3 [Ii j]:=kB
   have hs11:=c11.size
   refine za (Ol ag3 U (kB.cell' U) ?_)
   refine Og (yv (v':=Ii ((j+1:Nat):Int)) (zI U U (by omega)) (by congr 1)) U ?_
   refine Oq (zu sz3 U U U U kB (by simp) (by simp[Value.oneCell']) ?_)
   intro wC nC cC kC
   refine zcD [0,4,6,11] (F':=[(0,_),(4,_),(6,_),(11,_)]++mk (Ds')) (zdU U) ?_
   have kC:zQ wC b11 3 [Ii (j+1:Nat)]:=kC
   have hqC:zl [] wq wC:=(c11.own cB (by intro y hy;simp at hy;omega)).own cC (by intro y hy;simp at hy;omega)
   exact⟨c.length-(j+1),by omega,j+1,b11,Ds',rfl,by omega,zdU U,kC,hDq.chg0 hqC,hDfq,hcq.trans hqC⟩
  refine za (Ol ag3 U (ki.cell' U) (Od zaH U (Ol zc5 U (k4x.cell' (i:=0) U) (On zcu U ?_))))
  refine Og (vf (zz U U) (df (by omega))) U ?_
  refine yT [0,4,6,11,62] (F':=[(0,_),(4,_),(6,_),(11,_),(62,_)]++mk (Ds)) (zdU U) ?_
  refine zb U ?_
  refine zJ ?_
  repeat first|refine te ?_|refine bo rfl ?_
  refine zt _ ?_
  exact⟨Ds,zdU U,k6w.chg0 hcx,hDs,hDf,hcx⟩
 rintro F wz⟨Ds,hF,k6,hDs,hDf,hcz⟩
 refine zad [6] hF ?_
 refine Sr ?_
 refine Oq (zu sz4 U U U U k6 (by simp) (by simp[Value.oneCell']) ?_)
 intro wE nE cE kE
 refine yT [6] (F':=[(6,_)]++mk (Ds)) (zdU U) ?_
 have kE:zQ wE b6 4 [.bool true]:=kE
 refine zk ?_
 refine zzW (v:=.bool true) (Ds:=Ds) U ag4 U (ztT U) (hDs.chgB k6 cE) fun w' hc'=>?_
 have hnb:b6∉Ds:=fun hm=>hDs.ne k6 b6 hm (by simp)
 refine⟨(kE.chg hc' hnb).cell' U,U,?_⟩
 exact((hc6.trans hcz).own cE (by intro y hy;simp at hy;omega)).own hc' (by intro y hy;have:=hDf y hy;omega)
def KS(w0 w:Wl)(l:List (Nat×Cat)):Prop:=∃T:List (Nat×List Nat×Cat),T.map (fun x=>(x.1,x.2.2))=l∧EOk w∧zl [] w0 w∧(∀x∈T,zbe w x.1 x.2.1 x.2.2∧∀b∈x.2.1,w0.heap.size≤b)∧T.Pairwise fun a b=>∀y∈a.2.1,y∉b.2.1
def Tn(w w':Wl):Prop:=∃S,zl S w w'∧Hm w S∧∀b∈S,∀cs,¬ zQ w b 48 cs
section
variable {w0 w w':Wl} {l:List (Nat×Cat)} {p q:Nat} {c d:Cat} {e:EvV} {x:EvT} {v:Va} {own:List Nat}
theorem zbe.notR(h:zbe w p own c):∀b∈own,∀cs,¬ zQ w b 48 cs:=by
 obtain⟨m,L,rfl,h⟩:=h
 intro b hb cs hk
 rcases List.mem_cons.1 hb with rfl|hb
 ·have:=(show w.heap[b]? = _ from h.blk).symm.trans (show w.heap[b]? = _ from hk)
  cases this
 rcases List.mem_cons.1 hb with rfl|hb
 ·obtain⟨a,cc,h1,_⟩:=h.map
  have:=h1.symm.trans (show w.heap[b]? = _ from hk)
  cases this
 obtain⟨p',n,c',h1⟩:=h.l.pagesO b hb
 have:=(show w.heap[b]? = _ from h1).symm.trans (show w.heap[b]? = _ from hk)
 cases this
theorem zbe.tn(h:zbe w p own c)(hc:zl own w w'):Tn w w':=⟨own,hc,h.hmO,h.notR⟩
theorem zQ.tn{b:Nat}{t:TypeId}{cs:List Va}(h:zQ w b t cs)(ho:okH t=true)(hc:Tn w w'):zQ w' b t cs:=let ⟨_,h1,h2,_⟩:=hc;h.hm h2 ho h1
theorem zQ.tnR{b:Nat}{cs:List Va}(h:zQ w b 48 cs)(hc:Tn w w'):zQ w' b 48 cs:=let ⟨_,h1,_,h3⟩:=hc;h.chg h1 fun hm=>h3 b hm cs h
theorem zbI.tn(h:zbI w v c)(hc:Tn w w'):zbI w' v c:=let ⟨_,h1,h2,_⟩:=hc;h.hm h2 h1
theorem KS.eo(h:KS w0 w l):EOk w:=let ⟨_,_,h1,_⟩:=h;h1
theorem KS.ch(h:KS w0 w l):zl [] w0 w:=let ⟨_,_,_,h1,_⟩:=h;h1
theorem KS.cat(h:KS w0 w ((p,c)::l)):∃own,zbe w p own c:=by
 obtain⟨T,hT,_,_,h1,_⟩:=h
 cases T with
 |nil=>cases hT
 |cons x T=>
  simp only[List.map_cons,List.cons.injEq,Prod.mk.injEq]at hT
  obtain⟨⟨rfl,rfl⟩,-⟩:=hT
  exact⟨_,(h1 x (by simp)).1⟩
theorem KS.nn(h:KS w0 w ((p,c)::l)):Lw.n≤w.heap.size:=by
 obtain⟨own,m,L,rfl,h1⟩:=h.cat
 exact h1.nn
theorem KS.chg0(h:KS w0 w l)(hc:zl [] w w'):KS w0 w' l:=by
 obtain⟨T,hT,hE,hw,h1,h2⟩:=h
 exact⟨T,hT,hE.hm (Hm.nil w) hc,hw.trans hc,fun x hx=>⟨(h1 x hx).1.chg0 hc,(h1 x hx).2⟩,h2⟩
theorem KS.open(h:KS w0 w ((p,c)::l)):∃own,EOk w∧zbe w p own c∧∀w' d own',zl own w w'→zbe w' p own' d→(∀b∈own',b∈own∨w.heap.size≤b)→KS w0 w' ((p,d)::l)∧Tn w w':=by
 obtain⟨T,hT,hE,hw,h1,h2⟩:=h
 cases T with
 |nil=>cases hT
 |cons x T=>
  simp only[List.map_cons,List.cons.injEq,Prod.mk.injEq]at hT
  obtain⟨⟨rfl,rfl⟩,rfl⟩:=hT
  obtain⟨hC,hf⟩:=h1 x (by simp)
  have hp:=List.pairwise_cons.1 h2
  have hsz:=hw.size
  refine⟨_,hE,hC,fun w' d own' hc hC' ho=>⟨⟨(x.1,own',d)::T,U,hE.hm hC.hmO hc,hw.own hc hf,fun y hy=>?_,List.pairwise_cons.2 ⟨fun y hy u hu hm=>?_,hp.2⟩⟩,hC.tn hc⟩⟩
  ·rcases List.mem_cons.1 hy with rfl|hy
   ·refine⟨hC',fun b hb=>?_⟩
    rcases ho b hb with h|h
    ·exact hf b h
    omega
   obtain⟨g1,g2⟩:=h1 y (by simp[hy])
   exact⟨g1.other (fun b hb hm=>hp.1 y hy b hm hb) hC.hmO hc,g2⟩
  obtain⟨g1,g2⟩:=h1 y (by simp[hy])
  rcases ho u hu with h|h
  ·exact hp.1 y hy u h hm
  have:=g1.hmO.lt u hm
  omega
theorem KS.push{own':List Nat}(h:KS w0 w l)(hc:zl [] w w')(hC:zbe w' p own' c)(hf:∀b∈own',w.heap.size≤b):KS w0 w' ((p,c)::l):=by
 obtain⟨T,rfl,hE,hw,h1,h2⟩:=h
 have hs:=hw.size
 refine⟨(p,own',c)::T,U,hE.hm (Hm.nil w) hc,hw.trans hc,fun y hy=>?_,List.pairwise_cons.2 ⟨fun y hy u hu hm=>?_,h2⟩⟩
 ·rcases List.mem_cons.1 hy with rfl|hy
  ·exact⟨hC,fun b hb=>Nat.le_trans hs (hf b hb)⟩
  exact⟨(h1 y hy).1.chg0 hc,(h1 y hy).2⟩
 have:=(h1 y hy).1.hmO.lt u hm
 have:=hf u hu
 omega
theorem zwI(hE:EOk w)(hN:Lw.n≤w.heap.size):zV TP 10 #[] w fun r w'=>∃p,r=Pt p∧KS w w' [(p,[])]∧zl [] w w':=by
 refine zV.mono (zsB w hN) ?_
 rintro r w'⟨p,m,rfl,h,h1,h2,hc⟩
 refine⟨p,rfl,KS.push (l:=[]) (w:=w) (own':=[p,m]) ⟨[],rfl,hE,zl.refl _ _,by simp,List.Pairwise.nil⟩ hc ⟨m,[],rfl,h⟩ (by intro b hb;simp at hb;rcases hb with rfl|rfl<;>assumption),hc⟩
theorem zl6(h:KS w0 w ((p,c)::l))(hx:zbH w e x)(hm:zcK x):zV TP 13 #[Pt p,.agg (evC x e).toArray] w fun r w'=>r=Ii (doE c x)∧KS w0 w' ((p,doC c x)::l)∧Tn w w':=by
 obtain⟨own,hE,hC,hst⟩:=h.open
 refine zV.mono (zsT hE hC hx hm) ?_
 rintro r w'⟨rfl,hc,own',hC',ho⟩
 exact⟨U,hst _ _ _ hc hC' ho⟩
theorem zxa{xs:List EvT}(h:KS w0 w ((p,c)::l))(hx:zdj w v xs)(hm:∀x∈xs,zcK x)(hn:xs.length≤1048576):zV TP 16 #[Pt p,v] w fun r w'=>r=.tuple #[Ii (zf2 c xs 0).1,Ii (zf2 c xs 0).2]∧KS w0 w' ((p,zj9 c xs)::l)∧Tn w w':=by
 obtain⟨own,hE,hC,hst⟩:=h.open
 refine zV.mono (zyK hE hC hx hm hn) ?_
 rintro r w'⟨rfl,hc,own',hC',ho⟩
 refine⟨U,hst _ _ _ (hc.weak ?_) hC' ho⟩
 obtain⟨m,L,rfl,_⟩:=hC
 simp
theorem zCR{n:Int}(h:KS w0 w ((p,c)::l))(hR:zbI w v c):zV TP 18 #[Pt p,.agg #[v],Ii n] w fun r w'=>r=.bool true∧zl [] w w':=by
 obtain⟨own,hC⟩:=h.cat
 exact zyp p own v c n w hC hR
theorem zuq{n:By}(h:KS w0 w ((p,c)::l)):zV TP 19 #[Pt p,.string n] w fun r w'=>∃u,r=.tuple #[u,.bool (atC c n).isSome]∧(match atC c n with|none=>u=.pointer none|some t=>∃q ow,u=Pt q∧zaf w' q ow t.s t.r∧∀b∈ow,w.heap.size≤b)∧zl [] w w':=by
 obtain⟨own,hC⟩:=h.cat
 cases ha:atC c n with
 |none=>
  refine zV.mono (zq6 hC ha) ?_
  rintro r w'⟨rfl,hc⟩
  exact⟨_,U,U,hc⟩
 |some t=>
  refine zV.mono (zkt hC ha) ?_
  rintro r w'⟨q,ow,rfl,hT,ho,hc⟩
  exact⟨_,U,⟨q,ow,U,hT,ho⟩,hc⟩
end
end Go.Wk
