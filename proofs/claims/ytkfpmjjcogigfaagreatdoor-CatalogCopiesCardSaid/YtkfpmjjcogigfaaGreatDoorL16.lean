/- joined texts -/
import Derived.Test.YtkfpmjjcogigfaaGreatDoorL15
set_option linter.all false
namespace Go.Wk
open Go.Proofs
set_option linter.unusedSectionVars false
variable [Lw]
set_option maxRecDepth 10000
theorem zux{c:Cat}{x:EvT}(h:doE c x≠0):doC c x=c:=by unfold doC;rw[if_pos h]
theorem zvu{c:Cat}{x:EvT}(h:z6 x=false):doE c x=2:=by unfold doE;rw[if_pos h]
theorem zjA{c:Cat}{x:EvT}(h:z6 x=true)(h6:x.k≠6)(ha:atC c x.t=none):doE c x=if x.k=4 then (if 12≤c.length then 3 else 0) else 5:=by
 unfold doE;rw[if_neg (by rw[h];simp),if_neg h6,ha]
theorem zjy{c:Cat}{x:EvT}{t:Tb}(h:z6 x=true)(h6:x.k≠6)(ha:atC c x.t=some t):doE c x=if x.k=4 then 220 else if x.k=5 then 0 else zcR t x:=by
 unfold doE;rw[if_neg (by rw[h];simp),if_neg h6,ha]
theorem zCe{c:Cat}{x:EvT}{t:Tb}(he:doE c x=0)(h4:x.k≠4)(h5:x.k≠5)(h6:x.k≠6)(ha:atC c x.t=some t):doC c x=zcy c ⟨t.n,t.s,zcd t x⟩:=by
 unfold doC;rw[if_neg (by simp[he]),if_neg h6,if_neg h4,if_neg h5,ha]
set_option maxHeartbeats 2000000 in
theorem zof(v:Va)(c:Cat)(e:EvV)(x:EvT)(w:Wl)(h:zbX w v c)(hok:za0 c)(hx:zbj w e x)(hm:zcY x)(hN:Lw.n≤w.heap.size) :
 zS TP 17 #[.agg #[v],.agg (evC x e).toArray] w fun r w'=>∃v',r=.tuple #[.agg #[v'],Ii (doE c x)]∧zbX w' v' (doC c x)∧zk [] w w':=by
 obtain⟨L0,hA0,hR0,rfl⟩:=h
 have hl0:L0.length≤12:=by have:=hok.le;rwa [List.length_map]at this
 obtain⟨pv,cv,rfl,hcv⟩:=hA0.val
 obtain⟨ec,eky,eu,eo,en,em⟩:=e
 obtain⟨pm,cm,rfl,-⟩:∃p q,em=.slice p x.m.length q∧x.m.length≤q:=zN.val hx.nm
 have h:zbX w (.slice pv L0.length cv) (L0.map (·.1)):=⟨L0,hA0,hR0,rfl⟩
 generalize hcc:L0.map (·.1)=c at h hok
 have hcl:=hok.le
 have hlen:c.length=L0.length:=by rw[←hcc,List.length_map]
 have hxo:=hx.one
 refine A2 Tryz.func17 U U ?_
 refine Sr ?_
 refine Ob U U ?_
 intro b2 w2 e2 n2 c2 k2
 refine Ob U U ?_
 intro b3 w3 e3 n3 c3 k3
 refine Oq (zF zkf U U ?_)
 intro b4 w4 e4 n4 c4 k4
 refine Oa U (E3 2 3 4 U ?_)
 have hs2:=c2.size
 have hs3:=c3.size
 have hs4:=c4.size
 have hcw:=(c2.trans c3).trans c4
 have k2:zO w4 b2 48 [.slice pv L0.length cv]:=(k2.chg0 c3).chg0 c4
 have k3:zO w4 b3 39 (evC x ⟨ec,eky,eu,eo,en,.slice pm x.m.length cm⟩):=k3.chg0 c4
 have hno:∀{wy wB:Wl} {z:Int},zk [] w4 wy→zk [b4] wy wB→doE c x=z→z≠0→∃v',Value.tuple #[.agg #[.slice pv L0.length cv],Ii z]=.tuple #[.agg #[v'],Ii (doE c x)]∧zbX wB v' (doC c x)∧zk [] w wB:=fun hc hB hz h0=>by
  have hcB:zk [] w _:=(hcw.trans hc).own hB (by intro y hy;simp at hy;omega)
  refine⟨_,by rw[hz],?_,hcB⟩
  rw[zux (by rw[hz];exact h0)]
  exact h.chg0 hcB
 refine zf (zf ?_)
 cases hr:z6 x with
 |false=>
  refine za (Og (zh zbO zaD U U (zv.of_blk0 k3)) U ?_)
  refine Oc zAN U U U (zmY _ x _ (hx.chg0 hcw) hm) ?_
  rintro v12 w12⟨e12,c12⟩
  rw[hr]at e12
  subst e12
  refine Og (zC U) U (E4 2 3 4 13 U (ze U (Sr (Og (zh zbv zah U U (zv.of_blk0 (k2.chg0 c12))) U ?_))))
  refine Oq (zt zah U U U U (k4.chg0 c12) (by simp) (by intro y hy;simp at hy;subst hy;rfl) ?_)
  intro wB nB cB kB
  refine Oa U (E2 4 5 U (zj ?_))
  repeat first|refine tr ?_|refine br ?_
  refine zct U zbv zah U U U (zv.of_blk0 kB) ?_
  exact hno c12 cB (zvu hr) (by decide)
 |true=>
 refine za (Og (zh zbO zaD U U (zv.of_blk0 k3)) U ?_)
 refine Oc zAN U U U (zmY _ x _ (hx.chg0 hcw) hm) ?_
 rintro v12 w12⟨e12,c12⟩
 rw[hr]at e12
 subst e12
 refine Og (zC U) U (E4 2 3 4 13 U (zb U (zm ?_)))
 have k2a:=k2.chg0 c12
 have k3a:=k3.chg0 c12
 have hs12:=c12.size
 refine Sr (Od zbA U (Ol zeI U (k3a.cell' (i:=0) U) (Oa U (E4 2 3 4 6 U (zf ?_)))))
 have hcw12:=hcw.trans c12
 refine za (Og (zh zbv zah U U (zv.of_blk0 k2a)) U (Od yd U (Ol yI U (k3a.cell' (i:=1) U) ?_)))
 refine Oc zyQ U U U (zix _ L0 x.t _ (hA0.chg0 hcw12) (fun p hp=>(hR0 p hp).chg0 hcw12) (by omega)) ?_
 rintro v21 w21⟨a,k,u,o,rfl,hrp,c21⟩
 refine Om U (Oe U U (Oe U U ?_))
 refine Oq (zF zg2 U U ?_)
 intro b7 w7 e7 n7 c7 k7
 refine Oq (zt yH U U U U k7 (by simp) (by
  intro y hy
  rcases hrp with⟨t',-,hm'⟩|⟨-,rfl,rfl,rfl,rfl⟩
  ·exact RT.one (hR0 _ hm') y (List.mem_cons_of_mem _ hy)
  simp at hy;subst hy;rfl) ?_)
 intro wA nA cA kA
 refine Oa U (E6 2 3 4 6 7 8 U ?_)
 have kA:zO wA b7 67 [a,k,u,o]:=kA
 have hs21:=c21.size
 have hs7:=c7.size
 have hcA:zk [] w4 wA:=((c12.trans c21).trans c7).own cA (by intro y hy;simp at hy;omega)
 have k2:=k2.chg0 hcA
 have k3:=k3.chg0 hcA
 have k4:=k4.chg0 hcA
 have hwA:=hcw.trans hcA
 have hxA:=hx.chg0 hwA
 have hrp:(∃t,atC c x.t=some t∧(t,(⟨a,k,u,o⟩:RV))∈L0)∨atC c x.t=none:=by
  unfold zvQ at hrp
  rw[hcc]at hrp
  rcases hrp with h1|h1
  ·exact .inl h1
  exact .inr h1.1
 have hsome:∀{b:Bool},(atC (L0.map (·.1)) x.t).isSome=b→(atC c x.t).isSome=b:=by rw[hcc];exact id
 rw[hcc]
 refine zR (fun F wz=>prune [2,3,4,7] F=[(2,Pt b2),(3,Pt b3),(4,Pt b4),(7,Pt b7)]∧wz=wA∧x.k≠4∧x.k≠5∧x.k≠6∧∃t,atC c x.t=some t∧(t,(⟨a,k,u,o⟩:RV))∈L0) ?_ ?_
 ·refine zp (zf ?_)
  by_cases h6:x.k=6
  ·refine za (Om U (Og (vt (zy U U) (dt h6)) U (Oa U (E7 2 3 4 6 7 8 24 U (ze U (zf ?_))))))
   have hm4:x.m.length≤4:=by
    have:=(za6.1 hr).m h6
    simp only[zdk,Bool.and_eq_true,decide_eq_true_eq]at this
    exact this.1.2
   refine za (Og (zh zbv zah U U (zv.of_blk0 k2)) U (Od zaa U (Ol zcC U (k3.cell' (i:=7) U) ?_)))
   refine Oc zDt U U U (zov _ _ c x.m _ (h.chg0 hwA) hok hxA.nm hm4 (Nat.le_trans hN hwA.size)) ?_
   rintro v30 w30⟨v',rfl,h30,c30⟩
   obtain⟨p30,q30,rfl,-⟩:=h30.val
   refine Oe U U (Oe U U ?_)
   refine Oq (zt zah U U U U (k4.chg0 c30) (by simp) (by intro y hy;simp at hy;subst hy;rfl) ?_)
   intro wB nB cB kB
   refine Oa U (E2 4 5 U (zj ?_))
   repeat first|refine tr ?_|refine br ?_
   refine zct U zbv zah U U U (zv.of_blk0 kB) ?_
   refine⟨_,by rw[zq8 hr h6];rfl,?_,(hwA.trans c30).own cB (by intro y hy;simp at hy;omega)⟩
   have h30:=h30.hm (Hm.rcat (k4.chg0 c30)) cB
   by_cases he:zeh c x.m=0
   ·rw[zwT h6 (by rw[zq8 hr h6];exact he)]
    have e:(if zeh c x.m=0 then zh0 c x.m else c)=zh0 c x.m:=if_pos he
    rw[e]at h30 ⊢
    exact h30
   rw[zux (by rw[zq8 hr h6];exact he)]
   have e:(if zeh c x.m=0 then zh0 c x.m else c)=c:=if_neg he
   rw[e]at h30 ⊢
   exact h30
  refine za (Om U (Og (vf (zy U U) (df h6)) U (Oa U (E7 2 3 4 6 7 8 24 U (zb U (zf ?_))))))
  by_cases h4:x.k=4
  ·rcases hrp with⟨t,hat,hmem⟩|hat
   ·rw[show (atC c x.t).isSome=true by rw[hat];rfl]
    refine za (Om U (Og (vt (zy U U) (dt h4)) U (Om U (Ov U (Ot U (Oa U (E7 2 3 4 6 7 8 33 U (ze U (Sr (Og (zh zbv zah U U (zv.of_blk0 k2)) U ?_))))))))))
    refine Oq (zt zah U U U U k4 (by simp) (by intro y hy;simp at hy;subst hy;rfl) ?_)
    intro wB nB cB kB
    refine Oa U (E2 4 5 U (zj ?_))
    repeat first|refine tr ?_|refine br ?_
    refine zct U zbv zah U U U (zv.of_blk0 kB) ?_
    exact hno hcA cB (by rw[zjy hr h6 hat,if_pos h4]) (by decide)
   rw[show (atC c x.t).isSome=false by rw[hat];rfl]
   refine za (Om U (Og (vt (zy U U) (dt h4)) U (Om U (Ov U (Ot U (Oa U (E7 2 3 4 6 7 8 33 U (zb U (zf ?_)))))))))
   by_cases h12:12≤c.length
   ·refine za (Om U (Og (vt (zy U U) (dt h4)) U (Om U (Oi U (zd yw U) (Oi U (zg zbz U (k2.cell' (i:=0) U)) (Oi U (zV zbg U) ?_))))))
    refine Oi U (vt (yc U U) (dt (by omega))) ?_
    refine Ot U (Oa U (E7 2 3 4 6 7 8 40 U (ze U (Sr (Og (zh zbv zah U U (zv.of_blk0 k2)) U ?_)))))
    refine Oq (zt zah U U U U k4 (by simp) (by intro y hy;simp at hy;subst hy;rfl) ?_)
    intro wB nB cB kB
    refine Oa U (E2 4 5 U (zj ?_))
    repeat first|refine tr ?_|refine br ?_
    refine zct U zbv zah U U U (zv.of_blk0 kB) ?_
    exact hno hcA cB (by rw[zjA hr h6 hat,if_pos h4,if_pos h12]) (by decide)
   refine za (Om U (Og (vt (zy U U) (dt h4)) U (Om U (Oi U (zd yw U) (Oi U (zg zbz U (k2.cell' (i:=0) U)) (Oi U (zV zbg U) ?_))))))
   refine Oi U (vf (yc U U) (df (by omega))) ?_
   refine Ot U (Oa U (E7 2 3 4 6 7 8 40 U (zb U (Sr (Om U (Og (vt (zy U U) (dt h4)) U (Oa U (E7 2 3 4 6 7 8 50 U (ze U (zf ?_))))))))))
   have hrs:=(za6.1 hr).r h4
   have hrt:RT wA ((⟨x.t,x.s,[]⟩:Tb),(⟨ec,eky,eu,zaV⟩:RV)):=⟨hxA.sch,zam.nil _,yW.nil hrs,hm.cn⟩
   refine za (Og (zh zbv zah U U (zv.of_blk0 k2)) U (Od yd U (Ol yI U (k3.cell' (i:=1) U) (Od zbc U ?_))))
   refine Og (zh zaX zaS U U (zv.of_blk k3 2 [ec,eky,eu] ⟨[_,_,_],U⟩)) U ?_
   refine Og (zL zBW zg2 U (vs:=[_]) U (css:=[_]) ⟨U,Tt⟩ U U (cs:=[_,_,_,_]) U) U ?_
   refine Oc zzj U U U (zjn _ c ⟨x.t,x.s,[]⟩ ⟨ec,eky,eu,zaV⟩ _ (h.chg0 hwA) (by omega) hrt) ?_
   rintro v59 w59⟨v',rfl,h30,c30⟩
   obtain⟨p30,q30,rfl,-⟩:=h30.val
   refine Oq (zt zah U U U U (k4.chg0 c30) (by simp) (by intro y hy;simp at hy;subst hy;rfl) ?_)
   intro wB nB cB kB
   refine Oa U (E2 4 5 U (zj ?_))
   repeat first|refine tr ?_|refine br ?_
   refine zct U zbv zah U U U (zv.of_blk0 kB) ?_
   have he:doE c x=0:=by rw[zjA hr h6 hat,if_pos h4,if_neg h12]
   refine⟨_,by rw[he];rfl,?_,(hwA.trans c30).own cB (by intro y hy;simp at hy;omega)⟩
   rw[zxg h4 he]
   exact h30.hm (Hm.rcat (k4.chg0 c30)) cB
  refine za (Om U (Og (vf (zy U U) (df h4)) U (Om U (Ok U (Of U (Oa U (E7 2 3 4 6 7 8 33 U (zb U (Sr (Om U (Og (vf (zy U U) (df h4)) U (Om U (Ok U (Ok U (Ok U (Ok U (Of U (Oa U (E7 2 3 4 6 7 8 40 U (zb U (Sr (Om U (Og (vf (zy U U) (df h4)) U (Oa U (E7 2 3 4 6 7 8 50 U (zb U (zf ?_)))))))))))))))))))))))))))
  rcases hrp with⟨t,hat,hmem⟩|hat
  ·rw[show (atC c x.t).isSome=true by rw[hat];rfl]
   refine za (Om U (Og (zC U) U (Oa U (E6 2 3 4 6 7 60 U (zb U (zf ?_))))))
   by_cases h5:x.k=5
   ·refine za (Om U (Og (vt (zy U U) (dt h5)) U (Oa U (E5 2 3 4 7 64 U (ze U (Sr (Og (zh zbv zah U U (zv.of_blk0 k2)) U (Od yd U (Ol yI U (k3.cell' (i:=1) U) ?_)))))))))
    refine Oc zyO U U U (ziQ _ c x.t _ (h.chg0 hwA) (by omega)) ?_
    rintro v70 w70⟨v',rfl,h30,c30⟩
    obtain⟨p30,q30,rfl,-⟩:=h30.val
    refine Oq (zt zah U U U U (k4.chg0 c30) (by simp) (by intro y hy;simp at hy;subst hy;rfl) ?_)
    intro wB nB cB kB
    refine Oa U (E2 4 5 U (zj ?_))
    repeat first|refine tr ?_|refine br ?_
    refine zct U zbv zah U U U (zv.of_blk0 kB) ?_
    have he:doE c x=0:=by rw[zjy hr h6 hat,if_neg h4,if_pos h5]
    refine⟨_,by rw[he];rfl,?_,(hwA.trans c30).own cB (by intro y hy;simp at hy;omega)⟩
    rw[zw8 h5 he]
    exact h30.hm (Hm.rcat (k4.chg0 c30)) cB
   refine za (Om U (Og (vf (zy U U) (df h5)) U (Oa U (E5 2 3 4 7 64 U (zb U (zT (zl ?_)))))))
   exact⟨U,U,h4,h5,h6,t,hat,hmem⟩
  rw[show (atC c x.t).isSome=false by rw[hat];rfl]
  refine za (Om U (Og (zC U) U (Oa U (E6 2 3 4 6 7 60 U (ze U (Sr (Og (zh zbv zah U U (zv.of_blk0 k2)) U ?_)))))))
  refine Oq (zt zah U U U U k4 (by simp) (by intro y hy;simp at hy;subst hy;rfl) ?_)
  intro wB nB cB kB
  refine Oa U (E2 4 5 U (zj ?_))
  repeat first|refine tr ?_|refine br ?_
  refine zct U zbv zah U U U (zv.of_blk0 kB) ?_
  exact hno hcA cB (by rw[zjA hr h6 hat,if_neg h4]) (by decide)
 rintro F wz⟨hF,rfl,h4,h5,h6,t,hat,hmem⟩
 have hdo:doE c x=zcR t x:=by rw[zjy hr h6 hat,if_neg h4,if_neg h5]
 have htn:x.t=t.n:=(zdQ hat).2.symm
 refine zae [2,3,4,7] hF ?_
 refine Sr (Og (zh zaG yH U U (zv.of_blk0 kA)) U (Og (zh zbO zaD U U (zv.of_blk0 k3)) U ?_))
 refine Oc zDs U U U (zrW t ⟨a,k,u,o⟩ _ x _ ((hR0 _ hmem).chg0 hwA) hxA) ?_
 rintro v74 w74⟨o',rfl,h74,c74⟩
 obtain⟨p74,q74,rfl,-⟩:=h74.rws.val
 refine Om U (Oe U U (Oe U U ?_))
 refine Oq (zF zg2 U U ?_)
 intro b9 w9 e9 n9 c9 k9
 refine Oq (zt yH U U U U k9 (by simp) (za3.one h74.sch _ _ _) ?_)
 intro wC nC cC kC
 refine Oa U (E5 2 3 4 9 10 U ?_)
 have kC:zO wC b9 67 [a,k,u,.slice p74 (zcd t x).length q74]:=kC
 have hs74:=c74.size
 have hs9:=c9.size
 have hcC:zk [] wz wC:=(c74.trans c9).own cC (by intro y hy;simp at hy;omega)
 have h74C:zk [] w74 wC:=c9.own cC (by intro y hy;simp at hy;omega)
 have k2:=k2.chg0 hcC
 have k3:=k3.chg0 hcC
 have k4:=k4.chg0 hcC
 have hwC:=hwA.trans hcC
 have h74:=h74.chg0 h74C
 refine zf (zf ?_)
 by_cases he:zcR t x=0
 ·refine za (Om U ?_)
  refine Og (vf (zJ U U) (by simp[he])) U ?_
  refine E6 2 3 4 9 10 78 U (zb U (zm (zf ?_)))
  have hrt:RT wC ((⟨t.n,t.s,zcd t x⟩:Tb),(⟨a,k,u,.slice p74 (zcd t x).length q74⟩:RV)):=h74
  have kt:wC.cell? ⟨b3,1,none⟩=some (.string t.n):=by rw[←htn];exact k3.cell' (i:=1) rfl
  refine za (Og (zh zbv zah U U (zv.of_blk0 k2)) U (Od yd U (Ol yI U kt (Og (zh zaG yH U U (zv.of_blk0 kC)) U ?_))))
  refine Oc zzj U U U (zjn _ c ⟨t.n,t.s,zcd t x⟩ ⟨a,k,u,.slice p74 (zcd t x).length q74⟩ _ (h.chg0 hwC) (by omega) hrt) ?_
  rintro v85 w85⟨v',rfl,h30,c30⟩
  obtain⟨p30,q30,rfl,-⟩:=h30.val
  refine Oq (zt zah U U U U (k4.chg0 c30) (by simp) (by intro y hy;simp at hy;subst hy;rfl) ?_)
  intro wB nB cB kB
  refine Oa U (E2 4 5 U (zj ?_))
  refine zct U zbv zah U U U (zv.of_blk0 kB) ?_
  have he0:doE c x=0:=by rw[hdo,he]
  refine⟨_,by rw[he0];rfl,?_,(hwC.trans c30).own cB (by intro y hy;simp at hy;omega)⟩
  rw[zCe he0 h4 h5 h6 hat]
  exact h30.hm (Hm.rcat (k4.chg0 c30)) cB
 refine za (Om U ?_)
 refine Og (vt (zJ U U) (by simp[he])) U ?_
 refine E6 2 3 4 9 10 78 U (ze U (Sr (Og (zh zbv zah U U (zv.of_blk0 k2)) U (Om U ?_))))
 refine Oq (zt zah U U U U k4 (by simp) (by intro y hy;simp at hy;subst hy;rfl) ?_)
 intro wB nB cB kB
 refine Oa U (E2 4 5 U (zj ?_))
 repeat first|refine tr ?_|refine br ?_
 refine zct U zbv zah U U U (zv.of_blk0 kB) ?_
 exact hno (hcA.trans hcC) cB (hdo) (he)
theorem zrS(v v':Va)(c c':Cat)(w:Wl)(h:zbX w v c)(h':zbX w v' c')(hl:c.length≤1000)(hl':c'.length≤1000) :
 zS TP 28 #[.agg #[v],.agg #[v']] w fun r w'=>r=.bool (decide (c=c'))∧zk [] w w':=by
 obtain⟨pv,cv,rfl,hcv⟩:=h.val
 obtain⟨pu,cu,rfl,hcu⟩:=h'.val
 refine A2 Tryz.func28 U U ?_
 refine Sr ?_
 refine Ob U U ?_
 intro b2 w2 e2 n2 c2 k2
 refine Ob U U ?_
 intro b3 w3 e3 n3 c3 k3
 refine Oa U (E2 2 3 U ?_)
 have hcw:=c2.trans c3
 have k2:=k2.chg0 c3
 refine zf (zf ?_)
 by_cases hne:c.length=c'.length
 case neg=>
  refine za (Od yw U (Ol zbz U (k2.cell' (i:=0) U) (On zbg U (Od yw U (Ol zbz U (k3.cell' (i:=0) U) (On zbg U ?_))))))
  refine Og (vt (zJ U U) (by simp;omega)) U ?_
  refine E3 2 3 12 U (ze U (Sr (Oa U (E1 4 U (zj ?_)))))
  repeat first|refine tr ?_|refine br ?_
  refine zw U U ?_
  exact⟨by rw[df (fun e=>hne (by rw[e]))],hcw⟩
 refine za (Od yw U (Ol zbz U (k2.cell' (i:=0) U) (On zbg U (Od yw U (Ol zbz U (k3.cell' (i:=0) U) (On zbg U ?_))))))
 refine Og (vf (zJ U U) (by simp;omega)) U ?_
 refine E3 2 3 12 U (zb U (zm ?_))
 refine zR (fun F wx=>prune [0] F=[]∧zk [] w3 wx∧c=c') ?_ ?_
 ·refine Sr (Oa U (E3 2 3 5 U (zp ?_)))
  refine zQ [2,3,5] (fun m F wx=>∃j:Nat,m=c.length-j∧j≤c.length∧F=[(2,Pt b2),(3,Pt b3),(5,Ii j)]∧zk [] w3 wx∧c.take j=c'.take j) (m:=c.length-0) ⟨0,rfl,Zl _,rfl,zk.refl _ _,by simp⟩ ?_
  rintro m F wx⟨j,rfl,hj,rfl,hcx,htk⟩
  have k2:=k2.chg0 hcx
  have k3:=k3.chg0 hcx
  have hcwx:=hcw.trans hcx
  refine zf (zf ?_)
  by_cases hlt:j<c.length
  ·refine za (Om U (Od yw U (Ol zbz U (k2.cell' (i:=0) U) (On zbg U ?_))))
   refine Og (vt (zz U U) (dt (by omega))) U ?_
   refine E4 2 3 5 17 U (ze U (zm ?_))
   have hlt':j<c'.length:=by omega
   have hx:c[j]?=some c[j]:=by simp[hlt]
   have hy:c'[j]?=some c'[j]:=by simp[hlt']
   generalize c[j]=t at hx
   generalize c'[j]=u at hy
   obtain⟨b,off,cap,r,hve,hct,hrt⟩:=(h.chg0 hcwx).at hx
   cases hve
   obtain⟨b',off',cap',r',hve,hcu',hru⟩:=(h'.chg0 hcwx).at hy
   cases hve
   have nt:wx.cell? ⟨b,off+j*5,none⟩=some (.string t.n):=hct 0 _ rfl
   have nu:wx.cell? ⟨b',off'+j*5,none⟩=some (.string u.n):=hcu' 0 _ rfl
   have hd:zk [] wx wx.drew:=zk.drew [] wx
   refine zf (zp (zf ?_))
   by_cases hn:t.n=u.n
   ·cases hs:(decide (t.s=u.s)&&decide (t.r=u.r)) with
    |false=>
     refine zH (fun wz=>zk [] wx wz) mix (zdv (by kernel_rfl)) hd ?_
     refine Td yw U (Tr (fun wz hz=>zg zbz U ((k2.chg0 hz).cell' (i:=0) U)) U (Tm U ?_))
     refine Tp (fun _=>zi zbg zdp U U _ U hlt) U ?_
     refine Td zdb U (Tr (fun wz hz=>zg yI U (hz.cell nt)) U (Td yw U (Tr (fun wz hz=>zg zbz U ((k3.chg0 hz).cell' (i:=0) U)) U (Tm U ?_))))
     refine Tp (fun _=>zi zbg zdp U U _ U hlt') U ?_
     refine Td zdb U (Tr (fun wz hz=>zg yI U (hz.cell nu)) U ?_)
     refine Tp (fun _=>vf (zcj U U) (by simp[hn])) U ?_
     refine Tm U (Tg U U (fun _=>zd yw U) U (Ts U U (fun wz hz=>zg zbz U ((k2.chg0 hz).cell' (i:=0) U)) U (Tq U U U ?_)))
     refine Tg U U (fun _=>zi zbg zdp U U _ U hlt) U ?_
     refine Tg U U (fun _=>zd zfK U) U (Ts U U (fun wz hz=>zh zaG yH U U (RT.cells (zv.chg0 hct hz))) U (Tg U U (fun _=>zd yw U) U (Ts U U (fun wz hz=>zg zbz U ((k3.chg0 hz).cell' (i:=0) U)) U (Tq U U U ?_))))
     refine Tg U U (fun _=>zi zbg zdp U U _ U hlt') U ?_
     refine Tg U U (fun _=>zd zfK U) U (Ts U U (fun wz hz=>zh zaG yH U U (RT.cells (zv.chg0 hcu' hz))) U ?_)
     refine Tv U U zzB U U U (zpo _ _ _ _ _ _ _ _ t.s u.s t.r u.r _ (hrt.chg0 hd) (hru.chg0 hd)) ?_
     rintro v46 w46⟨e46,c46⟩
     rw[hs]at e46
     subst e46
     refine⟨.inl (hd.trans c46),?_⟩
     refine Tg U U (fun _=>zC U) U (Tp (fun _=>zE U U) U (D4 2 3 5 48 U (ze U (Sr (Oa U (E1 4 U (zj ?_)))))))
     repeat first|refine tr ?_|refine br ?_
     refine zw U U ?_
     refine⟨?_,(hcwx.trans hd).trans c46⟩
     rw[df]
     rintro rfl
     rw[hx]at hy
     cases hy
     simp at hs
    |true=>
     refine zH (fun wz=>zk [] wx wz) mix (zdv (by kernel_rfl)) hd ?_
     refine Td yw U (Tr (fun wz hz=>zg zbz U ((k2.chg0 hz).cell' (i:=0) U)) U (Tm U ?_))
     refine Tp (fun _=>zi zbg zdp U U _ U hlt) U ?_
     refine Td zdb U (Tr (fun wz hz=>zg yI U (hz.cell nt)) U (Td yw U (Tr (fun wz hz=>zg zbz U ((k3.chg0 hz).cell' (i:=0) U)) U (Tm U ?_))))
     refine Tp (fun _=>zi zbg zdp U U _ U hlt') U ?_
     refine Td zdb U (Tr (fun wz hz=>zg yI U (hz.cell nu)) U ?_)
     refine Tp (fun _=>vf (zcj U U) (by simp[hn])) U ?_
     refine Tm U (Tg U U (fun _=>zd yw U) U (Ts U U (fun wz hz=>zg zbz U ((k2.chg0 hz).cell' (i:=0) U)) U (Tq U U U ?_)))
     refine Tg U U (fun _=>zi zbg zdp U U _ U hlt) U ?_
     refine Tg U U (fun _=>zd zfK U) U (Ts U U (fun wz hz=>zh zaG yH U U (RT.cells (zv.chg0 hct hz))) U (Tg U U (fun _=>zd yw U) U (Ts U U (fun wz hz=>zg zbz U ((k3.chg0 hz).cell' (i:=0) U)) U (Tq U U U ?_))))
     refine Tg U U (fun _=>zi zbg zdp U U _ U hlt') U ?_
     refine Tg U U (fun _=>zd zfK U) U (Ts U U (fun wz hz=>zh zaG yH U U (RT.cells (zv.chg0 hcu' hz))) U ?_)
     refine Tv U U zzB U U U (zpo _ _ _ _ _ _ _ _ t.s u.s t.r u.r _ (hrt.chg0 hd) (hru.chg0 hd)) ?_
     rintro v46 w46⟨e46,c46⟩
     rw[hs]at e46
     subst e46
     refine⟨.inl (hd.trans c46),?_⟩
     refine Tg U U (fun _=>zC U) U (Tp (fun _=>zE U U) U (D4 2 3 5 48 U (zb U (zT (zl (za (Om U ?_)))))))
     refine Og (zG U U (by omega)) U ?_
     refine Oa U (N3 2 3 5 U ?_)
     refine⟨c.length-(j+1),by omega,j+1,rfl,by omega,rfl,(hcx.trans hd).trans c46,?_⟩
     have e:t=u:=by
      simp only[Bool.and_eq_true,decide_eq_true_eq]at hs
      obtain⟨n,s,r⟩:=t
      obtain⟨n',s',r'⟩:=u
      simp only at hn hs
      rw[hn,hs.1,hs.2]
     rw[yq hx,yq hy,htk,e]
   refine zH (fun wz=>zk [] wx wz) mix (zdv (by kernel_rfl)) hd ?_
   refine Td yw U (Tr (fun wz hz=>zg zbz U ((k2.chg0 hz).cell' (i:=0) U)) U (Tm U ?_))
   refine Tp (fun _=>zi zbg zdp U U _ U hlt) U ?_
   refine Td zdb U (Tr (fun wz hz=>zg yI U (hz.cell nt)) U (Td yw U (Tr (fun wz hz=>zg zbz U ((k3.chg0 hz).cell' (i:=0) U)) U (Tm U ?_))))
   refine Tp (fun _=>zi zbg zdp U U _ U hlt') U ?_
   refine Td zdb U (Tr (fun wz hz=>zg yI U (hz.cell nu)) U ?_)
   refine Tp (fun _=>vt (zcj U U) (by simp[hn])) U ?_
   refine Tm U ?_
   iterate 14 refine Tk U ?_
   refine Tp (fun _=>zD U U) U (D4 2 3 5 48 U (ze U (Sr (Oa U (E1 4 U (zj ?_))))))
   repeat first|refine tr ?_|refine br ?_
   refine zw U U ?_
   refine⟨?_,hcwx.trans hd⟩
   rw[df]
   rintro rfl
   rw[hx]at hy
   cases hy
   exact hn U
  refine za (Om U (Od yw U (Ol zbz U (k2.cell' (i:=0) U) (On zbg U ?_))))
  refine Og (vf (zz U U) (df (by omega))) U ?_
  refine E4 2 3 5 17 U (zb U ?_)
  refine zI ?_
  repeat first|refine te ?_|refine bo rfl ?_
  refine zq _ ?_
  rw[Tl (by omega),Tl (by omega)]at htk
  exact⟨U,hcx,htk⟩
 rintro F wx⟨hF,hcx,he⟩
 refine zae [0] hF ?_
 refine Sr (Oa U (E1 4 U (zj ?_)))
 refine zw U U ?_
 exact⟨by rw[dt he],hcw.trans hcx⟩
theorem zeS(i:Int)(w:Wl):zS TP 12 #[Ii i] w fun r w'=>r=Ii i∧w'=w:=by
 refine A1 Tryz.func12 U U ?_
 refine Sr (Oa U (E1 0 U (Sr (Om U (Oa U (E1 2 U (zj ?_)))))))
 refine zw U U ?_
 exact⟨U,U⟩
def zez(i:Int):List zX:=[⟨1,i,0,e0⟩]
theorem zqh(i:Int)(w:Wl):zS TP 31 #[Ii i] w fun r w'=>∃b,r=.slice (some ⟨b,0,none⟩) 1 1∧w.heap.size≤b∧zO w' b 111 (fl zX.cs (zez i))∧zk [] w w':=by
 refine A1 Tryz.func31 U U ?_
 refine Sr (Oa U (E1 0 U (Sr (Om U ?_))))
 refine Og (zL zj4 zdl U (vs:=[_,_]) U (css:=[_,_]) ⟨U,U,Tt⟩ U U (cs:=[_,_,_,_]) U) U ?_
 refine Oq (zA zj2 U (vs:=[_]) U (css:=[_]) ⟨U,Tt⟩ U U (cs:=[_,_,_,_]) U U ?_)
 intro b5 w5 e5 n5 c5 k5
 refine Oa U (E1 2 U (zj ?_))
 refine zw U U ?_
 exact⟨_,rfl,by omega,k5,c5⟩
theorem zqz{i:Int}{b:Nat}{w:Wl}(k:zO w b 111 (fl zX.cs (zez i))):ya w (.slice (some ⟨b,0,none⟩) 1 1) (zez i):=zN.of_blk (l:=zez i) zbr zX.one k (by simp[zez,maxLen])
def zkB:yK:=⟨[⟨⟨#[97]⟩,1,1,false⟩],[0],[]⟩
def za8(n:By):EvT:=⟨5,n,zfW,[],[],[]⟩
def zeA(m:List (By×By)):EvT:=⟨6,e0,zfW,[],[],m⟩
def zbP(n:By):EvT:=⟨4,n,zkB,[],[],[]⟩
def zi5:EvV:=⟨zaV,zaV,zaV,zaV,zaV,zaV⟩
theorem zh2(n:By)(w:Wl):zbj w zi5 (za8 n):=⟨zhp w,zN.nil _ _ _ _,zN.nil _ _ _ _,zN.nil _ _ _ _,by simp[za8],by simp[za8],by simp[za8]⟩
theorem zkx(n:By)(w:Wl):zS TP 22 #[.string n] w fun r w'=>r=.agg (evC (za8 n) zi5).toArray∧zk [] w w':=by
 refine A1 Tryz.func22 U U ?_
 refine Sr ?_
 refine Oq (zF zh6 U U ?_)
 intro b2 w2 e2 n2 c2 k2
 refine E2 0 2 U (Sr (Om U ?_))
 refine Og (zL zq0 zh6 U (vs:=[_,_]) U (css:=[_,_]) ⟨U,U,Tt⟩ U U (cs:=[_,_,_,_,_,_,_,_]) U) U ?_
 refine Oq (zt zaD U U U U k2 (by simp) (by intro y hy;simp at hy;rcases hy with rfl|rfl|rfl<;>rfl) ?_)
 intro wB nB cB kB
 refine E1 2 U (zj ?_)
 refine zf0 U zbO zaD U U (zv.of_blk0 kB) ?_
 exact⟨rfl,c2.own cB (by intro y hy;simp at hy;omega)⟩
theorem zjp(vm:Va)(m:List (By×By))(w:Wl)(hm:zdm w vm m):zS TP 30 #[vm] w fun r w'=>r=.agg (evC (zeA m) { zi5 with m:=vm }).toArray∧zbj w' { zi5 with m:=vm } (zeA m)∧zk [] w w':=by
 obtain⟨pm,cm,rfl,-⟩:∃p q,vm=.slice p m.length q∧m.length≤q:=zN.val hm
 refine A1 Tryz.func30 U U ?_
 refine Sr ?_
 refine Oq (zF zh6 U U ?_)
 intro b2 w2 e2 n2 c2 k2
 refine E2 0 2 U (Sr (Om U ?_))
 refine Og (zem zq0 zh6 U (qs:=[(0,_),(5,_)]) U (css:=[_,_]) ⟨U,U,Tt⟩ (cs:=[_,_,_,_,_,_,_,_]) U) U ?_
 refine Oq (zt zaD U U U U k2 (by simp) (by intro y hy;simp at hy;rcases hy with rfl|rfl|rfl|rfl<;>rfl) ?_)
 intro wB nB cB kB
 refine E1 2 U (zj ?_)
 refine zf0 U zbO zaD U U (zv.of_blk0 kB) ?_
 have hc:zk [] w wB:=c2.own cB (by intro y hy;simp at hy;omega)
 exact⟨rfl,⟨zhp _,zN.nil _ _ _ _,zN.nil _ _ _ _,zN.chg0 hm hc,by simp[zeA],by simp[zeA],by simp[zeA]⟩,hc⟩
theorem zka(n:By)(w:Wl):zS TP 29 #[.string n] w fun r w'=>∃e,r=.agg (evC (zbP n) e).toArray∧zbj w' e (zbP n)∧zk [] w w':=by
 refine A1 Tryz.func29 U U ?_
 refine Sr ?_
 refine Oq (zF zh6 U U ?_)
 intro b2 w2 e2 n2 c2 k2
 refine E2 0 2 U (Sr (Om U ?_))
 refine Og (zL zwH zk0 U (vs:=[_,_,_]) U (css:=[_,_,_]) ⟨U,U,U,Tt⟩ U U (cs:=[_,_,_,_]) U) U ?_
 refine Oq (zA zDz U (vs:=[_]) U (css:=[_]) ⟨U,Tt⟩ U U (cs:=[_,_,_,_]) U U ?_)
 intro b5 w5 e5 n5 c5 k5
 refine Oq (zA zx9 U (vs:=[_]) U (css:=[_]) ⟨U,Tt⟩ U U (cs:=[_]) U U ?_)
 intro b6 w6 e6 n6 c6 k6
 refine Og (zL zDq zAT U (vs:=[_,_]) U (css:=[_,_]) ⟨U,U,Tt⟩ U U (cs:=[_,_,_]) U) U ?_
 refine Og (zL zq0 zh6 U (vs:=[_,_,_]) U (css:=[_,_,_]) ⟨U,U,U,Tt⟩ U U (cs:=[_,_,_,_,_,_,_,_]) U) U ?_
 refine Oq (zt zaD U U U U (k2.chg0 (c5.trans c6)) (by simp) (by intro y hy;simp at hy;rcases hy with rfl|rfl|rfl|rfl|rfl<;>rfl) ?_)
 intro wB nB cB kB
 refine E1 2 U (zj ?_)
 refine zf0 U zbO zaD U U (zv.of_blk0 kB) ?_
 have hs5:=c5.size
 have hs6:=c6.size
 have k5B:=(k5.chg0 c6).chg cB (by simp;omega)
 have k6B:=k6.chg cB (by simp;omega)
 refine⟨⟨_,_,_,_,_,_⟩,rfl,⟨⟨?_,?_,⟨[],Rd.nil _ 1,Tt,by simp⟩,?_⟩,zN.nil _ _ _ _,zN.nil _ _ _ _,zN.nil _ _ _ _,by simp[zbP],by simp[zbP],by simp[zbP]⟩,((c2.trans c5).trans c6).own cB (by intro y hy;simp at hy;omega)⟩
 ·exact zN.of_blk (l:=zkB.cols) zaE Col.one k5B (by simp[zkB,maxLen])
 ·exact zN.of_blk (l:=zkB.key) (fun _=>rfl) (fun x u hu=>by simp[ics]at hu;subst hu;rfl) k6B (by simp[zkB,maxLen])
 intro v hv b hb
 simp only[List.mem_cons,List.not_mem_nil,or_false]at hv
 replace hb:=ztc hb
 rcases hv with rfl|rfl|rfl
 ·simp[zu]at hb
  subst hb
  exact .inr ⟨_,_,_,k5B,U⟩
 ·simp[zu]at hb
  subst hb
  exact .inr ⟨_,_,_,k6B,U⟩
 simp[zu]at hb
theorem zwi{P:Program}{n:Nat}{F:Fr}{w:Wl}{dst:Option Nat}{ty:TypeId}{pos:String}{af:Array Edge}{gd:Option (Nat×Bool)}{x y:Operand}{t u:TypeId}{i j:Int}(hx:ev F x=some (Ii i))(hy:ev F y=some (Ii j)):Vl P n F ⟨dst,.binOp .add t x y u,ty,pos,af,gd⟩ w (Ii (IntKind.i64.wrap (i+j))) w:=
 fun a ha=>by simp[execOp,ha.eval hx,ha.eval hy,eqGuard,binOp,Op.intArith]
section
variable {α:Type} {w:Wl} {e k j i:Nat} {f:α→LA} {g:α→By} {p:Option Addr} {c:Nat} {l:List α}
theorem zN.pick(hf:∀x,(f x).length=k)(hg:∀x,(f x)[i]?=some (.string (g x)))(h:zN w e k f (.slice p l.length c) l)(j:Nat) :
 ∃b o s,j<l.length→p=some ⟨b,o,none⟩∧(∃y,l[j]?=some y∧s=g y)∧w.cell? ⟨b,o+j*k+i,none⟩=some (.string s):=by
 by_cases hj:j<l.length
 ·have hx:l[j]?=some l[j]:=by simp[hj]
  obtain⟨b,o,cap,hv,hc⟩:=zN.at hf h hx
  cases hv
  exact⟨b,o,g l[j],fun _=>⟨U,⟨_,hx,U⟩,hc i _ (hg _)⟩⟩
 exact⟨0,0,e0,fun h=>absurd h hj⟩
theorem zbT.pick{E:Nat}{ls:List (List α)}(h:zbT w E e k f (.slice p ls.length c) ls)(j:Nat) :
 ∃b o q n d,j<ls.length→p=some ⟨b,o,none⟩∧(∃y,ls[j]?=some y∧n=y.length)∧w.cell? ⟨b,o+j*1,none⟩=some (.slice q n d):=by
 by_cases hj:j<ls.length
 ·have hx:ls[j]?=some ls[j]:=by simp[hj]
  obtain⟨b,o,cap,u,hv,hc,ha⟩:=zbT.at h hx
  cases hv
  obtain⟨q,d,rfl,-⟩:=zN.val ha
  exact⟨b,o,q,_,d,fun _=>⟨U,⟨_,hx,U⟩,hc⟩⟩
 exact⟨0,0,none,0,0,fun h=>absurd h hj⟩
theorem zdu{a b:Nat}(h:decide ((a:Int)<(b:Int))=true):a<b:=by have:=of_decide_eq_true h;omega
end
def zvY(x:EvT):Bool:=decide (x.t.size≤60∧x.o.length≤12∧x.w.length≤12∧x.m.length≤8∧x.s.cols.length≤12∧x.s.key.length≤12∧x.s.uq.length≤6)
def znc(x:EvT)(j:Nat):Bool:=
 (x.o[j]?).any (fun y=>decide (300<y.b.size))||(x.w[j]?).any (fun y=>decide (300<y.b.size))||(x.s.cols[j]?).any (fun y=>decide (60<y.n.size))||(x.s.uq[j]?).any (fun y=>decide (12<y.length)) ||
 (x.m[j]?).any (fun y=>decide (120<IntKind.i64.wrap ((y.1.size:Int)+(y.2.size:Int))))
def zko(x:EvT):Bool:=zvY x&&(List.range 12).all fun j => !znc x j
theorem zkk{α:Type}{l:List α}{j:Nat}{P:Bool}{f:α→Bool}(h:j<l.length→∃y,l[j]?=some y∧P=f y):(decide ((j:Int)<(l.length:Int))&&P)=(l[j]?).any f:=by
 by_cases hj:j<l.length
 ·obtain⟨y,h1,rfl⟩:=h hj
  rw[h1,dt (by omega)]
  rfl
 rw[df (by omega),List.getElem?_eq_none (by omega)]
 rfl
def zie(x:EvT):Prop:=∀p∈x.m,p.1.size≤9223372036854775807∧p.2.size≤9223372036854775807
theorem zym{x:EvT}(h:zko x=true)(hmn:zie x):zcY x:=by
 simp only[zko,Bool.and_eq_true,zvY,decide_eq_true_eq,List.all_eq_true,List.mem_range,Bool.not_eq_true',znc,Bool.or_eq_false_iff]at h
 obtain⟨⟨h1,h2,h3,h4,h5,h6,h7⟩,hj⟩:=h
 refine⟨⟨by omega,by omega,by omega,fun l hl=>?_⟩,by omega,by omega,by omega,by omega,fun c hc=>?_,hmn⟩
 ·obtain⟨j,hj'⟩:=List.getElem?_of_mem hl
  have hlt:=(Gs hj').1
  have:=(hj j (by omega)).1.2
  rw[hj']at this
  simp at this
  omega
 obtain⟨j,hj'⟩:=List.getElem?_of_mem hc
 have hlt:=(Gs hj').1
 have:=(hj j (by omega)).1.1.2
 rw[hj']at this
 simp at this
 omega
set_option maxHeartbeats 2000000 in
theorem zqI(e:EvV)(x:EvT)(w:Wl)(hx:zbj w e x):zS TP 24 #[.agg (evC x e).toArray] w fun r w'=>r=.bool (zko x)∧zk [] w w':=by
 obtain⟨c,ky,u,o,n,m⟩:=e
 obtain⟨pc,cc,rfl,-⟩:∃p q,c=.slice p x.s.cols.length q∧x.s.cols.length≤q:=zN.val hx.sch.cols
 obtain⟨pk,ck,rfl,-⟩:∃p q,ky=.slice p x.s.key.length q∧x.s.key.length≤q:=zN.val hx.sch.key
 obtain⟨pu,cu,rfl,-⟩:∃p q,u=.slice p x.s.uq.length q∧x.s.uq.length≤q:=zbT.val hx.sch.uq
 obtain⟨po,co,rfl,-⟩:∃p q,o=.slice p x.o.length q∧x.o.length≤q:=zN.val hx.old
 obtain⟨pn,cn,rfl,-⟩:∃p q,n=.slice p x.w.length q∧x.w.length≤q:=zN.val hx.new
 obtain⟨pm,cm,rfl,-⟩:∃p q,m=.slice p x.m.length q∧x.m.length≤q:=zN.val hx.nm
 refine A1 Tryz.func24 U U ?_
 refine Sr ?_
 refine Ob U U ?_
 intro b1 w1 e1 n1 c1 k1
 refine Oa U (E1 1 U ?_)
 have hx:=hx.chg0 c1
 generalize hE:evC x ⟨.slice pc x.s.cols.length cc,.slice pk x.s.key.length ck,.slice pu x.s.uq.length cu,.slice po x.o.length co,.slice pn x.w.length cn,.slice pm x.m.length cm⟩=E at *
 have k1:zO w1 b1 39 E:=k1
 have f1:∀{wz:Wl},zk [] w1 wz→wz.cell? ⟨b1,1,none⟩=some (.string x.t):=fun hz=>(k1.chg0 hz).cell' (i:=1) (by rw[←hE];rfl)
 have f2:∀{wz:Wl},zk [] w1 wz→wz.cell? ⟨b1,2,none⟩=some (.slice pc x.s.cols.length cc):=fun hz=>(k1.chg0 hz).cell' (i:=2) (by rw[←hE];rfl)
 have f3:∀{wz:Wl},zk [] w1 wz→wz.cell? ⟨b1,3,none⟩=some (.slice pk x.s.key.length ck):=fun hz=>(k1.chg0 hz).cell' (i:=3) (by rw[←hE];rfl)
 have f4:∀{wz:Wl},zk [] w1 wz→wz.cell? ⟨b1,4,none⟩=some (.slice pu x.s.uq.length cu):=fun hz=>(k1.chg0 hz).cell' (i:=4) (by rw[←hE];rfl)
 have f5:∀{wz:Wl},zk [] w1 wz→wz.cell? ⟨b1,5,none⟩=some (.slice po x.o.length co):=fun hz=>(k1.chg0 hz).cell' (i:=5) (by rw[←hE];rfl)
 have f6:∀{wz:Wl},zk [] w1 wz→wz.cell? ⟨b1,6,none⟩=some (.slice pn x.w.length cn):=fun hz=>(k1.chg0 hz).cell' (i:=6) (by rw[←hE];rfl)
 have f7:∀{wz:Wl},zk [] w1 wz→wz.cell? ⟨b1,7,none⟩=some (.slice pm x.m.length cm):=fun hz=>(k1.chg0 hz).cell' (i:=7) (by rw[←hE];rfl)
 have hr:=zk.refl [] w1
 refine zf (Sr (Od yd U (Ol yI U (f1 hr) (Og (yV st9 U) U (Og (zU U U) U (Om U ?_))))))
 apply ze6 (t:=13)
 case h0=>
  intro H
  refine Ok U (Ok U (Ok U (Ok U (Ot U ?_))))
  exact yL [9,10,11,12] U H
 case h1=>
  intro hc H
  refine Oi U (zd y6 U) (Oi U (zg yU U (f5 hr)) (Oi U (zV yE U) (Oi U (zU U U) (Of U ?_))))
  exact yL [9,10,11,12] U H
 refine Om U ?_
 apply ze6 (t:=19)
 case h0=>
  intro H
  refine Ok U (Ok U (Ok U (Ok U (Ot U ?_))))
  exact yL [15,16,17,18] U H
 case h1=>
  intro hc H
  refine Oi U (zd zaY U) (Oi U (zg yU U (f6 hr)) (Oi U (zV yE U) (Oi U (zU U U) (Of U ?_))))
  exact yL [15,16,17,18] U H
 refine Om U ?_
 apply ze6 (t:=25)
 case h0=>
  intro H
  refine Ok U (Ok U (Ok U (Ok U (Ot U ?_))))
  exact yL [21,22,23,24] U H
 case h1=>
  intro hc H
  refine Oi U (zd zaa U) (Oi U (zg zcC U (f7 hr)) (Oi U (zV zaF U) (Oi U (zU U U) (Of U ?_))))
  exact yL [21,22,23,24] U H
 refine Om U ?_
 apply ze6 (t:=32)
 case h0=>
  intro H
  refine Ok U (Ok U (Ok U (Ok U (Ok U (Ot U ?_)))))
  exact yL [27,28,29,30,31] U H
 case h1=>
  intro hc H
  refine Oi U (zd zbc U) (Oi U (zd yp U) (Oi U (zg za9 U (f2 hr)) (Oi U (zV zaO U) (Oi U (zU U U) (Of U ?_)))))
  exact yL [27,28,29,30,31] U H
 refine Om U ?_
 apply ze6 (t:=39)
 case h0=>
  intro H
  refine Ok U (Ok U (Ok U (Ok U (Ok U (Ot U ?_)))))
  exact yL [34,35,36,37,38] U H
 case h1=>
  intro hc H
  refine Oi U (zd zbc U) (Oi U (zd zbp U) (Oi U (zg zci U (f3 hr)) (Oi U (zV zaH U) (Oi U (zU U U) (Of U ?_)))))
  exact yL [34,35,36,37,38] U H
 refine Om U ?_
 apply ze6 (t:=46)
 case h0=>
  intro H
  refine Ok U (Ok U (Ok U (Ok U (Ok U (Ot U ?_)))))
  exact yL [41,42,43,44,45] U H
 case h1=>
  intro hc H
  refine Oi U (zd zbc U) (Oi U (zd zay U) (Oi U (zg zcL U (f4 hr)) (Oi U (zV zbd U) (Oi U (zU U U) (Of U ?_)))))
  exact yL [41,42,43,44,45] U H
 refine E2 1 46 U ?_
 refine zP U (fun hT=>?_) (fun hF=>?_)
 ·refine Sr (Oa U (E1 2 U (zj ?_)))
  repeat first|refine tr ?_|refine br ?_
  refine zw U U ?_
  refine⟨?_,c1⟩
  have:zvY x=false:=by
   simp only[Bool.or_eq_true,decide_eq_true_eq]at hT
   refine df fun h=>?_
   omega
  simp[zko,this]
 refine zm ?_
 have hFE:zvY x=true:=by
  simp only[Bool.or_eq_false_iff,decide_eq_false_iff_not]at hF
  exact dt (by omega)
 refine zR (fun F wx=>prune [0] F=[]∧zk [] w1 wx∧∀i,i<12→znc x i=false) ?_ ?_
 ·refine Sr (Oa U (E2 1 3 U (zp ?_)))
  refine zQ [1,3] (fun m F wx=>∃j:Nat,m=12-j∧j≤12∧F=[(1,Pt b1),(3,Ii j)]∧zk [] w1 wx∧∀i,i<j→znc x i=false) (m:=12-0) ⟨0,rfl,Zl _,rfl,zk.refl _ _,by omega⟩ ?_
  rintro k F wx⟨j,rfl,hj,rfl,hcx,hall⟩
  refine zf (zf ?_)
  by_cases hlt:j<12
  ·refine za (Om U ?_)
   refine Og (vt (zz U U) (dt (by omega))) U ?_
   refine E3 1 3 48 U (ze U (zm ?_))
   obtain⟨bo,oo,so,ho⟩:=zN.pick (i:=3) (g:=zX.b) zbr (fun _=>rfl) hx.old j
   obtain⟨bw,ow,sw,hw⟩:=zN.pick (i:=3) (g:=zX.b) zbr (fun _=>rfl) hx.new j
   obtain⟨bc,oc,sc,hc'⟩:=zN.pick (i:=0) (g:=Col.n) zaE (fun _=>rfl) hx.sch.cols j
   obtain⟨bu,ou,qu,nu,du,hu⟩:=zbT.pick hx.sch.uq j
   obtain⟨bm,om,sm,hm0⟩:=zN.pick (i:=0) (g:=Prod.fst) zbu (fun _=>rfl) hx.nm j
   obtain⟨bm',om',sm',hm1⟩:=zN.pick (i:=1) (g:=Prod.snd) zbu (fun _=>rfl) hx.nm j
   have hfj:(((((decide ((j:Int)<(x.o.length:Int))&&decide ((300:Int)<(so.size:Int)))||(decide ((j:Int)<(x.w.length:Int))&&decide ((300:Int)<(sw.size:Int))))||(decide ((j:Int)<(x.s.cols.length:Int))&&decide ((60:Int)<(sc.size:Int))))||(decide ((j:Int)<(x.s.uq.length:Int))&&decide ((12:Int)<(nu:Int))))||(decide ((j:Int)<(x.m.length:Int))&&decide ((120:Int)<IntKind.i64.wrap ((sm.size:Int)+(sm'.size:Int)))))=znc x j:=by
    unfold znc
    rw[zkk (f:=fun y:zX=>decide (300<y.b.size)) fun h=>(let ⟨y,h1,h2⟩:=(ho h).2.1; ⟨y,h1,by rw[h2,decide_eq_decide];omega⟩),
     zkk (f:=fun y:zX=>decide (300<y.b.size)) fun h=>(let ⟨y,h1,h2⟩:=(hw h).2.1; ⟨y,h1,by rw[h2,decide_eq_decide];omega⟩),
     zkk (f:=fun y:Col=>decide (60<y.n.size)) fun h=>(let ⟨y,h1,h2⟩:=(hc' h).2.1; ⟨y,h1,by rw[h2,decide_eq_decide];omega⟩),
     zkk (f:=fun y:List Int=>decide (12<y.length)) fun h=>(let ⟨y,h1,h2⟩:=(hu h).2.1; ⟨y,h1,by rw[h2,decide_eq_decide];omega⟩),
     zkk (f:=fun y:By×By=>decide (120<IntKind.i64.wrap ((y.1.size:Int)+(y.2.size:Int)))) fun h=>(let ⟨y,h1,h2⟩:=(hm0 h).2.1;let ⟨y',h3,h4⟩:=(hm1 h).2.1; ⟨y,h1,by rw[h1]at h3;cases h3;rw[h2,h4]⟩)]
   refine zf (zp (zf ?_))
   refine zH (fun wz=>zk [] w1 wz) mix (zdv (by kernel_rfl)) (hcx.trans (zk.drew [] _)) ?_
   refine Tm U (Td y6 U (Tr (fun wz hz=>zg yU U (f5 hz)) U (Tp (fun _=>zV yE U) U (Tp (fun _=>zz U U) U (Tm U ?_)))))
   apply zmJ (t:=65)
   case h0=>
    intro H
    iterate 8 refine Tk U ?_
    refine Tp (fun _=>zE U U) U ?_
    exact zfY [57,58,59,60,61,62,63,64] U H
   case h1=>
    intro hc H
    refine Tg U U (fun _=>zd y6 U) U ?_
    refine Ts U U (fun wz hz=>zg yU U ((ho (zdu hc)).1▸f5 hz)) U ?_
    refine Tq U U U ?_
    refine Tg U U (fun _=>zi yE ym U U _ U (zdu hc)) U ?_
    refine Tg U U (fun _=>zd zaK U) U ?_
    refine Ts U U (fun wz hz=>zg yI U (hz.cell (ho (zdu hc)).2.2)) U ?_
    refine Tg U U (fun _=>yV st9 U) U (Tg U U (fun _=>zU U U) U (Tp (fun _=>zD U U) U ?_))
    exact zfY [57,58,59,60,61,62,63,64] U H
   refine Tm U ?_
   apply zvH (t:=82)
   case h0=>
    intro H
    iterate 6 refine Tk U ?_
    refine zac U U U U U ?_
    refine zac U U U U U ?_
    refine zac U U U U U ?_
    refine zac U U U U U ?_
    refine zac U U U U U ?_
    refine zac U U U U U ?_
    refine zac U U U U U ?_
    refine zac U U U U U ?_
    refine Tk U (Tp (fun _=>zD U U) U ?_)
    exact zfY [67,68,69,70,71,72,73,74,75,76,77,78,79,80,81] U H
   case h1=>
    intro hc H
    refine Tq U U U (Tg U U (fun _=>zd zaY U) U (Ts U U (fun wz hz=>zg yU U (f6 hz)) U (Tg U U (fun _=>zV yE U) U (Tg U U (fun _=>zz U U) U (Tq U U U ?_)))))
    apply zmJ (t:=81)
    case h0=>
     intro H
     iterate 8 refine Tk U ?_
     refine Tg U U (fun _=>zE U U) U ?_
     exact zfY [73,74,75,76,77,78,79,80] U H
    case h1=>
     intro hc H
     refine Tg U U (fun _=>zd zaY U) U ?_
     refine Ts U U (fun wz hz=>zg yU U ((hw (zdu hc)).1▸f6 hz)) U ?_
     refine Tq U U U ?_
     refine Tg U U (fun _=>zi yE ym U U _ U (zdu hc)) U ?_
     refine Tg U U (fun _=>zd zaK U) U ?_
     refine Ts U U (fun wz hz=>zg yI U (hz.cell (hw (zdu hc)).2.2)) U ?_
     refine Tg U U (fun _=>yV st9 U) U (Tg U U (fun _=>zU U U) U (Tg U U (fun _=>zD U U) U ?_))
     exact zfY [73,74,75,76,77,78,79,80] U H
    refine Tp (fun _=>zE U U) U ?_
    exact zfY [67,68,69,70,71,72,73,74,75,76,77,78,79,80,81] U H
   refine Tm U ?_
   apply zvH (t:=101)
   case h0=>
    intro H
    iterate 7 refine Tk U ?_
    refine zac U U U U U ?_
    refine zac U U U U U ?_
    refine zac U U U U U ?_
    refine zac U U U U U ?_
    refine zac U U U U U ?_
    refine zac U U U U U ?_
    refine zac U U U U U ?_
    refine zac U U U U U ?_
    refine zac U U U U U ?_
    refine Tk U (Tp (fun _=>zD U U) U ?_)
    exact zfY [84,85,86,87,88,89,90,91,92,93,94,95,96,97,98,99,100] U H
   case h1=>
    intro hc H
    refine Tq U U U (Tg U U (fun _=>zd zbc U) U (Tg U U (fun _=>zd yp U) U (Ts U U (fun wz hz=>zg za9 U (f2 hz)) U (Tg U U (fun _=>zV zaO U) U (Tg U U (fun _=>zz U U) U (Tq U U U ?_))))))
    apply zmJ (t:=100)
    case h0=>
     intro H
     iterate 9 refine Tk U ?_
     refine Tg U U (fun _=>zE U U) U ?_
     exact zfY [91,92,93,94,95,96,97,98,99] U H
    case h1=>
     intro hc H
     refine Tg U U (fun _=>zd zbc U) U (Tg U U (fun _=>zd yp U) U ?_)
     refine Ts U U (fun wz hz=>zg za9 U ((hc' (zdu hc)).1▸f2 hz)) U ?_
     refine Tq U U U ?_
     refine Tg U U (fun _=>zi zaO zad U U _ U (zdu hc)) U ?_
     refine Tg U U (fun _=>zd zbU U) U ?_
     refine Ts U U (fun wz hz=>zg yI U (hz.cell (hc' (zdu hc)).2.2)) U ?_
     refine Tg U U (fun _=>yV st9 U) U (Tg U U (fun _=>zU U U) U (Tg U U (fun _=>zD U U) U ?_))
     exact zfY [91,92,93,94,95,96,97,98,99] U H
    refine Tp (fun _=>zE U U) U ?_
    exact zfY [84,85,86,87,88,89,90,91,92,93,94,95,96,97,98,99,100] U H
   refine Tm U ?_
   apply zvH (t:=119)
   case h0=>
    intro H
    iterate 7 refine Tk U ?_
    refine zac U U U U U ?_
    refine zac U U U U U ?_
    refine zac U U U U U ?_
    refine zac U U U U U ?_
    refine zac U U U U U ?_
    refine zac U U U U U ?_
    refine zac U U U U U ?_
    refine zac U U U U U ?_
    refine Tk U (Tp (fun _=>zD U U) U ?_)
    exact zfY [103,104,105,106,107,108,109,110,111,112,113,114,115,116,117,118] U H
   case h1=>
    intro hc H
    refine Tq U U U (Tg U U (fun _=>zd zbc U) U (Tg U U (fun _=>zd zay U) U (Ts U U (fun wz hz=>zg zcL U (f4 hz)) U (Tg U U (fun _=>zV zbd U) U (Tg U U (fun _=>zz U U) U (Tq U U U ?_))))))
    apply zmJ (t:=118)
    case h0=>
     intro H
     iterate 8 refine Tk U ?_
     refine Tg U U (fun _=>zE U U) U ?_
     exact zfY [110,111,112,113,114,115,116,117] U H
    case h1=>
     intro hc H
     refine Tg U U (fun _=>zd zbc U) U (Tg U U (fun _=>zd zay U) U ?_)
     refine Ts U U (fun wz hz=>zg zcL U ((hu (zdu hc)).1▸f4 hz)) U ?_
     refine Tq U U U ?_
     refine Tg U U (fun _=>zi zbd zg6 U U _ U (zdu hc)) U ?_
     refine Ts U U (fun wz hz=>zg zci U (hz.cell (hu (zdu hc)).2.2)) U ?_
     refine Tg U U (fun _=>zV zaH U) U (Tg U U (fun _=>zU U U) U (Tg U U (fun _=>zD U U) U ?_))
     exact zfY [110,111,112,113,114,115,116,117] U H
    refine Tp (fun _=>zE U U) U ?_
    exact zfY [103,104,105,106,107,108,109,110,111,112,113,114,115,116,117,118] U H
   refine Tm U ?_
   apply zvH (t:=144)
   case h0=>
    intro H
    iterate 6 refine Tk U ?_
    refine zac U U U U U ?_
    refine zac U U U U U ?_
    refine zac U U U U U ?_
    refine zac U U U U U ?_
    refine zac U U U U U ?_
    refine zac U U U U U ?_
    refine zac U U U U U ?_
    refine zac U U U U U ?_
    refine zac U U U U U ?_
    refine zac U U U U U ?_
    refine zac U U U U U ?_
    refine zac U U U U U ?_
    refine zac U U U U U ?_
    refine zac U U U U U ?_
    refine zac U U U U U ?_
    refine zac U U U U U ?_
    refine Tk U (Tp (fun _=>zD U U) U ?_)
    exact zfY [121,122,123,124,125,126,127,128,129,130,131,132,133,134,135,136,137,138,139,140,141,142,143] U H
   case h1=>
    intro hc H
    refine Tq U U U (Tg U U (fun _=>zd zaa U) U (Ts U U (fun wz hz=>zg zcC U (f7 hz)) U (Tg U U (fun _=>zV zaF U) U (Tg U U (fun _=>zz U U) U (Tq U U U ?_)))))
    apply zmJ (t:=143)
    case h0=>
     intro H
     iterate 16 refine Tk U ?_
     refine Tg U U (fun _=>zE U U) U ?_
     exact zfY [127,128,129,130,131,132,133,134,135,136,137,138,139,140,141,142] U H
    case h1=>
     intro hc H
     refine Tg U U (fun _=>zd zaa U) U ?_
     refine Ts U U (fun wz hz=>zg zcC U ((hm0 (zdu hc)).1▸f7 hz)) U ?_
     refine Tq U U U ?_
     refine Tg U U (fun _=>zi zaF zcn U U _ U (zdu hc)) U ?_
     refine Tg U U (fun _=>zK zco sz9 U U 0 U (by decide)) U ?_
     refine Ts U U (fun wz hz=>zg yI U (hz.cell (hm0 (zdu hc)).2.2)) U ?_
     refine Tg U U (fun _=>yV st9 U) U (Tg U U (fun _=>zd zaa U) U ?_)
     refine Ts U U (fun wz hz=>zg zcC U ((hm1 (zdu hc)).1▸f7 hz)) U ?_
     refine Tq U U U ?_
     refine Tg U U (fun _=>zi zaF zcn U U _ U (zdu hc)) U ?_
     refine Tg U U (fun _=>zK zco sz9 U U 1 U (by decide)) U ?_
     refine Ts U U (fun wz hz=>zg yI U (hz.cell (hm1 (zdu hc)).2.2)) U ?_
     refine Tg U U (fun _=>yV st9 U) U (Tg U U (fun _=>zwi U U) U (Tg U U (fun _=>zU U U) U (Tg U U (fun _=>zD U U) U ?_)))
     exact zfY [127,128,129,130,131,132,133,134,135,136,137,138,139,140,141,142] U H
    refine Tp (fun _=>zE U U) U ?_
    exact zfY [121,122,123,124,125,126,127,128,129,130,131,132,133,134,135,136,137,138,139,140,141,142,143] U H
   refine D3 1 3 144 U ?_
   refine zP U (fun hT=>?_) (fun hF=>?_)
   ·refine Sr (Oa U (E1 2 U (zj ?_)))
    repeat first|refine tr ?_|refine br ?_
    refine zw U U ?_
    refine⟨?_,c1.trans (hcx.trans (zk.drew [] _))⟩
    rw[hfj]at hT
    have:((List.range 12).all fun j => !znc x j)=false:=by
     rw[List.all_eq_false]
     exact⟨j,List.mem_range.2 hlt,by simp[hT]⟩
    simp[zko,this]
   refine zT (zl (za (Om U ?_)))
   refine Og (zG U U (by omega)) U ?_
   refine Oa U ?_
   refine zcJ [1,3] (F':=[(1,_),(3,_)]) U ?_
   refine⟨12-(j+1),by omega,j+1,rfl,by omega,rfl,hcx.trans (zk.drew [] _),fun i hi=>?_⟩
   rcases Lg i j with h|h
   ·exact hall i h
   have:i=j:=by omega
   subst this
   rw[hfj]at hF
   exact hF
  refine za (Om U ?_)
  refine Og (vf (zz U U) (df (by omega))) U ?_
  refine E3 1 3 48 U (zb U ?_)
  refine zI ?_
  repeat first|refine te ?_|refine bo rfl ?_
  refine zq _ ?_
  exact⟨rfl,hcx,fun i hi=>hall i (by omega)⟩
 rintro F wx⟨hF,hcx,hall⟩
 refine zae [0] hF ?_
 refine Sr (Oa U (E1 2 U (zj ?_)))
 refine zw U U ?_
 refine⟨?_,c1.trans hcx⟩
 have:((List.range 12).all fun j => !znc x j)=true:=by
  rw[List.all_eq_true]
  intro j hj
  rw[hall j (List.mem_range.1 hj)];rfl
 simp[zko,hFE,this]
def zol(xs:List EvT)(n:Nat):Bool:=decide (xs.length≤n)&&xs.all zko
theorem zqx{xs:List EvT}{n:Nat}(h:zol xs n=true)(hmn:∀x∈xs,zie x):xs.length≤n∧∀x∈xs,zcY x:=by
 simp only[zol,Bool.and_eq_true,decide_eq_true_eq,List.all_eq_true]at h
 exact⟨h.1,fun x hx=>zym (h.2 x hx) (hmn x hx)⟩
theorem zhb(ve:Va)(xs:List EvT)(n:Nat)(w:Wl)(hx:zed w ve xs)(hn:n≤1000) :
 zS TP 8 #[ve,Ii n] w fun r w'=>r=.bool (zol xs n)∧zk [] w w':=by
 obtain⟨pv,cv,rfl,hcv⟩:=hx.val
 refine A2 Tryz.func8 U U ?_
 refine Sr (Oa U (E2 0 1 U ?_))
 refine zR (fun F wx=>prune [0,1] F=[(0,.slice pv xs.length cv),(1,Ii n)]∧zk [] w wx∧(xs.length≤n→∀x∈xs,zko x=true)) ?_ ?_
 ·refine Sr (Oa U (E3 0 1 5 U (zp ?_)))
  refine zQ [0,1,5] (fun m F wx=>∃j:Nat,m=xs.length-j∧j≤xs.length∧j≤n+1∧F=[(0,.slice pv xs.length cv),(1,Ii n),(5,Ii j)]∧zk [] w wx∧∀x∈xs.take j,zko x=true) (m:=xs.length-0) ⟨0,rfl,Zl _,Zl _,rfl,zk.refl _ _,by simp⟩ ?_
  rintro m F wx⟨j,rfl,hj,hjn,rfl,hcx,hall⟩
  refine zf (zf ?_)
  by_cases hlt:j<xs.length
  ·by_cases hln:j≤n
   ·refine za (Om U (Om U (On zhV U ?_)))
    refine Og (vt (zz U U) (dt (by omega))) U ?_
    refine Om U (Ov U (Ov U ?_))
    refine Oi U (vt (za7 U U) (dt (by omega))) ?_
    refine Ot U (E4 0 1 5 14 U (ze U (zm ?_)))
    have hq:xs[j]?=some xs[j]:=by simp[hlt]
    have htk:=List.take_succ_eq_append_getElem hlt
    have hmem:=List.getElem_mem hlt
    generalize xs[j]=x at hq htk hmem
    obtain⟨b,off,cap,e,hve,hcell,hev⟩:=(hx.chg0 hcx).at hq
    cases hve
    refine zf (zp (zf ?_))
    cases hb:zko x with
    |false=>
     refine za (Om U (Om U ?_))
     refine Og (zi zhV zaD U U _ U hlt) U ?_
     refine Og (zh zbO zaD U U hcell) U ?_
     refine Oc zBe U U U (zqI _ x _ hev) ?_
     rintro v21 w21⟨e21,c21⟩
     rw[hb]at e21
     subst e21
     refine Og (zC U) U (E4 0 1 5 22 U (ze U (Sr (Oa U (E1 4 U (zj ?_))))))
     repeat first|refine tr ?_|refine br ?_
     refine zw U U ?_
     refine⟨?_,hcx.trans c21⟩
     have:xs.all zko=false:=by
      rw[List.all_eq_false]
      exact⟨x,hmem,by simp[hb]⟩
     simp[zol,this]
    |true=>
     refine za (Om U (Om U ?_))
     refine Og (zi zhV zaD U U _ U hlt) U ?_
     refine Og (zh zbO zaD U U hcell) U ?_
     refine Oc zBe U U U (zqI _ x _ hev) ?_
     rintro v21 w21⟨e21,c21⟩
     rw[hb]at e21
     subst e21
     refine Og (zC U) U (E4 0 1 5 22 U (zb U (zT (zl (za (Om U ?_))))))
     refine Og (zG U U (by omega)) U ?_
     refine Oa U (N3 0 1 5 U ?_)
     refine⟨xs.length-(j+1),by omega,j+1,rfl,by omega,by omega,rfl,hcx.trans c21,fun y hy=>?_⟩
     rw[htk]at hy
     rcases List.mem_append.1 hy with hy|hy
     ·exact hall y hy
     rw[List.mem_singleton]at hy
     subst hy
     exact hb
   refine za (Om U (Om U (On zhV U ?_)))
   refine Og (vt (zz U U) (dt (by omega))) U ?_
   refine Om U (Ov U (Ov U ?_))
   refine Oi U (vf (za7 U U) (df (by omega))) ?_
   refine Ot U (E4 0 1 5 14 U (zb U ?_))
   refine zI ?_
   repeat first|refine te ?_|refine bo rfl ?_
   refine zq _ ?_
   exact⟨rfl,hcx,fun h=>absurd h (by omega)⟩
  refine za (Om U (Om U (On zhV U ?_)))
  refine Og (vf (zz U U) (df (by omega))) U ?_
  refine Om U (Ok U (Ok U (Ok U (Of U (E4 0 1 5 14 U (zb U ?_))))))
  refine zI ?_
  repeat first|refine te ?_|refine bo rfl ?_
  refine zq _ ?_
  rw[Tl (by omega)]at hall
  exact⟨U,hcx,fun _=>hall⟩
 rintro F wx⟨hF,hcx,hall⟩
 refine zae [0,1] hF ?_
 refine Sr (Om U (On zhV U (Om U (Og (za7 U U) U (Oa U (E1 4 U (zj ?_)))))))
 refine zw U U ?_
 refine⟨?_,hcx⟩
 congr 1
 unfold zol
 by_cases hl:xs.length≤n
 ·rw[dt (by omega),dt hl,List.all_eq_true.2 (hall hl)];rfl
 rw[df (by omega),df hl];rfl
def mk(Ds:List Nat):Fr:=Ds.map fun D:Nat=>(1000000,Ii (D:Int))
theorem zj8:∀Ds,zck (mk Ds)=mk Ds
 |[]=>rfl
 |D::Ds=>congrArg (List.cons (1000000,Value.int .i64 (D:Int))) (zj8 Ds)
theorem zll:∀Ds,nomark (mk Ds)=[]
 |[]=>rfl
 |_::Ds=>zll Ds
theorem zsM:∀Ds,(mk Ds).map dOf=Ds.map mkD
 |[]=>rfl
 |D::Ds=>by
  have:=zsM Ds
  simp only[mk,List.map_cons,List.map_map]at this ⊢
  rw[this]
  rfl
theorem zdY{keep:List Nat}{F L:Fr}{Ds:List Nat}(h:prune keep F=L++zck (mk Ds)):prune keep F=L++mk Ds:=by rw[h,zj8]
theorem zzE{X L:Fr}{Ds:List Nat}(h:X=L++nomark (mk Ds)):X=L:=by rw[h,zll,List.append_nil]
theorem zse{F:Fr}{Ds:List Nat}(h:zck F=zck (mk Ds)):zaj F=Ds.map mkD:=by
 unfold zaj
 rw[h,zj8,zsM]
def DL(w:Wl)(Ds:List Nat):Prop:=Ds.Nodup∧∀D∈Ds,w.heap[D]?=some (.deferred (some []))
section
variable {w w':Wl} {S Ds:List Nat}
theorem DL.chgN(h:DL w Ds)(hc:zk S w w')(hS:∀D∈Ds,D∉S):DL w' Ds:=⟨h.1,fun D hD=>(hc.block D (Ga (h.2 D hD)).1 (hS D hD)).trans (h.2 D hD)⟩
theorem DL.chg0(h:DL w Ds)(hc:zk [] w w'):DL w' Ds:=h.chgN hc (by simp)
theorem DL.ne(h:DL w Ds){b:Nat}{e:TypeId}{c:LA}(k:zO w b e c):∀D∈Ds,D∉[b]:=fun D hD hm=>by
 simp at hm
 subst hm
 have:=(h.2 D hD).symm.trans (show w.heap[D]?=_ from k)
 cases this
theorem DL.chgB(h:DL w Ds){b:Nat}{e:TypeId}{c:LA}(k:zO w b e c)(hc:zk [b] w w'):DL w' Ds:=h.chgN hc (h.ne k)
theorem DL.lt(h:DL w Ds):∀D∈Ds,D<w.heap.size:=fun D hD=>(Ga (h.2 D hD)).1
theorem DL.cons{D:Nat}(h:DL w Ds)(hD:w.heap[D]?=some (.deferred (some [])))(hn:D∉Ds):DL w (D::Ds):=⟨List.nodup_cons.2 ⟨hn,h.1⟩,fun E hE=>by
 rcases Mc hE with rfl|hE
 ·exact hD
 exact h.2 E hE⟩
theorem zqf:∀(Ds:List Nat) (w:Wl),DL w Ds→∃w',zmZ (Ds.map mkD) w w'∧zk Ds w w'
 |[],w,_=>⟨w,rfl,zk.refl _ _⟩
 |D::Ds,w,h=>by
  have h1:=List.nodup_cons.1 h.1
  have hp:=zk.put w D (.deferred none)
  obtain⟨w',hs,hc⟩:=zqf Ds (w.putObj D (.deferred none)) ⟨h1.2,fun E hE=>(hp.block E (Ga (h.2 E (by simp[hE]))).1 (by simp;rintro rfl;exact h1.1 hE)).trans (h.2 E (by simp[hE]))⟩
  exact⟨w',⟨D,rfl,h.2 D (by simp),hs⟩,(hp.weak (by simp)).transS (hc.weak fun _ hk=>List.mem_cons_of_mem _ hk)⟩
end
theorem zCd{P:Program}{fn:Func}{R:Va→Wl→Prop}{n:Nat}{F:Fr}{w:Wl}{t ty:Nat}{Ds:List Nat}{p:Addr}{v:Va}(hr:fn.results = #[.cell t ty])(hag:zag P ty=some false)(hv:get F t=some (.pointer (some p)))(hm:zaj F=Ds.map mkD)(hD:DL w Ds)
 (h:∀w',zk Ds w w'→w'.cell? p=some v∧R v w'):zhJ P fn R n .ret F w:=by
 obtain⟨w',hs,hc⟩:=zqf Ds w hD
 have hh:=h w' hc
 refine⟨v,w',by rw[hm];exact hs,fun a ha=>?_,hh.2⟩
 simp[results,hr,ha.get t _ hv,asAddr,loadVar,zaM hag,hh.1]
def zy1:zv9 TP 56=true:=by kernel_rfl
def zyH:zv9 TP 100=true:=by kernel_rfl
set_option maxHeartbeats 4000000 in
theorem zzl(p:Nat)(own:List Nat)(v:Va)(c:Cat)(n:Int)(w:Wl)(hC:zba w p own c)(hR:zbX w v c) :
 zS TP 18 #[Pt p,.agg #[v],Ii n] w fun r w'=>r=.bool true∧zk [] w w':=by
 have hok:=hC.ok
 have hle:=hok.le
 obtain⟨pv,cv,rfl,hcv⟩:=hR.val
 refine zS.of_WM (args:=[_,_,_]) Tryz.func18 U U U U ?_
 refine Sr ?_
 refine Ob U U ?_
 intro b4 w4 e4 n4 c4 k4
 refine Ob U U ?_
 intro b5 w5 e5 n5 c5 k5
 refine Oq (zF zr4 U U ?_)
 intro b6 w6 e6 n6 c6 k6
 refine E4 0 4 5 6 U ?_
 have hc6:zk [] w w6:=(c4.trans c5).trans c6
 have k4:zO w6 b4 48 [.slice pv c.length cv]:=(k4.chg0 c5).chg0 c6
 have k5:=k5.chg0 c6
 have k4w:=k4
 have k6w:=k6
 have hs4:=c4.size
 have hs5:=c5.size
 have hs6:=c6.size
 refine Sr (Om U ?_)
 refine Oc zDp U U U (zub (hC.chg0 hc6)) ?_
 rintro v19 w19⟨bn,qn,cpn,rfl,kn,hsn,hbn,c19⟩
 refine Oa U (E5 0 4 5 6 7 U ?_)
 have hen:(c.map (·.n)).length=c.length:=List.length_map _
 rw[←hen]at kn hsn
 have hb4:=k4.lt
 have hb5:=k5.lt
 have hb6:=k6.lt
 refine zf (Sr (Om U (Og (zpQ zy1 U U) U (E6 0 4 5 6 7 21 U (zb U (zm (Sr ?_)))))))
 refine Oq (zF zr3 U U ?_)
 intro b8 w8 e8 n8 c8 k8
 refine Oq (zt sz3 U U U U k8 (by simp) (by simp[Value.oneCell']) ?_)
 intro wA nA cA kA
 refine E6 0 4 5 6 7 8 U ?_
 have kA:zO wA b8 3 [Ii 0]:=kA
 have hs19:=c19.size
 have hs8:=c8.size
 have hcA:zk [] w19 wA:=c8.own cA (by intro y hy;simp at hy;omega)
 have hc6A:zk [] w6 wA:=c19.trans hcA
 have hsA:=hcA.size
 have k4:=k4.chg0 hc6A
 have k5:=k5.chg0 hc6A
 have k6:=k6.chg0 hc6A
 have hb8:=kA.lt
 refine zR (fun F wz=>∃(D m:Nat) (f22:Va),F=[(1000000,Ii D),(0,Pt p),(4,Pt b4),(5,Pt b5),(6,Pt b6),(8,Pt b8),(22,f22)]∧wA.heap.size≤D∧wz.heap[D]?=some (.deferred (some []))∧zO wz b8 3 [Ii m]∧(m:Int)=min (c.length:Int) (max 1 n)∧zk [b8] wA wz) ?_ ?_
 ·refine Sr (Om U (E6 0 4 5 6 8 22 U (zp ?_)))
  refine zhj (α:=Nat×By) (gf:=49) (lb:=[Pt bn]) (encs:=fun x:Nat×By => #[Ii x.1,.string x.2])
   (fun pre X=>(pre=[]∨(pre.length:Int)<n)∧zO X b8 3 [Ii (pre.length:Nat)]∧zk [b8] wA X)
   (fun cc pre X=>cc=.exit 0∧(pre.length:Int)=max 1 n∧pre.length≤c.length∧zO X b8 3 [Ii (pre.length:Nat)]∧zk [b8] wA X)
   (fun x=>[(24,.string x.2),(23,Ii x.1),(0,Pt p),(4,Pt b4),(5,Pt b5),(6,Pt b6),(8,Pt b8),(22,.func (.func 49) #[] #[Pt bn])])
   (fun x=>[(0,Pt p),(4,Pt b4),(5,Pt b5),(6,Pt b6),(8,Pt b8),(9,Ii x.1),(10,.string x.2),(23,Ii x.1),(24,.string x.2)])
   rfl zDv
   ((zlF wA bn qn cpn (c.map (·.n)) [b8] (kn.chg0 hcA) (zB.chg0 hsn hcA) (by rw[hen];omega) (by have:=kn.lt;simp;omega) (fun b hb e cs hk=>by
    simp at hb
    subst hb
    have:=Option.some.inj ((show wA.heap[b]?=_ from hk).symm.trans kA)
    cases this
    rfl)).toN (fun e => !Nat.beq 3 e))
   (fun _=>rfl) (fun _ _ _ _ _=>trivial) (fun _ _ _ _ hh=>hh) (fun _ _ _ _ hh=>hh) ?_ ?_ ?_ (fun pre X hI=>hI.2.2.size) ?_ ?_ ?_ ?_ ?_
  ·rintro pre X X' hb ⟨g1,g2,g3⟩
   exact⟨g1,g2.bk hb,g3.bk (Nat.le_refl _) hb⟩
  ·rintro cc pre X X' hb ⟨rfl,g1,g2,g3,g4⟩
   exact⟨U,g1,g2,g3.bk hb,g4.bk (Nat.le_refl _) hb⟩
  ·exact⟨.inl U,kA,zk.refl _ _⟩
  ·intro x a ha
   exact ha.vars2 U U U
  ·intro l' x X
   refine zcW ?_
   refine yx ?_
   refine yh (gn U) U (St.vl (yg U) U U ?_)
   refine zcf [0,4,5,6,8,9,23,24] (F':=[(0,_),(4,_),(5,_),(6,_),(8,_),(9,_),(23,_),(24,_)]) U ?_
   refine yx ?_
   refine yh (gn U) U (St.vl (yg U) U U ?_)
   refine zfA [0,4,5,6,8,9,10,23,24] (F':=[(0,_),(4,_),(5,_),(6,_),(8,_),(9,_),(10,_),(23,_),(24,_)]) U ?_
   exact⟨U,U,U⟩
  ·rintro l' pre ⟨xi,xn⟩ X ⟨g1,g2,g3⟩-hgo
   obtain⟨hxi,hxn⟩:=zv1 hgo
   replace hxi:xi=pre.length:=hxi
   subst hxi
   replace hxn:(c.map (·.n))[pre.length]?=some xn:=hxn
   rw[List.getElem?_map]at hxn
   obtain⟨t,ht,rfl⟩:=Option.map_eq_some_iff.1 hxn
   have hlt:pre.length<c.length:=(Gs ht).1
   have hwX:zk [] w X:=(hc6.trans hc6A).own g3 (by intro y hy;simp at hy;omega)
   have k4X:=k4.chg g3 (by simp;omega)
   have k5X:=k5.chg g3 (by simp;omega)
   obtain⟨bo,oo,cpo,r,hve,hcell,hrt⟩:=(hR.chg0 hwX).at ht
   cases hve
   have nt:X.cell? ⟨bo,oo+pre.length*5,none⟩=some (.string t.n):=hcell 0 _ rfl
   refine zfO ?_
   refine zcW ?_
   refine zcW ?_
   refine yx ?_
   refine Xm U ?_
   refine yh (gn U) U (St.vl (zg ag3 U (g2.cell' U)) U U ?_)
   refine yh (gn U) U (St.vl (vf (zJ U U) (by simp)) U U ?_)
   refine Xm U ?_
   refine yh (gy U U U) U (St.vl (zg ag3 U (g2.cell' U)) U U ?_)
   refine yh (gy U U U) U (St.vl (zd yw U) U U ?_)
   refine yh (gy U U U) U (St.vl (zg zbz U (k4X.cell' (i:=0) U)) U U ?_)
   refine yh (gy U U U) U (St.vl (zV zbg U) U U ?_)
   refine yh (gy U U U) U (St.vl (vf (yc U U) (df (by omega))) U U ?_)
   refine yh (gn U) U (St.vl (zE U U) U U ?_)
   refine Xm U ?_
   refine yh (gy U U U) U (St.vl (zav U) U U ?_)
   refine yh (gy U U U) U (St.vl (zd yw U) U U ?_)
   refine yh (gy U U U) U (St.vl (zg zbz U (k4X.cell' (i:=0) U)) U U ?_)
   refine yh (gy U U U) U (St.vl (zg ag3 U (g2.cell' U)) U U ?_)
   refine yh (gy U U U) U (St.vl (zi zbg zdp U U _ U hlt) U U ?_)
   refine yh (gy U U U) U (St.vl (zd zdb U) U U ?_)
   refine yh (gy U U U) U (St.vl (zg yI U nt) U U ?_)
   refine yh (gy U U U) U (St.vl (vf (zcj U U) (by simp)) U U ?_)
   refine yh (gn U) U (St.vl (zE U U) U U ?_)
   refine zcf [0,4,5,6,8,23,24,44] (F':=[(0,_),(4,_),(5,_),(6,_),(8,_),(23,_),(24,_),(44,_)]) U ?_
   refine zcG U ?_
   refine zhU ?_
   refine zcW ?_
   refine yx ?_
   refine yh (gn U) U (St.vl (zg ag3 U (g2.cell' U)) U U ?_)
   refine yh (gn U) U (St.vl (yv (v':=Ii ((pre.length+1:Nat):Int)) (zG U U (by omega)) (by congr 1)) U U ?_)
   refine yh (gn U) U (zt sz3 U U U U g2 (by simp) (by simp[Value.oneCell']) ?_)
   intro wC nC cC kC
   refine zcf [0,4,5,6,8,23,24] (F':=[(0,_),(4,_),(5,_),(6,_),(8,_),(23,_),(24,_)]) U ?_
   have kC:zO wC b8 3 [Ii (pre.length+1:Nat)]:=kC
   have hT:zk [b8] X wC:=cC
   have k5C:=k5X.chg cC (by simp;omega)
   have hlen:(pre++[(pre.length,t.n)]).length=pre.length+1:=by simp
   have hkf:KeepsFrom wA.heap.size X wC:=KeepsFrom.chg hT (by intro b hb;simp at hb;subst hb;exact⟨_,_,g2⟩)
   have hkr:Kr [b8] (fun e => !Nat.beq 3 e) wA.heap.size X wC:=Kr.chg hT g3.size (by intro b hb;simp at hb;subst hb;exact⟨.inl (by simp),_,_,g2,rfl⟩)
   by_cases hmy:n≤pre.length+1
   ·refine zcW ?_
    refine yx ?_
    refine yh (gn U) U (St.vl (zg ag3 U (kC.cell' U)) U U ?_)
    refine yh (gn U) U (St.vl (zg ag3 U (k5C.cell' U)) U U ?_)
    refine yh (gn U) U (St.vl (vt (yc U U) (by simp;omega)) U U ?_)
    refine zcf [0,4,5,6,8,23,24,49] (F':=[(0,_),(4,_),(5,_),(6,_),(8,_),(23,_),(24,_),(49,_)]) U ?_
    refine zdT U ?_
    refine zsu ?_
    repeat first|refine te ?_|refine bo rfl ?_
    refine⟨hkf,rfl,?_,by rw[hlen];omega,by rw[hlen];exact kC,g3.transS hT⟩
    rw[hlen]
    rcases g1 with rfl|g1
    ·simp at hmy ⊢;omega
    omega
   refine zcW ?_
   refine yx ?_
   refine yh (gn U) U (St.vl (zg ag3 U (kC.cell' U)) U U ?_)
   refine yh (gn U) U (St.vl (zg ag3 U (k5C.cell' U)) U U ?_)
   refine yh (gn U) U (St.vl (vf (yc U U) (by simp;omega)) U U ?_)
   refine zcf [0,4,5,6,8,23,24,49] (F':=[(0,_),(4,_),(5,_),(6,_),(8,_),(23,_),(24,_),(49,_)]) U ?_
   refine zcG U ?_
   refine zhU ?_
   refine zl ?_
   exact⟨hkf,hkr,.inr (by rw[hlen];omega),by rw[hlen];exact kC,g3.transS hT⟩
  ·rintro D xs' X hD rfl ⟨g1,g2,g3⟩ hdf
   refine zl ?_
   rw[zi9,hen]at g1 g2
   refine⟨D,c.length,_,U,hD,hdf,g2,?_,g3⟩
   rcases g1 with g1|g1
   ·have:c.length=0:=by
     have:=congrArg List.length g1
     rw[zi9,hen]at this
     simpa using this
    omega
   omega
  rintro D cc pre X hD-⟨rfl,g1,g2,g3,g4⟩ hdf
  refine zI ?_
  repeat first|refine te ?_|refine bo rfl ?_
  refine zq _ ?_
  exact⟨D,pre.length,_,rfl,hD,hdf,g3,by omega,g4⟩
 rintro F wy⟨D,m,f22,rfl,hD,hdf,km,hm,hcy⟩
 have k4:=k4.chg hcy (by simp;omega)
 have k5:=k5.chg hcy (by simp;omega)
 have k6:=k6.chg hcy (by simp;omega)
 have hc6y:zk [] w6 wy:=hc6A.own hcy (by intro y hy;simp at hy;omega)
 have hsy:=hc6y.size
 refine zf (Sr (Ol ag3 U (km.cell' U) (Od yw U (Ol zbz U (k4.cell' (i:=0) U) (On zbg U (Ol ag3 U (k5.cell' U) (Og (zpe U U) U (Og (zoJ U U) U ?_))))))))
 refine Og (vf (zJ U U) (zcp (by omega))) U ?_
 refine yO [0,4,6,57] (F':=[(0,_),(4,_),(6,_),(57,_)]++mk ([D])) (zdY U) ?_
 refine zb U (zm ?_)
 refine zR (fun F wz=>∃Ds:List Nat,prune [6] F=[(6,Pt b6)]++mk Ds∧zO wz b6 4 [.bool false]∧DL wz Ds∧(∀D∈Ds,w6.heap.size≤D)∧zk [] w6 wz) ?_ ?_
 ·refine Sr ?_
  refine Oq (zF zr3 U U ?_)
  intro b11 w11 e11 n11 c11 k11
  refine Oq (zt sz3 U U U U k11 (by simp) (by simp[Value.oneCell']) ?_)
  intro wB nB cB kB
  refine yO [0,4,6,11] (F':=[(0,_),(4,_),(6,_),(11,_)]++mk ([D])) (zdY U) ?_
  have kB:zO wB b11 3 [Ii 0]:=kB
  have hs11:=c11.size
  have hcB:zk [] wy wB:=c11.own cB (by intro y hy;simp at hy;omega)
  have hDB:DL wB [D]:=⟨by simp,fun E hE=>by
   simp at hE
   subst hE
   exact(hcB.block E (Ga hdf).1 (by simp)).trans hdf⟩
  refine zp ?_
  refine zQ [0,4,6,11] (fun k F wx=>∃(j bi:Nat) (Ds:List Nat),k=c.length-j∧j≤c.length∧F=[(0,Pt p),(4,Pt b4),(6,Pt b6),(11,Pt bi)]++mk Ds∧zO wx bi 3 [Ii j]∧DL wx Ds∧(∀D∈Ds,w6.heap.size≤D)∧zk [] w6 wx) (m:=c.length-0) ⟨0,b11,[D],rfl,Zl _,rfl,kB,hDB,by intro E hE;simp at hE;omega,hc6y.trans hcB⟩ ?_
  rintro k F wx⟨j,bi,Ds,rfl,hj,rfl,ki,hDs,hDf,hcx⟩
  have hwx:=hc6.trans hcx
  have k4x:=k4w.chg0 hcx
  have hCx:=hC.chg0 hwx
  refine zf (zf ?_)
  by_cases hlt:j<c.length
  ·refine za (Ol ag3 U (ki.cell' U) (Od yw U (Ol zbz U (k4x.cell' (i:=0) U) (On zbg U ?_))))
   refine Og (vt (zz U U) (dt (by omega))) U ?_
   refine yO [0,4,6,11,62] (F':=[(0,_),(4,_),(6,_),(11,_),(62,_)]++mk (Ds)) (zdY U) ?_
   refine ze U (zm ?_)
   have hx:c[j]?=some c[j]:=by simp[hlt]
   have hmem:=List.getElem_mem hlt
   generalize c[j]=t at hx hmem
   have hat:atC c t.n=some t:=ztk hok.srt hmem
   obtain⟨bo,oo,cpo,⟨ra,rk,ru,ro⟩,hve,hcell,hrt⟩:=(hR.chg0 hwx).at hx
   cases hve
   have hrt:za3 wx ra rk ru ro t.s t.r:=hrt
   obtain⟨po,co,rfl,hco⟩:=hrt.rws.val
   have hTO:=hrt.ok
   have hle4:=hTO.le
   have nt:∀{wz:Wl},zk [] wx wz→wz.cell? ⟨bo,oo+j*5,none⟩=some (.string t.n):=fun hz=>hz.cell (hcell 0 _ rfl)
   have nro:∀{wz:Wl},zk [] wx wz→wz.cell? ⟨bo,oo+j*5+4,none⟩=some (.slice po t.r.length co):=fun hz=>hz.cell (hcell 4 _ rfl)
   have nsc:∀{wz:Wl},zk [] wx wz→zv wz bo (oo+j*5+1) [ra,rk,ru]:=fun hz k u hu=>by
    have hk:k<3:=(Gs hu).1
    have:=hz.cell (hcell (k+1) u (by rcases k with _|_|_|k<;>simp[rtC]at hu ⊢<;>first|exact hu|omega))
    rwa [show oo+j*5+(k+1)=oo+j*5+1+k by omega]at this
   refine zR (fun F wq=>∃Ds,prune [0,4,6,11] F=[(0,Pt p),(4,Pt b4),(6,Pt b6),(11,Pt bi)]++mk Ds∧DL wq Ds∧(∀D∈Ds,w6.heap.size≤D)∧zk [] wx wq) ?_ ?_
   ·refine zp (Sr (Om U (Od yw U (Ol zbz U (k4x.cell' (i:=0) U) (Ol ag3 U (ki.cell' U) ?_)))))
    refine Og (zi zbg zdp U U _ U hlt) U ?_
    refine Od zdb U ?_
    refine Ol yI U (nt (zk.refl _ _)) ?_
    refine Oc zAW U U U (zk4 hCx hat) ?_
    rintro v73 w73⟨q,ow,rfl,hT,how,c73⟩
    refine Om U (Oe U U (Oe U U (Oa U (Oa U ?_))))
    refine yO [0,4,6,11,12,13] (F':=[(0,_),(4,_),(6,_),(11,_),(12,_),(13,_)]++mk (Ds)) (zdY U) ?_
    refine Sr (Om U ?_)
    refine Oc zDH U U U (zyg q ow t.s t.r e0 _ hT) ?_
    rintro v77 w77⟨q5,q3,t',own',rfl,kq5,kq3,it',hq5,hq3,ho',c77⟩
    refine Oa U ?_
    refine yO [0,4,6,11,12,13,14] (F':=[(0,_),(4,_),(6,_),(11,_),(12,_),(13,_),(14,_)]++mk (Ds)) (zdY U) ?_
    have hc77:=c73.trans c77
    have hd:zk [] w77 w77.drew:=zk.drew [] _
    have hT77:=hT.chg0 c77
    obtain⟨pm,a,k',u',sv,xs,main,subs,rfl,hm,ht⟩:=id hT77
    have hkl:=hrt.sch.chg0 (hc77.trans hd)
    refine zf (zf ?_)
    refine zH (fun wz=>zk [] w77 wz) mix (by kernel_rfl) hd ?_
    refine Tm U (Tp (fun _=>zC U) U (Tm U (Tq U U U (Tg U U (fun _=>zpQ zyH U U) U (Tp (fun _=>zE U U) U (Tm U (Tq U U U ?_)))))))
    refine Tv U U zDU U U U (zue _ (hm.chg0 hd)) ?_
    rintro v86 w86⟨rfl,c86⟩
    refine⟨.inl (hd.trans c86),?_⟩
    refine Tg U U (fun _=>zd yw U) U ?_
    refine Ts U U (fun wz hz=>zg zbz U ((k4x.chg0 (hc77.trans hz)).cell' (i:=0) U)) U ?_
    refine Ts U U (fun wz hz=>zg ag3 U ((ki.chg0 (hc77.trans hz)).cell' U)) U ?_
    refine Tg U U (fun _=>zi zbg zdp U U _ U hlt) U ?_
    refine Tg U U (fun _=>zd zfK U) U (Tg U U (fun _=>zd zeF U) U (Ts U U (fun wz hz=>zh zaX zaS U U (nsc (hc77.trans hz))) U ?_))
    refine Tv U U zyc U U U (zlL _ _ _ _ _ _ t.s t.s _ ((hm.sch.chg0 hd).chg0 c86) (hkl.chg0 c86)) ?_
    rintro v94 w94⟨e94,c94⟩
    rw[dt rfl]at e94
    subst e94
    refine⟨.inl ((hd.trans c86).trans c94),?_⟩
    refine Tg U U (fun _=>zC U) U (Tp (fun _=>zE U U) U ?_)
    refine zhy [0,4,6,11,14,96] (F':=[(0,_),(4,_),(6,_),(11,_),(14,_),(96,_)]++mk (Ds)) (zdY U) ?_
    refine zb U (zm ?_)
    have hc94:zk [] w77 w94:=(hd.trans c86).trans c94
    have hx94:=hc77.trans hc94
    refine Sr ?_
    refine Oq (zF zr3 U U ?_)
    intro b15 w15 e15 n15 c15 k15
    refine Oq (zt sz3 U U U U k15 (by simp) (by simp[Value.oneCell']) ?_)
    intro wB nB cB kB
    refine yO [0,4,6,11,14,15] (F':=[(0,_),(4,_),(6,_),(11,_),(14,_),(15,_)]++mk (Ds)) (zdY U) ?_
    have kB:zO wB b15 3 [Ii 0]:=kB
    have hs15:=c15.size
    have hs94:=hx94.size
    have hc94':=hc94.size
    have hcB:zk [] w94 wB:=c15.own cB (by intro y hy;simp at hy;omega)
    have hc77B:zk [] w77 wB:=hc94.trans hcB
    have hxB:zk [] wx wB:=hx94.trans hcB
    have hsB:=hcB.size
    have hDB:=hDs.chg0 hxB
    have hb15:=kB.lt
    have kiB:=ki.chg0 hxB
    have hiB:=ki.lt
    have hc77s:=hc77.size
    refine zR (fun F wq=>∃D f97,F=(1000000,Ii (D:Nat))::([(0,Pt p),(4,Pt b4),(6,Pt b6),(11,Pt bi),(15,Pt b15),(97,f97)]++mk Ds)∧wB.heap.size≤D∧wq.heap[D]?=some (.deferred (some []))∧zO wq b15 3 [Ii t.r.length]∧zk [b15] wB wq) ?_ ?_
    ·refine Sr (Om U ?_)
     refine yO [0,4,6,11,15,97] (F':=[(0,_),(4,_),(6,_),(11,_),(15,_),(97,_)]++mk (Ds)) (zdY U) ?_
     refine zp ?_
     refine zhj (α:=List zX×Va) (gf:=81) (lb:=[Pt q5,Pt q3]) (encs:=fun x:List zX×Va => #[.string (z9 t.s x.1),x.2])
      (fun pre X=>zO X b15 3 [Ii (pre.length:Nat)]∧zk [b15] wB X)
      (fun cc pre X=>False)
      (fun x=>[(99,x.2),(98,.string (z9 t.s x.1)),(0,Pt p),(4,Pt b4),(6,Pt b6),(11,Pt bi),(15,Pt b15),(97,.func (.func 81) #[] #[Pt q5,Pt q3])])
      (fun x=>[(0,Pt p),(4,Pt b4),(6,Pt b6),(11,Pt bi),(15,Pt b15),(17,x.2),(99,x.2)])
      rfl zDJ
      (zou w77 wB hc77B t' q5 q3 own' t.s t.r e0 [b15] (fun e => !Nat.beq 3 e) it' kq5 kq3 (by intro b hb;simp at hb;omega) (fun b hb e cs hk=>by
       simp at hb
       subst hb
       have:=Option.some.inj ((show wB.heap[b]?=_ from hk).symm.trans kB)
       cases this
       rfl) rfl rfl rfl rfl rfl)
      (fun _=>rfl) (fun x W W' hb hh=>⟨zB.bk hh.1 hb,hh.2⟩) (fun _ _ _ _ hh=>hh) (fun _ _ _ _ hh=>hh) ?_ ?_ ?_ (fun pre X hI=>hI.2.size) ?_ ?_ ?_ ?_ ?_
     ·rintro pre X X' hb ⟨g2,g3⟩
      exact⟨g2.bk hb,g3.bk (Nat.le_refl _) hb⟩
     ·rintro cc pre X X' hb hh
      exact hh.elim
     ·exact⟨kB,zk.refl _ _⟩
     ·intro x a ha
      exact ha.vars2 U U (zzE U)
     ·intro l' x X
      refine yx ?_
      refine yh (gn U) U (St.vl (yg U) U U ?_)
      refine zfA [0,4,6,11,15,17,99] (F':=[(0,_),(4,_),(6,_),(11,_),(15,_),(17,_),(99,_)]) U ?_
      exact⟨U,U,U⟩
     ·rintro l' pre ⟨r,vx⟩ X ⟨g2,g3⟩ ⟨hv,hvo⟩ hgo
      have hrow:t.r[pre.length]?=some r:=by
       rw[zpM,List.map_append]at hgo
       obtain⟨tl,htl⟩:=hgo
       rw[←htl,List.getElem?_append_left (by simp),List.getElem?_append_right (by simp)]
       simp
      replace hv:zcc X vx r:=hv
      have hlr:pre.length<t.r.length:=(Gs hrow).1
      have hmr:r∈t.r:=Mg hrow
      have hrl:r.length≤1048576:=by
       have h1:=(zZ hTO.right).1
       have h2:=(zas (hTO.fit r hmr)).2.1
       omega
      have hxX:zk [] wx X:=hxB.own g3 (by intro y hy;simp at hy;omega)
      have k4X:=k4x.chg0 hxX
      have kiX:=ki.chg0 hxX
      obtain⟨br,or',cpr,vr,hve,hcr,hvr⟩:=(hrt.rws.chg0 hxX).at hrow
      cases hve
      have hdX:zk [] X X.drew:=zk.drew [] _
      refine zfO ?_
      refine zcW ?_
      refine zcW ?_
      refine zoI (fun wz=>zk [] X wz) mix (zdv (by kernel_rfl)) hdX ?_
      refine Tr (fun wz hz=>zg ag3 U ((g2.chg0 hz).cell' U)) U (Td yw U (Tr (fun wz hz=>zg zbz U ((k4X.chg0 hz).cell' (i:=0) U)) U (Tr (fun wz hz=>zg ag3 U ((kiX.chg0 hz).cell' U)) U ?_)))
      refine Tp (fun _=>zi zbg zdp U U _ U hlt) U ?_
      refine Td zfK U (Td zar U (Tr (fun wz hz=>zg zc9 U (nro (hxX.trans hz))) U (Tp (fun _=>zV zbZ U) U ?_)))
      refine Tp (fun _=>vf (yc U U) (df (by omega))) U ?_
      refine Tm U (Tq U U U (Tg U U (fun _=>zd yw U) U (Ts U U (fun wz hz=>zg zbz U ((k4X.chg0 hz).cell' (i:=0) U)) U (Ts U U (fun wz hz=>zg ag3 U ((kiX.chg0 hz).cell' U)) U ?_))))
      refine Tg U U (fun _=>zi zbg zdp U U _ U hlt) U ?_
      refine Tg U U (fun _=>zd zfK U) U (Tg U U (fun _=>zd zar U) U (Ts U U (fun wz hz=>zg zc9 U (nro (hxX.trans hz))) U (Ts U U (fun wz hz=>zg ag3 U ((g2.chg0 hz).cell' U)) U ?_)))
      refine Tg U U (fun _=>zi zbZ zeg U U _ U hlr) U ?_
      refine Ts U U (fun wz hz=>zg yU U (hz.cell hcr)) U ?_
      refine Tv U U zzy U U U (zoz vx vr r r _ (yl.chg0 hv hdX).arr (yl.chg0 hvr hdX).arr hrl) ?_
      rintro v122 w122⟨e122,c122⟩
      rw[dt rfl]at e122
      subst e122
      refine⟨.inl (hdX.trans c122),?_⟩
      refine Tg U U (fun _=>zC U) U (Tp (fun _=>zE U U) U ?_)
      refine zhy [0,4,6,11,15,99,124] (F':=[(0,_),(4,_),(6,_),(11,_),(15,_),(99,_),(124,_)]) U ?_
      have hcy:=hdX.trans c122
      have g2y:=g2.chg0 hcy
      refine zcG U ?_
      refine zhU ?_
      refine yx ?_
      refine yh (gn U) U (St.vl (zg ag3 U (g2y.cell' U)) U U ?_)
      refine yh (gn U) U (St.vl (yv (v':=Ii ((pre.length+1:Nat):Int)) (zG U U (by omega)) (by congr 1)) U U ?_)
      refine yh (gn U) U (zt sz3 U U U U g2y (by simp) (by simp[Value.oneCell']) ?_)
      intro wC nC cC kC
      refine zfA [0,4,6,11,15,99] (F':=[(0,_),(4,_),(6,_),(11,_),(15,_),(99,_)]) U ?_
      have kC:zO wC b15 3 [Ii (pre.length+1:Nat)]:=kC
      have hT':zk [b15] X wC:=(hcy.any (S:=[b15])).transS cC
      have hlen:(pre++[(r,vx)]).length=pre.length+1:=by simp
      have hkf:KeepsFrom wB.heap.size X wC:=KeepsFrom.chg hT' (by intro b hb;simp at hb;subst hb;exact⟨_,_,g2⟩)
      have hkr:Kr [b15] (fun e => !Nat.beq 3 e) wB.heap.size X wC:=Kr.chg hT' g3.size (by intro b hb;simp at hb;subst hb;exact⟨.inl (by simp),_,_,g2,rfl⟩)
      refine zl ?_
      exact⟨hkf,hkr,by rw[hlen];exact kC,g3.transS hT'⟩
     ·rintro D xs' X hD hdn ⟨g2,g3⟩ hdf
      refine zl ?_
      have hlen:=congrArg List.length hdn
      rw[zpM,List.length_map]at hlen
      exact⟨D,_,rfl,hD,hdf,by rw[←hlen];exact g2,g3⟩
     rintro D cc pre X hD-hh hdf
     exact hh.elim
    rintro F wq⟨D,f97,rfl,hD,hdf,kn,hcq⟩
    have hxq:zk [] wx wq:=hxB.own hcq (by intro y hy;simp at hy;omega)
    have hDq:DL wq (D::Ds):=(hDB.chgB kB hcq).cons hdf (fun hm=>by have:=hDB.lt D hm;omega)
    have hdq:zk [] wq wq.drew:=zk.drew [] _
    refine zf ?_
    refine zH (fun wz=>zk [] wq wz) mix (by kernel_rfl) hdq ?_
    refine Tr (fun wz hz=>zg ag3 U ((kn.chg0 hz).cell' U)) U (Td yw U ?_)
    refine Tr (fun wz hz=>zg zbz U ((k4x.chg0 (hxq.trans hz)).cell' (i:=0) U)) U ?_
    refine Tr (fun wz hz=>zg ag3 U ((ki.chg0 (hxq.trans hz)).cell' U)) U ?_
    refine Tp (fun _=>zi zbg zdp U U _ U hlt) U ?_
    refine Td zfK U (Td zar U (Tr (fun wz hz=>zg zc9 U (nro (hxq.trans hz))) U (Tp (fun _=>zV zbZ U) U ?_)))
    refine Tp (fun _=>vf (zJ U U) (by simp)) U ?_
    refine zhy [0,4,6,11,136] (F':=[(0,_),(4,_),(6,_),(11,_),(136,_)]++mk (D::Ds)) (zdY U) ?_
    refine zb U (zT (zl ?_))
    exact⟨D::Ds,zdY U,hDq.chg0 hdq,fun E hE=>by
     rcases Mc hE with rfl|hE
     ·have:=hcx.size;have:=hxB.size;omega
     exact hDf E hE,hxq.trans hdq⟩
   rintro F wq⟨Ds',hF,hDq,hDfq,hxq⟩
   refine zae [0,4,6,11] hF ?_
   have hcq:=hcx.trans hxq
   have kiq:=ki.chg0 hxq
   have hsq:=hcq.size
   refine zf (Sr (Ol ag3 U (kiq.cell' U) ?_))
   refine yO [0,4,6,137] (F':=[(0,_),(4,_),(6,_),(137,_)]++mk (Ds')) (zdY U) ?_
   refine za ?_
   refine Oq (zF zr3 U U ?_)
   intro b11 w11 e11 n11 c11 k11
   refine Oq (zt sz3 U U U U k11 (by simp) (by simp[Value.oneCell']) ?_)
   intro wB nB cB kB
   refine yO [0,4,6,11] (F':=[(0,_),(4,_),(6,_),(11,_)]++mk (Ds')) (zdY U) ?_
   have kB:zO wB b11 3 [Ii j]:=kB
   have hs11:=c11.size
   refine za (Ol ag3 U (kB.cell' U) ?_)
   refine Og (yv (v':=Ii ((j+1:Nat):Int)) (zG U U (by omega)) (by congr 1)) U ?_
   refine Oq (zt sz3 U U U U kB (by simp) (by simp[Value.oneCell']) ?_)
   intro wC nC cC kC
   refine zcJ [0,4,6,11] (F':=[(0,_),(4,_),(6,_),(11,_)]++mk (Ds')) (zdY U) ?_
   have kC:zO wC b11 3 [Ii (j+1:Nat)]:=kC
   have hqC:zk [] wq wC:=(c11.own cB (by intro y hy;simp at hy;omega)).own cC (by intro y hy;simp at hy;omega)
   exact⟨c.length-(j+1),by omega,j+1,b11,Ds',rfl,by omega,zdY U,kC,hDq.chg0 hqC,hDfq,hcq.trans hqC⟩
  refine za (Ol ag3 U (ki.cell' U) (Od yw U (Ol zbz U (k4x.cell' (i:=0) U) (On zbg U ?_))))
  refine Og (vf (zz U U) (df (by omega))) U ?_
  refine yO [0,4,6,11,62] (F':=[(0,_),(4,_),(6,_),(11,_),(62,_)]++mk (Ds)) (zdY U) ?_
  refine zb U ?_
  refine zI ?_
  repeat first|refine te ?_|refine bo rfl ?_
  refine zq _ ?_
  exact⟨Ds,zdY U,k6w.chg0 hcx,hDs,hDf,hcx⟩
 rintro F wz⟨Ds,hF,k6,hDs,hDf,hcz⟩
 refine zae [6] hF ?_
 refine Sr ?_
 refine Oq (zt sz4 U U U U k6 (by simp) (by simp[Value.oneCell']) ?_)
 intro wE nE cE kE
 refine yO [6] (F':=[(6,_)]++mk (Ds)) (zdY U) ?_
 have kE:zO wE b6 4 [.bool true]:=kE
 refine zj ?_
 refine zCd (v:=.bool true) (Ds:=Ds) U ag4 U (zse U) (hDs.chgB k6 cE) fun w' hc'=>?_
 have hnb:b6∉Ds:=fun hm=>hDs.ne k6 b6 hm (by simp)
 refine⟨(kE.chg hc' hnb).cell' U,U,?_⟩
 exact((hc6.trans hcz).own cE (by intro y hy;simp at hy;omega)).own hc' (by intro y hy;have:=hDf y hy;omega)
def KS(w0 w:Wl)(l:List (Nat×Cat)):Prop:=∃T:List (Nat×List Nat×Cat),T.map (fun x=>(x.1,x.2.2))=l∧EOk w∧zk [] w0 w∧(∀x∈T,zba w x.1 x.2.1 x.2.2∧∀b∈x.2.1,w0.heap.size≤b)∧T.Pairwise fun a b=>∀y∈a.2.1,y∉b.2.1
def Tn(w w':Wl):Prop:=∃S,zk S w w'∧Hm w S∧∀b∈S,∀cs,¬ zO w b 48 cs
section
variable {w0 w w':Wl} {l:List (Nat×Cat)} {p q:Nat} {c d:Cat} {e:EvV} {x:EvT} {v:Va} {own:List Nat}
theorem zba.notR(h:zba w p own c):∀b∈own,∀cs,¬ zO w b 48 cs:=by
 obtain⟨m,L,rfl,h⟩:=h
 intro b hb cs hk
 rcases Mc hb with rfl|hb
 ·have:=(show w.heap[b]?=_ from h.blk).symm.trans (show w.heap[b]?=_ from hk)
  cases this
 rcases Mc hb with rfl|hb
 ·obtain⟨a,cc,h1,_⟩:=h.map
  have:=h1.symm.trans (show w.heap[b]?=_ from hk)
  cases this
 obtain⟨p',n,c',h1⟩:=h.l.pagesO b hb
 have:=(show w.heap[b]?=_ from h1).symm.trans (show w.heap[b]?=_ from hk)
 cases this
theorem zba.tn(h:zba w p own c)(hc:zk own w w'):Tn w w':=⟨own,hc,h.hmO,h.notR⟩
theorem zO.tn{b:Nat}{t:TypeId}{cs:LA}(h:zO w b t cs)(ho:okH t=true)(hc:Tn w w'):zO w' b t cs:=let ⟨_,h1,h2,_⟩:=hc;h.hm h2 ho h1
theorem zO.tnR{b:Nat}{cs:LA}(h:zO w b 48 cs)(hc:Tn w w'):zO w' b 48 cs:=let ⟨_,h1,_,h3⟩:=hc;h.chg h1 fun hm=>h3 b hm cs h
theorem zbX.tn(h:zbX w v c)(hc:Tn w w'):zbX w' v c:=let ⟨_,h1,h2,_⟩:=hc;h.hm h2 h1
theorem KS.eo(h:KS w0 w l):EOk w:=let ⟨_,_,h1,_⟩:=h;h1
theorem KS.ch(h:KS w0 w l):zk [] w0 w:=let ⟨_,_,_,h1,_⟩:=h;h1
theorem KS.cat(h:KS w0 w ((p,c)::l)):∃own,zba w p own c:=by
 obtain⟨T,hT,_,_,h1,_⟩:=h
 cases T with
 |nil=>cases hT
 |cons x T=>
  simp only[List.map_cons,List.cons.injEq,Prod.mk.injEq]at hT
  obtain⟨⟨rfl,rfl⟩,-⟩:=hT
  exact⟨_,(h1 x (by simp)).1⟩
theorem KS.nn(h:KS w0 w ((p,c)::l)):Lw.n≤w.heap.size:=by
 obtain⟨own,m,L,rfl,h1⟩:=h.cat
 exact h1.nn
theorem KS.ok(h:KS w0 w ((p,c)::l)):za0 c:=let ⟨_,h1⟩:=h.cat;h1.ok
theorem KS.chg0(h:KS w0 w l)(hc:zk [] w w'):KS w0 w' l:=by
 obtain⟨T,hT,hE,hw,h1,h2⟩:=h
 exact⟨T,hT,hE.hm (Hm.nil w) hc,hw.trans hc,fun x hx=>⟨(h1 x hx).1.chg0 hc,(h1 x hx).2⟩,h2⟩
theorem KS.tail{a:Nat×Cat}(h:KS w0 w (a::l)):KS w0 w l:=by
 obtain⟨T,hT,hE,hw,h1,h2⟩:=h
 cases T with
 |nil=>cases hT
 |cons x T=>
  simp only[List.map_cons,List.cons.injEq]at hT
  exact⟨T,hT.2,hE,hw,fun y hy=>h1 y (by simp[hy]),(List.pairwise_cons.1 h2).2⟩
theorem KS.swap{a b:Nat×Cat}(h:KS w0 w (a::b::l)):KS w0 w (b::a::l):=by
 obtain⟨T,hT,hE,hw,h1,h2⟩:=h
 match T,hT with
 |x::y::T,hT=>
  simp only[List.map_cons,List.cons.injEq]at hT
  obtain⟨e1,e2,e3⟩:=hT
  refine⟨y::x::T,by simp[e1,e2,e3],hE,hw,fun z hz=>h1 z (by simp only[List.mem_cons]at hz ⊢;rcases hz with h|h|h<;>simp[h]),?_⟩
  have hp:=List.pairwise_cons.1 h2
  have hp2:=List.pairwise_cons.1 hp.2
  refine List.pairwise_cons.2 ⟨fun z hz=>?_,List.pairwise_cons.2 ⟨fun z hz=>hp.1 z (by simp[hz]),hp2.2⟩⟩
  rcases Mc hz with rfl|hz
  ·exact fun u hu hm=>hp.1 y (by simp) u hm hu
  exact hp2.1 z hz
theorem KS.open(h:KS w0 w ((p,c)::l)):∃own,EOk w∧zba w p own c∧∀w' d own',zk own w w'→zba w' p own' d→(∀b∈own',b∈own∨w.heap.size≤b)→KS w0 w' ((p,d)::l)∧Tn w w':=by
 obtain⟨T,hT,hE,hw,h1,h2⟩:=h
 cases T with
 |nil=>cases hT
 |cons x T=>
  simp only[List.map_cons,List.cons.injEq,Prod.mk.injEq]at hT
  obtain⟨⟨rfl,rfl⟩,rfl⟩:=hT
  obtain⟨hC,hf⟩:=h1 x (by simp)
  have hp:=List.pairwise_cons.1 h2
  have hsz:=hw.size
  refine⟨_,hE,hC,fun w' d own' hc hC' ho=>⟨⟨(x.1,own',d)::T,U,hE.hm hC.hmO hc,hw.own hc hf,fun y hy=>?_,List.pairwise_cons.2 ⟨fun y hy u hu hm=>?_,hp.2⟩⟩,hC.tn hc⟩⟩
  ·rcases Mc hy with rfl|hy
   ·refine⟨hC',fun b hb=>?_⟩
    rcases ho b hb with h|h
    ·exact hf b h
    omega
   obtain⟨g1,g2⟩:=h1 y (by simp[hy])
   exact⟨g1.other (fun b hb hm=>hp.1 y hy b hm hb) hC.hmO hc,g2⟩
  obtain⟨g1,g2⟩:=h1 y (by simp[hy])
  rcases ho u hu with h|h
  ·exact hp.1 y hy u h hm
  have:=g1.hmO.lt u hm
  omega
theorem KS.push{own':List Nat}(h:KS w0 w l)(hc:zk [] w w')(hC:zba w' p own' c)(hf:∀b∈own',w.heap.size≤b):KS w0 w' ((p,c)::l):=by
 obtain⟨T,rfl,hE,hw,h1,h2⟩:=h
 have hs:=hw.size
 refine⟨(p,own',c)::T,U,hE.hm (Hm.nil w) hc,hw.trans hc,fun y hy=>?_,List.pairwise_cons.2 ⟨fun y hy u hu hm=>?_,h2⟩⟩
 ·rcases Mc hy with rfl|hy
  ·exact⟨hC,fun b hb=>Nat.le_trans hs (hf b hb)⟩
  exact⟨(h1 y hy).1.chg0 hc,(h1 y hy).2⟩
 have:=(h1 y hy).1.hmO.lt u hm
 have:=hf u hu
 omega
theorem zxD(hE:EOk w)(hN:Lw.n≤w.heap.size):zS TP 10 #[] w fun r w'=>∃p,r=Pt p∧KS w w' [(p,[])]∧zk [] w w':=by
 refine zS.mono (zsJ w hN) ?_
 rintro r w'⟨p,m,rfl,h,h1,h2,hc⟩
 refine⟨p,rfl,KS.push (l:=[]) (w:=w) (own':=[p,m]) ⟨[],rfl,hE,zk.refl _ _,by simp,List.Pairwise.nil⟩ hc ⟨m,[],rfl,h⟩ (by intro b hb;simp at hb;rcases hb with rfl|rfl<;>assumption),hc⟩
theorem zkJ(h:KS w0 w ((p,c)::l))(hx:zbj w e x)(hm:zcY x):zS TP 13 #[Pt p,.agg (evC x e).toArray] w fun r w'=>r=Ii (doE c x)∧KS w0 w' ((p,doC c x)::l)∧Tn w w':=by
 obtain⟨own,hE,hC,hst⟩:=h.open
 refine zS.mono (ztK hE hC hx hm) ?_
 rintro r w'⟨rfl,hc,own',hC',ho⟩
 exact⟨U,hst _ _ _ hc hC' ho⟩
theorem zCx{xs:List EvT}(h:KS w0 w ((p,c)::l))(hx:zed w v xs)(hm:∀x∈xs,zcY x)(hn:xs.length≤1048576):zS TP 16 #[Pt p,v] w fun r w'=>r=.tuple #[Ii (zh3 c xs 0).1,Ii (zh3 c xs 0).2]∧KS w0 w' ((p,zoP c xs)::l)∧Tn w w':=by
 obtain⟨own,hE,hC,hst⟩:=h.open
 refine zS.mono (zyV hE hC hx hm hn) ?_
 rintro r w'⟨rfl,hc,own',hC',ho⟩
 refine⟨U,hst _ _ _ (hc.weak ?_) hC' ho⟩
 obtain⟨m,L,rfl,_⟩:=hC
 simp
theorem zyb(h:KS w0 w ((p,c)::l)):zS TP 11 #[Pt p] w fun r w'=>∃p',r=Pt p'∧KS w0 w' ((p',c)::(p,c)::l)∧zk [] w w':=by
 obtain⟨own,hC⟩:=h.cat
 refine zS.mono (zqt hC) ?_
 rintro r w'⟨p',own',rfl,hC',ho,hc⟩
 exact⟨p',U,h.push hc hC' ho,hc⟩
theorem ztI(h:KS w0 w ((p,c)::(q,d)::l)):zS TP 14 #[Pt p,Pt q] w fun r w'=>r=.bool (decide (c=d))∧zk [] w w':=by
 obtain⟨own,hC⟩:=h.cat
 obtain⟨own2,hD⟩:=h.tail.cat
 exact zu1 hC hD
theorem zBp{n:Int}(h:KS w0 w ((p,c)::l))(hR:zbX w v c):zS TP 18 #[Pt p,.agg #[v],Ii n] w fun r w'=>r=.bool true∧zk [] w w':=by
 obtain⟨own,hC⟩:=h.cat
 exact zzl p own v c n w hC hR
theorem zwd{n:By}(h:KS w0 w ((p,c)::l)):zS TP 19 #[Pt p,.string n] w fun r w'=>∃u,r=.tuple #[u,.bool (atC c n).isSome]∧(match atC c n with|none=>u=.pointer none|some t=>∃q ow,u=Pt q∧zab w' q ow t.s t.r∧∀b∈ow,w.heap.size≤b)∧zk [] w w':=by
 obtain⟨own,hC⟩:=h.cat
 cases ha:atC c n with
 |none=>
  refine zS.mono (zry hC ha) ?_
  rintro r w'⟨rfl,hc⟩
  exact⟨_,U,U,hc⟩
 |some t=>
  refine zS.mono (zk4 hC ha) ?_
  rintro r w'⟨q,ow,rfl,hT,ho,hc⟩
  exact⟨_,U,⟨q,ow,U,hT,ho⟩,hc⟩
end
end Go.Wk
