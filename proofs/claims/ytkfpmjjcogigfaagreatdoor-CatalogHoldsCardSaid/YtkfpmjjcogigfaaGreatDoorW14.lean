/- joined texts -/
import Derived.Test.YtkfpmjjcogigfaaGreatDoorW13
set_option linter.all false
namespace Go.Wk
open Go.Proofs
set_option linter.unusedSectionVars false
variable [Lw]
set_option maxRecDepth 10000
section
variable {c:Cat} {x:EvT} {t:Tb}
theorem zwo(hr:z9 x=true)(hk:x.k=4):doE c x=match atC c x.t with|none=>if 12≤c.length then 3 else 0|some _=>220:=by
 unfold doE
 rw[if_neg (by simp[hr]),if_neg (by omega)]
 cases atC c x.t with
 |none=>exact if_pos hk
 |some t=>exact if_pos hk
theorem zuP(hk:x.k=4)(he:doE c x=0):doC c x=zaD c ⟨x.t,x.s,[]⟩:=by
 unfold doC
 rw[if_neg (by simp[he]),if_neg (by omega),if_pos hk]
theorem zxa(hr:z9 x=true)(hk:x.k=5):doE c x=match atC c x.t with|none=>5|some _=>0:=by
 unfold doE
 rw[if_neg (by simp[hr]),if_neg (by omega)]
 cases atC c x.t with
 |none=>exact if_neg (by omega)
 |some t=>exact(if_neg (by omega)).trans (if_pos hk)
theorem zu1(hk:x.k=5)(he:doE c x=0):doC c x=zcg c x.t:=by
 unfold doC
 rw[if_neg (by simp[he]),if_neg (by omega),if_neg (by omega),if_pos hk]
end
section
variable {w w':Wl} {p m:Nat} {L:List CE} {c:Cat} {x:EvT} {y:CE} {e:EvV} {r:Va} {n:By}
theorem zcA.notO(h:zcA w p m L c):∀b∈owL L,b≠p∧b≠m:=fun b hb=>by
 obtain⟨x,hx,hb⟩:=zaW.1 hb
 obtain⟨_,_,_,hp⟩:=(h.l.tabs x hx).pages b hb
 exact⟨hp.ne h.blk U,fun e=>h.map.ne hp e.symm⟩
theorem ze7.zero(h:ze7 w r 0):r=.nilIface:=by
 rcases h with⟨h,_⟩|⟨_,h⟩
 ·exact h
 exact absurd U h
theorem zpz(hE:EOk w)(h:zcA w p m L c)(hx:za7 w e x)(hm:zce x)(hr:z9 x=true)(hk:x.k=4) :
 zL TP 66 #[Pt p,.agg (evC x e).toArray] w (DoR w p (p::m::owL L) c x):=by
 refine A2 Tryz.func66 U U ?_
 refine Sr ?_
 refine Ob U U ?_
 intro b3 w3 e3 n3 c3 k3
 refine Oa U (E2 0 3 U ?_)
 have k3:zK w3 b3 39 (evC x e):=k3
 have h3:=h.chg0 c3
 have hd:zl [] w3 w3.drew:=zl.drew [] _
 refine zd ?_
 cases hf:yB L x.t with
 |some y=>
  refine zN (fun wz=>zl [] w3 wz) mix (by kernel_rfl) hd ?_
  refine Tm U (Tp (fun _=>zp U) U (Td zat U (Tr (fun wz hz=>zj zdu U ((h3.blk.chg0 hz).cell' (i:=0) U)) U (Td yg U (Tr (fun wz hz=>zj ag9 U ((k3.chg0 hz).cell' (i:=1) U)) U ?_)))))
  refine Tc zhN U U U (zec (h3.map.chg0 hd) hf) ?_
  rintro v17 w17⟨rfl,rfl⟩
  refine⟨.inl hd,?_⟩
  refine Tm U (Tp (fun _=>zJ U U) U (Tp (fun _=>zJ U U) U (Ta U (Ta U (D3 0 3 6 U (zd (zu (Sr (Om U (Oa U (E3 0 3 20 U (zf U (Sr ?_)))))))))))))
  refine Od yg U (Ol ag9 U ((k3.chg0 hd).cell' (i:=1) U) (Og (zS zcX U) U ?_))
  refine Og (zC zeW zeY U (vs:=[_,_]) U (css:=[_,_]) ⟨U,U,trivial⟩ U U (cs:=[_,_]) U) U ?_
  refine Og (zS zeU U) U (Oa U (E1 4 U (zh ?_)))
  repeat first|refine tr ?_|refine br ?_
  refine zx U U ?_
  exact DoR.no (h3.chg0 hd) (c3.trans hd) (by rw[zwo hr hk,h.l.at,hf];rfl) (by decide) (zid _ _ _)
 |none=>
  have hat:atC c x.t=none:=by rw[h.l.at,hf];rfl
  refine zN (fun wz=>zl [] w3 wz) mix (by kernel_rfl) hd ?_
  refine Tm U (Tp (fun _=>zp U) U (Td zat U (Tr (fun wz hz=>zj zdu U ((h3.blk.chg0 hz).cell' (i:=0) U)) U (Td yg U (Tr (fun wz hz=>zj ag9 U ((k3.chg0 hz).cell' (i:=1) U)) U ?_)))))
  refine Tc zhN U U U (zev (h3.map.chg0 hd) hf) ?_
  rintro v17 w17⟨rfl,rfl⟩
  refine⟨.inl hd,?_⟩
  refine Tm U (Tp (fun _=>zJ U U) U (Tp (fun _=>zJ U U) U (Ta U (Ta U (D3 0 3 6 U ?_)))))
  have k4:=k3.chg0 hd
  have h4:=h3.chg0 hd
  have c4:=c3.trans hd
  have hs4:=hd.size
  generalize w3.drew=w4 at *
  have hlen:(L.map CE.en).length=c.length:=by rw[List.length_map,h.l.len]
  refine zd (zu (Sr (Om U (Oa U (E3 0 3 20 U (zb U (zd ?_)))))))
  by_cases h12:12≤c.length
  ·refine za (Om U (Og (zp U) U (Od zat U (Ol zdu U (h4.blk.cell' (i:=0) U) (Og (zd9 (κ:=zbo) zd3 U h4.map) U ?_)))))
   refine Og (vt (yj U U) (dt (by omega))) U ?_
   refine Oa U (E3 0 3 27 U (zf U (Sr (Od yg U (Ol ag9 U (k4.cell' (i:=1) U) (Og (zS zcX U) U ?_))))))
   refine Og (zC zeW zeY U (vs:=[_,_]) U (css:=[_,_]) ⟨U,U,trivial⟩ U U (cs:=[_,_]) U) U ?_
   refine Og (zS zeU U) U (Oa U (E1 4 U (zh ?_)))
   repeat first|refine tr ?_|refine br ?_
   refine zx U U ?_
   exact DoR.no h4 c4 (by rw[zwo hr hk,hat];exact if_pos h12) (by decide) (zid _ _ _)
  have he0:doE c x=0:=by rw[zwo hr hk,hat];exact if_neg h12
  refine za (Om U (Og (zp U) U (Od zat U (Ol zdu U (h4.blk.cell' (i:=0) U) (Og (zd9 (κ:=zbo) zd3 U h4.map) U ?_)))))
  refine Og (vf (yj U U) (df (by omega))) U ?_
  refine Oa U (E3 0 3 27 U (zb U (z0 (zn (Sr (Od zbm U ?_))))))
  refine Og (zg zbQ zbL U U (zB.of_blk k4 2 [e.c,e.ky,e.u] ⟨[e.o,e.n,e.m],U⟩)) U ?_
  refine Oc zxz U U U (zwi e.c e.ky e.u x.s _ (hx.sch.chg0 c4) (zy4 hr hk).2 h4.nn) ?_
  rintro v42 w42⟨t,own,rfl,hT,-,ho,c42,-⟩
  refine Om U (Oe U U (Oe U U (Oa U (Oa U (E4 0 3 7 8 U ?_)))))
  have k5:=k4.chg0 c42
  have h5:=h4.chg0 c42
  have c5:=c4.trans c42
  refine zd (Sr (Od yg U (Ol ag9 U (k5.cell' (i:=1) U) (Om U ?_))))
  refine Oc zn2 U U U (zeC x.t 0 _) ?_
  rintro v48 w48⟨hz48,c48⟩
  obtain rfl:=hz48.zero
  refine Oa U (E4 0 3 7 9 U ?_)
  have k6:=k5.chg0 c48
  have h6:=h5.chg0 c48
  have c6:=c5.trans c48
  have hT6:=hT.chg0 c48
  refine Sr (Om U (Og (zaE zbS U U) U (E5 0 3 7 9 50 U (zb U (zk ?_)))))
  have hd6:zl [] w48 w48.drew:=zl.drew [] _
  refine zd ?_
  refine zN (fun wz=>zl [] w48 wz) mix (by kernel_rfl) hd6 ?_
  refine Tm U (Tp (fun _=>zp U) U (Td zat U (Tr (fun wz hz=>zj zdu U ((h6.blk.chg0 hz).cell' (i:=0) U)) U (Td yg U (Tr (fun wz hz=>zj ag9 U ((k6.chg0 hz).cell' (i:=1) U)) U (Tm U ?_))))))
  refine za4 U (gn U) (zh1 (κ:=zbo) zd3 (yN st9) U U U (h6.map.chg0 hd6) ?_)
  intro wA nA cA kA
  refine⟨.inr (by kernel_rfl),?_⟩
  refine zjv [] (F':=[]) U ?_
  refine Sr (Oa U (E1 4 U (zh ?_)))
  refine zx U U ?_
  have hcA:zl [m] w48 wA:=(hd6.any (S:=[m])).transS cA
  have hpm:p∉[m]:=by
   intro hb
   simp at hb
   exact h6.map.ne h6.blk hb.symm
  have hw4:w.heap.size≤w4.heap.size:=c4.size
  have hnew:zaB w48 (L++[⟨x.t,t,own,x.s,[]⟩]) (zaD c ⟨x.t,x.s,[]⟩):=h6.l.new (x:=⟨x.t,t,own,x.s,[]⟩) hf hT6 (fun b hb hm=>by
   obtain⟨z,hz,hbz⟩:=zaW.1 hb
   have h1:=(h4.l.tabs z hz).lt b hbz
   have h2:=ho b hm
   omega) (by omega)
  refine⟨.inl ⟨rfl,he0⟩,(c6.any).trans' hcA (fun b hb=>.inl (by simp at hb;simp[hb])),p::m::owL (L++[⟨x.t,t,own,x.s,[]⟩]),?_,fun b hb=>?_⟩
  ·rw[zuP hk he0]
   refine⟨m,_,U,h6.blk.chg hcA hpm,?_,hnew.hm (fun b hb hm=>?_) (Hm.map h6.map h6.ge.2) hcA,h6.ge⟩
   ·rw[zgG (by rw[zaO,hf];rfl)]at kA
    rw[List.map_append]
    exact kA
   simp at hm
   subst hm
   obtain⟨_,_,_,hp⟩:=hnew.pagesO b hb
   exact h6.map.ne hp U
  rcases List.mem_cons.1 hb with rfl|hb
  ·exact .inl (by simp)
  rcases List.mem_cons.1 hb with rfl|hb
  ·exact .inl (by simp)
  obtain⟨z,hz,hbz⟩:=zaW.1 hb
  rcases List.mem_append.1 hz with hz|hz
  ·exact .inl (by simp only[List.mem_cons];exact .inr (.inr (zaW.2 ⟨z,hz,hbz⟩)))
  simp at hz
  subst hz
  exact .inr (Nat.le_trans hw4 (ho b hbz))
theorem zsJ(h:zcA w p m L c)(hr:z9 x=true)(hk:x.k=5) :
 zL TP 67 #[Pt p,.agg (evC x e).toArray] w (DoR w p (p::m::owL L) c x):=by
 refine A2 Tryz.func67 U U ?_
 refine Sr ?_
 refine Ob U U ?_
 intro b3 w3 e3 n3 c3 k3
 refine Oa U (E2 0 3 U ?_)
 have k3:zK w3 b3 39 (evC x e):=k3
 have h3:=h.chg0 c3
 have hd:zl [] w3 w3.drew:=zl.drew [] _
 refine zd (zd ?_)
 cases hf:yB L x.t with
 |none=>
  refine zN (fun wz=>zl [] w3 wz) mix (by kernel_rfl) hd ?_
  refine Tm U (Tp (fun _=>zp U) U (Td zat U (Tr (fun wz hz=>zj zdu U ((h3.blk.chg0 hz).cell' (i:=0) U)) U (Td yg U (Tr (fun wz hz=>zj ag9 U ((k3.chg0 hz).cell' (i:=1) U)) U ?_)))))
  refine Tc zhN U U U (zev (h3.map.chg0 hd) hf) ?_
  rintro v14 w14⟨rfl,rfl⟩
  refine⟨.inl hd,?_⟩
  refine Tm U (Tp (fun _=>zJ U U) U (Tp (fun _=>zJ U U) U (Ta U (Ta U (D3 0 3 6 U (Sr (Om U (Og (zE U) U (E3 0 3 18 U (zf U (Sr (Od yg U (Ol ag9 U ((k3.chg0 hd).cell' (i:=1) U) ?_)))))))))))))
  refine Og (zS zcX U) U ?_
  refine Og (zC zeW zeY U (vs:=[_,_]) U (css:=[_,_]) ⟨U,U,trivial⟩ U U (cs:=[_,_]) U) U ?_
  refine Og (zS zeU U) U (Oa U (E1 4 U (zh ?_)))
  repeat first|refine tr ?_|refine br ?_
  refine zx U U ?_
  exact DoR.no (h3.chg0 hd) (c3.trans hd) (by rw[zxa hr hk,h.l.at,hf];rfl) (by decide) (zid _ _ _)
 |some y=>
  have he0:doE c x=0:=by rw[zxa hr hk,h.l.at,hf];rfl
  refine zN (fun wz=>zl [] w3 wz) mix (by kernel_rfl) hd ?_
  refine Tm U (Tp (fun _=>zp U) U (Td zat U (Tr (fun wz hz=>zj zdu U ((h3.blk.chg0 hz).cell' (i:=0) U)) U (Td yg U (Tr (fun wz hz=>zj ag9 U ((k3.chg0 hz).cell' (i:=1) U)) U ?_)))))
  refine Tc zhN U U U (zec (h3.map.chg0 hd) hf) ?_
  rintro v14 w14⟨rfl,rfl⟩
  refine⟨.inl hd,?_⟩
  refine Tm U (Tp (fun _=>zJ U U) U (Tp (fun _=>zJ U U) U (Ta U (Ta U (D3 0 3 6 U ?_)))))
  have k4:=k3.chg0 hd
  have h4:=h3.chg0 hd
  have c4:=c3.trans hd
  generalize w3.drew=w4 at *
  have hd4:zl [] w4 w4.drew:=zl.drew [] _
  refine Sr (Om U (Og (zE U) U (E3 0 3 18 U (zb U (zk (zd ?_))))))
  refine zN (fun wz=>zl [] w4 wz) mix (by kernel_rfl) hd4 ?_
  refine Tm U (Tp (fun _=>zp U) U (Td zat U (Tr (fun wz hz=>zj zdu U ((h4.blk.chg0 hz).cell' (i:=0) U)) U (Td yg U (Tr (fun wz hz=>zj ag9 U ((k4.chg0 hz).cell' (i:=1) U)) U ?_)))))
  refine za4 U (gn U) (znV (κ:=zbo) zd3 (yN st9) U U (h4.map.chg0 hd4) ?_)
  intro wA nA cA kA
  refine⟨.inr (by kernel_rfl),?_⟩
  refine zjv [] (F':=[]) U ?_
  refine Sr (Oa U (E1 4 U (zh ?_)))
  refine zx U U ?_
  have hcA:zl [m] w4 wA:=(hd4.any (S:=[m])).transS cA
  refine⟨.inl ⟨rfl,he0⟩,(c4.any).trans' hcA (fun b hb=>.inl (by simp at hb;simp[hb])),p::m::owL (zpP L x.t),?_,fun b hb=>.inl ?_⟩
  ·rw[zu1 hk he0]
   refine⟨m,_,rfl,h4.blk.chg hcA (fun hb=>by simp at hb;exact h4.map.ne h4.blk hb.symm),?_,(h4.l.less x.t).hm (fun b hb hm=>?_) (Hm.map h4.map h4.ge.2) hcA,h4.ge⟩
   ·rw[←zqZ h.l.names]
    exact kA
   simp at hm
   subst hm
   exact(h4.notO b (zoc (fun z hz=>(List.mem_filter.1 hz).1) b hb)).2 U
  simp only[List.mem_cons]at hb ⊢
  rcases hb with hb|hb|hb
  ·exact .inl hb
  ·exact .inr (.inl hb)
  exact .inr (.inr (zoc (fun z hz=>(List.mem_filter.1 hz).1) b hb))
end
structure NmL(L:List CE)(q:Cat):Prop where
 names:(L.map (·.n)).Nodup
 mem:∀t,t∈L.map CE.tb↔t∈q
 srt:zd2 q
def zcF(L:List CE)(m:List (By×By)):List CE:=L.filter fun x => !(m.any fun p=>decide (p.1=x.n))
def zfm(L:List CE)(m:List (By×By)):List CE:=m.filterMap fun p=>(yB L p.1).map fun y=>{ y with n:=p.2 }
section
variable {w w':Wl} {L:List CE} {c q:Cat} {n:By} {x y z:CE} {m:List (By×By)} {p:By×By}
theorem NmL.at0(h:NmL L q)(hf:yB L n=none):atC q n=none:=by
 cases ha:atC q n with
 |none=>rfl
 |some t=>
  obtain⟨h1,h2⟩:=zbR ha
  obtain⟨x,hx,rfl⟩:=List.mem_map.1 ((h.mem t).2 h1)
  exact absurd h2 (zdr hf x hx)
theorem NmL.at1(h:NmL L q)(hf:yB L n=some y):atC q n=some y.tb:=by
 obtain⟨h1,rfl⟩:=yX hf
 exact zlp h.srt ((h.mem y.tb).1 (List.mem_map.2 ⟨y,h1,U⟩))
theorem NmL.new(h:NmL L q)(hf:yB L z.n=none):NmL (L++[z]) (zaD q z.tb):=by
 refine⟨?_,fun t=>?_,h.srt.with z.tb⟩
 ·rw[List.map_append,List.nodup_append]
  refine⟨h.names,by simp,fun a ha d hd'=>?_⟩
  simp at hd';subst hd'
  obtain⟨y,hy,rfl⟩:=List.mem_map.1 ha
  exact zdr hf y hy
 rw[List.map_append,List.mem_append,zae,h.mem]
 constructor
 ·rintro (h1|h1)
  ·exact .inr ⟨h1,zgo (h.at0 hf) t h1⟩
  simp at h1;exact .inl h1
 rintro (h1|⟨h1,_⟩)
 ·subst h1;simp
 exact .inl h1
theorem zex:x∈zcF L m↔x∈L∧x.n∉m.map Prod.fst:=by
 simp only[zcF,List.mem_filter,Bool.not_eq_true',List.any_eq_false,decide_eq_true_eq,List.mem_map,not_exists,not_and]
theorem zpA:zcF L []=L:=List.filter_eq_self.2 fun _ _=>rfl
theorem znd:zcF L (m++[p])=zpP (zcF L m) p.1:=by
 unfold zcF zpP
 rw[List.filter_filter]
 refine List.filter_congr fun y _=>?_
 rw[List.any_append]
 by_cases e:p.1=y.n
 ·simp[e]
 have e':y.n≠p.1:=fun h=>e h.symm
 simp[e,e']
theorem zaB.rest(h:zaB w L c)(m:List (By×By)):NmL (zcF L m) (zbx c m):=by
 refine⟨h.names.sublist (List.filter_sublist.map _),fun t=>?_,h.ok.srt.sublist List.filter_sublist⟩
 rw[zdo,←h.mem]
 constructor
 ·intro hm
  obtain⟨x,hx,rfl⟩:=List.mem_map.1 hm
  obtain⟨h1,h2⟩:=zex.1 hx
  exact⟨List.mem_map.2 ⟨x,h1,U⟩,h2⟩
 rintro⟨hm,h2⟩
 obtain⟨x,hx,rfl⟩:=List.mem_map.1 hm
 exact List.mem_map.2 ⟨x,zex.2 ⟨hx,h2⟩,U⟩
theorem zj5(h:yB L p.1=some y):zfm L (m++[p])=zfm L m++[{ y with n:=p.2 }]:=by
 unfold zfm
 rw[List.filterMap_append]
 simp[h]
theorem zgD(hz:z∈zfm L m):∃p∈m,∃y,yB L p.1=some y∧z={ y with n:=p.2 }:=by
 obtain⟨p,hp,h⟩:=List.mem_filterMap.1 hz
 cases hf:yB L p.1 with
 |none=>rw[hf]at h;cases h
 |some y=>
  rw[hf]at h
  exact⟨p,hp,y,hf,(Option.some.inj h).symm⟩
theorem zaB.apart2(h:zaB w L c)(hx:x∈L)(hy:y∈L)(hne:x.n≠y.n):∀b∈x.ow,b∉y.ow:=fun b hb hm=>by
 obtain⟨i,hi⟩:=List.getElem?_of_mem hx
 obtain⟨j,hj⟩:=List.getElem?_of_mem hy
 have hij:i≠j:=fun hij=>hne (by
  subst hij
  rw[hi]at hj
  cases hj;rfl)
 obtain⟨hi',rfl⟩:=Gs hi
 obtain⟨hj',rfl⟩:=Gs hj
 rcases Nat.lt_or_ge i j with hlt|hge
 ·exact List.pairwise_iff_getElem.1 h.apart i j hi' hj' hlt b hb hm
 exact List.pairwise_iff_getElem.1 h.apart j i hj' hi' (by omega) b hm hb
theorem zaB.movA(h:zaB w L c):∀{m:List (By×By)},(m.map Prod.fst).Nodup→zoD (zfm L m)
 |[],_=>List.Pairwise.nil
 |p::m,hn=>by
  rw[List.map_cons,List.nodup_cons]at hn
  have ih:=h.movA hn.2
  unfold zfm
  rw[List.filterMap_cons]
  cases hf:yB L p.1 with
  |none=>exact ih
  |some y=>
   refine List.pairwise_cons.2 ⟨fun z hz=>?_,ih⟩
   obtain⟨p',hp',y',hf',rfl⟩:=zgD hz
   obtain⟨h1,e1⟩:=yX hf
   obtain⟨h2,e2⟩:=yX hf'
   have h5:∀b∈y.ow,b∉y'.ow:=h.apart2 h1 h2 fun e=>hn.1 (by
    rw[←e1,e,e2]
    exact List.mem_map.2 ⟨p',hp',U⟩)
   exact h5
theorem zaB.ren(h:zaB w L c)(hn:(m.map Prod.fst).Nodup)(hN:NmL (zcF L m++zfm L m) (zdK c m))(hk:zaJ (zdK c m)):zaB w (zcF L m++zfm L m) (zdK c m):=by
 refine⟨fun z hz=>?_,?_,hN.names,hN.mem,hk⟩
 ·rcases List.mem_append.1 hz with hz|hz
  ·exact h.tabs z (zex.1 hz).1
  obtain⟨p,_,y,hf,rfl⟩:=zgD hz
  exact h.tabs y (yX hf).1
 refine List.pairwise_append.2 ⟨h.apart.sublist List.filter_sublist,h.movA hn,fun a ha z hz=>?_⟩
 obtain⟨h1,h2⟩:=zex.1 ha
 obtain⟨p,hp,y,hf,rfl⟩:=zgD hz
 obtain⟨h3,e3⟩:=yX hf
 have h5:∀b∈a.ow,b∉y.ow:=h.apart2 h1 h3 fun e=>h2 (by
  rw[e,e3]
  exact List.mem_map.2 ⟨p,hp,U⟩)
 exact h5
theorem zoA:∀b∈owL (zcF L m++zfm L m),b∈owL L:=fun b hb=>by
 obtain⟨z,hz,hbz⟩:=zaW.1 hb
 rcases List.mem_append.1 hz with hz|hz
 ·exact zaW.2 ⟨z,(zex.1 hz).1,hbz⟩
 obtain⟨p,_,y,hf,rfl⟩:=zgD hz
 exact zaW.2 ⟨y,(yX hf).1,hbz⟩
theorem zr1{j:Nat}(hp:m[j]? = some p)(h:(m.take j).any (fun o=>decide (o.1=p.1))=true):zd0 m=true:=by
 have hn:¬ (m.map Prod.fst).Nodup:=fun hn=>by
  obtain⟨o,ho,he⟩:=List.any_eq_true.1 h
  have h1:=hn.sublist ((List.take_sublist (j+1) m).map Prod.fst)
  rw[List.take_add_one,hp,List.map_append,List.nodup_append]at h1
  exact h1.2.2 o.1 (List.mem_map.2 ⟨o,ho,rfl⟩) p.1 (by simp) (of_decide_eq_true he)
 unfold zd0
 rw[df hn]
 rfl
theorem zm2{j:Nat}(hp:m[j]? = some p)(h:(m.take j).any (fun o=>decide (o.1=p.1))=false)(hn:((m.take j).map Prod.fst).Nodup):((m.take (j+1)).map Prod.fst).Nodup:=by
 rw[List.take_add_one,hp,List.map_append,List.nodup_append]
 refine⟨hn,by simp,fun a ha d hd=>?_⟩
 simp at hd;subst hd
 obtain⟨o,ho,rfl⟩:=List.mem_map.1 ha
 exact of_decide_eq_false (by simpa using List.any_eq_false.1 h o ho)
theorem zqm{x:EvT}(hr:z9 x=true)(hk:x.k=6):doE c x=zeT c x.m:=by
 unfold doE
 rw[if_neg (by simp[hr]),if_pos hk]
theorem zrr{x:EvT}(hk:x.k=6)(he:doE c x=0):doC c x=zdK c x.m:=by
 unfold doC
 rw[if_neg (by simp[he]),if_pos hk]
theorem zyS(h:zd0 m=true):zeT c m=2:=by unfold zeT;rw[if_pos h]
theorem zx7(h:(m.map Prod.fst).Nodup){j:Nat}(hp:m[j]? = some p)(ha:atC c p.1=none):zeT c m=5:=by
 unfold zeT
 rw[if_neg (by simp[zd0,h]),if_pos (List.any_eq_true.2 ⟨p,List.mem_of_getElem? hp,by simp[ha]⟩)]
theorem zke(h:(m.map Prod.fst).Nodup)(ha:∀p∈m,(atC c p.1).isSome=true):zeT c m=if zcc c (zbx c m) m then 220 else 0:=by
 unfold zeT
 rw[if_neg (by simp[zd0,h]),if_neg]
 simp only[List.any_eq_true,not_exists,not_and]
 intro p hp he
 have:=ha p hp
 cases hq:atC c p.1 with
 |none=>rw[hq]at this;cases this
 |some t=>rw[hq]at he;cases he
theorem ztP(h:(m.map Prod.fst).Nodup)(ha:∀p∈m,(atC c p.1).isSome=true){j:Nat}(hp:m[j]? = some p)(ht:atC (zb2 c (zbx c m) (m.take j)) p.2≠none):zeT c m=220:=by
 rw[zke h ha,if_pos (zpJ hp ht)]
theorem zzA(h:(m.map Prod.fst).Nodup)(ha:∀p∈m,(atC c p.1).isSome=true)(ht:∀j p,m[j]? = some p→atC (zb2 c (zbx c m) (m.take j)) p.2=none):zeT c m=0:=by
 rw[zke h ha,if_neg (by simp[zgJ.2 ht])]
end
theorem zqV(o q:By×By)(b:Nat)(w:Wl)(hb:zK w b 78 (pcs q)):zL TP 113 #[.agg (pcs o).toArray,Pt b] w fun r w'=>r=.bool (decide (o.1=q.1))∧zl [] w w':=by
 refine A2 Tryz.func113 U U ?_
 refine Sr ?_
 refine Ob U U ?_
 intro b2 w2 e2 n2 c2 k2
 refine Oa U (E2 1 2 U ?_)
 have k2:zK w2 b2 78 (pcs o):=k2
 refine Sr ?_
 refine Og (zP zdt sz9 U U 0 U (by decide)) U ?_
 refine Ol ag9 U (k2.cell' (i:=0) U) ?_
 refine Og (zP zdt sz9 U U 0 U (by decide)) U ?_
 refine Ol ag9 U ((hb.chg0 c2).cell' (i:=0) U) (Og (zf8 U U) U (Oa U (E1 3 U (zh ?_))))
 refine zx U U ?_
 exact⟨U,c2⟩
section
variable {w w':Wl} {p mb:Nat} {L:List CE} {c:Cat} {x:EvT} {e:EvV}
set_option maxHeartbeats 1000000 in
theorem zpG(h:zcA w p mb L c)(hx:za7 w e x)(hm:zce x)(hr:z9 x=true)(hk:x.k=6) :
 zL TP 68 #[Pt p,.agg (evC x e).toArray] w (DoR w p (p::mb::owL L) c x):=by
 obtain⟨ec,eky,eu,eo,en,em⟩:=e
 obtain⟨pm,cm,rfl,hcm⟩:∃q r,em=.slice q x.m.length r∧x.m.length≤r:=zO.val hx.nm
 have hnm:zcw w (.slice pm x.m.length cm) x.m:=hx.nm
 have hmm:=hm.m
 generalize he:evC x ⟨ec,eky,eu,eo,en,.slice pm x.m.length cm⟩=E
 have hE7:E[7]? = some (.slice pm x.m.length cm):=by rw[←he];rfl
 refine A2 Tryz.func68 U U ?_
 refine Sr ?_
 refine Ob U U ?_
 intro b3 w3 e3 n3 c3 k3
 refine Oa U (E2 0 3 U ?_)
 have k3:zK w3 b3 39 E:=k3
 have hnm3:zcw w3 (.slice pm x.m.length cm) x.m:=zO.chg0 hnm c3
 have h3:=h.chg0 c3
 have hno:∀{wy:Wl} {r:Va} {z:Int},zl [] w3 wy→zeT c x.m=z→z≠0→za1 wy r z→DoR w p (p::mb::owL L) c x r wy:=fun hc hz h0 h1=>DoR.no (h3.chg0 hc) (c3.trans hc) (by rw[zqm hr hk];exact hz) h0 h1
 refine zd (Sr (Od zaC U (Ol zdI U (k3.cell' hE7) (On zb0 U (Om U (E5 0 3 17 18 19 U (zu ?_)))))))
 refine zX [0,3,17,18,19] (fun m F wx=>∃j:Nat,m=x.m.length-j∧j≤x.m.length∧F=[(0,Pt p),(3,Pt b3),(17,.slice pm x.m.length cm),(18,Ii x.m.length),(19,Ii j)]∧((x.m.take j).map Prod.fst).Nodup∧zl [] w3 wx) (m:=x.m.length-0) ⟨0,rfl,Nat.zero_le _,rfl,by simp,zl.refl _ _⟩ ?_
 rintro m F wx⟨j,rfl,hj,rfl,hnd,hcx⟩
 refine zd ?_
 by_cases hlt:j<x.m.length
 ·refine za ?_
  refine Og (vt (zF U U) (by simp;omega)) U ?_
  refine E6 0 3 17 18 19 20 U (zd (zf U (zk ?_)))
  have hq:x.m[j]? = some x.m[j]:=by simp[hlt]
  generalize x.m[j]=q at hq
  obtain⟨b,off,cap,hve,hcell⟩:=zO.at zbw (zO.chg0 hnm3 hcx) hq
  cases hve
  refine zd (zu (Sr (Om U ?_)))
  refine Og (zm zb0 zdJ U U _ U hlt) U ?_
  refine Og (zg zpr zdJ U U hcell) U ?_
  refine Oq (zD zlr U U ?_)
  intro b6 w6 e6 n6 c6 k6
  refine Oa U ?_
  refine Oq (zv zdJ U U U U k6 (by simp[pcs]) (by simp[pcs,Value.oneCell']) ?_)
  intro wA nA cA kA
  refine E7 0 3 5 6 17 18 19 U ?_
  have kA:zK wA b6 78 (pcs q):=kA
  have hcA:zl [] wx wA:=c6.own cA (by intro y hy;simp at hy;omega)
  have hcw:=hcx.trans hcA
  refine zd ?_
  have hcf:=zoo zbw _ (x.m.take j) (fun o=>decide (o.1=q.1)) 113 [Pt b6] wA (zO.take (m:=cm) zbw (zO.chg0 hnm3 hcw) hj (by omega) (Nat.le_refl _)) (by rw[List.length_take];omega) zxQ (fun o _ w1 h1=>zqV o q b6 w1 (kA.chg0 h1))
  cases ha:(x.m.take j).any fun o=>decide (o.1=q.1) with
  |true=>
   rw[ha]at hcf
   refine za (Od zaC U (Ol zdI U ((k3.chg0 hcw).cell' hE7) (Om U ?_)))
   refine Og (za8 zb0 zdJ U U _ U (by omega)) U ?_
   refine Og (y9 U U) U ?_
   refine Oc zqb U U U hcf ?_
   rintro v29 w29⟨rfl,c29⟩
   refine E7 0 3 6 17 18 19 29 U (zf U (Sr ?_))
   refine Og (zP zdt sz9 U U 0 U (by decide)) U ?_
   refine Ol ag9 U ((kA.chg0 c29).cell' (i:=0) U) (Og (zS zcX U) U ?_)
   refine Og (zC zeW zeY U (vs:=[_,_]) U (css:=[_,_]) ⟨U,U,trivial⟩ U U (cs:=[_,_]) U) U ?_
   refine Og (zS zeU U) U (Oa U (E1 4 U (zh ?_)))
   repeat first|refine tr ?_|refine br ?_
   refine zx U U ?_
   exact hno (hcw.trans c29) (zyS (zr1 hq ha)) (by decide) (zid _ _ _)
  |false=>
   rw[ha]at hcf
   refine za (Od zaC U (Ol zdI U ((k3.chg0 hcw).cell' hE7) (Om U ?_)))
   refine Og (za8 zb0 zdJ U U _ U (by omega)) U ?_
   refine Og (y9 U U) U ?_
   refine Oc zqb U U U hcf ?_
   rintro v29 w29⟨rfl,c29⟩
   refine E7 0 3 6 17 18 19 29 U (zb U (z0 (zn (za ?_))))
   refine Og (zG U U (by omega)) U ?_
   refine Om U (N5 0 3 17 18 19 U ?_)
   exact⟨x.m.length-(j+1),by omega,j+1,rfl,by omega,rfl,zm2 hq ha hnd,hcw.trans c29⟩
 refine za ?_
 refine Og (vf (zF U U) (by simp;omega)) U ?_
 refine E6 0 3 17 18 19 20 U (zd (zb U ?_))
 refine zI ?_
 repeat first|refine te ?_|refine bo rfl ?_
 refine zt _ ?_
 have hND:(x.m.map Prod.fst).Nodup:=by rwa [Tl (by omega)]at hnd
 clear hnd
 have hE:=h3.chg0 hcx
 have kE:=k3.chg0 hcx
 have hnmE:zcw wx (.slice pm x.m.length cm) x.m:=zO.chg0 hnm3 hcx
 have hnoE:∀{wy:Wl} {r:Va} {z:Int},zl [] wx wy→zeT c x.m=z→z≠0→za1 wy r z→DoR w p (p::mb::owL L) c x r wy:=fun hc=>hno (hcx.trans hc)
 have c3x:=c3.trans hcx
 clear hno h3 k3 hnm3 c3 hcx hlt hj
 refine Sr (Om U (Og (zp U) U (Od zat U (Ol zdu U (hE.blk.cell' (i:=0) U) ?_))))
 refine Oc zxN U U U (zrP mb _ _ hE.map) ?_
 rintro v40 w40⟨b,rfl,hM,hfr,c40⟩
 refine Oa U (E3 0 3 7 U (zd (Sr (Od zaC U (Ol zdI U ((kE.chg0 c40).cell' hE7) (On zb0 U (Om U (E6 0 3 7 42 43 44 U (zu ?_)))))))))
 refine zX [0,3,7,42,43,44] (fun m F wy=>∃j:Nat,m=x.m.length-j∧j≤x.m.length∧F=[(0,Pt p),(3,Pt b3),(7,.map (some b)),(42,.slice pm x.m.length cm),(43,Ii x.m.length),(44,Ii j)]∧(∀q∈x.m.take j,(yB L q.1).isSome=true)∧zY zbo wy b ((zcF L (x.m.take j)).map CE.en)∧zl [] wx wy) (m:=x.m.length-0) ⟨0,rfl,Nat.zero_le _,rfl,by simp,(by rw[List.take_zero,zpA];exact hM),c40⟩ ?_
 rintro m F wy⟨j,rfl,hj,rfl,hall,hMj,hcy⟩
 refine zd ?_
 by_cases hlt:j<x.m.length
 ·refine za ?_
  refine Og (vt (zF U U) (by simp;omega)) U ?_
  refine E7 0 3 7 42 43 44 45 U (zd (zf U (zk ?_)))
  have hq:x.m[j]? = some x.m[j]:=by simp[hlt]
  have htk:=List.take_succ_eq_append_getElem hlt
  generalize x.m[j]=q at hq htk
  obtain⟨bb,off,cap,hve,hcell⟩:=zO.at zbw (zO.chg0 hnmE hcy) hq
  cases hve
  refine zd (zu (Sr ?_))
  refine Og (zm zb0 zdJ U U _ U hlt) U ?_
  refine Og (zg zpr zdJ U U hcell) U ?_
  refine Oq (zD zlr U U ?_)
  intro b9 w9 e9 n9 c9 k9
  refine Oq (zv zdJ U U U U k9 (by simp[pcs]) (by simp[pcs,Value.oneCell']) ?_)
  intro wA nA cA kA
  refine E7 0 3 7 9 42 43 44 U ?_
  have kA:zK wA b9 78 (pcs q):=kA
  have hcA:zl [] wy wA:=c9.own cA (by intro y hy;simp at hy;omega)
  have hcw:=hcy.trans hcA
  have hA:=hE.chg0 hcw
  have hMA:=hMj.chg0 hcA
  have hd:zl [] wA wA.drew:=zl.drew [] _
  refine zd (zd ?_)
  cases hf:yB L q.1 with
  |none=>
   refine zN (fun wz=>zl [] wA wz) mix (by kernel_rfl) hd ?_
   refine Tm U (Tp (fun _=>zp U) U (Td zat U (Tr (fun wz hz=>zj zdu U ((hA.blk.chg0 hz).cell' (i:=0) U)) U ?_)))
   refine Tp (fun _=>zP zdt sz9 U U 0 U (by decide)) U ?_
   refine Tr (fun wz hz=>zj ag9 U ((kA.chg0 hz).cell' (i:=0) U)) U ?_
   refine Tc zhN U U U (zev (hA.map.chg0 hd) hf) ?_
   rintro v55 w55⟨rfl,rfl⟩
   refine⟨.inl hd,?_⟩
   refine Tm U (Tp (fun _=>zJ U U) U (Tp (fun _=>zJ U U) U (Ta U (Ta U ?_))))
   refine zjv [0,3,7,9,11,42,43,44] (F':=[(0,_),(3,_),(7,_),(9,_),(11,_),(42,_),(43,_),(44,_)]) U ?_
   refine Sr (Om U (Og (zE U) U (E8 0 3 7 9 42 43 44 59 U (zf U (Sr ?_)))))
   refine Og (zP zdt sz9 U U 0 U (by decide)) U ?_
   refine Ol ag9 U ((kA.chg0 hd).cell' (i:=0) U) (Og (zS zcX U) U ?_)
   refine Og (zC zeW zeY U (vs:=[_,_]) U (css:=[_,_]) ⟨U,U,trivial⟩ U U (cs:=[_,_]) U) U ?_
   refine Og (zS zeU U) U (Oa U (E1 4 U (zh ?_)))
   repeat first|refine tr ?_|refine br ?_
   refine zx U U ?_
   exact hnoE (hcw.trans hd) (zx7 hND hq (by rw[h.l.at,hf];rfl)) (by decide) (zid _ _ _)
  |some y=>
   refine zN (fun wz=>zl [] wA wz) mix (by kernel_rfl) hd ?_
   refine Tm U (Tp (fun _=>zp U) U (Td zat U (Tr (fun wz hz=>zj zdu U ((hA.blk.chg0 hz).cell' (i:=0) U)) U ?_)))
   refine Tp (fun _=>zP zdt sz9 U U 0 U (by decide)) U ?_
   refine Tr (fun wz hz=>zj ag9 U ((kA.chg0 hz).cell' (i:=0) U)) U ?_
   refine Tc zhN U U U (zec (hA.map.chg0 hd) hf) ?_
   rintro v55 w55⟨rfl,rfl⟩
   refine⟨.inl hd,?_⟩
   refine Tm U (Tp (fun _=>zJ U U) U (Tp (fun _=>zJ U U) U (Ta U (Ta U ?_))))
   refine zjv [0,3,7,9,11,42,43,44] (F':=[(0,_),(3,_),(7,_),(9,_),(11,_),(42,_),(43,_),(44,_)]) U ?_
   refine Sr (Om U (Og (zE U) U (E8 0 3 7 9 42 43 44 59 U (zb U (zk (za (Om U ?_)))))))
   refine Og (zP zdt sz9 U U 0 U (by decide)) U ?_
   refine Ol ag9 U ((kA.chg0 hd).cell' (i:=0) U) ?_
   refine Oq (znV (κ:=zbo) zd3 (yN st9) U U (hMA.chg0 hd) ?_)
   intro wB nB cB kB
   refine N6 0 3 7 42 43 44 U (zn (za ?_))
   refine Og (zG U U (by omega)) U ?_
   refine Om U (N6 0 3 7 42 43 44 U ?_)
   refine⟨x.m.length-(j+1),by omega,j+1,rfl,by omega,rfl,?_,?_,(hcw.trans hd).own cB (by intro y hy;simp at hy;omega)⟩
   ·rw[htk]
    intro q' hq'
    rcases List.mem_append.1 hq' with h1|h1
    ·exact hall q' h1
    simp at h1;subst h1;rw[hf];rfl
   rw[htk,znd,←zqZ (L:=zcF L (x.m.take j)) (h.l.names.sublist (List.filter_sublist.map _))]
   exact kB
 refine za ?_
 refine Og (vf (zF U U) (by simp;omega)) U ?_
 refine E7 0 3 7 42 43 44 45 U (zd (zb U ?_))
 refine zI ?_
 repeat first|refine te ?_|refine bo rfl ?_
 refine zt _ ?_
 rw[Tl (by omega)]at hall hMj
 have hat:∀q∈x.m,(atC c q.1).isSome=true:=fun q hq=>by
  have:=hall q hq
  rw[h.l.at]
  cases hf:yB L q.1 with
  |none=>rw[hf]at this;cases this
  |some y=>rfl
 have hN0:=h.l.rest x.m
 clear hlt hj c40 hM
 refine zd (Sr (Od zaC U (Ol zdI U ((kE.chg0 hcy).cell' hE7) (On zb0 U (Om U (E5 0 7 70 71 72 U (zu ?_)))))))
 refine zX [0,7,70,71,72] (fun m F wz=>∃j:Nat,m=x.m.length-j∧j≤x.m.length∧F=[(0,Pt p),(7,.map (some b)),(70,.slice pm x.m.length cm),(71,Ii x.m.length),(72,Ii j)]∧NmL (zcF L x.m++zfm L (x.m.take j)) (zb2 c (zbx c x.m) (x.m.take j))∧(∀i q,i<j→x.m[i]? = some q→atC (zb2 c (zbx c x.m) (x.m.take i)) q.2=none)∧zY zbo wz b ((zcF L x.m++zfm L (x.m.take j)).map CE.en)∧zl [] wx wz) (m:=x.m.length-0) ⟨0,rfl,Nat.zero_le _,rfl,(by simpa[zfm,zb2] using hN0),(by intro i q hi;omega),(by simpa[zfm] using hMj),hcy⟩ ?_
 rintro m F wz⟨j,rfl,hj,rfl,hN,hfree,hMz,hcz⟩
 refine zd ?_
 by_cases hlt:j<x.m.length
 ·refine za ?_
  refine Og (vt (zF U U) (by simp;omega)) U ?_
  refine E6 0 7 70 71 72 73 U (zd (zf U (zk ?_)))
  have hq:x.m[j]? = some x.m[j]:=by simp[hlt]
  have htk:=List.take_succ_eq_append_getElem hlt
  have hmem:=List.getElem_mem hlt
  generalize x.m[j]=q at hq htk hmem
  obtain⟨bb,off,cap,hve,hcell⟩:=zO.at zbw (zO.chg0 hnmE hcz) hq
  cases hve
  refine zd (zu (Sr ?_))
  refine Og (zm zb0 zdJ U U _ U hlt) U ?_
  refine Og (zg zpr zdJ U U hcell) U ?_
  refine Oq (zD zlr U U ?_)
  intro b13 w13 e13 n13 c13 k13
  refine Oq (zv zdJ U U U U k13 (by simp[pcs]) (by simp[pcs,Value.oneCell']) ?_)
  intro wA nA cA kA
  refine E6 0 7 13 70 71 72 U ?_
  have kA:zK wA b13 78 (pcs q):=kA
  have hcA:zl [] wz wA:=c13.own cA (by intro y hy;simp at hy;omega)
  have hcw:=hcz.trans hcA
  have hA:=hE.chg0 hcw
  have hMA:=hMz.chg0 hcA
  refine zd (zd ?_)
  cases hf:yB (zcF L x.m++zfm L (x.m.take j)) q.2 with
  |some z=>
   refine za (Om U ?_)
   refine Og (zP zdt sz9 U U 1 U (by decide)) U ?_
   refine Ol ag9 U (kA.cell' (i:=1) U) ?_
   refine Og (zck (κ:=zbo) zd3 (yN st9) zjk U U hMA (show zar _ _=some z.pt by rw[zaO,hf];rfl)) U ?_
   refine Om U (Oe U U (Oe U U (Oa U (Oa U (E7 0 7 13 15 70 71 72 U (Sr (Om U (E7 0 7 13 70 71 72 83 U (zf U (Sr ?_))))))))))
   refine Og (zP zdt sz9 U U 1 U (by decide)) U ?_
   refine Ol ag9 U (kA.cell' (i:=1) U) (Og (zS zcX U) U ?_)
   refine Og (zC zeW zeY U (vs:=[_,_]) U (css:=[_,_]) ⟨U,U,trivial⟩ U U (cs:=[_,_]) U) U ?_
   refine Og (zS zeU U) U (Oa U (E1 4 U (zh ?_)))
   repeat first|refine tr ?_|refine br ?_
   refine zx U U ?_
   exact hnoE hcw (ztP hND hat hq (by rw[hN.at1 hf];simp)) (by decide) (zid _ _ _)
  |none=>
   obtain⟨y,hy⟩:=Option.isSome_iff_exists.1 (hall q hmem)
   have haty:atC c q.1=some y.tb:=by rw[h.l.at,hy];rfl
   have hd:zl [] wA wA.drew:=zl.drew [] _
   refine za (Om U ?_)
   refine Og (zP zdt sz9 U U 1 U (by decide)) U ?_
   refine Ol ag9 U (kA.cell' (i:=1) U) ?_
   refine Og (zck (κ:=zbo) zd3 (yN st9) zjk U U hMA (show zar _ _=none by rw[zaO,hf];rfl)) U ?_
   refine Om U (Oe U U (Oe U U (Oa U (Oa U (E7 0 7 13 15 70 71 72 U (Sr (Om U (E7 0 7 13 70 71 72 83 U (zb U (zk ?_))))))))))
   refine zN (fun wz=>zl [] wA wz) mix (by kernel_rfl) hd ?_
   refine Tm U ?_
   refine Tp (fun _=>zP zdt sz9 U U 1 U (by decide)) U ?_
   refine Tr (fun wz hz=>zj ag9 U ((kA.chg0 hz).cell' (i:=1) U)) U (Tm U (Tp (fun _=>zp U) U (Td zat U (Tr (fun wz hz=>zj zdu U ((hA.blk.chg0 hz).cell' (i:=0) U)) U ?_))))
   refine Tp (fun _=>zP zdt sz9 U U 0 U (by decide)) U ?_
   refine Tr (fun wz hz=>zj ag9 U ((kA.chg0 hz).cell' (i:=0) U)) U ?_
   refine za4 U (gn U) (St.vl (zgW (κ:=zbo) zd3 (yN st9) zjk U U (hA.map.chg0 hd) (show zar _ _=some y.pt by rw[zaO,hy];rfl)) U U ?_)
   refine⟨.inl hd,?_⟩
   refine za4 U (gn U) (zh1 (κ:=zbo) zd3 (yN st9) U U U (hMA.chg0 hd) ?_)
   intro wB nB cB kB
   refine⟨.inr (by kernel_rfl),?_⟩
   refine zdX [0,7,70,71,72] (F':=[(0,_),(7,_),(70,_),(71,_),(72,_)]) U ?_
   refine zn (za ?_)
   refine Og (zG U U (by omega)) U ?_
   refine Om U (N5 0 7 70 71 72 U ?_)
   refine⟨x.m.length-(j+1),by omega,j+1,rfl,by omega,rfl,?_,?_,?_,(hcw.trans hd).own cB (by intro y hy;simp at hy;omega)⟩
   ·rw[htk,zj5 hy,zo0,zgK haty,←List.append_assoc]
    exact hN.new (z:={ y with n:=q.2 }) hf
   ·intro i q' hi hq'
    by_cases hij:i=j
    ·subst hij
     rw[hq]at hq'
     cases hq'
     exact hN.at0 hf
    exact hfree i q' (by omega) hq'
   rw[htk,zj5 hy,←List.append_assoc,List.map_append]
   have e:=zgG (v:=y.pt) (show zar ((zcF L x.m++zfm L (x.m.take j)).map CE.en) q.2=none by rw[zaO,hf];rfl)
   have kB':zY zbo wB b (zb3 ((zcF L x.m++zfm L (x.m.take j)).map CE.en) q.2 y.pt):=kB
   rw[e]at kB'
   exact kB'
 refine za ?_
 refine Og (vf (zF U U) (by simp;omega)) U ?_
 refine E6 0 7 70 71 72 73 U (zd (zb U ?_))
 refine zI ?_
 repeat first|refine te ?_|refine bo rfl ?_
 refine zt _ ?_
 have hjl:j=x.m.length:=by omega
 subst hjl
 rw[Tl (Nat.le_refl _)]at hN hMz
 have he0:doE c x=0:=by
  rw[zqm hr hk]
  exact zzA hND hat fun i q hq=>hfree i q (Gs hq).1 hq
 have hz:=hE.chg0 hcz
 refine Sr (Om U (Om U (Og (zp U) U (Od zat U ?_))))
 refine Oq (zv zwR U U U U hz.blk (by simp) (by simp[Value.oneCell']) ?_)
 intro wD nD cD kD
 refine zac [] (F':=[]) U ?_
 have kD:zK wD p 83 [.map (some b)]:=kD
 refine Sr (Oa U (E1 4 U (zh ?_)))
 refine zx U U ?_
 have hxs:=c3x.size
 have hcl:=hz.l.ren hND hN (h.l.ok.ren (by rw[←zqm hr hk];exact he0))
 refine⟨.inl ⟨rfl,he0⟩,((c3x.trans hcz).any).trans' cD (fun y hy=>.inl (by simp at hy;simp[hy])),p::b::owL (zcF L x.m++zfm L x.m),?_,fun y hy=>?_⟩
 ·rw[zrr hk he0]
  refine⟨b,_,rfl,kD,hMz.chg cD (fun hb=>by simp at hb;subst hb;exact hMz.ne hz.blk U),hcl.hm (fun y hy hm=>?_) (Hm.cat hz.blk hz.ge.1) cD,hz.ge.1,by have:=h.nn;omega⟩
  simp at hm
  subst hm
  exact(hz.notO y (zoA y hy)).1 U
 rcases List.mem_cons.1 hy with rfl|hy
 ·exact .inl (by simp)
 rcases List.mem_cons.1 hy with rfl|hy
 ·exact .inr (by omega)
 exact .inl (List.mem_cons_of_mem _ (List.mem_cons_of_mem _ (zoA y hy)))
end
section
variable {w w':Wl} {p m:Nat} {L:List CE} {c:Cat} {x:EvT} {y:CE} {e:EvV} {r:Va} {n:By} {own:List Nat}
theorem ztV(hm:zce x)(hr:z9 x=true):∃g,zar zuE x.k=some (.func (.func g) #[] #[])∧zi TP g=true∧∀w,EOk w→zcA w p m L c→za7 w e x →
 zL TP g #[Pt p,.agg (evC x e).toArray] w (DoR w p (p::m::owL L) c x):=by
 have hk:=(zeA hr).1
 rcases (show x.k=1∨x.k=2∨x.k=3∨x.k=4∨x.k=5∨x.k=6 by omega) with h|h|h|h|h|h
 ·exact⟨63,by rw[h];rfl,zzX,fun w hE hC hx=>zo5 hE hC hx hm hr h⟩
 ·exact⟨64,by rw[h];rfl,zAc,fun w hE hC hx=>zpo hE hC hx hm hr h⟩
 ·exact⟨65,by rw[h];rfl,zAg,fun w hE hC hx=>zoW hE hC hx hm hr h⟩
 ·exact⟨66,by rw[h];rfl,zzU,fun w hE hC hx=>zpz hE hC hx hm hr h⟩
 ·exact⟨67,by rw[h];rfl,zAi,fun w hE hC hx=>zsJ hC hr h⟩
 exact⟨68,by rw[h];rfl,zz4,fun w hE hC hx=>zpG hC hx hm hr h⟩
theorem zpV(hE:EOk w)(hC:zaj w p own c)(hx:za7 w e x)(hm:zce x) :
 zL TP 13 #[Pt p,.agg (evC x e).toArray] w fun r w'=>r=Ii (doE c x)∧zl own w w'∧∃own',zaj w' p own' (doC c x)∧∀b∈own',b∈own∨w.heap.size≤b:=by
 have hlt:=hC.hmO.lt
 have hHm:=hC.hmO
 obtain⟨m,L,rfl,h⟩:=hC
 refine A2 Tryz.func13 U U ?_
 refine Sr ?_
 refine Ob U U ?_
 intro b3 w3 e3 n3 c3 k3
 refine Oa U (E2 0 3 U ?_)
 have k3:zK w3 b3 39 (evC x e):=k3
 refine zd (Sr (Om U (Og (zan zng U U) U (E3 0 3 7 U (zb U (zk (zd (zd ?_))))))))
 cases hr:z9 x with
 |false=>
  have he:doE c x=2:=by unfold doE;rw[if_pos hr]
  refine za (Og (zg zaI yy U U (zB.of_blk0 k3)) U ?_)
  refine Oc zxs U U U (zml e x _ (hE.chg0 c3) (hx.chg0 c3) hm) ?_
  rintro v9 w9⟨e9,c9⟩
  rw[hr]at e9
  subst e9
  refine Oa U (E3 0 3 5 U (Sr (Om U ?_)))
  refine Og (vt (zZ U U) (by decide)) U ?_
  refine E4 0 3 5 11 U (zf U (Sr (Om U (Oa U (E1 4 U (zh ?_))))))
  repeat first|refine tr ?_|refine br ?_
  refine zx U U ?_
  exact⟨by rw[he];rfl,(c3.trans c9).any,_,by rw[zoM (by rw[he];decide)];exact⟨m,L,rfl,h.chg0 (c3.trans c9)⟩,fun b hb=>.inl hb⟩
 |true=>
  refine za (Og (zg zaI yy U U (zB.of_blk0 k3)) U ?_)
  refine Oc zxs U U U (zml e x _ (hE.chg0 c3) (hx.chg0 c3) hm) ?_
  rintro v9 w9⟨e9,c9⟩
  rw[hr]at e9
  subst e9
  refine Oa U (E3 0 3 5 U ?_)
  have hc9:=c3.trans c9
  have k9:=k3.chg0 c9
  refine Sr (Om U ?_)
  refine Og (vf (zZ U U) (by decide)) U ?_
  refine E4 0 3 5 11 U (zb U (zk ?_))
  obtain⟨g,hg,hb,hgo⟩:=ztV (p:=p) (m:=m) (L:=L) (c:=c) (e:=e) hm hr
  have hd:zl (p::m::owL L) w9 w9.drew:=zl.drew _ _
  have hb3:b3∉p::m::owL L:=fun hb=>by have:=hlt b3 hb;omega
  have h0:zl [] w9 w9.drew:=zl.drew _ _
  refine zd ?_
  refine zN (fun wz=>zl (p::m::owL L) w9 wz) mix (by kernel_rfl) hd ?_
  refine Tc zAf U U U (zqD _) ?_
  rintro v13 w13⟨mk,rfl,hM,hmk,c13⟩
  refine⟨.inl (hd.trans c13),?_⟩
  refine Td za5 U (Tr (fun wz hz=>zj zee U ((k9.chg hz hb3).cell' (i:=0) U)) U ?_)
  refine za4 U (gn U) (St.vl (zgW (κ:=y6 .i64) zmM (zM zaR) zAb U U hM hg) U U ?_)
  refine⟨.inl (hd.trans c13),?_⟩
  refine Tm U (Tr (fun wz hz=>zg zaI yy U U (zB.of_blk0 (k9.chg hz hb3))) U ?_)
  refine Tc hb U U U (hgo _ (((hE.chg0 hc9).chg0 h0).chg0 c13) (((h.chg0 hc9).chg0 h0).chg0 c13) (((hx.chg0 hc9).chg0 h0).chg0 c13)) ?_
  rintro v19 w19⟨he,c19,own',hC',ho'⟩
  refine⟨.inl ((hd.trans c13).transS c19),?_⟩
  refine Tc zz5 U U U (zvY _ (doE c x) _ ((((hE.chg0 hc9).chg0 h0).chg0 c13).hm ((((hHm.chg0 hc9).chg0 h0)).chg0 c13) c19) he.weak) ?_
  rintro v20 w20⟨rfl,c20⟩
  refine⟨.inl (((hd.trans c13).transS c19).trans c20),?_⟩
  refine Ta U (D1 4 U (zh ?_))
  refine zx U U ?_
  refine⟨U,(hc9.any).transS (((hd.trans c13).transS c19).trans c20),own',hC'.chg0 c20,fun b hb=>(ho' b hb).imp id fun h=>?_⟩
  have h1:=hc9.size
  have h2:=h0.size
  have h3:=c13.size
  omega
theorem zpp(hC:zaj w p own c)(ha:atC c n=none):zL TP 19 #[Pt p,.string n] w fun r w'=>r=.tuple #[.pointer none,.bool false]∧zl [] w w':=by
 obtain⟨m,L,rfl,h⟩:=hC
 have hf:yB L n=none:=by
  rw[h.l.at]at ha
  cases hf:yB L n with
  |none=>rfl
  |some y=>rw[hf]at ha;cases ha
 refine A2 Tryz.func19 U U ?_
 refine Sr (Oa U (Oa U (E2 0 1 U (zd (Sr (Om U (Og (zan zng U U) U (E3 0 1 9 U (zb U (zk (Sr (Om U ?_))))))))))))
 refine Og (zp U) U (Od zat U (Ol zdu U (h.blk.cell' (i:=0) U) (Om U ?_)))
 refine Oc zhN U U U (zev h.map hf) ?_
 rintro v16 w16⟨rfl,rfl⟩
 refine Om U (Oe U U (Oe U U (Oa U (Oa U (E2 6 7 U (Sr (Om U ?_)))))))
 refine Oc zvj U U U (ztv _) ?_
 rintro v20 w20⟨rfl,rfl⟩
 refine Om U (Oa U (Oa U (E2 4 5 U (zh ?_))))
 refine zbX U U U ?_
 exact⟨U,zl.refl _ _⟩
theorem zo4{t:Tb}(hC:zaj w p own c)(ha:atC c n=some t):zL TP 19 #[Pt p,.string n] w fun r w'=>∃q ow,r=.tuple #[Pt q,.bool true]∧yw w' q ow t.s t.r∧(∀b∈ow,w.heap.size≤b)∧zl [] w w':=by
 obtain⟨m,L,rfl,h⟩:=hC
 obtain⟨y,hf,rfl⟩:∃y,yB L n=some y∧y.tb=t:=by
  rw[h.l.at]at ha
  cases hf:yB L n with
  |none=>rw[hf]at ha;cases ha
  |some y=>rw[hf]at ha;exact⟨y,rfl,Option.some.inj ha⟩
 refine A2 Tryz.func19 U U ?_
 refine Sr (Oa U (Oa U (E2 0 1 U (zd (Sr (Om U (Og (zan zng U U) U (E3 0 1 9 U (zb U (zk (Sr (Om U ?_))))))))))))
 refine Og (zp U) U (Od zat U (Ol zdu U (h.blk.cell' (i:=0) U) (Om U ?_)))
 refine Oc zhN U U U (zec h.map hf) ?_
 rintro v16 w16⟨rfl,rfl⟩
 refine Om U (Oe U U (Oe U U (Oa U (Oa U (E2 6 7 U (Sr (Om U ?_)))))))
 refine Oc zvj U U U (zsl y.q y.ow y.s y.r _ (h.l.tabs y (yX hf).1)) ?_
 rintro v20 w20⟨t',own',rfl,ht,-,ho,c20⟩
 refine Om U (Oa U (Oa U (E2 4 5 U (zh ?_))))
 refine zbX U U U ?_
 exact⟨t',own',U,ht,ho,c20⟩
end
section
variable {w w':Wl} {p m:Nat} {L:List CE} {c d:Cat} {n:By} {own:List Nat}
theorem Kc.iter{K:Type}[DecidableEq K]{κ:zjl K}{r b:Nat}{es left:List (K×Va)}{last:Option (K×Va)}(hc:zl [r] w w')(h:ziJ κ w r b es left last):Kc w w':=fun k t e f hk=>by
 refine(hc.block k (Array.getElem?_eq_some_iff.1 hk).1 fun hm=>?_).trans hk
 simp at hm
 subst hm
 obtain⟨_,_,_,h1,_⟩:=h
 rw[hk]at h1
 cases h1
structure zqp(w0 w:Wl)(L L':List CE)(left:List (By×Va)):Prop where
 tabs:∀x∈L',yw w x.q x.ow x.s x.r
 apart:zoD L'
 fresh:∀b∈owL L',w0.heap.size≤b
 perm:(L'.map (·.n)++left.map (·.1)).Perm (L.map (·.n))
 same:∀x∈L',∃y∈L,x.tb=y.tb
theorem zqp.done{w0:Wl}{L':List CE}(h:zaB w0 L c)(k:zqp w0 w L L' []):zaB w L' c:=by
 have hp:(L'.map (·.n)).Perm (L.map (·.n)):=by simpa using k.perm
 refine⟨k.tabs,k.apart,hp.nodup_iff.2 h.names,fun t=>?_,h.ok⟩
 rw[←h.mem]
 constructor
 ·intro ht
  obtain⟨x,hx,rfl⟩:=List.mem_map.1 ht
  obtain⟨y,hy,e⟩:=k.same x hx
  rw[e]
  exact List.mem_map.2 ⟨y,hy,U⟩
 intro ht
 obtain⟨y,hy,rfl⟩:=List.mem_map.1 ht
 obtain⟨x,hx,e⟩:=List.mem_map.1 (hp.mem_iff.2 (List.mem_map.2 ⟨y,hy,rfl⟩))
 obtain⟨z,hz,e2⟩:=k.same x hx
 have:z=y:=h.uniq hz hy ((congrArg Tb.n e2).symm.trans e)
 rw[←this,←e2]
 exact List.mem_map.2 ⟨x,hx,U⟩
theorem zoz(hC:zaj w p own c):zL TP 11 #[Pt p] w fun r w'=>∃p' own',r=Pt p'∧zaj w' p' own' c∧(∀b∈own',w.heap.size≤b)∧zl [] w w':=by
 obtain⟨m,L,rfl,h⟩:=hC
 refine A1 Tryz.func11 U U ?_
 refine Sr (Oa U (E1 0 U (zd (Sr (Om U (Og (zan zng U U) U (E2 0 7 U (zb U (zk (Sr ?_))))))))))
 refine Oc ztX U U U (znl _ h.nn) ?_
 rintro v8 w8⟨p',m',rfl,hN,hp',hm',c8⟩
 refine Oa U (E2 0 3 U ?_)
 have h8:=h.chg0 c8
 have hNp:Lw.n≤p':=Nat.le_trans h.nn hp'
 have hNm:Lw.n≤m':=Nat.le_trans h.nn hm'
 refine zd (Sr (Om U (Og (zp U) U (Od zat U (Ol zdu U (h8.blk.cell' (i:=0) U) ?_)))))
 refine Oq (zfP zd3 U h8.map U ?_)
 intro b13 w13 e13 n13 c13 k13
 refine E2 3 13 U ?_
 have hb13:w.heap.size≤b13∧m<b13∧p'<b13∧m'<b13:=by
  have:=h.map.lt
  have:=c8.size
  have:=hN.blk.lt
  have:=hN.map.lt
  omega
 obtain⟨hb1,hb2,hb3,hb4⟩:=hb13
 have hmm:m≠m':=by
  have:=h.map.lt
  omega
 refine zu ?_
 refine zX [3,13] (fun kk F wx=>∃(L':List CE) (left:List (By×Va)) (last:Option (By×Va)),kk=left.length∧F=[(3,Pt p'),(13,Pt b13)]∧ziJ zbo wx b13 m (L.map CE.en) left last∧zK wx p' 83 [.map (some m')]∧zY zbo wx m' (L'.map CE.en)∧zqp w wx L L' left∧zl [] w wx) (m:=(L.map CE.en).length) ⟨[],_,none,rfl,rfl,k13,hN.blk.chg0 c13,hN.map.chg0 c13,⟨by simp,List.Pairwise.nil,by simp[owL],by simp[List.map_map,Function.comp_def,CE.en],by simp⟩,c8.trans c13⟩ ?_
 rintro kk F wx⟨L',left,last,rfl,rfl,hit,hblk,hmap,hcp,hcx⟩
 refine zd ?_
 cases hleft:left with
 |nil=>
  refine za ?_
  refine Oq (zc0 U hit U (fun _=>?_) (fun q l1 l2 w' h=>absurd (hleft.symm.trans h) (by simp)))
  skip
  refine Oe U U (E3 3 13 15 U (zd (zb U ?_)))
  refine zI ?_
  repeat first|refine te ?_|refine bo rfl ?_
  refine zt _ ?_
  subst hleft
  refine Sr (Om U (Oa U (E1 2 U (zh ?_))))
  refine zx U U ?_
  refine⟨p',p'::m'::owL L',U,⟨m',L',U,hblk,hmap,hcp.done h.l,hNp,hNm⟩,fun b hb=>?_,hcx⟩
  rcases List.mem_cons.1 hb with rfl|hb
  ·exact hp'
  rcases List.mem_cons.1 hb with rfl|hb
  ·exact hm'
  exact hcp.fresh b hb
 |cons q0 l0=>
  refine za ?_
  refine Oq (zc0 U hit U (fun h=>absurd (hleft.symm.trans h) (by simp)) ?_)
  intro q l1 l2 w14 e14 n14 c14 k14
  refine Oe U U (E3 3 13 15 U ?_)
  have hq:q∈L.map CE.en:=by
   obtain⟨_,_,_,_,_,_,_,hsub,_⟩:=hit
   exact hsub q (by rw[e14];simp)
  obtain⟨y,hy,rfl⟩:=List.mem_map.1 hq
  refine zd (zf U (zk (zu (Sr (Og (zfL U k14) U (Oe U U (Oe U U (Oa U (Oa U (E4 3 4 5 13 U ?_))))))))))
  have hc14:=hcx.own c14 (by intro b hb;simp at hb;omega)
  have hit14:=k14
  have hblk14:=hblk.chg c14 (by simp;omega)
  have hmap14:=hmap.chg c14 (by simp;omega)
  have hd:zl [] w14 w14.drew:=zl.drew [] _
  refine zN (fun wz=>zl [] w14 wz) mix (by kernel_rfl) hd ?_
  refine Tm U (Tp (fun _=>zp U) U (Td zat U (Tr (fun wz hz=>zj zdu U ((hblk14.chg0 hz).cell' (i:=0) U)) U (Tm U (Tm U ?_)))))
  refine Tc zvj U U U (zsl y.q y.ow y.s y.r _ ((h.l.tabs y hy).chg0 (hc14.trans hd))) ?_
  rintro v25 w25⟨t',ow',rfl,ht',-,ho',c25⟩
  refine⟨.inl (hd.trans c25),?_⟩
  refine za4 U (gn U) (zh1 (κ:=zbo) zd3 (yN st9) U U U ((hmap14.chg0 hd).chg0 c25) ?_)
  intro wA nA cA kA
  refine⟨.inr (by kernel_rfl),?_⟩
  refine zdX [3,13] (F':=[(3,_),(13,_)]) U ?_
  have hc25:=hd.trans c25
  have hcA:zl [m'] w14 wA:=(hc25.any (S:=[m'])).transS cA
  have hperm:(L'.map (·.n)++(y.n::(l1++l2).map (·.1))).Perm (L.map (·.n)):=by
   refine(List.Perm.append_left _ ?_).trans hcp.perm
   rw[e14,List.map_append,List.map_append,List.map_cons]
   exact List.perm_middle.symm
  have hnot:y.n∉L'.map (·.n):=fun hm=>by
   have h1:=hperm.nodup_iff.2 h.l.names
   rw[List.nodup_append]at h1
   exact h1.2.2 y.n hm y.n (by simp) U
  have hk0:zar (L'.map CE.en) y.n=none:=by
   rw[zaO]
   cases hf:yB L' y.n with
   |none=>rfl
   |some z=>
    obtain⟨h1,h2⟩:=yX hf
    exact absurd (List.mem_map.2 ⟨z,h1,h2⟩) hnot
  have kA':zY zbo wA m' (zb3 (L'.map CE.en) y.n (Pt t')):=kA
  rw[zgG hk0]at kA'
  have hs14:=hc14.size
  have hsd:=hd.size
  have hfr:∀b∈ow',w.heap.size≤b:=fun b hb=>by have:=ho' b hb;omega
  have hpm':p'≠m':=fun e=>by subst e;exact hmap.ne hblk rfl
  refine zn ?_
  refine⟨l1.length+l2.length,by rw[←hleft,e14];simp,L'++[⟨y.n,t',ow',y.s,y.r⟩],l1++l2,_,by simp,rfl,hit14.chg hcA (by simp;omega) (by simp;omega),hblk14.chg hcA (by simpa using hpm'),?_,?_,hc14.own hcA (by intro b hb;simp at hb;omega)⟩
  ·rw[List.map_append]
   exact kA'
  have hold:∀x∈L',yw w14 x.q x.ow x.s x.r:=fun x hx=>(hcp.tabs x hx).kc (Kc.iter c14 hit)
  have hnot':∀{W:Wl} {q:Nat} {ow:List Nat} {s:yx} {r:LV},yw W q ow s r→zY zbo W m' (L'.map CE.en)→∀b∈ow,b∉[m']:=fun ht hM b hb hm=>by
   obtain⟨_,_,_,h1⟩:=ht.pages b hb
   simp at hm
   subst hm
   exact hM.ne h1 U
  refine⟨fun x hx=>?_,?_,fun b hb=>?_,?_,fun x hx=>?_⟩
  ·rcases List.mem_append.1 hx with hx|hx
   ·exact((hold x hx).chg0 hc25).hm (hnot' ((hold x hx).chg0 hc25) (hmap14.chg0 hc25)) (Hm.map (hmap14.chg0 hc25)) cA
   simp at hx
   subst hx
   exact ht'.hm (hnot' ht' (hmap14.chg0 hc25)) (Hm.map (hmap14.chg0 hc25)) cA
  ·refine List.pairwise_append.2 ⟨hcp.apart,List.pairwise_singleton _ _,fun a ha z hz b hb hm=>?_⟩
   simp at hz
   subst hz
   have h1:=(hold a ha).lt b hb
   have h2:=ho' b hm
   omega
  ·obtain⟨z,hz,hbz⟩:=zaW.1 hb
   rcases List.mem_append.1 hz with hz|hz
   ·exact hcp.fresh b (zaW.2 ⟨z,hz,hbz⟩)
   simp at hz
   subst hz
   exact hfr b hbz
  ·rw[List.map_append,List.append_assoc]
   exact hperm
  rcases List.mem_append.1 hx with hx|hx
  ·exact hcp.same x hx
  simp at hx
  subst hx
  exact⟨y,hy,U⟩
end
section
variable {w w':Wl} {p m p2 m2:Nat} {L L2:List CE} {c d:Cat} {n:By} {own own2:List Nat}
theorem ztw(hc:zaJ c)(hd:zaJ d)(hl:d.length≤c.length)(hs:∀t∈c,t∈d):c=d:=by
 have e:c=d.filter fun t=>c.any fun u=>decide (u=t):=hc.srt.ext (hd.srt.sublist List.filter_sublist) fun t=>by
  rw[List.mem_filter]
  constructor
  ·intro ht
   exact⟨hs t ht,List.any_eq_true.2 ⟨t,ht,by simp⟩⟩
  rintro⟨_,h2⟩
  obtain⟨u,hu,he⟩:=List.any_eq_true.1 h2
  rw[←of_decide_eq_true he]
  exact hu
 have h0:=congrArg List.length e
 have h1:=List.length_filter_le (fun t=>c.any fun u=>decide (u=t)) d
 exact e.trans (List.filter_eq_self.2 (List.length_filter_eq_length_iff.1 (by omega)))
theorem zzo(h:zcA w p m L c)(h2:zcA w p2 m2 L2 d) :
 zL TP 36 #[.map (some m),.map (some m2),.func (.func 37) #[] #[]] w fun r w'=>r=.bool (decide (c=d))∧zl [] w w':=by
 have hl1:(L.map CE.en).length=c.length:=by rw[List.length_map,h.l.len]
 have hl2:(L2.map CE.en).length=d.length:=by rw[List.length_map,h2.l.len]
 refine A3 Tryz.func36 U U ?_
 refine Sr (Oa U (E3 0 1 2 U (zd (zd ?_))))
 by_cases hlen:c.length=d.length
 ·refine za (Om U (Og (zd9 (κ:=zbo) zd3 U h.map) U (Om U (Og (zd9 (κ:=zbo) zd3 U h2.map) U ?_))))
  refine Og (vf (zZ U U) (zb6 (by omega))) U ?_
  refine E4 0 1 2 15 U (zb U (zk (zd (Sr (Om U ?_)))))
  refine Oq (zfP zd3 U h.map U ?_)
  intro b17 w17 e17 n17 c17 k17
  refine E3 1 2 17 U ?_
  have hmlt:=h.map.lt
  refine zu ?_
  refine zX [1,2,17] (fun kk F wx=>∃(left:List (By×Va)) (last:Option (By×Va)),kk=left.length∧F=[(1,.map (some m2)),(2,.func (.func 37) #[] #[]),(17,Pt b17)]∧ziJ zbo wx b17 m (L.map CE.en) left last∧(∀x∈L,x.en∈left∨x.tb∈d)∧zl [] w wx) (m:=(L.map CE.en).length) ⟨_,none,U,U,k17,fun x hx=>.inl (List.mem_map.2 ⟨x,hx,U⟩),c17⟩ ?_
  rintro kk F wx⟨left,last,rfl,rfl,hit,hall,hcx⟩
  refine zd ?_
  cases hleft:left with
  |nil=>
   refine za ?_
   refine Oq (zc0 U hit U (fun _=>?_) (fun q l1 l2 w' h=>absurd (hleft.symm.trans h) (by simp)))
   skip
   refine Oe U U (E4 1 2 17 19 U (zd (zb U ?_)))
   refine zI ?_
   repeat first|refine te ?_|refine bo rfl ?_
   refine zt _ ?_
   subst hleft
   refine Sr (Oa U (E1 6 U (zh ?_)))
   refine zx U U ?_
   have:c=d:=ztw h.l.ok h2.l.ok (by omega) fun t ht=>by
    obtain⟨x,hx,rfl⟩:=List.mem_map.1 ((h.l.mem t).2 ht)
    rcases hall x hx with h1|h1
    ·cases h1
    exact h1
   exact⟨by rw[dt this],hcx⟩
  |cons q0 l0=>
   refine za ?_
   refine Oq (zc0 U hit U (fun h=>absurd (hleft.symm.trans h) (by simp)) ?_)
   intro q l1 l2 w18 e18 n18 c18 k18
   refine Oe U U (E4 1 2 17 19 U ?_)
   have hq:q∈L.map CE.en:=by
    obtain⟨_,_,_,_,_,_,_,hsub,_⟩:=hit
    exact hsub q (by rw[e18];simp)
   obtain⟨y,hy,rfl⟩:=List.mem_map.1 hq
   have hyc:y.tb∈c:=(h.l.mem _).1 (List.mem_map.2 ⟨y,hy,rfl⟩)
   refine zd (zf U (zk (zu (Sr (Og (zfL U k18) U (Oe U U (Oe U U (Oa U (Oa U (E5 1 2 7 8 17 U ?_))))))))))
   have hc18:=hcx.own c18 (by intro b hb;simp at hb;omega)
   have h18:=h2.chg0 hc18
   have hbad:y.tb∉d→∀{W:Wl},zl [] w W→((fun(r:Va) w'=>r=.bool (decide (c=d))∧zl [] w w') (.bool false) W):=fun hn W hW=>⟨by rw[df (show c≠d from fun e=>hn (by rw[←e];exact hyc))],hW⟩
   refine zd ?_
   cases hf:yB L2 y.n with
   |none=>
    refine za (Om U (Om U ?_))
    refine Og (zck (κ:=zbo) zd3 (yN st9) zjk U U h18.map (show zar _ _=none by rw[zaO];show (yB L2 y.n).map _=none;rw[hf];rfl)) U ?_
    refine Om U (Oe U U (Oe U U (Oa U (Oa U (E6 1 2 8 9 10 17 U (Sr (Om U (Og (zE U) U (Om U (Oz U U (Oz U U (Oz U U (Oz U U (Oz U U ?_))))))))))))))
    refine Ot U (E4 1 2 17 37 U (zf U (Sr (Oa U (E1 6 U (zh ?_))))))
    repeat first|refine tr ?_|refine br ?_
    refine zx U U ?_
    refine hbad (fun hm=>?_) hc18
    obtain⟨z,hz,e⟩:=List.mem_map.1 ((h2.l.mem _).2 hm)
    exact zdr hf z hz (congrArg Tb.n e)
   |some z=>
    obtain⟨hz,hzn⟩:=yX hf
    by_cases hsame:y.s=z.s∧y.r=z.r
    ·refine za (Om U (Om U ?_))
     refine Og (zck (κ:=zbo) zd3 (yN st9) zjk U U h18.map (show zar _ _=some z.pt by rw[zaO];show (yB L2 y.n).map _=some z.pt;rw[hf];rfl)) U ?_
     refine Om U (Oe U U (Oe U U (Oa U (Oa U (E6 1 2 8 9 10 17 U (Sr (Om U (Og (zE U) U (Om U (Oj U U (Oj U U (Oj U U ?_))))))))))))
     refine Ow U U zw9 U U U (zqR y.q z.q y.ow z.ow y.s z.s y.r z.r _ ((h.l.tabs y hy).chg0 hc18) (h18.l.tabs z hz)) ?_
     rintro v35 w35⟨e35,c35⟩
     rw[dt hsame.1,dt hsame.2]at e35
     subst e35
     refine Oy U U (zE U) (Of U (E4 1 2 17 37 U (zb U (z0 (zn ?_)))))
     refine⟨l1.length+l2.length,by rw[←hleft,e18];simp,l1++l2,_,by simp,rfl,k18.chg c35 (by simp) (by simp),fun x hx=>?_,hc18.trans c35⟩
     rcases hall x hx with h1|h1
     ·rw[e18]at h1
      rcases List.mem_append.1 h1 with h1|h1
      ·exact .inl (List.mem_append_left _ h1)
      rcases List.mem_cons.1 h1 with h1|h1
      ·obtain rfl:=h.l.uniq hx hy (congrArg Prod.fst h1)
       refine .inr ((h2.l.mem _).1 (List.mem_map.2 ⟨z,hz,?_⟩))
       show Tb.mk z.n z.s z.r=Tb.mk x.n x.s x.r
       rw[hzn,hsame.1,hsame.2]
      exact .inl (List.mem_append_right _ h1)
     exact .inr h1
    have hsf:(decide (y.s=z.s) && decide (y.r=z.r))=false:=by
     cases hb:decide (y.s=z.s) && decide (y.r=z.r) with
     |false=>rfl
     |true=>
      simp only[Bool.and_eq_true,decide_eq_true_eq]at hb
      exact absurd hb hsame
    refine za (Om U (Om U ?_))
    refine Og (zck (κ:=zbo) zd3 (yN st9) zjk U U h18.map (show zar _ _=some z.pt by rw[zaO];show (yB L2 y.n).map _=some z.pt;rw[hf];rfl)) U ?_
    refine Om U (Oe U U (Oe U U (Oa U (Oa U (E6 1 2 8 9 10 17 U (Sr (Om U (Og (zE U) U (Om U (Oj U U (Oj U U (Oj U U ?_))))))))))))
    refine Ow U U zw9 U U U (zqR y.q z.q y.ow z.ow y.s z.s y.r z.r _ ((h.l.tabs y hy).chg0 hc18) (h18.l.tabs z hz)) ?_
    rintro v35 w35⟨e35,c35⟩
    rw[hsf]at e35
    subst e35
    refine Oy U U (zE U) (Of U (E4 1 2 17 37 U (zf U (Sr (Oa U (E1 6 U (zh ?_)))))))
    repeat first|refine tr ?_|refine br ?_
    refine zx U U ?_
    refine hbad (fun hm=>?_) (hc18.trans c35)
    obtain⟨z2,hz2,e⟩:=List.mem_map.1 ((h2.l.mem _).2 hm)
    have:z2=z:=h2.l.uniq hz2 hz ((congrArg Tb.n e).trans hzn.symm)
    subst this
    exact hsame ⟨(congrArg Tb.s e).symm,(congrArg Tb.r e).symm⟩
 refine za (Om U (Og (zd9 (κ:=zbo) zd3 U h.map) U (Om U (Og (zd9 (κ:=zbo) zd3 U h2.map) U ?_))))
 refine Og (vt (zZ U U) (zet (by omega))) U ?_
 refine E4 0 1 2 15 U (zf U (Sr (Oa U (E1 6 U (zh ?_)))))
 repeat first|refine tr ?_|refine br ?_
 refine zx U U ?_
 exact⟨by rw[df fun e=>hlen (by rw[e])],zl.refl _ _⟩
theorem zt4(hC:zaj w p own c)(hD:zaj w p2 own2 d) :
 zL TP 14 #[Pt p,Pt p2] w fun r w'=>r=.bool (decide (c=d))∧zl [] w w':=by
 obtain⟨m,L,rfl,h⟩:=hC
 obtain⟨m2,L2,rfl,h2⟩:=hD
 refine A2 Tryz.func14 U U ?_
 refine Sr (Oa U (E2 0 1 U (zd (Sr (Om U (Og (zan zng U U) U (Om U (Oj U U (Oy U U (zan zng U U) (Of U (E3 0 1 10 U (zb U (zk ?_)))))))))))))
 have hd:zl [] w w.drew:=zl.drew [] _
 refine zd ?_
 refine zN (fun wz=>zl [] w wz) mix (by kernel_rfl) hd ?_
 refine Tm U (Tp (fun _=>zp U) U (Td zat U (Tr (fun wz hz=>zj zdu U ((h.blk.chg0 hz).cell' (i:=0) U)) U (Tm U (Tp (fun _=>zp U) U (Td zat U (Tr (fun wz hz=>zj zdu U ((h2.blk.chg0 hz).cell' (i:=0) U)) U ?_)))))))
 refine Tc zzR U U U (zzo (h.chg0 hd) (h2.chg0 hd)) ?_
 rintro v25 w25⟨rfl,c25⟩
 refine⟨.inl (hd.trans c25),?_⟩
 refine Ta U (D1 4 U (zh ?_))
 refine zx U U ?_
 exact⟨U,hd.trans c25⟩
end
section
variable {c:Cat}
theorem zeb(c:Cat)(x:EvT)(l:List EvT):zdL c (x::l)=zdL (doC c x) l:=rfl
theorem zjU(c:Cat)(l:List EvT)(x:EvT):zdL c (l++[x])=doC (zdL c l) x:=by simp[zdL]
theorem zmy:∀{l:List EvT} {c:Cat} {i j:Nat} {x:EvT},l[j]? = some x→(∀k y,k<j→l[k]? = some y→doE (zdL c (l.take k)) y=0)→doE (zdL c (l.take j)) x≠0→zek c l i=(i+j,doE (zdL c (l.take j)) x)
 |[],_,_,_,_,h,_,_=>by simp at h
 |y::l,c,i,0,x,h,_,h0=>by
  simp at h
  subst h
  have h0:doE c y≠0:=h0
  unfold zek
  rw[if_pos h0]
  rfl
 |y::l,c,i,j+1,x,h,hk,h0=>by
  have hy:doE c y=0:=hk 0 y (by omega) rfl
  unfold zek
  rw[if_neg (by simp[hy])]
  rw[zmy (c:=doC c y) (i:=i+1) (j:=j) (x:=x) (by simpa using h) (fun k z hkj hz=>by
   have:=hk (k+1) z (by omega) (by simpa using hz)
   rwa [List.take_succ_cons,zeb]at this) (by rwa [List.take_succ_cons,zeb]at h0)]
  rw[List.take_succ_cons,zeb]
  congr 1
  omega
theorem zn8:∀{l:List EvT} {c:Cat} {i:Nat},(∀k y,l[k]? = some y→doE (zdL c (l.take k)) y=0)→zek c l i=(0,0)
 |[],_,_,_=>rfl
 |y::l,c,i,hk=>by
  have hy:doE c y=0:=hk 0 y rfl
  unfold zek
  rw[if_neg (by simp[hy])]
  exact zn8 fun k z hz=>by
   have:=hk (k+1) z (by simpa using hz)
   rwa [List.take_succ_cons,zeb]at this
end
section
variable {w w':Wl} {p m:Nat} {L:List CE} {c:Cat} {own:List Nat} {v:Va} {xs:List EvT}
theorem zv0(hE:EOk w)(hC:zaj w p own c)(hL:zdd w v xs)(hm:∀x∈xs,zce x)(hn:xs.length≤1048576) :
 zL TP 16 #[Pt p,v] w fun r w'=>r=.tuple #[Ii (zek c xs 0).1,Ii (zek c xs 0).2]∧zl [p] w w'∧∃own',zaj w' p own' (zkv c xs)∧∀b∈own',b∈own∨w.heap.size≤b:=by
 obtain⟨pv,cv,rfl,hcv⟩:=hL.val
 refine A2 Tryz.func16 U U ?_
 refine Sr (Oa U (Oa U (E2 0 1 U (zd (Sr (Om U (Og (zan zng U U) U (E3 0 1 11 U (zb U (zk (Sr (Om U ?_))))))))))))
 refine Oc zvw U U U (zoz hC) ?_
 rintro v13 w13⟨p',own',rfl,hD,ho',c13⟩
 refine Oa U (E3 0 1 6 U (zd (Sr (Om U (On zfS U (Om U (E5 0 6 14 15 16 U (zu ?_))))))))
 refine zX [0,6,14,15,16] (fun kk F wx=>∃(j:Nat) (ow:List Nat),kk=xs.length-j∧j≤xs.length∧F=[(0,Pt p),(6,Pt p'),(14,.slice pv xs.length cv),(15,Ii xs.length),(16,Ii j)]∧zaj wx p' ow (zdL c (xs.take j))∧(∀b∈ow,w.heap.size≤b)∧(∀k y,k<j→xs[k]? = some y→doE (zdL c (xs.take k)) y=0)∧zl [] w wx) (m:=xs.length-0) ⟨0,own',rfl,Nat.zero_le _,rfl,hD,ho',(by intro k y hk;omega),c13⟩ ?_
 rintro kk F wx⟨j,ow,rfl,hj,rfl,hDx,how,hok,hcx⟩
 refine zd ?_
 by_cases hlt:j<xs.length
 ·refine za ?_
  refine Og (vt (zF U U) (by simp;omega)) U ?_
  refine E6 0 6 14 15 16 17 U (zd (zf U (zk ?_)))
  have hx:xs[j]? = some xs[j]:=by simp[hlt]
  have htk:=List.take_succ_eq_append_getElem hlt
  have hmem:=List.getElem_mem hlt
  generalize xs[j]=x at hx htk hmem
  obtain⟨b,off,cap,e,hve,hcell,hxe⟩:=(hL.chg0 hcx).at hx
  cases hve
  have hlen:=zhU x e
  refine zd (zu (Sr (Om U ?_)))
  refine Og (zm zfS yy U U _ U hlt) U ?_
  refine Og (zg zaI yy U hlen hcell) U ?_
  refine Oq (zD ze2 U U ?_)
  intro b8 w8 e8 n8 c8 k8
  refine Oa U ?_
  refine Oq (zv yy U U U U k8 (by simp[evC]) hxe.one ?_)
  intro wA nA cA kA
  refine E7 0 6 7 8 14 15 16 U ?_
  have kA:zK wA b8 39 (evC x e):=kA
  have hcA:zl [] wx wA:=c8.own cA (by intro y hy;simp at hy;omega)
  have hcw:=hcx.trans hcA
  have hDA:=hDx.chg0 hcA
  have hHm:=hDA.hmO
  refine zd ?_
  by_cases he0:doE (zdL c (xs.take j)) x=0
  ·refine za (Om U (Og (zg zaI yy U U (zB.of_blk0 kA)) U ?_))
   refine Oc zhS U U U (zpV (hE.chg0 hcw) hDA (hxe.chg0 hcA) (hm x hmem)) ?_
   rintro v23 w23⟨rfl,c23,ow',hD',how'⟩
   refine Oa U (E7 0 6 7 9 14 15 16 U (Sr (Om U (Og (vf (zZ U U) (zb6 he0)) U (E8 0 6 7 9 14 15 16 25 U (zb U (z0 (zn (za ?_)))))))))
   refine Og (zG U U (by omega)) U ?_
   refine Om U (N5 0 6 14 15 16 U ?_)
   refine⟨xs.length-(j+1),by omega,j+1,ow',rfl,by omega,rfl,?_,fun b hb=>?_,fun k y hk hy=>?_,hcw.own c23 (fun b hb=>how b hb)⟩
   ·rw[htk,zjU]
    exact hD'
   ·rcases how' b hb with h1|h1
    ·exact how b h1
    exact Nat.le_trans hcw.size h1
   by_cases hkj:k=j
   ·subst hkj
    rw[hx]at hy
    cases hy
    exact he0
   exact hok k y (by omega) hy
  refine za (Om U (Og (zg zaI yy U U (zB.of_blk0 kA)) U ?_))
  refine Oc zhS U U U (zpV (hE.chg0 hcw) hDA (hxe.chg0 hcA) (hm x hmem)) ?_
  rintro v23 w23⟨rfl,c23,ow',hD',how'⟩
  refine Oa U (E7 0 6 7 9 14 15 16 U (Sr (Om U (Og (vt (zZ U U) (zet he0)) U (E8 0 6 7 9 14 15 16 25 U (zf U (Sr (Om U (Om U (Oa U (Oa U (E2 4 5 U (zh ?_)))))))))))))
  repeat first|refine tr ?_|refine br ?_
  refine zbX U U U ?_
  have he:=zmy (i:=0) hx hok he0
  have hcf:zl [] w w23:=hcw.own c23 (fun b hb=>how b hb)
  refine⟨by rw[he];simp,hcf.any,own,?_,fun b hb=>.inl hb⟩
  unfold zkv
  rw[he,if_neg he0]
  exact hC.chg0 hcf
 refine za ?_
 refine Og (vf (zF U U) (by simp;omega)) U ?_
 refine E6 0 6 14 15 16 17 U (zd (zb U ?_))
 refine zI ?_
 repeat first|refine te ?_|refine bo rfl ?_
 refine zt _ ?_
 have hjl:j=xs.length:=by omega
 subst hjl
 have he:=zn8 (i:=0) (fun k y hy=>hok k y (Gs hy).1 hy)
 rw[Tl (Nat.le_refl _)]at hDx
 obtain⟨m',L',rfl,h'⟩:=hDx
 obtain⟨m,L,rfl,h⟩:=hC
 have hx:=h.chg0 hcx
 refine Sr (Om U (Om U (Og (zp U) U (Od zat U (Ol zdu U (h'.blk.cell' (i:=0) U) (Og (zp U) U (Od zat U ?_)))))))
 refine Oq (zv zwR U U U U hx.blk (by simp) (by simp[Value.oneCell']) ?_)
 intro wD nD cD kD
 refine zac [] (F':=[]) U ?_
 have kD:zK wD p 83 [.map (some m')]:=kD
 refine Sr (Oa U (Oa U (E2 4 5 U (zh ?_))))
 refine zbX U U U ?_
 refine⟨by rw[he];rfl,(hcx.any).transS cD,p::m'::owL L',?_,fun b hb=>?_⟩
 ·unfold zkv
  rw[he,if_pos rfl]
  refine⟨m',L',U,kD,h'.map.chg cD (fun hb=>?_),h'.l.hm (fun y hy hm=>?_) (Hm.cat hx.blk hx.ge.1) cD,hx.ge.1,h'.ge.2⟩
  ·simp at hb
   subst hb
   exact h'.map.ne hx.blk U
  simp at hm
  subst hm
  obtain⟨_,_,_,hp⟩:=h'.l.pagesO y hy
  exact hp.ne hx.blk U U
 rcases List.mem_cons.1 hb with rfl|hb
 ·exact .inl (by simp)
 exact .inr (how b (List.mem_cons_of_mem _ hb))
end
end Go.Wk
