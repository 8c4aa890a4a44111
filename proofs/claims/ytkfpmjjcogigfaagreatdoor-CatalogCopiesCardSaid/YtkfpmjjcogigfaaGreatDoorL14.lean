/- joined texts -/
import Derived.Test.YtkfpmjjcogigfaaGreatDoorL13
set_option linter.all false
namespace Go.Wk
open Go.Proofs
set_option linter.unusedSectionVars false
variable [Lw]
set_option maxRecDepth 10000
section
variable {c:Cat} {x:EvT} {t:Tb}
theorem zzk(hr:z6 x=true)(hk:x.k=4):doE c x=match atC c x.t with|none=>if 12≤c.length then 3 else 0|some _=>220:=by
 unfold doE
 rw[if_neg (by simp[hr]),if_neg (by omega)]
 cases atC c x.t with
 |none=>exact if_pos hk
 |some t=>exact if_pos hk
theorem zxg(hk:x.k=4)(he:doE c x=0):doC c x=zcy c ⟨x.t,x.s,[]⟩:=by
 unfold doC
 rw[if_neg (by simp[he]),if_neg (by omega),if_pos hk]
theorem zCL(hr:z6 x=true)(hk:x.k=5):doE c x=match atC c x.t with|none=>5|some _=>0:=by
 unfold doE
 rw[if_neg (by simp[hr]),if_neg (by omega)]
 cases atC c x.t with
 |none=>exact if_neg (by omega)
 |some t=>exact(if_neg (by omega)).trans (if_pos hk)
theorem zw8(hk:x.k=5)(he:doE c x=0):doC c x=zb4 c x.t:=by
 unfold doC
 rw[if_neg (by simp[he]),if_neg (by omega),if_neg (by omega),if_pos hk]
end
section
variable {w w':Wl} {p m:Nat} {L:List CE} {c:Cat} {x:EvT} {y:CE} {e:EvV} {r:Va} {n:By}
theorem zdo.notO(h:zdo w p m L c):∀b∈owL L,b≠p∧b≠m:=fun b hb=>by
 obtain⟨x,hx,hb⟩:=zbH.1 hb
 obtain⟨_,_,_,hp⟩:=(h.l.tabs x hx).pages b hb
 exact⟨hp.ne h.blk U,fun e=>h.map.ne hp e.symm⟩
theorem zgd.zero(h:zgd w r 0):r=.nilIface:=by
 rcases h with⟨h,_⟩|⟨_,h⟩
 ·exact h
 exact absurd U h
theorem zrs(hE:EOk w)(h:zdo w p m L c)(hx:zbj w e x)(hm:zcY x)(hr:z6 x=true)(hk:x.k=4) :
 zS TP 66 #[Pt p,.agg (evC x e).toArray] w (DoR w p (p::m::owL L) c x):=by
 refine A2 Tryz.func66 U U ?_
 refine Sr ?_
 refine Ob U U ?_
 intro b3 w3 e3 n3 c3 k3
 refine Oa U (E2 0 3 U ?_)
 have k3:zO w3 b3 39 (evC x e):=k3
 have h3:=h.chg0 c3
 have hd:zk [] w3 w3.drew:=zk.drew [] _
 refine zf ?_
 cases hf:zan L x.t with
 |some y=>
  refine zH (fun wz=>zk [] w3 wz) mix (by kernel_rfl) hd ?_
  refine Tm U (Tp (fun _=>zx U) U (Td za4 U (Tr (fun wz hz=>zg zej U ((h3.blk.chg0 hz).cell' (i:=0) U)) U (Td yd U (Tr (fun wz hz=>zg yI U ((k3.chg0 hz).cell' (i:=1) U)) U ?_)))))
  refine Tc ziZ U U U (ze5 (h3.map.chg0 hd) hf) ?_
  rintro v17 w17⟨rfl,rfl⟩
  refine⟨.inl hd,?_⟩
  refine Tm U (Tp (fun _=>zM U U) U (Tp (fun _=>zM U U) U (Ta U (Ta U (D3 0 3 6 U (zf (zp (Sr (Om U (Oa U (E3 0 3 20 U (ze U (Sr (Od yd U (Ol yI U ((k3.chg0 hd).cell' (i:=1) U) (Og (z5 zdU U) U ?_))))))))))))))))
  refine Og (zL zfU zfQ U (vs:=[_,_]) U (css:=[_,_]) ⟨U,U,Tt⟩ U U (cs:=[_,_]) U) U ?_
  refine Og (z5 zfT U) U (Oa U (E1 4 U (zj ?_)))
  repeat first|refine tr ?_|refine br ?_
  refine zw U U ?_
  exact DoR.no (h3.chg0 hd) (c3.trans hd) (by rw[zzk hr hk,h.l.at,hf];rfl) (by decide) (zjF _ _ _)
 |none=>
  have hat:atC c x.t=none:=by rw[h.l.at,hf];rfl
  refine zH (fun wz=>zk [] w3 wz) mix (by kernel_rfl) hd ?_
  refine Tm U (Tp (fun _=>zx U) U (Td za4 U (Tr (fun wz hz=>zg zej U ((h3.blk.chg0 hz).cell' (i:=0) U)) U (Td yd U (Tr (fun wz hz=>zg yI U ((k3.chg0 hz).cell' (i:=1) U)) U ?_)))))
  refine Tc ziZ U U U (zfk (h3.map.chg0 hd) hf) ?_
  rintro v17 w17⟨rfl,rfl⟩
  refine⟨.inl hd,?_⟩
  refine Tm U (Tp (fun _=>zM U U) U (Tp (fun _=>zM U U) U (Ta U (Ta U (D3 0 3 6 U ?_)))))
  have k4:=k3.chg0 hd
  have h4:=h3.chg0 hd
  have c4:=c3.trans hd
  have hs4:=hd.size
  generalize w3.drew=w4 at *
  have hlen:(L.map CE.en).length=c.length:=by rw[List.length_map,h.l.len]
  refine zf (zp (Sr (Om U (Oa U (E3 0 3 20 U (zb U (zf ?_)))))))
  by_cases h12:12≤c.length
  ·refine za (Om U (Og (zx U) U (Od za4 U (Ol zej U (h4.blk.cell' (i:=0) U) (Og (zfe (κ:=zbM) zeW U h4.map) U ?_)))))
   refine Og (vt (yc U U) (dt (by omega))) U ?_
   refine Oa U (E3 0 3 27 U (ze U (Sr (Od yd U (Ol yI U (k4.cell' (i:=1) U) (Og (z5 zdU U) U ?_))))))
   refine Og (zL zfU zfQ U (vs:=[_,_]) U (css:=[_,_]) ⟨U,U,Tt⟩ U U (cs:=[_,_]) U) U ?_
   refine Og (z5 zfT U) U (Oa U (E1 4 U (zj ?_)))
   repeat first|refine tr ?_|refine br ?_
   refine zw U U ?_
   exact DoR.no h4 c4 (by rw[zzk hr hk,hat];exact if_pos h12) (by decide) (zjF _ _ _)
  have he0:doE c x=0:=by rw[zzk hr hk,hat];exact if_neg h12
  refine za (Om U (Og (zx U) U (Od za4 U (Ol zej U (h4.blk.cell' (i:=0) U) (Og (zfe (κ:=zbM) zeW U h4.map) U ?_)))))
  refine Og (vf (yc U U) (df (by omega))) U ?_
  refine Oa U (E3 0 3 27 U (zb U (zT (zl (Sr (Od zbc U ?_))))))
  refine Og (zh zaX zaS U U (zv.of_blk k4 2 [e.c,e.ky,e.u] ⟨[e.o,e.n,e.m],U⟩)) U ?_
  refine Oc zB4 U U U (zyz e.c e.ky e.u x.s _ (hx.sch.chg0 c4) (zwV hr hk).2 h4.nn) ?_
  rintro v42 w42⟨t,own,rfl,hT,-,ho,c42,-⟩
  refine Om U (Oe U U (Oe U U (Oa U (Oa U (E4 0 3 7 8 U ?_)))))
  have k5:=k4.chg0 c42
  have h5:=h4.chg0 c42
  have c5:=c4.trans c42
  refine zf (Sr (Od yd U (Ol yI U (k5.cell' (i:=1) U) (Om U ?_))))
  refine Oc zpq U U U (zfz x.t 0 _) ?_
  rintro v48 w48⟨hz48,c48⟩
  obtain rfl:=hz48.zero
  refine Oa U (E4 0 3 7 9 U ?_)
  have k6:=k5.chg0 c48
  have h6:=h5.chg0 c48
  have c6:=c5.trans c48
  have hT6:=hT.chg0 c48
  refine Sr (Om U (Og (zbs zcE U U) U (E5 0 3 7 9 50 U (zb U (zm ?_)))))
  have hd6:zk [] w48 w48.drew:=zk.drew [] _
  refine zf ?_
  refine zH (fun wz=>zk [] w48 wz) mix (by kernel_rfl) hd6 ?_
  refine Tm U (Tp (fun _=>zx U) U (Td za4 U (Tr (fun wz hz=>zg zej U ((h6.blk.chg0 hz).cell' (i:=0) U)) U (Td yd U (Tr (fun wz hz=>zg yI U ((k6.chg0 hz).cell' (i:=1) U)) U (Tm U ?_))))))
  refine zaR U (gn U) (zje (κ:=zbM) zeW (zap st9) U U U (h6.map.chg0 hd6) ?_)
  intro wA nA cA kA
  refine⟨.inr (by kernel_rfl),?_⟩
  refine zhy [] (F':=[]) U ?_
  refine Sr (Oa U (E1 4 U (zj ?_)))
  refine zw U U ?_
  have hcA:zk [m] w48 wA:=(hd6.any (S:=[m])).transS cA
  have hpm:p∉[m]:=by
   intro hb
   simp at hb
   exact h6.map.ne h6.blk hb.symm
  have hw4:w.heap.size≤w4.heap.size:=c4.size
  have hnew:zbw w48 (L++[⟨x.t,t,own,x.s,[]⟩]) (zcy c ⟨x.t,x.s,[]⟩):=h6.l.new (x:=⟨x.t,t,own,x.s,[]⟩) hf hT6 (fun b hb hm=>by
   obtain⟨z,hz,hbz⟩:=zbH.1 hb
   have h1:=(h4.l.tabs z hz).lt b hbz
   have h2:=ho b hm
   omega) (by omega)
  refine⟨.inl ⟨rfl,he0⟩,(c6.any).trans' hcA (fun b hb=>.inl (by simp at hb;simp[hb])),p::m::owL (L++[⟨x.t,t,own,x.s,[]⟩]),?_,fun b hb=>?_⟩
  ·rw[zxg hk he0]
   refine⟨m,_,U,h6.blk.chg hcA hpm,?_,hnew.hm (fun b hb hm=>?_) (Hm.map h6.map h6.ge.2) hcA,h6.ge⟩
   ·rw[zg9 (by rw[zbD,hf];rfl)]at kA
    rw[List.map_append]
    exact kA
   simp at hm
   subst hm
   obtain⟨_,_,_,hp⟩:=hnew.pagesO b hb
   exact h6.map.ne hp U
  rcases Mc hb with rfl|hb
  ·exact .inl (by simp)
  rcases Mc hb with rfl|hb
  ·exact .inl (by simp)
  obtain⟨z,hz,hbz⟩:=zbH.1 hb
  rcases List.mem_append.1 hz with hz|hz
  ·exact .inl (by simp only[List.mem_cons];exact .inr (.inr (zbH.2 ⟨z,hz,hbz⟩)))
  simp at hz
  subst hz
  exact .inr (Nat.le_trans hw4 (ho b hbz))
theorem zvK(h:zdo w p m L c)(hr:z6 x=true)(hk:x.k=5) :
 zS TP 67 #[Pt p,.agg (evC x e).toArray] w (DoR w p (p::m::owL L) c x):=by
 refine A2 Tryz.func67 U U ?_
 refine Sr ?_
 refine Ob U U ?_
 intro b3 w3 e3 n3 c3 k3
 refine Oa U (E2 0 3 U ?_)
 have k3:zO w3 b3 39 (evC x e):=k3
 have h3:=h.chg0 c3
 have hd:zk [] w3 w3.drew:=zk.drew [] _
 refine zf (zf ?_)
 cases hf:zan L x.t with
 |none=>
  refine zH (fun wz=>zk [] w3 wz) mix (by kernel_rfl) hd ?_
  refine Tm U (Tp (fun _=>zx U) U (Td za4 U (Tr (fun wz hz=>zg zej U ((h3.blk.chg0 hz).cell' (i:=0) U)) U (Td yd U (Tr (fun wz hz=>zg yI U ((k3.chg0 hz).cell' (i:=1) U)) U ?_)))))
  refine Tc ziZ U U U (zfk (h3.map.chg0 hd) hf) ?_
  rintro v14 w14⟨rfl,rfl⟩
  refine⟨.inl hd,?_⟩
  refine Tm U (Tp (fun _=>zM U U) U (Tp (fun _=>zM U U) U (Ta U (Ta U (D3 0 3 6 U (Sr (Om U (Og (zC U) U (E3 0 3 18 U (ze U (Sr (Od yd U (Ol yI U ((k3.chg0 hd).cell' (i:=1) U) (Og (z5 zdU U) U ?_))))))))))))))
  refine Og (zL zfU zfQ U (vs:=[_,_]) U (css:=[_,_]) ⟨U,U,Tt⟩ U U (cs:=[_,_]) U) U ?_
  refine Og (z5 zfT U) U (Oa U (E1 4 U (zj ?_)))
  repeat first|refine tr ?_|refine br ?_
  refine zw U U ?_
  exact DoR.no (h3.chg0 hd) (c3.trans hd) (by rw[zCL hr hk,h.l.at,hf];rfl) (by decide) (zjF _ _ _)
 |some y=>
  have he0:doE c x=0:=by rw[zCL hr hk,h.l.at,hf];rfl
  refine zH (fun wz=>zk [] w3 wz) mix (by kernel_rfl) hd ?_
  refine Tm U (Tp (fun _=>zx U) U (Td za4 U (Tr (fun wz hz=>zg zej U ((h3.blk.chg0 hz).cell' (i:=0) U)) U (Td yd U (Tr (fun wz hz=>zg yI U ((k3.chg0 hz).cell' (i:=1) U)) U ?_)))))
  refine Tc ziZ U U U (ze5 (h3.map.chg0 hd) hf) ?_
  rintro v14 w14⟨rfl,rfl⟩
  refine⟨.inl hd,?_⟩
  refine Tm U (Tp (fun _=>zM U U) U (Tp (fun _=>zM U U) U (Ta U (Ta U (D3 0 3 6 U ?_)))))
  have k4:=k3.chg0 hd
  have h4:=h3.chg0 hd
  have c4:=c3.trans hd
  generalize w3.drew=w4 at *
  have hd4:zk [] w4 w4.drew:=zk.drew [] _
  refine Sr (Om U (Og (zC U) U (E3 0 3 18 U (zb U (zm (zf ?_))))))
  refine zH (fun wz=>zk [] w4 wz) mix (by kernel_rfl) hd4 ?_
  refine Tm U (Tp (fun _=>zx U) U (Td za4 U (Tr (fun wz hz=>zg zej U ((h4.blk.chg0 hz).cell' (i:=0) U)) U (Td yd U (Tr (fun wz hz=>zg yI U ((k4.chg0 hz).cell' (i:=1) U)) U ?_)))))
  refine zaR U (gn U) (zpI (κ:=zbM) zeW (zap st9) U U (h4.map.chg0 hd4) ?_)
  intro wA nA cA kA
  refine⟨.inr (by kernel_rfl),?_⟩
  refine zhy [] (F':=[]) U ?_
  refine Sr (Oa U (E1 4 U (zj ?_)))
  refine zw U U ?_
  have hcA:zk [m] w4 wA:=(hd4.any (S:=[m])).transS cA
  refine⟨.inl ⟨rfl,he0⟩,(c4.any).trans' hcA (fun b hb=>.inl (by simp at hb;simp[hb])),p::m::owL (zrf L x.t),?_,fun b hb=>.inl ?_⟩
  ·rw[zw8 hk he0]
   refine⟨m,_,rfl,h4.blk.chg hcA (fun hb=>by simp at hb;exact h4.map.ne h4.blk hb.symm),?_,(h4.l.less x.t).hm (fun b hb hm=>?_) (Hm.map h4.map h4.ge.2) hcA,h4.ge⟩
   ·rw[←zsB h.l.names]
    exact kA
   simp at hm
   subst hm
   exact(h4.notO b (zpm (fun z hz=>(List.mem_filter.1 hz).1) b hb)).2 U
  simp only[List.mem_cons]at hb ⊢
  rcases hb with hb|hb|hb
  ·exact .inl hb
  ·exact .inr (.inl hb)
  exact .inr (.inr (zpm (fun z hz=>(List.mem_filter.1 hz).1) b hb))
end
structure NmL(L:List CE)(q:Cat):Prop where
 names:(L.map (·.n)).Nodup
 mem:∀t,t∈L.map CE.tb↔t∈q
 srt:ze8 q
def zdq(L:List CE)(m:List (By×By)):List CE:=L.filter fun x => !(m.any fun p=>decide (p.1=x.n))
def zf9(L:List CE)(m:List (By×By)):List CE:=m.filterMap fun p=>(zan L p.1).map fun y=>{ y with n:=p.2 }
section
variable {w w':Wl} {L:List CE} {c q:Cat} {n:By} {x y z:CE} {m:List (By×By)} {p:By×By}
theorem NmL.at0(h:NmL L q)(hf:zan L n=none):atC q n=none:=by
 cases ha:atC q n with
 |none=>rfl
 |some t=>
  obtain⟨h1,h2⟩:=zdQ ha
  obtain⟨x,hx,rfl⟩:=List.mem_map.1 ((h.mem t).2 h1)
  exact absurd h2 (zep hf x hx)
theorem NmL.at1(h:NmL L q)(hf:zan L n=some y):atC q n=some y.tb:=by
 obtain⟨h1,rfl⟩:=zaL hf
 exact ztk h.srt ((h.mem y.tb).1 (List.mem_map.2 ⟨y,h1,U⟩))
theorem NmL.new(h:NmL L q)(hf:zan L z.n=none):NmL (L++[z]) (zcy q z.tb):=by
 refine⟨?_,fun t=>?_,h.srt.with z.tb⟩
 ·rw[List.map_append,List.nodup_append]
  refine⟨h.names,by simp,fun a ha d hd'=>?_⟩
  simp at hd';subst hd'
  obtain⟨y,hy,rfl⟩:=List.mem_map.1 ha
  exact zep hf y hy
 rw[List.map_append,List.mem_append,zdw,h.mem]
 constructor
 ·rintro (h1|h1)
  ·exact .inr ⟨h1,zlI (h.at0 hf) t h1⟩
  simp at h1;exact .inl h1
 rintro (h1|⟨h1,_⟩)
 ·subst h1;simp
 exact .inl h1
theorem zfq:x∈zdq L m↔x∈L∧x.n∉m.map Prod.fst:=by
 simp only[zdq,List.mem_filter,Bool.not_eq_true',List.any_eq_false,decide_eq_true_eq,List.mem_map,not_exists,not_and]
theorem zrq:zdq L []=L:=List.filter_eq_self.2 fun _ _=>rfl
theorem zoC:zdq L (m++[p])=zrf (zdq L m) p.1:=by
 unfold zdq zrf
 rw[List.filter_filter]
 refine List.filter_congr fun y _=>?_
 rw[List.any_append]
 by_cases e:p.1=y.n
 ·simp[e]
 have e':y.n≠p.1:=fun h=>e h.symm
 simp[e,e']
theorem zbw.rest(h:zbw w L c)(m:List (By×By)):NmL (zdq L m) (za1 c m):=by
 refine⟨h.names.sublist (List.filter_sublist.map _),fun t=>?_,h.ok.srt.sublist List.filter_sublist⟩
 rw[zig,←h.mem]
 constructor
 ·intro hm
  obtain⟨x,hx,rfl⟩:=List.mem_map.1 hm
  obtain⟨h1,h2⟩:=zfq.1 hx
  exact⟨List.mem_map.2 ⟨x,h1,U⟩,h2⟩
 rintro⟨hm,h2⟩
 obtain⟨x,hx,rfl⟩:=List.mem_map.1 hm
 exact List.mem_map.2 ⟨x,zfq.2 ⟨hx,h2⟩,U⟩
theorem zlv(h:zan L p.1=some y):zf9 L (m++[p])=zf9 L m++[{ y with n:=p.2 }]:=by
 unfold zf9
 rw[List.filterMap_append]
 simp[h]
theorem zhB(hz:z∈zf9 L m):∃p∈m,∃y,zan L p.1=some y∧z={ y with n:=p.2 }:=by
 obtain⟨p,hp,h⟩:=List.mem_filterMap.1 hz
 cases hf:zan L p.1 with
 |none=>rw[hf]at h;cases h
 |some y=>
  rw[hf]at h
  exact⟨p,hp,y,hf,(Option.some.inj h).symm⟩
theorem zbw.apart2(h:zbw w L c)(hx:x∈L)(hy:y∈L)(hne:x.n≠y.n):∀b∈x.ow,b∉y.ow:=fun b hb hm=>by
 obtain⟨i,hi⟩:=List.getElem?_of_mem hx
 obtain⟨j,hj⟩:=List.getElem?_of_mem hy
 have hij:i≠j:=fun hij=>hne (by
  subst hij
  rw[hi]at hj
  cases hj;rfl)
 obtain⟨hi',rfl⟩:=Gs hi
 obtain⟨hj',rfl⟩:=Gs hj
 rcases Lg i j with hlt|hge
 ·exact List.pairwise_iff_getElem.1 h.apart i j hi' hj' hlt b hb hm
 exact List.pairwise_iff_getElem.1 h.apart j i hj' hi' (by omega) b hm hb
theorem zbw.movA(h:zbw w L c):∀{m:List (By×By)},(m.map Prod.fst).Nodup→zqE (zf9 L m)
 |[],_=>List.Pairwise.nil
 |p::m,hn=>by
  rw[List.map_cons,List.nodup_cons]at hn
  have ih:=h.movA hn.2
  unfold zf9
  rw[List.filterMap_cons]
  cases hf:zan L p.1 with
  |none=>exact ih
  |some y=>
   refine List.pairwise_cons.2 ⟨fun z hz=>?_,ih⟩
   obtain⟨p',hp',y',hf',rfl⟩:=zhB hz
   obtain⟨h1,e1⟩:=zaL hf
   obtain⟨h2,e2⟩:=zaL hf'
   have h5:∀b∈y.ow,b∉y'.ow:=h.apart2 h1 h2 fun e=>hn.1 (by
    rw[←e1,e,e2]
    exact List.mem_map.2 ⟨p',hp',U⟩)
   exact h5
theorem zbw.ren(h:zbw w L c)(hn:(m.map Prod.fst).Nodup)(hN:NmL (zdq L m++zf9 L m) (zh0 c m))(hk:za0 (zh0 c m)):zbw w (zdq L m++zf9 L m) (zh0 c m):=by
 refine⟨fun z hz=>?_,?_,hN.names,hN.mem,hk⟩
 ·rcases List.mem_append.1 hz with hz|hz
  ·exact h.tabs z (zfq.1 hz).1
  obtain⟨p,_,y,hf,rfl⟩:=zhB hz
  exact h.tabs y (zaL hf).1
 refine List.pairwise_append.2 ⟨h.apart.sublist List.filter_sublist,h.movA hn,fun a ha z hz=>?_⟩
 obtain⟨h1,h2⟩:=zfq.1 ha
 obtain⟨p,hp,y,hf,rfl⟩:=zhB hz
 obtain⟨h3,e3⟩:=zaL hf
 have h5:∀b∈a.ow,b∉y.ow:=h.apart2 h1 h3 fun e=>h2 (by
  rw[e,e3]
  exact List.mem_map.2 ⟨p,hp,U⟩)
 exact h5
theorem zqk:∀b∈owL (zdq L m++zf9 L m),b∈owL L:=fun b hb=>by
 obtain⟨z,hz,hbz⟩:=zbH.1 hb
 rcases List.mem_append.1 hz with hz|hz
 ·exact zbH.2 ⟨z,(zfq.1 hz).1,hbz⟩
 obtain⟨p,_,y,hf,rfl⟩:=zhB hz
 exact zbH.2 ⟨y,(zaL hf).1,hbz⟩
theorem znu{j:Nat}(hp:m[j]?=some p)(h:(m.take j).any (fun o=>decide (o.1=p.1))=true):zfC m=true:=by
 have hn:¬ (m.map Prod.fst).Nodup:=fun hn=>by
  obtain⟨o,ho,he⟩:=List.any_eq_true.1 h
  have h1:=hn.sublist ((List.take_sublist (j+1) m).map Prod.fst)
  rw[List.take_add_one,hp,List.map_append,List.nodup_append]at h1
  exact h1.2.2 o.1 (List.mem_map.2 ⟨o,ho,rfl⟩) p.1 (by simp) (of_decide_eq_true he)
 unfold zfC
 rw[df hn]
 rfl
theorem zj7{j:Nat}(hp:m[j]?=some p)(h:(m.take j).any (fun o=>decide (o.1=p.1))=false)(hn:((m.take j).map Prod.fst).Nodup):((m.take (j+1)).map Prod.fst).Nodup:=by
 rw[List.take_add_one,hp,List.map_append,List.nodup_append]
 refine⟨hn,by simp,fun a ha d hd=>?_⟩
 simp at hd;subst hd
 obtain⟨o,ho,rfl⟩:=List.mem_map.1 ha
 exact of_decide_eq_false (by simpa using List.any_eq_false.1 h o ho)
theorem zq8{x:EvT}(hr:z6 x=true)(hk:x.k=6):doE c x=zeh c x.m:=by
 unfold doE
 rw[if_neg (by simp[hr]),if_pos hk]
theorem zwT{x:EvT}(hk:x.k=6)(he:doE c x=0):doC c x=zh0 c x.m:=by
 unfold doC
 rw[if_neg (by simp[he]),if_pos hk]
theorem zwS(h:zfC m=true):zeh c m=2:=by unfold zeh;rw[if_pos h]
theorem zxe(h:(m.map Prod.fst).Nodup){j:Nat}(hp:m[j]?=some p)(ha:atC c p.1=none):zeh c m=5:=by
 unfold zeh
 rw[if_neg (by simp[zfC,h]),if_pos (List.any_eq_true.2 ⟨p,Mg hp,by simp[ha]⟩)]
theorem zqw(h:(m.map Prod.fst).Nodup)(ha:∀p∈m,(atC c p.1).isSome=true):zeh c m=if zeY c (za1 c m) m then 220 else 0:=by
 unfold zeh
 rw[if_neg (by simp[zfC,h]),if_neg]
 simp only[List.any_eq_true,not_exists,not_and]
 intro p hp he
 have:=ha p hp
 cases hq:atC c p.1 with
 |none=>rw[hq]at this;cases this
 |some t=>rw[hq]at he;cases he
theorem zqy(h:(m.map Prod.fst).Nodup)(ha:∀p∈m,(atC c p.1).isSome=true){j:Nat}(hp:m[j]?=some p)(ht:atC (zcK c (za1 c m) (m.take j)) p.2≠none):zeh c m=220:=by
 rw[zqw h ha,if_pos (zra hp ht)]
theorem zxN(h:(m.map Prod.fst).Nodup)(ha:∀p∈m,(atC c p.1).isSome=true)(ht:∀j p,m[j]?=some p→atC (zcK c (za1 c m) (m.take j)) p.2=none):zeh c m=0:=by
 rw[zqw h ha,if_neg (by simp[zhR.2 ht])]
end
theorem zsK(o q:By×By)(b:Nat)(w:Wl)(hb:zO w b 78 (pcs q)):zS TP 113 #[.agg (pcs o).toArray,Pt b] w fun r w'=>r=.bool (decide (o.1=q.1))∧zk [] w w':=by
 refine A2 Tryz.func113 U U ?_
 refine Sr ?_
 refine Ob U U ?_
 intro b2 w2 e2 n2 c2 k2
 refine Oa U (E2 1 2 U ?_)
 have k2:zO w2 b2 78 (pcs o):=k2
 refine Sr ?_
 refine Og (zK zco sz9 U U 0 U (by decide)) U ?_
 refine Ol yI U (k2.cell' (i:=0) U) ?_
 refine Og (zK zco sz9 U U 0 U (by decide)) U ?_
 refine Ol yI U ((hb.chg0 c2).cell' (i:=0) U) (Og (zaQ U U) U (Oa U (E1 3 U (zj ?_))))
 refine zw U U ?_
 exact⟨U,c2⟩
section
variable {w w':Wl} {p mb:Nat} {L:List CE} {c:Cat} {x:EvT} {e:EvV}
set_option maxHeartbeats 1000000 in
theorem zqY(h:zdo w p mb L c)(hx:zbj w e x)(hm:zcY x)(hr:z6 x=true)(hk:x.k=6) :
 zS TP 68 #[Pt p,.agg (evC x e).toArray] w (DoR w p (p::mb::owL L) c x):=by
 obtain⟨ec,eky,eu,eo,en,em⟩:=e
 obtain⟨pm,cm,rfl,hcm⟩:∃q r,em=.slice q x.m.length r∧x.m.length≤r:=zN.val hx.nm
 have hnm:zdm w (.slice pm x.m.length cm) x.m:=hx.nm
 have hmm:=hm.m
 generalize he:evC x ⟨ec,eky,eu,eo,en,.slice pm x.m.length cm⟩=E
 have hE7:E[7]?=some (.slice pm x.m.length cm):=by rw[←he];rfl
 refine A2 Tryz.func68 U U ?_
 refine Sr ?_
 refine Ob U U ?_
 intro b3 w3 e3 n3 c3 k3
 refine Oa U (E2 0 3 U ?_)
 have k3:zO w3 b3 39 E:=k3
 have hnm3:zdm w3 (.slice pm x.m.length cm) x.m:=zN.chg0 hnm c3
 have h3:=h.chg0 c3
 have hno:∀{wy:Wl} {r:Va} {z:Int},zk [] w3 wy→zeh c x.m=z→z≠0→zbR wy r z→DoR w p (p::mb::owL L) c x r wy:=fun hc hz h0 h1=>DoR.no (h3.chg0 hc) (c3.trans hc) (by rw[zq8 hr hk];exact hz) h0 h1
 refine zf (Sr (Od zaa U (Ol zcC U (k3.cell' hE7) (On zaF U (Om U (E5 0 3 17 18 19 U (zp ?_)))))))
 refine zQ [0,3,17,18,19] (fun m F wx=>∃j:Nat,m=x.m.length-j∧j≤x.m.length∧F=[(0,Pt p),(3,Pt b3),(17,.slice pm x.m.length cm),(18,Ii x.m.length),(19,Ii j)]∧((x.m.take j).map Prod.fst).Nodup∧zk [] w3 wx) (m:=x.m.length-0) ⟨0,rfl,Zl _,rfl,by simp,zk.refl _ _⟩ ?_
 rintro m F wx⟨j,rfl,hj,rfl,hnd,hcx⟩
 refine zf ?_
 by_cases hlt:j<x.m.length
 ·refine za ?_
  refine Og (vt (zz U U) (by simp;omega)) U ?_
  refine E6 0 3 17 18 19 20 U (zf (ze U (zm ?_)))
  have hq:x.m[j]?=some x.m[j]:=by simp[hlt]
  generalize x.m[j]=q at hq
  obtain⟨b,off,cap,hve,hcell⟩:=zN.at zbu (zN.chg0 hnm3 hcx) hq
  cases hve
  refine zf (zp (Sr (Om U ?_)))
  refine Og (zi zaF zcn U U _ U hlt) U ?_
  refine Og (zh zq4 zcn U U hcell) U ?_
  refine Oq (zF zoo U U ?_)
  intro b6 w6 e6 n6 c6 k6
  refine Oa U ?_
  refine Oq (zt zcn U U U U k6 (by simp[pcs]) (by simp[pcs,Value.oneCell']) ?_)
  intro wA nA cA kA
  refine E7 0 3 5 6 17 18 19 U ?_
  have kA:zO wA b6 78 (pcs q):=kA
  have hcA:zk [] wx wA:=c6.own cA (by intro y hy;simp at hy;omega)
  have hcw:=hcx.trans hcA
  refine zf ?_
  have hcf:=zpj zbu _ (x.m.take j) (fun o=>decide (o.1=q.1)) 113 [Pt b6] wA (zN.take (m:=cm) zbu (zN.chg0 hnm3 hcw) hj (by omega) (Nat.le_refl _)) (by rw[List.length_take];omega) zAf (fun o _ w1 h1=>zsK o q b6 w1 (kA.chg0 h1))
  cases ha:(x.m.take j).any fun o=>decide (o.1=q.1) with
  |true=>
   rw[ha]at hcf
   refine za (Od zaa U (Ol zcC U ((k3.chg0 hcw).cell' hE7) (Om U ?_)))
   refine Og (zbq zaF zcn U U _ U (by omega)) U ?_
   refine Og (zau U U) U ?_
   refine Oc zsd U U U hcf ?_
   rintro v29 w29⟨rfl,c29⟩
   refine E7 0 3 6 17 18 19 29 U (ze U (Sr ?_))
   refine Og (zK zco sz9 U U 0 U (by decide)) U ?_
   refine Ol yI U ((kA.chg0 c29).cell' (i:=0) U) (Og (z5 zdU U) U ?_)
   refine Og (zL zfU zfQ U (vs:=[_,_]) U (css:=[_,_]) ⟨U,U,Tt⟩ U U (cs:=[_,_]) U) U ?_
   refine Og (z5 zfT U) U (Oa U (E1 4 U (zj ?_)))
   repeat first|refine tr ?_|refine br ?_
   refine zw U U ?_
   exact hno (hcw.trans c29) (zwS (znu hq ha)) (by decide) (zjF _ _ _)
  |false=>
   rw[ha]at hcf
   refine za (Od zaa U (Ol zcC U ((k3.chg0 hcw).cell' hE7) (Om U ?_)))
   refine Og (zbq zaF zcn U U _ U (by omega)) U ?_
   refine Og (zau U U) U ?_
   refine Oc zsd U U U hcf ?_
   rintro v29 w29⟨rfl,c29⟩
   refine E7 0 3 6 17 18 19 29 U (zb U (zT (zl (za ?_))))
   refine Og (zG U U (by omega)) U ?_
   refine Om U (N5 0 3 17 18 19 U ?_)
   exact⟨x.m.length-(j+1),by omega,j+1,rfl,by omega,rfl,zj7 hq ha hnd,hcw.trans c29⟩
 refine za ?_
 refine Og (vf (zz U U) (by simp;omega)) U ?_
 refine E6 0 3 17 18 19 20 U (zf (zb U ?_))
 refine zI ?_
 repeat first|refine te ?_|refine bo rfl ?_
 refine zq _ ?_
 have hND:(x.m.map Prod.fst).Nodup:=by rwa [Tl (by omega)]at hnd
 clear hnd
 have hE:=h3.chg0 hcx
 have kE:=k3.chg0 hcx
 have hnmE:zdm wx (.slice pm x.m.length cm) x.m:=zN.chg0 hnm3 hcx
 have hnoE:∀{wy:Wl} {r:Va} {z:Int},zk [] wx wy→zeh c x.m=z→z≠0→zbR wy r z→DoR w p (p::mb::owL L) c x r wy:=fun hc=>hno (hcx.trans hc)
 have c3x:=c3.trans hcx
 clear hno h3 k3 hnm3 c3 hcx hlt hj
 refine Sr (Om U (Og (zx U) U (Od za4 U (Ol zej U (hE.blk.cell' (i:=0) U) ?_))))
 refine Oc zzK U U U (zsg mb _ _ hE.map) ?_
 rintro v40 w40⟨b,rfl,hM,hfr,c40⟩
 refine Oa U (E3 0 3 7 U (zf (Sr (Od zaa U (Ol zcC U ((kE.chg0 c40).cell' hE7) (On zaF U (Om U (E6 0 3 7 42 43 44 U (zp ?_)))))))))
 refine zQ [0,3,7,42,43,44] (fun m F wy=>∃j:Nat,m=x.m.length-j∧j≤x.m.length∧F=[(0,Pt p),(3,Pt b3),(7,.map (some b)),(42,.slice pm x.m.length cm),(43,Ii x.m.length),(44,Ii j)]∧(∀q∈x.m.take j,(zan L q.1).isSome=true)∧yf zbM wy b ((zdq L (x.m.take j)).map CE.en)∧zk [] wx wy) (m:=x.m.length-0) ⟨0,rfl,Zl _,rfl,by simp,(by rw[List.take_zero,zrq];exact hM),c40⟩ ?_
 rintro m F wy⟨j,rfl,hj,rfl,hall,hMj,hcy⟩
 refine zf ?_
 by_cases hlt:j<x.m.length
 ·refine za ?_
  refine Og (vt (zz U U) (by simp;omega)) U ?_
  refine E7 0 3 7 42 43 44 45 U (zf (ze U (zm ?_)))
  have hq:x.m[j]?=some x.m[j]:=by simp[hlt]
  have htk:=List.take_succ_eq_append_getElem hlt
  generalize x.m[j]=q at hq htk
  obtain⟨bb,off,cap,hve,hcell⟩:=zN.at zbu (zN.chg0 hnmE hcy) hq
  cases hve
  refine zf (zp (Sr ?_))
  refine Og (zi zaF zcn U U _ U hlt) U ?_
  refine Og (zh zq4 zcn U U hcell) U ?_
  refine Oq (zF zoo U U ?_)
  intro b9 w9 e9 n9 c9 k9
  refine Oq (zt zcn U U U U k9 (by simp[pcs]) (by simp[pcs,Value.oneCell']) ?_)
  intro wA nA cA kA
  refine E7 0 3 7 9 42 43 44 U ?_
  have kA:zO wA b9 78 (pcs q):=kA
  have hcA:zk [] wy wA:=c9.own cA (by intro y hy;simp at hy;omega)
  have hcw:=hcy.trans hcA
  have hA:=hE.chg0 hcw
  have hMA:=hMj.chg0 hcA
  have hd:zk [] wA wA.drew:=zk.drew [] _
  refine zf (zf ?_)
  cases hf:zan L q.1 with
  |none=>
   refine zH (fun wz=>zk [] wA wz) mix (by kernel_rfl) hd ?_
   refine Tm U (Tp (fun _=>zx U) U (Td za4 U (Tr (fun wz hz=>zg zej U ((hA.blk.chg0 hz).cell' (i:=0) U)) U ?_)))
   refine Tp (fun _=>zK zco sz9 U U 0 U (by decide)) U ?_
   refine Tr (fun wz hz=>zg yI U ((kA.chg0 hz).cell' (i:=0) U)) U ?_
   refine Tc ziZ U U U (zfk (hA.map.chg0 hd) hf) ?_
   rintro v55 w55⟨rfl,rfl⟩
   refine⟨.inl hd,?_⟩
   refine Tm U (Tp (fun _=>zM U U) U (Tp (fun _=>zM U U) U (Ta U (Ta U ?_))))
   refine zhy [0,3,7,9,11,42,43,44] (F':=[(0,_),(3,_),(7,_),(9,_),(11,_),(42,_),(43,_),(44,_)]) U ?_
   refine Sr (Om U (Og (zC U) U (E8 0 3 7 9 42 43 44 59 U (ze U (Sr ?_)))))
   refine Og (zK zco sz9 U U 0 U (by decide)) U ?_
   refine Ol yI U ((kA.chg0 hd).cell' (i:=0) U) (Og (z5 zdU U) U ?_)
   refine Og (zL zfU zfQ U (vs:=[_,_]) U (css:=[_,_]) ⟨U,U,Tt⟩ U U (cs:=[_,_]) U) U ?_
   refine Og (z5 zfT U) U (Oa U (E1 4 U (zj ?_)))
   repeat first|refine tr ?_|refine br ?_
   refine zw U U ?_
   exact hnoE (hcw.trans hd) (zxe hND hq (by rw[h.l.at,hf];rfl)) (by decide) (zjF _ _ _)
  |some y=>
   refine zH (fun wz=>zk [] wA wz) mix (by kernel_rfl) hd ?_
   refine Tm U (Tp (fun _=>zx U) U (Td za4 U (Tr (fun wz hz=>zg zej U ((hA.blk.chg0 hz).cell' (i:=0) U)) U ?_)))
   refine Tp (fun _=>zK zco sz9 U U 0 U (by decide)) U ?_
   refine Tr (fun wz hz=>zg yI U ((kA.chg0 hz).cell' (i:=0) U)) U ?_
   refine Tc ziZ U U U (ze5 (hA.map.chg0 hd) hf) ?_
   rintro v55 w55⟨rfl,rfl⟩
   refine⟨.inl hd,?_⟩
   refine Tm U (Tp (fun _=>zM U U) U (Tp (fun _=>zM U U) U (Ta U (Ta U ?_))))
   refine zhy [0,3,7,9,11,42,43,44] (F':=[(0,_),(3,_),(7,_),(9,_),(11,_),(42,_),(43,_),(44,_)]) U ?_
   refine Sr (Om U (Og (zC U) U (E8 0 3 7 9 42 43 44 59 U (zb U (zm (za (Om U ?_)))))))
   refine Og (zK zco sz9 U U 0 U (by decide)) U ?_
   refine Ol yI U ((kA.chg0 hd).cell' (i:=0) U) ?_
   refine Oq (zpI (κ:=zbM) zeW (zap st9) U U (hMA.chg0 hd) ?_)
   intro wB nB cB kB
   refine N6 0 3 7 42 43 44 U (zl (za ?_))
   refine Og (zG U U (by omega)) U ?_
   refine Om U (N6 0 3 7 42 43 44 U ?_)
   refine⟨x.m.length-(j+1),by omega,j+1,rfl,by omega,rfl,?_,?_,(hcw.trans hd).own cB (by intro y hy;simp at hy;omega)⟩
   ·rw[htk]
    intro q' hq'
    rcases List.mem_append.1 hq' with h1|h1
    ·exact hall q' h1
    simp at h1;subst h1;rw[hf];rfl
   rw[htk,zoC,←zsB (L:=zdq L (x.m.take j)) (h.l.names.sublist (List.filter_sublist.map _))]
   exact kB
 refine za ?_
 refine Og (vf (zz U U) (by simp;omega)) U ?_
 refine E7 0 3 7 42 43 44 45 U (zf (zb U ?_))
 refine zI ?_
 repeat first|refine te ?_|refine bo rfl ?_
 refine zq _ ?_
 rw[Tl (by omega)]at hall hMj
 have hat:∀q∈x.m,(atC c q.1).isSome=true:=fun q hq=>by
  have:=hall q hq
  rw[h.l.at]
  cases hf:zan L q.1 with
  |none=>rw[hf]at this;cases this
  |some y=>rfl
 have hN0:=h.l.rest x.m
 clear hlt hj c40 hM
 refine zf (Sr (Od zaa U (Ol zcC U ((kE.chg0 hcy).cell' hE7) (On zaF U (Om U (E5 0 7 70 71 72 U (zp ?_)))))))
 refine zQ [0,7,70,71,72] (fun m F wz=>∃j:Nat,m=x.m.length-j∧j≤x.m.length∧F=[(0,Pt p),(7,.map (some b)),(70,.slice pm x.m.length cm),(71,Ii x.m.length),(72,Ii j)]∧NmL (zdq L x.m++zf9 L (x.m.take j)) (zcK c (za1 c x.m) (x.m.take j))∧(∀i q,i<j→x.m[i]?=some q→atC (zcK c (za1 c x.m) (x.m.take i)) q.2=none)∧yf zbM wz b ((zdq L x.m++zf9 L (x.m.take j)).map CE.en)∧zk [] wx wz) (m:=x.m.length-0) ⟨0,rfl,Zl _,rfl,(by simpa[zf9,zcK] using hN0),(by intro i q hi;omega),(by simpa[zf9] using hMj),hcy⟩ ?_
 rintro m F wz⟨j,rfl,hj,rfl,hN,hfree,hMz,hcz⟩
 refine zf ?_
 by_cases hlt:j<x.m.length
 ·refine za ?_
  refine Og (vt (zz U U) (by simp;omega)) U ?_
  refine E6 0 7 70 71 72 73 U (zf (ze U (zm ?_)))
  have hq:x.m[j]?=some x.m[j]:=by simp[hlt]
  have htk:=List.take_succ_eq_append_getElem hlt
  have hmem:=List.getElem_mem hlt
  generalize x.m[j]=q at hq htk hmem
  obtain⟨bb,off,cap,hve,hcell⟩:=zN.at zbu (zN.chg0 hnmE hcz) hq
  cases hve
  refine zf (zp (Sr ?_))
  refine Og (zi zaF zcn U U _ U hlt) U ?_
  refine Og (zh zq4 zcn U U hcell) U ?_
  refine Oq (zF zoo U U ?_)
  intro b13 w13 e13 n13 c13 k13
  refine Oq (zt zcn U U U U k13 (by simp[pcs]) (by simp[pcs,Value.oneCell']) ?_)
  intro wA nA cA kA
  refine E6 0 7 13 70 71 72 U ?_
  have kA:zO wA b13 78 (pcs q):=kA
  have hcA:zk [] wz wA:=c13.own cA (by intro y hy;simp at hy;omega)
  have hcw:=hcz.trans hcA
  have hA:=hE.chg0 hcw
  have hMA:=hMz.chg0 hcA
  refine zf (zf ?_)
  cases hf:zan (zdq L x.m++zf9 L (x.m.take j)) q.2 with
  |some z=>
   refine za (Om U ?_)
   refine Og (zK zco sz9 U U 1 U (by decide)) U ?_
   refine Ol yI U (kA.cell' (i:=1) U) ?_
   refine Og (zc4 (κ:=zbM) zeW (zap st9) zjP U U hMA (show zbb _ _=some z.pt by rw[zbD,hf];rfl)) U ?_
   refine Om U (Oe U U (Oe U U (Oa U (Oa U (E7 0 7 13 15 70 71 72 U (Sr (Om U (E7 0 7 13 70 71 72 83 U (ze U (Sr ?_))))))))))
   refine Og (zK zco sz9 U U 1 U (by decide)) U ?_
   refine Ol yI U (kA.cell' (i:=1) U) (Og (z5 zdU U) U ?_)
   refine Og (zL zfU zfQ U (vs:=[_,_]) U (css:=[_,_]) ⟨U,U,Tt⟩ U U (cs:=[_,_]) U) U ?_
   refine Og (z5 zfT U) U (Oa U (E1 4 U (zj ?_)))
   repeat first|refine tr ?_|refine br ?_
   refine zw U U ?_
   exact hnoE hcw (zqy hND hat hq (by rw[hN.at1 hf];simp)) (by decide) (zjF _ _ _)
  |none=>
   obtain⟨y,hy⟩:=Option.isSome_iff_exists.1 (hall q hmem)
   have haty:atC c q.1=some y.tb:=by rw[h.l.at,hy];rfl
   have hd:zk [] wA wA.drew:=zk.drew [] _
   refine za (Om U ?_)
   refine Og (zK zco sz9 U U 1 U (by decide)) U ?_
   refine Ol yI U (kA.cell' (i:=1) U) ?_
   refine Og (zc4 (κ:=zbM) zeW (zap st9) zjP U U hMA (show zbb _ _=none by rw[zbD,hf];rfl)) U ?_
   refine Om U (Oe U U (Oe U U (Oa U (Oa U (E7 0 7 13 15 70 71 72 U (Sr (Om U (E7 0 7 13 70 71 72 83 U (zb U (zm ?_))))))))))
   refine zH (fun wz=>zk [] wA wz) mix (by kernel_rfl) hd ?_
   refine Tm U ?_
   refine Tp (fun _=>zK zco sz9 U U 1 U (by decide)) U ?_
   refine Tr (fun wz hz=>zg yI U ((kA.chg0 hz).cell' (i:=1) U)) U (Tm U (Tp (fun _=>zx U) U (Td za4 U (Tr (fun wz hz=>zg zej U ((hA.blk.chg0 hz).cell' (i:=0) U)) U ?_))))
   refine Tp (fun _=>zK zco sz9 U U 0 U (by decide)) U ?_
   refine Tr (fun wz hz=>zg yI U ((kA.chg0 hz).cell' (i:=0) U)) U ?_
   refine zaR U (gn U) (St.vl (zii (κ:=zbM) zeW (zap st9) zjP U U (hA.map.chg0 hd) (show zbb _ _=some y.pt by rw[zbD,hy];rfl)) U U ?_)
   refine⟨.inl hd,?_⟩
   refine zaR U (gn U) (zje (κ:=zbM) zeW (zap st9) U U U (hMA.chg0 hd) ?_)
   intro wB nB cB kB
   refine⟨.inr (by kernel_rfl),?_⟩
   refine zdI [0,7,70,71,72] (F':=[(0,_),(7,_),(70,_),(71,_),(72,_)]) U ?_
   refine zl (za ?_)
   refine Og (zG U U (by omega)) U ?_
   refine Om U (N5 0 7 70 71 72 U ?_)
   refine⟨x.m.length-(j+1),by omega,j+1,rfl,by omega,rfl,?_,?_,?_,(hcw.trans hd).own cB (by intro y hy;simp at hy;omega)⟩
   ·rw[htk,zlv hy,zk3,zmX haty,←List.append_assoc]
    exact hN.new (z:={ y with n:=q.2 }) hf
   ·intro i q' hi hq'
    by_cases hij:i=j
    ·subst hij
     rw[hq]at hq'
     cases hq'
     exact hN.at0 hf
    exact hfree i q' (by omega) hq'
   rw[htk,zlv hy,←List.append_assoc,List.map_append]
   have e:=zg9 (v:=y.pt) (show zbb ((zdq L x.m++zf9 L (x.m.take j)).map CE.en) q.2=none by rw[zbD,hf];rfl)
   have kB':yf zbM wB b (zcU ((zdq L x.m++zf9 L (x.m.take j)).map CE.en) q.2 y.pt):=kB
   rw[e]at kB'
   exact kB'
 refine za ?_
 refine Og (vf (zz U U) (by simp;omega)) U ?_
 refine E6 0 7 70 71 72 73 U (zf (zb U ?_))
 refine zI ?_
 repeat first|refine te ?_|refine bo rfl ?_
 refine zq _ ?_
 have hjl:j=x.m.length:=by omega
 subst hjl
 rw[Tl (Nat.le_refl _)]at hN hMz
 have he0:doE c x=0:=by
  rw[zq8 hr hk]
  exact zxN hND hat fun i q hq=>hfree i q (Gs hq).1 hq
 have hz:=hE.chg0 hcz
 refine Sr (Om U (Om U (Og (zx U) U (Od za4 U ?_))))
 refine Oq (zt zz9 U U U U hz.blk (by simp) (by simp[Value.oneCell']) ?_)
 intro wD nD cD kD
 refine yO [] (F':=[]) U ?_
 have kD:zO wD p 83 [.map (some b)]:=kD
 refine Sr (Oa U (E1 4 U (zj ?_)))
 refine zw U U ?_
 have hxs:=c3x.size
 have hcl:=hz.l.ren hND hN (h.l.ok.ren (by rw[←zq8 hr hk];exact he0))
 refine⟨.inl ⟨rfl,he0⟩,((c3x.trans hcz).any).trans' cD (fun y hy=>.inl (by simp at hy;simp[hy])),p::b::owL (zdq L x.m++zf9 L x.m),?_,fun y hy=>?_⟩
 ·rw[zwT hk he0]
  refine⟨b,_,rfl,kD,hMz.chg cD (fun hb=>by simp at hb;subst hb;exact hMz.ne hz.blk U),hcl.hm (fun y hy hm=>?_) (Hm.cat hz.blk hz.ge.1) cD,hz.ge.1,by have:=h.nn;omega⟩
  simp at hm
  subst hm
  exact(hz.notO y (zqk y hy)).1 U
 rcases Mc hy with rfl|hy
 ·exact .inl (by simp)
 rcases Mc hy with rfl|hy
 ·exact .inr (by omega)
 exact .inl (List.mem_cons_of_mem _ (List.mem_cons_of_mem _ (zqk y hy)))
end
section
variable {w w':Wl} {p m:Nat} {L:List CE} {c:Cat} {x:EvT} {y:CE} {e:EvV} {r:Va} {n:By} {own:List Nat}
theorem zvm(hm:zcY x)(hr:z6 x=true):∃g,zbb zxt x.k=some (.func (.func g) #[] #[])∧zn TP g=true∧∀w,EOk w→zdo w p m L c→zbj w e x →
 zS TP g #[Pt p,.agg (evC x e).toArray] w (DoR w p (p::m::owL L) c x):=by
 have hk:=(zfE hr).1
 rcases (show x.k=1∨x.k=2∨x.k=3∨x.k=4∨x.k=5∨x.k=6 by omega) with h|h|h|h|h|h
 ·exact⟨63,by rw[h];rfl,zC6,fun w hE hC hx=>zqQ hE hC hx hm hr h⟩
 ·exact⟨64,by rw[h];rfl,zDA,fun w hE hC hx=>zrN hE hC hx hm hr h⟩
 ·exact⟨65,by rw[h];rfl,zC3,fun w hE hC hx=>zrt hE hC hx hm hr h⟩
 ·exact⟨66,by rw[h];rfl,zDb,fun w hE hC hx=>zrs hE hC hx hm hr h⟩
 ·exact⟨67,by rw[h];rfl,zDn,fun w hE hC hx=>zvK hC hr h⟩
 exact⟨68,by rw[h];rfl,zDk,fun w hE hC hx=>zqY hC hx hm hr h⟩
theorem ztK(hE:EOk w)(hC:zba w p own c)(hx:zbj w e x)(hm:zcY x) :
 zS TP 13 #[Pt p,.agg (evC x e).toArray] w fun r w'=>r=Ii (doE c x)∧zk own w w'∧∃own',zba w' p own' (doC c x)∧∀b∈own',b∈own∨w.heap.size≤b:=by
 have hlt:=hC.hmO.lt
 have hHm:=hC.hmO
 obtain⟨m,L,rfl,h⟩:=hC
 refine A2 Tryz.func13 U U ?_
 refine Sr ?_
 refine Ob U U ?_
 intro b3 w3 e3 n3 c3 k3
 refine Oa U (E2 0 3 U ?_)
 have k3:zO w3 b3 39 (evC x e):=k3
 refine zf (Sr (Om U (Og (y8 zhE U U) U (E3 0 3 7 U (zb U (zm (zf (zf ?_))))))))
 cases hr:z6 x with
 |false=>
  have he:doE c x=2:=by unfold doE;rw[if_pos hr]
  refine za (Og (zh zbO zaD U U (zv.of_blk0 k3)) U ?_)
  refine Oc zAp U U U (zns e x _ (hE.chg0 c3) (hx.chg0 c3) hm) ?_
  rintro v9 w9⟨e9,c9⟩
  rw[hr]at e9
  subst e9
  refine Oa U (E3 0 3 5 U (Sr (Om U ?_)))
  refine Og (vt (zJ U U) (by decide)) U ?_
  refine E4 0 3 5 11 U (ze U (Sr (Om U (Oa U (E1 4 U (zj ?_))))))
  repeat first|refine tr ?_|refine br ?_
  refine zw U U ?_
  exact⟨by rw[he];rfl,(c3.trans c9).any,_,by rw[zpx (by rw[he];decide)];exact⟨m,L,rfl,h.chg0 (c3.trans c9)⟩,fun b hb=>.inl hb⟩
 |true=>
  refine za (Og (zh zbO zaD U U (zv.of_blk0 k3)) U ?_)
  refine Oc zAp U U U (zns e x _ (hE.chg0 c3) (hx.chg0 c3) hm) ?_
  rintro v9 w9⟨e9,c9⟩
  rw[hr]at e9
  subst e9
  refine Oa U (E3 0 3 5 U ?_)
  have hc9:=c3.trans c9
  have k9:=k3.chg0 c9
  refine Sr (Om U ?_)
  refine Og (vf (zJ U U) (by decide)) U ?_
  refine E4 0 3 5 11 U (zb U (zm ?_))
  obtain⟨g,hg,hb,hgo⟩:=zvm (p:=p) (m:=m) (L:=L) (c:=c) (e:=e) hm hr
  have hd:zk (p::m::owL L) w9 w9.drew:=zk.drew _ _
  have hb3:b3∉p::m::owL L:=fun hb=>by have:=hlt b3 hb;omega
  have h0:zk [] w9 w9.drew:=zk.drew _ _
  refine zf ?_
  refine zH (fun wz=>zk (p::m::owL L) w9 wz) mix (by kernel_rfl) hd ?_
  refine Tc zDD U U U (zsS _) ?_
  rintro v13 w13⟨mk,rfl,hM,hmk,c13⟩
  refine⟨.inl (hd.trans c13),?_⟩
  refine Td zbA U (Tr (fun wz hz=>zg zeI U ((k9.chg hz hb3).cell' (i:=0) U)) U ?_)
  refine zaR U (gn U) (St.vl (zii (κ:=zaP .i64) zpb (z0 zbE) zDa U U hM hg) U U ?_)
  refine⟨.inl (hd.trans c13),?_⟩
  refine Tm U (Tr (fun wz hz=>zh zbO zaD U U (zv.of_blk0 (k9.chg hz hb3))) U ?_)
  refine Tc hb U U U (hgo _ (((hE.chg0 hc9).chg0 h0).chg0 c13) (((h.chg0 hc9).chg0 h0).chg0 c13) (((hx.chg0 hc9).chg0 h0).chg0 c13)) ?_
  rintro v19 w19⟨he,c19,own',hC',ho'⟩
  refine⟨.inl ((hd.trans c13).transS c19),?_⟩
  refine Tc zDR U U U (zyf _ (doE c x) _ ((((hE.chg0 hc9).chg0 h0).chg0 c13).hm ((((hHm.chg0 hc9).chg0 h0)).chg0 c13) c19) he.weak) ?_
  rintro v20 w20⟨rfl,c20⟩
  refine⟨.inl (((hd.trans c13).transS c19).trans c20),?_⟩
  refine Ta U (D1 4 U (zj ?_))
  refine zw U U ?_
  refine⟨U,(hc9.any).transS (((hd.trans c13).transS c19).trans c20),own',hC'.chg0 c20,fun b hb=>(ho' b hb).imp id fun h=>?_⟩
  have h1:=hc9.size
  have h2:=h0.size
  have h3:=c13.size
  omega
theorem zry(hC:zba w p own c)(ha:atC c n=none):zS TP 19 #[Pt p,.string n] w fun r w'=>r=.tuple #[.pointer none,.bool false]∧zk [] w w':=by
 obtain⟨m,L,rfl,h⟩:=hC
 have hf:zan L n=none:=by
  rw[h.l.at]at ha
  cases hf:zan L n with
  |none=>rfl
  |some y=>rw[hf]at ha;cases ha
 refine A2 Tryz.func19 U U ?_
 refine Sr (Oa U (Oa U (E2 0 1 U (zf (Sr (Om U (Og (y8 zhE U U) U (E3 0 1 9 U (zb U (zm (Sr (Om U (Og (zx U) U (Od za4 U (Ol zej U (h.blk.cell' (i:=0) U) (Om U ?_))))))))))))))))
 refine Oc ziZ U U U (zfk h.map hf) ?_
 rintro v16 w16⟨rfl,rfl⟩
 refine Om U (Oe U U (Oe U U (Oa U (Oa U (E2 6 7 U (Sr (Om U ?_)))))))
 refine Oc zww U U U (zuO _) ?_
 rintro v20 w20⟨rfl,rfl⟩
 refine Om U (Oa U (Oa U (E2 4 5 U (zj ?_))))
 refine zcF U U U ?_
 exact⟨U,zk.refl _ _⟩
theorem zk4{t:Tb}(hC:zba w p own c)(ha:atC c n=some t):zS TP 19 #[Pt p,.string n] w fun r w'=>∃q ow,r=.tuple #[Pt q,.bool true]∧zab w' q ow t.s t.r∧(∀b∈ow,w.heap.size≤b)∧zk [] w w':=by
 obtain⟨m,L,rfl,h⟩:=hC
 obtain⟨y,hf,rfl⟩:∃y,zan L n=some y∧y.tb=t:=by
  rw[h.l.at]at ha
  cases hf:zan L n with
  |none=>rw[hf]at ha;cases ha
  |some y=>rw[hf]at ha;exact⟨y,rfl,Option.some.inj ha⟩
 refine A2 Tryz.func19 U U ?_
 refine Sr (Oa U (Oa U (E2 0 1 U (zf (Sr (Om U (Og (y8 zhE U U) U (E3 0 1 9 U (zb U (zm (Sr (Om U (Og (zx U) U (Od za4 U (Ol zej U (h.blk.cell' (i:=0) U) (Om U ?_))))))))))))))))
 refine Oc ziZ U U U (ze5 h.map hf) ?_
 rintro v16 w16⟨rfl,rfl⟩
 refine Om U (Oe U U (Oe U U (Oa U (Oa U (E2 6 7 U (Sr (Om U ?_)))))))
 refine Oc zww U U U (zoy y.q y.ow y.s y.r _ (h.l.tabs y (zaL hf).1)) ?_
 rintro v20 w20⟨t',own',rfl,ht,-,ho,c20⟩
 refine Om U (Oa U (Oa U (E2 4 5 U (zj ?_))))
 refine zcF U U U ?_
 exact⟨t',own',U,ht,ho,c20⟩
end
section
variable {w w':Wl} {p m:Nat} {L:List CE} {c d:Cat} {n:By} {own:List Nat}
theorem Kc.iter{K:Type}[DecidableEq K]{κ:ziY K}{r b:Nat}{es left:List (K×Va)}{last:Option (K×Va)}(hc:zk [r] w w')(h:zf3 κ w r b es left last):Kc w w':=fun k t e f hk=>by
 refine(hc.block k (Ga hk).1 fun hm=>?_).trans hk
 simp at hm
 subst hm
 obtain⟨_,_,_,h1,_⟩:=h
 rw[hk]at h1
 cases h1
structure zto(w0 w:Wl)(L L':List CE)(left:List (By×Va)):Prop where
 tabs:∀x∈L',zab w x.q x.ow x.s x.r
 apart:zqE L'
 fresh:∀b∈owL L',w0.heap.size≤b
 perm:(L'.map (·.n)++left.map (·.1)).Perm (L.map (·.n))
 same:∀x∈L',∃y∈L,x.tb=y.tb
theorem zto.done{w0:Wl}{L':List CE}(h:zbw w0 L c)(k:zto w0 w L L' []):zbw w L' c:=by
 have hp:(L'.map (·.n)).Perm (L.map (·.n)):=by simpa using k.perm
 refine⟨k.tabs,k.apart,hp.nodup_iff.2 h.names,fun t=>?_,h.ok⟩
 rw[←h.mem]
 constructor
 ·intro ht
  obtain⟨x,hx,rfl⟩:=List.mem_map.1 ht
  obtain⟨y,hy,e⟩:=k.same x hx
  rw[e]
  exact List.mem_map.2 ⟨y,hy,U⟩
 intro ht
 obtain⟨y,hy,rfl⟩:=List.mem_map.1 ht
 obtain⟨x,hx,e⟩:=List.mem_map.1 (hp.mem_iff.2 (List.mem_map.2 ⟨y,hy,rfl⟩))
 obtain⟨z,hz,e2⟩:=k.same x hx
 have:z=y:=h.uniq hz hy ((congrArg Tb.n e2).symm.trans e)
 rw[←this,←e2]
 exact List.mem_map.2 ⟨x,hx,U⟩
theorem zqt(hC:zba w p own c):zS TP 11 #[Pt p] w fun r w'=>∃p' own',r=Pt p'∧zba w' p' own' c∧(∀b∈own',w.heap.size≤b)∧zk [] w w':=by
 obtain⟨m,L,rfl,h⟩:=hC
 refine A1 Tryz.func11 U U ?_
 refine Sr (Oa U (E1 0 U (zf (Sr (Om U (Og (y8 zhE U U) U (E2 0 7 U (zb U (zm (Sr ?_))))))))))
 refine Oc zxX U U U (zsJ _ h.nn) ?_
 rintro v8 w8⟨p',m',rfl,hN,hp',hm',c8⟩
 refine Oa U (E2 0 3 U ?_)
 have h8:=h.chg0 c8
 have hNp:Lw.n≤p':=Nat.le_trans h.nn hp'
 have hNm:Lw.n≤m':=Nat.le_trans h.nn hm'
 refine zf (Sr (Om U (Og (zx U) U (Od za4 U (Ol zej U (h8.blk.cell' (i:=0) U) ?_)))))
 refine Oq (zfc zeW U h8.map U ?_)
 intro b13 w13 e13 n13 c13 k13
 refine E2 3 13 U ?_
 have hb13:w.heap.size≤b13∧m<b13∧p'<b13∧m'<b13:=by
  have:=h.map.lt
  have:=c8.size
  have:=hN.blk.lt
  have:=hN.map.lt
  omega
 obtain⟨hb1,hb2,hb3,hb4⟩:=hb13
 have hmm:m≠m':=by
  have:=h.map.lt
  omega
 refine zp ?_
 refine zQ [3,13] (fun kk F wx=>∃(L':List CE) (left:List (By×Va)) (last:Option (By×Va)),kk=left.length∧F=[(3,Pt p'),(13,Pt b13)]∧zf3 zbM wx b13 m (L.map CE.en) left last∧zO wx p' 83 [.map (some m')]∧yf zbM wx m' (L'.map CE.en)∧zto w wx L L' left∧zk [] w wx) (m:=(L.map CE.en).length) ⟨[],_,none,rfl,rfl,k13,hN.blk.chg0 c13,hN.map.chg0 c13,⟨by simp,List.Pairwise.nil,by simp[owL],by simp[List.map_map,Function.comp_def,CE.en],by simp⟩,c8.trans c13⟩ ?_
 rintro kk F wx⟨L',left,last,rfl,rfl,hit,hblk,hmap,hcp,hcx⟩
 refine zf ?_
 cases hleft:left with
 |nil=>
  refine za ?_
  refine Oq (zcP U hit U (fun _=>?_) (fun q l1 l2 w' h=>absurd (hleft.symm.trans h) (by simp)))
  skip
  refine Oe U U (E3 3 13 15 U (zf (zb U ?_)))
  refine zI ?_
  repeat first|refine te ?_|refine bo rfl ?_
  refine zq _ ?_
  subst hleft
  refine Sr (Om U (Oa U (E1 2 U (zj ?_))))
  refine zw U U ?_
  refine⟨p',p'::m'::owL L',U,⟨m',L',U,hblk,hmap,hcp.done h.l,hNp,hNm⟩,fun b hb=>?_,hcx⟩
  rcases Mc hb with rfl|hb
  ·exact hp'
  rcases Mc hb with rfl|hb
  ·exact hm'
  exact hcp.fresh b hb
 |cons q0 l0=>
  refine za ?_
  refine Oq (zcP U hit U (fun h=>absurd (hleft.symm.trans h) (by simp)) ?_)
  intro q l1 l2 w14 e14 n14 c14 k14
  refine Oe U U (E3 3 13 15 U ?_)
  have hq:q∈L.map CE.en:=by
   obtain⟨_,_,_,_,_,_,_,hsub,_⟩:=hit
   exact hsub q (by rw[e14];simp)
  obtain⟨y,hy,rfl⟩:=List.mem_map.1 hq
  refine zf (ze U (zm (zp (Sr (Og (zfm U k14) U (Oe U U (Oe U U (Oa U (Oa U (E4 3 4 5 13 U ?_))))))))))
  have hc14:=hcx.own c14 (by intro b hb;simp at hb;omega)
  have hit14:=k14
  have hblk14:=hblk.chg c14 (by simp;omega)
  have hmap14:=hmap.chg c14 (by simp;omega)
  have hd:zk [] w14 w14.drew:=zk.drew [] _
  refine zH (fun wz=>zk [] w14 wz) mix (by kernel_rfl) hd ?_
  refine Tm U (Tp (fun _=>zx U) U (Td za4 U (Tr (fun wz hz=>zg zej U ((hblk14.chg0 hz).cell' (i:=0) U)) U (Tm U (Tm U ?_)))))
  refine Tc zww U U U (zoy y.q y.ow y.s y.r _ ((h.l.tabs y hy).chg0 (hc14.trans hd))) ?_
  rintro v25 w25⟨t',ow',rfl,ht',-,ho',c25⟩
  refine⟨.inl (hd.trans c25),?_⟩
  refine zaR U (gn U) (zje (κ:=zbM) zeW (zap st9) U U U ((hmap14.chg0 hd).chg0 c25) ?_)
  intro wA nA cA kA
  refine⟨.inr (by kernel_rfl),?_⟩
  refine zdI [3,13] (F':=[(3,_),(13,_)]) U ?_
  have hc25:=hd.trans c25
  have hcA:zk [m'] w14 wA:=(hc25.any (S:=[m'])).transS cA
  have hperm:(L'.map (·.n)++(y.n::(l1++l2).map (·.1))).Perm (L.map (·.n)):=by
   refine(List.Perm.append_left _ ?_).trans hcp.perm
   rw[e14,List.map_append,List.map_append,List.map_cons]
   exact List.perm_middle.symm
  have hnot:y.n∉L'.map (·.n):=fun hm=>by
   have h1:=hperm.nodup_iff.2 h.l.names
   rw[List.nodup_append]at h1
   exact h1.2.2 y.n hm y.n (by simp) U
  have hk0:zbb (L'.map CE.en) y.n=none:=by
   rw[zbD]
   cases hf:zan L' y.n with
   |none=>rfl
   |some z=>
    obtain⟨h1,h2⟩:=zaL hf
    exact absurd (List.mem_map.2 ⟨z,h1,h2⟩) hnot
  have kA':yf zbM wA m' (zcU (L'.map CE.en) y.n (Pt t')):=kA
  rw[zg9 hk0]at kA'
  have hs14:=hc14.size
  have hsd:=hd.size
  have hfr:∀b∈ow',w.heap.size≤b:=fun b hb=>by have:=ho' b hb;omega
  have hpm':p'≠m':=fun e=>by subst e;exact hmap.ne hblk rfl
  refine zl ?_
  refine⟨l1.length+l2.length,by rw[←hleft,e14];simp,L'++[⟨y.n,t',ow',y.s,y.r⟩],l1++l2,_,by simp,rfl,hit14.chg hcA (by simp;omega) (by simp;omega),hblk14.chg hcA (by simpa using hpm'),?_,?_,hc14.own hcA (by intro b hb;simp at hb;omega)⟩
  ·rw[List.map_append]
   exact kA'
  have hold:∀x∈L',zab w14 x.q x.ow x.s x.r:=fun x hx=>(hcp.tabs x hx).kc (Kc.iter c14 hit)
  have hnot':∀{W:Wl} {q:Nat} {ow:List Nat} {s:yK} {r:LV},zab W q ow s r→yf zbM W m' (L'.map CE.en)→∀b∈ow,b∉[m']:=fun ht hM b hb hm=>by
   obtain⟨_,_,_,h1⟩:=ht.pages b hb
   simp at hm
   subst hm
   exact hM.ne h1 U
  refine⟨fun x hx=>?_,?_,fun b hb=>?_,?_,fun x hx=>?_⟩
  ·rcases List.mem_append.1 hx with hx|hx
   ·exact((hold x hx).chg0 hc25).hm (hnot' ((hold x hx).chg0 hc25) (hmap14.chg0 hc25)) (Hm.map (hmap14.chg0 hc25)) cA
   simp at hx
   subst hx
   exact ht'.hm (hnot' ht' (hmap14.chg0 hc25)) (Hm.map (hmap14.chg0 hc25)) cA
  ·refine List.pairwise_append.2 ⟨hcp.apart,List.pairwise_singleton _ _,fun a ha z hz b hb hm=>?_⟩
   simp at hz
   subst hz
   have h1:=(hold a ha).lt b hb
   have h2:=ho' b hm
   omega
  ·obtain⟨z,hz,hbz⟩:=zbH.1 hb
   rcases List.mem_append.1 hz with hz|hz
   ·exact hcp.fresh b (zbH.2 ⟨z,hz,hbz⟩)
   simp at hz
   subst hz
   exact hfr b hbz
  ·rw[List.map_append,List.append_assoc]
   exact hperm
  rcases List.mem_append.1 hx with hx|hx
  ·exact hcp.same x hx
  simp at hx
  subst hx
  exact⟨y,hy,U⟩
end
section
variable {w w':Wl} {p m p2 m2:Nat} {L L2:List CE} {c d:Cat} {n:By} {own own2:List Nat}
theorem zvd(hc:za0 c)(hd:za0 d)(hl:d.length≤c.length)(hs:∀t∈c,t∈d):c=d:=by
 have e:c=d.filter fun t=>c.any fun u=>decide (u=t):=hc.srt.ext (hd.srt.sublist List.filter_sublist) fun t=>by
  rw[List.mem_filter]
  constructor
  ·intro ht
   exact⟨hs t ht,List.any_eq_true.2 ⟨t,ht,by simp⟩⟩
  rintro⟨_,h2⟩
  obtain⟨u,hu,he⟩:=List.any_eq_true.1 h2
  rw[←of_decide_eq_true he]
  exact hu
 have h0:=congrArg List.length e
 have h1:=List.length_filter_le (fun t=>c.any fun u=>decide (u=t)) d
 exact e.trans (List.filter_eq_self.2 (List.length_filter_eq_length_iff.1 (by omega)))
theorem zzC(h:zdo w p m L c)(h2:zdo w p2 m2 L2 d) :
 zS TP 36 #[.map (some m),.map (some m2),.func (.func 37) #[] #[]] w fun r w'=>r=.bool (decide (c=d))∧zk [] w w':=by
 have hl1:(L.map CE.en).length=c.length:=by rw[List.length_map,h.l.len]
 have hl2:(L2.map CE.en).length=d.length:=by rw[List.length_map,h2.l.len]
 refine A3 Tryz.func36 U U ?_
 refine Sr (Oa U (E3 0 1 2 U (zf (zf ?_))))
 by_cases hlen:c.length=d.length
 ·refine za (Om U (Og (zfe (κ:=zbM) zeW U h.map) U (Om U (Og (zfe (κ:=zbM) zeW U h2.map) U ?_))))
  refine Og (vf (zJ U U) (zcp (by omega))) U ?_
  refine E4 0 1 2 15 U (zb U (zm (zf (Sr (Om U ?_)))))
  refine Oq (zfc zeW U h.map U ?_)
  intro b17 w17 e17 n17 c17 k17
  refine E3 1 2 17 U ?_
  have hmlt:=h.map.lt
  refine zp ?_
  refine zQ [1,2,17] (fun kk F wx=>∃(left:List (By×Va)) (last:Option (By×Va)),kk=left.length∧F=[(1,.map (some m2)),(2,.func (.func 37) #[] #[]),(17,Pt b17)]∧zf3 zbM wx b17 m (L.map CE.en) left last∧(∀x∈L,x.en∈left∨x.tb∈d)∧zk [] w wx) (m:=(L.map CE.en).length) ⟨_,none,U,U,k17,fun x hx=>.inl (List.mem_map.2 ⟨x,hx,U⟩),c17⟩ ?_
  rintro kk F wx⟨left,last,rfl,rfl,hit,hall,hcx⟩
  refine zf ?_
  cases hleft:left with
  |nil=>
   refine za ?_
   refine Oq (zcP U hit U (fun _=>?_) (fun q l1 l2 w' h=>absurd (hleft.symm.trans h) (by simp)))
   skip
   refine Oe U U (E4 1 2 17 19 U (zf (zb U ?_)))
   refine zI ?_
   repeat first|refine te ?_|refine bo rfl ?_
   refine zq _ ?_
   subst hleft
   refine Sr (Oa U (E1 6 U (zj ?_)))
   refine zw U U ?_
   have:c=d:=zvd h.l.ok h2.l.ok (by omega) fun t ht=>by
    obtain⟨x,hx,rfl⟩:=List.mem_map.1 ((h.l.mem t).2 ht)
    rcases hall x hx with h1|h1
    ·cases h1
    exact h1
   exact⟨by rw[dt this],hcx⟩
  |cons q0 l0=>
   refine za ?_
   refine Oq (zcP U hit U (fun h=>absurd (hleft.symm.trans h) (by simp)) ?_)
   intro q l1 l2 w18 e18 n18 c18 k18
   refine Oe U U (E4 1 2 17 19 U ?_)
   have hq:q∈L.map CE.en:=by
    obtain⟨_,_,_,_,_,_,_,hsub,_⟩:=hit
    exact hsub q (by rw[e18];simp)
   obtain⟨y,hy,rfl⟩:=List.mem_map.1 hq
   have hyc:y.tb∈c:=(h.l.mem _).1 (List.mem_map.2 ⟨y,hy,rfl⟩)
   refine zf (ze U (zm (zp (Sr (Og (zfm U k18) U (Oe U U (Oe U U (Oa U (Oa U (E5 1 2 7 8 17 U ?_))))))))))
   have hc18:=hcx.own c18 (by intro b hb;simp at hb;omega)
   have h18:=h2.chg0 hc18
   have hbad:y.tb∉d→∀{W:Wl},zk [] w W→((fun(r:Va) w'=>r=.bool (decide (c=d))∧zk [] w w') (.bool false) W):=fun hn W hW=>⟨by rw[df (show c≠d from fun e=>hn (by rw[←e];exact hyc))],hW⟩
   refine zf ?_
   cases hf:zan L2 y.n with
   |none=>
    refine za (Om U (Om U ?_))
    refine Og (zc4 (κ:=zbM) zeW (zap st9) zjP U U h18.map (show zbb _ _=none by rw[zbD];show (zan L2 y.n).map _=none;rw[hf];rfl)) U ?_
    refine Om U (Oe U U (Oe U U (Oa U (Oa U (E6 1 2 8 9 10 17 U (Sr (Om U (Og (zC U) U (Om U (Ok U (Ok U (Ok U (Ok U (Ok U (Ot U (E4 1 2 17 37 U (ze U (Sr (Oa U (E1 6 U (zj ?_)))))))))))))))))))))
    repeat first|refine tr ?_|refine br ?_
    refine zw U U ?_
    refine hbad (fun hm=>?_) hc18
    obtain⟨z,hz,e⟩:=List.mem_map.1 ((h2.l.mem _).2 hm)
    exact zep hf z hz (congrArg Tb.n e)
   |some z=>
    obtain⟨hz,hzn⟩:=zaL hf
    by_cases hsame:y.s=z.s∧y.r=z.r
    ·refine za (Om U (Om U ?_))
     refine Og (zc4 (κ:=zbM) zeW (zap st9) zjP U U h18.map (show zbb _ _=some z.pt by rw[zbD];show (zan L2 y.n).map _=some z.pt;rw[hf];rfl)) U ?_
     refine Om U (Oe U U (Oe U U (Oa U (Oa U (E6 1 2 8 9 10 17 U (Sr (Om U (Og (zC U) U (Om U (Ov U (Ov U (Ov U ?_))))))))))))
     refine Ow U U zAJ U U U (zsF y.q z.q y.ow z.ow y.s z.s y.r z.r _ ((h.l.tabs y hy).chg0 hc18) (h18.l.tabs z hz)) ?_
     rintro v35 w35⟨e35,c35⟩
     rw[dt hsame.1,dt hsame.2]at e35
     subst e35
     refine Oi U (zC U) (Of U (E4 1 2 17 37 U (zb U (zT (zl ?_)))))
     refine⟨l1.length+l2.length,by rw[←hleft,e18];simp,l1++l2,_,by simp,rfl,k18.chg c35 (by simp) (by simp),fun x hx=>?_,hc18.trans c35⟩
     rcases hall x hx with h1|h1
     ·rw[e18]at h1
      rcases List.mem_append.1 h1 with h1|h1
      ·exact .inl (List.mem_append_left _ h1)
      rcases Mc h1 with h1|h1
      ·obtain rfl:=h.l.uniq hx hy (congrArg Prod.fst h1)
       refine .inr ((h2.l.mem _).1 (List.mem_map.2 ⟨z,hz,?_⟩))
       show Tb.mk z.n z.s z.r=Tb.mk x.n x.s x.r
       rw[hzn,hsame.1,hsame.2]
      exact .inl (List.mem_append_right _ h1)
     exact .inr h1
    have hsf:(decide (y.s=z.s)&&decide (y.r=z.r))=false:=by
     cases hb:decide (y.s=z.s)&&decide (y.r=z.r) with
     |false=>rfl
     |true=>
      simp only[Bool.and_eq_true,decide_eq_true_eq]at hb
      exact absurd hb hsame
    refine za (Om U (Om U ?_))
    refine Og (zc4 (κ:=zbM) zeW (zap st9) zjP U U h18.map (show zbb _ _=some z.pt by rw[zbD];show (zan L2 y.n).map _=some z.pt;rw[hf];rfl)) U ?_
    refine Om U (Oe U U (Oe U U (Oa U (Oa U (E6 1 2 8 9 10 17 U (Sr (Om U (Og (zC U) U (Om U (Ov U (Ov U (Ov U ?_))))))))))))
    refine Ow U U zAJ U U U (zsF y.q z.q y.ow z.ow y.s z.s y.r z.r _ ((h.l.tabs y hy).chg0 hc18) (h18.l.tabs z hz)) ?_
    rintro v35 w35⟨e35,c35⟩
    rw[hsf]at e35
    subst e35
    refine Oi U (zC U) (Of U (E4 1 2 17 37 U (ze U (Sr (Oa U (E1 6 U (zj ?_)))))))
    repeat first|refine tr ?_|refine br ?_
    refine zw U U ?_
    refine hbad (fun hm=>?_) (hc18.trans c35)
    obtain⟨z2,hz2,e⟩:=List.mem_map.1 ((h2.l.mem _).2 hm)
    have:z2=z:=h2.l.uniq hz2 hz ((congrArg Tb.n e).trans hzn.symm)
    subst this
    exact hsame ⟨(congrArg Tb.s e).symm,(congrArg Tb.r e).symm⟩
 refine za (Om U (Og (zfe (κ:=zbM) zeW U h.map) U (Om U (Og (zfe (κ:=zbM) zeW U h2.map) U ?_))))
 refine Og (vt (zJ U U) (zfj (by omega))) U ?_
 refine E4 0 1 2 15 U (ze U (Sr (Oa U (E1 6 U (zj ?_)))))
 repeat first|refine tr ?_|refine br ?_
 refine zw U U ?_
 exact⟨by rw[df fun e=>hlen (by rw[e])],zk.refl _ _⟩
theorem zu1(hC:zba w p own c)(hD:zba w p2 own2 d) :
 zS TP 14 #[Pt p,Pt p2] w fun r w'=>r=.bool (decide (c=d))∧zk [] w w':=by
 obtain⟨m,L,rfl,h⟩:=hC
 obtain⟨m2,L2,rfl,h2⟩:=hD
 refine A2 Tryz.func14 U U ?_
 refine Sr (Oa U (E2 0 1 U (zf (Sr (Om U (Og (y8 zhE U U) U (Om U (Ov U (Oi U (y8 zhE U U) (Of U (E3 0 1 10 U (zb U (zm ?_)))))))))))))
 have hd:zk [] w w.drew:=zk.drew [] _
 refine zf ?_
 refine zH (fun wz=>zk [] w wz) mix (by kernel_rfl) hd ?_
 refine Tm U (Tp (fun _=>zx U) U (Td za4 U (Tr (fun wz hz=>zg zej U ((h.blk.chg0 hz).cell' (i:=0) U)) U (Tm U (Tp (fun _=>zx U) U (Td za4 U (Tr (fun wz hz=>zg zej U ((h2.blk.chg0 hz).cell' (i:=0) U)) U ?_)))))))
 refine Tc zC7 U U U (zzC (h.chg0 hd) (h2.chg0 hd)) ?_
 rintro v25 w25⟨rfl,c25⟩
 refine⟨.inl (hd.trans c25),?_⟩
 refine Ta U (D1 4 U (zj ?_))
 refine zw U U ?_
 exact⟨U,hd.trans c25⟩
theorem zrE(w:Wl):zS TP 14 #[.pointer none,.pointer none] w fun r w'=>r=.bool true∧zk [] w w':=by
 refine A2 Tryz.func14 U U ?_
 refine Sr (Oa U (E2 0 1 U (zf (Sr (Om U (Og (y8 zhE U U) U (Om U (Ok U (Ok U (Ot U (E3 0 1 10 U (ze U (Sr (Om U (Og (y8 zhE U U) U (Om U (Ov U (Oi U (y8 zhE U U) (Ot U (Oa U (E1 4 U (zj ?_))))))))))))))))))))))
 repeat first|refine tr ?_|refine br ?_
 refine zw U U ?_
 exact⟨U,zk.refl _ _⟩
theorem ztJ(p:Nat)(w:Wl):zS TP 14 #[Pt p,.pointer none] w fun r w'=>r=.bool false∧zk [] w w':=by
 refine A2 Tryz.func14 U U ?_
 refine Sr (Oa U (E2 0 1 U (zf (Sr (Om U (Og (y8 zhE U U) U (Om U (Ov U (Oi U (y8 zhE U U) (Of U (E3 0 1 10 U (ze U (Sr (Om U (Og (y8 zhE U U) U (Om U (Ok U (Ok U (Of U (Oa U (E1 4 U (zj ?_))))))))))))))))))))))
 repeat first|refine tr ?_|refine br ?_
 refine zw U U ?_
 exact⟨U,zk.refl _ _⟩
end
section
variable {c:Cat}
theorem zgG(c:Cat)(x:EvT)(l:List EvT):zee c (x::l)=zee (doC c x) l:=rfl
theorem zlm(c:Cat)(l:List EvT)(x:EvT):zee c (l++[x])=doC (zee c l) x:=by simp[zee]
theorem zmr:∀{l:List EvT} {c:Cat} {i j:Nat} {x:EvT},l[j]?=some x→(∀k y,k<j→l[k]?=some y→doE (zee c (l.take k)) y=0)→doE (zee c (l.take j)) x≠0→zh3 c l i=(i+j,doE (zee c (l.take j)) x)
 |[],_,_,_,_,h,_,_=>by simp at h
 |y::l,c,i,0,x,h,_,h0=>by
  simp at h
  subst h
  have h0:doE c y≠0:=h0
  unfold zh3
  rw[if_pos h0]
  rfl
 |y::l,c,i,j+1,x,h,hk,h0=>by
  have hy:doE c y=0:=hk 0 y (by omega) rfl
  unfold zh3
  rw[if_neg (by simp[hy])]
  rw[zmr (c:=doC c y) (i:=i+1) (j:=j) (x:=x) (by simpa using h) (fun k z hkj hz=>by
   have:=hk (k+1) z (by omega) (by simpa using hz)
   rwa [List.take_succ_cons,zgG]at this) (by rwa [List.take_succ_cons,zgG]at h0)]
  rw[List.take_succ_cons,zgG]
  congr 1
  omega
theorem zpu:∀{l:List EvT} {c:Cat} {i:Nat},(∀k y,l[k]?=some y→doE (zee c (l.take k)) y=0)→zh3 c l i=(0,0)
 |[],_,_,_=>rfl
 |y::l,c,i,hk=>by
  have hy:doE c y=0:=hk 0 y rfl
  unfold zh3
  rw[if_neg (by simp[hy])]
  exact zpu fun k z hz=>by
   have:=hk (k+1) z (by simpa using hz)
   rwa [List.take_succ_cons,zgG]at this
theorem za0.all{l:List EvT}(h:za0 c)(hg:∀x∈l,∀y∈x.w,y.Rng):za0 (zee c l):=by
 induction l generalizing c with
 |nil=>exact h
 |cons x l ih=>exact ih (h.do (hg x (by simp))) fun y hy=>hg y (by simp[hy])
end
section
variable {w w':Wl} {p m:Nat} {L:List CE} {c:Cat} {own:List Nat} {v:Va} {xs:List EvT}
theorem zyV(hE:EOk w)(hC:zba w p own c)(hL:zed w v xs)(hm:∀x∈xs,zcY x)(hn:xs.length≤1048576) :
 zS TP 16 #[Pt p,v] w fun r w'=>r=.tuple #[Ii (zh3 c xs 0).1,Ii (zh3 c xs 0).2]∧zk [p] w w'∧∃own',zba w' p own' (zoP c xs)∧∀b∈own',b∈own∨w.heap.size≤b:=by
 obtain⟨pv,cv,rfl,hcv⟩:=hL.val
 refine A2 Tryz.func16 U U ?_
 refine Sr (Oa U (Oa U (E2 0 1 U (zf (Sr (Om U (Og (y8 zhE U U) U (E3 0 1 11 U (zb U (zm (Sr (Om U ?_))))))))))))
 refine Oc zAj U U U (zqt hC) ?_
 rintro v13 w13⟨p',own',rfl,hD,ho',c13⟩
 refine Oa U (E3 0 1 6 U (zf (Sr (Om U (On zhV U (Om U (E5 0 6 14 15 16 U (zp ?_))))))))
 refine zQ [0,6,14,15,16] (fun kk F wx=>∃(j:Nat) (ow:List Nat),kk=xs.length-j∧j≤xs.length∧F=[(0,Pt p),(6,Pt p'),(14,.slice pv xs.length cv),(15,Ii xs.length),(16,Ii j)]∧zba wx p' ow (zee c (xs.take j))∧(∀b∈ow,w.heap.size≤b)∧(∀k y,k<j→xs[k]?=some y→doE (zee c (xs.take k)) y=0)∧zk [] w wx) (m:=xs.length-0) ⟨0,own',rfl,Zl _,rfl,hD,ho',(by intro k y hk;omega),c13⟩ ?_
 rintro kk F wx⟨j,ow,rfl,hj,rfl,hDx,how,hok,hcx⟩
 refine zf ?_
 by_cases hlt:j<xs.length
 ·refine za ?_
  refine Og (vt (zz U U) (by simp;omega)) U ?_
  refine E6 0 6 14 15 16 17 U (zf (ze U (zm ?_)))
  have hx:xs[j]?=some xs[j]:=by simp[hlt]
  have htk:=List.take_succ_eq_append_getElem hlt
  have hmem:=List.getElem_mem hlt
  generalize xs[j]=x at hx htk hmem
  obtain⟨b,off,cap,e,hve,hcell,hxe⟩:=(hL.chg0 hcx).at hx
  cases hve
  have hlen:=zjk x e
  refine zf (zp (Sr (Om U ?_)))
  refine Og (zi zhV zaD U U _ U hlt) U ?_
  refine Og (zh zbO zaD U hlen hcell) U ?_
  refine Oq (zF zh6 U U ?_)
  intro b8 w8 e8 n8 c8 k8
  refine Oa U ?_
  refine Oq (zt zaD U U U U k8 (by simp[evC]) hxe.one ?_)
  intro wA nA cA kA
  refine E7 0 6 7 8 14 15 16 U ?_
  have kA:zO wA b8 39 (evC x e):=kA
  have hcA:zk [] wx wA:=c8.own cA (by intro y hy;simp at hy;omega)
  have hcw:=hcx.trans hcA
  have hDA:=hDx.chg0 hcA
  have hHm:=hDA.hmO
  refine zf ?_
  by_cases he0:doE (zee c (xs.take j)) x=0
  ·refine za (Om U (Og (zh zbO zaD U U (zv.of_blk0 kA)) U ?_))
   refine Oc zi2 U U U (ztK (hE.chg0 hcw) hDA (hxe.chg0 hcA) (hm x hmem)) ?_
   rintro v23 w23⟨rfl,c23,ow',hD',how'⟩
   refine Oa U (E7 0 6 7 9 14 15 16 U (Sr (Om U (Og (vf (zJ U U) (zcp he0)) U (E8 0 6 7 9 14 15 16 25 U (zb U (zT (zl (za ?_)))))))))
   refine Og (zG U U (by omega)) U ?_
   refine Om U (N5 0 6 14 15 16 U ?_)
   refine⟨xs.length-(j+1),by omega,j+1,ow',rfl,by omega,rfl,?_,fun b hb=>?_,fun k y hk hy=>?_,hcw.own c23 (fun b hb=>how b hb)⟩
   ·rw[htk,zlm]
    exact hD'
   ·rcases how' b hb with h1|h1
    ·exact how b h1
    exact Nat.le_trans hcw.size h1
   by_cases hkj:k=j
   ·subst hkj
    rw[hx]at hy
    cases hy
    exact he0
   exact hok k y (by omega) hy
  refine za (Om U (Og (zh zbO zaD U U (zv.of_blk0 kA)) U ?_))
  refine Oc zi2 U U U (ztK (hE.chg0 hcw) hDA (hxe.chg0 hcA) (hm x hmem)) ?_
  rintro v23 w23⟨rfl,c23,ow',hD',how'⟩
  refine Oa U (E7 0 6 7 9 14 15 16 U (Sr (Om U (Og (vt (zJ U U) (zfj he0)) U (E8 0 6 7 9 14 15 16 25 U (ze U (Sr (Om U (Om U (Oa U (Oa U (E2 4 5 U (zj ?_)))))))))))))
  repeat first|refine tr ?_|refine br ?_
  refine zcF U U U ?_
  have he:=zmr (i:=0) hx hok he0
  have hcf:zk [] w w23:=hcw.own c23 (fun b hb=>how b hb)
  refine⟨by rw[he];simp,hcf.any,own,?_,fun b hb=>.inl hb⟩
  unfold zoP
  rw[he,if_neg he0]
  exact hC.chg0 hcf
 refine za ?_
 refine Og (vf (zz U U) (by simp;omega)) U ?_
 refine E6 0 6 14 15 16 17 U (zf (zb U ?_))
 refine zI ?_
 repeat first|refine te ?_|refine bo rfl ?_
 refine zq _ ?_
 have hjl:j=xs.length:=by omega
 subst hjl
 have he:=zpu (i:=0) (fun k y hy=>hok k y (Gs hy).1 hy)
 rw[Tl (Nat.le_refl _)]at hDx
 obtain⟨m',L',rfl,h'⟩:=hDx
 obtain⟨m,L,rfl,h⟩:=hC
 have hx:=h.chg0 hcx
 refine Sr (Om U (Om U (Og (zx U) U (Od za4 U (Ol zej U (h'.blk.cell' (i:=0) U) (Og (zx U) U (Od za4 U ?_)))))))
 refine Oq (zt zz9 U U U U hx.blk (by simp) (by simp[Value.oneCell']) ?_)
 intro wD nD cD kD
 refine yO [] (F':=[]) U ?_
 have kD:zO wD p 83 [.map (some m')]:=kD
 refine Sr (Oa U (Oa U (E2 4 5 U (zj ?_))))
 refine zcF U U U ?_
 refine⟨by rw[he];rfl,(hcx.any).transS cD,p::m'::owL L',?_,fun b hb=>?_⟩
 ·unfold zoP
  rw[he,if_pos rfl]
  refine⟨m',L',U,kD,h'.map.chg cD (fun hb=>?_),h'.l.hm (fun y hy hm=>?_) (Hm.cat hx.blk hx.ge.1) cD,hx.ge.1,h'.ge.2⟩
  ·simp at hb
   subst hb
   exact h'.map.ne hx.blk U
  simp at hm
  subst hm
  obtain⟨_,_,_,hp⟩:=h'.l.pagesO y hy
  exact hp.ne hx.blk U U
 rcases Mc hb with rfl|hb
 ·exact .inl (by simp)
 exact .inr (how b (List.mem_cons_of_mem _ hb))
theorem zsk(h:zbw w L c){l:List By}(hp:l.Perm (zb7 (L.map CE.en)))(hs:l.Pairwise fun a b=>blt a b=true):l=c.map (·.n):=by
 refine zjC hs (by rw[List.pairwise_map];exact h.ok.srt) fun x=>?_
 rw[hp.mem_iff,zb7,List.map_map]
 simp only[List.mem_map,Function.comp_apply]
 constructor
 ·rintro ⟨y,hy,rfl⟩
  exact⟨y.tb,(h.mem _).1 (List.mem_map.2 ⟨y,hy,U⟩),U⟩
 rintro⟨t,ht,rfl⟩
 obtain⟨y,hy,rfl⟩:=List.mem_map.1 ((h.mem t).2 ht)
 exact⟨y,hy,U⟩
theorem zub(hC:zba w p own c):zS TP 20 #[Pt p] w fun r w'=>∃b q cp,r=.func (.func 49) #[] #[Pt b]∧zO w' b 105 [.slice q c.length cp]∧zB w' 9 1 (.slice q c.length cp) c.length (sv (c.map (·.n)))∧w.heap.size≤b∧zk [] w w':=by
 obtain⟨m,L,rfl,h⟩:=hC
 refine A1 Tryz.func20 U U ?_
 refine Sr (Oa U (E1 0 U (Sr ?_)))
 refine Oq (zF zBN U U ?_)
 intro b3 w3 e3 n3 c3 k3
 refine E2 0 3 U ?_
 have h3:=h.chg0 c3
 refine zf (Sr (Om U (Og (znq zhE U U) U (E3 0 3 5 U (ze U (za (Om U (Og (zx U) U (Od za4 U (Ol zej U (h3.blk.cell' (i:=0) U) ?_))))))))))
 refine Oc zDg U U U (zsE m _ _ h3.map (by rw[List.length_map,h.l.len];exact h.l.ok.le) (by rw[zb7,List.map_map];exact h.l.names)) ?_
 rintro v10 w10⟨l,hp,hs,il,fl,c10⟩
 obtain rfl:=zsk h.l hp hs
 obtain⟨q10,cp10,rfl,-⟩:=id (zB.val il)
 refine Oq (zt zxd U U U U (k3.chg0 c10) (by simp) (by simp[Value.oneCell']) ?_)
 intro wA nA cA kA
 refine E1 3 U ?_
 have hb3:∀b∈zu (.slice q10 (c.map (·.n)).length cp10),b∉[b3]:=fun b hb hm=>by
  have h1:=fl b hb
  simp at hm
  omega
 have il:=il.chg cA hb3
 rw[List.length_map]at il
 have kA:zO wA b3 105 [.slice q10 (c.map (·.n)).length cp10]:=kA
 rw[List.length_map]at kA
 refine Sr (Og (zau U U) U (Oa U (E1 2 U (zj ?_))))
 refine zw U U ?_
 exact⟨b3,q10,cp10,rfl,kA,il,by omega,(c3.trans c10).own cA (by intro y hy;simp at hy;omega)⟩
end
def alN(l:List By):List (Nat×By):=(List.range l.length).map fun i=>(i,l.getD i e0)
theorem zi9(l:List By):(alN l).length=l.length:=by simp[alN]
theorem zt1{l:List By}{i:Nat}{x:By}(h:l[i]?=some x):(alN l)[i]?=some (i,x):=by
 obtain⟨hl,hx⟩:=Gs h
 simp[alN,hl,hx]
theorem zv1{l:List By}{pre:List (Nat×By)}{x:Nat×By}(h:pre++[x] <+: alN l):x.1=pre.length∧l[pre.length]?=some x.2:=by
 have h1:(pre++[x])[pre.length]?=some x:=by simp
 obtain⟨r,hr⟩:=h
 have h2:(alN l)[pre.length]?=some x:=by
  rw[←hr,List.getElem?_append_left (by simp)]
  exact h1
 have hl:pre.length<l.length:=by
  have:=(Gs h2).1
  rwa [zi9]at this
 have hx:l[pre.length]?=some l[pre.length]:=by simp[hl]
 have h3:=zt1 hx
 rw[h2]at h3
 cases h3
 exact⟨U,hx⟩
theorem zlF(w:Wl)(b3:Nat)(q:Option Addr)(cp:Nat)(l:List By)(S0:List Nat)(h3:zO w b3 105 [.slice q l.length cp])(hv:zB w 9 1 (.slice q l.length cp) l.length (sv l))(hn:l.length≤1048576)(k3:b3∉S0)
 (hS:∀b∈S0,∀e c,zO w b e c→Nat.beq 9 e=false) :
 zrv TP 49 #[Pt b3] (fun x:Nat×By => #[Ii x.1,.string x.2]) (Kp S0 w.heap.size) (fun xs=>xs=alN l) (fun pre=>pre <+: alN l) (fun pre=>pre <+: alN l) w:=by
 intro lb J Jx W hW hJ hJx hY h0
 have hcw:zk [] w W:=⟨hW.os,hW.tape,hW.output,hW.size,fun k hk _=>hW.block k hk⟩
 have hkw:Kp S0 w.heap.size w W:=⟨hcw.size,fun k hk _=>hcw.block k hk (by simp)⟩
 have fsl:∀{W1:Wl},Kp S0 w.heap.size w W1→zB W1 9 1 (.slice q l.length cp) l.length (sv l):=fun hk=>Kp.sl (fun k hlt hn=>hk.2 k hlt hn) hv (fun b hb e c hc=>hS b hb e c hc)
 refine CallsIn.mono (R:=fun e W'=>∃u,e=.returned u∧(fun(_:Va) W'=>(∃xs,xs=alN l∧J xs W')∨(∃pre,pre <+: alN l∧Jx pre W')) u W') ?_ (fun e W' ⟨u,he,h⟩=>⟨⟨u,he⟩,h⟩)
 refine CallsIn.of_WX (args:=[_,_]) Tryz.func49 U U U U (zhH ?_)
 refine zht ?_
 refine zf ?_
 refine zjc ?_
 refine Sr (Ol zuc U ((h3.chg0 hcw).cell' (i:=0) U) (On zeL U (Om U (E4 0 5 6 7 U (zp ?_)))))
 refine zQ [0,5,6,7] (fun kk F wx=>∃j:Nat,kk=l.length-j∧j≤l.length∧F=[(0,.func (.yield lb) #[] #[]),(5,.slice q l.length cp),(6,Ii l.length),(7,Ii j)]∧Kp S0 w.heap.size w wx∧J ((alN l).take j) wx) (m:=l.length-0) ⟨0,U,Zl _,U,hkw,h0⟩ ?_
 rintro kk F wx⟨j,rfl,hj,rfl,hkx,hJ0⟩
 refine zf ?_
 by_cases hlt:j<l.length
 ·refine za ?_
  refine Og (vt (zz U U) (by simp;omega)) U ?_
  refine E5 0 5 6 7 8 U (zf (ze U (zm ?_)))
  have hx:l[j]?=some l[j]:=by simp[hlt]
  generalize l[j]=x at hx
  have hal:=zt1 hx
  have hsn:(alN l).take (j+1)=(alN l).take j++[(j,x)]:=by rw[List.take_add_one,hal];rfl
  obtain⟨b,off,cap,u,hve,hu,hcell⟩:=(fsl hkx).at1 hlt
  cases hve
  have hux:u=.string x:=by
   have:(sv l)[j]?=some (.string x):=by rw[sv,List.getElem?_map,hx];rfl
   rw[this]at hu
   exact(Option.some.inj hu).symm
  subst hux
  refine zf (zp (Sr (Om U ?_)))
  refine Og (zi zeL sz9 U U _ U hlt) U ?_
  refine Ol yI U hcell (Oa U (Oa U (E6 0 3 4 5 6 7 U (zf ?_))))
  refine zfa ?_
  refine Xm U (Xm U (Xm U ?_))
  refine zgA (gn U) U U U (hY ((alN l).take j) (j,x) wx hJ0 (by rw[←hsn];exact List.take_prefix _ _)) ?_
  rintro v15 w15 hR15
  obtain⟨b15,rfl,hb15⟩:=yb hR15
  refine⟨_,U,?_⟩
  refine yh (gn U) U (St.vl (zC U) U U ?_)
  refine zcf [0,5,6,7,16] (F':=[(0,_),(5,_),(6,_),(7,_),(16,_)]) U ?_
  rcases hb15 with⟨rfl,hJ15,hk15⟩|⟨rfl,hJ15⟩
  ·refine zb U (zT (zl (za ?_)))
   refine Og (zG U U (by omega)) U ?_
   refine Om U (N4 0 5 6 7 U ?_)
   refine⟨l.length-(j+1),by omega,j+1,rfl,by omega,rfl,hkx.trans hk15,?_⟩
   rw[hsn]
   exact hJ15
  refine ze U ?_
  refine zI ?_
  repeat first|refine te ?_|refine bo rfl ?_
  refine zq _ ?_
  refine zf1 ?_
  refine zgL U ?_
  exact .inr ⟨(alN l).take j++[(j,x)],by rw[←hsn];exact List.take_prefix _ _,hJ15⟩
 refine za ?_
 refine Og (vf (zz U U) (by simp;omega)) U ?_
 refine E5 0 5 6 7 8 U (zf (zb U ?_))
 refine zI ?_
 repeat first|refine te ?_|refine bo rfl ?_
 refine zq _ ?_
 refine zf1 ?_
 refine zgL U ?_
 refine .inl ⟨_,U,?_⟩
 rw[Tl (by rw[zi9];omega)]at hJ0
 exact hJ0
end Go.Wk
