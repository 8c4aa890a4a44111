/- joined texts -/
import Derived.Test.YtkfpmjjcogigfaaGreatDoorI13
set_option linter.all false
namespace Go.Wk
open Go.Proofs
set_option linter.unusedSectionVars false
variable [Lw]
set_option maxRecDepth 10000
section
variable {c:Cat} {x:EvT} {t:Tb}
theorem zxC(hr:z6 x=true)(hk:x.k=4):doE c x=match atC c x.t with|none=>if 12≤c.length then 3 else 0|some _=>220:=by
 unfold doE
 rw[if_neg (by simp[hr]),if_neg (by omega)]
 cases atC c x.t with
 |none=>exact if_pos hk
 |some t=>exact if_pos hk
theorem zxc(hk:x.k=4)(he:doE c x=0):doC c x=zci c ⟨x.t,x.s,[]⟩:=by
 unfold doC
 rw[if_neg (by simp[he]),if_neg (by omega),if_pos hk]
theorem zAa(hr:z6 x=true)(hk:x.k=5):doE c x=match atC c x.t with|none=>5|some _=>0:=by
 unfold doE
 rw[if_neg (by simp[hr]),if_neg (by omega)]
 cases atC c x.t with
 |none=>exact if_neg (by omega)
 |some t=>exact(if_neg (by omega)).trans (if_pos hk)
theorem zwn(hk:x.k=5)(he:doE c x=0):doC c x=zbT c x.t:=by
 unfold doC
 rw[if_neg (by simp[he]),if_neg (by omega),if_neg (by omega),if_pos hk]
end
section
variable {w w':Wl} {p m:Nat} {L:List CE} {c:Cat} {x:EvT} {y:CE} {e:EvV} {r:Va} {n:By}
theorem zdJ.notO(h:zdJ w p m L c):∀b∈owL L,b≠p∧b≠m:=fun b hb=>by
 obtain⟨x,hx,hb⟩:=zbE.1 hb
 obtain⟨_,_,_,hp⟩:=(h.l.tabs x hx).pages b hb
 exact⟨hp.ne h.blk U,fun e=>h.map.ne hp e.symm⟩
theorem zf4.zero(h:zf4 w r 0):r=.nilIface:=by
 rcases h with⟨h,_⟩|⟨_,h⟩
 ·exact h
 exact absurd U h
theorem zqM(hE:EOk w)(h:zdJ w p m L c)(hx:zbv w e x)(hm:zcP x)(hr:z6 x=true)(hk:x.k=4) :
 zT TP 66 #[Pt p,.agg (evC x e).toArray] w (DoR w p (p::m::owL L) c x):=by
 refine A2 Tryz.func66 U U ?_
 refine Sr ?_
 refine Ob U U ?_
 intro b3 w3 e3 n3 c3 k3
 refine Oa U (E2 0 3 U ?_)
 have k3:zO w3 b3 39 (evC x e):=k3
 have h3:=h.chg0 c3
 have hd:zk [] w3 w3.drew:=zk.drew [] _
 refine zf ?_
 cases hf:zaw L x.t with
 |some y=>
  refine zI (fun wz=>zk [] w3 wz) mix (by kernel_rfl) hd ?_
  refine Tm U (Tp (fun _=>zB U) U (Td zba U (Tr (fun wz hz=>zg zeu U ((h3.blk.chg0 hz).cell' (i:=0) U)) U (Td z9 U (Tr (fun wz hz=>zg yH U ((k3.chg0 hz).cell' (i:=1) U)) U ?_)))))
  refine Tc ziR U U U (zeR (h3.map.chg0 hd) hf) ?_
  rintro v17 w17⟨rfl,rfl⟩
  refine⟨.inl hd,?_⟩
  refine Tm U (Tp (fun _=>zM U U) U (Tp (fun _=>zM U U) U (Ta U (Ta U (D3 0 3 6 U (zf (zp (Sr (Om U (Oa U (E3 0 3 20 U (ze U (Sr ?_)))))))))))))
  refine Od z9 U (Ol yH U ((k3.chg0 hd).cell' (i:=1) U) (Og (z5 zdL U) U ?_))
  refine Og (zK zfC zfw U (vs:=[_,_]) U (css:=[_,_]) ⟨U,U,trivial⟩ U U (cs:=[_,_]) U) U ?_
  refine Og (z5 zfx U) U (Oa U (E1 4 U (zj ?_)))
  repeat first|refine tr ?_|refine br ?_
  refine zw U U ?_
  exact DoR.no (h3.chg0 hd) (c3.trans hd) (by rw[zxC hr hk,h.l.at,hf];rfl) (by decide) (zjC _ _ _)
 |none=>
  have hat:atC c x.t=none:=by rw[h.l.at,hf];rfl
  refine zI (fun wz=>zk [] w3 wz) mix (by kernel_rfl) hd ?_
  refine Tm U (Tp (fun _=>zB U) U (Td zba U (Tr (fun wz hz=>zg zeu U ((h3.blk.chg0 hz).cell' (i:=0) U)) U (Td z9 U (Tr (fun wz hz=>zg yH U ((k3.chg0 hz).cell' (i:=1) U)) U ?_)))))
  refine Tc ziR U U U (zeQ (h3.map.chg0 hd) hf) ?_
  rintro v17 w17⟨rfl,rfl⟩
  refine⟨.inl hd,?_⟩
  refine Tm U (Tp (fun _=>zM U U) U (Tp (fun _=>zM U U) U (Ta U (Ta U (D3 0 3 6 U ?_)))))
  have k4:=k3.chg0 hd
  have h4:=h3.chg0 hd
  have c4:=c3.trans hd
  have hs4:=hd.size
  generalize w3.drew=w4 at *
  have hlen:(L.map CE.en).length=c.length:=by rw[List.length_map,h.l.len]
  refine zf (zp (Sr (Om U (Oa U (E3 0 3 20 U (zb U (zf ?_)))))))
  by_cases h12:12≤c.length
  ·refine za (Om U (Og (zB U) U (Od zba U (Ol zeu U (h4.blk.cell' (i:=0) U) (Og (zmS (κ:=zce) zim U h4.map) U ?_)))))
   refine Og (vt (yc U U) (dt (by omega))) U ?_
   refine Oa U (E3 0 3 27 U (ze U (Sr (Od z9 U (Ol yH U (k4.cell' (i:=1) U) (Og (z5 zdL U) U ?_))))))
   refine Og (zK zfC zfw U (vs:=[_,_]) U (css:=[_,_]) ⟨U,U,trivial⟩ U U (cs:=[_,_]) U) U ?_
   refine Og (z5 zfx U) U (Oa U (E1 4 U (zj ?_)))
   repeat first|refine tr ?_|refine br ?_
   refine zw U U ?_
   exact DoR.no h4 c4 (by rw[zxC hr hk,hat];exact if_pos h12) (by decide) (zjC _ _ _)
  have he0:doE c x=0:=by rw[zxC hr hk,hat];exact if_neg h12
  refine za (Om U (Og (zB U) U (Od zba U (Ol zeu U (h4.blk.cell' (i:=0) U) (Og (zmS (κ:=zce) zim U h4.map) U ?_)))))
  refine Og (vf (yc U U) (df (by omega))) U ?_
  refine Oa U (E3 0 3 27 U (zb U (zV (zl (Sr (Od za4 U ?_))))))
  refine Og (zh zbu zbj U U (zx.of_blk k4 2 [e.c,e.ky,e.u] ⟨[e.o,e.n,e.m],U⟩)) U ?_
  refine Oc zCo U U U (zxS e.c e.ky e.u x.s _ (hx.sch.chg0 c4) (zwP hr hk).2 h4.nn) ?_
  rintro v42 w42⟨t,own,rfl,hT,-,ho,c42,-⟩
  refine Om U (Oe U U (Oe U U (Oa U (Oa U (E4 0 3 7 8 U ?_)))))
  have k5:=k4.chg0 c42
  have h5:=h4.chg0 c42
  have c5:=c4.trans c42
  refine zf (Sr (Od z9 U (Ol yH U (k5.cell' (i:=1) U) (Om U ?_))))
  refine Oc zqn U U U (zff x.t 0 _) ?_
  rintro v48 w48⟨hz48,c48⟩
  obtain rfl:=hz48.zero
  refine Oa U (E4 0 3 7 9 U ?_)
  have k6:=k5.chg0 c48
  have h6:=h5.chg0 c48
  have c6:=c5.trans c48
  have hT6:=hT.chg0 c48
  refine Sr (Om U (Og (zbk zcu U U) U (E5 0 3 7 9 50 U (zb U (zm ?_)))))
  have hd6:zk [] w48 w48.drew:=zk.drew [] _
  refine zf ?_
  refine zI (fun wz=>zk [] w48 wz) mix (by kernel_rfl) hd6 ?_
  refine Tm U (Tp (fun _=>zB U) U (Td zba U (Tr (fun wz hz=>zg zeu U ((h6.blk.chg0 hz).cell' (i:=0) U)) U (Td z9 U (Tr (fun wz hz=>zg yH U ((k6.chg0 hz).cell' (i:=1) U)) U (Tm U ?_))))))
  refine zaK U (gn U) (zi5 (κ:=zce) zim (zaP st9) U U U (h6.map.chg0 hd6) ?_)
  intro wA nA cA kA
  refine⟨.inr (by kernel_rfl),?_⟩
  refine zhx [] (F':=[]) U ?_
  refine Sr (Oa U (E1 4 U (zj ?_)))
  refine zw U U ?_
  have hcA:zk [m] w48 wA:=(hd6.any (S:=[m])).transS cA
  have hpm:p∉[m]:=by
   intro hb
   simp at hb
   exact h6.map.ne h6.blk hb.symm
  have hw4:w.heap.size≤w4.heap.size:=c4.size
  have hnew:zbq w48 (L++[⟨x.t,t,own,x.s,[]⟩]) (zci c ⟨x.t,x.s,[]⟩):=h6.l.new (x:=⟨x.t,t,own,x.s,[]⟩) hf hT6 (fun b hb hm=>by
   obtain⟨z,hz,hbz⟩:=zbE.1 hb
   have h1:=(h4.l.tabs z hz).lt b hbz
   have h2:=ho b hm
   omega) (by omega)
  refine⟨.inl ⟨rfl,he0⟩,(c6.any).trans' hcA (fun b hb=>.inl (by simp at hb;simp[hb])),p::m::owL (L++[⟨x.t,t,own,x.s,[]⟩]),?_,fun b hb=>?_⟩
  ·rw[zxc hk he0]
   refine⟨m,_,U,h6.blk.chg hcA hpm,?_,hnew.hm (fun b hb hm=>?_) (Hm.map h6.map h6.ge.2) hcA,h6.ge⟩
   ·rw[zhK (by rw[zct,hf];rfl)]at kA
    rw[List.map_append]
    exact kA
   simp at hm
   subst hm
   obtain⟨_,_,_,hp⟩:=hnew.pagesO b hb
   exact h6.map.ne hp U
  rcases List.mem_cons.1 hb with rfl|hb
  ·exact .inl (by simp)
  rcases List.mem_cons.1 hb with rfl|hb
  ·exact .inl (by simp)
  obtain⟨z,hz,hbz⟩:=zbE.1 hb
  rcases List.mem_append.1 hz with hz|hz
  ·exact .inl (by simp only[List.mem_cons];exact .inr (.inr (zbE.2 ⟨z,hz,hbz⟩)))
  simp at hz
  subst hz
  exact .inr (Nat.le_trans hw4 (ho b hbz))
theorem zvo(h:zdJ w p m L c)(hr:z6 x=true)(hk:x.k=5) :
 zT TP 67 #[Pt p,.agg (evC x e).toArray] w (DoR w p (p::m::owL L) c x):=by
 refine A2 Tryz.func67 U U ?_
 refine Sr ?_
 refine Ob U U ?_
 intro b3 w3 e3 n3 c3 k3
 refine Oa U (E2 0 3 U ?_)
 have k3:zO w3 b3 39 (evC x e):=k3
 have h3:=h.chg0 c3
 have hd:zk [] w3 w3.drew:=zk.drew [] _
 refine zf (zf ?_)
 cases hf:zaw L x.t with
 |none=>
  refine zI (fun wz=>zk [] w3 wz) mix (by kernel_rfl) hd ?_
  refine Tm U (Tp (fun _=>zB U) U (Td zba U (Tr (fun wz hz=>zg zeu U ((h3.blk.chg0 hz).cell' (i:=0) U)) U (Td z9 U (Tr (fun wz hz=>zg yH U ((k3.chg0 hz).cell' (i:=1) U)) U ?_)))))
  refine Tc ziR U U U (zeQ (h3.map.chg0 hd) hf) ?_
  rintro v14 w14⟨rfl,rfl⟩
  refine⟨.inl hd,?_⟩
  refine Tm U (Tp (fun _=>zM U U) U (Tp (fun _=>zM U U) U (Ta U (Ta U (D3 0 3 6 U (Sr (Om U (Og (zC U) U (E3 0 3 18 U (ze U (Sr (Od z9 U (Ol yH U ((k3.chg0 hd).cell' (i:=1) U) ?_)))))))))))))
  refine Og (z5 zdL U) U ?_
  refine Og (zK zfC zfw U (vs:=[_,_]) U (css:=[_,_]) ⟨U,U,trivial⟩ U U (cs:=[_,_]) U) U ?_
  refine Og (z5 zfx U) U (Oa U (E1 4 U (zj ?_)))
  repeat first|refine tr ?_|refine br ?_
  refine zw U U ?_
  exact DoR.no (h3.chg0 hd) (c3.trans hd) (by rw[zAa hr hk,h.l.at,hf];rfl) (by decide) (zjC _ _ _)
 |some y=>
  have he0:doE c x=0:=by rw[zAa hr hk,h.l.at,hf];rfl
  refine zI (fun wz=>zk [] w3 wz) mix (by kernel_rfl) hd ?_
  refine Tm U (Tp (fun _=>zB U) U (Td zba U (Tr (fun wz hz=>zg zeu U ((h3.blk.chg0 hz).cell' (i:=0) U)) U (Td z9 U (Tr (fun wz hz=>zg yH U ((k3.chg0 hz).cell' (i:=1) U)) U ?_)))))
  refine Tc ziR U U U (zeR (h3.map.chg0 hd) hf) ?_
  rintro v14 w14⟨rfl,rfl⟩
  refine⟨.inl hd,?_⟩
  refine Tm U (Tp (fun _=>zM U U) U (Tp (fun _=>zM U U) U (Ta U (Ta U (D3 0 3 6 U ?_)))))
  have k4:=k3.chg0 hd
  have h4:=h3.chg0 hd
  have c4:=c3.trans hd
  generalize w3.drew=w4 at *
  have hd4:zk [] w4 w4.drew:=zk.drew [] _
  refine Sr (Om U (Og (zC U) U (E3 0 3 18 U (zb U (zm (zf ?_))))))
  refine zI (fun wz=>zk [] w4 wz) mix (by kernel_rfl) hd4 ?_
  refine Tm U (Tp (fun _=>zB U) U (Td zba U (Tr (fun wz hz=>zg zeu U ((h4.blk.chg0 hz).cell' (i:=0) U)) U (Td z9 U (Tr (fun wz hz=>zg yH U ((k4.chg0 hz).cell' (i:=1) U)) U ?_)))))
  refine zaK U (gn U) (zpg (κ:=zce) zim (zaP st9) U U (h4.map.chg0 hd4) ?_)
  intro wA nA cA kA
  refine⟨.inr (by kernel_rfl),?_⟩
  refine zhx [] (F':=[]) U ?_
  refine Sr (Oa U (E1 4 U (zj ?_)))
  refine zw U U ?_
  have hcA:zk [m] w4 wA:=(hd4.any (S:=[m])).transS cA
  refine⟨.inl ⟨rfl,he0⟩,(c4.any).trans' hcA (fun b hb=>.inl (by simp at hb;simp[hb])),p::m::owL (zrd L x.t),?_,fun b hb=>.inl ?_⟩
  ·rw[zwn hk he0]
   refine⟨m,_,rfl,h4.blk.chg hcA (fun hb=>by simp at hb;exact h4.map.ne h4.blk hb.symm),?_,(h4.l.less x.t).hm (fun b hb hm=>?_) (Hm.map h4.map h4.ge.2) hcA,h4.ge⟩
   ·rw[←ztM h.l.names]
    exact kA
   simp at hm
   subst hm
   exact(h4.notO b (zpf (fun z hz=>(List.mem_filter.1 hz).1) b hb)).2 U
  simp only[List.mem_cons]at hb ⊢
  rcases hb with hb|hb|hb
  ·exact .inl hb
  ·exact .inr (.inl hb)
  exact .inr (.inr (zpf (fun z hz=>(List.mem_filter.1 hz).1) b hb))
end
structure NmL(L:List CE)(q:Cat):Prop where
 names:(L.map (·.n)).Nodup
 mem:∀t,t∈L.map CE.tb↔t∈q
 srt:ze4 q
def zdg(L:List CE)(m:List (By×By)):List CE:=L.filter fun x => !(m.any fun p=>decide (p.1=x.n))
def zga(L:List CE)(m:List (By×By)):List CE:=m.filterMap fun p=>(zaw L p.1).map fun y=>{ y with n:=p.2 }
section
variable {w w':Wl} {L:List CE} {c q:Cat} {n:By} {x y z:CE} {m:List (By×By)} {p:By×By}
theorem NmL.at0(h:NmL L q)(hf:zaw L n=none):atC q n=none:=by
 cases ha:atC q n with
 |none=>rfl
 |some t=>
  obtain⟨h1,h2⟩:=zdF ha
  obtain⟨x,hx,rfl⟩:=List.mem_map.1 ((h.mem t).2 h1)
  exact absurd h2 (zeY hf x hx)
theorem NmL.at1(h:NmL L q)(hf:zaw L n=some y):atC q n=some y.tb:=by
 obtain⟨h1,rfl⟩:=zaT hf
 exact ztj h.srt ((h.mem y.tb).1 (List.mem_map.2 ⟨y,h1,U⟩))
theorem NmL.new(h:NmL L q)(hf:zaw L z.n=none):NmL (L++[z]) (zci q z.tb):=by
 refine⟨?_,fun t=>?_,h.srt.with z.tb⟩
 ·rw[List.map_append,List.nodup_append]
  refine⟨h.names,by simp,fun a ha d hd'=>?_⟩
  simp at hd';subst hd'
  obtain⟨y,hy,rfl⟩:=List.mem_map.1 ha
  exact zeY hf y hy
 rw[List.map_append,List.mem_append,zdx,h.mem]
 constructor
 ·rintro (h1|h1)
  ·exact .inr ⟨h1,zlS (h.at0 hf) t h1⟩
  simp at h1;exact .inl h1
 rintro (h1|⟨h1,_⟩)
 ·subst h1;simp
 exact .inl h1
theorem zeV:x∈zdg L m↔x∈L∧x.n∉m.map Prod.fst:=by
 simp only[zdg,List.mem_filter,Bool.not_eq_true',List.any_eq_false,decide_eq_true_eq,List.mem_map,not_exists,not_and]
theorem zqU:zdg L []=L:=List.filter_eq_self.2 fun _ _=>rfl
theorem zoe:zdg L (m++[p])=zrd (zdg L m) p.1:=by
 unfold zdg zrd
 rw[List.filter_filter]
 refine List.filter_congr fun y _=>?_
 rw[List.any_append]
 by_cases e:p.1=y.n
 ·simp[e]
 have e':y.n≠p.1:=fun h=>e h.symm
 simp[e,e']
theorem zbq.rest(h:zbq w L c)(m:List (By×By)):NmL (zdg L m) (zaV c m):=by
 refine⟨h.names.sublist (List.filter_sublist.map _),fun t=>?_,h.ok.srt.sublist List.filter_sublist⟩
 rw[zhV,←h.mem]
 constructor
 ·intro hm
  obtain⟨x,hx,rfl⟩:=List.mem_map.1 hm
  obtain⟨h1,h2⟩:=zeV.1 hx
  exact⟨List.mem_map.2 ⟨x,h1,U⟩,h2⟩
 rintro⟨hm,h2⟩
 obtain⟨x,hx,rfl⟩:=List.mem_map.1 hm
 exact List.mem_map.2 ⟨x,zeV.2 ⟨hx,h2⟩,U⟩
theorem zle(h:zaw L p.1=some y):zga L (m++[p])=zga L m++[{ y with n:=p.2 }]:=by
 unfold zga
 rw[List.filterMap_append]
 simp[h]
theorem zhI(hz:z∈zga L m):∃p∈m,∃y,zaw L p.1=some y∧z={ y with n:=p.2 }:=by
 obtain⟨p,hp,h⟩:=List.mem_filterMap.1 hz
 cases hf:zaw L p.1 with
 |none=>rw[hf]at h;cases h
 |some y=>
  rw[hf]at h
  exact⟨p,hp,y,hf,(Option.some.inj h).symm⟩
theorem zbq.apart2(h:zbq w L c)(hx:x∈L)(hy:y∈L)(hne:x.n≠y.n):∀b∈x.ow,b∉y.ow:=fun b hb hm=>by
 obtain⟨i,hi⟩:=List.getElem?_of_mem hx
 obtain⟨j,hj⟩:=List.getElem?_of_mem hy
 have hij:i≠j:=fun hij=>hne (by
  subst hij
  rw[hi]at hj
  cases hj;rfl)
 obtain⟨hi',rfl⟩:=Gs hi
 obtain⟨hj',rfl⟩:=Gs hj
 rcases Nat.lt_or_ge i j with hlt|hge
 ·exact List.pairwise_iff_getElem.1 h.apart i j hi' hj' hlt b hb hm
 exact List.pairwise_iff_getElem.1 h.apart j i hj' hi' (by omega) b hm hb
theorem zbq.movA(h:zbq w L c):∀{m:List (By×By)},(m.map Prod.fst).Nodup→zph (zga L m)
 |[],_=>List.Pairwise.nil
 |p::m,hn=>by
  rw[List.map_cons,List.nodup_cons]at hn
  have ih:=h.movA hn.2
  unfold zga
  rw[List.filterMap_cons]
  cases hf:zaw L p.1 with
  |none=>exact ih
  |some y=>
   refine List.pairwise_cons.2 ⟨fun z hz=>?_,ih⟩
   obtain⟨p',hp',y',hf',rfl⟩:=zhI hz
   obtain⟨h1,e1⟩:=zaT hf
   obtain⟨h2,e2⟩:=zaT hf'
   have h5:∀b∈y.ow,b∉y'.ow:=h.apart2 h1 h2 fun e=>hn.1 (by
    rw[←e1,e,e2]
    exact List.mem_map.2 ⟨p',hp',U⟩)
   exact h5
theorem zbq.ren(h:zbq w L c)(hn:(m.map Prod.fst).Nodup)(hN:NmL (zdg L m++zga L m) (zij c m))(hk:za6 (zij c m)):zbq w (zdg L m++zga L m) (zij c m):=by
 refine⟨fun z hz=>?_,?_,hN.names,hN.mem,hk⟩
 ·rcases List.mem_append.1 hz with hz|hz
  ·exact h.tabs z (zeV.1 hz).1
  obtain⟨p,_,y,hf,rfl⟩:=zhI hz
  exact h.tabs y (zaT hf).1
 refine List.pairwise_append.2 ⟨h.apart.sublist List.filter_sublist,h.movA hn,fun a ha z hz=>?_⟩
 obtain⟨h1,h2⟩:=zeV.1 ha
 obtain⟨p,hp,y,hf,rfl⟩:=zhI hz
 obtain⟨h3,e3⟩:=zaT hf
 have h5:∀b∈a.ow,b∉y.ow:=h.apart2 h1 h3 fun e=>h2 (by
  rw[e,e3]
  exact List.mem_map.2 ⟨p,hp,U⟩)
 exact h5
theorem zqi:∀b∈owL (zdg L m++zga L m),b∈owL L:=fun b hb=>by
 obtain⟨z,hz,hbz⟩:=zbE.1 hb
 rcases List.mem_append.1 hz with hz|hz
 ·exact zbE.2 ⟨z,(zeV.1 hz).1,hbz⟩
 obtain⟨p,_,y,hf,rfl⟩:=zhI hz
 exact zbE.2 ⟨y,(zaT hf).1,hbz⟩
theorem zm2{j:Nat}(hp:m[j]? = some p)(h:(m.take j).any (fun o=>decide (o.1=p.1))=true):zfv m=true:=by
 have hn:¬ (m.map Prod.fst).Nodup:=fun hn=>by
  obtain⟨o,ho,he⟩:=List.any_eq_true.1 h
  have h1:=hn.sublist ((List.take_sublist (j+1) m).map Prod.fst)
  rw[List.take_add_one,hp,List.map_append,List.nodup_append]at h1
  exact h1.2.2 o.1 (List.mem_map.2 ⟨o,ho,rfl⟩) p.1 (by simp) (of_decide_eq_true he)
 unfold zfv
 rw[df hn]
 rfl
theorem zjX{j:Nat}(hp:m[j]? = some p)(h:(m.take j).any (fun o=>decide (o.1=p.1))=false)(hn:((m.take j).map Prod.fst).Nodup):((m.take (j+1)).map Prod.fst).Nodup:=by
 rw[List.take_add_one,hp,List.map_append,List.nodup_append]
 refine⟨hn,by simp,fun a ha d hd=>?_⟩
 simp at hd;subst hd
 obtain⟨o,ho,rfl⟩:=List.mem_map.1 ha
 exact of_decide_eq_false (by simpa using List.any_eq_false.1 h o ho)
theorem zqD{x:EvT}(hr:z6 x=true)(hk:x.k=6):doE c x=zd7 c x.m:=by
 unfold doE
 rw[if_neg (by simp[hr]),if_pos hk]
theorem zwM{x:EvT}(hk:x.k=6)(he:doE c x=0):doC c x=zij c x.m:=by
 unfold doC
 rw[if_neg (by simp[he]),if_pos hk]
theorem zxi(h:zfv m=true):zd7 c m=2:=by unfold zd7;rw[if_pos h]
theorem zw1(h:(m.map Prod.fst).Nodup){j:Nat}(hp:m[j]? = some p)(ha:atC c p.1=none):zd7 c m=5:=by
 unfold zd7
 rw[if_neg (by simp[zfv,h]),if_pos (List.any_eq_true.2 ⟨p,List.mem_of_getElem? hp,by simp[ha]⟩)]
theorem zp0(h:(m.map Prod.fst).Nodup)(ha:∀p∈m,(atC c p.1).isSome=true):zd7 c m=if zeI c (zaV c m) m then 220 else 0:=by
 unfold zd7
 rw[if_neg (by simp[zfv,h]),if_neg]
 simp only[List.any_eq_true,not_exists,not_and]
 intro p hp he
 have:=ha p hp
 cases hq:atC c p.1 with
 |none=>rw[hq]at this;cases this
 |some t=>rw[hq]at he;cases he
theorem zo2(h:(m.map Prod.fst).Nodup)(ha:∀p∈m,(atC c p.1).isSome=true){j:Nat}(hp:m[j]? = some p)(ht:atC (zcA c (zaV c m) (m.take j)) p.2≠none):zd7 c m=220:=by
 rw[zp0 h ha,if_pos (zqw hp ht)]
theorem zv9(h:(m.map Prod.fst).Nodup)(ha:∀p∈m,(atC c p.1).isSome=true)(ht:∀j p,m[j]? = some p→atC (zcA c (zaV c m) (m.take j)) p.2=none):zd7 c m=0:=by
 rw[zp0 h ha,if_neg (by simp[zhH.2 ht])]
end
theorem zsG(o q:By×By)(b:Nat)(w:Wl)(hb:zO w b 78 (pcs q)):zT TP 113 #[.agg (pcs o).toArray,Pt b] w fun r w'=>r=.bool (decide (o.1=q.1))∧zk [] w w':=by
 refine A2 Tryz.func113 U U ?_
 refine Sr ?_
 refine Ob U U ?_
 intro b2 w2 e2 n2 c2 k2
 refine Oa U (E2 1 2 U ?_)
 have k2:zO w2 b2 78 (pcs o):=k2
 refine Sr ?_
 refine Og (zL zcf sz9 U U 0 U (by decide)) U ?_
 refine Ol yH U (k2.cell' (i:=0) U) ?_
 refine Og (zL zcf sz9 U U 0 U (by decide)) U ?_
 refine Ol yH U ((hb.chg0 c2).cell' (i:=0) U) (Og (zaJ U U) U (Oa U (E1 3 U (zj ?_))))
 refine zw U U ?_
 exact⟨U,c2⟩
section
variable {w w':Wl} {p mb:Nat} {L:List CE} {c:Cat} {x:EvT} {e:EvV}
set_option maxHeartbeats 1000000 in
theorem zqV(h:zdJ w p mb L c)(hx:zbv w e x)(hm:zcP x)(hr:z6 x=true)(hk:x.k=6) :
 zT TP 68 #[Pt p,.agg (evC x e).toArray] w (DoR w p (p::mb::owL L) c x):=by
 obtain⟨ec,eky,eu,eo,en,em⟩:=e
 obtain⟨pm,cm,rfl,hcm⟩:∃q r,em=.slice q x.m.length r∧x.m.length≤r:=zN.val hx.nm
 have hnm:zc5 w (.slice pm x.m.length cm) x.m:=hx.nm
 have hmm:=hm.m
 generalize he:evC x ⟨ec,eky,eu,eo,en,.slice pm x.m.length cm⟩=E
 have hE7:E[7]? = some (.slice pm x.m.length cm):=by rw[←he];rfl
 refine A2 Tryz.func68 U U ?_
 refine Sr ?_
 refine Ob U U ?_
 intro b3 w3 e3 n3 c3 k3
 refine Oa U (E2 0 3 U ?_)
 have k3:zO w3 b3 39 E:=k3
 have hnm3:zc5 w3 (.slice pm x.m.length cm) x.m:=zN.chg0 hnm c3
 have h3:=h.chg0 c3
 have hno:∀{wy:Wl} {r:Va} {z:Int},zk [] w3 wy→zd7 c x.m=z→z≠0→zbH wy r z→DoR w p (p::mb::owL L) c x r wy:=fun hc hz h0 h1=>DoR.no (h3.chg0 hc) (c3.trans hc) (by rw[zqD hr hk];exact hz) h0 h1
 refine zf (Sr (Od yZ U (Ol zcv U (k3.cell' hE7) (On zaE U (Om U (E5 0 3 17 18 19 U (zp ?_)))))))
 refine zQ [0,3,17,18,19] (fun m F wx=>∃j:Nat,m=x.m.length-j∧j≤x.m.length∧F=[(0,Pt p),(3,Pt b3),(17,.slice pm x.m.length cm),(18,Ii x.m.length),(19,Ii j)]∧((x.m.take j).map Prod.fst).Nodup∧zk [] w3 wx) (m:=x.m.length-0) ⟨0,rfl,Nat.zero_le _,rfl,by simp,zk.refl _ _⟩ ?_
 rintro m F wx⟨j,rfl,hj,rfl,hnd,hcx⟩
 refine zf ?_
 by_cases hlt:j<x.m.length
 ·refine za ?_
  refine Og (vt (zy U U) (by simp;omega)) U ?_
  refine E6 0 3 17 18 19 20 U (zf (ze U (zm ?_)))
  have hq:x.m[j]? = some x.m[j]:=by simp[hlt]
  generalize x.m[j]=q at hq
  obtain⟨b,off,cap,hve,hcell⟩:=zN.at zbo (zN.chg0 hnm3 hcx) hq
  cases hve
  refine zf (zp (Sr (Om U ?_)))
  refine Og (zi zaE zcg U U _ U hlt) U ?_
  refine Og (zh zqO zcg U U hcell) U ?_
  refine Oq (zF zoz U U ?_)
  intro b6 w6 e6 n6 c6 k6
  refine Oa U ?_
  refine Oq (zt zcg U U U U k6 (by simp[pcs]) (by simp[pcs,Value.oneCell']) ?_)
  intro wA nA cA kA
  refine E7 0 3 5 6 17 18 19 U ?_
  have kA:zO wA b6 78 (pcs q):=kA
  have hcA:zk [] wx wA:=c6.own cA (by intro y hy;simp at hy;omega)
  have hcw:=hcx.trans hcA
  refine zf ?_
  have hcf:=zpR zbo _ (x.m.take j) (fun o=>decide (o.1=q.1)) 113 [Pt b6] wA (zN.take (m:=cm) zbo (zN.chg0 hnm3 hcw) hj (by omega) (Nat.le_refl _)) (by rw[List.length_take];omega) zBB (fun o _ w1 h1=>zsG o q b6 w1 (kA.chg0 h1))
  cases ha:(x.m.take j).any fun o=>decide (o.1=q.1) with
  |true=>
   rw[ha]at hcf
   refine za (Od yZ U (Ol zcv U ((k3.chg0 hcw).cell' hE7) (Om U ?_)))
   refine Og (zbn zaE zcg U U _ U (by omega)) U ?_
   refine Og (zal U U) U ?_
   refine Oc zsg U U U hcf ?_
   rintro v29 w29⟨rfl,c29⟩
   refine E7 0 3 6 17 18 19 29 U (ze U (Sr ?_))
   refine Og (zL zcf sz9 U U 0 U (by decide)) U ?_
   refine Ol yH U ((kA.chg0 c29).cell' (i:=0) U) (Og (z5 zdL U) U ?_)
   refine Og (zK zfC zfw U (vs:=[_,_]) U (css:=[_,_]) ⟨U,U,trivial⟩ U U (cs:=[_,_]) U) U ?_
   refine Og (z5 zfx U) U (Oa U (E1 4 U (zj ?_)))
   repeat first|refine tr ?_|refine br ?_
   refine zw U U ?_
   exact hno (hcw.trans c29) (zxi (zm2 hq ha)) (by decide) (zjC _ _ _)
  |false=>
   rw[ha]at hcf
   refine za (Od yZ U (Ol zcv U ((k3.chg0 hcw).cell' hE7) (Om U ?_)))
   refine Og (zbn zaE zcg U U _ U (by omega)) U ?_
   refine Og (zal U U) U ?_
   refine Oc zsg U U U hcf ?_
   rintro v29 w29⟨rfl,c29⟩
   refine E7 0 3 6 17 18 19 29 U (zb U (zV (zl (za ?_))))
   refine Og (zG U U (by omega)) U ?_
   refine Om U (N5 0 3 17 18 19 U ?_)
   exact⟨x.m.length-(j+1),by omega,j+1,rfl,by omega,rfl,zjX hq ha hnd,hcw.trans c29⟩
 refine za ?_
 refine Og (vf (zy U U) (by simp;omega)) U ?_
 refine E6 0 3 17 18 19 20 U (zf (zb U ?_))
 refine zH ?_
 repeat first|refine te ?_|refine bo rfl ?_
 refine zq _ ?_
 have hND:(x.m.map Prod.fst).Nodup:=by rwa [Tl (by omega)]at hnd
 clear hnd
 have hE:=h3.chg0 hcx
 have kE:=k3.chg0 hcx
 have hnmE:zc5 wx (.slice pm x.m.length cm) x.m:=zN.chg0 hnm3 hcx
 have hnoE:∀{wy:Wl} {r:Va} {z:Int},zk [] wx wy→zd7 c x.m=z→z≠0→zbH wy r z→DoR w p (p::mb::owL L) c x r wy:=fun hc=>hno (hcx.trans hc)
 have c3x:=c3.trans hcx
 clear hno h3 k3 hnm3 c3 hcx hlt hj
 refine Sr (Om U (Og (zB U) U (Od zba U (Ol zeu U (hE.blk.cell' (i:=0) U) ?_))))
 refine Oc zzm U U U (ztg mb _ _ hE.map) ?_
 rintro v40 w40⟨b,rfl,hM,hfr,c40⟩
 refine Oa U (E3 0 3 7 U (zf (Sr (Od yZ U (Ol zcv U ((kE.chg0 c40).cell' hE7) (On zaE U (Om U (E6 0 3 7 42 43 44 U (zp ?_)))))))))
 refine zQ [0,3,7,42,43,44] (fun m F wy=>∃j:Nat,m=x.m.length-j∧j≤x.m.length∧F=[(0,Pt p),(3,Pt b3),(7,.map (some b)),(42,.slice pm x.m.length cm),(43,Ii x.m.length),(44,Ii j)]∧(∀q∈x.m.take j,(zaw L q.1).isSome=true)∧yf zce wy b ((zdg L (x.m.take j)).map CE.en)∧zk [] wx wy) (m:=x.m.length-0) ⟨0,rfl,Nat.zero_le _,rfl,by simp,(by rw[List.take_zero,zqU];exact hM),c40⟩ ?_
 rintro m F wy⟨j,rfl,hj,rfl,hall,hMj,hcy⟩
 refine zf ?_
 by_cases hlt:j<x.m.length
 ·refine za ?_
  refine Og (vt (zy U U) (by simp;omega)) U ?_
  refine E7 0 3 7 42 43 44 45 U (zf (ze U (zm ?_)))
  have hq:x.m[j]? = some x.m[j]:=by simp[hlt]
  have htk:=List.take_succ_eq_append_getElem hlt
  generalize x.m[j]=q at hq htk
  obtain⟨bb,off,cap,hve,hcell⟩:=zN.at zbo (zN.chg0 hnmE hcy) hq
  cases hve
  refine zf (zp (Sr ?_))
  refine Og (zi zaE zcg U U _ U hlt) U ?_
  refine Og (zh zqO zcg U U hcell) U ?_
  refine Oq (zF zoz U U ?_)
  intro b9 w9 e9 n9 c9 k9
  refine Oq (zt zcg U U U U k9 (by simp[pcs]) (by simp[pcs,Value.oneCell']) ?_)
  intro wA nA cA kA
  refine E7 0 3 7 9 42 43 44 U ?_
  have kA:zO wA b9 78 (pcs q):=kA
  have hcA:zk [] wy wA:=c9.own cA (by intro y hy;simp at hy;omega)
  have hcw:=hcy.trans hcA
  have hA:=hE.chg0 hcw
  have hMA:=hMj.chg0 hcA
  have hd:zk [] wA wA.drew:=zk.drew [] _
  refine zf (zf ?_)
  cases hf:zaw L q.1 with
  |none=>
   refine zI (fun wz=>zk [] wA wz) mix (by kernel_rfl) hd ?_
   refine Tm U (Tp (fun _=>zB U) U (Td zba U (Tr (fun wz hz=>zg zeu U ((hA.blk.chg0 hz).cell' (i:=0) U)) U ?_)))
   refine Tp (fun _=>zL zcf sz9 U U 0 U (by decide)) U ?_
   refine Tr (fun wz hz=>zg yH U ((kA.chg0 hz).cell' (i:=0) U)) U ?_
   refine Tc ziR U U U (zeQ (hA.map.chg0 hd) hf) ?_
   rintro v55 w55⟨rfl,rfl⟩
   refine⟨.inl hd,?_⟩
   refine Tm U (Tp (fun _=>zM U U) U (Tp (fun _=>zM U U) U (Ta U (Ta U ?_))))
   refine zhx [0,3,7,9,11,42,43,44] (F':=[(0,_),(3,_),(7,_),(9,_),(11,_),(42,_),(43,_),(44,_)]) U ?_
   refine Sr (Om U (Og (zC U) U (E8 0 3 7 9 42 43 44 59 U (ze U (Sr ?_)))))
   refine Og (zL zcf sz9 U U 0 U (by decide)) U ?_
   refine Ol yH U ((kA.chg0 hd).cell' (i:=0) U) (Og (z5 zdL U) U ?_)
   refine Og (zK zfC zfw U (vs:=[_,_]) U (css:=[_,_]) ⟨U,U,trivial⟩ U U (cs:=[_,_]) U) U ?_
   refine Og (z5 zfx U) U (Oa U (E1 4 U (zj ?_)))
   repeat first|refine tr ?_|refine br ?_
   refine zw U U ?_
   exact hnoE (hcw.trans hd) (zw1 hND hq (by rw[h.l.at,hf];rfl)) (by decide) (zjC _ _ _)
  |some y=>
   refine zI (fun wz=>zk [] wA wz) mix (by kernel_rfl) hd ?_
   refine Tm U (Tp (fun _=>zB U) U (Td zba U (Tr (fun wz hz=>zg zeu U ((hA.blk.chg0 hz).cell' (i:=0) U)) U ?_)))
   refine Tp (fun _=>zL zcf sz9 U U 0 U (by decide)) U ?_
   refine Tr (fun wz hz=>zg yH U ((kA.chg0 hz).cell' (i:=0) U)) U ?_
   refine Tc ziR U U U (zeR (hA.map.chg0 hd) hf) ?_
   rintro v55 w55⟨rfl,rfl⟩
   refine⟨.inl hd,?_⟩
   refine Tm U (Tp (fun _=>zM U U) U (Tp (fun _=>zM U U) U (Ta U (Ta U ?_))))
   refine zhx [0,3,7,9,11,42,43,44] (F':=[(0,_),(3,_),(7,_),(9,_),(11,_),(42,_),(43,_),(44,_)]) U ?_
   refine Sr (Om U (Og (zC U) U (E8 0 3 7 9 42 43 44 59 U (zb U (zm (za (Om U ?_)))))))
   refine Og (zL zcf sz9 U U 0 U (by decide)) U ?_
   refine Ol yH U ((kA.chg0 hd).cell' (i:=0) U) ?_
   refine Oq (zpg (κ:=zce) zim (zaP st9) U U (hMA.chg0 hd) ?_)
   intro wB nB cB kB
   refine N6 0 3 7 42 43 44 U (zl (za ?_))
   refine Og (zG U U (by omega)) U ?_
   refine Om U (N6 0 3 7 42 43 44 U ?_)
   refine⟨x.m.length-(j+1),by omega,j+1,rfl,by omega,rfl,?_,?_,(hcw.trans hd).own cB (by intro y hy;simp at hy;omega)⟩
   ·rw[htk]
    intro q' hq'
    rcases List.mem_append.1 hq' with h1|h1
    ·exact hall q' h1
    simp at h1;subst h1;rw[hf];rfl
   rw[htk,zoe,←ztM (L:=zdg L (x.m.take j)) (h.l.names.sublist (List.filter_sublist.map _))]
   exact kB
 refine za ?_
 refine Og (vf (zy U U) (by simp;omega)) U ?_
 refine E7 0 3 7 42 43 44 45 U (zf (zb U ?_))
 refine zH ?_
 repeat first|refine te ?_|refine bo rfl ?_
 refine zq _ ?_
 rw[Tl (by omega)]at hall hMj
 have hat:∀q∈x.m,(atC c q.1).isSome=true:=fun q hq=>by
  have:=hall q hq
  rw[h.l.at]
  cases hf:zaw L q.1 with
  |none=>rw[hf]at this;cases this
  |some y=>rfl
 have hN0:=h.l.rest x.m
 clear hlt hj c40 hM
 refine zf (Sr (Od yZ U (Ol zcv U ((kE.chg0 hcy).cell' hE7) (On zaE U (Om U (E5 0 7 70 71 72 U (zp ?_)))))))
 refine zQ [0,7,70,71,72] (fun m F wz=>∃j:Nat,m=x.m.length-j∧j≤x.m.length∧F=[(0,Pt p),(7,.map (some b)),(70,.slice pm x.m.length cm),(71,Ii x.m.length),(72,Ii j)]∧NmL (zdg L x.m++zga L (x.m.take j)) (zcA c (zaV c x.m) (x.m.take j))∧(∀i q,i<j→x.m[i]? = some q→atC (zcA c (zaV c x.m) (x.m.take i)) q.2=none)∧yf zce wz b ((zdg L x.m++zga L (x.m.take j)).map CE.en)∧zk [] wx wz) (m:=x.m.length-0) ⟨0,rfl,Nat.zero_le _,rfl,(by simpa[zga,zcA] using hN0),(by intro i q hi;omega),(by simpa[zga] using hMj),hcy⟩ ?_
 rintro m F wz⟨j,rfl,hj,rfl,hN,hfree,hMz,hcz⟩
 refine zf ?_
 by_cases hlt:j<x.m.length
 ·refine za ?_
  refine Og (vt (zy U U) (by simp;omega)) U ?_
  refine E6 0 7 70 71 72 73 U (zf (ze U (zm ?_)))
  have hq:x.m[j]? = some x.m[j]:=by simp[hlt]
  have htk:=List.take_succ_eq_append_getElem hlt
  have hmem:=List.getElem_mem hlt
  generalize x.m[j]=q at hq htk hmem
  obtain⟨bb,off,cap,hve,hcell⟩:=zN.at zbo (zN.chg0 hnmE hcz) hq
  cases hve
  refine zf (zp (Sr ?_))
  refine Og (zi zaE zcg U U _ U hlt) U ?_
  refine Og (zh zqO zcg U U hcell) U ?_
  refine Oq (zF zoz U U ?_)
  intro b13 w13 e13 n13 c13 k13
  refine Oq (zt zcg U U U U k13 (by simp[pcs]) (by simp[pcs,Value.oneCell']) ?_)
  intro wA nA cA kA
  refine E6 0 7 13 70 71 72 U ?_
  have kA:zO wA b13 78 (pcs q):=kA
  have hcA:zk [] wz wA:=c13.own cA (by intro y hy;simp at hy;omega)
  have hcw:=hcz.trans hcA
  have hA:=hE.chg0 hcw
  have hMA:=hMz.chg0 hcA
  refine zf (zf ?_)
  cases hf:zaw (zdg L x.m++zga L (x.m.take j)) q.2 with
  |some z=>
   refine za (Om U ?_)
   refine Og (zL zcf sz9 U U 1 U (by decide)) U ?_
   refine Ol yH U (kA.cell' (i:=1) U) ?_
   refine Og (ze0 (κ:=zce) zim (zaP st9) zmT U U hMA (show zbd _ _=some z.pt by rw[zct,hf];rfl)) U ?_
   refine Om U (Oe U U (Oe U U (Oa U (Oa U (E7 0 7 13 15 70 71 72 U (Sr (Om U (E7 0 7 13 70 71 72 83 U (ze U (Sr ?_))))))))))
   refine Og (zL zcf sz9 U U 1 U (by decide)) U ?_
   refine Ol yH U (kA.cell' (i:=1) U) (Og (z5 zdL U) U ?_)
   refine Og (zK zfC zfw U (vs:=[_,_]) U (css:=[_,_]) ⟨U,U,trivial⟩ U U (cs:=[_,_]) U) U ?_
   refine Og (z5 zfx U) U (Oa U (E1 4 U (zj ?_)))
   repeat first|refine tr ?_|refine br ?_
   refine zw U U ?_
   exact hnoE hcw (zo2 hND hat hq (by rw[hN.at1 hf];simp)) (by decide) (zjC _ _ _)
  |none=>
   obtain⟨y,hy⟩:=Option.isSome_iff_exists.1 (hall q hmem)
   have haty:atC c q.1=some y.tb:=by rw[h.l.at,hy];rfl
   have hd:zk [] wA wA.drew:=zk.drew [] _
   refine za (Om U ?_)
   refine Og (zL zcf sz9 U U 1 U (by decide)) U ?_
   refine Ol yH U (kA.cell' (i:=1) U) ?_
   refine Og (ze0 (κ:=zce) zim (zaP st9) zmT U U hMA (show zbd _ _=none by rw[zct,hf];rfl)) U ?_
   refine Om U (Oe U U (Oe U U (Oa U (Oa U (E7 0 7 13 15 70 71 72 U (Sr (Om U (E7 0 7 13 70 71 72 83 U (zb U (zm ?_))))))))))
   refine zI (fun wz=>zk [] wA wz) mix (by kernel_rfl) hd ?_
   refine Tm U ?_
   refine Tp (fun _=>zL zcf sz9 U U 1 U (by decide)) U ?_
   refine Tr (fun wz hz=>zg yH U ((kA.chg0 hz).cell' (i:=1) U)) U (Tm U (Tp (fun _=>zB U) U (Td zba U (Tr (fun wz hz=>zg zeu U ((hA.blk.chg0 hz).cell' (i:=0) U)) U ?_))))
   refine Tp (fun _=>zL zcf sz9 U U 0 U (by decide)) U ?_
   refine Tr (fun wz hz=>zg yH U ((kA.chg0 hz).cell' (i:=0) U)) U ?_
   refine zaK U (gn U) (St.vl (zh4 (κ:=zce) zim (zaP st9) zmT U U (hA.map.chg0 hd) (show zbd _ _=some y.pt by rw[zct,hy];rfl)) U U ?_)
   refine⟨.inl hd,?_⟩
   refine zaK U (gn U) (zi5 (κ:=zce) zim (zaP st9) U U U (hMA.chg0 hd) ?_)
   intro wB nB cB kB
   refine⟨.inr (by kernel_rfl),?_⟩
   refine zdw [0,7,70,71,72] (F':=[(0,_),(7,_),(70,_),(71,_),(72,_)]) U ?_
   refine zl (za ?_)
   refine Og (zG U U (by omega)) U ?_
   refine Om U (N5 0 7 70 71 72 U ?_)
   refine⟨x.m.length-(j+1),by omega,j+1,rfl,by omega,rfl,?_,?_,?_,(hcw.trans hd).own cB (by intro y hy;simp at hy;omega)⟩
   ·rw[htk,zle hy,zkM,zm1 haty,←List.append_assoc]
    exact hN.new (z:={ y with n:=q.2 }) hf
   ·intro i q' hi hq'
    by_cases hij:i=j
    ·subst hij
     rw[hq]at hq'
     cases hq'
     exact hN.at0 hf
    exact hfree i q' (by omega) hq'
   rw[htk,zle hy,←List.append_assoc,List.map_append]
   have e:=zhK (v:=y.pt) (show zbd ((zdg L x.m++zga L (x.m.take j)).map CE.en) q.2=none by rw[zct,hf];rfl)
   have kB':yf zce wB b (zcI ((zdg L x.m++zga L (x.m.take j)).map CE.en) q.2 y.pt):=kB
   rw[e]at kB'
   exact kB'
 refine za ?_
 refine Og (vf (zy U U) (by simp;omega)) U ?_
 refine E6 0 7 70 71 72 73 U (zf (zb U ?_))
 refine zH ?_
 repeat first|refine te ?_|refine bo rfl ?_
 refine zq _ ?_
 have hjl:j=x.m.length:=by omega
 subst hjl
 rw[Tl (Nat.le_refl _)]at hN hMz
 have he0:doE c x=0:=by
  rw[zqD hr hk]
  exact zv9 hND hat fun i q hq=>hfree i q (Gs hq).1 hq
 have hz:=hE.chg0 hcz
 refine Sr (Om U (Om U (Og (zB U) U (Od zba U ?_))))
 refine Oq (zt zAE U U U U hz.blk (by simp) (by simp[Value.oneCell']) ?_)
 intro wD nD cD kD
 refine yQ [] (F':=[]) U ?_
 have kD:zO wD p 83 [.map (some b)]:=kD
 refine Sr (Oa U (E1 4 U (zj ?_)))
 refine zw U U ?_
 have hxs:=c3x.size
 have hcl:=hz.l.ren hND hN (h.l.ok.ren (by rw[←zqD hr hk];exact he0))
 refine⟨.inl ⟨rfl,he0⟩,((c3x.trans hcz).any).trans' cD (fun y hy=>.inl (by simp at hy;simp[hy])),p::b::owL (zdg L x.m++zga L x.m),?_,fun y hy=>?_⟩
 ·rw[zwM hk he0]
  refine⟨b,_,rfl,kD,hMz.chg cD (fun hb=>by simp at hb;subst hb;exact hMz.ne hz.blk U),hcl.hm (fun y hy hm=>?_) (Hm.cat hz.blk hz.ge.1) cD,hz.ge.1,by have:=h.nn;omega⟩
  simp at hm
  subst hm
  exact(hz.notO y (zqi y hy)).1 U
 rcases List.mem_cons.1 hy with rfl|hy
 ·exact .inl (by simp)
 rcases List.mem_cons.1 hy with rfl|hy
 ·exact .inr (by omega)
 exact .inl (List.mem_cons_of_mem _ (List.mem_cons_of_mem _ (zqi y hy)))
end
section
variable {w w':Wl} {p m:Nat} {L:List CE} {c:Cat} {x:EvT} {y:CE} {e:EvV} {r:Va} {n:By} {own:List Nat}
theorem zuz(hm:zcP x)(hr:z6 x=true):∃g,zbd zwL x.k=some (.func (.func g) #[] #[])∧zn TP g=true∧∀w,EOk w→zdJ w p m L c→zbv w e x →
 zT TP g #[Pt p,.agg (evC x e).toArray] w (DoR w p (p::m::owL L) c x):=by
 have hk:=(zfr hr).1
 rcases (show x.k=1∨x.k=2∨x.k=3∨x.k=4∨x.k=5∨x.k=6 by omega) with h|h|h|h|h|h
 ·exact⟨63,by rw[h];rfl,zCK,fun w hE hC hx=>zqF hE hC hx hm hr h⟩
 ·exact⟨64,by rw[h];rfl,zCR,fun w hE hC hx=>zrr hE hC hx hm hr h⟩
 ·exact⟨65,by rw[h];rfl,zC2,fun w hE hC hx=>zqI hE hC hx hm hr h⟩
 ·exact⟨66,by rw[h];rfl,zCz,fun w hE hC hx=>zqM hE hC hx hm hr h⟩
 ·exact⟨67,by rw[h];rfl,zC1,fun w hE hC hx=>zvo hC hr h⟩
 exact⟨68,by rw[h];rfl,zCV,fun w hE hC hx=>zqV hC hx hm hr h⟩
theorem zr7(hE:EOk w)(hC:zbb w p own c)(hx:zbv w e x)(hm:zcP x) :
 zT TP 13 #[Pt p,.agg (evC x e).toArray] w fun r w'=>r=Ii (doE c x)∧zk own w w'∧∃own',zbb w' p own' (doC c x)∧∀b∈own',b∈own∨w.heap.size≤b:=by
 have hlt:=hC.hmO.lt
 have hHm:=hC.hmO
 obtain⟨m,L,rfl,h⟩:=hC
 refine A2 Tryz.func13 U U ?_
 refine Sr ?_
 refine Ob U U ?_
 intro b3 w3 e3 n3 c3 k3
 refine Oa U (E2 0 3 U ?_)
 have k3:zO w3 b3 39 (evC x e):=k3
 refine zf (Sr (Om U (Og (zbp zqv U U) U (E3 0 3 7 U (zb U (zm (zf (zf ?_))))))))
 cases hr:z6 x with
 |false=>
  have he:doE c x=2:=by unfold doE;rw[if_pos hr]
  refine za (Og (zh zbK za2 U U (zx.of_blk0 k3)) U ?_)
  refine Oc zBo U U U (zmV e x _ (hE.chg0 c3) (hx.chg0 c3) hm) ?_
  rintro v9 w9⟨e9,c9⟩
  rw[hr]at e9
  subst e9
  refine Oa U (E3 0 3 5 U (Sr (Om U ?_)))
  refine Og (vt (zJ U U) (by decide)) U ?_
  refine E4 0 3 5 11 U (ze U (Sr (Om U (Oa U (E1 4 U (zj ?_))))))
  repeat first|refine tr ?_|refine br ?_
  refine zw U U ?_
  exact⟨by rw[he];rfl,(c3.trans c9).any,_,by rw[zqf (by rw[he];decide)];exact⟨m,L,rfl,h.chg0 (c3.trans c9)⟩,fun b hb=>.inl hb⟩
 |true=>
  refine za (Og (zh zbK za2 U U (zx.of_blk0 k3)) U ?_)
  refine Oc zBo U U U (zmV e x _ (hE.chg0 c3) (hx.chg0 c3) hm) ?_
  rintro v9 w9⟨e9,c9⟩
  rw[hr]at e9
  subst e9
  refine Oa U (E3 0 3 5 U ?_)
  have hc9:=c3.trans c9
  have k9:=k3.chg0 c9
  refine Sr (Om U ?_)
  refine Og (vf (zJ U U) (by decide)) U ?_
  refine E4 0 3 5 11 U (zb U (zm ?_))
  obtain⟨g,hg,hb,hgo⟩:=zuz (p:=p) (m:=m) (L:=L) (c:=c) (e:=e) hm hr
  have hd:zk (p::m::owL L) w9 w9.drew:=zk.drew _ _
  have hb3:b3∉p::m::owL L:=fun hb=>by have:=hlt b3 hb;omega
  have h0:zk [] w9 w9.drew:=zk.drew _ _
  refine zf ?_
  refine zI (fun wz=>zk (p::m::owL L) w9 wz) mix (by kernel_rfl) hd ?_
  refine Tc zCF U U U (zr6 _) ?_
  rintro v13 w13⟨mk,rfl,hM,hmk,c13⟩
  refine⟨.inl (hd.trans c13),?_⟩
  refine Td zbw U (Tr (fun wz hz=>zg zev U ((k9.chg hz hb3).cell' (i:=0) U)) U ?_)
  refine zaK U (gn U) (St.vl (zh4 (κ:=zaH .i64) zoI (z0 zbz) zDc U U hM hg) U U ?_)
  refine⟨.inl (hd.trans c13),?_⟩
  refine Tm U (Tr (fun wz hz=>zh zbK za2 U U (zx.of_blk0 (k9.chg hz hb3))) U ?_)
  refine Tc hb U U U (hgo _ (((hE.chg0 hc9).chg0 h0).chg0 c13) (((h.chg0 hc9).chg0 h0).chg0 c13) (((hx.chg0 hc9).chg0 h0).chg0 c13)) ?_
  rintro v19 w19⟨he,c19,own',hC',ho'⟩
  refine⟨.inl ((hd.trans c13).transS c19),?_⟩
  refine Tc zDb U U U (zxB _ (doE c x) _ ((((hE.chg0 hc9).chg0 h0).chg0 c13).hm ((((hHm.chg0 hc9).chg0 h0)).chg0 c13) c19) he.weak) ?_
  rintro v20 w20⟨rfl,c20⟩
  refine⟨.inl (((hd.trans c13).transS c19).trans c20),?_⟩
  refine Ta U (D1 4 U (zj ?_))
  refine zw U U ?_
  refine⟨U,(hc9.any).transS (((hd.trans c13).transS c19).trans c20),own',hC'.chg0 c20,fun b hb=>(ho' b hb).imp id fun h=>?_⟩
  have h1:=hc9.size
  have h2:=h0.size
  have h3:=c13.size
  omega
theorem zrn(hC:zbb w p own c)(ha:atC c n=none):zT TP 19 #[Pt p,.string n] w fun r w'=>r=.tuple #[.pointer none,.bool false]∧zk [] w w':=by
 obtain⟨m,L,rfl,h⟩:=hC
 have hf:zaw L n=none:=by
  rw[h.l.at]at ha
  cases hf:zaw L n with
  |none=>rfl
  |some y=>rw[hf]at ha;cases ha
 refine A2 Tryz.func19 U U ?_
 refine Sr (Oa U (Oa U (E2 0 1 U (zf (Sr (Om U (Og (zbp zqv U U) U (E3 0 1 9 U (zb U (zm (Sr (Om U ?_))))))))))))
 refine Og (zB U) U (Od zba U (Ol zeu U (h.blk.cell' (i:=0) U) (Om U ?_)))
 refine Oc ziR U U U (zeQ h.map hf) ?_
 rintro v16 w16⟨rfl,rfl⟩
 refine Om U (Oe U U (Oe U U (Oa U (Oa U (E2 6 7 U (Sr (Om U ?_)))))))
 refine Oc zut U U U (zvB _) ?_
 rintro v20 w20⟨rfl,rfl⟩
 refine Om U (Oa U (Oa U (E2 4 5 U (zj ?_))))
 refine zcs U U U ?_
 exact⟨U,zk.refl _ _⟩
theorem zkQ{t:Tb}(hC:zbb w p own c)(ha:atC c n=some t):zT TP 19 #[Pt p,.string n] w fun r w'=>∃q ow,r=.tuple #[Pt q,.bool true]∧zab w' q ow t.s t.r∧(∀b∈ow,w.heap.size≤b)∧zk [] w w':=by
 obtain⟨m,L,rfl,h⟩:=hC
 obtain⟨y,hf,rfl⟩:∃y,zaw L n=some y∧y.tb=t:=by
  rw[h.l.at]at ha
  cases hf:zaw L n with
  |none=>rw[hf]at ha;cases ha
  |some y=>rw[hf]at ha;exact⟨y,rfl,Option.some.inj ha⟩
 refine A2 Tryz.func19 U U ?_
 refine Sr (Oa U (Oa U (E2 0 1 U (zf (Sr (Om U (Og (zbp zqv U U) U (E3 0 1 9 U (zb U (zm (Sr (Om U ?_))))))))))))
 refine Og (zB U) U (Od zba U (Ol zeu U (h.blk.cell' (i:=0) U) (Om U ?_)))
 refine Oc ziR U U U (zeR h.map hf) ?_
 rintro v16 w16⟨rfl,rfl⟩
 refine Om U (Oe U U (Oe U U (Oa U (Oa U (E2 6 7 U (Sr (Om U ?_)))))))
 refine Oc zut U U U (zoW y.q y.ow y.s y.r _ (h.l.tabs y (zaT hf).1)) ?_
 rintro v20 w20⟨t',own',rfl,ht,-,ho,c20⟩
 refine Om U (Oa U (Oa U (E2 4 5 U (zj ?_))))
 refine zcs U U U ?_
 exact⟨t',own',U,ht,ho,c20⟩
end
section
variable {w w':Wl} {p m:Nat} {L:List CE} {c d:Cat} {n:By} {own:List Nat}
theorem Kc.iter{K:Type}[DecidableEq K]{κ:ziU K}{r b:Nat}{es left:List (K×Va)}{last:Option (K×Va)}(hc:zk [r] w w')(h:zgG κ w r b es left last):Kc w w':=fun k t e f hk=>by
 refine(hc.block k (Array.getElem?_eq_some_iff.1 hk).1 fun hm=>?_).trans hk
 simp at hm
 subst hm
 obtain⟨_,_,_,h1,_⟩:=h
 rw[hk]at h1
 cases h1
structure zr1(w0 w:Wl)(L L':List CE)(left:List (By×Va)):Prop where
 tabs:∀x∈L',zab w x.q x.ow x.s x.r
 apart:zph L'
 fresh:∀b∈owL L',w0.heap.size≤b
 perm:(L'.map (·.n)++left.map (·.1)).Perm (L.map (·.n))
 same:∀x∈L',∃y∈L,x.tb=y.tb
theorem zr1.done{w0:Wl}{L':List CE}(h:zbq w0 L c)(k:zr1 w0 w L L' []):zbq w L' c:=by
 have hp:(L'.map (·.n)).Perm (L.map (·.n)):=by simpa using k.perm
 refine⟨k.tabs,k.apart,hp.nodup_iff.2 h.names,fun t=>?_,h.ok⟩
 rw[←h.mem]
 constructor
 ·intro ht
  obtain⟨x,hx,rfl⟩:=List.mem_map.1 ht
  obtain⟨y,hy,e⟩:=k.same x hx
  rw[e]
  exact List.mem_map.2 ⟨y,hy,U⟩
 intro ht
 obtain⟨y,hy,rfl⟩:=List.mem_map.1 ht
 obtain⟨x,hx,e⟩:=List.mem_map.1 (hp.mem_iff.2 (List.mem_map.2 ⟨y,hy,rfl⟩))
 obtain⟨z,hz,e2⟩:=k.same x hx
 have:z=y:=h.uniq hz hy ((congrArg Tb.n e2).symm.trans e)
 rw[←this,←e2]
 exact List.mem_map.2 ⟨x,hx,U⟩
theorem zuC(hC:zbb w p own c):zT TP 11 #[Pt p] w fun r w'=>∃p' own',r=Pt p'∧zbb w' p' own' c∧(∀b∈own',w.heap.size≤b)∧zk [] w w':=by
 obtain⟨m,L,rfl,h⟩:=hC
 refine A1 Tryz.func11 U U ?_
 refine Sr (Oa U (E1 0 U (zf (Sr (Om U (Og (zbp zqv U U) U (E2 0 7 U (zb U (zm (Sr ?_))))))))))
 refine Oc zxW U U U (zsu _ h.nn) ?_
 rintro v8 w8⟨p',m',rfl,hN,hp',hm',c8⟩
 refine Oa U (E2 0 3 U ?_)
 have h8:=h.chg0 c8
 have hNp:Lw.n≤p':=Nat.le_trans h.nn hp'
 have hNm:Lw.n≤m':=Nat.le_trans h.nn hm'
 refine zf (Sr (Om U (Og (zB U) U (Od zba U (Ol zeu U (h8.blk.cell' (i:=0) U) ?_)))))
 refine Oq (zgr zim U h8.map U ?_)
 intro b13 w13 e13 n13 c13 k13
 refine E2 3 13 U ?_
 have hb13:w.heap.size≤b13∧m<b13∧p'<b13∧m'<b13:=by
  have:=h.map.lt
  have:=c8.size
  have:=hN.blk.lt
  have:=hN.map.lt
  omega
 obtain⟨hb1,hb2,hb3,hb4⟩:=hb13
 have hmm:m≠m':=by
  have:=h.map.lt
  omega
 refine zp ?_
 refine zQ [3,13] (fun kk F wx=>∃(L':List CE) (left:List (By×Va)) (last:Option (By×Va)),kk=left.length∧F=[(3,Pt p'),(13,Pt b13)]∧zgG zce wx b13 m (L.map CE.en) left last∧zO wx p' 83 [.map (some m')]∧yf zce wx m' (L'.map CE.en)∧zr1 w wx L L' left∧zk [] w wx) (m:=(L.map CE.en).length) ⟨[],_,none,rfl,rfl,k13,hN.blk.chg0 c13,hN.map.chg0 c13,⟨by simp,List.Pairwise.nil,by simp[owL],by simp[List.map_map,Function.comp_def,CE.en],by simp⟩,c8.trans c13⟩ ?_
 rintro kk F wx⟨L',left,last,rfl,rfl,hit,hblk,hmap,hcp,hcx⟩
 refine zf ?_
 cases hleft:left with
 |nil=>
  refine za ?_
  refine Oq (zdM U hit U (fun _=>?_) (fun q l1 l2 w' h=>absurd (hleft.symm.trans h) (by simp)))
  skip
  refine Oe U U (E3 3 13 15 U (zf (zb U ?_)))
  refine zH ?_
  repeat first|refine te ?_|refine bo rfl ?_
  refine zq _ ?_
  subst hleft
  refine Sr (Om U (Oa U (E1 2 U (zj ?_))))
  refine zw U U ?_
  refine⟨p',p'::m'::owL L',U,⟨m',L',U,hblk,hmap,hcp.done h.l,hNp,hNm⟩,fun b hb=>?_,hcx⟩
  rcases List.mem_cons.1 hb with rfl|hb
  ·exact hp'
  rcases List.mem_cons.1 hb with rfl|hb
  ·exact hm'
  exact hcp.fresh b hb
 |cons q0 l0=>
  refine za ?_
  refine Oq (zdM U hit U (fun h=>absurd (hleft.symm.trans h) (by simp)) ?_)
  intro q l1 l2 w14 e14 n14 c14 k14
  refine Oe U U (E3 3 13 15 U ?_)
  have hq:q∈L.map CE.en:=by
   obtain⟨_,_,_,_,_,_,_,hsub,_⟩:=hit
   exact hsub q (by rw[e14];simp)
  obtain⟨y,hy,rfl⟩:=List.mem_map.1 hq
  refine zf (ze U (zm (zp (Sr (Og (zgs U k14) U (Oe U U (Oe U U (Oa U (Oa U (E4 3 4 5 13 U ?_))))))))))
  have hc14:=hcx.own c14 (by intro b hb;simp at hb;omega)
  have hit14:=k14
  have hblk14:=hblk.chg c14 (by simp;omega)
  have hmap14:=hmap.chg c14 (by simp;omega)
  have hd:zk [] w14 w14.drew:=zk.drew [] _
  refine zI (fun wz=>zk [] w14 wz) mix (by kernel_rfl) hd ?_
  refine Tm U (Tp (fun _=>zB U) U (Td zba U (Tr (fun wz hz=>zg zeu U ((hblk14.chg0 hz).cell' (i:=0) U)) U (Tm U (Tm U ?_)))))
  refine Tc zut U U U (zoW y.q y.ow y.s y.r _ ((h.l.tabs y hy).chg0 (hc14.trans hd))) ?_
  rintro v25 w25⟨t',ow',rfl,ht',-,ho',c25⟩
  refine⟨.inl (hd.trans c25),?_⟩
  refine zaK U (gn U) (zi5 (κ:=zce) zim (zaP st9) U U U ((hmap14.chg0 hd).chg0 c25) ?_)
  intro wA nA cA kA
  refine⟨.inr (by kernel_rfl),?_⟩
  refine zdw [3,13] (F':=[(3,_),(13,_)]) U ?_
  have hc25:=hd.trans c25
  have hcA:zk [m'] w14 wA:=(hc25.any (S:=[m'])).transS cA
  have hperm:(L'.map (·.n)++(y.n::(l1++l2).map (·.1))).Perm (L.map (·.n)):=by
   refine(List.Perm.append_left _ ?_).trans hcp.perm
   rw[e14,List.map_append,List.map_append,List.map_cons]
   exact List.perm_middle.symm
  have hnot:y.n∉L'.map (·.n):=fun hm=>by
   have h1:=hperm.nodup_iff.2 h.l.names
   rw[List.nodup_append]at h1
   exact h1.2.2 y.n hm y.n (by simp) U
  have hk0:zbd (L'.map CE.en) y.n=none:=by
   rw[zct]
   cases hf:zaw L' y.n with
   |none=>rfl
   |some z=>
    obtain⟨h1,h2⟩:=zaT hf
    exact absurd (List.mem_map.2 ⟨z,h1,h2⟩) hnot
  have kA':yf zce wA m' (zcI (L'.map CE.en) y.n (Pt t')):=kA
  rw[zhK hk0]at kA'
  have hs14:=hc14.size
  have hsd:=hd.size
  have hfr:∀b∈ow',w.heap.size≤b:=fun b hb=>by have:=ho' b hb;omega
  have hpm':p'≠m':=fun e=>by subst e;exact hmap.ne hblk rfl
  refine zl ?_
  refine⟨l1.length+l2.length,by rw[←hleft,e14];simp,L'++[⟨y.n,t',ow',y.s,y.r⟩],l1++l2,_,by simp,rfl,hit14.chg hcA (by simp;omega) (by simp;omega),hblk14.chg hcA (by simpa using hpm'),?_,?_,hc14.own hcA (by intro b hb;simp at hb;omega)⟩
  ·rw[List.map_append]
   exact kA'
  have hold:∀x∈L',zab w14 x.q x.ow x.s x.r:=fun x hx=>(hcp.tabs x hx).kc (Kc.iter c14 hit)
  have hnot':∀{W:Wl} {q:Nat} {ow:List Nat} {s:yK} {r:LV},zab W q ow s r→yf zce W m' (L'.map CE.en)→∀b∈ow,b∉[m']:=fun ht hM b hb hm=>by
   obtain⟨_,_,_,h1⟩:=ht.pages b hb
   simp at hm
   subst hm
   exact hM.ne h1 U
  refine⟨fun x hx=>?_,?_,fun b hb=>?_,?_,fun x hx=>?_⟩
  ·rcases List.mem_append.1 hx with hx|hx
   ·exact((hold x hx).chg0 hc25).hm (hnot' ((hold x hx).chg0 hc25) (hmap14.chg0 hc25)) (Hm.map (hmap14.chg0 hc25)) cA
   simp at hx
   subst hx
   exact ht'.hm (hnot' ht' (hmap14.chg0 hc25)) (Hm.map (hmap14.chg0 hc25)) cA
  ·refine List.pairwise_append.2 ⟨hcp.apart,List.pairwise_singleton _ _,fun a ha z hz b hb hm=>?_⟩
   simp at hz
   subst hz
   have h1:=(hold a ha).lt b hb
   have h2:=ho' b hm
   omega
  ·obtain⟨z,hz,hbz⟩:=zbE.1 hb
   rcases List.mem_append.1 hz with hz|hz
   ·exact hcp.fresh b (zbE.2 ⟨z,hz,hbz⟩)
   simp at hz
   subst hz
   exact hfr b hbz
  ·rw[List.map_append,List.append_assoc]
   exact hperm
  rcases List.mem_append.1 hx with hx|hx
  ·exact hcp.same x hx
  simp at hx
  subst hx
  exact⟨y,hy,U⟩
end
section
variable {c:Cat}
theorem zgk(c:Cat)(x:EvT)(l:List EvT):zd8 c (x::l)=zd8 (doC c x) l:=rfl
theorem zk5(c:Cat)(l:List EvT)(x:EvT):zd8 c (l++[x])=doC (zd8 c l) x:=by simp[zd8]
theorem zmY:∀{l:List EvT} {c:Cat} {i j:Nat} {x:EvT},l[j]? = some x→(∀k y,k<j→l[k]? = some y→doE (zd8 c (l.take k)) y=0)→doE (zd8 c (l.take j)) x≠0→zid c l i=(i+j,doE (zd8 c (l.take j)) x)
 |[],_,_,_,_,h,_,_=>by simp at h
 |y::l,c,i,0,x,h,_,h0=>by
  simp at h
  subst h
  have h0:doE c y≠0:=h0
  unfold zid
  rw[if_pos h0]
  rfl
 |y::l,c,i,j+1,x,h,hk,h0=>by
  have hy:doE c y=0:=hk 0 y (by omega) rfl
  unfold zid
  rw[if_neg (by simp[hy])]
  rw[zmY (c:=doC c y) (i:=i+1) (j:=j) (x:=x) (by simpa using h) (fun k z hkj hz=>by
   have:=hk (k+1) z (by omega) (by simpa using hz)
   rwa [List.take_succ_cons,zgk]at this) (by rwa [List.take_succ_cons,zgk]at h0)]
  rw[List.take_succ_cons,zgk]
  congr 1
  omega
theorem zo6:∀{l:List EvT} {c:Cat} {i:Nat},(∀k y,l[k]? = some y→doE (zd8 c (l.take k)) y=0)→zid c l i=(0,0)
 |[],_,_,_=>rfl
 |y::l,c,i,hk=>by
  have hy:doE c y=0:=hk 0 y rfl
  unfold zid
  rw[if_neg (by simp[hy])]
  exact zo6 fun k z hz=>by
   have:=hk (k+1) z (by simpa using hz)
   rwa [List.take_succ_cons,zgk]at this
theorem za6.all{l:List EvT}(h:za6 c)(hg:∀x∈l,∀y∈x.w,y.Rng):za6 (zd8 c l):=by
 induction l generalizing c with
 |nil=>exact h
 |cons x l ih=>exact ih (h.do (hg x (by simp))) fun y hy=>hg y (by simp[hy])
end
section
variable {w w':Wl} {p m:Nat} {L:List CE} {c:Cat} {own:List Nat} {v:Va} {xs:List EvT}
theorem zxN(hE:EOk w)(hC:zbb w p own c)(hL:zej w v xs)(hm:∀x∈xs,zcP x)(hn:xs.length≤1048576) :
 zT TP 16 #[Pt p,v] w fun r w'=>r=.tuple #[Ii (zid c xs 0).1,Ii (zid c xs 0).2]∧zk [p] w w'∧∃own',zbb w' p own' (zof c xs)∧∀b∈own',b∈own∨w.heap.size≤b:=by
 obtain⟨pv,cv,rfl,hcv⟩:=hL.val
 refine A2 Tryz.func16 U U ?_
 refine Sr (Oa U (Oa U (E2 0 1 U (zf (Sr (Om U (Og (zbp zqv U U) U (E3 0 1 11 U (zb U (zm (Sr (Om U ?_))))))))))))
 refine Oc zC0 U U U (zuC hC) ?_
 rintro v13 w13⟨p',own',rfl,hD,ho',c13⟩
 refine Oa U (E3 0 1 6 U (zf (Sr (Om U (On zh1 U (Om U (E5 0 6 14 15 16 U (zp ?_))))))))
 refine zQ [0,6,14,15,16] (fun kk F wx=>∃(j:Nat) (ow:List Nat),kk=xs.length-j∧j≤xs.length∧F=[(0,Pt p),(6,Pt p'),(14,.slice pv xs.length cv),(15,Ii xs.length),(16,Ii j)]∧zbb wx p' ow (zd8 c (xs.take j))∧(∀b∈ow,w.heap.size≤b)∧(∀k y,k<j→xs[k]? = some y→doE (zd8 c (xs.take k)) y=0)∧zk [] w wx) (m:=xs.length-0) ⟨0,own',rfl,Nat.zero_le _,rfl,hD,ho',(by intro k y hk;omega),c13⟩ ?_
 rintro kk F wx⟨j,ow,rfl,hj,rfl,hDx,how,hok,hcx⟩
 refine zf ?_
 by_cases hlt:j<xs.length
 ·refine za ?_
  refine Og (vt (zy U U) (by simp;omega)) U ?_
  refine E6 0 6 14 15 16 17 U (zf (ze U (zm ?_)))
  have hx:xs[j]? = some xs[j]:=by simp[hlt]
  have htk:=List.take_succ_eq_append_getElem hlt
  have hmem:=List.getElem_mem hlt
  generalize xs[j]=x at hx htk hmem
  obtain⟨b,off,cap,e,hve,hcell,hxe⟩:=(hL.chg0 hcx).at hx
  cases hve
  have hlen:=zi8 x e
  refine zf (zp (Sr (Om U ?_)))
  refine Og (zi zh1 za2 U U _ U hlt) U ?_
  refine Og (zh zbK za2 U hlen hcell) U ?_
  refine Oq (zF zh9 U U ?_)
  intro b8 w8 e8 n8 c8 k8
  refine Oa U ?_
  refine Oq (zt za2 U U U U k8 (by simp[evC]) hxe.one ?_)
  intro wA nA cA kA
  refine E7 0 6 7 8 14 15 16 U ?_
  have kA:zO wA b8 39 (evC x e):=kA
  have hcA:zk [] wx wA:=c8.own cA (by intro y hy;simp at hy;omega)
  have hcw:=hcx.trans hcA
  have hDA:=hDx.chg0 hcA
  have hHm:=hDA.hmO
  refine zf ?_
  by_cases he0:doE (zd8 c (xs.take j)) x=0
  ·refine za (Om U (Og (zh zbK za2 U U (zx.of_blk0 kA)) U ?_))
   refine Oc zkt U U U (zr7 (hE.chg0 hcw) hDA (hxe.chg0 hcA) (hm x hmem)) ?_
   rintro v23 w23⟨rfl,c23,ow',hD',how'⟩
   refine Oa U (E7 0 6 7 9 14 15 16 U (Sr (Om U (Og (vf (zJ U U) (zcy he0)) U (E8 0 6 7 9 14 15 16 25 U (zb U (zV (zl (za ?_)))))))))
   refine Og (zG U U (by omega)) U ?_
   refine Om U (N5 0 6 14 15 16 U ?_)
   refine⟨xs.length-(j+1),by omega,j+1,ow',rfl,by omega,rfl,?_,fun b hb=>?_,fun k y hk hy=>?_,hcw.own c23 (fun b hb=>how b hb)⟩
   ·rw[htk,zk5]
    exact hD'
   ·rcases how' b hb with h1|h1
    ·exact how b h1
    exact Nat.le_trans hcw.size h1
   by_cases hkj:k=j
   ·subst hkj
    rw[hx]at hy
    cases hy
    exact he0
   exact hok k y (by omega) hy
  refine za (Om U (Og (zh zbK za2 U U (zx.of_blk0 kA)) U ?_))
  refine Oc zkt U U U (zr7 (hE.chg0 hcw) hDA (hxe.chg0 hcA) (hm x hmem)) ?_
  rintro v23 w23⟨rfl,c23,ow',hD',how'⟩
  refine Oa U (E7 0 6 7 9 14 15 16 U (Sr (Om U (Og (vt (zJ U U) (zfz he0)) U (E8 0 6 7 9 14 15 16 25 U (ze U (Sr (Om U (Om U (Oa U (Oa U (E2 4 5 U (zj ?_)))))))))))))
  repeat first|refine tr ?_|refine br ?_
  refine zcs U U U ?_
  have he:=zmY (i:=0) hx hok he0
  have hcf:zk [] w w23:=hcw.own c23 (fun b hb=>how b hb)
  refine⟨by rw[he];simp,hcf.any,own,?_,fun b hb=>.inl hb⟩
  unfold zof
  rw[he,if_neg he0]
  exact hC.chg0 hcf
 refine za ?_
 refine Og (vf (zy U U) (by simp;omega)) U ?_
 refine E6 0 6 14 15 16 17 U (zf (zb U ?_))
 refine zH ?_
 repeat first|refine te ?_|refine bo rfl ?_
 refine zq _ ?_
 have hjl:j=xs.length:=by omega
 subst hjl
 have he:=zo6 (i:=0) (fun k y hy=>hok k y (Gs hy).1 hy)
 rw[Tl (Nat.le_refl _)]at hDx
 obtain⟨m',L',rfl,h'⟩:=hDx
 obtain⟨m,L,rfl,h⟩:=hC
 have hx:=h.chg0 hcx
 refine Sr (Om U (Om U (Og (zB U) U (Od zba U (Ol zeu U (h'.blk.cell' (i:=0) U) (Og (zB U) U (Od zba U ?_)))))))
 refine Oq (zt zAE U U U U hx.blk (by simp) (by simp[Value.oneCell']) ?_)
 intro wD nD cD kD
 refine yQ [] (F':=[]) U ?_
 have kD:zO wD p 83 [.map (some m')]:=kD
 refine Sr (Oa U (Oa U (E2 4 5 U (zj ?_))))
 refine zcs U U U ?_
 refine⟨by rw[he];rfl,(hcx.any).transS cD,p::m'::owL L',?_,fun b hb=>?_⟩
 ·unfold zof
  rw[he,if_pos rfl]
  refine⟨m',L',U,kD,h'.map.chg cD (fun hb=>?_),h'.l.hm (fun y hy hm=>?_) (Hm.cat hx.blk hx.ge.1) cD,hx.ge.1,h'.ge.2⟩
  ·simp at hb
   subst hb
   exact h'.map.ne hx.blk U
  simp at hm
  subst hm
  obtain⟨_,_,_,hp⟩:=h'.l.pagesO y hy
  exact hp.ne hx.blk U U
 rcases List.mem_cons.1 hb with rfl|hb
 ·exact .inl (by simp)
 exact .inr (how b (List.mem_cons_of_mem _ hb))
theorem zsp(h:zbq w L c){l:List By}(hp:l.Perm (zbX (L.map CE.en)))(hs:l.Pairwise fun a b=>blt a b=true):l=c.map (·.n):=by
 refine znB hs (by rw[List.pairwise_map];exact h.ok.srt) fun x=>?_
 rw[hp.mem_iff,zbX,List.map_map]
 simp only[List.mem_map,Function.comp_apply]
 constructor
 ·rintro ⟨y,hy,rfl⟩
  exact⟨y.tb,(h.mem _).1 (List.mem_map.2 ⟨y,hy,U⟩),U⟩
 rintro⟨t,ht,rfl⟩
 obtain⟨y,hy,rfl⟩:=List.mem_map.1 ((h.mem t).2 ht)
 exact⟨y,hy,U⟩
theorem zti(hC:zbb w p own c):zT TP 20 #[Pt p] w fun r w'=>∃b q cp,r=.func (.func 49) #[] #[Pt b]∧zO w' b 105 [.slice q c.length cp]∧zA w' 9 1 (.slice q c.length cp) c.length (sv (c.map (·.n)))∧w.heap.size≤b∧zk [] w w':=by
 obtain⟨m,L,rfl,h⟩:=hC
 refine A1 Tryz.func20 U U ?_
 refine Sr (Oa U (E1 0 U (Sr ?_)))
 refine Oq (zF zza U U ?_)
 intro b3 w3 e3 n3 c3 k3
 refine E2 0 3 U ?_
 have h3:=h.chg0 c3
 refine zf (Sr (Om U (Og (zm4 zqv U U) U (E3 0 3 5 U (ze U (za (Om U (Og (zB U) U (Od zba U (Ol zeu U (h3.blk.cell' (i:=0) U) ?_))))))))))
 refine Oc zC6 U U U (zrx m _ _ h3.map (by rw[List.length_map,h.l.len];exact h.l.ok.le) (by rw[zbX,List.map_map];exact h.l.names)) ?_
 rintro v10 w10⟨l,hp,hs,il,fl,c10⟩
 obtain rfl:=zsp h.l hp hs
 obtain⟨q10,cp10,rfl,-⟩:=id (zA.val il)
 refine Oq (zt zxl U U U U (k3.chg0 c10) (by simp) (by simp[Value.oneCell']) ?_)
 intro wA nA cA kA
 refine E1 3 U ?_
 have hb3:∀b∈zu (.slice q10 (c.map (·.n)).length cp10),b∉[b3]:=fun b hb hm=>by
  have h1:=fl b hb
  simp at hm
  omega
 have il:=il.chg cA hb3
 rw[List.length_map]at il
 have kA:zO wA b3 105 [.slice q10 (c.map (·.n)).length cp10]:=kA
 rw[List.length_map]at kA
 refine Sr (Og (zal U U) U (Oa U (E1 2 U (zj ?_))))
 refine zw U U ?_
 exact⟨b3,q10,cp10,rfl,kA,il,by omega,(c3.trans c10).own cA (by intro y hy;simp at hy;omega)⟩
end
def alN(l:List By):List (Nat×By):=(List.range l.length).map fun i=>(i,l.getD i e0)
theorem zi3(l:List By):(alN l).length=l.length:=by simp[alN]
theorem ztU{l:List By}{i:Nat}{x:By}(h:l[i]? = some x):(alN l)[i]? = some (i,x):=by
 obtain⟨hl,hx⟩:=Gs h
 simp[alN,hl,hx]
theorem zvm{l:List By}{pre:List (Nat×By)}{x:Nat×By}(h:pre++[x] <+: alN l):x.1=pre.length∧l[pre.length]? = some x.2:=by
 have h1:(pre++[x])[pre.length]? = some x:=by simp
 obtain⟨r,hr⟩:=h
 have h2:(alN l)[pre.length]? = some x:=by
  rw[←hr,List.getElem?_append_left (by simp)]
  exact h1
 have hl:pre.length<l.length:=by
  have:=(Gs h2).1
  rwa [zi3]at this
 have hx:l[pre.length]? = some l[pre.length]:=by simp[hl]
 have h3:=ztU hx
 rw[h2]at h3
 cases h3
 exact⟨U,hx⟩
theorem zly(w:Wl)(b3:Nat)(q:Option Addr)(cp:Nat)(l:List By)(S0:List Nat)(h3:zO w b3 105 [.slice q l.length cp])(hv:zA w 9 1 (.slice q l.length cp) l.length (sv l))(hn:l.length≤1048576)(k3:b3∉S0)
 (hS:∀b∈S0,∀e c,zO w b e c→Nat.beq 9 e=false) :
 zu8 TP 49 #[Pt b3] (fun x:Nat×By => #[Ii x.1,.string x.2]) (Kp S0 w.heap.size) (fun xs=>xs=alN l) (fun pre=>pre <+: alN l) (fun pre=>pre <+: alN l) w:=by
 intro lb J Jx W hW hJ hJx hY h0
 have hcw:zk [] w W:=⟨hW.os,hW.tape,hW.output,hW.size,fun k hk _=>hW.block k hk⟩
 have hkw:Kp S0 w.heap.size w W:=⟨hcw.size,fun k hk _=>hcw.block k hk (by simp)⟩
 have fsl:∀{W1:Wl},Kp S0 w.heap.size w W1→zA W1 9 1 (.slice q l.length cp) l.length (sv l):=fun hk=>Kp.sl (fun k hlt hn=>hk.2 k hlt hn) hv (fun b hb e c hc=>hS b hb e c hc)
 refine CallsIn.mono (R:=fun e W'=>∃u,e=.returned u∧(fun(_:Va) W'=>(∃xs,xs=alN l∧J xs W')∨(∃pre,pre <+: alN l∧Jx pre W')) u W') ?_ (fun e W' ⟨u,he,h⟩=>⟨⟨u,he⟩,h⟩)
 refine CallsIn.of_WX (args:=[_,_]) Tryz.func49 U U U U (zhn ?_)
 refine zha ?_
 refine zf ?_
 refine zi4 ?_
 refine Sr (Ol zt1 U ((h3.chg0 hcw).cell' (i:=0) U) (On zeB U (Om U (E4 0 5 6 7 U (zp ?_)))))
 refine zQ [0,5,6,7] (fun kk F wx=>∃j:Nat,kk=l.length-j∧j≤l.length∧F=[(0,.func (.yield lb) #[] #[]),(5,.slice q l.length cp),(6,Ii l.length),(7,Ii j)]∧Kp S0 w.heap.size w wx∧J ((alN l).take j) wx) (m:=l.length-0) ⟨0,U,Nat.zero_le _,U,hkw,h0⟩ ?_
 rintro kk F wx⟨j,rfl,hj,rfl,hkx,hJ0⟩
 refine zf ?_
 by_cases hlt:j<l.length
 ·refine za ?_
  refine Og (vt (zy U U) (by simp;omega)) U ?_
  refine E5 0 5 6 7 8 U (zf (ze U (zm ?_)))
  have hx:l[j]? = some l[j]:=by simp[hlt]
  generalize l[j]=x at hx
  have hal:=ztU hx
  have hsn:(alN l).take (j+1)=(alN l).take j++[(j,x)]:=by rw[List.take_add_one,hal];rfl
  obtain⟨b,off,cap,u,hve,hu,hcell⟩:=(fsl hkx).at1 hlt
  cases hve
  have hux:u=.string x:=by
   have:(sv l)[j]? = some (.string x):=by rw[sv,List.getElem?_map,hx];rfl
   rw[this]at hu
   exact(Option.some.inj hu).symm
  subst hux
  refine zf (zp (Sr (Om U ?_)))
  refine Og (zi zeB sz9 U U _ U hlt) U ?_
  refine Ol yH U hcell (Oa U (Oa U (E6 0 3 4 5 6 7 U (zf ?_))))
  refine zeS ?_
  refine Xm U (Xm U (Xm U ?_))
  refine zgj (gn U) U U U (hY ((alN l).take j) (j,x) wx hJ0 (by rw[←hsn];exact List.take_prefix _ _)) ?_
  rintro v15 w15 hR15
  obtain⟨b15,rfl,hb15⟩:=yb hR15
  refine⟨_,U,?_⟩
  refine yB (gn U) U (St.vl (zC U) U U ?_)
  refine zdj [0,5,6,7,16] (F':=[(0,_),(5,_),(6,_),(7,_),(16,_)]) U ?_
  rcases hb15 with⟨rfl,hJ15,hk15⟩|⟨rfl,hJ15⟩
  ·refine zb U (zV (zl (za ?_)))
   refine Og (zG U U (by omega)) U ?_
   refine Om U (N4 0 5 6 7 U ?_)
   refine⟨l.length-(j+1),by omega,j+1,rfl,by omega,rfl,hkx.trans hk15,?_⟩
   rw[hsn]
   exact hJ15
  refine ze U ?_
  refine zH ?_
  repeat first|refine te ?_|refine bo rfl ?_
  refine zq _ ?_
  refine zfP ?_
  refine zgE U ?_
  exact .inr ⟨(alN l).take j++[(j,x)],by rw[←hsn];exact List.take_prefix _ _,hJ15⟩
 refine za ?_
 refine Og (vf (zy U U) (by simp;omega)) U ?_
 refine E5 0 5 6 7 8 U (zf (zb U ?_))
 refine zH ?_
 repeat first|refine te ?_|refine bo rfl ?_
 refine zq _ ?_
 refine zfP ?_
 refine zgE U ?_
 refine .inl ⟨_,U,?_⟩
 rw[Tl (by rw[zi3];omega)]at hJ0
 exact hJ0
end Go.Wk
