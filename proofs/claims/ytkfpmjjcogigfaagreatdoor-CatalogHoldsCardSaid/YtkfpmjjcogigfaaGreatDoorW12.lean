/- joined texts -/
import Derived.Test.YtkfpmjjcogigfaaGreatDoorW11
set_option linter.all false
namespace Go.Wk
open Go.Proofs
set_option linter.unusedSectionVars false
variable [Lw]
set_option maxRecDepth 10000
section
variable {P:Program} {fn:Func} {R:Va→Wl→Prop} {n:Nat} {F:Fr} {w:Wl}
theorem zjn{t u ty k b off:Nat}{y:Va}{cs:List Va}(hr:fn.results = #[.cell u ty,.tmp t])(hag:yZ P ty=some true)(hk:yR P ty=some k)(hu:get F u=some (.pointer (some ⟨b,off,none⟩)))(hy:get F t=some y)(hl:cs.length=k)(hc:zB w b off cs)
 (h:R (.tuple #[.agg cs.toArray,y]) w) (hm:yU F=[]:=by rfl):zfR P fn R n .ret F w:=by
 refine⟨.tuple #[.agg cs.toArray,y],fun a ha=>?_,hm,h⟩
 subst hl
 have h1:(loadCells ⟨b,off,none⟩ cs.length).run P w=.ok cs.toArray w:=run_loadCells_list w ⟨b,off,none⟩ cs (fun j v hv=>by rw[Addr.add_lit];exact hc j v hv)
 simp[results,hr,ha.get u _ hu,ha.get t _ hy,asAddr,loadVar,zao hag,zU hk,h1]
end
def Kc(w w':Wl):Prop:=∀(k:Nat) b e f,w.heap[k]? = some (Obj.cells b e f)→w'.heap[k]? = some (Obj.cells b e f)
section
variable {α:Type} {f:α→List Va} {w w':Wl} {e k:Nat}
theorem zK.kc{b:Nat}{t:TypeId}{c:List Va}(h:zK w b t c)(hk:Kc w w'):zK w' b t c:=hk b _ _ _ h
theorem zw.kc{v:Va}{n:Nat}{xs:List Va}(h:zw w e k v n xs)(hk:Kc w w'):zw w' e k v n xs:=by
 rcases h with h|⟨b,off,cap,c,rfl,hs⟩
 ·exact .inl h
 exact .inr ⟨b,off,cap,c,U,⟨hs.blk.kc hk,hs.le,hs.max,hs.fit,hs.xs,hs.one⟩⟩
theorem Rd.kc{v:Va}{n:Nat}{xs:List Va}(h:Rd w k v n xs)(hk:Kc w w'):Rd w' k v n xs:=
 h.keep fun b off u j _ _ hc=>by
  unfold World.cell? at hc ⊢
  cases ho:w.heap[b]? with
  |none=>simp[ho]at hc
  |some o=>
   cases o with
   |cells x y z=>
    rw[hk b x y z ho]
    rw[ho]at hc
    exact hc
   |_=>simp[ho]at hc
theorem ye.kc(hk:Kc w w'):∀{vs:List Va} {ls:List (List α)},ye w e k f vs ls→ye w' e k f vs ls
 |[],[],_=>trivial
 |_::_,_::_,h=>⟨zw.kc h.1 hk,ye.kc hk h.2⟩
theorem zcp.kc(hk:Kc w w'):∀{vs:List Va} {ls:List (List α)},zcp w e k f vs ls→zcp w' e k f vs ls
 |[],[],_=>trivial
 |_::_,_::_,h=>⟨Rd.kc h.1 hk,zcp.kc hk h.2⟩
theorem zaP.kc(hk:Kc w w'):∀{vs:List Va} {ls:LE},zaP w vs ls→zaP w' vs ls
 |[],[],_=>trivial
 |_::_,_::_,h=>⟨zw.kc h.1 hk,zaP.kc hk h.2⟩
theorem Pg.kc{p:Nat}{ls:LE}(h:Pg w p ls)(hk:Kc w w'):Pg w' p ls:=
 let ⟨v,h1,us,h2,h3⟩:=h; ⟨v,h1.kc hk,us,zw.kc h2 hk,h3.kc hk⟩
theorem PgL.kc(hk:Kc w w'):∀{ps:List Nat} {ms:List (LE)},PgL w ps ms→PgL w' ps ms
 |[],[],_=>trivial
 |_::_,_::_,h=>⟨Pg.kc h.1 hk,PgL.kc hk h.2⟩
theorem zal.kc{c k u:Va}{s:yx}(h:zal w c k u s)(hk:Kc w w'):zal w' c k u s:=
 have hl:∀b,Lo w b→Lo w' b:=fun b hb=>by
  rcases hb with h|⟨c,e,fr,h3,h4⟩
  ·exact .inl h
  exact .inr ⟨c,e,fr,hk b _ _ _ h3,h4⟩
 ⟨Rd.kc h.cols hk,Rd.kc h.key hk,let ⟨vs,h1,h2,h3⟩:=h.us; ⟨vs,h1.kc hk,h2.kc hk,fun v hv b hb=>hl b (h3 v hv b hb)⟩,fun v hv b hb=>hl b (h.lo v hv b hb)⟩
theorem yw.kc{t:Nat}{own:List Nat}{s:yx}{rows:LV}(h:yw w t own s rows)(hk:Kc w w'):yw w' t own s rows:=by
 obtain⟨pm,c,k,u,sv,xs,main,subs,h1,h2,h3⟩:=h
 exact⟨pm,c,k,u,sv,xs,main,subs,h1,⟨h2.blk.kc hk,h2.sch.kc hk,h2.pg.kc hk,zw.kc h2.sl hk,ye.kc hk h2.ats,PgL.kc hk h2.pgs,h2.nd,h2.ge⟩,h3⟩
end
section
variable {w w':Wl} {t:Nat} {own:List Nat} {s s':yx} {rows rows':LV}
theorem yw.lt(h:yw w t own s rows):∀p∈own,p<w.heap.size:=fun p hp=>by
 obtain⟨_,_,_,hb⟩:=h.pages p hp
 exact hb.lt
end
def fnV(f:Nat)(cap:List Va):Va:=.func (.func f) #[] cap.toArray
def zea:List Va:=[fnV 153 [],fnV 155 [],fnV 156 []]
def zlI:List Va:=[fnV 157 [],fnV 159 [],fnV 161 []]
def zmc:List Va:=[fnV 163 [],fnV 165 [],fnV 167 []]
def zc4(b:Nat):List Va:=[fnV 141 [Pt b],fnV 145 [Pt b],fnV 148 [Pt b]]
theorem zig(w:Wl):zL TP 97 #[] w fun r w'=>r=.agg zea.toArray∧zl [] w w':=by
 refine zL.of_W (args:=[]) Tryz.func97 U U U U ?_
 refine Sr ?_
 refine Oq (zD zfb U U ?_)
 intro b0 w0 e0 n0 c0 k0
 refine E1 0 U (Sr ?_)
 refine Og (zC zoT zfb U (vs:=[_,_,_]) U (css:=[_,_,_]) ⟨U,U,U,trivial⟩ U U (cs:=[_,_,_]) U) U ?_
 refine Oq (zv zcW U U U U k0 (by simp) (by simp[Value.oneCell']) ?_)
 intro wA nA cA kA
 refine E1 0 U (zh ?_)
 refine zg4 U zgj zcW U U (zB.of_blk0 kA) ?_
 exact⟨rfl,c0.own cA (by intro y hy;simp at hy;omega)⟩
theorem zvI(w:Wl):zL TP 98 #[] w fun r w'=>r=.agg zlI.toArray∧zl [] w w':=by
 refine zL.of_W (args:=[]) Tryz.func98 U U U U ?_
 refine Sr ?_
 refine Oq (zD zfb U U ?_)
 intro b0 w0 e0 n0 c0 k0
 refine E1 0 U (Sr ?_)
 refine Og (zC zoT zfb U (vs:=[_,_,_]) U (css:=[_,_,_]) ⟨U,U,U,trivial⟩ U U (cs:=[_,_,_]) U) U ?_
 refine Oq (zv zcW U U U U k0 (by simp) (by simp[Value.oneCell']) ?_)
 intro wA nA cA kA
 refine E1 0 U (zh ?_)
 refine zg4 U zgj zcW U U (zB.of_blk0 kA) ?_
 exact⟨rfl,c0.own cA (by intro y hy;simp at hy;omega)⟩
theorem zwA(w:Wl):zL TP 99 #[] w fun r w'=>r=.agg zmc.toArray∧zl [] w w':=by
 refine zL.of_W (args:=[]) Tryz.func99 U U U U ?_
 refine Sr ?_
 refine Oq (zD zfb U U ?_)
 intro b0 w0 e0 n0 c0 k0
 refine E1 0 U (Sr ?_)
 refine Og (zC zoT zfb U (vs:=[_,_,_]) U (css:=[_,_,_]) ⟨U,U,U,trivial⟩ U U (cs:=[_,_,_]) U) U ?_
 refine Oq (zv zcW U U U U k0 (by simp) (by simp[Value.oneCell']) ?_)
 intro wA nA cA kA
 refine E1 0 U (zh ?_)
 refine zg4 U zgj zcW U U (zB.of_blk0 kA) ?_
 exact⟨rfl,c0.own cA (by intro y hy;simp at hy;omega)⟩
theorem zq3(f:Nat)(w:Wl):zL TP 94 #[fnV f []] w fun r w'=>∃b,r=.agg (zc4 b).toArray∧zK w' b 182 [fnV f []]∧w.heap.size≤b∧zl [] w w':=by
 refine A1 Tryz.func94 U U ?_
 refine Sr ?_
 refine Ob U U ?_
 intro b1 w1 e1 n1 c1 k1
 refine Oq (zD zfb U U ?_)
 intro b2 w2 e2 n2 c2 k2
 refine E2 1 2 U (Sr (Og (y9 U U) U (Og (y9 U U) U (Og (y9 U U) U ?_))))
 refine Og (zC zoT zfb U (vs:=[_,_,_]) U (css:=[_,_,_]) ⟨U,U,U,trivial⟩ U U (cs:=[_,_,_]) U) U ?_
 refine Oq (zv zcW U U U U k2 (by simp) (by simp[Value.oneCell']) ?_)
 intro wA nA cA kA
 refine E1 2 U (zh ?_)
 refine zg4 U zgj zcW U U (zB.of_blk0 kA) ?_
 have h1:=k1.lt
 exact⟨b1,rfl,(k1.chg0 c2).chg cA (by simp;omega),by omega,(c1.trans c2).own cA (by intro y hy;simp at hy;omega)⟩
theorem zho{K:Type}[DecidableEq K](k k':K)(v:Va):∀es:List (K×Va),zar (zb3 es k v) k'=if k=k' then some v else zar es k'
 |[]=>by
  by_cases h:k=k'<;>simp[zb3,zar,h]
 |p::r=>by
  unfold zb3
  by_cases hp:p.1=k
  ·rw[if_pos hp]
   by_cases h:k=k'
   ·simp[zar,h]
   have:p.1≠k':=fun e=>h (hp.symm.trans e)
   simp[zar,h,this]
  rw[if_neg hp]
  by_cases h:p.1=k'
  ·have:k≠k':=fun e=>hp (h.trans e.symm)
   simp[zar,h,this]
  simp[zar,h,zho k k' v r]
theorem zlf{K:Type}[DecidableEq K]{k:K}{v:Va}:∀{es:List (K×Va)} {p:K×Va},p∈zb3 es k v→p=(k,v)∨p∈es
 |[],p,h=>by simpa[zb3] using h
 |q::r,p,h=>by
  unfold zb3 at h
  split at h
  ·rcases List.mem_cons.1 h with h|h
   ·exact .inl h
   exact .inr (List.mem_cons_of_mem _ h)
  rcases List.mem_cons.1 h with h|h
  ·exact .inr (by rw[h];exact List.mem_cons_self ..)
  rcases zlf h with h|h
  ·exact .inl h
  exact .inr (List.mem_cons_of_mem _ h)
def SL(w:Wl)(v:Va)(parts:List (List Va)):Prop:=∃b,v=.slice (some ⟨b,0,none⟩) parts.length parts.length∧zK w b 137 parts.flatten
theorem SL.chg{S:List Nat}{w w':Wl}{v:Va}{ps:List (List Va)}(h:SL w v ps)(hc:zl S w w')(hS:∀b e c,zK w b e c→b∉S):SL w' v ps:=let ⟨b,h1,h2⟩:=h; ⟨b,h1,h2.chg hc (hS _ _ _ h2)⟩
def Ph(bo bn m:Nat)(k:Nat)(w:Wl)(v:Va):Prop:=match k with
 |0=>v=.map (some m)
 |1=>v=.agg zea.toArray
 |2=>v=.agg (zc4 bn).toArray
 |3=>SL w v [zea,(zc4 bn)]
 |5=>v=.agg zea.toArray
 |6=>v=.agg (zc4 bo).toArray
 |7=>v=.agg (zc4 bn).toArray
 |8=>SL w v [zea,(zc4 bo),(zc4 bn)]
 |10=>v=.agg zea.toArray
 |11=>v=.agg (zc4 bo).toArray
 |12=>SL w v [zea,(zc4 bo)]
 |14=>v=.agg zea.toArray
 |15=>v=.agg zlI.toArray
 |16=>SL w v [zea,zlI]
 |18=>v=.agg zea.toArray
 |19=>SL w v [zea]
 |21=>v=.agg zmc.toArray
 |22=>SL w v [zmc]
 |24=>v=.map (some m)
 |25=>v=.map (some m)
 |_=>True
def zix:List (Nat×Nat):=[(0,5),(1,6),(2,7),(3,8),(5,9),(6,10),(7,11),(8,12),(10,13),(11,14),(12,15),(14,16),(15,17),(16,18),(18,19),(19,20),(21,21),(22,22),(24,23),(25,0)]
def zmE:List (Nat×Int×Nat):=[(4,1,3),(9,2,8),(13,3,12),(17,4,16),(20,5,19),(23,6,22)]
theorem Ph.chg{bo bn m k:Nat}{S:List Nat}{w w':Wl}{v:Va}(h:Ph bo bn m k w v)(hc:zl S w w')(hS:∀b e c,zK w b e c→b∉S):Ph bo bn m k w' v:=by
 unfold Ph at *
 split at h<;>first|exact h|exact SL.chg h hc hS
theorem Ph.indep{bo bn m b k:Nat}{w:Wl}{v:Va}(h0:k≠0)(h4:k≠24)(h5:k≠25)(h:Ph bo bn m k w v):Ph bo bn b k w v:=by
 unfold Ph at *
 split at h<;>first|exact h|exact absurd rfl h0|exact absurd rfl h4|exact absurd rfl h5
theorem zrn{F:Fr}{d:Nat}{v:Va}(hd:d<1000000):get ((d,v)::F) d=some v:=zbs F d v (by
 cases hb:Nat.ble 1000000 d with
 |false=>rfl
 |true=>have:=Nat.le_of_ble_eq_true hb;omega)
theorem zha{F:Fr}{d i:Nat}{v:Va}(h:d≠i):get ((d,v)::F) i=get F i:=zbH F d i v (fun e=>h e.symm)
theorem zkd{F:Fr}{d:Nat}{v:Va}(hd:d<1000000):zcj ((d,v)::F)=zcj F:=by
 have:Nat.ble 1000000 d=false:=by
  cases hb:Nat.ble 1000000 d with
  |false=>rfl
  |true=>have:=Nat.le_of_ble_eq_true hb;omega
 simp[zcj,this]
theorem gD{listed:Array Bool}{i:Nat}(h:listed.getD i true=false):listed.getD i false≠true:=by
 rcases Nat.lt_or_ge i listed.size with h1|h1
 ·simp[h1]at h ⊢
  exact h
 simp[Array.getElem?_eq_none h1]at h
theorem ztp{listed:Array Bool}{i:Nat}(h:i<listed.size):(listed.setIfInBounds i true).getD i false=true:=by simp[h]
theorem zrT{F:Fr}{a:Nat}{u:Va}(h1:get F a=some u):zf6 F [(0,.tmp a)]=some (zaQ 0 [u]):=by simp[zf6,ev,h1,zaQ]
theorem znv{F:Fr}{a b:Nat}{u v:Va}(h1:get F a=some u)(h2:get F b=some v):zf6 F [(0,.tmp a),(1,.tmp b)]=some (zaQ 0 [u,v]):=by simp[zf6,ev,h1,h2,zaQ]
theorem zwj{F:Fr}{a b c:Nat}{u v x:Va}(h1:get F a=some u)(h2:get F b=some v)(h3:get F c=some x):zf6 F [(0,.tmp a),(1,.tmp b),(2,.tmp c)]=some (zaQ 0 [u,v,x]):=by simp[zf6,ev,h1,h2,h3,zaQ]
theorem zfB(n i:Nat):¬ (Array.replicate n false).getD i false=true:=by
 rcases Nat.lt_or_ge i n with h|h
 ·simp[h]
 simp[Nat.not_lt.2 h]
def zti:List Nat:=[4,9,13,17,20,23,24,25]
theorem zmv:∀x∈zix,∀y∈zix,x.1=y.1→x=y:=by decide
theorem ztO:∀x∈zmE,x.1∈zti∧x.1≠0:=by decide
theorem zmC:∀x∈zix,∀y∈zix,x.2=y.2→x=y:=by decide
theorem znL:∀x∈zmE,∀y∈zmE,x.1=y.1∨x.2.1=y.2.1→x=y:=by decide
theorem zlo:∀x∈zmE,∀y∈zix,x.1≠y.1:=by decide
structure KJ(w0:Wl)(b1 b2 bo bn m:Nat)(es:List (Int×Va))(listed:Array Bool)(F:Fr)(w:Wl):Prop where
 chg:zl [] w0 w
 mf:zcj F=[]
 f1:get F 1=some (Pt b1)
 f2:get F 2=some (Pt b2)
 val:∀x∈zix,listed.getD x.1 false=true→∃v,get F x.2=some v∧Ph bo bn m x.1 w v
 mp:listed.getD 0 false=true→zY (y6 .i64) w m es∧w0.heap.size≤m
 ent:∀x∈zmE,listed.getD x.1 false=true→∃v,zar es x.2.1=some v∧Ph bo bn m x.2.2 w v
 keys:∀p∈es,1≤p.1∧p.1≤6
 cl:∀k∈zti,listed.getD k false=true→listed.getD 0 false=true
section
variable {w0 w w':Wl} {b1 b2 bo bn m:Nat} {es:List (Int×Va)} {listed:Array Bool} {F:Fr}
theorem KJ.put(h:KJ w0 b1 b2 bo bn m es listed F w){i d:Nat}{v:Va}(hi:(i,d)∈zix)(hv:Ph bo bn m i w' v)(hc:zl [] w w')(h0:i≠0)(hdep:i∈zti→listed.getD 0 false=true)(hd:d≠1∧d≠2∧d<1000000):KJ w0 b1 b2 bo bn m es (listed.setIfInBounds i true) ((d,v)::F) w':=by
 refine⟨h.chg.trans hc,?_,?_,?_,?_,?_,?_,h.keys,?_⟩
 ·rw[←h.mf]
  exact zkd hd.2.2
 ·rw[zha hd.1]
  exact h.f1
 ·rw[zha hd.2.1]
  exact h.f2
 ·intro x hx hl
  by_cases hxi:x.1=i
  ·have:x=(i,d):=by
    by_cases hd2:x.2=d
    ·exact Prod.ext hxi hd2
    exact absurd (zmv x hx (i,d) hi hxi) (fun e=>hd2 (by rw[e]))
   subst this
   exact⟨v,zrn hd.2.2,hv⟩
  rw[getD_set_ne false (fun e=>hxi e.symm)]at hl
  obtain⟨u,h1,h2⟩:=h.val x hx hl
  have hne:d≠x.2:=fun e=>hxi (congrArg Prod.fst (zmC x hx (i,d) hi e.symm))
  exact⟨u,by rw[zha hne];exact h1,h2.chg hc (by simp)⟩
 ·intro hl
  rw[getD_set_ne false h0]at hl
  exact⟨(h.mp hl).1.chg0 hc,(h.mp hl).2⟩
 ·intro x hx hl
  rw[getD_set_ne false (fun e=>zlo x hx (i,d) hi e.symm)]at hl
  obtain⟨u,h1,h2⟩:=h.ent x hx hl
  exact⟨u,h1,h2.chg hc (by simp)⟩
 intro k hk hl
 rw[getD_set_ne false h0]
 by_cases hki:k=i
 ·exact hdep (hki▸hk)
 rw[getD_set_ne false (fun e=>hki e.symm)]at hl
 exact h.cl k hk hl
theorem KJ.ins(h:KJ w0 b1 b2 bo bn m es listed F w){i so:Nat}{k:Int}{v:Va}(hi:(i,k,so)∈zmE)(hl0:listed.getD 0 false=true)(hv:Ph bo bn m so w v)(hc:zl [m] w w')(hm:zY (y6 .i64) w' m (zb3 es k v))(hk:1≤k∧k≤6):KJ w0 b1 b2 bo bn m (zb3 es k v) (listed.setIfInBounds i true) F w':=by
 obtain⟨hm0,hmf⟩:=h.mp hl0
 have hS:∀b e c,zK w b e c→b∉[m]:=fun b e c hb hmem=>by
  simp at hmem
  exact hm0.ne hb hmem.symm
 refine⟨h.chg.own hc (by intro y hy;simp at hy;omega),h.mf,h.f1,h.f2,?_,fun _=>⟨hm,hmf⟩,?_,?_,fun _ _ _=>getD_set_true hl0⟩
 ·intro x hx hl
  rw[getD_set_ne false (fun e=>zlo (i,k,so) hi x hx e)]at hl
  obtain⟨u,h1,h2⟩:=h.val x hx hl
  exact⟨u,h1,h2.chg hc hS⟩
 ·intro x hx hl
  by_cases hxi:x.1=i
  ·have:=znL x hx (i,k,so) hi (.inl hxi)
   subst this
   exact⟨v,by rw[zho,if_pos rfl],hv.chg hc hS⟩
  rw[getD_set_ne false (fun e=>hxi e.symm)]at hl
  obtain⟨u,h1,h2⟩:=h.ent x hx hl
  have hne:k≠x.2.1:=fun e=>hxi (congrArg Prod.fst (znL x hx (i,k,so) hi (.inr e.symm)))
  exact⟨u,by rw[zho,if_neg hne];exact h1,h2.chg hc hS⟩
 intro p hp
 rcases zlf hp with rfl|hp
 ·exact hk
 exact h.keys p hp
end
theorem aft{listed:Array Bool}{o:Oper}(h:∀e∈o.after,Region.binds .any e=true→listed.getD e.on false=true)(j:Nat)(hj:(o.after.toList.any fun e=>Region.binds .any e && Nat.beq e.on j)=true):listed.getD j false=true:=by
 obtain⟨e,he,hb⟩:=List.any_eq_true.1 hj
 simp only[Bool.and_eq_true]at hb
 have:=Nat.eq_of_beq_eq_true hb.2
 subst this
 exact h e (Array.mem_toList_iff.1 he) hb.1
def zqw(w:Wl)(m:Nat)(es:List (Int×Va))(bo bn:Nat):Prop:=zY (y6 .i64) w m es∧(∀x∈zmE,∃v,zar es x.2.1=some v∧Ph bo bn m x.2.2 w v)∧(∀p∈es,1≤p.1∧p.1≤6) ∧
 zK w bo 182 [fnV 95 []]∧zK w bn 182 [fnV 96 []]
set_option maxHeartbeats 1000000 in
theorem zq7(w:Wl):zL TP 57 #[] w fun r w'=>∃m es bo bn,r=.map (some m)∧zqw w' m es bo bn∧zl [] w w':=by
 refine zL.of_W (args:=[]) Tryz.func57 U U U U ?_
 refine Sr (Oa U (zac [] (F':=[]) U (Sr ?_)))
 refine Oc zw2 U U U (zq3 95 _) ?_
 rintro v3 w3⟨bo,rfl,ko,ho,c3⟩
 refine Oq (zD zfb U U ?_)
 intro b1 w1 e1 n1 c1 k1
 refine Oq (zv zcW U U U U k1 (by simp[zc4]) (by simp[zc4,fnV,Value.oneCell']) ?_)
 intro wA nA cA kA
 refine E1 1 U ?_
 have kA:zK wA b1 137 (zc4 bo):=kA
 have hcA:zl [] w wA:=(c3.trans c1).own cA (by intro y hy;have:=c3.size;simp at hy;omega)
 have h1:=k1.lt
 have ho1:=ko.lt
 have ko:=(ko.chg0 c1).chg cA (by simp;omega)
 refine Sr ?_
 refine Oc zw2 U U U (zq3 96 _) ?_
 rintro v4 w4⟨bn,rfl,kn,hn,c4⟩
 refine Oq (zD zfb U U ?_)
 intro b2 w2 e2 n2 c2 k2
 refine Oq (zv zcW U U U U k2 (by simp[zc4]) (by simp[zc4,fnV,Value.oneCell']) ?_)
 intro wB nB cB kB
 refine E2 1 2 U ?_
 have kB:zK wB b2 137 (zc4 bn):=kB
 have hcB:zl [] wA wB:=(c4.trans c2).own cB (by intro y hy;have:=c4.size;simp at hy;omega)
 have kA:=kA.chg0 hcB
 have ko:=ko.chg0 hcB
 have hn1:=kn.lt
 have kn:=(kn.chg0 c2).chg cB (by simp;omega)
 have hcAB:=hcA.trans hcB
 refine zd ?_
 refine zsw (fun listed F w'=>∃m es,KJ wB b1 b2 bo bn m es listed F w') mix (by kernel_rfl) ⟨0,[],⟨zl.drew [] _,rfl,rfl,rfl,?_,?_,?_,by simp,?_⟩⟩ ?_ ?_
 ·intro x hx hl
  exact absurd hl (zfB _ _)
 ·intro hl
  exact absurd hl (zfB _ _)
 ·intro x hx hl
  exact absurd hl (zfB _ _)
 ·intro k hk hl
  exact absurd hl (zfB _ _)
 ·rintro listed F w' i o hs hoo hl haft ⟨m,es,h⟩
  have hi:i<26:=(Gs hoo).1
  have hs26:listed.size=26:=hs
  have hcs:i∈List.range 26:=List.mem_range.2 hi
  simp only[show List.range 26=[0,1,2,3,4,5,6,7,8,9,10,11,12,13,14,15,16,17,18,19,20,21,22,23,24,25] from rfl,List.mem_cons,List.not_mem_nil,or_false]at hcs
  rcases hcs with rfl|rfl|rfl|rfl|rfl|rfl|rfl|rfl|rfl|rfl|rfl|rfl|rfl|rfl|rfl|rfl|rfl|rfl|rfl|rfl|rfl|rfl|rfl|rfl|rfl|rfl
  ·obtain rfl:=Option.some.inj hoo
   refine⟨gn U,zbc (y6 .i64) U ?_⟩
   intro b w2 e n c k
   have hno:∀k∈zti,listed.getD k false=true→False:=fun k hk hk2=>gD hl (h.cl k hk hk2)
   refine⟨b,[],⟨h.chg.trans c,?_,?_,?_,?_,fun _=>⟨k,by have:=h.chg.size;omega⟩,?_,by simp,fun _ _ _=>ztp (by omega)⟩⟩
   ·rw[←h.mf];exact zkd (by decide)
   ·rw[zha (by decide)];exact h.f1
   ·rw[zha (by decide)];exact h.f2
   ·intro x hx hl2
    by_cases hx0:x.1=0
    ·have:x=(0,5):=zmv x hx (0,5) (by decide) hx0
     subst this
     exact⟨_,zrn (by decide),rfl⟩
    rw[getD_set_ne false (fun e=>hx0 e.symm)]at hl2
    have hne:5≠x.2:=fun e=>hx0 (congrArg Prod.fst (zmC x hx (0,5) (by decide) e.symm))
    obtain⟨u,h1,h2⟩:=h.val x hx hl2
    exact⟨u,by rw[zha hne];exact h1,(Ph.indep (b:=b) hx0 (fun e=>hno 24 (by decide) (e▸hl2)) (fun e=>hno 25 (by decide) (e▸hl2)) h2).chg c (by simp)⟩
   intro x hx hl2
   obtain⟨d1,d2⟩:=ztO x hx
   rw[getD_set_ne false (fun e=>d2 e.symm)]at hl2
   exact(hno x.1 d1 hl2).elim
  ·obtain rfl:=Option.some.inj hoo
   refine⟨gn U,zaf zst U U U U (zig _) ?_⟩
   rintro v w2⟨rfl,c⟩
   exact⟨m,es,h.put (by decide) U c (by decide) (fun hh=>absurd hh (by decide)) (by decide)⟩
  ·obtain rfl:=Option.some.inj hoo
   refine⟨gn U,St.vl (zg zgj zcW h.f2 U (zB.of_blk0 (kB.chg0 h.chg))) U U ?_⟩
   exact⟨m,es,h.put (by decide) U (zl.refl _ _) (by decide) (fun hh=>absurd hh (by decide)) (by decide)⟩
  ·obtain rfl:=Option.some.inj hoo
   obtain⟨u6,g6,p6⟩:=h.val (1,6) (by decide) (aft haft 1 rfl)
   obtain rfl:u6=_:=p6
   obtain⟨u7,g7,p7⟩:=h.val (2,7) (by decide) (aft haft 2 rfl)
   obtain rfl:u7=_:=p7
   refine⟨gn U,zz zjI U (vs:=[_,_]) (znv g6 g7) (css:=[zea,(zc4 bn)]) ⟨U,U,trivial⟩ U U U U ?_⟩
   intro b w2 e n c k
   exact⟨m,es,h.put (by decide) ⟨b,rfl,k⟩ c (by decide) (fun hh=>absurd hh (by decide)) (by decide)⟩
  ·obtain rfl:=Option.some.inj hoo
   obtain⟨u5,g5,p5⟩:=h.val (0,5) (by decide) (aft haft 0 rfl)
   obtain rfl:u5=_:=p5
   obtain⟨u,g,p⟩:=h.val (3,8) (by decide) (aft haft 3 rfl)
   refine⟨gn U,yr (κ:=y6 .i64) ziP (zM zaR) g5 U g (h.mp (aft haft 0 U)).1 ?_⟩
   intro w2 n c k
   exact⟨m,_,h.ins (by decide) (aft haft 0 U) p c k (by decide)⟩
  ·obtain rfl:=Option.some.inj hoo
   refine⟨gn U,zaf zst U U U U (zig _) ?_⟩
   rintro v w2⟨rfl,c⟩
   exact⟨m,es,h.put (by decide) U c (by decide) (fun hh=>absurd hh (by decide)) (by decide)⟩
  ·obtain rfl:=Option.some.inj hoo
   refine⟨gn U,St.vl (zg zgj zcW h.f1 U (zB.of_blk0 (kA.chg0 h.chg))) U U ?_⟩
   exact⟨m,es,h.put (by decide) U (zl.refl _ _) (by decide) (fun hh=>absurd hh (by decide)) (by decide)⟩
  ·obtain rfl:=Option.some.inj hoo
   refine⟨gn U,St.vl (zg zgj zcW h.f2 U (zB.of_blk0 (kB.chg0 h.chg))) U U ?_⟩
   exact⟨m,es,h.put (by decide) U (zl.refl _ _) (by decide) (fun hh=>absurd hh (by decide)) (by decide)⟩
  ·obtain rfl:=Option.some.inj hoo
   obtain⟨u9,g9,p9⟩:=h.val (5,9) (by decide) (aft haft 5 rfl)
   obtain rfl:u9=_:=p9
   obtain⟨u10,g10,p10⟩:=h.val (6,10) (by decide) (aft haft 6 rfl)
   obtain rfl:u10=_:=p10
   obtain⟨u11,g11,p11⟩:=h.val (7,11) (by decide) (aft haft 7 rfl)
   obtain rfl:u11=_:=p11
   refine⟨gn U,zz zjI U (vs:=[_,_,_]) (zwj g9 g10 g11) (css:=[zea,(zc4 bo),(zc4 bn)]) ⟨U,U,U,trivial⟩ U U U U ?_⟩
   intro b w2 e n c k
   exact⟨m,es,h.put (by decide) ⟨b,rfl,k⟩ c (by decide) (fun hh=>absurd hh (by decide)) (by decide)⟩
  ·obtain rfl:=Option.some.inj hoo
   obtain⟨u5,g5,p5⟩:=h.val (0,5) (by decide) (aft haft 0 rfl)
   obtain rfl:u5=_:=p5
   obtain⟨u,g,p⟩:=h.val (8,12) (by decide) (aft haft 8 rfl)
   refine⟨gn U,yr (κ:=y6 .i64) ziP (zM zaR) g5 U g (h.mp (aft haft 0 U)).1 ?_⟩
   intro w2 n c k
   exact⟨m,_,h.ins (by decide) (aft haft 0 U) p c k (by decide)⟩
  ·obtain rfl:=Option.some.inj hoo
   refine⟨gn U,zaf zst U U U U (zig _) ?_⟩
   rintro v w2⟨rfl,c⟩
   exact⟨m,es,h.put (by decide) U c (by decide) (fun hh=>absurd hh (by decide)) (by decide)⟩
  ·obtain rfl:=Option.some.inj hoo
   refine⟨gn U,St.vl (zg zgj zcW h.f1 U (zB.of_blk0 (kA.chg0 h.chg))) U U ?_⟩
   exact⟨m,es,h.put (by decide) U (zl.refl _ _) (by decide) (fun hh=>absurd hh (by decide)) (by decide)⟩
  ·obtain rfl:=Option.some.inj hoo
   obtain⟨u13,g13,p13⟩:=h.val (10,13) (by decide) (aft haft 10 rfl)
   obtain rfl:u13=_:=p13
   obtain⟨u14,g14,p14⟩:=h.val (11,14) (by decide) (aft haft 11 rfl)
   obtain rfl:u14=_:=p14
   refine⟨gn U,zz zjI U (vs:=[_,_]) (znv g13 g14) (css:=[zea,(zc4 bo)]) ⟨U,U,trivial⟩ U U U U ?_⟩
   intro b w2 e n c k
   exact⟨m,es,h.put (by decide) ⟨b,rfl,k⟩ c (by decide) (fun hh=>absurd hh (by decide)) (by decide)⟩
  ·obtain rfl:=Option.some.inj hoo
   obtain⟨u5,g5,p5⟩:=h.val (0,5) (by decide) (aft haft 0 rfl)
   obtain rfl:u5=_:=p5
   obtain⟨u,g,p⟩:=h.val (12,15) (by decide) (aft haft 12 rfl)
   refine⟨gn U,yr (κ:=y6 .i64) ziP (zM zaR) g5 U g (h.mp (aft haft 0 U)).1 ?_⟩
   intro w2 n c k
   exact⟨m,_,h.ins (by decide) (aft haft 0 U) p c k (by decide)⟩
  ·obtain rfl:=Option.some.inj hoo
   refine⟨gn U,zaf zst U U U U (zig _) ?_⟩
   rintro v w2⟨rfl,c⟩
   exact⟨m,es,h.put (by decide) U c (by decide) (fun hh=>absurd hh (by decide)) (by decide)⟩
  ·obtain rfl:=Option.some.inj hoo
   refine⟨gn U,zaf zz1 U U U U (zvI _) ?_⟩
   rintro v w2⟨rfl,c⟩
   exact⟨m,es,h.put (by decide) U c (by decide) (fun hh=>absurd hh (by decide)) (by decide)⟩
  ·obtain rfl:=Option.some.inj hoo
   obtain⟨u16,g16,p16⟩:=h.val (14,16) (by decide) (aft haft 14 rfl)
   obtain rfl:u16=_:=p16
   obtain⟨u17,g17,p17⟩:=h.val (15,17) (by decide) (aft haft 15 rfl)
   obtain rfl:u17=_:=p17
   refine⟨gn U,zz zjI U (vs:=[_,_]) (znv g16 g17) (css:=[zea,zlI]) ⟨U,U,trivial⟩ U U U U ?_⟩
   intro b w2 e n c k
   exact⟨m,es,h.put (by decide) ⟨b,rfl,k⟩ c (by decide) (fun hh=>absurd hh (by decide)) (by decide)⟩
  ·obtain rfl:=Option.some.inj hoo
   obtain⟨u5,g5,p5⟩:=h.val (0,5) (by decide) (aft haft 0 rfl)
   obtain rfl:u5=_:=p5
   obtain⟨u,g,p⟩:=h.val (16,18) (by decide) (aft haft 16 rfl)
   refine⟨gn U,yr (κ:=y6 .i64) ziP (zM zaR) g5 U g (h.mp (aft haft 0 U)).1 ?_⟩
   intro w2 n c k
   exact⟨m,_,h.ins (by decide) (aft haft 0 U) p c k (by decide)⟩
  ·obtain rfl:=Option.some.inj hoo
   refine⟨gn U,zaf zst U U U U (zig _) ?_⟩
   rintro v w2⟨rfl,c⟩
   exact⟨m,es,h.put (by decide) U c (by decide) (fun hh=>absurd hh (by decide)) (by decide)⟩
  ·obtain rfl:=Option.some.inj hoo
   obtain⟨u19,g19,p19⟩:=h.val (18,19) (by decide) (aft haft 18 rfl)
   obtain rfl:u19=_:=p19
   refine⟨gn U,zz zjI U (vs:=[_]) (zrT g19) (css:=[zea]) ⟨U,trivial⟩ U U U U ?_⟩
   intro b w2 e n c k
   exact⟨m,es,h.put (by decide) ⟨b,rfl,k⟩ c (by decide) (fun hh=>absurd hh (by decide)) (by decide)⟩
  ·obtain rfl:=Option.some.inj hoo
   obtain⟨u5,g5,p5⟩:=h.val (0,5) (by decide) (aft haft 0 rfl)
   obtain rfl:u5=_:=p5
   obtain⟨u,g,p⟩:=h.val (19,20) (by decide) (aft haft 19 rfl)
   refine⟨gn U,yr (κ:=y6 .i64) ziP (zM zaR) g5 U g (h.mp (aft haft 0 U)).1 ?_⟩
   intro w2 n c k
   exact⟨m,_,h.ins (by decide) (aft haft 0 U) p c k (by decide)⟩
  ·obtain rfl:=Option.some.inj hoo
   refine⟨gn U,zaf zz9 U U U U (zwA _) ?_⟩
   rintro v w2⟨rfl,c⟩
   exact⟨m,es,h.put (by decide) U c (by decide) (fun hh=>absurd hh (by decide)) (by decide)⟩
  ·obtain rfl:=Option.some.inj hoo
   obtain⟨u21,g21,p21⟩:=h.val (21,21) (by decide) (aft haft 21 rfl)
   obtain rfl:u21=_:=p21
   refine⟨gn U,zz zjI U (vs:=[_]) (zrT g21) (css:=[zmc]) ⟨U,trivial⟩ U U U U ?_⟩
   intro b w2 e n c k
   exact⟨m,es,h.put (by decide) ⟨b,rfl,k⟩ c (by decide) (fun hh=>absurd hh (by decide)) (by decide)⟩
  ·obtain rfl:=Option.some.inj hoo
   obtain⟨u5,g5,p5⟩:=h.val (0,5) (by decide) (aft haft 0 rfl)
   obtain rfl:u5=_:=p5
   obtain⟨u,g,p⟩:=h.val (22,22) (by decide) (aft haft 22 rfl)
   refine⟨gn U,yr (κ:=y6 .i64) ziP (zM zaR) g5 U g (h.mp (aft haft 0 U)).1 ?_⟩
   intro w2 n c k
   exact⟨m,_,h.ins (by decide) (aft haft 0 U) p c k (by decide)⟩
  ·obtain rfl:=Option.some.inj hoo
   obtain⟨u,g,p⟩:=h.val (0,5) (by decide) (aft haft 0 rfl)
   obtain rfl:u=_:=p
   refine⟨gn U,St.vl (zaT g) U U ?_⟩
   exact⟨m,es,h.put (by decide) U (zl.refl _ _) (by decide) (fun _=>aft haft 0 U) (by decide)⟩
  obtain rfl:=Option.some.inj hoo
  obtain⟨u,g,p⟩:=h.val (24,23) (by decide) (aft haft 24 rfl)
  obtain rfl:u=_:=p
  refine⟨gn U,St.vl (yM g) U U ?_⟩
  exact⟨m,es,h.put (by decide) U (zl.refl _ _) (by decide) (fun _=>h.cl 24 (by decide) (aft haft 24 U)) (by decide)⟩
 rintro listed F w' hall⟨m,es,h⟩
 obtain⟨v,g,p⟩:=h.val (25,0) (by decide) (hall 25 (by decide))
 obtain rfl:v=_:=p
 have hF:prune [0] F=[(0,.map (some m))]:=by
  show (match get F 0 with|some v=>(0,v)::prune [] F|none=>prune [] F)=_
  rw[g]
  show (0,Value.map (some m))::zcj F=_
  rw[h.mf]
 refine zbT [0] hF ?_
 refine zh ?_
 refine zx U U ?_
 exact⟨m,es,bo,bn,rfl,⟨(h.mp (hall 0 (by decide))).1,fun x hx=>h.ent x hx (hall x.1 (by revert x;decide)),h.keys,ko.chg0 h.chg,kn.chg0 h.chg⟩,hcAB.trans h.chg⟩
end Go.Wk
