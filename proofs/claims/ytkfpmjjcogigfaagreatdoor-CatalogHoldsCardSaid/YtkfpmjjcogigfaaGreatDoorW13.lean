/- joined texts -/
import Derived.Test.YtkfpmjjcogigfaaGreatDoorW12
set_option linter.all false
namespace Go.Wk
open Go.Proofs
set_option linter.unusedSectionVars false
variable [Lw]
set_option maxRecDepth 10000
def HmB(w:Wl)(b:Nat):Prop:=(∃p n c,zK w b 178 [.slice p n c])∨(∃a c,w.heap[b]? = some (.map a c))∨(∃v,zK w b 83 [.map v])∨∃p n c,zK w b 48 [.slice p n c]
def Hm(w:Wl)(S:List Nat):Prop:=∀b∈S,Lw.n≤b∧HmB w b
def okH(e:Nat):Bool := !Nat.beq e 178 && !Nat.beq e 83 && !Nat.beq e 48
section
variable {w w':Wl} {S:List Nat} {b:Nat}
theorem Hm.nil(w:Wl):Hm w []:=fun _ h=>by cases h
theorem Hm.cons(h:Hm w [b])(h2:Hm w S):Hm w (b::S):=fun x hx=>by
 rcases List.mem_cons.1 hx with rfl|hx
 ·exact h x (by simp)
 exact h2 x hx
theorem Hm.chg0(h:Hm w S)(hc:zl [] w w'):Hm w' S:=fun b hb=>by
 refine⟨(h b hb).1,?_⟩
 rcases (h b hb).2 with⟨p,n,c,hx⟩|⟨a,c,hx⟩|⟨v,hx⟩|⟨p,n,c,hx⟩
 ·exact .inl ⟨p,n,c,hx.chg0 hc⟩
 ·exact .inr (.inl ⟨a,c,(hc.block b (Array.getElem?_eq_some_iff.1 hx).1 (by simp)).trans hx⟩)
 ·exact .inr (.inr (.inl ⟨v,hx.chg0 hc⟩))
 exact .inr (.inr (.inr ⟨p,n,c,hx.chg0 hc⟩))
theorem Hm.pages(h:∀p∈S,∃p' n c',zK w p 178 [.slice p' n c'])(hg:∀p∈S,Lw.n≤p):Hm w S:=fun b hb=>⟨hg b hb,.inl (h b hb)⟩
theorem Hm.map{κ:zjl By}{es:List (By×Va)}(h:zY κ w b es)(hN:Lw.n≤b:=by omega):Hm w [b]:=fun x hx=>by
 simp at hx;subst hx
 obtain⟨a,c,h1,_⟩:=h
 exact⟨hN,.inr (.inl ⟨a,c,h1⟩)⟩
theorem Hm.cat{v:Option Nat}(h:zK w b 83 [.map v])(hN:Lw.n≤b:=by omega):Hm w [b]:=fun x hx=>by
 simp at hx;subst hx
 exact⟨hN,.inr (.inr (.inl ⟨v,h⟩))⟩
theorem Hm.ns(h:Hm w S):Ns w S:=fun b hb=>by
 refine⟨(h b hb).1,fun c e fr he=>?_⟩
 rcases (h b hb).2 with⟨p,n,c,hx⟩|⟨a,c,hx⟩|⟨v,hx⟩|⟨p,n,c,hx⟩
 ·exact(Ns.one hx U (h b hb).1 b (by simp)).2 _ _ _ he
 ·rw[hx]at he;cases he
 ·exact(Ns.one hx U (h b hb).1 b (by simp)).2 _ _ _ he
 exact(Ns.one hx U (h b hb).1 b (by simp)).2 _ _ _ he
theorem zK.hm{e:TypeId}{c:List Va}(hb:zK w b e c)(h:Hm w S)(ho:okH e=true)(hc:zl S w w'):zK w' b e c:=by
 simp only[okH,Bool.and_eq_true,Bool.not_eq_true']at ho
 obtain⟨⟨o1,o2⟩,o3⟩:=ho
 refine hb.chg hc fun hm=>?_
 rcases (h b hm).2 with⟨p,n,c',hx⟩|⟨a,c',hx⟩|⟨v,hx⟩|⟨p,n,c',hx⟩
 ·exact hb.ne hx o1 U
 ·have:=(show w.heap[b]? = _ from hb).symm.trans hx
  cases this
 ·exact hb.ne hx o2 U
 exact hb.ne hx o3 U
theorem zw.hm{e k n:Nat}{v:Va}{xs:List Va}(hs:zw w e k v n xs)(h:Hm w S)(ho:okH e=true)(hc:zl S w w'):zw w' e k v n xs:=by
 simp only[okH,Bool.and_eq_true,Bool.not_eq_true']at ho
 obtain⟨⟨o1,o2⟩,o3⟩:=ho
 refine hs.chg hc fun b hb hm=>?_
 rcases (h b hm).2 with⟨p,n,c',hx⟩|⟨a,c',hx⟩|⟨v,hx⟩|⟨p,n,c',hx⟩
 ·exact hs.apart hx o1 b hb (by simp)
 ·rcases hs with⟨rfl,_⟩|⟨b',off,cap,c,rfl,h2⟩
  ·simp[zq]at hb
  simp[zq]at hb
  subst hb
  have:=(show w.heap[b]? = _ from h2.blk).symm.trans hx
  cases this
 ·exact hs.apart hx o2 b hb (by simp)
 exact hs.apart hx o3 b hb (by simp)
theorem zal.hm{c k u:Va}{s:yx}(hs:zal w c k u s)(h:Hm w S)(hc:zl S w w'):zal w' c k u s:=hs.chgN hc h.ns
theorem ye.hm{α:Type}{f:α→List Va}{e k:Nat}(h:Hm w S)(ho:okH e=true)(hc:zl S w w'):∀{vs:List Va} {ls:List (List α)},ye w e k f vs ls→ye w' e k f vs ls
 |[],[],_=>trivial
 |_::_,_::_,g=>⟨zw.hm g.1 h ho hc,ye.hm h ho hc g.2⟩
theorem zaP.hm(h:Hm w S)(hc:zl S w w'):∀{vs:List Va} {ls:LE},zaP w vs ls→zaP w' vs ls
 |[],[],_=>trivial
 |_::_,_::_,g=>⟨zw.hm g.1 h rfl hc,zaP.hm h hc g.2⟩
theorem Pg.hm{p:Nat}{ls:LE}(g:Pg w p ls)(hn:p∉S)(h:Hm w S)(hc:zl S w w'):Pg w' p ls:=
 let ⟨v,h1,us,h2,h3⟩:=g; ⟨v,h1.chg hc hn,us,h2.hm h rfl hc,h3.hm h hc⟩
theorem PgL.hm(h:Hm w S)(hc:zl S w w'):∀{ps:List Nat} {ms:List (LE)},(∀p∈ps,p∉S)→PgL w ps ms→PgL w' ps ms
 |[],[],_,_=>trivial
 |_::_,_::_,hn,g=>⟨Pg.hm g.1 (hn _ (by simp)) h hc,PgL.hm h hc (fun p hm=>hn p (by simp[hm])) g.2⟩
theorem yw.hm{t:Nat}{own:List Nat}{s:yx}{rows:LV}(g:yw w t own s rows)(hd:∀p∈own,p∉S)(h:Hm w S)(hc:zl S w w'):yw w' t own s rows:=by
 obtain⟨pm,c,k,u,sv,xs,main,subs,rfl,m,ht⟩:=g
 exact⟨pm,c,k,u,sv,xs,main,subs,rfl,⟨m.blk.hm h U hc,m.sch.hm h hc,Pg.hm m.pg (hd _ (by simp)) h hc,m.sl.hm h U hc,ye.hm h U hc m.ats,PgL.hm h hc (fun p hp=>hd p (by simp[hp])) m.pgs,m.nd,m.ge⟩,ht⟩
theorem EOk.hm(hE:EOk w)(h:Hm w S)(hc:zl S w w'):EOk w':=
 hE.chg hc fun hm=>by
  have hcell:∀{e:TypeId} {c:List Va},zK w 0 e c→c[0]? ≠ some (rty 87)→False:=fun hb hne=>hE.ne hb hne rfl
  rcases (h 0 hm).2 with⟨p,n,c',hx⟩|⟨a,c',hx⟩|⟨v,hx⟩|⟨p,n,c',hx⟩
  ·exact hcell hx (by simp[rty])
  ·unfold EOk World.cell? at hE
   rw[hx]at hE
   simp at hE
  ·exact hcell hx (by simp[rty])
  exact hcell hx (by simp[rty])
end
def pcs(p:By×By):List Va:=[.string p.1,.string p.2]
theorem zbw(p:By×By):(pcs p).length=2:=rfl
theorem zkF(p:By×By):∀u∈pcs p,u.oneCell'=true:=by intro u hu;simp[pcs]at hu;rcases hu with rfl|rfl<;>rfl
def zcw(w:Wl)(v:Va)(m:List (By×By)):Prop:=zO w 78 2 pcs v m
def yD:Va:=.slice none 0 0
structure EvV where
 c:Va
 ky:Va
 u:Va
 o:Va
 n:Va
 m:Va
def evC(x:EvT)(e:EvV):List Va:=[Ii x.k,.string x.t,e.c,e.ky,e.u,e.o,e.n,e.m]
theorem zhU(x:EvT)(e:EvV):(evC x e).length=8:=rfl
structure za7(w:Wl)(e:EvV)(x:EvT):Prop where
 sch:zal w e.c e.ky e.u x.s
 old:yn w e.o x.o
 new:yn w e.n x.w
 nm:zcw w e.m x.m
 kr : -9223372036854775808≤x.k∧x.k≤9223372036854775807
 ro:∀y∈x.o,y.Rng
 rw:∀y∈x.w,y.Rng
structure zce(x:EvT):Prop where
 s:x.s.Sm
 o:x.o.length≤1048576
 w:x.w.length≤1048576
 m:x.m.length≤1048576
 t:x.t.size≤1048576
 cn:∀c∈x.s.cols,c.n.size≤1048576
 mn:∀p∈x.m,p.1.size≤9223372036854775807∧p.2.size≤9223372036854775807
section
variable {w w':Wl} {S:List Nat} {e:EvV} {x:EvT}
theorem za7.chg0(h:za7 w e x)(hc:zl [] w w'):za7 w' e x:=⟨h.sch.chg0 hc,zO.chg0 h.old hc,zO.chg0 h.new hc,zO.chg0 h.nm hc,h.kr,h.ro,h.rw⟩
theorem za7.one(h:za7 w e x):∀u∈evC x e,u.oneCell'=true:=by
 intro u hu
 simp only[evC,List.mem_cons,List.not_mem_nil,or_false]at hu
 rcases hu with rfl|rfl|rfl|rfl|rfl|rfl|rfl|rfl
 ·rfl
 ·rfl
 ·exact zO.one1 h.sch.cols
 ·exact zO.one1 h.sch.key
 ·exact h.sch.uq.one1
 ·exact zO.one1 h.old
 ·exact zO.one1 h.new
 exact zO.one1 h.nm
end
def zdd(w:Wl)(v:Va)(xs:List EvT):Prop:=∃L:List (EvT×EvV),zO w 39 8 (fun p=>evC p.1 p.2) v L∧(∀p∈L,za7 w p.2 p.1)∧xs=L.map (·.1)
section
variable {w w':Wl} {S:List Nat} {v:Va} {xs:List EvT}
theorem zdd.chg0(h:zdd w v xs)(hc:zl [] w w'):zdd w' v xs:=let ⟨L,h1,h2,h3⟩:=h; ⟨L,h1.chg0 hc,fun p hp=>(h2 p hp).chg0 hc,h3⟩
theorem zdd.val(h:zdd w v xs):∃p c,v=.slice p xs.length c∧xs.length≤c:=by
 obtain⟨L,h1,_,rfl⟩:=h
 rw[List.length_map]
 exact zO.val h1
theorem zdd.at(h:zdd w v xs){i:Nat}{x:EvT}(hi:xs[i]? = some x):∃b off cap e,v=.slice (some ⟨b,off,none⟩) xs.length cap∧zB w b (off+i*8) (evC x e)∧za7 w e x:=by
 obtain⟨L,h1,h2,rfl⟩:=h
 rw[List.getElem?_map]at hi
 cases hL:L[i]? with
 |none=>simp[hL]at hi
 |some p=>
  simp[hL]at hi
  subst hi
  obtain⟨b,off,cap,hv,hc⟩:=zO.at (fun p=>zhU p.1 p.2) h1 hL
  exact⟨b,off,cap,p.2,by rw[List.length_map];exact hv,hc,h2 p (List.mem_of_getElem? hL)⟩
end
structure CE where
 n:By
 q:Nat
 ow:List Nat
 s:yx
 r:LV
def CE.tb(x:CE):Tb:=⟨x.n,x.s,x.r⟩
def CE.pt(x:CE):Va:=.pointer (some ⟨x.q,0,none⟩)
def CE.en(x:CE):By×Va:=(x.n,x.pt)
def zoD(L:List CE):Prop:=L.Pairwise fun a b=>∀y∈a.ow,y∉b.ow
def owL(L:List CE):List Nat:=L.flatMap (·.ow)
def yB(L:List CE)(n:By):Option CE:=L.find? fun x=>decide (x.n=n)
structure zaB(w:Wl)(L:List CE)(c:Cat):Prop where
 tabs:∀x∈L,yw w x.q x.ow x.s x.r
 apart:zoD L
 names:(L.map (·.n)).Nodup
 mem:∀t,t∈L.map CE.tb↔t∈c
 ok:zaJ c
structure zcA(w:Wl)(p m:Nat)(L:List CE)(c:Cat):Prop where
 blk:zK w p 83 [.map (some m)]
 map:zY zbo w m (L.map CE.en)
 l:zaB w L c
 ge:Lw.n≤p∧Lw.n≤m
def zaj(w:Wl)(p:Nat)(own:List Nat)(c:Cat):Prop:=∃m L,own=p::m::owL L∧zcA w p m L c
section
variable {w w':Wl} {p m:Nat} {L:List CE} {c:Cat} {S own:List Nat} {n:By} {x y:CE}
theorem zaW{b:Nat}:b∈owL L↔∃x∈L,b∈x.ow:=by simp[owL]
theorem zaB.uniq(h:zaB w L c)(hx:x∈L)(hy:y∈L)(e:x.n=y.n):x=y:=zgc (f:=CE.n) h.names hx hy e
theorem yX(h:yB L n=some x):x∈L∧x.n=n:=⟨List.mem_of_find?_eq_some h,by simpa using List.find?_some (p:=fun x:CE=>decide (x.n=n)) h⟩
theorem zdr(h:yB L n=none):∀x∈L,x.n≠n:=fun t ht e=>by
 have:=List.find?_eq_none.1 h t ht
 simp[e]at this
theorem zaB.find(h:zaB w L c)(hx:x∈L):yB L x.n=some x:=by
 cases ha:yB L x.n with
 |none=>exact absurd rfl (zdr ha x hx)
 |some u=>
  obtain⟨h1,h2⟩:=yX ha
  rw[h.uniq h1 hx h2]
theorem zaO:∀L:List CE,zar (L.map CE.en) n=(yB L n).map CE.pt
 |[]=>rfl
 |x::L=>by
  by_cases e:x.n=n
  ·simp[zar,yB,CE.en,e]
  have:=zaO L
  simp only[yB]at this
  simp[zar,yB,CE.en,e,this]
theorem zaB.at(h:zaB w L c):atC c n=(yB L n).map CE.tb:=by
 cases hf:yB L n with
 |none=>
  cases ha:atC c n with
  |none=>rfl
  |some t=>
   obtain⟨h1,h2⟩:=zbR ha
   obtain⟨x,hx,rfl⟩:=List.mem_map.1 ((h.mem t).2 h1)
   exact absurd h2 (zdr hf x hx)
 |some x=>
  obtain⟨h1,rfl⟩:=yX hf
  exact zlp h.ok.srt ((h.mem x.tb).1 (List.mem_map.2 ⟨x,h1,U⟩))
theorem zaB.perm(h:zaB w L c):(L.map CE.tb).Perm c:=by
 have h1:(L.map CE.tb).Nodup:=by
  have:=h.names
  rw[List.Nodup,List.pairwise_map] at *
  exact this.imp fun hne e=>hne (congrArg Tb.n e)
 have h2:c.Nodup:=h.ok.srt.imp fun hb e=>by rw[e,yJ]at hb;cases hb
 exact(List.perm_ext_iff_of_nodup h1 h2).2 h.mem
theorem zaB.len(h:zaB w L c):L.length=c.length:=by
 have:=h.perm.length_eq
 simpa using this
theorem zaB.chg0(h:zaB w L c)(hc:zl [] w w'):zaB w' L c:=⟨fun x hx=>(h.tabs x hx).chg0 hc,h.apart,h.names,h.mem,h.ok⟩
theorem zaB.hm(h:zaB w L c)(hd:∀b∈owL L,b∉S)(hs:Hm w S)(hc:zl S w w'):zaB w' L c:=
 ⟨fun x hx=>(h.tabs x hx).hm (fun b hb=>hd b (zaW.2 ⟨x,hx,hb⟩)) hs hc,h.apart,h.names,h.mem,h.ok⟩
theorem zcA.chg0(h:zcA w p m L c)(hc:zl [] w w'):zcA w' p m L c:=⟨h.blk.chg0 hc,h.map.chg0 hc,h.l.chg0 hc,h.ge⟩
theorem zaj.chg0(h:zaj w p own c)(hc:zl [] w w'):zaj w' p own c:=let ⟨m,L,h1,h2⟩:=h; ⟨m,L,h1,h2.chg0 hc⟩
theorem zcA.nn(h:zcA w p m L c):Lw.n≤w.heap.size:=Nat.le_trans h.ge.1 (Nat.le_of_lt h.blk.lt)
theorem zaB.hmO(h:zaB w L c):Hm w (owL L):=Hm.pages (fun b hb=>by
 obtain⟨x,hx,hb⟩:=zaW.1 hb
 exact(h.tabs x hx).pages b hb) fun b hb=>by
 obtain⟨x,hx,hb⟩:=zaW.1 hb
 exact(h.tabs x hx).ge b hb
theorem zaB.pagesO(h:zaB w L c):∀b∈owL L,∃p' n c',zK w b 178 [.slice p' n c']:=fun b hb=>by
 obtain⟨x,hx,hb⟩:=zaW.1 hb
 exact(h.tabs x hx).pages b hb
theorem zcA.hmO(h:zcA w p m L c):Hm w (p::m::owL L):=(Hm.cat h.blk h.ge.1).cons ((Hm.map h.map h.ge.2).cons h.l.hmO)
theorem zaj.hmO(h:zaj w p own c):Hm w own:=by obtain⟨m,L,rfl,h⟩:=h;exact h.hmO
theorem zaj.ok(h:zaj w p own c):zaJ c:=by obtain⟨m,L,rfl,h⟩:=h;exact h.l.ok
theorem Hm.lt(h:Hm w S):∀b∈S,b<w.heap.size:=fun b hb=>by
 rcases (h b hb).2 with⟨_,_,_,hx⟩|⟨_,_,hx⟩|⟨_,hx⟩|⟨_,_,_,hx⟩
 ·exact hx.lt
 ·exact(Array.getElem?_eq_some_iff.1 hx).1
 ·exact hx.lt
 exact hx.lt
theorem zaj.other(h:zaj w p own c)(hd:∀b∈own,b∉S)(hs:Hm w S)(hc:zl S w w'):zaj w' p own c:=by
 obtain⟨m,L,rfl,h⟩:=h
 exact⟨m,L,rfl,h.blk.chg hc (hd p (by simp)),h.map.chg hc (hd m (by simp)),h.l.hm (fun b hb=>hd b (by simp[hb])) hs hc,h.ge⟩
def zi8(L:List CE)(n:By)(r:LV):List CE:=L.map fun x=>if x.n=n then { x with r:=r } else x
theorem zwn(r:LV):(zi8 L n r).map CE.en=L.map CE.en:=by
 unfold zi8
 rw[List.map_map]
 refine List.map_congr_left fun x _=>?_
 simp only[Function.comp_apply]
 split<;>rfl
theorem zvJ(r:LV):owL (zi8 L n r)=owL L:=by
 unfold zi8 owL
 rw[List.flatMap_map]
 congr 1
 funext x
 split<;>rfl
theorem zyU(r:LV):(zi8 L n r).map (·.n)=L.map (·.n):=by
 unfold zi8
 rw[List.map_map]
 refine List.map_congr_left fun x _=>?_
 simp only[Function.comp_apply]
 split<;>rfl
theorem zhW{r:LV}:y∈zi8 L n r↔∃x∈L,(x.n=n∧y={ x with r:=r })∨(x.n≠n∧y=x):=by
 unfold zi8
 rw[List.mem_map]
 refine exists_congr fun x=>and_congr_right fun _=>?_
 by_cases e:x.n=n<;>simp[e,eq_comm]
theorem zaB.turn(h:zaB w L c)(hx:x∈L){r:LV}(hc:zl x.ow w w')(ht:yw w' x.q x.ow x.s r):zaB w' (zi8 L x.n r) (zaD c ⟨x.n,x.s,r⟩):=by
 have hat:atC c x.n=some x.tb:=by rw[h.at,h.find hx];rfl
 refine⟨?_,?_,by rw[zyU];exact h.names,fun t=>?_,h.ok.set (t:=⟨x.n,x.s,r⟩) hat ht.ok⟩
 ·intro y hy
  obtain⟨z,hz,⟨e,rfl⟩|⟨e,rfl⟩⟩:=zhW.1 hy
  ·obtain rfl:=h.uniq hz hx e
   exact ht
  refine(h.tabs y hz).hm (fun b hb hm=>?_) (Hm.pages (h.tabs x hx).pages (h.tabs x hx).ge) hc
  have hsym:∀{a d:CE},(∀u∈a.ow,u∉d.ow)→∀u∈d.ow,u∉a.ow:=fun h u hu hu'=>h u hu' hu
  obtain⟨i,hi⟩:=List.getElem?_of_mem hz
  obtain⟨j,hj⟩:=List.getElem?_of_mem hx
  have hne:i≠j:=fun hij=>e (by
   subst hij
   rw[hi]at hj
   cases hj;rfl)
  obtain⟨hi',rfl⟩:=Gs hi
  obtain⟨hj',rfl⟩:=Gs hj
  rcases Nat.lt_or_ge i j with hij|hij
  ·exact List.pairwise_iff_getElem.1 h.apart i j hi' hj' hij b hb hm
  exact List.pairwise_iff_getElem.1 h.apart j i hj' hi' (by omega) b hm hb
 ·unfold zoD zi8
  rw[List.pairwise_map]
  refine h.apart.imp fun {a d} hh=>?_
  have e1:∀z:CE,(if z.n=x.n then { z with r:=r } else z).ow=z.ow:=fun z=>by split<;>rfl
  rw[e1,e1]
  exact hh
 rw[zae]
 constructor
 ·intro hm
  obtain⟨y,hy,rfl⟩:=List.mem_map.1 hm
  obtain⟨z,hz,⟨e,rfl⟩|⟨e,rfl⟩⟩:=zhW.1 hy
  ·obtain rfl:=h.uniq hz hx e
   exact .inl U
  exact .inr ⟨(h.mem _).1 (List.mem_map.2 ⟨y,hz,U⟩),e⟩
 rintro (rfl|⟨h1,h2⟩)
 ·exact List.mem_map.2 ⟨{ x with r:=r },zhW.2 ⟨x,hx,.inl ⟨U,U⟩⟩,U⟩
 obtain⟨z,hz,rfl⟩:=List.mem_map.1 ((h.mem t).2 h1)
 exact List.mem_map.2 ⟨z,zhW.2 ⟨z,hz,.inr ⟨h2,U⟩⟩,U⟩
theorem zcA.turn(h:zcA w p m L c)(hx:x∈L){r:LV}(hc:zl x.ow w w')(ht:yw w' x.q x.ow x.s r):zaj w' p (p::m::owL L) (zaD c ⟨x.n,x.s,r⟩):=by
 have hn:∀b∈x.ow,b≠p∧b≠m:=fun b hb=>by
  obtain⟨_,_,_,hp⟩:=(h.l.tabs x hx).pages b hb
  exact⟨hp.ne h.blk U,fun e=>h.map.ne hp e.symm⟩
 refine⟨m,zi8 L x.n r,by rw[zvJ],h.blk.chg hc (fun hb=>(hn p hb).1 U),?_,h.l.turn hx hc ht,h.ge⟩
 rw[zwn]
 exact h.map.chg hc (fun hb=>(hn m hb).2 U)
theorem zaB.new(h:zaB w L c)(hn:yB L x.n=none)(ht:yw w x.q x.ow x.s x.r)(hd:∀b∈owL L,b∉x.ow)(hl:c.length<12):zaB w (L++[x]) (zaD c x.tb):=by
 have hat:atC c x.n=none:=by rw[h.at,hn];rfl
 refine⟨fun y hy=>?_,?_,?_,fun t=>?_,h.ok.new (t:=x.tb) ht.ok hl⟩
 ·rcases List.mem_append.1 hy with hy|hy
  ·exact h.tabs y hy
  simp at hy;subst hy;exact ht
 ·refine List.pairwise_append.2 ⟨h.apart,List.pairwise_singleton _ _,fun a ha d hd' b hb hm=>?_⟩
  simp at hd';subst hd'
  exact hd b (zaW.2 ⟨a,ha,hb⟩) hm
 ·rw[List.map_append,List.nodup_append]
  refine⟨h.names,by simp,fun a ha d hd'=>?_⟩
  simp at hd';subst hd'
  obtain⟨y,hy,rfl⟩:=List.mem_map.1 ha
  exact zdr hn y hy
 rw[List.map_append,List.mem_append,zae,h.mem]
 constructor
 ·rintro (h1|h1)
  ·exact .inr ⟨h1,zgo hat t h1⟩
  simp at h1;exact .inl h1
 rintro (h1|⟨h1,_⟩)
 ·subst h1;simp
 exact .inl h1
theorem zgG{k:By}{v:Va}:∀{es:List (By×Va)},zar es k=none→zb3 es k v=es++[(k,v)]
 |[],_=>rfl
 |q::r,h=>by
  unfold zar at h
  split at h
  ·cases h
  rename_i hne
  unfold zb3
  rw[if_neg hne,zgG h]
  rfl
def zpP(L:List CE)(n:By):List CE:=L.filter fun x=>decide (x.n≠n)
theorem zqZ(h:(L.map (·.n)).Nodup):zi4 (L.map CE.en) n=(zpP L n).map CE.en:=by
 rw[zhH n (by rw[List.map_map];exact h),List.filter_map]
 rfl
theorem zaB.sub(h:zaB w L c){L':List CE}{c':Cat}(hs:L'.Sublist L)(hm:∀t,t∈L'.map CE.tb↔t∈c')(hk:zaJ c'):zaB w L' c':=
 ⟨fun x hx=>h.tabs x (hs.subset hx),h.apart.sublist hs,h.names.sublist (hs.map _),hm,hk⟩
theorem zaB.less(h:zaB w L c)(n:By):zaB w (zpP L n) (zcg c n):=by
 refine h.sub List.filter_sublist (fun t=>?_) (h.ok.less n)
 rw[zep,←h.mem]
 simp only[List.mem_map,zpP,List.mem_filter,decide_eq_true_eq]
 constructor
 ·rintro ⟨x,⟨h1,h2⟩,rfl⟩
  exact⟨⟨x,h1,U⟩,h2⟩
 rintro⟨⟨x,h1,rfl⟩,h2⟩
 exact⟨x,⟨h1,h2⟩,U⟩
theorem zoc{L':List CE}(hs:∀x∈L',x∈L):∀b∈owL L',b∈owL L:=fun b hb=>by
 obtain⟨x,hx,h⟩:=zaW.1 hb
 exact zaW.2 ⟨x,hs x hx,h⟩
end
theorem znl(w:Wl)(hN:Lw.n≤w.heap.size):zL TP 10 #[] w fun r w'=>∃p m,r=Pt p∧zcA w' p m [] []∧w.heap.size≤p∧w.heap.size≤m∧zl [] w w':=by
 refine zL.of_W (args:=[]) Tryz.func10 U U U U ?_
 refine Sr (Oa U (zac [] (F':=[]) U (Sr ?_)))
 refine Oq (zbc (zbo) U ?_)
 intro b1 w1 e1 n1 c1 k1
 refine Og (zC zAd zAe U (vs:=[_]) U (css:=[_]) ⟨U,trivial⟩ U U (cs:=[_]) U) U ?_
 refine Ob U U ?_
 intro b3 w3 e3 n3 c3 k3
 refine Oa U (E1 0 U (zh ?_))
 refine zx U U ?_
 have hs:=c1.size
 exact⟨b3,b1,rfl,⟨k3,k1.chg0 c3,⟨by simp,List.Pairwise.nil,by simp,by simp,zaJ.nil⟩,by omega,by omega⟩,by omega,by omega,c1.trans c3⟩
theorem zlw(m:Nat)(es:List (By×Va))(n:By)(w:Wl)(h:zY zbo w m es) :
 zL TP 47 #[.map (some m),.string n] w fun r w'=>r=.tuple #[(zar es n).getD (.pointer none),.bool (zar es n).isSome]∧w'=w:=by
 refine A2 Tryz.func47 U U ?_
 refine Sr (Oa U (Oa U (E2 0 1 U (Sr (Om U (Om U (Og (zck (κ:=zbo) zd3 (yN st9) zjk U U h U) U (Om U (Oe U U (Oe U U (Oa U (Oa U (E2 6 7 U ?_)))))))))))))
 refine Sr (Om U (Om U (Oa U (Oa U (E2 4 5 U (zh ?_))))))
 refine zbX U U U ?_
 exact⟨U,U⟩
theorem zeC(n:By)(e:Int)(w:Wl):zL TP 107 #[.string n,Ii e] w fun r w'=>ze7 w' r e∧zl [] w w':=by
 refine A2 Tryz.func107 U U ?_
 refine Sr (Oa U (E2 0 1 U (zd (Sr (Om U (Og (zS zcX U) U (Og (zS zcX U) U ?_)))))))
 refine Oc zuv U U U (zyA (zcx e) e 0 _ (.inl U)) ?_
 rintro v8 w8⟨rfl,c8⟩
 refine E3 0 1 8 U ?_
 by_cases he:e=0
 ·refine zf (by rw[dt he];rfl) ?_
  refine Sr (Oa U (E1 4 U (zh ?_)))
  repeat first|refine tr ?_|refine br ?_
  refine zx U U ?_
  exact⟨.inl ⟨U,he⟩,c8⟩
 refine zb (by rw[df he];rfl) ?_
 refine zk (Sr (Om U (Om U (Og (zS zcX U) U ?_))))
 refine Og (zC zeW zeY U (vs:=[_,_]) U (css:=[_,_]) ⟨U,U,trivial⟩ U U (cs:=[_,_]) U) U ?_
 refine Og (zS zeU U) U (Oa U (E1 4 U (zh ?_)))
 refine zx U U ?_
 exact⟨.inr ⟨.inr (.inr (.inr ⟨n,U⟩)),he⟩,c8⟩
theorem zzd:ze5 TP 180=some Extern.MapsClone.clone:=by kernel_rfl
theorem zrP(m:Nat)(es:List (By×Va))(w:Wl)(h:zY zbo w m es) :
 zL TP 114 #[.map (some m)] w fun r w'=>∃b,r=.map (some b)∧zY zbo w' b es∧w.heap.size≤b∧zl [] w w':=by
 refine A1 Tryz.func114 U U ?_
 obtain⟨w1,hr,hs,hc,hm⟩:=zo9 (P:=TP) (t:=81) h
 refine Sr (Oa U (E1 0 U (zd (Sr (Om U (Og (zsP zd3 U U) U (E2 0 4 U (zb U (zk (Sr (Om U (Og (zS zzz U) U ?_))))))))))))
 refine Oq (zcu (P:=TP) (n:=Tryz.f114.ntmps) zzd U U hr U ?_)
 skip
 refine Og (zt2 zzz U) U (Oa U (E1 2 U (zh ?_)))
 refine zx U U ?_
 exact⟨_,U,hm,Nat.le_refl _,hc⟩
def zuE:List (Int×Va):=[(1,.func (.func 63) #[] #[]),(2,.func (.func 64) #[] #[]),(3,.func (.func 65) #[] #[]),(4,.func (.func 66) #[] #[]),(5,.func (.func 67) #[] #[]),(6,.func (.func 68) #[] #[])]
theorem zqD(w:Wl):zL TP 35 #[] w fun r w'=>∃m,r=.map (some m)∧zY (y6 .i64) w' m zuE∧w.heap.size≤m∧zl [] w w':=by
 refine zL.of_W (args:=[]) Tryz.func35 U U U U ?_
 refine Sr (Oa U (zac [] (F':=[]) U (Sr ?_)))
 refine Oq (zbc (y6 .i64) U ?_)
 intro b1 w1 e1 n1 c1 k1
 refine Oq (yr (κ:=y6 .i64) zmM (zM zaR) U U U k1 ?_)
 intro wA nA cA kA
 refine Oq (yr (κ:=y6 .i64) zmM (zM zaR) U U U kA ?_)
 intro wB nB cB kB
 refine Oq (yr (κ:=y6 .i64) zmM (zM zaR) U U U kB ?_)
 intro wC nC cC kC
 refine Oq (yr (κ:=y6 .i64) zmM (zM zaR) U U U kC ?_)
 intro wD nD cD kD
 refine Oq (yr (κ:=y6 .i64) zmM (zM zaR) U U U kD ?_)
 intro wE nE cE kE
 refine Oq (yr (κ:=y6 .i64) zmM (zM zaR) U U U kE ?_)
 intro wG nG cG kG
 refine Om U (Oa U (E1 0 U (zh ?_)))
 refine zx U U ?_
 have hc:∀{X Y:Wl},zl [] w X→zl [b1] X Y→zl [] w Y:=fun h h2=>h.own h2 (by intro y hy;simp at hy;omega)
 exact⟨b1,rfl,kG,by omega,hc (hc (hc (hc (hc (hc c1 cA) cB) cC) cD) cE) cG⟩
theorem zt5{α:Type}{f:α→List Va}(hf:∀x,(f x).length=3)(v:Va)(l:List α)(p:α→Bool)(g:Nat)(lb:List Va)(w:Wl)(hl:zO w 137 3 f v l)(hn:l.length≤1048576)(hg:zi TP g=true)
 (hp:∀x∈l,∀w1,zl [] w w1→zL TP g (Value.agg (f x).toArray::lb).toArray w1 fun r w2=>r=.bool (p x)∧zl [] w1 w2) :
 zL TP 102 #[v,.func (.func g) #[] lb.toArray] w fun r w'=>∃i:Int,r=Ii i∧decide (0≤i)=l.any p∧zl [] w w':=by
 obtain⟨pv,cv,hval,hle⟩:=zO.val hl
 refine A2 Tryz.func102 U U ?_
 refine Sr (Oa U (E2 0 1 U (zd (zd ?_))))
 subst hval
 refine za (Om U (On zsa U (Om U (E4 0 1 7 8 U (zu ?_)))))
 refine zX [0,1,7,8] (fun m F wx=>∃j:Nat,m=l.length-j∧j≤l.length∧F=[(0,.slice pv l.length cv),(1,.func (.func g) #[] lb.toArray),(7,Ii l.length),(8,Ii j)]∧zl [] w wx∧(l.take j).any p=false) (m:=l.length-0) ⟨0,rfl,Nat.zero_le _,rfl,zl.refl _ _,by simp⟩ ?_
 rintro m F wx⟨j,rfl,hj,rfl,hcx,hno⟩
 refine Sr (Og (zF U U) U (E5 0 1 7 8 9 U (zd ?_)))
 refine zH U (fun hT=>?_) (fun hF=>?_)
 ·refine zk ?_
  have hlt:j<l.length:=by have:=of_decide_eq_true hT;omega
  have hx:l[j]? = some l[j]:=by simp[hlt]
  generalize l[j]=x at hx
  obtain⟨b,off,cap,hv,hcell⟩:=zO.at hf (zO.chg0 hl hcx) hx
  cases hv
  refine zd (zu (Sr (Om U (Oa U (E5 0 1 5 7 8 U (Sr (Om U (Om U (Om U ?_)))))))))
  refine Og (zm zsa zcW U U _ U hlt) U ?_
  refine Og (zg zgj zcW U (hf _) hcell) U ?_
  refine Oc hg U U U (hp x (List.mem_of_getElem? hx) _ hcx) ?_
  rintro v16 w16⟨rfl,c16⟩
  refine E6 0 1 5 7 8 16 U ?_
  cases hpx:p x with
  |true=>
   refine zf U (Sr (Om U (Oa U (E1 4 U (zh ?_)))))
   repeat first|refine tr ?_|refine br ?_
   refine zx U U ?_
   exact⟨_,rfl,by rw[zfI hx hpx];simp,hcx.trans c16⟩
  |false=>
   refine zb U (z0 (zn (za ?_)))
   refine Og (zG U U (by omega)) U ?_
   refine Om U (N4 0 1 7 8 U ?_)
   exact⟨l.length-(j+1),by omega,j+1,rfl,by omega,rfl,hcx.trans c16,zew hx hpx hno⟩
 refine zI ?_
 repeat first|refine te ?_|refine bo rfl ?_
 refine zt _ ?_
 have he:l.length≤j:=by have:=of_decide_eq_false hF;omega
 refine Sr (Oa U (E1 4 U (zh ?_)))
 repeat first|refine tr ?_|refine br ?_
 refine zx U U ?_
 rw[Tl he]at hno
 exact⟨_,rfl,by rw[hno];rfl,hcx⟩
theorem zsz{α:Type}{f:α→List Va}(hf:∀x,(f x).length=3)(v:Va)(l:List α)(p:α→Bool)(g:Nat)(lb:List Va)(w:Wl)(hl:zO w 137 3 f v l)(hn:l.length≤1048576)(hg:zi TP g=true)
 (hp:∀x∈l,∀w1,zl [] w w1→zL TP g (Value.agg (f x).toArray::lb).toArray w1 fun r w2=>r=.bool (p x)∧zl [] w1 w2) :
 zL TP 60 #[v,.func (.func g) #[] lb.toArray] w fun r w'=>r=.bool (l.any p)∧zl [] w w':=by
 refine A2 Tryz.func60 U U ?_
 refine Sr (Oa U (E2 0 1 U (Sr (Om U (Om U ?_)))))
 refine Oc zx1 U U U (zt5 hf v l p g lb _ hl hn hg hp) ?_
 rintro v7 w7⟨i,rfl,hi,c7⟩
 refine Og (yj U U) U (Oa U (E1 4 U (zh ?_)))
 refine zx U U ?_
 exact⟨by rw[←hi],c7⟩
theorem ztr{α:Type}{f:α→List Va}(hf:∀x,(f x).length=2)(v:Va)(l:List α)(p:α→Bool)(g:Nat)(lb:List Va)(w:Wl)(hl:zO w 78 2 f v l)(hn:l.length≤1048576)(hg:zi TP g=true)
 (hp:∀x∈l,∀w1,zl [] w w1→zL TP g (Value.agg (f x).toArray::lb).toArray w1 fun r w2=>r=.bool (p x)∧zl [] w1 w2) :
 zL TP 179 #[v,.func (.func g) #[] lb.toArray] w fun r w'=>∃i:Int,r=Ii i∧decide (0≤i)=l.any p∧zl [] w w':=by
 obtain⟨pv,cv,hval,hle⟩:=zO.val hl
 refine A2 Tryz.func179 U U ?_
 refine Sr (Oa U (E2 0 1 U (zd (zd ?_))))
 subst hval
 refine za (Om U (On zb0 U (Om U (E4 0 1 7 8 U (zu ?_)))))
 refine zX [0,1,7,8] (fun m F wx=>∃j:Nat,m=l.length-j∧j≤l.length∧F=[(0,.slice pv l.length cv),(1,.func (.func g) #[] lb.toArray),(7,Ii l.length),(8,Ii j)]∧zl [] w wx∧(l.take j).any p=false) (m:=l.length-0) ⟨0,rfl,Nat.zero_le _,rfl,zl.refl _ _,by simp⟩ ?_
 rintro m F wx⟨j,rfl,hj,rfl,hcx,hno⟩
 refine Sr (Og (zF U U) U (E5 0 1 7 8 9 U (zd ?_)))
 refine zH U (fun hT=>?_) (fun hF=>?_)
 ·refine zk ?_
  have hlt:j<l.length:=by have:=of_decide_eq_true hT;omega
  have hx:l[j]? = some l[j]:=by simp[hlt]
  generalize l[j]=x at hx
  obtain⟨b,off,cap,hv,hcell⟩:=zO.at hf (zO.chg0 hl hcx) hx
  cases hv
  refine zd (zu (Sr (Om U (Oa U (E5 0 1 5 7 8 U (Sr (Om U (Om U (Om U ?_)))))))))
  refine Og (zm zb0 zdJ U U _ U hlt) U ?_
  refine Og (zg zpr zdJ U (hf _) hcell) U ?_
  refine Oc hg U U U (hp x (List.mem_of_getElem? hx) _ hcx) ?_
  rintro v16 w16⟨rfl,c16⟩
  refine E6 0 1 5 7 8 16 U ?_
  cases hpx:p x with
  |true=>
   refine zf U (Sr (Om U (Oa U (E1 4 U (zh ?_)))))
   repeat first|refine tr ?_|refine br ?_
   refine zx U U ?_
   exact⟨_,rfl,by rw[zfI hx hpx];simp,hcx.trans c16⟩
  |false=>
   refine zb U (z0 (zn (za ?_)))
   refine Og (zG U U (by omega)) U ?_
   refine Om U (N4 0 1 7 8 U ?_)
   exact⟨l.length-(j+1),by omega,j+1,rfl,by omega,rfl,hcx.trans c16,zew hx hpx hno⟩
 refine zI ?_
 repeat first|refine te ?_|refine bo rfl ?_
 refine zt _ ?_
 have he:l.length≤j:=by have:=of_decide_eq_false hF;omega
 refine Sr (Oa U (E1 4 U (zh ?_)))
 repeat first|refine tr ?_|refine br ?_
 refine zx U U ?_
 rw[Tl he]at hno
 exact⟨_,rfl,by rw[hno];rfl,hcx⟩
theorem zoo{α:Type}{f:α→List Va}(hf:∀x,(f x).length=2)(v:Va)(l:List α)(p:α→Bool)(g:Nat)(lb:List Va)(w:Wl)(hl:zO w 78 2 f v l)(hn:l.length≤1048576)(hg:zi TP g=true)
 (hp:∀x∈l,∀w1,zl [] w w1→zL TP g (Value.agg (f x).toArray::lb).toArray w1 fun r w2=>r=.bool (p x)∧zl [] w1 w2) :
 zL TP 112 #[v,.func (.func g) #[] lb.toArray] w fun r w'=>r=.bool (l.any p)∧zl [] w w':=by
 refine A2 Tryz.func112 U U ?_
 refine Sr (Oa U (E2 0 1 U (Sr (Om U (Om U ?_)))))
 refine Oc zza U U U (ztr hf v l p g lb _ hl hn hg hp) ?_
 rintro v7 w7⟨i,rfl,hi,c7⟩
 refine Og (yj U U) U (Oa U (E1 4 U (zh ?_)))
 refine zx U U ?_
 exact⟨by rw[←hi],c7⟩
theorem zpB(s:By):y7 ⟨s,3,0,true⟩ zT.null=if zaF s then 0 else 2:=by
 have h1:zas ⟨s,3,0,true⟩=zaF s:=by simp[zas]
 have h2:zbq zT.null=0:=by decide
 cases h:zaF s with
 |false=>rw[znJ (h1.trans h)];rfl
 |true=>rw[zkn (h1.trans h) h2 rfl];rfl
theorem ztK(c:Col)(x:zT)(w:Wl)(hE:EOk w)(hx:x.Rng):zL TP 208 #[c.v,x.v] w fun r w'=>r=Ii (y7 c x)∧zl [] w w':=by
 refine A2 Tryz.func208 U U ?_
 refine Sr ?_
 refine Ob U U ?_
 intro b2 w2 e2 n2 c2 k2
 refine Ob U U ?_
 intro b3 w3 e3 n3 c3 k3
 refine Oa U (E2 2 3 U ?_)
 have k2:zK w3 b2 114 c.cs:=k2.chg0 c3
 have k3:zK w3 b3 111 x.cs:=k3
 have hcc:=c2.trans c3
 refine Sr (Og (zg zdy zaL U U (zB.of_blk0 k2)) U (Og (zg zaX yv U U (zB.of_blk0 k3)) U ?_))
 refine Oc zqk U U U (zm1 c x _ hx) ?_
 rintro v7 w7⟨h7,c7⟩
 refine Oc zuZ U U U (zpY _ (y7 c x) _ ((hE.chg0 hcc).chg0 c7) h7.weak) ?_
 rintro v8 w8⟨rfl,c8⟩
 refine Oa U (E1 4 U (zh ?_))
 refine zx U U ?_
 exact⟨U,(hcc.trans c7).trans c8⟩
theorem zgu(s:By)(w:Wl)(hE:EOk w):zL TP 154 #[.string s] w fun r w'=>r=.bool (zaF s)∧zl [] w w':=by
 refine A1 Tryz.func154 U U ?_
 refine Sr (Oa U (E1 0 U (Sr (Om U ?_))))
 refine Og (zbP zur zj2 U (qs:=[(0,_),(1,_),(3,_)]) U (css:=[_,_,_]) ⟨U,U,U,trivial⟩ (cs:=[_,_,_,_]) U) U ?_
 refine Og (zC ziq zcq U (vs:=[]) U (css:=[]) trivial U U (cs:=[_,_,_,_]) U) U ?_
 refine Oc zze U U U (ztK ⟨s,3,0,true⟩ zT.null _ hE ⟨by decide,by decide,by decide⟩) ?_
 rintro v6 w6⟨rfl,c6⟩
 refine Og (zA U U) U (Oa U (E1 2 U (zh ?_)))
 refine zx U U ?_
 refine⟨?_,c6⟩
 rw[zpB]
 cases zaF s<;>rfl
theorem zku(u v:Va)(l m:List zT)(w:Wl)(hu:yn w u l)(hv:yn w v m)(hn:l.length≤1048576)(hn':m.length≤1048576) :
 zL TP 169 #[u,v] w fun r w'=>r=.bool (decide (l=m))∧zl [] w w':=by
 obtain⟨pu,cu,rfl,hcu⟩:=zO.val hu
 obtain⟨pv,cv,rfl,hcv⟩:=zO.val hv
 refine A2 Tryz.func169 U U ?_
 refine Sr (Oa U (E2 0 1 U (zd (zd ?_))))
 by_cases he:l.length=m.length
 ·refine za (Om U (On zbn U (Om U (On zbn U ?_))))
  refine Og (vf (zZ U U) (zb6 (by omega))) U ?_
  refine E3 0 1 10 U (zb U (zk (zd (Sr (Om U (On zbn U (Om U (E4 0 1 12 13 U (zu ?_)))))))))
  refine zX [0,1,12,13] (fun n F wx=>∃j:Nat,n=l.length-j∧j≤l.length∧F=[(0,.slice pu l.length cu),(1,.slice pv m.length cv),(12,Ii l.length),(13,Ii j)]∧l.take j=m.take j∧zl [] w wx) (m:=l.length-0) ⟨0,rfl,Nat.zero_le _,rfl,by simp,zl.refl _ _⟩ ?_
  rintro n F wx⟨j,rfl,hj,rfl,heq,hcx⟩
  refine Sr (Og (zF U U) U (E5 0 1 12 13 14 U (zd ?_)))
  refine zH U (fun hT=>?_) (fun hF=>?_)
  ·refine zk ?_
   have hlt:j<l.length:=by have:=of_decide_eq_true hT;omega
   have hlt2:j<m.length:=by omega
   have hx:l[j]? = some l[j]:=by simp[hlt]
   have hy:m[j]? = some m[j]:=by simp[hlt2]
   generalize l[j]=x at hx
   generalize m[j]=y at hy
   obtain⟨b,off,cap,hve,hc1⟩:=zO.at zc2 (zO.chg0 hu hcx) hx
   cases hve
   obtain⟨b',off',cap',hve,hc2⟩:=zO.at zc2 (zO.chg0 hv hcx) hy
   cases hve
   have hd:zl [] wx wx.drew:=zl.drew [] _
   refine zd (zu (Sr (Om U (Oa U (E5 0 1 5 12 13 U (zd ?_))))))
   refine zN (fun wz=>zl [] wx wz) mix (by kernel_rfl) hd ?_
   refine Tm U (Tm U ?_)
   refine Tp (fun _=>zm zbn yv U U _ U hlt) U ?_
   refine Tr (fun wz hz=>zg zaX yv U U (hc1.chg0 hz)) U (Tm U (Tm U ?_))
   refine Tp (fun _=>zm zbn yv U U _ U hlt2) U ?_
   refine Tr (fun wz hz=>zg zaX yv U U (hc2.chg0 hz)) U (Tp (fun _=>zkC zrZ U U (zmS x y)) U (D5 0 1 12 13 24 U ?_))
   refine zH U (fun hT=>?_) (fun hF=>?_)
   ·have hne:x≠y:=by simpa using hT
    refine Sr (Oa U (E1 4 U (zh ?_)))
    repeat first|refine tr ?_|refine br ?_
    refine zx U U ?_
    refine⟨?_,hcx.trans hd⟩
    have:l≠m:=by
     rintro rfl
     rw[hx]at hy
     exact hne (Option.some.inj hy)
    rw[df this]
   have hxy:x=y:=by simpa using hF
   refine z0 (zn (za ?_))
   refine Og (zG U U (by omega)) U ?_
   refine Om U (N4 0 1 12 13 U ?_)
   refine⟨l.length-(j+1),by omega,j+1,rfl,by omega,rfl,?_,hcx.trans hd⟩
   rw[List.take_add_one,List.take_add_one,hx,hy,heq,hxy]
  refine zI ?_
  repeat first|refine te ?_|refine bo rfl ?_
  refine zt _ ?_
  have hge:l.length≤j:=by have:=of_decide_eq_false hF;omega
  refine Sr (Oa U (E1 4 U (zh ?_)))
  repeat first|refine tr ?_|refine br ?_
  refine zx U U ?_
  rw[Tl hge,Tl (by omega)]at heq
  exact⟨by rw[dt heq],hcx⟩
 refine za (Om U (On zbn U (Om U (On zbn U ?_))))
 refine Og (vt (zZ U U) (zet (by omega))) U ?_
 refine E3 0 1 10 U (zf U (Sr (Oa U (E1 4 U (zh ?_)))))
 repeat first|refine tr ?_|refine br ?_
 refine zx U U ?_
 have:l≠m:=fun h=>he (by rw[h])
 exact⟨by rw[df this],zl.refl _ _⟩
theorem a2s:zvg TP 78=true:=by kernel_rfl
theorem zqL(u v:Va)(l m:List (By×By))(w:Wl)(hu:zcw w u l)(hv:zcw w v m)(hn:l.length≤1048576)(hn':m.length≤1048576) :
 zL TP 170 #[u,v] w fun r w'=>r=.bool (decide (l=m))∧zl [] w w':=by
 obtain⟨pu,cu,rfl,hcu⟩:=zO.val hu
 obtain⟨pv,cv,rfl,hcv⟩:=zO.val hv
 refine A2 Tryz.func170 U U ?_
 refine Sr (Oa U (E2 0 1 U (zd (zd ?_))))
 by_cases he:l.length=m.length
 ·refine za (Om U (On zb0 U (Om U (On zb0 U ?_))))
  refine Og (vf (zZ U U) (zb6 (by omega))) U ?_
  refine E3 0 1 10 U (zb U (zk (zd (Sr (Om U (On zb0 U (Om U (E4 0 1 12 13 U (zu ?_)))))))))
  refine zX [0,1,12,13] (fun n F wx=>∃j:Nat,n=l.length-j∧j≤l.length∧F=[(0,.slice pu l.length cu),(1,.slice pv m.length cv),(12,Ii l.length),(13,Ii j)]∧l.take j=m.take j∧zl [] w wx) (m:=l.length-0) ⟨0,rfl,Nat.zero_le _,rfl,by simp,zl.refl _ _⟩ ?_
  rintro n F wx⟨j,rfl,hj,rfl,heq,hcx⟩
  refine Sr (Og (zF U U) U (E5 0 1 12 13 14 U (zd ?_)))
  refine zH U (fun hT=>?_) (fun hF=>?_)
  ·refine zk ?_
   have hlt:j<l.length:=by have:=of_decide_eq_true hT;omega
   have hlt2:j<m.length:=by omega
   have hx:l[j]? = some l[j]:=by simp[hlt]
   have hy:m[j]? = some m[j]:=by simp[hlt2]
   generalize l[j]=x at hx
   generalize m[j]=y at hy
   obtain⟨b,off,cap,hve,hc1⟩:=zO.at zbw (zO.chg0 hu hcx) hx
   cases hve
   obtain⟨b',off',cap',hve,hc2⟩:=zO.at zbw (zO.chg0 hv hcx) hy
   cases hve
   have hd:zl [] wx wx.drew:=zl.drew [] _
   refine zd (zu (Sr (Om U (Oa U (E5 0 1 5 12 13 U (zd ?_))))))
   refine zN (fun wz=>zl [] wx wz) mix (by kernel_rfl) hd ?_
   refine Tm U (Tm U ?_)
   refine Tp (fun _=>zm zb0 zdJ U U _ U hlt) U ?_
   refine Tr (fun wz hz=>zg zpr zdJ U U (hc1.chg0 hz)) U (Tm U (Tm U ?_))
   refine Tp (fun _=>zm zb0 zdJ U U _ U hlt2) U ?_
   refine Tr (fun wz hz=>zg zpr zdJ U U (hc2.chg0 hz)) U (Tp (fun _=>ztH a2s U U) U (D5 0 1 12 13 24 U ?_))
   refine zH U (fun hT=>?_) (fun hF=>?_)
   ·have hne:x≠y:=by intro e;subst e;simp at hT
    refine Sr (Oa U (E1 4 U (zh ?_)))
    repeat first|refine tr ?_|refine br ?_
    refine zx U U ?_
    refine⟨?_,hcx.trans hd⟩
    have:l≠m:=by
     rintro rfl
     rw[hx]at hy
     exact hne (Option.some.inj hy)
    rw[df this]
   have hxy:x=y:=by simp at hF;exact Prod.ext hF.1 hF.2
   refine z0 (zn (za ?_))
   refine Og (zG U U (by omega)) U ?_
   refine Om U (N4 0 1 12 13 U ?_)
   refine⟨l.length-(j+1),by omega,j+1,rfl,by omega,rfl,?_,hcx.trans hd⟩
   rw[List.take_add_one,List.take_add_one,hx,hy,heq,hxy]
  refine zI ?_
  repeat first|refine te ?_|refine bo rfl ?_
  refine zt _ ?_
  have hge:l.length≤j:=by have:=of_decide_eq_false hF;omega
  refine Sr (Oa U (E1 4 U (zh ?_)))
  repeat first|refine tr ?_|refine br ?_
  refine zx U U ?_
  rw[Tl hge,Tl (by omega)]at heq
  exact⟨by rw[dt heq],hcx⟩
 refine za (Om U (On zb0 U (Om U (On zb0 U ?_))))
 refine Og (vt (zZ U U) (zet (by omega))) U ?_
 refine E3 0 1 10 U (zf U (Sr (Oa U (E1 4 U (zh ?_)))))
 repeat first|refine tr ?_|refine br ?_
 refine zx U U ?_
 have:l≠m:=fun h=>he (by rw[h])
 exact⟨by rw[df this],zl.refl _ _⟩
theorem zgU(u v:Va)(l m:List zT)(w:Wl)(hu:yn w u l)(hv:yn w v m)(hn:l.length≤1048576)(hn':m.length≤1048576):zL TP 100 #[u,v] w fun r w'=>r=.bool (decide (l=m))∧zl [] w w':=by
 refine A2 Tryz.func100 U U ?_
 refine Sr (Oa U (E2 0 1 U (Sr (Om U (Om U ?_)))))
 refine Oc zqH U U U (zku u v l m _ hu hv hn hn') ?_
 rintro v7 w7⟨rfl,c7⟩
 refine Oa U (E1 4 U (zh ?_))
 refine zx U U ?_
 exact⟨U,c7⟩
theorem zqS(u v:Va)(l m:List (By×By))(w:Wl)(hu:zcw w u l)(hv:zcw w v m)(hn:l.length≤1048576)(hn':m.length≤1048576):zL TP 101 #[u,v] w fun r w'=>r=.bool (decide (l=m))∧zl [] w w':=by
 refine A2 Tryz.func101 U U ?_
 refine Sr (Oa U (E2 0 1 U (Sr (Om U (Om U ?_)))))
 refine Oc zwP U U U (zqL u v l m _ hu hv hn hn') ?_
 rintro v7 w7⟨rfl,c7⟩
 refine Oa U (E1 4 U (zh ?_))
 refine zx U U ?_
 exact⟨U,c7⟩
theorem zoa(e d:EvV)(x y:EvT)(w:Wl)(hx:za7 w e x)(hy:za7 w d y)(mx:zce x)(my:zce y):zL TP 58 #[.agg (evC x e).toArray,.agg (evC y d).toArray] w fun r w'=>r=.bool (decide (x=y))∧zl [] w w':=by
 refine A2 Tryz.func58 U U ?_
 refine Sr ?_
 refine Ob U U ?_
 intro b2 w2 e2 n2 c2 k2
 refine Ob U U ?_
 intro b3 w3 e3 n3 c3 k3
 refine Oa U (E2 2 3 U ?_)
 have k2:zK w3 b2 39 (evC x e):=k2.chg0 c3
 have k3:zK w3 b3 39 (evC y d):=k3
 have hcc:=c2.trans c3
 refine zd ?_
 by_cases hk:x.k=y.k
 ·by_cases ht:x.t=y.t
  ·by_cases hs:x.s=y.s
   ·by_cases ho:x.o=y.o
    ·by_cases hw:x.w=y.w
     ·refine za (Od za5 U (Ol zee U (k2.cell' (i:=0) U) (Od za5 U (Ol zee U (k3.cell' (i:=0) U) (Og (vt (zA U U) (dt hk)) U (Om U (Oy U U (ze yg U) (Oy U U (zj ag9 U (k2.cell' (i:=1) U)) (Oy U U (ze yg U) (Oy U U (zj ag9 U (k3.cell' (i:=1) U)) (Oy U U (vt (zf8 U U) (dt ht)) (Ot U (Om U (Oy U U (ze zbm U) ?_))))))))))))))
      refine Oy U U (zg zbQ zbL U U (zB.of_blk k2 2 [e.c,e.ky,e.u] ⟨[e.o,e.n,e.m],U⟩)) ?_
      refine Oy U U (ze zbm U) ?_
      refine Oy U U (zg zbQ zbL U U (zB.of_blk k3 2 [d.c,d.ky,d.u] ⟨[d.o,d.n,d.m],U⟩)) ?_
      refine Ow U U znw U U U (zgi _ _ _ _ _ _ x.s y.s _ (hx.sch.chg0 hcc) (hy.sch.chg0 hcc) mx.s my.s) ?_
      rintro v22 w22⟨e22,c22⟩
      rw[dt hs]at e22
      subst e22
      refine Ot U (Om U (Oy U U (ze za0 U) (Oy U U (zj zbA U ((k2.chg0 c22).cell' (i:=5) U)) (Oy U U (ze za0 U) (Oy U U (zj zbA U ((k3.chg0 c22).cell' (i:=5) U)) ?_)))))
      refine Ow U U zlM U U U (zgU _ _ x.o y.o _ (zO.chg0 hx.old (hcc.trans c22)) (zO.chg0 hy.old (hcc.trans c22)) mx.o my.o) ?_
      rintro v29 w29⟨e29,c29⟩
      rw[dt ho]at e29
      subst e29
      refine Ot U (Om U (Oy U U (ze zbu U) ?_))
      refine Oy U U (zj zbA U (((k2.chg0 c22).chg0 c29).cell' (i:=6) U)) ?_
      refine Oy U U (ze zbu U) ?_
      refine Oy U U (zj zbA U (((k3.chg0 c22).chg0 c29).cell' (i:=6) U)) ?_
      refine Ow U U zlM U U U (zgU _ _ x.w y.w _ (zO.chg0 hx.new ((hcc.trans c22).trans c29)) (zO.chg0 hy.new ((hcc.trans c22).trans c29)) mx.w my.w) ?_
      rintro v36 w36⟨e36,c36⟩
      rw[dt hw]at e36
      subst e36
      refine Ot U (Om U (Oy U U (ze zaC U) ?_))
      refine Oy U U (zj zdI U ((((k2.chg0 c22).chg0 c29).chg0 c36).cell' (i:=7) U)) ?_
      refine Oy U U (ze zaC U) ?_
      refine Oy U U (zj zdI U ((((k3.chg0 c22).chg0 c29).chg0 c36).cell' (i:=7) U)) ?_
      refine Ow U U zyu U U U (zqS _ _ x.m y.m _ (zO.chg0 hx.nm (((hcc.trans c22).trans c29).trans c36)) (zO.chg0 hy.nm (((hcc.trans c22).trans c29).trans c36)) mx.m my.m) ?_
      rintro v43 w43⟨rfl,c43⟩
      refine Ot U (Oa U (E1 4 U (zh ?_)))
      refine zx U U ?_
      obtain⟨k,t,s,o,v,m⟩:=x
      obtain⟨k',t',s',o',v',m'⟩:=y
      simp only at hk ht hs ho hw
      subst hk ht hs ho hw
      exact⟨by simp,(((hcc.trans c22).trans c29).trans c36).trans c43⟩
     refine za (Od za5 U (Ol zee U (k2.cell' (i:=0) U) (Od za5 U (Ol zee U (k3.cell' (i:=0) U) (Og (vt (zA U U) (dt hk)) U (Om U (Oy U U (ze yg U) (Oy U U (zj ag9 U (k2.cell' (i:=1) U)) (Oy U U (ze yg U) (Oy U U (zj ag9 U (k3.cell' (i:=1) U)) (Oy U U (vt (zf8 U U) (dt ht)) (Ot U (Om U (Oy U U (ze zbm U) ?_))))))))))))))
     refine Oy U U (zg zbQ zbL U U (zB.of_blk k2 2 [e.c,e.ky,e.u] ⟨[e.o,e.n,e.m],U⟩)) ?_
     refine Oy U U (ze zbm U) ?_
     refine Oy U U (zg zbQ zbL U U (zB.of_blk k3 2 [d.c,d.ky,d.u] ⟨[d.o,d.n,d.m],U⟩)) ?_
     refine Ow U U znw U U U (zgi _ _ _ _ _ _ x.s y.s _ (hx.sch.chg0 hcc) (hy.sch.chg0 hcc) mx.s my.s) ?_
     rintro v22 w22⟨e22,c22⟩
     rw[dt hs]at e22
     subst e22
     refine Ot U (Om U (Oy U U (ze za0 U) (Oy U U (zj zbA U ((k2.chg0 c22).cell' (i:=5) U)) (Oy U U (ze za0 U) (Oy U U (zj zbA U ((k3.chg0 c22).cell' (i:=5) U)) ?_)))))
     refine Ow U U zlM U U U (zgU _ _ x.o y.o _ (zO.chg0 hx.old (hcc.trans c22)) (zO.chg0 hy.old (hcc.trans c22)) mx.o my.o) ?_
     rintro v29 w29⟨e29,c29⟩
     rw[dt ho]at e29
     subst e29
     refine Ot U (Om U (Oy U U (ze zbu U) ?_))
     refine Oy U U (zj zbA U (((k2.chg0 c22).chg0 c29).cell' (i:=6) U)) ?_
     refine Oy U U (ze zbu U) ?_
     refine Oy U U (zj zbA U (((k3.chg0 c22).chg0 c29).cell' (i:=6) U)) ?_
     refine Ow U U zlM U U U (zgU _ _ x.w y.w _ (zO.chg0 hx.new ((hcc.trans c22).trans c29)) (zO.chg0 hy.new ((hcc.trans c22).trans c29)) mx.w my.w) ?_
     rintro v36 w36⟨e36,c36⟩
     rw[df hw]at e36
     subst e36
     refine Ot U (Om U (Oz U U (Oz U U (Oz U U (Oz U U (Oz U U (Of U (Oa U (E1 4 U (zh ?_))))))))))
     refine zx U U ?_
     exact⟨by rw[df (fun h=>hw (by rw[h]))],((hcc.trans c22).trans c29).trans c36⟩
    refine za (Od za5 U (Ol zee U (k2.cell' (i:=0) U) (Od za5 U (Ol zee U (k3.cell' (i:=0) U) (Og (vt (zA U U) (dt hk)) U (Om U (Oy U U (ze yg U) (Oy U U (zj ag9 U (k2.cell' (i:=1) U)) (Oy U U (ze yg U) (Oy U U (zj ag9 U (k3.cell' (i:=1) U)) (Oy U U (vt (zf8 U U) (dt ht)) (Ot U (Om U (Oy U U (ze zbm U) ?_))))))))))))))
    refine Oy U U (zg zbQ zbL U U (zB.of_blk k2 2 [e.c,e.ky,e.u] ⟨[e.o,e.n,e.m],U⟩)) ?_
    refine Oy U U (ze zbm U) ?_
    refine Oy U U (zg zbQ zbL U U (zB.of_blk k3 2 [d.c,d.ky,d.u] ⟨[d.o,d.n,d.m],U⟩)) ?_
    refine Ow U U znw U U U (zgi _ _ _ _ _ _ x.s y.s _ (hx.sch.chg0 hcc) (hy.sch.chg0 hcc) mx.s my.s) ?_
    rintro v22 w22⟨e22,c22⟩
    rw[dt hs]at e22
    subst e22
    refine Ot U (Om U (Oy U U (ze za0 U) (Oy U U (zj zbA U ((k2.chg0 c22).cell' (i:=5) U)) (Oy U U (ze za0 U) (Oy U U (zj zbA U ((k3.chg0 c22).cell' (i:=5) U)) ?_)))))
    refine Ow U U zlM U U U (zgU _ _ x.o y.o _ (zO.chg0 hx.old (hcc.trans c22)) (zO.chg0 hy.old (hcc.trans c22)) mx.o my.o) ?_
    rintro v29 w29⟨e29,c29⟩
    rw[df ho]at e29
    subst e29
    refine Ot U (Om U (Oz U U (Oz U U (Oz U U (Oz U U (Oz U U (Of U (Om U (Oz U U (Oz U U (Oz U U (Oz U U (Oz U U (Of U (Oa U ?_)))))))))))))))
    refine E1 4 U (zh ?_)
    refine zx U U ?_
    exact⟨by rw[df (fun h=>ho (by rw[h]))],(hcc.trans c22).trans c29⟩
   refine za (Od za5 U (Ol zee U (k2.cell' (i:=0) U) (Od za5 U (Ol zee U (k3.cell' (i:=0) U) (Og (vt (zA U U) (dt hk)) U (Om U (Oy U U (ze yg U) (Oy U U (zj ag9 U (k2.cell' (i:=1) U)) (Oy U U (ze yg U) (Oy U U (zj ag9 U (k3.cell' (i:=1) U)) (Oy U U (vt (zf8 U U) (dt ht)) (Ot U (Om U (Oy U U (ze zbm U) ?_))))))))))))))
   refine Oy U U (zg zbQ zbL U U (zB.of_blk k2 2 [e.c,e.ky,e.u] ⟨[e.o,e.n,e.m],U⟩)) ?_
   refine Oy U U (ze zbm U) ?_
   refine Oy U U (zg zbQ zbL U U (zB.of_blk k3 2 [d.c,d.ky,d.u] ⟨[d.o,d.n,d.m],U⟩)) ?_
   refine Ow U U znw U U U (zgi _ _ _ _ _ _ x.s y.s _ (hx.sch.chg0 hcc) (hy.sch.chg0 hcc) mx.s my.s) ?_
   rintro v22 w22⟨e22,c22⟩
   rw[df hs]at e22
   subst e22
   refine Ot U (Om U (Oz U U (Oz U U (Oz U U (Oz U U (Oz U U (Of U (Om U (Oz U U (Oz U U (Oz U U (Oz U U (Oz U U (Of U (Om U ?_)))))))))))))))
   refine Oz U U (Oz U U (Oz U U (Oz U U (Oz U U (Of U (Oa U (E1 4 U (zh ?_))))))))
   refine zx U U ?_
   exact⟨by rw[df (fun h=>hs (by rw[h]))],hcc.trans c22⟩
  refine za (Od za5 U (Ol zee U (k2.cell' (i:=0) U) (Od za5 U (Ol zee U (k3.cell' (i:=0) U) (Og (vt (zA U U) (dt hk)) U (Om U (Oy U U (ze yg U) (Oy U U (zj ag9 U (k2.cell' (i:=1) U)) (Oy U U (ze yg U) (Oy U U (zj ag9 U (k3.cell' (i:=1) U)) (Oy U U (vf (zf8 U U) (df ht)) (Ot U (Om U (Oz U U ?_))))))))))))))
  refine Oz U U (Oz U U (Oz U U (Oz U U (Of U (Om U (Oz U U (Oz U U (Oz U U (Oz U U (Oz U U (Of U (Om U (Oz U U (Oz U U (Oz U U ?_)))))))))))))))
  refine Oz U U (Oz U U (Of U (Om U (Oz U U (Oz U U (Oz U U (Oz U U (Oz U U (Of U (Oa U (E1 4 U (zh ?_))))))))))))
  refine zx U U ?_
  exact⟨by rw[df (fun h=>ht (by rw[h]))],hcc⟩
 refine za (Od za5 U (Ol zee U (k2.cell' (i:=0) U) (Od za5 U (Ol zee U (k3.cell' (i:=0) U) (Og (vf (zA U U) (df hk)) U (Om U (Oz U U (Oz U U (Oz U U (Oz U U (Oz U U (Of U (Om U (Oz U U (Oz U U ?_)))))))))))))))
 refine Oz U U (Oz U U (Oz U U (Of U (Om U (Oz U U (Oz U U (Oz U U (Oz U U (Oz U U (Of U (Om U (Oz U U (Oz U U (Oz U U (Oz U U ?_)))))))))))))))
 refine Oz U U (Of U (Om U (Oz U U (Oz U U (Oz U U (Oz U U (Oz U U (Of U (Oa U (E1 4 U (zh ?_)))))))))))
 refine zx U U ?_
 exact⟨by rw[df (fun h=>hk (by rw[h]))],hcc⟩
def zbJ(x:EvT)(e:EvV):EvV:=⟨if x.k=4 then e.c else yD,if x.k=4 then e.ky else yD,if x.k=4 then e.u else yD,if x.k=2∨x.k=3 then e.o else yD,if x.k=1∨x.k=2 then e.n else yD,if x.k=6 then e.m else yD⟩
theorem zdg(w:Wl):zal w yD yD yD zcm:=⟨zO.nil _ _ _ _,zO.nil _ _ _ _,⟨[],Rd.nil w 1,trivial,by simp⟩,by intro v hv b hb;simp at hv;subst hv;simp[yD,zgr]at hb⟩
theorem zkf{w:Wl}{e:EvV}{x:EvT}(h:za7 w e x):za7 w (zbJ x e) (yz x):=by
 refine⟨?_,?_,?_,?_,h.kr,?_,?_⟩
 ·unfold yz zbJ
  by_cases hk:x.k=4
  ·simp only[hk,if_true];exact h.sch
  simp only[hk,if_false];exact zdg w
 ·unfold yz zbJ
  by_cases hk:x.k=2∨x.k=3
  ·simp only[hk,if_true];exact h.old
  simp only[hk,if_false];exact zO.nil _ _ _ _
 ·unfold yz zbJ
  by_cases hk:x.k=1∨x.k=2
  ·simp only[hk,if_true];exact h.new
  simp only[hk,if_false];exact zO.nil _ _ _ _
 ·unfold yz zbJ
  by_cases hk:x.k=6
  ·simp only[hk,if_true];exact h.nm
  simp only[hk,if_false];exact zO.nil _ _ _ _
 ·unfold yz
  by_cases hk:x.k=2∨x.k=3
  ·simp only[hk,if_true];exact h.ro
  simp only[hk,if_false];simp
 unfold yz
 by_cases hk:x.k=1∨x.k=2
 ·simp only[hk,if_true];exact h.rw
 simp only[hk,if_false];simp
theorem znQ{x:EvT}(h:zce x):zce (yz x):=by
 refine⟨?_,?_,?_,?_,?_,?_,?_⟩
 ·unfold yz
  by_cases hk:x.k=4
  ·simp only[hk,if_true];exact h.s
  simp only[hk,if_false];constructor<;>simp[zcm]
 ·unfold yz
  by_cases hk:x.k=2∨x.k=3
  ·simp only[hk,if_true];exact h.o
  simp only[hk,if_false];simp
 ·unfold yz
  by_cases hk:x.k=1∨x.k=2
  ·simp only[hk,if_true];exact h.w
  simp only[hk,if_false];simp
 ·unfold yz
  by_cases hk:x.k=6
  ·simp only[hk,if_true];exact h.m
  simp only[hk,if_false];simp
 ·unfold yz
  by_cases hk:x.k=6
  ·simp only[hk,if_true];exact Nat.zero_le _
  simp only[hk,if_false];exact h.t
 ·unfold yz
  by_cases hk:x.k=4
  ·simp only[hk,if_true];exact h.cn
  simp only[hk,if_false];simp[zcm]
 unfold yz
 by_cases hk:x.k=6
 ·simp only[hk,if_true];exact h.mn
 simp only[hk,if_false];simp
section
variable {x:EvT} {e:EvV}
theorem zvf(hk:x.k=1):evC (yz x) (zbJ x e)=[Ii x.k,.string x.t,yD,yD,yD,yD,e.n,yD]:=by simp[evC,yz,zbJ,hk]
theorem zwr(hk:x.k=2):evC (yz x) (zbJ x e)=[Ii x.k,.string x.t,yD,yD,yD,e.o,e.n,yD]:=by simp[evC,yz,zbJ,hk]
theorem zwl(hk:x.k=3):evC (yz x) (zbJ x e)=[Ii x.k,.string x.t,yD,yD,yD,e.o,yD,yD]:=by simp[evC,yz,zbJ,hk]
theorem zwx(hk:x.k=4):evC (yz x) (zbJ x e)=[Ii x.k,.string x.t,e.c,e.ky,e.u,yD,yD,yD]:=by simp[evC,yz,zbJ,hk]
theorem zvV(hk:x.k=6):evC (yz x) (zbJ x e)=[Ii x.k,.string e0,yD,yD,yD,yD,yD,e.m]:=by simp[evC,yz,zbJ,hk]
theorem zvh(h1:x.k≠1)(h2:x.k≠2)(h3:x.k≠3)(h4:x.k≠4)(h6:x.k≠6):evC (yz x) (zbJ x e)=[Ii x.k,.string x.t,yD,yD,yD,yD,yD,yD]:=by simp[evC,yz,zbJ,h1,h2,h3,h4,h6]
end
theorem zgQ(e:EvV)(x:EvT)(w:Wl)(hx:za7 w e x):zL TP 59 #[.agg (evC x e).toArray] w fun r w'=>r=.agg (evC (yz x) (zbJ x e)).toArray∧zl [] w w':=by
 obtain⟨c,ky,u,o,n,m⟩:=e
 obtain⟨po,co,rfl,_⟩:∃p q,o=.slice p x.o.length q∧x.o.length≤q:=zO.val hx.old
 obtain⟨pn,cn,rfl,_⟩:∃p q,n=.slice p x.w.length q∧x.w.length≤q:=zO.val hx.new
 obtain⟨pm,cm,rfl,_⟩:∃p q,m=.slice p x.m.length q∧x.m.length≤q:=zO.val hx.nm
 refine A1 Tryz.func59 U U ?_
 refine Sr ?_
 refine Ob U U ?_
 intro b1 w1 e1 n1 c1 k1
 refine Oq (zD ze2 U U ?_)
 intro b2 w2 e2 n2 c2 k2
 refine E2 1 2 U ?_
 have k1:zK w2 b1 39 (evC x ⟨c,ky,u,.slice po x.o.length co,.slice pn x.w.length cn,.slice pm x.m.length cm⟩):=k1.chg0 c2
 have hs1:=c1.size
 have hs2:=c2.size
 refine Sr (Od za5 U (Ol zee U (k1.cell' (i:=0) U) (Od yg U (Ol ag9 U (k1.cell' (i:=1) U) ?_))))
 refine Og (zC zkg ze2 U (vs:=[_,_]) U (css:=[_,_]) ⟨U,U,trivial⟩ U U (cs:=[_,_,_,_,_,_,_,_]) U) U ?_
 refine Oq (zD ze2 U U ?_)
 intro b3 w3 e3 n3 c3 k3
 refine Oq (zv yy U U U U k3 (by simp) (by simp[Value.oneCell']) ?_)
 intro wA nA cA kA
 refine E3 1 2 3 U ?_
 have kA:zK wA b3 39 [Ii x.k,.string x.t,yD,yD,yD,yD,yD,yD]:=kA
 have h1:=k1.lt
 have k1:=(k1.chg0 c3).chg cA (by simp;omega)
 have k2l:=k2.lt
 have k2:=(k2.chg0 c3).chg cA (by simp;omega)
 have h3:w.heap.size≤b3∧b1≠b3∧b2≠b3:=by omega
 have hcA:=((c1.trans c2).trans c3).own cA (by intro y hy;simp at hy;omega)
 have oc:=zO.one1 hx.sch.cols
 have ok:=zO.one1 hx.sch.key
 have ou:=hx.sch.uq.one1
 have oo:=zO.one1 hx.old
 have on:=zO.one1 hx.new
 have om:=zO.one1 hx.nm
 refine yt (fun F wx=>prune [2,3] F=[(2,Pt b2),(3,Pt b3)]∧zK wx b3 39 (evC (yz x) (zbJ x ⟨c,ky,u,.slice po x.o.length co,.slice pn x.w.length cn,.slice pm x.m.length cm⟩))∧zl [b3] wA wx) ?_ ?_
 ·refine Sr (Od za5 U (Ol zee U (k1.cell' (i:=0) U) (E4 1 2 3 10 U (zu (zd (zu (zd (zu (zd (zu (zd (zu (zd (zu ?_))))))))))))))
  by_cases hk1:x.k=1
  ·have hk:=hk1
   refine zd (zd (Sr (Og (vt (zA U U) (dt hk)) U (Oa U (E5 1 2 3 10 11 U (zf U ?_))))))
   refine zI ?_
   repeat first|refine te ?_|refine bo rfl ?_
   refine zt _ ?_
   refine Sr (Od zbu U (Ol zbA U (k1.cell' (i:=6) U) (Od zbu U ?_)))
   refine Oq (zv zpQ U U U U kA (by simp) (by simp[Value.oneCell']) ?_)
   intro wB nB cB kB
   refine E2 2 3 U ?_
   refine zI ?_
   repeat first|refine te ?_|refine bo rfl ?_
   refine zt _ ?_
   exact⟨rfl,by rw[zvf  hk];exact kB,cB⟩
  skip
  by_cases hk2:x.k=2
  ·have hk:=hk2
   refine zd (zd (Sr ?_))
   refine Og (vf (zA U U) (df (by omega))) U ?_
   refine Oa U (E5 1 2 3 10 11 U (zb U (zk (zd (Sr (Og (vt (zA U U) (dt hk)) U (Oa U (E5 1 2 3 10 13 U (zf U ?_)))))))))
   refine zI ?_
   repeat first|refine te ?_|refine bo rfl ?_
   refine zt _ ?_
   refine za (Od zbu U (Ol zbA U (k1.cell' (i:=6) U) (Od zbu U ?_)))
   refine Oq (zv zpQ U U U U kA (by simp) (by simp[Value.oneCell']) ?_)
   intro wB nB cB kB
   refine N3 1 2 3 U (zn ?_)
   have k1:=k1.chg cB (by simp;omega)
   refine Sr (Od za0 U (Ol zbA U (k1.cell' (i:=5) U) (Od za0 U ?_)))
   refine Oq (zv zpQ U U U U kB (by simp[yF]) (by simp[Value.oneCell']) ?_)
   intro wC nC cC kC
   refine E2 2 3 U ?_
   refine zI ?_
   repeat first|refine te ?_|refine bo rfl ?_
   refine zt _ ?_
   exact⟨rfl,by rw[zwr  hk];exact kC,cB.transS cC⟩
  skip
  by_cases hk3:x.k=3
  ·have hk:=hk3
   refine zd (zd (Sr ?_))
   refine Og (vf (zA U U) (df (by omega))) U ?_
   refine Oa U (E5 1 2 3 10 11 U (zb U (zk (zd (Sr ?_)))))
   refine Og (vf (zA U U) (df (by omega))) U ?_
   refine Oa U (E5 1 2 3 10 13 U (zb U (zk (zd (Sr (Og (vt (zA U U) (dt hk)) U (Oa U (E5 1 2 3 10 15 U (zf U ?_)))))))))
   refine zI ?_
   repeat first|refine te ?_|refine bo rfl ?_
   refine zt _ ?_
   refine Sr (Od za0 U (Ol zbA U (k1.cell' (i:=5) U) (Od za0 U ?_)))
   refine Oq (zv zpQ U U U U kA (by simp) (by simp[Value.oneCell']) ?_)
   intro wB nB cB kB
   refine E2 2 3 U ?_
   refine zI ?_
   repeat first|refine te ?_|refine bo rfl ?_
   refine zt _ ?_
   exact⟨rfl,by rw[zwl  hk];exact kB,cB⟩
  skip
  by_cases hk4:x.k=4
  ·have hk:=hk4
   refine zd (zd (Sr ?_))
   refine Og (vf (zA U U) (df (by omega))) U ?_
   refine Oa U (E5 1 2 3 10 11 U (zb U (zk (zd (Sr ?_)))))
   refine Og (vf (zA U U) (df (by omega))) U ?_
   refine Oa U (E5 1 2 3 10 13 U (zb U (zk (zd (Sr ?_)))))
   refine Og (vf (zA U U) (df (by omega))) U ?_
   refine Oa U (E5 1 2 3 10 15 U (zb U (zk (zd (Sr (Og (vt (zA U U) (dt hk)) U (Oa U (E5 1 2 3 10 17 U (zf U ?_)))))))))
   refine zI ?_
   repeat first|refine te ?_|refine bo rfl ?_
   refine zt _ ?_
   refine Sr (Od zbm U ?_)
   refine Og (zg zbQ zbL U U (zB.of_blk k1 2 [c,ky,u] ⟨[_,_,_],U⟩)) U ?_
   refine Od zbm U ?_
   refine Oq (zv zbL U U U U kA (by simp) (by intro u hu;simp at hu;rcases hu with rfl|rfl|rfl;exact oc;exact ok;exact ou) ?_)
   intro wB nB cB kB
   refine E2 2 3 U ?_
   refine zI ?_
   repeat first|refine te ?_|refine bo rfl ?_
   refine zt _ ?_
   exact⟨rfl,by rw[zwx  hk];exact kB,cB⟩
  skip
  by_cases hk6:x.k=6
  ·have hk:=hk6
   refine zd (zd (Sr ?_))
   refine Og (vf (zA U U) (df (by omega))) U ?_
   refine Oa U (E5 1 2 3 10 11 U (zb U (zk (zd (Sr ?_)))))
   refine Og (vf (zA U U) (df (by omega))) U ?_
   refine Oa U (E5 1 2 3 10 13 U (zb U (zk (zd (Sr ?_)))))
   refine Og (vf (zA U U) (df (by omega))) U ?_
   refine Oa U (E5 1 2 3 10 15 U (zb U (zk (zd (Sr ?_)))))
   refine Og (vf (zA U U) (df (by omega))) U ?_
   refine Oa U (E5 1 2 3 10 17 U (zb U (zk (Sr (Og (vt (zA U U) (dt hk)) U (Oa U (E4 1 2 3 19 U (zf U ?_))))))))
   refine zI ?_
   repeat first|refine te ?_|refine bo rfl ?_
   refine zt _ ?_
   have hd:zl [] wA wA.drew:=zl.drew [] _
   refine zd ?_
   refine zN (fun wz=>zl [b3] wA wz) mix (by kernel_rfl) (hd.any (S:=[b3])) ?_
   refine Td zaC U ?_
   refine Tr (fun wz hz=>zj zdI U ((k1.chg hz (by simp;omega)).cell' (i:=7) U)) U ?_
   refine Td yg U ?_
   refine za4 U (gn U) (zv sz9 U U U U (kA.chg0 hd) (by simp) (by simp[Value.oneCell']) ?_)
   intro wB nB cB kB
   refine⟨.inl ((hd.any (S:=[b3])).transS cB),?_⟩
   refine Td zaC U ?_
   refine za4 U (gn U) (zv zzW U U U U kB (by simp[yF]) (by simp[Value.oneCell']) ?_)
   intro wC nC cC kC
   refine⟨.inr (by kernel_rfl),?_⟩
   refine D2 2 3 U ?_
   refine zI ?_
   repeat first|refine te ?_|refine bo rfl ?_
   refine zt _ ?_
   exact⟨rfl,by rw[zvV  hk];exact kC,((hd.any (S:=[b3])).transS cB).transS cC⟩
  skip
  refine zd (zd (Sr ?_))
  refine Og (vf (zA U U) (df (by omega))) U ?_
  refine Oa U (E5 1 2 3 10 11 U (zb U (zk (zd (Sr ?_)))))
  refine Og (vf (zA U U) (df (by omega))) U ?_
  refine Oa U (E5 1 2 3 10 13 U (zb U (zk (zd (Sr ?_)))))
  refine Og (vf (zA U U) (df (by omega))) U ?_
  refine Oa U (E5 1 2 3 10 15 U (zb U (zk (zd (Sr ?_)))))
  refine Og (vf (zA U U) (df (by omega))) U ?_
  refine Oa U (E5 1 2 3 10 17 U (zb U (zk (Sr ?_))))
  refine Og (vf (zA U U) (df (by omega))) U ?_
  refine Oa U (E4 1 2 3 19 U (zb U (zk ?_)))
  refine zI ?_
  repeat first|refine te ?_|refine bo rfl ?_
  refine zt _ ?_
  exact⟨rfl,by rw[zvh  hk1 hk2 hk3 hk4 hk6];exact kA,zl.refl _ _⟩
 rintro F wx⟨hF,kx,hcx⟩
 have k2:=k2.chg hcx (by simp;omega)
 refine zbT [2,3] hF ?_
 refine Sr (Og (zg zaI yy U U (zB.of_blk0 kx)) U ?_)
 refine Oq (zv yy U U U U k2 (by simp[evC]) (zkf hx).one ?_)
 intro wD nD cD kD
 refine E1 2 U ?_
 have kD:zK wD b2 39 (evC (yz x) (zbJ x ⟨c,ky,u,.slice po x.o.length co,.slice pn x.w.length cn,.slice pm x.m.length cm⟩)):=kD
 refine zh ?_
 refine zg4 U zaI yy U U (zB.of_blk0 kD) ?_
 exact⟨rfl,(hcA.own hcx (by intro y hy;simp at hy;omega)).own cD (by intro y hy;simp at hy;omega)⟩
section
variable {x:EvT} {e:EvV} {w:Wl}
theorem zpg(hE:EOk w):zL TP 153 #[.agg (evC x e).toArray] w fun r w'=>r=.bool (zaF x.t)∧zl [] w w':=by
 refine A1 Tryz.func153 U U ?_
 refine Sr ?_
 refine Ob U U ?_
 intro b1 w1 e1 n1 c1 k1
 refine Oa U (E1 1 U ?_)
 have k1:zK w1 b1 39 (evC x e):=k1
 refine Sr (Od yg U (Ol ag9 U (k1.cell' (i:=1) U) ?_))
 refine Oc znW U U U (zgu x.t _ (hE.chg0 c1)) ?_
 rintro v5 w5⟨rfl,c5⟩
 refine Oa U (E1 2 U (zh ?_))
 refine zx U U ?_
 exact⟨U,c1.trans c5⟩
theorem zpm(hx:za7 w e x)(hm:zce x):zL TP 157 #[.agg (evC x e).toArray] w fun r w'=>r=.bool (zaq x.s)∧zl [] w w':=by
 refine A1 Tryz.func157 U U ?_
 refine Sr ?_
 refine Ob U U ?_
 intro b1 w1 e1 n1 c1 k1
 refine Oa U (E1 1 U ?_)
 have k1:zK w1 b1 39 (evC x e):=k1
 refine Sr (Od zbm U ?_)
 refine Og (zg zbQ zbL U U (zB.of_blk k1 2 [e.c,e.ky,e.u] ⟨[e.o,e.n,e.m],U⟩)) U ?_
 refine Oc zj4 U U U (zfF _ _ _ x.s _ (hx.sch.chg0 c1) hm.s) ?_
 rintro v5 w5⟨rfl,c5⟩
 refine Og (zA U U) U (Oa U (E1 2 U (zh ?_)))
 refine zx U U ?_
 exact⟨by cases zaq x.s<;>rfl,c1.trans c5⟩
theorem zmF(p:By×By)(hE:EOk w):zL TP 164 #[.agg (pcs p).toArray] w fun r w'=>r=.bool (!(zaF p.1 && zaF p.2))∧zl [] w w':=by
 refine A1 Tryz.func164 U U ?_
 refine Sr ?_
 refine Ob U U ?_
 intro b1 w1 e1 n1 c1 k1
 refine Oa U (E1 1 U ?_)
 have k1:zK w1 b1 78 [.string p.1,.string p.2]:=k1
 refine zd ?_
 cases hn:zaF p.1 with
 |false=>
  refine za ?_
  refine Og (zP zdt sz9 U U 0 U (by decide)) U ?_
  refine Ol ag9 U (k1.cell' (i:=0) U) ?_
  refine Oc znW U U U (zgu p.1 _ (hE.chg0 c1)) ?_
  rintro v5 w5⟨e5,c5⟩
  rw[hn]at e5
  subst e5
  refine Og (zE U) U (Om U (Oz U U (Oz U U (Oz U U (Oz U U (Ot U (Oa U (E1 2 U (zh ?_)))))))))
  refine zx U U ?_
  exact⟨U,c1.trans c5⟩
 |true=>
  refine za ?_
  refine Og (zP zdt sz9 U U 0 U (by decide)) U ?_
  refine Ol ag9 U (k1.cell' (i:=0) U) ?_
  refine Oc znW U U U (zgu p.1 _ (hE.chg0 c1)) ?_
  rintro v5 w5⟨e5,c5⟩
  rw[hn]at e5
  subst e5
  refine Og (zE U) U (Om U ?_)
  refine Oy U U (zP zdt sz9 U U 1 U (by decide)) ?_
  refine Oy U U (zj ag9 U ((k1.chg0 c5).cell' (i:=1) U)) ?_
  refine Ow U U znW U U U (zgu p.2 _ (hE.chg0 (c1.trans c5))) ?_
  rintro v10 w10⟨rfl,c10⟩
  refine Oy U U (zE U) (Of U (Oa U (E1 2 U (zh ?_))))
  refine zx U U ?_
  exact⟨by simp,(c1.trans c5).trans c10⟩
theorem zoK{α:Type}(p:α→Bool)(l:List α):(!l.any fun x => !p x)=l.all p:=by rw[List.not_any_eq_all_not];simp
theorem zpM(hE:EOk w)(hx:za7 w e x)(hm:zce x):zL TP 163 #[.agg (evC x e).toArray] w fun r w'=>r=.bool (zdZ x.m)∧zl [] w w':=by
 obtain⟨c,ky,u,o,n,m⟩:=e
 obtain⟨pm,cm,rfl,_⟩:∃p q,m=.slice p x.m.length q∧x.m.length≤q:=zO.val hx.nm
 refine A1 Tryz.func163 U U ?_
 refine Sr ?_
 refine Ob U U ?_
 intro b1 w1 e1 n1 c1 k1
 refine Oa U (E1 1 U ?_)
 have k1:zK w1 b1 39 (evC x ⟨c,ky,u,o,n,.slice pm x.m.length cm⟩):=k1
 refine zd ?_
 by_cases h1:1≤x.m.length
 ·by_cases h4:x.m.length≤4
  ·refine za (Od zaC U (Ol zdI U (k1.cell' (i:=7) U) (On zb0 U ?_)))
   refine Og (vt (yj U U) (dt (by omega))) U ?_
   refine Om U (Oy U U (ze zaC U) (Oy U U (zj zdI U (k1.cell' (i:=7) U)) (Oy U U (z5 zb0 U) ?_)))
   refine Oy U U (vt (zbt U U) (dt (by omega))) ?_
   refine Ot U (Om U (Oy U U (ze zaC U) (Oy U U (zj zdI U (k1.cell' (i:=7) U)) ?_)))
   refine Ow U U zqb U U U (zoo zbw _ x.m (fun p => !(zaF p.1 && zaF p.2)) 164 [] _ (zO.chg0 hx.nm c1) hm.m zyd (fun p _ w1 h1=>zmF p (hE.chg0 (c1.trans h1)))) ?_
   rintro v16 w16⟨rfl,c16⟩
   refine Oy U U (zE U) (Ot U (Oa U (E1 2 U (zh ?_))))
   refine zx U U ?_
   refine⟨?_,c1.trans c16⟩
   rw[zoK (fun p:By×By=>zaF p.1 && zaF p.2)]
   simp[zdZ,h1,h4]
  refine za (Od zaC U (Ol zdI U (k1.cell' (i:=7) U) (On zb0 U ?_)))
  refine Og (vt (yj U U) (dt (by omega))) U ?_
  refine Om U (Oy U U (ze zaC U) (Oy U U (zj zdI U (k1.cell' (i:=7) U)) (Oy U U (z5 zb0 U) ?_)))
  refine Oy U U (vf (zbt U U) (df (by omega))) ?_
  refine Ot U (Om U (Oz U U (Oz U U (Oz U U (Oz U U (Of U (Oa U (E1 2 U (zh ?_)))))))))
  refine zx U U ?_
  exact⟨by simp[zdZ,h4],c1⟩
 refine za (Od zaC U (Ol zdI U (k1.cell' (i:=7) U) (On zb0 U ?_)))
 refine Og (vf (yj U U) (df (by omega))) U ?_
 refine Om U (Oz U U (Oz U U (Oz U U (Oz U U (Of U (Om U (Oz U U (Oz U U (Oz U U (Oz U U (Of U (Oa U (E1 2 U (zh ?_))))))))))))))
 refine zx U U ?_
 exact⟨by simp[zdZ,h1],c1⟩
theorem zwu(b:Nat)(w:Wl):zL TP 95 #[Pt b] w fun r w'=>r=.pointer (some ⟨b,5,none⟩)∧w'=w:=by
 refine A1 Tryz.func95 U U ?_
 refine Sr (Oa U (E1 0 U (Sr (Om U (Og (zp U) U (Od za0 U (Oa U (E1 2 U (zh ?_)))))))))
 refine zx U U ?_
 exact⟨U,U⟩
theorem zvZ(b:Nat)(w:Wl):zL TP 96 #[Pt b] w fun r w'=>r=.pointer (some ⟨b,6,none⟩)∧w'=w:=by
 refine A1 Tryz.func96 U U ?_
 refine Sr (Oa U (E1 0 U (Sr (Om U (Og (zp U) U (Od zbu U (Oa U (E1 2 U (zh ?_)))))))))
 refine zx U U ?_
 exact⟨U,U⟩
theorem zsr(y:zT):zL TP 143 #[.agg y.cs.toArray] w fun r w'=>r=.bool (!decide (zbq y=0))∧zl [] w w':=by
 refine A1 Tryz.func143 U U ?_
 refine Sr ?_
 refine Ob U U ?_
 intro b1 w1 e1 n1 c1 k1
 refine Oa U (E1 1 U ?_)
 have k1:zK w1 b1 111 y.cs:=k1
 refine Sr (Og (zg zaX yv U U (zB.of_blk0 k1)) U ?_)
 refine Oc zp4 U U U (zkA y _) ?_
 rintro v4 w4⟨rfl,c4⟩
 refine Og (zZ U U) U (Oa U (E1 2 U (zh ?_)))
 refine zx U U ?_
 exact⟨U,c1.trans c4⟩
theorem znK(f:Nat)(hf:zi TP f=true)(i:Nat)(v:Va)(l:List zT)(bo:Nat)(hb:zK w bo 182 [fnV f []])(hi:(evC x e)[i]? = some v)(hv:yn w v l)(hn:l.length≤1048576)
 (hat:∀b w,zL TP f #[Pt b] w fun r w'=>r=.pointer (some ⟨b,i,none⟩)∧w'=w) :
 zL TP 141 #[.agg (evC x e).toArray,Pt bo] w fun r w'=>r=.bool (zhM l)∧zl [] w w':=by
 obtain⟨pv,cv,rfl,_⟩:=zO.val hv
 refine A2 Tryz.func141 U U ?_
 refine Sr ?_
 refine Ob U U ?_
 intro b2 w2 e2 n2 c2 k2
 refine Oa U (E2 1 2 U ?_)
 have k2:zK w2 b2 39 (evC x e):=k2
 have hb:=hb.chg0 c2
 refine Sr (Ol zw6 U (hb.cell' (i:=0) U) ?_)
 refine Oc hf U U U (hat b2 _) ?_
 rintro v6 w6⟨rfl,rfl⟩
 refine Og (zp U) U (Ol zbA U (k2.cell' hi) (Oa U (E1 4 U (zd ?_))))
 by_cases h1:1≤l.length
 ·by_cases h8:l.length≤8
  ·refine za (Om U (On zbn U ?_))
   refine Og (vt (yj U U) (dt (by omega))) U ?_
   refine Om U (Oj U U (Oy U U (z5 zbn U) ?_))
   refine Oy U U (vt (zbt U U) (dt (by omega))) ?_
   refine Ot U (Om U (Oj U U ?_))
   refine Ow U U zuY U U U (zrk (f:=zT.cs) zc2 _ l (fun y => !decide (zbq y=0)) 143 [] _ (zO.chg0 hv c2) hn zzm (fun y _ w1 _=>zsr y)) ?_
   rintro v19 w19⟨rfl,c19⟩
   refine Oy U U (zE U) (Ot U (Oa U (E1 3 U (zh ?_))))
   refine zx U U ?_
   refine⟨?_,c2.trans c19⟩
   rw[zoK (fun y:zT=>decide (zbq y=0))]
   simp[zhM,h1,h8]
  refine za (Om U (On zbn U ?_))
  refine Og (vt (yj U U) (dt (by omega))) U ?_
  refine Om U (Oj U U (Oy U U (z5 zbn U) ?_))
  refine Oy U U (vf (zbt U U) (df (by omega))) ?_
  refine Ot U (Om U (Oz U U (Oz U U (Oz U U (Of U (Oa U (E1 3 U (zh ?_))))))))
  refine zx U U ?_
  exact⟨by simp[zhM,h8],c2⟩
 refine za (Om U (On zbn U ?_))
 refine Og (vf (yj U U) (df (by omega))) U ?_
 refine Om U (Oz U U (Oz U U (Oz U U (Of U (Om U (Oz U U (Oz U U (Oz U U (Of U (Oa U (E1 3 U (zh ?_))))))))))))
 refine zx U U ?_
 exact⟨by simp[zhM,h1],c2⟩
def zel(bo bn:Nat)(k:Nat):List Va:=if k=0 then zea else if k=1 then zlI else if k=2 then zmc else if k=3 then zc4 bo else zc4 bn
def zjf(x:EvT)(k:Nat):Bool:=if k=0 then zaF x.t else if k=1 then zaq x.s else if k=2 then zdZ x.m else if k=3 then zhM x.o else zhM x.w
theorem zli(bo bn k:Nat):(zel bo bn k).length=3:=by unfold zel;split;rfl;split;rfl;split;rfl;split<;>rfl
theorem zrU(bo bn k:Nat):∀u∈zel bo bn k,u.oneCell'=true:=by
 have h:∀l:List Va,l=zea∨l=zlI∨l=zmc∨(∃b,l=zc4 b)→∀u∈l,u.oneCell'=true:=by
  rintro l (rfl|rfl|rfl|⟨b,rfl⟩) u hu<;>simp only[zea,zlI,zmc,zc4,List.mem_cons,List.not_mem_nil,or_false]at hu<;>rcases hu with rfl|rfl|rfl<;>rfl
 refine h _ ?_
 unfold zel
 split
 ·exact .inl U
 split
 ·exact .inr (.inl U)
 split
 ·exact .inr (.inr (.inl U))
 split
 ·exact .inr (.inr (.inr ⟨_,U⟩))
 exact .inr (.inr (.inr ⟨_,U⟩))
theorem zoX(bo bn k b:Nat)(hE:EOk w)(hx:za7 w e x)(hm:zce x)(hb:zK w b 39 (evC x e))(ho:zK w bo 182 [fnV 95 []])(hn:zK w bn 182 [fnV 96 []]) :
 zL TP 61 #[.agg (zel bo bn k).toArray,Pt b] w fun r w'=>r=.bool (!zjf x k)∧zl [] w w':=by
 refine A2 Tryz.func61 U U ?_
 refine zd ?_
 unfold zel zjf
 by_cases h0:k=0
 ·rw[if_pos h0,if_pos h0]
  refine za ?_
  refine Ob U U ?_
  intro b2 w2 e2 n2 c2 k2
  refine Oa U (E2 1 2 U ?_)
  have k2:zK w2 b2 137 zea:=k2
  refine Sr (Od zgv U (Ol zp6 U (k2.cell' (i:=0) U) (Og (zg zaI yy U U (zB.of_blk0 (hb.chg0 c2))) U ?_)))
  refine Oc zxf U U U (zpg (hE.chg0 c2)) ?_
  rintro v7 w7⟨rfl,c7⟩
  refine Og (zE U) U (Oa U (E1 3 U (zh ?_)))
  refine zx U U ?_
  exact⟨U,c2.trans c7⟩
 rw[if_neg h0,if_neg h0]
 by_cases h1:k=1
 ·rw[if_pos h1,if_pos h1]
  refine za ?_
  refine Ob U U ?_
  intro b2 w2 e2 n2 c2 k2
  refine Oa U (E2 1 2 U ?_)
  have k2:zK w2 b2 137 zlI:=k2
  refine Sr (Od zgv U (Ol zp6 U (k2.cell' (i:=0) U) (Og (zg zaI yy U U (zB.of_blk0 (hb.chg0 c2))) U ?_)))
  refine Oc zzs U U U (zpm (hx.chg0 c2) hm) ?_
  rintro v7 w7⟨rfl,c7⟩
  refine Og (zE U) U (Oa U (E1 3 U (zh ?_)))
  refine zx U U ?_
  exact⟨U,c2.trans c7⟩
 rw[if_neg h1,if_neg h1]
 by_cases h2:k=2
 ·rw[if_pos h2,if_pos h2]
  refine za ?_
  refine Ob U U ?_
  intro b2 w2 e2 n2 c2 k2
  refine Oa U (E2 1 2 U ?_)
  have k2:zK w2 b2 137 zmc:=k2
  refine Sr (Od zgv U (Ol zp6 U (k2.cell' (i:=0) U) (Og (zg zaI yy U U (zB.of_blk0 (hb.chg0 c2))) U ?_)))
  refine Oc zyM U U U (zpM (hE.chg0 c2) (hx.chg0 c2) hm) ?_
  rintro v7 w7⟨rfl,c7⟩
  refine Og (zE U) U (Oa U (E1 3 U (zh ?_)))
  refine zx U U ?_
  exact⟨U,c2.trans c7⟩
 rw[if_neg h2,if_neg h2]
 by_cases h3:k=3
 ·rw[if_pos h3,if_pos h3]
  refine za ?_
  refine Ob U U ?_
  intro b2 w2 e2 n2 c2 k2
  refine Oa U (E2 1 2 U ?_)
  have k2:zK w2 b2 137 (zc4 bo):=k2
  refine Sr (Od zgv U (Ol zp6 U (k2.cell' (i:=0) U) (Og (zg zaI yy U U (zB.of_blk0 (hb.chg0 c2))) U ?_)))
  refine Oc zuB U U U (znK 95 zzY 5 e.o x.o bo (ho.chg0 c2) U (zO.chg0 hx.old c2) hm.o zwu) ?_
  rintro v7 w7⟨rfl,c7⟩
  refine Og (zE U) U (Oa U (E1 3 U (zh ?_)))
  refine zx U U ?_
  exact⟨U,c2.trans c7⟩
 rw[if_neg h3,if_neg h3]
 refine za ?_
 refine Ob U U ?_
 intro b2 w2 e2 n2 c2 k2
 refine Oa U (E2 1 2 U ?_)
 have k2:zK w2 b2 137 (zc4 bn):=k2
 refine Sr (Od zgv U (Ol zp6 U (k2.cell' (i:=0) U) (Og (zg zaI yy U U (zB.of_blk0 (hb.chg0 c2))) U ?_)))
 refine Oc zuB U U U (znK 96 zzM 6 e.n x.w bn (hn.chg0 c2) U (zO.chg0 hx.new c2) hm.w zvZ) ?_
 rintro v7 w7⟨rfl,c7⟩
 refine Og (zE U) U (Oa U (E1 3 U (zh ?_)))
 refine zx U U ?_
 exact⟨U,c2.trans c7⟩
end
def zeX(k:Int):Option (List Nat):=if k=1 then some [0,4] else if k=2 then some [0,3,4] else if k=3 then some [0,3] else if k=4 then some [0,1] else if k=5 then some [0] else if k=6 then some [2] else none
theorem zsI{es:List (Int×Va)}{k:Int}:(∀p∈es,p.1≠k)→zar es k=none:=by
 induction es with
 |nil=>intro _;rfl
 |cons p r ih=>
  intro h
  unfold zar
  rw[if_neg (h p (by simp))]
  exact ih fun q hq=>h q (by simp[hq])
theorem zpb{w:Wl}{m bo bn:Nat}{es:List (Int×Va)}(hK:zqw w m es bo bn)(k:Int):(∃l v,zeX k=some l∧zar es k=some v∧SL w v (l.map (zel bo bn)))∨(zeX k=none∧zar es k=none):=by
 by_cases h1:k=1
 ·subst h1
  obtain⟨v,g,p⟩:=hK.2.1 (4,1,3) (by decide)
  exact .inl ⟨_,v,U,g,p⟩
 by_cases h2:k=2
 ·subst h2
  obtain⟨v,g,p⟩:=hK.2.1 (9,2,8) (by decide)
  exact .inl ⟨_,v,U,g,p⟩
 by_cases h3:k=3
 ·subst h3
  obtain⟨v,g,p⟩:=hK.2.1 (13,3,12) (by decide)
  exact .inl ⟨_,v,U,g,p⟩
 by_cases h4:k=4
 ·subst h4
  obtain⟨v,g,p⟩:=hK.2.1 (17,4,16) (by decide)
  exact .inl ⟨_,v,U,g,p⟩
 by_cases h5:k=5
 ·subst h5
  obtain⟨v,g,p⟩:=hK.2.1 (20,5,19) (by decide)
  exact .inl ⟨_,v,U,g,p⟩
 by_cases h6:k=6
 ·subst h6
  obtain⟨v,g,p⟩:=hK.2.1 (23,6,22) (by decide)
  exact .inl ⟨_,v,U,g,p⟩
 refine .inr ⟨by simp[zeX,h1,h2,h3,h4,h5,h6],zsI fun p hp e=>?_⟩
 have:=hK.2.2.1 p hp
 omega
theorem zqa{x:EvT}{l:List Nat}(h:zeX x.k=some l):l.any (fun j => !zjf x j) = !zei x:=by
 unfold zeX at h
 by_cases h1:x.k=1
 ·rw[if_pos h1]at h;cases h;simp[zjf,zei,h1]
 rw[if_neg h1]at h
 by_cases h2:x.k=2
 ·rw[if_pos h2]at h;cases h;simp[zjf,zei,h2,Bool.or_assoc]
 rw[if_neg h2]at h
 by_cases h3:x.k=3
 ·rw[if_pos h3]at h;cases h;simp[zjf,zei,h3]
 rw[if_neg h3]at h
 by_cases h4:x.k=4
 ·rw[if_pos h4]at h;cases h;simp[zjf,zei,h4]
 rw[if_neg h4]at h
 by_cases h5:x.k=5
 ·rw[if_pos h5]at h;cases h;simp[zjf,zei,h5]
 rw[if_neg h5]at h
 by_cases h6:x.k=6
 ·rw[if_pos h6]at h;cases h;simp[zjf,zei,h6]
 rw[if_neg h6]at h
 cases h
theorem zoy{k:Int}:(zeX k).isSome=decide (1≤k∧k≤6):=by
 unfold zeX
 by_cases h1:k=1
 ·subst h1;rfl
 by_cases h2:k=2
 ·subst h2;rfl
 by_cases h3:k=3
 ·subst h3;rfl
 by_cases h4:k=4
 ·subst h4;rfl
 by_cases h5:k=5
 ·subst h5;rfl
 by_cases h6:k=6
 ·subst h6;rfl
 rw[if_neg h1,if_neg h2,if_neg h3,if_neg h4,if_neg h5,if_neg h6]
 exact(df (by omega)).symm
theorem zpU{k:Int}{l:List Nat}(h:zeX k=some l):l.length≤3:=by
 unfold zeX at h
 repeat' split at h
 all_goals first|(cases h;decide)|cases h
set_option maxHeartbeats 1000000 in
theorem zml(e:EvV)(x:EvT)(w:Wl)(hE:EOk w)(hx:za7 w e x)(hm:zce x):zL TP 33 #[.agg (evC x e).toArray] w fun r w'=>r=Ii (if z9 x then 0 else 2)∧zl [] w w':=by
 obtain⟨c,ky,u,o,n,m⟩:=e
 obtain⟨po,co,rfl,_⟩:∃p q,o=.slice p x.o.length q∧x.o.length≤q:=zO.val hx.old
 obtain⟨pn,cn,rfl,_⟩:∃p q,n=.slice p x.w.length q∧x.w.length≤q:=zO.val hx.new
 generalize he:(⟨c,ky,u,.slice po x.o.length co,.slice pn x.w.length cn,m⟩:EvV)=e at *
 have ho:(evC x e)[5]? = some (.slice po x.o.length co):=by rw[←he];rfl
 have hn:(evC x e)[6]? = some (.slice pn x.w.length cn):=by rw[←he];rfl
 refine A1 Tryz.func33 U U ?_
 refine Sr ?_
 refine Ob U U ?_
 intro b1 w1 e1 n1 c1 k1
 refine Oa U (E1 1 U ?_)
 have k1:zK w1 b1 39 (evC x e):=k1
 have hd1:zl [] w1 w1.drew:=zl.drew [] _
 refine yt (fun F wx=>∃v bo bn,F=[(1,Pt b1),(3,v),(4,.bool (zeX x.k).isSome)]∧(∀l,zeX x.k=some l→SL wx v (l.map (zel bo bn)))∧zK wx bo 182 [fnV 95 []]∧zK wx bn 182 [fnV 96 []]∧zl [] w1 wx) ?_ ?_
 ·refine zN (fun wz=>zl [] w1 wz) mix (by kernel_rfl) hd1 ?_
  refine Tc zzP U U U (zq7 _) ?_
  rintro v6 w6⟨mm,es,bo,bn,rfl,hK,c6⟩
  refine⟨.inl (hd1.trans c6),?_⟩
  refine Td za5 U (Tr (fun wz hz=>zj zee U ((k1.chg0 hz).cell' (i:=0) U)) U ?_)
  refine za4 U (gn U) (St.vl (zck (κ:=y6 .i64) ziP (zM zaR) zwS U U hK.1 U) U U ?_)
  refine⟨.inl (hd1.trans c6),?_⟩
  refine Tm U (Tp (fun _=>zJ U U) U (Tp (fun _=>zJ U U) U (Ta U (Ta U (D3 1 3 4 U ?_)))))
  rcases zpb hK x.k with⟨l,v,h1,h2,h3⟩|⟨h1,h2⟩
  ·rw[h1,h2]
   exact⟨v,bo,bn,rfl,fun l' hl=>by cases hl;exact h3,hK.2.2.2.1,hK.2.2.2.2,hd1.trans c6⟩
  rw[h1,h2]
  exact⟨_,bo,bn,rfl,(fun l hl=>by cases hl),hK.2.2.2.1,hK.2.2.2.2,hd1.trans c6⟩
 rintro F wx⟨v,bo,bn,rfl,hsl,hbo,hbn,hcx⟩
 have k1:=k1.chg0 hcx
 have hd:zl [] wx wx.drew:=zl.drew [] _
 have hcw:=c1.trans hcx
 have hEx:=hE.chg0 hcw
 have hxx:=hx.chg0 hcw
 refine zd (zd ?_)
 have fin:∀{wy:Wl} {b:Bool},b=z9 x→zl [] wx wy→(fun(r:Va) w'=>r=Ii (if z9 x then 0 else 2)∧zl [] w w') (Ii (if b then 0 else 2)) wy:=fun hb hc=>⟨by rw[hb],hcw.trans hc⟩
 cases hk:zeX x.k with
 |none=>
  have hr:z9 x=false:=by
   have:=zoy (k:=x.k)
   rw[hk]at this
   have h:=of_decide_eq_false this.symm
   cases hr:z9 x with
   |false=>rfl
   |true=>exact absurd (zeA hr).1 h
  refine zN (fun wz=>zl [] wx wz) mix (zf9 (by kernel_rfl)) hd ?_
  refine Tm U (Tp (fun _=>zE U) U (Tm U (Tz U U (Tz U U (Tz U U (Tz U U (Tz U U (Tp (fun _=>zW U U) U (Tm U (Tz U U (Tz U U (Tz U U (Tp (fun _=>zW U U) U (Tm U (Tz U U ?_)))))))))))))))
  refine Tz U U (Tz U U (Tz U U ?_))
  refine yK U U U U U ?_
  refine yK U U U U U ?_
  refine yK U U U U U ?_
  refine yK U U U U U ?_
  refine yK U U U U U ?_
  refine yK U U U U U ?_
  refine yK U U U U U ?_
  refine Tz U U (Tp (fun _=>zW U U) U (D1 39 U (zf U (Sr (Oa U (E1 2 U (zh ?_)))))))
  repeat first|refine tr ?_|refine br ?_
  refine zx U U ?_
  exact fin (b:=false) hr.symm hd
 |some l=>
  have hin:1≤x.k∧x.k≤6:=by
   have:=zoy (k:=x.k)
   rw[hk]at this
   exact of_decide_eq_true this.symm
  obtain⟨bs,rfl,hsb⟩:=hsl l hk
  have hll:=zpU hk
  have har:∀{wz:Wl},zl [] wx wz→zO wz 137 3 (zel bo bn) (.slice (some ⟨bs,0,none⟩) (l.map (zel bo bn)).length (l.map (zel bo bn)).length) l:=fun hz=>by
   rw[List.length_map]
   exact zO.of_blk (zli bo bn) (zrU bo bn) (hsb.chg0 hz) (by simp[maxLen];omega)
  by_cases hb:x=yz x
  ·have hsame:∀{wz},zl [] wx wz→zL TP 58 #[.agg (evC x e).toArray,.agg (evC (yz x) (zbJ x e)).toArray] wz fun r w'=>r=.bool true∧zl [] wz w':=fun hz=>by
    have:=zoa e (zbJ x e) x (yz x) _ (hxx.chg0 hz) (zkf (hxx.chg0 hz)) hm (znQ hm)
    rw[dt hb]at this
    exact this
   have hcf:∀{wz},zl [] wx wz→zL TP 60 #[.slice (some ⟨bs,0,none⟩) (l.map (zel bo bn)).length (l.map (zel bo bn)).length,.func (.func 61) #[] #[Pt b1]] wz fun r w'=>r=.bool (!zei x)∧zl [] wz w':=fun hz=>by
    have:=zsz (zli bo bn) _ l (fun j => !zjf x j) 61 [Pt b1] _ (har hz) (by omega) zzT (fun j _ w1 h1=>zoX bo bn j b1 (hEx.chg0 (hz.trans h1)) (hxx.chg0 (hz.trans h1)) hm (k1.chg0 (hz.trans h1)) (hbo.chg0 (hz.trans h1)) (hbn.chg0 (hz.trans h1)))
    rw[zqa hk]at this
    exact this
   cases hmay:zei x with
   |false=>
    have hr:z9 x=false:=by
     cases hr:z9 x with
     |false=>rfl
     |true=>rw[(zeA hr).2.2.1]at hmay;cases hmay
    refine zN (fun wz=>zl [] wx wz) mix (zf9 (by kernel_rfl)) hd ?_
    refine Tm U (Tp (fun _=>zE U) U (Tm U (Ts U U (fun wz hz=>zg zaI yy U U (zB.of_blk0 (k1.chg0 hz))) U (Ts U U (fun wz hz=>zg zaI yy U U (zB.of_blk0 (k1.chg0 hz))) U ?_))))
    refine Tv U U zss U U U (zgQ e x _ (hxx.chg0 hd)) ?_
    rintro v17 w17⟨rfl,c17⟩
    refine⟨.inl (hd.trans c17),?_⟩
    refine Tv U U zrt U U U (hsame (hd.trans c17)) ?_
    rintro v18 w18⟨rfl,c18⟩
    refine⟨.inl ((hd.trans c17).trans c18),?_⟩
    refine Tg U U (fun _=>zE U) U (Tp (fun _=>zR U U) U (Tm U (Tq U U U (Tg U U (fun _=>y9 U U) U ?_))))
    refine Tv U U ztI U U U (hcf ((hd.trans c17).trans c18)) ?_
    rintro v24 w24⟨e24,c24⟩
    rw[hmay]at e24
    subst e24
    refine⟨.inl (((hd.trans c17).trans c18).trans c24),?_⟩
    refine Tp (fun _=>zR U U) U (Tm U (Tz U U (Tz U U (Tz U U (Tz U U ?_)))))
    refine yK U U U U U ?_
    refine yK U U U U U ?_
    refine yK U U U U U ?_
    refine yK U U U U U ?_
    refine yK U U U U U ?_
    refine yK U U U U U ?_
    refine yK U U U U U ?_
    refine Tz U U (Tp (fun _=>zW U U) U (D1 39 U (zf U (Sr (Oa U (E1 2 U (zh ?_)))))))
    repeat first|refine tr ?_|refine br ?_
    refine zx U U ?_
    exact fin (b:=false) hr.symm (((hd.trans c17).trans c18).trans c24)
   |true=>
    by_cases h2:x.k=2
    ·by_cases hl:x.o.length=x.w.length
     ·have hr:z9 x=true:=zcV hin hb hmay fun _=>hl
      refine zN (fun wz=>zl [] wx wz) mix (zf9 (by kernel_rfl)) hd ?_
      refine Tm U (Tp (fun _=>zE U) U (Tm U (Ts U U (fun wz hz=>zg zaI yy U U (zB.of_blk0 (k1.chg0 hz))) U (Ts U U (fun wz hz=>zg zaI yy U U (zB.of_blk0 (k1.chg0 hz))) U ?_))))
      refine Tv U U zss U U U (zgQ e x _ (hxx.chg0 hd)) ?_
      rintro v17 w17⟨rfl,c17⟩
      refine⟨.inl (hd.trans c17),?_⟩
      refine Tv U U zrt U U U (hsame (hd.trans c17)) ?_
      rintro v18 w18⟨rfl,c18⟩
      refine⟨.inl ((hd.trans c17).trans c18),?_⟩
      refine Tg U U (fun _=>zE U) U (Tp (fun _=>zR U U) U (Tm U (Tq U U U (Tg U U (fun _=>y9 U U) U ?_))))
      refine Tv U U ztI U U U (hcf ((hd.trans c17).trans c18)) ?_
      rintro v24 w24⟨e24,c24⟩
      rw[hmay]at e24
      subst e24
      refine⟨.inl (((hd.trans c17).trans c18).trans c24),?_⟩
      refine Tp (fun _=>zR U U) U (Tm U (Tg U U (fun _=>ze za5 U) U (Ts U U (fun wz hz=>zj zee U ((k1.chg0 hz).cell' (i:=0) U)) U (Tg U U (fun _=>vt (zA U U) (dt h2)) U (Tq U U U (Tg U U (fun _=>ze za0 U) U (Ts U U (fun wz hz=>zj zbA U ((k1.chg0 hz).cell' ho)) U (Tg U U (fun _=>z5 zbn U) U ?_))))))))
      refine Tg U U (fun _=>ze zbu U) U (Ts U U (fun wz hz=>zj zbA U ((k1.chg0 hz).cell' hn)) U (Tg U U (fun _=>z5 zbn U) U ?_))
      refine Tg U U (fun _=>vf (zZ U U) (zb6 (by omega))) U ?_
      refine Tg U U (fun _=>zW U U) U (Tp (fun _=>zR U U) U (D1 39 U (zb U (zk (Sr (Oa U (E1 2 U (zh ?_))))))))
      refine zx U U ?_
      exact fin (b:=true) hr.symm (((hd.trans c17).trans c18).trans c24)
     have hr:z9 x=false:=by
      cases hr:z9 x with
      |false=>rfl
      |true=>exact absurd ((zeA hr).2.2.2 h2) hl
     refine zN (fun wz=>zl [] wx wz) mix (zf9 (by kernel_rfl)) hd ?_
     refine Tm U (Tp (fun _=>zE U) U (Tm U (Ts U U (fun wz hz=>zg zaI yy U U (zB.of_blk0 (k1.chg0 hz))) U (Ts U U (fun wz hz=>zg zaI yy U U (zB.of_blk0 (k1.chg0 hz))) U ?_))))
     refine Tv U U zss U U U (zgQ e x _ (hxx.chg0 hd)) ?_
     rintro v17 w17⟨rfl,c17⟩
     refine⟨.inl (hd.trans c17),?_⟩
     refine Tv U U zrt U U U (hsame (hd.trans c17)) ?_
     rintro v18 w18⟨rfl,c18⟩
     refine⟨.inl ((hd.trans c17).trans c18),?_⟩
     refine Tg U U (fun _=>zE U) U (Tp (fun _=>zR U U) U (Tm U (Tq U U U (Tg U U (fun _=>y9 U U) U ?_))))
     refine Tv U U ztI U U U (hcf ((hd.trans c17).trans c18)) ?_
     rintro v24 w24⟨e24,c24⟩
     rw[hmay]at e24
     subst e24
     refine⟨.inl (((hd.trans c17).trans c18).trans c24),?_⟩
     refine Tp (fun _=>zR U U) U (Tm U (Tg U U (fun _=>ze za5 U) U (Ts U U (fun wz hz=>zj zee U ((k1.chg0 hz).cell' (i:=0) U)) U (Tg U U (fun _=>vt (zA U U) (dt h2)) U (Tq U U U (Tg U U (fun _=>ze za0 U) U (Ts U U (fun wz hz=>zj zbA U ((k1.chg0 hz).cell' ho)) U (Tg U U (fun _=>z5 zbn U) U ?_))))))))
     refine Tg U U (fun _=>ze zbu U) U (Ts U U (fun wz hz=>zj zbA U ((k1.chg0 hz).cell' hn)) U (Tg U U (fun _=>z5 zbn U) U ?_))
     refine Tg U U (fun _=>vt (zZ U U) (zet (by omega))) U ?_
     refine Tg U U (fun _=>zW U U) U (Tp (fun _=>zR U U) U (D1 39 U (zf U (Sr (Oa U (E1 2 U (zh ?_)))))))
     repeat first|refine tr ?_|refine br ?_
     refine zx U U ?_
     exact fin (b:=false) hr.symm (((hd.trans c17).trans c18).trans c24)
    have hr:z9 x=true:=zcV hin hb hmay fun h=>absurd h h2
    refine zN (fun wz=>zl [] wx wz) mix (zf9 (by kernel_rfl)) hd ?_
    refine Tm U (Tp (fun _=>zE U) U (Tm U (Ts U U (fun wz hz=>zg zaI yy U U (zB.of_blk0 (k1.chg0 hz))) U (Ts U U (fun wz hz=>zg zaI yy U U (zB.of_blk0 (k1.chg0 hz))) U ?_))))
    refine Tv U U zss U U U (zgQ e x _ (hxx.chg0 hd)) ?_
    rintro v17 w17⟨rfl,c17⟩
    refine⟨.inl (hd.trans c17),?_⟩
    refine Tv U U zrt U U U (hsame (hd.trans c17)) ?_
    rintro v18 w18⟨rfl,c18⟩
    refine⟨.inl ((hd.trans c17).trans c18),?_⟩
    refine Tg U U (fun _=>zE U) U (Tp (fun _=>zR U U) U (Tm U (Tq U U U (Tg U U (fun _=>y9 U U) U ?_))))
    refine Tv U U ztI U U U (hcf ((hd.trans c17).trans c18)) ?_
    rintro v24 w24⟨e24,c24⟩
    rw[hmay]at e24
    subst e24
    refine⟨.inl (((hd.trans c17).trans c18).trans c24),?_⟩
    refine Tp (fun _=>zR U U) U (Tm U (Tg U U (fun _=>ze za5 U) U (Ts U U (fun wz hz=>zj zee U ((k1.chg0 hz).cell' (i:=0) U)) U (Tg U U (fun _=>vf (zA U U) (df h2)) U (Tq U U U (Tz U U (Tz U U (Tz U U (Tz U U (Tz U U (Tz U U (Tz U U (Tg U U (fun _=>zR U U) U (Tp (fun _=>zR U U) U (D1 39 U ?_)))))))))))))))
    refine zb U (zk (Sr (Oa U (E1 2 U (zh ?_)))))
    refine zx U U ?_
    exact fin (b:=true) hr.symm (((hd.trans c17).trans c18).trans c24)
  have hr:z9 x=false:=by
   cases hr:z9 x with
   |false=>rfl
   |true=>exact absurd (zeA hr).2.1 hb
  refine zN (fun wz=>zl [] wx wz) mix (zf9 (by kernel_rfl)) hd ?_
  refine Tm U (Tp (fun _=>zE U) U (Tm U (Ts U U (fun wz hz=>zg zaI yy U U (zB.of_blk0 (k1.chg0 hz))) U (Ts U U (fun wz hz=>zg zaI yy U U (zB.of_blk0 (k1.chg0 hz))) U ?_))))
  refine Tv U U zss U U U (zgQ e x _ (hxx.chg0 hd)) ?_
  rintro v17 w17⟨rfl,c17⟩
  refine⟨.inl (hd.trans c17),?_⟩
  refine Tv U U zrt U U U (zoa e (zbJ x e) x (yz x) _ (hxx.chg0 (hd.trans c17)) (zkf (hxx.chg0 (hd.trans c17))) hm (znQ hm)) ?_
  rintro v18 w18⟨e18,c18⟩
  rw[df hb]at e18
  subst e18
  refine⟨.inl ((hd.trans c17).trans c18),?_⟩
  refine Tg U U (fun _=>zE U) U (Tp (fun _=>zR U U) U (Tm U (Tz U U (Tz U U (Tz U U (Tp (fun _=>zW U U) U (Tm U (Tz U U (Tz U U (Tz U U (Tz U U ?_)))))))))))
  refine yK U U U U U ?_
  refine yK U U U U U ?_
  refine yK U U U U U ?_
  refine yK U U U U U ?_
  refine yK U U U U U ?_
  refine yK U U U U U ?_
  refine yK U U U U U ?_
  refine Tz U U (Tp (fun _=>zW U U) U (D1 39 U (zf U (Sr (Oa U (E1 2 U (zh ?_)))))))
  repeat first|refine tr ?_|refine br ?_
  refine zx U U ?_
  exact fin (b:=false) hr.symm ((hd.trans c17).trans c18)
section
variable {c:Cat} {x:EvT} {t:Tb}
theorem zeM(hr:z9 x=true)(hk:x.k=1∨x.k=2∨x.k=3):doE c x=match atC c x.t with|none=>5|some t=>zbI t x:=by
 have h4:x.k≠4:=by omega
 have h5:x.k≠5:=by omega
 have h6:x.k≠6:=by omega
 unfold doE
 rw[if_neg (by simp[hr]),if_neg h6]
 cases atC c x.t with
 |none=>exact if_neg h4
 |some t=>exact(if_neg h4).trans (if_neg h5)
theorem zs8(he:zbI t x≠0):zci t x=t.r:=by
 unfold zbI at he
 unfold zci
 split
 ·rename_i h1
  rw[if_pos h1]at he
  exact zt0 he
 rename_i h1
 rw[if_neg h1]at he
 split
 ·rfl
 rename_i h2
 rw[if_neg h2]at he
 split
 ·rename_i h3
  rw[if_pos h3]at he
  exact absurd U he
 rename_i h3
 rw[if_neg h3]at he
 exact zsN he
theorem ztq(hs:zd2 c)(hr:z9 x=true)(hk:x.k=1∨x.k=2∨x.k=3)(ht:atC c x.t=some t):doC c x=zaD c ⟨t.n,t.s,zci t x⟩:=by
 have h4:x.k≠4:=by omega
 have h5:x.k≠5:=by omega
 have h6:x.k≠6:=by omega
 have he:doE c x=zbI t x:=by rw[zeM hr hk,ht]
 unfold doC
 by_cases h0:doE c x=0
 ·rw[if_neg (by simp[h0]),if_neg h6,if_neg h4,if_neg h5,ht]
 rw[if_pos h0,zs8 (by rw[←he];exact h0)]
 exact(zo2 hs (zbR ht).1).symm
theorem zoM(h:doE c x≠0):doC c x=c:=by unfold doC;rw[if_pos h]
end
def DoR(w:Wl)(p:Nat)(own:List Nat)(c:Cat)(x:EvT)(r:Va)(w':Wl):Prop:=
 ze7 w' r (doE c x)∧zl own w w'∧∃own',zaj w' p own' (doC c x)∧∀b∈own',b∈own∨w.heap.size≤b
section
variable {w w':Wl} {p m:Nat} {L:List CE} {c:Cat} {x:EvT} {y:CE} {e:EvV} {r:Va} {n:By}
theorem zev(h:zY zbo w m (L.map CE.en))(hf:yB L n=none):zL TP 47 #[.map (some m),.string n] w fun r w'=>r=.tuple #[.pointer none,.bool false]∧w'=w:=by
 have:=zlw m _ n w h
 rw[zaO,hf]at this
 exact this
theorem zec(h:zY zbo w m (L.map CE.en))(hf:yB L n=some y):zL TP 47 #[.map (some m),.string n] w fun r w'=>r=.tuple #[y.pt,.bool true]∧w'=w:=by
 have:=zlw m _ n w h
 rw[zaO,hf]at this
 exact this
theorem zid(k:By)(n:Int)(w:Wl):za1 w (.iface 199 (.agg #[.string k,zcx n])) n:=.inr (.inr (.inr ⟨k,rfl⟩))
theorem DoR.no(h:zcA w' p m L c)(hc:zl [] w w'){z:Int}(hz:doE c x=z)(h0:z≠0)(he:za1 w' r z):DoR w p (p::m::owL L) c x r w':=by
 subst hz
 refine⟨.inr ⟨he,h0⟩,hc.any,p::m::owL L,?_,fun b hb=>.inl hb⟩
 rw[zoM h0]
 exact⟨m,L,U,h⟩
theorem DoR.row{w1:Wl}(h:zcA w1 p m L c)(hc:zl [] w w1)(hr:z9 x=true)(hk:x.k=1∨x.k=2∨x.k=3)(hf:yB L x.t=some y){w2:Wl}(h2:yw w2 y.q y.ow y.s (zci y.tb x))(hc2:zl y.ow w1 w2)(hc3:zl [] w2 w')(he:ze7 w' r (zbI y.tb x)) :
 DoR w p (p::m::owL L) c x r w':=by
 obtain⟨hy,hn⟩:=yX hf
 have hat:atC c x.t=some y.tb:=by rw[h.l.at,hf];rfl
 have hs:∀b∈y.ow,b∈p::m::owL L:=fun b hb=>List.mem_cons_of_mem _ (List.mem_cons_of_mem _ (zaW.2 ⟨y,hy,hb⟩))
 refine⟨?_,(hc.any.trans' hc2 (fun k hk=>.inl (hs k hk))).trans hc3,p::m::owL L,?_,fun b hb=>.inl hb⟩
 ·rw[zeM hr hk,hat]
  exact he
 rw[ztq h.l.ok.srt hr hk hat]
 exact(h.turn hy hc2 h2).chg0 hc3
theorem zo5(hE:EOk w)(h:zcA w p m L c)(hx:za7 w e x)(hm:zce x)(hr:z9 x=true)(hk:x.k=1) :
 zL TP 63 #[Pt p,.agg (evC x e).toArray] w (DoR w p (p::m::owL L) c x):=by
 refine A2 Tryz.func63 U U ?_
 refine Sr ?_
 refine Ob U U ?_
 intro b3 w3 e3 n3 c3 k3
 refine Oa U (E2 0 3 U ?_)
 have k3:zK w3 b3 39 (evC x e):=k3
 have h3:=h.chg0 c3
 have hd:zl [] w3 w3.drew:=zl.drew [] _
 refine zd ?_
 cases hf:yB L x.t with
 |none=>
  refine zN (fun wz=>zl [] w3 wz) mix (by kernel_rfl) hd ?_
  refine Tm U (Tp (fun _=>zp U) U (Td zat U (Tr (fun wz hz=>zj zdu U ((h3.blk.chg0 hz).cell' (i:=0) U)) U (Td yg U (Tr (fun wz hz=>zj ag9 U ((k3.chg0 hz).cell' (i:=1) U)) U ?_)))))
  refine Tc zhN U U U (zev (h3.map.chg0 hd) hf) ?_
  rintro v14 w14⟨rfl,rfl⟩
  refine⟨.inl hd,?_⟩
  refine Tm U (Tp (fun _=>zJ U U) U (Tp (fun _=>zJ U U) U (Ta U (Ta U (D3 3 5 6 U (zd (Sr (Om U (Og (zE U) U (E3 3 5 18 U (zf U (Sr (Od yg U ?_)))))))))))))
  refine Ol ag9 U ((k3.chg0 hd).cell' (i:=1) U) (Og (zS zcX U) U ?_)
  refine Og (zC zeW zeY U (vs:=[_,_]) U (css:=[_,_]) ⟨U,U,trivial⟩ U U (cs:=[_,_]) U) U ?_
  refine Og (zS zeU U) U (Oa U (E1 4 U (zh ?_)))
  repeat first|refine tr ?_|refine br ?_
  refine zx U U ?_
  exact DoR.no (h3.chg0 hd) (c3.trans hd) (by rw[zeM hr (.inl hk),h.l.at,hf];rfl) (by decide) (zid _ _ _)
 |some y=>
  refine zN (fun wz=>zl [] w3 wz) mix (by kernel_rfl) hd ?_
  refine Tm U (Tp (fun _=>zp U) U (Td zat U (Tr (fun wz hz=>zj zdu U ((h3.blk.chg0 hz).cell' (i:=0) U)) U (Td yg U (Tr (fun wz hz=>zj ag9 U ((k3.chg0 hz).cell' (i:=1) U)) U ?_)))))
  refine Tc zhN U U U (zec (h3.map.chg0 hd) hf) ?_
  rintro v14 w14⟨rfl,rfl⟩
  refine⟨.inl hd,?_⟩
  refine Tm U (Tp (fun _=>zJ U U) U (Tp (fun _=>zJ U U) U (Ta U (Ta U (D3 3 5 6 U ?_)))))
  obtain⟨hy,hn⟩:=yX hf
  generalize hw4:w3.drew=w4 at *
  have k4:=k3.chg0 hd
  have h4:=h3.chg0 hd
  have c4:=c3.trans hd
  have hd4:zl y.ow w4 w4.drew:=zl.drew _ _
  have hb3:b3∉y.ow:=fun hb=>by
   have:=(h.l.tabs y hy).lt b3 hb
   omega
  refine zd (Sr (Om U (Og (zE U) U (E3 3 5 18 U (zb U (zk (zd ?_)))))))
  refine zN (fun wz=>zl y.ow w4 wz) mix (by kernel_rfl) hd4 ?_
  refine Td yg U (Tr (fun wz hz=>zj ag9 U ((k4.chg hz hb3).cell' (i:=1) U)) U (Tm U (Td zbu U (Tr (fun wz hz=>zj zbA U ((k4.chg hz hb3).cell' (i:=6) U)) U ?_))))
  refine Tc zzS U U U (zsu y.q y.ow y.s y.r e.n x.w _ ((hE.chg0 c4).chg0 (zl.drew [] _)) ((h4.l.tabs y hy).chg0 (zl.drew [] _)) (zO.chg0 (zO.chg0 hx.new c4) (zl.drew [] _)) hx.rw hm.w) ?_
  rintro v29 w29⟨rfl,ht,c29⟩
  refine⟨.inl (hd4.transS c29),?_⟩
  refine Tc zn2 U U U (zeC x.t _ _) ?_
  rintro v30 w30⟨he,c30⟩
  refine⟨.inl ((hd4.transS c29).trans c30),?_⟩
  refine Ta U (D1 4 U (zh ?_))
  refine zx U U ?_
  refine DoR.row h4 c4 hr (.inl hk) hf (w2:=w29) ?_ (hd4.transS c29) c30 ?_
  ·unfold zci
   rw[if_pos hk]
   exact ht
  unfold zbI
  rw[if_pos hk]
  exact he
end
section
variable {w w':Wl} {p m:Nat} {L:List CE} {c:Cat} {x:EvT} {y:CE} {e:EvV} {r:Va} {n:By}
theorem znG(h:zcA w p m L c)(hf:yB L x.t=none) :
 zL TP 108 #[Pt p,.agg (evC x e).toArray] w fun r w'=>(∃v,r=.tuple #[.pointer none,.string e0,v]∧za1 w' v 5∧zgF v=some false)∧zl [] w w':=by
 refine A2 Tryz.func108 U U ?_
 refine Sr ?_
 refine Ob U U ?_
 intro b3 w3 e3 n3 c3 k3
 refine Oa U (Oa U (Oa U (E2 0 3 U ?_)))
 have k3:zK w3 b3 39 (evC x e):=k3
 have h3:=h.chg0 c3
 have hd:zl [] w3 w3.drew:=zl.drew [] _
 refine zd ?_
 refine zN (fun wz=>zl [] w3 wz) mix (by kernel_rfl) hd ?_
 refine Tm U (Tp (fun _=>zp U) U (Td zat U (Tr (fun wz hz=>zj zdu U ((h3.blk.chg0 hz).cell' (i:=0) U)) U (Td yg U (Tr (fun wz hz=>zj ag9 U ((k3.chg0 hz).cell' (i:=1) U)) U ?_)))))
 refine Tc zhN U U U (zev (h3.map.chg0 hd) hf) ?_
 rintro v20 w20⟨rfl,rfl⟩
 refine⟨.inl hd,?_⟩
 refine Tm U (Tp (fun _=>zJ U U) U (Tp (fun _=>zJ U U) U (Ta U (Ta U (D3 3 7 8 U ?_)))))
 have k4:=k3.chg0 hd
 have c4:=c3.trans hd
 generalize w3.drew=w4 at *
 have hd4:zl [] w4 w4.drew:=zl.drew [] _
 refine zd (Sr (Om U (Og (zE U) U (E3 3 7 24 U (zf U (zd ?_))))))
 refine zN (fun wz=>zl [] w4 wz) mix (by kernel_rfl) hd4 ?_
 refine Td yg U (Tr (fun wz hz=>zj ag9 U ((k4.chg0 hz).cell' (i:=1) U)) U (Tp (fun _=>zS zcX U) U ?_))
 refine Tp (fun _=>zC zeW zeY U (vs:=[_,_]) U (css:=[_,_]) ⟨U,U,trivial⟩ U U (cs:=[_,_]) U) U ?_
 refine Tp (fun _=>zS zeU U) U (Ta U (Ta U (Ta U (D3 4 5 6 U (zh ?_)))))
 repeat first|refine tr ?_|refine br ?_
 refine zgh U U U U ?_
 exact⟨⟨_,U,zid _ _ _,U⟩,c4.trans hd4⟩
def zyh(y:CE)(x:EvT)(r:Va)(w':Wl):Prop:=
 (zd5 y.tb x.o=true∧r=.tuple #[y.pt,.string (zV y.s x.o),.nilIface])∨(zd5 y.tb x.o=false∧∃v,r=.tuple #[.pointer none,.string e0,v]∧za1 w' v 230∧zgF v=some false)
theorem zoH(hE:EOk w)(h:zcA w p m L c)(hx:za7 w e x)(hm:zce x)(hf:yB L x.t=some y) :
 zL TP 108 #[Pt p,.agg (evC x e).toArray] w fun r w'=>zyh y x r w'∧zl [] w w':=by
 obtain⟨hy,hn⟩:=yX hf
 refine A2 Tryz.func108 U U ?_
 refine Sr ?_
 refine Ob U U ?_
 intro b3 w3 e3 n3 c3 k3
 refine Oa U (Oa U (Oa U (E2 0 3 U ?_)))
 have k3:zK w3 b3 39 (evC x e):=k3
 have h3:=h.chg0 c3
 have hd:zl [] w3 w3.drew:=zl.drew [] _
 refine zd ?_
 refine zN (fun wz=>zl [] w3 wz) mix (by kernel_rfl) hd ?_
 refine Tm U (Tp (fun _=>zp U) U (Td zat U (Tr (fun wz hz=>zj zdu U ((h3.blk.chg0 hz).cell' (i:=0) U)) U (Td yg U (Tr (fun wz hz=>zj ag9 U ((k3.chg0 hz).cell' (i:=1) U)) U ?_)))))
 refine Tc zhN U U U (zec (h3.map.chg0 hd) hf) ?_
 rintro v20 w20⟨rfl,rfl⟩
 refine⟨.inl hd,?_⟩
 refine Tm U (Tp (fun _=>zJ U U) U (Tp (fun _=>zJ U U) U (Ta U (Ta U (D3 3 7 8 U ?_)))))
 have k4:=k3.chg0 hd
 have c4:=c3.trans hd
 generalize w3.drew=w4 at *
 obtain⟨pm,cc,ck,cu,sv,xs,main,subs,-,tm,tt⟩:=(h.l.tabs y hy).chg0 c4
 have hok:=tt.ok
 have ho4:yn w4 e.o x.o:=zO.chg0 hx.old c4
 refine zd (Sr (Om U (Og (zE U) U (E3 3 7 24 U (zb U (zk (Sr (Om U (Od za0 U (Ol zbA U (k4.cell' (i:=5) U) ?_))))))))))
 refine Oc zxJ U U U (zx3 e.o x.o _ (hE.chg0 c4) tm tt ho4 hx.ro hm.o) ?_
 rintro v34 w34⟨rfl,c34⟩
 refine Om U (Oe U U (Oe U U (Oa U (Oa U (E4 3 7 9 10 U ?_)))))
 have k5:=k4.chg0 c34
 refine zd ?_
 generalize hkk:(if zai y.s x.o=0 then zV y.s x.o else e0)=kk
 refine za (Om U (Om U ?_))
 refine Oc ztj U U U (znS kk _ (tm.chg0 c34) tt) ?_
 rintro v40 w40⟨vo,rfl,hvo,-,c40⟩
 refine Om U (Oe U U (Oe U U (Oa U (Oa U (E6 3 7 9 10 11 12 U ?_)))))
 have k6:=k5.chg0 c40
 have c6:=(c4.trans c34).trans c40
 have hno:∀{wy:Wl},zl [] w wy→zd5 y.tb x.o=false→∀v,za1 wy v 230→zgF v=some false→(zyh y x (.tuple #[.pointer none,.string e0,v]) wy∧zl [] w wy):=fun hc h1 v h2 h3=>⟨.inr ⟨h1,v,rfl,h2,h3⟩,hc⟩
 refine zd (zd ?_)
 by_cases hrow:zai y.s x.o=0
 ·rw[if_pos hrow]at hkk
  subst hkk
  cases hg:zbN y.s y.r (zV y.s x.o) with
  |none=>
   have hold:zd5 y.tb x.o=false:=by
    show (decide (zai y.s x.o=0) && decide (zbN y.s y.r (zV y.s x.o)=some x.o))=false
    rw[hg];simp
   refine za (Om U (Og (vf (zZ U U) (zb6 hrow)) U (Om U (Oj U U (Oy U U (zE U) (Of U (Om U (Oz U U (Oz U U (Oz U U (Oz U U (Oz U U (Ot U (E4 3 7 9 55 U (zf U ?_)))))))))))))))
   have hd6:zl [] w40 w40.drew:=zl.drew [] _
   refine zd ?_
   refine zN (fun wz=>zl [] w40 wz) mix (by kernel_rfl) hd6 ?_
   refine Td yg U (Tr (fun wz hz=>zj ag9 U ((k6.chg0 hz).cell' (i:=1) U)) U (Tp (fun _=>zS zcX U) U ?_))
   refine Tp (fun _=>zC zeW zeY U (vs:=[_,_]) U (css:=[_,_]) ⟨U,U,trivial⟩ U U (cs:=[_,_]) U) U ?_
   refine Tp (fun _=>zS zeU U) U (Ta U (Ta U (Ta U (D3 4 5 6 U (zh ?_)))))
   repeat first|refine tr ?_|refine br ?_
   refine zgh U U U U ?_
   exact hno (c6.trans hd6) hold _ (zid _ _ _) U
  |some row=>
   have hrl:row.length≤1048576:=by
    have h1:=(z6 hok.right).1
    have h2:=(zaU (hok.fit row (zbY hg).1)).2.1
    omega
   rw[hg]at hvo
   by_cases he:row=x.o
   ·have hold:zd5 y.tb x.o=true:=by
     show (decide (zai y.s x.o=0) && decide (zbN y.s y.r (zV y.s x.o)=some x.o))=true
     rw[hg,he];simp[hrow]
    refine za (Om U (Og (vf (zZ U U) (zb6 hrow)) U (Om U (Oj U U (Oy U U (zE U) (Of U (Om U (Oj U U (Oy U U (ze za0 U) (Oy U U (zj zbA U (k6.cell' (i:=5) U)) ?_))))))))))
    refine Ow U U zqH U U U (zku vo e.o row x.o _ hvo.arr (zO.chg0 ho4 (c34.trans c40)) hrl hm.o) ?_
    rintro v53 w53⟨e53,c53⟩
    rw[dt he]at e53
    subst e53
    refine Oy U U (zE U) (Of U (E4 3 7 9 55 U (zb U (zk (Sr (Om U (Om U (Oa U (Oa U (Oa U (E3 4 5 6 U (zh ?_))))))))))))
    refine zgh U U U U ?_
    exact⟨.inl ⟨hold,U⟩,c6.trans c53⟩
   have hold:zd5 y.tb x.o=false:=by
    show (decide (zai y.s x.o=0) && decide (zbN y.s y.r (zV y.s x.o)=some x.o))=false
    rw[hg];simp[he]
   refine za (Om U (Og (vf (zZ U U) (zb6 hrow)) U (Om U (Oj U U (Oy U U (zE U) (Of U (Om U (Oj U U (Oy U U (ze za0 U) (Oy U U (zj zbA U (k6.cell' (i:=5) U)) ?_))))))))))
   refine Ow U U zqH U U U (zku vo e.o row x.o _ hvo.arr (zO.chg0 ho4 (c34.trans c40)) hrl hm.o) ?_
   rintro v53 w53⟨e53,c53⟩
   rw[df he]at e53
   subst e53
   refine Oy U U (zE U) (Of U (E4 3 7 9 55 U (zf U ?_)))
   have hd6:zl [] w53 w53.drew:=zl.drew [] _
   refine zd ?_
   refine zN (fun wz=>zl [] w53 wz) mix (by kernel_rfl) hd6 ?_
   refine Td yg U ?_
   refine Tr (fun wz hz=>zj ag9 U (((k6.chg0 c53).chg0 hz).cell' (i:=1) U)) U ?_
   refine Tp (fun _=>zS zcX U) U ?_
   refine Tp (fun _=>zC zeW zeY U (vs:=[_,_]) U (css:=[_,_]) ⟨U,U,trivial⟩ U U (cs:=[_,_]) U) U ?_
   refine Tp (fun _=>zS zeU U) U (Ta U (Ta U (Ta U (D3 4 5 6 U (zh ?_)))))
   repeat first|refine tr ?_|refine br ?_
   refine zgh U U U U ?_
   exact hno ((c6.trans c53).trans hd6) hold _ (zid _ _ _) U
 have hold:zd5 y.tb x.o=false:=by
  show (decide (zai y.s x.o=0) && decide (zbN y.s y.r (zV y.s x.o)=some x.o))=false
  simp[hrow]
 refine za (Om U (Og (vt (zZ U U) (zet hrow)) U (Om U (Oz U U (Oz U U (Ot U (Om U (Oz U U (Oz U U (Oz U U (Oz U U (Oz U U (Ot U (E4 3 7 9 55 U (zf U ?_)))))))))))))))
 have hd6:zl [] w40 w40.drew:=zl.drew [] _
 refine zd ?_
 refine zN (fun wz=>zl [] w40 wz) mix (by kernel_rfl) hd6 ?_
 refine Td yg U (Tr (fun wz hz=>zj ag9 U ((k6.chg0 hz).cell' (i:=1) U)) U (Tp (fun _=>zS zcX U) U ?_))
 refine Tp (fun _=>zC zeW zeY U (vs:=[_,_]) U (css:=[_,_]) ⟨U,U,trivial⟩ U U (cs:=[_,_]) U) U ?_
 refine Tp (fun _=>zS zeU U) U (Ta U (Ta U (Ta U (D3 4 5 6 U (zh ?_)))))
 repeat first|refine tr ?_|refine br ?_
 refine zgh U U U U ?_
 exact hno (c6.trans hd6) hold _ (zid _ _ _) U
theorem zoC(hE:EOk w)(h:zcA w p m L c)(hx:za7 w e x)(hm:zce x)(hf:yB L x.t=some y)(ho:zd5 y.tb x.o=true) :
 zL TP 108 #[Pt p,.agg (evC x e).toArray] w fun r w'=>r=.tuple #[y.pt,.string (zV y.s x.o),.nilIface]∧zl [] w w':=
 (zoH hE h hx hm hf).mono fun r w' ⟨h1,h2⟩=>by
  rcases h1 with⟨_,h⟩|⟨h,_⟩
  ·exact⟨h,h2⟩
  rw[ho]at h;cases h
theorem znI(hE:EOk w)(h:zcA w p m L c)(hx:za7 w e x)(hm:zce x)(hf:yB L x.t=some y)(ho:zd5 y.tb x.o=false) :
 zL TP 108 #[Pt p,.agg (evC x e).toArray] w fun r w'=>(∃v,r=.tuple #[.pointer none,.string e0,v]∧za1 w' v 230∧zgF v=some false)∧zl [] w w':=
 (zoH hE h hx hm hf).mono fun r w' ⟨h1,h2⟩=>by
  rcases h1 with⟨h,_⟩|⟨_,h⟩
  ·rw[ho]at h;cases h
  exact⟨h,h2⟩
theorem zpo(hE:EOk w)(h:zcA w p m L c)(hx:za7 w e x)(hm:zce x)(hr:z9 x=true)(hk:x.k=2) :
 zL TP 64 #[Pt p,.agg (evC x e).toArray] w (DoR w p (p::m::owL L) c x):=by
 refine A2 Tryz.func64 U U ?_
 refine Sr ?_
 refine Ob U U ?_
 intro b3 w3 e3 n3 c3 k3
 refine Oa U (E2 0 3 U ?_)
 have k3:zK w3 b3 39 (evC x e):=k3
 have h3:=h.chg0 c3
 refine zd ?_
 cases hf:yB L x.t with
 |none=>
  refine za (Om U (Og (zg zaI yy U U (zB.of_blk0 k3)) U ?_))
  refine Oc zj9 U U U (znG h3 hf) ?_
  rintro v13 w13⟨⟨v,rfl,he,hv⟩,c13⟩
  refine Om U (Oe U U (Oe U U (Oe U U (Oa U (Oa U (Oa U (E4 3 5 6 7 U (zd (Sr (Om U (Og (zaE zbS U hv) U (E5 3 5 6 7 18 U (zf U (zd ?_))))))))))))))
  refine za (Om U (Oa U (E1 4 U (zh ?_))))
  repeat first|refine tr ?_|refine br ?_
  refine zx U U ?_
  exact DoR.no (h3.chg0 c13) (c3.trans c13) (by rw[zeM hr (.inr (.inl hk)),h.l.at,hf];rfl) (by decide) he
 |some y=>
  obtain⟨hy,hn⟩:=yX hf
  have hat:atC c x.t=some y.tb:=by rw[h.l.at,hf];rfl
  cases ho:zd5 y.tb x.o with
  |true=>
   refine za (Om U (Og (zg zaI yy U U (zB.of_blk0 k3)) U ?_))
   refine Oc zj9 U U U (zoC (hE.chg0 c3) h3 (hx.chg0 c3) hm hf ho) ?_
   rintro v13 w13⟨rfl,c13⟩
   refine Om U (Oe U U (Oe U U (Oe U U (Oa U (Oa U (Oa U (E4 3 5 6 7 U ?_)))))))
   have k4:=k3.chg0 c13
   have h4:=h3.chg0 c13
   have c4:=c3.trans c13
   have hb3:b3∉y.ow:=fun hb=>by
    have:=(h.l.tabs y hy).lt b3 hb
    omega
   refine zd (Sr (Om U (Og (zaE zbS U U) U (E5 3 5 6 7 18 U (zb U (zk (Sr (Om U (Om U (Od zbu U (Ol zbA U (k4.cell' (i:=6) U) ?_)))))))))))
   refine Oc zzH U U U (zrS y.q y.ow y.s y.r e.n x.w (zV y.s x.o) _ (hE.chg0 c4) (h4.l.tabs y hy) (zO.chg0 hx.new c4) hx.rw hm.w) ?_
   rintro v25 w25⟨o,rfl,-,-,ht,c25⟩
   refine Om U (Oe U U (Oe U U (Oa U (Oa U (E2 3 9 U (Sr (Od yg U (Ol ag9 U ((k4.chg c25 hb3).cell' (i:=1) U) (Om U ?_)))))))))
   refine Oc zn2 U U U (zeC x.t _ _) ?_
   rintro v31 w31⟨he,c31⟩
   refine Oa U (E1 4 U (zh ?_))
   refine zx U U ?_
   have h1:x.k≠1:=by omega
   have h3':x.k≠3:=by omega
   refine DoR.row h4 c4 hr (.inr (.inl hk)) hf (w2:=w25) ?_ c25 c31 ?_
   ·unfold zci
    rw[if_neg h1,if_neg (by simp[ho]),if_neg h3']
    exact ht
   unfold zbI
   rw[if_neg h1,if_neg (by simp[ho]),if_neg h3']
   exact he
  |false=>
   refine za (Om U (Og (zg zaI yy U U (zB.of_blk0 k3)) U ?_))
   refine Oc zj9 U U U (znI (hE.chg0 c3) h3 (hx.chg0 c3) hm hf ho) ?_
   rintro v13 w13⟨⟨v,rfl,he,hv⟩,c13⟩
   refine Om U (Oe U U (Oe U U (Oe U U (Oa U (Oa U (Oa U (E4 3 5 6 7 U (zd (Sr (Om U (Og (zaE zbS U hv) U (E5 3 5 6 7 18 U (zf U (zd ?_))))))))))))))
   refine za (Om U (Oa U (E1 4 U (zh ?_))))
   repeat first|refine tr ?_|refine br ?_
   refine zx U U ?_
   have h1:x.k≠1:=by omega
   exact DoR.no (h3.chg0 c13) (c3.trans c13) (by rw[zeM hr (.inr (.inl hk)),hat];show zbI y.tb x=230;unfold zbI;rw[if_neg h1,if_pos ho]) (by decide) he
theorem zoW(hE:EOk w)(h:zcA w p m L c)(hx:za7 w e x)(hm:zce x)(hr:z9 x=true)(hk:x.k=3) :
 zL TP 65 #[Pt p,.agg (evC x e).toArray] w (DoR w p (p::m::owL L) c x):=by
 refine A2 Tryz.func65 U U ?_
 refine Sr ?_
 refine Ob U U ?_
 intro b3 w3 e3 n3 c3 k3
 refine Oa U (E2 0 3 U ?_)
 have k3:zK w3 b3 39 (evC x e):=k3
 have h3:=h.chg0 c3
 refine zd ?_
 cases hf:yB L x.t with
 |none=>
  refine za (Om U (Og (zg zaI yy U U (zB.of_blk0 k3)) U ?_))
  refine Oc zj9 U U U (znG h3 hf) ?_
  rintro v13 w13⟨⟨v,rfl,he,hv⟩,c13⟩
  refine Om U (Oe U U (Oe U U (Oe U U (Oa U (Oa U (Oa U (E4 3 5 6 7 U (zd (Sr (Om U (Og (zaE zbS U hv) U (E5 3 5 6 7 18 U (zf U (zd ?_))))))))))))))
  refine za (Om U (Oa U (E1 4 U (zh ?_))))
  repeat first|refine tr ?_|refine br ?_
  refine zx U U ?_
  exact DoR.no (h3.chg0 c13) (c3.trans c13) (by rw[zeM hr (.inr (.inr hk)),h.l.at,hf];rfl) (by decide) he
 |some y=>
  obtain⟨hy,hn⟩:=yX hf
  have hat:atC c x.t=some y.tb:=by rw[h.l.at,hf];rfl
  cases ho:zd5 y.tb x.o with
  |true=>
   refine za (Om U (Og (zg zaI yy U U (zB.of_blk0 k3)) U ?_))
   refine Oc zj9 U U U (zoC (hE.chg0 c3) h3 (hx.chg0 c3) hm hf ho) ?_
   rintro v13 w13⟨rfl,c13⟩
   refine Om U (Oe U U (Oe U U (Oe U U (Oa U (Oa U (Oa U (E4 3 5 6 7 U ?_)))))))
   have k4:=k3.chg0 c13
   have h4:=h3.chg0 c13
   have c4:=c3.trans c13
   have hb3:b3∉y.ow:=fun hb=>by
    have:=(h.l.tabs y hy).lt b3 hb
    omega
   refine zd (Sr (Om U (Og (zaE zbS U U) U (E5 3 5 6 7 18 U (zb U (zk (Sr (Om U (Om U ?_)))))))))
   refine Oc zyZ U U U (zqT y.q y.ow y.s y.r (zV y.s x.o) _ (h4.l.tabs y hy)) ?_
   rintro v23 w23⟨o,rfl,-,-,ht,c23⟩
   refine Om U (Oe U U (Oe U U (Oa U (Oa U (E2 3 9 U (Sr (Od yg U (Ol ag9 U ((k4.chg c23 hb3).cell' (i:=1) U) (Om U ?_)))))))))
   refine Oc zn2 U U U (zeC x.t _ _) ?_
   rintro v29 w29⟨he,c29⟩
   refine Oa U (E1 4 U (zh ?_))
   refine zx U U ?_
   have h1:x.k≠1:=by omega
   refine DoR.row h4 c4 hr (.inr (.inr hk)) hf (w2:=w23) ?_ c23 c29 ?_
   ·unfold zci
    rw[if_neg h1,if_neg (by simp[ho]),if_pos hk]
    exact ht
   unfold zbI
   rw[if_neg h1,if_neg (by simp[ho]),if_pos hk]
   have hg:zbN y.s y.r (zV y.s x.o)=some x.o:=by
    have:(decide (zai y.s x.o=0) && decide (zbN y.s y.r (zV y.s x.o)=some x.o))=true:=ho
    simp only[Bool.and_eq_true,decide_eq_true_eq]at this
    exact this.2
   unfold zvi at he
   rw[hg]at he
   exact he
  |false=>
   refine za (Om U (Og (zg zaI yy U U (zB.of_blk0 k3)) U ?_))
   refine Oc zj9 U U U (znI (hE.chg0 c3) h3 (hx.chg0 c3) hm hf ho) ?_
   rintro v13 w13⟨⟨v,rfl,he,hv⟩,c13⟩
   refine Om U (Oe U U (Oe U U (Oe U U (Oa U (Oa U (Oa U (E4 3 5 6 7 U (zd (Sr (Om U (Og (zaE zbS U hv) U (E5 3 5 6 7 18 U (zf U (zd ?_))))))))))))))
   refine za (Om U (Oa U (E1 4 U (zh ?_))))
   repeat first|refine tr ?_|refine br ?_
   refine zx U U ?_
   have h1:x.k≠1:=by omega
   exact DoR.no (h3.chg0 c13) (c3.trans c13) (by rw[zeM hr (.inr (.inr hk)),hat];show zbI y.tb x=230;unfold zbI;rw[if_neg h1,if_pos ho]) (by decide) he
end
end Go.Wk
