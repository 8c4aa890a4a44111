/- joined texts -/
import Derived.Test.YtkfpmjjcogigfaaGreatDoorL12
set_option linter.all false
namespace Go.Wk
open Go.Proofs
set_option linter.unusedSectionVars false
variable [Lw]
set_option maxRecDepth 10000
def HmB(w:Wl)(b:Nat):Prop:=(∃p n c,zO w b 178 [.slice p n c])∨(∃a c,w.heap[b]?=some (.map a c))∨(∃v,zO w b 83 [.map v])∨∃p n c,zO w b 48 [.slice p n c]
def Hm(w:Wl)(S:List Nat):Prop:=∀b∈S,Lw.n≤b∧HmB w b
def okH(e:Nat):Bool := !Nat.beq e 178 && !Nat.beq e 83 && !Nat.beq e 48
section
variable {w w':Wl} {S:List Nat} {b:Nat}
theorem Hm.nil(w:Wl):Hm w []:=fun _ h=>by cases h
theorem Hm.cons(h:Hm w [b])(h2:Hm w S):Hm w (b::S):=fun x hx=>by
 rcases Mc hx with rfl|hx
 ·exact h x (by simp)
 exact h2 x hx
theorem Hm.chg0(h:Hm w S)(hc:zk [] w w'):Hm w' S:=fun b hb=>by
 refine⟨(h b hb).1,?_⟩
 rcases (h b hb).2 with⟨p,n,c,hx⟩|⟨a,c,hx⟩|⟨v,hx⟩|⟨p,n,c,hx⟩
 ·exact .inl ⟨p,n,c,hx.chg0 hc⟩
 ·exact .inr (.inl ⟨a,c,(hc.block b (Ga hx).1 (by simp)).trans hx⟩)
 ·exact .inr (.inr (.inl ⟨v,hx.chg0 hc⟩))
 exact .inr (.inr (.inr ⟨p,n,c,hx.chg0 hc⟩))
theorem Hm.pages(h:∀p∈S,∃p' n c',zO w p 178 [.slice p' n c'])(hg:∀p∈S,Lw.n≤p):Hm w S:=fun b hb=>⟨hg b hb,.inl (h b hb)⟩
theorem Hm.map{κ:ziY By}{es:List (By×Va)}(h:yf κ w b es)(hN:Lw.n≤b:=by omega):Hm w [b]:=fun x hx=>by
 simp at hx;subst hx
 obtain⟨a,c,h1,_⟩:=h
 exact⟨hN,.inr (.inl ⟨a,c,h1⟩)⟩
theorem Hm.cat{v:Option Nat}(h:zO w b 83 [.map v])(hN:Lw.n≤b:=by omega):Hm w [b]:=fun x hx=>by
 simp at hx;subst hx
 exact⟨hN,.inr (.inr (.inl ⟨v,h⟩))⟩
theorem Hm.rcat{p:Option Addr}{n c:Nat}(h:zO w b 48 [.slice p n c])(hN:Lw.n≤b:=by omega):Hm w [b]:=fun x hx=>by
 simp at hx;subst hx
 exact⟨hN,.inr (.inr (.inr ⟨p,n,c,h⟩))⟩
theorem Hm.ns(h:Hm w S):Ns w S:=fun b hb=>by
 refine⟨(h b hb).1,fun c e fr he=>?_⟩
 rcases (h b hb).2 with⟨p,n,c,hx⟩|⟨a,c,hx⟩|⟨v,hx⟩|⟨p,n,c,hx⟩
 ·exact(Ns.one hx U (h b hb).1 b (by simp)).2 _ _ _ he
 ·rw[hx]at he;cases he
 ·exact(Ns.one hx U (h b hb).1 b (by simp)).2 _ _ _ he
 exact(Ns.one hx U (h b hb).1 b (by simp)).2 _ _ _ he
theorem zO.hm{e:TypeId}{c:LA}(hb:zO w b e c)(h:Hm w S)(ho:okH e=true)(hc:zk S w w'):zO w' b e c:=by
 simp only[okH,Bool.and_eq_true,Bool.not_eq_true']at ho
 obtain⟨⟨o1,o2⟩,o3⟩:=ho
 refine hb.chg hc fun hm=>?_
 rcases (h b hm).2 with⟨p,n,c',hx⟩|⟨a,c',hx⟩|⟨v,hx⟩|⟨p,n,c',hx⟩
 ·exact hb.ne hx o1 U
 ·have:=(show w.heap[b]?=_ from hb).symm.trans hx
  cases this
 ·exact hb.ne hx o2 U
 exact hb.ne hx o3 U
theorem zB.hm{e k n:Nat}{v:Va}{xs:LA}(hs:zB w e k v n xs)(h:Hm w S)(ho:okH e=true)(hc:zk S w w'):zB w' e k v n xs:=by
 simp only[okH,Bool.and_eq_true,Bool.not_eq_true']at ho
 obtain⟨⟨o1,o2⟩,o3⟩:=ho
 refine hs.chg hc fun b hb hm=>?_
 rcases (h b hm).2 with⟨p,n,c',hx⟩|⟨a,c',hx⟩|⟨v,hx⟩|⟨p,n,c',hx⟩
 ·exact hs.apart hx o1 b hb (by simp)
 ·rcases hs with⟨rfl,_⟩|⟨b',off,cap,c,rfl,h2⟩
  ·simp[zu]at hb
  simp[zu]at hb
  subst hb
  have:=(show w.heap[b]?=_ from h2.blk).symm.trans hx
  cases this
 ·exact hs.apart hx o2 b hb (by simp)
 exact hs.apart hx o3 b hb (by simp)
theorem zai.hm{c k u:Va}{s:yK}(hs:zai w c k u s)(h:Hm w S)(hc:zk S w w'):zai w' c k u s:=hs.chgN hc h.ns
theorem yn.hm{α:Type}{f:α→LA}{e k:Nat}(h:Hm w S)(ho:okH e=true)(hc:zk S w w'):∀{vs:LA} {ls:List (List α)},yn w e k f vs ls→yn w' e k f vs ls
 |[],[],_=>trivial
 |_::_,_::_,g=>⟨zB.hm g.1 h ho hc,yn.hm h ho hc g.2⟩
theorem zam.hm{v:Va}{ls:LV}(hv:zam w v ls)(h:Hm w S)(hc:zk S w w'):zam w' v ls:=
 let ⟨vs,h1,h2⟩:=hv; ⟨vs,h1.hm h rfl hc,h2.hm h rfl hc⟩
theorem za3.hm{c k u o:Va}{s:yK}{rows:LV}(hr:za3 w c k u o s rows)(h:Hm w S)(hc:zk S w w'):za3 w' c k u o s rows:=⟨hr.sch.hm h hc,hr.rws.hm h hc,hr.ok,hr.nm⟩
theorem zbY.hm(h:Hm w S)(hc:zk S w w'):∀{vs:LA} {ls:LE},zbY w vs ls→zbY w' vs ls
 |[],[],_=>trivial
 |_::_,_::_,g=>⟨zB.hm g.1 h rfl hc,zbY.hm h hc g.2⟩
theorem Pg.hm{p:Nat}{ls:LE}(g:Pg w p ls)(hn:p∉S)(h:Hm w S)(hc:zk S w w'):Pg w' p ls:=
 let ⟨v,h1,us,h2,h3⟩:=g; ⟨v,h1.chg hc hn,us,h2.hm h rfl hc,h3.hm h hc⟩
theorem PgL.hm(h:Hm w S)(hc:zk S w w'):∀{ps:List Nat} {ms:List (LE)},(∀p∈ps,p∉S)→PgL w ps ms→PgL w' ps ms
 |[],[],_,_=>trivial
 |_::_,_::_,hn,g=>⟨Pg.hm g.1 (hn _ (by simp)) h hc,PgL.hm h hc (fun p hm=>hn p (by simp[hm])) g.2⟩
theorem zab.hm{t:Nat}{own:List Nat}{s:yK}{rows:LV}(g:zab w t own s rows)(hd:∀p∈own,p∉S)(h:Hm w S)(hc:zk S w w'):zab w' t own s rows:=by
 obtain⟨pm,c,k,u,sv,xs,main,subs,rfl,m,ht⟩:=g
 exact⟨pm,c,k,u,sv,xs,main,subs,rfl,⟨m.blk.hm h U hc,m.sch.hm h hc,Pg.hm m.pg (hd _ (by simp)) h hc,m.sl.hm h U hc,yn.hm h U hc m.ats,PgL.hm h hc (fun p hp=>hd p (by simp[hp])) m.pgs,m.nd,m.ge⟩,ht⟩
theorem EOk.hm(hE:EOk w)(h:Hm w S)(hc:zk S w w'):EOk w':=
 hE.chg hc fun hm=>by
  have hcell:∀{e:TypeId} {c:LA},zO w 0 e c→c[0]?≠some (rty 87)→False:=fun hb hne=>hE.ne hb hne rfl
  rcases (h 0 hm).2 with⟨p,n,c',hx⟩|⟨a,c',hx⟩|⟨v,hx⟩|⟨p,n,c',hx⟩
  ·exact hcell hx (by simp[rty])
  ·unfold EOk World.cell? at hE
   rw[hx]at hE
   simp at hE
  ·exact hcell hx (by simp[rty])
  exact hcell hx (by simp[rty])
end
def pcs(p:By×By):LA:=[.string p.1,.string p.2]
theorem zbu(p:By×By):(pcs p).length=2:=rfl
theorem zl4(p:By×By):∀u∈pcs p,u.oneCell'=true:=by intro u hu;simp[pcs]at hu;rcases hu with rfl|rfl<;>rfl
def zdm(w:Wl)(v:Va)(m:List (By×By)):Prop:=zN w 78 2 pcs v m
def zaV:Va:=.slice none 0 0
structure EvV where
 c:Va
 ky:Va
 u:Va
 o:Va
 n:Va
 m:Va
def evC(x:EvT)(e:EvV):LA:=[Ii x.k,.string x.t,e.c,e.ky,e.u,e.o,e.n,e.m]
theorem zjk(x:EvT)(e:EvV):(evC x e).length=8:=rfl
structure zbj(w:Wl)(e:EvV)(x:EvT):Prop where
 sch:zai w e.c e.ky e.u x.s
 old:ya w e.o x.o
 new:ya w e.n x.w
 nm:zdm w e.m x.m
 kr : -9223372036854775808≤x.k∧x.k≤9223372036854775807
 ro:∀y∈x.o,y.Rng
 rw:∀y∈x.w,y.Rng
structure zcY(x:EvT):Prop where
 s:x.s.Sm
 o:x.o.length≤1048576
 w:x.w.length≤1048576
 m:x.m.length≤1048576
 t:x.t.size≤1048576
 cn:∀c∈x.s.cols,c.n.size≤1048576
 mn:∀p∈x.m,p.1.size≤9223372036854775807∧p.2.size≤9223372036854775807
section
variable {w w':Wl} {S:List Nat} {e:EvV} {x:EvT}
theorem zbj.chg0(h:zbj w e x)(hc:zk [] w w'):zbj w' e x:=⟨h.sch.chg0 hc,zN.chg0 h.old hc,zN.chg0 h.new hc,zN.chg0 h.nm hc,h.kr,h.ro,h.rw⟩
theorem zbj.one(h:zbj w e x):∀u∈evC x e,u.oneCell'=true:=by
 intro u hu
 simp only[evC,List.mem_cons,List.not_mem_nil,or_false]at hu
 rcases hu with rfl|rfl|rfl|rfl|rfl|rfl|rfl|rfl
 ·rfl
 ·rfl
 ·exact zN.one1 h.sch.cols
 ·exact zN.one1 h.sch.key
 ·exact h.sch.uq.one1
 ·exact zN.one1 h.old
 ·exact zN.one1 h.new
 exact zN.one1 h.nm
end
def zed(w:Wl)(v:Va)(xs:List EvT):Prop:=∃L:List (EvT×EvV),zN w 39 8 (fun p=>evC p.1 p.2) v L∧(∀p∈L,zbj w p.2 p.1)∧xs=L.map (·.1)
section
variable {w w':Wl} {S:List Nat} {v:Va} {xs:List EvT}
theorem zed.chg0(h:zed w v xs)(hc:zk [] w w'):zed w' v xs:=let ⟨L,h1,h2,h3⟩:=h; ⟨L,h1.chg0 hc,fun p hp=>(h2 p hp).chg0 hc,h3⟩
theorem zed.val(h:zed w v xs):∃p c,v=.slice p xs.length c∧xs.length≤c:=by
 obtain⟨L,h1,_,rfl⟩:=h
 rw[List.length_map]
 exact zN.val h1
theorem zed.at(h:zed w v xs){i:Nat}{x:EvT}(hi:xs[i]?=some x):∃b off cap e,v=.slice (some ⟨b,off,none⟩) xs.length cap∧zv w b (off+i*8) (evC x e)∧zbj w e x:=by
 obtain⟨L,h1,h2,rfl⟩:=h
 rw[List.getElem?_map]at hi
 cases hL:L[i]? with
 |none=>simp[hL]at hi
 |some p=>
  simp[hL]at hi
  subst hi
  obtain⟨b,off,cap,hv,hc⟩:=zN.at (fun p=>zjk p.1 p.2) h1 hL
  exact⟨b,off,cap,p.2,by rw[List.length_map];exact hv,hc,h2 p (Mg hL)⟩
end
structure CE where
 n:By
 q:Nat
 ow:List Nat
 s:yK
 r:LV
def CE.tb(x:CE):Tb:=⟨x.n,x.s,x.r⟩
def CE.pt(x:CE):Va:=.pointer (some ⟨x.q,0,none⟩)
def CE.en(x:CE):By×Va:=(x.n,x.pt)
def zqE(L:List CE):Prop:=L.Pairwise fun a b=>∀y∈a.ow,y∉b.ow
def owL(L:List CE):List Nat:=L.flatMap (·.ow)
def zan(L:List CE)(n:By):Option CE:=L.find? fun x=>decide (x.n=n)
structure zbw(w:Wl)(L:List CE)(c:Cat):Prop where
 tabs:∀x∈L,zab w x.q x.ow x.s x.r
 apart:zqE L
 names:(L.map (·.n)).Nodup
 mem:∀t,t∈L.map CE.tb↔t∈c
 ok:za0 c
structure zdo(w:Wl)(p m:Nat)(L:List CE)(c:Cat):Prop where
 blk:zO w p 83 [.map (some m)]
 map:yf zbM w m (L.map CE.en)
 l:zbw w L c
 ge:Lw.n≤p∧Lw.n≤m
def zba(w:Wl)(p:Nat)(own:List Nat)(c:Cat):Prop:=∃m L,own=p::m::owL L∧zdo w p m L c
section
variable {w w':Wl} {p m:Nat} {L:List CE} {c:Cat} {S own:List Nat} {n:By} {x y:CE}
theorem zbH{b:Nat}:b∈owL L↔∃x∈L,b∈x.ow:=by simp[owL]
theorem zbw.uniq(h:zbw w L c)(hx:x∈L)(hy:y∈L)(e:x.n=y.n):x=y:=zg7 (f:=CE.n) h.names hx hy e
theorem zaL(h:zan L n=some x):x∈L∧x.n=n:=⟨List.mem_of_find?_eq_some h,by simpa using List.find?_some (p:=fun x:CE=>decide (x.n=n)) h⟩
theorem zep(h:zan L n=none):∀x∈L,x.n≠n:=fun t ht e=>by
 have:=List.find?_eq_none.1 h t ht
 simp[e]at this
theorem zbw.find(h:zbw w L c)(hx:x∈L):zan L x.n=some x:=by
 cases ha:zan L x.n with
 |none=>exact absurd rfl (zep ha x hx)
 |some u=>
  obtain⟨h1,h2⟩:=zaL ha
  rw[h.uniq h1 hx h2]
theorem zbD:∀L:List CE,zbb (L.map CE.en) n=(zan L n).map CE.pt
 |[]=>rfl
 |x::L=>by
  by_cases e:x.n=n
  ·simp[zbb,zan,CE.en,e]
  have:=zbD L
  simp only[zan]at this
  simp[zbb,zan,CE.en,e,this]
theorem zbw.at(h:zbw w L c):atC c n=(zan L n).map CE.tb:=by
 cases hf:zan L n with
 |none=>
  cases ha:atC c n with
  |none=>rfl
  |some t=>
   obtain⟨h1,h2⟩:=zdQ ha
   obtain⟨x,hx,rfl⟩:=List.mem_map.1 ((h.mem t).2 h1)
   exact absurd h2 (zep hf x hx)
 |some x=>
  obtain⟨h1,rfl⟩:=zaL hf
  exact ztk h.ok.srt ((h.mem x.tb).1 (List.mem_map.2 ⟨x,h1,U⟩))
theorem zbw.perm(h:zbw w L c):(L.map CE.tb).Perm c:=by
 have h1:(L.map CE.tb).Nodup:=by
  have:=h.names
  rw[List.Nodup,List.pairwise_map] at *
  exact this.imp fun hne e=>hne (congrArg Tb.n e)
 have h2:c.Nodup:=h.ok.srt.imp fun hb e=>by rw[e,zaz]at hb;cases hb
 exact(List.perm_ext_iff_of_nodup h1 h2).2 h.mem
theorem zbw.len(h:zbw w L c):L.length=c.length:=by
 have:=h.perm.length_eq
 simpa using this
theorem zbw.chg0(h:zbw w L c)(hc:zk [] w w'):zbw w' L c:=⟨fun x hx=>(h.tabs x hx).chg0 hc,h.apart,h.names,h.mem,h.ok⟩
theorem zbw.hm(h:zbw w L c)(hd:∀b∈owL L,b∉S)(hs:Hm w S)(hc:zk S w w'):zbw w' L c:=
 ⟨fun x hx=>(h.tabs x hx).hm (fun b hb=>hd b (zbH.2 ⟨x,hx,hb⟩)) hs hc,h.apart,h.names,h.mem,h.ok⟩
theorem zdo.chg0(h:zdo w p m L c)(hc:zk [] w w'):zdo w' p m L c:=⟨h.blk.chg0 hc,h.map.chg0 hc,h.l.chg0 hc,h.ge⟩
theorem zba.chg0(h:zba w p own c)(hc:zk [] w w'):zba w' p own c:=let ⟨m,L,h1,h2⟩:=h; ⟨m,L,h1,h2.chg0 hc⟩
theorem zdo.nn(h:zdo w p m L c):Lw.n≤w.heap.size:=Nat.le_trans h.ge.1 (Nat.le_of_lt h.blk.lt)
theorem zbw.hmO(h:zbw w L c):Hm w (owL L):=Hm.pages (fun b hb=>by
 obtain⟨x,hx,hb⟩:=zbH.1 hb
 exact(h.tabs x hx).pages b hb) fun b hb=>by
 obtain⟨x,hx,hb⟩:=zbH.1 hb
 exact(h.tabs x hx).ge b hb
theorem zbw.pagesO(h:zbw w L c):∀b∈owL L,∃p' n c',zO w b 178 [.slice p' n c']:=fun b hb=>by
 obtain⟨x,hx,hb⟩:=zbH.1 hb
 exact(h.tabs x hx).pages b hb
theorem zdo.hmO(h:zdo w p m L c):Hm w (p::m::owL L):=(Hm.cat h.blk h.ge.1).cons ((Hm.map h.map h.ge.2).cons h.l.hmO)
theorem zba.hmO(h:zba w p own c):Hm w own:=by obtain⟨m,L,rfl,h⟩:=h;exact h.hmO
theorem zba.ok(h:zba w p own c):za0 c:=by obtain⟨m,L,rfl,h⟩:=h;exact h.l.ok
theorem Hm.lt(h:Hm w S):∀b∈S,b<w.heap.size:=fun b hb=>by
 rcases (h b hb).2 with⟨_,_,_,hx⟩|⟨_,_,hx⟩|⟨_,hx⟩|⟨_,_,_,hx⟩
 ·exact hx.lt
 ·exact(Ga hx).1
 ·exact hx.lt
 exact hx.lt
theorem zba.other(h:zba w p own c)(hd:∀b∈own,b∉S)(hs:Hm w S)(hc:zk S w w'):zba w' p own c:=by
 obtain⟨m,L,rfl,h⟩:=h
 exact⟨m,L,rfl,h.blk.chg hc (hd p (by simp)),h.map.chg hc (hd m (by simp)),h.l.hm (fun b hb=>hd b (by simp[hb])) hs hc,h.ge⟩
def zkq(L:List CE)(n:By)(r:LV):List CE:=L.map fun x=>if x.n=n then { x with r:=r } else x
theorem zx6(r:LV):(zkq L n r).map CE.en=L.map CE.en:=by
 unfold zkq
 rw[List.map_map]
 refine List.map_congr_left fun x _=>?_
 simp only[Function.comp_apply]
 split<;>rfl
theorem zzd(r:LV):owL (zkq L n r)=owL L:=by
 unfold zkq owL
 rw[List.flatMap_map]
 congr 1
 funext x
 split<;>rfl
theorem zAB(r:LV):(zkq L n r).map (·.n)=L.map (·.n):=by
 unfold zkq
 rw[List.map_map]
 refine List.map_congr_left fun x _=>?_
 simp only[Function.comp_apply]
 split<;>rfl
theorem zja{r:LV}:y∈zkq L n r↔∃x∈L,(x.n=n∧y={ x with r:=r })∨(x.n≠n∧y=x):=by
 unfold zkq
 rw[List.mem_map]
 refine exists_congr fun x=>and_congr_right fun _=>?_
 by_cases e:x.n=n<;>simp[e,eq_comm]
theorem zbw.turn(h:zbw w L c)(hx:x∈L){r:LV}(hc:zk x.ow w w')(ht:zab w' x.q x.ow x.s r):zbw w' (zkq L x.n r) (zcy c ⟨x.n,x.s,r⟩):=by
 have hat:atC c x.n=some x.tb:=by rw[h.at,h.find hx];rfl
 refine⟨?_,?_,by rw[zAB];exact h.names,fun t=>?_,h.ok.set (t:=⟨x.n,x.s,r⟩) hat ht.ok⟩
 ·intro y hy
  obtain⟨z,hz,⟨e,rfl⟩|⟨e,rfl⟩⟩:=zja.1 hy
  ·obtain rfl:=h.uniq hz hx e
   exact ht
  refine(h.tabs y hz).hm (fun b hb hm=>?_) (Hm.pages (h.tabs x hx).pages (h.tabs x hx).ge) hc
  have hsym:∀{a d:CE},(∀u∈a.ow,u∉d.ow)→∀u∈d.ow,u∉a.ow:=fun h u hu hu'=>h u hu' hu
  obtain⟨i,hi⟩:=List.getElem?_of_mem hz
  obtain⟨j,hj⟩:=List.getElem?_of_mem hx
  have hne:i≠j:=fun hij=>e (by
   subst hij
   rw[hi]at hj
   cases hj;rfl)
  obtain⟨hi',rfl⟩:=Gs hi
  obtain⟨hj',rfl⟩:=Gs hj
  rcases Lg i j with hij|hij
  ·exact List.pairwise_iff_getElem.1 h.apart i j hi' hj' hij b hb hm
  exact List.pairwise_iff_getElem.1 h.apart j i hj' hi' (by omega) b hm hb
 ·unfold zqE zkq
  rw[List.pairwise_map]
  refine h.apart.imp fun {a d} hh=>?_
  have e1:∀z:CE,(if z.n=x.n then { z with r:=r } else z).ow=z.ow:=fun z=>by split<;>rfl
  rw[e1,e1]
  exact hh
 rw[zdw]
 constructor
 ·intro hm
  obtain⟨y,hy,rfl⟩:=List.mem_map.1 hm
  obtain⟨z,hz,⟨e,rfl⟩|⟨e,rfl⟩⟩:=zja.1 hy
  ·obtain rfl:=h.uniq hz hx e
   exact .inl U
  exact .inr ⟨(h.mem _).1 (List.mem_map.2 ⟨y,hz,U⟩),e⟩
 rintro (rfl|⟨h1,h2⟩)
 ·exact List.mem_map.2 ⟨{ x with r:=r },zja.2 ⟨x,hx,.inl ⟨U,U⟩⟩,U⟩
 obtain⟨z,hz,rfl⟩:=List.mem_map.1 ((h.mem t).2 h1)
 exact List.mem_map.2 ⟨z,zja.2 ⟨z,hz,.inr ⟨h2,U⟩⟩,U⟩
theorem zdo.turn(h:zdo w p m L c)(hx:x∈L){r:LV}(hc:zk x.ow w w')(ht:zab w' x.q x.ow x.s r):zba w' p (p::m::owL L) (zcy c ⟨x.n,x.s,r⟩):=by
 have hn:∀b∈x.ow,b≠p∧b≠m:=fun b hb=>by
  obtain⟨_,_,_,hp⟩:=(h.l.tabs x hx).pages b hb
  exact⟨hp.ne h.blk U,fun e=>h.map.ne hp e.symm⟩
 refine⟨m,zkq L x.n r,by rw[zzd],h.blk.chg hc (fun hb=>(hn p hb).1 U),?_,h.l.turn hx hc ht,h.ge⟩
 rw[zx6]
 exact h.map.chg hc (fun hb=>(hn m hb).2 U)
theorem zbw.new(h:zbw w L c)(hn:zan L x.n=none)(ht:zab w x.q x.ow x.s x.r)(hd:∀b∈owL L,b∉x.ow)(hl:c.length<12):zbw w (L++[x]) (zcy c x.tb):=by
 have hat:atC c x.n=none:=by rw[h.at,hn];rfl
 refine⟨fun y hy=>?_,?_,?_,fun t=>?_,h.ok.new (t:=x.tb) ht.ok hl⟩
 ·rcases List.mem_append.1 hy with hy|hy
  ·exact h.tabs y hy
  simp at hy;subst hy;exact ht
 ·refine List.pairwise_append.2 ⟨h.apart,List.pairwise_singleton _ _,fun a ha d hd' b hb hm=>?_⟩
  simp at hd';subst hd'
  exact hd b (zbH.2 ⟨a,ha,hb⟩) hm
 ·rw[List.map_append,List.nodup_append]
  refine⟨h.names,by simp,fun a ha d hd'=>?_⟩
  simp at hd';subst hd'
  obtain⟨y,hy,rfl⟩:=List.mem_map.1 ha
  exact zep hn y hy
 rw[List.map_append,List.mem_append,zdw,h.mem]
 constructor
 ·rintro (h1|h1)
  ·exact .inr ⟨h1,zlI hat t h1⟩
  simp at h1;exact .inl h1
 rintro (h1|⟨h1,_⟩)
 ·subst h1;simp
 exact .inl h1
theorem zg9{k:By}{v:Va}:∀{es:List (By×Va)},zbb es k=none→zcU es k v=es++[(k,v)]
 |[],_=>rfl
 |q::r,h=>by
  unfold zbb at h
  split at h
  ·cases h
  rename_i hne
  unfold zcU
  rw[if_neg hne,zg9 h]
  rfl
def zrf(L:List CE)(n:By):List CE:=L.filter fun x=>decide (x.n≠n)
theorem zsB(h:(L.map (·.n)).Nodup):zku (L.map CE.en) n=(zrf L n).map CE.en:=by
 rw[ziG n (by rw[List.map_map];exact h),List.filter_map]
 rfl
theorem zbw.sub(h:zbw w L c){L':List CE}{c':Cat}(hs:L'.Sublist L)(hm:∀t,t∈L'.map CE.tb↔t∈c')(hk:za0 c'):zbw w L' c':=
 ⟨fun x hx=>h.tabs x (hs.subset hx),h.apart.sublist hs,h.names.sublist (hs.map _),hm,hk⟩
theorem zbw.less(h:zbw w L c)(n:By):zbw w (zrf L n) (zb4 c n):=by
 refine h.sub List.filter_sublist (fun t=>?_) (h.ok.less n)
 rw[zgz,←h.mem]
 simp only[List.mem_map,zrf,List.mem_filter,decide_eq_true_eq]
 constructor
 ·rintro ⟨x,⟨h1,h2⟩,rfl⟩
  exact⟨⟨x,h1,U⟩,h2⟩
 rintro⟨⟨x,h1,rfl⟩,h2⟩
 exact⟨x,⟨h1,h2⟩,U⟩
theorem zpm{L':List CE}(hs:∀x∈L',x∈L):∀b∈owL L',b∈owL L:=fun b hb=>by
 obtain⟨x,hx,h⟩:=zbH.1 hb
 exact zbH.2 ⟨x,hs x hx,h⟩
end
theorem zsJ(w:Wl)(hN:Lw.n≤w.heap.size):zS TP 10 #[] w fun r w'=>∃p m,r=Pt p∧zdo w' p m [] []∧w.heap.size≤p∧w.heap.size≤m∧zk [] w w':=by
 refine zS.of_W (args:=[]) Tryz.func10 U U U U ?_
 refine Sr (Oa U (yO [] (F':=[]) U (Sr ?_)))
 refine Oq (zb5 (zbM) U ?_)
 intro b1 w1 e1 n1 c1 k1
 refine Og (zL zDL zDi U (vs:=[_]) U (css:=[_]) ⟨U,Tt⟩ U U (cs:=[_]) U) U ?_
 refine Ob U U ?_
 intro b3 w3 e3 n3 c3 k3
 refine Oa U (E1 0 U (zj ?_))
 refine zw U U ?_
 have hs:=c1.size
 exact⟨b3,b1,rfl,⟨k3,k1.chg0 c3,⟨by simp,List.Pairwise.nil,by simp,by simp,za0.nil⟩,by omega,by omega⟩,by omega,by omega,c1.trans c3⟩
theorem zmI(m:Nat)(es:List (By×Va))(n:By)(w:Wl)(h:yf zbM w m es) :
 zS TP 47 #[.map (some m),.string n] w fun r w'=>r=.tuple #[(zbb es n).getD (.pointer none),.bool (zbb es n).isSome]∧w'=w:=by
 refine A2 Tryz.func47 U U ?_
 refine Sr (Oa U (Oa U (E2 0 1 U (Sr (Om U (Om U (Og (zc4 (κ:=zbM) zeW (zap st9) zjP U U h U) U (Om U (Oe U U (Oe U U (Oa U (Oa U (E2 6 7 U (Sr (Om U (Om U (Oa U (Oa U (E2 4 5 U (zj ?_))))))))))))))))))))
 refine zcF U U U ?_
 exact⟨U,U⟩
theorem zfz(n:By)(e:Int)(w:Wl):zS TP 107 #[.string n,Ii e] w fun r w'=>zgd w' r e∧zk [] w w':=by
 refine A2 Tryz.func107 U U ?_
 refine Sr (Oa U (E2 0 1 U (zf (Sr (Om U (Og (z5 zdU U) U (Og (z5 zdU U) U ?_)))))))
 refine Oc zw6 U U U (zAb (zde e) e 0 _ (.inl U)) ?_
 rintro v8 w8⟨rfl,c8⟩
 refine E3 0 1 8 U ?_
 by_cases he:e=0
 ·refine ze (by rw[dt he];rfl) ?_
  refine Sr (Oa U (E1 4 U (zj ?_)))
  repeat first|refine tr ?_|refine br ?_
  refine zw U U ?_
  exact⟨.inl ⟨U,he⟩,c8⟩
 refine zb (by rw[df he];rfl) ?_
 refine zm (Sr (Om U (Om U (Og (z5 zdU U) U ?_))))
 refine Og (zL zfU zfQ U (vs:=[_,_]) U (css:=[_,_]) ⟨U,U,Tt⟩ U U (cs:=[_,_]) U) U ?_
 refine Og (z5 zfT U) U (Oa U (E1 4 U (zj ?_)))
 refine zw U U ?_
 exact⟨.inr ⟨.inr (.inr (.inr ⟨n,U⟩)),he⟩,c8⟩
def zCA:zfZ TP 180=some Extern.MapsClone.clone:=by kernel_rfl
theorem zsg(m:Nat)(es:List (By×Va))(w:Wl)(h:yf zbM w m es) :
 zS TP 114 #[.map (some m)] w fun r w'=>∃b,r=.map (some b)∧yf zbM w' b es∧w.heap.size≤b∧zk [] w w':=by
 refine A1 Tryz.func114 U U ?_
 obtain⟨w1,hr,hs,hc,hm⟩:=zrx (P:=TP) (t:=81) h
 refine Sr (Oa U (E1 0 U (zf (Sr (Om U (Og (zvR zeW U U) U (E2 0 4 U (zb U (zm (Sr (Om U (Og (z5 zBw U) U ?_))))))))))))
 refine Oq (zdi (P:=TP) (n:=Tryz.f114.ntmps) zCA U U hr U ?_)
 skip
 refine Og (zwo zBw U) U (Oa U (E1 2 U (zj ?_)))
 refine zw U U ?_
 exact⟨_,U,hm,Nat.le_refl _,hc⟩
def zxt:List (Int×Va):=[(1,.func (.func 63) #[] #[]),(2,.func (.func 64) #[] #[]),(3,.func (.func 65) #[] #[]),(4,.func (.func 66) #[] #[]),(5,.func (.func 67) #[] #[]),(6,.func (.func 68) #[] #[])]
theorem zsS(w:Wl):zS TP 35 #[] w fun r w'=>∃m,r=.map (some m)∧yf (zaP .i64) w' m zxt∧w.heap.size≤m∧zk [] w w':=by
 refine zS.of_W (args:=[]) Tryz.func35 U U U U ?_
 refine Sr (Oa U (yO [] (F':=[]) U (Sr ?_)))
 refine Oq (zb5 (zaP .i64) U ?_)
 intro b1 w1 e1 n1 c1 k1
 refine Oq (yQ (κ:=zaP .i64) zpb (z0 zbE) U U U k1 ?_)
 intro wA nA cA kA
 refine Oq (yQ (κ:=zaP .i64) zpb (z0 zbE) U U U kA ?_)
 intro wB nB cB kB
 refine Oq (yQ (κ:=zaP .i64) zpb (z0 zbE) U U U kB ?_)
 intro wC nC cC kC
 refine Oq (yQ (κ:=zaP .i64) zpb (z0 zbE) U U U kC ?_)
 intro wD nD cD kD
 refine Oq (yQ (κ:=zaP .i64) zpb (z0 zbE) U U U kD ?_)
 intro wE nE cE kE
 refine Oq (yQ (κ:=zaP .i64) zpb (z0 zbE) U U U kE ?_)
 intro wG nG cG kG
 refine Om U (Oa U (E1 0 U (zj ?_)))
 refine zw U U ?_
 have hc:∀{X Y:Wl},zk [] w X→zk [b1] X Y→zk [] w Y:=fun h h2=>h.own h2 (by intro y hy;simp at hy;omega)
 exact⟨b1,rfl,kG,by omega,hc (hc (hc (hc (hc (hc c1 cA) cB) cC) cD) cE) cG⟩
theorem zuS{α:Type}{f:α→LA}(hf:∀x,(f x).length=3)(v:Va)(l:List α)(p:α→Bool)(g:Nat)(lb:LA)(w:Wl)(hl:zN w 137 3 f v l)(hn:l.length≤1048576)(hg:zn TP g=true)
 (hp:∀x∈l,∀w1,zk [] w w1→zS TP g (Value.agg (f x).toArray::lb).toArray w1 fun r w2=>r=.bool (p x)∧zk [] w1 w2) :
 zS TP 102 #[v,.func (.func g) #[] lb.toArray] w fun r w'=>∃i:Int,r=Ii i∧decide (0≤i)=l.any p∧zk [] w w':=by
 obtain⟨pv,cv,hval,hle⟩:=zN.val hl
 refine A2 Tryz.func102 U U ?_
 refine Sr (Oa U (E2 0 1 U (zf (zf ?_))))
 subst hval
 refine za (Om U (On ztA U (Om U (E4 0 1 7 8 U (zp ?_)))))
 refine zQ [0,1,7,8] (fun m F wx=>∃j:Nat,m=l.length-j∧j≤l.length∧F=[(0,.slice pv l.length cv),(1,.func (.func g) #[] lb.toArray),(7,Ii l.length),(8,Ii j)]∧zk [] w wx∧(l.take j).any p=false) (m:=l.length-0) ⟨0,rfl,Zl _,rfl,zk.refl _ _,by simp⟩ ?_
 rintro m F wx⟨j,rfl,hj,rfl,hcx,hno⟩
 refine Sr (Og (zz U U) U (E5 0 1 7 8 9 U (zf ?_)))
 refine zP U (fun hT=>?_) (fun hF=>?_)
 ·refine zm ?_
  have hlt:j<l.length:=by have:=of_decide_eq_true hT;omega
  have hx:l[j]?=some l[j]:=by simp[hlt]
  generalize l[j]=x at hx
  obtain⟨b,off,cap,hv,hcell⟩:=zN.at hf (zN.chg0 hl hcx) hx
  cases hv
  refine zf (zp (Sr (Om U (Oa U (E5 0 1 5 7 8 U (Sr (Om U (Om U (Om U ?_)))))))))
  refine Og (zi ztA zdW U U _ U hlt) U ?_
  refine Og (zh zhc zdW U (hf _) hcell) U ?_
  refine Oc hg U U U (hp x (Mg hx) _ hcx) ?_
  rintro v16 w16⟨rfl,c16⟩
  refine E6 0 1 5 7 8 16 U ?_
  cases hpx:p x with
  |true=>
   refine ze U (Sr (Om U (Oa U (E1 4 U (zj ?_)))))
   repeat first|refine tr ?_|refine br ?_
   refine zw U U ?_
   exact⟨_,rfl,by rw[zgw hx hpx];simp,hcx.trans c16⟩
  |false=>
   refine zb U (zT (zl (za ?_)))
   refine Og (zG U U (by omega)) U ?_
   refine Om U (N4 0 1 7 8 U ?_)
   exact⟨l.length-(j+1),by omega,j+1,rfl,by omega,rfl,hcx.trans c16,zfr hx hpx hno⟩
 refine zI ?_
 repeat first|refine te ?_|refine bo rfl ?_
 refine zq _ ?_
 have he:l.length≤j:=by have:=of_decide_eq_false hF;omega
 refine Sr (Oa U (E1 4 U (zj ?_)))
 repeat first|refine tr ?_|refine br ?_
 refine zw U U ?_
 rw[Tl he]at hno
 exact⟨_,rfl,by rw[hno];rfl,hcx⟩
theorem zvs{α:Type}{f:α→LA}(hf:∀x,(f x).length=3)(v:Va)(l:List α)(p:α→Bool)(g:Nat)(lb:LA)(w:Wl)(hl:zN w 137 3 f v l)(hn:l.length≤1048576)(hg:zn TP g=true)
 (hp:∀x∈l,∀w1,zk [] w w1→zS TP g (Value.agg (f x).toArray::lb).toArray w1 fun r w2=>r=.bool (p x)∧zk [] w1 w2) :
 zS TP 60 #[v,.func (.func g) #[] lb.toArray] w fun r w'=>r=.bool (l.any p)∧zk [] w w':=by
 refine A2 Tryz.func60 U U ?_
 refine Sr (Oa U (E2 0 1 U (Sr (Om U (Om U ?_)))))
 refine Oc zzV U U U (zuS hf v l p g lb _ hl hn hg hp) ?_
 rintro v7 w7⟨i,rfl,hi,c7⟩
 refine Og (yc U U) U (Oa U (E1 4 U (zj ?_)))
 refine zw U U ?_
 exact⟨by rw[←hi],c7⟩
theorem zvU{α:Type}{f:α→LA}(hf:∀x,(f x).length=2)(v:Va)(l:List α)(p:α→Bool)(g:Nat)(lb:LA)(w:Wl)(hl:zN w 78 2 f v l)(hn:l.length≤1048576)(hg:zn TP g=true)
 (hp:∀x∈l,∀w1,zk [] w w1→zS TP g (Value.agg (f x).toArray::lb).toArray w1 fun r w2=>r=.bool (p x)∧zk [] w1 w2) :
 zS TP 179 #[v,.func (.func g) #[] lb.toArray] w fun r w'=>∃i:Int,r=Ii i∧decide (0≤i)=l.any p∧zk [] w w':=by
 obtain⟨pv,cv,hval,hle⟩:=zN.val hl
 refine A2 Tryz.func179 U U ?_
 refine Sr (Oa U (E2 0 1 U (zf (zf ?_))))
 subst hval
 refine za (Om U (On zaF U (Om U (E4 0 1 7 8 U (zp ?_)))))
 refine zQ [0,1,7,8] (fun m F wx=>∃j:Nat,m=l.length-j∧j≤l.length∧F=[(0,.slice pv l.length cv),(1,.func (.func g) #[] lb.toArray),(7,Ii l.length),(8,Ii j)]∧zk [] w wx∧(l.take j).any p=false) (m:=l.length-0) ⟨0,rfl,Zl _,rfl,zk.refl _ _,by simp⟩ ?_
 rintro m F wx⟨j,rfl,hj,rfl,hcx,hno⟩
 refine Sr (Og (zz U U) U (E5 0 1 7 8 9 U (zf ?_)))
 refine zP U (fun hT=>?_) (fun hF=>?_)
 ·refine zm ?_
  have hlt:j<l.length:=by have:=of_decide_eq_true hT;omega
  have hx:l[j]?=some l[j]:=by simp[hlt]
  generalize l[j]=x at hx
  obtain⟨b,off,cap,hv,hcell⟩:=zN.at hf (zN.chg0 hl hcx) hx
  cases hv
  refine zf (zp (Sr (Om U (Oa U (E5 0 1 5 7 8 U (Sr (Om U (Om U (Om U ?_)))))))))
  refine Og (zi zaF zcn U U _ U hlt) U ?_
  refine Og (zh zq4 zcn U (hf _) hcell) U ?_
  refine Oc hg U U U (hp x (Mg hx) _ hcx) ?_
  rintro v16 w16⟨rfl,c16⟩
  refine E6 0 1 5 7 8 16 U ?_
  cases hpx:p x with
  |true=>
   refine ze U (Sr (Om U (Oa U (E1 4 U (zj ?_)))))
   repeat first|refine tr ?_|refine br ?_
   refine zw U U ?_
   exact⟨_,rfl,by rw[zgw hx hpx];simp,hcx.trans c16⟩
  |false=>
   refine zb U (zT (zl (za ?_)))
   refine Og (zG U U (by omega)) U ?_
   refine Om U (N4 0 1 7 8 U ?_)
   exact⟨l.length-(j+1),by omega,j+1,rfl,by omega,rfl,hcx.trans c16,zfr hx hpx hno⟩
 refine zI ?_
 repeat first|refine te ?_|refine bo rfl ?_
 refine zq _ ?_
 have he:l.length≤j:=by have:=of_decide_eq_false hF;omega
 refine Sr (Oa U (E1 4 U (zj ?_)))
 repeat first|refine tr ?_|refine br ?_
 refine zw U U ?_
 rw[Tl he]at hno
 exact⟨_,rfl,by rw[hno];rfl,hcx⟩
theorem zpj{α:Type}{f:α→LA}(hf:∀x,(f x).length=2)(v:Va)(l:List α)(p:α→Bool)(g:Nat)(lb:LA)(w:Wl)(hl:zN w 78 2 f v l)(hn:l.length≤1048576)(hg:zn TP g=true)
 (hp:∀x∈l,∀w1,zk [] w w1→zS TP g (Value.agg (f x).toArray::lb).toArray w1 fun r w2=>r=.bool (p x)∧zk [] w1 w2) :
 zS TP 112 #[v,.func (.func g) #[] lb.toArray] w fun r w'=>r=.bool (l.any p)∧zk [] w w':=by
 refine A2 Tryz.func112 U U ?_
 refine Sr (Oa U (E2 0 1 U (Sr (Om U (Om U ?_)))))
 refine Oc zAd U U U (zvU hf v l p g lb _ hl hn hg hp) ?_
 rintro v7 w7⟨i,rfl,hi,c7⟩
 refine Og (yc U U) U (Oa U (E1 4 U (zj ?_)))
 refine zw U U ?_
 exact⟨by rw[←hi],c7⟩
theorem zqX(s:By):yS ⟨s,3,0,true⟩ zX.null=if yT s then 0 else 2:=by
 have h1:y9 ⟨s,3,0,true⟩=yT s:=by simp[y9]
 have h2:za2 zX.null=0:=by decide
 cases h:yT s with
 |false=>rw[zp6 (h1.trans h)];rfl
 |true=>rw[zl7 (h1.trans h) h2 rfl];rfl
theorem zwh(c:Col)(x:zX)(w:Wl)(hE:EOk w)(hx:x.Rng):zS TP 208 #[c.v,x.v] w fun r w'=>r=Ii (yS c x)∧zk [] w w':=by
 refine A2 Tryz.func208 U U ?_
 refine Sr ?_
 refine Ob U U ?_
 intro b2 w2 e2 n2 c2 k2
 refine Ob U U ?_
 intro b3 w3 e3 n3 c3 k3
 refine Oa U (E2 2 3 U ?_)
 have k2:zO w3 b2 114 c.cs:=k2.chg0 c3
 have k3:zO w3 b3 111 x.cs:=k3
 have hcc:=c2.trans c3
 refine Sr (Og (zh zcI zad U U (zv.of_blk0 k2)) U (Og (zh zaJ ym U U (zv.of_blk0 k3)) U ?_))
 refine Oc ztB U U U (zoL c x _ hx) ?_
 rintro v7 w7⟨h7,c7⟩
 refine Oc zwU U U U (zst _ (yS c x) _ ((hE.chg0 hcc).chg0 c7) h7.weak) ?_
 rintro v8 w8⟨rfl,c8⟩
 refine Oa U (E1 4 U (zj ?_))
 refine zw U U ?_
 exact⟨U,(hcc.trans c7).trans c8⟩
theorem zhD(s:By)(w:Wl)(hE:EOk w):zS TP 154 #[.string s] w fun r w'=>r=.bool (yT s)∧zk [] w w':=by
 refine A1 Tryz.func154 U U ?_
 refine Sr (Oa U (E1 0 U (Sr (Om U ?_))))
 refine Og (zem zwH zk0 U (qs:=[(0,_),(1,_),(3,_)]) U (css:=[_,_,_]) ⟨U,U,U,Tt⟩ (cs:=[_,_,_,_]) U) U ?_
 refine Og (zL zj4 zdl U (vs:=[]) U (css:=[]) trivial U U (cs:=[_,_,_,_]) U) U ?_
 refine Oc zCG U U U (zwh ⟨s,3,0,true⟩ zX.null _ hE ⟨by decide,by decide,by decide⟩) ?_
 rintro v6 w6⟨rfl,c6⟩
 refine Og (zy U U) U (Oa U (E1 2 U (zj ?_)))
 refine zw U U ?_
 refine⟨?_,c6⟩
 rw[zqX]
 cases yT s<;>rfl
theorem zlU(u v:Va)(l m:List zX)(w:Wl)(hu:ya w u l)(hv:ya w v m)(hn:l.length≤1048576)(hn':m.length≤1048576) :
 zS TP 169 #[u,v] w fun r w'=>r=.bool (decide (l=m))∧zk [] w w':=by
 obtain⟨pu,cu,rfl,hcu⟩:=zN.val hu
 obtain⟨pv,cv,rfl,hcv⟩:=zN.val hv
 refine A2 Tryz.func169 U U ?_
 refine Sr (Oa U (E2 0 1 U (zf (zf ?_))))
 by_cases he:l.length=m.length
 ·refine za (Om U (On yE U (Om U (On yE U ?_))))
  refine Og (vf (zJ U U) (zcp (by omega))) U ?_
  refine E3 0 1 10 U (zb U (zm (zf (Sr (Om U (On yE U (Om U (E4 0 1 12 13 U (zp ?_)))))))))
  refine zQ [0,1,12,13] (fun n F wx=>∃j:Nat,n=l.length-j∧j≤l.length∧F=[(0,.slice pu l.length cu),(1,.slice pv m.length cv),(12,Ii l.length),(13,Ii j)]∧l.take j=m.take j∧zk [] w wx) (m:=l.length-0) ⟨0,rfl,Zl _,rfl,by simp,zk.refl _ _⟩ ?_
  rintro n F wx⟨j,rfl,hj,rfl,heq,hcx⟩
  refine Sr (Og (zz U U) U (E5 0 1 12 13 14 U (zf ?_)))
  refine zP U (fun hT=>?_) (fun hF=>?_)
  ·refine zm ?_
   have hlt:j<l.length:=by have:=of_decide_eq_true hT;omega
   have hlt2:j<m.length:=by omega
   have hx:l[j]?=some l[j]:=by simp[hlt]
   have hy:m[j]?=some m[j]:=by simp[hlt2]
   generalize l[j]=x at hx
   generalize m[j]=y at hy
   obtain⟨b,off,cap,hve,hc1⟩:=zN.at zbr (zN.chg0 hu hcx) hx
   cases hve
   obtain⟨b',off',cap',hve,hc2⟩:=zN.at zbr (zN.chg0 hv hcx) hy
   cases hve
   have hd:zk [] wx wx.drew:=zk.drew [] _
   refine zf (zp (Sr (Om U (Oa U (E5 0 1 5 12 13 U (zf ?_))))))
   refine zH (fun wz=>zk [] wx wz) mix (by kernel_rfl) hd ?_
   refine Tm U (Tm U ?_)
   refine Tp (fun _=>zi yE ym U U _ U hlt) U ?_
   refine Tr (fun wz hz=>zh zaJ ym U U (hc1.chg0 hz)) U (Tm U (Tm U ?_))
   refine Tp (fun _=>zi yE ym U U _ U hlt2) U ?_
   refine Tr (fun wz hz=>zh zaJ ym U U (hc2.chg0 hz)) U (Tp (fun _=>zhX zqc U U (zl8 x y)) U (D5 0 1 12 13 24 U ?_))
   refine zP U (fun hT=>?_) (fun hF=>?_)
   ·have hne:x≠y:=by simpa using hT
    refine Sr (Oa U (E1 4 U (zj ?_)))
    repeat first|refine tr ?_|refine br ?_
    refine zw U U ?_
    refine⟨?_,hcx.trans hd⟩
    have:l≠m:=by
     rintro rfl
     rw[hx]at hy
     exact hne (Option.some.inj hy)
    rw[df this]
   have hxy:x=y:=by simpa using hF
   refine zT (zl (za ?_))
   refine Og (zG U U (by omega)) U ?_
   refine Om U (N4 0 1 12 13 U ?_)
   refine⟨l.length-(j+1),by omega,j+1,rfl,by omega,rfl,?_,hcx.trans hd⟩
   rw[List.take_add_one,List.take_add_one,hx,hy,heq,hxy]
  refine zI ?_
  repeat first|refine te ?_|refine bo rfl ?_
  refine zq _ ?_
  have hge:l.length≤j:=by have:=of_decide_eq_false hF;omega
  refine Sr (Oa U (E1 4 U (zj ?_)))
  repeat first|refine tr ?_|refine br ?_
  refine zw U U ?_
  rw[Tl hge,Tl (by omega)]at heq
  exact⟨by rw[dt heq],hcx⟩
 refine za (Om U (On yE U (Om U (On yE U ?_))))
 refine Og (vt (zJ U U) (zfj (by omega))) U ?_
 refine E3 0 1 10 U (ze U (Sr (Oa U (E1 4 U (zj ?_)))))
 repeat first|refine tr ?_|refine br ?_
 refine zw U U ?_
 have:l≠m:=fun h=>he (by rw[h])
 exact⟨by rw[df this],zk.refl _ _⟩
def a2s:zyL TP 78=true:=by kernel_rfl
theorem ztr(u v:Va)(l m:List (By×By))(w:Wl)(hu:zdm w u l)(hv:zdm w v m)(hn:l.length≤1048576)(hn':m.length≤1048576) :
 zS TP 170 #[u,v] w fun r w'=>r=.bool (decide (l=m))∧zk [] w w':=by
 obtain⟨pu,cu,rfl,hcu⟩:=zN.val hu
 obtain⟨pv,cv,rfl,hcv⟩:=zN.val hv
 refine A2 Tryz.func170 U U ?_
 refine Sr (Oa U (E2 0 1 U (zf (zf ?_))))
 by_cases he:l.length=m.length
 ·refine za (Om U (On zaF U (Om U (On zaF U ?_))))
  refine Og (vf (zJ U U) (zcp (by omega))) U ?_
  refine E3 0 1 10 U (zb U (zm (zf (Sr (Om U (On zaF U (Om U (E4 0 1 12 13 U (zp ?_)))))))))
  refine zQ [0,1,12,13] (fun n F wx=>∃j:Nat,n=l.length-j∧j≤l.length∧F=[(0,.slice pu l.length cu),(1,.slice pv m.length cv),(12,Ii l.length),(13,Ii j)]∧l.take j=m.take j∧zk [] w wx) (m:=l.length-0) ⟨0,rfl,Zl _,rfl,by simp,zk.refl _ _⟩ ?_
  rintro n F wx⟨j,rfl,hj,rfl,heq,hcx⟩
  refine Sr (Og (zz U U) U (E5 0 1 12 13 14 U (zf ?_)))
  refine zP U (fun hT=>?_) (fun hF=>?_)
  ·refine zm ?_
   have hlt:j<l.length:=by have:=of_decide_eq_true hT;omega
   have hlt2:j<m.length:=by omega
   have hx:l[j]?=some l[j]:=by simp[hlt]
   have hy:m[j]?=some m[j]:=by simp[hlt2]
   generalize l[j]=x at hx
   generalize m[j]=y at hy
   obtain⟨b,off,cap,hve,hc1⟩:=zN.at zbu (zN.chg0 hu hcx) hx
   cases hve
   obtain⟨b',off',cap',hve,hc2⟩:=zN.at zbu (zN.chg0 hv hcx) hy
   cases hve
   have hd:zk [] wx wx.drew:=zk.drew [] _
   refine zf (zp (Sr (Om U (Oa U (E5 0 1 5 12 13 U (zf ?_))))))
   refine zH (fun wz=>zk [] wx wz) mix (by kernel_rfl) hd ?_
   refine Tm U (Tm U ?_)
   refine Tp (fun _=>zi zaF zcn U U _ U hlt) U ?_
   refine Tr (fun wz hz=>zh zq4 zcn U U (hc1.chg0 hz)) U (Tm U (Tm U ?_))
   refine Tp (fun _=>zi zaF zcn U U _ U hlt2) U ?_
   refine Tr (fun wz hz=>zh zq4 zcn U U (hc2.chg0 hz)) U (Tp (fun _=>zuK a2s U U) U (D5 0 1 12 13 24 U ?_))
   refine zP U (fun hT=>?_) (fun hF=>?_)
   ·have hne:x≠y:=by intro e;subst e;simp at hT
    refine Sr (Oa U (E1 4 U (zj ?_)))
    repeat first|refine tr ?_|refine br ?_
    refine zw U U ?_
    refine⟨?_,hcx.trans hd⟩
    have:l≠m:=by
     rintro rfl
     rw[hx]at hy
     exact hne (Option.some.inj hy)
    rw[df this]
   have hxy:x=y:=by simp at hF;exact Prod.ext hF.1 hF.2
   refine zT (zl (za ?_))
   refine Og (zG U U (by omega)) U ?_
   refine Om U (N4 0 1 12 13 U ?_)
   refine⟨l.length-(j+1),by omega,j+1,rfl,by omega,rfl,?_,hcx.trans hd⟩
   rw[List.take_add_one,List.take_add_one,hx,hy,heq,hxy]
  refine zI ?_
  repeat first|refine te ?_|refine bo rfl ?_
  refine zq _ ?_
  have hge:l.length≤j:=by have:=of_decide_eq_false hF;omega
  refine Sr (Oa U (E1 4 U (zj ?_)))
  repeat first|refine tr ?_|refine br ?_
  refine zw U U ?_
  rw[Tl hge,Tl (by omega)]at heq
  exact⟨by rw[dt heq],hcx⟩
 refine za (Om U (On zaF U (Om U (On zaF U ?_))))
 refine Og (vt (zJ U U) (zfj (by omega))) U ?_
 refine E3 0 1 10 U (ze U (Sr (Oa U (E1 4 U (zj ?_)))))
 repeat first|refine tr ?_|refine br ?_
 refine zw U U ?_
 have:l≠m:=fun h=>he (by rw[h])
 exact⟨by rw[df this],zk.refl _ _⟩
theorem zhs(u v:Va)(l m:List zX)(w:Wl)(hu:ya w u l)(hv:ya w v m)(hn:l.length≤1048576)(hn':m.length≤1048576):zS TP 100 #[u,v] w fun r w'=>r=.bool (decide (l=m))∧zk [] w w':=by
 refine A2 Tryz.func100 U U ?_
 refine Sr (Oa U (E2 0 1 U (Sr (Om U (Om U ?_)))))
 refine Oc zsI U U U (zlU u v l m _ hu hv hn hn') ?_
 rintro v7 w7⟨rfl,c7⟩
 refine Oa U (E1 4 U (zj ?_))
 refine zw U U ?_
 exact⟨U,c7⟩
theorem ztl(u v:Va)(l m:List (By×By))(w:Wl)(hu:zdm w u l)(hv:zdm w v m)(hn:l.length≤1048576)(hn':m.length≤1048576):zS TP 101 #[u,v] w fun r w'=>r=.bool (decide (l=m))∧zk [] w w':=by
 refine A2 Tryz.func101 U U ?_
 refine Sr (Oa U (E2 0 1 U (Sr (Om U (Om U ?_)))))
 refine Oc zA3 U U U (ztr u v l m _ hu hv hn hn') ?_
 rintro v7 w7⟨rfl,c7⟩
 refine Oa U (E1 4 U (zj ?_))
 refine zw U U ?_
 exact⟨U,c7⟩
theorem zqD(e d:EvV)(x y:EvT)(w:Wl)(hx:zbj w e x)(hy:zbj w d y)(mx:zcY x)(my:zcY y):zS TP 58 #[.agg (evC x e).toArray,.agg (evC y d).toArray] w fun r w'=>r=.bool (decide (x=y))∧zk [] w w':=by
 refine A2 Tryz.func58 U U ?_
 refine Sr ?_
 refine Ob U U ?_
 intro b2 w2 e2 n2 c2 k2
 refine Ob U U ?_
 intro b3 w3 e3 n3 c3 k3
 refine Oa U (E2 2 3 U ?_)
 have k2:zO w3 b2 39 (evC x e):=k2.chg0 c3
 have k3:zO w3 b3 39 (evC y d):=k3
 have hcc:=c2.trans c3
 refine zf ?_
 by_cases hk:x.k=y.k
 ·by_cases ht:x.t=y.t
  ·by_cases hs:x.s=y.s
   ·by_cases ho:x.o=y.o
    ·by_cases hw:x.w=y.w
     ·refine za (Od zbA U (Ol zeI U (k2.cell' (i:=0) U) (Od zbA U (Ol zeI U (k3.cell' (i:=0) U) (Og (vt (zy U U) (dt hk)) U (Om U (Oi U (zd yd U) (Oi U (zg yI U (k2.cell' (i:=1) U)) (Oi U (zd yd U) (Oi U (zg yI U (k3.cell' (i:=1) U)) (Oi U (vt (zaQ U U) (dt ht)) (Ot U (Om U (Oi U (zd zbc U) ?_))))))))))))))
      refine Oi U (zh zaX zaS U U (zv.of_blk k2 2 [e.c,e.ky,e.u] ⟨[e.o,e.n,e.m],U⟩)) ?_
      refine Oi U (zd zbc U) ?_
      refine Oi U (zh zaX zaS U U (zv.of_blk k3 2 [d.c,d.ky,d.u] ⟨[d.o,d.n,d.m],U⟩)) ?_
      refine Ow U U zoH U U U (zg0 _ _ _ _ _ _ x.s y.s _ (hx.sch.chg0 hcc) (hy.sch.chg0 hcc) mx.s my.s) ?_
      rintro v22 w22⟨e22,c22⟩
      rw[dt hs]at e22
      subst e22
      refine Ot U (Om U (Oi U (zd y6 U) (Oi U (zg yU U ((k2.chg0 c22).cell' (i:=5) U)) (Oi U (zd y6 U) (Oi U (zg yU U ((k3.chg0 c22).cell' (i:=5) U)) ?_)))))
      refine Ow U U zm9 U U U (zhs _ _ x.o y.o _ (zN.chg0 hx.old (hcc.trans c22)) (zN.chg0 hy.old (hcc.trans c22)) mx.o my.o) ?_
      rintro v29 w29⟨e29,c29⟩
      rw[dt ho]at e29
      subst e29
      refine Ot U (Om U (Oi U (zd zaY U) ?_))
      refine Oi U (zg yU U (((k2.chg0 c22).chg0 c29).cell' (i:=6) U)) ?_
      refine Oi U (zd zaY U) ?_
      refine Oi U (zg yU U (((k3.chg0 c22).chg0 c29).cell' (i:=6) U)) ?_
      refine Ow U U zm9 U U U (zhs _ _ x.w y.w _ (zN.chg0 hx.new ((hcc.trans c22).trans c29)) (zN.chg0 hy.new ((hcc.trans c22).trans c29)) mx.w my.w) ?_
      rintro v36 w36⟨e36,c36⟩
      rw[dt hw]at e36
      subst e36
      refine Ot U (Om U (Oi U (zd zaa U) ?_))
      refine Oi U (zg zcC U ((((k2.chg0 c22).chg0 c29).chg0 c36).cell' (i:=7) U)) ?_
      refine Oi U (zd zaa U) ?_
      refine Oi U (zg zcC U ((((k3.chg0 c22).chg0 c29).chg0 c36).cell' (i:=7) U)) ?_
      refine Ow U U zzX U U U (ztl _ _ x.m y.m _ (zN.chg0 hx.nm (((hcc.trans c22).trans c29).trans c36)) (zN.chg0 hy.nm (((hcc.trans c22).trans c29).trans c36)) mx.m my.m) ?_
      rintro v43 w43⟨rfl,c43⟩
      refine Ot U (Oa U (E1 4 U (zj ?_)))
      refine zw U U ?_
      obtain⟨k,t,s,o,v,m⟩:=x
      obtain⟨k',t',s',o',v',m'⟩:=y
      simp only at hk ht hs ho hw
      subst hk ht hs ho hw
      exact⟨by simp,(((hcc.trans c22).trans c29).trans c36).trans c43⟩
     refine za (Od zbA U (Ol zeI U (k2.cell' (i:=0) U) (Od zbA U (Ol zeI U (k3.cell' (i:=0) U) (Og (vt (zy U U) (dt hk)) U (Om U (Oi U (zd yd U) (Oi U (zg yI U (k2.cell' (i:=1) U)) (Oi U (zd yd U) (Oi U (zg yI U (k3.cell' (i:=1) U)) (Oi U (vt (zaQ U U) (dt ht)) (Ot U (Om U (Oi U (zd zbc U) ?_))))))))))))))
     refine Oi U (zh zaX zaS U U (zv.of_blk k2 2 [e.c,e.ky,e.u] ⟨[e.o,e.n,e.m],U⟩)) ?_
     refine Oi U (zd zbc U) ?_
     refine Oi U (zh zaX zaS U U (zv.of_blk k3 2 [d.c,d.ky,d.u] ⟨[d.o,d.n,d.m],U⟩)) ?_
     refine Ow U U zoH U U U (zg0 _ _ _ _ _ _ x.s y.s _ (hx.sch.chg0 hcc) (hy.sch.chg0 hcc) mx.s my.s) ?_
     rintro v22 w22⟨e22,c22⟩
     rw[dt hs]at e22
     subst e22
     refine Ot U (Om U (Oi U (zd y6 U) (Oi U (zg yU U ((k2.chg0 c22).cell' (i:=5) U)) (Oi U (zd y6 U) (Oi U (zg yU U ((k3.chg0 c22).cell' (i:=5) U)) ?_)))))
     refine Ow U U zm9 U U U (zhs _ _ x.o y.o _ (zN.chg0 hx.old (hcc.trans c22)) (zN.chg0 hy.old (hcc.trans c22)) mx.o my.o) ?_
     rintro v29 w29⟨e29,c29⟩
     rw[dt ho]at e29
     subst e29
     refine Ot U (Om U (Oi U (zd zaY U) ?_))
     refine Oi U (zg yU U (((k2.chg0 c22).chg0 c29).cell' (i:=6) U)) ?_
     refine Oi U (zd zaY U) ?_
     refine Oi U (zg yU U (((k3.chg0 c22).chg0 c29).cell' (i:=6) U)) ?_
     refine Ow U U zm9 U U U (zhs _ _ x.w y.w _ (zN.chg0 hx.new ((hcc.trans c22).trans c29)) (zN.chg0 hy.new ((hcc.trans c22).trans c29)) mx.w my.w) ?_
     rintro v36 w36⟨e36,c36⟩
     rw[df hw]at e36
     subst e36
     refine Ot U (Om U (Ok U (Ok U (Ok U (Ok U (Ok U (Of U (Oa U (E1 4 U (zj ?_))))))))))
     refine zw U U ?_
     exact⟨by rw[df (fun h=>hw (by rw[h]))],((hcc.trans c22).trans c29).trans c36⟩
    refine za (Od zbA U (Ol zeI U (k2.cell' (i:=0) U) (Od zbA U (Ol zeI U (k3.cell' (i:=0) U) (Og (vt (zy U U) (dt hk)) U (Om U (Oi U (zd yd U) (Oi U (zg yI U (k2.cell' (i:=1) U)) (Oi U (zd yd U) (Oi U (zg yI U (k3.cell' (i:=1) U)) (Oi U (vt (zaQ U U) (dt ht)) (Ot U (Om U (Oi U (zd zbc U) ?_))))))))))))))
    refine Oi U (zh zaX zaS U U (zv.of_blk k2 2 [e.c,e.ky,e.u] ⟨[e.o,e.n,e.m],U⟩)) ?_
    refine Oi U (zd zbc U) ?_
    refine Oi U (zh zaX zaS U U (zv.of_blk k3 2 [d.c,d.ky,d.u] ⟨[d.o,d.n,d.m],U⟩)) ?_
    refine Ow U U zoH U U U (zg0 _ _ _ _ _ _ x.s y.s _ (hx.sch.chg0 hcc) (hy.sch.chg0 hcc) mx.s my.s) ?_
    rintro v22 w22⟨e22,c22⟩
    rw[dt hs]at e22
    subst e22
    refine Ot U (Om U (Oi U (zd y6 U) (Oi U (zg yU U ((k2.chg0 c22).cell' (i:=5) U)) (Oi U (zd y6 U) (Oi U (zg yU U ((k3.chg0 c22).cell' (i:=5) U)) ?_)))))
    refine Ow U U zm9 U U U (zhs _ _ x.o y.o _ (zN.chg0 hx.old (hcc.trans c22)) (zN.chg0 hy.old (hcc.trans c22)) mx.o my.o) ?_
    rintro v29 w29⟨e29,c29⟩
    rw[df ho]at e29
    subst e29
    refine Ot U (Om U (Ok U (Ok U (Ok U (Ok U (Ok U (Of U (Om U (Ok U (Ok U (Ok U (Ok U (Ok U (Of U (Oa U (E1 4 U (zj ?_)))))))))))))))))
    refine zw U U ?_
    exact⟨by rw[df (fun h=>ho (by rw[h]))],(hcc.trans c22).trans c29⟩
   refine za (Od zbA U (Ol zeI U (k2.cell' (i:=0) U) (Od zbA U (Ol zeI U (k3.cell' (i:=0) U) (Og (vt (zy U U) (dt hk)) U (Om U (Oi U (zd yd U) (Oi U (zg yI U (k2.cell' (i:=1) U)) (Oi U (zd yd U) (Oi U (zg yI U (k3.cell' (i:=1) U)) (Oi U (vt (zaQ U U) (dt ht)) (Ot U (Om U (Oi U (zd zbc U) ?_))))))))))))))
   refine Oi U (zh zaX zaS U U (zv.of_blk k2 2 [e.c,e.ky,e.u] ⟨[e.o,e.n,e.m],U⟩)) ?_
   refine Oi U (zd zbc U) ?_
   refine Oi U (zh zaX zaS U U (zv.of_blk k3 2 [d.c,d.ky,d.u] ⟨[d.o,d.n,d.m],U⟩)) ?_
   refine Ow U U zoH U U U (zg0 _ _ _ _ _ _ x.s y.s _ (hx.sch.chg0 hcc) (hy.sch.chg0 hcc) mx.s my.s) ?_
   rintro v22 w22⟨e22,c22⟩
   rw[df hs]at e22
   subst e22
   refine Ot U (Om U (Ok U (Ok U (Ok U (Ok U (Ok U (Of U (Om U (Ok U (Ok U (Ok U (Ok U (Ok U (Of U (Om U (Ok U (Ok U (Ok U (Ok U (Ok U (Of U (Oa U (E1 4 U (zj ?_))))))))))))))))))))))))
   refine zw U U ?_
   exact⟨by rw[df (fun h=>hs (by rw[h]))],hcc.trans c22⟩
  refine za (Od zbA U (Ol zeI U (k2.cell' (i:=0) U) (Od zbA U (Ol zeI U (k3.cell' (i:=0) U) (Og (vt (zy U U) (dt hk)) U (Om U (Oi U (zd yd U) (Oi U (zg yI U (k2.cell' (i:=1) U)) (Oi U (zd yd U) (Oi U (zg yI U (k3.cell' (i:=1) U)) (Oi U (vf (zaQ U U) (df ht)) (Ot U (Om U (Ok U (Ok U (Ok U (Ok U (Ok U (Of U (Om U (Ok U (Ok U (Ok U (Ok U (Ok U (Of U (Om U (Ok U (Ok U (Ok U (Ok U (Ok U (Of U (Om U (Ok U (Ok U (Ok U (Ok U (Ok U ?_)))))))))))))))))))))))))))))))))))))))
  refine Of U (Oa U (E1 4 U (zj ?_)))
  refine zw U U ?_
  exact⟨by rw[df (fun h=>ht (by rw[h]))],hcc⟩
 refine za (Od zbA U (Ol zeI U (k2.cell' (i:=0) U) (Od zbA U (Ol zeI U (k3.cell' (i:=0) U) (Og (vf (zy U U) (df hk)) U (Om U (Ok U (Ok U (Ok U (Ok U (Ok U (Of U (Om U (Ok U (Ok U (Ok U (Ok U (Ok U (Of U (Om U (Ok U (Ok U (Ok U (Ok U (Ok U (Of U (Om U (Ok U (Ok U (Ok U (Ok U (Ok U (Of U (Om U (Ok U (Ok U (Ok U (Ok U (Ok U ?_)))))))))))))))))))))))))))))))))))))))
 refine Of U (Oa U (E1 4 U (zj ?_)))
 refine zw U U ?_
 exact⟨by rw[df (fun h=>hk (by rw[h]))],hcc⟩
def zcx(x:EvT)(e:EvV):EvV:=⟨if x.k=4 then e.c else zaV,if x.k=4 then e.ky else zaV,if x.k=4 then e.u else zaV,if x.k=2∨x.k=3 then e.o else zaV,if x.k=1∨x.k=2 then e.n else zaV,if x.k=6 then e.m else zaV⟩
theorem zhp(w:Wl):zai w zaV zaV zaV zfW:=⟨zN.nil _ _ _ _,zN.nil _ _ _ _,⟨[],Rd.nil w 1,Tt,by simp⟩,by intro v hv b hb;simp at hv;subst hv;simp[zaV,zhg]at hb⟩
theorem zlO{w:Wl}{e:EvV}{x:EvT}(h:zbj w e x):zbj w (zcx x e) (zaI x):=by
 refine⟨?_,?_,?_,?_,h.kr,?_,?_⟩
 ·unfold zaI zcx
  by_cases hk:x.k=4
  ·simp only[hk,if_true];exact h.sch
  simp only[hk,if_false];exact zhp w
 ·unfold zaI zcx
  by_cases hk:x.k=2∨x.k=3
  ·simp only[hk,if_true];exact h.old
  simp only[hk,if_false];exact zN.nil _ _ _ _
 ·unfold zaI zcx
  by_cases hk:x.k=1∨x.k=2
  ·simp only[hk,if_true];exact h.new
  simp only[hk,if_false];exact zN.nil _ _ _ _
 ·unfold zaI zcx
  by_cases hk:x.k=6
  ·simp only[hk,if_true];exact h.nm
  simp only[hk,if_false];exact zN.nil _ _ _ _
 ·unfold zaI
  by_cases hk:x.k=2∨x.k=3
  ·simp only[hk,if_true];exact h.ro
  simp only[hk,if_false];simp
 unfold zaI
 by_cases hk:x.k=1∨x.k=2
 ·simp only[hk,if_true];exact h.rw
 simp only[hk,if_false];simp
theorem zqq{x:EvT}(h:zcY x):zcY (zaI x):=by
 refine⟨?_,?_,?_,?_,?_,?_,?_⟩
 ·unfold zaI
  by_cases hk:x.k=4
  ·simp only[hk,if_true];exact h.s
  simp only[hk,if_false];constructor<;>simp[zfW]
 ·unfold zaI
  by_cases hk:x.k=2∨x.k=3
  ·simp only[hk,if_true];exact h.o
  simp only[hk,if_false];simp
 ·unfold zaI
  by_cases hk:x.k=1∨x.k=2
  ·simp only[hk,if_true];exact h.w
  simp only[hk,if_false];simp
 ·unfold zaI
  by_cases hk:x.k=6
  ·simp only[hk,if_true];exact h.m
  simp only[hk,if_false];simp
 ·unfold zaI
  by_cases hk:x.k=6
  ·simp only[hk,if_true];exact Zl _
  simp only[hk,if_false];exact h.t
 ·unfold zaI
  by_cases hk:x.k=4
  ·simp only[hk,if_true];exact h.cn
  simp only[hk,if_false];simp[zfW]
 unfold zaI
 by_cases hk:x.k=6
 ·simp only[hk,if_true];exact h.mn
 simp only[hk,if_false];simp
section
variable {x:EvT} {e:EvV}
theorem zyy(hk:x.k=1):evC (zaI x) (zcx x e)=[Ii x.k,.string x.t,zaV,zaV,zaV,zaV,e.n,zaV]:=by simp[evC,zaI,zcx,hk]
theorem zys(hk:x.k=2):evC (zaI x) (zcx x e)=[Ii x.k,.string x.t,zaV,zaV,zaV,e.o,e.n,zaV]:=by simp[evC,zaI,zcx,hk]
theorem zyT(hk:x.k=3):evC (zaI x) (zcx x e)=[Ii x.k,.string x.t,zaV,zaV,zaV,e.o,zaV,zaV]:=by simp[evC,zaI,zcx,hk]
theorem zx4(hk:x.k=4):evC (zaI x) (zcx x e)=[Ii x.k,.string x.t,e.c,e.ky,e.u,zaV,zaV,zaV]:=by simp[evC,zaI,zcx,hk]
theorem zy7(hk:x.k=6):evC (zaI x) (zcx x e)=[Ii x.k,.string e0,zaV,zaV,zaV,zaV,zaV,e.m]:=by simp[evC,zaI,zcx,hk]
theorem zzr(h1:x.k≠1)(h2:x.k≠2)(h3:x.k≠3)(h4:x.k≠4)(h6:x.k≠6):evC (zaI x) (zcx x e)=[Ii x.k,.string x.t,zaV,zaV,zaV,zaV,zaV,zaV]:=by simp[evC,zaI,zcx,h1,h2,h3,h4,h6]
end
theorem zhC(e:EvV)(x:EvT)(w:Wl)(hx:zbj w e x):zS TP 59 #[.agg (evC x e).toArray] w fun r w'=>r=.agg (evC (zaI x) (zcx x e)).toArray∧zk [] w w':=by
 obtain⟨c,ky,u,o,n,m⟩:=e
 obtain⟨po,co,rfl,_⟩:∃p q,o=.slice p x.o.length q∧x.o.length≤q:=zN.val hx.old
 obtain⟨pn,cn,rfl,_⟩:∃p q,n=.slice p x.w.length q∧x.w.length≤q:=zN.val hx.new
 obtain⟨pm,cm,rfl,_⟩:∃p q,m=.slice p x.m.length q∧x.m.length≤q:=zN.val hx.nm
 refine A1 Tryz.func59 U U ?_
 refine Sr ?_
 refine Ob U U ?_
 intro b1 w1 e1 n1 c1 k1
 refine Oq (zF zh6 U U ?_)
 intro b2 w2 e2 n2 c2 k2
 refine E2 1 2 U ?_
 have k1:zO w2 b1 39 (evC x ⟨c,ky,u,.slice po x.o.length co,.slice pn x.w.length cn,.slice pm x.m.length cm⟩):=k1.chg0 c2
 have hs1:=c1.size
 have hs2:=c2.size
 refine Sr (Od zbA U (Ol zeI U (k1.cell' (i:=0) U) (Od yd U (Ol yI U (k1.cell' (i:=1) U) ?_))))
 refine Og (zL zq0 zh6 U (vs:=[_,_]) U (css:=[_,_]) ⟨U,U,Tt⟩ U U (cs:=[_,_,_,_,_,_,_,_]) U) U ?_
 refine Oq (zF zh6 U U ?_)
 intro b3 w3 e3 n3 c3 k3
 refine Oq (zt zaD U U U U k3 (by simp) (by simp[Value.oneCell']) ?_)
 intro wA nA cA kA
 refine E3 1 2 3 U ?_
 have kA:zO wA b3 39 [Ii x.k,.string x.t,zaV,zaV,zaV,zaV,zaV,zaV]:=kA
 have h1:=k1.lt
 have k1:=(k1.chg0 c3).chg cA (by simp;omega)
 have k2l:=k2.lt
 have k2:=(k2.chg0 c3).chg cA (by simp;omega)
 have h3:w.heap.size≤b3∧b1≠b3∧b2≠b3:=by omega
 have hcA:=((c1.trans c2).trans c3).own cA (by intro y hy;simp at hy;omega)
 have oc:=zN.one1 hx.sch.cols
 have ok:=zN.one1 hx.sch.key
 have ou:=hx.sch.uq.one1
 have oo:=zN.one1 hx.old
 have on:=zN.one1 hx.new
 have om:=zN.one1 hx.nm
 refine zR (fun F wx=>prune [2,3] F=[(2,Pt b2),(3,Pt b3)]∧zO wx b3 39 (evC (zaI x) (zcx x ⟨c,ky,u,.slice po x.o.length co,.slice pn x.w.length cn,.slice pm x.m.length cm⟩))∧zk [b3] wA wx) ?_ ?_
 ·refine Sr (Od zbA U (Ol zeI U (k1.cell' (i:=0) U) (E4 1 2 3 10 U (zp (zf (zp (zf (zp (zf (zp (zf (zp (zf (zp ?_))))))))))))))
  by_cases hk1:x.k=1
  ·have hk:=hk1
   refine zf (zf (Sr (Og (vt (zy U U) (dt hk)) U (Oa U (E5 1 2 3 10 11 U (ze U ?_))))))
   refine zI ?_
   repeat first|refine te ?_|refine bo rfl ?_
   refine zq _ ?_
   refine Sr (Od zaY U (Ol yU U (k1.cell' (i:=6) U) (Od zaY U ?_)))
   refine Oq (zt zeg U U U U kA (by simp) (by simp[Value.oneCell']) ?_)
   intro wB nB cB kB
   refine E2 2 3 U ?_
   refine zI ?_
   repeat first|refine te ?_|refine bo rfl ?_
   refine zq _ ?_
   exact⟨rfl,by rw[zyy  hk];exact kB,cB⟩
  skip
  by_cases hk2:x.k=2
  ·have hk:=hk2
   refine zf (zf (Sr ?_))
   refine Og (vf (zy U U) (df (by omega))) U ?_
   refine Oa U (E5 1 2 3 10 11 U (zb U (zm (zf (Sr (Og (vt (zy U U) (dt hk)) U (Oa U (E5 1 2 3 10 13 U (ze U ?_)))))))))
   refine zI ?_
   repeat first|refine te ?_|refine bo rfl ?_
   refine zq _ ?_
   refine za (Od zaY U (Ol yU U (k1.cell' (i:=6) U) (Od zaY U ?_)))
   refine Oq (zt zeg U U U U kA (by simp) (by simp[Value.oneCell']) ?_)
   intro wB nB cB kB
   refine N3 1 2 3 U (zl ?_)
   have k1:=k1.chg cB (by simp;omega)
   refine Sr (Od y6 U (Ol yU U (k1.cell' (i:=5) U) (Od y6 U ?_)))
   refine Oq (zt zeg U U U U kB (by simp[yY]) (by simp[Value.oneCell']) ?_)
   intro wC nC cC kC
   refine E2 2 3 U ?_
   refine zI ?_
   repeat first|refine te ?_|refine bo rfl ?_
   refine zq _ ?_
   exact⟨rfl,by rw[zys  hk];exact kC,cB.transS cC⟩
  skip
  by_cases hk3:x.k=3
  ·have hk:=hk3
   refine zf (zf (Sr ?_))
   refine Og (vf (zy U U) (df (by omega))) U ?_
   refine Oa U (E5 1 2 3 10 11 U (zb U (zm (zf (Sr ?_)))))
   refine Og (vf (zy U U) (df (by omega))) U ?_
   refine Oa U (E5 1 2 3 10 13 U (zb U (zm (zf (Sr (Og (vt (zy U U) (dt hk)) U (Oa U (E5 1 2 3 10 15 U (ze U ?_)))))))))
   refine zI ?_
   repeat first|refine te ?_|refine bo rfl ?_
   refine zq _ ?_
   refine Sr (Od y6 U (Ol yU U (k1.cell' (i:=5) U) (Od y6 U ?_)))
   refine Oq (zt zeg U U U U kA (by simp) (by simp[Value.oneCell']) ?_)
   intro wB nB cB kB
   refine E2 2 3 U ?_
   refine zI ?_
   repeat first|refine te ?_|refine bo rfl ?_
   refine zq _ ?_
   exact⟨rfl,by rw[zyT  hk];exact kB,cB⟩
  skip
  by_cases hk4:x.k=4
  ·have hk:=hk4
   refine zf (zf (Sr ?_))
   refine Og (vf (zy U U) (df (by omega))) U ?_
   refine Oa U (E5 1 2 3 10 11 U (zb U (zm (zf (Sr ?_)))))
   refine Og (vf (zy U U) (df (by omega))) U ?_
   refine Oa U (E5 1 2 3 10 13 U (zb U (zm (zf (Sr ?_)))))
   refine Og (vf (zy U U) (df (by omega))) U ?_
   refine Oa U (E5 1 2 3 10 15 U (zb U (zm (zf (Sr (Og (vt (zy U U) (dt hk)) U (Oa U (E5 1 2 3 10 17 U (ze U ?_)))))))))
   refine zI ?_
   repeat first|refine te ?_|refine bo rfl ?_
   refine zq _ ?_
   refine Sr (Od zbc U ?_)
   refine Og (zh zaX zaS U U (zv.of_blk k1 2 [c,ky,u] ⟨[_,_,_],U⟩)) U ?_
   refine Od zbc U ?_
   refine Oq (zt zaS U U U U kA (by simp) (by intro u hu;simp at hu;rcases hu with rfl|rfl|rfl;exact oc;exact ok;exact ou) ?_)
   intro wB nB cB kB
   refine E2 2 3 U ?_
   refine zI ?_
   repeat first|refine te ?_|refine bo rfl ?_
   refine zq _ ?_
   exact⟨rfl,by rw[zx4  hk];exact kB,cB⟩
  skip
  by_cases hk6:x.k=6
  ·have hk:=hk6
   refine zf (zf (Sr ?_))
   refine Og (vf (zy U U) (df (by omega))) U ?_
   refine Oa U (E5 1 2 3 10 11 U (zb U (zm (zf (Sr ?_)))))
   refine Og (vf (zy U U) (df (by omega))) U ?_
   refine Oa U (E5 1 2 3 10 13 U (zb U (zm (zf (Sr ?_)))))
   refine Og (vf (zy U U) (df (by omega))) U ?_
   refine Oa U (E5 1 2 3 10 15 U (zb U (zm (zf (Sr ?_)))))
   refine Og (vf (zy U U) (df (by omega))) U ?_
   refine Oa U (E5 1 2 3 10 17 U (zb U (zm (Sr (Og (vt (zy U U) (dt hk)) U (Oa U (E4 1 2 3 19 U (ze U ?_))))))))
   refine zI ?_
   repeat first|refine te ?_|refine bo rfl ?_
   refine zq _ ?_
   have hd:zk [] wA wA.drew:=zk.drew [] _
   refine zf ?_
   refine zH (fun wz=>zk [b3] wA wz) mix (by kernel_rfl) (hd.any (S:=[b3])) ?_
   refine Td zaa U ?_
   refine Tr (fun wz hz=>zg zcC U ((k1.chg hz (by simp;omega)).cell' (i:=7) U)) U ?_
   refine Td yd U ?_
   refine zaR U (gn U) (zt sz9 U U U U (kA.chg0 hd) (by simp) (by simp[Value.oneCell']) ?_)
   intro wB nB cB kB
   refine⟨.inl ((hd.any (S:=[b3])).transS cB),?_⟩
   refine Td zaa U ?_
   refine zaR U (gn U) (zt zDf U U U U kB (by simp[yY]) (by simp[Value.oneCell']) ?_)
   intro wC nC cC kC
   refine⟨.inr (by kernel_rfl),?_⟩
   refine D2 2 3 U ?_
   refine zI ?_
   repeat first|refine te ?_|refine bo rfl ?_
   refine zq _ ?_
   exact⟨rfl,by rw[zy7  hk];exact kC,((hd.any (S:=[b3])).transS cB).transS cC⟩
  skip
  refine zf (zf (Sr ?_))
  refine Og (vf (zy U U) (df (by omega))) U ?_
  refine Oa U (E5 1 2 3 10 11 U (zb U (zm (zf (Sr ?_)))))
  refine Og (vf (zy U U) (df (by omega))) U ?_
  refine Oa U (E5 1 2 3 10 13 U (zb U (zm (zf (Sr ?_)))))
  refine Og (vf (zy U U) (df (by omega))) U ?_
  refine Oa U (E5 1 2 3 10 15 U (zb U (zm (zf (Sr ?_)))))
  refine Og (vf (zy U U) (df (by omega))) U ?_
  refine Oa U (E5 1 2 3 10 17 U (zb U (zm (Sr ?_))))
  refine Og (vf (zy U U) (df (by omega))) U ?_
  refine Oa U (E4 1 2 3 19 U (zb U (zm ?_)))
  refine zI ?_
  repeat first|refine te ?_|refine bo rfl ?_
  refine zq _ ?_
  exact⟨rfl,by rw[zzr  hk1 hk2 hk3 hk4 hk6];exact kA,zk.refl _ _⟩
 rintro F wx⟨hF,kx,hcx⟩
 have k2:=k2.chg hcx (by simp;omega)
 refine zae [2,3] hF ?_
 refine Sr (Og (zh zbO zaD U U (zv.of_blk0 kx)) U ?_)
 refine Oq (zt zaD U U U U k2 (by simp[evC]) (zlO hx).one ?_)
 intro wD nD cD kD
 refine E1 2 U ?_
 have kD:zO wD b2 39 (evC (zaI x) (zcx x ⟨c,ky,u,.slice po x.o.length co,.slice pn x.w.length cn,.slice pm x.m.length cm⟩)):=kD
 refine zj ?_
 refine zf0 U zbO zaD U U (zv.of_blk0 kD) ?_
 exact⟨rfl,(hcA.own hcx (by intro y hy;simp at hy;omega)).own cD (by intro y hy;simp at hy;omega)⟩
section
variable {x:EvT} {e:EvV} {w:Wl}
theorem zrl(hE:EOk w):zS TP 153 #[.agg (evC x e).toArray] w fun r w'=>r=.bool (yT x.t)∧zk [] w w':=by
 refine A1 Tryz.func153 U U ?_
 refine Sr ?_
 refine Ob U U ?_
 intro b1 w1 e1 n1 c1 k1
 refine Oa U (E1 1 U ?_)
 have k1:zO w1 b1 39 (evC x e):=k1
 refine Sr (Od yd U (Ol yI U (k1.cell' (i:=1) U) ?_))
 refine Oc zpW U U U (zhD x.t _ (hE.chg0 c1)) ?_
 rintro v5 w5⟨rfl,c5⟩
 refine Oa U (E1 2 U (zj ?_))
 refine zw U U ?_
 exact⟨U,c1.trans c5⟩
theorem zq5(hx:zbj w e x)(hm:zcY x):zS TP 157 #[.agg (evC x e).toArray] w fun r w'=>r=.bool (yJ x.s)∧zk [] w w':=by
 refine A1 Tryz.func157 U U ?_
 refine Sr ?_
 refine Ob U U ?_
 intro b1 w1 e1 n1 c1 k1
 refine Oa U (E1 1 U ?_)
 have k1:zO w1 b1 39 (evC x e):=k1
 refine Sr (Od zbc U ?_)
 refine Og (zh zaX zaS U U (zv.of_blk k1 2 [e.c,e.ky,e.u] ⟨[e.o,e.n,e.m],U⟩)) U ?_
 refine Oc zlb U U U (zgB _ _ _ x.s _ (hx.sch.chg0 c1) hm.s) ?_
 rintro v5 w5⟨rfl,c5⟩
 refine Og (zy U U) U (Oa U (E1 2 U (zj ?_)))
 refine zw U U ?_
 exact⟨by cases yJ x.s<;>rfl,c1.trans c5⟩
theorem zpd(p:By×By)(hE:EOk w):zS TP 164 #[.agg (pcs p).toArray] w fun r w'=>r=.bool (!(yT p.1&&yT p.2))∧zk [] w w':=by
 refine A1 Tryz.func164 U U ?_
 refine Sr ?_
 refine Ob U U ?_
 intro b1 w1 e1 n1 c1 k1
 refine Oa U (E1 1 U ?_)
 have k1:zO w1 b1 78 [.string p.1,.string p.2]:=k1
 refine zf ?_
 cases hn:yT p.1 with
 |false=>
  refine za ?_
  refine Og (zK zco sz9 U U 0 U (by decide)) U ?_
  refine Ol yI U (k1.cell' (i:=0) U) ?_
  refine Oc zpW U U U (zhD p.1 _ (hE.chg0 c1)) ?_
  rintro v5 w5⟨e5,c5⟩
  rw[hn]at e5
  subst e5
  refine Og (zC U) U (Om U (Ok U (Ok U (Ok U (Ok U (Ot U (Oa U (E1 2 U (zj ?_)))))))))
  refine zw U U ?_
  exact⟨U,c1.trans c5⟩
 |true=>
  refine za ?_
  refine Og (zK zco sz9 U U 0 U (by decide)) U ?_
  refine Ol yI U (k1.cell' (i:=0) U) ?_
  refine Oc zpW U U U (zhD p.1 _ (hE.chg0 c1)) ?_
  rintro v5 w5⟨e5,c5⟩
  rw[hn]at e5
  subst e5
  refine Og (zC U) U (Om U ?_)
  refine Oi U (zK zco sz9 U U 1 U (by decide)) ?_
  refine Oi U (zg yI U ((k1.chg0 c5).cell' (i:=1) U)) ?_
  refine Ow U U zpW U U U (zhD p.2 _ (hE.chg0 (c1.trans c5))) ?_
  rintro v10 w10⟨rfl,c10⟩
  refine Oi U (zC U) (Of U (Oa U (E1 2 U (zj ?_))))
  refine zw U U ?_
  exact⟨by simp,(c1.trans c5).trans c10⟩
theorem zpp{α:Type}(p:α→Bool)(l:List α):(!l.any fun x => !p x)=l.all p:=by rw[List.not_any_eq_all_not];simp
theorem zq9(hE:EOk w)(hx:zbj w e x)(hm:zcY x):zS TP 163 #[.agg (evC x e).toArray] w fun r w'=>r=.bool (zdk x.m)∧zk [] w w':=by
 obtain⟨c,ky,u,o,n,m⟩:=e
 obtain⟨pm,cm,rfl,_⟩:∃p q,m=.slice p x.m.length q∧x.m.length≤q:=zN.val hx.nm
 refine A1 Tryz.func163 U U ?_
 refine Sr ?_
 refine Ob U U ?_
 intro b1 w1 e1 n1 c1 k1
 refine Oa U (E1 1 U ?_)
 have k1:zO w1 b1 39 (evC x ⟨c,ky,u,o,n,.slice pm x.m.length cm⟩):=k1
 refine zf ?_
 by_cases h1:1≤x.m.length
 ·by_cases h4:x.m.length≤4
  ·refine za (Od zaa U (Ol zcC U (k1.cell' (i:=7) U) (On zaF U ?_)))
   refine Og (vt (yc U U) (dt (by omega))) U ?_
   refine Om U (Oi U (zd zaa U) (Oi U (zg zcC U (k1.cell' (i:=7) U)) (Oi U (zV zaF U) ?_)))
   refine Oi U (vt (za7 U U) (dt (by omega))) ?_
   refine Ot U (Om U (Oi U (zd zaa U) (Oi U (zg zcC U (k1.cell' (i:=7) U)) ?_)))
   refine Ow U U zsd U U U (zpj zbu _ x.m (fun p => !(yT p.1&&yT p.2)) 164 [] _ (zN.chg0 hx.nm c1) hm.m zAM (fun p _ w1 h1=>zpd p (hE.chg0 (c1.trans h1)))) ?_
   rintro v16 w16⟨rfl,c16⟩
   refine Oi U (zC U) (Ot U (Oa U (E1 2 U (zj ?_))))
   refine zw U U ?_
   refine⟨?_,c1.trans c16⟩
   rw[zpp (fun p:By×By=>yT p.1&&yT p.2)]
   simp[zdk,h1,h4]
  refine za (Od zaa U (Ol zcC U (k1.cell' (i:=7) U) (On zaF U ?_)))
  refine Og (vt (yc U U) (dt (by omega))) U ?_
  refine Om U (Oi U (zd zaa U) (Oi U (zg zcC U (k1.cell' (i:=7) U)) (Oi U (zV zaF U) ?_)))
  refine Oi U (vf (za7 U U) (df (by omega))) ?_
  refine Ot U (Om U (Ok U (Ok U (Ok U (Ok U (Of U (Oa U (E1 2 U (zj ?_)))))))))
  refine zw U U ?_
  exact⟨by simp[zdk,h4],c1⟩
 refine za (Od zaa U (Ol zcC U (k1.cell' (i:=7) U) (On zaF U ?_)))
 refine Og (vf (yc U U) (df (by omega))) U ?_
 refine Om U (Ok U (Ok U (Ok U (Ok U (Of U (Om U (Ok U (Ok U (Ok U (Ok U (Of U (Oa U (E1 2 U (zj ?_))))))))))))))
 refine zw U U ?_
 exact⟨by simp[zdk,h1],c1⟩
theorem zxT(b:Nat)(w:Wl):zS TP 95 #[Pt b] w fun r w'=>r=.pointer (some ⟨b,5,none⟩)∧w'=w:=by
 refine A1 Tryz.func95 U U ?_
 refine Sr (Oa U (E1 0 U (Sr (Om U (Og (zx U) U (Od y6 U (Oa U (E1 2 U (zj ?_)))))))))
 refine zw U U ?_
 exact⟨U,U⟩
theorem zxW(b:Nat)(w:Wl):zS TP 96 #[Pt b] w fun r w'=>r=.pointer (some ⟨b,6,none⟩)∧w'=w:=by
 refine A1 Tryz.func96 U U ?_
 refine Sr (Oa U (E1 0 U (Sr (Om U (Og (zx U) U (Od zaY U (Oa U (E1 2 U (zj ?_)))))))))
 refine zw U U ?_
 exact⟨U,U⟩
theorem zsY(y:zX):zS TP 143 #[.agg y.cs.toArray] w fun r w'=>r=.bool (!decide (za2 y=0))∧zk [] w w':=by
 refine A1 Tryz.func143 U U ?_
 refine Sr ?_
 refine Ob U U ?_
 intro b1 w1 e1 n1 c1 k1
 refine Oa U (E1 1 U ?_)
 have k1:zO w1 b1 111 y.cs:=k1
 refine Sr (Og (zh zaJ ym U U (zv.of_blk0 k1)) U ?_)
 refine Oc zuD U U U (zlT y _) ?_
 rintro v4 w4⟨rfl,c4⟩
 refine Og (zJ U U) U (Oa U (E1 2 U (zj ?_)))
 refine zw U U ?_
 exact⟨U,c1.trans c4⟩
theorem zqN(f:Nat)(hf:zn TP f=true)(i:Nat)(v:Va)(l:List zX)(bo:Nat)(hb:zO w bo 182 [fnV f []])(hi:(evC x e)[i]?=some v)(hv:ya w v l)(hn:l.length≤1048576)
 (hat:∀b w,zS TP f #[Pt b] w fun r w'=>r=.pointer (some ⟨b,i,none⟩)∧w'=w) :
 zS TP 141 #[.agg (evC x e).toArray,Pt bo] w fun r w'=>r=.bool (zex l)∧zk [] w w':=by
 obtain⟨pv,cv,rfl,_⟩:=zN.val hv
 refine A2 Tryz.func141 U U ?_
 refine Sr ?_
 refine Ob U U ?_
 intro b2 w2 e2 n2 c2 k2
 refine Oa U (E2 1 2 U ?_)
 have k2:zO w2 b2 39 (evC x e):=k2
 have hb:=hb.chg0 c2
 refine Sr (Ol zBU U (hb.cell' (i:=0) U) ?_)
 refine Oc hf U U U (hat b2 _) ?_
 rintro v6 w6⟨rfl,rfl⟩
 refine Og (zx U) U (Ol yU U (k2.cell' hi) (Oa U (E1 4 U (zf ?_))))
 by_cases h1:1≤l.length
 ·by_cases h8:l.length≤8
  ·refine za (Om U (On yE U ?_))
   refine Og (vt (yc U U) (dt (by omega))) U ?_
   refine Om U (Ov U (Oi U (zV yE U) ?_))
   refine Oi U (vt (za7 U U) (dt (by omega))) ?_
   refine Ot U (Om U (Ov U ?_))
   refine Ow U U zxB U U U (zuH (f:=zX.cs) zbr _ l (fun y => !decide (za2 y=0)) 143 [] _ (zN.chg0 hv c2) hn zAg (fun y _ w1 _=>zsY y)) ?_
   rintro v19 w19⟨rfl,c19⟩
   refine Oi U (zC U) (Ot U (Oa U (E1 3 U (zj ?_))))
   refine zw U U ?_
   refine⟨?_,c2.trans c19⟩
   rw[zpp (fun y:zX=>decide (za2 y=0))]
   simp[zex,h1,h8]
  refine za (Om U (On yE U ?_))
  refine Og (vt (yc U U) (dt (by omega))) U ?_
  refine Om U (Ov U (Oi U (zV yE U) ?_))
  refine Oi U (vf (za7 U U) (df (by omega))) ?_
  refine Ot U (Om U (Ok U (Ok U (Ok U (Of U (Oa U (E1 3 U (zj ?_))))))))
  refine zw U U ?_
  exact⟨by simp[zex,h8],c2⟩
 refine za (Om U (On yE U ?_))
 refine Og (vf (yc U U) (df (by omega))) U ?_
 refine Om U (Ok U (Ok U (Ok U (Of U (Om U (Ok U (Ok U (Ok U (Of U (Oa U (E1 3 U (zj ?_))))))))))))
 refine zw U U ?_
 exact⟨by simp[zex,h1],c2⟩
def ze7(bo bn:Nat)(k:Nat):LA:=if k=0 then zfu else if k=1 then zmv else if k=2 then zmO else if k=3 then zea bo else zea bn
def zkE(x:EvT)(k:Nat):Bool:=if k=0 then yT x.t else if k=1 then yJ x.s else if k=2 then zdk x.m else if k=3 then zex x.o else zex x.w
theorem znx(bo bn k:Nat):(ze7 bo bn k).length=3:=by unfold ze7;split;rfl;split;rfl;split;rfl;split<;>rfl
theorem zs4(bo bn k:Nat):∀u∈ze7 bo bn k,u.oneCell'=true:=by
 have h:∀l:LA,l=zfu∨l=zmv∨l=zmO∨(∃b,l=zea b)→∀u∈l,u.oneCell'=true:=by
  rintro l (rfl|rfl|rfl|⟨b,rfl⟩) u hu<;>simp only[zfu,zmv,zmO,zea,List.mem_cons,List.not_mem_nil,or_false]at hu<;>rcases hu with rfl|rfl|rfl<;>rfl
 refine h _ ?_
 unfold ze7
 split
 ·exact .inl U
 split
 ·exact .inr (.inl U)
 split
 ·exact .inr (.inr (.inl U))
 split
 ·exact .inr (.inr (.inr ⟨_,U⟩))
 exact .inr (.inr (.inr ⟨_,U⟩))
theorem zrK(bo bn k b:Nat)(hE:EOk w)(hx:zbj w e x)(hm:zcY x)(hb:zO w b 39 (evC x e))(ho:zO w bo 182 [fnV 95 []])(hn:zO w bn 182 [fnV 96 []]) :
 zS TP 61 #[.agg (ze7 bo bn k).toArray,Pt b] w fun r w'=>r=.bool (!zkE x k)∧zk [] w w':=by
 refine A2 Tryz.func61 U U ?_
 refine zf ?_
 unfold ze7 zkE
 by_cases h0:k=0
 ·rw[if_pos h0,if_pos h0]
  refine za ?_
  refine Ob U U ?_
  intro b2 w2 e2 n2 c2 k2
  refine Oa U (E2 1 2 U ?_)
  have k2:zO w2 b2 137 zfu:=k2
  refine Sr (Od zhF U (Ol zta U (k2.cell' (i:=0) U) (Og (zh zbO zaD U U (zv.of_blk0 (hb.chg0 c2))) U ?_)))
  refine Oc zBc U U U (zrl (hE.chg0 c2)) ?_
  rintro v7 w7⟨rfl,c7⟩
  refine Og (zC U) U (Oa U (E1 3 U (zj ?_)))
  refine zw U U ?_
  exact⟨U,c2.trans c7⟩
 rw[if_neg h0,if_neg h0]
 by_cases h1:k=1
 ·rw[if_pos h1,if_pos h1]
  refine za ?_
  refine Ob U U ?_
  intro b2 w2 e2 n2 c2 k2
  refine Oa U (E2 1 2 U ?_)
  have k2:zO w2 b2 137 zmv:=k2
  refine Sr (Od zhF U (Ol zta U (k2.cell' (i:=0) U) (Og (zh zbO zaD U U (zv.of_blk0 (hb.chg0 c2))) U ?_)))
  refine Oc zAv U U U (zq5 (hx.chg0 c2) hm) ?_
  rintro v7 w7⟨rfl,c7⟩
  refine Og (zC U) U (Oa U (E1 3 U (zj ?_)))
  refine zw U U ?_
  exact⟨U,c2.trans c7⟩
 rw[if_neg h1,if_neg h1]
 by_cases h2:k=2
 ·rw[if_pos h2,if_pos h2]
  refine za ?_
  refine Ob U U ?_
  intro b2 w2 e2 n2 c2 k2
  refine Oa U (E2 1 2 U ?_)
  have k2:zO w2 b2 137 zmO:=k2
  refine Sr (Od zhF U (Ol zta U (k2.cell' (i:=0) U) (Og (zh zbO zaD U U (zv.of_blk0 (hb.chg0 c2))) U ?_)))
  refine Oc zBE U U U (zq9 (hE.chg0 c2) (hx.chg0 c2) hm) ?_
  rintro v7 w7⟨rfl,c7⟩
  refine Og (zC U) U (Oa U (E1 3 U (zj ?_)))
  refine zw U U ?_
  exact⟨U,c2.trans c7⟩
 rw[if_neg h2,if_neg h2]
 by_cases h3:k=3
 ·rw[if_pos h3,if_pos h3]
  refine za ?_
  refine Ob U U ?_
  intro b2 w2 e2 n2 c2 k2
  refine Oa U (E2 1 2 U ?_)
  have k2:zO w2 b2 137 (zea bo):=k2
  refine Sr (Od zhF U (Ol zta U (k2.cell' (i:=0) U) (Og (zh zbO zaD U U (zv.of_blk0 (hb.chg0 c2))) U ?_)))
  refine Oc zxG U U U (zqN 95 zC4 5 e.o x.o bo (ho.chg0 c2) U (zN.chg0 hx.old c2) hm.o zxT) ?_
  rintro v7 w7⟨rfl,c7⟩
  refine Og (zC U) U (Oa U (E1 3 U (zj ?_)))
  refine zw U U ?_
  exact⟨U,c2.trans c7⟩
 rw[if_neg h3,if_neg h3]
 refine za ?_
 refine Ob U U ?_
 intro b2 w2 e2 n2 c2 k2
 refine Oa U (E2 1 2 U ?_)
 have k2:zO w2 b2 137 (zea bn):=k2
 refine Sr (Od zhF U (Ol zta U (k2.cell' (i:=0) U) (Og (zh zbO zaD U U (zv.of_blk0 (hb.chg0 c2))) U ?_)))
 refine Oc zxG U U U (zqN 96 zDM 6 e.n x.w bn (hn.chg0 c2) U (zN.chg0 hx.new c2) hm.w zxW) ?_
 rintro v7 w7⟨rfl,c7⟩
 refine Og (zC U) U (Oa U (E1 3 U (zj ?_)))
 refine zw U U ?_
 exact⟨U,c2.trans c7⟩
end
def zfR(k:Int):Option (List Nat):=if k=1 then some [0,4] else if k=2 then some [0,3,4] else if k=3 then some [0,3] else if k=4 then some [0,1] else if k=5 then some [0] else if k=6 then some [2] else none
theorem zvl{es:List (Int×Va)}{k:Int}:(∀p∈es,p.1≠k)→zbb es k=none:=by
 induction es with
 |nil=>intro _;rfl
 |cons p r ih=>
  intro h
  unfold zbb
  rw[if_neg (h p (by simp))]
  exact ih fun q hq=>h q (by simp[hq])
theorem zrL{w:Wl}{m bo bn:Nat}{es:List (Int×Va)}(hK:ztO w m es bo bn)(k:Int):(∃l v,zfR k=some l∧zbb es k=some v∧SL w v (l.map (ze7 bo bn)))∨(zfR k=none∧zbb es k=none):=by
 by_cases h1:k=1
 ·subst h1
  obtain⟨v,g,p⟩:=hK.2.1 (4,1,3) (by decide)
  exact .inl ⟨_,v,U,g,p⟩
 by_cases h2:k=2
 ·subst h2
  obtain⟨v,g,p⟩:=hK.2.1 (9,2,8) (by decide)
  exact .inl ⟨_,v,U,g,p⟩
 by_cases h3:k=3
 ·subst h3
  obtain⟨v,g,p⟩:=hK.2.1 (13,3,12) (by decide)
  exact .inl ⟨_,v,U,g,p⟩
 by_cases h4:k=4
 ·subst h4
  obtain⟨v,g,p⟩:=hK.2.1 (17,4,16) (by decide)
  exact .inl ⟨_,v,U,g,p⟩
 by_cases h5:k=5
 ·subst h5
  obtain⟨v,g,p⟩:=hK.2.1 (20,5,19) (by decide)
  exact .inl ⟨_,v,U,g,p⟩
 by_cases h6:k=6
 ·subst h6
  obtain⟨v,g,p⟩:=hK.2.1 (23,6,22) (by decide)
  exact .inl ⟨_,v,U,g,p⟩
 refine .inr ⟨by simp[zfR,h1,h2,h3,h4,h5,h6],zvl fun p hp e=>?_⟩
 have:=hK.2.2.1 p hp
 omega
theorem zr6{x:EvT}{l:List Nat}(h:zfR x.k=some l):l.any (fun j => !zkE x j) = !zgZ x:=by
 unfold zfR at h
 by_cases h1:x.k=1
 ·rw[if_pos h1]at h;cases h;simp[zkE,zgZ,h1]
 rw[if_neg h1]at h
 by_cases h2:x.k=2
 ·rw[if_pos h2]at h;cases h;simp[zkE,zgZ,h2,Bool.or_assoc]
 rw[if_neg h2]at h
 by_cases h3:x.k=3
 ·rw[if_pos h3]at h;cases h;simp[zkE,zgZ,h3]
 rw[if_neg h3]at h
 by_cases h4:x.k=4
 ·rw[if_pos h4]at h;cases h;simp[zkE,zgZ,h4]
 rw[if_neg h4]at h
 by_cases h5:x.k=5
 ·rw[if_pos h5]at h;cases h;simp[zkE,zgZ,h5]
 rw[if_neg h5]at h
 by_cases h6:x.k=6
 ·rw[if_pos h6]at h;cases h;simp[zkE,zgZ,h6]
 rw[if_neg h6]at h
 cases h
theorem zpy{k:Int}:(zfR k).isSome=decide (1≤k∧k≤6):=by
 unfold zfR
 by_cases h1:k=1
 ·subst h1;rfl
 by_cases h2:k=2
 ·subst h2;rfl
 by_cases h3:k=3
 ·subst h3;rfl
 by_cases h4:k=4
 ·subst h4;rfl
 by_cases h5:k=5
 ·subst h5;rfl
 by_cases h6:k=6
 ·subst h6;rfl
 rw[if_neg h1,if_neg h2,if_neg h3,if_neg h4,if_neg h5,if_neg h6]
 exact(df (by omega)).symm
theorem zsh{k:Int}{l:List Nat}(h:zfR k=some l):l.length≤3:=by
 unfold zfR at h
 repeat' split at h
 all_goals first|(cases h;decide)|cases h
set_option maxHeartbeats 1000000 in
theorem zns(e:EvV)(x:EvT)(w:Wl)(hE:EOk w)(hx:zbj w e x)(hm:zcY x):zS TP 33 #[.agg (evC x e).toArray] w fun r w'=>r=Ii (if z6 x then 0 else 2)∧zk [] w w':=by
 obtain⟨c,ky,u,o,n,m⟩:=e
 obtain⟨po,co,rfl,_⟩:∃p q,o=.slice p x.o.length q∧x.o.length≤q:=zN.val hx.old
 obtain⟨pn,cn,rfl,_⟩:∃p q,n=.slice p x.w.length q∧x.w.length≤q:=zN.val hx.new
 generalize he:(⟨c,ky,u,.slice po x.o.length co,.slice pn x.w.length cn,m⟩:EvV)=e at *
 have ho:(evC x e)[5]?=some (.slice po x.o.length co):=by rw[←he];rfl
 have hn:(evC x e)[6]?=some (.slice pn x.w.length cn):=by rw[←he];rfl
 refine A1 Tryz.func33 U U ?_
 refine Sr ?_
 refine Ob U U ?_
 intro b1 w1 e1 n1 c1 k1
 refine Oa U (E1 1 U ?_)
 have k1:zO w1 b1 39 (evC x e):=k1
 have hd1:zk [] w1 w1.drew:=zk.drew [] _
 refine zR (fun F wx=>∃v bo bn,F=[(1,Pt b1),(3,v),(4,.bool (zfR x.k).isSome)]∧(∀l,zfR x.k=some l→SL wx v (l.map (ze7 bo bn)))∧zO wx bo 182 [fnV 95 []]∧zO wx bn 182 [fnV 96 []]∧zk [] w1 wx) ?_ ?_
 ·refine zH (fun wz=>zk [] w1 wz) mix (by kernel_rfl) hd1 ?_
  refine Tc zDl U U U (ztf _) ?_
  rintro v6 w6⟨mm,es,bo,bn,rfl,hK,c6⟩
  refine⟨.inl (hd1.trans c6),?_⟩
  refine Td zbA U (Tr (fun wz hz=>zg zeI U ((k1.chg0 hz).cell' (i:=0) U)) U ?_)
  refine zaR U (gn U) (St.vl (zc4 (κ:=zaP .i64) zjL (z0 zbE) zCP U U hK.1 U) U U ?_)
  refine⟨.inl (hd1.trans c6),?_⟩
  refine Tm U (Tp (fun _=>zM U U) U (Tp (fun _=>zM U U) U (Ta U (Ta U (D3 1 3 4 U ?_)))))
  rcases zrL hK x.k with⟨l,v,h1,h2,h3⟩|⟨h1,h2⟩
  ·rw[h1,h2]
   exact⟨v,bo,bn,rfl,fun l' hl=>by cases hl;exact h3,hK.2.2.2.1,hK.2.2.2.2,hd1.trans c6⟩
  rw[h1,h2]
  exact⟨_,bo,bn,rfl,(fun l hl=>by cases hl),hK.2.2.2.1,hK.2.2.2.2,hd1.trans c6⟩
 rintro F wx⟨v,bo,bn,rfl,hsl,hbo,hbn,hcx⟩
 have k1:=k1.chg0 hcx
 have hd:zk [] wx wx.drew:=zk.drew [] _
 have hcw:=c1.trans hcx
 have hEx:=hE.chg0 hcw
 have hxx:=hx.chg0 hcw
 refine zf (zf ?_)
 have fin:∀{wy:Wl} {b:Bool},b=z6 x→zk [] wx wy→(fun(r:Va) w'=>r=Ii (if z6 x then 0 else 2)∧zk [] w w') (Ii (if b then 0 else 2)) wy:=fun hb hc=>⟨by rw[hb],hcw.trans hc⟩
 cases hk:zfR x.k with
 |none=>
  have hr:z6 x=false:=by
   have:=zpy (k:=x.k)
   rw[hk]at this
   have h:=of_decide_eq_false this.symm
   cases hr:z6 x with
   |false=>rfl
   |true=>exact absurd (zfE hr).1 h
  refine zH (fun wz=>zk [] wx wz) mix (zdv (by kernel_rfl)) hd ?_
  refine Tm U (Tp (fun _=>zC U) U (Tm U (Tk U (Tk U (Tk U (Tk U (Tk U (Tp (fun _=>zD U U) U (Tm U (Tk U (Tk U (Tk U (Tp (fun _=>zD U U) U (Tm U (Tk U (Tk U (Tk U (Tk U ?_))))))))))))))))))
  refine zac U U U U U ?_
  refine zac U U U U U ?_
  refine zac U U U U U ?_
  refine zac U U U U U ?_
  refine zac U U U U U ?_
  refine zac U U U U U ?_
  refine zac U U U U U ?_
  refine Tk U (Tp (fun _=>zD U U) U (D1 39 U (ze U (Sr (Oa U (E1 2 U (zj ?_)))))))
  repeat first|refine tr ?_|refine br ?_
  refine zw U U ?_
  exact fin (b:=false) hr.symm hd
 |some l=>
  have hin:1≤x.k∧x.k≤6:=by
   have:=zpy (k:=x.k)
   rw[hk]at this
   exact of_decide_eq_true this.symm
  obtain⟨bs,rfl,hsb⟩:=hsl l hk
  have hll:=zsh hk
  have har:∀{wz:Wl},zk [] wx wz→zN wz 137 3 (ze7 bo bn) (.slice (some ⟨bs,0,none⟩) (l.map (ze7 bo bn)).length (l.map (ze7 bo bn)).length) l:=fun hz=>by
   rw[List.length_map]
   exact zN.of_blk (znx bo bn) (zs4 bo bn) (hsb.chg0 hz) (by simp[maxLen];omega)
  by_cases hb:x=zaI x
  ·have hsame:∀{wz},zk [] wx wz→zS TP 58 #[.agg (evC x e).toArray,.agg (evC (zaI x) (zcx x e)).toArray] wz fun r w'=>r=.bool true∧zk [] wz w':=fun hz=>by
    have:=zqD e (zcx x e) x (zaI x) _ (hxx.chg0 hz) (zlO (hxx.chg0 hz)) hm (zqq hm)
    rw[dt hb]at this
    exact this
   have hcf:∀{wz},zk [] wx wz→zS TP 60 #[.slice (some ⟨bs,0,none⟩) (l.map (ze7 bo bn)).length (l.map (ze7 bo bn)).length,.func (.func 61) #[] #[Pt b1]] wz fun r w'=>r=.bool (!zgZ x)∧zk [] wz w':=fun hz=>by
    have:=zvs (znx bo bn) _ l (fun j => !zkE x j) 61 [Pt b1] _ (har hz) (by omega) zDI (fun j _ w1 h1=>zrK bo bn j b1 (hEx.chg0 (hz.trans h1)) (hxx.chg0 (hz.trans h1)) hm (k1.chg0 (hz.trans h1)) (hbo.chg0 (hz.trans h1)) (hbn.chg0 (hz.trans h1)))
    rw[zr6 hk]at this
    exact this
   cases hmay:zgZ x with
   |false=>
    have hr:z6 x=false:=by
     cases hr:z6 x with
     |false=>rfl
     |true=>rw[(zfE hr).2.2.1]at hmay;cases hmay
    refine zH (fun wz=>zk [] wx wz) mix (zdv (by kernel_rfl)) hd ?_
    refine Tm U (Tp (fun _=>zC U) U (Tm U (Ts U U (fun wz hz=>zh zbO zaD U U (zv.of_blk0 (k1.chg0 hz))) U (Ts U U (fun wz hz=>zh zbO zaD U U (zv.of_blk0 (k1.chg0 hz))) U ?_))))
    refine Tv U U zuv U U U (zhC e x _ (hxx.chg0 hd)) ?_
    rintro v17 w17⟨rfl,c17⟩
    refine⟨.inl (hd.trans c17),?_⟩
    refine Tv U U zuF U U U (hsame (hd.trans c17)) ?_
    rintro v18 w18⟨rfl,c18⟩
    refine⟨.inl ((hd.trans c17).trans c18),?_⟩
    refine Tg U U (fun _=>zC U) U (Tp (fun _=>zE U U) U (Tm U (Tq U U U (Tg U U (fun _=>zau U U) U ?_))))
    refine Tv U U zvD U U U (hcf ((hd.trans c17).trans c18)) ?_
    rintro v24 w24⟨e24,c24⟩
    rw[hmay]at e24
    subst e24
    refine⟨.inl (((hd.trans c17).trans c18).trans c24),?_⟩
    refine Tp (fun _=>zE U U) U (Tm U (Tk U (Tk U (Tk U (Tk U ?_)))))
    refine zac U U U U U ?_
    refine zac U U U U U ?_
    refine zac U U U U U ?_
    refine zac U U U U U ?_
    refine zac U U U U U ?_
    refine zac U U U U U ?_
    refine zac U U U U U ?_
    refine Tk U (Tp (fun _=>zD U U) U (D1 39 U (ze U (Sr (Oa U (E1 2 U (zj ?_)))))))
    repeat first|refine tr ?_|refine br ?_
    refine zw U U ?_
    exact fin (b:=false) hr.symm (((hd.trans c17).trans c18).trans c24)
   |true=>
    by_cases h2:x.k=2
    ·by_cases hl:x.o.length=x.w.length
     ·have hr:z6 x=true:=zjS hin hb hmay fun _=>hl
      refine zH (fun wz=>zk [] wx wz) mix (zdv (by kernel_rfl)) hd ?_
      refine Tm U (Tp (fun _=>zC U) U (Tm U (Ts U U (fun wz hz=>zh zbO zaD U U (zv.of_blk0 (k1.chg0 hz))) U (Ts U U (fun wz hz=>zh zbO zaD U U (zv.of_blk0 (k1.chg0 hz))) U ?_))))
      refine Tv U U zuv U U U (zhC e x _ (hxx.chg0 hd)) ?_
      rintro v17 w17⟨rfl,c17⟩
      refine⟨.inl (hd.trans c17),?_⟩
      refine Tv U U zuF U U U (hsame (hd.trans c17)) ?_
      rintro v18 w18⟨rfl,c18⟩
      refine⟨.inl ((hd.trans c17).trans c18),?_⟩
      refine Tg U U (fun _=>zC U) U (Tp (fun _=>zE U U) U (Tm U (Tq U U U (Tg U U (fun _=>zau U U) U ?_))))
      refine Tv U U zvD U U U (hcf ((hd.trans c17).trans c18)) ?_
      rintro v24 w24⟨e24,c24⟩
      rw[hmay]at e24
      subst e24
      refine⟨.inl (((hd.trans c17).trans c18).trans c24),?_⟩
      refine Tp (fun _=>zE U U) U (Tm U (Tg U U (fun _=>zd zbA U) U (Ts U U (fun wz hz=>zg zeI U ((k1.chg0 hz).cell' (i:=0) U)) U (Tg U U (fun _=>vt (zy U U) (dt h2)) U (Tq U U U (Tg U U (fun _=>zd y6 U) U (Ts U U (fun wz hz=>zg yU U ((k1.chg0 hz).cell' ho)) U (Tg U U (fun _=>zV yE U) U (Tg U U (fun _=>zd zaY U) U (Ts U U (fun wz hz=>zg yU U ((k1.chg0 hz).cell' hn)) U (Tg U U (fun _=>zV yE U) U ?_)))))))))))
      refine Tg U U (fun _=>vf (zJ U U) (zcp (by omega))) U ?_
      refine Tg U U (fun _=>zD U U) U (Tp (fun _=>zE U U) U (D1 39 U (zb U (zm (Sr (Oa U (E1 2 U (zj ?_))))))))
      refine zw U U ?_
      exact fin (b:=true) hr.symm (((hd.trans c17).trans c18).trans c24)
     have hr:z6 x=false:=by
      cases hr:z6 x with
      |false=>rfl
      |true=>exact absurd ((zfE hr).2.2.2 h2) hl
     refine zH (fun wz=>zk [] wx wz) mix (zdv (by kernel_rfl)) hd ?_
     refine Tm U (Tp (fun _=>zC U) U (Tm U (Ts U U (fun wz hz=>zh zbO zaD U U (zv.of_blk0 (k1.chg0 hz))) U (Ts U U (fun wz hz=>zh zbO zaD U U (zv.of_blk0 (k1.chg0 hz))) U ?_))))
     refine Tv U U zuv U U U (zhC e x _ (hxx.chg0 hd)) ?_
     rintro v17 w17⟨rfl,c17⟩
     refine⟨.inl (hd.trans c17),?_⟩
     refine Tv U U zuF U U U (hsame (hd.trans c17)) ?_
     rintro v18 w18⟨rfl,c18⟩
     refine⟨.inl ((hd.trans c17).trans c18),?_⟩
     refine Tg U U (fun _=>zC U) U (Tp (fun _=>zE U U) U (Tm U (Tq U U U (Tg U U (fun _=>zau U U) U ?_))))
     refine Tv U U zvD U U U (hcf ((hd.trans c17).trans c18)) ?_
     rintro v24 w24⟨e24,c24⟩
     rw[hmay]at e24
     subst e24
     refine⟨.inl (((hd.trans c17).trans c18).trans c24),?_⟩
     refine Tp (fun _=>zE U U) U (Tm U (Tg U U (fun _=>zd zbA U) U (Ts U U (fun wz hz=>zg zeI U ((k1.chg0 hz).cell' (i:=0) U)) U (Tg U U (fun _=>vt (zy U U) (dt h2)) U (Tq U U U (Tg U U (fun _=>zd y6 U) U (Ts U U (fun wz hz=>zg yU U ((k1.chg0 hz).cell' ho)) U (Tg U U (fun _=>zV yE U) U (Tg U U (fun _=>zd zaY U) U (Ts U U (fun wz hz=>zg yU U ((k1.chg0 hz).cell' hn)) U (Tg U U (fun _=>zV yE U) U ?_)))))))))))
     refine Tg U U (fun _=>vt (zJ U U) (zfj (by omega))) U ?_
     refine Tg U U (fun _=>zD U U) U (Tp (fun _=>zE U U) U (D1 39 U (ze U (Sr (Oa U (E1 2 U (zj ?_)))))))
     repeat first|refine tr ?_|refine br ?_
     refine zw U U ?_
     exact fin (b:=false) hr.symm (((hd.trans c17).trans c18).trans c24)
    have hr:z6 x=true:=zjS hin hb hmay fun h=>absurd h h2
    refine zH (fun wz=>zk [] wx wz) mix (zdv (by kernel_rfl)) hd ?_
    refine Tm U (Tp (fun _=>zC U) U (Tm U (Ts U U (fun wz hz=>zh zbO zaD U U (zv.of_blk0 (k1.chg0 hz))) U (Ts U U (fun wz hz=>zh zbO zaD U U (zv.of_blk0 (k1.chg0 hz))) U ?_))))
    refine Tv U U zuv U U U (zhC e x _ (hxx.chg0 hd)) ?_
    rintro v17 w17⟨rfl,c17⟩
    refine⟨.inl (hd.trans c17),?_⟩
    refine Tv U U zuF U U U (hsame (hd.trans c17)) ?_
    rintro v18 w18⟨rfl,c18⟩
    refine⟨.inl ((hd.trans c17).trans c18),?_⟩
    refine Tg U U (fun _=>zC U) U (Tp (fun _=>zE U U) U (Tm U (Tq U U U (Tg U U (fun _=>zau U U) U ?_))))
    refine Tv U U zvD U U U (hcf ((hd.trans c17).trans c18)) ?_
    rintro v24 w24⟨e24,c24⟩
    rw[hmay]at e24
    subst e24
    refine⟨.inl (((hd.trans c17).trans c18).trans c24),?_⟩
    refine Tp (fun _=>zE U U) U (Tm U (Tg U U (fun _=>zd zbA U) U (Ts U U (fun wz hz=>zg zeI U ((k1.chg0 hz).cell' (i:=0) U)) U (Tg U U (fun _=>vf (zy U U) (df h2)) U (Tq U U U ?_)))))
    iterate 7 refine Tk U ?_
    refine Tg U U (fun _=>zE U U) U (Tp (fun _=>zE U U) U (D1 39 U (zb U (zm (Sr (Oa U (E1 2 U (zj ?_))))))))
    refine zw U U ?_
    exact fin (b:=true) hr.symm (((hd.trans c17).trans c18).trans c24)
  have hr:z6 x=false:=by
   cases hr:z6 x with
   |false=>rfl
   |true=>exact absurd (zfE hr).2.1 hb
  refine zH (fun wz=>zk [] wx wz) mix (zdv (by kernel_rfl)) hd ?_
  refine Tm U (Tp (fun _=>zC U) U (Tm U (Ts U U (fun wz hz=>zh zbO zaD U U (zv.of_blk0 (k1.chg0 hz))) U (Ts U U (fun wz hz=>zh zbO zaD U U (zv.of_blk0 (k1.chg0 hz))) U ?_))))
  refine Tv U U zuv U U U (zhC e x _ (hxx.chg0 hd)) ?_
  rintro v17 w17⟨rfl,c17⟩
  refine⟨.inl (hd.trans c17),?_⟩
  refine Tv U U zuF U U U (zqD e (zcx x e) x (zaI x) _ (hxx.chg0 (hd.trans c17)) (zlO (hxx.chg0 (hd.trans c17))) hm (zqq hm)) ?_
  rintro v18 w18⟨e18,c18⟩
  rw[df hb]at e18
  subst e18
  refine⟨.inl ((hd.trans c17).trans c18),?_⟩
  refine Tg U U (fun _=>zC U) U (Tp (fun _=>zE U U) U (Tm U (Tk U (Tk U (Tk U (Tp (fun _=>zD U U) U (Tm U (Tk U (Tk U (Tk U (Tk U ?_)))))))))))
  refine zac U U U U U ?_
  refine zac U U U U U ?_
  refine zac U U U U U ?_
  refine zac U U U U U ?_
  refine zac U U U U U ?_
  refine zac U U U U U ?_
  refine zac U U U U U ?_
  refine Tk U (Tp (fun _=>zD U U) U (D1 39 U (ze U (Sr (Oa U (E1 2 U (zj ?_)))))))
  repeat first|refine tr ?_|refine br ?_
  refine zw U U ?_
  exact fin (b:=false) hr.symm ((hd.trans c17).trans c18)
section
variable {c:Cat} {x:EvT} {t:Tb}
theorem zfN(hr:z6 x=true)(hk:x.k=1∨x.k=2∨x.k=3):doE c x=match atC c x.t with|none=>5|some t=>zcR t x:=by
 have h4:x.k≠4:=by omega
 have h5:x.k≠5:=by omega
 have h6:x.k≠6:=by omega
 unfold doE
 rw[if_neg (by simp[hr]),if_neg h6]
 cases atC c x.t with
 |none=>exact if_neg h4
 |some t=>exact(if_neg h4).trans (if_neg h5)
theorem zv7(he:zcR t x≠0):zcd t x=t.r:=by
 unfold zcR at he
 unfold zcd
 split
 ·rename_i h1
  rw[if_pos h1]at he
  exact zvp he
 rename_i h1
 rw[if_neg h1]at he
 split
 ·rfl
 rename_i h2
 rw[if_neg h2]at he
 split
 ·rename_i h3
  rw[if_pos h3]at he
  exact absurd U he
 rename_i h3
 rw[if_neg h3]at he
 exact zwf he
theorem zu4(hs:ze8 c)(hr:z6 x=true)(hk:x.k=1∨x.k=2∨x.k=3)(ht:atC c x.t=some t):doC c x=zcy c ⟨t.n,t.s,zcd t x⟩:=by
 have h4:x.k≠4:=by omega
 have h5:x.k≠5:=by omega
 have h6:x.k≠6:=by omega
 have he:doE c x=zcR t x:=by rw[zfN hr hk,ht]
 unfold doC
 by_cases h0:doE c x=0
 ·rw[if_neg (by simp[h0]),if_neg h6,if_neg h4,if_neg h5,ht]
 rw[if_pos h0,zv7 (by rw[←he];exact h0)]
 exact(zrh hs (zdQ ht).1).symm
theorem zpx(h:doE c x≠0):doC c x=c:=by unfold doC;rw[if_pos h]
end
def DoR(w:Wl)(p:Nat)(own:List Nat)(c:Cat)(x:EvT)(r:Va)(w':Wl):Prop:=
 zgd w' r (doE c x)∧zk own w w'∧∃own',zba w' p own' (doC c x)∧∀b∈own',b∈own∨w.heap.size≤b
section
variable {w w':Wl} {p m:Nat} {L:List CE} {c:Cat} {x:EvT} {y:CE} {e:EvV} {r:Va} {n:By}
theorem zfk(h:yf zbM w m (L.map CE.en))(hf:zan L n=none):zS TP 47 #[.map (some m),.string n] w fun r w'=>r=.tuple #[.pointer none,.bool false]∧w'=w:=by
 have:=zmI m _ n w h
 rw[zbD,hf]at this
 exact this
theorem ze5(h:yf zbM w m (L.map CE.en))(hf:zan L n=some y):zS TP 47 #[.map (some m),.string n] w fun r w'=>r=.tuple #[y.pt,.bool true]∧w'=w:=by
 have:=zmI m _ n w h
 rw[zbD,hf]at this
 exact this
theorem zjF(k:By)(n:Int)(w:Wl):zbR w (.iface 199 (.agg #[.string k,zde n])) n:=.inr (.inr (.inr ⟨k,rfl⟩))
theorem DoR.no(h:zdo w' p m L c)(hc:zk [] w w'){z:Int}(hz:doE c x=z)(h0:z≠0)(he:zbR w' r z):DoR w p (p::m::owL L) c x r w':=by
 subst hz
 refine⟨.inr ⟨he,h0⟩,hc.any,p::m::owL L,?_,fun b hb=>.inl hb⟩
 rw[zpx h0]
 exact⟨m,L,U,h⟩
theorem DoR.row{w1:Wl}(h:zdo w1 p m L c)(hc:zk [] w w1)(hr:z6 x=true)(hk:x.k=1∨x.k=2∨x.k=3)(hf:zan L x.t=some y){w2:Wl}(h2:zab w2 y.q y.ow y.s (zcd y.tb x))(hc2:zk y.ow w1 w2)(hc3:zk [] w2 w')(he:zgd w' r (zcR y.tb x)) :
 DoR w p (p::m::owL L) c x r w':=by
 obtain⟨hy,hn⟩:=zaL hf
 have hat:atC c x.t=some y.tb:=by rw[h.l.at,hf];rfl
 have hs:∀b∈y.ow,b∈p::m::owL L:=fun b hb=>List.mem_cons_of_mem _ (List.mem_cons_of_mem _ (zbH.2 ⟨y,hy,hb⟩))
 refine⟨?_,(hc.any.trans' hc2 (fun k hk=>.inl (hs k hk))).trans hc3,p::m::owL L,?_,fun b hb=>.inl hb⟩
 ·rw[zfN hr hk,hat]
  exact he
 rw[zu4 h.l.ok.srt hr hk hat]
 exact(h.turn hy hc2 h2).chg0 hc3
theorem zqQ(hE:EOk w)(h:zdo w p m L c)(hx:zbj w e x)(hm:zcY x)(hr:z6 x=true)(hk:x.k=1) :
 zS TP 63 #[Pt p,.agg (evC x e).toArray] w (DoR w p (p::m::owL L) c x):=by
 refine A2 Tryz.func63 U U ?_
 refine Sr ?_
 refine Ob U U ?_
 intro b3 w3 e3 n3 c3 k3
 refine Oa U (E2 0 3 U ?_)
 have k3:zO w3 b3 39 (evC x e):=k3
 have h3:=h.chg0 c3
 have hd:zk [] w3 w3.drew:=zk.drew [] _
 refine zf ?_
 cases hf:zan L x.t with
 |none=>
  refine zH (fun wz=>zk [] w3 wz) mix (by kernel_rfl) hd ?_
  refine Tm U (Tp (fun _=>zx U) U (Td za4 U (Tr (fun wz hz=>zg zej U ((h3.blk.chg0 hz).cell' (i:=0) U)) U (Td yd U (Tr (fun wz hz=>zg yI U ((k3.chg0 hz).cell' (i:=1) U)) U ?_)))))
  refine Tc ziZ U U U (zfk (h3.map.chg0 hd) hf) ?_
  rintro v14 w14⟨rfl,rfl⟩
  refine⟨.inl hd,?_⟩
  refine Tm U (Tp (fun _=>zM U U) U (Tp (fun _=>zM U U) U (Ta U (Ta U (D3 3 5 6 U (zf (Sr (Om U (Og (zC U) U (E3 3 5 18 U (ze U (Sr (Od yd U (Ol yI U ((k3.chg0 hd).cell' (i:=1) U) (Og (z5 zdU U) U ?_)))))))))))))))
  refine Og (zL zfU zfQ U (vs:=[_,_]) U (css:=[_,_]) ⟨U,U,Tt⟩ U U (cs:=[_,_]) U) U ?_
  refine Og (z5 zfT U) U (Oa U (E1 4 U (zj ?_)))
  repeat first|refine tr ?_|refine br ?_
  refine zw U U ?_
  exact DoR.no (h3.chg0 hd) (c3.trans hd) (by rw[zfN hr (.inl hk),h.l.at,hf];rfl) (by decide) (zjF _ _ _)
 |some y=>
  refine zH (fun wz=>zk [] w3 wz) mix (by kernel_rfl) hd ?_
  refine Tm U (Tp (fun _=>zx U) U (Td za4 U (Tr (fun wz hz=>zg zej U ((h3.blk.chg0 hz).cell' (i:=0) U)) U (Td yd U (Tr (fun wz hz=>zg yI U ((k3.chg0 hz).cell' (i:=1) U)) U ?_)))))
  refine Tc ziZ U U U (ze5 (h3.map.chg0 hd) hf) ?_
  rintro v14 w14⟨rfl,rfl⟩
  refine⟨.inl hd,?_⟩
  refine Tm U (Tp (fun _=>zM U U) U (Tp (fun _=>zM U U) U (Ta U (Ta U (D3 3 5 6 U ?_)))))
  obtain⟨hy,hn⟩:=zaL hf
  generalize hw4:w3.drew=w4 at *
  have k4:=k3.chg0 hd
  have h4:=h3.chg0 hd
  have c4:=c3.trans hd
  have hd4:zk y.ow w4 w4.drew:=zk.drew _ _
  have hb3:b3∉y.ow:=fun hb=>by
   have:=(h.l.tabs y hy).lt b3 hb
   omega
  refine zf (Sr (Om U (Og (zC U) U (E3 3 5 18 U (zb U (zm (zf ?_)))))))
  refine zH (fun wz=>zk y.ow w4 wz) mix (by kernel_rfl) hd4 ?_
  refine Td yd U (Tr (fun wz hz=>zg yI U ((k4.chg hz hb3).cell' (i:=1) U)) U (Tm U (Td zaY U (Tr (fun wz hz=>zg yU U ((k4.chg hz hb3).cell' (i:=6) U)) U ?_))))
  refine Tc zDG U U U (zrV y.q y.ow y.s y.r e.n x.w _ ((hE.chg0 c4).chg0 (zk.drew [] _)) ((h4.l.tabs y hy).chg0 (zk.drew [] _)) (zN.chg0 (zN.chg0 hx.new c4) (zk.drew [] _)) hx.rw hm.w) ?_
  rintro v29 w29⟨rfl,ht,c29⟩
  refine⟨.inl (hd4.transS c29),?_⟩
  refine Tc zpq U U U (zfz x.t _ _) ?_
  rintro v30 w30⟨he,c30⟩
  refine⟨.inl ((hd4.transS c29).trans c30),?_⟩
  refine Ta U (D1 4 U (zj ?_))
  refine zw U U ?_
  refine DoR.row h4 c4 hr (.inl hk) hf (w2:=w29) ?_ (hd4.transS c29) c30 ?_
  ·unfold zcd
   rw[if_pos hk]
   exact ht
  unfold zcR
  rw[if_pos hk]
  exact he
end
section
variable {w w':Wl} {p m:Nat} {L:List CE} {c:Cat} {x:EvT} {y:CE} {e:EvV} {r:Va} {n:By}
theorem zqr(h:zdo w p m L c)(hf:zan L x.t=none) :
 zS TP 108 #[Pt p,.agg (evC x e).toArray] w fun r w'=>(∃v,r=.tuple #[.pointer none,.string e0,v]∧zbR w' v 5∧zha v=some false)∧zk [] w w':=by
 refine A2 Tryz.func108 U U ?_
 refine Sr ?_
 refine Ob U U ?_
 intro b3 w3 e3 n3 c3 k3
 refine Oa U (Oa U (Oa U (E2 0 3 U ?_)))
 have k3:zO w3 b3 39 (evC x e):=k3
 have h3:=h.chg0 c3
 have hd:zk [] w3 w3.drew:=zk.drew [] _
 refine zf ?_
 refine zH (fun wz=>zk [] w3 wz) mix (by kernel_rfl) hd ?_
 refine Tm U (Tp (fun _=>zx U) U (Td za4 U (Tr (fun wz hz=>zg zej U ((h3.blk.chg0 hz).cell' (i:=0) U)) U (Td yd U (Tr (fun wz hz=>zg yI U ((k3.chg0 hz).cell' (i:=1) U)) U ?_)))))
 refine Tc ziZ U U U (zfk (h3.map.chg0 hd) hf) ?_
 rintro v20 w20⟨rfl,rfl⟩
 refine⟨.inl hd,?_⟩
 refine Tm U (Tp (fun _=>zM U U) U (Tp (fun _=>zM U U) U (Ta U (Ta U (D3 3 7 8 U ?_)))))
 have k4:=k3.chg0 hd
 have c4:=c3.trans hd
 generalize w3.drew=w4 at *
 have hd4:zk [] w4 w4.drew:=zk.drew [] _
 refine zf (Sr (Om U (Og (zC U) U (E3 3 7 24 U (ze U (zf ?_))))))
 refine zH (fun wz=>zk [] w4 wz) mix (by kernel_rfl) hd4 ?_
 refine Td yd U (Tr (fun wz hz=>zg yI U ((k4.chg0 hz).cell' (i:=1) U)) U (Tp (fun _=>z5 zdU U) U ?_))
 refine Tp (fun _=>zL zfU zfQ U (vs:=[_,_]) U (css:=[_,_]) ⟨U,U,Tt⟩ U U (cs:=[_,_]) U) U ?_
 refine Tp (fun _=>z5 zfT U) U (Ta U (Ta U (Ta U (D3 4 5 6 U (zj ?_)))))
 repeat first|refine tr ?_|refine br ?_
 refine zgW U U U U ?_
 exact⟨⟨_,U,zjF _ _ _,U⟩,c4.trans hd4⟩
def zBL(y:CE)(x:EvT)(r:Va)(w':Wl):Prop:=
 (zft y.tb x.o=true∧r=.tuple #[y.pt,.string (z9 y.s x.o),.nilIface])∨(zft y.tb x.o=false∧∃v,r=.tuple #[.pointer none,.string e0,v]∧zbR w' v 230∧zha v=some false)
theorem zqH(hE:EOk w)(h:zdo w p m L c)(hx:zbj w e x)(hm:zcY x)(hf:zan L x.t=some y) :
 zS TP 108 #[Pt p,.agg (evC x e).toArray] w fun r w'=>zBL y x r w'∧zk [] w w':=by
 obtain⟨hy,hn⟩:=zaL hf
 refine A2 Tryz.func108 U U ?_
 refine Sr ?_
 refine Ob U U ?_
 intro b3 w3 e3 n3 c3 k3
 refine Oa U (Oa U (Oa U (E2 0 3 U ?_)))
 have k3:zO w3 b3 39 (evC x e):=k3
 have h3:=h.chg0 c3
 have hd:zk [] w3 w3.drew:=zk.drew [] _
 refine zf ?_
 refine zH (fun wz=>zk [] w3 wz) mix (by kernel_rfl) hd ?_
 refine Tm U (Tp (fun _=>zx U) U (Td za4 U (Tr (fun wz hz=>zg zej U ((h3.blk.chg0 hz).cell' (i:=0) U)) U (Td yd U (Tr (fun wz hz=>zg yI U ((k3.chg0 hz).cell' (i:=1) U)) U ?_)))))
 refine Tc ziZ U U U (ze5 (h3.map.chg0 hd) hf) ?_
 rintro v20 w20⟨rfl,rfl⟩
 refine⟨.inl hd,?_⟩
 refine Tm U (Tp (fun _=>zM U U) U (Tp (fun _=>zM U U) U (Ta U (Ta U (D3 3 7 8 U ?_)))))
 have k4:=k3.chg0 hd
 have c4:=c3.trans hd
 generalize w3.drew=w4 at *
 obtain⟨pm,cc,ck,cu,sv,xs,main,subs,-,tm,tt⟩:=(h.l.tabs y hy).chg0 c4
 have hok:=tt.ok
 have ho4:ya w4 e.o x.o:=zN.chg0 hx.old c4
 refine zf (Sr (Om U (Og (zC U) U (E3 3 7 24 U (zb U (zm (Sr (Om U (Od y6 U (Ol yU U (k4.cell' (i:=5) U) ?_))))))))))
 refine Oc zzN U U U (zzG e.o x.o _ (hE.chg0 c4) tm tt ho4 hx.ro hm.o) ?_
 rintro v34 w34⟨rfl,c34⟩
 refine Om U (Oe U U (Oe U U (Oa U (Oa U (E4 3 7 9 10 U ?_)))))
 have k5:=k4.chg0 c34
 refine zf ?_
 generalize hkk:(if zaf y.s x.o=0 then z9 y.s x.o else e0)=kk
 refine za (Om U (Om U ?_))
 refine Oc zuB U U U (zmo kk _ (tm.chg0 c34) tt) ?_
 rintro v40 w40⟨vo,rfl,hvo,-,c40⟩
 refine Om U (Oe U U (Oe U U (Oa U (Oa U (E6 3 7 9 10 11 12 U ?_)))))
 have k6:=k5.chg0 c40
 have c6:=(c4.trans c34).trans c40
 have hno:∀{wy:Wl},zk [] w wy→zft y.tb x.o=false→∀v,zbR wy v 230→zha v=some false→(zBL y x (.tuple #[.pointer none,.string e0,v]) wy∧zk [] w wy):=fun hc h1 v h2 h3=>⟨.inr ⟨h1,v,rfl,h2,h3⟩,hc⟩
 refine zf (zf ?_)
 by_cases hrow:zaf y.s x.o=0
 ·rw[if_pos hrow]at hkk
  subst hkk
  cases hg:zc7 y.s y.r (z9 y.s x.o) with
  |none=>
   have hold:zft y.tb x.o=false:=by
    show (decide (zaf y.s x.o=0)&&decide (zc7 y.s y.r (z9 y.s x.o)=some x.o))=false
    rw[hg];simp
   refine za (Om U (Og (vf (zJ U U) (zcp hrow)) U (Om U (Ov U (Oi U (zC U) (Of U (Om U (Ok U (Ok U (Ok U (Ok U (Ok U (Ot U (E4 3 7 9 55 U (ze U ?_)))))))))))))))
   have hd6:zk [] w40 w40.drew:=zk.drew [] _
   refine zf ?_
   refine zH (fun wz=>zk [] w40 wz) mix (by kernel_rfl) hd6 ?_
   refine Td yd U (Tr (fun wz hz=>zg yI U ((k6.chg0 hz).cell' (i:=1) U)) U (Tp (fun _=>z5 zdU U) U ?_))
   refine Tp (fun _=>zL zfU zfQ U (vs:=[_,_]) U (css:=[_,_]) ⟨U,U,Tt⟩ U U (cs:=[_,_]) U) U ?_
   refine Tp (fun _=>z5 zfT U) U (Ta U (Ta U (Ta U (D3 4 5 6 U (zj ?_)))))
   repeat first|refine tr ?_|refine br ?_
   refine zgW U U U U ?_
   exact hno (c6.trans hd6) hold _ (zjF _ _ _) U
  |some row=>
   have hrl:row.length≤1048576:=by
    have h1:=(zZ hok.right).1
    have h2:=(zas (hok.fit row (zd0 hg).1)).2.1
    omega
   rw[hg]at hvo
   by_cases he:row=x.o
   ·have hold:zft y.tb x.o=true:=by
     show (decide (zaf y.s x.o=0)&&decide (zc7 y.s y.r (z9 y.s x.o)=some x.o))=true
     rw[hg,he];simp[hrow]
    refine za (Om U (Og (vf (zJ U U) (zcp hrow)) U (Om U (Ov U (Oi U (zC U) (Of U (Om U (Ov U (Oi U (zd y6 U) (Oi U (zg yU U (k6.cell' (i:=5) U)) ?_))))))))))
    refine Ow U U zsI U U U (zlU vo e.o row x.o _ hvo.arr (zN.chg0 ho4 (c34.trans c40)) hrl hm.o) ?_
    rintro v53 w53⟨e53,c53⟩
    rw[dt he]at e53
    subst e53
    refine Oi U (zC U) (Of U (E4 3 7 9 55 U (zb U (zm (Sr (Om U (Om U (Oa U (Oa U (Oa U (E3 4 5 6 U (zj ?_))))))))))))
    refine zgW U U U U ?_
    exact⟨.inl ⟨hold,U⟩,c6.trans c53⟩
   have hold:zft y.tb x.o=false:=by
    show (decide (zaf y.s x.o=0)&&decide (zc7 y.s y.r (z9 y.s x.o)=some x.o))=false
    rw[hg];simp[he]
   refine za (Om U (Og (vf (zJ U U) (zcp hrow)) U (Om U (Ov U (Oi U (zC U) (Of U (Om U (Ov U (Oi U (zd y6 U) (Oi U (zg yU U (k6.cell' (i:=5) U)) ?_))))))))))
   refine Ow U U zsI U U U (zlU vo e.o row x.o _ hvo.arr (zN.chg0 ho4 (c34.trans c40)) hrl hm.o) ?_
   rintro v53 w53⟨e53,c53⟩
   rw[df he]at e53
   subst e53
   refine Oi U (zC U) (Of U (E4 3 7 9 55 U (ze U ?_)))
   have hd6:zk [] w53 w53.drew:=zk.drew [] _
   refine zf ?_
   refine zH (fun wz=>zk [] w53 wz) mix (by kernel_rfl) hd6 ?_
   refine Td yd U ?_
   refine Tr (fun wz hz=>zg yI U (((k6.chg0 c53).chg0 hz).cell' (i:=1) U)) U ?_
   refine Tp (fun _=>z5 zdU U) U ?_
   refine Tp (fun _=>zL zfU zfQ U (vs:=[_,_]) U (css:=[_,_]) ⟨U,U,Tt⟩ U U (cs:=[_,_]) U) U ?_
   refine Tp (fun _=>z5 zfT U) U (Ta U (Ta U (Ta U (D3 4 5 6 U (zj ?_)))))
   repeat first|refine tr ?_|refine br ?_
   refine zgW U U U U ?_
   exact hno ((c6.trans c53).trans hd6) hold _ (zjF _ _ _) U
 have hold:zft y.tb x.o=false:=by
  show (decide (zaf y.s x.o=0)&&decide (zc7 y.s y.r (z9 y.s x.o)=some x.o))=false
  simp[hrow]
 refine za (Om U (Og (vt (zJ U U) (zfj hrow)) U (Om U (Ok U (Ok U (Ot U (Om U (Ok U (Ok U (Ok U (Ok U (Ok U (Ot U (E4 3 7 9 55 U (ze U ?_)))))))))))))))
 have hd6:zk [] w40 w40.drew:=zk.drew [] _
 refine zf ?_
 refine zH (fun wz=>zk [] w40 wz) mix (by kernel_rfl) hd6 ?_
 refine Td yd U (Tr (fun wz hz=>zg yI U ((k6.chg0 hz).cell' (i:=1) U)) U (Tp (fun _=>z5 zdU U) U ?_))
 refine Tp (fun _=>zL zfU zfQ U (vs:=[_,_]) U (css:=[_,_]) ⟨U,U,Tt⟩ U U (cs:=[_,_]) U) U ?_
 refine Tp (fun _=>z5 zfT U) U (Ta U (Ta U (Ta U (D3 4 5 6 U (zj ?_)))))
 repeat first|refine tr ?_|refine br ?_
 refine zgW U U U U ?_
 exact hno (c6.trans hd6) hold _ (zjF _ _ _) U
theorem zp4(hE:EOk w)(h:zdo w p m L c)(hx:zbj w e x)(hm:zcY x)(hf:zan L x.t=some y)(ho:zft y.tb x.o=true) :
 zS TP 108 #[Pt p,.agg (evC x e).toArray] w fun r w'=>r=.tuple #[y.pt,.string (z9 y.s x.o),.nilIface]∧zk [] w w':=
 (zqH hE h hx hm hf).mono fun r w' ⟨h1,h2⟩=>by
  rcases h1 with⟨_,h⟩|⟨h,_⟩
  ·exact⟨h,h2⟩
  rw[ho]at h;cases h
theorem zpi(hE:EOk w)(h:zdo w p m L c)(hx:zbj w e x)(hm:zcY x)(hf:zan L x.t=some y)(ho:zft y.tb x.o=false) :
 zS TP 108 #[Pt p,.agg (evC x e).toArray] w fun r w'=>(∃v,r=.tuple #[.pointer none,.string e0,v]∧zbR w' v 230∧zha v=some false)∧zk [] w w':=
 (zqH hE h hx hm hf).mono fun r w' ⟨h1,h2⟩=>by
  rcases h1 with⟨h,_⟩|⟨_,h⟩
  ·rw[ho]at h;cases h
  exact⟨h,h2⟩
theorem zrN(hE:EOk w)(h:zdo w p m L c)(hx:zbj w e x)(hm:zcY x)(hr:z6 x=true)(hk:x.k=2) :
 zS TP 64 #[Pt p,.agg (evC x e).toArray] w (DoR w p (p::m::owL L) c x):=by
 refine A2 Tryz.func64 U U ?_
 refine Sr ?_
 refine Ob U U ?_
 intro b3 w3 e3 n3 c3 k3
 refine Oa U (E2 0 3 U ?_)
 have k3:zO w3 b3 39 (evC x e):=k3
 have h3:=h.chg0 c3
 refine zf ?_
 cases hf:zan L x.t with
 |none=>
  refine za (Om U (Og (zh zbO zaD U U (zv.of_blk0 k3)) U ?_))
  refine Oc zk5 U U U (zqr h3 hf) ?_
  rintro v13 w13⟨⟨v,rfl,he,hv⟩,c13⟩
  refine Om U (Oe U U (Oe U U (Oe U U (Oa U (Oa U (Oa U (E4 3 5 6 7 U (zf (Sr (Om U (Og (zbs zcE U hv) U (E5 3 5 6 7 18 U (ze U (Sr (Om U (Oa U (E1 4 U (zj ?_))))))))))))))))))
  repeat first|refine tr ?_|refine br ?_
  refine zw U U ?_
  exact DoR.no (h3.chg0 c13) (c3.trans c13) (by rw[zfN hr (.inr (.inl hk)),h.l.at,hf];rfl) (by decide) he
 |some y=>
  obtain⟨hy,hn⟩:=zaL hf
  have hat:atC c x.t=some y.tb:=by rw[h.l.at,hf];rfl
  cases ho:zft y.tb x.o with
  |true=>
   refine za (Om U (Og (zh zbO zaD U U (zv.of_blk0 k3)) U ?_))
   refine Oc zk5 U U U (zp4 (hE.chg0 c3) h3 (hx.chg0 c3) hm hf ho) ?_
   rintro v13 w13⟨rfl,c13⟩
   refine Om U (Oe U U (Oe U U (Oe U U (Oa U (Oa U (Oa U (E4 3 5 6 7 U ?_)))))))
   have k4:=k3.chg0 c13
   have h4:=h3.chg0 c13
   have c4:=c3.trans c13
   have hb3:b3∉y.ow:=fun hb=>by
    have:=(h.l.tabs y hy).lt b3 hb
    omega
   refine zf (Sr (Om U (Og (zbs zcE U U) U (E5 3 5 6 7 18 U (zb U (zm (Sr (Om U (Om U (Od zaY U (Ol yU U (k4.cell' (i:=6) U) ?_)))))))))))
   refine Oc zBl U U U (zt6 y.q y.ow y.s y.r e.n x.w (z9 y.s x.o) _ (hE.chg0 c4) (h4.l.tabs y hy) (zN.chg0 hx.new c4) hx.rw hm.w) ?_
   rintro v25 w25⟨o,rfl,-,-,ht,c25⟩
   refine Om U (Oe U U (Oe U U (Oa U (Oa U (E2 3 9 U (Sr (Od yd U (Ol yI U ((k4.chg c25 hb3).cell' (i:=1) U) (Om U ?_)))))))))
   refine Oc zpq U U U (zfz x.t _ _) ?_
   rintro v31 w31⟨he,c31⟩
   refine Oa U (E1 4 U (zj ?_))
   refine zw U U ?_
   have h1:x.k≠1:=by omega
   have h3':x.k≠3:=by omega
   refine DoR.row h4 c4 hr (.inr (.inl hk)) hf (w2:=w25) ?_ c25 c31 ?_
   ·unfold zcd
    rw[if_neg h1,if_neg (by simp[ho]),if_neg h3']
    exact ht
   unfold zcR
   rw[if_neg h1,if_neg (by simp[ho]),if_neg h3']
   exact he
  |false=>
   refine za (Om U (Og (zh zbO zaD U U (zv.of_blk0 k3)) U ?_))
   refine Oc zk5 U U U (zpi (hE.chg0 c3) h3 (hx.chg0 c3) hm hf ho) ?_
   rintro v13 w13⟨⟨v,rfl,he,hv⟩,c13⟩
   refine Om U (Oe U U (Oe U U (Oe U U (Oa U (Oa U (Oa U (E4 3 5 6 7 U (zf (Sr (Om U (Og (zbs zcE U hv) U (E5 3 5 6 7 18 U (ze U (Sr (Om U (Oa U (E1 4 U (zj ?_))))))))))))))))))
   repeat first|refine tr ?_|refine br ?_
   refine zw U U ?_
   have h1:x.k≠1:=by omega
   exact DoR.no (h3.chg0 c13) (c3.trans c13) (by rw[zfN hr (.inr (.inl hk)),hat];show zcR y.tb x=230;unfold zcR;rw[if_neg h1,if_pos ho]) (by decide) he
theorem zrt(hE:EOk w)(h:zdo w p m L c)(hx:zbj w e x)(hm:zcY x)(hr:z6 x=true)(hk:x.k=3) :
 zS TP 65 #[Pt p,.agg (evC x e).toArray] w (DoR w p (p::m::owL L) c x):=by
 refine A2 Tryz.func65 U U ?_
 refine Sr ?_
 refine Ob U U ?_
 intro b3 w3 e3 n3 c3 k3
 refine Oa U (E2 0 3 U ?_)
 have k3:zO w3 b3 39 (evC x e):=k3
 have h3:=h.chg0 c3
 refine zf ?_
 cases hf:zan L x.t with
 |none=>
  refine za (Om U (Og (zh zbO zaD U U (zv.of_blk0 k3)) U ?_))
  refine Oc zk5 U U U (zqr h3 hf) ?_
  rintro v13 w13⟨⟨v,rfl,he,hv⟩,c13⟩
  refine Om U (Oe U U (Oe U U (Oe U U (Oa U (Oa U (Oa U (E4 3 5 6 7 U (zf (Sr (Om U (Og (zbs zcE U hv) U (E5 3 5 6 7 18 U (ze U (Sr (Om U (Oa U (E1 4 U (zj ?_))))))))))))))))))
  repeat first|refine tr ?_|refine br ?_
  refine zw U U ?_
  exact DoR.no (h3.chg0 c13) (c3.trans c13) (by rw[zfN hr (.inr (.inr hk)),h.l.at,hf];rfl) (by decide) he
 |some y=>
  obtain⟨hy,hn⟩:=zaL hf
  have hat:atC c x.t=some y.tb:=by rw[h.l.at,hf];rfl
  cases ho:zft y.tb x.o with
  |true=>
   refine za (Om U (Og (zh zbO zaD U U (zv.of_blk0 k3)) U ?_))
   refine Oc zk5 U U U (zp4 (hE.chg0 c3) h3 (hx.chg0 c3) hm hf ho) ?_
   rintro v13 w13⟨rfl,c13⟩
   refine Om U (Oe U U (Oe U U (Oe U U (Oa U (Oa U (Oa U (E4 3 5 6 7 U ?_)))))))
   have k4:=k3.chg0 c13
   have h4:=h3.chg0 c13
   have c4:=c3.trans c13
   have hb3:b3∉y.ow:=fun hb=>by
    have:=(h.l.tabs y hy).lt b3 hb
    omega
   refine zf (Sr (Om U (Og (zbs zcE U U) U (E5 3 5 6 7 18 U (zb U (zm (Sr (Om U (Om U ?_)))))))))
   refine Oc zzZ U U U (zsa y.q y.ow y.s y.r (z9 y.s x.o) _ (h4.l.tabs y hy)) ?_
   rintro v23 w23⟨o,rfl,-,-,ht,c23⟩
   refine Om U (Oe U U (Oe U U (Oa U (Oa U (E2 3 9 U (Sr (Od yd U (Ol yI U ((k4.chg c23 hb3).cell' (i:=1) U) (Om U ?_)))))))))
   refine Oc zpq U U U (zfz x.t _ _) ?_
   rintro v29 w29⟨he,c29⟩
   refine Oa U (E1 4 U (zj ?_))
   refine zw U U ?_
   have h1:x.k≠1:=by omega
   refine DoR.row h4 c4 hr (.inr (.inr hk)) hf (w2:=w23) ?_ c23 c29 ?_
   ·unfold zcd
    rw[if_neg h1,if_neg (by simp[ho]),if_pos hk]
    exact ht
   unfold zcR
   rw[if_neg h1,if_neg (by simp[ho]),if_pos hk]
   have hg:zc7 y.s y.r (z9 y.s x.o)=some x.o:=by
    have:(decide (zaf y.s x.o=0)&&decide (zc7 y.s y.r (z9 y.s x.o)=some x.o))=true:=ho
    simp only[Bool.and_eq_true,decide_eq_true_eq]at this
    exact this.2
   unfold zyl at he
   rw[hg]at he
   exact he
  |false=>
   refine za (Om U (Og (zh zbO zaD U U (zv.of_blk0 k3)) U ?_))
   refine Oc zk5 U U U (zpi (hE.chg0 c3) h3 (hx.chg0 c3) hm hf ho) ?_
   rintro v13 w13⟨⟨v,rfl,he,hv⟩,c13⟩
   refine Om U (Oe U U (Oe U U (Oe U U (Oa U (Oa U (Oa U (E4 3 5 6 7 U (zf (Sr (Om U (Og (zbs zcE U hv) U (E5 3 5 6 7 18 U (ze U (Sr (Om U (Oa U (E1 4 U (zj ?_))))))))))))))))))
   repeat first|refine tr ?_|refine br ?_
   refine zw U U ?_
   have h1:x.k≠1:=by omega
   exact DoR.no (h3.chg0 c13) (c3.trans c13) (by rw[zfN hr (.inr (.inr hk)),hat];show zcR y.tb x=230;unfold zcR;rw[if_neg h1,if_pos ho]) (by decide) he
end
end Go.Wk
